import Derived.Test.YtepfknnffooaiaaDkR6

namespace Go.Proofs.Ytepfknnffooaiaa
open Go.Av
set_option maxRecDepth 100000
set_option maxHeartbeats 1000000
set_option linter.unusedSimpArgs false
set_option linter.unusedVariables false
attribute [local push_cast] stepE callR resE aeff aev ofC ofC1 put_at Av.put_none inTmps List.getD_cons_zero List.getD_cons_succ AV.boxable if_true if_false AV.cells aload place app_cons app_nil upd_same Av.part abin aconv aindexAddr fillA splice_one abuiltin alen amax amin aun aindex Option.map_some Option.isSome_some List.map_cons List.map_nil List.nil_append List.append_nil List.cons_append Nat.le_refl Nat.zero_add Nat.add_zero List.length_cons List.length_nil List.drop_succ_cons List.drop_zero List.take_succ_cons List.take_zero beq_self_eq_true bne_self_eq_false Bool.not_true Bool.not_false List.set_cons_zero List.set_cons_succ Bool.false_eq_true IntWalk.i64_in decide_true decide_false Int.toNat_zero and_self and_true true_and List.getElem?_cons_zero List.getElem?_cons_succ aappend aapp view Bool.and_true Bool.true_and Nat.mul_one Option.map_none aslice asliceB nilOp Int.toNat_natCast und_30 agT_3 szT_3 kiT_3 agT_4 szT_4 kiT_4 agT_5 szT_5 kiT_5 agT_25 szT_25 kiT_25 agT_28 szT_28 kiT_28 agT_22 szT_22 kiT_22 agT_23 szT_23 kiT_23 agT_30 szT_30 kiT_30 agT_37 szT_37 kiT_37 agT_38 szT_38 kiT_38 agT_52 szT_52 kiT_52 agT_53 szT_53 kiT_53 agT_24 szT_24 kiT_24 agT_54 szT_54 kiT_54 agT_47 szT_47 kiT_47 slT_22 slT_23 slT_30 slT_37 slT_38 slT_52 slT_53 zeT_3 zeT_4 zeT_5 zeT_30 flT_56_0 flT_56_1 flT_56_2 flT_56_3 flT_56_4 agT_56 szT_56 buT_56 zeT_56 flT_58_0 flT_58_1 agT_58 szT_58 buT_58 zeT_58 flT_62_0 flT_62_1 agT_62 szT_62 buT_62 zeT_62 flT_65_0 flT_65_1 flT_65_2 agT_65 szT_65 buT_65 zeT_65 flT_42_0 flT_42_1 flT_42_2 flT_42_3 flT_42_4 flT_42_5 agT_42 szT_42 buT_42 zeT_42 flT_68_0 flT_68_1 flT_68_2 flT_68_3 flT_68_4 flT_68_5 flT_68_6 agT_68 szT_68 buT_68 zeT_68 ptT_24 ptT_54 ptT_47 und_30 agT_66 szT_66 kiT_66 slT_66 flT_73_0 flT_73_1 agT_73 szT_73 buT_73 zeT_73 

/-! ### the page's disk and the program's tell the same -/
def secs (S : List (List UInt8)) (T : List Bool) : List Sec := List.zipWith (fun b t => if t then none else some b) S T
theorem secs_len {S : List (List UInt8)} {T : List Bool} (h : T.length = S.length) : (secs S T).length = S.length := by simp [secs, h]
theorem secs_get {S : List (List UInt8)} {T : List Bool} {i : Nat} (h1 : i < S.length) (h2 : i < T.length) : (secs S T)[i]? = some (if T[i] then none else some S[i]) := by
  simp [secs, List.getElem?_zipWith, h1, h2]
theorem secs_set : ∀ (S : List (List UInt8)) (T : List Bool) (i : Nat) (b : List UInt8), secs (S.set i b) (T.set i false) = (secs S T).set i (some b)
  | [], _, _, _ => by simp [secs]
  | _ :: _, [], _, _ => by simp [secs]
  | s :: S, t :: T, 0, b => by simp [secs]
  | s :: S, t :: T, i + 1, b => by
    have := secs_set S T i b
    simp only [secs, List.set_cons_succ, List.zipWith_cons_cons] at this ⊢
    rw [this]
theorem secs_tear : ∀ (S : List (List UInt8)) (T : List Bool) (i : Nat), secs S (T.set i true) = (secs S T).set i none
  | [], _, _ => by simp [secs]
  | _ :: _, [], _ => by simp [secs]
  | s :: S, t :: T, 0 => by simp [secs]
  | s :: S, t :: T, i + 1 => by
    have := secs_tear S T i
    simp only [secs, List.set_cons_succ, List.zipWith_cons_cons] at this ⊢
    rw [this]
theorem crash_secs {W : List (Nat × List UInt8)} {keep : List Bool} {torn : Int} {S : List (List UInt8)} {T : List Bool} : ∀ k, crashN W keep torn (secs S T) k = secs (crashR W keep torn (S, T) k).1 (crashR W keep torn (S, T) k).2
  | 0 => rfl
  | k + 1 => by
    simp only [crashN, crashR]
    cases hk : W[k]? with
    | none => exact crash_secs k
    | some p =>
      simp only
      rw [crash_secs k]
      unfold crash1 crashR1
      by_cases h1 : (k : Int) = torn
      · rw [if_pos h1, if_pos h1, secs_tear]
      · rw [if_neg h1, if_neg h1]
        by_cases h2 : keep[k]? = some true
        · rw [if_pos h2, if_pos h2, secs_set]
        · rw [if_neg h2, if_neg h2]
theorem sync_secs {W : List (Nat × List UInt8)} {S : List (List UInt8)} {T : List Bool} : ∀ k, syncN W (secs S T) k = secs (syncR W (S, T) k).1 (syncR W (S, T) k).2
  | 0 => rfl
  | k + 1 => by
    simp only [syncN, syncR]
    cases hk : W[k]? with
    | none => exact sync_secs k
    | some p =>
      simp only
      rw [sync_secs k, secs_set]
theorem sync_get {W : List (Nat × List UInt8)} {s : List Sec} {i : Nat} (hi : i < s.length) : ∀ k, (syncN W s k)[i]? = match lastK W i k with | some b => some (some b) | none => s[i]?
  | 0 => rfl
  | k + 1 => by
    simp only [syncN, lastK]
    cases hk : W[k]? with
    | none => exact sync_get hi k
    | some p =>
      simp only
      by_cases hp : p.1 = i
      · rw [if_pos (by omega), hp, List.getElem?_set_self (by rw [syncN_len]; exact hi)]
      · rw [if_neg (by omega), List.getElem?_set_ne hp]
        exact sync_get hi k
structure Same (w : DW) (r : RW) : Prop where
  len : r.T.length = r.S.length
  safe : w.safe = secs r.S r.T
  now : w.now = syncN w.pend w.safe w.pend.length
  pend : w.pend = r.W
  off : w.off = r.down
  trip : (w.trip = none ∧ r.armed = 0) ∨ ∃ z, w.trip = some (r.armed, z, r.keep, r.tear) ∧ 1 ≤ r.armed
variable {w : DW} {r : RW}
theorem Same.slen (H : Same w r) : w.safe.length = r.S.length := by rw [H.safe, secs_len H.len]
theorem Same.new (N n jS jT : Nat) : Same (newW N n) (newR N jS jT) :=
  ⟨by simp [newR], by simp [newW, newR, secs, List.zipWith_replicate], rfl, rfl, rfl, .inl ⟨rfl, rfl⟩⟩
theorem Same.crash (H : Same w r) (keep : List Bool) (torn : Int) (j : Nat) : Same (w.crash keep torn j) (r.crash keep torn) := by
  have hl := crashR_len (W := r.W) (keep := keep) (torn := torn) (x := (r.S, r.T)) r.W.length
  refine ⟨?_, ?_, rfl, rfl, rfl, .inl ⟨rfl, rfl⟩⟩
  · show (crashR _ _ _ _ _).2.length = (crashR _ _ _ _ _).1.length
    rw [hl.1, hl.2]; exact H.len
  · show crashN _ _ _ _ _ = secs _ _
    rw [H.pend, H.safe]
    exact crash_secs _
theorem Same.trips (H : Same w r) (n : Nat) : (w.trips n).1 = r.trips.1 ∧ Same (w.trips n).2.1 r.trips.2 := by
  unfold DW.trips RW.trips
  rcases H.trip with ⟨h1, h2⟩ | ⟨z, h1, h2⟩
  · rw [h1, h2]
    exact ⟨rfl, H⟩
  · rw [h1]
    simp only
    have p0 : 0 < r.armed := by omega
    by_cases h3 : r.armed = 1
    · have p1 : r.armed ≤ 1 := by omega
      rw [if_pos p0, if_pos h3, if_pos p1]
      exact ⟨rfl, H.crash _ _ _⟩
    · have p1 : ¬ r.armed ≤ 1 := by omega
      rw [if_pos p0, if_neg h3, if_neg p1]
      exact ⟨rfl, H.len, H.safe, H.now, H.pend, H.off, .inr ⟨z, rfl, by show 1 ≤ r.armed - 1; omega⟩⟩
theorem Same.synced (H : Same w r) : Same w.synced r.synced := by
  have hl := syncR_len (W := r.W) (x := (r.S, r.T)) r.W.length
  refine ⟨?_, ?_, ?_, rfl, H.off, H.trip⟩
  · show (syncR _ _ _).2.length = (syncR _ _ _).1.length
    rw [hl.1, hl.2]; exact H.len
  · show syncN _ _ _ = secs _ _
    rw [H.pend, H.safe]
    exact sync_secs _
  · show w.now = syncN _ _ _
    exact H.now
theorem Same.sync (H : Same w r) (n : Nat) : (w.sync n).1 = r.sync.1 ∧ Same (w.sync n).2.1 r.sync.2 := by
  obtain ⟨h1, h2⟩ := H.trips n
  unfold DW.sync RW.sync
  rw [H.off, h1]
  split
  · exact ⟨rfl, H⟩
  · split
    · exact ⟨rfl, h2⟩
    · exact ⟨rfl, h2.synced⟩
theorem Same.wrote (H : Same w r) (j j' i : Nat) (b : List UInt8) : Same (w.wrote j i b) (r.wrote j' i b) := by
  refine ⟨H.len, H.safe, ?_, ?_, H.off, H.trip⟩
  · show w.now.set i (some b) = syncN (w.pend ++ [(i, b)]) w.safe (w.pend ++ [(i, b)]).length
    rw [sync_step, ← H.now]
  · show w.pend ++ _ = r.W ++ _
    rw [H.pend]
theorem Same.write (H : Same w r) (n n' : Nat) (i : Int) (b : List UInt8) : (w.write n i b).1 = (r.write n' i b).1 ∧ Same (w.write n i b).2.1 (r.write n' i b).2.1 := by
  obtain ⟨h1, h2⟩ := (H.wrote (n + 1) (n' + 1) i.toNat b).trips (n + 2)
  unfold DW.write RW.write wrongE
  rw [H.off, H.slen]
  by_cases hd : r.down = true
  · rw [if_pos hd]
    rw [hd]
    exact ⟨rfl, H⟩
  · rw [if_neg hd]
    have hd : r.down = false := by simpa using hd
    rw [hd]
    simp only [Bool.false_eq_true, if_false]
    by_cases hi : i < 0 ∨ i ≥ r.S.length
    · rw [if_pos hi, if_pos hi, if_pos (by decide)]
      exact ⟨rfl, H⟩
    · rw [if_neg hi, if_neg hi, if_neg (by decide)]
      by_cases hb : b.length ≠ 64
      · rw [if_pos hb, if_pos hb]
        exact ⟨rfl, H⟩
      · rw [if_neg hb, if_neg hb, h1]
        exact ⟨rfl, h2⟩
theorem Same.arm (H : Same w r) (n : Nat) (k : Int) (z : Bool) (keep : List Bool) (torn : Int) : Same (w.arm n k z keep torn).1 (r.arm k keep torn) := by
  unfold DW.arm RW.arm
  split
  · refine ⟨H.len, H.safe, H.now, H.pend, H.off, .inr ⟨z, ?_, ?_⟩⟩
    · show some (k, z, keep, torn) = some ((if k < 0 then 0 else k), z, keep, torn)
      rw [if_neg (by omega)]
    · show 1 ≤ (if k < 0 then 0 else k)
      rw [if_neg (by omega)]; omega
  · refine ⟨H.len, H.safe, H.now, H.pend, H.off, .inl ⟨rfl, ?_⟩⟩
    show (if k < 0 then 0 else k) = 0
    split <;> omega
theorem Same.start (H : Same w r) : Same w.start { r with down := false } := ⟨H.len, H.safe, H.now, H.pend, rfl, H.trip⟩
theorem Same.read (H : Same w r) (i : Int) : w.read i = r.read i := by
  unfold DW.read RW.read wrongE
  rw [H.off, H.slen]
  by_cases hd : r.down = true
  · rw [if_pos hd, hd]; rfl
  · rw [if_neg hd]
    have hd : r.down = false := by simpa using hd
    rw [hd]
    simp only [Bool.false_eq_true, if_false]
    by_cases hi : i < 0 ∨ i ≥ r.S.length
    · rw [if_pos hi, if_pos hi, if_pos (by decide)]
    · rw [if_neg hi, if_neg hi, if_neg (by decide)]
      obtain ⟨k, rfl⟩ : ∃ k : Nat, i = (k : Int) := ⟨i.toNat, by omega⟩
      have hk : k < r.S.length := by omega
      have hkT : k < r.T.length := by rw [H.len]; exact hk
      rw [Int.toNat_natCast, H.now, sync_get (by rw [H.slen]; exact hk), ← H.pend]
      cases lastK w.pend (k : Int) w.pend.length with
      | some b => rfl
      | none =>
        simp only
        rw [H.safe, secs_get hk hkT, List.getElem?_eq_getElem hkT, List.getElem?_eq_getElem hk]
        cases r.T[k] <;> rfl
theorem read_shape (hw : DOk w) (i : Int) : ∃ z b, (w.read i).1 = .ro z (cellsB b) b.length ∧ b.length ≤ 64 ∧ (w.read i).2 = (w.read i).2 := by
  unfold DW.read
  split
  · exact ⟨true, [], rfl, by decide, rfl⟩
  · split
    · rename_i b hb
      exact ⟨false, b, rfl, by rw [hw.s2 b (List.mem_of_getElem? hb)]; decide, rfl⟩
    · exact ⟨true, [], rfl, by decide, rfl⟩

/-! ### both in a law -/
structure Mem (h0 : Heap) (n0 : Nat) (g : Heap) (m d rd : Nat) (w : DW) (r : RW) : Prop where
  A : At h0 n0 g m d w
  ok : ROk r
  F : RFacts g rd r
  lo : ∀ j, j ∈ (r.cont rd).keys → n0 ≤ j ∧ j < m
  dis : ∀ j, j ∈ (w.cont d).keys → j ∉ (r.cont rd).keys
structure TurnR (rd : Nat) (r : RW) (m : Nat) (r' : RW) (m' : Nat) : Prop where
  ok : ROk r'
  le : m ≤ m'
  key : ∀ j, j ∈ (r'.cont rd).keys → j ∈ (r.cont rd).keys ∨ (m ≤ j ∧ j < m')
  nd : (r'.cont rd).keys.Nodup
variable {h0 g : Heap} {n0 m d rd m' : Nat} {w' : DW} {r' : RW}
theorem Mem.turnW (M : Mem h0 n0 g m d rd w r) (T : Turn d w m w' m') : Mem h0 n0 (app (swap (w.cont d) (w'.cont d)) g) m' d rd w' r := by
  have hd : ∀ j, j ∈ (w'.cont d).keys → j ∉ (r.cont rd).keys := fun j hj hr => by
    rcases T.key j hj with h | h
    · exact M.dis j h hr
    · have := M.lo j hr; omega
  refine ⟨M.A.turn T, M.ok, ?_, fun j hj => ?_, hd⟩
  · refine RFacts.of (M.F.has.keep fun j hj => ?_)
    exact swap_off _ (fun h => M.dis j h hj) (fun h => hd j h hj)
  · have := M.lo j hj; have := T.le; omega
theorem Mem.turnR (M : Mem h0 n0 g m d rd w r) (T : TurnR rd r m r' m') : Mem h0 n0 (app (swap (r.cont rd) (r'.cont rd)) g) m' d rd w r' := by
  have hd : ∀ j, j ∈ (w.cont d).keys → j ∉ (r'.cont rd).keys := fun j hj hr => by
    rcases T.key j hr with h | h
    · exact M.dis j hj h
    · have := M.A.lo j hj; omega
  have hlo : ∀ j, j ∈ (r'.cont rd).keys → n0 ≤ j ∧ j < m' := fun j hj => by
    have := T.le
    rcases T.key j hj with h | h
    · have := M.lo j h; omega
    · have := M.A.le; omega
  refine ⟨⟨M.A.ok, ?_, fun j hj => ?_, fun x r0 hx hr => ?_, Nat.le_trans M.A.le T.le⟩, T.ok, RFacts.of (Has.swap _ T.nd), hlo, hd⟩
  · refine DFacts.of (M.A.F.has.keep fun j hj => ?_)
    exact swap_off _ (fun h => M.dis j hj h) (fun h => hd j hj h)
  · have := M.A.lo j hj; have := T.le; omega
  · rw [swap_off _ (fun hj => by have := M.lo x hj; omega) (fun hj => by have := hlo x hj; omega)]
    exact M.A.fr x r0 hx hr
/-- Rows elsewhere come, or go. -/
theorem Mem.ext {g' : Heap} (M : Mem h0 n0 g m d rd w r) (hm : m ≤ m') (hg : ∀ x, x ∈ (w.cont d).keys ∨ x ∈ (r.cont rd).keys → g' x = g x) (hf : ∀ x r0, x < n0 → h0 x = some r0 → g' x = some r0) : Mem h0 n0 g' m' d rd w r :=
  ⟨⟨M.A.ok, DFacts.of (M.A.F.has.keep fun j hj => hg j (.inl hj)), fun j hj => by have := M.A.lo j hj; omega, hf, Nat.le_trans M.A.le hm⟩, M.ok, RFacts.of (M.F.has.keep fun j hj => hg j (.inr hj)), fun j hj => by have := M.lo j hj; omega, M.dis⟩
theorem Mem.new (M : Mem h0 n0 g m d rd w r) (x : Option Row) : Mem h0 n0 (upd g m x) (m + 1) d rd w r := by
  have hle := M.A.le
  refine M.ext (Nat.le_succ _) (fun j hj => upd_ne _ _ ?_) (keepU M.A.le M.A.fr)
  rcases hj with hj | hj
  · have := M.A.lo j hj; omega
  · have := M.lo j hj; omega
theorem Mem.hlt (M : Mem h0 n0 g m d rd w r) : ∀ j, j ∈ (r.cont rd).keys → j < m := fun j hj => (M.lo j hj).2
theorem Mem.tSync (M : Mem h0 n0 g m d rd w r) : TurnR rd r m r.sync.2 m := by
  obtain ⟨k1, k2, k3⟩ := tripsR_fact M.F
  refine ⟨M.ok.sync, Nat.le_refl _, ?_, ?_⟩
  all_goals unfold RW.sync
  all_goals split
  · exact fun j hj => .inl hj
  · split
    · exact fun j hj => .inl (k1 j hj)
    · exact fun j hj => .inl (k1 j (keysSynced hj))
  · exact M.F.has.2
  · split
    · exact k2
    · exact syncedR_nodup (RFacts.of (Has.swap (L := r.cont rd) g k2))
theorem Mem.tCrash (M : Mem h0 n0 g m d rd w r) (keep : List Bool) (torn : Int) : TurnR rd r m (r.crash keep torn) m := ⟨M.ok.crash _ _, Nat.le_refl _, fun j hj => .inl (keysCrash hj), crashR_nodup M.F⟩
theorem Mem.tArm (M : Mem h0 n0 g m d rd w r) {k : Int} (hk : k ≤ 9223372036854775807) {keep : List Bool} (hl : keep.length ≤ 1000000) (torn : Int) : TurnR rd r m (r.arm k keep torn) m := ⟨M.ok.arm hk hl torn, Nat.le_refl _, fun j hj => .inl (RW.keys_eq (r' := r.arm k keep torn) rfl rfl rfl rfl hj), M.F.has.2⟩
theorem wroteR_nodup (F : RFacts g rd r) {j i : Nat} {b : List UInt8} (hj : ∀ k, k ∈ (r.cont rd).keys → k < j) : RFacts (upd (upd g rd (some (.cells (r.wrote j i b).row))) j (some (.cells (wrC (r.W ++ [(i, b)]))))) rd (r.wrote j i b) := by
  have h1 := hj rd (RW.keys_iff.2 (.inl rfl))
  have h2 := hj r.jS (RW.keys_iff.2 (.inr (.inl rfl)))
  have h3 := hj r.jT (RW.keys_iff.2 (.inr (.inr (.inl rfl))))
  exact wroteR_facts F hj (by rw [upd_ne _ _ (by omega), upd_same]) (upd_same ..) (by rw [upd_ne _ _ (by omega), upd_ne _ _ (Ne.symm F.dS)]) (by rw [upd_ne _ _ (by omega), upd_ne _ _ (Ne.symm F.dT)])
theorem Mem.tWrite (M : Mem h0 n0 g m d rd w r) (hw : r.W.length < 1000000) (i : Int) (b : List UInt8) : TurnR rd r m (r.write m i b).2.1 (r.write m i b).2.2 := by
  have F2 := wroteR_nodup M.F (j := m + 1) (i := i.toNat) (b := b) (fun k hk => by have := M.hlt k hk; omega)
  obtain ⟨k1, k2, _⟩ := tripsR_fact F2
  refine ⟨M.ok.write m i b hw, ?_, ?_, ?_⟩
  all_goals unfold RW.write
  all_goals split
  · exact Nat.le_refl _
  · split
    · exact Nat.le_refl _
    · split
      · exact Nat.le_refl _
      · show m ≤ m + 2; omega
  · exact fun j hj => .inl hj
  · split
    · exact fun j hj => .inl hj
    · split
      · exact fun j hj => .inl hj
      · intro j hj
        rcases wroteR_keys (k1 j hj) with h | h
        · exact .inl h
        · exact .inr ⟨by omega, by show j < m + 2; omega⟩
  · exact M.F.has.2
  · split
    · exact M.F.has.2
    · split
      · exact M.F.has.2
      · exact k2
/-- A row of one's own beside both. -/
structure Own (g : Heap) (m jk d rd : Nat) (w : DW) (r : RW) (cs : List AV) : Prop where
  row : g jk = some (.cells cs)
  lt : jk < m
  ow : jk ∉ (w.cont d).keys
  orr : jk ∉ (r.cont rd).keys
variable {jk : Nat} {cs : List AV}
theorem Own.turnW (X : Own g m jk d rd w r cs) (T : Turn d w m w' m') : Own (app (swap (w.cont d) (w'.cont d)) g) m' jk d rd w' r cs := by
  have h1 : jk ∉ (w'.cont d).keys := fun hj => by
    rcases T.key jk hj with h | h
    · exact X.ow h
    · have := X.lt; omega
  exact ⟨by rw [swap_off _ X.ow h1]; exact X.row, Nat.lt_of_lt_of_le X.lt T.le, h1, X.orr⟩
theorem Own.turnR (X : Own g m jk d rd w r cs) (T : TurnR rd r m r' m') : Own (app (swap (r.cont rd) (r'.cont rd)) g) m' jk d rd w r' cs := by
  have h1 : jk ∉ (r'.cont rd).keys := fun hj => by
    rcases T.key jk hj with h | h
    · exact X.orr h
    · have := X.lt; omega
  exact ⟨by rw [swap_off _ X.orr h1]; exact X.row, Nat.lt_of_lt_of_le X.lt T.le, X.ow, h1⟩
theorem Own.new (M : Mem h0 n0 g m d rd w r) (cs : List AV) : Own (upd g m (some (.cells cs))) (m + 1) m d rd w r cs :=
  ⟨upd_same .., Nat.lt_succ_self _, fun hj => by have := M.A.lo m hj; omega, fun hj => by have := M.lo m hj; omega⟩
theorem Own.more (X : Own g m jk d rd w r cs) (x : Option Row) : Own (upd g m x) (m + 1) jk d rd w r cs :=
  ⟨by rw [upd_ne _ _ (by have := X.lt; omega)]; exact X.row, by have := X.lt; omega, X.ow, X.orr⟩
/-- It may be written. -/
theorem Mem.own (M : Mem h0 n0 g m d rd w r) (X : Own g m jk d rd w r cs) (hn : n0 ≤ jk) (x : Option Row) : Mem h0 n0 (upd g jk x) m d rd w r := by
  refine M.ext (Nat.le_refl _) (fun j hj => upd_ne _ _ ?_) (keepU hn M.A.fr)
  rcases hj with hj | hj
  · exact fun e => X.ow (e ▸ hj)
  · exact fun e => X.orr (e ▸ hj)

end Go.Proofs.Ytepfknnffooaiaa
