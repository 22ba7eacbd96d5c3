import Derived.Test.YtepfknnffooaiaaDoorDoC

namespace Go.Proofs.YtepfknnffooaiaaDoor
open Go.Av
set_option maxRecDepth 100000
set_option maxHeartbeats 1000000
set_option linter.unusedSimpArgs false
set_option linter.unusedVariables false
attribute [local push_cast] stepE callR resE aeff aev ofC ofC1 put_at Av.put_none inTmps List.getD_cons_zero List.getD_cons_succ AV.boxable if_true if_false AV.cells aload place app_cons app_nil upd_same Av.part abin aconv aindexAddr fillA splice_one abuiltin alen amax amin aun aindex Option.map_some Option.isSome_some List.map_cons List.map_nil List.nil_append List.append_nil List.cons_append Nat.le_refl Nat.zero_add Nat.add_zero List.length_cons List.length_nil List.drop_succ_cons List.drop_zero List.take_succ_cons List.take_zero beq_self_eq_true bne_self_eq_false Bool.not_true Bool.not_false List.set_cons_zero List.set_cons_succ Bool.false_eq_true IntWalk.i64_in decide_true decide_false Int.toNat_zero and_self and_true true_and List.getElem?_cons_zero List.getElem?_cons_succ aappend aapp view Bool.and_true Bool.true_and Nat.mul_one Option.map_none aslice asliceB nilOp Int.toNat_natCast und_30 agT_3 szT_3 kiT_3 agT_5 szT_5 kiT_5 agT_24 szT_24 kiT_24 agT_62 szT_62 kiT_62 agT_4 szT_4 kiT_4 agT_9 szT_9 kiT_9 agT_44 szT_44 kiT_44 agT_45 szT_45 kiT_45 agT_30 szT_30 kiT_30 agT_22 szT_22 kiT_22 agT_41 szT_41 kiT_41 agT_51 szT_51 kiT_51 agT_52 szT_52 kiT_52 agT_23 szT_23 kiT_23 agT_53 szT_53 kiT_53 agT_27 szT_27 kiT_27 agT_89 szT_89 kiT_89 agT_66 szT_66 kiT_66 agT_20 szT_20 kiT_20 slT_45 slT_44 slT_30 slT_22 slT_41 slT_51 slT_52 zeT_3 zeT_4 zeT_5 zeT_30 zeT_24 flT_55_0 flT_55_1 flT_55_2 flT_55_3 flT_55_4 agT_55 szT_55 buT_55 zeT_55 flT_57_0 flT_57_1 agT_57 szT_57 buT_57 zeT_57 flT_74_0 flT_74_1 agT_74 szT_74 buT_74 zeT_74 flT_77_0 flT_77_1 flT_77_2 agT_77 szT_77 buT_77 zeT_77 flT_47_0 flT_47_1 flT_47_2 flT_47_3 flT_47_4 flT_47_5 agT_47 szT_47 buT_47 zeT_47 flT_61_0 flT_61_1 agT_61 szT_61 buT_61 zeT_61 flT_64_0 flT_64_1 agT_64 szT_64 buT_64 zeT_64 flT_91_0 flT_91_1 agT_91 szT_91 buT_91 zeT_91 ptT_23 ptT_53 ptT_27 ptT_89 und_30 

theorem trips_fact {h : Heap} {d n : Nat} {w : DW} (F : DFacts h d w) (hlt : ∀ j, j ∈ (w.cont d).keys → j < n) :
    n ≤ (w.trips n).2.2 ∧ (∀ j, j ∈ ((w.trips n).2.1.cont d).keys → j ∈ (w.cont d).keys ∨ (n ≤ j ∧ j < (w.trips n).2.2)) ∧ ((w.trips n).2.1.cont d).keys.Nodup ∧
      ((w.trips n).1 = false → (w.trips n).2.1 = { w with trip := (w.trips n).2.1.trip } ∧ (w.trips n).2.2 = n) := by
  have hdn := hlt d (DW.keys_iff.2 (.inl rfl))
  have hsn := hlt w.js (DW.keys_iff.2 (.inr (.inl rfl)))
  unfold DW.trips
  split
  · exact ⟨Nat.le_refl _, fun j hj => .inl hj, F.has.2, fun _ => ⟨rfl, rfl⟩⟩
  · rename_i x hx
    split
    · refine ⟨by show n ≤ n + _ + 1; omega, fun j hj => ?_, crash_nodup F (by omega) (by omega), fun hc => (nomatch hc)⟩
      rw [crash_keys] at hj
      rcases hj with rfl | rfl | rfl
      · exact .inl (DW.keys_iff.2 (.inl rfl))
      · exact .inl (DW.keys_iff.2 (.inr (.inl rfl)))
      · exact .inr ⟨by omega, Nat.lt_succ_self _⟩
    · refine ⟨Nat.le_refl _, fun j hj => .inl (keys_setTrip hx hj), ?_, fun _ => ⟨rfl, rfl⟩⟩
      have e : (({ w with trip := some (x.1 - 1, x.2) } : DW).cont d).keys = (w.cont d).keys := by simp [DW.cont, Lst.keys, DW.pL, DW.tL, hx]
      show (({ w with trip := some (x.1 - 1, x.2) } : DW).cont d).keys.Nodup
      rw [e]; exact F.has.2
/-- What stands at the end of a body is there behind the call. -/
theorem Has.dis {h : Heap} {d : Nat} {w w' : DW} (hn : (w'.cont d).keys.Nodup) : DFacts (app (swap (w.cont d) (w'.cont d)) h) d w' := DFacts.of (Has.swap h hn)

/-! ### Sync -/
def syncN (pend : List (Nat × List UInt8)) (s : List Sec) : Nat → List Sec
  | 0 => s
  | k + 1 => match pend[k]? with
    | some p => (syncN pend s k).set p.1 (some p.2)
    | none => syncN pend s k
theorem syncN_len {pend : List (Nat × List UInt8)} {s : List Sec} : ∀ k, (syncN pend s k).length = s.length
  | 0 => rfl
  | k + 1 => by
    simp only [syncN]
    split
    · rw [List.length_set, syncN_len k]
    · exact syncN_len k
theorem syncN_at {pend : List (Nat × List UInt8)} {s : List Sec} {k : Nat} (hk : k < pend.length) : syncN pend s (k + 1) = (syncN pend s k).set pend[k].1 (some pend[k].2) := by
  simp only [syncN, List.getElem?_eq_getElem hk]
theorem syncN_mem {pend : List (Nat × List UInt8)} {s : List Sec} {b : List UInt8} : ∀ k, some b ∈ syncN pend s k → some b ∈ s ∨ ∃ p, p ∈ pend ∧ p.2 = b
  | 0, h => .inl h
  | k + 1, h => by
    simp only [syncN] at h
    split at h
    · rename_i p hp
      rcases List.mem_or_eq_of_mem_set h with h | h
      · exact syncN_mem k h
      · injection h with h; exact .inr ⟨p, List.mem_of_getElem? hp, h.symm⟩
    · exact syncN_mem k h
def DW.synced (w : DW) : DW := { w with safe := syncN w.pend w.safe w.pend.length, pend := [] }
def DW.sync (w : DW) (n : Nat) : Int × DW × Nat := if w.off = true then (14, w, n) else if (w.trips n).1 = true then (14, (w.trips n).2.1, (w.trips n).2.2) else (0, (w.trips n).2.1.synced, n)
theorem DOk.synced {w : DW} (hw : DOk w) : DOk w.synced :=
  ⟨by show w.now.length = (syncN _ _ _).length; rw [syncN_len]; exact hw.len, by show (syncN _ _ _).length ≤ 256; rw [syncN_len]; exact hw.n0, fun p hp => (nomatch hp),
   fun b hb => by
    rcases syncN_mem _ hb with h | ⟨p, hp, rfl⟩
    · exact hw.s1 b h
    · exact (hw.pe p hp).2, hw.s2, hw.tp⟩
theorem DOk.sync {w : DW} (hw : DOk w) (n : Nat) : DOk (w.sync n).2.1 := by
  unfold DW.sync
  split
  · exact hw
  · split
    · exact hw.trips n
    · exact (hw.trips n).synced
theorem synced_keys {d : Nat} {w : DW} {j : Nat} (hj : j ∈ (w.synced.cont d).keys) : j ∈ (w.cont d).keys := by
  rw [DW.keys_iff] at hj ⊢
  rcases hj with h1 | h1 | h1 | ⟨h1, _⟩ | h1
  · exact .inl h1
  · exact .inr (.inl h1)
  · exact .inr (.inr (.inl h1))
  · exact absurd rfl h1
  · exact .inr (.inr (.inr (.inr h1)))
theorem c16 {h : Heap} {d : Nat} {w : DW} (hw : DOk w) (hL : Has h (w.cont d)) (hpl : w.pend.length ≤ 1000000) :
    ∀ n, DCalls Tryd.prog 37 [.p d 0] h n (.i .i64 (w.sync n).1) (swap (w.cont d) ((w.sync n).2.1.cont d)) (w.sync n).2.2 := by
  intro n
  have hS := ok_DB
  have F := DFacts.of hL
  have hd := F.hd
  have hnn : n ≤ (w.sync n).2.2 := by
    unfold DW.sync
    split
    · exact Nat.le_refl _
    · split
      · unfold DW.trips
        split
        · exact Nat.le_refl _
        · split
          · show n ≤ n + _ + 1; omega
          · exact Nat.le_refl _
      · exact Nat.le_refl _
  rcases has_any hL n with hlt | ⟨j, r, hj, hn⟩
  case inr => exact DCalls.vac ⟨_, Tryd.func37, rfl, by decide⟩ hnn hj hn
  refine DCalls.of Tryd.func37 rfl (by decide) (Nat.le_of_ble_eq_true rfl) hnn ?_
  simp only [DW.rowD] at hd
  refine AWp.seq ?_
  (refine aw_regionL hS (by kernel_rfl) ?_; repeat (first | apply vr0u | apply vr4 | apply b_tt | apply b_ff | apply b_tf | apply b_ft | apply b_no | exact isD.mk rfl | (apply eqG; (simp only [push_cast, ↓reduceIte, Nat.reduceEqDiff, Nat.reduceAdd, Nat.reduceLeDiff, Nat.reduceLT, Int.reduceLE, Int.reduceLT, Int.reduceAdd, Int.reduceSub, Int.reduceNeg, Int.reduceBEq, Int.reduceBNe, Int.reduceEq, Int.reduceGT, Int.reduceGE, Int.reduceMul, Int.reduceToNat, Nat.reduceMul, reduceCtorEq] <;> rfl)) | exact (rfl : app (swap _ _) _ = _)))
  refine vr_nil (aw_then ?_)
  cases hoff : w.off with
  | true =>
    rw [hoff] at hd
    have ht : w.sync n = (14, w, n) := by simp only [DW.sync, hoff, if_true]
    rw [ht]
    refine AWp.seq ?_
    refine AWp.seq ?_
    (refine aw_regionL hS (by kernel_rfl) ?_; repeat (first | apply vr0u | apply vr4 | apply b_tt | apply b_ff | apply b_tf | apply b_ft | apply b_no | exact isD.mk rfl | (apply eqG; (simp only [push_cast, ↓reduceIte, Nat.reduceEqDiff, Nat.reduceAdd, Nat.reduceLeDiff, Nat.reduceLT, Int.reduceLE, Int.reduceLT, Int.reduceAdd, Int.reduceSub, Int.reduceNeg, Int.reduceBEq, Int.reduceBNe, Int.reduceEq, Int.reduceGT, Int.reduceGE, Int.reduceMul, Int.reduceToNat, Nat.reduceMul, reduceCtorEq, hd] <;> rfl)) | exact (rfl : app (swap _ _) _ = _)))
    refine vr_nil (aw_then ?_)
    refine aw_true (by (simp only [push_cast, ↓reduceIte, Nat.reduceEqDiff, Nat.reduceAdd, Nat.reduceLeDiff, Nat.reduceLT, Int.reduceLE, Int.reduceLT, Int.reduceAdd, Int.reduceSub, Int.reduceNeg, Int.reduceBEq, Int.reduceBNe, Int.reduceEq, Int.reduceGT, Int.reduceGE, Int.reduceMul, Int.reduceToNat, Nat.reduceMul, reduceCtorEq, hd] <;> rfl)) ?_
    refine AWp.seq ?_
    (refine aw_regionL hS (by kernel_rfl) ?_; repeat (first | apply vr0u | apply vr4 | apply b_tt | apply b_ff | apply b_tf | apply b_ft | apply b_no | exact isD.mk rfl | (apply eqG; (simp only [push_cast, ↓reduceIte, Nat.reduceEqDiff, Nat.reduceAdd, Nat.reduceLeDiff, Nat.reduceLT, Int.reduceLE, Int.reduceLT, Int.reduceAdd, Int.reduceSub, Int.reduceNeg, Int.reduceBEq, Int.reduceBNe, Int.reduceEq, Int.reduceGT, Int.reduceGE, Int.reduceMul, Int.reduceToNat, Nat.reduceMul, reduceCtorEq, hd] <;> rfl)) | exact (rfl : app (swap _ _) _ = _)))
    refine vr_nil (aw_then ?_)
    refine AWp.ret ?_
    exact Out.disk (w' := w) (xs := [.i .i64 14]) (.inr rfl) (by simp [Tryd.f37, resAll, resT]; (simp only [push_cast, ↓reduceIte, Nat.reduceEqDiff, Nat.reduceAdd, Nat.reduceLeDiff, Nat.reduceLT, Int.reduceLE, Int.reduceLT, Int.reduceAdd, Int.reduceSub, Int.reduceNeg, Int.reduceBEq, Int.reduceBNe, Int.reduceEq, Int.reduceGT, Int.reduceGE, Int.reduceMul, Int.reduceToNat, Nat.reduceMul, reduceCtorEq, hd] <;> rfl)) rfl (Nat.le_refl _) (Nat.le_refl _) trivial hL hlt F (fun j hj => .inl hj) keepX0
  | false =>
    rw [hoff] at hd
    obtain ⟨k1, k2, k3, k4⟩ := trips_fact F hlt
    have hw1 := hw.trips n
    obtain ⟨S2, hS2, h25⟩ : ∃ S2, SumOk Tryd.prog S2 ∧ S2 46 [.p d 0] h = .wide (fun m => (.b (w.trips m).1, swap (w.cont d) ((w.trips m).2.1.cont d), (w.trips m).2.2)) :=
      ⟨_, hS.loc (f := 46) (args := [.p d 0]) (h := h) (r := .wide _) (fun m => c25 hw hL hoff hpl m), Sums.loc_at⟩
    have hsy : w.sync n = if (w.trips n).1 = true then (14, (w.trips n).2.1, (w.trips n).2.2) else (0, (w.trips n).2.1.synced, n) := by simp only [DW.sync, hoff, Bool.false_eq_true, if_false]
    rw [hsy]
    clear hnn hsy
    generalize htr : w.trips n = tr at *
    obtain ⟨tb, w1, n1⟩ := tr
    simp only at k1 k2 k3 k4 hw1
    have F1 : DFacts (app (swap (w.cont d) (w1.cont d)) h) d w1 := Has.dis k3
    have hk1 : ∀ x r, x < n → h x = some r → x ∉ (w.cont d).keys → app (swap (w.cont d) (w1.cont d)) h x = some r := keepXs (fun j hj => .inr hj) (fun j hj => by rcases k2 j hj with h | h; exact .inr h; exact .inl h.1) keepX0
    refine AWp.seq ?_
    refine AWp.seq ?_
    refine aw_regionL hS2 (by kernel_rfl) ?_
    repeat (first | apply vr0u | apply vr4 | apply b_tt | apply b_ff | apply b_tf | apply b_ft | apply b_no | exact isD.mk rfl | (apply eqG; (simp only [push_cast, ↓reduceIte, Nat.reduceEqDiff, Nat.reduceAdd, Nat.reduceLeDiff, Nat.reduceLT, Int.reduceLE, Int.reduceLT, Int.reduceAdd, Int.reduceSub, Int.reduceNeg, Int.reduceBEq, Int.reduceBNe, Int.reduceEq, Int.reduceGT, Int.reduceGE, Int.reduceMul, Int.reduceToNat, Nat.reduceMul, reduceCtorEq, hd, h25, htr] <;> rfl)) | exact (rfl : app (swap _ _) _ = _))
    refine vr_nil (aw_then ?_)
    generalize hh1 : app (swap (w.cont d) (w1.cont d)) h = h1 at *
    have hh1' : app (swap (w.cont d) (w1.cont d)) h = h1 := hh1
    cases tb with
    | true =>
      refine aw_true (by (simp only [push_cast, ↓reduceIte, Nat.reduceEqDiff, Nat.reduceAdd, Nat.reduceLeDiff, Nat.reduceLT, Int.reduceLE, Int.reduceLT, Int.reduceAdd, Int.reduceSub, Int.reduceNeg, Int.reduceBEq, Int.reduceBNe, Int.reduceEq, Int.reduceGT, Int.reduceGE, Int.reduceMul, Int.reduceToNat, Nat.reduceMul, reduceCtorEq, hd, h25, htr] <;> rfl)) ?_
      refine AWp.seq ?_
      (refine aw_regionL hS (by kernel_rfl) ?_; repeat (first | apply vr0u | apply vr4 | apply b_tt | apply b_ff | apply b_tf | apply b_ft | apply b_no | exact isD.mk rfl | (apply eqG; (simp only [push_cast, ↓reduceIte, Nat.reduceEqDiff, Nat.reduceAdd, Nat.reduceLeDiff, Nat.reduceLT, Int.reduceLE, Int.reduceLT, Int.reduceAdd, Int.reduceSub, Int.reduceNeg, Int.reduceBEq, Int.reduceBNe, Int.reduceEq, Int.reduceGT, Int.reduceGE, Int.reduceMul, Int.reduceToNat, Nat.reduceMul, reduceCtorEq] <;> rfl)) | exact (rfl : app (swap _ _) _ = _)))
      refine vr_nil (aw_then ?_)
      refine AWp.ret ?_
      exact Out.disk (w' := w1) (xs := [.i .i64 14]) (.inr rfl) (by simp [Tryd.f37, resAll, resT]; (simp only [push_cast, ↓reduceIte, Nat.reduceEqDiff, Nat.reduceAdd, Nat.reduceLeDiff, Nat.reduceLT, Int.reduceLE, Int.reduceLT, Int.reduceAdd, Int.reduceSub, Int.reduceNeg, Int.reduceBEq, Int.reduceBNe, Int.reduceEq, Int.reduceGT, Int.reduceGE, Int.reduceMul, Int.reduceToNat, Nat.reduceMul, reduceCtorEq] <;> rfl)) rfl k1 (Nat.le_refl _) trivial hL hlt F1 k2 hk1
    | false =>
      obtain ⟨hwq, hnq⟩ := k4 rfl
      subst hnq
      refine aw_false (by (simp only [push_cast, ↓reduceIte, Nat.reduceEqDiff, Nat.reduceAdd, Nat.reduceLeDiff, Nat.reduceLT, Int.reduceLE, Int.reduceLT, Int.reduceAdd, Int.reduceSub, Int.reduceNeg, Int.reduceBEq, Int.reduceBNe, Int.reduceEq, Int.reduceGT, Int.reduceGE, Int.reduceMul, Int.reduceToNat, Nat.reduceMul, reduceCtorEq] <;> rfl)) (AWp.skip (aw_then ?_))
      simp only [Bool.false_eq_true, if_false]
      have hlt1 : ∀ j, j ∈ (w1.cont d).keys → j < n1 := fun j hj => by
        rcases k2 j hj with h | h
        · exact hlt j h
        · omega
      have hk2 : ∀ j, j ∈ (w1.cont d).keys → j ∈ (w.cont d).keys := fun j hj => by
        rcases k2 j hj with h | h
        · exact h
        · omega
      have hpl1 : w1.pend.length ≤ 1000000 := by rw [hwq]; exact hpl
      clear hwq k4 hw hd h25 hS2 k2
      have hd := F1.hd
      simp only [DW.rowD] at hd
      have hdn := hlt1 d (DW.keys_iff.2 (.inl rfl))
      have hsn := hlt1 w1.js (DW.keys_iff.2 (.inr (.inl rfl)))
      have hnn := hlt1 w1.jn (DW.keys_iff.2 (.inr (.inr (.inl rfl))))
      have e1 := F1.ds
      have e2 := F1.dn
      have e3 := F1.sn
      have hN0 := hw1.n0
      refine AWp.cut (fun t' h' n' => t' 0 = .p d 0 ∧ n1 ≤ n' ∧ h' w1.js = some (.cells (secC (syncN w1.pend w1.safe w1.pend.length))) ∧ ∀ x r, x < n1 → h1 x = some r → x ∉ [w1.js] → h' x = some r) ?_ ?_
      · by_cases hpe : w1.pend = []
        · obtain ⟨p0, _⟩ := DW.pend0 hpe
          rw [p0] at hd
          refine AWp.seq ?_
          (refine aw_regionL hS (by kernel_rfl) ?_; repeat (first | apply vr0u | apply vr4 | apply b_tt | apply b_ff | apply b_tf | apply b_ft | apply b_no | exact isD.mk rfl | (apply eqG; (simp only [push_cast, ↓reduceIte, Nat.reduceEqDiff, Nat.reduceAdd, Nat.reduceLeDiff, Nat.reduceLT, Int.reduceLE, Int.reduceLT, Int.reduceAdd, Int.reduceSub, Int.reduceNeg, Int.reduceBEq, Int.reduceBNe, Int.reduceEq, Int.reduceGT, Int.reduceGE, Int.reduceMul, Int.reduceToNat, Nat.reduceMul, reduceCtorEq, hd] <;> rfl)) | exact (rfl : app (swap _ _) _ = _)))
          refine vr_nil (aw_then ?_)
          refine AWp.block ?_
          refine AWp.loop (fun k t' h' n' => t' 0 = .p d 0 ∧ t' 17 = .i .i64 0 ∧ t' 18 = .i .i64 0 ∧ n1 ≤ n' ∧ h' = h1) 0 ?_ ?_
          · exact ⟨by (simp only [push_cast, ↓reduceIte, Nat.reduceEqDiff, Nat.reduceAdd, Nat.reduceLeDiff, Nat.reduceLT, Int.reduceLE, Int.reduceLT, Int.reduceAdd, Int.reduceSub, Int.reduceNeg, Int.reduceBEq, Int.reduceBNe, Int.reduceEq, Int.reduceGT, Int.reduceGE, Int.reduceMul, Int.reduceToNat, Nat.reduceMul, reduceCtorEq, hd] <;> rfl), by (simp only [push_cast, ↓reduceIte, Nat.reduceEqDiff, Nat.reduceAdd, Nat.reduceLeDiff, Nat.reduceLT, Int.reduceLE, Int.reduceLT, Int.reduceAdd, Int.reduceSub, Int.reduceNeg, Int.reduceBEq, Int.reduceBNe, Int.reduceEq, Int.reduceGT, Int.reduceGE, Int.reduceMul, Int.reduceToNat, Nat.reduceMul, reduceCtorEq, hd] <;> rfl), by (simp only [push_cast, ↓reduceIte, Nat.reduceEqDiff, Nat.reduceAdd, Nat.reduceLeDiff, Nat.reduceLT, Int.reduceLE, Int.reduceLT, Int.reduceAdd, Int.reduceSub, Int.reduceNeg, Int.reduceBEq, Int.reduceBNe, Int.reduceEq, Int.reduceGT, Int.reduceGE, Int.reduceMul, Int.reduceToNat, Nat.reduceMul, reduceCtorEq, hd] <;> rfl), Nat.le_refl _, rfl⟩
          · rintro m t' h' n' - ⟨h0, h16, h17, hn', rfl⟩
            refine AWp.seq ?_
            (refine aw_regionL hS (by kernel_rfl) ?_; repeat (first | apply vr0u | apply vr4 | apply b_tt | apply b_ff | apply b_tf | apply b_ft | apply b_no | exact isD.mk rfl | (apply eqG; (simp only [push_cast, ↓reduceIte, Nat.reduceEqDiff, Nat.reduceAdd, Nat.reduceLeDiff, Nat.reduceLT, Int.reduceLE, Int.reduceLT, Int.reduceAdd, Int.reduceSub, Int.reduceNeg, Int.reduceBEq, Int.reduceBNe, Int.reduceEq, Int.reduceGT, Int.reduceGE, Int.reduceMul, Int.reduceToNat, Nat.reduceMul, reduceCtorEq, h0, h16, h17] <;> rfl)) | exact (rfl : app (swap _ _) _ = _)))
            refine vr_nil (aw_then ?_)
            refine AWp.seq ?_
            refine aw_false (by (simp only [push_cast, ↓reduceIte, Nat.reduceEqDiff, Nat.reduceAdd, Nat.reduceLeDiff, Nat.reduceLT, Int.reduceLE, Int.reduceLT, Int.reduceAdd, Int.reduceSub, Int.reduceNeg, Int.reduceBEq, Int.reduceBNe, Int.reduceEq, Int.reduceGT, Int.reduceGE, Int.reduceMul, Int.reduceToNat, Nat.reduceMul, reduceCtorEq, h0, h16, h17] <;> rfl)) (AWp.exit (aw_thru (aw_thru (aw_exit (aw_then ?_)))))
            refine ⟨by (simp only [push_cast, ↓reduceIte, Nat.reduceEqDiff, Nat.reduceAdd, Nat.reduceLeDiff, Nat.reduceLT, Int.reduceLE, Int.reduceLT, Int.reduceAdd, Int.reduceSub, Int.reduceNeg, Int.reduceBEq, Int.reduceBNe, Int.reduceEq, Int.reduceGT, Int.reduceGE, Int.reduceMul, Int.reduceToNat, Nat.reduceMul, reduceCtorEq, h0, h16, h17] <;> rfl), hn', ?_, keepX0⟩
            rw [hpe]; exact F1.hs
        · obtain ⟨p0, _⟩ := DW.pend1 hpe
          obtain ⟨hjp, p1, p2, p3⟩ := F1.hp hpe
          have hpn := hlt1 w1.jp (DW.keys_iff.2 (.inr (.inr (.inr (.inl ⟨hpe, rfl⟩)))))
          rw [p0] at hd
          refine AWp.seq ?_
          (refine aw_regionL hS (by kernel_rfl) ?_; repeat (first | apply vr0u | apply vr4 | apply b_tt | apply b_ff | apply b_tf | apply b_ft | apply b_no | exact isD.mk rfl | (apply eqG; (simp only [push_cast, ↓reduceIte, Nat.reduceEqDiff, Nat.reduceAdd, Nat.reduceLeDiff, Nat.reduceLT, Int.reduceLE, Int.reduceLT, Int.reduceAdd, Int.reduceSub, Int.reduceNeg, Int.reduceBEq, Int.reduceBNe, Int.reduceEq, Int.reduceGT, Int.reduceGE, Int.reduceMul, Int.reduceToNat, Nat.reduceMul, reduceCtorEq, hd] <;> rfl)) | exact (rfl : app (swap _ _) _ = _)))
          refine vr_nil (aw_then ?_)
          refine AWp.block ?_
          refine AWp.loop (fun m t' h' n' => ∃ k : Nat, m = w1.pend.length - k ∧ k ≤ w1.pend.length ∧ t' 0 = .p d 0 ∧ t' 16 = .sl 2 w1.jp 0 w1.pend.length ∧ t' 17 = .i .i64 (w1.pend.length : Int) ∧ t' 18 = .i .i64 (k : Int) ∧ n1 ≤ n' ∧ h' w1.js = some (.cells (secC (syncN w1.pend w1.safe k))) ∧ ∀ x r, x < n1 → h1 x = some r → x ∉ [w1.js] → h' x = some r) w1.pend.length ?_ ?_
          · exact ⟨0, rfl, Nat.zero_le _, by (simp only [push_cast, ↓reduceIte, Nat.reduceEqDiff, Nat.reduceAdd, Nat.reduceLeDiff, Nat.reduceLT, Int.reduceLE, Int.reduceLT, Int.reduceAdd, Int.reduceSub, Int.reduceNeg, Int.reduceBEq, Int.reduceBNe, Int.reduceEq, Int.reduceGT, Int.reduceGE, Int.reduceMul, Int.reduceToNat, Nat.reduceMul, reduceCtorEq, hd] <;> rfl), by (simp only [push_cast, ↓reduceIte, Nat.reduceEqDiff, Nat.reduceAdd, Nat.reduceLeDiff, Nat.reduceLT, Int.reduceLE, Int.reduceLT, Int.reduceAdd, Int.reduceSub, Int.reduceNeg, Int.reduceBEq, Int.reduceBNe, Int.reduceEq, Int.reduceGT, Int.reduceGE, Int.reduceMul, Int.reduceToNat, Nat.reduceMul, reduceCtorEq, hd] <;> rfl), by (simp only [push_cast, ↓reduceIte, Nat.reduceEqDiff, Nat.reduceAdd, Nat.reduceLeDiff, Nat.reduceLT, Int.reduceLE, Int.reduceLT, Int.reduceAdd, Int.reduceSub, Int.reduceNeg, Int.reduceBEq, Int.reduceBNe, Int.reduceEq, Int.reduceGT, Int.reduceGE, Int.reduceMul, Int.reduceToNat, Nat.reduceMul, reduceCtorEq, hd] <;> rfl), by (simp only [push_cast, ↓reduceIte, Nat.reduceEqDiff, Nat.reduceAdd, Nat.reduceLeDiff, Nat.reduceLT, Int.reduceLE, Int.reduceLT, Int.reduceAdd, Int.reduceSub, Int.reduceNeg, Int.reduceBEq, Int.reduceBNe, Int.reduceEq, Int.reduceGT, Int.reduceGE, Int.reduceMul, Int.reduceToNat, Nat.reduceMul, reduceCtorEq, hd] <;> rfl), Nat.le_refl _, F1.hs, keepX0⟩
          · rintro m t' h' n' - ⟨k, rfl, hkl, h0, h15, h16, h17, hn', hrow, hk⟩
            have hl' := syncN_len (pend := w1.pend) (s := w1.safe) k
            have hd' := hk d _ hdn hd (by simpa using e1)
            have hp' := hk w1.jp _ hpn hjp (by simpa using p2)
            by_cases hkk : k < w1.pend.length
            · have q1 : ((k : Int) < (w1.pend.length : Int)) = True := by simp [hkk]
              have q2 : (0 ≤ (k : Int) ∧ (k : Int) < (w1.pend.length : Int)) = True := by simp [hkk]
              have q3 : (k * 2 + 2 ≤ (wrC w1.pend).length) = True := by rw [wrC_len]; simp only [eq_iff_iff, iff_true]; omega
              have q4 := wrC_get hkk
              have hcr := syncN_at (s := w1.safe) hkk
              obtain ⟨hpi, hpb⟩ := hw1.pe _ (List.getElem_mem hkk)
              generalize w1.pend[k] = pk at *
              obtain ⟨i, b⟩ := pk
              simp only at hpi hpb q4 hcr
              generalize hsk : syncN w1.pend w1.safe k = sk at *
              have q5 : (0 ≤ (i : Int) ∧ (i : Int) < (w1.safe.length : Int)) = True := by simp [hpi]
              have q6 : (i * 2 + 2 ≤ (secC sk).length) = True := by rw [secC_len, hl']; simp only [eq_iff_iff, iff_true]; omega
              have q8 : splice (secC sk) (i * 2) [.ro false (cellsB b) b.length, .b false] = secC (sk.set i (some b)) := secC_set (some b) (by omega)
              have w1' : IntKind.wrap .i64 ((k : Int) + 1) = (k : Int) + 1 := IntWalk.i64_in _ (by omega)
              have u0 : ∀ (g : Heap) (r : Option Row), upd g n' r w1.js = g w1.js := fun g r => upd_ne _ _ (by omega)
              have u1 : ∀ (g : Heap) (r : Option Row), upd g n' r d = g d := fun g r => upd_ne _ _ (by omega)
              have u2 : ∀ (g : Heap) (r : Option Row), upd g w1.js r n' = g n' := fun g r => upd_ne _ _ (by omega)
              have kk : ∀ (g : Heap) r, (∀ x r, x < n1 → h1 x = some r → x ∉ [w1.js] → g x = some r) → (∀ x r', x < n1 → h1 x = some r' → x ∉ [w1.js] → upd g w1.js r x = some r') := fun g r hg => keepX (.inr (by simp)) hg
              refine AWp.seq ?_
              (refine aw_regionL hS (by kernel_rfl) ?_; repeat (first | apply vr0u | apply vr4 | apply b_tt | apply b_ff | apply b_tf | apply b_ft | apply b_no | exact isD.mk rfl | (apply eqG; (simp only [push_cast, ↓reduceIte, Nat.reduceEqDiff, Nat.reduceAdd, Nat.reduceLeDiff, Nat.reduceLT, Int.reduceLE, Int.reduceLT, Int.reduceAdd, Int.reduceSub, Int.reduceNeg, Int.reduceBEq, Int.reduceBNe, Int.reduceEq, Int.reduceGT, Int.reduceGE, Int.reduceMul, Int.reduceToNat, Nat.reduceMul, reduceCtorEq, h0, h15, h16, h17, hrow, hd', hp', q1, q2, q3, q4, q5, q6, q8, w1', u0, u1, u2, sp2] <;> rfl)) | exact (rfl : app (swap _ _) _ = _)))
              refine vr_nil (aw_then ?_)
              refine AWp.seq ?_
              refine aw_true (by (simp only [push_cast, ↓reduceIte, Nat.reduceEqDiff, Nat.reduceAdd, Nat.reduceLeDiff, Nat.reduceLT, Int.reduceLE, Int.reduceLT, Int.reduceAdd, Int.reduceSub, Int.reduceNeg, Int.reduceBEq, Int.reduceBNe, Int.reduceEq, Int.reduceGT, Int.reduceGE, Int.reduceMul, Int.reduceToNat, Nat.reduceMul, reduceCtorEq, h0, h15, h16, h17, hrow, hd', hp', q1, q2, q3, q4, q5, q6, q8, w1', u0, u1, u2, sp2] <;> rfl)) (AWp.skip (aw_then ?_))
              refine AWp.seq ?_
              refine AWp.block ?_
              refine AWp.seq ?_
              (refine aw_regionL hS (by kernel_rfl) ?_; repeat (first | apply vr0u | apply vr4 | apply b_tt | apply b_ff | apply b_tf | apply b_ft | apply b_no | exact isD.mk rfl | (apply eqG; (simp only [push_cast, ↓reduceIte, Nat.reduceEqDiff, Nat.reduceAdd, Nat.reduceLeDiff, Nat.reduceLT, Int.reduceLE, Int.reduceLT, Int.reduceAdd, Int.reduceSub, Int.reduceNeg, Int.reduceBEq, Int.reduceBNe, Int.reduceEq, Int.reduceGT, Int.reduceGE, Int.reduceMul, Int.reduceToNat, Nat.reduceMul, reduceCtorEq, h0, h15, h16, h17, hrow, hd', hp', q1, q2, q3, q4, q5, q6, q8, w1', u0, u1, u2, sp2] <;> rfl)) | exact (rfl : app (swap _ _) _ = _)))
              refine vr_nil (aw_then ?_)
              refine aw_drawsL [0, 1, 3, 7, 0, 16, 0, 64, 192, 511, 1023] [10] hS mixed (by kernel_rfl) (by kernel_rfl) ?_
              repeat (first | (refine vd0f (by decide) (by ((repeat (first | rewrite [hpL_t rfl] | rewrite [hpL_f rfl])); (simp only [hpL, app_cons, app_nil] <;> rfl))) (by (simp only [push_cast, ↓reduceIte, Nat.reduceEqDiff, Nat.reduceAdd, Nat.reduceLeDiff, Nat.reduceLT, Int.reduceLE, Int.reduceLT, Int.reduceAdd, Int.reduceSub, Int.reduceNeg, Int.reduceBEq, Int.reduceBNe, Int.reduceEq, Int.reduceGT, Int.reduceGE, Int.reduceMul, Int.reduceToNat, Nat.reduceMul, reduceCtorEq, h0, h15, h16, h17, hrow, hd', hp', q1, q2, q3, q4, q5, q6, q8, w1', u0, u1, u2, sp2] <;> rfl)) ?_) | (refine vd0q rfl (by decide) rfl (by ((repeat (first | rewrite [hpL_t rfl] | rewrite [hpL_f rfl])); (simp only [hpL, app_cons, app_nil] <;> rfl))) (by (simp only [push_cast, ↓reduceIte, Nat.reduceEqDiff, Nat.reduceAdd, Nat.reduceLeDiff, Nat.reduceLT, Int.reduceLE, Int.reduceLT, Int.reduceAdd, Int.reduceSub, Int.reduceNeg, Int.reduceBEq, Int.reduceBNe, Int.reduceEq, Int.reduceGT, Int.reduceGE, Int.reduceMul, Int.reduceToNat, Nat.reduceMul, reduceCtorEq, h0, h15, h16, h17, hrow, hd', hp', q1, q2, q3, q4, q5, q6, q8, w1', u0, u1, u2, sp2] <;> rfl)) (by simp) (by omega) (by intro u hu; simp only [List.mem_cons, List.not_mem_nil, or_false] at hu; rcases hu with rfl | rfl | rfl <;> simp only <;> omega) ?_) | (refine vd0w rfl (by decide) (by ((repeat (first | rewrite [hpL_t rfl] | rewrite [hpL_f rfl])); (simp only [hpL, app_cons, app_nil] <;> rfl))) (by (simp only [push_cast, ↓reduceIte, Nat.reduceEqDiff, Nat.reduceAdd, Nat.reduceLeDiff, Nat.reduceLT, Int.reduceLE, Int.reduceLT, Int.reduceAdd, Int.reduceSub, Int.reduceNeg, Int.reduceBEq, Int.reduceBNe, Int.reduceEq, Int.reduceGT, Int.reduceGE, Int.reduceMul, Int.reduceToNat, Nat.reduceMul, reduceCtorEq, h0, h15, h16, h17, hrow, hd', hp', q1, q2, q3, q4, q5, q6, q8, w1', u0, u1, u2, sp2] <;> rfl)) (by omega) (by intro u hu; simp only [List.mem_cons, List.not_mem_nil, or_false] at hu; rcases hu with rfl | rfl | rfl <;> simp only <;> omega) ?_) | (apply vd0; (focus rfl)) | (apply vd0r; (focus rfl); (focus decide); (focus rfl)) | (apply vd0p; (focus decide)) | apply vd4 | apply b_tt | apply b_ff | apply b_tf | apply b_ft | apply b_no | exact isD.mk rfl | ((repeat (first | rewrite [hpL_t rfl] | rewrite [hpL_f rfl])); (simp only [hpL, app_cons, app_nil] <;> rfl)) | (apply eqG; (simp only [push_cast, ↓reduceIte, Nat.reduceEqDiff, Nat.reduceAdd, Nat.reduceLeDiff, Nat.reduceLT, Int.reduceLE, Int.reduceLT, Int.reduceAdd, Int.reduceSub, Int.reduceNeg, Int.reduceBEq, Int.reduceBNe, Int.reduceEq, Int.reduceGT, Int.reduceGE, Int.reduceMul, Int.reduceToNat, Nat.reduceMul, reduceCtorEq, h0, h15, h16, h17, hrow, hd', hp', q1, q2, q3, q4, q5, q6, q8, w1', u0, u1, u2, sp2] <;> rfl)))
              (refine vd_nil (by simp only [hpL, app_cons, app_nil, if_true] <;> rfl) ?_)
              refine aw_in (aw_then ?_)
              (refine aw_regionL hS (by kernel_rfl) ?_; repeat (first | apply vr0u | apply vr4 | apply b_tt | apply b_ff | apply b_tf | apply b_ft | apply b_no | exact isD.mk rfl | (apply eqG; (simp only [push_cast, ↓reduceIte, Nat.reduceEqDiff, Nat.reduceAdd, Nat.reduceLeDiff, Nat.reduceLT, Int.reduceLE, Int.reduceLT, Int.reduceAdd, Int.reduceSub, Int.reduceNeg, Int.reduceBEq, Int.reduceBNe, Int.reduceEq, Int.reduceGT, Int.reduceGE, Int.reduceMul, Int.reduceToNat, Nat.reduceMul, reduceCtorEq, h0, h15, h16, h17, hrow, hd', hp', q1, q2, q3, q4, q5, q6, q8, w1', u0, u1, u2, sp2] <;> rfl)) | exact (rfl : app (swap _ _) _ = _)))
              refine vr_nil (aw_then ⟨w1.pend.length - (k + 1), by omega, k + 1, rfl, hkk, by (simp only [push_cast, ↓reduceIte, Nat.reduceEqDiff, Nat.reduceAdd, Nat.reduceLeDiff, Nat.reduceLT, Int.reduceLE, Int.reduceLT, Int.reduceAdd, Int.reduceSub, Int.reduceNeg, Int.reduceBEq, Int.reduceBNe, Int.reduceEq, Int.reduceGT, Int.reduceGE, Int.reduceMul, Int.reduceToNat, Nat.reduceMul, reduceCtorEq, h0, h15, h16, h17, hrow, hd', hp', q1, q2, q3, q4, q5, q6, q8, w1', u0, u1, u2, sp2] <;> rfl), by (simp only [push_cast, ↓reduceIte, Nat.reduceEqDiff, Nat.reduceAdd, Nat.reduceLeDiff, Nat.reduceLT, Int.reduceLE, Int.reduceLT, Int.reduceAdd, Int.reduceSub, Int.reduceNeg, Int.reduceBEq, Int.reduceBNe, Int.reduceEq, Int.reduceGT, Int.reduceGE, Int.reduceMul, Int.reduceToNat, Nat.reduceMul, reduceCtorEq, h0, h15, h16, h17, hrow, hd', hp', q1, q2, q3, q4, q5, q6, q8, w1', u0, u1, u2, sp2] <;> rfl), by (simp only [push_cast, ↓reduceIte, Nat.reduceEqDiff, Nat.reduceAdd, Nat.reduceLeDiff, Nat.reduceLT, Int.reduceLE, Int.reduceLT, Int.reduceAdd, Int.reduceSub, Int.reduceNeg, Int.reduceBEq, Int.reduceBNe, Int.reduceEq, Int.reduceGT, Int.reduceGE, Int.reduceMul, Int.reduceToNat, Nat.reduceMul, reduceCtorEq, h0, h15, h16, h17, hrow, hd', hp', q1, q2, q3, q4, q5, q6, q8, w1', u0, u1, u2, sp2] <;> rfl), by (simp only [push_cast, ↓reduceIte, Nat.reduceEqDiff, Nat.reduceAdd, Nat.reduceLeDiff, Nat.reduceLT, Int.reduceLE, Int.reduceLT, Int.reduceAdd, Int.reduceSub, Int.reduceNeg, Int.reduceBEq, Int.reduceBNe, Int.reduceEq, Int.reduceGT, Int.reduceGE, Int.reduceMul, Int.reduceToNat, Nat.reduceMul, reduceCtorEq, h0, h15, h16, h17, hrow, hd', hp', q1, q2, q3, q4, q5, q6, q8, w1', u0, u1, u2, sp2] <;> rfl), by omega, ?_, kk _ _ (keepX (.inl (by omega)) (keepX (.inl (by omega)) hk))⟩)
              rw [upd_same, hcr]
            · have hke : k = w1.pend.length := by omega
              subst hke
              have q1 : ((w1.pend.length : Int) < (w1.pend.length : Int)) = False := by simp
              refine AWp.seq ?_
              (refine aw_regionL hS (by kernel_rfl) ?_; repeat (first | apply vr0u | apply vr4 | apply b_tt | apply b_ff | apply b_tf | apply b_ft | apply b_no | exact isD.mk rfl | (apply eqG; (simp only [push_cast, ↓reduceIte, Nat.reduceEqDiff, Nat.reduceAdd, Nat.reduceLeDiff, Nat.reduceLT, Int.reduceLE, Int.reduceLT, Int.reduceAdd, Int.reduceSub, Int.reduceNeg, Int.reduceBEq, Int.reduceBNe, Int.reduceEq, Int.reduceGT, Int.reduceGE, Int.reduceMul, Int.reduceToNat, Nat.reduceMul, reduceCtorEq, h0, h15, h16, h17, q1] <;> rfl)) | exact (rfl : app (swap _ _) _ = _)))
              refine vr_nil (aw_then ?_)
              refine AWp.seq ?_
              refine aw_false (by (simp only [push_cast, ↓reduceIte, Nat.reduceEqDiff, Nat.reduceAdd, Nat.reduceLeDiff, Nat.reduceLT, Int.reduceLE, Int.reduceLT, Int.reduceAdd, Int.reduceSub, Int.reduceNeg, Int.reduceBEq, Int.reduceBNe, Int.reduceEq, Int.reduceGT, Int.reduceGE, Int.reduceMul, Int.reduceToNat, Nat.reduceMul, reduceCtorEq, h0, h15, h16, h17, q1] <;> rfl)) (AWp.exit (aw_thru (aw_thru (aw_exit (aw_then ?_)))))
              exact ⟨by (simp only [push_cast, ↓reduceIte, Nat.reduceEqDiff, Nat.reduceAdd, Nat.reduceLeDiff, Nat.reduceLT, Int.reduceLE, Int.reduceLT, Int.reduceAdd, Int.reduceSub, Int.reduceNeg, Int.reduceBEq, Int.reduceBNe, Int.reduceEq, Int.reduceGT, Int.reduceGE, Int.reduceMul, Int.reduceToNat, Nat.reduceMul, reduceCtorEq, h0, h15, h16, h17, q1] <;> rfl), hn', hrow, hk⟩
      · rintro t1 h2 n2 - ⟨h0, hn2, hrow, hk⟩
        have hl' := syncN_len (pend := w1.pend) (s := w1.safe) w1.pend.length
        have hd' := hk d _ hdn hd (by simpa using e1)
        refine AWp.seq ?_
        (refine aw_regionL hS (by kernel_rfl) ?_; repeat (first | apply vr0u | apply vr4 | apply b_tt | apply b_ff | apply b_tf | apply b_ft | apply b_no | exact isD.mk rfl | (apply eqG; (simp only [push_cast, ↓reduceIte, Nat.reduceEqDiff, Nat.reduceAdd, Nat.reduceLeDiff, Nat.reduceLT, Int.reduceLE, Int.reduceLT, Int.reduceAdd, Int.reduceSub, Int.reduceNeg, Int.reduceBEq, Int.reduceBNe, Int.reduceEq, Int.reduceGT, Int.reduceGE, Int.reduceMul, Int.reduceToNat, Nat.reduceMul, reduceCtorEq, h0, hd'] <;> rfl)) | exact (rfl : app (swap _ _) _ = _)))
        refine vr_nil (aw_then ?_)
        refine AWp.seq ?_
        (refine aw_regionL hS (by kernel_rfl) ?_; repeat (first | apply vr0u | apply vr4 | apply b_tt | apply b_ff | apply b_tf | apply b_ft | apply b_no | exact isD.mk rfl | (apply eqG; (simp only [push_cast, ↓reduceIte, Nat.reduceEqDiff, Nat.reduceAdd, Nat.reduceLeDiff, Nat.reduceLT, Int.reduceLE, Int.reduceLT, Int.reduceAdd, Int.reduceSub, Int.reduceNeg, Int.reduceBEq, Int.reduceBNe, Int.reduceEq, Int.reduceGT, Int.reduceGE, Int.reduceMul, Int.reduceToNat, Nat.reduceMul, reduceCtorEq, h0, hd'] <;> rfl)) | exact (rfl : app (swap _ _) _ = _)))
        refine vr_nil (aw_then ?_)
        refine AWp.ret ?_
        refine Out.disk (w' := w1.synced) (xs := [.i .i64 0]) (.inr rfl) (by simp [Tryd.f37, resAll, resT]; (simp only [push_cast, ↓reduceIte, Nat.reduceEqDiff, Nat.reduceAdd, Nat.reduceLeDiff, Nat.reduceLT, Int.reduceLE, Int.reduceLT, Int.reduceAdd, Int.reduceSub, Int.reduceNeg, Int.reduceBEq, Int.reduceBNe, Int.reduceEq, Int.reduceGT, Int.reduceGE, Int.reduceMul, Int.reduceToNat, Nat.reduceMul, reduceCtorEq, h0, hd'] <;> rfl)) rfl (Nat.le_refl _) hn2 trivial hL hlt ?_ (fun j hj => .inl (hk2 j (synced_keys hj))) ?_
        · refine ⟨?_, ?_, ?_, fun hp => absurd rfl hp, fun x hx => ?_, e1, e2, e3⟩
          · rw [upd_same]; simp only [DW.rowD, DW.synced, DW.pd, DW.tr, hl', if_true]
          · rw [upd_ne _ _ (by show w1.js ≠ d; omega)]; exact hrow
          · rw [upd_ne _ _ (by show w1.jn ≠ d; omega)]; exact hk w1.jn _ hnn F1.hn (by simpa using (show w1.jn ≠ w1.js by omega))
          · have hx : w1.trip = some x := hx
            obtain ⟨a1, a2, a3, a4, a5⟩ := F1.ht x hx
            have hjt := hlt1 w1.jt (DW.keys_iff.2 (.inr (.inr (.inr (.inr ⟨by rw [hx]; simp, rfl⟩)))))
            refine ⟨?_, a2, a3, a4, fun hc => absurd rfl hc⟩
            rw [upd_ne _ _ (by show w1.jt ≠ d; omega)]; exact hk w1.jt _ hjt a1 (by simpa using a3)
        · refine keepX (.inr (DW.keys_iff.2 (.inl rfl))) (fun x r hx hr hxk => hk x r hx (hk1 x r hx hr hxk) ?_)
          intro hc
          exact hxk (hk2 x (by rw [List.mem_singleton.1 hc]; exact DW.keys_iff.2 (.inr (.inl rfl))))

end Go.Proofs.YtepfknnffooaiaaDoor
