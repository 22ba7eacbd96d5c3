import Derived.Test.YtepfknnffooaiaaDoorDoIn

namespace Go.Proofs.YtepfknnffooaiaaDoor
open Go.Av
set_option maxRecDepth 100000
set_option maxHeartbeats 1000000
set_option linter.unusedSimpArgs false
set_option linter.unusedVariables false
attribute [local push_cast] stepE callR resE aeff aev ofC ofC1 put_at Av.put_none inTmps List.getD_cons_zero List.getD_cons_succ AV.boxable if_true if_false AV.cells aload place app_cons app_nil upd_same Av.part abin aconv aindexAddr fillA splice_one abuiltin alen amax amin aun aindex Option.map_some Option.isSome_some List.map_cons List.map_nil List.nil_append List.append_nil List.cons_append Nat.le_refl Nat.zero_add Nat.add_zero List.length_cons List.length_nil List.drop_succ_cons List.drop_zero List.take_succ_cons List.take_zero beq_self_eq_true bne_self_eq_false Bool.not_true Bool.not_false List.set_cons_zero List.set_cons_succ Bool.false_eq_true IntWalk.i64_in decide_true decide_false Int.toNat_zero and_self and_true true_and List.getElem?_cons_zero List.getElem?_cons_succ aappend aapp view Bool.and_true Bool.true_and Nat.mul_one Option.map_none aslice asliceB nilOp Int.toNat_natCast und_30 agT_3 szT_3 kiT_3 agT_5 szT_5 kiT_5 agT_24 szT_24 kiT_24 agT_62 szT_62 kiT_62 agT_4 szT_4 kiT_4 agT_9 szT_9 kiT_9 agT_44 szT_44 kiT_44 agT_45 szT_45 kiT_45 agT_30 szT_30 kiT_30 agT_22 szT_22 kiT_22 agT_41 szT_41 kiT_41 agT_51 szT_51 kiT_51 agT_52 szT_52 kiT_52 agT_23 szT_23 kiT_23 agT_53 szT_53 kiT_53 agT_27 szT_27 kiT_27 agT_89 szT_89 kiT_89 agT_66 szT_66 kiT_66 agT_20 szT_20 kiT_20 slT_45 slT_44 slT_30 slT_22 slT_41 slT_51 slT_52 zeT_3 zeT_4 zeT_5 zeT_30 zeT_24 flT_55_0 flT_55_1 flT_55_2 flT_55_3 flT_55_4 agT_55 szT_55 buT_55 zeT_55 flT_57_0 flT_57_1 agT_57 szT_57 buT_57 zeT_57 flT_74_0 flT_74_1 agT_74 szT_74 buT_74 zeT_74 flT_77_0 flT_77_1 flT_77_2 agT_77 szT_77 buT_77 zeT_77 flT_47_0 flT_47_1 flT_47_2 flT_47_3 flT_47_4 flT_47_5 agT_47 szT_47 buT_47 zeT_47 flT_61_0 flT_61_1 agT_61 szT_61 buT_61 zeT_61 flT_64_0 flT_64_1 agT_64 szT_64 buT_64 zeT_64 flT_91_0 flT_91_1 agT_91 szT_91 buT_91 zeT_91 ptT_23 ptT_53 ptT_27 ptT_89 und_30 

/-! ### disks and stores in a law, whatever is armed -/
structure Dx (h0 : Heap) (n0 : Nat) (g : Heap) (m d : Nat) (w : DW) (c : Nat) (st : List UInt8) : Prop where
  A : At h0 n0 g m d w
  pend : w.pend = []
  now : w.now = w.safe
  G : Good w.safe c st
  lim : c < 1000000000
structure Stx (h0 : Heap) (n0 : Nat) (g : Heap) (m d s : Nat) (w : DW) (c : Nat) (z : Bool) (st : List UInt8) : Prop where
  D : Dx h0 n0 g m d w c st
  row : g s = some (.cells (stoR d z st))
  sk : s ∉ (w.cont d).keys
  sm : s < m
  sn : n0 ≤ s
  zz : z = true → st = []
theorem Dsk.dx {h0 g : Heap} {n0 m d : Nat} {w : DW} {c : Nat} {st : List UInt8} (D : Dsk h0 n0 g m d w c st) : Dx h0 n0 g m d w c st := ⟨D.A, D.pend, D.now, D.G, D.lim⟩
theorem Sto.stx {h0 g : Heap} {n0 m d s : Nat} {w : DW} {c : Nat} {z : Bool} {st : List UInt8} (T : Sto h0 n0 g m d s w c z st) : Stx h0 n0 g m d s w c z st := ⟨T.D.dx, T.row, T.sk, T.sm, T.sn, T.zz⟩
theorem Dx.dsk {h0 g : Heap} {n0 m d : Nat} {w : DW} {c : Nat} {st : List UInt8} (D : Dx h0 n0 g m d w c st) (ho : w.off = false) (ht : w.trip = none) : Dsk h0 n0 g m d w c st := ⟨D.A, ho, D.pend, D.now, ht, D.G, D.lim⟩
theorem Stx.sto {h0 g : Heap} {n0 m d s : Nat} {w : DW} {c : Nat} {z : Bool} {st : List UInt8} (T : Stx h0 n0 g m d s w c z st) (ho : w.off = false) (ht : w.trip = none) : Sto h0 n0 g m d s w c z st := ⟨T.D.dsk ho ht, T.row, T.sk, T.sm, T.sn, T.zz⟩
theorem Dx.holds {h0 g : Heap} {n0 m d : Nat} {w : DW} {c : Nat} {st : List UInt8} (D : Dx h0 n0 g m d w c st) : Holds w.now c st := by
  have := D.lim
  rw [D.now]; exact D.G.holds (by omega)
theorem Dx.sOpen {h0 g : Heap} {n0 m d : Nat} {w : DW} {c : Nat} {st : List UInt8} (D : Dx h0 n0 g m d w c st) (ho : w.off = false) : ResOk Tryd.prog 9 [.p d 0] g (.wide fun k => (.tup [.p k 0, .i .i64 0], swap [] [(k, stoR d st.isEmpty st)], k + 1)) :=
  fun n => s9 D.A.ok D.A.F ho D.G.len D.holds n
theorem Dx.on {h0 g g' : Heap} {n0 m m' d : Nat} {w : DW} {c : Nat} {st : List UInt8} (D : Dx h0 n0 g m d w c st) (hk : ∀ j, j ∈ (w.cont d).keys → g' j = g j) (fr : ∀ x r, x < n0 → h0 x = some r → g' x = some r) (hm : m ≤ m') : Dx h0 n0 g' m' d w c st :=
  ⟨D.A.on hk fr hm, D.pend, D.now, D.G, D.lim⟩
theorem Dx.low {h0 g g' : Heap} {n0 m m' d : Nat} {w : DW} {c : Nat} {st : List UInt8} (D : Dx h0 n0 g m d w c st) (hk : ∀ j, j < m → g' j = g j) (hm : m ≤ m') : Dx h0 n0 g' m' d w c st :=
  D.on (fun j hj => hk j (D.A.lo j hj).2) (fun x r hx hr => by rw [hk x (by have := D.A.le; omega)]; exact D.A.fr x r hx hr) hm
theorem Stx.low {h0 g g' : Heap} {n0 m m' d s : Nat} {w : DW} {c : Nat} {z : Bool} {st : List UInt8} (T : Stx h0 n0 g m d s w c z st) (hk : ∀ j, j < m → g' j = g j) (hm : m ≤ m') : Stx h0 n0 g' m' d s w c z st :=
  ⟨T.D.low hk hm, by rw [hk s T.sm]; exact T.row, T.sk, Nat.lt_of_lt_of_le T.sm hm, T.sn, T.zz⟩
theorem Dx.opened {h0 g : Heap} {n0 m d : Nat} {w : DW} {c : Nat} {st : List UInt8} (D : Dx h0 n0 g m d w c st) : Stx h0 n0 (app (swap [] [(m, stoR d st.isEmpty st)]) g) (m + 1) d m w c st.isEmpty st :=
  ⟨D.low (fun j hj => upd_ne _ _ (show j ≠ m by omega)) (Nat.le_succ _), upd_same .., D.A.new, Nat.lt_succ_self _, D.A.le, fun h => List.isEmpty_iff.1 h⟩
theorem Stx.sState {h0 g : Heap} {n0 m d s : Nat} {w : DW} {c : Nat} {z : Bool} {st : List UInt8} (T : Stx h0 n0 g m d s w c z st) : ResOk Tryd.prog 13 [.p s 0] g (.pure (.ro z (cellsB st) st.length)) :=
  fun n => s13 T.zz (by have := T.D.G.size; omega) T.row n
theorem Dx.turn {h0 g : Heap} {n0 m d : Nat} {w : DW} {c : Nat} {st : List UInt8} {w' : DW} {m' : Nat} (D : Dx h0 n0 g m d w c st) (T : Turn d w m w' m') (hp : w'.pend = []) (hn : w'.now = w'.safe) (hs : w'.safe = w.safe) : Dx h0 n0 (app (swap (w.cont d) (w'.cont d)) g) m' d w' c st :=
  ⟨D.A.turn T, hp, hn, by rw [hs]; exact D.G, D.lim⟩
theorem Stx.turn {h0 g : Heap} {n0 m d s : Nat} {w : DW} {c : Nat} {z : Bool} {st : List UInt8} {w' : DW} {m' : Nat} (X : Stx h0 n0 g m d s w c z st) (T : Turn d w m w' m') (hp : w'.pend = []) (hn : w'.now = w'.safe) (hs : w'.safe = w.safe) : Stx h0 n0 (app (swap (w.cont d) (w'.cont d)) g) m' d s w' c z st := by
  obtain ⟨h1, h2⟩ := X.D.A.other T X.sm X.sk
  exact ⟨X.D.turn T hp hn hs, by rw [h2]; exact X.row, h1, Nat.lt_of_lt_of_le X.sm T.le, X.sn, X.zz⟩
theorem arm_facts (w : DW) (m : Nat) (k : Int) (z : Bool) (keep : List Bool) (torn : Int) : (w.arm m k z keep torn).1.pend = w.pend ∧ (w.arm m k z keep torn).1.now = w.now ∧ (w.arm m k z keep torn).1.safe = w.safe ∧ (w.arm m k z keep torn).1.off = w.off := by
  unfold DW.arm
  split <;> exact ⟨rfl, rfl, rfl, rfl⟩
theorem arm_none (w : DW) (m : Nat) (z : Bool) (keep : List Bool) (torn : Int) : w.arm m 0 z keep torn = ({ w with trip := none }, m) := if_neg (by omega)
theorem Dx.crashF {h0 g : Heap} {n0 m d : Nat} {w : DW} {c : Nat} {st : List UInt8} (D : Dx h0 n0 g m d w c st) (keep : List Bool) (torn : Int) (j : Nat) : (w.crash keep torn j).safe = w.safe := by
  show crashN w.pend keep torn w.safe w.pend.length = w.safe
  rw [D.pend]; rfl
theorem Step.law {h0 g g' : Heap} {n0 m m' d : Nat} {w v : DW} (A : At h0 n0 g m d w) (S : Step g m d w g' m' v) : At h0 n0 g' m' d v :=
  ⟨S.ok, S.F, fun j hj => by
    have hk := S.key j hj
    refine ⟨?_, hk.1⟩
    rcases hk.2 with h | h
    · exact (A.lo j h).1
    · have := A.le; omega, fun x r hx hr => S.fr x r (by have := A.le; omega) (A.fr x r hx hr) (fun hj => by have := A.lo x hj; omega), Nat.le_trans A.le S.le⟩
theorem Stx.kept {h0 g g0 : Heap} {n0 m m' d s : Nat} {w v : DW} {c : Nat} {z z' : Bool} {st b : List UInt8} (X : Stx h0 n0 g m d s w c z st) (S : Step g m d w g0 m' v) (K : Kept w v (c + 1) b) (hz : z' = true → b = []) (hb : b.length ≤ 4000) (hl : c + 1 < 1000000000) :
    Stx h0 n0 (Av.upd g0 s (some (.cells (stoR d z' b)))) m' d s v (c + 1) z' b := by
  have hk : s ∉ (v.cont d).keys := fun hj => by
    rcases (S.key s hj).2 with h | h
    · exact X.sk h
    · have := X.sm; omega
  exact ⟨⟨(S.law X.D.A).upd X.sn hk _, K.pend, K.now, X.D.G.kept K hb (by omega), hl⟩, upd_same .., hk, Nat.lt_of_lt_of_le X.sm S.le, X.sn, hz⟩
theorem Stx.gone {h0 g g' : Heap} {n0 m m' d s : Nat} {w v : DW} {c : Nat} {z : Bool} {st b : List UInt8} (X : Stx h0 n0 g m d s w c z st) (S : Step g m d w g' m' v) (K : Gone w v (c + 1) b) (hb : b.length ≤ 4000) (hl : c + 1 < 1000000000) :
    ∃ c' st', Dx h0 n0 g' m' d v c' st' ∧ c' ≤ c + 1 ∧ (st' = st ∨ st' = b) := by
  have A := S.law X.D.A
  rcases X.D.G.gone K hb (by omega) with h | h
  · exact ⟨c, st, ⟨A, K.dead.pend, K.dead.now, h, X.D.lim⟩, by omega, .inl rfl⟩
  · exact ⟨c + 1, b, ⟨A, K.dead.pend, K.dead.now, h, hl⟩, by omega, .inr rfl⟩
theorem Stx.save {h0 g : Heap} {n0 m d s : Nat} {w : DW} {c : Nat} {z : Bool} {st : List UInt8} (X : Stx h0 n0 g m d s w c z st) (ho : w.off = false) {z' : Bool} {b : List UInt8} (hz : z' = true → b = []) (hb : b.length ≤ 4000) :
    DRel Tryd.prog 11 [.p s 0, .ro z' (cellsB b) b.length] g m (Rel11 g m d s w (c + 1) z' b) :=
  s11 z' b hz X.D.A.ok X.D.A.F ho X.D.G.len X.D.pend X.D.now X.D.A.hlt X.sm X.sk X.row c st.length X.D.holds.last (by have := X.D.lim; omega) hb
theorem Stx.saveS {h0 g : Heap} {n0 m d s : Nat} {w : DW} {c : Nat} {z : Bool} {st : List UInt8} {j : Nat} (X : Stx h0 n0 g m d s w c z st) (ho : w.off = false) {b : List UInt8} (hj : j < m) (hjk : j ∉ (w.cont d).keys) (hjr : g j = some (.cells (cellsB b))) (hb : b.length ≤ 4000) :
    DRel Tryd.prog 11 [.p s 0, .sl 1 j 0 b.length] g m (Rel11 g m d s w (c + 1) false b) :=
  s11s b hj hjk hjr X.D.A.ok X.D.A.F ho X.D.G.len X.D.pend X.D.now X.D.A.hlt X.sm X.sk X.row c st.length X.D.holds.last (by have := X.D.lim; omega) hb

end Go.Proofs.YtepfknnffooaiaaDoor
