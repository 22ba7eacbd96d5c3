import Derived.Test.YtepfknnffooaiaaDkI
import Derived.Test.YtepfknnffooaiaaDkIn
import Derived.Test.YtepfknnffooaiaaDkTrips

namespace Go.Proofs.Ytepfknnffooaiaa
open Go.Av
set_option maxRecDepth 100000
set_option maxHeartbeats 1000000
set_option linter.unusedSimpArgs false
set_option linter.unusedVariables false
attribute [local push_cast] stepE callR resE aeff aev ofC ofC1 put_at Av.put_none inTmps List.getD_cons_zero List.getD_cons_succ AV.boxable if_true if_false AV.cells aload place app_cons app_nil upd_same Av.part abin aconv aindexAddr fillA splice_one abuiltin alen amax amin aun aindex Option.map_some Option.isSome_some List.map_cons List.map_nil List.nil_append List.append_nil List.cons_append Nat.le_refl Nat.zero_add Nat.add_zero List.length_cons List.length_nil List.drop_succ_cons List.drop_zero List.take_succ_cons List.take_zero beq_self_eq_true bne_self_eq_false Bool.not_true Bool.not_false List.set_cons_zero List.set_cons_succ Bool.false_eq_true IntWalk.i64_in decide_true decide_false Int.toNat_zero and_self and_true true_and List.getElem?_cons_zero List.getElem?_cons_succ aappend aapp view Bool.and_true Bool.true_and Nat.mul_one Option.map_none aslice asliceB nilOp Int.toNat_natCast und_30 agT_3 szT_3 kiT_3 agT_4 szT_4 kiT_4 agT_5 szT_5 kiT_5 agT_25 szT_25 kiT_25 agT_28 szT_28 kiT_28 agT_22 szT_22 kiT_22 agT_23 szT_23 kiT_23 agT_30 szT_30 kiT_30 agT_37 szT_37 kiT_37 agT_38 szT_38 kiT_38 agT_52 szT_52 kiT_52 agT_53 szT_53 kiT_53 agT_24 szT_24 kiT_24 agT_54 szT_54 kiT_54 agT_47 szT_47 kiT_47 slT_22 slT_23 slT_30 slT_37 slT_38 slT_52 slT_53 zeT_3 zeT_4 zeT_5 zeT_30 flT_56_0 flT_56_1 flT_56_2 flT_56_3 flT_56_4 agT_56 szT_56 buT_56 zeT_56 flT_58_0 flT_58_1 agT_58 szT_58 buT_58 zeT_58 flT_62_0 flT_62_1 agT_62 szT_62 buT_62 zeT_62 flT_65_0 flT_65_1 flT_65_2 agT_65 szT_65 buT_65 zeT_65 flT_42_0 flT_42_1 flT_42_2 flT_42_3 flT_42_4 flT_42_5 agT_42 szT_42 buT_42 zeT_42 flT_68_0 flT_68_1 flT_68_2 flT_68_3 flT_68_4 flT_68_5 flT_68_6 agT_68 szT_68 buT_68 zeT_68 ptT_24 ptT_54 ptT_47 und_30 

/-! ### rows of ints beside a disk -/
theorem intsV_get {l : List Int} {i : Nat} (hi : i < l.length) : (intsV l)[i]? = some (.i .i64 l[i]) := by simp [intsV, hi]
theorem intsV_set (l : List Int) (i : Nat) (v : Int) : (intsV l).set i (.i .i64 v) = intsV (l.set i v) := by simp [intsV, List.map_set]
theorem take_intsV (l : List Int) : (intsV l).take l.length = intsV l := List.take_of_length_le (by rw [len_intsV]; exact Nat.le_refl _)
structure Wt (g : Heap) (m d j : Nat) (w : DW) (cs : List AV) : Prop where
  row : g j = some (.cells cs)
  off : j ∉ (w.cont d).keys
  lt : j < m
theorem Wt.turn {h0 g : Heap} {n0 m d m' j : Nat} {w w' : DW} {cs : List AV} (X : Wt g m d j w cs) (A : At h0 n0 g m d w) (T : Turn d w m w' m') : Wt (app (swap (w.cont d) (w'.cont d)) g) m' d j w' cs := by
  obtain ⟨h1, h2⟩ := A.other T X.lt X.off
  exact ⟨by rw [h2]; exact X.row, h1, Nat.lt_of_lt_of_le X.lt T.le⟩
theorem Wt.new {g : Heap} {m d j : Nat} {w : DW} {cs : List AV} (X : Wt g m d j w cs) (r : Option Row) : Wt (upd g m r) (m + 1) d j w cs :=
  ⟨by rw [upd_ne _ _ (by have := X.lt; omega)]; exact X.row, X.off, by have := X.lt; omega⟩
theorem Wt.set {g : Heap} {m d j : Nat} {w : DW} {cs : List AV} (X : Wt g m d j w cs) (cs' : List AV) : Wt (upd g j (some (.cells cs'))) m d j w cs' := ⟨upd_same .., X.off, X.lt⟩
/-- What a number of the law stands for. -/
def secOf (v : Int) : Sec := if v < 0 then none else some (sectorB [UInt8.ofNat v.toNat])
theorem crashN_app {pend : List (Nat × List UInt8)} {p : Nat × List UInt8} {keep : List Bool} {torn : Int} {s : List Sec} : ∀ k, k ≤ pend.length → crashN (pend ++ [p]) keep torn s k = crashN pend keep torn s k
  | 0, _ => rfl
  | k + 1, h => by
    simp only [crashN]
    rw [crashN_app k (by omega), List.getElem?_append_left (by omega)]
theorem crash_step {pend : List (Nat × List UInt8)} {i : Nat} {b : List UInt8} {keep : List Bool} {torn : Int} {s : List Sec} : crashN (pend ++ [(i, b)]) keep torn s (pend ++ [(i, b)]).length = crash1 keep torn pend.length i b (crashN pend keep torn s pend.length) := by
  rw [List.length_append, List.length_singleton, crashN_at (by simp)]
  rw [crashN_app _ (Nat.le_refl _)]
  simp
theorem byte_at {v : Int} (h0 : 0 ≤ v) (h1 : v < 256) : (cellsB (sectorB [UInt8.ofNat v.toNat]))[0]? = some (.i .u8 v) := by
  have e : (UInt8.ofNat v.toNat).toNat = v.toNat := by simp; omega
  show some (AV.i .u8 ((UInt8.ofNat v.toNat).toNat : Int)) = _
  rw [e, Int.toNat_of_nonneg h0]
theorem mod4 (x : Int) : ∃ c : Nat, IntKind.wrap .i64 (Int.tmod (IntKind.wrap .u64 x) 4) = (c : Int) ∧ c < 4 := by
  have h1 : IntKind.wrap .u64 x = x % 18446744073709551616 := IntKind.wrap_u64 x
  have h2 : Int.tmod (IntKind.wrap .u64 x) 4 = IntKind.wrap .u64 x % 4 := Int.tmod_eq_emod_of_nonneg (by rw [h1]; omega)
  refine ⟨(IntKind.wrap .u64 x % 4).toNat, ?_, by omega⟩
  rw [h2, IntWalk.i64_in _ (by omega)]
  omega
theorem read_at {w : DW} {i : Nat} (ho : w.off = false) (hi : i < w.safe.length) {b : List UInt8} (h : w.now[i]? = some (some b)) : w.read i = (.ro false (cellsB b) b.length, 0) := by
  have h2 : wrongE w.off w.safe.length i = 0 := by simp only [wrongE, ho, Bool.false_eq_true, if_false]; rw [if_neg (by omega)]
  unfold DW.read
  rw [if_neg (by omega), Int.toNat_natCast, h]
theorem read_torn {w : DW} {i : Nat} (ho : w.off = false) (hi : i < w.safe.length) (h : w.now[i]? = some none) : w.read i = (.ro true [] 0, 15) := by
  have h2 : wrongE w.off w.safe.length i = 0 := by simp only [wrongE, ho, Bool.false_eq_true, if_false]; rw [if_neg (by omega)]
  unfold DW.read
  rw [if_neg (by omega), Int.toNat_natCast, h]
theorem c3 (z0 : Bool) (m : List Int) (z1 : Bool) (keep : List Bool) (torn : Int) (hz1 : z1 = true → keep = []) :
    PCalls Try.prog 3 [.ro z0 (intsV m) m.length, .ro z1 (bools keep) keep.length, .i .i64 torn] (.b true) := by
  intro h n
  have hS := ok_DE
  have h7 : DE 7 [.i .i64 4] h = .wide (fun n => (.tup [.p n 0, .i .i64 0], swap [] ((newW 4 n).cont n), n + 1 + 3 * 4 + 1)) := at7 (N := 4) (by decide) (by decide) h
  refine DCalls.of Try.func3 rfl (by decide) (Nat.le_of_ble_eq_true rfl) (Nat.le_refl _) ?_
  refine AWp.seq ?_
  (refine aw_regionL hS (by kernel_rfl) ?_; repeat (first | apply vr0u | apply vr4 | apply b_tt | apply b_ff | apply b_tf | apply b_ft | apply b_no | exact isD.mk rfl | (apply eqG; (simp only [push_cast, ↓reduceIte, Nat.reduceEqDiff, Nat.reduceAdd, Nat.reduceLeDiff, Nat.reduceLT, Int.reduceLE, Int.reduceLT, Int.reduceAdd, Int.reduceSub, Int.reduceNeg, Int.reduceBEq, Int.reduceBNe, Int.reduceEq, Int.reduceGT, Int.reduceGE, Int.reduceMul, Int.reduceToNat, Nat.reduceMul, reduceCtorEq, h7] <;> rfl)) | exact (rfl : app (swap _ _) _ = _)))
  refine vr_nil (aw_then ?_)
  refine AWp.cut (fun t' h' n' => (m.length ≤ 40 ∧ keep.length ≤ 60) ∧ t' 0 = .ro z0 (intsV m) m.length ∧ t' 1 = .ro z1 (bools keep) keep.length ∧ t' 2 = .i .i64 torn ∧ h = h' ∧ n = n') ?_ ?_
  · refine AWp.seq ?_
    (refine aw_regionL hS (by kernel_rfl) ?_; repeat (first | apply vr0u | apply vr4 | apply b_tt | apply b_ff | apply b_tf | apply b_ft | apply b_no | exact isD.mk rfl | (apply eqG; (simp only [push_cast, ↓reduceIte, Nat.reduceEqDiff, Nat.reduceAdd, Nat.reduceLeDiff, Nat.reduceLT, Int.reduceLE, Int.reduceLT, Int.reduceAdd, Int.reduceSub, Int.reduceNeg, Int.reduceBEq, Int.reduceBNe, Int.reduceEq, Int.reduceGT, Int.reduceGE, Int.reduceMul, Int.reduceToNat, Nat.reduceMul, reduceCtorEq, h7] <;> rfl)) | exact (rfl : app (swap _ _) _ = _)))
    refine br_s (by (simp only [push_cast, ↓reduceIte, Nat.reduceEqDiff, Nat.reduceAdd, Nat.reduceLeDiff, Nat.reduceLT, Int.reduceLE, Int.reduceLT, Int.reduceAdd, Int.reduceSub, Int.reduceNeg, Int.reduceBEq, Int.reduceBNe, Int.reduceEq, Int.reduceGT, Int.reduceGE, Int.reduceMul, Int.reduceToNat, Nat.reduceMul, reduceCtorEq, h7] <;> rfl)) (fun hu => ?_) (fun hu => ?_)
    · repeat (first | apply vr0u | apply vr4 | apply b_tt | apply b_ff | apply b_tf | apply b_ft | apply b_no | exact isD.mk rfl | (apply eqG; (simp only [push_cast, ↓reduceIte, Nat.reduceEqDiff, Nat.reduceAdd, Nat.reduceLeDiff, Nat.reduceLT, Int.reduceLE, Int.reduceLT, Int.reduceAdd, Int.reduceSub, Int.reduceNeg, Int.reduceBEq, Int.reduceBNe, Int.reduceEq, Int.reduceGT, Int.reduceGE, Int.reduceMul, Int.reduceToNat, Nat.reduceMul, reduceCtorEq, h7] <;> rfl)) | exact (rfl : app (swap _ _) _ = _))
      refine vr_nil (aw_then ?_)
      refine aw_true (by (simp only [push_cast, ↓reduceIte, Nat.reduceEqDiff, Nat.reduceAdd, Nat.reduceLeDiff, Nat.reduceLT, Int.reduceLE, Int.reduceLT, Int.reduceAdd, Int.reduceSub, Int.reduceNeg, Int.reduceBEq, Int.reduceBNe, Int.reduceEq, Int.reduceGT, Int.reduceGE, Int.reduceMul, Int.reduceToNat, Nat.reduceMul, reduceCtorEq, h7] <;> rfl)) ?_
      refine AWp.seq ?_
      (refine aw_regionL hS (by kernel_rfl) ?_; repeat (first | apply vr0u | apply vr4 | apply b_tt | apply b_ff | apply b_tf | apply b_ft | apply b_no | exact isD.mk rfl | (apply eqG; (simp only [push_cast, ↓reduceIte, Nat.reduceEqDiff, Nat.reduceAdd, Nat.reduceLeDiff, Nat.reduceLT, Int.reduceLE, Int.reduceLT, Int.reduceAdd, Int.reduceSub, Int.reduceNeg, Int.reduceBEq, Int.reduceBNe, Int.reduceEq, Int.reduceGT, Int.reduceGE, Int.reduceMul, Int.reduceToNat, Nat.reduceMul, reduceCtorEq, h7] <;> rfl)) | exact (rfl : app (swap _ _) _ = _)))
      refine vr_nil (aw_then ?_)
      refine AWp.ret ?_
      exact Out.yes (.inr rfl) rfl (by (simp only [push_cast, ↓reduceIte, Nat.reduceEqDiff, Nat.reduceAdd, Nat.reduceLeDiff, Nat.reduceLT, Int.reduceLE, Int.reduceLT, Int.reduceAdd, Int.reduceSub, Int.reduceNeg, Int.reduceBEq, Int.reduceBNe, Int.reduceEq, Int.reduceGT, Int.reduceGE, Int.reduceMul, Int.reduceToNat, Nat.reduceMul, reduceCtorEq, h7] <;> rfl)) keep0
    · have hu := of_decide_eq_false hu
      repeat (first | apply vr0u | apply vr4 | apply b_tt | apply b_ff | apply b_tf | apply b_ft | apply b_no | exact isD.mk rfl | (apply eqG; (simp only [push_cast, ↓reduceIte, Nat.reduceEqDiff, Nat.reduceAdd, Nat.reduceLeDiff, Nat.reduceLT, Int.reduceLE, Int.reduceLT, Int.reduceAdd, Int.reduceSub, Int.reduceNeg, Int.reduceBEq, Int.reduceBNe, Int.reduceEq, Int.reduceGT, Int.reduceGE, Int.reduceMul, Int.reduceToNat, Nat.reduceMul, reduceCtorEq, h7] <;> rfl)) | exact (rfl : app (swap _ _) _ = _))
      refine vr_nil (aw_then ?_)
      refine aw_split (by (simp only [push_cast, ↓reduceIte, Nat.reduceEqDiff, Nat.reduceAdd, Nat.reduceLeDiff, Nat.reduceLT, Int.reduceLE, Int.reduceLT, Int.reduceAdd, Int.reduceSub, Int.reduceNeg, Int.reduceBEq, Int.reduceBNe, Int.reduceEq, Int.reduceGT, Int.reduceGE, Int.reduceMul, Int.reduceToNat, Nat.reduceMul, reduceCtorEq, h7] <;> rfl)) (fun hv => ?_) (fun hv => ?_)
      · refine AWp.seq ?_
        (refine aw_regionL hS (by kernel_rfl) ?_; repeat (first | apply vr0u | apply vr4 | apply b_tt | apply b_ff | apply b_tf | apply b_ft | apply b_no | exact isD.mk rfl | (apply eqG; (simp only [push_cast, ↓reduceIte, Nat.reduceEqDiff, Nat.reduceAdd, Nat.reduceLeDiff, Nat.reduceLT, Int.reduceLE, Int.reduceLT, Int.reduceAdd, Int.reduceSub, Int.reduceNeg, Int.reduceBEq, Int.reduceBNe, Int.reduceEq, Int.reduceGT, Int.reduceGE, Int.reduceMul, Int.reduceToNat, Nat.reduceMul, reduceCtorEq, h7] <;> rfl)) | exact (rfl : app (swap _ _) _ = _)))
        refine vr_nil (aw_then ?_)
        refine AWp.ret ?_
        exact Out.yes (.inr rfl) rfl (by (simp only [push_cast, ↓reduceIte, Nat.reduceEqDiff, Nat.reduceAdd, Nat.reduceLeDiff, Nat.reduceLT, Int.reduceLE, Int.reduceLT, Int.reduceAdd, Int.reduceSub, Int.reduceNeg, Int.reduceBEq, Int.reduceBNe, Int.reduceEq, Int.reduceGT, Int.reduceGE, Int.reduceMul, Int.reduceToNat, Nat.reduceMul, reduceCtorEq, h7] <;> rfl)) keep0
      · have hv := of_decide_eq_false hv
        exact AWp.skip (aw_then ⟨⟨by omega, by omega⟩, by (simp only [push_cast, ↓reduceIte, Nat.reduceEqDiff, Nat.reduceAdd, Nat.reduceLeDiff, Nat.reduceLT, Int.reduceLE, Int.reduceLT, Int.reduceAdd, Int.reduceSub, Int.reduceNeg, Int.reduceBEq, Int.reduceBNe, Int.reduceEq, Int.reduceGT, Int.reduceGE, Int.reduceMul, Int.reduceToNat, Nat.reduceMul, reduceCtorEq, h7] <;> rfl), by (simp only [push_cast, ↓reduceIte, Nat.reduceEqDiff, Nat.reduceAdd, Nat.reduceLeDiff, Nat.reduceLT, Int.reduceLE, Int.reduceLT, Int.reduceAdd, Int.reduceSub, Int.reduceNeg, Int.reduceBEq, Int.reduceBNe, Int.reduceEq, Int.reduceGT, Int.reduceGE, Int.reduceMul, Int.reduceToNat, Nat.reduceMul, reduceCtorEq, h7] <;> rfl), by (simp only [push_cast, ↓reduceIte, Nat.reduceEqDiff, Nat.reduceAdd, Nat.reduceLeDiff, Nat.reduceLT, Int.reduceLE, Int.reduceLT, Int.reduceAdd, Int.reduceSub, Int.reduceNeg, Int.reduceBEq, Int.reduceBNe, Int.reduceEq, Int.reduceGT, Int.reduceGE, Int.reduceMul, Int.reduceToNat, Nat.reduceMul, reduceCtorEq, h7] <;> rfl), rfl, rfl⟩)
  rintro s hq nq - ⟨⟨hml, hkl⟩, h0, h1, h2, rfl, rfl⟩
  refine AWp.seq ?_
  (refine aw_regionL hS (by kernel_rfl) ?_; repeat (first | apply vr0u | apply vr4 | apply b_tt | apply b_ff | apply b_tf | apply b_ft | apply b_no | exact isD.mk rfl | (apply eqG; (simp only [push_cast, ↓reduceIte, Nat.reduceEqDiff, Nat.reduceAdd, Nat.reduceLeDiff, Nat.reduceLT, Int.reduceLE, Int.reduceLT, Int.reduceAdd, Int.reduceSub, Int.reduceNeg, Int.reduceBEq, Int.reduceBNe, Int.reduceEq, Int.reduceGT, Int.reduceGE, Int.reduceMul, Int.reduceToNat, Nat.reduceMul, reduceCtorEq, h7, h0, h1, h2] <;> rfl)) | exact (rfl : app (swap _ _) _ = _)))
  refine vr_nil (aw_then ?_)
  have A1 := At.tNew (h0 := h) (n0 := n) (m := n) (N := 4) (by decide) (by decide) (Nat.le_refl _) keep0
  have f1 : (newW 4 n).off = false ∧ (newW 4 n).safe = List.map secOf [0, 0, 0, 0] ∧ (newW 4 n).pend = [] ∧ (newW 4 n).trip = none := ⟨rfl, rfl, rfl, rfl⟩
  generalize newW 4 n = w1 at A1 f1 ⊢
  generalize app (swap [] (w1.cont n)) h = g1 at A1 ⊢
  generalize n + 1 + 3 * 4 + 1 = m1 at A1 ⊢
  obtain ⟨o1, s1, p1, tr1⟩ := f1
  refine AWp.seq ?_
  refine AWp.seq ?_
  (refine aw_regionL hS (by kernel_rfl) ?_; repeat (first | apply vr0u | apply vr4 | apply b_tt | apply b_ff | apply b_tf | apply b_ft | apply b_no | exact isD.mk rfl | (apply eqG; (simp only [push_cast, ↓reduceIte, Nat.reduceEqDiff, Nat.reduceAdd, Nat.reduceLeDiff, Nat.reduceLT, Int.reduceLE, Int.reduceLT, Int.reduceAdd, Int.reduceSub, Int.reduceNeg, Int.reduceBEq, Int.reduceBNe, Int.reduceEq, Int.reduceGT, Int.reduceGE, Int.reduceMul, Int.reduceToNat, Nat.reduceMul, reduceCtorEq, h7, h0, h1, h2] <;> rfl)) | exact (rfl : app (swap _ _) _ = _)))
  refine vr_nil (aw_then ?_)
  refine aw_false (by (simp only [push_cast, ↓reduceIte, Nat.reduceEqDiff, Nat.reduceAdd, Nat.reduceLeDiff, Nat.reduceLT, Int.reduceLE, Int.reduceLT, Int.reduceAdd, Int.reduceSub, Int.reduceNeg, Int.reduceBEq, Int.reduceBNe, Int.reduceEq, Int.reduceGT, Int.reduceGE, Int.reduceMul, Int.reduceToNat, Nat.reduceMul, reduceCtorEq, h7, h0, h1, h2] <;> rfl)) (AWp.skip (aw_then ?_))
  have r4 : rep 4 [AV.i .i64 0] = intsV [0, 0, 0, 0] := rfl
  have qm : ((0 : Int) ≤ 4) = True := by simp
  refine AWp.seq ?_
  (refine aw_regionL hS (by kernel_rfl) ?_; repeat (first | apply vr0u | apply vr4 | apply b_tt | apply b_ff | apply b_tf | apply b_ft | apply b_no | exact isD.mk rfl | (apply eqG; (simp only [push_cast, ↓reduceIte, Nat.reduceEqDiff, Nat.reduceAdd, Nat.reduceLeDiff, Nat.reduceLT, Int.reduceLE, Int.reduceLT, Int.reduceAdd, Int.reduceSub, Int.reduceNeg, Int.reduceBEq, Int.reduceBNe, Int.reduceEq, Int.reduceGT, Int.reduceGE, Int.reduceMul, Int.reduceToNat, Nat.reduceMul, reduceCtorEq, h0, h1, h2, r4, qm] <;> rfl)) | exact (rfl : app (swap _ _) _ = _)))
  refine vr_nil (aw_then ?_)
  have A2 := (A1.upd (j := m1) A1.le A1.new (some (.cells (intsV [0, 0, 0, 0])))).more (Nat.le_succ m1)
  have X2 : Wt (upd g1 m1 (some (.cells (intsV [0, 0, 0, 0])))) (m1 + 1) n m1 w1 (intsV [0, 0, 0, 0]) := ⟨upd_same .., A1.new, Nat.lt_succ_self _⟩
  generalize upd g1 m1 (some (.cells (intsV [0, 0, 0, 0]))) = g2 at A2 X2 ⊢
  refine AWp.cut (fun t' h' n' => ∃ (w : DW) (W : List Int), At h n h' n' n w ∧ Wt h' n' n m1 w (intsV W) ∧ t' 1 = .ro z1 (bools keep) keep.length ∧ t' 2 = .i .i64 torn ∧ t' 7 = .p n 0 ∧ t' 9 = .sl 1 m1 0 4 ∧ w.off = false ∧ w.safe.length = 4 ∧ w.pend.length ≤ 40 ∧ W.length = 4 ∧ (∀ x, x ∈ W → x < 256) ∧ crashN w.pend keep torn w.safe w.pend.length = W.map secOf) ?_ ?_
  · refine AWp.seq ?_
    (refine aw_regionL hS (by kernel_rfl) ?_; repeat (first | apply vr0u | apply vr4 | apply b_tt | apply b_ff | apply b_tf | apply b_ft | apply b_no | exact isD.mk rfl | (apply eqG; (simp only [push_cast, ↓reduceIte, Nat.reduceEqDiff, Nat.reduceAdd, Nat.reduceLeDiff, Nat.reduceLT, Int.reduceLE, Int.reduceLT, Int.reduceAdd, Int.reduceSub, Int.reduceNeg, Int.reduceBEq, Int.reduceBNe, Int.reduceEq, Int.reduceGT, Int.reduceGE, Int.reduceMul, Int.reduceToNat, Nat.reduceMul, reduceCtorEq, h0, h1, h2] <;> rfl)) | exact (rfl : app (swap _ _) _ = _)))
    refine vr_nil (aw_then ?_)
    refine AWp.block ?_
    refine AWp.loop (fun mm t' h' n' => ∃ (k : Nat) (w : DW) (W : List Int), mm = m.length - k ∧ k ≤ m.length ∧ At h n h' n' n w ∧ Wt h' n' n m1 w (intsV W) ∧ t' 0 = .ro z0 (intsV m) m.length ∧ t' 1 = .ro z1 (bools keep) keep.length ∧ t' 2 = .i .i64 torn ∧ t' 7 = .p n 0 ∧ t' 9 = .sl 1 m1 0 4 ∧ t' 10 = .i .i64 (k : Int) ∧ w.off = false ∧ w.safe.length = 4 ∧ w.trip = none ∧ w.pend.length = k ∧ W.length = 4 ∧ (∀ x, x ∈ W → x < 256) ∧ crashN w.pend keep torn w.safe w.pend.length = W.map secOf) m.length ?_ ?_
    · exact ⟨0, w1, [0, 0, 0, 0], rfl, Nat.zero_le _, A2, X2, by (simp only [push_cast, ↓reduceIte, Nat.reduceEqDiff, Nat.reduceAdd, Nat.reduceLeDiff, Nat.reduceLT, Int.reduceLE, Int.reduceLT, Int.reduceAdd, Int.reduceSub, Int.reduceNeg, Int.reduceBEq, Int.reduceBNe, Int.reduceEq, Int.reduceGT, Int.reduceGE, Int.reduceMul, Int.reduceToNat, Nat.reduceMul, reduceCtorEq, h0, h1, h2] <;> rfl), by (simp only [push_cast, ↓reduceIte, Nat.reduceEqDiff, Nat.reduceAdd, Nat.reduceLeDiff, Nat.reduceLT, Int.reduceLE, Int.reduceLT, Int.reduceAdd, Int.reduceSub, Int.reduceNeg, Int.reduceBEq, Int.reduceBNe, Int.reduceEq, Int.reduceGT, Int.reduceGE, Int.reduceMul, Int.reduceToNat, Nat.reduceMul, reduceCtorEq, h0, h1, h2] <;> rfl), by (simp only [push_cast, ↓reduceIte, Nat.reduceEqDiff, Nat.reduceAdd, Nat.reduceLeDiff, Nat.reduceLT, Int.reduceLE, Int.reduceLT, Int.reduceAdd, Int.reduceSub, Int.reduceNeg, Int.reduceBEq, Int.reduceBNe, Int.reduceEq, Int.reduceGT, Int.reduceGE, Int.reduceMul, Int.reduceToNat, Nat.reduceMul, reduceCtorEq, h0, h1, h2] <;> rfl), by (simp only [push_cast, ↓reduceIte, Nat.reduceEqDiff, Nat.reduceAdd, Nat.reduceLeDiff, Nat.reduceLT, Int.reduceLE, Int.reduceLT, Int.reduceAdd, Int.reduceSub, Int.reduceNeg, Int.reduceBEq, Int.reduceBNe, Int.reduceEq, Int.reduceGT, Int.reduceGE, Int.reduceMul, Int.reduceToNat, Nat.reduceMul, reduceCtorEq, h0, h1, h2] <;> rfl), by (simp only [push_cast, ↓reduceIte, Nat.reduceEqDiff, Nat.reduceAdd, Nat.reduceLeDiff, Nat.reduceLT, Int.reduceLE, Int.reduceLT, Int.reduceAdd, Int.reduceSub, Int.reduceNeg, Int.reduceBEq, Int.reduceBNe, Int.reduceEq, Int.reduceGT, Int.reduceGE, Int.reduceMul, Int.reduceToNat, Nat.reduceMul, reduceCtorEq, h0, h1, h2] <;> rfl), by (simp only [push_cast, ↓reduceIte, Nat.reduceEqDiff, Nat.reduceAdd, Nat.reduceLeDiff, Nat.reduceLT, Int.reduceLE, Int.reduceLT, Int.reduceAdd, Int.reduceSub, Int.reduceNeg, Int.reduceBEq, Int.reduceBNe, Int.reduceEq, Int.reduceGT, Int.reduceGE, Int.reduceMul, Int.reduceToNat, Nat.reduceMul, reduceCtorEq, h0, h1, h2] <;> rfl), o1, by rw [s1]; rfl, tr1, by rw [p1]; rfl, rfl, by simp, by rw [p1, s1]; rfl⟩
    · rintro mm t' h' n' - ⟨k, w, W, rfl, hkm, A, X, t0, t1, t2, t7, t9, t10, ho, hs, htr, hp, hW, hWb, hC⟩
      by_cases hk : k < m.length
      · obtain ⟨c, hc, hc4⟩ := mod4 m[k]
        have q1 : ((k : Int) < (m.length : Int)) = True := by simp [hk]
        have q2 : (0 ≤ (k : Int) ∧ (k : Int) < (m.length : Int)) = True := by simp [hk]
        have q3 := intsV_get hk
        have w1' : IntKind.wrap .i64 ((k : Int) + 1) = (k : Int) + 1 := IntWalk.i64_in _ (by omega)
        have hb1 := byte_cells (i := k + 1) (by omega)
        simp only [push_cast] at hb1
        have r1 : rep 1 [AV.i .u8 0] = [.i .u8 0] := rfl
        have r2 : splice [AV.i .u8 0] 0 (cellsB [UInt8.ofNat (k + 1)]) = cellsB [UInt8.ofNat (k + 1)] := rfl
        refine AWp.seq ?_
        refine AWp.seq ?_
        (refine aw_regionL hS (by kernel_rfl) ?_; repeat (first | apply vr0u | apply vr4 | apply b_tt | apply b_ff | apply b_tf | apply b_ft | apply b_no | exact isD.mk rfl | (apply eqG; (simp only [push_cast, ↓reduceIte, Nat.reduceEqDiff, Nat.reduceAdd, Nat.reduceLeDiff, Nat.reduceLT, Int.reduceLE, Int.reduceLT, Int.reduceAdd, Int.reduceSub, Int.reduceNeg, Int.reduceBEq, Int.reduceBNe, Int.reduceEq, Int.reduceGT, Int.reduceGE, Int.reduceMul, Int.reduceToNat, Nat.reduceMul, reduceCtorEq, t0, t1, t2, t7, t9, t10, q1, q2, q3, w1', hc] <;> rfl)) | exact (rfl : app (swap _ _) _ = _)))
        refine vr_nil (aw_then ?_)
        refine aw_true (by (simp only [push_cast, ↓reduceIte, Nat.reduceEqDiff, Nat.reduceAdd, Nat.reduceLeDiff, Nat.reduceLT, Int.reduceLE, Int.reduceLT, Int.reduceAdd, Int.reduceSub, Int.reduceNeg, Int.reduceBEq, Int.reduceBNe, Int.reduceEq, Int.reduceGT, Int.reduceGE, Int.reduceMul, Int.reduceToNat, Nat.reduceMul, reduceCtorEq, t0, t1, t2, t7, t9, t10, q1, q2, q3, w1', hc] <;> rfl)) (AWp.skip (aw_then ?_))
        refine AWp.cut (fun t' h' n' => ∃ (w : DW) (W : List Int), At h n h' n' n w ∧ Wt h' n' n m1 w (intsV W) ∧ t' 0 = .ro z0 (intsV m) m.length ∧ t' 1 = .ro z1 (bools keep) keep.length ∧ t' 2 = .i .i64 torn ∧ t' 7 = .p n 0 ∧ t' 9 = .sl 1 m1 0 4 ∧ t' 10 = .i .i64 (k : Int) ∧ w.off = false ∧ w.safe.length = 4 ∧ w.trip = none ∧ w.pend.length = k + 1 ∧ W.length = 4 ∧ (∀ x, x ∈ W → x < 256) ∧ crashN w.pend keep torn w.safe w.pend.length = W.map secOf) ?_ ?_
        · refine AWp.block ?_
          refine AWp.seq ?_
          (refine aw_regionL hS (by kernel_rfl) ?_; repeat (first | apply vr0u | apply vr4 | apply b_tt | apply b_ff | apply b_tf | apply b_ft | apply b_no | exact isD.mk rfl | (apply eqG; (simp only [push_cast, ↓reduceIte, Nat.reduceEqDiff, Nat.reduceAdd, Nat.reduceLeDiff, Nat.reduceLT, Int.reduceLE, Int.reduceLT, Int.reduceAdd, Int.reduceSub, Int.reduceNeg, Int.reduceBEq, Int.reduceBNe, Int.reduceEq, Int.reduceGT, Int.reduceGE, Int.reduceMul, Int.reduceToNat, Nat.reduceMul, reduceCtorEq, t0, t1, t2, t7, t9, t10, q1, q2, q3, w1', hc] <;> rfl)) | exact (rfl : app (swap _ _) _ = _)))
          refine vr_nil (aw_then ?_)
          have A' := (A.upd (j := n') A.le A.new (some (.cells (cellsB [UInt8.ofNat (k + 1)])))).more (Nat.le_succ n')
          have X' := X.new (some (.cells (cellsB [UInt8.ofNat (k + 1)])))
          have h9 : DE 9 [.sl 1 n' 0 1] (upd h' n' (some (.cells (cellsB [UInt8.ofNat (k + 1)])))) = .pure (.ro false (cellsB (sectorB [UInt8.ofNat (k + 1)])) 64) := at9e (by simp) (.inr (.inr ⟨n', rfl, upd_same ..⟩))
          obtain ⟨S2, hS2, h8, hne⟩ := sum_here ok_DE (A'.s8 (by omega) (c : Int) (x := .ro false (cellsB (sectorB [UInt8.ofNat (k + 1)])) 64) (b := sectorB [UInt8.ofNat (k + 1)]) shows_sec)
          have h9 : S2 9 [.sl 1 n' 0 1] (upd h' n' (some (.cells (cellsB [UInt8.ofNat (k + 1)])))) = .pure (.ro false (cellsB (sectorB [UInt8.ofNat (k + 1)])) 64) := by rw [hne 9 (by decide)]; exact h9
          have T := A'.tWrite (c : Int) (sectorB [UInt8.ofNat (k + 1)])
          have A3 := A'.turn T
          have X3 := X'.turn A' T
          have e2 := write_ok (m := n' + 1) (i := (c : Int)) (b := sectorB [UInt8.ofNat (k + 1)]) ho (by omega) (by omega) (sectorB_len _) htr
          have e8 : (w.write (n' + 1) c (sectorB [UInt8.ofNat (k + 1)])).1 = 0 := by rw [e2]
          refine AWp.seq ?_
          refine AWp.seq ?_
          refine aw_regionL hS2 (by kernel_rfl) ?_
          repeat (first | apply vr0u | apply vr4 | apply b_tt | apply b_ff | apply b_tf | apply b_ft | apply b_no | exact isD.mk rfl | (apply eqG; (simp only [push_cast, ↓reduceIte, Nat.reduceEqDiff, Nat.reduceAdd, Nat.reduceLeDiff, Nat.reduceLT, Int.reduceLE, Int.reduceLT, Int.reduceAdd, Int.reduceSub, Int.reduceNeg, Int.reduceBEq, Int.reduceBNe, Int.reduceEq, Int.reduceGT, Int.reduceGE, Int.reduceMul, Int.reduceToNat, Nat.reduceMul, reduceCtorEq, t0, t1, t2, t7, t9, t10, q1, q2, q3, w1', hc, h8, h9, hb1, r1, r2, e8] <;> rfl)) | exact (rfl : app (swap _ _) _ = _))
          refine vr_nil (aw_then ?_)
          refine aw_false (by (simp only [push_cast, ↓reduceIte, Nat.reduceEqDiff, Nat.reduceAdd, Nat.reduceLeDiff, Nat.reduceLT, Int.reduceLE, Int.reduceLT, Int.reduceAdd, Int.reduceSub, Int.reduceNeg, Int.reduceBEq, Int.reduceBNe, Int.reduceEq, Int.reduceGT, Int.reduceGE, Int.reduceMul, Int.reduceToNat, Nat.reduceMul, reduceCtorEq, t0, t1, t2, t7, t9, t10, q1, q2, q3, w1', hc, h8, h9, hb1, r1, r2, e8] <;> rfl)) (AWp.skip (aw_then ?_))
          have f3 : (w.write (n' + 1) c (sectorB [UInt8.ofNat (k + 1)])).2.1.off = false ∧ (w.write (n' + 1) c (sectorB [UInt8.ofNat (k + 1)])).2.1.safe = w.safe ∧ (w.write (n' + 1) c (sectorB [UInt8.ofNat (k + 1)])).2.1.pend = w.pend ++ [(c, sectorB [UInt8.ofNat (k + 1)])] ∧ (w.write (n' + 1) c (sectorB [UInt8.ofNat (k + 1)])).2.1.trip = none := by
            rw [e2]; exact ⟨ho, rfl, by show w.pend ++ [((c : Int).toNat, _)] = _; rw [Int.toNat_natCast], htr⟩
          clear h8 h9 hne hS2 e2 T e8
          clear S2
          generalize w.write (n' + 1) c (sectorB [UInt8.ofNat (k + 1)]) = q at A3 X3 f3 ⊢
          obtain ⟨r3, w3, m3⟩ := q
          simp only at A3 X3 f3 ⊢
          generalize app (swap (w.cont n) (w3.cont n)) (upd h' n' (some (.cells (cellsB [UInt8.ofNat (k + 1)])))) = g3 at A3 X3 ⊢
          obtain ⟨o3, s3, p3, tr3⟩ := f3
          have hC3 : crashN w3.pend keep torn w3.safe w3.pend.length = crash1 keep torn k c (sectorB [UInt8.ofNat (k + 1)]) (W.map secOf) := by rw [p3, s3, crash_step, hC, hp]
          have hcW : c < W.length := by omega
          have hs3 : w3.safe.length = 4 := by rw [s3]; exact hs
          have hp3 : w3.pend.length = k + 1 := by rw [p3]; simp [hp]
          have q4 : (0 ≤ (c : Int) ∧ (c : Int) < 4) = True := by simp; omega
          have q5 : (c + 1 ≤ (intsV W).length) = True := by rw [len_intsV]; simp; omega
          have q6 := X3.row
          have q7 := fun v : Int => intsV_set W c v
          have setA : ∀ v : Int, At h n (upd g3 m1 (some (.cells (intsV (W.set c v))))) m3 n w3 := fun v => A3.upd (by have := A1.le; omega) X3.off _
          have setB : ∀ v : Int, v < 256 → ∀ x, x ∈ W.set c v → x < 256 := fun v hv x hx => by
            rcases List.mem_or_eq_of_mem_set hx with h | h
            · exact hWb x h
            · rw [h]; exact hv
          refine AWp.seq ?_
          (refine aw_regionL hS (by kernel_rfl) ?_; repeat (first | apply vr0u | apply vr4 | apply b_tt | apply b_ff | apply b_tf | apply b_ft | apply b_no | exact isD.mk rfl | (apply eqG; (simp only [push_cast, ↓reduceIte, Nat.reduceEqDiff, Nat.reduceAdd, Nat.reduceLeDiff, Nat.reduceLT, Int.reduceLE, Int.reduceLT, Int.reduceAdd, Int.reduceSub, Int.reduceNeg, Int.reduceBEq, Int.reduceBNe, Int.reduceEq, Int.reduceGT, Int.reduceGE, Int.reduceMul, Int.reduceToNat, Nat.reduceMul, reduceCtorEq, t0, t1, t2, t7, t9, t10, q4, q5, q6, q7, w1'] <;> rfl)) | exact (rfl : app (swap _ _) _ = _)))
          refine vr_nil (aw_then ?_)
          refine aw_split (by (simp only [push_cast, ↓reduceIte, Nat.reduceEqDiff, Nat.reduceAdd, Nat.reduceLeDiff, Nat.reduceLT, Int.reduceLE, Int.reduceLT, Int.reduceAdd, Int.reduceSub, Int.reduceNeg, Int.reduceBEq, Int.reduceBNe, Int.reduceEq, Int.reduceGT, Int.reduceGE, Int.reduceMul, Int.reduceToNat, Nat.reduceMul, reduceCtorEq, t0, t1, t2, t7, t9, t10, q4, q5, q6, q7, w1'] <;> rfl)) (fun hu => ?_) (fun hu => ?_)
          · have hu : (k : Int) = torn := by simpa using hu
            (refine aw_regionL hS (by kernel_rfl) ?_; repeat (first | apply vr0u | apply vr4 | apply b_tt | apply b_ff | apply b_tf | apply b_ft | apply b_no | exact isD.mk rfl | (apply eqG; (simp only [push_cast, ↓reduceIte, Nat.reduceEqDiff, Nat.reduceAdd, Nat.reduceLeDiff, Nat.reduceLT, Int.reduceLE, Int.reduceLT, Int.reduceAdd, Int.reduceSub, Int.reduceNeg, Int.reduceBEq, Int.reduceBNe, Int.reduceEq, Int.reduceGT, Int.reduceGE, Int.reduceMul, Int.reduceToNat, Nat.reduceMul, reduceCtorEq, t0, t1, t2, t7, t9, t10, q4, q5, q6, q7, w1'] <;> rfl)) | exact (rfl : app (swap _ _) _ = _)))
            refine vr_nil (aw_in (aw_then ⟨w3, W.set c (-1), setA _, X3.set _, by (simp only [push_cast, ↓reduceIte, Nat.reduceEqDiff, Nat.reduceAdd, Nat.reduceLeDiff, Nat.reduceLT, Int.reduceLE, Int.reduceLT, Int.reduceAdd, Int.reduceSub, Int.reduceNeg, Int.reduceBEq, Int.reduceBNe, Int.reduceEq, Int.reduceGT, Int.reduceGE, Int.reduceMul, Int.reduceToNat, Nat.reduceMul, reduceCtorEq, t0, t1, t2, t7, t9, t10, q4, q5, q6, q7, w1'] <;> rfl), by (simp only [push_cast, ↓reduceIte, Nat.reduceEqDiff, Nat.reduceAdd, Nat.reduceLeDiff, Nat.reduceLT, Int.reduceLE, Int.reduceLT, Int.reduceAdd, Int.reduceSub, Int.reduceNeg, Int.reduceBEq, Int.reduceBNe, Int.reduceEq, Int.reduceGT, Int.reduceGE, Int.reduceMul, Int.reduceToNat, Nat.reduceMul, reduceCtorEq, t0, t1, t2, t7, t9, t10, q4, q5, q6, q7, w1'] <;> rfl), by (simp only [push_cast, ↓reduceIte, Nat.reduceEqDiff, Nat.reduceAdd, Nat.reduceLeDiff, Nat.reduceLT, Int.reduceLE, Int.reduceLT, Int.reduceAdd, Int.reduceSub, Int.reduceNeg, Int.reduceBEq, Int.reduceBNe, Int.reduceEq, Int.reduceGT, Int.reduceGE, Int.reduceMul, Int.reduceToNat, Nat.reduceMul, reduceCtorEq, t0, t1, t2, t7, t9, t10, q4, q5, q6, q7, w1'] <;> rfl), by (simp only [push_cast, ↓reduceIte, Nat.reduceEqDiff, Nat.reduceAdd, Nat.reduceLeDiff, Nat.reduceLT, Int.reduceLE, Int.reduceLT, Int.reduceAdd, Int.reduceSub, Int.reduceNeg, Int.reduceBEq, Int.reduceBNe, Int.reduceEq, Int.reduceGT, Int.reduceGE, Int.reduceMul, Int.reduceToNat, Nat.reduceMul, reduceCtorEq, t0, t1, t2, t7, t9, t10, q4, q5, q6, q7, w1'] <;> rfl), by (simp only [push_cast, ↓reduceIte, Nat.reduceEqDiff, Nat.reduceAdd, Nat.reduceLeDiff, Nat.reduceLT, Int.reduceLE, Int.reduceLT, Int.reduceAdd, Int.reduceSub, Int.reduceNeg, Int.reduceBEq, Int.reduceBNe, Int.reduceEq, Int.reduceGT, Int.reduceGE, Int.reduceMul, Int.reduceToNat, Nat.reduceMul, reduceCtorEq, t0, t1, t2, t7, t9, t10, q4, q5, q6, q7, w1'] <;> rfl), by (simp only [push_cast, ↓reduceIte, Nat.reduceEqDiff, Nat.reduceAdd, Nat.reduceLeDiff, Nat.reduceLT, Int.reduceLE, Int.reduceLT, Int.reduceAdd, Int.reduceSub, Int.reduceNeg, Int.reduceBEq, Int.reduceBNe, Int.reduceEq, Int.reduceGT, Int.reduceGE, Int.reduceMul, Int.reduceToNat, Nat.reduceMul, reduceCtorEq, t0, t1, t2, t7, t9, t10, q4, q5, q6, q7, w1'] <;> rfl), o3, hs3, tr3, hp3, by simp [hW], setB _ (by decide), ?_⟩))
            rw [hC3]
            unfold crash1
            rw [if_pos hu, List.map_set]
            rfl
          · have hu : ¬ (k : Int) = torn := by simpa using hu
            refine AWp.seq ?_
            by_cases hk2 : k < keep.length
            · have q8 : ((k : Int) < (keep.length : Int)) = True := by simp [hk2]
              have q9 : (0 ≤ (k : Int) ∧ (k : Int) < (keep.length : Int)) = True := by simp [hk2]
              have q10 := bools_get hk2
              (refine aw_regionL hS (by kernel_rfl) ?_; repeat (first | apply vr0u | apply vr4 | apply b_tt | apply b_ff | apply b_tf | apply b_ft | apply b_no | exact isD.mk rfl | (apply eqG; (simp only [push_cast, ↓reduceIte, Nat.reduceEqDiff, Nat.reduceAdd, Nat.reduceLeDiff, Nat.reduceLT, Int.reduceLE, Int.reduceLT, Int.reduceAdd, Int.reduceSub, Int.reduceNeg, Int.reduceBEq, Int.reduceBNe, Int.reduceEq, Int.reduceGT, Int.reduceGE, Int.reduceMul, Int.reduceToNat, Nat.reduceMul, reduceCtorEq, t0, t1, t2, t7, t9, t10, q4, q5, q6, q7, w1', q8, q9, q10] <;> rfl)) | exact (rfl : app (swap _ _) _ = _)))
              refine vr_nil (aw_then ?_)
              refine aw_split (by (simp only [push_cast, ↓reduceIte, Nat.reduceEqDiff, Nat.reduceAdd, Nat.reduceLeDiff, Nat.reduceLT, Int.reduceLE, Int.reduceLT, Int.reduceAdd, Int.reduceSub, Int.reduceNeg, Int.reduceBEq, Int.reduceBNe, Int.reduceEq, Int.reduceGT, Int.reduceGE, Int.reduceMul, Int.reduceToNat, Nat.reduceMul, reduceCtorEq, t0, t1, t2, t7, t9, t10, q4, q5, q6, q7, w1', q8, q9, q10] <;> rfl)) (fun hv => ?_) (fun hv => ?_)
              · (refine aw_regionL hS (by kernel_rfl) ?_; repeat (first | apply vr0u | apply vr4 | apply b_tt | apply b_ff | apply b_tf | apply b_ft | apply b_no | exact isD.mk rfl | (apply eqG; (simp only [push_cast, ↓reduceIte, Nat.reduceEqDiff, Nat.reduceAdd, Nat.reduceLeDiff, Nat.reduceLT, Int.reduceLE, Int.reduceLT, Int.reduceAdd, Int.reduceSub, Int.reduceNeg, Int.reduceBEq, Int.reduceBNe, Int.reduceEq, Int.reduceGT, Int.reduceGE, Int.reduceMul, Int.reduceToNat, Nat.reduceMul, reduceCtorEq, t0, t1, t2, t7, t9, t10, q4, q5, q6, q7, w1', q8, q9, q10] <;> rfl)) | exact (rfl : app (swap _ _) _ = _)))
                refine vr_nil (aw_in (aw_then ⟨w3, W.set c ((k : Int) + 1), setA _, X3.set _, by (simp only [push_cast, ↓reduceIte, Nat.reduceEqDiff, Nat.reduceAdd, Nat.reduceLeDiff, Nat.reduceLT, Int.reduceLE, Int.reduceLT, Int.reduceAdd, Int.reduceSub, Int.reduceNeg, Int.reduceBEq, Int.reduceBNe, Int.reduceEq, Int.reduceGT, Int.reduceGE, Int.reduceMul, Int.reduceToNat, Nat.reduceMul, reduceCtorEq, t0, t1, t2, t7, t9, t10, q4, q5, q6, q7, w1', q8, q9, q10] <;> rfl), by (simp only [push_cast, ↓reduceIte, Nat.reduceEqDiff, Nat.reduceAdd, Nat.reduceLeDiff, Nat.reduceLT, Int.reduceLE, Int.reduceLT, Int.reduceAdd, Int.reduceSub, Int.reduceNeg, Int.reduceBEq, Int.reduceBNe, Int.reduceEq, Int.reduceGT, Int.reduceGE, Int.reduceMul, Int.reduceToNat, Nat.reduceMul, reduceCtorEq, t0, t1, t2, t7, t9, t10, q4, q5, q6, q7, w1', q8, q9, q10] <;> rfl), by (simp only [push_cast, ↓reduceIte, Nat.reduceEqDiff, Nat.reduceAdd, Nat.reduceLeDiff, Nat.reduceLT, Int.reduceLE, Int.reduceLT, Int.reduceAdd, Int.reduceSub, Int.reduceNeg, Int.reduceBEq, Int.reduceBNe, Int.reduceEq, Int.reduceGT, Int.reduceGE, Int.reduceMul, Int.reduceToNat, Nat.reduceMul, reduceCtorEq, t0, t1, t2, t7, t9, t10, q4, q5, q6, q7, w1', q8, q9, q10] <;> rfl), by (simp only [push_cast, ↓reduceIte, Nat.reduceEqDiff, Nat.reduceAdd, Nat.reduceLeDiff, Nat.reduceLT, Int.reduceLE, Int.reduceLT, Int.reduceAdd, Int.reduceSub, Int.reduceNeg, Int.reduceBEq, Int.reduceBNe, Int.reduceEq, Int.reduceGT, Int.reduceGE, Int.reduceMul, Int.reduceToNat, Nat.reduceMul, reduceCtorEq, t0, t1, t2, t7, t9, t10, q4, q5, q6, q7, w1', q8, q9, q10] <;> rfl), by (simp only [push_cast, ↓reduceIte, Nat.reduceEqDiff, Nat.reduceAdd, Nat.reduceLeDiff, Nat.reduceLT, Int.reduceLE, Int.reduceLT, Int.reduceAdd, Int.reduceSub, Int.reduceNeg, Int.reduceBEq, Int.reduceBNe, Int.reduceEq, Int.reduceGT, Int.reduceGE, Int.reduceMul, Int.reduceToNat, Nat.reduceMul, reduceCtorEq, t0, t1, t2, t7, t9, t10, q4, q5, q6, q7, w1', q8, q9, q10] <;> rfl), by (simp only [push_cast, ↓reduceIte, Nat.reduceEqDiff, Nat.reduceAdd, Nat.reduceLeDiff, Nat.reduceLT, Int.reduceLE, Int.reduceLT, Int.reduceAdd, Int.reduceSub, Int.reduceNeg, Int.reduceBEq, Int.reduceBNe, Int.reduceEq, Int.reduceGT, Int.reduceGE, Int.reduceMul, Int.reduceToNat, Nat.reduceMul, reduceCtorEq, t0, t1, t2, t7, t9, t10, q4, q5, q6, q7, w1', q8, q9, q10] <;> rfl), o3, hs3, tr3, hp3, by simp [hW], setB _ (by omega), ?_⟩))
                rw [hC3]
                unfold crash1
                rw [if_neg hu, if_pos (by rw [List.getElem?_eq_getElem hk2, hv]), List.map_set]
                congr 1
              · refine AWp.skip (aw_in (aw_then ⟨w3, W, A3, X3, by (simp only [push_cast, ↓reduceIte, Nat.reduceEqDiff, Nat.reduceAdd, Nat.reduceLeDiff, Nat.reduceLT, Int.reduceLE, Int.reduceLT, Int.reduceAdd, Int.reduceSub, Int.reduceNeg, Int.reduceBEq, Int.reduceBNe, Int.reduceEq, Int.reduceGT, Int.reduceGE, Int.reduceMul, Int.reduceToNat, Nat.reduceMul, reduceCtorEq, t0, t1, t2, t7, t9, t10, q4, q5, q6, q7, w1', q8, q9, q10] <;> rfl), by (simp only [push_cast, ↓reduceIte, Nat.reduceEqDiff, Nat.reduceAdd, Nat.reduceLeDiff, Nat.reduceLT, Int.reduceLE, Int.reduceLT, Int.reduceAdd, Int.reduceSub, Int.reduceNeg, Int.reduceBEq, Int.reduceBNe, Int.reduceEq, Int.reduceGT, Int.reduceGE, Int.reduceMul, Int.reduceToNat, Nat.reduceMul, reduceCtorEq, t0, t1, t2, t7, t9, t10, q4, q5, q6, q7, w1', q8, q9, q10] <;> rfl), by (simp only [push_cast, ↓reduceIte, Nat.reduceEqDiff, Nat.reduceAdd, Nat.reduceLeDiff, Nat.reduceLT, Int.reduceLE, Int.reduceLT, Int.reduceAdd, Int.reduceSub, Int.reduceNeg, Int.reduceBEq, Int.reduceBNe, Int.reduceEq, Int.reduceGT, Int.reduceGE, Int.reduceMul, Int.reduceToNat, Nat.reduceMul, reduceCtorEq, t0, t1, t2, t7, t9, t10, q4, q5, q6, q7, w1', q8, q9, q10] <;> rfl), by (simp only [push_cast, ↓reduceIte, Nat.reduceEqDiff, Nat.reduceAdd, Nat.reduceLeDiff, Nat.reduceLT, Int.reduceLE, Int.reduceLT, Int.reduceAdd, Int.reduceSub, Int.reduceNeg, Int.reduceBEq, Int.reduceBNe, Int.reduceEq, Int.reduceGT, Int.reduceGE, Int.reduceMul, Int.reduceToNat, Nat.reduceMul, reduceCtorEq, t0, t1, t2, t7, t9, t10, q4, q5, q6, q7, w1', q8, q9, q10] <;> rfl), by (simp only [push_cast, ↓reduceIte, Nat.reduceEqDiff, Nat.reduceAdd, Nat.reduceLeDiff, Nat.reduceLT, Int.reduceLE, Int.reduceLT, Int.reduceAdd, Int.reduceSub, Int.reduceNeg, Int.reduceBEq, Int.reduceBNe, Int.reduceEq, Int.reduceGT, Int.reduceGE, Int.reduceMul, Int.reduceToNat, Nat.reduceMul, reduceCtorEq, t0, t1, t2, t7, t9, t10, q4, q5, q6, q7, w1', q8, q9, q10] <;> rfl), by (simp only [push_cast, ↓reduceIte, Nat.reduceEqDiff, Nat.reduceAdd, Nat.reduceLeDiff, Nat.reduceLT, Int.reduceLE, Int.reduceLT, Int.reduceAdd, Int.reduceSub, Int.reduceNeg, Int.reduceBEq, Int.reduceBNe, Int.reduceEq, Int.reduceGT, Int.reduceGE, Int.reduceMul, Int.reduceToNat, Nat.reduceMul, reduceCtorEq, t0, t1, t2, t7, t9, t10, q4, q5, q6, q7, w1', q8, q9, q10] <;> rfl), o3, hs3, tr3, hp3, hW, hWb, ?_⟩))
                rw [hC3]
                unfold crash1
                rw [if_neg hu, if_neg (by rw [List.getElem?_eq_getElem hk2, hv]; simp)]
            · have q8 : ((k : Int) < (keep.length : Int)) = False := by simp; omega
              (refine aw_regionL hS (by kernel_rfl) ?_; repeat (first | apply vr0u | apply vr4 | apply b_tt | apply b_ff | apply b_tf | apply b_ft | apply b_no | exact isD.mk rfl | (apply eqG; (simp only [push_cast, ↓reduceIte, Nat.reduceEqDiff, Nat.reduceAdd, Nat.reduceLeDiff, Nat.reduceLT, Int.reduceLE, Int.reduceLT, Int.reduceAdd, Int.reduceSub, Int.reduceNeg, Int.reduceBEq, Int.reduceBNe, Int.reduceEq, Int.reduceGT, Int.reduceGE, Int.reduceMul, Int.reduceToNat, Nat.reduceMul, reduceCtorEq, t0, t1, t2, t7, t9, t10, q4, q5, q6, q7, w1', q8] <;> rfl)) | exact (rfl : app (swap _ _) _ = _)))
              refine vr_nil (aw_then ?_)
              refine aw_false (by (simp only [push_cast, ↓reduceIte, Nat.reduceEqDiff, Nat.reduceAdd, Nat.reduceLeDiff, Nat.reduceLT, Int.reduceLE, Int.reduceLT, Int.reduceAdd, Int.reduceSub, Int.reduceNeg, Int.reduceBEq, Int.reduceBNe, Int.reduceEq, Int.reduceGT, Int.reduceGE, Int.reduceMul, Int.reduceToNat, Nat.reduceMul, reduceCtorEq, t0, t1, t2, t7, t9, t10, q4, q5, q6, q7, w1', q8] <;> rfl)) (AWp.skip (aw_in (aw_then ⟨w3, W, A3, X3, by (simp only [push_cast, ↓reduceIte, Nat.reduceEqDiff, Nat.reduceAdd, Nat.reduceLeDiff, Nat.reduceLT, Int.reduceLE, Int.reduceLT, Int.reduceAdd, Int.reduceSub, Int.reduceNeg, Int.reduceBEq, Int.reduceBNe, Int.reduceEq, Int.reduceGT, Int.reduceGE, Int.reduceMul, Int.reduceToNat, Nat.reduceMul, reduceCtorEq, t0, t1, t2, t7, t9, t10, q4, q5, q6, q7, w1', q8] <;> rfl), by (simp only [push_cast, ↓reduceIte, Nat.reduceEqDiff, Nat.reduceAdd, Nat.reduceLeDiff, Nat.reduceLT, Int.reduceLE, Int.reduceLT, Int.reduceAdd, Int.reduceSub, Int.reduceNeg, Int.reduceBEq, Int.reduceBNe, Int.reduceEq, Int.reduceGT, Int.reduceGE, Int.reduceMul, Int.reduceToNat, Nat.reduceMul, reduceCtorEq, t0, t1, t2, t7, t9, t10, q4, q5, q6, q7, w1', q8] <;> rfl), by (simp only [push_cast, ↓reduceIte, Nat.reduceEqDiff, Nat.reduceAdd, Nat.reduceLeDiff, Nat.reduceLT, Int.reduceLE, Int.reduceLT, Int.reduceAdd, Int.reduceSub, Int.reduceNeg, Int.reduceBEq, Int.reduceBNe, Int.reduceEq, Int.reduceGT, Int.reduceGE, Int.reduceMul, Int.reduceToNat, Nat.reduceMul, reduceCtorEq, t0, t1, t2, t7, t9, t10, q4, q5, q6, q7, w1', q8] <;> rfl), by (simp only [push_cast, ↓reduceIte, Nat.reduceEqDiff, Nat.reduceAdd, Nat.reduceLeDiff, Nat.reduceLT, Int.reduceLE, Int.reduceLT, Int.reduceAdd, Int.reduceSub, Int.reduceNeg, Int.reduceBEq, Int.reduceBNe, Int.reduceEq, Int.reduceGT, Int.reduceGE, Int.reduceMul, Int.reduceToNat, Nat.reduceMul, reduceCtorEq, t0, t1, t2, t7, t9, t10, q4, q5, q6, q7, w1', q8] <;> rfl), by (simp only [push_cast, ↓reduceIte, Nat.reduceEqDiff, Nat.reduceAdd, Nat.reduceLeDiff, Nat.reduceLT, Int.reduceLE, Int.reduceLT, Int.reduceAdd, Int.reduceSub, Int.reduceNeg, Int.reduceBEq, Int.reduceBNe, Int.reduceEq, Int.reduceGT, Int.reduceGE, Int.reduceMul, Int.reduceToNat, Nat.reduceMul, reduceCtorEq, t0, t1, t2, t7, t9, t10, q4, q5, q6, q7, w1', q8] <;> rfl), by (simp only [push_cast, ↓reduceIte, Nat.reduceEqDiff, Nat.reduceAdd, Nat.reduceLeDiff, Nat.reduceLT, Int.reduceLE, Int.reduceLT, Int.reduceAdd, Int.reduceSub, Int.reduceNeg, Int.reduceBEq, Int.reduceBNe, Int.reduceEq, Int.reduceGT, Int.reduceGE, Int.reduceMul, Int.reduceToNat, Nat.reduceMul, reduceCtorEq, t0, t1, t2, t7, t9, t10, q4, q5, q6, q7, w1', q8] <;> rfl), o3, hs3, tr3, hp3, hW, hWb, ?_⟩)))
              rw [hC3]
              unfold crash1
              rw [if_neg hu, if_neg (by rw [List.getElem?_eq_none (by omega)]; simp)]
        · rintro t4 h4 n4 - ⟨w4, W', A4, X4, t0, t1, t2, t7, t9, t10, o4, s4, tr4, p4, hW', hWb', hC'⟩
          (refine aw_regionL hS (by kernel_rfl) ?_; repeat (first | apply vr0u | apply vr4 | apply b_tt | apply b_ff | apply b_tf | apply b_ft | apply b_no | exact isD.mk rfl | (apply eqG; (simp only [push_cast, ↓reduceIte, Nat.reduceEqDiff, Nat.reduceAdd, Nat.reduceLeDiff, Nat.reduceLT, Int.reduceLE, Int.reduceLT, Int.reduceAdd, Int.reduceSub, Int.reduceNeg, Int.reduceBEq, Int.reduceBNe, Int.reduceEq, Int.reduceGT, Int.reduceGE, Int.reduceMul, Int.reduceToNat, Nat.reduceMul, reduceCtorEq, t0, t1, t2, t7, t9, t10, w1'] <;> rfl)) | exact (rfl : app (swap _ _) _ = _)))
          refine vr_nil (aw_then ⟨m.length - (k + 1), by omega, k + 1, w4, W', rfl, hk, A4, X4, by (simp only [push_cast, ↓reduceIte, Nat.reduceEqDiff, Nat.reduceAdd, Nat.reduceLeDiff, Nat.reduceLT, Int.reduceLE, Int.reduceLT, Int.reduceAdd, Int.reduceSub, Int.reduceNeg, Int.reduceBEq, Int.reduceBNe, Int.reduceEq, Int.reduceGT, Int.reduceGE, Int.reduceMul, Int.reduceToNat, Nat.reduceMul, reduceCtorEq, t0, t1, t2, t7, t9, t10, w1'] <;> rfl), by (simp only [push_cast, ↓reduceIte, Nat.reduceEqDiff, Nat.reduceAdd, Nat.reduceLeDiff, Nat.reduceLT, Int.reduceLE, Int.reduceLT, Int.reduceAdd, Int.reduceSub, Int.reduceNeg, Int.reduceBEq, Int.reduceBNe, Int.reduceEq, Int.reduceGT, Int.reduceGE, Int.reduceMul, Int.reduceToNat, Nat.reduceMul, reduceCtorEq, t0, t1, t2, t7, t9, t10, w1'] <;> rfl), by (simp only [push_cast, ↓reduceIte, Nat.reduceEqDiff, Nat.reduceAdd, Nat.reduceLeDiff, Nat.reduceLT, Int.reduceLE, Int.reduceLT, Int.reduceAdd, Int.reduceSub, Int.reduceNeg, Int.reduceBEq, Int.reduceBNe, Int.reduceEq, Int.reduceGT, Int.reduceGE, Int.reduceMul, Int.reduceToNat, Nat.reduceMul, reduceCtorEq, t0, t1, t2, t7, t9, t10, w1'] <;> rfl), by (simp only [push_cast, ↓reduceIte, Nat.reduceEqDiff, Nat.reduceAdd, Nat.reduceLeDiff, Nat.reduceLT, Int.reduceLE, Int.reduceLT, Int.reduceAdd, Int.reduceSub, Int.reduceNeg, Int.reduceBEq, Int.reduceBNe, Int.reduceEq, Int.reduceGT, Int.reduceGE, Int.reduceMul, Int.reduceToNat, Nat.reduceMul, reduceCtorEq, t0, t1, t2, t7, t9, t10, w1'] <;> rfl), by (simp only [push_cast, ↓reduceIte, Nat.reduceEqDiff, Nat.reduceAdd, Nat.reduceLeDiff, Nat.reduceLT, Int.reduceLE, Int.reduceLT, Int.reduceAdd, Int.reduceSub, Int.reduceNeg, Int.reduceBEq, Int.reduceBNe, Int.reduceEq, Int.reduceGT, Int.reduceGE, Int.reduceMul, Int.reduceToNat, Nat.reduceMul, reduceCtorEq, t0, t1, t2, t7, t9, t10, w1'] <;> rfl), by (simp only [push_cast, ↓reduceIte, Nat.reduceEqDiff, Nat.reduceAdd, Nat.reduceLeDiff, Nat.reduceLT, Int.reduceLE, Int.reduceLT, Int.reduceAdd, Int.reduceSub, Int.reduceNeg, Int.reduceBEq, Int.reduceBNe, Int.reduceEq, Int.reduceGT, Int.reduceGE, Int.reduceMul, Int.reduceToNat, Nat.reduceMul, reduceCtorEq, t0, t1, t2, t7, t9, t10, w1'] <;> rfl), o4, s4, tr4, p4, hW', hWb', hC'⟩)
      · have q1 : ((k : Int) < (m.length : Int)) = False := by simp; omega
        refine AWp.seq ?_
        refine AWp.seq ?_
        (refine aw_regionL hS (by kernel_rfl) ?_; repeat (first | apply vr0u | apply vr4 | apply b_tt | apply b_ff | apply b_tf | apply b_ft | apply b_no | exact isD.mk rfl | (apply eqG; (simp only [push_cast, ↓reduceIte, Nat.reduceEqDiff, Nat.reduceAdd, Nat.reduceLeDiff, Nat.reduceLT, Int.reduceLE, Int.reduceLT, Int.reduceAdd, Int.reduceSub, Int.reduceNeg, Int.reduceBEq, Int.reduceBNe, Int.reduceEq, Int.reduceGT, Int.reduceGE, Int.reduceMul, Int.reduceToNat, Nat.reduceMul, reduceCtorEq, t0, t1, t2, t7, t9, t10, q1] <;> rfl)) | exact (rfl : app (swap _ _) _ = _)))
        refine vr_nil (aw_then ?_)
        refine aw_false (by (simp only [push_cast, ↓reduceIte, Nat.reduceEqDiff, Nat.reduceAdd, Nat.reduceLeDiff, Nat.reduceLT, Int.reduceLE, Int.reduceLT, Int.reduceAdd, Int.reduceSub, Int.reduceNeg, Int.reduceBEq, Int.reduceBNe, Int.reduceEq, Int.reduceGT, Int.reduceGE, Int.reduceMul, Int.reduceToNat, Nat.reduceMul, reduceCtorEq, t0, t1, t2, t7, t9, t10, q1] <;> rfl)) (AWp.exit (aw_thru (aw_thru (aw_exit (aw_then ?_)))))
        exact ⟨w, W, A, X, by (simp only [push_cast, ↓reduceIte, Nat.reduceEqDiff, Nat.reduceAdd, Nat.reduceLeDiff, Nat.reduceLT, Int.reduceLE, Int.reduceLT, Int.reduceAdd, Int.reduceSub, Int.reduceNeg, Int.reduceBEq, Int.reduceBNe, Int.reduceEq, Int.reduceGT, Int.reduceGE, Int.reduceMul, Int.reduceToNat, Nat.reduceMul, reduceCtorEq, t0, t1, t2, t7, t9, t10, q1] <;> rfl), by (simp only [push_cast, ↓reduceIte, Nat.reduceEqDiff, Nat.reduceAdd, Nat.reduceLeDiff, Nat.reduceLT, Int.reduceLE, Int.reduceLT, Int.reduceAdd, Int.reduceSub, Int.reduceNeg, Int.reduceBEq, Int.reduceBNe, Int.reduceEq, Int.reduceGT, Int.reduceGE, Int.reduceMul, Int.reduceToNat, Nat.reduceMul, reduceCtorEq, t0, t1, t2, t7, t9, t10, q1] <;> rfl), by (simp only [push_cast, ↓reduceIte, Nat.reduceEqDiff, Nat.reduceAdd, Nat.reduceLeDiff, Nat.reduceLT, Int.reduceLE, Int.reduceLT, Int.reduceAdd, Int.reduceSub, Int.reduceNeg, Int.reduceBEq, Int.reduceBNe, Int.reduceEq, Int.reduceGT, Int.reduceGE, Int.reduceMul, Int.reduceToNat, Nat.reduceMul, reduceCtorEq, t0, t1, t2, t7, t9, t10, q1] <;> rfl), by (simp only [push_cast, ↓reduceIte, Nat.reduceEqDiff, Nat.reduceAdd, Nat.reduceLeDiff, Nat.reduceLT, Int.reduceLE, Int.reduceLT, Int.reduceAdd, Int.reduceSub, Int.reduceNeg, Int.reduceBEq, Int.reduceBNe, Int.reduceEq, Int.reduceGT, Int.reduceGE, Int.reduceMul, Int.reduceToNat, Nat.reduceMul, reduceCtorEq, t0, t1, t2, t7, t9, t10, q1] <;> rfl), ho, hs, by omega, hW, hWb, hC⟩
  · rintro t4 g4 m4 - ⟨w4, W, A4, X4, t1, t2, t7, t9, o4, s4, p4, hW, hWb, hC⟩
    obtain ⟨S2, hS2, h10, -⟩ := sum_here ok_DE (A4.s10 (by omega) o4 z1 keep torn)
    refine AWp.seq ?_
    refine aw_regionL hS2 (by kernel_rfl) ?_
    repeat (first | apply vr0u | apply vr4 | apply b_tt | apply b_ff | apply b_tf | apply b_ft | apply b_no | exact isD.mk rfl | (apply eqG; (simp only [push_cast, ↓reduceIte, Nat.reduceEqDiff, Nat.reduceAdd, Nat.reduceLeDiff, Nat.reduceLT, Int.reduceLE, Int.reduceLT, Int.reduceAdd, Int.reduceSub, Int.reduceNeg, Int.reduceBEq, Int.reduceBNe, Int.reduceEq, Int.reduceGT, Int.reduceGE, Int.reduceMul, Int.reduceToNat, Nat.reduceMul, reduceCtorEq, t1, t2, t7, t9, h10] <;> rfl)) | exact (rfl : app (swap _ _) _ = _))
    refine vr_nil (aw_then ?_)
    have T4 := A4.tCrash keep torn
    have A5 := A4.turn T4
    have X5 := X4.turn A4 T4
    have f5 : (w4.crash keep torn (m4 + w4.pend.length)).off = true ∧ (w4.crash keep torn (m4 + w4.pend.length)).safe.length = 4 ∧ (w4.crash keep torn (m4 + w4.pend.length)).now = W.map secOf ∧ (w4.crash keep torn (m4 + w4.pend.length)).trip = none ∧ (w4.crash keep torn (m4 + w4.pend.length)).pend = [] :=
      ⟨rfl, by show (crashN _ _ _ _ _).length = 4; rw [crashN_len]; exact s4, hC, rfl, rfl⟩
    clear h10 hS2 T4
    clear S2
    generalize w4.crash keep torn (m4 + w4.pend.length) = w5 at A5 X5 f5 ⊢
    generalize m4 + w4.pend.length + 1 = m5 at A5 X5 ⊢
    generalize app (swap (w4.cont n) (w5.cont n)) g4 = g5 at A5 X5 ⊢
    obtain ⟨o5, s5, n5, tr5, p5⟩ := f5
    obtain ⟨S2, hS2, h11, hne⟩ := sum_here ok_DE (A5.s11 0)
    have e0 : w5.read 0 = (.ro true [] 0, 14) := by simp [DW.read, wrongE, o5]
    rw [e0] at h11
    have h12 := at12e A5.F
    rw [o5] at h12
    have h12 : S2 12 [.p n 0] g5 = .pure (.b true) := by rw [hne 12 (by decide)]; exact h12
    refine AWp.seq ?_
    refine aw_regionL hS2 (by kernel_rfl) ?_
    repeat (first | apply vr0u | apply vr4 | apply b_tt | apply b_ff | apply b_tf | apply b_ft | apply b_no | exact isD.mk rfl | (apply eqG; (simp only [push_cast, ↓reduceIte, Nat.reduceEqDiff, Nat.reduceAdd, Nat.reduceLeDiff, Nat.reduceLT, Int.reduceLE, Int.reduceLT, Int.reduceAdd, Int.reduceSub, Int.reduceNeg, Int.reduceBEq, Int.reduceBNe, Int.reduceEq, Int.reduceGT, Int.reduceGE, Int.reduceMul, Int.reduceToNat, Nat.reduceMul, reduceCtorEq, t1, t2, t7, t9, h11, h12] <;> rfl)) | exact (rfl : app (swap _ _) _ = _))
    refine vr_nil (aw_then ?_)
    refine AWp.seq ?_
    refine AWp.seq ?_
    refine aw_regionL hS2 (by kernel_rfl) ?_
    repeat (first | apply vr0u | apply vr4 | apply b_tt | apply b_ff | apply b_tf | apply b_ft | apply b_no | exact isD.mk rfl | (apply eqG; (simp only [push_cast, ↓reduceIte, Nat.reduceEqDiff, Nat.reduceAdd, Nat.reduceLeDiff, Nat.reduceLT, Int.reduceLE, Int.reduceLT, Int.reduceAdd, Int.reduceSub, Int.reduceNeg, Int.reduceBEq, Int.reduceBNe, Int.reduceEq, Int.reduceGT, Int.reduceGE, Int.reduceMul, Int.reduceToNat, Nat.reduceMul, reduceCtorEq, t1, t2, t7, t9, h11, h12] <;> rfl)) | exact (rfl : app (swap _ _) _ = _))
    refine vr_nil (aw_then ?_)
    refine aw_false (by (simp only [push_cast, ↓reduceIte, Nat.reduceEqDiff, Nat.reduceAdd, Nat.reduceLeDiff, Nat.reduceLT, Int.reduceLE, Int.reduceLT, Int.reduceAdd, Int.reduceSub, Int.reduceNeg, Int.reduceBEq, Int.reduceBNe, Int.reduceEq, Int.reduceGT, Int.reduceGE, Int.reduceMul, Int.reduceToNat, Nat.reduceMul, reduceCtorEq, t1, t2, t7, t9, h11, h12] <;> rfl)) (AWp.skip (aw_then ?_))
    clear h11 h12 hne hS2 e0
    clear S2
    obtain ⟨S2, hS2, h13, -⟩ := sum_here ok_DE A5.s13
    refine AWp.seq ?_
    refine aw_regionL hS2 (by kernel_rfl) ?_
    repeat (first | apply vr0u | apply vr4 | apply b_tt | apply b_ff | apply b_tf | apply b_ft | apply b_no | exact isD.mk rfl | (apply eqG; (simp only [push_cast, ↓reduceIte, Nat.reduceEqDiff, Nat.reduceAdd, Nat.reduceLeDiff, Nat.reduceLT, Int.reduceLE, Int.reduceLT, Int.reduceAdd, Int.reduceSub, Int.reduceNeg, Int.reduceBEq, Int.reduceBNe, Int.reduceEq, Int.reduceGT, Int.reduceGE, Int.reduceMul, Int.reduceToNat, Nat.reduceMul, reduceCtorEq, t1, t2, t7, t9, h13] <;> rfl)) | exact (rfl : app (swap _ _) _ = _))
    refine vr_nil (aw_then ?_)
    have A6 := A5.turn A5.tStart
    have X6 := X5.turn A5 A5.tStart
    have f6 : w5.start.off = false ∧ w5.start.safe.length = 4 ∧ w5.start.now = W.map secOf ∧ w5.start.trip = none ∧ w5.start.pend = [] := ⟨rfl, s5, n5, tr5, p5⟩
    clear h13 hS2
    clear S2
    generalize w5.start = w6 at A6 X6 f6 ⊢
    generalize app (swap (w5.cont n) (w6.cont n)) g5 = g6 at A6 X6 ⊢
    obtain ⟨o6, s6, n6, tr6, p6⟩ := f6
    refine AWp.cut (fun t' h' n' => ∀ x r, x < n → h x = some r → h' x = some r) ?_ ?_
    · refine AWp.seq ?_
      (refine aw_regionL hS (by kernel_rfl) ?_; repeat (first | apply vr0u | apply vr4 | apply b_tt | apply b_ff | apply b_tf | apply b_ft | apply b_no | exact isD.mk rfl | (apply eqG; (simp only [push_cast, ↓reduceIte, Nat.reduceEqDiff, Nat.reduceAdd, Nat.reduceLeDiff, Nat.reduceLT, Int.reduceLE, Int.reduceLT, Int.reduceAdd, Int.reduceSub, Int.reduceNeg, Int.reduceBEq, Int.reduceBNe, Int.reduceEq, Int.reduceGT, Int.reduceGE, Int.reduceMul, Int.reduceToNat, Nat.reduceMul, reduceCtorEq, t1, t2, t7, t9] <;> rfl)) | exact (rfl : app (swap _ _) _ = _)))
      refine vr_nil (aw_then ?_)
      refine AWp.block ?_
      refine AWp.loop (fun mm t' h' n' => ∃ (k : Nat) (w : DW), mm = 4 - k ∧ k ≤ 4 ∧ At h n h' n' n w ∧ Wt h' n' n m1 w (intsV W) ∧ t' 7 = .p n 0 ∧ t' 9 = .sl 1 m1 0 4 ∧ t' 12 = .i .i64 (k : Int) ∧ w.off = false ∧ w.safe.length = 4 ∧ w.trip = none ∧ w.pend.length ≤ k ∧ ∀ j, k ≤ j → w.now[j]? = (W.map secOf)[j]?) 4 ?_ ?_
      · exact ⟨0, w6, rfl, Nat.zero_le _, A6, X6, by (simp only [push_cast, ↓reduceIte, Nat.reduceEqDiff, Nat.reduceAdd, Nat.reduceLeDiff, Nat.reduceLT, Int.reduceLE, Int.reduceLT, Int.reduceAdd, Int.reduceSub, Int.reduceNeg, Int.reduceBEq, Int.reduceBNe, Int.reduceEq, Int.reduceGT, Int.reduceGE, Int.reduceMul, Int.reduceToNat, Nat.reduceMul, reduceCtorEq, t1, t2, t7, t9] <;> rfl), by (simp only [push_cast, ↓reduceIte, Nat.reduceEqDiff, Nat.reduceAdd, Nat.reduceLeDiff, Nat.reduceLT, Int.reduceLE, Int.reduceLT, Int.reduceAdd, Int.reduceSub, Int.reduceNeg, Int.reduceBEq, Int.reduceBNe, Int.reduceEq, Int.reduceGT, Int.reduceGE, Int.reduceMul, Int.reduceToNat, Nat.reduceMul, reduceCtorEq, t1, t2, t7, t9] <;> rfl), by (simp only [push_cast, ↓reduceIte, Nat.reduceEqDiff, Nat.reduceAdd, Nat.reduceLeDiff, Nat.reduceLT, Int.reduceLE, Int.reduceLT, Int.reduceAdd, Int.reduceSub, Int.reduceNeg, Int.reduceBEq, Int.reduceBNe, Int.reduceEq, Int.reduceGT, Int.reduceGE, Int.reduceMul, Int.reduceToNat, Nat.reduceMul, reduceCtorEq, t1, t2, t7, t9] <;> rfl), o6, s6, tr6, by rw [p6]; exact Nat.le_refl _, fun j _ => by rw [n6]⟩
      · rintro mm t' h' n' - ⟨k, w, rfl, hk4, A, X, t7, t9, t12, ho, hs, htr, hp, hnow⟩
        by_cases hk : k < 4
        · have hkW : k < W.length := by omega
          have q1 : ((k : Int) < 4) = True := by simp; omega
          have q2 : (0 ≤ (k : Int) ∧ (k : Int) < 4) = True := by simp; omega
          have q3 := intsV_get hkW
          have q4 := X.row
          have w1' : IntKind.wrap .i64 ((k : Int) + 1) = (k : Int) + 1 := IntWalk.i64_in _ (by omega)
          have hnk : w.now[k]? = some (secOf W[k]) := by rw [hnow k (Nat.le_refl _)]; simp [hkW]
          obtain ⟨S2, hS2, h11, hne⟩ := sum_here ok_DE (A.s11 (k : Int))
          by_cases hv : W[k] < 0
          · have hsec : secOf W[k] = none := by unfold secOf; rw [if_pos hv]
            rw [hsec] at hnk
            have e1 := read_torn ho (by omega) hnk
            rw [e1] at h11
            have qv : (W[k] < 0) = True := by simp [hv]
            have T := A.tWrite (k : Int) (sectorB [])
            have A3 := A.turn T
            have X3 := X.turn A T
            have e2 := write_ok (m := n') (i := (k : Int)) (b := sectorB []) ho (by omega) (by omega) (sectorB_len _) htr
            obtain ⟨S3, hS3, h8, hne3⟩ := sum_here hS2 (A.s8 (by omega) (k : Int) (x := .ro false (cellsB (sectorB [])) 64) (b := sectorB []) shows_sec)
            have h9 : S3 9 [.ro true [] 0] h' = .pure (.ro false (cellsB (sectorB [])) 64) := by rw [hne3 9 (by decide), hne 9 (by decide)]; exact at9e (by decide) (.inr (.inl ⟨rfl, rfl⟩))
            have e8 : (w.write n' k (sectorB [])).1 = 0 := by rw [e2]
            refine AWp.seq ?_
            refine AWp.seq ?_
            (refine aw_regionL hS (by kernel_rfl) ?_; repeat (first | apply vr0u | apply vr4 | apply b_tt | apply b_ff | apply b_tf | apply b_ft | apply b_no | exact isD.mk rfl | (apply eqG; (simp only [push_cast, ↓reduceIte, Nat.reduceEqDiff, Nat.reduceAdd, Nat.reduceLeDiff, Nat.reduceLT, Int.reduceLE, Int.reduceLT, Int.reduceAdd, Int.reduceSub, Int.reduceNeg, Int.reduceBEq, Int.reduceBNe, Int.reduceEq, Int.reduceGT, Int.reduceGE, Int.reduceMul, Int.reduceToNat, Nat.reduceMul, reduceCtorEq, t7, t9, t12, q1, q2, q3, q4, w1', h11, qv] <;> rfl)) | exact (rfl : app (swap _ _) _ = _)))
            refine vr_nil (aw_then ?_)
            refine aw_true (by (simp only [push_cast, ↓reduceIte, Nat.reduceEqDiff, Nat.reduceAdd, Nat.reduceLeDiff, Nat.reduceLT, Int.reduceLE, Int.reduceLT, Int.reduceAdd, Int.reduceSub, Int.reduceNeg, Int.reduceBEq, Int.reduceBNe, Int.reduceEq, Int.reduceGT, Int.reduceGE, Int.reduceMul, Int.reduceToNat, Nat.reduceMul, reduceCtorEq, t7, t9, t12, q1, q2, q3, q4, w1', h11, qv] <;> rfl)) (AWp.skip (aw_then ?_))
            refine AWp.seq ?_
            refine AWp.block ?_
            refine AWp.seq ?_
            refine aw_regionL hS2 (by kernel_rfl) ?_
            repeat (first | apply vr0u | apply vr4 | apply b_tt | apply b_ff | apply b_tf | apply b_ft | apply b_no | exact isD.mk rfl | (apply eqG; (simp only [push_cast, ↓reduceIte, Nat.reduceEqDiff, Nat.reduceAdd, Nat.reduceLeDiff, Nat.reduceLT, Int.reduceLE, Int.reduceLT, Int.reduceAdd, Int.reduceSub, Int.reduceNeg, Int.reduceBEq, Int.reduceBNe, Int.reduceEq, Int.reduceGT, Int.reduceGE, Int.reduceMul, Int.reduceToNat, Nat.reduceMul, reduceCtorEq, t7, t9, t12, q1, q2, q3, q4, w1', h11, qv] <;> rfl)) | exact (rfl : app (swap _ _) _ = _))
            refine vr_nil (aw_then ?_)
            refine AWp.seq ?_
            (refine aw_regionL hS (by kernel_rfl) ?_; repeat (first | apply vr0u | apply vr4 | apply b_tt | apply b_ff | apply b_tf | apply b_ft | apply b_no | exact isD.mk rfl | (apply eqG; (simp only [push_cast, ↓reduceIte, Nat.reduceEqDiff, Nat.reduceAdd, Nat.reduceLeDiff, Nat.reduceLT, Int.reduceLE, Int.reduceLT, Int.reduceAdd, Int.reduceSub, Int.reduceNeg, Int.reduceBEq, Int.reduceBNe, Int.reduceEq, Int.reduceGT, Int.reduceGE, Int.reduceMul, Int.reduceToNat, Nat.reduceMul, reduceCtorEq, t7, t9, t12, q1, q2, q3, q4, w1', h11, qv] <;> rfl)) | exact (rfl : app (swap _ _) _ = _)))
            refine vr_nil (aw_then ?_)
            refine aw_true (by (simp only [push_cast, ↓reduceIte, Nat.reduceEqDiff, Nat.reduceAdd, Nat.reduceLeDiff, Nat.reduceLT, Int.reduceLE, Int.reduceLT, Int.reduceAdd, Int.reduceSub, Int.reduceNeg, Int.reduceBEq, Int.reduceBNe, Int.reduceEq, Int.reduceGT, Int.reduceGE, Int.reduceMul, Int.reduceToNat, Nat.reduceMul, reduceCtorEq, t7, t9, t12, q1, q2, q3, q4, w1', h11, qv] <;> rfl)) ?_
            refine AWp.seq ?_
            refine AWp.seq ?_
            refine aw_regionL hS3 (by kernel_rfl) ?_
            repeat (first | apply vr0u | apply vr4 | apply b_tt | apply b_ff | apply b_tf | apply b_ft | apply b_no | exact isD.mk rfl | (apply eqG; (simp only [push_cast, ↓reduceIte, Nat.reduceEqDiff, Nat.reduceAdd, Nat.reduceLeDiff, Nat.reduceLT, Int.reduceLE, Int.reduceLT, Int.reduceAdd, Int.reduceSub, Int.reduceNeg, Int.reduceBEq, Int.reduceBNe, Int.reduceEq, Int.reduceGT, Int.reduceGE, Int.reduceMul, Int.reduceToNat, Nat.reduceMul, reduceCtorEq, t7, t9, t12, q1, q2, q3, q4, w1', h8, h9, e8] <;> rfl)) | exact (rfl : app (swap _ _) _ = _))
            refine vr_nil (aw_then ?_)
            refine aw_false (by (simp only [push_cast, ↓reduceIte, Nat.reduceEqDiff, Nat.reduceAdd, Nat.reduceLeDiff, Nat.reduceLT, Int.reduceLE, Int.reduceLT, Int.reduceAdd, Int.reduceSub, Int.reduceNeg, Int.reduceBEq, Int.reduceBNe, Int.reduceEq, Int.reduceGT, Int.reduceGE, Int.reduceMul, Int.reduceToNat, Nat.reduceMul, reduceCtorEq, t7, t9, t12, q1, q2, q3, q4, w1', h8, h9, e8] <;> rfl)) (AWp.skip (aw_then ?_))
            have f3 : (w.write n' k (sectorB [])).2.1.off = false ∧ (w.write n' k (sectorB [])).2.1.safe.length = 4 ∧ (w.write n' k (sectorB [])).2.1.pend.length ≤ k + 1 ∧ (w.write n' k (sectorB [])).2.1.trip = none ∧ (w.write n' k (sectorB [])).2.1.now = w.now.set k (some (sectorB [])) := by
              rw [e2]; exact ⟨ho, hs, by show (w.pend ++ [_]).length ≤ _; simp; omega, htr, by show w.now.set ((k : Int).toNat) _ = _; rw [Int.toNat_natCast]⟩
            clear h8 h9 hne hne3 hS2 hS3 h11 e2 T e8
            clear S2 S3
            generalize w.write n' k (sectorB []) = q at A3 X3 f3 ⊢
            obtain ⟨r3, w3, m3⟩ := q
            simp only at A3 X3 f3 ⊢
            generalize app (swap (w.cont n) (w3.cont n)) h' = g3 at A3 X3 ⊢
            obtain ⟨o3, s3, p3, tr3, n3⟩ := f3
            have hwl : w.now.length = 4 := by rw [A.ok.len]; exact hs
            obtain ⟨S2, hS2, h11, -⟩ := sum_here ok_DE (A3.s11 (k : Int))
            have e3 := read_at (w := w3) (i := k) (b := sectorB []) o3 (by omega) (by rw [n3, List.getElem?_set_self (by omega)])
            rw [e3] at h11
            have z0' : (cellsB (sectorB []))[0]? = some (.i .u8 0) := rfl
            have z1' : (sectorB []).length = 64 := rfl
            refine AWp.seq ?_
            refine aw_regionL hS2 (by kernel_rfl) ?_
            repeat (first | apply vr0u | apply vr4 | apply b_tt | apply b_ff | apply b_tf | apply b_ft | apply b_no | exact isD.mk rfl | (apply eqG; (simp only [push_cast, ↓reduceIte, Nat.reduceEqDiff, Nat.reduceAdd, Nat.reduceLeDiff, Nat.reduceLT, Int.reduceLE, Int.reduceLT, Int.reduceAdd, Int.reduceSub, Int.reduceNeg, Int.reduceBEq, Int.reduceBNe, Int.reduceEq, Int.reduceGT, Int.reduceGE, Int.reduceMul, Int.reduceToNat, Nat.reduceMul, reduceCtorEq, t7, t9, t12, w1', h11, z0', z1'] <;> rfl)) | exact (rfl : app (swap _ _) _ = _))
            refine vr_nil (aw_then ?_)
            refine AWp.seq ?_
            (refine aw_regionL hS (by kernel_rfl) ?_; repeat (first | apply vr0u | apply vr4 | apply b_tt | apply b_ff | apply b_tf | apply b_ft | apply b_no | exact isD.mk rfl | (apply eqG; (simp only [push_cast, ↓reduceIte, Nat.reduceEqDiff, Nat.reduceAdd, Nat.reduceLeDiff, Nat.reduceLT, Int.reduceLE, Int.reduceLT, Int.reduceAdd, Int.reduceSub, Int.reduceNeg, Int.reduceBEq, Int.reduceBNe, Int.reduceEq, Int.reduceGT, Int.reduceGE, Int.reduceMul, Int.reduceToNat, Nat.reduceMul, reduceCtorEq, t7, t9, t12, w1', h11, z0', z1'] <;> rfl)) | exact (rfl : app (swap _ _) _ = _)))
            refine vr_nil (aw_then ?_)
            refine aw_false (by (simp only [push_cast, ↓reduceIte, Nat.reduceEqDiff, Nat.reduceAdd, Nat.reduceLeDiff, Nat.reduceLT, Int.reduceLE, Int.reduceLT, Int.reduceAdd, Int.reduceSub, Int.reduceNeg, Int.reduceBEq, Int.reduceBNe, Int.reduceEq, Int.reduceGT, Int.reduceGE, Int.reduceMul, Int.reduceToNat, Nat.reduceMul, reduceCtorEq, t7, t9, t12, w1', h11, z0', z1'] <;> rfl)) (AWp.skip (aw_in (aw_then ?_)))
            (refine aw_regionL hS (by kernel_rfl) ?_; repeat (first | apply vr0u | apply vr4 | apply b_tt | apply b_ff | apply b_tf | apply b_ft | apply b_no | exact isD.mk rfl | (apply eqG; (simp only [push_cast, ↓reduceIte, Nat.reduceEqDiff, Nat.reduceAdd, Nat.reduceLeDiff, Nat.reduceLT, Int.reduceLE, Int.reduceLT, Int.reduceAdd, Int.reduceSub, Int.reduceNeg, Int.reduceBEq, Int.reduceBNe, Int.reduceEq, Int.reduceGT, Int.reduceGE, Int.reduceMul, Int.reduceToNat, Nat.reduceMul, reduceCtorEq, t7, t9, t12, w1', h11, z0', z1'] <;> rfl)) | exact (rfl : app (swap _ _) _ = _)))
            refine vr_nil (aw_then ⟨4 - (k + 1), by omega, k + 1, w3, rfl, hk, A3, X3, by (simp only [push_cast, ↓reduceIte, Nat.reduceEqDiff, Nat.reduceAdd, Nat.reduceLeDiff, Nat.reduceLT, Int.reduceLE, Int.reduceLT, Int.reduceAdd, Int.reduceSub, Int.reduceNeg, Int.reduceBEq, Int.reduceBNe, Int.reduceEq, Int.reduceGT, Int.reduceGE, Int.reduceMul, Int.reduceToNat, Nat.reduceMul, reduceCtorEq, t7, t9, t12, w1', h11, z0', z1'] <;> rfl), by (simp only [push_cast, ↓reduceIte, Nat.reduceEqDiff, Nat.reduceAdd, Nat.reduceLeDiff, Nat.reduceLT, Int.reduceLE, Int.reduceLT, Int.reduceAdd, Int.reduceSub, Int.reduceNeg, Int.reduceBEq, Int.reduceBNe, Int.reduceEq, Int.reduceGT, Int.reduceGE, Int.reduceMul, Int.reduceToNat, Nat.reduceMul, reduceCtorEq, t7, t9, t12, w1', h11, z0', z1'] <;> rfl), by (simp only [push_cast, ↓reduceIte, Nat.reduceEqDiff, Nat.reduceAdd, Nat.reduceLeDiff, Nat.reduceLT, Int.reduceLE, Int.reduceLT, Int.reduceAdd, Int.reduceSub, Int.reduceNeg, Int.reduceBEq, Int.reduceBNe, Int.reduceEq, Int.reduceGT, Int.reduceGE, Int.reduceMul, Int.reduceToNat, Nat.reduceMul, reduceCtorEq, t7, t9, t12, w1', h11, z0', z1'] <;> rfl), o3, s3, tr3, p3, fun j hj => ?_⟩)
            rw [n3, List.getElem?_set_ne (by omega)]
            exact hnow j (by omega)
          · have hsec : secOf W[k] = some (sectorB [UInt8.ofNat W[k].toNat]) := by unfold secOf; rw [if_neg hv]
            rw [hsec] at hnk
            have e1 := read_at ho (by omega) hnk
            rw [e1] at h11
            have qv : (W[k] < 0) = False := by simp; omega
            have z0' := byte_at (v := W[k]) (by omega) (hWb _ (List.getElem_mem hkW))
            have z1' : (sectorB [UInt8.ofNat W[k].toNat]).length = 64 := sectorB_len _
            have z2' : IntKind.wrap .i64 W[k] = W[k] := IntWalk.i64_in _ (by have := hWb _ (List.getElem_mem hkW); omega)
            refine AWp.seq ?_
            refine AWp.seq ?_
            (refine aw_regionL hS (by kernel_rfl) ?_; repeat (first | apply vr0u | apply vr4 | apply b_tt | apply b_ff | apply b_tf | apply b_ft | apply b_no | exact isD.mk rfl | (apply eqG; (simp only [push_cast, ↓reduceIte, Nat.reduceEqDiff, Nat.reduceAdd, Nat.reduceLeDiff, Nat.reduceLT, Int.reduceLE, Int.reduceLT, Int.reduceAdd, Int.reduceSub, Int.reduceNeg, Int.reduceBEq, Int.reduceBNe, Int.reduceEq, Int.reduceGT, Int.reduceGE, Int.reduceMul, Int.reduceToNat, Nat.reduceMul, reduceCtorEq, t7, t9, t12, q1, q2, q3, q4, w1', h11, qv, z0', z1', z2'] <;> rfl)) | exact (rfl : app (swap _ _) _ = _)))
            refine vr_nil (aw_then ?_)
            refine aw_true (by (simp only [push_cast, ↓reduceIte, Nat.reduceEqDiff, Nat.reduceAdd, Nat.reduceLeDiff, Nat.reduceLT, Int.reduceLE, Int.reduceLT, Int.reduceAdd, Int.reduceSub, Int.reduceNeg, Int.reduceBEq, Int.reduceBNe, Int.reduceEq, Int.reduceGT, Int.reduceGE, Int.reduceMul, Int.reduceToNat, Nat.reduceMul, reduceCtorEq, t7, t9, t12, q1, q2, q3, q4, w1', h11, qv, z0', z1', z2'] <;> rfl)) (AWp.skip (aw_then ?_))
            refine AWp.seq ?_
            refine AWp.block ?_
            refine AWp.seq ?_
            refine aw_regionL hS2 (by kernel_rfl) ?_
            repeat (first | apply vr0u | apply vr4 | apply b_tt | apply b_ff | apply b_tf | apply b_ft | apply b_no | exact isD.mk rfl | (apply eqG; (simp only [push_cast, ↓reduceIte, Nat.reduceEqDiff, Nat.reduceAdd, Nat.reduceLeDiff, Nat.reduceLT, Int.reduceLE, Int.reduceLT, Int.reduceAdd, Int.reduceSub, Int.reduceNeg, Int.reduceBEq, Int.reduceBNe, Int.reduceEq, Int.reduceGT, Int.reduceGE, Int.reduceMul, Int.reduceToNat, Nat.reduceMul, reduceCtorEq, t7, t9, t12, q1, q2, q3, q4, w1', h11, qv, z0', z1', z2'] <;> rfl)) | exact (rfl : app (swap _ _) _ = _))
            refine vr_nil (aw_then ?_)
            refine AWp.seq ?_
            (refine aw_regionL hS (by kernel_rfl) ?_; repeat (first | apply vr0u | apply vr4 | apply b_tt | apply b_ff | apply b_tf | apply b_ft | apply b_no | exact isD.mk rfl | (apply eqG; (simp only [push_cast, ↓reduceIte, Nat.reduceEqDiff, Nat.reduceAdd, Nat.reduceLeDiff, Nat.reduceLT, Int.reduceLE, Int.reduceLT, Int.reduceAdd, Int.reduceSub, Int.reduceNeg, Int.reduceBEq, Int.reduceBNe, Int.reduceEq, Int.reduceGT, Int.reduceGE, Int.reduceMul, Int.reduceToNat, Nat.reduceMul, reduceCtorEq, t7, t9, t12, q1, q2, q3, q4, w1', h11, qv, z0', z1', z2'] <;> rfl)) | exact (rfl : app (swap _ _) _ = _)))
            refine vr_nil (aw_then ?_)
            refine aw_false (by (simp only [push_cast, ↓reduceIte, Nat.reduceEqDiff, Nat.reduceAdd, Nat.reduceLeDiff, Nat.reduceLT, Int.reduceLE, Int.reduceLT, Int.reduceAdd, Int.reduceSub, Int.reduceNeg, Int.reduceBEq, Int.reduceBNe, Int.reduceEq, Int.reduceGT, Int.reduceGE, Int.reduceMul, Int.reduceToNat, Nat.reduceMul, reduceCtorEq, t7, t9, t12, q1, q2, q3, q4, w1', h11, qv, z0', z1', z2'] <;> rfl)) ?_
            refine AWp.seq ?_
            refine aw_drawsL [0, 1, 3, 7, 15, 31, 63, 7, 7, 391, 903, 2047, 4095] [] hS mixed (by kernel_rfl) (by kernel_rfl) ?_
            repeat (first | (refine vd0f (by decide) (by ((repeat (first | rewrite [hpL_t rfl] | rewrite [hpL_f rfl])); (simp only [hpL, app_cons, app_nil] <;> rfl))) (by (simp only [push_cast, ↓reduceIte, Nat.reduceEqDiff, Nat.reduceAdd, Nat.reduceLeDiff, Nat.reduceLT, Int.reduceLE, Int.reduceLT, Int.reduceAdd, Int.reduceSub, Int.reduceNeg, Int.reduceBEq, Int.reduceBNe, Int.reduceEq, Int.reduceGT, Int.reduceGE, Int.reduceMul, Int.reduceToNat, Nat.reduceMul, reduceCtorEq, t7, t9, t12, q1, q2, q3, q4, w1', h11, qv, z0', z1', z2'] <;> rfl)) ?_) | (refine vd0q rfl (by decide) rfl (by ((repeat (first | rewrite [hpL_t rfl] | rewrite [hpL_f rfl])); (simp only [hpL, app_cons, app_nil] <;> rfl))) (by (simp only [push_cast, ↓reduceIte, Nat.reduceEqDiff, Nat.reduceAdd, Nat.reduceLeDiff, Nat.reduceLT, Int.reduceLE, Int.reduceLT, Int.reduceAdd, Int.reduceSub, Int.reduceNeg, Int.reduceBEq, Int.reduceBNe, Int.reduceEq, Int.reduceGT, Int.reduceGE, Int.reduceMul, Int.reduceToNat, Nat.reduceMul, reduceCtorEq, t7, t9, t12, q1, q2, q3, q4, w1', h11, qv, z0', z1', z2'] <;> rfl)) (by simp) (by omega) (by intro u hu; simp only [List.mem_cons, List.not_mem_nil, or_false] at hu; rcases hu with rfl | rfl | rfl <;> simp only <;> omega) ?_) | (refine vd0w rfl (by decide) (by ((repeat (first | rewrite [hpL_t rfl] | rewrite [hpL_f rfl])); (simp only [hpL, app_cons, app_nil] <;> rfl))) (by (simp only [push_cast, ↓reduceIte, Nat.reduceEqDiff, Nat.reduceAdd, Nat.reduceLeDiff, Nat.reduceLT, Int.reduceLE, Int.reduceLT, Int.reduceAdd, Int.reduceSub, Int.reduceNeg, Int.reduceBEq, Int.reduceBNe, Int.reduceEq, Int.reduceGT, Int.reduceGE, Int.reduceMul, Int.reduceToNat, Nat.reduceMul, reduceCtorEq, t7, t9, t12, q1, q2, q3, q4, w1', h11, qv, z0', z1', z2'] <;> rfl)) (by omega) (by intro u hu; simp only [List.mem_cons, List.not_mem_nil, or_false] at hu; rcases hu with rfl | rfl | rfl <;> simp only <;> omega) ?_) | (apply vd0; (focus rfl)) | (apply vd0r; (focus rfl); (focus decide); (focus rfl)) | (apply vd0p; (focus decide)) | apply vd4 | apply b_tt | apply b_ff | apply b_tf | apply b_ft | apply b_no | exact isD.mk rfl | ((repeat (first | rewrite [hpL_t rfl] | rewrite [hpL_f rfl])); (simp only [hpL, app_cons, app_nil] <;> rfl)) | (apply eqG; (simp only [push_cast, ↓reduceIte, Nat.reduceEqDiff, Nat.reduceAdd, Nat.reduceLeDiff, Nat.reduceLT, Int.reduceLE, Int.reduceLT, Int.reduceAdd, Int.reduceSub, Int.reduceNeg, Int.reduceBEq, Int.reduceBNe, Int.reduceEq, Int.reduceGT, Int.reduceGE, Int.reduceMul, Int.reduceToNat, Nat.reduceMul, reduceCtorEq, t7, t9, t12, q1, q2, q3, q4, w1', h11, qv, z0', z1', z2'] <;> rfl)))
            (refine vd_nil (by simp only [hpL, app_cons, app_nil, if_true] <;> rfl) ?_)
            refine aw_then ?_
            refine aw_false (by (simp only [push_cast, ↓reduceIte, Nat.reduceEqDiff, Nat.reduceAdd, Nat.reduceLeDiff, Nat.reduceLT, Int.reduceLE, Int.reduceLT, Int.reduceAdd, Int.reduceSub, Int.reduceNeg, Int.reduceBEq, Int.reduceBNe, Int.reduceEq, Int.reduceGT, Int.reduceGE, Int.reduceMul, Int.reduceToNat, Nat.reduceMul, reduceCtorEq, t7, t9, t12, q1, q2, q3, q4, w1', h11, qv, z0', z1', z2'] <;> rfl)) (AWp.skip (aw_in (aw_then ?_)))
            (refine aw_regionL hS (by kernel_rfl) ?_; repeat (first | apply vr0u | apply vr4 | apply b_tt | apply b_ff | apply b_tf | apply b_ft | apply b_no | exact isD.mk rfl | (apply eqG; (simp only [push_cast, ↓reduceIte, Nat.reduceEqDiff, Nat.reduceAdd, Nat.reduceLeDiff, Nat.reduceLT, Int.reduceLE, Int.reduceLT, Int.reduceAdd, Int.reduceSub, Int.reduceNeg, Int.reduceBEq, Int.reduceBNe, Int.reduceEq, Int.reduceGT, Int.reduceGE, Int.reduceMul, Int.reduceToNat, Nat.reduceMul, reduceCtorEq, t7, t9, t12, q1, q2, q3, q4, w1', h11, qv, z0', z1', z2'] <;> rfl)) | exact (rfl : app (swap _ _) _ = _)))
            refine vr_nil (aw_then ⟨4 - (k + 1), by omega, k + 1, w, rfl, hk, A, X, by (simp only [push_cast, ↓reduceIte, Nat.reduceEqDiff, Nat.reduceAdd, Nat.reduceLeDiff, Nat.reduceLT, Int.reduceLE, Int.reduceLT, Int.reduceAdd, Int.reduceSub, Int.reduceNeg, Int.reduceBEq, Int.reduceBNe, Int.reduceEq, Int.reduceGT, Int.reduceGE, Int.reduceMul, Int.reduceToNat, Nat.reduceMul, reduceCtorEq, t7, t9, t12, q1, q2, q3, q4, w1', h11, qv, z0', z1', z2'] <;> rfl), by (simp only [push_cast, ↓reduceIte, Nat.reduceEqDiff, Nat.reduceAdd, Nat.reduceLeDiff, Nat.reduceLT, Int.reduceLE, Int.reduceLT, Int.reduceAdd, Int.reduceSub, Int.reduceNeg, Int.reduceBEq, Int.reduceBNe, Int.reduceEq, Int.reduceGT, Int.reduceGE, Int.reduceMul, Int.reduceToNat, Nat.reduceMul, reduceCtorEq, t7, t9, t12, q1, q2, q3, q4, w1', h11, qv, z0', z1', z2'] <;> rfl), by (simp only [push_cast, ↓reduceIte, Nat.reduceEqDiff, Nat.reduceAdd, Nat.reduceLeDiff, Nat.reduceLT, Int.reduceLE, Int.reduceLT, Int.reduceAdd, Int.reduceSub, Int.reduceNeg, Int.reduceBEq, Int.reduceBNe, Int.reduceEq, Int.reduceGT, Int.reduceGE, Int.reduceMul, Int.reduceToNat, Nat.reduceMul, reduceCtorEq, t7, t9, t12, q1, q2, q3, q4, w1', h11, qv, z0', z1', z2'] <;> rfl), ho, hs, htr, by omega, fun j hj => hnow j (by omega)⟩)
        · have q1 : ((k : Int) < 4) = False := by simp; omega
          refine AWp.seq ?_
          refine AWp.seq ?_
          (refine aw_regionL hS (by kernel_rfl) ?_; repeat (first | apply vr0u | apply vr4 | apply b_tt | apply b_ff | apply b_tf | apply b_ft | apply b_no | exact isD.mk rfl | (apply eqG; (simp only [push_cast, ↓reduceIte, Nat.reduceEqDiff, Nat.reduceAdd, Nat.reduceLeDiff, Nat.reduceLT, Int.reduceLE, Int.reduceLT, Int.reduceAdd, Int.reduceSub, Int.reduceNeg, Int.reduceBEq, Int.reduceBNe, Int.reduceEq, Int.reduceGT, Int.reduceGE, Int.reduceMul, Int.reduceToNat, Nat.reduceMul, reduceCtorEq, t7, t9, t12, q1] <;> rfl)) | exact (rfl : app (swap _ _) _ = _)))
          refine vr_nil (aw_then ?_)
          refine aw_false (by (simp only [push_cast, ↓reduceIte, Nat.reduceEqDiff, Nat.reduceAdd, Nat.reduceLeDiff, Nat.reduceLT, Int.reduceLE, Int.reduceLT, Int.reduceAdd, Int.reduceSub, Int.reduceNeg, Int.reduceBEq, Int.reduceBNe, Int.reduceEq, Int.reduceGT, Int.reduceGE, Int.reduceMul, Int.reduceToNat, Nat.reduceMul, reduceCtorEq, t7, t9, t12, q1] <;> rfl)) (AWp.exit (aw_thru (aw_thru (aw_exit (aw_then ?_)))))
          exact A.fr
    · rintro t5 g5 m5 - hfr
      have h14 := at14 g5
      refine AWp.seq ?_
      (refine aw_regionL hS (by kernel_rfl) ?_; repeat (first | apply vr0u | apply vr4 | apply b_tt | apply b_ff | apply b_tf | apply b_ft | apply b_no | exact isD.mk rfl | (apply eqG; (simp only [push_cast, ↓reduceIte, Nat.reduceEqDiff, Nat.reduceAdd, Nat.reduceLeDiff, Nat.reduceLT, Int.reduceLE, Int.reduceLT, Int.reduceAdd, Int.reduceSub, Int.reduceNeg, Int.reduceBEq, Int.reduceBNe, Int.reduceEq, Int.reduceGT, Int.reduceGE, Int.reduceMul, Int.reduceToNat, Nat.reduceMul, reduceCtorEq, h14] <;> rfl)) | exact (rfl : app (swap _ _) _ = _)))
      refine vr_nil (aw_then ?_)
      refine AWp.ret ?_
      exact Out.yes (.inr rfl) rfl (by (simp only [push_cast, ↓reduceIte, Nat.reduceEqDiff, Nat.reduceAdd, Nat.reduceLeDiff, Nat.reduceLT, Int.reduceLE, Int.reduceLT, Int.reduceAdd, Int.reduceSub, Int.reduceNeg, Int.reduceBEq, Int.reduceBNe, Int.reduceEq, Int.reduceGT, Int.reduceGE, Int.reduceMul, Int.reduceToNat, Nat.reduceMul, reduceCtorEq, h14] <;> rfl)) hfr

end Go.Proofs.Ytepfknnffooaiaa
