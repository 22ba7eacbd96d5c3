import Derived.Test.YtepfknnffooaiaaDoorDoM

namespace Go.Proofs.YtepfknnffooaiaaDoor
open Go.Av
set_option maxRecDepth 100000
set_option maxHeartbeats 1000000
set_option linter.unusedSimpArgs false
set_option linter.unusedVariables false
attribute [local push_cast] stepE callR resE aeff aev ofC ofC1 put_at Av.put_none inTmps List.getD_cons_zero List.getD_cons_succ AV.boxable if_true if_false AV.cells aload place app_cons app_nil upd_same Av.part abin aconv aindexAddr fillA splice_one abuiltin alen amax amin aun aindex Option.map_some Option.isSome_some List.map_cons List.map_nil List.nil_append List.append_nil List.cons_append Nat.le_refl Nat.zero_add Nat.add_zero List.length_cons List.length_nil List.drop_succ_cons List.drop_zero List.take_succ_cons List.take_zero beq_self_eq_true bne_self_eq_false Bool.not_true Bool.not_false List.set_cons_zero List.set_cons_succ Bool.false_eq_true IntWalk.i64_in decide_true decide_false Int.toNat_zero and_self and_true true_and List.getElem?_cons_zero List.getElem?_cons_succ aappend aapp view Bool.and_true Bool.true_and Nat.mul_one Option.map_none aslice asliceB nilOp Int.toNat_natCast und_30 agT_3 szT_3 kiT_3 agT_5 szT_5 kiT_5 agT_24 szT_24 kiT_24 agT_62 szT_62 kiT_62 agT_4 szT_4 kiT_4 agT_9 szT_9 kiT_9 agT_44 szT_44 kiT_44 agT_45 szT_45 kiT_45 agT_30 szT_30 kiT_30 agT_22 szT_22 kiT_22 agT_41 szT_41 kiT_41 agT_51 szT_51 kiT_51 agT_52 szT_52 kiT_52 agT_23 szT_23 kiT_23 agT_53 szT_53 kiT_53 agT_27 szT_27 kiT_27 agT_89 szT_89 kiT_89 agT_66 szT_66 kiT_66 agT_20 szT_20 kiT_20 slT_45 slT_44 slT_30 slT_22 slT_41 slT_51 slT_52 zeT_3 zeT_4 zeT_5 zeT_30 zeT_24 flT_55_0 flT_55_1 flT_55_2 flT_55_3 flT_55_4 agT_55 szT_55 buT_55 zeT_55 flT_57_0 flT_57_1 agT_57 szT_57 buT_57 zeT_57 flT_74_0 flT_74_1 agT_74 szT_74 buT_74 zeT_74 flT_77_0 flT_77_1 flT_77_2 agT_77 szT_77 buT_77 zeT_77 flT_47_0 flT_47_1 flT_47_2 flT_47_3 flT_47_4 flT_47_5 agT_47 szT_47 buT_47 zeT_47 flT_61_0 flT_61_1 agT_61 szT_61 buT_61 zeT_61 flT_64_0 flT_64_1 agT_64 szT_64 buT_64 zeT_64 flT_91_0 flT_91_1 agT_91 szT_91 buT_91 zeT_91 ptT_23 ptT_53 ptT_27 ptT_89 und_30 

/-! ### a store: its state, and how it is opened -/
theorem s28 (z : Bool) (st : List UInt8) (hz : z = true → st = []) (hl : st.length ≤ 1000000) : PCalls Tryd.prog 28 [.ro z (cellsB st) st.length] (.ro z (cellsB st) st.length) := by
  cases z with
  | false => exact c24 st hl _ SumOk.none
  | true => obtain rfl := hz rfl; exact c24n _ SumOk.none
def stoR (d : Nat) (z : Bool) (st : List UInt8) : List AV := [.p d 0, .ro z (cellsB st) st.length]
theorem s13 {h : Heap} {s d : Nat} {z : Bool} {st : List UInt8} (hz : z = true → st = []) (hl : st.length ≤ 1000000) (hs : h s = some (.cells (stoR d z st))) :
    ∀ n, DCalls Tryd.prog 13 [.p s 0] h n (.ro z (cellsB st) st.length) [] n := by
  intro n
  by_cases hsn : n ≤ s
  · exact DCalls.vac ⟨_, Tryd.func13, rfl, by decide⟩ (Nat.le_refl _) hs hsn
  obtain ⟨S2, hS2, h28, -⟩ := sum_pure (SumOk.none (P := Tryd.prog)) (s28 z st hz hl)
  refine DCalls.of Tryd.func13 rfl (by decide) (Nat.le_of_ble_eq_true rfl) (Nat.le_refl _) ?_
  simp only [stoR] at hs
  refine AWp.seq ?_
  refine aw_regionL hS2 (by kernel_rfl) ?_; repeat (first | apply vr0u | apply vr4 | apply b_tt | apply b_ff | apply b_tf | apply b_ft | apply b_no | exact isD.mk rfl | (apply eqG; (simp only [push_cast, ↓reduceIte, Nat.reduceEqDiff, Nat.reduceAdd, Nat.reduceLeDiff, Nat.reduceLT, Int.reduceLE, Int.reduceLT, Int.reduceAdd, Int.reduceSub, Int.reduceNeg, Int.reduceBEq, Int.reduceBNe, Int.reduceEq, Int.reduceGT, Int.reduceGE, Int.reduceMul, Int.reduceToNat, Nat.reduceMul, reduceCtorEq, hs, h28] <;> rfl)) | exact (rfl : app (swap _ _) _ = _))
  refine vr_nil (aw_then ?_)
  refine AWp.seq ?_
  refine aw_regionL hS2 (by kernel_rfl) ?_; repeat (first | apply vr0u | apply vr4 | apply b_tt | apply b_ff | apply b_tf | apply b_ft | apply b_no | exact isD.mk rfl | (apply eqG; (simp only [push_cast, ↓reduceIte, Nat.reduceEqDiff, Nat.reduceAdd, Nat.reduceLeDiff, Nat.reduceLT, Int.reduceLE, Int.reduceLT, Int.reduceAdd, Int.reduceSub, Int.reduceNeg, Int.reduceBEq, Int.reduceBNe, Int.reduceEq, Int.reduceGT, Int.reduceGE, Int.reduceMul, Int.reduceToNat, Nat.reduceMul, reduceCtorEq, hs, h28] <;> rfl)) | exact (rfl : app (swap _ _) _ = _))
  refine vr_nil (aw_then ?_)
  refine AWp.ret ?_
  exact Out.pure1 (.inr rfl) rfl (by (simp only [push_cast, ↓reduceIte, Nat.reduceEqDiff, Nat.reduceAdd, Nat.reduceLeDiff, Nat.reduceLT, Int.reduceLE, Int.reduceLT, Int.reduceAdd, Int.reduceSub, Int.reduceNeg, Int.reduceBEq, Int.reduceBNe, Int.reduceEq, Int.reduceGT, Int.reduceGE, Int.reduceMul, Int.reduceToNat, Nat.reduceMul, reduceCtorEq, hs, h28] <;> rfl)) rfl (AV.free_names _ (by simp [AV.free, free_cellsB])) keep0
theorem s9off {h : Heap} {d : Nat} {w : DW} (F : DFacts h d w) (ho : w.off = true) : ∀ n, DCalls Tryd.prog 9 [.p d 0] h n (.tup [.np, .i .i64 14]) [] n := by
  intro n
  rcases has_any F.has n with hlt | ⟨j, r, hj, hn⟩
  case inr => exact DCalls.vac ⟨_, Tryd.func9, rfl, by decide⟩ (Nat.le_refl _) hj hn
  have hS := ok_DD
  have h21 := at12' F
  rw [ho] at h21
  refine DCalls.of Tryd.func9 rfl (by decide) (Nat.le_of_ble_eq_true rfl) (Nat.le_refl _) ?_
  refine AWp.seq ?_
  (refine aw_regionL hS (by kernel_rfl) ?_; repeat (first | apply vr0u | apply vr4 | apply b_tt | apply b_ff | apply b_tf | apply b_ft | apply b_no | exact isD.mk rfl | (apply eqG; (simp only [push_cast, ↓reduceIte, Nat.reduceEqDiff, Nat.reduceAdd, Nat.reduceLeDiff, Nat.reduceLT, Int.reduceLE, Int.reduceLT, Int.reduceAdd, Int.reduceSub, Int.reduceNeg, Int.reduceBEq, Int.reduceBNe, Int.reduceEq, Int.reduceGT, Int.reduceGE, Int.reduceMul, Int.reduceToNat, Nat.reduceMul, reduceCtorEq, h21] <;> rfl)) | exact (rfl : app (swap _ _) _ = _)))
  refine vr_nil (aw_then ?_)
  refine AWp.seq ?_
  refine AWp.block ?_
  refine AWp.seq ?_
  (refine aw_regionL hS (by kernel_rfl) ?_; repeat (first | apply vr0u | apply vr4 | apply b_tt | apply b_ff | apply b_tf | apply b_ft | apply b_no | exact isD.mk rfl | (apply eqG; (simp only [push_cast, ↓reduceIte, Nat.reduceEqDiff, Nat.reduceAdd, Nat.reduceLeDiff, Nat.reduceLT, Int.reduceLE, Int.reduceLT, Int.reduceAdd, Int.reduceSub, Int.reduceNeg, Int.reduceBEq, Int.reduceBNe, Int.reduceEq, Int.reduceGT, Int.reduceGE, Int.reduceMul, Int.reduceToNat, Nat.reduceMul, reduceCtorEq, h21] <;> rfl)) | exact (rfl : app (swap _ _) _ = _)))
  refine vr_nil (aw_then ?_)
  refine aw_true (by (simp only [push_cast, ↓reduceIte, Nat.reduceEqDiff, Nat.reduceAdd, Nat.reduceLeDiff, Nat.reduceLT, Int.reduceLE, Int.reduceLT, Int.reduceAdd, Int.reduceSub, Int.reduceNeg, Int.reduceBEq, Int.reduceBNe, Int.reduceEq, Int.reduceGT, Int.reduceGE, Int.reduceMul, Int.reduceToNat, Nat.reduceMul, reduceCtorEq, h21] <;> rfl)) ?_
  refine AWp.seq ?_
  (refine aw_regionL hS (by kernel_rfl) ?_; repeat (first | apply vr0u | apply vr4 | apply b_tt | apply b_ff | apply b_tf | apply b_ft | apply b_no | exact isD.mk rfl | (apply eqG; (simp only [push_cast, ↓reduceIte, Nat.reduceEqDiff, Nat.reduceAdd, Nat.reduceLeDiff, Nat.reduceLT, Int.reduceLE, Int.reduceLT, Int.reduceAdd, Int.reduceSub, Int.reduceNeg, Int.reduceBEq, Int.reduceBNe, Int.reduceEq, Int.reduceGT, Int.reduceGE, Int.reduceMul, Int.reduceToNat, Nat.reduceMul, reduceCtorEq, h21] <;> rfl)) | exact (rfl : app (swap _ _) _ = _)))
  refine vr_nil (aw_then ?_)
  refine AWp.ret ?_
  exact Out.pure2 (.inr rfl) rfl (by (simp only [push_cast, ↓reduceIte, Nat.reduceEqDiff, Nat.reduceAdd, Nat.reduceLeDiff, Nat.reduceLT, Int.reduceLE, Int.reduceLT, Int.reduceAdd, Int.reduceSub, Int.reduceNeg, Int.reduceBEq, Int.reduceBNe, Int.reduceEq, Int.reduceGT, Int.reduceGE, Int.reduceMul, Int.reduceToNat, Nat.reduceMul, reduceCtorEq, h21] <;> rfl)) (by (simp only [push_cast, ↓reduceIte, Nat.reduceEqDiff, Nat.reduceAdd, Nat.reduceLeDiff, Nat.reduceLT, Int.reduceLE, Int.reduceLT, Int.reduceAdd, Int.reduceSub, Int.reduceNeg, Int.reduceBEq, Int.reduceBNe, Int.reduceEq, Int.reduceGT, Int.reduceGE, Int.reduceMul, Int.reduceToNat, Nat.reduceMul, reduceCtorEq, h21] <;> rfl)) rfl ⟨trivial, trivial, trivial⟩ keep0
theorem s9few {h : Heap} {d : Nat} {w : DW} (F : DFacts h d w) (ho : w.off = false) (hlen : w.safe.length < 150) : ∀ n, DCalls Tryd.prog 9 [.p d 0] h n (.tup [.np, .i .i64 11]) [] n := by
  intro n
  rcases has_any F.has n with hlt | ⟨j, r, hj, hn⟩
  case inr => exact DCalls.vac ⟨_, Tryd.func9, rfl, by decide⟩ (Nat.le_refl _) hj hn
  have hS := ok_DD
  have h21 := at12' F
  have h23 := at36' F
  rw [ho] at h21
  have q1 : ((w.safe.length : Int) < 150) = True := by simp only [eq_iff_iff, iff_true]; omega
  refine DCalls.of Tryd.func9 rfl (by decide) (Nat.le_of_ble_eq_true rfl) (Nat.le_refl _) ?_
  refine AWp.seq ?_
  (refine aw_regionL hS (by kernel_rfl) ?_; repeat (first | apply vr0u | apply vr4 | apply b_tt | apply b_ff | apply b_tf | apply b_ft | apply b_no | exact isD.mk rfl | (apply eqG; (simp only [push_cast, ↓reduceIte, Nat.reduceEqDiff, Nat.reduceAdd, Nat.reduceLeDiff, Nat.reduceLT, Int.reduceLE, Int.reduceLT, Int.reduceAdd, Int.reduceSub, Int.reduceNeg, Int.reduceBEq, Int.reduceBNe, Int.reduceEq, Int.reduceGT, Int.reduceGE, Int.reduceMul, Int.reduceToNat, Nat.reduceMul, reduceCtorEq, h21, h23, q1] <;> rfl)) | exact (rfl : app (swap _ _) _ = _)))
  refine vr_nil (aw_then ?_)
  refine AWp.seq ?_
  refine AWp.block ?_
  refine AWp.seq ?_
  (refine aw_regionL hS (by kernel_rfl) ?_; repeat (first | apply vr0u | apply vr4 | apply b_tt | apply b_ff | apply b_tf | apply b_ft | apply b_no | exact isD.mk rfl | (apply eqG; (simp only [push_cast, ↓reduceIte, Nat.reduceEqDiff, Nat.reduceAdd, Nat.reduceLeDiff, Nat.reduceLT, Int.reduceLE, Int.reduceLT, Int.reduceAdd, Int.reduceSub, Int.reduceNeg, Int.reduceBEq, Int.reduceBNe, Int.reduceEq, Int.reduceGT, Int.reduceGE, Int.reduceMul, Int.reduceToNat, Nat.reduceMul, reduceCtorEq, h21, h23, q1] <;> rfl)) | exact (rfl : app (swap _ _) _ = _)))
  refine vr_nil (aw_then ?_)
  refine aw_false (by (simp only [push_cast, ↓reduceIte, Nat.reduceEqDiff, Nat.reduceAdd, Nat.reduceLeDiff, Nat.reduceLT, Int.reduceLE, Int.reduceLT, Int.reduceAdd, Int.reduceSub, Int.reduceNeg, Int.reduceBEq, Int.reduceBNe, Int.reduceEq, Int.reduceGT, Int.reduceGE, Int.reduceMul, Int.reduceToNat, Nat.reduceMul, reduceCtorEq, h21, h23, q1] <;> rfl)) ?_
  refine AWp.seq ?_
  (refine aw_regionL hS (by kernel_rfl) ?_; repeat (first | apply vr0u | apply vr4 | apply b_tt | apply b_ff | apply b_tf | apply b_ft | apply b_no | exact isD.mk rfl | (apply eqG; (simp only [push_cast, ↓reduceIte, Nat.reduceEqDiff, Nat.reduceAdd, Nat.reduceLeDiff, Nat.reduceLT, Int.reduceLE, Int.reduceLT, Int.reduceAdd, Int.reduceSub, Int.reduceNeg, Int.reduceBEq, Int.reduceBNe, Int.reduceEq, Int.reduceGT, Int.reduceGE, Int.reduceMul, Int.reduceToNat, Nat.reduceMul, reduceCtorEq, h21, h23, q1] <;> rfl)) | exact (rfl : app (swap _ _) _ = _)))
  refine vr_nil (aw_then ?_)
  refine aw_true (by (simp only [push_cast, ↓reduceIte, Nat.reduceEqDiff, Nat.reduceAdd, Nat.reduceLeDiff, Nat.reduceLT, Int.reduceLE, Int.reduceLT, Int.reduceAdd, Int.reduceSub, Int.reduceNeg, Int.reduceBEq, Int.reduceBNe, Int.reduceEq, Int.reduceGT, Int.reduceGE, Int.reduceMul, Int.reduceToNat, Nat.reduceMul, reduceCtorEq, h21, h23, q1] <;> rfl)) ?_
  refine AWp.seq ?_
  (refine aw_regionL hS (by kernel_rfl) ?_; repeat (first | apply vr0u | apply vr4 | apply b_tt | apply b_ff | apply b_tf | apply b_ft | apply b_no | exact isD.mk rfl | (apply eqG; (simp only [push_cast, ↓reduceIte, Nat.reduceEqDiff, Nat.reduceAdd, Nat.reduceLeDiff, Nat.reduceLT, Int.reduceLE, Int.reduceLT, Int.reduceAdd, Int.reduceSub, Int.reduceNeg, Int.reduceBEq, Int.reduceBNe, Int.reduceEq, Int.reduceGT, Int.reduceGE, Int.reduceMul, Int.reduceToNat, Nat.reduceMul, reduceCtorEq, h21, h23, q1] <;> rfl)) | exact (rfl : app (swap _ _) _ = _)))
  refine vr_nil (aw_then ?_)
  refine AWp.ret ?_
  exact Out.pure2 (.inr rfl) rfl (by (simp only [push_cast, ↓reduceIte, Nat.reduceEqDiff, Nat.reduceAdd, Nat.reduceLeDiff, Nat.reduceLT, Int.reduceLE, Int.reduceLT, Int.reduceAdd, Int.reduceSub, Int.reduceNeg, Int.reduceBEq, Int.reduceBNe, Int.reduceEq, Int.reduceGT, Int.reduceGE, Int.reduceMul, Int.reduceToNat, Nat.reduceMul, reduceCtorEq, h21, h23, q1] <;> rfl)) (by (simp only [push_cast, ↓reduceIte, Nat.reduceEqDiff, Nat.reduceAdd, Nat.reduceLeDiff, Nat.reduceLT, Int.reduceLE, Int.reduceLT, Int.reduceAdd, Int.reduceSub, Int.reduceNeg, Int.reduceBEq, Int.reduceBNe, Int.reduceEq, Int.reduceGT, Int.reduceGE, Int.reduceMul, Int.reduceToNat, Nat.reduceMul, reduceCtorEq, h21, h23, q1] <;> rfl)) rfl ⟨trivial, trivial, trivial⟩ keep0
/-- What there is on a disk's sectors: the mark that counts, and the area that it tells of. -/
structure Holds (l : List Sec) (c : Nat) (st : List UInt8) : Prop where
  last : lastOf l = (c, st.length)
  lim : c < 9223372036854775808
  len : st.length ≤ 4000
  none : c = 0 → st = []
  area : areaOk l c st
theorem s9 {h : Heap} {d : Nat} {w : DW} (hw : DOk w) (F : DFacts h d w) (ho : w.off = false) (hlen : 150 ≤ w.safe.length) {c : Nat} {st : List UInt8} (H : Holds w.now c st) :
    ∀ n, DCalls Tryd.prog 9 [.p d 0] h n (.tup [.p n 0, .i .i64 0]) (swap [] [(n, stoR d st.isEmpty st)]) (n + 1) := by
  intro n
  rcases has_any F.has n with hlt | ⟨j, r, hj, hn⟩
  case inr => exact DCalls.vac ⟨_, Tryd.func9, rfl, by decide⟩ (Nat.le_succ _) hj hn
  have hS := ok_DD
  have h21 := at12' F
  have h23 := at36' F
  rw [ho] at h21
  have hdn := hlt d (DW.keys_iff.2 (.inl rfl))
  have q1 : ((w.safe.length : Int) < 150) = False := by simp only [eq_iff_iff, iff_false]; omega
  refine DCalls.of Tryd.func9 rfl (by decide) (Nat.le_of_ble_eq_true rfl) (Nat.le_succ _) ?_
  refine AWp.seq ?_
  (refine aw_regionL hS (by kernel_rfl) ?_; repeat (first | apply vr0u | apply vr4 | apply b_tt | apply b_ff | apply b_tf | apply b_ft | apply b_no | exact isD.mk rfl | (apply eqG; (simp only [push_cast, ↓reduceIte, Nat.reduceEqDiff, Nat.reduceAdd, Nat.reduceLeDiff, Nat.reduceLT, Int.reduceLE, Int.reduceLT, Int.reduceAdd, Int.reduceSub, Int.reduceNeg, Int.reduceBEq, Int.reduceBNe, Int.reduceEq, Int.reduceGT, Int.reduceGE, Int.reduceMul, Int.reduceToNat, Nat.reduceMul, reduceCtorEq, h21, h23, q1] <;> rfl)) | exact (rfl : app (swap _ _) _ = _)))
  refine vr_nil (aw_then ?_)
  refine AWp.seq ?_
  refine AWp.block ?_
  refine AWp.seq ?_
  (refine aw_regionL hS (by kernel_rfl) ?_; repeat (first | apply vr0u | apply vr4 | apply b_tt | apply b_ff | apply b_tf | apply b_ft | apply b_no | exact isD.mk rfl | (apply eqG; (simp only [push_cast, ↓reduceIte, Nat.reduceEqDiff, Nat.reduceAdd, Nat.reduceLeDiff, Nat.reduceLT, Int.reduceLE, Int.reduceLT, Int.reduceAdd, Int.reduceSub, Int.reduceNeg, Int.reduceBEq, Int.reduceBNe, Int.reduceEq, Int.reduceGT, Int.reduceGE, Int.reduceMul, Int.reduceToNat, Nat.reduceMul, reduceCtorEq, h21, h23, q1] <;> rfl)) | exact (rfl : app (swap _ _) _ = _)))
  refine vr_nil (aw_then ?_)
  refine aw_false (by (simp only [push_cast, ↓reduceIte, Nat.reduceEqDiff, Nat.reduceAdd, Nat.reduceLeDiff, Nat.reduceLT, Int.reduceLE, Int.reduceLT, Int.reduceAdd, Int.reduceSub, Int.reduceNeg, Int.reduceBEq, Int.reduceBNe, Int.reduceEq, Int.reduceGT, Int.reduceGE, Int.reduceMul, Int.reduceToNat, Nat.reduceMul, reduceCtorEq, h21, h23, q1] <;> rfl)) ?_
  refine AWp.seq ?_
  (refine aw_regionL hS (by kernel_rfl) ?_; repeat (first | apply vr0u | apply vr4 | apply b_tt | apply b_ff | apply b_tf | apply b_ft | apply b_no | exact isD.mk rfl | (apply eqG; (simp only [push_cast, ↓reduceIte, Nat.reduceEqDiff, Nat.reduceAdd, Nat.reduceLeDiff, Nat.reduceLT, Int.reduceLE, Int.reduceLT, Int.reduceAdd, Int.reduceSub, Int.reduceNeg, Int.reduceBEq, Int.reduceBNe, Int.reduceEq, Int.reduceGT, Int.reduceGE, Int.reduceMul, Int.reduceToNat, Nat.reduceMul, reduceCtorEq, h21, h23, q1] <;> rfl)) | exact (rfl : app (swap _ _) _ = _)))
  refine vr_nil (aw_then ?_)
  refine aw_false (by (simp only [push_cast, ↓reduceIte, Nat.reduceEqDiff, Nat.reduceAdd, Nat.reduceLeDiff, Nat.reduceLT, Int.reduceLE, Int.reduceLT, Int.reduceAdd, Int.reduceSub, Int.reduceNeg, Int.reduceBEq, Int.reduceBNe, Int.reduceEq, Int.reduceGT, Int.reduceGE, Int.reduceMul, Int.reduceToNat, Nat.reduceMul, reduceCtorEq, h21, h23, q1] <;> rfl)) (AWp.skip (aw_in (aw_then ?_)))
  refine AWp.seq ?_
  (refine aw_regionL hS (by kernel_rfl) ?_; repeat (first | apply vr0u | apply vr4 | apply b_tt | apply b_ff | apply b_tf | apply b_ft | apply b_no | exact isD.mk rfl | (apply eqG; (simp only [push_cast, ↓reduceIte, Nat.reduceEqDiff, Nat.reduceAdd, Nat.reduceLeDiff, Nat.reduceLT, Int.reduceLE, Int.reduceLT, Int.reduceAdd, Int.reduceSub, Int.reduceNeg, Int.reduceBEq, Int.reduceBNe, Int.reduceEq, Int.reduceGT, Int.reduceGE, Int.reduceMul, Int.reduceToNat, Nat.reduceMul, reduceCtorEq, h21, h23, q1] <;> rfl)) | exact (rfl : app (swap _ _) _ = _)))
  refine vr_nil (aw_then ?_)
  have F1 : DFacts (upd h n (some (.cells [.p d 0, .ro true [] 0]))) d w := DFacts.of (F.has.upd (fun hj => by have := hlt n hj; omega) _)
  obtain ⟨S2, hS2, h24, n24⟩ := sum_here hS (f := 24) (args := [.p n 0]) (g := upd h n (some (.cells [.p d 0, .ro true [] 0]))) (r := .pure (.tup [.agg (mkC (lastOf w.now)), .ni])) (fun m => s24 hw F1 ho (by omega) (upd_same ..) m)
  rw [H.last] at h24
  simp only [mkC] at h24
  refine AWp.cut (fun t' h' n' => t' 4 = .p n 0 ∧ t' 5 = .p (n + 1) 0 ∧ t' 6 = .ni ∧ h' n = some (.cells [.p d 0, .ro true [] 0]) ∧ h' (n + 1) = some (.cells (mkC (c, st.length))) ∧ n + 2 ≤ n' ∧ ∀ x r, x < n → h x = some r → h' x = some r) ?_ ?_
  · refine aw_regionL hS2 (by kernel_rfl) ?_; repeat (first | apply vr0u | apply vr4 | apply b_tt | apply b_ff | apply b_tf | apply b_ft | apply b_no | exact isD.mk rfl | (apply eqG; (simp only [push_cast, ↓reduceIte, Nat.reduceEqDiff, Nat.reduceAdd, Nat.reduceLeDiff, Nat.reduceLT, Int.reduceLE, Int.reduceLT, Int.reduceAdd, Int.reduceSub, Int.reduceNeg, Int.reduceBEq, Int.reduceBNe, Int.reduceEq, Int.reduceGT, Int.reduceGE, Int.reduceMul, Int.reduceToNat, Nat.reduceMul, reduceCtorEq, h24, splice_two, upd_upd] <;> rfl)) | exact (rfl : app (swap _ _) _ = _))
    exact vr_nil ⟨by (simp only [push_cast, ↓reduceIte, Nat.reduceEqDiff, Nat.reduceAdd, Nat.reduceLeDiff, Nat.reduceLT, Int.reduceLE, Int.reduceLT, Int.reduceAdd, Int.reduceSub, Int.reduceNeg, Int.reduceBEq, Int.reduceBNe, Int.reduceEq, Int.reduceGT, Int.reduceGE, Int.reduceMul, Int.reduceToNat, Nat.reduceMul, reduceCtorEq, h24, splice_two, upd_upd] <;> rfl), by (simp only [push_cast, ↓reduceIte, Nat.reduceEqDiff, Nat.reduceAdd, Nat.reduceLeDiff, Nat.reduceLT, Int.reduceLE, Int.reduceLT, Int.reduceAdd, Int.reduceSub, Int.reduceNeg, Int.reduceBEq, Int.reduceBNe, Int.reduceEq, Int.reduceGT, Int.reduceGE, Int.reduceMul, Int.reduceToNat, Nat.reduceMul, reduceCtorEq, h24, splice_two, upd_upd] <;> rfl), by (simp only [push_cast, ↓reduceIte, Nat.reduceEqDiff, Nat.reduceAdd, Nat.reduceLeDiff, Nat.reduceLT, Int.reduceLE, Int.reduceLT, Int.reduceAdd, Int.reduceSub, Int.reduceNeg, Int.reduceBEq, Int.reduceBNe, Int.reduceEq, Int.reduceGT, Int.reduceGE, Int.reduceMul, Int.reduceToNat, Nat.reduceMul, reduceCtorEq, h24, splice_two, upd_upd] <;> rfl), by rw [upd_ne _ _ (by omega), upd_same], by rw [upd_same]; rfl, Nat.le_refl _, keepU (by omega) (keepU (by omega) keep0)⟩
  rintro t1 h1 n1 - ⟨t4, t5, t6, r0, r1, nn, hk⟩
  have F2 : DFacts h1 d w := DFacts.of (F.has.keep fun j hj => by
      obtain ⟨cs, hc⟩ := F.has.isSome hj
      rw [hc]; exact hk j _ (hlt j hj) hc)
  obtain ⟨S3, hS3, h25, n25⟩ := sum_here hS2 (f := 25) (args := [.p n 0, .agg (mkC (c, st.length))]) (g := h1) (r := .pure (.tup [.ro st.isEmpty (cellsB st) st.length, .ni])) (fun m => s25 hw F2 ho hlen r0 c st H.lim H.len H.none H.area m)
  simp only [mkC] at h25 r1
  refine AWp.seq ?_
  refine AWp.seq ?_
  refine aw_regionL hS3 (by kernel_rfl) ?_; repeat (first | apply vr0u | apply vr4 | apply b_tt | apply b_ff | apply b_tf | apply b_ft | apply b_no | exact isD.mk rfl | (apply eqG; (simp only [push_cast, ↓reduceIte, Nat.reduceEqDiff, Nat.reduceAdd, Nat.reduceLeDiff, Nat.reduceLT, Int.reduceLE, Int.reduceLT, Int.reduceAdd, Int.reduceSub, Int.reduceNeg, Int.reduceBEq, Int.reduceBNe, Int.reduceEq, Int.reduceGT, Int.reduceGE, Int.reduceMul, Int.reduceToNat, Nat.reduceMul, reduceCtorEq, t4, t5, t6, r0, r1, h25] <;> rfl)) | exact (rfl : app (swap _ _) _ = _))
  refine vr_nil (aw_then ?_)
  refine aw_true (by (simp only [push_cast, ↓reduceIte, Nat.reduceEqDiff, Nat.reduceAdd, Nat.reduceLeDiff, Nat.reduceLT, Int.reduceLE, Int.reduceLT, Int.reduceAdd, Int.reduceSub, Int.reduceNeg, Int.reduceBEq, Int.reduceBNe, Int.reduceEq, Int.reduceGT, Int.reduceGE, Int.reduceMul, Int.reduceToNat, Nat.reduceMul, reduceCtorEq, t4, t5, t6, r0, r1, h25] <;> rfl)) ?_
  refine aw_regionL hS3 (by kernel_rfl) ?_; repeat (first | apply vr0u | apply vr4 | apply b_tt | apply b_ff | apply b_tf | apply b_ft | apply b_no | exact isD.mk rfl | (apply eqG; (simp only [push_cast, ↓reduceIte, Nat.reduceEqDiff, Nat.reduceAdd, Nat.reduceLeDiff, Nat.reduceLT, Int.reduceLE, Int.reduceLT, Int.reduceAdd, Int.reduceSub, Int.reduceNeg, Int.reduceBEq, Int.reduceBNe, Int.reduceEq, Int.reduceGT, Int.reduceGE, Int.reduceMul, Int.reduceToNat, Nat.reduceMul, reduceCtorEq, t4, t5, t6, r0, r1, h25] <;> rfl)) | exact (rfl : app (swap _ _) _ = _))
  refine vr_nil (aw_then ?_)
  refine AWp.seq ?_
  refine AWp.seq ?_
  refine aw_regionL hS3 (by kernel_rfl) ?_; repeat (first | apply vr0u | apply vr4 | apply b_tt | apply b_ff | apply b_tf | apply b_ft | apply b_no | exact isD.mk rfl | (apply eqG; (simp only [push_cast, ↓reduceIte, Nat.reduceEqDiff, Nat.reduceAdd, Nat.reduceLeDiff, Nat.reduceLT, Int.reduceLE, Int.reduceLT, Int.reduceAdd, Int.reduceSub, Int.reduceNeg, Int.reduceBEq, Int.reduceBNe, Int.reduceEq, Int.reduceGT, Int.reduceGE, Int.reduceMul, Int.reduceToNat, Nat.reduceMul, reduceCtorEq, t4, t5, t6, r0, r1, h25] <;> rfl)) | exact (rfl : app (swap _ _) _ = _))
  refine vr_nil (aw_then ?_)
  refine aw_false (by (simp only [push_cast, ↓reduceIte, Nat.reduceEqDiff, Nat.reduceAdd, Nat.reduceLeDiff, Nat.reduceLT, Int.reduceLE, Int.reduceLT, Int.reduceAdd, Int.reduceSub, Int.reduceNeg, Int.reduceBEq, Int.reduceBNe, Int.reduceEq, Int.reduceGT, Int.reduceGE, Int.reduceMul, Int.reduceToNat, Nat.reduceMul, reduceCtorEq, t4, t5, t6, r0, r1, h25] <;> rfl)) (AWp.skip (aw_then ?_))
  refine AWp.seq ?_
  refine aw_regionL hS3 (by kernel_rfl) ?_; repeat (first | apply vr0u | apply vr4 | apply b_tt | apply b_ff | apply b_tf | apply b_ft | apply b_no | exact isD.mk rfl | (apply eqG; (simp only [push_cast, ↓reduceIte, Nat.reduceEqDiff, Nat.reduceAdd, Nat.reduceLeDiff, Nat.reduceLT, Int.reduceLE, Int.reduceLT, Int.reduceAdd, Int.reduceSub, Int.reduceNeg, Int.reduceBEq, Int.reduceBNe, Int.reduceEq, Int.reduceGT, Int.reduceGE, Int.reduceMul, Int.reduceToNat, Nat.reduceMul, reduceCtorEq, t4, t5, t6, r0, r1, h25] <;> rfl)) | exact (rfl : app (swap _ _) _ = _))
  refine vr_nil (aw_then ?_)
  refine AWp.ret ?_
  refine Out.swap (L := []) (xs := [.p n 0, .i .i64 0]) (.inr rfl) (by simp [Tryd.f9, resAll, resT]; (simp only [push_cast, ↓reduceIte, Nat.reduceEqDiff, Nat.reduceAdd, Nat.reduceLeDiff, Nat.reduceLT, Int.reduceLE, Int.reduceLT, Int.reduceAdd, Int.reduceSub, Int.reduceNeg, Int.reduceBEq, Int.reduceBNe, Int.reduceEq, Int.reduceGT, Int.reduceGE, Int.reduceMul, Int.reduceToNat, Nat.reduceMul, reduceCtorEq, t4, t5, t6, r0, r1, h25] <;> rfl)) rfl (Nat.le_succ _) (by omega) ⟨show n < n + 1 by omega, trivial, trivial⟩ ⟨fun p hp => (nomatch hp), List.nodup_nil⟩ ⟨fun p hp => ?_, by simp [Lst.keys]⟩ (fun j hj => .inr ?_) (fun p hp => ?_) (fun x r hx hr _ => by rw [upd_ne _ _ (by omega)]; exact hk x r hx hr)
  · rw [List.mem_singleton.1 hp]; exact upd_same ..
  · have : j = n := by simpa [Lst.keys] using hj
    omega
  · rw [List.mem_singleton.1 hp]; exact ⟨show d < n + 1 by omega, AV.free_names _ (by simp [AV.free, free_cellsB]), trivial⟩

end Go.Proofs.YtepfknnffooaiaaDoor
