import Derived.Test.YtepfknnffooaiaaDoorDoJ

namespace Go.Proofs.YtepfknnffooaiaaDoor
open Go.Av
set_option maxRecDepth 100000
set_option maxHeartbeats 1000000
set_option linter.unusedSimpArgs false
set_option linter.unusedVariables false
attribute [local push_cast] stepE callR resE aeff aev ofC ofC1 put_at Av.put_none inTmps List.getD_cons_zero List.getD_cons_succ AV.boxable if_true if_false AV.cells aload place app_cons app_nil upd_same Av.part abin aconv aindexAddr fillA splice_one abuiltin alen amax amin aun aindex Option.map_some Option.isSome_some List.map_cons List.map_nil List.nil_append List.append_nil List.cons_append Nat.le_refl Nat.zero_add Nat.add_zero List.length_cons List.length_nil List.drop_succ_cons List.drop_zero List.take_succ_cons List.take_zero beq_self_eq_true bne_self_eq_false Bool.not_true Bool.not_false List.set_cons_zero List.set_cons_succ Bool.false_eq_true IntWalk.i64_in decide_true decide_false Int.toNat_zero and_self and_true true_and List.getElem?_cons_zero List.getElem?_cons_succ aappend aapp view Bool.and_true Bool.true_and Nat.mul_one Option.map_none aslice asliceB nilOp Int.toNat_natCast und_30 agT_3 szT_3 kiT_3 agT_5 szT_5 kiT_5 agT_24 szT_24 kiT_24 agT_62 szT_62 kiT_62 agT_4 szT_4 kiT_4 agT_9 szT_9 kiT_9 agT_44 szT_44 kiT_44 agT_45 szT_45 kiT_45 agT_30 szT_30 kiT_30 agT_22 szT_22 kiT_22 agT_41 szT_41 kiT_41 agT_51 szT_51 kiT_51 agT_52 szT_52 kiT_52 agT_23 szT_23 kiT_23 agT_53 szT_53 kiT_53 agT_27 szT_27 kiT_27 agT_89 szT_89 kiT_89 agT_66 szT_66 kiT_66 agT_20 szT_20 kiT_20 slT_45 slT_44 slT_30 slT_22 slT_41 slT_51 slT_52 zeT_3 zeT_4 zeT_5 zeT_30 zeT_24 flT_55_0 flT_55_1 flT_55_2 flT_55_3 flT_55_4 agT_55 szT_55 buT_55 zeT_55 flT_57_0 flT_57_1 agT_57 szT_57 buT_57 zeT_57 flT_74_0 flT_74_1 agT_74 szT_74 buT_74 zeT_74 flT_77_0 flT_77_1 flT_77_2 agT_77 szT_77 buT_77 zeT_77 flT_47_0 flT_47_1 flT_47_2 flT_47_3 flT_47_4 flT_47_5 agT_47 szT_47 buT_47 zeT_47 flT_61_0 flT_61_1 agT_61 szT_61 buT_61 zeT_61 flT_64_0 flT_64_1 agT_64 szT_64 buT_64 zeT_64 flT_91_0 flT_91_1 agT_91 szT_91 buT_91 zeT_91 ptT_23 ptT_53 ptT_27 ptT_89 und_30 

theorem frz_ptr {j off : Nat} {cs : List AV} : frz (only j cs) 1 (.p j off) = .q cs off := by
  simp only [frz, only, if_true]
  rw [List.map_id']
theorem cellsB_set (b : List UInt8) (i : Nat) (x : UInt8) : (cellsB b).set i (.i .u8 (x.toNat : Int)) = cellsB (b.set i x) := by simp [cellsB, List.map_set]

/-! ### a mark's bytes -/
def mkF (c sz i : Nat) : List UInt8 := (List.range 64).map fun j => if j < i then UInt8.ofNat (c / 256 ^ j) else if 8 ≤ j ∧ j < 8 + i then UInt8.ofNat (sz / 256 ^ (j - 8)) else 0
def markB (c sz : Nat) : List UInt8 := mkF c sz 8
theorem mkF_len (c sz i : Nat) : (mkF c sz i).length = 64 := by simp [mkF]
theorem mkF_get {c sz i j : Nat} (hj : j < 64) : (mkF c sz i)[j]? = some (if j < i then UInt8.ofNat (c / 256 ^ j) else if 8 ≤ j ∧ j < 8 + i then UInt8.ofNat (sz / 256 ^ (j - 8)) else 0) := by
  simp [mkF, hj]
theorem mkF_step {c sz i : Nat} (hi : i < 8) : ((mkF c sz i).set i (UInt8.ofNat (c / 256 ^ i))).set (8 + i) (UInt8.ofNat (sz / 256 ^ i)) = mkF c sz (i + 1) := by
  refine List.ext_getElem? fun j => ?_
  by_cases hj : j < 64
  · by_cases h1 : 8 + i = j
    · subst h1
      rw [List.getElem?_set_self (by simp [mkF_len]; omega), mkF_get hj, if_neg (by omega), if_pos (by omega), Nat.add_sub_cancel_left]
    · rw [List.getElem?_set_ne h1]
      by_cases h2 : i = j
      · subst h2
        rw [List.getElem?_set_self (by simp [mkF_len]; omega), mkF_get hj, if_pos (by omega)]
      · rw [List.getElem?_set_ne h2, mkF_get hj, mkF_get hj]
        by_cases h3 : j < i
        · have h5 : j < i + 1 := by omega
          rw [if_pos h3, if_pos h5]
        · have h5 : ¬ j < i + 1 := by omega
          rw [if_neg h3, if_neg h5]
          by_cases h4 : 8 ≤ j ∧ j < 8 + i
          · have h6 : 8 ≤ j ∧ j < 8 + (i + 1) := by omega
            rw [if_pos h4, if_pos h6]
          · have h6 : ¬ (8 ≤ j ∧ j < 8 + (i + 1)) := by omega
            rw [if_neg h4, if_neg h6]
  · rw [List.getElem?_eq_none (by simp [mkF_len]; omega), List.getElem?_eq_none (by simp [mkF_len]; omega)]
theorem markB_lo (c sz : Nat) : (markB c sz).take 8 = le 8 c := by
  refine List.ext_getElem? fun j => ?_
  by_cases hj : j < 8
  · rw [List.getElem?_take_of_lt hj, markB, mkF_get (by omega), if_pos hj, le_get hj]
  · rw [List.getElem?_eq_none (by simp [markB, mkF_len]; omega), List.getElem?_eq_none (by rw [le_len]; omega)]
theorem markB_hi (c sz : Nat) : ((markB c sz).drop 8).take 8 = le 8 sz := by
  refine List.ext_getElem? fun j => ?_
  by_cases hj : j < 8
  · rw [List.getElem?_take_of_lt hj, List.getElem?_drop, markB, mkF_get (by omega), if_neg (by omega), if_pos (by omega), le_get hj, Nat.add_sub_cancel_left]
  · rw [List.getElem?_eq_none (by simp [markB, mkF_len]; omega), List.getElem?_eq_none (by rw [le_len]; omega)]
theorem mark_count {c sz : Nat} (hc : c < 18446744073709551616) : lowN ((markB c sz).take 8) = c := by
  rw [markB_lo, lowN_le]; exact Nat.mod_eq_of_lt (by have : (256 : Nat) ^ 8 = 18446744073709551616 := by decide
                                                     omega)
theorem mark_size {c sz : Nat} (hc : sz < 18446744073709551616) : lowN (((markB c sz).drop 8).take 8) = sz := by
  rw [markB_hi, lowN_le]; exact Nat.mod_eq_of_lt (by have : (256 : Nat) ^ 8 = 18446744073709551616 := by decide
                                                     omega)
theorem shr_byte {c i : Nat} (hi : i < 8) : IntKind.wrap .u8 (Int.fdiv (c : Int) (2 ^ (min (8 * (i : Int)).toNat IntKind.u64.bits))) = ((UInt8.ofNat (c / 256 ^ i)).toNat : Int) := by
  have e1 : min (8 * (i : Int)).toNat IntKind.u64.bits = 8 * i := by show min (8 * (i : Int)).toNat 64 = _; omega
  have e2 : (2 : Int) ^ (8 * i) = ((256 ^ i : Nat) : Int) := by
    have : (256 : Nat) ^ i = 2 ^ (8 * i) := by rw [show 256 = 2 ^ 8 from rfl, ← Nat.pow_mul]
    rw [this]; push_cast; rfl
  rw [e1, e2, Int.fdiv_eq_ediv_of_nonneg _ (Int.natCast_nonneg _), ← Int.natCast_ediv, IntKind.wrap_u8]
  have : (UInt8.ofNat (c / 256 ^ i)).toNat = c / 256 ^ i % 256 := by simp
  rw [this]; omega
theorem c38 (c sz : Nat) (hc : c < 9223372036854775808) (hs : sz < 9223372036854775808) : PCalls Tryd.prog 38 [.agg [.i .u64 (c : Int), .i .i64 (sz : Int)]] (.ro false (cellsB (markB c sz)) 64) := by
  intro h n
  have hS := SumOk.none (P := Tryd.prog)
  refine DCalls.of Tryd.func38 rfl (by decide) (Nat.le_of_ble_eq_true rfl) (Nat.le_refl _) ?_
  have r64 : rep 64 [AV.i .u8 0] = cellsB (mkF c sz 0) := by
    have : mkF c sz 0 = List.replicate 64 0 := by
      refine List.ext_getElem? fun j => ?_
      by_cases hj : j < 64
      · rw [mkF_get hj, if_neg (by omega), if_neg (by omega), List.getElem?_replicate, if_pos hj]
      · rw [List.getElem?_eq_none (by simp [mkF_len]; omega), List.getElem?_eq_none (by simp; omega)]
    rw [this]; exact rep64
  have qm : ((0 : Int) ≤ 64) = True := by simp
  refine AWp.seq ?_
  (refine aw_regionL hS (by kernel_rfl) ?_; repeat (first | apply vr0u | apply vr4 | apply b_tt | apply b_ff | apply b_tf | apply b_ft | apply b_no | exact isD.mk rfl | (apply eqG; (simp only [push_cast, ↓reduceIte, Nat.reduceEqDiff, Nat.reduceAdd, Nat.reduceLeDiff, Nat.reduceLT, Int.reduceLE, Int.reduceLT, Int.reduceAdd, Int.reduceSub, Int.reduceNeg, Int.reduceBEq, Int.reduceBNe, Int.reduceEq, Int.reduceGT, Int.reduceGE, Int.reduceMul, Int.reduceToNat, Nat.reduceMul, reduceCtorEq, r64, qm] <;> rfl)) | exact (rfl : app (swap _ _) _ = _)))
  refine vr_nil (aw_then ?_)
  refine AWp.frz1 (k := 1) (j := n) (d := 1) (cs := [.i .u64 (c : Int), .i .i64 (sz : Int)]) (x := .q [.i .u64 (c : Int), .i .i64 (sz : Int)] 0) (by rw [upd_same]) (by simp only [push_cast, ↓reduceIte, Nat.reduceEqDiff, Nat.reduceAdd, Nat.reduceLeDiff, Nat.reduceLT, Int.reduceLE, Int.reduceLT, Int.reduceAdd, Int.reduceSub, Int.reduceNeg, Int.reduceBEq, Int.reduceBNe, Int.reduceEq, Int.reduceGT, Int.reduceGE, Int.reduceMul, Int.reduceToNat, Nat.reduceMul, reduceCtorEq, r64, qm]; exact frz_ptr) ?_
  refine AWp.seq ?_
  (refine aw_regionL hS (by kernel_rfl) ?_; repeat (first | apply vr0u | apply vr4 | apply b_tt | apply b_ff | apply b_tf | apply b_ft | apply b_no | exact isD.mk rfl | (apply eqG; (simp only [push_cast, ↓reduceIte, Nat.reduceEqDiff, Nat.reduceAdd, Nat.reduceLeDiff, Nat.reduceLT, Int.reduceLE, Int.reduceLT, Int.reduceAdd, Int.reduceSub, Int.reduceNeg, Int.reduceBEq, Int.reduceBNe, Int.reduceEq, Int.reduceGT, Int.reduceGE, Int.reduceMul, Int.reduceToNat, Nat.reduceMul, reduceCtorEq, r64, qm] <;> rfl)) | exact (rfl : app (swap _ _) _ = _)))
  refine vr_nil (aw_then ?_)
  refine AWp.cut (fun t' h' n' => t' 3 = .sl 1 (n + 1) 0 64 ∧ h' (n + 1) = some (.cells (cellsB (mkF c sz 8))) ∧ ∀ x r, x < n → h x = some r → h' x = some r) ?_ ?_
  · refine AWp.seq ?_
    (refine aw_regionL hS (by kernel_rfl) ?_; repeat (first | apply vr0u | apply vr4 | apply b_tt | apply b_ff | apply b_tf | apply b_ft | apply b_no | exact isD.mk rfl | (apply eqG; (simp only [push_cast, ↓reduceIte, Nat.reduceEqDiff, Nat.reduceAdd, Nat.reduceLeDiff, Nat.reduceLT, Int.reduceLE, Int.reduceLT, Int.reduceAdd, Int.reduceSub, Int.reduceNeg, Int.reduceBEq, Int.reduceBNe, Int.reduceEq, Int.reduceGT, Int.reduceGE, Int.reduceMul, Int.reduceToNat, Nat.reduceMul, reduceCtorEq, r64, qm] <;> rfl)) | exact (rfl : app (swap _ _) _ = _)))
    refine vr_nil (aw_then ?_)
    refine AWp.block ?_
    refine AWp.loop (fun m t' h' n' => ∃ i : Nat, m = 8 - i ∧ i ≤ 8 ∧ t' 1 = .q [.i .u64 (c : Int), .i .i64 (sz : Int)] 0 ∧ t' 3 = .sl 1 (n + 1) 0 64 ∧ t' 6 = .i .i64 (i : Int) ∧ n + 2 ≤ n' ∧ h' (n + 1) = some (.cells (cellsB (mkF c sz i))) ∧ ∀ x r, x < n → h x = some r → h' x = some r) 8 ?_ ?_
    · exact ⟨0, rfl, Nat.zero_le _, by (simp only [push_cast, ↓reduceIte, Nat.reduceEqDiff, Nat.reduceAdd, Nat.reduceLeDiff, Nat.reduceLT, Int.reduceLE, Int.reduceLT, Int.reduceAdd, Int.reduceSub, Int.reduceNeg, Int.reduceBEq, Int.reduceBNe, Int.reduceEq, Int.reduceGT, Int.reduceGE, Int.reduceMul, Int.reduceToNat, Nat.reduceMul, reduceCtorEq, r64, qm] <;> rfl), by (simp only [push_cast, ↓reduceIte, Nat.reduceEqDiff, Nat.reduceAdd, Nat.reduceLeDiff, Nat.reduceLT, Int.reduceLE, Int.reduceLT, Int.reduceAdd, Int.reduceSub, Int.reduceNeg, Int.reduceBEq, Int.reduceBNe, Int.reduceEq, Int.reduceGT, Int.reduceGE, Int.reduceMul, Int.reduceToNat, Nat.reduceMul, reduceCtorEq, r64, qm] <;> rfl), by (simp only [push_cast, ↓reduceIte, Nat.reduceEqDiff, Nat.reduceAdd, Nat.reduceLeDiff, Nat.reduceLT, Int.reduceLE, Int.reduceLT, Int.reduceAdd, Int.reduceSub, Int.reduceNeg, Int.reduceBEq, Int.reduceBNe, Int.reduceEq, Int.reduceGT, Int.reduceGE, Int.reduceMul, Int.reduceToNat, Nat.reduceMul, reduceCtorEq, r64, qm] <;> rfl), Nat.le_refl _, by rw [upd_same], keepU (Nat.le_succ _) (keepU (Nat.le_refl _) (keepU (Nat.le_refl _) keep0))⟩
    · rintro m t' h' n' - ⟨i, rfl, hi8, h1, h3, h6, hnn, hrow, hk⟩
      by_cases hi : i < 8
      · have q1 : ((i : Int) < 8) = True := by simp; omega
        have q2 : (0 ≤ (i : Int) ∧ (i : Int) < 64) = True := by simp; omega
        have q3 : (0 ≤ 8 + (i : Int) ∧ 8 + (i : Int) < 64) = True := by simp only [eq_iff_iff, iff_true]; omega
        have q5 : (0 ≤ 8 * (i : Int)) = True := by simp only [eq_iff_iff, iff_true]; omega
        have q6 : (8 + (i : Int)).toNat = 8 + i := by omega
        have q7 : (i + 1 ≤ (cellsB (mkF c sz i)).length) = True := by rw [len_cellsB, mkF_len]; simp only [eq_iff_iff, iff_true]; omega
        have q8 : ∀ x, (8 + i + 1 ≤ (cellsB ((mkF c sz i).set i x)).length) = True := fun x => by rw [len_cellsB, List.length_set, mkF_len]; simp only [eq_iff_iff, iff_true]; omega
        have w1 : IntKind.wrap .i64 ((i : Int) + 1) = (i : Int) + 1 := IntWalk.i64_in _ (by omega)
        have w2 : IntKind.wrap .i64 (8 + (i : Int)) = 8 + (i : Int) := IntWalk.i64_in _ (by omega)
        have w3 : IntKind.wrap .i64 (8 * (i : Int)) = 8 * (i : Int) := IntWalk.i64_in _ (by omega)
        have w4 : IntKind.wrap .u64 (sz : Int) = (sz : Int) := by rw [IntKind.wrap_u64]; omega
        have w5 := shr_byte (c := c) hi
        have w6 := shr_byte (c := sz) hi
        have e1 := fun (b : List UInt8) (k : Nat) (x : UInt8) => cellsB_set b k x
        have e2 := mkF_step (c := c) (sz := sz) hi
        generalize UInt8.ofNat (c / 256 ^ i) = b1 at *
        generalize UInt8.ofNat (sz / 256 ^ i) = b2 at *
        refine AWp.seq ?_
        (refine aw_regionL hS (by kernel_rfl) ?_; repeat (first | apply vr0u | apply vr4 | apply b_tt | apply b_ff | apply b_tf | apply b_ft | apply b_no | exact isD.mk rfl | (apply eqG; (simp only [push_cast, ↓reduceIte, Nat.reduceEqDiff, Nat.reduceAdd, Nat.reduceLeDiff, Nat.reduceLT, Int.reduceLE, Int.reduceLT, Int.reduceAdd, Int.reduceSub, Int.reduceNeg, Int.reduceBEq, Int.reduceBNe, Int.reduceEq, Int.reduceGT, Int.reduceGE, Int.reduceMul, Int.reduceToNat, Nat.reduceMul, reduceCtorEq, h1, h3, h6, hrow, q1, q2, q3, q5, q6, q7, q8, w1, w2, w3, w4, w5, w6, e1, e2] <;> rfl)) | exact (rfl : app (swap _ _) _ = _)))
        refine vr_nil (aw_then ?_)
        refine AWp.seq ?_
        refine aw_true (by (simp only [push_cast, ↓reduceIte, Nat.reduceEqDiff, Nat.reduceAdd, Nat.reduceLeDiff, Nat.reduceLT, Int.reduceLE, Int.reduceLT, Int.reduceAdd, Int.reduceSub, Int.reduceNeg, Int.reduceBEq, Int.reduceBNe, Int.reduceEq, Int.reduceGT, Int.reduceGE, Int.reduceMul, Int.reduceToNat, Nat.reduceMul, reduceCtorEq, h1, h3, h6, hrow, q1, q2, q3, q5, q6, q7, q8, w1, w2, w3, w4, w5, w6, e1, e2] <;> rfl)) (AWp.skip (aw_then ?_))
        refine AWp.seq ?_
        refine AWp.block ?_
        refine AWp.seq ?_
        (refine aw_regionL hS (by kernel_rfl) ?_; repeat (first | apply vr0u | apply vr4 | apply b_tt | apply b_ff | apply b_tf | apply b_ft | apply b_no | exact isD.mk rfl | (apply eqG; (simp only [push_cast, ↓reduceIte, Nat.reduceEqDiff, Nat.reduceAdd, Nat.reduceLeDiff, Nat.reduceLT, Int.reduceLE, Int.reduceLT, Int.reduceAdd, Int.reduceSub, Int.reduceNeg, Int.reduceBEq, Int.reduceBNe, Int.reduceEq, Int.reduceGT, Int.reduceGE, Int.reduceMul, Int.reduceToNat, Nat.reduceMul, reduceCtorEq, h1, h3, h6, hrow, q1, q2, q3, q5, q6, q7, q8, w1, w2, w3, w4, w5, w6, e1, e2] <;> rfl)) | exact (rfl : app (swap _ _) _ = _)))
        refine vr_nil (aw_then ?_)
        refine aw_drawsL [0, 0, 0, 0, 8, 0, 32, 0, 128, 480, 992, 0, 2048, 6144, 0, 16384, 63488, 129024, 2019, 264163, 1048575, 2097151] [19, 21, 1006, 1012] hS mixed (by kernel_rfl) (by kernel_rfl) ?_
        repeat (first | (refine vd0f (by decide) (by ((repeat (first | rewrite [hpL_t rfl] | rewrite [hpL_f rfl])); (simp only [hpL, app_cons, app_nil] <;> rfl))) (by (simp only [push_cast, ↓reduceIte, Nat.reduceEqDiff, Nat.reduceAdd, Nat.reduceLeDiff, Nat.reduceLT, Int.reduceLE, Int.reduceLT, Int.reduceAdd, Int.reduceSub, Int.reduceNeg, Int.reduceBEq, Int.reduceBNe, Int.reduceEq, Int.reduceGT, Int.reduceGE, Int.reduceMul, Int.reduceToNat, Nat.reduceMul, reduceCtorEq, h1, h3, h6, hrow, q1, q2, q3, q5, q6, q7, q8, w1, w2, w3, w4, w5, w6, e1, e2] <;> rfl)) ?_) | (refine vd0q rfl (by decide) rfl (by ((repeat (first | rewrite [hpL_t rfl] | rewrite [hpL_f rfl])); (simp only [hpL, app_cons, app_nil] <;> rfl))) (by (simp only [push_cast, ↓reduceIte, Nat.reduceEqDiff, Nat.reduceAdd, Nat.reduceLeDiff, Nat.reduceLT, Int.reduceLE, Int.reduceLT, Int.reduceAdd, Int.reduceSub, Int.reduceNeg, Int.reduceBEq, Int.reduceBNe, Int.reduceEq, Int.reduceGT, Int.reduceGE, Int.reduceMul, Int.reduceToNat, Nat.reduceMul, reduceCtorEq, h1, h3, h6, hrow, q1, q2, q3, q5, q6, q7, q8, w1, w2, w3, w4, w5, w6, e1, e2] <;> rfl)) (by simp) (by omega) (by intro u hu; simp only [List.mem_cons, List.not_mem_nil, or_false] at hu; rcases hu with rfl | rfl | rfl <;> simp only <;> omega) ?_) | (refine vd0w rfl (by decide) (by ((repeat (first | rewrite [hpL_t rfl] | rewrite [hpL_f rfl])); (simp only [hpL, app_cons, app_nil] <;> rfl))) (by (simp only [push_cast, ↓reduceIte, Nat.reduceEqDiff, Nat.reduceAdd, Nat.reduceLeDiff, Nat.reduceLT, Int.reduceLE, Int.reduceLT, Int.reduceAdd, Int.reduceSub, Int.reduceNeg, Int.reduceBEq, Int.reduceBNe, Int.reduceEq, Int.reduceGT, Int.reduceGE, Int.reduceMul, Int.reduceToNat, Nat.reduceMul, reduceCtorEq, h1, h3, h6, hrow, q1, q2, q3, q5, q6, q7, q8, w1, w2, w3, w4, w5, w6, e1, e2] <;> rfl)) (by omega) (by intro u hu; simp only [List.mem_cons, List.not_mem_nil, or_false] at hu; rcases hu with rfl | rfl | rfl <;> simp only <;> omega) ?_) | (apply vd0; (focus rfl)) | (apply vd0r; (focus rfl); (focus decide); (focus rfl)) | (apply vd0p; (focus decide)) | apply vd4 | apply b_tt | apply b_ff | apply b_tf | apply b_ft | apply b_no | exact isD.mk rfl | ((repeat (first | rewrite [hpL_t rfl] | rewrite [hpL_f rfl])); (simp only [hpL, app_cons, app_nil] <;> rfl)) | (apply eqG; (simp only [push_cast, ↓reduceIte, Nat.reduceEqDiff, Nat.reduceAdd, Nat.reduceLeDiff, Nat.reduceLT, Int.reduceLE, Int.reduceLT, Int.reduceAdd, Int.reduceSub, Int.reduceNeg, Int.reduceBEq, Int.reduceBNe, Int.reduceEq, Int.reduceGT, Int.reduceGE, Int.reduceMul, Int.reduceToNat, Nat.reduceMul, reduceCtorEq, h1, h3, h6, hrow, q1, q2, q3, q5, q6, q7, q8, w1, w2, w3, w4, w5, w6, e1, e2] <;> rfl)))
        (refine vd_nil (by simp only [hpL, app_cons, app_nil, if_true] <;> rfl) ?_)
        refine aw_in (aw_then ?_)
        (refine aw_regionL hS (by kernel_rfl) ?_; repeat (first | apply vr0u | apply vr4 | apply b_tt | apply b_ff | apply b_tf | apply b_ft | apply b_no | exact isD.mk rfl | (apply eqG; (simp only [push_cast, ↓reduceIte, Nat.reduceEqDiff, Nat.reduceAdd, Nat.reduceLeDiff, Nat.reduceLT, Int.reduceLE, Int.reduceLT, Int.reduceAdd, Int.reduceSub, Int.reduceNeg, Int.reduceBEq, Int.reduceBNe, Int.reduceEq, Int.reduceGT, Int.reduceGE, Int.reduceMul, Int.reduceToNat, Nat.reduceMul, reduceCtorEq, h1, h3, h6, hrow, q1, q2, q3, q5, q6, q7, q8, w1, w2, w3, w4, w5, w6, e1, e2] <;> rfl)) | exact (rfl : app (swap _ _) _ = _)))
        exact vr_nil (aw_then ⟨8 - (i + 1), by omega, i + 1, rfl, hi, by (simp only [push_cast, ↓reduceIte, Nat.reduceEqDiff, Nat.reduceAdd, Nat.reduceLeDiff, Nat.reduceLT, Int.reduceLE, Int.reduceLT, Int.reduceAdd, Int.reduceSub, Int.reduceNeg, Int.reduceBEq, Int.reduceBNe, Int.reduceEq, Int.reduceGT, Int.reduceGE, Int.reduceMul, Int.reduceToNat, Nat.reduceMul, reduceCtorEq, h1, h3, h6, hrow, q1, q2, q3, q5, q6, q7, q8, w1, w2, w3, w4, w5, w6, e1, e2] <;> rfl), by (simp only [push_cast, ↓reduceIte, Nat.reduceEqDiff, Nat.reduceAdd, Nat.reduceLeDiff, Nat.reduceLT, Int.reduceLE, Int.reduceLT, Int.reduceAdd, Int.reduceSub, Int.reduceNeg, Int.reduceBEq, Int.reduceBNe, Int.reduceEq, Int.reduceGT, Int.reduceGE, Int.reduceMul, Int.reduceToNat, Nat.reduceMul, reduceCtorEq, h1, h3, h6, hrow, q1, q2, q3, q5, q6, q7, q8, w1, w2, w3, w4, w5, w6, e1, e2] <;> rfl), by (simp only [push_cast, ↓reduceIte, Nat.reduceEqDiff, Nat.reduceAdd, Nat.reduceLeDiff, Nat.reduceLT, Int.reduceLE, Int.reduceLT, Int.reduceAdd, Int.reduceSub, Int.reduceNeg, Int.reduceBEq, Int.reduceBNe, Int.reduceEq, Int.reduceGT, Int.reduceGE, Int.reduceMul, Int.reduceToNat, Nat.reduceMul, reduceCtorEq, h1, h3, h6, hrow, q1, q2, q3, q5, q6, q7, q8, w1, w2, w3, w4, w5, w6, e1, e2] <;> rfl), hnn, upd_same .., keepU (Nat.le_succ _) (keepU (Nat.le_succ _) hk)⟩)
      · obtain rfl : i = 8 := by omega
        have h6 : t' 6 = .i .i64 8 := h6
        refine AWp.seq ?_
        (refine aw_regionL hS (by kernel_rfl) ?_; repeat (first | apply vr0u | apply vr4 | apply b_tt | apply b_ff | apply b_tf | apply b_ft | apply b_no | exact isD.mk rfl | (apply eqG; (simp only [push_cast, ↓reduceIte, Nat.reduceEqDiff, Nat.reduceAdd, Nat.reduceLeDiff, Nat.reduceLT, Int.reduceLE, Int.reduceLT, Int.reduceAdd, Int.reduceSub, Int.reduceNeg, Int.reduceBEq, Int.reduceBNe, Int.reduceEq, Int.reduceGT, Int.reduceGE, Int.reduceMul, Int.reduceToNat, Nat.reduceMul, reduceCtorEq, h1, h3, h6] <;> rfl)) | exact (rfl : app (swap _ _) _ = _)))
        refine vr_nil (aw_then ?_)
        refine AWp.seq ?_
        refine aw_false (by (simp only [push_cast, ↓reduceIte, Nat.reduceEqDiff, Nat.reduceAdd, Nat.reduceLeDiff, Nat.reduceLT, Int.reduceLE, Int.reduceLT, Int.reduceAdd, Int.reduceSub, Int.reduceNeg, Int.reduceBEq, Int.reduceBNe, Int.reduceEq, Int.reduceGT, Int.reduceGE, Int.reduceMul, Int.reduceToNat, Nat.reduceMul, reduceCtorEq, h1, h3, h6] <;> rfl)) (AWp.exit (aw_thru (aw_thru (aw_exit (aw_then ?_)))))
        exact ⟨by (simp only [push_cast, ↓reduceIte, Nat.reduceEqDiff, Nat.reduceAdd, Nat.reduceLeDiff, Nat.reduceLT, Int.reduceLE, Int.reduceLT, Int.reduceAdd, Int.reduceSub, Int.reduceNeg, Int.reduceBEq, Int.reduceBNe, Int.reduceEq, Int.reduceGT, Int.reduceGE, Int.reduceMul, Int.reduceToNat, Nat.reduceMul, reduceCtorEq, h1, h3, h6] <;> rfl), hrow, hk⟩
  · rintro t1 h1 m1 - ⟨h3, hrow, hk⟩
    refine AWp.seq ?_
    (refine aw_regionL hS (by kernel_rfl) ?_; repeat (first | apply vr0u | apply vr4 | apply b_tt | apply b_ff | apply b_tf | apply b_ft | apply b_no | exact isD.mk rfl | (apply eqG; (simp only [push_cast, ↓reduceIte, Nat.reduceEqDiff, Nat.reduceAdd, Nat.reduceLeDiff, Nat.reduceLT, Int.reduceLE, Int.reduceLT, Int.reduceAdd, Int.reduceSub, Int.reduceNeg, Int.reduceBEq, Int.reduceBNe, Int.reduceEq, Int.reduceGT, Int.reduceGE, Int.reduceMul, Int.reduceToNat, Nat.reduceMul, reduceCtorEq, h3, hrow] <;> rfl)) | exact (rfl : app (swap _ _) _ = _)))
    refine vr_nil (aw_then ?_)
    refine AWp.freeze (j := n + 1) (k := 2) (cs := cellsB (markB c sz)) hrow (by (simp only [push_cast, ↓reduceIte, Nat.reduceEqDiff, Nat.reduceAdd, Nat.reduceLeDiff, Nat.reduceLT, Int.reduceLE, Int.reduceLT, Int.reduceAdd, Int.reduceSub, Int.reduceNeg, Int.reduceBEq, Int.reduceBNe, Int.reduceEq, Int.reduceGT, Int.reduceGE, Int.reduceMul, Int.reduceToNat, Nat.reduceMul, reduceCtorEq, h3, hrow] <;> rfl)) (by rw [len_cellsB, markB, mkF_len]; decide) ?_
    refine AWp.ret ?_
    exact Out.pure1 (.inr rfl) rfl (by (simp only [push_cast, ↓reduceIte, Nat.reduceEqDiff, Nat.reduceAdd, Nat.reduceLeDiff, Nat.reduceLT, Int.reduceLE, Int.reduceLT, Int.reduceAdd, Int.reduceSub, Int.reduceNeg, Int.reduceBEq, Int.reduceBNe, Int.reduceEq, Int.reduceGT, Int.reduceGE, Int.reduceMul, Int.reduceToNat, Nat.reduceMul, reduceCtorEq, h3, hrow] <;> rfl)) (by rw [List.take_of_length_le (by rw [len_cellsB, markB, mkF_len]; decide)]) (AV.free_names _ (by simp [AV.free, free_cellsB])) (keepU (Nat.le_succ _) hk)

end Go.Proofs.YtepfknnffooaiaaDoor
