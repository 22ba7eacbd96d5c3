import Derived.Test.YtpgohmcolcfhfaaWkAt
import Derived.Test.YtpgohmcolcfhfaaWkCheck
import Derived.Test.YtpgohmcolcfhfaaWkTwin
import Derived.Test.YtpgohmcolcfhfaaWkKeep
import Derived.Test.YtpgohmcolcfhfaaWkRef13

namespace Go.Proofs.Ytpgohmcolcfhfaa
open Go.Av
set_option maxRecDepth 100000
set_option maxHeartbeats 1000000
set_option linter.unusedSimpArgs false
set_option linter.unusedVariables false
attribute [local push_cast] stepE callR resE aeff aev ofC ofC1 put_at Av.put_none inTmps List.getD_cons_zero List.getD_cons_succ AV.boxable if_true if_false AV.cells aload place app_cons app_nil upd_same Av.part abin aconv aindexAddr fillA splice_one splice_two abuiltin alen amax amin aun aindex Option.map_some List.map_cons List.map_nil List.nil_append List.append_nil List.cons_append Nat.le_refl Nat.zero_add List.length_cons List.length_nil List.drop_succ_cons List.drop_zero List.take_succ_cons List.take_zero beq_self_eq_true bne_self_eq_false Bool.not_true Bool.not_false List.set_cons_zero List.set_cons_succ Bool.false_eq_true IntWalk.i64_in decide_true decide_false Int.toNat_zero and_self and_true true_and List.getElem?_cons_zero List.getElem?_cons_succ agT_26 szT_26 slT_24 agT_24 szT_24 flT_26_0 flT_26_1 flT_26_3 flT_26_2 agT_22 szT_22 arT_22 agT_3 szT_3 kiT_3 kiT_23 kiT_4 zeT_26 buT_26 zeT_22 buT_22 aappend aapp view slT_24 zeT_3 byT_24 Bool.and_true Bool.true_and Nat.mul_one alen
theorem c4 (z : Bool) (T D a0 a1 a2 a3 x : Int) (ms : List Int) (S : Sums) (hS : SumOk Try.prog S) (h15 : ∀ c0 c1 w a0 a1 a2 a3 y h, S 15 [.agg [c0, c1, .i .i64 a0, .i .i64 a1, .i .i64 a2, .i .i64 a3, w], .i .i64 y] h = .pure (.i .i64 (phAt a0 a1 a2 a3 y)))
    (h16 : ∀ c0 c1 w a0 a1 a2 a3 y h, S 16 [.agg [c0, c1, .i .i64 a0, .i .i64 a1, .i .i64 a2, .i .i64 a3, w], .i .i64 y] h = .pure (.tup [.i .i64 (phAt a0 a1 a2 a3 y), .b (bgAt a0 a1 a2 a3 y)])) (h17 : ∀ h, S 17 [] h = .pure (.b true))
    (h18 : ms.length ≤ 100 → ∀ h, S 18 [.agg [.i .i64 T, .i .i64 D, .i .i64 a0, .i .i64 a1, .i .i64 a2, .i .i64 a3, .ro z (ints ms) ms.length]] h = .pure (.agg [.i .i64 T, .i .i64 D, .i .i64 a0, .i .i64 a1, .i .i64 a2, .i .i64 a3, .ro (decide (ms.length = 0)) (ints ms) ms.length])) (h19 : ∀ h, S 19 [.agg [.i .i64 T, .i .i64 D, .i .i64 a0, .i .i64 a1, .i .i64 a2, .i .i64 a3, .ro z (ints ms) ms.length]] h = .pure (.b (okCfg T D a0 a1 a2 a3 ms)))
    (h20 : ∀ h, S 20 [.agg [.i .i64 T, .i .i64 D, .i .i64 a0, .i .i64 a1, .i .i64 a2, .i .i64 a3, .ro (decide (ms.length = 0)) (ints ms) ms.length]] h = .pure (.i .i64 (if okCfg T D a0 a1 a2 a3 ms then 0 else 1))) (h21 : ∀ y h, S 21 [.agg [.i .i64 T, .i .i64 D, .i .i64 a0, .i .i64 a1, .i .i64 a2, .i .i64 a3, .ro z (ints ms) ms.length], .i .i64 y] h = .pure (.i .i64 (phAt a0 a1 a2 a3 y)))
    (h22 : ms.length ≤ 100 → ∀ h, S 22 [.agg [.i .i64 T, .i .i64 D, .i .i64 a0, .i .i64 a1, .i .i64 a2, .i .i64 a3, .ro (decide (ms.length = 0)) (ints ms) ms.length], .agg [.i .i64 T, .i .i64 D, .i .i64 a0, .i .i64 a1, .i .i64 a2, .i .i64 a3, .ro z (ints ms) ms.length]] h = .pure (.b true)) : ∀ h n, DCalls Try.prog 4 [.agg [.i .i64 T, .i .i64 D, .i .i64 a0, .i .i64 a1, .i .i64 a2, .i .i64 a3, .ro z (ints ms) ms.length], .i .i64 x] h n (.b true) [] n := by
  intro h n
  refine DCalls.of Try.func4 rfl (by decide) (Nat.le_of_ble_eq_true rfl) (Nat.le_refl _) ?_
  have upd0 : ∀ (g : Heap) (r : Option Row), upd g (n + 1) r n = g n := fun g r => upd_ne _ _ (by omega)
  refine AWp.seq ?_
  (refine aw_regionL hS (by kernel_rfl) ?_; repeat (first | apply vr0u | apply vr4 | apply b_tt | apply b_ff | apply b_tf | apply b_ft | apply b_no | exact isD.mk rfl | (apply eqG; (simp only [push_cast, ↓reduceIte, Nat.reduceEqDiff, Nat.reduceAdd, Nat.reduceLeDiff, Int.reduceLE, Int.reduceLT, Int.reduceAdd, Int.reduceSub, Int.reduceNeg, Int.reduceBEq, Int.reduceBNe, Int.reduceEq, Int.reduceGT, Int.reduceGE, Int.reduceMul, Int.reduceToNat, Nat.reduceMul, reduceCtorEq, upd0] <;> rfl))))
  refine vr_nil (aw_then ?_)
  refine AWp.seq ?_
  refine AWp.seq ?_
  (refine aw_regionL hS (by kernel_rfl) ?_; repeat (first | apply vr0u | apply vr4 | apply b_tt | apply b_ff | apply b_tf | apply b_ft | apply b_no | exact isD.mk rfl | (apply eqG; (simp only [push_cast, ↓reduceIte, Nat.reduceEqDiff, Nat.reduceAdd, Nat.reduceLeDiff, Int.reduceLE, Int.reduceLT, Int.reduceAdd, Int.reduceSub, Int.reduceNeg, Int.reduceBEq, Int.reduceBNe, Int.reduceEq, Int.reduceGT, Int.reduceGE, Int.reduceMul, Int.reduceToNat, Nat.reduceMul, reduceCtorEq, upd0] <;> rfl))))
  refine vr_nil (aw_then ?_)
  refine aw_split (by (simp only [push_cast, ↓reduceIte, Nat.reduceEqDiff, Nat.reduceAdd, Nat.reduceLeDiff, Int.reduceLE, Int.reduceLT, Int.reduceAdd, Int.reduceSub, Int.reduceNeg, Int.reduceBEq, Int.reduceBNe, Int.reduceEq, Int.reduceGT, Int.reduceGE, Int.reduceMul, Int.reduceToNat, Nat.reduceMul, reduceCtorEq, upd0] <;> rfl)) (fun hu => ?_) (fun hu => ?_)
  · refine AWp.seq ?_
    (refine aw_regionL hS (by kernel_rfl) ?_; repeat (first | apply vr0u | apply vr4 | apply b_tt | apply b_ff | apply b_tf | apply b_ft | apply b_no | exact isD.mk rfl | (apply eqG; (simp only [push_cast, ↓reduceIte, Nat.reduceEqDiff, Nat.reduceAdd, Nat.reduceLeDiff, Int.reduceLE, Int.reduceLT, Int.reduceAdd, Int.reduceSub, Int.reduceNeg, Int.reduceBEq, Int.reduceBNe, Int.reduceEq, Int.reduceGT, Int.reduceGE, Int.reduceMul, Int.reduceToNat, Nat.reduceMul, reduceCtorEq, upd0] <;> rfl))))
    refine vr_nil (aw_then ?_)
    refine AWp.ret ?_
    exact Out.pure1 (.inr rfl) rfl (by (simp only [push_cast, ↓reduceIte, Nat.reduceEqDiff, Nat.reduceAdd, Nat.reduceLeDiff, Int.reduceLE, Int.reduceLT, Int.reduceAdd, Int.reduceSub, Int.reduceNeg, Int.reduceBEq, Int.reduceBNe, Int.reduceEq, Int.reduceGT, Int.reduceGE, Int.reduceMul, Int.reduceToNat, Nat.reduceMul, reduceCtorEq, upd0] <;> rfl)) rfl trivial (keepU (Nat.le_refl _) keep0)
  have hu := of_decide_eq_false hu
  have hm : ms.length ≤ 100 := by omega
  have h18 := h18 hm
  have h22 := h22 hm
  refine AWp.skip (aw_then ?_)
  refine AWp.seq ?_
  (refine aw_regionL hS (by kernel_rfl) ?_; repeat (first | apply vr0u | apply vr4 | apply b_tt | apply b_ff | apply b_tf | apply b_ft | apply b_no | exact isD.mk rfl | (apply eqG; (simp only [push_cast, ↓reduceIte, Nat.reduceEqDiff, Nat.reduceAdd, Nat.reduceLeDiff, Int.reduceLE, Int.reduceLT, Int.reduceAdd, Int.reduceSub, Int.reduceNeg, Int.reduceBEq, Int.reduceBNe, Int.reduceEq, Int.reduceGT, Int.reduceGE, Int.reduceMul, Int.reduceToNat, Nat.reduceMul, reduceCtorEq, upd0, h15, h16, h17, h18, h19, h21, h22] <;> rfl))))
  refine vr_nil (aw_then ?_)
  refine AWp.seq ?_
  (refine aw_regionL hS (by kernel_rfl) ?_; repeat (first | apply vr0u | apply vr4 | apply b_tt | apply b_ff | apply b_tf | apply b_ft | apply b_no | exact isD.mk rfl | (apply eqG; (simp only [push_cast, ↓reduceIte, Nat.reduceEqDiff, Nat.reduceAdd, Nat.reduceLeDiff, Int.reduceLE, Int.reduceLT, Int.reduceAdd, Int.reduceSub, Int.reduceNeg, Int.reduceBEq, Int.reduceBNe, Int.reduceEq, Int.reduceGT, Int.reduceGE, Int.reduceMul, Int.reduceToNat, Nat.reduceMul, reduceCtorEq, upd0, h15, h16, h17, h18, h19, h21, h22] <;> rfl))))
  refine vr_nil (aw_then ?_)
  refine AWp.cut (fun t' h' n' => t' 1 = .i .i64 x ∧ t' 2 = .p n 0 ∧ t' 5 = .p (n + 1) 0 ∧ h' n = some (.cells [.i .i64 T, .i .i64 D, .i .i64 a0, .i .i64 a1, .i .i64 a2, .i .i64 a3, .ro z (ints ms) ms.length]) ∧ h' (n + 1) = some (.cells [.i .i64 T, .i .i64 D, .i .i64 a0, .i .i64 a1, .i .i64 a2, .i .i64 a3, .ro (decide (ms.length = 0)) (ints ms) ms.length]) ∧ ∀ x r, x < n → h x = some r → h' x = some r) ?_ ?_
  · refine AWp.seq ?_
    cases hok : okCfg T D a0 a1 a2 a3 ms
    all_goals rw [hok] at h20
    · have h20 : ∀ h, S 20 [.agg [.i .i64 T, .i .i64 D, .i .i64 a0, .i .i64 a1, .i .i64 a2, .i .i64 a3, .ro (decide (ms.length = 0)) (ints ms) ms.length]] h = .pure (.i .i64 1) := h20
      refine aw_drawsL [0, 1, 3, 0, 15, 31, 63, 127, 255, 511, 1023, 2047, 4095, 8191, 16383, 32767, 32767, 131071, 32767, 32767, 1048575, 2097151, 4194303] [] hS mixed (by kernel_rfl) (by kernel_rfl) ?_
      repeat (first | (apply vd0; (focus rfl)) | (apply vd0r; (focus rfl); (focus decide); (focus rfl)) | (apply vd0p; (focus decide)) | apply vd4 | apply b_tt | apply b_ff | apply b_tf | apply b_ft | apply b_no | exact isD.mk rfl | ((repeat (first | rw [hpL_t rfl] | rw [hpL_f rfl])); simp only [hpL, app_cons, app_nil] <;> rfl) | (apply eqG; (simp only [push_cast, ↓reduceIte, Nat.reduceEqDiff, Nat.reduceAdd, Nat.reduceLeDiff, Int.reduceLE, Int.reduceLT, Int.reduceAdd, Int.reduceSub, Int.reduceNeg, Int.reduceBEq, Int.reduceBNe, Int.reduceEq, Int.reduceGT, Int.reduceGE, Int.reduceMul, Int.reduceToNat, Nat.reduceMul, reduceCtorEq, upd0, h15, h16, h17, h18, h19, h20, h21, h22, hok] <;> rfl)))
      (refine vd_nil (by simp only [hpL, app_cons, app_nil, if_true] <;> rfl) ?_)
      refine aw_then ?_
      refine aw_false (by (simp only [push_cast, ↓reduceIte, Nat.reduceEqDiff, Nat.reduceAdd, Nat.reduceLeDiff, Int.reduceLE, Int.reduceLT, Int.reduceAdd, Int.reduceSub, Int.reduceNeg, Int.reduceBEq, Int.reduceBNe, Int.reduceEq, Int.reduceGT, Int.reduceGE, Int.reduceMul, Int.reduceToNat, Nat.reduceMul, reduceCtorEq, upd0, h15, h16, h17, h18, h19, h20, h21, h22, hok] <;> rfl)) (AWp.skip (aw_then ⟨by (simp only [push_cast, ↓reduceIte, Nat.reduceEqDiff, Nat.reduceAdd, Nat.reduceLeDiff, Int.reduceLE, Int.reduceLT, Int.reduceAdd, Int.reduceSub, Int.reduceNeg, Int.reduceBEq, Int.reduceBNe, Int.reduceEq, Int.reduceGT, Int.reduceGE, Int.reduceMul, Int.reduceToNat, Nat.reduceMul, reduceCtorEq, upd0, h15, h16, h17, h18, h19, h20, h21, h22, hok] <;> rfl), by (simp only [push_cast, ↓reduceIte, Nat.reduceEqDiff, Nat.reduceAdd, Nat.reduceLeDiff, Int.reduceLE, Int.reduceLT, Int.reduceAdd, Int.reduceSub, Int.reduceNeg, Int.reduceBEq, Int.reduceBNe, Int.reduceEq, Int.reduceGT, Int.reduceGE, Int.reduceMul, Int.reduceToNat, Nat.reduceMul, reduceCtorEq, upd0, h15, h16, h17, h18, h19, h20, h21, h22, hok] <;> rfl), by (simp only [push_cast, ↓reduceIte, Nat.reduceEqDiff, Nat.reduceAdd, Nat.reduceLeDiff, Int.reduceLE, Int.reduceLT, Int.reduceAdd, Int.reduceSub, Int.reduceNeg, Int.reduceBEq, Int.reduceBNe, Int.reduceEq, Int.reduceGT, Int.reduceGE, Int.reduceMul, Int.reduceToNat, Nat.reduceMul, reduceCtorEq, upd0, h15, h16, h17, h18, h19, h20, h21, h22, hok] <;> rfl), by (simp only [push_cast, ↓reduceIte, Nat.reduceEqDiff, Nat.reduceAdd, Nat.reduceLeDiff, Int.reduceLE, Int.reduceLT, Int.reduceAdd, Int.reduceSub, Int.reduceNeg, Int.reduceBEq, Int.reduceBNe, Int.reduceEq, Int.reduceGT, Int.reduceGE, Int.reduceMul, Int.reduceToNat, Nat.reduceMul, reduceCtorEq, upd0, h15, h16, h17, h18, h19, h20, h21, h22, hok] <;> rfl), by (simp only [push_cast, ↓reduceIte, Nat.reduceEqDiff, Nat.reduceAdd, Nat.reduceLeDiff, Int.reduceLE, Int.reduceLT, Int.reduceAdd, Int.reduceSub, Int.reduceNeg, Int.reduceBEq, Int.reduceBNe, Int.reduceEq, Int.reduceGT, Int.reduceGE, Int.reduceMul, Int.reduceToNat, Nat.reduceMul, reduceCtorEq, upd0, h15, h16, h17, h18, h19, h20, h21, h22, hok] <;> rfl), keepU (by omega) (keepU (by omega) (keepU (by omega) keep0))⟩))
    · have h20 : ∀ h, S 20 [.agg [.i .i64 T, .i .i64 D, .i .i64 a0, .i .i64 a1, .i .i64 a2, .i .i64 a3, .ro (decide (ms.length = 0)) (ints ms) ms.length]] h = .pure (.i .i64 0) := h20
      refine aw_drawsL [0, 1, 3, 0, 15, 31, 63, 127, 255, 511, 1023, 2047, 4095, 8191, 16383, 32767, 32767, 131071, 32767, 32767, 1048575, 2097151, 4194303] [] hS mixed (by kernel_rfl) (by kernel_rfl) ?_
      repeat (first | (apply vd0; (focus rfl)) | (apply vd0r; (focus rfl); (focus decide); (focus rfl)) | (apply vd0p; (focus decide)) | apply vd4 | apply b_tt | apply b_ff | apply b_tf | apply b_ft | apply b_no | exact isD.mk rfl | ((repeat (first | rw [hpL_t rfl] | rw [hpL_f rfl])); simp only [hpL, app_cons, app_nil] <;> rfl) | (apply eqG; (simp only [push_cast, ↓reduceIte, Nat.reduceEqDiff, Nat.reduceAdd, Nat.reduceLeDiff, Int.reduceLE, Int.reduceLT, Int.reduceAdd, Int.reduceSub, Int.reduceNeg, Int.reduceBEq, Int.reduceBNe, Int.reduceEq, Int.reduceGT, Int.reduceGE, Int.reduceMul, Int.reduceToNat, Nat.reduceMul, reduceCtorEq, upd0, h15, h16, h17, h18, h19, h20, h21, h22, hok] <;> rfl)))
      (refine vd_nil (by simp only [hpL, app_cons, app_nil, if_true] <;> rfl) ?_)
      refine aw_then ?_
      refine aw_false (by (simp only [push_cast, ↓reduceIte, Nat.reduceEqDiff, Nat.reduceAdd, Nat.reduceLeDiff, Int.reduceLE, Int.reduceLT, Int.reduceAdd, Int.reduceSub, Int.reduceNeg, Int.reduceBEq, Int.reduceBNe, Int.reduceEq, Int.reduceGT, Int.reduceGE, Int.reduceMul, Int.reduceToNat, Nat.reduceMul, reduceCtorEq, upd0, h15, h16, h17, h18, h19, h20, h21, h22, hok] <;> rfl)) (AWp.skip (aw_then ⟨by (simp only [push_cast, ↓reduceIte, Nat.reduceEqDiff, Nat.reduceAdd, Nat.reduceLeDiff, Int.reduceLE, Int.reduceLT, Int.reduceAdd, Int.reduceSub, Int.reduceNeg, Int.reduceBEq, Int.reduceBNe, Int.reduceEq, Int.reduceGT, Int.reduceGE, Int.reduceMul, Int.reduceToNat, Nat.reduceMul, reduceCtorEq, upd0, h15, h16, h17, h18, h19, h20, h21, h22, hok] <;> rfl), by (simp only [push_cast, ↓reduceIte, Nat.reduceEqDiff, Nat.reduceAdd, Nat.reduceLeDiff, Int.reduceLE, Int.reduceLT, Int.reduceAdd, Int.reduceSub, Int.reduceNeg, Int.reduceBEq, Int.reduceBNe, Int.reduceEq, Int.reduceGT, Int.reduceGE, Int.reduceMul, Int.reduceToNat, Nat.reduceMul, reduceCtorEq, upd0, h15, h16, h17, h18, h19, h20, h21, h22, hok] <;> rfl), by (simp only [push_cast, ↓reduceIte, Nat.reduceEqDiff, Nat.reduceAdd, Nat.reduceLeDiff, Int.reduceLE, Int.reduceLT, Int.reduceAdd, Int.reduceSub, Int.reduceNeg, Int.reduceBEq, Int.reduceBNe, Int.reduceEq, Int.reduceGT, Int.reduceGE, Int.reduceMul, Int.reduceToNat, Nat.reduceMul, reduceCtorEq, upd0, h15, h16, h17, h18, h19, h20, h21, h22, hok] <;> rfl), by (simp only [push_cast, ↓reduceIte, Nat.reduceEqDiff, Nat.reduceAdd, Nat.reduceLeDiff, Int.reduceLE, Int.reduceLT, Int.reduceAdd, Int.reduceSub, Int.reduceNeg, Int.reduceBEq, Int.reduceBNe, Int.reduceEq, Int.reduceGT, Int.reduceGE, Int.reduceMul, Int.reduceToNat, Nat.reduceMul, reduceCtorEq, upd0, h15, h16, h17, h18, h19, h20, h21, h22, hok] <;> rfl), by (simp only [push_cast, ↓reduceIte, Nat.reduceEqDiff, Nat.reduceAdd, Nat.reduceLeDiff, Int.reduceLE, Int.reduceLT, Int.reduceAdd, Int.reduceSub, Int.reduceNeg, Int.reduceBEq, Int.reduceBNe, Int.reduceEq, Int.reduceGT, Int.reduceGE, Int.reduceMul, Int.reduceToNat, Nat.reduceMul, reduceCtorEq, upd0, h15, h16, h17, h18, h19, h20, h21, h22, hok] <;> rfl), keepU (by omega) (keepU (by omega) (keepU (by omega) keep0))⟩))
  · rintro t h' n' - ⟨t1, t2, t5, hc, hin, hk⟩
    refine AWp.seq ?_
    (refine aw_regionL hS (by kernel_rfl) ?_; repeat (first | apply vr0u | apply vr4 | apply b_tt | apply b_ff | apply b_tf | apply b_ft | apply b_no | exact isD.mk rfl | (apply eqG; (simp only [push_cast, ↓reduceIte, Nat.reduceEqDiff, Nat.reduceAdd, Nat.reduceLeDiff, Int.reduceLE, Int.reduceLT, Int.reduceAdd, Int.reduceSub, Int.reduceNeg, Int.reduceBEq, Int.reduceBNe, Int.reduceEq, Int.reduceGT, Int.reduceGE, Int.reduceMul, Int.reduceToNat, Nat.reduceMul, reduceCtorEq, t1, t2, t5, hc, hin, h15, h16, h17, h21, h22] <;> rfl))))
    refine vr_nil (aw_then ?_)
    refine AWp.seq ?_
    refine aw_drawsL [0, 1, 3, 7, 7, 31, 7, 7, 135, 391, 1023, 2047, 4095, 8191] [] hS mixed (by kernel_rfl) (by kernel_rfl) ?_
    repeat (first | (apply vd0; (focus rfl)) | (apply vd0r; (focus rfl); (focus decide); (focus rfl)) | (apply vd0p; (focus decide)) | apply vd4 | apply b_tt | apply b_ff | apply b_tf | apply b_ft | apply b_no | exact isD.mk rfl | ((repeat (first | rw [hpL_t rfl] | rw [hpL_f rfl])); simp only [hpL, app_cons, app_nil] <;> rfl) | (apply eqG; (simp only [push_cast, ↓reduceIte, Nat.reduceEqDiff, Nat.reduceAdd, Nat.reduceLeDiff, Int.reduceLE, Int.reduceLT, Int.reduceAdd, Int.reduceSub, Int.reduceNeg, Int.reduceBEq, Int.reduceBNe, Int.reduceEq, Int.reduceGT, Int.reduceGE, Int.reduceMul, Int.reduceToNat, Nat.reduceMul, reduceCtorEq, t1, t2, t5, hc, hin, h15, h16, h17, h21, h22] <;> rfl)))
    refine br_s (by (simp only [push_cast, ↓reduceIte, Nat.reduceEqDiff, Nat.reduceAdd, Nat.reduceLeDiff, Int.reduceLE, Int.reduceLT, Int.reduceAdd, Int.reduceSub, Int.reduceNeg, Int.reduceBEq, Int.reduceBNe, Int.reduceEq, Int.reduceGT, Int.reduceGE, Int.reduceMul, Int.reduceToNat, Nat.reduceMul, reduceCtorEq, t1, t2, t5, hc, hin, h15, h16, h17, h21, h22] <;> rfl)) (fun hu => ?_) (fun hu => ?_)
    · have hx := of_decide_eq_true hu
      have e1 : (if 1 > x then 1 else x) = x := if_neg (by omega)
      have hbg : bgAt a0 a1 a2 a3 x = (phAt a0 a1 a2 a3 x != phAt a0 a1 a2 a3 (IntKind.wrap .i64 (x - 1))) := by rw [bgAt, hu]; simp
      repeat (first | (apply vd0; (focus rfl)) | (apply vd0r; (focus rfl); (focus decide); (focus rfl)) | (apply vd0p; (focus decide)) | apply vd4 | apply b_tt | apply b_ff | apply b_tf | apply b_ft | apply b_no | exact isD.mk rfl | ((repeat (first | rw [hpL_t rfl] | rw [hpL_f rfl])); simp only [hpL, app_cons, app_nil] <;> rfl) | (apply eqG; (simp only [push_cast, ↓reduceIte, Nat.reduceEqDiff, Nat.reduceAdd, Nat.reduceLeDiff, Int.reduceLE, Int.reduceLT, Int.reduceAdd, Int.reduceSub, Int.reduceNeg, Int.reduceBEq, Int.reduceBNe, Int.reduceEq, Int.reduceGT, Int.reduceGE, Int.reduceMul, Int.reduceToNat, Nat.reduceMul, reduceCtorEq, t1, t2, t5, hc, hin, h15, h16, h17, h21, h22, e1, hbg] <;> rfl)))
      (refine vd_nil (by simp only [hpL, app_cons, app_nil, if_true] <;> rfl) ?_)
      refine aw_then ?_
      refine AWp.seq ?_
      (refine aw_regionL hS (by kernel_rfl) ?_; repeat (first | apply vr0u | apply vr4 | apply b_tt | apply b_ff | apply b_tf | apply b_ft | apply b_no | exact isD.mk rfl | (apply eqG; (simp only [push_cast, ↓reduceIte, Nat.reduceEqDiff, Nat.reduceAdd, Nat.reduceLeDiff, Int.reduceLE, Int.reduceLT, Int.reduceAdd, Int.reduceSub, Int.reduceNeg, Int.reduceBEq, Int.reduceBNe, Int.reduceEq, Int.reduceGT, Int.reduceGE, Int.reduceMul, Int.reduceToNat, Nat.reduceMul, reduceCtorEq, t1, t2, t5, hc, hin, h15, h16, h17, h21, h22, e1, hbg] <;> rfl))))
      refine vr_nil (aw_then ?_)
      refine AWp.ret ?_
      exact Out.pure1 (.inr rfl) rfl (by (simp only [push_cast, ↓reduceIte, Nat.reduceEqDiff, Nat.reduceAdd, Nat.reduceLeDiff, Int.reduceLE, Int.reduceLT, Int.reduceAdd, Int.reduceSub, Int.reduceNeg, Int.reduceBEq, Int.reduceBNe, Int.reduceEq, Int.reduceGT, Int.reduceGE, Int.reduceMul, Int.reduceToNat, Nat.reduceMul, reduceCtorEq, t1, t2, t5, hc, hin, h15, h16, h17, h21, h22, e1, hbg] <;> rfl)) rfl trivial hk
    · have hbg : bgAt a0 a1 a2 a3 x = false := by rw [bgAt, hu]; rfl
      repeat (first | (apply vd0; (focus rfl)) | (apply vd0r; (focus rfl); (focus decide); (focus rfl)) | (apply vd0p; (focus decide)) | apply vd4 | apply b_tt | apply b_ff | apply b_tf | apply b_ft | apply b_no | exact isD.mk rfl | ((repeat (first | rw [hpL_t rfl] | rw [hpL_f rfl])); simp only [hpL, app_cons, app_nil] <;> rfl) | (apply eqG; (simp only [push_cast, ↓reduceIte, Nat.reduceEqDiff, Nat.reduceAdd, Nat.reduceLeDiff, Int.reduceLE, Int.reduceLT, Int.reduceAdd, Int.reduceSub, Int.reduceNeg, Int.reduceBEq, Int.reduceBNe, Int.reduceEq, Int.reduceGT, Int.reduceGE, Int.reduceMul, Int.reduceToNat, Nat.reduceMul, reduceCtorEq, t1, t2, t5, hc, hin, h15, h16, h17, h21, h22, hbg] <;> rfl)))
      (refine vd_nil (by simp only [hpL, app_cons, app_nil, if_true] <;> rfl) ?_)
      refine aw_then ?_
      refine AWp.seq ?_
      (refine aw_regionL hS (by kernel_rfl) ?_; repeat (first | apply vr0u | apply vr4 | apply b_tt | apply b_ff | apply b_tf | apply b_ft | apply b_no | exact isD.mk rfl | (apply eqG; (simp only [push_cast, ↓reduceIte, Nat.reduceEqDiff, Nat.reduceAdd, Nat.reduceLeDiff, Int.reduceLE, Int.reduceLT, Int.reduceAdd, Int.reduceSub, Int.reduceNeg, Int.reduceBEq, Int.reduceBNe, Int.reduceEq, Int.reduceGT, Int.reduceGE, Int.reduceMul, Int.reduceToNat, Nat.reduceMul, reduceCtorEq, t1, t2, t5, hc, hin, h15, h16, h17, h21, h22, hbg] <;> rfl))))
      refine vr_nil (aw_then ?_)
      refine AWp.ret ?_
      exact Out.pure1 (.inr rfl) rfl (by (simp only [push_cast, ↓reduceIte, Nat.reduceEqDiff, Nat.reduceAdd, Nat.reduceLeDiff, Int.reduceLE, Int.reduceLT, Int.reduceAdd, Int.reduceSub, Int.reduceNeg, Int.reduceBEq, Int.reduceBNe, Int.reduceEq, Int.reduceGT, Int.reduceGE, Int.reduceMul, Int.reduceToNat, Nat.reduceMul, reduceCtorEq, t1, t2, t5, hc, hin, h15, h16, h17, h21, h22, hbg] <;> rfl)) rfl trivial hk
def sums20 : Sums := sums17.addP 20 (fun args => match args with | [.agg [.i .i64 T, .i .i64 D, .i .i64 a0, .i .i64 a1, .i .i64 a2, .i .i64 a3, .ro z cs len]] => (match unints cs with | some ms => if len = ms.length then some (.i .i64 (if okCfg T D a0 a1 a2 a3 ms then 0 else 1)) else none | none => none) | _ => none)
theorem ok20 : SumOk Try.prog sums20 := by
  refine ok17.addP (fun args r hr => ?_)
  split at hr
  · split at hr
    · rename_i hun
      split at hr
      · rename_i hc
        subst hc
        rw [ints_unints hun]
        injection hr with hr; subst hr; exact c20 _ _ _ _ _ _ _ _ _ ok17
      · cases hr
    · cases hr
  · cases hr
def sums19 : Sums := sums20.addP 19 (fun args => match args with | [.agg [.i .i64 T, .i .i64 D, .i .i64 a0, .i .i64 a1, .i .i64 a2, .i .i64 a3, .ro z cs len]] => (match unints cs with | some ms => if len = ms.length then some (.b (okCfg T D a0 a1 a2 a3 ms)) else none | none => none) | _ => none)
theorem ok19 : SumOk Try.prog sums19 := by
  refine ok20.addP (fun args r hr => ?_)
  split at hr
  · split at hr
    · rename_i hun
      split at hr
      · rename_i hc
        subst hc
        rw [ints_unints hun]
        injection hr with hr; subst hr; exact c19 _ _ _ _ _ _ _ _ _ ok20
      · cases hr
    · cases hr
  · cases hr
def sums21 : Sums := sums19.addP 21 (fun args => match args with | [.agg [.i .i64 T, .i .i64 D, .i .i64 a0, .i .i64 a1, .i .i64 a2, .i .i64 a3, w], .i .i64 x] => some (.i .i64 (phAt a0 a1 a2 a3 x)) | _ => none)
theorem ok21 : SumOk Try.prog sums21 := by
  refine ok19.addP (fun args r hr => ?_)
  split at hr
  · injection hr with hr; subst hr; exact c21 _ _ _ _ _ _ _ _ _ ok19
  · cases hr
def sums46 : Sums := sums21.addP 46 (fun args => match args with | [.ro z cs len] => (match unints cs with | some ms => if len = ms.length ∧ ms.length ≤ 100 then some (twinI ms) else none | none => none) | _ => none)
theorem ok46 : SumOk Try.prog sums46 := by
  refine ok21.addP (fun args r hr => ?_)
  split at hr
  · split at hr
    · rename_i hun
      split at hr
      · rename_i hc
        obtain ⟨hc, hm⟩ := hc
        subst hc
        rw [ints_unints hun]
        injection hr with hr; subst hr; exact c46 _ _ _ ok21 hm
      · cases hr
    · cases hr
  · cases hr
def sums18 : Sums := sums46.addP 18 (fun args => match args with | [.agg [.i .i64 T, .i .i64 D, .i .i64 a0, .i .i64 a1, .i .i64 a2, .i .i64 a3, .ro z cs len]] => (match unints cs with | some ms => if len = ms.length ∧ ms.length ≤ 100 then some (.agg [.i .i64 T, .i .i64 D, .i .i64 a0, .i .i64 a1, .i .i64 a2, .i .i64 a3, twinI ms]) else none | none => none) | _ => none)
theorem ok18 : SumOk Try.prog sums18 := by
  refine ok46.addP (fun args r hr => ?_)
  split at hr
  · split at hr
    · rename_i hun
      split at hr
      · rename_i hc
        obtain ⟨hc, hm⟩ := hc
        subst hc
        rw [ints_unints hun]
        injection hr with hr; subst hr; exact c18 _ _ _ _ _ _ _ _ _ ok46 (fun h => by simp [sums46, Sums.addP, unints_ints, hm])
      · cases hr
    · cases hr
  · cases hr
def sums41 : Sums := sums18.addP 41 (fun args => match args with | [.ro y bs k, .ro z cs len] => (match unints cs, unints bs with | some ms, some ks => if len = ms.length ∧ ms.length ≤ 100 ∧ k = ms.length ∧ ks = ms then some (.b true) else none | _, _ => none) | _ => none)
theorem ok41 : SumOk Try.prog sums41 := by
  refine ok18.addP (fun args r hr => ?_)
  split at hr
  · split at hr
    · rename_i hun hun2
      split at hr
      · rename_i hc
        obtain ⟨hc, hm, hk, hks⟩ := hc
        subst hc; subst hk; subst hks
        rw [ints_unints hun, ints_unints hun2]
        injection hr with hr; subst hr; exact c41 _ _ _ hm _ ok18
      · cases hr
    · cases hr
  · cases hr
def sums22 : Sums := sums41.addP 22 (fun args => match args with | [.agg [.i .i64 T, .i .i64 D, .i .i64 a0, .i .i64 a1, .i .i64 a2, .i .i64 a3, .ro y bs k], .agg [.i .i64 T', .i .i64 D', .i .i64 b0, .i .i64 b1, .i .i64 b2, .i .i64 b3, .ro z cs len]] => (match unints cs, unints bs with | some ms, some ks => if (len = ms.length ∧ ms.length ≤ 100 ∧ k = ms.length ∧ ks = ms) ∧ T' = T ∧ D' = D ∧ b0 = a0 ∧ b1 = a1 ∧ b2 = a2 ∧ b3 = a3 then some (.b true) else none | _, _ => none) | _ => none)
theorem ok22 : SumOk Try.prog sums22 := by
  refine ok41.addP (fun args r hr => ?_)
  split at hr
  · split at hr
    · rename_i hun hun2
      split at hr
      · rename_i hc
        obtain ⟨⟨hc, hm, hk, hks⟩, rfl, rfl, rfl, rfl, rfl, rfl⟩ := hc
        subst hc; subst hk; subst hks
        rw [ints_unints hun, ints_unints hun2]
        injection hr with hr; subst hr; exact c22 _ _ _ _ _ _ _ _ _ _ ok41 (fun y z h => by simp [sums41, Sums.addP, unints_ints, hm])
      · cases hr
    · cases hr
  · cases hr
theorem walk4 (z : Bool) (T D a0 a1 a2 a3 x : Int) (ms : List Int) : ∀ h n, DCalls Try.prog 4 [.agg [.i .i64 T, .i .i64 D, .i .i64 a0, .i .i64 a1, .i .i64 a2, .i .i64 a3, .ro z (ints ms) ms.length], .i .i64 x] h n (.b true) [] n :=
  c4 z T D a0 a1 a2 a3 x ms sums22 ok22 (fun _ _ _ _ _ _ _ _ _ => rfl) (fun _ _ _ _ _ _ _ _ _ => rfl) (fun _ => rfl)
    (fun hm h => by simp [sums22, sums41, sums18, Sums.addP, unints_ints, hm, twinI]) (fun h => by simp [sums22, sums41, sums18, sums46, sums21, sums19, Sums.addP, unints_ints])
    (fun h => by simp [sums22, sums41, sums18, sums46, sums21, sums19, sums20, Sums.addP, unints_ints]) (fun y h => rfl) (fun hm h => by simp [sums22, Sums.addP, unints_ints, hm])

end Go.Proofs.Ytpgohmcolcfhfaa
