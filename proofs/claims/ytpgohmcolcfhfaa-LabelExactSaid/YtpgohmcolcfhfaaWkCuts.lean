import Derived.Test.YtpgohmcolcfhfaaWkLab

namespace Go.Proofs.Ytpgohmcolcfhfaa
open Go.Av
set_option maxRecDepth 100000
set_option maxHeartbeats 1000000
set_option linter.unusedSimpArgs false
set_option linter.unusedVariables false
attribute [local push_cast] stepE callR resE aeff aev ofC ofC1 put_at Av.put_none inTmps List.getD_cons_zero List.getD_cons_succ AV.boxable if_true if_false AV.cells aload place app_cons app_nil upd_same Av.part abin aconv aindexAddr fillA splice_one splice_two abuiltin alen amax amin aun aindex Option.map_some List.map_cons List.map_nil List.nil_append List.append_nil List.cons_append Nat.le_refl Nat.zero_add List.length_cons List.length_nil List.drop_succ_cons List.drop_zero List.take_succ_cons List.take_zero beq_self_eq_true bne_self_eq_false Bool.not_true Bool.not_false List.set_cons_zero List.set_cons_succ Bool.false_eq_true IntWalk.i64_in decide_true decide_false Int.toNat_zero and_self and_true true_and List.getElem?_cons_zero List.getElem?_cons_succ agT_26 szT_26 slT_24 agT_24 szT_24 flT_26_0 flT_26_1 flT_26_3 flT_26_2 agT_22 szT_22 arT_22 agT_3 szT_3 kiT_3 kiT_23 kiT_4 zeT_26 buT_26 zeT_22 buT_22 kiT_9 kiT_51 kiT_5 und_51 slT_51 agT_5 szT_5 aappend aapp view slT_24 zeT_3 byT_24 asliceB aslice amin amax Bool.and_true Bool.true_and Nat.mul_one alen


/-! ### what LabelCuts asks, in plain words -/
theorem cut_cut (s : ByteArray) (x y : Int) : cutS (cutS s x) y = cutS s (if y < x then y else x) := by
  apply bs_inj
  rw [cut_chop, chop_cut, cut_chop, List.take_take]
  congr 2
  split <;> omega
theorem runes_cut (s : ByteArray) (x : Int) : runesFrom (cutS s x) 0 = min x.toNat (runesFrom s 0) := by
  rw [runes_all, chop_cut, List.length_take, runes_all]
theorem cut_whole (s : ByteArray) : cutS s (runesFrom s 0 : Nat) = s := by
  apply bs_inj
  rw [cut_chop, runes_all, Int.toNat_natCast, List.take_length, chop_flatten]
theorem runes_le (s : ByteArray) : runesFrom s 0 ≤ s.size := by
  have := runesFrom_le s s.size 0 (by omega)
  omega
theorem c9 (s : ByteArray) (x y : Int) (hx : x ≤ 9223372036854775807) (hy : y ≤ 9223372036854775807) : ∀ h n, DCalls Try.prog 9 [.s s, .i .i64 x, .i .i64 y] h n (.b true) [] n := by
  intro h n
  have hS := ok_M7
  refine DCalls.of Try.func9 rfl (by decide) (Nat.le_of_ble_eq_true rfl) (Nat.le_refl _) ?_
  refine AWp.seq ?_
  (refine aw_regionL hS (by kernel_rfl) ?_; repeat (first | apply vr0u | apply vr4 | apply b_tt | apply b_ff | apply b_tf | apply b_ft | apply b_no | exact isD.mk rfl | (apply eqG; (simp only [push_cast, ↓reduceIte, Nat.reduceEqDiff, Nat.reduceAdd, Nat.reduceLeDiff, Int.reduceLE, Int.reduceLT, Int.reduceAdd, Int.reduceSub, Int.reduceNeg, Int.reduceBEq, Int.reduceBNe, Int.reduceEq, Int.reduceGT, Int.reduceGE, Int.reduceMul, Int.reduceToNat, Nat.reduceMul, reduceCtorEq] <;> rfl))))
  refine vr_nil (aw_then ?_)
  refine AWp.seq ?_
  refine AWp.seq ?_
  (refine aw_regionL hS (by kernel_rfl) ?_; repeat (first | apply vr0u | apply vr4 | apply b_tt | apply b_ff | apply b_tf | apply b_ft | apply b_no | exact isD.mk rfl | (apply eqG; (simp only [push_cast, ↓reduceIte, Nat.reduceEqDiff, Nat.reduceAdd, Nat.reduceLeDiff, Int.reduceLE, Int.reduceLT, Int.reduceAdd, Int.reduceSub, Int.reduceNeg, Int.reduceBEq, Int.reduceBNe, Int.reduceEq, Int.reduceGT, Int.reduceGE, Int.reduceMul, Int.reduceToNat, Nat.reduceMul, reduceCtorEq] <;> rfl))))
  refine vr_nil (aw_then ?_)
  refine aw_split (by (simp only [push_cast, ↓reduceIte, Nat.reduceEqDiff, Nat.reduceAdd, Nat.reduceLeDiff, Int.reduceLE, Int.reduceLT, Int.reduceAdd, Int.reduceSub, Int.reduceNeg, Int.reduceBEq, Int.reduceBNe, Int.reduceEq, Int.reduceGT, Int.reduceGE, Int.reduceMul, Int.reduceToNat, Nat.reduceMul, reduceCtorEq] <;> rfl)) (fun hu => ?_) (fun hu => ?_)
  · refine AWp.seq ?_
    (refine aw_regionL hS (by kernel_rfl) ?_; repeat (first | apply vr0u | apply vr4 | apply b_tt | apply b_ff | apply b_tf | apply b_ft | apply b_no | exact isD.mk rfl | (apply eqG; (simp only [push_cast, ↓reduceIte, Nat.reduceEqDiff, Nat.reduceAdd, Nat.reduceLeDiff, Int.reduceLE, Int.reduceLT, Int.reduceAdd, Int.reduceSub, Int.reduceNeg, Int.reduceBEq, Int.reduceBNe, Int.reduceEq, Int.reduceGT, Int.reduceGE, Int.reduceMul, Int.reduceToNat, Nat.reduceMul, reduceCtorEq] <;> rfl))))
    refine vr_nil (aw_then ?_)
    refine AWp.ret ?_
    exact Out.pure1 (.inr rfl) rfl (by (simp only [push_cast, ↓reduceIte, Nat.reduceEqDiff, Nat.reduceAdd, Nat.reduceLeDiff, Int.reduceLE, Int.reduceLT, Int.reduceAdd, Int.reduceSub, Int.reduceNeg, Int.reduceBEq, Int.reduceBNe, Int.reduceEq, Int.reduceGT, Int.reduceGE, Int.reduceMul, Int.reduceToNat, Nat.reduceMul, reduceCtorEq] <;> rfl)) rfl trivial keep0
  have u1 := of_decide_eq_false hu; clear hu
  have z0 : s.size ≤ 5000 := by omega
  have f1 : ∀ h, M7 31 [.s s, .i .i64 x] h = .pure (.s (cutS s x)) := fun h => mt31 s x h z0 hx
  have hcl := cutS_le s x
  have hcp := cutS_pre s x
  have hal : ∀ h, M7 23 [.s s] h = .pure (.i .i64 (runesFrom s 0 : Nat)) := fun h => mt23 s h z0
  have hrc := runes_cut s x
  have hcc := cut_cut s x y
  have hw := cut_whole s
  have f2 : ∀ h, M7 31 [.s (cutS s x), .i .i64 y] h = .pure (.s (cutS s (if y < x then y else x))) := fun h => by rw [mt31 _ y h (by omega) hy, hcc]
  have f3 : ∀ h, M7 31 [.s s, .i .i64 (if y < x then y else x)] h = .pure (.s (cutS s (if y < x then y else x))) := fun h => mt31 s _ h z0 (by split <;> assumption)
  have f4 : ∀ h, M7 31 [.s s, .i .i64 (runesFrom s 0 : Nat)] h = .pure (.s s) := fun h => by rw [mt31 s _ h z0 (by have := runes_le s; omega), hw]
  have f5 : ∀ h, M7 23 [.s (cutS s x)] h = .pure (.i .i64 (runesFrom (cutS s x) 0 : Nat)) := fun h => mt23 _ h (by omega)
  rw [hrc] at f5
  have e5 : ((min x.toNat (runesFrom s 0) : Nat) : Int) = if 0 > (if (runesFrom s 0 : Int) < x then (runesFrom s 0 : Int) else x) then (0 : Int) else (if (runesFrom s 0 : Int) < x then (runesFrom s 0 : Int) else x) := by
    split <;> split at * <;> omega
  rw [e5] at f5
  clear hcc hw hrc e5
  generalize hm : cutS s (if y < x then y else x) = m at f2 f3
  generalize hv : (if y < x then y else x) = v at f3
  generalize hc : cutS s x = c at *
  have q1 : ((c.size : Nat) : Int) > ((s.size : Nat) : Int) ↔ False := by simp; omega
  have q2 : (0 ≤ (c.size : Int) ∧ (c.size : Int) ≤ ((s.size : Nat) : Int)) = True := by simp; omega
  generalize hal' : ((runesFrom s 0 : Nat) : Int) = al at *
  refine AWp.skip (aw_then ?_)
  refine AWp.seq ?_
  (refine aw_regionL hS (by kernel_rfl) ?_; repeat (first | apply vr0u | apply vr4 | apply b_tt | apply b_ff | apply b_tf | apply b_ft | apply b_no | exact isD.mk rfl | (apply eqG; (simp only [push_cast, ↓reduceIte, Nat.reduceEqDiff, Nat.reduceAdd, Nat.reduceLeDiff, Int.reduceLE, Int.reduceLT, Int.reduceAdd, Int.reduceSub, Int.reduceNeg, Int.reduceBEq, Int.reduceBNe, Int.reduceEq, Int.reduceGT, Int.reduceGE, Int.reduceMul, Int.reduceToNat, Nat.reduceMul, reduceCtorEq, f1, f2, f3, f4, f5, hal, mt25, q1, q2, hcp, hv, Int.toNat_natCast, decide_false] <;> rfl))))
  refine vr_nil (aw_then ?_)
  refine AWp.seq ?_
  refine AWp.seq ?_
  (refine aw_regionL hS (by kernel_rfl) ?_; repeat (first | apply vr0u | apply vr4 | apply b_tt | apply b_ff | apply b_tf | apply b_ft | apply b_no | exact isD.mk rfl | (apply eqG; (simp only [push_cast, ↓reduceIte, Nat.reduceEqDiff, Nat.reduceAdd, Nat.reduceLeDiff, Int.reduceLE, Int.reduceLT, Int.reduceAdd, Int.reduceSub, Int.reduceNeg, Int.reduceBEq, Int.reduceBNe, Int.reduceEq, Int.reduceGT, Int.reduceGE, Int.reduceMul, Int.reduceToNat, Nat.reduceMul, reduceCtorEq, f1, f2, f3, f4, f5, hal, mt25, q1, q2, hcp, hv, Int.toNat_natCast, decide_false] <;> rfl))))
  refine vr_nil (aw_then ?_)
  refine aw_false (by (simp only [push_cast, ↓reduceIte, Nat.reduceEqDiff, Nat.reduceAdd, Nat.reduceLeDiff, Int.reduceLE, Int.reduceLT, Int.reduceAdd, Int.reduceSub, Int.reduceNeg, Int.reduceBEq, Int.reduceBNe, Int.reduceEq, Int.reduceGT, Int.reduceGE, Int.reduceMul, Int.reduceToNat, Nat.reduceMul, reduceCtorEq, f1, f2, f3, f4, f5, hal, mt25, q1, q2, hcp, hv, Int.toNat_natCast, decide_false] <;> rfl)) (AWp.skip (aw_then ?_))
  refine AWp.seq ?_
  (refine aw_regionL hS (by kernel_rfl) ?_; repeat (first | apply vr0u | apply vr4 | apply b_tt | apply b_ff | apply b_tf | apply b_ft | apply b_no | exact isD.mk rfl | (apply eqG; (simp only [push_cast, ↓reduceIte, Nat.reduceEqDiff, Nat.reduceAdd, Nat.reduceLeDiff, Int.reduceLE, Int.reduceLT, Int.reduceAdd, Int.reduceSub, Int.reduceNeg, Int.reduceBEq, Int.reduceBNe, Int.reduceEq, Int.reduceGT, Int.reduceGE, Int.reduceMul, Int.reduceToNat, Nat.reduceMul, reduceCtorEq, f1, f2, f3, f4, f5, hal, mt25, q1, q2, hcp, hv, Int.toNat_natCast, decide_false] <;> rfl))))
  refine vr_nil (aw_then ?_)
  refine AWp.seq ?_
  (refine aw_regionL hS (by kernel_rfl) ?_; repeat (first | apply vr0u | apply vr4 | apply b_tt | apply b_ff | apply b_tf | apply b_ft | apply b_no | exact isD.mk rfl | (apply eqG; (simp only [push_cast, ↓reduceIte, Nat.reduceEqDiff, Nat.reduceAdd, Nat.reduceLeDiff, Int.reduceLE, Int.reduceLT, Int.reduceAdd, Int.reduceSub, Int.reduceNeg, Int.reduceBEq, Int.reduceBNe, Int.reduceEq, Int.reduceGT, Int.reduceGE, Int.reduceMul, Int.reduceToNat, Nat.reduceMul, reduceCtorEq, f1, f2, f3, f4, f5, hal, mt25, q1, q2, hcp, hv, Int.toNat_natCast, decide_false] <;> rfl))))
  refine vr_nil (aw_then ?_)
  refine AWp.seq ?_
  (refine aw_regionL hS (by kernel_rfl) ?_; repeat (first | apply vr0u | apply vr4 | apply b_tt | apply b_ff | apply b_tf | apply b_ft | apply b_no | exact isD.mk rfl | (apply eqG; (simp only [push_cast, ↓reduceIte, Nat.reduceEqDiff, Nat.reduceAdd, Nat.reduceLeDiff, Int.reduceLE, Int.reduceLT, Int.reduceAdd, Int.reduceSub, Int.reduceNeg, Int.reduceBEq, Int.reduceBNe, Int.reduceEq, Int.reduceGT, Int.reduceGE, Int.reduceMul, Int.reduceToNat, Nat.reduceMul, reduceCtorEq, f1, f2, f3, f4, f5, hal, mt25, q1, q2, hcp, hv, Int.toNat_natCast, decide_false] <;> rfl))))
  refine vr_nil (aw_then ?_)
  refine AWp.ret ?_
  exact Out.pure1 (.inr rfl) rfl (by (simp only [push_cast, ↓reduceIte, Nat.reduceEqDiff, Nat.reduceAdd, Nat.reduceLeDiff, Int.reduceLE, Int.reduceLT, Int.reduceAdd, Int.reduceSub, Int.reduceNeg, Int.reduceBEq, Int.reduceBNe, Int.reduceEq, Int.reduceGT, Int.reduceGE, Int.reduceMul, Int.reduceToNat, Nat.reduceMul, reduceCtorEq, f1, f2, f3, f4, f5, hal, mt25, q1, q2, hcp, hv, Int.toNat_natCast, decide_false] <;> rfl)) rfl trivial keep0
end Go.Proofs.Ytpgohmcolcfhfaa
