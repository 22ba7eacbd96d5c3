import Derived.Test.YtpgohmcolcfhfaaWkPage2

namespace Go.Proofs.Ytpgohmcolcfhfaa
open Go.Av
set_option maxRecDepth 100000
set_option maxHeartbeats 1000000
set_option linter.unusedSimpArgs false
set_option linter.unusedVariables false
attribute [local push_cast] stepE callR resE aeff aev ofC ofC1 put_at Av.put_none inTmps List.getD_cons_zero List.getD_cons_succ AV.boxable if_true if_false AV.cells aload place app_cons app_nil upd_same Av.part abin aconv aindexAddr fillA splice_one splice_two abuiltin alen amax amin aun aindex Option.map_some List.map_cons List.map_nil List.nil_append List.append_nil List.cons_append Nat.le_refl Nat.zero_add List.length_cons List.length_nil List.drop_succ_cons List.drop_zero List.take_succ_cons List.take_zero beq_self_eq_true bne_self_eq_false Bool.not_true Bool.not_false List.set_cons_zero List.set_cons_succ Bool.false_eq_true IntWalk.i64_in decide_true decide_false Int.toNat_zero and_self and_true true_and List.getElem?_cons_zero List.getElem?_cons_succ agT_26 szT_26 slT_24 agT_24 szT_24 flT_26_0 flT_26_1 flT_26_3 flT_26_2 agT_22 szT_22 arT_22 agT_3 szT_3 kiT_3 kiT_23 kiT_4 zeT_26 buT_26 zeT_22 buT_22 kiT_9 kiT_51 kiT_5 und_51 slT_51 agT_5 szT_5 aappend aapp view slT_24 zeT_3 byT_24 zeT_5 Option.map_none asliceB aslice amin amax Bool.and_true Bool.true_and Nat.mul_one alen



def M8 : Sums := M7.addP 48 (fun args => match args with | [.s s] => if 0 < s.size ∧ s.size ≤ 5000 then some (r1A s) else none | _ => none)
theorem ok_M8 : SumOk Try.prog M8 := by
  refine ok_M7.addP (fun args r hr => ?_)
  split at hr
  · split at hr
    · rename_i hc; injection hr with hr; subst hr; exact c48 _ hc.1 (by omega) _ ok_M7
    · cases hr
  · cases hr
theorem mt48 (s : ByteArray) (h : Heap) (h0 : 0 < s.size) (hz : s.size ≤ 5000) : M8 48 [.s s] h = .pure (r1A s) := by simp [M8, Sums.addP, h0, hz]
def M9 : Sums := M8.addP 28 (fun args => match args with | [.s s] => if s.size ≤ 5000 then some (.b (chkL (runesL s 0))) else none | _ => none)
theorem ok_M9 : SumOk Try.prog M9 := by
  refine ok_M8.addP (fun args r hr => ?_)
  split at hr
  · split at hr
    · rename_i hc; injection hr with hr; subst hr; exact c28 _ hc _ ok_M8 (fun s h h0 hz => mt48 s h h0 hz)
    · cases hr
  · cases hr
def M10 : Sums := M9.addP 29 (fun args => match args with | [.s s] => if s.size ≤ 5000 then some (.i .i64 (runesFrom s 0 : Nat)) else none | _ => none)
theorem ok_M10 : SumOk Try.prog M10 := by
  refine ok_M9.addP (fun args r hr => ?_)
  split at hr
  · split at hr
    · rename_i hc; injection hr with hr; subst hr; exact c29 _ hc _ ok_M9 (fun s h h0 hz => mt48 s h h0 hz)
    · cases hr
  · cases hr
def M11 : Sums := M10.addP 30 (fun args => match args with | [.s s] => if s.size ≤ 5000 then some (.s (foldS s)) else none | _ => none)
theorem ok_M11 : SumOk Try.prog M11 := by
  refine ok_M10.addP (fun args r hr => ?_)
  split at hr
  · split at hr
    · rename_i hc; injection hr with hr; subst hr; exact c30 _ hc _ ok_M10
    · cases hr
  · cases hr
def M12 : Sums := M11.addP 32 (fun args => match args with | [.s s, .i .i64 x] => if s.size ≤ 5000 ∧ x ≤ 9223372036854775807 then some (.s (cutS s x)) else none | _ => none)
theorem ok_M12 : SumOk Try.prog M12 := by
  refine ok_M11.addP (fun args r hr => ?_)
  split at hr
  · split at hr
    · rename_i hc; injection hr with hr; subst hr; exact c32 _ _ hc.1 hc.2 _ ok_M11 (fun s h h0 hz => mt48 s h h0 hz)
    · cases hr
  · cases hr
theorem c8 (s t : ByteArray) (x : Int) (hx : x ≤ 9223372036854775807) : ∀ h n, DCalls Try.prog 8 [.s s, .s t, .i .i64 x] h n (.b true) [] n := by
  intro h n
  have hS := ok_M12
  refine DCalls.of Try.func8 rfl (by decide) (Nat.le_of_ble_eq_true rfl) (Nat.le_refl _) ?_
  refine AWp.seq ?_
  (refine aw_regionL hS (by kernel_rfl) ?_; repeat (first | apply vr0u | apply vr4 | apply b_tt | apply b_ff | apply b_tf | apply b_ft | apply b_no | exact isD.mk rfl | (apply eqG; (simp only [push_cast, ↓reduceIte, Nat.reduceEqDiff, Nat.reduceAdd, Nat.reduceLeDiff, Int.reduceLE, Int.reduceLT, Int.reduceAdd, Int.reduceSub, Int.reduceNeg, Int.reduceBEq, Int.reduceBNe, Int.reduceEq, Int.reduceGT, Int.reduceGE, Int.reduceMul, Int.reduceToNat, Int.reducePow, Nat.reduceMul, reduceCtorEq] <;> rfl))))
  refine vr_nil (aw_then ?_)
  refine AWp.seq ?_
  refine AWp.seq ?_
  (refine aw_regionL hS (by kernel_rfl) ?_; repeat (first | apply vr0u | apply vr4 | apply b_tt | apply b_ff | apply b_tf | apply b_ft | apply b_no | exact isD.mk rfl | (apply eqG; (simp only [push_cast, ↓reduceIte, Nat.reduceEqDiff, Nat.reduceAdd, Nat.reduceLeDiff, Int.reduceLE, Int.reduceLT, Int.reduceAdd, Int.reduceSub, Int.reduceNeg, Int.reduceBEq, Int.reduceBNe, Int.reduceEq, Int.reduceGT, Int.reduceGE, Int.reduceMul, Int.reduceToNat, Int.reducePow, Nat.reduceMul, reduceCtorEq] <;> rfl))))
  refine br_s (by (simp only [push_cast, ↓reduceIte, Nat.reduceEqDiff, Nat.reduceAdd, Nat.reduceLeDiff, Int.reduceLE, Int.reduceLT, Int.reduceAdd, Int.reduceSub, Int.reduceNeg, Int.reduceBEq, Int.reduceBNe, Int.reduceEq, Int.reduceGT, Int.reduceGE, Int.reduceMul, Int.reduceToNat, Int.reducePow, Nat.reduceMul, reduceCtorEq] <;> rfl)) (fun hu => ?_) (fun hu => ?_)
  · repeat (first | apply vr0u | apply vr4 | apply b_tt | apply b_ff | apply b_tf | apply b_ft | apply b_no | exact isD.mk rfl | (apply eqG; (simp only [push_cast, ↓reduceIte, Nat.reduceEqDiff, Nat.reduceAdd, Nat.reduceLeDiff, Int.reduceLE, Int.reduceLT, Int.reduceAdd, Int.reduceSub, Int.reduceNeg, Int.reduceBEq, Int.reduceBNe, Int.reduceEq, Int.reduceGT, Int.reduceGE, Int.reduceMul, Int.reduceToNat, Int.reducePow, Nat.reduceMul, reduceCtorEq] <;> rfl)))
    refine vr_nil (aw_then ?_)
    refine aw_true (by (simp only [push_cast, ↓reduceIte, Nat.reduceEqDiff, Nat.reduceAdd, Nat.reduceLeDiff, Int.reduceLE, Int.reduceLT, Int.reduceAdd, Int.reduceSub, Int.reduceNeg, Int.reduceBEq, Int.reduceBNe, Int.reduceEq, Int.reduceGT, Int.reduceGE, Int.reduceMul, Int.reduceToNat, Int.reducePow, Nat.reduceMul, reduceCtorEq] <;> rfl)) ?_
    refine AWp.seq ?_
    (refine aw_regionL hS (by kernel_rfl) ?_; repeat (first | apply vr0u | apply vr4 | apply b_tt | apply b_ff | apply b_tf | apply b_ft | apply b_no | exact isD.mk rfl | (apply eqG; (simp only [push_cast, ↓reduceIte, Nat.reduceEqDiff, Nat.reduceAdd, Nat.reduceLeDiff, Int.reduceLE, Int.reduceLT, Int.reduceAdd, Int.reduceSub, Int.reduceNeg, Int.reduceBEq, Int.reduceBNe, Int.reduceEq, Int.reduceGT, Int.reduceGE, Int.reduceMul, Int.reduceToNat, Int.reducePow, Nat.reduceMul, reduceCtorEq] <;> rfl))))
    refine vr_nil (aw_then ?_)
    refine AWp.ret ?_
    exact Out.pure1 (.inr rfl) rfl (by (simp only [push_cast, ↓reduceIte, Nat.reduceEqDiff, Nat.reduceAdd, Nat.reduceLeDiff, Int.reduceLE, Int.reduceLT, Int.reduceAdd, Int.reduceSub, Int.reduceNeg, Int.reduceBEq, Int.reduceBNe, Int.reduceEq, Int.reduceGT, Int.reduceGE, Int.reduceMul, Int.reduceToNat, Int.reducePow, Nat.reduceMul, reduceCtorEq] <;> rfl)) rfl trivial keep0
  have u0 := of_decide_eq_false hu; clear hu
  repeat (first | apply vr0u | apply vr4 | apply b_tt | apply b_ff | apply b_tf | apply b_ft | apply b_no | exact isD.mk rfl | (apply eqG; (simp only [push_cast, ↓reduceIte, Nat.reduceEqDiff, Nat.reduceAdd, Nat.reduceLeDiff, Int.reduceLE, Int.reduceLT, Int.reduceAdd, Int.reduceSub, Int.reduceNeg, Int.reduceBEq, Int.reduceBNe, Int.reduceEq, Int.reduceGT, Int.reduceGE, Int.reduceMul, Int.reduceToNat, Int.reducePow, Nat.reduceMul, reduceCtorEq] <;> rfl)))
  refine vr_nil (aw_then ?_)
  refine aw_split (by (simp only [push_cast, ↓reduceIte, Nat.reduceEqDiff, Nat.reduceAdd, Nat.reduceLeDiff, Int.reduceLE, Int.reduceLT, Int.reduceAdd, Int.reduceSub, Int.reduceNeg, Int.reduceBEq, Int.reduceBNe, Int.reduceEq, Int.reduceGT, Int.reduceGE, Int.reduceMul, Int.reduceToNat, Int.reducePow, Nat.reduceMul, reduceCtorEq] <;> rfl)) (fun hu => ?_) (fun hu => ?_)
  · refine AWp.seq ?_
    (refine aw_regionL hS (by kernel_rfl) ?_; repeat (first | apply vr0u | apply vr4 | apply b_tt | apply b_ff | apply b_tf | apply b_ft | apply b_no | exact isD.mk rfl | (apply eqG; (simp only [push_cast, ↓reduceIte, Nat.reduceEqDiff, Nat.reduceAdd, Nat.reduceLeDiff, Int.reduceLE, Int.reduceLT, Int.reduceAdd, Int.reduceSub, Int.reduceNeg, Int.reduceBEq, Int.reduceBNe, Int.reduceEq, Int.reduceGT, Int.reduceGE, Int.reduceMul, Int.reduceToNat, Int.reducePow, Nat.reduceMul, reduceCtorEq] <;> rfl))))
    refine vr_nil (aw_then ?_)
    refine AWp.ret ?_
    exact Out.pure1 (.inr rfl) rfl (by (simp only [push_cast, ↓reduceIte, Nat.reduceEqDiff, Nat.reduceAdd, Nat.reduceLeDiff, Int.reduceLE, Int.reduceLT, Int.reduceAdd, Int.reduceSub, Int.reduceNeg, Int.reduceBEq, Int.reduceBNe, Int.reduceEq, Int.reduceGT, Int.reduceGE, Int.reduceMul, Int.reduceToNat, Int.reducePow, Nat.reduceMul, reduceCtorEq] <;> rfl)) rfl trivial keep0
  have u1 := of_decide_eq_false hu; clear hu
  have z0 : s.size ≤ 5000 := by omega
  have z1 : t.size ≤ 5000 := by omega
  refine AWp.skip (aw_then ?_)
  have g23 : ∀ h, M12 23 [.s s] h = .pure (.i .i64 (runesFrom s 0 : Nat)) := fun h => mt23 s h z0
  have g29 : ∀ h, M12 29 [.s s] h = .pure (.i .i64 (runesFrom s 0 : Nat)) := fun h => by simp [M12, M11, M10, Sums.addP, z0]
  have g26 : ∀ h, M12 26 [.s s] h = .pure (.s (foldS s)) := fun h => mt26 s h z0
  have g30 : ∀ h, M12 30 [.s s] h = .pure (.s (foldS s)) := fun h => by simp [M12, M11, Sums.addP, z0]
  have g30t : ∀ h, M12 30 [.s t] h = .pure (.s (foldS t)) := fun h => by simp [M12, M11, Sums.addP, z1]
  have g27 : ∀ h, M12 27 [.s s, .s t] h = .pure (.b ((foldS s).toList == (foldS t).toList)) := fun h => mt27 s t h z0 z1
  have g31 : ∀ h, M12 31 [.s s, .i .i64 x] h = .pure (.s (cutS s x)) := fun h => mt31 s x h z0 hx
  have g32 : ∀ h, M12 32 [.s s, .i .i64 x] h = .pure (.s (cutS s x)) := fun h => by simp [M12, Sums.addP, z0, hx]
  have g25 : ∀ h, M12 25 [] h = .pure (.b true) := fun h => rfl
  have g28 : ∀ h, M12 28 [.s s] h = .pure (.b (chkL (runesL s 0))) := fun h => by simp [M12, M11, M10, M9, Sums.addP, z0]
  have g24 : ∀ h, M12 24 [.s s] h = .pure (.i .i64 (if chkL (runesL s 0) then 0 else 8)) := fun h => mt24 s h z0
  cases hA : chkL (runesL s 0)
  · rw [hA] at g24 g28
    have g24 : ∀ h, M12 24 [.s s] h = .pure (.i .i64 8) := g24
    refine AWp.seq ?_
    (refine aw_regionL hS (by kernel_rfl) ?_; repeat (first | apply vr0u | apply vr4 | apply b_tt | apply b_ff | apply b_tf | apply b_ft | apply b_no | exact isD.mk rfl | (apply eqG; (simp only [push_cast, ↓reduceIte, Nat.reduceEqDiff, Nat.reduceAdd, Nat.reduceLeDiff, Int.reduceLE, Int.reduceLT, Int.reduceAdd, Int.reduceSub, Int.reduceNeg, Int.reduceBEq, Int.reduceBNe, Int.reduceEq, Int.reduceGT, Int.reduceGE, Int.reduceMul, Int.reduceToNat, Int.reducePow, Nat.reduceMul, reduceCtorEq, g23, g29, g26, g30, g30t, g27, g31, g32, g25, g28, g24] <;> rfl))))
    refine vr_nil (aw_then ?_)
    refine AWp.seq ?_
    refine AWp.seq ?_
    (refine aw_regionL hS (by kernel_rfl) ?_; repeat (first | apply vr0u | apply vr4 | apply b_tt | apply b_ff | apply b_tf | apply b_ft | apply b_no | exact isD.mk rfl | (apply eqG; (simp only [push_cast, ↓reduceIte, Nat.reduceEqDiff, Nat.reduceAdd, Nat.reduceLeDiff, Int.reduceLE, Int.reduceLT, Int.reduceAdd, Int.reduceSub, Int.reduceNeg, Int.reduceBEq, Int.reduceBNe, Int.reduceEq, Int.reduceGT, Int.reduceGE, Int.reduceMul, Int.reduceToNat, Int.reducePow, Nat.reduceMul, reduceCtorEq, g23, g29, g26, g30, g30t, g27, g31, g32, g25, g28, g24] <;> rfl))))
    refine vr_nil (aw_then ?_)
    refine aw_false (by (simp only [push_cast, ↓reduceIte, Nat.reduceEqDiff, Nat.reduceAdd, Nat.reduceLeDiff, Int.reduceLE, Int.reduceLT, Int.reduceAdd, Int.reduceSub, Int.reduceNeg, Int.reduceBEq, Int.reduceBNe, Int.reduceEq, Int.reduceGT, Int.reduceGE, Int.reduceMul, Int.reduceToNat, Int.reducePow, Nat.reduceMul, reduceCtorEq, g23, g29, g26, g30, g30t, g27, g31, g32, g25, g28, g24] <;> rfl)) (AWp.skip (aw_then ?_))
    refine AWp.seq ?_
    (refine aw_regionL hS (by kernel_rfl) ?_; repeat (first | apply vr0u | apply vr4 | apply b_tt | apply b_ff | apply b_tf | apply b_ft | apply b_no | exact isD.mk rfl | (apply eqG; (simp only [push_cast, ↓reduceIte, Nat.reduceEqDiff, Nat.reduceAdd, Nat.reduceLeDiff, Int.reduceLE, Int.reduceLT, Int.reduceAdd, Int.reduceSub, Int.reduceNeg, Int.reduceBEq, Int.reduceBNe, Int.reduceEq, Int.reduceGT, Int.reduceGE, Int.reduceMul, Int.reduceToNat, Int.reducePow, Nat.reduceMul, reduceCtorEq, g23, g29, g26, g30, g30t, g27, g31, g32, g25, g28, g24] <;> rfl))))
    refine vr_nil (aw_then ?_)
    refine AWp.ret ?_
    exact Out.pure1 (.inr rfl) rfl (by (simp only [push_cast, ↓reduceIte, Nat.reduceEqDiff, Nat.reduceAdd, Nat.reduceLeDiff, Int.reduceLE, Int.reduceLT, Int.reduceAdd, Int.reduceSub, Int.reduceNeg, Int.reduceBEq, Int.reduceBNe, Int.reduceEq, Int.reduceGT, Int.reduceGE, Int.reduceMul, Int.reduceToNat, Int.reducePow, Nat.reduceMul, reduceCtorEq, g23, g29, g26, g30, g30t, g27, g31, g32, g25, g28, g24] <;> rfl)) rfl trivial keep0
  · rw [hA] at g24 g28
    have g24 : ∀ h, M12 24 [.s s] h = .pure (.i .i64 0) := g24
    refine AWp.seq ?_
    (refine aw_regionL hS (by kernel_rfl) ?_; repeat (first | apply vr0u | apply vr4 | apply b_tt | apply b_ff | apply b_tf | apply b_ft | apply b_no | exact isD.mk rfl | (apply eqG; (simp only [push_cast, ↓reduceIte, Nat.reduceEqDiff, Nat.reduceAdd, Nat.reduceLeDiff, Int.reduceLE, Int.reduceLT, Int.reduceAdd, Int.reduceSub, Int.reduceNeg, Int.reduceBEq, Int.reduceBNe, Int.reduceEq, Int.reduceGT, Int.reduceGE, Int.reduceMul, Int.reduceToNat, Int.reducePow, Nat.reduceMul, reduceCtorEq, g23, g29, g26, g30, g30t, g27, g31, g32, g25, g28, g24] <;> rfl))))
    refine vr_nil (aw_then ?_)
    refine AWp.seq ?_
    refine AWp.seq ?_
    (refine aw_regionL hS (by kernel_rfl) ?_; repeat (first | apply vr0u | apply vr4 | apply b_tt | apply b_ff | apply b_tf | apply b_ft | apply b_no | exact isD.mk rfl | (apply eqG; (simp only [push_cast, ↓reduceIte, Nat.reduceEqDiff, Nat.reduceAdd, Nat.reduceLeDiff, Int.reduceLE, Int.reduceLT, Int.reduceAdd, Int.reduceSub, Int.reduceNeg, Int.reduceBEq, Int.reduceBNe, Int.reduceEq, Int.reduceGT, Int.reduceGE, Int.reduceMul, Int.reduceToNat, Int.reducePow, Nat.reduceMul, reduceCtorEq, g23, g29, g26, g30, g30t, g27, g31, g32, g25, g28, g24] <;> rfl))))
    refine vr_nil (aw_then ?_)
    refine aw_false (by (simp only [push_cast, ↓reduceIte, Nat.reduceEqDiff, Nat.reduceAdd, Nat.reduceLeDiff, Int.reduceLE, Int.reduceLT, Int.reduceAdd, Int.reduceSub, Int.reduceNeg, Int.reduceBEq, Int.reduceBNe, Int.reduceEq, Int.reduceGT, Int.reduceGE, Int.reduceMul, Int.reduceToNat, Int.reducePow, Nat.reduceMul, reduceCtorEq, g23, g29, g26, g30, g30t, g27, g31, g32, g25, g28, g24] <;> rfl)) (AWp.skip (aw_then ?_))
    refine AWp.seq ?_
    (refine aw_regionL hS (by kernel_rfl) ?_; repeat (first | apply vr0u | apply vr4 | apply b_tt | apply b_ff | apply b_tf | apply b_ft | apply b_no | exact isD.mk rfl | (apply eqG; (simp only [push_cast, ↓reduceIte, Nat.reduceEqDiff, Nat.reduceAdd, Nat.reduceLeDiff, Int.reduceLE, Int.reduceLT, Int.reduceAdd, Int.reduceSub, Int.reduceNeg, Int.reduceBEq, Int.reduceBNe, Int.reduceEq, Int.reduceGT, Int.reduceGE, Int.reduceMul, Int.reduceToNat, Int.reducePow, Nat.reduceMul, reduceCtorEq, g23, g29, g26, g30, g30t, g27, g31, g32, g25, g28, g24] <;> rfl))))
    refine vr_nil (aw_then ?_)
    refine AWp.ret ?_
    exact Out.pure1 (.inr rfl) rfl (by (simp only [push_cast, ↓reduceIte, Nat.reduceEqDiff, Nat.reduceAdd, Nat.reduceLeDiff, Int.reduceLE, Int.reduceLT, Int.reduceAdd, Int.reduceSub, Int.reduceNeg, Int.reduceBEq, Int.reduceBNe, Int.reduceEq, Int.reduceGT, Int.reduceGE, Int.reduceMul, Int.reduceToNat, Int.reducePow, Nat.reduceMul, reduceCtorEq, g23, g29, g26, g30, g30t, g27, g31, g32, g25, g28, g24] <;> rfl)) rfl trivial keep0
end Go.Proofs.Ytpgohmcolcfhfaa
