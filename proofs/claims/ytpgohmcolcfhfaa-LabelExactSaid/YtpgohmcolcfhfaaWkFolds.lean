import Derived.Test.YtpgohmcolcfhfaaWkFoldLaw

namespace Go.Proofs.Ytpgohmcolcfhfaa
open Go.Av
set_option maxRecDepth 100000
set_option maxHeartbeats 1000000
set_option linter.unusedSimpArgs false
set_option linter.unusedVariables false
attribute [local push_cast] stepE callR resE aeff aev ofC ofC1 put_at Av.put_none inTmps List.getD_cons_zero List.getD_cons_succ AV.boxable if_true if_false AV.cells aload place app_cons app_nil upd_same Av.part abin aconv aindexAddr fillA splice_one splice_two abuiltin alen amax amin aun aindex Option.map_some List.map_cons List.map_nil List.nil_append List.append_nil List.cons_append Nat.le_refl Nat.zero_add List.length_cons List.length_nil List.drop_succ_cons List.drop_zero List.take_succ_cons List.take_zero beq_self_eq_true bne_self_eq_false Bool.not_true Bool.not_false List.set_cons_zero List.set_cons_succ Bool.false_eq_true IntWalk.i64_in decide_true decide_false Int.toNat_zero and_self and_true true_and List.getElem?_cons_zero List.getElem?_cons_succ agT_26 szT_26 slT_24 agT_24 szT_24 flT_26_0 flT_26_1 flT_26_3 flT_26_2 agT_22 szT_22 arT_22 agT_3 szT_3 kiT_3 kiT_23 kiT_4 zeT_26 buT_26 zeT_22 buT_22 kiT_9 kiT_51 kiT_5 und_51 slT_51 agT_5 szT_5 aappend aapp view slT_24 zeT_3 byT_24 Bool.and_true Bool.true_and Nat.mul_one alen
def big (s : ByteArray) : Prop := s.size ≤ 9223372036854775807
theorem c25 (S : Sums) (hS : SumOk Try.prog S) (h23 : ∀ s h, s.size ≤ 1000 → S 23 [.s s] h = .pure (.i .i64 (runesFrom s 0 : Nat))) (h24 : ∀ s h, s.size ≤ 1000 → S 24 [.s s] h = .pure (.i .i64 (if chkL (runesL s 0) then 0 else 8))) (h27 : ∀ s t h, s.size ≤ 1000 → t.size ≤ 1000 → S 27 [.s s, .s t] h = .pure (.b (sameS s t))) : ∀ h n, DCalls Try.prog 25 [] h n (.b true) [] n := by
  intro h n
  refine DCalls.of Try.func25 rfl (by decide) (Nat.le_of_ble_eq_true rfl) (Nat.le_refl _) ?_
  have e1 : ∀ h, S 24 [.s { data := #[65, 100, 97, 32, 76, 46] }] h = .pure (.i .i64 0) := fun h => by
    rw [h24 _ h (by decide), (by decide +kernel : chkL (runesL { data := #[65, 100, 97, 32, 76, 46] } 0) = true)]; rfl
  have e2 : ∀ h, S 24 [.s { data := #[32, 120] }] h = .pure (.i .i64 8) := fun h => by
    rw [h24 _ h (by decide), (by decide +kernel : chkL (runesL { data := #[32, 120] } 0) = false)]; rfl
  have e3 : ∀ h, S 27 [.s { data := #[65, 100, 97] }, .s { data := #[97, 68, 65] }] h = .pure (.b true) := fun h => by
    rw [h27 _ _ h (by decide) (by decide), (by decide +kernel : sameS { data := #[65, 100, 97] } { data := #[97, 68, 65] } = true)]
  have e4 : ∀ h, S 23 [.s { data := #[195, 164, 98] }] h = .pure (.i .i64 2) := fun h => by
    rw [h23 _ h (by decide), (by decide +kernel : runesFrom { data := #[195, 164, 98] } 0 = 2)]; rfl
  refine AWp.seq ?_
  (refine aw_regionL hS (by kernel_rfl) ?_; repeat (first | apply vr0u | apply vr4 | apply b_tt | apply b_ff | apply b_tf | apply b_ft | apply b_no | exact isD.mk rfl | (apply eqG; (simp only [push_cast, ↓reduceIte, Nat.reduceEqDiff, Nat.reduceAdd, Nat.reduceLeDiff, Int.reduceLE, Int.reduceLT, Int.reduceAdd, Int.reduceSub, Int.reduceNeg, Int.reduceBEq, Int.reduceBNe, Int.reduceEq, Int.reduceGT, Int.reduceGE, Int.reduceMul, Int.reduceToNat, Nat.reduceMul, reduceCtorEq, e1, e2, e3, e4] <;> rfl))))
  refine vr_nil (aw_then ?_)
  refine AWp.seq ?_
  (refine aw_regionL hS (by kernel_rfl) ?_; repeat (first | apply vr0u | apply vr4 | apply b_tt | apply b_ff | apply b_tf | apply b_ft | apply b_no | exact isD.mk rfl | (apply eqG; (simp only [push_cast, ↓reduceIte, Nat.reduceEqDiff, Nat.reduceAdd, Nat.reduceLeDiff, Int.reduceLE, Int.reduceLT, Int.reduceAdd, Int.reduceSub, Int.reduceNeg, Int.reduceBEq, Int.reduceBNe, Int.reduceEq, Int.reduceGT, Int.reduceGE, Int.reduceMul, Int.reduceToNat, Nat.reduceMul, reduceCtorEq, e1, e2, e3, e4] <;> rfl))))
  refine vr_nil (aw_then ?_)
  refine AWp.ret ?_
  exact Out.pure1 (.inr rfl) rfl (by (simp only [push_cast, ↓reduceIte, Nat.reduceEqDiff, Nat.reduceAdd, Nat.reduceLeDiff, Int.reduceLE, Int.reduceLT, Int.reduceAdd, Int.reduceSub, Int.reduceNeg, Int.reduceBEq, Int.reduceBNe, Int.reduceEq, Int.reduceGT, Int.reduceGE, Int.reduceMul, Int.reduceToNat, Nat.reduceMul, reduceCtorEq, e1, e2, e3, e4] <;> rfl)) rfl trivial keep0
theorem c7 (s t : ByteArray) (S : Sums) (hS : SumOk Try.prog S) (h23 : ∀ s h, s.size ≤ 1000 → S 23 [.s s] h = .pure (.i .i64 (runesFrom s 0 : Nat))) (h24 : ∀ s h, s.size ≤ 1000 → S 24 [.s s] h = .pure (.i .i64 (if chkL (runesL s 0) then 0 else 8))) (h27 : ∀ s t h, s.size ≤ 1000 → t.size ≤ 1000 → S 27 [.s s, .s t] h = .pure (.b (sameS s t)))
    (h26 : ∀ s h, s.size ≤ 1000 → S 26 [.s s] h = .pure (.s (foldS s))) (h25 : ∀ h, S 25 [] h = .pure (.b true)) : ∀ h n, DCalls Try.prog 7 [.s s, .s t] h n (.b true) [] n := by
  intro h n
  refine DCalls.of Try.func7 rfl (by decide) (Nat.le_of_ble_eq_true rfl) (Nat.le_refl _) ?_
  refine AWp.seq ?_
  (refine aw_regionL hS (by kernel_rfl) ?_; repeat (first | apply vr0u | apply vr4 | apply b_tt | apply b_ff | apply b_tf | apply b_ft | apply b_no | exact isD.mk rfl | (apply eqG; (simp only [push_cast, ↓reduceIte, Nat.reduceEqDiff, Nat.reduceAdd, Nat.reduceLeDiff, Int.reduceLE, Int.reduceLT, Int.reduceAdd, Int.reduceSub, Int.reduceNeg, Int.reduceBEq, Int.reduceBNe, Int.reduceEq, Int.reduceGT, Int.reduceGE, Int.reduceMul, Int.reduceToNat, Nat.reduceMul, reduceCtorEq] <;> rfl))))
  refine vr_nil (aw_then ?_)
  refine AWp.seq ?_
  refine AWp.seq ?_
  (refine aw_regionL hS (by kernel_rfl) ?_; repeat (first | apply vr0u | apply vr4 | apply b_tt | apply b_ff | apply b_tf | apply b_ft | apply b_no | exact isD.mk rfl | (apply eqG; (simp only [push_cast, ↓reduceIte, Nat.reduceEqDiff, Nat.reduceAdd, Nat.reduceLeDiff, Int.reduceLE, Int.reduceLT, Int.reduceAdd, Int.reduceSub, Int.reduceNeg, Int.reduceBEq, Int.reduceBNe, Int.reduceEq, Int.reduceGT, Int.reduceGE, Int.reduceMul, Int.reduceToNat, Nat.reduceMul, reduceCtorEq] <;> rfl))))
  refine br_s (by (simp only [push_cast, ↓reduceIte, Nat.reduceEqDiff, Nat.reduceAdd, Nat.reduceLeDiff, Int.reduceLE, Int.reduceLT, Int.reduceAdd, Int.reduceSub, Int.reduceNeg, Int.reduceBEq, Int.reduceBNe, Int.reduceEq, Int.reduceGT, Int.reduceGE, Int.reduceMul, Int.reduceToNat, Nat.reduceMul, reduceCtorEq] <;> rfl)) (fun hu => ?_) (fun hu => ?_)
  · repeat (first | apply vr0u | apply vr4 | apply b_tt | apply b_ff | apply b_tf | apply b_ft | apply b_no | exact isD.mk rfl | (apply eqG; (simp only [push_cast, ↓reduceIte, Nat.reduceEqDiff, Nat.reduceAdd, Nat.reduceLeDiff, Int.reduceLE, Int.reduceLT, Int.reduceAdd, Int.reduceSub, Int.reduceNeg, Int.reduceBEq, Int.reduceBNe, Int.reduceEq, Int.reduceGT, Int.reduceGE, Int.reduceMul, Int.reduceToNat, Nat.reduceMul, reduceCtorEq] <;> rfl)))
    refine vr_nil (aw_then ?_)
    refine aw_true (by (simp only [push_cast, ↓reduceIte, Nat.reduceEqDiff, Nat.reduceAdd, Nat.reduceLeDiff, Int.reduceLE, Int.reduceLT, Int.reduceAdd, Int.reduceSub, Int.reduceNeg, Int.reduceBEq, Int.reduceBNe, Int.reduceEq, Int.reduceGT, Int.reduceGE, Int.reduceMul, Int.reduceToNat, Nat.reduceMul, reduceCtorEq] <;> rfl)) ?_
    refine AWp.seq ?_
    (refine aw_regionL hS (by kernel_rfl) ?_; repeat (first | apply vr0u | apply vr4 | apply b_tt | apply b_ff | apply b_tf | apply b_ft | apply b_no | exact isD.mk rfl | (apply eqG; (simp only [push_cast, ↓reduceIte, Nat.reduceEqDiff, Nat.reduceAdd, Nat.reduceLeDiff, Int.reduceLE, Int.reduceLT, Int.reduceAdd, Int.reduceSub, Int.reduceNeg, Int.reduceBEq, Int.reduceBNe, Int.reduceEq, Int.reduceGT, Int.reduceGE, Int.reduceMul, Int.reduceToNat, Nat.reduceMul, reduceCtorEq] <;> rfl))))
    refine vr_nil (aw_then ?_)
    refine AWp.ret ?_
    exact Out.pure1 (.inr rfl) rfl (by (simp only [push_cast, ↓reduceIte, Nat.reduceEqDiff, Nat.reduceAdd, Nat.reduceLeDiff, Int.reduceLE, Int.reduceLT, Int.reduceAdd, Int.reduceSub, Int.reduceNeg, Int.reduceBEq, Int.reduceBNe, Int.reduceEq, Int.reduceGT, Int.reduceGE, Int.reduceMul, Int.reduceToNat, Nat.reduceMul, reduceCtorEq] <;> rfl)) rfl trivial keep0
  have u0 := of_decide_eq_false hu; clear hu
  repeat (first | apply vr0u | apply vr4 | apply b_tt | apply b_ff | apply b_tf | apply b_ft | apply b_no | exact isD.mk rfl | (apply eqG; (simp only [push_cast, ↓reduceIte, Nat.reduceEqDiff, Nat.reduceAdd, Nat.reduceLeDiff, Int.reduceLE, Int.reduceLT, Int.reduceAdd, Int.reduceSub, Int.reduceNeg, Int.reduceBEq, Int.reduceBNe, Int.reduceEq, Int.reduceGT, Int.reduceGE, Int.reduceMul, Int.reduceToNat, Nat.reduceMul, reduceCtorEq] <;> rfl)))
  refine vr_nil (aw_then ?_)
  refine aw_split (by (simp only [push_cast, ↓reduceIte, Nat.reduceEqDiff, Nat.reduceAdd, Nat.reduceLeDiff, Int.reduceLE, Int.reduceLT, Int.reduceAdd, Int.reduceSub, Int.reduceNeg, Int.reduceBEq, Int.reduceBNe, Int.reduceEq, Int.reduceGT, Int.reduceGE, Int.reduceMul, Int.reduceToNat, Nat.reduceMul, reduceCtorEq] <;> rfl)) (fun hu => ?_) (fun hu => ?_)
  · refine AWp.seq ?_
    (refine aw_regionL hS (by kernel_rfl) ?_; repeat (first | apply vr0u | apply vr4 | apply b_tt | apply b_ff | apply b_tf | apply b_ft | apply b_no | exact isD.mk rfl | (apply eqG; (simp only [push_cast, ↓reduceIte, Nat.reduceEqDiff, Nat.reduceAdd, Nat.reduceLeDiff, Int.reduceLE, Int.reduceLT, Int.reduceAdd, Int.reduceSub, Int.reduceNeg, Int.reduceBEq, Int.reduceBNe, Int.reduceEq, Int.reduceGT, Int.reduceGE, Int.reduceMul, Int.reduceToNat, Nat.reduceMul, reduceCtorEq] <;> rfl))))
    refine vr_nil (aw_then ?_)
    refine AWp.ret ?_
    exact Out.pure1 (.inr rfl) rfl (by (simp only [push_cast, ↓reduceIte, Nat.reduceEqDiff, Nat.reduceAdd, Nat.reduceLeDiff, Int.reduceLE, Int.reduceLT, Int.reduceAdd, Int.reduceSub, Int.reduceNeg, Int.reduceBEq, Int.reduceBNe, Int.reduceEq, Int.reduceGT, Int.reduceGE, Int.reduceMul, Int.reduceToNat, Nat.reduceMul, reduceCtorEq] <;> rfl)) rfl trivial keep0
  have u1 := of_decide_eq_false hu; clear hu
  have z0 : s.size ≤ 1000 := by omega
  have z1 : t.size ≤ 1000 := by omega
  have z2 : (foldS s).size ≤ 1000 := by rw [foldS_size]; exact z0
  have f1 : ∀ h, S 26 [.s s] h = .pure (.s (foldS s)) := fun h => h26 s h z0
  have f2 : ∀ h, S 26 [.s (foldS s)] h = .pure (.s (foldS s)) := fun h => by rw [h26 _ h z2, foldS_idem]
  have f3 : ∀ h, S 27 [.s s, .s (foldS s)] h = .pure (.b true) := fun h => by rw [h27 _ _ h z0 z2, same_fold]
  have f4 : ∀ h, S 27 [.s s, .s t] h = .pure (.b (sameS s t)) := fun h => h27 _ _ h z0 z1
  have f5 : ∀ h, S 27 [.s t, .s s] h = .pure (.b (sameS s t)) := fun h => by rw [h27 _ _ h z1 z0, same_comm]
  have f6 : ∀ h, S 23 [.s s] h = .pure (.i .i64 (runesFrom s 0 : Nat)) := fun h => h23 s h z0
  have f7 : ∀ h, S 23 [.s (foldS s)] h = .pure (.i .i64 (runesFrom s 0 : Nat)) := fun h => by rw [h23 _ h z2, runes_fold]
  have f8 : ∀ h, S 24 [.s s] h = .pure (.i .i64 (if chkL (runesL s 0) then 0 else 8)) := fun h => h24 s h z0
  have f9 : ∀ h, S 24 [.s (foldS s)] h = .pure (.i .i64 (if chkL (runesL s 0) then 0 else 8)) := fun h => by rw [h24 _ h z2, chkS_fold]
  have kiT4 := kiT_4
  refine AWp.skip (aw_then ?_)
  generalize (if chkL (runesL s 0) = true then (0 : Int) else 8) = q at f8 f9
  refine AWp.seq ?_
  (refine aw_regionL hS (by kernel_rfl) ?_; repeat (first | apply vr0u | apply vr4 | apply b_tt | apply b_ff | apply b_tf | apply b_ft | apply b_no | exact isD.mk rfl | (apply eqG; (simp only [push_cast, ↓reduceIte, Nat.reduceEqDiff, Nat.reduceAdd, Nat.reduceLeDiff, Int.reduceLE, Int.reduceLT, Int.reduceAdd, Int.reduceSub, Int.reduceNeg, Int.reduceBEq, Int.reduceBNe, Int.reduceEq, Int.reduceGT, Int.reduceGE, Int.reduceMul, Int.reduceToNat, Nat.reduceMul, reduceCtorEq, f1, f2, f3, f4, f5, f6, f7, f8, f9, h25, foldS_size] <;> rfl))))
  refine vr_nil (aw_then ?_)
  refine AWp.seq ?_
  refine AWp.seq ?_
  (refine aw_regionL hS (by kernel_rfl) ?_; repeat (first | apply vr0u | apply vr4 | apply b_tt | apply b_ff | apply b_tf | apply b_ft | apply b_no | exact isD.mk rfl | (apply eqG; (simp only [push_cast, ↓reduceIte, Nat.reduceEqDiff, Nat.reduceAdd, Nat.reduceLeDiff, Int.reduceLE, Int.reduceLT, Int.reduceAdd, Int.reduceSub, Int.reduceNeg, Int.reduceBEq, Int.reduceBNe, Int.reduceEq, Int.reduceGT, Int.reduceGE, Int.reduceMul, Int.reduceToNat, Nat.reduceMul, reduceCtorEq, f1, f2, f3, f4, f5, f6, f7, f8, f9, h25, foldS_size] <;> rfl))))
  refine vr_nil (aw_then ?_)
  refine aw_false (by (simp only [push_cast, ↓reduceIte, Nat.reduceEqDiff, Nat.reduceAdd, Nat.reduceLeDiff, Int.reduceLE, Int.reduceLT, Int.reduceAdd, Int.reduceSub, Int.reduceNeg, Int.reduceBEq, Int.reduceBNe, Int.reduceEq, Int.reduceGT, Int.reduceGE, Int.reduceMul, Int.reduceToNat, Nat.reduceMul, reduceCtorEq, f1, f2, f3, f4, f5, f6, f7, f8, f9, h25, foldS_size] <;> rfl)) (AWp.skip (aw_then ?_))
  refine AWp.seq ?_
  (refine aw_regionL hS (by kernel_rfl) ?_; repeat (first | apply vr0u | apply vr4 | apply b_tt | apply b_ff | apply b_tf | apply b_ft | apply b_no | exact isD.mk rfl | (apply eqG; (simp only [push_cast, ↓reduceIte, Nat.reduceEqDiff, Nat.reduceAdd, Nat.reduceLeDiff, Int.reduceLE, Int.reduceLT, Int.reduceAdd, Int.reduceSub, Int.reduceNeg, Int.reduceBEq, Int.reduceBNe, Int.reduceEq, Int.reduceGT, Int.reduceGE, Int.reduceMul, Int.reduceToNat, Nat.reduceMul, reduceCtorEq, f1, f2, f3, f4, f5, f6, f7, f8, f9, h25, foldS_size] <;> rfl))))
  refine vr_nil (aw_then ?_)
  refine AWp.ret ?_
  exact Out.pure1 (.inr rfl) rfl (by (simp only [push_cast, ↓reduceIte, Nat.reduceEqDiff, Nat.reduceAdd, Nat.reduceLeDiff, Int.reduceLE, Int.reduceLT, Int.reduceAdd, Int.reduceSub, Int.reduceNeg, Int.reduceBEq, Int.reduceBNe, Int.reduceEq, Int.reduceGT, Int.reduceGE, Int.reduceMul, Int.reduceToNat, Nat.reduceMul, reduceCtorEq, f1, f2, f3, f4, f5, f6, f7, f8, f9, h25, foldS_size] <;> rfl)) rfl trivial keep0
def L0 : Sums := Sums.none
theorem ok_L0 : SumOk Try.prog L0 := SumOk.none
def L1 : Sums := L0.addP 26 (fun args => match args with | [.s s] => if s.size ≤ 1000 then some (.s (foldS s)) else none | _ => none)
theorem ok_L1 : SumOk Try.prog L1 := by
  refine ok_L0.addP (fun args r hr => ?_)
  split at hr
  · split at hr
    · rename_i hc; injection hr with hr; subst hr; exact c26 _ (by omega) _ ok_L0
    · cases hr
  · cases hr
def L2 : Sums := L1.addP 27 (fun args => match args with | [.s s, .s t] => if s.size ≤ 1000 ∧ t.size ≤ 1000 then some (.b (sameS s t)) else none | _ => none)
theorem ok_L2 : SumOk Try.prog L2 := by
  refine ok_L1.addP (fun args r hr => ?_)
  split at hr
  · split at hr
    · rename_i hc; injection hr with hr; subst hr; exact c27 _ _ _ ok_L1 (fun h => by simp [L1, Sums.addP, hc.1]) (fun h => by simp [L1, Sums.addP, hc.2])
    · cases hr
  · cases hr
def L3 : Sums := L2.addP 47 (fun args => match args with | [.i .i32 r] => some (.b (plainN r)) | _ => none)
theorem ok_L3 : SumOk Try.prog L3 := by
  refine ok_L2.addP (fun args r hr => ?_)
  split at hr
  · injection hr with hr; subst hr; exact c47 _ _ ok_L2
  · cases hr
def L4 : Sums := L3.addP 24 (fun args => match args with | [.s s] => if s.size ≤ 1000 then some (.i .i64 (if chkL (runesL s 0) then 0 else 8)) else none | _ => none)
theorem ok_L4 : SumOk Try.prog L4 := by
  refine ok_L3.addP (fun args r hr => ?_)
  split at hr
  · split at hr
    · rename_i hc; injection hr with hr; subst hr; exact c24 _ (by omega) _ ok_L3 (fun _ _ => rfl)
    · cases hr
  · cases hr
def L5 : Sums := L4.addP 23 (fun args => match args with | [.s s] => if s.size ≤ 1000 then some (.i .i64 (runesFrom s 0 : Nat)) else none | _ => none)
theorem ok_L5 : SumOk Try.prog L5 := by
  refine ok_L4.addP (fun args r hr => ?_)
  split at hr
  · split at hr
    · rename_i hc; injection hr with hr; subst hr; exact c23 _ (by omega) _ ok_L4
    · cases hr
  · cases hr
theorem at23 (s : ByteArray) (h : Heap) (hz : s.size ≤ 1000) : L5 23 [.s s] h = .pure (.i .i64 (runesFrom s 0 : Nat)) := by simp [L5, Sums.addP, hz]
theorem at24 (s : ByteArray) (h : Heap) (hz : s.size ≤ 1000) : L5 24 [.s s] h = .pure (.i .i64 (if chkL (runesL s 0) then 0 else 8)) := by simp [L5, L4, Sums.addP, hz]
theorem at26 (s : ByteArray) (h : Heap) (hz : s.size ≤ 1000) : L5 26 [.s s] h = .pure (.s (foldS s)) := by simp [L5, L4, L3, L2, L1, Sums.addP, hz]
theorem at27 (s t : ByteArray) (h : Heap) (hz : s.size ≤ 1000) (hz' : t.size ≤ 1000) : L5 27 [.s s, .s t] h = .pure (.b (sameS s t)) := by simp [L5, L4, L3, L2, Sums.addP, hz, hz']
def L6 : Sums := L5.addP 25 (fun args => match args with | [] => some (.b true) | _ => none)
theorem ok_L6 : SumOk Try.prog L6 := by
  refine ok_L5.addP (fun args r hr => ?_)
  split at hr
  · injection hr with hr; subst hr; exact c25 _ ok_L5 at23 at24 at27
  · cases hr
theorem walk7 (s t : ByteArray) : ∀ h n, DCalls Try.prog 7 [.s s, .s t] h n (.b true) [] n :=
  c7 s t L6 ok_L6 at23 at24 at27 at26 (fun _ => rfl)
end Go.Proofs.Ytpgohmcolcfhfaa
