import Derived.Test.YtepfknnffooaiaaDkC0

namespace Go.Proofs.Ytepfknnffooaiaa
open Go.Av
set_option maxRecDepth 100000
set_option maxHeartbeats 1000000
set_option linter.unusedSimpArgs false
set_option linter.unusedVariables false
attribute [local push_cast] stepE callR resE aeff aev ofC ofC1 put_at Av.put_none inTmps List.getD_cons_zero List.getD_cons_succ AV.boxable if_true if_false AV.cells aload place app_cons app_nil upd_same Av.part abin aconv aindexAddr fillA splice_one abuiltin alen amax amin aun aindex Option.map_some Option.isSome_some List.map_cons List.map_nil List.nil_append List.append_nil List.cons_append Nat.le_refl Nat.zero_add Nat.add_zero List.length_cons List.length_nil List.drop_succ_cons List.drop_zero List.take_succ_cons List.take_zero beq_self_eq_true bne_self_eq_false Bool.not_true Bool.not_false List.set_cons_zero List.set_cons_succ Bool.false_eq_true IntWalk.i64_in decide_true decide_false Int.toNat_zero and_self and_true true_and List.getElem?_cons_zero List.getElem?_cons_succ aappend aapp view Bool.and_true Bool.true_and Nat.mul_one Option.map_none aslice asliceB nilOp Int.toNat_natCast und_30 agT_3 szT_3 kiT_3 agT_4 szT_4 kiT_4 agT_5 szT_5 kiT_5 agT_25 szT_25 kiT_25 agT_28 szT_28 kiT_28 agT_22 szT_22 kiT_22 agT_23 szT_23 kiT_23 agT_30 szT_30 kiT_30 agT_37 szT_37 kiT_37 agT_38 szT_38 kiT_38 agT_52 szT_52 kiT_52 agT_53 szT_53 kiT_53 agT_24 szT_24 kiT_24 agT_54 szT_54 kiT_54 agT_47 szT_47 kiT_47 slT_22 slT_23 slT_30 slT_37 slT_38 slT_52 slT_53 zeT_3 zeT_4 zeT_5 zeT_30 flT_56_0 flT_56_1 flT_56_2 flT_56_3 flT_56_4 agT_56 szT_56 buT_56 zeT_56 flT_58_0 flT_58_1 agT_58 szT_58 buT_58 zeT_58 flT_62_0 flT_62_1 agT_62 szT_62 buT_62 zeT_62 flT_65_0 flT_65_1 flT_65_2 agT_65 szT_65 buT_65 zeT_65 flT_42_0 flT_42_1 flT_42_2 flT_42_3 flT_42_4 flT_42_5 agT_42 szT_42 buT_42 zeT_42 flT_68_0 flT_68_1 flT_68_2 flT_68_3 flT_68_4 flT_68_5 flT_68_6 agT_68 szT_68 buT_68 zeT_68 ptT_24 ptT_54 ptT_47 und_30 

/-! ### heavy -/
def badA (a : Act) : Bool := decide (200 < a.B.b.length) || decide (200 < a.keep.length)
def heavyB (l : List Act) : Bool := decide (400 < l.length) || (l.take 100).any badA
theorem acts_at {l : List Act} {k : Nat} (hk : k < l.length) : (acts l)[k * 6 + 2]? = some l[k].B.v ∧ (acts l)[k * 6 + 4]? = some l[k].k := by
  have h := acts_get hk
  have h1 : ∀ i, i < 6 → (acts l)[k * 6 + i]? = (actC l[k])[i]? := fun i hi => by
    rw [← h, List.getElem?_take_of_lt hi, List.getElem?_drop]
  exact ⟨h1 2 (by decide), h1 4 (by decide)⟩
theorem any_take {l : List Act} {k : Nat} (hk : k < l.length) (h : (l.take k).any badA = false) (hb : badA l[k] = false) : (l.take (k + 1)).any badA = false := by
  rw [List.take_succ_eq_append_getElem hk, List.any_append, h]
  simp [hb]
theorem c15 (z : Bool) (l : List Act) : PCalls Try.prog 15 [.ro z (acts l) l.length] (.b (heavyB l)) := by
  intro h n
  have hS := SumOk.none (P := Try.prog)
  refine DCalls.of Try.func15 rfl (by decide) (Nat.le_of_ble_eq_true rfl) (Nat.le_refl _) ?_
  refine AWp.seq ?_
  (refine aw_regionL hS (by kernel_rfl) ?_; repeat (first | apply vr0u | apply vr4 | apply b_tt | apply b_ff | apply b_tf | apply b_ft | apply b_no | exact isD.mk rfl | (apply eqG; (simp only [push_cast, ↓reduceIte, Nat.reduceEqDiff, Nat.reduceAdd, Nat.reduceLeDiff, Nat.reduceLT, Int.reduceLE, Int.reduceLT, Int.reduceAdd, Int.reduceSub, Int.reduceNeg, Int.reduceBEq, Int.reduceBNe, Int.reduceEq, Int.reduceGT, Int.reduceGE, Int.reduceMul, Int.reduceToNat, Nat.reduceMul, reduceCtorEq] <;> rfl)) | exact (rfl : app (swap _ _) _ = _)))
  refine vr_nil (aw_then ?_)
  refine AWp.seq ?_
  refine AWp.seq ?_
  (refine aw_regionL hS (by kernel_rfl) ?_; repeat (first | apply vr0u | apply vr4 | apply b_tt | apply b_ff | apply b_tf | apply b_ft | apply b_no | exact isD.mk rfl | (apply eqG; (simp only [push_cast, ↓reduceIte, Nat.reduceEqDiff, Nat.reduceAdd, Nat.reduceLeDiff, Nat.reduceLT, Int.reduceLE, Int.reduceLT, Int.reduceAdd, Int.reduceSub, Int.reduceNeg, Int.reduceBEq, Int.reduceBNe, Int.reduceEq, Int.reduceGT, Int.reduceGE, Int.reduceMul, Int.reduceToNat, Nat.reduceMul, reduceCtorEq] <;> rfl)) | exact (rfl : app (swap _ _) _ = _)))
  refine vr_nil (aw_then ?_)
  refine aw_split (by (simp only [push_cast, ↓reduceIte, Nat.reduceEqDiff, Nat.reduceAdd, Nat.reduceLeDiff, Nat.reduceLT, Int.reduceLE, Int.reduceLT, Int.reduceAdd, Int.reduceSub, Int.reduceNeg, Int.reduceBEq, Int.reduceBNe, Int.reduceEq, Int.reduceGT, Int.reduceGE, Int.reduceMul, Int.reduceToNat, Nat.reduceMul, reduceCtorEq] <;> rfl)) (fun hu => ?_) (fun hu => ?_)
  · have hu := of_decide_eq_true hu
    refine AWp.seq ?_
    (refine aw_regionL hS (by kernel_rfl) ?_; repeat (first | apply vr0u | apply vr4 | apply b_tt | apply b_ff | apply b_tf | apply b_ft | apply b_no | exact isD.mk rfl | (apply eqG; (simp only [push_cast, ↓reduceIte, Nat.reduceEqDiff, Nat.reduceAdd, Nat.reduceLeDiff, Nat.reduceLT, Int.reduceLE, Int.reduceLT, Int.reduceAdd, Int.reduceSub, Int.reduceNeg, Int.reduceBEq, Int.reduceBNe, Int.reduceEq, Int.reduceGT, Int.reduceGE, Int.reduceMul, Int.reduceToNat, Nat.reduceMul, reduceCtorEq] <;> rfl)) | exact (rfl : app (swap _ _) _ = _)))
    refine vr_nil (aw_then ?_)
    refine AWp.ret ?_
    have e : heavyB l = true := by unfold heavyB; rw [decide_eq_true (by omega)]; rfl
    exact Out.pure1 (.inr rfl) rfl (by (simp only [push_cast, ↓reduceIte, Nat.reduceEqDiff, Nat.reduceAdd, Nat.reduceLeDiff, Nat.reduceLT, Int.reduceLE, Int.reduceLT, Int.reduceAdd, Int.reduceSub, Int.reduceNeg, Int.reduceBEq, Int.reduceBNe, Int.reduceEq, Int.reduceGT, Int.reduceGE, Int.reduceMul, Int.reduceToNat, Nat.reduceMul, reduceCtorEq] <;> rfl)) (by rw [e]) trivial keep0
  · have hu := of_decide_eq_false hu
    have hl4 : l.length ≤ 400 := by omega
    refine AWp.skip (aw_then ?_)
    refine AWp.seq ?_
    refine AWp.seq ?_
    (refine aw_regionL hS (by kernel_rfl) ?_; repeat (first | apply vr0u | apply vr4 | apply b_tt | apply b_ff | apply b_tf | apply b_ft | apply b_no | exact isD.mk rfl | (apply eqG; (simp only [push_cast, ↓reduceIte, Nat.reduceEqDiff, Nat.reduceAdd, Nat.reduceLeDiff, Nat.reduceLT, Int.reduceLE, Int.reduceLT, Int.reduceAdd, Int.reduceSub, Int.reduceNeg, Int.reduceBEq, Int.reduceBNe, Int.reduceEq, Int.reduceGT, Int.reduceGE, Int.reduceMul, Int.reduceToNat, Nat.reduceMul, reduceCtorEq] <;> rfl)) | exact (rfl : app (swap _ _) _ = _)))
    refine vr_nil (aw_then ?_)
    refine AWp.block ?_
    refine AWp.loop (fun mm t' h' n' => ∃ k : Nat, mm = l.length - k ∧ k ≤ l.length ∧ k ≤ 100 ∧ t' 0 = .ro z (acts l) l.length ∧ t' 3 = .i .i64 (k : Int) ∧ (l.take k).any badA = false ∧ h' = h) l.length ?_ ?_
    · exact ⟨0, rfl, Nat.zero_le _, Nat.zero_le _, by (simp only [push_cast, ↓reduceIte, Nat.reduceEqDiff, Nat.reduceAdd, Nat.reduceLeDiff, Nat.reduceLT, Int.reduceLE, Int.reduceLT, Int.reduceAdd, Int.reduceSub, Int.reduceNeg, Int.reduceBEq, Int.reduceBNe, Int.reduceEq, Int.reduceGT, Int.reduceGE, Int.reduceMul, Int.reduceToNat, Nat.reduceMul, reduceCtorEq] <;> rfl), by (simp only [push_cast, ↓reduceIte, Nat.reduceEqDiff, Nat.reduceAdd, Nat.reduceLeDiff, Nat.reduceLT, Int.reduceLE, Int.reduceLT, Int.reduceAdd, Int.reduceSub, Int.reduceNeg, Int.reduceBEq, Int.reduceBNe, Int.reduceEq, Int.reduceGT, Int.reduceGE, Int.reduceMul, Int.reduceToNat, Nat.reduceMul, reduceCtorEq] <;> rfl), rfl, rfl⟩
    · rintro mm t' h' n' - ⟨k, rfl, hkl, hk1, t0, t3, hany, rfl⟩
      by_cases hk : k < l.length
      · by_cases hk2 : k < 100
        · have q1 : ((k : Int) < (l.length : Int)) = True := by simp [hk]
          have q2 : ((k : Int) < 100) = True := by simp; omega
          have q3 : (0 ≤ (k : Int) ∧ (k : Int) < (l.length : Int)) = True := by simp [hk]
          obtain ⟨q4, q5⟩ := acts_at hk
          have w1' : IntKind.wrap .i64 ((k : Int) + 1) = (k : Int) + 1 := IntWalk.i64_in _ (by omega)
          refine AWp.seq ?_
          refine AWp.seq ?_
          (refine aw_regionL hS (by kernel_rfl) ?_; repeat (first | apply vr0u | apply vr4 | apply b_tt | apply b_ff | apply b_tf | apply b_ft | apply b_no | exact isD.mk rfl | (apply eqG; (simp only [push_cast, ↓reduceIte, Nat.reduceEqDiff, Nat.reduceAdd, Nat.reduceLeDiff, Nat.reduceLT, Int.reduceLE, Int.reduceLT, Int.reduceAdd, Int.reduceSub, Int.reduceNeg, Int.reduceBEq, Int.reduceBNe, Int.reduceEq, Int.reduceGT, Int.reduceGE, Int.reduceMul, Int.reduceToNat, Nat.reduceMul, reduceCtorEq, t0, t3, q1, q2, q3, q4, q5, w1', Bt.v, Act.k] <;> rfl)) | exact (rfl : app (swap _ _) _ = _)))
          refine vr_nil (aw_then ?_)
          refine aw_true (by (simp only [push_cast, ↓reduceIte, Nat.reduceEqDiff, Nat.reduceAdd, Nat.reduceLeDiff, Nat.reduceLT, Int.reduceLE, Int.reduceLT, Int.reduceAdd, Int.reduceSub, Int.reduceNeg, Int.reduceBEq, Int.reduceBNe, Int.reduceEq, Int.reduceGT, Int.reduceGE, Int.reduceMul, Int.reduceToNat, Nat.reduceMul, reduceCtorEq, t0, t3, q1, q2, q3, q4, q5, w1', Bt.v, Act.k] <;> rfl)) (AWp.skip (aw_then ?_))
          refine AWp.seq ?_
          refine AWp.block ?_
          refine AWp.seq ?_
          (refine aw_regionL hS (by kernel_rfl) ?_; repeat (first | apply vr0u | apply vr4 | apply b_tt | apply b_ff | apply b_tf | apply b_ft | apply b_no | exact isD.mk rfl | (apply eqG; (simp only [push_cast, ↓reduceIte, Nat.reduceEqDiff, Nat.reduceAdd, Nat.reduceLeDiff, Nat.reduceLT, Int.reduceLE, Int.reduceLT, Int.reduceAdd, Int.reduceSub, Int.reduceNeg, Int.reduceBEq, Int.reduceBNe, Int.reduceEq, Int.reduceGT, Int.reduceGE, Int.reduceMul, Int.reduceToNat, Nat.reduceMul, reduceCtorEq, t0, t3, q1, q2, q3, q4, q5, w1', Bt.v, Act.k] <;> rfl)) | exact (rfl : app (swap _ _) _ = _)))
          have hyes : ∀ hb : badA l[k] = true, heavyB l = true := fun hb => by
            unfold heavyB
            have : (l.take 100).any badA = true := List.any_eq_true.2 ⟨l[k], List.mem_take_iff_getElem.2 ⟨k, by omega, rfl⟩, hb⟩
            rw [this, Bool.or_true]
          refine br_s (by (simp only [push_cast, ↓reduceIte, Nat.reduceEqDiff, Nat.reduceAdd, Nat.reduceLeDiff, Nat.reduceLT, Int.reduceLE, Int.reduceLT, Int.reduceAdd, Int.reduceSub, Int.reduceNeg, Int.reduceBEq, Int.reduceBNe, Int.reduceEq, Int.reduceGT, Int.reduceGE, Int.reduceMul, Int.reduceToNat, Nat.reduceMul, reduceCtorEq, t0, t3, q1, q2, q3, q4, q5, w1', Bt.v, Act.k] <;> rfl)) (fun hv => ?_) (fun hv => ?_)
          · have hv := of_decide_eq_true hv
            repeat (first | apply vr0u | apply vr4 | apply b_tt | apply b_ff | apply b_tf | apply b_ft | apply b_no | exact isD.mk rfl | (apply eqG; (simp only [push_cast, ↓reduceIte, Nat.reduceEqDiff, Nat.reduceAdd, Nat.reduceLeDiff, Nat.reduceLT, Int.reduceLE, Int.reduceLT, Int.reduceAdd, Int.reduceSub, Int.reduceNeg, Int.reduceBEq, Int.reduceBNe, Int.reduceEq, Int.reduceGT, Int.reduceGE, Int.reduceMul, Int.reduceToNat, Nat.reduceMul, reduceCtorEq, t0, t3, q1, q2, q3, q4, q5, w1', Bt.v, Act.k] <;> rfl)) | exact (rfl : app (swap _ _) _ = _))
            refine vr_nil (aw_then ?_)
            refine aw_true (by (simp only [push_cast, ↓reduceIte, Nat.reduceEqDiff, Nat.reduceAdd, Nat.reduceLeDiff, Nat.reduceLT, Int.reduceLE, Int.reduceLT, Int.reduceAdd, Int.reduceSub, Int.reduceNeg, Int.reduceBEq, Int.reduceBNe, Int.reduceEq, Int.reduceGT, Int.reduceGE, Int.reduceMul, Int.reduceToNat, Nat.reduceMul, reduceCtorEq, t0, t3, q1, q2, q3, q4, q5, w1', Bt.v, Act.k] <;> rfl)) ?_
            refine AWp.seq ?_
            (refine aw_regionL hS (by kernel_rfl) ?_; repeat (first | apply vr0u | apply vr4 | apply b_tt | apply b_ff | apply b_tf | apply b_ft | apply b_no | exact isD.mk rfl | (apply eqG; (simp only [push_cast, ↓reduceIte, Nat.reduceEqDiff, Nat.reduceAdd, Nat.reduceLeDiff, Nat.reduceLT, Int.reduceLE, Int.reduceLT, Int.reduceAdd, Int.reduceSub, Int.reduceNeg, Int.reduceBEq, Int.reduceBNe, Int.reduceEq, Int.reduceGT, Int.reduceGE, Int.reduceMul, Int.reduceToNat, Nat.reduceMul, reduceCtorEq, t0, t3, q1, q2, q3, q4, q5, w1', Bt.v, Act.k] <;> rfl)) | exact (rfl : app (swap _ _) _ = _)))
            refine vr_nil (aw_then ?_)
            refine AWp.ret ?_
            have e := hyes (by unfold badA; rw [decide_eq_true (by omega)]; rfl)
            exact Out.pure1 (.inr rfl) rfl (by (simp only [push_cast, ↓reduceIte, Nat.reduceEqDiff, Nat.reduceAdd, Nat.reduceLeDiff, Nat.reduceLT, Int.reduceLE, Int.reduceLT, Int.reduceAdd, Int.reduceSub, Int.reduceNeg, Int.reduceBEq, Int.reduceBNe, Int.reduceEq, Int.reduceGT, Int.reduceGE, Int.reduceMul, Int.reduceToNat, Nat.reduceMul, reduceCtorEq, t0, t3, q1, q2, q3, q4, q5, w1', Bt.v, Act.k] <;> rfl)) (by rw [e]) trivial keep0
          · have hv := of_decide_eq_false hv
            repeat (first | apply vr0u | apply vr4 | apply b_tt | apply b_ff | apply b_tf | apply b_ft | apply b_no | exact isD.mk rfl | (apply eqG; (simp only [push_cast, ↓reduceIte, Nat.reduceEqDiff, Nat.reduceAdd, Nat.reduceLeDiff, Nat.reduceLT, Int.reduceLE, Int.reduceLT, Int.reduceAdd, Int.reduceSub, Int.reduceNeg, Int.reduceBEq, Int.reduceBNe, Int.reduceEq, Int.reduceGT, Int.reduceGE, Int.reduceMul, Int.reduceToNat, Nat.reduceMul, reduceCtorEq, t0, t3, q1, q2, q3, q4, q5, w1', Bt.v, Act.k] <;> rfl)) | exact (rfl : app (swap _ _) _ = _))
            refine vr_nil (aw_then ?_)
            refine aw_split (by (simp only [push_cast, ↓reduceIte, Nat.reduceEqDiff, Nat.reduceAdd, Nat.reduceLeDiff, Nat.reduceLT, Int.reduceLE, Int.reduceLT, Int.reduceAdd, Int.reduceSub, Int.reduceNeg, Int.reduceBEq, Int.reduceBNe, Int.reduceEq, Int.reduceGT, Int.reduceGE, Int.reduceMul, Int.reduceToNat, Nat.reduceMul, reduceCtorEq, t0, t3, q1, q2, q3, q4, q5, w1', Bt.v, Act.k] <;> rfl)) (fun hx => ?_) (fun hx => ?_)
            · have hx := of_decide_eq_true hx
              refine AWp.seq ?_
              (refine aw_regionL hS (by kernel_rfl) ?_; repeat (first | apply vr0u | apply vr4 | apply b_tt | apply b_ff | apply b_tf | apply b_ft | apply b_no | exact isD.mk rfl | (apply eqG; (simp only [push_cast, ↓reduceIte, Nat.reduceEqDiff, Nat.reduceAdd, Nat.reduceLeDiff, Nat.reduceLT, Int.reduceLE, Int.reduceLT, Int.reduceAdd, Int.reduceSub, Int.reduceNeg, Int.reduceBEq, Int.reduceBNe, Int.reduceEq, Int.reduceGT, Int.reduceGE, Int.reduceMul, Int.reduceToNat, Nat.reduceMul, reduceCtorEq, t0, t3, q1, q2, q3, q4, q5, w1', Bt.v, Act.k] <;> rfl)) | exact (rfl : app (swap _ _) _ = _)))
              refine vr_nil (aw_then ?_)
              refine AWp.ret ?_
              have e := hyes (by unfold badA; rw [Bool.or_eq_true]; exact .inr (decide_eq_true (by omega)))
              exact Out.pure1 (.inr rfl) rfl (by (simp only [push_cast, ↓reduceIte, Nat.reduceEqDiff, Nat.reduceAdd, Nat.reduceLeDiff, Nat.reduceLT, Int.reduceLE, Int.reduceLT, Int.reduceAdd, Int.reduceSub, Int.reduceNeg, Int.reduceBEq, Int.reduceBNe, Int.reduceEq, Int.reduceGT, Int.reduceGE, Int.reduceMul, Int.reduceToNat, Nat.reduceMul, reduceCtorEq, t0, t3, q1, q2, q3, q4, q5, w1', Bt.v, Act.k] <;> rfl)) (by rw [e]) trivial keep0
            · have hx := of_decide_eq_false hx
              refine AWp.skip (aw_in (aw_then ?_))
              (refine aw_regionL hS (by kernel_rfl) ?_; repeat (first | apply vr0u | apply vr4 | apply b_tt | apply b_ff | apply b_tf | apply b_ft | apply b_no | exact isD.mk rfl | (apply eqG; (simp only [push_cast, ↓reduceIte, Nat.reduceEqDiff, Nat.reduceAdd, Nat.reduceLeDiff, Nat.reduceLT, Int.reduceLE, Int.reduceLT, Int.reduceAdd, Int.reduceSub, Int.reduceNeg, Int.reduceBEq, Int.reduceBNe, Int.reduceEq, Int.reduceGT, Int.reduceGE, Int.reduceMul, Int.reduceToNat, Nat.reduceMul, reduceCtorEq, t0, t3, q1, q2, q3, q4, q5, w1', Bt.v, Act.k] <;> rfl)) | exact (rfl : app (swap _ _) _ = _)))
              exact vr_nil (aw_then ⟨l.length - (k + 1), by omega, k + 1, rfl, hk, hk2, by (simp only [push_cast, ↓reduceIte, Nat.reduceEqDiff, Nat.reduceAdd, Nat.reduceLeDiff, Nat.reduceLT, Int.reduceLE, Int.reduceLT, Int.reduceAdd, Int.reduceSub, Int.reduceNeg, Int.reduceBEq, Int.reduceBNe, Int.reduceEq, Int.reduceGT, Int.reduceGE, Int.reduceMul, Int.reduceToNat, Nat.reduceMul, reduceCtorEq, t0, t3, q1, q2, q3, q4, q5, w1', Bt.v, Act.k] <;> rfl), by (simp only [push_cast, ↓reduceIte, Nat.reduceEqDiff, Nat.reduceAdd, Nat.reduceLeDiff, Nat.reduceLT, Int.reduceLE, Int.reduceLT, Int.reduceAdd, Int.reduceSub, Int.reduceNeg, Int.reduceBEq, Int.reduceBNe, Int.reduceEq, Int.reduceGT, Int.reduceGE, Int.reduceMul, Int.reduceToNat, Nat.reduceMul, reduceCtorEq, t0, t3, q1, q2, q3, q4, q5, w1', Bt.v, Act.k] <;> rfl), any_take hk hany (by unfold badA; rw [decide_eq_false (by omega), decide_eq_false (by omega)]; rfl), rfl⟩)
        · have q1 : ((k : Int) < (l.length : Int)) = True := by simp [hk]
          have q2 : ((k : Int) < 100) = False := by simp; omega
          refine AWp.seq ?_
          refine AWp.seq ?_
          (refine aw_regionL hS (by kernel_rfl) ?_; repeat (first | apply vr0u | apply vr4 | apply b_tt | apply b_ff | apply b_tf | apply b_ft | apply b_no | exact isD.mk rfl | (apply eqG; (simp only [push_cast, ↓reduceIte, Nat.reduceEqDiff, Nat.reduceAdd, Nat.reduceLeDiff, Nat.reduceLT, Int.reduceLE, Int.reduceLT, Int.reduceAdd, Int.reduceSub, Int.reduceNeg, Int.reduceBEq, Int.reduceBNe, Int.reduceEq, Int.reduceGT, Int.reduceGE, Int.reduceMul, Int.reduceToNat, Nat.reduceMul, reduceCtorEq, t0, t3, q1, q2] <;> rfl)) | exact (rfl : app (swap _ _) _ = _)))
          refine vr_nil (aw_then ?_)
          refine aw_false (by (simp only [push_cast, ↓reduceIte, Nat.reduceEqDiff, Nat.reduceAdd, Nat.reduceLeDiff, Nat.reduceLT, Int.reduceLE, Int.reduceLT, Int.reduceAdd, Int.reduceSub, Int.reduceNeg, Int.reduceBEq, Int.reduceBNe, Int.reduceEq, Int.reduceGT, Int.reduceGE, Int.reduceMul, Int.reduceToNat, Nat.reduceMul, reduceCtorEq, t0, t3, q1, q2] <;> rfl)) (AWp.exit (aw_thru (aw_thru (aw_exit (aw_then ?_)))))
          refine AWp.seq ?_
          (refine aw_regionL hS (by kernel_rfl) ?_; repeat (first | apply vr0u | apply vr4 | apply b_tt | apply b_ff | apply b_tf | apply b_ft | apply b_no | exact isD.mk rfl | (apply eqG; (simp only [push_cast, ↓reduceIte, Nat.reduceEqDiff, Nat.reduceAdd, Nat.reduceLeDiff, Nat.reduceLT, Int.reduceLE, Int.reduceLT, Int.reduceAdd, Int.reduceSub, Int.reduceNeg, Int.reduceBEq, Int.reduceBNe, Int.reduceEq, Int.reduceGT, Int.reduceGE, Int.reduceMul, Int.reduceToNat, Nat.reduceMul, reduceCtorEq, t0, t3, q1, q2] <;> rfl)) | exact (rfl : app (swap _ _) _ = _)))
          refine vr_nil (aw_then ?_)
          refine AWp.ret ?_
          have e : heavyB l = false := by
            obtain rfl : k = 100 := by omega
            unfold heavyB; rw [hany, decide_eq_false (by omega)]; rfl
          exact Out.pure1 (.inr rfl) rfl (by (simp only [push_cast, ↓reduceIte, Nat.reduceEqDiff, Nat.reduceAdd, Nat.reduceLeDiff, Nat.reduceLT, Int.reduceLE, Int.reduceLT, Int.reduceAdd, Int.reduceSub, Int.reduceNeg, Int.reduceBEq, Int.reduceBNe, Int.reduceEq, Int.reduceGT, Int.reduceGE, Int.reduceMul, Int.reduceToNat, Nat.reduceMul, reduceCtorEq, t0, t3, q1, q2] <;> rfl)) (by rw [e]) trivial keep0
      · have q1 : ((k : Int) < (l.length : Int)) = False := by simp; omega
        refine AWp.seq ?_
        refine AWp.seq ?_
        (refine aw_regionL hS (by kernel_rfl) ?_; repeat (first | apply vr0u | apply vr4 | apply b_tt | apply b_ff | apply b_tf | apply b_ft | apply b_no | exact isD.mk rfl | (apply eqG; (simp only [push_cast, ↓reduceIte, Nat.reduceEqDiff, Nat.reduceAdd, Nat.reduceLeDiff, Nat.reduceLT, Int.reduceLE, Int.reduceLT, Int.reduceAdd, Int.reduceSub, Int.reduceNeg, Int.reduceBEq, Int.reduceBNe, Int.reduceEq, Int.reduceGT, Int.reduceGE, Int.reduceMul, Int.reduceToNat, Nat.reduceMul, reduceCtorEq, t0, t3, q1] <;> rfl)) | exact (rfl : app (swap _ _) _ = _)))
        refine vr_nil (aw_then ?_)
        refine aw_false (by (simp only [push_cast, ↓reduceIte, Nat.reduceEqDiff, Nat.reduceAdd, Nat.reduceLeDiff, Nat.reduceLT, Int.reduceLE, Int.reduceLT, Int.reduceAdd, Int.reduceSub, Int.reduceNeg, Int.reduceBEq, Int.reduceBNe, Int.reduceEq, Int.reduceGT, Int.reduceGE, Int.reduceMul, Int.reduceToNat, Nat.reduceMul, reduceCtorEq, t0, t3, q1] <;> rfl)) (AWp.exit (aw_thru (aw_thru (aw_exit (aw_then ?_)))))
        refine AWp.seq ?_
        (refine aw_regionL hS (by kernel_rfl) ?_; repeat (first | apply vr0u | apply vr4 | apply b_tt | apply b_ff | apply b_tf | apply b_ft | apply b_no | exact isD.mk rfl | (apply eqG; (simp only [push_cast, ↓reduceIte, Nat.reduceEqDiff, Nat.reduceAdd, Nat.reduceLeDiff, Nat.reduceLT, Int.reduceLE, Int.reduceLT, Int.reduceAdd, Int.reduceSub, Int.reduceNeg, Int.reduceBEq, Int.reduceBNe, Int.reduceEq, Int.reduceGT, Int.reduceGE, Int.reduceMul, Int.reduceToNat, Nat.reduceMul, reduceCtorEq, t0, t3, q1] <;> rfl)) | exact (rfl : app (swap _ _) _ = _)))
        refine vr_nil (aw_then ?_)
        refine AWp.ret ?_
        have e : heavyB l = false := by
          rw [List.take_of_length_le (by omega)] at hany
          unfold heavyB
          rw [decide_eq_false (by omega)]
          have : (l.take 100).any badA = false := by
            rw [List.any_eq_false] at hany ⊢
            exact fun x hx => hany x (List.mem_of_mem_take hx)
          rw [this]; rfl
        exact Out.pure1 (.inr rfl) rfl (by (simp only [push_cast, ↓reduceIte, Nat.reduceEqDiff, Nat.reduceAdd, Nat.reduceLeDiff, Nat.reduceLT, Int.reduceLE, Int.reduceLT, Int.reduceAdd, Int.reduceSub, Int.reduceNeg, Int.reduceBEq, Int.reduceBNe, Int.reduceEq, Int.reduceGT, Int.reduceGE, Int.reduceMul, Int.reduceToNat, Nat.reduceMul, reduceCtorEq, t0, t3, q1] <;> rfl)) (by rw [e]) trivial keep0
theorem light {l : List Act} (h : heavyB l = false) : l.length ≤ 400 ∧ ∀ k, (hk : k < l.length) → k < 100 → l[k].B.b.length ≤ 200 ∧ l[k].keep.length ≤ 200 := by
  unfold heavyB at h
  rw [Bool.or_eq_false_iff] at h
  have h1 := of_decide_eq_false h.1
  refine ⟨by omega, fun k hk h2 => ?_⟩
  have h3 := List.any_eq_false.1 h.2 l[k] (List.mem_take_iff_getElem.2 ⟨k, by omega, rfl⟩)
  unfold badA at h3
  simp only [Bool.or_eq_true, decide_eq_true_eq, not_or] at h3
  omega

/-! ### sectors that stay -/
structure Held (sec : Nat → List UInt8) (R K : Nat) (w : DW) : Prop where
  s : ∀ i, i < R → w.safe[i]? = some (some (sec i))
  n : ∀ i, i < R → w.now[i]? = some (some (sec i))
  p : ∀ p, p ∈ w.pend → R ≤ p.1
  pl : w.pend.length ≤ K
  len : w.safe.length = 20
theorem crashN_ne {pend : List (Nat × List UInt8)} {keep : List Bool} {torn : Int} {s : List Sec} {i : Nat} (h : ∀ p, p ∈ pend → p.1 ≠ i) : ∀ k, (crashN pend keep torn s k)[i]? = s[i]?
  | 0 => rfl
  | k + 1 => by
    simp only [crashN]
    split
    · rename_i p hp
      have hne := h p (List.mem_of_getElem? hp)
      unfold crash1
      split
      · rw [List.getElem?_set_ne hne]; exact crashN_ne h k
      · split
        · rw [List.getElem?_set_ne hne]; exact crashN_ne h k
        · exact crashN_ne h k
    · exact crashN_ne h k
theorem syncN_ne {pend : List (Nat × List UInt8)} {s : List Sec} {i : Nat} (h : ∀ p, p ∈ pend → p.1 ≠ i) : ∀ k, (syncN pend s k)[i]? = s[i]?
  | 0 => rfl
  | k + 1 => by
    simp only [syncN]
    split
    · rename_i p hp
      rw [List.getElem?_set_ne (h p (List.mem_of_getElem? hp))]; exact syncN_ne h k
    · exact syncN_ne h k
theorem syncN_app {pend : List (Nat × List UInt8)} {p : Nat × List UInt8} {s : List Sec} : ∀ k, k ≤ pend.length → syncN (pend ++ [p]) s k = syncN pend s k
  | 0, _ => rfl
  | k + 1, h => by
    simp only [syncN]
    rw [syncN_app k (by omega), List.getElem?_append_left (by omega)]
theorem sync_step {pend : List (Nat × List UInt8)} {i : Nat} {b : List UInt8} {s : List Sec} : syncN (pend ++ [(i, b)]) s (pend ++ [(i, b)]).length = (syncN pend s pend.length).set i (some b) := by
  rw [List.length_append, List.length_singleton, syncN_at (by simp)]
  rw [syncN_app _ (Nat.le_refl _)]
  simp
variable {sec : Nat → List UInt8} {R K : Nat} {w : DW}
theorem Held.more {K' : Nat} (H : Held sec R K w) (h : K ≤ K') : Held sec R K' w := ⟨H.s, H.n, H.p, Nat.le_trans H.pl h, H.len⟩
theorem Held.crash (H : Held sec R K w) (keep : List Bool) (torn : Int) (j : Nat) : Held sec R K (w.crash keep torn j) :=
  ⟨fun i hi => (crashN_ne (fun p hp => by have := H.p p hp; omega) _).trans (H.s i hi), fun i hi => (crashN_ne (fun p hp => by have := H.p p hp; omega) _).trans (H.s i hi), fun p hp => (nomatch hp), Nat.zero_le _, by show (crashN _ _ _ _ _).length = _; rw [crashN_len]; exact H.len⟩
theorem Held.trips (H : Held sec R K w) (n : Nat) : Held sec R K (w.trips n).2.1 := by
  unfold DW.trips
  split
  · exact H
  · split
    · exact H.crash _ _ _
    · exact ⟨H.s, H.n, H.p, H.pl, H.len⟩
theorem Held.synced (H : Held sec R K w) : Held sec R K w.synced :=
  ⟨fun i hi => (syncN_ne (fun p hp => by have := H.p p hp; omega) _).trans (H.s i hi), H.n, fun p hp => (nomatch hp), Nat.zero_le _, by show (syncN _ _ _).length = _; rw [syncN_len]; exact H.len⟩
theorem Held.sync (H : Held sec R K w) (n : Nat) : Held sec R K (w.sync n).2.1 := by
  unfold DW.sync
  split
  · exact H
  · split
    · exact H.trips n
    · exact (H.trips n).synced
theorem Held.write (H : Held sec R K w) (n : Nat) {i : Int} (hi : R ≤ i.toNat) (b : List UInt8) : Held sec R (K + 1) (w.write n i b).2.1 := by
  unfold DW.write
  split
  · exact H.more (Nat.le_succ _)
  · split
    · exact H.more (Nat.le_succ _)
    · refine Held.trips (w := w.wrote (n + 1) i.toNat b) ⟨H.s, fun k hk => ?_, fun p hp => ?_, ?_, H.len⟩ _
      · show (w.now.set i.toNat _)[k]? = _
        rw [List.getElem?_set_ne (by omega)]; exact H.n k hk
      · rcases List.mem_append.1 hp with hp | hp
        · exact H.p p hp
        · rw [List.mem_singleton.1 hp]; exact hi
      · show (w.pend ++ [_]).length ≤ _
        have := H.pl
        simp; omega
theorem Held.arm (H : Held sec R K w) (n : Nat) (k : Int) (z : Bool) (keep : List Bool) (torn : Int) : Held sec R K (w.arm n k z keep torn).1 := by
  unfold DW.arm
  split
  · exact ⟨H.s, H.n, H.p, H.pl, H.len⟩
  · exact ⟨H.s, H.n, H.p, H.pl, H.len⟩
theorem Held.start (H : Held sec R K w) : Held sec R K w.start := ⟨H.s, H.n, H.p, H.pl, H.len⟩

end Go.Proofs.Ytepfknnffooaiaa
