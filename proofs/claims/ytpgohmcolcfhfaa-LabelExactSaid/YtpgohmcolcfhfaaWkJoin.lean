import Derived.Test.YtpgohmcolcfhfaaWkCuts

namespace Go.Proofs.Ytpgohmcolcfhfaa
open Go.Av
set_option maxRecDepth 100000
set_option maxHeartbeats 1000000
set_option linter.unusedSimpArgs false
set_option linter.unusedVariables false
attribute [local push_cast] stepE callR resE aeff aev ofC ofC1 put_at Av.put_none inTmps List.getD_cons_zero List.getD_cons_succ AV.boxable if_true if_false AV.cells aload place app_cons app_nil upd_same Av.part abin aconv aindexAddr fillA splice_one splice_two abuiltin alen amax amin aun aindex Option.map_some List.map_cons List.map_nil List.nil_append List.append_nil List.cons_append Nat.le_refl Nat.zero_add List.length_cons List.length_nil List.drop_succ_cons List.drop_zero List.take_succ_cons List.take_zero beq_self_eq_true bne_self_eq_false Bool.not_true Bool.not_false List.set_cons_zero List.set_cons_succ Bool.false_eq_true IntWalk.i64_in decide_true decide_false Int.toNat_zero and_self and_true true_and List.getElem?_cons_zero List.getElem?_cons_succ agT_26 szT_26 slT_24 agT_24 szT_24 flT_26_0 flT_26_1 flT_26_3 flT_26_2 agT_22 szT_22 arT_22 agT_3 szT_3 kiT_3 kiT_23 kiT_4 zeT_26 buT_26 zeT_22 buT_22 kiT_9 kiT_51 kiT_5 und_51 slT_51 agT_5 szT_5 aappend aapp view slT_24 zeT_3 byT_24 asliceB aslice amin amax Bool.and_true Bool.true_and Nat.mul_one alen


/-! ### what LabelJoins asks, in plain words -/
theorem bs_app (a b : ByteArray) : bs (a ++ b) = bs a ++ bs b := by simp [bs]
theorem chop_two {a : ByteArray} (b : ByteArray) (hA : chkL (runesL a 0) = true) : chop (bs (a ++ b)) = chop (bs a) ++ chop (bs b) := by
  rw [bs_app, chop_app _ (chk_strong hA)]
theorem runes_two {a : ByteArray} (b : ByteArray) (hA : chkL (runesL a 0) = true) : runesFrom (a ++ b) 0 = runesFrom a 0 + runesFrom b 0 := by
  rw [runes_all, chop_two b hA, List.length_append, runes_all, runes_all]
theorem cut_two {a : ByteArray} (b : ByteArray) (hA : chkL (runesL a 0) = true) : cutS (a ++ b) (runesFrom a 0 : Nat) = a := by
  apply bs_inj
  rw [cut_chop, chop_two b hA, runes_all, Int.toNat_natCast, List.take_left' rfl, chop_flatten]
theorem runesL_two {a : ByteArray} (b : ByteArray) (hA : chkL (runesL a 0) = true) : runesL (a ++ b) 0 = runesL a 0 ++ runesL b 0 := by
  rw [runesL_all, chop_two b hA, List.map_append, runesL_all, runesL_all]
theorem chkL_two {l m : List Nat} (hl : chkL l = true) (hm : chkL m = true) : chkL (l ++ m) = decide (l.length + m.length ≤ 24) := by
  simp only [chkL, Bool.and_eq_true, decide_eq_true_eq, bne_iff_ne, ne_eq] at hl hm
  obtain ⟨⟨⟨⟨l1, l2⟩, l3⟩, l4⟩, l5⟩ := hl
  obtain ⟨⟨⟨⟨m1, m2⟩, m3⟩, m4⟩, m5⟩ := hm
  have hd : headN (l ++ m) = headN l := by
    cases l with
    | nil => simp at l2
    | cons x l => rfl
  have hla : lastN (l ++ m) = lastN m := by
    cases m with
    | nil => simp at m2
    | cons x m => simp only [lastN, List.getLastD_eq_getLast?, List.getLast?_append]; simp [List.getLast?_cons]
  rw [Bool.eq_iff_iff]
  simp only [chkL, Bool.and_eq_true, decide_eq_true_eq, bne_iff_ne, ne_eq, List.all_append, l1, m1, hd, hla, List.length_append]
  constructor
  · intro h; omega
  · intro h; exact ⟨⟨⟨⟨⟨trivial, trivial⟩, by omega⟩, by omega⟩, l4⟩, m5⟩
theorem chk_two {a b : ByteArray} (hA : chkL (runesL a 0) = true) (hB : chkL (runesL b 0) = true) : chkL (runesL (a ++ b) 0) = decide (runesFrom a 0 + runesFrom b 0 ≤ 24) := by
  rw [runesL_two b hA, chkL_two hA hB, runesL_len a _ 0 (Nat.le_refl _), runesL_len b _ 0 (Nat.le_refl _)]
theorem bs_fold (s : ByteArray) : bs (foldS s) = (bs s).map fold1 := by simp [bs, foldS]
theorem fold_two (a b : ByteArray) : foldS (a ++ b) = foldS a ++ foldS b := by
  apply bs_inj
  rw [bs_app, bs_fold, bs_fold, bs_fold, bs_app, List.map_append]
theorem size_app (a b : ByteArray) : (a ++ b).size = a.size + b.size := by simp
theorem chop_sp (b : ByteArray) : chop (bs ({ data := #[32] } ++ b)) = [32] :: chop (bs b) := by
  rw [bs_app, chop_app _ (by
    intro c hc
    have : chop (bs { data := #[32] }) = [[32]] := by decide +kernel
    rw [this] at hc
    have : c = [32] := by simpa using hc
    subst this
    exact .inr (by decide))]
  have : chop (bs { data := #[32] }) = [[32]] := by decide +kernel
  rw [this]; rfl
theorem cut_three {a : ByteArray} (b : ByteArray) (hA : chkL (runesL a 0) = true) : cutS (a ++ { data := #[32] } ++ b) ((runesFrom a 0 : Nat) + (runesFrom b 0 : Nat) + 1) = a ++ { data := #[32] } ++ b := by
  have hr : runesFrom (a ++ { data := #[32] } ++ b) 0 = runesFrom a 0 + runesFrom b 0 + 1 := by
    rw [ByteArray.append_assoc, runes_two _ hA, runes_all ({ data := #[32] } ++ b), chop_sp, List.length_cons, ← runes_all]
    omega
  have := cut_whole (a ++ { data := #[32] } ++ b)
  rw [hr] at this
  have e : ((runesFrom a 0 + runesFrom b 0 + 1 : Nat) : Int) = (runesFrom a 0 : Nat) + (runesFrom b 0 : Nat) + 1 := by omega
  rw [e] at this
  exact this
theorem c10 (a b : ByteArray) : ∀ h n, DCalls Try.prog 10 [.s a, .s b] h n (.b true) [] n := by
  intro h n
  have hS := ok_M7
  refine DCalls.of Try.func10 rfl (by decide) (Nat.le_of_ble_eq_true rfl) (Nat.le_refl _) ?_
  refine AWp.seq ?_
  (refine aw_regionL hS (by kernel_rfl) ?_; repeat (first | apply vr0u | apply vr4 | apply b_tt | apply b_ff | apply b_tf | apply b_ft | apply b_no | exact isD.mk rfl | (apply eqG; (simp only [push_cast, ↓reduceIte, Nat.reduceEqDiff, Nat.reduceAdd, Nat.reduceLeDiff, Int.reduceLE, Int.reduceLT, Int.reduceAdd, Int.reduceSub, Int.reduceNeg, Int.reduceBEq, Int.reduceBNe, Int.reduceEq, Int.reduceGT, Int.reduceGE, Int.reduceMul, Int.reduceToNat, Nat.reduceMul, reduceCtorEq] <;> rfl))))
  refine vr_nil (aw_then ?_)
  refine AWp.seq ?_
  refine AWp.seq ?_
  (refine aw_regionL hS (by kernel_rfl) ?_; repeat (first | apply vr0u | apply vr4 | apply b_tt | apply b_ff | apply b_tf | apply b_ft | apply b_no | exact isD.mk rfl | (apply eqG; (simp only [push_cast, ↓reduceIte, Nat.reduceEqDiff, Nat.reduceAdd, Nat.reduceLeDiff, Int.reduceLE, Int.reduceLT, Int.reduceAdd, Int.reduceSub, Int.reduceNeg, Int.reduceBEq, Int.reduceBNe, Int.reduceEq, Int.reduceGT, Int.reduceGE, Int.reduceMul, Int.reduceToNat, Nat.reduceMul, reduceCtorEq] <;> rfl))))
  refine br_s (by (simp only [push_cast, ↓reduceIte, Nat.reduceEqDiff, Nat.reduceAdd, Nat.reduceLeDiff, Int.reduceLE, Int.reduceLT, Int.reduceAdd, Int.reduceSub, Int.reduceNeg, Int.reduceBEq, Int.reduceBNe, Int.reduceEq, Int.reduceGT, Int.reduceGE, Int.reduceMul, Int.reduceToNat, Nat.reduceMul, reduceCtorEq] <;> rfl)) (fun hu => ?_) (fun hu => ?_)
  · repeat (first | apply vr0u | apply vr4 | apply b_tt | apply b_ff | apply b_tf | apply b_ft | apply b_no | exact isD.mk rfl | (apply eqG; (simp only [push_cast, ↓reduceIte, Nat.reduceEqDiff, Nat.reduceAdd, Nat.reduceLeDiff, Int.reduceLE, Int.reduceLT, Int.reduceAdd, Int.reduceSub, Int.reduceNeg, Int.reduceBEq, Int.reduceBNe, Int.reduceEq, Int.reduceGT, Int.reduceGE, Int.reduceMul, Int.reduceToNat, Nat.reduceMul, reduceCtorEq] <;> rfl)))
    refine vr_nil (aw_then ?_)
    refine aw_true (by (simp only [push_cast, ↓reduceIte, Nat.reduceEqDiff, Nat.reduceAdd, Nat.reduceLeDiff, Int.reduceLE, Int.reduceLT, Int.reduceAdd, Int.reduceSub, Int.reduceNeg, Int.reduceBEq, Int.reduceBNe, Int.reduceEq, Int.reduceGT, Int.reduceGE, Int.reduceMul, Int.reduceToNat, Nat.reduceMul, reduceCtorEq] <;> rfl)) ?_
    refine AWp.seq ?_
    (refine aw_regionL hS (by kernel_rfl) ?_; repeat (first | apply vr0u | apply vr4 | apply b_tt | apply b_ff | apply b_tf | apply b_ft | apply b_no | exact isD.mk rfl | (apply eqG; (simp only [push_cast, ↓reduceIte, Nat.reduceEqDiff, Nat.reduceAdd, Nat.reduceLeDiff, Int.reduceLE, Int.reduceLT, Int.reduceAdd, Int.reduceSub, Int.reduceNeg, Int.reduceBEq, Int.reduceBNe, Int.reduceEq, Int.reduceGT, Int.reduceGE, Int.reduceMul, Int.reduceToNat, Nat.reduceMul, reduceCtorEq] <;> rfl))))
    refine vr_nil (aw_then ?_)
    refine AWp.ret ?_
    exact Out.pure1 (.inr rfl) rfl (by (simp only [push_cast, ↓reduceIte, Nat.reduceEqDiff, Nat.reduceAdd, Nat.reduceLeDiff, Int.reduceLE, Int.reduceLT, Int.reduceAdd, Int.reduceSub, Int.reduceNeg, Int.reduceBEq, Int.reduceBNe, Int.reduceEq, Int.reduceGT, Int.reduceGE, Int.reduceMul, Int.reduceToNat, Nat.reduceMul, reduceCtorEq] <;> rfl)) rfl trivial keep0
  have u0 := of_decide_eq_false hu; clear hu
  repeat (first | apply vr0u | apply vr4 | apply b_tt | apply b_ff | apply b_tf | apply b_ft | apply b_no | exact isD.mk rfl | (apply eqG; (simp only [push_cast, ↓reduceIte, Nat.reduceEqDiff, Nat.reduceAdd, Nat.reduceLeDiff, Int.reduceLE, Int.reduceLT, Int.reduceAdd, Int.reduceSub, Int.reduceNeg, Int.reduceBEq, Int.reduceBNe, Int.reduceEq, Int.reduceGT, Int.reduceGE, Int.reduceMul, Int.reduceToNat, Nat.reduceMul, reduceCtorEq] <;> rfl)))
  refine br_s (by (simp only [push_cast, ↓reduceIte, Nat.reduceEqDiff, Nat.reduceAdd, Nat.reduceLeDiff, Int.reduceLE, Int.reduceLT, Int.reduceAdd, Int.reduceSub, Int.reduceNeg, Int.reduceBEq, Int.reduceBNe, Int.reduceEq, Int.reduceGT, Int.reduceGE, Int.reduceMul, Int.reduceToNat, Nat.reduceMul, reduceCtorEq] <;> rfl)) (fun hu => ?_) (fun hu => ?_)
  · repeat (first | apply vr0u | apply vr4 | apply b_tt | apply b_ff | apply b_tf | apply b_ft | apply b_no | exact isD.mk rfl | (apply eqG; (simp only [push_cast, ↓reduceIte, Nat.reduceEqDiff, Nat.reduceAdd, Nat.reduceLeDiff, Int.reduceLE, Int.reduceLT, Int.reduceAdd, Int.reduceSub, Int.reduceNeg, Int.reduceBEq, Int.reduceBNe, Int.reduceEq, Int.reduceGT, Int.reduceGE, Int.reduceMul, Int.reduceToNat, Nat.reduceMul, reduceCtorEq] <;> rfl)))
    refine vr_nil (aw_then ?_)
    refine aw_true (by (simp only [push_cast, ↓reduceIte, Nat.reduceEqDiff, Nat.reduceAdd, Nat.reduceLeDiff, Int.reduceLE, Int.reduceLT, Int.reduceAdd, Int.reduceSub, Int.reduceNeg, Int.reduceBEq, Int.reduceBNe, Int.reduceEq, Int.reduceGT, Int.reduceGE, Int.reduceMul, Int.reduceToNat, Nat.reduceMul, reduceCtorEq] <;> rfl)) ?_
    refine AWp.seq ?_
    (refine aw_regionL hS (by kernel_rfl) ?_; repeat (first | apply vr0u | apply vr4 | apply b_tt | apply b_ff | apply b_tf | apply b_ft | apply b_no | exact isD.mk rfl | (apply eqG; (simp only [push_cast, ↓reduceIte, Nat.reduceEqDiff, Nat.reduceAdd, Nat.reduceLeDiff, Int.reduceLE, Int.reduceLT, Int.reduceAdd, Int.reduceSub, Int.reduceNeg, Int.reduceBEq, Int.reduceBNe, Int.reduceEq, Int.reduceGT, Int.reduceGE, Int.reduceMul, Int.reduceToNat, Nat.reduceMul, reduceCtorEq] <;> rfl))))
    refine vr_nil (aw_then ?_)
    refine AWp.ret ?_
    exact Out.pure1 (.inr rfl) rfl (by (simp only [push_cast, ↓reduceIte, Nat.reduceEqDiff, Nat.reduceAdd, Nat.reduceLeDiff, Int.reduceLE, Int.reduceLT, Int.reduceAdd, Int.reduceSub, Int.reduceNeg, Int.reduceBEq, Int.reduceBNe, Int.reduceEq, Int.reduceGT, Int.reduceGE, Int.reduceMul, Int.reduceToNat, Nat.reduceMul, reduceCtorEq] <;> rfl)) rfl trivial keep0
  have u1 := of_decide_eq_false hu; clear hu
  have z0 : a.size ≤ 500 := by omega
  have z1 : b.size ≤ 500 := by omega
  cases hA : chkL (runesL a 0)
  · have fA : ∀ h, M7 24 [.s a] h = .pure (.i .i64 8) := fun h => by rw [mt24 a h (by omega), hA]; rfl
    repeat (first | apply vr0u | apply vr4 | apply b_tt | apply b_ff | apply b_tf | apply b_ft | apply b_no | exact isD.mk rfl | (apply eqG; (simp only [push_cast, ↓reduceIte, Nat.reduceEqDiff, Nat.reduceAdd, Nat.reduceLeDiff, Int.reduceLE, Int.reduceLT, Int.reduceAdd, Int.reduceSub, Int.reduceNeg, Int.reduceBEq, Int.reduceBNe, Int.reduceEq, Int.reduceGT, Int.reduceGE, Int.reduceMul, Int.reduceToNat, Nat.reduceMul, reduceCtorEq, fA] <;> rfl)))
    refine vr_nil (aw_then ?_)
    refine aw_true (by (simp only [push_cast, ↓reduceIte, Nat.reduceEqDiff, Nat.reduceAdd, Nat.reduceLeDiff, Int.reduceLE, Int.reduceLT, Int.reduceAdd, Int.reduceSub, Int.reduceNeg, Int.reduceBEq, Int.reduceBNe, Int.reduceEq, Int.reduceGT, Int.reduceGE, Int.reduceMul, Int.reduceToNat, Nat.reduceMul, reduceCtorEq, fA] <;> rfl)) ?_
    refine AWp.seq ?_
    (refine aw_regionL hS (by kernel_rfl) ?_; repeat (first | apply vr0u | apply vr4 | apply b_tt | apply b_ff | apply b_tf | apply b_ft | apply b_no | exact isD.mk rfl | (apply eqG; (simp only [push_cast, ↓reduceIte, Nat.reduceEqDiff, Nat.reduceAdd, Nat.reduceLeDiff, Int.reduceLE, Int.reduceLT, Int.reduceAdd, Int.reduceSub, Int.reduceNeg, Int.reduceBEq, Int.reduceBNe, Int.reduceEq, Int.reduceGT, Int.reduceGE, Int.reduceMul, Int.reduceToNat, Nat.reduceMul, reduceCtorEq, fA] <;> rfl))))
    refine vr_nil (aw_then ?_)
    refine AWp.ret ?_
    exact Out.pure1 (.inr rfl) rfl (by (simp only [push_cast, ↓reduceIte, Nat.reduceEqDiff, Nat.reduceAdd, Nat.reduceLeDiff, Int.reduceLE, Int.reduceLT, Int.reduceAdd, Int.reduceSub, Int.reduceNeg, Int.reduceBEq, Int.reduceBNe, Int.reduceEq, Int.reduceGT, Int.reduceGE, Int.reduceMul, Int.reduceToNat, Nat.reduceMul, reduceCtorEq, fA] <;> rfl)) rfl trivial keep0
  have fA : ∀ h, M7 24 [.s a] h = .pure (.i .i64 0) := fun h => by rw [mt24 a h (by omega), hA]; rfl
  cases hB : chkL (runesL b 0)
  · have fB : ∀ h, M7 24 [.s b] h = .pure (.i .i64 8) := fun h => by rw [mt24 b h (by omega), hB]; rfl
    repeat (first | apply vr0u | apply vr4 | apply b_tt | apply b_ff | apply b_tf | apply b_ft | apply b_no | exact isD.mk rfl | (apply eqG; (simp only [push_cast, ↓reduceIte, Nat.reduceEqDiff, Nat.reduceAdd, Nat.reduceLeDiff, Int.reduceLE, Int.reduceLT, Int.reduceAdd, Int.reduceSub, Int.reduceNeg, Int.reduceBEq, Int.reduceBNe, Int.reduceEq, Int.reduceGT, Int.reduceGE, Int.reduceMul, Int.reduceToNat, Nat.reduceMul, reduceCtorEq, fA, fB] <;> rfl)))
    refine vr_nil (aw_then ?_)
    refine aw_true (by (simp only [push_cast, ↓reduceIte, Nat.reduceEqDiff, Nat.reduceAdd, Nat.reduceLeDiff, Int.reduceLE, Int.reduceLT, Int.reduceAdd, Int.reduceSub, Int.reduceNeg, Int.reduceBEq, Int.reduceBNe, Int.reduceEq, Int.reduceGT, Int.reduceGE, Int.reduceMul, Int.reduceToNat, Nat.reduceMul, reduceCtorEq, fA, fB] <;> rfl)) ?_
    refine AWp.seq ?_
    (refine aw_regionL hS (by kernel_rfl) ?_; repeat (first | apply vr0u | apply vr4 | apply b_tt | apply b_ff | apply b_tf | apply b_ft | apply b_no | exact isD.mk rfl | (apply eqG; (simp only [push_cast, ↓reduceIte, Nat.reduceEqDiff, Nat.reduceAdd, Nat.reduceLeDiff, Int.reduceLE, Int.reduceLT, Int.reduceAdd, Int.reduceSub, Int.reduceNeg, Int.reduceBEq, Int.reduceBNe, Int.reduceEq, Int.reduceGT, Int.reduceGE, Int.reduceMul, Int.reduceToNat, Nat.reduceMul, reduceCtorEq, fA, fB] <;> rfl))))
    refine vr_nil (aw_then ?_)
    refine AWp.ret ?_
    exact Out.pure1 (.inr rfl) rfl (by (simp only [push_cast, ↓reduceIte, Nat.reduceEqDiff, Nat.reduceAdd, Nat.reduceLeDiff, Int.reduceLE, Int.reduceLT, Int.reduceAdd, Int.reduceSub, Int.reduceNeg, Int.reduceBEq, Int.reduceBNe, Int.reduceEq, Int.reduceGT, Int.reduceGE, Int.reduceMul, Int.reduceToNat, Nat.reduceMul, reduceCtorEq, fA, fB] <;> rfl)) rfl trivial keep0
  have fB : ∀ h, M7 24 [.s b] h = .pure (.i .i64 0) := fun h => by rw [mt24 b h (by omega), hB]; rfl
  repeat (first | apply vr0u | apply vr4 | apply b_tt | apply b_ff | apply b_tf | apply b_ft | apply b_no | exact isD.mk rfl | (apply eqG; (simp only [push_cast, ↓reduceIte, Nat.reduceEqDiff, Nat.reduceAdd, Nat.reduceLeDiff, Int.reduceLE, Int.reduceLT, Int.reduceAdd, Int.reduceSub, Int.reduceNeg, Int.reduceBEq, Int.reduceBNe, Int.reduceEq, Int.reduceGT, Int.reduceGE, Int.reduceMul, Int.reduceToNat, Nat.reduceMul, reduceCtorEq, fA, fB] <;> rfl)))
  refine vr_nil (aw_then ?_)
  refine aw_false (by (simp only [push_cast, ↓reduceIte, Nat.reduceEqDiff, Nat.reduceAdd, Nat.reduceLeDiff, Int.reduceLE, Int.reduceLT, Int.reduceAdd, Int.reduceSub, Int.reduceNeg, Int.reduceBEq, Int.reduceBNe, Int.reduceEq, Int.reduceGT, Int.reduceGE, Int.reduceMul, Int.reduceToNat, Nat.reduceMul, reduceCtorEq, fA, fB] <;> rfl)) (AWp.skip (aw_then ?_))
  have zs : (a ++ b).size ≤ 5000 := by rw [size_app]; omega
  have z3 : (a ++ { data := #[32] } ++ b).size ≤ 5000 := by
    rw [size_app, size_app]
    have : ({ data := #[32] } : ByteArray).size = 1 := rfl
    omega
  have ra := runes_le a
  have rb := runes_le b
  have g1 : ∀ h, M7 23 [.s a] h = .pure (.i .i64 (runesFrom a 0 : Nat)) := fun h => mt23 a h (by omega)
  have g2 : ∀ h, M7 23 [.s b] h = .pure (.i .i64 (runesFrom b 0 : Nat)) := fun h => mt23 b h (by omega)
  have g3 : ∀ h, M7 23 [.s (a ++ b)] h = .pure (.i .i64 ((runesFrom a 0 : Nat) + (runesFrom b 0 : Nat))) := fun h => by rw [mt23 _ h zs, runes_two b hA]; rfl
  have g4 : ∀ h, M7 31 [.s (a ++ b), .i .i64 (runesFrom a 0 : Nat)] h = .pure (.s a) := fun h => by rw [mt31 _ _ h zs (by omega), cut_two b hA]
  have g5 : ∃ q : Int, (∀ h, M7 24 [.s (a ++ b)] h = .pure (.i .i64 q)) ∧ (q == 0) = decide ((runesFrom a 0 : Int) + (runesFrom b 0 : Int) ≤ 24) := by
    refine ⟨if runesFrom a 0 + runesFrom b 0 ≤ 24 then 0 else 8, fun h => ?_, ?_⟩
    · rw [mt24 _ h zs, chk_two hA hB]
      by_cases hc : runesFrom a 0 + runesFrom b 0 ≤ 24 <;> simp [hc]
    · by_cases hc : runesFrom a 0 + runesFrom b 0 ≤ 24
      · rw [if_pos hc, decide_eq_true (by omega)]; rfl
      · rw [if_neg hc, decide_eq_false (by omega)]; rfl
  obtain ⟨q, g5, hq⟩ := g5
  have g6 : ∀ h, M7 26 [.s (a ++ b)] h = .pure (.s (foldS a ++ foldS b)) := fun h => by rw [mt26 _ h zs, fold_two]
  have g7 : ∀ h, M7 26 [.s a] h = .pure (.s (foldS a)) := fun h => mt26 a h (by omega)
  have g8 : ∀ h, M7 26 [.s b] h = .pure (.s (foldS b)) := fun h => mt26 b h (by omega)
  have g9 : ∃ q : Int, ∀ h, M7 24 [.s (a ++ { data := #[32] } ++ b)] h = .pure (.i .i64 q) := ⟨_, fun h => mt24 _ h z3⟩
  obtain ⟨q', g9⟩ := g9
  have g10 : ∀ h, M7 31 [.s (a ++ { data := #[32] } ++ b), .i .i64 ((runesFrom a 0 : Nat) + (runesFrom b 0 : Nat) + 1)] h = .pure (.s (a ++ { data := #[32] } ++ b)) := fun h => by
    rw [mt31 _ _ h z3 (by omega), cut_three b hA]
  have w1 : IntKind.wrap .i64 ((runesFrom a 0 : Nat) + (runesFrom b 0 : Nat)) = (runesFrom a 0 : Nat) + (runesFrom b 0 : Nat) := IntWalk.i64_in _ (by omega)
  have w2 : IntKind.wrap .i64 ((runesFrom a 0 : Nat) + (runesFrom b 0 : Nat) + 1) = (runesFrom a 0 : Nat) + (runesFrom b 0 : Nat) + 1 := IntWalk.i64_in _ (by omega)
  generalize ((runesFrom a 0 : Nat) : Int) = xa at *
  generalize ((runesFrom b 0 : Nat) : Int) = xb at *
  have p1 : (a.size + b.size ≤ 9223372036854775807) = True := by simp; omega
  have p2 : (a.size + ({ data := #[32] } : ByteArray).size ≤ 9223372036854775807) = True := by
    have : ({ data := #[32] } : ByteArray).size = 1 := rfl
    simp only [this, eq_iff_iff, iff_true]; omega
  have p3 : ((a ++ { data := #[32] }).size + b.size ≤ 9223372036854775807) = True := by rw [← size_app]; simp only [eq_iff_iff, iff_true]; omega
  refine AWp.seq ?_
  (refine aw_regionL hS (by kernel_rfl) ?_; repeat (first | apply vr0u | apply vr4 | apply b_tt | apply b_ff | apply b_tf | apply b_ft | apply b_no | exact isD.mk rfl | (apply eqG; (simp only [push_cast, ↓reduceIte, Nat.reduceEqDiff, Nat.reduceAdd, Nat.reduceLeDiff, Int.reduceLE, Int.reduceLT, Int.reduceAdd, Int.reduceSub, Int.reduceNeg, Int.reduceBEq, Int.reduceBNe, Int.reduceEq, Int.reduceGT, Int.reduceGE, Int.reduceMul, Int.reduceToNat, Nat.reduceMul, reduceCtorEq, fA, fB, g1, g2, g3, g4, g5, g6, g7, g8, g9, g10, hq, p1, p2, p3, w1, w2, mt25, foldS_size] <;> rfl))))
  refine vr_nil (aw_then ?_)
  refine AWp.seq ?_
  (refine aw_regionL hS (by kernel_rfl) ?_; repeat (first | apply vr0u | apply vr4 | apply b_tt | apply b_ff | apply b_tf | apply b_ft | apply b_no | exact isD.mk rfl | (apply eqG; (simp only [push_cast, ↓reduceIte, Nat.reduceEqDiff, Nat.reduceAdd, Nat.reduceLeDiff, Int.reduceLE, Int.reduceLT, Int.reduceAdd, Int.reduceSub, Int.reduceNeg, Int.reduceBEq, Int.reduceBNe, Int.reduceEq, Int.reduceGT, Int.reduceGE, Int.reduceMul, Int.reduceToNat, Nat.reduceMul, reduceCtorEq, fA, fB, g1, g2, g3, g4, g5, g6, g7, g8, g9, g10, hq, p1, p2, p3, w1, w2, mt25, foldS_size] <;> rfl))))
  refine vr_nil (aw_then ?_)
  refine AWp.seq ?_
  (refine aw_regionL hS (by kernel_rfl) ?_; repeat (first | apply vr0u | apply vr4 | apply b_tt | apply b_ff | apply b_tf | apply b_ft | apply b_no | exact isD.mk rfl | (apply eqG; (simp only [push_cast, ↓reduceIte, Nat.reduceEqDiff, Nat.reduceAdd, Nat.reduceLeDiff, Int.reduceLE, Int.reduceLT, Int.reduceAdd, Int.reduceSub, Int.reduceNeg, Int.reduceBEq, Int.reduceBNe, Int.reduceEq, Int.reduceGT, Int.reduceGE, Int.reduceMul, Int.reduceToNat, Nat.reduceMul, reduceCtorEq, fA, fB, g1, g2, g3, g4, g5, g6, g7, g8, g9, g10, hq, p1, p2, p3, w1, w2, mt25, foldS_size] <;> rfl))))
  refine vr_nil (aw_then ?_)
  refine AWp.ret ?_
  exact Out.pure1 (.inr rfl) rfl (by (simp only [push_cast, ↓reduceIte, Nat.reduceEqDiff, Nat.reduceAdd, Nat.reduceLeDiff, Int.reduceLE, Int.reduceLT, Int.reduceAdd, Int.reduceSub, Int.reduceNeg, Int.reduceBEq, Int.reduceBNe, Int.reduceEq, Int.reduceGT, Int.reduceGE, Int.reduceMul, Int.reduceToNat, Nat.reduceMul, reduceCtorEq, fA, fB, g1, g2, g3, g4, g5, g6, g7, g8, g9, g10, hq, p1, p2, p3, w1, w2, mt25, foldS_size] <;> rfl)) rfl trivial keep0
end Go.Proofs.Ytpgohmcolcfhfaa
