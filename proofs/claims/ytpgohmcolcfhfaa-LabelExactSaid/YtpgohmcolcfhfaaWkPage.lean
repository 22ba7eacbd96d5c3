import Derived.Test.YtpgohmcolcfhfaaWkRune1

namespace Go.Proofs.Ytpgohmcolcfhfaa
open Go.Av
set_option maxRecDepth 100000
set_option maxHeartbeats 1000000
set_option linter.unusedSimpArgs false
set_option linter.unusedVariables false
theorem zeT_5 : zeT Try.prog 5 = some [.i .u8 0] := by kernel_rfl
attribute [local push_cast] stepE callR resE aeff aev ofC ofC1 put_at Av.put_none inTmps List.getD_cons_zero List.getD_cons_succ AV.boxable if_true if_false AV.cells aload place app_cons app_nil upd_same Av.part abin aconv aindexAddr fillA splice_one splice_two abuiltin alen amax amin aun aindex Option.map_some List.map_cons List.map_nil List.nil_append List.append_nil List.cons_append Nat.le_refl Nat.zero_add List.length_cons List.length_nil List.drop_succ_cons List.drop_zero List.take_succ_cons List.take_zero beq_self_eq_true bne_self_eq_false Bool.not_true Bool.not_false List.set_cons_zero List.set_cons_succ Bool.false_eq_true IntWalk.i64_in decide_true decide_false Int.toNat_zero and_self and_true true_and List.getElem?_cons_zero List.getElem?_cons_succ agT_26 szT_26 slT_24 agT_24 szT_24 flT_26_0 flT_26_1 flT_26_3 flT_26_2 agT_22 szT_22 arT_22 agT_3 szT_3 kiT_3 kiT_23 kiT_4 zeT_26 buT_26 zeT_22 buT_22 kiT_9 kiT_51 kiT_5 und_51 slT_51 agT_5 szT_5 aappend aapp view slT_24 zeT_3 byT_24 zeT_5 Option.map_none asliceB aslice amin amax Bool.and_true Bool.true_and Nat.mul_one alen


open Go.Lib (decodeN)
/-! ### what rune1 tells, against the runes of a text -/
theorem r1_cases (l : List UInt8) (hl : l ≠ []) : (r1 l = (0, 0) ∧ dec l = (65533, 1)) ∨ (r1 l = dec l ∧ strong l) := by
  by_cases h : 128 ≤ bt l 0 ∧ (dec l).2 ≤ 1
  · left
    exact ⟨by rw [r1, if_pos h], decN_err (by omega) (by have := h.2; simp only [dec] at this; exact this)⟩
  · right
    refine ⟨by rw [r1, if_neg h], ?_⟩
    unfold strong
    omega
theorem r1_size (l : List UInt8) (hl : l ≠ []) : (if (1 : Int) > ((r1 l).2 : Nat) then (1 : Int) else ((r1 l).2 : Nat)) = (((dec l).2 : Nat) : Int) := by
  have hp := dec_pos l
  rcases r1_cases l hl with ⟨h1, h2⟩ | ⟨h1, h2⟩
  · rw [h1, h2]; rfl
  · rw [h1, if_neg (by omega)]
theorem drop_ne {s : ByteArray} {pos : Nat} (h : pos < s.size) : (bs s).drop pos ≠ [] := by
  intro hc
  have := congrArg List.length hc
  rw [List.length_drop, bs_size] at this
  simp only [List.length_nil] at this
  omega
theorem dec_in {s : ByteArray} {pos : Nat} (h : pos < s.size) : pos + (dec ((bs s).drop pos)).2 ≤ s.size := by
  have := dec_le (drop_ne h)
  rw [List.length_drop, bs_size] at this
  omega
theorem c48_at {S : Sums} (h48 : ∀ s h, 0 < s.size → s.size ≤ 5000 → S 48 [.s s] h = .pure (r1A s)) {s : ByteArray} (hs : s.size ≤ 5000) {pos : Nat} (hp : pos < s.size) :
    ∀ h, S 48 [.s (s.extract pos s.size)] h = .pure (.tup [.i .i64 (((r1 ((bs s).drop pos)).1 : Nat) : Int), .i .i64 (((r1 ((bs s).drop pos)).2 : Nat) : Int)]) := fun h => by
  have hz : (s.extract pos s.size).size = s.size - pos := by simp
  rw [h48 _ h (by omega) (by omega), r1A, bs_extract2]
theorem c29 (s : ByteArray) (hs : s.size ≤ 5000) (S : Sums) (hS : SumOk Try.prog S) (h48 : ∀ s h, 0 < s.size → s.size ≤ 5000 → S 48 [.s s] h = .pure (r1A s)) : ∀ h n, DCalls Try.prog 29 [.s s] h n (.i .i64 (runesFrom s 0 : Nat)) [] n := by
  intro h n
  refine DCalls.of Try.func29 rfl (by decide) (Nat.le_of_ble_eq_true rfl) (Nat.le_refl _) ?_
  refine AWp.seq ?_
  (refine aw_regionL hS (by kernel_rfl) ?_; repeat (first | apply vr0u | apply vr4 | apply b_tt | apply b_ff | apply b_tf | apply b_ft | apply b_no | exact isD.mk rfl | (apply eqG; (simp only [push_cast, ↓reduceIte, Nat.reduceEqDiff, Nat.reduceAdd, Nat.reduceLeDiff, Int.reduceLE, Int.reduceLT, Int.reduceAdd, Int.reduceSub, Int.reduceNeg, Int.reduceBEq, Int.reduceBNe, Int.reduceEq, Int.reduceGT, Int.reduceGE, Int.reduceMul, Int.reduceToNat, Int.reducePow, Nat.reduceMul, reduceCtorEq] <;> rfl))))
  refine vr_nil (aw_then ?_)
  refine AWp.seq ?_
  (refine aw_regionL hS (by kernel_rfl) ?_; repeat (first | apply vr0u | apply vr4 | apply b_tt | apply b_ff | apply b_tf | apply b_ft | apply b_no | exact isD.mk rfl | (apply eqG; (simp only [push_cast, ↓reduceIte, Nat.reduceEqDiff, Nat.reduceAdd, Nat.reduceLeDiff, Int.reduceLE, Int.reduceLT, Int.reduceAdd, Int.reduceSub, Int.reduceNeg, Int.reduceBEq, Int.reduceBNe, Int.reduceEq, Int.reduceGT, Int.reduceGE, Int.reduceMul, Int.reduceToNat, Int.reducePow, Nat.reduceMul, reduceCtorEq] <;> rfl))))
  refine vr_nil (aw_then ?_)
  refine AWp.seq ?_
  refine AWp.seq ?_
  (refine aw_regionL hS (by kernel_rfl) ?_; repeat (first | apply vr0u | apply vr4 | apply b_tt | apply b_ff | apply b_tf | apply b_ft | apply b_no | exact isD.mk rfl | (apply eqG; (simp only [push_cast, ↓reduceIte, Nat.reduceEqDiff, Nat.reduceAdd, Nat.reduceLeDiff, Int.reduceLE, Int.reduceLT, Int.reduceAdd, Int.reduceSub, Int.reduceNeg, Int.reduceBEq, Int.reduceBNe, Int.reduceEq, Int.reduceGT, Int.reduceGE, Int.reduceMul, Int.reduceToNat, Int.reducePow, Nat.reduceMul, reduceCtorEq] <;> rfl))))
  refine vr_nil (aw_then ?_)
  refine AWp.block ?_
  refine AWp.loop (fun k t' h' n' => ∃ (pos c : Nat), k = s.size - pos ∧ pos ≤ s.size ∧ c + runesFrom s pos = runesFrom s 0 ∧ t' 0 = .s s ∧ t' 3 = .i .i64 (c : Int) ∧ t' 4 = .i .i64 (pos : Int) ∧ ∀ x r, x < n → h x = some r → h' x = some r) s.size ?_ ?_
  · exact ⟨0, 0, rfl, Nat.zero_le _, Nat.zero_add _, by (simp only [push_cast, ↓reduceIte, Nat.reduceEqDiff, Nat.reduceAdd, Nat.reduceLeDiff, Int.reduceLE, Int.reduceLT, Int.reduceAdd, Int.reduceSub, Int.reduceNeg, Int.reduceBEq, Int.reduceBNe, Int.reduceEq, Int.reduceGT, Int.reduceGE, Int.reduceMul, Int.reduceToNat, Int.reducePow, Nat.reduceMul, reduceCtorEq] <;> rfl), by (simp only [push_cast, ↓reduceIte, Nat.reduceEqDiff, Nat.reduceAdd, Nat.reduceLeDiff, Int.reduceLE, Int.reduceLT, Int.reduceAdd, Int.reduceSub, Int.reduceNeg, Int.reduceBEq, Int.reduceBNe, Int.reduceEq, Int.reduceGT, Int.reduceGE, Int.reduceMul, Int.reduceToNat, Int.reducePow, Nat.reduceMul, reduceCtorEq] <;> rfl), by (simp only [push_cast, ↓reduceIte, Nat.reduceEqDiff, Nat.reduceAdd, Nat.reduceLeDiff, Int.reduceLE, Int.reduceLT, Int.reduceAdd, Int.reduceSub, Int.reduceNeg, Int.reduceBEq, Int.reduceBNe, Int.reduceEq, Int.reduceGT, Int.reduceGE, Int.reduceMul, Int.reduceToNat, Int.reducePow, Nat.reduceMul, reduceCtorEq] <;> rfl), keep0⟩
  · rintro m t h' n' - ⟨pos, c, rfl, hpl, hc, h0, h3, h4, hk⟩
    by_cases hp : pos < s.size
    · have q1 : ((pos : Int) < ((s.size : Nat) : Int)) = True := by simp [hp]
      have q2 : (0 ≤ (pos : Int) ∧ (pos : Int) ≤ ((s.size : Nat) : Int)) = True := by simp; omega
      have hstep := runesFrom_step hp
      rw [decode_dec] at hstep
      have hd := dec_in hp
      have hd1 := dec_pos ((bs s).drop pos)
      have hle := runesFrom_le s s.size 0 (by omega)
      have w1 : IntKind.wrap .i64 ((c : Int) + 1) = (c : Int) + 1 := by rw [IntWalk.i64_in _ (by omega)]
      have hr := c48_at h48 hs hp
      have hsz := r1_size _ (drop_ne hp)
      generalize ((r1 ((bs s).drop pos)).1 : Nat) = ra at hr
      generalize (((r1 ((bs s).drop pos)).2 : Nat) : Int) = rb at hr hsz
      generalize (dec ((bs s).drop pos)).2 = d at *
      have w2 : IntKind.wrap .i64 ((pos : Int) + (d : Int)) = (pos : Int) + (d : Int) := IntWalk.i64_in _ (by omega)
      refine AWp.seq ?_
      refine AWp.seq ?_
      (refine aw_regionL hS (by kernel_rfl) ?_; repeat (first | apply vr0u | apply vr4 | apply b_tt | apply b_ff | apply b_tf | apply b_ft | apply b_no | exact isD.mk rfl | (apply eqG; (simp only [push_cast, ↓reduceIte, Nat.reduceEqDiff, Nat.reduceAdd, Nat.reduceLeDiff, Int.reduceLE, Int.reduceLT, Int.reduceAdd, Int.reduceSub, Int.reduceNeg, Int.reduceBEq, Int.reduceBNe, Int.reduceEq, Int.reduceGT, Int.reduceGE, Int.reduceMul, Int.reduceToNat, Int.reducePow, Nat.reduceMul, reduceCtorEq, h0, h3, h4, q1, q2, w1, w2, hr, hsz, Int.toNat_natCast] <;> rfl))))
      refine vr_nil (aw_then ?_)
      refine aw_true (by (simp only [push_cast, ↓reduceIte, Nat.reduceEqDiff, Nat.reduceAdd, Nat.reduceLeDiff, Int.reduceLE, Int.reduceLT, Int.reduceAdd, Int.reduceSub, Int.reduceNeg, Int.reduceBEq, Int.reduceBNe, Int.reduceEq, Int.reduceGT, Int.reduceGE, Int.reduceMul, Int.reduceToNat, Int.reducePow, Nat.reduceMul, reduceCtorEq, h0, h3, h4, q1, q2, w1, w2, hr, hsz, Int.toNat_natCast] <;> rfl)) (AWp.skip (aw_then ?_))
      refine AWp.seq ?_
      refine AWp.block ?_
      refine AWp.seq ?_
      (refine aw_regionL hS (by kernel_rfl) ?_; repeat (first | apply vr0u | apply vr4 | apply b_tt | apply b_ff | apply b_tf | apply b_ft | apply b_no | exact isD.mk rfl | (apply eqG; (simp only [push_cast, ↓reduceIte, Nat.reduceEqDiff, Nat.reduceAdd, Nat.reduceLeDiff, Int.reduceLE, Int.reduceLT, Int.reduceAdd, Int.reduceSub, Int.reduceNeg, Int.reduceBEq, Int.reduceBNe, Int.reduceEq, Int.reduceGT, Int.reduceGE, Int.reduceMul, Int.reduceToNat, Int.reducePow, Nat.reduceMul, reduceCtorEq, h0, h3, h4, q1, q2, w1, w2, hr, hsz, Int.toNat_natCast] <;> rfl))))
      refine vr_nil (aw_then ?_)
      (refine aw_regionL hS (by kernel_rfl) ?_; repeat (first | apply vr0u | apply vr4 | apply b_tt | apply b_ff | apply b_tf | apply b_ft | apply b_no | exact isD.mk rfl | (apply eqG; (simp only [push_cast, ↓reduceIte, Nat.reduceEqDiff, Nat.reduceAdd, Nat.reduceLeDiff, Int.reduceLE, Int.reduceLT, Int.reduceAdd, Int.reduceSub, Int.reduceNeg, Int.reduceBEq, Int.reduceBNe, Int.reduceEq, Int.reduceGT, Int.reduceGE, Int.reduceMul, Int.reduceToNat, Int.reducePow, Nat.reduceMul, reduceCtorEq, h0, h3, h4, q1, q2, w1, w2, hr, hsz, Int.toNat_natCast] <;> rfl))))
      refine vr_nil (aw_in (aw_then ?_))
      (refine aw_regionL hS (by kernel_rfl) ?_; repeat (first | apply vr0u | apply vr4 | apply b_tt | apply b_ff | apply b_tf | apply b_ft | apply b_no | exact isD.mk rfl | (apply eqG; (simp only [push_cast, ↓reduceIte, Nat.reduceEqDiff, Nat.reduceAdd, Nat.reduceLeDiff, Int.reduceLE, Int.reduceLT, Int.reduceAdd, Int.reduceSub, Int.reduceNeg, Int.reduceBEq, Int.reduceBNe, Int.reduceEq, Int.reduceGT, Int.reduceGE, Int.reduceMul, Int.reduceToNat, Int.reducePow, Nat.reduceMul, reduceCtorEq, h0, h3, h4, q1, q2, w1, w2, hr, hsz, Int.toNat_natCast] <;> rfl))))
      exact vr_nil (aw_then ⟨s.size - (pos + d), by omega, pos + d, c + 1, rfl, hd, by omega, by (simp only [push_cast, ↓reduceIte, Nat.reduceEqDiff, Nat.reduceAdd, Nat.reduceLeDiff, Int.reduceLE, Int.reduceLT, Int.reduceAdd, Int.reduceSub, Int.reduceNeg, Int.reduceBEq, Int.reduceBNe, Int.reduceEq, Int.reduceGT, Int.reduceGE, Int.reduceMul, Int.reduceToNat, Int.reducePow, Nat.reduceMul, reduceCtorEq, h0, h3, h4, q1, q2, w1, w2, hr, hsz, Int.toNat_natCast] <;> rfl), by (simp only [push_cast, ↓reduceIte, Nat.reduceEqDiff, Nat.reduceAdd, Nat.reduceLeDiff, Int.reduceLE, Int.reduceLT, Int.reduceAdd, Int.reduceSub, Int.reduceNeg, Int.reduceBEq, Int.reduceBNe, Int.reduceEq, Int.reduceGT, Int.reduceGE, Int.reduceMul, Int.reduceToNat, Int.reducePow, Nat.reduceMul, reduceCtorEq, h0, h3, h4, q1, q2, w1, w2, hr, hsz, Int.toNat_natCast] <;> rfl), by (simp only [push_cast, ↓reduceIte, Nat.reduceEqDiff, Nat.reduceAdd, Nat.reduceLeDiff, Int.reduceLE, Int.reduceLT, Int.reduceAdd, Int.reduceSub, Int.reduceNeg, Int.reduceBEq, Int.reduceBNe, Int.reduceEq, Int.reduceGT, Int.reduceGE, Int.reduceMul, Int.reduceToNat, Int.reducePow, Nat.reduceMul, reduceCtorEq, h0, h3, h4, q1, q2, w1, w2, hr, hsz, Int.toNat_natCast] <;> rfl), hk⟩)
    · have q1 : ((pos : Int) < ((s.size : Nat) : Int)) = False := by simp; omega
      have hend := runesFrom_end hp
      have hcc : c = runesFrom s 0 := by omega
      refine AWp.seq ?_
      refine AWp.seq ?_
      (refine aw_regionL hS (by kernel_rfl) ?_; repeat (first | apply vr0u | apply vr4 | apply b_tt | apply b_ff | apply b_tf | apply b_ft | apply b_no | exact isD.mk rfl | (apply eqG; (simp only [push_cast, ↓reduceIte, Nat.reduceEqDiff, Nat.reduceAdd, Nat.reduceLeDiff, Int.reduceLE, Int.reduceLT, Int.reduceAdd, Int.reduceSub, Int.reduceNeg, Int.reduceBEq, Int.reduceBNe, Int.reduceEq, Int.reduceGT, Int.reduceGE, Int.reduceMul, Int.reduceToNat, Int.reducePow, Nat.reduceMul, reduceCtorEq, h0, h3, h4, q1] <;> rfl))))
      refine vr_nil (aw_then ?_)
      refine aw_false (by (simp only [push_cast, ↓reduceIte, Nat.reduceEqDiff, Nat.reduceAdd, Nat.reduceLeDiff, Int.reduceLE, Int.reduceLT, Int.reduceAdd, Int.reduceSub, Int.reduceNeg, Int.reduceBEq, Int.reduceBNe, Int.reduceEq, Int.reduceGT, Int.reduceGE, Int.reduceMul, Int.reduceToNat, Int.reducePow, Nat.reduceMul, reduceCtorEq, h0, h3, h4, q1] <;> rfl)) (AWp.exit (aw_thru (aw_thru (aw_exit (aw_then ?_)))))
      refine AWp.seq ?_
      (refine aw_regionL hS (by kernel_rfl) ?_; repeat (first | apply vr0u | apply vr4 | apply b_tt | apply b_ff | apply b_tf | apply b_ft | apply b_no | exact isD.mk rfl | (apply eqG; (simp only [push_cast, ↓reduceIte, Nat.reduceEqDiff, Nat.reduceAdd, Nat.reduceLeDiff, Int.reduceLE, Int.reduceLT, Int.reduceAdd, Int.reduceSub, Int.reduceNeg, Int.reduceBEq, Int.reduceBNe, Int.reduceEq, Int.reduceGT, Int.reduceGE, Int.reduceMul, Int.reduceToNat, Int.reducePow, Nat.reduceMul, reduceCtorEq, h0, h3, h4, q1] <;> rfl))))
      refine vr_nil (aw_then ?_)
      refine AWp.ret ?_
      exact Out.pure1 (.inr rfl) rfl (by (simp only [push_cast, ↓reduceIte, Nat.reduceEqDiff, Nat.reduceAdd, Nat.reduceLeDiff, Int.reduceLE, Int.reduceLT, Int.reduceAdd, Int.reduceSub, Int.reduceNeg, Int.reduceBEq, Int.reduceBNe, Int.reduceEq, Int.reduceGT, Int.reduceGE, Int.reduceMul, Int.reduceToNat, Int.reducePow, Nat.reduceMul, reduceCtorEq, h0, h3, h4, q1] <;> rfl)) (by rw [hcc]) trivial hk
theorem c32 (s : ByteArray) (x : Int) (hs : s.size ≤ 5000) (hx : x ≤ 9223372036854775807) (S : Sums) (hS : SumOk Try.prog S) (h48 : ∀ s h, 0 < s.size → s.size ≤ 5000 → S 48 [.s s] h = .pure (r1A s)) : ∀ h n, DCalls Try.prog 32 [.s s, .i .i64 x] h n (.s (cutS s x)) [] n := by
  intro h n
  refine DCalls.of Try.func32 rfl (by decide) (Nat.le_of_ble_eq_true rfl) (Nat.le_refl _) ?_
  refine AWp.seq ?_
  (refine aw_regionL hS (by kernel_rfl) ?_; repeat (first | apply vr0u | apply vr4 | apply b_tt | apply b_ff | apply b_tf | apply b_ft | apply b_no | exact isD.mk rfl | (apply eqG; (simp only [push_cast, ↓reduceIte, Nat.reduceEqDiff, Nat.reduceAdd, Nat.reduceLeDiff, Int.reduceLE, Int.reduceLT, Int.reduceAdd, Int.reduceSub, Int.reduceNeg, Int.reduceBEq, Int.reduceBNe, Int.reduceEq, Int.reduceGT, Int.reduceGE, Int.reduceMul, Int.reduceToNat, Int.reducePow, Nat.reduceMul, reduceCtorEq] <;> rfl))))
  refine vr_nil (aw_then ?_)
  refine AWp.seq ?_
  (refine aw_regionL hS (by kernel_rfl) ?_; repeat (first | apply vr0u | apply vr4 | apply b_tt | apply b_ff | apply b_tf | apply b_ft | apply b_no | exact isD.mk rfl | (apply eqG; (simp only [push_cast, ↓reduceIte, Nat.reduceEqDiff, Nat.reduceAdd, Nat.reduceLeDiff, Int.reduceLE, Int.reduceLT, Int.reduceAdd, Int.reduceSub, Int.reduceNeg, Int.reduceBEq, Int.reduceBNe, Int.reduceEq, Int.reduceGT, Int.reduceGE, Int.reduceMul, Int.reduceToNat, Int.reducePow, Nat.reduceMul, reduceCtorEq] <;> rfl))))
  refine vr_nil (aw_then ?_)
  refine AWp.seq ?_
  refine AWp.seq ?_
  (refine aw_regionL hS (by kernel_rfl) ?_; repeat (first | apply vr0u | apply vr4 | apply b_tt | apply b_ff | apply b_tf | apply b_ft | apply b_no | exact isD.mk rfl | (apply eqG; (simp only [push_cast, ↓reduceIte, Nat.reduceEqDiff, Nat.reduceAdd, Nat.reduceLeDiff, Int.reduceLE, Int.reduceLT, Int.reduceAdd, Int.reduceSub, Int.reduceNeg, Int.reduceBEq, Int.reduceBNe, Int.reduceEq, Int.reduceGT, Int.reduceGE, Int.reduceMul, Int.reduceToNat, Int.reducePow, Nat.reduceMul, reduceCtorEq] <;> rfl))))
  refine vr_nil (aw_then ?_)
  refine AWp.block ?_
  refine AWp.loop (fun k t' h' n' => ∃ (pos c : Nat), k = s.size - pos ∧ pos ≤ s.size ∧ c ≤ pos ∧ cutAt s 0 x = cutAt s pos (x - c) ∧ t' 0 = .s s ∧ t' 1 = .i .i64 x ∧ t' 5 = .i .i64 (pos : Int) ∧ t' 6 = .i .i64 (c : Int) ∧ ∀ x r, x < n → h x = some r → h' x = some r) s.size ?_ ?_
  · exact ⟨0, 0, rfl, Nat.zero_le _, Nat.le_refl _, by simp, by (simp only [push_cast, ↓reduceIte, Nat.reduceEqDiff, Nat.reduceAdd, Nat.reduceLeDiff, Int.reduceLE, Int.reduceLT, Int.reduceAdd, Int.reduceSub, Int.reduceNeg, Int.reduceBEq, Int.reduceBNe, Int.reduceEq, Int.reduceGT, Int.reduceGE, Int.reduceMul, Int.reduceToNat, Int.reducePow, Nat.reduceMul, reduceCtorEq] <;> rfl), by (simp only [push_cast, ↓reduceIte, Nat.reduceEqDiff, Nat.reduceAdd, Nat.reduceLeDiff, Int.reduceLE, Int.reduceLT, Int.reduceAdd, Int.reduceSub, Int.reduceNeg, Int.reduceBEq, Int.reduceBNe, Int.reduceEq, Int.reduceGT, Int.reduceGE, Int.reduceMul, Int.reduceToNat, Int.reducePow, Nat.reduceMul, reduceCtorEq] <;> rfl), by (simp only [push_cast, ↓reduceIte, Nat.reduceEqDiff, Nat.reduceAdd, Nat.reduceLeDiff, Int.reduceLE, Int.reduceLT, Int.reduceAdd, Int.reduceSub, Int.reduceNeg, Int.reduceBEq, Int.reduceBNe, Int.reduceEq, Int.reduceGT, Int.reduceGE, Int.reduceMul, Int.reduceToNat, Int.reducePow, Nat.reduceMul, reduceCtorEq] <;> rfl), by (simp only [push_cast, ↓reduceIte, Nat.reduceEqDiff, Nat.reduceAdd, Nat.reduceLeDiff, Int.reduceLE, Int.reduceLT, Int.reduceAdd, Int.reduceSub, Int.reduceNeg, Int.reduceBEq, Int.reduceBNe, Int.reduceEq, Int.reduceGT, Int.reduceGE, Int.reduceMul, Int.reduceToNat, Int.reducePow, Nat.reduceMul, reduceCtorEq] <;> rfl), keep0⟩
  · rintro m t h' n' - ⟨pos, c, rfl, hpl, hcp, hc, h0, h1, h5, h6, hk⟩
    by_cases hgo : (c : Int) < x ∧ pos < s.size
    · obtain ⟨hcx, hp⟩ := hgo
      have q0 : ((c : Int) < x) = True := by simp [hcx]
      have q1 : ((pos : Int) < ((s.size : Nat) : Int)) = True := by simp [hp]
      have q2 : (0 ≤ (pos : Int) ∧ (pos : Int) ≤ ((s.size : Nat) : Int)) = True := by simp; omega
      have hstep := cutAt_step (n := x - c) hp (by omega)
      rw [decode_dec] at hstep
      have hd := dec_in hp
      have hd1 := dec_pos ((bs s).drop pos)
      have w1 : IntKind.wrap .i64 ((c : Int) + 1) = (c : Int) + 1 := by rw [IntWalk.i64_in _ (by omega)]
      have hr := c48_at h48 hs hp
      have hsz := r1_size _ (drop_ne hp)
      generalize ((r1 ((bs s).drop pos)).1 : Nat) = ra at hr
      generalize (((r1 ((bs s).drop pos)).2 : Nat) : Int) = rb at hr hsz
      generalize (dec ((bs s).drop pos)).2 = d at *
      have w2 : IntKind.wrap .i64 ((pos : Int) + (d : Int)) = (pos : Int) + (d : Int) := IntWalk.i64_in _ (by omega)
      refine AWp.seq ?_
      refine AWp.seq ?_
      (refine aw_regionL hS (by kernel_rfl) ?_; repeat (first | apply vr0u | apply vr4 | apply b_tt | apply b_ff | apply b_tf | apply b_ft | apply b_no | exact isD.mk rfl | (apply eqG; (simp only [push_cast, ↓reduceIte, Nat.reduceEqDiff, Nat.reduceAdd, Nat.reduceLeDiff, Int.reduceLE, Int.reduceLT, Int.reduceAdd, Int.reduceSub, Int.reduceNeg, Int.reduceBEq, Int.reduceBNe, Int.reduceEq, Int.reduceGT, Int.reduceGE, Int.reduceMul, Int.reduceToNat, Int.reducePow, Nat.reduceMul, reduceCtorEq, h0, h1, h5, h6, q0, q1, q2, w1, w2, hr, hsz, Int.toNat_natCast] <;> rfl))))
      refine vr_nil (aw_then ?_)
      refine aw_true (by (simp only [push_cast, ↓reduceIte, Nat.reduceEqDiff, Nat.reduceAdd, Nat.reduceLeDiff, Int.reduceLE, Int.reduceLT, Int.reduceAdd, Int.reduceSub, Int.reduceNeg, Int.reduceBEq, Int.reduceBNe, Int.reduceEq, Int.reduceGT, Int.reduceGE, Int.reduceMul, Int.reduceToNat, Int.reducePow, Nat.reduceMul, reduceCtorEq, h0, h1, h5, h6, q0, q1, q2, w1, w2, hr, hsz, Int.toNat_natCast] <;> rfl)) (AWp.skip (aw_then ?_))
      refine AWp.seq ?_
      refine AWp.block ?_
      refine AWp.seq ?_
      (refine aw_regionL hS (by kernel_rfl) ?_; repeat (first | apply vr0u | apply vr4 | apply b_tt | apply b_ff | apply b_tf | apply b_ft | apply b_no | exact isD.mk rfl | (apply eqG; (simp only [push_cast, ↓reduceIte, Nat.reduceEqDiff, Nat.reduceAdd, Nat.reduceLeDiff, Int.reduceLE, Int.reduceLT, Int.reduceAdd, Int.reduceSub, Int.reduceNeg, Int.reduceBEq, Int.reduceBNe, Int.reduceEq, Int.reduceGT, Int.reduceGE, Int.reduceMul, Int.reduceToNat, Int.reducePow, Nat.reduceMul, reduceCtorEq, h0, h1, h5, h6, q0, q1, q2, w1, w2, hr, hsz, Int.toNat_natCast] <;> rfl))))
      refine vr_nil (aw_then ?_)
      (refine aw_regionL hS (by kernel_rfl) ?_; repeat (first | apply vr0u | apply vr4 | apply b_tt | apply b_ff | apply b_tf | apply b_ft | apply b_no | exact isD.mk rfl | (apply eqG; (simp only [push_cast, ↓reduceIte, Nat.reduceEqDiff, Nat.reduceAdd, Nat.reduceLeDiff, Int.reduceLE, Int.reduceLT, Int.reduceAdd, Int.reduceSub, Int.reduceNeg, Int.reduceBEq, Int.reduceBNe, Int.reduceEq, Int.reduceGT, Int.reduceGE, Int.reduceMul, Int.reduceToNat, Int.reducePow, Nat.reduceMul, reduceCtorEq, h0, h1, h5, h6, q0, q1, q2, w1, w2, hr, hsz, Int.toNat_natCast] <;> rfl))))
      refine vr_nil (aw_in (aw_then ?_))
      (refine aw_regionL hS (by kernel_rfl) ?_; repeat (first | apply vr0u | apply vr4 | apply b_tt | apply b_ff | apply b_tf | apply b_ft | apply b_no | exact isD.mk rfl | (apply eqG; (simp only [push_cast, ↓reduceIte, Nat.reduceEqDiff, Nat.reduceAdd, Nat.reduceLeDiff, Int.reduceLE, Int.reduceLT, Int.reduceAdd, Int.reduceSub, Int.reduceNeg, Int.reduceBEq, Int.reduceBNe, Int.reduceEq, Int.reduceGT, Int.reduceGE, Int.reduceMul, Int.reduceToNat, Int.reducePow, Nat.reduceMul, reduceCtorEq, h0, h1, h5, h6, q0, q1, q2, w1, w2, hr, hsz, Int.toNat_natCast] <;> rfl))))
      exact vr_nil (aw_then ⟨s.size - (pos + d), by omega, pos + d, c + 1, rfl, hd, by omega, by rw [hc, hstep]; congr 1; omega, by (simp only [push_cast, ↓reduceIte, Nat.reduceEqDiff, Nat.reduceAdd, Nat.reduceLeDiff, Int.reduceLE, Int.reduceLT, Int.reduceAdd, Int.reduceSub, Int.reduceNeg, Int.reduceBEq, Int.reduceBNe, Int.reduceEq, Int.reduceGT, Int.reduceGE, Int.reduceMul, Int.reduceToNat, Int.reducePow, Nat.reduceMul, reduceCtorEq, h0, h1, h5, h6, q0, q1, q2, w1, w2, hr, hsz, Int.toNat_natCast] <;> rfl), by (simp only [push_cast, ↓reduceIte, Nat.reduceEqDiff, Nat.reduceAdd, Nat.reduceLeDiff, Int.reduceLE, Int.reduceLT, Int.reduceAdd, Int.reduceSub, Int.reduceNeg, Int.reduceBEq, Int.reduceBNe, Int.reduceEq, Int.reduceGT, Int.reduceGE, Int.reduceMul, Int.reduceToNat, Int.reducePow, Nat.reduceMul, reduceCtorEq, h0, h1, h5, h6, q0, q1, q2, w1, w2, hr, hsz, Int.toNat_natCast] <;> rfl), by (simp only [push_cast, ↓reduceIte, Nat.reduceEqDiff, Nat.reduceAdd, Nat.reduceLeDiff, Int.reduceLE, Int.reduceLT, Int.reduceAdd, Int.reduceSub, Int.reduceNeg, Int.reduceBEq, Int.reduceBNe, Int.reduceEq, Int.reduceGT, Int.reduceGE, Int.reduceMul, Int.reduceToNat, Int.reducePow, Nat.reduceMul, reduceCtorEq, h0, h1, h5, h6, q0, q1, q2, w1, w2, hr, hsz, Int.toNat_natCast] <;> rfl), by (simp only [push_cast, ↓reduceIte, Nat.reduceEqDiff, Nat.reduceAdd, Nat.reduceLeDiff, Int.reduceLE, Int.reduceLT, Int.reduceAdd, Int.reduceSub, Int.reduceNeg, Int.reduceBEq, Int.reduceBNe, Int.reduceEq, Int.reduceGT, Int.reduceGE, Int.reduceMul, Int.reduceToNat, Int.reducePow, Nat.reduceMul, reduceCtorEq, h0, h1, h5, h6, q0, q1, q2, w1, w2, hr, hsz, Int.toNat_natCast] <;> rfl), hk⟩)
    · have hcut : cutAt s 0 x = pos := by
        rw [hc]
        by_cases hp : pos < s.size
        · rw [cutAt_here hp (by omega)]
        · rw [cutAt_end hp]; omega
      have q2 : (0 ≤ (pos : Int) ∧ (pos : Int) ≤ ((s.size : Nat) : Int)) = True := by simp; omega
      refine AWp.seq ?_
      refine AWp.seq ?_
      (refine aw_regionL hS (by kernel_rfl) ?_; repeat (first | apply vr0u | apply vr4 | apply b_tt | apply b_ff | apply b_tf | apply b_ft | apply b_no | exact isD.mk rfl | (apply eqG; (simp only [push_cast, ↓reduceIte, Nat.reduceEqDiff, Nat.reduceAdd, Nat.reduceLeDiff, Int.reduceLE, Int.reduceLT, Int.reduceAdd, Int.reduceSub, Int.reduceNeg, Int.reduceBEq, Int.reduceBNe, Int.reduceEq, Int.reduceGT, Int.reduceGE, Int.reduceMul, Int.reduceToNat, Int.reducePow, Nat.reduceMul, reduceCtorEq, h0, h1, h5, h6, q2, Int.toNat_natCast] <;> rfl))))
      refine br_s (by (simp only [push_cast, ↓reduceIte, Nat.reduceEqDiff, Nat.reduceAdd, Nat.reduceLeDiff, Int.reduceLE, Int.reduceLT, Int.reduceAdd, Int.reduceSub, Int.reduceNeg, Int.reduceBEq, Int.reduceBNe, Int.reduceEq, Int.reduceGT, Int.reduceGE, Int.reduceMul, Int.reduceToNat, Int.reducePow, Nat.reduceMul, reduceCtorEq, h0, h1, h5, h6, q2, Int.toNat_natCast] <;> rfl)) (fun hu => ?_) (fun hu => ?_)
      · have hu := of_decide_eq_true hu
        have q1 : ((pos : Int) < ((s.size : Nat) : Int)) = False := by simp; omega
        repeat (first | apply vr0u | apply vr4 | apply b_tt | apply b_ff | apply b_tf | apply b_ft | apply b_no | exact isD.mk rfl | (apply eqG; (simp only [push_cast, ↓reduceIte, Nat.reduceEqDiff, Nat.reduceAdd, Nat.reduceLeDiff, Int.reduceLE, Int.reduceLT, Int.reduceAdd, Int.reduceSub, Int.reduceNeg, Int.reduceBEq, Int.reduceBNe, Int.reduceEq, Int.reduceGT, Int.reduceGE, Int.reduceMul, Int.reduceToNat, Int.reducePow, Nat.reduceMul, reduceCtorEq, h0, h1, h5, h6, q1, q2, Int.toNat_natCast] <;> rfl)))
        refine vr_nil (aw_then ?_)
        refine aw_false (by (simp only [push_cast, ↓reduceIte, Nat.reduceEqDiff, Nat.reduceAdd, Nat.reduceLeDiff, Int.reduceLE, Int.reduceLT, Int.reduceAdd, Int.reduceSub, Int.reduceNeg, Int.reduceBEq, Int.reduceBNe, Int.reduceEq, Int.reduceGT, Int.reduceGE, Int.reduceMul, Int.reduceToNat, Int.reducePow, Nat.reduceMul, reduceCtorEq, h0, h1, h5, h6, q1, q2, Int.toNat_natCast] <;> rfl)) (AWp.exit (aw_thru (aw_thru (aw_exit (aw_then ?_)))))
        refine AWp.seq ?_
        (refine aw_regionL hS (by kernel_rfl) ?_; repeat (first | apply vr0u | apply vr4 | apply b_tt | apply b_ff | apply b_tf | apply b_ft | apply b_no | exact isD.mk rfl | (apply eqG; (simp only [push_cast, ↓reduceIte, Nat.reduceEqDiff, Nat.reduceAdd, Nat.reduceLeDiff, Int.reduceLE, Int.reduceLT, Int.reduceAdd, Int.reduceSub, Int.reduceNeg, Int.reduceBEq, Int.reduceBNe, Int.reduceEq, Int.reduceGT, Int.reduceGE, Int.reduceMul, Int.reduceToNat, Int.reducePow, Nat.reduceMul, reduceCtorEq, h0, h1, h5, h6, q1, q2, Int.toNat_natCast] <;> rfl))))
        refine vr_nil (aw_then ?_)
        refine AWp.ret ?_
        exact Out.pure1 (.inr rfl) rfl (by (simp only [push_cast, ↓reduceIte, Nat.reduceEqDiff, Nat.reduceAdd, Nat.reduceLeDiff, Int.reduceLE, Int.reduceLT, Int.reduceAdd, Int.reduceSub, Int.reduceNeg, Int.reduceBEq, Int.reduceBNe, Int.reduceEq, Int.reduceGT, Int.reduceGE, Int.reduceMul, Int.reduceToNat, Int.reducePow, Nat.reduceMul, reduceCtorEq, h0, h1, h5, h6, q1, q2, Int.toNat_natCast] <;> rfl)) (by rw [cutS, hcut]) trivial hk
      · repeat (first | apply vr0u | apply vr4 | apply b_tt | apply b_ff | apply b_tf | apply b_ft | apply b_no | exact isD.mk rfl | (apply eqG; (simp only [push_cast, ↓reduceIte, Nat.reduceEqDiff, Nat.reduceAdd, Nat.reduceLeDiff, Int.reduceLE, Int.reduceLT, Int.reduceAdd, Int.reduceSub, Int.reduceNeg, Int.reduceBEq, Int.reduceBNe, Int.reduceEq, Int.reduceGT, Int.reduceGE, Int.reduceMul, Int.reduceToNat, Int.reducePow, Nat.reduceMul, reduceCtorEq, h0, h1, h5, h6, q2, Int.toNat_natCast] <;> rfl)))
        refine vr_nil (aw_then ?_)
        refine aw_false (by (simp only [push_cast, ↓reduceIte, Nat.reduceEqDiff, Nat.reduceAdd, Nat.reduceLeDiff, Int.reduceLE, Int.reduceLT, Int.reduceAdd, Int.reduceSub, Int.reduceNeg, Int.reduceBEq, Int.reduceBNe, Int.reduceEq, Int.reduceGT, Int.reduceGE, Int.reduceMul, Int.reduceToNat, Int.reducePow, Nat.reduceMul, reduceCtorEq, h0, h1, h5, h6, q2, Int.toNat_natCast] <;> rfl)) (AWp.exit (aw_thru (aw_thru (aw_exit (aw_then ?_)))))
        refine AWp.seq ?_
        (refine aw_regionL hS (by kernel_rfl) ?_; repeat (first | apply vr0u | apply vr4 | apply b_tt | apply b_ff | apply b_tf | apply b_ft | apply b_no | exact isD.mk rfl | (apply eqG; (simp only [push_cast, ↓reduceIte, Nat.reduceEqDiff, Nat.reduceAdd, Nat.reduceLeDiff, Int.reduceLE, Int.reduceLT, Int.reduceAdd, Int.reduceSub, Int.reduceNeg, Int.reduceBEq, Int.reduceBNe, Int.reduceEq, Int.reduceGT, Int.reduceGE, Int.reduceMul, Int.reduceToNat, Int.reducePow, Nat.reduceMul, reduceCtorEq, h0, h1, h5, h6, q2, Int.toNat_natCast] <;> rfl))))
        refine vr_nil (aw_then ?_)
        refine AWp.ret ?_
        exact Out.pure1 (.inr rfl) rfl (by (simp only [push_cast, ↓reduceIte, Nat.reduceEqDiff, Nat.reduceAdd, Nat.reduceLeDiff, Int.reduceLE, Int.reduceLT, Int.reduceAdd, Int.reduceSub, Int.reduceNeg, Int.reduceBEq, Int.reduceBNe, Int.reduceEq, Int.reduceGT, Int.reduceGE, Int.reduceMul, Int.reduceToNat, Int.reducePow, Nat.reduceMul, reduceCtorEq, h0, h1, h5, h6, q2, Int.toNat_natCast] <;> rfl)) (by rw [cutS, hcut]) trivial hk
/-! ### the fold, byte by byte -/
def flB (s : ByteArray) (i : Nat) : List UInt8 := ((bs s).take i).map fold1
theorem flB_step {s : ByteArray} {i : Nat} (hi : i < (bs s).length) : cellsB (flB s i) ++ [.i .u8 (((fold1 (bs s)[i]).toNat : Nat) : Int)] = cellsB (flB s (i + 1)) := by
  have : (bs s).take (i + 1) = (bs s).take i ++ [(bs s)[i]] := by simp
  simp only [flB, cellsB, this, List.map_append, List.map_cons, List.map_nil]
theorem flB_len {s : ByteArray} {i : Nat} (hi : i ≤ s.size) : (cellsB (flB s i)).length = i := by
  have := bs_size s
  simp [flB, cellsB]; omega
theorem byteAt_in {s : ByteArray} {i : Nat} (hi : i < (bs s).length) : byteAt s (i : Int) = (((bs s)[i].toNat : Nat) : Int) := by
  rw [byteAt_bt, bt]; simp [List.getD_eq_getElem?_getD, hi]
theorem c30 (s : ByteArray) (hs : s.size ≤ 5000) (S : Sums) (hS : SumOk Try.prog S) : ∀ h n, DCalls Try.prog 30 [.s s] h n (.s (foldS s)) [] n := by
  intro h n
  refine DCalls.of Try.func30 rfl (by decide) (Nat.le_of_ble_eq_true rfl) (Nat.le_refl _) ?_
  have hlen := bs_size s
  refine AWp.seq ?_
  (refine aw_regionL hS (by kernel_rfl) ?_; repeat (first | apply vr0u | apply vr4 | apply b_tt | apply b_ff | apply b_tf | apply b_ft | apply b_no | exact isD.mk rfl | (apply eqG; (simp only [push_cast, ↓reduceIte, Nat.reduceEqDiff, Nat.reduceAdd, Nat.reduceLeDiff, Int.reduceLE, Int.reduceLT, Int.reduceAdd, Int.reduceSub, Int.reduceNeg, Int.reduceBEq, Int.reduceBNe, Int.reduceEq, Int.reduceGT, Int.reduceGE, Int.reduceMul, Int.reduceToNat, Int.reducePow, Nat.reduceMul, reduceCtorEq] <;> rfl))))
  refine vr_nil (aw_then ?_)
  refine AWp.seq ?_
  (refine aw_regionL hS (by kernel_rfl) ?_; repeat (first | apply vr0u | apply vr4 | apply b_tt | apply b_ff | apply b_tf | apply b_ft | apply b_no | exact isD.mk rfl | (apply eqG; (simp only [push_cast, ↓reduceIte, Nat.reduceEqDiff, Nat.reduceAdd, Nat.reduceLeDiff, Int.reduceLE, Int.reduceLT, Int.reduceAdd, Int.reduceSub, Int.reduceNeg, Int.reduceBEq, Int.reduceBNe, Int.reduceEq, Int.reduceGT, Int.reduceGE, Int.reduceMul, Int.reduceToNat, Int.reducePow, Nat.reduceMul, reduceCtorEq] <;> rfl))))
  refine vr_nil (aw_then ?_)
  refine AWp.seq ?_
  refine AWp.seq ?_
  (refine aw_regionL hS (by kernel_rfl) ?_; repeat (first | apply vr0u | apply vr4 | apply b_tt | apply b_ff | apply b_tf | apply b_ft | apply b_no | exact isD.mk rfl | (apply eqG; (simp only [push_cast, ↓reduceIte, Nat.reduceEqDiff, Nat.reduceAdd, Nat.reduceLeDiff, Int.reduceLE, Int.reduceLT, Int.reduceAdd, Int.reduceSub, Int.reduceNeg, Int.reduceBEq, Int.reduceBNe, Int.reduceEq, Int.reduceGT, Int.reduceGE, Int.reduceMul, Int.reduceToNat, Int.reducePow, Nat.reduceMul, reduceCtorEq] <;> rfl))))
  refine vr_nil (aw_then ?_)
  refine AWp.block ?_
  refine AWp.loop (fun k t' h' n' => ∃ i : Nat, k = s.size - i ∧ i ≤ s.size ∧ t' 0 = .s s ∧ t' 4 = .i .i64 (i : Int) ∧ ((i = 0 ∧ t' 3 = .ro true [] 0) ∨ (0 < i ∧ ∃ j, n ≤ j ∧ j < n' ∧ t' 3 = .sl 1 j 0 i ∧ h' j = some (.cells (cellsB (flB s i))))) ∧ n ≤ n' ∧ ∀ x r, x < n → h x = some r → h' x = some r) s.size ?_ ?_
  · exact ⟨0, rfl, Nat.zero_le _, by (simp only [push_cast, ↓reduceIte, Nat.reduceEqDiff, Nat.reduceAdd, Nat.reduceLeDiff, Int.reduceLE, Int.reduceLT, Int.reduceAdd, Int.reduceSub, Int.reduceNeg, Int.reduceBEq, Int.reduceBNe, Int.reduceEq, Int.reduceGT, Int.reduceGE, Int.reduceMul, Int.reduceToNat, Int.reducePow, Nat.reduceMul, reduceCtorEq] <;> rfl), by (simp only [push_cast, ↓reduceIte, Nat.reduceEqDiff, Nat.reduceAdd, Nat.reduceLeDiff, Int.reduceLE, Int.reduceLT, Int.reduceAdd, Int.reduceSub, Int.reduceNeg, Int.reduceBEq, Int.reduceBNe, Int.reduceEq, Int.reduceGT, Int.reduceGE, Int.reduceMul, Int.reduceToNat, Int.reducePow, Nat.reduceMul, reduceCtorEq] <;> rfl), .inl ⟨rfl, by (simp only [push_cast, ↓reduceIte, Nat.reduceEqDiff, Nat.reduceAdd, Nat.reduceLeDiff, Int.reduceLE, Int.reduceLT, Int.reduceAdd, Int.reduceSub, Int.reduceNeg, Int.reduceBEq, Int.reduceBNe, Int.reduceEq, Int.reduceGT, Int.reduceGE, Int.reduceMul, Int.reduceToNat, Int.reducePow, Nat.reduceMul, reduceCtorEq] <;> rfl)⟩, Nat.le_refl _, keep0⟩
  · rintro m t h' n' - ⟨i, rfl, hil, h0, h4, h3, hnn, hk⟩
    by_cases hi : i < s.size
    · have q1 : ((i : Int) < ((s.size : Nat) : Int)) = True := by simp [hi]
      have q2 : (0 ≤ (i : Int) ∧ (i : Int) < ((s.size : Nat) : Int)) = True := by simp [hi]
      have hib : i < (bs s).length := by omega
      have q3 := byteAt_in hib
      have hst := flB_step hib
      have w1 : IntKind.wrap .i64 ((i : Int) + 1) = (i : Int) + 1 := by rw [IntWalk.i64_in _ (by omega)]
      generalize hbb : (bs s)[i] = b at *
      have hb8 : b.toNat < 256 := b.toNat_lt
      refine AWp.seq ?_
      refine AWp.seq ?_
      (refine aw_regionL hS (by kernel_rfl) ?_; repeat (first | apply vr0u | apply vr4 | apply b_tt | apply b_ff | apply b_tf | apply b_ft | apply b_no | exact isD.mk rfl | (apply eqG; (simp only [push_cast, ↓reduceIte, Nat.reduceEqDiff, Nat.reduceAdd, Nat.reduceLeDiff, Int.reduceLE, Int.reduceLT, Int.reduceAdd, Int.reduceSub, Int.reduceNeg, Int.reduceBEq, Int.reduceBNe, Int.reduceEq, Int.reduceGT, Int.reduceGE, Int.reduceMul, Int.reduceToNat, Int.reducePow, Nat.reduceMul, reduceCtorEq, h0, h4, q1, q2, q3, w1] <;> rfl))))
      refine vr_nil (aw_then ?_)
      refine aw_true (by (simp only [push_cast, ↓reduceIte, Nat.reduceEqDiff, Nat.reduceAdd, Nat.reduceLeDiff, Int.reduceLE, Int.reduceLT, Int.reduceAdd, Int.reduceSub, Int.reduceNeg, Int.reduceBEq, Int.reduceBNe, Int.reduceEq, Int.reduceGT, Int.reduceGE, Int.reduceMul, Int.reduceToNat, Int.reducePow, Nat.reduceMul, reduceCtorEq, h0, h4, q1, q2, q3, w1] <;> rfl)) (AWp.skip (aw_then ?_))
      refine AWp.cut (fun t' h'' n'' => t' 0 = .s s ∧ t' 4 = .i .i64 (i : Int) ∧ (∃ j, n ≤ j ∧ j < n'' ∧ t' 3 = .sl 1 j 0 (i + 1) ∧ h'' j = some (.cells (cellsB (flB s (i + 1))))) ∧ n ≤ n'' ∧ ∀ x r, x < n → h x = some r → h'' x = some r) ?_ ?_
      · refine AWp.block ?_
        refine AWp.seq ?_
        (refine aw_regionL hS (by kernel_rfl) ?_; repeat (first | apply vr0u | apply vr4 | apply b_tt | apply b_ff | apply b_tf | apply b_ft | apply b_no | exact isD.mk rfl | (apply eqG; (simp only [push_cast, ↓reduceIte, Nat.reduceEqDiff, Nat.reduceAdd, Nat.reduceLeDiff, Int.reduceLE, Int.reduceLT, Int.reduceAdd, Int.reduceSub, Int.reduceNeg, Int.reduceBEq, Int.reduceBNe, Int.reduceEq, Int.reduceGT, Int.reduceGE, Int.reduceMul, Int.reduceToNat, Int.reducePow, Nat.reduceMul, reduceCtorEq, h0, h4, q1, q2, q3, w1] <;> rfl))))
        refine vr_nil (aw_then ?_)
        refine AWp.cut (fun t' h'' n'' => t' 0 = .s s ∧ t' 4 = .i .i64 (i : Int) ∧ t' 3 = t 3 ∧ t' 5 = .i .u8 (((fold1 b).toNat : Nat) : Int) ∧ n'' = n' ∧ h'' = h') ?_ ?_
        · refine AWp.seq ?_
          (refine aw_regionL hS (by kernel_rfl) ?_; repeat (first | apply vr0u | apply vr4 | apply b_tt | apply b_ff | apply b_tf | apply b_ft | apply b_no | exact isD.mk rfl | (apply eqG; (simp only [push_cast, ↓reduceIte, Nat.reduceEqDiff, Nat.reduceAdd, Nat.reduceLeDiff, Int.reduceLE, Int.reduceLT, Int.reduceAdd, Int.reduceSub, Int.reduceNeg, Int.reduceBEq, Int.reduceBNe, Int.reduceEq, Int.reduceGT, Int.reduceGE, Int.reduceMul, Int.reduceToNat, Int.reducePow, Nat.reduceMul, reduceCtorEq, h0, h4, q1, q2, q3, w1] <;> rfl))))
          refine br_s (by (simp only [push_cast, ↓reduceIte, Nat.reduceEqDiff, Nat.reduceAdd, Nat.reduceLeDiff, Int.reduceLE, Int.reduceLT, Int.reduceAdd, Int.reduceSub, Int.reduceNeg, Int.reduceBEq, Int.reduceBNe, Int.reduceEq, Int.reduceGT, Int.reduceGE, Int.reduceMul, Int.reduceToNat, Int.reducePow, Nat.reduceMul, reduceCtorEq, h0, h4, q1, q2, q3, w1] <;> rfl)) (fun hu => ?_) (fun hu => ?_)
          · have hge := of_decide_eq_true hu
            repeat (first | apply vr0u | apply vr4 | apply b_tt | apply b_ff | apply b_tf | apply b_ft | apply b_no | exact isD.mk rfl | (apply eqG; (simp only [push_cast, ↓reduceIte, Nat.reduceEqDiff, Nat.reduceAdd, Nat.reduceLeDiff, Int.reduceLE, Int.reduceLT, Int.reduceAdd, Int.reduceSub, Int.reduceNeg, Int.reduceBEq, Int.reduceBNe, Int.reduceEq, Int.reduceGT, Int.reduceGE, Int.reduceMul, Int.reduceToNat, Int.reducePow, Nat.reduceMul, reduceCtorEq, h0, h4, q1, q2, q3, w1] <;> rfl)))
            refine vr_nil (aw_then ?_)
            refine aw_split (by (simp only [push_cast, ↓reduceIte, Nat.reduceEqDiff, Nat.reduceAdd, Nat.reduceLeDiff, Int.reduceLE, Int.reduceLT, Int.reduceAdd, Int.reduceSub, Int.reduceNeg, Int.reduceBEq, Int.reduceBNe, Int.reduceEq, Int.reduceGT, Int.reduceGE, Int.reduceMul, Int.reduceToNat, Int.reducePow, Nat.reduceMul, reduceCtorEq, h0, h4, q1, q2, q3, w1] <;> rfl)) (fun hv => ?_) (fun hv => ?_)
            · have hle := of_decide_eq_true hv
              have w2 : IntKind.wrap .u8 ((b.toNat : Int) + 32) = ((fold1 b).toNat : Int) := by rw [IntWalk.u8_in _ (by omega), fold1_up (by omega)]
              (refine aw_regionL hS (by kernel_rfl) ?_; repeat (first | apply vr0u | apply vr4 | apply b_tt | apply b_ff | apply b_tf | apply b_ft | apply b_no | exact isD.mk rfl | (apply eqG; (simp only [push_cast, ↓reduceIte, Nat.reduceEqDiff, Nat.reduceAdd, Nat.reduceLeDiff, Int.reduceLE, Int.reduceLT, Int.reduceAdd, Int.reduceSub, Int.reduceNeg, Int.reduceBEq, Int.reduceBNe, Int.reduceEq, Int.reduceGT, Int.reduceGE, Int.reduceMul, Int.reduceToNat, Int.reducePow, Nat.reduceMul, reduceCtorEq, h0, h4, q1, q2, q3, w1, w2] <;> rfl))))
              exact vr_nil (aw_then ⟨by (simp only [push_cast, ↓reduceIte, Nat.reduceEqDiff, Nat.reduceAdd, Nat.reduceLeDiff, Int.reduceLE, Int.reduceLT, Int.reduceAdd, Int.reduceSub, Int.reduceNeg, Int.reduceBEq, Int.reduceBNe, Int.reduceEq, Int.reduceGT, Int.reduceGE, Int.reduceMul, Int.reduceToNat, Int.reducePow, Nat.reduceMul, reduceCtorEq, h0, h4, q1, q2, q3, w1, w2] <;> rfl), by (simp only [push_cast, ↓reduceIte, Nat.reduceEqDiff, Nat.reduceAdd, Nat.reduceLeDiff, Int.reduceLE, Int.reduceLT, Int.reduceAdd, Int.reduceSub, Int.reduceNeg, Int.reduceBEq, Int.reduceBNe, Int.reduceEq, Int.reduceGT, Int.reduceGE, Int.reduceMul, Int.reduceToNat, Int.reducePow, Nat.reduceMul, reduceCtorEq, h0, h4, q1, q2, q3, w1, w2] <;> rfl), by (simp only [push_cast, ↓reduceIte, Nat.reduceEqDiff, Nat.reduceAdd, Nat.reduceLeDiff, Int.reduceLE, Int.reduceLT, Int.reduceAdd, Int.reduceSub, Int.reduceNeg, Int.reduceBEq, Int.reduceBNe, Int.reduceEq, Int.reduceGT, Int.reduceGE, Int.reduceMul, Int.reduceToNat, Int.reducePow, Nat.reduceMul, reduceCtorEq, h0, h4, q1, q2, q3, w1, w2] <;> rfl), by (simp only [push_cast, ↓reduceIte, Nat.reduceEqDiff, Nat.reduceAdd, Nat.reduceLeDiff, Int.reduceLE, Int.reduceLT, Int.reduceAdd, Int.reduceSub, Int.reduceNeg, Int.reduceBEq, Int.reduceBNe, Int.reduceEq, Int.reduceGT, Int.reduceGE, Int.reduceMul, Int.reduceToNat, Int.reducePow, Nat.reduceMul, reduceCtorEq, h0, h4, q1, q2, q3, w1, w2] <;> rfl), rfl, rfl⟩)
            · have hle := of_decide_eq_false hv
              have q5 : fold1 b = b := fold1_no (by omega)
              exact AWp.skip (aw_then ⟨by (simp only [push_cast, ↓reduceIte, Nat.reduceEqDiff, Nat.reduceAdd, Nat.reduceLeDiff, Int.reduceLE, Int.reduceLT, Int.reduceAdd, Int.reduceSub, Int.reduceNeg, Int.reduceBEq, Int.reduceBNe, Int.reduceEq, Int.reduceGT, Int.reduceGE, Int.reduceMul, Int.reduceToNat, Int.reducePow, Nat.reduceMul, reduceCtorEq, h0, h4, q1, q2, q3, w1] <;> rfl), by (simp only [push_cast, ↓reduceIte, Nat.reduceEqDiff, Nat.reduceAdd, Nat.reduceLeDiff, Int.reduceLE, Int.reduceLT, Int.reduceAdd, Int.reduceSub, Int.reduceNeg, Int.reduceBEq, Int.reduceBNe, Int.reduceEq, Int.reduceGT, Int.reduceGE, Int.reduceMul, Int.reduceToNat, Int.reducePow, Nat.reduceMul, reduceCtorEq, h0, h4, q1, q2, q3, w1] <;> rfl), by (simp only [push_cast, ↓reduceIte, Nat.reduceEqDiff, Nat.reduceAdd, Nat.reduceLeDiff, Int.reduceLE, Int.reduceLT, Int.reduceAdd, Int.reduceSub, Int.reduceNeg, Int.reduceBEq, Int.reduceBNe, Int.reduceEq, Int.reduceGT, Int.reduceGE, Int.reduceMul, Int.reduceToNat, Int.reducePow, Nat.reduceMul, reduceCtorEq, h0, h4, q1, q2, q3, w1] <;> rfl), by rw [q5]; (simp only [push_cast, ↓reduceIte, Nat.reduceEqDiff, Nat.reduceAdd, Nat.reduceLeDiff, Int.reduceLE, Int.reduceLT, Int.reduceAdd, Int.reduceSub, Int.reduceNeg, Int.reduceBEq, Int.reduceBNe, Int.reduceEq, Int.reduceGT, Int.reduceGE, Int.reduceMul, Int.reduceToNat, Int.reducePow, Nat.reduceMul, reduceCtorEq, h0, h4, q1, q2, q3, w1] <;> rfl), rfl, rfl⟩)
          · have hge := of_decide_eq_false hu
            have q5 : fold1 b = b := fold1_no (by omega)
            repeat (first | apply vr0u | apply vr4 | apply b_tt | apply b_ff | apply b_tf | apply b_ft | apply b_no | exact isD.mk rfl | (apply eqG; (simp only [push_cast, ↓reduceIte, Nat.reduceEqDiff, Nat.reduceAdd, Nat.reduceLeDiff, Int.reduceLE, Int.reduceLT, Int.reduceAdd, Int.reduceSub, Int.reduceNeg, Int.reduceBEq, Int.reduceBNe, Int.reduceEq, Int.reduceGT, Int.reduceGE, Int.reduceMul, Int.reduceToNat, Int.reducePow, Nat.reduceMul, reduceCtorEq, h0, h4, q1, q2, q3, w1] <;> rfl)))
            refine vr_nil (aw_then ?_)
            exact aw_false (by (simp only [push_cast, ↓reduceIte, Nat.reduceEqDiff, Nat.reduceAdd, Nat.reduceLeDiff, Int.reduceLE, Int.reduceLT, Int.reduceAdd, Int.reduceSub, Int.reduceNeg, Int.reduceBEq, Int.reduceBNe, Int.reduceEq, Int.reduceGT, Int.reduceGE, Int.reduceMul, Int.reduceToNat, Int.reducePow, Nat.reduceMul, reduceCtorEq, h0, h4, q1, q2, q3, w1] <;> rfl)) (AWp.skip (aw_then ⟨by (simp only [push_cast, ↓reduceIte, Nat.reduceEqDiff, Nat.reduceAdd, Nat.reduceLeDiff, Int.reduceLE, Int.reduceLT, Int.reduceAdd, Int.reduceSub, Int.reduceNeg, Int.reduceBEq, Int.reduceBNe, Int.reduceEq, Int.reduceGT, Int.reduceGE, Int.reduceMul, Int.reduceToNat, Int.reducePow, Nat.reduceMul, reduceCtorEq, h0, h4, q1, q2, q3, w1] <;> rfl), by (simp only [push_cast, ↓reduceIte, Nat.reduceEqDiff, Nat.reduceAdd, Nat.reduceLeDiff, Int.reduceLE, Int.reduceLT, Int.reduceAdd, Int.reduceSub, Int.reduceNeg, Int.reduceBEq, Int.reduceBNe, Int.reduceEq, Int.reduceGT, Int.reduceGE, Int.reduceMul, Int.reduceToNat, Int.reducePow, Nat.reduceMul, reduceCtorEq, h0, h4, q1, q2, q3, w1] <;> rfl), by (simp only [push_cast, ↓reduceIte, Nat.reduceEqDiff, Nat.reduceAdd, Nat.reduceLeDiff, Int.reduceLE, Int.reduceLT, Int.reduceAdd, Int.reduceSub, Int.reduceNeg, Int.reduceBEq, Int.reduceBNe, Int.reduceEq, Int.reduceGT, Int.reduceGE, Int.reduceMul, Int.reduceToNat, Int.reducePow, Nat.reduceMul, reduceCtorEq, h0, h4, q1, q2, q3, w1] <;> rfl), by rw [q5]; (simp only [push_cast, ↓reduceIte, Nat.reduceEqDiff, Nat.reduceAdd, Nat.reduceLeDiff, Int.reduceLE, Int.reduceLT, Int.reduceAdd, Int.reduceSub, Int.reduceNeg, Int.reduceBEq, Int.reduceBNe, Int.reduceEq, Int.reduceGT, Int.reduceGE, Int.reduceMul, Int.reduceToNat, Int.reducePow, Nat.reduceMul, reduceCtorEq, h0, h4, q1, q2, q3, w1] <;> rfl), rfl, rfl⟩))
        · rintro t1 h1 n1 - ⟨g0, g4, g3, g5, rfl, rfl⟩
          have r1' : rep 1 [AV.i .u8 0] = [AV.i .u8 0] := rfl
          rcases h3 with ⟨hi0, h3⟩ | ⟨hi0, j, hj1, hj2, h3, hrow⟩
          · rw [h3] at g3
            subst hi0
            have hst : [AV.i .u8 (((fold1 b).toNat : Nat) : Int)] = cellsB (flB s (0 + 1)) := hst
            (refine aw_regionL hS (by kernel_rfl) ?_; repeat (first | apply vr0u | apply vr4 | apply b_tt | apply b_ff | apply b_tf | apply b_ft | apply b_no | exact isD.mk rfl | (apply eqG; (simp only [push_cast, ↓reduceIte, Nat.reduceEqDiff, Nat.reduceAdd, Nat.reduceLeDiff, Int.reduceLE, Int.reduceLT, Int.reduceAdd, Int.reduceSub, Int.reduceNeg, Int.reduceBEq, Int.reduceBNe, Int.reduceEq, Int.reduceGT, Int.reduceGE, Int.reduceMul, Int.reduceToNat, Int.reducePow, Nat.reduceMul, reduceCtorEq, g0, g3, g4, g5, r1', w1, Nat.reduceLT] <;> rfl))))
            exact vr_nil (aw_in (aw_then ⟨by (simp only [push_cast, ↓reduceIte, Nat.reduceEqDiff, Nat.reduceAdd, Nat.reduceLeDiff, Int.reduceLE, Int.reduceLT, Int.reduceAdd, Int.reduceSub, Int.reduceNeg, Int.reduceBEq, Int.reduceBNe, Int.reduceEq, Int.reduceGT, Int.reduceGE, Int.reduceMul, Int.reduceToNat, Int.reducePow, Nat.reduceMul, reduceCtorEq, g0, g3, g4, g5, r1', w1, Nat.reduceLT] <;> rfl), by (simp only [push_cast, ↓reduceIte, Nat.reduceEqDiff, Nat.reduceAdd, Nat.reduceLeDiff, Int.reduceLE, Int.reduceLT, Int.reduceAdd, Int.reduceSub, Int.reduceNeg, Int.reduceBEq, Int.reduceBNe, Int.reduceEq, Int.reduceGT, Int.reduceGE, Int.reduceMul, Int.reduceToNat, Int.reducePow, Nat.reduceMul, reduceCtorEq, g0, g3, g4, g5, r1', w1, Nat.reduceLT] <;> rfl), ⟨n1 + 1, by omega, by omega, by (simp only [push_cast, ↓reduceIte, Nat.reduceEqDiff, Nat.reduceAdd, Nat.reduceLeDiff, Int.reduceLE, Int.reduceLT, Int.reduceAdd, Int.reduceSub, Int.reduceNeg, Int.reduceBEq, Int.reduceBNe, Int.reduceEq, Int.reduceGT, Int.reduceGE, Int.reduceMul, Int.reduceToNat, Int.reducePow, Nat.reduceMul, reduceCtorEq, g0, g3, g4, g5, r1', w1, Nat.reduceLT] <;> rfl), by rw [← hst]; (simp only [push_cast, ↓reduceIte, Nat.reduceEqDiff, Nat.reduceAdd, Nat.reduceLeDiff, Int.reduceLE, Int.reduceLT, Int.reduceAdd, Int.reduceSub, Int.reduceNeg, Int.reduceBEq, Int.reduceBNe, Int.reduceEq, Int.reduceGT, Int.reduceGE, Int.reduceMul, Int.reduceToNat, Int.reducePow, Nat.reduceMul, reduceCtorEq, g0, g3, g4, g5, r1', w1, Nat.reduceLT] <;> rfl)⟩, by omega, keepU (by omega) (keepU (by omega) hk)⟩))
          · rw [h3] at g3
            have u1 : ∀ (r : Option Row), upd h1 n1 r j = h1 j := fun r => upd_ne _ _ (by omega)
            have qa : ((cellsB (flB s i)).length = i) = True := by simp [flB_len hil]
            have qb : (i + 1 ≤ 140737488355328) = True := by simp; omega
            have qc : (i + 1 ≤ 9223372036854775807) = True := by simp; omega
            (refine aw_regionL hS (by kernel_rfl) ?_; repeat (first | apply vr0u | apply vr4 | apply b_tt | apply b_ff | apply b_tf | apply b_ft | apply b_no | exact isD.mk rfl | (apply eqG; (simp only [push_cast, ↓reduceIte, Nat.reduceEqDiff, Nat.reduceAdd, Nat.reduceLeDiff, Int.reduceLE, Int.reduceLT, Int.reduceAdd, Int.reduceSub, Int.reduceNeg, Int.reduceBEq, Int.reduceBNe, Int.reduceEq, Int.reduceGT, Int.reduceGE, Int.reduceMul, Int.reduceToNat, Int.reducePow, Nat.reduceMul, reduceCtorEq, g0, g3, g4, g5, r1', w1, hst, hrow, u1, qa, qb, qc, Nat.reduceLT] <;> rfl))))
            exact vr_nil (aw_in (aw_then ⟨by (simp only [push_cast, ↓reduceIte, Nat.reduceEqDiff, Nat.reduceAdd, Nat.reduceLeDiff, Int.reduceLE, Int.reduceLT, Int.reduceAdd, Int.reduceSub, Int.reduceNeg, Int.reduceBEq, Int.reduceBNe, Int.reduceEq, Int.reduceGT, Int.reduceGE, Int.reduceMul, Int.reduceToNat, Int.reducePow, Nat.reduceMul, reduceCtorEq, g0, g3, g4, g5, r1', w1, hst, hrow, u1, qa, qb, qc, Nat.reduceLT] <;> rfl), by (simp only [push_cast, ↓reduceIte, Nat.reduceEqDiff, Nat.reduceAdd, Nat.reduceLeDiff, Int.reduceLE, Int.reduceLT, Int.reduceAdd, Int.reduceSub, Int.reduceNeg, Int.reduceBEq, Int.reduceBNe, Int.reduceEq, Int.reduceGT, Int.reduceGE, Int.reduceMul, Int.reduceToNat, Int.reducePow, Nat.reduceMul, reduceCtorEq, g0, g3, g4, g5, r1', w1, hst, hrow, u1, qa, qb, qc, Nat.reduceLT] <;> rfl), ⟨n1 + 1, by omega, by omega, by (simp only [push_cast, ↓reduceIte, Nat.reduceEqDiff, Nat.reduceAdd, Nat.reduceLeDiff, Int.reduceLE, Int.reduceLT, Int.reduceAdd, Int.reduceSub, Int.reduceNeg, Int.reduceBEq, Int.reduceBNe, Int.reduceEq, Int.reduceGT, Int.reduceGE, Int.reduceMul, Int.reduceToNat, Int.reducePow, Nat.reduceMul, reduceCtorEq, g0, g3, g4, g5, r1', w1, hst, hrow, u1, qa, qb, qc, Nat.reduceLT] <;> rfl), by (simp only [push_cast, ↓reduceIte, Nat.reduceEqDiff, Nat.reduceAdd, Nat.reduceLeDiff, Int.reduceLE, Int.reduceLT, Int.reduceAdd, Int.reduceSub, Int.reduceNeg, Int.reduceBEq, Int.reduceBNe, Int.reduceEq, Int.reduceGT, Int.reduceGE, Int.reduceMul, Int.reduceToNat, Int.reducePow, Nat.reduceMul, reduceCtorEq, g0, g3, g4, g5, r1', w1, hst, hrow, u1, qa, qb, qc, Nat.reduceLT] <;> rfl)⟩, by omega, keepU (by omega) (keepU (by omega) (keepU (by omega) hk))⟩))
      · rintro t1 h1 n1 - ⟨g0, g4, ⟨j, hj1, hj2, g3, hrow⟩, hnn1, hk1⟩
        (refine aw_regionL hS (by kernel_rfl) ?_; repeat (first | apply vr0u | apply vr4 | apply b_tt | apply b_ff | apply b_tf | apply b_ft | apply b_no | exact isD.mk rfl | (apply eqG; (simp only [push_cast, ↓reduceIte, Nat.reduceEqDiff, Nat.reduceAdd, Nat.reduceLeDiff, Int.reduceLE, Int.reduceLT, Int.reduceAdd, Int.reduceSub, Int.reduceNeg, Int.reduceBEq, Int.reduceBNe, Int.reduceEq, Int.reduceGT, Int.reduceGE, Int.reduceMul, Int.reduceToNat, Int.reducePow, Nat.reduceMul, reduceCtorEq, g0, g3, g4, w1] <;> rfl))))
        exact vr_nil (aw_then ⟨s.size - (i + 1), by omega, i + 1, rfl, hi, by (simp only [push_cast, ↓reduceIte, Nat.reduceEqDiff, Nat.reduceAdd, Nat.reduceLeDiff, Int.reduceLE, Int.reduceLT, Int.reduceAdd, Int.reduceSub, Int.reduceNeg, Int.reduceBEq, Int.reduceBNe, Int.reduceEq, Int.reduceGT, Int.reduceGE, Int.reduceMul, Int.reduceToNat, Int.reducePow, Nat.reduceMul, reduceCtorEq, g0, g3, g4, w1] <;> rfl), by (simp only [push_cast, ↓reduceIte, Nat.reduceEqDiff, Nat.reduceAdd, Nat.reduceLeDiff, Int.reduceLE, Int.reduceLT, Int.reduceAdd, Int.reduceSub, Int.reduceNeg, Int.reduceBEq, Int.reduceBNe, Int.reduceEq, Int.reduceGT, Int.reduceGE, Int.reduceMul, Int.reduceToNat, Int.reducePow, Nat.reduceMul, reduceCtorEq, g0, g3, g4, w1] <;> rfl), .inr ⟨by omega, j, hj1, hj2, by (simp only [push_cast, ↓reduceIte, Nat.reduceEqDiff, Nat.reduceAdd, Nat.reduceLeDiff, Int.reduceLE, Int.reduceLT, Int.reduceAdd, Int.reduceSub, Int.reduceNeg, Int.reduceBEq, Int.reduceBNe, Int.reduceEq, Int.reduceGT, Int.reduceGE, Int.reduceMul, Int.reduceToNat, Int.reducePow, Nat.reduceMul, reduceCtorEq, g0, g3, g4, w1] <;> rfl), hrow⟩, hnn1, hk1⟩)
    · have hie : i = s.size := by omega
      have q1 : ((i : Int) < ((s.size : Nat) : Int)) = False := by simp; omega
      refine AWp.seq ?_
      refine AWp.seq ?_
      (refine aw_regionL hS (by kernel_rfl) ?_; repeat (first | apply vr0u | apply vr4 | apply b_tt | apply b_ff | apply b_tf | apply b_ft | apply b_no | exact isD.mk rfl | (apply eqG; (simp only [push_cast, ↓reduceIte, Nat.reduceEqDiff, Nat.reduceAdd, Nat.reduceLeDiff, Int.reduceLE, Int.reduceLT, Int.reduceAdd, Int.reduceSub, Int.reduceNeg, Int.reduceBEq, Int.reduceBNe, Int.reduceEq, Int.reduceGT, Int.reduceGE, Int.reduceMul, Int.reduceToNat, Int.reducePow, Nat.reduceMul, reduceCtorEq, h0, h4, q1] <;> rfl))))
      refine vr_nil (aw_then ?_)
      refine aw_false (by (simp only [push_cast, ↓reduceIte, Nat.reduceEqDiff, Nat.reduceAdd, Nat.reduceLeDiff, Int.reduceLE, Int.reduceLT, Int.reduceAdd, Int.reduceSub, Int.reduceNeg, Int.reduceBEq, Int.reduceBNe, Int.reduceEq, Int.reduceGT, Int.reduceGE, Int.reduceMul, Int.reduceToNat, Int.reducePow, Nat.reduceMul, reduceCtorEq, h0, h4, q1] <;> rfl)) (AWp.exit (aw_thru (aw_thru (aw_exit (aw_then ?_)))))
      rcases h3 with ⟨hi0, h3⟩ | ⟨hi0, j, hj1, hj2, h3, hrow⟩
      · have hz : foldS s = { data := #[] } := by
          apply bs_inj
          have : bs s = [] := List.length_eq_zero_iff.1 (by omega)
          rw [bs_fold, this]; rfl
        refine AWp.seq ?_
        (refine aw_regionL hS (by kernel_rfl) ?_; repeat (first | apply vr0u | apply vr4 | apply b_tt | apply b_ff | apply b_tf | apply b_ft | apply b_no | exact isD.mk rfl | (apply eqG; (simp only [push_cast, ↓reduceIte, Nat.reduceEqDiff, Nat.reduceAdd, Nat.reduceLeDiff, Int.reduceLE, Int.reduceLT, Int.reduceAdd, Int.reduceSub, Int.reduceNeg, Int.reduceBEq, Int.reduceBNe, Int.reduceEq, Int.reduceGT, Int.reduceGE, Int.reduceMul, Int.reduceToNat, Int.reducePow, Nat.reduceMul, reduceCtorEq, h0, h3, h4, unbytes] <;> rfl))))
        refine vr_nil (aw_then ?_)
        refine AWp.ret ?_
        exact Out.pure1 (.inr rfl) rfl (by (simp only [push_cast, ↓reduceIte, Nat.reduceEqDiff, Nat.reduceAdd, Nat.reduceLeDiff, Int.reduceLE, Int.reduceLT, Int.reduceAdd, Int.reduceSub, Int.reduceNeg, Int.reduceBEq, Int.reduceBNe, Int.reduceEq, Int.reduceGT, Int.reduceGE, Int.reduceMul, Int.reduceToNat, Int.reducePow, Nat.reduceMul, reduceCtorEq, h0, h3, h4, unbytes] <;> rfl)) (by rw [hz]) trivial hk
      · have q5 : (cellsB (flB s i)).take i = cellsB (flB s i) := List.take_of_length_le (by rw [flB_len hil]; exact Nat.le_refl _)
        have q6 := unbytes_cells (flB s i)
        have q7 : (i ≤ (cellsB (flB s i)).length) = True := by simp [flB_len hil]
        have hz : foldS s = { data := (flB s i).toArray } := by
          apply bs_inj
          rw [bs_fold]
          show _ = (flB s i).toArray.toList
          rw [flB, List.take_of_length_le (by omega)]
        refine AWp.seq ?_
        (refine aw_regionL hS (by kernel_rfl) ?_; repeat (first | apply vr0u | apply vr4 | apply b_tt | apply b_ff | apply b_tf | apply b_ft | apply b_no | exact isD.mk rfl | (apply eqG; (simp only [push_cast, ↓reduceIte, Nat.reduceEqDiff, Nat.reduceAdd, Nat.reduceLeDiff, Int.reduceLE, Int.reduceLT, Int.reduceAdd, Int.reduceSub, Int.reduceNeg, Int.reduceBEq, Int.reduceBNe, Int.reduceEq, Int.reduceGT, Int.reduceGE, Int.reduceMul, Int.reduceToNat, Int.reducePow, Nat.reduceMul, reduceCtorEq, h0, h3, h4, hrow, q5, q6, q7, Nat.zero_add] <;> rfl))))
        refine vr_nil (aw_then ?_)
        refine AWp.ret ?_
        exact Out.pure1 (.inr rfl) rfl (by (simp only [push_cast, ↓reduceIte, Nat.reduceEqDiff, Nat.reduceAdd, Nat.reduceLeDiff, Int.reduceLE, Int.reduceLT, Int.reduceAdd, Int.reduceSub, Int.reduceNeg, Int.reduceBEq, Int.reduceBNe, Int.reduceEq, Int.reduceGT, Int.reduceGE, Int.reduceMul, Int.reduceToNat, Int.reducePow, Nat.reduceMul, reduceCtorEq, h0, h3, h4, hrow, q5, q6, q7, Nat.zero_add] <;> rfl)) (by rw [hz]) trivial hk
end Go.Proofs.Ytpgohmcolcfhfaa
