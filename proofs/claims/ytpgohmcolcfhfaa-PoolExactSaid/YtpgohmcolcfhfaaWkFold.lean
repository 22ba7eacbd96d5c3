import Derived.Test.YtpgohmcolcfhfaaWkRunes

namespace Go.Proofs.Ytpgohmcolcfhfaa
open Go.Av
set_option maxRecDepth 100000
set_option maxHeartbeats 1000000
set_option linter.unusedSimpArgs false
set_option linter.unusedVariables false
theorem kiT_51 : kiT Try.prog 51 = some .other := by kernel_rfl
theorem kiT_5 : kiT Try.prog 5 = some (.int .u8) := by kernel_rfl
theorem und_51 : Try.prog.underlying 51 = some (.slice 5) := by kernel_rfl
theorem slT_51 : slT Try.prog 51 = some (5, 1, 1) := by kernel_rfl
theorem agT_5 : agT Try.prog 5 = some false := by kernel_rfl
theorem szT_5 : szT Try.prog 5 = some 1 := by kernel_rfl
attribute [local push_cast] stepE callR resE aeff aev ofC ofC1 put_at Av.put_none inTmps List.getD_cons_zero List.getD_cons_succ AV.boxable if_true if_false AV.cells aload place app_cons app_nil upd_same Av.part abin aconv aindexAddr fillA splice_one splice_two abuiltin alen amax amin aun aindex Option.map_some List.map_cons List.map_nil List.nil_append List.append_nil List.cons_append Nat.le_refl Nat.zero_add List.length_cons List.length_nil List.drop_succ_cons List.drop_zero List.take_succ_cons List.take_zero beq_self_eq_true bne_self_eq_false Bool.not_true Bool.not_false List.set_cons_zero List.set_cons_succ Bool.false_eq_true IntWalk.i64_in decide_true decide_false Int.toNat_zero and_self and_true true_and List.getElem?_cons_zero List.getElem?_cons_succ agT_26 szT_26 slT_24 agT_24 szT_24 flT_26_0 flT_26_1 flT_26_3 flT_26_2 agT_22 szT_22 arT_22 agT_3 szT_3 kiT_3 kiT_23 kiT_4 zeT_26 buT_26 zeT_22 buT_22 kiT_9 kiT_51 kiT_5 und_51 slT_51 agT_5 szT_5 aappend aapp view slT_24 zeT_3 byT_24 Bool.and_true Bool.true_and Nat.mul_one alen
def fold1 (b : UInt8) : UInt8 := if 65 ≤ b.toNat ∧ b.toNat ≤ 90 then b + 32 else b
theorem fold1_up {b : UInt8} (h : 65 ≤ b.toNat ∧ b.toNat ≤ 90) : ((fold1 b).toNat : Int) = (b.toNat : Int) + 32 := by
  rw [fold1, if_pos h, UInt8.toNat_add]
  have : (32 : UInt8).toNat = 32 := rfl
  omega
theorem fold1_no {b : UInt8} (h : ¬ (65 ≤ b.toNat ∧ b.toNat ≤ 90)) : fold1 b = b := by rw [fold1, if_neg h]
/-- Folded up to here. -/
def mixB (bs : List UInt8) (i : Nat) : List UInt8 := bs.mapIdx fun k b => if k < i then fold1 b else b
def cellsB (bs : List UInt8) : List AV := bs.map fun b => .i .u8 (b.toNat : Int)
theorem mixB_0 (bs : List UInt8) : mixB bs 0 = bs := by
  apply List.ext_getElem?
  intro k
  simp only [mixB, List.getElem?_mapIdx]
  cases bs[k]? <;> simp
theorem mixB_len (bs : List UInt8) (i : Nat) : (cellsB (mixB bs i)).length = bs.length := by simp [cellsB, mixB]
theorem mixB_all (bs : List UInt8) : mixB bs bs.length = bs.map fold1 := by
  apply List.ext_getElem?
  intro k
  simp only [mixB, List.getElem?_mapIdx, List.getElem?_map]
  cases hk : bs[k]? with
  | none => rfl
  | some b =>
    have hlt : k < bs.length := by
      rcases Nat.lt_or_ge k bs.length with h | h
      · exact h
      · rw [List.getElem?_eq_none h] at hk; cases hk
    simp [hlt]
theorem mixB_get {bs : List UInt8} {i : Nat} (hi : i < bs.length) : (cellsB (mixB bs i))[i]? = some (.i .u8 (bs[i].toNat : Int)) := by
  simp [cellsB, mixB, List.getElem?_mapIdx, hi]
theorem mixB_set {bs : List UInt8} {i : Nat} (hi : i < bs.length) : (cellsB (mixB bs i)).set i (.i .u8 ((fold1 bs[i]).toNat : Int)) = cellsB (mixB bs (i + 1)) := by
  apply List.ext_getElem?
  intro k
  by_cases hk : k = i
  · subst hk
    simp [cellsB, mixB, List.getElem?_mapIdx, hi]
  · rw [List.getElem?_set_ne (Ne.symm hk)]
    simp only [cellsB, mixB, List.getElem?_map, List.getElem?_mapIdx]
    cases hb : bs[k]? with
    | none => rfl
    | some b =>
      have : (k < i) ↔ (k < i + 1) := by omega
      simp [this]
theorem mixB_same {bs : List UInt8} {i : Nat} (hi : i < bs.length) (h : ¬ (65 ≤ bs[i].toNat ∧ bs[i].toNat ≤ 90)) : cellsB (mixB bs i) = cellsB (mixB bs (i + 1)) := by
  rw [← mixB_set hi, fold1_no h]
  apply List.ext_getElem?
  intro k
  by_cases hk : k = i
  · subst hk
    simp [cellsB, mixB, List.getElem?_mapIdx, hi]
  · rw [List.getElem?_set_ne (Ne.symm hk)]
theorem unbytes_cells : ∀ bs : List UInt8, unbytes (cellsB bs) = some bs
  | [] => rfl
  | b :: bs => by
    have := unbytes_cells bs
    simp only [cellsB, List.map_cons, unbytes] at this ⊢
    rw [this]
    simp
def foldS (s : ByteArray) : ByteArray := ⟨(s.data.toList.map fold1).toArray⟩
theorem bytesA_cells (s : ByteArray) : bytesA s = cellsB s.data.toList := rfl
theorem c26 (s : ByteArray) (hs : s.size ≤ 9223372036854775807) (S : Sums) (hS : SumOk Try.prog S) : ∀ h n, DCalls Try.prog 26 [.s s] h n (.s (foldS s)) [] n := by
  intro h n
  refine DCalls.of Try.func26 rfl (by decide) (Nat.le_of_ble_eq_true rfl) (Nat.le_refl _) ?_
  have hsz : s.data.toList.length = s.size := rfl
  have q0 : (s.size ≤ 9223372036854775807) = True := by simp [hs]
  refine AWp.seq ?_
  (refine aw_regionL hS (by kernel_rfl) ?_; repeat (first | apply vr0u | apply vr4 | apply b_tt | apply b_ff | apply b_tf | apply b_ft | apply b_no | exact isD.mk rfl | (apply eqG; (simp only [push_cast, ↓reduceIte, Nat.reduceEqDiff, Nat.reduceAdd, Nat.reduceLeDiff, Int.reduceLE, Int.reduceLT, Int.reduceAdd, Int.reduceSub, Int.reduceNeg, Int.reduceBEq, Int.reduceBNe, Int.reduceEq, Int.reduceGT, Int.reduceGE, Int.reduceMul, Int.reduceToNat, Nat.reduceMul, reduceCtorEq, q0] <;> rfl))))
  refine vr_nil (aw_then ?_)
  refine AWp.seq ?_
  (refine aw_regionL hS (by kernel_rfl) ?_; repeat (first | apply vr0u | apply vr4 | apply b_tt | apply b_ff | apply b_tf | apply b_ft | apply b_no | exact isD.mk rfl | (apply eqG; (simp only [push_cast, ↓reduceIte, Nat.reduceEqDiff, Nat.reduceAdd, Nat.reduceLeDiff, Int.reduceLE, Int.reduceLT, Int.reduceAdd, Int.reduceSub, Int.reduceNeg, Int.reduceBEq, Int.reduceBNe, Int.reduceEq, Int.reduceGT, Int.reduceGE, Int.reduceMul, Int.reduceToNat, Nat.reduceMul, reduceCtorEq, q0] <;> rfl))))
  refine vr_nil (aw_then ?_)
  refine AWp.seq ?_
  refine AWp.seq ?_
  (refine aw_regionL hS (by kernel_rfl) ?_; repeat (first | apply vr0u | apply vr4 | apply b_tt | apply b_ff | apply b_tf | apply b_ft | apply b_no | exact isD.mk rfl | (apply eqG; (simp only [push_cast, ↓reduceIte, Nat.reduceEqDiff, Nat.reduceAdd, Nat.reduceLeDiff, Int.reduceLE, Int.reduceLT, Int.reduceAdd, Int.reduceSub, Int.reduceNeg, Int.reduceBEq, Int.reduceBNe, Int.reduceEq, Int.reduceGT, Int.reduceGE, Int.reduceMul, Int.reduceToNat, Nat.reduceMul, reduceCtorEq, q0] <;> rfl))))
  refine vr_nil (aw_then ?_)
  refine AWp.block ?_
  refine AWp.loop (fun k t' h' n' => ∃ i : Nat, k = s.size - i ∧ i ≤ s.size ∧ t' 10 = .i .i64 (i : Int) ∧ t' 9 = .i .i64 (s.size : Int) ∧ t' 8 = .sl 1 n 0 s.size ∧ t' 3 = .sl 1 n 0 s.size ∧ h' n = some (.cells (cellsB (mixB s.data.toList i))) ∧ ∀ x r, x < n → h x = some r → h' x = some r) s.size ?_ ?_
  · exact ⟨0, rfl, Nat.zero_le _, by (simp only [push_cast, ↓reduceIte, Nat.reduceEqDiff, Nat.reduceAdd, Nat.reduceLeDiff, Int.reduceLE, Int.reduceLT, Int.reduceAdd, Int.reduceSub, Int.reduceNeg, Int.reduceBEq, Int.reduceBNe, Int.reduceEq, Int.reduceGT, Int.reduceGE, Int.reduceMul, Int.reduceToNat, Nat.reduceMul, reduceCtorEq, q0] <;> rfl), by (simp only [push_cast, ↓reduceIte, Nat.reduceEqDiff, Nat.reduceAdd, Nat.reduceLeDiff, Int.reduceLE, Int.reduceLT, Int.reduceAdd, Int.reduceSub, Int.reduceNeg, Int.reduceBEq, Int.reduceBNe, Int.reduceEq, Int.reduceGT, Int.reduceGE, Int.reduceMul, Int.reduceToNat, Nat.reduceMul, reduceCtorEq, q0] <;> rfl), by (simp only [push_cast, ↓reduceIte, Nat.reduceEqDiff, Nat.reduceAdd, Nat.reduceLeDiff, Int.reduceLE, Int.reduceLT, Int.reduceAdd, Int.reduceSub, Int.reduceNeg, Int.reduceBEq, Int.reduceBNe, Int.reduceEq, Int.reduceGT, Int.reduceGE, Int.reduceMul, Int.reduceToNat, Nat.reduceMul, reduceCtorEq, q0] <;> rfl), by (simp only [push_cast, ↓reduceIte, Nat.reduceEqDiff, Nat.reduceAdd, Nat.reduceLeDiff, Int.reduceLE, Int.reduceLT, Int.reduceAdd, Int.reduceSub, Int.reduceNeg, Int.reduceBEq, Int.reduceBNe, Int.reduceEq, Int.reduceGT, Int.reduceGE, Int.reduceMul, Int.reduceToNat, Nat.reduceMul, reduceCtorEq, q0] <;> rfl), by rw [mixB_0, ← bytesA_cells]; (simp only [push_cast, ↓reduceIte, Nat.reduceEqDiff, Nat.reduceAdd, Nat.reduceLeDiff, Int.reduceLE, Int.reduceLT, Int.reduceAdd, Int.reduceSub, Int.reduceNeg, Int.reduceBEq, Int.reduceBNe, Int.reduceEq, Int.reduceGT, Int.reduceGE, Int.reduceMul, Int.reduceToNat, Nat.reduceMul, reduceCtorEq, q0] <;> rfl), keepU (Nat.le_refl _) keep0⟩
  · rintro m t h' n' - ⟨i, rfl, hi, h10, h9, h8, h3, hrow, hk⟩
    refine AWp.seq ?_
    (refine aw_regionL hS (by kernel_rfl) ?_; repeat (first | apply vr0u | apply vr4 | apply b_tt | apply b_ff | apply b_tf | apply b_ft | apply b_no | exact isD.mk rfl | (apply eqG; (simp only [push_cast, ↓reduceIte, Nat.reduceEqDiff, Nat.reduceAdd, Nat.reduceLeDiff, Int.reduceLE, Int.reduceLT, Int.reduceAdd, Int.reduceSub, Int.reduceNeg, Int.reduceBEq, Int.reduceBNe, Int.reduceEq, Int.reduceGT, Int.reduceGE, Int.reduceMul, Int.reduceToNat, Nat.reduceMul, reduceCtorEq, h3, h8, h9, h10, hrow] <;> rfl))))
    refine vr_nil (aw_then ?_)
    refine AWp.seq ?_
    refine aw_split (by (simp only [push_cast, ↓reduceIte, Nat.reduceEqDiff, Nat.reduceAdd, Nat.reduceLeDiff, Int.reduceLE, Int.reduceLT, Int.reduceAdd, Int.reduceSub, Int.reduceNeg, Int.reduceBEq, Int.reduceBNe, Int.reduceEq, Int.reduceGT, Int.reduceGE, Int.reduceMul, Int.reduceToNat, Nat.reduceMul, reduceCtorEq, h3, h8, h9, h10, hrow] <;> rfl)) (fun hu => ?_) (fun hu => ?_)
    · have hu := of_decide_eq_true hu
      have hlt : i < s.data.toList.length := by omega
      have q1 : (0 ≤ (i : Int) ∧ (i : Int) < (s.size : Int)) = True := by simp; omega
      have q2 := mixB_get hlt
      have w1 : IntKind.wrap .i64 ((i : Int) + 1) = ((i + 1 : Nat) : Int) := by rw [IntWalk.i64_in _ (by omega)]; omega
      generalize hb : s.data.toList[i] = b at q2
      have hb8 : b.toNat < 256 := b.toNat_lt
      refine AWp.skip (aw_then ?_)
      refine AWp.seq ?_
      refine AWp.block ?_
      refine AWp.seq ?_
      (refine aw_regionL hS (by kernel_rfl) ?_; repeat (first | apply vr0u | apply vr4 | apply b_tt | apply b_ff | apply b_tf | apply b_ft | apply b_no | exact isD.mk rfl | (apply eqG; (simp only [push_cast, ↓reduceIte, Nat.reduceEqDiff, Nat.reduceAdd, Nat.reduceLeDiff, Int.reduceLE, Int.reduceLT, Int.reduceAdd, Int.reduceSub, Int.reduceNeg, Int.reduceBEq, Int.reduceBNe, Int.reduceEq, Int.reduceGT, Int.reduceGE, Int.reduceMul, Int.reduceToNat, Nat.reduceMul, reduceCtorEq, h3, h8, h9, h10, hrow, q1, q2, w1, Int.toNat_natCast, Nat.mul_one, Nat.zero_add] <;> rfl))))
      refine vr_nil (aw_then ?_)
      refine AWp.seq ?_
      (refine aw_regionL hS (by kernel_rfl) ?_; repeat (first | apply vr0u | apply vr4 | apply b_tt | apply b_ff | apply b_tf | apply b_ft | apply b_no | exact isD.mk rfl | (apply eqG; (simp only [push_cast, ↓reduceIte, Nat.reduceEqDiff, Nat.reduceAdd, Nat.reduceLeDiff, Int.reduceLE, Int.reduceLT, Int.reduceAdd, Int.reduceSub, Int.reduceNeg, Int.reduceBEq, Int.reduceBNe, Int.reduceEq, Int.reduceGT, Int.reduceGE, Int.reduceMul, Int.reduceToNat, Nat.reduceMul, reduceCtorEq, h3, h8, h9, h10, hrow, q1, q2, w1, Int.toNat_natCast, Nat.mul_one, Nat.zero_add] <;> rfl))))
      refine br_s (by (simp only [push_cast, ↓reduceIte, Nat.reduceEqDiff, Nat.reduceAdd, Nat.reduceLeDiff, Int.reduceLE, Int.reduceLT, Int.reduceAdd, Int.reduceSub, Int.reduceNeg, Int.reduceBEq, Int.reduceBNe, Int.reduceEq, Int.reduceGT, Int.reduceGE, Int.reduceMul, Int.reduceToNat, Nat.reduceMul, reduceCtorEq, h3, h8, h9, h10, hrow, q1, q2, w1, Int.toNat_natCast, Nat.mul_one, Nat.zero_add] <;> rfl)) (fun hu => ?_) (fun hu => ?_)
      · have hge := of_decide_eq_true hu
        repeat (first | apply vr0u | apply vr4 | apply b_tt | apply b_ff | apply b_tf | apply b_ft | apply b_no | exact isD.mk rfl | (apply eqG; (simp only [push_cast, ↓reduceIte, Nat.reduceEqDiff, Nat.reduceAdd, Nat.reduceLeDiff, Int.reduceLE, Int.reduceLT, Int.reduceAdd, Int.reduceSub, Int.reduceNeg, Int.reduceBEq, Int.reduceBNe, Int.reduceEq, Int.reduceGT, Int.reduceGE, Int.reduceMul, Int.reduceToNat, Nat.reduceMul, reduceCtorEq, h3, h8, h9, h10, hrow, q1, q2, w1, Int.toNat_natCast, Nat.mul_one, Nat.zero_add] <;> rfl)))
        refine vr_nil (aw_then ?_)
        refine aw_split (by (simp only [push_cast, ↓reduceIte, Nat.reduceEqDiff, Nat.reduceAdd, Nat.reduceLeDiff, Int.reduceLE, Int.reduceLT, Int.reduceAdd, Int.reduceSub, Int.reduceNeg, Int.reduceBEq, Int.reduceBNe, Int.reduceEq, Int.reduceGT, Int.reduceGE, Int.reduceMul, Int.reduceToNat, Nat.reduceMul, reduceCtorEq, h3, h8, h9, h10, hrow, q1, q2, w1, Int.toNat_natCast, Nat.mul_one, Nat.zero_add] <;> rfl)) (fun hv => ?_) (fun hv => ?_)
        · have hle := of_decide_eq_true hv
          have hup : 65 ≤ b.toNat ∧ b.toNat ≤ 90 := by omega
          have w2 : IntKind.wrap .u8 (IntKind.wrap .u8 ((b.toNat : Int) - 65) + 97) = ((fold1 b).toNat : Int) := by
            have w3 : IntKind.wrap .u8 ((b.toNat : Int) - 65) = (b.toNat : Int) - 65 := IntWalk.u8_in _ (by omega)
            rw [w3, IntWalk.u8_in _ (by omega), fold1_up hup]; omega
          have q3 : (i + 1 ≤ (cellsB (mixB s.data.toList i)).length) = True := by simp only [mixB_len, eq_iff_iff, iff_true]; omega
          have q4 := mixB_set hlt
          rw [hb] at q4
          (refine aw_regionL hS (by kernel_rfl) ?_; repeat (first | apply vr0u | apply vr4 | apply b_tt | apply b_ff | apply b_tf | apply b_ft | apply b_no | exact isD.mk rfl | (apply eqG; (simp only [push_cast, ↓reduceIte, Nat.reduceEqDiff, Nat.reduceAdd, Nat.reduceLeDiff, Int.reduceLE, Int.reduceLT, Int.reduceAdd, Int.reduceSub, Int.reduceNeg, Int.reduceBEq, Int.reduceBNe, Int.reduceEq, Int.reduceGT, Int.reduceGE, Int.reduceMul, Int.reduceToNat, Nat.reduceMul, reduceCtorEq, h3, h8, h9, h10, hrow, q1, q2, q3, q4, w1, w2, Int.toNat_natCast, Nat.mul_one, Nat.zero_add] <;> rfl))))
          refine vr_nil (aw_in (aw_then ?_))
          (refine aw_regionL hS (by kernel_rfl) ?_; repeat (first | apply vr0u | apply vr4 | apply b_tt | apply b_ff | apply b_tf | apply b_ft | apply b_no | exact isD.mk rfl | (apply eqG; (simp only [push_cast, ↓reduceIte, Nat.reduceEqDiff, Nat.reduceAdd, Nat.reduceLeDiff, Int.reduceLE, Int.reduceLT, Int.reduceAdd, Int.reduceSub, Int.reduceNeg, Int.reduceBEq, Int.reduceBNe, Int.reduceEq, Int.reduceGT, Int.reduceGE, Int.reduceMul, Int.reduceToNat, Nat.reduceMul, reduceCtorEq, h3, h8, h9, h10, hrow, q1, q2, q3, q4, w1, w2, Int.toNat_natCast, Nat.mul_one, Nat.zero_add] <;> rfl))))
          exact vr_nil (aw_then ⟨s.size - (i + 1), by omega, i + 1, rfl, by omega, by (simp only [push_cast, ↓reduceIte, Nat.reduceEqDiff, Nat.reduceAdd, Nat.reduceLeDiff, Int.reduceLE, Int.reduceLT, Int.reduceAdd, Int.reduceSub, Int.reduceNeg, Int.reduceBEq, Int.reduceBNe, Int.reduceEq, Int.reduceGT, Int.reduceGE, Int.reduceMul, Int.reduceToNat, Nat.reduceMul, reduceCtorEq, h3, h8, h9, h10, hrow, q1, q2, q3, q4, w1, w2, Int.toNat_natCast, Nat.mul_one, Nat.zero_add] <;> rfl), by (simp only [push_cast, ↓reduceIte, Nat.reduceEqDiff, Nat.reduceAdd, Nat.reduceLeDiff, Int.reduceLE, Int.reduceLT, Int.reduceAdd, Int.reduceSub, Int.reduceNeg, Int.reduceBEq, Int.reduceBNe, Int.reduceEq, Int.reduceGT, Int.reduceGE, Int.reduceMul, Int.reduceToNat, Nat.reduceMul, reduceCtorEq, h3, h8, h9, h10, hrow, q1, q2, q3, q4, w1, w2, Int.toNat_natCast, Nat.mul_one, Nat.zero_add] <;> rfl), by (simp only [push_cast, ↓reduceIte, Nat.reduceEqDiff, Nat.reduceAdd, Nat.reduceLeDiff, Int.reduceLE, Int.reduceLT, Int.reduceAdd, Int.reduceSub, Int.reduceNeg, Int.reduceBEq, Int.reduceBNe, Int.reduceEq, Int.reduceGT, Int.reduceGE, Int.reduceMul, Int.reduceToNat, Nat.reduceMul, reduceCtorEq, h3, h8, h9, h10, hrow, q1, q2, q3, q4, w1, w2, Int.toNat_natCast, Nat.mul_one, Nat.zero_add] <;> rfl), by (simp only [push_cast, ↓reduceIte, Nat.reduceEqDiff, Nat.reduceAdd, Nat.reduceLeDiff, Int.reduceLE, Int.reduceLT, Int.reduceAdd, Int.reduceSub, Int.reduceNeg, Int.reduceBEq, Int.reduceBNe, Int.reduceEq, Int.reduceGT, Int.reduceGE, Int.reduceMul, Int.reduceToNat, Nat.reduceMul, reduceCtorEq, h3, h8, h9, h10, hrow, q1, q2, q3, q4, w1, w2, Int.toNat_natCast, Nat.mul_one, Nat.zero_add] <;> rfl), by (simp only [push_cast, ↓reduceIte, Nat.reduceEqDiff, Nat.reduceAdd, Nat.reduceLeDiff, Int.reduceLE, Int.reduceLT, Int.reduceAdd, Int.reduceSub, Int.reduceNeg, Int.reduceBEq, Int.reduceBNe, Int.reduceEq, Int.reduceGT, Int.reduceGE, Int.reduceMul, Int.reduceToNat, Nat.reduceMul, reduceCtorEq, h3, h8, h9, h10, hrow, q1, q2, q3, q4, w1, w2, Int.toNat_natCast, Nat.mul_one, Nat.zero_add] <;> rfl), keepU (Nat.le_refl _) hk⟩)
        · have hle := of_decide_eq_false hv
          have q4 := mixB_same hlt (by rw [hb]; omega)
          refine AWp.skip (aw_in (aw_then ?_))
          (refine aw_regionL hS (by kernel_rfl) ?_; repeat (first | apply vr0u | apply vr4 | apply b_tt | apply b_ff | apply b_tf | apply b_ft | apply b_no | exact isD.mk rfl | (apply eqG; (simp only [push_cast, ↓reduceIte, Nat.reduceEqDiff, Nat.reduceAdd, Nat.reduceLeDiff, Int.reduceLE, Int.reduceLT, Int.reduceAdd, Int.reduceSub, Int.reduceNeg, Int.reduceBEq, Int.reduceBNe, Int.reduceEq, Int.reduceGT, Int.reduceGE, Int.reduceMul, Int.reduceToNat, Nat.reduceMul, reduceCtorEq, h3, h8, h9, h10, hrow, q1, q2, w1, Int.toNat_natCast, Nat.mul_one, Nat.zero_add] <;> rfl))))
          exact vr_nil (aw_then ⟨s.size - (i + 1), by omega, i + 1, rfl, by omega, by (simp only [push_cast, ↓reduceIte, Nat.reduceEqDiff, Nat.reduceAdd, Nat.reduceLeDiff, Int.reduceLE, Int.reduceLT, Int.reduceAdd, Int.reduceSub, Int.reduceNeg, Int.reduceBEq, Int.reduceBNe, Int.reduceEq, Int.reduceGT, Int.reduceGE, Int.reduceMul, Int.reduceToNat, Nat.reduceMul, reduceCtorEq, h3, h8, h9, h10, hrow, q1, q2, w1, Int.toNat_natCast, Nat.mul_one, Nat.zero_add] <;> rfl), by (simp only [push_cast, ↓reduceIte, Nat.reduceEqDiff, Nat.reduceAdd, Nat.reduceLeDiff, Int.reduceLE, Int.reduceLT, Int.reduceAdd, Int.reduceSub, Int.reduceNeg, Int.reduceBEq, Int.reduceBNe, Int.reduceEq, Int.reduceGT, Int.reduceGE, Int.reduceMul, Int.reduceToNat, Nat.reduceMul, reduceCtorEq, h3, h8, h9, h10, hrow, q1, q2, w1, Int.toNat_natCast, Nat.mul_one, Nat.zero_add] <;> rfl), by (simp only [push_cast, ↓reduceIte, Nat.reduceEqDiff, Nat.reduceAdd, Nat.reduceLeDiff, Int.reduceLE, Int.reduceLT, Int.reduceAdd, Int.reduceSub, Int.reduceNeg, Int.reduceBEq, Int.reduceBNe, Int.reduceEq, Int.reduceGT, Int.reduceGE, Int.reduceMul, Int.reduceToNat, Nat.reduceMul, reduceCtorEq, h3, h8, h9, h10, hrow, q1, q2, w1, Int.toNat_natCast, Nat.mul_one, Nat.zero_add] <;> rfl), by (simp only [push_cast, ↓reduceIte, Nat.reduceEqDiff, Nat.reduceAdd, Nat.reduceLeDiff, Int.reduceLE, Int.reduceLT, Int.reduceAdd, Int.reduceSub, Int.reduceNeg, Int.reduceBEq, Int.reduceBNe, Int.reduceEq, Int.reduceGT, Int.reduceGE, Int.reduceMul, Int.reduceToNat, Nat.reduceMul, reduceCtorEq, h3, h8, h9, h10, hrow, q1, q2, w1, Int.toNat_natCast, Nat.mul_one, Nat.zero_add] <;> rfl), by rw [← q4]; exact hrow, hk⟩)
      · have hge := of_decide_eq_false hu
        have q4 := mixB_same hlt (by rw [hb]; omega)
        repeat (first | apply vr0u | apply vr4 | apply b_tt | apply b_ff | apply b_tf | apply b_ft | apply b_no | exact isD.mk rfl | (apply eqG; (simp only [push_cast, ↓reduceIte, Nat.reduceEqDiff, Nat.reduceAdd, Nat.reduceLeDiff, Int.reduceLE, Int.reduceLT, Int.reduceAdd, Int.reduceSub, Int.reduceNeg, Int.reduceBEq, Int.reduceBNe, Int.reduceEq, Int.reduceGT, Int.reduceGE, Int.reduceMul, Int.reduceToNat, Nat.reduceMul, reduceCtorEq, h3, h8, h9, h10, hrow, q1, q2, w1, Int.toNat_natCast, Nat.mul_one, Nat.zero_add] <;> rfl)))
        refine vr_nil (aw_then ?_)
        refine aw_false (by (simp only [push_cast, ↓reduceIte, Nat.reduceEqDiff, Nat.reduceAdd, Nat.reduceLeDiff, Int.reduceLE, Int.reduceLT, Int.reduceAdd, Int.reduceSub, Int.reduceNeg, Int.reduceBEq, Int.reduceBNe, Int.reduceEq, Int.reduceGT, Int.reduceGE, Int.reduceMul, Int.reduceToNat, Nat.reduceMul, reduceCtorEq, h3, h8, h9, h10, hrow, q1, q2, w1, Int.toNat_natCast, Nat.mul_one, Nat.zero_add] <;> rfl)) (AWp.skip (aw_in (aw_then ?_)))
        (refine aw_regionL hS (by kernel_rfl) ?_; repeat (first | apply vr0u | apply vr4 | apply b_tt | apply b_ff | apply b_tf | apply b_ft | apply b_no | exact isD.mk rfl | (apply eqG; (simp only [push_cast, ↓reduceIte, Nat.reduceEqDiff, Nat.reduceAdd, Nat.reduceLeDiff, Int.reduceLE, Int.reduceLT, Int.reduceAdd, Int.reduceSub, Int.reduceNeg, Int.reduceBEq, Int.reduceBNe, Int.reduceEq, Int.reduceGT, Int.reduceGE, Int.reduceMul, Int.reduceToNat, Nat.reduceMul, reduceCtorEq, h3, h8, h9, h10, hrow, q1, q2, w1, Int.toNat_natCast, Nat.mul_one, Nat.zero_add] <;> rfl))))
        exact vr_nil (aw_then ⟨s.size - (i + 1), by omega, i + 1, rfl, by omega, by (simp only [push_cast, ↓reduceIte, Nat.reduceEqDiff, Nat.reduceAdd, Nat.reduceLeDiff, Int.reduceLE, Int.reduceLT, Int.reduceAdd, Int.reduceSub, Int.reduceNeg, Int.reduceBEq, Int.reduceBNe, Int.reduceEq, Int.reduceGT, Int.reduceGE, Int.reduceMul, Int.reduceToNat, Nat.reduceMul, reduceCtorEq, h3, h8, h9, h10, hrow, q1, q2, w1, Int.toNat_natCast, Nat.mul_one, Nat.zero_add] <;> rfl), by (simp only [push_cast, ↓reduceIte, Nat.reduceEqDiff, Nat.reduceAdd, Nat.reduceLeDiff, Int.reduceLE, Int.reduceLT, Int.reduceAdd, Int.reduceSub, Int.reduceNeg, Int.reduceBEq, Int.reduceBNe, Int.reduceEq, Int.reduceGT, Int.reduceGE, Int.reduceMul, Int.reduceToNat, Nat.reduceMul, reduceCtorEq, h3, h8, h9, h10, hrow, q1, q2, w1, Int.toNat_natCast, Nat.mul_one, Nat.zero_add] <;> rfl), by (simp only [push_cast, ↓reduceIte, Nat.reduceEqDiff, Nat.reduceAdd, Nat.reduceLeDiff, Int.reduceLE, Int.reduceLT, Int.reduceAdd, Int.reduceSub, Int.reduceNeg, Int.reduceBEq, Int.reduceBNe, Int.reduceEq, Int.reduceGT, Int.reduceGE, Int.reduceMul, Int.reduceToNat, Nat.reduceMul, reduceCtorEq, h3, h8, h9, h10, hrow, q1, q2, w1, Int.toNat_natCast, Nat.mul_one, Nat.zero_add] <;> rfl), by (simp only [push_cast, ↓reduceIte, Nat.reduceEqDiff, Nat.reduceAdd, Nat.reduceLeDiff, Int.reduceLE, Int.reduceLT, Int.reduceAdd, Int.reduceSub, Int.reduceNeg, Int.reduceBEq, Int.reduceBNe, Int.reduceEq, Int.reduceGT, Int.reduceGE, Int.reduceMul, Int.reduceToNat, Nat.reduceMul, reduceCtorEq, h3, h8, h9, h10, hrow, q1, q2, w1, Int.toNat_natCast, Nat.mul_one, Nat.zero_add] <;> rfl), by rw [← q4]; exact hrow, hk⟩)
    · have hu := of_decide_eq_false hu
      have hie : i = s.data.toList.length := by omega
      have q5 : (cellsB (mixB s.data.toList i)).take s.size = cellsB (s.data.toList.map fold1) := by rw [hie, mixB_all, List.take_of_length_le]; simp [cellsB]
      have q6 := unbytes_cells (s.data.toList.map fold1)
      have q7 : (s.size ≤ (cellsB (mixB s.data.toList i)).length) = True := by simp only [mixB_len, eq_iff_iff, iff_true]; omega
      refine AWp.exit (aw_thru (aw_thru (aw_exit (aw_then ?_))))
      refine AWp.seq ?_
      (refine aw_regionL hS (by kernel_rfl) ?_; repeat (first | apply vr0u | apply vr4 | apply b_tt | apply b_ff | apply b_tf | apply b_ft | apply b_no | exact isD.mk rfl | (apply eqG; (simp only [push_cast, ↓reduceIte, Nat.reduceEqDiff, Nat.reduceAdd, Nat.reduceLeDiff, Int.reduceLE, Int.reduceLT, Int.reduceAdd, Int.reduceSub, Int.reduceNeg, Int.reduceBEq, Int.reduceBNe, Int.reduceEq, Int.reduceGT, Int.reduceGE, Int.reduceMul, Int.reduceToNat, Nat.reduceMul, reduceCtorEq, h3, h8, h9, h10, hrow, q5, q6, q7, Nat.zero_add] <;> rfl))))
      refine vr_nil (aw_then ?_)
      refine AWp.ret ?_
      exact Out.pure1 (.inr rfl) rfl (by (simp only [push_cast, ↓reduceIte, Nat.reduceEqDiff, Nat.reduceAdd, Nat.reduceLeDiff, Int.reduceLE, Int.reduceLT, Int.reduceAdd, Int.reduceSub, Int.reduceNeg, Int.reduceBEq, Int.reduceBNe, Int.reduceEq, Int.reduceGT, Int.reduceGE, Int.reduceMul, Int.reduceToNat, Nat.reduceMul, reduceCtorEq, h3, h8, h9, h10, hrow, q5, q6, q7, Nat.zero_add] <;> rfl)) rfl trivial hk
end Go.Proofs.Ytpgohmcolcfhfaa
