import Derived.Test.YtpgohmcolcfhfaaWkPool1
import Derived.Test.YtpgohmcolcfhfaaAv29

namespace Go.Proofs.Ytpgohmcolcfhfaa
open Go.Av
set_option maxRecDepth 100000
set_option maxHeartbeats 1000000
set_option linter.unusedSimpArgs false
set_option linter.unusedVariables false
/-! ### blocks, as values -/
structure Bk where
  p : Int
  h : Int
  s : Int
  z : Bool
  l : List Tx
def bkC (b : Bk) : List AV := [.i .i64 b.p, .i .i64 b.h, .i .i64 b.s, .ro b.z (txs b.l) b.l.length]
def bks (c : List Bk) : List AV := c.flatMap bkC
theorem bkC_3 (b : Bk) : (bkC b)[3]? = some (.ro b.z (txs b.l) b.l.length) := rfl
theorem bkC_len (b : Bk) : (bkC b).length = 4 := rfl
theorem bkC_take (b : Bk) : (bkC b).take 4 = bkC b := rfl
theorem bks_len (l : List Bk) : (bks l).length = l.length * 4 := by
  induction l with
  | nil => rfl
  | cons x l ih => simp only [bks, List.flatMap_cons, List.length_append, bkC_len, List.length_cons] at ih ⊢; omega
theorem bks_get : ∀ {l : List Bk} {i : Nat} (hi : i < l.length), ((bks l).drop (i * 4)).take 4 = bkC l[i]
  | x :: l, 0, _ => rfl
  | x :: l, i + 1, hi => by
    have : (bks (x :: l)).drop ((i + 1) * 4) = (bks l).drop (i * 4) := by
      rw [show (i + 1) * 4 = i * 4 + 1 + 1 + 1 + 1 by omega]; rfl
    rw [this, bks_get (Nat.lt_of_succ_lt_succ hi)]; rfl
theorem bks_in {l : List Bk} {i : Nat} (hi : i < l.length) : (i * 4 + 4 ≤ (bks l).length) = True := by rw [bks_len]; simp only [eq_iff_iff, iff_true]; omega
theorem free_bks : ∀ l : List Bk, freeAll (bks l) = true
  | [] => rfl
  | x :: l => by
    have := free_bks l
    simp only [bks, List.flatMap_cons] at this ⊢
    rw [free_app, this]
    simp [bkC, freeAll, AV.free, free_txs]
/-- Does a chain have it? -/
def inChain (t : Tx) (c : List Bk) : Bool := c.any fun b => anyT t b.l
def idxB (t : Tx) : List Bk → Int → Int
  | [], _ => -1
  | x :: l, i => if anyT t x.l then i else idxB t l (i + 1)
theorem idxB_at (t : Tx) : ∀ {l : List Bk} {i : Nat} (hi : i < l.length) (k : Int), (∀ j, j < i → ∀ hj : j < l.length, anyT t l[j].l = false) → anyT t l[i].l = true → idxB t l k = k + i
  | x :: l, 0, _, k, _, h => by
    have h : anyT t x.l = true := h
    simp only [idxB]; rw [if_pos h]; simp
  | x :: l, i + 1, hi, k, h0, h => by
    have h1 := h0 0 (by omega) (by simp)
    simp only [idxB]
    rw [if_neg (by rw [show (x :: l)[0] = x from rfl] at h1; rw [h1]; simp), idxB_at t (Nat.lt_of_succ_lt_succ hi) (k + 1) (fun j hj hjl => h0 (j + 1) (by omega) (by simp; omega)) h]
    omega
theorem idxB_no (t : Tx) : ∀ {l : List Bk} (k : Int), (∀ j, ∀ hj : j < l.length, anyT t l[j].l = false) → idxB t l k = -1
  | [], _, _ => rfl
  | x :: l, k, h0 => by
    have h1 := h0 0 (by simp)
    simp only [idxB]
    rw [if_neg (by rw [show (x :: l)[0] = x from rfl] at h1; rw [h1]; simp), idxB_no t (k + 1) (fun j hj => h0 (j + 1) (by simp; omega))]
theorem idxB_pos (t : Tx) : ∀ (l : List Bk) (k : Int), 0 ≤ k → (0 ≤ idxB t l k ↔ inChain t l = true)
  | [], _, _ => by simp [idxB, inChain]
  | x :: l, k, hk => by
    have ih := idxB_pos t l (k + 1) (by omega)
    by_cases h : anyT t x.l = true
    · have e : idxB t (x :: l) k = k := by simp only [idxB]; rw [if_pos h]
      rw [e]; simp [inChain, h, hk]
    · have e : idxB t (x :: l) k = idxB t l (k + 1) := by simp only [idxB]; rw [if_neg h]
      have h' : anyT t x.l = false := by simpa using h
      rw [e, ih]; simp [inChain, h']
theorem idxB_any (t : Tx) (l : List Bk) : decide (idxB t l 0 ≥ 0) = inChain t l := by
  rw [Bool.eq_iff_iff, decide_eq_true_eq]
  exact idxB_pos t l 0 (Int.le_refl 0)
attribute [local push_cast] stepE callR resE aeff aev ofC ofC1 put_at Av.put_none inTmps List.getD_cons_zero List.getD_cons_succ AV.boxable if_true if_false AV.cells aload place app_cons app_nil upd_same Av.part abin aconv aindexAddr fillA splice_one splice_two abuiltin alen amax amin aun aindex Option.map_some List.map_cons List.map_nil List.nil_append List.append_nil List.cons_append Nat.le_refl Nat.zero_add List.length_cons List.length_nil List.drop_succ_cons List.drop_zero List.take_succ_cons List.take_zero beq_self_eq_true bne_self_eq_false Bool.not_true Bool.not_false List.set_cons_zero List.set_cons_succ Bool.false_eq_true IntWalk.i64_in decide_true decide_false Int.toNat_zero and_self and_true true_and List.getElem?_cons_zero List.getElem?_cons_succ agT_26 szT_26 slT_24 agT_24 szT_24 flT_26_0 flT_26_1 flT_26_3 flT_26_2 agT_22 szT_22 arT_22 agT_3 szT_3 kiT_3 kiT_23 kiT_4 zeT_26 buT_26 zeT_22 buT_22 kiT_9 kiT_51 kiT_5 und_51 slT_51 agT_5 szT_5 aappend aapp view slT_24 zeT_3 byT_24 Bool.and_true Bool.true_and Nat.mul_one alen slT_50 agT_53 szT_53 flT_53_0 flT_53_1 agT_57 szT_57 flT_57_3 slT_54 agT_50 szT_50 agT_51 szT_51 zeT_53 buT_53 zeT_57 buT_57 kiT_34 Option.map_none aslice asliceB amin amax txC_0 txC_1 txC_len txC_take take_cellsB len_cellsB unbytes_cells bkC_3 bkC_len bkC_take

theorem c58 (z : Bool) (l : List Tx) (t : Tx) (S : Sums) (hS : SumOk Try.prog S) (h50 : ∀ h, S 50 [.ro z (txs l) l.length, .fn (.func 59) [] [.q (txC t) 0]] h = .pure (.i .i64 (idxF t l 0))) :
    PCalls Try.prog 58 [.ro z (txs l) l.length, .fn (.func 59) [] [.q (txC t) 0]] (.b (anyT t l)) := by
  intro h n
  refine DCalls.of Try.func58 rfl (by decide) (Nat.le_of_ble_eq_true rfl) (Nat.le_refl _) ?_
  refine AWp.seq ?_
  (refine aw_regionL hS (by kernel_rfl) ?_; repeat (first | apply vr0u | apply vr4 | apply b_tt | apply b_ff | apply b_tf | apply b_ft | apply b_no | exact isD.mk rfl | (apply eqG; (simp only [push_cast, ↓reduceIte, Nat.reduceEqDiff, Nat.reduceAdd, Nat.reduceLeDiff, Int.reduceLE, Int.reduceLT, Int.reduceAdd, Int.reduceSub, Int.reduceNeg, Int.reduceBEq, Int.reduceBNe, Int.reduceEq, Int.reduceGT, Int.reduceGE, Int.reduceMul, Int.reduceToNat, Nat.reduceMul, reduceCtorEq, h50] <;> rfl))))
  refine vr_nil (aw_then ?_)
  refine AWp.seq ?_
  (refine aw_regionL hS (by kernel_rfl) ?_; repeat (first | apply vr0u | apply vr4 | apply b_tt | apply b_ff | apply b_tf | apply b_ft | apply b_no | exact isD.mk rfl | (apply eqG; (simp only [push_cast, ↓reduceIte, Nat.reduceEqDiff, Nat.reduceAdd, Nat.reduceLeDiff, Int.reduceLE, Int.reduceLT, Int.reduceAdd, Int.reduceSub, Int.reduceNeg, Int.reduceBEq, Int.reduceBNe, Int.reduceEq, Int.reduceGT, Int.reduceGE, Int.reduceMul, Int.reduceToNat, Nat.reduceMul, reduceCtorEq, h50] <;> rfl))))
  refine vr_nil (aw_then ?_)
  refine AWp.ret ?_
  exact Out.pure1 (.inr rfl) rfl (by (simp only [push_cast, ↓reduceIte, Nat.reduceEqDiff, Nat.reduceAdd, Nat.reduceLeDiff, Int.reduceLE, Int.reduceLT, Int.reduceAdd, Int.reduceSub, Int.reduceNeg, Int.reduceBEq, Int.reduceBNe, Int.reduceEq, Int.reduceGT, Int.reduceGE, Int.reduceMul, Int.reduceToNat, Nat.reduceMul, reduceCtorEq, h50] <;> rfl)) (by rw [← idxF_any]) trivial keep0
theorem c57 (b : Bk) (t : Tx) (S : Sums) (hS : SumOk Try.prog S) (h58 : ∀ h, S 58 [.ro b.z (txs b.l) b.l.length, .fn (.func 59) [] [.q (txC t) 0]] h = .pure (.b (anyT t b.l))) :
    PCalls Try.prog 57 [.agg (bkC b), .q (txC t) 0] (.b (anyT t b.l)) := by
  intro h n
  refine DCalls.of Try.func57 rfl (by decide) (Nat.le_of_ble_eq_true rfl) (Nat.le_refl _) ?_
  refine AWp.seq ?_
  (refine aw_regionL hS (by kernel_rfl) ?_; repeat (first | apply vr0u | apply vr4 | apply b_tt | apply b_ff | apply b_tf | apply b_ft | apply b_no | exact isD.mk rfl | (apply eqG; (simp only [push_cast, ↓reduceIte, Nat.reduceEqDiff, Nat.reduceAdd, Nat.reduceLeDiff, Int.reduceLE, Int.reduceLT, Int.reduceAdd, Int.reduceSub, Int.reduceNeg, Int.reduceBEq, Int.reduceBNe, Int.reduceEq, Int.reduceGT, Int.reduceGE, Int.reduceMul, Int.reduceToNat, Nat.reduceMul, reduceCtorEq, h58, Option.toList] <;> rfl))))
  refine vr_nil (aw_then ?_)
  refine AWp.seq ?_
  (refine aw_regionL hS (by kernel_rfl) ?_; repeat (first | apply vr0u | apply vr4 | apply b_tt | apply b_ff | apply b_tf | apply b_ft | apply b_no | exact isD.mk rfl | (apply eqG; (simp only [push_cast, ↓reduceIte, Nat.reduceEqDiff, Nat.reduceAdd, Nat.reduceLeDiff, Int.reduceLE, Int.reduceLT, Int.reduceAdd, Int.reduceSub, Int.reduceNeg, Int.reduceBEq, Int.reduceBNe, Int.reduceEq, Int.reduceGT, Int.reduceGE, Int.reduceMul, Int.reduceToNat, Nat.reduceMul, reduceCtorEq, h58, Option.toList] <;> rfl))))
  refine vr_nil (aw_then ?_)
  refine AWp.ret ?_
  exact Out.pure1 (.inr rfl) rfl (by (simp only [push_cast, ↓reduceIte, Nat.reduceEqDiff, Nat.reduceAdd, Nat.reduceLeDiff, Int.reduceLE, Int.reduceLT, Int.reduceAdd, Int.reduceSub, Int.reduceNeg, Int.reduceBEq, Int.reduceBNe, Int.reduceEq, Int.reduceGT, Int.reduceGE, Int.reduceMul, Int.reduceToNat, Nat.reduceMul, reduceCtorEq, h58, Option.toList] <;> rfl)) rfl trivial (keepU (by omega) keep0)
theorem c62 (z : Bool) (l : List Bk) (t : Tx) (hl : l.length ≤ 100000) (S : Sums) (hS : SumOk Try.prog S) (hg : ∀ x, x ∈ l → ∀ h, S 57 [.agg (bkC x), .q (txC t) 0] h = .pure (.b (anyT t x.l))) :
    PCalls Try.prog 62 [.ro z (bks l) l.length, .fn (.func 57) [] [.q (txC t) 0]] (.i .i64 (idxB t l 0)) := by
  intro h n
  refine DCalls.of Try.func62 rfl (by decide) (Nat.le_of_ble_eq_true rfl) (Nat.le_refl _) ?_
  refine AWp.seq ?_
  (refine aw_regionL hS (by kernel_rfl) ?_; repeat (first | apply vr0u | apply vr4 | apply b_tt | apply b_ff | apply b_tf | apply b_ft | apply b_no | exact isD.mk rfl | (apply eqG; (simp only [push_cast, ↓reduceIte, Nat.reduceEqDiff, Nat.reduceAdd, Nat.reduceLeDiff, Int.reduceLE, Int.reduceLT, Int.reduceAdd, Int.reduceSub, Int.reduceNeg, Int.reduceBEq, Int.reduceBNe, Int.reduceEq, Int.reduceGT, Int.reduceGE, Int.reduceMul, Int.reduceToNat, Nat.reduceMul, reduceCtorEq] <;> rfl))))
  refine vr_nil (aw_then ?_)
  refine AWp.seq ?_
  refine AWp.seq ?_
  (refine aw_regionL hS (by kernel_rfl) ?_; repeat (first | apply vr0u | apply vr4 | apply b_tt | apply b_ff | apply b_tf | apply b_ft | apply b_no | exact isD.mk rfl | (apply eqG; (simp only [push_cast, ↓reduceIte, Nat.reduceEqDiff, Nat.reduceAdd, Nat.reduceLeDiff, Int.reduceLE, Int.reduceLT, Int.reduceAdd, Int.reduceSub, Int.reduceNeg, Int.reduceBEq, Int.reduceBNe, Int.reduceEq, Int.reduceGT, Int.reduceGE, Int.reduceMul, Int.reduceToNat, Nat.reduceMul, reduceCtorEq] <;> rfl))))
  refine vr_nil (aw_then ?_)
  refine AWp.block ?_
  refine AWp.loop (fun k t' h' n' => ∃ i : Nat, k = l.length - i ∧ i ≤ l.length ∧ (∀ j, j < i → ∀ hj : j < l.length, anyT t l[j].l = false) ∧ t' 0 = .ro z (bks l) l.length ∧ t' 1 = .fn (.func 57) [] [.q (txC t) 0] ∧ t' 7 = .i .i64 (l.length : Int) ∧ t' 8 = .i .i64 (i : Int) ∧ ∀ x r, x < n → h x = some r → h' x = some r) l.length ?_ ?_
  · exact ⟨0, rfl, Nat.zero_le _, fun j hj => by omega, by (simp only [push_cast, ↓reduceIte, Nat.reduceEqDiff, Nat.reduceAdd, Nat.reduceLeDiff, Int.reduceLE, Int.reduceLT, Int.reduceAdd, Int.reduceSub, Int.reduceNeg, Int.reduceBEq, Int.reduceBNe, Int.reduceEq, Int.reduceGT, Int.reduceGE, Int.reduceMul, Int.reduceToNat, Nat.reduceMul, reduceCtorEq] <;> rfl), by (simp only [push_cast, ↓reduceIte, Nat.reduceEqDiff, Nat.reduceAdd, Nat.reduceLeDiff, Int.reduceLE, Int.reduceLT, Int.reduceAdd, Int.reduceSub, Int.reduceNeg, Int.reduceBEq, Int.reduceBNe, Int.reduceEq, Int.reduceGT, Int.reduceGE, Int.reduceMul, Int.reduceToNat, Nat.reduceMul, reduceCtorEq] <;> rfl), by (simp only [push_cast, ↓reduceIte, Nat.reduceEqDiff, Nat.reduceAdd, Nat.reduceLeDiff, Int.reduceLE, Int.reduceLT, Int.reduceAdd, Int.reduceSub, Int.reduceNeg, Int.reduceBEq, Int.reduceBNe, Int.reduceEq, Int.reduceGT, Int.reduceGE, Int.reduceMul, Int.reduceToNat, Nat.reduceMul, reduceCtorEq] <;> rfl), by (simp only [push_cast, ↓reduceIte, Nat.reduceEqDiff, Nat.reduceAdd, Nat.reduceLeDiff, Int.reduceLE, Int.reduceLT, Int.reduceAdd, Int.reduceSub, Int.reduceNeg, Int.reduceBEq, Int.reduceBNe, Int.reduceEq, Int.reduceGT, Int.reduceGE, Int.reduceMul, Int.reduceToNat, Nat.reduceMul, reduceCtorEq] <;> rfl), keep0⟩
  · rintro m t' h' n' - ⟨i, rfl, hil, hno, h0, h1, h7, h8, hk⟩
    by_cases hi : i < l.length
    · have q1 : ((i : Int) < (l.length : Int)) = True := by simp [hi]
      have q2 : (0 ≤ (i : Int) ∧ (i : Int) < (l.length : Int)) = True := by simp [hi]
      have q3 := bks_get hi
      have q4 := bks_in hi
      have hgi := hg l[i] (List.getElem_mem hi)
      have w1 : IntKind.wrap .i64 ((i : Int) + 1) = (i : Int) + 1 := IntWalk.i64_in _ (by omega)
      refine AWp.seq ?_
      (refine aw_regionL hS (by kernel_rfl) ?_; repeat (first | apply vr0u | apply vr4 | apply b_tt | apply b_ff | apply b_tf | apply b_ft | apply b_no | exact isD.mk rfl | (apply eqG; (simp only [push_cast, ↓reduceIte, Nat.reduceEqDiff, Nat.reduceAdd, Nat.reduceLeDiff, Int.reduceLE, Int.reduceLT, Int.reduceAdd, Int.reduceSub, Int.reduceNeg, Int.reduceBEq, Int.reduceBNe, Int.reduceEq, Int.reduceGT, Int.reduceGE, Int.reduceMul, Int.reduceToNat, Nat.reduceMul, reduceCtorEq, h0, h1, h7, h8, q1, q2, q3, q4, hgi, w1, Int.toNat_natCast] <;> rfl))))
      refine vr_nil (aw_then ?_)
      refine AWp.seq ?_
      refine aw_true (by (simp only [push_cast, ↓reduceIte, Nat.reduceEqDiff, Nat.reduceAdd, Nat.reduceLeDiff, Int.reduceLE, Int.reduceLT, Int.reduceAdd, Int.reduceSub, Int.reduceNeg, Int.reduceBEq, Int.reduceBNe, Int.reduceEq, Int.reduceGT, Int.reduceGE, Int.reduceMul, Int.reduceToNat, Nat.reduceMul, reduceCtorEq, h0, h1, h7, h8, q1, q2, q3, q4, hgi, w1, Int.toNat_natCast] <;> rfl)) (AWp.skip (aw_then ?_))
      refine AWp.seq ?_
      refine AWp.block ?_
      refine AWp.seq ?_
      (refine aw_regionL hS (by kernel_rfl) ?_; repeat (first | apply vr0u | apply vr4 | apply b_tt | apply b_ff | apply b_tf | apply b_ft | apply b_no | exact isD.mk rfl | (apply eqG; (simp only [push_cast, ↓reduceIte, Nat.reduceEqDiff, Nat.reduceAdd, Nat.reduceLeDiff, Int.reduceLE, Int.reduceLT, Int.reduceAdd, Int.reduceSub, Int.reduceNeg, Int.reduceBEq, Int.reduceBNe, Int.reduceEq, Int.reduceGT, Int.reduceGE, Int.reduceMul, Int.reduceToNat, Nat.reduceMul, reduceCtorEq, h0, h1, h7, h8, q1, q2, q3, q4, hgi, w1, Int.toNat_natCast] <;> rfl))))
      refine vr_nil (aw_then ?_)
      refine AWp.seq ?_
      (refine aw_regionL hS (by kernel_rfl) ?_; repeat (first | apply vr0u | apply vr4 | apply b_tt | apply b_ff | apply b_tf | apply b_ft | apply b_no | exact isD.mk rfl | (apply eqG; (simp only [push_cast, ↓reduceIte, Nat.reduceEqDiff, Nat.reduceAdd, Nat.reduceLeDiff, Int.reduceLE, Int.reduceLT, Int.reduceAdd, Int.reduceSub, Int.reduceNeg, Int.reduceBEq, Int.reduceBNe, Int.reduceEq, Int.reduceGT, Int.reduceGE, Int.reduceMul, Int.reduceToNat, Nat.reduceMul, reduceCtorEq, h0, h1, h7, h8, q1, q2, q3, q4, hgi, w1, Int.toNat_natCast] <;> rfl))))
      refine vr_nil (aw_then ?_)
      refine aw_split (by (simp only [push_cast, ↓reduceIte, Nat.reduceEqDiff, Nat.reduceAdd, Nat.reduceLeDiff, Int.reduceLE, Int.reduceLT, Int.reduceAdd, Int.reduceSub, Int.reduceNeg, Int.reduceBEq, Int.reduceBNe, Int.reduceEq, Int.reduceGT, Int.reduceGE, Int.reduceMul, Int.reduceToNat, Nat.reduceMul, reduceCtorEq, h0, h1, h7, h8, q1, q2, q3, q4, hgi, w1, Int.toNat_natCast] <;> rfl)) (fun hu => ?_) (fun hu => ?_)
      · refine AWp.seq ?_
        (refine aw_regionL hS (by kernel_rfl) ?_; repeat (first | apply vr0u | apply vr4 | apply b_tt | apply b_ff | apply b_tf | apply b_ft | apply b_no | exact isD.mk rfl | (apply eqG; (simp only [push_cast, ↓reduceIte, Nat.reduceEqDiff, Nat.reduceAdd, Nat.reduceLeDiff, Int.reduceLE, Int.reduceLT, Int.reduceAdd, Int.reduceSub, Int.reduceNeg, Int.reduceBEq, Int.reduceBNe, Int.reduceEq, Int.reduceGT, Int.reduceGE, Int.reduceMul, Int.reduceToNat, Nat.reduceMul, reduceCtorEq, h0, h1, h7, h8, q1, q2, q3, q4, hgi, w1, Int.toNat_natCast] <;> rfl))))
        refine vr_nil (aw_then ?_)
        refine AWp.ret ?_
        exact Out.pure1 (.inr rfl) rfl (by (simp only [push_cast, ↓reduceIte, Nat.reduceEqDiff, Nat.reduceAdd, Nat.reduceLeDiff, Int.reduceLE, Int.reduceLT, Int.reduceAdd, Int.reduceSub, Int.reduceNeg, Int.reduceBEq, Int.reduceBNe, Int.reduceEq, Int.reduceGT, Int.reduceGE, Int.reduceMul, Int.reduceToNat, Nat.reduceMul, reduceCtorEq, h0, h1, h7, h8, q1, q2, q3, q4, hgi, w1, Int.toNat_natCast] <;> rfl)) (by rw [idxB_at t hi 0 hno hu, Int.zero_add]) trivial hk
      · refine AWp.skip (aw_in (aw_then ?_))
        (refine aw_regionL hS (by kernel_rfl) ?_; repeat (first | apply vr0u | apply vr4 | apply b_tt | apply b_ff | apply b_tf | apply b_ft | apply b_no | exact isD.mk rfl | (apply eqG; (simp only [push_cast, ↓reduceIte, Nat.reduceEqDiff, Nat.reduceAdd, Nat.reduceLeDiff, Int.reduceLE, Int.reduceLT, Int.reduceAdd, Int.reduceSub, Int.reduceNeg, Int.reduceBEq, Int.reduceBNe, Int.reduceEq, Int.reduceGT, Int.reduceGE, Int.reduceMul, Int.reduceToNat, Nat.reduceMul, reduceCtorEq, h0, h1, h7, h8, q1, q2, q3, q4, hgi, w1, Int.toNat_natCast] <;> rfl))))
        exact vr_nil (aw_then ⟨l.length - (i + 1), by omega, i + 1, rfl, hi, fun j hj hjl => if he : j = i then by subst he; exact hu else hno j (by omega) hjl, by (simp only [push_cast, ↓reduceIte, Nat.reduceEqDiff, Nat.reduceAdd, Nat.reduceLeDiff, Int.reduceLE, Int.reduceLT, Int.reduceAdd, Int.reduceSub, Int.reduceNeg, Int.reduceBEq, Int.reduceBNe, Int.reduceEq, Int.reduceGT, Int.reduceGE, Int.reduceMul, Int.reduceToNat, Nat.reduceMul, reduceCtorEq, h0, h1, h7, h8, q1, q2, q3, q4, hgi, w1, Int.toNat_natCast] <;> rfl), by (simp only [push_cast, ↓reduceIte, Nat.reduceEqDiff, Nat.reduceAdd, Nat.reduceLeDiff, Int.reduceLE, Int.reduceLT, Int.reduceAdd, Int.reduceSub, Int.reduceNeg, Int.reduceBEq, Int.reduceBNe, Int.reduceEq, Int.reduceGT, Int.reduceGE, Int.reduceMul, Int.reduceToNat, Nat.reduceMul, reduceCtorEq, h0, h1, h7, h8, q1, q2, q3, q4, hgi, w1, Int.toNat_natCast] <;> rfl), by (simp only [push_cast, ↓reduceIte, Nat.reduceEqDiff, Nat.reduceAdd, Nat.reduceLeDiff, Int.reduceLE, Int.reduceLT, Int.reduceAdd, Int.reduceSub, Int.reduceNeg, Int.reduceBEq, Int.reduceBNe, Int.reduceEq, Int.reduceGT, Int.reduceGE, Int.reduceMul, Int.reduceToNat, Nat.reduceMul, reduceCtorEq, h0, h1, h7, h8, q1, q2, q3, q4, hgi, w1, Int.toNat_natCast] <;> rfl), by (simp only [push_cast, ↓reduceIte, Nat.reduceEqDiff, Nat.reduceAdd, Nat.reduceLeDiff, Int.reduceLE, Int.reduceLT, Int.reduceAdd, Int.reduceSub, Int.reduceNeg, Int.reduceBEq, Int.reduceBNe, Int.reduceEq, Int.reduceGT, Int.reduceGE, Int.reduceMul, Int.reduceToNat, Nat.reduceMul, reduceCtorEq, h0, h1, h7, h8, q1, q2, q3, q4, hgi, w1, Int.toNat_natCast] <;> rfl), hk⟩)
    · have q1 : ((i : Int) < (l.length : Int)) = False := by simp; omega
      refine AWp.seq ?_
      (refine aw_regionL hS (by kernel_rfl) ?_; repeat (first | apply vr0u | apply vr4 | apply b_tt | apply b_ff | apply b_tf | apply b_ft | apply b_no | exact isD.mk rfl | (apply eqG; (simp only [push_cast, ↓reduceIte, Nat.reduceEqDiff, Nat.reduceAdd, Nat.reduceLeDiff, Int.reduceLE, Int.reduceLT, Int.reduceAdd, Int.reduceSub, Int.reduceNeg, Int.reduceBEq, Int.reduceBNe, Int.reduceEq, Int.reduceGT, Int.reduceGE, Int.reduceMul, Int.reduceToNat, Nat.reduceMul, reduceCtorEq, h0, h1, h7, h8, q1] <;> rfl))))
      refine vr_nil (aw_then ?_)
      refine AWp.seq ?_
      refine aw_false (by (simp only [push_cast, ↓reduceIte, Nat.reduceEqDiff, Nat.reduceAdd, Nat.reduceLeDiff, Int.reduceLE, Int.reduceLT, Int.reduceAdd, Int.reduceSub, Int.reduceNeg, Int.reduceBEq, Int.reduceBNe, Int.reduceEq, Int.reduceGT, Int.reduceGE, Int.reduceMul, Int.reduceToNat, Nat.reduceMul, reduceCtorEq, h0, h1, h7, h8, q1] <;> rfl)) (AWp.exit (aw_thru (aw_thru (aw_exit (aw_then ?_)))))
      refine AWp.seq ?_
      (refine aw_regionL hS (by kernel_rfl) ?_; repeat (first | apply vr0u | apply vr4 | apply b_tt | apply b_ff | apply b_tf | apply b_ft | apply b_no | exact isD.mk rfl | (apply eqG; (simp only [push_cast, ↓reduceIte, Nat.reduceEqDiff, Nat.reduceAdd, Nat.reduceLeDiff, Int.reduceLE, Int.reduceLT, Int.reduceAdd, Int.reduceSub, Int.reduceNeg, Int.reduceBEq, Int.reduceBNe, Int.reduceEq, Int.reduceGT, Int.reduceGE, Int.reduceMul, Int.reduceToNat, Nat.reduceMul, reduceCtorEq, h0, h1, h7, h8, q1] <;> rfl))))
      refine vr_nil (aw_then ?_)
      refine AWp.ret ?_
      exact Out.pure1 (.inr rfl) rfl (by (simp only [push_cast, ↓reduceIte, Nat.reduceEqDiff, Nat.reduceAdd, Nat.reduceLeDiff, Int.reduceLE, Int.reduceLT, Int.reduceAdd, Int.reduceSub, Int.reduceNeg, Int.reduceBEq, Int.reduceBNe, Int.reduceEq, Int.reduceGT, Int.reduceGE, Int.reduceMul, Int.reduceToNat, Nat.reduceMul, reduceCtorEq, h0, h1, h7, h8, q1] <;> rfl)) (by rw [idxB_no t 0 (fun j hj => hno j (by omega) hj)]) trivial hk
theorem c56 (z : Bool) (l : List Bk) (t : Tx) (S : Sums) (hS : SumOk Try.prog S) (h62 : ∀ h, S 62 [.ro z (bks l) l.length, .fn (.func 57) [] [.q (txC t) 0]] h = .pure (.i .i64 (idxB t l 0))) :
    PCalls Try.prog 56 [.ro z (bks l) l.length, .fn (.func 57) [] [.q (txC t) 0]] (.b (inChain t l)) := by
  intro h n
  refine DCalls.of Try.func56 rfl (by decide) (Nat.le_of_ble_eq_true rfl) (Nat.le_refl _) ?_
  refine AWp.seq ?_
  (refine aw_regionL hS (by kernel_rfl) ?_; repeat (first | apply vr0u | apply vr4 | apply b_tt | apply b_ff | apply b_tf | apply b_ft | apply b_no | exact isD.mk rfl | (apply eqG; (simp only [push_cast, ↓reduceIte, Nat.reduceEqDiff, Nat.reduceAdd, Nat.reduceLeDiff, Int.reduceLE, Int.reduceLT, Int.reduceAdd, Int.reduceSub, Int.reduceNeg, Int.reduceBEq, Int.reduceBNe, Int.reduceEq, Int.reduceGT, Int.reduceGE, Int.reduceMul, Int.reduceToNat, Nat.reduceMul, reduceCtorEq, h62] <;> rfl))))
  refine vr_nil (aw_then ?_)
  refine AWp.seq ?_
  (refine aw_regionL hS (by kernel_rfl) ?_; repeat (first | apply vr0u | apply vr4 | apply b_tt | apply b_ff | apply b_tf | apply b_ft | apply b_no | exact isD.mk rfl | (apply eqG; (simp only [push_cast, ↓reduceIte, Nat.reduceEqDiff, Nat.reduceAdd, Nat.reduceLeDiff, Int.reduceLE, Int.reduceLT, Int.reduceAdd, Int.reduceSub, Int.reduceNeg, Int.reduceBEq, Int.reduceBNe, Int.reduceEq, Int.reduceGT, Int.reduceGE, Int.reduceMul, Int.reduceToNat, Nat.reduceMul, reduceCtorEq, h62] <;> rfl))))
  refine vr_nil (aw_then ?_)
  refine AWp.ret ?_
  exact Out.pure1 (.inr rfl) rfl (by (simp only [push_cast, ↓reduceIte, Nat.reduceEqDiff, Nat.reduceAdd, Nat.reduceLeDiff, Int.reduceLE, Int.reduceLT, Int.reduceAdd, Int.reduceSub, Int.reduceNeg, Int.reduceBEq, Int.reduceBNe, Int.reduceEq, Int.reduceGT, Int.reduceGE, Int.reduceMul, Int.reduceToNat, Nat.reduceMul, reduceCtorEq, h62] <;> rfl)) (by rw [← idxB_any]) trivial keep0
/-! ### copies -/
theorem nil_val {z : Bool} {b : List UInt8} (hz : z = true → b = []) (ht : z = true) : AV.ro true [] 0 = .ro z (cellsB b) b.length := by
  rw [hz ht, ht]; rfl
theorem nil_val' {z : Bool} {l : List Tx} (hz : z = true → l = []) (ht : z = true) : AV.ro true [] 0 = .ro z (txs l) l.length := by
  rw [hz ht, ht]; rfl
theorem c61 (z : Bool) (b : List UInt8) (hz : z = true → b = []) (hb : b.length ≤ 100000) (S : Sums) (hS : SumOk Try.prog S) : PCalls Try.prog 61 [.ro z (cellsB b) b.length] (.ro z (cellsB b) b.length) := by
  intro h n
  refine DCalls.of Try.func61 rfl (by decide) (Nat.le_of_ble_eq_true rfl) (Nat.le_refl _) ?_
  have r0 : rep 0 [AV.i .u8 0] = [] := rfl
  have qa : (b.length ≤ 140737488355328) = True := by simp; omega
  have qb : (b.length ≤ 9223372036854775807) = True := by simp; omega
  refine AWp.seq ?_
  (refine aw_regionL hS (by kernel_rfl) ?_; repeat (first | apply vr0u | apply vr4 | apply b_tt | apply b_ff | apply b_tf | apply b_ft | apply b_no | exact isD.mk rfl | (apply eqG; (simp only [push_cast, ↓reduceIte, Nat.reduceEqDiff, Nat.reduceAdd, Nat.reduceLeDiff, Int.reduceLE, Int.reduceLT, Int.reduceAdd, Int.reduceSub, Int.reduceNeg, Int.reduceBEq, Int.reduceBNe, Int.reduceEq, Int.reduceGT, Int.reduceGE, Int.reduceMul, Int.reduceToNat, Nat.reduceMul, reduceCtorEq, r0, qa, qb, Nat.reduceLT] <;> rfl))))
  refine vr_nil (aw_then ?_)
  refine AWp.seq ?_
  refine AWp.seq ?_
  refine aw_nil (x := .ro z (cellsB b) b.length) (u := z) slT_51 (by (simp only [push_cast, ↓reduceIte, Nat.reduceEqDiff, Nat.reduceAdd, Nat.reduceLeDiff, Int.reduceLE, Int.reduceLT, Int.reduceAdd, Int.reduceSub, Int.reduceNeg, Int.reduceBEq, Int.reduceBNe, Int.reduceEq, Int.reduceGT, Int.reduceGE, Int.reduceMul, Int.reduceToNat, Nat.reduceMul, reduceCtorEq, r0, qa, qb, Nat.reduceLT] <;> rfl)) rfl (by kernel_rfl) (aw_then ?_)
  refine aw_split (by (simp only [push_cast, ↓reduceIte, Nat.reduceEqDiff, Nat.reduceAdd, Nat.reduceLeDiff, Int.reduceLE, Int.reduceLT, Int.reduceAdd, Int.reduceSub, Int.reduceNeg, Int.reduceBEq, Int.reduceBNe, Int.reduceEq, Int.reduceGT, Int.reduceGE, Int.reduceMul, Int.reduceToNat, Nat.reduceMul, reduceCtorEq, r0, qa, qb, Nat.reduceLT] <;> rfl)) (fun hu => ?_) (fun hu => ?_)
  · refine AWp.seq ?_
    (refine aw_regionL hS (by kernel_rfl) ?_; repeat (first | apply vr0u | apply vr4 | apply b_tt | apply b_ff | apply b_tf | apply b_ft | apply b_no | exact isD.mk rfl | (apply eqG; (simp only [push_cast, ↓reduceIte, Nat.reduceEqDiff, Nat.reduceAdd, Nat.reduceLeDiff, Int.reduceLE, Int.reduceLT, Int.reduceAdd, Int.reduceSub, Int.reduceNeg, Int.reduceBEq, Int.reduceBNe, Int.reduceEq, Int.reduceGT, Int.reduceGE, Int.reduceMul, Int.reduceToNat, Nat.reduceMul, reduceCtorEq, r0, qa, qb, Nat.reduceLT] <;> rfl))))
    refine vr_nil (aw_then ?_)
    refine AWp.ret ?_
    exact Out.pure1 (.inr rfl) rfl (by (simp only [push_cast, ↓reduceIte, Nat.reduceEqDiff, Nat.reduceAdd, Nat.reduceLeDiff, Int.reduceLE, Int.reduceLT, Int.reduceAdd, Int.reduceSub, Int.reduceNeg, Int.reduceBEq, Int.reduceBNe, Int.reduceEq, Int.reduceGT, Int.reduceGE, Int.reduceMul, Int.reduceToNat, Nat.reduceMul, reduceCtorEq, r0, qa, qb, Nat.reduceLT] <;> rfl)) (nil_val hz hu) (AV.free_names _ (by simp [AV.free, free_cellsB])) keep0
  · refine AWp.skip (aw_then ?_)
    refine AWp.seq ?_
    (refine aw_regionL hS (by kernel_rfl) ?_; repeat (first | apply vr0u | apply vr4 | apply b_tt | apply b_ff | apply b_tf | apply b_ft | apply b_no | exact isD.mk rfl | (apply eqG; (simp only [push_cast, ↓reduceIte, Nat.reduceEqDiff, Nat.reduceAdd, Nat.reduceLeDiff, Int.reduceLE, Int.reduceLT, Int.reduceAdd, Int.reduceSub, Int.reduceNeg, Int.reduceBEq, Int.reduceBNe, Int.reduceEq, Int.reduceGT, Int.reduceGE, Int.reduceMul, Int.reduceToNat, Nat.reduceMul, reduceCtorEq, r0, qa, qb, Nat.reduceLT] <;> rfl))))
    refine vr_nil (aw_then ?_)
    refine AWp.freeze (j := n + 1) (k := 2) (by (simp only [push_cast, ↓reduceIte, Nat.reduceEqDiff, Nat.reduceAdd, Nat.reduceLeDiff, Int.reduceLE, Int.reduceLT, Int.reduceAdd, Int.reduceSub, Int.reduceNeg, Int.reduceBEq, Int.reduceBNe, Int.reduceEq, Int.reduceGT, Int.reduceGE, Int.reduceMul, Int.reduceToNat, Nat.reduceMul, reduceCtorEq, r0, qa, qb, Nat.reduceLT] <;> rfl)) (by (simp only [push_cast, ↓reduceIte, Nat.reduceEqDiff, Nat.reduceAdd, Nat.reduceLeDiff, Int.reduceLE, Int.reduceLT, Int.reduceAdd, Int.reduceSub, Int.reduceNeg, Int.reduceBEq, Int.reduceBNe, Int.reduceEq, Int.reduceGT, Int.reduceGE, Int.reduceMul, Int.reduceToNat, Nat.reduceMul, reduceCtorEq, r0, qa, qb, Nat.reduceLT] <;> rfl)) (by simp [cellsB]) ?_
    refine AWp.ret ?_
    exact Out.pure1 (.inr rfl) rfl (by (simp only [push_cast, ↓reduceIte, Nat.reduceEqDiff, Nat.reduceAdd, Nat.reduceLeDiff, Int.reduceLE, Int.reduceLT, Int.reduceAdd, Int.reduceSub, Int.reduceNeg, Int.reduceBEq, Int.reduceBNe, Int.reduceEq, Int.reduceGT, Int.reduceGE, Int.reduceMul, Int.reduceToNat, Nat.reduceMul, reduceCtorEq, r0, qa, qb, Nat.reduceLT] <;> rfl)) (by rw [hu]) (AV.free_names _ (by simp [AV.free, free_cellsB])) (keepU (by omega) (keepU (by omega) (keepU (by omega) (keepU (by omega) keep0))))
theorem take_txs (l : List Tx) : (txs l).take (l.length * 2) = txs l := List.take_of_length_le (by rw [txs_len]; exact Nat.le_refl _)
theorem len_txs (l : List Tx) : (l.length * 2 ≤ (txs l).length) = True := by rw [txs_len]; simp
/-- A copy of transactions: new memory, where they are not nil. -/
theorem c54n (S : Sums) (hS : SumOk Try.prog S) : PCalls Try.prog 54 [.ro true [] 0] (.ro true [] 0) := by
  intro h n
  refine DCalls.of Try.func54 rfl (by decide) (Nat.le_of_ble_eq_true rfl) (Nat.le_refl _) ?_
  refine AWp.seq ?_
  (refine aw_regionL hS (by kernel_rfl) ?_; repeat (first | apply vr0u | apply vr4 | apply b_tt | apply b_ff | apply b_tf | apply b_ft | apply b_no | exact isD.mk rfl | (apply eqG; (simp only [push_cast, ↓reduceIte, Nat.reduceEqDiff, Nat.reduceAdd, Nat.reduceLeDiff, Int.reduceLE, Int.reduceLT, Int.reduceAdd, Int.reduceSub, Int.reduceNeg, Int.reduceBEq, Int.reduceBNe, Int.reduceEq, Int.reduceGT, Int.reduceGE, Int.reduceMul, Int.reduceToNat, Nat.reduceMul, reduceCtorEq] <;> rfl))))
  refine vr_nil (aw_then ?_)
  refine AWp.seq ?_
  refine AWp.seq ?_
  refine aw_nil (x := .ro true [] 0) (u := true) slT_50 (by (simp only [push_cast, ↓reduceIte, Nat.reduceEqDiff, Nat.reduceAdd, Nat.reduceLeDiff, Int.reduceLE, Int.reduceLT, Int.reduceAdd, Int.reduceSub, Int.reduceNeg, Int.reduceBEq, Int.reduceBNe, Int.reduceEq, Int.reduceGT, Int.reduceGE, Int.reduceMul, Int.reduceToNat, Nat.reduceMul, reduceCtorEq] <;> rfl)) rfl (by kernel_rfl) (aw_then ?_)
  refine aw_true (by (simp only [push_cast, ↓reduceIte, Nat.reduceEqDiff, Nat.reduceAdd, Nat.reduceLeDiff, Int.reduceLE, Int.reduceLT, Int.reduceAdd, Int.reduceSub, Int.reduceNeg, Int.reduceBEq, Int.reduceBNe, Int.reduceEq, Int.reduceGT, Int.reduceGE, Int.reduceMul, Int.reduceToNat, Nat.reduceMul, reduceCtorEq] <;> rfl)) ?_
  refine AWp.seq ?_
  (refine aw_regionL hS (by kernel_rfl) ?_; repeat (first | apply vr0u | apply vr4 | apply b_tt | apply b_ff | apply b_tf | apply b_ft | apply b_no | exact isD.mk rfl | (apply eqG; (simp only [push_cast, ↓reduceIte, Nat.reduceEqDiff, Nat.reduceAdd, Nat.reduceLeDiff, Int.reduceLE, Int.reduceLT, Int.reduceAdd, Int.reduceSub, Int.reduceNeg, Int.reduceBEq, Int.reduceBNe, Int.reduceEq, Int.reduceGT, Int.reduceGE, Int.reduceMul, Int.reduceToNat, Nat.reduceMul, reduceCtorEq] <;> rfl))))
  refine vr_nil (aw_then ?_)
  refine AWp.ret ?_
  exact Out.pure1 (.inr rfl) rfl (by (simp only [push_cast, ↓reduceIte, Nat.reduceEqDiff, Nat.reduceAdd, Nat.reduceLeDiff, Int.reduceLE, Int.reduceLT, Int.reduceAdd, Int.reduceSub, Int.reduceNeg, Int.reduceBEq, Int.reduceBNe, Int.reduceEq, Int.reduceGT, Int.reduceGE, Int.reduceMul, Int.reduceToNat, Nat.reduceMul, reduceCtorEq] <;> rfl)) rfl trivial keep0
theorem c54 (l : List Tx) (hl : l.length ≤ 100000) (S : Sums) (hS : SumOk Try.prog S) : ∀ h n, DCalls Try.prog 54 [.ro false (txs l) l.length] h n (.sl 2 n 0 l.length) [(n, some (.cells (txs l)))] (n + 1) := by
  intro h n
  refine DCalls.of Try.func54 rfl (by decide) (Nat.le_of_ble_eq_true rfl) (Nat.le_succ _) ?_
  have r0 : rep 0 [AV.i .i64 0, AV.ro true [] 0] = [] := rfl
  have qa : (l.length * 32 ≤ 140737488355328) = True := by simp; omega
  have qb : (l.length ≤ 9223372036854775807) = True := by simp; omega
  have qt := take_txs l
  have ql := len_txs l
  refine AWp.seq ?_
  (refine aw_regionL hS (by kernel_rfl) ?_; repeat (first | apply vr0u | apply vr4 | apply b_tt | apply b_ff | apply b_tf | apply b_ft | apply b_no | exact isD.mk rfl | (apply eqG; (simp only [push_cast, ↓reduceIte, Nat.reduceEqDiff, Nat.reduceAdd, Nat.reduceLeDiff, Int.reduceLE, Int.reduceLT, Int.reduceAdd, Int.reduceSub, Int.reduceNeg, Int.reduceBEq, Int.reduceBNe, Int.reduceEq, Int.reduceGT, Int.reduceGE, Int.reduceMul, Int.reduceToNat, Nat.reduceMul, reduceCtorEq, r0, qa, qb, qt, ql, Nat.reduceLT] <;> rfl))))
  refine vr_nil (aw_then ?_)
  refine AWp.seq ?_
  refine AWp.seq ?_
  refine aw_nil (x := .ro false (txs l) l.length) (u := false) slT_50 (by (simp only [push_cast, ↓reduceIte, Nat.reduceEqDiff, Nat.reduceAdd, Nat.reduceLeDiff, Int.reduceLE, Int.reduceLT, Int.reduceAdd, Int.reduceSub, Int.reduceNeg, Int.reduceBEq, Int.reduceBNe, Int.reduceEq, Int.reduceGT, Int.reduceGE, Int.reduceMul, Int.reduceToNat, Nat.reduceMul, reduceCtorEq, r0, qa, qb, qt, ql, Nat.reduceLT] <;> rfl)) rfl (by kernel_rfl) (aw_then ?_)
  refine aw_false (by (simp only [push_cast, ↓reduceIte, Nat.reduceEqDiff, Nat.reduceAdd, Nat.reduceLeDiff, Int.reduceLE, Int.reduceLT, Int.reduceAdd, Int.reduceSub, Int.reduceNeg, Int.reduceBEq, Int.reduceBNe, Int.reduceEq, Int.reduceGT, Int.reduceGE, Int.reduceMul, Int.reduceToNat, Nat.reduceMul, reduceCtorEq, r0, qa, qb, qt, ql, Nat.reduceLT] <;> rfl)) (AWp.skip (aw_then ?_))
  refine AWp.seq ?_
  (refine aw_regionL hS (by kernel_rfl) ?_; repeat (first | apply vr0u | apply vr4 | apply b_tt | apply b_ff | apply b_tf | apply b_ft | apply b_no | exact isD.mk rfl | (apply eqG; (simp only [push_cast, ↓reduceIte, Nat.reduceEqDiff, Nat.reduceAdd, Nat.reduceLeDiff, Int.reduceLE, Int.reduceLT, Int.reduceAdd, Int.reduceSub, Int.reduceNeg, Int.reduceBEq, Int.reduceBNe, Int.reduceEq, Int.reduceGT, Int.reduceGE, Int.reduceMul, Int.reduceToNat, Nat.reduceMul, reduceCtorEq, r0, qa, qb, qt, ql, Nat.reduceLT] <;> rfl))))
  refine vr_nil (aw_then ?_)
  refine AWp.ret ?_
  exact Out.fresh1 (j := n + 1) (.inr rfl) rfl (by (simp only [push_cast, ↓reduceIte, Nat.reduceEqDiff, Nat.reduceAdd, Nat.reduceLeDiff, Int.reduceLE, Int.reduceLT, Int.reduceAdd, Int.reduceSub, Int.reduceNeg, Int.reduceBEq, Int.reduceBNe, Int.reduceEq, Int.reduceGT, Int.reduceGE, Int.reduceMul, Int.reduceToNat, Nat.reduceMul, reduceCtorEq, r0, qa, qb, qt, ql, Nat.reduceLT] <;> rfl)) (by omega) (by omega) (by (simp only [push_cast, ↓reduceIte, Nat.reduceEqDiff, Nat.reduceAdd, Nat.reduceLeDiff, Int.reduceLE, Int.reduceLT, Int.reduceAdd, Int.reduceSub, Int.reduceNeg, Int.reduceBEq, Int.reduceBNe, Int.reduceEq, Int.reduceGT, Int.reduceGE, Int.reduceMul, Int.reduceToNat, Nat.reduceMul, reduceCtorEq, r0, qa, qb, qt, ql, Nat.reduceLT] <;> rfl)) (free_txs l) (keepU (by omega) (keepU (by omega) (keepU (by omega) keep0)))
end Go.Proofs.Ytpgohmcolcfhfaa
