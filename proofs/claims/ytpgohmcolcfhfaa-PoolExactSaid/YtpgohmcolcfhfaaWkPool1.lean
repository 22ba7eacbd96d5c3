import Derived.Test.YtpgohmcolcfhfaaWkOpen
import Derived.Test.YtpgohmcolcfhfaaWkFold
import Derived.Test.YtpgohmcolcfhfaaAv28
import Derived.Laws.Strings

namespace Go.Proofs.Ytpgohmcolcfhfaa
open Go.Av
set_option maxRecDepth 100000
set_option maxHeartbeats 1000000
set_option linter.unusedSimpArgs false
set_option linter.unusedVariables false
theorem slT_50 : slT Try.prog 50 = some (53, 2, 32) := by kernel_rfl
theorem slT_54 : slT Try.prog 54 = some (57, 4, 48) := by kernel_rfl
theorem agT_53 : agT Try.prog 53 = some true := by kernel_rfl
theorem szT_53 : szT Try.prog 53 = some 2 := by kernel_rfl
theorem agT_57 : agT Try.prog 57 = some true := by kernel_rfl
theorem szT_57 : szT Try.prog 57 = some 4 := by kernel_rfl
theorem flT_53_0 : flT Try.prog 53 0 = some (0, 1, false) := by kernel_rfl
theorem flT_53_1 : flT Try.prog 53 1 = some (1, 1, false) := by kernel_rfl
theorem flT_57_3 : flT Try.prog 57 3 = some (3, 1, false) := by kernel_rfl
theorem agT_50 : agT Try.prog 50 = some false := by kernel_rfl
theorem szT_50 : szT Try.prog 50 = some 1 := by kernel_rfl
theorem agT_51 : agT Try.prog 51 = some false := by kernel_rfl
theorem szT_51 : szT Try.prog 51 = some 1 := by kernel_rfl
theorem zeT_53 : zeT Try.prog 53 = some [.i .i64 0, .ro true [] 0] := by kernel_rfl
theorem zeT_57 : zeT Try.prog 57 = some [.i .i64 0, .i .i64 0, .i .i64 0, .ro true [] 0] := by kernel_rfl
theorem buT_53 : buT Try.prog 53 = some [(0, 1), (1, 1)] := by kernel_rfl
theorem buT_57 : buT Try.prog 57 = some [(0, 1), (1, 1), (2, 1), (3, 1)] := by kernel_rfl
theorem kiT_34 : kiT Try.prog 34 = some (.int .i64) := by kernel_rfl
/-! ### transactions, as values -/
structure Tx where
  f : Int
  z : Bool
  b : List UInt8
def Tx.ok (x : Tx) : Prop := (x.z = true → x.b = []) ∧ x.b.length ≤ 100000
def txC (x : Tx) : List AV := [.i .i64 x.f, .ro x.z (cellsB x.b) x.b.length]
def txs (l : List Tx) : List AV := l.flatMap txC
theorem txC_0 (x : Tx) : (txC x)[0]? = some (.i .i64 x.f) := rfl
theorem txC_1 (x : Tx) : (txC x)[1]? = some (.ro x.z (cellsB x.b) x.b.length) := rfl
theorem txC_len (x : Tx) : (txC x).length = 2 := rfl
theorem txC_take (x : Tx) : (txC x).take 2 = txC x := rfl
theorem txs_len (l : List Tx) : (txs l).length = l.length * 2 := by
  induction l with
  | nil => rfl
  | cons x l ih => simp only [txs, List.flatMap_cons, List.length_append, txC_len, List.length_cons] at ih ⊢; omega
theorem txs_get : ∀ {l : List Tx} {i : Nat} (hi : i < l.length), ((txs l).drop (i * 2)).take 2 = txC l[i]
  | x :: l, 0, _ => rfl
  | x :: l, i + 1, hi => by
    have : (txs (x :: l)).drop ((i + 1) * 2) = (txs l).drop (i * 2) := by
      rw [show (i + 1) * 2 = i * 2 + 1 + 1 by omega]; rfl
    rw [this, txs_get (Nat.lt_of_succ_lt_succ hi)]; rfl
theorem txs_in {l : List Tx} {i : Nat} (hi : i < l.length) : (i * 2 + 2 ≤ (txs l).length) = True := by rw [txs_len]; simp only [eq_iff_iff, iff_true]; omega
theorem free_cellsB : ∀ l : List UInt8, freeAll (cellsB l) = true
  | [] => rfl
  | b :: l => by have := free_cellsB l; simpa [cellsB, freeAll, AV.free] using this
theorem free_txC (x : Tx) : freeAll (txC x) = true := by simp [txC, freeAll, AV.free, free_cellsB]
theorem free_app : ∀ (a b : List AV), freeAll (a ++ b) = (freeAll a && freeAll b)
  | [], b => by simp [freeAll]
  | x :: a, b => by simp [freeAll, free_app a b, Bool.and_assoc]
theorem free_txs : ∀ l : List Tx, freeAll (txs l) = true
  | [] => rfl
  | x :: l => by
    have := free_txs l
    simp only [txs, List.flatMap_cons] at this ⊢
    rw [free_app, free_txC, this]; rfl
/-- Two are the same. -/
def sameT (x y : Tx) : Bool := (x.f == y.f) && (x.b == y.b)
/-- Where the first one that is the same stands. -/
def idxF (t : Tx) : List Tx → Int → Int
  | [], _ => -1
  | x :: l, i => if sameT x t then i else idxF t l (i + 1)
def anyT (t : Tx) (l : List Tx) : Bool := l.any fun x => sameT x t
theorem idxF_at (t : Tx) : ∀ {l : List Tx} {i : Nat} (hi : i < l.length) (k : Int), (∀ j, j < i → ∀ hj : j < l.length, sameT l[j] t = false) → sameT l[i] t = true → idxF t l k = k + i
  | x :: l, 0, _, k, _, h => by
    have h : sameT x t = true := h
    simp only [idxF]; rw [if_pos h]; simp
  | x :: l, i + 1, hi, k, h0, h => by
    have h1 := h0 0 (by omega) (by simp)
    simp only [idxF]
    rw [if_neg (by rw [show (x :: l)[0] = x from rfl] at h1; rw [h1]; simp), idxF_at t (Nat.lt_of_succ_lt_succ hi) (k + 1) (fun j hj hjl => h0 (j + 1) (by omega) (by simp; omega)) h]
    omega
theorem idxF_no (t : Tx) : ∀ {l : List Tx} (k : Int), (∀ j, ∀ hj : j < l.length, sameT l[j] t = false) → idxF t l k = -1
  | [], _, _ => rfl
  | x :: l, k, h0 => by
    have h1 := h0 0 (by simp)
    simp only [idxF]
    rw [if_neg (by rw [show (x :: l)[0] = x from rfl] at h1; rw [h1]; simp), idxF_no t (k + 1) (fun j hj => h0 (j + 1) (by simp; omega))]
theorem idxF_pos (t : Tx) : ∀ (l : List Tx) (k : Int), 0 ≤ k → (0 ≤ idxF t l k ↔ anyT t l = true)
  | [], _, _ => by simp [idxF, anyT]
  | x :: l, k, hk => by
    have ih := idxF_pos t l (k + 1) (by omega)
    by_cases h : sameT x t = true
    · have e : idxF t (x :: l) k = k := by simp only [idxF]; rw [if_pos h]
      rw [e]; simp [anyT, h, hk]
    · have e : idxF t (x :: l) k = idxF t l (k + 1) := by simp only [idxF]; rw [if_neg h]
      have h' : sameT x t = false := by simpa using h
      rw [e, ih]; simp [anyT, h']
theorem idxF_any (t : Tx) (l : List Tx) : decide (idxF t l 0 ≥ 0) = anyT t l := by
  rw [Bool.eq_iff_iff, decide_eq_true_eq]
  exact idxF_pos t l 0 (Int.le_refl 0)
theorem str_eq (a b : List UInt8) : (({ data := a.toArray } : ByteArray).toList == ({ data := b.toArray } : ByteArray).toList) = (a == b) := by
  rw [ByteArray.toList_eq, ByteArray.toList_eq]
theorem take_cellsB (l : List UInt8) : (cellsB l).take l.length = cellsB l := List.take_of_length_le (by simp [cellsB])
theorem len_cellsB (l : List UInt8) : (l.length ≤ (cellsB l).length) = True := by simp [cellsB]
attribute [local push_cast] stepE callR resE aeff aev ofC ofC1 put_at Av.put_none inTmps List.getD_cons_zero List.getD_cons_succ AV.boxable if_true if_false AV.cells aload place app_cons app_nil upd_same Av.part abin aconv aindexAddr fillA splice_one splice_two abuiltin alen amax amin aun aindex Option.map_some List.map_cons List.map_nil List.nil_append List.append_nil List.cons_append Nat.le_refl Nat.zero_add List.length_cons List.length_nil List.drop_succ_cons List.drop_zero List.take_succ_cons List.take_zero beq_self_eq_true bne_self_eq_false Bool.not_true Bool.not_false List.set_cons_zero List.set_cons_succ Bool.false_eq_true IntWalk.i64_in decide_true decide_false Int.toNat_zero and_self and_true true_and List.getElem?_cons_zero List.getElem?_cons_succ agT_26 szT_26 slT_24 agT_24 szT_24 flT_26_0 flT_26_1 flT_26_3 flT_26_2 agT_22 szT_22 arT_22 agT_3 szT_3 kiT_3 kiT_23 kiT_4 zeT_26 buT_26 zeT_22 buT_22 kiT_9 kiT_51 kiT_5 und_51 slT_51 agT_5 szT_5 aappend aapp view slT_24 zeT_3 byT_24 Bool.and_true Bool.true_and Nat.mul_one alen slT_50 agT_53 szT_53 flT_53_0 flT_53_1 agT_57 szT_57 flT_57_3 slT_54 agT_50 szT_50 agT_51 szT_51 zeT_53 buT_53 zeT_57 buT_57 kiT_34 Option.map_none aslice asliceB amin amax txC_0 txC_1 txC_len txC_take take_cellsB len_cellsB unbytes_cells

theorem c60 (za zb : Bool) (a b : List UInt8) (S : Sums) (hS : SumOk Try.prog S) : PCalls Try.prog 60 [.ro za (cellsB a) a.length, .ro zb (cellsB b) b.length] (.b (a == b)) := by
  intro h n
  refine DCalls.of Try.func60 rfl (by decide) (Nat.le_of_ble_eq_true rfl) (Nat.le_refl _) ?_
  have q := str_eq a b
  refine AWp.seq ?_
  (refine aw_regionL hS (by kernel_rfl) ?_; repeat (first | apply vr0u | apply vr4 | apply b_tt | apply b_ff | apply b_tf | apply b_ft | apply b_no | exact isD.mk rfl | (apply eqG; (simp only [push_cast, ↓reduceIte, Nat.reduceEqDiff, Nat.reduceAdd, Nat.reduceLeDiff, Int.reduceLE, Int.reduceLT, Int.reduceAdd, Int.reduceSub, Int.reduceNeg, Int.reduceBEq, Int.reduceBNe, Int.reduceEq, Int.reduceGT, Int.reduceGE, Int.reduceMul, Int.reduceToNat, Nat.reduceMul, reduceCtorEq, q] <;> rfl))))
  refine vr_nil (aw_then ?_)
  refine AWp.seq ?_
  (refine aw_regionL hS (by kernel_rfl) ?_; repeat (first | apply vr0u | apply vr4 | apply b_tt | apply b_ff | apply b_tf | apply b_ft | apply b_no | exact isD.mk rfl | (apply eqG; (simp only [push_cast, ↓reduceIte, Nat.reduceEqDiff, Nat.reduceAdd, Nat.reduceLeDiff, Int.reduceLE, Int.reduceLT, Int.reduceAdd, Int.reduceSub, Int.reduceNeg, Int.reduceBEq, Int.reduceBNe, Int.reduceEq, Int.reduceGT, Int.reduceGE, Int.reduceMul, Int.reduceToNat, Nat.reduceMul, reduceCtorEq, q] <;> rfl))))
  refine vr_nil (aw_then ?_)
  refine AWp.ret ?_
  exact Out.pure1 (.inr rfl) rfl (by (simp only [push_cast, ↓reduceIte, Nat.reduceEqDiff, Nat.reduceAdd, Nat.reduceLeDiff, Int.reduceLE, Int.reduceLT, Int.reduceAdd, Int.reduceSub, Int.reduceNeg, Int.reduceBEq, Int.reduceBNe, Int.reduceEq, Int.reduceGT, Int.reduceGE, Int.reduceMul, Int.reduceToNat, Nat.reduceMul, reduceCtorEq, q] <;> rfl)) rfl trivial keep0
theorem c52 (x y : Tx) (S : Sums) (hS : SumOk Try.prog S) (h60 : ∀ h, S 60 [.ro x.z (cellsB x.b) x.b.length, .ro y.z (cellsB y.b) y.b.length] h = .pure (.b (x.b == y.b))) : PCalls Try.prog 52 [.agg (txC x), .agg (txC y)] (.b (sameT x y)) := by
  intro h n
  refine DCalls.of Try.func52 rfl (by decide) (Nat.le_of_ble_eq_true rfl) (Nat.le_refl _) ?_
  have upd0 : ∀ (g : Heap) (r : Option Row), upd g (n + 1) r n = g n := fun g r => upd_ne _ _ (by omega)
  refine AWp.seq ?_
  (refine aw_regionL hS (by kernel_rfl) ?_; repeat (first | apply vr0u | apply vr4 | apply b_tt | apply b_ff | apply b_tf | apply b_ft | apply b_no | exact isD.mk rfl | (apply eqG; (simp only [push_cast, ↓reduceIte, Nat.reduceEqDiff, Nat.reduceAdd, Nat.reduceLeDiff, Int.reduceLE, Int.reduceLT, Int.reduceAdd, Int.reduceSub, Int.reduceNeg, Int.reduceBEq, Int.reduceBNe, Int.reduceEq, Int.reduceGT, Int.reduceGE, Int.reduceMul, Int.reduceToNat, Nat.reduceMul, reduceCtorEq, h60, upd0] <;> rfl))))
  refine vr_nil (aw_then ?_)
  refine AWp.seq ?_
  (refine aw_regionL hS (by kernel_rfl) ?_; repeat (first | apply vr0u | apply vr4 | apply b_tt | apply b_ff | apply b_tf | apply b_ft | apply b_no | exact isD.mk rfl | (apply eqG; (simp only [push_cast, ↓reduceIte, Nat.reduceEqDiff, Nat.reduceAdd, Nat.reduceLeDiff, Int.reduceLE, Int.reduceLT, Int.reduceAdd, Int.reduceSub, Int.reduceNeg, Int.reduceBEq, Int.reduceBNe, Int.reduceEq, Int.reduceGT, Int.reduceGE, Int.reduceMul, Int.reduceToNat, Nat.reduceMul, reduceCtorEq, h60, upd0] <;> rfl))))
  refine br_s (by (simp only [push_cast, ↓reduceIte, Nat.reduceEqDiff, Nat.reduceAdd, Nat.reduceLeDiff, Int.reduceLE, Int.reduceLT, Int.reduceAdd, Int.reduceSub, Int.reduceNeg, Int.reduceBEq, Int.reduceBNe, Int.reduceEq, Int.reduceGT, Int.reduceGE, Int.reduceMul, Int.reduceToNat, Nat.reduceMul, reduceCtorEq, h60, upd0] <;> rfl)) (fun hu => ?_) (fun hu => ?_)
  · repeat (first | apply vr0u | apply vr4 | apply b_tt | apply b_ff | apply b_tf | apply b_ft | apply b_no | exact isD.mk rfl | (apply eqG; (simp only [push_cast, ↓reduceIte, Nat.reduceEqDiff, Nat.reduceAdd, Nat.reduceLeDiff, Int.reduceLE, Int.reduceLT, Int.reduceAdd, Int.reduceSub, Int.reduceNeg, Int.reduceBEq, Int.reduceBNe, Int.reduceEq, Int.reduceGT, Int.reduceGE, Int.reduceMul, Int.reduceToNat, Nat.reduceMul, reduceCtorEq, h60, upd0] <;> rfl)))
    refine vr_nil (aw_then ?_)
    refine AWp.ret ?_
    exact Out.pure1 (.inr rfl) rfl (by (simp only [push_cast, ↓reduceIte, Nat.reduceEqDiff, Nat.reduceAdd, Nat.reduceLeDiff, Int.reduceLE, Int.reduceLT, Int.reduceAdd, Int.reduceSub, Int.reduceNeg, Int.reduceBEq, Int.reduceBNe, Int.reduceEq, Int.reduceGT, Int.reduceGE, Int.reduceMul, Int.reduceToNat, Nat.reduceMul, reduceCtorEq, h60, upd0] <;> rfl)) (by rw [sameT, hu]; rfl) trivial (keepU (by omega) (keepU (by omega) keep0))
  · repeat (first | apply vr0u | apply vr4 | apply b_tt | apply b_ff | apply b_tf | apply b_ft | apply b_no | exact isD.mk rfl | (apply eqG; (simp only [push_cast, ↓reduceIte, Nat.reduceEqDiff, Nat.reduceAdd, Nat.reduceLeDiff, Int.reduceLE, Int.reduceLT, Int.reduceAdd, Int.reduceSub, Int.reduceNeg, Int.reduceBEq, Int.reduceBNe, Int.reduceEq, Int.reduceGT, Int.reduceGE, Int.reduceMul, Int.reduceToNat, Nat.reduceMul, reduceCtorEq, h60, upd0] <;> rfl)))
    refine vr_nil (aw_then ?_)
    refine AWp.ret ?_
    exact Out.pure1 (.inr rfl) rfl (by (simp only [push_cast, ↓reduceIte, Nat.reduceEqDiff, Nat.reduceAdd, Nat.reduceLeDiff, Int.reduceLE, Int.reduceLT, Int.reduceAdd, Int.reduceSub, Int.reduceNeg, Int.reduceBEq, Int.reduceBNe, Int.reduceEq, Int.reduceGT, Int.reduceGE, Int.reduceMul, Int.reduceToNat, Nat.reduceMul, reduceCtorEq, h60, upd0] <;> rfl)) (by rw [sameT, hu]; rfl) trivial (keepU (by omega) (keepU (by omega) keep0))
theorem c51 (x t : Tx) (S : Sums) (hS : SumOk Try.prog S) (h52 : ∀ h, S 52 [.agg (txC x), .agg (txC t)] h = .pure (.b (sameT x t))) : PCalls Try.prog 51 [.agg (txC x), .q (txC t) 0] (.b (sameT x t)) := by
  intro h n
  refine DCalls.of Try.func51 rfl (by decide) (Nat.le_of_ble_eq_true rfl) (Nat.le_refl _) ?_
  refine AWp.seq ?_
  (refine aw_regionL hS (by kernel_rfl) ?_; repeat (first | apply vr0u | apply vr4 | apply b_tt | apply b_ff | apply b_tf | apply b_ft | apply b_no | exact isD.mk rfl | (apply eqG; (simp only [push_cast, ↓reduceIte, Nat.reduceEqDiff, Nat.reduceAdd, Nat.reduceLeDiff, Int.reduceLE, Int.reduceLT, Int.reduceAdd, Int.reduceSub, Int.reduceNeg, Int.reduceBEq, Int.reduceBNe, Int.reduceEq, Int.reduceGT, Int.reduceGE, Int.reduceMul, Int.reduceToNat, Nat.reduceMul, reduceCtorEq, h52] <;> rfl))))
  refine vr_nil (aw_then ?_)
  refine AWp.seq ?_
  (refine aw_regionL hS (by kernel_rfl) ?_; repeat (first | apply vr0u | apply vr4 | apply b_tt | apply b_ff | apply b_tf | apply b_ft | apply b_no | exact isD.mk rfl | (apply eqG; (simp only [push_cast, ↓reduceIte, Nat.reduceEqDiff, Nat.reduceAdd, Nat.reduceLeDiff, Int.reduceLE, Int.reduceLT, Int.reduceAdd, Int.reduceSub, Int.reduceNeg, Int.reduceBEq, Int.reduceBNe, Int.reduceEq, Int.reduceGT, Int.reduceGE, Int.reduceMul, Int.reduceToNat, Nat.reduceMul, reduceCtorEq, h52] <;> rfl))))
  refine vr_nil (aw_then ?_)
  refine AWp.ret ?_
  exact Out.pure1 (.inr rfl) rfl (by (simp only [push_cast, ↓reduceIte, Nat.reduceEqDiff, Nat.reduceAdd, Nat.reduceLeDiff, Int.reduceLE, Int.reduceLT, Int.reduceAdd, Int.reduceSub, Int.reduceNeg, Int.reduceBEq, Int.reduceBNe, Int.reduceEq, Int.reduceGT, Int.reduceGE, Int.reduceMul, Int.reduceToNat, Nat.reduceMul, reduceCtorEq, h52] <;> rfl)) rfl trivial (keepU (by omega) keep0)
theorem c59 (x t : Tx) (S : Sums) (hS : SumOk Try.prog S) (h52 : ∀ h, S 52 [.agg (txC x), .agg (txC t)] h = .pure (.b (sameT x t))) : PCalls Try.prog 59 [.agg (txC x), .q (txC t) 0] (.b (sameT x t)) := by
  intro h n
  refine DCalls.of Try.func59 rfl (by decide) (Nat.le_of_ble_eq_true rfl) (Nat.le_refl _) ?_
  refine AWp.seq ?_
  (refine aw_regionL hS (by kernel_rfl) ?_; repeat (first | apply vr0u | apply vr4 | apply b_tt | apply b_ff | apply b_tf | apply b_ft | apply b_no | exact isD.mk rfl | (apply eqG; (simp only [push_cast, ↓reduceIte, Nat.reduceEqDiff, Nat.reduceAdd, Nat.reduceLeDiff, Int.reduceLE, Int.reduceLT, Int.reduceAdd, Int.reduceSub, Int.reduceNeg, Int.reduceBEq, Int.reduceBNe, Int.reduceEq, Int.reduceGT, Int.reduceGE, Int.reduceMul, Int.reduceToNat, Nat.reduceMul, reduceCtorEq, h52] <;> rfl))))
  refine vr_nil (aw_then ?_)
  refine AWp.seq ?_
  (refine aw_regionL hS (by kernel_rfl) ?_; repeat (first | apply vr0u | apply vr4 | apply b_tt | apply b_ff | apply b_tf | apply b_ft | apply b_no | exact isD.mk rfl | (apply eqG; (simp only [push_cast, ↓reduceIte, Nat.reduceEqDiff, Nat.reduceAdd, Nat.reduceLeDiff, Int.reduceLE, Int.reduceLT, Int.reduceAdd, Int.reduceSub, Int.reduceNeg, Int.reduceBEq, Int.reduceBNe, Int.reduceEq, Int.reduceGT, Int.reduceGE, Int.reduceMul, Int.reduceToNat, Nat.reduceMul, reduceCtorEq, h52] <;> rfl))))
  refine vr_nil (aw_then ?_)
  refine AWp.ret ?_
  exact Out.pure1 (.inr rfl) rfl (by (simp only [push_cast, ↓reduceIte, Nat.reduceEqDiff, Nat.reduceAdd, Nat.reduceLeDiff, Int.reduceLE, Int.reduceLT, Int.reduceAdd, Int.reduceSub, Int.reduceNeg, Int.reduceBEq, Int.reduceBNe, Int.reduceEq, Int.reduceGT, Int.reduceGE, Int.reduceMul, Int.reduceToNat, Nat.reduceMul, reduceCtorEq, h52] <;> rfl)) rfl trivial (keepU (by omega) keep0)
theorem c50 (g : Nat) (z : Bool) (l : List Tx) (t : Tx) (hl : l.length ≤ 100000) (S : Sums) (hS : SumOk Try.prog S) (hg : ∀ x h, S g [.agg (txC x), .q (txC t) 0] h = .pure (.b (sameT x t))) :
    PCalls Try.prog 50 [.ro z (txs l) l.length, .fn (.func g) [] [.q (txC t) 0]] (.i .i64 (idxF t l 0)) := by
  intro h n
  refine DCalls.of Try.func50 rfl (by decide) (Nat.le_of_ble_eq_true rfl) (Nat.le_refl _) ?_
  refine AWp.seq ?_
  (refine aw_regionL hS (by kernel_rfl) ?_; repeat (first | apply vr0u | apply vr4 | apply b_tt | apply b_ff | apply b_tf | apply b_ft | apply b_no | exact isD.mk rfl | (apply eqG; (simp only [push_cast, ↓reduceIte, Nat.reduceEqDiff, Nat.reduceAdd, Nat.reduceLeDiff, Int.reduceLE, Int.reduceLT, Int.reduceAdd, Int.reduceSub, Int.reduceNeg, Int.reduceBEq, Int.reduceBNe, Int.reduceEq, Int.reduceGT, Int.reduceGE, Int.reduceMul, Int.reduceToNat, Nat.reduceMul, reduceCtorEq] <;> rfl))))
  refine vr_nil (aw_then ?_)
  refine AWp.seq ?_
  refine AWp.seq ?_
  (refine aw_regionL hS (by kernel_rfl) ?_; repeat (first | apply vr0u | apply vr4 | apply b_tt | apply b_ff | apply b_tf | apply b_ft | apply b_no | exact isD.mk rfl | (apply eqG; (simp only [push_cast, ↓reduceIte, Nat.reduceEqDiff, Nat.reduceAdd, Nat.reduceLeDiff, Int.reduceLE, Int.reduceLT, Int.reduceAdd, Int.reduceSub, Int.reduceNeg, Int.reduceBEq, Int.reduceBNe, Int.reduceEq, Int.reduceGT, Int.reduceGE, Int.reduceMul, Int.reduceToNat, Nat.reduceMul, reduceCtorEq] <;> rfl))))
  refine vr_nil (aw_then ?_)
  refine AWp.block ?_
  refine AWp.loop (fun k t' h' n' => ∃ i : Nat, k = l.length - i ∧ i ≤ l.length ∧ (∀ j, j < i → ∀ hj : j < l.length, sameT l[j] t = false) ∧ t' 0 = .ro z (txs l) l.length ∧ t' 1 = .fn (.func g) [] [.q (txC t) 0] ∧ t' 7 = .i .i64 (l.length : Int) ∧ t' 8 = .i .i64 (i : Int) ∧ ∀ x r, x < n → h x = some r → h' x = some r) l.length ?_ ?_
  · exact ⟨0, rfl, Nat.zero_le _, fun j hj => by omega, by (simp only [push_cast, ↓reduceIte, Nat.reduceEqDiff, Nat.reduceAdd, Nat.reduceLeDiff, Int.reduceLE, Int.reduceLT, Int.reduceAdd, Int.reduceSub, Int.reduceNeg, Int.reduceBEq, Int.reduceBNe, Int.reduceEq, Int.reduceGT, Int.reduceGE, Int.reduceMul, Int.reduceToNat, Nat.reduceMul, reduceCtorEq] <;> rfl), by (simp only [push_cast, ↓reduceIte, Nat.reduceEqDiff, Nat.reduceAdd, Nat.reduceLeDiff, Int.reduceLE, Int.reduceLT, Int.reduceAdd, Int.reduceSub, Int.reduceNeg, Int.reduceBEq, Int.reduceBNe, Int.reduceEq, Int.reduceGT, Int.reduceGE, Int.reduceMul, Int.reduceToNat, Nat.reduceMul, reduceCtorEq] <;> rfl), by (simp only [push_cast, ↓reduceIte, Nat.reduceEqDiff, Nat.reduceAdd, Nat.reduceLeDiff, Int.reduceLE, Int.reduceLT, Int.reduceAdd, Int.reduceSub, Int.reduceNeg, Int.reduceBEq, Int.reduceBNe, Int.reduceEq, Int.reduceGT, Int.reduceGE, Int.reduceMul, Int.reduceToNat, Nat.reduceMul, reduceCtorEq] <;> rfl), by (simp only [push_cast, ↓reduceIte, Nat.reduceEqDiff, Nat.reduceAdd, Nat.reduceLeDiff, Int.reduceLE, Int.reduceLT, Int.reduceAdd, Int.reduceSub, Int.reduceNeg, Int.reduceBEq, Int.reduceBNe, Int.reduceEq, Int.reduceGT, Int.reduceGE, Int.reduceMul, Int.reduceToNat, Nat.reduceMul, reduceCtorEq] <;> rfl), keep0⟩
  · rintro m t' h' n' - ⟨i, rfl, hil, hno, h0, h1, h7, h8, hk⟩
    by_cases hi : i < l.length
    · have q1 : ((i : Int) < (l.length : Int)) = True := by simp [hi]
      have q2 : (0 ≤ (i : Int) ∧ (i : Int) < (l.length : Int)) = True := by simp [hi]
      have q3 := txs_get hi
      have q4 := txs_in hi
      have hgi := hg l[i]
      have w1 : IntKind.wrap .i64 ((i : Int) + 1) = (i : Int) + 1 := IntWalk.i64_in _ (by omega)
      refine AWp.seq ?_
      (refine aw_regionL hS (by kernel_rfl) ?_; repeat (first | apply vr0u | apply vr4 | apply b_tt | apply b_ff | apply b_tf | apply b_ft | apply b_no | exact isD.mk rfl | (apply eqG; (simp only [push_cast, ↓reduceIte, Nat.reduceEqDiff, Nat.reduceAdd, Nat.reduceLeDiff, Int.reduceLE, Int.reduceLT, Int.reduceAdd, Int.reduceSub, Int.reduceNeg, Int.reduceBEq, Int.reduceBNe, Int.reduceEq, Int.reduceGT, Int.reduceGE, Int.reduceMul, Int.reduceToNat, Nat.reduceMul, reduceCtorEq, h0, h1, h7, h8, q1, q2, q3, q4, hgi, w1, Int.toNat_natCast] <;> rfl))))
      refine vr_nil (aw_then ?_)
      refine AWp.seq ?_
      refine aw_true (by (simp only [push_cast, ↓reduceIte, Nat.reduceEqDiff, Nat.reduceAdd, Nat.reduceLeDiff, Int.reduceLE, Int.reduceLT, Int.reduceAdd, Int.reduceSub, Int.reduceNeg, Int.reduceBEq, Int.reduceBNe, Int.reduceEq, Int.reduceGT, Int.reduceGE, Int.reduceMul, Int.reduceToNat, Nat.reduceMul, reduceCtorEq, h0, h1, h7, h8, q1, q2, q3, q4, hgi, w1, Int.toNat_natCast] <;> rfl)) (AWp.skip (aw_then ?_))
      refine AWp.seq ?_
      refine AWp.block ?_
      refine AWp.seq ?_
      (refine aw_regionL hS (by kernel_rfl) ?_; repeat (first | apply vr0u | apply vr4 | apply b_tt | apply b_ff | apply b_tf | apply b_ft | apply b_no | exact isD.mk rfl | (apply eqG; (simp only [push_cast, ↓reduceIte, Nat.reduceEqDiff, Nat.reduceAdd, Nat.reduceLeDiff, Int.reduceLE, Int.reduceLT, Int.reduceAdd, Int.reduceSub, Int.reduceNeg, Int.reduceBEq, Int.reduceBNe, Int.reduceEq, Int.reduceGT, Int.reduceGE, Int.reduceMul, Int.reduceToNat, Nat.reduceMul, reduceCtorEq, h0, h1, h7, h8, q1, q2, q3, q4, hgi, w1, Int.toNat_natCast] <;> rfl))))
      refine vr_nil (aw_then ?_)
      refine AWp.seq ?_
      (refine aw_regionL hS (by kernel_rfl) ?_; repeat (first | apply vr0u | apply vr4 | apply b_tt | apply b_ff | apply b_tf | apply b_ft | apply b_no | exact isD.mk rfl | (apply eqG; (simp only [push_cast, ↓reduceIte, Nat.reduceEqDiff, Nat.reduceAdd, Nat.reduceLeDiff, Int.reduceLE, Int.reduceLT, Int.reduceAdd, Int.reduceSub, Int.reduceNeg, Int.reduceBEq, Int.reduceBNe, Int.reduceEq, Int.reduceGT, Int.reduceGE, Int.reduceMul, Int.reduceToNat, Nat.reduceMul, reduceCtorEq, h0, h1, h7, h8, q1, q2, q3, q4, hgi, w1, Int.toNat_natCast] <;> rfl))))
      refine vr_nil (aw_then ?_)
      refine aw_split (by (simp only [push_cast, ↓reduceIte, Nat.reduceEqDiff, Nat.reduceAdd, Nat.reduceLeDiff, Int.reduceLE, Int.reduceLT, Int.reduceAdd, Int.reduceSub, Int.reduceNeg, Int.reduceBEq, Int.reduceBNe, Int.reduceEq, Int.reduceGT, Int.reduceGE, Int.reduceMul, Int.reduceToNat, Nat.reduceMul, reduceCtorEq, h0, h1, h7, h8, q1, q2, q3, q4, hgi, w1, Int.toNat_natCast] <;> rfl)) (fun hu => ?_) (fun hu => ?_)
      · refine AWp.seq ?_
        (refine aw_regionL hS (by kernel_rfl) ?_; repeat (first | apply vr0u | apply vr4 | apply b_tt | apply b_ff | apply b_tf | apply b_ft | apply b_no | exact isD.mk rfl | (apply eqG; (simp only [push_cast, ↓reduceIte, Nat.reduceEqDiff, Nat.reduceAdd, Nat.reduceLeDiff, Int.reduceLE, Int.reduceLT, Int.reduceAdd, Int.reduceSub, Int.reduceNeg, Int.reduceBEq, Int.reduceBNe, Int.reduceEq, Int.reduceGT, Int.reduceGE, Int.reduceMul, Int.reduceToNat, Nat.reduceMul, reduceCtorEq, h0, h1, h7, h8, q1, q2, q3, q4, hgi, w1, Int.toNat_natCast] <;> rfl))))
        refine vr_nil (aw_then ?_)
        refine AWp.ret ?_
        exact Out.pure1 (.inr rfl) rfl (by (simp only [push_cast, ↓reduceIte, Nat.reduceEqDiff, Nat.reduceAdd, Nat.reduceLeDiff, Int.reduceLE, Int.reduceLT, Int.reduceAdd, Int.reduceSub, Int.reduceNeg, Int.reduceBEq, Int.reduceBNe, Int.reduceEq, Int.reduceGT, Int.reduceGE, Int.reduceMul, Int.reduceToNat, Nat.reduceMul, reduceCtorEq, h0, h1, h7, h8, q1, q2, q3, q4, hgi, w1, Int.toNat_natCast] <;> rfl)) (by rw [idxF_at t hi 0 hno hu, Int.zero_add]) trivial hk
      · refine AWp.skip (aw_in (aw_then ?_))
        (refine aw_regionL hS (by kernel_rfl) ?_; repeat (first | apply vr0u | apply vr4 | apply b_tt | apply b_ff | apply b_tf | apply b_ft | apply b_no | exact isD.mk rfl | (apply eqG; (simp only [push_cast, ↓reduceIte, Nat.reduceEqDiff, Nat.reduceAdd, Nat.reduceLeDiff, Int.reduceLE, Int.reduceLT, Int.reduceAdd, Int.reduceSub, Int.reduceNeg, Int.reduceBEq, Int.reduceBNe, Int.reduceEq, Int.reduceGT, Int.reduceGE, Int.reduceMul, Int.reduceToNat, Nat.reduceMul, reduceCtorEq, h0, h1, h7, h8, q1, q2, q3, q4, hgi, w1, Int.toNat_natCast] <;> rfl))))
        exact vr_nil (aw_then ⟨l.length - (i + 1), by omega, i + 1, rfl, hi, fun j hj hjl => if he : j = i then by subst he; exact hu else hno j (by omega) hjl, by (simp only [push_cast, ↓reduceIte, Nat.reduceEqDiff, Nat.reduceAdd, Nat.reduceLeDiff, Int.reduceLE, Int.reduceLT, Int.reduceAdd, Int.reduceSub, Int.reduceNeg, Int.reduceBEq, Int.reduceBNe, Int.reduceEq, Int.reduceGT, Int.reduceGE, Int.reduceMul, Int.reduceToNat, Nat.reduceMul, reduceCtorEq, h0, h1, h7, h8, q1, q2, q3, q4, hgi, w1, Int.toNat_natCast] <;> rfl), by (simp only [push_cast, ↓reduceIte, Nat.reduceEqDiff, Nat.reduceAdd, Nat.reduceLeDiff, Int.reduceLE, Int.reduceLT, Int.reduceAdd, Int.reduceSub, Int.reduceNeg, Int.reduceBEq, Int.reduceBNe, Int.reduceEq, Int.reduceGT, Int.reduceGE, Int.reduceMul, Int.reduceToNat, Nat.reduceMul, reduceCtorEq, h0, h1, h7, h8, q1, q2, q3, q4, hgi, w1, Int.toNat_natCast] <;> rfl), by (simp only [push_cast, ↓reduceIte, Nat.reduceEqDiff, Nat.reduceAdd, Nat.reduceLeDiff, Int.reduceLE, Int.reduceLT, Int.reduceAdd, Int.reduceSub, Int.reduceNeg, Int.reduceBEq, Int.reduceBNe, Int.reduceEq, Int.reduceGT, Int.reduceGE, Int.reduceMul, Int.reduceToNat, Nat.reduceMul, reduceCtorEq, h0, h1, h7, h8, q1, q2, q3, q4, hgi, w1, Int.toNat_natCast] <;> rfl), by (simp only [push_cast, ↓reduceIte, Nat.reduceEqDiff, Nat.reduceAdd, Nat.reduceLeDiff, Int.reduceLE, Int.reduceLT, Int.reduceAdd, Int.reduceSub, Int.reduceNeg, Int.reduceBEq, Int.reduceBNe, Int.reduceEq, Int.reduceGT, Int.reduceGE, Int.reduceMul, Int.reduceToNat, Nat.reduceMul, reduceCtorEq, h0, h1, h7, h8, q1, q2, q3, q4, hgi, w1, Int.toNat_natCast] <;> rfl), hk⟩)
    · have q1 : ((i : Int) < (l.length : Int)) = False := by simp; omega
      refine AWp.seq ?_
      (refine aw_regionL hS (by kernel_rfl) ?_; repeat (first | apply vr0u | apply vr4 | apply b_tt | apply b_ff | apply b_tf | apply b_ft | apply b_no | exact isD.mk rfl | (apply eqG; (simp only [push_cast, ↓reduceIte, Nat.reduceEqDiff, Nat.reduceAdd, Nat.reduceLeDiff, Int.reduceLE, Int.reduceLT, Int.reduceAdd, Int.reduceSub, Int.reduceNeg, Int.reduceBEq, Int.reduceBNe, Int.reduceEq, Int.reduceGT, Int.reduceGE, Int.reduceMul, Int.reduceToNat, Nat.reduceMul, reduceCtorEq, h0, h1, h7, h8, q1] <;> rfl))))
      refine vr_nil (aw_then ?_)
      refine AWp.seq ?_
      refine aw_false (by (simp only [push_cast, ↓reduceIte, Nat.reduceEqDiff, Nat.reduceAdd, Nat.reduceLeDiff, Int.reduceLE, Int.reduceLT, Int.reduceAdd, Int.reduceSub, Int.reduceNeg, Int.reduceBEq, Int.reduceBNe, Int.reduceEq, Int.reduceGT, Int.reduceGE, Int.reduceMul, Int.reduceToNat, Nat.reduceMul, reduceCtorEq, h0, h1, h7, h8, q1] <;> rfl)) (AWp.exit (aw_thru (aw_thru (aw_exit (aw_then ?_)))))
      refine AWp.seq ?_
      (refine aw_regionL hS (by kernel_rfl) ?_; repeat (first | apply vr0u | apply vr4 | apply b_tt | apply b_ff | apply b_tf | apply b_ft | apply b_no | exact isD.mk rfl | (apply eqG; (simp only [push_cast, ↓reduceIte, Nat.reduceEqDiff, Nat.reduceAdd, Nat.reduceLeDiff, Int.reduceLE, Int.reduceLT, Int.reduceAdd, Int.reduceSub, Int.reduceNeg, Int.reduceBEq, Int.reduceBNe, Int.reduceEq, Int.reduceGT, Int.reduceGE, Int.reduceMul, Int.reduceToNat, Nat.reduceMul, reduceCtorEq, h0, h1, h7, h8, q1] <;> rfl))))
      refine vr_nil (aw_then ?_)
      refine AWp.ret ?_
      exact Out.pure1 (.inr rfl) rfl (by (simp only [push_cast, ↓reduceIte, Nat.reduceEqDiff, Nat.reduceAdd, Nat.reduceLeDiff, Int.reduceLE, Int.reduceLT, Int.reduceAdd, Int.reduceSub, Int.reduceNeg, Int.reduceBEq, Int.reduceBNe, Int.reduceEq, Int.reduceGT, Int.reduceGE, Int.reduceMul, Int.reduceToNat, Nat.reduceMul, reduceCtorEq, h0, h1, h7, h8, q1] <;> rfl)) (by rw [idxF_no t 0 (fun j hj => hno j (by omega) hj)]) trivial hk
end Go.Proofs.Ytpgohmcolcfhfaa
