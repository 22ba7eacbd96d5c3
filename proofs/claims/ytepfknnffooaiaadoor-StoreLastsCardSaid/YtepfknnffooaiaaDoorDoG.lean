import Derived.Test.YtepfknnffooaiaaDoorDoF

namespace Go.Proofs.YtepfknnffooaiaaDoor
open Go.Av
set_option maxRecDepth 100000
set_option maxHeartbeats 1000000
set_option linter.unusedSimpArgs false
set_option linter.unusedVariables false
attribute [local push_cast] stepE callR resE aeff aev ofC ofC1 put_at Av.put_none inTmps List.getD_cons_zero List.getD_cons_succ AV.boxable if_true if_false AV.cells aload place app_cons app_nil upd_same Av.part abin aconv aindexAddr fillA splice_one abuiltin alen amax amin aun aindex Option.map_some Option.isSome_some List.map_cons List.map_nil List.nil_append List.append_nil List.cons_append Nat.le_refl Nat.zero_add Nat.add_zero List.length_cons List.length_nil List.drop_succ_cons List.drop_zero List.take_succ_cons List.take_zero beq_self_eq_true bne_self_eq_false Bool.not_true Bool.not_false List.set_cons_zero List.set_cons_succ Bool.false_eq_true IntWalk.i64_in decide_true decide_false Int.toNat_zero and_self and_true true_and List.getElem?_cons_zero List.getElem?_cons_succ aappend aapp view Bool.and_true Bool.true_and Nat.mul_one Option.map_none aslice asliceB nilOp Int.toNat_natCast und_30 agT_3 szT_3 kiT_3 agT_5 szT_5 kiT_5 agT_24 szT_24 kiT_24 agT_62 szT_62 kiT_62 agT_4 szT_4 kiT_4 agT_9 szT_9 kiT_9 agT_44 szT_44 kiT_44 agT_45 szT_45 kiT_45 agT_30 szT_30 kiT_30 agT_22 szT_22 kiT_22 agT_41 szT_41 kiT_41 agT_51 szT_51 kiT_51 agT_52 szT_52 kiT_52 agT_23 szT_23 kiT_23 agT_53 szT_53 kiT_53 agT_27 szT_27 kiT_27 agT_89 szT_89 kiT_89 agT_66 szT_66 kiT_66 agT_20 szT_20 kiT_20 slT_45 slT_44 slT_30 slT_22 slT_41 slT_51 slT_52 zeT_3 zeT_4 zeT_5 zeT_30 zeT_24 flT_55_0 flT_55_1 flT_55_2 flT_55_3 flT_55_4 agT_55 szT_55 buT_55 zeT_55 flT_57_0 flT_57_1 agT_57 szT_57 buT_57 zeT_57 flT_74_0 flT_74_1 agT_74 szT_74 buT_74 zeT_74 flT_77_0 flT_77_1 flT_77_2 agT_77 szT_77 buT_77 zeT_77 flT_47_0 flT_47_1 flT_47_2 flT_47_3 flT_47_4 flT_47_5 agT_47 szT_47 buT_47 zeT_47 flT_61_0 flT_61_1 agT_61 szT_61 buT_61 zeT_61 flT_64_0 flT_64_1 agT_64 szT_64 buT_64 zeT_64 flT_91_0 flT_91_1 agT_91 szT_91 buT_91 zeT_91 ptT_23 ptT_53 ptT_27 ptT_89 und_30 

def zero64 : List UInt8 := List.replicate 64 0
def newW (N n : Nat) : DW := { js := n + 3 * N, jn := n + 1 + 3 * N, jp := 0, jt := 0, safe := List.replicate N (some zero64), now := List.replicate N (some zero64), pend := [], off := false, trip := none }
theorem zero64_len : zero64.length = 64 := List.length_replicate
theorem DOk.new {N : Nat} (hN : N ≤ 256) (n : Nat) : DOk (newW N n) := by
  have key : ∀ b, some b ∈ List.replicate N (some zero64) → b.length = 64 := fun b hb => by
    have := List.eq_of_mem_replicate hb
    injection this with this
    rw [this]; exact zero64_len
  exact ⟨rfl, by simpa [newW] using hN, fun p hp => (nomatch hp), key, key, fun x hx => (nomatch hx)⟩
theorem new_keys {N n k : Nat} : k ∈ ((newW N n).cont n).keys ↔ k = n ∨ k = n + 3 * N ∨ k = n + 1 + 3 * N := by rw [DW.keys_iff]; simp [newW]
def newSafe (n k : Nat) : AV := if k = 0 then .ro true [] 0 else .sl 2 (n + 3 * k) 0 k
theorem frz_new (m k : Nat) : (secC (List.replicate k (some zero64)) ++ [AV.sl 1 m 0 64, .b false]).map (frz (only m (cellsB zero64)) 1) = secC (List.replicate (k + 1) (some zero64)) := by
  have e1 : frz (only m (cellsB zero64)) 1 (.sl 1 m 0 64) = secV (some zero64) := by
    simp only [frz, only, if_true]
    rw [if_pos (by decide)]
    rfl
  rw [List.map_append, frzs_free _ 1 (free_secC _), List.replicate_succ', secC_app]
  simp only [List.map_cons, List.map_nil, e1]
  rfl
theorem c7bad (i : Int) (hi : i < 1 ∨ i > 256) : PCalls Tryd.prog 8 [.i .i64 i] (.tup [.np, .i .i64 1]) := by
  intro h n
  have hS := ok_DB
  refine DCalls.of Tryd.func8 rfl (by decide) (Nat.le_of_ble_eq_true rfl) (Nat.le_refl _) ?_
  refine AWp.seq ?_
  (refine aw_regionL hS (by kernel_rfl) ?_; repeat (first | apply vr0u | apply vr4 | apply b_tt | apply b_ff | apply b_tf | apply b_ft | apply b_no | exact isD.mk rfl | (apply eqG; (simp only [push_cast, ↓reduceIte, Nat.reduceEqDiff, Nat.reduceAdd, Nat.reduceLeDiff, Nat.reduceLT, Int.reduceLE, Int.reduceLT, Int.reduceAdd, Int.reduceSub, Int.reduceNeg, Int.reduceBEq, Int.reduceBNe, Int.reduceEq, Int.reduceGT, Int.reduceGE, Int.reduceMul, Int.reduceToNat, Nat.reduceMul, reduceCtorEq] <;> rfl)) | exact (rfl : app (swap _ _) _ = _)))
  refine vr_nil (aw_then ?_)
  refine AWp.seq ?_
  refine AWp.seq ?_
  (refine aw_regionL hS (by kernel_rfl) ?_; repeat (first | apply vr0u | apply vr4 | apply b_tt | apply b_ff | apply b_tf | apply b_ft | apply b_no | exact isD.mk rfl | (apply eqG; (simp only [push_cast, ↓reduceIte, Nat.reduceEqDiff, Nat.reduceAdd, Nat.reduceLeDiff, Nat.reduceLT, Int.reduceLE, Int.reduceLT, Int.reduceAdd, Int.reduceSub, Int.reduceNeg, Int.reduceBEq, Int.reduceBNe, Int.reduceEq, Int.reduceGT, Int.reduceGE, Int.reduceMul, Int.reduceToNat, Nat.reduceMul, reduceCtorEq] <;> rfl)) | exact (rfl : app (swap _ _) _ = _)))
  refine br_s (by (simp only [push_cast, ↓reduceIte, Nat.reduceEqDiff, Nat.reduceAdd, Nat.reduceLeDiff, Nat.reduceLT, Int.reduceLE, Int.reduceLT, Int.reduceAdd, Int.reduceSub, Int.reduceNeg, Int.reduceBEq, Int.reduceBNe, Int.reduceEq, Int.reduceGT, Int.reduceGE, Int.reduceMul, Int.reduceToNat, Nat.reduceMul, reduceCtorEq] <;> rfl)) (fun hu => ?_) (fun hu => ?_)
  · repeat (first | apply vr0u | apply vr4 | apply b_tt | apply b_ff | apply b_tf | apply b_ft | apply b_no | exact isD.mk rfl | (apply eqG; (simp only [push_cast, ↓reduceIte, Nat.reduceEqDiff, Nat.reduceAdd, Nat.reduceLeDiff, Nat.reduceLT, Int.reduceLE, Int.reduceLT, Int.reduceAdd, Int.reduceSub, Int.reduceNeg, Int.reduceBEq, Int.reduceBNe, Int.reduceEq, Int.reduceGT, Int.reduceGE, Int.reduceMul, Int.reduceToNat, Nat.reduceMul, reduceCtorEq] <;> rfl)) | exact (rfl : app (swap _ _) _ = _))
    refine vr_nil (aw_then ?_)
    refine aw_true (by (simp only [push_cast, ↓reduceIte, Nat.reduceEqDiff, Nat.reduceAdd, Nat.reduceLeDiff, Nat.reduceLT, Int.reduceLE, Int.reduceLT, Int.reduceAdd, Int.reduceSub, Int.reduceNeg, Int.reduceBEq, Int.reduceBNe, Int.reduceEq, Int.reduceGT, Int.reduceGE, Int.reduceMul, Int.reduceToNat, Nat.reduceMul, reduceCtorEq] <;> rfl)) ?_
    refine AWp.seq ?_
    (refine aw_regionL hS (by kernel_rfl) ?_; repeat (first | apply vr0u | apply vr4 | apply b_tt | apply b_ff | apply b_tf | apply b_ft | apply b_no | exact isD.mk rfl | (apply eqG; (simp only [push_cast, ↓reduceIte, Nat.reduceEqDiff, Nat.reduceAdd, Nat.reduceLeDiff, Nat.reduceLT, Int.reduceLE, Int.reduceLT, Int.reduceAdd, Int.reduceSub, Int.reduceNeg, Int.reduceBEq, Int.reduceBNe, Int.reduceEq, Int.reduceGT, Int.reduceGE, Int.reduceMul, Int.reduceToNat, Nat.reduceMul, reduceCtorEq] <;> rfl)) | exact (rfl : app (swap _ _) _ = _)))
    refine vr_nil (aw_then ?_)
    refine AWp.ret ?_
    exact Out.pure2 (.inr rfl) rfl (by (simp only [push_cast, ↓reduceIte, Nat.reduceEqDiff, Nat.reduceAdd, Nat.reduceLeDiff, Nat.reduceLT, Int.reduceLE, Int.reduceLT, Int.reduceAdd, Int.reduceSub, Int.reduceNeg, Int.reduceBEq, Int.reduceBNe, Int.reduceEq, Int.reduceGT, Int.reduceGE, Int.reduceMul, Int.reduceToNat, Nat.reduceMul, reduceCtorEq] <;> rfl)) (by (simp only [push_cast, ↓reduceIte, Nat.reduceEqDiff, Nat.reduceAdd, Nat.reduceLeDiff, Nat.reduceLT, Int.reduceLE, Int.reduceLT, Int.reduceAdd, Int.reduceSub, Int.reduceNeg, Int.reduceBEq, Int.reduceBNe, Int.reduceEq, Int.reduceGT, Int.reduceGE, Int.reduceMul, Int.reduceToNat, Nat.reduceMul, reduceCtorEq] <;> rfl)) rfl (show namesAll (· < n) [AV.np, .i .i64 1] from ⟨trivial, trivial, trivial⟩) keep0
  · have hu := of_decide_eq_false hu
    repeat (first | apply vr0u | apply vr4 | apply b_tt | apply b_ff | apply b_tf | apply b_ft | apply b_no | exact isD.mk rfl | (apply eqG; (simp only [push_cast, ↓reduceIte, Nat.reduceEqDiff, Nat.reduceAdd, Nat.reduceLeDiff, Nat.reduceLT, Int.reduceLE, Int.reduceLT, Int.reduceAdd, Int.reduceSub, Int.reduceNeg, Int.reduceBEq, Int.reduceBNe, Int.reduceEq, Int.reduceGT, Int.reduceGE, Int.reduceMul, Int.reduceToNat, Nat.reduceMul, reduceCtorEq] <;> rfl)) | exact (rfl : app (swap _ _) _ = _))
    refine vr_nil (aw_then ?_)
    refine aw_split (by (simp only [push_cast, ↓reduceIte, Nat.reduceEqDiff, Nat.reduceAdd, Nat.reduceLeDiff, Nat.reduceLT, Int.reduceLE, Int.reduceLT, Int.reduceAdd, Int.reduceSub, Int.reduceNeg, Int.reduceBEq, Int.reduceBNe, Int.reduceEq, Int.reduceGT, Int.reduceGE, Int.reduceMul, Int.reduceToNat, Nat.reduceMul, reduceCtorEq] <;> rfl)) (fun hv => ?_) (fun hv => ?_)
    · refine AWp.seq ?_
      (refine aw_regionL hS (by kernel_rfl) ?_; repeat (first | apply vr0u | apply vr4 | apply b_tt | apply b_ff | apply b_tf | apply b_ft | apply b_no | exact isD.mk rfl | (apply eqG; (simp only [push_cast, ↓reduceIte, Nat.reduceEqDiff, Nat.reduceAdd, Nat.reduceLeDiff, Nat.reduceLT, Int.reduceLE, Int.reduceLT, Int.reduceAdd, Int.reduceSub, Int.reduceNeg, Int.reduceBEq, Int.reduceBNe, Int.reduceEq, Int.reduceGT, Int.reduceGE, Int.reduceMul, Int.reduceToNat, Nat.reduceMul, reduceCtorEq] <;> rfl)) | exact (rfl : app (swap _ _) _ = _)))
      refine vr_nil (aw_then ?_)
      refine AWp.ret ?_
      exact Out.pure2 (.inr rfl) rfl (by (simp only [push_cast, ↓reduceIte, Nat.reduceEqDiff, Nat.reduceAdd, Nat.reduceLeDiff, Nat.reduceLT, Int.reduceLE, Int.reduceLT, Int.reduceAdd, Int.reduceSub, Int.reduceNeg, Int.reduceBEq, Int.reduceBNe, Int.reduceEq, Int.reduceGT, Int.reduceGE, Int.reduceMul, Int.reduceToNat, Nat.reduceMul, reduceCtorEq] <;> rfl)) (by (simp only [push_cast, ↓reduceIte, Nat.reduceEqDiff, Nat.reduceAdd, Nat.reduceLeDiff, Nat.reduceLT, Int.reduceLE, Int.reduceLT, Int.reduceAdd, Int.reduceSub, Int.reduceNeg, Int.reduceBEq, Int.reduceBNe, Int.reduceEq, Int.reduceGT, Int.reduceGE, Int.reduceMul, Int.reduceToNat, Nat.reduceMul, reduceCtorEq] <;> rfl)) rfl (show namesAll (· < n) [AV.np, .i .i64 1] from ⟨trivial, trivial, trivial⟩) keep0
    · have hv := of_decide_eq_false hv
      omega
theorem c7 {h : Heap} (N : Nat) (hN1 : 1 ≤ N) (hN : N ≤ 256) : ∀ n, DCalls Tryd.prog 8 [.i .i64 (N : Int)] h n (.tup [.p n 0, .i .i64 0]) (swap [] ((newW N n).cont n)) (n + 1 + 3 * N + 1) := by
  intro n
  have hS := ok_DB
  refine DCalls.of Tryd.func8 rfl (by decide) (Nat.le_of_ble_eq_true rfl) (by omega) ?_
  refine AWp.seq ?_
  (refine aw_regionL hS (by kernel_rfl) ?_; repeat (first | apply vr0u | apply vr4 | apply b_tt | apply b_ff | apply b_tf | apply b_ft | apply b_no | exact isD.mk rfl | (apply eqG; (simp only [push_cast, ↓reduceIte, Nat.reduceEqDiff, Nat.reduceAdd, Nat.reduceLeDiff, Nat.reduceLT, Int.reduceLE, Int.reduceLT, Int.reduceAdd, Int.reduceSub, Int.reduceNeg, Int.reduceBEq, Int.reduceBNe, Int.reduceEq, Int.reduceGT, Int.reduceGE, Int.reduceMul, Int.reduceToNat, Nat.reduceMul, reduceCtorEq] <;> rfl)) | exact (rfl : app (swap _ _) _ = _)))
  refine vr_nil (aw_then ?_)
  refine AWp.seq ?_
  refine AWp.seq ?_
  (refine aw_regionL hS (by kernel_rfl) ?_; repeat (first | apply vr0u | apply vr4 | apply b_tt | apply b_ff | apply b_tf | apply b_ft | apply b_no | exact isD.mk rfl | (apply eqG; (simp only [push_cast, ↓reduceIte, Nat.reduceEqDiff, Nat.reduceAdd, Nat.reduceLeDiff, Nat.reduceLT, Int.reduceLE, Int.reduceLT, Int.reduceAdd, Int.reduceSub, Int.reduceNeg, Int.reduceBEq, Int.reduceBNe, Int.reduceEq, Int.reduceGT, Int.reduceGE, Int.reduceMul, Int.reduceToNat, Nat.reduceMul, reduceCtorEq] <;> rfl)) | exact (rfl : app (swap _ _) _ = _)))
  refine br_s (by (simp only [push_cast, ↓reduceIte, Nat.reduceEqDiff, Nat.reduceAdd, Nat.reduceLeDiff, Nat.reduceLT, Int.reduceLE, Int.reduceLT, Int.reduceAdd, Int.reduceSub, Int.reduceNeg, Int.reduceBEq, Int.reduceBNe, Int.reduceEq, Int.reduceGT, Int.reduceGE, Int.reduceMul, Int.reduceToNat, Nat.reduceMul, reduceCtorEq] <;> rfl)) (fun hu => ?_) (fun hu => ?_)
  · have hu := of_decide_eq_true hu
    omega
  clear hu
  repeat (first | apply vr0u | apply vr4 | apply b_tt | apply b_ff | apply b_tf | apply b_ft | apply b_no | exact isD.mk rfl | (apply eqG; (simp only [push_cast, ↓reduceIte, Nat.reduceEqDiff, Nat.reduceAdd, Nat.reduceLeDiff, Nat.reduceLT, Int.reduceLE, Int.reduceLT, Int.reduceAdd, Int.reduceSub, Int.reduceNeg, Int.reduceBEq, Int.reduceBNe, Int.reduceEq, Int.reduceGT, Int.reduceGE, Int.reduceMul, Int.reduceToNat, Nat.reduceMul, reduceCtorEq] <;> rfl)) | exact (rfl : app (swap _ _) _ = _))
  refine vr_nil (aw_then ?_)
  refine aw_split (by (simp only [push_cast, ↓reduceIte, Nat.reduceEqDiff, Nat.reduceAdd, Nat.reduceLeDiff, Nat.reduceLT, Int.reduceLE, Int.reduceLT, Int.reduceAdd, Int.reduceSub, Int.reduceNeg, Int.reduceBEq, Int.reduceBNe, Int.reduceEq, Int.reduceGT, Int.reduceGE, Int.reduceMul, Int.reduceToNat, Nat.reduceMul, reduceCtorEq] <;> rfl)) (fun hv => ?_) (fun hv => ?_)
  · have hv := of_decide_eq_true hv
    omega
  clear hv
  refine AWp.skip (aw_then ?_)
  have r64 : rep 64 [AV.i .u8 0] = cellsB zero64 := rep64
  have rr1 : rep 1 [AV.ro true [] 0, AV.b false] = [AV.ro true [] 0, AV.b false] := rfl
  have qm : ((0 : Int) ≤ 64) = True := by simp
  refine AWp.seq ?_
  (refine aw_regionL hS (by kernel_rfl) ?_; repeat (first | apply vr0u | apply vr4 | apply b_tt | apply b_ff | apply b_tf | apply b_ft | apply b_no | exact isD.mk rfl | (apply eqG; (simp only [push_cast, ↓reduceIte, Nat.reduceEqDiff, Nat.reduceAdd, Nat.reduceLeDiff, Nat.reduceLT, Int.reduceLE, Int.reduceLT, Int.reduceAdd, Int.reduceSub, Int.reduceNeg, Int.reduceBEq, Int.reduceBNe, Int.reduceEq, Int.reduceGT, Int.reduceGE, Int.reduceMul, Int.reduceToNat, Nat.reduceMul, reduceCtorEq] <;> rfl)) | exact (rfl : app (swap _ _) _ = _)))
  refine vr_nil (aw_then ?_)
  refine AWp.cut (fun t' h' n' => t' 4 = .p n 0 ∧ n' = n + 1 + 3 * N ∧ h' n = some (.cells [.sl 2 (n + 3 * N) 0 N, .ro true [] 0, .ro true [] 0, .b false, .np]) ∧ h' (n + 3 * N) = some (.cells (secC (List.replicate N (some zero64)))) ∧ ∀ x r, x < n → h x = some r → h' x = some r) ?_ ?_
  · refine AWp.seq ?_
    (refine aw_regionL hS (by kernel_rfl) ?_; repeat (first | apply vr0u | apply vr4 | apply b_tt | apply b_ff | apply b_tf | apply b_ft | apply b_no | exact isD.mk rfl | (apply eqG; (simp only [push_cast, ↓reduceIte, Nat.reduceEqDiff, Nat.reduceAdd, Nat.reduceLeDiff, Nat.reduceLT, Int.reduceLE, Int.reduceLT, Int.reduceAdd, Int.reduceSub, Int.reduceNeg, Int.reduceBEq, Int.reduceBNe, Int.reduceEq, Int.reduceGT, Int.reduceGE, Int.reduceMul, Int.reduceToNat, Nat.reduceMul, reduceCtorEq] <;> rfl)) | exact (rfl : app (swap _ _) _ = _)))
    refine vr_nil (aw_then ?_)
    refine AWp.block ?_
    refine AWp.loop (fun m t' h' n' => ∃ k : Nat, m = N - k ∧ k ≤ N ∧ t' 4 = .p n 0 ∧ t' 13 = .i .i64 (N : Int) ∧ t' 14 = .i .i64 (k : Int) ∧ n' = n + 1 + 3 * k ∧ h' n = some (.cells [newSafe n k, .ro true [] 0, .ro true [] 0, .b false, .np]) ∧ (k ≠ 0 → h' (n + 3 * k) = some (.cells (secC (List.replicate k (some zero64))))) ∧ ∀ x r, x < n → h x = some r → h' x = some r) N ?_ ?_
    · exact ⟨0, rfl, Nat.zero_le _, by (simp only [push_cast, ↓reduceIte, Nat.reduceEqDiff, Nat.reduceAdd, Nat.reduceLeDiff, Nat.reduceLT, Int.reduceLE, Int.reduceLT, Int.reduceAdd, Int.reduceSub, Int.reduceNeg, Int.reduceBEq, Int.reduceBNe, Int.reduceEq, Int.reduceGT, Int.reduceGE, Int.reduceMul, Int.reduceToNat, Nat.reduceMul, reduceCtorEq] <;> rfl), by (simp only [push_cast, ↓reduceIte, Nat.reduceEqDiff, Nat.reduceAdd, Nat.reduceLeDiff, Nat.reduceLT, Int.reduceLE, Int.reduceLT, Int.reduceAdd, Int.reduceSub, Int.reduceNeg, Int.reduceBEq, Int.reduceBNe, Int.reduceEq, Int.reduceGT, Int.reduceGE, Int.reduceMul, Int.reduceToNat, Nat.reduceMul, reduceCtorEq] <;> rfl), by (simp only [push_cast, ↓reduceIte, Nat.reduceEqDiff, Nat.reduceAdd, Nat.reduceLeDiff, Nat.reduceLT, Int.reduceLE, Int.reduceLT, Int.reduceAdd, Int.reduceSub, Int.reduceNeg, Int.reduceBEq, Int.reduceBNe, Int.reduceEq, Int.reduceGT, Int.reduceGE, Int.reduceMul, Int.reduceToNat, Nat.reduceMul, reduceCtorEq] <;> rfl), rfl, by rw [upd_same]; rfl, fun hc => absurd rfl hc, keepU (Nat.le_refl _) keep0⟩
    · rintro m t' h' n' - ⟨k, rfl, hkN, h4, h13, h14, rfl, hrow, hin, hk⟩
      by_cases hkk : k < N
      · have q1 : ((k : Int) < (N : Int)) = True := by simp [hkk]
        have w1 : IntKind.wrap .i64 ((k : Int) + 1) = (k : Int) + 1 := IntWalk.i64_in _ (by omega)
        have u0 : ∀ (g : Heap) (r : Option Row), upd g (n + 1 + 3 * k) r n = g n := fun g r => upd_ne _ _ (by omega)
        have u1 : ∀ (g : Heap) (r : Option Row), upd g (n + 1 + 3 * k + 1) r n = g n := fun g r => upd_ne _ _ (by omega)
        have u2 : ∀ (g : Heap) (r : Option Row), upd g (n + 1 + 3 * k + 1 + 1) r n = g n := fun g r => upd_ne _ _ (by omega)
        have u3 : ∀ (g : Heap) (r : Option Row), upd g n r (n + 1 + 3 * k) = g (n + 1 + 3 * k) := fun g r => upd_ne _ _ (by omega)
        have v1 : ∀ (g : Heap) (r : Option Row), upd g (n + 1 + 3 * k + 1) r (n + 1 + 3 * k) = g (n + 1 + 3 * k) := fun g r => upd_ne _ _ (by omega)
        have v2 : ∀ (g : Heap) (r : Option Row), upd g (n + 1 + 3 * k + 1 + 1) r (n + 1 + 3 * k) = g (n + 1 + 3 * k) := fun g r => upd_ne _ _ (by omega)
        have v3 : ∀ (g : Heap) (r : Option Row), upd g n r (n + 1 + 3 * k + 1 + 1) = g (n + 1 + 3 * k + 1 + 1) := fun g r => upd_ne _ _ (by omega)
        have v4 : ∀ (g : Heap) (r : Option Row), upd g (n + 3 * k) r (n + 1 + 3 * k) = g (n + 1 + 3 * k) := fun g r => upd_ne _ _ (by omega)
        by_cases hk0 : k = 0
        · have hsf : newSafe n k = .ro true [] 0 := if_pos hk0
          rw [hsf] at hrow
          refine AWp.seq ?_
          (refine aw_regionL hS (by kernel_rfl) ?_; repeat (first | apply vr0u | apply vr4 | apply b_tt | apply b_ff | apply b_tf | apply b_ft | apply b_no | exact isD.mk rfl | (apply eqG; (simp only [push_cast, ↓reduceIte, Nat.reduceEqDiff, Nat.reduceAdd, Nat.reduceLeDiff, Nat.reduceLT, Int.reduceLE, Int.reduceLT, Int.reduceAdd, Int.reduceSub, Int.reduceNeg, Int.reduceBEq, Int.reduceBNe, Int.reduceEq, Int.reduceGT, Int.reduceGE, Int.reduceMul, Int.reduceToNat, Nat.reduceMul, reduceCtorEq, h4, h13, h14, hrow, q1, w1, r64, u0, u1, u2, u3, v1, v2, v3, rr1, sp2, Int.reduceToNat, qm] <;> rfl)) | exact (rfl : app (swap _ _) _ = _)))
          refine vr_nil (aw_then ?_)
          refine AWp.seq ?_
          refine aw_true (by (simp only [push_cast, ↓reduceIte, Nat.reduceEqDiff, Nat.reduceAdd, Nat.reduceLeDiff, Nat.reduceLT, Int.reduceLE, Int.reduceLT, Int.reduceAdd, Int.reduceSub, Int.reduceNeg, Int.reduceBEq, Int.reduceBNe, Int.reduceEq, Int.reduceGT, Int.reduceGE, Int.reduceMul, Int.reduceToNat, Nat.reduceMul, reduceCtorEq, h4, h13, h14, hrow, q1, w1, r64, u0, u1, u2, u3, v1, v2, v3, rr1, sp2, Int.reduceToNat, qm] <;> rfl)) (AWp.skip (aw_then ?_))
          refine AWp.seq ?_
          refine AWp.block ?_
          refine aw_drawsL [0, 0, 2, 6, 14, 0, 32, 96, 254, 511, 1023, 2047] [8, 11] hS mixed (by kernel_rfl) (by kernel_rfl) ?_
          repeat (first | (refine vd0f (by decide) (by ((repeat (first | rewrite [hpL_t rfl] | rewrite [hpL_f rfl])); (simp only [hpL, app_cons, app_nil] <;> rfl))) (by (simp only [push_cast, ↓reduceIte, Nat.reduceEqDiff, Nat.reduceAdd, Nat.reduceLeDiff, Nat.reduceLT, Int.reduceLE, Int.reduceLT, Int.reduceAdd, Int.reduceSub, Int.reduceNeg, Int.reduceBEq, Int.reduceBNe, Int.reduceEq, Int.reduceGT, Int.reduceGE, Int.reduceMul, Int.reduceToNat, Nat.reduceMul, reduceCtorEq, h4, h13, h14, hrow, q1, w1, r64, u0, u1, u2, u3, v1, v2, v3, rr1, sp2, Int.reduceToNat, qm] <;> rfl)) ?_) | (refine vd0q rfl (by decide) rfl (by ((repeat (first | rewrite [hpL_t rfl] | rewrite [hpL_f rfl])); (simp only [hpL, app_cons, app_nil] <;> rfl))) (by (simp only [push_cast, ↓reduceIte, Nat.reduceEqDiff, Nat.reduceAdd, Nat.reduceLeDiff, Nat.reduceLT, Int.reduceLE, Int.reduceLT, Int.reduceAdd, Int.reduceSub, Int.reduceNeg, Int.reduceBEq, Int.reduceBNe, Int.reduceEq, Int.reduceGT, Int.reduceGE, Int.reduceMul, Int.reduceToNat, Nat.reduceMul, reduceCtorEq, h4, h13, h14, hrow, q1, w1, r64, u0, u1, u2, u3, v1, v2, v3, rr1, sp2, Int.reduceToNat, qm] <;> rfl)) (by simp) (by omega) (by intro u hu; simp only [List.mem_cons, List.not_mem_nil, or_false] at hu; rcases hu with rfl | rfl | rfl <;> simp only <;> omega) ?_) | (refine vd0w rfl (by decide) (by ((repeat (first | rewrite [hpL_t rfl] | rewrite [hpL_f rfl])); (simp only [hpL, app_cons, app_nil] <;> rfl))) (by (simp only [push_cast, ↓reduceIte, Nat.reduceEqDiff, Nat.reduceAdd, Nat.reduceLeDiff, Nat.reduceLT, Int.reduceLE, Int.reduceLT, Int.reduceAdd, Int.reduceSub, Int.reduceNeg, Int.reduceBEq, Int.reduceBNe, Int.reduceEq, Int.reduceGT, Int.reduceGE, Int.reduceMul, Int.reduceToNat, Nat.reduceMul, reduceCtorEq, h4, h13, h14, hrow, q1, w1, r64, u0, u1, u2, u3, v1, v2, v3, rr1, sp2, Int.reduceToNat, qm] <;> rfl)) (by omega) (by intro u hu; simp only [List.mem_cons, List.not_mem_nil, or_false] at hu; rcases hu with rfl | rfl | rfl <;> simp only <;> omega) ?_) | (apply vd0; (focus rfl)) | (apply vd0r; (focus rfl); (focus decide); (focus rfl)) | (apply vd0p; (focus decide)) | apply vd4 | apply b_tt | apply b_ff | apply b_tf | apply b_ft | apply b_no | exact isD.mk rfl | ((repeat (first | rewrite [hpL_t rfl] | rewrite [hpL_f rfl])); (simp only [hpL, app_cons, app_nil] <;> rfl)) | (apply eqG; (simp only [push_cast, ↓reduceIte, Nat.reduceEqDiff, Nat.reduceAdd, Nat.reduceLeDiff, Nat.reduceLT, Int.reduceLE, Int.reduceLT, Int.reduceAdd, Int.reduceSub, Int.reduceNeg, Int.reduceBEq, Int.reduceBNe, Int.reduceEq, Int.reduceGT, Int.reduceGE, Int.reduceMul, Int.reduceToNat, Nat.reduceMul, reduceCtorEq, h4, h13, h14, hrow, q1, w1, r64, u0, u1, u2, u3, v1, v2, v3, rr1, sp2, Int.reduceToNat, qm] <;> rfl)))
          (refine vd_nil (by simp only [hpL, app_cons, app_nil, if_true] <;> rfl) ?_)
          refine aw_in (aw_then ?_)
          have fin : [AV.sl 1 (n + 1 + 3 * k) 0 64, .b false].map (frz (only (n + 1 + 3 * k) (cellsB zero64)) 1) = secC (List.replicate (k + 1) (some zero64)) := by
            have := frz_new (n + 1 + 3 * k) 0
            rw [show k + 1 = 0 + 1 by omega]; exact this
          refine AWp.frzIn (j := n + 1 + 3 * k) (k := n + 1 + 3 * k + 1 + 1) (cs := cellsB zero64) (by (simp only [push_cast, ↓reduceIte, Nat.reduceEqDiff, Nat.reduceAdd, Nat.reduceLeDiff, Nat.reduceLT, Int.reduceLE, Int.reduceLT, Int.reduceAdd, Int.reduceSub, Int.reduceNeg, Int.reduceBEq, Int.reduceBNe, Int.reduceEq, Int.reduceGT, Int.reduceGE, Int.reduceMul, Int.reduceToNat, Nat.reduceMul, reduceCtorEq, h4, h13, h14, hrow, q1, w1, r64, u0, u1, u2, u3, v1, v2, v3, rr1, sp2, Int.reduceToNat, qm] <;> rfl)) (by (simp only [push_cast, ↓reduceIte, Nat.reduceEqDiff, Nat.reduceAdd, Nat.reduceLeDiff, Nat.reduceLT, Int.reduceLE, Int.reduceLT, Int.reduceAdd, Int.reduceSub, Int.reduceNeg, Int.reduceBEq, Int.reduceBNe, Int.reduceEq, Int.reduceGT, Int.reduceGE, Int.reduceMul, Int.reduceToNat, Nat.reduceMul, reduceCtorEq, h4, h13, h14, hrow, q1, w1, r64, u0, u1, u2, u3, v1, v2, v3, rr1, sp2, Int.reduceToNat, qm] <;> rfl)) (by omega) fin ?_
          have u7 : ∀ (g : Heap) (r : Option Row), upd g (n + 1 + 3 * k + 1 + 1) r n = g n := fun g r => upd_ne _ _ (by omega)
          have en : n + 3 * (k + 1) = n + 1 + 3 * k + 1 + 1 := by omega
          have ek : n + 1 + 3 * (k + 1) = n + 1 + 3 * k + 1 + 1 + 1 := by omega
          have es : newSafe n (k + 1) = .sl 2 (n + 1 + 3 * k + 1 + 1) 0 1 := by rw [newSafe, if_neg (Nat.succ_ne_zero k), en]; congr 1; omega
          (refine aw_regionL hS (by kernel_rfl) ?_; repeat (first | apply vr0u | apply vr4 | apply b_tt | apply b_ff | apply b_tf | apply b_ft | apply b_no | exact isD.mk rfl | (apply eqG; (simp only [push_cast, ↓reduceIte, Nat.reduceEqDiff, Nat.reduceAdd, Nat.reduceLeDiff, Nat.reduceLT, Int.reduceLE, Int.reduceLT, Int.reduceAdd, Int.reduceSub, Int.reduceNeg, Int.reduceBEq, Int.reduceBNe, Int.reduceEq, Int.reduceGT, Int.reduceGE, Int.reduceMul, Int.reduceToNat, Nat.reduceMul, reduceCtorEq, h4, h13, h14, w1, es, en, u0, u7, u2] <;> rfl)) | exact (rfl : app (swap _ _) _ = _)))
          refine vr_nil (aw_then ⟨N - (k + 1), by omega, k + 1, rfl, hkk, by (simp only [push_cast, ↓reduceIte, Nat.reduceEqDiff, Nat.reduceAdd, Nat.reduceLeDiff, Nat.reduceLT, Int.reduceLE, Int.reduceLT, Int.reduceAdd, Int.reduceSub, Int.reduceNeg, Int.reduceBEq, Int.reduceBNe, Int.reduceEq, Int.reduceGT, Int.reduceGE, Int.reduceMul, Int.reduceToNat, Nat.reduceMul, reduceCtorEq, h4, h13, h14, w1, es, en, u0, u7, u2] <;> rfl), by (simp only [push_cast, ↓reduceIte, Nat.reduceEqDiff, Nat.reduceAdd, Nat.reduceLeDiff, Nat.reduceLT, Int.reduceLE, Int.reduceLT, Int.reduceAdd, Int.reduceSub, Int.reduceNeg, Int.reduceBEq, Int.reduceBNe, Int.reduceEq, Int.reduceGT, Int.reduceGE, Int.reduceMul, Int.reduceToNat, Nat.reduceMul, reduceCtorEq, h4, h13, h14, w1, es, en, u0, u7, u2] <;> rfl), by (simp only [push_cast, ↓reduceIte, Nat.reduceEqDiff, Nat.reduceAdd, Nat.reduceLeDiff, Nat.reduceLT, Int.reduceLE, Int.reduceLT, Int.reduceAdd, Int.reduceSub, Int.reduceNeg, Int.reduceBEq, Int.reduceBNe, Int.reduceEq, Int.reduceGT, Int.reduceGE, Int.reduceMul, Int.reduceToNat, Nat.reduceMul, reduceCtorEq, h4, h13, h14, w1, es, en, u0, u7, u2] <;> rfl), by omega, ?_, fun _ => ?_, ?_⟩)
          · rw [es, upd_ne _ _ (by omega), upd_ne _ _ (by omega), upd_same]
          · rw [en, upd_same]
          · exact keepU (by omega) (keepU (by omega) (keepU (Nat.le_refl _) (keepU (by omega) (keepU (by omega) (keepU (by omega) hk)))))
        · have hsf : newSafe n k = .sl 2 (n + 3 * k) 0 k := if_neg hk0
          have hin := hin hk0
          rw [hsf] at hrow
          have qa : ((secC (List.replicate k (some zero64))).length = k * 2) = True := by simp [secC_len]
          have qb : ((k + 1) * 32 ≤ 140737488355328) = True := by simp; omega
          have qc : (k + 1 ≤ 9223372036854775807) = True := by simp; omega
          have u4 : ∀ (g : Heap) (r : Option Row), upd g (n + 1 + 3 * k) r (n + 3 * k) = g (n + 3 * k) := fun g r => upd_ne _ _ (by omega)
          have u5 : ∀ (g : Heap) (r : Option Row), upd g (n + 1 + 3 * k + 1) r (n + 3 * k) = g (n + 3 * k) := fun g r => upd_ne _ _ (by omega)
          have u6 : ∀ (g : Heap) (r : Option Row), upd g (n + 3 * k) r n = g n := fun g r => upd_ne _ _ (by omega)
          refine AWp.seq ?_
          (refine aw_regionL hS (by kernel_rfl) ?_; repeat (first | apply vr0u | apply vr4 | apply b_tt | apply b_ff | apply b_tf | apply b_ft | apply b_no | exact isD.mk rfl | (apply eqG; (simp only [push_cast, ↓reduceIte, Nat.reduceEqDiff, Nat.reduceAdd, Nat.reduceLeDiff, Nat.reduceLT, Int.reduceLE, Int.reduceLT, Int.reduceAdd, Int.reduceSub, Int.reduceNeg, Int.reduceBEq, Int.reduceBNe, Int.reduceEq, Int.reduceGT, Int.reduceGE, Int.reduceMul, Int.reduceToNat, Nat.reduceMul, reduceCtorEq, h4, h13, h14, hrow, hin, q1, w1, r64, u0, u1, u2, u3, v1, v2, v3, v4, u4, u5, u6, rr1, sp2, Int.reduceToNat, qm, qa, qb, qc] <;> rfl)) | exact (rfl : app (swap _ _) _ = _)))
          refine vr_nil (aw_then ?_)
          refine AWp.seq ?_
          refine aw_true (by (simp only [push_cast, ↓reduceIte, Nat.reduceEqDiff, Nat.reduceAdd, Nat.reduceLeDiff, Nat.reduceLT, Int.reduceLE, Int.reduceLT, Int.reduceAdd, Int.reduceSub, Int.reduceNeg, Int.reduceBEq, Int.reduceBNe, Int.reduceEq, Int.reduceGT, Int.reduceGE, Int.reduceMul, Int.reduceToNat, Nat.reduceMul, reduceCtorEq, h4, h13, h14, hrow, hin, q1, w1, r64, u0, u1, u2, u3, v1, v2, v3, v4, u4, u5, u6, rr1, sp2, Int.reduceToNat, qm, qa, qb, qc] <;> rfl)) (AWp.skip (aw_then ?_))
          refine AWp.seq ?_
          refine AWp.block ?_
          refine aw_drawsL [0, 0, 2, 6, 14, 0, 32, 96, 254, 511, 1023, 2047] [8, 11] hS mixed (by kernel_rfl) (by kernel_rfl) ?_
          repeat (first | (refine vd0f (by decide) (by ((repeat (first | rewrite [hpL_t rfl] | rewrite [hpL_f rfl])); (simp only [hpL, app_cons, app_nil] <;> rfl))) (by (simp only [push_cast, ↓reduceIte, Nat.reduceEqDiff, Nat.reduceAdd, Nat.reduceLeDiff, Nat.reduceLT, Int.reduceLE, Int.reduceLT, Int.reduceAdd, Int.reduceSub, Int.reduceNeg, Int.reduceBEq, Int.reduceBNe, Int.reduceEq, Int.reduceGT, Int.reduceGE, Int.reduceMul, Int.reduceToNat, Nat.reduceMul, reduceCtorEq, h4, h13, h14, hrow, hin, q1, w1, r64, u0, u1, u2, u3, v1, v2, v3, v4, u4, u5, u6, rr1, sp2, Int.reduceToNat, qm, qa, qb, qc] <;> rfl)) ?_) | (refine vd0q rfl (by decide) rfl (by ((repeat (first | rewrite [hpL_t rfl] | rewrite [hpL_f rfl])); (simp only [hpL, app_cons, app_nil] <;> rfl))) (by (simp only [push_cast, ↓reduceIte, Nat.reduceEqDiff, Nat.reduceAdd, Nat.reduceLeDiff, Nat.reduceLT, Int.reduceLE, Int.reduceLT, Int.reduceAdd, Int.reduceSub, Int.reduceNeg, Int.reduceBEq, Int.reduceBNe, Int.reduceEq, Int.reduceGT, Int.reduceGE, Int.reduceMul, Int.reduceToNat, Nat.reduceMul, reduceCtorEq, h4, h13, h14, hrow, hin, q1, w1, r64, u0, u1, u2, u3, v1, v2, v3, v4, u4, u5, u6, rr1, sp2, Int.reduceToNat, qm, qa, qb, qc] <;> rfl)) (by simp) (by omega) (by intro u hu; simp only [List.mem_cons, List.not_mem_nil, or_false] at hu; rcases hu with rfl | rfl | rfl <;> simp only <;> omega) ?_) | (refine vd0w rfl (by decide) (by ((repeat (first | rewrite [hpL_t rfl] | rewrite [hpL_f rfl])); (simp only [hpL, app_cons, app_nil] <;> rfl))) (by (simp only [push_cast, ↓reduceIte, Nat.reduceEqDiff, Nat.reduceAdd, Nat.reduceLeDiff, Nat.reduceLT, Int.reduceLE, Int.reduceLT, Int.reduceAdd, Int.reduceSub, Int.reduceNeg, Int.reduceBEq, Int.reduceBNe, Int.reduceEq, Int.reduceGT, Int.reduceGE, Int.reduceMul, Int.reduceToNat, Nat.reduceMul, reduceCtorEq, h4, h13, h14, hrow, hin, q1, w1, r64, u0, u1, u2, u3, v1, v2, v3, v4, u4, u5, u6, rr1, sp2, Int.reduceToNat, qm, qa, qb, qc] <;> rfl)) (by omega) (by intro u hu; simp only [List.mem_cons, List.not_mem_nil, or_false] at hu; rcases hu with rfl | rfl | rfl <;> simp only <;> omega) ?_) | (apply vd0; (focus rfl)) | (apply vd0r; (focus rfl); (focus decide); (focus rfl)) | (apply vd0p; (focus decide)) | apply vd4 | apply b_tt | apply b_ff | apply b_tf | apply b_ft | apply b_no | exact isD.mk rfl | ((repeat (first | rewrite [hpL_t rfl] | rewrite [hpL_f rfl])); (simp only [hpL, app_cons, app_nil] <;> rfl)) | (apply eqG; (simp only [push_cast, ↓reduceIte, Nat.reduceEqDiff, Nat.reduceAdd, Nat.reduceLeDiff, Nat.reduceLT, Int.reduceLE, Int.reduceLT, Int.reduceAdd, Int.reduceSub, Int.reduceNeg, Int.reduceBEq, Int.reduceBNe, Int.reduceEq, Int.reduceGT, Int.reduceGE, Int.reduceMul, Int.reduceToNat, Nat.reduceMul, reduceCtorEq, h4, h13, h14, hrow, hin, q1, w1, r64, u0, u1, u2, u3, v1, v2, v3, v4, u4, u5, u6, rr1, sp2, Int.reduceToNat, qm, qa, qb, qc] <;> rfl)))
          (refine vd_nil (by simp only [hpL, app_cons, app_nil, if_true] <;> rfl) ?_)
          refine aw_in (aw_then ?_)
          have fin : (secC (List.replicate k (some zero64)) ++ [AV.sl 1 (n + 1 + 3 * k) 0 64, .b false]).map (frz (only (n + 1 + 3 * k) (cellsB zero64)) 1) = secC (List.replicate (k + 1) (some zero64)) := frz_new (n + 1 + 3 * k) k
          refine AWp.frzIn (j := n + 1 + 3 * k) (k := n + 1 + 3 * k + 1 + 1) (cs := cellsB zero64) (by (simp only [push_cast, ↓reduceIte, Nat.reduceEqDiff, Nat.reduceAdd, Nat.reduceLeDiff, Nat.reduceLT, Int.reduceLE, Int.reduceLT, Int.reduceAdd, Int.reduceSub, Int.reduceNeg, Int.reduceBEq, Int.reduceBNe, Int.reduceEq, Int.reduceGT, Int.reduceGE, Int.reduceMul, Int.reduceToNat, Nat.reduceMul, reduceCtorEq, h4, h13, h14, hrow, hin, q1, w1, r64, u0, u1, u2, u3, v1, v2, v3, v4, u4, u5, u6, rr1, sp2, Int.reduceToNat, qm, qa, qb, qc] <;> rfl)) (by (simp only [push_cast, ↓reduceIte, Nat.reduceEqDiff, Nat.reduceAdd, Nat.reduceLeDiff, Nat.reduceLT, Int.reduceLE, Int.reduceLT, Int.reduceAdd, Int.reduceSub, Int.reduceNeg, Int.reduceBEq, Int.reduceBNe, Int.reduceEq, Int.reduceGT, Int.reduceGE, Int.reduceMul, Int.reduceToNat, Nat.reduceMul, reduceCtorEq, h4, h13, h14, hrow, hin, q1, w1, r64, u0, u1, u2, u3, v1, v2, v3, v4, u4, u5, u6, rr1, sp2, Int.reduceToNat, qm, qa, qb, qc] <;> rfl)) (by omega) fin ?_
          have u7 : ∀ (g : Heap) (r : Option Row), upd g (n + 1 + 3 * k + 1 + 1) r n = g n := fun g r => upd_ne _ _ (by omega)
          have en : n + 3 * (k + 1) = n + 1 + 3 * k + 1 + 1 := by omega
          have ek : n + 1 + 3 * (k + 1) = n + 1 + 3 * k + 1 + 1 + 1 := by omega
          have es : newSafe n (k + 1) = .sl 2 (n + 1 + 3 * k + 1 + 1) 0 (k + 1) := by rw [newSafe, if_neg (Nat.succ_ne_zero k), en]
          (refine aw_regionL hS (by kernel_rfl) ?_; repeat (first | apply vr0u | apply vr4 | apply b_tt | apply b_ff | apply b_tf | apply b_ft | apply b_no | exact isD.mk rfl | (apply eqG; (simp only [push_cast, ↓reduceIte, Nat.reduceEqDiff, Nat.reduceAdd, Nat.reduceLeDiff, Nat.reduceLT, Int.reduceLE, Int.reduceLT, Int.reduceAdd, Int.reduceSub, Int.reduceNeg, Int.reduceBEq, Int.reduceBNe, Int.reduceEq, Int.reduceGT, Int.reduceGE, Int.reduceMul, Int.reduceToNat, Nat.reduceMul, reduceCtorEq, h4, h13, h14, w1, es, en, u0, u7, u2] <;> rfl)) | exact (rfl : app (swap _ _) _ = _)))
          refine vr_nil (aw_then ⟨N - (k + 1), by omega, k + 1, rfl, hkk, by (simp only [push_cast, ↓reduceIte, Nat.reduceEqDiff, Nat.reduceAdd, Nat.reduceLeDiff, Nat.reduceLT, Int.reduceLE, Int.reduceLT, Int.reduceAdd, Int.reduceSub, Int.reduceNeg, Int.reduceBEq, Int.reduceBNe, Int.reduceEq, Int.reduceGT, Int.reduceGE, Int.reduceMul, Int.reduceToNat, Nat.reduceMul, reduceCtorEq, h4, h13, h14, w1, es, en, u0, u7, u2] <;> rfl), by (simp only [push_cast, ↓reduceIte, Nat.reduceEqDiff, Nat.reduceAdd, Nat.reduceLeDiff, Nat.reduceLT, Int.reduceLE, Int.reduceLT, Int.reduceAdd, Int.reduceSub, Int.reduceNeg, Int.reduceBEq, Int.reduceBNe, Int.reduceEq, Int.reduceGT, Int.reduceGE, Int.reduceMul, Int.reduceToNat, Nat.reduceMul, reduceCtorEq, h4, h13, h14, w1, es, en, u0, u7, u2] <;> rfl), by (simp only [push_cast, ↓reduceIte, Nat.reduceEqDiff, Nat.reduceAdd, Nat.reduceLeDiff, Nat.reduceLT, Int.reduceLE, Int.reduceLT, Int.reduceAdd, Int.reduceSub, Int.reduceNeg, Int.reduceBEq, Int.reduceBNe, Int.reduceEq, Int.reduceGT, Int.reduceGE, Int.reduceMul, Int.reduceToNat, Nat.reduceMul, reduceCtorEq, h4, h13, h14, w1, es, en, u0, u7, u2] <;> rfl), by omega, ?_, fun _ => ?_, ?_⟩)
          · rw [es, upd_ne _ _ (by omega), upd_ne _ _ (by omega), upd_same]
          · rw [en, upd_same]
          · exact keepU (by omega) (keepU (by omega) (keepU (Nat.le_refl _) (keepU (by omega) (keepU (by omega) (keepU (by omega) (keepU (by omega) hk))))))
      · have hke : k = N := by omega
        subst hke
        have q1 : ((k : Int) < (k : Int)) = False := by simp
        have hk0 : k ≠ 0 := by omega
        have hsf : newSafe n k = .sl 2 (n + 3 * k) 0 k := if_neg hk0
        rw [hsf] at hrow
        refine AWp.seq ?_
        (refine aw_regionL hS (by kernel_rfl) ?_; repeat (first | apply vr0u | apply vr4 | apply b_tt | apply b_ff | apply b_tf | apply b_ft | apply b_no | exact isD.mk rfl | (apply eqG; (simp only [push_cast, ↓reduceIte, Nat.reduceEqDiff, Nat.reduceAdd, Nat.reduceLeDiff, Nat.reduceLT, Int.reduceLE, Int.reduceLT, Int.reduceAdd, Int.reduceSub, Int.reduceNeg, Int.reduceBEq, Int.reduceBNe, Int.reduceEq, Int.reduceGT, Int.reduceGE, Int.reduceMul, Int.reduceToNat, Nat.reduceMul, reduceCtorEq, h4, h13, h14, q1] <;> rfl)) | exact (rfl : app (swap _ _) _ = _)))
        refine vr_nil (aw_then ?_)
        refine AWp.seq ?_
        refine aw_false (by (simp only [push_cast, ↓reduceIte, Nat.reduceEqDiff, Nat.reduceAdd, Nat.reduceLeDiff, Nat.reduceLT, Int.reduceLE, Int.reduceLT, Int.reduceAdd, Int.reduceSub, Int.reduceNeg, Int.reduceBEq, Int.reduceBNe, Int.reduceEq, Int.reduceGT, Int.reduceGE, Int.reduceMul, Int.reduceToNat, Nat.reduceMul, reduceCtorEq, h4, h13, h14, q1] <;> rfl)) (AWp.exit (aw_thru (aw_thru (aw_exit (aw_then ?_)))))
        exact ⟨by (simp only [push_cast, ↓reduceIte, Nat.reduceEqDiff, Nat.reduceAdd, Nat.reduceLeDiff, Nat.reduceLT, Int.reduceLE, Int.reduceLT, Int.reduceAdd, Int.reduceSub, Int.reduceNeg, Int.reduceBEq, Int.reduceBNe, Int.reduceEq, Int.reduceGT, Int.reduceGE, Int.reduceMul, Int.reduceToNat, Nat.reduceMul, reduceCtorEq, h4, h13, h14, q1] <;> rfl), rfl, hrow, hin hk0, hk⟩
  · rintro t1 h1 n1 - ⟨h4, rfl, hrow, hin, hk⟩
    have e0 : (List.replicate N (some zero64)).length = N := List.length_replicate
    obtain ⟨S2, hS2, h22⟩ : ∃ S2, SumOk Tryd.prog S2 ∧ S2 22 [.sl 2 (n + 3 * N) 0 N] h1 = .fresh 2 N (secC (List.replicate N (some zero64))) := ⟨_, hS.loc (f := 22) (args := [.sl 2 (n + 3 * N) 0 N]) (h := h1) (r := .fresh 2 N (secC (List.replicate N (some zero64)))) ⟨free_secC _, by have := c22 (List.replicate N (some zero64)) (by rw [e0]; omega) hin DB hS; rw [e0] at this; exact this⟩, Sums.loc_at⟩
    have u0 : ∀ (g : Heap) (r : Option Row), upd g (n + 1 + 3 * N) r n = g n := fun g r => upd_ne _ _ (by omega)
    refine AWp.seq ?_
    refine aw_regionL hS2 (by kernel_rfl) ?_
    repeat (first | apply vr0u | apply vr4 | apply b_tt | apply b_ff | apply b_tf | apply b_ft | apply b_no | exact isD.mk rfl | (apply eqG; (simp only [push_cast, ↓reduceIte, Nat.reduceEqDiff, Nat.reduceAdd, Nat.reduceLeDiff, Nat.reduceLT, Int.reduceLE, Int.reduceLT, Int.reduceAdd, Int.reduceSub, Int.reduceNeg, Int.reduceBEq, Int.reduceBNe, Int.reduceEq, Int.reduceGT, Int.reduceGE, Int.reduceMul, Int.reduceToNat, Nat.reduceMul, reduceCtorEq, h4, hrow, h22, u0] <;> rfl)) | exact (rfl : app (swap _ _) _ = _))
    refine vr_nil (aw_then ?_)
    refine AWp.seq ?_
    refine aw_regionL hS2 (by kernel_rfl) ?_
    repeat (first | apply vr0u | apply vr4 | apply b_tt | apply b_ff | apply b_tf | apply b_ft | apply b_no | exact isD.mk rfl | (apply eqG; (simp only [push_cast, ↓reduceIte, Nat.reduceEqDiff, Nat.reduceAdd, Nat.reduceLeDiff, Nat.reduceLT, Int.reduceLE, Int.reduceLT, Int.reduceAdd, Int.reduceSub, Int.reduceNeg, Int.reduceBEq, Int.reduceBNe, Int.reduceEq, Int.reduceGT, Int.reduceGE, Int.reduceMul, Int.reduceToNat, Nat.reduceMul, reduceCtorEq, h4, hrow, h22, u0] <;> rfl)) | exact (rfl : app (swap _ _) _ = _))
    refine vr_nil (aw_then ?_)
    refine AWp.ret ?_
    have FN : DFacts (upd (upd h1 (n + 1 + 3 * N) (some (.cells (secC (List.replicate N (some zero64)))))) n (some (.cells [.sl 2 (n + 3 * N) 0 N, .sl 2 (n + 1 + 3 * N) 0 N, .ro true [] 0, .b false, .np]))) n (newW N n) := by
      refine ⟨?_, ?_, ?_, fun hp => absurd rfl hp, fun x hx => (nomatch hx), by show n ≠ n + 3 * N; omega, by show n ≠ n + 1 + 3 * N; omega, by show n + 3 * N ≠ n + 1 + 3 * N; omega⟩
      · rw [upd_same]; simp only [DW.rowD, newW, DW.pd, DW.tr, if_true, List.length_replicate]
      · show upd _ _ _ (n + 3 * N) = _
        rw [upd_ne _ _ (by omega), upd_ne _ _ (by omega)]; exact hin
      · show upd _ _ _ (n + 1 + 3 * N) = _
        rw [upd_ne _ _ (by omega), upd_same]; rfl
    have hJ : ∀ j, j ∈ ((newW N n).cont n).keys → n ≤ j ∧ j < n + 1 + 3 * N + 1 := fun j hj => by
      rw [new_keys] at hj
      rcases hj with rfl | rfl | rfl <;> omega
    exact Out.swap (L := []) (xs := [.p n 0, .i .i64 0]) (.inr rfl) (by simp [Tryd.f8, resAll, resT]; constructor <;> (simp only [push_cast, ↓reduceIte, Nat.reduceEqDiff, Nat.reduceAdd, Nat.reduceLeDiff, Nat.reduceLT, Int.reduceLE, Int.reduceLT, Int.reduceAdd, Int.reduceSub, Int.reduceNeg, Int.reduceBEq, Int.reduceBNe, Int.reduceEq, Int.reduceGT, Int.reduceGE, Int.reduceMul, Int.reduceToNat, Nat.reduceMul, reduceCtorEq, h4, hrow, h22, u0] <;> rfl)) rfl (by omega) (Nat.le_refl _) (show namesAll (· < _) [AV.p n 0, .i .i64 0] from ⟨by show n < _; omega, trivial, trivial⟩) ⟨fun p hp => (nomatch hp), List.nodup_nil⟩ FN.has (fun j hj => .inr (hJ j hj)) (DW.names fun j hj => (hJ j hj).2)
      (fun x r hx hr _ => by rw [upd_ne _ _ (by omega), upd_ne _ _ (by omega)]; exact hk x r hx hr)

end Go.Proofs.YtepfknnffooaiaaDoor
