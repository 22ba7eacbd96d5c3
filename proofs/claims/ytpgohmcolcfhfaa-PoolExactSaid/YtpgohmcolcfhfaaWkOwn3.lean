import Derived.Test.YtpgohmcolcfhfaaWkOwn2

namespace Go.Proofs.Ytpgohmcolcfhfaa
open Go.Av
set_option maxRecDepth 100000
set_option maxHeartbeats 1000000
set_option linter.unusedSimpArgs false
set_option linter.unusedVariables false
attribute [local push_cast] stepE callR resE aeff aev ofC ofC1 put_at Av.put_none inTmps List.getD_cons_zero List.getD_cons_succ AV.boxable if_true if_false AV.cells aload place app_cons app_nil upd_same Av.part abin aconv aindexAddr fillA splice_one splice_two abuiltin alen amax amin aun aindex Option.map_some List.map_cons List.map_nil List.nil_append List.append_nil List.cons_append Nat.le_refl Nat.zero_add List.length_cons List.length_nil List.drop_succ_cons List.drop_zero List.take_succ_cons List.take_zero beq_self_eq_true bne_self_eq_false Bool.not_true Bool.not_false List.set_cons_zero List.set_cons_succ Bool.false_eq_true IntWalk.i64_in decide_true decide_false Int.toNat_zero and_self and_true true_and List.getElem?_cons_zero List.getElem?_cons_succ agT_26 szT_26 slT_24 agT_24 szT_24 flT_26_0 flT_26_1 flT_26_3 flT_26_2 agT_22 szT_22 arT_22 agT_3 szT_3 kiT_3 kiT_23 kiT_4 zeT_26 buT_26 zeT_22 buT_22 kiT_9 kiT_51 kiT_5 und_51 slT_51 agT_5 szT_5 aappend aapp view slT_24 zeT_3 byT_24 Bool.and_true Bool.true_and Nat.mul_one alen slT_50 agT_53 szT_53 flT_53_0 flT_53_1 agT_57 szT_57 flT_57_3 slT_54 agT_50 szT_50 agT_51 szT_51 zeT_53 buT_53 zeT_57 buT_57 kiT_34 Option.map_none aslice asliceB amin amax txC_0 txC_1 txC_len txC_take take_cellsB len_cellsB unbytes_cells bkC_3 bkC_len bkC_take

def PickΦ (h : Heap) (n : Nat) (p : List Tx) (r : AV) (g : Heap) (_ : Nat) : Prop := OwnT g n p r ∧ ∀ x r, x < n → h x = some r → g x = some r
theorem PickΦ.mk {h g : Heap} {n m : Nat} {p : List Tx} {x : AV} (ho : OwnT g n p x) (hk : ∀ x r, x < n → h x = some r → g x = some r) : PickΦ h n p x g m := ⟨ho, hk⟩
theorem c39r (z zt : Bool) (l : List Tx) (take : List Int) (ht : take.length ≤ 100000) (hl : l.length ≤ 100000) (S : Sums) (hS : SumOk Try.prog S) (hpz : ∀ x, x ∈ pickF l take [] → (x.z = true → x.b = []))
    (h53n : ∀ h, S 53 [.ro true [] 0] h = .pure (.ro true [] 0))
    (h53 : pickF l take [] ≠ [] → ∀ h, S 53 [.ro false (txs (pickF l take [])) (pickF l take []).length] h = .wide fun m => (.sl 2 m 0 (pickF l take []).length, (m, some (.cells (layC (pickF l take []) (m + 1)))) :: layU (pickF l take []) (m + 1), layN (pickF l take []) (m + 1))) :
    ∀ h n, DRel Try.prog 39 [.ro z (txs l) l.length, .ro zt (ints take) take.length] h n (PickΦ h n (pickF l take [])) := by
  intro h n
  refine DRel.of Try.func39 rfl (by decide) (Nat.le_of_ble_eq_true rfl) ?_
  refine AWp.seq ?_
  (refine aw_regionL hS (by kernel_rfl) ?_; repeat (first | apply vr0u | apply vr4 | apply b_tt | apply b_ff | apply b_tf | apply b_ft | apply b_no | exact isD.mk rfl | (apply eqG; (simp only [push_cast, ↓reduceIte, Nat.reduceEqDiff, Nat.reduceAdd, Nat.reduceLeDiff, Int.reduceLE, Int.reduceLT, Int.reduceAdd, Int.reduceSub, Int.reduceNeg, Int.reduceBEq, Int.reduceBNe, Int.reduceEq, Int.reduceGT, Int.reduceGE, Int.reduceMul, Int.reduceToNat, Nat.reduceMul, reduceCtorEq] <;> rfl))))
  refine vr_nil (aw_then ?_)
  refine AWp.seq ?_
  (refine aw_regionL hS (by kernel_rfl) ?_; repeat (first | apply vr0u | apply vr4 | apply b_tt | apply b_ff | apply b_tf | apply b_ft | apply b_no | exact isD.mk rfl | (apply eqG; (simp only [push_cast, ↓reduceIte, Nat.reduceEqDiff, Nat.reduceAdd, Nat.reduceLeDiff, Int.reduceLE, Int.reduceLT, Int.reduceAdd, Int.reduceSub, Int.reduceNeg, Int.reduceBEq, Int.reduceBNe, Int.reduceEq, Int.reduceGT, Int.reduceGE, Int.reduceMul, Int.reduceToNat, Nat.reduceMul, reduceCtorEq] <;> rfl))))
  refine vr_nil (aw_then ?_)
  refine AWp.cut (fun t' h' n' => outT n n' (pickF l take []) (t' 5) h' ∧ n ≤ n' ∧ ∀ x r, x < n → h x = some r → h' x = some r) ?_ ?_
  · refine AWp.seq ?_
    (refine aw_regionL hS (by kernel_rfl) ?_; repeat (first | apply vr0u | apply vr4 | apply b_tt | apply b_ff | apply b_tf | apply b_ft | apply b_no | exact isD.mk rfl | (apply eqG; (simp only [push_cast, ↓reduceIte, Nat.reduceEqDiff, Nat.reduceAdd, Nat.reduceLeDiff, Int.reduceLE, Int.reduceLT, Int.reduceAdd, Int.reduceSub, Int.reduceNeg, Int.reduceBEq, Int.reduceBNe, Int.reduceEq, Int.reduceGT, Int.reduceGE, Int.reduceMul, Int.reduceToNat, Nat.reduceMul, reduceCtorEq] <;> rfl))))
    refine vr_nil (aw_then ?_)
    refine AWp.block ?_
    refine AWp.loop (fun k t' h' n' => ∃ (i : Nat) (p : List Tx), k = take.length - i ∧ i ≤ take.length ∧ pickF l take [] = pickF l (take.drop i) p ∧ p.length ≤ 32 ∧ outT n n' p (t' 5) h' ∧ t' 0 = .ro z (txs l) l.length ∧ t' 8 = .ro zt (ints take) take.length ∧ t' 9 = .i .i64 (take.length : Int) ∧ t' 10 = .i .i64 (i : Int) ∧ n ≤ n' ∧ ∀ x r, x < n → h x = some r → h' x = some r) take.length ?_ ?_
    · exact ⟨0, [], rfl, Nat.zero_le _, by rw [List.drop_zero], by simp, .inl ⟨rfl, by (simp only [push_cast, ↓reduceIte, Nat.reduceEqDiff, Nat.reduceAdd, Nat.reduceLeDiff, Int.reduceLE, Int.reduceLT, Int.reduceAdd, Int.reduceSub, Int.reduceNeg, Int.reduceBEq, Int.reduceBNe, Int.reduceEq, Int.reduceGT, Int.reduceGE, Int.reduceMul, Int.reduceToNat, Nat.reduceMul, reduceCtorEq] <;> rfl)⟩, by (simp only [push_cast, ↓reduceIte, Nat.reduceEqDiff, Nat.reduceAdd, Nat.reduceLeDiff, Int.reduceLE, Int.reduceLT, Int.reduceAdd, Int.reduceSub, Int.reduceNeg, Int.reduceBEq, Int.reduceBNe, Int.reduceEq, Int.reduceGT, Int.reduceGE, Int.reduceMul, Int.reduceToNat, Nat.reduceMul, reduceCtorEq] <;> rfl), by (simp only [push_cast, ↓reduceIte, Nat.reduceEqDiff, Nat.reduceAdd, Nat.reduceLeDiff, Int.reduceLE, Int.reduceLT, Int.reduceAdd, Int.reduceSub, Int.reduceNeg, Int.reduceBEq, Int.reduceBNe, Int.reduceEq, Int.reduceGT, Int.reduceGE, Int.reduceMul, Int.reduceToNat, Nat.reduceMul, reduceCtorEq] <;> rfl), by (simp only [push_cast, ↓reduceIte, Nat.reduceEqDiff, Nat.reduceAdd, Nat.reduceLeDiff, Int.reduceLE, Int.reduceLT, Int.reduceAdd, Int.reduceSub, Int.reduceNeg, Int.reduceBEq, Int.reduceBNe, Int.reduceEq, Int.reduceGT, Int.reduceGE, Int.reduceMul, Int.reduceToNat, Nat.reduceMul, reduceCtorEq] <;> rfl), by (simp only [push_cast, ↓reduceIte, Nat.reduceEqDiff, Nat.reduceAdd, Nat.reduceLeDiff, Int.reduceLE, Int.reduceLT, Int.reduceAdd, Int.reduceSub, Int.reduceNeg, Int.reduceBEq, Int.reduceBNe, Int.reduceEq, Int.reduceGT, Int.reduceGE, Int.reduceMul, Int.reduceToNat, Nat.reduceMul, reduceCtorEq] <;> rfl), Nat.le_refl _, keep0⟩
    · rintro m t' h' n' - ⟨i, p, rfl, hil, hpf, hp32, hout, h0, h8, h9, h10, hnn, hk⟩
      by_cases hi : i < take.length
      · have q1 : ((i : Int) < (take.length : Int)) = True := by simp [hi]
        have q2 : (0 ≤ (i : Int) ∧ (i : Int) < (take.length : Int)) = True := by simp [hi]
        have q3 := ints_get hi
        have w1 : IntKind.wrap .i64 ((i : Int) + 1) = (i : Int) + 1 := IntWalk.i64_in _ (by omega)
        have r1 : rep 1 [AV.i .i64 0, AV.ro true [] 0] = [AV.i .i64 0, AV.ro true [] 0] := rfl
        have r2 : ∀ (a b : AV) x, splice [a, b] 0 (txC x) = txC x := fun a b x => rfl
        have hfull := pick_full (l := l) hi (p := p)
        have hskip := pick_skip (l := l) hi (p := p)
        have htake := fun hne k hk hkl => pick_take (l := l) hi (p := p) hne (k := k) hk hkl
        rw [← hpf] at hfull hskip htake
        generalize hv : take[i] = v at *
        rcases hout with ⟨rfl, h5⟩ | ⟨hpne, j, hj1, hj2, h5, hrow⟩
        · refine AWp.seq ?_
          (refine aw_regionL hS (by kernel_rfl) ?_; repeat (first | apply vr0u | apply vr4 | apply b_tt | apply b_ff | apply b_tf | apply b_ft | apply b_no | exact isD.mk rfl | (apply eqG; (simp only [push_cast, ↓reduceIte, Nat.reduceEqDiff, Nat.reduceAdd, Nat.reduceLeDiff, Int.reduceLE, Int.reduceLT, Int.reduceAdd, Int.reduceSub, Int.reduceNeg, Int.reduceBEq, Int.reduceBNe, Int.reduceEq, Int.reduceGT, Int.reduceGE, Int.reduceMul, Int.reduceToNat, Nat.reduceMul, reduceCtorEq, q3, h5, h0, h8, h9, h10, q1, q2, w1, r1, r2, Int.toNat_natCast, Nat.reduceLT] <;> rfl))))
          refine vr_nil (aw_then ?_)
          refine AWp.seq ?_
          refine aw_true (by (simp only [push_cast, ↓reduceIte, Nat.reduceEqDiff, Nat.reduceAdd, Nat.reduceLeDiff, Int.reduceLE, Int.reduceLT, Int.reduceAdd, Int.reduceSub, Int.reduceNeg, Int.reduceBEq, Int.reduceBNe, Int.reduceEq, Int.reduceGT, Int.reduceGE, Int.reduceMul, Int.reduceToNat, Nat.reduceMul, reduceCtorEq, q3, h5, h0, h8, h9, h10, q1, q2, w1, r1, r2, Int.toNat_natCast, Nat.reduceLT] <;> rfl)) (AWp.skip (aw_then ?_))
          refine AWp.seq ?_
          refine AWp.block ?_
          refine AWp.seq ?_
          (refine aw_regionL hS (by kernel_rfl) ?_; repeat (first | apply vr0u | apply vr4 | apply b_tt | apply b_ff | apply b_tf | apply b_ft | apply b_no | exact isD.mk rfl | (apply eqG; (simp only [push_cast, ↓reduceIte, Nat.reduceEqDiff, Nat.reduceAdd, Nat.reduceLeDiff, Int.reduceLE, Int.reduceLT, Int.reduceAdd, Int.reduceSub, Int.reduceNeg, Int.reduceBEq, Int.reduceBNe, Int.reduceEq, Int.reduceGT, Int.reduceGE, Int.reduceMul, Int.reduceToNat, Nat.reduceMul, reduceCtorEq, q3, h5, h0, h8, h9, h10, q1, q2, w1, r1, r2, Int.toNat_natCast, Nat.reduceLT] <;> rfl))))
          refine vr_nil (aw_then ?_)
          refine AWp.seq ?_
          refine AWp.seq ?_
          (refine aw_regionL hS (by kernel_rfl) ?_; repeat (first | apply vr0u | apply vr4 | apply b_tt | apply b_ff | apply b_tf | apply b_ft | apply b_no | exact isD.mk rfl | (apply eqG; (simp only [push_cast, ↓reduceIte, Nat.reduceEqDiff, Nat.reduceAdd, Nat.reduceLeDiff, Int.reduceLE, Int.reduceLT, Int.reduceAdd, Int.reduceSub, Int.reduceNeg, Int.reduceBEq, Int.reduceBNe, Int.reduceEq, Int.reduceGT, Int.reduceGE, Int.reduceMul, Int.reduceToNat, Nat.reduceMul, reduceCtorEq, q3, h5, h0, h8, h9, h10, q1, q2, w1, r1, r2, Int.toNat_natCast, Nat.reduceLT] <;> rfl))))
          refine vr_nil (aw_then ?_)
          refine aw_false (by (simp only [push_cast, ↓reduceIte, Nat.reduceEqDiff, Nat.reduceAdd, Nat.reduceLeDiff, Int.reduceLE, Int.reduceLT, Int.reduceAdd, Int.reduceSub, Int.reduceNeg, Int.reduceBEq, Int.reduceBNe, Int.reduceEq, Int.reduceGT, Int.reduceGE, Int.reduceMul, Int.reduceToNat, Nat.reduceMul, reduceCtorEq, q3, h5, h0, h8, h9, h10, q1, q2, w1, r1, r2, Int.toNat_natCast, Nat.reduceLT] <;> rfl)) (AWp.skip (aw_then ?_))
          by_cases hv0 : 0 ≤ v
          · obtain ⟨k, rfl⟩ : ∃ k : Nat, v = (k : Int) := ⟨v.toNat, by omega⟩
            have g1 : ((k : Int) ≥ 0) = True := by simp
            by_cases hkl : k < l.length
            · have g2 : ((k : Int) < (l.length : Int)) = True := by simp [hkl]
              have g3 : (0 ≤ (k : Int) ∧ (k : Int) < (l.length : Int)) = True := by simp [hkl]
              have g4 := txs_get hkl
              have g5 := txs_in hkl
              refine AWp.seq ?_
              (refine aw_regionL hS (by kernel_rfl) ?_; repeat (first | apply vr0u | apply vr4 | apply b_tt | apply b_ff | apply b_tf | apply b_ft | apply b_no | exact isD.mk rfl | (apply eqG; (simp only [push_cast, ↓reduceIte, Nat.reduceEqDiff, Nat.reduceAdd, Nat.reduceLeDiff, Int.reduceLE, Int.reduceLT, Int.reduceAdd, Int.reduceSub, Int.reduceNeg, Int.reduceBEq, Int.reduceBNe, Int.reduceEq, Int.reduceGT, Int.reduceGE, Int.reduceMul, Int.reduceToNat, Nat.reduceMul, reduceCtorEq, q3, g1, g2, g3, g4, g5, h5, h0, h8, h9, h10, q1, q2, w1, r1, r2, Int.toNat_natCast, Nat.reduceLT] <;> rfl))))
              refine vr_nil (aw_then ?_)
              refine aw_true (by (simp only [push_cast, ↓reduceIte, Nat.reduceEqDiff, Nat.reduceAdd, Nat.reduceLeDiff, Int.reduceLE, Int.reduceLT, Int.reduceAdd, Int.reduceSub, Int.reduceNeg, Int.reduceBEq, Int.reduceBNe, Int.reduceEq, Int.reduceGT, Int.reduceGE, Int.reduceMul, Int.reduceToNat, Nat.reduceMul, reduceCtorEq, q3, g1, g2, g3, g4, g5, h5, h0, h8, h9, h10, q1, q2, w1, r1, r2, Int.toNat_natCast, Nat.reduceLT] <;> rfl)) ?_
              (refine aw_regionL hS (by kernel_rfl) ?_; repeat (first | apply vr0u | apply vr4 | apply b_tt | apply b_ff | apply b_tf | apply b_ft | apply b_no | exact isD.mk rfl | (apply eqG; (simp only [push_cast, ↓reduceIte, Nat.reduceEqDiff, Nat.reduceAdd, Nat.reduceLeDiff, Int.reduceLE, Int.reduceLT, Int.reduceAdd, Int.reduceSub, Int.reduceNeg, Int.reduceBEq, Int.reduceBNe, Int.reduceEq, Int.reduceGT, Int.reduceGE, Int.reduceMul, Int.reduceToNat, Nat.reduceMul, reduceCtorEq, q3, g1, g2, g3, g4, g5, h5, h0, h8, h9, h10, q1, q2, w1, r1, r2, Int.toNat_natCast, Nat.reduceLT] <;> rfl))))
              refine vr_nil (aw_in (aw_then ?_))
              (refine aw_regionL hS (by kernel_rfl) ?_; repeat (first | apply vr0u | apply vr4 | apply b_tt | apply b_ff | apply b_tf | apply b_ft | apply b_no | exact isD.mk rfl | (apply eqG; (simp only [push_cast, ↓reduceIte, Nat.reduceEqDiff, Nat.reduceAdd, Nat.reduceLeDiff, Int.reduceLE, Int.reduceLT, Int.reduceAdd, Int.reduceSub, Int.reduceNeg, Int.reduceBEq, Int.reduceBNe, Int.reduceEq, Int.reduceGT, Int.reduceGE, Int.reduceMul, Int.reduceToNat, Nat.reduceMul, reduceCtorEq, q3, g1, g2, g3, g4, g5, h5, h0, h8, h9, h10, q1, q2, w1, r1, r2, Int.toNat_natCast, Nat.reduceLT] <;> rfl))))
              exact vr_nil (aw_then ⟨take.length - (i + 1), by omega, i + 1, [] ++ [l[k]], rfl, hi, htake (by simp) k rfl hkl, by simp, .inr ⟨by simp, n' + 1, by omega, by omega, by simp only [List.nil_append, List.length_cons, List.length_nil]; (simp only [push_cast, ↓reduceIte, Nat.reduceEqDiff, Nat.reduceAdd, Nat.reduceLeDiff, Int.reduceLE, Int.reduceLT, Int.reduceAdd, Int.reduceSub, Int.reduceNeg, Int.reduceBEq, Int.reduceBNe, Int.reduceEq, Int.reduceGT, Int.reduceGE, Int.reduceMul, Int.reduceToNat, Nat.reduceMul, reduceCtorEq, q3, g1, g2, g3, g4, g5, h5, h0, h8, h9, h10, q1, q2, w1, r1, r2, Int.toNat_natCast, Nat.reduceLT] <;> rfl), by simp only [List.nil_append, txs, List.flatMap_cons, List.flatMap_nil, List.append_nil]; (simp only [push_cast, ↓reduceIte, Nat.reduceEqDiff, Nat.reduceAdd, Nat.reduceLeDiff, Int.reduceLE, Int.reduceLT, Int.reduceAdd, Int.reduceSub, Int.reduceNeg, Int.reduceBEq, Int.reduceBNe, Int.reduceEq, Int.reduceGT, Int.reduceGE, Int.reduceMul, Int.reduceToNat, Nat.reduceMul, reduceCtorEq, q3, g1, g2, g3, g4, g5, h5, h0, h8, h9, h10, q1, q2, w1, r1, r2, Int.toNat_natCast, Nat.reduceLT] <;> rfl)⟩, by (simp only [push_cast, ↓reduceIte, Nat.reduceEqDiff, Nat.reduceAdd, Nat.reduceLeDiff, Int.reduceLE, Int.reduceLT, Int.reduceAdd, Int.reduceSub, Int.reduceNeg, Int.reduceBEq, Int.reduceBNe, Int.reduceEq, Int.reduceGT, Int.reduceGE, Int.reduceMul, Int.reduceToNat, Nat.reduceMul, reduceCtorEq, q3, g1, g2, g3, g4, g5, h5, h0, h8, h9, h10, q1, q2, w1, r1, r2, Int.toNat_natCast, Nat.reduceLT] <;> rfl), by (simp only [push_cast, ↓reduceIte, Nat.reduceEqDiff, Nat.reduceAdd, Nat.reduceLeDiff, Int.reduceLE, Int.reduceLT, Int.reduceAdd, Int.reduceSub, Int.reduceNeg, Int.reduceBEq, Int.reduceBNe, Int.reduceEq, Int.reduceGT, Int.reduceGE, Int.reduceMul, Int.reduceToNat, Nat.reduceMul, reduceCtorEq, q3, g1, g2, g3, g4, g5, h5, h0, h8, h9, h10, q1, q2, w1, r1, r2, Int.toNat_natCast, Nat.reduceLT] <;> rfl), by (simp only [push_cast, ↓reduceIte, Nat.reduceEqDiff, Nat.reduceAdd, Nat.reduceLeDiff, Int.reduceLE, Int.reduceLT, Int.reduceAdd, Int.reduceSub, Int.reduceNeg, Int.reduceBEq, Int.reduceBNe, Int.reduceEq, Int.reduceGT, Int.reduceGE, Int.reduceMul, Int.reduceToNat, Nat.reduceMul, reduceCtorEq, q3, g1, g2, g3, g4, g5, h5, h0, h8, h9, h10, q1, q2, w1, r1, r2, Int.toNat_natCast, Nat.reduceLT] <;> rfl), by (simp only [push_cast, ↓reduceIte, Nat.reduceEqDiff, Nat.reduceAdd, Nat.reduceLeDiff, Int.reduceLE, Int.reduceLT, Int.reduceAdd, Int.reduceSub, Int.reduceNeg, Int.reduceBEq, Int.reduceBNe, Int.reduceEq, Int.reduceGT, Int.reduceGE, Int.reduceMul, Int.reduceToNat, Nat.reduceMul, reduceCtorEq, q3, g1, g2, g3, g4, g5, h5, h0, h8, h9, h10, q1, q2, w1, r1, r2, Int.toNat_natCast, Nat.reduceLT] <;> rfl), by omega, by repeat (first | exact hk | refine keepU (by omega) ?_)⟩)
            · have g2 : ((k : Int) < (l.length : Int)) = False := by simp; omega
              refine AWp.seq ?_
              (refine aw_regionL hS (by kernel_rfl) ?_; repeat (first | apply vr0u | apply vr4 | apply b_tt | apply b_ff | apply b_tf | apply b_ft | apply b_no | exact isD.mk rfl | (apply eqG; (simp only [push_cast, ↓reduceIte, Nat.reduceEqDiff, Nat.reduceAdd, Nat.reduceLeDiff, Int.reduceLE, Int.reduceLT, Int.reduceAdd, Int.reduceSub, Int.reduceNeg, Int.reduceBEq, Int.reduceBNe, Int.reduceEq, Int.reduceGT, Int.reduceGE, Int.reduceMul, Int.reduceToNat, Nat.reduceMul, reduceCtorEq, q3, g1, g2, h5, h0, h8, h9, h10, q1, q2, w1, r1, r2, Int.toNat_natCast, Nat.reduceLT] <;> rfl))))
              refine vr_nil (aw_then ?_)
              refine aw_false (by (simp only [push_cast, ↓reduceIte, Nat.reduceEqDiff, Nat.reduceAdd, Nat.reduceLeDiff, Int.reduceLE, Int.reduceLT, Int.reduceAdd, Int.reduceSub, Int.reduceNeg, Int.reduceBEq, Int.reduceBNe, Int.reduceEq, Int.reduceGT, Int.reduceGE, Int.reduceMul, Int.reduceToNat, Nat.reduceMul, reduceCtorEq, q3, g1, g2, h5, h0, h8, h9, h10, q1, q2, w1, r1, r2, Int.toNat_natCast, Nat.reduceLT] <;> rfl)) (AWp.skip (aw_in (aw_then ?_)))
              (refine aw_regionL hS (by kernel_rfl) ?_; repeat (first | apply vr0u | apply vr4 | apply b_tt | apply b_ff | apply b_tf | apply b_ft | apply b_no | exact isD.mk rfl | (apply eqG; (simp only [push_cast, ↓reduceIte, Nat.reduceEqDiff, Nat.reduceAdd, Nat.reduceLeDiff, Int.reduceLE, Int.reduceLT, Int.reduceAdd, Int.reduceSub, Int.reduceNeg, Int.reduceBEq, Int.reduceBNe, Int.reduceEq, Int.reduceGT, Int.reduceGE, Int.reduceMul, Int.reduceToNat, Nat.reduceMul, reduceCtorEq, q3, g1, g2, h5, h0, h8, h9, h10, q1, q2, w1, r1, r2, Int.toNat_natCast, Nat.reduceLT] <;> rfl))))
              exact vr_nil (aw_then ⟨take.length - (i + 1), by omega, i + 1, [], rfl, hi, hskip (by simp) (by omega), by simp, .inl ⟨rfl, by (simp only [push_cast, ↓reduceIte, Nat.reduceEqDiff, Nat.reduceAdd, Nat.reduceLeDiff, Int.reduceLE, Int.reduceLT, Int.reduceAdd, Int.reduceSub, Int.reduceNeg, Int.reduceBEq, Int.reduceBNe, Int.reduceEq, Int.reduceGT, Int.reduceGE, Int.reduceMul, Int.reduceToNat, Nat.reduceMul, reduceCtorEq, q3, g1, g2, h5, h0, h8, h9, h10, q1, q2, w1, r1, r2, Int.toNat_natCast, Nat.reduceLT] <;> rfl)⟩, by (simp only [push_cast, ↓reduceIte, Nat.reduceEqDiff, Nat.reduceAdd, Nat.reduceLeDiff, Int.reduceLE, Int.reduceLT, Int.reduceAdd, Int.reduceSub, Int.reduceNeg, Int.reduceBEq, Int.reduceBNe, Int.reduceEq, Int.reduceGT, Int.reduceGE, Int.reduceMul, Int.reduceToNat, Nat.reduceMul, reduceCtorEq, q3, g1, g2, h5, h0, h8, h9, h10, q1, q2, w1, r1, r2, Int.toNat_natCast, Nat.reduceLT] <;> rfl), by (simp only [push_cast, ↓reduceIte, Nat.reduceEqDiff, Nat.reduceAdd, Nat.reduceLeDiff, Int.reduceLE, Int.reduceLT, Int.reduceAdd, Int.reduceSub, Int.reduceNeg, Int.reduceBEq, Int.reduceBNe, Int.reduceEq, Int.reduceGT, Int.reduceGE, Int.reduceMul, Int.reduceToNat, Nat.reduceMul, reduceCtorEq, q3, g1, g2, h5, h0, h8, h9, h10, q1, q2, w1, r1, r2, Int.toNat_natCast, Nat.reduceLT] <;> rfl), by (simp only [push_cast, ↓reduceIte, Nat.reduceEqDiff, Nat.reduceAdd, Nat.reduceLeDiff, Int.reduceLE, Int.reduceLT, Int.reduceAdd, Int.reduceSub, Int.reduceNeg, Int.reduceBEq, Int.reduceBNe, Int.reduceEq, Int.reduceGT, Int.reduceGE, Int.reduceMul, Int.reduceToNat, Nat.reduceMul, reduceCtorEq, q3, g1, g2, h5, h0, h8, h9, h10, q1, q2, w1, r1, r2, Int.toNat_natCast, Nat.reduceLT] <;> rfl), by (simp only [push_cast, ↓reduceIte, Nat.reduceEqDiff, Nat.reduceAdd, Nat.reduceLeDiff, Int.reduceLE, Int.reduceLT, Int.reduceAdd, Int.reduceSub, Int.reduceNeg, Int.reduceBEq, Int.reduceBNe, Int.reduceEq, Int.reduceGT, Int.reduceGE, Int.reduceMul, Int.reduceToNat, Nat.reduceMul, reduceCtorEq, q3, g1, g2, h5, h0, h8, h9, h10, q1, q2, w1, r1, r2, Int.toNat_natCast, Nat.reduceLT] <;> rfl), by omega, by repeat (first | exact hk | refine keepU (by omega) ?_)⟩)
          · have g1 : (v ≥ 0) = False := by simp; omega
            refine AWp.seq ?_
            (refine aw_regionL hS (by kernel_rfl) ?_; repeat (first | apply vr0u | apply vr4 | apply b_tt | apply b_ff | apply b_tf | apply b_ft | apply b_no | exact isD.mk rfl | (apply eqG; (simp only [push_cast, ↓reduceIte, Nat.reduceEqDiff, Nat.reduceAdd, Nat.reduceLeDiff, Int.reduceLE, Int.reduceLT, Int.reduceAdd, Int.reduceSub, Int.reduceNeg, Int.reduceBEq, Int.reduceBNe, Int.reduceEq, Int.reduceGT, Int.reduceGE, Int.reduceMul, Int.reduceToNat, Nat.reduceMul, reduceCtorEq, q3, g1, h5, h0, h8, h9, h10, q1, q2, w1, r1, r2, Int.toNat_natCast, Nat.reduceLT] <;> rfl))))
            refine vr_nil (aw_then ?_)
            refine aw_false (by (simp only [push_cast, ↓reduceIte, Nat.reduceEqDiff, Nat.reduceAdd, Nat.reduceLeDiff, Int.reduceLE, Int.reduceLT, Int.reduceAdd, Int.reduceSub, Int.reduceNeg, Int.reduceBEq, Int.reduceBNe, Int.reduceEq, Int.reduceGT, Int.reduceGE, Int.reduceMul, Int.reduceToNat, Nat.reduceMul, reduceCtorEq, q3, g1, h5, h0, h8, h9, h10, q1, q2, w1, r1, r2, Int.toNat_natCast, Nat.reduceLT] <;> rfl)) (AWp.skip (aw_in (aw_then ?_)))
            (refine aw_regionL hS (by kernel_rfl) ?_; repeat (first | apply vr0u | apply vr4 | apply b_tt | apply b_ff | apply b_tf | apply b_ft | apply b_no | exact isD.mk rfl | (apply eqG; (simp only [push_cast, ↓reduceIte, Nat.reduceEqDiff, Nat.reduceAdd, Nat.reduceLeDiff, Int.reduceLE, Int.reduceLT, Int.reduceAdd, Int.reduceSub, Int.reduceNeg, Int.reduceBEq, Int.reduceBNe, Int.reduceEq, Int.reduceGT, Int.reduceGE, Int.reduceMul, Int.reduceToNat, Nat.reduceMul, reduceCtorEq, q3, g1, h5, h0, h8, h9, h10, q1, q2, w1, r1, r2, Int.toNat_natCast, Nat.reduceLT] <;> rfl))))
            exact vr_nil (aw_then ⟨take.length - (i + 1), by omega, i + 1, [], rfl, hi, hskip (by simp) (by omega), by simp, .inl ⟨rfl, by (simp only [push_cast, ↓reduceIte, Nat.reduceEqDiff, Nat.reduceAdd, Nat.reduceLeDiff, Int.reduceLE, Int.reduceLT, Int.reduceAdd, Int.reduceSub, Int.reduceNeg, Int.reduceBEq, Int.reduceBNe, Int.reduceEq, Int.reduceGT, Int.reduceGE, Int.reduceMul, Int.reduceToNat, Nat.reduceMul, reduceCtorEq, q3, g1, h5, h0, h8, h9, h10, q1, q2, w1, r1, r2, Int.toNat_natCast, Nat.reduceLT] <;> rfl)⟩, by (simp only [push_cast, ↓reduceIte, Nat.reduceEqDiff, Nat.reduceAdd, Nat.reduceLeDiff, Int.reduceLE, Int.reduceLT, Int.reduceAdd, Int.reduceSub, Int.reduceNeg, Int.reduceBEq, Int.reduceBNe, Int.reduceEq, Int.reduceGT, Int.reduceGE, Int.reduceMul, Int.reduceToNat, Nat.reduceMul, reduceCtorEq, q3, g1, h5, h0, h8, h9, h10, q1, q2, w1, r1, r2, Int.toNat_natCast, Nat.reduceLT] <;> rfl), by (simp only [push_cast, ↓reduceIte, Nat.reduceEqDiff, Nat.reduceAdd, Nat.reduceLeDiff, Int.reduceLE, Int.reduceLT, Int.reduceAdd, Int.reduceSub, Int.reduceNeg, Int.reduceBEq, Int.reduceBNe, Int.reduceEq, Int.reduceGT, Int.reduceGE, Int.reduceMul, Int.reduceToNat, Nat.reduceMul, reduceCtorEq, q3, g1, h5, h0, h8, h9, h10, q1, q2, w1, r1, r2, Int.toNat_natCast, Nat.reduceLT] <;> rfl), by (simp only [push_cast, ↓reduceIte, Nat.reduceEqDiff, Nat.reduceAdd, Nat.reduceLeDiff, Int.reduceLE, Int.reduceLT, Int.reduceAdd, Int.reduceSub, Int.reduceNeg, Int.reduceBEq, Int.reduceBNe, Int.reduceEq, Int.reduceGT, Int.reduceGE, Int.reduceMul, Int.reduceToNat, Nat.reduceMul, reduceCtorEq, q3, g1, h5, h0, h8, h9, h10, q1, q2, w1, r1, r2, Int.toNat_natCast, Nat.reduceLT] <;> rfl), by (simp only [push_cast, ↓reduceIte, Nat.reduceEqDiff, Nat.reduceAdd, Nat.reduceLeDiff, Int.reduceLE, Int.reduceLT, Int.reduceAdd, Int.reduceSub, Int.reduceNeg, Int.reduceBEq, Int.reduceBNe, Int.reduceEq, Int.reduceGT, Int.reduceGE, Int.reduceMul, Int.reduceToNat, Nat.reduceMul, reduceCtorEq, q3, g1, h5, h0, h8, h9, h10, q1, q2, w1, r1, r2, Int.toNat_natCast, Nat.reduceLT] <;> rfl), by omega, by repeat (first | exact hk | refine keepU (by omega) ?_)⟩)
        · have qa : ((txs p).length = p.length * 2) = True := by simp [txs_len]
          have qb : ((p.length + 1) * 32 ≤ 140737488355328) = True := by simp; omega
          have qc : (p.length + 1 ≤ 9223372036854775807) = True := by simp; omega
          have u0 : ∀ (r : Option Row), upd h' n' r j = h' j := fun r => upd_ne _ _ (by omega)
          by_cases h32 : p.length = 32
          · have q32 : ((p.length : Int) == 32) = true := by simp; omega
            refine AWp.seq ?_
            (refine aw_regionL hS (by kernel_rfl) ?_; repeat (first | apply vr0u | apply vr4 | apply b_tt | apply b_ff | apply b_tf | apply b_ft | apply b_no | exact isD.mk rfl | (apply eqG; (simp only [push_cast, ↓reduceIte, Nat.reduceEqDiff, Nat.reduceAdd, Nat.reduceLeDiff, Int.reduceLE, Int.reduceLT, Int.reduceAdd, Int.reduceSub, Int.reduceNeg, Int.reduceBEq, Int.reduceBNe, Int.reduceEq, Int.reduceGT, Int.reduceGE, Int.reduceMul, Int.reduceToNat, Nat.reduceMul, reduceCtorEq, h5, h0, h8, h9, h10, q1, q2, q3, q32, Int.toNat_natCast] <;> rfl))))
            refine vr_nil (aw_then ?_)
            refine AWp.seq ?_
            refine aw_true (by (simp only [push_cast, ↓reduceIte, Nat.reduceEqDiff, Nat.reduceAdd, Nat.reduceLeDiff, Int.reduceLE, Int.reduceLT, Int.reduceAdd, Int.reduceSub, Int.reduceNeg, Int.reduceBEq, Int.reduceBNe, Int.reduceEq, Int.reduceGT, Int.reduceGE, Int.reduceMul, Int.reduceToNat, Nat.reduceMul, reduceCtorEq, h5, h0, h8, h9, h10, q1, q2, q3, q32, Int.toNat_natCast] <;> rfl)) (AWp.skip (aw_then ?_))
            refine AWp.seq ?_
            refine AWp.block ?_
            refine AWp.seq ?_
            (refine aw_regionL hS (by kernel_rfl) ?_; repeat (first | apply vr0u | apply vr4 | apply b_tt | apply b_ff | apply b_tf | apply b_ft | apply b_no | exact isD.mk rfl | (apply eqG; (simp only [push_cast, ↓reduceIte, Nat.reduceEqDiff, Nat.reduceAdd, Nat.reduceLeDiff, Int.reduceLE, Int.reduceLT, Int.reduceAdd, Int.reduceSub, Int.reduceNeg, Int.reduceBEq, Int.reduceBNe, Int.reduceEq, Int.reduceGT, Int.reduceGE, Int.reduceMul, Int.reduceToNat, Nat.reduceMul, reduceCtorEq, h5, h0, h8, h9, h10, q1, q2, q3, q32, Int.toNat_natCast] <;> rfl))))
            refine vr_nil (aw_then ?_)
            refine AWp.seq ?_
            refine AWp.seq ?_
            (refine aw_regionL hS (by kernel_rfl) ?_; repeat (first | apply vr0u | apply vr4 | apply b_tt | apply b_ff | apply b_tf | apply b_ft | apply b_no | exact isD.mk rfl | (apply eqG; (simp only [push_cast, ↓reduceIte, Nat.reduceEqDiff, Nat.reduceAdd, Nat.reduceLeDiff, Int.reduceLE, Int.reduceLT, Int.reduceAdd, Int.reduceSub, Int.reduceNeg, Int.reduceBEq, Int.reduceBNe, Int.reduceEq, Int.reduceGT, Int.reduceGE, Int.reduceMul, Int.reduceToNat, Nat.reduceMul, reduceCtorEq, h5, h0, h8, h9, h10, q1, q2, q3, q32, Int.toNat_natCast] <;> rfl))))
            refine vr_nil (aw_then ?_)
            refine aw_true (by (simp only [push_cast, ↓reduceIte, Nat.reduceEqDiff, Nat.reduceAdd, Nat.reduceLeDiff, Int.reduceLE, Int.reduceLT, Int.reduceAdd, Int.reduceSub, Int.reduceNeg, Int.reduceBEq, Int.reduceBNe, Int.reduceEq, Int.reduceGT, Int.reduceGE, Int.reduceMul, Int.reduceToNat, Nat.reduceMul, reduceCtorEq, h5, h0, h8, h9, h10, q1, q2, q3, q32, Int.toNat_natCast] <;> rfl)) (AWp.exit (aw_thru (aw_past (by decide) (aw_thru (aw_thru (aw_exit (aw_then ?_)))))))
            have hp := hfull h32
            exact ⟨by rw [hp]; exact .inr ⟨hpne, j, hj1, hj2, by (simp only [push_cast, ↓reduceIte, Nat.reduceEqDiff, Nat.reduceAdd, Nat.reduceLeDiff, Int.reduceLE, Int.reduceLT, Int.reduceAdd, Int.reduceSub, Int.reduceNeg, Int.reduceBEq, Int.reduceBNe, Int.reduceEq, Int.reduceGT, Int.reduceGE, Int.reduceMul, Int.reduceToNat, Nat.reduceMul, reduceCtorEq, h5, h0, h8, h9, h10, q1, q2, q3, q32, Int.toNat_natCast] <;> rfl), hrow⟩, hnn, hk⟩
          have q32 : ((p.length : Int) == 32) = false := by simp; omega
          refine AWp.seq ?_
          (refine aw_regionL hS (by kernel_rfl) ?_; repeat (first | apply vr0u | apply vr4 | apply b_tt | apply b_ff | apply b_tf | apply b_ft | apply b_no | exact isD.mk rfl | (apply eqG; (simp only [push_cast, ↓reduceIte, Nat.reduceEqDiff, Nat.reduceAdd, Nat.reduceLeDiff, Int.reduceLE, Int.reduceLT, Int.reduceAdd, Int.reduceSub, Int.reduceNeg, Int.reduceBEq, Int.reduceBNe, Int.reduceEq, Int.reduceGT, Int.reduceGE, Int.reduceMul, Int.reduceToNat, Nat.reduceMul, reduceCtorEq, q3, h5, h0, h8, h9, h10, q1, q2, w1, r1, r2, Int.toNat_natCast, Nat.reduceLT, hrow, qa, qb, qc, u0, q32] <;> rfl))))
          refine vr_nil (aw_then ?_)
          refine AWp.seq ?_
          refine aw_true (by (simp only [push_cast, ↓reduceIte, Nat.reduceEqDiff, Nat.reduceAdd, Nat.reduceLeDiff, Int.reduceLE, Int.reduceLT, Int.reduceAdd, Int.reduceSub, Int.reduceNeg, Int.reduceBEq, Int.reduceBNe, Int.reduceEq, Int.reduceGT, Int.reduceGE, Int.reduceMul, Int.reduceToNat, Nat.reduceMul, reduceCtorEq, q3, h5, h0, h8, h9, h10, q1, q2, w1, r1, r2, Int.toNat_natCast, Nat.reduceLT, hrow, qa, qb, qc, u0, q32] <;> rfl)) (AWp.skip (aw_then ?_))
          refine AWp.seq ?_
          refine AWp.block ?_
          refine AWp.seq ?_
          (refine aw_regionL hS (by kernel_rfl) ?_; repeat (first | apply vr0u | apply vr4 | apply b_tt | apply b_ff | apply b_tf | apply b_ft | apply b_no | exact isD.mk rfl | (apply eqG; (simp only [push_cast, ↓reduceIte, Nat.reduceEqDiff, Nat.reduceAdd, Nat.reduceLeDiff, Int.reduceLE, Int.reduceLT, Int.reduceAdd, Int.reduceSub, Int.reduceNeg, Int.reduceBEq, Int.reduceBNe, Int.reduceEq, Int.reduceGT, Int.reduceGE, Int.reduceMul, Int.reduceToNat, Nat.reduceMul, reduceCtorEq, q3, h5, h0, h8, h9, h10, q1, q2, w1, r1, r2, Int.toNat_natCast, Nat.reduceLT, hrow, qa, qb, qc, u0, q32] <;> rfl))))
          refine vr_nil (aw_then ?_)
          refine AWp.seq ?_
          refine AWp.seq ?_
          (refine aw_regionL hS (by kernel_rfl) ?_; repeat (first | apply vr0u | apply vr4 | apply b_tt | apply b_ff | apply b_tf | apply b_ft | apply b_no | exact isD.mk rfl | (apply eqG; (simp only [push_cast, ↓reduceIte, Nat.reduceEqDiff, Nat.reduceAdd, Nat.reduceLeDiff, Int.reduceLE, Int.reduceLT, Int.reduceAdd, Int.reduceSub, Int.reduceNeg, Int.reduceBEq, Int.reduceBNe, Int.reduceEq, Int.reduceGT, Int.reduceGE, Int.reduceMul, Int.reduceToNat, Nat.reduceMul, reduceCtorEq, q3, h5, h0, h8, h9, h10, q1, q2, w1, r1, r2, Int.toNat_natCast, Nat.reduceLT, hrow, qa, qb, qc, u0, q32] <;> rfl))))
          refine vr_nil (aw_then ?_)
          refine aw_false (by (simp only [push_cast, ↓reduceIte, Nat.reduceEqDiff, Nat.reduceAdd, Nat.reduceLeDiff, Int.reduceLE, Int.reduceLT, Int.reduceAdd, Int.reduceSub, Int.reduceNeg, Int.reduceBEq, Int.reduceBNe, Int.reduceEq, Int.reduceGT, Int.reduceGE, Int.reduceMul, Int.reduceToNat, Nat.reduceMul, reduceCtorEq, q3, h5, h0, h8, h9, h10, q1, q2, w1, r1, r2, Int.toNat_natCast, Nat.reduceLT, hrow, qa, qb, qc, u0, q32] <;> rfl)) (AWp.skip (aw_then ?_))
          by_cases hv0 : 0 ≤ v
          · obtain ⟨k, rfl⟩ : ∃ k : Nat, v = (k : Int) := ⟨v.toNat, by omega⟩
            have g1 : ((k : Int) ≥ 0) = True := by simp
            by_cases hkl : k < l.length
            · have g2 : ((k : Int) < (l.length : Int)) = True := by simp [hkl]
              have g3 : (0 ≤ (k : Int) ∧ (k : Int) < (l.length : Int)) = True := by simp [hkl]
              have g4 := txs_get hkl
              have g5 := txs_in hkl
              refine AWp.seq ?_
              (refine aw_regionL hS (by kernel_rfl) ?_; repeat (first | apply vr0u | apply vr4 | apply b_tt | apply b_ff | apply b_tf | apply b_ft | apply b_no | exact isD.mk rfl | (apply eqG; (simp only [push_cast, ↓reduceIte, Nat.reduceEqDiff, Nat.reduceAdd, Nat.reduceLeDiff, Int.reduceLE, Int.reduceLT, Int.reduceAdd, Int.reduceSub, Int.reduceNeg, Int.reduceBEq, Int.reduceBNe, Int.reduceEq, Int.reduceGT, Int.reduceGE, Int.reduceMul, Int.reduceToNat, Nat.reduceMul, reduceCtorEq, q3, g1, g2, g3, g4, g5, h5, h0, h8, h9, h10, q1, q2, w1, r1, r2, Int.toNat_natCast, Nat.reduceLT, hrow, qa, qb, qc, u0, q32] <;> rfl))))
              refine vr_nil (aw_then ?_)
              refine aw_true (by (simp only [push_cast, ↓reduceIte, Nat.reduceEqDiff, Nat.reduceAdd, Nat.reduceLeDiff, Int.reduceLE, Int.reduceLT, Int.reduceAdd, Int.reduceSub, Int.reduceNeg, Int.reduceBEq, Int.reduceBNe, Int.reduceEq, Int.reduceGT, Int.reduceGE, Int.reduceMul, Int.reduceToNat, Nat.reduceMul, reduceCtorEq, q3, g1, g2, g3, g4, g5, h5, h0, h8, h9, h10, q1, q2, w1, r1, r2, Int.toNat_natCast, Nat.reduceLT, hrow, qa, qb, qc, u0, q32] <;> rfl)) ?_
              (refine aw_regionL hS (by kernel_rfl) ?_; repeat (first | apply vr0u | apply vr4 | apply b_tt | apply b_ff | apply b_tf | apply b_ft | apply b_no | exact isD.mk rfl | (apply eqG; (simp only [push_cast, ↓reduceIte, Nat.reduceEqDiff, Nat.reduceAdd, Nat.reduceLeDiff, Int.reduceLE, Int.reduceLT, Int.reduceAdd, Int.reduceSub, Int.reduceNeg, Int.reduceBEq, Int.reduceBNe, Int.reduceEq, Int.reduceGT, Int.reduceGE, Int.reduceMul, Int.reduceToNat, Nat.reduceMul, reduceCtorEq, q3, g1, g2, g3, g4, g5, h5, h0, h8, h9, h10, q1, q2, w1, r1, r2, Int.toNat_natCast, Nat.reduceLT, hrow, qa, qb, qc, u0, q32] <;> rfl))))
              refine vr_nil (aw_in (aw_then ?_))
              (refine aw_regionL hS (by kernel_rfl) ?_; repeat (first | apply vr0u | apply vr4 | apply b_tt | apply b_ff | apply b_tf | apply b_ft | apply b_no | exact isD.mk rfl | (apply eqG; (simp only [push_cast, ↓reduceIte, Nat.reduceEqDiff, Nat.reduceAdd, Nat.reduceLeDiff, Int.reduceLE, Int.reduceLT, Int.reduceAdd, Int.reduceSub, Int.reduceNeg, Int.reduceBEq, Int.reduceBNe, Int.reduceEq, Int.reduceGT, Int.reduceGE, Int.reduceMul, Int.reduceToNat, Nat.reduceMul, reduceCtorEq, q3, g1, g2, g3, g4, g5, h5, h0, h8, h9, h10, q1, q2, w1, r1, r2, Int.toNat_natCast, Nat.reduceLT, hrow, qa, qb, qc, u0, q32] <;> rfl))))
              exact vr_nil (aw_then ⟨take.length - (i + 1), by omega, i + 1, p ++ [l[k]], rfl, hi, htake h32 k rfl hkl, by simp; omega, .inr ⟨by simp, n' + 1, by omega, by omega, by rw [List.length_append, List.length_cons, List.length_nil]; (simp only [push_cast, ↓reduceIte, Nat.reduceEqDiff, Nat.reduceAdd, Nat.reduceLeDiff, Int.reduceLE, Int.reduceLT, Int.reduceAdd, Int.reduceSub, Int.reduceNeg, Int.reduceBEq, Int.reduceBNe, Int.reduceEq, Int.reduceGT, Int.reduceGE, Int.reduceMul, Int.reduceToNat, Nat.reduceMul, reduceCtorEq, q3, g1, g2, g3, g4, g5, h5, h0, h8, h9, h10, q1, q2, w1, r1, r2, Int.toNat_natCast, Nat.reduceLT, hrow, qa, qb, qc, u0, q32] <;> rfl), by rw [← txs_snoc]; (simp only [push_cast, ↓reduceIte, Nat.reduceEqDiff, Nat.reduceAdd, Nat.reduceLeDiff, Int.reduceLE, Int.reduceLT, Int.reduceAdd, Int.reduceSub, Int.reduceNeg, Int.reduceBEq, Int.reduceBNe, Int.reduceEq, Int.reduceGT, Int.reduceGE, Int.reduceMul, Int.reduceToNat, Nat.reduceMul, reduceCtorEq, q3, g1, g2, g3, g4, g5, h5, h0, h8, h9, h10, q1, q2, w1, r1, r2, Int.toNat_natCast, Nat.reduceLT, hrow, qa, qb, qc, u0, q32] <;> rfl)⟩, by (simp only [push_cast, ↓reduceIte, Nat.reduceEqDiff, Nat.reduceAdd, Nat.reduceLeDiff, Int.reduceLE, Int.reduceLT, Int.reduceAdd, Int.reduceSub, Int.reduceNeg, Int.reduceBEq, Int.reduceBNe, Int.reduceEq, Int.reduceGT, Int.reduceGE, Int.reduceMul, Int.reduceToNat, Nat.reduceMul, reduceCtorEq, q3, g1, g2, g3, g4, g5, h5, h0, h8, h9, h10, q1, q2, w1, r1, r2, Int.toNat_natCast, Nat.reduceLT, hrow, qa, qb, qc, u0, q32] <;> rfl), by (simp only [push_cast, ↓reduceIte, Nat.reduceEqDiff, Nat.reduceAdd, Nat.reduceLeDiff, Int.reduceLE, Int.reduceLT, Int.reduceAdd, Int.reduceSub, Int.reduceNeg, Int.reduceBEq, Int.reduceBNe, Int.reduceEq, Int.reduceGT, Int.reduceGE, Int.reduceMul, Int.reduceToNat, Nat.reduceMul, reduceCtorEq, q3, g1, g2, g3, g4, g5, h5, h0, h8, h9, h10, q1, q2, w1, r1, r2, Int.toNat_natCast, Nat.reduceLT, hrow, qa, qb, qc, u0, q32] <;> rfl), by (simp only [push_cast, ↓reduceIte, Nat.reduceEqDiff, Nat.reduceAdd, Nat.reduceLeDiff, Int.reduceLE, Int.reduceLT, Int.reduceAdd, Int.reduceSub, Int.reduceNeg, Int.reduceBEq, Int.reduceBNe, Int.reduceEq, Int.reduceGT, Int.reduceGE, Int.reduceMul, Int.reduceToNat, Nat.reduceMul, reduceCtorEq, q3, g1, g2, g3, g4, g5, h5, h0, h8, h9, h10, q1, q2, w1, r1, r2, Int.toNat_natCast, Nat.reduceLT, hrow, qa, qb, qc, u0, q32] <;> rfl), by (simp only [push_cast, ↓reduceIte, Nat.reduceEqDiff, Nat.reduceAdd, Nat.reduceLeDiff, Int.reduceLE, Int.reduceLT, Int.reduceAdd, Int.reduceSub, Int.reduceNeg, Int.reduceBEq, Int.reduceBNe, Int.reduceEq, Int.reduceGT, Int.reduceGE, Int.reduceMul, Int.reduceToNat, Nat.reduceMul, reduceCtorEq, q3, g1, g2, g3, g4, g5, h5, h0, h8, h9, h10, q1, q2, w1, r1, r2, Int.toNat_natCast, Nat.reduceLT, hrow, qa, qb, qc, u0, q32] <;> rfl), by omega, by repeat (first | exact hk | refine keepU (by omega) ?_)⟩)
            · have g2 : ((k : Int) < (l.length : Int)) = False := by simp; omega
              refine AWp.seq ?_
              (refine aw_regionL hS (by kernel_rfl) ?_; repeat (first | apply vr0u | apply vr4 | apply b_tt | apply b_ff | apply b_tf | apply b_ft | apply b_no | exact isD.mk rfl | (apply eqG; (simp only [push_cast, ↓reduceIte, Nat.reduceEqDiff, Nat.reduceAdd, Nat.reduceLeDiff, Int.reduceLE, Int.reduceLT, Int.reduceAdd, Int.reduceSub, Int.reduceNeg, Int.reduceBEq, Int.reduceBNe, Int.reduceEq, Int.reduceGT, Int.reduceGE, Int.reduceMul, Int.reduceToNat, Nat.reduceMul, reduceCtorEq, q3, g1, g2, h5, h0, h8, h9, h10, q1, q2, w1, r1, r2, Int.toNat_natCast, Nat.reduceLT, hrow, qa, qb, qc, u0, q32] <;> rfl))))
              refine vr_nil (aw_then ?_)
              refine aw_false (by (simp only [push_cast, ↓reduceIte, Nat.reduceEqDiff, Nat.reduceAdd, Nat.reduceLeDiff, Int.reduceLE, Int.reduceLT, Int.reduceAdd, Int.reduceSub, Int.reduceNeg, Int.reduceBEq, Int.reduceBNe, Int.reduceEq, Int.reduceGT, Int.reduceGE, Int.reduceMul, Int.reduceToNat, Nat.reduceMul, reduceCtorEq, q3, g1, g2, h5, h0, h8, h9, h10, q1, q2, w1, r1, r2, Int.toNat_natCast, Nat.reduceLT, hrow, qa, qb, qc, u0, q32] <;> rfl)) (AWp.skip (aw_in (aw_then ?_)))
              (refine aw_regionL hS (by kernel_rfl) ?_; repeat (first | apply vr0u | apply vr4 | apply b_tt | apply b_ff | apply b_tf | apply b_ft | apply b_no | exact isD.mk rfl | (apply eqG; (simp only [push_cast, ↓reduceIte, Nat.reduceEqDiff, Nat.reduceAdd, Nat.reduceLeDiff, Int.reduceLE, Int.reduceLT, Int.reduceAdd, Int.reduceSub, Int.reduceNeg, Int.reduceBEq, Int.reduceBNe, Int.reduceEq, Int.reduceGT, Int.reduceGE, Int.reduceMul, Int.reduceToNat, Nat.reduceMul, reduceCtorEq, q3, g1, g2, h5, h0, h8, h9, h10, q1, q2, w1, r1, r2, Int.toNat_natCast, Nat.reduceLT, hrow, qa, qb, qc, u0, q32] <;> rfl))))
              exact vr_nil (aw_then ⟨take.length - (i + 1), by omega, i + 1, p, rfl, hi, hskip h32 (by omega), hp32, .inr ⟨hpne, j, hj1, by omega, by (simp only [push_cast, ↓reduceIte, Nat.reduceEqDiff, Nat.reduceAdd, Nat.reduceLeDiff, Int.reduceLE, Int.reduceLT, Int.reduceAdd, Int.reduceSub, Int.reduceNeg, Int.reduceBEq, Int.reduceBNe, Int.reduceEq, Int.reduceGT, Int.reduceGE, Int.reduceMul, Int.reduceToNat, Nat.reduceMul, reduceCtorEq, q3, g1, g2, h5, h0, h8, h9, h10, q1, q2, w1, r1, r2, Int.toNat_natCast, Nat.reduceLT, hrow, qa, qb, qc, u0, q32] <;> rfl), by first | exact hrow | (simp only [push_cast, ↓reduceIte, Nat.reduceEqDiff, Nat.reduceAdd, Nat.reduceLeDiff, Int.reduceLE, Int.reduceLT, Int.reduceAdd, Int.reduceSub, Int.reduceNeg, Int.reduceBEq, Int.reduceBNe, Int.reduceEq, Int.reduceGT, Int.reduceGE, Int.reduceMul, Int.reduceToNat, Nat.reduceMul, reduceCtorEq, q3, g1, g2, h5, h0, h8, h9, h10, q1, q2, w1, r1, r2, Int.toNat_natCast, Nat.reduceLT, hrow, qa, qb, qc, u0, q32] <;> rfl)⟩, by (simp only [push_cast, ↓reduceIte, Nat.reduceEqDiff, Nat.reduceAdd, Nat.reduceLeDiff, Int.reduceLE, Int.reduceLT, Int.reduceAdd, Int.reduceSub, Int.reduceNeg, Int.reduceBEq, Int.reduceBNe, Int.reduceEq, Int.reduceGT, Int.reduceGE, Int.reduceMul, Int.reduceToNat, Nat.reduceMul, reduceCtorEq, q3, g1, g2, h5, h0, h8, h9, h10, q1, q2, w1, r1, r2, Int.toNat_natCast, Nat.reduceLT, hrow, qa, qb, qc, u0, q32] <;> rfl), by (simp only [push_cast, ↓reduceIte, Nat.reduceEqDiff, Nat.reduceAdd, Nat.reduceLeDiff, Int.reduceLE, Int.reduceLT, Int.reduceAdd, Int.reduceSub, Int.reduceNeg, Int.reduceBEq, Int.reduceBNe, Int.reduceEq, Int.reduceGT, Int.reduceGE, Int.reduceMul, Int.reduceToNat, Nat.reduceMul, reduceCtorEq, q3, g1, g2, h5, h0, h8, h9, h10, q1, q2, w1, r1, r2, Int.toNat_natCast, Nat.reduceLT, hrow, qa, qb, qc, u0, q32] <;> rfl), by (simp only [push_cast, ↓reduceIte, Nat.reduceEqDiff, Nat.reduceAdd, Nat.reduceLeDiff, Int.reduceLE, Int.reduceLT, Int.reduceAdd, Int.reduceSub, Int.reduceNeg, Int.reduceBEq, Int.reduceBNe, Int.reduceEq, Int.reduceGT, Int.reduceGE, Int.reduceMul, Int.reduceToNat, Nat.reduceMul, reduceCtorEq, q3, g1, g2, h5, h0, h8, h9, h10, q1, q2, w1, r1, r2, Int.toNat_natCast, Nat.reduceLT, hrow, qa, qb, qc, u0, q32] <;> rfl), by (simp only [push_cast, ↓reduceIte, Nat.reduceEqDiff, Nat.reduceAdd, Nat.reduceLeDiff, Int.reduceLE, Int.reduceLT, Int.reduceAdd, Int.reduceSub, Int.reduceNeg, Int.reduceBEq, Int.reduceBNe, Int.reduceEq, Int.reduceGT, Int.reduceGE, Int.reduceMul, Int.reduceToNat, Nat.reduceMul, reduceCtorEq, q3, g1, g2, h5, h0, h8, h9, h10, q1, q2, w1, r1, r2, Int.toNat_natCast, Nat.reduceLT, hrow, qa, qb, qc, u0, q32] <;> rfl), by omega, by repeat (first | exact hk | refine keepU (by omega) ?_)⟩)
          · have g1 : (v ≥ 0) = False := by simp; omega
            refine AWp.seq ?_
            (refine aw_regionL hS (by kernel_rfl) ?_; repeat (first | apply vr0u | apply vr4 | apply b_tt | apply b_ff | apply b_tf | apply b_ft | apply b_no | exact isD.mk rfl | (apply eqG; (simp only [push_cast, ↓reduceIte, Nat.reduceEqDiff, Nat.reduceAdd, Nat.reduceLeDiff, Int.reduceLE, Int.reduceLT, Int.reduceAdd, Int.reduceSub, Int.reduceNeg, Int.reduceBEq, Int.reduceBNe, Int.reduceEq, Int.reduceGT, Int.reduceGE, Int.reduceMul, Int.reduceToNat, Nat.reduceMul, reduceCtorEq, q3, g1, h5, h0, h8, h9, h10, q1, q2, w1, r1, r2, Int.toNat_natCast, Nat.reduceLT, hrow, qa, qb, qc, u0, q32] <;> rfl))))
            refine vr_nil (aw_then ?_)
            refine aw_false (by (simp only [push_cast, ↓reduceIte, Nat.reduceEqDiff, Nat.reduceAdd, Nat.reduceLeDiff, Int.reduceLE, Int.reduceLT, Int.reduceAdd, Int.reduceSub, Int.reduceNeg, Int.reduceBEq, Int.reduceBNe, Int.reduceEq, Int.reduceGT, Int.reduceGE, Int.reduceMul, Int.reduceToNat, Nat.reduceMul, reduceCtorEq, q3, g1, h5, h0, h8, h9, h10, q1, q2, w1, r1, r2, Int.toNat_natCast, Nat.reduceLT, hrow, qa, qb, qc, u0, q32] <;> rfl)) (AWp.skip (aw_in (aw_then ?_)))
            (refine aw_regionL hS (by kernel_rfl) ?_; repeat (first | apply vr0u | apply vr4 | apply b_tt | apply b_ff | apply b_tf | apply b_ft | apply b_no | exact isD.mk rfl | (apply eqG; (simp only [push_cast, ↓reduceIte, Nat.reduceEqDiff, Nat.reduceAdd, Nat.reduceLeDiff, Int.reduceLE, Int.reduceLT, Int.reduceAdd, Int.reduceSub, Int.reduceNeg, Int.reduceBEq, Int.reduceBNe, Int.reduceEq, Int.reduceGT, Int.reduceGE, Int.reduceMul, Int.reduceToNat, Nat.reduceMul, reduceCtorEq, q3, g1, h5, h0, h8, h9, h10, q1, q2, w1, r1, r2, Int.toNat_natCast, Nat.reduceLT, hrow, qa, qb, qc, u0, q32] <;> rfl))))
            exact vr_nil (aw_then ⟨take.length - (i + 1), by omega, i + 1, p, rfl, hi, hskip h32 (by omega), hp32, .inr ⟨hpne, j, hj1, by omega, by (simp only [push_cast, ↓reduceIte, Nat.reduceEqDiff, Nat.reduceAdd, Nat.reduceLeDiff, Int.reduceLE, Int.reduceLT, Int.reduceAdd, Int.reduceSub, Int.reduceNeg, Int.reduceBEq, Int.reduceBNe, Int.reduceEq, Int.reduceGT, Int.reduceGE, Int.reduceMul, Int.reduceToNat, Nat.reduceMul, reduceCtorEq, q3, g1, h5, h0, h8, h9, h10, q1, q2, w1, r1, r2, Int.toNat_natCast, Nat.reduceLT, hrow, qa, qb, qc, u0, q32] <;> rfl), by first | exact hrow | (simp only [push_cast, ↓reduceIte, Nat.reduceEqDiff, Nat.reduceAdd, Nat.reduceLeDiff, Int.reduceLE, Int.reduceLT, Int.reduceAdd, Int.reduceSub, Int.reduceNeg, Int.reduceBEq, Int.reduceBNe, Int.reduceEq, Int.reduceGT, Int.reduceGE, Int.reduceMul, Int.reduceToNat, Nat.reduceMul, reduceCtorEq, q3, g1, h5, h0, h8, h9, h10, q1, q2, w1, r1, r2, Int.toNat_natCast, Nat.reduceLT, hrow, qa, qb, qc, u0, q32] <;> rfl)⟩, by (simp only [push_cast, ↓reduceIte, Nat.reduceEqDiff, Nat.reduceAdd, Nat.reduceLeDiff, Int.reduceLE, Int.reduceLT, Int.reduceAdd, Int.reduceSub, Int.reduceNeg, Int.reduceBEq, Int.reduceBNe, Int.reduceEq, Int.reduceGT, Int.reduceGE, Int.reduceMul, Int.reduceToNat, Nat.reduceMul, reduceCtorEq, q3, g1, h5, h0, h8, h9, h10, q1, q2, w1, r1, r2, Int.toNat_natCast, Nat.reduceLT, hrow, qa, qb, qc, u0, q32] <;> rfl), by (simp only [push_cast, ↓reduceIte, Nat.reduceEqDiff, Nat.reduceAdd, Nat.reduceLeDiff, Int.reduceLE, Int.reduceLT, Int.reduceAdd, Int.reduceSub, Int.reduceNeg, Int.reduceBEq, Int.reduceBNe, Int.reduceEq, Int.reduceGT, Int.reduceGE, Int.reduceMul, Int.reduceToNat, Nat.reduceMul, reduceCtorEq, q3, g1, h5, h0, h8, h9, h10, q1, q2, w1, r1, r2, Int.toNat_natCast, Nat.reduceLT, hrow, qa, qb, qc, u0, q32] <;> rfl), by (simp only [push_cast, ↓reduceIte, Nat.reduceEqDiff, Nat.reduceAdd, Nat.reduceLeDiff, Int.reduceLE, Int.reduceLT, Int.reduceAdd, Int.reduceSub, Int.reduceNeg, Int.reduceBEq, Int.reduceBNe, Int.reduceEq, Int.reduceGT, Int.reduceGE, Int.reduceMul, Int.reduceToNat, Nat.reduceMul, reduceCtorEq, q3, g1, h5, h0, h8, h9, h10, q1, q2, w1, r1, r2, Int.toNat_natCast, Nat.reduceLT, hrow, qa, qb, qc, u0, q32] <;> rfl), by (simp only [push_cast, ↓reduceIte, Nat.reduceEqDiff, Nat.reduceAdd, Nat.reduceLeDiff, Int.reduceLE, Int.reduceLT, Int.reduceAdd, Int.reduceSub, Int.reduceNeg, Int.reduceBEq, Int.reduceBNe, Int.reduceEq, Int.reduceGT, Int.reduceGE, Int.reduceMul, Int.reduceToNat, Nat.reduceMul, reduceCtorEq, q3, g1, h5, h0, h8, h9, h10, q1, q2, w1, r1, r2, Int.toNat_natCast, Nat.reduceLT, hrow, qa, qb, qc, u0, q32] <;> rfl), by omega, by repeat (first | exact hk | refine keepU (by omega) ?_)⟩)
      · have hie : i = take.length := by omega
        have q1 : ((i : Int) < (take.length : Int)) = False := by simp; omega
        have hp : pickF l take [] = p := by rw [hpf, hie, List.drop_length]; rfl
        refine AWp.seq ?_
        (refine aw_regionL hS (by kernel_rfl) ?_; repeat (first | apply vr0u | apply vr4 | apply b_tt | apply b_ff | apply b_tf | apply b_ft | apply b_no | exact isD.mk rfl | (apply eqG; (simp only [push_cast, ↓reduceIte, Nat.reduceEqDiff, Nat.reduceAdd, Nat.reduceLeDiff, Int.reduceLE, Int.reduceLT, Int.reduceAdd, Int.reduceSub, Int.reduceNeg, Int.reduceBEq, Int.reduceBNe, Int.reduceEq, Int.reduceGT, Int.reduceGE, Int.reduceMul, Int.reduceToNat, Nat.reduceMul, reduceCtorEq, h0, h8, h9, h10, q1] <;> rfl))))
        refine vr_nil (aw_then ?_)
        refine AWp.seq ?_
        refine aw_false (by (simp only [push_cast, ↓reduceIte, Nat.reduceEqDiff, Nat.reduceAdd, Nat.reduceLeDiff, Int.reduceLE, Int.reduceLT, Int.reduceAdd, Int.reduceSub, Int.reduceNeg, Int.reduceBEq, Int.reduceBNe, Int.reduceEq, Int.reduceGT, Int.reduceGE, Int.reduceMul, Int.reduceToNat, Nat.reduceMul, reduceCtorEq, h0, h8, h9, h10, q1] <;> rfl)) (AWp.exit (aw_thru (aw_thru (aw_exit (aw_then ?_)))))
        exact ⟨by rw [hp]; simp only [push_cast, ↓reduceIte, Nat.reduceEqDiff, Nat.reduceAdd, Nat.reduceLeDiff, Int.reduceLE, Int.reduceLT, Int.reduceAdd, Int.reduceSub, Int.reduceNeg, Int.reduceBEq, Int.reduceBNe, Int.reduceEq, Int.reduceGT, Int.reduceGE, Int.reduceMul, Int.reduceToNat, Nat.reduceMul, reduceCtorEq, h0, h8, h9, h10, q1]; exact hout, hnn, hk⟩
  · rintro t1 h1 n1 - ⟨hout, hnn, hk⟩
    generalize pickF l take [] = p at *
    rcases hout with ⟨hp, h5⟩ | ⟨hpne, j, hj1, hj2, h5, hrow⟩
    · skip
      refine AWp.seq ?_
      (refine aw_regionL hS (by kernel_rfl) ?_; repeat (first | apply vr0u | apply vr4 | apply b_tt | apply b_ff | apply b_tf | apply b_ft | apply b_no | exact isD.mk rfl | (apply eqG; (simp only [push_cast, ↓reduceIte, Nat.reduceEqDiff, Nat.reduceAdd, Nat.reduceLeDiff, Int.reduceLE, Int.reduceLT, Int.reduceAdd, Int.reduceSub, Int.reduceNeg, Int.reduceBEq, Int.reduceBNe, Int.reduceEq, Int.reduceGT, Int.reduceGE, Int.reduceMul, Int.reduceToNat, Nat.reduceMul, reduceCtorEq, h5, h53n] <;> rfl))))
      refine vr_nil (aw_then ?_)
      refine AWp.ret ?_
      exact OutR.one (.inr rfl) rfl (by (simp only [push_cast, ↓reduceIte, Nat.reduceEqDiff, Nat.reduceAdd, Nat.reduceLeDiff, Int.reduceLE, Int.reduceLT, Int.reduceAdd, Int.reduceSub, Int.reduceNeg, Int.reduceBEq, Int.reduceBNe, Int.reduceEq, Int.reduceGT, Int.reduceGE, Int.reduceMul, Int.reduceToNat, Nat.reduceMul, reduceCtorEq, h5, h53n] <;> rfl)) (PickΦ.mk (.inl ⟨hp, rfl⟩) hk)
    · have h53 := h53 hpne
      have qt := take_txs p
      refine AWp.freeze (j := j) (k := 5) hrow h5 (by rw [txs_len]; omega) ?_
      refine AWp.seq ?_
      (refine aw_regionL hS (by kernel_rfl) ?_; repeat (first | apply vr0u | apply vr4 | apply b_tt | apply b_ff | apply b_tf | apply b_ft | apply b_no | exact isD.mk rfl | (apply eqG; (simp only [push_cast, ↓reduceIte, Nat.reduceEqDiff, Nat.reduceAdd, Nat.reduceLeDiff, Int.reduceLE, Int.reduceLT, Int.reduceAdd, Int.reduceSub, Int.reduceNeg, Int.reduceBEq, Int.reduceBNe, Int.reduceEq, Int.reduceGT, Int.reduceGE, Int.reduceMul, Int.reduceToNat, Nat.reduceMul, reduceCtorEq, h53, qt] <;> rfl))))
      refine vr_nil (aw_then ?_)
      refine AWp.ret ?_
      refine OutR.one (.inr rfl) rfl (by (simp only [push_cast, ↓reduceIte, Nat.reduceEqDiff, Nat.reduceAdd, Nat.reduceLeDiff, Int.reduceLE, Int.reduceLT, Int.reduceAdd, Int.reduceSub, Int.reduceNeg, Int.reduceBEq, Int.reduceBNe, Int.reduceEq, Int.reduceGT, Int.reduceGE, Int.reduceMul, Int.reduceToNat, Nat.reduceMul, reduceCtorEq, h53, qt] <;> rfl)) (PickΦ.mk (own_lay (b := n1 + 1) (m := n1) (by omega) (by omega) ?_ ?_ hpz) (keepL (by omega) (by repeat (first | exact hk | refine keepU (by omega) ?_))))
      · rw [app_lay.2 _ (Nat.lt_succ_self _), upd_same]
      · exact app_lay.1
/-! ### what is spoilt -/
def spB (b : List UInt8) (i : Nat) : List UInt8 := (b.take i).map (· + 101) ++ b.drop i
theorem spB_len (b : List UInt8) (i : Nat) : (spB b i).length = b.length := by simp [spB]; omega
theorem spB_get {b : List UInt8} {i : Nat} (hi : i < b.length) : (cellsB (spB b i))[i]? = some (.i .u8 ((b[i].toNat : Nat) : Int)) := by
  have hl : ((b.take i).map (· + 101)).length = i := by simp; omega
  simp only [cellsB, spB, List.getElem?_map]
  rw [List.getElem?_append_right (by omega), hl, Nat.sub_self, List.drop_eq_getElem_cons hi]
  rfl
theorem u8_add (c : UInt8) : IntKind.wrap .u8 (((c.toNat : Nat) : Int) + 101) = (((c + 101).toNat : Nat) : Int) := by
  have h1 : (c + 101).toNat = (c.toNat + 101) % 256 := by rw [UInt8.toNat_add]; rfl
  have h2 := c.toNat_lt
  rw [h1]
  simp only [IntKind.wrap, IntKind.bits, IntKind.signed]
  simp
theorem spB_set {b : List UInt8} {i : Nat} (hi : i < b.length) : (cellsB (spB b i)).set i (.i .u8 (((b[i] + 101).toNat : Nat) : Int)) = cellsB (spB b (i + 1)) := by
  have hl : (cellsB ((b.take i).map (· + 101))).length = i := by simp [cellsB]; omega
  have ht : b.take (i + 1) = b.take i ++ [b[i]] := by simp
  have e : ∀ a c, cellsB (a ++ c) = cellsB a ++ cellsB c := fun a c => by simp [cellsB]
  rw [spB, spB, e, ht, List.map_append, List.append_assoc, e, List.set_append_right _ _ (by omega), hl, Nat.sub_self, List.drop_eq_getElem_cons hi]
  rfl
theorem c38n (S : Sums) (hS : SumOk Try.prog S) : PCalls Try.prog 38 [.ro true [] 0] (.tup []) := by
  intro h n
  refine DCalls.of Try.func38 rfl (by decide) (Nat.le_of_ble_eq_true rfl) (Nat.le_refl _) ?_
  refine AWp.seq ?_
  (refine aw_regionL hS (by kernel_rfl) ?_; repeat (first | apply vr0u | apply vr4 | apply b_tt | apply b_ff | apply b_tf | apply b_ft | apply b_no | exact isD.mk rfl | (apply eqG; (simp only [push_cast, ↓reduceIte, Nat.reduceEqDiff, Nat.reduceAdd, Nat.reduceLeDiff, Int.reduceLE, Int.reduceLT, Int.reduceAdd, Int.reduceSub, Int.reduceNeg, Int.reduceBEq, Int.reduceBNe, Int.reduceEq, Int.reduceGT, Int.reduceGE, Int.reduceMul, Int.reduceToNat, Nat.reduceMul, reduceCtorEq] <;> rfl))))
  refine vr_nil (aw_then ?_)
  refine AWp.block ?_
  refine AWp.loop (fun k t' h' n' => k = 0 ∧ t' 0 = .ro true [] 0 ∧ t' 2 = .i .i64 0 ∧ ∀ x r, x < n → h x = some r → h' x = some r) 0 ?_ ?_
  · exact ⟨rfl, by (simp only [push_cast, ↓reduceIte, Nat.reduceEqDiff, Nat.reduceAdd, Nat.reduceLeDiff, Int.reduceLE, Int.reduceLT, Int.reduceAdd, Int.reduceSub, Int.reduceNeg, Int.reduceBEq, Int.reduceBNe, Int.reduceEq, Int.reduceGT, Int.reduceGE, Int.reduceMul, Int.reduceToNat, Nat.reduceMul, reduceCtorEq] <;> rfl), by (simp only [push_cast, ↓reduceIte, Nat.reduceEqDiff, Nat.reduceAdd, Nat.reduceLeDiff, Int.reduceLE, Int.reduceLT, Int.reduceAdd, Int.reduceSub, Int.reduceNeg, Int.reduceBEq, Int.reduceBNe, Int.reduceEq, Int.reduceGT, Int.reduceGE, Int.reduceMul, Int.reduceToNat, Nat.reduceMul, reduceCtorEq] <;> rfl), keep0⟩
  · rintro m t' h' n' - ⟨rfl, h0, h2, hk⟩
    refine AWp.seq ?_
    refine AWp.seq ?_
    (refine aw_regionL hS (by kernel_rfl) ?_; repeat (first | apply vr0u | apply vr4 | apply b_tt | apply b_ff | apply b_tf | apply b_ft | apply b_no | exact isD.mk rfl | (apply eqG; (simp only [push_cast, ↓reduceIte, Nat.reduceEqDiff, Nat.reduceAdd, Nat.reduceLeDiff, Int.reduceLE, Int.reduceLT, Int.reduceAdd, Int.reduceSub, Int.reduceNeg, Int.reduceBEq, Int.reduceBNe, Int.reduceEq, Int.reduceGT, Int.reduceGE, Int.reduceMul, Int.reduceToNat, Nat.reduceMul, reduceCtorEq, h0, h2] <;> rfl))))
    refine vr_nil (aw_then ?_)
    refine aw_false (by (simp only [push_cast, ↓reduceIte, Nat.reduceEqDiff, Nat.reduceAdd, Nat.reduceLeDiff, Int.reduceLE, Int.reduceLT, Int.reduceAdd, Int.reduceSub, Int.reduceNeg, Int.reduceBEq, Int.reduceBNe, Int.reduceEq, Int.reduceGT, Int.reduceGE, Int.reduceMul, Int.reduceToNat, Nat.reduceMul, reduceCtorEq, h0, h2] <;> rfl)) (AWp.exit (aw_thru (aw_thru (aw_exit ?_))))
    exact Out.pure (xs := []) (.inl rfl) rfl rfl trivial hk
theorem c38 (b : List UInt8) (hb : b.length ≤ 100000) (k : Nat) (S : Sums) (hS : SumOk Try.prog S) : ∀ h n, h k = some (.cells (cellsB b)) → DCalls Try.prog 38 [.sl 1 k 0 b.length] h n (.tup []) [(k, some (.cells (cellsB (b.map (· + 101)))))] n := by
  intro h n hrow0
  refine DCalls.of Try.func38 rfl (by decide) (Nat.le_of_ble_eq_true rfl) (Nat.le_refl _) ?_
  refine AWp.seq ?_
  (refine aw_regionL hS (by kernel_rfl) ?_; repeat (first | apply vr0u | apply vr4 | apply b_tt | apply b_ff | apply b_tf | apply b_ft | apply b_no | exact isD.mk rfl | (apply eqG; (simp only [push_cast, ↓reduceIte, Nat.reduceEqDiff, Nat.reduceAdd, Nat.reduceLeDiff, Int.reduceLE, Int.reduceLT, Int.reduceAdd, Int.reduceSub, Int.reduceNeg, Int.reduceBEq, Int.reduceBNe, Int.reduceEq, Int.reduceGT, Int.reduceGE, Int.reduceMul, Int.reduceToNat, Nat.reduceMul, reduceCtorEq] <;> rfl))))
  refine vr_nil (aw_then ?_)
  refine AWp.block ?_
  refine AWp.loop (fun m t' h' n' => ∃ i : Nat, m = b.length - i ∧ i ≤ b.length ∧ t' 0 = .sl 1 k 0 b.length ∧ t' 2 = .i .i64 (i : Int) ∧ h' k = some (.cells (cellsB (spB b i))) ∧ n' = n ∧ ∀ x, x ≠ k → h' x = h x) b.length ?_ ?_
  · exact ⟨0, rfl, Nat.zero_le _, by (simp only [push_cast, ↓reduceIte, Nat.reduceEqDiff, Nat.reduceAdd, Nat.reduceLeDiff, Int.reduceLE, Int.reduceLT, Int.reduceAdd, Int.reduceSub, Int.reduceNeg, Int.reduceBEq, Int.reduceBNe, Int.reduceEq, Int.reduceGT, Int.reduceGE, Int.reduceMul, Int.reduceToNat, Nat.reduceMul, reduceCtorEq] <;> rfl), by (simp only [push_cast, ↓reduceIte, Nat.reduceEqDiff, Nat.reduceAdd, Nat.reduceLeDiff, Int.reduceLE, Int.reduceLT, Int.reduceAdd, Int.reduceSub, Int.reduceNeg, Int.reduceBEq, Int.reduceBNe, Int.reduceEq, Int.reduceGT, Int.reduceGE, Int.reduceMul, Int.reduceToNat, Nat.reduceMul, reduceCtorEq] <;> rfl), by rw [show spB b 0 = b by simp [spB]]; exact hrow0, rfl, fun x _ => rfl⟩
  · rintro m t' h' n' - ⟨i, rfl, hil, h0, h2, hrow, hn', hk⟩
    by_cases hi : i < b.length
    · have q1 : ((i : Int) < (b.length : Int)) = True := by simp [hi]
      have q2 : (0 ≤ (i : Int) ∧ (i : Int) < (b.length : Int)) = True := by simp [hi]
      have q3 := spB_get hi
      have q4 := spB_set hi
      have q5 : (i + 1 ≤ (cellsB (spB b i)).length) = True := by simp only [cellsB, List.length_map, spB_len, eq_iff_iff, iff_true]; omega
      have w0 := u8_add b[i]
      have w1 : IntKind.wrap .i64 ((i : Int) + 1) = (i : Int) + 1 := IntWalk.i64_in _ (by omega)
      refine AWp.seq ?_
      refine AWp.seq ?_
      (refine aw_regionL hS (by kernel_rfl) ?_; repeat (first | apply vr0u | apply vr4 | apply b_tt | apply b_ff | apply b_tf | apply b_ft | apply b_no | exact isD.mk rfl | (apply eqG; (simp only [push_cast, ↓reduceIte, Nat.reduceEqDiff, Nat.reduceAdd, Nat.reduceLeDiff, Int.reduceLE, Int.reduceLT, Int.reduceAdd, Int.reduceSub, Int.reduceNeg, Int.reduceBEq, Int.reduceBNe, Int.reduceEq, Int.reduceGT, Int.reduceGE, Int.reduceMul, Int.reduceToNat, Nat.reduceMul, reduceCtorEq, h0, h2, hrow, q1, q2, q3, q4, q5, w0, w1, Int.toNat_natCast] <;> rfl))))
      refine vr_nil (aw_then ?_)
      refine aw_true (by (simp only [push_cast, ↓reduceIte, Nat.reduceEqDiff, Nat.reduceAdd, Nat.reduceLeDiff, Int.reduceLE, Int.reduceLT, Int.reduceAdd, Int.reduceSub, Int.reduceNeg, Int.reduceBEq, Int.reduceBNe, Int.reduceEq, Int.reduceGT, Int.reduceGE, Int.reduceMul, Int.reduceToNat, Nat.reduceMul, reduceCtorEq, h0, h2, hrow, q1, q2, q3, q4, q5, w0, w1, Int.toNat_natCast] <;> rfl)) (AWp.skip (aw_then ?_))
      refine AWp.seq ?_
      refine AWp.block ?_
      (refine aw_regionL hS (by kernel_rfl) ?_; repeat (first | apply vr0u | apply vr4 | apply b_tt | apply b_ff | apply b_tf | apply b_ft | apply b_no | exact isD.mk rfl | (apply eqG; (simp only [push_cast, ↓reduceIte, Nat.reduceEqDiff, Nat.reduceAdd, Nat.reduceLeDiff, Int.reduceLE, Int.reduceLT, Int.reduceAdd, Int.reduceSub, Int.reduceNeg, Int.reduceBEq, Int.reduceBNe, Int.reduceEq, Int.reduceGT, Int.reduceGE, Int.reduceMul, Int.reduceToNat, Nat.reduceMul, reduceCtorEq, h0, h2, hrow, q1, q2, q3, q4, q5, w0, w1, Int.toNat_natCast] <;> rfl))))
      refine vr_nil (aw_in (aw_then ?_))
      (refine aw_regionL hS (by kernel_rfl) ?_; repeat (first | apply vr0u | apply vr4 | apply b_tt | apply b_ff | apply b_tf | apply b_ft | apply b_no | exact isD.mk rfl | (apply eqG; (simp only [push_cast, ↓reduceIte, Nat.reduceEqDiff, Nat.reduceAdd, Nat.reduceLeDiff, Int.reduceLE, Int.reduceLT, Int.reduceAdd, Int.reduceSub, Int.reduceNeg, Int.reduceBEq, Int.reduceBNe, Int.reduceEq, Int.reduceGT, Int.reduceGE, Int.reduceMul, Int.reduceToNat, Nat.reduceMul, reduceCtorEq, h0, h2, hrow, q1, q2, q3, q4, q5, w0, w1, Int.toNat_natCast] <;> rfl))))
      exact vr_nil (aw_then ⟨b.length - (i + 1), by omega, i + 1, rfl, hi, by (simp only [push_cast, ↓reduceIte, Nat.reduceEqDiff, Nat.reduceAdd, Nat.reduceLeDiff, Int.reduceLE, Int.reduceLT, Int.reduceAdd, Int.reduceSub, Int.reduceNeg, Int.reduceBEq, Int.reduceBNe, Int.reduceEq, Int.reduceGT, Int.reduceGE, Int.reduceMul, Int.reduceToNat, Nat.reduceMul, reduceCtorEq, h0, h2, hrow, q1, q2, q3, q4, q5, w0, w1, Int.toNat_natCast] <;> rfl), by (simp only [push_cast, ↓reduceIte, Nat.reduceEqDiff, Nat.reduceAdd, Nat.reduceLeDiff, Int.reduceLE, Int.reduceLT, Int.reduceAdd, Int.reduceSub, Int.reduceNeg, Int.reduceBEq, Int.reduceBNe, Int.reduceEq, Int.reduceGT, Int.reduceGE, Int.reduceMul, Int.reduceToNat, Nat.reduceMul, reduceCtorEq, h0, h2, hrow, q1, q2, q3, q4, q5, w0, w1, Int.toNat_natCast] <;> rfl), by (simp only [push_cast, ↓reduceIte, Nat.reduceEqDiff, Nat.reduceAdd, Nat.reduceLeDiff, Int.reduceLE, Int.reduceLT, Int.reduceAdd, Int.reduceSub, Int.reduceNeg, Int.reduceBEq, Int.reduceBNe, Int.reduceEq, Int.reduceGT, Int.reduceGE, Int.reduceMul, Int.reduceToNat, Nat.reduceMul, reduceCtorEq, h0, h2, hrow, q1, q2, q3, q4, q5, w0, w1, Int.toNat_natCast] <;> rfl), hn', fun x hx => by rw [upd_ne _ _ hx]; exact hk x hx⟩)
    · have q1 : ((i : Int) < (b.length : Int)) = False := by simp; omega
      have hie : i = b.length := by omega
      refine AWp.seq ?_
      refine AWp.seq ?_
      (refine aw_regionL hS (by kernel_rfl) ?_; repeat (first | apply vr0u | apply vr4 | apply b_tt | apply b_ff | apply b_tf | apply b_ft | apply b_no | exact isD.mk rfl | (apply eqG; (simp only [push_cast, ↓reduceIte, Nat.reduceEqDiff, Nat.reduceAdd, Nat.reduceLeDiff, Int.reduceLE, Int.reduceLT, Int.reduceAdd, Int.reduceSub, Int.reduceNeg, Int.reduceBEq, Int.reduceBNe, Int.reduceEq, Int.reduceGT, Int.reduceGE, Int.reduceMul, Int.reduceToNat, Nat.reduceMul, reduceCtorEq, h0, h2, q1] <;> rfl))))
      refine vr_nil (aw_then ?_)
      refine aw_false (by (simp only [push_cast, ↓reduceIte, Nat.reduceEqDiff, Nat.reduceAdd, Nat.reduceLeDiff, Int.reduceLE, Int.reduceLT, Int.reduceAdd, Int.reduceSub, Int.reduceNeg, Int.reduceBEq, Int.reduceBNe, Int.reduceEq, Int.reduceGT, Int.reduceGE, Int.reduceMul, Int.reduceToNat, Nat.reduceMul, reduceCtorEq, h0, h2, q1] <;> rfl)) (AWp.exit (aw_thru (aw_thru (aw_exit ?_))))
      subst hn'
      refine Out.rows (xs := []) (.inl rfl) rfl rfl (Nat.le_refl _) trivial (fun u hu => ?_) (fun x r hx hr ht => ?_)
      · rw [List.mem_singleton.1 hu]
        refine ⟨?_, .inr (by rw [hrow0]; rfl), fun r hr => by injection hr with hr; subst hr; exact freeAll_names _ (free_cellsB _)⟩
        rw [hie] at hrow
        rw [hrow, spB, List.take_length, List.drop_length, List.append_nil]
      · rw [hk x (fun hc => ht ⟨_, List.mem_singleton.2 rfl, hc.symm⟩)]
        exact hr
/-! ### one's own, shown -/
theorem own_map {g : Heap} : ∀ (X : List Tx) (cs : List AV), cs.length = X.length * 2 → (∀ (i : Nat) (hi : i < X.length), cs[i * 2]? = some (.i .i64 X[i].f) ∧ ((cs[i * 2 + 1]? = some (.ro true [] 0) ∧ X[i].b = []) ∨ ∃ k, cs[i * 2 + 1]? = some (.sl 1 k 0 X[i].b.length) ∧ g k = some (.cells (cellsB X[i].b)))) →
    ∃ Y : List Tx, cs.map (frz g 4) = txs Y ∧ Y.length = X.length ∧ ∀ (i : Nat) (x y : Tx), Y[i]? = some x → X[i]? = some y → x.f = y.f ∧ x.b = y.b
  | [], cs, hl, _ => ⟨[], by have : cs = [] := by simpa using hl
                             rw [this]; rfl, rfl, fun i x y hx => by simp at hx⟩
  | x :: X, cs, hl, h => by
    match cs, hl with
    | [], hl => simp at hl
    | [a], hl => simp at hl; omega
    | a :: b :: cs, hl =>
      obtain ⟨h1, h2⟩ := h 0 (by simp)
      have ha : a = .i .i64 x.f := by simpa using h1
      have h2 : (b = .ro true [] 0 ∧ x.b = []) ∨ ∃ k, b = .sl 1 k 0 x.b.length ∧ g k = some (.cells (cellsB x.b)) := by simpa using h2
      obtain ⟨Y, k1, k2, k3⟩ := own_map X cs (by simp only [List.length_cons] at hl ⊢; omega) (fun i hi => by
        have := h (i + 1) (by simp only [List.length_cons]; omega)
        rw [show (i + 1) * 2 = i * 2 + 1 + 1 by omega] at this
        simpa using this)
      rcases h2 with ⟨rfl, hb⟩ | ⟨k, rfl, hk⟩
      · refine ⟨⟨x.f, true, []⟩ :: Y, ?_, by simp [k2], fun i u v hu hv => ?_⟩
        · rw [ha, List.map_cons, List.map_cons, k1]; rfl
        · cases i with
          | zero => simp at hu hv; subst hu; subst hv; exact ⟨rfl, hb.symm⟩
          | succ i => exact k3 i u v (by simpa using hu) (by simpa using hv)
      · refine ⟨⟨x.f, false, x.b⟩ :: Y, ?_, by simp [k2], fun i u v hu hv => ?_⟩
        · rw [ha, List.map_cons, List.map_cons, k1, frz_own' (k := 3) hk (by simp [cellsB]) (free_cellsB x.b)]; rfl
        · cases i with
          | zero => simp at hu hv; subst hu; subst hv; exact ⟨rfl, rfl⟩
          | succ i => exact k3 i u v (by simpa using hu) (by simpa using hv)
theorem own_frz {g : Heap} {lo : Nat} {X : List Tx} {x : AV} (ho : OwnT g lo X x) : ∃ z Y, frz g 5 x = .ro z (txs Y) Y.length ∧ alike Y X := by
  rcases ho with ⟨rfl, rfl⟩ | ⟨j, cs, h1, rfl, h2, h3, h4⟩
  · exact ⟨true, [], rfl, rfl, fun i x y hx => by simp at hx⟩
  · obtain ⟨Y, k1, k2, k3⟩ := own_map X cs h3 (fun i hi => ⟨(h4 i hi).1, by
      rcases (h4 i hi).2 with h | ⟨k, _, _, h5, h6⟩
      · exact .inl h
      · exact .inr ⟨k, h5, h6⟩⟩)
    refine ⟨false, Y, ?_, k2, k3⟩
    rw [show frz g 5 (.sl 2 j 0 X.length) = frz g (4 + 1) (.sl 2 j 0 X.length) from rfl]
    simp only [frz, h2]
    rw [if_pos (by omega), List.drop_zero, List.take_of_length_le (by omega), k1, k2]
/-- What is left of it, once it may be spoilt. -/
def OwnW (g : Heap) (lo j len : Nat) : Prop := ∃ cs, g j = some (.cells cs) ∧ ∀ i, i < len → cs[i * 2 + 1]? = some (.ro true [] 0) ∨ ∃ (k : Nat) (b : List UInt8), lo ≤ k ∧ k ≠ j ∧ b.length ≤ 100000 ∧ cs[i * 2 + 1]? = some (.sl 1 k 0 b.length) ∧ g k = some (.cells (cellsB b))
theorem OwnW.spoil {g : Heap} {lo j len k : Nat} {b : List UInt8} (h : OwnW g lo j len) (hkj : k ≠ j) (hk : g k = some (.cells (cellsB b))) : OwnW (upd g k (some (.cells (cellsB (b.map (· + 101)))))) lo j len := by
  obtain ⟨cs, h1, h2⟩ := h
  refine ⟨cs, by rw [upd_ne _ _ (fun hc => hkj hc.symm)]; exact h1, fun i hi => ?_⟩
  rcases h2 i hi with h3 | ⟨k', b', h3, h4, h5, h6, h7⟩
  · exact .inl h3
  · by_cases hkk : k' = k
    · subst hkk
      rw [hk] at h7
      injection h7 with h7
      injection h7 with h7
      have := cellsB_inj h7
      subst this
      exact .inr ⟨k', b.map (· + 101), h3, h4, by simpa using h5, by simpa using h6, upd_same ..⟩
    · exact .inr ⟨k', b', h3, h4, h5, h6, by rw [upd_ne _ _ hkk]; exact h7⟩
theorem OwnT.weak {g : Heap} {lo : Nat} {X : List Tx} {j : Nat} {cs : List AV} (hX : ∀ x, x ∈ X → x.b.length ≤ 100000) (h1 : g j = some (.cells cs)) (h4 : ∀ (i : Nat) (hi : i < X.length), cs[i * 2]? = some (.i .i64 X[i].f) ∧ ((cs[i * 2 + 1]? = some (.ro true [] 0) ∧ X[i].b = []) ∨ ∃ k, lo ≤ k ∧ k ≠ j ∧ cs[i * 2 + 1]? = some (.sl 1 k 0 X[i].b.length) ∧ g k = some (.cells (cellsB X[i].b)))) : OwnW g lo j X.length :=
  ⟨cs, h1, fun i hi => by
    rcases (h4 i hi).2 with h | ⟨k, h5, h6, h7, h8⟩
    · exact .inl h.1
    · exact .inr ⟨k, X[i].b, h5, h6, hX _ (List.getElem_mem hi), h7, h8⟩⟩
end Go.Proofs.Ytpgohmcolcfhfaa
