import Derived.Test.YtepfknnffooaiaaDkR9
import Derived.Test.YtepfknnffooaiaaDkIn

namespace Go.Proofs.Ytepfknnffooaiaa
open Go.Av
set_option maxRecDepth 100000
set_option maxHeartbeats 1000000
set_option linter.unusedSimpArgs false
set_option linter.unusedVariables false
attribute [local push_cast] stepE callR resE aeff aev ofC ofC1 put_at Av.put_none inTmps List.getD_cons_zero List.getD_cons_succ AV.boxable if_true if_false AV.cells aload place app_cons app_nil upd_same Av.part abin aconv aindexAddr fillA splice_one abuiltin alen amax amin aun aindex Option.map_some Option.isSome_some List.map_cons List.map_nil List.nil_append List.append_nil List.cons_append Nat.le_refl Nat.zero_add Nat.add_zero List.length_cons List.length_nil List.drop_succ_cons List.drop_zero List.take_succ_cons List.take_zero beq_self_eq_true bne_self_eq_false Bool.not_true Bool.not_false List.set_cons_zero List.set_cons_succ Bool.false_eq_true IntWalk.i64_in decide_true decide_false Int.toNat_zero and_self and_true true_and List.getElem?_cons_zero List.getElem?_cons_succ aappend aapp view Bool.and_true Bool.true_and Nat.mul_one Option.map_none aslice asliceB nilOp Int.toNat_natCast und_30 agT_3 szT_3 kiT_3 agT_4 szT_4 kiT_4 agT_5 szT_5 kiT_5 agT_25 szT_25 kiT_25 agT_28 szT_28 kiT_28 agT_22 szT_22 kiT_22 agT_23 szT_23 kiT_23 agT_30 szT_30 kiT_30 agT_37 szT_37 kiT_37 agT_38 szT_38 kiT_38 agT_52 szT_52 kiT_52 agT_53 szT_53 kiT_53 agT_24 szT_24 kiT_24 agT_54 szT_54 kiT_54 agT_47 szT_47 kiT_47 slT_22 slT_23 slT_30 slT_37 slT_38 slT_52 slT_53 zeT_3 zeT_4 zeT_5 zeT_30 flT_56_0 flT_56_1 flT_56_2 flT_56_3 flT_56_4 agT_56 szT_56 buT_56 zeT_56 flT_58_0 flT_58_1 agT_58 szT_58 buT_58 zeT_58 flT_62_0 flT_62_1 agT_62 szT_62 buT_62 zeT_62 flT_65_0 flT_65_1 flT_65_2 agT_65 szT_65 buT_65 zeT_65 flT_42_0 flT_42_1 flT_42_2 flT_42_3 flT_42_4 flT_42_5 agT_42 szT_42 buT_42 zeT_42 flT_68_0 flT_68_1 flT_68_2 flT_68_3 flT_68_4 flT_68_5 flT_68_6 agT_68 szT_68 buT_68 zeT_68 ptT_24 ptT_54 ptT_47 und_30 agT_66 szT_66 kiT_66 slT_66 flT_73_0 flT_73_1 agT_73 szT_73 buT_73 zeT_73 

theorem At.ext {h0 g g' : Heap} {n0 m m' d : Nat} {w : DW} (A : At h0 n0 g m d w) (hm : m ≤ m') (hg : ∀ x r, x < m → g x = some r → g' x = some r) : At h0 n0 g' m' d w :=
  ⟨A.ok, DFacts.of (A.F.has.keep fun j hj => by
    obtain ⟨cs, hc⟩ := A.F.has.isSome hj
    rw [hc]; exact hg j _ (A.lo j hj).2 hc), fun j hj => by have := A.lo j hj; omega, fun x r hx hr => hg x r (by have := A.le; omega) (A.fr x r hx hr), Nat.le_trans A.le hm⟩
open Classical in
noncomputable def G21 : List AV → Heap → Res := fun args h => if ∃ (d rd : Nat) (w : DW) (r : RW), args = [.p d 0, .p rd 0] ∧ DOk w ∧ ROk r ∧ DFacts h d w ∧ RFacts h rd r ∧ Same w r then .pure (.b true) else .no
noncomputable def DF : Sums := DE.addG 21 G21
theorem ok_DF : SumOk Try.prog DF := ok_DE.addG fun args h => by
  unfold G21
  split
  · rename_i hx
    obtain ⟨d, rd, w, r, rfl, h1, h2, h3, h4, h5⟩ := hx
    exact fun n => c21 h1 h2 h3 h4 h5 n
  · trivial
theorem at21 {h0 g : Heap} {n0 m d rd : Nat} {w : DW} {r : RW} (M : Mem h0 n0 g m d rd w r) (H : Same w r) : DF 21 [.p d 0, .p rd 0] g = .pure (.b true) := by
  show G21 _ _ = _
  unfold G21
  exact if_pos ⟨d, rd, w, r, rfl, M.A.ok, M.ok, M.A.F, M.F, H⟩
theorem acts_load {l : List Act} {k : Nat} (hk : k < l.length) : ((acts l).drop (k * 6)).take 6 = actC l[k] := acts_get hk
theorem c6 (a0 : Int) (z1 : Bool) (l : List Act) (w0 : (Lit.int .i64 a0).wf = true) (hl : ∀ a, a ∈ l → a.Ok) : PCalls Try.prog 6 [.i .i64 a0, .ro z1 (acts l) l.length] (.b true) := by
  intro h n
  have hS := ok_DF
  refine DCalls.of Try.func6 rfl (by decide) (Nat.le_of_ble_eq_true rfl) (Nat.le_refl _) ?_
  refine AWp.seq ?_
  (refine aw_regionL hS (by kernel_rfl) ?_; repeat (first | apply vr0u | apply vr4 | apply b_tt | apply b_ff | apply b_tf | apply b_ft | apply b_no | exact isD.mk rfl | (apply eqG; (simp only [push_cast, ↓reduceIte, Nat.reduceEqDiff, Nat.reduceAdd, Nat.reduceLeDiff, Nat.reduceLT, Int.reduceLE, Int.reduceLT, Int.reduceAdd, Int.reduceSub, Int.reduceNeg, Int.reduceBEq, Int.reduceBNe, Int.reduceEq, Int.reduceGT, Int.reduceGE, Int.reduceMul, Int.reduceToNat, Nat.reduceMul, reduceCtorEq] <;> rfl)) | exact (rfl : app (swap _ _) _ = _)))
  refine vr_nil (aw_then ?_)
  obtain ⟨S2, hS2, h15, -⟩ := sum_here ok_DE (f := 15) (args := [.ro z1 (acts l) l.length]) (g := h) (r := .pure (.b (heavyB l))) (fun m => c15 z1 l h m)
  refine AWp.cut (fun t' h' n' => heavyB l = false ∧ t' 0 = .i .i64 a0 ∧ t' 1 = .ro z1 (acts l) l.length ∧ h = h' ∧ n = n') ?_ ?_
  · refine AWp.seq ?_
    refine aw_regionL hS2 (by kernel_rfl) ?_
    repeat (first | apply vr0u | apply vr4 | apply b_tt | apply b_ff | apply b_tf | apply b_ft | apply b_no | exact isD.mk rfl | (apply eqG; (simp only [push_cast, ↓reduceIte, Nat.reduceEqDiff, Nat.reduceAdd, Nat.reduceLeDiff, Nat.reduceLT, Int.reduceLE, Int.reduceLT, Int.reduceAdd, Int.reduceSub, Int.reduceNeg, Int.reduceBEq, Int.reduceBNe, Int.reduceEq, Int.reduceGT, Int.reduceGE, Int.reduceMul, Int.reduceToNat, Nat.reduceMul, reduceCtorEq, h15] <;> rfl)) | exact (rfl : app (swap _ _) _ = _))
    refine vr_nil (aw_then ?_)
    refine aw_split (by (simp only [push_cast, ↓reduceIte, Nat.reduceEqDiff, Nat.reduceAdd, Nat.reduceLeDiff, Nat.reduceLT, Int.reduceLE, Int.reduceLT, Int.reduceAdd, Int.reduceSub, Int.reduceNeg, Int.reduceBEq, Int.reduceBNe, Int.reduceEq, Int.reduceGT, Int.reduceGE, Int.reduceMul, Int.reduceToNat, Nat.reduceMul, reduceCtorEq, h15] <;> rfl)) (fun hx => ?_) (fun hx => ?_)
    · refine AWp.seq ?_
      (refine aw_regionL hS (by kernel_rfl) ?_; repeat (first | apply vr0u | apply vr4 | apply b_tt | apply b_ff | apply b_tf | apply b_ft | apply b_no | exact isD.mk rfl | (apply eqG; (simp only [push_cast, ↓reduceIte, Nat.reduceEqDiff, Nat.reduceAdd, Nat.reduceLeDiff, Nat.reduceLT, Int.reduceLE, Int.reduceLT, Int.reduceAdd, Int.reduceSub, Int.reduceNeg, Int.reduceBEq, Int.reduceBNe, Int.reduceEq, Int.reduceGT, Int.reduceGE, Int.reduceMul, Int.reduceToNat, Nat.reduceMul, reduceCtorEq, h15] <;> rfl)) | exact (rfl : app (swap _ _) _ = _)))
      refine vr_nil (aw_then ?_)
      refine AWp.ret ?_
      exact Out.yes (.inr rfl) rfl (by (simp only [push_cast, ↓reduceIte, Nat.reduceEqDiff, Nat.reduceAdd, Nat.reduceLeDiff, Nat.reduceLT, Int.reduceLE, Int.reduceLT, Int.reduceAdd, Int.reduceSub, Int.reduceNeg, Int.reduceBEq, Int.reduceBNe, Int.reduceEq, Int.reduceGT, Int.reduceGE, Int.reduceMul, Int.reduceToNat, Nat.reduceMul, reduceCtorEq, h15] <;> rfl)) keep0
    · exact AWp.skip (aw_then ⟨hx, by (simp only [push_cast, ↓reduceIte, Nat.reduceEqDiff, Nat.reduceAdd, Nat.reduceLeDiff, Nat.reduceLT, Int.reduceLE, Int.reduceLT, Int.reduceAdd, Int.reduceSub, Int.reduceNeg, Int.reduceBEq, Int.reduceBNe, Int.reduceEq, Int.reduceGT, Int.reduceGE, Int.reduceMul, Int.reduceToNat, Nat.reduceMul, reduceCtorEq, h15] <;> rfl), by (simp only [push_cast, ↓reduceIte, Nat.reduceEqDiff, Nat.reduceAdd, Nat.reduceLeDiff, Nat.reduceLT, Int.reduceLE, Int.reduceLT, Int.reduceAdd, Int.reduceSub, Int.reduceNeg, Int.reduceBEq, Int.reduceBNe, Int.reduceEq, Int.reduceGT, Int.reduceGE, Int.reduceMul, Int.reduceToNat, Nat.reduceMul, reduceCtorEq, h15] <;> rfl), rfl, rfl⟩)
  clear h15 hS2
  clear S2
  rintro s hq nq - ⟨hhv, t0, t1, rfl, rfl⟩
  obtain ⟨hl4, hlt⟩ := light hhv
  by_cases ha : a0 < 1 ∨ a0 > 256
  case pos =>
    have h7 : DF 7 [.i .i64 a0] h = .pure (.tup [.np, .i .i64 1]) := at7bad ha h
    obtain ⟨S2, hS2, h19, n19⟩ := sum_pure ok_DF (c19bad a0 ha)
    have h14 : DF 14 [] h = .pure (.b true) := at14 h
    refine AWp.seq ?_
    (refine aw_regionL hS (by kernel_rfl) ?_; repeat (first | apply vr0u | apply vr4 | apply b_tt | apply b_ff | apply b_tf | apply b_ft | apply b_no | exact isD.mk rfl | (apply eqG; (simp only [push_cast, ↓reduceIte, Nat.reduceEqDiff, Nat.reduceAdd, Nat.reduceLeDiff, Nat.reduceLT, Int.reduceLE, Int.reduceLT, Int.reduceAdd, Int.reduceSub, Int.reduceNeg, Int.reduceBEq, Int.reduceBNe, Int.reduceEq, Int.reduceGT, Int.reduceGE, Int.reduceMul, Int.reduceToNat, Nat.reduceMul, reduceCtorEq, t0, t1, h7, h19, h14] <;> rfl)) | exact (rfl : app (swap _ _) _ = _)))
    refine vr_nil (aw_then ?_)
    refine AWp.seq ?_
    refine aw_regionL hS2 (by kernel_rfl) ?_
    repeat (first | apply vr0u | apply vr4 | apply b_tt | apply b_ff | apply b_tf | apply b_ft | apply b_no | exact isD.mk rfl | (apply eqG; (simp only [push_cast, ↓reduceIte, Nat.reduceEqDiff, Nat.reduceAdd, Nat.reduceLeDiff, Nat.reduceLT, Int.reduceLE, Int.reduceLT, Int.reduceAdd, Int.reduceSub, Int.reduceNeg, Int.reduceBEq, Int.reduceBNe, Int.reduceEq, Int.reduceGT, Int.reduceGE, Int.reduceMul, Int.reduceToNat, Nat.reduceMul, reduceCtorEq, t0, t1, h7, h19, h14] <;> rfl)) | exact (rfl : app (swap _ _) _ = _))
    refine vr_nil (aw_then ?_)
    refine AWp.seq ?_
    refine AWp.seq ?_
    (refine aw_regionL hS (by kernel_rfl) ?_; repeat (first | apply vr0u | apply vr4 | apply b_tt | apply b_ff | apply b_tf | apply b_ft | apply b_no | exact isD.mk rfl | (apply eqG; (simp only [push_cast, ↓reduceIte, Nat.reduceEqDiff, Nat.reduceAdd, Nat.reduceLeDiff, Nat.reduceLT, Int.reduceLE, Int.reduceLT, Int.reduceAdd, Int.reduceSub, Int.reduceNeg, Int.reduceBEq, Int.reduceBNe, Int.reduceEq, Int.reduceGT, Int.reduceGE, Int.reduceMul, Int.reduceToNat, Nat.reduceMul, reduceCtorEq, t0, t1, h7, h19, h14] <;> rfl)) | exact (rfl : app (swap _ _) _ = _)))
    refine vr_nil (aw_then ?_)
    refine aw_true (by (simp only [push_cast, ↓reduceIte, Nat.reduceEqDiff, Nat.reduceAdd, Nat.reduceLeDiff, Nat.reduceLT, Int.reduceLE, Int.reduceLT, Int.reduceAdd, Int.reduceSub, Int.reduceNeg, Int.reduceBEq, Int.reduceBNe, Int.reduceEq, Int.reduceGT, Int.reduceGE, Int.reduceMul, Int.reduceToNat, Nat.reduceMul, reduceCtorEq, t0, t1, h7, h19, h14] <;> rfl)) ?_
    refine AWp.seq ?_
    (refine aw_regionL hS (by kernel_rfl) ?_; repeat (first | apply vr0u | apply vr4 | apply b_tt | apply b_ff | apply b_tf | apply b_ft | apply b_no | exact isD.mk rfl | (apply eqG; (simp only [push_cast, ↓reduceIte, Nat.reduceEqDiff, Nat.reduceAdd, Nat.reduceLeDiff, Nat.reduceLT, Int.reduceLE, Int.reduceLT, Int.reduceAdd, Int.reduceSub, Int.reduceNeg, Int.reduceBEq, Int.reduceBNe, Int.reduceEq, Int.reduceGT, Int.reduceGE, Int.reduceMul, Int.reduceToNat, Nat.reduceMul, reduceCtorEq, t0, t1, h7, h19, h14] <;> rfl)) | exact (rfl : app (swap _ _) _ = _)))
    refine vr_nil (aw_then ?_)
    refine AWp.ret ?_
    exact Out.yes (.inr rfl) rfl (by (simp only [push_cast, ↓reduceIte, Nat.reduceEqDiff, Nat.reduceAdd, Nat.reduceLeDiff, Nat.reduceLT, Int.reduceLE, Int.reduceLT, Int.reduceAdd, Int.reduceSub, Int.reduceNeg, Int.reduceBEq, Int.reduceBNe, Int.reduceEq, Int.reduceGT, Int.reduceGE, Int.reduceMul, Int.reduceToNat, Nat.reduceMul, reduceCtorEq, t0, t1, h7, h19, h14] <;> rfl)) keep0
  case neg =>
    obtain ⟨N, rfl⟩ : ∃ N : Nat, a0 = (N : Int) := ⟨a0.toNat, by omega⟩
    have hN1 : 1 ≤ N := by omega
    have hN : N ≤ 256 := by omega
    have h7 : DF 7 [.i .i64 (N : Int)] h = .wide (fun n => (.tup [.p n 0, .i .i64 0], swap [] ((newW N n).cont n), n + 1 + 3 * N + 1)) := at7 hN1 hN h
    refine AWp.seq ?_
    (refine aw_regionL hS (by kernel_rfl) ?_; repeat (first | apply vr0u | apply vr4 | apply b_tt | apply b_ff | apply b_tf | apply b_ft | apply b_no | exact isD.mk rfl | (apply eqG; (simp only [push_cast, ↓reduceIte, Nat.reduceEqDiff, Nat.reduceAdd, Nat.reduceLeDiff, Nat.reduceLT, Int.reduceLE, Int.reduceLT, Int.reduceAdd, Int.reduceSub, Int.reduceNeg, Int.reduceBEq, Int.reduceBNe, Int.reduceEq, Int.reduceGT, Int.reduceGE, Int.reduceMul, Int.reduceToNat, Nat.reduceMul, reduceCtorEq, t0, t1, h7] <;> rfl)) | exact (rfl : app (swap _ _) _ = _)))
    refine vr_nil (aw_then ?_)
    have A1 := At.tNew (h0 := h) (n0 := n) (m := n) (N := N) hN1 hN (Nat.le_refl _) keep0
    have f1 : (newW N n).pend = [] ∧ (newW N n).safe.length = N ∧ ∀ jS jT, Same (newW N n) (newR N jS jT) := ⟨rfl, by simp [newW], fun jS jT => Same.new N n jS jT⟩
    generalize newW N n = w1 at A1 f1 ⊢
    generalize app (swap [] (w1.cont n)) h = g1 at A1 ⊢
    generalize n + 1 + 3 * N + 1 = m1 at A1 ⊢
    obtain ⟨p1, s1, sm1⟩ := f1
    refine AWp.seq ?_
    refine aw_callK 1 ok_DF (by kernel_rfl) rfl rfl rfl ?_
    simp only [List.take_succ_cons, List.take_zero]
    repeat (first | apply vr0u | apply vr4 | apply b_tt | apply b_ff | apply b_tf | apply b_ft | apply b_no | exact isD.mk rfl | (apply eqG; (simp only [push_cast, ↓reduceIte, Nat.reduceEqDiff, Nat.reduceAdd, Nat.reduceLeDiff, Nat.reduceLT, Int.reduceLE, Int.reduceLT, Int.reduceAdd, Int.reduceSub, Int.reduceNeg, Int.reduceBEq, Int.reduceBNe, Int.reduceEq, Int.reduceGT, Int.reduceGE, Int.reduceMul, Int.reduceToNat, Nat.reduceMul, reduceCtorEq, t0, t1] <;> rfl)) | exact (rfl : app (swap _ _) _ = _))
    refine vr_nil ⟨19, [], [], [.i .i64 (N : Int)], _, rfl, by (simp only [push_cast, ↓reduceIte, Nat.reduceEqDiff, Nat.reduceAdd, Nat.reduceLeDiff, Nat.reduceLT, Int.reduceLE, Int.reduceLT, Int.reduceAdd, Int.reduceSub, Int.reduceNeg, Int.reduceBEq, Int.reduceBNe, Int.reduceEq, Int.reduceGT, Int.reduceGE, Int.reduceMul, Int.reduceToNat, Nat.reduceMul, reduceCtorEq, t0, t1] <;> rfl), c19 N hN1 hN, fun x2 g2 m2 hm2 hΦ2 => ?_⟩
    simp only [List.drop_succ_cons, List.drop_zero]
    obtain ⟨rd, jS, jT, rfl, F2, hlo, hfr⟩ := hΦ2
    have M2 : Mem h n g2 m2 n rd w1 (newR N jS jT) := ⟨A1.ext hm2 hfr, ROk.new hN jS jT, F2, fun j hj => by have := hlo j hj; have := A1.le; omega, fun j hj hr => by have := hlo j hr; have := A1.lo j hj; omega⟩
    have H2 := sm1 jS jT
    generalize newR N jS jT = r1 at M2 H2 F2
    repeat (first | apply vr0u | apply vr4 | apply b_tt | apply b_ff | apply b_tf | apply b_ft | apply b_no | exact isD.mk rfl | (apply eqG; (simp only [push_cast, ↓reduceIte, Nat.reduceEqDiff, Nat.reduceAdd, Nat.reduceLeDiff, Nat.reduceLT, Int.reduceLE, Int.reduceLT, Int.reduceAdd, Int.reduceSub, Int.reduceNeg, Int.reduceBEq, Int.reduceBNe, Int.reduceEq, Int.reduceGT, Int.reduceGE, Int.reduceMul, Int.reduceToNat, Nat.reduceMul, reduceCtorEq, t0, t1] <;> rfl)) | exact (rfl : app (swap _ _) _ = _))
    refine vr_nil (aw_then ?_)
    refine AWp.seq ?_
    refine AWp.seq ?_
    (refine aw_regionL hS (by kernel_rfl) ?_; repeat (first | apply vr0u | apply vr4 | apply b_tt | apply b_ff | apply b_tf | apply b_ft | apply b_no | exact isD.mk rfl | (apply eqG; (simp only [push_cast, ↓reduceIte, Nat.reduceEqDiff, Nat.reduceAdd, Nat.reduceLeDiff, Nat.reduceLT, Int.reduceLE, Int.reduceLT, Int.reduceAdd, Int.reduceSub, Int.reduceNeg, Int.reduceBEq, Int.reduceBNe, Int.reduceEq, Int.reduceGT, Int.reduceGE, Int.reduceMul, Int.reduceToNat, Nat.reduceMul, reduceCtorEq, t0, t1] <;> rfl)) | exact (rfl : app (swap _ _) _ = _)))
    refine vr_nil (aw_then ?_)
    refine aw_false (by (simp only [push_cast, ↓reduceIte, Nat.reduceEqDiff, Nat.reduceAdd, Nat.reduceLeDiff, Nat.reduceLT, Int.reduceLE, Int.reduceLT, Int.reduceAdd, Int.reduceSub, Int.reduceNeg, Int.reduceBEq, Int.reduceBNe, Int.reduceEq, Int.reduceGT, Int.reduceGE, Int.reduceMul, Int.reduceToNat, Nat.reduceMul, reduceCtorEq, t0, t1] <;> rfl)) (AWp.skip (aw_then ?_))
    refine AWp.seq ?_
    refine AWp.seq ?_
    (refine aw_regionL hS (by kernel_rfl) ?_; repeat (first | apply vr0u | apply vr4 | apply b_tt | apply b_ff | apply b_tf | apply b_ft | apply b_no | exact isD.mk rfl | (apply eqG; (simp only [push_cast, ↓reduceIte, Nat.reduceEqDiff, Nat.reduceAdd, Nat.reduceLeDiff, Nat.reduceLT, Int.reduceLE, Int.reduceLT, Int.reduceAdd, Int.reduceSub, Int.reduceNeg, Int.reduceBEq, Int.reduceBNe, Int.reduceEq, Int.reduceGT, Int.reduceGE, Int.reduceMul, Int.reduceToNat, Nat.reduceMul, reduceCtorEq, t0, t1] <;> rfl)) | exact (rfl : app (swap _ _) _ = _)))
    refine vr_nil (aw_then ?_)
    refine aw_false (by (simp only [push_cast, ↓reduceIte, Nat.reduceEqDiff, Nat.reduceAdd, Nat.reduceLeDiff, Nat.reduceLT, Int.reduceLE, Int.reduceLT, Int.reduceAdd, Int.reduceSub, Int.reduceNeg, Int.reduceBEq, Int.reduceBNe, Int.reduceEq, Int.reduceGT, Int.reduceGE, Int.reduceMul, Int.reduceToNat, Nat.reduceMul, reduceCtorEq, t0, t1] <;> rfl)) (AWp.skip (aw_then ?_))
    refine AWp.cut (fun t' h' n' => ∃ w r, Mem h n h' n' n rd w r ∧ Same w r ∧ t' 5 = .p n 0 ∧ t' 7 = .p rd 0) ?_ ?_
    · refine AWp.seq ?_
      (refine aw_regionL hS (by kernel_rfl) ?_; repeat (first | apply vr0u | apply vr4 | apply b_tt | apply b_ff | apply b_tf | apply b_ft | apply b_no | exact isD.mk rfl | (apply eqG; (simp only [push_cast, ↓reduceIte, Nat.reduceEqDiff, Nat.reduceAdd, Nat.reduceLeDiff, Nat.reduceLT, Int.reduceLE, Int.reduceLT, Int.reduceAdd, Int.reduceSub, Int.reduceNeg, Int.reduceBEq, Int.reduceBNe, Int.reduceEq, Int.reduceGT, Int.reduceGE, Int.reduceMul, Int.reduceToNat, Nat.reduceMul, reduceCtorEq, t0, t1] <;> rfl)) | exact (rfl : app (swap _ _) _ = _)))
      refine vr_nil (aw_then ?_)
      refine AWp.block ?_
      refine AWp.loop (fun mm t' h' n' => ∃ (k : Nat) (w : DW) (r : RW), mm = l.length - k ∧ k ≤ l.length ∧ Mem h n h' n' n rd w r ∧ Same w r ∧ w.safe.length = N ∧ w.pend.length ≤ k ∧ t' 0 = .i .i64 (N : Int) ∧ t' 1 = .ro z1 (acts l) l.length ∧ t' 5 = .p n 0 ∧ t' 7 = .p rd 0 ∧ t' 8 = .i .i64 (k : Int)) l.length ?_ ?_
      · exact ⟨0, w1, r1, rfl, Nat.zero_le _, M2, H2, s1, by rw [p1]; exact Nat.le_refl _, by (simp only [push_cast, ↓reduceIte, Nat.reduceEqDiff, Nat.reduceAdd, Nat.reduceLeDiff, Nat.reduceLT, Int.reduceLE, Int.reduceLT, Int.reduceAdd, Int.reduceSub, Int.reduceNeg, Int.reduceBEq, Int.reduceBNe, Int.reduceEq, Int.reduceGT, Int.reduceGE, Int.reduceMul, Int.reduceToNat, Nat.reduceMul, reduceCtorEq, t0, t1] <;> rfl), by (simp only [push_cast, ↓reduceIte, Nat.reduceEqDiff, Nat.reduceAdd, Nat.reduceLeDiff, Nat.reduceLT, Int.reduceLE, Int.reduceLT, Int.reduceAdd, Int.reduceSub, Int.reduceNeg, Int.reduceBEq, Int.reduceBNe, Int.reduceEq, Int.reduceGT, Int.reduceGE, Int.reduceMul, Int.reduceToNat, Nat.reduceMul, reduceCtorEq, t0, t1] <;> rfl), by (simp only [push_cast, ↓reduceIte, Nat.reduceEqDiff, Nat.reduceAdd, Nat.reduceLeDiff, Nat.reduceLT, Int.reduceLE, Int.reduceLT, Int.reduceAdd, Int.reduceSub, Int.reduceNeg, Int.reduceBEq, Int.reduceBNe, Int.reduceEq, Int.reduceGT, Int.reduceGE, Int.reduceMul, Int.reduceToNat, Nat.reduceMul, reduceCtorEq, t0, t1] <;> rfl), by (simp only [push_cast, ↓reduceIte, Nat.reduceEqDiff, Nat.reduceAdd, Nat.reduceLeDiff, Nat.reduceLT, Int.reduceLE, Int.reduceLT, Int.reduceAdd, Int.reduceSub, Int.reduceNeg, Int.reduceBEq, Int.reduceBNe, Int.reduceEq, Int.reduceGT, Int.reduceGE, Int.reduceMul, Int.reduceToNat, Nat.reduceMul, reduceCtorEq, t0, t1] <;> rfl), by (simp only [push_cast, ↓reduceIte, Nat.reduceEqDiff, Nat.reduceAdd, Nat.reduceLeDiff, Nat.reduceLT, Int.reduceLE, Int.reduceLT, Int.reduceAdd, Int.reduceSub, Int.reduceNeg, Int.reduceBEq, Int.reduceBNe, Int.reduceEq, Int.reduceGT, Int.reduceGE, Int.reduceMul, Int.reduceToNat, Nat.reduceMul, reduceCtorEq, t0, t1] <;> rfl)⟩
      · clear t0 t1
        rintro mm t' h' n' - ⟨k, w, r, rfl, hkl, M, H, hs, hp, t0, t1, t5, t7, t8⟩
        by_cases hk : k < l.length
        · by_cases hk2 : k < 100
          · have q1 : ((k : Int) < (l.length : Int)) = True := by simp [hk]
            have q2 : ((k : Int) < 100) = True := by simp; omega
            have q3 : (0 ≤ (k : Int) ∧ (k : Int) < (l.length : Int)) = True := by simp [hk]
            have q4 := acts_get hk
            have q6 : (k * 6 + 6 ≤ (acts l).length) = True := by rw [acts_len]; simp; omega
            have w1' : IntKind.wrap .i64 ((k : Int) + 1) = (k : Int) + 1 := IntWalk.i64_in _ (by omega)
            have hok := hl _ (List.getElem_mem hk)
            obtain ⟨hb1, hb2⟩ := hlt k hk hk2
            refine AWp.seq ?_
            refine AWp.seq ?_
            (refine aw_regionL hS (by kernel_rfl) ?_; repeat (first | apply vr0u | apply vr4 | apply b_tt | apply b_ff | apply b_tf | apply b_ft | apply b_no | exact isD.mk rfl | (apply eqG; (simp only [push_cast, ↓reduceIte, Nat.reduceEqDiff, Nat.reduceAdd, Nat.reduceLeDiff, Nat.reduceLT, Int.reduceLE, Int.reduceLT, Int.reduceAdd, Int.reduceSub, Int.reduceNeg, Int.reduceBEq, Int.reduceBNe, Int.reduceEq, Int.reduceGT, Int.reduceGE, Int.reduceMul, Int.reduceToNat, Nat.reduceMul, reduceCtorEq, t0, t1, t5, t7, t8, q1, q2, q3, q4, q6] <;> rfl)) | exact (rfl : app (swap _ _) _ = _)))
            refine vr_nil (aw_then ?_)
            refine aw_true (by (simp only [push_cast, ↓reduceIte, Nat.reduceEqDiff, Nat.reduceAdd, Nat.reduceLeDiff, Nat.reduceLT, Int.reduceLE, Int.reduceLT, Int.reduceAdd, Int.reduceSub, Int.reduceNeg, Int.reduceBEq, Int.reduceBNe, Int.reduceEq, Int.reduceGT, Int.reduceGE, Int.reduceMul, Int.reduceToNat, Nat.reduceMul, reduceCtorEq, t0, t1, t5, t7, t8, q1, q2, q3, q4, q6] <;> rfl)) (AWp.skip (aw_then ?_))
            refine AWp.seq ?_
            refine AWp.block ?_
            refine AWp.seq ?_
            refine aw_callK 6 ok_DF (by kernel_rfl) rfl rfl rfl ?_
            simp only [List.take_succ_cons, List.take_zero]
            repeat (first | apply vr0u | apply vr4 | apply b_tt | apply b_ff | apply b_tf | apply b_ft | apply b_no | exact isD.mk rfl | (apply eqG; (simp only [push_cast, ↓reduceIte, Nat.reduceEqDiff, Nat.reduceAdd, Nat.reduceLeDiff, Nat.reduceLT, Int.reduceLE, Int.reduceLT, Int.reduceAdd, Int.reduceSub, Int.reduceNeg, Int.reduceBEq, Int.reduceBNe, Int.reduceEq, Int.reduceGT, Int.reduceGE, Int.reduceMul, Int.reduceToNat, Nat.reduceMul, reduceCtorEq, t0, t1, t5, t7, t8, q1, q2, q3, q4, q6] <;> rfl)) | exact (rfl : app (swap _ _) _ = _))
            refine vr_nil ⟨20, [], [], [.p n 0, .p rd 0, .agg (actC l[k])], _, rfl, by (simp only [push_cast, ↓reduceIte, Nat.reduceEqDiff, Nat.reduceAdd, Nat.reduceLeDiff, Nat.reduceLT, Int.reduceLE, Int.reduceLT, Int.reduceAdd, Int.reduceSub, Int.reduceNeg, Int.reduceBEq, Int.reduceBNe, Int.reduceEq, Int.reduceGT, Int.reduceGE, Int.reduceMul, Int.reduceToNat, Nat.reduceMul, reduceCtorEq, t0, t1, t5, t7, t8, q1, q2, q3, q4, q6] <;> rfl), c20 M H (by omega) l[k] hok hb1 hb2, fun x3 g3 m3 hm3 hΦ3 => ?_⟩
            simp only [List.drop_succ_cons, List.drop_zero]
            obtain ⟨rfl, w2, r2, M2, H2, l2, p2⟩ := hΦ3
            have h21 := at21 M2 H2
            by_cases hN20 : N ≤ 20
            case pos =>
              have y1 : ((N : Int) ≤ 20) = True := by simp; omega
              repeat (first | apply vr0u | apply vr4 | apply b_tt | apply b_ff | apply b_tf | apply b_ft | apply b_no | exact isD.mk rfl | (apply eqG; (simp only [push_cast, ↓reduceIte, Nat.reduceEqDiff, Nat.reduceAdd, Nat.reduceLeDiff, Nat.reduceLT, Int.reduceLE, Int.reduceLT, Int.reduceAdd, Int.reduceSub, Int.reduceNeg, Int.reduceBEq, Int.reduceBNe, Int.reduceEq, Int.reduceGT, Int.reduceGE, Int.reduceMul, Int.reduceToNat, Nat.reduceMul, reduceCtorEq, t0, t1, t5, t7, t8, w1', y1, h21] <;> rfl)) | exact (rfl : app (swap _ _) _ = _))
              refine vr_nil (aw_then ?_)
              refine aw_false (by (simp only [push_cast, ↓reduceIte, Nat.reduceEqDiff, Nat.reduceAdd, Nat.reduceLeDiff, Nat.reduceLT, Int.reduceLE, Int.reduceLT, Int.reduceAdd, Int.reduceSub, Int.reduceNeg, Int.reduceBEq, Int.reduceBNe, Int.reduceEq, Int.reduceGT, Int.reduceGE, Int.reduceMul, Int.reduceToNat, Nat.reduceMul, reduceCtorEq, t0, t1, t5, t7, t8, w1', y1, h21] <;> rfl)) (AWp.skip (aw_in (aw_then ?_)))
              (refine aw_regionL hS (by kernel_rfl) ?_; repeat (first | apply vr0u | apply vr4 | apply b_tt | apply b_ff | apply b_tf | apply b_ft | apply b_no | exact isD.mk rfl | (apply eqG; (simp only [push_cast, ↓reduceIte, Nat.reduceEqDiff, Nat.reduceAdd, Nat.reduceLeDiff, Nat.reduceLT, Int.reduceLE, Int.reduceLT, Int.reduceAdd, Int.reduceSub, Int.reduceNeg, Int.reduceBEq, Int.reduceBNe, Int.reduceEq, Int.reduceGT, Int.reduceGE, Int.reduceMul, Int.reduceToNat, Nat.reduceMul, reduceCtorEq, t0, t1, t5, t7, t8, w1', y1, h21] <;> rfl)) | exact (rfl : app (swap _ _) _ = _)))
              exact vr_nil (aw_then ⟨l.length - (k + 1), by omega, k + 1, w2, r2, rfl, hk, M2, H2, by omega, by omega, by (simp only [push_cast, ↓reduceIte, Nat.reduceEqDiff, Nat.reduceAdd, Nat.reduceLeDiff, Nat.reduceLT, Int.reduceLE, Int.reduceLT, Int.reduceAdd, Int.reduceSub, Int.reduceNeg, Int.reduceBEq, Int.reduceBNe, Int.reduceEq, Int.reduceGT, Int.reduceGE, Int.reduceMul, Int.reduceToNat, Nat.reduceMul, reduceCtorEq, t0, t1, t5, t7, t8, w1', y1, h21] <;> rfl), by (simp only [push_cast, ↓reduceIte, Nat.reduceEqDiff, Nat.reduceAdd, Nat.reduceLeDiff, Nat.reduceLT, Int.reduceLE, Int.reduceLT, Int.reduceAdd, Int.reduceSub, Int.reduceNeg, Int.reduceBEq, Int.reduceBNe, Int.reduceEq, Int.reduceGT, Int.reduceGE, Int.reduceMul, Int.reduceToNat, Nat.reduceMul, reduceCtorEq, t0, t1, t5, t7, t8, w1', y1, h21] <;> rfl), by (simp only [push_cast, ↓reduceIte, Nat.reduceEqDiff, Nat.reduceAdd, Nat.reduceLeDiff, Nat.reduceLT, Int.reduceLE, Int.reduceLT, Int.reduceAdd, Int.reduceSub, Int.reduceNeg, Int.reduceBEq, Int.reduceBNe, Int.reduceEq, Int.reduceGT, Int.reduceGE, Int.reduceMul, Int.reduceToNat, Nat.reduceMul, reduceCtorEq, t0, t1, t5, t7, t8, w1', y1, h21] <;> rfl), by (simp only [push_cast, ↓reduceIte, Nat.reduceEqDiff, Nat.reduceAdd, Nat.reduceLeDiff, Nat.reduceLT, Int.reduceLE, Int.reduceLT, Int.reduceAdd, Int.reduceSub, Int.reduceNeg, Int.reduceBEq, Int.reduceBNe, Int.reduceEq, Int.reduceGT, Int.reduceGE, Int.reduceMul, Int.reduceToNat, Nat.reduceMul, reduceCtorEq, t0, t1, t5, t7, t8, w1', y1, h21] <;> rfl), by (simp only [push_cast, ↓reduceIte, Nat.reduceEqDiff, Nat.reduceAdd, Nat.reduceLeDiff, Nat.reduceLT, Int.reduceLE, Int.reduceLT, Int.reduceAdd, Int.reduceSub, Int.reduceNeg, Int.reduceBEq, Int.reduceBNe, Int.reduceEq, Int.reduceGT, Int.reduceGE, Int.reduceMul, Int.reduceToNat, Nat.reduceMul, reduceCtorEq, t0, t1, t5, t7, t8, w1', y1, h21] <;> rfl)⟩)
            case neg =>
              have y1 : ((N : Int) ≤ 20) = False := by simp; omega
              repeat (first | apply vr0u | apply vr4 | apply b_tt | apply b_ff | apply b_tf | apply b_ft | apply b_no | exact isD.mk rfl | (apply eqG; (simp only [push_cast, ↓reduceIte, Nat.reduceEqDiff, Nat.reduceAdd, Nat.reduceLeDiff, Nat.reduceLT, Int.reduceLE, Int.reduceLT, Int.reduceAdd, Int.reduceSub, Int.reduceNeg, Int.reduceBEq, Int.reduceBNe, Int.reduceEq, Int.reduceGT, Int.reduceGE, Int.reduceMul, Int.reduceToNat, Nat.reduceMul, reduceCtorEq, t0, t1, t5, t7, t8, w1', y1] <;> rfl)) | exact (rfl : app (swap _ _) _ = _))
              refine vr_nil (aw_then ?_)
              refine aw_false (by (simp only [push_cast, ↓reduceIte, Nat.reduceEqDiff, Nat.reduceAdd, Nat.reduceLeDiff, Nat.reduceLT, Int.reduceLE, Int.reduceLT, Int.reduceAdd, Int.reduceSub, Int.reduceNeg, Int.reduceBEq, Int.reduceBNe, Int.reduceEq, Int.reduceGT, Int.reduceGE, Int.reduceMul, Int.reduceToNat, Nat.reduceMul, reduceCtorEq, t0, t1, t5, t7, t8, w1', y1] <;> rfl)) (AWp.skip (aw_in (aw_then ?_)))
              (refine aw_regionL hS (by kernel_rfl) ?_; repeat (first | apply vr0u | apply vr4 | apply b_tt | apply b_ff | apply b_tf | apply b_ft | apply b_no | exact isD.mk rfl | (apply eqG; (simp only [push_cast, ↓reduceIte, Nat.reduceEqDiff, Nat.reduceAdd, Nat.reduceLeDiff, Nat.reduceLT, Int.reduceLE, Int.reduceLT, Int.reduceAdd, Int.reduceSub, Int.reduceNeg, Int.reduceBEq, Int.reduceBNe, Int.reduceEq, Int.reduceGT, Int.reduceGE, Int.reduceMul, Int.reduceToNat, Nat.reduceMul, reduceCtorEq, t0, t1, t5, t7, t8, w1', y1] <;> rfl)) | exact (rfl : app (swap _ _) _ = _)))
              exact vr_nil (aw_then ⟨l.length - (k + 1), by omega, k + 1, w2, r2, rfl, hk, M2, H2, by omega, by omega, by (simp only [push_cast, ↓reduceIte, Nat.reduceEqDiff, Nat.reduceAdd, Nat.reduceLeDiff, Nat.reduceLT, Int.reduceLE, Int.reduceLT, Int.reduceAdd, Int.reduceSub, Int.reduceNeg, Int.reduceBEq, Int.reduceBNe, Int.reduceEq, Int.reduceGT, Int.reduceGE, Int.reduceMul, Int.reduceToNat, Nat.reduceMul, reduceCtorEq, t0, t1, t5, t7, t8, w1', y1] <;> rfl), by (simp only [push_cast, ↓reduceIte, Nat.reduceEqDiff, Nat.reduceAdd, Nat.reduceLeDiff, Nat.reduceLT, Int.reduceLE, Int.reduceLT, Int.reduceAdd, Int.reduceSub, Int.reduceNeg, Int.reduceBEq, Int.reduceBNe, Int.reduceEq, Int.reduceGT, Int.reduceGE, Int.reduceMul, Int.reduceToNat, Nat.reduceMul, reduceCtorEq, t0, t1, t5, t7, t8, w1', y1] <;> rfl), by (simp only [push_cast, ↓reduceIte, Nat.reduceEqDiff, Nat.reduceAdd, Nat.reduceLeDiff, Nat.reduceLT, Int.reduceLE, Int.reduceLT, Int.reduceAdd, Int.reduceSub, Int.reduceNeg, Int.reduceBEq, Int.reduceBNe, Int.reduceEq, Int.reduceGT, Int.reduceGE, Int.reduceMul, Int.reduceToNat, Nat.reduceMul, reduceCtorEq, t0, t1, t5, t7, t8, w1', y1] <;> rfl), by (simp only [push_cast, ↓reduceIte, Nat.reduceEqDiff, Nat.reduceAdd, Nat.reduceLeDiff, Nat.reduceLT, Int.reduceLE, Int.reduceLT, Int.reduceAdd, Int.reduceSub, Int.reduceNeg, Int.reduceBEq, Int.reduceBNe, Int.reduceEq, Int.reduceGT, Int.reduceGE, Int.reduceMul, Int.reduceToNat, Nat.reduceMul, reduceCtorEq, t0, t1, t5, t7, t8, w1', y1] <;> rfl), by (simp only [push_cast, ↓reduceIte, Nat.reduceEqDiff, Nat.reduceAdd, Nat.reduceLeDiff, Nat.reduceLT, Int.reduceLE, Int.reduceLT, Int.reduceAdd, Int.reduceSub, Int.reduceNeg, Int.reduceBEq, Int.reduceBNe, Int.reduceEq, Int.reduceGT, Int.reduceGE, Int.reduceMul, Int.reduceToNat, Nat.reduceMul, reduceCtorEq, t0, t1, t5, t7, t8, w1', y1] <;> rfl)⟩)
          · have q1 : ((k : Int) < (l.length : Int)) = True := by simp [hk]
            have q2 : ((k : Int) < 100) = False := by simp; omega
            refine AWp.seq ?_
            refine AWp.seq ?_
            (refine aw_regionL hS (by kernel_rfl) ?_; repeat (first | apply vr0u | apply vr4 | apply b_tt | apply b_ff | apply b_tf | apply b_ft | apply b_no | exact isD.mk rfl | (apply eqG; (simp only [push_cast, ↓reduceIte, Nat.reduceEqDiff, Nat.reduceAdd, Nat.reduceLeDiff, Nat.reduceLT, Int.reduceLE, Int.reduceLT, Int.reduceAdd, Int.reduceSub, Int.reduceNeg, Int.reduceBEq, Int.reduceBNe, Int.reduceEq, Int.reduceGT, Int.reduceGE, Int.reduceMul, Int.reduceToNat, Nat.reduceMul, reduceCtorEq, t0, t1, t5, t7, t8, q1, q2] <;> rfl)) | exact (rfl : app (swap _ _) _ = _)))
            refine vr_nil (aw_then ?_)
            refine aw_false (by (simp only [push_cast, ↓reduceIte, Nat.reduceEqDiff, Nat.reduceAdd, Nat.reduceLeDiff, Nat.reduceLT, Int.reduceLE, Int.reduceLT, Int.reduceAdd, Int.reduceSub, Int.reduceNeg, Int.reduceBEq, Int.reduceBNe, Int.reduceEq, Int.reduceGT, Int.reduceGE, Int.reduceMul, Int.reduceToNat, Nat.reduceMul, reduceCtorEq, t0, t1, t5, t7, t8, q1, q2] <;> rfl)) (AWp.exit (aw_thru (aw_thru (aw_exit (aw_then ?_)))))
            exact ⟨w, r, M, H, by (simp only [push_cast, ↓reduceIte, Nat.reduceEqDiff, Nat.reduceAdd, Nat.reduceLeDiff, Nat.reduceLT, Int.reduceLE, Int.reduceLT, Int.reduceAdd, Int.reduceSub, Int.reduceNeg, Int.reduceBEq, Int.reduceBNe, Int.reduceEq, Int.reduceGT, Int.reduceGE, Int.reduceMul, Int.reduceToNat, Nat.reduceMul, reduceCtorEq, t0, t1, t5, t7, t8, q1, q2] <;> rfl), by (simp only [push_cast, ↓reduceIte, Nat.reduceEqDiff, Nat.reduceAdd, Nat.reduceLeDiff, Nat.reduceLT, Int.reduceLE, Int.reduceLT, Int.reduceAdd, Int.reduceSub, Int.reduceNeg, Int.reduceBEq, Int.reduceBNe, Int.reduceEq, Int.reduceGT, Int.reduceGE, Int.reduceMul, Int.reduceToNat, Nat.reduceMul, reduceCtorEq, t0, t1, t5, t7, t8, q1, q2] <;> rfl)⟩
        · have q1 : ((k : Int) < (l.length : Int)) = False := by simp; omega
          refine AWp.seq ?_
          refine AWp.seq ?_
          (refine aw_regionL hS (by kernel_rfl) ?_; repeat (first | apply vr0u | apply vr4 | apply b_tt | apply b_ff | apply b_tf | apply b_ft | apply b_no | exact isD.mk rfl | (apply eqG; (simp only [push_cast, ↓reduceIte, Nat.reduceEqDiff, Nat.reduceAdd, Nat.reduceLeDiff, Nat.reduceLT, Int.reduceLE, Int.reduceLT, Int.reduceAdd, Int.reduceSub, Int.reduceNeg, Int.reduceBEq, Int.reduceBNe, Int.reduceEq, Int.reduceGT, Int.reduceGE, Int.reduceMul, Int.reduceToNat, Nat.reduceMul, reduceCtorEq, t0, t1, t5, t7, t8, q1] <;> rfl)) | exact (rfl : app (swap _ _) _ = _)))
          refine vr_nil (aw_then ?_)
          refine aw_false (by (simp only [push_cast, ↓reduceIte, Nat.reduceEqDiff, Nat.reduceAdd, Nat.reduceLeDiff, Nat.reduceLT, Int.reduceLE, Int.reduceLT, Int.reduceAdd, Int.reduceSub, Int.reduceNeg, Int.reduceBEq, Int.reduceBNe, Int.reduceEq, Int.reduceGT, Int.reduceGE, Int.reduceMul, Int.reduceToNat, Nat.reduceMul, reduceCtorEq, t0, t1, t5, t7, t8, q1] <;> rfl)) (AWp.exit (aw_thru (aw_thru (aw_exit (aw_then ?_)))))
          exact ⟨w, r, M, H, by (simp only [push_cast, ↓reduceIte, Nat.reduceEqDiff, Nat.reduceAdd, Nat.reduceLeDiff, Nat.reduceLT, Int.reduceLE, Int.reduceLT, Int.reduceAdd, Int.reduceSub, Int.reduceNeg, Int.reduceBEq, Int.reduceBNe, Int.reduceEq, Int.reduceGT, Int.reduceGE, Int.reduceMul, Int.reduceToNat, Nat.reduceMul, reduceCtorEq, t0, t1, t5, t7, t8, q1] <;> rfl), by (simp only [push_cast, ↓reduceIte, Nat.reduceEqDiff, Nat.reduceAdd, Nat.reduceLeDiff, Nat.reduceLT, Int.reduceLE, Int.reduceLT, Int.reduceAdd, Int.reduceSub, Int.reduceNeg, Int.reduceBEq, Int.reduceBNe, Int.reduceEq, Int.reduceGT, Int.reduceGE, Int.reduceMul, Int.reduceToNat, Nat.reduceMul, reduceCtorEq, t0, t1, t5, t7, t8, q1] <;> rfl)⟩
    · rintro t5' g5 m5 - ⟨w5, r5, M5, H5, t5, t7⟩
      have h21 := at21 M5 H5
      have h14 : DF 14 [] g5 = .pure (.b true) := at14 g5
      refine AWp.seq ?_
      (refine aw_regionL hS (by kernel_rfl) ?_; repeat (first | apply vr0u | apply vr4 | apply b_tt | apply b_ff | apply b_tf | apply b_ft | apply b_no | exact isD.mk rfl | (apply eqG; (simp only [push_cast, ↓reduceIte, Nat.reduceEqDiff, Nat.reduceAdd, Nat.reduceLeDiff, Nat.reduceLT, Int.reduceLE, Int.reduceLT, Int.reduceAdd, Int.reduceSub, Int.reduceNeg, Int.reduceBEq, Int.reduceBNe, Int.reduceEq, Int.reduceGT, Int.reduceGE, Int.reduceMul, Int.reduceToNat, Nat.reduceMul, reduceCtorEq, t5, t7, h21, h14] <;> rfl)) | exact (rfl : app (swap _ _) _ = _)))
      refine vr_nil (aw_then ?_)
      refine AWp.ret ?_
      exact Out.yes (.inr rfl) rfl (by (simp only [push_cast, ↓reduceIte, Nat.reduceEqDiff, Nat.reduceAdd, Nat.reduceLeDiff, Nat.reduceLT, Int.reduceLE, Int.reduceLT, Int.reduceAdd, Int.reduceSub, Int.reduceNeg, Int.reduceBEq, Int.reduceBNe, Int.reduceEq, Int.reduceGT, Int.reduceGE, Int.reduceMul, Int.reduceToNat, Nat.reduceMul, reduceCtorEq, t5, t7, h21, h14] <;> rfl)) M5.A.fr

end Go.Proofs.Ytepfknnffooaiaa
