import Derived.Test.YtepfknnffooaiaaDkR3

namespace Go.Proofs.Ytepfknnffooaiaa
open Go.Av
set_option maxRecDepth 100000
set_option maxHeartbeats 1000000
set_option linter.unusedSimpArgs false
set_option linter.unusedVariables false
attribute [local push_cast] stepE callR resE aeff aev ofC ofC1 put_at Av.put_none inTmps List.getD_cons_zero List.getD_cons_succ AV.boxable if_true if_false AV.cells aload place app_cons app_nil upd_same Av.part abin aconv aindexAddr fillA splice_one abuiltin alen amax amin aun aindex Option.map_some Option.isSome_some List.map_cons List.map_nil List.nil_append List.append_nil List.cons_append Nat.le_refl Nat.zero_add Nat.add_zero List.length_cons List.length_nil List.drop_succ_cons List.drop_zero List.take_succ_cons List.take_zero beq_self_eq_true bne_self_eq_false Bool.not_true Bool.not_false List.set_cons_zero List.set_cons_succ Bool.false_eq_true IntWalk.i64_in decide_true decide_false Int.toNat_zero and_self and_true true_and List.getElem?_cons_zero List.getElem?_cons_succ aappend aapp view Bool.and_true Bool.true_and Nat.mul_one Option.map_none aslice asliceB nilOp Int.toNat_natCast und_30 agT_3 szT_3 kiT_3 agT_4 szT_4 kiT_4 agT_5 szT_5 kiT_5 agT_25 szT_25 kiT_25 agT_28 szT_28 kiT_28 agT_22 szT_22 kiT_22 agT_23 szT_23 kiT_23 agT_30 szT_30 kiT_30 agT_37 szT_37 kiT_37 agT_38 szT_38 kiT_38 agT_52 szT_52 kiT_52 agT_53 szT_53 kiT_53 agT_24 szT_24 kiT_24 agT_54 szT_54 kiT_54 agT_47 szT_47 kiT_47 slT_22 slT_23 slT_30 slT_37 slT_38 slT_52 slT_53 zeT_3 zeT_4 zeT_5 zeT_30 flT_56_0 flT_56_1 flT_56_2 flT_56_3 flT_56_4 agT_56 szT_56 buT_56 zeT_56 flT_58_0 flT_58_1 agT_58 szT_58 buT_58 zeT_58 flT_62_0 flT_62_1 agT_62 szT_62 buT_62 zeT_62 flT_65_0 flT_65_1 flT_65_2 agT_65 szT_65 buT_65 zeT_65 flT_42_0 flT_42_1 flT_42_2 flT_42_3 flT_42_4 flT_42_5 agT_42 szT_42 buT_42 zeT_42 flT_68_0 flT_68_1 flT_68_2 flT_68_3 flT_68_4 flT_68_5 flT_68_6 agT_68 szT_68 buT_68 zeT_68 ptT_24 ptT_54 ptT_47 und_30 agT_66 szT_66 kiT_66 slT_66 flT_73_0 flT_73_1 agT_73 szT_73 buT_73 zeT_73 

theorem crashR_nodup {h : Heap} {d : Nat} {r : RW} (F : RFacts h d r) {keep : List Bool} {torn : Int} : ((r.crash keep torn).cont d).keys.Nodup := by
  have h1 := F.dS
  have h2 := F.dT
  have h3 := F.ST
  simp only [RW.cont, Lst.keys, RW.crash, RW.wL, if_true, List.map_cons, List.map_nil, List.nodup_cons, List.mem_cons, List.not_mem_nil, or_false, not_or, not_false_eq_true, List.nodup_nil, and_true]
  omega
theorem RFacts.set {h : Heap} {d : Nat} {r r' : RW} (F : RFacts h d r) (e1 : r'.jS = r.jS) (e2 : r'.jT = r.jT) (e3 : r'.jW = r.jW) (e4 : r'.S = r.S) (e5 : r'.T = r.T) (e6 : r'.W = r.W) : RFacts (upd h d (some (.cells r'.row))) d r' := by
  refine ⟨upd_same .., ?_, ?_, fun hW => ?_, by rw [e1]; exact F.dS, by rw [e2]; exact F.dT, by rw [e1, e2]; exact F.ST⟩
  · rw [e1, e4, upd_ne _ _ (Ne.symm F.dS)]; exact F.hS
  · rw [e2, e5, upd_ne _ _ (Ne.symm F.dT)]; exact F.hT
  · rw [e6] at hW
    obtain ⟨h1, h2, h3, h4⟩ := F.hW hW
    rw [e1, e2, e3, e6, upd_ne _ _ h2]
    exact ⟨h1, h2, h3, h4⟩
theorem RW.keys_eq {d : Nat} {r r' : RW} (e1 : r'.jS = r.jS) (e2 : r'.jT = r.jT) (e3 : r'.jW = r.jW) (e6 : r'.W = r.W) {j : Nat} (hj : j ∈ (r'.cont d).keys) : j ∈ (r.cont d).keys := by
  rw [RW.keys_iff, e1, e2, e3, e6] at hj
  exact RW.keys_iff.2 hj
theorem keysCrash {d : Nat} {r : RW} {keep : List Bool} {torn : Int} {j : Nat} (hj : j ∈ ((r.crash keep torn).cont d).keys) : j ∈ (r.cont d).keys := by
  rw [crashR_keys] at hj
  rcases hj with rfl | rfl | rfl
  · exact RW.keys_iff.2 (.inl rfl)
  · exact RW.keys_iff.2 (.inr (.inl rfl))
  · exact RW.keys_iff.2 (.inr (.inr (.inl rfl)))
/-! ### trips, on the page -/
def RW.trips (r : RW) : Bool × RW := if 0 < r.armed then (if r.armed = 1 then (true, r.crash r.keep r.tear) else (false, { r with armed := r.armed - 1 })) else (false, r)
theorem ROk.trips {r : RW} (hr : ROk r) : ROk r.trips.2 := by
  unfold RW.trips
  split
  · split
    · exact hr.crash _ _
    · have := hr.ar
      exact ⟨hr.len, hr.n0, hr.we, hr.s1, by show 0 ≤ r.armed - 1 ∧ r.armed - 1 ≤ _; omega, hr.kl, hr.wl⟩
  · exact hr
theorem crash_armed (r : RW) (a : Int) (keep : List Bool) (torn : Int) : ({ r with armed := a } : RW).crash keep torn = r.crash keep torn := rfl
theorem c37 {h : Heap} {d : Nat} {r : RW} (hr : ROk r) (hL : Has h (r.cont d)) (hdo : r.down = false) :
    ∀ n, DCalls Try.prog 37 [.p d 0] h n (.b r.trips.1) (swap (r.cont d) (r.trips.2.cont d)) n := by
  intro n
  have hS := SumOk.none (P := Try.prog)
  rcases has_any hL n with hlt | ⟨j, x, hj, hn⟩
  case inr => exact DCalls.vac ⟨_, Try.func37, rfl, by decide⟩ (Nat.le_refl _) hj hn
  have F := RFacts.of hL
  have hd := F.hd
  have hdn := hlt d (RW.keys_iff.2 (.inl rfl))
  have hsn := hlt r.jS (RW.keys_iff.2 (.inr (.inl rfl)))
  have htn := hlt r.jT (RW.keys_iff.2 (.inr (.inr (.inl rfl))))
  have n1 := F.dS
  have n2 := F.dT
  have n3 := F.ST
  simp only [RW.row] at hd
  refine DCalls.of Try.func37 rfl (by decide) (Nat.le_of_ble_eq_true rfl) (Nat.le_refl _) ?_
  rw [hdo] at hd
  obtain ⟨ha0, ha1⟩ := hr.ar
  refine AWp.seq ?_
  (refine aw_regionL hS (by kernel_rfl) ?_; repeat (first | apply vr0u | apply vr4 | apply b_tt | apply b_ff | apply b_tf | apply b_ft | apply b_no | exact isD.mk rfl | (apply eqG; (simp only [push_cast, ↓reduceIte, Nat.reduceEqDiff, Nat.reduceAdd, Nat.reduceLeDiff, Nat.reduceLT, Int.reduceLE, Int.reduceLT, Int.reduceAdd, Int.reduceSub, Int.reduceNeg, Int.reduceBEq, Int.reduceBNe, Int.reduceEq, Int.reduceGT, Int.reduceGE, Int.reduceMul, Int.reduceToNat, Nat.reduceMul, reduceCtorEq, hd] <;> rfl)) | exact (rfl : app (swap _ _) _ = _)))
  refine vr_nil (aw_then ?_)
  refine AWp.seq ?_
  refine AWp.seq ?_
  (refine aw_regionL hS (by kernel_rfl) ?_; repeat (first | apply vr0u | apply vr4 | apply b_tt | apply b_ff | apply b_tf | apply b_ft | apply b_no | exact isD.mk rfl | (apply eqG; (simp only [push_cast, ↓reduceIte, Nat.reduceEqDiff, Nat.reduceAdd, Nat.reduceLeDiff, Nat.reduceLT, Int.reduceLE, Int.reduceLT, Int.reduceAdd, Int.reduceSub, Int.reduceNeg, Int.reduceBEq, Int.reduceBNe, Int.reduceEq, Int.reduceGT, Int.reduceGE, Int.reduceMul, Int.reduceToNat, Nat.reduceMul, reduceCtorEq, hd] <;> rfl)) | exact (rfl : app (swap _ _) _ = _)))
  refine vr_nil (aw_then ?_)
  refine aw_split (by (simp only [push_cast, ↓reduceIte, Nat.reduceEqDiff, Nat.reduceAdd, Nat.reduceLeDiff, Nat.reduceLT, Int.reduceLE, Int.reduceLT, Int.reduceAdd, Int.reduceSub, Int.reduceNeg, Int.reduceBEq, Int.reduceBNe, Int.reduceEq, Int.reduceGT, Int.reduceGE, Int.reduceMul, Int.reduceToNat, Nat.reduceMul, reduceCtorEq, hd] <;> rfl)) (fun hu => ?_) (fun hu => ?_)
  · have hu := of_decide_eq_true hu
    have hu : 0 < r.armed := by omega
    have w1 : IntKind.wrap .i64 (r.armed - 1) = r.armed - 1 := IntWalk.i64_in _ (by omega)
    have F1 : RFacts (upd h d (some (.cells ({ r with armed := r.armed - 1 } : RW).row))) d { r with armed := r.armed - 1 } := F.set rfl rfl rfl rfl rfl rfl
    have hrow : ({ r with armed := r.armed - 1 } : RW).row = [.sl 1 r.jS 0 r.S.length, .sl 1 r.jT 0 r.T.length, r.wV, .b false, .i .i64 (r.armed - 1), .ro r.kz (bools r.keep) r.keep.length, .i .i64 r.tear] := by
      simp only [RW.row, hdo]; rfl
    rw [hrow] at F1
    have hL1 := F1.has
    generalize hg : upd h d (some (.cells [.sl 1 r.jS 0 r.S.length, .sl 1 r.jT 0 r.T.length, r.wV, .b false, .i .i64 (r.armed - 1), .ro r.kz (bools r.keep) r.keep.length, .i .i64 r.tear])) = g at F1 hL1
    have hgd : g d = some (.cells [.sl 1 r.jS 0 r.S.length, .sl 1 r.jT 0 r.T.length, r.wV, .b false, .i .i64 (r.armed - 1), .ro r.kz (bools r.keep) r.keep.length, .i .i64 r.tear]) := by rw [← hg, upd_same]
    have hgk : ∀ y x, y < n → h y = some x → y ∉ (r.cont d).keys → g y = some x := by
      rw [← hg]; exact keepX (.inr (RW.keys_iff.2 (.inl rfl))) keepX0
    refine AWp.seq ?_
    (refine aw_regionL hS (by kernel_rfl) ?_; repeat (first | apply vr0u | apply vr4 | apply b_tt | apply b_ff | apply b_tf | apply b_ft | apply b_no | exact isD.mk rfl | (apply eqG; (simp only [push_cast, ↓reduceIte, Nat.reduceEqDiff, Nat.reduceAdd, Nat.reduceLeDiff, Nat.reduceLT, Int.reduceLE, Int.reduceLT, Int.reduceAdd, Int.reduceSub, Int.reduceNeg, Int.reduceBEq, Int.reduceBNe, Int.reduceEq, Int.reduceGT, Int.reduceGE, Int.reduceMul, Int.reduceToNat, Nat.reduceMul, reduceCtorEq, hd, w1, hg, hgd] <;> rfl)) | exact (rfl : app (swap _ _) _ = _)))
    refine vr_nil (aw_then ?_)
    by_cases h1 : r.armed = 1
    · have q1 : (r.armed - 1 == 0) = true := by simp [h1]
      have ht : r.trips = (true, r.crash r.keep r.tear) := by unfold RW.trips; rw [if_pos hu, if_pos h1]
      rw [ht]
      have hr1 : ROk { r with armed := r.armed - 1 } := ⟨hr.len, hr.n0, hr.we, hr.s1, by show 0 ≤ r.armed - 1 ∧ r.armed - 1 ≤ _; omega, hr.kl, hr.wl⟩
      obtain ⟨S2, hS2, h29, -⟩ := sum_here hS (f := 29) (args := [.p d 0, .ro r.kz (bools r.keep) r.keep.length, .i .i64 r.tear]) (g := g) (r := .wide fun m => (.tup [], swap (({ r with armed := r.armed - 1 } : RW).cont d) ((r.crash r.keep r.tear).cont d), m)) (fun m => c29 hr1 hL1 hdo r.kz r.keep r.tear m)
      refine AWp.seq ?_
      (refine aw_regionL hS (by kernel_rfl) ?_; repeat (first | apply vr0u | apply vr4 | apply b_tt | apply b_ff | apply b_tf | apply b_ft | apply b_no | exact isD.mk rfl | (apply eqG; (simp only [push_cast, ↓reduceIte, Nat.reduceEqDiff, Nat.reduceAdd, Nat.reduceLeDiff, Nat.reduceLT, Int.reduceLE, Int.reduceLT, Int.reduceAdd, Int.reduceSub, Int.reduceNeg, Int.reduceBEq, Int.reduceBNe, Int.reduceEq, Int.reduceGT, Int.reduceGE, Int.reduceMul, Int.reduceToNat, Nat.reduceMul, reduceCtorEq, hd, w1, hg, hgd, q1, h29] <;> rfl)) | exact (rfl : app (swap _ _) _ = _)))
      refine vr_nil (aw_then ?_)
      refine aw_true (by (simp only [push_cast, ↓reduceIte, Nat.reduceEqDiff, Nat.reduceAdd, Nat.reduceLeDiff, Nat.reduceLT, Int.reduceLE, Int.reduceLT, Int.reduceAdd, Int.reduceSub, Int.reduceNeg, Int.reduceBEq, Int.reduceBNe, Int.reduceEq, Int.reduceGT, Int.reduceGE, Int.reduceMul, Int.reduceToNat, Nat.reduceMul, reduceCtorEq, hd, w1, hg, hgd, q1, h29] <;> rfl)) ?_
      refine AWp.seq ?_
      refine aw_drawsL [0, 0, 2, 6, 14, 0, 32, 96, 224, 511] [9] hS2 mixed (by kernel_rfl) (by kernel_rfl) ?_
      repeat (first | (refine vd0f (by decide) (by ((repeat (first | rewrite [hpL_t rfl] | rewrite [hpL_f rfl])); (simp only [hpL, app_cons, app_nil] <;> rfl))) (by (simp only [push_cast, ↓reduceIte, Nat.reduceEqDiff, Nat.reduceAdd, Nat.reduceLeDiff, Nat.reduceLT, Int.reduceLE, Int.reduceLT, Int.reduceAdd, Int.reduceSub, Int.reduceNeg, Int.reduceBEq, Int.reduceBNe, Int.reduceEq, Int.reduceGT, Int.reduceGE, Int.reduceMul, Int.reduceToNat, Nat.reduceMul, reduceCtorEq, hd, w1, hg, hgd, q1, h29] <;> rfl)) ?_) | (refine vd0q rfl (by decide) rfl (by ((repeat (first | rewrite [hpL_t rfl] | rewrite [hpL_f rfl])); (simp only [hpL, app_cons, app_nil] <;> rfl))) (by (simp only [push_cast, ↓reduceIte, Nat.reduceEqDiff, Nat.reduceAdd, Nat.reduceLeDiff, Nat.reduceLT, Int.reduceLE, Int.reduceLT, Int.reduceAdd, Int.reduceSub, Int.reduceNeg, Int.reduceBEq, Int.reduceBNe, Int.reduceEq, Int.reduceGT, Int.reduceGE, Int.reduceMul, Int.reduceToNat, Nat.reduceMul, reduceCtorEq, hd, w1, hg, hgd, q1, h29] <;> rfl)) (by simp) (by omega) (by intro u hu; simp only [List.mem_cons, List.not_mem_nil, or_false] at hu; rcases hu with rfl | rfl | rfl <;> simp only <;> omega) ?_) | (refine vd0w rfl (by decide) (by ((repeat (first | rewrite [hpL_t rfl] | rewrite [hpL_f rfl])); (simp only [hpL, app_cons, app_nil] <;> rfl))) (by (simp only [push_cast, ↓reduceIte, Nat.reduceEqDiff, Nat.reduceAdd, Nat.reduceLeDiff, Nat.reduceLT, Int.reduceLE, Int.reduceLT, Int.reduceAdd, Int.reduceSub, Int.reduceNeg, Int.reduceBEq, Int.reduceBNe, Int.reduceEq, Int.reduceGT, Int.reduceGE, Int.reduceMul, Int.reduceToNat, Nat.reduceMul, reduceCtorEq, hd, w1, hg, hgd, q1, h29] <;> rfl)) (by omega) (by intro u hu; simp only [List.mem_cons, List.not_mem_nil, or_false] at hu; rcases hu with rfl | rfl | rfl <;> simp only <;> omega) ?_) | (apply vd0; (focus rfl)) | (apply vd0r; (focus rfl); (focus decide); (focus rfl)) | (apply vd0p; (focus decide)) | apply vd4 | apply b_tt | apply b_ff | apply b_tf | apply b_ft | apply b_no | exact isD.mk rfl | ((repeat (first | rewrite [hpL_t rfl] | rewrite [hpL_f rfl])); (simp only [hpL, app_cons, app_nil] <;> rfl)) | (apply eqG; (simp only [push_cast, ↓reduceIte, Nat.reduceEqDiff, Nat.reduceAdd, Nat.reduceLeDiff, Nat.reduceLT, Int.reduceLE, Int.reduceLT, Int.reduceAdd, Int.reduceSub, Int.reduceNeg, Int.reduceBEq, Int.reduceBNe, Int.reduceEq, Int.reduceGT, Int.reduceGE, Int.reduceMul, Int.reduceToNat, Nat.reduceMul, reduceCtorEq, hd, w1, hg, hgd, q1, h29] <;> rfl)))
      refine vd0w rfl (by decide) (by ((repeat (first | rewrite [hpL_t rfl] | rewrite [hpL_f rfl])); (simp only [hpL, app_cons, app_nil] <;> rfl))) (by (simp only [push_cast, ↓reduceIte, Nat.reduceEqDiff, Nat.reduceAdd, Nat.reduceLeDiff, Nat.reduceLT, Int.reduceLE, Int.reduceLT, Int.reduceAdd, Int.reduceSub, Int.reduceNeg, Int.reduceBEq, Int.reduceBNe, Int.reduceEq, Int.reduceGT, Int.reduceGE, Int.reduceMul, Int.reduceToNat, Nat.reduceMul, reduceCtorEq, hd, w1, hg, hgd, q1, h29] <;> rfl)) (by omega) (swap_lt (fun j hj => by have := hlt j (RW.keys_eq rfl rfl rfl rfl hj); omega) (fun j hj => by have := hlt j (keysCrash hj); omega)) ?_
      repeat (first | (refine vd0f (by decide) (by ((repeat (first | rewrite [hpL_t rfl] | rewrite [hpL_f rfl])); (simp only [hpL, app_cons, app_nil] <;> rfl))) (by (simp only [push_cast, ↓reduceIte, Nat.reduceEqDiff, Nat.reduceAdd, Nat.reduceLeDiff, Nat.reduceLT, Int.reduceLE, Int.reduceLT, Int.reduceAdd, Int.reduceSub, Int.reduceNeg, Int.reduceBEq, Int.reduceBNe, Int.reduceEq, Int.reduceGT, Int.reduceGE, Int.reduceMul, Int.reduceToNat, Nat.reduceMul, reduceCtorEq, hd, w1, hg, hgd, q1, h29] <;> rfl)) ?_) | (refine vd0q rfl (by decide) rfl (by ((repeat (first | rewrite [hpL_t rfl] | rewrite [hpL_f rfl])); (simp only [hpL, app_cons, app_nil] <;> rfl))) (by (simp only [push_cast, ↓reduceIte, Nat.reduceEqDiff, Nat.reduceAdd, Nat.reduceLeDiff, Nat.reduceLT, Int.reduceLE, Int.reduceLT, Int.reduceAdd, Int.reduceSub, Int.reduceNeg, Int.reduceBEq, Int.reduceBNe, Int.reduceEq, Int.reduceGT, Int.reduceGE, Int.reduceMul, Int.reduceToNat, Nat.reduceMul, reduceCtorEq, hd, w1, hg, hgd, q1, h29] <;> rfl)) (by simp) (by omega) (by intro u hu; simp only [List.mem_cons, List.not_mem_nil, or_false] at hu; rcases hu with rfl | rfl | rfl <;> simp only <;> omega) ?_) | (refine vd0w rfl (by decide) (by ((repeat (first | rewrite [hpL_t rfl] | rewrite [hpL_f rfl])); (simp only [hpL, app_cons, app_nil] <;> rfl))) (by (simp only [push_cast, ↓reduceIte, Nat.reduceEqDiff, Nat.reduceAdd, Nat.reduceLeDiff, Nat.reduceLT, Int.reduceLE, Int.reduceLT, Int.reduceAdd, Int.reduceSub, Int.reduceNeg, Int.reduceBEq, Int.reduceBNe, Int.reduceEq, Int.reduceGT, Int.reduceGE, Int.reduceMul, Int.reduceToNat, Nat.reduceMul, reduceCtorEq, hd, w1, hg, hgd, q1, h29] <;> rfl)) (by omega) (by intro u hu; simp only [List.mem_cons, List.not_mem_nil, or_false] at hu; rcases hu with rfl | rfl | rfl <;> simp only <;> omega) ?_) | (apply vd0; (focus rfl)) | (apply vd0r; (focus rfl); (focus decide); (focus rfl)) | (apply vd0p; (focus decide)) | apply vd4 | apply b_tt | apply b_ff | apply b_tf | apply b_ft | apply b_no | exact isD.mk rfl | ((repeat (first | rewrite [hpL_t rfl] | rewrite [hpL_f rfl])); (simp only [hpL, app_cons, app_nil] <;> rfl)) | (apply eqG; (simp only [push_cast, ↓reduceIte, Nat.reduceEqDiff, Nat.reduceAdd, Nat.reduceLeDiff, Nat.reduceLT, Int.reduceLE, Int.reduceLT, Int.reduceAdd, Int.reduceSub, Int.reduceNeg, Int.reduceBEq, Int.reduceBNe, Int.reduceEq, Int.reduceGT, Int.reduceGE, Int.reduceMul, Int.reduceToNat, Nat.reduceMul, reduceCtorEq, hd, w1, hg, hgd, q1, h29] <;> rfl)))
      (refine vd_nil (by simp only [hpL, app_cons, app_nil, if_true] <;> rfl) ?_)
      refine aw_then ?_
      refine AWp.seq ?_
      refine aw_regionL hS2 (by kernel_rfl) ?_
      repeat (first | apply vr0u | apply vr4 | apply b_tt | apply b_ff | apply b_tf | apply b_ft | apply b_no | exact isD.mk rfl | (apply eqG; (simp only [push_cast, ↓reduceIte, Nat.reduceEqDiff, Nat.reduceAdd, Nat.reduceLeDiff, Nat.reduceLT, Int.reduceLE, Int.reduceLT, Int.reduceAdd, Int.reduceSub, Int.reduceNeg, Int.reduceBEq, Int.reduceBNe, Int.reduceEq, Int.reduceGT, Int.reduceGE, Int.reduceMul, Int.reduceToNat, Nat.reduceMul, reduceCtorEq, hd, w1, hg, hgd, q1, h29] <;> rfl)) | exact (rfl : app (swap _ _) _ = _))
      refine vr_nil (aw_then ?_)
      refine AWp.ret ?_
      refine Out.refd (r' := r.crash r.keep r.tear) (xs := [.b true]) (.inr rfl) (by simp [Try.f37, resAll, resT]; (simp only [push_cast, ↓reduceIte, Nat.reduceEqDiff, Nat.reduceAdd, Nat.reduceLeDiff, Nat.reduceLT, Int.reduceLE, Int.reduceLT, Int.reduceAdd, Int.reduceSub, Int.reduceNeg, Int.reduceBEq, Int.reduceBNe, Int.reduceEq, Int.reduceGT, Int.reduceGE, Int.reduceMul, Int.reduceToNat, Nat.reduceMul, reduceCtorEq, hd, w1, hg, hgd, q1, h29] <;> rfl)) rfl (Nat.le_refl _) (Nat.le_refl _) trivial hL hlt (RFacts.of (Has.swap _ (crashR_nodup F))) (fun j hj => .inl (keysCrash hj)) ?_
      exact keepXs (fun j hj => .inr (RW.keys_eq rfl rfl rfl rfl hj)) (fun j hj => .inr (keysCrash hj)) hgk
    · have q1 : (r.armed - 1 == 0) = false := by simp; omega
      have ht : r.trips = (false, { r with armed := r.armed - 1 }) := by unfold RW.trips; rw [if_pos hu, if_neg h1]
      rw [ht]
      refine AWp.seq ?_
      (refine aw_regionL hS (by kernel_rfl) ?_; repeat (first | apply vr0u | apply vr4 | apply b_tt | apply b_ff | apply b_tf | apply b_ft | apply b_no | exact isD.mk rfl | (apply eqG; (simp only [push_cast, ↓reduceIte, Nat.reduceEqDiff, Nat.reduceAdd, Nat.reduceLeDiff, Nat.reduceLT, Int.reduceLE, Int.reduceLT, Int.reduceAdd, Int.reduceSub, Int.reduceNeg, Int.reduceBEq, Int.reduceBNe, Int.reduceEq, Int.reduceGT, Int.reduceGE, Int.reduceMul, Int.reduceToNat, Nat.reduceMul, reduceCtorEq, hd, w1, hg, hgd, q1] <;> rfl)) | exact (rfl : app (swap _ _) _ = _)))
      refine vr_nil (aw_then ?_)
      refine aw_false (by (simp only [push_cast, ↓reduceIte, Nat.reduceEqDiff, Nat.reduceAdd, Nat.reduceLeDiff, Nat.reduceLT, Int.reduceLE, Int.reduceLT, Int.reduceAdd, Int.reduceSub, Int.reduceNeg, Int.reduceBEq, Int.reduceBNe, Int.reduceEq, Int.reduceGT, Int.reduceGE, Int.reduceMul, Int.reduceToNat, Nat.reduceMul, reduceCtorEq, hd, w1, hg, hgd, q1] <;> rfl)) (AWp.skip (aw_then ?_))
      refine AWp.seq ?_
      (refine aw_regionL hS (by kernel_rfl) ?_; repeat (first | apply vr0u | apply vr4 | apply b_tt | apply b_ff | apply b_tf | apply b_ft | apply b_no | exact isD.mk rfl | (apply eqG; (simp only [push_cast, ↓reduceIte, Nat.reduceEqDiff, Nat.reduceAdd, Nat.reduceLeDiff, Nat.reduceLT, Int.reduceLE, Int.reduceLT, Int.reduceAdd, Int.reduceSub, Int.reduceNeg, Int.reduceBEq, Int.reduceBNe, Int.reduceEq, Int.reduceGT, Int.reduceGE, Int.reduceMul, Int.reduceToNat, Nat.reduceMul, reduceCtorEq, hd, w1, hg, hgd, q1] <;> rfl)) | exact (rfl : app (swap _ _) _ = _)))
      refine vr_nil (aw_then ?_)
      refine AWp.ret ?_
      exact Out.refd (r' := { r with armed := r.armed - 1 }) (xs := [.b false]) (.inr rfl) (by simp [Try.f37, resAll, resT]; (simp only [push_cast, ↓reduceIte, Nat.reduceEqDiff, Nat.reduceAdd, Nat.reduceLeDiff, Nat.reduceLT, Int.reduceLE, Int.reduceLT, Int.reduceAdd, Int.reduceSub, Int.reduceNeg, Int.reduceBEq, Int.reduceBNe, Int.reduceEq, Int.reduceGT, Int.reduceGE, Int.reduceMul, Int.reduceToNat, Nat.reduceMul, reduceCtorEq, hd, w1, hg, hgd, q1] <;> rfl)) rfl (Nat.le_refl _) (Nat.le_refl _) trivial hL hlt F1 (fun j hj => .inl (RW.keys_eq rfl rfl rfl rfl hj)) hgk
  · have hu := of_decide_eq_false hu
    have ht : r.trips = (false, r) := by unfold RW.trips; rw [if_neg (by omega)]
    rw [ht]
    refine AWp.skip (aw_then ?_)
    refine AWp.seq ?_
    (refine aw_regionL hS (by kernel_rfl) ?_; repeat (first | apply vr0u | apply vr4 | apply b_tt | apply b_ff | apply b_tf | apply b_ft | apply b_no | exact isD.mk rfl | (apply eqG; (simp only [push_cast, ↓reduceIte, Nat.reduceEqDiff, Nat.reduceAdd, Nat.reduceLeDiff, Nat.reduceLT, Int.reduceLE, Int.reduceLT, Int.reduceAdd, Int.reduceSub, Int.reduceNeg, Int.reduceBEq, Int.reduceBNe, Int.reduceEq, Int.reduceGT, Int.reduceGE, Int.reduceMul, Int.reduceToNat, Nat.reduceMul, reduceCtorEq, hd] <;> rfl)) | exact (rfl : app (swap _ _) _ = _)))
    refine vr_nil (aw_then ?_)
    refine AWp.ret ?_
    exact Out.refd (r' := r) (xs := [.b false]) (.inr rfl) (by simp [Try.f37, resAll, resT]; (simp only [push_cast, ↓reduceIte, Nat.reduceEqDiff, Nat.reduceAdd, Nat.reduceLeDiff, Nat.reduceLT, Int.reduceLE, Int.reduceLT, Int.reduceAdd, Int.reduceSub, Int.reduceNeg, Int.reduceBEq, Int.reduceBNe, Int.reduceEq, Int.reduceGT, Int.reduceGE, Int.reduceMul, Int.reduceToNat, Nat.reduceMul, reduceCtorEq, hd] <;> rfl)) rfl (Nat.le_refl _) (Nat.le_refl _) trivial hL hlt F (fun j hj => .inl hj) keepX0
theorem tripsR_fact {h : Heap} {d : Nat} {r : RW} (F : RFacts h d r) : (∀ j, j ∈ (r.trips.2.cont d).keys → j ∈ (r.cont d).keys) ∧ (r.trips.2.cont d).keys.Nodup ∧ (r.trips.1 = false → r.trips.2 = { r with armed := r.trips.2.armed }) := by
  unfold RW.trips
  split
  · split
    · exact ⟨fun j hj => keysCrash hj, crashR_nodup F, fun hc => (nomatch hc)⟩
    · exact ⟨fun j hj => RW.keys_eq rfl rfl rfl rfl hj, F.has.2, fun _ => rfl⟩
  · exact ⟨fun j hj => hj, F.has.2, fun _ => rfl⟩

/-! ### Sync, on the page -/
def syncR (W : List (Nat × List UInt8)) (x : List (List UInt8) × List Bool) : Nat → List (List UInt8) × List Bool
  | 0 => x
  | k + 1 => match W[k]? with
    | some p => ((syncR W x k).1.set p.1 p.2, (syncR W x k).2.set p.1 false)
    | none => syncR W x k
theorem syncR_len {W : List (Nat × List UInt8)} {x : List (List UInt8) × List Bool} : ∀ k, (syncR W x k).1.length = x.1.length ∧ (syncR W x k).2.length = x.2.length
  | 0 => ⟨rfl, rfl⟩
  | k + 1 => by
    simp only [syncR]
    split
    · simp [syncR_len (W := W) (x := x) k]
    · exact syncR_len k
theorem syncR_at {W : List (Nat × List UInt8)} {x : List (List UInt8) × List Bool} {k : Nat} (hk : k < W.length) : syncR W x (k + 1) = ((syncR W x k).1.set W[k].1 W[k].2, (syncR W x k).2.set W[k].1 false) := by
  simp only [syncR, List.getElem?_eq_getElem hk]
theorem syncR_mem {W : List (Nat × List UInt8)} {x : List (List UInt8) × List Bool} {b : List UInt8} : ∀ k, b ∈ (syncR W x k).1 → b ∈ x.1 ∨ ∃ p, p ∈ W ∧ p.2 = b
  | 0, h => .inl h
  | k + 1, h => by
    simp only [syncR] at h
    split at h
    · rename_i p hp
      rcases List.mem_or_eq_of_mem_set h with h | h
      · exact syncR_mem k h
      · exact .inr ⟨p, List.mem_of_getElem? hp, h.symm⟩
    · exact syncR_mem k h
def RW.synced (r : RW) : RW := { r with S := (syncR r.W (r.S, r.T) r.W.length).1, T := (syncR r.W (r.S, r.T) r.W.length).2, W := [] }
def RW.sync (r : RW) : Int × RW := if r.down = true then (14, r) else if r.trips.1 = true then (14, r.trips.2) else (0, r.trips.2.synced)
theorem ROk.synced {r : RW} (hr : ROk r) : ROk r.synced := by
  have hl := syncR_len (W := r.W) (x := (r.S, r.T)) r.W.length
  refine ⟨by show (syncR _ _ _).2.length = (syncR _ _ _).1.length; rw [hl.1, hl.2]; exact hr.len, by show (syncR _ _ _).1.length ≤ 256; rw [hl.1]; exact hr.n0, fun p hp => (nomatch hp), fun b hb => ?_, hr.ar, hr.kl, Nat.zero_le _⟩
  rcases syncR_mem _ hb with h | ⟨p, hp, rfl⟩
  · exact hr.s1 b h
  · exact (hr.we p hp).2
theorem ROk.sync {r : RW} (hr : ROk r) : ROk r.sync.2 := by
  unfold RW.sync
  split
  · exact hr
  · split
    · exact hr.trips
    · exact hr.trips.synced
theorem syncedR_keys {d : Nat} {r : RW} {j : Nat} (hj : j ∈ (r.synced.cont d).keys) : j = d ∨ j = r.jS ∨ j = r.jT := by
  rw [RW.keys_iff] at hj
  simpa [RW.synced] using hj
theorem keysSynced {d : Nat} {r : RW} {j : Nat} (hj : j ∈ (r.synced.cont d).keys) : j ∈ (r.cont d).keys := by
  rcases syncedR_keys hj with rfl | rfl | rfl
  · exact RW.keys_iff.2 (.inl rfl)
  · exact RW.keys_iff.2 (.inr (.inl rfl))
  · exact RW.keys_iff.2 (.inr (.inr (.inl rfl)))
theorem syncedR_nodup {h : Heap} {d : Nat} {r : RW} (F : RFacts h d r) : (r.synced.cont d).keys.Nodup := by
  have h1 := F.dS
  have h2 := F.dT
  have h3 := F.ST
  simp only [RW.cont, Lst.keys, RW.synced, RW.wL, if_true, List.map_cons, List.map_nil, List.nodup_cons, List.mem_cons, List.not_mem_nil, or_false, not_or, not_false_eq_true, List.nodup_nil, and_true]
  omega
theorem c27 {h : Heap} {d : Nat} {r : RW} (hr : ROk r) (hL : Has h (r.cont d)) :
    ∀ n, DCalls Try.prog 27 [.p d 0] h n (.i .i64 r.sync.1) (swap (r.cont d) (r.sync.2.cont d)) n := by
  intro n
  have hS := SumOk.none (P := Try.prog)
  rcases has_any hL n with hlt | ⟨j, x, hj, hn⟩
  case inr => exact DCalls.vac ⟨_, Try.func27, rfl, by decide⟩ (Nat.le_refl _) hj hn
  have F := RFacts.of hL
  have hd := F.hd
  have hdn := hlt d (RW.keys_iff.2 (.inl rfl))
  have hsn := hlt r.jS (RW.keys_iff.2 (.inr (.inl rfl)))
  have htn := hlt r.jT (RW.keys_iff.2 (.inr (.inr (.inl rfl))))
  have n1 := F.dS
  have n2 := F.dT
  have n3 := F.ST
  simp only [RW.row] at hd
  refine DCalls.of Try.func27 rfl (by decide) (Nat.le_of_ble_eq_true rfl) (Nat.le_refl _) ?_
  by_cases hdo : r.down = true
  · rw [hdo] at hd
    have ht : r.sync = (14, r) := if_pos hdo
    rw [ht]
    refine AWp.seq ?_
    (refine aw_regionL hS (by kernel_rfl) ?_; repeat (first | apply vr0u | apply vr4 | apply b_tt | apply b_ff | apply b_tf | apply b_ft | apply b_no | exact isD.mk rfl | (apply eqG; (simp only [push_cast, ↓reduceIte, Nat.reduceEqDiff, Nat.reduceAdd, Nat.reduceLeDiff, Nat.reduceLT, Int.reduceLE, Int.reduceLT, Int.reduceAdd, Int.reduceSub, Int.reduceNeg, Int.reduceBEq, Int.reduceBNe, Int.reduceEq, Int.reduceGT, Int.reduceGE, Int.reduceMul, Int.reduceToNat, Nat.reduceMul, reduceCtorEq, hd] <;> rfl)) | exact (rfl : app (swap _ _) _ = _)))
    refine vr_nil (aw_then ?_)
    refine AWp.seq ?_
    refine AWp.seq ?_
    (refine aw_regionL hS (by kernel_rfl) ?_; repeat (first | apply vr0u | apply vr4 | apply b_tt | apply b_ff | apply b_tf | apply b_ft | apply b_no | exact isD.mk rfl | (apply eqG; (simp only [push_cast, ↓reduceIte, Nat.reduceEqDiff, Nat.reduceAdd, Nat.reduceLeDiff, Nat.reduceLT, Int.reduceLE, Int.reduceLT, Int.reduceAdd, Int.reduceSub, Int.reduceNeg, Int.reduceBEq, Int.reduceBNe, Int.reduceEq, Int.reduceGT, Int.reduceGE, Int.reduceMul, Int.reduceToNat, Nat.reduceMul, reduceCtorEq, hd] <;> rfl)) | exact (rfl : app (swap _ _) _ = _)))
    refine vr_nil (aw_then ?_)
    refine aw_true (by (simp only [push_cast, ↓reduceIte, Nat.reduceEqDiff, Nat.reduceAdd, Nat.reduceLeDiff, Nat.reduceLT, Int.reduceLE, Int.reduceLT, Int.reduceAdd, Int.reduceSub, Int.reduceNeg, Int.reduceBEq, Int.reduceBNe, Int.reduceEq, Int.reduceGT, Int.reduceGE, Int.reduceMul, Int.reduceToNat, Nat.reduceMul, reduceCtorEq, hd] <;> rfl)) ?_
    refine AWp.seq ?_
    (refine aw_regionL hS (by kernel_rfl) ?_; repeat (first | apply vr0u | apply vr4 | apply b_tt | apply b_ff | apply b_tf | apply b_ft | apply b_no | exact isD.mk rfl | (apply eqG; (simp only [push_cast, ↓reduceIte, Nat.reduceEqDiff, Nat.reduceAdd, Nat.reduceLeDiff, Nat.reduceLT, Int.reduceLE, Int.reduceLT, Int.reduceAdd, Int.reduceSub, Int.reduceNeg, Int.reduceBEq, Int.reduceBNe, Int.reduceEq, Int.reduceGT, Int.reduceGE, Int.reduceMul, Int.reduceToNat, Nat.reduceMul, reduceCtorEq, hd] <;> rfl)) | exact (rfl : app (swap _ _) _ = _)))
    refine vr_nil (aw_then ?_)
    refine AWp.ret ?_
    exact Out.refd (r' := r) (xs := [.i .i64 14]) (.inr rfl) (by simp [Try.f27, resAll, resT]; (simp only [push_cast, ↓reduceIte, Nat.reduceEqDiff, Nat.reduceAdd, Nat.reduceLeDiff, Nat.reduceLT, Int.reduceLE, Int.reduceLT, Int.reduceAdd, Int.reduceSub, Int.reduceNeg, Int.reduceBEq, Int.reduceBNe, Int.reduceEq, Int.reduceGT, Int.reduceGE, Int.reduceMul, Int.reduceToNat, Nat.reduceMul, reduceCtorEq, hd] <;> rfl)) rfl (Nat.le_refl _) (Nat.le_refl _) trivial hL hlt F (fun j hj => .inl hj) keepX0
  have hdo' : r.down = false := by simpa using hdo
  rw [hdo'] at hd
  obtain ⟨S2, hS2, h37, -⟩ := sum_here hS (f := 37) (args := [.p d 0]) (g := h) (r := .wide fun m => (.b r.trips.1, swap (r.cont d) (r.trips.2.cont d), m)) (fun m => c37 hr hL hdo' m)
  obtain ⟨k1, k2, k3⟩ := tripsR_fact F
  have F1 : RFacts (app (swap (r.cont d) (r.trips.2.cont d)) h) d r.trips.2 := RFacts.of (Has.swap h k2)
  have hgk : ∀ y x, y < n → h y = some x → y ∉ (r.cont d).keys → app (swap (r.cont d) (r.trips.2.cont d)) h y = some x := keepXs (fun j hj => .inr hj) (fun j hj => .inr (k1 j hj)) keepX0
  have hr1 := hr.trips
  refine AWp.seq ?_
  (refine aw_regionL hS (by kernel_rfl) ?_; repeat (first | apply vr0u | apply vr4 | apply b_tt | apply b_ff | apply b_tf | apply b_ft | apply b_no | exact isD.mk rfl | (apply eqG; (simp only [push_cast, ↓reduceIte, Nat.reduceEqDiff, Nat.reduceAdd, Nat.reduceLeDiff, Nat.reduceLT, Int.reduceLE, Int.reduceLT, Int.reduceAdd, Int.reduceSub, Int.reduceNeg, Int.reduceBEq, Int.reduceBNe, Int.reduceEq, Int.reduceGT, Int.reduceGE, Int.reduceMul, Int.reduceToNat, Nat.reduceMul, reduceCtorEq, hd, h37] <;> rfl)) | exact (rfl : app (swap _ _) _ = _)))
  refine vr_nil (aw_then ?_)
  refine AWp.seq ?_
  refine AWp.seq ?_
  refine aw_regionL hS2 (by kernel_rfl) ?_
  repeat (first | apply vr0u | apply vr4 | apply b_tt | apply b_ff | apply b_tf | apply b_ft | apply b_no | exact isD.mk rfl | (apply eqG; (simp only [push_cast, ↓reduceIte, Nat.reduceEqDiff, Nat.reduceAdd, Nat.reduceLeDiff, Nat.reduceLT, Int.reduceLE, Int.reduceLT, Int.reduceAdd, Int.reduceSub, Int.reduceNeg, Int.reduceBEq, Int.reduceBNe, Int.reduceEq, Int.reduceGT, Int.reduceGE, Int.reduceMul, Int.reduceToNat, Nat.reduceMul, reduceCtorEq, hd, h37] <;> rfl)) | exact (rfl : app (swap _ _) _ = _))
  refine vr_nil (aw_then ?_)
  refine aw_split (by (simp only [push_cast, ↓reduceIte, Nat.reduceEqDiff, Nat.reduceAdd, Nat.reduceLeDiff, Nat.reduceLT, Int.reduceLE, Int.reduceLT, Int.reduceAdd, Int.reduceSub, Int.reduceNeg, Int.reduceBEq, Int.reduceBNe, Int.reduceEq, Int.reduceGT, Int.reduceGE, Int.reduceMul, Int.reduceToNat, Nat.reduceMul, reduceCtorEq, hd, h37] <;> rfl)) (fun hu => ?_) (fun hu => ?_)
  · have ht : r.sync = (14, r.trips.2) := by unfold RW.sync; rw [if_neg hdo, if_pos hu]
    rw [ht]
    refine AWp.seq ?_
    (refine aw_regionL hS (by kernel_rfl) ?_; repeat (first | apply vr0u | apply vr4 | apply b_tt | apply b_ff | apply b_tf | apply b_ft | apply b_no | exact isD.mk rfl | (apply eqG; (simp only [push_cast, ↓reduceIte, Nat.reduceEqDiff, Nat.reduceAdd, Nat.reduceLeDiff, Nat.reduceLT, Int.reduceLE, Int.reduceLT, Int.reduceAdd, Int.reduceSub, Int.reduceNeg, Int.reduceBEq, Int.reduceBNe, Int.reduceEq, Int.reduceGT, Int.reduceGE, Int.reduceMul, Int.reduceToNat, Nat.reduceMul, reduceCtorEq, hd, h37] <;> rfl)) | exact (rfl : app (swap _ _) _ = _)))
    refine vr_nil (aw_then ?_)
    refine AWp.ret ?_
    exact Out.refd (r' := r.trips.2) (xs := [.i .i64 14]) (.inr rfl) (by simp [Try.f27, resAll, resT]; (simp only [push_cast, ↓reduceIte, Nat.reduceEqDiff, Nat.reduceAdd, Nat.reduceLeDiff, Nat.reduceLT, Int.reduceLE, Int.reduceLT, Int.reduceAdd, Int.reduceSub, Int.reduceNeg, Int.reduceBEq, Int.reduceBNe, Int.reduceEq, Int.reduceGT, Int.reduceGE, Int.reduceMul, Int.reduceToNat, Nat.reduceMul, reduceCtorEq, hd, h37] <;> rfl)) rfl (Nat.le_refl _) (Nat.le_refl _) trivial hL hlt F1 (fun j hj => .inl (k1 j hj)) hgk
  have ht : r.sync = (0, r.trips.2.synced) := by unfold RW.sync; rw [if_neg hdo, if_neg (by rw [hu]; simp)]
  rw [ht]
  refine AWp.skip (aw_then ?_)
  generalize app (swap (r.cont d) (r.trips.2.cont d)) h = g at F1 hgk ⊢
  generalize r.trips.2 = q at F1 hr1 k1 ⊢
  have hlq : ∀ j, j ∈ (q.cont d).keys → j < n := fun j hj => hlt j (k1 j hj)
  clear h37 hS2 ht k3 hu
  clear S2
  have hd := F1.hd
  simp only [RW.row] at hd
  have n1 := F1.dS
  have n2 := F1.dT
  have n3 := F1.ST
  have hsn := hlq q.jS (RW.keys_iff.2 (.inr (.inl rfl)))
  have htn := hlq q.jT (RW.keys_iff.2 (.inr (.inr (.inl rfl))))
  have hwl := hr1.wl
  have hn0 := hr1.n0
  refine AWp.cut (fun t' h' n' => t' 0 = .p d 0 ∧ n' = n ∧ h' q.jS = some (.cells (secsV (syncR q.W (q.S, q.T) q.W.length).1)) ∧ h' q.jT = some (.cells (bools (syncR q.W (q.S, q.T) q.W.length).2)) ∧ ∀ x r0, x < n → g x = some r0 → x ∉ [q.jS, q.jT] → h' x = some r0) ?_ ?_
  · refine AWp.seq ?_
    (refine aw_regionL hS (by kernel_rfl) ?_; repeat (first | apply vr0u | apply vr4 | apply b_tt | apply b_ff | apply b_tf | apply b_ft | apply b_no | exact isD.mk rfl | (apply eqG; (simp only [push_cast, ↓reduceIte, Nat.reduceEqDiff, Nat.reduceAdd, Nat.reduceLeDiff, Nat.reduceLT, Int.reduceLE, Int.reduceLT, Int.reduceAdd, Int.reduceSub, Int.reduceNeg, Int.reduceBEq, Int.reduceBNe, Int.reduceEq, Int.reduceGT, Int.reduceGE, Int.reduceMul, Int.reduceToNat, Nat.reduceMul, reduceCtorEq, hd] <;> rfl)) | exact (rfl : app (swap _ _) _ = _)))
    refine vr_nil (aw_then ?_)
    refine AWp.block ?_
    refine AWp.loop (fun m t' h' n' => ∃ k : Nat, m = q.W.length - k ∧ k ≤ q.W.length ∧ t' 0 = .p d 0 ∧ t' 3 = .i .i64 (k : Int) ∧ n' = n ∧ h' q.jS = some (.cells (secsV (syncR q.W (q.S, q.T) k).1)) ∧ h' q.jT = some (.cells (bools (syncR q.W (q.S, q.T) k).2)) ∧ ∀ x r0, x < n → g x = some r0 → x ∉ [q.jS, q.jT] → h' x = some r0) q.W.length ?_ ?_
    · exact ⟨0, rfl, Nat.zero_le _, by (simp only [push_cast, ↓reduceIte, Nat.reduceEqDiff, Nat.reduceAdd, Nat.reduceLeDiff, Nat.reduceLT, Int.reduceLE, Int.reduceLT, Int.reduceAdd, Int.reduceSub, Int.reduceNeg, Int.reduceBEq, Int.reduceBNe, Int.reduceEq, Int.reduceGT, Int.reduceGE, Int.reduceMul, Int.reduceToNat, Nat.reduceMul, reduceCtorEq, hd] <;> rfl), by (simp only [push_cast, ↓reduceIte, Nat.reduceEqDiff, Nat.reduceAdd, Nat.reduceLeDiff, Nat.reduceLT, Int.reduceLE, Int.reduceLT, Int.reduceAdd, Int.reduceSub, Int.reduceNeg, Int.reduceBEq, Int.reduceBNe, Int.reduceEq, Int.reduceGT, Int.reduceGE, Int.reduceMul, Int.reduceToNat, Nat.reduceMul, reduceCtorEq, hd] <;> rfl), rfl, F1.hS, F1.hT, keepX0⟩
    · rintro m t' h' n' - ⟨k, rfl, hkl, h0, h3, rfl, hrS, hrT, hk⟩
      have hd' := hk d _ hdn hd (by simp; omega)
      have hl' := syncR_len (W := q.W) (x := (q.S, q.T)) k
      by_cases hkk : k < q.W.length
      · have hW0 : q.W ≠ [] := fun e => by rw [e] at hkk; simp at hkk
        obtain ⟨e1, _⟩ := RW.w1 hW0
        obtain ⟨hjw, p1, p2, p3⟩ := F1.hW hW0
        have hpn := hlq q.jW (RW.keys_iff.2 (.inr (.inr (.inr ⟨hW0, rfl⟩))))
        have hw' := hk q.jW _ hpn hjw (by simp; omega)
        rw [e1] at hd'
        obtain ⟨q3, q4⟩ := wrC_at hkk
        have q1 : ((k : Int) < (q.W.length : Int)) = True := by simp [hkk]
        have q2 : (0 ≤ (k : Int) ∧ (k : Int) < (q.W.length : Int)) = True := by simp [hkk]
        have q5 : (k * 2 + 2 ≤ (wrC q.W).length) = True := by rw [wrC_len]; simp only [eq_iff_iff, iff_true]; omega
        have hcr := syncR_at (x := (q.S, q.T)) hkk
        obtain ⟨hpi, hpb⟩ := hr1.we _ (List.getElem_mem hkk)
        have hlen := hr1.len
        generalize q.W[k] = pk at *
        obtain ⟨i, b⟩ := pk
        simp only at hpi hpb q3 q4 hcr
        generalize syncR q.W (q.S, q.T) k = xk at *
        obtain ⟨Sk, Tk⟩ := xk
        simp only at hrS hrT hl' hcr
        obtain ⟨l1, l2⟩ := hl'
        have q6 : (0 ≤ (i : Int) ∧ (i : Int) < (q.S.length : Int)) = True := by simp [hpi]
        have q7 : (0 ≤ (i : Int) ∧ (i : Int) < (q.T.length : Int)) = True := by rw [hlen]; simp [hpi]
        have q8 : (i + 1 ≤ (secsV Sk).length) = True := by rw [secsV_len, l1]; simp only [eq_iff_iff, iff_true]; omega
        have q9 : (i + 1 ≤ (bools Tk).length) = True := by rw [len_bools, l2, hlen]; simp only [eq_iff_iff, iff_true]; omega
        have q10 := secsV_set Sk i b
        have q11 := fun y => bools_set Tk i y
        have u1 : ∀ (g : Heap) (x : Option Row), upd g q.jS x q.jT = g q.jT := fun g x => upd_ne _ _ (Ne.symm n3)
        have w1 : IntKind.wrap .i64 ((k : Int) + 1) = (k : Int) + 1 := IntWalk.i64_in _ (by omega)
        have kS : ∀ (g' : Heap) y, (∀ x r0, x < n' → g x = some r0 → x ∉ [q.jS, q.jT] → g' x = some r0) → (∀ x r0, x < n' → g x = some r0 → x ∉ [q.jS, q.jT] → upd g' q.jS y x = some r0) := fun g' y hg => keepX (.inr (by simp)) hg
        have kT : ∀ (g' : Heap) y, (∀ x r0, x < n' → g x = some r0 → x ∉ [q.jS, q.jT] → g' x = some r0) → (∀ x r0, x < n' → g x = some r0 → x ∉ [q.jS, q.jT] → upd g' q.jT y x = some r0) := fun g' y hg => keepX (.inr (by simp)) hg
        refine AWp.seq ?_
        refine AWp.seq ?_
        (refine aw_regionL hS (by kernel_rfl) ?_; repeat (first | apply vr0u | apply vr4 | apply b_tt | apply b_ff | apply b_tf | apply b_ft | apply b_no | exact isD.mk rfl | (apply eqG; (simp only [push_cast, ↓reduceIte, Nat.reduceEqDiff, Nat.reduceAdd, Nat.reduceLeDiff, Nat.reduceLT, Int.reduceLE, Int.reduceLT, Int.reduceAdd, Int.reduceSub, Int.reduceNeg, Int.reduceBEq, Int.reduceBNe, Int.reduceEq, Int.reduceGT, Int.reduceGE, Int.reduceMul, Int.reduceToNat, Nat.reduceMul, reduceCtorEq, h0, h3, hrS, hrT, hd', hw', q1, q2, q3, q4, q5, q6, q7, q8, q9, q10, q11, u1, w1] <;> rfl)) | exact (rfl : app (swap _ _) _ = _)))
        refine vr_nil (aw_then ?_)
        refine aw_true (by (simp only [push_cast, ↓reduceIte, Nat.reduceEqDiff, Nat.reduceAdd, Nat.reduceLeDiff, Nat.reduceLT, Int.reduceLE, Int.reduceLT, Int.reduceAdd, Int.reduceSub, Int.reduceNeg, Int.reduceBEq, Int.reduceBNe, Int.reduceEq, Int.reduceGT, Int.reduceGE, Int.reduceMul, Int.reduceToNat, Nat.reduceMul, reduceCtorEq, h0, h3, hrS, hrT, hd', hw', q1, q2, q3, q4, q5, q6, q7, q8, q9, q10, q11, u1, w1] <;> rfl)) (AWp.skip (aw_then ?_))
        refine AWp.seq ?_
        refine AWp.block ?_
        refine aw_drawsL [0, 1, 3, 7, 0, 16, 48, 112, 0, 496, 1008, 2032, 0, 4096, 12288, 28672, 0, 65536, 196608, 458752, 0, 2031616, 4128768, 8323072, 0, 16777216, 50331648, 117440512, 0, 520093696, 1056964608, 2130706432, 4294967295, 8589934591, 17179869183, 34359738367] [33, 35] hS mixed (by kernel_rfl) (by kernel_rfl) ?_
        repeat (first | (refine vd0f (by decide) (by ((repeat (first | rewrite [hpL_t rfl] | rewrite [hpL_f rfl])); (simp only [hpL, app_cons, app_nil] <;> rfl))) (by (simp only [push_cast, ↓reduceIte, Nat.reduceEqDiff, Nat.reduceAdd, Nat.reduceLeDiff, Nat.reduceLT, Int.reduceLE, Int.reduceLT, Int.reduceAdd, Int.reduceSub, Int.reduceNeg, Int.reduceBEq, Int.reduceBNe, Int.reduceEq, Int.reduceGT, Int.reduceGE, Int.reduceMul, Int.reduceToNat, Nat.reduceMul, reduceCtorEq, h0, h3, hrS, hrT, hd', hw', q1, q2, q3, q4, q5, q6, q7, q8, q9, q10, q11, u1, w1] <;> rfl)) ?_) | (refine vd0q rfl (by decide) rfl (by ((repeat (first | rewrite [hpL_t rfl] | rewrite [hpL_f rfl])); (simp only [hpL, app_cons, app_nil] <;> rfl))) (by (simp only [push_cast, ↓reduceIte, Nat.reduceEqDiff, Nat.reduceAdd, Nat.reduceLeDiff, Nat.reduceLT, Int.reduceLE, Int.reduceLT, Int.reduceAdd, Int.reduceSub, Int.reduceNeg, Int.reduceBEq, Int.reduceBNe, Int.reduceEq, Int.reduceGT, Int.reduceGE, Int.reduceMul, Int.reduceToNat, Nat.reduceMul, reduceCtorEq, h0, h3, hrS, hrT, hd', hw', q1, q2, q3, q4, q5, q6, q7, q8, q9, q10, q11, u1, w1] <;> rfl)) (by simp) (by omega) (by intro u hu; simp only [List.mem_cons, List.not_mem_nil, or_false] at hu; rcases hu with rfl | rfl | rfl <;> simp only <;> omega) ?_) | (refine vd0w rfl (by decide) (by ((repeat (first | rewrite [hpL_t rfl] | rewrite [hpL_f rfl])); (simp only [hpL, app_cons, app_nil] <;> rfl))) (by (simp only [push_cast, ↓reduceIte, Nat.reduceEqDiff, Nat.reduceAdd, Nat.reduceLeDiff, Nat.reduceLT, Int.reduceLE, Int.reduceLT, Int.reduceAdd, Int.reduceSub, Int.reduceNeg, Int.reduceBEq, Int.reduceBNe, Int.reduceEq, Int.reduceGT, Int.reduceGE, Int.reduceMul, Int.reduceToNat, Nat.reduceMul, reduceCtorEq, h0, h3, hrS, hrT, hd', hw', q1, q2, q3, q4, q5, q6, q7, q8, q9, q10, q11, u1, w1] <;> rfl)) (by omega) (by intro u hu; simp only [List.mem_cons, List.not_mem_nil, or_false] at hu; rcases hu with rfl | rfl | rfl <;> simp only <;> omega) ?_) | (apply vd0; (focus rfl)) | (apply vd0r; (focus rfl); (focus decide); (focus rfl)) | (apply vd0p; (focus decide)) | apply vd4 | apply b_tt | apply b_ff | apply b_tf | apply b_ft | apply b_no | exact isD.mk rfl | ((repeat (first | rewrite [hpL_t rfl] | rewrite [hpL_f rfl])); (simp only [hpL, app_cons, app_nil] <;> rfl)) | (apply eqG; (simp only [push_cast, ↓reduceIte, Nat.reduceEqDiff, Nat.reduceAdd, Nat.reduceLeDiff, Nat.reduceLT, Int.reduceLE, Int.reduceLT, Int.reduceAdd, Int.reduceSub, Int.reduceNeg, Int.reduceBEq, Int.reduceBNe, Int.reduceEq, Int.reduceGT, Int.reduceGE, Int.reduceMul, Int.reduceToNat, Nat.reduceMul, reduceCtorEq, h0, h3, hrS, hrT, hd', hw', q1, q2, q3, q4, q5, q6, q7, q8, q9, q10, q11, u1, w1] <;> rfl)))
        (refine vd_nil (by simp only [hpL, app_cons, app_nil, if_true] <;> rfl) ?_)
        refine aw_in (aw_then ?_)
        (refine aw_regionL hS (by kernel_rfl) ?_; repeat (first | apply vr0u | apply vr4 | apply b_tt | apply b_ff | apply b_tf | apply b_ft | apply b_no | exact isD.mk rfl | (apply eqG; (simp only [push_cast, ↓reduceIte, Nat.reduceEqDiff, Nat.reduceAdd, Nat.reduceLeDiff, Nat.reduceLT, Int.reduceLE, Int.reduceLT, Int.reduceAdd, Int.reduceSub, Int.reduceNeg, Int.reduceBEq, Int.reduceBNe, Int.reduceEq, Int.reduceGT, Int.reduceGE, Int.reduceMul, Int.reduceToNat, Nat.reduceMul, reduceCtorEq, h0, h3, hrS, hrT, hd', hw', q1, q2, q3, q4, q5, q6, q7, q8, q9, q10, q11, u1, w1] <;> rfl)) | exact (rfl : app (swap _ _) _ = _)))
        refine vr_nil (aw_then ⟨q.W.length - (k + 1), by omega, k + 1, rfl, hkk, by (simp only [push_cast, ↓reduceIte, Nat.reduceEqDiff, Nat.reduceAdd, Nat.reduceLeDiff, Nat.reduceLT, Int.reduceLE, Int.reduceLT, Int.reduceAdd, Int.reduceSub, Int.reduceNeg, Int.reduceBEq, Int.reduceBNe, Int.reduceEq, Int.reduceGT, Int.reduceGE, Int.reduceMul, Int.reduceToNat, Nat.reduceMul, reduceCtorEq, h0, h3, hrS, hrT, hd', hw', q1, q2, q3, q4, q5, q6, q7, q8, q9, q10, q11, u1, w1] <;> rfl), by (simp only [push_cast, ↓reduceIte, Nat.reduceEqDiff, Nat.reduceAdd, Nat.reduceLeDiff, Nat.reduceLT, Int.reduceLE, Int.reduceLT, Int.reduceAdd, Int.reduceSub, Int.reduceNeg, Int.reduceBEq, Int.reduceBNe, Int.reduceEq, Int.reduceGT, Int.reduceGE, Int.reduceMul, Int.reduceToNat, Nat.reduceMul, reduceCtorEq, h0, h3, hrS, hrT, hd', hw', q1, q2, q3, q4, q5, q6, q7, q8, q9, q10, q11, u1, w1] <;> rfl), rfl, ?_, ?_, kT _ _ (kS _ _ hk)⟩)
        · rw [hcr, upd_ne _ _ n3, upd_same]
        · rw [hcr, upd_same]
      · obtain rfl : k = q.W.length := by omega
        have q1 : ((q.W.length : Int) < (q.W.length : Int)) = False := by simp
        by_cases hW0 : q.W = []
        · rw [(RW.w0 hW0).1] at hd'
          have e0 : (q.W.length : Int) = 0 := by rw [hW0]; rfl
          rw [e0] at h3
          refine AWp.seq ?_
          refine AWp.seq ?_
          (refine aw_regionL hS (by kernel_rfl) ?_; repeat (first | apply vr0u | apply vr4 | apply b_tt | apply b_ff | apply b_tf | apply b_ft | apply b_no | exact isD.mk rfl | (apply eqG; (simp only [push_cast, ↓reduceIte, Nat.reduceEqDiff, Nat.reduceAdd, Nat.reduceLeDiff, Nat.reduceLT, Int.reduceLE, Int.reduceLT, Int.reduceAdd, Int.reduceSub, Int.reduceNeg, Int.reduceBEq, Int.reduceBNe, Int.reduceEq, Int.reduceGT, Int.reduceGE, Int.reduceMul, Int.reduceToNat, Nat.reduceMul, reduceCtorEq, h0, h3, hd'] <;> rfl)) | exact (rfl : app (swap _ _) _ = _)))
          refine vr_nil (aw_then ?_)
          refine aw_false (by (simp only [push_cast, ↓reduceIte, Nat.reduceEqDiff, Nat.reduceAdd, Nat.reduceLeDiff, Nat.reduceLT, Int.reduceLE, Int.reduceLT, Int.reduceAdd, Int.reduceSub, Int.reduceNeg, Int.reduceBEq, Int.reduceBNe, Int.reduceEq, Int.reduceGT, Int.reduceGE, Int.reduceMul, Int.reduceToNat, Nat.reduceMul, reduceCtorEq, h0, h3, hd'] <;> rfl)) (AWp.exit (aw_thru (aw_thru (aw_exit (aw_then ?_)))))
          exact ⟨by (simp only [push_cast, ↓reduceIte, Nat.reduceEqDiff, Nat.reduceAdd, Nat.reduceLeDiff, Nat.reduceLT, Int.reduceLE, Int.reduceLT, Int.reduceAdd, Int.reduceSub, Int.reduceNeg, Int.reduceBEq, Int.reduceBNe, Int.reduceEq, Int.reduceGT, Int.reduceGE, Int.reduceMul, Int.reduceToNat, Nat.reduceMul, reduceCtorEq, h0, h3, hd'] <;> rfl), rfl, hrS, hrT, hk⟩
        · rw [(RW.w1 hW0).1] at hd'
          refine AWp.seq ?_
          refine AWp.seq ?_
          (refine aw_regionL hS (by kernel_rfl) ?_; repeat (first | apply vr0u | apply vr4 | apply b_tt | apply b_ff | apply b_tf | apply b_ft | apply b_no | exact isD.mk rfl | (apply eqG; (simp only [push_cast, ↓reduceIte, Nat.reduceEqDiff, Nat.reduceAdd, Nat.reduceLeDiff, Nat.reduceLT, Int.reduceLE, Int.reduceLT, Int.reduceAdd, Int.reduceSub, Int.reduceNeg, Int.reduceBEq, Int.reduceBNe, Int.reduceEq, Int.reduceGT, Int.reduceGE, Int.reduceMul, Int.reduceToNat, Nat.reduceMul, reduceCtorEq, h0, h3, hd', q1] <;> rfl)) | exact (rfl : app (swap _ _) _ = _)))
          refine vr_nil (aw_then ?_)
          refine aw_false (by (simp only [push_cast, ↓reduceIte, Nat.reduceEqDiff, Nat.reduceAdd, Nat.reduceLeDiff, Nat.reduceLT, Int.reduceLE, Int.reduceLT, Int.reduceAdd, Int.reduceSub, Int.reduceNeg, Int.reduceBEq, Int.reduceBNe, Int.reduceEq, Int.reduceGT, Int.reduceGE, Int.reduceMul, Int.reduceToNat, Nat.reduceMul, reduceCtorEq, h0, h3, hd', q1] <;> rfl)) (AWp.exit (aw_thru (aw_thru (aw_exit (aw_then ?_)))))
          exact ⟨by (simp only [push_cast, ↓reduceIte, Nat.reduceEqDiff, Nat.reduceAdd, Nat.reduceLeDiff, Nat.reduceLT, Int.reduceLE, Int.reduceLT, Int.reduceAdd, Int.reduceSub, Int.reduceNeg, Int.reduceBEq, Int.reduceBNe, Int.reduceEq, Int.reduceGT, Int.reduceGE, Int.reduceMul, Int.reduceToNat, Nat.reduceMul, reduceCtorEq, h0, h3, hd', q1] <;> rfl), rfl, hrS, hrT, hk⟩
  · rintro t1 g1 m1 - ⟨t0, rfl, hrS, hrT, hk⟩
    have hd' := hk d _ hdn hd (by simp; omega)
    refine AWp.seq ?_
    (refine aw_regionL hS (by kernel_rfl) ?_; repeat (first | apply vr0u | apply vr4 | apply b_tt | apply b_ff | apply b_tf | apply b_ft | apply b_no | exact isD.mk rfl | (apply eqG; (simp only [push_cast, ↓reduceIte, Nat.reduceEqDiff, Nat.reduceAdd, Nat.reduceLeDiff, Nat.reduceLT, Int.reduceLE, Int.reduceLT, Int.reduceAdd, Int.reduceSub, Int.reduceNeg, Int.reduceBEq, Int.reduceBNe, Int.reduceEq, Int.reduceGT, Int.reduceGE, Int.reduceMul, Int.reduceToNat, Nat.reduceMul, reduceCtorEq, t0, hd'] <;> rfl)) | exact (rfl : app (swap _ _) _ = _)))
    refine vr_nil (aw_then ?_)
    refine AWp.seq ?_
    (refine aw_regionL hS (by kernel_rfl) ?_; repeat (first | apply vr0u | apply vr4 | apply b_tt | apply b_ff | apply b_tf | apply b_ft | apply b_no | exact isD.mk rfl | (apply eqG; (simp only [push_cast, ↓reduceIte, Nat.reduceEqDiff, Nat.reduceAdd, Nat.reduceLeDiff, Nat.reduceLT, Int.reduceLE, Int.reduceLT, Int.reduceAdd, Int.reduceSub, Int.reduceNeg, Int.reduceBEq, Int.reduceBNe, Int.reduceEq, Int.reduceGT, Int.reduceGE, Int.reduceMul, Int.reduceToNat, Nat.reduceMul, reduceCtorEq, t0, hd'] <;> rfl)) | exact (rfl : app (swap _ _) _ = _)))
    refine vr_nil (aw_then ?_)
    refine AWp.ret ?_
    have hl := syncR_len (W := q.W) (x := (q.S, q.T)) q.W.length
    have F' : RFacts (upd g1 d (some (.cells [.sl 1 q.jS 0 q.S.length, .sl 1 q.jT 0 q.T.length, .ro true [] 0, .b q.down, .i .i64 q.armed, .ro q.kz (bools q.keep) q.keep.length, .i .i64 q.tear]))) d q.synced := by
      refine ⟨?_, ?_, ?_, fun hc => absurd rfl hc, n1, n2, n3⟩
      · rw [upd_same]
        simp only [RW.row, RW.synced, hl.1, hl.2]
        rfl
      · show upd _ _ _ q.jS = _
        rw [upd_ne _ _ (Ne.symm n1)]; exact hrS
      · show upd _ _ _ q.jT = _
        rw [upd_ne _ _ (Ne.symm n2)]; exact hrT
    refine Out.refd (r' := q.synced) (xs := [.i .i64 0]) (.inr rfl) (by simp [Try.f27, resAll, resT]; (simp only [push_cast, ↓reduceIte, Nat.reduceEqDiff, Nat.reduceAdd, Nat.reduceLeDiff, Nat.reduceLT, Int.reduceLE, Int.reduceLT, Int.reduceAdd, Int.reduceSub, Int.reduceNeg, Int.reduceBEq, Int.reduceBNe, Int.reduceEq, Int.reduceGT, Int.reduceGE, Int.reduceMul, Int.reduceToNat, Nat.reduceMul, reduceCtorEq, t0, hd'] <;> rfl)) rfl (Nat.le_refl _) (Nat.le_refl _) trivial hL hlt F' (fun j hj => .inl (k1 j (keysSynced hj))) ?_
    refine keepX (.inr (RW.keys_iff.2 (.inl rfl))) fun x r0 hx hx0 hnx => ?_
    refine hk x r0 hx (hgk x r0 hx hx0 hnx) fun hm => hnx (k1 x ?_)
    rw [RW.keys_iff]
    simp at hm
    rcases hm with rfl | rfl
    · exact .inr (.inl rfl)
    · exact .inr (.inr (.inl rfl))

end Go.Proofs.Ytepfknnffooaiaa
