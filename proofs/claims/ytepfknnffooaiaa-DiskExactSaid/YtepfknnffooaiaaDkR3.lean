import Derived.Test.YtepfknnffooaiaaDkR2

namespace Go.Proofs.Ytepfknnffooaiaa
open Go.Av
set_option maxRecDepth 100000
set_option maxHeartbeats 1000000
set_option linter.unusedSimpArgs false
set_option linter.unusedVariables false
attribute [local push_cast] stepE callR resE aeff aev ofC ofC1 put_at Av.put_none inTmps List.getD_cons_zero List.getD_cons_succ AV.boxable if_true if_false AV.cells aload place app_cons app_nil upd_same Av.part abin aconv aindexAddr fillA splice_one abuiltin alen amax amin aun aindex Option.map_some Option.isSome_some List.map_cons List.map_nil List.nil_append List.append_nil List.cons_append Nat.le_refl Nat.zero_add Nat.add_zero List.length_cons List.length_nil List.drop_succ_cons List.drop_zero List.take_succ_cons List.take_zero beq_self_eq_true bne_self_eq_false Bool.not_true Bool.not_false List.set_cons_zero List.set_cons_succ Bool.false_eq_true IntWalk.i64_in decide_true decide_false Int.toNat_zero and_self and_true true_and List.getElem?_cons_zero List.getElem?_cons_succ aappend aapp view Bool.and_true Bool.true_and Nat.mul_one Option.map_none aslice asliceB nilOp Int.toNat_natCast und_30 agT_3 szT_3 kiT_3 agT_4 szT_4 kiT_4 agT_5 szT_5 kiT_5 agT_25 szT_25 kiT_25 agT_28 szT_28 kiT_28 agT_22 szT_22 kiT_22 agT_23 szT_23 kiT_23 agT_30 szT_30 kiT_30 agT_37 szT_37 kiT_37 agT_38 szT_38 kiT_38 agT_52 szT_52 kiT_52 agT_53 szT_53 kiT_53 agT_24 szT_24 kiT_24 agT_54 szT_54 kiT_54 agT_47 szT_47 kiT_47 slT_22 slT_23 slT_30 slT_37 slT_38 slT_52 slT_53 zeT_3 zeT_4 zeT_5 zeT_30 flT_56_0 flT_56_1 flT_56_2 flT_56_3 flT_56_4 agT_56 szT_56 buT_56 zeT_56 flT_58_0 flT_58_1 agT_58 szT_58 buT_58 zeT_58 flT_62_0 flT_62_1 agT_62 szT_62 buT_62 zeT_62 flT_65_0 flT_65_1 flT_65_2 agT_65 szT_65 buT_65 zeT_65 flT_42_0 flT_42_1 flT_42_2 flT_42_3 flT_42_4 flT_42_5 agT_42 szT_42 buT_42 zeT_42 flT_68_0 flT_68_1 flT_68_2 flT_68_3 flT_68_4 flT_68_5 flT_68_6 agT_68 szT_68 buT_68 zeT_68 ptT_24 ptT_54 ptT_47 und_30 agT_66 szT_66 kiT_66 slT_66 flT_73_0 flT_73_1 agT_73 szT_73 buT_73 zeT_73 

/-! ### the power goes, on the page -/
def crashR1 (keep : List Bool) (torn : Int) (k i : Nat) (b : List UInt8) (x : List (List UInt8) × List Bool) : List (List UInt8) × List Bool := if (k : Int) = torn then (x.1, x.2.set i true) else if keep[k]? = some true then (x.1.set i b, x.2.set i false) else x
def crashR (W : List (Nat × List UInt8)) (keep : List Bool) (torn : Int) (x : List (List UInt8) × List Bool) : Nat → List (List UInt8) × List Bool
  | 0 => x
  | k + 1 => match W[k]? with
    | some p => crashR1 keep torn k p.1 p.2 (crashR W keep torn x k)
    | none => crashR W keep torn x k
theorem crashR1_len {keep : List Bool} {torn : Int} {k i : Nat} {b : List UInt8} {x : List (List UInt8) × List Bool} : (crashR1 keep torn k i b x).1.length = x.1.length ∧ (crashR1 keep torn k i b x).2.length = x.2.length := by
  unfold crashR1
  split
  · simp
  · split <;> simp
theorem crashR_len {W : List (Nat × List UInt8)} {keep : List Bool} {torn : Int} {x : List (List UInt8) × List Bool} : ∀ k, (crashR W keep torn x k).1.length = x.1.length ∧ (crashR W keep torn x k).2.length = x.2.length
  | 0 => ⟨rfl, rfl⟩
  | k + 1 => by
    simp only [crashR]
    split
    · rw [crashR1_len.1, crashR1_len.2]; exact crashR_len k
    · exact crashR_len k
theorem crashR_at {W : List (Nat × List UInt8)} {keep : List Bool} {torn : Int} {x : List (List UInt8) × List Bool} {k : Nat} (hk : k < W.length) : crashR W keep torn x (k + 1) = crashR1 keep torn k W[k].1 W[k].2 (crashR W keep torn x k) := by
  simp only [crashR, List.getElem?_eq_getElem hk]
theorem crashR_mem {W : List (Nat × List UInt8)} {keep : List Bool} {torn : Int} {x : List (List UInt8) × List Bool} {b : List UInt8} : ∀ k, b ∈ (crashR W keep torn x k).1 → b ∈ x.1 ∨ ∃ p, p ∈ W ∧ p.2 = b
  | 0, h => .inl h
  | k + 1, h => by
    simp only [crashR] at h
    split at h
    · rename_i p hp
      unfold crashR1 at h
      split at h
      · exact crashR_mem k h
      · split at h
        · rcases List.mem_or_eq_of_mem_set h with h | h
          · exact crashR_mem k h
          · exact .inr ⟨p, List.mem_of_getElem? hp, h.symm⟩
        · exact crashR_mem k h
    · exact crashR_mem k h
def RW.crash (r : RW) (keep : List Bool) (torn : Int) : RW := { r with S := (crashR r.W keep torn (r.S, r.T) r.W.length).1, T := (crashR r.W keep torn (r.S, r.T) r.W.length).2, W := [], down := true, armed := 0, kz := true, keep := [] }
theorem ROk.crash {r : RW} (hr : ROk r) (keep : List Bool) (torn : Int) : ROk (r.crash keep torn) := by
  have hl := crashR_len (W := r.W) (keep := keep) (torn := torn) (x := (r.S, r.T)) r.W.length
  refine ⟨by show (crashR _ _ _ _ _).2.length = (crashR _ _ _ _ _).1.length; rw [hl.1, hl.2]; exact hr.len, by show (crashR _ _ _ _ _).1.length ≤ 256; rw [hl.1]; exact hr.n0, fun p hp => (nomatch hp), fun b hb => ?_, ⟨Int.le_refl _, by show (0 : Int) ≤ _; decide⟩, Nat.zero_le _, Nat.zero_le _⟩
  rcases crashR_mem _ hb with h | ⟨p, hp, rfl⟩
  · exact hr.s1 b h
  · exact (hr.we p hp).2
theorem crashR_keys {d : Nat} {r : RW} {keep : List Bool} {torn : Int} {j : Nat} : j ∈ ((r.crash keep torn).cont d).keys ↔ j = d ∨ j = r.jS ∨ j = r.jT := by
  rw [RW.keys_iff]; simp [RW.crash]
theorem c29off {h : Heap} {d : Nat} {r : RW} (hL : Has h (r.cont d)) (hdo : r.down = true) (k : AV) (torn : Int) : ∀ n, DCalls Try.prog 29 [.p d 0, k, .i .i64 torn] h n (.tup []) [] n := by
  intro n
  have hS := SumOk.none (P := Try.prog)
  have hd := (RFacts.of hL).hd
  simp only [RW.row, hdo] at hd
  refine DCalls.of Try.func29 rfl (by decide) (Nat.le_of_ble_eq_true rfl) (Nat.le_refl _) ?_
  refine AWp.seq ?_
  refine AWp.seq ?_
  (refine aw_regionL hS (by kernel_rfl) ?_; repeat (first | apply vr0u | apply vr4 | apply b_tt | apply b_ff | apply b_tf | apply b_ft | apply b_no | exact isD.mk rfl | (apply eqG; (simp only [push_cast, ↓reduceIte, Nat.reduceEqDiff, Nat.reduceAdd, Nat.reduceLeDiff, Nat.reduceLT, Int.reduceLE, Int.reduceLT, Int.reduceAdd, Int.reduceSub, Int.reduceNeg, Int.reduceBEq, Int.reduceBNe, Int.reduceEq, Int.reduceGT, Int.reduceGE, Int.reduceMul, Int.reduceToNat, Nat.reduceMul, reduceCtorEq, hd] <;> rfl)) | exact (rfl : app (swap _ _) _ = _)))
  refine vr_nil (aw_then ?_)
  refine aw_true (by (simp only [push_cast, ↓reduceIte, Nat.reduceEqDiff, Nat.reduceAdd, Nat.reduceLeDiff, Nat.reduceLT, Int.reduceLE, Int.reduceLT, Int.reduceAdd, Int.reduceSub, Int.reduceNeg, Int.reduceBEq, Int.reduceBNe, Int.reduceEq, Int.reduceGT, Int.reduceGE, Int.reduceMul, Int.reduceToNat, Nat.reduceMul, reduceCtorEq, hd] <;> rfl)) ?_
  refine AWp.ret ?_
  exact Out.pure (xs := []) (.inr rfl) rfl rfl trivial keep0
theorem c29 {h : Heap} {d : Nat} {r : RW} (hr : ROk r) (hL : Has h (r.cont d)) (hdo : r.down = false) (z : Bool) (keep : List Bool) (torn : Int) :
    ∀ n, DCalls Try.prog 29 [.p d 0, .ro z (bools keep) keep.length, .i .i64 torn] h n (.tup []) (swap (r.cont d) ((r.crash keep torn).cont d)) n := by
  intro n
  have hS := SumOk.none (P := Try.prog)
  rcases has_any hL n with hlt | ⟨j, x, hj, hn⟩
  case inr => exact DCalls.vac ⟨_, Try.func29, rfl, by decide⟩ (Nat.le_refl _) hj hn
  have F := RFacts.of hL
  have hd := F.hd
  have hdn := hlt d (RW.keys_iff.2 (.inl rfl))
  have hsn := hlt r.jS (RW.keys_iff.2 (.inr (.inl rfl)))
  have htn := hlt r.jT (RW.keys_iff.2 (.inr (.inr (.inl rfl))))
  have n1 := F.dS
  have n2 := F.dT
  have n3 := F.ST
  simp only [RW.row] at hd
  refine DCalls.of Try.func29 rfl (by decide) (Nat.le_of_ble_eq_true rfl) (Nat.le_refl _) ?_
  rw [hdo] at hd
  have hwl := hr.wl
  have hn0 := hr.n0
  refine AWp.seq ?_
  refine AWp.seq ?_
  (refine aw_regionL hS (by kernel_rfl) ?_; repeat (first | apply vr0u | apply vr4 | apply b_tt | apply b_ff | apply b_tf | apply b_ft | apply b_no | exact isD.mk rfl | (apply eqG; (simp only [push_cast, ↓reduceIte, Nat.reduceEqDiff, Nat.reduceAdd, Nat.reduceLeDiff, Nat.reduceLT, Int.reduceLE, Int.reduceLT, Int.reduceAdd, Int.reduceSub, Int.reduceNeg, Int.reduceBEq, Int.reduceBNe, Int.reduceEq, Int.reduceGT, Int.reduceGE, Int.reduceMul, Int.reduceToNat, Nat.reduceMul, reduceCtorEq, hd] <;> rfl)) | exact (rfl : app (swap _ _) _ = _)))
  refine vr_nil (aw_then ?_)
  refine aw_false (by (simp only [push_cast, ↓reduceIte, Nat.reduceEqDiff, Nat.reduceAdd, Nat.reduceLeDiff, Nat.reduceLT, Int.reduceLE, Int.reduceLT, Int.reduceAdd, Int.reduceSub, Int.reduceNeg, Int.reduceBEq, Int.reduceBNe, Int.reduceEq, Int.reduceGT, Int.reduceGE, Int.reduceMul, Int.reduceToNat, Nat.reduceMul, reduceCtorEq, hd] <;> rfl)) (AWp.skip (aw_then ?_))
  refine AWp.cut (fun t' h' n' => t' 0 = .p d 0 ∧ n' = n ∧ h' r.jS = some (.cells (secsV (crashR r.W keep torn (r.S, r.T) r.W.length).1)) ∧ h' r.jT = some (.cells (bools (crashR r.W keep torn (r.S, r.T) r.W.length).2)) ∧ ∀ x r0, x < n → h x = some r0 → x ∉ [r.jS, r.jT] → h' x = some r0) ?_ ?_
  · refine AWp.seq ?_
    (refine aw_regionL hS (by kernel_rfl) ?_; repeat (first | apply vr0u | apply vr4 | apply b_tt | apply b_ff | apply b_tf | apply b_ft | apply b_no | exact isD.mk rfl | (apply eqG; (simp only [push_cast, ↓reduceIte, Nat.reduceEqDiff, Nat.reduceAdd, Nat.reduceLeDiff, Nat.reduceLT, Int.reduceLE, Int.reduceLT, Int.reduceAdd, Int.reduceSub, Int.reduceNeg, Int.reduceBEq, Int.reduceBNe, Int.reduceEq, Int.reduceGT, Int.reduceGE, Int.reduceMul, Int.reduceToNat, Nat.reduceMul, reduceCtorEq, hd] <;> rfl)) | exact (rfl : app (swap _ _) _ = _)))
    refine vr_nil (aw_then ?_)
    refine AWp.block ?_
    refine AWp.loop (fun m t' h' n' => ∃ k : Nat, m = r.W.length - k ∧ k ≤ r.W.length ∧ t' 0 = .p d 0 ∧ t' 1 = .ro z (bools keep) keep.length ∧ t' 2 = .i .i64 torn ∧ t' 6 = .i .i64 (k : Int) ∧ n' = n ∧ h' r.jS = some (.cells (secsV (crashR r.W keep torn (r.S, r.T) k).1)) ∧ h' r.jT = some (.cells (bools (crashR r.W keep torn (r.S, r.T) k).2)) ∧ ∀ x r0, x < n → h x = some r0 → x ∉ [r.jS, r.jT] → h' x = some r0) r.W.length ?_ ?_
    · exact ⟨0, rfl, Nat.zero_le _, by (simp only [push_cast, ↓reduceIte, Nat.reduceEqDiff, Nat.reduceAdd, Nat.reduceLeDiff, Nat.reduceLT, Int.reduceLE, Int.reduceLT, Int.reduceAdd, Int.reduceSub, Int.reduceNeg, Int.reduceBEq, Int.reduceBNe, Int.reduceEq, Int.reduceGT, Int.reduceGE, Int.reduceMul, Int.reduceToNat, Nat.reduceMul, reduceCtorEq, hd] <;> rfl), by (simp only [push_cast, ↓reduceIte, Nat.reduceEqDiff, Nat.reduceAdd, Nat.reduceLeDiff, Nat.reduceLT, Int.reduceLE, Int.reduceLT, Int.reduceAdd, Int.reduceSub, Int.reduceNeg, Int.reduceBEq, Int.reduceBNe, Int.reduceEq, Int.reduceGT, Int.reduceGE, Int.reduceMul, Int.reduceToNat, Nat.reduceMul, reduceCtorEq, hd] <;> rfl), by (simp only [push_cast, ↓reduceIte, Nat.reduceEqDiff, Nat.reduceAdd, Nat.reduceLeDiff, Nat.reduceLT, Int.reduceLE, Int.reduceLT, Int.reduceAdd, Int.reduceSub, Int.reduceNeg, Int.reduceBEq, Int.reduceBNe, Int.reduceEq, Int.reduceGT, Int.reduceGE, Int.reduceMul, Int.reduceToNat, Nat.reduceMul, reduceCtorEq, hd] <;> rfl), by (simp only [push_cast, ↓reduceIte, Nat.reduceEqDiff, Nat.reduceAdd, Nat.reduceLeDiff, Nat.reduceLT, Int.reduceLE, Int.reduceLT, Int.reduceAdd, Int.reduceSub, Int.reduceNeg, Int.reduceBEq, Int.reduceBNe, Int.reduceEq, Int.reduceGT, Int.reduceGE, Int.reduceMul, Int.reduceToNat, Nat.reduceMul, reduceCtorEq, hd] <;> rfl), rfl, F.hS, F.hT, keepX0⟩
    · rintro m t' h' n' - ⟨k, rfl, hkl, h0, h1, h2, h6, rfl, hrS, hrT, hk⟩
      have hd' := hk d _ hdn hd (by simp; omega)
      have hl' := crashR_len (W := r.W) (keep := keep) (torn := torn) (x := (r.S, r.T)) k
      by_cases hkk : k < r.W.length
      · have hW0 : r.W ≠ [] := fun e => by rw [e] at hkk; simp at hkk
        obtain ⟨e1, _⟩ := RW.w1 hW0
        obtain ⟨hjw, p1, p2, p3⟩ := F.hW hW0
        have hpn := hlt r.jW (RW.keys_iff.2 (.inr (.inr (.inr ⟨hW0, rfl⟩))))
        have hw' := hk r.jW _ hpn hjw (by simp; omega)
        rw [e1] at hd'
        obtain ⟨q3, q4⟩ := wrC_at hkk
        have q1 : ((k : Int) < (r.W.length : Int)) = True := by simp [hkk]
        have q2 : (0 ≤ (k : Int) ∧ (k : Int) < (r.W.length : Int)) = True := by simp [hkk]
        have q5 : (k * 2 + 2 ≤ (wrC r.W).length) = True := by rw [wrC_len]; simp only [eq_iff_iff, iff_true]; omega
        have hcr := crashR_at (keep := keep) (torn := torn) (x := (r.S, r.T)) hkk
        obtain ⟨hpi, hpb⟩ := hr.we _ (List.getElem_mem hkk)
        have hlen := hr.len
        generalize r.W[k] = pk at *
        obtain ⟨i, b⟩ := pk
        simp only at hpi hpb q3 q4 hcr
        generalize crashR r.W keep torn (r.S, r.T) k = xk at *
        obtain ⟨Sk, Tk⟩ := xk
        simp only at hrS hrT hl'
        obtain ⟨l1, l2⟩ := hl'
        have q6 : (0 ≤ (i : Int) ∧ (i : Int) < (r.S.length : Int)) = True := by simp [hpi]
        have q7 : (0 ≤ (i : Int) ∧ (i : Int) < (r.T.length : Int)) = True := by rw [hlen]; simp [hpi]
        have q8 : (i + 1 ≤ (secsV Sk).length) = True := by rw [secsV_len, l1]; simp only [eq_iff_iff, iff_true]; omega
        have q9 : (i + 1 ≤ (bools Tk).length) = True := by rw [len_bools, l2, hlen]; simp only [eq_iff_iff, iff_true]; omega
        have q10 := secsV_set Sk i b
        have q11 := fun y => bools_set Tk i y
        have u1 : ∀ (g : Heap) (x : Option Row), upd g r.jS x r.jT = g r.jT := fun g x => upd_ne _ _ (Ne.symm n3)
        have w1 : IntKind.wrap .i64 ((k : Int) + 1) = (k : Int) + 1 := IntWalk.i64_in _ (by omega)
        have kS : ∀ (g : Heap) y, (∀ x r0, x < n' → h x = some r0 → x ∉ [r.jS, r.jT] → g x = some r0) → (∀ x r0, x < n' → h x = some r0 → x ∉ [r.jS, r.jT] → upd g r.jS y x = some r0) := fun g y hg => keepX (.inr (by simp)) hg
        have kT : ∀ (g : Heap) y, (∀ x r0, x < n' → h x = some r0 → x ∉ [r.jS, r.jT] → g x = some r0) → (∀ x r0, x < n' → h x = some r0 → x ∉ [r.jS, r.jT] → upd g r.jT y x = some r0) := fun g y hg => keepX (.inr (by simp)) hg
        refine AWp.seq ?_
        refine AWp.seq ?_
        (refine aw_regionL hS (by kernel_rfl) ?_; repeat (first | apply vr0u | apply vr4 | apply b_tt | apply b_ff | apply b_tf | apply b_ft | apply b_no | exact isD.mk rfl | (apply eqG; (simp only [push_cast, ↓reduceIte, Nat.reduceEqDiff, Nat.reduceAdd, Nat.reduceLeDiff, Nat.reduceLT, Int.reduceLE, Int.reduceLT, Int.reduceAdd, Int.reduceSub, Int.reduceNeg, Int.reduceBEq, Int.reduceBNe, Int.reduceEq, Int.reduceGT, Int.reduceGE, Int.reduceMul, Int.reduceToNat, Nat.reduceMul, reduceCtorEq, h0, h1, h2, h6, hrS, hrT, hd', hw', q1, q2, q3, q4, q5, q6, q7, q8, q9, q10, q11, u1, w1] <;> rfl)) | exact (rfl : app (swap _ _) _ = _)))
        refine vr_nil (aw_then ?_)
        refine aw_true (by (simp only [push_cast, ↓reduceIte, Nat.reduceEqDiff, Nat.reduceAdd, Nat.reduceLeDiff, Nat.reduceLT, Int.reduceLE, Int.reduceLT, Int.reduceAdd, Int.reduceSub, Int.reduceNeg, Int.reduceBEq, Int.reduceBNe, Int.reduceEq, Int.reduceGT, Int.reduceGE, Int.reduceMul, Int.reduceToNat, Nat.reduceMul, reduceCtorEq, h0, h1, h2, h6, hrS, hrT, hd', hw', q1, q2, q3, q4, q5, q6, q7, q8, q9, q10, q11, u1, w1] <;> rfl)) (AWp.skip (aw_then ?_))
        refine AWp.seq ?_
        refine AWp.block ?_
        refine AWp.block ?_
        refine AWp.seq ?_
        (refine aw_regionL hS (by kernel_rfl) ?_; repeat (first | apply vr0u | apply vr4 | apply b_tt | apply b_ff | apply b_tf | apply b_ft | apply b_no | exact isD.mk rfl | (apply eqG; (simp only [push_cast, ↓reduceIte, Nat.reduceEqDiff, Nat.reduceAdd, Nat.reduceLeDiff, Nat.reduceLT, Int.reduceLE, Int.reduceLT, Int.reduceAdd, Int.reduceSub, Int.reduceNeg, Int.reduceBEq, Int.reduceBNe, Int.reduceEq, Int.reduceGT, Int.reduceGE, Int.reduceMul, Int.reduceToNat, Nat.reduceMul, reduceCtorEq, h0, h1, h2, h6, hrS, hrT, hd', hw', q1, q2, q3, q4, q5, q6, q7, q8, q9, q10, q11, u1, w1] <;> rfl)) | exact (rfl : app (swap _ _) _ = _)))
        refine vr_nil (aw_then ?_)
        refine aw_split (by (simp only [push_cast, ↓reduceIte, Nat.reduceEqDiff, Nat.reduceAdd, Nat.reduceLeDiff, Nat.reduceLT, Int.reduceLE, Int.reduceLT, Int.reduceAdd, Int.reduceSub, Int.reduceNeg, Int.reduceBEq, Int.reduceBNe, Int.reduceEq, Int.reduceGT, Int.reduceGE, Int.reduceMul, Int.reduceToNat, Nat.reduceMul, reduceCtorEq, h0, h1, h2, h6, hrS, hrT, hd', hw', q1, q2, q3, q4, q5, q6, q7, q8, q9, q10, q11, u1, w1] <;> rfl)) (fun hu => ?_) (fun hu => ?_)
        · have hu : (k : Int) = torn := by simpa using hu
          refine aw_drawsL [0, 1, 3, 7, 0, 16, 48, 112, 0, 496, 1008, 2032, 4095, 8191] [13] hS mixed (by kernel_rfl) (by kernel_rfl) ?_
          repeat (first | (refine vd0f (by decide) (by ((repeat (first | rewrite [hpL_t rfl] | rewrite [hpL_f rfl])); (simp only [hpL, app_cons, app_nil] <;> rfl))) (by (simp only [push_cast, ↓reduceIte, Nat.reduceEqDiff, Nat.reduceAdd, Nat.reduceLeDiff, Nat.reduceLT, Int.reduceLE, Int.reduceLT, Int.reduceAdd, Int.reduceSub, Int.reduceNeg, Int.reduceBEq, Int.reduceBNe, Int.reduceEq, Int.reduceGT, Int.reduceGE, Int.reduceMul, Int.reduceToNat, Nat.reduceMul, reduceCtorEq, h0, h1, h2, h6, hrS, hrT, hd', hw', q1, q2, q3, q4, q5, q6, q7, q8, q9, q10, q11, u1, w1] <;> rfl)) ?_) | (refine vd0q rfl (by decide) rfl (by ((repeat (first | rewrite [hpL_t rfl] | rewrite [hpL_f rfl])); (simp only [hpL, app_cons, app_nil] <;> rfl))) (by (simp only [push_cast, ↓reduceIte, Nat.reduceEqDiff, Nat.reduceAdd, Nat.reduceLeDiff, Nat.reduceLT, Int.reduceLE, Int.reduceLT, Int.reduceAdd, Int.reduceSub, Int.reduceNeg, Int.reduceBEq, Int.reduceBNe, Int.reduceEq, Int.reduceGT, Int.reduceGE, Int.reduceMul, Int.reduceToNat, Nat.reduceMul, reduceCtorEq, h0, h1, h2, h6, hrS, hrT, hd', hw', q1, q2, q3, q4, q5, q6, q7, q8, q9, q10, q11, u1, w1] <;> rfl)) (by simp) (by omega) (by intro u hu; simp only [List.mem_cons, List.not_mem_nil, or_false] at hu; rcases hu with rfl | rfl | rfl <;> simp only <;> omega) ?_) | (refine vd0w rfl (by decide) (by ((repeat (first | rewrite [hpL_t rfl] | rewrite [hpL_f rfl])); (simp only [hpL, app_cons, app_nil] <;> rfl))) (by (simp only [push_cast, ↓reduceIte, Nat.reduceEqDiff, Nat.reduceAdd, Nat.reduceLeDiff, Nat.reduceLT, Int.reduceLE, Int.reduceLT, Int.reduceAdd, Int.reduceSub, Int.reduceNeg, Int.reduceBEq, Int.reduceBNe, Int.reduceEq, Int.reduceGT, Int.reduceGE, Int.reduceMul, Int.reduceToNat, Nat.reduceMul, reduceCtorEq, h0, h1, h2, h6, hrS, hrT, hd', hw', q1, q2, q3, q4, q5, q6, q7, q8, q9, q10, q11, u1, w1] <;> rfl)) (by omega) (by intro u hu; simp only [List.mem_cons, List.not_mem_nil, or_false] at hu; rcases hu with rfl | rfl | rfl <;> simp only <;> omega) ?_) | (apply vd0; (focus rfl)) | (apply vd0r; (focus rfl); (focus decide); (focus rfl)) | (apply vd0p; (focus decide)) | apply vd4 | apply b_tt | apply b_ff | apply b_tf | apply b_ft | apply b_no | exact isD.mk rfl | ((repeat (first | rewrite [hpL_t rfl] | rewrite [hpL_f rfl])); (simp only [hpL, app_cons, app_nil] <;> rfl)) | (apply eqG; (simp only [push_cast, ↓reduceIte, Nat.reduceEqDiff, Nat.reduceAdd, Nat.reduceLeDiff, Nat.reduceLT, Int.reduceLE, Int.reduceLT, Int.reduceAdd, Int.reduceSub, Int.reduceNeg, Int.reduceBEq, Int.reduceBNe, Int.reduceEq, Int.reduceGT, Int.reduceGE, Int.reduceMul, Int.reduceToNat, Nat.reduceMul, reduceCtorEq, h0, h1, h2, h6, hrS, hrT, hd', hw', q1, q2, q3, q4, q5, q6, q7, q8, q9, q10, q11, u1, w1] <;> rfl)))
          (refine vd_nil (by simp only [hpL, app_cons, app_nil, if_true] <;> rfl) ?_)
          refine aw_in (aw_in (aw_then ?_))
          (refine aw_regionL hS (by kernel_rfl) ?_; repeat (first | apply vr0u | apply vr4 | apply b_tt | apply b_ff | apply b_tf | apply b_ft | apply b_no | exact isD.mk rfl | (apply eqG; (simp only [push_cast, ↓reduceIte, Nat.reduceEqDiff, Nat.reduceAdd, Nat.reduceLeDiff, Nat.reduceLT, Int.reduceLE, Int.reduceLT, Int.reduceAdd, Int.reduceSub, Int.reduceNeg, Int.reduceBEq, Int.reduceBNe, Int.reduceEq, Int.reduceGT, Int.reduceGE, Int.reduceMul, Int.reduceToNat, Nat.reduceMul, reduceCtorEq, h0, h1, h2, h6, hrS, hrT, hd', hw', q1, q2, q3, q4, q5, q6, q7, q8, q9, q10, q11, u1, w1] <;> rfl)) | exact (rfl : app (swap _ _) _ = _)))
          refine vr_nil (aw_then ⟨r.W.length - (k + 1), by omega, k + 1, rfl, hkk, by (simp only [push_cast, ↓reduceIte, Nat.reduceEqDiff, Nat.reduceAdd, Nat.reduceLeDiff, Nat.reduceLT, Int.reduceLE, Int.reduceLT, Int.reduceAdd, Int.reduceSub, Int.reduceNeg, Int.reduceBEq, Int.reduceBNe, Int.reduceEq, Int.reduceGT, Int.reduceGE, Int.reduceMul, Int.reduceToNat, Nat.reduceMul, reduceCtorEq, h0, h1, h2, h6, hrS, hrT, hd', hw', q1, q2, q3, q4, q5, q6, q7, q8, q9, q10, q11, u1, w1] <;> rfl), by (simp only [push_cast, ↓reduceIte, Nat.reduceEqDiff, Nat.reduceAdd, Nat.reduceLeDiff, Nat.reduceLT, Int.reduceLE, Int.reduceLT, Int.reduceAdd, Int.reduceSub, Int.reduceNeg, Int.reduceBEq, Int.reduceBNe, Int.reduceEq, Int.reduceGT, Int.reduceGE, Int.reduceMul, Int.reduceToNat, Nat.reduceMul, reduceCtorEq, h0, h1, h2, h6, hrS, hrT, hd', hw', q1, q2, q3, q4, q5, q6, q7, q8, q9, q10, q11, u1, w1] <;> rfl), by (simp only [push_cast, ↓reduceIte, Nat.reduceEqDiff, Nat.reduceAdd, Nat.reduceLeDiff, Nat.reduceLT, Int.reduceLE, Int.reduceLT, Int.reduceAdd, Int.reduceSub, Int.reduceNeg, Int.reduceBEq, Int.reduceBNe, Int.reduceEq, Int.reduceGT, Int.reduceGE, Int.reduceMul, Int.reduceToNat, Nat.reduceMul, reduceCtorEq, h0, h1, h2, h6, hrS, hrT, hd', hw', q1, q2, q3, q4, q5, q6, q7, q8, q9, q10, q11, u1, w1] <;> rfl), by (simp only [push_cast, ↓reduceIte, Nat.reduceEqDiff, Nat.reduceAdd, Nat.reduceLeDiff, Nat.reduceLT, Int.reduceLE, Int.reduceLT, Int.reduceAdd, Int.reduceSub, Int.reduceNeg, Int.reduceBEq, Int.reduceBNe, Int.reduceEq, Int.reduceGT, Int.reduceGE, Int.reduceMul, Int.reduceToNat, Nat.reduceMul, reduceCtorEq, h0, h1, h2, h6, hrS, hrT, hd', hw', q1, q2, q3, q4, q5, q6, q7, q8, q9, q10, q11, u1, w1] <;> rfl), rfl, ?_, ?_, kT _ _ hk⟩)
          · rw [hcr, crashR1, if_pos hu, upd_ne _ _ n3]; exact hrS
          · rw [hcr, crashR1, if_pos hu, upd_same]
        · have hu : ¬ (k : Int) = torn := by simpa using hu
          refine AWp.seq ?_
          by_cases hv : k < keep.length
          · have y1 : ((k : Int) < (keep.length : Int)) = True := by simp [hv]
            have y2 : (0 ≤ (k : Int) ∧ (k : Int) < (keep.length : Int)) = True := by simp [hv]
            have y3 := bools_get hv
            (refine aw_regionL hS (by kernel_rfl) ?_; repeat (first | apply vr0u | apply vr4 | apply b_tt | apply b_ff | apply b_tf | apply b_ft | apply b_no | exact isD.mk rfl | (apply eqG; (simp only [push_cast, ↓reduceIte, Nat.reduceEqDiff, Nat.reduceAdd, Nat.reduceLeDiff, Nat.reduceLT, Int.reduceLE, Int.reduceLT, Int.reduceAdd, Int.reduceSub, Int.reduceNeg, Int.reduceBEq, Int.reduceBNe, Int.reduceEq, Int.reduceGT, Int.reduceGE, Int.reduceMul, Int.reduceToNat, Nat.reduceMul, reduceCtorEq, h0, h1, h2, h6, hrS, hrT, hd', hw', q1, q2, q3, q4, q5, q6, q7, q8, q9, q10, q11, u1, w1, y1, y2, y3] <;> rfl)) | exact (rfl : app (swap _ _) _ = _)))
            refine vr_nil (aw_then ?_)
            refine aw_split (by (simp only [push_cast, ↓reduceIte, Nat.reduceEqDiff, Nat.reduceAdd, Nat.reduceLeDiff, Nat.reduceLT, Int.reduceLE, Int.reduceLT, Int.reduceAdd, Int.reduceSub, Int.reduceNeg, Int.reduceBEq, Int.reduceBNe, Int.reduceEq, Int.reduceGT, Int.reduceGE, Int.reduceMul, Int.reduceToNat, Nat.reduceMul, reduceCtorEq, h0, h1, h2, h6, hrS, hrT, hd', hw', q1, q2, q3, q4, q5, q6, q7, q8, q9, q10, q11, u1, w1, y1, y2, y3] <;> rfl)) (fun hx => ?_) (fun hx => ?_)
            · refine aw_drawsL [0, 1, 3, 7, 0, 16, 48, 112, 0, 496, 1008, 2032, 0, 4096, 12288, 28672, 0, 65536, 196608, 458752, 0, 2031616, 4128768, 8323072, 0, 16777216, 50331648, 117440512, 0, 520093696, 1056964608, 2130706432, 4294967295, 8589934591, 17179869183, 34359738367] [33, 35] hS mixed (by kernel_rfl) (by kernel_rfl) ?_
              repeat (first | (refine vd0f (by decide) (by ((repeat (first | rewrite [hpL_t rfl] | rewrite [hpL_f rfl])); (simp only [hpL, app_cons, app_nil] <;> rfl))) (by (simp only [push_cast, ↓reduceIte, Nat.reduceEqDiff, Nat.reduceAdd, Nat.reduceLeDiff, Nat.reduceLT, Int.reduceLE, Int.reduceLT, Int.reduceAdd, Int.reduceSub, Int.reduceNeg, Int.reduceBEq, Int.reduceBNe, Int.reduceEq, Int.reduceGT, Int.reduceGE, Int.reduceMul, Int.reduceToNat, Nat.reduceMul, reduceCtorEq, h0, h1, h2, h6, hrS, hrT, hd', hw', q1, q2, q3, q4, q5, q6, q7, q8, q9, q10, q11, u1, w1, y1, y2, y3] <;> rfl)) ?_) | (refine vd0q rfl (by decide) rfl (by ((repeat (first | rewrite [hpL_t rfl] | rewrite [hpL_f rfl])); (simp only [hpL, app_cons, app_nil] <;> rfl))) (by (simp only [push_cast, ↓reduceIte, Nat.reduceEqDiff, Nat.reduceAdd, Nat.reduceLeDiff, Nat.reduceLT, Int.reduceLE, Int.reduceLT, Int.reduceAdd, Int.reduceSub, Int.reduceNeg, Int.reduceBEq, Int.reduceBNe, Int.reduceEq, Int.reduceGT, Int.reduceGE, Int.reduceMul, Int.reduceToNat, Nat.reduceMul, reduceCtorEq, h0, h1, h2, h6, hrS, hrT, hd', hw', q1, q2, q3, q4, q5, q6, q7, q8, q9, q10, q11, u1, w1, y1, y2, y3] <;> rfl)) (by simp) (by omega) (by intro u hu; simp only [List.mem_cons, List.not_mem_nil, or_false] at hu; rcases hu with rfl | rfl | rfl <;> simp only <;> omega) ?_) | (refine vd0w rfl (by decide) (by ((repeat (first | rewrite [hpL_t rfl] | rewrite [hpL_f rfl])); (simp only [hpL, app_cons, app_nil] <;> rfl))) (by (simp only [push_cast, ↓reduceIte, Nat.reduceEqDiff, Nat.reduceAdd, Nat.reduceLeDiff, Nat.reduceLT, Int.reduceLE, Int.reduceLT, Int.reduceAdd, Int.reduceSub, Int.reduceNeg, Int.reduceBEq, Int.reduceBNe, Int.reduceEq, Int.reduceGT, Int.reduceGE, Int.reduceMul, Int.reduceToNat, Nat.reduceMul, reduceCtorEq, h0, h1, h2, h6, hrS, hrT, hd', hw', q1, q2, q3, q4, q5, q6, q7, q8, q9, q10, q11, u1, w1, y1, y2, y3] <;> rfl)) (by omega) (by intro u hu; simp only [List.mem_cons, List.not_mem_nil, or_false] at hu; rcases hu with rfl | rfl | rfl <;> simp only <;> omega) ?_) | (apply vd0; (focus rfl)) | (apply vd0r; (focus rfl); (focus decide); (focus rfl)) | (apply vd0p; (focus decide)) | apply vd4 | apply b_tt | apply b_ff | apply b_tf | apply b_ft | apply b_no | exact isD.mk rfl | ((repeat (first | rewrite [hpL_t rfl] | rewrite [hpL_f rfl])); (simp only [hpL, app_cons, app_nil] <;> rfl)) | (apply eqG; (simp only [push_cast, ↓reduceIte, Nat.reduceEqDiff, Nat.reduceAdd, Nat.reduceLeDiff, Nat.reduceLT, Int.reduceLE, Int.reduceLT, Int.reduceAdd, Int.reduceSub, Int.reduceNeg, Int.reduceBEq, Int.reduceBNe, Int.reduceEq, Int.reduceGT, Int.reduceGE, Int.reduceMul, Int.reduceToNat, Nat.reduceMul, reduceCtorEq, h0, h1, h2, h6, hrS, hrT, hd', hw', q1, q2, q3, q4, q5, q6, q7, q8, q9, q10, q11, u1, w1, y1, y2, y3] <;> rfl)))
              (refine vd_nil (by simp only [hpL, app_cons, app_nil, if_true] <;> rfl) ?_)
              refine aw_in (aw_in (aw_then ?_))
              (refine aw_regionL hS (by kernel_rfl) ?_; repeat (first | apply vr0u | apply vr4 | apply b_tt | apply b_ff | apply b_tf | apply b_ft | apply b_no | exact isD.mk rfl | (apply eqG; (simp only [push_cast, ↓reduceIte, Nat.reduceEqDiff, Nat.reduceAdd, Nat.reduceLeDiff, Nat.reduceLT, Int.reduceLE, Int.reduceLT, Int.reduceAdd, Int.reduceSub, Int.reduceNeg, Int.reduceBEq, Int.reduceBNe, Int.reduceEq, Int.reduceGT, Int.reduceGE, Int.reduceMul, Int.reduceToNat, Nat.reduceMul, reduceCtorEq, h0, h1, h2, h6, hrS, hrT, hd', hw', q1, q2, q3, q4, q5, q6, q7, q8, q9, q10, q11, u1, w1, y1, y2, y3] <;> rfl)) | exact (rfl : app (swap _ _) _ = _)))
              refine vr_nil (aw_then ⟨r.W.length - (k + 1), by omega, k + 1, rfl, hkk, by (simp only [push_cast, ↓reduceIte, Nat.reduceEqDiff, Nat.reduceAdd, Nat.reduceLeDiff, Nat.reduceLT, Int.reduceLE, Int.reduceLT, Int.reduceAdd, Int.reduceSub, Int.reduceNeg, Int.reduceBEq, Int.reduceBNe, Int.reduceEq, Int.reduceGT, Int.reduceGE, Int.reduceMul, Int.reduceToNat, Nat.reduceMul, reduceCtorEq, h0, h1, h2, h6, hrS, hrT, hd', hw', q1, q2, q3, q4, q5, q6, q7, q8, q9, q10, q11, u1, w1, y1, y2, y3] <;> rfl), by (simp only [push_cast, ↓reduceIte, Nat.reduceEqDiff, Nat.reduceAdd, Nat.reduceLeDiff, Nat.reduceLT, Int.reduceLE, Int.reduceLT, Int.reduceAdd, Int.reduceSub, Int.reduceNeg, Int.reduceBEq, Int.reduceBNe, Int.reduceEq, Int.reduceGT, Int.reduceGE, Int.reduceMul, Int.reduceToNat, Nat.reduceMul, reduceCtorEq, h0, h1, h2, h6, hrS, hrT, hd', hw', q1, q2, q3, q4, q5, q6, q7, q8, q9, q10, q11, u1, w1, y1, y2, y3] <;> rfl), by (simp only [push_cast, ↓reduceIte, Nat.reduceEqDiff, Nat.reduceAdd, Nat.reduceLeDiff, Nat.reduceLT, Int.reduceLE, Int.reduceLT, Int.reduceAdd, Int.reduceSub, Int.reduceNeg, Int.reduceBEq, Int.reduceBNe, Int.reduceEq, Int.reduceGT, Int.reduceGE, Int.reduceMul, Int.reduceToNat, Nat.reduceMul, reduceCtorEq, h0, h1, h2, h6, hrS, hrT, hd', hw', q1, q2, q3, q4, q5, q6, q7, q8, q9, q10, q11, u1, w1, y1, y2, y3] <;> rfl), by (simp only [push_cast, ↓reduceIte, Nat.reduceEqDiff, Nat.reduceAdd, Nat.reduceLeDiff, Nat.reduceLT, Int.reduceLE, Int.reduceLT, Int.reduceAdd, Int.reduceSub, Int.reduceNeg, Int.reduceBEq, Int.reduceBNe, Int.reduceEq, Int.reduceGT, Int.reduceGE, Int.reduceMul, Int.reduceToNat, Nat.reduceMul, reduceCtorEq, h0, h1, h2, h6, hrS, hrT, hd', hw', q1, q2, q3, q4, q5, q6, q7, q8, q9, q10, q11, u1, w1, y1, y2, y3] <;> rfl), rfl, ?_, ?_, kT _ _ (kS _ _ hk)⟩)
              · rw [hcr, crashR1, if_neg hu, if_pos (by rw [List.getElem?_eq_getElem hv, hx]), upd_ne _ _ n3, upd_same]
              · rw [hcr, crashR1, if_neg hu, if_pos (by rw [List.getElem?_eq_getElem hv, hx]), upd_same]
            · refine AWp.skip (aw_in (aw_in (aw_then ?_)))
              (refine aw_regionL hS (by kernel_rfl) ?_; repeat (first | apply vr0u | apply vr4 | apply b_tt | apply b_ff | apply b_tf | apply b_ft | apply b_no | exact isD.mk rfl | (apply eqG; (simp only [push_cast, ↓reduceIte, Nat.reduceEqDiff, Nat.reduceAdd, Nat.reduceLeDiff, Nat.reduceLT, Int.reduceLE, Int.reduceLT, Int.reduceAdd, Int.reduceSub, Int.reduceNeg, Int.reduceBEq, Int.reduceBNe, Int.reduceEq, Int.reduceGT, Int.reduceGE, Int.reduceMul, Int.reduceToNat, Nat.reduceMul, reduceCtorEq, h0, h1, h2, h6, hrS, hrT, hd', hw', q1, q2, q3, q4, q5, q6, q7, q8, q9, q10, q11, u1, w1, y1, y2, y3] <;> rfl)) | exact (rfl : app (swap _ _) _ = _)))
              refine vr_nil (aw_then ⟨r.W.length - (k + 1), by omega, k + 1, rfl, hkk, by (simp only [push_cast, ↓reduceIte, Nat.reduceEqDiff, Nat.reduceAdd, Nat.reduceLeDiff, Nat.reduceLT, Int.reduceLE, Int.reduceLT, Int.reduceAdd, Int.reduceSub, Int.reduceNeg, Int.reduceBEq, Int.reduceBNe, Int.reduceEq, Int.reduceGT, Int.reduceGE, Int.reduceMul, Int.reduceToNat, Nat.reduceMul, reduceCtorEq, h0, h1, h2, h6, hrS, hrT, hd', hw', q1, q2, q3, q4, q5, q6, q7, q8, q9, q10, q11, u1, w1, y1, y2, y3] <;> rfl), by (simp only [push_cast, ↓reduceIte, Nat.reduceEqDiff, Nat.reduceAdd, Nat.reduceLeDiff, Nat.reduceLT, Int.reduceLE, Int.reduceLT, Int.reduceAdd, Int.reduceSub, Int.reduceNeg, Int.reduceBEq, Int.reduceBNe, Int.reduceEq, Int.reduceGT, Int.reduceGE, Int.reduceMul, Int.reduceToNat, Nat.reduceMul, reduceCtorEq, h0, h1, h2, h6, hrS, hrT, hd', hw', q1, q2, q3, q4, q5, q6, q7, q8, q9, q10, q11, u1, w1, y1, y2, y3] <;> rfl), by (simp only [push_cast, ↓reduceIte, Nat.reduceEqDiff, Nat.reduceAdd, Nat.reduceLeDiff, Nat.reduceLT, Int.reduceLE, Int.reduceLT, Int.reduceAdd, Int.reduceSub, Int.reduceNeg, Int.reduceBEq, Int.reduceBNe, Int.reduceEq, Int.reduceGT, Int.reduceGE, Int.reduceMul, Int.reduceToNat, Nat.reduceMul, reduceCtorEq, h0, h1, h2, h6, hrS, hrT, hd', hw', q1, q2, q3, q4, q5, q6, q7, q8, q9, q10, q11, u1, w1, y1, y2, y3] <;> rfl), by (simp only [push_cast, ↓reduceIte, Nat.reduceEqDiff, Nat.reduceAdd, Nat.reduceLeDiff, Nat.reduceLT, Int.reduceLE, Int.reduceLT, Int.reduceAdd, Int.reduceSub, Int.reduceNeg, Int.reduceBEq, Int.reduceBNe, Int.reduceEq, Int.reduceGT, Int.reduceGE, Int.reduceMul, Int.reduceToNat, Nat.reduceMul, reduceCtorEq, h0, h1, h2, h6, hrS, hrT, hd', hw', q1, q2, q3, q4, q5, q6, q7, q8, q9, q10, q11, u1, w1, y1, y2, y3] <;> rfl), rfl, ?_, ?_, hk⟩)
              · rw [hcr, crashR1, if_neg hu, if_neg (by rw [List.getElem?_eq_getElem hv, hx]; simp)]; exact hrS
              · rw [hcr, crashR1, if_neg hu, if_neg (by rw [List.getElem?_eq_getElem hv, hx]; simp)]; exact hrT
          · have y1 : ((k : Int) < (keep.length : Int)) = False := by simp; omega
            (refine aw_regionL hS (by kernel_rfl) ?_; repeat (first | apply vr0u | apply vr4 | apply b_tt | apply b_ff | apply b_tf | apply b_ft | apply b_no | exact isD.mk rfl | (apply eqG; (simp only [push_cast, ↓reduceIte, Nat.reduceEqDiff, Nat.reduceAdd, Nat.reduceLeDiff, Nat.reduceLT, Int.reduceLE, Int.reduceLT, Int.reduceAdd, Int.reduceSub, Int.reduceNeg, Int.reduceBEq, Int.reduceBNe, Int.reduceEq, Int.reduceGT, Int.reduceGE, Int.reduceMul, Int.reduceToNat, Nat.reduceMul, reduceCtorEq, h0, h1, h2, h6, hrS, hrT, hd', hw', q1, q2, q3, q4, q5, q6, q7, q8, q9, q10, q11, u1, w1, y1] <;> rfl)) | exact (rfl : app (swap _ _) _ = _)))
            refine vr_nil (aw_then ?_)
            refine aw_false (by (simp only [push_cast, ↓reduceIte, Nat.reduceEqDiff, Nat.reduceAdd, Nat.reduceLeDiff, Nat.reduceLT, Int.reduceLE, Int.reduceLT, Int.reduceAdd, Int.reduceSub, Int.reduceNeg, Int.reduceBEq, Int.reduceBNe, Int.reduceEq, Int.reduceGT, Int.reduceGE, Int.reduceMul, Int.reduceToNat, Nat.reduceMul, reduceCtorEq, h0, h1, h2, h6, hrS, hrT, hd', hw', q1, q2, q3, q4, q5, q6, q7, q8, q9, q10, q11, u1, w1, y1] <;> rfl)) (AWp.skip (aw_in (aw_in (aw_then ?_))))
            (refine aw_regionL hS (by kernel_rfl) ?_; repeat (first | apply vr0u | apply vr4 | apply b_tt | apply b_ff | apply b_tf | apply b_ft | apply b_no | exact isD.mk rfl | (apply eqG; (simp only [push_cast, ↓reduceIte, Nat.reduceEqDiff, Nat.reduceAdd, Nat.reduceLeDiff, Nat.reduceLT, Int.reduceLE, Int.reduceLT, Int.reduceAdd, Int.reduceSub, Int.reduceNeg, Int.reduceBEq, Int.reduceBNe, Int.reduceEq, Int.reduceGT, Int.reduceGE, Int.reduceMul, Int.reduceToNat, Nat.reduceMul, reduceCtorEq, h0, h1, h2, h6, hrS, hrT, hd', hw', q1, q2, q3, q4, q5, q6, q7, q8, q9, q10, q11, u1, w1, y1] <;> rfl)) | exact (rfl : app (swap _ _) _ = _)))
            refine vr_nil (aw_then ⟨r.W.length - (k + 1), by omega, k + 1, rfl, hkk, by (simp only [push_cast, ↓reduceIte, Nat.reduceEqDiff, Nat.reduceAdd, Nat.reduceLeDiff, Nat.reduceLT, Int.reduceLE, Int.reduceLT, Int.reduceAdd, Int.reduceSub, Int.reduceNeg, Int.reduceBEq, Int.reduceBNe, Int.reduceEq, Int.reduceGT, Int.reduceGE, Int.reduceMul, Int.reduceToNat, Nat.reduceMul, reduceCtorEq, h0, h1, h2, h6, hrS, hrT, hd', hw', q1, q2, q3, q4, q5, q6, q7, q8, q9, q10, q11, u1, w1, y1] <;> rfl), by (simp only [push_cast, ↓reduceIte, Nat.reduceEqDiff, Nat.reduceAdd, Nat.reduceLeDiff, Nat.reduceLT, Int.reduceLE, Int.reduceLT, Int.reduceAdd, Int.reduceSub, Int.reduceNeg, Int.reduceBEq, Int.reduceBNe, Int.reduceEq, Int.reduceGT, Int.reduceGE, Int.reduceMul, Int.reduceToNat, Nat.reduceMul, reduceCtorEq, h0, h1, h2, h6, hrS, hrT, hd', hw', q1, q2, q3, q4, q5, q6, q7, q8, q9, q10, q11, u1, w1, y1] <;> rfl), by (simp only [push_cast, ↓reduceIte, Nat.reduceEqDiff, Nat.reduceAdd, Nat.reduceLeDiff, Nat.reduceLT, Int.reduceLE, Int.reduceLT, Int.reduceAdd, Int.reduceSub, Int.reduceNeg, Int.reduceBEq, Int.reduceBNe, Int.reduceEq, Int.reduceGT, Int.reduceGE, Int.reduceMul, Int.reduceToNat, Nat.reduceMul, reduceCtorEq, h0, h1, h2, h6, hrS, hrT, hd', hw', q1, q2, q3, q4, q5, q6, q7, q8, q9, q10, q11, u1, w1, y1] <;> rfl), by (simp only [push_cast, ↓reduceIte, Nat.reduceEqDiff, Nat.reduceAdd, Nat.reduceLeDiff, Nat.reduceLT, Int.reduceLE, Int.reduceLT, Int.reduceAdd, Int.reduceSub, Int.reduceNeg, Int.reduceBEq, Int.reduceBNe, Int.reduceEq, Int.reduceGT, Int.reduceGE, Int.reduceMul, Int.reduceToNat, Nat.reduceMul, reduceCtorEq, h0, h1, h2, h6, hrS, hrT, hd', hw', q1, q2, q3, q4, q5, q6, q7, q8, q9, q10, q11, u1, w1, y1] <;> rfl), rfl, ?_, ?_, hk⟩)
            · rw [hcr, crashR1, if_neg hu, if_neg (by rw [List.getElem?_eq_none (by omega)]; simp)]; exact hrS
            · rw [hcr, crashR1, if_neg hu, if_neg (by rw [List.getElem?_eq_none (by omega)]; simp)]; exact hrT
      · obtain rfl : k = r.W.length := by omega
        have q1 : ((r.W.length : Int) < (r.W.length : Int)) = False := by simp
        by_cases hW0 : r.W = []
        · rw [(RW.w0 hW0).1] at hd'
          have e0 : (r.W.length : Int) = 0 := by rw [hW0]; rfl
          rw [e0] at h6
          refine AWp.seq ?_
          refine AWp.seq ?_
          (refine aw_regionL hS (by kernel_rfl) ?_; repeat (first | apply vr0u | apply vr4 | apply b_tt | apply b_ff | apply b_tf | apply b_ft | apply b_no | exact isD.mk rfl | (apply eqG; (simp only [push_cast, ↓reduceIte, Nat.reduceEqDiff, Nat.reduceAdd, Nat.reduceLeDiff, Nat.reduceLT, Int.reduceLE, Int.reduceLT, Int.reduceAdd, Int.reduceSub, Int.reduceNeg, Int.reduceBEq, Int.reduceBNe, Int.reduceEq, Int.reduceGT, Int.reduceGE, Int.reduceMul, Int.reduceToNat, Nat.reduceMul, reduceCtorEq, h0, h1, h2, h6, hd'] <;> rfl)) | exact (rfl : app (swap _ _) _ = _)))
          refine vr_nil (aw_then ?_)
          refine aw_false (by (simp only [push_cast, ↓reduceIte, Nat.reduceEqDiff, Nat.reduceAdd, Nat.reduceLeDiff, Nat.reduceLT, Int.reduceLE, Int.reduceLT, Int.reduceAdd, Int.reduceSub, Int.reduceNeg, Int.reduceBEq, Int.reduceBNe, Int.reduceEq, Int.reduceGT, Int.reduceGE, Int.reduceMul, Int.reduceToNat, Nat.reduceMul, reduceCtorEq, h0, h1, h2, h6, hd'] <;> rfl)) (AWp.exit (aw_thru (aw_thru (aw_exit (aw_then ?_)))))
          exact ⟨by (simp only [push_cast, ↓reduceIte, Nat.reduceEqDiff, Nat.reduceAdd, Nat.reduceLeDiff, Nat.reduceLT, Int.reduceLE, Int.reduceLT, Int.reduceAdd, Int.reduceSub, Int.reduceNeg, Int.reduceBEq, Int.reduceBNe, Int.reduceEq, Int.reduceGT, Int.reduceGE, Int.reduceMul, Int.reduceToNat, Nat.reduceMul, reduceCtorEq, h0, h1, h2, h6, hd'] <;> rfl), rfl, hrS, hrT, hk⟩
        · rw [(RW.w1 hW0).1] at hd'
          refine AWp.seq ?_
          refine AWp.seq ?_
          (refine aw_regionL hS (by kernel_rfl) ?_; repeat (first | apply vr0u | apply vr4 | apply b_tt | apply b_ff | apply b_tf | apply b_ft | apply b_no | exact isD.mk rfl | (apply eqG; (simp only [push_cast, ↓reduceIte, Nat.reduceEqDiff, Nat.reduceAdd, Nat.reduceLeDiff, Nat.reduceLT, Int.reduceLE, Int.reduceLT, Int.reduceAdd, Int.reduceSub, Int.reduceNeg, Int.reduceBEq, Int.reduceBNe, Int.reduceEq, Int.reduceGT, Int.reduceGE, Int.reduceMul, Int.reduceToNat, Nat.reduceMul, reduceCtorEq, h0, h1, h2, h6, hd', q1] <;> rfl)) | exact (rfl : app (swap _ _) _ = _)))
          refine vr_nil (aw_then ?_)
          refine aw_false (by (simp only [push_cast, ↓reduceIte, Nat.reduceEqDiff, Nat.reduceAdd, Nat.reduceLeDiff, Nat.reduceLT, Int.reduceLE, Int.reduceLT, Int.reduceAdd, Int.reduceSub, Int.reduceNeg, Int.reduceBEq, Int.reduceBNe, Int.reduceEq, Int.reduceGT, Int.reduceGE, Int.reduceMul, Int.reduceToNat, Nat.reduceMul, reduceCtorEq, h0, h1, h2, h6, hd', q1] <;> rfl)) (AWp.exit (aw_thru (aw_thru (aw_exit (aw_then ?_)))))
          exact ⟨by (simp only [push_cast, ↓reduceIte, Nat.reduceEqDiff, Nat.reduceAdd, Nat.reduceLeDiff, Nat.reduceLT, Int.reduceLE, Int.reduceLT, Int.reduceAdd, Int.reduceSub, Int.reduceNeg, Int.reduceBEq, Int.reduceBNe, Int.reduceEq, Int.reduceGT, Int.reduceGE, Int.reduceMul, Int.reduceToNat, Nat.reduceMul, reduceCtorEq, h0, h1, h2, h6, hd', q1] <;> rfl), rfl, hrS, hrT, hk⟩
  · rintro t1 h1 m1 - ⟨t0, rfl, hrS, hrT, hk⟩
    have hd' := hk d _ hdn hd (by simp; omega)
    (refine aw_regionL hS (by kernel_rfl) ?_; repeat (first | apply vr0u | apply vr4 | apply b_tt | apply b_ff | apply b_tf | apply b_ft | apply b_no | exact isD.mk rfl | (apply eqG; (simp only [push_cast, ↓reduceIte, Nat.reduceEqDiff, Nat.reduceAdd, Nat.reduceLeDiff, Nat.reduceLT, Int.reduceLE, Int.reduceLT, Int.reduceAdd, Int.reduceSub, Int.reduceNeg, Int.reduceBEq, Int.reduceBNe, Int.reduceEq, Int.reduceGT, Int.reduceGE, Int.reduceMul, Int.reduceToNat, Nat.reduceMul, reduceCtorEq, t0, hd'] <;> rfl)) | exact (rfl : app (swap _ _) _ = _)))
    refine vr_nil ?_
    have hl := crashR_len (W := r.W) (keep := keep) (torn := torn) (x := (r.S, r.T)) r.W.length
    have F' : RFacts (upd (upd (upd (upd h1 d (some (.cells [.sl 1 r.jS 0 r.S.length, .sl 1 r.jT 0 r.T.length, .ro true [] 0, .b false, .i .i64 r.armed, .ro r.kz (bools r.keep) r.keep.length, .i .i64 r.tear]))) d (some (.cells [.sl 1 r.jS 0 r.S.length, .sl 1 r.jT 0 r.T.length, .ro true [] 0, .b true, .i .i64 r.armed, .ro r.kz (bools r.keep) r.keep.length, .i .i64 r.tear]))) d (some (.cells [.sl 1 r.jS 0 r.S.length, .sl 1 r.jT 0 r.T.length, .ro true [] 0, .b true, .i .i64 0, .ro r.kz (bools r.keep) r.keep.length, .i .i64 r.tear]))) d (some (.cells [.sl 1 r.jS 0 r.S.length, .sl 1 r.jT 0 r.T.length, .ro true [] 0, .b true, .i .i64 0, .ro true [] 0, .i .i64 r.tear]))) d (r.crash keep torn) := by
      refine ⟨?_, ?_, ?_, fun hc => absurd rfl hc, n1, n2, n3⟩
      · rw [upd_same]
        simp only [RW.row, RW.crash, hl.1, hl.2]
        rfl
      · show upd _ _ _ r.jS = _
        rw [upd_ne _ _ (Ne.symm n1), upd_ne _ _ (Ne.symm n1), upd_ne _ _ (Ne.symm n1), upd_ne _ _ (Ne.symm n1)]; exact hrS
      · show upd _ _ _ r.jT = _
        rw [upd_ne _ _ (Ne.symm n2), upd_ne _ _ (Ne.symm n2), upd_ne _ _ (Ne.symm n2), upd_ne _ _ (Ne.symm n2)]; exact hrT
    refine Out.refd (xs := []) (.inl rfl) rfl rfl (Nat.le_refl _) (Nat.le_refl _) trivial hL hlt F' (fun j hj => ?_) ?_
    · rw [crashR_keys] at hj
      rcases hj with rfl | rfl | rfl
      · exact .inl (RW.keys_iff.2 (.inl rfl))
      · exact .inl (RW.keys_iff.2 (.inr (.inl rfl)))
      · exact .inl (RW.keys_iff.2 (.inr (.inr (.inl rfl))))
    · have kd : ∀ (g : Heap) y, (∀ x r0, x < m1 → h x = some r0 → x ∉ (r.cont d).keys → g x = some r0) → (∀ x r0, x < m1 → h x = some r0 → x ∉ (r.cont d).keys → upd g d y x = some r0) := fun g y hg => keepX (.inr (RW.keys_iff.2 (.inl rfl))) hg
      refine kd _ _ (kd _ _ (kd _ _ (kd _ _ fun x r0 hx h0 hnx => hk x r0 hx h0 fun hm => hnx ?_)))
      rw [RW.keys_iff]
      simp at hm
      rcases hm with rfl | rfl
      · exact .inr (.inl rfl)
      · exact .inr (.inr (.inl rfl))

end Go.Proofs.Ytepfknnffooaiaa
