import Derived.Test.YtepfknnffooaiaaDkR4

namespace Go.Proofs.Ytepfknnffooaiaa
open Go.Av
set_option maxRecDepth 100000
set_option maxHeartbeats 1000000
set_option linter.unusedSimpArgs false
set_option linter.unusedVariables false
attribute [local push_cast] stepE callR resE aeff aev ofC ofC1 put_at Av.put_none inTmps List.getD_cons_zero List.getD_cons_succ AV.boxable if_true if_false AV.cells aload place app_cons app_nil upd_same Av.part abin aconv aindexAddr fillA splice_one abuiltin alen amax amin aun aindex Option.map_some Option.isSome_some List.map_cons List.map_nil List.nil_append List.append_nil List.cons_append Nat.le_refl Nat.zero_add Nat.add_zero List.length_cons List.length_nil List.drop_succ_cons List.drop_zero List.take_succ_cons List.take_zero beq_self_eq_true bne_self_eq_false Bool.not_true Bool.not_false List.set_cons_zero List.set_cons_succ Bool.false_eq_true IntWalk.i64_in decide_true decide_false Int.toNat_zero and_self and_true true_and List.getElem?_cons_zero List.getElem?_cons_succ aappend aapp view Bool.and_true Bool.true_and Nat.mul_one Option.map_none aslice asliceB nilOp Int.toNat_natCast und_30 agT_3 szT_3 kiT_3 agT_4 szT_4 kiT_4 agT_5 szT_5 kiT_5 agT_25 szT_25 kiT_25 agT_28 szT_28 kiT_28 agT_22 szT_22 kiT_22 agT_23 szT_23 kiT_23 agT_30 szT_30 kiT_30 agT_37 szT_37 kiT_37 agT_38 szT_38 kiT_38 agT_52 szT_52 kiT_52 agT_53 szT_53 kiT_53 agT_24 szT_24 kiT_24 agT_54 szT_54 kiT_54 agT_47 szT_47 kiT_47 slT_22 slT_23 slT_30 slT_37 slT_38 slT_52 slT_53 zeT_3 zeT_4 zeT_5 zeT_30 flT_56_0 flT_56_1 flT_56_2 flT_56_3 flT_56_4 agT_56 szT_56 buT_56 zeT_56 flT_58_0 flT_58_1 agT_58 szT_58 buT_58 zeT_58 flT_62_0 flT_62_1 agT_62 szT_62 buT_62 zeT_62 flT_65_0 flT_65_1 flT_65_2 agT_65 szT_65 buT_65 zeT_65 flT_42_0 flT_42_1 flT_42_2 flT_42_3 flT_42_4 flT_42_5 agT_42 szT_42 buT_42 zeT_42 flT_68_0 flT_68_1 flT_68_2 flT_68_3 flT_68_4 flT_68_5 flT_68_6 agT_68 szT_68 buT_68 zeT_68 ptT_24 ptT_54 ptT_47 und_30 agT_66 szT_66 kiT_66 slT_66 flT_73_0 flT_73_1 agT_73 szT_73 buT_73 zeT_73 

open Classical in
theorem sum_pure {S : Sums} (hS : SumOk Try.prog S) {f : FuncId} {args : List AV} {r : AV} (hp : PCalls Try.prog f args r) : ∃ S2, SumOk Try.prog S2 ∧ (∀ g, S2 f args g = .pure r) ∧ ∀ f', f' ≠ f → S2 f' = S f' :=
  ⟨S.addG f (fun a _ => if a = args then .pure r else .no), hS.addG (fun a g => by
    split
    · rename_i he; intro m; rw [he]; exact hp g m
    · trivial), fun g => by unfold Sums.addG; rw [if_pos rfl]; exact if_pos rfl, fun f' hf => by unfold Sums.addG; funext a g; rw [if_neg hf]⟩

/-! ### Trip, on the page -/
def RW.arm (r : RW) (k : Int) (keep : List Bool) (torn : Int) : RW := { r with armed := if k < 0 then 0 else k, kz := keep.isEmpty, keep := keep, tear := torn }
theorem ROk.arm {r : RW} (hr : ROk r) {k : Int} (hk : k ≤ 9223372036854775807) {keep : List Bool} (hl : keep.length ≤ 1000000) (torn : Int) : ROk (r.arm k keep torn) :=
  ⟨hr.len, hr.n0, hr.we, hr.s1, by show 0 ≤ (if k < 0 then 0 else k) ∧ (if k < 0 then 0 else k) ≤ _; split <;> omega, hl, hr.wl⟩
theorem c31 {h : Heap} {d : Nat} {r : RW} (hr : ROk r) (hL : Has h (r.cont d)) (k : Int) (z : Bool) {keep : List Bool} (hl : keep.length ≤ 1000000) (torn : Int) :
    ∀ n, DCalls Try.prog 31 [.p d 0, .i .i64 k, .ro z (bools keep) keep.length, .i .i64 torn] h n (.tup []) (swap (r.cont d) ((r.arm k keep torn).cont d)) n := by
  intro n
  have hS := SumOk.none (P := Try.prog)
  rcases has_any hL n with hlt | ⟨j, x, hj, hn⟩
  case inr => exact DCalls.vac ⟨_, Try.func31, rfl, by decide⟩ (Nat.le_refl _) hj hn
  have F := RFacts.of hL
  have hd := F.hd
  have hdn := hlt d (RW.keys_iff.2 (.inl rfl))
  have hsn := hlt r.jS (RW.keys_iff.2 (.inr (.inl rfl)))
  have htn := hlt r.jT (RW.keys_iff.2 (.inr (.inr (.inl rfl))))
  have n1 := F.dS
  have n2 := F.dT
  have n3 := F.ST
  simp only [RW.row] at hd
  refine DCalls.of Try.func31 rfl (by decide) (Nat.le_of_ble_eq_true rfl) (Nat.le_refl _) ?_
  obtain ⟨S2, hS2, h28, hne⟩ := sum_pure hS (c28 z keep hl)
  have ha : ∀ (x : Int), amax (.i .i64 k) (.i .i64 0) = some (.i .i64 (if k < 0 then 0 else k)) := fun _ => rfl
  have h1 := F.set (r' := { r with armed := if k < 0 then 0 else k }) rfl rfl rfl rfl rfl rfl
  have h2 := h1.set (r' := { r with armed := if k < 0 then 0 else k, kz := keep.isEmpty, keep := keep }) rfl rfl rfl rfl rfl rfl
  have h3 := h2.set (r' := r.arm k keep torn) rfl rfl rfl rfl rfl rfl
  by_cases hk : k < 0
  · have q1 : (k < 0) = True := by simp [hk]
    refine aw_regionL hS2 (by kernel_rfl) ?_
    repeat (first | apply vr0u | apply vr4 | apply b_tt | apply b_ff | apply b_tf | apply b_ft | apply b_no | exact isD.mk rfl | (apply eqG; (simp only [push_cast, ↓reduceIte, Nat.reduceEqDiff, Nat.reduceAdd, Nat.reduceLeDiff, Nat.reduceLT, Int.reduceLE, Int.reduceLT, Int.reduceAdd, Int.reduceSub, Int.reduceNeg, Int.reduceBEq, Int.reduceBNe, Int.reduceEq, Int.reduceGT, Int.reduceGE, Int.reduceMul, Int.reduceToNat, Nat.reduceMul, reduceCtorEq, hd, h28, gt_iff_lt, q1] <;> rfl)) | exact (rfl : app (swap _ _) _ = _))
    refine vr_nil ?_
    simp only [RW.row, RW.arm, if_pos hk] at h3
    refine Out.refd (r' := r.arm k keep torn) (xs := []) (.inl rfl) rfl rfl (Nat.le_refl _) (Nat.le_refl _) trivial hL hlt ?_ (fun j hj => .inl (RW.keys_eq (r' := r.arm k keep torn) rfl rfl rfl rfl hj)) ?_
    · simp only [RW.arm, if_pos hk]; exact h3
    · have kd : ∀ (g : Heap) y, (∀ x r0, x < n → h x = some r0 → x ∉ (r.cont d).keys → g x = some r0) → (∀ x r0, x < n → h x = some r0 → x ∉ (r.cont d).keys → upd g d y x = some r0) := fun g y hg => keepX (.inr (RW.keys_iff.2 (.inl rfl))) hg
      exact kd _ _ (kd _ _ (kd _ _ keepX0))
  · have q1 : (k < 0) = False := by simp; omega
    refine aw_regionL hS2 (by kernel_rfl) ?_
    repeat (first | apply vr0u | apply vr4 | apply b_tt | apply b_ff | apply b_tf | apply b_ft | apply b_no | exact isD.mk rfl | (apply eqG; (simp only [push_cast, ↓reduceIte, Nat.reduceEqDiff, Nat.reduceAdd, Nat.reduceLeDiff, Nat.reduceLT, Int.reduceLE, Int.reduceLT, Int.reduceAdd, Int.reduceSub, Int.reduceNeg, Int.reduceBEq, Int.reduceBNe, Int.reduceEq, Int.reduceGT, Int.reduceGE, Int.reduceMul, Int.reduceToNat, Nat.reduceMul, reduceCtorEq, hd, h28, gt_iff_lt, q1] <;> rfl)) | exact (rfl : app (swap _ _) _ = _))
    refine vr_nil ?_
    simp only [RW.row, RW.arm, if_neg hk] at h3
    refine Out.refd (r' := r.arm k keep torn) (xs := []) (.inl rfl) rfl rfl (Nat.le_refl _) (Nat.le_refl _) trivial hL hlt ?_ (fun j hj => .inl (RW.keys_eq (r' := r.arm k keep torn) rfl rfl rfl rfl hj)) ?_
    · simp only [RW.arm, if_neg hk]; exact h3
    · have kd : ∀ (g : Heap) y, (∀ x r0, x < n → h x = some r0 → x ∉ (r.cont d).keys → g x = some r0) → (∀ x r0, x < n → h x = some r0 → x ∉ (r.cont d).keys → upd g d y x = some r0) := fun g y hg => keepX (.inr (RW.keys_iff.2 (.inl rfl))) hg
      exact kd _ _ (kd _ _ (kd _ _ keepX0))

/-! ### Write, on the page -/
def RW.wrote (r : RW) (j i : Nat) (b : List UInt8) : RW := { r with jW := j, W := r.W ++ [(i, b)] }
def RW.write (r : RW) (n : Nat) (i : Int) (b : List UInt8) : Int × RW × Nat :=
  if r.down = true then (14, r, n) else if i < 0 ∨ i ≥ r.S.length then (1, r, n) else if b.length ≠ 64 then (4, r, n)
  else (if (r.wrote (n + 1) i.toNat b).trips.1 = true then 14 else 0, (r.wrote (n + 1) i.toNat b).trips.2, n + 2)
theorem ROk.wrote {r : RW} (hr : ROk r) (j : Nat) {i : Nat} {b : List UInt8} (hi : i < r.S.length) (hb : b.length = 64) (hw : r.W.length < 1000000) : ROk (r.wrote j i b) :=
  ⟨hr.len, hr.n0, fun p hp => by
    rcases List.mem_append.1 hp with hp | hp
    · exact hr.we p hp
    · rw [List.mem_singleton.1 hp]; exact ⟨hi, hb⟩, hr.s1, hr.ar, hr.kl, by show (r.W ++ [_]).length ≤ _; simp; omega⟩
theorem ROk.write {r : RW} (hr : ROk r) (n : Nat) (i : Int) (b : List UInt8) (hw : r.W.length < 1000000) : ROk (r.write n i b).2.1 := by
  unfold RW.write
  split
  · exact hr
  · split
    · exact hr
    · split
      · exact hr
      · exact (hr.wrote (n + 1) (by omega) (by omega) hw).trips
theorem wroteR_keys {d j i k : Nat} {b : List UInt8} {r : RW} (hk : k ∈ ((r.wrote j i b).cont d).keys) : k ∈ (r.cont d).keys ∨ k = j := by
  rw [RW.keys_iff] at hk ⊢
  rcases hk with h1 | h1 | h1 | ⟨_, h1⟩
  · exact .inl (.inl h1)
  · exact .inl (.inr (.inl h1))
  · exact .inl (.inr (.inr (.inl h1)))
  · exact .inr h1
theorem wroteR_facts {h g : Heap} {d j i : Nat} {b : List UInt8} {r : RW} (F : RFacts h d r) (hj : ∀ k, k ∈ (r.cont d).keys → k < j) (hgd : g d = some (.cells (r.wrote j i b).row)) (hgj : g j = some (.cells (wrC (r.W ++ [(i, b)])))) (hS : g r.jS = h r.jS) (hT : g r.jT = h r.jT) : RFacts g d (r.wrote j i b) := by
  have h1 := hj d (RW.keys_iff.2 (.inl rfl))
  have h2 := hj r.jS (RW.keys_iff.2 (.inr (.inl rfl)))
  have h3 := hj r.jT (RW.keys_iff.2 (.inr (.inr (.inl rfl))))
  exact ⟨hgd, by show g r.jS = _; rw [hS]; exact F.hS, by show g r.jT = _; rw [hT]; exact F.hT, fun _ => ⟨hgj, by show j ≠ d; omega, by show j ≠ r.jS; omega, by show j ≠ r.jT; omega⟩, F.dS, F.dT, F.ST⟩
theorem c35 {h : Heap} {d : Nat} {r : RW} (hr : ROk r) (hL : Has h (r.cont d)) (hpl : r.W.length < 1000000) (i : Int) (z : Bool) {b : List UInt8} (hbl : b.length ≤ 1000000) :
    ∀ n, DCalls Try.prog 35 [.p d 0, .i .i64 i, .ro z (cellsB b) b.length] h n (.i .i64 (r.write n i b).1) (swap (r.cont d) ((r.write n i b).2.1.cont d)) (r.write n i b).2.2 := by
  intro n
  have hS := SumOk.none (P := Try.prog)
  have hnn : n ≤ (r.write n i b).2.2 := by
    unfold RW.write
    split
    · exact Nat.le_refl _
    · split
      · exact Nat.le_refl _
      · split
        · exact Nat.le_refl _
        · show n ≤ n + 2; omega
  rcases has_any hL n with hlt | ⟨j, x, hj, hn⟩
  case inr => exact DCalls.vac ⟨_, Try.func35, rfl, by decide⟩ hnn hj hn
  have F := RFacts.of hL
  have hd := F.hd
  have hdn := hlt d (RW.keys_iff.2 (.inl rfl))
  have hsn := hlt r.jS (RW.keys_iff.2 (.inr (.inl rfl)))
  have htn := hlt r.jT (RW.keys_iff.2 (.inr (.inr (.inl rfl))))
  have n1 := F.dS
  have n2 := F.dT
  have n3 := F.ST
  simp only [RW.row] at hd
  refine DCalls.of Try.func35 rfl (by decide) (Nat.le_of_ble_eq_true rfl) hnn ?_
  refine AWp.seq ?_
  (refine aw_regionL hS (by kernel_rfl) ?_; repeat (first | apply vr0u | apply vr4 | apply b_tt | apply b_ff | apply b_tf | apply b_ft | apply b_no | exact isD.mk rfl | (apply eqG; (simp only [push_cast, ↓reduceIte, Nat.reduceEqDiff, Nat.reduceAdd, Nat.reduceLeDiff, Nat.reduceLT, Int.reduceLE, Int.reduceLT, Int.reduceAdd, Int.reduceSub, Int.reduceNeg, Int.reduceBEq, Int.reduceBNe, Int.reduceEq, Int.reduceGT, Int.reduceGE, Int.reduceMul, Int.reduceToNat, Nat.reduceMul, reduceCtorEq, hd] <;> rfl)) | exact (rfl : app (swap _ _) _ = _)))
  refine vr_nil (aw_then ?_)
  refine AWp.seq ?_
  refine AWp.seq ?_
  (refine aw_regionL hS (by kernel_rfl) ?_; repeat (first | apply vr0u | apply vr4 | apply b_tt | apply b_ff | apply b_tf | apply b_ft | apply b_no | exact isD.mk rfl | (apply eqG; (simp only [push_cast, ↓reduceIte, Nat.reduceEqDiff, Nat.reduceAdd, Nat.reduceLeDiff, Nat.reduceLT, Int.reduceLE, Int.reduceLT, Int.reduceAdd, Int.reduceSub, Int.reduceNeg, Int.reduceBEq, Int.reduceBNe, Int.reduceEq, Int.reduceGT, Int.reduceGE, Int.reduceMul, Int.reduceToNat, Nat.reduceMul, reduceCtorEq, hd] <;> rfl)) | exact (rfl : app (swap _ _) _ = _)))
  refine vr_nil (aw_then ?_)
  refine aw_split (by (simp only [push_cast, ↓reduceIte, Nat.reduceEqDiff, Nat.reduceAdd, Nat.reduceLeDiff, Nat.reduceLT, Int.reduceLE, Int.reduceLT, Int.reduceAdd, Int.reduceSub, Int.reduceNeg, Int.reduceBEq, Int.reduceBNe, Int.reduceEq, Int.reduceGT, Int.reduceGE, Int.reduceMul, Int.reduceToNat, Nat.reduceMul, reduceCtorEq, hd] <;> rfl)) (fun hu => ?_) (fun hu => ?_)
  · have ht : r.write n i b = (14, r, n) := if_pos hu
    rw [ht]
    refine AWp.seq ?_
    (refine aw_regionL hS (by kernel_rfl) ?_; repeat (first | apply vr0u | apply vr4 | apply b_tt | apply b_ff | apply b_tf | apply b_ft | apply b_no | exact isD.mk rfl | (apply eqG; (simp only [push_cast, ↓reduceIte, Nat.reduceEqDiff, Nat.reduceAdd, Nat.reduceLeDiff, Nat.reduceLT, Int.reduceLE, Int.reduceLT, Int.reduceAdd, Int.reduceSub, Int.reduceNeg, Int.reduceBEq, Int.reduceBNe, Int.reduceEq, Int.reduceGT, Int.reduceGE, Int.reduceMul, Int.reduceToNat, Nat.reduceMul, reduceCtorEq, hd] <;> rfl)) | exact (rfl : app (swap _ _) _ = _)))
    refine vr_nil (aw_then ?_)
    refine AWp.ret ?_
    exact Out.refd (r' := r) (xs := [.i .i64 14]) (.inr rfl) (by simp [Try.f35, resAll, resT]; (simp only [push_cast, ↓reduceIte, Nat.reduceEqDiff, Nat.reduceAdd, Nat.reduceLeDiff, Nat.reduceLT, Int.reduceLE, Int.reduceLT, Int.reduceAdd, Int.reduceSub, Int.reduceNeg, Int.reduceBEq, Int.reduceBNe, Int.reduceEq, Int.reduceGT, Int.reduceGE, Int.reduceMul, Int.reduceToNat, Nat.reduceMul, reduceCtorEq, hd] <;> rfl)) rfl (Nat.le_refl _) (Nat.le_refl _) trivial hL hlt F (fun j hj => .inl hj) keepX0
  refine AWp.skip (aw_then ?_)
  have hne1 : ¬ (r.down = true) := by rw [hu]; simp
  refine AWp.cut (fun t' h' n' => (0 ≤ i ∧ i < (r.S.length : Int)) ∧ t' 0 = .p d 0 ∧ t' 1 = .i .i64 i ∧ t' 2 = .ro z (cellsB b) b.length ∧ h = h' ∧ n = n') ?_ ?_
  · have two : ∀ hv : (i < 0 ∨ i ≥ r.S.length), r.write n i b = (1, r, n) := fun hv => by unfold RW.write; rw [if_neg hne1, if_pos hv]
    refine AWp.seq ?_
    (refine aw_regionL hS (by kernel_rfl) ?_; repeat (first | apply vr0u | apply vr4 | apply b_tt | apply b_ff | apply b_tf | apply b_ft | apply b_no | exact isD.mk rfl | (apply eqG; (simp only [push_cast, ↓reduceIte, Nat.reduceEqDiff, Nat.reduceAdd, Nat.reduceLeDiff, Nat.reduceLT, Int.reduceLE, Int.reduceLT, Int.reduceAdd, Int.reduceSub, Int.reduceNeg, Int.reduceBEq, Int.reduceBNe, Int.reduceEq, Int.reduceGT, Int.reduceGE, Int.reduceMul, Int.reduceToNat, Nat.reduceMul, reduceCtorEq, hd] <;> rfl)) | exact (rfl : app (swap _ _) _ = _)))
    refine br_s (by (simp only [push_cast, ↓reduceIte, Nat.reduceEqDiff, Nat.reduceAdd, Nat.reduceLeDiff, Nat.reduceLT, Int.reduceLE, Int.reduceLT, Int.reduceAdd, Int.reduceSub, Int.reduceNeg, Int.reduceBEq, Int.reduceBNe, Int.reduceEq, Int.reduceGT, Int.reduceGE, Int.reduceMul, Int.reduceToNat, Nat.reduceMul, reduceCtorEq, hd] <;> rfl)) (fun hv => ?_) (fun hv => ?_)
    · have hv := of_decide_eq_true hv
      repeat (first | apply vr0u | apply vr4 | apply b_tt | apply b_ff | apply b_tf | apply b_ft | apply b_no | exact isD.mk rfl | (apply eqG; (simp only [push_cast, ↓reduceIte, Nat.reduceEqDiff, Nat.reduceAdd, Nat.reduceLeDiff, Nat.reduceLT, Int.reduceLE, Int.reduceLT, Int.reduceAdd, Int.reduceSub, Int.reduceNeg, Int.reduceBEq, Int.reduceBNe, Int.reduceEq, Int.reduceGT, Int.reduceGE, Int.reduceMul, Int.reduceToNat, Nat.reduceMul, reduceCtorEq, hd] <;> rfl)) | exact (rfl : app (swap _ _) _ = _))
      refine vr_nil (aw_then ?_)
      rw [two (.inl hv)]
      refine aw_true (by (simp only [push_cast, ↓reduceIte, Nat.reduceEqDiff, Nat.reduceAdd, Nat.reduceLeDiff, Nat.reduceLT, Int.reduceLE, Int.reduceLT, Int.reduceAdd, Int.reduceSub, Int.reduceNeg, Int.reduceBEq, Int.reduceBNe, Int.reduceEq, Int.reduceGT, Int.reduceGE, Int.reduceMul, Int.reduceToNat, Nat.reduceMul, reduceCtorEq, hd] <;> rfl)) ?_
      refine AWp.seq ?_
      (refine aw_regionL hS (by kernel_rfl) ?_; repeat (first | apply vr0u | apply vr4 | apply b_tt | apply b_ff | apply b_tf | apply b_ft | apply b_no | exact isD.mk rfl | (apply eqG; (simp only [push_cast, ↓reduceIte, Nat.reduceEqDiff, Nat.reduceAdd, Nat.reduceLeDiff, Nat.reduceLT, Int.reduceLE, Int.reduceLT, Int.reduceAdd, Int.reduceSub, Int.reduceNeg, Int.reduceBEq, Int.reduceBNe, Int.reduceEq, Int.reduceGT, Int.reduceGE, Int.reduceMul, Int.reduceToNat, Nat.reduceMul, reduceCtorEq, hd] <;> rfl)) | exact (rfl : app (swap _ _) _ = _)))
      refine vr_nil (aw_then ?_)
      refine AWp.ret ?_
      exact Out.refd (r' := r) (xs := [.i .i64 1]) (.inr rfl) (by simp [Try.f35, resAll, resT]; (simp only [push_cast, ↓reduceIte, Nat.reduceEqDiff, Nat.reduceAdd, Nat.reduceLeDiff, Nat.reduceLT, Int.reduceLE, Int.reduceLT, Int.reduceAdd, Int.reduceSub, Int.reduceNeg, Int.reduceBEq, Int.reduceBNe, Int.reduceEq, Int.reduceGT, Int.reduceGE, Int.reduceMul, Int.reduceToNat, Nat.reduceMul, reduceCtorEq, hd] <;> rfl)) rfl (Nat.le_refl _) (Nat.le_refl _) trivial hL hlt F (fun j hj => .inl hj) keepX0
    · have hv := of_decide_eq_false hv
      repeat (first | apply vr0u | apply vr4 | apply b_tt | apply b_ff | apply b_tf | apply b_ft | apply b_no | exact isD.mk rfl | (apply eqG; (simp only [push_cast, ↓reduceIte, Nat.reduceEqDiff, Nat.reduceAdd, Nat.reduceLeDiff, Nat.reduceLT, Int.reduceLE, Int.reduceLT, Int.reduceAdd, Int.reduceSub, Int.reduceNeg, Int.reduceBEq, Int.reduceBNe, Int.reduceEq, Int.reduceGT, Int.reduceGE, Int.reduceMul, Int.reduceToNat, Nat.reduceMul, reduceCtorEq, hd] <;> rfl)) | exact (rfl : app (swap _ _) _ = _))
      refine vr_nil (aw_then ?_)
      refine aw_split (by (simp only [push_cast, ↓reduceIte, Nat.reduceEqDiff, Nat.reduceAdd, Nat.reduceLeDiff, Nat.reduceLT, Int.reduceLE, Int.reduceLT, Int.reduceAdd, Int.reduceSub, Int.reduceNeg, Int.reduceBEq, Int.reduceBNe, Int.reduceEq, Int.reduceGT, Int.reduceGE, Int.reduceMul, Int.reduceToNat, Nat.reduceMul, reduceCtorEq, hd] <;> rfl)) (fun hw => ?_) (fun hw => ?_)
      · have hw := of_decide_eq_true hw
        rw [two (.inr hw)]
        refine AWp.seq ?_
        (refine aw_regionL hS (by kernel_rfl) ?_; repeat (first | apply vr0u | apply vr4 | apply b_tt | apply b_ff | apply b_tf | apply b_ft | apply b_no | exact isD.mk rfl | (apply eqG; (simp only [push_cast, ↓reduceIte, Nat.reduceEqDiff, Nat.reduceAdd, Nat.reduceLeDiff, Nat.reduceLT, Int.reduceLE, Int.reduceLT, Int.reduceAdd, Int.reduceSub, Int.reduceNeg, Int.reduceBEq, Int.reduceBNe, Int.reduceEq, Int.reduceGT, Int.reduceGE, Int.reduceMul, Int.reduceToNat, Nat.reduceMul, reduceCtorEq, hd] <;> rfl)) | exact (rfl : app (swap _ _) _ = _)))
        refine vr_nil (aw_then ?_)
        refine AWp.ret ?_
        exact Out.refd (r' := r) (xs := [.i .i64 1]) (.inr rfl) (by simp [Try.f35, resAll, resT]; (simp only [push_cast, ↓reduceIte, Nat.reduceEqDiff, Nat.reduceAdd, Nat.reduceLeDiff, Nat.reduceLT, Int.reduceLE, Int.reduceLT, Int.reduceAdd, Int.reduceSub, Int.reduceNeg, Int.reduceBEq, Int.reduceBNe, Int.reduceEq, Int.reduceGT, Int.reduceGE, Int.reduceMul, Int.reduceToNat, Nat.reduceMul, reduceCtorEq, hd] <;> rfl)) rfl (Nat.le_refl _) (Nat.le_refl _) trivial hL hlt F (fun j hj => .inl hj) keepX0
      · have hw := of_decide_eq_false hw
        exact AWp.skip (aw_then ⟨⟨by omega, by omega⟩, by (simp only [push_cast, ↓reduceIte, Nat.reduceEqDiff, Nat.reduceAdd, Nat.reduceLeDiff, Nat.reduceLT, Int.reduceLE, Int.reduceLT, Int.reduceAdd, Int.reduceSub, Int.reduceNeg, Int.reduceBEq, Int.reduceBNe, Int.reduceEq, Int.reduceGT, Int.reduceGE, Int.reduceMul, Int.reduceToNat, Nat.reduceMul, reduceCtorEq, hd] <;> rfl), by (simp only [push_cast, ↓reduceIte, Nat.reduceEqDiff, Nat.reduceAdd, Nat.reduceLeDiff, Nat.reduceLT, Int.reduceLE, Int.reduceLT, Int.reduceAdd, Int.reduceSub, Int.reduceNeg, Int.reduceBEq, Int.reduceBNe, Int.reduceEq, Int.reduceGT, Int.reduceGE, Int.reduceMul, Int.reduceToNat, Nat.reduceMul, reduceCtorEq, hd] <;> rfl), by (simp only [push_cast, ↓reduceIte, Nat.reduceEqDiff, Nat.reduceAdd, Nat.reduceLeDiff, Nat.reduceLT, Int.reduceLE, Int.reduceLT, Int.reduceAdd, Int.reduceSub, Int.reduceNeg, Int.reduceBEq, Int.reduceBNe, Int.reduceEq, Int.reduceGT, Int.reduceGE, Int.reduceMul, Int.reduceToNat, Nat.reduceMul, reduceCtorEq, hd] <;> rfl), rfl, rfl⟩)
  rintro t1 g1 m1 - ⟨⟨hi0, hiN⟩, h0, h1, h2, rfl, rfl⟩
  refine AWp.seq ?_
  refine AWp.seq ?_
  (refine aw_regionL hS (by kernel_rfl) ?_; repeat (first | apply vr0u | apply vr4 | apply b_tt | apply b_ff | apply b_tf | apply b_ft | apply b_no | exact isD.mk rfl | (apply eqG; (simp only [push_cast, ↓reduceIte, Nat.reduceEqDiff, Nat.reduceAdd, Nat.reduceLeDiff, Nat.reduceLT, Int.reduceLE, Int.reduceLT, Int.reduceAdd, Int.reduceSub, Int.reduceNeg, Int.reduceBEq, Int.reduceBNe, Int.reduceEq, Int.reduceGT, Int.reduceGE, Int.reduceMul, Int.reduceToNat, Nat.reduceMul, reduceCtorEq, hd, h0, h1, h2] <;> rfl)) | exact (rfl : app (swap _ _) _ = _)))
  refine vr_nil (aw_then ?_)
  refine aw_split (by (simp only [push_cast, ↓reduceIte, Nat.reduceEqDiff, Nat.reduceAdd, Nat.reduceLeDiff, Nat.reduceLT, Int.reduceLE, Int.reduceLT, Int.reduceAdd, Int.reduceSub, Int.reduceNeg, Int.reduceBEq, Int.reduceBNe, Int.reduceEq, Int.reduceGT, Int.reduceGE, Int.reduceMul, Int.reduceToNat, Nat.reduceMul, reduceCtorEq, hd, h0, h1, h2] <;> rfl)) (fun hv => ?_) (fun hv => ?_)
  · have hv : b.length ≠ 64 := by
      have : ¬ (b.length : Int) = 64 := by simpa using hv
      omega
    have ht : r.write n i b = (4, r, n) := by unfold RW.write; rw [if_neg hne1, if_neg (by omega), if_pos hv]
    rw [ht]
    refine AWp.seq ?_
    (refine aw_regionL hS (by kernel_rfl) ?_; repeat (first | apply vr0u | apply vr4 | apply b_tt | apply b_ff | apply b_tf | apply b_ft | apply b_no | exact isD.mk rfl | (apply eqG; (simp only [push_cast, ↓reduceIte, Nat.reduceEqDiff, Nat.reduceAdd, Nat.reduceLeDiff, Nat.reduceLT, Int.reduceLE, Int.reduceLT, Int.reduceAdd, Int.reduceSub, Int.reduceNeg, Int.reduceBEq, Int.reduceBNe, Int.reduceEq, Int.reduceGT, Int.reduceGE, Int.reduceMul, Int.reduceToNat, Nat.reduceMul, reduceCtorEq, hd, h0, h1, h2] <;> rfl)) | exact (rfl : app (swap _ _) _ = _)))
    refine vr_nil (aw_then ?_)
    refine AWp.ret ?_
    exact Out.refd (r' := r) (xs := [.i .i64 4]) (.inr rfl) (by simp [Try.f35, resAll, resT]; (simp only [push_cast, ↓reduceIte, Nat.reduceEqDiff, Nat.reduceAdd, Nat.reduceLeDiff, Nat.reduceLT, Int.reduceLE, Int.reduceLT, Int.reduceAdd, Int.reduceSub, Int.reduceNeg, Int.reduceBEq, Int.reduceBNe, Int.reduceEq, Int.reduceGT, Int.reduceGE, Int.reduceMul, Int.reduceToNat, Nat.reduceMul, reduceCtorEq, hd, h0, h1, h2] <;> rfl)) rfl (Nat.le_refl _) (Nat.le_refl _) trivial hL hlt F (fun j hj => .inl hj) keepX0
  have hv : b.length = 64 := by
    have : (b.length : Int) = 64 := by simpa using hv
    omega
  refine AWp.skip (aw_then ?_)
  obtain ⟨k, rfl⟩ : ∃ k : Nat, i = (k : Int) := ⟨i.toNat, by omega⟩
  have ht : r.write n k b = (if (r.wrote (n + 1) k b).trips.1 = true then 14 else 0, (r.wrote (n + 1) k b).trips.2, n + 2) := by
    unfold RW.write; rw [if_neg hne1, if_neg (by omega), if_neg (by omega), Int.toNat_natCast]
  rw [ht]
  have hr1 := hr.wrote (n + 1) (i := k) (by omega) hv hpl
  have hbz : b.isEmpty = false := by cases b <;> simp_all
  obtain ⟨S2, hS2, h34, -⟩ := sum_pure hS (c34 z b hbl)
  rw [hbz] at h34
  have rr : rep 1 [AV.i .i64 0, .ro true [] 0] = [AV.i .i64 0, .ro true [] 0] := rfl
  have hj : (2 : Nat) * 1 = 2 := rfl
  refine AWp.cut (fun t' h' n' => RFacts h' d (r.wrote (n + 1) k b) ∧ n' = n + 2 ∧ t' 0 = .p d 0 ∧ ∀ x r0, x < n → h x = some r0 → x ∉ (r.cont d).keys → h' x = some r0) ?_ ?_
  · by_cases hW0 : r.W = []
    case pos =>
      have e1 := (RW.w0 hW0).1
      rw [e1] at hd
      have u1 : ∀ (g : Heap) (x : Option Row), upd g n x d = g d := fun g x => upd_ne _ _ (by omega)
      have u2 : ∀ (g : Heap) (x : Option Row), upd g (n + 1) x d = g d := fun g x => upd_ne _ _ (by omega)
      have u3 : ∀ (g : Heap) (x : Option Row), upd g (n + 1) x n = g n := fun g x => upd_ne _ _ (by omega)
      refine aw_drawsL [0, 0, 2, 6, 14, 0, 0, 64, 224, 480, 1022, 2047, 4095, 8191] [10, 13] hS2 mixed (by kernel_rfl) (by kernel_rfl) ?_
      repeat (first | (refine vd0f (by decide) (by ((repeat (first | rewrite [hpL_t rfl] | rewrite [hpL_f rfl])); (simp only [hpL, app_cons, app_nil] <;> rfl))) (by (simp only [push_cast, ↓reduceIte, Nat.reduceEqDiff, Nat.reduceAdd, Nat.reduceLeDiff, Nat.reduceLT, Int.reduceLE, Int.reduceLT, Int.reduceAdd, Int.reduceSub, Int.reduceNeg, Int.reduceBEq, Int.reduceBNe, Int.reduceEq, Int.reduceGT, Int.reduceGE, Int.reduceMul, Int.reduceToNat, Nat.reduceMul, reduceCtorEq, hd, h0, h1, h2, h34, hj, rr, sp2, u1, u2, u3] <;> rfl)) ?_) | (refine vd0q rfl (by decide) rfl (by ((repeat (first | rewrite [hpL_t rfl] | rewrite [hpL_f rfl])); (simp only [hpL, app_cons, app_nil] <;> rfl))) (by (simp only [push_cast, ↓reduceIte, Nat.reduceEqDiff, Nat.reduceAdd, Nat.reduceLeDiff, Nat.reduceLT, Int.reduceLE, Int.reduceLT, Int.reduceAdd, Int.reduceSub, Int.reduceNeg, Int.reduceBEq, Int.reduceBNe, Int.reduceEq, Int.reduceGT, Int.reduceGE, Int.reduceMul, Int.reduceToNat, Nat.reduceMul, reduceCtorEq, hd, h0, h1, h2, h34, hj, rr, sp2, u1, u2, u3] <;> rfl)) (by simp) (by omega) (by intro u hu; simp only [List.mem_cons, List.not_mem_nil, or_false] at hu; rcases hu with rfl | rfl | rfl <;> simp only <;> omega) ?_) | (refine vd0w rfl (by decide) (by ((repeat (first | rewrite [hpL_t rfl] | rewrite [hpL_f rfl])); (simp only [hpL, app_cons, app_nil] <;> rfl))) (by (simp only [push_cast, ↓reduceIte, Nat.reduceEqDiff, Nat.reduceAdd, Nat.reduceLeDiff, Nat.reduceLT, Int.reduceLE, Int.reduceLT, Int.reduceAdd, Int.reduceSub, Int.reduceNeg, Int.reduceBEq, Int.reduceBNe, Int.reduceEq, Int.reduceGT, Int.reduceGE, Int.reduceMul, Int.reduceToNat, Nat.reduceMul, reduceCtorEq, hd, h0, h1, h2, h34, hj, rr, sp2, u1, u2, u3] <;> rfl)) (by omega) (by intro u hu; simp only [List.mem_cons, List.not_mem_nil, or_false] at hu; rcases hu with rfl | rfl | rfl <;> simp only <;> omega) ?_) | (apply vd0; (focus rfl)) | (apply vd0r; (focus rfl); (focus decide); (focus rfl)) | (apply vd0p; (focus decide)) | apply vd4 | apply b_tt | apply b_ff | apply b_tf | apply b_ft | apply b_no | exact isD.mk rfl | ((repeat (first | rewrite [hpL_t rfl] | rewrite [hpL_f rfl])); (simp only [hpL, app_cons, app_nil] <;> rfl)) | (apply eqG; (simp only [push_cast, ↓reduceIte, Nat.reduceEqDiff, Nat.reduceAdd, Nat.reduceLeDiff, Nat.reduceLT, Int.reduceLE, Int.reduceLT, Int.reduceAdd, Int.reduceSub, Int.reduceNeg, Int.reduceBEq, Int.reduceBNe, Int.reduceEq, Int.reduceGT, Int.reduceGE, Int.reduceMul, Int.reduceToNat, Nat.reduceMul, reduceCtorEq, hd, h0, h1, h2, h34, hj, rr, sp2, u1, u2, u3] <;> rfl)))
      (refine vd_nil (by simp only [hpL, app_cons, app_nil, if_true] <;> rfl) ?_)
      refine aw_then ?_
      refine ⟨wroteR_facts F (fun j hj => by have := hlt j hj; omega) ?_ ?_ ?_ ?_, rfl, by (simp only [push_cast, ↓reduceIte, Nat.reduceEqDiff, Nat.reduceAdd, Nat.reduceLeDiff, Nat.reduceLT, Int.reduceLE, Int.reduceLT, Int.reduceAdd, Int.reduceSub, Int.reduceNeg, Int.reduceBEq, Int.reduceBNe, Int.reduceEq, Int.reduceGT, Int.reduceGE, Int.reduceMul, Int.reduceToNat, Nat.reduceMul, reduceCtorEq, hd, h0, h1, h2, h34, hj, rr, sp2, u1, u2, u3] <;> rfl), ?_⟩
      · rw [upd_same]
        simp only [RW.row, RW.wrote]
        rw [(RW.w1 (r := { r with jW := n + 1, W := r.W ++ [(k, b)] }) (by simp)).1, hW0]
        rfl
      · rw [upd_ne _ _ (by omega), upd_same, hW0]; rfl
      · rw [upd_ne _ _ (Ne.symm n1), upd_ne _ _ (by omega), upd_ne _ _ (by omega)]
      · rw [upd_ne _ _ (Ne.symm n2), upd_ne _ _ (by omega), upd_ne _ _ (by omega)]
      · exact keepX (.inr (RW.keys_iff.2 (.inl rfl))) (keepX (.inl (by omega)) (keepX (.inl (by omega)) keepX0))
    case neg =>
      have e1 := (RW.w1 hW0).1
      rw [e1] at hd
      have u1 : ∀ (g : Heap) (x : Option Row), upd g n x d = g d := fun g x => upd_ne _ _ (by omega)
      have u2 : ∀ (g : Heap) (x : Option Row), upd g (n + 1) x d = g d := fun g x => upd_ne _ _ (by omega)
      have u3 : ∀ (g : Heap) (x : Option Row), upd g (n + 1) x n = g n := fun g x => upd_ne _ _ (by omega)
      obtain ⟨hjw, p1, p2, p3⟩ := F.hW hW0
      have hpn := hlt r.jW (RW.keys_iff.2 (.inr (.inr (.inr ⟨hW0, rfl⟩))))
      have u4 : ∀ (g : Heap) (x : Option Row), upd g n x r.jW = g r.jW := fun g x => upd_ne _ _ (by omega)
      have u5 : ∀ (g : Heap) (x : Option Row), upd g r.jW x d = g d := fun g x => upd_ne _ _ (by omega)
      have u6 : ∀ (g : Heap) (x : Option Row), upd g r.jW x n = g n := fun g x => upd_ne _ _ (by omega)
      have y1 : ((wrC r.W).length = r.W.length * 2) = True := by rw [wrC_len]; simp
      have y2 : ((r.W.length + 1) * 32 ≤ 140737488355328) = True := by simp; omega
      have y3 : (r.W.length + 1 ≤ 9223372036854775807) = True := by simp; omega
      refine aw_drawsL [0, 0, 2, 6, 14, 0, 0, 64, 224, 480, 1022, 2047, 4095, 8191] [10, 13] hS2 mixed (by kernel_rfl) (by kernel_rfl) ?_
      repeat (first | (refine vd0f (by decide) (by ((repeat (first | rewrite [hpL_t rfl] | rewrite [hpL_f rfl])); (simp only [hpL, app_cons, app_nil] <;> rfl))) (by (simp only [push_cast, ↓reduceIte, Nat.reduceEqDiff, Nat.reduceAdd, Nat.reduceLeDiff, Nat.reduceLT, Int.reduceLE, Int.reduceLT, Int.reduceAdd, Int.reduceSub, Int.reduceNeg, Int.reduceBEq, Int.reduceBNe, Int.reduceEq, Int.reduceGT, Int.reduceGE, Int.reduceMul, Int.reduceToNat, Nat.reduceMul, reduceCtorEq, hd, h0, h1, h2, h34, hj, rr, sp2, hjw, u4, u5, u6, y1, y2, y3, u1, u2, u3] <;> rfl)) ?_) | (refine vd0q rfl (by decide) rfl (by ((repeat (first | rewrite [hpL_t rfl] | rewrite [hpL_f rfl])); (simp only [hpL, app_cons, app_nil] <;> rfl))) (by (simp only [push_cast, ↓reduceIte, Nat.reduceEqDiff, Nat.reduceAdd, Nat.reduceLeDiff, Nat.reduceLT, Int.reduceLE, Int.reduceLT, Int.reduceAdd, Int.reduceSub, Int.reduceNeg, Int.reduceBEq, Int.reduceBNe, Int.reduceEq, Int.reduceGT, Int.reduceGE, Int.reduceMul, Int.reduceToNat, Nat.reduceMul, reduceCtorEq, hd, h0, h1, h2, h34, hj, rr, sp2, hjw, u4, u5, u6, y1, y2, y3, u1, u2, u3] <;> rfl)) (by simp) (by omega) (by intro u hu; simp only [List.mem_cons, List.not_mem_nil, or_false] at hu; rcases hu with rfl | rfl | rfl <;> simp only <;> omega) ?_) | (refine vd0w rfl (by decide) (by ((repeat (first | rewrite [hpL_t rfl] | rewrite [hpL_f rfl])); (simp only [hpL, app_cons, app_nil] <;> rfl))) (by (simp only [push_cast, ↓reduceIte, Nat.reduceEqDiff, Nat.reduceAdd, Nat.reduceLeDiff, Nat.reduceLT, Int.reduceLE, Int.reduceLT, Int.reduceAdd, Int.reduceSub, Int.reduceNeg, Int.reduceBEq, Int.reduceBNe, Int.reduceEq, Int.reduceGT, Int.reduceGE, Int.reduceMul, Int.reduceToNat, Nat.reduceMul, reduceCtorEq, hd, h0, h1, h2, h34, hj, rr, sp2, hjw, u4, u5, u6, y1, y2, y3, u1, u2, u3] <;> rfl)) (by omega) (by intro u hu; simp only [List.mem_cons, List.not_mem_nil, or_false] at hu; rcases hu with rfl | rfl | rfl <;> simp only <;> omega) ?_) | (apply vd0; (focus rfl)) | (apply vd0r; (focus rfl); (focus decide); (focus rfl)) | (apply vd0p; (focus decide)) | apply vd4 | apply b_tt | apply b_ff | apply b_tf | apply b_ft | apply b_no | exact isD.mk rfl | ((repeat (first | rewrite [hpL_t rfl] | rewrite [hpL_f rfl])); (simp only [hpL, app_cons, app_nil] <;> rfl)) | (apply eqG; (simp only [push_cast, ↓reduceIte, Nat.reduceEqDiff, Nat.reduceAdd, Nat.reduceLeDiff, Nat.reduceLT, Int.reduceLE, Int.reduceLT, Int.reduceAdd, Int.reduceSub, Int.reduceNeg, Int.reduceBEq, Int.reduceBNe, Int.reduceEq, Int.reduceGT, Int.reduceGE, Int.reduceMul, Int.reduceToNat, Nat.reduceMul, reduceCtorEq, hd, h0, h1, h2, h34, hj, rr, sp2, hjw, u4, u5, u6, y1, y2, y3, u1, u2, u3] <;> rfl)))
      (refine vd_nil (by simp only [hpL, app_cons, app_nil, if_true] <;> rfl) ?_)
      refine aw_then ?_
      refine ⟨wroteR_facts F (fun j hj => by have := hlt j hj; omega) ?_ ?_ ?_ ?_, rfl, by (simp only [push_cast, ↓reduceIte, Nat.reduceEqDiff, Nat.reduceAdd, Nat.reduceLeDiff, Nat.reduceLT, Int.reduceLE, Int.reduceLT, Int.reduceAdd, Int.reduceSub, Int.reduceNeg, Int.reduceBEq, Int.reduceBNe, Int.reduceEq, Int.reduceGT, Int.reduceGE, Int.reduceMul, Int.reduceToNat, Nat.reduceMul, reduceCtorEq, hd, h0, h1, h2, h34, hj, rr, sp2, hjw, u4, u5, u6, y1, y2, y3, u1, u2, u3] <;> rfl), ?_⟩
      · rw [upd_same]
        simp only [RW.row, RW.wrote]
        rw [(RW.w1 (r := { r with jW := n + 1, W := r.W ++ [(k, b)] }) (by simp)).1]
        simp only [List.length_append, List.length_cons, List.length_nil]
      · rw [upd_ne _ _ (by omega), upd_same, wrC_app]; rfl
      · rw [upd_ne _ _ (Ne.symm n1), upd_ne _ _ (by omega), upd_ne _ _ (Ne.symm p2), upd_ne _ _ (by omega)]
      · rw [upd_ne _ _ (Ne.symm n2), upd_ne _ _ (by omega), upd_ne _ _ (Ne.symm p3), upd_ne _ _ (by omega)]
      · exact keepX (.inr (RW.keys_iff.2 (.inl rfl))) (keepX (.inl (by omega)) (keepX (.inr (RW.keys_iff.2 (.inr (.inr (.inr ⟨hW0, rfl⟩))))) (keepX (.inl (by omega)) keepX0)))
  · rintro t2 g2 m2 - ⟨F2, rfl, t0, hk2⟩
    clear h34 hS2 h0 h1 h2 ht
    clear S2
    have hdo2 : (r.wrote (n + 1) k b).down = false := hu
    have hkk : ∀ j, j ∈ ((r.wrote (n + 1) k b).cont d).keys → j ∈ (r.cont d).keys ∨ (n ≤ j ∧ j < n + 2) := fun j hj => by
      rcases wroteR_keys hj with h | h
      · exact .inl h
      · exact .inr ⟨by omega, by omega⟩
    generalize r.wrote (n + 1) k b = q at F2 hr1 hdo2 hkk ⊢
    obtain ⟨S2, hS2, h37, -⟩ := sum_here hS (f := 37) (args := [.p d 0]) (g := g2) (r := .wide fun m => (.b q.trips.1, swap (q.cont d) (q.trips.2.cont d), m)) (fun m => c37 hr1 F2.has hdo2 m)
    obtain ⟨k1, k2, k3⟩ := tripsR_fact F2
    have F3 : RFacts (app (swap (q.cont d) (q.trips.2.cont d)) g2) d q.trips.2 := RFacts.of (Has.swap g2 k2)
    have hgk : ∀ y x, y < n → h y = some x → y ∉ (r.cont d).keys → app (swap (q.cont d) (q.trips.2.cont d)) g2 y = some x := by
      refine keepXs (fun j hj => ?_) (fun j hj => ?_) hk2
      · rcases hkk j hj with h | h
        · exact .inr h
        · exact .inl h.1
      · rcases hkk j (k1 j hj) with h | h
        · exact .inr h
        · exact .inl h.1
    refine AWp.seq ?_
    refine AWp.seq ?_
    refine aw_regionL hS2 (by kernel_rfl) ?_
    repeat (first | apply vr0u | apply vr4 | apply b_tt | apply b_ff | apply b_tf | apply b_ft | apply b_no | exact isD.mk rfl | (apply eqG; (simp only [push_cast, ↓reduceIte, Nat.reduceEqDiff, Nat.reduceAdd, Nat.reduceLeDiff, Nat.reduceLT, Int.reduceLE, Int.reduceLT, Int.reduceAdd, Int.reduceSub, Int.reduceNeg, Int.reduceBEq, Int.reduceBNe, Int.reduceEq, Int.reduceGT, Int.reduceGE, Int.reduceMul, Int.reduceToNat, Nat.reduceMul, reduceCtorEq, t0, h37] <;> rfl)) | exact (rfl : app (swap _ _) _ = _))
    refine vr_nil (aw_then ?_)
    refine aw_split (by (simp only [push_cast, ↓reduceIte, Nat.reduceEqDiff, Nat.reduceAdd, Nat.reduceLeDiff, Nat.reduceLT, Int.reduceLE, Int.reduceLT, Int.reduceAdd, Int.reduceSub, Int.reduceNeg, Int.reduceBEq, Int.reduceBNe, Int.reduceEq, Int.reduceGT, Int.reduceGE, Int.reduceMul, Int.reduceToNat, Nat.reduceMul, reduceCtorEq, t0, h37] <;> rfl)) (fun hx => ?_) (fun hx => ?_)
    · rw [if_pos hx]
      refine AWp.seq ?_
      (refine aw_regionL hS (by kernel_rfl) ?_; repeat (first | apply vr0u | apply vr4 | apply b_tt | apply b_ff | apply b_tf | apply b_ft | apply b_no | exact isD.mk rfl | (apply eqG; (simp only [push_cast, ↓reduceIte, Nat.reduceEqDiff, Nat.reduceAdd, Nat.reduceLeDiff, Nat.reduceLT, Int.reduceLE, Int.reduceLT, Int.reduceAdd, Int.reduceSub, Int.reduceNeg, Int.reduceBEq, Int.reduceBNe, Int.reduceEq, Int.reduceGT, Int.reduceGE, Int.reduceMul, Int.reduceToNat, Nat.reduceMul, reduceCtorEq, t0, h37] <;> rfl)) | exact (rfl : app (swap _ _) _ = _)))
      refine vr_nil (aw_then ?_)
      refine AWp.ret ?_
      exact Out.refd (r' := q.trips.2) (xs := [.i .i64 14]) (.inr rfl) (by simp [Try.f35, resAll, resT]; (simp only [push_cast, ↓reduceIte, Nat.reduceEqDiff, Nat.reduceAdd, Nat.reduceLeDiff, Nat.reduceLT, Int.reduceLE, Int.reduceLT, Int.reduceAdd, Int.reduceSub, Int.reduceNeg, Int.reduceBEq, Int.reduceBNe, Int.reduceEq, Int.reduceGT, Int.reduceGE, Int.reduceMul, Int.reduceToNat, Nat.reduceMul, reduceCtorEq, t0, h37] <;> rfl)) rfl (by show n ≤ n + 2; omega) (Nat.le_refl _) trivial hL hlt F3 (fun j hj => hkk j (k1 j hj)) hgk
    · rw [if_neg (by rw [hx]; simp)]
      refine AWp.skip (aw_then ?_)
      refine AWp.seq ?_
      (refine aw_regionL hS (by kernel_rfl) ?_; repeat (first | apply vr0u | apply vr4 | apply b_tt | apply b_ff | apply b_tf | apply b_ft | apply b_no | exact isD.mk rfl | (apply eqG; (simp only [push_cast, ↓reduceIte, Nat.reduceEqDiff, Nat.reduceAdd, Nat.reduceLeDiff, Nat.reduceLT, Int.reduceLE, Int.reduceLT, Int.reduceAdd, Int.reduceSub, Int.reduceNeg, Int.reduceBEq, Int.reduceBNe, Int.reduceEq, Int.reduceGT, Int.reduceGE, Int.reduceMul, Int.reduceToNat, Nat.reduceMul, reduceCtorEq, t0, h37] <;> rfl)) | exact (rfl : app (swap _ _) _ = _)))
      refine vr_nil (aw_then ?_)
      refine AWp.ret ?_
      exact Out.refd (r' := q.trips.2) (xs := [.i .i64 0]) (.inr rfl) (by simp [Try.f35, resAll, resT]; (simp only [push_cast, ↓reduceIte, Nat.reduceEqDiff, Nat.reduceAdd, Nat.reduceLeDiff, Nat.reduceLT, Int.reduceLE, Int.reduceLT, Int.reduceAdd, Int.reduceSub, Int.reduceNeg, Int.reduceBEq, Int.reduceBNe, Int.reduceEq, Int.reduceGT, Int.reduceGE, Int.reduceMul, Int.reduceToNat, Nat.reduceMul, reduceCtorEq, t0, h37] <;> rfl)) rfl (by show n ≤ n + 2; omega) (Nat.le_refl _) trivial hL hlt F3 (fun j hj => hkk j (k1 j hj)) hgk

end Go.Proofs.Ytepfknnffooaiaa
