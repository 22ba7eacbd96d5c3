import Derived.Test.YtepfknnffooaiaaDkI

namespace Go.Proofs.Ytepfknnffooaiaa
open Go.Av
set_option maxRecDepth 100000
set_option maxHeartbeats 1000000
set_option linter.unusedSimpArgs false
set_option linter.unusedVariables false
attribute [local push_cast] stepE callR resE aeff aev ofC ofC1 put_at Av.put_none inTmps List.getD_cons_zero List.getD_cons_succ AV.boxable if_true if_false AV.cells aload place app_cons app_nil upd_same Av.part abin aconv aindexAddr fillA splice_one abuiltin alen amax amin aun aindex Option.map_some Option.isSome_some List.map_cons List.map_nil List.nil_append List.append_nil List.cons_append Nat.le_refl Nat.zero_add Nat.add_zero List.length_cons List.length_nil List.drop_succ_cons List.drop_zero List.take_succ_cons List.take_zero beq_self_eq_true bne_self_eq_false Bool.not_true Bool.not_false List.set_cons_zero List.set_cons_succ Bool.false_eq_true IntWalk.i64_in decide_true decide_false Int.toNat_zero and_self and_true true_and List.getElem?_cons_zero List.getElem?_cons_succ aappend aapp view Bool.and_true Bool.true_and Nat.mul_one Option.map_none aslice asliceB nilOp Int.toNat_natCast und_30 agT_3 szT_3 kiT_3 agT_4 szT_4 kiT_4 agT_5 szT_5 kiT_5 agT_25 szT_25 kiT_25 agT_28 szT_28 kiT_28 agT_22 szT_22 kiT_22 agT_23 szT_23 kiT_23 agT_30 szT_30 kiT_30 agT_37 szT_37 kiT_37 agT_38 szT_38 kiT_38 agT_52 szT_52 kiT_52 agT_53 szT_53 kiT_53 agT_24 szT_24 kiT_24 agT_54 szT_54 kiT_54 agT_47 szT_47 kiT_47 slT_22 slT_23 slT_30 slT_37 slT_38 slT_52 slT_53 zeT_3 zeT_4 zeT_5 zeT_30 flT_56_0 flT_56_1 flT_56_2 flT_56_3 flT_56_4 agT_56 szT_56 buT_56 zeT_56 flT_58_0 flT_58_1 agT_58 szT_58 buT_58 zeT_58 flT_62_0 flT_62_1 agT_62 szT_62 buT_62 zeT_62 flT_65_0 flT_65_1 flT_65_2 agT_65 szT_65 buT_65 zeT_65 flT_42_0 flT_42_1 flT_42_2 flT_42_3 flT_42_4 flT_42_5 agT_42 szT_42 buT_42 zeT_42 flT_68_0 flT_68_1 flT_68_2 flT_68_3 flT_68_4 flT_68_5 flT_68_6 agT_68 szT_68 buT_68 zeT_68 ptT_24 ptT_54 ptT_47 und_30 

theorem sum_here8 {S : Sums} (hS : SumOk Try.prog S) {f : FuncId} {args : List AV} {g : Heap} {r : Res} (hr : ResOk Try.prog f args g r) : ∃ S6, SumOk Try.prog S6 ∧ S6 f args g = r ∧ ∀ f' a, f' ≠ f ∨ a ≠ args → S6 f' a = S f' a :=
  ⟨_, hS.loc hr, Sums.loc_at, fun f' a hf => by funext k; unfold Sums.loc; exact if_neg fun hc => by rcases hf with h | h; exact h hc.1; exact h hc.2.1⟩

theorem showsK_ro {h : Heap} {J : List Nat} {z : Bool} {keep : List Bool} (hz : z = true → keep = []) : ShowsK h J (.ro z (bools keep) keep.length) z keep := by
  cases z with
  | false => exact .inl ⟨rfl, rfl⟩
  | true => obtain rfl := hz rfl; exact .inr (.inl ⟨rfl, rfl, rfl⟩)
/-- What a write or a sync comes to, as the trip is. -/
def Eff (w : DW) (r : Int) (w' : DW) : Prop := w'.safe.length = w.safe.length ∧ w'.pend.length ≤ w.pend.length + 1 ∧
  ((∃ x, w.trip = some x ∧ x.1 ≤ 1 ∧ r = 14 ∧ w'.off = true ∧ w'.trip = none) ∨ (∃ x, w.trip = some x ∧ 1 < x.1 ∧ r = 0 ∧ w'.off = false ∧ w'.trip = some (x.1 - 1, x.2)) ∨ (w.trip = none ∧ r = 0 ∧ w'.off = false ∧ w'.trip = none))
theorem eff_sync {w : DW} {m : Nat} (ho : w.off = false) : Eff w (w.sync m).1 (w.sync m).2.1 := by
  unfold DW.sync
  rw [if_neg (by rw [ho]; simp)]
  cases ht : w.trip with
  | none =>
    have e : w.trips m = (false, w, m) := by simp only [DW.trips, ht]
    rw [e]
    refine ⟨?_, ?_, .inr (.inr ⟨ht, rfl, ho, ht⟩)⟩
    · show (syncN _ _ _).length = _; exact syncN_len _
    · show ([] : List (Nat × List UInt8)).length ≤ _; simp
  | some x =>
    by_cases hx : x.1 ≤ 1
    · have e : w.trips m = (true, w.crash x.2.2.1 x.2.2.2 (m + w.pend.length), m + w.pend.length + 1) := by simp only [DW.trips, ht]; rw [if_pos hx]
      rw [e]
      refine ⟨?_, ?_, .inl ⟨x, ht, hx, rfl, rfl, rfl⟩⟩
      · show (crashN _ _ _ _ _).length = _; exact crashN_len _
      · show ([] : List (Nat × List UInt8)).length ≤ _; simp
    · have e : w.trips m = (false, { w with trip := some (x.1 - 1, x.2) }, m) := by simp only [DW.trips, ht]; rw [if_neg hx]
      rw [e]
      refine ⟨?_, ?_, .inr (.inl ⟨x, ht, by omega, rfl, ho, rfl⟩)⟩
      · show (syncN _ _ _).length = _; exact syncN_len _
      · show ([] : List (Nat × List UInt8)).length ≤ _; simp
theorem eff_write {w : DW} {m : Nat} {i : Int} {b : List UInt8} (ho : w.off = false) (h0 : 0 ≤ i) (h1 : i < w.safe.length) (hb : b.length = 64) : Eff w (w.write m i b).1 (w.write m i b).2.1 := by
  have h2 : wrongE w.off w.safe.length i = 0 := by simp only [wrongE, ho, Bool.false_eq_true, if_false]; rw [if_neg (by omega)]
  unfold DW.write
  rw [if_neg (by omega), if_neg (by omega)]
  cases ht : w.trip with
  | none =>
    have e : (w.wrote (m + 1) i.toNat b).trips (m + 2) = (false, w.wrote (m + 1) i.toNat b, m + 2) := by simp only [DW.trips, DW.wrote, ht]
    rw [e]
    exact ⟨rfl, by show (w.pend ++ _).length ≤ _; simp, .inr (.inr ⟨ht, rfl, ho, ht⟩)⟩
  | some x =>
    by_cases hx : x.1 ≤ 1
    · have e : (w.wrote (m + 1) i.toNat b).trips (m + 2) = (true, (w.wrote (m + 1) i.toNat b).crash x.2.2.1 x.2.2.2 (m + 2 + (w.wrote (m + 1) i.toNat b).pend.length), m + 2 + (w.wrote (m + 1) i.toNat b).pend.length + 1) := by
        have ht' : (w.wrote (m + 1) i.toNat b).trip = some x := ht
        simp only [DW.trips, ht']; rw [if_pos hx]
      rw [e]
      refine ⟨?_, ?_, .inl ⟨x, ht, hx, rfl, rfl, rfl⟩⟩
      · show (crashN _ _ _ _ _).length = _; exact crashN_len _
      · show ([] : List (Nat × List UInt8)).length ≤ _; simp
    · have e : (w.wrote (m + 1) i.toNat b).trips (m + 2) = (false, { w.wrote (m + 1) i.toNat b with trip := some (x.1 - 1, x.2) }, m + 2) := by
        have ht' : (w.wrote (m + 1) i.toNat b).trip = some x := ht
        simp only [DW.trips, ht']; rw [if_neg hx]
      rw [e]
      exact ⟨rfl, by show (w.pend ++ _).length ≤ _; simp, .inr (.inl ⟨x, ht, by omega, rfl, ho, rfl⟩)⟩
theorem byte_cells {i : Nat} (hi : i < 256) : [AV.i .u8 (IntKind.wrap .u8 (i : Int))] = cellsB [UInt8.ofNat i] := by
  have h1 : IntKind.wrap .u8 (i : Int) = ((UInt8.ofNat i).toNat : Int) := by
    rw [IntKind.wrap_u8]
    have : (UInt8.ofNat i).toNat = i := by simp; omega
    rw [this]; omega
  rw [h1]; rfl
theorem at12e {h : Heap} {d : Nat} {w : DW} (F : DFacts h d w) : DE 12 [.p d 0] h = .pure (.b w.off) := at12' F
theorem at9e {x : AV} {b : List UInt8} {h : Heap} (hb : b.length ≤ 1000000) (hx : x = .ro false (cellsB b) b.length ∨ (x = .ro true [] 0 ∧ b = []) ∨ ∃ j, x = .sl 1 j 0 b.length ∧ h j = some (.cells (cellsB b))) : DE 9 [x] h = .pure (.ro false (cellsB (sectorB b)) 64) := at9 hb hx
theorem shows_sec {h : Heap} {J : List Nat} {b : List UInt8} : Shows h J (.ro false (cellsB (sectorB b)) 64) (sectorB b) := .inl (by rw [sectorB_len])
theorem c5 (nn : Int) (z1 z2 : Bool) (syncs keep : List Bool) (torn : Int) (hn1 : nn ≤ 9223372036854775807) (hz1 : z1 = true → syncs = []) (hz2 : z2 = true → keep = []) :
    PCalls Try.prog 5 [.i .i64 nn, .ro z1 (bools syncs) syncs.length, .ro z2 (bools keep) keep.length, .i .i64 torn] (.b true) := by
  intro h n
  have hS := ok_DE
  have h7 : DE 7 [.i .i64 4] h = .wide (fun n => (.tup [.p n 0, .i .i64 0], swap [] ((newW 4 n).cont n), n + 1 + 3 * 4 + 1)) := at7 (N := 4) (by decide) (by decide) h
  refine DCalls.of Try.func5 rfl (by decide) (Nat.le_of_ble_eq_true rfl) (Nat.le_refl _) ?_
  refine AWp.seq ?_
  (refine aw_regionL hS (by kernel_rfl) ?_; repeat (first | apply vr0u | apply vr4 | apply b_tt | apply b_ff | apply b_tf | apply b_ft | apply b_no | exact isD.mk rfl | (apply eqG; (simp only [push_cast, ↓reduceIte, Nat.reduceEqDiff, Nat.reduceAdd, Nat.reduceLeDiff, Nat.reduceLT, Int.reduceLE, Int.reduceLT, Int.reduceAdd, Int.reduceSub, Int.reduceNeg, Int.reduceBEq, Int.reduceBNe, Int.reduceEq, Int.reduceGT, Int.reduceGE, Int.reduceMul, Int.reduceToNat, Nat.reduceMul, reduceCtorEq, h7] <;> rfl)) | exact (rfl : app (swap _ _) _ = _)))
  refine vr_nil (aw_then ?_)
  refine AWp.cut (fun t' h' n' => (syncs.length ≤ 60 ∧ keep.length ≤ 100) ∧ t' 0 = .i .i64 nn ∧ t' 1 = .ro z1 (bools syncs) syncs.length ∧ t' 2 = .ro z2 (bools keep) keep.length ∧ t' 3 = .i .i64 torn ∧ h = h' ∧ n = n') ?_ ?_
  · refine AWp.seq ?_
    (refine aw_regionL hS (by kernel_rfl) ?_; repeat (first | apply vr0u | apply vr4 | apply b_tt | apply b_ff | apply b_tf | apply b_ft | apply b_no | exact isD.mk rfl | (apply eqG; (simp only [push_cast, ↓reduceIte, Nat.reduceEqDiff, Nat.reduceAdd, Nat.reduceLeDiff, Nat.reduceLT, Int.reduceLE, Int.reduceLT, Int.reduceAdd, Int.reduceSub, Int.reduceNeg, Int.reduceBEq, Int.reduceBNe, Int.reduceEq, Int.reduceGT, Int.reduceGE, Int.reduceMul, Int.reduceToNat, Nat.reduceMul, reduceCtorEq, h7] <;> rfl)) | exact (rfl : app (swap _ _) _ = _)))
    refine br_s (by (simp only [push_cast, ↓reduceIte, Nat.reduceEqDiff, Nat.reduceAdd, Nat.reduceLeDiff, Nat.reduceLT, Int.reduceLE, Int.reduceLT, Int.reduceAdd, Int.reduceSub, Int.reduceNeg, Int.reduceBEq, Int.reduceBNe, Int.reduceEq, Int.reduceGT, Int.reduceGE, Int.reduceMul, Int.reduceToNat, Nat.reduceMul, reduceCtorEq, h7] <;> rfl)) (fun hu => ?_) (fun hu => ?_)
    · repeat (first | apply vr0u | apply vr4 | apply b_tt | apply b_ff | apply b_tf | apply b_ft | apply b_no | exact isD.mk rfl | (apply eqG; (simp only [push_cast, ↓reduceIte, Nat.reduceEqDiff, Nat.reduceAdd, Nat.reduceLeDiff, Nat.reduceLT, Int.reduceLE, Int.reduceLT, Int.reduceAdd, Int.reduceSub, Int.reduceNeg, Int.reduceBEq, Int.reduceBNe, Int.reduceEq, Int.reduceGT, Int.reduceGE, Int.reduceMul, Int.reduceToNat, Nat.reduceMul, reduceCtorEq, h7] <;> rfl)) | exact (rfl : app (swap _ _) _ = _))
      refine vr_nil (aw_then ?_)
      refine aw_true (by (simp only [push_cast, ↓reduceIte, Nat.reduceEqDiff, Nat.reduceAdd, Nat.reduceLeDiff, Nat.reduceLT, Int.reduceLE, Int.reduceLT, Int.reduceAdd, Int.reduceSub, Int.reduceNeg, Int.reduceBEq, Int.reduceBNe, Int.reduceEq, Int.reduceGT, Int.reduceGE, Int.reduceMul, Int.reduceToNat, Nat.reduceMul, reduceCtorEq, h7] <;> rfl)) ?_
      refine AWp.seq ?_
      (refine aw_regionL hS (by kernel_rfl) ?_; repeat (first | apply vr0u | apply vr4 | apply b_tt | apply b_ff | apply b_tf | apply b_ft | apply b_no | exact isD.mk rfl | (apply eqG; (simp only [push_cast, ↓reduceIte, Nat.reduceEqDiff, Nat.reduceAdd, Nat.reduceLeDiff, Nat.reduceLT, Int.reduceLE, Int.reduceLT, Int.reduceAdd, Int.reduceSub, Int.reduceNeg, Int.reduceBEq, Int.reduceBNe, Int.reduceEq, Int.reduceGT, Int.reduceGE, Int.reduceMul, Int.reduceToNat, Nat.reduceMul, reduceCtorEq, h7] <;> rfl)) | exact (rfl : app (swap _ _) _ = _)))
      refine vr_nil (aw_then ?_)
      refine AWp.ret ?_
      exact Out.yes (.inr rfl) rfl (by (simp only [push_cast, ↓reduceIte, Nat.reduceEqDiff, Nat.reduceAdd, Nat.reduceLeDiff, Nat.reduceLT, Int.reduceLE, Int.reduceLT, Int.reduceAdd, Int.reduceSub, Int.reduceNeg, Int.reduceBEq, Int.reduceBNe, Int.reduceEq, Int.reduceGT, Int.reduceGE, Int.reduceMul, Int.reduceToNat, Nat.reduceMul, reduceCtorEq, h7] <;> rfl)) keep0
    · have hu := of_decide_eq_false hu
      repeat (first | apply vr0u | apply vr4 | apply b_tt | apply b_ff | apply b_tf | apply b_ft | apply b_no | exact isD.mk rfl | (apply eqG; (simp only [push_cast, ↓reduceIte, Nat.reduceEqDiff, Nat.reduceAdd, Nat.reduceLeDiff, Nat.reduceLT, Int.reduceLE, Int.reduceLT, Int.reduceAdd, Int.reduceSub, Int.reduceNeg, Int.reduceBEq, Int.reduceBNe, Int.reduceEq, Int.reduceGT, Int.reduceGE, Int.reduceMul, Int.reduceToNat, Nat.reduceMul, reduceCtorEq, h7] <;> rfl)) | exact (rfl : app (swap _ _) _ = _))
      refine vr_nil (aw_then ?_)
      refine aw_split (by (simp only [push_cast, ↓reduceIte, Nat.reduceEqDiff, Nat.reduceAdd, Nat.reduceLeDiff, Nat.reduceLT, Int.reduceLE, Int.reduceLT, Int.reduceAdd, Int.reduceSub, Int.reduceNeg, Int.reduceBEq, Int.reduceBNe, Int.reduceEq, Int.reduceGT, Int.reduceGE, Int.reduceMul, Int.reduceToNat, Nat.reduceMul, reduceCtorEq, h7] <;> rfl)) (fun hv => ?_) (fun hv => ?_)
      · refine AWp.seq ?_
        (refine aw_regionL hS (by kernel_rfl) ?_; repeat (first | apply vr0u | apply vr4 | apply b_tt | apply b_ff | apply b_tf | apply b_ft | apply b_no | exact isD.mk rfl | (apply eqG; (simp only [push_cast, ↓reduceIte, Nat.reduceEqDiff, Nat.reduceAdd, Nat.reduceLeDiff, Nat.reduceLT, Int.reduceLE, Int.reduceLT, Int.reduceAdd, Int.reduceSub, Int.reduceNeg, Int.reduceBEq, Int.reduceBNe, Int.reduceEq, Int.reduceGT, Int.reduceGE, Int.reduceMul, Int.reduceToNat, Nat.reduceMul, reduceCtorEq, h7] <;> rfl)) | exact (rfl : app (swap _ _) _ = _)))
        refine vr_nil (aw_then ?_)
        refine AWp.ret ?_
        exact Out.yes (.inr rfl) rfl (by (simp only [push_cast, ↓reduceIte, Nat.reduceEqDiff, Nat.reduceAdd, Nat.reduceLeDiff, Nat.reduceLT, Int.reduceLE, Int.reduceLT, Int.reduceAdd, Int.reduceSub, Int.reduceNeg, Int.reduceBEq, Int.reduceBNe, Int.reduceEq, Int.reduceGT, Int.reduceGE, Int.reduceMul, Int.reduceToNat, Nat.reduceMul, reduceCtorEq, h7] <;> rfl)) keep0
      · have hv := of_decide_eq_false hv
        exact AWp.skip (aw_then ⟨⟨by omega, by omega⟩, by (simp only [push_cast, ↓reduceIte, Nat.reduceEqDiff, Nat.reduceAdd, Nat.reduceLeDiff, Nat.reduceLT, Int.reduceLE, Int.reduceLT, Int.reduceAdd, Int.reduceSub, Int.reduceNeg, Int.reduceBEq, Int.reduceBNe, Int.reduceEq, Int.reduceGT, Int.reduceGE, Int.reduceMul, Int.reduceToNat, Nat.reduceMul, reduceCtorEq, h7] <;> rfl), by (simp only [push_cast, ↓reduceIte, Nat.reduceEqDiff, Nat.reduceAdd, Nat.reduceLeDiff, Nat.reduceLT, Int.reduceLE, Int.reduceLT, Int.reduceAdd, Int.reduceSub, Int.reduceNeg, Int.reduceBEq, Int.reduceBNe, Int.reduceEq, Int.reduceGT, Int.reduceGE, Int.reduceMul, Int.reduceToNat, Nat.reduceMul, reduceCtorEq, h7] <;> rfl), by (simp only [push_cast, ↓reduceIte, Nat.reduceEqDiff, Nat.reduceAdd, Nat.reduceLeDiff, Nat.reduceLT, Int.reduceLE, Int.reduceLT, Int.reduceAdd, Int.reduceSub, Int.reduceNeg, Int.reduceBEq, Int.reduceBNe, Int.reduceEq, Int.reduceGT, Int.reduceGE, Int.reduceMul, Int.reduceToNat, Nat.reduceMul, reduceCtorEq, h7] <;> rfl), by (simp only [push_cast, ↓reduceIte, Nat.reduceEqDiff, Nat.reduceAdd, Nat.reduceLeDiff, Nat.reduceLT, Int.reduceLE, Int.reduceLT, Int.reduceAdd, Int.reduceSub, Int.reduceNeg, Int.reduceBEq, Int.reduceBNe, Int.reduceEq, Int.reduceGT, Int.reduceGE, Int.reduceMul, Int.reduceToNat, Nat.reduceMul, reduceCtorEq, h7] <;> rfl), rfl, rfl⟩)
  rintro s hq nq - ⟨⟨hsl, hkl⟩, h0, h1, h2, h3, rfl, rfl⟩
  refine AWp.seq ?_
  (refine aw_regionL hS (by kernel_rfl) ?_; repeat (first | apply vr0u | apply vr4 | apply b_tt | apply b_ff | apply b_tf | apply b_ft | apply b_no | exact isD.mk rfl | (apply eqG; (simp only [push_cast, ↓reduceIte, Nat.reduceEqDiff, Nat.reduceAdd, Nat.reduceLeDiff, Nat.reduceLT, Int.reduceLE, Int.reduceLT, Int.reduceAdd, Int.reduceSub, Int.reduceNeg, Int.reduceBEq, Int.reduceBNe, Int.reduceEq, Int.reduceGT, Int.reduceGE, Int.reduceMul, Int.reduceToNat, Nat.reduceMul, reduceCtorEq, h7, h0, h1, h2, h3] <;> rfl)) | exact (rfl : app (swap _ _) _ = _)))
  refine vr_nil (aw_then ?_)
  have A1 := At.tNew (h0 := h) (n0 := n) (m := n) (N := 4) (by decide) (by decide) (Nat.le_refl _) keep0
  have f1 : (newW 4 n).off = false ∧ (newW 4 n).safe.length = 4 ∧ (newW 4 n).pend = [] := ⟨rfl, rfl, rfl⟩
  generalize newW 4 n = w1 at A1 f1 ⊢
  generalize app (swap [] (w1.cont n)) h = g1 at A1 ⊢
  generalize n + 1 + 3 * 4 + 1 = m1 at A1 ⊢
  obtain ⟨o1, s1, p1⟩ := f1
  refine AWp.seq ?_
  refine AWp.seq ?_
  (refine aw_regionL hS (by kernel_rfl) ?_; repeat (first | apply vr0u | apply vr4 | apply b_tt | apply b_ff | apply b_tf | apply b_ft | apply b_no | exact isD.mk rfl | (apply eqG; (simp only [push_cast, ↓reduceIte, Nat.reduceEqDiff, Nat.reduceAdd, Nat.reduceLeDiff, Nat.reduceLT, Int.reduceLE, Int.reduceLT, Int.reduceAdd, Int.reduceSub, Int.reduceNeg, Int.reduceBEq, Int.reduceBNe, Int.reduceEq, Int.reduceGT, Int.reduceGE, Int.reduceMul, Int.reduceToNat, Nat.reduceMul, reduceCtorEq, h7, h0, h1, h2, h3] <;> rfl)) | exact (rfl : app (swap _ _) _ = _)))
  refine vr_nil (aw_then ?_)
  refine aw_false (by (simp only [push_cast, ↓reduceIte, Nat.reduceEqDiff, Nat.reduceAdd, Nat.reduceLeDiff, Nat.reduceLT, Int.reduceLE, Int.reduceLT, Int.reduceAdd, Int.reduceSub, Int.reduceNeg, Int.reduceBEq, Int.reduceBNe, Int.reduceEq, Int.reduceGT, Int.reduceGE, Int.reduceMul, Int.reduceToNat, Nat.reduceMul, reduceCtorEq, h7, h0, h1, h2, h3] <;> rfl)) (AWp.skip (aw_then ?_))
  obtain ⟨S2, hS2, h17, -⟩ := sum_here ok_DE (A1.s17 3 (x := .ro true [] 0) (z := true) (keep := []) (by decide) (.inr (.inl ⟨rfl, rfl, rfl⟩)) 0)
  refine AWp.seq ?_
  refine aw_regionL hS2 (by kernel_rfl) ?_
  repeat (first | apply vr0u | apply vr4 | apply b_tt | apply b_ff | apply b_tf | apply b_ft | apply b_no | exact isD.mk rfl | (apply eqG; (simp only [push_cast, ↓reduceIte, Nat.reduceEqDiff, Nat.reduceAdd, Nat.reduceLeDiff, Nat.reduceLT, Int.reduceLE, Int.reduceLT, Int.reduceAdd, Int.reduceSub, Int.reduceNeg, Int.reduceBEq, Int.reduceBNe, Int.reduceEq, Int.reduceGT, Int.reduceGE, Int.reduceMul, Int.reduceToNat, Nat.reduceMul, reduceCtorEq, h0, h1, h2, h3, h17] <;> rfl)) | exact (rfl : app (swap _ _) _ = _))
  refine vr_nil (aw_then ?_)
  have A2 := A1.turn (A1.tArm (k := 3) (by decide) (z := true) (keep := []) (fun _ => rfl) (by decide) 0)
  have f2 : (w1.arm m1 3 true [] 0).1.off = false ∧ (w1.arm m1 3 true [] 0).1.safe.length = 4 ∧ (w1.arm m1 3 true [] 0).1.pend = [] := ⟨o1, s1, p1⟩
  generalize w1.arm m1 3 true [] 0 = q2 at A2 f2 ⊢
  obtain ⟨w2, m2⟩ := q2
  simp only at A2 f2 ⊢
  clear h17 hS2
  clear S2
  obtain ⟨o2, s2, p2⟩ := f2
  generalize app (swap (w1.cont n) (w2.cont n)) g1 = g2 at A2 ⊢
  obtain ⟨S2, hS2, h17, -⟩ := sum_here ok_DE (A2.s17 nn (by omega) (showsK_ro hz2) torn)
  refine AWp.seq ?_
  refine aw_regionL hS2 (by kernel_rfl) ?_
  repeat (first | apply vr0u | apply vr4 | apply b_tt | apply b_ff | apply b_tf | apply b_ft | apply b_no | exact isD.mk rfl | (apply eqG; (simp only [push_cast, ↓reduceIte, Nat.reduceEqDiff, Nat.reduceAdd, Nat.reduceLeDiff, Nat.reduceLT, Int.reduceLE, Int.reduceLT, Int.reduceAdd, Int.reduceSub, Int.reduceNeg, Int.reduceBEq, Int.reduceBNe, Int.reduceEq, Int.reduceGT, Int.reduceGE, Int.reduceMul, Int.reduceToNat, Nat.reduceMul, reduceCtorEq, h0, h1, h2, h3, h17] <;> rfl)) | exact (rfl : app (swap _ _) _ = _))
  refine vr_nil (aw_then ?_)
  have A3 := A2.turn (A2.tArm hn1 hz2 (by omega) torn)
  have f3 : (w2.arm m2 nn z2 keep torn).1.off = false ∧ (w2.arm m2 nn z2 keep torn).1.safe.length = 4 ∧ (w2.arm m2 nn z2 keep torn).1.pend = [] ∧ (1 ≤ nn → (w2.arm m2 nn z2 keep torn).1.trip = some (nn, z2, keep, torn)) ∧ (¬ 1 ≤ nn → (w2.arm m2 nn z2 keep torn).1.trip = none) := by
    unfold DW.arm
    split
    · exact ⟨o2, s2, p2, fun _ => rfl, fun hc => absurd ‹1 ≤ nn› hc⟩
    · exact ⟨o2, s2, p2, fun hc => absurd hc ‹¬ 1 ≤ nn›, fun _ => rfl⟩
  generalize w2.arm m2 nn z2 keep torn = q3 at A3 f3 ⊢
  obtain ⟨w3, m3⟩ := q3
  simp only at A3 f3 ⊢
  clear h17 hS2
  clear S2
  obtain ⟨o3, s3, p3, a3, b3⟩ := f3
  generalize app (swap (w2.cont n) (w3.cont n)) g2 = g3 at A3 ⊢
  refine AWp.cut (fun t' h' n' => ∃ w, At h n h' n' n w ∧ t' 9 = .p n 0 ∧ w.off = false ∧ w.safe.length = 4 ∧ w.pend.length ≤ 60) ?_ ?_
  · refine AWp.seq ?_
    (refine aw_regionL hS (by kernel_rfl) ?_; repeat (first | apply vr0u | apply vr4 | apply b_tt | apply b_ff | apply b_tf | apply b_ft | apply b_no | exact isD.mk rfl | (apply eqG; (simp only [push_cast, ↓reduceIte, Nat.reduceEqDiff, Nat.reduceAdd, Nat.reduceLeDiff, Nat.reduceLT, Int.reduceLE, Int.reduceLT, Int.reduceAdd, Int.reduceSub, Int.reduceNeg, Int.reduceBEq, Int.reduceBNe, Int.reduceEq, Int.reduceGT, Int.reduceGE, Int.reduceMul, Int.reduceToNat, Nat.reduceMul, reduceCtorEq, h0, h1, h2, h3] <;> rfl)) | exact (rfl : app (swap _ _) _ = _)))
    refine vr_nil (aw_then ?_)
    refine AWp.block ?_
    refine AWp.loop (fun m t' h' n' => ∃ (k : Nat) (w : DW), m = syncs.length - k ∧ k ≤ syncs.length ∧ At h n h' n' n w ∧ t' 0 = .i .i64 nn ∧ t' 1 = .ro z1 (bools syncs) syncs.length ∧ t' 9 = .p n 0 ∧ t' 11 = .i .i64 (k : Int) ∧ w.off = false ∧ w.safe.length = 4 ∧ w.pend.length ≤ k ∧
      (1 ≤ nn ∧ (k : Int) < nn → ∃ y, w.trip = some (nn - k, y)) ∧ (¬ (1 ≤ nn ∧ (k : Int) < nn) → w.trip = none)) syncs.length ?_ ?_
    · exact ⟨0, w3, rfl, Nat.zero_le _, A3, by (simp only [push_cast, ↓reduceIte, Nat.reduceEqDiff, Nat.reduceAdd, Nat.reduceLeDiff, Nat.reduceLT, Int.reduceLE, Int.reduceLT, Int.reduceAdd, Int.reduceSub, Int.reduceNeg, Int.reduceBEq, Int.reduceBNe, Int.reduceEq, Int.reduceGT, Int.reduceGE, Int.reduceMul, Int.reduceToNat, Nat.reduceMul, reduceCtorEq, h0, h1, h2, h3] <;> rfl), by (simp only [push_cast, ↓reduceIte, Nat.reduceEqDiff, Nat.reduceAdd, Nat.reduceLeDiff, Nat.reduceLT, Int.reduceLE, Int.reduceLT, Int.reduceAdd, Int.reduceSub, Int.reduceNeg, Int.reduceBEq, Int.reduceBNe, Int.reduceEq, Int.reduceGT, Int.reduceGE, Int.reduceMul, Int.reduceToNat, Nat.reduceMul, reduceCtorEq, h0, h1, h2, h3] <;> rfl), by (simp only [push_cast, ↓reduceIte, Nat.reduceEqDiff, Nat.reduceAdd, Nat.reduceLeDiff, Nat.reduceLT, Int.reduceLE, Int.reduceLT, Int.reduceAdd, Int.reduceSub, Int.reduceNeg, Int.reduceBEq, Int.reduceBNe, Int.reduceEq, Int.reduceGT, Int.reduceGE, Int.reduceMul, Int.reduceToNat, Nat.reduceMul, reduceCtorEq, h0, h1, h2, h3] <;> rfl), by (simp only [push_cast, ↓reduceIte, Nat.reduceEqDiff, Nat.reduceAdd, Nat.reduceLeDiff, Nat.reduceLT, Int.reduceLE, Int.reduceLT, Int.reduceAdd, Int.reduceSub, Int.reduceNeg, Int.reduceBEq, Int.reduceBNe, Int.reduceEq, Int.reduceGT, Int.reduceGE, Int.reduceMul, Int.reduceToNat, Nat.reduceMul, reduceCtorEq, h0, h1, h2, h3] <;> rfl), o3, s3, by rw [p3]; exact Nat.le_refl _, fun hc => ⟨_, by rw [a3 hc.1]; simp; rfl⟩, fun hc => b3 (by simp at hc; omega)⟩
    · rintro m t' h' n' - ⟨k, w, rfl, hkl', A, t0, t1, t9, t11, ho, hs, hp, hy, hno⟩
      by_cases hk : k < syncs.length
      · have q1 : ((k : Int) < (syncs.length : Int)) = True := by simp [hk]
        have q2 : (0 ≤ (k : Int) ∧ (k : Int) < (syncs.length : Int)) = True := by simp [hk]
        have q3 := bools_get hk
        have w1' : IntKind.wrap .i64 ((k : Int) + 1) = (k : Int) + 1 := IntWalk.i64_in _ (by omega)
        have hb1 := byte_cells (i := k) (by omega)
        have r1 : rep 1 [AV.i .u8 0] = [.i .u8 0] := rfl
        have r2 : splice [AV.i .u8 0] 0 (cellsB [UInt8.ofNat k]) = cellsB [UInt8.ofNat k] := rfl
        obtain ⟨c, hc, hc4⟩ : ∃ c : Nat, Int.tmod (k : Int) 4 = (c : Int) ∧ c < 4 := ⟨k % 4, by rw [Int.tmod_eq_emod_of_nonneg (by omega)]; omega, by omega⟩
        refine AWp.seq ?_
        refine AWp.seq ?_
        (refine aw_regionL hS (by kernel_rfl) ?_; repeat (first | apply vr0u | apply vr4 | apply b_tt | apply b_ff | apply b_tf | apply b_ft | apply b_no | exact isD.mk rfl | (apply eqG; (simp only [push_cast, ↓reduceIte, Nat.reduceEqDiff, Nat.reduceAdd, Nat.reduceLeDiff, Nat.reduceLT, Int.reduceLE, Int.reduceLT, Int.reduceAdd, Int.reduceSub, Int.reduceNeg, Int.reduceBEq, Int.reduceBNe, Int.reduceEq, Int.reduceGT, Int.reduceGE, Int.reduceMul, Int.reduceToNat, Nat.reduceMul, reduceCtorEq, t0, t1, t9, t11, q1, q2, q3, w1'] <;> rfl)) | exact (rfl : app (swap _ _) _ = _)))
        refine vr_nil (aw_then ?_)
        refine aw_true (by (simp only [push_cast, ↓reduceIte, Nat.reduceEqDiff, Nat.reduceAdd, Nat.reduceLeDiff, Nat.reduceLT, Int.reduceLE, Int.reduceLT, Int.reduceAdd, Int.reduceSub, Int.reduceNeg, Int.reduceBEq, Int.reduceBNe, Int.reduceEq, Int.reduceGT, Int.reduceGE, Int.reduceMul, Int.reduceToNat, Nat.reduceMul, reduceCtorEq, t0, t1, t9, t11, q1, q2, q3, w1'] <;> rfl)) (AWp.skip (aw_then ?_))
        refine AWp.seq ?_
        refine AWp.block ?_
        refine AWp.seq ?_
        (refine aw_regionL hS (by kernel_rfl) ?_; repeat (first | apply vr0u | apply vr4 | apply b_tt | apply b_ff | apply b_tf | apply b_ft | apply b_no | exact isD.mk rfl | (apply eqG; (simp only [push_cast, ↓reduceIte, Nat.reduceEqDiff, Nat.reduceAdd, Nat.reduceLeDiff, Nat.reduceLT, Int.reduceLE, Int.reduceLT, Int.reduceAdd, Int.reduceSub, Int.reduceNeg, Int.reduceBEq, Int.reduceBNe, Int.reduceEq, Int.reduceGT, Int.reduceGE, Int.reduceMul, Int.reduceToNat, Nat.reduceMul, reduceCtorEq, t0, t1, t9, t11, q1, q2, q3, w1'] <;> rfl)) | exact (rfl : app (swap _ _) _ = _)))
        refine vr_nil (aw_then ?_)
        refine AWp.cut (fun t' h' n' => ∃ r w', At h n h' n' n w' ∧ Eff w r w' ∧ t' 0 = .i .i64 nn ∧ t' 1 = .ro z1 (bools syncs) syncs.length ∧ t' 9 = .p n 0 ∧ t' 11 = .i .i64 (k : Int) ∧ t' 12 = .i .i64 r) ?_ ?_
        · refine AWp.seq ?_
          (refine aw_regionL hS (by kernel_rfl) ?_; repeat (first | apply vr0u | apply vr4 | apply b_tt | apply b_ff | apply b_tf | apply b_ft | apply b_no | exact isD.mk rfl | (apply eqG; (simp only [push_cast, ↓reduceIte, Nat.reduceEqDiff, Nat.reduceAdd, Nat.reduceLeDiff, Nat.reduceLT, Int.reduceLE, Int.reduceLT, Int.reduceAdd, Int.reduceSub, Int.reduceNeg, Int.reduceBEq, Int.reduceBNe, Int.reduceEq, Int.reduceGT, Int.reduceGE, Int.reduceMul, Int.reduceToNat, Nat.reduceMul, reduceCtorEq, t0, t1, t9, t11, q1, q2, q3, w1'] <;> rfl)) | exact (rfl : app (swap _ _) _ = _)))
          refine vr_nil (aw_then ?_)
          refine aw_split (by (simp only [push_cast, ↓reduceIte, Nat.reduceEqDiff, Nat.reduceAdd, Nat.reduceLeDiff, Nat.reduceLT, Int.reduceLE, Int.reduceLT, Int.reduceAdd, Int.reduceSub, Int.reduceNeg, Int.reduceBEq, Int.reduceBNe, Int.reduceEq, Int.reduceGT, Int.reduceGE, Int.reduceMul, Int.reduceToNat, Nat.reduceMul, reduceCtorEq, t0, t1, t9, t11, q1, q2, q3, w1'] <;> rfl)) (fun hv => ?_) (fun hv => ?_)
          · obtain ⟨S2, hS2, h16, -⟩ := sum_here ok_DE (A.s16 (by omega))
            refine aw_regionL hS2 (by kernel_rfl) ?_
            repeat (first | apply vr0u | apply vr4 | apply b_tt | apply b_ff | apply b_tf | apply b_ft | apply b_no | exact isD.mk rfl | (apply eqG; (simp only [push_cast, ↓reduceIte, Nat.reduceEqDiff, Nat.reduceAdd, Nat.reduceLeDiff, Nat.reduceLT, Int.reduceLE, Int.reduceLT, Int.reduceAdd, Int.reduceSub, Int.reduceNeg, Int.reduceBEq, Int.reduceBNe, Int.reduceEq, Int.reduceGT, Int.reduceGE, Int.reduceMul, Int.reduceToNat, Nat.reduceMul, reduceCtorEq, t0, t1, t9, t11, q1, q2, q3, w1', h16] <;> rfl)) | exact (rfl : app (swap _ _) _ = _))
            refine vr_nil (aw_then ⟨_, _, A.turn A.tSync, eff_sync ho, by (simp only [push_cast, ↓reduceIte, Nat.reduceEqDiff, Nat.reduceAdd, Nat.reduceLeDiff, Nat.reduceLT, Int.reduceLE, Int.reduceLT, Int.reduceAdd, Int.reduceSub, Int.reduceNeg, Int.reduceBEq, Int.reduceBNe, Int.reduceEq, Int.reduceGT, Int.reduceGE, Int.reduceMul, Int.reduceToNat, Nat.reduceMul, reduceCtorEq, t0, t1, t9, t11, q1, q2, q3, w1', h16] <;> rfl), by (simp only [push_cast, ↓reduceIte, Nat.reduceEqDiff, Nat.reduceAdd, Nat.reduceLeDiff, Nat.reduceLT, Int.reduceLE, Int.reduceLT, Int.reduceAdd, Int.reduceSub, Int.reduceNeg, Int.reduceBEq, Int.reduceBNe, Int.reduceEq, Int.reduceGT, Int.reduceGE, Int.reduceMul, Int.reduceToNat, Nat.reduceMul, reduceCtorEq, t0, t1, t9, t11, q1, q2, q3, w1', h16] <;> rfl), by (simp only [push_cast, ↓reduceIte, Nat.reduceEqDiff, Nat.reduceAdd, Nat.reduceLeDiff, Nat.reduceLT, Int.reduceLE, Int.reduceLT, Int.reduceAdd, Int.reduceSub, Int.reduceNeg, Int.reduceBEq, Int.reduceBNe, Int.reduceEq, Int.reduceGT, Int.reduceGE, Int.reduceMul, Int.reduceToNat, Nat.reduceMul, reduceCtorEq, t0, t1, t9, t11, q1, q2, q3, w1', h16] <;> rfl), by (simp only [push_cast, ↓reduceIte, Nat.reduceEqDiff, Nat.reduceAdd, Nat.reduceLeDiff, Nat.reduceLT, Int.reduceLE, Int.reduceLT, Int.reduceAdd, Int.reduceSub, Int.reduceNeg, Int.reduceBEq, Int.reduceBNe, Int.reduceEq, Int.reduceGT, Int.reduceGE, Int.reduceMul, Int.reduceToNat, Nat.reduceMul, reduceCtorEq, t0, t1, t9, t11, q1, q2, q3, w1', h16] <;> rfl), by (simp only [push_cast, ↓reduceIte, Nat.reduceEqDiff, Nat.reduceAdd, Nat.reduceLeDiff, Nat.reduceLT, Int.reduceLE, Int.reduceLT, Int.reduceAdd, Int.reduceSub, Int.reduceNeg, Int.reduceBEq, Int.reduceBNe, Int.reduceEq, Int.reduceGT, Int.reduceGE, Int.reduceMul, Int.reduceToNat, Nat.reduceMul, reduceCtorEq, t0, t1, t9, t11, q1, q2, q3, w1', h16] <;> rfl)⟩)
          · have A' := (A.upd (j := n') A.le A.new (some (.cells (cellsB [UInt8.ofNat k])))).more (Nat.le_succ n')
            have h9 : DE 9 [.sl 1 n' 0 1] (upd h' n' (some (.cells (cellsB [UInt8.ofNat k])))) = .pure (.ro false (cellsB (sectorB [UInt8.ofNat k])) 64) := at9e (by simp) (.inr (.inr ⟨n', rfl, upd_same ..⟩))
            obtain ⟨S2, hS2, h8, hne⟩ := sum_here ok_DE (A'.s8 (by omega) (c : Int) (x := .ro false (cellsB (sectorB [UInt8.ofNat k])) 64) (b := sectorB [UInt8.ofNat k]) shows_sec)
            have h9 : S2 9 [.sl 1 n' 0 1] (upd h' n' (some (.cells (cellsB [UInt8.ofNat k])))) = .pure (.ro false (cellsB (sectorB [UInt8.ofNat k])) 64) := by rw [hne 9 (by decide)]; exact h9
            refine aw_regionL hS2 (by kernel_rfl) ?_
            repeat (first | apply vr0u | apply vr4 | apply b_tt | apply b_ff | apply b_tf | apply b_ft | apply b_no | exact isD.mk rfl | (apply eqG; (simp only [push_cast, ↓reduceIte, Nat.reduceEqDiff, Nat.reduceAdd, Nat.reduceLeDiff, Nat.reduceLT, Int.reduceLE, Int.reduceLT, Int.reduceAdd, Int.reduceSub, Int.reduceNeg, Int.reduceBEq, Int.reduceBNe, Int.reduceEq, Int.reduceGT, Int.reduceGE, Int.reduceMul, Int.reduceToNat, Nat.reduceMul, reduceCtorEq, t0, t1, t9, t11, q1, q2, q3, w1', h8, h9, hb1, r1, r2, hc] <;> rfl)) | exact (rfl : app (swap _ _) _ = _))
            refine vr_nil (aw_then ⟨_, _, A'.turn (A'.tWrite _ _), eff_write ho (by omega) (by rw [hs]; omega) (sectorB_len _), by (simp only [push_cast, ↓reduceIte, Nat.reduceEqDiff, Nat.reduceAdd, Nat.reduceLeDiff, Nat.reduceLT, Int.reduceLE, Int.reduceLT, Int.reduceAdd, Int.reduceSub, Int.reduceNeg, Int.reduceBEq, Int.reduceBNe, Int.reduceEq, Int.reduceGT, Int.reduceGE, Int.reduceMul, Int.reduceToNat, Nat.reduceMul, reduceCtorEq, t0, t1, t9, t11, q1, q2, q3, w1', h8, h9, hb1, r1, r2, hc] <;> rfl), by (simp only [push_cast, ↓reduceIte, Nat.reduceEqDiff, Nat.reduceAdd, Nat.reduceLeDiff, Nat.reduceLT, Int.reduceLE, Int.reduceLT, Int.reduceAdd, Int.reduceSub, Int.reduceNeg, Int.reduceBEq, Int.reduceBNe, Int.reduceEq, Int.reduceGT, Int.reduceGE, Int.reduceMul, Int.reduceToNat, Nat.reduceMul, reduceCtorEq, t0, t1, t9, t11, q1, q2, q3, w1', h8, h9, hb1, r1, r2, hc] <;> rfl), by (simp only [push_cast, ↓reduceIte, Nat.reduceEqDiff, Nat.reduceAdd, Nat.reduceLeDiff, Nat.reduceLT, Int.reduceLE, Int.reduceLT, Int.reduceAdd, Int.reduceSub, Int.reduceNeg, Int.reduceBEq, Int.reduceBNe, Int.reduceEq, Int.reduceGT, Int.reduceGE, Int.reduceMul, Int.reduceToNat, Nat.reduceMul, reduceCtorEq, t0, t1, t9, t11, q1, q2, q3, w1', h8, h9, hb1, r1, r2, hc] <;> rfl), by (simp only [push_cast, ↓reduceIte, Nat.reduceEqDiff, Nat.reduceAdd, Nat.reduceLeDiff, Nat.reduceLT, Int.reduceLE, Int.reduceLT, Int.reduceAdd, Int.reduceSub, Int.reduceNeg, Int.reduceBEq, Int.reduceBNe, Int.reduceEq, Int.reduceGT, Int.reduceGE, Int.reduceMul, Int.reduceToNat, Nat.reduceMul, reduceCtorEq, t0, t1, t9, t11, q1, q2, q3, w1', h8, h9, hb1, r1, r2, hc] <;> rfl), by (simp only [push_cast, ↓reduceIte, Nat.reduceEqDiff, Nat.reduceAdd, Nat.reduceLeDiff, Nat.reduceLT, Int.reduceLE, Int.reduceLT, Int.reduceAdd, Int.reduceSub, Int.reduceNeg, Int.reduceBEq, Int.reduceBNe, Int.reduceEq, Int.reduceGT, Int.reduceGE, Int.reduceMul, Int.reduceToNat, Nat.reduceMul, reduceCtorEq, t0, t1, t9, t11, q1, q2, q3, w1', h8, h9, hb1, r1, r2, hc] <;> rfl)⟩)
        · rintro t2 h2' n2 - ⟨r, w', A2, hE, t0, t1, t9, t11, t12⟩
          obtain ⟨e1, e2, e3⟩ := hE
          by_cases hkn : (k : Int) + 1 = nn
          · obtain ⟨y, hy'⟩ := hy ⟨by omega, by omega⟩
            have hE : r = 14 ∧ w'.off = true ∧ w'.trip = none := by
              rcases e3 with ⟨x, h1, h2, h3⟩ | ⟨x, h1, h2, h3⟩ | ⟨h1, _⟩
              · exact h3
              · rw [hy'] at h1; injection h1 with h1; subst h1; simp only at h2; omega
              · rw [hy'] at h1; cases h1
            obtain ⟨rfl, o', tr'⟩ := hE
            have q5 : ((k : Int) + 1 == nn) = true := by simp [hkn]
            have h12 := at12e A2.F
            rw [o'] at h12
            obtain ⟨S2, hS2, h16, hne⟩ := sum_here ok_DE (A2.s16o (by omega) o')
            obtain ⟨S3, hS3, h8, hne'⟩ := sum_here hS2 (A2.s8e (by omega) 0 (x := .ro false (cellsB (sectorB [])) 64) (b := sectorB []) shows_sec (.inl (by rw [o']; simp [wrongE])))
            have hw14 : (if wrongE w'.off w'.safe.length 0 ≠ 0 then wrongE w'.off w'.safe.length 0 else 4) = 14 := by rw [o']; rfl
            rw [hw14] at h8
            have h16 : S3 16 [.p n 0] h2' = .pure (.i .i64 14) := by rw [hne' 16 (by decide)]; exact h16
            have h12 : S3 12 [.p n 0] h2' = .pure (.b true) := by rw [hne' 12 (by decide), hne 12 (by decide)]; exact h12
            have h9 : S3 9 [.ro true [] 0] h2' = .pure (.ro false (cellsB (sectorB [])) 64) := by rw [hne' 9 (by decide), hne 9 (by decide)]; exact at9e (by decide) (.inr (.inl ⟨rfl, rfl⟩))
            refine AWp.seq ?_
            refine AWp.seq ?_
            (refine aw_regionL hS (by kernel_rfl) ?_; repeat (first | apply vr0u | apply vr4 | apply b_tt | apply b_ff | apply b_tf | apply b_ft | apply b_no | exact isD.mk rfl | (apply eqG; (simp only [push_cast, ↓reduceIte, Nat.reduceEqDiff, Nat.reduceAdd, Nat.reduceLeDiff, Nat.reduceLT, Int.reduceLE, Int.reduceLT, Int.reduceAdd, Int.reduceSub, Int.reduceNeg, Int.reduceBEq, Int.reduceBNe, Int.reduceEq, Int.reduceGT, Int.reduceGE, Int.reduceMul, Int.reduceToNat, Nat.reduceMul, reduceCtorEq, t0, t1, t9, t11, t12, w1', q5, h8, h9, h12, h16] <;> rfl)) | exact (rfl : app (swap _ _) _ = _)))
            refine vr_nil (aw_then ?_)
            refine aw_true (by (simp only [push_cast, ↓reduceIte, Nat.reduceEqDiff, Nat.reduceAdd, Nat.reduceLeDiff, Nat.reduceLT, Int.reduceLE, Int.reduceLT, Int.reduceAdd, Int.reduceSub, Int.reduceNeg, Int.reduceBEq, Int.reduceBNe, Int.reduceEq, Int.reduceGT, Int.reduceGE, Int.reduceMul, Int.reduceToNat, Nat.reduceMul, reduceCtorEq, t0, t1, t9, t11, t12, w1', q5, h8, h9, h12, h16] <;> rfl)) ?_
            refine AWp.seq ?_
            refine AWp.seq ?_
            refine aw_regionL hS3 (by kernel_rfl) ?_
            repeat (first | apply vr0u | apply vr4 | apply b_tt | apply b_ff | apply b_tf | apply b_ft | apply b_no | exact isD.mk rfl | (apply eqG; (simp only [push_cast, ↓reduceIte, Nat.reduceEqDiff, Nat.reduceAdd, Nat.reduceLeDiff, Nat.reduceLT, Int.reduceLE, Int.reduceLT, Int.reduceAdd, Int.reduceSub, Int.reduceNeg, Int.reduceBEq, Int.reduceBNe, Int.reduceEq, Int.reduceGT, Int.reduceGE, Int.reduceMul, Int.reduceToNat, Nat.reduceMul, reduceCtorEq, t0, t1, t9, t11, t12, w1', q5, h8, h9, h12, h16] <;> rfl)) | exact (rfl : app (swap _ _) _ = _))
            refine vr_nil (aw_then ?_)
            refine aw_false (by (simp only [push_cast, ↓reduceIte, Nat.reduceEqDiff, Nat.reduceAdd, Nat.reduceLeDiff, Nat.reduceLT, Int.reduceLE, Int.reduceLT, Int.reduceAdd, Int.reduceSub, Int.reduceNeg, Int.reduceBEq, Int.reduceBNe, Int.reduceEq, Int.reduceGT, Int.reduceGE, Int.reduceMul, Int.reduceToNat, Nat.reduceMul, reduceCtorEq, t0, t1, t9, t11, t12, w1', q5, h8, h9, h12, h16] <;> rfl)) (AWp.skip (aw_then ?_))
            obtain ⟨S4, hS4, h13, -⟩ := sum_here ok_DE A2.s13
            refine AWp.seq ?_
            refine aw_regionL hS4 (by kernel_rfl) ?_
            repeat (first | apply vr0u | apply vr4 | apply b_tt | apply b_ff | apply b_tf | apply b_ft | apply b_no | exact isD.mk rfl | (apply eqG; (simp only [push_cast, ↓reduceIte, Nat.reduceEqDiff, Nat.reduceAdd, Nat.reduceLeDiff, Nat.reduceLT, Int.reduceLE, Int.reduceLT, Int.reduceAdd, Int.reduceSub, Int.reduceNeg, Int.reduceBEq, Int.reduceBNe, Int.reduceEq, Int.reduceGT, Int.reduceGE, Int.reduceMul, Int.reduceToNat, Nat.reduceMul, reduceCtorEq, t0, t1, t9, t11, t12, w1', h13] <;> rfl)) | exact (rfl : app (swap _ _) _ = _))
            refine vr_nil (aw_then ?_)
            refine AWp.exit (aw_thru (aw_exit (aw_then ?_)))
            (refine aw_regionL hS (by kernel_rfl) ?_; repeat (first | apply vr0u | apply vr4 | apply b_tt | apply b_ff | apply b_tf | apply b_ft | apply b_no | exact isD.mk rfl | (apply eqG; (simp only [push_cast, ↓reduceIte, Nat.reduceEqDiff, Nat.reduceAdd, Nat.reduceLeDiff, Nat.reduceLT, Int.reduceLE, Int.reduceLT, Int.reduceAdd, Int.reduceSub, Int.reduceNeg, Int.reduceBEq, Int.reduceBNe, Int.reduceEq, Int.reduceGT, Int.reduceGE, Int.reduceMul, Int.reduceToNat, Nat.reduceMul, reduceCtorEq, t0, t1, t9, t11, t12, w1'] <;> rfl)) | exact (rfl : app (swap _ _) _ = _)))
            refine vr_nil (aw_then ⟨syncs.length - (k + 1), by omega, k + 1, w'.start, rfl, hk, A2.turn A2.tStart, by (simp only [push_cast, ↓reduceIte, Nat.reduceEqDiff, Nat.reduceAdd, Nat.reduceLeDiff, Nat.reduceLT, Int.reduceLE, Int.reduceLT, Int.reduceAdd, Int.reduceSub, Int.reduceNeg, Int.reduceBEq, Int.reduceBNe, Int.reduceEq, Int.reduceGT, Int.reduceGE, Int.reduceMul, Int.reduceToNat, Nat.reduceMul, reduceCtorEq, t0, t1, t9, t11, t12, w1'] <;> rfl), by (simp only [push_cast, ↓reduceIte, Nat.reduceEqDiff, Nat.reduceAdd, Nat.reduceLeDiff, Nat.reduceLT, Int.reduceLE, Int.reduceLT, Int.reduceAdd, Int.reduceSub, Int.reduceNeg, Int.reduceBEq, Int.reduceBNe, Int.reduceEq, Int.reduceGT, Int.reduceGE, Int.reduceMul, Int.reduceToNat, Nat.reduceMul, reduceCtorEq, t0, t1, t9, t11, t12, w1'] <;> rfl), by (simp only [push_cast, ↓reduceIte, Nat.reduceEqDiff, Nat.reduceAdd, Nat.reduceLeDiff, Nat.reduceLT, Int.reduceLE, Int.reduceLT, Int.reduceAdd, Int.reduceSub, Int.reduceNeg, Int.reduceBEq, Int.reduceBNe, Int.reduceEq, Int.reduceGT, Int.reduceGE, Int.reduceMul, Int.reduceToNat, Nat.reduceMul, reduceCtorEq, t0, t1, t9, t11, t12, w1'] <;> rfl), by (simp only [push_cast, ↓reduceIte, Nat.reduceEqDiff, Nat.reduceAdd, Nat.reduceLeDiff, Nat.reduceLT, Int.reduceLE, Int.reduceLT, Int.reduceAdd, Int.reduceSub, Int.reduceNeg, Int.reduceBEq, Int.reduceBNe, Int.reduceEq, Int.reduceGT, Int.reduceGE, Int.reduceMul, Int.reduceToNat, Nat.reduceMul, reduceCtorEq, t0, t1, t9, t11, t12, w1'] <;> rfl), rfl, by show w'.safe.length = 4; omega, by show w'.pend.length ≤ _; omega, fun hc => by omega, fun _ => tr'⟩)
          · have hE : r = 0 ∧ w'.off = false ∧ (1 ≤ nn ∧ (k : Int) < nn → ∃ y, w'.trip = some (nn - k - 1, y)) ∧ (¬ (1 ≤ nn ∧ (k : Int) < nn) → w'.trip = none) := by
              by_cases hc : 1 ≤ nn ∧ (k : Int) < nn
              · obtain ⟨y, hy'⟩ := hy hc
                rcases e3 with ⟨x, h1, h2, h3⟩ | ⟨x, h1, h2, h3, h4, h5⟩ | ⟨h1, _⟩
                · rw [hy'] at h1; injection h1 with h1; subst h1; simp only at h2; omega
                · rw [hy'] at h1; injection h1 with h1; subst h1
                  exact ⟨h3, h4, fun _ => ⟨y, h5⟩, fun hc' => absurd hc hc'⟩
                · rw [hy'] at h1; cases h1
              · have hn := hno hc
                rcases e3 with ⟨x, h1, h2, h3⟩ | ⟨x, h1, h2, h3, h4, h5⟩ | ⟨h1, h2, h3, h4⟩
                · rw [hn] at h1; cases h1
                · rw [hn] at h1; cases h1
                · exact ⟨h2, h3, fun hc' => absurd hc' hc, fun _ => h4⟩
            obtain ⟨rfl, o', ty, tn⟩ := hE
            have q5 : ((k : Int) + 1 == nn) = false := by simp [hkn]
            have h12 := at12e A2.F
            rw [o'] at h12
            refine AWp.seq ?_
            refine AWp.seq ?_
            (refine aw_regionL hS (by kernel_rfl) ?_; repeat (first | apply vr0u | apply vr4 | apply b_tt | apply b_ff | apply b_tf | apply b_ft | apply b_no | exact isD.mk rfl | (apply eqG; (simp only [push_cast, ↓reduceIte, Nat.reduceEqDiff, Nat.reduceAdd, Nat.reduceLeDiff, Nat.reduceLT, Int.reduceLE, Int.reduceLT, Int.reduceAdd, Int.reduceSub, Int.reduceNeg, Int.reduceBEq, Int.reduceBNe, Int.reduceEq, Int.reduceGT, Int.reduceGE, Int.reduceMul, Int.reduceToNat, Nat.reduceMul, reduceCtorEq, t0, t1, t9, t11, t12, w1', q5, h12] <;> rfl)) | exact (rfl : app (swap _ _) _ = _)))
            refine vr_nil (aw_then ?_)
            refine aw_false (by (simp only [push_cast, ↓reduceIte, Nat.reduceEqDiff, Nat.reduceAdd, Nat.reduceLeDiff, Nat.reduceLT, Int.reduceLE, Int.reduceLT, Int.reduceAdd, Int.reduceSub, Int.reduceNeg, Int.reduceBEq, Int.reduceBNe, Int.reduceEq, Int.reduceGT, Int.reduceGE, Int.reduceMul, Int.reduceToNat, Nat.reduceMul, reduceCtorEq, t0, t1, t9, t11, t12, w1', q5, h12] <;> rfl)) (AWp.skip (aw_then ?_))
            refine AWp.seq ?_
            (refine aw_regionL hS (by kernel_rfl) ?_; repeat (first | apply vr0u | apply vr4 | apply b_tt | apply b_ff | apply b_tf | apply b_ft | apply b_no | exact isD.mk rfl | (apply eqG; (simp only [push_cast, ↓reduceIte, Nat.reduceEqDiff, Nat.reduceAdd, Nat.reduceLeDiff, Nat.reduceLT, Int.reduceLE, Int.reduceLT, Int.reduceAdd, Int.reduceSub, Int.reduceNeg, Int.reduceBEq, Int.reduceBNe, Int.reduceEq, Int.reduceGT, Int.reduceGE, Int.reduceMul, Int.reduceToNat, Nat.reduceMul, reduceCtorEq, t0, t1, t9, t11, t12, w1', q5, h12] <;> rfl)) | exact (rfl : app (swap _ _) _ = _)))
            refine vr_nil (aw_then ?_)
            refine aw_false (by (simp only [push_cast, ↓reduceIte, Nat.reduceEqDiff, Nat.reduceAdd, Nat.reduceLeDiff, Nat.reduceLT, Int.reduceLE, Int.reduceLT, Int.reduceAdd, Int.reduceSub, Int.reduceNeg, Int.reduceBEq, Int.reduceBNe, Int.reduceEq, Int.reduceGT, Int.reduceGE, Int.reduceMul, Int.reduceToNat, Nat.reduceMul, reduceCtorEq, t0, t1, t9, t11, t12, w1', q5, h12] <;> rfl)) (AWp.skip (aw_in (aw_then ?_)))
            (refine aw_regionL hS (by kernel_rfl) ?_; repeat (first | apply vr0u | apply vr4 | apply b_tt | apply b_ff | apply b_tf | apply b_ft | apply b_no | exact isD.mk rfl | (apply eqG; (simp only [push_cast, ↓reduceIte, Nat.reduceEqDiff, Nat.reduceAdd, Nat.reduceLeDiff, Nat.reduceLT, Int.reduceLE, Int.reduceLT, Int.reduceAdd, Int.reduceSub, Int.reduceNeg, Int.reduceBEq, Int.reduceBNe, Int.reduceEq, Int.reduceGT, Int.reduceGE, Int.reduceMul, Int.reduceToNat, Nat.reduceMul, reduceCtorEq, t0, t1, t9, t11, t12, w1', q5, h12] <;> rfl)) | exact (rfl : app (swap _ _) _ = _)))
            refine vr_nil (aw_then ⟨syncs.length - (k + 1), by omega, k + 1, w', rfl, hk, A2, by (simp only [push_cast, ↓reduceIte, Nat.reduceEqDiff, Nat.reduceAdd, Nat.reduceLeDiff, Nat.reduceLT, Int.reduceLE, Int.reduceLT, Int.reduceAdd, Int.reduceSub, Int.reduceNeg, Int.reduceBEq, Int.reduceBNe, Int.reduceEq, Int.reduceGT, Int.reduceGE, Int.reduceMul, Int.reduceToNat, Nat.reduceMul, reduceCtorEq, t0, t1, t9, t11, t12, w1', q5, h12] <;> rfl), by (simp only [push_cast, ↓reduceIte, Nat.reduceEqDiff, Nat.reduceAdd, Nat.reduceLeDiff, Nat.reduceLT, Int.reduceLE, Int.reduceLT, Int.reduceAdd, Int.reduceSub, Int.reduceNeg, Int.reduceBEq, Int.reduceBNe, Int.reduceEq, Int.reduceGT, Int.reduceGE, Int.reduceMul, Int.reduceToNat, Nat.reduceMul, reduceCtorEq, t0, t1, t9, t11, t12, w1', q5, h12] <;> rfl), by (simp only [push_cast, ↓reduceIte, Nat.reduceEqDiff, Nat.reduceAdd, Nat.reduceLeDiff, Nat.reduceLT, Int.reduceLE, Int.reduceLT, Int.reduceAdd, Int.reduceSub, Int.reduceNeg, Int.reduceBEq, Int.reduceBNe, Int.reduceEq, Int.reduceGT, Int.reduceGE, Int.reduceMul, Int.reduceToNat, Nat.reduceMul, reduceCtorEq, t0, t1, t9, t11, t12, w1', q5, h12] <;> rfl), by (simp only [push_cast, ↓reduceIte, Nat.reduceEqDiff, Nat.reduceAdd, Nat.reduceLeDiff, Nat.reduceLT, Int.reduceLE, Int.reduceLT, Int.reduceAdd, Int.reduceSub, Int.reduceNeg, Int.reduceBEq, Int.reduceBNe, Int.reduceEq, Int.reduceGT, Int.reduceGE, Int.reduceMul, Int.reduceToNat, Nat.reduceMul, reduceCtorEq, t0, t1, t9, t11, t12, w1', q5, h12] <;> rfl), o', by omega, by omega, fun hc => ?_, fun hc => ?_⟩)
            · obtain ⟨y, hy'⟩ := ty ⟨hc.1, by omega⟩
              have ek : nn - (k : Int) - 1 = nn - ((k + 1 : Nat) : Int) := by clear hy' ty hy; omega
              exact ⟨y, by rw [hy', ek]⟩
            · clear hy ty e3
              refine tn (fun hc' => hc ⟨hc'.1, by omega⟩)
      · have q1 : ((k : Int) < (syncs.length : Int)) = False := by simp; omega
        refine AWp.seq ?_
        refine AWp.seq ?_
        (refine aw_regionL hS (by kernel_rfl) ?_; repeat (first | apply vr0u | apply vr4 | apply b_tt | apply b_ff | apply b_tf | apply b_ft | apply b_no | exact isD.mk rfl | (apply eqG; (simp only [push_cast, ↓reduceIte, Nat.reduceEqDiff, Nat.reduceAdd, Nat.reduceLeDiff, Nat.reduceLT, Int.reduceLE, Int.reduceLT, Int.reduceAdd, Int.reduceSub, Int.reduceNeg, Int.reduceBEq, Int.reduceBNe, Int.reduceEq, Int.reduceGT, Int.reduceGE, Int.reduceMul, Int.reduceToNat, Nat.reduceMul, reduceCtorEq, t0, t1, t9, t11, q1] <;> rfl)) | exact (rfl : app (swap _ _) _ = _)))
        refine vr_nil (aw_then ?_)
        refine aw_false (by (simp only [push_cast, ↓reduceIte, Nat.reduceEqDiff, Nat.reduceAdd, Nat.reduceLeDiff, Nat.reduceLT, Int.reduceLE, Int.reduceLT, Int.reduceAdd, Int.reduceSub, Int.reduceNeg, Int.reduceBEq, Int.reduceBNe, Int.reduceEq, Int.reduceGT, Int.reduceGE, Int.reduceMul, Int.reduceToNat, Nat.reduceMul, reduceCtorEq, t0, t1, t9, t11, q1] <;> rfl)) (AWp.exit (aw_thru (aw_thru (aw_exit (aw_then ?_)))))
        exact ⟨w, A, by (simp only [push_cast, ↓reduceIte, Nat.reduceEqDiff, Nat.reduceAdd, Nat.reduceLeDiff, Nat.reduceLT, Int.reduceLE, Int.reduceLT, Int.reduceAdd, Int.reduceSub, Int.reduceNeg, Int.reduceBEq, Int.reduceBNe, Int.reduceEq, Int.reduceGT, Int.reduceGE, Int.reduceMul, Int.reduceToNat, Nat.reduceMul, reduceCtorEq, t0, t1, t9, t11, q1] <;> rfl), ho, hs, by omega⟩
  · rintro t2 g4 m4 - ⟨w, A, t9, ho, hs, hp⟩
    obtain ⟨S2, hS2, h17, -⟩ := sum_here ok_DE (A.s17 1 (x := .ro true [] 0) (z := true) (keep := []) (by decide) (.inr (.inl ⟨rfl, rfl, rfl⟩)) (-1))
    refine AWp.seq ?_
    refine aw_regionL hS2 (by kernel_rfl) ?_
    repeat (first | apply vr0u | apply vr4 | apply b_tt | apply b_ff | apply b_tf | apply b_ft | apply b_no | exact isD.mk rfl | (apply eqG; (simp only [push_cast, ↓reduceIte, Nat.reduceEqDiff, Nat.reduceAdd, Nat.reduceLeDiff, Nat.reduceLT, Int.reduceLE, Int.reduceLT, Int.reduceAdd, Int.reduceSub, Int.reduceNeg, Int.reduceBEq, Int.reduceBNe, Int.reduceEq, Int.reduceGT, Int.reduceGE, Int.reduceMul, Int.reduceToNat, Nat.reduceMul, reduceCtorEq, t9, h17] <;> rfl)) | exact (rfl : app (swap _ _) _ = _))
    refine vr_nil (aw_then ?_)
    have A5 := A.turn (A.tArm (k := 1) (by decide) (z := true) (keep := []) (fun _ => rfl) (by decide) (-1))
    have f5 : (w.arm m4 1 true [] (-1)).1.off = false ∧ (w.arm m4 1 true [] (-1)).1.safe.length = 4 ∧ (w.arm m4 1 true [] (-1)).1.pend.length ≤ 60 ∧ (w.arm m4 1 true [] (-1)).1.trip = some (1, true, [], -1) := ⟨ho, hs, hp, rfl⟩
    generalize w.arm m4 1 true [] (-1) = q5 at A5 f5 ⊢
    obtain ⟨w5, m5⟩ := q5
    simp only at A5 f5 ⊢
    clear h17 hS2
    clear S2
    obtain ⟨o5, s5, p5, t5⟩ := f5
    generalize app (swap (w.cont n) (w5.cont n)) g4 = g5 at A5 ⊢
    have h12 := at12e A5.F
    rw [o5] at h12
    obtain ⟨S2, hS2, h8, hne⟩ := sum_here ok_DE (A5.s8e (by omega) 9 (x := .ro false (cellsB (sectorB [])) 64) (b := sectorB []) shows_sec (.inl (by rw [o5, s5]; decide)))
    obtain ⟨S3, hS3, h8b, hne'⟩ := sum_here8 hS2 (A5.s8e (by omega) 0 (x := .ro true [] 0) (b := []) (.inr (.inl ⟨rfl, rfl⟩)) (.inr (by decide)))
    have e8 : (if wrongE w5.off w5.safe.length 9 ≠ 0 then wrongE w5.off w5.safe.length 9 else 4) = 1 := by rw [o5, s5]; rfl
    have e8b : (if wrongE w5.off w5.safe.length 0 ≠ 0 then wrongE w5.off w5.safe.length 0 else 4) = 4 := by rw [o5, s5]; rfl
    rw [e8] at h8
    rw [e8b] at h8b
    have h8 : S3 8 [.p n 0, .i .i64 9, .ro false (cellsB (sectorB [])) 64] g5 = .pure (.i .i64 1) := by rw [hne' 8 _ (.inr (by simp))]; exact h8
    have h12 : S3 12 [.p n 0] g5 = .pure (.b false) := by rw [hne' 12 _ (.inl (by decide)), hne 12 (by decide)]; exact h12
    have h9 : S3 9 [.ro true [] 0] g5 = .pure (.ro false (cellsB (sectorB [])) 64) := by rw [hne' 9 _ (.inl (by decide)), hne 9 (by decide)]; exact at9e (by decide) (.inr (.inl ⟨rfl, rfl⟩))
    refine AWp.seq ?_
    refine AWp.seq ?_
    refine aw_regionL hS3 (by kernel_rfl) ?_
    repeat (first | apply vr0u | apply vr4 | apply b_tt | apply b_ff | apply b_tf | apply b_ft | apply b_no | exact isD.mk rfl | (apply eqG; (simp only [push_cast, ↓reduceIte, Nat.reduceEqDiff, Nat.reduceAdd, Nat.reduceLeDiff, Nat.reduceLT, Int.reduceLE, Int.reduceLT, Int.reduceAdd, Int.reduceSub, Int.reduceNeg, Int.reduceBEq, Int.reduceBNe, Int.reduceEq, Int.reduceGT, Int.reduceGE, Int.reduceMul, Int.reduceToNat, Nat.reduceMul, reduceCtorEq, t9, h8, h8b, h9, h12] <;> rfl)) | exact (rfl : app (swap _ _) _ = _))
    refine vr_nil (aw_then ?_)
    refine aw_false (by (simp only [push_cast, ↓reduceIte, Nat.reduceEqDiff, Nat.reduceAdd, Nat.reduceLeDiff, Nat.reduceLT, Int.reduceLE, Int.reduceLT, Int.reduceAdd, Int.reduceSub, Int.reduceNeg, Int.reduceBEq, Int.reduceBNe, Int.reduceEq, Int.reduceGT, Int.reduceGE, Int.reduceMul, Int.reduceToNat, Nat.reduceMul, reduceCtorEq, t9, h8, h8b, h9, h12] <;> rfl)) (AWp.skip (aw_then ?_))
    obtain ⟨S6, hS6, h16, hne⟩ := sum_here ok_DE (A5.s16 (by omega))
    have A6 := A5.turn A5.tSync
    have f6 := eff_sync (m := m5) o5
    have f6 : (w5.sync m5).1 = 14 ∧ (w5.sync m5).2.1.off = true := by
      rcases f6.2.2 with ⟨x, h1, h2, h3, h4, h5⟩ | ⟨x, h1, h2, h3⟩ | ⟨h1, _⟩
      · exact ⟨h3, h4⟩
      · rw [t5] at h1; injection h1 with h1; subst h1; simp only at h2; omega
      · rw [t5] at h1; cases h1
    have h12 := at12e A6.F
    rw [f6.2] at h12
    have h12 : S6 12 [.p n 0] (app (swap (w5.cont n) ((w5.sync m5).2.1.cont n)) g5) = .pure (.b true) := by rw [hne 12 (by decide)]; exact h12
    have h14 : ∀ h, S6 14 [] h = .pure (.b true) := fun h => by rw [hne 14 (by decide)]; exact at14 h
    have e6 := f6.1
    refine AWp.seq ?_
    refine aw_regionL hS6 (by kernel_rfl) ?_
    repeat (first | apply vr0u | apply vr4 | apply b_tt | apply b_ff | apply b_tf | apply b_ft | apply b_no | exact isD.mk rfl | (apply eqG; (simp only [push_cast, ↓reduceIte, Nat.reduceEqDiff, Nat.reduceAdd, Nat.reduceLeDiff, Nat.reduceLT, Int.reduceLE, Int.reduceLT, Int.reduceAdd, Int.reduceSub, Int.reduceNeg, Int.reduceBEq, Int.reduceBNe, Int.reduceEq, Int.reduceGT, Int.reduceGE, Int.reduceMul, Int.reduceToNat, Nat.reduceMul, reduceCtorEq, t9, h16, h12, h14, e6] <;> rfl)) | exact (rfl : app (swap _ _) _ = _))
    refine vr_nil (aw_then ?_)
    refine AWp.ret ?_
    exact Out.yes (.inr rfl) rfl (by (simp only [push_cast, ↓reduceIte, Nat.reduceEqDiff, Nat.reduceAdd, Nat.reduceLeDiff, Nat.reduceLT, Int.reduceLE, Int.reduceLT, Int.reduceAdd, Int.reduceSub, Int.reduceNeg, Int.reduceBEq, Int.reduceBNe, Int.reduceEq, Int.reduceGT, Int.reduceGE, Int.reduceMul, Int.reduceToNat, Nat.reduceMul, reduceCtorEq, t9, h16, h12, h14, e6] <;> rfl)) A6.fr

end Go.Proofs.Ytepfknnffooaiaa
