import Derived.Test.YtepfknnffooaiaaDoorDoD

namespace Go.Proofs.YtepfknnffooaiaaDoor
open Go.Av
set_option maxRecDepth 100000
set_option maxHeartbeats 1000000
set_option linter.unusedSimpArgs false
set_option linter.unusedVariables false
attribute [local push_cast] stepE callR resE aeff aev ofC ofC1 put_at Av.put_none inTmps List.getD_cons_zero List.getD_cons_succ AV.boxable if_true if_false AV.cells aload place app_cons app_nil upd_same Av.part abin aconv aindexAddr fillA splice_one abuiltin alen amax amin aun aindex Option.map_some Option.isSome_some List.map_cons List.map_nil List.nil_append List.append_nil List.cons_append Nat.le_refl Nat.zero_add Nat.add_zero List.length_cons List.length_nil List.drop_succ_cons List.drop_zero List.take_succ_cons List.take_zero beq_self_eq_true bne_self_eq_false Bool.not_true Bool.not_false List.set_cons_zero List.set_cons_succ Bool.false_eq_true IntWalk.i64_in decide_true decide_false Int.toNat_zero and_self and_true true_and List.getElem?_cons_zero List.getElem?_cons_succ aappend aapp view Bool.and_true Bool.true_and Nat.mul_one Option.map_none aslice asliceB nilOp Int.toNat_natCast und_30 agT_3 szT_3 kiT_3 agT_5 szT_5 kiT_5 agT_24 szT_24 kiT_24 agT_62 szT_62 kiT_62 agT_4 szT_4 kiT_4 agT_9 szT_9 kiT_9 agT_44 szT_44 kiT_44 agT_45 szT_45 kiT_45 agT_30 szT_30 kiT_30 agT_22 szT_22 kiT_22 agT_41 szT_41 kiT_41 agT_51 szT_51 kiT_51 agT_52 szT_52 kiT_52 agT_23 szT_23 kiT_23 agT_53 szT_53 kiT_53 agT_27 szT_27 kiT_27 agT_89 szT_89 kiT_89 agT_66 szT_66 kiT_66 agT_20 szT_20 kiT_20 slT_45 slT_44 slT_30 slT_22 slT_41 slT_51 slT_52 zeT_3 zeT_4 zeT_5 zeT_30 zeT_24 flT_55_0 flT_55_1 flT_55_2 flT_55_3 flT_55_4 agT_55 szT_55 buT_55 zeT_55 flT_57_0 flT_57_1 agT_57 szT_57 buT_57 zeT_57 flT_74_0 flT_74_1 agT_74 szT_74 buT_74 zeT_74 flT_77_0 flT_77_1 flT_77_2 agT_77 szT_77 buT_77 zeT_77 flT_47_0 flT_47_1 flT_47_2 flT_47_3 flT_47_4 flT_47_5 agT_47 szT_47 buT_47 zeT_47 flT_61_0 flT_61_1 agT_61 szT_61 buT_61 zeT_61 flT_64_0 flT_64_1 agT_64 szT_64 buT_64 zeT_64 flT_91_0 flT_91_1 agT_91 szT_91 buT_91 zeT_91 ptT_23 ptT_53 ptT_27 ptT_89 und_30 

/-- Bytes that a value shows, in memory apart from J. -/
def Shows (h : Heap) (J : List Nat) (x : AV) (b : List UInt8) : Prop := x = .ro false (cellsB b) b.length ∨ (x = .ro true [] 0 ∧ b = []) ∨ ∃ j, x = .sl 1 j 0 b.length ∧ h j = some (.cells (cellsB b)) ∧ j ∉ J
/-! ### Write -/
def DW.wrote (w : DW) (j i : Nat) (b : List UInt8) : DW := { w with jp := j, pend := w.pend ++ [(i, b)], now := w.now.set i (some b) }
def DW.write (w : DW) (n : Nat) (i : Int) (b : List UInt8) : Int × DW × Nat :=
  if wrongE w.off w.safe.length i ≠ 0 then (wrongE w.off w.safe.length i, w, n) else if b.length ≠ 64 then (4, w, n)
  else (if ((w.wrote (n + 1) i.toNat b).trips (n + 2)).1 = true then 14 else 0, ((w.wrote (n + 1) i.toNat b).trips (n + 2)).2.1, ((w.wrote (n + 1) i.toNat b).trips (n + 2)).2.2)
theorem wrong0 {off : Bool} {N : Nat} {i : Int} (h : wrongE off N i = 0) : off = false ∧ 0 ≤ i ∧ i < N := by
  unfold wrongE at h
  split at h
  · cases h
  · split at h
    · cases h
    · rename_i h1 h2
      exact ⟨by simpa using h1, by omega, by omega⟩
theorem DOk.wrote {w : DW} (hw : DOk w) (j : Nat) {i : Nat} {b : List UInt8} (hi : i < w.safe.length) (hb : b.length = 64) : DOk (w.wrote j i b) :=
  ⟨by show (w.now.set _ _).length = _; rw [List.length_set]; exact hw.len, hw.n0, fun p hp => by
    rcases List.mem_append.1 hp with hp | hp
    · exact hw.pe p hp
    · rw [List.mem_singleton.1 hp]; exact ⟨hi, hb⟩, hw.s1, fun c hc => by
    rcases List.mem_or_eq_of_mem_set hc with hc | hc
    · exact hw.s2 c hc
    · injection hc with hc; rw [hc]; exact hb, hw.tp⟩
theorem DOk.write {w : DW} (hw : DOk w) (n : Nat) (i : Int) (b : List UInt8) : DOk (w.write n i b).2.1 := by
  unfold DW.write
  split
  · exact hw
  · rename_i h0
    split
    · exact hw
    · rename_i h1
      obtain ⟨_, h2, h3⟩ := wrong0 (by simpa using h0)
      exact (hw.wrote _ (by omega) (by simpa using h1)).trips _
theorem wrote_keys {d j i k : Nat} {b : List UInt8} {w : DW} (hk : k ∈ ((w.wrote j i b).cont d).keys) : k ∈ (w.cont d).keys ∨ k = j := by
  rw [DW.keys_iff] at hk ⊢
  rcases hk with h1 | h1 | h1 | ⟨_, h1⟩ | h1
  · exact .inl (.inl h1)
  · exact .inl (.inr (.inl h1))
  · exact .inl (.inr (.inr (.inl h1)))
  · exact .inr h1
  · exact .inl (.inr (.inr (.inr (.inr h1))))
theorem snoc_ne {α : Type} {l : List α} {x : α} : l ++ [x] ≠ [] := by simp
theorem c8 {h : Heap} {d : Nat} {w : DW} (hw : DOk w) (hL : Has h (w.cont d)) (hpl : w.pend.length < 1000000) (i : Int) {x : AV} {b : List UInt8} (hx : Shows h (w.cont d).keys x b) :
    ∀ n, DCalls Tryd.prog 36 [.p d 0, .i .i64 i, x] h n (.i .i64 (w.write n i b).1) (swap (w.cont d) ((w.write n i b).2.1.cont d)) (w.write n i b).2.2 := by
  intro n
  have hS := ok_DB
  have F := DFacts.of hL
  have hd := F.hd
  simp only [DW.rowD] at hd
  have hnn : n ≤ (w.write n i b).2.2 := by
    unfold DW.write
    split
    · exact Nat.le_refl _
    · split
      · exact Nat.le_refl _
      · show n ≤ (DW.trips _ _).2.2
        unfold DW.trips
        split
        · show n ≤ n + 2; omega
        · split
          · show n ≤ n + 2 + _ + 1; omega
          · show n ≤ n + 2; omega
  rcases has_any hL n with hlt | ⟨j, r, hj, hn⟩
  case inr => exact DCalls.vac ⟨_, Tryd.func36, rfl, by decide⟩ hnn hj hn
  by_cases hxn : ∃ j, x = .sl 1 j 0 b.length ∧ n ≤ j ∧ h j = some (.cells (cellsB b))
  · obtain ⟨j, _, hjn, hj⟩ := hxn
    exact DCalls.vac ⟨_, Tryd.func36, rfl, by decide⟩ hnn hj hjn
  have h24 : b.length = 64 → ∀ g, (∀ y r, y < n → h y = some r → y ∉ (w.cont d).keys → g y = some r) → DB 28 [x] g = .pure (.ro false (cellsB b) b.length) := fun hb g hg => by
    rcases hx with rfl | ⟨rfl, rfl⟩ | ⟨j, rfl, hj, hjk⟩
    · exact cloneG_ro cellsB_inj (by omega) g
    · cases hb
    · refine cloneG_sl cellsB_inj (by omega) (hg j _ ?_ hj hjk)
      rcases Nat.lt_or_ge j n with h' | h'
      · exact h'
      · exact absurd ⟨j, rfl, h', hj⟩ hxn
  have h23 := at23 i hd
  refine DCalls.of Tryd.func36 rfl (by decide) (Nat.le_of_ble_eq_true rfl) hnn ?_
  refine AWp.seq ?_
  (refine aw_regionL hS (by kernel_rfl) ?_; repeat (first | apply vr0u | apply vr4 | apply b_tt | apply b_ff | apply b_tf | apply b_ft | apply b_no | exact isD.mk rfl | (apply eqG; (simp only [push_cast, ↓reduceIte, Nat.reduceEqDiff, Nat.reduceAdd, Nat.reduceLeDiff, Nat.reduceLT, Int.reduceLE, Int.reduceLT, Int.reduceAdd, Int.reduceSub, Int.reduceNeg, Int.reduceBEq, Int.reduceBNe, Int.reduceEq, Int.reduceGT, Int.reduceGE, Int.reduceMul, Int.reduceToNat, Nat.reduceMul, reduceCtorEq, h23] <;> rfl)) | exact (rfl : app (swap _ _) _ = _)))
  refine vr_nil (aw_then ?_)
  refine AWp.seq ?_
  (refine aw_regionL hS (by kernel_rfl) ?_; repeat (first | apply vr0u | apply vr4 | apply b_tt | apply b_ff | apply b_tf | apply b_ft | apply b_no | exact isD.mk rfl | (apply eqG; (simp only [push_cast, ↓reduceIte, Nat.reduceEqDiff, Nat.reduceAdd, Nat.reduceLeDiff, Nat.reduceLT, Int.reduceLE, Int.reduceLT, Int.reduceAdd, Int.reduceSub, Int.reduceNeg, Int.reduceBEq, Int.reduceBNe, Int.reduceEq, Int.reduceGT, Int.reduceGE, Int.reduceMul, Int.reduceToNat, Nat.reduceMul, reduceCtorEq, h23] <;> rfl)) | exact (rfl : app (swap _ _) _ = _)))
  refine vr_nil (aw_then ?_)
  refine AWp.cut (fun t' h' n' => (wrongE w.off w.safe.length i = 0 ∧ b.length = 64) ∧ t' 0 = .p d 0 ∧ t' 1 = .i .i64 i ∧ t' 2 = x ∧ h = h' ∧ n = n') ?_ ?_
  · refine AWp.block ?_
    refine AWp.seq ?_
    (refine aw_regionL hS (by kernel_rfl) ?_; repeat (first | apply vr0u | apply vr4 | apply b_tt | apply b_ff | apply b_tf | apply b_ft | apply b_no | exact isD.mk rfl | (apply eqG; (simp only [push_cast, ↓reduceIte, Nat.reduceEqDiff, Nat.reduceAdd, Nat.reduceLeDiff, Nat.reduceLT, Int.reduceLE, Int.reduceLT, Int.reduceAdd, Int.reduceSub, Int.reduceNeg, Int.reduceBEq, Int.reduceBNe, Int.reduceEq, Int.reduceGT, Int.reduceGE, Int.reduceMul, Int.reduceToNat, Nat.reduceMul, reduceCtorEq, h23] <;> rfl)) | exact (rfl : app (swap _ _) _ = _)))
    refine vr_nil (aw_then ?_)
    refine aw_split (by (simp only [push_cast, ↓reduceIte, Nat.reduceEqDiff, Nat.reduceAdd, Nat.reduceLeDiff, Nat.reduceLT, Int.reduceLE, Int.reduceLT, Int.reduceAdd, Int.reduceSub, Int.reduceNeg, Int.reduceBEq, Int.reduceBNe, Int.reduceEq, Int.reduceGT, Int.reduceGE, Int.reduceMul, Int.reduceToNat, Nat.reduceMul, reduceCtorEq, h23] <;> rfl)) (fun hu => ?_) (fun hu => ?_)
    · have hu : wrongE w.off w.safe.length i ≠ 0 := by simpa using hu
      have ht : w.write n i b = (wrongE w.off w.safe.length i, w, n) := if_pos hu
      rw [ht]
      refine AWp.seq ?_
      (refine aw_regionL hS (by kernel_rfl) ?_; repeat (first | apply vr0u | apply vr4 | apply b_tt | apply b_ff | apply b_tf | apply b_ft | apply b_no | exact isD.mk rfl | (apply eqG; (simp only [push_cast, ↓reduceIte, Nat.reduceEqDiff, Nat.reduceAdd, Nat.reduceLeDiff, Nat.reduceLT, Int.reduceLE, Int.reduceLT, Int.reduceAdd, Int.reduceSub, Int.reduceNeg, Int.reduceBEq, Int.reduceBNe, Int.reduceEq, Int.reduceGT, Int.reduceGE, Int.reduceMul, Int.reduceToNat, Nat.reduceMul, reduceCtorEq, h23] <;> rfl)) | exact (rfl : app (swap _ _) _ = _)))
      refine vr_nil (aw_then ?_)
      refine AWp.ret ?_
      exact Out.disk (w' := w) (xs := [.i .i64 (wrongE w.off w.safe.length i)]) (.inr rfl) (by simp [Tryd.f36, resAll, resT]; (simp only [push_cast, ↓reduceIte, Nat.reduceEqDiff, Nat.reduceAdd, Nat.reduceLeDiff, Nat.reduceLT, Int.reduceLE, Int.reduceLT, Int.reduceAdd, Int.reduceSub, Int.reduceNeg, Int.reduceBEq, Int.reduceBNe, Int.reduceEq, Int.reduceGT, Int.reduceGE, Int.reduceMul, Int.reduceToNat, Nat.reduceMul, reduceCtorEq, h23] <;> rfl)) rfl (Nat.le_refl _) (Nat.le_refl _) trivial hL hlt F (fun j hj => .inl hj) keepX0
    · have hu : wrongE w.off w.safe.length i = 0 := by simpa using hu
      rcases hx with rfl | ⟨rfl, rfl⟩ | ⟨j, rfl, hj, hjk⟩
      · refine AWp.seq ?_
        (refine aw_regionL hS (by kernel_rfl) ?_; repeat (first | apply vr0u | apply vr4 | apply b_tt | apply b_ff | apply b_tf | apply b_ft | apply b_no | exact isD.mk rfl | (apply eqG; (simp only [push_cast, ↓reduceIte, Nat.reduceEqDiff, Nat.reduceAdd, Nat.reduceLeDiff, Nat.reduceLT, Int.reduceLE, Int.reduceLT, Int.reduceAdd, Int.reduceSub, Int.reduceNeg, Int.reduceBEq, Int.reduceBNe, Int.reduceEq, Int.reduceGT, Int.reduceGE, Int.reduceMul, Int.reduceToNat, Nat.reduceMul, reduceCtorEq, h23] <;> rfl)) | exact (rfl : app (swap _ _) _ = _)))
        refine vr_nil (aw_then ?_)
        refine aw_split (by (simp only [push_cast, ↓reduceIte, Nat.reduceEqDiff, Nat.reduceAdd, Nat.reduceLeDiff, Nat.reduceLT, Int.reduceLE, Int.reduceLT, Int.reduceAdd, Int.reduceSub, Int.reduceNeg, Int.reduceBEq, Int.reduceBNe, Int.reduceEq, Int.reduceGT, Int.reduceGE, Int.reduceMul, Int.reduceToNat, Nat.reduceMul, reduceCtorEq, h23] <;> rfl)) (fun hv => ?_) (fun hv => ?_)
        · have hv : b.length ≠ 64 := by
            have : ¬ (b.length : Int) = 64 := by simpa using hv
            omega
          have ht : w.write n i b = (4, w, n) := by unfold DW.write; rw [if_neg (by rw [hu]; simp), if_pos hv]
          rw [ht]
          refine AWp.seq ?_
          (refine aw_regionL hS (by kernel_rfl) ?_; repeat (first | apply vr0u | apply vr4 | apply b_tt | apply b_ff | apply b_tf | apply b_ft | apply b_no | exact isD.mk rfl | (apply eqG; (simp only [push_cast, ↓reduceIte, Nat.reduceEqDiff, Nat.reduceAdd, Nat.reduceLeDiff, Nat.reduceLT, Int.reduceLE, Int.reduceLT, Int.reduceAdd, Int.reduceSub, Int.reduceNeg, Int.reduceBEq, Int.reduceBNe, Int.reduceEq, Int.reduceGT, Int.reduceGE, Int.reduceMul, Int.reduceToNat, Nat.reduceMul, reduceCtorEq, h23] <;> rfl)) | exact (rfl : app (swap _ _) _ = _)))
          refine vr_nil (aw_then ?_)
          refine AWp.ret ?_
          exact Out.disk (w' := w) (xs := [.i .i64 4]) (.inr rfl) (by simp [Tryd.f36, resAll, resT]; (simp only [push_cast, ↓reduceIte, Nat.reduceEqDiff, Nat.reduceAdd, Nat.reduceLeDiff, Nat.reduceLT, Int.reduceLE, Int.reduceLT, Int.reduceAdd, Int.reduceSub, Int.reduceNeg, Int.reduceBEq, Int.reduceBNe, Int.reduceEq, Int.reduceGT, Int.reduceGE, Int.reduceMul, Int.reduceToNat, Nat.reduceMul, reduceCtorEq, h23] <;> rfl)) rfl (Nat.le_refl _) (Nat.le_refl _) trivial hL hlt F (fun j hj => .inl hj) keepX0
        · have hv : b.length = 64 := by
            have : (b.length : Int) = 64 := by simpa using hv
            omega
          exact AWp.skip (aw_in (aw_then ⟨⟨hu, hv⟩, by (simp only [push_cast, ↓reduceIte, Nat.reduceEqDiff, Nat.reduceAdd, Nat.reduceLeDiff, Nat.reduceLT, Int.reduceLE, Int.reduceLT, Int.reduceAdd, Int.reduceSub, Int.reduceNeg, Int.reduceBEq, Int.reduceBNe, Int.reduceEq, Int.reduceGT, Int.reduceGE, Int.reduceMul, Int.reduceToNat, Nat.reduceMul, reduceCtorEq, h23] <;> rfl), by (simp only [push_cast, ↓reduceIte, Nat.reduceEqDiff, Nat.reduceAdd, Nat.reduceLeDiff, Nat.reduceLT, Int.reduceLE, Int.reduceLT, Int.reduceAdd, Int.reduceSub, Int.reduceNeg, Int.reduceBEq, Int.reduceBNe, Int.reduceEq, Int.reduceGT, Int.reduceGE, Int.reduceMul, Int.reduceToNat, Nat.reduceMul, reduceCtorEq, h23] <;> rfl), by (simp only [push_cast, ↓reduceIte, Nat.reduceEqDiff, Nat.reduceAdd, Nat.reduceLeDiff, Nat.reduceLT, Int.reduceLE, Int.reduceLT, Int.reduceAdd, Int.reduceSub, Int.reduceNeg, Int.reduceBEq, Int.reduceBNe, Int.reduceEq, Int.reduceGT, Int.reduceGE, Int.reduceMul, Int.reduceToNat, Nat.reduceMul, reduceCtorEq, h23] <;> rfl), rfl, rfl⟩))
      · refine AWp.seq ?_
        (refine aw_regionL hS (by kernel_rfl) ?_; repeat (first | apply vr0u | apply vr4 | apply b_tt | apply b_ff | apply b_tf | apply b_ft | apply b_no | exact isD.mk rfl | (apply eqG; (simp only [push_cast, ↓reduceIte, Nat.reduceEqDiff, Nat.reduceAdd, Nat.reduceLeDiff, Nat.reduceLT, Int.reduceLE, Int.reduceLT, Int.reduceAdd, Int.reduceSub, Int.reduceNeg, Int.reduceBEq, Int.reduceBNe, Int.reduceEq, Int.reduceGT, Int.reduceGE, Int.reduceMul, Int.reduceToNat, Nat.reduceMul, reduceCtorEq, h23] <;> rfl)) | exact (rfl : app (swap _ _) _ = _)))
        refine vr_nil (aw_then ?_)
        have hv : ([] : List UInt8).length ≠ 64 := by decide
        refine aw_true (by (simp only [push_cast, ↓reduceIte, Nat.reduceEqDiff, Nat.reduceAdd, Nat.reduceLeDiff, Nat.reduceLT, Int.reduceLE, Int.reduceLT, Int.reduceAdd, Int.reduceSub, Int.reduceNeg, Int.reduceBEq, Int.reduceBNe, Int.reduceEq, Int.reduceGT, Int.reduceGE, Int.reduceMul, Int.reduceToNat, Nat.reduceMul, reduceCtorEq, h23] <;> rfl)) ?_
        have ht : w.write n i [] = (4, w, n) := by unfold DW.write; rw [if_neg (by rw [hu]; simp), if_pos hv]
        rw [ht]
        refine AWp.seq ?_
        (refine aw_regionL hS (by kernel_rfl) ?_; repeat (first | apply vr0u | apply vr4 | apply b_tt | apply b_ff | apply b_tf | apply b_ft | apply b_no | exact isD.mk rfl | (apply eqG; (simp only [push_cast, ↓reduceIte, Nat.reduceEqDiff, Nat.reduceAdd, Nat.reduceLeDiff, Nat.reduceLT, Int.reduceLE, Int.reduceLT, Int.reduceAdd, Int.reduceSub, Int.reduceNeg, Int.reduceBEq, Int.reduceBNe, Int.reduceEq, Int.reduceGT, Int.reduceGE, Int.reduceMul, Int.reduceToNat, Nat.reduceMul, reduceCtorEq, h23] <;> rfl)) | exact (rfl : app (swap _ _) _ = _)))
        refine vr_nil (aw_then ?_)
        refine AWp.ret ?_
        exact Out.disk (w' := w) (xs := [.i .i64 4]) (.inr rfl) (by simp [Tryd.f36, resAll, resT]; (simp only [push_cast, ↓reduceIte, Nat.reduceEqDiff, Nat.reduceAdd, Nat.reduceLeDiff, Nat.reduceLT, Int.reduceLE, Int.reduceLT, Int.reduceAdd, Int.reduceSub, Int.reduceNeg, Int.reduceBEq, Int.reduceBNe, Int.reduceEq, Int.reduceGT, Int.reduceGE, Int.reduceMul, Int.reduceToNat, Nat.reduceMul, reduceCtorEq, h23] <;> rfl)) rfl (Nat.le_refl _) (Nat.le_refl _) trivial hL hlt F (fun j hj => .inl hj) keepX0
      · refine AWp.seq ?_
        (refine aw_regionL hS (by kernel_rfl) ?_; repeat (first | apply vr0u | apply vr4 | apply b_tt | apply b_ff | apply b_tf | apply b_ft | apply b_no | exact isD.mk rfl | (apply eqG; (simp only [push_cast, ↓reduceIte, Nat.reduceEqDiff, Nat.reduceAdd, Nat.reduceLeDiff, Nat.reduceLT, Int.reduceLE, Int.reduceLT, Int.reduceAdd, Int.reduceSub, Int.reduceNeg, Int.reduceBEq, Int.reduceBNe, Int.reduceEq, Int.reduceGT, Int.reduceGE, Int.reduceMul, Int.reduceToNat, Nat.reduceMul, reduceCtorEq, h23] <;> rfl)) | exact (rfl : app (swap _ _) _ = _)))
        refine vr_nil (aw_then ?_)
        refine aw_split (by (simp only [push_cast, ↓reduceIte, Nat.reduceEqDiff, Nat.reduceAdd, Nat.reduceLeDiff, Nat.reduceLT, Int.reduceLE, Int.reduceLT, Int.reduceAdd, Int.reduceSub, Int.reduceNeg, Int.reduceBEq, Int.reduceBNe, Int.reduceEq, Int.reduceGT, Int.reduceGE, Int.reduceMul, Int.reduceToNat, Nat.reduceMul, reduceCtorEq, h23] <;> rfl)) (fun hv => ?_) (fun hv => ?_)
        · have hv : b.length ≠ 64 := by
            have : ¬ (b.length : Int) = 64 := by simpa using hv
            omega
          have ht : w.write n i b = (4, w, n) := by unfold DW.write; rw [if_neg (by rw [hu]; simp), if_pos hv]
          rw [ht]
          refine AWp.seq ?_
          (refine aw_regionL hS (by kernel_rfl) ?_; repeat (first | apply vr0u | apply vr4 | apply b_tt | apply b_ff | apply b_tf | apply b_ft | apply b_no | exact isD.mk rfl | (apply eqG; (simp only [push_cast, ↓reduceIte, Nat.reduceEqDiff, Nat.reduceAdd, Nat.reduceLeDiff, Nat.reduceLT, Int.reduceLE, Int.reduceLT, Int.reduceAdd, Int.reduceSub, Int.reduceNeg, Int.reduceBEq, Int.reduceBNe, Int.reduceEq, Int.reduceGT, Int.reduceGE, Int.reduceMul, Int.reduceToNat, Nat.reduceMul, reduceCtorEq, h23] <;> rfl)) | exact (rfl : app (swap _ _) _ = _)))
          refine vr_nil (aw_then ?_)
          refine AWp.ret ?_
          exact Out.disk (w' := w) (xs := [.i .i64 4]) (.inr rfl) (by simp [Tryd.f36, resAll, resT]; (simp only [push_cast, ↓reduceIte, Nat.reduceEqDiff, Nat.reduceAdd, Nat.reduceLeDiff, Nat.reduceLT, Int.reduceLE, Int.reduceLT, Int.reduceAdd, Int.reduceSub, Int.reduceNeg, Int.reduceBEq, Int.reduceBNe, Int.reduceEq, Int.reduceGT, Int.reduceGE, Int.reduceMul, Int.reduceToNat, Nat.reduceMul, reduceCtorEq, h23] <;> rfl)) rfl (Nat.le_refl _) (Nat.le_refl _) trivial hL hlt F (fun j hj => .inl hj) keepX0
        · have hv : b.length = 64 := by
            have : (b.length : Int) = 64 := by simpa using hv
            omega
          exact AWp.skip (aw_in (aw_then ⟨⟨hu, hv⟩, by (simp only [push_cast, ↓reduceIte, Nat.reduceEqDiff, Nat.reduceAdd, Nat.reduceLeDiff, Nat.reduceLT, Int.reduceLE, Int.reduceLT, Int.reduceAdd, Int.reduceSub, Int.reduceNeg, Int.reduceBEq, Int.reduceBNe, Int.reduceEq, Int.reduceGT, Int.reduceGE, Int.reduceMul, Int.reduceToNat, Nat.reduceMul, reduceCtorEq, h23] <;> rfl), by (simp only [push_cast, ↓reduceIte, Nat.reduceEqDiff, Nat.reduceAdd, Nat.reduceLeDiff, Nat.reduceLT, Int.reduceLE, Int.reduceLT, Int.reduceAdd, Int.reduceSub, Int.reduceNeg, Int.reduceBEq, Int.reduceBNe, Int.reduceEq, Int.reduceGT, Int.reduceGE, Int.reduceMul, Int.reduceToNat, Nat.reduceMul, reduceCtorEq, h23] <;> rfl), by (simp only [push_cast, ↓reduceIte, Nat.reduceEqDiff, Nat.reduceAdd, Nat.reduceLeDiff, Nat.reduceLT, Int.reduceLE, Int.reduceLT, Int.reduceAdd, Int.reduceSub, Int.reduceNeg, Int.reduceBEq, Int.reduceBNe, Int.reduceEq, Int.reduceGT, Int.reduceGE, Int.reduceMul, Int.reduceToNat, Nat.reduceMul, reduceCtorEq, h23] <;> rfl), rfl, rfl⟩))
  · rintro t1 hq nq - ⟨⟨hu, hb⟩, h0, h1, h2, rfl, rfl⟩
    obtain ⟨hoff, hi0, hiN⟩ := wrong0 hu
    obtain ⟨k, rfl⟩ : ∃ k : Nat, i = (k : Int) := ⟨i.toNat, by omega⟩
    have hk : k < w.safe.length := by omega
    have hw1 := hw.wrote (n + 1) hk hb
    have ht : w.write n k b = (if ((w.wrote (n + 1) k b).trips (n + 2)).1 = true then 14 else 0, ((w.wrote (n + 1) k b).trips (n + 2)).2.1, ((w.wrote (n + 1) k b).trips (n + 2)).2.2) := by
      unfold DW.write; rw [if_neg (by rw [hu]; simp), if_neg (by omega)]; rfl
    rw [ht]
    clear ht hnn
    rw [hoff] at hd
    have hdn := hlt d (DW.keys_iff.2 (.inl rfl))
    have hsn := hlt w.js (DW.keys_iff.2 (.inr (.inl rfl)))
    have hnn := hlt w.jn (DW.keys_iff.2 (.inr (.inr (.inl rfl))))
    have e1 := F.ds
    have e2 := F.dn
    have e3 := F.sn
    have hN0 := hw.n0
    have hlen := hw.len
    have c24a := h24 hb h keepX0
    have r1 : rep 1 [AV.i .i64 0, AV.ro true [] 0] = [AV.i .i64 0, AV.ro true [] 0] := rfl
    refine AWp.cut (fun t' g m => t' 0 = .p d 0 ∧ t' 1 = .i .i64 (k : Int) ∧ t' 2 = x ∧ m = n + 2 ∧ DFacts g d { w with jp := n + 1, pend := w.pend ++ [(k, b)] } ∧ ∀ y r, y < n → h y = some r → y ∉ (w.cont d).keys → g y = some r) ?_ ?_
    · by_cases hpe : w.pend = []
      · obtain ⟨p0, _⟩ := DW.pend0 hpe
        rw [p0] at hd
        have u1 : ∀ (g : Heap) (r : Option Row), upd g n r d = g d := fun g r => upd_ne _ _ (by omega)
        have u3 : ∀ (g : Heap) (r : Option Row), upd g (n + 1) r d = g d := fun g r => upd_ne _ _ (by omega)
        refine aw_drawsL [0, 0, 2, 6, 14, 0, 0, 64, 224, 480, 1022, 2047, 4095, 8191] [10, 13] hS mixed (by kernel_rfl) (by kernel_rfl) ?_
        repeat (first | (refine vd0f (by decide) (by ((repeat (first | rewrite [hpL_t rfl] | rewrite [hpL_f rfl])); (simp only [hpL, app_cons, app_nil] <;> rfl))) (by (simp only [push_cast, ↓reduceIte, Nat.reduceEqDiff, Nat.reduceAdd, Nat.reduceLeDiff, Nat.reduceLT, Int.reduceLE, Int.reduceLT, Int.reduceAdd, Int.reduceSub, Int.reduceNeg, Int.reduceBEq, Int.reduceBNe, Int.reduceEq, Int.reduceGT, Int.reduceGE, Int.reduceMul, Int.reduceToNat, Nat.reduceMul, reduceCtorEq, h0, h1, h2, hd, c24a, r1, sp2, u1, u3] <;> rfl)) ?_) | (refine vd0q rfl (by decide) rfl (by ((repeat (first | rewrite [hpL_t rfl] | rewrite [hpL_f rfl])); (simp only [hpL, app_cons, app_nil] <;> rfl))) (by (simp only [push_cast, ↓reduceIte, Nat.reduceEqDiff, Nat.reduceAdd, Nat.reduceLeDiff, Nat.reduceLT, Int.reduceLE, Int.reduceLT, Int.reduceAdd, Int.reduceSub, Int.reduceNeg, Int.reduceBEq, Int.reduceBNe, Int.reduceEq, Int.reduceGT, Int.reduceGE, Int.reduceMul, Int.reduceToNat, Nat.reduceMul, reduceCtorEq, h0, h1, h2, hd, c24a, r1, sp2, u1, u3] <;> rfl)) (by simp) (by omega) (by intro u hu; simp only [List.mem_cons, List.not_mem_nil, or_false] at hu; rcases hu with rfl | rfl | rfl <;> simp only <;> omega) ?_) | (refine vd0w rfl (by decide) (by ((repeat (first | rewrite [hpL_t rfl] | rewrite [hpL_f rfl])); (simp only [hpL, app_cons, app_nil] <;> rfl))) (by (simp only [push_cast, ↓reduceIte, Nat.reduceEqDiff, Nat.reduceAdd, Nat.reduceLeDiff, Nat.reduceLT, Int.reduceLE, Int.reduceLT, Int.reduceAdd, Int.reduceSub, Int.reduceNeg, Int.reduceBEq, Int.reduceBNe, Int.reduceEq, Int.reduceGT, Int.reduceGE, Int.reduceMul, Int.reduceToNat, Nat.reduceMul, reduceCtorEq, h0, h1, h2, hd, c24a, r1, sp2, u1, u3] <;> rfl)) (by omega) (by intro u hu; simp only [List.mem_cons, List.not_mem_nil, or_false] at hu; rcases hu with rfl | rfl | rfl <;> simp only <;> omega) ?_) | (apply vd0; (focus rfl)) | (apply vd0r; (focus rfl); (focus decide); (focus rfl)) | (apply vd0p; (focus decide)) | apply vd4 | apply b_tt | apply b_ff | apply b_tf | apply b_ft | apply b_no | exact isD.mk rfl | ((repeat (first | rewrite [hpL_t rfl] | rewrite [hpL_f rfl])); (simp only [hpL, app_cons, app_nil] <;> rfl)) | (apply eqG; (simp only [push_cast, ↓reduceIte, Nat.reduceEqDiff, Nat.reduceAdd, Nat.reduceLeDiff, Nat.reduceLT, Int.reduceLE, Int.reduceLT, Int.reduceAdd, Int.reduceSub, Int.reduceNeg, Int.reduceBEq, Int.reduceBNe, Int.reduceEq, Int.reduceGT, Int.reduceGE, Int.reduceMul, Int.reduceToNat, Nat.reduceMul, reduceCtorEq, h0, h1, h2, hd, c24a, r1, sp2, u1, u3] <;> rfl)))
        (refine vd_nil (by simp only [hpL, app_cons, app_nil, if_true] <;> rfl) ?_)
        refine aw_then ⟨by (simp only [push_cast, ↓reduceIte, Nat.reduceEqDiff, Nat.reduceAdd, Nat.reduceLeDiff, Nat.reduceLT, Int.reduceLE, Int.reduceLT, Int.reduceAdd, Int.reduceSub, Int.reduceNeg, Int.reduceBEq, Int.reduceBNe, Int.reduceEq, Int.reduceGT, Int.reduceGE, Int.reduceMul, Int.reduceToNat, Nat.reduceMul, reduceCtorEq, h0, h1, h2, hd, c24a, r1, sp2, u1, u3] <;> rfl), by (simp only [push_cast, ↓reduceIte, Nat.reduceEqDiff, Nat.reduceAdd, Nat.reduceLeDiff, Nat.reduceLT, Int.reduceLE, Int.reduceLT, Int.reduceAdd, Int.reduceSub, Int.reduceNeg, Int.reduceBEq, Int.reduceBNe, Int.reduceEq, Int.reduceGT, Int.reduceGE, Int.reduceMul, Int.reduceToNat, Nat.reduceMul, reduceCtorEq, h0, h1, h2, hd, c24a, r1, sp2, u1, u3] <;> rfl), by (simp only [push_cast, ↓reduceIte, Nat.reduceEqDiff, Nat.reduceAdd, Nat.reduceLeDiff, Nat.reduceLT, Int.reduceLE, Int.reduceLT, Int.reduceAdd, Int.reduceSub, Int.reduceNeg, Int.reduceBEq, Int.reduceBNe, Int.reduceEq, Int.reduceGT, Int.reduceGE, Int.reduceMul, Int.reduceToNat, Nat.reduceMul, reduceCtorEq, h0, h1, h2, hd, c24a, r1, sp2, u1, u3] <;> rfl), rfl, ⟨?_, ?_, ?_, fun _ => ⟨?_, ?_, ?_, ?_⟩, fun y hy => ?_, e1, e2, e3⟩, keepX (.inr (DW.keys_iff.2 (.inl rfl))) (keepX (.inl (by omega)) (keepX (.inl (by omega)) keepX0))⟩
        · rw [upd_same]; simp only [DW.rowD, DW.pd, DW.tr, hpe, hoff, List.nil_append, if_false, List.length_cons, List.length_nil, reduceCtorEq]
        · show upd _ _ _ w.js = _
          rw [upd_ne _ _ (by omega), upd_ne _ _ (by omega), upd_ne _ _ (by omega)]; exact F.hs
        · show upd _ _ _ w.jn = _
          rw [upd_ne _ _ (by omega), upd_ne _ _ (by omega), upd_ne _ _ (by omega)]; exact F.hn
        · show upd _ _ _ (n + 1) = _
          rw [upd_ne _ _ (by omega), upd_same, hpe]; rfl
        · show n + 1 ≠ d; omega
        · show n + 1 ≠ w.js; omega
        · show n + 1 ≠ w.jn; omega
        · have hy : w.trip = some y := hy
          obtain ⟨a1, a2, a3, a4, a5⟩ := F.ht y hy
          have hjt := hlt w.jt (DW.keys_iff.2 (.inr (.inr (.inr (.inr ⟨by rw [hy]; simp, rfl⟩)))))
          refine ⟨?_, a2, a3, a4, fun _ => by show w.jt ≠ n + 1; omega⟩
          show upd _ _ _ w.jt = _
          rw [upd_ne _ _ (by omega), upd_ne _ _ (by omega), upd_ne _ _ (by omega)]; exact a1
      · obtain ⟨p0, _⟩ := DW.pend1 hpe
        obtain ⟨hjp, p1, p2, p3⟩ := F.hp hpe
        have hpn := hlt w.jp (DW.keys_iff.2 (.inr (.inr (.inr (.inl ⟨hpe, rfl⟩)))))
        rw [p0] at hd
        have qa : ((wrC w.pend).length = w.pend.length * 2) = True := by simp [wrC_len]
        have qb : ((w.pend.length + 1) * 32 ≤ 140737488355328) = True := by simp; omega
        have qc : (w.pend.length + 1 ≤ 9223372036854775807) = True := by simp; omega
        have u0 : ∀ (g : Heap) (r : Option Row), upd g n r w.jp = g w.jp := fun g r => upd_ne _ _ (by omega)
        have u1 : ∀ (g : Heap) (r : Option Row), upd g n r d = g d := fun g r => upd_ne _ _ (by omega)
        have u3 : ∀ (g : Heap) (r : Option Row), upd g (n + 1) r d = g d := fun g r => upd_ne _ _ (by omega)
        have u4 : ∀ (g : Heap) (r : Option Row), upd g w.jp r d = g d := fun g r => upd_ne _ _ (by omega)
        refine aw_drawsL [0, 0, 2, 6, 14, 0, 0, 64, 224, 480, 1022, 2047, 4095, 8191] [10, 13] hS mixed (by kernel_rfl) (by kernel_rfl) ?_
        repeat (first | (refine vd0f (by decide) (by ((repeat (first | rewrite [hpL_t rfl] | rewrite [hpL_f rfl])); (simp only [hpL, app_cons, app_nil] <;> rfl))) (by (simp only [push_cast, ↓reduceIte, Nat.reduceEqDiff, Nat.reduceAdd, Nat.reduceLeDiff, Nat.reduceLT, Int.reduceLE, Int.reduceLT, Int.reduceAdd, Int.reduceSub, Int.reduceNeg, Int.reduceBEq, Int.reduceBNe, Int.reduceEq, Int.reduceGT, Int.reduceGE, Int.reduceMul, Int.reduceToNat, Nat.reduceMul, reduceCtorEq, h0, h1, h2, hd, c24a, r1, sp2, hjp, qa, qb, qc, u0, u1, u3, u4] <;> rfl)) ?_) | (refine vd0q rfl (by decide) rfl (by ((repeat (first | rewrite [hpL_t rfl] | rewrite [hpL_f rfl])); (simp only [hpL, app_cons, app_nil] <;> rfl))) (by (simp only [push_cast, ↓reduceIte, Nat.reduceEqDiff, Nat.reduceAdd, Nat.reduceLeDiff, Nat.reduceLT, Int.reduceLE, Int.reduceLT, Int.reduceAdd, Int.reduceSub, Int.reduceNeg, Int.reduceBEq, Int.reduceBNe, Int.reduceEq, Int.reduceGT, Int.reduceGE, Int.reduceMul, Int.reduceToNat, Nat.reduceMul, reduceCtorEq, h0, h1, h2, hd, c24a, r1, sp2, hjp, qa, qb, qc, u0, u1, u3, u4] <;> rfl)) (by simp) (by omega) (by intro u hu; simp only [List.mem_cons, List.not_mem_nil, or_false] at hu; rcases hu with rfl | rfl | rfl <;> simp only <;> omega) ?_) | (refine vd0w rfl (by decide) (by ((repeat (first | rewrite [hpL_t rfl] | rewrite [hpL_f rfl])); (simp only [hpL, app_cons, app_nil] <;> rfl))) (by (simp only [push_cast, ↓reduceIte, Nat.reduceEqDiff, Nat.reduceAdd, Nat.reduceLeDiff, Nat.reduceLT, Int.reduceLE, Int.reduceLT, Int.reduceAdd, Int.reduceSub, Int.reduceNeg, Int.reduceBEq, Int.reduceBNe, Int.reduceEq, Int.reduceGT, Int.reduceGE, Int.reduceMul, Int.reduceToNat, Nat.reduceMul, reduceCtorEq, h0, h1, h2, hd, c24a, r1, sp2, hjp, qa, qb, qc, u0, u1, u3, u4] <;> rfl)) (by omega) (by intro u hu; simp only [List.mem_cons, List.not_mem_nil, or_false] at hu; rcases hu with rfl | rfl | rfl <;> simp only <;> omega) ?_) | (apply vd0; (focus rfl)) | (apply vd0r; (focus rfl); (focus decide); (focus rfl)) | (apply vd0p; (focus decide)) | apply vd4 | apply b_tt | apply b_ff | apply b_tf | apply b_ft | apply b_no | exact isD.mk rfl | ((repeat (first | rewrite [hpL_t rfl] | rewrite [hpL_f rfl])); (simp only [hpL, app_cons, app_nil] <;> rfl)) | (apply eqG; (simp only [push_cast, ↓reduceIte, Nat.reduceEqDiff, Nat.reduceAdd, Nat.reduceLeDiff, Nat.reduceLT, Int.reduceLE, Int.reduceLT, Int.reduceAdd, Int.reduceSub, Int.reduceNeg, Int.reduceBEq, Int.reduceBNe, Int.reduceEq, Int.reduceGT, Int.reduceGE, Int.reduceMul, Int.reduceToNat, Nat.reduceMul, reduceCtorEq, h0, h1, h2, hd, c24a, r1, sp2, hjp, qa, qb, qc, u0, u1, u3, u4] <;> rfl)))
        (refine vd_nil (by simp only [hpL, app_cons, app_nil, if_true] <;> rfl) ?_)
        refine aw_then ⟨by (simp only [push_cast, ↓reduceIte, Nat.reduceEqDiff, Nat.reduceAdd, Nat.reduceLeDiff, Nat.reduceLT, Int.reduceLE, Int.reduceLT, Int.reduceAdd, Int.reduceSub, Int.reduceNeg, Int.reduceBEq, Int.reduceBNe, Int.reduceEq, Int.reduceGT, Int.reduceGE, Int.reduceMul, Int.reduceToNat, Nat.reduceMul, reduceCtorEq, h0, h1, h2, hd, c24a, r1, sp2, hjp, qa, qb, qc, u0, u1, u3, u4] <;> rfl), by (simp only [push_cast, ↓reduceIte, Nat.reduceEqDiff, Nat.reduceAdd, Nat.reduceLeDiff, Nat.reduceLT, Int.reduceLE, Int.reduceLT, Int.reduceAdd, Int.reduceSub, Int.reduceNeg, Int.reduceBEq, Int.reduceBNe, Int.reduceEq, Int.reduceGT, Int.reduceGE, Int.reduceMul, Int.reduceToNat, Nat.reduceMul, reduceCtorEq, h0, h1, h2, hd, c24a, r1, sp2, hjp, qa, qb, qc, u0, u1, u3, u4] <;> rfl), by (simp only [push_cast, ↓reduceIte, Nat.reduceEqDiff, Nat.reduceAdd, Nat.reduceLeDiff, Nat.reduceLT, Int.reduceLE, Int.reduceLT, Int.reduceAdd, Int.reduceSub, Int.reduceNeg, Int.reduceBEq, Int.reduceBNe, Int.reduceEq, Int.reduceGT, Int.reduceGE, Int.reduceMul, Int.reduceToNat, Nat.reduceMul, reduceCtorEq, h0, h1, h2, hd, c24a, r1, sp2, hjp, qa, qb, qc, u0, u1, u3, u4] <;> rfl), rfl, ⟨?_, ?_, ?_, fun _ => ⟨?_, ?_, ?_, ?_⟩, fun y hy => ?_, e1, e2, e3⟩, keepX (.inr (DW.keys_iff.2 (.inl rfl))) (keepX (.inl (by omega)) (keepX (.inr (DW.keys_iff.2 (.inr (.inr (.inr (.inl ⟨hpe, rfl⟩)))))) (keepX (.inl (by omega)) keepX0)))⟩
        · rw [upd_same]; simp only [DW.rowD, DW.pd, DW.tr, hoff, snoc_ne, if_false, List.length_append, List.length_cons, List.length_nil]
        · show upd _ _ _ w.js = _
          rw [upd_ne _ _ (by omega), upd_ne _ _ (by omega), upd_ne _ _ (by omega), upd_ne _ _ (by omega)]; exact F.hs
        · show upd _ _ _ w.jn = _
          rw [upd_ne _ _ (by omega), upd_ne _ _ (by omega), upd_ne _ _ (by omega), upd_ne _ _ (by omega)]; exact F.hn
        · show upd _ _ _ (n + 1) = _
          rw [upd_ne _ _ (by omega), upd_same, wrC_app]; rfl
        · show n + 1 ≠ d; omega
        · show n + 1 ≠ w.js; omega
        · show n + 1 ≠ w.jn; omega
        · have hy : w.trip = some y := hy
          obtain ⟨a1, a2, a3, a4, a5⟩ := F.ht y hy
          have a6 := a5 hpe
          have hjt := hlt w.jt (DW.keys_iff.2 (.inr (.inr (.inr (.inr ⟨by rw [hy]; simp, rfl⟩)))))
          refine ⟨?_, a2, a3, a4, fun _ => by show w.jt ≠ n + 1; omega⟩
          show upd _ _ _ w.jt = _
          rw [upd_ne _ _ (by omega), upd_ne _ _ (by omega), upd_ne _ _ (by omega), upd_ne _ _ (by omega)]; exact a1
    · rintro t2 g m2 - ⟨h0, h1, h2, rfl, F1, hg⟩
      have c24b := h24 hb g hg
      have hd1 := F1.hd
      have hn1 : g w.jn = some (.cells (secC w.now)) := F1.hn
      simp only [DW.rowD, hoff] at hd1
      have q5 : (0 ≤ (k : Int) ∧ (k : Int) < (w.now.length : Int)) = True := by simp; omega
      have q6 : (k * 2 + 2 ≤ (secC w.now).length) = True := by rw [secC_len]; simp only [eq_iff_iff, iff_true]; omega
      have q8 : splice (secC w.now) (k * 2) [.ro false (cellsB b) b.length, .b false] = secC (w.now.set k (some b)) := secC_set (some b) (by omega)
      refine AWp.seq ?_
      refine aw_drawsL [0, 1, 3, 7, 0, 0, 32, 96, 255, 511] [9] hS mixed (by kernel_rfl) (by kernel_rfl) ?_
      repeat (first | (refine vd0f (by decide) (by ((repeat (first | rewrite [hpL_t rfl] | rewrite [hpL_f rfl])); (simp only [hpL, app_cons, app_nil] <;> rfl))) (by (simp only [push_cast, ↓reduceIte, Nat.reduceEqDiff, Nat.reduceAdd, Nat.reduceLeDiff, Nat.reduceLT, Int.reduceLE, Int.reduceLT, Int.reduceAdd, Int.reduceSub, Int.reduceNeg, Int.reduceBEq, Int.reduceBNe, Int.reduceEq, Int.reduceGT, Int.reduceGE, Int.reduceMul, Int.reduceToNat, Nat.reduceMul, reduceCtorEq, h0, h1, h2, hd1, hn1, c24b, q5, q6, q8] <;> rfl)) ?_) | (refine vd0q rfl (by decide) rfl (by ((repeat (first | rewrite [hpL_t rfl] | rewrite [hpL_f rfl])); (simp only [hpL, app_cons, app_nil] <;> rfl))) (by (simp only [push_cast, ↓reduceIte, Nat.reduceEqDiff, Nat.reduceAdd, Nat.reduceLeDiff, Nat.reduceLT, Int.reduceLE, Int.reduceLT, Int.reduceAdd, Int.reduceSub, Int.reduceNeg, Int.reduceBEq, Int.reduceBNe, Int.reduceEq, Int.reduceGT, Int.reduceGE, Int.reduceMul, Int.reduceToNat, Nat.reduceMul, reduceCtorEq, h0, h1, h2, hd1, hn1, c24b, q5, q6, q8] <;> rfl)) (by simp) (by omega) (by intro u hu; simp only [List.mem_cons, List.not_mem_nil, or_false] at hu; rcases hu with rfl | rfl | rfl <;> simp only <;> omega) ?_) | (refine vd0w rfl (by decide) (by ((repeat (first | rewrite [hpL_t rfl] | rewrite [hpL_f rfl])); (simp only [hpL, app_cons, app_nil] <;> rfl))) (by (simp only [push_cast, ↓reduceIte, Nat.reduceEqDiff, Nat.reduceAdd, Nat.reduceLeDiff, Nat.reduceLT, Int.reduceLE, Int.reduceLT, Int.reduceAdd, Int.reduceSub, Int.reduceNeg, Int.reduceBEq, Int.reduceBNe, Int.reduceEq, Int.reduceGT, Int.reduceGE, Int.reduceMul, Int.reduceToNat, Nat.reduceMul, reduceCtorEq, h0, h1, h2, hd1, hn1, c24b, q5, q6, q8] <;> rfl)) (by omega) (by intro u hu; simp only [List.mem_cons, List.not_mem_nil, or_false] at hu; rcases hu with rfl | rfl | rfl <;> simp only <;> omega) ?_) | (apply vd0; (focus rfl)) | (apply vd0r; (focus rfl); (focus decide); (focus rfl)) | (apply vd0p; (focus decide)) | apply vd4 | apply b_tt | apply b_ff | apply b_tf | apply b_ft | apply b_no | exact isD.mk rfl | ((repeat (first | rewrite [hpL_t rfl] | rewrite [hpL_f rfl])); (simp only [hpL, app_cons, app_nil] <;> rfl)) | (apply eqG; (simp only [push_cast, ↓reduceIte, Nat.reduceEqDiff, Nat.reduceAdd, Nat.reduceLeDiff, Nat.reduceLT, Int.reduceLE, Int.reduceLT, Int.reduceAdd, Int.reduceSub, Int.reduceNeg, Int.reduceBEq, Int.reduceBNe, Int.reduceEq, Int.reduceGT, Int.reduceGE, Int.reduceMul, Int.reduceToNat, Nat.reduceMul, reduceCtorEq, h0, h1, h2, hd1, hn1, c24b, q5, q6, q8] <;> rfl)))
      (refine vd_nil (by simp only [hpL, app_cons, app_nil, if_true] <;> rfl) ?_)
      refine aw_then ?_
      have F2 : DFacts (upd g w.jn (some (.cells (secC (w.now.set k (some b)))))) d (w.wrote (n + 1) k b) := by
        refine ⟨?_, ?_, upd_same .., fun hp => ?_, fun y hy => ?_, e1, e2, e3⟩
        · rw [upd_ne _ _ (by omega), F1.hd]; simp only [DW.rowD, DW.wrote, DW.pd, DW.tr, List.length_set]; rfl
        · show upd _ _ _ w.js = _
          rw [upd_ne _ _ (by omega)]; exact F1.hs
        · obtain ⟨a1, a2, a3, a4⟩ := F1.hp hp
          refine ⟨?_, a2, a3, a4⟩
          show upd _ _ _ (n + 1) = _
          rw [upd_ne _ _ (by omega)]; exact a1
        · obtain ⟨a1, a2, a3, a4, a5⟩ := F1.ht y hy
          refine ⟨?_, a2, a3, a4, a5⟩
          show upd _ _ _ w.jt = _
          rw [upd_ne _ _ a4]; exact a1
      have hg2 : ∀ y r, y < n → h y = some r → y ∉ (w.cont d).keys → upd g w.jn (some (.cells (secC (w.now.set k (some b))))) y = some r := keepX (.inr (DW.keys_iff.2 (.inr (.inr (.inl rfl))))) hg
      generalize upd g w.jn (some (.cells (secC (w.now.set k (some b))))) = g2 at *
      have hpl1 : (w.wrote (n + 1) k b).pend.length ≤ 1000000 := by show (w.pend ++ [(k, b)]).length ≤ _; simp; omega
      have hL2 := F2.has
      have hlt2 : ∀ j, j ∈ ((w.wrote (n + 1) k b).cont d).keys → j < n + 2 := fun j hj => by
        rcases wrote_keys hj with h | h
        · have := hlt j h; omega
        · omega
      have hk2 : ∀ j, j ∈ ((w.wrote (n + 1) k b).cont d).keys → n ≤ j ∨ j ∈ (w.cont d).keys := fun j hj => by
        rcases wrote_keys hj with h | h
        · exact .inr h
        · exact .inl (by omega)
      obtain ⟨k1, k2, k3, k4⟩ := trips_fact F2 hlt2
      obtain ⟨S2, hS2, h25⟩ : ∃ S2, SumOk Tryd.prog S2 ∧ S2 46 [.p d 0] g2 = .wide (fun m => (.b ((w.wrote (n + 1) k b).trips m).1, swap ((w.wrote (n + 1) k b).cont d) (((w.wrote (n + 1) k b).trips m).2.1.cont d), ((w.wrote (n + 1) k b).trips m).2.2)) :=
        ⟨_, hS.loc (f := 46) (args := [.p d 0]) (h := g2) (r := .wide _) (fun m => c25 hw1 hL2 hoff hpl1 m), Sums.loc_at⟩
      clear c24b hd1 hn1 F1
      generalize hwr : w.wrote (n + 1) k b = w1 at *
      generalize htr : w1.trips (n + 2) = tr at *
      obtain ⟨tb, w2, n2⟩ := tr
      simp only at k1 k2 k3 k4
      have F3 : DFacts (app (swap (w1.cont d) (w2.cont d)) g2) d w2 := Has.dis k3
      refine AWp.seq ?_
      refine AWp.seq ?_
      refine aw_regionL hS2 (by kernel_rfl) ?_
      repeat (first | apply vr0u | apply vr4 | apply b_tt | apply b_ff | apply b_tf | apply b_ft | apply b_no | exact isD.mk rfl | (apply eqG; (simp only [push_cast, ↓reduceIte, Nat.reduceEqDiff, Nat.reduceAdd, Nat.reduceLeDiff, Nat.reduceLT, Int.reduceLE, Int.reduceLT, Int.reduceAdd, Int.reduceSub, Int.reduceNeg, Int.reduceBEq, Int.reduceBNe, Int.reduceEq, Int.reduceGT, Int.reduceGE, Int.reduceMul, Int.reduceToNat, Nat.reduceMul, reduceCtorEq, h0, h1, h2, h25, htr] <;> rfl)) | exact (rfl : app (swap _ _) _ = _))
      refine vr_nil (aw_then ?_)
      have hk3 : ∀ y r, y < n → h y = some r → y ∉ (w.cont d).keys → app (swap (w1.cont d) (w2.cont d)) g2 y = some r := keepXs hk2 (fun j hj => by
        rcases k2 j hj with h | h
        · exact hk2 j h
        · exact .inl (by omega)) hg2
      have hJ : ∀ j, j ∈ (w2.cont d).keys → j ∈ (w.cont d).keys ∨ (n ≤ j ∧ j < n2) := fun j hj => by
        rcases k2 j hj with h | h
        · rcases hk2 j h with h' | h'
          · have := hlt2 j h; exact .inr ⟨h', by omega⟩
          · exact .inl h'
        · exact .inr ⟨by omega, h.2⟩
      cases tb with
      | true =>
        refine aw_true (by (simp only [push_cast, ↓reduceIte, Nat.reduceEqDiff, Nat.reduceAdd, Nat.reduceLeDiff, Nat.reduceLT, Int.reduceLE, Int.reduceLT, Int.reduceAdd, Int.reduceSub, Int.reduceNeg, Int.reduceBEq, Int.reduceBNe, Int.reduceEq, Int.reduceGT, Int.reduceGE, Int.reduceMul, Int.reduceToNat, Nat.reduceMul, reduceCtorEq, h0, h1, h2, h25, htr] <;> rfl)) ?_
        refine AWp.seq ?_
        (refine aw_regionL hS (by kernel_rfl) ?_; repeat (first | apply vr0u | apply vr4 | apply b_tt | apply b_ff | apply b_tf | apply b_ft | apply b_no | exact isD.mk rfl | (apply eqG; (simp only [push_cast, ↓reduceIte, Nat.reduceEqDiff, Nat.reduceAdd, Nat.reduceLeDiff, Nat.reduceLT, Int.reduceLE, Int.reduceLT, Int.reduceAdd, Int.reduceSub, Int.reduceNeg, Int.reduceBEq, Int.reduceBNe, Int.reduceEq, Int.reduceGT, Int.reduceGE, Int.reduceMul, Int.reduceToNat, Nat.reduceMul, reduceCtorEq] <;> rfl)) | exact (rfl : app (swap _ _) _ = _)))
        refine vr_nil (aw_then ?_)
        refine AWp.ret ?_
        exact Out.disk (w' := w2) (xs := [.i .i64 14]) (.inr rfl) (by simp [Tryd.f36, resAll, resT]; (simp only [push_cast, ↓reduceIte, Nat.reduceEqDiff, Nat.reduceAdd, Nat.reduceLeDiff, Nat.reduceLT, Int.reduceLE, Int.reduceLT, Int.reduceAdd, Int.reduceSub, Int.reduceNeg, Int.reduceBEq, Int.reduceBNe, Int.reduceEq, Int.reduceGT, Int.reduceGE, Int.reduceMul, Int.reduceToNat, Nat.reduceMul, reduceCtorEq] <;> rfl)) rfl (by show n ≤ n2; omega) (Nat.le_refl _) trivial hL hlt F3 hJ hk3
      | false =>
        refine aw_false (by (simp only [push_cast, ↓reduceIte, Nat.reduceEqDiff, Nat.reduceAdd, Nat.reduceLeDiff, Nat.reduceLT, Int.reduceLE, Int.reduceLT, Int.reduceAdd, Int.reduceSub, Int.reduceNeg, Int.reduceBEq, Int.reduceBNe, Int.reduceEq, Int.reduceGT, Int.reduceGE, Int.reduceMul, Int.reduceToNat, Nat.reduceMul, reduceCtorEq] <;> rfl)) (AWp.skip (aw_then ?_))
        refine AWp.seq ?_
        (refine aw_regionL hS (by kernel_rfl) ?_; repeat (first | apply vr0u | apply vr4 | apply b_tt | apply b_ff | apply b_tf | apply b_ft | apply b_no | exact isD.mk rfl | (apply eqG; (simp only [push_cast, ↓reduceIte, Nat.reduceEqDiff, Nat.reduceAdd, Nat.reduceLeDiff, Nat.reduceLT, Int.reduceLE, Int.reduceLT, Int.reduceAdd, Int.reduceSub, Int.reduceNeg, Int.reduceBEq, Int.reduceBNe, Int.reduceEq, Int.reduceGT, Int.reduceGE, Int.reduceMul, Int.reduceToNat, Nat.reduceMul, reduceCtorEq] <;> rfl)) | exact (rfl : app (swap _ _) _ = _)))
        refine vr_nil (aw_then ?_)
        refine AWp.ret ?_
        exact Out.disk (w' := w2) (xs := [.i .i64 0]) (.inr rfl) (by simp [Tryd.f36, resAll, resT]; (simp only [push_cast, ↓reduceIte, Nat.reduceEqDiff, Nat.reduceAdd, Nat.reduceLeDiff, Nat.reduceLT, Int.reduceLE, Int.reduceLT, Int.reduceAdd, Int.reduceSub, Int.reduceNeg, Int.reduceBEq, Int.reduceBNe, Int.reduceEq, Int.reduceGT, Int.reduceGE, Int.reduceMul, Int.reduceToNat, Nat.reduceMul, reduceCtorEq] <;> rfl)) rfl (by show n ≤ n2; omega) (Nat.le_refl _) trivial hL hlt F3 hJ hk3

end Go.Proofs.YtepfknnffooaiaaDoor
