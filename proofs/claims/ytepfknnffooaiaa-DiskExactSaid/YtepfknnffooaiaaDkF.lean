import Derived.Test.YtepfknnffooaiaaDkE

namespace Go.Proofs.Ytepfknnffooaiaa
open Go.Av
set_option maxRecDepth 100000
set_option maxHeartbeats 1000000
set_option linter.unusedSimpArgs false
set_option linter.unusedVariables false
attribute [local push_cast] stepE callR resE aeff aev ofC ofC1 put_at Av.put_none inTmps List.getD_cons_zero List.getD_cons_succ AV.boxable if_true if_false AV.cells aload place app_cons app_nil upd_same Av.part abin aconv aindexAddr fillA splice_one abuiltin alen amax amin aun aindex Option.map_some Option.isSome_some List.map_cons List.map_nil List.nil_append List.append_nil List.cons_append Nat.le_refl Nat.zero_add Nat.add_zero List.length_cons List.length_nil List.drop_succ_cons List.drop_zero List.take_succ_cons List.take_zero beq_self_eq_true bne_self_eq_false Bool.not_true Bool.not_false List.set_cons_zero List.set_cons_succ Bool.false_eq_true IntWalk.i64_in decide_true decide_false Int.toNat_zero and_self and_true true_and List.getElem?_cons_zero List.getElem?_cons_succ aappend aapp view Bool.and_true Bool.true_and Nat.mul_one Option.map_none aslice asliceB nilOp Int.toNat_natCast und_30 agT_3 szT_3 kiT_3 agT_4 szT_4 kiT_4 agT_5 szT_5 kiT_5 agT_25 szT_25 kiT_25 agT_28 szT_28 kiT_28 agT_22 szT_22 kiT_22 agT_23 szT_23 kiT_23 agT_30 szT_30 kiT_30 agT_37 szT_37 kiT_37 agT_38 szT_38 kiT_38 agT_52 szT_52 kiT_52 agT_53 szT_53 kiT_53 agT_24 szT_24 kiT_24 agT_54 szT_54 kiT_54 agT_47 szT_47 kiT_47 slT_22 slT_23 slT_30 slT_37 slT_38 slT_52 slT_53 zeT_3 zeT_4 zeT_5 zeT_30 flT_56_0 flT_56_1 flT_56_2 flT_56_3 flT_56_4 agT_56 szT_56 buT_56 zeT_56 flT_58_0 flT_58_1 agT_58 szT_58 buT_58 zeT_58 flT_62_0 flT_62_1 agT_62 szT_62 buT_62 zeT_62 flT_65_0 flT_65_1 flT_65_2 agT_65 szT_65 buT_65 zeT_65 flT_42_0 flT_42_1 flT_42_2 flT_42_3 flT_42_4 flT_42_5 agT_42 szT_42 buT_42 zeT_42 flT_68_0 flT_68_1 flT_68_2 flT_68_3 flT_68_4 flT_68_5 flT_68_6 agT_68 szT_68 buT_68 zeT_68 ptT_24 ptT_54 ptT_47 und_30 

/-! ### Start -/
def DW.start (w : DW) : DW := { w with off := false }
theorem DOk.start {w : DW} (hw : DOk w) : DOk w.start := ⟨hw.len, hw.n0, hw.pe, hw.s1, hw.s2, hw.tp⟩
theorem start_cont {d : Nat} {w : DW} : (w.start.cont d).keys = (w.cont d).keys := rfl
theorem c13 {h : Heap} {d : Nat} {w : DW} (hL : Has h (w.cont d)) :
    ∀ n, DCalls Try.prog 13 [.p d 0] h n (.tup []) (swap (w.cont d) (w.start.cont d)) n := by
  intro n
  have hS := ok_DB
  have F := DFacts.of hL
  have hd := F.hd
  simp only [DW.rowD] at hd
  rcases has_any hL n with hlt | ⟨j, r, hj, hn⟩
  case inr => exact DCalls.vac ⟨_, Try.func13, rfl, by decide⟩ (Nat.le_refl _) hj hn
  refine DCalls.of Try.func13 rfl (by decide) (Nat.le_of_ble_eq_true rfl) (Nat.le_refl _) ?_
  (refine aw_regionL hS (by kernel_rfl) ?_; repeat (first | apply vr0u | apply vr4 | apply b_tt | apply b_ff | apply b_tf | apply b_ft | apply b_no | exact isD.mk rfl | (apply eqG; (simp only [push_cast, ↓reduceIte, Nat.reduceEqDiff, Nat.reduceAdd, Nat.reduceLeDiff, Nat.reduceLT, Int.reduceLE, Int.reduceLT, Int.reduceAdd, Int.reduceSub, Int.reduceNeg, Int.reduceBEq, Int.reduceBNe, Int.reduceEq, Int.reduceGT, Int.reduceGE, Int.reduceMul, Int.reduceToNat, Nat.reduceMul, reduceCtorEq, hd] <;> rfl)) | exact (rfl : app (swap _ _) _ = _)))
  refine vr_nil ?_
  refine Out.disk (w' := w.start) (xs := []) (.inl rfl) rfl rfl (Nat.le_refl _) (Nat.le_refl _) trivial hL hlt ?_ (fun j hj => .inl hj) (keepX (.inr (DW.keys_iff.2 (.inl rfl))) keepX0)
  refine ⟨?_, ?_, ?_, fun hp => ?_, fun y hy => ?_, F.ds, F.dn, F.sn⟩
  · rw [upd_same]; rfl
  · show upd _ _ _ w.js = _
    rw [upd_ne _ _ F.ds.symm]; exact F.hs
  · show upd _ _ _ w.jn = _
    rw [upd_ne _ _ F.dn.symm]; exact F.hn
  · obtain ⟨a1, a2, a3, a4⟩ := F.hp hp
    refine ⟨?_, a2, a3, a4⟩
    show upd _ _ _ w.jp = _
    rw [upd_ne _ _ a2]; exact a1
  · obtain ⟨a1, a2, a3, a4, a5⟩ := F.ht y hy
    refine ⟨?_, a2, a3, a4, a5⟩
    show upd _ _ _ w.jt = _
    rw [upd_ne _ _ a2]; exact a1

/-! ### Trip -/
/-- Bools that a value shows, in memory apart from J. -/
def ShowsK (h : Heap) (J : List Nat) (x : AV) (z : Bool) (b : List Bool) : Prop := (z = false ∧ x = .ro false (bools b) b.length) ∨ (z = true ∧ x = .ro true [] 0 ∧ b = []) ∨ ∃ j, z = false ∧ x = .sl 1 j 0 b.length ∧ h j = some (.cells (bools b)) ∧ j ∉ J
def DW.arm (w : DW) (n : Nat) (k : Int) (z : Bool) (keep : List Bool) (torn : Int) : DW × Nat := if 1 ≤ k then ({ w with jt := n, trip := some (k, z, keep, torn) }, n + 1) else ({ w with trip := none }, n)
theorem DOk.arm {w : DW} (hw : DOk w) (n : Nat) {k : Int} (hk : k ≤ 9223372036854775807) {z : Bool} {keep : List Bool} (hz : z = true → keep = []) (hl : keep.length ≤ 1000000) (torn : Int) : DOk (w.arm n k z keep torn).1 := by
  unfold DW.arm
  split
  · refine ⟨hw.len, hw.n0, hw.pe, hw.s1, hw.s2, fun x hx => ?_⟩
    injection hx with hx
    subst hx
    exact ⟨hz, hl, by assumption, hk⟩
  · exact ⟨hw.len, hw.n0, hw.pe, hw.s1, hw.s2, fun x hx => (nomatch hx)⟩
theorem DW.noTrip {h : Heap} {d : Nat} {w : DW} (F : DFacts h d w) (g : Heap) (hg : ∀ j, j ≠ d → g j = h j) (hd : g d = some (.cells [.sl 2 w.js 0 w.safe.length, .sl 2 w.jn 0 w.now.length, w.pd, .b w.off, .np])) : DFacts g d { w with trip := none } := by
  refine ⟨hd, ?_, ?_, fun hp => ?_, fun y hy => (nomatch hy), F.ds, F.dn, F.sn⟩
  · show g w.js = _
    rw [hg _ F.ds.symm]; exact F.hs
  · show g w.jn = _
    rw [hg _ F.dn.symm]; exact F.hn
  · obtain ⟨a1, a2, a3, a4⟩ := F.hp hp
    refine ⟨?_, a2, a3, a4⟩
    show g w.jp = _
    rw [hg _ a2]; exact a1
theorem noTrip_keys {d k : Nat} {w : DW} (hk : k ∈ (({ w with trip := none } : DW).cont d).keys) : k ∈ (w.cont d).keys := by
  rw [DW.keys_iff] at hk ⊢
  rcases hk with h1 | h1 | h1 | h1 | ⟨h1, _⟩
  · exact .inl h1
  · exact .inr (.inl h1)
  · exact .inr (.inr (.inl h1))
  · exact .inr (.inr (.inr (.inl h1)))
  · exact absurd rfl h1
theorem c17 {h : Heap} {d : Nat} {w : DW} (hw : DOk w) (hL : Has h (w.cont d)) (k : Int) {x : AV} {z : Bool} {keep : List Bool} (hkl : keep.length ≤ 1000000) (hx : ShowsK h (w.cont d).keys x z keep) (torn : Int) :
    ∀ n, DCalls Try.prog 17 [.p d 0, .i .i64 k, x, .i .i64 torn] h n (.tup []) (swap (w.cont d) ((w.arm n k z keep torn).1.cont d)) (w.arm n k z keep torn).2 := by
  intro n
  have hS := ok_DB
  have F := DFacts.of hL
  have hd := F.hd
  simp only [DW.rowD] at hd
  have hnn : n ≤ (w.arm n k z keep torn).2 := by
    unfold DW.arm
    split
    · exact Nat.le_succ _
    · exact Nat.le_refl _
  rcases has_any hL n with hlt | ⟨j, r, hj, hn⟩
  case inr => exact DCalls.vac ⟨_, Try.func17, rfl, by decide⟩ hnn hj hn
  have e1 := F.ds
  have e2 := F.dn
  have e3 := F.sn
  have h26 : ∀ g, (∀ y r, h y = some r → y ∉ (w.cont d).keys → g y = some r) → DB 26 [x] g = .pure (.ro z (bools keep) keep.length) := fun g hg => by
    rcases hx with ⟨rfl, rfl⟩ | ⟨rfl, rfl, rfl⟩ | ⟨j, rfl, rfl, hj, hjk⟩
    · exact cloneG_ro bools_inj (by omega) g
    · exact cloneG_nil g
    · exact cloneG_sl bools_inj (by omega) (hg j _ hj hjk)
  have c26a := h26 (upd h d (some (.cells [.sl 2 w.js 0 w.safe.length, .sl 2 w.jn 0 w.now.length, w.pd, .b w.off, .np]))) (fun y r hy hyk => by rw [upd_ne _ _ (fun e => hyk (DW.keys_iff.2 (.inl e)))]; exact hy)
  refine DCalls.of Try.func17 rfl (by decide) (Nat.le_of_ble_eq_true rfl) hnn ?_
  have hdn := hlt d (DW.keys_iff.2 (.inl rfl))
  have hsn := hlt w.js (DW.keys_iff.2 (.inr (.inl rfl)))
  have hnn := hlt w.jn (DW.keys_iff.2 (.inr (.inr (.inl rfl))))
  have u0 : ∀ (g : Heap) (r : Option Row), upd g n r d = g d := fun g r => upd_ne _ _ (by omega)
  refine AWp.seq ?_
  (refine aw_regionL hS (by kernel_rfl) ?_; repeat (first | apply vr0u | apply vr4 | apply b_tt | apply b_ff | apply b_tf | apply b_ft | apply b_no | exact isD.mk rfl | (apply eqG; (simp only [push_cast, ↓reduceIte, Nat.reduceEqDiff, Nat.reduceAdd, Nat.reduceLeDiff, Nat.reduceLT, Int.reduceLE, Int.reduceLT, Int.reduceAdd, Int.reduceSub, Int.reduceNeg, Int.reduceBEq, Int.reduceBNe, Int.reduceEq, Int.reduceGT, Int.reduceGE, Int.reduceMul, Int.reduceToNat, Nat.reduceMul, reduceCtorEq, hd, c26a, u0] <;> rfl)) | exact (rfl : app (swap _ _) _ = _)))
  refine vr_nil (aw_then ?_)
  refine AWp.seq ?_
  (refine aw_regionL hS (by kernel_rfl) ?_; repeat (first | apply vr0u | apply vr4 | apply b_tt | apply b_ff | apply b_tf | apply b_ft | apply b_no | exact isD.mk rfl | (apply eqG; (simp only [push_cast, ↓reduceIte, Nat.reduceEqDiff, Nat.reduceAdd, Nat.reduceLeDiff, Nat.reduceLT, Int.reduceLE, Int.reduceLT, Int.reduceAdd, Int.reduceSub, Int.reduceNeg, Int.reduceBEq, Int.reduceBNe, Int.reduceEq, Int.reduceGT, Int.reduceGE, Int.reduceMul, Int.reduceToNat, Nat.reduceMul, reduceCtorEq, hd, c26a, u0] <;> rfl)) | exact (rfl : app (swap _ _) _ = _)))
  refine vr_nil (aw_then ?_)
  refine aw_split (by (simp only [push_cast, ↓reduceIte, Nat.reduceEqDiff, Nat.reduceAdd, Nat.reduceLeDiff, Nat.reduceLT, Int.reduceLE, Int.reduceLT, Int.reduceAdd, Int.reduceSub, Int.reduceNeg, Int.reduceBEq, Int.reduceBNe, Int.reduceEq, Int.reduceGT, Int.reduceGE, Int.reduceMul, Int.reduceToNat, Nat.reduceMul, reduceCtorEq, hd, c26a, u0] <;> rfl)) (fun hu => ?_) (fun hu => ?_)
  · have hu : 1 ≤ k := by simpa using hu
    have ht : w.arm n k z keep torn = ({ w with jt := n, trip := some (k, z, keep, torn) }, n + 1) := if_pos hu
    rw [ht]
    (refine aw_regionL hS (by kernel_rfl) ?_; repeat (first | apply vr0u | apply vr4 | apply b_tt | apply b_ff | apply b_tf | apply b_ft | apply b_no | exact isD.mk rfl | (apply eqG; (simp only [push_cast, ↓reduceIte, Nat.reduceEqDiff, Nat.reduceAdd, Nat.reduceLeDiff, Nat.reduceLT, Int.reduceLE, Int.reduceLT, Int.reduceAdd, Int.reduceSub, Int.reduceNeg, Int.reduceBEq, Int.reduceBNe, Int.reduceEq, Int.reduceGT, Int.reduceGE, Int.reduceMul, Int.reduceToNat, Nat.reduceMul, reduceCtorEq, hd, c26a, u0] <;> rfl)) | exact (rfl : app (swap _ _) _ = _)))
    refine vr_nil ?_
    refine Out.disk (w' := { w with jt := n, trip := some (k, z, keep, torn) }) (xs := []) (.inl rfl) rfl rfl (Nat.le_succ _) (Nat.le_refl _) trivial hL hlt ?_ (fun j hj => ?_) (keepX (.inr (DW.keys_iff.2 (.inl rfl))) (keepX (.inl (Nat.le_refl _)) (keepX (.inr (DW.keys_iff.2 (.inl rfl))) keepX0)))
    · refine ⟨?_, ?_, ?_, fun hp => ?_, fun y hy => ?_, e1, e2, e3⟩
      · rw [upd_same]; rfl
      · show upd _ _ _ w.js = _
        rw [upd_ne _ _ e1.symm, upd_ne _ _ (by omega), upd_ne _ _ e1.symm]; exact F.hs
      · show upd _ _ _ w.jn = _
        rw [upd_ne _ _ e2.symm, upd_ne _ _ (by omega), upd_ne _ _ e2.symm]; exact F.hn
      · have hp : w.pend ≠ [] := hp
        obtain ⟨a1, a2, a3, a4⟩ := F.hp hp
        have hpn := hlt w.jp (DW.keys_iff.2 (.inr (.inr (.inr (.inl ⟨hp, rfl⟩)))))
        refine ⟨?_, a2, a3, a4⟩
        show upd _ _ _ w.jp = _
        rw [upd_ne _ _ a2, upd_ne _ _ (by omega), upd_ne _ _ a2]; exact a1
      · injection hy with hy
        subst hy
        refine ⟨?_, by show n ≠ d; omega, by show n ≠ w.js; omega, by show n ≠ w.jn; omega, fun hp => ?_⟩
        · show upd _ _ _ n = _
          rw [upd_ne _ _ (by omega), upd_same]; rfl
        · have hpn := hlt w.jp (DW.keys_iff.2 (.inr (.inr (.inr (.inl ⟨hp, rfl⟩)))))
          show n ≠ w.jp; omega
    · rw [DW.keys_iff] at hj
      rcases hj with h1 | h1 | h1 | h1 | ⟨_, h1⟩
      · exact .inl (DW.keys_iff.2 (.inl h1))
      · exact .inl (DW.keys_iff.2 (.inr (.inl h1)))
      · exact .inl (DW.keys_iff.2 (.inr (.inr (.inl h1))))
      · exact .inl (DW.keys_iff.2 (.inr (.inr (.inr (.inl h1)))))
      · have h1 : j = n := h1
        subst h1
        exact .inr ⟨Nat.le_refl _, Nat.lt_succ_self _⟩
  · have hu : ¬ 1 ≤ k := by simpa using hu
    have ht : w.arm n k z keep torn = ({ w with trip := none }, n) := if_neg hu
    rw [ht]
    refine AWp.skip ?_
    exact Out.disk (w' := { w with trip := none }) (xs := []) (.inl rfl) rfl rfl (Nat.le_refl _) (Nat.le_refl _) trivial hL hlt (DW.noTrip F _ (fun j hj => upd_ne _ _ hj) (upd_same ..)) (fun j hj => .inl (noTrip_keys hj)) (keepX (.inr (DW.keys_iff.2 (.inl rfl))) keepX0)

/-! ### Read -/
def DW.read (w : DW) (i : Int) : AV × Int := if wrongE w.off w.safe.length i ≠ 0 then (.ro true [] 0, wrongE w.off w.safe.length i) else match w.now[i.toNat]? with
  | some (some b) => (.ro false (cellsB b) b.length, 0)
  | _ => (.ro true [] 0, 15)
theorem c11 {h : Heap} {d : Nat} {w : DW} (hw : DOk w) (hL : Has h (w.cont d)) (i : Int) : ∀ n, DCalls Try.prog 11 [.p d 0, .i .i64 i] h n (.tup [(w.read i).1, .i .i64 (w.read i).2]) [] n := by
  intro n
  have hS := ok_DB
  have F := DFacts.of hL
  have hd := F.hd
  have hn0 := F.hn
  simp only [DW.rowD] at hd
  have h23 := at23 i hd
  refine DCalls.of Try.func11 rfl (by decide) (Nat.le_of_ble_eq_true rfl) (Nat.le_refl _) ?_
  refine AWp.seq ?_
  (refine aw_regionL hS (by kernel_rfl) ?_; repeat (first | apply vr0u | apply vr4 | apply b_tt | apply b_ff | apply b_tf | apply b_ft | apply b_no | exact isD.mk rfl | (apply eqG; (simp only [push_cast, ↓reduceIte, Nat.reduceEqDiff, Nat.reduceAdd, Nat.reduceLeDiff, Nat.reduceLT, Int.reduceLE, Int.reduceLT, Int.reduceAdd, Int.reduceSub, Int.reduceNeg, Int.reduceBEq, Int.reduceBNe, Int.reduceEq, Int.reduceGT, Int.reduceGE, Int.reduceMul, Int.reduceToNat, Nat.reduceMul, reduceCtorEq, h23] <;> rfl)) | exact (rfl : app (swap _ _) _ = _)))
  refine vr_nil (aw_then ?_)
  refine AWp.seq ?_
  (refine aw_regionL hS (by kernel_rfl) ?_; repeat (first | apply vr0u | apply vr4 | apply b_tt | apply b_ff | apply b_tf | apply b_ft | apply b_no | exact isD.mk rfl | (apply eqG; (simp only [push_cast, ↓reduceIte, Nat.reduceEqDiff, Nat.reduceAdd, Nat.reduceLeDiff, Nat.reduceLT, Int.reduceLE, Int.reduceLT, Int.reduceAdd, Int.reduceSub, Int.reduceNeg, Int.reduceBEq, Int.reduceBNe, Int.reduceEq, Int.reduceGT, Int.reduceGE, Int.reduceMul, Int.reduceToNat, Nat.reduceMul, reduceCtorEq, h23] <;> rfl)) | exact (rfl : app (swap _ _) _ = _)))
  refine vr_nil (aw_then ?_)
  refine AWp.seq ?_
  refine AWp.block ?_
  refine AWp.seq ?_
  (refine aw_regionL hS (by kernel_rfl) ?_; repeat (first | apply vr0u | apply vr4 | apply b_tt | apply b_ff | apply b_tf | apply b_ft | apply b_no | exact isD.mk rfl | (apply eqG; (simp only [push_cast, ↓reduceIte, Nat.reduceEqDiff, Nat.reduceAdd, Nat.reduceLeDiff, Nat.reduceLT, Int.reduceLE, Int.reduceLT, Int.reduceAdd, Int.reduceSub, Int.reduceNeg, Int.reduceBEq, Int.reduceBNe, Int.reduceEq, Int.reduceGT, Int.reduceGE, Int.reduceMul, Int.reduceToNat, Nat.reduceMul, reduceCtorEq, h23] <;> rfl)) | exact (rfl : app (swap _ _) _ = _)))
  refine vr_nil (aw_then ?_)
  refine aw_split (by (simp only [push_cast, ↓reduceIte, Nat.reduceEqDiff, Nat.reduceAdd, Nat.reduceLeDiff, Nat.reduceLT, Int.reduceLE, Int.reduceLT, Int.reduceAdd, Int.reduceSub, Int.reduceNeg, Int.reduceBEq, Int.reduceBNe, Int.reduceEq, Int.reduceGT, Int.reduceGE, Int.reduceMul, Int.reduceToNat, Nat.reduceMul, reduceCtorEq, h23] <;> rfl)) (fun hu => ?_) (fun hu => ?_)
  · have hu : wrongE w.off w.safe.length i ≠ 0 := by simpa using hu
    have ht : w.read i = (.ro true [] 0, wrongE w.off w.safe.length i) := if_pos hu
    rw [ht]
    refine AWp.seq ?_
    (refine aw_regionL hS (by kernel_rfl) ?_; repeat (first | apply vr0u | apply vr4 | apply b_tt | apply b_ff | apply b_tf | apply b_ft | apply b_no | exact isD.mk rfl | (apply eqG; (simp only [push_cast, ↓reduceIte, Nat.reduceEqDiff, Nat.reduceAdd, Nat.reduceLeDiff, Nat.reduceLT, Int.reduceLE, Int.reduceLT, Int.reduceAdd, Int.reduceSub, Int.reduceNeg, Int.reduceBEq, Int.reduceBNe, Int.reduceEq, Int.reduceGT, Int.reduceGE, Int.reduceMul, Int.reduceToNat, Nat.reduceMul, reduceCtorEq, h23] <;> rfl)) | exact (rfl : app (swap _ _) _ = _)))
    refine vr_nil (aw_then ?_)
    refine AWp.ret ?_
    exact Out.pure2 (.inr rfl) rfl (by (simp only [push_cast, ↓reduceIte, Nat.reduceEqDiff, Nat.reduceAdd, Nat.reduceLeDiff, Nat.reduceLT, Int.reduceLE, Int.reduceLT, Int.reduceAdd, Int.reduceSub, Int.reduceNeg, Int.reduceBEq, Int.reduceBNe, Int.reduceEq, Int.reduceGT, Int.reduceGE, Int.reduceMul, Int.reduceToNat, Nat.reduceMul, reduceCtorEq, h23] <;> rfl)) (by (simp only [push_cast, ↓reduceIte, Nat.reduceEqDiff, Nat.reduceAdd, Nat.reduceLeDiff, Nat.reduceLT, Int.reduceLE, Int.reduceLT, Int.reduceAdd, Int.reduceSub, Int.reduceNeg, Int.reduceBEq, Int.reduceBNe, Int.reduceEq, Int.reduceGT, Int.reduceGE, Int.reduceMul, Int.reduceToNat, Nat.reduceMul, reduceCtorEq, h23] <;> rfl)) rfl (by simp [AV.names, namesAll]) keep0
  · have hu : wrongE w.off w.safe.length i = 0 := by simpa using hu
    obtain ⟨hoff, hi0, hiN⟩ := wrong0 hu
    obtain ⟨k, rfl⟩ : ∃ k : Nat, i = (k : Int) := ⟨i.toNat, by omega⟩
    have hk : k < w.now.length := by rw [hw.len]; omega
    have ht : w.read k = (match w.now[k]? with | some (some b) => (.ro false (cellsB b) b.length, 0) | _ => (.ro true [] 0, 15)) := by unfold DW.read; rw [if_neg (by rw [hu]; simp)]; rfl
    rw [ht, List.getElem?_eq_getElem hk]
    have q5 : (0 ≤ (k : Int) ∧ (k : Int) < (w.now.length : Int)) = True := by simp; omega
    have q6 := secC_get1 hk
    have q7 := secC_get0 hk
    have hs2 := hw.s2
    have hmem := List.getElem_mem hk
    generalize w.now[k] = s at *
    refine AWp.seq ?_
    (refine aw_regionL hS (by kernel_rfl) ?_; repeat (first | apply vr0u | apply vr4 | apply b_tt | apply b_ff | apply b_tf | apply b_ft | apply b_no | exact isD.mk rfl | (apply eqG; (simp only [push_cast, ↓reduceIte, Nat.reduceEqDiff, Nat.reduceAdd, Nat.reduceLeDiff, Nat.reduceLT, Int.reduceLE, Int.reduceLT, Int.reduceAdd, Int.reduceSub, Int.reduceNeg, Int.reduceBEq, Int.reduceBNe, Int.reduceEq, Int.reduceGT, Int.reduceGE, Int.reduceMul, Int.reduceToNat, Nat.reduceMul, reduceCtorEq, hd, hn0, q5, q6] <;> rfl)) | exact (rfl : app (swap _ _) _ = _)))
    refine vr_nil (aw_then ?_)
    cases s with
    | none =>
      refine aw_true (by (simp only [push_cast, ↓reduceIte, Nat.reduceEqDiff, Nat.reduceAdd, Nat.reduceLeDiff, Nat.reduceLT, Int.reduceLE, Int.reduceLT, Int.reduceAdd, Int.reduceSub, Int.reduceNeg, Int.reduceBEq, Int.reduceBNe, Int.reduceEq, Int.reduceGT, Int.reduceGE, Int.reduceMul, Int.reduceToNat, Nat.reduceMul, reduceCtorEq, hd, hn0, q5, q6] <;> rfl)) ?_
      refine AWp.seq ?_
      (refine aw_regionL hS (by kernel_rfl) ?_; repeat (first | apply vr0u | apply vr4 | apply b_tt | apply b_ff | apply b_tf | apply b_ft | apply b_no | exact isD.mk rfl | (apply eqG; (simp only [push_cast, ↓reduceIte, Nat.reduceEqDiff, Nat.reduceAdd, Nat.reduceLeDiff, Nat.reduceLT, Int.reduceLE, Int.reduceLT, Int.reduceAdd, Int.reduceSub, Int.reduceNeg, Int.reduceBEq, Int.reduceBNe, Int.reduceEq, Int.reduceGT, Int.reduceGE, Int.reduceMul, Int.reduceToNat, Nat.reduceMul, reduceCtorEq, hd, hn0, q5, q6] <;> rfl)) | exact (rfl : app (swap _ _) _ = _)))
      refine vr_nil (aw_then ?_)
      refine AWp.ret ?_
      exact Out.pure2 (.inr rfl) rfl (by (simp only [push_cast, ↓reduceIte, Nat.reduceEqDiff, Nat.reduceAdd, Nat.reduceLeDiff, Nat.reduceLT, Int.reduceLE, Int.reduceLT, Int.reduceAdd, Int.reduceSub, Int.reduceNeg, Int.reduceBEq, Int.reduceBNe, Int.reduceEq, Int.reduceGT, Int.reduceGE, Int.reduceMul, Int.reduceToNat, Nat.reduceMul, reduceCtorEq, hd, hn0, q5, q6] <;> rfl)) (by (simp only [push_cast, ↓reduceIte, Nat.reduceEqDiff, Nat.reduceAdd, Nat.reduceLeDiff, Nat.reduceLT, Int.reduceLE, Int.reduceLT, Int.reduceAdd, Int.reduceSub, Int.reduceNeg, Int.reduceBEq, Int.reduceBNe, Int.reduceEq, Int.reduceGT, Int.reduceGE, Int.reduceMul, Int.reduceToNat, Nat.reduceMul, reduceCtorEq, hd, hn0, q5, q6] <;> rfl)) rfl (by simp [AV.names, namesAll]) keep0
    | some b =>
      have hb := hs2 b hmem
      have h24 : DB 24 [secV (some b)] h = .pure (.ro false (cellsB b) b.length) := cloneG_ro cellsB_inj (by omega) h
      refine aw_false (by (simp only [push_cast, ↓reduceIte, Nat.reduceEqDiff, Nat.reduceAdd, Nat.reduceLeDiff, Nat.reduceLT, Int.reduceLE, Int.reduceLT, Int.reduceAdd, Int.reduceSub, Int.reduceNeg, Int.reduceBEq, Int.reduceBNe, Int.reduceEq, Int.reduceGT, Int.reduceGE, Int.reduceMul, Int.reduceToNat, Nat.reduceMul, reduceCtorEq, hd, hn0, q5, q7, h24] <;> rfl)) (AWp.skip (aw_in (aw_then ?_)))
      refine AWp.seq ?_
      (refine aw_regionL hS (by kernel_rfl) ?_; repeat (first | apply vr0u | apply vr4 | apply b_tt | apply b_ff | apply b_tf | apply b_ft | apply b_no | exact isD.mk rfl | (apply eqG; (simp only [push_cast, ↓reduceIte, Nat.reduceEqDiff, Nat.reduceAdd, Nat.reduceLeDiff, Nat.reduceLT, Int.reduceLE, Int.reduceLT, Int.reduceAdd, Int.reduceSub, Int.reduceNeg, Int.reduceBEq, Int.reduceBNe, Int.reduceEq, Int.reduceGT, Int.reduceGE, Int.reduceMul, Int.reduceToNat, Nat.reduceMul, reduceCtorEq, hd, hn0, q5, q7, h24] <;> rfl)) | exact (rfl : app (swap _ _) _ = _)))
      refine vr_nil (aw_then ?_)
      refine AWp.ret ?_
      exact Out.pure2 (.inr rfl) rfl (by (simp only [push_cast, ↓reduceIte, Nat.reduceEqDiff, Nat.reduceAdd, Nat.reduceLeDiff, Nat.reduceLT, Int.reduceLE, Int.reduceLT, Int.reduceAdd, Int.reduceSub, Int.reduceNeg, Int.reduceBEq, Int.reduceBNe, Int.reduceEq, Int.reduceGT, Int.reduceGE, Int.reduceMul, Int.reduceToNat, Nat.reduceMul, reduceCtorEq, hd, hn0, q5, q7, h24] <;> rfl)) (by (simp only [push_cast, ↓reduceIte, Nat.reduceEqDiff, Nat.reduceAdd, Nat.reduceLeDiff, Nat.reduceLT, Int.reduceLE, Int.reduceLT, Int.reduceAdd, Int.reduceSub, Int.reduceNeg, Int.reduceBEq, Int.reduceBNe, Int.reduceEq, Int.reduceGT, Int.reduceGE, Int.reduceMul, Int.reduceToNat, Nat.reduceMul, reduceCtorEq, hd, hn0, q5, q7, h24] <;> rfl)) rfl (show namesAll (· < n) [AV.ro false (cellsB b) b.length, .i .i64 0] from ⟨AV.free_names _ (by simp [AV.free, free_cellsB]), trivial, trivial⟩) keep0

/-! ### Sector -/
def sectorB (b : List UInt8) : List UInt8 := b.take 64 ++ List.replicate (64 - b.length) 0
theorem sectorB_len (b : List UInt8) : (sectorB b).length = 64 := by simp [sectorB]; omega
theorem sector_cells (b : List UInt8) : (cellsB b).take (min b.length 64) ++ (cellsB (List.replicate 64 0)).drop (min b.length 64) = cellsB (sectorB b) := by
  simp only [cellsB, sectorB, List.map_append, List.map_take, List.map_replicate, List.drop_replicate]
  congr 1
  · rw [Nat.min_comm, ← List.take_take, List.take_of_length_le (l := List.map _ b) (by simp)]
  · congr 1; omega
theorem rep64 : rep 64 [AV.i .u8 0] = cellsB (List.replicate 64 0) := rfl

theorem c9 (b : List UInt8) (hb : b.length ≤ 1000000) (h : Heap) (S : Sums) (hS : SumOk Try.prog S) : ∀ n, DCalls Try.prog 9 [.ro false (cellsB b) b.length] h n (.ro false (cellsB (sectorB b)) 64) [] n := by
  intro n
  refine DCalls.of Try.func9 rfl (by decide) (Nat.le_of_ble_eq_true rfl) (Nat.le_refl _) ?_
  have qa : (64 ≤ (cellsB (List.replicate 64 0)).length) = True := by simp [cellsB]
  have qb : (b.length ≤ (cellsB b).length) = True := by simp [cellsB]
  have qc : ((cellsB b).take b.length) = cellsB b := take_cellsB b
  have qd := sector_cells b
  have qe : (0 + 64 ≤ (cellsB (List.replicate 64 0)).length) = True := by simp [cellsB]
  refine AWp.seq ?_
  (refine aw_regionL hS (by kernel_rfl) ?_; repeat (first | apply vr0u | apply vr4 | apply b_tt | apply b_ff | apply b_tf | apply b_ft | apply b_no | exact isD.mk rfl | (apply eqG; (simp only [push_cast, ↓reduceIte, Nat.reduceEqDiff, Nat.reduceAdd, Nat.reduceLeDiff, Nat.reduceLT, Int.reduceLE, Int.reduceLT, Int.reduceAdd, Int.reduceSub, Int.reduceNeg, Int.reduceBEq, Int.reduceBNe, Int.reduceEq, Int.reduceGT, Int.reduceGE, Int.reduceMul, Int.reduceToNat, Nat.reduceMul, reduceCtorEq, rep64, qa, qb, qc, qd, qe, acopy] <;> rfl)) | exact (rfl : app (swap _ _) _ = _)))
  refine vr_nil (aw_then ?_)
  refine AWp.seq ?_
  (refine aw_regionL hS (by kernel_rfl) ?_; repeat (first | apply vr0u | apply vr4 | apply b_tt | apply b_ff | apply b_tf | apply b_ft | apply b_no | exact isD.mk rfl | (apply eqG; (simp only [push_cast, ↓reduceIte, Nat.reduceEqDiff, Nat.reduceAdd, Nat.reduceLeDiff, Nat.reduceLT, Int.reduceLE, Int.reduceLT, Int.reduceAdd, Int.reduceSub, Int.reduceNeg, Int.reduceBEq, Int.reduceBNe, Int.reduceEq, Int.reduceGT, Int.reduceGE, Int.reduceMul, Int.reduceToNat, Nat.reduceMul, reduceCtorEq, rep64, qa, qb, qc, qd, qe, acopy] <;> rfl)) | exact (rfl : app (swap _ _) _ = _)))
  refine vr_nil (aw_then ?_)
  refine AWp.seq ?_
  (refine aw_regionL hS (by kernel_rfl) ?_; repeat (first | apply vr0u | apply vr4 | apply b_tt | apply b_ff | apply b_tf | apply b_ft | apply b_no | exact isD.mk rfl | (apply eqG; (simp only [push_cast, ↓reduceIte, Nat.reduceEqDiff, Nat.reduceAdd, Nat.reduceLeDiff, Nat.reduceLT, Int.reduceLE, Int.reduceLT, Int.reduceAdd, Int.reduceSub, Int.reduceNeg, Int.reduceBEq, Int.reduceBNe, Int.reduceEq, Int.reduceGT, Int.reduceGE, Int.reduceMul, Int.reduceToNat, Nat.reduceMul, reduceCtorEq, rep64, qa, qb, qc, qd, qe, acopy] <;> rfl)) | exact (rfl : app (swap _ _) _ = _)))
  refine vr_nil (aw_then ?_)
  refine AWp.seq ?_
  (refine aw_regionL hS (by kernel_rfl) ?_; repeat (first | apply vr0u | apply vr4 | apply b_tt | apply b_ff | apply b_tf | apply b_ft | apply b_no | exact isD.mk rfl | (apply eqG; (simp only [push_cast, ↓reduceIte, Nat.reduceEqDiff, Nat.reduceAdd, Nat.reduceLeDiff, Nat.reduceLT, Int.reduceLE, Int.reduceLT, Int.reduceAdd, Int.reduceSub, Int.reduceNeg, Int.reduceBEq, Int.reduceBNe, Int.reduceEq, Int.reduceGT, Int.reduceGE, Int.reduceMul, Int.reduceToNat, Nat.reduceMul, reduceCtorEq, rep64, qa, qb, qc, qd, qe, acopy] <;> rfl)) | exact (rfl : app (swap _ _) _ = _)))
  refine vr_nil (aw_then ?_)
  refine AWp.freeze (j := n) (k := 2) (cs := cellsB (sectorB b)) (by (simp only [push_cast, ↓reduceIte, Nat.reduceEqDiff, Nat.reduceAdd, Nat.reduceLeDiff, Nat.reduceLT, Int.reduceLE, Int.reduceLT, Int.reduceAdd, Int.reduceSub, Int.reduceNeg, Int.reduceBEq, Int.reduceBNe, Int.reduceEq, Int.reduceGT, Int.reduceGE, Int.reduceMul, Int.reduceToNat, Nat.reduceMul, reduceCtorEq, rep64, qa, qb, qc, qd, qe, acopy] <;> rfl)) (by (simp only [push_cast, ↓reduceIte, Nat.reduceEqDiff, Nat.reduceAdd, Nat.reduceLeDiff, Nat.reduceLT, Int.reduceLE, Int.reduceLT, Int.reduceAdd, Int.reduceSub, Int.reduceNeg, Int.reduceBEq, Int.reduceBNe, Int.reduceEq, Int.reduceGT, Int.reduceGE, Int.reduceMul, Int.reduceToNat, Nat.reduceMul, reduceCtorEq, rep64, qa, qb, qc, qd, qe, acopy] <;> rfl)) (by rw [len_cellsB, sectorB_len]; decide) ?_
  refine AWp.ret ?_
  exact Out.pure1 (.inr rfl) rfl (by (simp only [push_cast, ↓reduceIte, Nat.reduceEqDiff, Nat.reduceAdd, Nat.reduceLeDiff, Nat.reduceLT, Int.reduceLE, Int.reduceLT, Int.reduceAdd, Int.reduceSub, Int.reduceNeg, Int.reduceBEq, Int.reduceBNe, Int.reduceEq, Int.reduceGT, Int.reduceGE, Int.reduceMul, Int.reduceToNat, Nat.reduceMul, reduceCtorEq, rep64, qa, qb, qc, qd, qe, acopy] <;> rfl)) (by rw [List.take_of_length_le (by rw [len_cellsB, sectorB_len]; decide)]) (AV.free_names _ (by simp [AV.free, free_cellsB])) (keepU (by omega) (keepU (by omega) (keepU (by omega) keep0)))
theorem c9s (b : List UInt8) (hb : b.length ≤ 1000000) {h : Heap} {j : Nat} (hj : h j = some (.cells (cellsB b))) (S : Sums) (hS : SumOk Try.prog S) : ∀ n, DCalls Try.prog 9 [.sl 1 j 0 b.length] h n (.ro false (cellsB (sectorB b)) 64) [] n := by
  intro n
  by_cases hjn : n ≤ j
  · exact DCalls.vac ⟨_, Try.func9, rfl, by decide⟩ (Nat.le_refl _) hj hjn
  have u0 : ∀ (g : Heap) (r : Option Row), upd g n r j = g j := fun g r => upd_ne _ _ (by omega)
  refine DCalls.of Try.func9 rfl (by decide) (Nat.le_of_ble_eq_true rfl) (Nat.le_refl _) ?_
  have qa : (64 ≤ (cellsB (List.replicate 64 0)).length) = True := by simp [cellsB]
  have qb : (b.length ≤ (cellsB b).length) = True := by simp [cellsB]
  have qc : ((cellsB b).take b.length) = cellsB b := take_cellsB b
  have qd := sector_cells b
  have qe : (0 + 64 ≤ (cellsB (List.replicate 64 0)).length) = True := by simp [cellsB]
  refine AWp.seq ?_
  (refine aw_regionL hS (by kernel_rfl) ?_; repeat (first | apply vr0u | apply vr4 | apply b_tt | apply b_ff | apply b_tf | apply b_ft | apply b_no | exact isD.mk rfl | (apply eqG; (simp only [push_cast, ↓reduceIte, Nat.reduceEqDiff, Nat.reduceAdd, Nat.reduceLeDiff, Nat.reduceLT, Int.reduceLE, Int.reduceLT, Int.reduceAdd, Int.reduceSub, Int.reduceNeg, Int.reduceBEq, Int.reduceBNe, Int.reduceEq, Int.reduceGT, Int.reduceGE, Int.reduceMul, Int.reduceToNat, Nat.reduceMul, reduceCtorEq, rep64, qa, qb, qc, qd, qe, acopy, hj, u0] <;> rfl)) | exact (rfl : app (swap _ _) _ = _)))
  refine vr_nil (aw_then ?_)
  refine AWp.seq ?_
  (refine aw_regionL hS (by kernel_rfl) ?_; repeat (first | apply vr0u | apply vr4 | apply b_tt | apply b_ff | apply b_tf | apply b_ft | apply b_no | exact isD.mk rfl | (apply eqG; (simp only [push_cast, ↓reduceIte, Nat.reduceEqDiff, Nat.reduceAdd, Nat.reduceLeDiff, Nat.reduceLT, Int.reduceLE, Int.reduceLT, Int.reduceAdd, Int.reduceSub, Int.reduceNeg, Int.reduceBEq, Int.reduceBNe, Int.reduceEq, Int.reduceGT, Int.reduceGE, Int.reduceMul, Int.reduceToNat, Nat.reduceMul, reduceCtorEq, rep64, qa, qb, qc, qd, qe, acopy, hj, u0] <;> rfl)) | exact (rfl : app (swap _ _) _ = _)))
  refine vr_nil (aw_then ?_)
  refine AWp.seq ?_
  (refine aw_regionL hS (by kernel_rfl) ?_; repeat (first | apply vr0u | apply vr4 | apply b_tt | apply b_ff | apply b_tf | apply b_ft | apply b_no | exact isD.mk rfl | (apply eqG; (simp only [push_cast, ↓reduceIte, Nat.reduceEqDiff, Nat.reduceAdd, Nat.reduceLeDiff, Nat.reduceLT, Int.reduceLE, Int.reduceLT, Int.reduceAdd, Int.reduceSub, Int.reduceNeg, Int.reduceBEq, Int.reduceBNe, Int.reduceEq, Int.reduceGT, Int.reduceGE, Int.reduceMul, Int.reduceToNat, Nat.reduceMul, reduceCtorEq, rep64, qa, qb, qc, qd, qe, acopy, hj, u0] <;> rfl)) | exact (rfl : app (swap _ _) _ = _)))
  refine vr_nil (aw_then ?_)
  refine AWp.seq ?_
  (refine aw_regionL hS (by kernel_rfl) ?_; repeat (first | apply vr0u | apply vr4 | apply b_tt | apply b_ff | apply b_tf | apply b_ft | apply b_no | exact isD.mk rfl | (apply eqG; (simp only [push_cast, ↓reduceIte, Nat.reduceEqDiff, Nat.reduceAdd, Nat.reduceLeDiff, Nat.reduceLT, Int.reduceLE, Int.reduceLT, Int.reduceAdd, Int.reduceSub, Int.reduceNeg, Int.reduceBEq, Int.reduceBNe, Int.reduceEq, Int.reduceGT, Int.reduceGE, Int.reduceMul, Int.reduceToNat, Nat.reduceMul, reduceCtorEq, rep64, qa, qb, qc, qd, qe, acopy, hj, u0] <;> rfl)) | exact (rfl : app (swap _ _) _ = _)))
  refine vr_nil (aw_then ?_)
  refine AWp.freeze (j := n) (k := 2) (cs := cellsB (sectorB b)) (by (simp only [push_cast, ↓reduceIte, Nat.reduceEqDiff, Nat.reduceAdd, Nat.reduceLeDiff, Nat.reduceLT, Int.reduceLE, Int.reduceLT, Int.reduceAdd, Int.reduceSub, Int.reduceNeg, Int.reduceBEq, Int.reduceBNe, Int.reduceEq, Int.reduceGT, Int.reduceGE, Int.reduceMul, Int.reduceToNat, Nat.reduceMul, reduceCtorEq, rep64, qa, qb, qc, qd, qe, acopy, hj, u0] <;> rfl)) (by (simp only [push_cast, ↓reduceIte, Nat.reduceEqDiff, Nat.reduceAdd, Nat.reduceLeDiff, Nat.reduceLT, Int.reduceLE, Int.reduceLT, Int.reduceAdd, Int.reduceSub, Int.reduceNeg, Int.reduceBEq, Int.reduceBNe, Int.reduceEq, Int.reduceGT, Int.reduceGE, Int.reduceMul, Int.reduceToNat, Nat.reduceMul, reduceCtorEq, rep64, qa, qb, qc, qd, qe, acopy, hj, u0] <;> rfl)) (by rw [len_cellsB, sectorB_len]; decide) ?_
  refine AWp.ret ?_
  exact Out.pure1 (.inr rfl) rfl (by (simp only [push_cast, ↓reduceIte, Nat.reduceEqDiff, Nat.reduceAdd, Nat.reduceLeDiff, Nat.reduceLT, Int.reduceLE, Int.reduceLT, Int.reduceAdd, Int.reduceSub, Int.reduceNeg, Int.reduceBEq, Int.reduceBNe, Int.reduceEq, Int.reduceGT, Int.reduceGE, Int.reduceMul, Int.reduceToNat, Nat.reduceMul, reduceCtorEq, rep64, qa, qb, qc, qd, qe, acopy, hj, u0] <;> rfl)) (by rw [List.take_of_length_le (by rw [len_cellsB, sectorB_len]; decide)]) (AV.free_names _ (by simp [AV.free, free_cellsB])) (keepU (by omega) (keepU (by omega) (keepU (by omega) keep0)))
theorem c9n (S : Sums) (hS : SumOk Try.prog S) : PCalls Try.prog 9 [.ro true [] 0] (.ro false (cellsB (sectorB [])) 64) := by
  intro h n
  refine DCalls.of Try.func9 rfl (by decide) (Nat.le_of_ble_eq_true rfl) (Nat.le_refl _) ?_
  have qa : (64 ≤ (cellsB (List.replicate 64 0)).length) = True := by simp [cellsB]
  have qd : (cellsB (List.replicate 64 0)).drop (min 0 64) = cellsB (sectorB []) := rfl
  have qe : (0 + 64 ≤ (cellsB (List.replicate 64 0)).length) = True := by simp [cellsB]
  refine AWp.seq ?_
  (refine aw_regionL hS (by kernel_rfl) ?_; repeat (first | apply vr0u | apply vr4 | apply b_tt | apply b_ff | apply b_tf | apply b_ft | apply b_no | exact isD.mk rfl | (apply eqG; (simp only [push_cast, ↓reduceIte, Nat.reduceEqDiff, Nat.reduceAdd, Nat.reduceLeDiff, Nat.reduceLT, Int.reduceLE, Int.reduceLT, Int.reduceAdd, Int.reduceSub, Int.reduceNeg, Int.reduceBEq, Int.reduceBNe, Int.reduceEq, Int.reduceGT, Int.reduceGE, Int.reduceMul, Int.reduceToNat, Nat.reduceMul, reduceCtorEq, rep64, qa, qd, qe, acopy, List.take_nil] <;> rfl)) | exact (rfl : app (swap _ _) _ = _)))
  refine vr_nil (aw_then ?_)
  refine AWp.seq ?_
  (refine aw_regionL hS (by kernel_rfl) ?_; repeat (first | apply vr0u | apply vr4 | apply b_tt | apply b_ff | apply b_tf | apply b_ft | apply b_no | exact isD.mk rfl | (apply eqG; (simp only [push_cast, ↓reduceIte, Nat.reduceEqDiff, Nat.reduceAdd, Nat.reduceLeDiff, Nat.reduceLT, Int.reduceLE, Int.reduceLT, Int.reduceAdd, Int.reduceSub, Int.reduceNeg, Int.reduceBEq, Int.reduceBNe, Int.reduceEq, Int.reduceGT, Int.reduceGE, Int.reduceMul, Int.reduceToNat, Nat.reduceMul, reduceCtorEq, rep64, qa, qd, qe, acopy, List.take_nil] <;> rfl)) | exact (rfl : app (swap _ _) _ = _)))
  refine vr_nil (aw_then ?_)
  refine AWp.seq ?_
  (refine aw_regionL hS (by kernel_rfl) ?_; repeat (first | apply vr0u | apply vr4 | apply b_tt | apply b_ff | apply b_tf | apply b_ft | apply b_no | exact isD.mk rfl | (apply eqG; (simp only [push_cast, ↓reduceIte, Nat.reduceEqDiff, Nat.reduceAdd, Nat.reduceLeDiff, Nat.reduceLT, Int.reduceLE, Int.reduceLT, Int.reduceAdd, Int.reduceSub, Int.reduceNeg, Int.reduceBEq, Int.reduceBNe, Int.reduceEq, Int.reduceGT, Int.reduceGE, Int.reduceMul, Int.reduceToNat, Nat.reduceMul, reduceCtorEq, rep64, qa, qd, qe, acopy, List.take_nil] <;> rfl)) | exact (rfl : app (swap _ _) _ = _)))
  refine vr_nil (aw_then ?_)
  refine AWp.seq ?_
  (refine aw_regionL hS (by kernel_rfl) ?_; repeat (first | apply vr0u | apply vr4 | apply b_tt | apply b_ff | apply b_tf | apply b_ft | apply b_no | exact isD.mk rfl | (apply eqG; (simp only [push_cast, ↓reduceIte, Nat.reduceEqDiff, Nat.reduceAdd, Nat.reduceLeDiff, Nat.reduceLT, Int.reduceLE, Int.reduceLT, Int.reduceAdd, Int.reduceSub, Int.reduceNeg, Int.reduceBEq, Int.reduceBNe, Int.reduceEq, Int.reduceGT, Int.reduceGE, Int.reduceMul, Int.reduceToNat, Nat.reduceMul, reduceCtorEq, rep64, qa, qd, qe, acopy, List.take_nil] <;> rfl)) | exact (rfl : app (swap _ _) _ = _)))
  refine vr_nil (aw_then ?_)
  refine AWp.freeze (j := n) (k := 2) (cs := cellsB (sectorB [])) (by (simp only [push_cast, ↓reduceIte, Nat.reduceEqDiff, Nat.reduceAdd, Nat.reduceLeDiff, Nat.reduceLT, Int.reduceLE, Int.reduceLT, Int.reduceAdd, Int.reduceSub, Int.reduceNeg, Int.reduceBEq, Int.reduceBNe, Int.reduceEq, Int.reduceGT, Int.reduceGE, Int.reduceMul, Int.reduceToNat, Nat.reduceMul, reduceCtorEq, rep64, qa, qd, qe, acopy, List.take_nil] <;> rfl)) (by (simp only [push_cast, ↓reduceIte, Nat.reduceEqDiff, Nat.reduceAdd, Nat.reduceLeDiff, Nat.reduceLT, Int.reduceLE, Int.reduceLT, Int.reduceAdd, Int.reduceSub, Int.reduceNeg, Int.reduceBEq, Int.reduceBNe, Int.reduceEq, Int.reduceGT, Int.reduceGE, Int.reduceMul, Int.reduceToNat, Nat.reduceMul, reduceCtorEq, rep64, qa, qd, qe, acopy, List.take_nil] <;> rfl)) (by rw [len_cellsB, sectorB_len]; decide) ?_
  refine AWp.ret ?_
  exact Out.pure1 (.inr rfl) rfl (by (simp only [push_cast, ↓reduceIte, Nat.reduceEqDiff, Nat.reduceAdd, Nat.reduceLeDiff, Nat.reduceLT, Int.reduceLE, Int.reduceLT, Int.reduceAdd, Int.reduceSub, Int.reduceNeg, Int.reduceBEq, Int.reduceBNe, Int.reduceEq, Int.reduceGT, Int.reduceGE, Int.reduceMul, Int.reduceToNat, Nat.reduceMul, reduceCtorEq, rep64, qa, qd, qe, acopy, List.take_nil] <;> rfl)) (by rw [List.take_of_length_le (by rw [len_cellsB, sectorB_len]; decide)]) (AV.free_names _ (by simp [AV.free, free_cellsB])) (keepU (by omega) (keepU (by omega) (keepU (by omega) keep0)))
open Classical in
noncomputable def G9 : List AV → Heap → Res := fun args h =>
  if hx : ∃ b : List UInt8, b.length ≤ 1000000 ∧ (args = [.ro false (cellsB b) b.length] ∨ (args = [.ro true [] 0] ∧ b = []) ∨ ∃ j, args = [.sl 1 j 0 b.length] ∧ h j = some (.cells (cellsB b))) then .pure (.ro false (cellsB (sectorB hx.choose)) 64) else .no
theorem G9_ok (args : List AV) (h : Heap) : ResOk Try.prog 9 args h (G9 args h) := by
  unfold G9
  split
  · rename_i hx
    obtain ⟨hb, hc⟩ := hx.choose_spec
    intro n
    rcases hc with hc | ⟨hc, he⟩ | ⟨j, hc, hj⟩
    · have := c9 _ hb h _ SumOk.none n; rwa [← hc] at this
    · have := c9n _ SumOk.none h n; rw [← hc] at this; rw [he]; exact this
    · have := c9s _ hb hj _ SumOk.none n; rwa [← hc] at this
  · trivial
theorem G9_at {x : AV} {b : List UInt8} {h : Heap} (hb : b.length ≤ 1000000) (hx : x = .ro false (cellsB b) b.length ∨ (x = .ro true [] 0 ∧ b = []) ∨ ∃ j, x = .sl 1 j 0 b.length ∧ h j = some (.cells (cellsB b))) : G9 [x] h = .pure (.ro false (cellsB (sectorB b)) 64) := by
  unfold G9
  have hx' : ∃ b' : List UInt8, b'.length ≤ 1000000 ∧ ([x] = [.ro false (cellsB b') b'.length] ∨ ([x] = [.ro true [] 0] ∧ b' = []) ∨ ∃ j, [x] = [.sl 1 j 0 b'.length] ∧ h j = some (.cells (cellsB b'))) := ⟨b, hb, by
    rcases hx with rfl | ⟨rfl, rfl⟩ | ⟨j, rfl, hj⟩
    · exact .inl rfl
    · exact .inr (.inl ⟨rfl, rfl⟩)
    · exact .inr (.inr ⟨j, rfl, hj⟩)⟩
  rw [dif_pos hx']
  have hc := hx'.choose_spec.2
  revert hc
  generalize hx'.choose = c
  intro hc
  have : b = c := by
    rcases hx with rfl | ⟨rfl, rfl⟩ | ⟨j, rfl, hj⟩ <;> rcases hc with hc | ⟨hc, he⟩ | ⟨j', hc, hj'⟩ <;> simp at hc
    · exact cellsB_inj hc.1
    · exact he.symm
    · rw [← hc.1, hj] at hj'
      simp only [Option.some.injEq, Row.cells.injEq] at hj'
      exact cellsB_inj hj'
  rw [this]
noncomputable def DC : Sums := DB.addG 9 G9
theorem ok_DC : SumOk Try.prog DC := ok_DB.addG G9_ok

end Go.Proofs.Ytepfknnffooaiaa
