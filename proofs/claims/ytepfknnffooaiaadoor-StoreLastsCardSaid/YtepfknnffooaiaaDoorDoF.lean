import Derived.Test.YtepfknnffooaiaaDoorDoE

namespace Go.Proofs.YtepfknnffooaiaaDoor
open Go.Av
set_option maxRecDepth 100000
set_option maxHeartbeats 1000000
set_option linter.unusedSimpArgs false
set_option linter.unusedVariables false
attribute [local push_cast] stepE callR resE aeff aev ofC ofC1 put_at Av.put_none inTmps List.getD_cons_zero List.getD_cons_succ AV.boxable if_true if_false AV.cells aload place app_cons app_nil upd_same Av.part abin aconv aindexAddr fillA splice_one abuiltin alen amax amin aun aindex Option.map_some Option.isSome_some List.map_cons List.map_nil List.nil_append List.append_nil List.cons_append Nat.le_refl Nat.zero_add Nat.add_zero List.length_cons List.length_nil List.drop_succ_cons List.drop_zero List.take_succ_cons List.take_zero beq_self_eq_true bne_self_eq_false Bool.not_true Bool.not_false List.set_cons_zero List.set_cons_succ Bool.false_eq_true IntWalk.i64_in decide_true decide_false Int.toNat_zero and_self and_true true_and List.getElem?_cons_zero List.getElem?_cons_succ aappend aapp view Bool.and_true Bool.true_and Nat.mul_one Option.map_none aslice asliceB nilOp Int.toNat_natCast und_30 agT_3 szT_3 kiT_3 agT_5 szT_5 kiT_5 agT_24 szT_24 kiT_24 agT_62 szT_62 kiT_62 agT_4 szT_4 kiT_4 agT_9 szT_9 kiT_9 agT_44 szT_44 kiT_44 agT_45 szT_45 kiT_45 agT_30 szT_30 kiT_30 agT_22 szT_22 kiT_22 agT_41 szT_41 kiT_41 agT_51 szT_51 kiT_51 agT_52 szT_52 kiT_52 agT_23 szT_23 kiT_23 agT_53 szT_53 kiT_53 agT_27 szT_27 kiT_27 agT_89 szT_89 kiT_89 agT_66 szT_66 kiT_66 agT_20 szT_20 kiT_20 slT_45 slT_44 slT_30 slT_22 slT_41 slT_51 slT_52 zeT_3 zeT_4 zeT_5 zeT_30 zeT_24 flT_55_0 flT_55_1 flT_55_2 flT_55_3 flT_55_4 agT_55 szT_55 buT_55 zeT_55 flT_57_0 flT_57_1 agT_57 szT_57 buT_57 zeT_57 flT_74_0 flT_74_1 agT_74 szT_74 buT_74 zeT_74 flT_77_0 flT_77_1 flT_77_2 agT_77 szT_77 buT_77 zeT_77 flT_47_0 flT_47_1 flT_47_2 flT_47_3 flT_47_4 flT_47_5 agT_47 szT_47 buT_47 zeT_47 flT_61_0 flT_61_1 agT_61 szT_61 buT_61 zeT_61 flT_64_0 flT_64_1 agT_64 szT_64 buT_64 zeT_64 flT_91_0 flT_91_1 agT_91 szT_91 buT_91 zeT_91 ptT_23 ptT_53 ptT_27 ptT_89 und_30 

/-! ### Start -/
def DW.start (w : DW) : DW := { w with off := false }
theorem DOk.start {w : DW} (hw : DOk w) : DOk w.start := ⟨hw.len, hw.n0, hw.pe, hw.s1, hw.s2, hw.tp⟩
theorem start_cont {d : Nat} {w : DW} : (w.start.cont d).keys = (w.cont d).keys := rfl
theorem c13 {h : Heap} {d : Nat} {w : DW} (hL : Has h (w.cont d)) :
    ∀ n, DCalls Tryd.prog 17 [.p d 0] h n (.tup []) (swap (w.cont d) (w.start.cont d)) n := by
  intro n
  have hS := ok_DB
  have F := DFacts.of hL
  have hd := F.hd
  simp only [DW.rowD] at hd
  rcases has_any hL n with hlt | ⟨j, r, hj, hn⟩
  case inr => exact DCalls.vac ⟨_, Tryd.func17, rfl, by decide⟩ (Nat.le_refl _) hj hn
  refine DCalls.of Tryd.func17 rfl (by decide) (Nat.le_of_ble_eq_true rfl) (Nat.le_refl _) ?_
  (refine aw_regionL hS (by kernel_rfl) ?_; repeat (first | apply vr0u | apply vr4 | apply b_tt | apply b_ff | apply b_tf | apply b_ft | apply b_no | exact isD.mk rfl | (apply eqG; (simp only [push_cast, ↓reduceIte, Nat.reduceEqDiff, Nat.reduceAdd, Nat.reduceLeDiff, Nat.reduceLT, Int.reduceLE, Int.reduceLT, Int.reduceAdd, Int.reduceSub, Int.reduceNeg, Int.reduceBEq, Int.reduceBNe, Int.reduceEq, Int.reduceGT, Int.reduceGE, Int.reduceMul, Int.reduceToNat, Nat.reduceMul, reduceCtorEq, hd] <;> rfl)) | exact (rfl : app (swap _ _) _ = _)))
  refine vr_nil ?_
  refine Out.disk (w' := w.start) (xs := []) (.inl rfl) rfl rfl (Nat.le_refl _) (Nat.le_refl _) trivial hL hlt ?_ (fun j hj => .inl hj) (keepX (.inr (DW.keys_iff.2 (.inl rfl))) keepX0)
  refine ⟨?_, ?_, ?_, fun hp => ?_, fun y hy => ?_, F.ds, F.dn, F.sn⟩
  · rw [upd_same]; rfl
  · show upd _ _ _ w.js = _
    rw [upd_ne _ _ F.ds.symm]; exact F.hs
  · show upd _ _ _ w.jn = _
    rw [upd_ne _ _ F.dn.symm]; exact F.hn
  · obtain ⟨a1, a2, a3, a4⟩ := F.hp hp
    refine ⟨?_, a2, a3, a4⟩
    show upd _ _ _ w.jp = _
    rw [upd_ne _ _ a2]; exact a1
  · obtain ⟨a1, a2, a3, a4, a5⟩ := F.ht y hy
    refine ⟨?_, a2, a3, a4, a5⟩
    show upd _ _ _ w.jt = _
    rw [upd_ne _ _ a2]; exact a1

/-! ### Trip -/
/-- Bools that a value shows, in memory apart from J. -/
def ShowsK (h : Heap) (J : List Nat) (x : AV) (z : Bool) (b : List Bool) : Prop := (z = false ∧ x = .ro false (bools b) b.length) ∨ (z = true ∧ x = .ro true [] 0 ∧ b = []) ∨ ∃ j, z = false ∧ x = .sl 1 j 0 b.length ∧ h j = some (.cells (bools b)) ∧ j ∉ J
def DW.arm (w : DW) (n : Nat) (k : Int) (z : Bool) (keep : List Bool) (torn : Int) : DW × Nat := if 1 ≤ k then ({ w with jt := n, trip := some (k, z, keep, torn) }, n + 1) else ({ w with trip := none }, n)
theorem DOk.arm {w : DW} (hw : DOk w) (n : Nat) {k : Int} (hk : k ≤ 9223372036854775807) {z : Bool} {keep : List Bool} (hz : z = true → keep = []) (hl : keep.length ≤ 1000000) (torn : Int) : DOk (w.arm n k z keep torn).1 := by
  unfold DW.arm
  split
  · refine ⟨hw.len, hw.n0, hw.pe, hw.s1, hw.s2, fun x hx => ?_⟩
    injection hx with hx
    subst hx
    exact ⟨hz, hl, by assumption, hk⟩
  · exact ⟨hw.len, hw.n0, hw.pe, hw.s1, hw.s2, fun x hx => (nomatch hx)⟩
theorem DW.noTrip {h : Heap} {d : Nat} {w : DW} (F : DFacts h d w) (g : Heap) (hg : ∀ j, j ≠ d → g j = h j) (hd : g d = some (.cells [.sl 2 w.js 0 w.safe.length, .sl 2 w.jn 0 w.now.length, w.pd, .b w.off, .np])) : DFacts g d { w with trip := none } := by
  refine ⟨hd, ?_, ?_, fun hp => ?_, fun y hy => (nomatch hy), F.ds, F.dn, F.sn⟩
  · show g w.js = _
    rw [hg _ F.ds.symm]; exact F.hs
  · show g w.jn = _
    rw [hg _ F.dn.symm]; exact F.hn
  · obtain ⟨a1, a2, a3, a4⟩ := F.hp hp
    refine ⟨?_, a2, a3, a4⟩
    show g w.jp = _
    rw [hg _ a2]; exact a1
theorem noTrip_keys {d k : Nat} {w : DW} (hk : k ∈ (({ w with trip := none } : DW).cont d).keys) : k ∈ (w.cont d).keys := by
  rw [DW.keys_iff] at hk ⊢
  rcases hk with h1 | h1 | h1 | h1 | ⟨h1, _⟩
  · exact .inl h1
  · exact .inr (.inl h1)
  · exact .inr (.inr (.inl h1))
  · exact .inr (.inr (.inr (.inl h1)))
  · exact absurd rfl h1
theorem c17 {h : Heap} {d : Nat} {w : DW} (hw : DOk w) (hL : Has h (w.cont d)) (k : Int) {x : AV} {z : Bool} {keep : List Bool} (hkl : keep.length ≤ 1000000) (hx : ShowsK h (w.cont d).keys x z keep) (torn : Int) :
    ∀ n, DCalls Tryd.prog 20 [.p d 0, .i .i64 k, x, .i .i64 torn] h n (.tup []) (swap (w.cont d) ((w.arm n k z keep torn).1.cont d)) (w.arm n k z keep torn).2 := by
  intro n
  have hS := ok_DB
  have F := DFacts.of hL
  have hd := F.hd
  simp only [DW.rowD] at hd
  have hnn : n ≤ (w.arm n k z keep torn).2 := by
    unfold DW.arm
    split
    · exact Nat.le_succ _
    · exact Nat.le_refl _
  rcases has_any hL n with hlt | ⟨j, r, hj, hn⟩
  case inr => exact DCalls.vac ⟨_, Tryd.func20, rfl, by decide⟩ hnn hj hn
  have e1 := F.ds
  have e2 := F.dn
  have e3 := F.sn
  have h26 : ∀ g, (∀ y r, h y = some r → y ∉ (w.cont d).keys → g y = some r) → DB 29 [x] g = .pure (.ro z (bools keep) keep.length) := fun g hg => by
    rcases hx with ⟨rfl, rfl⟩ | ⟨rfl, rfl, rfl⟩ | ⟨j, rfl, rfl, hj, hjk⟩
    · exact cloneG_ro bools_inj (by omega) g
    · exact cloneG_nil g
    · exact cloneG_sl bools_inj (by omega) (hg j _ hj hjk)
  have c26a := h26 (upd h d (some (.cells [.sl 2 w.js 0 w.safe.length, .sl 2 w.jn 0 w.now.length, w.pd, .b w.off, .np]))) (fun y r hy hyk => by rw [upd_ne _ _ (fun e => hyk (DW.keys_iff.2 (.inl e)))]; exact hy)
  refine DCalls.of Tryd.func20 rfl (by decide) (Nat.le_of_ble_eq_true rfl) hnn ?_
  have hdn := hlt d (DW.keys_iff.2 (.inl rfl))
  have hsn := hlt w.js (DW.keys_iff.2 (.inr (.inl rfl)))
  have hnn := hlt w.jn (DW.keys_iff.2 (.inr (.inr (.inl rfl))))
  have u0 : ∀ (g : Heap) (r : Option Row), upd g n r d = g d := fun g r => upd_ne _ _ (by omega)
  refine AWp.seq ?_
  (refine aw_regionL hS (by kernel_rfl) ?_; repeat (first | apply vr0u | apply vr4 | apply b_tt | apply b_ff | apply b_tf | apply b_ft | apply b_no | exact isD.mk rfl | (apply eqG; (simp only [push_cast, ↓reduceIte, Nat.reduceEqDiff, Nat.reduceAdd, Nat.reduceLeDiff, Nat.reduceLT, Int.reduceLE, Int.reduceLT, Int.reduceAdd, Int.reduceSub, Int.reduceNeg, Int.reduceBEq, Int.reduceBNe, Int.reduceEq, Int.reduceGT, Int.reduceGE, Int.reduceMul, Int.reduceToNat, Nat.reduceMul, reduceCtorEq, hd, c26a, u0] <;> rfl)) | exact (rfl : app (swap _ _) _ = _)))
  refine vr_nil (aw_then ?_)
  refine AWp.seq ?_
  (refine aw_regionL hS (by kernel_rfl) ?_; repeat (first | apply vr0u | apply vr4 | apply b_tt | apply b_ff | apply b_tf | apply b_ft | apply b_no | exact isD.mk rfl | (apply eqG; (simp only [push_cast, ↓reduceIte, Nat.reduceEqDiff, Nat.reduceAdd, Nat.reduceLeDiff, Nat.reduceLT, Int.reduceLE, Int.reduceLT, Int.reduceAdd, Int.reduceSub, Int.reduceNeg, Int.reduceBEq, Int.reduceBNe, Int.reduceEq, Int.reduceGT, Int.reduceGE, Int.reduceMul, Int.reduceToNat, Nat.reduceMul, reduceCtorEq, hd, c26a, u0] <;> rfl)) | exact (rfl : app (swap _ _) _ = _)))
  refine vr_nil (aw_then ?_)
  refine aw_split (by (simp only [push_cast, ↓reduceIte, Nat.reduceEqDiff, Nat.reduceAdd, Nat.reduceLeDiff, Nat.reduceLT, Int.reduceLE, Int.reduceLT, Int.reduceAdd, Int.reduceSub, Int.reduceNeg, Int.reduceBEq, Int.reduceBNe, Int.reduceEq, Int.reduceGT, Int.reduceGE, Int.reduceMul, Int.reduceToNat, Nat.reduceMul, reduceCtorEq, hd, c26a, u0] <;> rfl)) (fun hu => ?_) (fun hu => ?_)
  · have hu : 1 ≤ k := by simpa using hu
    have ht : w.arm n k z keep torn = ({ w with jt := n, trip := some (k, z, keep, torn) }, n + 1) := if_pos hu
    rw [ht]
    (refine aw_regionL hS (by kernel_rfl) ?_; repeat (first | apply vr0u | apply vr4 | apply b_tt | apply b_ff | apply b_tf | apply b_ft | apply b_no | exact isD.mk rfl | (apply eqG; (simp only [push_cast, ↓reduceIte, Nat.reduceEqDiff, Nat.reduceAdd, Nat.reduceLeDiff, Nat.reduceLT, Int.reduceLE, Int.reduceLT, Int.reduceAdd, Int.reduceSub, Int.reduceNeg, Int.reduceBEq, Int.reduceBNe, Int.reduceEq, Int.reduceGT, Int.reduceGE, Int.reduceMul, Int.reduceToNat, Nat.reduceMul, reduceCtorEq, hd, c26a, u0] <;> rfl)) | exact (rfl : app (swap _ _) _ = _)))
    refine vr_nil ?_
    refine Out.disk (w' := { w with jt := n, trip := some (k, z, keep, torn) }) (xs := []) (.inl rfl) rfl rfl (Nat.le_succ _) (Nat.le_refl _) trivial hL hlt ?_ (fun j hj => ?_) (keepX (.inr (DW.keys_iff.2 (.inl rfl))) (keepX (.inl (Nat.le_refl _)) (keepX (.inr (DW.keys_iff.2 (.inl rfl))) keepX0)))
    · refine ⟨?_, ?_, ?_, fun hp => ?_, fun y hy => ?_, e1, e2, e3⟩
      · rw [upd_same]; rfl
      · show upd _ _ _ w.js = _
        rw [upd_ne _ _ e1.symm, upd_ne _ _ (by omega), upd_ne _ _ e1.symm]; exact F.hs
      · show upd _ _ _ w.jn = _
        rw [upd_ne _ _ e2.symm, upd_ne _ _ (by omega), upd_ne _ _ e2.symm]; exact F.hn
      · have hp : w.pend ≠ [] := hp
        obtain ⟨a1, a2, a3, a4⟩ := F.hp hp
        have hpn := hlt w.jp (DW.keys_iff.2 (.inr (.inr (.inr (.inl ⟨hp, rfl⟩)))))
        refine ⟨?_, a2, a3, a4⟩
        show upd _ _ _ w.jp = _
        rw [upd_ne _ _ a2, upd_ne _ _ (by omega), upd_ne _ _ a2]; exact a1
      · injection hy with hy
        subst hy
        refine ⟨?_, by show n ≠ d; omega, by show n ≠ w.js; omega, by show n ≠ w.jn; omega, fun hp => ?_⟩
        · show upd _ _ _ n = _
          rw [upd_ne _ _ (by omega), upd_same]; rfl
        · have hpn := hlt w.jp (DW.keys_iff.2 (.inr (.inr (.inr (.inl ⟨hp, rfl⟩)))))
          show n ≠ w.jp; omega
    · rw [DW.keys_iff] at hj
      rcases hj with h1 | h1 | h1 | h1 | ⟨_, h1⟩
      · exact .inl (DW.keys_iff.2 (.inl h1))
      · exact .inl (DW.keys_iff.2 (.inr (.inl h1)))
      · exact .inl (DW.keys_iff.2 (.inr (.inr (.inl h1))))
      · exact .inl (DW.keys_iff.2 (.inr (.inr (.inr (.inl h1)))))
      · have h1 : j = n := h1
        subst h1
        exact .inr ⟨Nat.le_refl _, Nat.lt_succ_self _⟩
  · have hu : ¬ 1 ≤ k := by simpa using hu
    have ht : w.arm n k z keep torn = ({ w with trip := none }, n) := if_neg hu
    rw [ht]
    refine AWp.skip ?_
    exact Out.disk (w' := { w with trip := none }) (xs := []) (.inl rfl) rfl rfl (Nat.le_refl _) (Nat.le_refl _) trivial hL hlt (DW.noTrip F _ (fun j hj => upd_ne _ _ hj) (upd_same ..)) (fun j hj => .inl (noTrip_keys hj)) (keepX (.inr (DW.keys_iff.2 (.inl rfl))) keepX0)

/-! ### Read -/
def DW.read (w : DW) (i : Int) : AV × Int := if wrongE w.off w.safe.length i ≠ 0 then (.ro true [] 0, wrongE w.off w.safe.length i) else match w.now[i.toNat]? with
  | some (some b) => (.ro false (cellsB b) b.length, 0)
  | _ => (.ro true [] 0, 15)
theorem c11 {h : Heap} {d : Nat} {w : DW} (hw : DOk w) (hL : Has h (w.cont d)) (i : Int) : ∀ n, DCalls Tryd.prog 30 [.p d 0, .i .i64 i] h n (.tup [(w.read i).1, .i .i64 (w.read i).2]) [] n := by
  intro n
  have hS := ok_DB
  have F := DFacts.of hL
  have hd := F.hd
  have hn0 := F.hn
  simp only [DW.rowD] at hd
  have h23 := at23 i hd
  refine DCalls.of Tryd.func30 rfl (by decide) (Nat.le_of_ble_eq_true rfl) (Nat.le_refl _) ?_
  refine AWp.seq ?_
  (refine aw_regionL hS (by kernel_rfl) ?_; repeat (first | apply vr0u | apply vr4 | apply b_tt | apply b_ff | apply b_tf | apply b_ft | apply b_no | exact isD.mk rfl | (apply eqG; (simp only [push_cast, ↓reduceIte, Nat.reduceEqDiff, Nat.reduceAdd, Nat.reduceLeDiff, Nat.reduceLT, Int.reduceLE, Int.reduceLT, Int.reduceAdd, Int.reduceSub, Int.reduceNeg, Int.reduceBEq, Int.reduceBNe, Int.reduceEq, Int.reduceGT, Int.reduceGE, Int.reduceMul, Int.reduceToNat, Nat.reduceMul, reduceCtorEq, h23] <;> rfl)) | exact (rfl : app (swap _ _) _ = _)))
  refine vr_nil (aw_then ?_)
  refine AWp.seq ?_
  (refine aw_regionL hS (by kernel_rfl) ?_; repeat (first | apply vr0u | apply vr4 | apply b_tt | apply b_ff | apply b_tf | apply b_ft | apply b_no | exact isD.mk rfl | (apply eqG; (simp only [push_cast, ↓reduceIte, Nat.reduceEqDiff, Nat.reduceAdd, Nat.reduceLeDiff, Nat.reduceLT, Int.reduceLE, Int.reduceLT, Int.reduceAdd, Int.reduceSub, Int.reduceNeg, Int.reduceBEq, Int.reduceBNe, Int.reduceEq, Int.reduceGT, Int.reduceGE, Int.reduceMul, Int.reduceToNat, Nat.reduceMul, reduceCtorEq, h23] <;> rfl)) | exact (rfl : app (swap _ _) _ = _)))
  refine vr_nil (aw_then ?_)
  refine AWp.seq ?_
  refine AWp.block ?_
  refine AWp.seq ?_
  (refine aw_regionL hS (by kernel_rfl) ?_; repeat (first | apply vr0u | apply vr4 | apply b_tt | apply b_ff | apply b_tf | apply b_ft | apply b_no | exact isD.mk rfl | (apply eqG; (simp only [push_cast, ↓reduceIte, Nat.reduceEqDiff, Nat.reduceAdd, Nat.reduceLeDiff, Nat.reduceLT, Int.reduceLE, Int.reduceLT, Int.reduceAdd, Int.reduceSub, Int.reduceNeg, Int.reduceBEq, Int.reduceBNe, Int.reduceEq, Int.reduceGT, Int.reduceGE, Int.reduceMul, Int.reduceToNat, Nat.reduceMul, reduceCtorEq, h23] <;> rfl)) | exact (rfl : app (swap _ _) _ = _)))
  refine vr_nil (aw_then ?_)
  refine aw_split (by (simp only [push_cast, ↓reduceIte, Nat.reduceEqDiff, Nat.reduceAdd, Nat.reduceLeDiff, Nat.reduceLT, Int.reduceLE, Int.reduceLT, Int.reduceAdd, Int.reduceSub, Int.reduceNeg, Int.reduceBEq, Int.reduceBNe, Int.reduceEq, Int.reduceGT, Int.reduceGE, Int.reduceMul, Int.reduceToNat, Nat.reduceMul, reduceCtorEq, h23] <;> rfl)) (fun hu => ?_) (fun hu => ?_)
  · have hu : wrongE w.off w.safe.length i ≠ 0 := by simpa using hu
    have ht : w.read i = (.ro true [] 0, wrongE w.off w.safe.length i) := if_pos hu
    rw [ht]
    refine AWp.seq ?_
    (refine aw_regionL hS (by kernel_rfl) ?_; repeat (first | apply vr0u | apply vr4 | apply b_tt | apply b_ff | apply b_tf | apply b_ft | apply b_no | exact isD.mk rfl | (apply eqG; (simp only [push_cast, ↓reduceIte, Nat.reduceEqDiff, Nat.reduceAdd, Nat.reduceLeDiff, Nat.reduceLT, Int.reduceLE, Int.reduceLT, Int.reduceAdd, Int.reduceSub, Int.reduceNeg, Int.reduceBEq, Int.reduceBNe, Int.reduceEq, Int.reduceGT, Int.reduceGE, Int.reduceMul, Int.reduceToNat, Nat.reduceMul, reduceCtorEq, h23] <;> rfl)) | exact (rfl : app (swap _ _) _ = _)))
    refine vr_nil (aw_then ?_)
    refine AWp.ret ?_
    exact Out.pure2 (.inr rfl) rfl (by (simp only [push_cast, ↓reduceIte, Nat.reduceEqDiff, Nat.reduceAdd, Nat.reduceLeDiff, Nat.reduceLT, Int.reduceLE, Int.reduceLT, Int.reduceAdd, Int.reduceSub, Int.reduceNeg, Int.reduceBEq, Int.reduceBNe, Int.reduceEq, Int.reduceGT, Int.reduceGE, Int.reduceMul, Int.reduceToNat, Nat.reduceMul, reduceCtorEq, h23] <;> rfl)) (by (simp only [push_cast, ↓reduceIte, Nat.reduceEqDiff, Nat.reduceAdd, Nat.reduceLeDiff, Nat.reduceLT, Int.reduceLE, Int.reduceLT, Int.reduceAdd, Int.reduceSub, Int.reduceNeg, Int.reduceBEq, Int.reduceBNe, Int.reduceEq, Int.reduceGT, Int.reduceGE, Int.reduceMul, Int.reduceToNat, Nat.reduceMul, reduceCtorEq, h23] <;> rfl)) rfl (by simp [AV.names, namesAll]) keep0
  · have hu : wrongE w.off w.safe.length i = 0 := by simpa using hu
    obtain ⟨hoff, hi0, hiN⟩ := wrong0 hu
    obtain ⟨k, rfl⟩ : ∃ k : Nat, i = (k : Int) := ⟨i.toNat, by omega⟩
    have hk : k < w.now.length := by rw [hw.len]; omega
    have ht : w.read k = (match w.now[k]? with | some (some b) => (.ro false (cellsB b) b.length, 0) | _ => (.ro true [] 0, 15)) := by unfold DW.read; rw [if_neg (by rw [hu]; simp)]; rfl
    rw [ht, List.getElem?_eq_getElem hk]
    have q5 : (0 ≤ (k : Int) ∧ (k : Int) < (w.now.length : Int)) = True := by simp; omega
    have q6 := secC_get1 hk
    have q7 := secC_get0 hk
    have hs2 := hw.s2
    have hmem := List.getElem_mem hk
    generalize w.now[k] = s at *
    refine AWp.seq ?_
    (refine aw_regionL hS (by kernel_rfl) ?_; repeat (first | apply vr0u | apply vr4 | apply b_tt | apply b_ff | apply b_tf | apply b_ft | apply b_no | exact isD.mk rfl | (apply eqG; (simp only [push_cast, ↓reduceIte, Nat.reduceEqDiff, Nat.reduceAdd, Nat.reduceLeDiff, Nat.reduceLT, Int.reduceLE, Int.reduceLT, Int.reduceAdd, Int.reduceSub, Int.reduceNeg, Int.reduceBEq, Int.reduceBNe, Int.reduceEq, Int.reduceGT, Int.reduceGE, Int.reduceMul, Int.reduceToNat, Nat.reduceMul, reduceCtorEq, hd, hn0, q5, q6] <;> rfl)) | exact (rfl : app (swap _ _) _ = _)))
    refine vr_nil (aw_then ?_)
    cases s with
    | none =>
      refine aw_true (by (simp only [push_cast, ↓reduceIte, Nat.reduceEqDiff, Nat.reduceAdd, Nat.reduceLeDiff, Nat.reduceLT, Int.reduceLE, Int.reduceLT, Int.reduceAdd, Int.reduceSub, Int.reduceNeg, Int.reduceBEq, Int.reduceBNe, Int.reduceEq, Int.reduceGT, Int.reduceGE, Int.reduceMul, Int.reduceToNat, Nat.reduceMul, reduceCtorEq, hd, hn0, q5, q6] <;> rfl)) ?_
      refine AWp.seq ?_
      (refine aw_regionL hS (by kernel_rfl) ?_; repeat (first | apply vr0u | apply vr4 | apply b_tt | apply b_ff | apply b_tf | apply b_ft | apply b_no | exact isD.mk rfl | (apply eqG; (simp only [push_cast, ↓reduceIte, Nat.reduceEqDiff, Nat.reduceAdd, Nat.reduceLeDiff, Nat.reduceLT, Int.reduceLE, Int.reduceLT, Int.reduceAdd, Int.reduceSub, Int.reduceNeg, Int.reduceBEq, Int.reduceBNe, Int.reduceEq, Int.reduceGT, Int.reduceGE, Int.reduceMul, Int.reduceToNat, Nat.reduceMul, reduceCtorEq, hd, hn0, q5, q6] <;> rfl)) | exact (rfl : app (swap _ _) _ = _)))
      refine vr_nil (aw_then ?_)
      refine AWp.ret ?_
      exact Out.pure2 (.inr rfl) rfl (by (simp only [push_cast, ↓reduceIte, Nat.reduceEqDiff, Nat.reduceAdd, Nat.reduceLeDiff, Nat.reduceLT, Int.reduceLE, Int.reduceLT, Int.reduceAdd, Int.reduceSub, Int.reduceNeg, Int.reduceBEq, Int.reduceBNe, Int.reduceEq, Int.reduceGT, Int.reduceGE, Int.reduceMul, Int.reduceToNat, Nat.reduceMul, reduceCtorEq, hd, hn0, q5, q6] <;> rfl)) (by (simp only [push_cast, ↓reduceIte, Nat.reduceEqDiff, Nat.reduceAdd, Nat.reduceLeDiff, Nat.reduceLT, Int.reduceLE, Int.reduceLT, Int.reduceAdd, Int.reduceSub, Int.reduceNeg, Int.reduceBEq, Int.reduceBNe, Int.reduceEq, Int.reduceGT, Int.reduceGE, Int.reduceMul, Int.reduceToNat, Nat.reduceMul, reduceCtorEq, hd, hn0, q5, q6] <;> rfl)) rfl (by simp [AV.names, namesAll]) keep0
    | some b =>
      have hb := hs2 b hmem
      have h24 : DB 28 [secV (some b)] h = .pure (.ro false (cellsB b) b.length) := cloneG_ro cellsB_inj (by omega) h
      refine aw_false (by (simp only [push_cast, ↓reduceIte, Nat.reduceEqDiff, Nat.reduceAdd, Nat.reduceLeDiff, Nat.reduceLT, Int.reduceLE, Int.reduceLT, Int.reduceAdd, Int.reduceSub, Int.reduceNeg, Int.reduceBEq, Int.reduceBNe, Int.reduceEq, Int.reduceGT, Int.reduceGE, Int.reduceMul, Int.reduceToNat, Nat.reduceMul, reduceCtorEq, hd, hn0, q5, q7, h24] <;> rfl)) (AWp.skip (aw_in (aw_then ?_)))
      refine AWp.seq ?_
      (refine aw_regionL hS (by kernel_rfl) ?_; repeat (first | apply vr0u | apply vr4 | apply b_tt | apply b_ff | apply b_tf | apply b_ft | apply b_no | exact isD.mk rfl | (apply eqG; (simp only [push_cast, ↓reduceIte, Nat.reduceEqDiff, Nat.reduceAdd, Nat.reduceLeDiff, Nat.reduceLT, Int.reduceLE, Int.reduceLT, Int.reduceAdd, Int.reduceSub, Int.reduceNeg, Int.reduceBEq, Int.reduceBNe, Int.reduceEq, Int.reduceGT, Int.reduceGE, Int.reduceMul, Int.reduceToNat, Nat.reduceMul, reduceCtorEq, hd, hn0, q5, q7, h24] <;> rfl)) | exact (rfl : app (swap _ _) _ = _)))
      refine vr_nil (aw_then ?_)
      refine AWp.ret ?_
      exact Out.pure2 (.inr rfl) rfl (by (simp only [push_cast, ↓reduceIte, Nat.reduceEqDiff, Nat.reduceAdd, Nat.reduceLeDiff, Nat.reduceLT, Int.reduceLE, Int.reduceLT, Int.reduceAdd, Int.reduceSub, Int.reduceNeg, Int.reduceBEq, Int.reduceBNe, Int.reduceEq, Int.reduceGT, Int.reduceGE, Int.reduceMul, Int.reduceToNat, Nat.reduceMul, reduceCtorEq, hd, hn0, q5, q7, h24] <;> rfl)) (by (simp only [push_cast, ↓reduceIte, Nat.reduceEqDiff, Nat.reduceAdd, Nat.reduceLeDiff, Nat.reduceLT, Int.reduceLE, Int.reduceLT, Int.reduceAdd, Int.reduceSub, Int.reduceNeg, Int.reduceBEq, Int.reduceBNe, Int.reduceEq, Int.reduceGT, Int.reduceGE, Int.reduceMul, Int.reduceToNat, Nat.reduceMul, reduceCtorEq, hd, hn0, q5, q7, h24] <;> rfl)) rfl (show namesAll (· < n) [AV.ro false (cellsB b) b.length, .i .i64 0] from ⟨AV.free_names _ (by simp [AV.free, free_cellsB]), trivial, trivial⟩) keep0

/-! ### Sector -/
def sectorB (b : List UInt8) : List UInt8 := b.take 64 ++ List.replicate (64 - b.length) 0
theorem sectorB_len (b : List UInt8) : (sectorB b).length = 64 := by simp [sectorB]; omega
theorem sector_cells (b : List UInt8) : (cellsB b).take (min b.length 64) ++ (cellsB (List.replicate 64 0)).drop (min b.length 64) = cellsB (sectorB b) := by
  simp only [cellsB, sectorB, List.map_append, List.map_take, List.map_replicate, List.drop_replicate]
  congr 1
  · rw [Nat.min_comm, ← List.take_take, List.take_of_length_le (l := List.map _ b) (by simp)]
  · congr 1; omega
theorem rep64 : rep 64 [AV.i .u8 0] = cellsB (List.replicate 64 0) := rfl

noncomputable def DC : Sums := DB
theorem ok_DC : SumOk Tryd.prog DC := ok_DB

end Go.Proofs.YtepfknnffooaiaaDoor
