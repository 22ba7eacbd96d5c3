import Derived.Test.YtepfknnffooaiaaDoorDoG

namespace Go.Proofs.YtepfknnffooaiaaDoor
open Go.Av
set_option maxRecDepth 100000
set_option maxHeartbeats 1000000
set_option linter.unusedSimpArgs false
set_option linter.unusedVariables false
attribute [local push_cast] stepE callR resE aeff aev ofC ofC1 put_at Av.put_none inTmps List.getD_cons_zero List.getD_cons_succ AV.boxable if_true if_false AV.cells aload place app_cons app_nil upd_same Av.part abin aconv aindexAddr fillA splice_one abuiltin alen amax amin aun aindex Option.map_some Option.isSome_some List.map_cons List.map_nil List.nil_append List.append_nil List.cons_append Nat.le_refl Nat.zero_add Nat.add_zero List.length_cons List.length_nil List.drop_succ_cons List.drop_zero List.take_succ_cons List.take_zero beq_self_eq_true bne_self_eq_false Bool.not_true Bool.not_false List.set_cons_zero List.set_cons_succ Bool.false_eq_true IntWalk.i64_in decide_true decide_false Int.toNat_zero and_self and_true true_and List.getElem?_cons_zero List.getElem?_cons_succ aappend aapp view Bool.and_true Bool.true_and Nat.mul_one Option.map_none aslice asliceB nilOp Int.toNat_natCast und_30 agT_3 szT_3 kiT_3 agT_5 szT_5 kiT_5 agT_24 szT_24 kiT_24 agT_62 szT_62 kiT_62 agT_4 szT_4 kiT_4 agT_9 szT_9 kiT_9 agT_44 szT_44 kiT_44 agT_45 szT_45 kiT_45 agT_30 szT_30 kiT_30 agT_22 szT_22 kiT_22 agT_41 szT_41 kiT_41 agT_51 szT_51 kiT_51 agT_52 szT_52 kiT_52 agT_23 szT_23 kiT_23 agT_53 szT_53 kiT_53 agT_27 szT_27 kiT_27 agT_89 szT_89 kiT_89 agT_66 szT_66 kiT_66 agT_20 szT_20 kiT_20 slT_45 slT_44 slT_30 slT_22 slT_41 slT_51 slT_52 zeT_3 zeT_4 zeT_5 zeT_30 zeT_24 flT_55_0 flT_55_1 flT_55_2 flT_55_3 flT_55_4 agT_55 szT_55 buT_55 zeT_55 flT_57_0 flT_57_1 agT_57 szT_57 buT_57 zeT_57 flT_74_0 flT_74_1 agT_74 szT_74 buT_74 zeT_74 flT_77_0 flT_77_1 flT_77_2 agT_77 szT_77 buT_77 zeT_77 flT_47_0 flT_47_1 flT_47_2 flT_47_3 flT_47_4 flT_47_5 agT_47 szT_47 buT_47 zeT_47 flT_61_0 flT_61_1 agT_61 szT_61 buT_61 zeT_61 flT_64_0 flT_64_1 agT_64 szT_64 buT_64 zeT_64 flT_91_0 flT_91_1 agT_91 szT_91 buT_91 zeT_91 ptT_23 ptT_53 ptT_27 ptT_89 und_30 

theorem DCalls.same {P : Program} {f : FuncId} {args : List AV} {h : Heap} {n : Nat} {r : AV} {L : Lst} (hL : Has h L) (hd : DCalls P f args h n r (swap L L) n) : DCalls P f args h n r [] n := by
  have e : app (swap L L) h = app [] h := by
    funext x
    by_cases hx : x ∈ L.keys
    · obtain ⟨p, hp, rfl⟩ := List.mem_map.1 hx
      rw [(Has.swap h hL.2).1 p hp, app_nil, hL.1 p hp]
    · rw [swap_off h hx hx]; rfl
  obtain ⟨h1, h2, h3⟩ := hd
  refine ⟨h1, h2, fun U ρ Ro w xs hU hrel hxs => ?_⟩
  have := h3 U ρ Ro w xs hU hrel hxs
  rw [e] at this
  exact this

theorem synced_nodup {h : Heap} {d : Nat} {w : DW} (F : DFacts h d w) : (w.synced.cont d).keys.Nodup := by
  refine (DFacts.has (h := Av.upd (Av.upd h d (some (.cells w.synced.rowD))) w.js (some (.cells (secC w.synced.safe)))) (w := w.synced) ⟨?_, ?_, ?_, fun hp => absurd rfl hp, fun x hx => ?_, F.ds, F.dn, F.sn⟩).2
  · rw [upd_ne _ _ F.ds, upd_same]
  · exact upd_same ..
  · show Av.upd _ _ _ w.jn = _
    rw [upd_ne _ _ F.sn.symm, upd_ne _ _ F.dn.symm]; exact F.hn
  · obtain ⟨a1, a2, a3, a4, a5⟩ := F.ht x hx
    refine ⟨?_, a2, a3, a4, fun hc => absurd rfl hc⟩
    show Av.upd _ _ _ w.jt = _
    rw [upd_ne _ _ a3, upd_ne _ _ a2]; exact a1
theorem wrote_facts {h : Heap} {d : Nat} {w : DW} (F : DFacts h d w) {j i : Nat} {b : List UInt8} (hj : ∀ k, k ∈ (w.cont d).keys → k < j) : DFacts (Av.upd (Av.upd (Av.upd h d (some (.cells (w.wrote j i b).rowD))) w.jn (some (.cells (secC (w.wrote j i b).now)))) j (some (.cells (wrC (w.wrote j i b).pend)))) d (w.wrote j i b) := by
  have h1 := hj d (DW.keys_iff.2 (.inl rfl))
  have h2 := hj w.js (DW.keys_iff.2 (.inr (.inl rfl)))
  have h3 := hj w.jn (DW.keys_iff.2 (.inr (.inr (.inl rfl))))
  have e1 := F.ds
  have e2 := F.dn
  have e3 := F.sn
  refine ⟨?_, ?_, ?_, fun hp => ⟨upd_same .., ?_, ?_, ?_⟩, fun x hx => ?_, e1, e2, e3⟩
  · rw [upd_ne _ _ (by omega), upd_ne _ _ (by omega), upd_same]
  · show Av.upd _ _ _ w.js = _
    rw [upd_ne _ _ (by omega), upd_ne _ _ (by omega), upd_ne _ _ (by omega)]; exact F.hs
  · show Av.upd _ _ _ w.jn = _
    rw [upd_ne _ _ (by omega), upd_same]
  · show j ≠ d; omega
  · show j ≠ w.js; omega
  · show j ≠ w.jn; omega
  · have hx : w.trip = some x := hx
    obtain ⟨a1, a2, a3, a4, a5⟩ := F.ht x hx
    have h4 := hj w.jt (DW.keys_iff.2 (.inr (.inr (.inr (.inr ⟨by rw [hx]; simp, rfl⟩)))))
    refine ⟨?_, a2, a3, a4, fun _ => by show w.jt ≠ j; omega⟩
    show Av.upd _ _ _ w.jt = _
    rw [upd_ne _ _ (by omega), upd_ne _ _ a4, upd_ne _ _ a2]; exact a1
theorem arm_nodup {h : Heap} {d n : Nat} {w : DW} (F : DFacts h d w) (hlt : ∀ k, k ∈ (w.cont d).keys → k < n) {x} : (({ w with jt := n, trip := some x } : DW).cont d).keys.Nodup := by
  have h1 := hlt d (DW.keys_iff.2 (.inl rfl))
  have h2 := hlt w.js (DW.keys_iff.2 (.inr (.inl rfl)))
  have h3 := hlt w.jn (DW.keys_iff.2 (.inr (.inr (.inl rfl))))
  refine (DFacts.has (h := Av.upd (Av.upd h d (some (.cells ({ w with jt := n, trip := some x } : DW).rowD))) n (some (.cells (trC x)))) (w := { w with jt := n, trip := some x }) ⟨?_, ?_, ?_, fun hp => ?_, fun y hy => ?_, F.ds, F.dn, F.sn⟩).2
  · rw [upd_ne _ _ (by omega), upd_same]
  · show Av.upd _ _ _ w.js = _
    rw [upd_ne _ _ (by omega), upd_ne _ _ F.ds.symm]; exact F.hs
  · show Av.upd _ _ _ w.jn = _
    rw [upd_ne _ _ (by omega), upd_ne _ _ F.dn.symm]; exact F.hn
  · have hp : w.pend ≠ [] := hp
    obtain ⟨a1, a2, a3, a4⟩ := F.hp hp
    have h4 := hlt w.jp (DW.keys_iff.2 (.inr (.inr (.inr (.inl ⟨hp, rfl⟩)))))
    refine ⟨?_, a2, a3, a4⟩
    show Av.upd _ _ _ w.jp = _
    rw [upd_ne _ _ (by omega), upd_ne _ _ a2]; exact a1
  · injection hy with hy
    subst hy
    refine ⟨upd_same .., by show n ≠ d; omega, by show n ≠ w.js; omega, by show n ≠ w.jn; omega, fun hp => ?_⟩
    have h4 := hlt w.jp (DW.keys_iff.2 (.inr (.inr (.inr (.inl ⟨hp, rfl⟩)))))
    show n ≠ w.jp; omega

/-! ### two texts of bytes -/
theorem cellsB_get {b : List UInt8} {i : Nat} (hi : i < b.length) : (cellsB b)[i]? = some (.i .u8 (b[i].toNat : Int)) := by simp [cellsB, hi]
theorem c18 (z1 z2 : Bool) (a b : List UInt8) (ha : a.length ≤ 1000000) (hb : b.length ≤ 1000000) : PCalls Tryd.prog 14 [.ro z1 (cellsB a) a.length, .ro z2 (cellsB b) b.length] (.b (decide (a = b))) := by
  intro h n
  have hS := ok_DB
  refine DCalls.of Tryd.func14 rfl (by decide) (Nat.le_of_ble_eq_true rfl) (Nat.le_refl _) ?_
  refine AWp.seq ?_
  (refine aw_regionL hS (by kernel_rfl) ?_; repeat (first | apply vr0u | apply vr4 | apply b_tt | apply b_ff | apply b_tf | apply b_ft | apply b_no | exact isD.mk rfl | (apply eqG; (simp only [push_cast, ↓reduceIte, Nat.reduceEqDiff, Nat.reduceAdd, Nat.reduceLeDiff, Nat.reduceLT, Int.reduceLE, Int.reduceLT, Int.reduceAdd, Int.reduceSub, Int.reduceNeg, Int.reduceBEq, Int.reduceBNe, Int.reduceEq, Int.reduceGT, Int.reduceGE, Int.reduceMul, Int.reduceToNat, Nat.reduceMul, reduceCtorEq] <;> rfl)) | exact (rfl : app (swap _ _) _ = _)))
  refine vr_nil (aw_then ?_)
  refine AWp.seq ?_
  refine AWp.seq ?_
  (refine aw_regionL hS (by kernel_rfl) ?_; repeat (first | apply vr0u | apply vr4 | apply b_tt | apply b_ff | apply b_tf | apply b_ft | apply b_no | exact isD.mk rfl | (apply eqG; (simp only [push_cast, ↓reduceIte, Nat.reduceEqDiff, Nat.reduceAdd, Nat.reduceLeDiff, Nat.reduceLT, Int.reduceLE, Int.reduceLT, Int.reduceAdd, Int.reduceSub, Int.reduceNeg, Int.reduceBEq, Int.reduceBNe, Int.reduceEq, Int.reduceGT, Int.reduceGE, Int.reduceMul, Int.reduceToNat, Nat.reduceMul, reduceCtorEq] <;> rfl)) | exact (rfl : app (swap _ _) _ = _)))
  refine vr_nil (aw_then ?_)
  refine aw_split (by (simp only [push_cast, ↓reduceIte, Nat.reduceEqDiff, Nat.reduceAdd, Nat.reduceLeDiff, Nat.reduceLT, Int.reduceLE, Int.reduceLT, Int.reduceAdd, Int.reduceSub, Int.reduceNeg, Int.reduceBEq, Int.reduceBNe, Int.reduceEq, Int.reduceGT, Int.reduceGE, Int.reduceMul, Int.reduceToNat, Nat.reduceMul, reduceCtorEq] <;> rfl)) (fun hu => ?_) (fun hu => ?_)
  · have hu : ¬ (a.length : Int) = (b.length : Int) := by simpa using hu
    refine AWp.seq ?_
    (refine aw_regionL hS (by kernel_rfl) ?_; repeat (first | apply vr0u | apply vr4 | apply b_tt | apply b_ff | apply b_tf | apply b_ft | apply b_no | exact isD.mk rfl | (apply eqG; (simp only [push_cast, ↓reduceIte, Nat.reduceEqDiff, Nat.reduceAdd, Nat.reduceLeDiff, Nat.reduceLT, Int.reduceLE, Int.reduceLT, Int.reduceAdd, Int.reduceSub, Int.reduceNeg, Int.reduceBEq, Int.reduceBNe, Int.reduceEq, Int.reduceGT, Int.reduceGE, Int.reduceMul, Int.reduceToNat, Nat.reduceMul, reduceCtorEq] <;> rfl)) | exact (rfl : app (swap _ _) _ = _)))
    refine vr_nil (aw_then ?_)
    refine AWp.ret ?_
    have e : decide (a = b) = false := decide_eq_false fun he => hu (by rw [he])
    exact Out.pure1 (.inr rfl) rfl (by (simp only [push_cast, ↓reduceIte, Nat.reduceEqDiff, Nat.reduceAdd, Nat.reduceLeDiff, Nat.reduceLT, Int.reduceLE, Int.reduceLT, Int.reduceAdd, Int.reduceSub, Int.reduceNeg, Int.reduceBEq, Int.reduceBNe, Int.reduceEq, Int.reduceGT, Int.reduceGE, Int.reduceMul, Int.reduceToNat, Nat.reduceMul, reduceCtorEq] <;> rfl)) (by rw [e]) trivial keep0
  · have hu : a.length = b.length := by
      have : (a.length : Int) = (b.length : Int) := by simpa using hu
      omega
    refine AWp.skip (aw_then ?_)
    refine AWp.seq ?_
    refine AWp.seq ?_
    (refine aw_regionL hS (by kernel_rfl) ?_; repeat (first | apply vr0u | apply vr4 | apply b_tt | apply b_ff | apply b_tf | apply b_ft | apply b_no | exact isD.mk rfl | (apply eqG; (simp only [push_cast, ↓reduceIte, Nat.reduceEqDiff, Nat.reduceAdd, Nat.reduceLeDiff, Nat.reduceLT, Int.reduceLE, Int.reduceLT, Int.reduceAdd, Int.reduceSub, Int.reduceNeg, Int.reduceBEq, Int.reduceBNe, Int.reduceEq, Int.reduceGT, Int.reduceGE, Int.reduceMul, Int.reduceToNat, Nat.reduceMul, reduceCtorEq] <;> rfl)) | exact (rfl : app (swap _ _) _ = _)))
    refine vr_nil (aw_then ?_)
    refine AWp.block ?_
    refine AWp.loop (fun m t' h' n' => ∃ k : Nat, m = a.length - k ∧ k ≤ a.length ∧ t' 0 = .ro z1 (cellsB a) a.length ∧ t' 1 = .ro z2 (cellsB b) b.length ∧ t' 5 = .i .i64 (k : Int) ∧ a.take k = b.take k ∧ h' = h) a.length ?_ ?_
    · exact ⟨0, rfl, Nat.zero_le _, by (simp only [push_cast, ↓reduceIte, Nat.reduceEqDiff, Nat.reduceAdd, Nat.reduceLeDiff, Nat.reduceLT, Int.reduceLE, Int.reduceLT, Int.reduceAdd, Int.reduceSub, Int.reduceNeg, Int.reduceBEq, Int.reduceBNe, Int.reduceEq, Int.reduceGT, Int.reduceGE, Int.reduceMul, Int.reduceToNat, Nat.reduceMul, reduceCtorEq] <;> rfl), by (simp only [push_cast, ↓reduceIte, Nat.reduceEqDiff, Nat.reduceAdd, Nat.reduceLeDiff, Nat.reduceLT, Int.reduceLE, Int.reduceLT, Int.reduceAdd, Int.reduceSub, Int.reduceNeg, Int.reduceBEq, Int.reduceBNe, Int.reduceEq, Int.reduceGT, Int.reduceGE, Int.reduceMul, Int.reduceToNat, Nat.reduceMul, reduceCtorEq] <;> rfl), by (simp only [push_cast, ↓reduceIte, Nat.reduceEqDiff, Nat.reduceAdd, Nat.reduceLeDiff, Nat.reduceLT, Int.reduceLE, Int.reduceLT, Int.reduceAdd, Int.reduceSub, Int.reduceNeg, Int.reduceBEq, Int.reduceBNe, Int.reduceEq, Int.reduceGT, Int.reduceGE, Int.reduceMul, Int.reduceToNat, Nat.reduceMul, reduceCtorEq] <;> rfl), rfl, rfl⟩
    · rintro m t' h' n' - ⟨k, rfl, hka, h0, h1, h5, htk, rfl⟩
      by_cases hk : k < a.length
      · have hkb : k < b.length := by omega
        have q1 : ((k : Int) < (a.length : Int)) = True := by simp [hk]
        have q2 : (0 ≤ (k : Int) ∧ (k : Int) < (a.length : Int)) = True := by simp [hk]
        have q3 : (0 ≤ (k : Int) ∧ (k : Int) < (b.length : Int)) = True := by simp [hkb]
        have q4 := cellsB_get hk
        have q5 := cellsB_get hkb
        have w1 : IntKind.wrap .i64 ((k : Int) + 1) = (k : Int) + 1 := IntWalk.i64_in _ (by omega)
        refine AWp.seq ?_
        refine AWp.seq ?_
        (refine aw_regionL hS (by kernel_rfl) ?_; repeat (first | apply vr0u | apply vr4 | apply b_tt | apply b_ff | apply b_tf | apply b_ft | apply b_no | exact isD.mk rfl | (apply eqG; (simp only [push_cast, ↓reduceIte, Nat.reduceEqDiff, Nat.reduceAdd, Nat.reduceLeDiff, Nat.reduceLT, Int.reduceLE, Int.reduceLT, Int.reduceAdd, Int.reduceSub, Int.reduceNeg, Int.reduceBEq, Int.reduceBNe, Int.reduceEq, Int.reduceGT, Int.reduceGE, Int.reduceMul, Int.reduceToNat, Nat.reduceMul, reduceCtorEq, h0, h1, h5, q1, q2, q3, q4, q5, w1] <;> rfl)) | exact (rfl : app (swap _ _) _ = _)))
        refine vr_nil (aw_then ?_)
        refine aw_true (by (simp only [push_cast, ↓reduceIte, Nat.reduceEqDiff, Nat.reduceAdd, Nat.reduceLeDiff, Nat.reduceLT, Int.reduceLE, Int.reduceLT, Int.reduceAdd, Int.reduceSub, Int.reduceNeg, Int.reduceBEq, Int.reduceBNe, Int.reduceEq, Int.reduceGT, Int.reduceGE, Int.reduceMul, Int.reduceToNat, Nat.reduceMul, reduceCtorEq, h0, h1, h5, q1, q2, q3, q4, q5, w1] <;> rfl)) (AWp.skip (aw_then ?_))
        refine AWp.seq ?_
        refine AWp.block ?_
        refine AWp.seq ?_
        refine aw_drawsL [0, 0, 3, 7, 0, 0, 48, 112, 255] [] hS mixed (by kernel_rfl) (by kernel_rfl) ?_
        repeat (first | (refine vd0f (by decide) (by ((repeat (first | rewrite [hpL_t rfl] | rewrite [hpL_f rfl])); (simp only [hpL, app_cons, app_nil] <;> rfl))) (by (simp only [push_cast, ↓reduceIte, Nat.reduceEqDiff, Nat.reduceAdd, Nat.reduceLeDiff, Nat.reduceLT, Int.reduceLE, Int.reduceLT, Int.reduceAdd, Int.reduceSub, Int.reduceNeg, Int.reduceBEq, Int.reduceBNe, Int.reduceEq, Int.reduceGT, Int.reduceGE, Int.reduceMul, Int.reduceToNat, Nat.reduceMul, reduceCtorEq, h0, h1, h5, q1, q2, q3, q4, q5, w1] <;> rfl)) ?_) | (refine vd0q rfl (by decide) rfl (by ((repeat (first | rewrite [hpL_t rfl] | rewrite [hpL_f rfl])); (simp only [hpL, app_cons, app_nil] <;> rfl))) (by (simp only [push_cast, ↓reduceIte, Nat.reduceEqDiff, Nat.reduceAdd, Nat.reduceLeDiff, Nat.reduceLT, Int.reduceLE, Int.reduceLT, Int.reduceAdd, Int.reduceSub, Int.reduceNeg, Int.reduceBEq, Int.reduceBNe, Int.reduceEq, Int.reduceGT, Int.reduceGE, Int.reduceMul, Int.reduceToNat, Nat.reduceMul, reduceCtorEq, h0, h1, h5, q1, q2, q3, q4, q5, w1] <;> rfl)) (by simp) (by omega) (by intro u hu; simp only [List.mem_cons, List.not_mem_nil, or_false] at hu; rcases hu with rfl | rfl | rfl <;> simp only <;> omega) ?_) | (refine vd0w rfl (by decide) (by ((repeat (first | rewrite [hpL_t rfl] | rewrite [hpL_f rfl])); (simp only [hpL, app_cons, app_nil] <;> rfl))) (by (simp only [push_cast, ↓reduceIte, Nat.reduceEqDiff, Nat.reduceAdd, Nat.reduceLeDiff, Nat.reduceLT, Int.reduceLE, Int.reduceLT, Int.reduceAdd, Int.reduceSub, Int.reduceNeg, Int.reduceBEq, Int.reduceBNe, Int.reduceEq, Int.reduceGT, Int.reduceGE, Int.reduceMul, Int.reduceToNat, Nat.reduceMul, reduceCtorEq, h0, h1, h5, q1, q2, q3, q4, q5, w1] <;> rfl)) (by omega) (by intro u hu; simp only [List.mem_cons, List.not_mem_nil, or_false] at hu; rcases hu with rfl | rfl | rfl <;> simp only <;> omega) ?_) | (apply vd0; (focus rfl)) | (apply vd0r; (focus rfl); (focus decide); (focus rfl)) | (apply vd0p; (focus decide)) | apply vd4 | apply b_tt | apply b_ff | apply b_tf | apply b_ft | apply b_no | exact isD.mk rfl | ((repeat (first | rewrite [hpL_t rfl] | rewrite [hpL_f rfl])); (simp only [hpL, app_cons, app_nil] <;> rfl)) | (apply eqG; (simp only [push_cast, ↓reduceIte, Nat.reduceEqDiff, Nat.reduceAdd, Nat.reduceLeDiff, Nat.reduceLT, Int.reduceLE, Int.reduceLT, Int.reduceAdd, Int.reduceSub, Int.reduceNeg, Int.reduceBEq, Int.reduceBNe, Int.reduceEq, Int.reduceGT, Int.reduceGE, Int.reduceMul, Int.reduceToNat, Nat.reduceMul, reduceCtorEq, h0, h1, h5, q1, q2, q3, q4, q5, w1] <;> rfl)))
        (refine vd_nil (by simp only [hpL, app_cons, app_nil, if_true] <;> rfl) ?_)
        refine aw_then ?_
        refine aw_split (by (simp only [push_cast, ↓reduceIte, Nat.reduceEqDiff, Nat.reduceAdd, Nat.reduceLeDiff, Nat.reduceLT, Int.reduceLE, Int.reduceLT, Int.reduceAdd, Int.reduceSub, Int.reduceNeg, Int.reduceBEq, Int.reduceBNe, Int.reduceEq, Int.reduceGT, Int.reduceGE, Int.reduceMul, Int.reduceToNat, Nat.reduceMul, reduceCtorEq, h0, h1, h5, q1, q2, q3, q4, q5, w1] <;> rfl)) (fun hv => ?_) (fun hv => ?_)
        · have hv : ¬ (a[k].toNat : Int) = (b[k].toNat : Int) := by simpa using hv
          refine AWp.seq ?_
          (refine aw_regionL hS (by kernel_rfl) ?_; repeat (first | apply vr0u | apply vr4 | apply b_tt | apply b_ff | apply b_tf | apply b_ft | apply b_no | exact isD.mk rfl | (apply eqG; (simp only [push_cast, ↓reduceIte, Nat.reduceEqDiff, Nat.reduceAdd, Nat.reduceLeDiff, Nat.reduceLT, Int.reduceLE, Int.reduceLT, Int.reduceAdd, Int.reduceSub, Int.reduceNeg, Int.reduceBEq, Int.reduceBNe, Int.reduceEq, Int.reduceGT, Int.reduceGE, Int.reduceMul, Int.reduceToNat, Nat.reduceMul, reduceCtorEq, h0, h1, h5, q1, q2, q3, q4, q5, w1] <;> rfl)) | exact (rfl : app (swap _ _) _ = _)))
          refine vr_nil (aw_then ?_)
          refine AWp.ret ?_
          have e : decide (a = b) = false := decide_eq_false fun he => hv (by subst he; rfl)
          exact Out.pure1 (.inr rfl) rfl (by (simp only [push_cast, ↓reduceIte, Nat.reduceEqDiff, Nat.reduceAdd, Nat.reduceLeDiff, Nat.reduceLT, Int.reduceLE, Int.reduceLT, Int.reduceAdd, Int.reduceSub, Int.reduceNeg, Int.reduceBEq, Int.reduceBNe, Int.reduceEq, Int.reduceGT, Int.reduceGE, Int.reduceMul, Int.reduceToNat, Nat.reduceMul, reduceCtorEq, h0, h1, h5, q1, q2, q3, q4, q5, w1] <;> rfl)) (by rw [e]) trivial keep0
        · have hv : (a[k].toNat : Int) = (b[k].toNat : Int) := by simpa using hv
          refine AWp.skip (aw_in (aw_then ?_))
          (refine aw_regionL hS (by kernel_rfl) ?_; repeat (first | apply vr0u | apply vr4 | apply b_tt | apply b_ff | apply b_tf | apply b_ft | apply b_no | exact isD.mk rfl | (apply eqG; (simp only [push_cast, ↓reduceIte, Nat.reduceEqDiff, Nat.reduceAdd, Nat.reduceLeDiff, Nat.reduceLT, Int.reduceLE, Int.reduceLT, Int.reduceAdd, Int.reduceSub, Int.reduceNeg, Int.reduceBEq, Int.reduceBNe, Int.reduceEq, Int.reduceGT, Int.reduceGE, Int.reduceMul, Int.reduceToNat, Nat.reduceMul, reduceCtorEq, h0, h1, h5, q1, q2, q3, q4, q5, w1] <;> rfl)) | exact (rfl : app (swap _ _) _ = _)))
          refine vr_nil (aw_then ⟨a.length - (k + 1), by omega, k + 1, rfl, hk, by (simp only [push_cast, ↓reduceIte, Nat.reduceEqDiff, Nat.reduceAdd, Nat.reduceLeDiff, Nat.reduceLT, Int.reduceLE, Int.reduceLT, Int.reduceAdd, Int.reduceSub, Int.reduceNeg, Int.reduceBEq, Int.reduceBNe, Int.reduceEq, Int.reduceGT, Int.reduceGE, Int.reduceMul, Int.reduceToNat, Nat.reduceMul, reduceCtorEq, h0, h1, h5, q1, q2, q3, q4, q5, w1] <;> rfl), by (simp only [push_cast, ↓reduceIte, Nat.reduceEqDiff, Nat.reduceAdd, Nat.reduceLeDiff, Nat.reduceLT, Int.reduceLE, Int.reduceLT, Int.reduceAdd, Int.reduceSub, Int.reduceNeg, Int.reduceBEq, Int.reduceBNe, Int.reduceEq, Int.reduceGT, Int.reduceGE, Int.reduceMul, Int.reduceToNat, Nat.reduceMul, reduceCtorEq, h0, h1, h5, q1, q2, q3, q4, q5, w1] <;> rfl), by (simp only [push_cast, ↓reduceIte, Nat.reduceEqDiff, Nat.reduceAdd, Nat.reduceLeDiff, Nat.reduceLT, Int.reduceLE, Int.reduceLT, Int.reduceAdd, Int.reduceSub, Int.reduceNeg, Int.reduceBEq, Int.reduceBNe, Int.reduceEq, Int.reduceGT, Int.reduceGE, Int.reduceMul, Int.reduceToNat, Nat.reduceMul, reduceCtorEq, h0, h1, h5, q1, q2, q3, q4, q5, w1] <;> rfl), ?_, rfl⟩)
          have hv' : a[k] = b[k] := UInt8.toNat_inj.1 (by omega)
          rw [List.take_succ_eq_append_getElem hk, List.take_succ_eq_append_getElem hkb, htk, hv']
      · have q1 : ((k : Int) < (a.length : Int)) = False := by simp; omega
        refine AWp.seq ?_
        refine AWp.seq ?_
        (refine aw_regionL hS (by kernel_rfl) ?_; repeat (first | apply vr0u | apply vr4 | apply b_tt | apply b_ff | apply b_tf | apply b_ft | apply b_no | exact isD.mk rfl | (apply eqG; (simp only [push_cast, ↓reduceIte, Nat.reduceEqDiff, Nat.reduceAdd, Nat.reduceLeDiff, Nat.reduceLT, Int.reduceLE, Int.reduceLT, Int.reduceAdd, Int.reduceSub, Int.reduceNeg, Int.reduceBEq, Int.reduceBNe, Int.reduceEq, Int.reduceGT, Int.reduceGE, Int.reduceMul, Int.reduceToNat, Nat.reduceMul, reduceCtorEq, h0, h1, h5, q1] <;> rfl)) | exact (rfl : app (swap _ _) _ = _)))
        refine vr_nil (aw_then ?_)
        refine aw_false (by (simp only [push_cast, ↓reduceIte, Nat.reduceEqDiff, Nat.reduceAdd, Nat.reduceLeDiff, Nat.reduceLT, Int.reduceLE, Int.reduceLT, Int.reduceAdd, Int.reduceSub, Int.reduceNeg, Int.reduceBEq, Int.reduceBNe, Int.reduceEq, Int.reduceGT, Int.reduceGE, Int.reduceMul, Int.reduceToNat, Nat.reduceMul, reduceCtorEq, h0, h1, h5, q1] <;> rfl)) (AWp.exit (aw_thru (aw_thru (aw_exit (aw_then ?_)))))
        refine AWp.seq ?_
        (refine aw_regionL hS (by kernel_rfl) ?_; repeat (first | apply vr0u | apply vr4 | apply b_tt | apply b_ff | apply b_tf | apply b_ft | apply b_no | exact isD.mk rfl | (apply eqG; (simp only [push_cast, ↓reduceIte, Nat.reduceEqDiff, Nat.reduceAdd, Nat.reduceLeDiff, Nat.reduceLT, Int.reduceLE, Int.reduceLT, Int.reduceAdd, Int.reduceSub, Int.reduceNeg, Int.reduceBEq, Int.reduceBNe, Int.reduceEq, Int.reduceGT, Int.reduceGE, Int.reduceMul, Int.reduceToNat, Nat.reduceMul, reduceCtorEq, h0, h1, h5, q1] <;> rfl)) | exact (rfl : app (swap _ _) _ = _)))
        refine vr_nil (aw_then ?_)
        refine AWp.ret ?_
        have e : decide (a = b) = true := decide_eq_true (by
          have hk' : k = a.length := by omega
          rw [hk', List.take_length, hu, List.take_length] at htk
          exact htk)
        exact Out.pure1 (.inr rfl) rfl (by (simp only [push_cast, ↓reduceIte, Nat.reduceEqDiff, Nat.reduceAdd, Nat.reduceLeDiff, Nat.reduceLT, Int.reduceLE, Int.reduceLT, Int.reduceAdd, Int.reduceSub, Int.reduceNeg, Int.reduceBEq, Int.reduceBNe, Int.reduceEq, Int.reduceGT, Int.reduceGE, Int.reduceMul, Int.reduceToNat, Nat.reduceMul, reduceCtorEq, h0, h1, h5, q1] <;> rfl)) (by rw [e]) trivial keep0
def Sp18 (args : List AV) (r : AV) : Prop := ∃ (z1 z2 : Bool) (a b : List UInt8), a.length ≤ 1000000 ∧ b.length ≤ 1000000 ∧ args = [.ro z1 (cellsB a) a.length, .ro z2 (cellsB b) b.length] ∧ r = .b (decide (a = b))

/-! ### sums -/
def G7 : List AV → Heap → Res := fun args _ => match args with
  | [.i .i64 i] => if 1 ≤ i ∧ i ≤ 256 then .wide (fun n => (.tup [.p n 0, .i .i64 0], swap [] ((newW i.toNat n).cont n), n + 1 + 3 * i.toNat + 1)) else .pure (.tup [.np, .i .i64 1])
  | _ => .no
theorem G7_ok (args : List AV) (h : Heap) : ResOk Tryd.prog 8 args h (G7 args h) := by
  unfold G7
  split
  · rename_i i
    split
    · rename_i hi
      intro n
      have := c7 (h := h) i.toNat (by omega) (by omega) n
      rw [show ((i.toNat : Nat) : Int) = i by omega] at this
      exact this
    · exact fun n => c7bad i (by omega) h n
  · trivial
noncomputable def DD : Sums := (DC.addG 8 G7).addK 14 Sp18
theorem ok_DD : SumOk Tryd.prog DD := (ok_DC.addG G7_ok).addK fun args r hr => by
  obtain ⟨z1, z2, a, b, ha, hb, rfl, rfl⟩ := hr
  exact c18 z1 z2 a b ha hb
theorem at7 {N : Nat} (h1 : 1 ≤ N) (h2 : N ≤ 256) (h : Heap) : DD 8 [.i .i64 (N : Int)] h = .wide (fun n => (.tup [.p n 0, .i .i64 0], swap [] ((newW N n).cont n), n + 1 + 3 * N + 1)) := by
  have : DD 8 [.i .i64 (N : Int)] h = G7 [.i .i64 (N : Int)] h := rfl
  rw [this]
  simp only [G7]
  rw [if_pos ⟨by omega, by omega⟩]
  simp only [Int.toNat_natCast]
theorem at7bad {i : Int} (hi : i < 1 ∨ i > 256) (h : Heap) : DD 8 [.i .i64 i] h = .pure (.tup [.np, .i .i64 1]) := by
  have : DD 8 [.i .i64 i] h = G7 [.i .i64 i] h := rfl
  rw [this]
  simp only [G7]
  rw [if_neg (by omega)]
theorem at12' {h : Heap} {d : Nat} {w : DW} (F : DFacts h d w) : DD 21 [.p d 0] h = .pure (.b w.off) := by
  have : DD 21 [.p d 0] h = DB 21 [.p d 0] h := rfl
  rw [this]; exact at12 F.hd
theorem at36' {h : Heap} {d : Nat} {w : DW} (F : DFacts h d w) : DD 23 [.p d 0] h = .pure (.i .i64 (w.safe.length : Int)) := by
  have : DD 23 [.p d 0] h = DB 23 [.p d 0] h := rfl
  rw [this]; exact at36 F.hd
theorem at18 (z1 z2 : Bool) {a b : List UInt8} (ha : a.length ≤ 1000000) (hb : b.length ≤ 1000000) (h : Heap) : DD 14 [.ro z1 (cellsB a) a.length, .ro z2 (cellsB b) b.length] h = .pure (.b (decide (a = b))) := by
  have : DD 14 [.ro z1 (cellsB a) a.length, .ro z2 (cellsB b) b.length] h = viaK (ofSpec Sp18) [.ro z1 (cellsB a) a.length, .ro z2 (cellsB b) b.length] h := rfl
  rw [this]
  refine viaK_free (by simp [freeAll, AV.free, free_cellsB]) (ofSpec_eq ⟨z1, z2, a, b, ha, hb, rfl, rfl⟩ ?_) rfl h
  rintro r ⟨y1, y2, a', b', _, _, he, rfl⟩
  simp only [List.cons.injEq, AV.ro.injEq, and_true] at he
  obtain ⟨⟨_, h1, _⟩, _, h2, _⟩ := he
  rw [cellsB_inj h1, cellsB_inj h2]

/-! ### a disk in a law: all of its memory is new -/
structure At (h0 : Heap) (n0 : Nat) (g : Heap) (m d : Nat) (w : DW) : Prop where
  ok : DOk w
  F : DFacts g d w
  lo : ∀ j, j ∈ (w.cont d).keys → n0 ≤ j ∧ j < m
  fr : ∀ x r, x < n0 → h0 x = some r → g x = some r
  le : n0 ≤ m
structure Turn (d : Nat) (w : DW) (m : Nat) (w' : DW) (m' : Nat) : Prop where
  ok : DOk w'
  le : m ≤ m'
  key : ∀ j, j ∈ (w'.cont d).keys → j ∈ (w.cont d).keys ∨ (m ≤ j ∧ j < m')
  nd : (w'.cont d).keys.Nodup
theorem At.turn {h0 g : Heap} {n0 m d m' : Nat} {w w' : DW} (A : At h0 n0 g m d w) (T : Turn d w m w' m') : At h0 n0 (app (swap (w.cont d) (w'.cont d)) g) m' d w' := by
  have hk : ∀ j, j ∈ (w'.cont d).keys → n0 ≤ j ∧ j < m' := fun j hj => by
    rcases T.key j hj with h | h
    · have := A.lo j h; exact ⟨this.1, Nat.lt_of_lt_of_le this.2 T.le⟩
    · exact ⟨Nat.le_trans A.le h.1, h.2⟩
  refine ⟨T.ok, Has.dis T.nd, hk, fun x r hx hr => ?_, Nat.le_trans A.le T.le⟩
  rw [swap_off _ (fun hj => by have := A.lo x hj; omega) (fun hj => by have := hk x hj; omega)]
  exact A.fr x r hx hr
/-- A row elsewhere is written, or made. -/
theorem At.upd {h0 g : Heap} {n0 m d j : Nat} {w : DW} (A : At h0 n0 g m d w) (hj : n0 ≤ j) (hk : j ∉ (w.cont d).keys) (r : Option Row) : At h0 n0 (Av.upd g j r) m d w :=
  ⟨A.ok, DFacts.of (A.F.has.upd hk r), A.lo, keepU hj A.fr, A.le⟩
theorem At.more {h0 g : Heap} {n0 m d m' : Nat} {w : DW} (A : At h0 n0 g m d w) (hm : m ≤ m') : At h0 n0 g m' d w :=
  ⟨A.ok, A.F, fun j hj => by have := A.lo j hj; omega, A.fr, Nat.le_trans A.le hm⟩
theorem At.new {h0 g : Heap} {n0 m d : Nat} {w : DW} (A : At h0 n0 g m d w) : m ∉ (w.cont d).keys := fun hj => by have := A.lo m hj; omega
/-- A row that is not the disk's stays so. -/
theorem At.other {h0 g : Heap} {n0 m d m' x : Nat} {w w' : DW} (A : At h0 n0 g m d w) (T : Turn d w m w' m') (hx : x < m) (hk : x ∉ (w.cont d).keys) : x ∉ (w'.cont d).keys ∧ app (swap (w.cont d) (w'.cont d)) g x = g x := by
  have h1 : x ∉ (w'.cont d).keys := fun hj => by
    rcases T.key x hj with h | h
    · exact hk h
    · omega
  exact ⟨h1, swap_off _ hk h1⟩
theorem Turn.refl {d m : Nat} {w : DW} (hw : DOk w) (hn : (w.cont d).keys.Nodup) : Turn d w m w m := ⟨hw, Nat.le_refl _, fun j hj => .inl hj, hn⟩
theorem At.tNew {h0 : Heap} {n0 m N : Nat} (hN1 : 1 ≤ N) (hN : N ≤ 256) (hm : n0 ≤ m) {g : Heap} (hf : ∀ x r, x < n0 → h0 x = some r → g x = some r) : At h0 n0 (app (swap [] ((newW N m).cont m)) g) (m + 1 + 3 * N + 1) m (newW N m) := by
  have hk : ∀ j, j ∈ ((newW N m).cont m).keys → n0 ≤ j ∧ j < m + 1 + 3 * N + 1 := fun j hj => by
    rw [new_keys] at hj
    rcases hj with rfl | rfl | rfl <;> omega
  have hn : ((newW N m).cont m).keys.Nodup := by
    simp [DW.cont, Lst.keys, newW, DW.pL, DW.tL]
    omega
  refine ⟨DOk.new hN m, DFacts.of (Has.swap _ hn), hk, fun x r hx hr => ?_, by omega⟩
  rw [swap_off _ (by simp [Lst.keys]) (fun hj => by have := hk x hj; omega)]
  exact hf x r hx hr
theorem At.hlt {h0 g : Heap} {n0 m d : Nat} {w : DW} (A : At h0 n0 g m d w) : ∀ j, j ∈ (w.cont d).keys → j < m := fun j hj => (A.lo j hj).2
theorem At.tCrash {h0 g : Heap} {n0 m d : Nat} {w : DW} (A : At h0 n0 g m d w) (keep : List Bool) (torn : Int) : Turn d w m (w.crash keep torn (m + w.pend.length)) (m + w.pend.length + 1) := by
  have hdn := A.hlt d (DW.keys_iff.2 (.inl rfl))
  have hsn := A.hlt w.js (DW.keys_iff.2 (.inr (.inl rfl)))
  refine ⟨A.ok.crash _ _ _, by omega, fun j hj => ?_, crash_nodup A.F (by omega) (by omega)⟩
  rw [crash_keys] at hj
  rcases hj with rfl | rfl | rfl
  · exact .inl (DW.keys_iff.2 (.inl rfl))
  · exact .inl (DW.keys_iff.2 (.inr (.inl rfl)))
  · exact .inr ⟨by omega, Nat.lt_succ_self _⟩
theorem At.tSync {h0 g : Heap} {n0 m d : Nat} {w : DW} (A : At h0 n0 g m d w) : Turn d w m (w.sync m).2.1 (w.sync m).2.2 := by
  obtain ⟨k1, k2, k3, k4⟩ := trips_fact A.F A.hlt
  refine ⟨A.ok.sync m, ?_, ?_, ?_⟩
  all_goals unfold DW.sync
  all_goals split
  · exact Nat.le_refl _
  · split
    · exact k1
    · exact Nat.le_refl _
  · exact fun j hj => .inl hj
  · split
    · exact k2
    · rename_i h1 h2
      intro j hj
      obtain ⟨_, e⟩ := k4 (by simpa using h2)
      rw [e] at k2
      exact k2 j (synced_keys hj)
  · exact A.F.has.2
  · split
    · exact k3
    · refine DFacts.has (h := app (swap (w.cont d) ((w.trips m).2.1.synced.cont d)) g) ?_ |>.2
      have F := Has.dis (h := g) (w := w) k3
      exact (DFacts.of (Has.swap _ (synced_nodup F)))
theorem At.tStart {h0 g : Heap} {n0 m d : Nat} {w : DW} (A : At h0 n0 g m d w) : Turn d w m w.start m := ⟨A.ok.start, Nat.le_refl _, fun j hj => .inl hj, A.F.has.2⟩
theorem At.tWrite {h0 g : Heap} {n0 m d : Nat} {w : DW} (A : At h0 n0 g m d w) (i : Int) (b : List UInt8) : Turn d w m (w.write m i b).2.1 (w.write m i b).2.2 := by
  refine ⟨A.ok.write m i b, ?_, ?_, ?_⟩
  all_goals unfold DW.write
  all_goals split
  · exact Nat.le_refl _
  · split
    · exact Nat.le_refl _
    · have := (trips_fact (wrote_facts A.F (j := m + 1) (i := i.toNat) (b := b) (fun k hk => by have := A.hlt k hk; omega)) (n := m + 2) (fun k hk => by rcases wrote_keys hk with h | h; have := A.hlt k h; omega; omega)).1
      exact Nat.le_trans (by omega) this
  · exact fun j hj => .inl hj
  · split
    · exact fun j hj => .inl hj
    · have T := trips_fact (wrote_facts A.F (j := m + 1) (i := i.toNat) (b := b) (fun k hk => by have := A.hlt k hk; omega)) (n := m + 2) (fun k hk => by rcases wrote_keys hk with h | h; have := A.hlt k h; omega; omega)
      intro j hj
      rcases T.2.1 j hj with h | h
      · rcases wrote_keys h with h | h
        · exact .inl h
        · exact .inr ⟨by omega, Nat.lt_of_lt_of_le (by omega) T.1⟩
      · exact .inr ⟨by omega, h.2⟩
  · exact A.F.has.2
  · split
    · exact A.F.has.2
    · exact (trips_fact (wrote_facts A.F (j := m + 1) (i := i.toNat) (b := b) (fun k hk => by have := A.hlt k hk; omega)) (n := m + 2) (fun k hk => by rcases wrote_keys hk with h | h; have := A.hlt k h; omega; omega)).2.2.1
theorem At.tArm {h0 g : Heap} {n0 m d : Nat} {w : DW} (A : At h0 n0 g m d w) {k : Int} (hk : k ≤ 9223372036854775807) {z : Bool} {keep : List Bool} (hz : z = true → keep = []) (hl : keep.length ≤ 1000000) (torn : Int) : Turn d w m (w.arm m k z keep torn).1 (w.arm m k z keep torn).2 := by
  refine ⟨A.ok.arm m hk hz hl torn, ?_, ?_, ?_⟩
  all_goals unfold DW.arm
  all_goals split
  · exact Nat.le_succ _
  · exact Nat.le_refl _
  · intro j hj
    rw [DW.keys_iff] at hj
    rcases hj with h1 | h1 | h1 | h1 | ⟨_, h1⟩
    · exact .inl (DW.keys_iff.2 (.inl h1))
    · exact .inl (DW.keys_iff.2 (.inr (.inl h1)))
    · exact .inl (DW.keys_iff.2 (.inr (.inr (.inl h1))))
    · exact .inl (DW.keys_iff.2 (.inr (.inr (.inr (.inl h1)))))
    · have h1 : j = m := h1
      subst h1
      exact .inr ⟨Nat.le_refl _, Nat.lt_succ_self _⟩
  · exact fun j hj => .inl (noTrip_keys hj)
  · exact arm_nodup A.F A.hlt
  · exact (DW.noTrip A.F (Av.upd g d (some (.cells [.sl 2 w.js 0 w.safe.length, .sl 2 w.jn 0 w.now.length, w.pd, .b w.off, .np]))) (fun j hj => upd_ne _ _ hj) (upd_same ..)).has.2

/-! ### calls, at a disk that is so -/
theorem At.s8 {h0 g : Heap} {n0 m d : Nat} {w : DW} (A : At h0 n0 g m d w) (hp : w.pend.length < 1000000) (i : Int) {x : AV} {b : List UInt8} (hx : Shows g (w.cont d).keys x b) : ResOk Tryd.prog 36 [.p d 0, .i .i64 i, x] g (.wide fun k => (.i .i64 (w.write k i b).1, swap (w.cont d) ((w.write k i b).2.1.cont d), (w.write k i b).2.2)) :=
  fun n => c8 A.ok A.F.has hp i hx n
/-- What may not be written changes nothing. -/
theorem At.s8e {h0 g : Heap} {n0 m d : Nat} {w : DW} (A : At h0 n0 g m d w) (hp : w.pend.length < 1000000) (i : Int) {x : AV} {b : List UInt8} (hx : Shows g (w.cont d).keys x b) (he : wrongE w.off w.safe.length i ≠ 0 ∨ b.length ≠ 64) : ResOk Tryd.prog 36 [.p d 0, .i .i64 i, x] g (.pure (.i .i64 (if wrongE w.off w.safe.length i ≠ 0 then wrongE w.off w.safe.length i else 4))) := fun n => by
  have := c8 A.ok A.F.has hp i hx n
  have e : w.write n i b = (if wrongE w.off w.safe.length i ≠ 0 then wrongE w.off w.safe.length i else 4, w, n) := by
    unfold DW.write
    split
    · rename_i h1; rfl
    · rename_i h1
      rw [if_pos (he.resolve_left h1)]
  rw [e] at this
  exact DCalls.same A.F.has this
theorem At.s10 {h0 g : Heap} {n0 m d : Nat} {w : DW} (A : At h0 n0 g m d w) (hp : w.pend.length < 1000000) (ho : w.off = false) (z : Bool) (keep : List Bool) (torn : Int) : ResOk Tryd.prog 16 [.p d 0, .ro z (bools keep) keep.length, .i .i64 torn] g (.wide fun k => (.tup [], swap (w.cont d) ((w.crash keep torn (k + w.pend.length)).cont d), k + w.pend.length + 1)) :=
  fun n => c10 ⟨A.ok.n0, A.ok.pe⟩ A.F.has ho (by omega) z keep torn DB ok_DB n
theorem At.s10o {h0 g : Heap} {n0 m d : Nat} {w : DW} (A : At h0 n0 g m d w) (ho : w.off = true) (k : AV) (torn : Int) : ResOk Tryd.prog 16 [.p d 0, k, .i .i64 torn] g (.pure (.tup [])) :=
  fun n => c10off (pd := w.pd) (tr := w.tr) (by have := A.F.hd; simp only [DW.rowD, ho] at this; exact this) DB ok_DB n
theorem At.s16 {h0 g : Heap} {n0 m d : Nat} {w : DW} (A : At h0 n0 g m d w) (hp : w.pend.length < 1000000) : ResOk Tryd.prog 37 [.p d 0] g (.wide fun k => (.i .i64 (w.sync k).1, swap (w.cont d) ((w.sync k).2.1.cont d), (w.sync k).2.2)) :=
  fun n => c16 A.ok A.F.has (by omega) n
theorem At.s16o {h0 g : Heap} {n0 m d : Nat} {w : DW} (A : At h0 n0 g m d w) (hp : w.pend.length < 1000000) (ho : w.off = true) : ResOk Tryd.prog 37 [.p d 0] g (.pure (.i .i64 14)) := fun n => by
  have := c16 A.ok A.F.has (by omega) n
  have e : w.sync n = (14, w, n) := if_pos ho
  rw [e] at this
  exact DCalls.same A.F.has this
theorem At.s13 {h0 g : Heap} {n0 m d : Nat} {w : DW} (A : At h0 n0 g m d w) : ResOk Tryd.prog 17 [.p d 0] g (.wide fun k => (.tup [], swap (w.cont d) (w.start.cont d), k)) :=
  fun n => c13 A.F.has n
theorem At.s17 {h0 g : Heap} {n0 m d : Nat} {w : DW} (A : At h0 n0 g m d w) (k : Int) {x : AV} {z : Bool} {keep : List Bool} (hl : keep.length ≤ 1000000) (hx : ShowsK g (w.cont d).keys x z keep) (torn : Int) : ResOk Tryd.prog 20 [.p d 0, .i .i64 k, x, .i .i64 torn] g (.wide fun n => (.tup [], swap (w.cont d) ((w.arm n k z keep torn).1.cont d), (w.arm n k z keep torn).2)) :=
  fun n => c17 A.ok A.F.has k hl hx torn n
theorem At.s11 {h0 g : Heap} {n0 m d : Nat} {w : DW} (A : At h0 n0 g m d w) (i : Int) : ResOk Tryd.prog 30 [.p d 0, .i .i64 i] g (.pure (.tup [(w.read i).1, .i .i64 (w.read i).2])) := fun n => c11 A.ok A.F.has i n
/-- One call more, known here. -/
theorem sum_here {S : Sums} (hS : SumOk Tryd.prog S) {f : FuncId} {args : List AV} {g : Heap} {r : Res} (hr : ResOk Tryd.prog f args g r) : ∃ S2, SumOk Tryd.prog S2 ∧ S2 f args g = r ∧ ∀ f', f' ≠ f → S2 f' = S f' :=
  ⟨_, hS.loc hr, Sums.loc_at, fun f' hf => by funext a k; exact Sums.loc_ne hf⟩

end Go.Proofs.YtepfknnffooaiaaDoor
