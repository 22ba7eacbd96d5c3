import Derived.Test.YtepfknnffooaiaaDkR8

namespace Go.Proofs.Ytepfknnffooaiaa
open Go.Av
set_option maxRecDepth 100000
set_option maxHeartbeats 1000000
set_option linter.unusedSimpArgs false
set_option linter.unusedVariables false
attribute [local push_cast] stepE callR resE aeff aev ofC ofC1 put_at Av.put_none inTmps List.getD_cons_zero List.getD_cons_succ AV.boxable if_true if_false AV.cells aload place app_cons app_nil upd_same Av.part abin aconv aindexAddr fillA splice_one abuiltin alen amax amin aun aindex Option.map_some Option.isSome_some List.map_cons List.map_nil List.nil_append List.append_nil List.cons_append Nat.le_refl Nat.zero_add Nat.add_zero List.length_cons List.length_nil List.drop_succ_cons List.drop_zero List.take_succ_cons List.take_zero beq_self_eq_true bne_self_eq_false Bool.not_true Bool.not_false List.set_cons_zero List.set_cons_succ Bool.false_eq_true IntWalk.i64_in decide_true decide_false Int.toNat_zero and_self and_true true_and List.getElem?_cons_zero List.getElem?_cons_succ aappend aapp view Bool.and_true Bool.true_and Nat.mul_one Option.map_none aslice asliceB nilOp Int.toNat_natCast und_30 agT_3 szT_3 kiT_3 agT_4 szT_4 kiT_4 agT_5 szT_5 kiT_5 agT_25 szT_25 kiT_25 agT_28 szT_28 kiT_28 agT_22 szT_22 kiT_22 agT_23 szT_23 kiT_23 agT_30 szT_30 kiT_30 agT_37 szT_37 kiT_37 agT_38 szT_38 kiT_38 agT_52 szT_52 kiT_52 agT_53 szT_53 kiT_53 agT_24 szT_24 kiT_24 agT_54 szT_54 kiT_54 agT_47 szT_47 kiT_47 slT_22 slT_23 slT_30 slT_37 slT_38 slT_52 slT_53 zeT_3 zeT_4 zeT_5 zeT_30 flT_56_0 flT_56_1 flT_56_2 flT_56_3 flT_56_4 agT_56 szT_56 buT_56 zeT_56 flT_58_0 flT_58_1 agT_58 szT_58 buT_58 zeT_58 flT_62_0 flT_62_1 agT_62 szT_62 buT_62 zeT_62 flT_65_0 flT_65_1 flT_65_2 agT_65 szT_65 buT_65 zeT_65 flT_42_0 flT_42_1 flT_42_2 flT_42_3 flT_42_4 flT_42_5 agT_42 szT_42 buT_42 zeT_42 flT_68_0 flT_68_1 flT_68_2 flT_68_3 flT_68_4 flT_68_5 flT_68_6 agT_68 szT_68 buT_68 zeT_68 ptT_24 ptT_54 ptT_47 und_30 agT_66 szT_66 kiT_66 slT_66 flT_73_0 flT_73_1 agT_73 szT_73 buT_73 zeT_73 

theorem len_trips (w : DW) (n : Nat) : (w.trips n).2.1.safe.length = w.safe.length ∧ (w.trips n).2.1.pend.length ≤ w.pend.length := by
  unfold DW.trips
  split
  · exact ⟨rfl, Nat.le_refl _⟩
  · split
    · exact ⟨crashN_len _, Nat.zero_le _⟩
    · exact ⟨rfl, Nat.le_refl _⟩
theorem len_sync (w : DW) (n : Nat) : (w.sync n).2.1.safe.length = w.safe.length ∧ (w.sync n).2.1.pend.length ≤ w.pend.length := by
  obtain ⟨h1, h2⟩ := len_trips w n
  unfold DW.sync
  split
  · exact ⟨rfl, Nat.le_refl _⟩
  · split
    · exact ⟨h1, h2⟩
    · exact ⟨(syncN_len _).trans h1, Nat.zero_le _⟩
theorem len_write (w : DW) (n : Nat) (i : Int) (b : List UInt8) : (w.write n i b).2.1.safe.length = w.safe.length ∧ (w.write n i b).2.1.pend.length ≤ w.pend.length + 1 := by
  unfold DW.write
  split
  · exact ⟨rfl, Nat.le_succ _⟩
  · split
    · exact ⟨rfl, Nat.le_succ _⟩
    · obtain ⟨h1, h2⟩ := len_trips (w.wrote (n + 1) i.toNat b) (n + 2)
      refine ⟨h1, Nat.le_trans h2 ?_⟩
      show (w.pend ++ [_]).length ≤ _
      simp
theorem len_arm (w : DW) (n : Nat) (k : Int) (z : Bool) (keep : List Bool) (torn : Int) : (w.arm n k z keep torn).1.safe.length = w.safe.length ∧ (w.arm n k z keep torn).1.pend.length ≤ w.pend.length := by
  unfold DW.arm
  split <;> exact ⟨rfl, Nat.le_refl _⟩
theorem frz_row {h : Heap} {j sz len : Nat} {cs : List AV} (hj : h j = some (.cells cs)) (hl : cs.length = len * sz) : frz h 1 (.sl sz j 0 len) = .ro false cs len := by
  simp only [frz, hj]
  rw [if_pos (by omega), List.drop_zero, List.take_of_length_le (by omega)]
  congr 1
  exact List.map_id' cs
theorem Mem.setR {h0 g : Heap} {n0 m d rd : Nat} {w : DW} {r r' : RW} (M : Mem h0 n0 g m d rd w r) (ok : ROk r') (e1 : r'.jS = r.jS) (e2 : r'.jT = r.jT) (e3 : r'.jW = r.jW) (e4 : r'.S = r.S) (e5 : r'.T = r.T) (e6 : r'.W = r.W) : Mem h0 n0 (upd g rd (some (.cells r'.row))) m d rd w r' := by
  have hk : rd ∈ (r.cont rd).keys := RW.keys_iff.2 (.inl rfl)
  have hd : rd ∉ (w.cont d).keys := fun hc => M.dis rd hc hk
  have hlo := M.lo rd hk
  refine ⟨⟨M.A.ok, DFacts.of (M.A.F.has.upd hd _), M.A.lo, keepU hlo.1 M.A.fr, M.A.le⟩, ok, M.F.set e1 e2 e3 e4 e5 e6, fun j hj => M.lo j (RW.keys_eq e1 e2 e3 e6 hj), fun j hj hr => M.dis j hj (RW.keys_eq e1 e2 e3 e6 hr)⟩
theorem c20 {h0 g : Heap} {n0 m d rd : Nat} {w : DW} {r : RW} (M : Mem h0 n0 g m d rd w r) (H : Same w r) (hp : w.pend.length < 1000) (a : Act) (ha : a.Ok) (hb : a.B.b.length ≤ 200) (hk : a.keep.length ≤ 200) :
    DRel Try.prog 20 [.p d 0, .p rd 0, .agg (actC a)] g m (fun x g' m' => x = .b true ∧ ∃ w' r', Mem h0 n0 g' m' d rd w' r' ∧ Same w' r' ∧ w'.safe.length = w.safe.length ∧ w'.pend.length ≤ w.pend.length + 1) := by
  have hS := ok_DE
  refine DRel.of Try.func20 rfl (by decide) (Nat.le_of_ble_eq_true rfl) ?_
  have e0 : (actC a)[0]? = some (.i .i64 a.dO) := rfl
  have e1 : (actC a)[1]? = some (.i .i64 a.I) := rfl
  have e2 : (actC a)[2]? = some a.B.v := rfl
  have e3 : (actC a)[3]? = some (.b a.raw) := rfl
  have e4 : (actC a)[4]? = some a.k := rfl
  have e5 : (actC a)[5]? = some (.i .i64 a.torn) := rfl
  have e6 : (actC a).length = 6 := rfl
  refine AWp.seq ?_
  (refine aw_regionL hS (by kernel_rfl) ?_; repeat (first | apply vr0u | apply vr4 | apply b_tt | apply b_ff | apply b_tf | apply b_ft | apply b_no | exact isD.mk rfl | (apply eqG; (simp only [push_cast, ↓reduceIte, Nat.reduceEqDiff, Nat.reduceAdd, Nat.reduceLeDiff, Nat.reduceLT, Int.reduceLE, Int.reduceLT, Int.reduceAdd, Int.reduceSub, Int.reduceNeg, Int.reduceBEq, Int.reduceBNe, Int.reduceEq, Int.reduceGT, Int.reduceGE, Int.reduceMul, Int.reduceToNat, Nat.reduceMul, reduceCtorEq, e6] <;> rfl)) | exact (rfl : app (swap _ _) _ = _)))
  refine vr_nil (aw_then ?_)
  have M1 := M.new (some (.cells (actC a)))
  have X1 := Own.new M (actC a)
  obtain ⟨c, hcc, hc8⟩ := mod8 a.dO
  have x1 := X1.row
  refine AWp.cut (fun t' h' n' => t' 0 = .p d 0 ∧ t' 1 = .p rd 0 ∧ t' 5 = .p m 0 ∧ h' = upd g m (some (.cells (actC a))) ∧ n' = m + 1) ?_ ?_
  · refine AWp.cut (fun t' h' n' => t' 0 = .p d 0 ∧ t' 1 = .p rd 0 ∧ t' 5 = .p m 0 ∧ t' 21 = .i .u64 (c : Int) ∧ h' = upd g m (some (.cells (actC a))) ∧ n' = m + 1) ?_ ?_
    · skip
      (refine aw_regionL hS (by kernel_rfl) ?_; repeat (first | apply vr0u | apply vr4 | apply b_tt | apply b_ff | apply b_tf | apply b_ft | apply b_no | exact isD.mk rfl | (apply eqG; (simp only [push_cast, ↓reduceIte, Nat.reduceEqDiff, Nat.reduceAdd, Nat.reduceLeDiff, Nat.reduceLT, Int.reduceLE, Int.reduceLT, Int.reduceAdd, Int.reduceSub, Int.reduceNeg, Int.reduceBEq, Int.reduceBNe, Int.reduceEq, Int.reduceGT, Int.reduceGE, Int.reduceMul, Int.reduceToNat, Nat.reduceMul, reduceCtorEq, e0, e1, e2, e3, e4, e5, e6, hcc] <;> rfl)) | exact (rfl : app (swap _ _) _ = _)))
      exact vr_nil (aw_then ⟨by (simp only [push_cast, ↓reduceIte, Nat.reduceEqDiff, Nat.reduceAdd, Nat.reduceLeDiff, Nat.reduceLT, Int.reduceLE, Int.reduceLT, Int.reduceAdd, Int.reduceSub, Int.reduceNeg, Int.reduceBEq, Int.reduceBNe, Int.reduceEq, Int.reduceGT, Int.reduceGE, Int.reduceMul, Int.reduceToNat, Nat.reduceMul, reduceCtorEq, e0, e1, e2, e3, e4, e5, e6, hcc] <;> rfl), by (simp only [push_cast, ↓reduceIte, Nat.reduceEqDiff, Nat.reduceAdd, Nat.reduceLeDiff, Nat.reduceLT, Int.reduceLE, Int.reduceLT, Int.reduceAdd, Int.reduceSub, Int.reduceNeg, Int.reduceBEq, Int.reduceBNe, Int.reduceEq, Int.reduceGT, Int.reduceGE, Int.reduceMul, Int.reduceToNat, Nat.reduceMul, reduceCtorEq, e0, e1, e2, e3, e4, e5, e6, hcc] <;> rfl), by (simp only [push_cast, ↓reduceIte, Nat.reduceEqDiff, Nat.reduceAdd, Nat.reduceLeDiff, Nat.reduceLT, Int.reduceLE, Int.reduceLT, Int.reduceAdd, Int.reduceSub, Int.reduceNeg, Int.reduceBEq, Int.reduceBNe, Int.reduceEq, Int.reduceGT, Int.reduceGE, Int.reduceMul, Int.reduceToNat, Nat.reduceMul, reduceCtorEq, e0, e1, e2, e3, e4, e5, e6, hcc] <;> rfl), by (simp only [push_cast, ↓reduceIte, Nat.reduceEqDiff, Nat.reduceAdd, Nat.reduceLeDiff, Nat.reduceLT, Int.reduceLE, Int.reduceLT, Int.reduceAdd, Int.reduceSub, Int.reduceNeg, Int.reduceBEq, Int.reduceBNe, Int.reduceEq, Int.reduceGT, Int.reduceGE, Int.reduceMul, Int.reduceToNat, Nat.reduceMul, reduceCtorEq, e0, e1, e2, e3, e4, e5, e6, hcc] <;> rfl), rfl, rfl⟩)
    · rintro t' h' n' - ⟨t0, t1, t5, t21, rfl, rfl⟩
      refine AWp.block ?_
      rcases (show c = 3 ∨ c = 4 ∨ c = 5 ∨ c = 6 ∨ c = 7 ∨ c < 3 by omega) with hc8 | hc8 | hc8 | hc8 | hc8 | hc8
      · obtain rfl : c = 3 := hc8
        have t21 : t' 21 = .i .u64 3 := t21
        obtain ⟨S2, hS2, h16, n16⟩ := sum_here ok_DE (M1.A.s16 (by omega))
        have T2 := M1.A.tSync
        have M2 := M1.turnW T2
        obtain ⟨hs1, hs2⟩ := H.sync (m + 1)
        obtain ⟨S3, hS3, h27, n27⟩ := sum_here hS2 (f := 27) (args := [.p rd 0]) (g := app (swap (w.cont d) ((w.sync (m + 1)).2.1.cont d)) (upd g m (some (.cells (actC a))))) (r := .wide fun k => (.i .i64 r.sync.1, swap (r.cont rd) (r.sync.2.cont rd), k)) (fun k => c27 M2.ok M2.F.has k)
        have h16 : S3 16 [.p d 0] (upd g m (some (.cells (actC a)))) = .wide fun k => (.i .i64 (w.sync k).1, swap (w.cont d) ((w.sync k).2.1.cont d), (w.sync k).2.2) := by rw [n27 16 (by decide)]; exact h16
        have q1 : ((w.sync (m + 1)).1 == r.sync.1) = true := by rw [hs1]; simp
        obtain ⟨l1, l2⟩ := len_sync w (m + 1)
        refine AWp.seq ?_
        (refine aw_regionL hS (by kernel_rfl) ?_; repeat (first | apply vr0u | apply vr4 | apply b_tt | apply b_ff | apply b_tf | apply b_ft | apply b_no | exact isD.mk rfl | (apply eqG; (simp only [push_cast, ↓reduceIte, Nat.reduceEqDiff, Nat.reduceAdd, Nat.reduceLeDiff, Nat.reduceLT, Int.reduceLE, Int.reduceLT, Int.reduceAdd, Int.reduceSub, Int.reduceNeg, Int.reduceBEq, Int.reduceBNe, Int.reduceEq, Int.reduceGT, Int.reduceGE, Int.reduceMul, Int.reduceToNat, Nat.reduceMul, reduceCtorEq, t0, t1, t5, e0, e1, e2, e3, e4, e5, e6, t21, h16, h27, q1] <;> rfl)) | exact (rfl : app (swap _ _) _ = _)))
        refine vr_nil (aw_then ?_)
        refine aw_true (by (simp only [push_cast, ↓reduceIte, Nat.reduceEqDiff, Nat.reduceAdd, Nat.reduceLeDiff, Nat.reduceLT, Int.reduceLE, Int.reduceLT, Int.reduceAdd, Int.reduceSub, Int.reduceNeg, Int.reduceBEq, Int.reduceBNe, Int.reduceEq, Int.reduceGT, Int.reduceGE, Int.reduceMul, Int.reduceToNat, Nat.reduceMul, reduceCtorEq, t0, t1, t5, e0, e1, e2, e3, e4, e5, e6, t21, h16, h27, q1] <;> rfl)) ?_
        refine AWp.seq ?_
        (refine aw_regionL hS3 (by kernel_rfl) ?_; repeat (first | apply vr0u | apply vr4 | apply b_tt | apply b_ff | apply b_tf | apply b_ft | apply b_no | exact isD.mk rfl | (apply eqG; (simp only [push_cast, ↓reduceIte, Nat.reduceEqDiff, Nat.reduceAdd, Nat.reduceLeDiff, Nat.reduceLT, Int.reduceLE, Int.reduceLT, Int.reduceAdd, Int.reduceSub, Int.reduceNeg, Int.reduceBEq, Int.reduceBNe, Int.reduceEq, Int.reduceGT, Int.reduceGE, Int.reduceMul, Int.reduceToNat, Nat.reduceMul, reduceCtorEq, t0, t1, t5, e0, e1, e2, e3, e4, e5, e6, t21, h16, h27, q1] <;> rfl)) | exact (rfl : app (swap _ _) _ = _)))
        refine vr_nil (aw_then ?_)
        refine AWp.ret ?_
        exact ⟨.inr rfl, [.b true], by simp [Try.f20, resAll, resT]; (simp only [push_cast, ↓reduceIte, Nat.reduceEqDiff, Nat.reduceAdd, Nat.reduceLeDiff, Nat.reduceLT, Int.reduceLE, Int.reduceLT, Int.reduceAdd, Int.reduceSub, Int.reduceNeg, Int.reduceBEq, Int.reduceBNe, Int.reduceEq, Int.reduceGT, Int.reduceGE, Int.reduceMul, Int.reduceToNat, Nat.reduceMul, reduceCtorEq, t0, t1, t5, e0, e1, e2, e3, e4, e5, e6, t21, h16, h27, q1] <;> rfl), rfl, _, _, M2.turnR M2.tSync, hs2, l1, by omega⟩

      · obtain rfl : c = 4 := hc8
        have t21 : t' 21 = .i .u64 4 := t21
        refine AWp.seq ?_
        (refine aw_regionL hS (by kernel_rfl) ?_; repeat (first | apply vr0u | apply vr4 | apply b_tt | apply b_ff | apply b_tf | apply b_ft | apply b_no | exact isD.mk rfl | (apply eqG; (simp only [push_cast, ↓reduceIte, Nat.reduceEqDiff, Nat.reduceAdd, Nat.reduceLeDiff, Nat.reduceLT, Int.reduceLE, Int.reduceLT, Int.reduceAdd, Int.reduceSub, Int.reduceNeg, Int.reduceBEq, Int.reduceBNe, Int.reduceEq, Int.reduceGT, Int.reduceGE, Int.reduceMul, Int.reduceToNat, Nat.reduceMul, reduceCtorEq, t0, t1, t5, e0, e1, e2, e3, e4, e5, e6, t21] <;> rfl)) | exact (rfl : app (swap _ _) _ = _)))
        refine vr_nil (aw_then ?_)
        refine aw_false (by (simp only [push_cast, ↓reduceIte, Nat.reduceEqDiff, Nat.reduceAdd, Nat.reduceLeDiff, Nat.reduceLT, Int.reduceLE, Int.reduceLT, Int.reduceAdd, Int.reduceSub, Int.reduceNeg, Int.reduceBEq, Int.reduceBNe, Int.reduceEq, Int.reduceGT, Int.reduceGE, Int.reduceMul, Int.reduceToNat, Nat.reduceMul, reduceCtorEq, t0, t1, t5, e0, e1, e2, e3, e4, e5, e6, t21] <;> rfl)) ?_
        refine AWp.seq ?_
        (refine aw_regionL hS (by kernel_rfl) ?_; repeat (first | apply vr0u | apply vr4 | apply b_tt | apply b_ff | apply b_tf | apply b_ft | apply b_no | exact isD.mk rfl | (apply eqG; (simp only [push_cast, ↓reduceIte, Nat.reduceEqDiff, Nat.reduceAdd, Nat.reduceLeDiff, Nat.reduceLT, Int.reduceLE, Int.reduceLT, Int.reduceAdd, Int.reduceSub, Int.reduceNeg, Int.reduceBEq, Int.reduceBNe, Int.reduceEq, Int.reduceGT, Int.reduceGE, Int.reduceMul, Int.reduceToNat, Nat.reduceMul, reduceCtorEq, t0, t1, t5, e0, e1, e2, e3, e4, e5, e6, t21] <;> rfl)) | exact (rfl : app (swap _ _) _ = _)))
        refine vr_nil (aw_then ?_)
        refine aw_true (by (simp only [push_cast, ↓reduceIte, Nat.reduceEqDiff, Nat.reduceAdd, Nat.reduceLeDiff, Nat.reduceLT, Int.reduceLE, Int.reduceLT, Int.reduceAdd, Int.reduceSub, Int.reduceNeg, Int.reduceBEq, Int.reduceBNe, Int.reduceEq, Int.reduceGT, Int.reduceGE, Int.reduceMul, Int.reduceToNat, Nat.reduceMul, reduceCtorEq, t0, t1, t5, e0, e1, e2, e3, e4, e5, e6, t21] <;> rfl)) ?_
        by_cases hk0 : a.keep = []
        case pos =>
          have ek : a.k = .ro a.kz (bools []) ([] : List Bool).length := by unfold Act.k; rw [hk0]
          obtain ⟨S2, hS2, h28, n28⟩ := sum_pure ok_DE (c28 a.kz [] (by decide))
          rw [← ek] at h28
          refine AWp.seq ?_
          (refine aw_regionL hS2 (by kernel_rfl) ?_; repeat (first | apply vr0u | apply vr4 | apply b_tt | apply b_ff | apply b_tf | apply b_ft | apply b_no | exact isD.mk rfl | (apply eqG; (simp only [push_cast, ↓reduceIte, Nat.reduceEqDiff, Nat.reduceAdd, Nat.reduceLeDiff, Nat.reduceLT, Int.reduceLE, Int.reduceLT, Int.reduceAdd, Int.reduceSub, Int.reduceNeg, Int.reduceBEq, Int.reduceBNe, Int.reduceEq, Int.reduceGT, Int.reduceGE, Int.reduceMul, Int.reduceToNat, Nat.reduceMul, reduceCtorEq, t0, t1, t5, e0, e1, e2, e3, e4, e5, e6, h28] <;> rfl)) | exact (rfl : app (swap _ _) _ = _)))
          refine vr_nil (aw_then ?_)
          have h30 := c30 true a.kz [] [] (by decide) (by decide)
          rw [decide_eq_true rfl, ← ek] at h30
          obtain ⟨S3, hS3, h30, n30⟩ := sum_pure ok_DE h30
          have er : (([] : List Bool).isEmpty) = true := rfl
          have eb : bools [] = [] := rfl
          have ez : ([] : List Bool).length = 0 := rfl
          have h30 : ∀ g, S3 30 [.ro true [] 0, a.k] g = .pure (.b true) := h30
          cases hoff : w.off with
          | true =>
            have hdn : r.down = true := by rw [← H.off]; exact hoff
            obtain ⟨S4, hS4, h10, n10⟩ := sum_here hS3 (M1.A.s10o hoff (.ro true [] 0) a.torn)
            obtain ⟨S5, hS5, h29, n29⟩ := sum_here hS4 (f := 29) (args := [.p rd 0, a.k, .i .i64 a.torn]) (g := upd g m (some (.cells (actC a)))) (r := .pure (.tup [])) (fun k => c29off M1.F.has hdn a.k a.torn k)
            have h30 : ∀ g, S5 30 [.ro true [] 0, a.k] g = .pure (.b true) := fun g => by rw [n29 30 (by decide), n10 30 (by decide)]; exact h30 g
            have h10 : S5 10 [.p d 0, .ro true [] 0, .i .i64 a.torn] (upd g m (some (.cells (actC a)))) = .pure (.tup []) := by rw [n29 10 (by decide)]; exact h10
            refine AWp.seq ?_
            (refine aw_regionL hS5 (by kernel_rfl) ?_; repeat (first | apply vr0u | apply vr4 | apply b_tt | apply b_ff | apply b_tf | apply b_ft | apply b_no | exact isD.mk rfl | (apply eqG; (simp only [push_cast, ↓reduceIte, Nat.reduceEqDiff, Nat.reduceAdd, Nat.reduceLeDiff, Nat.reduceLT, Int.reduceLE, Int.reduceLT, Int.reduceAdd, Int.reduceSub, Int.reduceNeg, Int.reduceBEq, Int.reduceBNe, Int.reduceEq, Int.reduceGT, Int.reduceGE, Int.reduceMul, Int.reduceToNat, Nat.reduceMul, reduceCtorEq, t0, t1, t5, e0, e1, e2, e3, e4, e5, e6, er, eb, ez, h10, h29, h30] <;> rfl)) | exact (rfl : app (swap _ _) _ = _)))
            refine vr_nil (aw_then ?_)
            refine AWp.seq ?_
            (refine aw_regionL hS5 (by kernel_rfl) ?_; repeat (first | apply vr0u | apply vr4 | apply b_tt | apply b_ff | apply b_tf | apply b_ft | apply b_no | exact isD.mk rfl | (apply eqG; (simp only [push_cast, ↓reduceIte, Nat.reduceEqDiff, Nat.reduceAdd, Nat.reduceLeDiff, Nat.reduceLT, Int.reduceLE, Int.reduceLT, Int.reduceAdd, Int.reduceSub, Int.reduceNeg, Int.reduceBEq, Int.reduceBNe, Int.reduceEq, Int.reduceGT, Int.reduceGE, Int.reduceMul, Int.reduceToNat, Nat.reduceMul, reduceCtorEq, t0, t1, t5, e0, e1, e2, e3, e4, e5, e6, er, eb, ez, h10, h29, h30] <;> rfl)) | exact (rfl : app (swap _ _) _ = _)))
            refine vr_nil (aw_then ?_)
            refine AWp.seq ?_
            (refine aw_regionL hS5 (by kernel_rfl) ?_; repeat (first | apply vr0u | apply vr4 | apply b_tt | apply b_ff | apply b_tf | apply b_ft | apply b_no | exact isD.mk rfl | (apply eqG; (simp only [push_cast, ↓reduceIte, Nat.reduceEqDiff, Nat.reduceAdd, Nat.reduceLeDiff, Nat.reduceLT, Int.reduceLE, Int.reduceLT, Int.reduceAdd, Int.reduceSub, Int.reduceNeg, Int.reduceBEq, Int.reduceBNe, Int.reduceEq, Int.reduceGT, Int.reduceGE, Int.reduceMul, Int.reduceToNat, Nat.reduceMul, reduceCtorEq, t0, t1, t5, e0, e1, e2, e3, e4, e5, e6, er, eb, ez, h10, h29, h30] <;> rfl)) | exact (rfl : app (swap _ _) _ = _)))
            refine vr_nil (aw_then ?_)
            refine AWp.ret ?_
            exact ⟨.inr rfl, [.b true], by simp [Try.f20, resAll, resT]; (simp only [push_cast, ↓reduceIte, Nat.reduceEqDiff, Nat.reduceAdd, Nat.reduceLeDiff, Nat.reduceLT, Int.reduceLE, Int.reduceLT, Int.reduceAdd, Int.reduceSub, Int.reduceNeg, Int.reduceBEq, Int.reduceBNe, Int.reduceEq, Int.reduceGT, Int.reduceGE, Int.reduceMul, Int.reduceToNat, Nat.reduceMul, reduceCtorEq, t0, t1, t5, e0, e1, e2, e3, e4, e5, e6, er, eb, ez, h10, h29, h30] <;> rfl), rfl, _, _, M1, H, rfl, by omega⟩

          | false =>
            have hdn : r.down = false := by rw [← H.off]; exact hoff
            have T2 := M1.A.tCrash [] a.torn
            have M2 := M1.turnW T2
            have X2 := X1.turnW T2
            have M3 := M2.turnR (M2.tCrash [] a.torn)
            have X3 := X2.turnR (M2.tCrash [] a.torn)
            obtain ⟨S4, hS4, h10, n10⟩ := sum_here hS3 (M1.A.s10 (by omega) hoff true [] a.torn)
            obtain ⟨S5, hS5, h29, n29⟩ := sum_here hS4 (f := 29) (args := [.p rd 0, .ro a.kz (bools []) ([] : List Bool).length, .i .i64 a.torn]) (g := app (swap (w.cont d) ((w.crash [] a.torn (m + 1 + w.pend.length)).cont d)) (upd g m (some (.cells (actC a))))) (r := .wide fun k => (.tup [], swap (r.cont rd) ((r.crash [] a.torn).cont rd), k)) (fun k => c29 M2.ok M2.F.has hdn a.kz [] a.torn k)
            rw [← ek] at h29
            have h30 : ∀ g, S5 30 [.ro true [] 0, a.k] g = .pure (.b true) := fun g => by rw [n29 30 (by decide), n10 30 (by decide)]; exact h30 g
            have h10 : S5 10 [.p d 0, .ro true [] 0, .i .i64 a.torn] (upd g m (some (.cells (actC a)))) = .wide fun k => (.tup [], swap (w.cont d) ((w.crash [] a.torn (k + w.pend.length)).cont d), k + w.pend.length + 1) := by rw [n29 10 (by decide)]; exact h10
            have x2 := X2.row
            have x3 := X3.row
            refine AWp.seq ?_
            (refine aw_regionL hS5 (by kernel_rfl) ?_; repeat (first | apply vr0u | apply vr4 | apply b_tt | apply b_ff | apply b_tf | apply b_ft | apply b_no | exact isD.mk rfl | (apply eqG; (simp only [push_cast, ↓reduceIte, Nat.reduceEqDiff, Nat.reduceAdd, Nat.reduceLeDiff, Nat.reduceLT, Int.reduceLE, Int.reduceLT, Int.reduceAdd, Int.reduceSub, Int.reduceNeg, Int.reduceBEq, Int.reduceBNe, Int.reduceEq, Int.reduceGT, Int.reduceGE, Int.reduceMul, Int.reduceToNat, Nat.reduceMul, reduceCtorEq, t0, t1, t5, e0, e1, e2, e3, e4, e5, e6, er, eb, ez, h10, h29, h30, x2, x3] <;> rfl)) | exact (rfl : app (swap _ _) _ = _)))
            refine vr_nil (aw_then ?_)
            refine AWp.seq ?_
            (refine aw_regionL hS5 (by kernel_rfl) ?_; repeat (first | apply vr0u | apply vr4 | apply b_tt | apply b_ff | apply b_tf | apply b_ft | apply b_no | exact isD.mk rfl | (apply eqG; (simp only [push_cast, ↓reduceIte, Nat.reduceEqDiff, Nat.reduceAdd, Nat.reduceLeDiff, Nat.reduceLT, Int.reduceLE, Int.reduceLT, Int.reduceAdd, Int.reduceSub, Int.reduceNeg, Int.reduceBEq, Int.reduceBNe, Int.reduceEq, Int.reduceGT, Int.reduceGE, Int.reduceMul, Int.reduceToNat, Nat.reduceMul, reduceCtorEq, t0, t1, t5, e0, e1, e2, e3, e4, e5, e6, er, eb, ez, h10, h29, h30, x2, x3] <;> rfl)) | exact (rfl : app (swap _ _) _ = _)))
            refine vr_nil (aw_then ?_)
            refine AWp.seq ?_
            (refine aw_regionL hS5 (by kernel_rfl) ?_; repeat (first | apply vr0u | apply vr4 | apply b_tt | apply b_ff | apply b_tf | apply b_ft | apply b_no | exact isD.mk rfl | (apply eqG; (simp only [push_cast, ↓reduceIte, Nat.reduceEqDiff, Nat.reduceAdd, Nat.reduceLeDiff, Nat.reduceLT, Int.reduceLE, Int.reduceLT, Int.reduceAdd, Int.reduceSub, Int.reduceNeg, Int.reduceBEq, Int.reduceBNe, Int.reduceEq, Int.reduceGT, Int.reduceGE, Int.reduceMul, Int.reduceToNat, Nat.reduceMul, reduceCtorEq, t0, t1, t5, e0, e1, e2, e3, e4, e5, e6, er, eb, ez, h10, h29, h30, x2, x3] <;> rfl)) | exact (rfl : app (swap _ _) _ = _)))
            refine vr_nil (aw_then ?_)
            refine AWp.ret ?_
            exact ⟨.inr rfl, [.b true], by simp [Try.f20, resAll, resT]; (simp only [push_cast, ↓reduceIte, Nat.reduceEqDiff, Nat.reduceAdd, Nat.reduceLeDiff, Nat.reduceLT, Int.reduceLE, Int.reduceLT, Int.reduceAdd, Int.reduceSub, Int.reduceNeg, Int.reduceBEq, Int.reduceBNe, Int.reduceEq, Int.reduceGT, Int.reduceGE, Int.reduceMul, Int.reduceToNat, Nat.reduceMul, reduceCtorEq, t0, t1, t5, e0, e1, e2, e3, e4, e5, e6, er, eb, ez, h10, h29, h30, x2, x3] <;> rfl), rfl, _, _, M3, H.crash _ _ _, by show (crashN _ _ _ _ _).length = _; exact crashN_len _, Nat.zero_le _⟩

        case neg =>
          obtain ⟨S2, hS2, h28, n28⟩ := sum_here ok_DE (f := 28) (args := [a.k]) (g := upd g m (some (.cells (actC a)))) (r := .fresh 1 a.keep.length (bools a.keep)) ⟨free_bools _, fun k => c28f a.kz a.keep (by omega) hk0 k⟩
          refine AWp.seq ?_
          (refine aw_regionL hS2 (by kernel_rfl) ?_; repeat (first | apply vr0u | apply vr4 | apply b_tt | apply b_ff | apply b_tf | apply b_ft | apply b_no | exact isD.mk rfl | (apply eqG; (simp only [push_cast, ↓reduceIte, Nat.reduceEqDiff, Nat.reduceAdd, Nat.reduceLeDiff, Nat.reduceLT, Int.reduceLE, Int.reduceLT, Int.reduceAdd, Int.reduceSub, Int.reduceNeg, Int.reduceBEq, Int.reduceBNe, Int.reduceEq, Int.reduceGT, Int.reduceGE, Int.reduceMul, Int.reduceToNat, Nat.reduceMul, reduceCtorEq, t0, t1, t5, e0, e1, e2, e3, e4, e5, e6, h28] <;> rfl)) | exact (rfl : app (swap _ _) _ = _)))
          refine vr_nil (aw_then ?_)
          have M2 := M1.new (some (.cells (bools a.keep)))
          have X2 := X1.more (some (.cells (bools a.keep)))
          have Y2 := Own.new M1 (bools a.keep)
          have x2 := X2.row
          generalize upd (upd g m (some (.cells (actC a)))) (m + 1) (some (.cells (bools a.keep))) = g2 at M2 X2 Y2 x2 ⊢
          have h30 : ∀ {h : Heap}, h (m + 1) = some (.cells (bools a.keep)) → ∀ n, DCalls Try.prog 30 [.sl 1 (m + 1) 0 a.keep.length, a.k] h n (.b true) [] n := fun {h} hj n => by
            refine DCalls.keep (k := 1) ?_ rfl
            simp only [List.map_cons, List.map_nil, frz_row hj (show (bools a.keep).length = a.keep.length * 1 by rw [len_bools, Nat.mul_one])]
            have := c30 false a.kz a.keep a.keep (by omega) (by omega) (iters h) n
            rw [decide_eq_true rfl] at this
            exact this
          cases hoff : w.off with
          | true =>
            have hdn : r.down = true := by rw [← H.off]; exact hoff
            obtain ⟨S4, hS4, h10, n10⟩ := sum_here ok_DE (M2.A.s10o hoff (.sl 1 (m + 1) 0 a.keep.length) a.torn)
            obtain ⟨S5, hS5, h29, n29⟩ := sum_here hS4 (f := 29) (args := [.p rd 0, a.k, .i .i64 a.torn]) (g := g2) (r := .pure (.tup [])) (fun k => c29off M2.F.has hdn a.k a.torn k)
            obtain ⟨S6, hS6, h30, n30⟩ := sum_here hS5 (f := 30) (args := [.sl 1 (m + 1) 0 a.keep.length, a.k]) (g := g2) (r := .pure (.b true)) (h30 Y2.row)
            have h10 : S6 10 [.p d 0, .sl 1 (m + 1) 0 a.keep.length, .i .i64 a.torn] g2 = .pure (.tup []) := by rw [n30 10 (by decide), n29 10 (by decide)]; exact h10
            have h29 : S6 29 [.p rd 0, a.k, .i .i64 a.torn] g2 = .pure (.tup []) := by rw [n30 29 (by decide)]; exact h29
            refine AWp.seq ?_
            (refine aw_regionL hS6 (by kernel_rfl) ?_; repeat (first | apply vr0u | apply vr4 | apply b_tt | apply b_ff | apply b_tf | apply b_ft | apply b_no | exact isD.mk rfl | (apply eqG; (simp only [push_cast, ↓reduceIte, Nat.reduceEqDiff, Nat.reduceAdd, Nat.reduceLeDiff, Nat.reduceLT, Int.reduceLE, Int.reduceLT, Int.reduceAdd, Int.reduceSub, Int.reduceNeg, Int.reduceBEq, Int.reduceBNe, Int.reduceEq, Int.reduceGT, Int.reduceGE, Int.reduceMul, Int.reduceToNat, Nat.reduceMul, reduceCtorEq, t0, t1, t5, e0, e1, e2, e3, e4, e5, e6, x2, h10, h29, h30] <;> rfl)) | exact (rfl : app (swap _ _) _ = _)))
            refine vr_nil (aw_then ?_)
            refine AWp.seq ?_
            (refine aw_regionL hS6 (by kernel_rfl) ?_; repeat (first | apply vr0u | apply vr4 | apply b_tt | apply b_ff | apply b_tf | apply b_ft | apply b_no | exact isD.mk rfl | (apply eqG; (simp only [push_cast, ↓reduceIte, Nat.reduceEqDiff, Nat.reduceAdd, Nat.reduceLeDiff, Nat.reduceLT, Int.reduceLE, Int.reduceLT, Int.reduceAdd, Int.reduceSub, Int.reduceNeg, Int.reduceBEq, Int.reduceBNe, Int.reduceEq, Int.reduceGT, Int.reduceGE, Int.reduceMul, Int.reduceToNat, Nat.reduceMul, reduceCtorEq, t0, t1, t5, e0, e1, e2, e3, e4, e5, e6, x2, h10, h29, h30] <;> rfl)) | exact (rfl : app (swap _ _) _ = _)))
            refine vr_nil (aw_then ?_)
            refine AWp.seq ?_
            (refine aw_regionL hS6 (by kernel_rfl) ?_; repeat (first | apply vr0u | apply vr4 | apply b_tt | apply b_ff | apply b_tf | apply b_ft | apply b_no | exact isD.mk rfl | (apply eqG; (simp only [push_cast, ↓reduceIte, Nat.reduceEqDiff, Nat.reduceAdd, Nat.reduceLeDiff, Nat.reduceLT, Int.reduceLE, Int.reduceLT, Int.reduceAdd, Int.reduceSub, Int.reduceNeg, Int.reduceBEq, Int.reduceBNe, Int.reduceEq, Int.reduceGT, Int.reduceGE, Int.reduceMul, Int.reduceToNat, Nat.reduceMul, reduceCtorEq, t0, t1, t5, e0, e1, e2, e3, e4, e5, e6, x2, h10, h29, h30] <;> rfl)) | exact (rfl : app (swap _ _) _ = _)))
            refine vr_nil (aw_then ?_)
            refine AWp.ret ?_
            exact ⟨.inr rfl, [.b true], by simp [Try.f20, resAll, resT]; (simp only [push_cast, ↓reduceIte, Nat.reduceEqDiff, Nat.reduceAdd, Nat.reduceLeDiff, Nat.reduceLT, Int.reduceLE, Int.reduceLT, Int.reduceAdd, Int.reduceSub, Int.reduceNeg, Int.reduceBEq, Int.reduceBNe, Int.reduceEq, Int.reduceGT, Int.reduceGE, Int.reduceMul, Int.reduceToNat, Nat.reduceMul, reduceCtorEq, t0, t1, t5, e0, e1, e2, e3, e4, e5, e6, x2, h10, h29, h30] <;> rfl), rfl, _, _, M2, H, rfl, by omega⟩

          | false =>
            have hdn : r.down = false := by rw [← H.off]; exact hoff
            have T3 := M2.A.tCrash a.keep a.torn
            have M3 := M2.turnW T3
            have X3 := X2.turnW T3
            have Y3 := Y2.turnW T3
            have T4 := M3.tCrash a.keep a.torn
            have M4 := M3.turnR T4
            have X4 := X3.turnR T4
            have Y4 := Y3.turnR T4
            obtain ⟨S4, hS4, h10, n10⟩ := sum_here ok_DE (f := 10) (args := [.p d 0, .sl 1 (m + 1) 0 a.keep.length, .i .i64 a.torn]) (g := g2) (r := .wide fun k => (.tup [], swap (w.cont d) ((w.crash a.keep a.torn (k + w.pend.length)).cont d), k + w.pend.length + 1)) (fun k => c10s ⟨M2.A.ok.n0, M2.A.ok.pe⟩ M2.A.F.has hoff (by omega) a.keep Y2.row Y2.ow a.torn DB ok_DB k)
            obtain ⟨S5, hS5, h29, n29⟩ := sum_here hS4 (f := 29) (args := [.p rd 0, a.k, .i .i64 a.torn]) (g := app (swap (w.cont d) ((w.crash a.keep a.torn (m + 1 + 1 + w.pend.length)).cont d)) g2) (r := .wide fun k => (.tup [], swap (r.cont rd) ((r.crash a.keep a.torn).cont rd), k)) (fun k => c29 M3.ok M3.F.has hdn a.kz a.keep a.torn k)
            obtain ⟨S6, hS6, h30, n30⟩ := sum_here hS5 (f := 30) (args := [.sl 1 (m + 1) 0 a.keep.length, a.k]) (g := app (swap (r.cont rd) ((r.crash a.keep a.torn).cont rd)) (app (swap (w.cont d) ((w.crash a.keep a.torn (m + 1 + 1 + w.pend.length)).cont d)) g2)) (r := .pure (.b true)) (h30 Y4.row)
            have h10 : S6 10 [.p d 0, .sl 1 (m + 1) 0 a.keep.length, .i .i64 a.torn] g2 = .wide fun k => (.tup [], swap (w.cont d) ((w.crash a.keep a.torn (k + w.pend.length)).cont d), k + w.pend.length + 1) := by rw [n30 10 (by decide), n29 10 (by decide)]; exact h10
            have h29 : S6 29 [.p rd 0, a.k, .i .i64 a.torn] (app (swap (w.cont d) ((w.crash a.keep a.torn (m + 1 + 1 + w.pend.length)).cont d)) g2) = .wide fun k => (.tup [], swap (r.cont rd) ((r.crash a.keep a.torn).cont rd), k) := by rw [n30 29 (by decide)]; exact h29
            have x3 := X3.row
            have x4 := X4.row
            refine AWp.seq ?_
            (refine aw_regionL hS6 (by kernel_rfl) ?_; repeat (first | apply vr0u | apply vr4 | apply b_tt | apply b_ff | apply b_tf | apply b_ft | apply b_no | exact isD.mk rfl | (apply eqG; (simp only [push_cast, ↓reduceIte, Nat.reduceEqDiff, Nat.reduceAdd, Nat.reduceLeDiff, Nat.reduceLT, Int.reduceLE, Int.reduceLT, Int.reduceAdd, Int.reduceSub, Int.reduceNeg, Int.reduceBEq, Int.reduceBNe, Int.reduceEq, Int.reduceGT, Int.reduceGE, Int.reduceMul, Int.reduceToNat, Nat.reduceMul, reduceCtorEq, t0, t1, t5, e0, e1, e2, e3, e4, e5, e6, x2, x3, x4, h10, h29, h30] <;> rfl)) | exact (rfl : app (swap _ _) _ = _)))
            refine vr_nil (aw_then ?_)
            refine AWp.seq ?_
            (refine aw_regionL hS6 (by kernel_rfl) ?_; repeat (first | apply vr0u | apply vr4 | apply b_tt | apply b_ff | apply b_tf | apply b_ft | apply b_no | exact isD.mk rfl | (apply eqG; (simp only [push_cast, ↓reduceIte, Nat.reduceEqDiff, Nat.reduceAdd, Nat.reduceLeDiff, Nat.reduceLT, Int.reduceLE, Int.reduceLT, Int.reduceAdd, Int.reduceSub, Int.reduceNeg, Int.reduceBEq, Int.reduceBNe, Int.reduceEq, Int.reduceGT, Int.reduceGE, Int.reduceMul, Int.reduceToNat, Nat.reduceMul, reduceCtorEq, t0, t1, t5, e0, e1, e2, e3, e4, e5, e6, x2, x3, x4, h10, h29, h30] <;> rfl)) | exact (rfl : app (swap _ _) _ = _)))
            refine vr_nil (aw_then ?_)
            refine AWp.seq ?_
            (refine aw_regionL hS6 (by kernel_rfl) ?_; repeat (first | apply vr0u | apply vr4 | apply b_tt | apply b_ff | apply b_tf | apply b_ft | apply b_no | exact isD.mk rfl | (apply eqG; (simp only [push_cast, ↓reduceIte, Nat.reduceEqDiff, Nat.reduceAdd, Nat.reduceLeDiff, Nat.reduceLT, Int.reduceLE, Int.reduceLT, Int.reduceAdd, Int.reduceSub, Int.reduceNeg, Int.reduceBEq, Int.reduceBNe, Int.reduceEq, Int.reduceGT, Int.reduceGE, Int.reduceMul, Int.reduceToNat, Nat.reduceMul, reduceCtorEq, t0, t1, t5, e0, e1, e2, e3, e4, e5, e6, x2, x3, x4, h10, h29, h30] <;> rfl)) | exact (rfl : app (swap _ _) _ = _)))
            refine vr_nil (aw_then ?_)
            refine AWp.ret ?_
            exact ⟨.inr rfl, [.b true], by simp [Try.f20, resAll, resT]; (simp only [push_cast, ↓reduceIte, Nat.reduceEqDiff, Nat.reduceAdd, Nat.reduceLeDiff, Nat.reduceLT, Int.reduceLE, Int.reduceLT, Int.reduceAdd, Int.reduceSub, Int.reduceNeg, Int.reduceBEq, Int.reduceBNe, Int.reduceEq, Int.reduceGT, Int.reduceGE, Int.reduceMul, Int.reduceToNat, Nat.reduceMul, reduceCtorEq, t0, t1, t5, e0, e1, e2, e3, e4, e5, e6, x2, x3, x4, h10, h29, h30] <;> rfl), rfl, _, _, M4, H.crash _ _ _, by show (crashN _ _ _ _ _).length = _; exact crashN_len _, Nat.zero_le _⟩

      · obtain rfl : c = 5 := hc8
        have t21 : t' 21 = .i .u64 5 := t21
        obtain ⟨S2, hS2, h13, n13⟩ := sum_here ok_DE M1.A.s13
        have M2 := M1.turnW M1.A.tStart
        have M3 := M2.setR (r' := { r with down := false }) ⟨M.ok.len, M.ok.n0, M.ok.we, M.ok.s1, M.ok.ar, M.ok.kl, M.ok.wl⟩ rfl rfl rfl rfl rfl rfl
        have x2 := M2.F.hd
        simp only [RW.row] at x2
        refine AWp.seq ?_
        (refine aw_regionL hS (by kernel_rfl) ?_; repeat (first | apply vr0u | apply vr4 | apply b_tt | apply b_ff | apply b_tf | apply b_ft | apply b_no | exact isD.mk rfl | (apply eqG; (simp only [push_cast, ↓reduceIte, Nat.reduceEqDiff, Nat.reduceAdd, Nat.reduceLeDiff, Nat.reduceLT, Int.reduceLE, Int.reduceLT, Int.reduceAdd, Int.reduceSub, Int.reduceNeg, Int.reduceBEq, Int.reduceBNe, Int.reduceEq, Int.reduceGT, Int.reduceGE, Int.reduceMul, Int.reduceToNat, Nat.reduceMul, reduceCtorEq, t0, t1, t5, e0, e1, e2, e3, e4, e5, e6, t21, h13, x2] <;> rfl)) | exact (rfl : app (swap _ _) _ = _)))
        refine vr_nil (aw_then ?_)
        refine aw_false (by (simp only [push_cast, ↓reduceIte, Nat.reduceEqDiff, Nat.reduceAdd, Nat.reduceLeDiff, Nat.reduceLT, Int.reduceLE, Int.reduceLT, Int.reduceAdd, Int.reduceSub, Int.reduceNeg, Int.reduceBEq, Int.reduceBNe, Int.reduceEq, Int.reduceGT, Int.reduceGE, Int.reduceMul, Int.reduceToNat, Nat.reduceMul, reduceCtorEq, t0, t1, t5, e0, e1, e2, e3, e4, e5, e6, t21, h13, x2] <;> rfl)) ?_
        refine AWp.seq ?_
        (refine aw_regionL hS (by kernel_rfl) ?_; repeat (first | apply vr0u | apply vr4 | apply b_tt | apply b_ff | apply b_tf | apply b_ft | apply b_no | exact isD.mk rfl | (apply eqG; (simp only [push_cast, ↓reduceIte, Nat.reduceEqDiff, Nat.reduceAdd, Nat.reduceLeDiff, Nat.reduceLT, Int.reduceLE, Int.reduceLT, Int.reduceAdd, Int.reduceSub, Int.reduceNeg, Int.reduceBEq, Int.reduceBNe, Int.reduceEq, Int.reduceGT, Int.reduceGE, Int.reduceMul, Int.reduceToNat, Nat.reduceMul, reduceCtorEq, t0, t1, t5, e0, e1, e2, e3, e4, e5, e6, t21, h13, x2] <;> rfl)) | exact (rfl : app (swap _ _) _ = _)))
        refine vr_nil (aw_then ?_)
        refine aw_false (by (simp only [push_cast, ↓reduceIte, Nat.reduceEqDiff, Nat.reduceAdd, Nat.reduceLeDiff, Nat.reduceLT, Int.reduceLE, Int.reduceLT, Int.reduceAdd, Int.reduceSub, Int.reduceNeg, Int.reduceBEq, Int.reduceBNe, Int.reduceEq, Int.reduceGT, Int.reduceGE, Int.reduceMul, Int.reduceToNat, Nat.reduceMul, reduceCtorEq, t0, t1, t5, e0, e1, e2, e3, e4, e5, e6, t21, h13, x2] <;> rfl)) ?_
        refine AWp.seq ?_
        (refine aw_regionL hS (by kernel_rfl) ?_; repeat (first | apply vr0u | apply vr4 | apply b_tt | apply b_ff | apply b_tf | apply b_ft | apply b_no | exact isD.mk rfl | (apply eqG; (simp only [push_cast, ↓reduceIte, Nat.reduceEqDiff, Nat.reduceAdd, Nat.reduceLeDiff, Nat.reduceLT, Int.reduceLE, Int.reduceLT, Int.reduceAdd, Int.reduceSub, Int.reduceNeg, Int.reduceBEq, Int.reduceBNe, Int.reduceEq, Int.reduceGT, Int.reduceGE, Int.reduceMul, Int.reduceToNat, Nat.reduceMul, reduceCtorEq, t0, t1, t5, e0, e1, e2, e3, e4, e5, e6, t21, h13, x2] <;> rfl)) | exact (rfl : app (swap _ _) _ = _)))
        refine vr_nil (aw_then ?_)
        refine aw_true (by (simp only [push_cast, ↓reduceIte, Nat.reduceEqDiff, Nat.reduceAdd, Nat.reduceLeDiff, Nat.reduceLT, Int.reduceLE, Int.reduceLT, Int.reduceAdd, Int.reduceSub, Int.reduceNeg, Int.reduceBEq, Int.reduceBNe, Int.reduceEq, Int.reduceGT, Int.reduceGE, Int.reduceMul, Int.reduceToNat, Nat.reduceMul, reduceCtorEq, t0, t1, t5, e0, e1, e2, e3, e4, e5, e6, t21, h13, x2] <;> rfl)) ?_
        refine AWp.seq ?_
        (refine aw_regionL hS2 (by kernel_rfl) ?_; repeat (first | apply vr0u | apply vr4 | apply b_tt | apply b_ff | apply b_tf | apply b_ft | apply b_no | exact isD.mk rfl | (apply eqG; (simp only [push_cast, ↓reduceIte, Nat.reduceEqDiff, Nat.reduceAdd, Nat.reduceLeDiff, Nat.reduceLT, Int.reduceLE, Int.reduceLT, Int.reduceAdd, Int.reduceSub, Int.reduceNeg, Int.reduceBEq, Int.reduceBNe, Int.reduceEq, Int.reduceGT, Int.reduceGE, Int.reduceMul, Int.reduceToNat, Nat.reduceMul, reduceCtorEq, t0, t1, t5, e0, e1, e2, e3, e4, e5, e6, t21, h13, x2] <;> rfl)) | exact (rfl : app (swap _ _) _ = _)))
        refine vr_nil (aw_then ?_)
        refine AWp.seq ?_
        (refine aw_regionL hS (by kernel_rfl) ?_; repeat (first | apply vr0u | apply vr4 | apply b_tt | apply b_ff | apply b_tf | apply b_ft | apply b_no | exact isD.mk rfl | (apply eqG; (simp only [push_cast, ↓reduceIte, Nat.reduceEqDiff, Nat.reduceAdd, Nat.reduceLeDiff, Nat.reduceLT, Int.reduceLE, Int.reduceLT, Int.reduceAdd, Int.reduceSub, Int.reduceNeg, Int.reduceBEq, Int.reduceBNe, Int.reduceEq, Int.reduceGT, Int.reduceGE, Int.reduceMul, Int.reduceToNat, Nat.reduceMul, reduceCtorEq, t0, t1, t5, e0, e1, e2, e3, e4, e5, e6, t21, h13, x2] <;> rfl)) | exact (rfl : app (swap _ _) _ = _)))
        refine vr_nil (aw_then ?_)
        refine AWp.seq ?_
        (refine aw_regionL hS (by kernel_rfl) ?_; repeat (first | apply vr0u | apply vr4 | apply b_tt | apply b_ff | apply b_tf | apply b_ft | apply b_no | exact isD.mk rfl | (apply eqG; (simp only [push_cast, ↓reduceIte, Nat.reduceEqDiff, Nat.reduceAdd, Nat.reduceLeDiff, Nat.reduceLT, Int.reduceLE, Int.reduceLT, Int.reduceAdd, Int.reduceSub, Int.reduceNeg, Int.reduceBEq, Int.reduceBNe, Int.reduceEq, Int.reduceGT, Int.reduceGE, Int.reduceMul, Int.reduceToNat, Nat.reduceMul, reduceCtorEq, t0, t1, t5, e0, e1, e2, e3, e4, e5, e6, t21, h13, x2] <;> rfl)) | exact (rfl : app (swap _ _) _ = _)))
        refine vr_nil (aw_then ?_)
        refine AWp.ret ?_
        exact ⟨.inr rfl, [.b true], by simp [Try.f20, resAll, resT]; (simp only [push_cast, ↓reduceIte, Nat.reduceEqDiff, Nat.reduceAdd, Nat.reduceLeDiff, Nat.reduceLT, Int.reduceLE, Int.reduceLT, Int.reduceAdd, Int.reduceSub, Int.reduceNeg, Int.reduceBEq, Int.reduceBNe, Int.reduceEq, Int.reduceGT, Int.reduceGE, Int.reduceMul, Int.reduceToNat, Nat.reduceMul, reduceCtorEq, t0, t1, t5, e0, e1, e2, e3, e4, e5, e6, t21, h13, x2] <;> rfl), rfl, _, _, M3, H.start, rfl, by show w.pend.length ≤ _; omega⟩

      · obtain rfl : c = 6 := hc8
        have t21 : t' 21 = .i .u64 6 := t21
        refine AWp.seq ?_
        (refine aw_regionL hS (by kernel_rfl) ?_; repeat (first | apply vr0u | apply vr4 | apply b_tt | apply b_ff | apply b_tf | apply b_ft | apply b_no | exact isD.mk rfl | (apply eqG; (simp only [push_cast, ↓reduceIte, Nat.reduceEqDiff, Nat.reduceAdd, Nat.reduceLeDiff, Nat.reduceLT, Int.reduceLE, Int.reduceLT, Int.reduceAdd, Int.reduceSub, Int.reduceNeg, Int.reduceBEq, Int.reduceBNe, Int.reduceEq, Int.reduceGT, Int.reduceGE, Int.reduceMul, Int.reduceToNat, Nat.reduceMul, reduceCtorEq, t0, t1, t5, e0, e1, e2, e3, e4, e5, e6, t21] <;> rfl)) | exact (rfl : app (swap _ _) _ = _)))
        refine vr_nil (aw_then ?_)
        refine aw_false (by (simp only [push_cast, ↓reduceIte, Nat.reduceEqDiff, Nat.reduceAdd, Nat.reduceLeDiff, Nat.reduceLT, Int.reduceLE, Int.reduceLT, Int.reduceAdd, Int.reduceSub, Int.reduceNeg, Int.reduceBEq, Int.reduceBNe, Int.reduceEq, Int.reduceGT, Int.reduceGE, Int.reduceMul, Int.reduceToNat, Nat.reduceMul, reduceCtorEq, t0, t1, t5, e0, e1, e2, e3, e4, e5, e6, t21] <;> rfl)) ?_
        refine AWp.seq ?_
        (refine aw_regionL hS (by kernel_rfl) ?_; repeat (first | apply vr0u | apply vr4 | apply b_tt | apply b_ff | apply b_tf | apply b_ft | apply b_no | exact isD.mk rfl | (apply eqG; (simp only [push_cast, ↓reduceIte, Nat.reduceEqDiff, Nat.reduceAdd, Nat.reduceLeDiff, Nat.reduceLT, Int.reduceLE, Int.reduceLT, Int.reduceAdd, Int.reduceSub, Int.reduceNeg, Int.reduceBEq, Int.reduceBNe, Int.reduceEq, Int.reduceGT, Int.reduceGE, Int.reduceMul, Int.reduceToNat, Nat.reduceMul, reduceCtorEq, t0, t1, t5, e0, e1, e2, e3, e4, e5, e6, t21] <;> rfl)) | exact (rfl : app (swap _ _) _ = _)))
        refine vr_nil (aw_then ?_)
        refine aw_false (by (simp only [push_cast, ↓reduceIte, Nat.reduceEqDiff, Nat.reduceAdd, Nat.reduceLeDiff, Nat.reduceLT, Int.reduceLE, Int.reduceLT, Int.reduceAdd, Int.reduceSub, Int.reduceNeg, Int.reduceBEq, Int.reduceBNe, Int.reduceEq, Int.reduceGT, Int.reduceGE, Int.reduceMul, Int.reduceToNat, Nat.reduceMul, reduceCtorEq, t0, t1, t5, e0, e1, e2, e3, e4, e5, e6, t21] <;> rfl)) ?_
        refine AWp.seq ?_
        (refine aw_regionL hS (by kernel_rfl) ?_; repeat (first | apply vr0u | apply vr4 | apply b_tt | apply b_ff | apply b_tf | apply b_ft | apply b_no | exact isD.mk rfl | (apply eqG; (simp only [push_cast, ↓reduceIte, Nat.reduceEqDiff, Nat.reduceAdd, Nat.reduceLeDiff, Nat.reduceLT, Int.reduceLE, Int.reduceLT, Int.reduceAdd, Int.reduceSub, Int.reduceNeg, Int.reduceBEq, Int.reduceBNe, Int.reduceEq, Int.reduceGT, Int.reduceGE, Int.reduceMul, Int.reduceToNat, Nat.reduceMul, reduceCtorEq, t0, t1, t5, e0, e1, e2, e3, e4, e5, e6, t21] <;> rfl)) | exact (rfl : app (swap _ _) _ = _)))
        refine vr_nil (aw_then ?_)
        refine aw_false (by (simp only [push_cast, ↓reduceIte, Nat.reduceEqDiff, Nat.reduceAdd, Nat.reduceLeDiff, Nat.reduceLT, Int.reduceLE, Int.reduceLT, Int.reduceAdd, Int.reduceSub, Int.reduceNeg, Int.reduceBEq, Int.reduceBNe, Int.reduceEq, Int.reduceGT, Int.reduceGE, Int.reduceMul, Int.reduceToNat, Nat.reduceMul, reduceCtorEq, t0, t1, t5, e0, e1, e2, e3, e4, e5, e6, t21] <;> rfl)) ?_
        refine AWp.seq ?_
        (refine aw_regionL hS (by kernel_rfl) ?_; repeat (first | apply vr0u | apply vr4 | apply b_tt | apply b_ff | apply b_tf | apply b_ft | apply b_no | exact isD.mk rfl | (apply eqG; (simp only [push_cast, ↓reduceIte, Nat.reduceEqDiff, Nat.reduceAdd, Nat.reduceLeDiff, Nat.reduceLT, Int.reduceLE, Int.reduceLT, Int.reduceAdd, Int.reduceSub, Int.reduceNeg, Int.reduceBEq, Int.reduceBNe, Int.reduceEq, Int.reduceGT, Int.reduceGE, Int.reduceMul, Int.reduceToNat, Nat.reduceMul, reduceCtorEq, t0, t1, t5, e0, e1, e2, e3, e4, e5, e6, t21] <;> rfl)) | exact (rfl : app (swap _ _) _ = _)))
        refine vr_nil (aw_then ?_)
        refine aw_true (by (simp only [push_cast, ↓reduceIte, Nat.reduceEqDiff, Nat.reduceAdd, Nat.reduceLeDiff, Nat.reduceLT, Int.reduceLE, Int.reduceLT, Int.reduceAdd, Int.reduceSub, Int.reduceNeg, Int.reduceBEq, Int.reduceBNe, Int.reduceEq, Int.reduceGT, Int.reduceGE, Int.reduceMul, Int.reduceToNat, Nat.reduceMul, reduceCtorEq, t0, t1, t5, e0, e1, e2, e3, e4, e5, e6, t21] <;> rfl)) ?_
        by_cases hk0 : a.keep = []
        case pos =>
          have ek : a.k = .ro a.kz (bools []) ([] : List Bool).length := by unfold Act.k; rw [hk0]
          obtain ⟨S2, hS2, h28, n28⟩ := sum_pure ok_DE (c28 a.kz [] (by decide))
          rw [← ek] at h28
          have er : (([] : List Bool).isEmpty) = true := rfl
          have eb : bools [] = [] := rfl
          have ez : ([] : List Bool).length = 0 := rfl
          refine AWp.seq ?_
          (refine aw_regionL hS2 (by kernel_rfl) ?_; repeat (first | apply vr0u | apply vr4 | apply b_tt | apply b_ff | apply b_tf | apply b_ft | apply b_no | exact isD.mk rfl | (apply eqG; (simp only [push_cast, ↓reduceIte, Nat.reduceEqDiff, Nat.reduceAdd, Nat.reduceLeDiff, Nat.reduceLT, Int.reduceLE, Int.reduceLT, Int.reduceAdd, Int.reduceSub, Int.reduceNeg, Int.reduceBEq, Int.reduceBNe, Int.reduceEq, Int.reduceGT, Int.reduceGE, Int.reduceMul, Int.reduceToNat, Nat.reduceMul, reduceCtorEq, t0, t1, t5, e0, e1, e2, e3, e4, e5, e6, h28, er, eb, ez] <;> rfl)) | exact (rfl : app (swap _ _) _ = _)))
          refine vr_nil (aw_then ?_)
          have T2 := M1.A.tArm ha.i1.2 (z := true) (keep := []) (fun _ => rfl) (by decide) a.torn
          have M2 := M1.turnW T2
          have X2 := X1.turnW T2
          have T3 := M2.tArm (k := a.I) ha.i1.2 (keep := []) (by decide) a.torn
          have M3 := M2.turnR T3
          obtain ⟨S3, hS3, h17, n17⟩ := sum_here ok_DE (M1.A.s17 a.I (x := .ro true [] 0) (z := true) (keep := []) (by decide) (.inr (.inl ⟨rfl, rfl, rfl⟩)) a.torn)
          obtain ⟨S4, hS4, h31, n31⟩ := sum_here hS3 (f := 31) (args := [.p rd 0, .i .i64 a.I, .ro a.kz (bools []) ([] : List Bool).length, .i .i64 a.torn]) (g := app (swap (w.cont d) ((w.arm (m + 1) a.I true [] a.torn).1.cont d)) (upd g m (some (.cells (actC a))))) (r := .wide fun k => (.tup [], swap (r.cont rd) ((r.arm a.I [] a.torn).cont rd), k)) (fun k => c31 M2.ok M2.F.has a.I a.kz (by decide) a.torn k)
          rw [← ek] at h31
          have h17 : S4 17 [.p d 0, .i .i64 a.I, .ro true [] 0, .i .i64 a.torn] (upd g m (some (.cells (actC a)))) = .wide fun n => (.tup [], swap (w.cont d) ((w.arm n a.I true [] a.torn).1.cont d), (w.arm n a.I true [] a.torn).2) := by rw [n31 17 (by decide)]; exact h17
          have x2 := X2.row
          obtain ⟨l1, l2⟩ := len_arm w (m + 1) a.I true [] a.torn
          refine AWp.seq ?_
          (refine aw_regionL hS4 (by kernel_rfl) ?_; repeat (first | apply vr0u | apply vr4 | apply b_tt | apply b_ff | apply b_tf | apply b_ft | apply b_no | exact isD.mk rfl | (apply eqG; (simp only [push_cast, ↓reduceIte, Nat.reduceEqDiff, Nat.reduceAdd, Nat.reduceLeDiff, Nat.reduceLT, Int.reduceLE, Int.reduceLT, Int.reduceAdd, Int.reduceSub, Int.reduceNeg, Int.reduceBEq, Int.reduceBNe, Int.reduceEq, Int.reduceGT, Int.reduceGE, Int.reduceMul, Int.reduceToNat, Nat.reduceMul, reduceCtorEq, t0, t1, t5, e0, e1, e2, e3, e4, e5, e6, h17, h31, x2] <;> rfl)) | exact (rfl : app (swap _ _) _ = _)))
          refine vr_nil (aw_then ?_)
          refine AWp.seq ?_
          (refine aw_regionL hS4 (by kernel_rfl) ?_; repeat (first | apply vr0u | apply vr4 | apply b_tt | apply b_ff | apply b_tf | apply b_ft | apply b_no | exact isD.mk rfl | (apply eqG; (simp only [push_cast, ↓reduceIte, Nat.reduceEqDiff, Nat.reduceAdd, Nat.reduceLeDiff, Nat.reduceLT, Int.reduceLE, Int.reduceLT, Int.reduceAdd, Int.reduceSub, Int.reduceNeg, Int.reduceBEq, Int.reduceBNe, Int.reduceEq, Int.reduceGT, Int.reduceGE, Int.reduceMul, Int.reduceToNat, Nat.reduceMul, reduceCtorEq, t0, t1, t5, e0, e1, e2, e3, e4, e5, e6, h17, h31, x2] <;> rfl)) | exact (rfl : app (swap _ _) _ = _)))
          refine vr_nil (aw_then ?_)
          refine AWp.cut (fun t' h' n' => ∃ w' r', Mem h0 n0 h' n' d rd w' r' ∧ Same w' r' ∧ w'.safe.length = w.safe.length ∧ w'.pend.length ≤ w.pend.length + 1) ?_ ?_
          · have H3 := H.arm (m + 1) a.I true [] a.torn
            generalize app (swap (r.cont rd) _) _ = g3 at M3 ⊢
            refine AWp.seq ?_
            (refine aw_regionL hS (by kernel_rfl) ?_; repeat (first | apply vr0u | apply vr4 | apply b_tt | apply b_ff | apply b_tf | apply b_ft | apply b_no | exact isD.mk rfl | (apply eqG; (simp only [push_cast, ↓reduceIte, Nat.reduceEqDiff, Nat.reduceAdd, Nat.reduceLeDiff, Nat.reduceLT, Int.reduceLE, Int.reduceLT, Int.reduceAdd, Int.reduceSub, Int.reduceNeg, Int.reduceBEq, Int.reduceBNe, Int.reduceEq, Int.reduceGT, Int.reduceGE, Int.reduceMul, Int.reduceToNat, Nat.reduceMul, reduceCtorEq, t0, t1, t5, e0, e1, e2, e3, e4, e5, e6, h17, h31, x2] <;> rfl)) | exact (rfl : app (swap _ _) _ = _)))
            refine vr_nil (aw_then ?_)
            refine AWp.block ?_
            refine AWp.loop (fun mm t' h' n' => t' 8 = .ro true [] 0 ∧ t' 9 = .i .i64 0 ∧ h' = g3 ∧ n' = (w.arm (m + 1) a.I true [] a.torn).2) 0 ?_ ?_
            · exact ⟨by (simp only [push_cast, ↓reduceIte, Nat.reduceEqDiff, Nat.reduceAdd, Nat.reduceLeDiff, Nat.reduceLT, Int.reduceLE, Int.reduceLT, Int.reduceAdd, Int.reduceSub, Int.reduceNeg, Int.reduceBEq, Int.reduceBNe, Int.reduceEq, Int.reduceGT, Int.reduceGE, Int.reduceMul, Int.reduceToNat, Nat.reduceMul, reduceCtorEq, t0, t1, t5, e0, e1, e2, e3, e4, e5, e6, h17, h31, x2] <;> rfl), by (simp only [push_cast, ↓reduceIte, Nat.reduceEqDiff, Nat.reduceAdd, Nat.reduceLeDiff, Nat.reduceLT, Int.reduceLE, Int.reduceLT, Int.reduceAdd, Int.reduceSub, Int.reduceNeg, Int.reduceBEq, Int.reduceBNe, Int.reduceEq, Int.reduceGT, Int.reduceGE, Int.reduceMul, Int.reduceToNat, Nat.reduceMul, reduceCtorEq, t0, t1, t5, e0, e1, e2, e3, e4, e5, e6, h17, h31, x2] <;> rfl), rfl, rfl⟩
            · rintro mm t' h' n' - ⟨t8, t9, rfl, rfl⟩
              refine AWp.seq ?_
              refine AWp.seq ?_
              (refine aw_regionL hS (by kernel_rfl) ?_; repeat (first | apply vr0u | apply vr4 | apply b_tt | apply b_ff | apply b_tf | apply b_ft | apply b_no | exact isD.mk rfl | (apply eqG; (simp only [push_cast, ↓reduceIte, Nat.reduceEqDiff, Nat.reduceAdd, Nat.reduceLeDiff, Nat.reduceLT, Int.reduceLE, Int.reduceLT, Int.reduceAdd, Int.reduceSub, Int.reduceNeg, Int.reduceBEq, Int.reduceBNe, Int.reduceEq, Int.reduceGT, Int.reduceGE, Int.reduceMul, Int.reduceToNat, Nat.reduceMul, reduceCtorEq, t8, t9] <;> rfl)) | exact (rfl : app (swap _ _) _ = _)))
              refine vr_nil (aw_then ?_)
              refine aw_false (by (simp only [push_cast, ↓reduceIte, Nat.reduceEqDiff, Nat.reduceAdd, Nat.reduceLeDiff, Nat.reduceLT, Int.reduceLE, Int.reduceLT, Int.reduceAdd, Int.reduceSub, Int.reduceNeg, Int.reduceBEq, Int.reduceBNe, Int.reduceEq, Int.reduceGT, Int.reduceGE, Int.reduceMul, Int.reduceToNat, Nat.reduceMul, reduceCtorEq, t8, t9] <;> rfl)) (AWp.exit (aw_thru (aw_thru (aw_exit (aw_then ?_)))))
              exact ⟨_, _, M3, H3, l1, by omega⟩
          · rintro t4 g4 m4 - ⟨w4, r4, M4, H4, l4, p4⟩
            refine AWp.seq ?_
            (refine aw_regionL hS (by kernel_rfl) ?_; repeat (first | apply vr0u | apply vr4 | apply b_tt | apply b_ff | apply b_tf | apply b_ft | apply b_no | exact isD.mk rfl | (apply eqG; (simp only [push_cast, ↓reduceIte, Nat.reduceEqDiff, Nat.reduceAdd, Nat.reduceLeDiff, Nat.reduceLT, Int.reduceLE, Int.reduceLT, Int.reduceAdd, Int.reduceSub, Int.reduceNeg, Int.reduceBEq, Int.reduceBNe, Int.reduceEq, Int.reduceGT, Int.reduceGE, Int.reduceMul, Int.reduceToNat, Nat.reduceMul, reduceCtorEq] <;> rfl)) | exact (rfl : app (swap _ _) _ = _)))
            refine vr_nil (aw_then ?_)
            refine AWp.ret ?_
            exact ⟨.inr rfl, [.b true], by simp [Try.f20, resAll, resT]; (simp only [push_cast, ↓reduceIte, Nat.reduceEqDiff, Nat.reduceAdd, Nat.reduceLeDiff, Nat.reduceLT, Int.reduceLE, Int.reduceLT, Int.reduceAdd, Int.reduceSub, Int.reduceNeg, Int.reduceBEq, Int.reduceBNe, Int.reduceEq, Int.reduceGT, Int.reduceGE, Int.reduceMul, Int.reduceToNat, Nat.reduceMul, reduceCtorEq] <;> rfl), rfl, _, _, M4, H4, l4, p4⟩

        case neg =>
          obtain ⟨S2, hS2, h28, n28⟩ := sum_here ok_DE (f := 28) (args := [a.k]) (g := upd g m (some (.cells (actC a)))) (r := .fresh 1 a.keep.length (bools a.keep)) ⟨free_bools _, fun k => c28f a.kz a.keep (by omega) hk0 k⟩
          refine AWp.seq ?_
          (refine aw_regionL hS2 (by kernel_rfl) ?_; repeat (first | apply vr0u | apply vr4 | apply b_tt | apply b_ff | apply b_tf | apply b_ft | apply b_no | exact isD.mk rfl | (apply eqG; (simp only [push_cast, ↓reduceIte, Nat.reduceEqDiff, Nat.reduceAdd, Nat.reduceLeDiff, Nat.reduceLT, Int.reduceLE, Int.reduceLT, Int.reduceAdd, Int.reduceSub, Int.reduceNeg, Int.reduceBEq, Int.reduceBNe, Int.reduceEq, Int.reduceGT, Int.reduceGE, Int.reduceMul, Int.reduceToNat, Nat.reduceMul, reduceCtorEq, t0, t1, t5, e0, e1, e2, e3, e4, e5, e6, h28] <;> rfl)) | exact (rfl : app (swap _ _) _ = _)))
          refine vr_nil (aw_then ?_)
          have M2 := M1.new (some (.cells (bools a.keep)))
          have X2 := X1.more (some (.cells (bools a.keep)))
          have Y2 := Own.new M1 (bools a.keep)
          have x2 := X2.row
          generalize upd (upd g m (some (.cells (actC a)))) (m + 1) (some (.cells (bools a.keep))) = g2 at M2 X2 Y2 x2 ⊢
          have T3 := M2.A.tArm ha.i1.2 (z := false) (keep := a.keep) (fun hc => (nomatch hc)) (by omega) a.torn
          have M3 := M2.turnW T3
          have X3 := X2.turnW T3
          have Y3 := Y2.turnW T3
          have T4 := M3.tArm (k := a.I) ha.i1.2 (keep := a.keep) (by omega) a.torn
          have M4 := M3.turnR T4
          have Y4 := Y3.turnR T4
          obtain ⟨S4, hS4, h17, n17⟩ := sum_here ok_DE (M2.A.s17 a.I (x := .sl 1 (m + 1) 0 a.keep.length) (z := false) (keep := a.keep) (by omega) (.inr (.inr ⟨m + 1, rfl, rfl, Y2.row, Y2.ow⟩)) a.torn)
          obtain ⟨S5, hS5, h31, n31⟩ := sum_here hS4 (f := 31) (args := [.p rd 0, .i .i64 a.I, a.k, .i .i64 a.torn]) (g := app (swap (w.cont d) ((w.arm (m + 1 + 1) a.I false a.keep a.torn).1.cont d)) g2) (r := .wide fun k => (.tup [], swap (r.cont rd) ((r.arm a.I a.keep a.torn).cont rd), k)) (fun k => c31 M3.ok M3.F.has a.I a.kz (by omega) a.torn k)
          have h17 : S5 17 [.p d 0, .i .i64 a.I, .sl 1 (m + 1) 0 a.keep.length, .i .i64 a.torn] g2 = .wide fun n => (.tup [], swap (w.cont d) ((w.arm n a.I false a.keep a.torn).1.cont d), (w.arm n a.I false a.keep a.torn).2) := by rw [n31 17 (by decide)]; exact h17
          have x3 := X3.row
          obtain ⟨l1, l2⟩ := len_arm w (m + 1 + 1) a.I false a.keep a.torn
          refine AWp.seq ?_
          (refine aw_regionL hS5 (by kernel_rfl) ?_; repeat (first | apply vr0u | apply vr4 | apply b_tt | apply b_ff | apply b_tf | apply b_ft | apply b_no | exact isD.mk rfl | (apply eqG; (simp only [push_cast, ↓reduceIte, Nat.reduceEqDiff, Nat.reduceAdd, Nat.reduceLeDiff, Nat.reduceLT, Int.reduceLE, Int.reduceLT, Int.reduceAdd, Int.reduceSub, Int.reduceNeg, Int.reduceBEq, Int.reduceBNe, Int.reduceEq, Int.reduceGT, Int.reduceGE, Int.reduceMul, Int.reduceToNat, Nat.reduceMul, reduceCtorEq, t0, t1, t5, e0, e1, e2, e3, e4, e5, e6, h17, h31, x2, x3] <;> rfl)) | exact (rfl : app (swap _ _) _ = _)))
          refine vr_nil (aw_then ?_)
          refine AWp.seq ?_
          (refine aw_regionL hS5 (by kernel_rfl) ?_; repeat (first | apply vr0u | apply vr4 | apply b_tt | apply b_ff | apply b_tf | apply b_ft | apply b_no | exact isD.mk rfl | (apply eqG; (simp only [push_cast, ↓reduceIte, Nat.reduceEqDiff, Nat.reduceAdd, Nat.reduceLeDiff, Nat.reduceLT, Int.reduceLE, Int.reduceLT, Int.reduceAdd, Int.reduceSub, Int.reduceNeg, Int.reduceBEq, Int.reduceBNe, Int.reduceEq, Int.reduceGT, Int.reduceGE, Int.reduceMul, Int.reduceToNat, Nat.reduceMul, reduceCtorEq, t0, t1, t5, e0, e1, e2, e3, e4, e5, e6, h17, h31, x2, x3] <;> rfl)) | exact (rfl : app (swap _ _) _ = _)))
          refine vr_nil (aw_then ?_)
          refine AWp.cut (fun t' h' n' => ∃ w' r', Mem h0 n0 h' n' d rd w' r' ∧ Same w' r' ∧ w'.safe.length = w.safe.length ∧ w'.pend.length ≤ w.pend.length + 1) ?_ ?_
          · have H4 := H.arm (m + 1 + 1) a.I false a.keep a.torn
            generalize app (swap (r.cont rd) _) _ = g4 at M4 Y4 ⊢
            generalize (w.arm (m + 1 + 1) a.I false a.keep a.torn).1 = w4 at M4 Y4 H4 l1 l2
            generalize (r.arm a.I a.keep a.torn) = r4 at M4 Y4 H4
            refine AWp.seq ?_
            (refine aw_regionL hS (by kernel_rfl) ?_; repeat (first | apply vr0u | apply vr4 | apply b_tt | apply b_ff | apply b_tf | apply b_ft | apply b_no | exact isD.mk rfl | (apply eqG; (simp only [push_cast, ↓reduceIte, Nat.reduceEqDiff, Nat.reduceAdd, Nat.reduceLeDiff, Nat.reduceLT, Int.reduceLE, Int.reduceLT, Int.reduceAdd, Int.reduceSub, Int.reduceNeg, Int.reduceBEq, Int.reduceBNe, Int.reduceEq, Int.reduceGT, Int.reduceGE, Int.reduceMul, Int.reduceToNat, Nat.reduceMul, reduceCtorEq, t0, t1, t5, e0, e1, e2, e3, e4, e5, e6, h17, h31, x2, x3] <;> rfl)) | exact (rfl : app (swap _ _) _ = _)))
            refine vr_nil (aw_then ?_)
            refine AWp.block ?_
            refine AWp.loop (fun mm t' h' n' => ∃ (k : Nat) (c : List Bool), mm = a.keep.length - k ∧ k ≤ a.keep.length ∧ c.length = a.keep.length ∧ t' 8 = .sl 1 (m + 1) 0 a.keep.length ∧ t' 9 = .i .i64 (k : Int) ∧ Mem h0 n0 h' n' d rd w4 r4 ∧ Own h' n' (m + 1) d rd w4 r4 (bools c)) a.keep.length ?_ ?_
            · exact ⟨0, a.keep, rfl, Nat.zero_le _, rfl, by (simp only [push_cast, ↓reduceIte, Nat.reduceEqDiff, Nat.reduceAdd, Nat.reduceLeDiff, Nat.reduceLT, Int.reduceLE, Int.reduceLT, Int.reduceAdd, Int.reduceSub, Int.reduceNeg, Int.reduceBEq, Int.reduceBNe, Int.reduceEq, Int.reduceGT, Int.reduceGE, Int.reduceMul, Int.reduceToNat, Nat.reduceMul, reduceCtorEq, t0, t1, t5, e0, e1, e2, e3, e4, e5, e6, h17, h31, x2, x3] <;> rfl), by (simp only [push_cast, ↓reduceIte, Nat.reduceEqDiff, Nat.reduceAdd, Nat.reduceLeDiff, Nat.reduceLT, Int.reduceLE, Int.reduceLT, Int.reduceAdd, Int.reduceSub, Int.reduceNeg, Int.reduceBEq, Int.reduceBNe, Int.reduceEq, Int.reduceGT, Int.reduceGE, Int.reduceMul, Int.reduceToNat, Nat.reduceMul, reduceCtorEq, t0, t1, t5, e0, e1, e2, e3, e4, e5, e6, h17, h31, x2, x3] <;> rfl), M4, Y4⟩
            · rintro mm t' h' n' - ⟨k, c, rfl, hkl, hcl, t8, t9, M5, Y5⟩
              by_cases hkk : k < a.keep.length
              · have hkc : k < c.length := by omega
                have q1 : ((k : Int) < (a.keep.length : Int)) = True := by simp [hkk]
                have q2 : (0 ≤ (k : Int) ∧ (k : Int) < (a.keep.length : Int)) = True := by simp [hkk]
                have q4 := bools_get hkc
                have q5 : (k + 1 ≤ (bools c).length) = True := by rw [len_bools]; simp only [eq_iff_iff, iff_true]; omega
                have q7 := bools_set c k (!c[k])
                have y5 := Y5.row
                have w1 : IntKind.wrap .i64 ((k : Int) + 1) = (k : Int) + 1 := IntWalk.i64_in _ (by omega)
                refine AWp.seq ?_
                refine AWp.seq ?_
                (refine aw_regionL hS (by kernel_rfl) ?_; repeat (first | apply vr0u | apply vr4 | apply b_tt | apply b_ff | apply b_tf | apply b_ft | apply b_no | exact isD.mk rfl | (apply eqG; (simp only [push_cast, ↓reduceIte, Nat.reduceEqDiff, Nat.reduceAdd, Nat.reduceLeDiff, Nat.reduceLT, Int.reduceLE, Int.reduceLT, Int.reduceAdd, Int.reduceSub, Int.reduceNeg, Int.reduceBEq, Int.reduceBNe, Int.reduceEq, Int.reduceGT, Int.reduceGE, Int.reduceMul, Int.reduceToNat, Nat.reduceMul, reduceCtorEq, t8, t9, y5, q1, q2, q4, q5, q7, w1] <;> rfl)) | exact (rfl : app (swap _ _) _ = _)))
                refine vr_nil (aw_then ?_)
                refine aw_true (by (simp only [push_cast, ↓reduceIte, Nat.reduceEqDiff, Nat.reduceAdd, Nat.reduceLeDiff, Nat.reduceLT, Int.reduceLE, Int.reduceLT, Int.reduceAdd, Int.reduceSub, Int.reduceNeg, Int.reduceBEq, Int.reduceBNe, Int.reduceEq, Int.reduceGT, Int.reduceGE, Int.reduceMul, Int.reduceToNat, Nat.reduceMul, reduceCtorEq, t8, t9, y5, q1, q2, q4, q5, q7, w1] <;> rfl)) (AWp.skip (aw_then ?_))
                refine AWp.seq ?_
                refine AWp.block ?_
                (refine aw_regionL hS (by kernel_rfl) ?_; repeat (first | apply vr0u | apply vr4 | apply b_tt | apply b_ff | apply b_tf | apply b_ft | apply b_no | exact isD.mk rfl | (apply eqG; (simp only [push_cast, ↓reduceIte, Nat.reduceEqDiff, Nat.reduceAdd, Nat.reduceLeDiff, Nat.reduceLT, Int.reduceLE, Int.reduceLT, Int.reduceAdd, Int.reduceSub, Int.reduceNeg, Int.reduceBEq, Int.reduceBNe, Int.reduceEq, Int.reduceGT, Int.reduceGE, Int.reduceMul, Int.reduceToNat, Nat.reduceMul, reduceCtorEq, t8, t9, y5, q1, q2, q4, q5, q7, w1] <;> rfl)) | exact (rfl : app (swap _ _) _ = _)))
                refine vr_nil (aw_in (aw_then ?_))
                (refine aw_regionL hS (by kernel_rfl) ?_; repeat (first | apply vr0u | apply vr4 | apply b_tt | apply b_ff | apply b_tf | apply b_ft | apply b_no | exact isD.mk rfl | (apply eqG; (simp only [push_cast, ↓reduceIte, Nat.reduceEqDiff, Nat.reduceAdd, Nat.reduceLeDiff, Nat.reduceLT, Int.reduceLE, Int.reduceLT, Int.reduceAdd, Int.reduceSub, Int.reduceNeg, Int.reduceBEq, Int.reduceBNe, Int.reduceEq, Int.reduceGT, Int.reduceGE, Int.reduceMul, Int.reduceToNat, Nat.reduceMul, reduceCtorEq, t8, t9, y5, q1, q2, q4, q5, q7, w1] <;> rfl)) | exact (rfl : app (swap _ _) _ = _)))
                have hn0 : n0 ≤ m + 1 := by have := M.A.le; omega
                exact vr_nil (aw_then ⟨a.keep.length - (k + 1), by omega, k + 1, c.set k (!c[k]), rfl, hkk, by simp [hcl], by (simp only [push_cast, ↓reduceIte, Nat.reduceEqDiff, Nat.reduceAdd, Nat.reduceLeDiff, Nat.reduceLT, Int.reduceLE, Int.reduceLT, Int.reduceAdd, Int.reduceSub, Int.reduceNeg, Int.reduceBEq, Int.reduceBNe, Int.reduceEq, Int.reduceGT, Int.reduceGE, Int.reduceMul, Int.reduceToNat, Nat.reduceMul, reduceCtorEq, t8, t9, y5, q1, q2, q4, q5, q7, w1] <;> rfl), by (simp only [push_cast, ↓reduceIte, Nat.reduceEqDiff, Nat.reduceAdd, Nat.reduceLeDiff, Nat.reduceLT, Int.reduceLE, Int.reduceLT, Int.reduceAdd, Int.reduceSub, Int.reduceNeg, Int.reduceBEq, Int.reduceBNe, Int.reduceEq, Int.reduceGT, Int.reduceGE, Int.reduceMul, Int.reduceToNat, Nat.reduceMul, reduceCtorEq, t8, t9, y5, q1, q2, q4, q5, q7, w1] <;> rfl), M5.own Y5 hn0 _, ⟨upd_same .., Y5.lt, Y5.ow, Y5.orr⟩⟩)
              · have q1 : ((k : Int) < (a.keep.length : Int)) = False := by simp; omega
                refine AWp.seq ?_
                refine AWp.seq ?_
                (refine aw_regionL hS (by kernel_rfl) ?_; repeat (first | apply vr0u | apply vr4 | apply b_tt | apply b_ff | apply b_tf | apply b_ft | apply b_no | exact isD.mk rfl | (apply eqG; (simp only [push_cast, ↓reduceIte, Nat.reduceEqDiff, Nat.reduceAdd, Nat.reduceLeDiff, Nat.reduceLT, Int.reduceLE, Int.reduceLT, Int.reduceAdd, Int.reduceSub, Int.reduceNeg, Int.reduceBEq, Int.reduceBNe, Int.reduceEq, Int.reduceGT, Int.reduceGE, Int.reduceMul, Int.reduceToNat, Nat.reduceMul, reduceCtorEq, t8, t9, q1] <;> rfl)) | exact (rfl : app (swap _ _) _ = _)))
                refine vr_nil (aw_then ?_)
                refine aw_false (by (simp only [push_cast, ↓reduceIte, Nat.reduceEqDiff, Nat.reduceAdd, Nat.reduceLeDiff, Nat.reduceLT, Int.reduceLE, Int.reduceLT, Int.reduceAdd, Int.reduceSub, Int.reduceNeg, Int.reduceBEq, Int.reduceBNe, Int.reduceEq, Int.reduceGT, Int.reduceGE, Int.reduceMul, Int.reduceToNat, Nat.reduceMul, reduceCtorEq, t8, t9, q1] <;> rfl)) (AWp.exit (aw_thru (aw_thru (aw_exit (aw_then ?_)))))
                exact ⟨_, _, M5, H4, l1, by omega⟩
          · rintro t4 g4 m4 - ⟨w4, r4, M4, H4, l4, p4⟩
            refine AWp.seq ?_
            (refine aw_regionL hS (by kernel_rfl) ?_; repeat (first | apply vr0u | apply vr4 | apply b_tt | apply b_ff | apply b_tf | apply b_ft | apply b_no | exact isD.mk rfl | (apply eqG; (simp only [push_cast, ↓reduceIte, Nat.reduceEqDiff, Nat.reduceAdd, Nat.reduceLeDiff, Nat.reduceLT, Int.reduceLE, Int.reduceLT, Int.reduceAdd, Int.reduceSub, Int.reduceNeg, Int.reduceBEq, Int.reduceBNe, Int.reduceEq, Int.reduceGT, Int.reduceGE, Int.reduceMul, Int.reduceToNat, Nat.reduceMul, reduceCtorEq] <;> rfl)) | exact (rfl : app (swap _ _) _ = _)))
            refine vr_nil (aw_then ?_)
            refine AWp.ret ?_
            exact ⟨.inr rfl, [.b true], by simp [Try.f20, resAll, resT]; (simp only [push_cast, ↓reduceIte, Nat.reduceEqDiff, Nat.reduceAdd, Nat.reduceLeDiff, Nat.reduceLT, Int.reduceLE, Int.reduceLT, Int.reduceAdd, Int.reduceSub, Int.reduceNeg, Int.reduceBEq, Int.reduceBNe, Int.reduceEq, Int.reduceGT, Int.reduceGE, Int.reduceMul, Int.reduceToNat, Nat.reduceMul, reduceCtorEq] <;> rfl), rfl, _, _, M4, H4, l4, p4⟩

      · obtain rfl : c = 7 := hc8
        have t21 : t' 21 = .i .u64 7 := t21
        refine AWp.seq ?_
        (refine aw_regionL hS (by kernel_rfl) ?_; repeat (first | apply vr0u | apply vr4 | apply b_tt | apply b_ff | apply b_tf | apply b_ft | apply b_no | exact isD.mk rfl | (apply eqG; (simp only [push_cast, ↓reduceIte, Nat.reduceEqDiff, Nat.reduceAdd, Nat.reduceLeDiff, Nat.reduceLT, Int.reduceLE, Int.reduceLT, Int.reduceAdd, Int.reduceSub, Int.reduceNeg, Int.reduceBEq, Int.reduceBNe, Int.reduceEq, Int.reduceGT, Int.reduceGE, Int.reduceMul, Int.reduceToNat, Nat.reduceMul, reduceCtorEq, t0, t1, t5, e0, e1, e2, e3, e4, e5, e6, t21] <;> rfl)) | exact (rfl : app (swap _ _) _ = _)))
        refine vr_nil (aw_then ?_)
        refine aw_false (by (simp only [push_cast, ↓reduceIte, Nat.reduceEqDiff, Nat.reduceAdd, Nat.reduceLeDiff, Nat.reduceLT, Int.reduceLE, Int.reduceLT, Int.reduceAdd, Int.reduceSub, Int.reduceNeg, Int.reduceBEq, Int.reduceBNe, Int.reduceEq, Int.reduceGT, Int.reduceGE, Int.reduceMul, Int.reduceToNat, Nat.reduceMul, reduceCtorEq, t0, t1, t5, e0, e1, e2, e3, e4, e5, e6, t21] <;> rfl)) ?_
        refine AWp.seq ?_
        (refine aw_regionL hS (by kernel_rfl) ?_; repeat (first | apply vr0u | apply vr4 | apply b_tt | apply b_ff | apply b_tf | apply b_ft | apply b_no | exact isD.mk rfl | (apply eqG; (simp only [push_cast, ↓reduceIte, Nat.reduceEqDiff, Nat.reduceAdd, Nat.reduceLeDiff, Nat.reduceLT, Int.reduceLE, Int.reduceLT, Int.reduceAdd, Int.reduceSub, Int.reduceNeg, Int.reduceBEq, Int.reduceBNe, Int.reduceEq, Int.reduceGT, Int.reduceGE, Int.reduceMul, Int.reduceToNat, Nat.reduceMul, reduceCtorEq, t0, t1, t5, e0, e1, e2, e3, e4, e5, e6, t21] <;> rfl)) | exact (rfl : app (swap _ _) _ = _)))
        refine vr_nil (aw_then ?_)
        refine aw_false (by (simp only [push_cast, ↓reduceIte, Nat.reduceEqDiff, Nat.reduceAdd, Nat.reduceLeDiff, Nat.reduceLT, Int.reduceLE, Int.reduceLT, Int.reduceAdd, Int.reduceSub, Int.reduceNeg, Int.reduceBEq, Int.reduceBNe, Int.reduceEq, Int.reduceGT, Int.reduceGE, Int.reduceMul, Int.reduceToNat, Nat.reduceMul, reduceCtorEq, t0, t1, t5, e0, e1, e2, e3, e4, e5, e6, t21] <;> rfl)) ?_
        refine AWp.seq ?_
        (refine aw_regionL hS (by kernel_rfl) ?_; repeat (first | apply vr0u | apply vr4 | apply b_tt | apply b_ff | apply b_tf | apply b_ft | apply b_no | exact isD.mk rfl | (apply eqG; (simp only [push_cast, ↓reduceIte, Nat.reduceEqDiff, Nat.reduceAdd, Nat.reduceLeDiff, Nat.reduceLT, Int.reduceLE, Int.reduceLT, Int.reduceAdd, Int.reduceSub, Int.reduceNeg, Int.reduceBEq, Int.reduceBNe, Int.reduceEq, Int.reduceGT, Int.reduceGE, Int.reduceMul, Int.reduceToNat, Nat.reduceMul, reduceCtorEq, t0, t1, t5, e0, e1, e2, e3, e4, e5, e6, t21] <;> rfl)) | exact (rfl : app (swap _ _) _ = _)))
        refine vr_nil (aw_then ?_)
        refine aw_false (by (simp only [push_cast, ↓reduceIte, Nat.reduceEqDiff, Nat.reduceAdd, Nat.reduceLeDiff, Nat.reduceLT, Int.reduceLE, Int.reduceLT, Int.reduceAdd, Int.reduceSub, Int.reduceNeg, Int.reduceBEq, Int.reduceBNe, Int.reduceEq, Int.reduceGT, Int.reduceGE, Int.reduceMul, Int.reduceToNat, Nat.reduceMul, reduceCtorEq, t0, t1, t5, e0, e1, e2, e3, e4, e5, e6, t21] <;> rfl)) ?_
        refine AWp.seq ?_
        (refine aw_regionL hS (by kernel_rfl) ?_; repeat (first | apply vr0u | apply vr4 | apply b_tt | apply b_ff | apply b_tf | apply b_ft | apply b_no | exact isD.mk rfl | (apply eqG; (simp only [push_cast, ↓reduceIte, Nat.reduceEqDiff, Nat.reduceAdd, Nat.reduceLeDiff, Nat.reduceLT, Int.reduceLE, Int.reduceLT, Int.reduceAdd, Int.reduceSub, Int.reduceNeg, Int.reduceBEq, Int.reduceBNe, Int.reduceEq, Int.reduceGT, Int.reduceGE, Int.reduceMul, Int.reduceToNat, Nat.reduceMul, reduceCtorEq, t0, t1, t5, e0, e1, e2, e3, e4, e5, e6, t21] <;> rfl)) | exact (rfl : app (swap _ _) _ = _)))
        refine vr_nil (aw_then ?_)
        refine aw_false (by (simp only [push_cast, ↓reduceIte, Nat.reduceEqDiff, Nat.reduceAdd, Nat.reduceLeDiff, Nat.reduceLT, Int.reduceLE, Int.reduceLT, Int.reduceAdd, Int.reduceSub, Int.reduceNeg, Int.reduceBEq, Int.reduceBNe, Int.reduceEq, Int.reduceGT, Int.reduceGE, Int.reduceMul, Int.reduceToNat, Nat.reduceMul, reduceCtorEq, t0, t1, t5, e0, e1, e2, e3, e4, e5, e6, t21] <;> rfl)) ?_
        refine AWp.seq ?_
        (refine aw_regionL hS (by kernel_rfl) ?_; repeat (first | apply vr0u | apply vr4 | apply b_tt | apply b_ff | apply b_tf | apply b_ft | apply b_no | exact isD.mk rfl | (apply eqG; (simp only [push_cast, ↓reduceIte, Nat.reduceEqDiff, Nat.reduceAdd, Nat.reduceLeDiff, Nat.reduceLT, Int.reduceLE, Int.reduceLT, Int.reduceAdd, Int.reduceSub, Int.reduceNeg, Int.reduceBEq, Int.reduceBNe, Int.reduceEq, Int.reduceGT, Int.reduceGE, Int.reduceMul, Int.reduceToNat, Nat.reduceMul, reduceCtorEq, t0, t1, t5, e0, e1, e2, e3, e4, e5, e6, t21] <;> rfl)) | exact (rfl : app (swap _ _) _ = _)))
        refine vr_nil (aw_then ?_)
        refine aw_true (by (simp only [push_cast, ↓reduceIte, Nat.reduceEqDiff, Nat.reduceAdd, Nat.reduceLeDiff, Nat.reduceLT, Int.reduceLE, Int.reduceLT, Int.reduceAdd, Int.reduceSub, Int.reduceNeg, Int.reduceBEq, Int.reduceBNe, Int.reduceEq, Int.reduceGT, Int.reduceGE, Int.reduceMul, Int.reduceToNat, Nat.reduceMul, reduceCtorEq, t0, t1, t5, e0, e1, e2, e3, e4, e5, e6, t21] <;> rfl)) ?_
        refine AWp.seq ?_
        refine aw_callK 3 ok_DE (by kernel_rfl) rfl rfl rfl ?_
        simp only [List.take_succ_cons, List.take_zero]
        repeat (first | apply vr0u | apply vr4 | apply b_tt | apply b_ff | apply b_tf | apply b_ft | apply b_no | exact isD.mk rfl | (apply eqG; (simp only [push_cast, ↓reduceIte, Nat.reduceEqDiff, Nat.reduceAdd, Nat.reduceLeDiff, Nat.reduceLT, Int.reduceLE, Int.reduceLT, Int.reduceAdd, Int.reduceSub, Int.reduceNeg, Int.reduceBEq, Int.reduceBNe, Int.reduceEq, Int.reduceGT, Int.reduceGE, Int.reduceMul, Int.reduceToNat, Nat.reduceMul, reduceCtorEq, t0, t1, t5, e0, e1, e2, e3, e4, e5, e6, t21] <;> rfl)) | exact (rfl : app (swap _ _) _ = _))
        refine vr_nil ⟨11, [], [], [.p d 0, .i .i64 a.I], _, rfl, by (simp only [push_cast, ↓reduceIte, Nat.reduceEqDiff, Nat.reduceAdd, Nat.reduceLeDiff, Nat.reduceLT, Int.reduceLE, Int.reduceLT, Int.reduceAdd, Int.reduceSub, Int.reduceNeg, Int.reduceBEq, Int.reduceBNe, Int.reduceEq, Int.reduceGT, Int.reduceGE, Int.reduceMul, Int.reduceToNat, Nat.reduceMul, reduceCtorEq, t0, t1, t5, e0, e1, e2, e3, e4, e5, e6, t21] <;> rfl), c11R M1.A.ok M1.A.F.has a.I, fun x g2 m2 hm hΦ => ?_⟩
        simp only [List.drop_succ_cons, List.drop_zero]
        obtain ⟨hΦ, hfr⟩ := hΦ
        have M2 : Mem h0 n0 g2 m2 d rd w r := M1.ext (by omega) (fun j hj => by
          have hlt : j < m + 1 := by
            rcases hj with hj | hj
            · exact (M1.A.lo j hj).2
            · exact (M1.lo j hj).2
          obtain ⟨cs, hc⟩ : ∃ cs, upd g m (some (.cells (actC a))) j = some cs := by
            rcases hj with hj | hj
            · obtain ⟨cs, hc⟩ := M1.A.F.has.isSome hj; exact ⟨_, hc⟩
            · obtain ⟨cs, hc⟩ := M1.F.has.isSome hj; exact ⟨_, hc⟩
          rw [hc]; exact hfr j _ hlt hc) (fun x r0 hx hr => hfr x r0 (by have := M1.A.le; omega) (M1.A.fr x r0 hx hr))
        have x2 : g2 m = some (.cells (actC a)) := hfr m _ (Nat.lt_succ_self _) (upd_same ..)
        obtain ⟨S2, hS2, h32, n32⟩ := sum_here ok_DE (f := 32) (args := [.p rd 0, .i .i64 a.I]) (g := g2) (r := .pure (.tup [(r.read a.I).1, .i .i64 (r.read a.I).2])) (fun k => c32 M2.ok M2.F.has a.I k)
        rw [← H.read] at h32
        rcases hΦ with ⟨j, b, hw, rfl, hj1, hj2, hjb, hbl⟩ | ⟨hw, rfl⟩
        · rw [hw] at h32
          obtain ⟨S3, hS3, h18, n18⟩ := sum_here hS2 (f := 18) (args := [.sl 1 j 0 b.length, .ro false (cellsB b) b.length]) (g := g2) (r := .pure (.b true)) (fun n => by
            refine DCalls.keep (k := 1) ?_ rfl
            simp only [List.map_cons, List.map_nil, frz_row hjb (show (cellsB b).length = b.length * 1 by rw [len_cellsB, Nat.mul_one])]
            have := c18 false false b b (by omega) (by omega) (iters g2) n
            rw [decide_eq_true rfl] at this
            rw [frz_free]
            · exact this
            · simp [AV.free, free_cellsB])
          have h32 : S3 32 [.p rd 0, .i .i64 a.I] g2 = .pure (.tup [.ro false (cellsB b) b.length, .i .i64 0]) := by rw [n18 32 (by decide)]; exact h32
          repeat (first | apply vr0u | apply vr4 | apply b_tt | apply b_ff | apply b_tf | apply b_ft | apply b_no | exact isD.mk rfl | (apply eqG; (simp only [push_cast, ↓reduceIte, Nat.reduceEqDiff, Nat.reduceAdd, Nat.reduceLeDiff, Nat.reduceLT, Int.reduceLE, Int.reduceLT, Int.reduceAdd, Int.reduceSub, Int.reduceNeg, Int.reduceBEq, Int.reduceBNe, Int.reduceEq, Int.reduceGT, Int.reduceGE, Int.reduceMul, Int.reduceToNat, Nat.reduceMul, reduceCtorEq, t0, t1, t5, e0, e1, e2, e3, e4, e5, e6, x2, h32, h18] <;> rfl)) | exact (rfl : app (swap _ _) _ = _))
          refine vr_nil (aw_then ?_)
          refine AWp.seq ?_
          (refine aw_regionL hS3 (by kernel_rfl) ?_; repeat (first | apply vr0u | apply vr4 | apply b_tt | apply b_ff | apply b_tf | apply b_ft | apply b_no | exact isD.mk rfl | (apply eqG; (simp only [push_cast, ↓reduceIte, Nat.reduceEqDiff, Nat.reduceAdd, Nat.reduceLeDiff, Nat.reduceLT, Int.reduceLE, Int.reduceLT, Int.reduceAdd, Int.reduceSub, Int.reduceNeg, Int.reduceBEq, Int.reduceBNe, Int.reduceEq, Int.reduceGT, Int.reduceGE, Int.reduceMul, Int.reduceToNat, Nat.reduceMul, reduceCtorEq, t0, t1, t5, e0, e1, e2, e3, e4, e5, e6, x2, h32, h18] <;> rfl)) | exact (rfl : app (swap _ _) _ = _)))
          refine vr_nil (aw_then ?_)
          refine AWp.seq ?_
          (refine aw_regionL hS3 (by kernel_rfl) ?_; repeat (first | apply vr0u | apply vr4 | apply b_tt | apply b_ff | apply b_tf | apply b_ft | apply b_no | exact isD.mk rfl | (apply eqG; (simp only [push_cast, ↓reduceIte, Nat.reduceEqDiff, Nat.reduceAdd, Nat.reduceLeDiff, Nat.reduceLT, Int.reduceLE, Int.reduceLT, Int.reduceAdd, Int.reduceSub, Int.reduceNeg, Int.reduceBEq, Int.reduceBNe, Int.reduceEq, Int.reduceGT, Int.reduceGE, Int.reduceMul, Int.reduceToNat, Nat.reduceMul, reduceCtorEq, t0, t1, t5, e0, e1, e2, e3, e4, e5, e6, x2, h32, h18] <;> rfl)) | exact (rfl : app (swap _ _) _ = _)))
          refine vr_nil (aw_then ?_)
          refine AWp.seq ?_
          refine aw_callK 1 ok_DE (by kernel_rfl) rfl rfl rfl ?_
          simp only [List.take_succ_cons, List.take_zero]
          repeat (first | apply vr0u | apply vr4 | apply b_tt | apply b_ff | apply b_tf | apply b_ft | apply b_no | exact isD.mk rfl | (apply eqG; (simp only [push_cast, ↓reduceIte, Nat.reduceEqDiff, Nat.reduceAdd, Nat.reduceLeDiff, Nat.reduceLT, Int.reduceLE, Int.reduceLT, Int.reduceAdd, Int.reduceSub, Int.reduceNeg, Int.reduceBEq, Int.reduceBNe, Int.reduceEq, Int.reduceGT, Int.reduceGE, Int.reduceMul, Int.reduceToNat, Nat.reduceMul, reduceCtorEq, t0, t1, t5, e0, e1, e2, e3, e4, e5, e6, x2, h32, h18] <;> rfl)) | exact (rfl : app (swap _ _) _ = _))
          refine vr_nil ⟨33, [], [], [.sl 1 j 0 b.length], _, rfl, by (simp only [push_cast, ↓reduceIte, Nat.reduceEqDiff, Nat.reduceAdd, Nat.reduceLeDiff, Nat.reduceLT, Int.reduceLE, Int.reduceLT, Int.reduceAdd, Int.reduceSub, Int.reduceNeg, Int.reduceBEq, Int.reduceBNe, Int.reduceEq, Int.reduceGT, Int.reduceGE, Int.reduceMul, Int.reduceToNat, Nat.reduceMul, reduceCtorEq, t0, t1, t5, e0, e1, e2, e3, e4, e5, e6, x2, h32, h18] <;> rfl), c33 b (by omega) hjb hj2, fun x3 g3 m3 hm3 hΦ3 => ?_⟩
          simp only [List.drop_succ_cons, List.drop_zero]
          obtain ⟨rfl, hg3⟩ := hΦ3
          have M3 : Mem h0 n0 g3 m3 d rd w r := M2.ext (Nat.le_refl _) (fun i hi => hg3 i (by
            rcases hi with hi | hi
            · have := M1.A.lo i hi; omega
            · have := M1.lo i hi; omega)) (fun x r0 hx hr => by rw [hg3 x (by have := M1.A.le; omega)]; exact M2.A.fr x r0 hx hr)
          refine vr_nil (aw_then ?_)
          refine AWp.seq ?_
          (refine aw_regionL hS (by kernel_rfl) ?_; repeat (first | apply vr0u | apply vr4 | apply b_tt | apply b_ff | apply b_tf | apply b_ft | apply b_no | exact isD.mk rfl | (apply eqG; (simp only [push_cast, ↓reduceIte, Nat.reduceEqDiff, Nat.reduceAdd, Nat.reduceLeDiff, Nat.reduceLT, Int.reduceLE, Int.reduceLT, Int.reduceAdd, Int.reduceSub, Int.reduceNeg, Int.reduceBEq, Int.reduceBNe, Int.reduceEq, Int.reduceGT, Int.reduceGE, Int.reduceMul, Int.reduceToNat, Nat.reduceMul, reduceCtorEq, t0, t1, t5, e0, e1, e2, e3, e4, e5, e6] <;> rfl)) | exact (rfl : app (swap _ _) _ = _)))
          refine vr_nil (aw_then ?_)
          refine AWp.ret ?_
          exact ⟨.inr rfl, [.b true], by simp [Try.f20, resAll, resT]; (simp only [push_cast, ↓reduceIte, Nat.reduceEqDiff, Nat.reduceAdd, Nat.reduceLeDiff, Nat.reduceLT, Int.reduceLE, Int.reduceLT, Int.reduceAdd, Int.reduceSub, Int.reduceNeg, Int.reduceBEq, Int.reduceBNe, Int.reduceEq, Int.reduceGT, Int.reduceGE, Int.reduceMul, Int.reduceToNat, Nat.reduceMul, reduceCtorEq, t0, t1, t5, e0, e1, e2, e3, e4, e5, e6] <;> rfl), rfl, _, _, M3, H, rfl, by omega⟩
        · have hx : w.read a.I = (.ro true [] 0, (w.read a.I).2) := Prod.ext hw rfl
          generalize (w.read a.I).2 = e at *
          rw [hx] at h32
          obtain ⟨S3, hS3, h18, n18⟩ := sum_pure hS2 (c18x (.ro true [] 0) (z := true) (b := []) rfl (by decide))
          obtain ⟨S4, hS4, h33, n33⟩ := sum_pure hS3 c33n
          have h32 : S4 32 [.p rd 0, .i .i64 a.I] g2 = .pure (.tup [.ro true [] 0, .i .i64 e]) := by rw [n33 32 (by decide), n18 32 (by decide)]; exact h32
          have h18 : ∀ g, S4 18 [.ro true [] 0, .ro true [] 0] g = .pure (.b true) := fun g => by rw [n33 18 (by decide)]; exact h18 g
          have q2 : (e == e) = true := by simp
          repeat (first | apply vr0u | apply vr4 | apply b_tt | apply b_ff | apply b_tf | apply b_ft | apply b_no | exact isD.mk rfl | (apply eqG; (simp only [push_cast, ↓reduceIte, Nat.reduceEqDiff, Nat.reduceAdd, Nat.reduceLeDiff, Nat.reduceLT, Int.reduceLE, Int.reduceLT, Int.reduceAdd, Int.reduceSub, Int.reduceNeg, Int.reduceBEq, Int.reduceBNe, Int.reduceEq, Int.reduceGT, Int.reduceGE, Int.reduceMul, Int.reduceToNat, Nat.reduceMul, reduceCtorEq, t0, t1, t5, e0, e1, e2, e3, e4, e5, e6, x2, h32, h18, h33, q2] <;> rfl)) | exact (rfl : app (swap _ _) _ = _))
          refine vr_nil (aw_then ?_)
          refine AWp.seq ?_
          (refine aw_regionL hS4 (by kernel_rfl) ?_; repeat (first | apply vr0u | apply vr4 | apply b_tt | apply b_ff | apply b_tf | apply b_ft | apply b_no | exact isD.mk rfl | (apply eqG; (simp only [push_cast, ↓reduceIte, Nat.reduceEqDiff, Nat.reduceAdd, Nat.reduceLeDiff, Nat.reduceLT, Int.reduceLE, Int.reduceLT, Int.reduceAdd, Int.reduceSub, Int.reduceNeg, Int.reduceBEq, Int.reduceBNe, Int.reduceEq, Int.reduceGT, Int.reduceGE, Int.reduceMul, Int.reduceToNat, Nat.reduceMul, reduceCtorEq, t0, t1, t5, e0, e1, e2, e3, e4, e5, e6, x2, h32, h18, h33, q2] <;> rfl)) | exact (rfl : app (swap _ _) _ = _)))
          refine vr_nil (aw_then ?_)
          refine AWp.seq ?_
          (refine aw_regionL hS4 (by kernel_rfl) ?_; repeat (first | apply vr0u | apply vr4 | apply b_tt | apply b_ff | apply b_tf | apply b_ft | apply b_no | exact isD.mk rfl | (apply eqG; (simp only [push_cast, ↓reduceIte, Nat.reduceEqDiff, Nat.reduceAdd, Nat.reduceLeDiff, Nat.reduceLT, Int.reduceLE, Int.reduceLT, Int.reduceAdd, Int.reduceSub, Int.reduceNeg, Int.reduceBEq, Int.reduceBNe, Int.reduceEq, Int.reduceGT, Int.reduceGE, Int.reduceMul, Int.reduceToNat, Nat.reduceMul, reduceCtorEq, t0, t1, t5, e0, e1, e2, e3, e4, e5, e6, x2, h32, h18, h33, q2] <;> rfl)) | exact (rfl : app (swap _ _) _ = _)))
          refine vr_nil (aw_then ?_)
          refine AWp.seq ?_
          (refine aw_regionL hS4 (by kernel_rfl) ?_; repeat (first | apply vr0u | apply vr4 | apply b_tt | apply b_ff | apply b_tf | apply b_ft | apply b_no | exact isD.mk rfl | (apply eqG; (simp only [push_cast, ↓reduceIte, Nat.reduceEqDiff, Nat.reduceAdd, Nat.reduceLeDiff, Nat.reduceLT, Int.reduceLE, Int.reduceLT, Int.reduceAdd, Int.reduceSub, Int.reduceNeg, Int.reduceBEq, Int.reduceBNe, Int.reduceEq, Int.reduceGT, Int.reduceGE, Int.reduceMul, Int.reduceToNat, Nat.reduceMul, reduceCtorEq, t0, t1, t5, e0, e1, e2, e3, e4, e5, e6, x2, h32, h18, h33, q2] <;> rfl)) | exact (rfl : app (swap _ _) _ = _)))
          refine vr_nil (aw_then ?_)
          refine AWp.seq ?_
          (refine aw_regionL hS4 (by kernel_rfl) ?_; repeat (first | apply vr0u | apply vr4 | apply b_tt | apply b_ff | apply b_tf | apply b_ft | apply b_no | exact isD.mk rfl | (apply eqG; (simp only [push_cast, ↓reduceIte, Nat.reduceEqDiff, Nat.reduceAdd, Nat.reduceLeDiff, Nat.reduceLT, Int.reduceLE, Int.reduceLT, Int.reduceAdd, Int.reduceSub, Int.reduceNeg, Int.reduceBEq, Int.reduceBNe, Int.reduceEq, Int.reduceGT, Int.reduceGE, Int.reduceMul, Int.reduceToNat, Nat.reduceMul, reduceCtorEq, t0, t1, t5, e0, e1, e2, e3, e4, e5, e6, x2, h32, h18, h33, q2] <;> rfl)) | exact (rfl : app (swap _ _) _ = _)))
          refine vr_nil (aw_then ?_)
          refine AWp.ret ?_
          exact ⟨.inr rfl, [.b true], by simp [Try.f20, resAll, resT]; (simp only [push_cast, ↓reduceIte, Nat.reduceEqDiff, Nat.reduceAdd, Nat.reduceLeDiff, Nat.reduceLT, Int.reduceLE, Int.reduceLT, Int.reduceAdd, Int.reduceSub, Int.reduceNeg, Int.reduceBEq, Int.reduceBNe, Int.reduceEq, Int.reduceGT, Int.reduceGE, Int.reduceMul, Int.reduceToNat, Nat.reduceMul, reduceCtorEq, t0, t1, t5, e0, e1, e2, e3, e4, e5, e6, x2, h32, h18, h33, q2] <;> rfl), rfl, _, _, M2, H, rfl, by omega⟩

      · have y3 : ((c : Int) == 3) = false := by simp; omega
        have y4 : ((c : Int) == 4) = false := by simp; omega
        have y5 : ((c : Int) == 5) = false := by simp; omega
        have y6 : ((c : Int) == 6) = false := by simp; omega
        have y7 : ((c : Int) == 7) = false := by simp; omega
        refine AWp.seq ?_
        (refine aw_regionL hS (by kernel_rfl) ?_; repeat (first | apply vr0u | apply vr4 | apply b_tt | apply b_ff | apply b_tf | apply b_ft | apply b_no | exact isD.mk rfl | (apply eqG; (simp only [push_cast, ↓reduceIte, Nat.reduceEqDiff, Nat.reduceAdd, Nat.reduceLeDiff, Nat.reduceLT, Int.reduceLE, Int.reduceLT, Int.reduceAdd, Int.reduceSub, Int.reduceNeg, Int.reduceBEq, Int.reduceBNe, Int.reduceEq, Int.reduceGT, Int.reduceGE, Int.reduceMul, Int.reduceToNat, Nat.reduceMul, reduceCtorEq, t0, t1, t5, e0, e1, e2, e3, e4, e5, e6, t21, y3, y4, y5, y6, y7] <;> rfl)) | exact (rfl : app (swap _ _) _ = _)))
        refine vr_nil (aw_then ?_)
        refine aw_false (by (simp only [push_cast, ↓reduceIte, Nat.reduceEqDiff, Nat.reduceAdd, Nat.reduceLeDiff, Nat.reduceLT, Int.reduceLE, Int.reduceLT, Int.reduceAdd, Int.reduceSub, Int.reduceNeg, Int.reduceBEq, Int.reduceBNe, Int.reduceEq, Int.reduceGT, Int.reduceGE, Int.reduceMul, Int.reduceToNat, Nat.reduceMul, reduceCtorEq, t0, t1, t5, e0, e1, e2, e3, e4, e5, e6, t21, y3, y4, y5, y6, y7] <;> rfl)) ?_
        refine AWp.seq ?_
        (refine aw_regionL hS (by kernel_rfl) ?_; repeat (first | apply vr0u | apply vr4 | apply b_tt | apply b_ff | apply b_tf | apply b_ft | apply b_no | exact isD.mk rfl | (apply eqG; (simp only [push_cast, ↓reduceIte, Nat.reduceEqDiff, Nat.reduceAdd, Nat.reduceLeDiff, Nat.reduceLT, Int.reduceLE, Int.reduceLT, Int.reduceAdd, Int.reduceSub, Int.reduceNeg, Int.reduceBEq, Int.reduceBNe, Int.reduceEq, Int.reduceGT, Int.reduceGE, Int.reduceMul, Int.reduceToNat, Nat.reduceMul, reduceCtorEq, t0, t1, t5, e0, e1, e2, e3, e4, e5, e6, t21, y3, y4, y5, y6, y7] <;> rfl)) | exact (rfl : app (swap _ _) _ = _)))
        refine vr_nil (aw_then ?_)
        refine aw_false (by (simp only [push_cast, ↓reduceIte, Nat.reduceEqDiff, Nat.reduceAdd, Nat.reduceLeDiff, Nat.reduceLT, Int.reduceLE, Int.reduceLT, Int.reduceAdd, Int.reduceSub, Int.reduceNeg, Int.reduceBEq, Int.reduceBNe, Int.reduceEq, Int.reduceGT, Int.reduceGE, Int.reduceMul, Int.reduceToNat, Nat.reduceMul, reduceCtorEq, t0, t1, t5, e0, e1, e2, e3, e4, e5, e6, t21, y3, y4, y5, y6, y7] <;> rfl)) ?_
        refine AWp.seq ?_
        (refine aw_regionL hS (by kernel_rfl) ?_; repeat (first | apply vr0u | apply vr4 | apply b_tt | apply b_ff | apply b_tf | apply b_ft | apply b_no | exact isD.mk rfl | (apply eqG; (simp only [push_cast, ↓reduceIte, Nat.reduceEqDiff, Nat.reduceAdd, Nat.reduceLeDiff, Nat.reduceLT, Int.reduceLE, Int.reduceLT, Int.reduceAdd, Int.reduceSub, Int.reduceNeg, Int.reduceBEq, Int.reduceBNe, Int.reduceEq, Int.reduceGT, Int.reduceGE, Int.reduceMul, Int.reduceToNat, Nat.reduceMul, reduceCtorEq, t0, t1, t5, e0, e1, e2, e3, e4, e5, e6, t21, y3, y4, y5, y6, y7] <;> rfl)) | exact (rfl : app (swap _ _) _ = _)))
        refine vr_nil (aw_then ?_)
        refine aw_false (by (simp only [push_cast, ↓reduceIte, Nat.reduceEqDiff, Nat.reduceAdd, Nat.reduceLeDiff, Nat.reduceLT, Int.reduceLE, Int.reduceLT, Int.reduceAdd, Int.reduceSub, Int.reduceNeg, Int.reduceBEq, Int.reduceBNe, Int.reduceEq, Int.reduceGT, Int.reduceGE, Int.reduceMul, Int.reduceToNat, Nat.reduceMul, reduceCtorEq, t0, t1, t5, e0, e1, e2, e3, e4, e5, e6, t21, y3, y4, y5, y6, y7] <;> rfl)) ?_
        refine AWp.seq ?_
        (refine aw_regionL hS (by kernel_rfl) ?_; repeat (first | apply vr0u | apply vr4 | apply b_tt | apply b_ff | apply b_tf | apply b_ft | apply b_no | exact isD.mk rfl | (apply eqG; (simp only [push_cast, ↓reduceIte, Nat.reduceEqDiff, Nat.reduceAdd, Nat.reduceLeDiff, Nat.reduceLT, Int.reduceLE, Int.reduceLT, Int.reduceAdd, Int.reduceSub, Int.reduceNeg, Int.reduceBEq, Int.reduceBNe, Int.reduceEq, Int.reduceGT, Int.reduceGE, Int.reduceMul, Int.reduceToNat, Nat.reduceMul, reduceCtorEq, t0, t1, t5, e0, e1, e2, e3, e4, e5, e6, t21, y3, y4, y5, y6, y7] <;> rfl)) | exact (rfl : app (swap _ _) _ = _)))
        refine vr_nil (aw_then ?_)
        refine aw_false (by (simp only [push_cast, ↓reduceIte, Nat.reduceEqDiff, Nat.reduceAdd, Nat.reduceLeDiff, Nat.reduceLT, Int.reduceLE, Int.reduceLT, Int.reduceAdd, Int.reduceSub, Int.reduceNeg, Int.reduceBEq, Int.reduceBNe, Int.reduceEq, Int.reduceGT, Int.reduceGE, Int.reduceMul, Int.reduceToNat, Nat.reduceMul, reduceCtorEq, t0, t1, t5, e0, e1, e2, e3, e4, e5, e6, t21, y3, y4, y5, y6, y7] <;> rfl)) ?_
        refine AWp.seq ?_
        (refine aw_regionL hS (by kernel_rfl) ?_; repeat (first | apply vr0u | apply vr4 | apply b_tt | apply b_ff | apply b_tf | apply b_ft | apply b_no | exact isD.mk rfl | (apply eqG; (simp only [push_cast, ↓reduceIte, Nat.reduceEqDiff, Nat.reduceAdd, Nat.reduceLeDiff, Nat.reduceLT, Int.reduceLE, Int.reduceLT, Int.reduceAdd, Int.reduceSub, Int.reduceNeg, Int.reduceBEq, Int.reduceBNe, Int.reduceEq, Int.reduceGT, Int.reduceGE, Int.reduceMul, Int.reduceToNat, Nat.reduceMul, reduceCtorEq, t0, t1, t5, e0, e1, e2, e3, e4, e5, e6, t21, y3, y4, y5, y6, y7] <;> rfl)) | exact (rfl : app (swap _ _) _ = _)))
        refine vr_nil (aw_then ?_)
        refine aw_false (by (simp only [push_cast, ↓reduceIte, Nat.reduceEqDiff, Nat.reduceAdd, Nat.reduceLeDiff, Nat.reduceLT, Int.reduceLE, Int.reduceLT, Int.reduceAdd, Int.reduceSub, Int.reduceNeg, Int.reduceBEq, Int.reduceBNe, Int.reduceEq, Int.reduceGT, Int.reduceGE, Int.reduceMul, Int.reduceToNat, Nat.reduceMul, reduceCtorEq, t0, t1, t5, e0, e1, e2, e3, e4, e5, e6, t21, y3, y4, y5, y6, y7] <;> rfl)) (AWp.skip (aw_in (aw_then ⟨by (simp only [push_cast, ↓reduceIte, Nat.reduceEqDiff, Nat.reduceAdd, Nat.reduceLeDiff, Nat.reduceLT, Int.reduceLE, Int.reduceLT, Int.reduceAdd, Int.reduceSub, Int.reduceNeg, Int.reduceBEq, Int.reduceBNe, Int.reduceEq, Int.reduceGT, Int.reduceGE, Int.reduceMul, Int.reduceToNat, Nat.reduceMul, reduceCtorEq, t0, t1, t5, e0, e1, e2, e3, e4, e5, e6, t21, y3, y4, y5, y6, y7] <;> rfl), by (simp only [push_cast, ↓reduceIte, Nat.reduceEqDiff, Nat.reduceAdd, Nat.reduceLeDiff, Nat.reduceLT, Int.reduceLE, Int.reduceLT, Int.reduceAdd, Int.reduceSub, Int.reduceNeg, Int.reduceBEq, Int.reduceBNe, Int.reduceEq, Int.reduceGT, Int.reduceGE, Int.reduceMul, Int.reduceToNat, Nat.reduceMul, reduceCtorEq, t0, t1, t5, e0, e1, e2, e3, e4, e5, e6, t21, y3, y4, y5, y6, y7] <;> rfl), by (simp only [push_cast, ↓reduceIte, Nat.reduceEqDiff, Nat.reduceAdd, Nat.reduceLeDiff, Nat.reduceLT, Int.reduceLE, Int.reduceLT, Int.reduceAdd, Int.reduceSub, Int.reduceNeg, Int.reduceBEq, Int.reduceBNe, Int.reduceEq, Int.reduceGT, Int.reduceGE, Int.reduceMul, Int.reduceToNat, Nat.reduceMul, reduceCtorEq, t0, t1, t5, e0, e1, e2, e3, e4, e5, e6, t21, y3, y4, y5, y6, y7] <;> rfl), rfl, rfl⟩)))

  · clear x1
    rintro t4 g4 m4 - ⟨t0, t1, t5, rfl, rfl⟩
    have fq : frz (only m (actC a)) 1 (t4 5) = .q (actC a) 0 := by
      rw [t5]
      simp only [frz, only, if_true]
      rw [List.map_id']
    refine AWp.frz1 (k := 5) (j := m) (d := 1) (cs := actC a) (upd_same ..) fq ?_
    have Mq := M1.own X1 M.A.le none
    generalize upd (upd g m (some (.cells (actC a)))) m none = gq at Mq ⊢
    have t0 : (put t4 (some 5) (.q (actC a) 0)) 0 = .p d 0 := by
      simp only [push_cast]; exact t0
    have t1 : (put t4 (some 5) (.q (actC a) 0)) 1 = .p rd 0 := by
      simp only [push_cast]; exact t1
    have t5 : (put t4 (some 5) (.q (actC a) 0)) 5 = .q (actC a) 0 := by
      simp only [push_cast]
    generalize put t4 (some 5) (.q (actC a) 0) = tq at t0 t1 t5 ⊢
    have h9 : DE 9 [a.B.v] gq = .pure (.ro false (cellsB (sectorB a.B.b)) 64) := at9e (by omega) (bt_case ha.bz)
    refine AWp.seq ?_
    (refine aw_regionL hS (by kernel_rfl) ?_; repeat (first | apply vr0u | apply vr4 | apply b_tt | apply b_ff | apply b_tf | apply b_ft | apply b_no | exact isD.mk rfl | (apply eqG; (simp only [push_cast, ↓reduceIte, Nat.reduceEqDiff, Nat.reduceAdd, Nat.reduceLeDiff, Nat.reduceLT, Int.reduceLE, Int.reduceLT, Int.reduceAdd, Int.reduceSub, Int.reduceNeg, Int.reduceBEq, Int.reduceBNe, Int.reduceEq, Int.reduceGT, Int.reduceGE, Int.reduceMul, Int.reduceToNat, Nat.reduceMul, reduceCtorEq, t0, t1, t5, e0, e1, e2, e3, e4, e5, e6, h9] <;> rfl)) | exact (rfl : app (swap _ _) _ = _)))
    refine vr_nil (aw_then ?_)
    refine AWp.cut (fun t' h' n' => ∃ z b, t' 15 = .ro z (cellsB b) b.length ∧ (z = true → b = []) ∧ b.length ≤ 200 ∧ t' 0 = .p d 0 ∧ t' 1 = .p rd 0 ∧ t' 5 = .q (actC a) 0 ∧ gq = h' ∧ n' = m + 1) ?_ ?_
    · obtain ⟨S2, hS2, h34, n34⟩ := sum_pure ok_DE (c34 a.B.z a.B.b (by omega))
      have h34 : ∀ g, S2 34 [a.B.v] g = .pure (.ro a.B.b.isEmpty (cellsB a.B.b) a.B.b.length) := h34
      refine AWp.seq ?_
      (refine aw_regionL hS (by kernel_rfl) ?_; repeat (first | apply vr0u | apply vr4 | apply b_tt | apply b_ff | apply b_tf | apply b_ft | apply b_no | exact isD.mk rfl | (apply eqG; (simp only [push_cast, ↓reduceIte, Nat.reduceEqDiff, Nat.reduceAdd, Nat.reduceLeDiff, Nat.reduceLT, Int.reduceLE, Int.reduceLT, Int.reduceAdd, Int.reduceSub, Int.reduceNeg, Int.reduceBEq, Int.reduceBNe, Int.reduceEq, Int.reduceGT, Int.reduceGE, Int.reduceMul, Int.reduceToNat, Nat.reduceMul, reduceCtorEq, t0, t1, t5, e0, e1, e2, e3, e4, e5, e6, h34] <;> rfl)) | exact (rfl : app (swap _ _) _ = _)))
      refine vr_nil (aw_then ?_)
      refine aw_split (by (simp only [push_cast, ↓reduceIte, Nat.reduceEqDiff, Nat.reduceAdd, Nat.reduceLeDiff, Nat.reduceLT, Int.reduceLE, Int.reduceLT, Int.reduceAdd, Int.reduceSub, Int.reduceNeg, Int.reduceBEq, Int.reduceBNe, Int.reduceEq, Int.reduceGT, Int.reduceGE, Int.reduceMul, Int.reduceToNat, Nat.reduceMul, reduceCtorEq, t0, t1, t5, e0, e1, e2, e3, e4, e5, e6, h34] <;> rfl)) (fun hr => ?_) (fun hr => ?_)
      · (refine aw_regionL hS2 (by kernel_rfl) ?_; repeat (first | apply vr0u | apply vr4 | apply b_tt | apply b_ff | apply b_tf | apply b_ft | apply b_no | exact isD.mk rfl | (apply eqG; (simp only [push_cast, ↓reduceIte, Nat.reduceEqDiff, Nat.reduceAdd, Nat.reduceLeDiff, Nat.reduceLT, Int.reduceLE, Int.reduceLT, Int.reduceAdd, Int.reduceSub, Int.reduceNeg, Int.reduceBEq, Int.reduceBNe, Int.reduceEq, Int.reduceGT, Int.reduceGE, Int.reduceMul, Int.reduceToNat, Nat.reduceMul, reduceCtorEq, t0, t1, t5, e0, e1, e2, e3, e4, e5, e6, h34] <;> rfl)) | exact (rfl : app (swap _ _) _ = _)))
        exact vr_nil (aw_then ⟨a.B.b.isEmpty, a.B.b, by (simp only [push_cast, ↓reduceIte, Nat.reduceEqDiff, Nat.reduceAdd, Nat.reduceLeDiff, Nat.reduceLT, Int.reduceLE, Int.reduceLT, Int.reduceAdd, Int.reduceSub, Int.reduceNeg, Int.reduceBEq, Int.reduceBNe, Int.reduceEq, Int.reduceGT, Int.reduceGE, Int.reduceMul, Int.reduceToNat, Nat.reduceMul, reduceCtorEq, t0, t1, t5, e0, e1, e2, e3, e4, e5, e6, h34] <;> rfl), fun he => by simpa using he, by omega, by (simp only [push_cast, ↓reduceIte, Nat.reduceEqDiff, Nat.reduceAdd, Nat.reduceLeDiff, Nat.reduceLT, Int.reduceLE, Int.reduceLT, Int.reduceAdd, Int.reduceSub, Int.reduceNeg, Int.reduceBEq, Int.reduceBNe, Int.reduceEq, Int.reduceGT, Int.reduceGE, Int.reduceMul, Int.reduceToNat, Nat.reduceMul, reduceCtorEq, t0, t1, t5, e0, e1, e2, e3, e4, e5, e6, h34] <;> rfl), by (simp only [push_cast, ↓reduceIte, Nat.reduceEqDiff, Nat.reduceAdd, Nat.reduceLeDiff, Nat.reduceLT, Int.reduceLE, Int.reduceLT, Int.reduceAdd, Int.reduceSub, Int.reduceNeg, Int.reduceBEq, Int.reduceBNe, Int.reduceEq, Int.reduceGT, Int.reduceGE, Int.reduceMul, Int.reduceToNat, Nat.reduceMul, reduceCtorEq, t0, t1, t5, e0, e1, e2, e3, e4, e5, e6, h34] <;> rfl), by (simp only [push_cast, ↓reduceIte, Nat.reduceEqDiff, Nat.reduceAdd, Nat.reduceLeDiff, Nat.reduceLT, Int.reduceLE, Int.reduceLT, Int.reduceAdd, Int.reduceSub, Int.reduceNeg, Int.reduceBEq, Int.reduceBNe, Int.reduceEq, Int.reduceGT, Int.reduceGE, Int.reduceMul, Int.reduceToNat, Nat.reduceMul, reduceCtorEq, t0, t1, t5, e0, e1, e2, e3, e4, e5, e6, h34] <;> rfl), rfl, rfl⟩)
      · exact AWp.skip (aw_then ⟨false, sectorB a.B.b, by rw [sectorB_len]; (simp only [push_cast, ↓reduceIte, Nat.reduceEqDiff, Nat.reduceAdd, Nat.reduceLeDiff, Nat.reduceLT, Int.reduceLE, Int.reduceLT, Int.reduceAdd, Int.reduceSub, Int.reduceNeg, Int.reduceBEq, Int.reduceBNe, Int.reduceEq, Int.reduceGT, Int.reduceGE, Int.reduceMul, Int.reduceToNat, Nat.reduceMul, reduceCtorEq, t0, t1, t5, e0, e1, e2, e3, e4, e5, e6, h34] <;> rfl), fun hc => (nomatch hc), by rw [sectorB_len]; decide, by (simp only [push_cast, ↓reduceIte, Nat.reduceEqDiff, Nat.reduceAdd, Nat.reduceLeDiff, Nat.reduceLT, Int.reduceLE, Int.reduceLT, Int.reduceAdd, Int.reduceSub, Int.reduceNeg, Int.reduceBEq, Int.reduceBNe, Int.reduceEq, Int.reduceGT, Int.reduceGE, Int.reduceMul, Int.reduceToNat, Nat.reduceMul, reduceCtorEq, t0, t1, t5, e0, e1, e2, e3, e4, e5, e6, h34] <;> rfl), by (simp only [push_cast, ↓reduceIte, Nat.reduceEqDiff, Nat.reduceAdd, Nat.reduceLeDiff, Nat.reduceLT, Int.reduceLE, Int.reduceLT, Int.reduceAdd, Int.reduceSub, Int.reduceNeg, Int.reduceBEq, Int.reduceBNe, Int.reduceEq, Int.reduceGT, Int.reduceGE, Int.reduceMul, Int.reduceToNat, Nat.reduceMul, reduceCtorEq, t0, t1, t5, e0, e1, e2, e3, e4, e5, e6, h34] <;> rfl), by (simp only [push_cast, ↓reduceIte, Nat.reduceEqDiff, Nat.reduceAdd, Nat.reduceLeDiff, Nat.reduceLT, Int.reduceLE, Int.reduceLT, Int.reduceAdd, Int.reduceSub, Int.reduceNeg, Int.reduceBEq, Int.reduceBNe, Int.reduceEq, Int.reduceGT, Int.reduceGE, Int.reduceMul, Int.reduceToNat, Nat.reduceMul, reduceCtorEq, t0, t1, t5, e0, e1, e2, e3, e4, e5, e6, h34] <;> rfl), rfl, rfl⟩)
    clear t0 t1 t5 h9
    rintro t5' g5 m5 - ⟨z, b, t15, hz, hbl, t0, t1, t5, rfl, rfl⟩
    have hWp : r.W.length < 1000000 := by rw [← H.pend]; omega
    by_cases hb0 : b = []
    case pos =>
      subst hb0
      obtain ⟨S2, hS2, h34, n34⟩ := sum_pure ok_DE (c34 z [] (by decide))
      have er : (([] : List UInt8).isEmpty) = true := rfl
      have eb : cellsB [] = [] := rfl
      have ez : ([] : List UInt8).length = 0 := rfl
      rw [er] at h34
      have h34 : ∀ g, S2 34 [.ro z (cellsB []) 0] g = .pure (.ro true (cellsB []) 0) := h34
      refine AWp.seq ?_
      (refine aw_regionL hS2 (by kernel_rfl) ?_; repeat (first | apply vr0u | apply vr4 | apply b_tt | apply b_ff | apply b_tf | apply b_ft | apply b_no | exact isD.mk rfl | (apply eqG; (simp only [push_cast, ↓reduceIte, Nat.reduceEqDiff, Nat.reduceAdd, Nat.reduceLeDiff, Nat.reduceLT, Int.reduceLE, Int.reduceLT, Int.reduceAdd, Int.reduceSub, Int.reduceNeg, Int.reduceBEq, Int.reduceBNe, Int.reduceEq, Int.reduceGT, Int.reduceGE, Int.reduceMul, Int.reduceToNat, Nat.reduceMul, reduceCtorEq, t0, t1, t5, e0, e1, e2, e3, e4, e5, e6, t15, h34] <;> rfl)) | exact (rfl : app (swap _ _) _ = _)))
      refine vr_nil (aw_then ?_)
      have T2 := Mq.A.tWrite a.I []
      have T2le := T2.le
      have M2 := Mq.turnW T2
      obtain ⟨hs1, hs2⟩ := H.write (m + 1) (w.write (m + 1) a.I []).2.2 a.I []
      have T3 := M2.tWrite hWp a.I []
      have T3le := T3.le
      have M3 := M2.turnR T3
      obtain ⟨l1, l2⟩ := len_write w (m + 1) a.I []
      have h18 := c18x (.ro true [] 0) (z := true) (b := []) rfl (by decide)
      obtain ⟨S3, hS3, h18, n18⟩ := sum_pure ok_DE (show PCalls Try.prog 18 [.ro true (cellsB []) 0, .ro z (cellsB []) 0] (.b true) from by
        have := c18 true z [] [] (by decide) (by decide)
        rw [decide_eq_true rfl] at this; exact this)
      obtain ⟨S4, hS4, h33, n33⟩ := sum_pure hS3 c33n
      obtain ⟨S5, hS5, h8, n8⟩ := sum_here hS4 (Mq.A.s8 (by omega) a.I (x := .ro true (cellsB []) 0) (b := []) (.inr (.inl ⟨rfl, rfl⟩)))
      obtain ⟨S6, hS6, h35, n35⟩ := sum_here hS5 (f := 35) (args := [.p rd 0, .i .i64 a.I, .ro z (cellsB []) 0]) (g := app (swap (w.cont d) ((w.write (m + 1) a.I []).2.1.cont d)) gq) (r := .wide fun k => (.i .i64 (r.write k a.I []).1, swap (r.cont rd) ((r.write k a.I []).2.1.cont rd), (r.write k a.I []).2.2)) (fun k => c35 M2.ok M2.F.has hWp a.I z (by decide) k)
      have h18 : ∀ g, S6 18 [.ro true (cellsB []) 0, .ro z (cellsB []) 0] g = .pure (.b true) := fun g => by rw [n35 18 (by decide), n8 18 (by decide), n33 18 (by decide)]; exact h18 g
      have h33 : ∀ g, S6 33 [.ro true (cellsB []) 0] g = .pure (.tup []) := fun g => by rw [n35 33 (by decide), n8 33 (by decide)]; exact h33 g
      have h8 : S6 8 [.p d 0, .i .i64 a.I, .ro true (cellsB []) 0] gq = .wide fun k => (.i .i64 (w.write k a.I []).1, swap (w.cont d) ((w.write k a.I []).2.1.cont d), (w.write k a.I []).2.2) := by rw [n35 8 (by decide)]; exact h8
      have q1 : ((w.write (m + 1) a.I []).1 == (r.write (w.write (m + 1) a.I []).2.2 a.I []).1) = true := by rw [hs1]; simp
      refine AWp.seq ?_
      refine aw_drawsL [0, 0, 2, 0, 15, 0, 0, 64, 0, 511, 1023, 2047, 4095, 4095, 16383, 32767, 65535] [4, 9, 1007] hS6 mixed (by kernel_rfl) (by kernel_rfl) ?_
      repeat (first | (refine vd0f (by decide) (by ((repeat (first | rewrite [hpL_t rfl] | rewrite [hpL_f rfl])); (simp only [hpL, app_cons, app_nil] <;> rfl))) (by (simp only [push_cast, ↓reduceIte, Nat.reduceEqDiff, Nat.reduceAdd, Nat.reduceLeDiff, Nat.reduceLT, Int.reduceLE, Int.reduceLT, Int.reduceAdd, Int.reduceSub, Int.reduceNeg, Int.reduceBEq, Int.reduceBNe, Int.reduceEq, Int.reduceGT, Int.reduceGE, Int.reduceMul, Int.reduceToNat, Nat.reduceMul, reduceCtorEq, t0, t1, t5, e0, e1, e2, e3, e4, e5, e6, t15, h8, h35, h18, h33, q1, ez] <;> rfl)) ?_) | (refine vd0q rfl (by decide) rfl (by ((repeat (first | rewrite [hpL_t rfl] | rewrite [hpL_f rfl])); (simp only [hpL, app_cons, app_nil] <;> rfl))) (by (simp only [push_cast, ↓reduceIte, Nat.reduceEqDiff, Nat.reduceAdd, Nat.reduceLeDiff, Nat.reduceLT, Int.reduceLE, Int.reduceLT, Int.reduceAdd, Int.reduceSub, Int.reduceNeg, Int.reduceBEq, Int.reduceBNe, Int.reduceEq, Int.reduceGT, Int.reduceGE, Int.reduceMul, Int.reduceToNat, Nat.reduceMul, reduceCtorEq, t0, t1, t5, e0, e1, e2, e3, e4, e5, e6, t15, h8, h35, h18, h33, q1, ez] <;> rfl)) (by simp) (by omega) (by intro u hu; simp only [List.mem_cons, List.not_mem_nil, or_false] at hu; rcases hu with rfl | rfl | rfl <;> simp only <;> omega) ?_) | (refine vd0w rfl (by decide) (by ((repeat (first | rewrite [hpL_t rfl] | rewrite [hpL_f rfl])); (simp only [hpL, app_cons, app_nil] <;> rfl))) (by (simp only [push_cast, ↓reduceIte, Nat.reduceEqDiff, Nat.reduceAdd, Nat.reduceLeDiff, Nat.reduceLT, Int.reduceLE, Int.reduceLT, Int.reduceAdd, Int.reduceSub, Int.reduceNeg, Int.reduceBEq, Int.reduceBNe, Int.reduceEq, Int.reduceGT, Int.reduceGE, Int.reduceMul, Int.reduceToNat, Nat.reduceMul, reduceCtorEq, t0, t1, t5, e0, e1, e2, e3, e4, e5, e6, t15, h8, h35, h18, h33, q1, ez] <;> rfl)) (by omega) (by intro u hu; simp only [List.mem_cons, List.not_mem_nil, or_false] at hu; rcases hu with rfl | rfl | rfl <;> simp only <;> omega) ?_) | (apply vd0; (focus rfl)) | (apply vd0r; (focus rfl); (focus decide); (focus rfl)) | (apply vd0p; (focus decide)) | apply vd4 | apply b_tt | apply b_ff | apply b_tf | apply b_ft | apply b_no | exact isD.mk rfl | ((repeat (first | rewrite [hpL_t rfl] | rewrite [hpL_f rfl])); (simp only [hpL, app_cons, app_nil] <;> rfl)) | (apply eqG; (simp only [push_cast, ↓reduceIte, Nat.reduceEqDiff, Nat.reduceAdd, Nat.reduceLeDiff, Nat.reduceLT, Int.reduceLE, Int.reduceLT, Int.reduceAdd, Int.reduceSub, Int.reduceNeg, Int.reduceBEq, Int.reduceBNe, Int.reduceEq, Int.reduceGT, Int.reduceGE, Int.reduceMul, Int.reduceToNat, Nat.reduceMul, reduceCtorEq, t0, t1, t5, e0, e1, e2, e3, e4, e5, e6, t15, h8, h35, h18, h33, q1, ez] <;> rfl)))
      refine vd0w rfl (by decide) (by ((repeat (first | rewrite [hpL_t rfl] | rewrite [hpL_f rfl])); (simp only [hpL, app_cons, app_nil] <;> rfl))) (by (simp only [push_cast, ↓reduceIte, Nat.reduceEqDiff, Nat.reduceAdd, Nat.reduceLeDiff, Nat.reduceLT, Int.reduceLE, Int.reduceLT, Int.reduceAdd, Int.reduceSub, Int.reduceNeg, Int.reduceBEq, Int.reduceBNe, Int.reduceEq, Int.reduceGT, Int.reduceGE, Int.reduceMul, Int.reduceToNat, Nat.reduceMul, reduceCtorEq, t0, t1, t5, e0, e1, e2, e3, e4, e5, e6, t15, h8, h35, h18, h33, q1, ez] <;> rfl)) (by omega) (swap_lt (fun j hj => by have := Mq.A.lo j hj; omega) (fun j hj => by rcases T2.key j hj with h | h; have := Mq.A.lo j h; omega; omega)) ?_
      repeat (first | (refine vd0f (by decide) (by ((repeat (first | rewrite [hpL_t rfl] | rewrite [hpL_f rfl])); (simp only [hpL, app_cons, app_nil] <;> rfl))) (by (simp only [push_cast, ↓reduceIte, Nat.reduceEqDiff, Nat.reduceAdd, Nat.reduceLeDiff, Nat.reduceLT, Int.reduceLE, Int.reduceLT, Int.reduceAdd, Int.reduceSub, Int.reduceNeg, Int.reduceBEq, Int.reduceBNe, Int.reduceEq, Int.reduceGT, Int.reduceGE, Int.reduceMul, Int.reduceToNat, Nat.reduceMul, reduceCtorEq, t0, t1, t5, e0, e1, e2, e3, e4, e5, e6, t15, h8, h35, h18, h33, q1, ez] <;> rfl)) ?_) | (refine vd0q rfl (by decide) rfl (by ((repeat (first | rewrite [hpL_t rfl] | rewrite [hpL_f rfl])); (simp only [hpL, app_cons, app_nil] <;> rfl))) (by (simp only [push_cast, ↓reduceIte, Nat.reduceEqDiff, Nat.reduceAdd, Nat.reduceLeDiff, Nat.reduceLT, Int.reduceLE, Int.reduceLT, Int.reduceAdd, Int.reduceSub, Int.reduceNeg, Int.reduceBEq, Int.reduceBNe, Int.reduceEq, Int.reduceGT, Int.reduceGE, Int.reduceMul, Int.reduceToNat, Nat.reduceMul, reduceCtorEq, t0, t1, t5, e0, e1, e2, e3, e4, e5, e6, t15, h8, h35, h18, h33, q1, ez] <;> rfl)) (by simp) (by omega) (by intro u hu; simp only [List.mem_cons, List.not_mem_nil, or_false] at hu; rcases hu with rfl | rfl | rfl <;> simp only <;> omega) ?_) | (refine vd0w rfl (by decide) (by ((repeat (first | rewrite [hpL_t rfl] | rewrite [hpL_f rfl])); (simp only [hpL, app_cons, app_nil] <;> rfl))) (by (simp only [push_cast, ↓reduceIte, Nat.reduceEqDiff, Nat.reduceAdd, Nat.reduceLeDiff, Nat.reduceLT, Int.reduceLE, Int.reduceLT, Int.reduceAdd, Int.reduceSub, Int.reduceNeg, Int.reduceBEq, Int.reduceBNe, Int.reduceEq, Int.reduceGT, Int.reduceGE, Int.reduceMul, Int.reduceToNat, Nat.reduceMul, reduceCtorEq, t0, t1, t5, e0, e1, e2, e3, e4, e5, e6, t15, h8, h35, h18, h33, q1, ez] <;> rfl)) (by omega) (by intro u hu; simp only [List.mem_cons, List.not_mem_nil, or_false] at hu; rcases hu with rfl | rfl | rfl <;> simp only <;> omega) ?_) | (apply vd0; (focus rfl)) | (apply vd0r; (focus rfl); (focus decide); (focus rfl)) | (apply vd0p; (focus decide)) | apply vd4 | apply b_tt | apply b_ff | apply b_tf | apply b_ft | apply b_no | exact isD.mk rfl | ((repeat (first | rewrite [hpL_t rfl] | rewrite [hpL_f rfl])); (simp only [hpL, app_cons, app_nil] <;> rfl)) | (apply eqG; (simp only [push_cast, ↓reduceIte, Nat.reduceEqDiff, Nat.reduceAdd, Nat.reduceLeDiff, Nat.reduceLT, Int.reduceLE, Int.reduceLT, Int.reduceAdd, Int.reduceSub, Int.reduceNeg, Int.reduceBEq, Int.reduceBNe, Int.reduceEq, Int.reduceGT, Int.reduceGE, Int.reduceMul, Int.reduceToNat, Nat.reduceMul, reduceCtorEq, t0, t1, t5, e0, e1, e2, e3, e4, e5, e6, t15, h8, h35, h18, h33, q1, ez] <;> rfl)))
      refine vd0w rfl (by decide) (by ((repeat (first | rewrite [hpL_t rfl] | rewrite [hpL_f rfl])); (simp only [hpL, app_cons, app_nil] <;> rfl))) (by (simp only [push_cast, ↓reduceIte, Nat.reduceEqDiff, Nat.reduceAdd, Nat.reduceLeDiff, Nat.reduceLT, Int.reduceLE, Int.reduceLT, Int.reduceAdd, Int.reduceSub, Int.reduceNeg, Int.reduceBEq, Int.reduceBNe, Int.reduceEq, Int.reduceGT, Int.reduceGE, Int.reduceMul, Int.reduceToNat, Nat.reduceMul, reduceCtorEq, t0, t1, t5, e0, e1, e2, e3, e4, e5, e6, t15, h8, h35, h18, h33, q1, ez] <;> rfl)) (by omega) (swap_lt (fun j hj => by have := Mq.lo j hj; omega) (fun j hj => by rcases T3.key j hj with h | h; have := Mq.lo j h; omega; omega)) ?_
      repeat (first | (refine vd0f (by decide) (by ((repeat (first | rewrite [hpL_t rfl] | rewrite [hpL_f rfl])); (simp only [hpL, app_cons, app_nil] <;> rfl))) (by (simp only [push_cast, ↓reduceIte, Nat.reduceEqDiff, Nat.reduceAdd, Nat.reduceLeDiff, Nat.reduceLT, Int.reduceLE, Int.reduceLT, Int.reduceAdd, Int.reduceSub, Int.reduceNeg, Int.reduceBEq, Int.reduceBNe, Int.reduceEq, Int.reduceGT, Int.reduceGE, Int.reduceMul, Int.reduceToNat, Nat.reduceMul, reduceCtorEq, t0, t1, t5, e0, e1, e2, e3, e4, e5, e6, t15, h8, h35, h18, h33, q1, ez] <;> rfl)) ?_) | (refine vd0q rfl (by decide) rfl (by ((repeat (first | rewrite [hpL_t rfl] | rewrite [hpL_f rfl])); (simp only [hpL, app_cons, app_nil] <;> rfl))) (by (simp only [push_cast, ↓reduceIte, Nat.reduceEqDiff, Nat.reduceAdd, Nat.reduceLeDiff, Nat.reduceLT, Int.reduceLE, Int.reduceLT, Int.reduceAdd, Int.reduceSub, Int.reduceNeg, Int.reduceBEq, Int.reduceBNe, Int.reduceEq, Int.reduceGT, Int.reduceGE, Int.reduceMul, Int.reduceToNat, Nat.reduceMul, reduceCtorEq, t0, t1, t5, e0, e1, e2, e3, e4, e5, e6, t15, h8, h35, h18, h33, q1, ez] <;> rfl)) (by simp) (by omega) (by intro u hu; simp only [List.mem_cons, List.not_mem_nil, or_false] at hu; rcases hu with rfl | rfl | rfl <;> simp only <;> omega) ?_) | (refine vd0w rfl (by decide) (by ((repeat (first | rewrite [hpL_t rfl] | rewrite [hpL_f rfl])); (simp only [hpL, app_cons, app_nil] <;> rfl))) (by (simp only [push_cast, ↓reduceIte, Nat.reduceEqDiff, Nat.reduceAdd, Nat.reduceLeDiff, Nat.reduceLT, Int.reduceLE, Int.reduceLT, Int.reduceAdd, Int.reduceSub, Int.reduceNeg, Int.reduceBEq, Int.reduceBNe, Int.reduceEq, Int.reduceGT, Int.reduceGE, Int.reduceMul, Int.reduceToNat, Nat.reduceMul, reduceCtorEq, t0, t1, t5, e0, e1, e2, e3, e4, e5, e6, t15, h8, h35, h18, h33, q1, ez] <;> rfl)) (by omega) (by intro u hu; simp only [List.mem_cons, List.not_mem_nil, or_false] at hu; rcases hu with rfl | rfl | rfl <;> simp only <;> omega) ?_) | (apply vd0; (focus rfl)) | (apply vd0r; (focus rfl); (focus decide); (focus rfl)) | (apply vd0p; (focus decide)) | apply vd4 | apply b_tt | apply b_ff | apply b_tf | apply b_ft | apply b_no | exact isD.mk rfl | ((repeat (first | rewrite [hpL_t rfl] | rewrite [hpL_f rfl])); (simp only [hpL, app_cons, app_nil] <;> rfl)) | (apply eqG; (simp only [push_cast, ↓reduceIte, Nat.reduceEqDiff, Nat.reduceAdd, Nat.reduceLeDiff, Nat.reduceLT, Int.reduceLE, Int.reduceLT, Int.reduceAdd, Int.reduceSub, Int.reduceNeg, Int.reduceBEq, Int.reduceBNe, Int.reduceEq, Int.reduceGT, Int.reduceGE, Int.reduceMul, Int.reduceToNat, Nat.reduceMul, reduceCtorEq, t0, t1, t5, e0, e1, e2, e3, e4, e5, e6, t15, h8, h35, h18, h33, q1, ez] <;> rfl)))
      (refine vd_nil (by simp only [hpL, app_cons, app_nil, if_true] <;> rfl) ?_)
      refine aw_then ?_
      refine AWp.seq ?_
      (refine aw_regionL hS6 (by kernel_rfl) ?_; repeat (first | apply vr0u | apply vr4 | apply b_tt | apply b_ff | apply b_tf | apply b_ft | apply b_no | exact isD.mk rfl | (apply eqG; (simp only [push_cast, ↓reduceIte, Nat.reduceEqDiff, Nat.reduceAdd, Nat.reduceLeDiff, Nat.reduceLT, Int.reduceLE, Int.reduceLT, Int.reduceAdd, Int.reduceSub, Int.reduceNeg, Int.reduceBEq, Int.reduceBNe, Int.reduceEq, Int.reduceGT, Int.reduceGE, Int.reduceMul, Int.reduceToNat, Nat.reduceMul, reduceCtorEq, t0, t1, t5, e0, e1, e2, e3, e4, e5, e6, t15, h8, h35, h18, h33, q1, ez] <;> rfl)) | exact (rfl : app (swap _ _) _ = _)))
      refine vr_nil (aw_then ?_)
      refine AWp.seq ?_
      (refine aw_regionL hS6 (by kernel_rfl) ?_; repeat (first | apply vr0u | apply vr4 | apply b_tt | apply b_ff | apply b_tf | apply b_ft | apply b_no | exact isD.mk rfl | (apply eqG; (simp only [push_cast, ↓reduceIte, Nat.reduceEqDiff, Nat.reduceAdd, Nat.reduceLeDiff, Nat.reduceLT, Int.reduceLE, Int.reduceLT, Int.reduceAdd, Int.reduceSub, Int.reduceNeg, Int.reduceBEq, Int.reduceBNe, Int.reduceEq, Int.reduceGT, Int.reduceGE, Int.reduceMul, Int.reduceToNat, Nat.reduceMul, reduceCtorEq, t0, t1, t5, e0, e1, e2, e3, e4, e5, e6, t15, h8, h35, h18, h33, q1, ez] <;> rfl)) | exact (rfl : app (swap _ _) _ = _)))
      refine vr_nil (aw_then ?_)
      refine AWp.ret ?_
      exact ⟨.inr rfl, [.b true], by simp [Try.f20, resAll, resT]; (simp only [push_cast, ↓reduceIte, Nat.reduceEqDiff, Nat.reduceAdd, Nat.reduceLeDiff, Nat.reduceLT, Int.reduceLE, Int.reduceLT, Int.reduceAdd, Int.reduceSub, Int.reduceNeg, Int.reduceBEq, Int.reduceBNe, Int.reduceEq, Int.reduceGT, Int.reduceGE, Int.reduceMul, Int.reduceToNat, Nat.reduceMul, reduceCtorEq, t0, t1, t5, e0, e1, e2, e3, e4, e5, e6, t15, h8, h35, h18, h33, q1, ez] <;> rfl), rfl, _, _, M3, hs2, l1, l2⟩

    case neg =>
      obtain ⟨S2, hS2, h34, n34⟩ := sum_here ok_DE (f := 34) (args := [.ro z (cellsB b) b.length]) (g := gq) (r := .fresh 1 b.length (cellsB b)) ⟨free_cellsB b, fun k => c34f z b (by omega) hb0 k⟩
      refine AWp.seq ?_
      (refine aw_regionL hS2 (by kernel_rfl) ?_; repeat (first | apply vr0u | apply vr4 | apply b_tt | apply b_ff | apply b_tf | apply b_ft | apply b_no | exact isD.mk rfl | (apply eqG; (simp only [push_cast, ↓reduceIte, Nat.reduceEqDiff, Nat.reduceAdd, Nat.reduceLeDiff, Nat.reduceLT, Int.reduceLE, Int.reduceLT, Int.reduceAdd, Int.reduceSub, Int.reduceNeg, Int.reduceBEq, Int.reduceBNe, Int.reduceEq, Int.reduceGT, Int.reduceGE, Int.reduceMul, Int.reduceToNat, Nat.reduceMul, reduceCtorEq, t0, t1, t5, e0, e1, e2, e3, e4, e5, e6, t15, h34] <;> rfl)) | exact (rfl : app (swap _ _) _ = _)))
      refine vr_nil (aw_then ?_)
      have Ma := Mq.new (some (.cells (cellsB b)))
      have Ya := Own.new Mq (cellsB b)
      generalize upd gq (m + 1) (some (.cells (cellsB b))) = ga at Ma Ya ⊢
      have T2 := Ma.A.tWrite a.I b
      have T2le := T2.le
      have M2 := Ma.turnW T2
      have Y2 := Ya.turnW T2
      obtain ⟨hs1, hs2⟩ := H.write (m + 1 + 1) (w.write (m + 1 + 1) a.I b).2.2 a.I b
      have T3 := M2.tWrite hWp a.I b
      have T3le := T3.le
      have M3 := M2.turnR T3
      have Y3 := Y2.turnR T3
      obtain ⟨l1, l2⟩ := len_write w (m + 1 + 1) a.I b
      obtain ⟨S5, hS5, h8, n8⟩ := sum_here ok_DE (Ma.A.s8 (by omega) a.I (x := .sl 1 (m + 1) 0 b.length) (b := b) (.inr (.inr ⟨m + 1, rfl, Ya.row, Ya.ow⟩)))
      obtain ⟨S6, hS6, h35, n35⟩ := sum_here hS5 (f := 35) (args := [.p rd 0, .i .i64 a.I, .ro z (cellsB b) b.length]) (g := app (swap (w.cont d) ((w.write (m + 1 + 1) a.I b).2.1.cont d)) ga) (r := .wide fun k => (.i .i64 (r.write k a.I b).1, swap (r.cont rd) ((r.write k a.I b).2.1.cont rd), (r.write k a.I b).2.2)) (fun k => c35 M2.ok M2.F.has hWp a.I z (by omega) k)
      obtain ⟨S7, hS7, h18, n18⟩ := sum_here hS6 (f := 18) (args := [.sl 1 (m + 1) 0 b.length, .ro z (cellsB b) b.length]) (g := app (swap (r.cont rd) ((r.write (w.write (m + 1 + 1) a.I b).2.2 a.I b).2.1.cont rd)) (app (swap (w.cont d) ((w.write (m + 1 + 1) a.I b).2.1.cont d)) ga)) (r := .pure (.b true)) (fun n => by
        refine DCalls.keep (k := 1) ?_ rfl
        simp only [List.map_cons, List.map_nil, frz_row Y3.row (show (cellsB b).length = b.length * 1 by rw [len_cellsB, Nat.mul_one])]
        have := c18 false z b b (by omega) (by omega) (iters (app (swap (r.cont rd) ((r.write (w.write (m + 1 + 1) a.I b).2.2 a.I b).2.1.cont rd)) (app (swap (w.cont d) ((w.write (m + 1 + 1) a.I b).2.1.cont d)) ga))) n
        rw [decide_eq_true rfl] at this
        rw [frz_free]
        · exact this
        · simp [AV.free, free_cellsB])
      have h35 : S7 35 [.p rd 0, .i .i64 a.I, .ro z (cellsB b) b.length] (app (swap (w.cont d) ((w.write (m + 1 + 1) a.I b).2.1.cont d)) ga) = .wide fun k => (.i .i64 (r.write k a.I b).1, swap (r.cont rd) ((r.write k a.I b).2.1.cont rd), (r.write k a.I b).2.2) := by rw [n18 35 (by decide)]; exact h35
      have h8 : S7 8 [.p d 0, .i .i64 a.I, .sl 1 (m + 1) 0 b.length] ga = .wide fun k => (.i .i64 (w.write k a.I b).1, swap (w.cont d) ((w.write k a.I b).2.1.cont d), (w.write k a.I b).2.2) := by rw [n18 8 (by decide), n35 8 (by decide)]; exact h8
      have q1 : ((w.write (m + 1 + 1) a.I b).1 == (r.write (w.write (m + 1 + 1) a.I b).2.2 a.I b).1) = true := by rw [hs1]; simp
      refine AWp.seq ?_
      refine aw_drawsL [0, 0, 2, 0, 15, 0, 0, 64, 0, 511, 1023, 2047, 4095, 4095, 16383, 32767, 65535] [4, 9, 1007] hS7 mixed (by kernel_rfl) (by kernel_rfl) ?_
      repeat (first | (refine vd0f (by decide) (by ((repeat (first | rewrite [hpL_t rfl] | rewrite [hpL_f rfl])); (simp only [hpL, app_cons, app_nil] <;> rfl))) (by (simp only [push_cast, ↓reduceIte, Nat.reduceEqDiff, Nat.reduceAdd, Nat.reduceLeDiff, Nat.reduceLT, Int.reduceLE, Int.reduceLT, Int.reduceAdd, Int.reduceSub, Int.reduceNeg, Int.reduceBEq, Int.reduceBNe, Int.reduceEq, Int.reduceGT, Int.reduceGE, Int.reduceMul, Int.reduceToNat, Nat.reduceMul, reduceCtorEq, t0, t1, t5, e0, e1, e2, e3, e4, e5, e6, t15, h8, h35, h18, q1] <;> rfl)) ?_) | (refine vd0q rfl (by decide) rfl (by ((repeat (first | rewrite [hpL_t rfl] | rewrite [hpL_f rfl])); (simp only [hpL, app_cons, app_nil] <;> rfl))) (by (simp only [push_cast, ↓reduceIte, Nat.reduceEqDiff, Nat.reduceAdd, Nat.reduceLeDiff, Nat.reduceLT, Int.reduceLE, Int.reduceLT, Int.reduceAdd, Int.reduceSub, Int.reduceNeg, Int.reduceBEq, Int.reduceBNe, Int.reduceEq, Int.reduceGT, Int.reduceGE, Int.reduceMul, Int.reduceToNat, Nat.reduceMul, reduceCtorEq, t0, t1, t5, e0, e1, e2, e3, e4, e5, e6, t15, h8, h35, h18, q1] <;> rfl)) (by simp) (by omega) (by intro u hu; simp only [List.mem_cons, List.not_mem_nil, or_false] at hu; rcases hu with rfl | rfl | rfl <;> simp only <;> omega) ?_) | (refine vd0w rfl (by decide) (by ((repeat (first | rewrite [hpL_t rfl] | rewrite [hpL_f rfl])); (simp only [hpL, app_cons, app_nil] <;> rfl))) (by (simp only [push_cast, ↓reduceIte, Nat.reduceEqDiff, Nat.reduceAdd, Nat.reduceLeDiff, Nat.reduceLT, Int.reduceLE, Int.reduceLT, Int.reduceAdd, Int.reduceSub, Int.reduceNeg, Int.reduceBEq, Int.reduceBNe, Int.reduceEq, Int.reduceGT, Int.reduceGE, Int.reduceMul, Int.reduceToNat, Nat.reduceMul, reduceCtorEq, t0, t1, t5, e0, e1, e2, e3, e4, e5, e6, t15, h8, h35, h18, q1] <;> rfl)) (by omega) (by intro u hu; simp only [List.mem_cons, List.not_mem_nil, or_false] at hu; rcases hu with rfl | rfl | rfl <;> simp only <;> omega) ?_) | (apply vd0; (focus rfl)) | (apply vd0r; (focus rfl); (focus decide); (focus rfl)) | (apply vd0p; (focus decide)) | apply vd4 | apply b_tt | apply b_ff | apply b_tf | apply b_ft | apply b_no | exact isD.mk rfl | ((repeat (first | rewrite [hpL_t rfl] | rewrite [hpL_f rfl])); (simp only [hpL, app_cons, app_nil] <;> rfl)) | (apply eqG; (simp only [push_cast, ↓reduceIte, Nat.reduceEqDiff, Nat.reduceAdd, Nat.reduceLeDiff, Nat.reduceLT, Int.reduceLE, Int.reduceLT, Int.reduceAdd, Int.reduceSub, Int.reduceNeg, Int.reduceBEq, Int.reduceBNe, Int.reduceEq, Int.reduceGT, Int.reduceGE, Int.reduceMul, Int.reduceToNat, Nat.reduceMul, reduceCtorEq, t0, t1, t5, e0, e1, e2, e3, e4, e5, e6, t15, h8, h35, h18, q1] <;> rfl)))
      refine vd0w rfl (by decide) (by ((repeat (first | rewrite [hpL_t rfl] | rewrite [hpL_f rfl])); (simp only [hpL, app_cons, app_nil] <;> rfl))) (by (simp only [push_cast, ↓reduceIte, Nat.reduceEqDiff, Nat.reduceAdd, Nat.reduceLeDiff, Nat.reduceLT, Int.reduceLE, Int.reduceLT, Int.reduceAdd, Int.reduceSub, Int.reduceNeg, Int.reduceBEq, Int.reduceBNe, Int.reduceEq, Int.reduceGT, Int.reduceGE, Int.reduceMul, Int.reduceToNat, Nat.reduceMul, reduceCtorEq, t0, t1, t5, e0, e1, e2, e3, e4, e5, e6, t15, h8, h35, h18, q1] <;> rfl)) (by omega) (swap_lt (fun j hj => by have := Ma.A.lo j hj; omega) (fun j hj => by rcases T2.key j hj with h | h; have := Ma.A.lo j h; omega; omega)) ?_
      repeat (first | (refine vd0f (by decide) (by ((repeat (first | rewrite [hpL_t rfl] | rewrite [hpL_f rfl])); (simp only [hpL, app_cons, app_nil] <;> rfl))) (by (simp only [push_cast, ↓reduceIte, Nat.reduceEqDiff, Nat.reduceAdd, Nat.reduceLeDiff, Nat.reduceLT, Int.reduceLE, Int.reduceLT, Int.reduceAdd, Int.reduceSub, Int.reduceNeg, Int.reduceBEq, Int.reduceBNe, Int.reduceEq, Int.reduceGT, Int.reduceGE, Int.reduceMul, Int.reduceToNat, Nat.reduceMul, reduceCtorEq, t0, t1, t5, e0, e1, e2, e3, e4, e5, e6, t15, h8, h35, h18, q1] <;> rfl)) ?_) | (refine vd0q rfl (by decide) rfl (by ((repeat (first | rewrite [hpL_t rfl] | rewrite [hpL_f rfl])); (simp only [hpL, app_cons, app_nil] <;> rfl))) (by (simp only [push_cast, ↓reduceIte, Nat.reduceEqDiff, Nat.reduceAdd, Nat.reduceLeDiff, Nat.reduceLT, Int.reduceLE, Int.reduceLT, Int.reduceAdd, Int.reduceSub, Int.reduceNeg, Int.reduceBEq, Int.reduceBNe, Int.reduceEq, Int.reduceGT, Int.reduceGE, Int.reduceMul, Int.reduceToNat, Nat.reduceMul, reduceCtorEq, t0, t1, t5, e0, e1, e2, e3, e4, e5, e6, t15, h8, h35, h18, q1] <;> rfl)) (by simp) (by omega) (by intro u hu; simp only [List.mem_cons, List.not_mem_nil, or_false] at hu; rcases hu with rfl | rfl | rfl <;> simp only <;> omega) ?_) | (refine vd0w rfl (by decide) (by ((repeat (first | rewrite [hpL_t rfl] | rewrite [hpL_f rfl])); (simp only [hpL, app_cons, app_nil] <;> rfl))) (by (simp only [push_cast, ↓reduceIte, Nat.reduceEqDiff, Nat.reduceAdd, Nat.reduceLeDiff, Nat.reduceLT, Int.reduceLE, Int.reduceLT, Int.reduceAdd, Int.reduceSub, Int.reduceNeg, Int.reduceBEq, Int.reduceBNe, Int.reduceEq, Int.reduceGT, Int.reduceGE, Int.reduceMul, Int.reduceToNat, Nat.reduceMul, reduceCtorEq, t0, t1, t5, e0, e1, e2, e3, e4, e5, e6, t15, h8, h35, h18, q1] <;> rfl)) (by omega) (by intro u hu; simp only [List.mem_cons, List.not_mem_nil, or_false] at hu; rcases hu with rfl | rfl | rfl <;> simp only <;> omega) ?_) | (apply vd0; (focus rfl)) | (apply vd0r; (focus rfl); (focus decide); (focus rfl)) | (apply vd0p; (focus decide)) | apply vd4 | apply b_tt | apply b_ff | apply b_tf | apply b_ft | apply b_no | exact isD.mk rfl | ((repeat (first | rewrite [hpL_t rfl] | rewrite [hpL_f rfl])); (simp only [hpL, app_cons, app_nil] <;> rfl)) | (apply eqG; (simp only [push_cast, ↓reduceIte, Nat.reduceEqDiff, Nat.reduceAdd, Nat.reduceLeDiff, Nat.reduceLT, Int.reduceLE, Int.reduceLT, Int.reduceAdd, Int.reduceSub, Int.reduceNeg, Int.reduceBEq, Int.reduceBNe, Int.reduceEq, Int.reduceGT, Int.reduceGE, Int.reduceMul, Int.reduceToNat, Nat.reduceMul, reduceCtorEq, t0, t1, t5, e0, e1, e2, e3, e4, e5, e6, t15, h8, h35, h18, q1] <;> rfl)))
      refine vd0w rfl (by decide) (by ((repeat (first | rewrite [hpL_t rfl] | rewrite [hpL_f rfl])); (simp only [hpL, app_cons, app_nil] <;> rfl))) (by (simp only [push_cast, ↓reduceIte, Nat.reduceEqDiff, Nat.reduceAdd, Nat.reduceLeDiff, Nat.reduceLT, Int.reduceLE, Int.reduceLT, Int.reduceAdd, Int.reduceSub, Int.reduceNeg, Int.reduceBEq, Int.reduceBNe, Int.reduceEq, Int.reduceGT, Int.reduceGE, Int.reduceMul, Int.reduceToNat, Nat.reduceMul, reduceCtorEq, t0, t1, t5, e0, e1, e2, e3, e4, e5, e6, t15, h8, h35, h18, q1] <;> rfl)) (by omega) (swap_lt (fun j hj => by have := Ma.lo j hj; omega) (fun j hj => by rcases T3.key j hj with h | h; have := Ma.lo j h; omega; omega)) ?_
      repeat (first | (refine vd0f (by decide) (by ((repeat (first | rewrite [hpL_t rfl] | rewrite [hpL_f rfl])); (simp only [hpL, app_cons, app_nil] <;> rfl))) (by (simp only [push_cast, ↓reduceIte, Nat.reduceEqDiff, Nat.reduceAdd, Nat.reduceLeDiff, Nat.reduceLT, Int.reduceLE, Int.reduceLT, Int.reduceAdd, Int.reduceSub, Int.reduceNeg, Int.reduceBEq, Int.reduceBNe, Int.reduceEq, Int.reduceGT, Int.reduceGE, Int.reduceMul, Int.reduceToNat, Nat.reduceMul, reduceCtorEq, t0, t1, t5, e0, e1, e2, e3, e4, e5, e6, t15, h8, h35, h18, q1] <;> rfl)) ?_) | (refine vd0q rfl (by decide) rfl (by ((repeat (first | rewrite [hpL_t rfl] | rewrite [hpL_f rfl])); (simp only [hpL, app_cons, app_nil] <;> rfl))) (by (simp only [push_cast, ↓reduceIte, Nat.reduceEqDiff, Nat.reduceAdd, Nat.reduceLeDiff, Nat.reduceLT, Int.reduceLE, Int.reduceLT, Int.reduceAdd, Int.reduceSub, Int.reduceNeg, Int.reduceBEq, Int.reduceBNe, Int.reduceEq, Int.reduceGT, Int.reduceGE, Int.reduceMul, Int.reduceToNat, Nat.reduceMul, reduceCtorEq, t0, t1, t5, e0, e1, e2, e3, e4, e5, e6, t15, h8, h35, h18, q1] <;> rfl)) (by simp) (by omega) (by intro u hu; simp only [List.mem_cons, List.not_mem_nil, or_false] at hu; rcases hu with rfl | rfl | rfl <;> simp only <;> omega) ?_) | (refine vd0w rfl (by decide) (by ((repeat (first | rewrite [hpL_t rfl] | rewrite [hpL_f rfl])); (simp only [hpL, app_cons, app_nil] <;> rfl))) (by (simp only [push_cast, ↓reduceIte, Nat.reduceEqDiff, Nat.reduceAdd, Nat.reduceLeDiff, Nat.reduceLT, Int.reduceLE, Int.reduceLT, Int.reduceAdd, Int.reduceSub, Int.reduceNeg, Int.reduceBEq, Int.reduceBNe, Int.reduceEq, Int.reduceGT, Int.reduceGE, Int.reduceMul, Int.reduceToNat, Nat.reduceMul, reduceCtorEq, t0, t1, t5, e0, e1, e2, e3, e4, e5, e6, t15, h8, h35, h18, q1] <;> rfl)) (by omega) (by intro u hu; simp only [List.mem_cons, List.not_mem_nil, or_false] at hu; rcases hu with rfl | rfl | rfl <;> simp only <;> omega) ?_) | (apply vd0; (focus rfl)) | (apply vd0r; (focus rfl); (focus decide); (focus rfl)) | (apply vd0p; (focus decide)) | apply vd4 | apply b_tt | apply b_ff | apply b_tf | apply b_ft | apply b_no | exact isD.mk rfl | ((repeat (first | rewrite [hpL_t rfl] | rewrite [hpL_f rfl])); (simp only [hpL, app_cons, app_nil] <;> rfl)) | (apply eqG; (simp only [push_cast, ↓reduceIte, Nat.reduceEqDiff, Nat.reduceAdd, Nat.reduceLeDiff, Nat.reduceLT, Int.reduceLE, Int.reduceLT, Int.reduceAdd, Int.reduceSub, Int.reduceNeg, Int.reduceBEq, Int.reduceBNe, Int.reduceEq, Int.reduceGT, Int.reduceGE, Int.reduceMul, Int.reduceToNat, Nat.reduceMul, reduceCtorEq, t0, t1, t5, e0, e1, e2, e3, e4, e5, e6, t15, h8, h35, h18, q1] <;> rfl)))
      (refine vd_nil (by simp only [hpL, app_cons, app_nil, if_true] <;> rfl) ?_)
      refine aw_then ?_

      refine AWp.seq ?_
      refine aw_callK 1 ok_DE (by kernel_rfl) rfl rfl rfl ?_
      simp only [List.take_succ_cons, List.take_zero]
      repeat (first | apply vr0u | apply vr4 | apply b_tt | apply b_ff | apply b_tf | apply b_ft | apply b_no | exact isD.mk rfl | (apply eqG; (simp only [push_cast, ↓reduceIte, Nat.reduceEqDiff, Nat.reduceAdd, Nat.reduceLeDiff, Nat.reduceLT, Int.reduceLE, Int.reduceLT, Int.reduceAdd, Int.reduceSub, Int.reduceNeg, Int.reduceBEq, Int.reduceBNe, Int.reduceEq, Int.reduceGT, Int.reduceGE, Int.reduceMul, Int.reduceToNat, Nat.reduceMul, reduceCtorEq, t0, t1, t5, e0, e1, e2, e3, e4, e5, e6, t15, h8, h35, h18, q1] <;> rfl)) | exact (rfl : app (swap _ _) _ = _))
      refine vr_nil ⟨33, [], [], [.sl 1 (m + 1) 0 b.length], _, rfl, by (simp only [push_cast, ↓reduceIte, Nat.reduceEqDiff, Nat.reduceAdd, Nat.reduceLeDiff, Nat.reduceLT, Int.reduceLE, Int.reduceLT, Int.reduceAdd, Int.reduceSub, Int.reduceNeg, Int.reduceBEq, Int.reduceBNe, Int.reduceEq, Int.reduceGT, Int.reduceGE, Int.reduceMul, Int.reduceToNat, Nat.reduceMul, reduceCtorEq, t0, t1, t5, e0, e1, e2, e3, e4, e5, e6, t15, h8, h35, h18, q1] <;> rfl), c33 b (by omega) Y3.row Y3.lt, fun x3 g3 m3 hm3 hΦ3 => ?_⟩
      simp only [List.drop_succ_cons, List.drop_zero]
      obtain ⟨rfl, hg3⟩ := hΦ3
      have hn0 : n0 ≤ m := M.A.le
      have M4 := M3.ext (g' := g3) (Nat.le_refl _) (fun i hi => hg3 i (fun e => by
        rcases hi with hi | hi
        · exact Y3.ow (e ▸ hi)
        · exact Y3.orr (e ▸ hi))) (fun x r0 hx hr => by rw [hg3 x (by omega)]; exact M3.A.fr x r0 hx hr)
      refine vr_nil (aw_then ?_)
      refine AWp.seq ?_
      (refine aw_regionL hS (by kernel_rfl) ?_; repeat (first | apply vr0u | apply vr4 | apply b_tt | apply b_ff | apply b_tf | apply b_ft | apply b_no | exact isD.mk rfl | (apply eqG; (simp only [push_cast, ↓reduceIte, Nat.reduceEqDiff, Nat.reduceAdd, Nat.reduceLeDiff, Nat.reduceLT, Int.reduceLE, Int.reduceLT, Int.reduceAdd, Int.reduceSub, Int.reduceNeg, Int.reduceBEq, Int.reduceBNe, Int.reduceEq, Int.reduceGT, Int.reduceGE, Int.reduceMul, Int.reduceToNat, Nat.reduceMul, reduceCtorEq, t0, t1, t5, e0, e1, e2, e3, e4, e5, e6] <;> rfl)) | exact (rfl : app (swap _ _) _ = _)))
      refine vr_nil (aw_then ?_)
      refine AWp.ret ?_
      exact ⟨.inr rfl, [.b true], by simp [Try.f20, resAll, resT]; (simp only [push_cast, ↓reduceIte, Nat.reduceEqDiff, Nat.reduceAdd, Nat.reduceLeDiff, Nat.reduceLT, Int.reduceLE, Int.reduceLT, Int.reduceAdd, Int.reduceSub, Int.reduceNeg, Int.reduceBEq, Int.reduceBNe, Int.reduceEq, Int.reduceGT, Int.reduceGE, Int.reduceMul, Int.reduceToNat, Nat.reduceMul, reduceCtorEq, t0, t1, t5, e0, e1, e2, e3, e4, e5, e6] <;> rfl), rfl, _, _, M4, hs2, l1, l2⟩


end Go.Proofs.Ytepfknnffooaiaa
