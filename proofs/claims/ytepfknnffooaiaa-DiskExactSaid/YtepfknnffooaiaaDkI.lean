import Derived.Test.YtepfknnffooaiaaDkH

namespace Go.Proofs.Ytepfknnffooaiaa
open Go.Av
set_option maxRecDepth 100000
set_option maxHeartbeats 1000000
set_option linter.unusedSimpArgs false
set_option linter.unusedVariables false
attribute [local push_cast] stepE callR resE aeff aev ofC ofC1 put_at Av.put_none inTmps List.getD_cons_zero List.getD_cons_succ AV.boxable if_true if_false AV.cells aload place app_cons app_nil upd_same Av.part abin aconv aindexAddr fillA splice_one abuiltin alen amax amin aun aindex Option.map_some Option.isSome_some List.map_cons List.map_nil List.nil_append List.append_nil List.cons_append Nat.le_refl Nat.zero_add Nat.add_zero List.length_cons List.length_nil List.drop_succ_cons List.drop_zero List.take_succ_cons List.take_zero beq_self_eq_true bne_self_eq_false Bool.not_true Bool.not_false List.set_cons_zero List.set_cons_succ Bool.false_eq_true IntWalk.i64_in decide_true decide_false Int.toNat_zero and_self and_true true_and List.getElem?_cons_zero List.getElem?_cons_succ aappend aapp view Bool.and_true Bool.true_and Nat.mul_one Option.map_none aslice asliceB nilOp Int.toNat_natCast und_30 agT_3 szT_3 kiT_3 agT_4 szT_4 kiT_4 agT_5 szT_5 kiT_5 agT_25 szT_25 kiT_25 agT_28 szT_28 kiT_28 agT_22 szT_22 kiT_22 agT_23 szT_23 kiT_23 agT_30 szT_30 kiT_30 agT_37 szT_37 kiT_37 agT_38 szT_38 kiT_38 agT_52 szT_52 kiT_52 agT_53 szT_53 kiT_53 agT_24 szT_24 kiT_24 agT_54 szT_54 kiT_54 agT_47 szT_47 kiT_47 slT_22 slT_23 slT_30 slT_37 slT_38 slT_52 slT_53 zeT_3 zeT_4 zeT_5 zeT_30 flT_56_0 flT_56_1 flT_56_2 flT_56_3 flT_56_4 agT_56 szT_56 buT_56 zeT_56 flT_58_0 flT_58_1 agT_58 szT_58 buT_58 zeT_58 flT_62_0 flT_62_1 agT_62 szT_62 buT_62 zeT_62 flT_65_0 flT_65_1 flT_65_2 agT_65 szT_65 buT_65 zeT_65 flT_42_0 flT_42_1 flT_42_2 flT_42_3 flT_42_4 flT_42_5 agT_42 szT_42 buT_42 zeT_42 flT_68_0 flT_68_1 flT_68_2 flT_68_3 flT_68_4 flT_68_5 flT_68_6 agT_68 szT_68 buT_68 zeT_68 ptT_24 ptT_54 ptT_47 und_30 

/-- A row is given up to a call that only reads it. -/
theorem DCalls.give {P : Program} {f : FuncId} {args args' : List AV} {h : Heap} {n n' : Nat} {r : AV} {us : List (Nat × Option Row)} {j : Nat} {cs : List AV} (hj : h j = some (.cells cs)) (ha : args.map (frz (only j cs) 1) = args') (hd : DCalls P f args' (upd h j none) n r us n') : DCalls P f args h n r ((j, none) :: us) n' := by
  subst ha
  refine DCalls.drop (k := 1) (g := only j cs) (h' := upd h j none) (fun i cs' hi => ?_) (fun i r hi => ?_) hd rfl
  · unfold only at hi
    split at hi
    · rename_i he; subst he; injection hi with hi; injection hi with hi; subst hi; exact hj
    · cases hi
  · by_cases h1 : i = j
    · subst h1; rw [upd_same] at hi; cases hi
    · rw [upd_ne _ _ h1] at hi
      refine ⟨hi, fun cs' hc' => ?_⟩
      unfold only at hc'
      rw [if_neg h1] at hc'; cases hc'
theorem frz_other {j d off : Nat} {cs : List AV} (h : d ≠ j) : frz (only j cs) 1 (.p d off) = .p d off := by
  simp only [frz, only, if_neg h]
theorem frz0 (g : Heap) (l : List AV) : l.map (frz g 0) = l := by
  have : ∀ x, frz g 0 x = x := fun x => by simp [frz]
  induction l with
  | nil => rfl
  | cons x l ih => rw [List.map_cons, this, ih]
theorem frz_this {j sz len : Nat} {cs : List AV} (h : cs.length = len * sz) : frz (only j cs) 1 (.sl sz j 0 len) = .ro false cs len := by
  simp only [frz, only, if_true]
  rw [if_pos (by omega), List.drop_zero, List.take_of_length_le (by omega)]
  congr 1
  exact List.map_id' cs
theorem write_ok {w : DW} {m : Nat} {i : Int} {b : List UInt8} (ho : w.off = false) (h0 : 0 ≤ i) (h1 : i < w.safe.length) (hb : b.length = 64) (ht : w.trip = none) : w.write m i b = (0, w.wrote (m + 1) i.toNat b, m + 2) := by
  have h2 : wrongE w.off w.safe.length i = 0 := by simp only [wrongE, ho, Bool.false_eq_true, if_false]; rw [if_neg (by omega)]
  have h3 : (w.wrote (m + 1) i.toNat b).trips (m + 2) = (false, w.wrote (m + 1) i.toNat b, m + 2) := by simp only [DW.trips, DW.wrote, ht]
  unfold DW.write
  rw [if_neg (by omega), if_neg (by omega), h3]
  rfl
theorem Out.yes {fn : Func} {e : Exit} {h h1 : Heap} {n n1 : Nat} {t : Tmps} {a : Tmp} (he : e = .normal ∨ e = .ret) (hf : fn.results = #[.tmp a]) (hx : t a = .b true) (hh : ∀ x r, x < n → h x = some r → h1 x = some r) : Out Try.prog fn n h (.b true) [] n e t h1 n1 := Out.pure1 he hf hx rfl trivial hh
def b7 : List UInt8 := zero64.set 0 7
theorem c14 : PCalls Try.prog 14 [] (.b true) := by
  intro h n
  have hS := ok_DD
  have h7 : DD 7 [.i .i64 2] h = .wide (fun n => (.tup [.p n 0, .i .i64 0], swap [] ((newW 2 n).cont n), n + 1 + 3 * 2 + 1)) := at7 (N := 2) (by decide) (by decide) h
  refine DCalls.of Try.func14 rfl (by decide) (Nat.le_of_ble_eq_true rfl) (Nat.le_refl _) ?_
  refine AWp.seq ?_
  (refine aw_regionL hS (by kernel_rfl) ?_; repeat (first | apply vr0u | apply vr4 | apply b_tt | apply b_ff | apply b_tf | apply b_ft | apply b_no | exact isD.mk rfl | (apply eqG; (simp only [push_cast, ↓reduceIte, Nat.reduceEqDiff, Nat.reduceAdd, Nat.reduceLeDiff, Nat.reduceLT, Int.reduceLE, Int.reduceLT, Int.reduceAdd, Int.reduceSub, Int.reduceNeg, Int.reduceBEq, Int.reduceBNe, Int.reduceEq, Int.reduceGT, Int.reduceGE, Int.reduceMul, Int.reduceToNat, Nat.reduceMul, reduceCtorEq, h7] <;> rfl)) | exact (rfl : app (swap _ _) _ = _)))
  refine vr_nil (aw_then ?_)
  refine AWp.seq ?_
  (refine aw_regionL hS (by kernel_rfl) ?_; repeat (first | apply vr0u | apply vr4 | apply b_tt | apply b_ff | apply b_tf | apply b_ft | apply b_no | exact isD.mk rfl | (apply eqG; (simp only [push_cast, ↓reduceIte, Nat.reduceEqDiff, Nat.reduceAdd, Nat.reduceLeDiff, Nat.reduceLT, Int.reduceLE, Int.reduceLT, Int.reduceAdd, Int.reduceSub, Int.reduceNeg, Int.reduceBEq, Int.reduceBNe, Int.reduceEq, Int.reduceGT, Int.reduceGE, Int.reduceMul, Int.reduceToNat, Nat.reduceMul, reduceCtorEq, h7] <;> rfl)) | exact (rfl : app (swap _ _) _ = _)))
  refine vr_nil (aw_then ?_)
  have A1 := At.tNew (h0 := h) (n0 := n) (m := n) (N := 2) (by decide) (by decide) (Nat.le_refl _) keep0
  generalize hw1 : newW 2 n = w1 at A1
  have f1 : w1.off = false ∧ w1.safe = [some zero64, some zero64] ∧ w1.pend = [] ∧ w1.trip = none := by subst hw1; exact ⟨rfl, rfl, rfl, rfl⟩
  clear hw1
  generalize app (swap [] (w1.cont n)) h = g1 at A1 ⊢
  generalize n + 1 + 3 * 2 + 1 = m1 at A1 ⊢
  have r64 : rep 64 [AV.i .u8 0] = cellsB zero64 := rep64
  have qm : ((0 : Int) ≤ 64) = True := by simp
  have q1 : (cellsB zero64).set 0 (.i .u8 7) = cellsB b7 := rfl
  have q2 : (0 + 1 ≤ (cellsB zero64).length) = True := by simp [cellsB, zero64]
  refine AWp.seq ?_
  refine AWp.seq ?_
  (refine aw_regionL hS (by kernel_rfl) ?_; repeat (first | apply vr0u | apply vr4 | apply b_tt | apply b_ff | apply b_tf | apply b_ft | apply b_no | exact isD.mk rfl | (apply eqG; (simp only [push_cast, ↓reduceIte, Nat.reduceEqDiff, Nat.reduceAdd, Nat.reduceLeDiff, Nat.reduceLT, Int.reduceLE, Int.reduceLT, Int.reduceAdd, Int.reduceSub, Int.reduceNeg, Int.reduceBEq, Int.reduceBNe, Int.reduceEq, Int.reduceGT, Int.reduceGE, Int.reduceMul, Int.reduceToNat, Nat.reduceMul, reduceCtorEq, r64, qm, q1, q2] <;> rfl)) | exact (rfl : app (swap _ _) _ = _)))
  refine vr_nil (aw_then ?_)
  refine aw_false (by (simp only [push_cast, ↓reduceIte, Nat.reduceEqDiff, Nat.reduceAdd, Nat.reduceLeDiff, Nat.reduceLT, Int.reduceLE, Int.reduceLT, Int.reduceAdd, Int.reduceSub, Int.reduceNeg, Int.reduceBEq, Int.reduceBNe, Int.reduceEq, Int.reduceGT, Int.reduceGE, Int.reduceMul, Int.reduceToNat, Nat.reduceMul, reduceCtorEq, r64, qm, q1, q2] <;> rfl)) (AWp.skip (aw_then ?_))
  refine AWp.seq ?_
  (refine aw_regionL hS (by kernel_rfl) ?_; repeat (first | apply vr0u | apply vr4 | apply b_tt | apply b_ff | apply b_tf | apply b_ft | apply b_no | exact isD.mk rfl | (apply eqG; (simp only [push_cast, ↓reduceIte, Nat.reduceEqDiff, Nat.reduceAdd, Nat.reduceLeDiff, Nat.reduceLT, Int.reduceLE, Int.reduceLT, Int.reduceAdd, Int.reduceSub, Int.reduceNeg, Int.reduceBEq, Int.reduceBNe, Int.reduceEq, Int.reduceGT, Int.reduceGE, Int.reduceMul, Int.reduceToNat, Nat.reduceMul, reduceCtorEq, r64, qm, q1, q2] <;> rfl)) | exact (rfl : app (swap _ _) _ = _)))
  refine vr_nil (aw_then ?_)
  refine AWp.seq ?_
  (refine aw_regionL hS (by kernel_rfl) ?_; repeat (first | apply vr0u | apply vr4 | apply b_tt | apply b_ff | apply b_tf | apply b_ft | apply b_no | exact isD.mk rfl | (apply eqG; (simp only [push_cast, ↓reduceIte, Nat.reduceEqDiff, Nat.reduceAdd, Nat.reduceLeDiff, Nat.reduceLT, Int.reduceLE, Int.reduceLT, Int.reduceAdd, Int.reduceSub, Int.reduceNeg, Int.reduceBEq, Int.reduceBNe, Int.reduceEq, Int.reduceGT, Int.reduceGE, Int.reduceMul, Int.reduceToNat, Nat.reduceMul, reduceCtorEq, r64, qm, q1, q2] <;> rfl)) | exact (rfl : app (swap _ _) _ = _)))
  refine vr_nil (aw_then ?_)
  have A2 := ((A1.upd (j := m1) A1.le A1.new (some (.cells (cellsB zero64)))).upd (j := m1) A1.le A1.new (some (.cells (cellsB b7)))).upd (j := m1) A1.le A1.new none |>.more (Nat.le_succ m1)
  refine AWp.freeze (j := m1) (k := 3) (cs := cellsB b7) (by (simp only [push_cast, ↓reduceIte, Nat.reduceEqDiff, Nat.reduceAdd, Nat.reduceLeDiff, Nat.reduceLT, Int.reduceLE, Int.reduceLT, Int.reduceAdd, Int.reduceSub, Int.reduceNeg, Int.reduceBEq, Int.reduceBNe, Int.reduceEq, Int.reduceGT, Int.reduceGE, Int.reduceMul, Int.reduceToNat, Nat.reduceMul, reduceCtorEq, r64, qm, q1, q2] <;> rfl)) (by (simp only [push_cast, ↓reduceIte, Nat.reduceEqDiff, Nat.reduceAdd, Nat.reduceLeDiff, Nat.reduceLT, Int.reduceLE, Int.reduceLT, Int.reduceAdd, Int.reduceSub, Int.reduceNeg, Int.reduceBEq, Int.reduceBNe, Int.reduceEq, Int.reduceGT, Int.reduceGE, Int.reduceMul, Int.reduceToNat, Nat.reduceMul, reduceCtorEq, r64, qm, q1, q2] <;> rfl)) (by decide) ?_
  have eb : AV.ro false (((cellsB b7).drop 0).take (64 * 1)) 64 = .ro false (cellsB b7) b7.length := rfl
  rw [eb]
  generalize upd (upd (upd g1 m1 _) m1 _) m1 none = g2 at A2 ⊢
  obtain ⟨o1, s1, p1, t1⟩ := f1
  have hb7 : b7.length = 64 := rfl
  obtain ⟨S2, hS2, h8, -⟩ := sum_here ok_DD (A2.s8 (by rw [p1]; decide) 0 (x := .ro false (cellsB b7) b7.length) (b := b7) (.inl rfl))
  have T2 := A2.tWrite 0 b7
  have A3 := A2.turn T2
  have e2 := write_ok (m := m1 + 1) (i := 0) (b := b7) o1 (by decide) (by rw [s1]; decide) hb7 t1
  refine AWp.seq ?_
  refine aw_regionL hS2 (by kernel_rfl) ?_
  repeat (first | apply vr0u | apply vr4 | apply b_tt | apply b_ff | apply b_tf | apply b_ft | apply b_no | exact isD.mk rfl | (apply eqG; (simp only [push_cast, ↓reduceIte, Nat.reduceEqDiff, Nat.reduceAdd, Nat.reduceLeDiff, Nat.reduceLT, Int.reduceLE, Int.reduceLT, Int.reduceAdd, Int.reduceSub, Int.reduceNeg, Int.reduceBEq, Int.reduceBNe, Int.reduceEq, Int.reduceGT, Int.reduceGE, Int.reduceMul, Int.reduceToNat, Nat.reduceMul, reduceCtorEq, h8] <;> rfl)) | exact (rfl : app (swap _ _) _ = _))
  refine vr_nil (aw_then ?_)
  have f3 : (w1.write (m1 + 1) 0 b7).2.1.off = false ∧ (w1.write (m1 + 1) 0 b7).2.1.safe = [some zero64, some zero64] ∧ (w1.write (m1 + 1) 0 b7).2.1.pend = [(0, b7)] ∧ (w1.write (m1 + 1) 0 b7).2.1.trip = none := by rw [e2]; exact ⟨o1, s1, by show w1.pend ++ _ = _; rw [p1]; rfl, t1⟩
  generalize hq3 : w1.write (m1 + 1) 0 b7 = q3 at A3 f3 ⊢
  obtain ⟨r3, w3, m3⟩ := q3
  simp only at A3 f3 ⊢
  clear h8 hS2 e2 hq3 T2
  obtain ⟨o3, s3, p3, t3⟩ := f3
  generalize app (swap (w1.cont n) (w3.cont n)) g2 = g3 at A3 ⊢
  clear S2
  obtain ⟨S2, hS2, h8, -⟩ := sum_here ok_DD (A3.s8 (by rw [p3]; decide) 1 (x := .ro false (cellsB b7) b7.length) (b := b7) (.inl rfl))
  have T3 := A3.tWrite 1 b7
  have A4 := A3.turn T3
  have e3 := write_ok (m := m3) (i := 1) (b := b7) o3 (by decide) (by rw [s3]; decide) hb7 t3
  refine AWp.seq ?_
  refine aw_regionL hS2 (by kernel_rfl) ?_
  repeat (first | apply vr0u | apply vr4 | apply b_tt | apply b_ff | apply b_tf | apply b_ft | apply b_no | exact isD.mk rfl | (apply eqG; (simp only [push_cast, ↓reduceIte, Nat.reduceEqDiff, Nat.reduceAdd, Nat.reduceLeDiff, Nat.reduceLT, Int.reduceLE, Int.reduceLT, Int.reduceAdd, Int.reduceSub, Int.reduceNeg, Int.reduceBEq, Int.reduceBNe, Int.reduceEq, Int.reduceGT, Int.reduceGE, Int.reduceMul, Int.reduceToNat, Nat.reduceMul, reduceCtorEq, h8] <;> rfl)) | exact (rfl : app (swap _ _) _ = _))
  refine vr_nil (aw_then ?_)
  have f4 : (w3.write m3 1 b7).2.1.off = false ∧ (w3.write m3 1 b7).2.1.safe = [some zero64, some zero64] ∧ (w3.write m3 1 b7).2.1.pend = [(0, b7), (1, b7)] ∧ (w3.write m3 1 b7).2.1.trip = none := by rw [e3]; exact ⟨o3, s3, by show w3.pend ++ _ = _; rw [p3]; rfl, t3⟩
  generalize hq4 : w3.write m3 1 b7 = q4 at A4 f4 ⊢
  obtain ⟨r4, w4, m4⟩ := q4
  simp only at A4 f4 ⊢
  clear h8 hS2 e3 hq4 T3
  obtain ⟨o4, s4, p4, t4⟩ := f4
  generalize app (swap (w3.cont n) (w4.cont n)) g3 = g4 at A4 ⊢
  clear S2
  have A5 := ((A4.upd (j := m4) A4.le A4.new (some (.cells (bools [false, true])))).upd (j := m4) A4.le A4.new none).more (Nat.le_succ m4)
  have hd5 : n ≠ m4 := by have := A4.lo n (DW.keys_iff.2 (.inl rfl)); omega
  obtain ⟨S2, hS2, h10, -⟩ : ∃ S2, SumOk Try.prog S2 ∧ S2 10 [.p n 0, .sl 1 m4 0 2, .i .i64 (-1)] (upd g4 m4 (some (.cells (bools [false, true])))) = .wide (fun k => (.tup [], (m4, none) :: swap (w4.cont n) ((w4.crash [false, true] (-1) (k + w4.pend.length)).cont n), k + w4.pend.length + 1)) ∧ True := by
    obtain ⟨S2, h1, h2, _⟩ := sum_here ok_DD (f := 10) (args := [.p n 0, .sl 1 m4 0 2, .i .i64 (-1)]) (g := upd g4 m4 (some (.cells (bools [false, true])))) (r := .wide (fun k => (.tup [], (m4, none) :: swap (w4.cont n) ((w4.crash [false, true] (-1) (k + w4.pend.length)).cont n), k + w4.pend.length + 1))) (fun k => by
      refine DCalls.give (args' := [.p n 0, .ro false (bools [false, true]) 2, .i .i64 (-1)]) (upd_same ..) ?_ (A5.s10 (by rw [p4]; decide) o4 false [false, true] (-1) k)
      simp only [List.map_cons, List.map_nil, frz_other hd5, frz_this (j := m4) (sz := 1) (len := 2) (cs := bools [false, true]) rfl]
      rfl)
    exact ⟨S2, h1, h2, trivial⟩
  have A6 := A5.turn (A5.tCrash [false, true] (-1))
  have r2 : rep 2 [AV.b false] = [.b false, .b false] := rfl
  have r3 : [AV.b false, AV.b true] = bools [false, true] := rfl
  refine AWp.seq ?_
  refine aw_regionL hS2 (by kernel_rfl) ?_
  repeat (first | apply vr0u | apply vr4 | apply b_tt | apply b_ff | apply b_tf | apply b_ft | apply b_no | exact isD.mk rfl | (apply eqG; (simp only [push_cast, ↓reduceIte, Nat.reduceEqDiff, Nat.reduceAdd, Nat.reduceLeDiff, Nat.reduceLT, Int.reduceLE, Int.reduceLT, Int.reduceAdd, Int.reduceSub, Int.reduceNeg, Int.reduceBEq, Int.reduceBNe, Int.reduceEq, Int.reduceGT, Int.reduceGE, Int.reduceMul, Int.reduceToNat, Nat.reduceMul, reduceCtorEq, r2, r3, h10] <;> rfl)) | exact (rfl : app (swap _ _) _ = _))
  refine vr_nil (aw_then ?_)
  have f6 : (w4.crash [false, true] (-1) (m4 + 1 + w4.pend.length)).safe = [some zero64, some b7] ∧ (w4.crash [false, true] (-1) (m4 + 1 + w4.pend.length)).now = [some zero64, some b7] := by
    simp only [DW.crash, p4, s4]; exact ⟨rfl, rfl⟩
  generalize w4.crash [false, true] (-1) (m4 + 1 + w4.pend.length) = w6 at A6 f6 ⊢
  generalize app (swap (w4.cont n) (w6.cont n)) (upd (upd g4 m4 _) m4 none) = g6 at A6 ⊢
  generalize m4 + 1 + w4.pend.length + 1 = m6 at A6 ⊢
  clear h10 hS2
  clear S2
  obtain ⟨S2, hS2, h13, -⟩ := sum_here ok_DD A6.s13
  have A7 := A6.turn A6.tStart
  refine AWp.seq ?_
  refine aw_regionL hS2 (by kernel_rfl) ?_
  repeat (first | apply vr0u | apply vr4 | apply b_tt | apply b_ff | apply b_tf | apply b_ft | apply b_no | exact isD.mk rfl | (apply eqG; (simp only [push_cast, ↓reduceIte, Nat.reduceEqDiff, Nat.reduceAdd, Nat.reduceLeDiff, Nat.reduceLT, Int.reduceLE, Int.reduceLT, Int.reduceAdd, Int.reduceSub, Int.reduceNeg, Int.reduceBEq, Int.reduceBNe, Int.reduceEq, Int.reduceGT, Int.reduceGE, Int.reduceMul, Int.reduceToNat, Nat.reduceMul, reduceCtorEq, h13] <;> rfl)) | exact (rfl : app (swap _ _) _ = _))
  refine vr_nil (aw_then ?_)
  have f7 : w6.start.safe = [some zero64, some b7] ∧ w6.start.now = [some zero64, some b7] ∧ w6.start.off = false := ⟨f6.1, f6.2, rfl⟩
  generalize w6.start = w7 at A7 f7 ⊢
  generalize app (swap (w6.cont n) (w7.cont n)) g6 = g7 at A7 ⊢
  clear h13 hS2
  clear S2
  obtain ⟨s7, n7, o7⟩ := f7
  obtain ⟨S2, hS2, h11, -⟩ := sum_here ok_DD (A7.s11 0)
  obtain ⟨S3, hS3, h11b, hne⟩ := sum_here ok_DD (A7.s11 1)
  have e0 : w7.read 0 = (.ro false (cellsB zero64) zero64.length, 0) := by simp only [DW.read, s7, n7, o7]; rfl
  have e1 : w7.read 1 = (.ro false (cellsB b7) b7.length, 0) := by simp only [DW.read, s7, n7, o7]; rfl
  rw [e0] at h11
  rw [e1] at h11b
  have z0 : (cellsB zero64)[0]? = some (.i .u8 0) := rfl
  have z1 : (cellsB b7)[0]? = some (.i .u8 7) := rfl
  have z2 : zero64.length = 64 := rfl
  refine AWp.seq ?_
  refine aw_regionL hS2 (by kernel_rfl) ?_
  repeat (first | apply vr0u | apply vr4 | apply b_tt | apply b_ff | apply b_tf | apply b_ft | apply b_no | exact isD.mk rfl | (apply eqG; (simp only [push_cast, ↓reduceIte, Nat.reduceEqDiff, Nat.reduceAdd, Nat.reduceLeDiff, Nat.reduceLT, Int.reduceLE, Int.reduceLT, Int.reduceAdd, Int.reduceSub, Int.reduceNeg, Int.reduceBEq, Int.reduceBNe, Int.reduceEq, Int.reduceGT, Int.reduceGE, Int.reduceMul, Int.reduceToNat, Nat.reduceMul, reduceCtorEq, h11, h11b, z0, z1, z2, hb7] <;> rfl)) | exact (rfl : app (swap _ _) _ = _))
  refine vr_nil (aw_then ?_)
  refine AWp.seq ?_
  refine aw_regionL hS3 (by kernel_rfl) ?_
  repeat (first | apply vr0u | apply vr4 | apply b_tt | apply b_ff | apply b_tf | apply b_ft | apply b_no | exact isD.mk rfl | (apply eqG; (simp only [push_cast, ↓reduceIte, Nat.reduceEqDiff, Nat.reduceAdd, Nat.reduceLeDiff, Nat.reduceLT, Int.reduceLE, Int.reduceLT, Int.reduceAdd, Int.reduceSub, Int.reduceNeg, Int.reduceBEq, Int.reduceBNe, Int.reduceEq, Int.reduceGT, Int.reduceGE, Int.reduceMul, Int.reduceToNat, Nat.reduceMul, reduceCtorEq, h11, h11b, z0, z1, z2, hb7] <;> rfl)) | exact (rfl : app (swap _ _) _ = _))
  refine vr_nil (aw_then ?_)
  refine AWp.seq ?_
  (refine aw_regionL hS (by kernel_rfl) ?_; repeat (first | apply vr0u | apply vr4 | apply b_tt | apply b_ff | apply b_tf | apply b_ft | apply b_no | exact isD.mk rfl | (apply eqG; (simp only [push_cast, ↓reduceIte, Nat.reduceEqDiff, Nat.reduceAdd, Nat.reduceLeDiff, Nat.reduceLT, Int.reduceLE, Int.reduceLT, Int.reduceAdd, Int.reduceSub, Int.reduceNeg, Int.reduceBEq, Int.reduceBNe, Int.reduceEq, Int.reduceGT, Int.reduceGE, Int.reduceMul, Int.reduceToNat, Nat.reduceMul, reduceCtorEq, h11, h11b, z0, z1, z2, hb7] <;> rfl)) | exact (rfl : app (swap _ _) _ = _)))
  refine vr_nil (aw_then ?_)
  refine AWp.ret ?_
  exact Out.yes (.inr rfl) rfl (by (simp only [push_cast, ↓reduceIte, Nat.reduceEqDiff, Nat.reduceAdd, Nat.reduceLeDiff, Nat.reduceLT, Int.reduceLE, Int.reduceLT, Int.reduceAdd, Int.reduceSub, Int.reduceNeg, Int.reduceBEq, Int.reduceBNe, Int.reduceEq, Int.reduceGT, Int.reduceGE, Int.reduceMul, Int.reduceToNat, Nat.reduceMul, reduceCtorEq, h11, h11b, z0, z1, z2, hb7] <;> rfl)) A7.fr
noncomputable def DE : Sums := DD.addG 14 fun args _ => if args = [] then .pure (.b true) else .no
theorem ok_DE : SumOk Try.prog DE := ok_DD.addG fun args h => by
  split
  · rename_i he; intro n; rw [he]; exact c14 h n
  · trivial
theorem at14 (h : Heap) : DE 14 [] h = .pure (.b true) := rfl

end Go.Proofs.Ytepfknnffooaiaa
