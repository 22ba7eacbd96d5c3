import Derived.Test.YtepfknnffooaiaaDoorDoV

namespace Go.Proofs.YtepfknnffooaiaaDoor
open Go.Av
set_option maxRecDepth 100000
set_option maxHeartbeats 1000000
set_option linter.unusedSimpArgs false
set_option linter.unusedVariables false
attribute [local push_cast] stepE callR resE aeff aev ofC ofC1 put_at Av.put_none inTmps List.getD_cons_zero List.getD_cons_succ AV.boxable if_true if_false AV.cells aload place app_cons app_nil upd_same Av.part abin aconv aindexAddr fillA splice_one abuiltin alen amax amin aun aindex Option.map_some Option.isSome_some List.map_cons List.map_nil List.nil_append List.append_nil List.cons_append Nat.le_refl Nat.zero_add Nat.add_zero List.length_cons List.length_nil List.drop_succ_cons List.drop_zero List.take_succ_cons List.take_zero beq_self_eq_true bne_self_eq_false Bool.not_true Bool.not_false List.set_cons_zero List.set_cons_succ Bool.false_eq_true IntWalk.i64_in decide_true decide_false Int.toNat_zero and_self and_true true_and List.getElem?_cons_zero List.getElem?_cons_succ aappend aapp view Bool.and_true Bool.true_and Nat.mul_one Option.map_none aslice asliceB nilOp Int.toNat_natCast und_30 agT_3 szT_3 kiT_3 agT_5 szT_5 kiT_5 agT_24 szT_24 kiT_24 agT_62 szT_62 kiT_62 agT_4 szT_4 kiT_4 agT_9 szT_9 kiT_9 agT_44 szT_44 kiT_44 agT_45 szT_45 kiT_45 agT_30 szT_30 kiT_30 agT_22 szT_22 kiT_22 agT_41 szT_41 kiT_41 agT_51 szT_51 kiT_51 agT_52 szT_52 kiT_52 agT_23 szT_23 kiT_23 agT_53 szT_53 kiT_53 agT_27 szT_27 kiT_27 agT_89 szT_89 kiT_89 agT_66 szT_66 kiT_66 agT_20 szT_20 kiT_20 slT_45 slT_44 slT_30 slT_22 slT_41 slT_51 slT_52 zeT_3 zeT_4 zeT_5 zeT_30 zeT_24 flT_55_0 flT_55_1 flT_55_2 flT_55_3 flT_55_4 agT_55 szT_55 buT_55 zeT_55 flT_57_0 flT_57_1 agT_57 szT_57 buT_57 zeT_57 flT_74_0 flT_74_1 agT_74 szT_74 buT_74 zeT_74 flT_77_0 flT_77_1 flT_77_2 agT_77 szT_77 buT_77 zeT_77 flT_47_0 flT_47_1 flT_47_2 flT_47_3 flT_47_4 flT_47_5 agT_47 szT_47 buT_47 zeT_47 flT_61_0 flT_61_1 agT_61 szT_61 buT_61 zeT_61 flT_64_0 flT_64_1 agT_64 szT_64 buT_64 zeT_64 flT_91_0 flT_91_1 agT_91 szT_91 buT_91 zeT_91 ptT_23 ptT_53 ptT_27 ptT_89 und_30 

/-! ### saves, as they come in -/
structure Sv where
  B : Bt
  times : Int
  trip : Int
  kz : Bool
  keep : List Bool
  torn : Int
  az : Bool
  again : List Int
structure Sv.Ok (a : Sv) : Prop where
  bz : a.B.z = true → a.B.b = []
  tr : a.trip ≤ 9223372036854775807
  kz : a.kz = true → a.keep = []
  ag : ∀ x, x ∈ a.again → x ≤ 9223372036854775807
def svC (a : Sv) : List AV := [.ro a.B.z (cellsB a.B.b) a.B.b.length, .i .i64 a.times, .i .i64 a.trip, .ro a.kz (bools a.keep) a.keep.length, .i .i64 a.torn, .ro a.az (intsV a.again) a.again.length]
def svs : List Sv → List AV
  | [] => []
  | a :: l => svC a ++ svs l
theorem svs_len : ∀ l, (svs l).length = l.length * 6
  | [] => rfl
  | a :: l => by simp only [svs, svC, List.length_append, List.length_cons, List.length_nil, svs_len l]; omega
theorem svs_get : ∀ {l : List Sv} {i : Nat} (hi : i < l.length), ((svs l).drop (i * 6)).take 6 = svC l[i]
  | a :: l, 0, _ => rfl
  | a :: l, i + 1, hi => by
    rw [show (i + 1) * 6 = 6 + i * 6 by omega, ← List.drop_drop]
    exact svs_get (l := l) (by simpa using hi)
theorem svs_at {l : List Sv} {k : Nat} (hk : k < l.length) {i : Nat} (hi : i < 6) : (svs l)[k * 6 + i]? = (svC l[k])[i]? := by
  rw [← svs_get hk, List.getElem?_take_of_lt hi, List.getElem?_drop]
abbrev tySv : Ty := .prod [.slice (.int .u8), .int .i64, .int .i64, .slice .bool, .int .i64, .slice (.int .i64)]
theorem cells_sv : tySv.cells = 6 := by kernel_rfl
theorem sh_sv {xs : List AV} (h : Sh tySv xs) : ∃ a : Sv, xs = svC a ∧ a.Ok := by
  obtain ⟨ya, za, rfl, _, sa, yb, zb, rfl, _, sb, yc, zc, rfl, _, sc, yd, zd, rfl, _, sd, ye, ze, rfl, _, se, yf, zf, rfl, _, sf, rfl⟩ := (show ∃ ys zs, xs = ys ++ zs ∧ ys.length = _ ∧ Sh (.slice (.int .u8)) ys ∧ ∃ y1 z1, zs = y1 ++ z1 ∧ y1.length = _ ∧ Sh (.int .i64) y1 ∧ ∃ y2 z2, z1 = y2 ++ z2 ∧ y2.length = _ ∧ Sh (.int .i64) y2 ∧ ∃ y3 z3, z2 = y3 ++ z3 ∧ y3.length = _ ∧ Sh (.slice .bool) y3 ∧ ∃ y4 z4, z3 = y4 ++ z4 ∧ y4.length = _ ∧ Sh (.int .i64) y4 ∧ ∃ y5 z5, z4 = y5 ++ z5 ∧ y5.length = _ ∧ Sh (.slice (.int .i64)) y5 ∧ z5 = [] from h)
  obtain ⟨z, b, rfl, hz⟩ := sh_bytes sa
  obtain ⟨kz, keep, rfl, hk⟩ := sh_bools sd
  obtain ⟨az, ag, rfl, ha⟩ := sh_ints sf
  simp only [Sh] at sb sc se
  obtain ⟨x1, rfl, w1⟩ := sb
  obtain ⟨x2, rfl, w2⟩ := sc
  obtain ⟨x4, rfl, _⟩ := se
  exact ⟨⟨⟨z, b⟩, x1, x2, kz, keep, x4, az, ag⟩, rfl, hz, (i64_wf w2).2, hk, fun x hx => (ha x hx).2⟩
theorem svs_of : ∀ (len : Nat) (cs : List AV), cs.length = len * 6 → (∀ i, i < len → Sh tySv ((cs.drop (i * 6)).take 6)) → ∃ l : List Sv, cs = svs l ∧ l.length = len ∧ ∀ x, x ∈ l → x.Ok
  | 0, cs, hl, _ => ⟨[], by have : cs = [] := by simpa using hl
                            rw [this]; rfl, rfl, by simp⟩
  | n + 1, cs, hl, h => by
    obtain ⟨t, ht, hz⟩ := sh_sv (h 0 (Nat.succ_pos _))
    rw [Nat.zero_mul, List.drop_zero] at ht
    obtain ⟨l, h1, h2, h3⟩ := svs_of n (cs.drop 6) (by rw [List.length_drop]; omega) (fun i hi => by
      have := h (i + 1) (by omega)
      rw [List.drop_drop, show 6 + i * 6 = (i + 1) * 6 by omega]
      exact this)
    refine ⟨t :: l, ?_, by simp [h2], fun x hx => ?_⟩
    · show cs = svC t ++ svs l
      rw [← ht, ← h1, List.take_append_drop]
    · rcases List.mem_cons.1 hx with rfl | hx
      · exact hz
      · exact h3 x hx
theorem sh_svs {xs : List AV} (h : Sh (.slice tySv) xs) : ∃ z l, xs = [.ro z (svs l) l.length] ∧ (z = true → l = []) ∧ ∀ x, x ∈ l → x.Ok := by
  have h := (show xs = [.ro true [] 0] ∨ ∃ cs len, xs = [.ro false cs len] ∧ len ≤ maxLen ∧ cs.length = len * 6 ∧ ∀ i, i < len → Sh tySv ((cs.drop (i * 6)).take 6) from by simpa only [Sh, cells_sv] using h)
  rcases h with rfl | ⟨cs, len, rfl, _, hl, hel⟩
  · exact ⟨true, [], rfl, fun _ => rfl, by simp⟩
  · obtain ⟨l, rfl, rfl, h3⟩ := svs_of len cs hl hel
    exact ⟨false, l, rfl, by simp, h3⟩
/-! ### heavy -/
def badS (a : Sv) : Bool := decide (300 < a.B.b.length) || (decide (600 < a.keep.length) || decide (5 < a.again.length))
def heavyS (l : List Sv) : Bool := decide (100 < l.length) || (l.take 25).any badS
theorem any_takeS {l : List Sv} {k : Nat} (hk : k < l.length) (h : (l.take k).any badS = false) (hb : badS l[k] = false) : (l.take (k + 1)).any badS = false := by
  rw [List.take_succ_eq_append_getElem hk, List.any_append, h]
  simp [hb]
theorem light_at {l : List Sv} (h : heavyS l = false) {k : Nat} (hk : k < l.length) (h25 : k < 25) : l[k].B.b.length ≤ 300 ∧ l[k].keep.length ≤ 600 ∧ l[k].again.length ≤ 5 := by
  unfold heavyS at h
  rw [Bool.or_eq_false_iff, List.any_eq_false] at h
  have h2 := h.2 l[k] (List.mem_take_iff_getElem.2 ⟨k, by omega, rfl⟩)
  unfold badS at h2
  simp only [Bool.or_eq_true, decide_eq_true_eq, not_or] at h2
  omega
theorem light_len {l : List Sv} (h : heavyS l = false) : l.length ≤ 100 := by
  unfold heavyS at h
  rw [Bool.or_eq_false_iff] at h
  have := of_decide_eq_false h.1
  omega
theorem s18 (z : Bool) (l : List Sv) : PCalls Tryd.prog 18 [.ro z (svs l) l.length] (.b (heavyS l)) := by
  intro h n
  have hS := SumOk.none (P := Tryd.prog)
  refine DCalls.of Tryd.func18 rfl (by decide) (Nat.le_of_ble_eq_true rfl) (Nat.le_refl _) ?_
  refine AWp.seq ?_
  (refine aw_regionL hS (by kernel_rfl) ?_; repeat (first | apply vr0u | apply vr4 | apply b_tt | apply b_ff | apply b_tf | apply b_ft | apply b_no | exact isD.mk rfl | (apply eqG; (simp only [push_cast, ↓reduceIte, Nat.reduceEqDiff, Nat.reduceAdd, Nat.reduceLeDiff, Nat.reduceLT, Int.reduceLE, Int.reduceLT, Int.reduceAdd, Int.reduceSub, Int.reduceNeg, Int.reduceBEq, Int.reduceBNe, Int.reduceEq, Int.reduceGT, Int.reduceGE, Int.reduceMul, Int.reduceToNat, Nat.reduceMul, reduceCtorEq] <;> rfl)) | exact (rfl : app (swap _ _) _ = _)))
  refine vr_nil (aw_then ?_)
  refine AWp.seq ?_
  refine AWp.seq ?_
  (refine aw_regionL hS (by kernel_rfl) ?_; repeat (first | apply vr0u | apply vr4 | apply b_tt | apply b_ff | apply b_tf | apply b_ft | apply b_no | exact isD.mk rfl | (apply eqG; (simp only [push_cast, ↓reduceIte, Nat.reduceEqDiff, Nat.reduceAdd, Nat.reduceLeDiff, Nat.reduceLT, Int.reduceLE, Int.reduceLT, Int.reduceAdd, Int.reduceSub, Int.reduceNeg, Int.reduceBEq, Int.reduceBNe, Int.reduceEq, Int.reduceGT, Int.reduceGE, Int.reduceMul, Int.reduceToNat, Nat.reduceMul, reduceCtorEq] <;> rfl)) | exact (rfl : app (swap _ _) _ = _)))
  refine vr_nil (aw_then ?_)
  refine aw_split (by (simp only [push_cast, ↓reduceIte, Nat.reduceEqDiff, Nat.reduceAdd, Nat.reduceLeDiff, Nat.reduceLT, Int.reduceLE, Int.reduceLT, Int.reduceAdd, Int.reduceSub, Int.reduceNeg, Int.reduceBEq, Int.reduceBNe, Int.reduceEq, Int.reduceGT, Int.reduceGE, Int.reduceMul, Int.reduceToNat, Nat.reduceMul, reduceCtorEq] <;> rfl)) (fun hu => ?_) (fun hu => ?_)
  · have hu := of_decide_eq_true hu
    refine AWp.seq ?_
    (refine aw_regionL hS (by kernel_rfl) ?_; repeat (first | apply vr0u | apply vr4 | apply b_tt | apply b_ff | apply b_tf | apply b_ft | apply b_no | exact isD.mk rfl | (apply eqG; (simp only [push_cast, ↓reduceIte, Nat.reduceEqDiff, Nat.reduceAdd, Nat.reduceLeDiff, Nat.reduceLT, Int.reduceLE, Int.reduceLT, Int.reduceAdd, Int.reduceSub, Int.reduceNeg, Int.reduceBEq, Int.reduceBNe, Int.reduceEq, Int.reduceGT, Int.reduceGE, Int.reduceMul, Int.reduceToNat, Nat.reduceMul, reduceCtorEq] <;> rfl)) | exact (rfl : app (swap _ _) _ = _)))
    refine vr_nil (aw_then ?_)
    refine AWp.ret ?_
    have e : heavyS l = true := by unfold heavyS; rw [decide_eq_true (by omega)]; rfl
    exact Out.pure1 (.inr rfl) rfl (by (simp only [push_cast, ↓reduceIte, Nat.reduceEqDiff, Nat.reduceAdd, Nat.reduceLeDiff, Nat.reduceLT, Int.reduceLE, Int.reduceLT, Int.reduceAdd, Int.reduceSub, Int.reduceNeg, Int.reduceBEq, Int.reduceBNe, Int.reduceEq, Int.reduceGT, Int.reduceGE, Int.reduceMul, Int.reduceToNat, Nat.reduceMul, reduceCtorEq] <;> rfl)) (by rw [e]) trivial keep0
  have hu := of_decide_eq_false hu
  have hl4 : l.length ≤ 100 := by omega
  refine AWp.skip (aw_then ?_)
  refine AWp.seq ?_
  refine AWp.seq ?_
  (refine aw_regionL hS (by kernel_rfl) ?_; repeat (first | apply vr0u | apply vr4 | apply b_tt | apply b_ff | apply b_tf | apply b_ft | apply b_no | exact isD.mk rfl | (apply eqG; (simp only [push_cast, ↓reduceIte, Nat.reduceEqDiff, Nat.reduceAdd, Nat.reduceLeDiff, Nat.reduceLT, Int.reduceLE, Int.reduceLT, Int.reduceAdd, Int.reduceSub, Int.reduceNeg, Int.reduceBEq, Int.reduceBNe, Int.reduceEq, Int.reduceGT, Int.reduceGE, Int.reduceMul, Int.reduceToNat, Nat.reduceMul, reduceCtorEq] <;> rfl)) | exact (rfl : app (swap _ _) _ = _)))
  refine vr_nil (aw_then ?_)
  refine AWp.block ?_
  refine AWp.loop (fun mm t' h' n' => ∃ k : Nat, mm = l.length - k ∧ k ≤ l.length ∧ k ≤ 25 ∧ t' 0 = .ro z (svs l) l.length ∧ t' 3 = .i .i64 (k : Int) ∧ (l.take k).any badS = false ∧ h' = h) l.length ?_ ?_
  · exact ⟨0, rfl, Nat.zero_le _, Nat.zero_le _, by (simp only [push_cast, ↓reduceIte, Nat.reduceEqDiff, Nat.reduceAdd, Nat.reduceLeDiff, Nat.reduceLT, Int.reduceLE, Int.reduceLT, Int.reduceAdd, Int.reduceSub, Int.reduceNeg, Int.reduceBEq, Int.reduceBNe, Int.reduceEq, Int.reduceGT, Int.reduceGE, Int.reduceMul, Int.reduceToNat, Nat.reduceMul, reduceCtorEq] <;> rfl), by (simp only [push_cast, ↓reduceIte, Nat.reduceEqDiff, Nat.reduceAdd, Nat.reduceLeDiff, Nat.reduceLT, Int.reduceLE, Int.reduceLT, Int.reduceAdd, Int.reduceSub, Int.reduceNeg, Int.reduceBEq, Int.reduceBNe, Int.reduceEq, Int.reduceGT, Int.reduceGE, Int.reduceMul, Int.reduceToNat, Nat.reduceMul, reduceCtorEq] <;> rfl), rfl, rfl⟩
  rintro mm t' h' n' - ⟨k, rfl, hkl, hk1, t0, t3, hany, rfl⟩
  by_cases hk : k < l.length
  · by_cases hk2 : k < 25
    · have q1 : ((k : Int) < (l.length : Int)) = True := by simp [hk]
      have q2 : ((k : Int) < 25) = True := by simp; omega
      have q3 : (0 ≤ (k : Int) ∧ (k : Int) < (l.length : Int)) = True := by simp [hk]
      have q3' : (k < l.length) = True := by simp [hk]
      have q4 : (svs l)[k * 6]? = some (.ro l[k].B.z (cellsB l[k].B.b) l[k].B.b.length) := svs_at hk (i := 0) (by decide)
      have q5 : (svs l)[k * 6 + 3]? = some (.ro l[k].kz (bools l[k].keep) l[k].keep.length) := svs_at hk (i := 3) (by decide)
      have q6 : (svs l)[k * 6 + 5]? = some (.ro l[k].az (intsV l[k].again) l[k].again.length) := svs_at hk (i := 5) (by decide)
      have w1' : IntKind.wrap .i64 ((k : Int) + 1) = (k : Int) + 1 := IntWalk.i64_in _ (by omega)
      refine AWp.seq ?_
      refine AWp.seq ?_
      (refine aw_regionL hS (by kernel_rfl) ?_; repeat (first | apply vr0u | apply vr4 | apply b_tt | apply b_ff | apply b_tf | apply b_ft | apply b_no | exact isD.mk rfl | (apply eqG; (simp only [push_cast, ↓reduceIte, Nat.reduceEqDiff, Nat.reduceAdd, Nat.reduceLeDiff, Nat.reduceLT, Int.reduceLE, Int.reduceLT, Int.reduceAdd, Int.reduceSub, Int.reduceNeg, Int.reduceBEq, Int.reduceBNe, Int.reduceEq, Int.reduceGT, Int.reduceGE, Int.reduceMul, Int.reduceToNat, Nat.reduceMul, reduceCtorEq, t0, t3, q1, q2, q3, q3', q4, q5, q6, w1'] <;> rfl)) | exact (rfl : app (swap _ _) _ = _)))
      refine vr_nil (aw_then ?_)
      refine aw_true (by (simp only [push_cast, ↓reduceIte, Nat.reduceEqDiff, Nat.reduceAdd, Nat.reduceLeDiff, Nat.reduceLT, Int.reduceLE, Int.reduceLT, Int.reduceAdd, Int.reduceSub, Int.reduceNeg, Int.reduceBEq, Int.reduceBNe, Int.reduceEq, Int.reduceGT, Int.reduceGE, Int.reduceMul, Int.reduceToNat, Nat.reduceMul, reduceCtorEq, t0, t3, q1, q2, q3, q3', q4, q5, q6, w1'] <;> rfl)) (AWp.skip (aw_then ?_))
      refine AWp.seq ?_
      refine AWp.block ?_
      have hyes : ∀ hb : badS l[k] = true, heavyS l = true := fun hb => by
        unfold heavyS
        have : (l.take 25).any badS = true := List.any_eq_true.2 ⟨l[k], List.mem_take_iff_getElem.2 ⟨k, by omega, rfl⟩, hb⟩
        rw [this, Bool.or_true]
      by_cases hb : badS l[k] = true
      · have e := hyes hb
        by_cases c1 : 300 < l[k].B.b.length
        · have d1 : ((l[k].B.b.length : Int) > 300) = True := by simp only [eq_iff_iff, iff_true]; omega
          refine AWp.seq ?_
          (refine aw_regionL hS (by kernel_rfl) ?_; repeat (first | apply vr0u | apply vr4 | apply b_tt | apply b_ff | apply b_tf | apply b_ft | apply b_no | exact isD.mk rfl | (apply eqG; (simp only [push_cast, ↓reduceIte, Nat.reduceEqDiff, Nat.reduceAdd, Nat.reduceLeDiff, Nat.reduceLT, Int.reduceLE, Int.reduceLT, Int.reduceAdd, Int.reduceSub, Int.reduceNeg, Int.reduceBEq, Int.reduceBNe, Int.reduceEq, Int.reduceGT, Int.reduceGE, Int.reduceMul, Int.reduceToNat, Nat.reduceMul, reduceCtorEq, t0, t3, q3, q3', q4, q5, q6, d1] <;> rfl)) | exact (rfl : app (swap _ _) _ = _)))
          refine vr_nil (aw_then ?_)
          refine aw_true (by (simp only [push_cast, ↓reduceIte, Nat.reduceEqDiff, Nat.reduceAdd, Nat.reduceLeDiff, Nat.reduceLT, Int.reduceLE, Int.reduceLT, Int.reduceAdd, Int.reduceSub, Int.reduceNeg, Int.reduceBEq, Int.reduceBNe, Int.reduceEq, Int.reduceGT, Int.reduceGE, Int.reduceMul, Int.reduceToNat, Nat.reduceMul, reduceCtorEq, t0, t3, q3, q3', q4, q5, q6, d1] <;> rfl)) ?_
          refine AWp.seq ?_
          (refine aw_regionL hS (by kernel_rfl) ?_; repeat (first | apply vr0u | apply vr4 | apply b_tt | apply b_ff | apply b_tf | apply b_ft | apply b_no | exact isD.mk rfl | (apply eqG; (simp only [push_cast, ↓reduceIte, Nat.reduceEqDiff, Nat.reduceAdd, Nat.reduceLeDiff, Nat.reduceLT, Int.reduceLE, Int.reduceLT, Int.reduceAdd, Int.reduceSub, Int.reduceNeg, Int.reduceBEq, Int.reduceBNe, Int.reduceEq, Int.reduceGT, Int.reduceGE, Int.reduceMul, Int.reduceToNat, Nat.reduceMul, reduceCtorEq, t0, t3, q3, q3', q4, q5, q6, d1] <;> rfl)) | exact (rfl : app (swap _ _) _ = _)))
          refine vr_nil (aw_then ?_)
          refine AWp.ret ?_
          exact Out.pure1 (.inr rfl) rfl (by (simp only [push_cast, ↓reduceIte, Nat.reduceEqDiff, Nat.reduceAdd, Nat.reduceLeDiff, Nat.reduceLT, Int.reduceLE, Int.reduceLT, Int.reduceAdd, Int.reduceSub, Int.reduceNeg, Int.reduceBEq, Int.reduceBNe, Int.reduceEq, Int.reduceGT, Int.reduceGE, Int.reduceMul, Int.reduceToNat, Nat.reduceMul, reduceCtorEq, t0, t3, q3, q3', q4, q5, q6, d1] <;> rfl)) (by rw [e]) trivial keep0
        have d1 : ((l[k].B.b.length : Int) > 300) = False := by simp only [eq_iff_iff, iff_false]; omega
        by_cases c2 : 600 < l[k].keep.length
        · have d2 : ((l[k].keep.length : Int) > 600) = True := by simp only [eq_iff_iff, iff_true]; omega
          refine AWp.seq ?_
          (refine aw_regionL hS (by kernel_rfl) ?_; repeat (first | apply vr0u | apply vr4 | apply b_tt | apply b_ff | apply b_tf | apply b_ft | apply b_no | exact isD.mk rfl | (apply eqG; (simp only [push_cast, ↓reduceIte, Nat.reduceEqDiff, Nat.reduceAdd, Nat.reduceLeDiff, Nat.reduceLT, Int.reduceLE, Int.reduceLT, Int.reduceAdd, Int.reduceSub, Int.reduceNeg, Int.reduceBEq, Int.reduceBNe, Int.reduceEq, Int.reduceGT, Int.reduceGE, Int.reduceMul, Int.reduceToNat, Nat.reduceMul, reduceCtorEq, t0, t3, q3, q3', q4, q5, q6, d1, d2] <;> rfl)) | exact (rfl : app (swap _ _) _ = _)))
          refine vr_nil (aw_then ?_)
          refine aw_true (by (simp only [push_cast, ↓reduceIte, Nat.reduceEqDiff, Nat.reduceAdd, Nat.reduceLeDiff, Nat.reduceLT, Int.reduceLE, Int.reduceLT, Int.reduceAdd, Int.reduceSub, Int.reduceNeg, Int.reduceBEq, Int.reduceBNe, Int.reduceEq, Int.reduceGT, Int.reduceGE, Int.reduceMul, Int.reduceToNat, Nat.reduceMul, reduceCtorEq, t0, t3, q3, q3', q4, q5, q6, d1, d2] <;> rfl)) ?_
          refine AWp.seq ?_
          (refine aw_regionL hS (by kernel_rfl) ?_; repeat (first | apply vr0u | apply vr4 | apply b_tt | apply b_ff | apply b_tf | apply b_ft | apply b_no | exact isD.mk rfl | (apply eqG; (simp only [push_cast, ↓reduceIte, Nat.reduceEqDiff, Nat.reduceAdd, Nat.reduceLeDiff, Nat.reduceLT, Int.reduceLE, Int.reduceLT, Int.reduceAdd, Int.reduceSub, Int.reduceNeg, Int.reduceBEq, Int.reduceBNe, Int.reduceEq, Int.reduceGT, Int.reduceGE, Int.reduceMul, Int.reduceToNat, Nat.reduceMul, reduceCtorEq, t0, t3, q3, q3', q4, q5, q6, d1, d2] <;> rfl)) | exact (rfl : app (swap _ _) _ = _)))
          refine vr_nil (aw_then ?_)
          refine AWp.ret ?_
          exact Out.pure1 (.inr rfl) rfl (by (simp only [push_cast, ↓reduceIte, Nat.reduceEqDiff, Nat.reduceAdd, Nat.reduceLeDiff, Nat.reduceLT, Int.reduceLE, Int.reduceLT, Int.reduceAdd, Int.reduceSub, Int.reduceNeg, Int.reduceBEq, Int.reduceBNe, Int.reduceEq, Int.reduceGT, Int.reduceGE, Int.reduceMul, Int.reduceToNat, Nat.reduceMul, reduceCtorEq, t0, t3, q3, q3', q4, q5, q6, d1, d2] <;> rfl)) (by rw [e]) trivial keep0
        have d2 : ((l[k].keep.length : Int) > 600) = False := by simp only [eq_iff_iff, iff_false]; omega
        have c3 : 5 < l[k].again.length := by
          unfold badS at hb
          simp only [Bool.or_eq_true, decide_eq_true_eq] at hb
          omega
        have d3 : ((l[k].again.length : Int) > 5) = True := by simp only [eq_iff_iff, iff_true]; omega
        refine AWp.seq ?_
        (refine aw_regionL hS (by kernel_rfl) ?_; repeat (first | apply vr0u | apply vr4 | apply b_tt | apply b_ff | apply b_tf | apply b_ft | apply b_no | exact isD.mk rfl | (apply eqG; (simp only [push_cast, ↓reduceIte, Nat.reduceEqDiff, Nat.reduceAdd, Nat.reduceLeDiff, Nat.reduceLT, Int.reduceLE, Int.reduceLT, Int.reduceAdd, Int.reduceSub, Int.reduceNeg, Int.reduceBEq, Int.reduceBNe, Int.reduceEq, Int.reduceGT, Int.reduceGE, Int.reduceMul, Int.reduceToNat, Nat.reduceMul, reduceCtorEq, t0, t3, q3, q3', q4, q5, q6, d1, d2, d3] <;> rfl)) | exact (rfl : app (swap _ _) _ = _)))
        refine vr_nil (aw_then ?_)
        refine aw_true (by (simp only [push_cast, ↓reduceIte, Nat.reduceEqDiff, Nat.reduceAdd, Nat.reduceLeDiff, Nat.reduceLT, Int.reduceLE, Int.reduceLT, Int.reduceAdd, Int.reduceSub, Int.reduceNeg, Int.reduceBEq, Int.reduceBNe, Int.reduceEq, Int.reduceGT, Int.reduceGE, Int.reduceMul, Int.reduceToNat, Nat.reduceMul, reduceCtorEq, t0, t3, q3, q3', q4, q5, q6, d1, d2, d3] <;> rfl)) ?_
        refine AWp.seq ?_
        (refine aw_regionL hS (by kernel_rfl) ?_; repeat (first | apply vr0u | apply vr4 | apply b_tt | apply b_ff | apply b_tf | apply b_ft | apply b_no | exact isD.mk rfl | (apply eqG; (simp only [push_cast, ↓reduceIte, Nat.reduceEqDiff, Nat.reduceAdd, Nat.reduceLeDiff, Nat.reduceLT, Int.reduceLE, Int.reduceLT, Int.reduceAdd, Int.reduceSub, Int.reduceNeg, Int.reduceBEq, Int.reduceBNe, Int.reduceEq, Int.reduceGT, Int.reduceGE, Int.reduceMul, Int.reduceToNat, Nat.reduceMul, reduceCtorEq, t0, t3, q3, q3', q4, q5, q6, d1, d2, d3] <;> rfl)) | exact (rfl : app (swap _ _) _ = _)))
        refine vr_nil (aw_then ?_)
        refine AWp.ret ?_
        exact Out.pure1 (.inr rfl) rfl (by (simp only [push_cast, ↓reduceIte, Nat.reduceEqDiff, Nat.reduceAdd, Nat.reduceLeDiff, Nat.reduceLT, Int.reduceLE, Int.reduceLT, Int.reduceAdd, Int.reduceSub, Int.reduceNeg, Int.reduceBEq, Int.reduceBNe, Int.reduceEq, Int.reduceGT, Int.reduceGE, Int.reduceMul, Int.reduceToNat, Nat.reduceMul, reduceCtorEq, t0, t3, q3, q3', q4, q5, q6, d1, d2, d3] <;> rfl)) (by rw [e]) trivial keep0
      have hb : badS l[k] = false := by simpa using hb
      have hbb := hb
      unfold badS at hbb
      simp only [Bool.or_eq_false_iff, decide_eq_false_iff_not] at hbb
      have d1 : ((l[k].B.b.length : Int) > 300) = False := by simp only [eq_iff_iff, iff_false]; omega
      have d2 : ((l[k].keep.length : Int) > 600) = False := by simp only [eq_iff_iff, iff_false]; omega
      have d3 : ((l[k].again.length : Int) > 5) = False := by simp only [eq_iff_iff, iff_false]; omega
      refine AWp.seq ?_
      (refine aw_regionL hS (by kernel_rfl) ?_; repeat (first | apply vr0u | apply vr4 | apply b_tt | apply b_ff | apply b_tf | apply b_ft | apply b_no | exact isD.mk rfl | (apply eqG; (simp only [push_cast, ↓reduceIte, Nat.reduceEqDiff, Nat.reduceAdd, Nat.reduceLeDiff, Nat.reduceLT, Int.reduceLE, Int.reduceLT, Int.reduceAdd, Int.reduceSub, Int.reduceNeg, Int.reduceBEq, Int.reduceBNe, Int.reduceEq, Int.reduceGT, Int.reduceGE, Int.reduceMul, Int.reduceToNat, Nat.reduceMul, reduceCtorEq, t0, t3, q3, q3', q4, q5, q6, d1, d2, d3, w1'] <;> rfl)) | exact (rfl : app (swap _ _) _ = _)))
      refine vr_nil (aw_then ?_)
      refine aw_false (by (simp only [push_cast, ↓reduceIte, Nat.reduceEqDiff, Nat.reduceAdd, Nat.reduceLeDiff, Nat.reduceLT, Int.reduceLE, Int.reduceLT, Int.reduceAdd, Int.reduceSub, Int.reduceNeg, Int.reduceBEq, Int.reduceBNe, Int.reduceEq, Int.reduceGT, Int.reduceGE, Int.reduceMul, Int.reduceToNat, Nat.reduceMul, reduceCtorEq, t0, t3, q3, q3', q4, q5, q6, d1, d2, d3, w1'] <;> rfl)) (AWp.skip (aw_in (aw_then ?_)))
      (refine aw_regionL hS (by kernel_rfl) ?_; repeat (first | apply vr0u | apply vr4 | apply b_tt | apply b_ff | apply b_tf | apply b_ft | apply b_no | exact isD.mk rfl | (apply eqG; (simp only [push_cast, ↓reduceIte, Nat.reduceEqDiff, Nat.reduceAdd, Nat.reduceLeDiff, Nat.reduceLT, Int.reduceLE, Int.reduceLT, Int.reduceAdd, Int.reduceSub, Int.reduceNeg, Int.reduceBEq, Int.reduceBNe, Int.reduceEq, Int.reduceGT, Int.reduceGE, Int.reduceMul, Int.reduceToNat, Nat.reduceMul, reduceCtorEq, t0, t3, q3, q3', q4, q5, q6, d1, d2, d3, w1'] <;> rfl)) | exact (rfl : app (swap _ _) _ = _)))
      exact vr_nil (aw_then ⟨l.length - (k + 1), by omega, k + 1, rfl, hk, hk2, by (simp only [push_cast, ↓reduceIte, Nat.reduceEqDiff, Nat.reduceAdd, Nat.reduceLeDiff, Nat.reduceLT, Int.reduceLE, Int.reduceLT, Int.reduceAdd, Int.reduceSub, Int.reduceNeg, Int.reduceBEq, Int.reduceBNe, Int.reduceEq, Int.reduceGT, Int.reduceGE, Int.reduceMul, Int.reduceToNat, Nat.reduceMul, reduceCtorEq, t0, t3, q3, q3', q4, q5, q6, d1, d2, d3, w1'] <;> rfl), by (simp only [push_cast, ↓reduceIte, Nat.reduceEqDiff, Nat.reduceAdd, Nat.reduceLeDiff, Nat.reduceLT, Int.reduceLE, Int.reduceLT, Int.reduceAdd, Int.reduceSub, Int.reduceNeg, Int.reduceBEq, Int.reduceBNe, Int.reduceEq, Int.reduceGT, Int.reduceGE, Int.reduceMul, Int.reduceToNat, Nat.reduceMul, reduceCtorEq, t0, t3, q3, q3', q4, q5, q6, d1, d2, d3, w1'] <;> rfl), any_takeS hk hany hb, rfl⟩)
    · have q1 : ((k : Int) < (l.length : Int)) = True := by simp [hk]
      have q2 : ((k : Int) < 25) = False := by simp; omega
      have e : heavyS l = false := by
        obtain rfl : k = 25 := by omega
        unfold heavyS; rw [hany, decide_eq_false (by omega)]; rfl
      refine AWp.seq ?_
      refine AWp.seq ?_
      (refine aw_regionL hS (by kernel_rfl) ?_; repeat (first | apply vr0u | apply vr4 | apply b_tt | apply b_ff | apply b_tf | apply b_ft | apply b_no | exact isD.mk rfl | (apply eqG; (simp only [push_cast, ↓reduceIte, Nat.reduceEqDiff, Nat.reduceAdd, Nat.reduceLeDiff, Nat.reduceLT, Int.reduceLE, Int.reduceLT, Int.reduceAdd, Int.reduceSub, Int.reduceNeg, Int.reduceBEq, Int.reduceBNe, Int.reduceEq, Int.reduceGT, Int.reduceGE, Int.reduceMul, Int.reduceToNat, Nat.reduceMul, reduceCtorEq, t0, t3, q1, q2] <;> rfl)) | exact (rfl : app (swap _ _) _ = _)))
      refine vr_nil (aw_then ?_)
      refine aw_false (by (simp only [push_cast, ↓reduceIte, Nat.reduceEqDiff, Nat.reduceAdd, Nat.reduceLeDiff, Nat.reduceLT, Int.reduceLE, Int.reduceLT, Int.reduceAdd, Int.reduceSub, Int.reduceNeg, Int.reduceBEq, Int.reduceBNe, Int.reduceEq, Int.reduceGT, Int.reduceGE, Int.reduceMul, Int.reduceToNat, Nat.reduceMul, reduceCtorEq, t0, t3, q1, q2] <;> rfl)) (AWp.exit (aw_thru (aw_thru (aw_exit (aw_then ?_)))))
      refine AWp.seq ?_
      (refine aw_regionL hS (by kernel_rfl) ?_; repeat (first | apply vr0u | apply vr4 | apply b_tt | apply b_ff | apply b_tf | apply b_ft | apply b_no | exact isD.mk rfl | (apply eqG; (simp only [push_cast, ↓reduceIte, Nat.reduceEqDiff, Nat.reduceAdd, Nat.reduceLeDiff, Nat.reduceLT, Int.reduceLE, Int.reduceLT, Int.reduceAdd, Int.reduceSub, Int.reduceNeg, Int.reduceBEq, Int.reduceBNe, Int.reduceEq, Int.reduceGT, Int.reduceGE, Int.reduceMul, Int.reduceToNat, Nat.reduceMul, reduceCtorEq, t0, t3, q1, q2] <;> rfl)) | exact (rfl : app (swap _ _) _ = _)))
      refine vr_nil (aw_then ?_)
      refine AWp.ret ?_
      exact Out.pure1 (.inr rfl) rfl (by (simp only [push_cast, ↓reduceIte, Nat.reduceEqDiff, Nat.reduceAdd, Nat.reduceLeDiff, Nat.reduceLT, Int.reduceLE, Int.reduceLT, Int.reduceAdd, Int.reduceSub, Int.reduceNeg, Int.reduceBEq, Int.reduceBNe, Int.reduceEq, Int.reduceGT, Int.reduceGE, Int.reduceMul, Int.reduceToNat, Nat.reduceMul, reduceCtorEq, t0, t3, q1, q2] <;> rfl)) (by rw [e]) trivial keep0
  · have q1 : ((k : Int) < (l.length : Int)) = False := by simp; omega
    have e : heavyS l = false := by
      have : l.take 25 = l.take k := by
        rw [List.take_of_length_le (show l.length ≤ 25 by omega), List.take_of_length_le (show l.length ≤ k by omega)]
      unfold heavyS; rw [this, hany, decide_eq_false (by omega)]; rfl
    refine AWp.seq ?_
    refine AWp.seq ?_
    (refine aw_regionL hS (by kernel_rfl) ?_; repeat (first | apply vr0u | apply vr4 | apply b_tt | apply b_ff | apply b_tf | apply b_ft | apply b_no | exact isD.mk rfl | (apply eqG; (simp only [push_cast, ↓reduceIte, Nat.reduceEqDiff, Nat.reduceAdd, Nat.reduceLeDiff, Nat.reduceLT, Int.reduceLE, Int.reduceLT, Int.reduceAdd, Int.reduceSub, Int.reduceNeg, Int.reduceBEq, Int.reduceBNe, Int.reduceEq, Int.reduceGT, Int.reduceGE, Int.reduceMul, Int.reduceToNat, Nat.reduceMul, reduceCtorEq, t0, t3, q1] <;> rfl)) | exact (rfl : app (swap _ _) _ = _)))
    refine vr_nil (aw_then ?_)
    refine aw_false (by (simp only [push_cast, ↓reduceIte, Nat.reduceEqDiff, Nat.reduceAdd, Nat.reduceLeDiff, Nat.reduceLT, Int.reduceLE, Int.reduceLT, Int.reduceAdd, Int.reduceSub, Int.reduceNeg, Int.reduceBEq, Int.reduceBNe, Int.reduceEq, Int.reduceGT, Int.reduceGE, Int.reduceMul, Int.reduceToNat, Nat.reduceMul, reduceCtorEq, t0, t3, q1] <;> rfl)) (AWp.exit (aw_thru (aw_thru (aw_exit (aw_then ?_)))))
    refine AWp.seq ?_
    (refine aw_regionL hS (by kernel_rfl) ?_; repeat (first | apply vr0u | apply vr4 | apply b_tt | apply b_ff | apply b_tf | apply b_ft | apply b_no | exact isD.mk rfl | (apply eqG; (simp only [push_cast, ↓reduceIte, Nat.reduceEqDiff, Nat.reduceAdd, Nat.reduceLeDiff, Nat.reduceLT, Int.reduceLE, Int.reduceLT, Int.reduceAdd, Int.reduceSub, Int.reduceNeg, Int.reduceBEq, Int.reduceBNe, Int.reduceEq, Int.reduceGT, Int.reduceGE, Int.reduceMul, Int.reduceToNat, Nat.reduceMul, reduceCtorEq, t0, t3, q1] <;> rfl)) | exact (rfl : app (swap _ _) _ = _)))
    refine vr_nil (aw_then ?_)
    refine AWp.ret ?_
    exact Out.pure1 (.inr rfl) rfl (by (simp only [push_cast, ↓reduceIte, Nat.reduceEqDiff, Nat.reduceAdd, Nat.reduceLeDiff, Nat.reduceLT, Int.reduceLE, Int.reduceLT, Int.reduceAdd, Int.reduceSub, Int.reduceNeg, Int.reduceBEq, Int.reduceBNe, Int.reduceEq, Int.reduceGT, Int.reduceGE, Int.reduceMul, Int.reduceToNat, Nat.reduceMul, reduceCtorEq, t0, t3, q1] <;> rfl)) (by rw [e]) trivial keep0
/-! ### what is to be saved -/
def stB (B : List UInt8) : Nat → List UInt8 → List UInt8
  | 0, out => out
  | k + 1, out => if out.length + B.length ≤ 4000 then stB B k (out ++ B) else out
theorem stB_len {B : List UInt8} : ∀ {k : Nat} {out : List UInt8}, out.length ≤ 4000 → (stB B k out).length ≤ 4000
  | 0, out, h => h
  | k + 1, out, h => by
    unfold stB
    split
    · exact stB_len (by rw [List.length_append]; omega)
    · exact h
def stOf (a : Sv) : List UInt8 := stB a.B.b ((IntKind.wrap .u64 a.times % 30).toNat + 1) []
theorem stOf_len (a : Sv) : (stOf a).length ≤ 4000 := stB_len (by decide)
theorem s19 (a : Sv) (hB : a.B.b.length ≤ 300) : PCalls Tryd.prog 19 [.agg (svC a)] (.ro (stOf a).isEmpty (cellsB (stOf a)) (stOf a).length) := by
  obtain ⟨r, hr3, er, ew, ew2, hs⟩ : ∃ r : Nat, r < 30 ∧ Int.tmod (IntKind.wrap .u64 a.times) 30 = (r : Int) ∧ IntKind.wrap .u64 (r : Int) = (r : Int) ∧ IntKind.wrap .i64 (r : Int) = (r : Int) ∧ stOf a = stB a.B.b (r + 1) [] := by
    have h1 : 0 ≤ IntKind.wrap .u64 a.times := by rw [IntKind.wrap_u64]; omega
    refine ⟨(IntKind.wrap .u64 a.times % 30).toNat, by omega, ?_, ?_, IntWalk.i64_in _ (by omega), rfl⟩
    · rw [Int.tmod_eq_emod_of_nonneg h1]; omega
    · rw [IntKind.wrap_u64]; omega
  have hl4 := stOf_len a
  obtain ⟨fin, hfin⟩ : ∃ fin, fin = stB a.B.b (r + 1) [] := ⟨_, rfl⟩
  rw [← hfin] at hs
  rw [hs] at hl4 ⊢
  unfold svC
  generalize ez : a.B.z = zb
  generalize eb : a.B.b = B at hfin hB ⊢
  generalize a.times = times at er ⊢
  generalize a.trip = trip
  generalize a.kz = kz
  generalize a.keep = keep
  generalize a.torn = torn
  generalize a.az = az
  generalize a.again = again
  intro h n
  have hS := SumOk.none (P := Tryd.prog)
  refine DCalls.of Tryd.func19 rfl (by decide) (Nat.le_of_ble_eq_true rfl) (Nat.le_refl _) ?_
  refine AWp.seq ?_
  (refine aw_regionL hS (by kernel_rfl) ?_; repeat (first | apply vr0u | apply vr4 | apply b_tt | apply b_ff | apply b_tf | apply b_ft | apply b_no | exact isD.mk rfl | (apply eqG; (simp only [push_cast, ↓reduceIte, Nat.reduceEqDiff, Nat.reduceAdd, Nat.reduceLeDiff, Nat.reduceLT, Int.reduceLE, Int.reduceLT, Int.reduceAdd, Int.reduceSub, Int.reduceNeg, Int.reduceBEq, Int.reduceBNe, Int.reduceEq, Int.reduceGT, Int.reduceGE, Int.reduceMul, Int.reduceToNat, Nat.reduceMul, reduceCtorEq] <;> rfl)) | exact (rfl : app (swap _ _) _ = _)))
  refine vr_nil (aw_then ?_)
  refine AWp.seq ?_
  (refine aw_regionL hS (by kernel_rfl) ?_; repeat (first | apply vr0u | apply vr4 | apply b_tt | apply b_ff | apply b_tf | apply b_ft | apply b_no | exact isD.mk rfl | (apply eqG; (simp only [push_cast, ↓reduceIte, Nat.reduceEqDiff, Nat.reduceAdd, Nat.reduceLeDiff, Nat.reduceLT, Int.reduceLE, Int.reduceLT, Int.reduceAdd, Int.reduceSub, Int.reduceNeg, Int.reduceBEq, Int.reduceBNe, Int.reduceEq, Int.reduceGT, Int.reduceGE, Int.reduceMul, Int.reduceToNat, Nat.reduceMul, reduceCtorEq] <;> rfl)) | exact (rfl : app (swap _ _) _ = _)))
  refine vr_nil (aw_then ?_)
  refine AWp.cut (fun t' h' n' => (fin = [] ∧ t' 3 = .ro true [] 0 ∨ fin ≠ [] ∧ ∃ j, t' 3 = .sl 1 j 0 fin.length ∧ h' j = some (.cells (cellsB fin)) ∧ n < j) ∧ ∀ x r, x < n → h x = some r → h' x = some r) ?_ ?_
  · obtain ⟨rowA, hrA⟩ : ∃ rowA : List AV, rowA = [.ro zb (cellsB B) B.length, .i .i64 times, .i .i64 trip, .ro kz (bools keep) keep.length, .i .i64 torn, .ro az (intsV again) again.length] := ⟨_, rfl⟩
    have a0 : rowA[0]? = some (.ro zb (cellsB B) B.length) := by rw [hrA]; rfl
    have a1 : rowA[1]? = some (.i .i64 times) := by rw [hrA]; rfl
    refine AWp.seq ?_
    (refine aw_regionL hS (by kernel_rfl) ?_; repeat (first | apply vr0u | apply vr4 | apply b_tt | apply b_ff | apply b_tf | apply b_ft | apply b_no | exact isD.mk rfl | (apply eqG; (simp only [push_cast, ↓reduceIte, Nat.reduceEqDiff, Nat.reduceAdd, Nat.reduceLeDiff, Nat.reduceLT, Int.reduceLE, Int.reduceLT, Int.reduceAdd, Int.reduceSub, Int.reduceNeg, Int.reduceBEq, Int.reduceBNe, Int.reduceEq, Int.reduceGT, Int.reduceGE, Int.reduceMul, Int.reduceToNat, Nat.reduceMul, reduceCtorEq, er, ew, ew2] <;> rfl)) | exact (rfl : app (swap _ _) _ = _)))
    refine vr_nil (aw_then ?_)
    rw [← hrA]
    refine AWp.block ?_
    refine AWp.loop (fun mm t' h' n' => ∃ (k : Nat) (out : List UInt8) (x : Int), mm = k ∧ k ≤ 30 ∧ stB B k out = fin ∧ out.length ≤ 4000 ∧ n < n' ∧ (out = [] ∧ t' 3 = .ro true [] 0 ∨ out ≠ [] ∧ ∃ j, t' 3 = .sl 1 j 0 out.length ∧ n < j ∧ j < n' ∧ h' j = some (.cells (cellsB out))) ∧ t' 1 = .p n 0 ∧ t' 4 = .i .i64 x ∧ x = (k : Int) - 1 ∧ h' n = some (.cells rowA) ∧ (∀ x r, x < n → h x = some r → h' x = some r)) (r + 1) ?_ ?_
    · exact ⟨r + 1, [], (r : Int), rfl, by omega, hfin.symm, by decide, Nat.lt_succ_self _, .inl ⟨rfl, by (simp only [push_cast, ↓reduceIte, Nat.reduceEqDiff, Nat.reduceAdd, Nat.reduceLeDiff, Nat.reduceLT, Int.reduceLE, Int.reduceLT, Int.reduceAdd, Int.reduceSub, Int.reduceNeg, Int.reduceBEq, Int.reduceBNe, Int.reduceEq, Int.reduceGT, Int.reduceGE, Int.reduceMul, Int.reduceToNat, Nat.reduceMul, reduceCtorEq, er, ew, ew2] <;> rfl)⟩, by (simp only [push_cast, ↓reduceIte, Nat.reduceEqDiff, Nat.reduceAdd, Nat.reduceLeDiff, Nat.reduceLT, Int.reduceLE, Int.reduceLT, Int.reduceAdd, Int.reduceSub, Int.reduceNeg, Int.reduceBEq, Int.reduceBNe, Int.reduceEq, Int.reduceGT, Int.reduceGE, Int.reduceMul, Int.reduceToNat, Nat.reduceMul, reduceCtorEq, er, ew, ew2] <;> rfl), by (simp only [push_cast, ↓reduceIte, Nat.reduceEqDiff, Nat.reduceAdd, Nat.reduceLeDiff, Nat.reduceLT, Int.reduceLE, Int.reduceLT, Int.reduceAdd, Int.reduceSub, Int.reduceNeg, Int.reduceBEq, Int.reduceBNe, Int.reduceEq, Int.reduceGT, Int.reduceGE, Int.reduceMul, Int.reduceToNat, Nat.reduceMul, reduceCtorEq, er, ew, ew2] <;> rfl), by omega, upd_same .., keepU (Nat.le_refl _) keep0⟩
    rintro mm t' h' n' - ⟨k, out, x, rfl, hk30, hst, ho4, hnn, hout, t1, t4, hx, hrow, fr⟩
    cases mm with
    | zero =>
      have q1 : (x ≥ 0) = False := by simp only [eq_iff_iff, iff_false]; omega
      obtain rfl : out = fin := hst
      refine AWp.seq ?_
      refine AWp.seq ?_
      (refine aw_regionL hS (by kernel_rfl) ?_; repeat (first | apply vr0u | apply vr4 | apply b_tt | apply b_ff | apply b_tf | apply b_ft | apply b_no | exact isD.mk rfl | (apply eqG; (simp only [push_cast, ↓reduceIte, Nat.reduceEqDiff, Nat.reduceAdd, Nat.reduceLeDiff, Nat.reduceLT, Int.reduceLE, Int.reduceLT, Int.reduceAdd, Int.reduceSub, Int.reduceNeg, Int.reduceBEq, Int.reduceBNe, Int.reduceEq, Int.reduceGT, Int.reduceGE, Int.reduceMul, Int.reduceToNat, Nat.reduceMul, reduceCtorEq, t1, t4, hrow, q1] <;> rfl)) | exact (rfl : app (swap _ _) _ = _)))
      refine vr_nil (aw_then ?_)
      refine aw_false (by (simp only [push_cast, ↓reduceIte, Nat.reduceEqDiff, Nat.reduceAdd, Nat.reduceLeDiff, Nat.reduceLT, Int.reduceLE, Int.reduceLT, Int.reduceAdd, Int.reduceSub, Int.reduceNeg, Int.reduceBEq, Int.reduceBNe, Int.reduceEq, Int.reduceGT, Int.reduceGE, Int.reduceMul, Int.reduceToNat, Nat.reduceMul, reduceCtorEq, t1, t4, hrow, q1] <;> rfl)) (AWp.exit (aw_thru (aw_thru (aw_exit (aw_then ?_)))))
      refine ⟨?_, fr⟩
      rcases hout with ⟨e, t3⟩ | ⟨e, j, t3, hj, hj2, hjr⟩
      · exact .inl ⟨e, by simp only [push_cast, ↓reduceIte, Nat.reduceEqDiff, Nat.reduceAdd, Nat.reduceLeDiff, Nat.reduceLT, Int.reduceLE, Int.reduceLT, Int.reduceAdd, Int.reduceSub, Int.reduceNeg, Int.reduceBEq, Int.reduceBNe, Int.reduceEq, Int.reduceGT, Int.reduceGE, Int.reduceMul, Int.reduceToNat, Nat.reduceMul, reduceCtorEq, t1, t4, hrow, q1]; exact t3⟩
      · exact .inr ⟨e, j, by simp only [push_cast, ↓reduceIte, Nat.reduceEqDiff, Nat.reduceAdd, Nat.reduceLeDiff, Nat.reduceLT, Int.reduceLE, Int.reduceLT, Int.reduceAdd, Int.reduceSub, Int.reduceNeg, Int.reduceBEq, Int.reduceBNe, Int.reduceEq, Int.reduceGT, Int.reduceGE, Int.reduceMul, Int.reduceToNat, Nat.reduceMul, reduceCtorEq, t1, t4, hrow, q1]; exact t3, hjr, hj⟩
    | succ k =>
    obtain rfl : x = (k : Int) := by omega
    have q1 : ((k : Int) ≥ 0) = True := by simp
    have w0 : IntKind.wrap .i64 ((out.length : Int) + (B.length : Int)) = (out.length : Int) + (B.length : Int) := IntWalk.i64_in _ (by omega)
    have w00 : IntKind.wrap .i64 (B.length : Int) = (B.length : Int) := IntWalk.i64_in _ (by omega)
    by_cases hfit : out.length + B.length ≤ 4000
    case neg =>
      obtain rfl : out = fin := by rw [stB, if_neg hfit] at hst; exact hst
      have q2 : ((out.length : Int) + (B.length : Int) ≤ 4000) = False := by simp only [eq_iff_iff, iff_false]; omega
      rcases hout with ⟨e, t3⟩ | ⟨e, j, t3, hj, hj2, hjr⟩
      · subst e
        have := hfit (by simp; omega)
        exact this.elim
      refine AWp.seq ?_
      refine AWp.seq ?_
      (refine aw_regionL hS (by kernel_rfl) ?_; repeat (first | apply vr0u | apply vr4 | apply b_tt | apply b_ff | apply b_tf | apply b_ft | apply b_no | exact isD.mk rfl | (apply eqG; (simp only [push_cast, ↓reduceIte, Nat.reduceEqDiff, Nat.reduceAdd, Nat.reduceLeDiff, Nat.reduceLT, Int.reduceLE, Int.reduceLT, Int.reduceAdd, Int.reduceSub, Int.reduceNeg, Int.reduceBEq, Int.reduceBNe, Int.reduceEq, Int.reduceGT, Int.reduceGE, Int.reduceMul, Int.reduceToNat, Nat.reduceMul, reduceCtorEq, t1, t3, t4, hrow, a0, q1, w0, q2] <;> rfl)) | exact (rfl : app (swap _ _) _ = _)))
      refine vr_nil (aw_then ?_)
      refine aw_false (by (simp only [push_cast, ↓reduceIte, Nat.reduceEqDiff, Nat.reduceAdd, Nat.reduceLeDiff, Nat.reduceLT, Int.reduceLE, Int.reduceLT, Int.reduceAdd, Int.reduceSub, Int.reduceNeg, Int.reduceBEq, Int.reduceBNe, Int.reduceEq, Int.reduceGT, Int.reduceGE, Int.reduceMul, Int.reduceToNat, Nat.reduceMul, reduceCtorEq, t1, t3, t4, hrow, a0, q1, w0, q2] <;> rfl)) (AWp.exit (aw_thru (aw_thru (aw_exit (aw_then ?_)))))
      exact ⟨.inr ⟨e, j, by (simp only [push_cast, ↓reduceIte, Nat.reduceEqDiff, Nat.reduceAdd, Nat.reduceLeDiff, Nat.reduceLT, Int.reduceLE, Int.reduceLT, Int.reduceAdd, Int.reduceSub, Int.reduceNeg, Int.reduceBEq, Int.reduceBNe, Int.reduceEq, Int.reduceGT, Int.reduceGE, Int.reduceMul, Int.reduceToNat, Nat.reduceMul, reduceCtorEq, t1, t3, t4, hrow, a0, q1, w0, q2] <;> rfl), hjr, hj⟩, fr⟩
    have hst2 : stB B k (out ++ B) = fin := by rw [stB, if_pos hfit] at hst; exact hst
    have q2 : ((out.length : Int) + (B.length : Int) ≤ 4000) = True := by simp only [eq_iff_iff, iff_true]; omega
    have w1 : IntKind.wrap .i64 ((k : Int) - 1) = (k : Int) - 1 := IntWalk.i64_in _ (by omega)
    have qd : (B.length ≤ (cellsB B).length) = True := by simp [len_cellsB]
    have qe := take_cellsB B
    have u1 : ∀ (g : Heap) (r : Option Row), Av.upd g n' r n = g n := fun g r => upd_ne _ _ (by omega)
    rcases hout with ⟨e, t3⟩ | ⟨e, j, t3, hj, hj2, hjr⟩
    · subst e
      have q20 : ((B.length : Int) ≤ 4000) = True := by simp only [eq_iff_iff, iff_true]; omega
      by_cases hB0 : B = []
      · subst hB0
        have e1 : (cellsB [] : List AV) = [] := rfl
        have w000 : IntKind.wrap .i64 0 = 0 := rfl
        refine AWp.seq ?_
        refine AWp.seq ?_
        (refine aw_regionL hS (by kernel_rfl) ?_; repeat (first | apply vr0u | apply vr4 | apply b_tt | apply b_ff | apply b_tf | apply b_ft | apply b_no | exact isD.mk rfl | (apply eqG; (simp only [push_cast, ↓reduceIte, Nat.reduceEqDiff, Nat.reduceAdd, Nat.reduceLeDiff, Nat.reduceLT, Int.reduceLE, Int.reduceLT, Int.reduceAdd, Int.reduceSub, Int.reduceNeg, Int.reduceBEq, Int.reduceBNe, Int.reduceEq, Int.reduceGT, Int.reduceGE, Int.reduceMul, Int.reduceToNat, Nat.reduceMul, reduceCtorEq, t1, t3, t4, hrow, a0, q1, w000, e1, w1] <;> rfl)) | exact (rfl : app (swap _ _) _ = _)))
        refine vr_nil (aw_then ?_)
        refine aw_true (by (simp only [push_cast, ↓reduceIte, Nat.reduceEqDiff, Nat.reduceAdd, Nat.reduceLeDiff, Nat.reduceLT, Int.reduceLE, Int.reduceLT, Int.reduceAdd, Int.reduceSub, Int.reduceNeg, Int.reduceBEq, Int.reduceBNe, Int.reduceEq, Int.reduceGT, Int.reduceGE, Int.reduceMul, Int.reduceToNat, Nat.reduceMul, reduceCtorEq, t1, t3, t4, hrow, a0, q1, w000, e1, w1] <;> rfl)) (AWp.skip (aw_then ?_))
        refine AWp.seq ?_
        refine AWp.block ?_
        (refine aw_regionL hS (by kernel_rfl) ?_; repeat (first | apply vr0u | apply vr4 | apply b_tt | apply b_ff | apply b_tf | apply b_ft | apply b_no | exact isD.mk rfl | (apply eqG; (simp only [push_cast, ↓reduceIte, Nat.reduceEqDiff, Nat.reduceAdd, Nat.reduceLeDiff, Nat.reduceLT, Int.reduceLE, Int.reduceLT, Int.reduceAdd, Int.reduceSub, Int.reduceNeg, Int.reduceBEq, Int.reduceBNe, Int.reduceEq, Int.reduceGT, Int.reduceGE, Int.reduceMul, Int.reduceToNat, Nat.reduceMul, reduceCtorEq, t1, t3, t4, hrow, a0, q1, w000, e1, w1] <;> rfl)) | exact (rfl : app (swap _ _) _ = _)))
        refine vr_nil (aw_in (aw_then ?_))
        (refine aw_regionL hS (by kernel_rfl) ?_; repeat (first | apply vr0u | apply vr4 | apply b_tt | apply b_ff | apply b_tf | apply b_ft | apply b_no | exact isD.mk rfl | (apply eqG; (simp only [push_cast, ↓reduceIte, Nat.reduceEqDiff, Nat.reduceAdd, Nat.reduceLeDiff, Nat.reduceLT, Int.reduceLE, Int.reduceLT, Int.reduceAdd, Int.reduceSub, Int.reduceNeg, Int.reduceBEq, Int.reduceBNe, Int.reduceEq, Int.reduceGT, Int.reduceGE, Int.reduceMul, Int.reduceToNat, Nat.reduceMul, reduceCtorEq, t1, t3, t4, hrow, a0, q1, w000, e1, w1] <;> rfl)) | exact (rfl : app (swap _ _) _ = _)))
        exact vr_nil (aw_then ⟨k, Nat.lt_succ_self _, k, [], (k : Int) - 1, rfl, by omega, hst2, by decide, hnn, .inl ⟨rfl, by (simp only [push_cast, ↓reduceIte, Nat.reduceEqDiff, Nat.reduceAdd, Nat.reduceLeDiff, Nat.reduceLT, Int.reduceLE, Int.reduceLT, Int.reduceAdd, Int.reduceSub, Int.reduceNeg, Int.reduceBEq, Int.reduceBNe, Int.reduceEq, Int.reduceGT, Int.reduceGE, Int.reduceMul, Int.reduceToNat, Nat.reduceMul, reduceCtorEq, t1, t3, t4, hrow, a0, q1, w000, e1, w1] <;> rfl)⟩, by (simp only [push_cast, ↓reduceIte, Nat.reduceEqDiff, Nat.reduceAdd, Nat.reduceLeDiff, Nat.reduceLT, Int.reduceLE, Int.reduceLT, Int.reduceAdd, Int.reduceSub, Int.reduceNeg, Int.reduceBEq, Int.reduceBNe, Int.reduceEq, Int.reduceGT, Int.reduceGE, Int.reduceMul, Int.reduceToNat, Nat.reduceMul, reduceCtorEq, t1, t3, t4, hrow, a0, q1, w000, e1, w1] <;> rfl), by (simp only [push_cast, ↓reduceIte, Nat.reduceEqDiff, Nat.reduceAdd, Nat.reduceLeDiff, Nat.reduceLT, Int.reduceLE, Int.reduceLT, Int.reduceAdd, Int.reduceSub, Int.reduceNeg, Int.reduceBEq, Int.reduceBNe, Int.reduceEq, Int.reduceGT, Int.reduceGE, Int.reduceMul, Int.reduceToNat, Nat.reduceMul, reduceCtorEq, t1, t3, t4, hrow, a0, q1, w000, e1, w1] <;> rfl), rfl, hrow, fr⟩)
      have qa : (B.length = 0) = False := by simp [hB0]
      have qb : (B.length ≤ 140737488355328) = True := by simp; omega
      have qc : (B.length ≤ 9223372036854775807) = True := by simp; omega
      refine AWp.seq ?_
      refine AWp.seq ?_
      (refine aw_regionL hS (by kernel_rfl) ?_; repeat (first | apply vr0u | apply vr4 | apply b_tt | apply b_ff | apply b_tf | apply b_ft | apply b_no | exact isD.mk rfl | (apply eqG; (simp only [push_cast, ↓reduceIte, Nat.reduceEqDiff, Nat.reduceAdd, Nat.reduceLeDiff, Nat.reduceLT, Int.reduceLE, Int.reduceLT, Int.reduceAdd, Int.reduceSub, Int.reduceNeg, Int.reduceBEq, Int.reduceBNe, Int.reduceEq, Int.reduceGT, Int.reduceGE, Int.reduceMul, Int.reduceToNat, Nat.reduceMul, reduceCtorEq, t1, t3, t4, hrow, a0, q1, w00, q20, w1, qa, qb, qc, qd, qe, Int.zero_add] <;> rfl)) | exact (rfl : app (swap _ _) _ = _)))
      refine vr_nil (aw_then ?_)
      refine aw_true (by (simp only [push_cast, ↓reduceIte, Nat.reduceEqDiff, Nat.reduceAdd, Nat.reduceLeDiff, Nat.reduceLT, Int.reduceLE, Int.reduceLT, Int.reduceAdd, Int.reduceSub, Int.reduceNeg, Int.reduceBEq, Int.reduceBNe, Int.reduceEq, Int.reduceGT, Int.reduceGE, Int.reduceMul, Int.reduceToNat, Nat.reduceMul, reduceCtorEq, t1, t3, t4, hrow, a0, q1, w00, q20, w1, qa, qb, qc, qd, qe, Int.zero_add] <;> rfl)) (AWp.skip (aw_then ?_))
      refine AWp.seq ?_
      refine AWp.block ?_
      (refine aw_regionL hS (by kernel_rfl) ?_; repeat (first | apply vr0u | apply vr4 | apply b_tt | apply b_ff | apply b_tf | apply b_ft | apply b_no | exact isD.mk rfl | (apply eqG; (simp only [push_cast, ↓reduceIte, Nat.reduceEqDiff, Nat.reduceAdd, Nat.reduceLeDiff, Nat.reduceLT, Int.reduceLE, Int.reduceLT, Int.reduceAdd, Int.reduceSub, Int.reduceNeg, Int.reduceBEq, Int.reduceBNe, Int.reduceEq, Int.reduceGT, Int.reduceGE, Int.reduceMul, Int.reduceToNat, Nat.reduceMul, reduceCtorEq, t1, t3, t4, hrow, a0, q1, w00, q20, w1, qa, qb, qc, qd, qe, Int.zero_add] <;> rfl)) | exact (rfl : app (swap _ _) _ = _)))
      refine vr_nil (aw_in (aw_then ?_))
      (refine aw_regionL hS (by kernel_rfl) ?_; repeat (first | apply vr0u | apply vr4 | apply b_tt | apply b_ff | apply b_tf | apply b_ft | apply b_no | exact isD.mk rfl | (apply eqG; (simp only [push_cast, ↓reduceIte, Nat.reduceEqDiff, Nat.reduceAdd, Nat.reduceLeDiff, Nat.reduceLT, Int.reduceLE, Int.reduceLT, Int.reduceAdd, Int.reduceSub, Int.reduceNeg, Int.reduceBEq, Int.reduceBNe, Int.reduceEq, Int.reduceGT, Int.reduceGE, Int.reduceMul, Int.reduceToNat, Nat.reduceMul, reduceCtorEq, t1, t3, t4, hrow, a0, q1, w00, q20, w1, qa, qb, qc, qd, qe, Int.zero_add] <;> rfl)) | exact (rfl : app (swap _ _) _ = _)))
      exact vr_nil (aw_then ⟨k, Nat.lt_succ_self _, k, B, (k : Int) - 1, rfl, by omega, hst2, by omega, by omega, .inr ⟨hB0, n', by (simp only [push_cast, ↓reduceIte, Nat.reduceEqDiff, Nat.reduceAdd, Nat.reduceLeDiff, Nat.reduceLT, Int.reduceLE, Int.reduceLT, Int.reduceAdd, Int.reduceSub, Int.reduceNeg, Int.reduceBEq, Int.reduceBNe, Int.reduceEq, Int.reduceGT, Int.reduceGE, Int.reduceMul, Int.reduceToNat, Nat.reduceMul, reduceCtorEq, t1, t3, t4, hrow, a0, q1, w00, q20, w1, qa, qb, qc, qd, qe, Int.zero_add] <;> rfl), hnn, Nat.lt_succ_self _, upd_same ..⟩, by (simp only [push_cast, ↓reduceIte, Nat.reduceEqDiff, Nat.reduceAdd, Nat.reduceLeDiff, Nat.reduceLT, Int.reduceLE, Int.reduceLT, Int.reduceAdd, Int.reduceSub, Int.reduceNeg, Int.reduceBEq, Int.reduceBNe, Int.reduceEq, Int.reduceGT, Int.reduceGE, Int.reduceMul, Int.reduceToNat, Nat.reduceMul, reduceCtorEq, t1, t3, t4, hrow, a0, q1, w00, q20, w1, qa, qb, qc, qd, qe, Int.zero_add] <;> rfl), by (simp only [push_cast, ↓reduceIte, Nat.reduceEqDiff, Nat.reduceAdd, Nat.reduceLeDiff, Nat.reduceLT, Int.reduceLE, Int.reduceLT, Int.reduceAdd, Int.reduceSub, Int.reduceNeg, Int.reduceBEq, Int.reduceBNe, Int.reduceEq, Int.reduceGT, Int.reduceGE, Int.reduceMul, Int.reduceToNat, Nat.reduceMul, reduceCtorEq, t1, t3, t4, hrow, a0, q1, w00, q20, w1, qa, qb, qc, qd, qe, Int.zero_add] <;> rfl), rfl, by rw [u1]; exact hrow, keepU (by omega) fr⟩)
    · have qa : ((cellsB out).length = out.length) = True := by simp [len_cellsB]
      have qb : (out.length + B.length ≤ 140737488355328) = True := by simp; omega
      have qc : (out.length + B.length ≤ 9223372036854775807) = True := by simp; omega
      have qf : cellsB out ++ cellsB B = cellsB (out ++ B) := (cellsB_app ..).symm
      have u2 : ∀ (g : Heap) (r : Option Row), Av.upd g j r n = g n := fun g r => upd_ne _ _ (by omega)
      refine AWp.seq ?_
      refine AWp.seq ?_
      (refine aw_regionL hS (by kernel_rfl) ?_; repeat (first | apply vr0u | apply vr4 | apply b_tt | apply b_ff | apply b_tf | apply b_ft | apply b_no | exact isD.mk rfl | (apply eqG; (simp only [push_cast, ↓reduceIte, Nat.reduceEqDiff, Nat.reduceAdd, Nat.reduceLeDiff, Nat.reduceLT, Int.reduceLE, Int.reduceLT, Int.reduceAdd, Int.reduceSub, Int.reduceNeg, Int.reduceBEq, Int.reduceBNe, Int.reduceEq, Int.reduceGT, Int.reduceGE, Int.reduceMul, Int.reduceToNat, Nat.reduceMul, reduceCtorEq, t1, t3, t4, hrow, a0, q1, w0, q2, w1, qa, qb, qc, qd, qe, qf, hjr] <;> rfl)) | exact (rfl : app (swap _ _) _ = _)))
      refine vr_nil (aw_then ?_)
      refine aw_true (by (simp only [push_cast, ↓reduceIte, Nat.reduceEqDiff, Nat.reduceAdd, Nat.reduceLeDiff, Nat.reduceLT, Int.reduceLE, Int.reduceLT, Int.reduceAdd, Int.reduceSub, Int.reduceNeg, Int.reduceBEq, Int.reduceBNe, Int.reduceEq, Int.reduceGT, Int.reduceGE, Int.reduceMul, Int.reduceToNat, Nat.reduceMul, reduceCtorEq, t1, t3, t4, hrow, a0, q1, w0, q2, w1, qa, qb, qc, qd, qe, qf, hjr] <;> rfl)) (AWp.skip (aw_then ?_))
      refine AWp.seq ?_
      refine AWp.block ?_
      (refine aw_regionL hS (by kernel_rfl) ?_; repeat (first | apply vr0u | apply vr4 | apply b_tt | apply b_ff | apply b_tf | apply b_ft | apply b_no | exact isD.mk rfl | (apply eqG; (simp only [push_cast, ↓reduceIte, Nat.reduceEqDiff, Nat.reduceAdd, Nat.reduceLeDiff, Nat.reduceLT, Int.reduceLE, Int.reduceLT, Int.reduceAdd, Int.reduceSub, Int.reduceNeg, Int.reduceBEq, Int.reduceBNe, Int.reduceEq, Int.reduceGT, Int.reduceGE, Int.reduceMul, Int.reduceToNat, Nat.reduceMul, reduceCtorEq, t1, t3, t4, hrow, a0, q1, w0, q2, w1, qa, qb, qc, qd, qe, qf, hjr] <;> rfl)) | exact (rfl : app (swap _ _) _ = _)))
      refine vr_nil (aw_in (aw_then ?_))
      (refine aw_regionL hS (by kernel_rfl) ?_; repeat (first | apply vr0u | apply vr4 | apply b_tt | apply b_ff | apply b_tf | apply b_ft | apply b_no | exact isD.mk rfl | (apply eqG; (simp only [push_cast, ↓reduceIte, Nat.reduceEqDiff, Nat.reduceAdd, Nat.reduceLeDiff, Nat.reduceLT, Int.reduceLE, Int.reduceLT, Int.reduceAdd, Int.reduceSub, Int.reduceNeg, Int.reduceBEq, Int.reduceBNe, Int.reduceEq, Int.reduceGT, Int.reduceGE, Int.reduceMul, Int.reduceToNat, Nat.reduceMul, reduceCtorEq, t1, t3, t4, hrow, a0, q1, w0, q2, w1, qa, qb, qc, qd, qe, qf, hjr] <;> rfl)) | exact (rfl : app (swap _ _) _ = _)))
      exact vr_nil (aw_then ⟨k, Nat.lt_succ_self _, k, out ++ B, (k : Int) - 1, rfl, by omega, hst2, by rw [List.length_append]; exact hfit, by omega, .inr ⟨by simp [e], n', by rw [List.length_append]; (simp only [push_cast, ↓reduceIte, Nat.reduceEqDiff, Nat.reduceAdd, Nat.reduceLeDiff, Nat.reduceLT, Int.reduceLE, Int.reduceLT, Int.reduceAdd, Int.reduceSub, Int.reduceNeg, Int.reduceBEq, Int.reduceBNe, Int.reduceEq, Int.reduceGT, Int.reduceGE, Int.reduceMul, Int.reduceToNat, Nat.reduceMul, reduceCtorEq, t1, t3, t4, hrow, a0, q1, w0, q2, w1, qa, qb, qc, qd, qe, qf, hjr] <;> rfl), hnn, Nat.lt_succ_self _, upd_same ..⟩, by (simp only [push_cast, ↓reduceIte, Nat.reduceEqDiff, Nat.reduceAdd, Nat.reduceLeDiff, Nat.reduceLT, Int.reduceLE, Int.reduceLT, Int.reduceAdd, Int.reduceSub, Int.reduceNeg, Int.reduceBEq, Int.reduceBNe, Int.reduceEq, Int.reduceGT, Int.reduceGE, Int.reduceMul, Int.reduceToNat, Nat.reduceMul, reduceCtorEq, t1, t3, t4, hrow, a0, q1, w0, q2, w1, qa, qb, qc, qd, qe, qf, hjr] <;> rfl), by (simp only [push_cast, ↓reduceIte, Nat.reduceEqDiff, Nat.reduceAdd, Nat.reduceLeDiff, Nat.reduceLT, Int.reduceLE, Int.reduceLT, Int.reduceAdd, Int.reduceSub, Int.reduceNeg, Int.reduceBEq, Int.reduceBNe, Int.reduceEq, Int.reduceGT, Int.reduceGE, Int.reduceMul, Int.reduceToNat, Nat.reduceMul, reduceCtorEq, t1, t3, t4, hrow, a0, q1, w0, q2, w1, qa, qb, qc, qd, qe, qf, hjr] <;> rfl), rfl, by rw [u1, u2]; exact hrow, keepU (by omega) (keepU (by omega) fr)⟩)
  rintro t' h' n' - ⟨hout, fr⟩
  rcases hout with ⟨e, t3⟩ | ⟨e, j, t3, hjr, hj⟩
  · subst e
    have e1 : (cellsB [] : List AV) = [] := rfl
    have e2 : ([] : List UInt8).isEmpty = true := rfl
    refine AWp.seq ?_
    (refine aw_regionL hS (by kernel_rfl) ?_; repeat (first | apply vr0u | apply vr4 | apply b_tt | apply b_ff | apply b_tf | apply b_ft | apply b_no | exact isD.mk rfl | (apply eqG; (simp only [push_cast, ↓reduceIte, Nat.reduceEqDiff, Nat.reduceAdd, Nat.reduceLeDiff, Nat.reduceLT, Int.reduceLE, Int.reduceLT, Int.reduceAdd, Int.reduceSub, Int.reduceNeg, Int.reduceBEq, Int.reduceBNe, Int.reduceEq, Int.reduceGT, Int.reduceGE, Int.reduceMul, Int.reduceToNat, Nat.reduceMul, reduceCtorEq, t3, e1, e2] <;> rfl)) | exact (rfl : app (swap _ _) _ = _)))
    refine vr_nil (aw_then ?_)
    refine AWp.ret ?_
    exact Out.pure1 (.inr rfl) rfl (by (simp only [push_cast, ↓reduceIte, Nat.reduceEqDiff, Nat.reduceAdd, Nat.reduceLeDiff, Nat.reduceLT, Int.reduceLE, Int.reduceLT, Int.reduceAdd, Int.reduceSub, Int.reduceNeg, Int.reduceBEq, Int.reduceBNe, Int.reduceEq, Int.reduceGT, Int.reduceGE, Int.reduceMul, Int.reduceToNat, Nat.reduceMul, reduceCtorEq, t3, e1, e2] <;> rfl)) (by (simp only [push_cast, ↓reduceIte, Nat.reduceEqDiff, Nat.reduceAdd, Nat.reduceLeDiff, Nat.reduceLT, Int.reduceLE, Int.reduceLT, Int.reduceAdd, Int.reduceSub, Int.reduceNeg, Int.reduceBEq, Int.reduceBNe, Int.reduceEq, Int.reduceGT, Int.reduceGE, Int.reduceMul, Int.reduceToNat, Nat.reduceMul, reduceCtorEq, t3, e1, e2] <;> rfl)) trivial fr
  · have qf : fin.isEmpty = false := List.isEmpty_eq_false_iff.2 e
    have qe := take_cellsB fin
    refine AWp.seq ?_
    (refine aw_regionL hS (by kernel_rfl) ?_; repeat (first | apply vr0u | apply vr4 | apply b_tt | apply b_ff | apply b_tf | apply b_ft | apply b_no | exact isD.mk rfl | (apply eqG; (simp only [push_cast, ↓reduceIte, Nat.reduceEqDiff, Nat.reduceAdd, Nat.reduceLeDiff, Nat.reduceLT, Int.reduceLE, Int.reduceLT, Int.reduceAdd, Int.reduceSub, Int.reduceNeg, Int.reduceBEq, Int.reduceBNe, Int.reduceEq, Int.reduceGT, Int.reduceGE, Int.reduceMul, Int.reduceToNat, Nat.reduceMul, reduceCtorEq, t3, qe] <;> rfl)) | exact (rfl : app (swap _ _) _ = _)))
    refine vr_nil (aw_then ?_)
    refine AWp.freeze (j := j) (k := 2) hjr (by (simp only [push_cast, ↓reduceIte, Nat.reduceEqDiff, Nat.reduceAdd, Nat.reduceLeDiff, Nat.reduceLT, Int.reduceLE, Int.reduceLT, Int.reduceAdd, Int.reduceSub, Int.reduceNeg, Int.reduceBEq, Int.reduceBNe, Int.reduceEq, Int.reduceGT, Int.reduceGE, Int.reduceMul, Int.reduceToNat, Nat.reduceMul, reduceCtorEq, t3, qe] <;> rfl)) (by simp [cellsB]) ?_
    refine AWp.ret ?_
    rw [qf]
    exact Out.pure1 (.inr rfl) rfl (by (simp only [push_cast, ↓reduceIte, Nat.reduceEqDiff, Nat.reduceAdd, Nat.reduceLeDiff, Nat.reduceLT, Int.reduceLE, Int.reduceLT, Int.reduceAdd, Int.reduceSub, Int.reduceNeg, Int.reduceBEq, Int.reduceBNe, Int.reduceEq, Int.reduceGT, Int.reduceGE, Int.reduceMul, Int.reduceToNat, Nat.reduceMul, reduceCtorEq, t3, qe] <;> rfl)) rfl (AV.free_names _ (by simp [AV.free, free_cellsB])) (keepU (by omega) fr)

end Go.Proofs.YtepfknnffooaiaaDoor
