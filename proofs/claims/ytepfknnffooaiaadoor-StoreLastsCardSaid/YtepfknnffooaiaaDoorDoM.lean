import Derived.Test.YtepfknnffooaiaaDoorDoL

namespace Go.Proofs.YtepfknnffooaiaaDoor
open Go.Av
set_option maxRecDepth 100000
set_option maxHeartbeats 1000000
set_option linter.unusedSimpArgs false
set_option linter.unusedVariables false
attribute [local push_cast] stepE callR resE aeff aev ofC ofC1 put_at Av.put_none inTmps List.getD_cons_zero List.getD_cons_succ AV.boxable if_true if_false AV.cells aload place app_cons app_nil upd_same Av.part abin aconv aindexAddr fillA splice_one abuiltin alen amax amin aun aindex Option.map_some Option.isSome_some List.map_cons List.map_nil List.nil_append List.append_nil List.cons_append Nat.le_refl Nat.zero_add Nat.add_zero List.length_cons List.length_nil List.drop_succ_cons List.drop_zero List.take_succ_cons List.take_zero beq_self_eq_true bne_self_eq_false Bool.not_true Bool.not_false List.set_cons_zero List.set_cons_succ Bool.false_eq_true IntWalk.i64_in decide_true decide_false Int.toNat_zero and_self and_true true_and List.getElem?_cons_zero List.getElem?_cons_succ aappend aapp view Bool.and_true Bool.true_and Nat.mul_one Option.map_none aslice asliceB nilOp Int.toNat_natCast und_30 agT_3 szT_3 kiT_3 agT_5 szT_5 kiT_5 agT_24 szT_24 kiT_24 agT_62 szT_62 kiT_62 agT_4 szT_4 kiT_4 agT_9 szT_9 kiT_9 agT_44 szT_44 kiT_44 agT_45 szT_45 kiT_45 agT_30 szT_30 kiT_30 agT_22 szT_22 kiT_22 agT_41 szT_41 kiT_41 agT_51 szT_51 kiT_51 agT_52 szT_52 kiT_52 agT_23 szT_23 kiT_23 agT_53 szT_53 kiT_53 agT_27 szT_27 kiT_27 agT_89 szT_89 kiT_89 agT_66 szT_66 kiT_66 agT_20 szT_20 kiT_20 slT_45 slT_44 slT_30 slT_22 slT_41 slT_51 slT_52 zeT_3 zeT_4 zeT_5 zeT_30 zeT_24 flT_55_0 flT_55_1 flT_55_2 flT_55_3 flT_55_4 agT_55 szT_55 buT_55 zeT_55 flT_57_0 flT_57_1 agT_57 szT_57 buT_57 zeT_57 flT_74_0 flT_74_1 agT_74 szT_74 buT_74 zeT_74 flT_77_0 flT_77_1 flT_77_2 agT_77 szT_77 buT_77 zeT_77 flT_47_0 flT_47_1 flT_47_2 flT_47_3 flT_47_4 flT_47_5 agT_47 szT_47 buT_47 zeT_47 flT_61_0 flT_61_1 agT_61 szT_61 buT_61 zeT_61 flT_64_0 flT_64_1 agT_64 szT_64 buT_64 zeT_64 flT_91_0 flT_91_1 agT_91 szT_91 buT_91 zeT_91 ptT_23 ptT_53 ptT_27 ptT_89 und_30 

/-! ### a state that is read -/
theorem cellsB_app (a b : List UInt8) : cellsB (a ++ b) = cellsB a ++ cellsB b := List.map_append
def catK (st : List UInt8) : Nat → List UInt8
  | 0 => []
  | k + 1 => catK st k ++ sectorB (st.drop (64 * k))
theorem catK_len (st : List UInt8) : ∀ k, (catK st k).length = 64 * k
  | 0 => rfl
  | k + 1 => by rw [catK, List.length_append, catK_len st k, sectorB_len]; omega
theorem catK_full {st : List UInt8} : ∀ {k : Nat}, 64 * k ≤ st.length → catK st k = st.take (64 * k)
  | 0, _ => by simp [catK]
  | k + 1, h => by
    rw [catK, catK_full (by omega), sectorB]
    have h1 : 64 - (st.drop (64 * k)).length = 0 := by rw [List.length_drop]; omega
    rw [h1, List.replicate_zero, List.append_nil, show 64 * (k + 1) = 64 * k + 64 by omega, List.take_add]
theorem catK_take {st : List UInt8} {k : Nat} (h1 : st.length ≤ 64 * k) (h2 : 64 * k < st.length + 64) : (catK st k).take st.length = st := by
  cases k with
  | zero =>
    have : st = [] := List.length_eq_zero_iff.1 (by omega)
    subst this; rfl
  | succ k =>
    rw [catK, catK_full (by omega), sectorB]
    have h3 : (st.drop (64 * k)).take 64 = st.drop (64 * k) := List.take_of_length_le (by rw [List.length_drop]; omega)
    rw [h3, ← List.append_assoc, List.take_append_drop, List.take_left]
def areaOk (l : List Sec) (c : Nat) (st : List UInt8) : Prop := ∀ k, 64 * k < st.length → l[placeN c k]? = some (some (sectorB (st.drop (64 * k))))
theorem s25 {h : Heap} {s d : Nat} {w : DW} {sv : AV} (hw : DOk w) (F : DFacts h d w) (ho : w.off = false) (hlen : 150 ≤ w.safe.length) (hs : h s = some (.cells [.p d 0, sv]))
    (c : Nat) (st : List UInt8) (hc : c < 9223372036854775808) (hl : st.length ≤ 4000) (h0 : c = 0 → st = []) (ha : areaOk w.now c st) :
    ∀ n, DCalls Tryd.prog 25 [.p s 0, .agg (mkC (c, st.length))] h n (.tup [.ro st.isEmpty (cellsB st) st.length, .ni]) [] n := by
  intro n
  have hS := SumOk.none (P := Tryd.prog)
  by_cases hsn : n ≤ s
  · exact DCalls.vac ⟨_, Tryd.func25, rfl, by decide⟩ (Nat.le_refl _) hs hsn
  rcases has_any F.has n with hlt | ⟨j, r, hj, hn⟩
  case inr => exact DCalls.vac ⟨_, Tryd.func25, rfl, by decide⟩ (Nat.le_refl _) hj hn
  refine DCalls.of Tryd.func25 rfl (by decide) (Nat.le_of_ble_eq_true rfl) (Nat.le_refl _) ?_
  have hdn := hlt d (DW.keys_iff.2 (.inl rfl))
  refine AWp.seq ?_
  (refine aw_regionL hS (by kernel_rfl) ?_; repeat (first | apply vr0u | apply vr4 | apply b_tt | apply b_ff | apply b_tf | apply b_ft | apply b_no | exact isD.mk rfl | (apply eqG; (simp only [push_cast, ↓reduceIte, Nat.reduceEqDiff, Nat.reduceAdd, Nat.reduceLeDiff, Nat.reduceLT, Int.reduceLE, Int.reduceLT, Int.reduceAdd, Int.reduceSub, Int.reduceNeg, Int.reduceBEq, Int.reduceBNe, Int.reduceEq, Int.reduceGT, Int.reduceGE, Int.reduceMul, Int.reduceToNat, Nat.reduceMul, reduceCtorEq, mkC] <;> rfl)) | exact (rfl : app (swap _ _) _ = _)))
  refine vr_nil (aw_then ?_)
  refine AWp.frz1 (k := 3) (j := n) (d := 1) (cs := mkC (c, st.length)) (x := .q (mkC (c, st.length)) 0) (by rw [upd_same]; rfl) (by simp only [push_cast, ↓reduceIte, Nat.reduceEqDiff, Nat.reduceAdd, Nat.reduceLeDiff, Nat.reduceLT, Int.reduceLE, Int.reduceLT, Int.reduceAdd, Int.reduceSub, Int.reduceNeg, Int.reduceBEq, Int.reduceBNe, Int.reduceEq, Int.reduceGT, Int.reduceGE, Int.reduceMul, Int.reduceToNat, Nat.reduceMul, reduceCtorEq, mkC]; exact frz_ptr) ?_
  have KK : ∀ {g : Heap}, (∀ x r, x < n → h x = some r → g x = some r) → DFacts g d w ∧ g s = some (.cells [.p d 0, sv]) := fun {g} hk =>
    ⟨DFacts.of (F.has.keep fun j hj => by
      obtain ⟨cs, hc⟩ := F.has.isSome hj
      rw [hc]; exact hk j _ (hlt j hj) hc), hk s _ (by omega) hs⟩
  have m0 : (mkC (c, st.length))[0]? = some (.i .u64 (c : Int)) := rfl
  have m1 : (mkC (c, st.length))[1]? = some (.i .i64 (st.length : Int)) := rfl
  have hend : ∀ (b : List UInt8), b = st → (∀ x r, x < n → h x = some r → True) := fun _ _ _ _ _ _ => trivial
  clear hend
  refine AWp.seq ?_
  (refine aw_regionL hS (by kernel_rfl) ?_; repeat (first | apply vr0u | apply vr4 | apply b_tt | apply b_ff | apply b_tf | apply b_ft | apply b_no | exact isD.mk rfl | (apply eqG; (simp only [push_cast, ↓reduceIte, Nat.reduceEqDiff, Nat.reduceAdd, Nat.reduceLeDiff, Nat.reduceLT, Int.reduceLE, Int.reduceLT, Int.reduceAdd, Int.reduceSub, Int.reduceNeg, Int.reduceBEq, Int.reduceBNe, Int.reduceEq, Int.reduceGT, Int.reduceGE, Int.reduceMul, Int.reduceToNat, Nat.reduceMul, reduceCtorEq] <;> rfl)) | exact (rfl : app (swap _ _) _ = _)))
  refine vr_nil (aw_then ?_)
  have hk0 : ∀ x r, x < n → h x = some r → upd (upd h n (some (.cells (mkC (c, st.length))))) n none x = some r := keepU (Nat.le_refl _) (keepU (Nat.le_refl _) keep0)
  refine AWp.cut (fun t' h' n' => ∃ (k : Nat) (x : AV), st.length ≤ 64 * k ∧ 64 * k < st.length + 64 ∧ t' 3 = .q (mkC (c, st.length)) 0 ∧ t' 6 = x ∧ ((k = 0 ∧ x = .ro true [] 0) ∨ (∃ j, 1 ≤ k ∧ n ≤ j ∧ j < n' ∧ x = .sl 1 j 0 (64 * k) ∧ h' j = some (.cells (cellsB (catK st k))))) ∧ ∀ x r, x < n → h x = some r → h' x = some r) ?_ ?_
  · refine AWp.seq ?_
    (refine aw_regionL hS (by kernel_rfl) ?_; repeat (first | apply vr0u | apply vr4 | apply b_tt | apply b_ff | apply b_tf | apply b_ft | apply b_no | exact isD.mk rfl | (apply eqG; (simp only [push_cast, ↓reduceIte, Nat.reduceEqDiff, Nat.reduceAdd, Nat.reduceLeDiff, Nat.reduceLT, Int.reduceLE, Int.reduceLT, Int.reduceAdd, Int.reduceSub, Int.reduceNeg, Int.reduceBEq, Int.reduceBNe, Int.reduceEq, Int.reduceGT, Int.reduceGE, Int.reduceMul, Int.reduceToNat, Nat.reduceMul, reduceCtorEq] <;> rfl)) | exact (rfl : app (swap _ _) _ = _)))
    refine vr_nil (aw_then ?_)
    refine AWp.block ?_
    refine AWp.loop (fun m t' h' n' => ∃ (k : Nat) (x : AV), m = 64 - k ∧ k ≤ 63 ∧ 64 * k < st.length + 64 ∧ n ≤ n' ∧ t' 0 = .p s 0 ∧ t' 3 = .q (mkC (c, st.length)) 0 ∧ t' 6 = x ∧ t' 7 = .i .i64 (k : Int) ∧ ((k = 0 ∧ x = .ro true [] 0) ∨ (∃ j, 1 ≤ k ∧ n ≤ j ∧ j < n' ∧ x = .sl 1 j 0 (64 * k) ∧ h' j = some (.cells (cellsB (catK st k))))) ∧ ∀ x r, x < n → h x = some r → h' x = some r) 64 ?_ ?_
    · refine ⟨0, _, rfl, by decide, by omega, by omega, by (simp only [push_cast, ↓reduceIte, Nat.reduceEqDiff, Nat.reduceAdd, Nat.reduceLeDiff, Nat.reduceLT, Int.reduceLE, Int.reduceLT, Int.reduceAdd, Int.reduceSub, Int.reduceNeg, Int.reduceBEq, Int.reduceBNe, Int.reduceEq, Int.reduceGT, Int.reduceGE, Int.reduceMul, Int.reduceToNat, Nat.reduceMul, reduceCtorEq] <;> rfl), by (simp only [push_cast, ↓reduceIte, Nat.reduceEqDiff, Nat.reduceAdd, Nat.reduceLeDiff, Nat.reduceLT, Int.reduceLE, Int.reduceLT, Int.reduceAdd, Int.reduceSub, Int.reduceNeg, Int.reduceBEq, Int.reduceBNe, Int.reduceEq, Int.reduceGT, Int.reduceGE, Int.reduceMul, Int.reduceToNat, Nat.reduceMul, reduceCtorEq] <;> rfl), by (simp only [push_cast, ↓reduceIte, Nat.reduceEqDiff, Nat.reduceAdd, Nat.reduceLeDiff, Nat.reduceLT, Int.reduceLE, Int.reduceLT, Int.reduceAdd, Int.reduceSub, Int.reduceNeg, Int.reduceBEq, Int.reduceBNe, Int.reduceEq, Int.reduceGT, Int.reduceGE, Int.reduceMul, Int.reduceToNat, Nat.reduceMul, reduceCtorEq] <;> rfl), by (simp only [push_cast, ↓reduceIte, Nat.reduceEqDiff, Nat.reduceAdd, Nat.reduceLeDiff, Nat.reduceLT, Int.reduceLE, Int.reduceLT, Int.reduceAdd, Int.reduceSub, Int.reduceNeg, Int.reduceBEq, Int.reduceBNe, Int.reduceEq, Int.reduceGT, Int.reduceGE, Int.reduceMul, Int.reduceToNat, Nat.reduceMul, reduceCtorEq] <;> rfl), .inl ⟨rfl, rfl⟩, ?_⟩
      first | exact hk0 | exact keepU (Nat.le_refl _) (keepU (Nat.le_refl _) keep0)
    · rintro m t' h' n' - ⟨k, x, rfl, hk63, hkl, hnn, t0, t3, t6, t7, hx, hk2⟩
      obtain ⟨F', hs'⟩ := KK hk2
      by_cases hc0 : c = 0
      · obtain rfl := h0 hc0
        subst hc0
        have hk00 : k = 0 := by have : ([] : List UInt8).length = 0 := rfl; omega
        subst hk00
        rcases hx with ⟨_, rfl⟩ | ⟨j, hj0, _⟩
        · have m0 : (mkC (0, ([] : List UInt8).length))[0]? = some (.i .u64 0) := rfl
          have t7 : t' 7 = .i .i64 0 := t7
          refine AWp.seq ?_
          refine AWp.seq ?_
          (refine aw_regionL hS (by kernel_rfl) ?_; repeat (first | apply vr0u | apply vr4 | apply b_tt | apply b_ff | apply b_tf | apply b_ft | apply b_no | exact isD.mk rfl | (apply eqG; (simp only [push_cast, ↓reduceIte, Nat.reduceEqDiff, Nat.reduceAdd, Nat.reduceLeDiff, Nat.reduceLT, Int.reduceLE, Int.reduceLT, Int.reduceAdd, Int.reduceSub, Int.reduceNeg, Int.reduceBEq, Int.reduceBNe, Int.reduceEq, Int.reduceGT, Int.reduceGE, Int.reduceMul, Int.reduceToNat, Nat.reduceMul, reduceCtorEq, t0, t3, t6, t7, m0] <;> rfl)) | exact (rfl : app (swap _ _) _ = _)))
          refine vr_nil (aw_then ?_)
          refine aw_false (by (simp only [push_cast, ↓reduceIte, Nat.reduceEqDiff, Nat.reduceAdd, Nat.reduceLeDiff, Nat.reduceLT, Int.reduceLE, Int.reduceLT, Int.reduceAdd, Int.reduceSub, Int.reduceNeg, Int.reduceBEq, Int.reduceBNe, Int.reduceEq, Int.reduceGT, Int.reduceGE, Int.reduceMul, Int.reduceToNat, Nat.reduceMul, reduceCtorEq, t0, t3, t6, t7, m0] <;> rfl)) (AWp.exit (aw_thru (aw_thru (aw_exit (aw_then ?_)))))
          exact ⟨0, _, by simp, by simp, by (simp only [push_cast, ↓reduceIte, Nat.reduceEqDiff, Nat.reduceAdd, Nat.reduceLeDiff, Nat.reduceLT, Int.reduceLE, Int.reduceLT, Int.reduceAdd, Int.reduceSub, Int.reduceNeg, Int.reduceBEq, Int.reduceBNe, Int.reduceEq, Int.reduceGT, Int.reduceGE, Int.reduceMul, Int.reduceToNat, Nat.reduceMul, reduceCtorEq, t0, t3, t6, t7, m0] <;> rfl), by (simp only [push_cast, ↓reduceIte, Nat.reduceEqDiff, Nat.reduceAdd, Nat.reduceLeDiff, Nat.reduceLT, Int.reduceLE, Int.reduceLT, Int.reduceAdd, Int.reduceSub, Int.reduceNeg, Int.reduceBEq, Int.reduceBNe, Int.reduceEq, Int.reduceGT, Int.reduceGE, Int.reduceMul, Int.reduceToNat, Nat.reduceMul, reduceCtorEq, t0, t3, t6, t7, m0] <;> rfl), .inl ⟨rfl, rfl⟩, hk2⟩
        · omega
      · have q1 : ((c : Int) > 0) = True := by simp only [eq_iff_iff, iff_true]; omega
        have w1 : IntKind.wrap .i64 ((k : Int) + 1) = (k : Int) + 1 := IntWalk.i64_in _ (by omega)
        by_cases hkk : 64 * k < st.length
        · have hk62 : k ≤ 62 := by omega
          have hsec := ha k hkk
          have hpl : placeN c k < 150 := by unfold placeN; omega
          have er := read_at ho (by omega) hsec
          obtain ⟨S2, hS2, h34, n34, -⟩ := sum_pure hS (c34 c k (by omega) (by omega))
          obtain ⟨S3, hS3, h31, n31, -⟩ := sum_pure hS2 (c31 anArea)
          obtain ⟨S4, hS4, h30, n30⟩ := sum_here hS3 (f := 30) (args := [.p d 0, .i .i64 (placeN c k : Int)]) (g := h') (r := .pure (.tup [(w.read (placeN c k)).1, .i .i64 (w.read (placeN c k)).2])) (fun n => c11 hw F'.has (placeN c k : Int) n)
          rw [er, sectorB_len] at h30
          have h34 : ∀ g, S4 34 [.i .u64 (c : Int), .i .i64 (k : Int)] g = .pure (.i .i64 (placeN c k : Int)) := fun g => by rw [n30 34 (by decide), n31 34 (by decide)]; exact h34 g
          have h31 : ∀ g, S4 31 [.s anArea, .i .i64 0] g = .pure .ni := fun g => by rw [n30 31 (by decide)]; exact h31 g
          have ea : ({ data := #[97, 110, 32, 97, 114, 101, 97] } : ByteArray) = anArea := rfl
          have q4 : (64 ≤ (cellsB (sectorB (st.drop (64 * k)))).length) = True := by rw [len_cellsB, sectorB_len]; simp
          have q3' : (cellsB (sectorB (st.drop (64 * k)))).take 64 = cellsB (sectorB (st.drop (64 * k))) := List.take_of_length_le (by rw [len_cellsB, sectorB_len]; decide)
          rcases hx with ⟨rfl, rfl⟩ | ⟨j, hj0, hj1, hj2, rfl, hrow⟩
          · have q3 : ((0 : Int) < (st.length : Int)) = True := by simp only [eq_iff_iff, iff_true]; omega
            have t7 : t' 7 = .i .i64 0 := t7
            have e0 : ((0 : Nat) : Int) = 0 := rfl
            have e1 : 64 * 0 = 0 := rfl
            have q4 : (64 ≤ (cellsB (sectorB st)).length) = True := q4
            have q3' : (cellsB (sectorB st)).take 64 = cellsB (sectorB st) := q3'
            have h34 : ∀ g, S4 34 [.i .u64 (c : Int), .i .i64 0] g = .pure (.i .i64 (placeN c 0 : Int)) := h34
            refine AWp.seq ?_
            refine AWp.seq ?_
            (refine aw_regionL hS (by kernel_rfl) ?_; repeat (first | apply vr0u | apply vr4 | apply b_tt | apply b_ff | apply b_tf | apply b_ft | apply b_no | exact isD.mk rfl | (apply eqG; (simp only [push_cast, ↓reduceIte, Nat.reduceEqDiff, Nat.reduceAdd, Nat.reduceLeDiff, Nat.reduceLT, Int.reduceLE, Int.reduceLT, Int.reduceAdd, Int.reduceSub, Int.reduceNeg, Int.reduceBEq, Int.reduceBNe, Int.reduceEq, Int.reduceGT, Int.reduceGE, Int.reduceMul, Int.reduceToNat, Nat.reduceMul, reduceCtorEq, t0, t3, t6, t7, hs', q1, q3, q4, w1, h34, h30, h31, ea, isK, m0, m1, q3', e0, e1] <;> rfl)) | exact (rfl : app (swap _ _) _ = _)))
            refine vr_nil (aw_then ?_)
            refine aw_true (by (simp only [push_cast, ↓reduceIte, Nat.reduceEqDiff, Nat.reduceAdd, Nat.reduceLeDiff, Nat.reduceLT, Int.reduceLE, Int.reduceLT, Int.reduceAdd, Int.reduceSub, Int.reduceNeg, Int.reduceBEq, Int.reduceBNe, Int.reduceEq, Int.reduceGT, Int.reduceGE, Int.reduceMul, Int.reduceToNat, Nat.reduceMul, reduceCtorEq, t0, t3, t6, t7, hs', q1, q3, q4, w1, h34, h30, h31, ea, isK, m0, m1, q3', e0, e1] <;> rfl)) (AWp.skip (aw_then ?_))
            refine AWp.seq ?_
            refine AWp.block ?_
            refine AWp.seq ?_
            refine aw_drawsL [0, 1, 3, 7, 0, 16, 0, 112, 255, 511, 1023, 1023, 2047, 8191] [] hS4 mixed (by kernel_rfl) (by kernel_rfl) ?_
            repeat (first | (refine vd0f (by decide) (by ((repeat (first | rewrite [hpL_t rfl] | rewrite [hpL_f rfl])); (simp only [hpL, app_cons, app_nil] <;> rfl))) (by (simp only [push_cast, ↓reduceIte, Nat.reduceEqDiff, Nat.reduceAdd, Nat.reduceLeDiff, Nat.reduceLT, Int.reduceLE, Int.reduceLT, Int.reduceAdd, Int.reduceSub, Int.reduceNeg, Int.reduceBEq, Int.reduceBNe, Int.reduceEq, Int.reduceGT, Int.reduceGE, Int.reduceMul, Int.reduceToNat, Nat.reduceMul, reduceCtorEq, t0, t3, t6, t7, hs', q1, q3, q4, w1, h34, h30, h31, ea, isK, m0, m1, q3', e0, e1] <;> rfl)) ?_) | (refine vd0q rfl (by decide) rfl (by ((repeat (first | rewrite [hpL_t rfl] | rewrite [hpL_f rfl])); (simp only [hpL, app_cons, app_nil] <;> rfl))) (by (simp only [push_cast, ↓reduceIte, Nat.reduceEqDiff, Nat.reduceAdd, Nat.reduceLeDiff, Nat.reduceLT, Int.reduceLE, Int.reduceLT, Int.reduceAdd, Int.reduceSub, Int.reduceNeg, Int.reduceBEq, Int.reduceBNe, Int.reduceEq, Int.reduceGT, Int.reduceGE, Int.reduceMul, Int.reduceToNat, Nat.reduceMul, reduceCtorEq, t0, t3, t6, t7, hs', q1, q3, q4, w1, h34, h30, h31, ea, isK, m0, m1, q3', e0, e1] <;> rfl)) (by simp) (by omega) (by intro u hu; simp only [List.mem_cons, List.not_mem_nil, or_false] at hu; rcases hu with rfl | rfl | rfl <;> simp only <;> omega) ?_) | (refine vd0w rfl (by decide) (by ((repeat (first | rewrite [hpL_t rfl] | rewrite [hpL_f rfl])); (simp only [hpL, app_cons, app_nil] <;> rfl))) (by (simp only [push_cast, ↓reduceIte, Nat.reduceEqDiff, Nat.reduceAdd, Nat.reduceLeDiff, Nat.reduceLT, Int.reduceLE, Int.reduceLT, Int.reduceAdd, Int.reduceSub, Int.reduceNeg, Int.reduceBEq, Int.reduceBNe, Int.reduceEq, Int.reduceGT, Int.reduceGE, Int.reduceMul, Int.reduceToNat, Nat.reduceMul, reduceCtorEq, t0, t3, t6, t7, hs', q1, q3, q4, w1, h34, h30, h31, ea, isK, m0, m1, q3', e0, e1] <;> rfl)) (by omega) (by intro u hu; simp only [List.mem_cons, List.not_mem_nil, or_false] at hu; rcases hu with rfl | rfl | rfl <;> simp only <;> omega) ?_) | (apply vd0; (focus rfl)) | (apply vd0r; (focus rfl); (focus decide); (focus rfl)) | (apply vd0p; (focus decide)) | apply vd4 | apply b_tt | apply b_ff | apply b_tf | apply b_ft | apply b_no | exact isD.mk rfl | ((repeat (first | rewrite [hpL_t rfl] | rewrite [hpL_f rfl])); (simp only [hpL, app_cons, app_nil] <;> rfl)) | (apply eqG; (simp only [push_cast, ↓reduceIte, Nat.reduceEqDiff, Nat.reduceAdd, Nat.reduceLeDiff, Nat.reduceLT, Int.reduceLE, Int.reduceLT, Int.reduceAdd, Int.reduceSub, Int.reduceNeg, Int.reduceBEq, Int.reduceBNe, Int.reduceEq, Int.reduceGT, Int.reduceGE, Int.reduceMul, Int.reduceToNat, Nat.reduceMul, reduceCtorEq, t0, t3, t6, t7, hs', q1, q3, q4, w1, h34, h30, h31, ea, isK, m0, m1, q3', e0, e1] <;> rfl)))
            (refine vd_nil (by simp only [hpL, app_cons, app_nil, if_true] <;> rfl) ?_)
            refine aw_then ?_
            refine AWp.seq ?_
            refine AWp.seq ?_
            refine aw_regionL hS4 (by kernel_rfl) ?_
            repeat (first | apply vr0u | apply vr4 | apply b_tt | apply b_ff | apply b_tf | apply b_ft | apply b_no | exact isD.mk rfl | (apply eqG; (simp only [push_cast, ↓reduceIte, Nat.reduceEqDiff, Nat.reduceAdd, Nat.reduceLeDiff, Nat.reduceLT, Int.reduceLE, Int.reduceLT, Int.reduceAdd, Int.reduceSub, Int.reduceNeg, Int.reduceBEq, Int.reduceBNe, Int.reduceEq, Int.reduceGT, Int.reduceGE, Int.reduceMul, Int.reduceToNat, Nat.reduceMul, reduceCtorEq, t0, t3, t6, t7, hs', q1, q3, q4, w1, h34, h30, h31, ea, isK, m0, m1, q3', e0, e1] <;> rfl)) | exact (rfl : app (swap _ _) _ = _))
            refine vr_nil (aw_then ?_)
            refine AWp.seq ?_
            (refine aw_regionL hS (by kernel_rfl) ?_; repeat (first | apply vr0u | apply vr4 | apply b_tt | apply b_ff | apply b_tf | apply b_ft | apply b_no | exact isD.mk rfl | (apply eqG; (simp only [push_cast, ↓reduceIte, Nat.reduceEqDiff, Nat.reduceAdd, Nat.reduceLeDiff, Nat.reduceLT, Int.reduceLE, Int.reduceLT, Int.reduceAdd, Int.reduceSub, Int.reduceNeg, Int.reduceBEq, Int.reduceBNe, Int.reduceEq, Int.reduceGT, Int.reduceGE, Int.reduceMul, Int.reduceToNat, Nat.reduceMul, reduceCtorEq, t0, t3, t6, t7, hs', q1, q3, q4, w1, h34, h30, h31, ea, isK, m0, m1, q3', e0, e1] <;> rfl)) | exact (rfl : app (swap _ _) _ = _)))
            refine vr_nil (aw_then ?_)
            refine aw_false (by (simp only [push_cast, ↓reduceIte, Nat.reduceEqDiff, Nat.reduceAdd, Nat.reduceLeDiff, Nat.reduceLT, Int.reduceLE, Int.reduceLT, Int.reduceAdd, Int.reduceSub, Int.reduceNeg, Int.reduceBEq, Int.reduceBNe, Int.reduceEq, Int.reduceGT, Int.reduceGE, Int.reduceMul, Int.reduceToNat, Nat.reduceMul, reduceCtorEq, t0, t3, t6, t7, hs', q1, q3, q4, w1, h34, h30, h31, ea, isK, m0, m1, q3', e0, e1] <;> rfl)) (AWp.skip (aw_then ?_))
            (refine aw_regionL hS (by kernel_rfl) ?_; repeat (first | apply vr0u | apply vr4 | apply b_tt | apply b_ff | apply b_tf | apply b_ft | apply b_no | exact isD.mk rfl | (apply eqG; (simp only [push_cast, ↓reduceIte, Nat.reduceEqDiff, Nat.reduceAdd, Nat.reduceLeDiff, Nat.reduceLT, Int.reduceLE, Int.reduceLT, Int.reduceAdd, Int.reduceSub, Int.reduceNeg, Int.reduceBEq, Int.reduceBNe, Int.reduceEq, Int.reduceGT, Int.reduceGE, Int.reduceMul, Int.reduceToNat, Nat.reduceMul, reduceCtorEq, t0, t3, t6, t7, hs', q1, q3, q4, w1, h34, h30, h31, ea, isK, m0, m1, q3', e0, e1] <;> rfl)) | exact (rfl : app (swap _ _) _ = _)))
            refine vr_nil (aw_in (aw_then ?_))
            (refine aw_regionL hS (by kernel_rfl) ?_; repeat (first | apply vr0u | apply vr4 | apply b_tt | apply b_ff | apply b_tf | apply b_ft | apply b_no | exact isD.mk rfl | (apply eqG; (simp only [push_cast, ↓reduceIte, Nat.reduceEqDiff, Nat.reduceAdd, Nat.reduceLeDiff, Nat.reduceLT, Int.reduceLE, Int.reduceLT, Int.reduceAdd, Int.reduceSub, Int.reduceNeg, Int.reduceBEq, Int.reduceBNe, Int.reduceEq, Int.reduceGT, Int.reduceGE, Int.reduceMul, Int.reduceToNat, Nat.reduceMul, reduceCtorEq, t0, t3, t6, t7, hs', q1, q3, q4, w1, h34, h30, h31, ea, isK, m0, m1, q3', e0, e1] <;> rfl)) | exact (rfl : app (swap _ _) _ = _)))
            exact vr_nil (aw_then ⟨64 - (0 + 1), by omega, 0 + 1, _, rfl, by omega, by omega, by omega, by (simp only [push_cast, ↓reduceIte, Nat.reduceEqDiff, Nat.reduceAdd, Nat.reduceLeDiff, Nat.reduceLT, Int.reduceLE, Int.reduceLT, Int.reduceAdd, Int.reduceSub, Int.reduceNeg, Int.reduceBEq, Int.reduceBNe, Int.reduceEq, Int.reduceGT, Int.reduceGE, Int.reduceMul, Int.reduceToNat, Nat.reduceMul, reduceCtorEq, t0, t3, t6, t7, hs', q1, q3, q4, w1, h34, h30, h31, ea, isK, m0, m1, q3', e0, e1] <;> rfl), by (simp only [push_cast, ↓reduceIte, Nat.reduceEqDiff, Nat.reduceAdd, Nat.reduceLeDiff, Nat.reduceLT, Int.reduceLE, Int.reduceLT, Int.reduceAdd, Int.reduceSub, Int.reduceNeg, Int.reduceBEq, Int.reduceBNe, Int.reduceEq, Int.reduceGT, Int.reduceGE, Int.reduceMul, Int.reduceToNat, Nat.reduceMul, reduceCtorEq, t0, t3, t6, t7, hs', q1, q3, q4, w1, h34, h30, h31, ea, isK, m0, m1, q3', e0, e1] <;> rfl), by (simp only [push_cast, ↓reduceIte, Nat.reduceEqDiff, Nat.reduceAdd, Nat.reduceLeDiff, Nat.reduceLT, Int.reduceLE, Int.reduceLT, Int.reduceAdd, Int.reduceSub, Int.reduceNeg, Int.reduceBEq, Int.reduceBNe, Int.reduceEq, Int.reduceGT, Int.reduceGE, Int.reduceMul, Int.reduceToNat, Nat.reduceMul, reduceCtorEq, t0, t3, t6, t7, hs', q1, q3, q4, w1, h34, h30, h31, ea, isK, m0, m1, q3', e0, e1] <;> rfl), by (simp only [push_cast, ↓reduceIte, Nat.reduceEqDiff, Nat.reduceAdd, Nat.reduceLeDiff, Nat.reduceLT, Int.reduceLE, Int.reduceLT, Int.reduceAdd, Int.reduceSub, Int.reduceNeg, Int.reduceBEq, Int.reduceBNe, Int.reduceEq, Int.reduceGT, Int.reduceGE, Int.reduceMul, Int.reduceToNat, Nat.reduceMul, reduceCtorEq, t0, t3, t6, t7, hs', q1, q3, q4, w1, h34, h30, h31, ea, isK, m0, m1, q3', e0, e1] <;> rfl), .inr ⟨n', by omega, by omega, by omega, rfl, by rw [upd_same]; rfl⟩, keepU (by omega) hk2⟩)

          · have q3 : (((64 * k : Nat) : Int) < (st.length : Int)) = True := by simp only [eq_iff_iff, iff_true]; omega
            have q5 : ((cellsB (catK st k)).length = 64 * k) = True := by rw [len_cellsB, catK_len]; simp
            have q6 : (64 * k + 64 ≤ 140737488355328) = True := by simp; omega
            have q7 : (64 * k + 64 ≤ 9223372036854775807) = True := by simp; omega
            have q8 : (0 : Nat) = 0 := rfl
            have q9 : (64 * (k : Int) < (st.length : Int)) = True := by simp only [eq_iff_iff, iff_true]; omega
            refine AWp.seq ?_
            refine AWp.seq ?_
            (refine aw_regionL hS (by kernel_rfl) ?_; repeat (first | apply vr0u | apply vr4 | apply b_tt | apply b_ff | apply b_tf | apply b_ft | apply b_no | exact isD.mk rfl | (apply eqG; (simp only [push_cast, ↓reduceIte, Nat.reduceEqDiff, Nat.reduceAdd, Nat.reduceLeDiff, Nat.reduceLT, Int.reduceLE, Int.reduceLT, Int.reduceAdd, Int.reduceSub, Int.reduceNeg, Int.reduceBEq, Int.reduceBNe, Int.reduceEq, Int.reduceGT, Int.reduceGE, Int.reduceMul, Int.reduceToNat, Nat.reduceMul, reduceCtorEq, t0, t3, t6, t7, hs', q1, q3, q4, w1, h34, h30, h31, ea, isK, q5, hrow, q6, q7, q8, q9, m0, m1, q3'] <;> rfl)) | exact (rfl : app (swap _ _) _ = _)))
            refine vr_nil (aw_then ?_)
            refine aw_true (by (simp only [push_cast, ↓reduceIte, Nat.reduceEqDiff, Nat.reduceAdd, Nat.reduceLeDiff, Nat.reduceLT, Int.reduceLE, Int.reduceLT, Int.reduceAdd, Int.reduceSub, Int.reduceNeg, Int.reduceBEq, Int.reduceBNe, Int.reduceEq, Int.reduceGT, Int.reduceGE, Int.reduceMul, Int.reduceToNat, Nat.reduceMul, reduceCtorEq, t0, t3, t6, t7, hs', q1, q3, q4, w1, h34, h30, h31, ea, isK, q5, hrow, q6, q7, q8, q9, m0, m1, q3'] <;> rfl)) (AWp.skip (aw_then ?_))
            refine AWp.seq ?_
            refine AWp.block ?_
            refine AWp.seq ?_
            refine aw_drawsL [0, 1, 3, 7, 0, 16, 0, 112, 255, 511, 1023, 1023, 2047, 8191] [] hS4 mixed (by kernel_rfl) (by kernel_rfl) ?_
            repeat (first | (refine vd0f (by decide) (by ((repeat (first | rewrite [hpL_t rfl] | rewrite [hpL_f rfl])); (simp only [hpL, app_cons, app_nil] <;> rfl))) (by (simp only [push_cast, ↓reduceIte, Nat.reduceEqDiff, Nat.reduceAdd, Nat.reduceLeDiff, Nat.reduceLT, Int.reduceLE, Int.reduceLT, Int.reduceAdd, Int.reduceSub, Int.reduceNeg, Int.reduceBEq, Int.reduceBNe, Int.reduceEq, Int.reduceGT, Int.reduceGE, Int.reduceMul, Int.reduceToNat, Nat.reduceMul, reduceCtorEq, t0, t3, t6, t7, hs', q1, q3, q4, w1, h34, h30, h31, ea, isK, q5, hrow, q6, q7, q8, q9, m0, m1, q3'] <;> rfl)) ?_) | (refine vd0q rfl (by decide) rfl (by ((repeat (first | rewrite [hpL_t rfl] | rewrite [hpL_f rfl])); (simp only [hpL, app_cons, app_nil] <;> rfl))) (by (simp only [push_cast, ↓reduceIte, Nat.reduceEqDiff, Nat.reduceAdd, Nat.reduceLeDiff, Nat.reduceLT, Int.reduceLE, Int.reduceLT, Int.reduceAdd, Int.reduceSub, Int.reduceNeg, Int.reduceBEq, Int.reduceBNe, Int.reduceEq, Int.reduceGT, Int.reduceGE, Int.reduceMul, Int.reduceToNat, Nat.reduceMul, reduceCtorEq, t0, t3, t6, t7, hs', q1, q3, q4, w1, h34, h30, h31, ea, isK, q5, hrow, q6, q7, q8, q9, m0, m1, q3'] <;> rfl)) (by simp) (by omega) (by intro u hu; simp only [List.mem_cons, List.not_mem_nil, or_false] at hu; rcases hu with rfl | rfl | rfl <;> simp only <;> omega) ?_) | (refine vd0w rfl (by decide) (by ((repeat (first | rewrite [hpL_t rfl] | rewrite [hpL_f rfl])); (simp only [hpL, app_cons, app_nil] <;> rfl))) (by (simp only [push_cast, ↓reduceIte, Nat.reduceEqDiff, Nat.reduceAdd, Nat.reduceLeDiff, Nat.reduceLT, Int.reduceLE, Int.reduceLT, Int.reduceAdd, Int.reduceSub, Int.reduceNeg, Int.reduceBEq, Int.reduceBNe, Int.reduceEq, Int.reduceGT, Int.reduceGE, Int.reduceMul, Int.reduceToNat, Nat.reduceMul, reduceCtorEq, t0, t3, t6, t7, hs', q1, q3, q4, w1, h34, h30, h31, ea, isK, q5, hrow, q6, q7, q8, q9, m0, m1, q3'] <;> rfl)) (by omega) (by intro u hu; simp only [List.mem_cons, List.not_mem_nil, or_false] at hu; rcases hu with rfl | rfl | rfl <;> simp only <;> omega) ?_) | (apply vd0; (focus rfl)) | (apply vd0r; (focus rfl); (focus decide); (focus rfl)) | (apply vd0p; (focus decide)) | apply vd4 | apply b_tt | apply b_ff | apply b_tf | apply b_ft | apply b_no | exact isD.mk rfl | ((repeat (first | rewrite [hpL_t rfl] | rewrite [hpL_f rfl])); (simp only [hpL, app_cons, app_nil] <;> rfl)) | (apply eqG; (simp only [push_cast, ↓reduceIte, Nat.reduceEqDiff, Nat.reduceAdd, Nat.reduceLeDiff, Nat.reduceLT, Int.reduceLE, Int.reduceLT, Int.reduceAdd, Int.reduceSub, Int.reduceNeg, Int.reduceBEq, Int.reduceBNe, Int.reduceEq, Int.reduceGT, Int.reduceGE, Int.reduceMul, Int.reduceToNat, Nat.reduceMul, reduceCtorEq, t0, t3, t6, t7, hs', q1, q3, q4, w1, h34, h30, h31, ea, isK, q5, hrow, q6, q7, q8, q9, m0, m1, q3'] <;> rfl)))
            (refine vd_nil (by simp only [hpL, app_cons, app_nil, if_true] <;> rfl) ?_)
            refine aw_then ?_
            refine AWp.seq ?_
            refine AWp.seq ?_
            refine aw_regionL hS4 (by kernel_rfl) ?_
            repeat (first | apply vr0u | apply vr4 | apply b_tt | apply b_ff | apply b_tf | apply b_ft | apply b_no | exact isD.mk rfl | (apply eqG; (simp only [push_cast, ↓reduceIte, Nat.reduceEqDiff, Nat.reduceAdd, Nat.reduceLeDiff, Nat.reduceLT, Int.reduceLE, Int.reduceLT, Int.reduceAdd, Int.reduceSub, Int.reduceNeg, Int.reduceBEq, Int.reduceBNe, Int.reduceEq, Int.reduceGT, Int.reduceGE, Int.reduceMul, Int.reduceToNat, Nat.reduceMul, reduceCtorEq, t0, t3, t6, t7, hs', q1, q3, q4, w1, h34, h30, h31, ea, isK, q5, hrow, q6, q7, q8, q9, m0, m1, q3'] <;> rfl)) | exact (rfl : app (swap _ _) _ = _))
            refine vr_nil (aw_then ?_)
            refine AWp.seq ?_
            (refine aw_regionL hS (by kernel_rfl) ?_; repeat (first | apply vr0u | apply vr4 | apply b_tt | apply b_ff | apply b_tf | apply b_ft | apply b_no | exact isD.mk rfl | (apply eqG; (simp only [push_cast, ↓reduceIte, Nat.reduceEqDiff, Nat.reduceAdd, Nat.reduceLeDiff, Nat.reduceLT, Int.reduceLE, Int.reduceLT, Int.reduceAdd, Int.reduceSub, Int.reduceNeg, Int.reduceBEq, Int.reduceBNe, Int.reduceEq, Int.reduceGT, Int.reduceGE, Int.reduceMul, Int.reduceToNat, Nat.reduceMul, reduceCtorEq, t0, t3, t6, t7, hs', q1, q3, q4, w1, h34, h30, h31, ea, isK, q5, hrow, q6, q7, q8, q9, m0, m1, q3'] <;> rfl)) | exact (rfl : app (swap _ _) _ = _)))
            refine vr_nil (aw_then ?_)
            refine aw_false (by (simp only [push_cast, ↓reduceIte, Nat.reduceEqDiff, Nat.reduceAdd, Nat.reduceLeDiff, Nat.reduceLT, Int.reduceLE, Int.reduceLT, Int.reduceAdd, Int.reduceSub, Int.reduceNeg, Int.reduceBEq, Int.reduceBNe, Int.reduceEq, Int.reduceGT, Int.reduceGE, Int.reduceMul, Int.reduceToNat, Nat.reduceMul, reduceCtorEq, t0, t3, t6, t7, hs', q1, q3, q4, w1, h34, h30, h31, ea, isK, q5, hrow, q6, q7, q8, q9, m0, m1, q3'] <;> rfl)) (AWp.skip (aw_then ?_))
            (refine aw_regionL hS (by kernel_rfl) ?_; repeat (first | apply vr0u | apply vr4 | apply b_tt | apply b_ff | apply b_tf | apply b_ft | apply b_no | exact isD.mk rfl | (apply eqG; (simp only [push_cast, ↓reduceIte, Nat.reduceEqDiff, Nat.reduceAdd, Nat.reduceLeDiff, Nat.reduceLT, Int.reduceLE, Int.reduceLT, Int.reduceAdd, Int.reduceSub, Int.reduceNeg, Int.reduceBEq, Int.reduceBNe, Int.reduceEq, Int.reduceGT, Int.reduceGE, Int.reduceMul, Int.reduceToNat, Nat.reduceMul, reduceCtorEq, t0, t3, t6, t7, hs', q1, q3, q4, w1, h34, h30, h31, ea, isK, q5, hrow, q6, q7, q8, q9, m0, m1, q3'] <;> rfl)) | exact (rfl : app (swap _ _) _ = _)))
            refine vr_nil (aw_in (aw_then ?_))
            (refine aw_regionL hS (by kernel_rfl) ?_; repeat (first | apply vr0u | apply vr4 | apply b_tt | apply b_ff | apply b_tf | apply b_ft | apply b_no | exact isD.mk rfl | (apply eqG; (simp only [push_cast, ↓reduceIte, Nat.reduceEqDiff, Nat.reduceAdd, Nat.reduceLeDiff, Nat.reduceLT, Int.reduceLE, Int.reduceLT, Int.reduceAdd, Int.reduceSub, Int.reduceNeg, Int.reduceBEq, Int.reduceBNe, Int.reduceEq, Int.reduceGT, Int.reduceGE, Int.reduceMul, Int.reduceToNat, Nat.reduceMul, reduceCtorEq, t0, t3, t6, t7, hs', q1, q3, q4, w1, h34, h30, h31, ea, isK, q5, hrow, q6, q7, q8, q9, m0, m1, q3'] <;> rfl)) | exact (rfl : app (swap _ _) _ = _)))
            exact vr_nil (aw_then ⟨64 - (k + 1), by omega, k + 1, _, rfl, by omega, by omega, by omega, by (simp only [push_cast, ↓reduceIte, Nat.reduceEqDiff, Nat.reduceAdd, Nat.reduceLeDiff, Nat.reduceLT, Int.reduceLE, Int.reduceLT, Int.reduceAdd, Int.reduceSub, Int.reduceNeg, Int.reduceBEq, Int.reduceBNe, Int.reduceEq, Int.reduceGT, Int.reduceGE, Int.reduceMul, Int.reduceToNat, Nat.reduceMul, reduceCtorEq, t0, t3, t6, t7, hs', q1, q3, q4, w1, h34, h30, h31, ea, isK, q5, hrow, q6, q7, q8, q9, m0, m1, q3'] <;> rfl), by (simp only [push_cast, ↓reduceIte, Nat.reduceEqDiff, Nat.reduceAdd, Nat.reduceLeDiff, Nat.reduceLT, Int.reduceLE, Int.reduceLT, Int.reduceAdd, Int.reduceSub, Int.reduceNeg, Int.reduceBEq, Int.reduceBNe, Int.reduceEq, Int.reduceGT, Int.reduceGE, Int.reduceMul, Int.reduceToNat, Nat.reduceMul, reduceCtorEq, t0, t3, t6, t7, hs', q1, q3, q4, w1, h34, h30, h31, ea, isK, q5, hrow, q6, q7, q8, q9, m0, m1, q3'] <;> rfl), by (simp only [push_cast, ↓reduceIte, Nat.reduceEqDiff, Nat.reduceAdd, Nat.reduceLeDiff, Nat.reduceLT, Int.reduceLE, Int.reduceLT, Int.reduceAdd, Int.reduceSub, Int.reduceNeg, Int.reduceBEq, Int.reduceBNe, Int.reduceEq, Int.reduceGT, Int.reduceGE, Int.reduceMul, Int.reduceToNat, Nat.reduceMul, reduceCtorEq, t0, t3, t6, t7, hs', q1, q3, q4, w1, h34, h30, h31, ea, isK, q5, hrow, q6, q7, q8, q9, m0, m1, q3'] <;> rfl), by (simp only [push_cast, ↓reduceIte, Nat.reduceEqDiff, Nat.reduceAdd, Nat.reduceLeDiff, Nat.reduceLT, Int.reduceLE, Int.reduceLT, Int.reduceAdd, Int.reduceSub, Int.reduceNeg, Int.reduceBEq, Int.reduceBNe, Int.reduceEq, Int.reduceGT, Int.reduceGE, Int.reduceMul, Int.reduceToNat, Nat.reduceMul, reduceCtorEq, t0, t3, t6, t7, hs', q1, q3, q4, w1, h34, h30, h31, ea, isK, q5, hrow, q6, q7, q8, q9, m0, m1, q3'] <;> rfl), .inr ⟨n', by omega, by omega, by omega, by rw [show 64 * (k + 1) = 64 * k + 64 by omega], by rw [upd_same, catK, cellsB_app]⟩, keepU (by omega) (keepU hj1 hk2)⟩)

        · rcases hx with ⟨rfl, rfl⟩ | ⟨j, hj0, hj1, hj2, rfl, hrow⟩
          · have q3 : ((0 : Int) < (st.length : Int)) = False := by simp only [eq_iff_iff, iff_false]; omega
            have t7 : t' 7 = .i .i64 0 := t7
            refine AWp.seq ?_
            refine AWp.seq ?_
            (refine aw_regionL hS (by kernel_rfl) ?_; repeat (first | apply vr0u | apply vr4 | apply b_tt | apply b_ff | apply b_tf | apply b_ft | apply b_no | exact isD.mk rfl | (apply eqG; (simp only [push_cast, ↓reduceIte, Nat.reduceEqDiff, Nat.reduceAdd, Nat.reduceLeDiff, Nat.reduceLT, Int.reduceLE, Int.reduceLT, Int.reduceAdd, Int.reduceSub, Int.reduceNeg, Int.reduceBEq, Int.reduceBNe, Int.reduceEq, Int.reduceGT, Int.reduceGE, Int.reduceMul, Int.reduceToNat, Nat.reduceMul, reduceCtorEq, t0, t3, t6, t7, m0, m1, q1, q3] <;> rfl)) | exact (rfl : app (swap _ _) _ = _)))
            refine vr_nil (aw_then ?_)
            refine aw_false (by (simp only [push_cast, ↓reduceIte, Nat.reduceEqDiff, Nat.reduceAdd, Nat.reduceLeDiff, Nat.reduceLT, Int.reduceLE, Int.reduceLT, Int.reduceAdd, Int.reduceSub, Int.reduceNeg, Int.reduceBEq, Int.reduceBNe, Int.reduceEq, Int.reduceGT, Int.reduceGE, Int.reduceMul, Int.reduceToNat, Nat.reduceMul, reduceCtorEq, t0, t3, t6, t7, m0, m1, q1, q3] <;> rfl)) (AWp.exit (aw_thru (aw_thru (aw_exit (aw_then ?_)))))
            exact ⟨0, _, by omega, by omega, by (simp only [push_cast, ↓reduceIte, Nat.reduceEqDiff, Nat.reduceAdd, Nat.reduceLeDiff, Nat.reduceLT, Int.reduceLE, Int.reduceLT, Int.reduceAdd, Int.reduceSub, Int.reduceNeg, Int.reduceBEq, Int.reduceBNe, Int.reduceEq, Int.reduceGT, Int.reduceGE, Int.reduceMul, Int.reduceToNat, Nat.reduceMul, reduceCtorEq, t0, t3, t6, t7, m0, m1, q1, q3] <;> rfl), by (simp only [push_cast, ↓reduceIte, Nat.reduceEqDiff, Nat.reduceAdd, Nat.reduceLeDiff, Nat.reduceLT, Int.reduceLE, Int.reduceLT, Int.reduceAdd, Int.reduceSub, Int.reduceNeg, Int.reduceBEq, Int.reduceBNe, Int.reduceEq, Int.reduceGT, Int.reduceGE, Int.reduceMul, Int.reduceToNat, Nat.reduceMul, reduceCtorEq, t0, t3, t6, t7, m0, m1, q1, q3] <;> rfl), .inl ⟨rfl, rfl⟩, hk2⟩
          · have q3 : (64 * (k : Int) < (st.length : Int)) = False := by simp only [eq_iff_iff, iff_false]; omega
            refine AWp.seq ?_
            refine AWp.seq ?_
            (refine aw_regionL hS (by kernel_rfl) ?_; repeat (first | apply vr0u | apply vr4 | apply b_tt | apply b_ff | apply b_tf | apply b_ft | apply b_no | exact isD.mk rfl | (apply eqG; (simp only [push_cast, ↓reduceIte, Nat.reduceEqDiff, Nat.reduceAdd, Nat.reduceLeDiff, Nat.reduceLT, Int.reduceLE, Int.reduceLT, Int.reduceAdd, Int.reduceSub, Int.reduceNeg, Int.reduceBEq, Int.reduceBNe, Int.reduceEq, Int.reduceGT, Int.reduceGE, Int.reduceMul, Int.reduceToNat, Nat.reduceMul, reduceCtorEq, t0, t3, t6, t7, m0, m1, q1, q3] <;> rfl)) | exact (rfl : app (swap _ _) _ = _)))
            refine vr_nil (aw_then ?_)
            refine aw_false (by (simp only [push_cast, ↓reduceIte, Nat.reduceEqDiff, Nat.reduceAdd, Nat.reduceLeDiff, Nat.reduceLT, Int.reduceLE, Int.reduceLT, Int.reduceAdd, Int.reduceSub, Int.reduceNeg, Int.reduceBEq, Int.reduceBNe, Int.reduceEq, Int.reduceGT, Int.reduceGE, Int.reduceMul, Int.reduceToNat, Nat.reduceMul, reduceCtorEq, t0, t3, t6, t7, m0, m1, q1, q3] <;> rfl)) (AWp.exit (aw_thru (aw_thru (aw_exit (aw_then ?_)))))
            exact ⟨k, _, by omega, by omega, by (simp only [push_cast, ↓reduceIte, Nat.reduceEqDiff, Nat.reduceAdd, Nat.reduceLeDiff, Nat.reduceLT, Int.reduceLE, Int.reduceLT, Int.reduceAdd, Int.reduceSub, Int.reduceNeg, Int.reduceBEq, Int.reduceBNe, Int.reduceEq, Int.reduceGT, Int.reduceGE, Int.reduceMul, Int.reduceToNat, Nat.reduceMul, reduceCtorEq, t0, t3, t6, t7, m0, m1, q1, q3] <;> rfl), by (simp only [push_cast, ↓reduceIte, Nat.reduceEqDiff, Nat.reduceAdd, Nat.reduceLeDiff, Nat.reduceLT, Int.reduceLE, Int.reduceLT, Int.reduceAdd, Int.reduceSub, Int.reduceNeg, Int.reduceBEq, Int.reduceBNe, Int.reduceEq, Int.reduceGT, Int.reduceGE, Int.reduceMul, Int.reduceToNat, Nat.reduceMul, reduceCtorEq, t0, t3, t6, t7, m0, m1, q1, q3] <;> rfl), .inr ⟨j, hj0, hj1, hj2, rfl, hrow⟩, hk2⟩
  · rintro t1 h1 n1 - ⟨k, x, hk1, hk2, t3, t6, hx, hkeep⟩
    by_cases hst : st = []
    · subst hst
      have m1 : (mkC (c, ([] : List UInt8).length))[1]? = some (.i .i64 0) := rfl
      have hk0 : k = 0 := by have : ([] : List UInt8).length = 0 := rfl; omega
      subst hk0
      rcases hx with ⟨_, rfl⟩ | ⟨j, hj0, hj1, hj2, rfl, hrow⟩
      · skip
        refine AWp.seq ?_
        (refine aw_regionL hS (by kernel_rfl) ?_; repeat (first | apply vr0u | apply vr4 | apply b_tt | apply b_ff | apply b_tf | apply b_ft | apply b_no | exact isD.mk rfl | (apply eqG; (simp only [push_cast, ↓reduceIte, Nat.reduceEqDiff, Nat.reduceAdd, Nat.reduceLeDiff, Nat.reduceLT, Int.reduceLE, Int.reduceLT, Int.reduceAdd, Int.reduceSub, Int.reduceNeg, Int.reduceBEq, Int.reduceBNe, Int.reduceEq, Int.reduceGT, Int.reduceGE, Int.reduceMul, Int.reduceToNat, Nat.reduceMul, reduceCtorEq, t3, t6, m1] <;> rfl)) | exact (rfl : app (swap _ _) _ = _)))
        refine vr_nil (aw_then ?_)
        refine AWp.ret ?_
        exact Out.pure2 (.inr rfl) rfl (by (simp only [push_cast, ↓reduceIte, Nat.reduceEqDiff, Nat.reduceAdd, Nat.reduceLeDiff, Nat.reduceLT, Int.reduceLE, Int.reduceLT, Int.reduceAdd, Int.reduceSub, Int.reduceNeg, Int.reduceBEq, Int.reduceBNe, Int.reduceEq, Int.reduceGT, Int.reduceGE, Int.reduceMul, Int.reduceToNat, Nat.reduceMul, reduceCtorEq, t3, t6, m1] <;> rfl)) (by (simp only [push_cast, ↓reduceIte, Nat.reduceEqDiff, Nat.reduceAdd, Nat.reduceLeDiff, Nat.reduceLT, Int.reduceLE, Int.reduceLT, Int.reduceAdd, Int.reduceSub, Int.reduceNeg, Int.reduceBEq, Int.reduceBNe, Int.reduceEq, Int.reduceGT, Int.reduceGE, Int.reduceMul, Int.reduceToNat, Nat.reduceMul, reduceCtorEq, t3, t6, m1] <;> rfl)) rfl ⟨AV.free_names _ rfl, trivial, trivial⟩ hkeep
      · omega
    · rcases hx with ⟨rfl, rfl⟩ | ⟨j, hj0, hj1, hj2, rfl, hrow⟩
      · exact absurd (List.length_eq_zero_iff.1 (by omega)) hst
      have hpos : 0 < st.length := List.length_pos_iff.2 hst
      have e1 : (if 64 * (k : Int) < (st.length : Int) then 64 * (k : Int) else (st.length : Int)) = (st.length : Int) := by split <;> omega
      have q1 : (0 ≤ (st.length : Int) ∧ (st.length : Int) ≤ 64 * (k : Int)) = True := by simp only [eq_iff_iff, iff_true]; omega
      have q2 : (0 < st.length) = True := by simp [hpos]
      have hfin : (cellsB (catK st k)).take st.length = cellsB st := by
        have := catK_take hk1 hk2
        rw [show (cellsB (catK st k)).take st.length = cellsB ((catK st k).take st.length) from (List.map_take ..).symm, this]
      have he : st.isEmpty = false := by cases st <;> simp_all
      refine AWp.seq ?_
      (refine aw_regionL hS (by kernel_rfl) ?_; repeat (first | apply vr0u | apply vr4 | apply b_tt | apply b_ff | apply b_tf | apply b_ft | apply b_no | exact isD.mk rfl | (apply eqG; (simp only [push_cast, ↓reduceIte, Nat.reduceEqDiff, Nat.reduceAdd, Nat.reduceLeDiff, Nat.reduceLT, Int.reduceLE, Int.reduceLT, Int.reduceAdd, Int.reduceSub, Int.reduceNeg, Int.reduceBEq, Int.reduceBNe, Int.reduceEq, Int.reduceGT, Int.reduceGE, Int.reduceMul, Int.reduceToNat, Nat.reduceMul, reduceCtorEq, t3, t6, m1, e1, q1, q2] <;> rfl)) | exact (rfl : app (swap _ _) _ = _)))
      refine vr_nil (aw_then ?_)
      refine AWp.freeze (j := j) (k := 4) (cs := cellsB (catK st k)) hrow (by (simp only [push_cast, ↓reduceIte, Nat.reduceEqDiff, Nat.reduceAdd, Nat.reduceLeDiff, Nat.reduceLT, Int.reduceLE, Int.reduceLT, Int.reduceAdd, Int.reduceSub, Int.reduceNeg, Int.reduceBEq, Int.reduceBNe, Int.reduceEq, Int.reduceGT, Int.reduceGE, Int.reduceMul, Int.reduceToNat, Nat.reduceMul, reduceCtorEq, t3, t6, m1, e1, q1, q2] <;> rfl)) (by rw [len_cellsB, catK_len]; omega) ?_
      refine AWp.ret ?_
      rw [he]
      exact Out.pure2 (.inr rfl) rfl (by (simp only [push_cast, ↓reduceIte, Nat.reduceEqDiff, Nat.reduceAdd, Nat.reduceLeDiff, Nat.reduceLT, Int.reduceLE, Int.reduceLT, Int.reduceAdd, Int.reduceSub, Int.reduceNeg, Int.reduceBEq, Int.reduceBNe, Int.reduceEq, Int.reduceGT, Int.reduceGE, Int.reduceMul, Int.reduceToNat, Nat.reduceMul, reduceCtorEq, t3, t6, m1, e1, q1, q2] <;> rfl)) (by (simp only [push_cast, ↓reduceIte, Nat.reduceEqDiff, Nat.reduceAdd, Nat.reduceLeDiff, Nat.reduceLT, Int.reduceLE, Int.reduceLT, Int.reduceAdd, Int.reduceSub, Int.reduceNeg, Int.reduceBEq, Int.reduceBNe, Int.reduceEq, Int.reduceGT, Int.reduceGE, Int.reduceMul, Int.reduceToNat, Nat.reduceMul, reduceCtorEq, t3, t6, m1, e1, q1, q2] <;> rfl)) (by simp only [Nat.sub_zero]; rw [hfin]) ⟨AV.free_names _ (by simp [AV.free, free_cellsB]), trivial, trivial⟩ (keepU hj1 hkeep)

end Go.Proofs.YtepfknnffooaiaaDoor
