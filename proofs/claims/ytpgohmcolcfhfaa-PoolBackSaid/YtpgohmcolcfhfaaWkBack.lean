import Derived.Test.YtpgohmcolcfhfaaWkLimits

namespace Go.Proofs.Ytpgohmcolcfhfaa
open Go.Av
set_option maxRecDepth 100000
set_option maxHeartbeats 1000000
set_option linter.unusedSimpArgs false
set_option linter.unusedVariables false
attribute [local push_cast] stepE callR resE aeff aev ofC ofC1 put_at Av.put_none inTmps List.getD_cons_zero List.getD_cons_succ AV.boxable if_true if_false AV.cells aload place app_cons app_nil upd_same Av.part abin aconv aindexAddr fillA splice_one splice_two abuiltin alen amax amin aun aindex Option.map_some List.map_cons List.map_nil List.nil_append List.append_nil List.cons_append Nat.le_refl Nat.zero_add List.length_cons List.length_nil List.drop_succ_cons List.drop_zero List.take_succ_cons List.take_zero beq_self_eq_true bne_self_eq_false Bool.not_true Bool.not_false List.set_cons_zero List.set_cons_succ Bool.false_eq_true IntWalk.i64_in decide_true decide_false Int.toNat_zero and_self and_true true_and List.getElem?_cons_zero List.getElem?_cons_succ agT_26 szT_26 slT_24 agT_24 szT_24 flT_26_0 flT_26_1 flT_26_3 flT_26_2 agT_22 szT_22 arT_22 agT_3 szT_3 kiT_3 kiT_23 kiT_4 zeT_26 buT_26 zeT_22 buT_22 kiT_9 kiT_51 kiT_5 und_51 slT_51 agT_5 szT_5 aappend aapp view slT_24 zeT_3 byT_24 Bool.and_true Bool.true_and Nat.mul_one alen slT_50 agT_53 szT_53 flT_53_0 flT_53_1 agT_57 szT_57 flT_57_3 slT_54 agT_50 szT_50 agT_51 szT_51 zeT_53 buT_53 zeT_57 buT_57 kiT_34 Option.map_none aslice asliceB amin amax txC_0 txC_1 txC_len txC_take take_cellsB len_cellsB unbytes_cells bkC_3 bkC_len bkC_take

/-! ### what PoolBack puts -/
theorem idxF_spec (t : Tx) : ∀ (l : List Tx) (k : Int), (idxF t l k = -1 ∧ ∀ x, x ∈ l → sameT x t = false) ∨ ∃ (v : Nat) (x : Tx), l[v]? = some x ∧ idxF t l k = k + v ∧ sameT x t = true
  | [], _ => .inl ⟨rfl, by simp⟩
  | y :: l, k => by
    by_cases h : sameT y t = true
    · exact .inr ⟨0, y, rfl, by simp only [idxF]; rw [if_pos h]; simp, h⟩
    · have h' : sameT y t = false := by simpa using h
      rcases idxF_spec t l (k + 1) with ⟨h1, h2⟩ | ⟨v, x, h1, h2, h3⟩
      · refine .inl ⟨by simp only [idxF]; rw [if_neg h, h1], fun x hx => ?_⟩
        rcases List.mem_cons.1 hx with rfl | hx
        · exact h'
        · exact h2 x hx
      · exact .inr ⟨v + 1, x, h1, by simp only [idxF]; rw [if_neg h, h2]; omega, h3⟩
theorem sameT_comm (x y : Tx) : sameT x y = sameT y x := by
  rw [Bool.eq_iff_iff]; simp only [sameT, Bool.and_eq_true, beq_iff_eq]
  exact ⟨fun h => ⟨h.1.symm, h.2.symm⟩, fun h => ⟨h.1.symm, h.2.symm⟩⟩
structure Waits (l A : List Tx) (idx : List Int) (i : Nat) : Prop where
  n : idx.length = i
  le : A.length ≤ i
  no : A = [] ↔ i = 0
  at_ : ∀ j, j < i → ∃ (v : Nat) (x y : Tx), idx[j]? = some (v : Int) ∧ A[v]? = some x ∧ l[j]? = some y ∧ sameT x y = true
  ne : ∀ (a b : Nat) (x y : Tx), a < b → A[a]? = some x → A[b]? = some y → sameT x y = false
  ok : ∀ x, x ∈ A → x.ok
theorem Waits.step {l A : List Tx} {idx : List Int} {i : Nat} (h : Waits l A idx i) {t : Tx} (ht : l[i]? = some t) (hok : t.ok) (hf : ¬ (t.f < 0 ∨ t.f ≥ 16)) (hb : ¬ t.b.length > 16384) :
    ∃ (X : List Tx) (v : Int), putR (decide (A = [])) A t = .tup [.ro (decide (X = [])) (txs X) X.length, .i .i64 v, .i .i64 0] ∧ Waits l X (idx ++ [v]) (i + 1) ∧ v < X.length ∧ A.length ≤ X.length ∧ X.length ≤ A.length + 1 := by
  rcases idxF_spec t A 0 with ⟨h1, h2⟩ | ⟨v, x, h1, h2, h3⟩
  · refine ⟨A ++ [t], A.length, ?_, ⟨by simp [h.n], by have := h.le; simp; omega, by simp, fun j hj => ?_, fun a b x y hab hx hy => ?_, fun x hx => ?_⟩, by simp; omega, by simp, by simp⟩
    · rw [putR, if_neg hf, if_neg hb, h1, if_neg (by decide)]
      have e : decide (A ++ [t] = []) = false := by simp
      have e2 : (A ++ [t]).length = A.length + 1 := by simp
      rw [e, e2]
    · by_cases hji : j = i
      · subst hji
        refine ⟨A.length, t, t, ?_, by simp, ht, by simp [sameT]⟩
        rw [List.getElem?_append_right (by rw [h.n]; exact Nat.le_refl _), h.n]; simp
      · obtain ⟨v, x, y, k1, k2, k3, k4⟩ := h.at_ j (by omega)
        refine ⟨v, x, y, ?_, ?_, k3, k4⟩
        · rw [List.getElem?_append_left (by rw [h.n]; omega)]; exact k1
        · have hv : v < A.length := by
            rcases Nat.lt_or_ge v A.length with hv | hv
            · exact hv
            · rw [List.getElem?_eq_none hv] at k2; cases k2
          rw [List.getElem?_append_left hv]; exact k2
    · have hb' : b < (A ++ [t]).length := by
        rcases Nat.lt_or_ge b (A ++ [t]).length with hv | hv
        · exact hv
        · rw [List.getElem?_eq_none hv] at hy; cases hy
      rw [List.length_append, List.length_cons, List.length_nil] at hb'
      have ha : a < A.length := by omega
      rw [List.getElem?_append_left ha] at hx
      by_cases hbl : b < A.length
      · rw [List.getElem?_append_left hbl] at hy
        exact h.ne a b x y hab hx hy
      · have : b = A.length := by omega
        subst this
        rw [List.getElem?_append_right (Nat.le_refl _)] at hy
        simp at hy
        subst hy
        exact h2 x (List.mem_of_getElem? hx)
    · rcases List.mem_append.1 hx with hx | hx
      · exact h.ok x hx
      · rw [List.mem_singleton.1 hx]; exact hok
  · have hv : v < A.length := by
      rcases Nat.lt_or_ge v A.length with hv | hv
      · exact hv
      · rw [List.getElem?_eq_none hv] at h1; cases h1
    refine ⟨A, v, ?_, ⟨by simp [h.n], by have := h.le; omega, ⟨fun hA => by subst hA; simp at hv, fun hi => by simp at hi⟩, fun j hj => ?_, h.ne, h.ok⟩, by omega, Nat.le_refl _, by omega⟩
    · rw [putR, if_neg hf, if_neg hb, h2, if_pos (by omega)]
      rw [Int.zero_add]
    · by_cases hji : j = i
      · subst hji
        refine ⟨v, x, t, ?_, h1, ht, h3⟩
        rw [List.getElem?_append_right (by rw [h.n]; exact Nat.le_refl _), h.n]; simp
      · obtain ⟨v', x', y', k1, k2, k3, k4⟩ := h.at_ j (by omega)
        refine ⟨v', x', y', ?_, k2, k3, k4⟩
        rw [List.getElem?_append_left (by rw [h.n]; omega)]; exact k1
/-! ### what is fresh, where one stands in a block -/
structure Up (F : List Int) (k : Int) : Prop where
  inc : ∀ (j : Nat) (x y : Int), F[j]? = some x → F[j + 1]? = some y → x < y
  ne : ∀ x, x ∈ F → x ≠ k
theorem fresh_but {A : List Tx} {k : Nat} {xk : Tx} (hk : A[k]? = some xk) (hself : sameT xk xk = true) (hne : ∀ (i : Nat) (x : Tx), i ≠ k → A[i]? = some x → sameT xk x = false) (c : List Bk) (hc : ∀ x, inChain x c = sameT xk x) (mm : Nat) :
    ∀ (m i : Nat) (acc : List Int), A.length - i = m → i ≤ A.length → Up acc k → (∀ x, x ∈ acc → x < (i : Int)) → acc.length = i - (if k < i then 1 else 0) → acc.length ≤ mm →
      Up (freshF c mm (A.drop i) i acc) k ∧ (freshF c mm (A.drop i) i acc).length = min mm (A.length - (if k < A.length then 1 else 0)) := by
  intro m
  induction m with
  | zero =>
    intro i acc hm hi hup hlt hlen hmm
    have : i = A.length := by omega
    subst this
    rw [List.drop_length]
    simp only [freshF]
    refine ⟨hup, by omega⟩
  | succ m ih =>
    intro i acc hm hi hup hlt hlen hmm
    have hil : i < A.length := by omega
    rw [List.drop_eq_getElem_cons hil]
    simp only [freshF]
    have hkA : k < A.length := by
      rcases Nat.lt_or_ge k A.length with hv | hv
      · exact hv
      · rw [List.getElem?_eq_none hv] at hk; cases hk
    by_cases hfull : (acc.length : Int) ≥ (mm : Int)
    · rw [if_pos hfull]
      refine ⟨hup, ?_⟩
      split at hlen <;> rw [if_pos hkA] <;> omega
    · rw [if_neg hfull, hc]
      have e : ((i + 1 : Nat) : Int) = (i : Int) + 1 := by omega
      by_cases hik : i = k
      · subst hik
        have hx : A[i] = xk := by rw [List.getElem?_eq_getElem hil] at hk; injection hk
        rw [hx, if_pos hself, ← e]
        refine ih (i + 1) acc (by omega) hil hup (fun x hx => by have := hlt x hx; omega) ?_ hmm
        rw [hlen, if_neg (Nat.lt_irrefl _), if_pos (Nat.lt_succ_self _)]; omega
      · have hx := hne i A[i] hik (List.getElem?_eq_getElem hil)
        rw [if_neg (by rw [hx]; simp), ← e]
        refine ih (i + 1) (acc ++ [(i : Int)]) (by omega) hil ⟨fun j x y hx hy => ?_, fun x hx => ?_⟩ (fun x hx => ?_) ?_ (by rw [List.length_append, List.length_cons, List.length_nil]; omega)
        · have hj : j + 1 < (acc ++ [(i : Int)]).length := by
            rcases Nat.lt_or_ge (j + 1) (acc ++ [(i : Int)]).length with hv | hv
            · exact hv
            · rw [List.getElem?_eq_none hv] at hy; cases hy
          rw [List.length_append, List.length_cons, List.length_nil] at hj
          rw [List.getElem?_append_left (by omega)] at hx
          by_cases hjl : j + 1 < acc.length
          · rw [List.getElem?_append_left hjl] at hy
            exact hup.inc j x y hx hy
          · rw [List.getElem?_append_right (by omega)] at hy
            have : j + 1 - acc.length = 0 := by omega
            rw [this] at hy
            simp at hy
            subst hy
            exact hlt x (List.mem_of_getElem? hx)
        · rcases List.mem_append.1 hx with hx | hx
          · exact hup.ne x hx
          · rw [List.mem_singleton.1 hx]; omega
        · rcases List.mem_append.1 hx with hx | hx
          · have := hlt x hx; omega
          · rw [List.mem_singleton.1 hx]; omega
        · rw [List.length_append, List.length_cons, List.length_nil, hlen]
          by_cases hki : k < i
          · rw [if_pos hki, if_pos (by omega)]; omega
          · rw [if_neg hki, if_neg (by omega)]; omega
theorem fresh_back {l A : List Tx} {idx : List Int} {i k : Nat} (h : Waits l A idx i) {xk : Tx} (hk : A[k]? = some xk) (hA : A.length ≤ 60) :
    Up (freshL A [⟨0, 0, 0, false, [xk]⟩] A.length) k ∧ ((freshL A [⟨0, 0, 0, false, [xk]⟩] A.length).length : Int) = (if (32 : Int) < (A.length : Int) - 1 then 32 else (A.length : Int) - 1) := by
  have hkA : k < A.length := by
    rcases Nat.lt_or_ge k A.length with hv | hv
    · exact hv
    · rw [List.getElem?_eq_none hv] at hk; cases hk
  obtain ⟨mm, hmm⟩ : ∃ mm : Nat, (if (32 : Int) < (A.length : Int) then (32 : Int) else (A.length : Int)) = (mm : Int) ∧ mm = min 32 A.length := ⟨min 32 A.length, by split <;> omega, rfl⟩
  have h0 := fresh_but hk (by simp [sameT]) (fun j x hj hx => by
    rcases Nat.lt_or_ge j k with hlt | hge
    · rw [sameT_comm]; exact h.ne j k x xk hlt hx hk
    · exact h.ne k j xk x (by omega) hk hx) [⟨0, 0, 0, false, [xk]⟩] (fun x => by simp [inChain, anyT]) mm A.length 0 [] (by simp) (Nat.zero_le _) ⟨fun j x y hx => by simp at hx, fun x hx => by simp at hx⟩ (fun x hx => by simp at hx) (by simp) (by simp)
  rw [List.drop_zero] at h0
  unfold freshL
  rw [hmm.1]
  refine ⟨h0.1, ?_⟩
  have := h0.2
  rw [if_pos hkA] at this
  have e : ((freshF [⟨0, 0, 0, false, [xk]⟩] (mm : Int) A ((0 : Nat) : Int) []).length : Int) = ((min mm (A.length - 1) : Nat) : Int) := by rw [this]
  refine e.trans ?_
  split <;> omega
theorem at42o {z : Bool} {l : List Tx} {x : Tx} {most : Int} (hl : l.length ≤ 100000) (j i : Nat) (h : Heap) (hj : h j = some (.cells [.i .i64 0, .i .i64 0, .i .i64 0, .sl 2 i 0 1])) (hi : h i = some (.cells (txC x))) :
    P17 42 [.ro z (txs l) l.length, .sl 4 j 0 1, .i .i64 most] h = .wide fun m => (freshR l [⟨0, 0, 0, false, [x]⟩] most, [(j, none), (i, none)], m) := by
  show viaD (ofSpec Sp42) _ h = _
  have e1 : [AV.ro z (txs l) l.length, .sl 4 j 0 1, .i .i64 most].flatMap (rowsOf h 5) = [j, i] := by
    simp only [List.flatMap_cons, List.flatMap_nil, rowsOf, hj, hi, rowss_free h 3 (free_txC x), List.nil_append, List.append_nil]
  have hpj : pickH h [j, i] j = some (.cells [.i .i64 0, .i .i64 0, .i .i64 0, .sl 2 i 0 1]) := by simp [pickH, hj]
  have hpi : pickH h [j, i] i = some (.cells (txC x)) := by simp [pickH, hi]
  have e2 : [AV.ro z (txs l) l.length, .sl 4 j 0 1, .i .i64 most].map (frz (pickH h [j, i]) 5) = [.ro z (txs l) l.length, .ro false (bks [⟨0, 0, 0, false, [x]⟩]) 1, .i .i64 most] := by
    simp only [List.map_cons, List.map_nil]
    rw [frz_free _ 5 _ free_rt]
    have e3 : frz (pickH h [j, i]) 5 (.sl 4 j 0 1) = .ro false (bks [⟨0, 0, 0, false, [x]⟩]) 1 := by
      have e4 : frz (pickH h [j, i]) 4 (.sl 2 i 0 1) = .ro false (txC x) 1 := by
        simp only [frz, hpi]
        rw [if_pos (by simp [txC])]
        have : (List.take (1 * 2) (List.drop 0 (txC x))) = txC x := rfl
        rw [this, frzs_free _ 3 (free_txC x)]
      have e5 : frz (pickH h [j, i]) 5 (.sl 4 j 0 1) = .ro false [.i .i64 0, .i .i64 0, .i .i64 0, frz (pickH h [j, i]) 4 (.sl 2 i 0 1)] 1 := by
        rw [show frz (pickH h [j, i]) 5 (.sl 4 j 0 1) = frz (pickH h [j, i]) (4 + 1) (.sl 4 j 0 1) from rfl]
        simp only [frz, hpj]
        rw [if_pos (by simp)]
        rfl
      rw [e5, e4]
      simp [bks, bkC, txs]
    rw [e3]
    rfl
  unfold viaD
  rw [e1, e2]
  have := u42 (z := z) (zc := false) (l := l) (c := [⟨0, 0, 0, false, [x]⟩]) (most := most) hl ⟨by simp, fun b hb => by rw [List.mem_singleton.1 hb]; simp⟩
  rw [show ([⟨0, 0, 0, false, [x]⟩] : List Bk).length = 1 from rfl] at this
  rw [this]
  simp [gone]
theorem rem_u' (y r : Int) (h0 : 0 < r) (hr : r ≤ 1000000) : ∃ k : Nat, IntKind.wrap .i64 ((IntKind.wrap .u64 y).tmod r) = (k : Int) ∧ (k : Int) < r := by
  have h1 : 0 ≤ IntKind.wrap .u64 y := by rw [IntKind.wrap_u64]; omega
  have h2 : 0 ≤ (IntKind.wrap .u64 y).tmod r := Int.tmod_nonneg _ h1
  have h3 : (IntKind.wrap .u64 y).tmod r < r := Int.tmod_lt_of_pos _ h0
  rw [IntWalk.i64_in _ (by omega)]
  exact ⟨((IntKind.wrap .u64 y).tmod r).toNat, by omega, by omega⟩
def okX (l : List Tx) : Prop := ∀ x, x ∈ l → (x.z = true → x.b = [])
theorem heavy_ok {l : List Tx} (h : heavyL l = false) (hx : okX l) : l.length ≤ 60 ∧ ∀ x, x ∈ l → x.ok ∧ x.b.length ≤ 500 := by
  simp only [heavyL, Bool.or_eq_false_iff, decide_eq_false_iff_not, List.any_eq_false, decide_eq_true_eq] at h
  exact ⟨by omega, fun x hm => ⟨⟨hx x hm, by have := h.2 x hm; omega⟩, by have := h.2 x hm; omega⟩⟩
theorem c13 (z : Bool) (l : List Tx) (k0 : Int) (hx : okX l) : ∀ h n, DCalls Try.prog 13 [.ro z (txs l) l.length, .i .i64 k0] h n (.b true) [] n := by
  intro h n
  have hS := ok_P18
  refine DCalls.of Try.func13 rfl (by decide) (Nat.le_of_ble_eq_true rfl) (Nat.le_refl _) ?_
  have h33 : ∀ h, P18 33 [.ro z (txs l) l.length] h = .pure (.b (heavyL l)) := fun h => at33 h
  refine AWp.seq ?_
  (refine aw_regionL hS (by kernel_rfl) ?_; repeat (first | apply vr0u | apply vr4 | apply b_tt | apply b_ff | apply b_tf | apply b_ft | apply b_no | exact isD.mk rfl | (apply eqG; (simp only [push_cast, ↓reduceIte, Nat.reduceEqDiff, Nat.reduceAdd, Nat.reduceLeDiff, Int.reduceLE, Int.reduceLT, Int.reduceAdd, Int.reduceSub, Int.reduceNeg, Int.reduceBEq, Int.reduceBNe, Int.reduceEq, Int.reduceGT, Int.reduceGE, Int.reduceMul, Int.reduceToNat, Nat.reduceMul, reduceCtorEq, h33] <;> rfl))))
  refine vr_nil (aw_then ?_)
  refine AWp.seq ?_
  refine AWp.seq ?_
  (refine aw_regionL hS (by kernel_rfl) ?_; repeat (first | apply vr0u | apply vr4 | apply b_tt | apply b_ff | apply b_tf | apply b_ft | apply b_no | exact isD.mk rfl | (apply eqG; (simp only [push_cast, ↓reduceIte, Nat.reduceEqDiff, Nat.reduceAdd, Nat.reduceLeDiff, Int.reduceLE, Int.reduceLT, Int.reduceAdd, Int.reduceSub, Int.reduceNeg, Int.reduceBEq, Int.reduceBNe, Int.reduceEq, Int.reduceGT, Int.reduceGE, Int.reduceMul, Int.reduceToNat, Nat.reduceMul, reduceCtorEq, h33] <;> rfl))))
  refine vr_nil (aw_then ?_)
  refine aw_split (by (simp only [push_cast, ↓reduceIte, Nat.reduceEqDiff, Nat.reduceAdd, Nat.reduceLeDiff, Int.reduceLE, Int.reduceLT, Int.reduceAdd, Int.reduceSub, Int.reduceNeg, Int.reduceBEq, Int.reduceBNe, Int.reduceEq, Int.reduceGT, Int.reduceGE, Int.reduceMul, Int.reduceToNat, Nat.reduceMul, reduceCtorEq, h33] <;> rfl)) (fun hu => ?_) (fun hu => ?_)
  · refine AWp.seq ?_
    (refine aw_regionL hS (by kernel_rfl) ?_; repeat (first | apply vr0u | apply vr4 | apply b_tt | apply b_ff | apply b_tf | apply b_ft | apply b_no | exact isD.mk rfl | (apply eqG; (simp only [push_cast, ↓reduceIte, Nat.reduceEqDiff, Nat.reduceAdd, Nat.reduceLeDiff, Int.reduceLE, Int.reduceLT, Int.reduceAdd, Int.reduceSub, Int.reduceNeg, Int.reduceBEq, Int.reduceBNe, Int.reduceEq, Int.reduceGT, Int.reduceGE, Int.reduceMul, Int.reduceToNat, Nat.reduceMul, reduceCtorEq, h33] <;> rfl))))
    refine vr_nil (aw_then ?_)
    refine AWp.ret ?_
    exact Out.pure1 (.inr rfl) rfl (by (simp only [push_cast, ↓reduceIte, Nat.reduceEqDiff, Nat.reduceAdd, Nat.reduceLeDiff, Int.reduceLE, Int.reduceLT, Int.reduceAdd, Int.reduceSub, Int.reduceNeg, Int.reduceBEq, Int.reduceBNe, Int.reduceEq, Int.reduceGT, Int.reduceGE, Int.reduceMul, Int.reduceToNat, Nat.reduceMul, reduceCtorEq, h33] <;> rfl)) rfl trivial keep0
  obtain ⟨hl60, hlok⟩ := heavy_ok hu hx
  refine AWp.skip (aw_then ?_)
  refine AWp.seq ?_
  (refine aw_regionL hS (by kernel_rfl) ?_; repeat (first | apply vr0u | apply vr4 | apply b_tt | apply b_ff | apply b_tf | apply b_ft | apply b_no | exact isD.mk rfl | (apply eqG; (simp only [push_cast, ↓reduceIte, Nat.reduceEqDiff, Nat.reduceAdd, Nat.reduceLeDiff, Int.reduceLE, Int.reduceLT, Int.reduceAdd, Int.reduceSub, Int.reduceNeg, Int.reduceBEq, Int.reduceBNe, Int.reduceEq, Int.reduceGT, Int.reduceGE, Int.reduceMul, Int.reduceToNat, Nat.reduceMul, reduceCtorEq] <;> rfl))))
  refine vr_nil (aw_then ?_)
  refine AWp.seq ?_
  (refine aw_regionL hS (by kernel_rfl) ?_; repeat (first | apply vr0u | apply vr4 | apply b_tt | apply b_ff | apply b_tf | apply b_ft | apply b_no | exact isD.mk rfl | (apply eqG; (simp only [push_cast, ↓reduceIte, Nat.reduceEqDiff, Nat.reduceAdd, Nat.reduceLeDiff, Int.reduceLE, Int.reduceLT, Int.reduceAdd, Int.reduceSub, Int.reduceNeg, Int.reduceBEq, Int.reduceBNe, Int.reduceEq, Int.reduceGT, Int.reduceGE, Int.reduceMul, Int.reduceToNat, Nat.reduceMul, reduceCtorEq] <;> rfl))))
  refine vr_nil (aw_then ?_)
  refine AWp.cut (fun t' h' n' => ∃ (A : List Tx) (idx : List Int), Waits l A idx l.length ∧ t' 0 = .ro z (txs l) l.length ∧ t' 1 = .i .i64 k0 ∧ t' 5 = .ro (decide (A = [])) (txs A) A.length ∧ outI n n' idx (t' 6) h' ∧ n ≤ n' ∧ ∀ x r, x < n → h x = some r → h' x = some r) ?_ ?_
  · refine AWp.seq ?_
    (refine aw_regionL hS (by kernel_rfl) ?_; repeat (first | apply vr0u | apply vr4 | apply b_tt | apply b_ff | apply b_tf | apply b_ft | apply b_no | exact isD.mk rfl | (apply eqG; (simp only [push_cast, ↓reduceIte, Nat.reduceEqDiff, Nat.reduceAdd, Nat.reduceLeDiff, Int.reduceLE, Int.reduceLT, Int.reduceAdd, Int.reduceSub, Int.reduceNeg, Int.reduceBEq, Int.reduceBNe, Int.reduceEq, Int.reduceGT, Int.reduceGE, Int.reduceMul, Int.reduceToNat, Nat.reduceMul, reduceCtorEq] <;> rfl))))
    refine vr_nil (aw_then ?_)
    refine AWp.block ?_
    refine AWp.loop (fun k t' h' n' => ∃ (i : Nat) (A : List Tx) (idx : List Int), k = l.length - i ∧ i ≤ l.length ∧ Waits l A idx i ∧ t' 0 = .ro z (txs l) l.length ∧ t' 1 = .i .i64 k0 ∧ t' 5 = .ro (decide (A = [])) (txs A) A.length ∧ outI n n' idx (t' 6) h' ∧ t' 7 = .i .i64 (i : Int) ∧ n ≤ n' ∧ ∀ x r, x < n → h x = some r → h' x = some r) l.length ?_ ?_
    · exact ⟨0, [], [], rfl, Nat.zero_le _, ⟨rfl, Nat.le_refl _, by simp, fun j hj => by omega, fun a b x y _ hx => by simp at hx, by simp⟩, by (simp only [push_cast, ↓reduceIte, Nat.reduceEqDiff, Nat.reduceAdd, Nat.reduceLeDiff, Int.reduceLE, Int.reduceLT, Int.reduceAdd, Int.reduceSub, Int.reduceNeg, Int.reduceBEq, Int.reduceBNe, Int.reduceEq, Int.reduceGT, Int.reduceGE, Int.reduceMul, Int.reduceToNat, Nat.reduceMul, reduceCtorEq] <;> rfl), by (simp only [push_cast, ↓reduceIte, Nat.reduceEqDiff, Nat.reduceAdd, Nat.reduceLeDiff, Int.reduceLE, Int.reduceLT, Int.reduceAdd, Int.reduceSub, Int.reduceNeg, Int.reduceBEq, Int.reduceBNe, Int.reduceEq, Int.reduceGT, Int.reduceGE, Int.reduceMul, Int.reduceToNat, Nat.reduceMul, reduceCtorEq] <;> rfl), by (simp only [push_cast, ↓reduceIte, Nat.reduceEqDiff, Nat.reduceAdd, Nat.reduceLeDiff, Int.reduceLE, Int.reduceLT, Int.reduceAdd, Int.reduceSub, Int.reduceNeg, Int.reduceBEq, Int.reduceBNe, Int.reduceEq, Int.reduceGT, Int.reduceGE, Int.reduceMul, Int.reduceToNat, Nat.reduceMul, reduceCtorEq] <;> rfl), .inl ⟨rfl, by (simp only [push_cast, ↓reduceIte, Nat.reduceEqDiff, Nat.reduceAdd, Nat.reduceLeDiff, Int.reduceLE, Int.reduceLT, Int.reduceAdd, Int.reduceSub, Int.reduceNeg, Int.reduceBEq, Int.reduceBNe, Int.reduceEq, Int.reduceGT, Int.reduceGE, Int.reduceMul, Int.reduceToNat, Nat.reduceMul, reduceCtorEq] <;> rfl)⟩, by (simp only [push_cast, ↓reduceIte, Nat.reduceEqDiff, Nat.reduceAdd, Nat.reduceLeDiff, Int.reduceLE, Int.reduceLT, Int.reduceAdd, Int.reduceSub, Int.reduceNeg, Int.reduceBEq, Int.reduceBNe, Int.reduceEq, Int.reduceGT, Int.reduceGE, Int.reduceMul, Int.reduceToNat, Nat.reduceMul, reduceCtorEq] <;> rfl), Nat.le_refl _, keep0⟩
    · rintro m t h' n' - ⟨i, A, idx, rfl, hil, hW, g0, g1, g5, hout, g7, hnn, hk⟩
      by_cases hi : i < l.length
      · have q1 : ((i : Int) < (l.length : Int)) = True := by simp [hi]
        have q2 : (0 ≤ (i : Int) ∧ (i : Int) < (l.length : Int)) = True := by simp [hi]
        have q3 := txs_from hi
        have q4 := txs_get hi
        have q5 := txs_in hi
        have w1 : IntKind.wrap .i64 ((i : Int) + 1) = (i : Int) + 1 := IntWalk.i64_in _ (by omega)
        have hti : l[i]? = some l[i] := List.getElem?_eq_getElem hi
        obtain ⟨hok, hb500⟩ := hlok l[i] (List.getElem_mem hi)
        have hstep := hW.step hti hok
        have h35 : ∀ h, P18 35 [.ro (decide (A = [])) (txs A) A.length, .agg (txC l[i])] h = .pure (putR (decide (A = [])) A l[i]) := fun h =>
          at35 (by simp) (by have := hW.le; omega) ⟨by have := hW.le; omega, hW.ok⟩ hok h
        have hAl := hW.le
        have hidx := hW.n
        generalize hxi : l[i] = x at *
        generalize hzA : decide (A = []) = zA at *
        refine AWp.seq ?_
        refine AWp.seq ?_
        (refine aw_regionL hS (by kernel_rfl) ?_; repeat (first | apply vr0u | apply vr4 | apply b_tt | apply b_ff | apply b_tf | apply b_ft | apply b_no | exact isD.mk rfl | (apply eqG; (simp only [push_cast, ↓reduceIte, Nat.reduceEqDiff, Nat.reduceAdd, Nat.reduceLeDiff, Int.reduceLE, Int.reduceLT, Int.reduceAdd, Int.reduceSub, Int.reduceNeg, Int.reduceBEq, Int.reduceBNe, Int.reduceEq, Int.reduceGT, Int.reduceGE, Int.reduceMul, Int.reduceToNat, Nat.reduceMul, reduceCtorEq, g0, g1, g5, g7, q1, q2, q3, q4, q5, w1, Int.toNat_natCast, Nat.add_zero] <;> rfl))))
        refine vr_nil (aw_then ?_)
        refine aw_true (by (simp only [push_cast, ↓reduceIte, Nat.reduceEqDiff, Nat.reduceAdd, Nat.reduceLeDiff, Int.reduceLE, Int.reduceLT, Int.reduceAdd, Int.reduceSub, Int.reduceNeg, Int.reduceBEq, Int.reduceBNe, Int.reduceEq, Int.reduceGT, Int.reduceGE, Int.reduceMul, Int.reduceToNat, Nat.reduceMul, reduceCtorEq, g0, g1, g5, g7, q1, q2, q3, q4, q5, w1, Int.toNat_natCast, Nat.add_zero] <;> rfl)) (AWp.skip (aw_then ?_))
        refine AWp.seq ?_
        refine AWp.block ?_
        refine AWp.cut (fun t' h'' n'' => ¬ (x.f < 0 ∨ x.f ≥ 16) ∧ t' 0 = .ro z (txs l) l.length ∧ t' 1 = .i .i64 k0 ∧ t' 5 = .ro zA (txs A) A.length ∧ t' 6 = t 6 ∧ t' 7 = .i .i64 (i : Int) ∧ n'' = n' ∧ h'' = h') ?_ ?_
        · refine AWp.seq ?_
          (refine aw_regionL hS (by kernel_rfl) ?_; repeat (first | apply vr0u | apply vr4 | apply b_tt | apply b_ff | apply b_tf | apply b_ft | apply b_no | exact isD.mk rfl | (apply eqG; (simp only [push_cast, ↓reduceIte, Nat.reduceEqDiff, Nat.reduceAdd, Nat.reduceLeDiff, Int.reduceLE, Int.reduceLT, Int.reduceAdd, Int.reduceSub, Int.reduceNeg, Int.reduceBEq, Int.reduceBNe, Int.reduceEq, Int.reduceGT, Int.reduceGE, Int.reduceMul, Int.reduceToNat, Nat.reduceMul, reduceCtorEq, g0, g1, g5, g7, q1, q2, q3, q4, q5, w1, Int.toNat_natCast, Nat.add_zero] <;> rfl))))
          refine br_s (by (simp only [push_cast, ↓reduceIte, Nat.reduceEqDiff, Nat.reduceAdd, Nat.reduceLeDiff, Int.reduceLE, Int.reduceLT, Int.reduceAdd, Int.reduceSub, Int.reduceNeg, Int.reduceBEq, Int.reduceBNe, Int.reduceEq, Int.reduceGT, Int.reduceGE, Int.reduceMul, Int.reduceToNat, Nat.reduceMul, reduceCtorEq, g0, g1, g5, g7, q1, q2, q3, q4, q5, w1, Int.toNat_natCast, Nat.add_zero] <;> rfl)) (fun hu => ?_) (fun hu => ?_)
          · repeat (first | apply vr0u | apply vr4 | apply b_tt | apply b_ff | apply b_tf | apply b_ft | apply b_no | exact isD.mk rfl | (apply eqG; (simp only [push_cast, ↓reduceIte, Nat.reduceEqDiff, Nat.reduceAdd, Nat.reduceLeDiff, Int.reduceLE, Int.reduceLT, Int.reduceAdd, Int.reduceSub, Int.reduceNeg, Int.reduceBEq, Int.reduceBNe, Int.reduceEq, Int.reduceGT, Int.reduceGE, Int.reduceMul, Int.reduceToNat, Nat.reduceMul, reduceCtorEq, g0, g1, g5, g7, q1, q2, q3, q4, q5, w1, Int.toNat_natCast, Nat.add_zero] <;> rfl)))
            refine vr_nil (aw_then ?_)
            refine aw_true (by (simp only [push_cast, ↓reduceIte, Nat.reduceEqDiff, Nat.reduceAdd, Nat.reduceLeDiff, Int.reduceLE, Int.reduceLT, Int.reduceAdd, Int.reduceSub, Int.reduceNeg, Int.reduceBEq, Int.reduceBNe, Int.reduceEq, Int.reduceGT, Int.reduceGE, Int.reduceMul, Int.reduceToNat, Nat.reduceMul, reduceCtorEq, g0, g1, g5, g7, q1, q2, q3, q4, q5, w1, Int.toNat_natCast, Nat.add_zero] <;> rfl)) ?_
            refine AWp.seq ?_
            (refine aw_regionL hS (by kernel_rfl) ?_; repeat (first | apply vr0u | apply vr4 | apply b_tt | apply b_ff | apply b_tf | apply b_ft | apply b_no | exact isD.mk rfl | (apply eqG; (simp only [push_cast, ↓reduceIte, Nat.reduceEqDiff, Nat.reduceAdd, Nat.reduceLeDiff, Int.reduceLE, Int.reduceLT, Int.reduceAdd, Int.reduceSub, Int.reduceNeg, Int.reduceBEq, Int.reduceBNe, Int.reduceEq, Int.reduceGT, Int.reduceGE, Int.reduceMul, Int.reduceToNat, Nat.reduceMul, reduceCtorEq, g0, g1, g5, g7, q1, q2, q3, q4, q5, w1, Int.toNat_natCast, Nat.add_zero] <;> rfl))))
            refine vr_nil (aw_then ?_)
            refine AWp.ret ?_
            exact Out.pure1 (.inr rfl) rfl (by (simp only [push_cast, ↓reduceIte, Nat.reduceEqDiff, Nat.reduceAdd, Nat.reduceLeDiff, Int.reduceLE, Int.reduceLT, Int.reduceAdd, Int.reduceSub, Int.reduceNeg, Int.reduceBEq, Int.reduceBNe, Int.reduceEq, Int.reduceGT, Int.reduceGE, Int.reduceMul, Int.reduceToNat, Nat.reduceMul, reduceCtorEq, g0, g1, g5, g7, q1, q2, q3, q4, q5, w1, Int.toNat_natCast, Nat.add_zero] <;> rfl)) rfl trivial hk
          · have hu := of_decide_eq_false hu
            repeat (first | apply vr0u | apply vr4 | apply b_tt | apply b_ff | apply b_tf | apply b_ft | apply b_no | exact isD.mk rfl | (apply eqG; (simp only [push_cast, ↓reduceIte, Nat.reduceEqDiff, Nat.reduceAdd, Nat.reduceLeDiff, Int.reduceLE, Int.reduceLT, Int.reduceAdd, Int.reduceSub, Int.reduceNeg, Int.reduceBEq, Int.reduceBNe, Int.reduceEq, Int.reduceGT, Int.reduceGE, Int.reduceMul, Int.reduceToNat, Nat.reduceMul, reduceCtorEq, g0, g1, g5, g7, q1, q2, q3, q4, q5, w1, Int.toNat_natCast, Nat.add_zero] <;> rfl)))
            refine vr_nil (aw_then ?_)
            refine aw_split (by (simp only [push_cast, ↓reduceIte, Nat.reduceEqDiff, Nat.reduceAdd, Nat.reduceLeDiff, Int.reduceLE, Int.reduceLT, Int.reduceAdd, Int.reduceSub, Int.reduceNeg, Int.reduceBEq, Int.reduceBNe, Int.reduceEq, Int.reduceGT, Int.reduceGE, Int.reduceMul, Int.reduceToNat, Nat.reduceMul, reduceCtorEq, g0, g1, g5, g7, q1, q2, q3, q4, q5, w1, Int.toNat_natCast, Nat.add_zero] <;> rfl)) (fun hv => ?_) (fun hv => ?_)
            · refine AWp.seq ?_
              (refine aw_regionL hS (by kernel_rfl) ?_; repeat (first | apply vr0u | apply vr4 | apply b_tt | apply b_ff | apply b_tf | apply b_ft | apply b_no | exact isD.mk rfl | (apply eqG; (simp only [push_cast, ↓reduceIte, Nat.reduceEqDiff, Nat.reduceAdd, Nat.reduceLeDiff, Int.reduceLE, Int.reduceLT, Int.reduceAdd, Int.reduceSub, Int.reduceNeg, Int.reduceBEq, Int.reduceBNe, Int.reduceEq, Int.reduceGT, Int.reduceGE, Int.reduceMul, Int.reduceToNat, Nat.reduceMul, reduceCtorEq, g0, g1, g5, g7, q1, q2, q3, q4, q5, w1, Int.toNat_natCast, Nat.add_zero] <;> rfl))))
              refine vr_nil (aw_then ?_)
              refine AWp.ret ?_
              exact Out.pure1 (.inr rfl) rfl (by (simp only [push_cast, ↓reduceIte, Nat.reduceEqDiff, Nat.reduceAdd, Nat.reduceLeDiff, Int.reduceLE, Int.reduceLT, Int.reduceAdd, Int.reduceSub, Int.reduceNeg, Int.reduceBEq, Int.reduceBNe, Int.reduceEq, Int.reduceGT, Int.reduceGE, Int.reduceMul, Int.reduceToNat, Nat.reduceMul, reduceCtorEq, g0, g1, g5, g7, q1, q2, q3, q4, q5, w1, Int.toNat_natCast, Nat.add_zero] <;> rfl)) rfl trivial hk
            · have hv := of_decide_eq_false hv
              exact AWp.skip (aw_then ⟨by omega, by (simp only [push_cast, ↓reduceIte, Nat.reduceEqDiff, Nat.reduceAdd, Nat.reduceLeDiff, Int.reduceLE, Int.reduceLT, Int.reduceAdd, Int.reduceSub, Int.reduceNeg, Int.reduceBEq, Int.reduceBNe, Int.reduceEq, Int.reduceGT, Int.reduceGE, Int.reduceMul, Int.reduceToNat, Nat.reduceMul, reduceCtorEq, g0, g1, g5, g7, q1, q2, q3, q4, q5, w1, Int.toNat_natCast, Nat.add_zero] <;> rfl), by (simp only [push_cast, ↓reduceIte, Nat.reduceEqDiff, Nat.reduceAdd, Nat.reduceLeDiff, Int.reduceLE, Int.reduceLT, Int.reduceAdd, Int.reduceSub, Int.reduceNeg, Int.reduceBEq, Int.reduceBNe, Int.reduceEq, Int.reduceGT, Int.reduceGE, Int.reduceMul, Int.reduceToNat, Nat.reduceMul, reduceCtorEq, g0, g1, g5, g7, q1, q2, q3, q4, q5, w1, Int.toNat_natCast, Nat.add_zero] <;> rfl), by (simp only [push_cast, ↓reduceIte, Nat.reduceEqDiff, Nat.reduceAdd, Nat.reduceLeDiff, Int.reduceLE, Int.reduceLT, Int.reduceAdd, Int.reduceSub, Int.reduceNeg, Int.reduceBEq, Int.reduceBNe, Int.reduceEq, Int.reduceGT, Int.reduceGE, Int.reduceMul, Int.reduceToNat, Nat.reduceMul, reduceCtorEq, g0, g1, g5, g7, q1, q2, q3, q4, q5, w1, Int.toNat_natCast, Nat.add_zero] <;> rfl), by (simp only [push_cast, ↓reduceIte, Nat.reduceEqDiff, Nat.reduceAdd, Nat.reduceLeDiff, Int.reduceLE, Int.reduceLT, Int.reduceAdd, Int.reduceSub, Int.reduceNeg, Int.reduceBEq, Int.reduceBNe, Int.reduceEq, Int.reduceGT, Int.reduceGE, Int.reduceMul, Int.reduceToNat, Nat.reduceMul, reduceCtorEq, g0, g1, g5, g7, q1, q2, q3, q4, q5, w1, Int.toNat_natCast, Nat.add_zero] <;> rfl), by (simp only [push_cast, ↓reduceIte, Nat.reduceEqDiff, Nat.reduceAdd, Nat.reduceLeDiff, Int.reduceLE, Int.reduceLT, Int.reduceAdd, Int.reduceSub, Int.reduceNeg, Int.reduceBEq, Int.reduceBNe, Int.reduceEq, Int.reduceGT, Int.reduceGE, Int.reduceMul, Int.reduceToNat, Nat.reduceMul, reduceCtorEq, g0, g1, g5, g7, q1, q2, q3, q4, q5, w1, Int.toNat_natCast, Nat.add_zero] <;> rfl), rfl, rfl⟩)
        · rintro t1 h1 n1 - ⟨hf, e0, e1, e5, e6, e7, rfl, rfl⟩
          obtain ⟨X, v, hput, hWX, hvX, hAX, hXA⟩ := hstep hf (by omega)
          rw [hput] at h35
          have p1 : (v ≥ (X.length : Int)) = False := by simp only [eq_iff_iff, iff_false]; omega
          have p2 : ((X.length : Int) < (A.length : Int)) = False := by simp only [eq_iff_iff, iff_false]; omega
          have w2 : IntKind.wrap .i64 ((A.length : Int) + 1) = (A.length : Int) + 1 := IntWalk.i64_in _ (by omega)
          have p3 : ((X.length : Int) > (A.length : Int) + 1) = False := by simp only [eq_iff_iff, iff_false]; omega
          have r1 : rep 1 [AV.i .i64 0] = [AV.i .i64 0] := rfl
          rcases hout with ⟨rfl, h6⟩ | ⟨hne, j, hj1, hj2, h6, hrow⟩
          · rw [h6] at e6
            refine AWp.seq ?_
            (refine aw_regionL hS (by kernel_rfl) ?_; repeat (first | apply vr0u | apply vr4 | apply b_tt | apply b_ff | apply b_tf | apply b_ft | apply b_no | exact isD.mk rfl | (apply eqG; (simp only [push_cast, ↓reduceIte, Nat.reduceEqDiff, Nat.reduceAdd, Nat.reduceLeDiff, Int.reduceLE, Int.reduceLT, Int.reduceAdd, Int.reduceSub, Int.reduceNeg, Int.reduceBEq, Int.reduceBNe, Int.reduceEq, Int.reduceGT, Int.reduceGE, Int.reduceMul, Int.reduceToNat, Nat.reduceMul, reduceCtorEq, e0, e1, e5, e6, e7, q1, q2, q3, q4, q5, w1, w2, h35, p1, p2, p3, r1, Int.toNat_natCast, Nat.add_zero, Nat.reduceLT] <;> rfl))))
            refine vr_nil (aw_then ?_)
            refine AWp.seq ?_
            refine AWp.seq ?_
            (refine aw_regionL hS (by kernel_rfl) ?_; repeat (first | apply vr0u | apply vr4 | apply b_tt | apply b_ff | apply b_tf | apply b_ft | apply b_no | exact isD.mk rfl | (apply eqG; (simp only [push_cast, ↓reduceIte, Nat.reduceEqDiff, Nat.reduceAdd, Nat.reduceLeDiff, Int.reduceLE, Int.reduceLT, Int.reduceAdd, Int.reduceSub, Int.reduceNeg, Int.reduceBEq, Int.reduceBNe, Int.reduceEq, Int.reduceGT, Int.reduceGE, Int.reduceMul, Int.reduceToNat, Nat.reduceMul, reduceCtorEq, e0, e1, e5, e6, e7, q1, q2, q3, q4, q5, w1, w2, h35, p1, p2, p3, r1, Int.toNat_natCast, Nat.add_zero, Nat.reduceLT] <;> rfl))))
            refine vr_nil (aw_then ?_)
            refine aw_false (by (simp only [push_cast, ↓reduceIte, Nat.reduceEqDiff, Nat.reduceAdd, Nat.reduceLeDiff, Int.reduceLE, Int.reduceLT, Int.reduceAdd, Int.reduceSub, Int.reduceNeg, Int.reduceBEq, Int.reduceBNe, Int.reduceEq, Int.reduceGT, Int.reduceGE, Int.reduceMul, Int.reduceToNat, Nat.reduceMul, reduceCtorEq, e0, e1, e5, e6, e7, q1, q2, q3, q4, q5, w1, w2, h35, p1, p2, p3, r1, Int.toNat_natCast, Nat.add_zero, Nat.reduceLT] <;> rfl)) (AWp.skip (aw_then ?_))
            (refine aw_regionL hS (by kernel_rfl) ?_; repeat (first | apply vr0u | apply vr4 | apply b_tt | apply b_ff | apply b_tf | apply b_ft | apply b_no | exact isD.mk rfl | (apply eqG; (simp only [push_cast, ↓reduceIte, Nat.reduceEqDiff, Nat.reduceAdd, Nat.reduceLeDiff, Int.reduceLE, Int.reduceLT, Int.reduceAdd, Int.reduceSub, Int.reduceNeg, Int.reduceBEq, Int.reduceBNe, Int.reduceEq, Int.reduceGT, Int.reduceGE, Int.reduceMul, Int.reduceToNat, Nat.reduceMul, reduceCtorEq, e0, e1, e5, e6, e7, q1, q2, q3, q4, q5, w1, w2, h35, p1, p2, p3, r1, Int.toNat_natCast, Nat.add_zero, Nat.reduceLT] <;> rfl))))
            refine vr_nil (aw_in (aw_then ?_))
            (refine aw_regionL hS (by kernel_rfl) ?_; repeat (first | apply vr0u | apply vr4 | apply b_tt | apply b_ff | apply b_tf | apply b_ft | apply b_no | exact isD.mk rfl | (apply eqG; (simp only [push_cast, ↓reduceIte, Nat.reduceEqDiff, Nat.reduceAdd, Nat.reduceLeDiff, Int.reduceLE, Int.reduceLT, Int.reduceAdd, Int.reduceSub, Int.reduceNeg, Int.reduceBEq, Int.reduceBNe, Int.reduceEq, Int.reduceGT, Int.reduceGE, Int.reduceMul, Int.reduceToNat, Nat.reduceMul, reduceCtorEq, e0, e1, e5, e6, e7, q1, q2, q3, q4, q5, w1, w2, h35, p1, p2, p3, r1, Int.toNat_natCast, Nat.add_zero, Nat.reduceLT] <;> rfl))))
            exact vr_nil (aw_then ⟨l.length - (i + 1), by omega, i + 1, X, [] ++ [v], rfl, hi, hWX, by (simp only [push_cast, ↓reduceIte, Nat.reduceEqDiff, Nat.reduceAdd, Nat.reduceLeDiff, Int.reduceLE, Int.reduceLT, Int.reduceAdd, Int.reduceSub, Int.reduceNeg, Int.reduceBEq, Int.reduceBNe, Int.reduceEq, Int.reduceGT, Int.reduceGE, Int.reduceMul, Int.reduceToNat, Nat.reduceMul, reduceCtorEq, e0, e1, e5, e6, e7, q1, q2, q3, q4, q5, w1, w2, h35, p1, p2, p3, r1, Int.toNat_natCast, Nat.add_zero, Nat.reduceLT] <;> rfl), by (simp only [push_cast, ↓reduceIte, Nat.reduceEqDiff, Nat.reduceAdd, Nat.reduceLeDiff, Int.reduceLE, Int.reduceLT, Int.reduceAdd, Int.reduceSub, Int.reduceNeg, Int.reduceBEq, Int.reduceBNe, Int.reduceEq, Int.reduceGT, Int.reduceGE, Int.reduceMul, Int.reduceToNat, Nat.reduceMul, reduceCtorEq, e0, e1, e5, e6, e7, q1, q2, q3, q4, q5, w1, w2, h35, p1, p2, p3, r1, Int.toNat_natCast, Nat.add_zero, Nat.reduceLT] <;> rfl), by (simp only [push_cast, ↓reduceIte, Nat.reduceEqDiff, Nat.reduceAdd, Nat.reduceLeDiff, Int.reduceLE, Int.reduceLT, Int.reduceAdd, Int.reduceSub, Int.reduceNeg, Int.reduceBEq, Int.reduceBNe, Int.reduceEq, Int.reduceGT, Int.reduceGE, Int.reduceMul, Int.reduceToNat, Nat.reduceMul, reduceCtorEq, e0, e1, e5, e6, e7, q1, q2, q3, q4, q5, w1, w2, h35, p1, p2, p3, r1, Int.toNat_natCast, Nat.add_zero, Nat.reduceLT] <;> rfl), .inr ⟨by simp, n1 + 1, by omega, by omega, by simp only [List.nil_append, List.length_cons, List.length_nil]; (simp only [push_cast, ↓reduceIte, Nat.reduceEqDiff, Nat.reduceAdd, Nat.reduceLeDiff, Int.reduceLE, Int.reduceLT, Int.reduceAdd, Int.reduceSub, Int.reduceNeg, Int.reduceBEq, Int.reduceBNe, Int.reduceEq, Int.reduceGT, Int.reduceGE, Int.reduceMul, Int.reduceToNat, Nat.reduceMul, reduceCtorEq, e0, e1, e5, e6, e7, q1, q2, q3, q4, q5, w1, w2, h35, p1, p2, p3, r1, Int.toNat_natCast, Nat.add_zero, Nat.reduceLT] <;> rfl), by simp only [List.nil_append, ints, List.map_cons, List.map_nil]; (simp only [push_cast, ↓reduceIte, Nat.reduceEqDiff, Nat.reduceAdd, Nat.reduceLeDiff, Int.reduceLE, Int.reduceLT, Int.reduceAdd, Int.reduceSub, Int.reduceNeg, Int.reduceBEq, Int.reduceBNe, Int.reduceEq, Int.reduceGT, Int.reduceGE, Int.reduceMul, Int.reduceToNat, Nat.reduceMul, reduceCtorEq, e0, e1, e5, e6, e7, q1, q2, q3, q4, q5, w1, w2, h35, p1, p2, p3, r1, Int.toNat_natCast, Nat.add_zero, Nat.reduceLT] <;> rfl)⟩, by (simp only [push_cast, ↓reduceIte, Nat.reduceEqDiff, Nat.reduceAdd, Nat.reduceLeDiff, Int.reduceLE, Int.reduceLT, Int.reduceAdd, Int.reduceSub, Int.reduceNeg, Int.reduceBEq, Int.reduceBNe, Int.reduceEq, Int.reduceGT, Int.reduceGE, Int.reduceMul, Int.reduceToNat, Nat.reduceMul, reduceCtorEq, e0, e1, e5, e6, e7, q1, q2, q3, q4, q5, w1, w2, h35, p1, p2, p3, r1, Int.toNat_natCast, Nat.add_zero, Nat.reduceLT] <;> rfl), by omega, by repeat (first | exact hk | refine keepU (by omega) ?_)⟩)
          · rw [h6] at e6
            have qa : ((ints idx).length = idx.length) = True := by simp [ints]
            have qb : ((idx.length + 1) * 8 ≤ 140737488355328) = True := by simp; omega
            have qc : (idx.length + 1 ≤ 9223372036854775807) = True := by simp; omega
            have qd : (idx.length ≤ (ints idx).length) = True := by simp [ints]
            have u0 : ∀ (r : Option Row), upd h1 n1 r j = h1 j := fun r => upd_ne _ _ (by omega)
            refine AWp.seq ?_
            (refine aw_regionL hS (by kernel_rfl) ?_; repeat (first | apply vr0u | apply vr4 | apply b_tt | apply b_ff | apply b_tf | apply b_ft | apply b_no | exact isD.mk rfl | (apply eqG; (simp only [push_cast, ↓reduceIte, Nat.reduceEqDiff, Nat.reduceAdd, Nat.reduceLeDiff, Int.reduceLE, Int.reduceLT, Int.reduceAdd, Int.reduceSub, Int.reduceNeg, Int.reduceBEq, Int.reduceBNe, Int.reduceEq, Int.reduceGT, Int.reduceGE, Int.reduceMul, Int.reduceToNat, Nat.reduceMul, reduceCtorEq, e0, e1, e5, e6, e7, q1, q2, q3, q4, q5, w1, w2, h35, p1, p2, p3, r1, qa, qb, qc, qd, u0, hrow, Int.toNat_natCast, Nat.add_zero, Nat.reduceLT] <;> rfl))))
            refine vr_nil (aw_then ?_)
            refine AWp.seq ?_
            refine AWp.seq ?_
            (refine aw_regionL hS (by kernel_rfl) ?_; repeat (first | apply vr0u | apply vr4 | apply b_tt | apply b_ff | apply b_tf | apply b_ft | apply b_no | exact isD.mk rfl | (apply eqG; (simp only [push_cast, ↓reduceIte, Nat.reduceEqDiff, Nat.reduceAdd, Nat.reduceLeDiff, Int.reduceLE, Int.reduceLT, Int.reduceAdd, Int.reduceSub, Int.reduceNeg, Int.reduceBEq, Int.reduceBNe, Int.reduceEq, Int.reduceGT, Int.reduceGE, Int.reduceMul, Int.reduceToNat, Nat.reduceMul, reduceCtorEq, e0, e1, e5, e6, e7, q1, q2, q3, q4, q5, w1, w2, h35, p1, p2, p3, r1, qa, qb, qc, qd, u0, hrow, Int.toNat_natCast, Nat.add_zero, Nat.reduceLT] <;> rfl))))
            refine vr_nil (aw_then ?_)
            refine aw_false (by (simp only [push_cast, ↓reduceIte, Nat.reduceEqDiff, Nat.reduceAdd, Nat.reduceLeDiff, Int.reduceLE, Int.reduceLT, Int.reduceAdd, Int.reduceSub, Int.reduceNeg, Int.reduceBEq, Int.reduceBNe, Int.reduceEq, Int.reduceGT, Int.reduceGE, Int.reduceMul, Int.reduceToNat, Nat.reduceMul, reduceCtorEq, e0, e1, e5, e6, e7, q1, q2, q3, q4, q5, w1, w2, h35, p1, p2, p3, r1, qa, qb, qc, qd, u0, hrow, Int.toNat_natCast, Nat.add_zero, Nat.reduceLT] <;> rfl)) (AWp.skip (aw_then ?_))
            (refine aw_regionL hS (by kernel_rfl) ?_; repeat (first | apply vr0u | apply vr4 | apply b_tt | apply b_ff | apply b_tf | apply b_ft | apply b_no | exact isD.mk rfl | (apply eqG; (simp only [push_cast, ↓reduceIte, Nat.reduceEqDiff, Nat.reduceAdd, Nat.reduceLeDiff, Int.reduceLE, Int.reduceLT, Int.reduceAdd, Int.reduceSub, Int.reduceNeg, Int.reduceBEq, Int.reduceBNe, Int.reduceEq, Int.reduceGT, Int.reduceGE, Int.reduceMul, Int.reduceToNat, Nat.reduceMul, reduceCtorEq, e0, e1, e5, e6, e7, q1, q2, q3, q4, q5, w1, w2, h35, p1, p2, p3, r1, qa, qb, qc, qd, u0, hrow, Int.toNat_natCast, Nat.add_zero, Nat.reduceLT] <;> rfl))))
            refine vr_nil (aw_in (aw_then ?_))
            (refine aw_regionL hS (by kernel_rfl) ?_; repeat (first | apply vr0u | apply vr4 | apply b_tt | apply b_ff | apply b_tf | apply b_ft | apply b_no | exact isD.mk rfl | (apply eqG; (simp only [push_cast, ↓reduceIte, Nat.reduceEqDiff, Nat.reduceAdd, Nat.reduceLeDiff, Int.reduceLE, Int.reduceLT, Int.reduceAdd, Int.reduceSub, Int.reduceNeg, Int.reduceBEq, Int.reduceBNe, Int.reduceEq, Int.reduceGT, Int.reduceGE, Int.reduceMul, Int.reduceToNat, Nat.reduceMul, reduceCtorEq, e0, e1, e5, e6, e7, q1, q2, q3, q4, q5, w1, w2, h35, p1, p2, p3, r1, qa, qb, qc, qd, u0, hrow, Int.toNat_natCast, Nat.add_zero, Nat.reduceLT] <;> rfl))))
            exact vr_nil (aw_then ⟨l.length - (i + 1), by omega, i + 1, X, idx ++ [v], rfl, hi, hWX, by (simp only [push_cast, ↓reduceIte, Nat.reduceEqDiff, Nat.reduceAdd, Nat.reduceLeDiff, Int.reduceLE, Int.reduceLT, Int.reduceAdd, Int.reduceSub, Int.reduceNeg, Int.reduceBEq, Int.reduceBNe, Int.reduceEq, Int.reduceGT, Int.reduceGE, Int.reduceMul, Int.reduceToNat, Nat.reduceMul, reduceCtorEq, e0, e1, e5, e6, e7, q1, q2, q3, q4, q5, w1, w2, h35, p1, p2, p3, r1, qa, qb, qc, qd, u0, hrow, Int.toNat_natCast, Nat.add_zero, Nat.reduceLT] <;> rfl), by (simp only [push_cast, ↓reduceIte, Nat.reduceEqDiff, Nat.reduceAdd, Nat.reduceLeDiff, Int.reduceLE, Int.reduceLT, Int.reduceAdd, Int.reduceSub, Int.reduceNeg, Int.reduceBEq, Int.reduceBNe, Int.reduceEq, Int.reduceGT, Int.reduceGE, Int.reduceMul, Int.reduceToNat, Nat.reduceMul, reduceCtorEq, e0, e1, e5, e6, e7, q1, q2, q3, q4, q5, w1, w2, h35, p1, p2, p3, r1, qa, qb, qc, qd, u0, hrow, Int.toNat_natCast, Nat.add_zero, Nat.reduceLT] <;> rfl), by (simp only [push_cast, ↓reduceIte, Nat.reduceEqDiff, Nat.reduceAdd, Nat.reduceLeDiff, Int.reduceLE, Int.reduceLT, Int.reduceAdd, Int.reduceSub, Int.reduceNeg, Int.reduceBEq, Int.reduceBNe, Int.reduceEq, Int.reduceGT, Int.reduceGE, Int.reduceMul, Int.reduceToNat, Nat.reduceMul, reduceCtorEq, e0, e1, e5, e6, e7, q1, q2, q3, q4, q5, w1, w2, h35, p1, p2, p3, r1, qa, qb, qc, qd, u0, hrow, Int.toNat_natCast, Nat.add_zero, Nat.reduceLT] <;> rfl), .inr ⟨by simp, n1 + 1, by omega, by omega, by rw [List.length_append, List.length_cons, List.length_nil]; (simp only [push_cast, ↓reduceIte, Nat.reduceEqDiff, Nat.reduceAdd, Nat.reduceLeDiff, Int.reduceLE, Int.reduceLT, Int.reduceAdd, Int.reduceSub, Int.reduceNeg, Int.reduceBEq, Int.reduceBNe, Int.reduceEq, Int.reduceGT, Int.reduceGE, Int.reduceMul, Int.reduceToNat, Nat.reduceMul, reduceCtorEq, e0, e1, e5, e6, e7, q1, q2, q3, q4, q5, w1, w2, h35, p1, p2, p3, r1, qa, qb, qc, qd, u0, hrow, Int.toNat_natCast, Nat.add_zero, Nat.reduceLT] <;> rfl), by rw [← ints_snoc]; (simp only [push_cast, ↓reduceIte, Nat.reduceEqDiff, Nat.reduceAdd, Nat.reduceLeDiff, Int.reduceLE, Int.reduceLT, Int.reduceAdd, Int.reduceSub, Int.reduceNeg, Int.reduceBEq, Int.reduceBNe, Int.reduceEq, Int.reduceGT, Int.reduceGE, Int.reduceMul, Int.reduceToNat, Nat.reduceMul, reduceCtorEq, e0, e1, e5, e6, e7, q1, q2, q3, q4, q5, w1, w2, h35, p1, p2, p3, r1, qa, qb, qc, qd, u0, hrow, Int.toNat_natCast, Nat.add_zero, Nat.reduceLT] <;> rfl)⟩, by (simp only [push_cast, ↓reduceIte, Nat.reduceEqDiff, Nat.reduceAdd, Nat.reduceLeDiff, Int.reduceLE, Int.reduceLT, Int.reduceAdd, Int.reduceSub, Int.reduceNeg, Int.reduceBEq, Int.reduceBNe, Int.reduceEq, Int.reduceGT, Int.reduceGE, Int.reduceMul, Int.reduceToNat, Nat.reduceMul, reduceCtorEq, e0, e1, e5, e6, e7, q1, q2, q3, q4, q5, w1, w2, h35, p1, p2, p3, r1, qa, qb, qc, qd, u0, hrow, Int.toNat_natCast, Nat.add_zero, Nat.reduceLT] <;> rfl), by omega, by repeat (first | exact hk | refine keepU (by omega) ?_)⟩)
      · have hie : i = l.length := by omega
        have q1 : ((i : Int) < (l.length : Int)) = False := by simp; omega
        refine AWp.seq ?_
        refine AWp.seq ?_
        (refine aw_regionL hS (by kernel_rfl) ?_; repeat (first | apply vr0u | apply vr4 | apply b_tt | apply b_ff | apply b_tf | apply b_ft | apply b_no | exact isD.mk rfl | (apply eqG; (simp only [push_cast, ↓reduceIte, Nat.reduceEqDiff, Nat.reduceAdd, Nat.reduceLeDiff, Int.reduceLE, Int.reduceLT, Int.reduceAdd, Int.reduceSub, Int.reduceNeg, Int.reduceBEq, Int.reduceBNe, Int.reduceEq, Int.reduceGT, Int.reduceGE, Int.reduceMul, Int.reduceToNat, Nat.reduceMul, reduceCtorEq, g0, g1, g5, g7, q1] <;> rfl))))
        refine vr_nil (aw_then ?_)
        refine aw_false (by (simp only [push_cast, ↓reduceIte, Nat.reduceEqDiff, Nat.reduceAdd, Nat.reduceLeDiff, Int.reduceLE, Int.reduceLT, Int.reduceAdd, Int.reduceSub, Int.reduceNeg, Int.reduceBEq, Int.reduceBNe, Int.reduceEq, Int.reduceGT, Int.reduceGE, Int.reduceMul, Int.reduceToNat, Nat.reduceMul, reduceCtorEq, g0, g1, g5, g7, q1] <;> rfl)) (AWp.exit (aw_thru (aw_thru (aw_exit (aw_then ?_)))))
        exact ⟨A, idx, by rw [← hie]; exact hW, by (simp only [push_cast, ↓reduceIte, Nat.reduceEqDiff, Nat.reduceAdd, Nat.reduceLeDiff, Int.reduceLE, Int.reduceLT, Int.reduceAdd, Int.reduceSub, Int.reduceNeg, Int.reduceBEq, Int.reduceBNe, Int.reduceEq, Int.reduceGT, Int.reduceGE, Int.reduceMul, Int.reduceToNat, Nat.reduceMul, reduceCtorEq, g0, g1, g5, g7, q1] <;> rfl), by (simp only [push_cast, ↓reduceIte, Nat.reduceEqDiff, Nat.reduceAdd, Nat.reduceLeDiff, Int.reduceLE, Int.reduceLT, Int.reduceAdd, Int.reduceSub, Int.reduceNeg, Int.reduceBEq, Int.reduceBNe, Int.reduceEq, Int.reduceGT, Int.reduceGE, Int.reduceMul, Int.reduceToNat, Nat.reduceMul, reduceCtorEq, g0, g1, g5, g7, q1] <;> rfl), by (simp only [push_cast, ↓reduceIte, Nat.reduceEqDiff, Nat.reduceAdd, Nat.reduceLeDiff, Int.reduceLE, Int.reduceLT, Int.reduceAdd, Int.reduceSub, Int.reduceNeg, Int.reduceBEq, Int.reduceBNe, Int.reduceEq, Int.reduceGT, Int.reduceGE, Int.reduceMul, Int.reduceToNat, Nat.reduceMul, reduceCtorEq, g0, g1, g5, g7, q1] <;> rfl), by simp only [push_cast, ↓reduceIte, Nat.reduceEqDiff, Nat.reduceAdd, Nat.reduceLeDiff, Int.reduceLE, Int.reduceLT, Int.reduceAdd, Int.reduceSub, Int.reduceNeg, Int.reduceBEq, Int.reduceBNe, Int.reduceEq, Int.reduceGT, Int.reduceGE, Int.reduceMul, Int.reduceToNat, Nat.reduceMul, reduceCtorEq, g0, g1, g5, g7, q1]; exact hout, hnn, hk⟩
  rintro t2 h2 n2 - ⟨A, idx, hW, e0, e1, e5, hout, hn2, hk2⟩
  have hAl := hW.le
  have hokA : okL A := ⟨by omega, hW.ok⟩
  obtain ⟨zA, hzA⟩ : ∃ zA, decide (A = []) = zA := ⟨_, rfl⟩
  rw [hzA] at e5
  refine AWp.cut (fun t' h' n' => t' 1 = .i .i64 k0 ∧ t' 5 = .ro zA (txs A) A.length ∧ n2 ≤ n' ∧ ∀ x r, x < n → h x = some r → h' x = some r) ?_ ?_
  · refine AWp.seq ?_
    (refine aw_regionL hS (by kernel_rfl) ?_; repeat (first | apply vr0u | apply vr4 | apply b_tt | apply b_ff | apply b_tf | apply b_ft | apply b_no | exact isD.mk rfl | (apply eqG; (simp only [push_cast, ↓reduceIte, Nat.reduceEqDiff, Nat.reduceAdd, Nat.reduceLeDiff, Int.reduceLE, Int.reduceLT, Int.reduceAdd, Int.reduceSub, Int.reduceNeg, Int.reduceBEq, Int.reduceBNe, Int.reduceEq, Int.reduceGT, Int.reduceGE, Int.reduceMul, Int.reduceToNat, Nat.reduceMul, reduceCtorEq, e0, e1, e5] <;> rfl))))
    refine vr_nil (aw_then ?_)
    refine AWp.block ?_
    refine AWp.loop (fun k t' h' n' => ∃ i : Nat, k = l.length - i ∧ i ≤ l.length ∧ t' 0 = .ro z (txs l) l.length ∧ t' 1 = .i .i64 k0 ∧ t' 5 = .ro zA (txs A) A.length ∧ outI n n' idx (t' 6) h' ∧ t' 11 = .i .i64 (i : Int) ∧ n2 ≤ n' ∧ ∀ x r, x < n → h x = some r → h' x = some r) l.length ?_ ?_
    · exact ⟨0, rfl, Nat.zero_le _, by (simp only [push_cast, ↓reduceIte, Nat.reduceEqDiff, Nat.reduceAdd, Nat.reduceLeDiff, Int.reduceLE, Int.reduceLT, Int.reduceAdd, Int.reduceSub, Int.reduceNeg, Int.reduceBEq, Int.reduceBNe, Int.reduceEq, Int.reduceGT, Int.reduceGE, Int.reduceMul, Int.reduceToNat, Nat.reduceMul, reduceCtorEq, e0, e1, e5] <;> rfl), by (simp only [push_cast, ↓reduceIte, Nat.reduceEqDiff, Nat.reduceAdd, Nat.reduceLeDiff, Int.reduceLE, Int.reduceLT, Int.reduceAdd, Int.reduceSub, Int.reduceNeg, Int.reduceBEq, Int.reduceBNe, Int.reduceEq, Int.reduceGT, Int.reduceGE, Int.reduceMul, Int.reduceToNat, Nat.reduceMul, reduceCtorEq, e0, e1, e5] <;> rfl), by (simp only [push_cast, ↓reduceIte, Nat.reduceEqDiff, Nat.reduceAdd, Nat.reduceLeDiff, Int.reduceLE, Int.reduceLT, Int.reduceAdd, Int.reduceSub, Int.reduceNeg, Int.reduceBEq, Int.reduceBNe, Int.reduceEq, Int.reduceGT, Int.reduceGE, Int.reduceMul, Int.reduceToNat, Nat.reduceMul, reduceCtorEq, e0, e1, e5] <;> rfl), by simp only [push_cast, ↓reduceIte, Nat.reduceEqDiff, Nat.reduceAdd, Nat.reduceLeDiff, Int.reduceLE, Int.reduceLT, Int.reduceAdd, Int.reduceSub, Int.reduceNeg, Int.reduceBEq, Int.reduceBNe, Int.reduceEq, Int.reduceGT, Int.reduceGE, Int.reduceMul, Int.reduceToNat, Nat.reduceMul, reduceCtorEq, e0, e1, e5]; exact hout, by (simp only [push_cast, ↓reduceIte, Nat.reduceEqDiff, Nat.reduceAdd, Nat.reduceLeDiff, Int.reduceLE, Int.reduceLT, Int.reduceAdd, Int.reduceSub, Int.reduceNeg, Int.reduceBEq, Int.reduceBNe, Int.reduceEq, Int.reduceGT, Int.reduceGE, Int.reduceMul, Int.reduceToNat, Nat.reduceMul, reduceCtorEq, e0, e1, e5] <;> rfl), Nat.le_refl _, hk2⟩
    · rintro m t h' n' - ⟨i, rfl, hil, g0, g1, g5, hout', g11, hnn, hk⟩
      by_cases hi : i < l.length
      · have q1 : ((i : Int) < (l.length : Int)) = True := by simp [hi]
        have q2 : (0 ≤ (i : Int) ∧ (i : Int) < (l.length : Int)) = True := by simp [hi]
        have q3 := txs_from hi
        have q4 := txs_val hi
        have w1 : IntKind.wrap .i64 ((i : Int) + 1) = (i : Int) + 1 := IntWalk.i64_in _ (by omega)
        obtain ⟨v, x, y, k1, k2, k3, k4⟩ := hW.at_ i hi
        have hy : l[i] = y := by rw [List.getElem?_eq_getElem hi] at k3; injection k3
        have hv : v < A.length := by
          rcases Nat.lt_or_ge v A.length with hv | hv
          · exact hv
          · rw [List.getElem?_eq_none hv] at k2; cases k2
        have hAv : A[v] = x := by rw [List.getElem?_eq_getElem hv] at k2; injection k2
        obtain ⟨sf, sb⟩ : x.f = y.f ∧ x.b = y.b := by simpa [sameT] using k4
        have hyok := hlok y (by rw [← hy]; exact List.getElem_mem hi)
        have hpick : pickF A [(v : Int)] [] = [x] := by
          simp only [pickF]
          rw [if_neg (by simp), if_pos ⟨by omega, by omega⟩, Int.toNat_natCast, List.drop_eq_getElem_cons hv, hAv]
          rfl
        have h39 : ∀ j h, h j = some (.cells [.i .i64 (v : Int)]) → P18 39 [.ro zA (txs A) A.length, .sl 1 j 0 1] h = .wide fun m => (.ro false (txC x) 1, [(j, none)], m) := fun j h hj => by
          have := at39o (z := zA) (l := A) (take := [(v : Int)]) (by simp) hokA rfl j h hj
          rw [pickR, hpick] at this
          exact this
        have h45 : ∀ h, P18 45 [.ro x.z (cellsB x.b) x.b.length, .ro y.z (cellsB y.b) y.b.length] h = .pure (.b true) := fun h => by
          rw [sb]
          exact at45 (by omega) h
        rw [hy] at q3 q4
        have r1 : rep 1 [AV.i .i64 0] = [AV.i .i64 0] := rfl
        rcases hout' with ⟨rfl, h6⟩ | ⟨hne, j, hj1, hj2, h6, hrow⟩
        · simp at k1
        · have hlen : idx.length = l.length := hW.n
          have q5 : (0 ≤ (i : Int) ∧ (i : Int) < (idx.length : Int)) = True := by simp; omega
          have q6 : (ints idx)[i]? = some (.i .i64 (v : Int)) := by
            simp only [ints, List.getElem?_map, k1, Option.map_some]
          have u0 : ∀ (g : Heap) (r : Option Row), upd g n' r j = g j := fun g r => upd_ne _ _ (by omega)
          refine AWp.seq ?_
          refine AWp.seq ?_
          (refine aw_regionL hS (by kernel_rfl) ?_; repeat (first | apply vr0u | apply vr4 | apply b_tt | apply b_ff | apply b_tf | apply b_ft | apply b_no | exact isD.mk rfl | (apply eqG; (simp only [push_cast, ↓reduceIte, Nat.reduceEqDiff, Nat.reduceAdd, Nat.reduceLeDiff, Int.reduceLE, Int.reduceLT, Int.reduceAdd, Int.reduceSub, Int.reduceNeg, Int.reduceBEq, Int.reduceBNe, Int.reduceEq, Int.reduceGT, Int.reduceGE, Int.reduceMul, Int.reduceToNat, Nat.reduceMul, reduceCtorEq, g0, g1, g5, g11, h6, hrow, q1, q2, q3, q4, q5, q6, sf, w1, h39, h45, r1, u0, Int.toNat_natCast, Nat.add_zero, Nat.reduceLT, Nat.zero_mul] <;> rfl))))
          refine vr_nil (aw_then ?_)
          refine aw_true (by (simp only [push_cast, ↓reduceIte, Nat.reduceEqDiff, Nat.reduceAdd, Nat.reduceLeDiff, Int.reduceLE, Int.reduceLT, Int.reduceAdd, Int.reduceSub, Int.reduceNeg, Int.reduceBEq, Int.reduceBNe, Int.reduceEq, Int.reduceGT, Int.reduceGE, Int.reduceMul, Int.reduceToNat, Nat.reduceMul, reduceCtorEq, g0, g1, g5, g11, h6, hrow, q1, q2, q3, q4, q5, q6, sf, w1, h39, h45, r1, u0, Int.toNat_natCast, Nat.add_zero, Nat.reduceLT, Nat.zero_mul] <;> rfl)) (AWp.skip (aw_then ?_))
          refine AWp.seq ?_
          refine AWp.block ?_
          refine AWp.seq ?_
          (refine aw_regionL hS (by kernel_rfl) ?_; repeat (first | apply vr0u | apply vr4 | apply b_tt | apply b_ff | apply b_tf | apply b_ft | apply b_no | exact isD.mk rfl | (apply eqG; (simp only [push_cast, ↓reduceIte, Nat.reduceEqDiff, Nat.reduceAdd, Nat.reduceLeDiff, Int.reduceLE, Int.reduceLT, Int.reduceAdd, Int.reduceSub, Int.reduceNeg, Int.reduceBEq, Int.reduceBNe, Int.reduceEq, Int.reduceGT, Int.reduceGE, Int.reduceMul, Int.reduceToNat, Nat.reduceMul, reduceCtorEq, g0, g1, g5, g11, h6, hrow, q1, q2, q3, q4, q5, q6, sf, w1, h39, h45, r1, u0, Int.toNat_natCast, Nat.add_zero, Nat.reduceLT, Nat.zero_mul] <;> rfl))))
          refine vr_nil (aw_then ?_)
          refine AWp.seq ?_
          refine aw_drawsL [0, 1, 3, 7, 15, 31, 63, 127, 15, 15, 783, 1807, 3855, 8191, 16383, 32767, 65535, 131071, 262143, 524287, 65535, 65535, 3211263, 7405567, 15794175, 33554431, 67108863, 134217727] [] hS mixed (by kernel_rfl) (by kernel_rfl) ?_
          repeat (first | (refine vd0f (by decide) (by ((repeat (first | rewrite [hpL_t rfl] | rewrite [hpL_f rfl])); (simp only [hpL, app_cons, app_nil] <;> rfl))) (by (simp only [push_cast, ↓reduceIte, Nat.reduceEqDiff, Nat.reduceAdd, Nat.reduceLeDiff, Int.reduceLE, Int.reduceLT, Int.reduceAdd, Int.reduceSub, Int.reduceNeg, Int.reduceBEq, Int.reduceBNe, Int.reduceEq, Int.reduceGT, Int.reduceGE, Int.reduceMul, Int.reduceToNat, Nat.reduceMul, reduceCtorEq, g0, g1, g5, g11, h6, hrow, q1, q2, q3, q4, q5, q6, sf, w1, h39, h45, r1, u0, Int.toNat_natCast, Nat.add_zero, Nat.reduceLT, Nat.zero_mul] <;> rfl)) ?_) | (refine vd0q rfl (by decide) rfl (by ((repeat (first | rewrite [hpL_t rfl] | rewrite [hpL_f rfl])); (simp only [hpL, app_cons, app_nil] <;> rfl))) (by (simp only [push_cast, ↓reduceIte, Nat.reduceEqDiff, Nat.reduceAdd, Nat.reduceLeDiff, Int.reduceLE, Int.reduceLT, Int.reduceAdd, Int.reduceSub, Int.reduceNeg, Int.reduceBEq, Int.reduceBNe, Int.reduceEq, Int.reduceGT, Int.reduceGE, Int.reduceMul, Int.reduceToNat, Nat.reduceMul, reduceCtorEq, g0, g1, g5, g11, h6, hrow, q1, q2, q3, q4, q5, q6, sf, w1, h39, h45, r1, u0, Int.toNat_natCast, Nat.add_zero, Nat.reduceLT, Nat.zero_mul] <;> rfl)) (by simp) (by omega) (by intro u hu; simp only [List.mem_cons, List.not_mem_nil, or_false] at hu; rcases hu with rfl | rfl | rfl <;> simp only <;> omega) ?_) | (refine vd0w rfl (by decide) (by ((repeat (first | rewrite [hpL_t rfl] | rewrite [hpL_f rfl])); (simp only [hpL, app_cons, app_nil] <;> rfl))) (by (simp only [push_cast, ↓reduceIte, Nat.reduceEqDiff, Nat.reduceAdd, Nat.reduceLeDiff, Int.reduceLE, Int.reduceLT, Int.reduceAdd, Int.reduceSub, Int.reduceNeg, Int.reduceBEq, Int.reduceBNe, Int.reduceEq, Int.reduceGT, Int.reduceGE, Int.reduceMul, Int.reduceToNat, Nat.reduceMul, reduceCtorEq, g0, g1, g5, g11, h6, hrow, q1, q2, q3, q4, q5, q6, sf, w1, h39, h45, r1, u0, Int.toNat_natCast, Nat.add_zero, Nat.reduceLT, Nat.zero_mul] <;> rfl)) (by omega) (by intro u hu; simp only [List.mem_cons, List.not_mem_nil, or_false] at hu; rcases hu with rfl | rfl | rfl <;> simp only <;> omega) ?_) | (apply vd0; (focus rfl)) | (apply vd0r; (focus rfl); (focus decide); (focus rfl)) | (apply vd0p; (focus decide)) | apply vd4 | apply b_tt | apply b_ff | apply b_tf | apply b_ft | apply b_no | exact isD.mk rfl | ((repeat (first | rewrite [hpL_t rfl] | rewrite [hpL_f rfl])); (simp only [hpL, app_cons, app_nil] <;> rfl)) | (apply eqG; (simp only [push_cast, ↓reduceIte, Nat.reduceEqDiff, Nat.reduceAdd, Nat.reduceLeDiff, Int.reduceLE, Int.reduceLT, Int.reduceAdd, Int.reduceSub, Int.reduceNeg, Int.reduceBEq, Int.reduceBNe, Int.reduceEq, Int.reduceGT, Int.reduceGE, Int.reduceMul, Int.reduceToNat, Nat.reduceMul, reduceCtorEq, g0, g1, g5, g11, h6, hrow, q1, q2, q3, q4, q5, q6, sf, w1, h39, h45, r1, u0, Int.toNat_natCast, Nat.add_zero, Nat.reduceLT, Nat.zero_mul] <;> rfl)))
          (refine vd_nil (by simp only [hpL, app_cons, app_nil, if_true] <;> rfl) ?_)
          refine aw_then ?_
          refine aw_false (by (simp only [push_cast, ↓reduceIte, Nat.reduceEqDiff, Nat.reduceAdd, Nat.reduceLeDiff, Int.reduceLE, Int.reduceLT, Int.reduceAdd, Int.reduceSub, Int.reduceNeg, Int.reduceBEq, Int.reduceBNe, Int.reduceEq, Int.reduceGT, Int.reduceGE, Int.reduceMul, Int.reduceToNat, Nat.reduceMul, reduceCtorEq, g0, g1, g5, g11, h6, hrow, q1, q2, q3, q4, q5, q6, sf, w1, h39, h45, r1, u0, Int.toNat_natCast, Nat.add_zero, Nat.reduceLT, Nat.zero_mul] <;> rfl)) (AWp.skip (aw_in (aw_then ?_)))
          (refine aw_regionL hS (by kernel_rfl) ?_; repeat (first | apply vr0u | apply vr4 | apply b_tt | apply b_ff | apply b_tf | apply b_ft | apply b_no | exact isD.mk rfl | (apply eqG; (simp only [push_cast, ↓reduceIte, Nat.reduceEqDiff, Nat.reduceAdd, Nat.reduceLeDiff, Int.reduceLE, Int.reduceLT, Int.reduceAdd, Int.reduceSub, Int.reduceNeg, Int.reduceBEq, Int.reduceBNe, Int.reduceEq, Int.reduceGT, Int.reduceGE, Int.reduceMul, Int.reduceToNat, Nat.reduceMul, reduceCtorEq, g0, g1, g5, g11, h6, hrow, q1, q2, q3, q4, q5, q6, sf, w1, h39, h45, r1, u0, Int.toNat_natCast, Nat.add_zero, Nat.reduceLT, Nat.zero_mul] <;> rfl))))
          exact vr_nil (aw_then ⟨l.length - (i + 1), by omega, i + 1, rfl, hi, by (simp only [push_cast, ↓reduceIte, Nat.reduceEqDiff, Nat.reduceAdd, Nat.reduceLeDiff, Int.reduceLE, Int.reduceLT, Int.reduceAdd, Int.reduceSub, Int.reduceNeg, Int.reduceBEq, Int.reduceBNe, Int.reduceEq, Int.reduceGT, Int.reduceGE, Int.reduceMul, Int.reduceToNat, Nat.reduceMul, reduceCtorEq, g0, g1, g5, g11, h6, hrow, q1, q2, q3, q4, q5, q6, sf, w1, h39, h45, r1, u0, Int.toNat_natCast, Nat.add_zero, Nat.reduceLT, Nat.zero_mul] <;> rfl), by (simp only [push_cast, ↓reduceIte, Nat.reduceEqDiff, Nat.reduceAdd, Nat.reduceLeDiff, Int.reduceLE, Int.reduceLT, Int.reduceAdd, Int.reduceSub, Int.reduceNeg, Int.reduceBEq, Int.reduceBNe, Int.reduceEq, Int.reduceGT, Int.reduceGE, Int.reduceMul, Int.reduceToNat, Nat.reduceMul, reduceCtorEq, g0, g1, g5, g11, h6, hrow, q1, q2, q3, q4, q5, q6, sf, w1, h39, h45, r1, u0, Int.toNat_natCast, Nat.add_zero, Nat.reduceLT, Nat.zero_mul] <;> rfl), by (simp only [push_cast, ↓reduceIte, Nat.reduceEqDiff, Nat.reduceAdd, Nat.reduceLeDiff, Int.reduceLE, Int.reduceLT, Int.reduceAdd, Int.reduceSub, Int.reduceNeg, Int.reduceBEq, Int.reduceBNe, Int.reduceEq, Int.reduceGT, Int.reduceGE, Int.reduceMul, Int.reduceToNat, Nat.reduceMul, reduceCtorEq, g0, g1, g5, g11, h6, hrow, q1, q2, q3, q4, q5, q6, sf, w1, h39, h45, r1, u0, Int.toNat_natCast, Nat.add_zero, Nat.reduceLT, Nat.zero_mul] <;> rfl), .inr ⟨hne, j, hj1, by omega, by (simp only [push_cast, ↓reduceIte, Nat.reduceEqDiff, Nat.reduceAdd, Nat.reduceLeDiff, Int.reduceLE, Int.reduceLT, Int.reduceAdd, Int.reduceSub, Int.reduceNeg, Int.reduceBEq, Int.reduceBNe, Int.reduceEq, Int.reduceGT, Int.reduceGE, Int.reduceMul, Int.reduceToNat, Nat.reduceMul, reduceCtorEq, g0, g1, g5, g11, h6, hrow, q1, q2, q3, q4, q5, q6, sf, w1, h39, h45, r1, u0, Int.toNat_natCast, Nat.add_zero, Nat.reduceLT, Nat.zero_mul] <;> rfl), by (simp only [push_cast, ↓reduceIte, Nat.reduceEqDiff, Nat.reduceAdd, Nat.reduceLeDiff, Int.reduceLE, Int.reduceLT, Int.reduceAdd, Int.reduceSub, Int.reduceNeg, Int.reduceBEq, Int.reduceBNe, Int.reduceEq, Int.reduceGT, Int.reduceGE, Int.reduceMul, Int.reduceToNat, Nat.reduceMul, reduceCtorEq, g0, g1, g5, g11, h6, hrow, q1, q2, q3, q4, q5, q6, sf, w1, h39, h45, r1, u0, Int.toNat_natCast, Nat.add_zero, Nat.reduceLT, Nat.zero_mul] <;> rfl)⟩, by (simp only [push_cast, ↓reduceIte, Nat.reduceEqDiff, Nat.reduceAdd, Nat.reduceLeDiff, Int.reduceLE, Int.reduceLT, Int.reduceAdd, Int.reduceSub, Int.reduceNeg, Int.reduceBEq, Int.reduceBNe, Int.reduceEq, Int.reduceGT, Int.reduceGE, Int.reduceMul, Int.reduceToNat, Nat.reduceMul, reduceCtorEq, g0, g1, g5, g11, h6, hrow, q1, q2, q3, q4, q5, q6, sf, w1, h39, h45, r1, u0, Int.toNat_natCast, Nat.add_zero, Nat.reduceLT, Nat.zero_mul] <;> rfl), by omega, by repeat (first | exact hk | refine keepU (by omega) ?_)⟩)
      · have q1 : ((i : Int) < (l.length : Int)) = False := by simp; omega
        refine AWp.seq ?_
        refine AWp.seq ?_
        (refine aw_regionL hS (by kernel_rfl) ?_; repeat (first | apply vr0u | apply vr4 | apply b_tt | apply b_ff | apply b_tf | apply b_ft | apply b_no | exact isD.mk rfl | (apply eqG; (simp only [push_cast, ↓reduceIte, Nat.reduceEqDiff, Nat.reduceAdd, Nat.reduceLeDiff, Int.reduceLE, Int.reduceLT, Int.reduceAdd, Int.reduceSub, Int.reduceNeg, Int.reduceBEq, Int.reduceBNe, Int.reduceEq, Int.reduceGT, Int.reduceGE, Int.reduceMul, Int.reduceToNat, Nat.reduceMul, reduceCtorEq, g0, g1, g5, g11, q1] <;> rfl))))
        refine vr_nil (aw_then ?_)
        refine aw_false (by (simp only [push_cast, ↓reduceIte, Nat.reduceEqDiff, Nat.reduceAdd, Nat.reduceLeDiff, Int.reduceLE, Int.reduceLT, Int.reduceAdd, Int.reduceSub, Int.reduceNeg, Int.reduceBEq, Int.reduceBNe, Int.reduceEq, Int.reduceGT, Int.reduceGE, Int.reduceMul, Int.reduceToNat, Nat.reduceMul, reduceCtorEq, g0, g1, g5, g11, q1] <;> rfl)) (AWp.exit (aw_thru (aw_thru (aw_exit (aw_then ?_)))))
        exact ⟨by (simp only [push_cast, ↓reduceIte, Nat.reduceEqDiff, Nat.reduceAdd, Nat.reduceLeDiff, Int.reduceLE, Int.reduceLT, Int.reduceAdd, Int.reduceSub, Int.reduceNeg, Int.reduceBEq, Int.reduceBNe, Int.reduceEq, Int.reduceGT, Int.reduceGE, Int.reduceMul, Int.reduceToNat, Nat.reduceMul, reduceCtorEq, g0, g1, g5, g11, q1] <;> rfl), by (simp only [push_cast, ↓reduceIte, Nat.reduceEqDiff, Nat.reduceAdd, Nat.reduceLeDiff, Int.reduceLE, Int.reduceLT, Int.reduceAdd, Int.reduceSub, Int.reduceNeg, Int.reduceBEq, Int.reduceBNe, Int.reduceEq, Int.reduceGT, Int.reduceGE, Int.reduceMul, Int.reduceToNat, Nat.reduceMul, reduceCtorEq, g0, g1, g5, g11, q1] <;> rfl), hnn, hk⟩
  rintro t3 h3 n3 - ⟨e1, e5, hn3, hk3⟩
  by_cases hA0 : A.length = 0
  · have q1 : ((A.length : Int) == 0) = true := by rw [beq_iff_eq]; omega
    refine AWp.seq ?_
    refine AWp.seq ?_
    (refine aw_regionL hS (by kernel_rfl) ?_; repeat (first | apply vr0u | apply vr4 | apply b_tt | apply b_ff | apply b_tf | apply b_ft | apply b_no | exact isD.mk rfl | (apply eqG; (simp only [push_cast, ↓reduceIte, Nat.reduceEqDiff, Nat.reduceAdd, Nat.reduceLeDiff, Int.reduceLE, Int.reduceLT, Int.reduceAdd, Int.reduceSub, Int.reduceNeg, Int.reduceBEq, Int.reduceBNe, Int.reduceEq, Int.reduceGT, Int.reduceGE, Int.reduceMul, Int.reduceToNat, Nat.reduceMul, reduceCtorEq, e1, e5, q1, at44] <;> rfl))))
    refine vr_nil (aw_then ?_)
    refine aw_true (by (simp only [push_cast, ↓reduceIte, Nat.reduceEqDiff, Nat.reduceAdd, Nat.reduceLeDiff, Int.reduceLE, Int.reduceLT, Int.reduceAdd, Int.reduceSub, Int.reduceNeg, Int.reduceBEq, Int.reduceBNe, Int.reduceEq, Int.reduceGT, Int.reduceGE, Int.reduceMul, Int.reduceToNat, Nat.reduceMul, reduceCtorEq, e1, e5, q1, at44] <;> rfl)) ?_
    refine AWp.seq ?_
    (refine aw_regionL hS (by kernel_rfl) ?_; repeat (first | apply vr0u | apply vr4 | apply b_tt | apply b_ff | apply b_tf | apply b_ft | apply b_no | exact isD.mk rfl | (apply eqG; (simp only [push_cast, ↓reduceIte, Nat.reduceEqDiff, Nat.reduceAdd, Nat.reduceLeDiff, Int.reduceLE, Int.reduceLT, Int.reduceAdd, Int.reduceSub, Int.reduceNeg, Int.reduceBEq, Int.reduceBNe, Int.reduceEq, Int.reduceGT, Int.reduceGE, Int.reduceMul, Int.reduceToNat, Nat.reduceMul, reduceCtorEq, e1, e5, q1, at44] <;> rfl))))
    refine vr_nil (aw_then ?_)
    refine AWp.ret ?_
    exact Out.pure1 (.inr rfl) rfl (by (simp only [push_cast, ↓reduceIte, Nat.reduceEqDiff, Nat.reduceAdd, Nat.reduceLeDiff, Int.reduceLE, Int.reduceLT, Int.reduceAdd, Int.reduceSub, Int.reduceNeg, Int.reduceBEq, Int.reduceBNe, Int.reduceEq, Int.reduceGT, Int.reduceGE, Int.reduceMul, Int.reduceToNat, Nat.reduceMul, reduceCtorEq, e1, e5, q1, at44] <;> rfl)) rfl trivial hk3
  have q1 : ((A.length : Int) == 0) = false := by rw [beq_eq_false_iff_ne]; omega
  obtain ⟨k, hkv, hkl⟩ := rem_u' k0 (A.length : Int) (by omega) (by omega)
  have hkA : k < A.length := by omega
  have w2 : IntKind.wrap .u64 (A.length : Int) = (A.length : Int) := by rw [IntKind.wrap_u64]; omega
  have q2 : ((A.length : Int) = 0) = False := by simp only [eq_iff_iff, iff_false]; omega
  have q3 : (0 ≤ (k : Int) ∧ (k : Int) < (A.length : Int)) = True := by simp only [eq_iff_iff, iff_true]; omega
  have q4 := txs_get hkA
  have q5 := txs_in hkA
  obtain ⟨hup, hfl⟩ := fresh_back hW (List.getElem?_eq_getElem hkA) (by omega)
  have h42 : ∀ j i h, h j = some (.cells [.i .i64 0, .i .i64 0, .i .i64 0, .sl 2 i 0 1]) → h i = some (.cells (txC A[k])) → P18 42 [.ro zA (txs A) A.length, .sl 4 j 0 1, .i .i64 (A.length : Int)] h = .wide fun m => (freshR A [⟨0, 0, 0, false, [A[k]]⟩] (A.length : Int), [(j, none), (i, none)], m) :=
    fun j i h hj hi => at42o hokA.1 j i h hj hi
  rw [show freshR A [⟨0, 0, 0, false, [A[k]]⟩] (A.length : Int) = .ro (decide (freshL A [⟨0, 0, 0, false, [A[k]]⟩] (A.length : Int) = [])) (ints (freshL A [⟨0, 0, 0, false, [A[k]]⟩] (A.length : Int))) (freshL A [⟨0, 0, 0, false, [A[k]]⟩] (A.length : Int)).length from rfl] at h42
  generalize freshL A [⟨0, 0, 0, false, [A[k]]⟩] (A.length : Int) = F at *
  generalize decide (F = []) = zF at *
  generalize hxk : A[k] = xk at *
  have h42' := fun j h => h42 j n3 h
  have w3 : IntKind.wrap .i64 ((A.length : Int) - 1) = (A.length : Int) - 1 := IntWalk.i64_in _ (by omega)
  have r1 : rep 1 [AV.i .i64 0, AV.ro true [] 0] = [AV.i .i64 0, AV.ro true [] 0] := rfl
  have r2 : ∀ a b : AV, splice [a, b] 0 (txC xk) = txC xk := fun a b => rfl
  have r3 : rep 1 [AV.i .i64 0, AV.i .i64 0, AV.i .i64 0, AV.ro true [] 0] = [AV.i .i64 0, AV.i .i64 0, AV.i .i64 0, AV.ro true [] 0] := rfl
  have r4 : ∀ a b c d x y u v : AV, splice [a, b, c, d] 0 [x, y, u, v] = [x, y, u, v] := fun a b c d x y u v => rfl
  have u0 : ∀ (g : Heap) (r : Option Row), upd g (n3 + 1) r n3 = g n3 := fun g r => upd_ne _ _ (by omega)
  refine AWp.seq ?_
  refine AWp.seq ?_
  (refine aw_regionL hS (by kernel_rfl) ?_; repeat (first | apply vr0u | apply vr4 | apply b_tt | apply b_ff | apply b_tf | apply b_ft | apply b_no | exact isD.mk rfl | (apply eqG; (simp only [push_cast, ↓reduceIte, Nat.reduceEqDiff, Nat.reduceAdd, Nat.reduceLeDiff, Int.reduceLE, Int.reduceLT, Int.reduceAdd, Int.reduceSub, Int.reduceNeg, Int.reduceBEq, Int.reduceBNe, Int.reduceEq, Int.reduceGT, Int.reduceGE, Int.reduceMul, Int.reduceToNat, Nat.reduceMul, reduceCtorEq, e1, e5, q1, q2, q3, q4, q5, w2, w3, hkv, h42', r1, r2, r3, r4, u0, ← hfl, Int.toNat_natCast, Nat.reduceLT] <;> rfl))))
  refine vr_nil (aw_then ?_)
  refine aw_false (by (simp only [push_cast, ↓reduceIte, Nat.reduceEqDiff, Nat.reduceAdd, Nat.reduceLeDiff, Int.reduceLE, Int.reduceLT, Int.reduceAdd, Int.reduceSub, Int.reduceNeg, Int.reduceBEq, Int.reduceBNe, Int.reduceEq, Int.reduceGT, Int.reduceGE, Int.reduceMul, Int.reduceToNat, Nat.reduceMul, reduceCtorEq, e1, e5, q1, q2, q3, q4, q5, w2, w3, hkv, h42', r1, r2, r3, r4, u0, ← hfl, Int.toNat_natCast, Nat.reduceLT] <;> rfl)) (AWp.skip (aw_then ?_))
  refine AWp.seq ?_
  (refine aw_regionL hS (by kernel_rfl) ?_; repeat (first | apply vr0u | apply vr4 | apply b_tt | apply b_ff | apply b_tf | apply b_ft | apply b_no | exact isD.mk rfl | (apply eqG; (simp only [push_cast, ↓reduceIte, Nat.reduceEqDiff, Nat.reduceAdd, Nat.reduceLeDiff, Int.reduceLE, Int.reduceLT, Int.reduceAdd, Int.reduceSub, Int.reduceNeg, Int.reduceBEq, Int.reduceBNe, Int.reduceEq, Int.reduceGT, Int.reduceGE, Int.reduceMul, Int.reduceToNat, Nat.reduceMul, reduceCtorEq, e1, e5, q1, q2, q3, q4, q5, w2, w3, hkv, h42', r1, r2, r3, r4, u0, ← hfl, Int.toNat_natCast, Nat.reduceLT] <;> rfl))))
  refine vr_nil (aw_then ?_)
  refine AWp.seq ?_
  (refine aw_regionL hS (by kernel_rfl) ?_; repeat (first | apply vr0u | apply vr4 | apply b_tt | apply b_ff | apply b_tf | apply b_ft | apply b_no | exact isD.mk rfl | (apply eqG; (simp only [push_cast, ↓reduceIte, Nat.reduceEqDiff, Nat.reduceAdd, Nat.reduceLeDiff, Int.reduceLE, Int.reduceLT, Int.reduceAdd, Int.reduceSub, Int.reduceNeg, Int.reduceBEq, Int.reduceBNe, Int.reduceEq, Int.reduceGT, Int.reduceGE, Int.reduceMul, Int.reduceToNat, Nat.reduceMul, reduceCtorEq, e1, e5, q1, q2, q3, q4, q5, w2, w3, hkv, h42', r1, r2, r3, r4, u0, ← hfl, Int.toNat_natCast, Nat.reduceLT] <;> rfl))))
  refine vr_nil (aw_then ?_)
  refine AWp.seq ?_
  refine AWp.seq ?_
  (refine aw_regionL hS (by kernel_rfl) ?_; repeat (first | apply vr0u | apply vr4 | apply b_tt | apply b_ff | apply b_tf | apply b_ft | apply b_no | exact isD.mk rfl | (apply eqG; (simp only [push_cast, ↓reduceIte, Nat.reduceEqDiff, Nat.reduceAdd, Nat.reduceLeDiff, Int.reduceLE, Int.reduceLT, Int.reduceAdd, Int.reduceSub, Int.reduceNeg, Int.reduceBEq, Int.reduceBNe, Int.reduceEq, Int.reduceGT, Int.reduceGE, Int.reduceMul, Int.reduceToNat, Nat.reduceMul, reduceCtorEq, e1, e5, q1, q2, q3, q4, q5, w2, w3, hkv, h42', r1, r2, r3, r4, u0, ← hfl, Int.toNat_natCast, Nat.reduceLT] <;> rfl))))
  refine vr_nil (aw_then ?_)
  refine aw_false (by (simp only [push_cast, ↓reduceIte, Nat.reduceEqDiff, Nat.reduceAdd, Nat.reduceLeDiff, Int.reduceLE, Int.reduceLT, Int.reduceAdd, Int.reduceSub, Int.reduceNeg, Int.reduceBEq, Int.reduceBNe, Int.reduceEq, Int.reduceGT, Int.reduceGE, Int.reduceMul, Int.reduceToNat, Nat.reduceMul, reduceCtorEq, e1, e5, q1, q2, q3, q4, q5, w2, w3, hkv, h42', r1, r2, r3, r4, u0, ← hfl, Int.toNat_natCast, Nat.reduceLT] <;> rfl)) (AWp.skip (aw_then ?_))
  refine AWp.cut (fun t' h' n' => ∀ x r, x < n → h x = some r → h' x = some r) ?_ ?_
  · refine AWp.seq ?_
    (refine aw_regionL hS (by kernel_rfl) ?_; repeat (first | apply vr0u | apply vr4 | apply b_tt | apply b_ff | apply b_tf | apply b_ft | apply b_no | exact isD.mk rfl | (apply eqG; (simp only [push_cast, ↓reduceIte, Nat.reduceEqDiff, Nat.reduceAdd, Nat.reduceLeDiff, Int.reduceLE, Int.reduceLT, Int.reduceAdd, Int.reduceSub, Int.reduceNeg, Int.reduceBEq, Int.reduceBNe, Int.reduceEq, Int.reduceGT, Int.reduceGE, Int.reduceMul, Int.reduceToNat, Nat.reduceMul, reduceCtorEq, e1, e5, q1, q2, q3, q4, q5, w2, w3, hkv, h42', r1, r2, r3, r4, u0, ← hfl, Int.toNat_natCast, Nat.reduceLT] <;> rfl))))
    refine vr_nil (aw_then ?_)
    refine AWp.block ?_
    have hF60 : F.length ≤ 60 := by
      have : (F.length : Int) ≤ 60 := by rw [hfl]; split <;> omega
      omega
    refine AWp.loop (fun m t' h' n' => ∃ i : Nat, m = F.length - i ∧ i ≤ F.length ∧ t' 1 = .i .i64 (k : Int) ∧ t' 13 = .ro zF (ints F) F.length ∧ t' 14 = .i .i64 (i : Int) ∧ ∀ x r, x < n → h x = some r → h' x = some r) F.length ?_ ?_
    · exact ⟨0, rfl, Nat.zero_le _, by (simp only [push_cast, ↓reduceIte, Nat.reduceEqDiff, Nat.reduceAdd, Nat.reduceLeDiff, Int.reduceLE, Int.reduceLT, Int.reduceAdd, Int.reduceSub, Int.reduceNeg, Int.reduceBEq, Int.reduceBNe, Int.reduceEq, Int.reduceGT, Int.reduceGE, Int.reduceMul, Int.reduceToNat, Nat.reduceMul, reduceCtorEq, e1, e5, q1, q2, q3, q4, q5, w2, w3, hkv, h42', r1, r2, r3, r4, u0, ← hfl, Int.toNat_natCast, Nat.reduceLT] <;> rfl), by (simp only [push_cast, ↓reduceIte, Nat.reduceEqDiff, Nat.reduceAdd, Nat.reduceLeDiff, Int.reduceLE, Int.reduceLT, Int.reduceAdd, Int.reduceSub, Int.reduceNeg, Int.reduceBEq, Int.reduceBNe, Int.reduceEq, Int.reduceGT, Int.reduceGE, Int.reduceMul, Int.reduceToNat, Nat.reduceMul, reduceCtorEq, e1, e5, q1, q2, q3, q4, q5, w2, w3, hkv, h42', r1, r2, r3, r4, u0, ← hfl, Int.toNat_natCast, Nat.reduceLT] <;> rfl), by (simp only [push_cast, ↓reduceIte, Nat.reduceEqDiff, Nat.reduceAdd, Nat.reduceLeDiff, Int.reduceLE, Int.reduceLT, Int.reduceAdd, Int.reduceSub, Int.reduceNeg, Int.reduceBEq, Int.reduceBNe, Int.reduceEq, Int.reduceGT, Int.reduceGE, Int.reduceMul, Int.reduceToNat, Nat.reduceMul, reduceCtorEq, e1, e5, q1, q2, q3, q4, q5, w2, w3, hkv, h42', r1, r2, r3, r4, u0, ← hfl, Int.toNat_natCast, Nat.reduceLT] <;> rfl), by repeat (first | exact hk3 | refine keepU (by omega) ?_)⟩
    · rintro m t h' n' - ⟨i, rfl, hil, g1, g13, g14, hk⟩
      by_cases hi : i < F.length
      · have q1 : ((i : Int) < (F.length : Int)) = True := by simp [hi]
        have q2 : (0 ≤ (i : Int) ∧ (i : Int) < (F.length : Int)) = True := by simp [hi]
        have q3 := ints_get hi
        have q4 : (F[i] == (k : Int)) = false := by
          have := hup.ne F[i] (List.getElem_mem hi)
          simpa using this
        have w1 : IntKind.wrap .i64 ((i : Int) + 1) = (i : Int) + 1 := IntWalk.i64_in _ (by omega)
        cases i with
        | zero =>
          have q3 : (ints F)[0]? = some (.i .i64 F[0]) := q3
          have g14 : t 14 = .i .i64 0 := g14
          have q1 : ((0 : Int) < (F.length : Int)) = True := by simp; omega
          have w1 : IntKind.wrap .i64 ((0 : Int) + 1) = 1 := by decide
          refine AWp.seq ?_
          refine AWp.seq ?_
          (refine aw_regionL hS (by kernel_rfl) ?_; repeat (first | apply vr0u | apply vr4 | apply b_tt | apply b_ff | apply b_tf | apply b_ft | apply b_no | exact isD.mk rfl | (apply eqG; (simp only [push_cast, ↓reduceIte, Nat.reduceEqDiff, Nat.reduceAdd, Nat.reduceLeDiff, Int.reduceLE, Int.reduceLT, Int.reduceAdd, Int.reduceSub, Int.reduceNeg, Int.reduceBEq, Int.reduceBNe, Int.reduceEq, Int.reduceGT, Int.reduceGE, Int.reduceMul, Int.reduceToNat, Nat.reduceMul, reduceCtorEq, g1, g13, g14, q1, q3, q4, w1, Nat.zero_mul] <;> rfl))))
          refine vr_nil (aw_then ?_)
          refine aw_true (by (simp only [push_cast, ↓reduceIte, Nat.reduceEqDiff, Nat.reduceAdd, Nat.reduceLeDiff, Int.reduceLE, Int.reduceLT, Int.reduceAdd, Int.reduceSub, Int.reduceNeg, Int.reduceBEq, Int.reduceBNe, Int.reduceEq, Int.reduceGT, Int.reduceGE, Int.reduceMul, Int.reduceToNat, Nat.reduceMul, reduceCtorEq, g1, g13, g14, q1, q3, q4, w1, Nat.zero_mul] <;> rfl)) (AWp.skip (aw_then ?_))
          refine AWp.seq ?_
          refine AWp.block ?_
          refine AWp.seq ?_
          refine aw_drawsL [0, 0, 3, 7, 0, 31, 63, 127, 255, 511, 1023, 1023, 4095, 8191, 1023, 1023, 33791, 115711, 246783, 524287, 1048575, 2097151] [] hS mixed (by kernel_rfl) (by kernel_rfl) ?_
          repeat (first | (refine vd0f (by decide) (by ((repeat (first | rewrite [hpL_t rfl] | rewrite [hpL_f rfl])); (simp only [hpL, app_cons, app_nil] <;> rfl))) (by (simp only [push_cast, ↓reduceIte, Nat.reduceEqDiff, Nat.reduceAdd, Nat.reduceLeDiff, Int.reduceLE, Int.reduceLT, Int.reduceAdd, Int.reduceSub, Int.reduceNeg, Int.reduceBEq, Int.reduceBNe, Int.reduceEq, Int.reduceGT, Int.reduceGE, Int.reduceMul, Int.reduceToNat, Nat.reduceMul, reduceCtorEq, g1, g13, g14, q1, q3, q4, w1, Nat.zero_mul] <;> rfl)) ?_) | (refine vd0q rfl (by decide) rfl (by ((repeat (first | rewrite [hpL_t rfl] | rewrite [hpL_f rfl])); (simp only [hpL, app_cons, app_nil] <;> rfl))) (by (simp only [push_cast, ↓reduceIte, Nat.reduceEqDiff, Nat.reduceAdd, Nat.reduceLeDiff, Int.reduceLE, Int.reduceLT, Int.reduceAdd, Int.reduceSub, Int.reduceNeg, Int.reduceBEq, Int.reduceBNe, Int.reduceEq, Int.reduceGT, Int.reduceGE, Int.reduceMul, Int.reduceToNat, Nat.reduceMul, reduceCtorEq, g1, g13, g14, q1, q3, q4, w1, Nat.zero_mul] <;> rfl)) (by simp) (by omega) (by intro u hu; simp only [List.mem_cons, List.not_mem_nil, or_false] at hu; rcases hu with rfl | rfl | rfl <;> simp only <;> omega) ?_) | (refine vd0w rfl (by decide) (by ((repeat (first | rewrite [hpL_t rfl] | rewrite [hpL_f rfl])); (simp only [hpL, app_cons, app_nil] <;> rfl))) (by (simp only [push_cast, ↓reduceIte, Nat.reduceEqDiff, Nat.reduceAdd, Nat.reduceLeDiff, Int.reduceLE, Int.reduceLT, Int.reduceAdd, Int.reduceSub, Int.reduceNeg, Int.reduceBEq, Int.reduceBNe, Int.reduceEq, Int.reduceGT, Int.reduceGE, Int.reduceMul, Int.reduceToNat, Nat.reduceMul, reduceCtorEq, g1, g13, g14, q1, q3, q4, w1, Nat.zero_mul] <;> rfl)) (by omega) (by intro u hu; simp only [List.mem_cons, List.not_mem_nil, or_false] at hu; rcases hu with rfl | rfl | rfl <;> simp only <;> omega) ?_) | (apply vd0; (focus rfl)) | (apply vd0r; (focus rfl); (focus decide); (focus rfl)) | (apply vd0p; (focus decide)) | apply vd4 | apply b_tt | apply b_ff | apply b_tf | apply b_ft | apply b_no | exact isD.mk rfl | ((repeat (first | rewrite [hpL_t rfl] | rewrite [hpL_f rfl])); (simp only [hpL, app_cons, app_nil] <;> rfl)) | (apply eqG; (simp only [push_cast, ↓reduceIte, Nat.reduceEqDiff, Nat.reduceAdd, Nat.reduceLeDiff, Int.reduceLE, Int.reduceLT, Int.reduceAdd, Int.reduceSub, Int.reduceNeg, Int.reduceBEq, Int.reduceBNe, Int.reduceEq, Int.reduceGT, Int.reduceGE, Int.reduceMul, Int.reduceToNat, Nat.reduceMul, reduceCtorEq, g1, g13, g14, q1, q3, q4, w1, Nat.zero_mul] <;> rfl)))
          (refine vd_nil (by simp only [hpL, app_cons, app_nil, if_true] <;> rfl) ?_)
          refine aw_then ?_
          refine aw_false (by (simp only [push_cast, ↓reduceIte, Nat.reduceEqDiff, Nat.reduceAdd, Nat.reduceLeDiff, Int.reduceLE, Int.reduceLT, Int.reduceAdd, Int.reduceSub, Int.reduceNeg, Int.reduceBEq, Int.reduceBNe, Int.reduceEq, Int.reduceGT, Int.reduceGE, Int.reduceMul, Int.reduceToNat, Nat.reduceMul, reduceCtorEq, g1, g13, g14, q1, q3, q4, w1, Nat.zero_mul] <;> rfl)) (AWp.skip (aw_in (aw_then ?_)))
          (refine aw_regionL hS (by kernel_rfl) ?_; repeat (first | apply vr0u | apply vr4 | apply b_tt | apply b_ff | apply b_tf | apply b_ft | apply b_no | exact isD.mk rfl | (apply eqG; (simp only [push_cast, ↓reduceIte, Nat.reduceEqDiff, Nat.reduceAdd, Nat.reduceLeDiff, Int.reduceLE, Int.reduceLT, Int.reduceAdd, Int.reduceSub, Int.reduceNeg, Int.reduceBEq, Int.reduceBNe, Int.reduceEq, Int.reduceGT, Int.reduceGE, Int.reduceMul, Int.reduceToNat, Nat.reduceMul, reduceCtorEq, g1, g13, g14, q1, q3, q4, w1, Nat.zero_mul] <;> rfl))))
          exact vr_nil (aw_then ⟨F.length - 1, by omega, 1, rfl, hi, by (simp only [push_cast, ↓reduceIte, Nat.reduceEqDiff, Nat.reduceAdd, Nat.reduceLeDiff, Int.reduceLE, Int.reduceLT, Int.reduceAdd, Int.reduceSub, Int.reduceNeg, Int.reduceBEq, Int.reduceBNe, Int.reduceEq, Int.reduceGT, Int.reduceGE, Int.reduceMul, Int.reduceToNat, Nat.reduceMul, reduceCtorEq, g1, g13, g14, q1, q3, q4, w1, Nat.zero_mul] <;> rfl), by (simp only [push_cast, ↓reduceIte, Nat.reduceEqDiff, Nat.reduceAdd, Nat.reduceLeDiff, Int.reduceLE, Int.reduceLT, Int.reduceAdd, Int.reduceSub, Int.reduceNeg, Int.reduceBEq, Int.reduceBNe, Int.reduceEq, Int.reduceGT, Int.reduceGE, Int.reduceMul, Int.reduceToNat, Nat.reduceMul, reduceCtorEq, g1, g13, g14, q1, q3, q4, w1, Nat.zero_mul] <;> rfl), by (simp only [push_cast, ↓reduceIte, Nat.reduceEqDiff, Nat.reduceAdd, Nat.reduceLeDiff, Int.reduceLE, Int.reduceLT, Int.reduceAdd, Int.reduceSub, Int.reduceNeg, Int.reduceBEq, Int.reduceBNe, Int.reduceEq, Int.reduceGT, Int.reduceGE, Int.reduceMul, Int.reduceToNat, Nat.reduceMul, reduceCtorEq, g1, g13, g14, q1, q3, q4, w1, Nat.zero_mul] <;> rfl), hk⟩)
        | succ i =>
          have hi' : i < F.length := Nat.lt_of_succ_lt hi
          have hinc := hup.inc i F[i] F[i + 1] (List.getElem?_eq_getElem hi') (List.getElem?_eq_getElem hi)
          have q5 : (((i + 1 : Nat) : Int) > 0) = True := by simp only [eq_iff_iff, iff_true]; omega
          have q6 : IntKind.wrap .i64 (((i + 1 : Nat) : Int) - 1) = (i : Int) := by rw [IntWalk.i64_in _ (by omega)]; omega
          have q7 := ints_get hi'
          have q8 : (F[i + 1] ≤ F[i]) = False := by simp only [eq_iff_iff, iff_false]; omega
          have q9 : (0 ≤ (i : Int) ∧ (i : Int) < (F.length : Int)) = True := by simp; omega
          have q11 : (0 ≤ ((i + 1 : Nat) : Int)) = True := by simp only [eq_iff_iff, iff_true]; omega
          have q10 : (((i + 1 : Nat) : Int)).toNat = i + 1 := by omega
          have w1' : IntKind.wrap .i64 (((i + 1 : Nat) : Int) + 1) = ((i + 2 : Nat) : Int) := by rw [w1]; omega
          clear w1
          generalize hji : ((i + 1 : Nat) : Int) = ji at g14 q1 q2 q5 q6 q10 q11 w1'
          generalize hjj : ((i + 2 : Nat) : Int) = jj at w1'
          refine AWp.seq ?_
          refine AWp.seq ?_
          (refine aw_regionL hS (by kernel_rfl) ?_; repeat (first | apply vr0u | apply vr4 | apply b_tt | apply b_ff | apply b_tf | apply b_ft | apply b_no | exact isD.mk rfl | (apply eqG; (simp only [push_cast, ↓reduceIte, Nat.reduceEqDiff, Nat.reduceAdd, Nat.reduceLeDiff, Int.reduceLE, Int.reduceLT, Int.reduceAdd, Int.reduceSub, Int.reduceNeg, Int.reduceBEq, Int.reduceBNe, Int.reduceEq, Int.reduceGT, Int.reduceGE, Int.reduceMul, Int.reduceToNat, Nat.reduceMul, reduceCtorEq, g1, g13, g14, q1, q2, q3, q4, q5, q6, q7, q8, q9, q10, q11, w1', Int.toNat_natCast] <;> rfl))))
          refine vr_nil (aw_then ?_)
          refine aw_true (by (simp only [push_cast, ↓reduceIte, Nat.reduceEqDiff, Nat.reduceAdd, Nat.reduceLeDiff, Int.reduceLE, Int.reduceLT, Int.reduceAdd, Int.reduceSub, Int.reduceNeg, Int.reduceBEq, Int.reduceBNe, Int.reduceEq, Int.reduceGT, Int.reduceGE, Int.reduceMul, Int.reduceToNat, Nat.reduceMul, reduceCtorEq, g1, g13, g14, q1, q2, q3, q4, q5, q6, q7, q8, q9, q10, q11, w1', Int.toNat_natCast] <;> rfl)) (AWp.skip (aw_then ?_))
          refine AWp.seq ?_
          refine AWp.block ?_
          refine AWp.seq ?_
          refine aw_drawsL [0, 0, 3, 7, 0, 31, 63, 127, 255, 511, 1023, 1023, 4095, 8191, 1023, 1023, 33791, 115711, 246783, 524287, 1048575, 2097151] [] hS mixed (by kernel_rfl) (by kernel_rfl) ?_
          repeat (first | (refine vd0f (by decide) (by ((repeat (first | rewrite [hpL_t rfl] | rewrite [hpL_f rfl])); (simp only [hpL, app_cons, app_nil] <;> rfl))) (by (simp only [push_cast, ↓reduceIte, Nat.reduceEqDiff, Nat.reduceAdd, Nat.reduceLeDiff, Int.reduceLE, Int.reduceLT, Int.reduceAdd, Int.reduceSub, Int.reduceNeg, Int.reduceBEq, Int.reduceBNe, Int.reduceEq, Int.reduceGT, Int.reduceGE, Int.reduceMul, Int.reduceToNat, Nat.reduceMul, reduceCtorEq, g1, g13, g14, q1, q2, q3, q4, q5, q6, q7, q8, q9, q10, q11, w1', Int.toNat_natCast] <;> rfl)) ?_) | (refine vd0q rfl (by decide) rfl (by ((repeat (first | rewrite [hpL_t rfl] | rewrite [hpL_f rfl])); (simp only [hpL, app_cons, app_nil] <;> rfl))) (by (simp only [push_cast, ↓reduceIte, Nat.reduceEqDiff, Nat.reduceAdd, Nat.reduceLeDiff, Int.reduceLE, Int.reduceLT, Int.reduceAdd, Int.reduceSub, Int.reduceNeg, Int.reduceBEq, Int.reduceBNe, Int.reduceEq, Int.reduceGT, Int.reduceGE, Int.reduceMul, Int.reduceToNat, Nat.reduceMul, reduceCtorEq, g1, g13, g14, q1, q2, q3, q4, q5, q6, q7, q8, q9, q10, q11, w1', Int.toNat_natCast] <;> rfl)) (by simp) (by omega) (by intro u hu; simp only [List.mem_cons, List.not_mem_nil, or_false] at hu; rcases hu with rfl | rfl | rfl <;> simp only <;> omega) ?_) | (refine vd0w rfl (by decide) (by ((repeat (first | rewrite [hpL_t rfl] | rewrite [hpL_f rfl])); (simp only [hpL, app_cons, app_nil] <;> rfl))) (by (simp only [push_cast, ↓reduceIte, Nat.reduceEqDiff, Nat.reduceAdd, Nat.reduceLeDiff, Int.reduceLE, Int.reduceLT, Int.reduceAdd, Int.reduceSub, Int.reduceNeg, Int.reduceBEq, Int.reduceBNe, Int.reduceEq, Int.reduceGT, Int.reduceGE, Int.reduceMul, Int.reduceToNat, Nat.reduceMul, reduceCtorEq, g1, g13, g14, q1, q2, q3, q4, q5, q6, q7, q8, q9, q10, q11, w1', Int.toNat_natCast] <;> rfl)) (by omega) (by intro u hu; simp only [List.mem_cons, List.not_mem_nil, or_false] at hu; rcases hu with rfl | rfl | rfl <;> simp only <;> omega) ?_) | (apply vd0; (focus rfl)) | (apply vd0r; (focus rfl); (focus decide); (focus rfl)) | (apply vd0p; (focus decide)) | apply vd4 | apply b_tt | apply b_ff | apply b_tf | apply b_ft | apply b_no | exact isD.mk rfl | ((repeat (first | rewrite [hpL_t rfl] | rewrite [hpL_f rfl])); (simp only [hpL, app_cons, app_nil] <;> rfl)) | (apply eqG; (simp only [push_cast, ↓reduceIte, Nat.reduceEqDiff, Nat.reduceAdd, Nat.reduceLeDiff, Int.reduceLE, Int.reduceLT, Int.reduceAdd, Int.reduceSub, Int.reduceNeg, Int.reduceBEq, Int.reduceBNe, Int.reduceEq, Int.reduceGT, Int.reduceGE, Int.reduceMul, Int.reduceToNat, Nat.reduceMul, reduceCtorEq, g1, g13, g14, q1, q2, q3, q4, q5, q6, q7, q8, q9, q10, q11, w1', Int.toNat_natCast] <;> rfl)))
          (refine vd_nil (by simp only [hpL, app_cons, app_nil, if_true] <;> rfl) ?_)
          refine aw_then ?_
          refine aw_false (by (simp only [push_cast, ↓reduceIte, Nat.reduceEqDiff, Nat.reduceAdd, Nat.reduceLeDiff, Int.reduceLE, Int.reduceLT, Int.reduceAdd, Int.reduceSub, Int.reduceNeg, Int.reduceBEq, Int.reduceBNe, Int.reduceEq, Int.reduceGT, Int.reduceGE, Int.reduceMul, Int.reduceToNat, Nat.reduceMul, reduceCtorEq, g1, g13, g14, q1, q2, q3, q4, q5, q6, q7, q8, q9, q10, q11, w1', Int.toNat_natCast] <;> rfl)) (AWp.skip (aw_in (aw_then ?_)))
          (refine aw_regionL hS (by kernel_rfl) ?_; repeat (first | apply vr0u | apply vr4 | apply b_tt | apply b_ff | apply b_tf | apply b_ft | apply b_no | exact isD.mk rfl | (apply eqG; (simp only [push_cast, ↓reduceIte, Nat.reduceEqDiff, Nat.reduceAdd, Nat.reduceLeDiff, Int.reduceLE, Int.reduceLT, Int.reduceAdd, Int.reduceSub, Int.reduceNeg, Int.reduceBEq, Int.reduceBNe, Int.reduceEq, Int.reduceGT, Int.reduceGE, Int.reduceMul, Int.reduceToNat, Nat.reduceMul, reduceCtorEq, g1, g13, g14, q1, q2, q3, q4, q5, q6, q7, q8, q9, q10, q11, w1', Int.toNat_natCast] <;> rfl))))
          exact vr_nil (aw_then ⟨F.length - (i + 2), by omega, i + 2, rfl, hi, by (simp only [push_cast, ↓reduceIte, Nat.reduceEqDiff, Nat.reduceAdd, Nat.reduceLeDiff, Int.reduceLE, Int.reduceLT, Int.reduceAdd, Int.reduceSub, Int.reduceNeg, Int.reduceBEq, Int.reduceBNe, Int.reduceEq, Int.reduceGT, Int.reduceGE, Int.reduceMul, Int.reduceToNat, Nat.reduceMul, reduceCtorEq, g1, g13, g14, q1, q2, q3, q4, q5, q6, q7, q8, q9, q10, q11, w1', Int.toNat_natCast] <;> rfl), by (simp only [push_cast, ↓reduceIte, Nat.reduceEqDiff, Nat.reduceAdd, Nat.reduceLeDiff, Int.reduceLE, Int.reduceLT, Int.reduceAdd, Int.reduceSub, Int.reduceNeg, Int.reduceBEq, Int.reduceBNe, Int.reduceEq, Int.reduceGT, Int.reduceGE, Int.reduceMul, Int.reduceToNat, Nat.reduceMul, reduceCtorEq, g1, g13, g14, q1, q2, q3, q4, q5, q6, q7, q8, q9, q10, q11, w1', Int.toNat_natCast] <;> rfl), by rw [hjj]; (simp only [push_cast, ↓reduceIte, Nat.reduceEqDiff, Nat.reduceAdd, Nat.reduceLeDiff, Int.reduceLE, Int.reduceLT, Int.reduceAdd, Int.reduceSub, Int.reduceNeg, Int.reduceBEq, Int.reduceBNe, Int.reduceEq, Int.reduceGT, Int.reduceGE, Int.reduceMul, Int.reduceToNat, Nat.reduceMul, reduceCtorEq, g1, g13, g14, q1, q2, q3, q4, q5, q6, q7, q8, q9, q10, q11, w1', Int.toNat_natCast] <;> rfl), hk⟩)
      · have q1 : ((i : Int) < (F.length : Int)) = False := by simp; omega
        refine AWp.seq ?_
        refine AWp.seq ?_
        (refine aw_regionL hS (by kernel_rfl) ?_; repeat (first | apply vr0u | apply vr4 | apply b_tt | apply b_ff | apply b_tf | apply b_ft | apply b_no | exact isD.mk rfl | (apply eqG; (simp only [push_cast, ↓reduceIte, Nat.reduceEqDiff, Nat.reduceAdd, Nat.reduceLeDiff, Int.reduceLE, Int.reduceLT, Int.reduceAdd, Int.reduceSub, Int.reduceNeg, Int.reduceBEq, Int.reduceBNe, Int.reduceEq, Int.reduceGT, Int.reduceGE, Int.reduceMul, Int.reduceToNat, Nat.reduceMul, reduceCtorEq, g1, g13, g14, q1] <;> rfl))))
        refine vr_nil (aw_then ?_)
        refine aw_false (by (simp only [push_cast, ↓reduceIte, Nat.reduceEqDiff, Nat.reduceAdd, Nat.reduceLeDiff, Int.reduceLE, Int.reduceLT, Int.reduceAdd, Int.reduceSub, Int.reduceNeg, Int.reduceBEq, Int.reduceBNe, Int.reduceEq, Int.reduceGT, Int.reduceGE, Int.reduceMul, Int.reduceToNat, Nat.reduceMul, reduceCtorEq, g1, g13, g14, q1] <;> rfl)) (AWp.exit (aw_thru (aw_thru (aw_exit (aw_then ?_)))))
        exact hk
  rintro t4 h4 n4 - hk4
  refine AWp.seq ?_
  (refine aw_regionL hS (by kernel_rfl) ?_; repeat (first | apply vr0u | apply vr4 | apply b_tt | apply b_ff | apply b_tf | apply b_ft | apply b_no | exact isD.mk rfl | (apply eqG; (simp only [push_cast, ↓reduceIte, Nat.reduceEqDiff, Nat.reduceAdd, Nat.reduceLeDiff, Int.reduceLE, Int.reduceLT, Int.reduceAdd, Int.reduceSub, Int.reduceNeg, Int.reduceBEq, Int.reduceBNe, Int.reduceEq, Int.reduceGT, Int.reduceGE, Int.reduceMul, Int.reduceToNat, Nat.reduceMul, reduceCtorEq, at44] <;> rfl))))
  refine vr_nil (aw_then ?_)
  refine AWp.ret ?_
  exact Out.pure1 (.inr rfl) rfl (by (simp only [push_cast, ↓reduceIte, Nat.reduceEqDiff, Nat.reduceAdd, Nat.reduceLeDiff, Int.reduceLE, Int.reduceLT, Int.reduceAdd, Int.reduceSub, Int.reduceNeg, Int.reduceBEq, Int.reduceBNe, Int.reduceEq, Int.reduceGT, Int.reduceGE, Int.reduceMul, Int.reduceToNat, Nat.reduceMul, reduceCtorEq, at44] <;> rfl)) rfl trivial hk4
end Go.Proofs.Ytpgohmcolcfhfaa
