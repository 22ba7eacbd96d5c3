import Derived.Test.YtpgohmcolcfhfaaWkRefD
import Derived.Test.YtpgohmcolcfhfaaAv30

namespace Go.Proofs.Ytpgohmcolcfhfaa
open Go.Av
set_option maxRecDepth 100000
set_option maxHeartbeats 1000000
set_option linter.unusedSimpArgs false
set_option linter.unusedVariables false
attribute [local push_cast] stepE callR resE aeff aev ofC ofC1 put_at Av.put_none inTmps List.getD_cons_zero List.getD_cons_succ AV.boxable if_true if_false AV.cells aload place app_cons app_nil upd_same Av.part abin aconv aindexAddr fillA splice_one splice_two abuiltin alen amax amin aun aindex Option.map_some List.map_cons List.map_nil List.nil_append List.append_nil List.cons_append Nat.le_refl Nat.zero_add List.length_cons List.length_nil List.drop_succ_cons List.drop_zero List.take_succ_cons List.take_zero beq_self_eq_true bne_self_eq_false Bool.not_true Bool.not_false List.set_cons_zero List.set_cons_succ Bool.false_eq_true IntWalk.i64_in decide_true decide_false Int.toNat_zero and_self and_true true_and List.getElem?_cons_zero List.getElem?_cons_succ agT_26 szT_26 slT_24 agT_24 szT_24 flT_26_0 flT_26_1 flT_26_3 flT_26_2 agT_22 szT_22 arT_22 agT_3 szT_3 kiT_3 kiT_23 kiT_4 zeT_26 buT_26 zeT_22 buT_22 kiT_9 kiT_51 kiT_5 und_51 slT_51 agT_5 szT_5 aappend aapp view slT_24 zeT_3 byT_24 Bool.and_true Bool.true_and Nat.mul_one alen slT_50 agT_53 szT_53 flT_53_0 flT_53_1 agT_57 szT_57 flT_57_3 slT_54 agT_50 szT_50 agT_51 szT_51 zeT_53 buT_53 zeT_57 buT_57 kiT_34 Option.map_none aslice asliceB amin amax txC_0 txC_1 txC_len txC_take take_cellsB len_cellsB unbytes_cells bkC_3 bkC_len bkC_take

/-! ### copies that are one's own -/
theorem touch_app : ∀ {us : List (Nat × Option Row)} {x : Nat} (g : Heap), touch us x → ∃ u, u ∈ us ∧ u.1 = x ∧ app us g x = u.2
  | [], x, g, ⟨u, hu, _⟩ => by cases hu
  | u :: us, x, g, ht => by
    by_cases h2 : touch us x
    · obtain ⟨v, h3, h4, h5⟩ := touch_app (upd g u.1 u.2) h2
      exact ⟨v, List.mem_cons_of_mem _ h3, h4, h5⟩
    · obtain ⟨w, hw, hwx⟩ := ht
      have : w = u := by
        rcases List.mem_cons.1 hw with h | h
        · exact h
        · exact absurd ⟨w, h, hwx⟩ h2
      subst this
      exact ⟨w, List.mem_cons_self .., hwx, by rw [app_cons, app_untouched _ h2, ← hwx, upd_same]⟩
/-- A body that comes to new rows, as they stand. -/
theorem Out.rows {P : Program} {fn : Func} {n : Nat} {h : Heap} {r : AV} {us : List (Nat × Option Row)} {e : Exit} {t : Tmps} {h1 : Heap} {n1 : Nat} {xs : List AV} (he : e = .normal ∨ e = .ret) (hx : resAll P t h1 fn.results.toList = some xs) (hr : resOne xs = r) (hn : n ≤ n1) (hnm : r.names (· < n1))
    (hus : ∀ u, u ∈ us → h1 u.1 = u.2 ∧ ((n ≤ u.1 ∧ u.1 < n1) ∨ (h u.1).isSome = true) ∧ ∀ r, u.2 = some r → r.names (· < n1)) (hk : ∀ x r, x < n → h x = some r → ¬ touch us x → h1 x = some r) : Out P fn n h r us n1 e t h1 n1 := by
  subst hr
  have hid : ∀ (j : Nat), j < n1 → kept n n1 id j := fun j hj => by
    by_cases hjn : j < n
    · exact .inl hjn
    · exact .inr ⟨j, by omega, hj, rfl⟩
  have hold : ∀ x, oldNo n id x = x := fun x => by unfold oldNo; split <;> rfl
  refine ⟨he, xs, id, id, hx, ⟨hn, fun _ _ => rfl, fun x h2 h3 => ⟨h2, h3, rfl⟩⟩, AV.ren_self (fun _ _ => rfl) _ hnm, AV.names_mono hid _ hnm, hk, fun x r ht ha => ?_⟩
  obtain ⟨u, hu, hux, hua⟩ := touch_app noHeap ht
  obtain ⟨k1, k2, k3⟩ := hus u hu
  rw [ha] at hua
  rw [hux] at k1 k2
  refine ⟨k2, r, by rw [hold, k1, ← hua], (Row.ren_self (S := (· < n1)) (fun _ _ => rfl) r (k3 r hua.symm)).symm, Row.names_mono hid r (k3 r hua.symm)⟩
def layC : List Tx → Nat → List AV
  | [], _ => []
  | x :: r, b => .i .i64 x.f :: (if x.z then .ro true [] 0 else .sl 1 b 0 x.b.length) :: layC r (if x.z then b else b + 1)
def layN : List Tx → Nat → Nat
  | [], b => b
  | x :: r, b => layN r (if x.z then b else b + 1)
def layU : List Tx → Nat → List (Nat × Option Row)
  | [], _ => []
  | x :: r, b => if x.z then layU r b else (b, some (.cells (cellsB x.b))) :: layU r (b + 1)
theorem layC_len : ∀ (l : List Tx) (b : Nat), (layC l b).length = l.length * 2
  | [], _ => rfl
  | x :: r, b => by simp only [layC, List.length_cons, layC_len r]; omega
theorem layN_le : ∀ (l : List Tx) (b : Nat), b ≤ layN l b
  | [], b => Nat.le_refl _
  | x :: r, b => by
    simp only [layN]
    have := layN_le r (if x.z then b else b + 1)
    split at this <;> rename_i h <;> simp only [h, if_true, Bool.false_eq_true, if_false] at this ⊢ <;> omega
theorem layN_snoc : ∀ (l : List Tx) (x : Tx) (b : Nat), layN (l ++ [x]) b = if x.z then layN l b else layN l b + 1
  | [], x, b => by simp [layN]
  | y :: r, x, b => by simp only [List.cons_append, layN, layN_snoc r]
theorem layC_snoc : ∀ (l : List Tx) (x : Tx) (b : Nat), layC (l ++ [x]) b = layC l b ++ [.i .i64 x.f, if x.z then .ro true [] 0 else .sl 1 (layN l b) 0 x.b.length]
  | [], x, b => by simp [layC, layN]
  | y :: r, x, b => by simp only [List.cons_append, layC, layN, layC_snoc r]
theorem layU_snoc : ∀ (l : List Tx) (x : Tx) (b : Nat), layU (l ++ [x]) b = layU l b ++ (if x.z then [] else [(layN l b, some (.cells (cellsB x.b)))])
  | [], x, b => by simp [layU, layN]
  | y :: r, x, b => by
    simp only [List.cons_append, layU, layN, layU_snoc r]
    split
    · rename_i h; simp only [h, if_true]
    · rename_i h; simp only [h, Bool.false_eq_true, if_false, List.cons_append]
theorem layU_in : ∀ (l : List Tx) (b : Nat) (u : Nat × Option Row), u ∈ layU l b → b ≤ u.1 ∧ u.1 < layN l b ∧ ∃ x, x ∈ l ∧ u.2 = some (.cells (cellsB x.b))
  | [], b, u, hu => by cases hu
  | x :: r, b, u, hu => by
    simp only [layU, layN] at hu ⊢
    by_cases hz : x.z = true
    · rw [if_pos hz] at hu ⊢
      obtain ⟨h1, h2, y, h3, h4⟩ := layU_in r b u hu
      exact ⟨h1, h2, y, List.mem_cons_of_mem _ h3, h4⟩
    · rw [if_neg hz] at hu ⊢
      rcases List.mem_cons.1 hu with rfl | hu
      · exact ⟨Nat.le_refl _, Nat.lt_of_lt_of_le (Nat.lt_succ_self _) (layN_le r (b + 1)), x, List.mem_cons_self .., rfl⟩
      · obtain ⟨h1, h2, y, h3, h4⟩ := layU_in r (b + 1) u hu
        exact ⟨by omega, h2, y, List.mem_cons_of_mem _ h3, h4⟩
theorem layC_names : ∀ (l : List Tx) (b : Nat), namesAll (· < layN l b) (layC l b)
  | [], b => trivial
  | x :: r, b => by
    simp only [layC, layN]
    refine ⟨trivial, ?_, layC_names r _⟩
    by_cases hz : x.z = true
    · have e : (if x.z = true then AV.ro true [] 0 else AV.sl 1 b 0 x.b.length) = AV.ro true [] 0 := if_pos hz
      rw [e]; exact trivial
    · rw [if_neg hz, if_neg hz]
      exact Nat.lt_of_lt_of_le (Nat.lt_succ_self _) (layN_le r (b + 1))
theorem c61w (b : List UInt8) (hb : b.length ≤ 100000) (S : Sums) (hS : SumOk Try.prog S) : ∀ h n, DCalls Try.prog 61 [.ro false (cellsB b) b.length] h n (.sl 1 n 0 b.length) [(n, some (.cells (cellsB b)))] (n + 1) := by
  intro h n
  refine DCalls.of Try.func61 rfl (by decide) (Nat.le_of_ble_eq_true rfl) (Nat.le_succ _) ?_
  have r0 : rep 0 [AV.i .u8 0] = [] := rfl
  have qa : (b.length ≤ 140737488355328) = True := by simp; omega
  have qb : (b.length ≤ 9223372036854775807) = True := by simp; omega
  refine AWp.seq ?_
  (refine aw_regionL hS (by kernel_rfl) ?_; repeat (first | apply vr0u | apply vr4 | apply b_tt | apply b_ff | apply b_tf | apply b_ft | apply b_no | exact isD.mk rfl | (apply eqG; (simp only [push_cast, ↓reduceIte, Nat.reduceEqDiff, Nat.reduceAdd, Nat.reduceLeDiff, Int.reduceLE, Int.reduceLT, Int.reduceAdd, Int.reduceSub, Int.reduceNeg, Int.reduceBEq, Int.reduceBNe, Int.reduceEq, Int.reduceGT, Int.reduceGE, Int.reduceMul, Int.reduceToNat, Nat.reduceMul, reduceCtorEq, r0, qa, qb, Nat.reduceLT] <;> rfl))))
  refine vr_nil (aw_then ?_)
  refine AWp.seq ?_
  refine AWp.seq ?_
  refine aw_nil (x := .ro false (cellsB b) b.length) (u := false) slT_51 (by (simp only [push_cast, ↓reduceIte, Nat.reduceEqDiff, Nat.reduceAdd, Nat.reduceLeDiff, Int.reduceLE, Int.reduceLT, Int.reduceAdd, Int.reduceSub, Int.reduceNeg, Int.reduceBEq, Int.reduceBNe, Int.reduceEq, Int.reduceGT, Int.reduceGE, Int.reduceMul, Int.reduceToNat, Nat.reduceMul, reduceCtorEq, r0, qa, qb, Nat.reduceLT] <;> rfl)) rfl (by kernel_rfl) (aw_then ?_)
  refine aw_false (by (simp only [push_cast, ↓reduceIte, Nat.reduceEqDiff, Nat.reduceAdd, Nat.reduceLeDiff, Int.reduceLE, Int.reduceLT, Int.reduceAdd, Int.reduceSub, Int.reduceNeg, Int.reduceBEq, Int.reduceBNe, Int.reduceEq, Int.reduceGT, Int.reduceGE, Int.reduceMul, Int.reduceToNat, Nat.reduceMul, reduceCtorEq, r0, qa, qb, Nat.reduceLT] <;> rfl)) (AWp.skip (aw_then ?_))
  refine AWp.seq ?_
  (refine aw_regionL hS (by kernel_rfl) ?_; repeat (first | apply vr0u | apply vr4 | apply b_tt | apply b_ff | apply b_tf | apply b_ft | apply b_no | exact isD.mk rfl | (apply eqG; (simp only [push_cast, ↓reduceIte, Nat.reduceEqDiff, Nat.reduceAdd, Nat.reduceLeDiff, Int.reduceLE, Int.reduceLT, Int.reduceAdd, Int.reduceSub, Int.reduceNeg, Int.reduceBEq, Int.reduceBNe, Int.reduceEq, Int.reduceGT, Int.reduceGE, Int.reduceMul, Int.reduceToNat, Nat.reduceMul, reduceCtorEq, r0, qa, qb, Nat.reduceLT] <;> rfl))))
  refine vr_nil (aw_then ?_)
  refine AWp.ret ?_
  exact Out.fresh1 (j := n + 1) (.inr rfl) rfl (by (simp only [push_cast, ↓reduceIte, Nat.reduceEqDiff, Nat.reduceAdd, Nat.reduceLeDiff, Int.reduceLE, Int.reduceLT, Int.reduceAdd, Int.reduceSub, Int.reduceNeg, Int.reduceBEq, Int.reduceBNe, Int.reduceEq, Int.reduceGT, Int.reduceGE, Int.reduceMul, Int.reduceToNat, Nat.reduceMul, reduceCtorEq, r0, qa, qb, Nat.reduceLT] <;> rfl)) (by omega) (by omega) (by (simp only [push_cast, ↓reduceIte, Nat.reduceEqDiff, Nat.reduceAdd, Nat.reduceLeDiff, Int.reduceLE, Int.reduceLT, Int.reduceAdd, Int.reduceSub, Int.reduceNeg, Int.reduceBEq, Int.reduceBNe, Int.reduceEq, Int.reduceGT, Int.reduceGE, Int.reduceMul, Int.reduceToNat, Nat.reduceMul, reduceCtorEq, r0, qa, qb, Nat.reduceLT] <;> rfl)) (free_cellsB b) (keepU (by omega) (keepU (by omega) (keepU (by omega) keep0)))
/-- What stands in the outer row, while copies are made. -/
def mixC (l : List Tx) (i b : Nat) : List AV := layC (l.take i) b ++ txs (l.drop i)
theorem mixC_len {l : List Tx} {i b : Nat} (hi : i ≤ l.length) : (mixC l i b).length = l.length * 2 := by
  simp only [mixC, List.length_append, layC_len, txs_len, List.length_take, List.length_drop]; omega
theorem mixC_val {l : List Tx} {i b : Nat} (hi : i < l.length) : (mixC l i b)[i * 2 + 1]? = some (.ro l[i].z (cellsB l[i].b) l[i].b.length) := by
  have hlen : (layC (l.take i) b).length = i * 2 := by rw [layC_len, List.length_take]; omega
  rw [mixC, List.getElem?_append_right (by omega), hlen, List.drop_eq_getElem_cons hi]
  have : i * 2 + 1 - i * 2 = 1 := by omega
  rw [this]; rfl
theorem mixC_set {l : List Tx} {i b : Nat} (hi : i < l.length) : (mixC l i b).set (i * 2 + 1) (if l[i].z then .ro true [] 0 else .sl 1 (layN (l.take i) b) 0 l[i].b.length) = mixC l (i + 1) b := by
  have hlen : (layC (l.take i) b).length = i * 2 := by rw [layC_len, List.length_take]; omega
  have ht : l.take (i + 1) = l.take i ++ [l[i]] := by simp
  rw [mixC, mixC, ht, layC_snoc, List.append_assoc, List.set_append_right _ _ (by omega), hlen, List.drop_eq_getElem_cons hi]
  have : i * 2 + 1 - i * 2 = 1 := by omega
  rw [this]
  congr 1
theorem c53w (l : List Tx) (hl : okL l) (S : Sums) (hS : SumOk Try.prog S) (h54 : ∀ h, S 54 [.ro false (txs l) l.length] h = .fresh 2 l.length (txs l)) (h61n : ∀ h, S 61 [.ro true [] 0] h = .pure (.ro true [] 0))
    (h61 : ∀ x, x ∈ l → ∀ h, S 61 [.ro false (cellsB x.b) x.b.length] h = .fresh 1 x.b.length (cellsB x.b)) :
    ∀ h n, DCalls Try.prog 53 [.ro false (txs l) l.length] h n (.sl 2 n 0 l.length) ((n, some (.cells (layC l (n + 1)))) :: layU l (n + 1)) (layN l (n + 1)) := by
  intro h n
  have hNn := layN_le l (n + 1)
  refine DCalls.of Try.func53 rfl (by decide) (Nat.le_of_ble_eq_true rfl) (by omega) ?_
  obtain ⟨hl1, hlok⟩ := hl
  refine AWp.seq ?_
  (refine aw_regionL hS (by kernel_rfl) ?_; repeat (first | apply vr0u | apply vr4 | apply b_tt | apply b_ff | apply b_tf | apply b_ft | apply b_no | exact isD.mk rfl | (apply eqG; (simp only [push_cast, ↓reduceIte, Nat.reduceEqDiff, Nat.reduceAdd, Nat.reduceLeDiff, Int.reduceLE, Int.reduceLT, Int.reduceAdd, Int.reduceSub, Int.reduceNeg, Int.reduceBEq, Int.reduceBNe, Int.reduceEq, Int.reduceGT, Int.reduceGE, Int.reduceMul, Int.reduceToNat, Nat.reduceMul, reduceCtorEq, h54] <;> rfl))))
  refine vr_nil (aw_then ?_)
  refine AWp.seq ?_
  (refine aw_regionL hS (by kernel_rfl) ?_; repeat (first | apply vr0u | apply vr4 | apply b_tt | apply b_ff | apply b_tf | apply b_ft | apply b_no | exact isD.mk rfl | (apply eqG; (simp only [push_cast, ↓reduceIte, Nat.reduceEqDiff, Nat.reduceAdd, Nat.reduceLeDiff, Int.reduceLE, Int.reduceLT, Int.reduceAdd, Int.reduceSub, Int.reduceNeg, Int.reduceBEq, Int.reduceBNe, Int.reduceEq, Int.reduceGT, Int.reduceGE, Int.reduceMul, Int.reduceToNat, Nat.reduceMul, reduceCtorEq, h54] <;> rfl))))
  refine vr_nil (aw_then ?_)
  refine AWp.seq ?_
  refine AWp.seq ?_
  (refine aw_regionL hS (by kernel_rfl) ?_; repeat (first | apply vr0u | apply vr4 | apply b_tt | apply b_ff | apply b_tf | apply b_ft | apply b_no | exact isD.mk rfl | (apply eqG; (simp only [push_cast, ↓reduceIte, Nat.reduceEqDiff, Nat.reduceAdd, Nat.reduceLeDiff, Int.reduceLE, Int.reduceLT, Int.reduceAdd, Int.reduceSub, Int.reduceNeg, Int.reduceBEq, Int.reduceBNe, Int.reduceEq, Int.reduceGT, Int.reduceGE, Int.reduceMul, Int.reduceToNat, Nat.reduceMul, reduceCtorEq, h54] <;> rfl))))
  refine vr_nil (aw_then ?_)
  refine AWp.block ?_
  refine AWp.loop (fun k t' h' n' => ∃ i : Nat, k = l.length - i ∧ i ≤ l.length ∧ t' 3 = .sl 2 n 0 l.length ∧ t' 8 = .i .i64 (l.length : Int) ∧ t' 9 = .i .i64 (i : Int) ∧ h' n = some (.cells (mixC l i (n + 1))) ∧ (∀ u, u ∈ layU (l.take i) (n + 1) → h' u.1 = u.2) ∧ n' = layN (l.take i) (n + 1) ∧ ∀ x r, x < n → h x = some r → h' x = some r) l.length ?_ ?_
  · exact ⟨0, rfl, Nat.zero_le _, by (simp only [push_cast, ↓reduceIte, Nat.reduceEqDiff, Nat.reduceAdd, Nat.reduceLeDiff, Int.reduceLE, Int.reduceLT, Int.reduceAdd, Int.reduceSub, Int.reduceNeg, Int.reduceBEq, Int.reduceBNe, Int.reduceEq, Int.reduceGT, Int.reduceGE, Int.reduceMul, Int.reduceToNat, Nat.reduceMul, reduceCtorEq, h54] <;> rfl), by (simp only [push_cast, ↓reduceIte, Nat.reduceEqDiff, Nat.reduceAdd, Nat.reduceLeDiff, Int.reduceLE, Int.reduceLT, Int.reduceAdd, Int.reduceSub, Int.reduceNeg, Int.reduceBEq, Int.reduceBNe, Int.reduceEq, Int.reduceGT, Int.reduceGE, Int.reduceMul, Int.reduceToNat, Nat.reduceMul, reduceCtorEq, h54] <;> rfl), by (simp only [push_cast, ↓reduceIte, Nat.reduceEqDiff, Nat.reduceAdd, Nat.reduceLeDiff, Int.reduceLE, Int.reduceLT, Int.reduceAdd, Int.reduceSub, Int.reduceNeg, Int.reduceBEq, Int.reduceBNe, Int.reduceEq, Int.reduceGT, Int.reduceGE, Int.reduceMul, Int.reduceToNat, Nat.reduceMul, reduceCtorEq, h54] <;> rfl), by (simp only [push_cast, ↓reduceIte, Nat.reduceEqDiff, Nat.reduceAdd, Nat.reduceLeDiff, Int.reduceLE, Int.reduceLT, Int.reduceAdd, Int.reduceSub, Int.reduceNeg, Int.reduceBEq, Int.reduceBNe, Int.reduceEq, Int.reduceGT, Int.reduceGE, Int.reduceMul, Int.reduceToNat, Nat.reduceMul, reduceCtorEq, h54] <;> rfl), (fun u hu => nomatch hu), rfl, keepU (Nat.le_refl _) keep0⟩
  · rintro m t' h' n' - ⟨i, rfl, hil, h3, h8, h9, hrow, hus, hn', hk⟩
    have hni := layN_le (l.take i) (n + 1)
    by_cases hi : i < l.length
    · have q1 : ((i : Int) < (l.length : Int)) = True := by simp [hi]
      have q2 : (0 ≤ (i : Int) ∧ (i : Int) < (l.length : Int)) = True := by simp [hi]
      have q3 := mixC_val (b := n + 1) hi
      have q4 := mixC_set (b := n + 1) hi
      have q5 : (i * 2 + 1 + 1 ≤ (mixC l i (n + 1)).length) = True := by rw [mixC_len hil]; simp only [eq_iff_iff, iff_true]; omega
      have w1 : IntKind.wrap .i64 ((i : Int) + 1) = (i : Int) + 1 := IntWalk.i64_in _ (by omega)
      have ht : l.take (i + 1) = l.take i ++ [l[i]] := by simp
      have hN := layN_snoc (l.take i) l[i] (n + 1)
      have hU := layU_snoc (l.take i) l[i] (n + 1)
      rw [← ht] at hN hU
      obtain ⟨hxz, hxb⟩ := hlok l[i] (List.getElem_mem hi)
      have hgi := h61 l[i] (List.getElem_mem hi)
      generalize l[i] = x at *
      by_cases hz : x.z = true
      · have hb := hxz hz
        rw [hb, hz] at q3
        have q3 : (mixC l i (n + 1))[i * 2 + 1]? = some (.ro true [] 0) := q3
        rw [if_pos hz] at q4 hN hU
        refine AWp.seq ?_
        (refine aw_regionL hS (by kernel_rfl) ?_; repeat (first | apply vr0u | apply vr4 | apply b_tt | apply b_ff | apply b_tf | apply b_ft | apply b_no | exact isD.mk rfl | (apply eqG; (simp only [push_cast, ↓reduceIte, Nat.reduceEqDiff, Nat.reduceAdd, Nat.reduceLeDiff, Int.reduceLE, Int.reduceLT, Int.reduceAdd, Int.reduceSub, Int.reduceNeg, Int.reduceBEq, Int.reduceBNe, Int.reduceEq, Int.reduceGT, Int.reduceGE, Int.reduceMul, Int.reduceToNat, Nat.reduceMul, reduceCtorEq, h3, h8, h9, hrow, q1, q2, q3, q4, q5, h61n, w1, Int.toNat_natCast] <;> rfl))))
        refine vr_nil (aw_then ?_)
        refine AWp.seq ?_
        refine aw_true (by (simp only [push_cast, ↓reduceIte, Nat.reduceEqDiff, Nat.reduceAdd, Nat.reduceLeDiff, Int.reduceLE, Int.reduceLT, Int.reduceAdd, Int.reduceSub, Int.reduceNeg, Int.reduceBEq, Int.reduceBNe, Int.reduceEq, Int.reduceGT, Int.reduceGE, Int.reduceMul, Int.reduceToNat, Nat.reduceMul, reduceCtorEq, h3, h8, h9, hrow, q1, q2, q3, q4, q5, h61n, w1, Int.toNat_natCast] <;> rfl)) (AWp.skip (aw_then ?_))
        refine AWp.seq ?_
        refine AWp.block ?_
        refine AWp.seq ?_
        (refine aw_regionL hS (by kernel_rfl) ?_; repeat (first | apply vr0u | apply vr4 | apply b_tt | apply b_ff | apply b_tf | apply b_ft | apply b_no | exact isD.mk rfl | (apply eqG; (simp only [push_cast, ↓reduceIte, Nat.reduceEqDiff, Nat.reduceAdd, Nat.reduceLeDiff, Int.reduceLE, Int.reduceLT, Int.reduceAdd, Int.reduceSub, Int.reduceNeg, Int.reduceBEq, Int.reduceBNe, Int.reduceEq, Int.reduceGT, Int.reduceGE, Int.reduceMul, Int.reduceToNat, Nat.reduceMul, reduceCtorEq, h3, h8, h9, hrow, q1, q2, q3, q4, q5, h61n, w1, Int.toNat_natCast] <;> rfl))))
        refine vr_nil (aw_then ?_)
        (refine aw_regionL hS (by kernel_rfl) ?_; repeat (first | apply vr0u | apply vr4 | apply b_tt | apply b_ff | apply b_tf | apply b_ft | apply b_no | exact isD.mk rfl | (apply eqG; (simp only [push_cast, ↓reduceIte, Nat.reduceEqDiff, Nat.reduceAdd, Nat.reduceLeDiff, Int.reduceLE, Int.reduceLT, Int.reduceAdd, Int.reduceSub, Int.reduceNeg, Int.reduceBEq, Int.reduceBNe, Int.reduceEq, Int.reduceGT, Int.reduceGE, Int.reduceMul, Int.reduceToNat, Nat.reduceMul, reduceCtorEq, h3, h8, h9, hrow, q1, q2, q3, q4, q5, h61n, w1, Int.toNat_natCast] <;> rfl))))
        refine vr_nil (aw_in (aw_then ?_))
        (refine aw_regionL hS (by kernel_rfl) ?_; repeat (first | apply vr0u | apply vr4 | apply b_tt | apply b_ff | apply b_tf | apply b_ft | apply b_no | exact isD.mk rfl | (apply eqG; (simp only [push_cast, ↓reduceIte, Nat.reduceEqDiff, Nat.reduceAdd, Nat.reduceLeDiff, Int.reduceLE, Int.reduceLT, Int.reduceAdd, Int.reduceSub, Int.reduceNeg, Int.reduceBEq, Int.reduceBNe, Int.reduceEq, Int.reduceGT, Int.reduceGE, Int.reduceMul, Int.reduceToNat, Nat.reduceMul, reduceCtorEq, h3, h8, h9, hrow, q1, q2, q3, q4, q5, h61n, w1, Int.toNat_natCast] <;> rfl))))
        refine vr_nil (aw_then ⟨l.length - (i + 1), by omega, i + 1, rfl, hi, by (simp only [push_cast, ↓reduceIte, Nat.reduceEqDiff, Nat.reduceAdd, Nat.reduceLeDiff, Int.reduceLE, Int.reduceLT, Int.reduceAdd, Int.reduceSub, Int.reduceNeg, Int.reduceBEq, Int.reduceBNe, Int.reduceEq, Int.reduceGT, Int.reduceGE, Int.reduceMul, Int.reduceToNat, Nat.reduceMul, reduceCtorEq, h3, h8, h9, hrow, q1, q2, q3, q4, q5, h61n, w1, Int.toNat_natCast] <;> rfl), by (simp only [push_cast, ↓reduceIte, Nat.reduceEqDiff, Nat.reduceAdd, Nat.reduceLeDiff, Int.reduceLE, Int.reduceLT, Int.reduceAdd, Int.reduceSub, Int.reduceNeg, Int.reduceBEq, Int.reduceBNe, Int.reduceEq, Int.reduceGT, Int.reduceGE, Int.reduceMul, Int.reduceToNat, Nat.reduceMul, reduceCtorEq, h3, h8, h9, hrow, q1, q2, q3, q4, q5, h61n, w1, Int.toNat_natCast] <;> rfl), by (simp only [push_cast, ↓reduceIte, Nat.reduceEqDiff, Nat.reduceAdd, Nat.reduceLeDiff, Int.reduceLE, Int.reduceLT, Int.reduceAdd, Int.reduceSub, Int.reduceNeg, Int.reduceBEq, Int.reduceBNe, Int.reduceEq, Int.reduceGT, Int.reduceGE, Int.reduceMul, Int.reduceToNat, Nat.reduceMul, reduceCtorEq, h3, h8, h9, hrow, q1, q2, q3, q4, q5, h61n, w1, Int.toNat_natCast] <;> rfl), by (simp only [push_cast, ↓reduceIte, Nat.reduceEqDiff, Nat.reduceAdd, Nat.reduceLeDiff, Int.reduceLE, Int.reduceLT, Int.reduceAdd, Int.reduceSub, Int.reduceNeg, Int.reduceBEq, Int.reduceBNe, Int.reduceEq, Int.reduceGT, Int.reduceGE, Int.reduceMul, Int.reduceToNat, Nat.reduceMul, reduceCtorEq, h3, h8, h9, hrow, q1, q2, q3, q4, q5, h61n, w1, Int.toNat_natCast] <;> rfl), fun u hu => ?_, by rw [hN]; exact hn', keepU (Nat.le_refl _) hk⟩)
        rw [hU, List.append_nil] at hu
        obtain ⟨g1, g2, _⟩ := layU_in _ _ u hu
        rw [upd_ne _ _ (by omega)]
        exact hus u hu
      · have hz' : x.z = false := by simpa using hz
        rw [hz'] at q3
        rw [if_neg hz] at q4 hN hU
        rw [← hn'] at q4 hN hU
        have u0 : ∀ (r : Option Row), upd h' n' r n = h' n := fun r => upd_ne _ _ (by omega)
        refine AWp.seq ?_
        (refine aw_regionL hS (by kernel_rfl) ?_; repeat (first | apply vr0u | apply vr4 | apply b_tt | apply b_ff | apply b_tf | apply b_ft | apply b_no | exact isD.mk rfl | (apply eqG; (simp only [push_cast, ↓reduceIte, Nat.reduceEqDiff, Nat.reduceAdd, Nat.reduceLeDiff, Int.reduceLE, Int.reduceLT, Int.reduceAdd, Int.reduceSub, Int.reduceNeg, Int.reduceBEq, Int.reduceBNe, Int.reduceEq, Int.reduceGT, Int.reduceGE, Int.reduceMul, Int.reduceToNat, Nat.reduceMul, reduceCtorEq, h3, h8, h9, hrow, q1, q2, q3, q4, q5, hgi, w1, u0, Int.toNat_natCast] <;> rfl))))
        refine vr_nil (aw_then ?_)
        refine AWp.seq ?_
        refine aw_true (by (simp only [push_cast, ↓reduceIte, Nat.reduceEqDiff, Nat.reduceAdd, Nat.reduceLeDiff, Int.reduceLE, Int.reduceLT, Int.reduceAdd, Int.reduceSub, Int.reduceNeg, Int.reduceBEq, Int.reduceBNe, Int.reduceEq, Int.reduceGT, Int.reduceGE, Int.reduceMul, Int.reduceToNat, Nat.reduceMul, reduceCtorEq, h3, h8, h9, hrow, q1, q2, q3, q4, q5, hgi, w1, u0, Int.toNat_natCast] <;> rfl)) (AWp.skip (aw_then ?_))
        refine AWp.seq ?_
        refine AWp.block ?_
        refine AWp.seq ?_
        (refine aw_regionL hS (by kernel_rfl) ?_; repeat (first | apply vr0u | apply vr4 | apply b_tt | apply b_ff | apply b_tf | apply b_ft | apply b_no | exact isD.mk rfl | (apply eqG; (simp only [push_cast, ↓reduceIte, Nat.reduceEqDiff, Nat.reduceAdd, Nat.reduceLeDiff, Int.reduceLE, Int.reduceLT, Int.reduceAdd, Int.reduceSub, Int.reduceNeg, Int.reduceBEq, Int.reduceBNe, Int.reduceEq, Int.reduceGT, Int.reduceGE, Int.reduceMul, Int.reduceToNat, Nat.reduceMul, reduceCtorEq, h3, h8, h9, hrow, q1, q2, q3, q4, q5, hgi, w1, u0, Int.toNat_natCast] <;> rfl))))
        refine vr_nil (aw_then ?_)
        (refine aw_regionL hS (by kernel_rfl) ?_; repeat (first | apply vr0u | apply vr4 | apply b_tt | apply b_ff | apply b_tf | apply b_ft | apply b_no | exact isD.mk rfl | (apply eqG; (simp only [push_cast, ↓reduceIte, Nat.reduceEqDiff, Nat.reduceAdd, Nat.reduceLeDiff, Int.reduceLE, Int.reduceLT, Int.reduceAdd, Int.reduceSub, Int.reduceNeg, Int.reduceBEq, Int.reduceBNe, Int.reduceEq, Int.reduceGT, Int.reduceGE, Int.reduceMul, Int.reduceToNat, Nat.reduceMul, reduceCtorEq, h3, h8, h9, hrow, q1, q2, q3, q4, q5, hgi, w1, u0, Int.toNat_natCast] <;> rfl))))
        refine vr_nil (aw_in (aw_then ?_))
        (refine aw_regionL hS (by kernel_rfl) ?_; repeat (first | apply vr0u | apply vr4 | apply b_tt | apply b_ff | apply b_tf | apply b_ft | apply b_no | exact isD.mk rfl | (apply eqG; (simp only [push_cast, ↓reduceIte, Nat.reduceEqDiff, Nat.reduceAdd, Nat.reduceLeDiff, Int.reduceLE, Int.reduceLT, Int.reduceAdd, Int.reduceSub, Int.reduceNeg, Int.reduceBEq, Int.reduceBNe, Int.reduceEq, Int.reduceGT, Int.reduceGE, Int.reduceMul, Int.reduceToNat, Nat.reduceMul, reduceCtorEq, h3, h8, h9, hrow, q1, q2, q3, q4, q5, hgi, w1, u0, Int.toNat_natCast] <;> rfl))))
        refine vr_nil (aw_then ⟨l.length - (i + 1), by omega, i + 1, rfl, hi, by (simp only [push_cast, ↓reduceIte, Nat.reduceEqDiff, Nat.reduceAdd, Nat.reduceLeDiff, Int.reduceLE, Int.reduceLT, Int.reduceAdd, Int.reduceSub, Int.reduceNeg, Int.reduceBEq, Int.reduceBNe, Int.reduceEq, Int.reduceGT, Int.reduceGE, Int.reduceMul, Int.reduceToNat, Nat.reduceMul, reduceCtorEq, h3, h8, h9, hrow, q1, q2, q3, q4, q5, hgi, w1, u0, Int.toNat_natCast] <;> rfl), by (simp only [push_cast, ↓reduceIte, Nat.reduceEqDiff, Nat.reduceAdd, Nat.reduceLeDiff, Int.reduceLE, Int.reduceLT, Int.reduceAdd, Int.reduceSub, Int.reduceNeg, Int.reduceBEq, Int.reduceBNe, Int.reduceEq, Int.reduceGT, Int.reduceGE, Int.reduceMul, Int.reduceToNat, Nat.reduceMul, reduceCtorEq, h3, h8, h9, hrow, q1, q2, q3, q4, q5, hgi, w1, u0, Int.toNat_natCast] <;> rfl), by (simp only [push_cast, ↓reduceIte, Nat.reduceEqDiff, Nat.reduceAdd, Nat.reduceLeDiff, Int.reduceLE, Int.reduceLT, Int.reduceAdd, Int.reduceSub, Int.reduceNeg, Int.reduceBEq, Int.reduceBNe, Int.reduceEq, Int.reduceGT, Int.reduceGE, Int.reduceMul, Int.reduceToNat, Nat.reduceMul, reduceCtorEq, h3, h8, h9, hrow, q1, q2, q3, q4, q5, hgi, w1, u0, Int.toNat_natCast] <;> rfl), by (simp only [push_cast, ↓reduceIte, Nat.reduceEqDiff, Nat.reduceAdd, Nat.reduceLeDiff, Int.reduceLE, Int.reduceLT, Int.reduceAdd, Int.reduceSub, Int.reduceNeg, Int.reduceBEq, Int.reduceBNe, Int.reduceEq, Int.reduceGT, Int.reduceGE, Int.reduceMul, Int.reduceToNat, Nat.reduceMul, reduceCtorEq, h3, h8, h9, hrow, q1, q2, q3, q4, q5, hgi, w1, u0, Int.toNat_natCast] <;> rfl), fun u hu => ?_, by rw [hN], keepU (Nat.le_refl _) (keepU (by omega) hk)⟩)
        rw [hU] at hu
        rcases List.mem_append.1 hu with hu | hu
        · obtain ⟨g1, g2, _⟩ := layU_in _ _ u hu
          rw [upd_ne _ _ (by omega), upd_ne _ _ (by omega)]
          exact hus u hu
        · rw [List.mem_singleton.1 hu, upd_ne _ _ (by omega), upd_same]
    · have hie : i = l.length := by omega
      have q1 : ((i : Int) < (l.length : Int)) = False := by simp; omega
      rw [hie, List.take_length] at hus hn'
      have hmix : mixC l i (n + 1) = layC l (n + 1) := by rw [mixC, hie, List.take_length, List.drop_length]; simp [txs]
      rw [hmix] at hrow
      refine AWp.seq ?_
      (refine aw_regionL hS (by kernel_rfl) ?_; repeat (first | apply vr0u | apply vr4 | apply b_tt | apply b_ff | apply b_tf | apply b_ft | apply b_no | exact isD.mk rfl | (apply eqG; (simp only [push_cast, ↓reduceIte, Nat.reduceEqDiff, Nat.reduceAdd, Nat.reduceLeDiff, Int.reduceLE, Int.reduceLT, Int.reduceAdd, Int.reduceSub, Int.reduceNeg, Int.reduceBEq, Int.reduceBNe, Int.reduceEq, Int.reduceGT, Int.reduceGE, Int.reduceMul, Int.reduceToNat, Nat.reduceMul, reduceCtorEq, h3, h8, h9, q1] <;> rfl))))
      refine vr_nil (aw_then ?_)
      refine AWp.seq ?_
      refine aw_false (by (simp only [push_cast, ↓reduceIte, Nat.reduceEqDiff, Nat.reduceAdd, Nat.reduceLeDiff, Int.reduceLE, Int.reduceLT, Int.reduceAdd, Int.reduceSub, Int.reduceNeg, Int.reduceBEq, Int.reduceBNe, Int.reduceEq, Int.reduceGT, Int.reduceGE, Int.reduceMul, Int.reduceToNat, Nat.reduceMul, reduceCtorEq, h3, h8, h9, q1] <;> rfl)) (AWp.exit (aw_thru (aw_thru (aw_exit (aw_then ?_)))))
      refine AWp.seq ?_
      (refine aw_regionL hS (by kernel_rfl) ?_; repeat (first | apply vr0u | apply vr4 | apply b_tt | apply b_ff | apply b_tf | apply b_ft | apply b_no | exact isD.mk rfl | (apply eqG; (simp only [push_cast, ↓reduceIte, Nat.reduceEqDiff, Nat.reduceAdd, Nat.reduceLeDiff, Int.reduceLE, Int.reduceLT, Int.reduceAdd, Int.reduceSub, Int.reduceNeg, Int.reduceBEq, Int.reduceBNe, Int.reduceEq, Int.reduceGT, Int.reduceGE, Int.reduceMul, Int.reduceToNat, Nat.reduceMul, reduceCtorEq, h3, h8, h9, q1] <;> rfl))))
      refine vr_nil (aw_then ?_)
      refine AWp.ret ?_
      subst hn'
      refine Out.rows (xs := [.sl 2 n 0 l.length]) (.inr rfl) (by
        show resAll Try.prog _ _ [ResultVar.tmp 2] = _
        simp only [resAll, resT]; (simp only [push_cast, ↓reduceIte, Nat.reduceEqDiff, Nat.reduceAdd, Nat.reduceLeDiff, Int.reduceLE, Int.reduceLT, Int.reduceAdd, Int.reduceSub, Int.reduceNeg, Int.reduceBEq, Int.reduceBNe, Int.reduceEq, Int.reduceGT, Int.reduceGE, Int.reduceMul, Int.reduceToNat, Nat.reduceMul, reduceCtorEq, h3, h8, h9, q1] <;> rfl)) rfl (by omega) (show n < _ by omega) (fun u hu => ?_) (fun x r hx hr _ => hk x r hx hr)
      rcases List.mem_cons.1 hu with rfl | hu
      · exact ⟨hrow, .inl ⟨Nat.le_refl _, by show n < _; omega⟩, fun r hr => by injection hr with hr; subst hr; exact layC_names l (n + 1)⟩
      · obtain ⟨g1, g2, x, g3, g4⟩ := layU_in _ _ u hu
        exact ⟨hus u hu, .inl ⟨by omega, g2⟩, fun r hr => by rw [g4] at hr; injection hr with hr; subst hr; exact freeAll_names _ (free_cellsB _)⟩
end Go.Proofs.Ytpgohmcolcfhfaa
