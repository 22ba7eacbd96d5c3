import Derived.Test.YtpgohmcolcfhfaaWkOwn

namespace Go.Proofs.Ytpgohmcolcfhfaa
open Go.Av
set_option maxRecDepth 100000
set_option maxHeartbeats 1000000
set_option linter.unusedSimpArgs false
set_option linter.unusedVariables false
attribute [local push_cast] stepE callR resE aeff aev ofC ofC1 put_at Av.put_none inTmps List.getD_cons_zero List.getD_cons_succ AV.boxable if_true if_false AV.cells aload place app_cons app_nil upd_same Av.part abin aconv aindexAddr fillA splice_one splice_two abuiltin alen amax amin aun aindex Option.map_some List.map_cons List.map_nil List.nil_append List.append_nil List.cons_append Nat.le_refl Nat.zero_add List.length_cons List.length_nil List.drop_succ_cons List.drop_zero List.take_succ_cons List.take_zero beq_self_eq_true bne_self_eq_false Bool.not_true Bool.not_false List.set_cons_zero List.set_cons_succ Bool.false_eq_true IntWalk.i64_in decide_true decide_false Int.toNat_zero and_self and_true true_and List.getElem?_cons_zero List.getElem?_cons_succ agT_26 szT_26 slT_24 agT_24 szT_24 flT_26_0 flT_26_1 flT_26_3 flT_26_2 agT_22 szT_22 arT_22 agT_3 szT_3 kiT_3 kiT_23 kiT_4 zeT_26 buT_26 zeT_22 buT_22 kiT_9 kiT_51 kiT_5 und_51 slT_51 agT_5 szT_5 aappend aapp view slT_24 zeT_3 byT_24 Bool.and_true Bool.true_and Nat.mul_one alen slT_50 agT_53 szT_53 flT_53_0 flT_53_1 agT_57 szT_57 flT_57_3 slT_54 agT_50 szT_50 agT_51 szT_51 zeT_53 buT_53 zeT_57 buT_57 kiT_34 Option.map_none aslice asliceB amin amax txC_0 txC_1 txC_len txC_take take_cellsB len_cellsB unbytes_cells bkC_3 bkC_len bkC_take

/-- A slice of transactions in memory of one's own, from number lo on. -/
def OwnT (h : Heap) (lo : Nat) (l : List Tx) (x : AV) : Prop := (l = [] ∧ x = .ro true [] 0) ∨ ∃ (j : Nat) (cs : List AV), lo ≤ j ∧ x = .sl 2 j 0 l.length ∧ h j = some (.cells cs) ∧ cs.length = l.length * 2 ∧
  ∀ (i : Nat) (hi : i < l.length), cs[i * 2]? = some (.i .i64 l[i].f) ∧ ((cs[i * 2 + 1]? = some (.ro true [] 0) ∧ l[i].b = []) ∨ ∃ k, lo ≤ k ∧ k ≠ j ∧ cs[i * 2 + 1]? = some (.sl 1 k 0 l[i].b.length) ∧ h k = some (.cells (cellsB l[i].b)))
theorem layC_app : ∀ (a r : List Tx) (b : Nat), layC (a ++ r) b = layC a b ++ layC r (layN a b)
  | [], r, b => rfl
  | x :: a, r, b => by simp only [List.cons_append, layC, layN, layC_app a]
theorem layU_app : ∀ (a r : List Tx) (b : Nat), layU (a ++ r) b = layU a b ++ layU r (layN a b)
  | [], r, b => rfl
  | x :: a, r, b => by
    simp only [List.cons_append, layU, layN, layU_app a]
    split
    · rename_i h; simp only [h, if_true]
    · rename_i h; simp only [h, Bool.false_eq_true, if_false, List.cons_append]
theorem own_lay {g : Heap} {lo m b : Nat} {l : List Tx} (hlo : lo ≤ m) (hb : m < b) (hrow : g m = some (.cells (layC l b))) (hus : ∀ u, u ∈ layU l b → g u.1 = u.2) (hz : ∀ x, x ∈ l → (x.z = true → x.b = [])) : OwnT g lo l (.sl 2 m 0 l.length) := by
  refine .inr ⟨m, layC l b, hlo, rfl, hrow, layC_len l b, fun i hi => ?_⟩
  have hl : l = l.take i ++ l[i] :: l.drop (i + 1) := by rw [← List.drop_eq_getElem_cons hi, List.take_append_drop]
  have hlen : (layC (l.take i) b).length = i * 2 := by rw [layC_len, List.length_take]; omega
  have hC : layC l b = layC (l.take i) b ++ .i .i64 l[i].f :: (if l[i].z then .ro true [] 0 else .sl 1 (layN (l.take i) b) 0 l[i].b.length) :: layC (l.drop (i + 1)) (if l[i].z then layN (l.take i) b else layN (l.take i) b + 1) := by
    conv => lhs; rw [hl]
    rw [layC_app]
    rfl
  have hU : layU l b = layU (l.take i) b ++ (if l[i].z then layU (l.drop (i + 1)) (layN (l.take i) b) else (layN (l.take i) b, some (.cells (cellsB l[i].b))) :: layU (l.drop (i + 1)) (layN (l.take i) b + 1)) := by
    conv => lhs; rw [hl]
    rw [layU_app]
    rfl
  have hN := layN_le (l.take i) b
  have hxz := hz l[i] (List.getElem_mem hi)
  have e1 : i * 2 + 1 - i * 2 = 1 := by omega
  refine ⟨?_, ?_⟩
  · rw [hC, List.getElem?_append_right (by omega), hlen, Nat.sub_self]; rfl
  · by_cases h : l[i].z = true
    · left
      refine ⟨?_, hxz h⟩
      rw [hC, List.getElem?_append_right (by omega), hlen, e1, List.getElem?_cons_succ, List.getElem?_cons_zero, if_pos h]
    · right
      refine ⟨layN (l.take i) b, by omega, by omega, ?_, ?_⟩
      · rw [hC, List.getElem?_append_right (by omega), hlen, e1, List.getElem?_cons_succ, List.getElem?_cons_zero, if_neg h]
      · have := hus (layN (l.take i) b, some (.cells (cellsB l[i].b))) (by rw [hU, if_neg h]; exact List.mem_append_right _ (List.mem_cons_self ..))
        exact this
theorem app_lay {g : Heap} {l : List Tx} {b : Nat} : (∀ u, u ∈ layU l b → app (layU l b) g u.1 = u.2) ∧ ∀ x, x < b → app (layU l b) g x = g x := by
  have key : ∀ (l : List Tx) (b : Nat) (g : Heap), (∀ u, u ∈ layU l b → app (layU l b) g u.1 = u.2) ∧ ∀ x, x < b → app (layU l b) g x = g x := by
    intro l
    induction l with
    | nil => exact fun b g => ⟨fun u hu => (nomatch hu), fun x _ => rfl⟩
    | cons y l ih =>
      intro b g
      simp only [layU]
      by_cases hz : y.z = true
      · rw [if_pos hz]; exact ih b g
      · rw [if_neg hz]
        obtain ⟨h1, h2⟩ := ih (b + 1) (upd g b (some (.cells (cellsB y.b))))
        refine ⟨fun u hu => ?_, fun x hx => ?_⟩
        · rw [app_cons]
          rcases List.mem_cons.1 hu with rfl | hu
          · rw [h2 _ (Nat.lt_succ_self _), upd_same]
          · exact h1 u hu
        · rw [app_cons, h2 x (by omega), upd_ne _ _ (by omega)]
  exact key l b g
theorem keepL {h g : Heap} {n b : Nat} {l : List Tx} (hb : n ≤ b) (hk : ∀ x r, x < n → h x = some r → g x = some r) : ∀ x r, x < n → h x = some r → app (layU l b) g x = some r := fun x r hx hr => by
  rw [app_lay.2 x (by omega)]; exact hk x r hx hr
theorem OutR.one {P : Program} {fn : Func} {Φ : AV → Heap → Nat → Prop} {e : Exit} {t : Tmps} {h1 : Heap} {n1 : Nat} {a : Tmp} {x : AV} (he : e = .normal ∨ e = .ret) (hf : fn.results = #[.tmp a]) (hx : t a = x) (hΦ : Φ x h1 n1) : OutR P fn Φ e t h1 n1 :=
  ⟨he, [x], by rw [hf]; simp [resAll, resT, hx], hΦ⟩
theorem OutR.three {P : Program} {fn : Func} {Φ : AV → Heap → Nat → Prop} {e : Exit} {t : Tmps} {h1 : Heap} {n1 : Nat} {a b c : Tmp} {x y z : AV} (he : e = .normal ∨ e = .ret) (hf : fn.results = #[.tmp a, .tmp b, .tmp c]) (hx : t a = x) (hy : t b = y) (hz : t c = z) (hΦ : Φ (.tup [x, y, z]) h1 n1) : OutR P fn Φ e t h1 n1 :=
  ⟨he, [x, y, z], by rw [hf]; simp [resAll, resT, hx, hy, hz], hΦ⟩
def putS (l : List Tx) (t : Tx) : List Tx × Int × Int :=
  if t.f < 0 ∨ t.f ≥ 16 then ([], 0, 1) else if t.b.length > 16384 then ([], 0, 4) else if 0 ≤ idxF t l 0 then (l, idxF t l 0, 0) else (l ++ [t], (l.length : Int), 0)
def PutΦ (h : Heap) (n : Nat) (l : List Tx) (t : Tx) (r : AV) (g : Heap) (_ : Nat) : Prop := ∃ x, r = .tup [x, .i .i64 (putS l t).2.1, .i .i64 (putS l t).2.2] ∧ OwnT g n (putS l t).1 x ∧ ∀ x r, x < n → h x = some r → g x = some r
theorem PutΦ.mk {h g : Heap} {n m : Nat} {l X : List Tx} {t : Tx} {x : AV} {a e : Int} (hp : putS l t = (X, a, e)) (ho : OwnT g n X x) (hk : ∀ x r, x < n → h x = some r → g x = some r) : PutΦ h n l t (.tup [x, .i .i64 a, .i .i64 e]) g m := ⟨x, by rw [hp], by rw [hp]; exact ho, hk⟩
theorem c35r (z : Bool) (l : List Tx) (t : Tx) (hz : z = true → l = []) (hl : l.length ≤ 90000) (hlz : ∀ x, x ∈ l → (x.z = true → x.b = [])) (htz : t.z = true → t.b = []) (S : Sums) (hS : SumOk Try.prog S)
    (h50 : ∀ h, S 50 [.ro z (txs l) l.length, .fn (.func 51) [] [.q (txC t) 0]] h = .pure (.i .i64 (idxF t l 0)))
    (h53n : ∀ h, S 53 [.ro true [] 0] h = .pure (.ro true [] 0))
    (h53 : ∀ h, S 53 [.ro false (txs l) l.length] h = .wide fun m => (.sl 2 m 0 l.length, (m, some (.cells (layC l (m + 1)))) :: layU l (m + 1), layN l (m + 1)))
    (h53o : ∀ j h, h j = some (.cells (txs (l ++ [t]))) → S 53 [.sl 2 j 0 (l.length + 1)] h = .wide fun m => (.sl 2 m 0 (l.length + 1), (j, none) :: (m, some (.cells (layC (l ++ [t]) (m + 1)))) :: layU (l ++ [t]) (m + 1), layN (l ++ [t]) (m + 1)))
    (h54n : ∀ h, S 54 [.ro true [] 0] h = .pure (.ro true [] 0)) (h54 : ∀ h, S 54 [.ro false (txs l) l.length] h = .fresh 2 l.length (txs l)) :
    ∀ h n, DRel Try.prog 35 [.ro z (txs l) l.length, .agg (txC t)] h n (PutΦ h n l t) := by
  intro h n
  refine DRel.of Try.func35 rfl (by decide) (Nat.le_of_ble_eq_true rfl) ?_
  refine AWp.seq ?_
  (refine aw_regionL hS (by kernel_rfl) ?_; repeat (first | apply vr0u | apply vr4 | apply b_tt | apply b_ff | apply b_tf | apply b_ft | apply b_no | exact isD.mk rfl | (apply eqG; (simp only [push_cast, ↓reduceIte, Nat.reduceEqDiff, Nat.reduceAdd, Nat.reduceLeDiff, Int.reduceLE, Int.reduceLT, Int.reduceAdd, Int.reduceSub, Int.reduceNeg, Int.reduceBEq, Int.reduceBNe, Int.reduceEq, Int.reduceGT, Int.reduceGE, Int.reduceMul, Int.reduceToNat, Nat.reduceMul, reduceCtorEq] <;> rfl))))
  refine vr_nil (aw_then ?_)
  refine AWp.frz1 (j := n) (k := 3) (d := 1) (cs := txC t) (x := .q (txC t) 0) (by (simp only [push_cast, ↓reduceIte, Nat.reduceEqDiff, Nat.reduceAdd, Nat.reduceLeDiff, Int.reduceLE, Int.reduceLT, Int.reduceAdd, Int.reduceSub, Int.reduceNeg, Int.reduceBEq, Int.reduceBNe, Int.reduceEq, Int.reduceGT, Int.reduceGE, Int.reduceMul, Int.reduceToNat, Nat.reduceMul, reduceCtorEq] <;> rfl)) (by simp only [push_cast, ↓reduceIte, Nat.reduceEqDiff, Nat.reduceAdd, Nat.reduceLeDiff, Int.reduceLE, Int.reduceLT, Int.reduceAdd, Int.reduceSub, Int.reduceNeg, Int.reduceBEq, Int.reduceBNe, Int.reduceEq, Int.reduceGT, Int.reduceGE, Int.reduceMul, Int.reduceToNat, Nat.reduceMul, reduceCtorEq]; exact frz_p) ?_
  have keepA : ∀ x r, x < n → h x = some r → (upd (upd h n (some (.cells (txC t)))) n none) x = some r := keepU (by omega) (keepU (by omega) keep0)
  generalize hg0 : upd (upd h n (some (.cells (txC t)))) n none = g0 at keepA
  have hgg : upd (upd h n (some (.cells (txC t)))) n none = g0 := hg0
  refine AWp.cut (fun t' h' n' => t' 0 = .ro z (txs l) l.length ∧ t' 3 = .q (txC t) 0 ∧ ¬ (t.f < 0 ∨ t.f ≥ 16) ∧ ¬ (t.b.length > 16384) ∧ n + 1 ≤ n' ∧ ∀ x r, x < n → h x = some r → h' x = some r) ?_ ?_
  · refine AWp.block ?_
    refine AWp.seq ?_
    (refine aw_regionL hS (by kernel_rfl) ?_; repeat (first | apply vr0u | apply vr4 | apply b_tt | apply b_ff | apply b_tf | apply b_ft | apply b_no | exact isD.mk rfl | (apply eqG; (simp only [push_cast, ↓reduceIte, Nat.reduceEqDiff, Nat.reduceAdd, Nat.reduceLeDiff, Int.reduceLE, Int.reduceLT, Int.reduceAdd, Int.reduceSub, Int.reduceNeg, Int.reduceBEq, Int.reduceBNe, Int.reduceEq, Int.reduceGT, Int.reduceGE, Int.reduceMul, Int.reduceToNat, Nat.reduceMul, reduceCtorEq, hgg] <;> rfl))))
    refine br_s (by (simp only [push_cast, ↓reduceIte, Nat.reduceEqDiff, Nat.reduceAdd, Nat.reduceLeDiff, Int.reduceLE, Int.reduceLT, Int.reduceAdd, Int.reduceSub, Int.reduceNeg, Int.reduceBEq, Int.reduceBNe, Int.reduceEq, Int.reduceGT, Int.reduceGE, Int.reduceMul, Int.reduceToNat, Nat.reduceMul, reduceCtorEq, hgg] <;> rfl)) (fun hu => ?_) (fun hu => ?_)
    · have hu := of_decide_eq_true hu
      repeat (first | apply vr0u | apply vr4 | apply b_tt | apply b_ff | apply b_tf | apply b_ft | apply b_no | exact isD.mk rfl | (apply eqG; (simp only [push_cast, ↓reduceIte, Nat.reduceEqDiff, Nat.reduceAdd, Nat.reduceLeDiff, Int.reduceLE, Int.reduceLT, Int.reduceAdd, Int.reduceSub, Int.reduceNeg, Int.reduceBEq, Int.reduceBNe, Int.reduceEq, Int.reduceGT, Int.reduceGE, Int.reduceMul, Int.reduceToNat, Nat.reduceMul, reduceCtorEq, hgg] <;> rfl)))
      refine vr_nil (aw_then ?_)
      refine aw_true (by (simp only [push_cast, ↓reduceIte, Nat.reduceEqDiff, Nat.reduceAdd, Nat.reduceLeDiff, Int.reduceLE, Int.reduceLT, Int.reduceAdd, Int.reduceSub, Int.reduceNeg, Int.reduceBEq, Int.reduceBNe, Int.reduceEq, Int.reduceGT, Int.reduceGE, Int.reduceMul, Int.reduceToNat, Nat.reduceMul, reduceCtorEq, hgg] <;> rfl)) ?_
      refine AWp.seq ?_
      (refine aw_regionL hS (by kernel_rfl) ?_; repeat (first | apply vr0u | apply vr4 | apply b_tt | apply b_ff | apply b_tf | apply b_ft | apply b_no | exact isD.mk rfl | (apply eqG; (simp only [push_cast, ↓reduceIte, Nat.reduceEqDiff, Nat.reduceAdd, Nat.reduceLeDiff, Int.reduceLE, Int.reduceLT, Int.reduceAdd, Int.reduceSub, Int.reduceNeg, Int.reduceBEq, Int.reduceBNe, Int.reduceEq, Int.reduceGT, Int.reduceGE, Int.reduceMul, Int.reduceToNat, Nat.reduceMul, reduceCtorEq, hgg] <;> rfl))))
      refine vr_nil (aw_then ?_)
      refine AWp.ret ?_
      have hp : putS l t = ([], 0, 1) := by rw [putS, if_pos (.inl hu)]
      exact OutR.three (.inr rfl) rfl (by (simp only [push_cast, ↓reduceIte, Nat.reduceEqDiff, Nat.reduceAdd, Nat.reduceLeDiff, Int.reduceLE, Int.reduceLT, Int.reduceAdd, Int.reduceSub, Int.reduceNeg, Int.reduceBEq, Int.reduceBNe, Int.reduceEq, Int.reduceGT, Int.reduceGE, Int.reduceMul, Int.reduceToNat, Nat.reduceMul, reduceCtorEq, hgg] <;> rfl)) (by (simp only [push_cast, ↓reduceIte, Nat.reduceEqDiff, Nat.reduceAdd, Nat.reduceLeDiff, Int.reduceLE, Int.reduceLT, Int.reduceAdd, Int.reduceSub, Int.reduceNeg, Int.reduceBEq, Int.reduceBNe, Int.reduceEq, Int.reduceGT, Int.reduceGE, Int.reduceMul, Int.reduceToNat, Nat.reduceMul, reduceCtorEq, hgg] <;> rfl)) (by (simp only [push_cast, ↓reduceIte, Nat.reduceEqDiff, Nat.reduceAdd, Nat.reduceLeDiff, Int.reduceLE, Int.reduceLT, Int.reduceAdd, Int.reduceSub, Int.reduceNeg, Int.reduceBEq, Int.reduceBNe, Int.reduceEq, Int.reduceGT, Int.reduceGE, Int.reduceMul, Int.reduceToNat, Nat.reduceMul, reduceCtorEq, hgg] <;> rfl)) (PutΦ.mk hp (.inl ⟨rfl, rfl⟩) (by first | exact keepA | (simp only [push_cast, ↓reduceIte, Nat.reduceEqDiff, Nat.reduceAdd, Nat.reduceLeDiff, Int.reduceLE, Int.reduceLT, Int.reduceAdd, Int.reduceSub, Int.reduceNeg, Int.reduceBEq, Int.reduceBNe, Int.reduceEq, Int.reduceGT, Int.reduceGE, Int.reduceMul, Int.reduceToNat, Nat.reduceMul, reduceCtorEq, hgg]; exact keepA)))
    · have hu := of_decide_eq_false hu
      repeat (first | apply vr0u | apply vr4 | apply b_tt | apply b_ff | apply b_tf | apply b_ft | apply b_no | exact isD.mk rfl | (apply eqG; (simp only [push_cast, ↓reduceIte, Nat.reduceEqDiff, Nat.reduceAdd, Nat.reduceLeDiff, Int.reduceLE, Int.reduceLT, Int.reduceAdd, Int.reduceSub, Int.reduceNeg, Int.reduceBEq, Int.reduceBNe, Int.reduceEq, Int.reduceGT, Int.reduceGE, Int.reduceMul, Int.reduceToNat, Nat.reduceMul, reduceCtorEq, hgg] <;> rfl)))
      refine vr_nil (aw_then ?_)
      refine aw_split (by (simp only [push_cast, ↓reduceIte, Nat.reduceEqDiff, Nat.reduceAdd, Nat.reduceLeDiff, Int.reduceLE, Int.reduceLT, Int.reduceAdd, Int.reduceSub, Int.reduceNeg, Int.reduceBEq, Int.reduceBNe, Int.reduceEq, Int.reduceGT, Int.reduceGE, Int.reduceMul, Int.reduceToNat, Nat.reduceMul, reduceCtorEq, hgg] <;> rfl)) (fun hv => ?_) (fun hv => ?_)
      · have hv := of_decide_eq_true hv
        refine AWp.seq ?_
        (refine aw_regionL hS (by kernel_rfl) ?_; repeat (first | apply vr0u | apply vr4 | apply b_tt | apply b_ff | apply b_tf | apply b_ft | apply b_no | exact isD.mk rfl | (apply eqG; (simp only [push_cast, ↓reduceIte, Nat.reduceEqDiff, Nat.reduceAdd, Nat.reduceLeDiff, Int.reduceLE, Int.reduceLT, Int.reduceAdd, Int.reduceSub, Int.reduceNeg, Int.reduceBEq, Int.reduceBNe, Int.reduceEq, Int.reduceGT, Int.reduceGE, Int.reduceMul, Int.reduceToNat, Nat.reduceMul, reduceCtorEq, hgg] <;> rfl))))
        refine vr_nil (aw_then ?_)
        refine AWp.ret ?_
        have hp : putS l t = ([], 0, 1) := by rw [putS, if_pos (.inr hv)]
        exact OutR.three (.inr rfl) rfl (by (simp only [push_cast, ↓reduceIte, Nat.reduceEqDiff, Nat.reduceAdd, Nat.reduceLeDiff, Int.reduceLE, Int.reduceLT, Int.reduceAdd, Int.reduceSub, Int.reduceNeg, Int.reduceBEq, Int.reduceBNe, Int.reduceEq, Int.reduceGT, Int.reduceGE, Int.reduceMul, Int.reduceToNat, Nat.reduceMul, reduceCtorEq, hgg] <;> rfl)) (by (simp only [push_cast, ↓reduceIte, Nat.reduceEqDiff, Nat.reduceAdd, Nat.reduceLeDiff, Int.reduceLE, Int.reduceLT, Int.reduceAdd, Int.reduceSub, Int.reduceNeg, Int.reduceBEq, Int.reduceBNe, Int.reduceEq, Int.reduceGT, Int.reduceGE, Int.reduceMul, Int.reduceToNat, Nat.reduceMul, reduceCtorEq, hgg] <;> rfl)) (by (simp only [push_cast, ↓reduceIte, Nat.reduceEqDiff, Nat.reduceAdd, Nat.reduceLeDiff, Int.reduceLE, Int.reduceLT, Int.reduceAdd, Int.reduceSub, Int.reduceNeg, Int.reduceBEq, Int.reduceBNe, Int.reduceEq, Int.reduceGT, Int.reduceGE, Int.reduceMul, Int.reduceToNat, Nat.reduceMul, reduceCtorEq, hgg] <;> rfl)) (PutΦ.mk hp (.inl ⟨rfl, rfl⟩) (by first | exact keepA | (simp only [push_cast, ↓reduceIte, Nat.reduceEqDiff, Nat.reduceAdd, Nat.reduceLeDiff, Int.reduceLE, Int.reduceLT, Int.reduceAdd, Int.reduceSub, Int.reduceNeg, Int.reduceBEq, Int.reduceBNe, Int.reduceEq, Int.reduceGT, Int.reduceGE, Int.reduceMul, Int.reduceToNat, Nat.reduceMul, reduceCtorEq, hgg]; exact keepA)))
      · have hv := of_decide_eq_false hv
        refine AWp.seq ?_
        (refine aw_regionL hS (by kernel_rfl) ?_; repeat (first | apply vr0u | apply vr4 | apply b_tt | apply b_ff | apply b_tf | apply b_ft | apply b_no | exact isD.mk rfl | (apply eqG; (simp only [push_cast, ↓reduceIte, Nat.reduceEqDiff, Nat.reduceAdd, Nat.reduceLeDiff, Int.reduceLE, Int.reduceLT, Int.reduceAdd, Int.reduceSub, Int.reduceNeg, Int.reduceBEq, Int.reduceBNe, Int.reduceEq, Int.reduceGT, Int.reduceGE, Int.reduceMul, Int.reduceToNat, Nat.reduceMul, reduceCtorEq, hgg] <;> rfl))))
        refine vr_nil (aw_then ?_)
        refine aw_split (by (simp only [push_cast, ↓reduceIte, Nat.reduceEqDiff, Nat.reduceAdd, Nat.reduceLeDiff, Int.reduceLE, Int.reduceLT, Int.reduceAdd, Int.reduceSub, Int.reduceNeg, Int.reduceBEq, Int.reduceBNe, Int.reduceEq, Int.reduceGT, Int.reduceGE, Int.reduceMul, Int.reduceToNat, Nat.reduceMul, reduceCtorEq, hgg] <;> rfl)) (fun hw => ?_) (fun hw => ?_)
        · have hw := of_decide_eq_true hw
          refine AWp.seq ?_
          (refine aw_regionL hS (by kernel_rfl) ?_; repeat (first | apply vr0u | apply vr4 | apply b_tt | apply b_ff | apply b_tf | apply b_ft | apply b_no | exact isD.mk rfl | (apply eqG; (simp only [push_cast, ↓reduceIte, Nat.reduceEqDiff, Nat.reduceAdd, Nat.reduceLeDiff, Int.reduceLE, Int.reduceLT, Int.reduceAdd, Int.reduceSub, Int.reduceNeg, Int.reduceBEq, Int.reduceBNe, Int.reduceEq, Int.reduceGT, Int.reduceGE, Int.reduceMul, Int.reduceToNat, Nat.reduceMul, reduceCtorEq, hgg] <;> rfl))))
          refine vr_nil (aw_then ?_)
          refine AWp.ret ?_
          have hp : putS l t = ([], 0, 4) := by rw [putS, if_neg (by omega), if_pos (by omega)]
          exact OutR.three (.inr rfl) rfl (by (simp only [push_cast, ↓reduceIte, Nat.reduceEqDiff, Nat.reduceAdd, Nat.reduceLeDiff, Int.reduceLE, Int.reduceLT, Int.reduceAdd, Int.reduceSub, Int.reduceNeg, Int.reduceBEq, Int.reduceBNe, Int.reduceEq, Int.reduceGT, Int.reduceGE, Int.reduceMul, Int.reduceToNat, Nat.reduceMul, reduceCtorEq, hgg] <;> rfl)) (by (simp only [push_cast, ↓reduceIte, Nat.reduceEqDiff, Nat.reduceAdd, Nat.reduceLeDiff, Int.reduceLE, Int.reduceLT, Int.reduceAdd, Int.reduceSub, Int.reduceNeg, Int.reduceBEq, Int.reduceBNe, Int.reduceEq, Int.reduceGT, Int.reduceGE, Int.reduceMul, Int.reduceToNat, Nat.reduceMul, reduceCtorEq, hgg] <;> rfl)) (by (simp only [push_cast, ↓reduceIte, Nat.reduceEqDiff, Nat.reduceAdd, Nat.reduceLeDiff, Int.reduceLE, Int.reduceLT, Int.reduceAdd, Int.reduceSub, Int.reduceNeg, Int.reduceBEq, Int.reduceBNe, Int.reduceEq, Int.reduceGT, Int.reduceGE, Int.reduceMul, Int.reduceToNat, Nat.reduceMul, reduceCtorEq, hgg] <;> rfl)) (PutΦ.mk hp (.inl ⟨rfl, rfl⟩) (by first | exact keepA | (simp only [push_cast, ↓reduceIte, Nat.reduceEqDiff, Nat.reduceAdd, Nat.reduceLeDiff, Int.reduceLE, Int.reduceLT, Int.reduceAdd, Int.reduceSub, Int.reduceNeg, Int.reduceBEq, Int.reduceBNe, Int.reduceEq, Int.reduceGT, Int.reduceGE, Int.reduceMul, Int.reduceToNat, Nat.reduceMul, reduceCtorEq, hgg]; exact keepA)))
        · have hw := of_decide_eq_false hw
          exact AWp.skip (aw_in (aw_then ⟨by (simp only [push_cast, ↓reduceIte, Nat.reduceEqDiff, Nat.reduceAdd, Nat.reduceLeDiff, Int.reduceLE, Int.reduceLT, Int.reduceAdd, Int.reduceSub, Int.reduceNeg, Int.reduceBEq, Int.reduceBNe, Int.reduceEq, Int.reduceGT, Int.reduceGE, Int.reduceMul, Int.reduceToNat, Nat.reduceMul, reduceCtorEq, hgg] <;> rfl), by (simp only [push_cast, ↓reduceIte, Nat.reduceEqDiff, Nat.reduceAdd, Nat.reduceLeDiff, Int.reduceLE, Int.reduceLT, Int.reduceAdd, Int.reduceSub, Int.reduceNeg, Int.reduceBEq, Int.reduceBNe, Int.reduceEq, Int.reduceGT, Int.reduceGE, Int.reduceMul, Int.reduceToNat, Nat.reduceMul, reduceCtorEq, hgg] <;> rfl), by omega, by omega, Nat.le_refl _, by first | exact keepA | (simp only [push_cast, ↓reduceIte, Nat.reduceEqDiff, Nat.reduceAdd, Nat.reduceLeDiff, Int.reduceLE, Int.reduceLT, Int.reduceAdd, Int.reduceSub, Int.reduceNeg, Int.reduceBEq, Int.reduceBNe, Int.reduceEq, Int.reduceGT, Int.reduceGE, Int.reduceMul, Int.reduceToNat, Nat.reduceMul, reduceCtorEq, hgg]; exact keepA)⟩))
  · rintro t1 h1 n1 - ⟨e0, e3, p1, p2, hn1, hk⟩
    have hput : putS l t = if 0 ≤ idxF t l 0 then (l, idxF t l 0, 0) else (l ++ [t], (l.length : Int), 0) := by
      rw [putS, if_neg p1, if_neg p2]
    have hfound : 0 ≤ idxF t l 0 → l ≠ [] := fun hi hc => by subst hc; exact absurd hi (by simp [idxF])
    generalize idxF t l 0 = ix at *
    refine AWp.seq ?_
    (refine aw_regionL hS (by kernel_rfl) ?_; repeat (first | apply vr0u | apply vr4 | apply b_tt | apply b_ff | apply b_tf | apply b_ft | apply b_no | exact isD.mk rfl | (apply eqG; (simp only [push_cast, ↓reduceIte, Nat.reduceEqDiff, Nat.reduceAdd, Nat.reduceLeDiff, Int.reduceLE, Int.reduceLT, Int.reduceAdd, Int.reduceSub, Int.reduceNeg, Int.reduceBEq, Int.reduceBNe, Int.reduceEq, Int.reduceGT, Int.reduceGE, Int.reduceMul, Int.reduceToNat, Nat.reduceMul, reduceCtorEq, e0, e3, h50] <;> rfl))))
    refine vr_nil (aw_then ?_)
    refine AWp.seq ?_
    refine AWp.seq ?_
    (refine aw_regionL hS (by kernel_rfl) ?_; repeat (first | apply vr0u | apply vr4 | apply b_tt | apply b_ff | apply b_tf | apply b_ft | apply b_no | exact isD.mk rfl | (apply eqG; (simp only [push_cast, ↓reduceIte, Nat.reduceEqDiff, Nat.reduceAdd, Nat.reduceLeDiff, Int.reduceLE, Int.reduceLT, Int.reduceAdd, Int.reduceSub, Int.reduceNeg, Int.reduceBEq, Int.reduceBNe, Int.reduceEq, Int.reduceGT, Int.reduceGE, Int.reduceMul, Int.reduceToNat, Nat.reduceMul, reduceCtorEq, e0, e3, h50] <;> rfl))))
    refine vr_nil (aw_then ?_)
    refine aw_split (by (simp only [push_cast, ↓reduceIte, Nat.reduceEqDiff, Nat.reduceAdd, Nat.reduceLeDiff, Int.reduceLE, Int.reduceLT, Int.reduceAdd, Int.reduceSub, Int.reduceNeg, Int.reduceBEq, Int.reduceBNe, Int.reduceEq, Int.reduceGT, Int.reduceGE, Int.reduceMul, Int.reduceToNat, Nat.reduceMul, reduceCtorEq, e0, e3, h50] <;> rfl)) (fun hu => ?_) (fun hu => ?_)
    · have hu := of_decide_eq_true hu
      have hzf : z = false := by
        cases z with
        | true => exact absurd (hz rfl) (hfound hu)
        | false => rfl
      subst hzf
      refine AWp.seq ?_
      (refine aw_regionL hS (by kernel_rfl) ?_; repeat (first | apply vr0u | apply vr4 | apply b_tt | apply b_ff | apply b_tf | apply b_ft | apply b_no | exact isD.mk rfl | (apply eqG; (simp only [push_cast, ↓reduceIte, Nat.reduceEqDiff, Nat.reduceAdd, Nat.reduceLeDiff, Int.reduceLE, Int.reduceLT, Int.reduceAdd, Int.reduceSub, Int.reduceNeg, Int.reduceBEq, Int.reduceBNe, Int.reduceEq, Int.reduceGT, Int.reduceGE, Int.reduceMul, Int.reduceToNat, Nat.reduceMul, reduceCtorEq, e0, e3, h53] <;> rfl))))
      refine vr_nil (aw_then ?_)
      refine AWp.ret ?_
      have hp : putS l t = (l, ix, 0) := by rw [hput, if_pos hu]
      refine OutR.three (.inr rfl) rfl (by (simp only [push_cast, ↓reduceIte, Nat.reduceEqDiff, Nat.reduceAdd, Nat.reduceLeDiff, Int.reduceLE, Int.reduceLT, Int.reduceAdd, Int.reduceSub, Int.reduceNeg, Int.reduceBEq, Int.reduceBNe, Int.reduceEq, Int.reduceGT, Int.reduceGE, Int.reduceMul, Int.reduceToNat, Nat.reduceMul, reduceCtorEq, e0, e3, h53] <;> rfl)) (by (simp only [push_cast, ↓reduceIte, Nat.reduceEqDiff, Nat.reduceAdd, Nat.reduceLeDiff, Int.reduceLE, Int.reduceLT, Int.reduceAdd, Int.reduceSub, Int.reduceNeg, Int.reduceBEq, Int.reduceBNe, Int.reduceEq, Int.reduceGT, Int.reduceGE, Int.reduceMul, Int.reduceToNat, Nat.reduceMul, reduceCtorEq, e0, e3, h53] <;> rfl)) (by (simp only [push_cast, ↓reduceIte, Nat.reduceEqDiff, Nat.reduceAdd, Nat.reduceLeDiff, Int.reduceLE, Int.reduceLT, Int.reduceAdd, Int.reduceSub, Int.reduceNeg, Int.reduceBEq, Int.reduceBNe, Int.reduceEq, Int.reduceGT, Int.reduceGE, Int.reduceMul, Int.reduceToNat, Nat.reduceMul, reduceCtorEq, e0, e3, h53] <;> rfl)) (PutΦ.mk hp (own_lay (b := n1 + 1) (m := n1) (by omega) (by omega) ?_ ?_ hlz) (keepL (by omega) (keepU (by omega) hk)))
      · rw [app_lay.2 _ (Nat.lt_succ_self _), upd_same]
      · exact app_lay.1
    · have hu := of_decide_eq_false hu
      refine AWp.skip (aw_then ?_)
      rw [if_neg hu] at hput
      have r1 : rep 1 [AV.i .i64 0, AV.ro true [] 0] = [AV.i .i64 0, AV.ro true [] 0] := rfl
      have r2 : ∀ a b : AV, splice [a, b] 0 (txC t) = txC t := fun a b => rfl
      have r3 : (txC t).length = 2 := rfl
      have hall : ∀ x, x ∈ l ++ [t] → (x.z = true → x.b = []) := fun x hx => by
        rcases List.mem_append.1 hx with hx | hx
        · exact hlz x hx
        · rw [List.mem_singleton.1 hx]; exact htz
      cases z with
      | true =>
        have hl0 := hz rfl
        subst hl0
        have h53o : ∀ j h, h j = some (.cells (txC t)) → S 53 [.sl 2 j 0 1] h = .wide fun m => (.sl 2 m 0 1, (j, none) :: (m, some (.cells (layC [t] (m + 1)))) :: layU [t] (m + 1), layN [t] (m + 1)) := h53o
        have e0 : t1 0 = .ro true [] 0 := e0
        have hN := layN_le [t] (n1 + 1 + 1 + 1)
        refine AWp.seq ?_
        refine aw_drawsL [0, 1, 0, 4, 15, 31, 0, 64, 63, 511, 1023] [4, 5] hS mixed (by kernel_rfl) (by kernel_rfl) ?_
        repeat (first | (refine vd0f (by decide) (by ((repeat (first | rewrite [hpL_t rfl] | rewrite [hpL_f rfl])); (simp only [hpL, app_cons, app_nil] <;> rfl))) (by (simp only [push_cast, ↓reduceIte, Nat.reduceEqDiff, Nat.reduceAdd, Nat.reduceLeDiff, Int.reduceLE, Int.reduceLT, Int.reduceAdd, Int.reduceSub, Int.reduceNeg, Int.reduceBEq, Int.reduceBNe, Int.reduceEq, Int.reduceGT, Int.reduceGE, Int.reduceMul, Int.reduceToNat, Nat.reduceMul, reduceCtorEq, e0, e3, h53o, h54n, r1, r2, r3, Nat.reduceLT] <;> rfl)) ?_) | (refine vd0q rfl (by decide) rfl (by ((repeat (first | rewrite [hpL_t rfl] | rewrite [hpL_f rfl])); (simp only [hpL, app_cons, app_nil] <;> rfl))) (by (simp only [push_cast, ↓reduceIte, Nat.reduceEqDiff, Nat.reduceAdd, Nat.reduceLeDiff, Int.reduceLE, Int.reduceLT, Int.reduceAdd, Int.reduceSub, Int.reduceNeg, Int.reduceBEq, Int.reduceBNe, Int.reduceEq, Int.reduceGT, Int.reduceGE, Int.reduceMul, Int.reduceToNat, Nat.reduceMul, reduceCtorEq, e0, e3, h53o, h54n, r1, r2, r3, Nat.reduceLT] <;> rfl)) (by simp) (by omega) (by intro u hu; simp only [List.mem_cons, List.not_mem_nil, or_false] at hu; rcases hu with rfl | rfl | rfl <;> simp only <;> omega) ?_) | (refine vd0w rfl (by decide) (by ((repeat (first | rewrite [hpL_t rfl] | rewrite [hpL_f rfl])); (simp only [hpL, app_cons, app_nil] <;> rfl))) (by (simp only [push_cast, ↓reduceIte, Nat.reduceEqDiff, Nat.reduceAdd, Nat.reduceLeDiff, Int.reduceLE, Int.reduceLT, Int.reduceAdd, Int.reduceSub, Int.reduceNeg, Int.reduceBEq, Int.reduceBNe, Int.reduceEq, Int.reduceGT, Int.reduceGE, Int.reduceMul, Int.reduceToNat, Nat.reduceMul, reduceCtorEq, e0, e3, h53o, h54n, r1, r2, r3, Nat.reduceLT] <;> rfl)) (by omega) (by intro u hu; simp only [List.mem_cons, List.not_mem_nil, or_false] at hu; rcases hu with rfl | rfl | rfl <;> simp only <;> omega) ?_) | (apply vd0; (focus rfl)) | (apply vd0r; (focus rfl); (focus decide); (focus rfl)) | (apply vd0p; (focus decide)) | apply vd4 | apply b_tt | apply b_ff | apply b_tf | apply b_ft | apply b_no | exact isD.mk rfl | ((repeat (first | rewrite [hpL_t rfl] | rewrite [hpL_f rfl])); (simp only [hpL, app_cons, app_nil] <;> rfl)) | (apply eqG; (simp only [push_cast, ↓reduceIte, Nat.reduceEqDiff, Nat.reduceAdd, Nat.reduceLeDiff, Int.reduceLE, Int.reduceLT, Int.reduceAdd, Int.reduceSub, Int.reduceNeg, Int.reduceBEq, Int.reduceBNe, Int.reduceEq, Int.reduceGT, Int.reduceGE, Int.reduceMul, Int.reduceToNat, Nat.reduceMul, reduceCtorEq, e0, e3, h53o, h54n, r1, r2, r3, Nat.reduceLT] <;> rfl)))
        refine vd0w rfl (by decide) (by ((repeat (first | rewrite [hpL_t rfl] | rewrite [hpL_f rfl])); (simp only [hpL, app_cons, app_nil] <;> rfl))) (by (simp only [push_cast, ↓reduceIte, Nat.reduceEqDiff, Nat.reduceAdd, Nat.reduceLeDiff, Int.reduceLE, Int.reduceLT, Int.reduceAdd, Int.reduceSub, Int.reduceNeg, Int.reduceBEq, Int.reduceBNe, Int.reduceEq, Int.reduceGT, Int.reduceGE, Int.reduceMul, Int.reduceToNat, Nat.reduceMul, reduceCtorEq, e0, e3, h53o, h54n, r1, r2, r3, Nat.reduceLT] <;> rfl)) (by omega) (by
          intro u hu
          rcases List.mem_cons.1 hu with rfl | hu
          · show n1 + 1 < _; omega
          · rcases List.mem_cons.1 hu with rfl | hu
            · show n1 + 1 + 1 < _; omega
            · exact (layU_in _ _ u hu).2.1) ?_
        repeat (first | (refine vd0f (by decide) (by ((repeat (first | rewrite [hpL_t rfl] | rewrite [hpL_f rfl])); (simp only [hpL, app_cons, app_nil] <;> rfl))) (by (simp only [push_cast, ↓reduceIte, Nat.reduceEqDiff, Nat.reduceAdd, Nat.reduceLeDiff, Int.reduceLE, Int.reduceLT, Int.reduceAdd, Int.reduceSub, Int.reduceNeg, Int.reduceBEq, Int.reduceBNe, Int.reduceEq, Int.reduceGT, Int.reduceGE, Int.reduceMul, Int.reduceToNat, Nat.reduceMul, reduceCtorEq, e0, e3, h53o, h54n, r1, r2, r3, Nat.reduceLT] <;> rfl)) ?_) | (refine vd0q rfl (by decide) rfl (by ((repeat (first | rewrite [hpL_t rfl] | rewrite [hpL_f rfl])); (simp only [hpL, app_cons, app_nil] <;> rfl))) (by (simp only [push_cast, ↓reduceIte, Nat.reduceEqDiff, Nat.reduceAdd, Nat.reduceLeDiff, Int.reduceLE, Int.reduceLT, Int.reduceAdd, Int.reduceSub, Int.reduceNeg, Int.reduceBEq, Int.reduceBNe, Int.reduceEq, Int.reduceGT, Int.reduceGE, Int.reduceMul, Int.reduceToNat, Nat.reduceMul, reduceCtorEq, e0, e3, h53o, h54n, r1, r2, r3, Nat.reduceLT] <;> rfl)) (by simp) (by omega) (by intro u hu; simp only [List.mem_cons, List.not_mem_nil, or_false] at hu; rcases hu with rfl | rfl | rfl <;> simp only <;> omega) ?_) | (refine vd0w rfl (by decide) (by ((repeat (first | rewrite [hpL_t rfl] | rewrite [hpL_f rfl])); (simp only [hpL, app_cons, app_nil] <;> rfl))) (by (simp only [push_cast, ↓reduceIte, Nat.reduceEqDiff, Nat.reduceAdd, Nat.reduceLeDiff, Int.reduceLE, Int.reduceLT, Int.reduceAdd, Int.reduceSub, Int.reduceNeg, Int.reduceBEq, Int.reduceBNe, Int.reduceEq, Int.reduceGT, Int.reduceGE, Int.reduceMul, Int.reduceToNat, Nat.reduceMul, reduceCtorEq, e0, e3, h53o, h54n, r1, r2, r3, Nat.reduceLT] <;> rfl)) (by omega) (by intro u hu; simp only [List.mem_cons, List.not_mem_nil, or_false] at hu; rcases hu with rfl | rfl | rfl <;> simp only <;> omega) ?_) | (apply vd0; (focus rfl)) | (apply vd0r; (focus rfl); (focus decide); (focus rfl)) | (apply vd0p; (focus decide)) | apply vd4 | apply b_tt | apply b_ff | apply b_tf | apply b_ft | apply b_no | exact isD.mk rfl | ((repeat (first | rewrite [hpL_t rfl] | rewrite [hpL_f rfl])); (simp only [hpL, app_cons, app_nil] <;> rfl)) | (apply eqG; (simp only [push_cast, ↓reduceIte, Nat.reduceEqDiff, Nat.reduceAdd, Nat.reduceLeDiff, Int.reduceLE, Int.reduceLT, Int.reduceAdd, Int.reduceSub, Int.reduceNeg, Int.reduceBEq, Int.reduceBNe, Int.reduceEq, Int.reduceGT, Int.reduceGE, Int.reduceMul, Int.reduceToNat, Nat.reduceMul, reduceCtorEq, e0, e3, h53o, h54n, r1, r2, r3, Nat.reduceLT] <;> rfl)))
        (refine vd_nil (by simp only [hpL, app_cons, app_nil, if_true] <;> rfl) ?_)
        refine aw_then ?_
        refine AWp.ret ?_
        refine OutR.three (.inr rfl) rfl (by (simp only [push_cast, ↓reduceIte, Nat.reduceEqDiff, Nat.reduceAdd, Nat.reduceLeDiff, Int.reduceLE, Int.reduceLT, Int.reduceAdd, Int.reduceSub, Int.reduceNeg, Int.reduceBEq, Int.reduceBNe, Int.reduceEq, Int.reduceGT, Int.reduceGE, Int.reduceMul, Int.reduceToNat, Nat.reduceMul, reduceCtorEq, e0, e3, h53o, h54n, r1, r2, r3, Nat.reduceLT] <;> rfl)) (by (simp only [push_cast, ↓reduceIte, Nat.reduceEqDiff, Nat.reduceAdd, Nat.reduceLeDiff, Int.reduceLE, Int.reduceLT, Int.reduceAdd, Int.reduceSub, Int.reduceNeg, Int.reduceBEq, Int.reduceBNe, Int.reduceEq, Int.reduceGT, Int.reduceGE, Int.reduceMul, Int.reduceToNat, Nat.reduceMul, reduceCtorEq, e0, e3, h53o, h54n, r1, r2, r3, Nat.reduceLT] <;> rfl)) (by (simp only [push_cast, ↓reduceIte, Nat.reduceEqDiff, Nat.reduceAdd, Nat.reduceLeDiff, Int.reduceLE, Int.reduceLT, Int.reduceAdd, Int.reduceSub, Int.reduceNeg, Int.reduceBEq, Int.reduceBNe, Int.reduceEq, Int.reduceGT, Int.reduceGE, Int.reduceMul, Int.reduceToNat, Nat.reduceMul, reduceCtorEq, e0, e3, h53o, h54n, r1, r2, r3, Nat.reduceLT] <;> rfl)) (PutΦ.mk hput (own_lay (l := [t]) (b := n1 + 1 + 1 + 1) (m := n1 + 1 + 1) (by omega) (by omega) ?_ ?_ hall) (keepL (by omega) (by repeat (first | exact hk | refine keepU (by omega) ?_))))
        · rw [app_lay.2 _ (Nat.lt_succ_self _), upd_same]
        · exact app_lay.1
      | false =>
        have qa : ((txs l).length = l.length * 2) = True := by simp [txs_len]
        have qb : ((l.length + 1) * 32 ≤ 140737488355328) = True := by simp; omega
        have qc : (l.length + 1 ≤ 9223372036854775807) = True := by simp; omega
        have qs := txs_snoc l t
        have u0 : ∀ (g : Heap) (r : Option Row), upd g (n1 + 1) r n1 = g n1 := fun g r => upd_ne _ _ (by omega)
        have u1 : ∀ (g : Heap) (r : Option Row), upd g n1 r (n1 + 1) = g (n1 + 1) := fun g r => upd_ne _ _ (by omega)
        have hN := layN_le (l ++ [t]) (n1 + 1 + 1 + 1 + 1)
        refine AWp.seq ?_
        refine aw_drawsL [0, 1, 0, 4, 15, 31, 0, 64, 63, 511, 1023] [4, 5] hS mixed (by kernel_rfl) (by kernel_rfl) ?_
        repeat (first | (refine vd0f (by decide) (by ((repeat (first | rewrite [hpL_t rfl] | rewrite [hpL_f rfl])); (simp only [hpL, app_cons, app_nil] <;> rfl))) (by (simp only [push_cast, ↓reduceIte, Nat.reduceEqDiff, Nat.reduceAdd, Nat.reduceLeDiff, Int.reduceLE, Int.reduceLT, Int.reduceAdd, Int.reduceSub, Int.reduceNeg, Int.reduceBEq, Int.reduceBNe, Int.reduceEq, Int.reduceGT, Int.reduceGE, Int.reduceMul, Int.reduceToNat, Nat.reduceMul, reduceCtorEq, e0, e3, h53o, h54, r1, r2, r3, qa, qb, qc, qs, u0, u1, Nat.reduceLT] <;> rfl)) ?_) | (refine vd0q rfl (by decide) rfl (by ((repeat (first | rewrite [hpL_t rfl] | rewrite [hpL_f rfl])); (simp only [hpL, app_cons, app_nil] <;> rfl))) (by (simp only [push_cast, ↓reduceIte, Nat.reduceEqDiff, Nat.reduceAdd, Nat.reduceLeDiff, Int.reduceLE, Int.reduceLT, Int.reduceAdd, Int.reduceSub, Int.reduceNeg, Int.reduceBEq, Int.reduceBNe, Int.reduceEq, Int.reduceGT, Int.reduceGE, Int.reduceMul, Int.reduceToNat, Nat.reduceMul, reduceCtorEq, e0, e3, h53o, h54, r1, r2, r3, qa, qb, qc, qs, u0, u1, Nat.reduceLT] <;> rfl)) (by simp) (by omega) (by intro u hu; simp only [List.mem_cons, List.not_mem_nil, or_false] at hu; rcases hu with rfl | rfl | rfl <;> simp only <;> omega) ?_) | (refine vd0w rfl (by decide) (by ((repeat (first | rewrite [hpL_t rfl] | rewrite [hpL_f rfl])); (simp only [hpL, app_cons, app_nil] <;> rfl))) (by (simp only [push_cast, ↓reduceIte, Nat.reduceEqDiff, Nat.reduceAdd, Nat.reduceLeDiff, Int.reduceLE, Int.reduceLT, Int.reduceAdd, Int.reduceSub, Int.reduceNeg, Int.reduceBEq, Int.reduceBNe, Int.reduceEq, Int.reduceGT, Int.reduceGE, Int.reduceMul, Int.reduceToNat, Nat.reduceMul, reduceCtorEq, e0, e3, h53o, h54, r1, r2, r3, qa, qb, qc, qs, u0, u1, Nat.reduceLT] <;> rfl)) (by omega) (by intro u hu; simp only [List.mem_cons, List.not_mem_nil, or_false] at hu; rcases hu with rfl | rfl | rfl <;> simp only <;> omega) ?_) | (apply vd0; (focus rfl)) | (apply vd0r; (focus rfl); (focus decide); (focus rfl)) | (apply vd0p; (focus decide)) | apply vd4 | apply b_tt | apply b_ff | apply b_tf | apply b_ft | apply b_no | exact isD.mk rfl | ((repeat (first | rewrite [hpL_t rfl] | rewrite [hpL_f rfl])); (simp only [hpL, app_cons, app_nil] <;> rfl)) | (apply eqG; (simp only [push_cast, ↓reduceIte, Nat.reduceEqDiff, Nat.reduceAdd, Nat.reduceLeDiff, Int.reduceLE, Int.reduceLT, Int.reduceAdd, Int.reduceSub, Int.reduceNeg, Int.reduceBEq, Int.reduceBNe, Int.reduceEq, Int.reduceGT, Int.reduceGE, Int.reduceMul, Int.reduceToNat, Nat.reduceMul, reduceCtorEq, e0, e3, h53o, h54, r1, r2, r3, qa, qb, qc, qs, u0, u1, Nat.reduceLT] <;> rfl)))
        refine vd0w rfl (by decide) (by ((repeat (first | rewrite [hpL_t rfl] | rewrite [hpL_f rfl])); (simp only [hpL, app_cons, app_nil] <;> rfl))) (by (simp only [push_cast, ↓reduceIte, Nat.reduceEqDiff, Nat.reduceAdd, Nat.reduceLeDiff, Int.reduceLE, Int.reduceLT, Int.reduceAdd, Int.reduceSub, Int.reduceNeg, Int.reduceBEq, Int.reduceBNe, Int.reduceEq, Int.reduceGT, Int.reduceGE, Int.reduceMul, Int.reduceToNat, Nat.reduceMul, reduceCtorEq, e0, e3, h53o, h54, r1, r2, r3, qa, qb, qc, qs, u0, u1, Nat.reduceLT] <;> rfl)) (by omega) (by
          intro u hu
          rcases List.mem_cons.1 hu with rfl | hu
          · show n1 + 1 + 1 < _; omega
          · rcases List.mem_cons.1 hu with rfl | hu
            · show n1 + 1 + 1 + 1 < _; omega
            · exact (layU_in _ _ u hu).2.1) ?_
        repeat (first | (refine vd0f (by decide) (by ((repeat (first | rewrite [hpL_t rfl] | rewrite [hpL_f rfl])); (simp only [hpL, app_cons, app_nil] <;> rfl))) (by (simp only [push_cast, ↓reduceIte, Nat.reduceEqDiff, Nat.reduceAdd, Nat.reduceLeDiff, Int.reduceLE, Int.reduceLT, Int.reduceAdd, Int.reduceSub, Int.reduceNeg, Int.reduceBEq, Int.reduceBNe, Int.reduceEq, Int.reduceGT, Int.reduceGE, Int.reduceMul, Int.reduceToNat, Nat.reduceMul, reduceCtorEq, e0, e3, h53o, h54, r1, r2, r3, qa, qb, qc, qs, u0, u1, Nat.reduceLT] <;> rfl)) ?_) | (refine vd0q rfl (by decide) rfl (by ((repeat (first | rewrite [hpL_t rfl] | rewrite [hpL_f rfl])); (simp only [hpL, app_cons, app_nil] <;> rfl))) (by (simp only [push_cast, ↓reduceIte, Nat.reduceEqDiff, Nat.reduceAdd, Nat.reduceLeDiff, Int.reduceLE, Int.reduceLT, Int.reduceAdd, Int.reduceSub, Int.reduceNeg, Int.reduceBEq, Int.reduceBNe, Int.reduceEq, Int.reduceGT, Int.reduceGE, Int.reduceMul, Int.reduceToNat, Nat.reduceMul, reduceCtorEq, e0, e3, h53o, h54, r1, r2, r3, qa, qb, qc, qs, u0, u1, Nat.reduceLT] <;> rfl)) (by simp) (by omega) (by intro u hu; simp only [List.mem_cons, List.not_mem_nil, or_false] at hu; rcases hu with rfl | rfl | rfl <;> simp only <;> omega) ?_) | (refine vd0w rfl (by decide) (by ((repeat (first | rewrite [hpL_t rfl] | rewrite [hpL_f rfl])); (simp only [hpL, app_cons, app_nil] <;> rfl))) (by (simp only [push_cast, ↓reduceIte, Nat.reduceEqDiff, Nat.reduceAdd, Nat.reduceLeDiff, Int.reduceLE, Int.reduceLT, Int.reduceAdd, Int.reduceSub, Int.reduceNeg, Int.reduceBEq, Int.reduceBNe, Int.reduceEq, Int.reduceGT, Int.reduceGE, Int.reduceMul, Int.reduceToNat, Nat.reduceMul, reduceCtorEq, e0, e3, h53o, h54, r1, r2, r3, qa, qb, qc, qs, u0, u1, Nat.reduceLT] <;> rfl)) (by omega) (by intro u hu; simp only [List.mem_cons, List.not_mem_nil, or_false] at hu; rcases hu with rfl | rfl | rfl <;> simp only <;> omega) ?_) | (apply vd0; (focus rfl)) | (apply vd0r; (focus rfl); (focus decide); (focus rfl)) | (apply vd0p; (focus decide)) | apply vd4 | apply b_tt | apply b_ff | apply b_tf | apply b_ft | apply b_no | exact isD.mk rfl | ((repeat (first | rewrite [hpL_t rfl] | rewrite [hpL_f rfl])); (simp only [hpL, app_cons, app_nil] <;> rfl)) | (apply eqG; (simp only [push_cast, ↓reduceIte, Nat.reduceEqDiff, Nat.reduceAdd, Nat.reduceLeDiff, Int.reduceLE, Int.reduceLT, Int.reduceAdd, Int.reduceSub, Int.reduceNeg, Int.reduceBEq, Int.reduceBNe, Int.reduceEq, Int.reduceGT, Int.reduceGE, Int.reduceMul, Int.reduceToNat, Nat.reduceMul, reduceCtorEq, e0, e3, h53o, h54, r1, r2, r3, qa, qb, qc, qs, u0, u1, Nat.reduceLT] <;> rfl)))
        (refine vd_nil (by simp only [hpL, app_cons, app_nil, if_true] <;> rfl) ?_)
        refine aw_then ?_
        refine AWp.ret ?_
        have hlen : (l ++ [t]).length = l.length + 1 := by simp
        refine OutR.three (.inr rfl) rfl (by (simp only [push_cast, ↓reduceIte, Nat.reduceEqDiff, Nat.reduceAdd, Nat.reduceLeDiff, Int.reduceLE, Int.reduceLT, Int.reduceAdd, Int.reduceSub, Int.reduceNeg, Int.reduceBEq, Int.reduceBNe, Int.reduceEq, Int.reduceGT, Int.reduceGE, Int.reduceMul, Int.reduceToNat, Nat.reduceMul, reduceCtorEq, e0, e3, h53o, h54, r1, r2, r3, qa, qb, qc, qs, u0, u1, Nat.reduceLT] <;> rfl)) (by (simp only [push_cast, ↓reduceIte, Nat.reduceEqDiff, Nat.reduceAdd, Nat.reduceLeDiff, Int.reduceLE, Int.reduceLT, Int.reduceAdd, Int.reduceSub, Int.reduceNeg, Int.reduceBEq, Int.reduceBNe, Int.reduceEq, Int.reduceGT, Int.reduceGE, Int.reduceMul, Int.reduceToNat, Nat.reduceMul, reduceCtorEq, e0, e3, h53o, h54, r1, r2, r3, qa, qb, qc, qs, u0, u1, Nat.reduceLT] <;> rfl)) (by (simp only [push_cast, ↓reduceIte, Nat.reduceEqDiff, Nat.reduceAdd, Nat.reduceLeDiff, Int.reduceLE, Int.reduceLT, Int.reduceAdd, Int.reduceSub, Int.reduceNeg, Int.reduceBEq, Int.reduceBNe, Int.reduceEq, Int.reduceGT, Int.reduceGE, Int.reduceMul, Int.reduceToNat, Nat.reduceMul, reduceCtorEq, e0, e3, h53o, h54, r1, r2, r3, qa, qb, qc, qs, u0, u1, Nat.reduceLT] <;> rfl)) (PutΦ.mk hput (by
          rw [← hlen]
          refine own_lay (l := l ++ [t]) (b := n1 + 1 + 1 + 1 + 1) (m := n1 + 1 + 1 + 1) (by omega) (by omega) ?_ ?_ hall
          · rw [app_lay.2 _ (Nat.lt_succ_self _), upd_same]
          · exact app_lay.1) (keepL (by omega) (by repeat (first | exact hk | refine keepU (by omega) ?_))))
end Go.Proofs.Ytpgohmcolcfhfaa
