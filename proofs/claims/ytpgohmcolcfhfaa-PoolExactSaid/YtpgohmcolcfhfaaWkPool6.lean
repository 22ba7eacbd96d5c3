import Derived.Test.YtpgohmcolcfhfaaWkPool5

namespace Go.Proofs.Ytpgohmcolcfhfaa
open Go.Av
set_option maxRecDepth 100000
set_option maxHeartbeats 1000000
set_option linter.unusedSimpArgs false
set_option linter.unusedVariables false
attribute [local push_cast] stepE callR resE aeff aev ofC ofC1 put_at Av.put_none inTmps List.getD_cons_zero List.getD_cons_succ AV.boxable if_true if_false AV.cells aload place app_cons app_nil upd_same Av.part abin aconv aindexAddr fillA splice_one splice_two abuiltin alen amax amin aun aindex Option.map_some List.map_cons List.map_nil List.nil_append List.append_nil List.cons_append Nat.le_refl Nat.zero_add List.length_cons List.length_nil List.drop_succ_cons List.drop_zero List.take_succ_cons List.take_zero beq_self_eq_true bne_self_eq_false Bool.not_true Bool.not_false List.set_cons_zero List.set_cons_succ Bool.false_eq_true IntWalk.i64_in decide_true decide_false Int.toNat_zero and_self and_true true_and List.getElem?_cons_zero List.getElem?_cons_succ agT_26 szT_26 slT_24 agT_24 szT_24 flT_26_0 flT_26_1 flT_26_3 flT_26_2 agT_22 szT_22 arT_22 agT_3 szT_3 kiT_3 kiT_23 kiT_4 zeT_26 buT_26 zeT_22 buT_22 kiT_9 kiT_51 kiT_5 und_51 slT_51 agT_5 szT_5 aappend aapp view slT_24 zeT_3 byT_24 Bool.and_true Bool.true_and Nat.mul_one alen slT_50 agT_53 szT_53 flT_53_0 flT_53_1 agT_57 szT_57 flT_57_3 slT_54 agT_50 szT_50 agT_51 szT_51 zeT_53 buT_53 zeT_57 buT_57 kiT_34 Option.map_none aslice asliceB amin amax txC_0 txC_1 txC_len txC_take take_cellsB len_cellsB unbytes_cells bkC_3 bkC_len bkC_take

theorem cellsB_inj {a b : List UInt8} (h : cellsB a = cellsB b) : a = b := by
  have := congrArg unbytes h
  rw [unbytes_cells, unbytes_cells] at this
  exact Option.some.inj this
theorem txC_inj {x y : Tx} (h : txC x = txC y) : x = y := by
  simp only [txC, List.cons.injEq, AV.i.injEq, AV.ro.injEq, and_true, true_and] at h
  obtain ⟨h1, h2, h3, _⟩ := h
  have h3 := cellsB_inj h3
  cases x; cases y
  simp only at h1 h2 h3
  rw [h1, h2, h3]
theorem txs_inj : ∀ {l m : List Tx}, txs l = txs m → l = m
  | [], [], _ => rfl
  | [], y :: m, h => by simp [txs, txC] at h
  | x :: l, [], h => by simp [txs, txC] at h
  | x :: l, y :: m, h => by
    have h1 : txC x ++ txs l = txC y ++ txs m := h
    have h2 := List.append_inj h1 rfl
    rw [txC_inj h2.1, txs_inj h2.2]
theorem bkC_inj {x y : Bk} (h : bkC x = bkC y) : x = y := by
  simp only [bkC, List.cons.injEq, AV.i.injEq, AV.ro.injEq, and_true, true_and] at h
  obtain ⟨h1, h2, h3, h4, h5, _⟩ := h
  have h5 := txs_inj h5
  cases x; cases y
  simp only at h1 h2 h3 h4 h5
  rw [h1, h2, h3, h4, h5]
theorem bks_inj : ∀ {l m : List Bk}, bks l = bks m → l = m
  | [], [], _ => rfl
  | [], y :: m, h => by simp [bks, bkC] at h
  | x :: l, [], h => by simp [bks, bkC] at h
  | x :: l, y :: m, h => by
    have h1 : bkC x ++ bks l = bkC y ++ bks m := h
    have h2 := List.append_inj h1 rfl
    rw [bkC_inj h2.1, bks_inj h2.2]
theorem ints_inj {a b : List Int} (h : ints a = ints b) : a = b := by
  have := congrArg (fun l : List AV => l.map fun x => match x with | .i _ m => m | _ => 0) h
  simpa [ints, List.map_map, Function.comp_def] using this
def okL (l : List Tx) : Prop := l.length ≤ 100000 ∧ ∀ x, x ∈ l → x.ok
def okC (c : List Bk) : Prop := c.length ≤ 100000 ∧ ∀ b, b ∈ c → b.l.length ≤ 100000
/-! ### what the functions of the pool tell -/
def Sp60 (args : List AV) (r : AV) : Prop := ∃ za a zb b, args = [.ro za (cellsB a) a.length, .ro zb (cellsB b) b.length] ∧ r = .b (a == b)
def Sp52 (args : List AV) (r : AV) : Prop := ∃ x y, args = [.agg (txC x), .agg (txC y)] ∧ r = .b (sameT x y)
def Sp51 (args : List AV) (r : AV) : Prop := ∃ x t, args = [.agg (txC x), .q (txC t) 0] ∧ r = .b (sameT x t)
def Sp50 (args : List AV) (r : AV) : Prop := ∃ g z l t, (g = 51 ∨ g = 59) ∧ l.length ≤ 100000 ∧ args = [.ro z (txs l) l.length, .fn (.func g) [] [.q (txC t) 0]] ∧ r = .i .i64 (idxF t l 0)
def Sp58 (args : List AV) (r : AV) : Prop := ∃ z l t, l.length ≤ 100000 ∧ args = [.ro z (txs l) l.length, .fn (.func 59) [] [.q (txC t) 0]] ∧ r = .b (anyT t l)
def Sp57 (args : List AV) (r : AV) : Prop := ∃ b t, b.l.length ≤ 100000 ∧ args = [.agg (bkC b), .q (txC t) 0] ∧ r = .b (anyT t b.l)
def Sp62 (args : List AV) (r : AV) : Prop := ∃ z c t, okC c ∧ args = [.ro z (bks c) c.length, .fn (.func 57) [] [.q (txC t) 0]] ∧ r = .i .i64 (idxB t c 0)
def Sp56 (args : List AV) (r : AV) : Prop := ∃ z c t, okC c ∧ args = [.ro z (bks c) c.length, .fn (.func 57) [] [.q (txC t) 0]] ∧ r = .b (inChain t c)
def Sp61 (args : List AV) (r : AV) : Prop := ∃ z b, (z = true → b = []) ∧ b.length ≤ 100000 ∧ args = [.ro z (cellsB b) b.length] ∧ r = .ro z (cellsB b) b.length
def Sp53 (args : List AV) (r : AV) : Prop := ∃ z l, (z = true → l = []) ∧ okL l ∧ args = [.ro z (txs l) l.length] ∧ r = .ro z (txs l) l.length
def Sp35 (args : List AV) (r : AV) : Prop := ∃ z l t, (z = true → l = []) ∧ l.length ≤ 90000 ∧ okL l ∧ t.ok ∧ args = [.ro z (txs l) l.length, .agg (txC t)] ∧ r = putR z l t
def Sp45 (args : List AV) (r : AV) : Prop := ∃ y z b, b.length ≤ 100000 ∧ args = [.ro y (cellsB b) b.length, .ro z (cellsB b) b.length] ∧ r = .b true
def Sp33 (args : List AV) (r : AV) : Prop := ∃ z l, args = [.ro z (txs l) l.length] ∧ r = .b (heavyL l)
def Sp39 (args : List AV) (r : AV) : Prop := ∃ z zt l take, take.length ≤ 100000 ∧ okL l ∧ args = [.ro z (txs l) l.length, .ro zt (ints take) take.length] ∧ r = pickR l take
def Sp42 (args : List AV) (r : AV) : Prop := ∃ z zc l c most, l.length ≤ 100000 ∧ okC c ∧ args = [.ro z (txs l) l.length, .ro zc (bks c) c.length, .i .i64 most] ∧ r = freshR l c most
open Classical in
noncomputable def G54 (args : List AV) (_ : Heap) : Res := match args with
  | [.ro true [] 0] => .pure (.ro true [] 0)
  | [.ro false cs len] => if ∃ l : List Tx, cs = txs l ∧ len = l.length ∧ l.length ≤ 100000 then .fresh 2 len cs else .no
  | _ => .no
theorem pick_ok {l : List Tx} (h : ∀ x, x ∈ l → x.ok) : ∀ (take : List Int) (acc : List Tx), (∀ x, x ∈ acc → x.ok) → ∀ x, x ∈ pickF l take acc → x.ok
  | [], acc, ha, x, hx => ha x hx
  | i :: r, acc, ha, x, hx => by
    simp only [pickF] at hx
    split at hx
    · exact ha x hx
    · split at hx
      · refine pick_ok h r _ (fun y hy => ?_) x hx
        rcases List.mem_append.1 hy with hy | hy
        · exact ha y hy
        · exact h y (List.mem_of_mem_drop (List.mem_of_mem_take hy))
      · exact pick_ok h r acc ha x hx
theorem pick_len {l : List Tx} : ∀ (take : List Int) (acc : List Tx), acc.length ≤ 32 → (pickF l take acc).length ≤ 32
  | [], acc, ha => ha
  | i :: r, acc, ha => by
    simp only [pickF]
    split
    · exact ha
    · rename_i hne
      split
      · refine pick_len r _ ?_
        rw [List.length_append, List.length_take]; omega
      · exact pick_len r acc ha
noncomputable def P1 : Sums := Sums.none.addK 60 Sp60
theorem ok_P1 : SumOk Try.prog P1 := SumOk.none.addK fun args r ⟨za, a, zb, b, h1, h2⟩ => by subst h1 h2; exact c60 za zb a b _ SumOk.none
theorem u60 {za zb : Bool} {a b : List UInt8} : ofSpec Sp60 [.ro za (cellsB a) a.length, .ro zb (cellsB b) b.length] = some (.b (a == b)) :=
  ofSpec_eq ⟨_, _, _, _, rfl, rfl⟩ fun r' ⟨za', a', zb', b', h1, h2⟩ => by
    simp only [List.cons.injEq, AV.ro.injEq, and_true] at h1
    rw [h2, cellsB_inj h1.1.2.1, cellsB_inj h1.2.2.1]
theorem free_ro {z : Bool} {b : List UInt8} {n : Nat} : (AV.ro z (cellsB b) n).free = true := by simp [AV.free, free_cellsB]
theorem free_rt {z : Bool} {l : List Tx} {n : Nat} : (AV.ro z (txs l) n).free = true := by simp [AV.free, free_txs]
theorem free_rb {z : Bool} {l : List Bk} {n : Nat} : (AV.ro z (bks l) n).free = true := by simp [AV.free, free_bks]
theorem free_ri {z : Bool} {l : List Int} {n : Nat} : (AV.ro z (ints l) n).free = true := by simp [AV.free, free_ints]
theorem free_at {t : Tx} : (AV.agg (txC t)).free = true := by simp [AV.free, free_txC]
theorem free_qt {t : Tx} {n : Nat} : (AV.q (txC t) n).free = true := by simp [AV.free, free_txC]
theorem free_bk {b : Bk} : (AV.agg (bkC b)).free = true := by simp [AV.free, bkC, freeAll, free_txs]
theorem free_fn {g : Nat} {t : Tx} : (AV.fn (.func g) [] [.q (txC t) 0]).free = true := by simp [AV.free, freeAll, free_txC]
theorem at60 {za zb : Bool} {a b : List UInt8} (h : Heap) : P1 60 [.ro za (cellsB a) a.length, .ro zb (cellsB b) b.length] h = .pure (.b (a == b)) :=
  viaK_free (by simp [freeAll, free_ro]) u60 rfl h
noncomputable def P2 : Sums := P1.addK 52 Sp52
theorem ok_P2 : SumOk Try.prog P2 := ok_P1.addK fun args r ⟨x, y, h1, h2⟩ => by subst h1 h2; exact c52 x y _ ok_P1 at60
theorem at52 {x y : Tx} (h : Heap) : P2 52 [.agg (txC x), .agg (txC y)] h = .pure (.b (sameT x y)) :=
  viaK_free (by simp [freeAll, free_at]) (ofSpec_eq ⟨_, _, rfl, rfl⟩ fun r' ⟨x', y', h1, h2⟩ => by
    simp only [List.cons.injEq, AV.agg.injEq, and_true] at h1
    rw [h2, txC_inj h1.1, txC_inj h1.2]) rfl h
noncomputable def P3 : Sums := P2.addK 51 Sp51
theorem ok_P3 : SumOk Try.prog P3 := ok_P2.addK fun args r ⟨x, y, h1, h2⟩ => by subst h1 h2; exact c51 x y _ ok_P2 at52
theorem u51 {x t : Tx} : ofSpec Sp51 [.agg (txC x), .q (txC t) 0] = some (.b (sameT x t)) := ofSpec_eq ⟨_, _, rfl, rfl⟩ fun r' ⟨x', y', h1, h2⟩ => by
    simp only [List.cons.injEq, AV.agg.injEq, AV.q.injEq, and_true] at h1
    rw [h2, txC_inj h1.1, txC_inj h1.2]
noncomputable def P4 : Sums := P3.addK 59 Sp51
theorem ok_P4 : SumOk Try.prog P4 := ok_P3.addK fun args r ⟨x, y, h1, h2⟩ => by subst h1 h2; exact c59 x y _ ok_P3 at52
theorem at59 {x t : Tx} (h : Heap) : P4 59 [.agg (txC x), .q (txC t) 0] h = .pure (.b (sameT x t)) := viaK_free (by simp [freeAll, free_at, free_qt]) u51 rfl h
theorem at51 {x t : Tx} (h : Heap) : P4 51 [.agg (txC x), .q (txC t) 0] h = .pure (.b (sameT x t)) := viaK_free (by simp [freeAll, free_at, free_qt]) u51 rfl h
noncomputable def P5 : Sums := P4.addK 50 Sp50
theorem ok_P5 : SumOk Try.prog P5 := ok_P4.addK fun args r ⟨g, z, l, t, hg, hl, h1, h2⟩ => by
  subst h1 h2
  rcases hg with rfl | rfl
  · exact c50 51 z l t hl _ ok_P4 (fun x h => at51 h)
  · exact c50 59 z l t hl _ ok_P4 (fun x h => at59 h)
theorem at50 {g : Nat} {z : Bool} {l : List Tx} {t : Tx} (hg : g = 51 ∨ g = 59) (hl : l.length ≤ 100000) (h : Heap) : P5 50 [.ro z (txs l) l.length, .fn (.func g) [] [.q (txC t) 0]] h = .pure (.i .i64 (idxF t l 0)) :=
  viaK_free (by simp [freeAll, free_rt, free_fn]) (ofSpec_eq ⟨_, _, _, _, hg, hl, rfl, rfl⟩ fun r' ⟨g', z', l', t', _, _, h1, h2⟩ => by
    simp only [List.cons.injEq, AV.ro.injEq, AV.fn.injEq, AV.q.injEq, and_true] at h1
    rw [h2, txs_inj h1.1.2.1, txC_inj h1.2.2.2]) rfl h
noncomputable def P6 : Sums := P5.addK 58 Sp58
theorem ok_P6 : SumOk Try.prog P6 := ok_P5.addK fun args r ⟨z, l, t, hl, h1, h2⟩ => by subst h1 h2; exact c58 z l t _ ok_P5 (fun h => at50 (.inr rfl) hl h)
theorem at58 {z : Bool} {l : List Tx} {t : Tx} (hl : l.length ≤ 100000) (h : Heap) : P6 58 [.ro z (txs l) l.length, .fn (.func 59) [] [.q (txC t) 0]] h = .pure (.b (anyT t l)) :=
  viaK_free (by simp [freeAll, free_rt, free_fn]) (ofSpec_eq ⟨_, _, _, hl, rfl, rfl⟩ fun r' ⟨z', l', t', _, h1, h2⟩ => by
    simp only [List.cons.injEq, AV.ro.injEq, AV.fn.injEq, AV.q.injEq, and_true, true_and] at h1
    rw [h2, txs_inj h1.1.2.1, txC_inj h1.2]) rfl h
noncomputable def P7 : Sums := P6.addK 57 Sp57
theorem ok_P7 : SumOk Try.prog P7 := ok_P6.addK fun args r ⟨b, t, hl, h1, h2⟩ => by subst h1 h2; exact c57 b t _ ok_P6 (fun h => at58 hl h)
theorem at57 {b : Bk} {t : Tx} (hl : b.l.length ≤ 100000) (h : Heap) : P7 57 [.agg (bkC b), .q (txC t) 0] h = .pure (.b (anyT t b.l)) :=
  viaK_free (by simp [freeAll, free_bk, free_qt]) (ofSpec_eq ⟨_, _, hl, rfl, rfl⟩ fun r' ⟨b', t', _, h1, h2⟩ => by
    simp only [List.cons.injEq, AV.agg.injEq, AV.q.injEq, and_true] at h1
    rw [h2, bkC_inj h1.1, txC_inj h1.2]) rfl h
noncomputable def P8 : Sums := P7.addK 62 Sp62
theorem ok_P8 : SumOk Try.prog P8 := ok_P7.addK fun args r ⟨z, c, t, hc, h1, h2⟩ => by subst h1 h2; exact c62 z c t hc.1 _ ok_P7 (fun x hx h => at57 (hc.2 x hx) h)
theorem at62 {z : Bool} {c : List Bk} {t : Tx} (hc : okC c) (h : Heap) : P8 62 [.ro z (bks c) c.length, .fn (.func 57) [] [.q (txC t) 0]] h = .pure (.i .i64 (idxB t c 0)) :=
  viaK_free (by simp [freeAll, free_rb, free_fn]) (ofSpec_eq ⟨_, _, _, hc, rfl, rfl⟩ fun r' ⟨z', l', t', _, h1, h2⟩ => by
    simp only [List.cons.injEq, AV.ro.injEq, AV.fn.injEq, AV.q.injEq, and_true, true_and] at h1
    rw [h2, bks_inj h1.1.2.1, txC_inj h1.2]) rfl h
noncomputable def P9 : Sums := P8.addK 56 Sp56
theorem ok_P9 : SumOk Try.prog P9 := ok_P8.addK fun args r ⟨z, c, t, hc, h1, h2⟩ => by subst h1 h2; exact c56 z c t _ ok_P8 (fun h => at62 hc h)
theorem at56 {z : Bool} {c : List Bk} {t : Tx} (hc : okC c) (h : Heap) : P9 56 [.ro z (bks c) c.length, .fn (.func 57) [] [.q (txC t) 0]] h = .pure (.b (inChain t c)) :=
  viaK_free (by simp [freeAll, free_rb, free_fn]) (ofSpec_eq ⟨_, _, _, hc, rfl, rfl⟩ fun r' ⟨z', l', t', _, h1, h2⟩ => by
    simp only [List.cons.injEq, AV.ro.injEq, AV.fn.injEq, AV.q.injEq, and_true, true_and] at h1
    rw [h2, bks_inj h1.1.2.1, txC_inj h1.2]) rfl h
noncomputable def P10 : Sums := P9.addD 61 Sp61
theorem ok_P10 : SumOk Try.prog P10 := ok_P9.addD fun args r ⟨z, b, hz, hb, h1, h2⟩ => by subst h1 h2; exact c61 z b hz hb _ ok_P9
theorem at61 {z : Bool} {b : List UInt8} (hz : z = true → b = []) (hb : b.length ≤ 100000) (h : Heap) : P10 61 [.ro z (cellsB b) b.length] h = .pure (.ro z (cellsB b) b.length) :=
  viaD_free (by simp [freeAll, free_ro]) (ofSpec_eq ⟨_, _, hz, hb, rfl, rfl⟩ fun r' ⟨z', b', _, _, h1, h2⟩ => by
    simp only [List.cons.injEq, AV.ro.injEq, and_true] at h1
    rw [h2, cellsB_inj h1.2.1, h1.1]) h
noncomputable def P11 : Sums := P10.addG 54 G54
theorem ok_P11 : SumOk Try.prog P11 := ok_P10.addG fun args h => by
  unfold G54
  split
  · exact fun n => c54n _ ok_P10 h n
  · split
    · rename_i hx
      obtain ⟨l, rfl, rfl, hl⟩ := hx
      exact ⟨free_txs l, fun m => c54 l hl _ ok_P10 h m⟩
    · exact trivial
  · exact trivial
theorem at54n (h : Heap) : P11 54 [.ro true [] 0] h = .pure (.ro true [] 0) := rfl
theorem at54 {l : List Tx} (hl : l.length ≤ 100000) (h : Heap) : P11 54 [.ro false (txs l) l.length] h = .fresh 2 l.length (txs l) := if_pos ⟨l, rfl, rfl, hl⟩
noncomputable def P12 : Sums := P11.addD 53 Sp53
theorem ok_P12 : SumOk Try.prog P12 := ok_P11.addD fun args r ⟨z, l, hz, hl, h1, h2⟩ => by
  subst h1 h2
  cases z with
  | true => have := hz rfl; subst this; exact c53n _ ok_P11 at54n
  | false => exact c53 l hl.1 _ ok_P11 (fun h => at54 hl.1 h) (fun x hx h => at61 (hl.2 x hx).1 (hl.2 x hx).2 h)
theorem u53 {z : Bool} {l : List Tx} (hz : z = true → l = []) (hl : okL l) : ofSpec Sp53 [.ro z (txs l) l.length] = some (.ro z (txs l) l.length) :=
  ofSpec_eq ⟨_, _, hz, hl, rfl, rfl⟩ fun r' ⟨z', b', _, _, h1, h2⟩ => by
    simp only [List.cons.injEq, AV.ro.injEq, and_true] at h1
    rw [h2, txs_inj h1.2.1, h1.1]
theorem at53 {z : Bool} {l : List Tx} (hz : z = true → l = []) (hl : okL l) (h : Heap) : P12 53 [.ro z (txs l) l.length] h = .pure (.ro z (txs l) l.length) :=
  viaD_free (by simp [freeAll, free_rt]) (u53 hz hl) h
/-! ### rows of one's own, shown -/
theorem rows_own {h : Heap} {k sz j len : Nat} {cs : List AV} (hj : h j = some (.cells cs)) (hc : freeAll cs = true) : rowsOf h (k + 1) (.sl sz j 0 len) = [j] := by
  simp only [rowsOf, hj, rowss_free h k hc]
theorem frz_own {h : Heap} {D : List Nat} {k sz j len : Nat} {cs : List AV} (hD : j ∈ D) (hj : h j = some (.cells cs)) (hl : cs.length = len * sz) (hc : freeAll cs = true) : frz (pickH h D) (k + 1) (.sl sz j 0 len) = .ro false cs len := by
  have e : pickH h D j = some (.cells cs) := by simp only [pickH, hD, if_true, hj]
  simp only [frz, e]
  rw [if_pos (by omega), List.drop_zero, List.take_of_length_le (by omega), frzs_free _ k hc]
theorem frz_own' {h : Heap} {k sz j len : Nat} {cs : List AV} (hj : h j = some (.cells cs)) (hl : cs.length = len * sz) (hc : freeAll cs = true) : frz h (k + 1) (.sl sz j 0 len) = .ro false cs len := by
  simp only [frz, hj]
  rw [if_pos (by omega), List.drop_zero, List.take_of_length_le (by omega), frzs_free _ k hc]
theorem at53o {l : List Tx} (hl : okL l) (j : Nat) (h : Heap) (hj : h j = some (.cells (txs l))) : P12 53 [.sl 2 j 0 l.length] h = .wide fun m => (.ro false (txs l) l.length, [(j, none)], m) := by
  show viaD (ofSpec Sp53) _ h = _
  have e1 : [AV.sl 2 j 0 l.length].flatMap (rowsOf h 5) = [j] := by simp [rows_own hj (free_txs l)]
  have e2 : [AV.sl 2 j 0 l.length].map (frz (pickH h [j]) 5) = [.ro false (txs l) l.length] := by
    simp only [List.map_cons, List.map_nil]
    rw [frz_own (by simp) hj (txs_len l) (free_txs l)]
  unfold viaD
  rw [e1, e2, u53 (by simp) hl]
  simp [gone]
noncomputable def P13 : Sums := P12.addD 35 Sp35
theorem ok_P13 : SumOk Try.prog P13 := ok_P12.addD fun args r ⟨z, l, t, hz, hl, hok, ht, h1, h2⟩ => by
  subst h1 h2
  have hall : okL (l ++ [t]) := ⟨by simp; omega, fun x hx => by
    rcases List.mem_append.1 hx with hx | hx
    · exact hok.2 x hx
    · rw [List.mem_singleton.1 hx]; exact ht⟩
  exact c35 z l t hz hl _ ok_P12 (fun h => at50 (.inl rfl) hok.1 h) (fun h => at53 hz hok h) (fun j h hj => by
    have := at53o hall j h hj
    rw [List.length_append, List.length_cons, List.length_nil] at this
    exact this) at54n (fun h => at54 hok.1 h)
theorem u35 {z : Bool} {l : List Tx} {t : Tx} (hz : z = true → l = []) (hl : l.length ≤ 90000) (hok : okL l) (ht : t.ok) : ofSpec Sp35 [.ro z (txs l) l.length, .agg (txC t)] = some (putR z l t) :=
  ofSpec_eq ⟨_, _, _, hz, hl, hok, ht, rfl, rfl⟩ fun r' ⟨z', l', t', _, _, _, _, h1, h2⟩ => by
    simp only [List.cons.injEq, AV.ro.injEq, AV.agg.injEq, and_true] at h1
    rw [h2, txs_inj h1.1.2.1, h1.1.1, txC_inj h1.2]
theorem at35 {z : Bool} {l : List Tx} {t : Tx} (hz : z = true → l = []) (hl : l.length ≤ 90000) (hok : okL l) (ht : t.ok) (h : Heap) : P13 35 [.ro z (txs l) l.length, .agg (txC t)] h = .pure (putR z l t) :=
  viaD_free (by simp [freeAll, free_rt, free_at]) (u35 hz hl hok ht) h
/-- Put, of a transaction whose bytes are one's own. -/
theorem at35o {z : Bool} {l : List Tx} {f : Int} {b : List UInt8} {cs : List AV} (hz : z = true → l = []) (hl : l.length ≤ 90000) (hok : okL l) (hb : b.length ≤ 100000) (hcs : cs = cellsB b) (j : Nat) (h : Heap) (hj : h j = some (.cells cs)) :
    P13 35 [.ro z (txs l) l.length, .agg [.i .i64 f, .sl 1 j 0 b.length]] h = .wide fun m => (putR z l ⟨f, false, b⟩, [(j, none)], m) := by
  subst hcs
  show viaD (ofSpec Sp35) _ h = _
  have e1 : [AV.ro z (txs l) l.length, .agg [.i .i64 f, .sl 1 j 0 b.length]].flatMap (rowsOf h 5) = [j] := by
    simp only [List.flatMap_cons, List.flatMap_nil, rowsOf, hj, rowss_free h 3 (free_cellsB b), List.nil_append, List.append_nil]
  have e2 : [AV.ro z (txs l) l.length, .agg [.i .i64 f, .sl 1 j 0 b.length]].map (frz (pickH h [j]) 5) = [.ro z (txs l) l.length, .agg (txC ⟨f, false, b⟩)] := by
    simp only [List.map_cons, List.map_nil]
    rw [frz_free _ 5 _ free_rt]
    have : frz (pickH h [j]) 5 (.agg [.i .i64 f, .sl 1 j 0 b.length]) = .agg [.i .i64 f, frz (pickH h [j]) 4 (.sl 1 j 0 b.length)] := rfl
    rw [this, frz_own (by simp) hj (by simp [cellsB]) (free_cellsB b)]
    rfl
  unfold viaD
  rw [e1, e2, u35 hz hl hok ⟨by simp, hb⟩]
  simp [gone]
noncomputable def P14 : Sums := P13.addK 45 Sp45
theorem ok_P14 : SumOk Try.prog P14 := ok_P13.addK fun args r ⟨y, z, b, hb, h1, h2⟩ => by subst h1 h2; exact c45 y z b hb _ ok_P13
theorem u45 {y z : Bool} {b : List UInt8} (hb : b.length ≤ 100000) : ofSpec Sp45 [.ro y (cellsB b) b.length, .ro z (cellsB b) b.length] = some (.b true) := ofSpec_eq ⟨_, _, _, hb, rfl, rfl⟩ fun r' ⟨_, _, _, _, _, h2⟩ => h2
theorem at45 {y z : Bool} {b : List UInt8} (hb : b.length ≤ 100000) (h : Heap) : P14 45 [.ro y (cellsB b) b.length, .ro z (cellsB b) b.length] h = .pure (.b true) := viaK_free (by simp [freeAll, free_ro]) (u45 hb) rfl h
theorem at45o {y : Bool} {b : List UInt8} {cs : List AV} (hb : b.length ≤ 100000) (hcs : cs = cellsB b) (j : Nat) (h : Heap) (hj : h j = some (.cells cs)) : P14 45 [.ro y (cellsB b) b.length, .sl 1 j 0 b.length] h = .pure (.b true) := by
  subst hcs
  show viaK (ofSpec Sp45) _ h = _
  have e2 : [AV.ro y (cellsB b) b.length, .sl 1 j 0 b.length].map (frz h 5) = [.ro y (cellsB b) b.length, .ro false (cellsB b) b.length] := by
    simp only [List.map_cons, List.map_nil]
    rw [frz_free _ 5 _ free_ro, frz_own' hj (by simp [cellsB]) (free_cellsB b)]
  unfold viaK
  rw [e2, u45 hb]
  rfl
noncomputable def P15 : Sums := P14.addK 33 Sp33
theorem ok_P15 : SumOk Try.prog P15 := ok_P14.addK fun args r ⟨z, l, h1, h2⟩ => by subst h1 h2; exact c33 z l _ ok_P14
theorem at33 {z : Bool} {l : List Tx} (h : Heap) : P15 33 [.ro z (txs l) l.length] h = .pure (.b (heavyL l)) :=
  viaK_free (by simp [freeAll, free_rt]) (ofSpec_eq ⟨_, _, rfl, rfl⟩ fun r' ⟨_, _, h1, h2⟩ => by
    simp only [List.cons.injEq, AV.ro.injEq, and_true] at h1
    rw [h2, txs_inj h1.2.1]) rfl h
noncomputable def P16 : Sums := P15.addD 39 Sp39
theorem ok_P16 : SumOk Try.prog P16 := ok_P15.addD fun args r ⟨z, zt, l, take, ht, hl, h1, h2⟩ => by
  subst h1 h2
  exact c39 z zt l take ht hl.1 _ ok_P15 (fun h => at53 (by simp) ⟨Nat.le_trans (pick_len take [] (by simp)) (by decide), pick_ok hl.2 take [] (by simp)⟩ h)
theorem u39 {z zt : Bool} {l : List Tx} {take : List Int} (ht : take.length ≤ 100000) (hl : okL l) : ofSpec Sp39 [.ro z (txs l) l.length, .ro zt (ints take) take.length] = some (pickR l take) :=
  ofSpec_eq ⟨_, _, _, _, ht, hl, rfl, rfl⟩ fun r' ⟨_, _, _, _, _, _, h1, h2⟩ => by
    simp only [List.cons.injEq, AV.ro.injEq, and_true] at h1
    rw [h2, txs_inj h1.1.2.1, ints_inj h1.2.2.1]
theorem at39 {z zt : Bool} {l : List Tx} {take : List Int} (ht : take.length ≤ 100000) (hl : okL l) (h : Heap) : P16 39 [.ro z (txs l) l.length, .ro zt (ints take) take.length] h = .pure (pickR l take) :=
  viaD_free (by simp [freeAll, free_rt, free_ri]) (u39 ht hl) h
theorem at39o {z : Bool} {l : List Tx} {take : List Int} {cs : List AV} (ht : take.length ≤ 100000) (hl : okL l) (hcs : cs = ints take) (j : Nat) (h : Heap) (hj : h j = some (.cells cs)) :
    P16 39 [.ro z (txs l) l.length, .sl 1 j 0 take.length] h = .wide fun m => (pickR l take, [(j, none)], m) := by
  subst hcs
  show viaD (ofSpec Sp39) _ h = _
  have e1 : [AV.ro z (txs l) l.length, .sl 1 j 0 take.length].flatMap (rowsOf h 5) = [j] := by
    simp only [List.flatMap_cons, List.flatMap_nil, rowsOf, hj, rowss_free h 4 (free_ints take), List.nil_append, List.append_nil]
  have e2 : [AV.ro z (txs l) l.length, .sl 1 j 0 take.length].map (frz (pickH h [j]) 5) = [.ro z (txs l) l.length, .ro false (ints take) take.length] := by
    simp only [List.map_cons, List.map_nil]
    rw [frz_free _ 5 _ free_rt, frz_own (by simp) hj (by simp [ints]) (free_ints take)]
  unfold viaD
  rw [e1, e2, u39 ht hl]
  simp [gone]
noncomputable def P17 : Sums := P16.addD 42 Sp42
theorem ok_P17 : SumOk Try.prog P17 := ok_P16.addD fun args r ⟨z, zc, l, c, most, hl, hc, h1, h2⟩ => by subst h1 h2; exact c42 z zc l c most hl _ ok_P16 (fun x _ h => at56 hc h)
theorem u42 {z zc : Bool} {l : List Tx} {c : List Bk} {most : Int} (hl : l.length ≤ 100000) (hc : okC c) : ofSpec Sp42 [.ro z (txs l) l.length, .ro zc (bks c) c.length, .i .i64 most] = some (freshR l c most) :=
  ofSpec_eq ⟨_, _, _, _, _, hl, hc, rfl, rfl⟩ fun r' ⟨_, _, _, _, _, _, _, h1, h2⟩ => by
    simp only [List.cons.injEq, AV.ro.injEq, AV.i.injEq, and_true, true_and] at h1
    rw [h2, txs_inj h1.1.2.1, bks_inj h1.2.1.2.1, h1.2.2]
theorem at42 {z zc : Bool} {l : List Tx} {c : List Bk} {most : Int} (hl : l.length ≤ 100000) (hc : okC c) (h : Heap) : P17 42 [.ro z (txs l) l.length, .ro zc (bks c) c.length, .i .i64 most] h = .pure (freshR l c most) :=
  viaD_free (by simp [freeAll, AV.free, free_txs, free_bks]) (u42 hl hc) h
theorem c44 (S : Sums) (hS : SumOk Try.prog S) (h1 : ∀ j h, h j = some (.cells [.i .u8 5]) → S 35 [.ro true [] 0, .agg [.i .i64 1, .sl 1 j 0 1]] h = .wide fun m => (putR true [] ⟨1, false, [5]⟩, [(j, none)], m))
    (h2 : ∀ j h, h j = some (.cells [.i .u8 5]) → S 35 [.ro false (txs [⟨1, false, [5]⟩]) 1, .agg [.i .i64 1, .sl 1 j 0 1]] h = .wide fun m => (putR false [⟨1, false, [5]⟩] ⟨1, false, [5]⟩, [(j, none)], m)) :
    PCalls Try.prog 44 [] (.b true) := by
  intro h n
  refine DCalls.of Try.func44 rfl (by decide) (Nat.le_of_ble_eq_true rfl) (Nat.le_refl _) ?_
  have p1 : putR true [] ⟨1, false, [5]⟩ = .tup [.ro false (txs [⟨1, false, [5]⟩]) 1, .i .i64 0, .i .i64 0] := by kernel_rfl
  have p2 : putR false [⟨1, false, [5]⟩] ⟨1, false, [5]⟩ = .tup [.ro false (txs [⟨1, false, [5]⟩]) 1, .i .i64 0, .i .i64 0] := by kernel_rfl
  rw [p1] at h1
  rw [p2] at h2
  have r1 : rep 1 [AV.i .u8 0] = [AV.i .u8 0] := rfl
  refine AWp.seq ?_
  (refine aw_regionL hS (by kernel_rfl) ?_; repeat (first | apply vr0u | apply vr4 | apply b_tt | apply b_ff | apply b_tf | apply b_ft | apply b_no | exact isD.mk rfl | (apply eqG; (simp only [push_cast, ↓reduceIte, Nat.reduceEqDiff, Nat.reduceAdd, Nat.reduceLeDiff, Int.reduceLE, Int.reduceLT, Int.reduceAdd, Int.reduceSub, Int.reduceNeg, Int.reduceBEq, Int.reduceBNe, Int.reduceEq, Int.reduceGT, Int.reduceGE, Int.reduceMul, Int.reduceToNat, Nat.reduceMul, reduceCtorEq, h1, h2, r1, Nat.reduceLT] <;> rfl))))
  refine vr_nil (aw_then ?_)
  refine AWp.seq ?_
  (refine aw_regionL hS (by kernel_rfl) ?_; repeat (first | apply vr0u | apply vr4 | apply b_tt | apply b_ff | apply b_tf | apply b_ft | apply b_no | exact isD.mk rfl | (apply eqG; (simp only [push_cast, ↓reduceIte, Nat.reduceEqDiff, Nat.reduceAdd, Nat.reduceLeDiff, Int.reduceLE, Int.reduceLT, Int.reduceAdd, Int.reduceSub, Int.reduceNeg, Int.reduceBEq, Int.reduceBNe, Int.reduceEq, Int.reduceGT, Int.reduceGE, Int.reduceMul, Int.reduceToNat, Nat.reduceMul, reduceCtorEq, h1, h2, r1, Nat.reduceLT] <;> rfl))))
  refine vr_nil (aw_then ?_)
  refine AWp.seq ?_
  (refine aw_regionL hS (by kernel_rfl) ?_; repeat (first | apply vr0u | apply vr4 | apply b_tt | apply b_ff | apply b_tf | apply b_ft | apply b_no | exact isD.mk rfl | (apply eqG; (simp only [push_cast, ↓reduceIte, Nat.reduceEqDiff, Nat.reduceAdd, Nat.reduceLeDiff, Int.reduceLE, Int.reduceLT, Int.reduceAdd, Int.reduceSub, Int.reduceNeg, Int.reduceBEq, Int.reduceBNe, Int.reduceEq, Int.reduceGT, Int.reduceGE, Int.reduceMul, Int.reduceToNat, Nat.reduceMul, reduceCtorEq, h1, h2, r1, Nat.reduceLT] <;> rfl))))
  refine vr_nil (aw_then ?_)
  refine AWp.seq ?_
  (refine aw_regionL hS (by kernel_rfl) ?_; repeat (first | apply vr0u | apply vr4 | apply b_tt | apply b_ff | apply b_tf | apply b_ft | apply b_no | exact isD.mk rfl | (apply eqG; (simp only [push_cast, ↓reduceIte, Nat.reduceEqDiff, Nat.reduceAdd, Nat.reduceLeDiff, Int.reduceLE, Int.reduceLT, Int.reduceAdd, Int.reduceSub, Int.reduceNeg, Int.reduceBEq, Int.reduceBNe, Int.reduceEq, Int.reduceGT, Int.reduceGE, Int.reduceMul, Int.reduceToNat, Nat.reduceMul, reduceCtorEq, h1, h2, r1, Nat.reduceLT] <;> rfl))))
  refine vr_nil (aw_then ?_)
  refine AWp.ret ?_
  exact Out.pure1 (.inr rfl) rfl (by (simp only [push_cast, ↓reduceIte, Nat.reduceEqDiff, Nat.reduceAdd, Nat.reduceLeDiff, Int.reduceLE, Int.reduceLT, Int.reduceAdd, Int.reduceSub, Int.reduceNeg, Int.reduceBEq, Int.reduceBNe, Int.reduceEq, Int.reduceGT, Int.reduceGE, Int.reduceMul, Int.reduceToNat, Nat.reduceMul, reduceCtorEq, h1, h2, r1, Nat.reduceLT] <;> rfl)) rfl trivial (by repeat (first | exact keep0 | refine keepU (by omega) ?_))
end Go.Proofs.Ytpgohmcolcfhfaa
