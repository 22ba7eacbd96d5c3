import Derived.Test.YtpgohmcolcfhfaaWkOwn3
import Derived.Test.YtpgohmcolcfhfaaWkKeep

namespace Go.Proofs.Ytpgohmcolcfhfaa
open Go.Av
set_option maxRecDepth 100000
set_option maxHeartbeats 1000000
set_option linter.unusedSimpArgs false
set_option linter.unusedVariables false
attribute [local push_cast] stepE callR resE aeff aev ofC ofC1 put_at Av.put_none inTmps List.getD_cons_zero List.getD_cons_succ AV.boxable if_true if_false AV.cells aload place app_cons app_nil upd_same Av.part abin aconv aindexAddr fillA splice_one splice_two abuiltin alen amax amin aun aindex Option.map_some List.map_cons List.map_nil List.nil_append List.append_nil List.cons_append Nat.le_refl Nat.zero_add List.length_cons List.length_nil List.drop_succ_cons List.drop_zero List.take_succ_cons List.take_zero beq_self_eq_true bne_self_eq_false Bool.not_true Bool.not_false List.set_cons_zero List.set_cons_succ Bool.false_eq_true IntWalk.i64_in decide_true decide_false Int.toNat_zero and_self and_true true_and List.getElem?_cons_zero List.getElem?_cons_succ agT_26 szT_26 slT_24 agT_24 szT_24 flT_26_0 flT_26_1 flT_26_3 flT_26_2 agT_22 szT_22 arT_22 agT_3 szT_3 kiT_3 kiT_23 kiT_4 zeT_26 buT_26 zeT_22 buT_22 kiT_9 kiT_51 kiT_5 und_51 slT_51 agT_5 szT_5 aappend aapp view slT_24 zeT_3 byT_24 Bool.and_true Bool.true_and Nat.mul_one alen slT_50 agT_53 szT_53 flT_53_0 flT_53_1 agT_57 szT_57 flT_57_3 slT_54 agT_50 szT_50 agT_51 szT_51 zeT_53 buT_53 zeT_57 buT_57 kiT_34 Option.map_none aslice asliceB amin amax txC_0 txC_1 txC_len txC_take take_cellsB len_cellsB unbytes_cells bkC_3 bkC_len bkC_take

def okX (l : List Tx) : Prop := ∀ x, x ∈ l → (x.z = true → x.b = [])
theorem heavy_ok {l : List Tx} (h : heavyL l = false) (hx : okX l) : l.length ≤ 60 ∧ ∀ x, x ∈ l → x.ok ∧ x.b.length ≤ 500 := by
  simp only [heavyL, Bool.or_eq_false_iff, decide_eq_false_iff_not, List.any_eq_false, decide_eq_true_eq] at h
  exact ⟨by omega, fun x hm => ⟨⟨hx x hm, by have := h.2 x hm; omega⟩, by have := h.2 x hm; omega⟩⟩
theorem own_call {P : Program} {f : FuncId} {h : Heap} {n n' j sz len : Nat} {cs : List AV} {r : AV} {us : List (Nat × Option Row)} (hj : h j = some (.cells cs)) (hl : cs.length = len * sz) (hc : freeAll cs = true) (hd : DCalls P f [.ro false cs len] (upd h j none) n r us n') :
    DCalls P f [.sl sz j 0 len] h n r ((j, none) :: us) n' := by
  refine DCalls.drop (k := 5) (g := only j cs) (h' := upd h j none) (fun i cs' hi => ?_) (fun i r hi => ?_) ?_ rfl (us := us)
  · unfold only at hi
    split at hi
    · rename_i he; subst he; injection hi with hi; injection hi with hi; subst hi; exact hj
    · cases hi
  · by_cases he : i = j
    · subst he; rw [upd_same] at hi; cases hi
    · rw [upd_ne _ _ he] at hi
      refine ⟨hi, fun cs' hc' => ?_⟩
      unfold only at hc'
      rw [if_neg he] at hc'; cases hc'
  · have e : frz (only j cs) 5 (.sl sz j 0 len) = .ro false cs len := by
      rw [show frz (only j cs) 5 (.sl sz j 0 len) = frz (only j cs) (4 + 1) (.sl sz j 0 len) from rfl]
      have e1 : only j cs j = some (.cells cs) := by simp [only]
      simp only [frz, e1]
      rw [if_pos (by omega), List.drop_zero, List.take_of_length_le (by omega), frzs_free _ 4 hc]
    rw [List.map_cons, List.map_nil, e]
    exact hd
def Sp45g (args : List AV) (r : AV) : Prop := ∃ y z a b, a.length ≤ 100000 ∧ args = [.ro y (cellsB a) a.length, .ro z (cellsB b) b.length] ∧ r = .b (a == b)
def Sp55 (args : List AV) (r : AV) : Prop := ∃ x y : Tx, x.b.length ≤ 100000 ∧ args = [.agg (txC x), .agg (txC y)] ∧ r = .b (sameT x y)
def Sp49 (args : List AV) (r : AV) : Prop := ∃ z b, b.length ≤ 100000 ∧ args = [.ro z (cellsB b) b.length] ∧ r = .ro (decide (b = [])) (cellsB b) b.length
def Sp36 (args : List AV) (r : AV) : Prop := ∃ z l t, l.length ≤ 90000 ∧ okL l ∧ t.ok ∧ args = [.ro z (txs l) l.length, .agg (txC t)] ∧ r = rputR l t
def Sp40 (args : List AV) (r : AV) : Prop := ∃ z zt l take, take.length ≤ 100000 ∧ okL l ∧ args = [.ro z (txs l) l.length, .ro zt (ints take) take.length] ∧ r = rpickR l take
def Sp43 (args : List AV) (r : AV) : Prop := ∃ z zc l c most, okL l ∧ okC c ∧ args = [.ro z (txs l) l.length, .ro zc (bks c) c.length, .i .i64 most] ∧ r = freshR l c most
def okB (a : List Tx) : Prop := a.length ≤ 100000 ∧ ∀ x, x ∈ a → x.b.length ≤ 100000
def Sp37 (args : List AV) (r : AV) : Prop := ∃ y z a b, alike a b ∧ okB a ∧ args = [.ro y (txs a) a.length, .ro z (txs b) b.length] ∧ r = .b true
def Sp41 (args : List AV) (r : AV) : Prop := ∃ y z ms, ms.length ≤ 100 ∧ args = [.ro y (ints ms) ms.length, .ro z (ints ms) ms.length] ∧ r = .b true
open Classical in
noncomputable def G34 (args : List AV) (h : Heap) : Res := match args with
  | [.ro _ [] 0] => .pure (.ro true [] 0)
  | [.ro _ cs len] => if hx : ∃ l : List Tx, l ≠ [] ∧ okL l ∧ cs = txs l ∧ len = l.length then .fresh 2 len (txs (hx.choose.map twA)) else .no
  | [.sl 2 j 0 len] => if hx : ∃ l : List Tx, l ≠ [] ∧ okL l ∧ h j = some (.cells (txs l)) ∧ len = l.length then .wide (fun m => (.sl 2 m 0 len, [(j, none), (m, some (.cells (txs (hx.choose.map twA))))], m + 1)) else .no
  | _ => .no
open Classical in
noncomputable def G38 (args : List AV) (h : Heap) : Res := match args with
  | [.ro true [] 0] => .pure (.tup [])
  | [.sl 1 k 0 len] => if hx : ∃ b : List UInt8, b.length ≤ 100000 ∧ h k = some (.cells (cellsB b)) ∧ len = b.length then .wide (fun m => (.tup [], [(k, some (.cells (cellsB (hx.choose.map (· + 101)))))], m)) else .no
  | _ => .no
open Classical in
noncomputable def G61 (args : List AV) (_ : Heap) : Res := match args with
  | [.ro true [] 0] => .pure (.ro true [] 0)
  | [.ro false cs len] => if ∃ b : List UInt8, b.length ≤ 100000 ∧ cs = cellsB b ∧ len = b.length then .fresh 1 len cs else .no
  | _ => .no
def wid (l : List Tx) (m : Nat) : AV × List (Nat × Option Row) × Nat := (.sl 2 m 0 l.length, (m, some (.cells (layC l (m + 1)))) :: layU l (m + 1), layN l (m + 1))
open Classical in
noncomputable def G53 (args : List AV) (h : Heap) : Res := match args with
  | [.ro true [] 0] => .pure (.ro true [] 0)
  | [.ro false cs len] => if hx : ∃ l : List Tx, okL l ∧ cs = txs l ∧ len = l.length then .wide (fun m => wid hx.choose m) else .no
  | [.sl 2 j 0 len] => if hx : ∃ l : List Tx, okL l ∧ h j = some (.cells (txs l)) ∧ len = l.length then .wide (fun m => ((wid hx.choose m).1, (j, none) :: (wid hx.choose m).2.1, (wid hx.choose m).2.2)) else .no
  | _ => .no
noncomputable def Q1 : Sums := P18.addK 45 Sp45g
theorem ok_Q1 : SumOk Try.prog Q1 := ok_P18.addK fun args r ⟨y, z, a, b, hm, h1, h2⟩ => by subst h1 h2; exact c45g y z a b hm _ ok_P18
theorem q45 {y z : Bool} {a b : List UInt8} (hm : a.length ≤ 100000) (h : Heap) : Q1 45 [.ro y (cellsB a) a.length, .ro z (cellsB b) b.length] h = .pure (.b (a == b)) :=
  viaK_free (by simp [freeAll, free_ro]) (ofSpec_eq ⟨_, _, _, _, hm, rfl, rfl⟩ fun r' ⟨_, _, _, _, _, h1, h2⟩ => by
    simp only [List.cons.injEq, AV.ro.injEq, and_true] at h1
    rw [h2, cellsB_inj h1.1.2.1, cellsB_inj h1.2.2.1]) rfl h
noncomputable def Q2 : Sums := Q1.addK 55 Sp55
theorem ok_Q2 : SumOk Try.prog Q2 := ok_Q1.addK fun args r ⟨x, y, hm, h1, h2⟩ => by subst h1 h2; exact c55 x y _ ok_Q1 (fun h => q45 hm h)
theorem q55 {x y : Tx} (hm : x.b.length ≤ 100000) (h : Heap) : Q2 55 [.agg (txC x), .agg (txC y)] h = .pure (.b (sameT x y)) :=
  viaK_free (by simp [freeAll, free_at]) (ofSpec_eq ⟨_, _, hm, rfl, rfl⟩ fun r' ⟨x', y', _, h1, h2⟩ => by
    simp only [List.cons.injEq, AV.agg.injEq, and_true] at h1
    rw [h2, txC_inj h1.1, txC_inj h1.2]) rfl h
noncomputable def Q3 : Sums := Q2.addD 49 Sp49
theorem ok_Q3 : SumOk Try.prog Q3 := ok_Q2.addD fun args r ⟨z, b, hm, h1, h2⟩ => by subst h1 h2; exact c49 z b hm _ ok_Q2
theorem q49 {z : Bool} {b : List UInt8} (hm : b.length ≤ 100000) (h : Heap) : Q3 49 [.ro z (cellsB b) b.length] h = .pure (.ro (decide (b = [])) (cellsB b) b.length) :=
  viaD_free (by simp [freeAll, free_ro]) (ofSpec_eq ⟨_, _, hm, rfl, rfl⟩ fun r' ⟨_, _, _, h1, h2⟩ => by
    simp only [List.cons.injEq, AV.ro.injEq, and_true] at h1
    rw [h2, cellsB_inj h1.2.1]) h
noncomputable def Q4 : Sums := Q3.addG 34 G34
theorem ok_Q4 : SumOk Try.prog Q4 := ok_Q3.addG fun args h => by
  have main : ∀ (z : Bool) (l : List Tx), l ≠ [] → okL l → ∀ h n, DCalls Try.prog 34 [.ro z (txs l) l.length] h n (.sl 2 n 0 l.length) [(n, some (.cells (txs (l.map twA))))] (n + 1) := fun z l hne hl => c34 z l hne hl.1 _ ok_Q3 (fun x hx h => q49 (hl.2 x hx).2 h)
  unfold G34
  split
  · exact fun n => c34n _ _ ok_Q3 h n
  · split
    · rename_i z cs len hn hx
      have hs := hx.choose_spec
      generalize hx.choose = l at *
      obtain ⟨h1, h2, rfl, rfl⟩ := hs
      exact ⟨free_txs _, fun m => main z l h1 h2 h m⟩
    · exact trivial
  · split
    · rename_i j len hx
      have hs := hx.choose_spec
      generalize hx.choose = l at *
      obtain ⟨h1, h2, h3, rfl⟩ := hs
      exact fun n => own_call h3 (txs_len l) (free_txs l) (main false l h1 h2 _ n)
    · exact trivial
  · exact trivial
theorem q34n {z : Bool} (h : Heap) : Q4 34 [.ro z [] 0] h = .pure (.ro true [] 0) := rfl
theorem txs_ne {l : List Tx} (h : l ≠ []) : ∃ a b, txs l = a :: b := by
  cases l with
  | nil => exact absurd rfl h
  | cons x l => exact ⟨_, _, rfl⟩
open Classical in
theorem q34 {z : Bool} {l : List Tx} (hne : l ≠ []) (hl : okL l) (h : Heap) : Q4 34 [.ro z (txs l) l.length] h = .fresh 2 l.length (txs (l.map twA)) := by
  show G34 _ h = _
  have hx : ∃ l' : List Tx, l' ≠ [] ∧ okL l' ∧ txs l = txs l' ∧ l.length = l'.length := ⟨l, hne, hl, rfl, rfl⟩
  have hc : hx.choose = l := (txs_inj hx.choose_spec.2.2.1).symm
  have e : G34 [.ro z (txs l) l.length] h = if hx : ∃ l' : List Tx, l' ≠ [] ∧ okL l' ∧ txs l = txs l' ∧ l.length = l'.length then Res.fresh 2 l.length (txs (hx.choose.map twA)) else Res.no := by
    obtain ⟨a, b, hab⟩ := txs_ne hne
    rw [hab]; rfl
  rw [e, dif_pos hx, hc]
open Classical in
theorem q34o {t : Tx} (ht : t.ok) (j : Nat) (h : Heap) (hj : h j = some (.cells (txC t))) : Q4 34 [.sl 2 j 0 1] h = .wide fun m => (.sl 2 m 0 1, [(j, none), (m, some (.cells (txC (twA t))))], m + 1) := by
  have hx : ∃ l' : List Tx, l' ≠ [] ∧ okL l' ∧ h j = some (.cells (txs l')) ∧ 1 = l'.length := ⟨[t], by simp, ⟨by simp, fun x hx => by rw [List.mem_singleton.1 hx]; exact ht⟩, hj, rfl⟩
  have hc : hx.choose = [t] := by
    have := hj.symm.trans hx.choose_spec.2.2.1
    injection this with this
    injection this with this
    exact (txs_inj (l := [t]) this).symm
  have e : Q4 34 [.sl 2 j 0 1] h = if hx : ∃ l' : List Tx, l' ≠ [] ∧ okL l' ∧ h j = some (.cells (txs l')) ∧ 1 = l'.length then Res.wide (fun m => (.sl 2 m 0 1, [(j, none), (m, some (.cells (txs (hx.choose.map twA))))], m + 1)) else Res.no := rfl
  rw [e, dif_pos hx, hc]
  rfl
noncomputable def Q5 : Sums := Q4.addD 36 Sp36
theorem ok_Q5 : SumOk Try.prog Q5 := ok_Q4.addD fun args r ⟨z, l, t, hl, hok, ht, h1, h2⟩ => by
  subst h1 h2
  exact c36 z l t hl _ ok_Q4 (fun x hx h => q55 (hok.2 x hx).2 h) (fun _ h => q34n h) (fun hne h => q34 hne hok h) (fun j h hj => q34o ht j h hj)
theorem q36 {z : Bool} {l : List Tx} {t : Tx} (hl : l.length ≤ 90000) (hok : okL l) (ht : t.ok) (h : Heap) : Q5 36 [.ro z (txs l) l.length, .agg (txC t)] h = .pure (rputR l t) :=
  viaD_free (by simp [freeAll, free_rt, free_at]) (ofSpec_eq ⟨_, _, _, hl, hok, ht, rfl, rfl⟩ fun r' ⟨_, _, _, _, _, _, h1, h2⟩ => by
    simp only [List.cons.injEq, AV.ro.injEq, AV.agg.injEq, and_true] at h1
    rw [h2, txs_inj h1.1.2.1, txC_inj h1.2]) h
noncomputable def Q6 : Sums := Q5.addD 40 Sp40
theorem ok_Q6 : SumOk Try.prog Q6 := ok_Q5.addD fun args r ⟨z, zt, l, take, ht, hl, h1, h2⟩ => by
  subst h1 h2
  exact c40 z zt l take ht hl.1 _ ok_Q5 (fun h => q34n (z := true) h) (fun hne h => q34 hne ⟨Nat.le_trans (pick_len take [] (by simp)) (by decide), pick_ok hl.2 take [] (by simp)⟩ h)
theorem q40 {z zt : Bool} {l : List Tx} {take : List Int} (ht : take.length ≤ 100000) (hl : okL l) (h : Heap) : Q6 40 [.ro z (txs l) l.length, .ro zt (ints take) take.length] h = .pure (rpickR l take) :=
  viaD_free (by simp [freeAll, free_rt, free_ri]) (ofSpec_eq ⟨_, _, _, _, ht, hl, rfl, rfl⟩ fun r' ⟨_, _, _, _, _, _, h1, h2⟩ => by
    simp only [List.cons.injEq, AV.ro.injEq, and_true] at h1
    rw [h2, txs_inj h1.1.2.1, ints_inj h1.2.2.1]) h
noncomputable def Q7 : Sums := Q6.addD 43 Sp43
theorem ok_Q7 : SumOk Try.prog Q7 := ok_Q6.addD fun args r ⟨z, zc, l, c, most, hl, hc, h1, h2⟩ => by
  subst h1 h2
  exact c43 z zc l c most hl.1 hc _ ok_Q6 (fun x y hx h => q55 (hl.2 x hx).2 h)
theorem q43 {z zc : Bool} {l : List Tx} {c : List Bk} {most : Int} (hl : okL l) (hc : okC c) (h : Heap) : Q7 43 [.ro z (txs l) l.length, .ro zc (bks c) c.length, .i .i64 most] h = .pure (freshR l c most) :=
  viaD_free (by simp [freeAll, AV.free, free_txs, free_bks]) (ofSpec_eq ⟨_, _, _, _, _, hl, hc, rfl, rfl⟩ fun r' ⟨_, _, _, _, _, _, _, h1, h2⟩ => by
    simp only [List.cons.injEq, AV.ro.injEq, AV.i.injEq, and_true, true_and] at h1
    rw [h2, txs_inj h1.1.2.1, bks_inj h1.2.1.2.1, h1.2.2]) h
noncomputable def Q8 : Sums := Q7.addK 37 Sp37
theorem ok_Q8 : SumOk Try.prog Q8 := ok_Q7.addK fun args r ⟨y, z, a, b, hab, ha, h1, h2⟩ => by
  subst h1 h2
  exact c37 y z a b hab ha.1 _ ok_Q7 (fun x w hx hxw h => by
    have := q45 (y := x.z) (z := w.z) (a := x.b) (b := w.b) (ha.2 x hx) h
    refine Eq.trans this ?_
    rw [hxw]; simp)
theorem q37 {x : AV} {z : Bool} {a b : List Tx} {h : Heap} (ha : okB a) (hab : alike a b) (hx : ∃ y, frz h 5 x = .ro y (txs a) a.length) : Q8 37 [x, .ro z (txs b) b.length] h = .pure (.b true) := by
  obtain ⟨y, hy⟩ := hx
  show viaK (ofSpec Sp37) _ h = _
  unfold viaK
  rw [List.map_cons, List.map_cons, List.map_nil, hy, frz_free _ 5 _ free_rt]
  rw [ofSpec_eq (r := .b true) ⟨y, z, a, b, hab, ha, rfl, rfl⟩ fun r' ⟨_, _, _, _, _, _, _, h2⟩ => h2]
  rfl
noncomputable def Q9 : Sums := Q8.addK 41 Sp41
theorem ok_Q9 : SumOk Try.prog Q9 := ok_Q8.addK fun args r ⟨y, z, ms, hm, h1, h2⟩ => by subst h1 h2; exact c41 y z ms hm _ ok_Q8
theorem q41 {y z : Bool} {ms : List Int} (hm : ms.length ≤ 100) (h : Heap) : Q9 41 [.ro y (ints ms) ms.length, .ro z (ints ms) ms.length] h = .pure (.b true) :=
  viaK_free (by simp [freeAll, free_ri]) (ofSpec_eq ⟨_, _, _, hm, rfl, rfl⟩ fun r' ⟨_, _, _, _, _, h2⟩ => h2) rfl h
noncomputable def Q10 : Sums := Q9.addG 38 G38
theorem ok_Q10 : SumOk Try.prog Q10 := ok_Q9.addG fun args h => by
  unfold G38
  split
  · exact fun n => c38n _ ok_Q9 h n
  · split
    · rename_i k len hx
      have hs := hx.choose_spec
      generalize hx.choose = b at *
      obtain ⟨h1, h2, rfl⟩ := hs
      exact fun n => c38 b h1 k _ ok_Q9 h n h2
    · exact trivial
  · exact trivial
theorem q38n (h : Heap) : Q10 38 [.ro true [] 0] h = .pure (.tup []) := rfl
open Classical in
theorem q38 {b : List UInt8} (hb : b.length ≤ 100000) {k : Nat} {h : Heap} (hk : h k = some (.cells (cellsB b))) : Q10 38 [.sl 1 k 0 b.length] h = .wide fun m => (.tup [], [(k, some (.cells (cellsB (b.map (· + 101)))))], m) := by
  have hx : ∃ b' : List UInt8, b'.length ≤ 100000 ∧ h k = some (.cells (cellsB b')) ∧ b.length = b'.length := ⟨b, hb, hk, rfl⟩
  have hc : hx.choose = b := by
    have := hk.symm.trans hx.choose_spec.2.1
    injection this with this
    injection this with this
    exact (cellsB_inj this).symm
  have e : Q10 38 [.sl 1 k 0 b.length] h = if hx : ∃ b' : List UInt8, b'.length ≤ 100000 ∧ h k = some (.cells (cellsB b')) ∧ b.length = b'.length then Res.wide (fun m => (.tup [], [(k, some (.cells (cellsB (hx.choose.map (· + 101)))))], m)) else Res.no := rfl
  rw [e, dif_pos hx, hc]
noncomputable def Q11 : Sums := Q10.addG 61 G61
theorem ok_Q11 : SumOk Try.prog Q11 := ok_Q10.addG fun args h => by
  unfold G61
  split
  · exact fun n => c61 true [] (fun _ => rfl) (by simp) _ ok_Q10 h n
  · split
    · rename_i hx
      obtain ⟨b, hb, rfl, rfl⟩ := hx
      exact ⟨free_cellsB b, fun m => c61w b hb _ ok_Q10 h m⟩
    · exact trivial
  · exact trivial
theorem q61n (h : Heap) : Q11 61 [.ro true [] 0] h = .pure (.ro true [] 0) := rfl
theorem q61 {b : List UInt8} (hb : b.length ≤ 100000) (h : Heap) : Q11 61 [.ro false (cellsB b) b.length] h = .fresh 1 b.length (cellsB b) := if_pos ⟨b, hb, rfl, rfl⟩
noncomputable def Q12 : Sums := Q11.addG 53 G53
theorem ok_Q12 : SumOk Try.prog Q12 := ok_Q11.addG fun args h => by
  have main : ∀ (l : List Tx), okL l → ∀ h n, DCalls Try.prog 53 [.ro false (txs l) l.length] h n (wid l n).1 (wid l n).2.1 (wid l n).2.2 := fun l hl => c53w l hl _ ok_Q11 (fun h => at54 hl.1 h) (fun h => q61n h) (fun x hx h => q61 (hl.2 x hx).2 h)
  unfold G53
  split
  · exact fun n => c53n _ ok_Q11 (fun h => at54n h) h n
  · split
    · rename_i cs len hx
      have hs := hx.choose_spec
      generalize hx.choose = l at *
      obtain ⟨h1, rfl, rfl⟩ := hs
      exact fun n => main l h1 h n
    · exact trivial
  · split
    · rename_i j len hx
      have hs := hx.choose_spec
      generalize hx.choose = l at *
      obtain ⟨h1, h3, rfl⟩ := hs
      exact fun n => own_call h3 (txs_len l) (free_txs l) (main l h1 _ n)
    · exact trivial
  · exact trivial
theorem q53n (h : Heap) : Q12 53 [.ro true [] 0] h = .pure (.ro true [] 0) := rfl
open Classical in
theorem q53 {l : List Tx} (hl : okL l) (h : Heap) : Q12 53 [.ro false (txs l) l.length] h = .wide fun m => (.sl 2 m 0 l.length, (m, some (.cells (layC l (m + 1)))) :: layU l (m + 1), layN l (m + 1)) := by
  have hx : ∃ l' : List Tx, okL l' ∧ txs l = txs l' ∧ l.length = l'.length := ⟨l, hl, rfl, rfl⟩
  have hc : hx.choose = l := (txs_inj hx.choose_spec.2.1).symm
  have e : Q12 53 [.ro false (txs l) l.length] h = if hx : ∃ l' : List Tx, okL l' ∧ txs l = txs l' ∧ l.length = l'.length then Res.wide (fun m => wid hx.choose m) else Res.no := rfl
  rw [e, dif_pos hx, hc]
  rfl
open Classical in
theorem q53o {l : List Tx} (hl : okL l) (j : Nat) (h : Heap) (hj : h j = some (.cells (txs l))) : Q12 53 [.sl 2 j 0 l.length] h = .wide fun m => (.sl 2 m 0 l.length, (j, none) :: (m, some (.cells (layC l (m + 1)))) :: layU l (m + 1), layN l (m + 1)) := by
  have hx : ∃ l' : List Tx, okL l' ∧ h j = some (.cells (txs l')) ∧ l.length = l'.length := ⟨l, hl, hj, rfl⟩
  have hc : hx.choose = l := by
    have := hj.symm.trans hx.choose_spec.2.1
    injection this with this
    injection this with this
    exact (txs_inj this).symm
  have e : Q12 53 [.sl 2 j 0 l.length] h = if hx : ∃ l' : List Tx, okL l' ∧ h j = some (.cells (txs l')) ∧ l.length = l'.length then Res.wide (fun m => ((wid hx.choose m).1, (j, none) :: (wid hx.choose m).2.1, (wid hx.choose m).2.2)) else Res.no := rfl
  rw [e, dif_pos hx, hc]
  rfl
theorem r35 {z : Bool} {l : List Tx} {t : Tx} (hz : z = true → l = []) (hl : l.length ≤ 90000) (hok : okL l) (ht : t.ok) (h : Heap) (n : Nat) : DRel Try.prog 35 [.ro z (txs l) l.length, .agg (txC t)] h n (PutΦ h n l t) := by
  have hall : okL (l ++ [t]) := ⟨by simp; omega, fun x hx => by
    rcases List.mem_append.1 hx with hx | hx
    · exact hok.2 x hx
    · rw [List.mem_singleton.1 hx]; exact ht⟩
  exact c35r z l t hz hl (fun x hx => (hok.2 x hx).1) ht.1 _ ok_Q12 (fun h => at50 (.inl rfl) hok.1 h) (fun h => q53n h) (fun h => q53 hok h) (fun j h hj => by
    have := q53o hall j h hj
    rw [List.length_append, List.length_cons, List.length_nil] at this
    exact this) (fun h => at54n h) (fun h => at54 hok.1 h) h n
theorem r39 {z zt : Bool} {l : List Tx} {take : List Int} (ht : take.length ≤ 100000) (hl : okL l) (h : Heap) (n : Nat) : DRel Try.prog 39 [.ro z (txs l) l.length, .ro zt (ints take) take.length] h n (PickΦ h n (pickF l take [])) := by
  have hp : okL (pickF l take []) := ⟨Nat.le_trans (pick_len take [] (by simp)) (by decide), pick_ok hl.2 take [] (by simp)⟩
  exact c39r z zt l take ht hl.1 _ ok_Q12 (fun x hx => (hp.2 x hx).1) (fun h => q53n h) (fun _ h => q53 hp h) h n
end Go.Proofs.Ytpgohmcolcfhfaa
