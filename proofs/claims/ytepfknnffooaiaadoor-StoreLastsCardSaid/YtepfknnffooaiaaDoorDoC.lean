import Derived.Test.YtepfknnffooaiaaDoorDoB

namespace Go.Proofs.YtepfknnffooaiaaDoor
open Go.Av
set_option maxRecDepth 100000
set_option maxHeartbeats 1000000
set_option linter.unusedSimpArgs false
set_option linter.unusedVariables false
attribute [local push_cast] stepE callR resE aeff aev ofC ofC1 put_at Av.put_none inTmps List.getD_cons_zero List.getD_cons_succ AV.boxable if_true if_false AV.cells aload place app_cons app_nil upd_same Av.part abin aconv aindexAddr fillA splice_one abuiltin alen amax amin aun aindex Option.map_some Option.isSome_some List.map_cons List.map_nil List.nil_append List.append_nil List.cons_append Nat.le_refl Nat.zero_add Nat.add_zero List.length_cons List.length_nil List.drop_succ_cons List.drop_zero List.take_succ_cons List.take_zero beq_self_eq_true bne_self_eq_false Bool.not_true Bool.not_false List.set_cons_zero List.set_cons_succ Bool.false_eq_true IntWalk.i64_in decide_true decide_false Int.toNat_zero and_self and_true true_and List.getElem?_cons_zero List.getElem?_cons_succ aappend aapp view Bool.and_true Bool.true_and Nat.mul_one Option.map_none aslice asliceB nilOp Int.toNat_natCast und_30 agT_3 szT_3 kiT_3 agT_5 szT_5 kiT_5 agT_24 szT_24 kiT_24 agT_62 szT_62 kiT_62 agT_4 szT_4 kiT_4 agT_9 szT_9 kiT_9 agT_44 szT_44 kiT_44 agT_45 szT_45 kiT_45 agT_30 szT_30 kiT_30 agT_22 szT_22 kiT_22 agT_41 szT_41 kiT_41 agT_51 szT_51 kiT_51 agT_52 szT_52 kiT_52 agT_23 szT_23 kiT_23 agT_53 szT_53 kiT_53 agT_27 szT_27 kiT_27 agT_89 szT_89 kiT_89 agT_66 szT_66 kiT_66 agT_20 szT_20 kiT_20 slT_45 slT_44 slT_30 slT_22 slT_41 slT_51 slT_52 zeT_3 zeT_4 zeT_5 zeT_30 zeT_24 flT_55_0 flT_55_1 flT_55_2 flT_55_3 flT_55_4 agT_55 szT_55 buT_55 zeT_55 flT_57_0 flT_57_1 agT_57 szT_57 buT_57 zeT_57 flT_74_0 flT_74_1 agT_74 szT_74 buT_74 zeT_74 flT_77_0 flT_77_1 flT_77_2 agT_77 szT_77 buT_77 zeT_77 flT_47_0 flT_47_1 flT_47_2 flT_47_3 flT_47_4 flT_47_5 agT_47 szT_47 buT_47 zeT_47 flT_61_0 flT_61_1 agT_61 szT_61 buT_61 zeT_61 flT_64_0 flT_64_1 agT_64 szT_64 buT_64 zeT_64 flT_91_0 flT_91_1 agT_91 szT_91 buT_91 zeT_91 ptT_23 ptT_53 ptT_27 ptT_89 und_30 

theorem cellsB_inj : ∀ {a b : List UInt8}, cellsB a = cellsB b → a = b
  | [], [], _ => rfl
  | [], _ :: _, h => by cases h
  | _ :: _, [], h => by cases h
  | x :: a, y :: b, h => by
    simp only [cellsB, List.map_cons, List.cons.injEq, AV.i.injEq, true_and] at h
    have h1 : x = y := UInt8.toNat_inj.1 (by omega)
    rw [h1, cellsB_inj (a := a) (b := b) h.2]
theorem bools_inj : ∀ {a b : List Bool}, bools a = bools b → a = b
  | [], [], _ => rfl
  | [], _ :: _, h => by cases h
  | _ :: _, [], h => by cases h
  | x :: a, y :: b, h => by
    simp only [bools, List.map_cons, List.cons.injEq, AV.b.injEq] at h
    rw [h.1, bools_inj (a := a) (b := b) h.2]
open Classical in
/-- A copy, told as read-only. -/
noncomputable def cloneG {α : Type} (C : List α → List AV) : List AV → Heap → Res := fun args h =>
  if hx : ∃ b : List α, b.length ≤ 1000000 ∧ (args = [.ro false (C b) b.length] ∨ ∃ j, args = [.sl 1 j 0 b.length] ∧ h j = some (.cells (C b))) then .pure (.ro false (C hx.choose) hx.choose.length)
  else if args = [.ro true [] 0] then .pure (.ro true [] 0) else .no
theorem cloneG_ok {α : Type} {C : List α → List AV} {f : FuncId} (h1 : ∀ b : List α, b.length ≤ 1000000 → PCalls Tryd.prog f [.ro false (C b) b.length] (.ro false (C b) b.length))
    (h2 : ∀ (b : List α), b.length ≤ 1000000 → ∀ {h : Heap} {j : Nat}, h j = some (.cells (C b)) → ∀ n, DCalls Tryd.prog f [.sl 1 j 0 b.length] h n (.ro false (C b) b.length) [] n) (h3 : PCalls Tryd.prog f [.ro true [] 0] (.ro true [] 0)) (args : List AV) (h : Heap) : ResOk Tryd.prog f args h (cloneG C args h) := by
  unfold cloneG
  split
  · rename_i hx
    obtain ⟨hb, hc⟩ := hx.choose_spec
    intro n
    rcases hc with hc | ⟨j, hc, hj⟩
    · have := h1 _ hb h n; rwa [← hc] at this
    · have := h2 _ hb hj n; rwa [← hc] at this
  · split
    · rename_i he; intro n; rw [he]; exact h3 h n
    · trivial
theorem cloneG_ro {α : Type} {C : List α → List AV} (inj : ∀ {a b : List α}, C a = C b → a = b) {b : List α} (hb : b.length ≤ 1000000) (h : Heap) : cloneG C [.ro false (C b) b.length] h = .pure (.ro false (C b) b.length) := by
  unfold cloneG
  have hx : ∃ b' : List α, b'.length ≤ 1000000 ∧ ([AV.ro false (C b) b.length] = [.ro false (C b') b'.length] ∨ ∃ j, [AV.ro false (C b) b.length] = [.sl 1 j 0 b'.length] ∧ h j = some (.cells (C b'))) := ⟨b, hb, .inl rfl⟩
  rw [dif_pos hx]
  have hc := hx.choose_spec.2
  revert hc
  generalize hx.choose = c
  intro hc
  have : b = c := by
    rcases hc with hc | ⟨j, hc, hj⟩
    · simp only [List.cons.injEq, AV.ro.injEq, and_true, true_and] at hc
      exact inj hc.1
    · simp at hc
  rw [← this]
theorem cloneG_sl {α : Type} {C : List α → List AV} (inj : ∀ {a b : List α}, C a = C b → a = b) {b : List α} (hb : b.length ≤ 1000000) {h : Heap} {j : Nat} (hj : h j = some (.cells (C b))) : cloneG C [.sl 1 j 0 b.length] h = .pure (.ro false (C b) b.length) := by
  unfold cloneG
  have hx : ∃ b' : List α, b'.length ≤ 1000000 ∧ ([AV.sl 1 j 0 b.length] = [.ro false (C b') b'.length] ∨ ∃ j', [AV.sl 1 j 0 b.length] = [.sl 1 j' 0 b'.length] ∧ h j' = some (.cells (C b'))) := ⟨b, hb, .inr ⟨j, rfl, hj⟩⟩
  rw [dif_pos hx]
  have hc := hx.choose_spec.2
  revert hc
  generalize hx.choose = c
  intro hc
  have : b = c := by
    rcases hc with hc | ⟨j', hc, hj'⟩
    · simp at hc
    · simp only [List.cons.injEq, AV.sl.injEq, and_true, true_and] at hc
      rw [← hc.1, hj] at hj'
      simp only [Option.some.injEq, Row.cells.injEq] at hj'
      exact inj hj'
  rw [← this]
theorem cloneG_nil {α : Type} {C : List α → List AV} (h : Heap) : cloneG C [.ro true [] 0] h = .pure (.ro true [] 0) := by
  unfold cloneG
  rw [dif_neg, if_pos rfl]
  rintro ⟨b, _, hc | ⟨j, hc, _⟩⟩ <;> simp at hc
def G23 : List AV → Heap → Res := fun args h => match args with
  | [.p d 0, .i .i64 i] => (match h d with
    | some (.cells [.sl 2 js 0 N, .sl 2 jn 0 M, pd, .b off, tr]) => .pure (.i .i64 (wrongE off N i))
    | _ => .no)
  | _ => .no
def G12 : List AV → Heap → Res := fun args h => match args with
  | [.p d 0] => (match h d with
    | some (.cells [a, b, pd, .b off, tr]) => .pure (.b off)
    | _ => .no)
  | _ => .no
def G36 : List AV → Heap → Res := fun args h => match args with
  | [.p d 0] => (match h d with
    | some (.cells [.sl 2 js 0 N, b, pd, off, tr]) => .pure (.i .i64 (N : Int))
    | _ => .no)
  | _ => .no
noncomputable def DA : Sums := (Sums.none.addG 28 (cloneG cellsB)).addG 29 (cloneG bools)
noncomputable def DB : Sums := ((DA.addG 39 G23).addG 21 G12).addG 23 G36
theorem ok_DA : SumOk Tryd.prog DA := (SumOk.none.addG (cloneG_ok (fun b hb => c24 b hb _ SumOk.none) (fun b hb {h j} hj => c24s b hb hj _ SumOk.none) (c24n _ SumOk.none))).addG (cloneG_ok (fun b hb => c26 b hb _ SumOk.none) (fun b hb {h j} hj => c26s b hb hj _ SumOk.none) (c26n _ SumOk.none))
theorem ok_DB : SumOk Tryd.prog DB := by
  refine ((ok_DA.addG fun args h => ?_).addG fun args h => ?_).addG fun args h => ?_
  · unfold G23
    split
    · split
      · rename_i hd; exact c23 _ hd _ SumOk.none
      · trivial
    · trivial
  · unfold G12
    split
    · split
      · rename_i hd; exact c12 hd _ SumOk.none
      · trivial
    · trivial
  · unfold G36
    split
    · split
      · rename_i hd; exact c36 hd _ SumOk.none
      · trivial
    · trivial
theorem DB24 (a : List AV) (h : Heap) : DB 28 a h = cloneG cellsB a h := rfl
theorem DB26 (a : List AV) (h : Heap) : DB 29 a h = cloneG bools a h := rfl
theorem at23 {h : Heap} {d js jn N M : Nat} {pd tr : AV} {off : Bool} (i : Int) (hd : h d = some (.cells [.sl 2 js 0 N, .sl 2 jn 0 M, pd, .b off, tr])) : DB 39 [.p d 0, .i .i64 i] h = .pure (.i .i64 (wrongE off N i)) := by
  have : DB 39 [.p d 0, .i .i64 i] h = G23 [.p d 0, .i .i64 i] h := rfl
  rw [this]; simp only [G23, hd]
theorem at12 {h : Heap} {d : Nat} {a b pd tr : AV} {off : Bool} (hd : h d = some (.cells [a, b, pd, .b off, tr])) : DB 21 [.p d 0] h = .pure (.b off) := by
  have : DB 21 [.p d 0] h = G12 [.p d 0] h := rfl
  rw [this]; simp only [G12, hd]
theorem at36 {h : Heap} {d j N : Nat} {b pd off tr : AV} (hd : h d = some (.cells [.sl 2 j 0 N, b, pd, off, tr])) : DB 23 [.p d 0] h = .pure (.i .i64 (N : Int)) := by
  have : DB 23 [.p d 0] h = G36 [.p d 0] h := rfl
  rw [this]; simp only [G36, hd]

/-! ### what a call does to a disk -/
def DW.trips (w : DW) (n : Nat) : Bool × DW × Nat := match w.trip with
  | none => (false, w, n)
  | some x => if x.1 ≤ 1 then (true, w.crash x.2.2.1 x.2.2.2 (n + w.pend.length), n + w.pend.length + 1) else (false, { w with trip := some (x.1 - 1, x.2) }, n)
theorem crash_keys {d : Nat} {w : DW} {keep : List Bool} {torn : Int} {j k : Nat} : k ∈ ((w.crash keep torn j).cont d).keys ↔ k = d ∨ k = w.js ∨ k = j := by
  rw [DW.keys_iff]; simp [DW.crash]
theorem crash_nodup {h : Heap} {d : Nat} {w : DW} (F : DFacts h d w) {keep : List Bool} {torn : Int} {j : Nat} (h1 : d < j) (h2 : w.js < j) : ((w.crash keep torn j).cont d).keys.Nodup := by
  have h3 := F.ds
  simp only [DW.cont, Lst.keys, DW.crash, DW.pL, DW.tL, if_true, List.append_nil, List.map_cons, List.map_nil, List.nodup_cons, List.mem_cons, List.not_mem_nil, or_false, not_or, not_false_eq_true, List.nodup_nil, and_true]
  omega
theorem DOk.setTrip {w : DW} (hw : DOk w) {x} (h : w.trip = some x) {l : Int} (h1 : 1 ≤ l) (h2 : l ≤ x.1) : DOk { w with trip := some (l, x.2) } :=
  ⟨hw.len, hw.n0, hw.pe, hw.s1, hw.s2, fun y hy => by
    have hx := hw.tp x h
    injection hy with hy
    subst hy
    exact ⟨hx.1, hx.2.1, h1, by show l ≤ _; omega⟩⟩
theorem DOk.trips {w : DW} (hw : DOk w) (n : Nat) : DOk (w.trips n).2.1 := by
  unfold DW.trips
  split
  · exact hw
  · rename_i x hx
    split
    · exact hw.crash _ _ _
    · exact hw.setTrip hx (by omega) (by omega)
theorem keys_setTrip {d : Nat} {w : DW} {x y} {j : Nat} (h : w.trip = some x) (hj : j ∈ (({ w with trip := some y } : DW).cont d).keys) : j ∈ (w.cont d).keys := by
  rw [DW.keys_iff] at hj ⊢
  rcases hj with h1 | h1 | h1 | h1 | ⟨h1, h2⟩
  · exact .inl h1
  · exact .inr (.inl h1)
  · exact .inr (.inr (.inl h1))
  · exact .inr (.inr (.inr (.inl h1)))
  · exact .inr (.inr (.inr (.inr ⟨by rw [h]; simp, h2⟩)))
theorem c25 {h : Heap} {d : Nat} {w : DW} (hw : DOk w) (hL : Has h (w.cont d)) (hoff : w.off = false) (hpl : w.pend.length ≤ 1000000) :
    ∀ n, DCalls Tryd.prog 46 [.p d 0] h n (.b (w.trips n).1) (swap (w.cont d) ((w.trips n).2.1.cont d)) (w.trips n).2.2 := by
  intro n
  have hS := ok_DB
  have hnn : n ≤ (w.trips n).2.2 := by
    unfold DW.trips
    split
    · exact Nat.le_refl _
    · split
      · show n ≤ n + _ + 1; omega
      · exact Nat.le_refl _
  rcases has_any hL n with hlt | ⟨j, r, hj, hn⟩
  case inr => exact DCalls.vac ⟨_, Tryd.func46, rfl, by decide⟩ hnn hj hn
  have F := DFacts.of hL
  have hd := F.hd
  have hdn := hlt d (DW.keys_iff.2 (.inl rfl))
  have hsn := hlt w.js (DW.keys_iff.2 (.inr (.inl rfl)))
  simp only [DW.rowD, hoff] at hd
  refine DCalls.of Tryd.func46 rfl (by decide) (Nat.le_of_ble_eq_true rfl) hnn ?_
  refine AWp.seq ?_
  (refine aw_regionL hS (by kernel_rfl) ?_; repeat (first | apply vr0u | apply vr4 | apply b_tt | apply b_ff | apply b_tf | apply b_ft | apply b_no | exact isD.mk rfl | (apply eqG; (simp only [push_cast, ↓reduceIte, Nat.reduceEqDiff, Nat.reduceAdd, Nat.reduceLeDiff, Nat.reduceLT, Int.reduceLE, Int.reduceLT, Int.reduceAdd, Int.reduceSub, Int.reduceNeg, Int.reduceBEq, Int.reduceBNe, Int.reduceEq, Int.reduceGT, Int.reduceGE, Int.reduceMul, Int.reduceToNat, Nat.reduceMul, reduceCtorEq] <;> rfl)) | exact (rfl : app (swap _ _) _ = _)))
  refine vr_nil (aw_then ?_)
  cases htr : w.trip with
  | none =>
    obtain ⟨e1, _⟩ := DW.trip0 htr
    rw [e1] at hd
    have ht : w.trips n = (false, w, n) := by simp only [DW.trips, htr]
    rw [ht]
    refine AWp.seq ?_
    refine AWp.seq ?_
    (refine aw_regionL hS (by kernel_rfl) ?_; repeat (first | apply vr0u | apply vr4 | apply b_tt | apply b_ff | apply b_tf | apply b_ft | apply b_no | exact isD.mk rfl | (apply eqG; (simp only [push_cast, ↓reduceIte, Nat.reduceEqDiff, Nat.reduceAdd, Nat.reduceLeDiff, Nat.reduceLT, Int.reduceLE, Int.reduceLT, Int.reduceAdd, Int.reduceSub, Int.reduceNeg, Int.reduceBEq, Int.reduceBNe, Int.reduceEq, Int.reduceGT, Int.reduceGE, Int.reduceMul, Int.reduceToNat, Nat.reduceMul, reduceCtorEq, hd] <;> rfl)) | exact (rfl : app (swap _ _) _ = _)))
    refine vr_nil (aw_then ?_)
    refine aw_true (by (simp only [push_cast, ↓reduceIte, Nat.reduceEqDiff, Nat.reduceAdd, Nat.reduceLeDiff, Nat.reduceLT, Int.reduceLE, Int.reduceLT, Int.reduceAdd, Int.reduceSub, Int.reduceNeg, Int.reduceBEq, Int.reduceBNe, Int.reduceEq, Int.reduceGT, Int.reduceGE, Int.reduceMul, Int.reduceToNat, Nat.reduceMul, reduceCtorEq, hd] <;> rfl)) ?_
    refine AWp.seq ?_
    (refine aw_regionL hS (by kernel_rfl) ?_; repeat (first | apply vr0u | apply vr4 | apply b_tt | apply b_ff | apply b_tf | apply b_ft | apply b_no | exact isD.mk rfl | (apply eqG; (simp only [push_cast, ↓reduceIte, Nat.reduceEqDiff, Nat.reduceAdd, Nat.reduceLeDiff, Nat.reduceLT, Int.reduceLE, Int.reduceLT, Int.reduceAdd, Int.reduceSub, Int.reduceNeg, Int.reduceBEq, Int.reduceBNe, Int.reduceEq, Int.reduceGT, Int.reduceGE, Int.reduceMul, Int.reduceToNat, Nat.reduceMul, reduceCtorEq, hd] <;> rfl)) | exact (rfl : app (swap _ _) _ = _)))
    refine vr_nil (aw_then ?_)
    refine AWp.ret ?_
    exact Out.disk (w' := w) (xs := [.b false]) (.inr rfl) (by simp [Tryd.f46, resAll, resT]; (simp only [push_cast, ↓reduceIte, Nat.reduceEqDiff, Nat.reduceAdd, Nat.reduceLeDiff, Nat.reduceLT, Int.reduceLE, Int.reduceLT, Int.reduceAdd, Int.reduceSub, Int.reduceNeg, Int.reduceBEq, Int.reduceBNe, Int.reduceEq, Int.reduceGT, Int.reduceGE, Int.reduceMul, Int.reduceToNat, Nat.reduceMul, reduceCtorEq, hd] <;> rfl)) rfl (Nat.le_refl _) (Nat.le_refl _) trivial hL hlt F (fun j hj => .inl hj) keepX0
  | some x =>
    obtain ⟨e1, _⟩ := DW.trip1 htr
    obtain ⟨ht0, t1, t2, t3, t4⟩ := F.ht x htr
    obtain ⟨y1, y2, y3, y4⟩ := hw.tp x htr
    have htn := hlt w.jt (DW.keys_iff.2 (.inr (.inr (.inr (.inr ⟨by rw [htr]; simp, rfl⟩)))))
    rw [e1] at hd
    have w1 : IntKind.wrap .i64 (x.1 - 1) = x.1 - 1 := IntWalk.i64_in _ (by omega)
    have u0 : ∀ (g : Heap) (r : Option Row), upd g w.jt r d = g d := fun g r => upd_ne _ _ (by omega)
    have ht1 : h w.jt = some (.cells [.i .i64 x.1, .ro x.2.1 (bools x.2.2.1) x.2.2.1.length, .i .i64 x.2.2.2]) := ht0
    generalize hg : upd h w.jt (some (.cells [.i .i64 (x.1 - 1), .ro x.2.1 (bools x.2.2.1) x.2.2.1.length, .i .i64 x.2.2.2])) = g
    have F1 : DFacts g d { w with trip := some (x.1 - 1, x.2) } := by
      subst hg
      refine ⟨?_, ?_, ?_, fun hp => ?_, fun y hy => ?_, F.ds, F.dn, F.sn⟩
      · rw [upd_ne _ _ (by omega), F.hd]; simp only [DW.rowD, DW.tr, DW.pd, htr]
      · show upd _ _ _ w.js = _
        rw [upd_ne _ _ (by omega)]; exact F.hs
      · show upd _ _ _ w.jn = _
        rw [upd_ne _ _ (by omega)]; exact F.hn
      · have hp : w.pend ≠ [] := hp
        obtain ⟨a1, a2, a3, a4⟩ := F.hp hp
        have a5 := t4 hp
        refine ⟨?_, a2, a3, a4⟩
        show upd _ _ _ w.jp = _
        rw [upd_ne _ _ (by omega)]; exact a1
      · injection hy with hy
        subst hy
        exact ⟨upd_same .., t1, t2, t3, t4⟩
    have hg1 : upd h w.jt (some (.cells [.i .i64 (x.1 - 1), .ro x.2.1 (bools x.2.2.1) x.2.2.1.length, .i .i64 x.2.2.2])) = g := hg
    have hgd : g d = some (.cells [.sl 2 w.js 0 w.safe.length, .sl 2 w.jn 0 w.now.length, w.pd, .b false, .p w.jt 0]) := by rw [← hg, u0]; exact hd
    have hgt : g w.jt = some (.cells [.i .i64 (x.1 - 1), .ro x.2.1 (bools x.2.2.1) x.2.2.1.length, .i .i64 x.2.2.2]) := by rw [← hg, upd_same]
    have hgk : ∀ y r, y < n → h y = some r → y ∉ (w.cont d).keys → g y = some r := by
      rw [← hg]
      exact keepX (.inr (DW.keys_iff.2 (.inr (.inr (.inr (.inr ⟨by rw [htr]; simp, rfl⟩)))))) keepX0
    refine AWp.seq ?_
    refine AWp.seq ?_
    (refine aw_regionL hS (by kernel_rfl) ?_; repeat (first | apply vr0u | apply vr4 | apply b_tt | apply b_ff | apply b_tf | apply b_ft | apply b_no | exact isD.mk rfl | (apply eqG; (simp only [push_cast, ↓reduceIte, Nat.reduceEqDiff, Nat.reduceAdd, Nat.reduceLeDiff, Nat.reduceLT, Int.reduceLE, Int.reduceLT, Int.reduceAdd, Int.reduceSub, Int.reduceNeg, Int.reduceBEq, Int.reduceBNe, Int.reduceEq, Int.reduceGT, Int.reduceGE, Int.reduceMul, Int.reduceToNat, Nat.reduceMul, reduceCtorEq, hd, ht1, w1, hg1, hgd, hgt] <;> rfl)) | exact (rfl : app (swap _ _) _ = _)))
    refine vr_nil (aw_then ?_)
    refine aw_false (by (simp only [push_cast, ↓reduceIte, Nat.reduceEqDiff, Nat.reduceAdd, Nat.reduceLeDiff, Nat.reduceLT, Int.reduceLE, Int.reduceLT, Int.reduceAdd, Int.reduceSub, Int.reduceNeg, Int.reduceBEq, Int.reduceBNe, Int.reduceEq, Int.reduceGT, Int.reduceGE, Int.reduceMul, Int.reduceToNat, Nat.reduceMul, reduceCtorEq, hd, ht1, w1, hg1, hgd, hgt] <;> rfl)) (AWp.skip (aw_then ?_))
    refine AWp.seq ?_
    (refine aw_regionL hS (by kernel_rfl) ?_; repeat (first | apply vr0u | apply vr4 | apply b_tt | apply b_ff | apply b_tf | apply b_ft | apply b_no | exact isD.mk rfl | (apply eqG; (simp only [push_cast, ↓reduceIte, Nat.reduceEqDiff, Nat.reduceAdd, Nat.reduceLeDiff, Nat.reduceLT, Int.reduceLE, Int.reduceLT, Int.reduceAdd, Int.reduceSub, Int.reduceNeg, Int.reduceBEq, Int.reduceBNe, Int.reduceEq, Int.reduceGT, Int.reduceGE, Int.reduceMul, Int.reduceToNat, Nat.reduceMul, reduceCtorEq, hd, ht1, w1, hg1, hgd, hgt] <;> rfl)) | exact (rfl : app (swap _ _) _ = _)))
    refine vr_nil (aw_then ?_)
    refine AWp.seq ?_
    refine AWp.seq ?_
    (refine aw_regionL hS (by kernel_rfl) ?_; repeat (first | apply vr0u | apply vr4 | apply b_tt | apply b_ff | apply b_tf | apply b_ft | apply b_no | exact isD.mk rfl | (apply eqG; (simp only [push_cast, ↓reduceIte, Nat.reduceEqDiff, Nat.reduceAdd, Nat.reduceLeDiff, Nat.reduceLT, Int.reduceLE, Int.reduceLT, Int.reduceAdd, Int.reduceSub, Int.reduceNeg, Int.reduceBEq, Int.reduceBNe, Int.reduceEq, Int.reduceGT, Int.reduceGE, Int.reduceMul, Int.reduceToNat, Nat.reduceMul, reduceCtorEq, hd, ht1, w1, hg1, hgd, hgt] <;> rfl)) | exact (rfl : app (swap _ _) _ = _)))
    refine vr_nil (aw_then ?_)
    refine aw_split (by (simp only [push_cast, ↓reduceIte, Nat.reduceEqDiff, Nat.reduceAdd, Nat.reduceLeDiff, Nat.reduceLT, Int.reduceLE, Int.reduceLT, Int.reduceAdd, Int.reduceSub, Int.reduceNeg, Int.reduceBEq, Int.reduceBNe, Int.reduceEq, Int.reduceGT, Int.reduceGE, Int.reduceMul, Int.reduceToNat, Nat.reduceMul, reduceCtorEq, hd, ht1, w1, hg1, hgd, hgt] <;> rfl)) (fun hu => ?_) (fun hu => ?_)
    · have hu : 0 < x.1 - 1 := by simpa using hu
      have ht : w.trips n = (false, { w with trip := some (x.1 - 1, x.2) }, n) := by simp only [DW.trips, htr]; rw [if_neg (by omega)]
      rw [ht]
      refine AWp.seq ?_
      (refine aw_regionL hS (by kernel_rfl) ?_; repeat (first | apply vr0u | apply vr4 | apply b_tt | apply b_ff | apply b_tf | apply b_ft | apply b_no | exact isD.mk rfl | (apply eqG; (simp only [push_cast, ↓reduceIte, Nat.reduceEqDiff, Nat.reduceAdd, Nat.reduceLeDiff, Nat.reduceLT, Int.reduceLE, Int.reduceLT, Int.reduceAdd, Int.reduceSub, Int.reduceNeg, Int.reduceBEq, Int.reduceBNe, Int.reduceEq, Int.reduceGT, Int.reduceGE, Int.reduceMul, Int.reduceToNat, Nat.reduceMul, reduceCtorEq, hd, ht1, w1, hg1, hgd, hgt] <;> rfl)) | exact (rfl : app (swap _ _) _ = _)))
      refine vr_nil (aw_then ?_)
      refine AWp.ret ?_
      exact Out.disk (w' := { w with trip := some (x.1 - 1, x.2) }) (xs := [.b false]) (.inr rfl) (by simp [Tryd.f46, resAll, resT]; (simp only [push_cast, ↓reduceIte, Nat.reduceEqDiff, Nat.reduceAdd, Nat.reduceLeDiff, Nat.reduceLT, Int.reduceLE, Int.reduceLT, Int.reduceAdd, Int.reduceSub, Int.reduceNeg, Int.reduceBEq, Int.reduceBNe, Int.reduceEq, Int.reduceGT, Int.reduceGE, Int.reduceMul, Int.reduceToNat, Nat.reduceMul, reduceCtorEq, hd, ht1, w1, hg1, hgd, hgt] <;> rfl)) rfl (Nat.le_refl _) (Nat.le_refl _) trivial hL hlt F1 (fun j hj => .inl (keys_setTrip htr hj)) hgk
    · have hu : ¬ 0 < x.1 - 1 := by simpa using hu
      have ht : w.trips n = (true, w.crash x.2.2.1 x.2.2.2 (n + w.pend.length), n + w.pend.length + 1) := by simp only [DW.trips, htr]; rw [if_pos (by omega)]
      rw [ht]
      refine AWp.skip (aw_then ?_)
      have hw1 : ({ w with trip := some (x.1 - 1, x.2) } : DW).crash x.2.2.1 x.2.2.2 (n + w.pend.length) = w.crash x.2.2.1 x.2.2.2 (n + w.pend.length) := rfl
      obtain ⟨S2, hS2, h10⟩ : ∃ S2, SumOk Tryd.prog S2 ∧ S2 16 [.p d 0, .ro x.2.1 (bools x.2.2.1) x.2.2.1.length, .i .i64 x.2.2.2] g = .wide (fun m => (.tup [], swap (({ w with trip := some (x.1 - 1, x.2) } : DW).cont d) ((w.crash x.2.2.1 x.2.2.2 (m + w.pend.length)).cont d), m + w.pend.length + 1)) :=
        ⟨_, hS.loc (f := 16) (args := [.p d 0, .ro x.2.1 (bools x.2.2.1) x.2.2.1.length, .i .i64 x.2.2.2]) (h := g) (r := .wide _) (fun m => c10 (w := { w with trip := some (x.1 - 1, x.2) }) ⟨hw.n0, hw.pe⟩ F1.has hoff hpl x.2.1 x.2.2.1 x.2.2.2 DB hS m), Sums.loc_at⟩
      refine AWp.seq ?_
      refine aw_drawsL [0, 0, 2, 6, 14, 30, 62, 126, 0, 256, 768, 1792, 3840, 7936, 16128, 32767] [15] hS2 mixed (by kernel_rfl) (by kernel_rfl) ?_
      repeat (first | (refine vd0f (by decide) (by ((repeat (first | rewrite [hpL_t rfl] | rewrite [hpL_f rfl])); (simp only [hpL, app_cons, app_nil] <;> rfl))) (by (simp only [push_cast, ↓reduceIte, Nat.reduceEqDiff, Nat.reduceAdd, Nat.reduceLeDiff, Nat.reduceLT, Int.reduceLE, Int.reduceLT, Int.reduceAdd, Int.reduceSub, Int.reduceNeg, Int.reduceBEq, Int.reduceBNe, Int.reduceEq, Int.reduceGT, Int.reduceGE, Int.reduceMul, Int.reduceToNat, Nat.reduceMul, reduceCtorEq, hd, hgd, hgt, h10] <;> rfl)) ?_) | (refine vd0q rfl (by decide) rfl (by ((repeat (first | rewrite [hpL_t rfl] | rewrite [hpL_f rfl])); (simp only [hpL, app_cons, app_nil] <;> rfl))) (by (simp only [push_cast, ↓reduceIte, Nat.reduceEqDiff, Nat.reduceAdd, Nat.reduceLeDiff, Nat.reduceLT, Int.reduceLE, Int.reduceLT, Int.reduceAdd, Int.reduceSub, Int.reduceNeg, Int.reduceBEq, Int.reduceBNe, Int.reduceEq, Int.reduceGT, Int.reduceGE, Int.reduceMul, Int.reduceToNat, Nat.reduceMul, reduceCtorEq, hd, hgd, hgt, h10] <;> rfl)) (by simp) (by omega) (by intro u hu; simp only [List.mem_cons, List.not_mem_nil, or_false] at hu; rcases hu with rfl | rfl | rfl <;> simp only <;> omega) ?_) | (refine vd0w rfl (by decide) (by ((repeat (first | rewrite [hpL_t rfl] | rewrite [hpL_f rfl])); (simp only [hpL, app_cons, app_nil] <;> rfl))) (by (simp only [push_cast, ↓reduceIte, Nat.reduceEqDiff, Nat.reduceAdd, Nat.reduceLeDiff, Nat.reduceLT, Int.reduceLE, Int.reduceLT, Int.reduceAdd, Int.reduceSub, Int.reduceNeg, Int.reduceBEq, Int.reduceBNe, Int.reduceEq, Int.reduceGT, Int.reduceGE, Int.reduceMul, Int.reduceToNat, Nat.reduceMul, reduceCtorEq, hd, hgd, hgt, h10] <;> rfl)) (by omega) (by intro u hu; simp only [List.mem_cons, List.not_mem_nil, or_false] at hu; rcases hu with rfl | rfl | rfl <;> simp only <;> omega) ?_) | (apply vd0; (focus rfl)) | (apply vd0r; (focus rfl); (focus decide); (focus rfl)) | (apply vd0p; (focus decide)) | apply vd4 | apply b_tt | apply b_ff | apply b_tf | apply b_ft | apply b_no | exact isD.mk rfl | ((repeat (first | rewrite [hpL_t rfl] | rewrite [hpL_f rfl])); (simp only [hpL, app_cons, app_nil] <;> rfl)) | (apply eqG; (simp only [push_cast, ↓reduceIte, Nat.reduceEqDiff, Nat.reduceAdd, Nat.reduceLeDiff, Nat.reduceLT, Int.reduceLE, Int.reduceLT, Int.reduceAdd, Int.reduceSub, Int.reduceNeg, Int.reduceBEq, Int.reduceBNe, Int.reduceEq, Int.reduceGT, Int.reduceGE, Int.reduceMul, Int.reduceToNat, Nat.reduceMul, reduceCtorEq, hd, hgd, hgt, h10] <;> rfl)))
      have hk1 : ∀ j, j ∈ (({ w with trip := some (x.1 - 1, x.2) } : DW).cont d).keys → j ∈ (w.cont d).keys := fun j hj => keys_setTrip htr hj
      refine vd0w rfl (by decide) (by ((repeat (first | rewrite [hpL_t rfl] | rewrite [hpL_f rfl])); (simp only [hpL, app_cons, app_nil] <;> rfl))) (by (simp only [push_cast, ↓reduceIte, Nat.reduceEqDiff, Nat.reduceAdd, Nat.reduceLeDiff, Nat.reduceLT, Int.reduceLE, Int.reduceLT, Int.reduceAdd, Int.reduceSub, Int.reduceNeg, Int.reduceBEq, Int.reduceBNe, Int.reduceEq, Int.reduceGT, Int.reduceGE, Int.reduceMul, Int.reduceToNat, Nat.reduceMul, reduceCtorEq, hd, hgd, hgt, h10] <;> rfl)) (by omega) (swap_lt (fun j hj => by have := hlt j (hk1 j hj); omega) (fun j hj => by rw [crash_keys] at hj; rcases hj with rfl | rfl | rfl <;> omega)) ?_
      repeat (first | (refine vd0f (by decide) (by ((repeat (first | rewrite [hpL_t rfl] | rewrite [hpL_f rfl])); (simp only [hpL, app_cons, app_nil] <;> rfl))) (by (simp only [push_cast, ↓reduceIte, Nat.reduceEqDiff, Nat.reduceAdd, Nat.reduceLeDiff, Nat.reduceLT, Int.reduceLE, Int.reduceLT, Int.reduceAdd, Int.reduceSub, Int.reduceNeg, Int.reduceBEq, Int.reduceBNe, Int.reduceEq, Int.reduceGT, Int.reduceGE, Int.reduceMul, Int.reduceToNat, Nat.reduceMul, reduceCtorEq, hd, hgd, hgt, h10] <;> rfl)) ?_) | (refine vd0q rfl (by decide) rfl (by ((repeat (first | rewrite [hpL_t rfl] | rewrite [hpL_f rfl])); (simp only [hpL, app_cons, app_nil] <;> rfl))) (by (simp only [push_cast, ↓reduceIte, Nat.reduceEqDiff, Nat.reduceAdd, Nat.reduceLeDiff, Nat.reduceLT, Int.reduceLE, Int.reduceLT, Int.reduceAdd, Int.reduceSub, Int.reduceNeg, Int.reduceBEq, Int.reduceBNe, Int.reduceEq, Int.reduceGT, Int.reduceGE, Int.reduceMul, Int.reduceToNat, Nat.reduceMul, reduceCtorEq, hd, hgd, hgt, h10] <;> rfl)) (by simp) (by omega) (by intro u hu; simp only [List.mem_cons, List.not_mem_nil, or_false] at hu; rcases hu with rfl | rfl | rfl <;> simp only <;> omega) ?_) | (refine vd0w rfl (by decide) (by ((repeat (first | rewrite [hpL_t rfl] | rewrite [hpL_f rfl])); (simp only [hpL, app_cons, app_nil] <;> rfl))) (by (simp only [push_cast, ↓reduceIte, Nat.reduceEqDiff, Nat.reduceAdd, Nat.reduceLeDiff, Nat.reduceLT, Int.reduceLE, Int.reduceLT, Int.reduceAdd, Int.reduceSub, Int.reduceNeg, Int.reduceBEq, Int.reduceBNe, Int.reduceEq, Int.reduceGT, Int.reduceGE, Int.reduceMul, Int.reduceToNat, Nat.reduceMul, reduceCtorEq, hd, hgd, hgt, h10] <;> rfl)) (by omega) (by intro u hu; simp only [List.mem_cons, List.not_mem_nil, or_false] at hu; rcases hu with rfl | rfl | rfl <;> simp only <;> omega) ?_) | (apply vd0; (focus rfl)) | (apply vd0r; (focus rfl); (focus decide); (focus rfl)) | (apply vd0p; (focus decide)) | apply vd4 | apply b_tt | apply b_ff | apply b_tf | apply b_ft | apply b_no | exact isD.mk rfl | ((repeat (first | rewrite [hpL_t rfl] | rewrite [hpL_f rfl])); (simp only [hpL, app_cons, app_nil] <;> rfl)) | (apply eqG; (simp only [push_cast, ↓reduceIte, Nat.reduceEqDiff, Nat.reduceAdd, Nat.reduceLeDiff, Nat.reduceLT, Int.reduceLE, Int.reduceLT, Int.reduceAdd, Int.reduceSub, Int.reduceNeg, Int.reduceBEq, Int.reduceBNe, Int.reduceEq, Int.reduceGT, Int.reduceGE, Int.reduceMul, Int.reduceToNat, Nat.reduceMul, reduceCtorEq, hd, hgd, hgt, h10] <;> rfl)))
      (refine vd_nil (by simp only [hpL, app_cons, app_nil, if_true] <;> rfl) ?_)
      refine aw_then ?_
      refine AWp.seq ?_
      refine aw_regionL hS2 (by kernel_rfl) ?_
      repeat (first | apply vr0u | apply vr4 | apply b_tt | apply b_ff | apply b_tf | apply b_ft | apply b_no | exact isD.mk rfl | (apply eqG; (simp only [push_cast, ↓reduceIte, Nat.reduceEqDiff, Nat.reduceAdd, Nat.reduceLeDiff, Nat.reduceLT, Int.reduceLE, Int.reduceLT, Int.reduceAdd, Int.reduceSub, Int.reduceNeg, Int.reduceBEq, Int.reduceBNe, Int.reduceEq, Int.reduceGT, Int.reduceGE, Int.reduceMul, Int.reduceToNat, Nat.reduceMul, reduceCtorEq, hd, hgd, hgt, h10] <;> rfl)) | exact (rfl : app (swap _ _) _ = _))
      refine vr_nil (aw_then ?_)
      refine AWp.ret ?_
      refine Out.disk (w' := w.crash x.2.2.1 x.2.2.2 (n + w.pend.length)) (xs := [.b true]) (.inr rfl) (by simp [Tryd.f46, resAll, resT]; (simp only [push_cast, ↓reduceIte, Nat.reduceEqDiff, Nat.reduceAdd, Nat.reduceLeDiff, Nat.reduceLT, Int.reduceLE, Int.reduceLT, Int.reduceAdd, Int.reduceSub, Int.reduceNeg, Int.reduceBEq, Int.reduceBNe, Int.reduceEq, Int.reduceGT, Int.reduceGE, Int.reduceMul, Int.reduceToNat, Nat.reduceMul, reduceCtorEq, hd, hgd, hgt, h10] <;> rfl)) rfl (by show n ≤ n + w.pend.length + 1; omega) (Nat.le_refl _) trivial hL hlt (DFacts.of (Has.swap _ (crash_nodup F (by omega) (by omega)))) (fun j hj => ?_) ?_
      · rw [crash_keys] at hj
        rcases hj with rfl | rfl | rfl
        · exact .inl (DW.keys_iff.2 (.inl rfl))
        · exact .inl (DW.keys_iff.2 (.inr (.inl rfl)))
        · exact .inr ⟨by omega, Nat.lt_succ_self _⟩
      · refine keepXs (fun j hj => .inr (hk1 j hj)) (fun j hj => ?_) hgk
        rw [crash_keys] at hj
        rcases hj with rfl | rfl | rfl
        · exact .inr (DW.keys_iff.2 (.inl rfl))
        · exact .inr (DW.keys_iff.2 (.inr (.inl rfl)))
        · exact .inl (by omega)

end Go.Proofs.YtepfknnffooaiaaDoor
