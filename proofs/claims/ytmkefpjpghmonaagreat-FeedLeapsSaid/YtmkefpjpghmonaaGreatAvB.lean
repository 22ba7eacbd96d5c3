/- What one operation does, told of abstract values: it is so. Part 3: memory. What one operation does, told of abstract values: it is so. Part 4: memory, built and written. What one operation does, told of abstract values: it is so. Part 5: stores, strings gone through, slices made, cut, appended to. What one operation does, told of abstract values: it is so. Part 6: cutting, converting, appending. What one operation does, told of abstract values: it is so. Part 7: converting, appending, copying; all of it. What one operation does, told of abstract values: it is so. Part 8: appending, copying. -/
import Derived.Test.YtmkefpjpghmonaaGreatAvA
import Derived.IntWalk
import Derived.Laws.BytesString
import Derived.Lib.ConvBytes

section
namespace Go.Av

variable {P : Program} {U : Nat → Prop} {n n' : Nat} {ρ : Nat → Nat} {Ro : Nat → Prop} {h : Heap} {w w1 : World} {t : Tmps} {a : Act} {o : Oper} {C : Cx} {v : AV} {us : List (Nat × Option Row)}

/-- A new block of cells. -/
theorem Rel.newCells (hr : Rel U ρ Ro h w) (hm : ¬ U n) (hs : Same w w1) {c : Array Value} {T : TypeId} {lo hi : Nat} (hp : w1.heap = w.heap.push (.cells c T (lo, hi))) (hfr : hi = lo ∨ c.size ≤ lo)
    {cs : List AV} (hc : cs.length ≤ c.size) (h1 : ∀ (k : Nat) (x : AV), cs[k]? = some x → x.one = true) (hv : ∀ (k : Nat) (x : AV) (v : Value), cs[k]? = some x → c[k]? = some v → RV (cx U ρ Ro w) x v) :
    Rel (ins U n) (pin ρ n w.heap.size) Ro (upd h n (some (.cells cs))) w1 ∧ Ext U ρ Ro h w (ins U n) (pin ρ n w.heap.size) Ro (upd h n (some (.cells cs))) w1 ∧ bsz w1 w.heap.size = c.size := by
  obtain ⟨g1, g2, g3⟩ := hr.new hm hs hp (.cells cs) (fun cs' he => by injection he with he; subst he; exact ⟨c, T, lo, hi, rfl, hfr, hc, h1, hv⟩) (fun s pos he => by cases he)
  exact ⟨g1, g2, g3 c T (lo, hi) rfl⟩

theorem same_alloc (w : World) (o : Obj) : Same w (w.alloc o) := ⟨rfl, rfl, rfl⟩

theorem one_of_boxable {x : AV} {v : Value} (h : RV C x v) (hb : x.boxable = true) : ∀ (k : Nat) (y : AV), x.cells[k]? = some y → y.one = true := by
  cases h <;> first
    | (cases hb; done)
    | (intro k y hy
       rcases k with _ | k
       · simp only [AV.cells, List.getElem?_cons_zero, Option.some.injEq] at hy; subst hy; rfl
       · simp [AV.cells] at hy)
    | assumption

theorem sound_alloc {T : TypeId} {cs : List AV} (hz : zeT P T = some cs) : Sound P (.alloc T) t h n (.p n 0) [(n, some (.cells cs))] (n + 1) := by
  intro ty d U ρ Ro w a hm hr ht
  rw [ext_succ]
  obtain ⟨i, z, hi, hzz, hok, hcs⟩ := zeT_some hz
  have hrv := rv_ofC (cx U ρ Ro w) hok
  have hcells := hrv.cells
  rw [hcs] at hcells
  have hone : ∀ (k : Nat) (x : AV), cs[k]? = some x → x.one = true := by
    rw [← hcs]
    refine one_of_boxable hrv ?_
    cases z <;> first | rfl | (simp [okC, okC1] at hok; done) | (simp [okC, okC1, ofC, ofC1, AV.boxable]; done)
  obtain ⟨g1, g2, g3⟩ := hr.newCells (hm n (Nat.le_refl _) (Nat.lt_succ_self _)) (w1 := w.alloc (.cells z.cells T)) (same_alloc ..) (c := z.cells) (T := T) (lo := 0) (hi := 0) rfl (.inl rfl) (Nat.le_of_eq hcells.1.symm) hone hcells.2
  refine ⟨.pointer (some ⟨w.heap.size, 0, none⟩), w.alloc (.cells z.cells T), pin ρ n w.heap.size, Ro, .inl ?_, ?_, g1, g2⟩
  · simp [execOp, Instr.alloc, run_zeroValue hi hzz, newVar, newRow]
  · have := RV.p (C := cx (ins U n) (pin ρ n w.heap.size) Ro (w.alloc (.cells z.cells T))) n 0 ((.inr rfl : ins U n n))
    simpa [cx, pin_same] using this

theorem sound_box {T : TypeId} {x : Operand} (hx : okX x = true) (hb : (aev t x).boxable = true) : Sound P (.box T x) t h n (.p n 0) [(n, some (.cells (aev t x).cells))] (n + 1) := by
  intro ty d U ρ Ro w a hm hr ht
  rw [ext_succ]
  have hrv := rv_ev ht hx
  have hcells := hrv.cells
  obtain ⟨g1, g2, g3⟩ := hr.newCells (hm n (Nat.le_refl _) (Nat.lt_succ_self _)) (w1 := w.alloc (.cells (a.eval x).cells T)) (same_alloc ..) (c := (a.eval x).cells) (T := T) (lo := 0) (hi := 0) rfl (.inl rfl) (Nat.le_of_eq hcells.1.symm) (one_of_boxable hrv hb) hcells.2
  refine ⟨.pointer (some ⟨w.heap.size, 0, none⟩), w.alloc (.cells (a.eval x).cells T), pin ρ n w.heap.size, Ro, .inl ?_, ?_, g1, g2⟩
  · simp [execOp, Instr.box, newVar, newRow]
  · have := RV.p (C := cx (ins U n) (pin ρ n w.heap.size) Ro (w.alloc (.cells (a.eval x).cells T))) n 0 ((.inr rfl : ins U n n))
    simpa [cx, pin_same] using this

/-! parts put together -/
theorem splice_len (cs : List AV) (off : Nat) (ys : List AV) (hl : off + ys.length ≤ cs.length) : (splice cs off ys).length = cs.length := by
  unfold splice
  split
  · simp
  · simp; omega
theorem splice_get (cs : List AV) (off : Nat) (ys : List AV) (hl : off + ys.length ≤ cs.length) (k : Nat) : (splice cs off ys)[k]? = if off ≤ k ∧ k < off + ys.length then ys[k - off]? else cs[k]? := by
  unfold splice
  split
  · rename_i y
    simp only [List.length_cons, List.length_nil] at hl ⊢
    rw [List.getElem?_set]
    by_cases hk : off = k
    · subst hk; simp; omega
    · rw [if_neg hk, if_neg (by omega)]
  · by_cases h1 : k < off
    · rw [if_neg (by omega), List.append_assoc, List.getElem?_append_left (by simp; omega), List.getElem?_take, if_pos h1]
    · by_cases h2 : k < off + ys.length
      · rw [if_pos ⟨by omega, h2⟩, List.getElem?_append_left (by simp; omega), List.getElem?_append_right (by simp; omega)]
        congr 1
        simp; omega
      · rw [if_neg (by omega), List.getElem?_append_right (by simp; omega), List.getElem?_drop]
        congr 1
        simp; omega

/-- Cells that are as the abstract ones say. -/
structure Cs (C : Cx) (cs : List AV) (c : Array Value) : Prop where
  len : c.size = cs.length
  one : ∀ (k : Nat) (x : AV), cs[k]? = some x → x.one = true
  rv : ∀ (k : Nat) (x : AV) (v : Value), cs[k]? = some x → c[k]? = some v → RV C x v

/-- The foldl that lays a part's cells. -/
theorem fold_set (off : Nat) : ∀ (l : List Value) (i : Nat) (c : Array Value), off + i + l.length ≤ c.size →
    ((l.zipIdx i).foldl (fun cs (x : Value × Nat) => cs.setIfInBounds (off + x.2) x.1) c).size = c.size ∧
    ∀ k, ((l.zipIdx i).foldl (fun cs (x : Value × Nat) => cs.setIfInBounds (off + x.2) x.1) c)[k]? = if off + i ≤ k ∧ k < off + i + l.length then l[k - (off + i)]? else c[k]?
  | [], i, c, _ => ⟨by simp, fun k => by simp; omega⟩
  | x :: l, i, c, hl => by
    simp only [List.length_cons] at hl
    obtain ⟨h1, h2⟩ := fold_set off l (i + 1) (c.setIfInBounds (off + i) x) (by simp; omega)
    simp only [List.zipIdx_cons, List.foldl_cons]
    refine ⟨by rw [h1]; simp, fun k => ?_⟩
    rw [h2]
    by_cases hk : k = off + i
    · subst hk
      rw [if_neg (by omega), if_pos ⟨Nat.le_refl _, by simp⟩, Nat.sub_self]
      simp [show off + i < c.size by omega]
    · by_cases hk2 : off + (i + 1) ≤ k ∧ k < off + (i + 1) + l.length
      · rw [if_pos hk2, if_pos ⟨by omega, by simp; omega⟩]
        have : k - (off + i) = (k - (off + (i + 1))) + 1 := by omega
        rw [this, List.getElem?_cons_succ]
      · rw [if_neg hk2, if_neg (by simp; omega), Array.getElem?_setIfInBounds_ne (Ne.symm hk)]

theorem foldl_zipIdx_array (off : Nat) (u : Array Value) (c : Array Value) :
    u.zipIdx.foldl (fun cs (x : Value × Nat) => cs.setIfInBounds (off + x.2) x.1) c = (u.toList.zipIdx 0).foldl (fun cs (x : Value × Nat) => cs.setIfInBounds (off + x.2) x.1) c := by
  rw [← Array.foldl_toList, Array.toList_zipIdx]

theorem Cs.splice {cs : List AV} {c : Array Value} (hc : Cs C cs c) {x : AV} {v : Value} (hv : RV C x v) (hb : ∀ (k : Nat) (y : AV), x.cells[k]? = some y → y.one = true) {off : Nat} (hl : off + x.cells.length ≤ cs.length) :
    Cs C (splice cs off x.cells) (v.cells.zipIdx.foldl (fun cs (x : Value × Nat) => cs.setIfInBounds (off + x.2) x.1) c) := by
  have hvc := hv.cells
  have hlen : v.cells.toList.length = x.cells.length := by simp [hvc.1]
  obtain ⟨h1, h2⟩ := fold_set off v.cells.toList 0 c (by rw [hlen, hc.len]; omega)
  rw [← foldl_zipIdx_array] at h1 h2
  simp only [Nat.add_zero, hlen] at h2
  refine ⟨by rw [h1, hc.len, splice_len _ _ _ hl], fun k y hy => ?_, fun k y u hy hu => ?_⟩
  · rw [splice_get _ _ _ hl] at hy
    split at hy
    · exact hb _ y hy
    · exact hc.one k y hy
  · rw [splice_get _ _ _ hl] at hy
    rw [h2] at hu
    split at hy
    · rename_i hk
      rw [if_pos hk] at hu
      exact hvc.2 _ y u hy (by simpa using hu)
    · rename_i hk
      rw [if_neg hk] at hu
      exact hc.rv k y u hy hu

/-- Parts laid into cells, as the model does it. -/
theorem fill_ok {pl : Nat → Option (Nat × Nat)} {pc : Nat → Option (Nat × Nat)} (hpl : ∀ i x, pl i = some x → pc i = some x) :
    ∀ (parts : List (Nat × AV)) (us : List (Nat × Value)) (cs : List AV) (c : Array Value) (ds : List AV), parts.map (·.1) = us.map (·.1) →
      (∀ (k : Nat) (p : Nat × AV) (u : Nat × Value), parts[k]? = some p → us[k]? = some u → RV C p.2 u.2 ∧ p.2.boxable = true) → Cs C cs c → fillA pl cs parts = some ds →
      ∃ d, Instr.fill pc c us = some d ∧ Cs C ds d
  | [], us, cs, c, ds, hm, _, hc, hf => by
    have : us = [] := by simpa using hm.symm
    subst this
    simp only [fillA, Option.some.injEq] at hf
    subst hf
    exact ⟨c, rfl, hc⟩
  | (i, x) :: parts, us, cs, c, ds, hm, hp, hc, hf => by
    cases us with
    | nil => simp at hm
    | cons u us =>
      obtain ⟨i', v⟩ := u
      simp only [List.map_cons, List.cons.injEq] at hm
      obtain ⟨rfl, hm⟩ := hm
      have hp0 : RV C x v ∧ x.boxable = true := hp 0 (i, x) (i, v) rfl rfl
      obtain ⟨hv, hb⟩ := hp0
      simp only [fillA] at hf
      split at hf
      · cases hf
      · rename_i off size hpi
        split at hf
        · rename_i hsz
          have hvc := hv.cells
          have hcs := hc.splice hv (one_of_boxable hv hb) (off := off) (by omega)
          obtain ⟨d, h1, h2⟩ := fill_ok hpl parts us _ _ ds hm (fun k p u hk hu => hp (k + 1) p u (by simpa using hk) (by simpa using hu)) hcs hf
          refine ⟨d, ?_, h2⟩
          simp only [Instr.fill, hpl _ _ hpi]
          rw [if_neg]
          · exact h1
          · simp only [Bool.or_eq_true, decide_eq_true_eq, not_or]
            have := hc.len
            omega
        · cases hf

theorem zero_cs {T : TypeId} {zs : List AV} (hz : zeT P T = some zs) (C : Cx) : ∃ i z, P.info? T = some i ∧ i.zero = some z ∧ Cs C zs z.cells := by
  obtain ⟨i, z, hi, hzz, hok, hcs⟩ := zeT_some hz
  have hrv := rv_ofC C hok
  have hcells := hrv.cells
  refine ⟨i, z, hi, hzz, ?_⟩
  rw [hcs] at hcells
  refine ⟨hcells.1, ?_, hcells.2⟩
  rw [← hcs]
  refine one_of_boxable hrv ?_
  cases z <;> first | rfl | (simp [okC, okC1] at hok; done) | (simp [okC, okC1, ofC, ofC1, AV.boxable]; done)

def partsOk (t : Tmps) (parts : Array (Nat × Operand)) : Bool := parts.toList.all fun p => (aev t p.2).boxable

theorem parts_rel (ht : RelT C t a) {parts : Array (Nat × Operand)} (ho : ∀ p ∈ parts.toList, okX p.2 = true) (hb : partsOk t parts = true) :
    (parts.toList.map fun (p : Nat × Operand) => (p.1, aev t p.2)).map (·.1) = ((parts.map fun (i, x) => (i, a.eval x)).toList).map (·.1) ∧
    ∀ (k : Nat) (p : Nat × AV) (u : Nat × Value), (parts.toList.map fun (p : Nat × Operand) => (p.1, aev t p.2))[k]? = some p → ((parts.map fun (i, x) => (i, a.eval x)).toList)[k]? = some u → RV C p.2 u.2 ∧ p.2.boxable = true := by
  refine ⟨by simp [List.map_map, Function.comp_def], fun k p u hp hu => ?_⟩
  rw [List.getElem?_map] at hp
  rw [Array.toList_map, List.getElem?_map] at hu
  cases hk : parts.toList[k]? with
  | none => rw [hk] at hp; cases hp
  | some z =>
    rw [hk] at hp hu
    simp only [Option.map_some, Option.some.injEq] at hp hu
    subst hp; subst hu
    have hm := List.mem_of_getElem? hk
    exact ⟨rv_ev ht (ho z hm), List.all_eq_true.1 hb z hm⟩

theorem places_run {P : Program} {fs : Array Field} {w : World} (hall : ∀ f ∈ fs, ∃ z, szT P f.type = some z) :
    ∃ pl : Array (Nat × Nat), (fs.mapM fun f => do pure (f.offset, ← sizeOf f.type) : Sem (Array (Nat × Nat))).run P w = .ok pl w ∧ ∀ (i : Nat) f z, fs[i]? = some f → szT P f.type = some z → pl[i]? = some (f.offset, z) := by
  have key : ∀ l : List Field, (∀ f ∈ l, ∃ z, szT P f.type = some z) → ∃ pl : List (Nat × Nat), (l.mapM (fun f => Prod.mk f.offset <$> sizeOf f.type) : Sem (List (Nat × Nat))).run P w = .ok pl w ∧ ∀ (i : Nat) f z, l[i]? = some f → szT P f.type = some z → pl[i]? = some (f.offset, z) := by
    intro l
    induction l with
    | nil => exact fun _ => ⟨[], by simp, fun i f z hi => by simp at hi⟩
    | cons f l ih =>
      intro hl
      obtain ⟨z, hz⟩ := hl f (by simp)
      obtain ⟨pl, h1, h2⟩ := ih (fun g hg => hl g (by simp [hg]))
      refine ⟨(f.offset, z) :: pl, by simp [run_sizeOf hz, h1], fun i g z' hi hz' => ?_⟩
      rcases i with _ | i
      · simp at hi; subst hi; rw [hz] at hz'; injection hz' with hz'; subst hz'; rfl
      · simpa using h2 i g z' (by simpa using hi) hz'
  obtain ⟨pl, h1, h2⟩ := key fs.toList (fun f hf => hall f (by simpa using hf))
  refine ⟨pl.toArray, ?_, fun i f z hi hz => by simpa using h2 i f z (by simpa using hi) hz⟩
  rw [Array.mapM_eq_mapM_toList]
  simp [h1]

end Go.Av
end

section
namespace Go.Av

variable {P : Program} {U : Nat → Prop} {n n' : Nat} {ρ : Nat → Nat} {Ro : Nat → Prop} {h : Heap} {w w1 : World} {t : Tmps} {a : Act} {o : Oper} {C : Cx} {v : AV} {us : List (Nat × Option Row)}

theorem mapM_get {α β : Type} {f : α → Option β} : ∀ {l : List α} {r : List β}, l.mapM f = some r → ∀ (i : Nat), r[i]? = (l[i]?).bind f
  | [], r, h, i => by simp at h; subst h; simp
  | x :: l, r, h, i => by
    simp only [List.mapM_cons, Option.bind_eq_bind, Option.bind_eq_some_iff, Option.pure_def, Option.some.injEq] at h
    obtain ⟨y, hy, ys, hys, rfl⟩ := h
    cases i with
    | zero => simp [hy]
    | succ i => simpa using mapM_get hys i
theorem mapM_all {α β : Type} {f : α → Option β} : ∀ {l : List α} {r : List β}, l.mapM f = some r → ∀ x ∈ l, ∃ y, f x = some y
  | [], r, _, x, hx => by cases hx
  | z :: l, r, h, x, hx => by
    simp only [List.mapM_cons, Option.bind_eq_bind, Option.bind_eq_some_iff, Option.pure_def, Option.some.injEq] at h
    obtain ⟨y, hy, ys, hys, rfl⟩ := h
    rcases List.mem_cons.1 hx with rfl | hx
    · exact ⟨y, hy⟩
    · exact mapM_all hys x hx

theorem Cs.rv_agg {cs : List AV} {c : Array Value} (h : Cs C cs c) : RV C (.agg cs) (.agg c) := .agg _ _ h.len h.one h.rv

theorem sound_build {T : TypeId} {parts : Array (Nat × Operand)} {zs ds : List AV} {pl : List (Nat × Nat)} (ho : opOk (.build T parts) = true) (hz : zeT P T = some zs) (hp : buT P T = some pl)
    (hb : (parts.toList.all fun (p : Nat × Operand) => (aev t p.2).boxable) = true) (hf : fillA (fun i => pl[i]?) zs (parts.toList.map fun (p : Nat × Operand) => (p.1, aev t p.2)) = some ds) : Sound P (.build T parts) t h n (.agg ds) [] n :=
  Sound.val fun ty d U ρ Ro w a hr ht => by
    have ho' : ∀ p ∈ parts.toList, okX p.2 = true := fun p hp => okX1 ho (by simp [Op.operands]; exact ⟨p.1, by simpa using hp⟩)
    obtain ⟨h1, h2⟩ := parts_rel ht ho' hb
    obtain ⟨i, z, hi, hzz, hcs⟩ := zero_cs hz (cx U ρ Ro w)
    unfold buT at hp
    split at hp
    · rename_i fs hu
      obtain ⟨pa, h3, h4⟩ := places_run (P := P) (fs := fs) (w := w) (fun f hf => by
        obtain ⟨y, hy⟩ := mapM_all hp f (by simpa using hf)
        cases hs : szT P f.type with
        | none => rw [hs] at hy; cases hy
        | some z => exact ⟨z, rfl⟩)
      obtain ⟨d, h5, h6⟩ := fill_ok (C := cx U ρ Ro w) (pl := fun i => pl[i]?) (pc := fun i => pa[i]?) (fun i x hx => by
        rw [mapM_get hp i] at hx
        cases hfi : fs.toList[i]? with
        | none => rw [hfi] at hx; cases hx
        | some f =>
          rw [hfi] at hx
          simp only [Option.bind_some] at hx
          cases hs : szT P f.type with
          | none => rw [hs] at hx; cases hx
          | some z => rw [hs] at hx; simp at hx; subst hx; exact h4 i f z (by simpa using hfi) hs) _ _ zs z.cells ds h1 h2 hcs hf
      refine ⟨.agg d, .inl ?_, h6.rv_agg⟩
      simp only [execOp, Instr.build, Sem.run_bind, run_zeroValue hi hzz, Result.andThen_ok, run_underlying hu, h3]
      rw [h5]
      rfl
    · rename_i m e hu
      cases hs : szT P e with
      | none => rw [hs] at hp; cases hp
      | some sz =>
        rw [hs] at hp
        simp only [Option.map_some, Option.some.injEq] at hp
        subst hp
        obtain ⟨d, h5, h6⟩ := fill_ok (C := cx U ρ Ro w) (pc := fun i => some (i * sz, sz)) (fun i x hx => by
          rw [List.getElem?_map] at hx
          cases hri : (List.range m)[i]? with
          | none => rw [hri] at hx; cases hx
          | some k =>
            rw [hri] at hx
            obtain ⟨hlt, he⟩ := List.getElem?_eq_some_iff.1 hri
            simp at he
            subst he
            simpa using hx) _ _ zs z.cells ds h1 h2 hcs hf
        refine ⟨.agg d, .inl ?_, h6.rv_agg⟩
        simp only [execOp, Instr.build, Sem.run_bind, run_zeroValue hi hzz, Result.andThen_ok, run_underlying hu, run_sizeOf hs]
        rw [h5]
        rfl
    · cases hp

theorem rep_len (m : Nat) (zs : List AV) : (rep m zs).length = m * zs.length := by simp [rep]
theorem rep_get (m : Nat) (zs : List AV) (k : Nat) (hk : k < m * zs.length) : (rep m zs)[k]? = zs[k % zs.length]? := by
  induction m generalizing k with
  | zero => simp at hk
  | succ m ih =>
    have : rep (m + 1) zs = zs ++ rep m zs := by simp [rep, List.replicate_succ]
    rw [this]
    by_cases hz : k < zs.length
    · rw [List.getElem?_append_left hz, Nat.mod_eq_of_lt hz]
    · rw [List.getElem?_append_right (by omega), ih _ (by rw [Nat.succ_mul] at hk; omega)]
      congr 1
      rw [← Nat.mod_eq_sub_mod (by omega)]

theorem zeroRow_cs {zs : List AV} {z : Array Value} (hc : Cs C zs z) (m size : Nat) (hs : zs.length = size) :
    Cs C (rep m zs) ((Array.range (m * size)).map (z[· % z.size]!)) := by
  subst hs
  have hget : ∀ k, k < m * zs.length → ((Array.range (m * zs.length)).map (z[· % z.size]!))[k]? = z[k % zs.length]? := fun k hk => by
    have hpos : 0 < zs.length := by
      rcases Nat.eq_zero_or_pos zs.length with h0 | h0
      · rw [h0] at hk; simp at hk
      · exact h0
    have hlt : k % zs.length < z.size := by rw [hc.len]; exact Nat.mod_lt _ hpos
    simp only [Array.getElem?_map, Array.getElem?_range, hk, if_true, Option.map_some, hc.len]
    rw [getElem!_pos z _ hlt]
    simp [hlt]
  refine ⟨by simp [rep_len], fun k x hx => ?_, fun k x v hx hv => ?_⟩
  · have hk : k < m * zs.length := by
      rcases Nat.lt_or_ge k (m * zs.length) with h' | h'
      · exact h'
      · rw [List.getElem?_eq_none (by rw [rep_len]; exact h')] at hx; cases hx
    rw [rep_get m zs k hk] at hx
    exact hc.one _ x hx
  · have hk : k < m * zs.length := by
      rcases Nat.lt_or_ge k (m * zs.length) with h' | h'
      · exact h'
      · rw [List.getElem?_eq_none (by rw [rep_len]; exact h')] at hx; cases hx
    rw [rep_get m zs k hk] at hx
    rw [hget k hk] at hv
    exact hc.rv _ x v hx hv

/-- A row just made, and a slice of all of it. -/
theorem new_slice (hr : Rel U ρ Ro h w) (hm : ¬ U n) (hs : Same w w1) {c : Array Value} {T : TypeId} {lo hi : Nat} (hp : w1.heap = w.heap.push (.cells c T (lo, hi))) (hfr : hi = lo ∨ c.size ≤ lo)
    {cs : List AV} (hcs : cs.length ≤ c.size) (h1 : ∀ (k : Nat) (x : AV), cs[k]? = some x → x.one = true) (hv : ∀ (k : Nat) (x : AV) (v : Value), cs[k]? = some x → c[k]? = some v → RV (cx U ρ Ro w) x v)
    {sz len cap : Nat} (hlc : len ≤ cap) (hcm : cap ≤ maxLen) (hz : cap * sz ≤ c.size) :
    ∃ ρ' Ro', RV (cx (ins U n) ρ' Ro' w1) (.sl sz n 0 len) (.slice (some ⟨w.heap.size, 0, none⟩) len cap) ∧ Rel (ins U n) ρ' Ro' (upd h n (some (.cells cs))) w1 ∧ Ext U ρ Ro h w (ins U n) ρ' Ro' (upd h n (some (.cells cs))) w1 := by
  obtain ⟨g1, g2, g3⟩ := hr.newCells hm hs hp hfr hcs h1 hv
  refine ⟨pin ρ n w.heap.size, Ro, ?_, g1, g2⟩
  have := RV.sl (C := cx (ins U n) (pin ρ n w.heap.size) Ro w1) sz n 0 len cap ((.inr rfl : ins U n n)) hlc hcm (by simp only [cx, pin_same, g3]; omega)
  simpa [cx, pin_same] using this

theorem sound_buildSlice {T : TypeId} {len : Nat} {parts : Array (Nat × Operand)} {e : TypeId} {z by_ : Nat} {zs cs : List AV} (ho : opOk (.buildSlice T len parts) = true) (hs : slT P T = some (e, z, by_)) (hz : zeT P e = some zs) (hzs : zs.length = z) (hl : len * z ≤ 16777216) (hm : len ≤ 9223372036854775807)
    (hb : (parts.toList.all fun (p : Nat × Operand) => (aev t p.2).boxable) = true) (hf : fillA (fun i => some (i * z, z)) (rep len zs) (parts.toList.map fun (p : Nat × Operand) => (p.1, aev t p.2)) = some cs) :
    Sound P (.buildSlice T len parts) t h n (.sl z n 0 len) [(n, some (.cells cs))] (n + 1) := by
  intro ty d U ρ Ro w a hm_ hr ht
  rw [ext_succ]
  have ho' : ∀ p ∈ parts.toList, okX p.2 = true := fun p hp => okX1 ho (by simp [Op.operands]; exact ⟨p.1, by simpa using hp⟩)
  obtain ⟨h1, h2⟩ := parts_rel ht ho' hb
  obtain ⟨i, zv, hi, hzz, hcs⟩ := zero_cs hz (cx U ρ Ro w)
  obtain ⟨hu, hsz, _⟩ := slT_some hs
  have hc0 : Cs (cx U ρ Ro w) (rep len zs) ((Array.range (len * z)).map (zv.cells[· % zv.cells.size]!)) := zeroRow_cs hcs len z hzs
  obtain ⟨c, h5, h6⟩ := fill_ok (C := cx U ρ Ro w) (pc := fun i => some (i * z, z)) (fun i x hx => hx) _ _ _ _ cs h1 h2 hc0 hf
  have hcsz : c.size = len * z := by
    have := h6.len
    have hlen : cs.length = (rep len zs).length := by
      have : ∀ (ps : List (Nat × AV)) (cs ds : List AV), fillA (fun i => some (i * z, z)) cs ps = some ds → ds.length = cs.length := by
        intro ps
        induction ps with
        | nil => intro cs ds hd; simp [fillA] at hd; rw [hd]
        | cons p ps ih =>
          intro cs ds hd
          obtain ⟨i, x⟩ := p
          simp only [fillA] at hd
          split at hd
          · rename_i hsz
            rw [ih _ _ hd, splice_len _ _ _ (by omega)]
          · cases hd
      exact this _ _ _ hf
    rw [this, hlen, rep_len, hzs]
  obtain ⟨ρ', Ro', g0, g1, g2⟩ := new_slice (w1 := w.alloc (.cells c e)) hr (hm_ n (Nat.le_refl _) (Nat.lt_succ_self _)) (same_alloc ..) (c := c) (T := e) (lo := 0) (hi := 0) rfl (.inl rfl) (Nat.le_of_eq h6.len.symm) h6.one h6.rv (sz := z) (len := len) (cap := len) (Nat.le_refl _) (by unfold maxLen; omega) (by omega)
  refine ⟨_, _, ρ', Ro', .inl ?_, g0, g1, g2⟩
  have h5' : Instr.fill (fun i => some (i * z, z)) ((Array.range (len * z)).map (zv.cells[· % zv.cells.size]!)) (Array.map (fun x => (x.fst, a.eval x.snd)) parts).toList = some c := h5
  simp only [execOp, Instr.buildSlice, Sem.run_bind, run_underlying hu, Result.andThen_ok, run_sizeOf hsz]
  rw [if_neg (by omega)]
  by_cases h0 : len * z = 0
  · rw [if_pos h0]
    have h6' : Instr.fill (fun i => some (i * z, z)) ((Array.range (len * z)).map ((#[] : Array Value)[· % (#[] : Array Value).size]!)) (Array.map (fun x => (x.fst, a.eval x.snd)) parts).toList = some c := by
      rw [← h5', h0]; congr 1; simp
    simp only [Sem.run_bind, Sem.run_pure, Result.andThen_ok, h6', newRow, run_newObj]
    rfl
  · rw [if_neg h0]
    simp only [Sem.run_bind, run_zeroValue hi hzz, Sem.run_pure, Result.andThen_ok, h5', newRow, run_newObj]
    rfl

/-! ### a row written -/

/-- Cells stored one behind the other. -/
theorem run_storeCells (P : Program) (g off : Nat) : ∀ (vs : List Value) (i : Nat) (w : World) (c : Array Value) (T : TypeId) (lo hi : Nat), w.heap[g]? = some (.cells c T (lo, hi)) → (hi = lo ∨ c.size ≤ lo) →
    off + i + vs.length ≤ c.size → (∀ v ∈ vs, v.oneCell' = true) →
    ∃ w' c', (storeCells ⟨g, off, none⟩ vs i).run P w = .ok () w' ∧ Same w w' ∧ w'.heap.size = w.heap.size ∧ (∀ b, b ≠ g → w'.heap[b]? = w.heap[b]?) ∧
      w'.heap[g]? = some (.cells c' T (lo, hi)) ∧ c'.size = c.size ∧ ∀ k : Nat, c'[k]? = if off + i ≤ k ∧ k < off + i + vs.length then vs[k - (off + i)]? else c[k]?
  | [], i, w, c, T, lo, hi, hg, _, _, _ => ⟨w, c, rfl, Same.refl w, rfl, fun _ _ => rfl, hg, rfl, fun k => by simp; omega⟩
  | v :: vs, i, w, c, T, lo, hi, hg, hfr, hl, h1 => by
    simp only [List.length_cons] at hl
    have hlt : off + i < c.size := by omega
    have hcell : w.cell? ⟨g, off + i, none⟩ = some c[off + i] := by rw [cell_row hg]; simp [hlt]
    have hfz : w.frozen? ⟨g, off + i, none⟩ = false := by
      simp only [World.frozen?, hg]
      rcases hfr with h' | h'
      · simp; omega
      · simp; omega
    have hput : (w.setCell ⟨g, off + i, none⟩ v).heap[g]? = some (.cells (c.setIfInBounds (off + i) v) T (lo, hi)) := by
      simp only [World.setCell, Array.getElem?_modify, if_true, hg, Option.map_some]
      rfl
    obtain ⟨w', c', hr, hs, hsz, hoth, hg', hcsz, hget⟩ := run_storeCells P g off vs (i + 1) (w.setCell ⟨g, off + i, none⟩ v) (c.setIfInBounds (off + i) v) T lo hi hput (by simpa using hfr) (by simp; omega) (fun u hu => h1 u (by simp [hu]))
    refine ⟨w', c', ?_, ⟨hs.os, hs.tape, hs.output⟩, by rw [hsz]; simp, fun b hb => ?_, hg', by rw [hcsz]; simp, fun k => ?_⟩
    · simp only [storeCells, Sem.run_bind, Addr.add_lit]
      rw [run_store P w _ v .plain (h1 v (by simp)), hcell]
      simp [hfz, hr]
    · rw [hoth b hb, show (w.setCell ⟨g, off + i, none⟩ v).heap[b]? = w.heap[b]? from Go.RowKit.Below.heap_setCell w _ v b hb]
    · rw [hget]
      by_cases hk : k = off + i
      · subst hk
        rw [if_neg (by omega), if_pos ⟨Nat.le_refl _, by simp⟩, Nat.sub_self]
        simp [hlt]
      · by_cases hk2 : off + (i + 1) ≤ k ∧ k < off + (i + 1) + vs.length
        · rw [if_pos hk2, if_pos ⟨by omega, by simp; omega⟩]
          have : k - (off + i) = (k - (off + (i + 1))) + 1 := by omega
          rw [this, List.getElem?_cons_succ]
        · rw [if_neg hk2, if_neg (by simp; omega), Array.getElem?_setIfInBounds_ne (Ne.symm hk)]

end Go.Av
end

section
namespace Go.Av

variable {P : Program} {U : Nat → Prop} {n n' : Nat} {ρ : Nat → Nat} {Ro : Nat → Prop} {h : Heap} {w w1 : World} {t : Tmps} {a : Act} {o : Oper} {C : Cx} {v : AV} {us : List (Nat × Option Row)}

theorem bsz_cells {b : Nat} {c : Array Value} {T : TypeId} {fr : Nat × Nat} (hb : w.heap[b]? = some (.cells c T fr)) : bsz w b = c.size := by simp [bsz, hb]

/-- A row into which cells were stored. -/
theorem stored (hr : Rel U ρ Ro h w) {j : Nat} {cs : List AV} (hj : h j = some (.cells cs)) (P : Program) (off : Nat) (vs : List Value) (ys ds : List AV) (hlen : vs.length = ys.length) (hone : ∀ (k : Nat) (x : AV), ys[k]? = some x → x.one = true)
    (hrv : ∀ (k : Nat) (x : AV) (v : Value), ys[k]? = some x → vs[k]? = some v → RV (cx U ρ Ro w) x v) (h1 : ∀ v ∈ vs, v.oneCell' = true)
    (hroom : ∀ c T fr, w.heap[ρ j]? = some (.cells c T fr) → off + ys.length ≤ c.size ∧ ds.length ≤ c.size)
    (hds : ∀ k : Nat, k < ds.length → ds[k]? = if off ≤ k ∧ k < off + ys.length then ys[k - off]? else cs[k]?) :
    ∃ w', (storeCells ⟨ρ j, off, none⟩ vs).run P w = .ok () w' ∧ Rel U ρ Ro (upd h j (some (.cells ds))) w' ∧ Ext U ρ Ro h w U ρ Ro (upd h j (some (.cells ds))) w' := by
  obtain ⟨c, T, lo, hi, h0, hfr, hle, hcone, hcrv⟩ := hr.row j cs hj
  obtain ⟨hr1, hr2⟩ := hroom c T (lo, hi) h0
  obtain ⟨w', c', hrun, hs, hsz, hoth, hg', hcsz, hget⟩ := run_storeCells P (ρ j) off vs 0 w c T lo hi h0 hfr (by omega) h1
  simp only [Nat.add_zero, hlen] at hget
  refine ⟨w', hrun, ?_⟩
  have hnone : ∀ (k : Nat) (x : AV), ds[k]? = some x → k < ds.length := fun k x hx => by
    rcases Nat.lt_or_ge k ds.length with h' | h'
    · exact h'
    · rw [List.getElem?_eq_none h'] at hx; cases hx
  exact hr.write hs hj (.cells ds) hsz hoth (by rw [bsz_cells hg', bsz_cells h0, hcsz]) (fun cs' he => by
    injection he with he
    subst he
    refine ⟨c', T, lo, hi, hg', by rw [hcsz]; exact hfr, by rw [hcsz]; exact hr2, fun k x hx => ?_, fun k x v hx hv => ?_⟩
    · rw [hds k (hnone k x hx)] at hx
      split at hx
      · exact hone _ x hx
      · exact hcone k x hx
    · have hk := hnone k x hx
      rw [hds k hk] at hx
      rw [hget] at hv
      split at hx
      · rename_i hkk
        rw [if_pos hkk] at hv
        exact hrv _ x v hx hv
      · rename_i hkk
        rw [if_neg hkk] at hv
        exact hcrv k x v hx hv) (fun s pos he => by cases he)

theorem oneCells_of {x : AV} {v : Value} (h : RV C x v) (hb : x.boxable = true) : ∀ u ∈ v.cells.toList, u.oneCell' = true := fun u hu => by
  have hc := h.cells
  obtain ⟨k, hk, rfl⟩ := List.mem_iff_getElem.1 hu
  have hk' : k < v.cells.size := by simpa using hk
  have hy : x.cells[k]? = some (x.cells[k]'(by omega)) := List.getElem?_eq_getElem (by omega)
  exact ((hc.2 k _ _ hy (by simp [hk'])).one_cell (one_of_boxable h hb k _ hy)).1

theorem sound_store {T : TypeId} {p x : Operand} {z j off : Nat} {cs : List AV} (hp : okX p = true) (hx : okX x = true) (hz : szT P T = some z) (he : aev t p = .p j off) (hj : h j = some (.cells cs))
    (hb : (aev t x).boxable = true) (hl : (aev t x).cells.length = z) (hfit : off + z ≤ cs.length) : Sound P (.store T p x) t h n (.tup []) [(j, some (.cells (splice cs off (aev t x).cells)))] n := by
  intro ty d U ρ Ro w a hm hr ht
  rw [ext_self]
  have hrp := rv_ev ht hp
  rw [he] at hrp
  obtain ⟨hjn, hpa⟩ := hrp.inv_p
  have hrx := rv_ev ht hx
  have hc := hrx.cells
  have hlen : (a.eval x).cells.toList.length = (aev t x).cells.length := by simp [hc.1]
  have hsp := splice_len cs off (aev t x).cells (by omega)
  obtain ⟨w', h1, h2, h3⟩ := stored hr hj P off (a.eval x).cells.toList (aev t x).cells (splice cs off (aev t x).cells) hlen (one_of_boxable hrx hb) (fun k y u hy hu => hc.2 k y u hy (by simpa using hu)) (oneCells_of hrx hb)
    (fun c T fr hg => by
      obtain ⟨c', T', lo, hi, h0, _, hle, _, _⟩ := hr.row j cs hj
      rw [hg] at h0
      injection h0 with h0
      injection h0 with h0
      subst h0
      omega) (fun k _ => splice_get _ _ _ (by omega) k)
  refine ⟨undef, w', ρ, Ro, .inr ⟨?_, rfl⟩, rv_undef _, h2, h3⟩
  have hsz : (a.eval x).cells.size = z := by rw [hc.1]; exact hl
  have hpa' : a.eval p = .pointer (some ⟨ρ j, off, none⟩) := hpa
  simp [execOp, Instr.storeAt, hpa', Instr.sureAddr, storeVar, run_sizeOf hz, hsz, h1]

theorem sound_range {T : TypeId} {x : Operand} {u : ByteArray} (hx : okX x = true) (hk : kiT P T = some .string) (he : aev t x = .s u) : Sound P (.range T x) t h n (.p n 0) [(n, some (.iter u 0))] (n + 1) := by
  intro ty d U ρ Ro w a hm hr ht
  rw [ext_succ]
  obtain ⟨D, hd, _, _, h1, _⟩ := kiT_some hk
  obtain rfl := h1.1 rfl
  have hrx := rv_ev ht hx
  rw [he] at hrx
  have hs := hrx.inv_s
  obtain ⟨g1, g2, g3⟩ := hr.new (hm n (Nat.le_refl _) (Nat.lt_succ_self _)) (w1 := w.alloc (.stringIter u 0)) (same_alloc ..) (o := .stringIter u 0) rfl (.iter u 0) (fun cs he => by cases he) (fun s pos he => by injection he with h1 h2; subst h1; subst h2; rfl)
  refine ⟨.pointer (some ⟨w.heap.size, 0, none⟩), w.alloc (.stringIter u 0), pin ρ n w.heap.size, Ro, .inl ?_, ?_, g1, g2⟩
  · simp [execOp, Instr.range, hs, run_underlying hd]
  · have := RV.p (C := cx (ins U n) (pin ρ n w.heap.size) Ro (w.alloc (.stringIter u 0))) n 0 ((.inr rfl : ins U n n))
    simpa [cx, pin_same] using this

theorem rv_tup3 {x y z : AV} {a b c : Value} (hx : RV C x a) (hy : RV C y b) (hz : RV C z c) : RV C (.tup [x, y, z]) (.tuple #[a, b, c]) :=
  .tup _ _ rfl (fun k u v hu hv => by
    rcases k with _ | _ | _ | k
    · simp at hu hv; subst hu; subst hv; exact hx
    · simp at hu hv; subst hu; subst hv; exact hy
    · simp at hu hv; subst hu; subst hv; exact hz
    · simp at hu)
theorem rv_tup2 {x y : AV} {a b : Value} (hx : RV C x a) (hy : RV C y b) : RV C (.tup [x, y]) (.tuple #[a, b]) :=
  .tup _ _ rfl (fun k u v hu hv => by
    rcases k with _ | _ | k
    · simp at hu hv; subst hu; subst hv; exact hx
    · simp at hu hv; subst hu; subst hv; exact hy
    · simp at hu)
theorem rv_tup1 {x : AV} {a : Value} (hx : RV C x a) : RV C (.tup [x]) (.tuple #[a]) :=
  .tup _ _ rfl (fun k u v hu hv => by
    rcases k with _ | k
    · simp at hu hv; subst hu; subst hv; exact hx
    · simp at hu)

theorem sound_next {x : Operand} {u : ByteArray} {j pos : Nat} (hx : okX x = true) (he : aev t x = .p j 0) (hj : h j = some (.iter u pos)) (hlt : pos < u.size) :
    Sound P (.next x true) t h n (.tup [.b true, .i .i64 pos, .i .i32 ((Utf8.decode u pos).1 : Int)]) [(j, some (.iter u (pos + (Utf8.decode u pos).2)))] n := by
  intro ty d U ρ Ro w a hm hr ht
  rw [ext_self]
  have hrx := rv_ev ht hx
  rw [he] at hrx
  obtain ⟨hjn, hpa⟩ := hrx.inv_p
  have hpa' : a.eval x = .pointer (some ⟨ρ j, 0, none⟩) := hpa
  have hit := hr.iter j u pos hj
  obtain ⟨g1, g2⟩ := hr.write (w1 := { w with heap := w.heap.setIfInBounds (ρ j) (.stringIter u (pos + (Utf8.decode u pos).2)) }) ⟨rfl, rfl, rfl⟩ hj (.iter u (pos + (Utf8.decode u pos).2)) (by simp)
    (fun b hb => by simp [Array.getElem?_setIfInBounds_ne (Ne.symm hb)]) (by have hlt : ρ j < w.heap.size := hr.bl j hjn; simp only [bsz, hit]; rw [Array.getElem?_setIfInBounds_self_of_lt hlt]) (fun cs he => by cases he)
    (fun s p he => by injection he with h1 h2; subst h1; subst h2; have hlt := hr.bl j hjn; simp [hlt])
  refine ⟨.tuple #[.bool true, goInt pos, .int .i32 ((Utf8.decode u pos).1 : Int)], _, ρ, Ro, .inl ?_, rv_tup3 (.b _) (.i _ _) (.i _ _), g1, g2⟩
  simp only [execOp, Instr.next, hpa', Sem.run_bind, getObj, Sem.run, hit, Result.andThen_ok, Sem.run_pure]
  rw [if_pos hlt]
  simp [setObj, Sem.run, hit]

theorem sound_next_end {x : Operand} {u : ByteArray} {j pos : Nat} (hx : okX x = true) (he : aev t x = .p j 0) (hj : h j = some (.iter u pos)) (hge : ¬ pos < u.size) :
    Sound P (.next x true) t h n (.tup [.b false]) [] n :=
  Sound.val fun ty d U ρ Ro w a hr ht => by
    have hrx := rv_ev ht hx
    rw [he] at hrx
    obtain ⟨hjn, hpa⟩ := hrx.inv_p
    have hpa' : a.eval x = .pointer (some ⟨ρ j, 0, none⟩) := hpa
    have hit := hr.iter j u pos hj
    refine ⟨.tuple #[.bool false], .inl ?_, rv_tup1 (.b _)⟩
    simp only [execOp, Instr.next, hpa', Sem.run_bind, getObj, Sem.run, hit, Result.andThen_ok, Sem.run_pure]
    rw [if_neg hge]
    rfl

theorem sound_makeSlice {T : TypeId} {l c : Operand} {kl kc : IntKind} {li ci : Int} {e : TypeId} {z by_ : Nat} {zs : List AV} (hl : okX l = true) (hc : okX c = true) (hs : slT P T = some (e, z, by_)) (hel : aev t l = .i kl li) (hec : aev t c = .i kc ci)
    (hz : zeT P e = some zs) (hzs : zs.length = z) (h0 : 0 ≤ li) (hlc : li ≤ ci) (hb : ci * by_ ≤ 140737488355328) (hm : ci ≤ 9223372036854775807) :
    Sound P (.makeSlice T l c) t h n (.sl z n 0 li.toNat) [(n, some (.cells (rep ci.toNat zs)))] (n + 1) := by
  intro ty d U ρ Ro w a hm_ hr ht
  rw [ext_succ]
  have h1 := rv_ev ht hl
  rw [hel] at h1
  have h2 := rv_ev ht hc
  rw [hec] at h2
  have hli := h1.inv_i
  have hci := h2.inv_i
  obtain ⟨hu, hsz, hby⟩ := slT_some hs
  obtain ⟨ib, hib, hibb⟩ := byT_some hby
  obtain ⟨i, zv, hi, hzz, hcs⟩ := zero_cs hz (cx U ρ Ro w)
  rw [hi] at hib
  injection hib with hib
  subst hib
  have hwl : IntKind.i64.wrap li = li := IntWalk.i64_in _ (by omega)
  have hwc : IntKind.i64.wrap ci = ci := IntWalk.i64_in _ (by omega)
  have hc0 := zeroRow_cs hcs ci.toNat z hzs
  obtain ⟨ρ', Ro', g0, g1, g2⟩ := new_slice (w1 := w.alloc (.cells ((Array.range (ci.toNat * z)).map (zv.cells[· % zv.cells.size]!)) e)) hr (hm_ n (Nat.le_refl _) (Nat.lt_succ_self _)) (same_alloc ..) (c := (Array.range (ci.toNat * z)).map (zv.cells[· % zv.cells.size]!)) (T := e) (lo := 0) (hi := 0) rfl (.inl rfl)
    (Nat.le_of_eq hc0.len.symm) hc0.one hc0.rv (sz := z) (len := li.toNat) (cap := ci.toNat) (by omega) (by unfold maxLen; omega) (by simp)
  refine ⟨_, _, ρ', Ro', .inl ?_, g0, g1, g2⟩
  have hnb : ¬ (by_ : Int) * ci > 281474976710656 := by rw [Int.mul_comm]; omega
  have hnbl : ¬ (i.bytes : Int) * ci > 281474976710656 := by rw [hibb]; exact hnb
  simp only [execOp, Instr.makeSlice, Sem.run_bind, run_underlying hu, Result.andThen_ok, hli, hci, asInt, asIntOf, Sem.run_pure, typeInfo, run_program, hi, hwl, hwc]
  have hcond : ((decide (ci < 0) || decide ((i.bytes : Int) * ci > 2 ^ 48)) || decide (li < 0) || decide (li > ci)) = false := by
    simp only [Bool.or_eq_false_iff, decide_eq_false_iff_not]
    refine ⟨⟨⟨by omega, ?_⟩, by omega⟩, by omega⟩
    rw [show (2 : Int) ^ 48 = 281474976710656 from rfl]; exact hnbl
  simp only [hcond, Bool.false_eq_true, if_false, Sem.run_bind, run_askRoom, Result.andThen_ok, run_sizeOf hsz]
  by_cases hn0 : ci.toNat * z = 0
  · rw [if_pos hn0]
    simp only [Sem.run_bind, Sem.run_pure, Result.andThen_ok, newRow, run_newObj]
    rw [hn0]
    congr 2
    rw [show (Array.range 0 : Array Nat) = #[] from rfl]
    simp
  · rw [if_neg hn0]
    simp only [Sem.run_bind, run_zeroValue hi hzz, Sem.run_pure, Result.andThen_ok, newRow, run_newObj]
    rfl

end Go.Av
end

section
namespace Go.Av

variable {P : Program} {U : Nat → Prop} {n n' : Nat} {ρ : Nat → Nat} {Ro : Nat → Prop} {h : Heap} {w w1 : World} {t : Tmps} {a : Act} {o : Oper} {C : Cx} {v : AV} {us : List (Nat × Option Row)}

/-- A bound of a cut: as the operand says. -/
def RO (C : Cx) : Option AV → Option Value → Prop
  | none, none => True
  | some x, some v => RV C x v
  | _, _ => False

theorem ro_map (ht : RelT C t a) {x : Option Operand} (hx : ∀ y, x = some y → okX y = true) : RO C (x.map (aev t)) (x.map a.eval) := by
  cases x with
  | none => trivial
  | some y => exact rv_ev ht (hx y rfl)

theorem run_sliceBounds {len cap : Nat} {lo hi : Option AV} {lov hiv : Option Value} (hlo : RO C lo lov) (hhi : RO C hi hiv) {x y : Nat} (hb : asliceB len len lo hi = some (x, y)) (hlc : len ≤ cap) (isS : Bool) :
    (Instr.sliceBounds isS len cap lov hiv none).run P w = .ok (x, y, cap) w ∧ x ≤ y ∧ y ≤ len := by
  unfold asliceB at hb
  split at hb
  · cases hb
  · rename_i b hbb
    split at hb
    · cases hb
    · rename_i a' haa
      simp only [Option.some.injEq, Prod.mk.injEq] at hb
      obtain ⟨rfl, rfl⟩ := hb
      have h1 : b ≤ len ∧ (match hiv with | some v => Instr.sliceBound v cap (if isS then .sliceAcap else .sliceAlen) | none => pure len : Sem Nat).run P w = .ok b w := by
        cases hi with
        | none =>
          cases hiv with
          | none => simp at hbb; subst hbb; exact ⟨Nat.le_refl _, rfl⟩
          | some v => exact hhi.elim
        | some hx =>
          cases hiv with
          | none => exact hhi.elim
          | some v =>
            cases hx <;> simp only at hbb <;> try (cases hbb; done)
            rename_i k m
            split at hbb
            · rename_i hm
              injection hbb with hbb
              subst hbb
              have hv := RV.inv_i hhi
              subst hv
              refine ⟨by omega, ?_⟩
              simp only [Instr.sliceBound, asIntOf, Sem.run_bind, Sem.run_pure, Result.andThen_ok]
              rw [if_pos ⟨hm.1, by omega⟩]
              rfl
            · cases hbb
      have h2 : a' ≤ b ∧ (match lov with | some v => Instr.sliceBound v b .sliceB | none => pure 0 : Sem Nat).run P w = .ok a' w := by
        cases lo with
        | none =>
          cases lov with
          | none => simp at haa; subst haa; exact ⟨Nat.zero_le _, rfl⟩
          | some v => exact hlo.elim
        | some hx =>
          cases lov with
          | none => exact hlo.elim
          | some v =>
            cases hx <;> simp only at haa <;> try (cases haa; done)
            rename_i k m
            split at haa
            · rename_i hm
              injection haa with haa
              subst haa
              have hv := RV.inv_i hlo
              subst hv
              refine ⟨by omega, ?_⟩
              simp only [Instr.sliceBound, asIntOf, Sem.run_bind, Sem.run_pure, Result.andThen_ok]
              rw [if_pos ⟨hm.1, by omega⟩]
              rfl
            · cases haa
      refine ⟨?_, h2.1, h1.1⟩
      have g1 := h1.2
      have g2 := h2.2
      cases hiv <;> cases lov <;> simp only [Instr.sliceBounds, Sem.run_bind, Sem.run_pure, Result.andThen_ok, Option.isSome_none, Bool.false_eq_true, if_false] at g1 g2 ⊢ <;> simp_all

theorem rv_empty (C : Cx) (ad : Addr) (cap : Nat) (hm : cap ≤ maxLen) : RV C (.ro false [] 0) (.slice (some ad) 0 cap) :=
  .ro [] 0 ad cap (fun _ => default) (Nat.zero_le _) hm (fun k x hx => by simp at hx) (fun k x hx => by simp at hx) (fun k x hx => by simp at hx)

theorem rv_sub {cs : List AV} {ad : Addr} {vs : Nat → Value} (h1 : ∀ (k : Nat) (x : AV), cs[k]? = some x → x.one = true) (h2 : ∀ (k : Nat) (x : AV), cs[k]? = some x → C.M (ad.add k) (vs k))
    (h3 : ∀ (k : Nat) (x : AV), cs[k]? = some x → RV C x (vs k)) {off m len cap : Nat} (hl : len ≤ cap) (hc : cap ≤ maxLen) {ad' : Addr} (had : m = 0 ∨ ad' = ad.add off) : RV C (.ro false ((cs.drop off).take m) len) (.slice (some ad') len cap) := by
  have hget : ∀ (k : Nat) (x : AV), ((cs.drop off).take m)[k]? = some x → cs[off + k]? = some x ∧ k < m := fun k x hx => by
    rw [List.getElem?_take] at hx
    split at hx
    · rw [List.getElem?_drop] at hx; exact ⟨hx, by assumption⟩
    · cases hx
  refine .ro _ len ad' cap (fun k => vs (off + k)) hl hc (fun k x hx => h1 _ x (hget k x hx).1) (fun k x hx => ?_) (fun k x hx => h3 _ x (hget k x hx).1)
  obtain ⟨hx1, hx2⟩ := hget k x hx
  rcases had with rfl | rfl
  · omega
  · rw [add_add]; exact h2 _ x hx1

theorem sound_slice {T : TypeId} {x : Operand} {lo hi : Option Operand} (hx : okX x = true) (hlo : ∀ y, lo = some y → okX y = true) (hhi : ∀ y, hi = some y → okX y = true) (hv : aslice P T h (aev t x) (lo.map (aev t)) (hi.map (aev t)) = some v) :
    Sound P (.slice T x lo hi none) t h n v [] n :=
  Sound.val fun ty d U ρ Ro w a hrel ht => by
    have hr := rv_ev ht hx
    have hl := ro_map ht hlo
    have hh := ro_map ht hhi
    generalize aev t x = p at hv hr
    generalize lo.map (aev t) = lo' at hv hl
    generalize hi.map (aev t) = hi' at hv hh
    unfold aslice at hv
    split at hv
    · -- string
      rename_i u hk
      obtain ⟨D, hd, _, _, h1, _⟩ := kiT_some hk
      obtain rfl := h1.1 rfl
      have hs := hr.inv_s
      split at hv
      · rename_i x' y' hb
        injection hv with hv
        subst hv
        obtain ⟨g1, g2, g3⟩ := run_sliceBounds (P := P) (w := w) hl hh hb (Nat.le_refl _) false
        exact ⟨.string (u.extract x' y'), .inl (by simp [execOp, Instr.sliceAt, Instr.slice, run_underlying hd, hs, g1]), .s _⟩
      · cases hv
    · -- own slice
      rename_i sz j off len hk
      split at hv
      · rename_i e z by_ x' y' hs hb
        split at hv
        · rename_i hz
          subst hz
          obtain ⟨hu, hsz, _⟩ := slT_some hs
          obtain ⟨cap, hva, hj, hlc, hcm, hroom⟩ := hr.inv_sl
          obtain ⟨g1, g2, g3⟩ := run_sliceBounds (P := P) (w := w) hl hh hb hlc true
          have hrun : Ran P (.slice T x lo hi none) ty d a w (.slice (if cap = x' then some ⟨(cx U ρ Ro w).ρ j, off, none⟩ else (some (⟨(cx U ρ Ro w).ρ j, off, none⟩ : Addr)).map (·.add (x' * z))) (y' - x') (cap - x')) w := by
            refine .inl ?_
            simp only [execOp, Instr.sliceAt, Sem.run_bind, run_underlying hu, Result.andThen_ok, hva]
            simp only [Instr.slice, Sem.run_bind, run_underlying hu, Result.andThen_ok, Option.map_none, g1, run_sizeOf hsz, Sem.run_pure]
          refine ⟨_, hrun, ?_⟩
          split at hv
          · rename_i hxy
            injection hv with hv
            subst hv
            rw [if_neg (by omega)]
            simp only [Option.map_some, Addr.add_lit]
            refine .sl z j _ _ _ hj (by omega) (by omega) ?_
            have : x' * z + (cap - x') * z = cap * z := by rw [← Nat.add_mul]; congr 1; omega
            omega
          · injection hv with hv
            subst hv
            have h0 : y' - x' = 0 := by omega
            rw [h0]
            split
            · exact rv_empty _ _ _ (by omega)
            · exact rv_empty _ _ _ (by omega)
        · cases hv
      · cases hv
    · -- read-only slice
      rename_i zz cs len hk
      split at hv
      · rename_i e z by_ x' y' hs hb
        injection hv with hv
        subst hv
        obtain ⟨hu, hsz, _⟩ := slT_some hs
        cases zz with
        | true =>
          obtain ⟨rfl, rfl, hva⟩ := hr.inv_ro1
          obtain ⟨g1, g2, g3⟩ := run_sliceBounds (P := P) (w := w) hl hh hb (Nat.le_refl _) true
          have hx0 : x' = 0 := by omega
          have hy0 : y' = 0 := by omega
          subst hx0; subst hy0
          refine ⟨.slice none 0 0, .inl ?_, by simpa using RV.ron⟩
          simp only [execOp, Instr.sliceAt, Sem.run_bind, run_underlying hu, Result.andThen_ok, hva]
          simp [Instr.slice, run_underlying hu, g1, run_sizeOf hsz]
        | false =>
          obtain ⟨ad, cap, vs, hva, hlc, hcm, h1, h2, h3⟩ := hr.inv_ro0
          obtain ⟨g1, g2, g3⟩ := run_sliceBounds (P := P) (w := w) hl hh hb hlc true
          have hrun : Ran P (.slice T x lo hi none) ty d a w (.slice (if cap = x' then some ad else (some ad).map (·.add (x' * z))) (y' - x') (cap - x')) w := by
            refine .inl ?_
            simp only [execOp, Instr.sliceAt, Sem.run_bind, run_underlying hu, Result.andThen_ok, hva]
            simp only [Instr.slice, Sem.run_bind, run_underlying hu, Result.andThen_ok, Option.map_none, g1, run_sizeOf hsz, Sem.run_pure]
          refine ⟨_, hrun, ?_⟩
          split
          · exact rv_sub h1 h2 h3 (by omega) (by omega) (.inl (by rw [show y' - x' = 0 by omega]; simp))
          · exact rv_sub h1 h2 h3 (by omega) (by omega) (.inr rfl)
      · cases hv
    · -- an array behind a pointer
      rename_i px kk p' hk hn1 hn2
      split at hv
      · rename_i m z g cs off hs hp
        obtain ⟨e, hu, hsz, _⟩ := arT_some hs
        split at hv
        · rename_i x' y' hb
          split at hv
          · rename_i hroom
            obtain ⟨hroom, hmm⟩ := hroom
            obtain ⟨g1, g2, g3⟩ := run_sliceBounds (P := P) (w := w) hl hh hb (Nat.le_refl _) false
            obtain ⟨ad, hva, _⟩ := hrel.read hr hp
            have hrun : Ran P (.slice T x lo hi none) ty d a w (.slice (some (if m = x' then ad else ad.add (x' * z))) (y' - x') (m - x')) w := by
              refine .inl ?_
              simp only [execOp, Instr.sliceAt, Sem.run_bind, run_underlying hu, Result.andThen_ok, hva, Instr.sureAddr, Sem.run_pure, Option.map_none, g1, run_sizeOf hsz]
            refine ⟨_, hrun, ?_⟩
            split at hv
            · rename_i j off'
              obtain ⟨hj, hpa⟩ := hr.inv_p
              rw [hva] at hpa
              injection hpa with hpa
              injection hpa with hpa
              subst hpa
              simp only [place] at hp
              cases hhj : h j with
              | none => rw [hhj] at hp; cases hp
              | some r =>
                rw [hhj] at hp
                cases r with
                | iter s pos => cases hp
                | cells cs' =>
                  simp only [Option.some.injEq, Prod.mk.injEq] at hp
                  obtain ⟨rfl, rfl⟩ := hp
                  obtain ⟨c, t', lo', hi'', h0, _, hle, _, _⟩ := hrel.row j cs' hhj
                  have hZ : (cx U ρ Ro w).Z ((cx U ρ Ro w).ρ j) = c.size := bsz_cells h0
                  split at hv
                  · rename_i hxy
                    injection hv with hv
                    subst hv
                    rw [if_neg (by omega), Addr.add_lit]
                    refine .sl z j _ _ _ hj (by omega) (by unfold maxLen; omega) ?_
                    have : x' * z + (m - x') * z = m * z := by rw [← Nat.add_mul]; congr 1; omega
                    omega
                  · injection hv with hv
                    subst hv
                    have h0 : y' - x' = 0 := by omega
                    rw [h0]
                    exact rv_empty _ _ _ (by unfold maxLen; omega)
            · injection hv with hv
              subst hv
              rename_i hnp
              cases px with
              | q cs' o =>
                obtain ⟨b, vs, hb', h1, h2, h3⟩ := hr.inv_q
                simp only [place, Option.some.injEq, Prod.mk.injEq] at hp
                obtain ⟨rfl, rfl⟩ := hp
                rw [hva] at hb'
                injection hb' with hb'
                injection hb' with hb'
                subst hb'
                by_cases hmx : m = x'
                · rw [if_pos hmx]
                  exact rv_sub h1 h2 h3 (by omega) (by unfold maxLen; omega) (.inl (by rw [show y' - x' = 0 by omega]; simp))
                · rw [if_neg hmx, add_add]
                  exact rv_sub h1 h2 h3 (by omega) (by unfold maxLen; omega) (.inr rfl)
              | p j' o' => exact absurd rfl (hnp j' o')
              | _ => simp [place] at hp
          · cases hv
        · cases hv
      · cases hv
    · cases hv

end Go.Av
end

section
namespace Go.Av

variable {P : Program} {U : Nat → Prop} {n n' : Nat} {ρ : Nat → Nat} {Ro : Nat → Prop} {h : Heap} {w w1 : World} {t : Tmps} {a : Act} {o : Oper} {C : Cx} {v : AV} {us : List (Nat × Option Row)}

theorem sound_sliceToArrayPointer {T : TypeId} {x : Operand} (hx : okX x = true) (hv : (match arT P T, aev t x with
    | some (m, _, _), .sl _ j off len => if m ≤ len then some (AV.p j off) else none
    | some (m, _, _), .ro false cs len => if m ≤ len then some (AV.q cs 0) else none
    | _, _ => none) = some v) : Sound P (.sliceToArrayPointer T x) t h n v [] n :=
  Sound.val fun ty d U ρ Ro w a hrel ht => by
    have hr := rv_ev ht hx
    generalize aev t x = p at hv hr
    split at hv
    · rename_i m z g sz j off len hs
      split at hv
      · rename_i hml
        injection hv with hv
        subst hv
        obtain ⟨e, hu, _⟩ := arT_some hs
        obtain ⟨cap, hva, hj, _⟩ := hr.inv_sl
        refine ⟨_, .inl ?_, .p j off hj⟩
        simp only [execOp, Instr.arrayAt, Sem.run_bind, run_underlying hu, Result.andThen_ok, hva]
        rw [if_neg (by omega)]
        rfl
      · cases hv
    · rename_i m z g cs len hs
      split at hv
      · rename_i hml
        injection hv with hv
        subst hv
        obtain ⟨e, hu, _⟩ := arT_some hs
        obtain ⟨ad, cap, vs, hva, hlc, hcm, h1, h2, h3⟩ := hr.inv_ro0
        refine ⟨.pointer (some (ad.add 0)), .inl ?_, .q cs 0 ad vs h1 h2 h3⟩
        simp only [execOp, Instr.arrayAt, Sem.run_bind, run_underlying hu, Result.andThen_ok, hva, Addr.add_zero']
        rw [if_neg (by omega)]
        rfl
      · cases hv
    · cases hv

theorem foldl_push (l : List UInt8) : ∀ (acc : ByteArray), l.foldl (fun r (n : UInt8) => r.push n) acc = ⟨acc.data ++ l.toArray⟩ := by
  induction l with
  | nil => intro acc; simp
  | cons x l ih => intro acc; rw [List.foldl_cons, ih]; simp [ByteArray.push]

theorem unbytes_some : ∀ {ys : List AV} {l : List UInt8} {vs : List Value}, unbytes ys = some l → RVs C ys vs → ∃ ns : List Int, vs = ns.map (Value.int .u8) ∧ l = ns.map fun n => UInt8.ofNat n.toNat
  | [], l, vs, hu, hv => by
    simp [unbytes] at hu; subst hu
    have : vs = [] := List.eq_nil_of_length_eq_zero hv.1
    exact ⟨[], by simp [this], rfl⟩
  | y :: ys, l, vs, hu, hv => by
    cases vs with
    | nil => have := hv.1; simp at this
    | cons u vs =>
      have h0 := hv.2 0 y u rfl rfl
      have hrest : RVs C ys vs := ⟨by simpa using hv.1, fun k x v hx hv' => hv.2 (k + 1) x v (by simpa using hx) (by simpa using hv')⟩
      cases y with
      | i k m =>
        cases k with
        | u8 =>
          cases hr : unbytes ys with
          | none => simp [unbytes, hr] at hu
          | some r =>
            simp [unbytes, hr] at hu
            obtain ⟨ns, h1, h2⟩ := unbytes_some hr hrest
            obtain rfl := h0.inv_i
            exact ⟨m :: ns, by simp [h1], by simp [← hu, h2]⟩
        | _ => simp [unbytes] at hu
      | _ => simp [unbytes] at hu

theorem bytesA_get (u : ByteArray) (k : Nat) : (bytesA u)[k]? = (u.data.toList[k]?).map fun b => AV.i .u8 (b.toNat : Int) := by simp [bytesA]
theorem bytesA_len (u : ByteArray) : (bytesA u).length = u.size := by simp [bytesA]
theorem bytesA_one (u : ByteArray) : ∀ (k : Nat) (x : AV), (bytesA u)[k]? = some x → x.one = true := fun k x hx => by
  rw [bytesA_get] at hx
  cases hk : u.data.toList[k]? with
  | none => rw [hk] at hx; cases hx
  | some b => rw [hk] at hx; simp at hx; subst hx; rfl
theorem bytesA_rvs (C : Cx) (u : ByteArray) : RVs C (bytesA u) (u.data.toList.map fun b => Value.int .u8 b.toNat) :=
  ⟨by simp [bytesA], fun k x v hx hv => by
    rw [bytesA_get] at hx
    rw [List.getElem?_map] at hv
    cases hk : u.data.toList[k]? with
    | none => rw [hk] at hx; cases hx
    | some b => rw [hk] at hx hv; simp at hx hv; subst hx; subst hv; exact .i _ _⟩

theorem sound_conv {S D : TypeId} {x : Operand} (hx : okX x = true) (hv : aconv P S D h n (aev t x) = some (v, us, n')) : Sound P (.convert S D x) t h n v us n' := by
  generalize hp : aev t x = p at hv
  unfold aconv at hv
  split at hv
  · rename_i k0 k k' m hs hd
    simp only [Option.some.injEq, Prod.mk.injEq] at hv
    obtain ⟨rfl, rfl, rfl⟩ := hv
    refine Sound.val fun ty d U ρ Ro w a hrel ht => ?_
    have hr := rv_ev ht hx
    rw [hp] at hr
    have hva := hr.inv_i
    obtain ⟨Ds, hds, _⟩ := kiT_some hs
    obtain ⟨Dd, hdd, _, h1, _⟩ := kiT_some hd
    obtain rfl := (h1 k).1 rfl
    exact ⟨.int k (k.wrap m), .inl (by simp [execOp, convert, run_underlying hds, run_underlying hdd, hva, Conv.intToInt]), .i _ _⟩
  · rename_i u hs hd
    simp only [Option.some.injEq, Prod.mk.injEq] at hv
    obtain ⟨rfl, rfl, rfl⟩ := hv
    refine Sound.val fun ty d U ρ Ro w a hrel ht => ?_
    have hr := rv_ev ht hx
    rw [hp] at hr
    have hva := hr.inv_s
    obtain ⟨Ds, hds, _⟩ := kiT_some hs
    obtain ⟨Dd, hdd, _, _, h1, _⟩ := kiT_some hd
    obtain rfl := h1.1 rfl
    exact ⟨.string u, .inl (by simp [execOp, convert, run_underlying hds, run_underlying hdd, hva]), .s _⟩
  · rename_i k0 k' m hs hd
    simp only [Option.some.injEq, Prod.mk.injEq] at hv
    obtain ⟨rfl, rfl, rfl⟩ := hv
    refine Sound.val fun ty d U ρ Ro w a hrel ht => ?_
    have hr := rv_ev ht hx
    rw [hp] at hr
    have hva := hr.inv_i
    obtain ⟨Ds, hds, _⟩ := kiT_some hs
    obtain ⟨Dd, hdd, _, _, h1, _⟩ := kiT_some hd
    obtain rfl := h1.1 rfl
    exact ⟨.string (Utf8.encode m), .inl (by simp [execOp, convert, run_underlying hds, run_underlying hdd, hva, Conv.intToString]), .s _⟩
  · rename_i u hs hd
    split at hv
    · rename_i e hu
      split at hv
      · rename_i hke
        obtain ⟨hke, hsz⟩ := hke
        simp only [Option.some.injEq, Prod.mk.injEq] at hv
        obtain ⟨rfl, rfl, rfl⟩ := hv
        intro ty d U ρ Ro w a hm hrel ht
        rw [ext_succ]
        have hr := rv_ev ht hx
        rw [hp] at hr
        have hva := hr.inv_s
        obtain ⟨Ds, hds, _⟩ := kiT_some hs
        obtain ⟨De, hde, _, h1, _⟩ := kiT_some hke
        obtain rfl := (h1 .u8).1 rfl
        have hcap : u.size ≤ grownCap w u.size 0 e := grownCap_ge ..
        have hcapm : grownCap w u.size 0 e ≤ maxLen := grownCap_le_maxLen _ _ _ _ (by unfold maxLen; omega)
        let c : Array Value := u.data.map (fun b => Value.int .u8 b.toNat) ++ Array.replicate (grownCap w u.size 0 e - u.size) (.int .u8 0)
        have hcsz : c.size = grownCap w u.size 0 e := by
          have h2 : u.data.size = u.size := rfl
          simp only [c, Array.size_append, Array.size_map, Array.size_replicate, h2]; omega
        let w1 : World := Lib.bytesWorld w e u
        have hheap : w1.heap = w.heap.push (.cells c e (c.size, c.size + 1)) := by
          have hc : Lib.bytesCells w e u = c := rfl
          show (World.freeze (w.drew.alloc (.cells (Lib.bytesCells w e u) e)) ⟨w.heap.size, (Lib.bytesCells w e u).size, none⟩ 1).heap = _
          rw [hc]
          apply Array.ext_getElem?
          intro k
          simp only [World.freeze, Nat.one_ne_zero, if_false, Array.getElem?_modify]
          have h1 : (w.drew.alloc (.cells c e)).heap = w.heap.push (.cells c e) := rfl
          rw [h1, Array.getElem?_push, Array.getElem?_push]
          by_cases hk : k = w.heap.size
          · subst hk; simp
          · rw [if_neg hk, if_neg hk, if_neg (fun e => hk e.symm)]
        have hsame : Same w w1 := by
          show Same w (World.freeze (w.drew.alloc (.cells (Lib.bytesCells w e u) e)) _ 1)
          exact ⟨rfl, rfl, rfl⟩
        have hcell : ∀ (k : Nat) (x : AV) (v : Value), (bytesA u)[k]? = some x → c[k]? = some v → RV (cx U ρ Ro w) x v := fun k x v hx hv => by
          have hk : k < u.size := by
            rcases Nat.lt_or_ge k u.size with h' | h'
            · exact h'
            · rw [List.getElem?_eq_none (by rw [bytesA_len]; exact h')] at hx; cases hx
          have : c[k]? = (u.data.map (fun b => Value.int .u8 b.toNat))[k]? := Array.getElem?_append_left (by simpa using hk)
          rw [this] at hv
          exact (bytesA_rvs _ u).2 k x v hx (by simpa using hv)
        obtain ⟨ρ', Ro', g0, g1, g2⟩ := new_slice (w1 := w1) hrel (hm n (Nat.le_refl _) (Nat.lt_succ_self _)) hsame (c := c) (T := e) (lo := c.size) (hi := c.size + 1) hheap (.inr (Nat.le_refl _)) (by rw [bytesA_len, hcsz]; exact hcap) (bytesA_one u) hcell
          (sz := 1) (len := u.size) (cap := grownCap w u.size 0 e) hcap hcapm (by omega)
        refine ⟨_, w1, ρ', Ro', .inl ?_, g0, g1, g2⟩
        simp only [execOp, hva, Sem.run_bind, Lib.run_convert_string_bytes w S D e u hds hu hde, Result.andThen_ok]
        rfl
      · cases hv
    · cases hv
  · rename_i x' hs hd
    split at hv
    · rename_i e hu
      split at hv
      · rename_i hke
        split at hv
        · rename_i cs off len hview
          split at hv
          · rename_i l hub
            split at hv
            · rename_i hle
              simp only [Option.some.injEq, Prod.mk.injEq] at hv
              obtain ⟨rfl, rfl, rfl⟩ := hv
              refine Sound.val fun ty d U ρ Ro w a hrel ht => ?_
              have hr := rv_ev ht hx
              rw [hp] at hr
              obtain ⟨De, hde, _, h1, _⟩ := kiT_some hke
              obtain rfl := (h1 .u8).1 rfl
              obtain ⟨Dd, hdd, _, _, h2, _⟩ := kiT_some hd
              obtain rfl := h2.1 rfl
              obtain ⟨ad, cap, hva, hnil, hrd⟩ := hrel.show_ hr hview
              have hlen : ((cs.drop off).take len).length = len := by simp; omega
              refine ⟨.string ⟨l.toArray⟩, .inl ?_, .s _⟩
              have hc := run_convert_bytes_string w S D e ad len cap hu hde hdd
              simp only [execOp, hva, Sem.run_bind, hc]
              cases ad with
              | none =>
                obtain ⟨rfl, rfl⟩ := hnil rfl
                simp [unbytes] at hub
                subst hub
                rfl
              | some ad =>
                obtain ⟨vs, g1, g2, g3, g4⟩ := exists_cells (C := cx U ρ Ro w) (a := ad) len hlen.symm (fun k y hy => by
                  rw [List.getElem?_take] at hy
                  split at hy
                  · rw [List.getElem?_drop] at hy; exact hrd ad rfl k y hy
                  · cases hy)
                obtain ⟨ns, g5, g6⟩ := unbytes_some hub g2
                have hl := run_loads P vs ad g3
                rw [g1, g5] at hl
                rw [run_bytesToString w ad len cap ns hl]
                have : ns.foldl (fun r n => r.push (UInt8.ofNat n.toNat)) ByteArray.empty = ⟨l.toArray⟩ := by
                  rw [g6]
                  have h3 := foldl_push (ns.map fun n => UInt8.ofNat n.toNat) ByteArray.empty
                  rw [List.foldl_map] at h3
                  rw [h3]
                  rw [show ByteArray.empty.data = #[] from rfl, Array.empty_append]
                rw [this]
                rfl
            · cases hv
          · cases hv
        · cases hv
      · cases hv
    · cases hv
  · rename_i sz j off len hs hd
    split at hv
    · rename_i e cs hu hj
      split at hv
      · rename_i hc
        obtain ⟨rfl, hke⟩ := hc
        simp only [Option.some.injEq, Prod.mk.injEq] at hv
        obtain ⟨rfl, rfl, rfl⟩ := hv
        intro ty d U ρ Ro w a hm hrel ht
        rw [ext_self]
        have hr := rv_ev ht hx
        rw [hp] at hr
        obtain ⟨De, hde, _, h1, _⟩ := kiT_some hke
        obtain rfl := (h1 .u8).1 rfl
        obtain ⟨c, T, lo, hi, hb, hfr, hle, hone, hrv⟩ := hrel.row j cs hj
        obtain ⟨cap, hva⟩ : ∃ cap, a.eval x = .slice (some ⟨ρ j, off, none⟩) len cap := by
          generalize a.eval x = y at hr
          cases hr with
          | sl _ _ _ _ cap => exact ⟨cap, rfl⟩
        have hsh : w.shape? (ρ j) = some (T, c.size) := by unfold World.shape?; rw [hb]
        let w1 : World := w.freeze ⟨ρ j, c.size, none⟩ 1
        have hrun : (convert S S (.slice (some ⟨ρ j, off, none⟩) len cap)).run P w = .ok (.slice (some ⟨ρ j, off, none⟩) len cap) w1 := by
          simp [convert, run_underlying hu, run_underlying hde, markStringish, hsh]
          rfl
        have hheap : ∀ b, w1.heap[b]? = if ρ j = b then some (.cells c T (if lo == hi then (c.size, c.size + 1) else (min lo c.size, max hi (c.size + 1)))) else w.heap[b]? := fun b => by
          show (World.freeze w ⟨ρ j, c.size, none⟩ 1).heap[b]? = _
          simp only [World.freeze, Nat.one_ne_zero, if_false, Array.getElem?_modify]
          by_cases hbj : ρ j = b
          · subst hbj
            simp only [if_true, hb, Option.map_some]
          · rw [if_neg hbj, if_neg hbj]
        obtain ⟨g1, g2⟩ := hrel.write (w1 := w1) ⟨rfl, rfl, rfl⟩ hj (.cells cs) (by show (World.freeze w ⟨ρ j, c.size, none⟩ 1).heap.size = _; simp [World.freeze]) (fun b hbj => by rw [hheap, if_neg (fun e => hbj e.symm)])
          (by simp only [bsz, hheap, if_true, hb]) (fun cs' he => by
            injection he with he
            subst he
            refine ⟨c, T, _, _, by rw [hheap, if_pos rfl], ?_, hle, hone, hrv⟩
            right
            by_cases hlh : lo = hi
            · simp [hlh]
            · have : c.size ≤ lo := by rcases hfr with h | h; exact absurd h.symm hlh; exact h
              have e : (lo == hi) = false := by simp [hlh]
              rw [e]
              show c.size ≤ min lo c.size
              omega) (fun s pos he => (nomatch he))
        refine ⟨_, w1, ρ, Ro, .inl ?_, hr.mono (g2.cx hrel), g1, g2⟩
        rw [hva]
        simp only [execOp, hva, Sem.run_bind, hrun, Result.andThen_ok]
        rfl
      · cases hv
    · cases hv
  · cases hv

end Go.Av
end

section
namespace Go.Av

variable {P : Program} {U : Nat → Prop} {n n' : Nat} {ρ : Nat → Nat} {Ro : Nat → Prop} {h : Heap} {w w1 : World} {t : Tmps} {a : Act} {o : Oper} {C : Cx} {v : AV} {us : List (Nat × Option Row)}

/-- What is appended, read. -/
structure Src (P : Program) (C : Cx) (T2 : TypeId) (w : World) (z : Nat) (xv : Value) (ys : List AV) (m : Nat) (news : List Value) : Prop where
  kind : ∃ D, P.underlying T2 = some D ∧ ∀ k, D ≠ .int k
  len : Builtin.lenOf xv = pure m
  cells : ∀ W k, W.heap = w.heap → k ≤ m → (Builtin.firstCells z k xv).run P W = .ok (news.take (k * z)).toArray W
  rvs : RVs C ys news
  one : ∀ (k : Nat) (x : AV), ys[k]? = some x → x.one = true
  size : ys.length = m * z
  ones : ∀ u ∈ news, u.oneCell' = true

theorem src_of (hr : Rel U ρ Ro h w) {T2 : TypeId} {z m : Nat} {x : AV} {xv : Value} {ys : List AV} (hx : RV (cx U ρ Ro w) x xv) (ha : aapp P T2 h z x = some (ys, m)) (hzU : ∀ e z' b, slT P T2 = some (e, z', b) → z' = z ∨ True) :
    ∃ news, Src P (cx U ρ Ro w) T2 w z xv ys m news := by
  unfold aapp at ha
  split at ha
  · rename_i u
    split at ha
    · rename_i hk
      obtain ⟨hk, rfl⟩ := hk
      simp only [Option.some.injEq, Prod.mk.injEq] at ha
      obtain ⟨rfl, rfl⟩ := ha
      obtain rfl := hx.inv_s
      obtain ⟨D, hd, _, _, h1, _⟩ := kiT_some hk
      obtain rfl := h1.1 rfl
      refine ⟨u.data.toList.map fun b => Value.int .u8 b.toNat, ⟨_, hd, fun k hk => by cases hk⟩, rfl, fun W k hW hk => ?_, bytesA_rvs _ u, bytesA_one u, by rw [bytesA_len]; omega, fun y hy => ?_⟩
      · simp only [Builtin.firstCells, Sem.run_pure]
        congr 1
        rw [Nat.mul_one, ← List.map_take, ← List.map_toArray]
        congr 1
        apply Array.ext'
        simp [ByteArray.data_extract]
      · obtain ⟨b, _, rfl⟩ := List.mem_map.1 hy
        rfl
    · cases ha
  · split at ha
    · rename_i s cs off len hs hv
      obtain ⟨e, z', b⟩ := s
      split at ha
      · rename_i hle
        simp only [Option.some.injEq, Prod.mk.injEq] at ha
        obtain ⟨rfl, rfl⟩ := ha
        obtain ⟨hu, _, _⟩ := slT_some hs
        obtain ⟨ad, cap, hva, hnil, hrd⟩ := hr.show_ hx hv
        subst hva
        have hlen : ((cs.drop off).take (len * z)).length = len * z := by simp; omega
        cases ad with
        | none =>
          obtain ⟨rfl, rfl⟩ := hnil rfl
          refine ⟨[], ⟨_, hu, fun k hk => by cases hk⟩, rfl, fun W k hW hk => ?_, by simpa using RVs.nil _, fun k x hx => by simp at hx, by simp, fun u hu => by simp at hu⟩
          simp [Builtin.firstCells]
        | some ad =>
          have hget : ∀ (k : Nat) (y : AV), ((cs.drop off).take (len * z))[k]? = some y → y.one = true ∧ ∃ u, w.cell? (ad.add k) = some u ∧ RV (cx U ρ Ro w) y u := fun k y hy => by
            rw [List.getElem?_take] at hy
            split at hy
            · rw [List.getElem?_drop] at hy; exact hrd ad rfl k y hy
            · cases hy
          obtain ⟨vs, g1, g2, g3, g4⟩ := exists_cells (C := cx U ρ Ro w) (a := ad) (len * z) hlen.symm hget
          refine ⟨vs, ⟨_, hu, fun k hk => by cases hk⟩, rfl, fun W k hW hk => ?_, g2, fun k x hx => (hget k x hx).1, hlen, g4⟩
          have hlk : (vs.take (k * z)).length = k * z := by
            rw [List.length_take, g1]
            have := Nat.mul_le_mul_right z hk
            omega
          have := run_loads P (w := W) (vs.take (k * z)) ad (fun j v hj => by
            rw [List.getElem?_take] at hj
            split at hj
            · have := g3 j v hj
              simpa [World.cell?, hW] using this
            · cases hj)
          rw [hlk] at this
          simpa [Builtin.firstCells] using this
      · cases ha
    · cases ha

theorem run_app_nil0 {T T2 ty e : TypeId} {i : TypeInfo} {z m : Nat} {xv : Value} {ys : List AV} {news : List Value} (ht : P.underlying T = some (.slice e)) (hi : P.info? e = some i) (hz : i.size = z) (hs : Src P C T2 w z xv ys m news) (hm : m = 0) :
    (Builtin.append_ #[T, T2] ty #[.slice none 0 0, xv]).run P w = .ok (.slice none 0 0) w := by
  subst hm
  obtain ⟨D, hd, hk⟩ := hs.kind
  have hc := hs.cells w 0 rfl (Nat.le_refl _)
  simp only [Nat.zero_mul, List.take_zero] at hc
  simp [Builtin.append_, run_underlying ht, run_underlying hd, sizeOf, typeInfo, hi, hz, hs.len, hc]

theorem run_app_grow {T T2 ty e : TypeId} {i : TypeInfo} {zv : Value} {z m len cap : Nat} {base : Option Addr} {xv : Value} {ys : List AV} {olds news : List Value} (ht : P.underlying T = some (.slice e)) (hi : P.info? e = some i) (hz : i.size = z) (hzz : i.zero = some zv)
    (hs : Src P C T2 w z xv ys m news) (hold : ∀ W, W.heap = w.heap → (Builtin.firstCells z len (.slice base len cap)).run P W = .ok olds.toArray W)
    (hg : cap < len + m) (h63 : ((len + m : Nat) : Int) ≤ 9223372036854775807) (hfit : Builtin.nextslicecap (len + m) cap * i.bytes ≤ 281474976710656) :
    (Builtin.append_ #[T, T2] ty #[.slice base len cap, xv]).run P w = .ok (.slice (some ⟨w.heap.size, 0, none⟩) (len + m) (grownCap w (len + m) cap e))
      (w.drew.alloc (.cells (olds.toArray ++ news.toArray ++ Builtin.zeroCells zv.cells (grownCap w (len + m) cap e - (len + m))) e)) := by
  obtain ⟨D, hd, hk⟩ := hs.kind
  have hc := hs.cells w.drew m rfl (Nat.le_refl _)
  have hnl : news.length = m * z := by rw [hs.rvs.1, hs.size]
  rw [← hnl, List.take_length] at hc
  have ho := hold w.drew rfl
  have hn : ¬ (len + m ≤ cap) := by omega
  have h63' : ¬ (9223372036854775807 < ((len : Int) + (m : Int))) := by omega
  have h48' : ¬ (281474976710656 < Builtin.nextslicecap (len + m) cap * i.bytes) := by omega
  simp [Builtin.append_, run_underlying ht, run_underlying hd, sizeOf, typeInfo, zeroValue, hi, hz, hzz, hs.len, hn, h63', h48', Question.forced, hc, ho, newRow, grownCap]
  congr 2
  apply Array.ext'
  simp [List.append_assoc]

theorem run_app_room {T T2 ty e : TypeId} {i : TypeInfo} {z m len cap g : Nat} {xv : Value} {ys : List AV} {news : List Value} (ht : P.underlying T = some (.slice e)) (hi : P.info? e = some i) (hz : i.size = z)
    (hs : Src P C T2 w z xv ys m news) (hroom : len + m ≤ cap) {w' : World} (hst : (storeCells ⟨g, 0 + len * z, none⟩ news).run P w = .ok () w') :
    (Builtin.append_ #[T, T2] ty #[.slice (some ⟨g, 0, none⟩) len cap, xv]).run P w = .ok (.slice (some ⟨g, 0, none⟩) (len + m) cap) w' := by
  obtain ⟨D, hd, hk⟩ := hs.kind
  have hc := hs.cells w m rfl (Nat.le_refl _)
  have hnl : news.length = m * z := by rw [hs.rvs.1, hs.size]
  rw [← hnl, List.take_length] at hc
  simp only [Nat.zero_add] at hst
  simp [Builtin.append_, run_underlying ht, run_underlying hd, sizeOf, typeInfo, hi, hz, hs.len, hroom, hc, Addr.add_lit, hst]

theorem sound_append {T T2 : TypeId} {s x : Operand} (hs : okX s = true) (hx : okX x = true) (hv : aappend P T T2 h n (aev t s) (aev t x) = some (v, us, n')) :
    Sound P (.call { callee := .builtin .append, args := #[s, x], argTypes := #[T, T2] }) t h n v us n' := by
  intro ty d U ρ Ro w a hmU hr ht
  have hrs := rv_ev ht hs
  have hrx := rv_ev ht hx
  generalize aev t s = p at hv hrs
  generalize aev t x = q at hv hrx
  have hexec : ∀ r w', (Builtin.append_ #[T, T2] ty #[a.eval s, a.eval x]).run P w = .ok r w' → Ran P (.call { callee := .builtin .append, args := #[s, x], argTypes := #[T, T2] }) ty d a w r w' := fun r w' hrun => by
    refine .inl ?_
    simp only [execOp, resolve, Sem.run_bind, Sem.run_pure, Result.andThen_ok, invoke, builtin, List.map_toArray, List.map_cons, List.map_nil, hrun]
  unfold aappend at hv
  split at hv
  · rename_i e z by_ hsl
    obtain ⟨hu, hsz, hby⟩ := slT_some hsl
    split at hv
    · rename_i hz0
      obtain ⟨hzp, hzl⟩ := hz0
      split at hv
      · rename_i ys m ha
        obtain ⟨news, hsrc⟩ := src_of (P := P) hr hrx ha (fun _ _ _ _ => .inr trivial)
        cases hze : zeT P e with
        | none => rw [hze] at hzl; cases hzl
        | some zs =>
          rw [hze] at hzl
          simp at hzl
          obtain ⟨i, zv, hi, hzz, hzcs⟩ := zero_cs hze (cx U ρ Ro w)
          have hiz : i.size = z := by
            obtain ⟨i', hi', h'⟩ := szT_some hsz
            rw [hi] at hi'
            injection hi' with hi'
            subst hi'
            exact h'
          have hib : i.bytes = by_ := by
            obtain ⟨i', hi', h'⟩ := byT_some hby
            rw [hi] at hi'
            injection hi' with hi'
            subst hi'
            exact h'
          have hzvs : zv.cells.size = z := by rw [hzcs.len, hzl]
          have hnl : news.length = m * z := by rw [hsrc.rvs.1, hsrc.size]
          split at hv
          · -- nil
            have hsv := hrs.inv_nil
            split at hv
            · rename_i hm
              simp only [Option.some.injEq, Prod.mk.injEq] at hv
              obtain ⟨rfl, rfl, rfl⟩ := hv
              rw [ext_self]
              refine ⟨.slice none 0 0, w, ρ, Ro, hexec _ _ ?_, .ron, hr, Ext.refl ..⟩
              rw [hsv]
              exact run_app_nil0 hu hi hiz hsrc hm
            · rename_i hm
              split at hv
              · rename_i hb
                simp only [Option.some.injEq, Prod.mk.injEq] at hv
                obtain ⟨rfl, rfl, rfl⟩ := hv
                have hgc := grownCap_ge w (0 + m) 0 e
                have hgm := grownCap_le_maxLen w (0 + m) 0 e (by unfold maxLen; omega)
                have hrun := run_app_grow (P := P) (ty := ty) (olds := []) (base := none) (len := 0) (cap := 0) hu hi hiz hzz hsrc (fun W _ => by simp [Builtin.firstCells]) (by omega) (by omega)
                  (growslice_fits (by omega) (by rw [Nat.zero_add, hib]; exact hb.1))
                simp only [Nat.zero_add] at hrun hgc hgm
                obtain ⟨ρ', Ro', g0, g1, g2⟩ := new_slice (w1 := w.drew.alloc (.cells (#[] ++ news.toArray ++ Builtin.zeroCells zv.cells (grownCap w m 0 e - m)) e)) hr (hmU n (Nat.le_refl _) (Nat.lt_succ_self _)) ⟨rfl, rfl, rfl⟩
                  (c := #[] ++ news.toArray ++ Builtin.zeroCells zv.cells (grownCap w m 0 e - m)) (T := e) (lo := 0) (hi := 0) rfl (.inl rfl) (cs := ys) (by simp [hnl, hsrc.size]) hsrc.one
                  (fun k x v hx hv => by
                    have hk : k < ys.length := by
                      rcases Nat.lt_or_ge k ys.length with h' | h'
                      · exact h'
                      · rw [List.getElem?_eq_none h'] at hx; cases hx
                    refine hsrc.rvs.2 k x v hx ?_
                    rw [Array.empty_append, Array.getElem?_append_left (by simp [hnl]; rw [← hsrc.size]; exact hk)] at hv
                    simpa using hv)
                  (sz := z) (len := m) (cap := grownCap w m 0 e) hgc hgm (by
                    simp only [Array.empty_append, Array.size_append, List.size_toArray, hnl, size_zeroCells, hzvs, ← Nat.add_mul]
                    rw [show m + (grownCap w m 0 e - m) = grownCap w m 0 e by omega]
                    exact Nat.le_refl _)
                rw [ext_succ]
                refine ⟨_, _, ρ', Ro', hexec _ _ ?_, g0, g1, g2⟩
                rw [hsv]
                simpa using hrun
              · cases hv
          · -- own
            rename_i sz j off len
            obtain ⟨cap, hsv, hjn, hlc, hcm, hroomZ⟩ := hrs.inv_sl
            split at hv
            · rename_i cs hj
              split at hv
              · rename_i hb
                obtain ⟨rfl, hcl, hb1, hb2, rfl⟩ := hb
                simp only [Option.some.injEq, Prod.mk.injEq] at hv
                obtain ⟨rfl, rfl, rfl⟩ := hv
                obtain ⟨c, T', lo, hi', h0, hfr, hle, hcone, hcrv⟩ := hr.row j cs hj
                have hZ : (cx U ρ Ro w).Z ((cx U ρ Ro w).ρ j) = c.size := bsz_cells h0
                rw [hZ] at hroomZ
                have hρ : (cx U ρ Ro w).ρ j = ρ j := rfl
                rw [hρ] at hsv
                by_cases hroom : len + m ≤ cap
                · -- in place
                  have hfit : len * sz + m * sz ≤ c.size := by
                    rw [← Nat.add_mul]
                    have := Nat.mul_le_mul_right sz hroom
                    omega
                  obtain ⟨w', h1, h2, h3⟩ := stored hr hj P (0 + len * sz) news ys (cs ++ ys) (by rw [hnl, hsrc.size]) hsrc.one hsrc.rvs.2 hsrc.ones
                    (fun c' T'' fr hg => by
                      rw [h0] at hg
                      injection hg with hg
                      injection hg with hg
                      subst hg
                      rw [hsrc.size, List.length_append, hsrc.size]
                      omega)
                    (fun k hk => by
                      rw [List.length_append] at hk
                      by_cases hkc : k < cs.length
                      · rw [List.getElem?_append_left hkc, if_neg (by omega)]
                      · rw [List.getElem?_append_right (by omega), if_pos (by omega)]
                        congr 1; omega)
                  obtain ⟨g1, g2⟩ := h2.turn (hmU n (Nat.le_refl _) (Nat.lt_succ_self _)) (j := j) (r := .cells (cs ++ ys)) (upd_same _ _ _)
                  have hheap : upd (upd (upd h j (some (.cells (cs ++ ys)))) j none) n (some (.cells (cs ++ ys))) = app [(j, none), (n, some (.cells (cs ++ ys)))] h := by
                    funext k
                    simp only [app, List.foldl_cons, List.foldl_nil, upd]
                    split
                    · rfl
                    · split <;> rfl
                  rw [hheap] at g1 g2
                  rw [ext_succ]
                  refine ⟨.slice (some ⟨ρ j, 0, none⟩) (len + m) cap, w', pin ρ n (ρ j), Ro, hexec _ _ ?_, ?_, g1, h3.trans g2⟩
                  · rw [hsv]
                    exact run_app_room hu hi hiz hsrc hroom h1
                  · have hz' : bsz w' (ρ j) = c.size := by rw [h3.zz _ (hr.bl j hjn), bsz_cells h0]
                    have := RV.sl (C := cx (ins U n) (pin ρ n (ρ j)) Ro w') sz n 0 (len + m) cap ((.inr rfl : ins U n n)) hroom hcm (by simp only [cx, pin_same, hz']; exact hroomZ)
                    simpa [cx, pin_same] using this
                · -- a new block
                  have hgc := grownCap_ge w (len + m) cap e
                  have hgm := grownCap_le_maxLen w (len + m) cap e (by unfold maxLen; omega)
                  have hcl' : cs.length = len * sz := by omega
                  obtain ⟨olds, o1, o2, o3, o4⟩ := exists_cells (C := cx U ρ Ro w) (w := w) (a := ⟨ρ j, 0, none⟩) (len * sz) hcl'.symm (fun k y hy => by
                    have hk : k < cs.length := by
                      rcases Nat.lt_or_ge k cs.length with h' | h'
                      · exact h'
                      · rw [List.getElem?_eq_none h'] at hy; cases hy
                    have hkc : k < c.size := by omega
                    refine ⟨hcone k y hy, c[k], ?_, hcrv k y _ hy (by simp [hkc])⟩
                    rw [Addr.add_lit, Nat.zero_add, cell_row h0]
                    simp [hkc])
                  have hold : ∀ W, W.heap = w.heap → (Builtin.firstCells sz len (.slice (some ⟨ρ j, 0, none⟩) len cap)).run P W = .ok olds.toArray W := fun W hW => by
                    have := run_loads P (w := W) olds ⟨ρ j, 0, none⟩ (fun k v hk => by have := o3 k v hk; simpa [World.cell?, hW] using this)
                    rw [o1] at this
                    simpa [Builtin.firstCells] using this
                  have hrun := run_app_grow (P := P) (ty := ty) (olds := olds) (base := some ⟨ρ j, 0, none⟩) (len := len) (cap := cap) hu hi hiz hzz hsrc hold (by omega) (by omega) (growslice_fits (by omega) (by rw [hib]; exact hb1))
                  obtain ⟨ρ', Ro', g0, g1, g2⟩ := new_slice (w1 := w.drew.alloc (.cells (olds.toArray ++ news.toArray ++ Builtin.zeroCells zv.cells (grownCap w (len + m) cap e - (len + m))) e)) hr (hmU n (Nat.le_refl _) (Nat.lt_succ_self _)) ⟨rfl, rfl, rfl⟩
                    (c := olds.toArray ++ news.toArray ++ Builtin.zeroCells zv.cells (grownCap w (len + m) cap e - (len + m))) (T := e) (lo := 0) (hi := 0) rfl (.inl rfl) (cs := cs ++ ys)
                    (by simp only [List.length_append, Array.size_append, List.size_toArray, o1, hnl, hcl', hsrc.size]; omega)
                    (fun k x hx => by
                      by_cases hk : k < cs.length
                      · rw [List.getElem?_append_left hk] at hx; exact hcone k x hx
                      · rw [List.getElem?_append_right (by omega)] at hx; exact hsrc.one _ x hx)
                    (fun k x v hx hv => by
                      have hkl : k < (cs ++ ys).length := by
                        rcases Nat.lt_or_ge k (cs ++ ys).length with h' | h'
                        · exact h'
                        · rw [List.getElem?_eq_none h'] at hx; cases hx
                      rw [List.length_append, hsrc.size] at hkl
                      rw [Array.getElem?_append_left (by simp [o1, hnl]; omega)] at hv
                      have hv' : (olds ++ news)[k]? = some v := by simpa using hv
                      exact (o2.append hsrc.rvs).2 k x v hx hv')
                    (sz := sz) (len := len + m) (cap := grownCap w (len + m) cap e) hgc hgm (by
                      simp only [Array.size_append, List.size_toArray, o1, hnl, size_zeroCells, hzvs, ← Nat.add_mul]
                      rw [show len + m + (grownCap w (len + m) cap e - (len + m)) = grownCap w (len + m) cap e by omega]
                      exact Nat.le_refl _)
                  have hless : ∀ k r, app [(j, none), (n, some (Row.cells (cs ++ ys)))] h k = some r → upd h n (some (Row.cells (cs ++ ys))) k = some r := fun k r hk => by
                    simp only [app, List.foldl_cons, List.foldl_nil, upd] at hk ⊢
                    split at hk
                    · rename_i hkn; rw [if_pos hkn]; exact hk
                    · rename_i hkn
                      rw [if_neg hkn]
                      split at hk
                      · cases hk
                      · exact hk
                  rw [ext_succ]
                  refine ⟨_, _, ρ', Ro', hexec _ _ ?_, g0, g1.less hless, g2.less hless⟩
                  rw [hsv]
                  exact hrun
              · cases hv
            · cases hv
          · cases hv
      · cases hv
    · cases hv
  · cases hv

end Go.Av
end
