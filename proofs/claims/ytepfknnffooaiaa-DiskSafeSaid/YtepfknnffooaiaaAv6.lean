/- What one operation does, told of abstract values: it is so. Part 3: memory. -/
import Derived.Test.YtepfknnffooaiaaAv5
namespace Go.Av

variable {P : Program} {U : Nat → Prop} {n n' : Nat} {ρ : Nat → Nat} {Ro : Nat → Prop} {h : Heap} {w w1 : World} {t : Tmps} {a : Act} {o : Oper} {C : Cx} {v : AV} {us : List (Nat × Option Row)}

/-- A new block of cells. -/
theorem Rel.newCells (hr : Rel U ρ Ro h w) (hm : ¬ U n) (hs : Same w w1) {c : Array Value} {T : TypeId} {lo hi : Nat} (hp : w1.heap = w.heap.push (.cells c T (lo, hi))) (hfr : hi ≤ lo ∨ c.size ≤ lo)
    {cs : List AV} (hc : cs.length ≤ c.size) (h1 : ∀ (k : Nat) (x : AV), cs[k]? = some x → x.one = true) (hv : ∀ (k : Nat) (x : AV) (v : Value), cs[k]? = some x → c[k]? = some v → RV (cx U ρ Ro w) x v) :
    Rel (ins U n) (pin ρ n w.heap.size) Ro (upd h n (some (.cells cs))) w1 ∧ Ext U ρ Ro h w (ins U n) (pin ρ n w.heap.size) Ro (upd h n (some (.cells cs))) w1 ∧ bsz w1 w.heap.size = c.size := by
  obtain ⟨g1, g2, g3⟩ := hr.new hm hs hp (.cells cs) (fun cs' he => by injection he with he; subst he; exact ⟨c, T, lo, hi, rfl, hfr, hc, h1, hv⟩) (fun s pos he => by cases he)
  exact ⟨g1, g2, g3 c T (lo, hi) rfl⟩

theorem same_alloc (w : World) (o : Obj) : Same w (w.alloc o) := ⟨rfl, rfl, rfl⟩

theorem one_of_boxable {x : AV} {v : Value} (h : RV C x v) (hb : x.boxable = true) : ∀ (k : Nat) (y : AV), x.cells[k]? = some y → y.one = true := by
  cases h <;> first
    | (cases hb; done)
    | (intro k y hy
       rcases k with _ | k
       · simp only [AV.cells, List.getElem?_cons_zero, Option.some.injEq] at hy; subst hy; rfl
       · simp [AV.cells] at hy)
    | assumption

theorem sound_alloc {T : TypeId} {cs : List AV} (hz : zeT P T = some cs) : Sound P (.alloc T) t h n (.p n 0) [(n, some (.cells cs))] (n + 1) := by
  intro ty d U ρ Ro w a hm hr ht
  rw [ext_succ]
  obtain ⟨i, z, hi, hzz, hok, hcs⟩ := zeT_some hz
  have hrv := rv_ofC (cx U ρ Ro w) hok
  have hcells := hrv.cells
  rw [hcs] at hcells
  have hone : ∀ (k : Nat) (x : AV), cs[k]? = some x → x.one = true := by
    rw [← hcs]
    refine one_of_boxable hrv ?_
    cases z <;> first | rfl | (simp [okC, okC1] at hok; done) | (simp [okC, okC1, ofC, ofC1, AV.boxable]; done)
  obtain ⟨g1, g2, g3⟩ := hr.newCells (hm n (Nat.le_refl _) (Nat.lt_succ_self _)) (w1 := w.alloc (.cells z.cells T)) (same_alloc ..) (c := z.cells) (T := T) (lo := 0) (hi := 0) rfl (.inl (Nat.le_refl _)) (Nat.le_of_eq hcells.1.symm) hone hcells.2
  refine ⟨.pointer (some ⟨w.heap.size, 0, none⟩), w.alloc (.cells z.cells T), pin ρ n w.heap.size, Ro, .inl ?_, ?_, g1, g2⟩
  · simp [execOp, Instr.alloc, run_zeroValue hi hzz, newVar, newRow]
  · have := RV.p (C := cx (ins U n) (pin ρ n w.heap.size) Ro (w.alloc (.cells z.cells T))) n 0 ((.inr rfl : ins U n n))
    simpa [cx, pin_same] using this

theorem sound_box {T : TypeId} {x : Operand} (hx : okX x = true) (hb : (aev t x).boxable = true) : Sound P (.box T x) t h n (.p n 0) [(n, some (.cells (aev t x).cells))] (n + 1) := by
  intro ty d U ρ Ro w a hm hr ht
  rw [ext_succ]
  have hrv := rv_ev ht hx
  have hcells := hrv.cells
  obtain ⟨g1, g2, g3⟩ := hr.newCells (hm n (Nat.le_refl _) (Nat.lt_succ_self _)) (w1 := w.alloc (.cells (a.eval x).cells T)) (same_alloc ..) (c := (a.eval x).cells) (T := T) (lo := 0) (hi := 0) rfl (.inl (Nat.le_refl _)) (Nat.le_of_eq hcells.1.symm) (one_of_boxable hrv hb) hcells.2
  refine ⟨.pointer (some ⟨w.heap.size, 0, none⟩), w.alloc (.cells (a.eval x).cells T), pin ρ n w.heap.size, Ro, .inl ?_, ?_, g1, g2⟩
  · simp [execOp, Instr.box, newVar, newRow]
  · have := RV.p (C := cx (ins U n) (pin ρ n w.heap.size) Ro (w.alloc (.cells (a.eval x).cells T))) n 0 ((.inr rfl : ins U n n))
    simpa [cx, pin_same] using this

/-! parts put together -/
theorem splice_len (cs : List AV) (off : Nat) (ys : List AV) (hl : off + ys.length ≤ cs.length) : (splice cs off ys).length = cs.length := by
  unfold splice
  split
  · simp
  · simp; omega
theorem splice_get (cs : List AV) (off : Nat) (ys : List AV) (hl : off + ys.length ≤ cs.length) (k : Nat) : (splice cs off ys)[k]? = if off ≤ k ∧ k < off + ys.length then ys[k - off]? else cs[k]? := by
  unfold splice
  split
  · rename_i y
    simp only [List.length_cons, List.length_nil] at hl ⊢
    rw [List.getElem?_set]
    by_cases hk : off = k
    · subst hk; simp; omega
    · rw [if_neg hk, if_neg (by omega)]
  · by_cases h1 : k < off
    · rw [if_neg (by omega), List.append_assoc, List.getElem?_append_left (by simp; omega), List.getElem?_take, if_pos h1]
    · by_cases h2 : k < off + ys.length
      · rw [if_pos ⟨by omega, h2⟩, List.getElem?_append_left (by simp; omega), List.getElem?_append_right (by simp; omega)]
        congr 1
        simp; omega
      · rw [if_neg (by omega), List.getElem?_append_right (by simp; omega), List.getElem?_drop]
        congr 1
        simp; omega

/-- Cells that are as the abstract ones say. -/
structure Cs (C : Cx) (cs : List AV) (c : Array Value) : Prop where
  len : c.size = cs.length
  one : ∀ (k : Nat) (x : AV), cs[k]? = some x → x.one = true
  rv : ∀ (k : Nat) (x : AV) (v : Value), cs[k]? = some x → c[k]? = some v → RV C x v

/-- The foldl that lays a part's cells. -/
theorem fold_set (off : Nat) : ∀ (l : List Value) (i : Nat) (c : Array Value), off + i + l.length ≤ c.size →
    ((l.zipIdx i).foldl (fun cs (x : Value × Nat) => cs.setIfInBounds (off + x.2) x.1) c).size = c.size ∧
    ∀ k, ((l.zipIdx i).foldl (fun cs (x : Value × Nat) => cs.setIfInBounds (off + x.2) x.1) c)[k]? = if off + i ≤ k ∧ k < off + i + l.length then l[k - (off + i)]? else c[k]?
  | [], i, c, _ => ⟨by simp, fun k => by simp; omega⟩
  | x :: l, i, c, hl => by
    simp only [List.length_cons] at hl
    obtain ⟨h1, h2⟩ := fold_set off l (i + 1) (c.setIfInBounds (off + i) x) (by simp; omega)
    simp only [List.zipIdx_cons, List.foldl_cons]
    refine ⟨by rw [h1]; simp, fun k => ?_⟩
    rw [h2]
    by_cases hk : k = off + i
    · subst hk
      rw [if_neg (by omega), if_pos ⟨Nat.le_refl _, by simp⟩, Nat.sub_self]
      simp [show off + i < c.size by omega]
    · by_cases hk2 : off + (i + 1) ≤ k ∧ k < off + (i + 1) + l.length
      · rw [if_pos hk2, if_pos ⟨by omega, by simp; omega⟩]
        have : k - (off + i) = (k - (off + (i + 1))) + 1 := by omega
        rw [this, List.getElem?_cons_succ]
      · rw [if_neg hk2, if_neg (by simp; omega), Array.getElem?_setIfInBounds_ne (Ne.symm hk)]

theorem foldl_zipIdx_array (off : Nat) (u : Array Value) (c : Array Value) :
    u.zipIdx.foldl (fun cs (x : Value × Nat) => cs.setIfInBounds (off + x.2) x.1) c = (u.toList.zipIdx 0).foldl (fun cs (x : Value × Nat) => cs.setIfInBounds (off + x.2) x.1) c := by
  rw [← Array.foldl_toList, Array.toList_zipIdx]

theorem Cs.splice {cs : List AV} {c : Array Value} (hc : Cs C cs c) {x : AV} {v : Value} (hv : RV C x v) (hb : ∀ (k : Nat) (y : AV), x.cells[k]? = some y → y.one = true) {off : Nat} (hl : off + x.cells.length ≤ cs.length) :
    Cs C (splice cs off x.cells) (v.cells.zipIdx.foldl (fun cs (x : Value × Nat) => cs.setIfInBounds (off + x.2) x.1) c) := by
  have hvc := hv.cells
  have hlen : v.cells.toList.length = x.cells.length := by simp [hvc.1]
  obtain ⟨h1, h2⟩ := fold_set off v.cells.toList 0 c (by rw [hlen, hc.len]; omega)
  rw [← foldl_zipIdx_array] at h1 h2
  simp only [Nat.add_zero, hlen] at h2
  refine ⟨by rw [h1, hc.len, splice_len _ _ _ hl], fun k y hy => ?_, fun k y u hy hu => ?_⟩
  · rw [splice_get _ _ _ hl] at hy
    split at hy
    · exact hb _ y hy
    · exact hc.one k y hy
  · rw [splice_get _ _ _ hl] at hy
    rw [h2] at hu
    split at hy
    · rename_i hk
      rw [if_pos hk] at hu
      exact hvc.2 _ y u hy (by simpa using hu)
    · rename_i hk
      rw [if_neg hk] at hu
      exact hc.rv k y u hy hu

/-- Parts laid into cells, as the model does it. -/
theorem fill_ok {pl : Nat → Option (Nat × Nat)} {pc : Nat → Option (Nat × Nat)} (hpl : ∀ i x, pl i = some x → pc i = some x) :
    ∀ (parts : List (Nat × AV)) (us : List (Nat × Value)) (cs : List AV) (c : Array Value) (ds : List AV), parts.map (·.1) = us.map (·.1) →
      (∀ (k : Nat) (p : Nat × AV) (u : Nat × Value), parts[k]? = some p → us[k]? = some u → RV C p.2 u.2 ∧ p.2.boxable = true) → Cs C cs c → fillA pl cs parts = some ds →
      ∃ d, Instr.fill pc c us = some d ∧ Cs C ds d
  | [], us, cs, c, ds, hm, _, hc, hf => by
    have : us = [] := by simpa using hm.symm
    subst this
    simp only [fillA, Option.some.injEq] at hf
    subst hf
    exact ⟨c, rfl, hc⟩
  | (i, x) :: parts, us, cs, c, ds, hm, hp, hc, hf => by
    cases us with
    | nil => simp at hm
    | cons u us =>
      obtain ⟨i', v⟩ := u
      simp only [List.map_cons, List.cons.injEq] at hm
      obtain ⟨rfl, hm⟩ := hm
      have hp0 : RV C x v ∧ x.boxable = true := hp 0 (i, x) (i, v) rfl rfl
      obtain ⟨hv, hb⟩ := hp0
      simp only [fillA] at hf
      split at hf
      · cases hf
      · rename_i off size hpi
        split at hf
        · rename_i hsz
          have hvc := hv.cells
          have hcs := hc.splice hv (one_of_boxable hv hb) (off := off) (by omega)
          obtain ⟨d, h1, h2⟩ := fill_ok hpl parts us _ _ ds hm (fun k p u hk hu => hp (k + 1) p u (by simpa using hk) (by simpa using hu)) hcs hf
          refine ⟨d, ?_, h2⟩
          simp only [Instr.fill, hpl _ _ hpi]
          rw [if_neg]
          · exact h1
          · simp only [Bool.or_eq_true, decide_eq_true_eq, not_or]
            have := hc.len
            omega
        · cases hf

theorem zero_cs {T : TypeId} {zs : List AV} (hz : zeT P T = some zs) (C : Cx) : ∃ i z, P.info? T = some i ∧ i.zero = some z ∧ Cs C zs z.cells := by
  obtain ⟨i, z, hi, hzz, hok, hcs⟩ := zeT_some hz
  have hrv := rv_ofC C hok
  have hcells := hrv.cells
  refine ⟨i, z, hi, hzz, ?_⟩
  rw [hcs] at hcells
  refine ⟨hcells.1, ?_, hcells.2⟩
  rw [← hcs]
  refine one_of_boxable hrv ?_
  cases z <;> first | rfl | (simp [okC, okC1] at hok; done) | (simp [okC, okC1, ofC, ofC1, AV.boxable]; done)

def partsOk (t : Tmps) (parts : Array (Nat × Operand)) : Bool := parts.toList.all fun p => (aev t p.2).boxable

theorem parts_rel (ht : RelT C t a) {parts : Array (Nat × Operand)} (ho : ∀ p ∈ parts.toList, okX p.2 = true) (hb : partsOk t parts = true) :
    (parts.toList.map fun (p : Nat × Operand) => (p.1, aev t p.2)).map (·.1) = ((parts.map fun (i, x) => (i, a.eval x)).toList).map (·.1) ∧
    ∀ (k : Nat) (p : Nat × AV) (u : Nat × Value), (parts.toList.map fun (p : Nat × Operand) => (p.1, aev t p.2))[k]? = some p → ((parts.map fun (i, x) => (i, a.eval x)).toList)[k]? = some u → RV C p.2 u.2 ∧ p.2.boxable = true := by
  refine ⟨by simp [List.map_map, Function.comp_def], fun k p u hp hu => ?_⟩
  rw [List.getElem?_map] at hp
  rw [Array.toList_map, List.getElem?_map] at hu
  cases hk : parts.toList[k]? with
  | none => rw [hk] at hp; cases hp
  | some z =>
    rw [hk] at hp hu
    simp only [Option.map_some, Option.some.injEq] at hp hu
    subst hp; subst hu
    have hm := List.mem_of_getElem? hk
    exact ⟨rv_ev ht (ho z hm), List.all_eq_true.1 hb z hm⟩

theorem places_run {P : Program} {fs : Array Field} {w : World} (hall : ∀ f ∈ fs, ∃ z, szT P f.type = some z) :
    ∃ pl : Array (Nat × Nat), (fs.mapM fun f => do pure (f.offset, ← sizeOf f.type) : Sem (Array (Nat × Nat))).run P w = .ok pl w ∧ ∀ (i : Nat) f z, fs[i]? = some f → szT P f.type = some z → pl[i]? = some (f.offset, z) := by
  have key : ∀ l : List Field, (∀ f ∈ l, ∃ z, szT P f.type = some z) → ∃ pl : List (Nat × Nat), (l.mapM (fun f => Prod.mk f.offset <$> sizeOf f.type) : Sem (List (Nat × Nat))).run P w = .ok pl w ∧ ∀ (i : Nat) f z, l[i]? = some f → szT P f.type = some z → pl[i]? = some (f.offset, z) := by
    intro l
    induction l with
    | nil => exact fun _ => ⟨[], by simp, fun i f z hi => by simp at hi⟩
    | cons f l ih =>
      intro hl
      obtain ⟨z, hz⟩ := hl f (by simp)
      obtain ⟨pl, h1, h2⟩ := ih (fun g hg => hl g (by simp [hg]))
      refine ⟨(f.offset, z) :: pl, by simp [run_sizeOf hz, h1], fun i g z' hi hz' => ?_⟩
      rcases i with _ | i
      · simp at hi; subst hi; rw [hz] at hz'; injection hz' with hz'; subst hz'; rfl
      · simpa using h2 i g z' (by simpa using hi) hz'
  obtain ⟨pl, h1, h2⟩ := key fs.toList (fun f hf => hall f (by simpa using hf))
  refine ⟨pl.toArray, ?_, fun i f z hi hz => by simpa using h2 i f z (by simpa using hi) hz⟩
  rw [Array.mapM_eq_mapM_toList]
  simp [h1]

end Go.Av
