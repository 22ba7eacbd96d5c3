/- What one operation does, told of abstract values: it is so. Part 4: memory, built and written. -/
import Derived.Test.YtepfknnffooaiaaAv6
namespace Go.Av

variable {P : Program} {U : Nat → Prop} {n n' : Nat} {ρ : Nat → Nat} {Ro : Nat → Prop} {h : Heap} {w w1 : World} {t : Tmps} {a : Act} {o : Oper} {C : Cx} {v : AV} {us : List (Nat × Option Row)}

theorem mapM_get {α β : Type} {f : α → Option β} : ∀ {l : List α} {r : List β}, l.mapM f = some r → ∀ (i : Nat), r[i]? = (l[i]?).bind f
  | [], r, h, i => by simp at h; subst h; simp
  | x :: l, r, h, i => by
    simp only [List.mapM_cons, Option.bind_eq_bind, Option.bind_eq_some_iff, Option.pure_def, Option.some.injEq] at h
    obtain ⟨y, hy, ys, hys, rfl⟩ := h
    cases i with
    | zero => simp [hy]
    | succ i => simpa using mapM_get hys i
theorem mapM_all {α β : Type} {f : α → Option β} : ∀ {l : List α} {r : List β}, l.mapM f = some r → ∀ x ∈ l, ∃ y, f x = some y
  | [], r, _, x, hx => by cases hx
  | z :: l, r, h, x, hx => by
    simp only [List.mapM_cons, Option.bind_eq_bind, Option.bind_eq_some_iff, Option.pure_def, Option.some.injEq] at h
    obtain ⟨y, hy, ys, hys, rfl⟩ := h
    rcases List.mem_cons.1 hx with rfl | hx
    · exact ⟨y, hy⟩
    · exact mapM_all hys x hx

theorem Cs.rv_agg {cs : List AV} {c : Array Value} (h : Cs C cs c) : RV C (.agg cs) (.agg c) := .agg _ _ h.len h.one h.rv

theorem sound_build {T : TypeId} {parts : Array (Nat × Operand)} {zs ds : List AV} {pl : List (Nat × Nat)} (ho : opOk (.build T parts) = true) (hz : zeT P T = some zs) (hp : buT P T = some pl)
    (hb : (parts.toList.all fun (p : Nat × Operand) => (aev t p.2).boxable) = true) (hf : fillA (fun i => pl[i]?) zs (parts.toList.map fun (p : Nat × Operand) => (p.1, aev t p.2)) = some ds) : Sound P (.build T parts) t h n (.agg ds) [] n :=
  Sound.val fun ty d U ρ Ro w a hr ht => by
    have ho' : ∀ p ∈ parts.toList, okX p.2 = true := fun p hp => okX1 ho (by simp [Op.operands]; exact ⟨p.1, by simpa using hp⟩)
    obtain ⟨h1, h2⟩ := parts_rel ht ho' hb
    obtain ⟨i, z, hi, hzz, hcs⟩ := zero_cs hz (cx U ρ Ro w)
    unfold buT at hp
    split at hp
    · rename_i fs hu
      obtain ⟨pa, h3, h4⟩ := places_run (P := P) (fs := fs) (w := w) (fun f hf => by
        obtain ⟨y, hy⟩ := mapM_all hp f (by simpa using hf)
        cases hs : szT P f.type with
        | none => rw [hs] at hy; cases hy
        | some z => exact ⟨z, rfl⟩)
      obtain ⟨d, h5, h6⟩ := fill_ok (C := cx U ρ Ro w) (pl := fun i => pl[i]?) (pc := fun i => pa[i]?) (fun i x hx => by
        rw [mapM_get hp i] at hx
        cases hfi : fs.toList[i]? with
        | none => rw [hfi] at hx; cases hx
        | some f =>
          rw [hfi] at hx
          simp only [Option.bind_some] at hx
          cases hs : szT P f.type with
          | none => rw [hs] at hx; cases hx
          | some z => rw [hs] at hx; simp at hx; subst hx; exact h4 i f z (by simpa using hfi) hs) _ _ zs z.cells ds h1 h2 hcs hf
      refine ⟨.agg d, .inl ?_, h6.rv_agg⟩
      simp only [execOp, Instr.build, Sem.run_bind, run_zeroValue hi hzz, Result.andThen_ok, run_underlying hu, h3]
      rw [h5]
      rfl
    · rename_i m e hu
      cases hs : szT P e with
      | none => rw [hs] at hp; cases hp
      | some sz =>
        rw [hs] at hp
        simp only [Option.map_some, Option.some.injEq] at hp
        subst hp
        obtain ⟨d, h5, h6⟩ := fill_ok (C := cx U ρ Ro w) (pc := fun i => some (i * sz, sz)) (fun i x hx => by
          rw [List.getElem?_map] at hx
          cases hri : (List.range m)[i]? with
          | none => rw [hri] at hx; cases hx
          | some k =>
            rw [hri] at hx
            obtain ⟨hlt, he⟩ := List.getElem?_eq_some_iff.1 hri
            simp at he
            subst he
            simpa using hx) _ _ zs z.cells ds h1 h2 hcs hf
        refine ⟨.agg d, .inl ?_, h6.rv_agg⟩
        simp only [execOp, Instr.build, Sem.run_bind, run_zeroValue hi hzz, Result.andThen_ok, run_underlying hu, run_sizeOf hs]
        rw [h5]
        rfl
    · cases hp

theorem rep_len (m : Nat) (zs : List AV) : (rep m zs).length = m * zs.length := by simp [rep]
theorem rep_get (m : Nat) (zs : List AV) (k : Nat) (hk : k < m * zs.length) : (rep m zs)[k]? = zs[k % zs.length]? := by
  induction m generalizing k with
  | zero => simp at hk
  | succ m ih =>
    have : rep (m + 1) zs = zs ++ rep m zs := by simp [rep, List.replicate_succ]
    rw [this]
    by_cases hz : k < zs.length
    · rw [List.getElem?_append_left hz, Nat.mod_eq_of_lt hz]
    · rw [List.getElem?_append_right (by omega), ih _ (by rw [Nat.succ_mul] at hk; omega)]
      congr 1
      rw [← Nat.mod_eq_sub_mod (by omega)]

theorem zeroRow_cs {zs : List AV} {z : Array Value} (hc : Cs C zs z) (m size : Nat) (hs : zs.length = size) :
    Cs C (rep m zs) ((Array.range (m * size)).map (z[· % z.size]!)) := by
  subst hs
  have hget : ∀ k, k < m * zs.length → ((Array.range (m * zs.length)).map (z[· % z.size]!))[k]? = z[k % zs.length]? := fun k hk => by
    have hpos : 0 < zs.length := by
      rcases Nat.eq_zero_or_pos zs.length with h0 | h0
      · rw [h0] at hk; simp at hk
      · exact h0
    have hlt : k % zs.length < z.size := by rw [hc.len]; exact Nat.mod_lt _ hpos
    simp only [Array.getElem?_map, Array.getElem?_range, hk, if_true, Option.map_some, hc.len]
    rw [getElem!_pos z _ hlt]
    simp [hlt]
  refine ⟨by simp [rep_len], fun k x hx => ?_, fun k x v hx hv => ?_⟩
  · have hk : k < m * zs.length := by
      rcases Nat.lt_or_ge k (m * zs.length) with h' | h'
      · exact h'
      · rw [List.getElem?_eq_none (by rw [rep_len]; exact h')] at hx; cases hx
    rw [rep_get m zs k hk] at hx
    exact hc.one _ x hx
  · have hk : k < m * zs.length := by
      rcases Nat.lt_or_ge k (m * zs.length) with h' | h'
      · exact h'
      · rw [List.getElem?_eq_none (by rw [rep_len]; exact h')] at hx; cases hx
    rw [rep_get m zs k hk] at hx
    rw [hget k hk] at hv
    exact hc.rv _ x v hx hv

/-- A row just made, and a slice of all of it. -/
theorem new_slice (hr : Rel U ρ Ro h w) (hm : ¬ U n) (hs : Same w w1) {c : Array Value} {T : TypeId} {lo hi : Nat} (hp : w1.heap = w.heap.push (.cells c T (lo, hi))) (hfr : hi ≤ lo ∨ c.size ≤ lo)
    {cs : List AV} (hcs : cs.length ≤ c.size) (h1 : ∀ (k : Nat) (x : AV), cs[k]? = some x → x.one = true) (hv : ∀ (k : Nat) (x : AV) (v : Value), cs[k]? = some x → c[k]? = some v → RV (cx U ρ Ro w) x v)
    {sz len cap : Nat} (hlc : len ≤ cap) (hcm : cap ≤ maxLen) (hz : cap * sz ≤ c.size) :
    ∃ ρ' Ro', RV (cx (ins U n) ρ' Ro' w1) (.sl sz n 0 len) (.slice (some ⟨w.heap.size, 0, none⟩) len cap) ∧ Rel (ins U n) ρ' Ro' (upd h n (some (.cells cs))) w1 ∧ Ext U ρ Ro h w (ins U n) ρ' Ro' (upd h n (some (.cells cs))) w1 := by
  obtain ⟨g1, g2, g3⟩ := hr.newCells hm hs hp hfr hcs h1 hv
  refine ⟨pin ρ n w.heap.size, Ro, ?_, g1, g2⟩
  have := RV.sl (C := cx (ins U n) (pin ρ n w.heap.size) Ro w1) sz n 0 len cap ((.inr rfl : ins U n n)) hlc hcm (by simp only [cx, pin_same, g3]; omega)
  simpa [cx, pin_same] using this

theorem sound_buildSlice {T : TypeId} {len : Nat} {parts : Array (Nat × Operand)} {e : TypeId} {z by_ : Nat} {zs cs : List AV} (ho : opOk (.buildSlice T len parts) = true) (hs : slT P T = some (e, z, by_)) (hz : zeT P e = some zs) (hzs : zs.length = z) (hl : len * z ≤ 16777216) (hm : len ≤ 9223372036854775807)
    (hb : (parts.toList.all fun (p : Nat × Operand) => (aev t p.2).boxable) = true) (hf : fillA (fun i => some (i * z, z)) (rep len zs) (parts.toList.map fun (p : Nat × Operand) => (p.1, aev t p.2)) = some cs) :
    Sound P (.buildSlice T len parts) t h n (.sl z n 0 len) [(n, some (.cells cs))] (n + 1) := by
  intro ty d U ρ Ro w a hm_ hr ht
  rw [ext_succ]
  have ho' : ∀ p ∈ parts.toList, okX p.2 = true := fun p hp => okX1 ho (by simp [Op.operands]; exact ⟨p.1, by simpa using hp⟩)
  obtain ⟨h1, h2⟩ := parts_rel ht ho' hb
  obtain ⟨i, zv, hi, hzz, hcs⟩ := zero_cs hz (cx U ρ Ro w)
  obtain ⟨hu, hsz, _⟩ := slT_some hs
  have hc0 : Cs (cx U ρ Ro w) (rep len zs) ((Array.range (len * z)).map (zv.cells[· % zv.cells.size]!)) := zeroRow_cs hcs len z hzs
  obtain ⟨c, h5, h6⟩ := fill_ok (C := cx U ρ Ro w) (pc := fun i => some (i * z, z)) (fun i x hx => hx) _ _ _ _ cs h1 h2 hc0 hf
  have hcsz : c.size = len * z := by
    have := h6.len
    have hlen : cs.length = (rep len zs).length := by
      have : ∀ (ps : List (Nat × AV)) (cs ds : List AV), fillA (fun i => some (i * z, z)) cs ps = some ds → ds.length = cs.length := by
        intro ps
        induction ps with
        | nil => intro cs ds hd; simp [fillA] at hd; rw [hd]
        | cons p ps ih =>
          intro cs ds hd
          obtain ⟨i, x⟩ := p
          simp only [fillA] at hd
          split at hd
          · rename_i hsz
            rw [ih _ _ hd, splice_len _ _ _ (by omega)]
          · cases hd
      exact this _ _ _ hf
    rw [this, hlen, rep_len, hzs]
  obtain ⟨ρ', Ro', g0, g1, g2⟩ := new_slice (w1 := w.alloc (.cells c e)) hr (hm_ n (Nat.le_refl _) (Nat.lt_succ_self _)) (same_alloc ..) (c := c) (T := e) (lo := 0) (hi := 0) rfl (.inl (Nat.le_refl _)) (Nat.le_of_eq h6.len.symm) h6.one h6.rv (sz := z) (len := len) (cap := len) (Nat.le_refl _) (by unfold maxLen; omega) (by omega)
  refine ⟨_, _, ρ', Ro', .inl ?_, g0, g1, g2⟩
  have h5' : Instr.fill (fun i => some (i * z, z)) ((Array.range (len * z)).map (zv.cells[· % zv.cells.size]!)) (Array.map (fun x => (x.fst, a.eval x.snd)) parts).toList = some c := h5
  simp only [execOp, Instr.buildSlice, Sem.run_bind, run_underlying hu, Result.andThen_ok, run_sizeOf hsz]
  rw [if_neg (by omega)]
  by_cases h0 : len * z = 0
  · rw [if_pos h0]
    have h6' : Instr.fill (fun i => some (i * z, z)) ((Array.range (len * z)).map ((#[] : Array Value)[· % (#[] : Array Value).size]!)) (Array.map (fun x => (x.fst, a.eval x.snd)) parts).toList = some c := by
      rw [← h5', h0]; congr 1; simp
    simp only [Sem.run_bind, Sem.run_pure, Result.andThen_ok, h6', newRow, run_newObj]
    rfl
  · rw [if_neg h0]
    simp only [Sem.run_bind, run_zeroValue hi hzz, Sem.run_pure, Result.andThen_ok, h5', newRow, run_newObj]
    rfl

/-! ### a row written -/

/-- Cells stored one behind the other. -/
theorem run_storeCells (P : Program) (g off : Nat) : ∀ (vs : List Value) (i : Nat) (w : World) (c : Array Value) (T : TypeId) (lo hi : Nat), w.heap[g]? = some (.cells c T (lo, hi)) → (hi ≤ lo ∨ c.size ≤ lo) →
    off + i + vs.length ≤ c.size → (∀ v ∈ vs, v.oneCell' = true) →
    ∃ w' c', (storeCells ⟨g, off, none⟩ vs i).run P w = .ok () w' ∧ Same w w' ∧ w'.heap.size = w.heap.size ∧ (∀ b, b ≠ g → w'.heap[b]? = w.heap[b]?) ∧
      w'.heap[g]? = some (.cells c' T (lo, hi)) ∧ c'.size = c.size ∧ ∀ k : Nat, c'[k]? = if off + i ≤ k ∧ k < off + i + vs.length then vs[k - (off + i)]? else c[k]?
  | [], i, w, c, T, lo, hi, hg, _, _, _ => ⟨w, c, rfl, Same.refl w, rfl, fun _ _ => rfl, hg, rfl, fun k => by simp; omega⟩
  | v :: vs, i, w, c, T, lo, hi, hg, hfr, hl, h1 => by
    simp only [List.length_cons] at hl
    have hlt : off + i < c.size := by omega
    have hcell : w.cell? ⟨g, off + i, none⟩ = some c[off + i] := by rw [cell_row hg]; simp [hlt]
    have hfz : w.frozen? ⟨g, off + i, none⟩ = false := by
      simp only [World.frozen?, hg]
      rcases hfr with h' | h'
      · simp; omega
      · simp; omega
    have hput : (w.setCell ⟨g, off + i, none⟩ v).heap[g]? = some (.cells (c.setIfInBounds (off + i) v) T (lo, hi)) := by
      simp only [World.setCell, Array.getElem?_modify, if_true, hg, Option.map_some]
      rfl
    obtain ⟨w', c', hr, hs, hsz, hoth, hg', hcsz, hget⟩ := run_storeCells P g off vs (i + 1) (w.setCell ⟨g, off + i, none⟩ v) (c.setIfInBounds (off + i) v) T lo hi hput (by simpa using hfr) (by simp; omega) (fun u hu => h1 u (by simp [hu]))
    refine ⟨w', c', ?_, ⟨hs.os, hs.tape, hs.output⟩, by rw [hsz]; simp, fun b hb => ?_, hg', by rw [hcsz]; simp, fun k => ?_⟩
    · simp only [storeCells, Sem.run_bind, Addr.add_lit]
      rw [run_store P w _ v .plain (h1 v (by simp)), hcell]
      simp [hfz, hr]
    · rw [hoth b hb, show (w.setCell ⟨g, off + i, none⟩ v).heap[b]? = w.heap[b]? from Go.RowKit.Below.heap_setCell w _ v b hb]
    · rw [hget]
      by_cases hk : k = off + i
      · subst hk
        rw [if_neg (by omega), if_pos ⟨Nat.le_refl _, by simp⟩, Nat.sub_self]
        simp [hlt]
      · by_cases hk2 : off + (i + 1) ≤ k ∧ k < off + (i + 1) + vs.length
        · rw [if_pos hk2, if_pos ⟨by omega, by simp; omega⟩]
          have : k - (off + i) = (k - (off + (i + 1))) + 1 := by omega
          rw [this, List.getElem?_cons_succ]
        · rw [if_neg hk2, if_neg (by simp; omega), Array.getElem?_setIfInBounds_ne (Ne.symm hk)]

end Go.Av
