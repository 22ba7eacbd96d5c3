/- Rows that stand within other rows' cells become read-only, too. -/
import Derived.Test.YtepfknnffooaiaaAv30
set_option linter.unusedVariables false
namespace Go.Av

variable {P : Program} {N : Nat} {n n' : Nat} {h h' g : Heap} {t t' : Tmps} {w : World} {U : Nat → Prop} {ρ : Nat → Nat} {Ro : Nat → Prop}

def Row.frz (g : Heap) (d : Nat) : Row → Row
  | .cells cs => .cells (cs.map (Av.frz g d))
  | r => r

theorem Rel.frzH (hr : Rel U ρ Ro h w) (hg : ∀ j cs, g j = some (.cells cs) → h j = some (.cells cs)) (hh : ∀ j r, h' j = some r → ∃ r0, h j = some r0 ∧ (r = r0 ∨ ∃ d, r = r0.frz g d) ∧ ∀ cs, g j ≠ some (.cells cs)) :
    Rel U ρ (roG g ρ Ro) h' w ∧ Ext U ρ Ro h w U ρ (roG g ρ Ro) h' w ∧ ∀ (k : Nat) (x : AV) (v : Value), RV (cx U ρ Ro w) x v → RV (cx U ρ (roG g ρ Ro) w) (Av.frz g k x) v := by
  obtain ⟨g1, g2, g3⟩ := hr.frzG (g := g) (h' := fun j => match g j with | some (.cells _) => none | _ => h j) hg (fun j r hj => by
    split at hj
    · cases hj
    · rename_i hn; exact ⟨hj, fun cs hc => hn cs hc⟩)
  have old : ∀ j r, h' j = some r → ∃ r0, h j = some r0 ∧ (r = r0 ∨ ∃ d, r = r0.frz g d) ∧ (match g j with | some (.cells _) => none | _ => h j) = some r0 := fun j r hj => by
    obtain ⟨r0, h1, h2, h3⟩ := hh j r hj
    refine ⟨r0, h1, h2, ?_⟩
    split
    · rename_i cs hc; exact absurd hc (h3 cs)
    · exact h1
  refine ⟨⟨fun j r hj => ?_, g1.bl, fun j cs hj => ?_, fun j s p hj => ?_, fun i j ri rj hi hj he => ?_, fun j r hj => ?_, g1.rob⟩, ⟨fun _ h => h, fun _ _ => rfl, g2.ro0, g2.ro1, rfl, rfl, rfl, Nat.le_refl _, fun _ _ _ => rfl, fun _ _ => rfl, fun j r hj => ?_⟩, g3⟩
  · obtain ⟨r0, h1, h2, h3⟩ := old j r hj; exact hr.lt j r0 h1
  · obtain ⟨r0, h1, h2, h3⟩ := old j _ hj
    rcases h2 with rfl | ⟨d, h2⟩
    · exact g1.row j cs h3
    · cases r0 with
      | iter s p => cases h2
      | cells cs0 =>
        simp only [Row.frz, Row.cells.injEq] at h2
        subst h2
        obtain ⟨c, T, lo, hi, k0, k1, k2, k3, k4⟩ := hr.row j cs0 h1
        have get : ∀ {i : Nat} {y : AV}, (cs0.map (Av.frz g d))[i]? = some y → ∃ x, cs0[i]? = some x ∧ y = Av.frz g d x := fun {i y} hy => by
          rw [List.getElem?_map] at hy
          cases hc : cs0[i]? with
          | none => rw [hc] at hy; cases hy
          | some x => rw [hc] at hy; injection hy with hy; exact ⟨x, rfl, hy.symm⟩
        refine ⟨c, T, lo, hi, k0, k1, by rw [List.length_map]; exact k2, fun k y hy => ?_, fun k y v hy hv => ?_⟩ <;> obtain ⟨x, hx, rfl⟩ := get hy
        · rw [frz_one]; exact k3 k x hx
        · exact g3 d x v (k4 k x v hx hv)
  · obtain ⟨r0, h1, h2, h3⟩ := old j _ hj
    have : r0 = .iter s p := by
      rcases h2 with h2 | ⟨d, h2⟩
      · exact h2.symm
      · cases r0 with
        | iter s' p' => simpa [Row.frz] using h2.symm
        | cells cs => cases h2
    subst this
    exact hr.iter j s p h1
  · obtain ⟨r0, h1, _⟩ := old i ri hi
    obtain ⟨r1, h2, _⟩ := old j rj hj
    exact hr.inj i j _ _ h1 h2 he
  · obtain ⟨r0, h1, h2, h3⟩ := old j r hj
    exact g1.sep j r0 h3
  · obtain ⟨r0, h1, _⟩ := old j r hj
    exact .inr ⟨j, r0, h1, rfl⟩

/-- From here on the rows of g are told by their content, in slots and in other rows. -/
theorem AWp.frzH {c : Code} {Q : Exit → Tmps → Heap → Nat → Prop} (hg : ∀ j cs, g j = some (.cells cs) → h j = some (.cells cs)) (hh : ∀ j r, h' j = some r → ∃ r0, h j = some r0 ∧ (r = r0 ∨ ∃ d, r = r0.frz g d) ∧ ∀ cs, g j ≠ some (.cells cs))
    (ht : ∀ x, t' x = t x ∨ ∃ d, t' x = frz g d (t x)) (hc : AWp P N c t' h' n Q) : AWp P N c t h n Q := fun U ρ Ro w a hst => by
  obtain ⟨h1, h2, h3⟩ := hst.rel.frzH hg hh
  have hle' := h2.cx hst.rel
  refine wp_mono (hc _ _ _ _ _ ⟨hst.bd, h1, fun x => ?_, hst.sz, hst.df⟩) fun e a' w' hp => ?_
  · rcases ht x with hx | ⟨d, hx⟩
    · rw [hx]; exact (hst.tm x).mono hle'
    · rw [hx]; exact h3 d _ _ (hst.tm x)
  · obtain ⟨t', h', n', ρ', Ro', g1, g2, g3, g4⟩ := hp
    exact ⟨t', h', n', ρ', Ro', g1, g2, h2.trans g3, g4⟩

/-- One row, j, that stands in the cells of another one, k. -/
theorem AWp.frzIn {c : Code} {Q : Exit → Tmps → Heap → Nat → Prop} {j k : Nat} {cs ds es : List AV} (hj : h j = some (.cells cs)) (hk : h k = some (.cells ds)) (hjk : k ≠ j) (he : ds.map (frz (only j cs) 1) = es)
    (hc : AWp P N c t (upd (upd h j none) k (some (.cells es))) n Q) : AWp P N c t h n Q := by
  subst he
  refine AWp.frzH (g := only j cs) (fun i cs' hi => ?_) (fun i r hi => ?_) (fun x => .inl rfl) hc
  · unfold only at hi
    split at hi
    · rename_i he; subst he; injection hi with hi; injection hi with hi; subst hi; exact hj
    · cases hi
  · have no : i ≠ j → ∀ cs', only j cs i ≠ some (.cells cs') := fun hn cs' hc' => by
      unfold only at hc'
      rw [if_neg hn] at hc'; cases hc'
    by_cases h1 : i = k
    · subst h1
      rw [upd_same] at hi
      injection hi with hi
      exact ⟨.cells ds, hk, .inr ⟨1, hi.symm⟩, no hjk⟩
    · rw [upd_ne _ _ h1] at hi
      by_cases h2 : i = j
      · subst h2; rw [upd_same] at hi; cases hi
      · rw [upd_ne _ _ h2] at hi
        exact ⟨r, hi, .inl rfl, no h2⟩

end Go.Av
