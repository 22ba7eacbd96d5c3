/- A row that is written no more: told by its content from then on. -/
import Derived.Test.YtepfknnffooaiaaAv25
namespace Go.Av

variable {P : Program} {N : Nat} {n : Nat} {h : Heap} {t : Tmps} {w : World} {U : Nat → Prop} {ρ : Nat → Nat} {Ro : Nat → Prop}

theorem Rel.freeze (hr : Rel U ρ Ro h w) {j : Nat} {cs : List AV} (hj : h j = some (.cells cs)) :
    Rel U ρ (fun b => Ro b ∨ b = ρ j) (upd h j none) w ∧ Ext U ρ Ro h w U ρ (fun b => Ro b ∨ b = ρ j) (upd h j none) w ∧
    ∀ sz off len v, RV (cx U ρ Ro w) (.sl sz j off len) v → off + len * sz ≤ cs.length → RV (cx U ρ (fun b => Ro b ∨ b = ρ j) w) (.ro false ((cs.drop off).take (len * sz)) len) v := by
  have hle : (cx U ρ Ro w).le (cx U ρ (fun b => Ro b ∨ b = ρ j) w) := ⟨fun _ h => h, fun _ _ => rfl, fun a v hm => ⟨.inl hm.1, hm.2⟩, fun _ _ => rfl⟩
  have hU := hr.lt j _ hj
  have hold : ∀ x r, upd h j none x = some r → x ≠ j ∧ h x = some r := fun x r hx => by
    by_cases hxj : x = j
    · subst hxj; rw [upd_same] at hx; cases hx
    · rw [upd_ne _ _ hxj] at hx; exact ⟨hxj, hx⟩
  refine ⟨⟨fun x r hx => hr.lt x r (hold x r hx).2, hr.bl, fun x cs' hx => ?_, fun x s pos hx => hr.iter x s pos (hold x _ hx).2, fun x y rx ry hx hy => hr.inj x y rx ry (hold x _ hx).2 (hold y _ hy).2, fun x r hx => ?_, fun b hb => ?_⟩,
    ⟨fun _ h => h, fun _ _ => rfl, fun b hb => .inl hb, fun b hb => ?_, rfl, rfl, rfl, Nat.le_refl _, fun _ _ _ => rfl, fun _ _ => rfl, fun x r hx => .inr ⟨x, r, (hold x r hx).2, rfl⟩⟩, fun sz off len v hv hlen => ?_⟩
  · obtain ⟨c, T, lo, hi, g0, g1, g2, g3, g4⟩ := hr.row x cs' (hold x _ hx).2
    exact ⟨c, T, lo, hi, g0, g1, g2, g3, fun k y u hy hu => (g4 k y u hy hu).mono hle⟩
  · rintro (h1 | h1)
    · exact hr.sep x r (hold x r hx).2 h1
    · exact (hold x r hx).1 (hr.inj x j r _ (hold x r hx).2 hj h1)
  · rcases hb with hb | rfl
    · exact hr.rob b hb
    · exact hr.bl j hU
  · rcases hb with hb | rfl
    · exact .inl hb
    · exact .inr (.inr ⟨j, _, hj, rfl⟩)
  · cases hv with
    | sl _ _ _ _ cap _ hl hc hz =>
      obtain ⟨c, T, lo, hi, g0, g1, g2, g3, g4⟩ := hr.row j cs hj
      have look : ∀ (k : Nat) (x : AV), ((cs.drop off).take (len * sz))[k]? = some x → cs[off + k]? = some x ∧ off + k < c.size := fun k x hx => by
        rw [List.getElem?_take] at hx
        split at hx
        · rw [List.getElem?_drop] at hx
          refine ⟨hx, ?_⟩
          rcases Nat.lt_or_ge (off + k) cs.length with h' | h'
          · omega
          · rw [List.getElem?_eq_none h'] at hx; cases hx
        · cases hx
      refine .ro _ len ⟨ρ j, off, none⟩ cap (fun k => c.getD (off + k) undef) hl hc (fun k x hx => g3 _ x (look k x hx).1) (fun k x hx => ?_) (fun k x hx => ?_) <;> obtain ⟨h1, h2⟩ := look k x hx
      · refine ⟨.inr ?_, ?_⟩
        · show (Addr.add ⟨ρ j, off, none⟩ k).block = ρ j
          rw [Addr.add_lit]
        · rw [Addr.add_lit, cell_row g0]
          simp [h2]
      · refine (g4 _ x _ h1 (Array.getElem?_eq_getElem h2)).mono hle |> fun hh => ?_
        simpa [h2] using hh

/-- From here on the row's content is the slot's value. -/
theorem AWp.freeze {c : Code} {Q : Exit → Tmps → Heap → Nat → Prop} {j k sz off len : Nat} {cs : List AV} (hj : h j = some (.cells cs)) (hk : t k = .sl sz j off len) (hle : off + len * sz ≤ cs.length)
    (hc : AWp P N c (put t (some k) (.ro false ((cs.drop off).take (len * sz)) len)) (upd h j none) n Q) : AWp P N c t h n Q := fun U ρ Ro w a hst => by
  obtain ⟨h1, h2, h3⟩ := hst.rel.freeze hj
  have hle' := h2.cx hst.rel
  refine wp_mono (hc _ _ _ _ _ ⟨hst.bd, h1, fun x => ?_, hst.sz, hst.df⟩) fun e a' w' hp => ?_
  · rw [put_at]
    split
    · rename_i hx
      subst hx
      have := hst.tm x
      rw [hk] at this
      exact h3 _ _ _ _ this hle
    · exact (hst.tm x).mono hle'
  · obtain ⟨t', h', n', ρ', Ro', g1, g2, g3, g4⟩ := hp
    exact ⟨t', h', n', ρ', Ro', g1, g2, h2.trans g3, g4⟩

end Go.Av
