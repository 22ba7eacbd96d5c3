/- errors.Is and number, as contracts over abstract values. -/
import Derived.Test.YtepfknnffooaiaaDoorDoH
import Derived.Test.YtepfknnffooaiaaDoorDoErr2
namespace Go.Proofs.YtepfknnffooaiaaDoor
open Go.Av

theorem Rel.grown {U : Nat → Prop} {ρ : Nat → Nat} {Ro : Nat → Prop} {h : Heap} {w w1 : World} (hr : Rel U ρ Ro h w) (hb : RowKit.Below w.heap.size w w1) : Rel U ρ Ro h w1 ∧ Ext U ρ Ro h w U ρ Ro h w1 := by
  have hext : Ext U ρ Ro h w U ρ Ro h w1 :=
    ⟨fun j h => h, fun j _ => rfl, fun b hb => hb, fun b hb => .inl hb, hb.os, hb.tape, hb.output, hb.size, fun b h1 _ => hb.block b h1, fun b h1 => by simp only [bsz, hb.block b h1], fun j r hj => .inr ⟨j, r, hj, rfl⟩⟩
  have hle := hext.cx hr
  refine ⟨⟨hr.lt, fun j hj => Nat.lt_of_lt_of_le (hr.bl j hj) hb.size, fun j cs hj => ?_, fun j s pos hj => by rw [hb.block _ (hr.bl j (hr.lt j _ hj))]; exact hr.iter j s pos hj, hr.inj, hr.sep, fun b h1 => Nat.lt_of_lt_of_le (hr.rob b h1) hb.size, fun p hp => hle.M _ _ (hr.gl p hp)⟩, hext⟩
  obtain ⟨c, t, lo, hi, h0, h1, h2, h3, h4⟩ := hr.row j cs hj
  rw [hb.block _ (hr.bl j (hr.lt j _ hj))]
  exact ⟨c, t, lo, hi, h0, h1, h2, h3, fun k x v hx hv => (h4 k x v hx hv).mono hle⟩

/-- The cells of a trouble. -/
def trb (s : ByteArray) (e : Int) : List AV := [.s s, .ifc 24 (.i .i64 e)]
theorem trb_cell {U : Nat → Prop} {ρ : Nat → Nat} {Ro : Nat → Prop} {h : Heap} {w : World} (hr : Rel U ρ Ro h w) {j : Nat} {s : ByteArray} {e : Int} (hj : h j = some (.cells (trb s e))) : w.cell? ⟨ρ j, 0 + 1, none⟩ = some (.iface 24 (.int .i64 e)) := by
  obtain ⟨c, t, lo, hi, h0, h1, h2, h3, h4⟩ := hr.row j _ hj
  have hl : 1 < c.size := by simp [trb] at h2; omega
  have hv := h4 1 (.ifc 24 (.i .i64 e)) c[1] rfl (Array.getElem?_eq_getElem hl)
  rw [cell_row h0, Array.getElem?_eq_getElem hl]
  generalize c[1] = v at hv
  cases hv with
  | ifc _ _ u hu => cases hu with | i => rfl
theorem d26 {h : Heap} {j : Nat} {s : ByteArray} {e : Int} (hj : h j = some (.cells (trb s e))) : ∀ n, DCalls Tryd.prog 26 [.ifc 89 (.p j 0)] h n (.i .i64 e) [] n := fun n => by
  refine ⟨⟨_, Tryd.func26, rfl, by decide⟩, Nat.le_refl _, fun U ρ Ro w xs hU hrel hxs => ?_⟩
  obtain ⟨hl, hv⟩ := hxs
  obtain ⟨v, rfl⟩ : ∃ v, xs = [v] := by
    cases xs with
    | nil => cases hl
    | cons v r => cases r with
      | nil => exact ⟨v, rfl⟩
      | cons _ _ => cases hl
  have h0 := hv 0 _ v rfl rfl
  cases h0 with
  | ifc _ _ u hu => cases hu with
    | p _ _ hj' =>
      have hg := (hrel.gl _ (List.mem_singleton.2 rfl)).2
      refine (number_off (ρ j) 0 e w (trb_cell hrel hj) hg).mono ?_
      rintro e' w' ⟨rfl, hb⟩
      obtain ⟨r1, r2⟩ := Rel.grown hrel hb
      rw [ext_self]
      exact ⟨_, ρ, Ro, rfl, r1, .i _ _, r2⟩
theorem d32 {h : Heap} {j : Nat} {s : ByteArray} (hj : h j = some (.cells (trb s 15))) : ∀ n, DCalls Tryd.prog 32 [.ifc 89 (.p j 0), .ifc 24 (.i .i64 15)] h n (.b true) [] n := fun n => by
  refine ⟨⟨_, Tryd.func32, rfl, by decide⟩, Nat.le_refl _, fun U ρ Ro w xs hU hrel hxs => ?_⟩
  obtain ⟨hl, hv⟩ := hxs
  obtain ⟨v, v2, rfl⟩ : ∃ v v2, xs = [v, v2] := by
    cases xs with
    | nil => cases hl
    | cons v r => cases r with
      | nil => cases hl
      | cons v2 r => cases r with
        | nil => exact ⟨v, v2, rfl⟩
        | cons _ _ => cases hl
  have h0 := hv 0 _ v rfl rfl
  have h1 := hv 1 _ v2 rfl rfl
  cases h1 with
  | ifc _ _ u2 hu2 => cases hu2 with
    | i => cases h0 with
      | ifc _ _ u hu => cases hu with
        | p _ _ hj' =>
          refine (is_torn (ρ j) 0 w (trb_cell hrel hj)).mono ?_
          rintro e' w' ⟨rfl, rfl⟩
          rw [ext_self]
          exact ⟨_, ρ, Ro, rfl, hrel, .b _, Ext.refl ..⟩
end Go.Proofs.YtepfknnffooaiaaDoor
