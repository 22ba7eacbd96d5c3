/- How a world that is as an abstract heap says stays so: a block more, a row written, a row that is appended to. -/
import Derived.Test.YtepfknnffooaiaaAv1
namespace Go.Av

variable {U : Nat → Prop} {n : Nat} {ρ : Nat → Nat} {Ro : Nat → Prop} {h : Heap} {w w1 : World}

/-- The same but for the blocks. -/
structure Same (w w1 : World) : Prop where
  os : w1.os = w.os
  tape : w1.tape = w.tape
  output : w1.output = w.output

theorem Same.refl (w : World) : Same w w := ⟨rfl, rfl, rfl⟩

def pin (ρ : Nat → Nat) (n b : Nat) : Nat → Nat := fun j => if j = n then b else ρ j
theorem pin_same (ρ : Nat → Nat) (n b : Nat) : pin ρ n b n = b := by simp [pin]
theorem pin_ne (ρ : Nat → Nat) {n : Nat} (b : Nat) {j : Nat} (hj : j ≠ n) : pin ρ n b j = ρ j := by simp [pin, hj]

theorem get_push {w w1 : World} {o : Obj} (hp : w1.heap = w.heap.push o) : w1.heap[w.heap.size]? = some o ∧ (∀ b, b < w.heap.size → w1.heap[b]? = w.heap[b]?) ∧ w1.heap.size = w.heap.size + 1 := by
  refine ⟨by rw [hp]; simp, fun b hb => ?_, by rw [hp]; simp⟩
  rw [hp, Array.getElem?_push, if_neg (by omega)]

/-- A new block. -/
theorem Rel.new (hr : Rel U ρ Ro h w) (hm : ¬ U n) (hs : Same w w1) {o : Obj} (hp : w1.heap = w.heap.push o) (r : Row)
    (hrow : ∀ cs, r = .cells cs → ∃ c t lo hi, o = .cells c t (lo, hi) ∧ (hi ≤ lo ∨ c.size ≤ lo) ∧ cs.length ≤ c.size ∧ (∀ (k : Nat) (x : AV), cs[k]? = some x → x.one = true) ∧
      ∀ (k : Nat) (x : AV) (v : Value), cs[k]? = some x → c[k]? = some v → RV (cx U ρ Ro w) x v)
    (hit : ∀ s pos, r = .iter s pos → o = .stringIter s pos) :
    Rel (ins U n) (pin ρ n w.heap.size) Ro (upd h n (some r)) w1 ∧ Ext U ρ Ro h w (ins U n) (pin ρ n w.heap.size) Ro (upd h n (some r)) w1 ∧
      ∀ c t fr, o = .cells c t fr → bsz w1 w.heap.size = c.size := by
  obtain ⟨hnew, hold, hsz⟩ := get_push hp
  have hne : ∀ j, U j → j ≠ n := fun j hj e => hm (e ▸ hj)
  have hext : Ext U ρ Ro h w (ins U n) (pin ρ n w.heap.size) Ro (upd h n (some r)) w1 := by
    refine ⟨fun j hj => .inl hj, fun j hj => pin_ne ρ _ (hne j hj), fun b hb => hb, fun b hb => .inl hb, hs.os, hs.tape, hs.output, by omega, fun b hb _ => hold b hb, fun b hb => ?_, fun j r' hj => ?_⟩
    · simp only [bsz, hold b hb]
    · by_cases hjn : j = n
      · subst hjn; exact .inl (by rw [pin_same]; exact Nat.le_refl _)
      · rw [upd_ne _ _ hjn] at hj
        exact .inr ⟨j, r', hj, by rw [pin_ne ρ _ hjn]⟩
  have hle := hext.cx hr
  refine ⟨?_, hext, fun c t fr ho => by simp only [bsz, hnew, ho]⟩
  refine ⟨fun j r' hj => ?_, fun j hj => ?_, fun j cs hj => ?_, fun j s pos hj => ?_, fun i j ri rj hi hj he => ?_, fun j r' hj => ?_, fun b hb => ?_⟩
  · by_cases hjn : j = n
    · exact .inr hjn
    · rw [upd_ne _ _ hjn] at hj; exact .inl (hr.lt j r' hj)
  · by_cases hjn : j = n
    · subst hjn; rw [pin_same]; omega
    · rw [pin_ne ρ _ hjn]; have := hr.bl j (hj.resolve_right hjn); omega
  · by_cases hjn : j = n
    · subst hjn
      rw [upd_same] at hj
      obtain ⟨c, t, lo, hi, rfl, h1, h2, h3, h4⟩ := hrow cs (by injection hj)
      rw [pin_same]
      exact ⟨c, t, lo, hi, hnew, h1, h2, h3, fun k x v hx hv => (h4 k x v hx hv).mono hle⟩
    · rw [upd_ne _ _ hjn] at hj
      obtain ⟨c, t, lo, hi, h0, h1, h2, h3, h4⟩ := hr.row j cs hj
      have hlt := hr.lt j _ hj
      rw [pin_ne ρ _ hjn, hold _ (hr.bl j hlt)]
      exact ⟨c, t, lo, hi, h0, h1, h2, h3, fun k x v hx hv => (h4 k x v hx hv).mono hle⟩
  · by_cases hjn : j = n
    · subst hjn
      rw [upd_same] at hj
      rw [pin_same, hnew, hit s pos (by injection hj)]
    · rw [upd_ne _ _ hjn] at hj
      have hlt := hr.lt j _ hj
      rw [pin_ne ρ _ hjn, hold _ (hr.bl j hlt)]
      exact hr.iter j s pos hj
  · by_cases hin : i = n
    · subst hin
      by_cases hjn : j = i
      · exact hjn.symm
      · rw [upd_ne _ _ hjn] at hj
        have hlt := hr.lt j _ hj
        rw [pin_same, pin_ne ρ _ hjn] at he
        have := hr.bl j hlt
        omega
    · rw [upd_ne _ _ hin] at hi
      have hlti := hr.lt i _ hi
      by_cases hjn : j = n
      · subst hjn
        rw [pin_same, pin_ne ρ _ hin] at he
        have := hr.bl i hlti
        omega
      · rw [upd_ne _ _ hjn] at hj
        rw [pin_ne ρ _ hin, pin_ne ρ _ hjn] at he
        exact hr.inj i j ri rj hi hj he
  · by_cases hjn : j = n
    · subst hjn
      rw [pin_same]
      exact fun hb => absurd (hr.rob _ hb) (Nat.lt_irrefl _)
    · rw [upd_ne _ _ hjn] at hj
      rw [pin_ne ρ _ hjn]
      exact hr.sep j r' hj
  · have := hr.rob b hb; omega

/-- A row written. -/
theorem Rel.write (hr : Rel U ρ Ro h w) (hs : Same w w1) {j : Nat} {r0 : Row} (hj : h j = some r0) (r : Row) (hsz : w1.heap.size = w.heap.size)
    (hoth : ∀ b, b ≠ ρ j → w1.heap[b]? = w.heap[b]?) (hz : bsz w1 (ρ j) = bsz w (ρ j))
    (hrow : ∀ cs, r = .cells cs → ∃ c t lo hi, w1.heap[ρ j]? = some (.cells c t (lo, hi)) ∧ (hi ≤ lo ∨ c.size ≤ lo) ∧ cs.length ≤ c.size ∧ (∀ (k : Nat) (x : AV), cs[k]? = some x → x.one = true) ∧
      ∀ (k : Nat) (x : AV) (v : Value), cs[k]? = some x → c[k]? = some v → RV (cx U ρ Ro w) x v)
    (hit : ∀ s pos, r = .iter s pos → w1.heap[ρ j]? = some (.stringIter s pos)) :
    Rel U ρ Ro (upd h j (some r)) w1 ∧ Ext U ρ Ro h w U ρ Ro (upd h j (some r)) w1 := by
  have hext : Ext U ρ Ro h w U ρ Ro (upd h j (some r)) w1 := by
    refine ⟨fun j h => h, fun j _ => rfl, fun b hb => hb, fun b hb => .inl hb, hs.os, hs.tape, hs.output, by omega, fun b hb hn => hoth b (fun he => hn j r0 hj he.symm), fun b hb => ?_, fun i r' hi => ?_⟩
    · by_cases hb' : b = ρ j
      · subst hb'; exact hz
      · simp only [bsz, hoth b hb']
    · by_cases hij : i = j
      · subst hij; exact .inr ⟨i, r0, hj, rfl⟩
      · rw [upd_ne _ _ hij] at hi; exact .inr ⟨i, r', hi, rfl⟩
  have hle := hext.cx hr
  refine ⟨?_, hext⟩
  have hne : ∀ i ri, i ≠ j → h i = some ri → ρ i ≠ ρ j := fun i ri hij hi he => hij (hr.inj i j ri r0 hi hj he)
  refine ⟨fun i r' hi => ?_, fun i hi => by rw [hsz]; exact hr.bl i hi, fun i cs hi => ?_, fun i s pos hi => ?_, fun i k ri rk hi hk he => ?_, fun i r' hi => ?_, fun b hb => by rw [hsz]; exact hr.rob b hb⟩
  · by_cases hij : i = j
    · subst hij; exact hr.lt i _ hj
    · rw [upd_ne _ _ hij] at hi; exact hr.lt i _ hi
  · by_cases hij : i = j
    · subst hij
      rw [upd_same] at hi
      obtain ⟨c, t, lo, hi', h0, h1, h2, h3, h4⟩ := hrow cs (by injection hi)
      exact ⟨c, t, lo, hi', h0, h1, h2, h3, fun k x v hx hv => (h4 k x v hx hv).mono hle⟩
    · rw [upd_ne _ _ hij] at hi
      obtain ⟨c, t, lo, hi', h0, h1, h2, h3, h4⟩ := hr.row i cs hi
      rw [hoth _ (hne i _ hij hi)]
      exact ⟨c, t, lo, hi', h0, h1, h2, h3, fun k x v hx hv => (h4 k x v hx hv).mono hle⟩
  · by_cases hij : i = j
    · subst hij
      rw [upd_same] at hi
      exact hit s pos (by injection hi)
    · rw [upd_ne _ _ hij] at hi
      rw [hoth _ (hne i _ hij hi)]
      exact hr.iter i s pos hi
  · have live : ∀ m rm, upd h j (some r) m = some rm → ∃ rm', h m = some rm' := fun m rm hm => by
      by_cases hmj : m = j
      · subst hmj; exact ⟨r0, hj⟩
      · rw [upd_ne _ _ hmj] at hm; exact ⟨rm, hm⟩
    obtain ⟨ri', hi'⟩ := live i ri hi
    obtain ⟨rk', hk'⟩ := live k rk hk
    exact hr.inj i k ri' rk' hi' hk' he
  · by_cases hij : i = j
    · subst hij; exact hr.sep i _ hj
    · rw [upd_ne _ _ hij] at hi; exact hr.sep i r' hi

/-- A row's number is given up, and it has a new one. -/
theorem Rel.turn (hr : Rel U ρ Ro h w) (hm : ¬ U n) {j : Nat} {r : Row} (hj : h j = some r) :
    Rel (ins U n) (pin ρ n (ρ j)) Ro (upd (upd h j none) n (some r)) w ∧ Ext U ρ Ro h w (ins U n) (pin ρ n (ρ j)) Ro (upd (upd h j none) n (some r)) w := by
  have hjn := hr.lt j r hj
  have hne : ∀ j, U j → j ≠ n := fun j hj e => hm (e ▸ hj)
  have hext : Ext U ρ Ro h w (ins U n) (pin ρ n (ρ j)) Ro (upd (upd h j none) n (some r)) w := by
    refine ⟨fun j hj => .inl hj, fun j hj => pin_ne ρ _ (hne j hj), fun b hb => hb, fun b hb => .inl hb, rfl, rfl, rfl, Nat.le_refl _, fun b hb _ => rfl, fun b hb => rfl, fun i r' hi => ?_⟩
    by_cases hin : i = n
    · subst hin; exact .inr ⟨j, r, hj, by rw [pin_same]⟩
    · rw [upd_ne _ _ hin] at hi
      by_cases hij : i = j
      · subst hij; rw [upd_same] at hi; cases hi
      · rw [upd_ne _ _ hij] at hi
        exact .inr ⟨i, r', hi, by rw [pin_ne ρ _ hin]⟩
  have hle := hext.cx hr
  refine ⟨?_, hext⟩
  have back : ∀ i ri, upd (upd h j none) n (some r) i = some ri → ∃ i', h i' = some ri ∧ pin ρ n (ρ j) i = ρ i' ∧ ins U n i ∧ (i = n → i' = j) ∧ (i ≠ n → i' = i ∧ i ≠ j) := fun i ri hi => by
    by_cases hin : i = n
    · subst hin
      rw [upd_same] at hi
      injection hi with hi
      subst hi
      exact ⟨j, hj, pin_same .., .inr rfl, fun _ => rfl, fun hne => absurd rfl hne⟩
    · rw [upd_ne _ _ hin] at hi
      by_cases hij : i = j
      · subst hij; rw [upd_same] at hi; cases hi
      · rw [upd_ne _ _ hij] at hi
        have hlt := hr.lt i ri hi
        exact ⟨i, hi, pin_ne ρ _ hin, .inl hlt, fun he => absurd he hin, fun _ => ⟨rfl, hij⟩⟩
  refine ⟨fun i ri hi => (back i ri hi).choose_spec.2.2.1, fun i hi => ?_, fun i cs hi => ?_, fun i s pos hi => ?_, fun i k ri rk hi hk he => ?_, fun i ri hi => ?_, hr.rob⟩
  · by_cases hin : i = n
    · subst hin; rw [pin_same]; exact hr.bl j hjn
    · rw [pin_ne ρ _ hin]; exact hr.bl i (hi.resolve_right hin)
  · obtain ⟨i', h1, h2, _⟩ := back i _ hi
    obtain ⟨c, t, lo, hi', h0, h1, h2', h3, h4⟩ := hr.row i' cs h1
    rw [h2]
    exact ⟨c, t, lo, hi', h0, h1, h2', h3, fun k x v hx hv => (h4 k x v hx hv).mono hle⟩
  · obtain ⟨i', h1, h2, _⟩ := back i _ hi
    rw [h2]
    exact hr.iter i' s pos h1
  · obtain ⟨i', h1, h2, _, h3, h4⟩ := back i _ hi
    obtain ⟨k', g1, g2, _, g3, g4⟩ := back k _ hk
    have he' := hr.inj i' k' _ _ h1 g1 (by rw [← h2, ← g2]; exact he)
    by_cases hin : i = n
    · by_cases hkn : k = n
      · omega
      · have := h3 hin; have := g4 hkn; omega
    · by_cases hkn : k = n
      · have := g3 hkn; have := h4 hin; omega
      · have := h4 hin; have := g4 hkn; omega
  · obtain ⟨i', h1, h2, _⟩ := back i _ hi
    rw [h2]
    exact hr.sep i' _ h1

/-- Nothing but the count of draws has turned. -/
theorem Rel.same (hr : Rel U ρ Ro h w) (hs : Same w w1) (hp : w1.heap = w.heap) : Rel U ρ Ro h w1 ∧ Ext U ρ Ro h w U ρ Ro h w1 := by
  have hext : Ext U ρ Ro h w U ρ Ro h w1 :=
    ⟨fun j h => h, fun j _ => rfl, fun b hb => hb, fun b hb => .inl hb, hs.os, hs.tape, hs.output, by rw [hp]; exact Nat.le_refl _, fun b hb _ => by rw [hp], fun b hb => by simp only [bsz, hp], fun j r hj => .inr ⟨j, r, hj, rfl⟩⟩
  have hle := hext.cx hr
  refine ⟨⟨hr.lt, fun j hj => by rw [hp]; exact hr.bl j hj, fun j cs hj => ?_, fun j s pos hj => by rw [hp]; exact hr.iter j s pos hj, hr.inj, hr.sep, fun b hb => by rw [hp]; exact hr.rob b hb⟩, hext⟩
  obtain ⟨c, t, lo, hi, h0, h1, h2, h3, h4⟩ := hr.row j cs hj
  rw [hp]
  exact ⟨c, t, lo, hi, h0, h1, h2, h3, fun k x v hx hv => (h4 k x v hx hv).mono hle⟩

/-- Some rows are no longer told. -/
theorem Ext.less {U' : Nat → Prop} {ρ' : Nat → Nat} {Ro' : Nat → Prop} {h' g : Heap} (e : Ext U ρ Ro h w U' ρ' Ro' h' w1) (hg : ∀ j r, g j = some r → h' j = some r) : Ext U ρ Ro h w U' ρ' Ro' g w1 :=
  { e with lv := fun j r hj => e.lv j r (hg j r hj) }

/-! ### reading -/

/-- The cells that a pointer points into, and where. -/
def place (h : Heap) : AV → Option (List AV × Nat)
  | .p j off => match h j with | some (.cells cs) => some (cs, off) | _ => none
  | .q cs off => some (cs, off)
  | _ => none

theorem cell_row {b k : Nat} {c : Array Value} {t : TypeId} {fr : Nat × Nat} (hb : w.heap[b]? = some (.cells c t fr)) : w.cell? ⟨b, k, none⟩ = c[k]? := by
  simp [World.cell?, hb]

theorem add_add (a : Addr) (m k : Nat) : (a.add m).add k = a.add (m + k) := by
  unfold Addr.add
  by_cases hm : m = 0
  · subst hm; simp
  · by_cases hk : k = 0
    · subst hk; simp [hm]
    · simp [hm, hk, Nat.add_assoc]

theorem Rel.read (hr : Rel U ρ Ro h w) {x : AV} {v : Value} (hx : RV (cx U ρ Ro w) x v) {cs : List AV} {off : Nat} (hp : place h x = some (cs, off)) :
    ∃ a, v = .pointer (some a) ∧ ∀ k y, cs[off + k]? = some y → y.one = true ∧ ∃ u, w.cell? (a.add k) = some u ∧ RV (cx U ρ Ro w) y u := by
  cases hx with
  | p j o hj =>
    simp only [place] at hp
    cases hh : h j with
    | none => rw [hh] at hp; cases hp
    | some r =>
      rw [hh] at hp
      cases r with
      | iter s pos => cases hp
      | cells cs' =>
        simp only [Option.some.injEq, Prod.mk.injEq] at hp
        obtain ⟨rfl, rfl⟩ := hp
        refine ⟨_, rfl, fun k y hy => ?_⟩
        obtain ⟨c, t, lo, hi, h0, h1, h2, h3, h4⟩ := hr.row j cs' hh
        have hlt : o + k < cs'.length := by
          rcases Nat.lt_or_ge (o + k) cs'.length with h' | h'
          · exact h'
          · rw [List.getElem?_eq_none h'] at hy; cases hy
        have hlc : o + k < c.size := by omega
        refine ⟨h3 _ y hy, c[o + k], ?_, h4 _ y _ hy (by simp [hlc])⟩
        show w.cell? (Addr.add ⟨ρ j, o, none⟩ k) = _
        rw [Addr.add_lit, cell_row h0]
        simp [hlc]
  | q cs' o a vs h1 h2 h3 =>
    simp only [place, Option.some.injEq, Prod.mk.injEq] at hp
    obtain ⟨rfl, rfl⟩ := hp
    refine ⟨_, rfl, fun k y hy => ⟨h1 _ y hy, vs (o + k), ?_, h3 _ y hy⟩⟩
    rw [add_add]
    exact (h2 _ y hy).2
  | _ => simp [place] at hp

/-- The cells that a slice shows: the row's, where it begins, how many elements. -/
def view (h : Heap) : AV → Option (List AV × Nat × Nat)
  | .sl _ j off len => match h j with | some (.cells cs) => some (cs, off, len) | _ => none
  | .ro _ cs len => some (cs, 0, len)
  | _ => none

theorem Rel.show_ (hr : Rel U ρ Ro h w) {x : AV} {v : Value} (hx : RV (cx U ρ Ro w) x v) {cs : List AV} {off len : Nat} (hp : view h x = some (cs, off, len)) :
    ∃ a cap, v = .slice a len cap ∧ (a = none → cs = [] ∧ len = 0) ∧ ∀ a', a = some a' → ∀ k y, cs[off + k]? = some y → y.one = true ∧ ∃ u, w.cell? (a'.add k) = some u ∧ RV (cx U ρ Ro w) y u := by
  cases hx with
  | sl sz j o l cap hj hl hc hz =>
    simp only [view] at hp
    cases hh : h j with
    | none => rw [hh] at hp; cases hp
    | some r =>
      rw [hh] at hp
      cases r with
      | iter s pos => cases hp
      | cells cs' =>
        simp only [Option.some.injEq, Prod.mk.injEq] at hp
        obtain ⟨rfl, rfl, rfl⟩ := hp
        refine ⟨_, _, rfl, fun he => (by cases he), fun a' ha => ?_⟩
        injection ha with ha
        subst ha
        obtain ⟨a, hva, hrd⟩ := hr.read (x := .p j o) (.p j o hj) (cs := cs') (off := o) (by simp [place, hh])
        injection hva with hva
        injection hva with hva
        subst hva
        exact hrd
  | ron =>
    simp only [view, Option.some.injEq, Prod.mk.injEq] at hp
    obtain ⟨rfl, rfl, rfl⟩ := hp
    exact ⟨none, 0, rfl, fun _ => ⟨rfl, rfl⟩, fun a' ha => by cases ha⟩
  | ro cs' l a cap vs hl hc h1 h2 h3 =>
    simp only [view, Option.some.injEq, Prod.mk.injEq] at hp
    obtain ⟨rfl, rfl, rfl⟩ := hp
    refine ⟨_, _, rfl, fun he => (by cases he), fun a' ha k y hy => ?_⟩
    injection ha with ha
    subst ha
    rw [Nat.zero_add] at hy
    exact ⟨h1 _ y hy, vs k, (h2 _ y hy).2, h3 _ y hy⟩
  | _ => simp [view] at hp

end Go.Av
