import Derived.Test.YtmkefpjpghmonaaGreatLn
namespace Go.Proofs.YtmkefpjpghmonaaGreat
open Go.Av
set_option maxRecDepth 100000
set_option maxHeartbeats 1000000
set_option synthInstance.maxHeartbeats 400000
set_option synthInstance.maxSize 4000
set_option linter.unusedSimpArgs false
set_option linter.unusedVariables false

/-! ### Common -/
def com (es : List Ent) : Nat → Int → Int → Int
  | 0, a, _ => a
  | f + 1, a, b => if a = b then a else if htOf es a ≥ htOf es b then com es f (parOf es a) b else com es f a (parOf es b)
def comN (es : List Ent) (a b : Int) : Int := com es ((a + 1).toNat + (b + 1).toNat) a b
theorem ht_at {es : List Ent} {k : Nat} (hk : k < es.length) : htOf es (k : Int) = es[k].ht := by
  unfold htOf
  rw [if_pos (by simp [hasN]; omega), Int.toNat_natCast, getD_at hk]
theorem ht_neg (es : List Ent) {a : Int} (h : a < 0) : htOf es a = 0 := by
  unfold htOf
  rw [if_neg (by simp [hasN]; omega)]
theorem par_at {es : List Ent} {k : Nat} (hk : k < es.length) : parOf es (k : Int) = es[k].par := by unfold parOf; rw [Int.toNat_natCast, getD_at hk]
/-- Which of two different ones goes up. -/
theorem com_side {S : List AV} {es : List Ent} (L : Lg S es) {a b : Int} (ha : -1 ≤ a ∧ a < es.length) (hb : -1 ≤ b ∧ b < es.length) (hne : a ≠ b) :
    (htOf es a ≥ htOf es b → ∃ k : Nat, a = k ∧ k < es.length) ∧ (¬ htOf es a ≥ htOf es b → ∃ k : Nat, b = k ∧ k < es.length) := by
  have up : ∀ x : Int, -1 ≤ x ∧ x < es.length → (x = -1 ∧ htOf es x = 0) ∨ ∃ k : Nat, x = k ∧ k < es.length ∧ 1 ≤ htOf es x := fun x hx => by
    by_cases h : x < 0
    · exact .inl ⟨by omega, ht_neg es h⟩
    · refine .inr ⟨x.toNat, by omega, by omega, ?_⟩
      have hk : x.toNat < es.length := by omega
      rw [show x = (x.toNat : Int) by omega, ht_at hk]
      exact L.ht _ hk
  rcases up a ha with ⟨h1, h2⟩ | ⟨k, h1, h2, h3⟩ <;> rcases up b hb with ⟨g1, g2⟩ | ⟨j, g1, g2, g3⟩
  · omega
  · exact ⟨fun h => by omega, fun _ => ⟨j, g1, g2⟩⟩
  · exact ⟨fun _ => ⟨k, h1, h2⟩, fun h => by omega⟩
  · exact ⟨fun _ => ⟨k, h1, h2⟩, fun _ => ⟨j, g1, g2⟩⟩
theorem com_fuel {S : List AV} {es : List Ent} (L : Lg S es) : ∀ (f g : Nat) (a b : Int), (-1 ≤ a ∧ a < es.length) → (-1 ≤ b ∧ b < es.length) → (a + 1).toNat + (b + 1).toNat ≤ f → (a + 1).toNat + (b + 1).toNat ≤ g → com es f a b = com es g a b
  | 0, 0, a, b, _, _, _, _ => rfl
  | 0, g + 1, a, b, ha, hb, h1, _ => by
    have : a = b := by omega
    unfold com; rw [if_pos this]
  | f + 1, 0, a, b, ha, hb, _, h2 => by
    have : a = b := by omega
    unfold com; rw [if_pos this]
  | f + 1, g + 1, a, b, ha, hb, h1, h2 => by
    unfold com
    by_cases hab : a = b
    · rw [if_pos hab, if_pos hab]
    · rw [if_neg hab, if_neg hab]
      have hs := com_side L ha hb hab
      split
      · rename_i hh
        obtain ⟨k, rfl, hk⟩ := hs.1 hh
        have ht := L.tree k hk
        clear hs
        rw [par_at hk]
        exact com_fuel L f g _ b ⟨by omega, by omega⟩ hb (by omega) (by omega)
      · rename_i hh
        obtain ⟨k, rfl, hk⟩ := hs.2 hh
        have ht := L.tree k hk
        clear hs
        rw [par_at hk]
        exact com_fuel L f g a _ ha ⟨by omega, by omega⟩ (by omega) (by omega)
def okId (n : Nat) (a : Int) : Bool := a == -1 || hasN n a
theorem okId_t {n : Nat} {a : Int} (h : okId n a = true) : -1 ≤ a ∧ a < n := by
  simp only [okId, Bool.or_eq_true, beq_iff_eq] at h
  rcases h with h | h
  · omega
  · obtain ⟨k, rfl, hk⟩ := hasN_t h; omega
theorem l66 {S : List AV} {es : List Ent} (L : Lg S es) (z : Bool) (hd a b : Int) (ha : okId es.length a = true) (hb : okId es.length b = true) : PCalls Tryz.prog 66 [.q (ledC S z es hd) 0, .i .i64 a, .i .i64 b] (.tup [.i .i64 (comN es a b), .i .i64 0]) := by
  have q := led21 L.hS z es hd
  have H1 := l128 L z hd a
  have H2 := l128 L z hd b
  obtain ⟨R, eR⟩ : ∃ R, R = comN es a b := ⟨_, rfl⟩
  have HR : Hid _ := ⟨eR⟩
  rw [← eR]
  have ra := okId_t ha
  have rb := okId_t hb
  have hlen := L.len
  clear eR
  have ca : (a != -1) = false ∨ ((a != -1) = true ∧ hasN es.length a = true) := by
    by_cases h : a = -1
    · left; simp [h]
    · right; refine ⟨by simp [h], ?_⟩; simpa [okId, h] using ha
  have cb : (b != -1) = false ∨ ((b != -1) = true ∧ hasN es.length b = true) := by
    by_cases h : b = -1
    · left; simp [h]
    · right; refine ⟨by simp [h], ?_⟩; simpa [okId, h] using hb
  clear ha hb
  refine pof Tryz.func66 fun h n => ?_
  rcases ca with ca | ⟨ca, ca'⟩ <;> rcases cb with cb | ⟨cb, cb'⟩ <;> (try rw [ca'] at H1) <;> (try rw [cb'] at H2)
  all_goals
    (try clear ca') <;> (try clear cb')
    refine go ?_
    refine AWp.loop (fun mm t' h' n' => ∃ x y : Int, mm = (x + 1).toNat + (y + 1).toNat ∧ (-1 ≤ x ∧ x < es.length) ∧ (-1 ≤ y ∧ y < es.length) ∧ Hid (R = comN es x y) ∧ t' 0 = .q (ledC S z es hd) 0 ∧ t' 1 = .i .i64 x ∧ t' 2 = .i .i64 y ∧ n ≤ n' ∧ Keeps n h h') ((a + 1).toNat + (b + 1).toNat) ?_ ?_
    · exact ⟨a, b, rfl, ra, rb, HR, tr, tr, tr, Nat.le_refl _, ks⟩
    · clear HR ra rb H1 H2 ca cb
      rintro mm t' h' n' - ⟨x, y, hmm, hx, hy, HR, t0, t1, t2, hn, kp⟩
      have Hmm : Hid _ := ⟨hmm⟩
      clear hmm
      by_cases hxy : x = y
      · have e : R = x := by
          rw [HR.get]; unfold comN
          cases hm : (x + 1).toNat + (y + 1).toNat with
          | zero => rfl
          | succ f => unfold com; rw [if_pos hxy]
        have c1 : (x != y) = false := by simp [hxy]
        clear HR hxy
        subst e
        refine go ?_
        exact outP
      · have c1 : (x != y) = true := by simp [hxy]
        have A := l136 L z hd x
        have B := l136 L z hd y
        have hs := com_side L hx hy hxy
        obtain ⟨u, eu⟩ : ∃ u, htOf es x = u := ⟨_, rfl⟩
        obtain ⟨v, ev⟩ : ∃ v, htOf es y = v := ⟨_, rfl⟩
        rw [eu] at A
        rw [ev] at B
        rw [eu, ev] at hs
        by_cases hh : u ≥ v
        · have c2 : (u ≥ v) = True := eq_true hh
          obtain ⟨k, rfl, hk⟩ := hs.1 hh
          obtain ⟨e, he⟩ : ∃ e, es[k] = e := ⟨_, rfl⟩
          have F := ent_facts L hk e he
          have ht := L.tree k hk
          have hp := par_at hk
          rw [he] at ht hp
          have HR' : Hid (R = comN es e.par y) := ⟨by
            rw [HR.get]; unfold comN
            rw [show ((k : Int) + 1).toNat + (y + 1).toNat = (k + (y + 1).toNat) + 1 by omega]
            conv => lhs; unfold com
            rw [if_neg hxy, if_pos (by rw [eu, ev]; exact hh), hp]
            exact com_fuel L _ _ _ _ ⟨by omega, by omega⟩ hy (by omega) (by omega)⟩
          have lt1 : (e.par + 1).toNat + (y + 1).toNat < mm := by have := Hmm.get; omega
          have ra' : -1 ≤ e.par ∧ e.par < es.length := ⟨by omega, by omega⟩
          clear hs hh hxy eu ev he hp HR Hmm hx
          refine go ?_
          exact ⟨_, lt1, e.par, y, rfl, ra', hy, HR', tr, tr, tr, by omega, ks⟩
        · have c2 : (u ≥ v) = False := eq_false hh
          obtain ⟨k, rfl, hk⟩ := hs.2 hh
          obtain ⟨e, he⟩ : ∃ e, es[k] = e := ⟨_, rfl⟩
          have F := ent_facts L hk e he
          have ht := L.tree k hk
          have hp := par_at hk
          rw [he] at ht hp
          have HR' : Hid (R = comN es x e.par) := ⟨by
            rw [HR.get]; unfold comN
            rw [show (x + 1).toNat + ((k : Int) + 1).toNat = ((x + 1).toNat + k) + 1 by omega]
            conv => lhs; unfold com
            rw [if_neg hxy, if_neg (by rw [eu, ev]; exact hh), hp]
            exact com_fuel L _ _ _ _ hx ⟨by omega, by omega⟩ (by omega) (by omega)⟩
          have lt1 : (x + 1).toNat + (e.par + 1).toNat < mm := by have := Hmm.get; omega
          have ra' : -1 ≤ e.par ∧ e.par < es.length := ⟨by omega, by omega⟩
          clear hs hh hxy eu ev he hp HR Hmm hy
          refine go ?_
          exact ⟨_, lt1, x, e.par, rfl, hx, ra', HR', tr, tr, tr, by omega, ks⟩

end Go.Proofs.YtmkefpjpghmonaaGreat
