/- A function's body, and what is told of it: rows are numbered anew, what is not named is let go. -/
import Derived.Test.YtepfknnffooaiaaAv20
namespace Go.Av

variable {P : Program} {N : Nat} {n n' : Nat} {h h0 : Heap} {t : Tmps} {v : AV} {us : List (Nat × Option Row)}

mutual
def AV.names (S : Nat → Prop) : AV → Prop
  | .p j _ | .sl _ j _ _ => S j
  | .q cs _ | .ro _ cs _ | .agg cs | .tup cs => namesAll S cs
  | .fn _ a b => namesAll S a ∧ namesAll S b
  | .ifc _ x => x.names S
  | _ => True
def namesAll (S : Nat → Prop) : List AV → Prop
  | [] => True
  | x :: xs => x.names S ∧ namesAll S xs
end
mutual
def AV.ren (σ : Nat → Nat) : AV → AV
  | .p j off => .p (σ j) off
  | .sl sz j off len => .sl sz (σ j) off len
  | .q cs off => .q (renAll σ cs) off
  | .ro z cs len => .ro z (renAll σ cs) len
  | .agg cs => .agg (renAll σ cs)
  | .tup cs => .tup (renAll σ cs)
  | .fn f a b => .fn f (renAll σ a) (renAll σ b)
  | .ifc T x => .ifc T (x.ren σ)
  | x => x
def renAll (σ : Nat → Nat) : List AV → List AV
  | [] => []
  | x :: xs => x.ren σ :: renAll σ xs
end
theorem renAll_map (σ : Nat → Nat) : ∀ cs : List AV, renAll σ cs = cs.map (AV.ren σ)
  | [] => rfl
  | x :: xs => by simp [renAll, renAll_map σ xs]
theorem namesAll_get {S : Nat → Prop} : ∀ {cs : List AV}, namesAll S cs → ∀ (k : Nat) (x : AV), cs[k]? = some x → x.names S
  | [], _, k, x, hx => by simp at hx
  | y :: cs, hf, k, x, hx => by
    simp only [namesAll] at hf
    cases k with
    | zero => simp at hx; subst hx; exact hf.1
    | succ k => exact namesAll_get hf.2 k x (by simpa using hx)
theorem AV.ren_one (σ : Nat → Nat) (x : AV) : (x.ren σ).one = x.one := by cases x <;> rfl

theorem ren_get {σ : Nat → Nat} {cs : List AV} {k : Nat} {y : AV} (h : (renAll σ cs)[k]? = some y) : ∃ x, cs[k]? = some x ∧ y = x.ren σ := by
  rw [renAll_map, List.getElem?_map] at h
  cases hx : cs[k]? with
  | none => rw [hx] at h; cases h
  | some x => rw [hx] at h; simp at h; exact ⟨x, rfl, h.symm⟩

theorem RV.ren {C D : Cx} {x : AV} {v : Value} {S : Nat → Prop} {σ : Nat → Nat} (h : RV C x v) (hS : x.names S) (hj : ∀ j, S j → C.U j → D.U (σ j) ∧ D.ρ (σ j) = C.ρ j ∧ D.Z (C.ρ j) = C.Z (C.ρ j)) (hM : ∀ a v, C.M a v → D.M a v) : RV D (x.ren σ) v := by
  induction h with
  | b x => exact .b x
  | i k m => exact .i k m
  | s x => exact .s x
  | np => exact .np
  | p j off hU =>
    obtain ⟨h1, h2, _⟩ := hj j (by simpa only [AV.names] using hS) hU
    simp only [AV.ren]
    rw [← h2]
    exact .p (σ j) off h1
  | q cs off a vs h1 hm _ ih =>
    simp only [AV.names] at hS
    simp only [AV.ren]
    refine .q _ off a vs (fun k y hy => ?_) (fun k y hy => ?_) (fun k y hy => ?_) <;> obtain ⟨x, hx, rfl⟩ := ren_get hy
    · rw [AV.ren_one]; exact h1 k x hx
    · exact hM _ _ (hm k x hx)
    · exact ih k x hx (namesAll_get hS k x hx)
  | sl sz j off len cap hU hl hc hz =>
    obtain ⟨h1, h2, h3⟩ := hj j (by simpa only [AV.names] using hS) hU
    simp only [AV.ren]
    rw [← h2]
    exact .sl sz (σ j) off len cap h1 hl hc (by rw [h2, h3]; exact hz)
  | ron => exact .ron
  | ro cs len a cap vs hl hc h1 hm _ ih =>
    simp only [AV.names] at hS
    simp only [AV.ren]
    refine .ro _ len a cap vs hl hc (fun k y hy => ?_) (fun k y hy => ?_) (fun k y hy => ?_) <;> obtain ⟨x, hx, rfl⟩ := ren_get hy
    · rw [AV.ren_one]; exact h1 k x hx
    · exact hM _ _ (hm k x hx)
    · exact ih k x hx (namesAll_get hS k x hx)
  | nf => exact .nf
  | fn f first cap vs us h1 h2 _ _ ih1 ih2 =>
    simp only [AV.names] at hS
    simp only [AV.ren]
    refine .fn f _ _ vs us (by rw [renAll_map, List.length_map]; exact h1) (by rw [renAll_map, List.length_map]; exact h2) (fun k y v hy hv => ?_) (fun k y v hy hv => ?_) <;> obtain ⟨x, hx, rfl⟩ := ren_get hy
    · exact ih1 k x v hx hv (namesAll_get hS.1 k x hx)
    · exact ih2 k x v hx hv (namesAll_get hS.2 k x hx)
  | ni => exact .ni
  | ifc T x v _ ih => exact .ifc T _ v (ih (by simpa only [AV.names] using hS))
  | agg cs vs h1 h2 _ ih =>
    simp only [AV.names] at hS
    simp only [AV.ren]
    refine .agg _ vs (by rw [renAll_map, List.length_map]; exact h1) (fun k y hy => ?_) (fun k y v hy hv => ?_) <;> obtain ⟨x, hx, rfl⟩ := ren_get hy
    · rw [AV.ren_one]; exact h2 k x hx
    · exact ih k x v hx hv (namesAll_get hS k x hx)
  | tup cs vs h1 _ ih =>
    simp only [AV.names] at hS
    simp only [AV.ren]
    refine .tup _ vs (by rw [renAll_map, List.length_map]; exact h1) (fun k y v hy hv => ?_)
    obtain ⟨x, hx, rfl⟩ := ren_get hy
    exact ih k x v hx hv (namesAll_get hS k x hx)

def Row.ren (σ : Nat → Nat) : Row → Row
  | .cells cs => .cells (renAll σ cs)
  | .iter s p => .iter s p
def Row.names (S : Nat → Prop) : Row → Prop
  | .cells cs => namesAll S cs
  | .iter .. => True

/-- Numbers anew: τ tells a new number's old one, σ an old number's new one. -/
structure Anew (n n1 n2 : Nat) (σ τ : Nat → Nat) : Prop where
  le : n ≤ n2
  lo : ∀ j, j < n → σ j = j
  hi : ∀ x, n ≤ x → x < n2 → n ≤ τ x ∧ τ x < n1 ∧ σ (τ x) = x

def kept (n n2 : Nat) (τ : Nat → Nat) (j : Nat) : Prop := j < n ∨ ∃ x, n ≤ x ∧ x < n2 ∧ τ x = j
def oldNo (n : Nat) (τ : Nat → Nat) (x : Nat) : Nat := if x < n then x else τ x

theorem Anew.turn {U : Nat → Prop} {ρ ρ1 : Nat → Nat} {Ro Ro1 : Nat → Prop} {w w1 : World} {n1 n2 : Nat} {h1 h2 : Heap} {σ τ : Nat → Nat} (hs : Anew n n1 n2 σ τ) (hU : ∀ j, U j → j < n) (_hr0 : Rel U ρ Ro h w)
    (hr : Rel (ext U n n1) ρ1 Ro1 h1 w1) (he : Ext U ρ Ro h w (ext U n n1) ρ1 Ro1 h1 w1) (hh : ∀ x r, h2 x = some r → (U x ∨ n ≤ x ∧ x < n2) ∧ ∃ r0, h1 (oldNo n τ x) = some r0 ∧ r = r0.ren σ ∧ r0.names (kept n n2 τ)) :
    Rel (ext U n n2) (fun x => ρ1 (oldNo n τ x)) Ro1 h2 w1 ∧ Ext U ρ Ro h w (ext U n n2) (fun x => ρ1 (oldNo n τ x)) Ro1 h2 w1 ∧ (∀ x v, RV (cx (ext U n n1) ρ1 Ro1 w1) x v → x.names (kept n n2 τ) → RV (cx (ext U n n2) (fun x => ρ1 (oldNo n τ x)) Ro1 w1) (x.ren σ) v) := by
  have hold : ∀ x, (U x ∨ n ≤ x ∧ x < n2) → ext U n n1 (oldNo n τ x) := fun x hx => by
    rcases hx with hx | hx
    · have := hU x hx; simp only [oldNo, if_pos this]; exact .inl hx
    · simp only [oldNo, if_neg (by omega : ¬ x < n)]
      have := hs.hi x hx.1 hx.2
      exact .inr ⟨this.1, this.2.1⟩
  have hσ : ∀ j, kept n n2 τ j → (ext U n n1) j → ext U n n2 (σ j) ∧ oldNo n τ (σ j) = j := fun j hk hj => by
    rcases hk with hk | ⟨x, h3, h4, rfl⟩
    · rw [hs.lo j hk]
      refine ⟨.inl ?_, by simp only [oldNo, if_pos hk]⟩
      rcases hj with hj | hj
      · exact hj
      · omega
    · rw [(hs.hi x h3 h4).2.2]
      exact ⟨.inr ⟨h3, h4⟩, by simp only [oldNo, if_neg (by omega : ¬ x < n)]⟩
  have hinv : ∀ x, (U x ∨ n ≤ x ∧ x < n2) → σ (oldNo n τ x) = x := fun x hx => by
    rcases hx with hx | hx
    · have := hU x hx; simp only [oldNo, if_pos this]; exact hs.lo x this
    · simp only [oldNo, if_neg (by omega : ¬ x < n)]; exact (hs.hi x hx.1 hx.2).2.2
  have hval : ∀ x v, RV (cx (ext U n n1) ρ1 Ro1 w1) x v → x.names (kept n n2 τ) → RV (cx (ext U n n2) (fun x => ρ1 (oldNo n τ x)) Ro1 w1) (x.ren σ) v := fun x v hv hn =>
    hv.ren hn (fun j hk hj => ⟨(hσ j hk hj).1, by simp only [cx]; rw [(hσ j hk hj).2], rfl⟩) (fun _ _ h => h)
  refine ⟨⟨fun j r hj => (hh j r hj).1, fun j hj => hr.bl _ (hold j hj), fun j cs hj => ?_, fun j s pos hj => ?_, fun i j ri rj hi hj e => ?_, fun j r hj => ?_, hr.rob⟩, ⟨fun j hj => .inl hj, fun j hj => ?_, he.ro0, he.ro1, he.os, he.tape, he.output, he.size, he.blk, he.zz, fun j r hj => ?_⟩, hval⟩
  · obtain ⟨hx, r0, g1, g2, g3⟩ := hh j _ hj
    cases r0 with
    | iter s p => simp only [Row.ren] at g2; cases g2
    | cells cs0 =>
      simp only [Row.ren, Row.cells.injEq] at g2
      subst g2
      obtain ⟨c, T, lo, hi, k0, k1, k2, k3, k4⟩ := hr.row _ cs0 g1
      refine ⟨c, T, lo, hi, k0, k1, by rw [renAll_map, List.length_map]; exact k2, fun k y hy => ?_, fun k y v hy hv => ?_⟩ <;> obtain ⟨x, hx', rfl⟩ := ren_get hy
      · rw [AV.ren_one]; exact k3 k x hx'
      · exact hval x v (k4 k x v hx' hv) (namesAll_get g3 k x hx')
  · obtain ⟨hx, r0, g1, g2, g3⟩ := hh j _ hj
    cases r0 with
    | cells cs => simp only [Row.ren] at g2; cases g2
    | iter s' p' =>
      simp only [Row.ren, Row.iter.injEq] at g2
      obtain ⟨rfl, rfl⟩ := g2
      exact hr.iter _ s pos g1
  · obtain ⟨hx, r0, g1, _⟩ := hh i _ hi
    obtain ⟨hy, r1, k1, _⟩ := hh j _ hj
    have := hr.inj _ _ _ _ g1 k1 e
    rw [← hinv i hx, ← hinv j hy, this]
  · obtain ⟨hx, r0, g1, _⟩ := hh j _ hj
    exact hr.sep _ _ g1
  · simp only [oldNo, if_pos (hU j hj)]
    exact he.rr j hj
  · obtain ⟨hx, r0, g1, _⟩ := hh j _ hj
    exact he.lv _ _ g1

/-! ### results -/
def resT (P : Program) (t : Tmps) (h : Heap) : ResultVar → Option AV
  | .tmp k => some (t k)
  | .cell k T => aload P T h (t k)
def resAll (P : Program) (t : Tmps) (h : Heap) : List ResultVar → Option (List AV)
  | [] => some []
  | r :: rs => match resT P t h r, resAll P t h rs with
    | some x, some xs => some (x :: xs)
    | _, _ => none
def resOne : List AV → AV
  | [x] => x
  | xs => .tup xs

def inTmps (xs : List AV) : Tmps := fun k => xs.getD k (.tup [])

/-- A function's body comes to this. -/
structure Out (P : Program) (fn : Func) (n : Nat) (h : Heap) (r : AV) (us : List (Nat × Option Row)) (n2 : Nat) (e : Exit) (t : Tmps) (h1 : Heap) (n1 : Nat) : Prop where
  ends : e = .normal ∨ e = .ret
  out : ∃ xs σ τ, resAll P t h1 fn.results.toList = some xs ∧ Anew n n1 n2 σ τ ∧ (resOne xs).ren σ = r ∧ (resOne xs).names (kept n n2 τ) ∧
    (∀ x r, x < n → h x = some r → ¬ touch us x → h1 x = some r) ∧
    ∀ x r, touch us x → app us noHeap x = some r → ((n ≤ x ∧ x < n2) ∨ (h x).isSome = true) ∧ ∃ r0, h1 (oldNo n τ x) = some r0 ∧ r = r0.ren σ ∧ r0.names (kept n n2 τ)

mutual
theorem AV.ren_self {σ : Nat → Nat} {S : Nat → Prop} (hσ : ∀ j, S j → σ j = j) : ∀ (x : AV), x.names S → x.ren σ = x
  | .p j off, h => by simp only [AV.names] at h; simp only [AV.ren]; rw [hσ j h]
  | .sl sz j off len, h => by simp only [AV.names] at h; simp only [AV.ren]; rw [hσ j h]
  | .q cs off, h => by simp only [AV.names] at h; simp only [AV.ren]; rw [renAll_self hσ cs h]
  | .ro z cs len, h => by simp only [AV.names] at h; simp only [AV.ren]; rw [renAll_self hσ cs h]
  | .agg cs, h => by simp only [AV.names] at h; simp only [AV.ren]; rw [renAll_self hσ cs h]
  | .tup cs, h => by simp only [AV.names] at h; simp only [AV.ren]; rw [renAll_self hσ cs h]
  | .fn f a b, h => by simp only [AV.names] at h; simp only [AV.ren]; rw [renAll_self hσ a h.1, renAll_self hσ b h.2]
  | .ifc T x, h => by simp only [AV.names] at h; simp only [AV.ren]; rw [AV.ren_self hσ x h]
  | .b _, _ | .i _ _, _ | .s _, _ | .np, _ | .nf, _ | .ni, _ => rfl
theorem renAll_self {σ : Nat → Nat} {S : Nat → Prop} (hσ : ∀ j, S j → σ j = j) : ∀ (xs : List AV), namesAll S xs → renAll σ xs = xs
  | [], _ => rfl
  | x :: xs, h => by simp only [namesAll] at h; simp only [renAll]; rw [AV.ren_self hσ x h.1, renAll_self hσ xs h.2]
end

theorem namesAll_of {S : Nat → Prop} : ∀ {cs : List AV}, (∀ (k : Nat) (x : AV), cs[k]? = some x → x.names S) → namesAll S cs
  | [], _ => trivial
  | x :: xs, h => ⟨h 0 x rfl, namesAll_of fun k y hy => h (k + 1) y (by simpa using hy)⟩

theorem RV.named {C : Cx} {x : AV} {v : Value} {S : Nat → Prop} (h : RV C x v) (hS : ∀ j, C.U j → S j) : x.names S := by
  have look : ∀ {cs : List AV} {vs : Array Value} {k : Nat} {x : AV}, vs.size = cs.length → cs[k]? = some x → ∃ v, vs[k]? = some v := fun {cs vs k x} hl hx => by
    have hlt : k < vs.size := by
      rcases Nat.lt_or_ge k cs.length with h' | h'
      · omega
      · rw [List.getElem?_eq_none h'] at hx; cases hx
    exact ⟨_, Array.getElem?_eq_getElem hlt⟩
  induction h with
  | p j off hU => exact hS j hU
  | sl sz j off len cap hU => exact hS j hU
  | q cs off a vs h1 hm _ ih => exact namesAll_of fun k x hx => ih k x hx
  | ro cs len a cap vs hl hc h1 hm _ ih => exact namesAll_of fun k x hx => ih k x hx
  | fn f first cap vs us h1 h2 _ _ ih1 ih2 =>
    refine ⟨namesAll_of fun k x hx => ?_, namesAll_of fun k x hx => ?_⟩
    · obtain ⟨v, hv⟩ := look h1 hx; exact ih1 k x v hx hv
    · obtain ⟨v, hv⟩ := look h2 hx; exact ih2 k x v hx hv
  | ifc T x v _ ih => exact ih
  | agg cs vs h1 h2 _ ih => exact namesAll_of fun k x hx => by obtain ⟨v, hv⟩ := look h1 hx; exact ih k x v hx hv
  | tup cs vs h1 _ ih => exact namesAll_of fun k x hx => by obtain ⟨v, hv⟩ := look h1 hx; exact ih k x v hx hv
  | _ => trivial

theorem Rel.named {U : Nat → Prop} {ρ : Nat → Nat} {Ro : Nat → Prop} {w : World} (hr : Rel U ρ Ro h w) {j : Nat} {r : Row} (hj : h j = some r) : r.names U := by
  cases r with
  | iter => trivial
  | cells cs =>
    obtain ⟨c, T, lo, hi, g0, g1, g2, g3, g4⟩ := hr.row j cs hj
    refine namesAll_of fun k x hx => ?_
    have hlt : k < c.size := by
      rcases Nat.lt_or_ge k cs.length with h' | h'
      · omega
      · rw [List.getElem?_eq_none h'] at hx; cases hx
    exact (g4 k x _ hx (Array.getElem?_eq_getElem hlt)).named (fun _ h => h)

mutual
theorem AV.names_mono {S T : Nat → Prop} (hST : ∀ j, S j → T j) : ∀ (x : AV), x.names S → x.names T
  | .p j off, h => by simp only [AV.names] at h ⊢; exact hST j h
  | .sl sz j off len, h => by simp only [AV.names] at h ⊢; exact hST j h
  | .q cs off, h => by simp only [AV.names] at h ⊢; exact namesAll_mono hST cs h
  | .ro z cs len, h => by simp only [AV.names] at h ⊢; exact namesAll_mono hST cs h
  | .agg cs, h => by simp only [AV.names] at h ⊢; exact namesAll_mono hST cs h
  | .tup cs, h => by simp only [AV.names] at h ⊢; exact namesAll_mono hST cs h
  | .fn f a b, h => by simp only [AV.names] at h ⊢; exact ⟨namesAll_mono hST a h.1, namesAll_mono hST b h.2⟩
  | .ifc T x, h => by simp only [AV.names] at h ⊢; exact AV.names_mono hST x h
  | .b _, _ | .i _ _, _ | .s _, _ | .np, _ | .nf, _ | .ni, _ => trivial
theorem namesAll_mono {S T : Nat → Prop} (hST : ∀ j, S j → T j) : ∀ (xs : List AV), namesAll S xs → namesAll T xs
  | [], _ => trivial
  | x :: xs, h => by simp only [namesAll] at h ⊢; exact ⟨AV.names_mono hST x h.1, namesAll_mono hST xs h.2⟩
end
theorem Row.names_mono {S T : Nat → Prop} (hST : ∀ j, S j → T j) (r : Row) (h : r.names S) : r.names T := by
  cases r with
  | iter => trivial
  | cells cs => exact namesAll_mono hST cs h
theorem Row.ren_self {σ : Nat → Nat} {S : Nat → Prop} (hσ : ∀ j, S j → σ j = j) (r : Row) (h : r.names S) : r.ren σ = r := by
  cases r with
  | iter => rfl
  | cells cs => simp only [Row.ren]; rw [renAll_self hσ cs h]

def resM (tmps : Array Value) : ResultVar → Sem Value
  | .tmp t => pure (tmps.getD t undef)
  | .cell a t => do loadVar t (← asAddr (tmps.getD a undef))
theorem results_eq (fn : Func) (tmps : Array Value) : results fn tmps = (do let vs ← fn.results.mapM (resM tmps); pure (if h : vs.size = 1 then vs[0] else .tuple vs)) := rfl

theorem res_run {U : Nat → Prop} {ρ : Nat → Nat} {Ro : Nat → Prop} {w : World} {a : Act} (hr : Rel U ρ Ro h w) (ht : RelT (cx U ρ Ro w) t a) : ∀ {rs : List ResultVar} {xs : List AV}, resAll P t h rs = some xs →
    ∃ vs : List Value, (rs.mapM (resM a.tmps)).run P w = .ok vs w ∧ RVs (cx U ρ Ro w) xs vs
  | [], xs, hx => by
    simp only [resAll, Option.some.injEq] at hx
    subst hx
    exact ⟨[], by simp, RVs.nil _⟩
  | r :: rs, xs, hx => by
    simp only [resAll] at hx
    split at hx
    · rename_i x xs' h1 h2
      injection hx with hx
      subst hx
      obtain ⟨vs, g1, g2⟩ := res_run hr ht h2
      cases r with
      | tmp k =>
        simp only [resT, Option.some.injEq] at h1
        subst h1
        exact ⟨a.tmps.getD k undef :: vs, by simp only [List.mapM_cons, resM, Sem.run_bind, Sem.run_pure, Result.andThen_ok, g1], RVs.cons (ht k) g2⟩
      | cell k T =>
        simp only [resT] at h1
        have hk := ht k
        unfold aload at h1
        split at h1
        · rename_i g z cs off hg hz hp
          obtain ⟨b, hb, hc⟩ := hr.read hk hp
          obtain ⟨y, k1, k2⟩ := run_loadVar_part (w := w) hg hz hc h1
          refine ⟨y :: vs, ?_, RVs.cons k2 g2⟩
          simp only [List.mapM_cons, resM, Sem.run_bind, Sem.run_pure, Result.andThen_ok, g1, hb, asAddr, k1]
        · cases h1
    · cases hx

theorem results_run {U : Nat → Prop} {ρ : Nat → Nat} {Ro : Nat → Prop} {w : World} {a : Act} {fn : Func} (hr : Rel U ρ Ro h w) (ht : RelT (cx U ρ Ro w) t a) {xs : List AV} (hx : resAll P t h fn.results.toList = some xs) :
    ∃ v, (results fn a.tmps).run P w = .ok v w ∧ RV (cx U ρ Ro w) (resOne xs) v := by
  obtain ⟨vs, h1, h2⟩ := res_run hr ht hx
  rw [results_eq, Array.mapM_eq_mapM_toList]
  refine ⟨if h : vs.toArray.size = 1 then vs.toArray[0] else .tuple vs.toArray, ?_, ?_⟩
  · simp [h1]
  · rcases h2 with ⟨hl, hv⟩
    match xs, vs, hl with
    | [x], [v], _ => exact hv 0 x v rfl rfl
    | [], [], _ => exact .tup [] #[] rfl (fun k x v hx => by simp at hx)
    | x :: y :: xs, v :: u :: vs, hl =>
      simp only [List.size_toArray, List.length_cons]
      rw [dif_neg (by omega)]
      exact .tup _ _ (by simpa using hl) (fun k x v hx hv' => hv k x v hx (by simpa using hv'))

theorem DCalls.of {f : FuncId} {fn : Func} {c : Code} {args : List AV} {r : AV} {n2 : Nat} (hf : P.funcs[f]? = some fn) (hb : fn.body = some c) (hname : fn.name ≠ "runtime.NumGoroutine") (hlen : args.length ≤ fn.ntmps) (hn2 : n ≤ n2)
    (hw : AWp P fn.ntmps c (inTmps args) h n (Out P fn n h r us n2)) : DCalls P f args h n r us n2 := by
  refine ⟨⟨fn, hf, by rw [hb]; rfl, hname⟩, hn2, fun U ρ Ro w xs hU hrel hxs => ?_⟩
  refine calls_of_wp hf hb ?_
  have hxl : xs.length = args.length := hxs.1
  have hst : St fn.ntmps U n ρ Ro h w (inTmps args) { tmps := xs.toArray ++ Array.replicate (fn.ntmps - xs.toArray.size) undef, defers := [] } := by
    refine ⟨hU, hrel, fun k => ?_, by simp; omega, rfl⟩
    simp only [inTmps, Array.getD_eq_getD_getElem?, List.getD_eq_getElem?_getD]
    by_cases hk : k < args.length
    · rw [Array.getElem?_append_left (by simp; omega), List.getElem?_eq_getElem hk]
      have : k < xs.length := by omega
      simp only [List.getElem?_toArray, List.getElem?_eq_getElem this, Option.getD_some]
      exact hxs.2 k _ _ (List.getElem?_eq_getElem hk) (List.getElem?_eq_getElem this)
    · rw [List.getElem?_eq_none (by omega), Array.getElem?_append_right (by simp; omega)]
      have : (Array.replicate (fn.ntmps - xs.toArray.size) undef)[k - xs.toArray.size]?.getD undef = undef := by
        rw [Array.getElem?_replicate]; split <;> rfl
      rw [this]
      exact rv_undef _
  refine wp_mono (hw U ρ Ro w _ hst) fun e a' w' hp => ?_
  obtain ⟨t', h1, n1, ρ1, Ro1, g1, g2, g3, g4⟩ := hp
  obtain ⟨hends, ys, σ, τ, k1, k2, k3, k4, k5, k6⟩ := g4
  obtain ⟨v, hv, hrv⟩ := results_run g2.rel g2.tm k1
  have hturn := k2.turn (h2 := app us h) hU hrel g2.rel g3 (fun x r hx => by
    by_cases ht : touch us x
    · obtain ⟨h5, h6⟩ := k6 x r ht (by rw [← hx]; exact app_touched _ _ ht)
      refine ⟨?_, h6⟩
      rcases h5 with h5 | h5
      · exact .inr h5
      · cases hh : h x with
        | none => rw [hh] at h5; cases h5
        | some r' => exact .inl (hrel.lt x r' hh)
    · rw [app_untouched _ ht] at hx
      have hUx := hrel.lt x r hx
      have hlt := hU x hUx
      have hnm := (hrel.named hx)
      refine ⟨.inl hUx, r, ?_, ?_, Row.names_mono (fun j hj => .inl (hU j hj)) r hnm⟩
      · simp only [oldNo, if_pos hlt]; exact k5 x r hlt hx ht
      · exact (Row.ren_self (fun j hj => k2.lo j (hU j hj)) r hnm).symm)
  obtain ⟨m1, m2, m3⟩ := hturn
  have hfin : ∃ v, (results fn a'.tmps).run P w' = .ok v w' ∧ ∃ x ρ' Ro', Ending.returned v = .returned x ∧ Rel (ext U n n2) ρ' Ro' (app us h) w' ∧ RV (cx (ext U n n2) ρ' Ro' w') r x ∧ Ext U ρ Ro h w (ext U n n2) ρ' Ro' (app us h) w' :=
    ⟨v, hv, v, _, _, rfl, m1, by rw [← k3]; exact m3 _ v hrv k4, m2⟩
  rcases hends with rfl | rfl
  · exact ⟨g2.df, hfin⟩
  · exact ⟨g2.df, hfin⟩

theorem Anew.id (n n1 : Nat) : Anew n n1 n id id := ⟨Nat.le_refl _, fun _ _ => rfl, fun x h1 h2 => by omega⟩

/-- It comes back with a value alone. -/
theorem Out.pure {fn : Func} {e : Exit} {h1 : Heap} {n1 : Nat} {r : AV} (he : e = .normal ∨ e = .ret) {xs : List AV} (hx : resAll P t h1 fn.results.toList = some xs) (hr : resOne xs = r) (hn : r.names (· < n)) (hh : ∀ x r, x < n → h x = some r → h1 x = some r) : Out P fn n h r [] n e t h1 n1 := by
  subst hr
  refine ⟨he, xs, _, _, hx, Anew.id n n1, AV.ren_self (fun _ _ => rfl) _ hn, AV.names_mono (fun j hj => .inl hj) _ hn, fun x r hl hx _ => hh x r hl hx, fun x r ht => ?_⟩
  obtain ⟨u, hu, _⟩ := ht
  cases hu

theorem Out.pure1 {fn : Func} {e : Exit} {h1 : Heap} {n1 : Nat} {a : Tmp} {x r : AV} (he : e = .normal ∨ e = .ret) (hf : fn.results = #[.tmp a]) (hx : t a = x) (hr : x = r) (hn : r.names (· < n)) (hh : ∀ x r, x < n → h x = some r → h1 x = some r) : Out P fn n h r [] n e t h1 n1 :=
  Out.pure he (xs := [x]) (by rw [hf]; simp [resAll, resT, hx]) hr hn hh
theorem Out.pure2 {fn : Func} {e : Exit} {h1 : Heap} {n1 : Nat} {a b : Tmp} {x y r : AV} (he : e = .normal ∨ e = .ret) (hf : fn.results = #[.tmp a, .tmp b]) (hx : t a = x) (hy : t b = y) (hr : .tup [x, y] = r) (hn : r.names (· < n)) (hh : ∀ x r, x < n → h x = some r → h1 x = some r) : Out P fn n h r [] n e t h1 n1 :=
  Out.pure he (xs := [x, y]) (by rw [hf]; simp [resAll, resT, hx, hy]) hr hn hh
theorem Out.pure3 {fn : Func} {e : Exit} {h1 : Heap} {n1 : Nat} {a b c : Tmp} {x y z r : AV} (he : e = .normal ∨ e = .ret) (hf : fn.results = #[.tmp a, .tmp b, .tmp c]) (hx : t a = x) (hy : t b = y) (hz : t c = z) (hr : .tup [x, y, z] = r) (hn : r.names (· < n)) (hh : ∀ x r, x < n → h x = some r → h1 x = some r) : Out P fn n h r [] n e t h1 n1 :=
  Out.pure he (xs := [x, y, z]) (by rw [hf]; simp [resAll, resT, hx, hy, hz]) hr hn hh

/-- What is there below a number stays, where rows from that number on are written. -/
theorem keep0 : ∀ x r, x < n → h x = some r → h x = some r := fun _ _ _ h => h
theorem keepU {g : Heap} {j : Nat} {r0 : Option Row} (hj : n ≤ j) (hk : ∀ x r, x < n → h x = some r → g x = some r) : ∀ x r, x < n → h x = some r → upd g j r0 x = some r := fun x r hx hr => by
  rw [upd_ne _ _ (by omega)]; exact hk x r hx hr

end Go.Av
