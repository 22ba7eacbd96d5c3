/- One's own memory, shown to a called function as if it could only be read; a slice held against nil. -/
import Derived.Test.YtepfknnffooaiaaAv26
set_option linter.unusedVariables false
namespace Go.Av

variable {P : Program} {N : Nat} {n n' : Nat} {h h' g : Heap} {t : Tmps} {w : World} {U : Nat → Prop} {ρ : Nat → Nat} {Ro : Nat → Prop}

/-- A value, the rows of g in it told by their content. -/
def frz (g : Heap) : Nat → AV → AV
  | 0, x => x
  | k + 1, .sl sz j off len => match g j with
    | some (.cells cs) => if off + len * sz ≤ cs.length then .ro false (((cs.drop off).take (len * sz)).map (frz g k)) len else .sl sz j off len
    | _ => .sl sz j off len
  | k + 1, .p j off => match g j with
    | some (.cells cs) => .q (cs.map (frz g k)) off
    | _ => .p j off
  | k + 1, .agg cs => .agg (cs.map (frz g k))
  | k + 1, .fn f a b => .fn f (a.map (frz g k)) (b.map (frz g k))
  | _ + 1, x => x

theorem frz_one (g : Heap) : ∀ (k : Nat) (x : AV), (frz g k x).one = x.one
  | 0, x => by simp [frz]
  | k + 1, x => by
    cases x with
    | sl sz j off len =>
      simp only [frz]
      split
      · split <;> rfl
      · rfl
    | p j off =>
      simp only [frz]
      split <;> rfl
    | _ => rfl

/-- What was read-only, and the rows of g. -/
def roG (g : Heap) (ρ : Nat → Nat) (Ro : Nat → Prop) : Nat → Prop := fun b => Ro b ∨ ∃ j cs, g j = some (.cells cs) ∧ ρ j = b

theorem Rel.frzG (hr : Rel U ρ Ro h w) (hg : ∀ j cs, g j = some (.cells cs) → h j = some (.cells cs)) (hh : ∀ j r, h' j = some r → h j = some r ∧ ∀ cs, g j ≠ some (.cells cs)) :
    Rel U ρ (roG g ρ Ro) h' w ∧ Ext U ρ Ro h w U ρ (roG g ρ Ro) h' w ∧ ∀ (k : Nat) (x : AV) (v : Value), RV (cx U ρ Ro w) x v → RV (cx U ρ (roG g ρ Ro) w) (frz g k x) v := by
  have hle : (cx U ρ Ro w).le (cx U ρ (roG g ρ Ro) w) := ⟨fun _ h => h, fun _ _ => rfl, fun a v hm => ⟨.inl hm.1, hm.2⟩, fun _ _ => rfl⟩
  refine ⟨⟨fun x r hx => hr.lt x r (hh x r hx).1, hr.bl, fun x cs' hx => ?_, fun x s pos hx => hr.iter x s pos (hh x _ hx).1, fun x y rx ry hx hy => hr.inj x y rx ry (hh x _ hx).1 (hh y _ hy).1, fun x r hx => ?_, fun b hb => ?_⟩,
    ⟨fun _ h => h, fun _ _ => rfl, fun b hb => .inl hb, fun b hb => ?_, rfl, rfl, rfl, Nat.le_refl _, fun _ _ _ => rfl, fun _ _ => rfl, fun x r hx => .inr ⟨x, r, (hh x r hx).1, rfl⟩⟩, fun k => ?_⟩
  · obtain ⟨c, T, lo, hi, g0, g1, g2, g3, g4⟩ := hr.row x cs' (hh x _ hx).1
    exact ⟨c, T, lo, hi, g0, g1, g2, g3, fun k y u hy hu => (g4 k y u hy hu).mono hle⟩
  · rintro (h1 | ⟨j, cs, hj, h1⟩)
    · exact hr.sep x r (hh x r hx).1 h1
    · have := hr.inj j x _ r (hg j cs hj) (hh x r hx).1 h1
      subst this
      exact (hh _ r hx).2 cs hj
  · rcases hb with hb | ⟨j, cs, hj, rfl⟩
    · exact hr.rob b hb
    · exact hr.bl j (hr.lt j _ (hg j cs hj))
  · rcases hb with hb | ⟨j, cs, hj, rfl⟩
    · exact .inl hb
    · exact .inr (.inr ⟨j, _, hg j cs hj, rfl⟩)
  · induction k with
    | zero => intro x v hv; exact hv.mono hle
    | succ k ih =>
      intro x v hv
      have get : ∀ {cs : List AV} {i : Nat} {y : AV}, (cs.map (frz g k))[i]? = some y → ∃ x, cs[i]? = some x ∧ y = frz g k x := fun {cs i y} hy => by
        rw [List.getElem?_map] at hy
        cases hc : cs[i]? with
        | none => rw [hc] at hy; cases hy
        | some x => rw [hc] at hy; injection hy with hy; exact ⟨x, rfl, hy.symm⟩
      cases hv with
      | sl sz j off len cap hj hl hc hz =>
        simp only [frz]
        split
        · rename_i cs hgj
          split
          · rename_i hlen
            obtain ⟨c, T, lo, hi, g0, g1, g2, g3, g4⟩ := hr.row j cs (hg j cs hgj)
            have look : ∀ (i : Nat) (y : AV), ((((cs.drop off).take (len * sz)).map (frz g k)))[i]? = some y → ∃ x, cs[off + i]? = some x ∧ y = frz g k x ∧ off + i < c.size := fun i y hy => by
              obtain ⟨x, hx, rfl⟩ := get hy
              rw [List.getElem?_take] at hx
              split at hx
              · rw [List.getElem?_drop] at hx
                refine ⟨x, hx, rfl, ?_⟩
                rcases Nat.lt_or_ge (off + i) cs.length with h1 | h1
                · omega
                · rw [List.getElem?_eq_none h1] at hx; cases hx
              · cases hx
            refine .ro _ len ⟨ρ j, off, none⟩ cap (fun i => c.getD (off + i) undef) hl hc (fun i y hy => ?_) (fun i y hy => ?_) (fun i y hy => ?_) <;> obtain ⟨x, h1, rfl, h2⟩ := look i y hy
            · rw [frz_one]; exact g3 _ x h1
            · refine ⟨.inr ⟨j, cs, hgj, ?_⟩, ?_⟩
              · rw [Addr.add_lit]
              · rw [Addr.add_lit, cell_row g0]
                simp [h2]
            · have := ih x _ (g4 _ x _ h1 (Array.getElem?_eq_getElem h2))
              simpa [h2] using this
          · exact .sl sz j off len cap hj hl hc hz
        · exact .sl sz j off len cap hj hl hc hz
      | p j off hj =>
        simp only [frz]
        split
        · rename_i cs hgj
          obtain ⟨c, T, lo, hi, g0, g1, g2, g3, g4⟩ := hr.row j cs (hg j cs hgj)
          have look : ∀ (i : Nat) (y : AV), (cs.map (frz g k))[i]? = some y → ∃ x, cs[i]? = some x ∧ y = frz g k x ∧ i < c.size := fun i y hy => by
            obtain ⟨x, hx, rfl⟩ := get hy
            refine ⟨x, hx, rfl, ?_⟩
            rcases Nat.lt_or_ge i cs.length with h1 | h1
            · omega
            · rw [List.getElem?_eq_none h1] at hx; cases hx
          have hq := RV.q (C := cx U ρ (roG g ρ Ro) w) (cs.map (frz g k)) off ⟨ρ j, 0, none⟩ (fun i => c.getD i undef) (fun i y hy => by
              obtain ⟨x, h1, rfl, h2⟩ := look i y hy
              rw [frz_one]; exact g3 _ x h1) (fun i y hy => by
              obtain ⟨x, h1, rfl, h2⟩ := look i y hy
              refine ⟨.inr ⟨j, cs, hgj, ?_⟩, ?_⟩
              · rw [Addr.add_lit]
              · rw [Addr.add_lit, Nat.zero_add, cell_row g0]
                simp [h2]) (fun i y hy => by
              obtain ⟨x, h1, rfl, h2⟩ := look i y hy
              have := ih x _ (g4 _ x _ h1 (Array.getElem?_eq_getElem h2))
              simpa [h2] using this)
          rw [Addr.add_lit, Nat.zero_add] at hq
          exact hq
        · exact .p j off hj
      | agg cs vs h1 h2 h3 =>
        simp only [frz]
        refine .agg _ vs (by rw [List.length_map]; exact h1) (fun i y hy => ?_) (fun i y u hy hu => ?_) <;> obtain ⟨x, hx, rfl⟩ := get hy
        · rw [frz_one]; exact h2 i x hx
        · exact ih x u (h3 i x u hx hu)
      | fn f a b vs us h1 h2 h3 h4 =>
        simp only [frz]
        refine .fn f _ _ vs us (by rw [List.length_map]; exact h1) (by rw [List.length_map]; exact h2) (fun i y u hy hu => ?_) (fun i y u hy hu => ?_) <;> obtain ⟨x, hx, rfl⟩ := get hy
        · exact ih x u (h3 i x u hx hu)
        · exact ih x u (h4 i x u hx hu)
      | b x => exact .b x
      | i k m => exact .i k m
      | s x => exact .s x
      | np => exact .np
      | q cs off a vs h1 h2 h3 => exact (RV.q cs off a vs h1 h2 h3).mono hle
      | ron => exact .ron
      | ro cs len a cap vs h1 h2 h3 h4 h5 => exact (RV.ro cs len a cap vs h1 h2 h3 h4 h5).mono hle
      | nf => exact .nf
      | ni => exact .ni
      | ifc t x v h1 => exact (RV.ifc t x v h1).mono hle
      | tup cs vs h1 h2 => exact (RV.tup cs vs h1 h2).mono hle

theorem RVs.frzG {C D : Cx} {k : Nat} (hv : ∀ x v, RV C x v → RV D (frz g k x) v) {xs : List AV} {vs : List Value} (h : RVs C xs vs) : RVs D (xs.map (frz g k)) vs :=
  ⟨by rw [List.length_map]; exact h.1, fun i y v hy hu => by
    rw [List.getElem?_map] at hy
    cases hc : xs[i]? with
    | none => rw [hc] at hy; cases hy
    | some x => rw [hc] at hy; injection hy with hy; subst hy; exact hv x v (h.2 i x v hc hu)⟩

/-- The rows that are shown are given up. -/
theorem DCalls.drop {f : FuncId} {args : List AV} {r : AV} {us us' : List (Nat × Option Row)} {k : Nat} (hg : ∀ j cs, g j = some (.cells cs) → h j = some (.cells cs)) (hh : ∀ j r, h' j = some r → h j = some r ∧ ∀ cs, g j ≠ some (.cells cs))
    (hd : DCalls P f (args.map (frz g k)) h' n r us n') (he : app us h' = app us' h) : DCalls P f args h n r us' n' := by
  obtain ⟨h1, h2, h3⟩ := hd
  refine ⟨h1, h2, fun U ρ Ro w xs hU hrel hxs => ?_⟩
  obtain ⟨g1, g2, g3⟩ := hrel.frzG hg hh
  refine (h3 U ρ _ w xs hU g1 (hxs.frzG (g3 k))).mono ?_
  rintro e w' ⟨x, ρ', Ro', rfl, k1, k2, k3⟩
  rw [he] at k1 k3
  exact ⟨x, ρ', Ro', rfl, k1, k2, g2.trans k3⟩

/-- A value without memory. -/
def AV.flat : AV → Bool
  | .b _ | .i _ _ | .s _ | .np | .nf | .ni => true
  | .tup [] => true
  | .tup [x] => x.flat
  | .tup [x, y] => x.flat && y.flat
  | .ro true [] 0 => true
  | _ => false
theorem RV.flat {C D : Cx} {x : AV} {v : Value} (h : RV C x v) (hf : x.flat = true) : RV D x v := by
  induction h with
  | b x => exact .b x
  | i k m => exact .i k m
  | s x => exact .s x
  | np => exact .np
  | ron => exact .ron
  | nf => exact .nf
  | ni => exact .ni
  | tup cs vs h1 h2 ih =>
    match cs, hf, ih with
    | [], _, _ => exact .tup [] vs h1 (fun k x v hx => by simp at hx)
    | [x], hf, ih =>
      refine .tup [x] vs h1 (fun k y v hy hv => ih k y v hy hv ?_)
      cases k with
      | zero => simp at hy; subst hy; simpa [AV.flat] using hf
      | succ k => simp at hy
    | [x, y], hf, ih =>
      simp only [AV.flat, Bool.and_eq_true] at hf
      refine .tup [x, y] vs h1 (fun k z v hz hv => ih k z v hz hv ?_)
      match k, hz with
      | 0, hz => simp at hz; subst hz; exact hf.1
      | 1, hz => simp at hz; subst hz; exact hf.2
      | k + 2, hz => simp at hz
    | x :: y :: z :: r, hf, _ => simp [AV.flat] at hf
  | p j off hj => simp [AV.flat] at hf
  | q cs off a vs h1 hm _ ih => simp [AV.flat] at hf
  | sl sz j off len cap hj hl hc hz => simp [AV.flat] at hf
  | ro cs len a cap vs hl hc h1 hm _ ih => simp [AV.flat] at hf
  | fn f first cap vs us h1 h2 _ _ ih1 ih2 => simp [AV.flat] at hf
  | ifc t x v _ ih => simp [AV.flat] at hf
  | agg cs vs h1 h2 _ ih => simp [AV.flat] at hf

/-- The heap's places in a text, alone. -/
def iters (h : Heap) : Heap := fun j => match h j with | some (.iter s p) => some (.iter s p) | _ => none

/-- A function that tells a value without memory, shown one's own rows: they stay as they are. -/
theorem DCalls.keep {f : FuncId} {args : List AV} {r : AV} {k : Nat} (hd : DCalls P f (args.map (frz h k)) (iters h) n r [] n) (hf : r.flat = true) : DCalls P f args h n r [] n := by
  obtain ⟨h1, h2, h3⟩ := hd
  refine ⟨h1, h2, fun U ρ Ro w xs hU hrel hxs => ?_⟩
  have hit : ∀ j r, iters h j = some r → h j = some r ∧ ∀ cs, h j ≠ some (.cells cs) := fun j r hj => by
    unfold iters at hj
    split at hj
    · rename_i s p hx; rw [hx]; exact ⟨hj, fun cs hc => by cases hc⟩
    · cases hj
  obtain ⟨g1, g2, g3⟩ := hrel.frzG (g := h) (h' := iters h) (fun _ _ hj => hj) hit
  refine (h3 U ρ _ w xs hU g1 (hxs.frzG (g3 k))).mono ?_
  rintro e w' ⟨x, ρ', Ro', rfl, k1, k2, k3⟩
  have same : ∀ b, b < w.heap.size → (∀ j s p, h j = some (.iter s p) → ρ j ≠ b) → w'.heap[b]? = w.heap[b]? := fun b hb hno => k3.blk b hb fun j r hj => by
    unfold iters at hj
    split at hj
    · rename_i s p hx; exact hno j s p hx
    · cases hj
  have hrr := k3.rr
  refine ⟨x, ρ', Ro, rfl, ?_, k2.flat hf, ?_⟩
  · have hle : (cx U ρ Ro w).le (cx (ext U n n) ρ' Ro w') := ⟨fun j hj => .inl hj, fun j hj => hrr j hj, fun a v hm => ⟨hm.1, ?_⟩, fun j hj => ?_⟩
    · refine ⟨fun j r hj => .inl (hrel.lt j r hj), fun j hj => k1.bl j hj, fun j cs hj => ?_, fun j s p hj => ?_, fun i j ri rj hi hj he => ?_, fun j r hj => ?_, fun b hb => Nat.lt_of_lt_of_le (hrel.rob b hb) k3.size⟩
      · obtain ⟨c, T, lo, hi, m0, m1, m2, m3, m4⟩ := hrel.row j cs hj
        refine ⟨c, T, lo, hi, ?_, m1, m2, m3, fun i y u hy hu => (m4 i y u hy hu).mono hle⟩
        rw [hrr j (hrel.lt j _ hj), same _ (hrel.bl j (hrel.lt j _ hj)) (fun i s p hi he => ?_), m0]
        have := hrel.inj i j _ _ hi hj he
        subst this
        have hj' : h i = some (.cells cs) := hj
        rw [hi] at hj'; cases hj'
      · have hj' : h j = some (.iter s p) := hj
        exact k1.iter j s p (by show iters h j = _; unfold iters; rw [hj'])
      · rw [hrr i (hrel.lt i _ hi), hrr j (hrel.lt j _ hj)] at he
        exact hrel.inj i j ri rj hi hj he
      · rw [hrr j (hrel.lt j _ hj)]; exact hrel.sep j r hj
    · have hm2 := hm.2
      unfold World.cell? at hm2 ⊢
      rw [same a.block (hrel.rob _ hm.1) (fun j s p hj he => hrel.sep j _ hj (by rw [he]; exact hm.1))]
      exact hm2
    · show bsz w' (ρ j) = bsz w (ρ j)
      exact k3.zz _ (hrel.bl j hj)
  · refine ⟨fun j hj => .inl hj, hrr, fun b hb => hb, fun b hb => .inl hb, k3.os, k3.tape, k3.output, k3.size, fun b hb hno => same b hb fun j s p hj => hno j _ hj, k3.zz, fun j r hj => .inr ⟨j, r, hj, (hrr j (hrel.lt j _ hj)).symm⟩⟩

/-- From here on the rows of g are told by their content, in a slot. -/
theorem AWp.frzG {c : Code} {Q : Exit → Tmps → Heap → Nat → Prop} {k d : Nat} (hg : ∀ j cs, g j = some (.cells cs) → h j = some (.cells cs)) (hh : ∀ j r, h' j = some r → h j = some r ∧ ∀ cs, g j ≠ some (.cells cs))
    (hc : AWp P N c (put t (some k) (frz g d (t k))) h' n Q) : AWp P N c t h n Q := fun U ρ Ro w a hst => by
  obtain ⟨h1, h2, h3⟩ := hst.rel.frzG hg hh
  have hle' := h2.cx hst.rel
  refine wp_mono (hc _ _ _ _ _ ⟨hst.bd, h1, fun x => ?_, hst.sz, hst.df⟩) fun e a' w' hp => ?_
  · rw [put_at]
    split
    · rename_i hx
      subst hx
      exact h3 d _ _ (hst.tm x)
    · exact (hst.tm x).mono hle'
  · obtain ⟨t', h', n', ρ', Ro', g1, g2, g3, g4⟩ := hp
    exact ⟨t', h', n', ρ', Ro', g1, g2, h2.trans g3, g4⟩

/-- One row alone. -/
def only (j : Nat) (cs : List AV) : Heap := fun i => if i = j then some (.cells cs) else none
theorem AWp.frz1 {c : Code} {Q : Exit → Tmps → Heap → Nat → Prop} {k j d : Nat} {cs : List AV} {x : AV} (hj : h j = some (.cells cs)) (hx : frz (only j cs) d (t k) = x)
    (hc : AWp P N c (put t (some k) x) (upd h j none) n Q) : AWp P N c t h n Q := by
  refine AWp.frzG (g := only j cs) (h' := upd h j none) (k := k) (d := d) (fun i cs' hi => ?_) (fun i r hi => ?_) (by rw [hx]; exact hc)
  · unfold only at hi
    split at hi
    · rename_i he; subst he; injection hi with hi; injection hi with hi; subst hi; exact hj
    · cases hi
  · by_cases he : i = j
    · subst he; rw [upd_same] at hi; cases hi
    · rw [upd_ne _ _ he] at hi
      refine ⟨hi, fun cs' hc' => ?_⟩
      unfold only at hc'
      rw [if_neg he] at hc'; cases hc'

/-! ### a slice held against nil -/
theorem run_equalIn_nil {T : TypeId} {e : TypeId} (hu : P.underlying T = some (.slice e)) (d : Nat) (a : Option Addr) (len cap : Nat) :
    (Op.equalIn (d + 1) T (.slice a len cap) (.slice none 0 0)).run P w = .ok a.isNone w := by
  cases a with
  | none => simp only [Op.equalIn, Sem.run_bind, run_underlying hu, Result.andThen_ok, Sem.run_pure]
  | some a => simp only [Op.equalIn, Sem.run_bind, run_underlying hu, Result.andThen_ok, Sem.run_pure]; rfl
theorem run_nileq {T : TypeId} {e : TypeId} {z b : Nat} (hT : slT P T = some (e, z, b)) (a : Option Addr) (len cap : Nat) :
    (binOp .eql T (.slice a len cap) (.slice none 0 0)).run P w = .ok (.bool a.isNone) w := by
  obtain ⟨hu, _, _⟩ := slT_some hT
  have h2 : (Op.equal T (.slice a len cap) (.slice none 0 0)).run P w = .ok a.isNone w := run_equalIn_nil hu 9999 a len cap
  simp only [binOp, Sem.run_bind, h2, Result.andThen_ok, Sem.run_pure]
/-- Is it nil? -/
def nilA : AV → Option Bool
  | .ro z _ _ => some z
  | .sl _ _ _ _ => some false
  | _ => none
theorem RV.nilA {C : Cx} {x : AV} {v : Value} {b : Bool} (h : RV C x v) (hb : nilA x = some b) : ∃ a len cap, v = .slice a len cap ∧ a.isNone = b := by
  cases h <;> simp only [Av.nilA] at hb <;> first | (cases hb; done) | (injection hb with hb; subst hb; exact ⟨_, _, _, rfl, rfl⟩)
theorem sound_nil {T Ty : TypeId} {d : Nat} {e : TypeId} {z b : Nat} {u : Bool} (hT : slT P T = some (e, z, b)) (hx : nilA (t d) = some u) : Sound P (.binOp .eql T (.tmp d) (.const (.slice none 0 0)) Ty) t h n (.b u) [] n :=
  .val fun ty o U ρ Ro w a hr ht => by
    have hrv := ht d
    obtain ⟨q, len, cap, hv, hq⟩ := hrv.nilA hx
    refine ⟨.bool u, .inl ?_, .b u⟩
    have e1 : a.eval (.tmp d) = .slice q len cap := by rw [← hv]; rfl
    have e2 : a.eval (.const (.slice none 0 0)) = .slice none 0 0 := rfl
    have hguard : (eqGuard .eql T (.tmp d) (.const (.slice none 0 0)) (.slice q len cap) (.slice none 0 0)).run P w = .ok () w := rfl
    have hbin := run_nileq (w := w) hT q len cap
    rw [hq] at hbin
    simp only [execOp, e1, e2, Sem.run_bind, hguard, hbin, Result.andThen_ok, Sem.run_pure]
/-- A region that does nothing but hold a slot against nil. -/
theorem aw_nil {id d1 d2 a : Nat} {T0 T1 T2 T3 : TypeId} {p1 p2 : String} {e1 e2 : Array Edge} {x : AV} {u : Bool} {e : TypeId} {z b : Nat} {Q : Exit → Tmps → Heap → Nat → Prop} (hT : slT P T1 = some (e, z, b)) (ht : t a = x) (hx : nilA x = some u)
    (ho : opsOk N #[⟨some d1, .move (.tmp a), T0, p1, e1, none⟩, ⟨some d2, .binOp .eql T1 (.tmp d1) (.const (.slice none 0 0)) T2, T3, p2, e2, none⟩] = true)
    (hq : Q .normal (put (put t (some d1) x) (some d2) (.b u)) h n) : AWp P N (.region id #[⟨some d1, .move (.tmp a), T0, p1, e1, none⟩, ⟨some d2, .binOp .eql T1 (.tmp d1) (.const (.slice none 0 0)) T2, T3, p2, e2, none⟩] false) t h n Q := by
  refine AWp.region ho ?_
  refine RW.step (o := ⟨some d1, .move (.tmp a), T0, p1, e1, none⟩) (v := x) (us := []) (n' := n) rfl (fun hok => SoundO.eff rfl hok (by simp only [aeff, aev, ht])) ?_
  refine RW.step (o := ⟨some d2, .binOp .eql T1 (.tmp d1) (.const (.slice none 0 0)) T2, T3, p2, e2, none⟩) (v := .b u) (us := []) (n' := n) rfl (fun hok => SoundO.of rfl (Nat.le_refl _) (sound_nil hT (by rw [put_at]; simp only [if_true]; exact hx))) ?_
  exact RW.end_ rfl hq

end Go.Av
