/- Regions whose order is drawn, part 4: how a plan is made. The rules for code. -/
import Derived.Test.YtepfknnffooaiaaAv17
namespace Go.Av

variable {P : Program} {N : Nat} {n n' : Nat} {h h0 : Heap} {t : Tmps} {v : AV} {us : List (Nat × Option Row)} {ops : Array Oper} {B W : List Nat}

theorem nodup_le : ∀ (m : Nat) (X : List Nat), X.Nodup → (∀ j ∈ X, j < m) → X.length ≤ m
  | 0, X, _, h => by cases X with | nil => exact Nat.le_refl _ | cons x X => have := h x (by simp); omega
  | m + 1, X, hn, h => by
    by_cases hm : m ∈ X
    · have h1 := nodup_le m (X.erase m) (hn.erase m) (fun j hj => by
        have := (hn.mem_erase_iff).1 hj
        have := h j this.2
        omega)
      rw [List.length_erase_of_mem hm] at h1
      omega
    · have := nodup_le m X hn (fun j hj => by
        have h1 := h j hj
        have : j ≠ m := fun e => hm (e ▸ hj)
        omega)
      omega

theorem plan_any {t0 : Tmps} {p : Plan} {U : Nat → Prop} {ρ0 : Nat → Nat} {Ro0 : Nat → Prop} {w0 : World} (hd : DrawOk P ops B W)
    (hp_ : ∀ j, j < ops.size → PlanAt P N ops B W h0 (tp ops p.V t0 (fun _ => true) j) p j) (hU : ∀ x, U x → x < p.ns 0) (hh0 : ∀ x r, h0 x = some r → x < p.ns 0) (Q : Exit → Act → World → Prop)
    (hQ : ∀ S a w, (∀ j, j < ops.size → S j = true) → Inv P N ops B h0 t0 p U ρ0 Ro0 w0 S a w → Q .normal a w) :
    ∀ (fuel : Nat) (listed : Array Bool) (a : Act) (w : World), listed.size = ops.size → (∀ X : List Nat, X.Nodup → (∀ j ∈ X, j < ops.size ∧ listed.getD j true = false) → X.length ≤ fuel) →
      Inv P N ops B h0 t0 p U ρ0 Ro0 w0 (fun j => listed.getD j false) a w → wpAny P .any ops Q fuel listed a w := by
  -- where nothing may come up all has come up
  have hdone : ∀ listed : Array Bool, listed.size = ops.size → Region.ready .any ops listed = [] → ∀ j, j < ops.size → listed.getD j false = true := by
    intro listed hsz hr
    have key : ∀ m j, j < m → j < ops.size → listed.getD j false = true := by
      intro m
      induction m with
      | zero => intro j hj; omega
      | succ m ih =>
        intro j hj hlt
        by_cases hjm : j < m
        · exact ih j hjm hlt
        · cases hb : listed.getD j false with
          | true => rfl
          | false =>
            have hj' : j = m := by omega
            subst hj'
            have hmem : j ∈ Region.ready .any ops listed := by
              rw [mem_ready]
              refine ⟨?_, ops[j], Array.getElem?_eq_getElem hlt, fun e he hbind => ?_⟩
              · have h1 : j < listed.size := by omega
                simp [h1] at hb ⊢
                exact hb
              · have h1 := hd.edge j _ (Array.getElem?_eq_getElem hlt) e he hbind
                have h2 := hd.back j e.on hlt h1
                exact ih e.on h2 (by omega)
            rw [hr] at hmem
            cases hmem
    exact fun j hj => key (j + 1) j (Nat.lt_succ_self j) hj
  intro fuel
  induction fuel with
  | zero =>
    intro listed a w hsz hX inv
    have hall : ∀ j, j < ops.size → listed.getD j false = true := fun j hj => by
      cases hb : listed.getD j false with
      | true => rfl
      | false =>
        have h1 : j < listed.size := by omega
        have := hX [j] (by simp) (fun k hk => by
          simp at hk; subst hk
          refine ⟨hj, ?_⟩
          simp [h1] at hb ⊢
          exact hb)
        simp at this
    refine ⟨?_, hQ _ a w hall inv⟩
    cases hr : Region.ready .any ops listed with
    | nil => rfl
    | cons i l =>
      have hi : i ∈ Region.ready .any ops listed := by rw [hr]; simp
      obtain ⟨h1, o, ho, _⟩ := mem_ready.1 hi
      have hlt := (Array.getElem?_eq_some_iff.1 ho).1
      have h2 := hall i hlt
      have h3 : i < listed.size := by omega
      simp [h3] at h1 h2
      rw [h1] at h2; cases h2
  | succ fuel ih =>
    intro listed a w hsz hX inv
    refine ⟨fun hr => hQ _ a w (hdone listed hsz hr) inv, fun i hi => ?_⟩
    obtain ⟨h1, o, ho, hedge⟩ := mem_ready.1 hi
    have hlt := (Array.getElem?_eq_some_iff.1 ho).1
    have hil : i < listed.size := by omega
    have hSi : listed.getD i false = false := by simp [hil] at h1 ⊢; exact h1
    -- all that binds has come up
    have hpre : ∀ j, pre B i j = true → listed.getD j false = true := fun j hb => by
      obtain ⟨e, he, hbind, hcase⟩ := hd.gen i j o ho hb
      have h4 : listed.getD e.on false = true := by
        have h5 := hedge e he hbind
        have h6 := hd.back i e.on hlt (hd.edge i o ho e he hbind)
        have h7 : e.on < listed.size := by omega
        simp [h7] at h5 ⊢
        exact h5
      rcases hcase with rfl | hb'
      · exact h4
      · exact inv.down e.on j (by have := hd.back i e.on hlt (hd.edge i o ho e he hbind); omega) h4 hb'
    unfold wpOp
    rw [ho]
    simp only
    refine plan_step hd hp_ hU hh0 inv ho hSi hpre _ Q (fun a' w' inv' => ?_)
    refine ih _ a' w' (by simpa using hsz) (fun X hXn hXm => ?_) ?_
    · have := hX (i :: X) (by
        refine List.nodup_cons.2 ⟨fun hm => ?_, hXn⟩
        have := (hXm i hm).2
        simp [hil] at this) (fun j hj => by
        rcases List.mem_cons.1 hj with rfl | hj
        · exact ⟨hlt, h1⟩
        · obtain ⟨g1, g2⟩ := hXm j hj
          refine ⟨g1, ?_⟩
          by_cases hji : j = i
          · subst hji; exact h1
          · rwa [getD_set_ne _ (Ne.symm hji)] at g2)
      simp at this
      omega
    · have : (fun j => (listed.setIfInBounds i true).getD j false) = addS (fun j => listed.getD j false) i := by
        funext j
        simp only [addS]
        by_cases hji : j = i
        · subst hji; simp [hil]
        · rw [if_neg hji, getD_set_ne _ (Ne.symm hji)]
      rw [this]
      exact inv'

end Go.Av
