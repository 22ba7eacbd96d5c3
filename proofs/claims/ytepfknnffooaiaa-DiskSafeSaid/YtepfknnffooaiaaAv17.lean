/- Regions whose order is drawn. Part 3: the theorem. -/
import Derived.Test.YtepfknnffooaiaaAv16
namespace Go.Av

variable {P : Program} {N : Nat}

/-- What each operation comes to, fixed up front. -/
structure Plan where
  V : Nat → AV
  Us : Nat → List (Nat × Option Row)
  ns : Nat → Nat

def SoundL (S : Tmps → Prop) (ops : Array Oper) (o : Oper) (t : Tmps) : Prop := ∀ t', (∀ k ∈ o.looksAt ops, t' k = t k) → S t'

/-- One operation's part of the plan. -/
structure PlanAt (P : Program) (N : Nat) (ops : Array Oper) (B W : List Nat) (h0 : Heap) (t : Tmps) (p : Plan) (j : Nat) : Prop where
  op : ∃ o, ops[j]? = some o ∧ dstOk N o = true ∧ p.ns j ≤ p.ns (j + 1) ∧
    ((isVal P o.op = true ∧ p.Us j = [] ∧ p.ns (j + 1) = p.ns j ∧ SoundL (fun t => SoundW P ops o t noHeap (p.ns j) (p.V j) [] (p.ns j)) ops o t) ∨
     (isVal P o.op = false ∧ (∀ u ∈ p.Us j, p.ns j ≤ u.1 ∧ u.1 < p.ns (j + 1)) ∧ SoundL (fun t => SoundW P ops o t (hp p.Us h0 (pre B j) j) (p.ns j) (p.V j) (p.Us j) (p.ns (j + 1))) ops o t) ∨
     (isVal P o.op = false ∧ j ∈ W ∧ (∀ u ∈ p.Us j, u.1 < p.ns (j + 1)) ∧ SoundL (fun t => SoundO P ops o t (hp p.Us h0 (pre B j) j) (p.ns j) (p.V j) (p.Us j) (p.ns (j + 1))) ops o t))

/-- The numbers used, when these have come up. -/
def used (U : Nat → Prop) (ns : Nat → Nat) (m : Nat) (S : Nat → Bool) : Nat → Prop := fun x => U x ∨ ∃ i, i < m ∧ S i = true ∧ ns i ≤ x ∧ x < ns (i + 1)

theorem ns_mono {p : Plan} {m : Nat} (hm : ∀ j, j < m → p.ns j ≤ p.ns (j + 1)) : ∀ {i j : Nat}, i ≤ j → j ≤ m → p.ns i ≤ p.ns j
  | i, 0, hi, _ => by have : i = 0 := by omega
                      subst this; exact Nat.le_refl _
  | i, j + 1, hi, hj => by
    by_cases he : i = j + 1
    · subst he; exact Nat.le_refl _
    · exact Nat.le_trans (ns_mono hm (i := i) (j := j) (by omega) (by omega)) (hm j (by omega))

theorem used_all {U : Nat → Prop} {p : Plan} {m : Nat} (hm : ∀ j, j < m → p.ns j ≤ p.ns (j + 1)) {S : Nat → Bool} (hS : ∀ j, j < m → S j = true) : used U p.ns m S = ext U (p.ns 0) (p.ns m) := by
  funext x
  simp only [used, ext, eq_iff_iff]
  constructor
  · rintro (h | ⟨i, hi, _, h1, h2⟩)
    · exact .inl h
    · have a1 := ns_mono hm (i := 0) (j := i) (by omega) (by omega)
      have a2 := ns_mono hm (i := i + 1) (j := m) (by omega) (Nat.le_refl _)
      exact .inr ⟨by omega, by omega⟩
  · rintro (h | ⟨h1, h2⟩)
    · exact .inl h
    · right
      have key : ∀ k, k ≤ m → x < p.ns k → ∃ i, i < k ∧ p.ns i ≤ x ∧ x < p.ns (i + 1) := by
        intro k
        induction k with
        | zero => intro _ h; omega
        | succ k ih =>
          intro hk h
          by_cases hx : x < p.ns k
          · obtain ⟨i, g1, g2, g3⟩ := ih (by omega) hx
            exact ⟨i, by omega, g2, g3⟩
          · exact ⟨k, Nat.lt_succ_self k, by omega, h⟩
      obtain ⟨i, g1, g2, g3⟩ := key m (Nat.le_refl _) h2
      exact ⟨i, g1, hS i g1, g2, g3⟩

/-- When these have come up, the state is so. -/
structure Inv (P : Program) (N : Nat) (ops : Array Oper) (B : List Nat) (h0 : Heap) (t0 : Tmps) (p : Plan) (U : Nat → Prop) (ρ0 : Nat → Nat) (Ro0 : Nat → Prop) (w0 : World) (S : Nat → Bool) (a : Act) (w : World) : Prop where
  down : ∀ i j, i < ops.size → S i = true → pre B i j = true → S j = true
  st : ∃ ρ Ro, Rel (used U p.ns ops.size S) ρ Ro (hp p.Us h0 S ops.size) w ∧ RelT (cx (used U p.ns ops.size S) ρ Ro w) (tp ops p.V t0 S ops.size) a ∧
    Ext U ρ0 Ro0 h0 w0 (used U p.ns ops.size S) ρ Ro (hp p.Us h0 S ops.size) w
  sz : a.tmps.size = N
  df : a.defers = []

def addS (S : Nat → Bool) (i : Nat) : Nat → Bool := fun j => if j = i then true else S j

theorem plan_step {ops : Array Oper} {B W : List Nat} {h0 : Heap} {t0 : Tmps} {p : Plan} {U : Nat → Prop} {ρ0 : Nat → Nat} {Ro0 : Nat → Prop} {w0 : World} (hd : DrawOk P ops B W)
    (hp_ : ∀ j, j < ops.size → PlanAt P N ops B W h0 (tp ops p.V t0 (fun _ => true) j) p j) (hU : ∀ x, U x → x < p.ns 0) (hh0 : ∀ x r, h0 x = some r → x < p.ns 0) {S : Nat → Bool} {a : Act} {w : World}
    (inv : Inv P N ops B h0 t0 p U ρ0 Ro0 w0 S a w) {i : Nat} {o : Oper} (hi : ops[i]? = some o) (hSi : S i = false) (hpre : ∀ j, pre B i j = true → S j = true) (K : Act → World → Prop) (Q : Exit → Act → World → Prop)
    (hK : ∀ a' w', Inv P N ops B h0 t0 p U ρ0 Ro0 w0 (addS S i) a' w' → K a' w') :
    if Region.wanted o (yielded ops a.tmps) then o.wp P a w K Q ∨ (o.asks P a w ∧ LetsOut Q) else K (a.put o.dst undef) w := by
  have hlt : i < ops.size := (Array.getElem?_eq_some_iff.1 hi).1
  have hns : ∀ j, j < ops.size → p.ns j ≤ p.ns (j + 1) := fun j hj => (hp_ j hj).op.choose_spec.2.2.1
  have hop : ∀ j, j < ops.size → ∃ o, ops[j]? = some o := fun j hj => ⟨_, Array.getElem?_eq_getElem hj⟩
  have hnot : ∀ j, j < ops.size → S j = true → pre B j i = false := fun j hj hs => by
    cases hb : pre B j i with
    | false => rfl
    | true => have := inv.down j i hj hs hb; rw [hSi] at this; cases this
  have hpsz : ∀ j, pre B i j = true → j < ops.size := fun j hj => Nat.lt_trans (hd.back i j hlt hj) hlt
  -- temporaries
  have htmp : ∀ k ∈ o.looksAt ops, tp ops p.V t0 S ops.size k = tp ops p.V t0 (fun _ => true) i k := fun k hk => by
    have hwr : ∀ j, j < ops.size → j ≠ i → (ops[j]?).bind (·.dst) = some k → pre B i j = true ∨ pre B j i = true := fun j hj hne hdk => by
      obtain ⟨oj, hoj⟩ := hop j hj
      rw [hoj] at hdk
      exact hd.tmp i j o oj k hi hoj (Ne.symm hne) hdk (.inl hk)
    rw [tp_tail (k := i) (Nat.le_of_lt hlt) (fun j h1 h2 h3 hdk => by
      by_cases hji : j = i
      · subst hji; rw [hSi] at h3; cases h3
      · rcases hwr j h2 hji hdk with h4 | h4
        · have := hd.back i j hlt h4; omega
        · rw [hnot j h2 h3] at h4; cases h4)]
    refine tp_congr (fun j hj hne hdk => ?_)
    rcases hwr j (by omega) (by omega) hdk with h4 | h4
    · exact hne (hpre j h4)
    · have := hd.back j i (by omega) h4; omega
  obtain ⟨o', ho', hdst, hnsi, hcase⟩ := (hp_ i hlt).op
  rw [hi] at ho'
  injection ho' with ho'
  subst ho'
  obtain ⟨ρ, Ro, hrel, htm, hext⟩ := inv.st
  -- where a touched row comes from
  have htouch : ∀ j, j < ops.size → ∀ x, touch (p.Us j) x → x < p.ns (j + 1) ∧ (p.ns j ≤ x ∨ j ∈ W) ∧ (∃ oj, ops[j]? = some oj ∧ isVal P oj.op = false) := fun j hj x ⟨u, hu, he⟩ => by
    obtain ⟨oj, hoj, _, _, hc⟩ := (hp_ j hj).op
    subst he
    rcases hc with ⟨_, h2, _⟩ | ⟨h1, h2, _⟩ | ⟨h1, h2, h3, _⟩
    · rw [h2] at hu; cases hu
    · exact ⟨(h2 u hu).2, .inl (h2 u hu).1, oj, hoj, h1⟩
    · exact ⟨h3 u hu, .inr h2, oj, hoj, h1⟩
  have husedb : ∃ b, ∀ x, used U p.ns ops.size S x → x < b := ⟨p.ns ops.size, fun x hx => by
    have h1 := ns_mono hns (i := 0) (j := ops.size) (Nat.zero_le _) (Nat.le_refl _)
    rcases hx with hx | ⟨l, hl, _, _, h3⟩
    · have := hU x hx; omega
    · have := ns_mono hns (i := l + 1) (j := ops.size) (by omega) (Nat.le_refl _); omega⟩
  have hfree : ∀ x, p.ns i ≤ x → x < p.ns (i + 1) → ¬ used U p.ns ops.size S x := fun x h1 h2 hx => by
    have h0' := ns_mono hns (i := 0) (j := i) (Nat.zero_le _) (Nat.le_of_lt hlt)
    rcases hx with hx | ⟨l, hl, hs, h3, h4⟩
    · have := hU x hx; omega
    · have hne : l ≠ i := fun e => by subst e; rw [hSi] at hs; cases hs
      rcases Nat.lt_or_gt_of_ne hne with h5 | h5
      · have := ns_mono hns (i := l + 1) (j := i) (by omega) (by omega); omega
      · have := ns_mono hns (i := i + 1) (j := l) (by omega) (by omega); omega
  have hused : ext (used U p.ns ops.size S) (p.ns i) (p.ns (i + 1)) = used U p.ns ops.size (addS S i) := by
    funext x
    simp only [ext, used, eq_iff_iff, addS]
    constructor
    · rintro ((h1 | ⟨l, h1, h2, h3⟩) | h1)
      · exact .inl h1
      · exact .inr ⟨l, h1, by split <;> first | rfl | exact h2, h3⟩
      · exact .inr ⟨i, hlt, by simp, h1⟩
    · rintro (h1 | ⟨l, h1, h2, h3⟩)
      · exact .inl (.inl h1)
      · by_cases hli : l = i
        · subst hli; exact .inr h3
        · rw [if_neg hli] at h2; exact .inl (.inr ⟨l, h1, h2, h3⟩)
  have hdownS : ∀ l j, l < ops.size → addS S i l = true → pre B l j = true → addS S i j = true := fun l j hl hs hb => by
    simp only [addS] at hs ⊢
    split
    · rfl
    · by_cases hli : l = i
      · subst hli; exact hpre j hb
      · rw [if_neg hli] at hs; exact inv.down l j hl hs hb
  have htmpS : ∀ x, tp ops p.V t0 (addS S i) ops.size x = put (tp ops p.V t0 S ops.size) o.dst (p.V i) x := fun x => by
    by_cases hdx : o.dst = some x
    · rw [put_eq hdx]
      have hwr : ∀ j, j < ops.size → j ≠ i → (ops[j]?).bind (·.dst) = some x → pre B i j = true ∨ pre B j i = true := fun j hj hne hdk => by
        obtain ⟨oj, hoj⟩ := hop j hj
        rw [hoj] at hdk
        exact hd.tmp i j o oj x hi hoj (Ne.symm hne) hdk (.inr hdx)
      rw [tp_tail (k := i + 1) (by omega) (fun j h1 h2 h3 hdk => by
        simp only [addS, show j ≠ i by omega, if_false] at h3
        rcases hwr j h2 (by omega) hdk with h4 | h4
        · have := hd.back i j hlt h4; omega
        · rw [hnot j h2 h3] at h4; cases h4)]
      simp only [tp, addS, if_true, hi, Option.bind_some]
      rw [put_eq hdx]
    · rw [put_other hdx]
      refine tp_congr (fun j hj hne hdk => ?_)
      simp only [addS] at hne
      by_cases hji : j = i
      · subst hji; rw [hi] at hdk; exact hdx hdk
      · rw [if_neg hji] at hne; exact hne rfl
  -- the heart: a step that saw a part of the rows
  have finish : ∀ (view : Heap) (us : List (Nat × Option Row)) (n' : Nat), us = p.Us i → n' = p.ns (i + 1) → (∀ x r, view x = some r → hp p.Us h0 S ops.size x = some r) →
      (∀ x, hp p.Us h0 (addS S i) ops.size x = app us view x ∨ (view x = none ∧ app us view x = none ∧ hp p.Us h0 (addS S i) ops.size x = hp p.Us h0 S ops.size x)) →
      (∀ x w' ρ' Ro', RV (cx (Av.ext (used U p.ns ops.size S) (p.ns i) n') ρ' Ro' w') (p.V i) x → Rel (Av.ext (used U p.ns ops.size S) (p.ns i) n') ρ' Ro' (app us view) w' → Ext (used U p.ns ops.size S) ρ Ro view w (Av.ext (used U p.ns ops.size S) (p.ns i) n') ρ' Ro' (app us view) w' → K (a.put o.dst x) w') := by
    intro view us n' hus hn' hsub hmg x w' ρ' Ro' hv hr' he'
    subst hus; subst hn'
    rw [hused] at hv hr' he'
    obtain ⟨g1, g2⟩ := hrel.frame hsub he' hr' (hp p.Us h0 (addS S i) ops.size) hmg
    have hle := g2.cx hrel
    refine hK _ _ ⟨hdownS, ⟨ρ', Ro', g1, ?_, hext.trans g2⟩, ?_, ?_⟩
    · have h1 := (htm.mono hle).put (d := o.dst) (fun k hk => by rw [inv.sz]; exact dstOk_lt hdst k hk) hv
      intro k
      rw [htmpS k]
      exact h1 k
    · rw [← inv.sz]; cases o.dst <;> simp [Act.put]
    · rw [← inv.df]; cases o.dst <;> rfl
  have h0le : ∀ j, j ≤ ops.size → p.ns 0 ≤ p.ns j := fun j hj => ns_mono hns (Nat.zero_le _) hj
  -- who of those that came up, and need not come up ahead, touched a row
  have hview : ∀ (hval : isVal P o.op = false) (x j : Nat), j < ops.size → S j = true → pre B i j = false → touch (p.Us j) x → hp p.Us h0 (pre B i) i x = none ∧ i ∉ W := fun hval x j hj hs hb ht => by
    obtain ⟨h1, h2, oj, hoj, hvj⟩ := htouch j hj x ht
    have hne : i ≠ j := fun e => by subst e; rw [hSi] at hs; cases hs
    have hjW : j ∉ W := fun hw => by
      rcases hd.wr i j o hi hj hne hw hval with h4 | h4
      · rw [hb] at h4; cases h4
      · rw [hnot j hj hs] at h4; cases h4
    have hiW : i ∉ W := fun hw => by
      rcases hd.wr j i oj hoj hlt (Ne.symm hne) hw hvj with h4 | h4
      · rw [hnot j hj hs] at h4; cases h4
      · rw [hb] at h4; cases h4
    have hge := h2.resolve_right hjW
    refine ⟨?_, hiW⟩
    have key : ∀ k, k ≤ i → hp p.Us h0 (pre B i) k x = none := by
      intro k
      induction k with
      | zero =>
        intro _
        cases hh : h0 x with
        | none => exact hh
        | some r => have := hh0 x r hh; have := h0le j (by omega); omega
      | succ k ih =>
        intro hk
        simp only [hp]
        split
        · rename_i hbk
          rw [app_untouched]
          · exact ih (by omega)
          · intro htk
            have hkj : k ≠ j := fun e => by subst e; rw [hb] at hbk; cases hbk
            obtain ⟨k1, k2, ok, hok, hvk⟩ := htouch k (by omega) x htk
            rcases k2 with k2 | k2
            · rcases Nat.lt_or_gt_of_ne hkj with h5 | h5
              · have := ns_mono hns (i := k + 1) (j := j) (by omega) (by omega); omega
              · have := ns_mono hns (i := j + 1) (j := k) (by omega) (by omega); omega
            · rcases hd.wr j k oj hoj (by omega) (Ne.symm hkj) k2 hvj with h5 | h5
              · have := hd.back j k hj h5
                have := ns_mono hns (i := k + 1) (j := j) (by omega) (by omega); omega
              · have := hd.trans i k j hlt (by omega) hbk h5
                rw [hb] at this; cases this
        · exact ih (by omega)
    exact key i (Nat.le_refl _)
  have hsub : isVal P o.op = false → ∀ x r, hp p.Us h0 (pre B i) i x = some r → hp p.Us h0 S ops.size x = some r := fun hval x r hx => by
    have hno : ∀ j, j < ops.size → S j = true → pre B i j = false → ¬ touch (p.Us j) x := fun j hj hs hb ht => by
      rw [(hview hval x j hj hs hb ht).1] at hx; cases hx
    rw [hp_tail (k := i) (Nat.le_of_lt hlt) (fun j h1 h2 h3 => hno j h2 h3 (by
      cases hb : pre B i j with
      | false => rfl
      | true => have := hd.back i j hlt hb; omega))]
    rw [hp_congr (S' := pre B i) (fun j hj hne => by
      cases hb : pre B i j with
      | true => rw [hb, hpre j hb] at hne; exact absurd rfl hne
      | false =>
        rw [hb] at hne
        exact hno j (by omega) (by simpa using hne) hb)]
    exact hx
  have hmg : isVal P o.op = false → (∀ u ∈ p.Us i, u.1 < p.ns (i + 1)) → ((∀ u ∈ p.Us i, p.ns i ≤ u.1) ∨ i ∈ W) → ∀ x, hp p.Us h0 (addS S i) ops.size x = app (p.Us i) (hp p.Us h0 (pre B i) i) x ∨
      (hp p.Us h0 (pre B i) i x = none ∧ app (p.Us i) (hp p.Us h0 (pre B i) i) x = none ∧ hp p.Us h0 (addS S i) ops.size x = hp p.Us h0 S ops.size x) := fun hval hub hkind x => by
    by_cases ht : touch (p.Us i) x
    · left
      have hno : ∀ j, j < ops.size → S j = true → pre B i j = false → ¬ touch (p.Us j) x := fun j hj hs hb htj => by
        obtain ⟨h1, h2, oj, hoj, hvj⟩ := htouch j hj x htj
        obtain ⟨_, hiW⟩ := hview hval x j hj hs hb htj
        have hne : i ≠ j := fun e => by subst e; rw [hSi] at hs; cases hs
        have hjW : j ∉ W := fun hw => by
          rcases hd.wr i j o hi hj hne hw hval with h4 | h4
          · rw [hb] at h4; cases h4
          · rw [hnot j hj hs] at h4; cases h4
        obtain ⟨u, hu, he⟩ := ht
        have hge := (hkind.resolve_right hiW) u hu
        have hlt' := hub u hu
        have hgj := h2.resolve_right hjW
        rcases Nat.lt_or_gt_of_ne hne with h5 | h5
        · have := ns_mono hns (i := i + 1) (j := j) (by omega) (by omega); omega
        · have := ns_mono hns (i := j + 1) (j := i) (by omega) (by omega); omega
      rw [hp_tail (k := i + 1) (by omega) (fun j h1 h2 h3 => by
        simp only [addS, show j ≠ i by omega, if_false] at h3
        exact hno j h2 h3 (by
          cases hb : pre B i j with
          | false => rfl
          | true => have := hd.back i j hlt hb; omega))]
      simp only [hp, addS, if_true]
      exact app_touched _ _ ht
    · rw [app_untouched _ ht]
      have hS : hp p.Us h0 (addS S i) ops.size x = hp p.Us h0 S ops.size x := hp_congr (fun j hj hne htj => by
        simp only [addS] at hne
        by_cases hji : j = i
        · subst hji; exact ht htj
        · rw [if_neg hji] at hne; exact hne rfl)
      rw [hS]
      cases hv : hp p.Us h0 (pre B i) i x with
      | none => exact .inr ⟨rfl, rfl, rfl⟩
      | some r => exact .inl (hsub hval x r hv)
  rcases hcase with ⟨hval, hus, hn, hs⟩ | ⟨hval, hus, hs⟩ | ⟨hval, hw, hus, hs⟩
  · refine (hs _ htmp).2 _ ρ Ro w a (fun j h1 h2 => by omega) husedb (hrel.less (fun j r hj => by cases hj)) htm K Q ?_
    refine finish noHeap [] (p.ns i) hus.symm hn.symm (fun x r hx => by cases hx) (fun x => .inr ⟨rfl, rfl, ?_⟩)
    refine hp_congr (fun j hj hne htj => ?_)
    simp only [addS] at hne
    by_cases hji : j = i
    · subst hji; rw [hus] at htj; obtain ⟨u, hu, _⟩ := htj; cases hu
    · rw [if_neg hji] at hne; exact hne rfl
  · refine (hs _ htmp).2 _ ρ Ro w a hfree husedb (hrel.less (hsub hval)) htm K Q ?_
    exact finish _ _ _ rfl rfl (hsub hval) (hmg hval (fun u hu => (hus u hu).2) (.inl fun u hu => (hus u hu).1))
  · refine (hs _ htmp).2 _ ρ Ro w a (fun x hx => ?_) (hrel.less (hsub hval)) htm K Q ?_
    · rcases hx with hx | ⟨l, hl, hsl, h3, h4⟩
      · have := hU x hx; have := h0le i (Nat.le_of_lt hlt); omega
      · have hne : l ≠ i := fun e => by subst e; rw [hSi] at hsl; cases hsl
        obtain ⟨ol, hol, _, _, hc⟩ := (hp_ l hl).op
        have hvl : isVal P ol.op = false := by
          rcases hc with ⟨_, _, h5, _⟩ | ⟨h5, _⟩ | ⟨h5, _⟩
          · omega
          · exact h5
          · exact h5
        rcases hd.wr l i ol hol hlt hne hw hvl with h5 | h5
        · rw [hnot l hl hsl] at h5; cases h5
        · have := hd.back i l hlt h5
          have := ns_mono hns (i := l + 1) (j := i) (by omega) (by omega); omega
    · exact finish _ _ _ rfl rfl (hsub hval) (hmg hval hus (.inr hw))

end Go.Av
