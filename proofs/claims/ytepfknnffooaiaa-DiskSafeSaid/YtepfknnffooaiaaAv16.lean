/- Regions whose order is drawn. Part 2: whatever the order, it comes to that. -/
import Derived.Test.YtepfknnffooaiaaAv15
namespace Go.Av

variable {P : Program} {N : Nat}

/-! ### rows that a step does not see stay -/
theorem Rel.frame {U U' : Nat → Prop} {ρ ρ' : Nat → Nat} {Ro Ro' : Nat → Prop} {hS view g : Heap} {w w' : World} (hr : Rel U ρ Ro hS w) (hv : ∀ j r, view j = some r → hS j = some r)
    (e : Ext U ρ Ro view w U' ρ' Ro' g w') (hg : Rel U' ρ' Ro' g w') (mg : Heap) (hm : ∀ x, mg x = g x ∨ (view x = none ∧ g x = none ∧ mg x = hS x)) :
    Rel U' ρ' Ro' mg w' ∧ Ext U ρ Ro hS w U' ρ' Ro' mg w' := by
  have hrv := hr.less hv
  have hle := e.cx hrv
  -- a row that is not seen
  have key : ∀ x r, mg x = some r → g x = some r ∨ (hS x = some r ∧ view x = none ∧ g x = none) := fun x r hx => by
    rcases hm x with h1 | ⟨h1, h2, h3⟩
    · exact .inl (h1 ▸ hx)
    · exact .inr ⟨h3 ▸ hx, h1, h2⟩
  have hρ : ∀ x r, hS x = some r → ρ' x = ρ x := fun x r hx => e.rr x (hr.lt x r hx)
  have hblk : ∀ x r, hS x = some r → view x = none → w'.heap[ρ x]? = w.heap[ρ x]? := fun x r hx hv0 =>
    e.blk _ (hr.bl x (hr.lt x r hx)) (fun j rj hj he => by
      have := hr.inj j x rj r (hv j rj hj) hx he
      subst this
      rw [hv0] at hj; cases hj)
  have hnew : ∀ x r y ry, hS x = some r → view x = none → g y = some ry → ρ' y ≠ ρ x := fun x r y ry hx hv0 hy he => by
    rcases e.lv y ry hy with h1 | ⟨i, ri, hi, h1⟩
    · have := hr.bl x (hr.lt x r hx); omega
    · have := hr.inj i x ri r (hv i ri hi) hx (h1.trans he)
      subst this
      rw [hv0] at hi; cases hi
  refine ⟨⟨fun j r hj => ?_, hg.bl, fun j cs hj => ?_, fun j s pos hj => ?_, fun i j ri rj hi hj he => ?_, fun j r hj => ?_, hg.rob⟩, ?_⟩
  · rcases key j r hj with h1 | ⟨h1, _⟩
    · exact hg.lt j r h1
    · exact e.nn j (hr.lt j r h1)
  · rcases key j _ hj with h1 | ⟨h1, h2, _⟩
    · exact hg.row j cs h1
    · obtain ⟨c, T, lo, hi, g0, g1, g2, g3, g4⟩ := hr.row j cs h1
      rw [hρ j _ h1, hblk j _ h1 h2]
      exact ⟨c, T, lo, hi, g0, g1, g2, g3, fun k x v hx hv => (g4 k x v hx hv).mono hle⟩
  · rcases key j _ hj with h1 | ⟨h1, h2, _⟩
    · exact hg.iter j s pos h1
    · rw [hρ j _ h1, hblk j _ h1 h2]
      exact hr.iter j s pos h1
  · rcases key i ri hi with h1 | ⟨h1, h2, h3⟩
    · rcases key j rj hj with k1 | ⟨k1, k2, k3⟩
      · exact hg.inj i j ri rj h1 k1 he
      · rw [hρ j _ k1] at he
        exact absurd he (hnew j rj i ri k1 k2 h1)
    · rcases key j rj hj with k1 | ⟨k1, k2, k3⟩
      · rw [hρ i _ h1] at he
        exact absurd he.symm (hnew i ri j rj h1 h2 k1)
      · rw [hρ i _ h1, hρ j _ k1] at he
        exact hr.inj i j ri rj h1 k1 he
  · rcases key j r hj with h1 | ⟨h1, h2, _⟩
    · exact hg.sep j r h1
    · rw [hρ j _ h1]
      intro hro
      rcases e.ro1 _ hro with h3 | h3 | ⟨i, ri, hi, h3⟩
      · exact hr.sep j r h1 h3
      · have := hr.bl j (hr.lt j r h1); omega
      · have := hr.inj i j ri r (hv i ri hi) h1 h3
        subst this
        rw [h2] at hi; cases hi
  · refine ⟨e.nn, e.rr, e.ro0, fun b hb => ?_, e.os, e.tape, e.output, e.size, fun b hb hn => e.blk b hb (fun j r hj => hn j r (hv j r hj)), e.zz, fun j r hj => ?_⟩
    · rcases e.ro1 b hb with h1 | h1 | ⟨j, r, hj, h1⟩
      · exact .inl h1
      · exact .inr (.inl h1)
      · exact .inr (.inr ⟨j, r, hv j r hj, h1⟩)
    · rcases key j r hj with h1 | ⟨h1, _⟩
      · rcases e.lv j r h1 with h2 | ⟨i, ri, hi, h2⟩
        · exact .inl h2
        · exact .inr ⟨i, ri, hv i ri hi, h2⟩
      · exact .inr ⟨j, r, h1, (hρ j r h1).symm⟩

/-! ### what has come up so far -/
def touch (us : List (Nat × Option Row)) (x : Nat) : Prop := ∃ u ∈ us, u.1 = x

theorem app_untouched : ∀ {us : List (Nat × Option Row)} {x : Nat} (g : Heap), ¬ touch us x → app us g x = g x
  | [], x, g, _ => rfl
  | u :: us, x, g, hn => by
    rw [app_cons, app_untouched _ (fun ⟨v, hv, he⟩ => hn ⟨v, by simp [hv], he⟩), upd_ne]
    exact fun e => hn ⟨u, by simp, e.symm⟩
theorem app_touched : ∀ {us : List (Nat × Option Row)} {x : Nat} (g g' : Heap), touch us x → app us g x = app us g' x
  | [], x, g, g', ⟨u, hu, _⟩ => by cases hu
  | u :: us, x, g, g', ht => by
    rw [app_cons, app_cons]
    by_cases hr : touch us x
    · exact app_touched _ _ hr
    · rw [app_untouched _ hr, app_untouched _ hr]
      obtain ⟨v, hv, he⟩ := ht
      rcases List.mem_cons.1 hv with rfl | hv
      · subst he; rw [upd_same, upd_same]
      · exact absurd ⟨v, hv, he⟩ hr
theorem app_at {us : List (Nat × Option Row)} {x : Nat} {g g' : Heap} (h : g x = g' x) : app us g x = app us g' x := by
  by_cases ht : touch us x
  · exact app_touched _ _ ht
  · rw [app_untouched _ ht, app_untouched _ ht, h]

def hp (Us : Nat → List (Nat × Option Row)) (h0 : Heap) (S : Nat → Bool) : Nat → Heap
  | 0 => h0
  | j + 1 => if S j then app (Us j) (hp Us h0 S j) else hp Us h0 S j
def tp (ops : Array Oper) (V : Nat → AV) (t0 : Tmps) (S : Nat → Bool) : Nat → Tmps
  | 0 => t0
  | j + 1 => if S j then put (tp ops V t0 S j) ((ops[j]?).bind (·.dst)) (V j) else tp ops V t0 S j

variable {Us : Nat → List (Nat × Option Row)} {h0 : Heap} {S S' : Nat → Bool} {ops : Array Oper} {V : Nat → AV} {t0 : Tmps}

theorem hp_congr {x : Nat} : ∀ {k : Nat}, (∀ j, j < k → S j ≠ S' j → ¬ touch (Us j) x) → hp Us h0 S k x = hp Us h0 S' k x
  | 0, _ => rfl
  | k + 1, h => by
    have ih := hp_congr (k := k) (fun j hj => h j (by omega))
    simp only [hp]
    by_cases hs : S k = S' k
    · rw [hs]
      split
      · exact app_at ih
      · exact ih
    · have hn := h k (Nat.lt_succ_self k) hs
      split <;> split <;> first | rw [app_untouched _ hn, app_untouched _ hn, ih] | rw [app_untouched _ hn, ih] | exact ih
theorem hp_tail {x k : Nat} : ∀ {m : Nat}, k ≤ m → (∀ j, k ≤ j → j < m → S j = true → ¬ touch (Us j) x) → hp Us h0 S m x = hp Us h0 S k x
  | 0, hk, _ => by have : k = 0 := by omega
                   subst this; rfl
  | m + 1, hk, h => by
    by_cases hkm : k = m + 1
    · subst hkm; rfl
    · have ih := hp_tail (m := m) (by omega) (fun j h1 h2 => h j h1 (by omega))
      simp only [hp]
      split
      · rename_i hs
        rw [app_untouched _ (h m (by omega) (by omega) hs), ih]
      · exact ih

theorem put_other {t : Tmps} {d : Option Tmp} {v : AV} {x : Nat} (h : d ≠ some x) : put t d v x = t x := by
  cases d with
  | none => rfl
  | some d => simp only [put]; rw [if_neg]; exact fun e => h (by rw [e])
theorem put_eq {t : Tmps} {d : Option Tmp} {v : AV} {x : Nat} (h : d = some x) : put t d v x = v := by subst h; simp [put]

theorem tp_congr {x : Nat} : ∀ {k : Nat}, (∀ j, j < k → S j ≠ S' j → (ops[j]?).bind (·.dst) ≠ some x) → tp ops V t0 S k x = tp ops V t0 S' k x
  | 0, _ => rfl
  | k + 1, h => by
    have ih := tp_congr (k := k) (fun j hj => h j (by omega))
    simp only [tp]
    by_cases hs : S k = S' k
    · rw [hs]
      split
      · by_cases hd : (ops[k]?).bind (·.dst) = some x
        · rw [put_eq hd, put_eq hd]
        · rw [put_other hd, put_other hd, ih]
      · exact ih
    · have hn := h k (Nat.lt_succ_self k) hs
      split <;> split <;> first | rw [put_other hn, put_other hn, ih] | rw [put_other hn, ih] | exact ih
theorem tp_tail {x k : Nat} : ∀ {m : Nat}, k ≤ m → (∀ j, k ≤ j → j < m → S j = true → (ops[j]?).bind (·.dst) ≠ some x) → tp ops V t0 S m x = tp ops V t0 S k x
  | 0, hk, _ => by have : k = 0 := by omega
                   subst this; rfl
  | m + 1, hk, h => by
    by_cases hkm : k = m + 1
    · subst hkm; rfl
    · have ih := tp_tail (m := m) (by omega) (fun j h1 h2 => h j h1 (by omega))
      simp only [tp]
      split
      · rename_i hs
        rw [put_other (h m (by omega) (by omega) hs), ih]
      · exact ih

/-! ### the order that binds -/
def pre (B : List Nat) (i j : Nat) : Bool := (B.getD i 0).testBit j

/-- The table is the region's; what names one temporary is in order; what writes is in order with all that looks at the heap. -/
def drawChk (P : Program) (ops : Array Oper) (B W : List Nat) : Bool :=
  let m := ops.size
  let at_ := fun i => ops.getD i default
  let R := List.range m
  (R.all fun i => decide (B.getD i 0 < 2 ^ i)) &&
  (R.all fun i => (at_ i).after.all fun e => !Region.binds .any e || pre B i e.on) &&
  (R.all fun i => R.all fun j => !pre B i j || (B.getD i 0 ||| B.getD j 0) == B.getD i 0) &&
  (R.all fun i => R.all fun j => i == j || pre B i j || pre B j i || (match (at_ j).dst with | some d => !((at_ i).looksAt ops).contains d && !((at_ i).dst == some d) | none => true)) &&
  (R.all fun i => R.all fun j => i == j || !W.contains j || isVal P (at_ i).op || pre B i j || pre B j i) &&
  (R.all fun i => R.all fun j => !pre B i j || ((at_ i).after.any fun e => Region.binds .any e && (e.on == j || pre B e.on j)))

structure DrawOk (P : Program) (ops : Array Oper) (B W : List Nat) : Prop where
  back : ∀ i j, i < ops.size → pre B i j = true → j < i
  edge : ∀ i o, ops[i]? = some o → ∀ e ∈ o.after, Region.binds .any e = true → pre B i e.on = true
  trans : ∀ i j l, i < ops.size → j < ops.size → pre B i j = true → pre B j l = true → pre B i l = true
  tmp : ∀ i j oi oj d, ops[i]? = some oi → ops[j]? = some oj → i ≠ j → oj.dst = some d → (d ∈ oi.looksAt ops ∨ oi.dst = some d) → pre B i j = true ∨ pre B j i = true
  wr : ∀ i j oi, ops[i]? = some oi → j < ops.size → i ≠ j → j ∈ W → isVal P oi.op = false → pre B i j = true ∨ pre B j i = true
  gen : ∀ i j o, ops[i]? = some o → pre B i j = true → ∃ e ∈ o.after, Region.binds .any e = true ∧ (e.on = j ∨ pre B e.on j = true)

theorem drawChk_ok {B W : List Nat} (h : drawChk P ops B W = true) : DrawOk P ops B W := by
  simp only [drawChk, Bool.and_eq_true, List.all_eq_true, List.mem_range] at h
  obtain ⟨⟨⟨⟨⟨h1, h2⟩, h3⟩, h4⟩, h5⟩, h7⟩ := h
  have hat : ∀ i o, ops[i]? = some o → i < ops.size ∧ ops.getD i default = o := fun i o ho => by
    obtain ⟨hlt, he⟩ := Array.getElem?_eq_some_iff.1 ho
    exact ⟨hlt, by simp [Array.getD, hlt, he]⟩
  have back : ∀ i j, i < ops.size → pre B i j = true → j < i := fun i j hi hp => by
    rcases Nat.lt_or_ge j i with h' | h'
    · exact h'
    · have hlt := of_decide_eq_true (h1 i hi)
      have : (B.getD i 0).testBit j = false := Nat.testBit_lt_two_pow (Nat.lt_of_lt_of_le hlt (Nat.pow_le_pow_right (by decide) h'))
      rw [pre, this] at hp; cases hp
  refine ⟨back, fun i o ho e he hb => ?_, fun i j l hi hj hij hjl => ?_, fun i j oi oj d hoi hoj hne hd hl => ?_, fun i j oi hoi hj hne hw hv => ?_, fun i j o ho hp => ?_⟩
  · obtain ⟨hlt, hd⟩ := hat i o ho
    have := h2 i hlt
    rw [hd, Array.all_eq_true_iff_forall_mem] at this
    have := this e he
    simpa [hb] using this
  · have := h3 i hi j hj
    simp only [hij, Bool.not_true, Bool.false_or, beq_iff_eq] at this
    have hb : ((B.getD i 0) ||| (B.getD j 0)).testBit l = true := by
      rw [Nat.testBit_or]
      have : (B.getD j 0).testBit l = true := hjl
      rw [this]; simp
    rw [this] at hb
    exact hb
  · obtain ⟨hi, hdi⟩ := hat i oi hoi
    obtain ⟨hj, hdj⟩ := hat j oj hoj
    have := h4 i hi j hj
    rw [hdi, hdj, hd] at this
    simp only [Bool.or_eq_true, beq_iff_eq, Bool.and_eq_true, Bool.not_eq_true'] at this
    rcases this with ((h6 | h6) | h6) | h6
    · exact absurd h6 hne
    · exact .inl h6
    · exact .inr h6
    · rcases hl with hl | hl
      · have := h6.1
        rw [List.contains_eq_mem] at this
        simp [hl] at this
      · have := h6.2
        rw [hl] at this
        simp at this
  · obtain ⟨hi, hdi⟩ := hat i oi hoi
    have := h5 i hi j hj
    rw [hdi] at this
    simp only [Bool.or_eq_true, beq_iff_eq, Bool.not_eq_true', hv, Bool.false_eq_true, or_false] at this
    rcases this with ((h6 | h6) | h6) | h6
    · exact absurd h6 hne
    · rw [List.contains_eq_mem] at h6
      simp [hw] at h6
    · exact .inl h6
    · exact .inr h6
  · obtain ⟨hlt, hd⟩ := hat i o ho
    have := h7 i hlt j (Nat.lt_trans (back i j hlt hp) hlt)
    rw [hd] at this
    rw [hp, Bool.not_true, Bool.false_or, ← Array.any_toList, List.any_eq_true] at this
    obtain ⟨e, he, hb⟩ := this
    simp only [Bool.and_eq_true, Bool.or_eq_true, beq_iff_eq] at hb
    exact ⟨e, Array.mem_toList_iff.1 he, hb.1, hb.2⟩

end Go.Av
