/- Regions whose order is drawn, part 4: how a plan is made. The rules for code. Regions whose order is drawn, part 5: a plan is made step by step. The rules for code. A function's body, and what is told of it: rows are numbered anew, what is not named is let go. What comes in from outside: arguments of plain types, told as read-only memory. -/
import Derived.Test.YtmkefpjpghmonaaGreatAvC
import Derived.Deep.Slices
import Derived.WideShapes
import Derived.OpenShut
import Derived.Carry

section
namespace Go.Av

variable {P : Program} {N : Nat} {n n' : Nat} {h h0 : Heap} {t : Tmps} {v : AV} {us : List (Nat × Option Row)} {ops : Array Oper} {B W : List Nat}

theorem nodup_le : ∀ (m : Nat) (X : List Nat), X.Nodup → (∀ j ∈ X, j < m) → X.length ≤ m
  | 0, X, _, h => by cases X with | nil => exact Nat.le_refl _ | cons x X => have := h x (by simp); omega
  | m + 1, X, hn, h => by
    by_cases hm : m ∈ X
    · have h1 := nodup_le m (X.erase m) (hn.erase m) (fun j hj => by
        have := (hn.mem_erase_iff).1 hj
        have := h j this.2
        omega)
      rw [List.length_erase_of_mem hm] at h1
      omega
    · have := nodup_le m X hn (fun j hj => by
        have h1 := h j hj
        have : j ≠ m := fun e => hm (e ▸ hj)
        omega)
      omega

theorem plan_any {t0 : Tmps} {p : Plan} {U : Nat → Prop} {ρ0 : Nat → Nat} {Ro0 : Nat → Prop} {w0 : World} (hd : DrawOk P ops B W)
    (hp_ : ∀ j, j < ops.size → PlanAt P N ops B W h0 (tp ops p.V t0 (fun _ => true) j) p j) (hU : ∀ x, U x → x < p.ns 0) (hh0 : ∀ x r, h0 x = some r → x < p.ns 0) (Q : Exit → Act → World → Prop)
    (hQ : ∀ S a w, (∀ j, j < ops.size → S j = true) → Inv P N ops B h0 t0 p U ρ0 Ro0 w0 S a w → Q .normal a w) :
    ∀ (fuel : Nat) (listed : Array Bool) (a : Act) (w : World), listed.size = ops.size → (∀ X : List Nat, X.Nodup → (∀ j ∈ X, j < ops.size ∧ listed.getD j true = false) → X.length ≤ fuel) →
      Inv P N ops B h0 t0 p U ρ0 Ro0 w0 (fun j => listed.getD j false) a w → wpAny P .any ops Q fuel listed a w := by
  -- where nothing may come up all has come up
  have hdone : ∀ listed : Array Bool, listed.size = ops.size → Region.ready .any ops listed = [] → ∀ j, j < ops.size → listed.getD j false = true := by
    intro listed hsz hr
    have key : ∀ m j, j < m → j < ops.size → listed.getD j false = true := by
      intro m
      induction m with
      | zero => intro j hj; omega
      | succ m ih =>
        intro j hj hlt
        by_cases hjm : j < m
        · exact ih j hjm hlt
        · cases hb : listed.getD j false with
          | true => rfl
          | false =>
            have hj' : j = m := by omega
            subst hj'
            have hmem : j ∈ Region.ready .any ops listed := by
              rw [mem_ready]
              refine ⟨?_, ops[j], Array.getElem?_eq_getElem hlt, fun e he hbind => ?_⟩
              · have h1 : j < listed.size := by omega
                simp [h1] at hb ⊢
                exact hb
              · have h1 := hd.edge j _ (Array.getElem?_eq_getElem hlt) e he hbind
                have h2 := hd.back j e.on hlt h1
                exact ih e.on h2 (by omega)
            rw [hr] at hmem
            cases hmem
    exact fun j hj => key (j + 1) j (Nat.lt_succ_self j) hj
  intro fuel
  induction fuel with
  | zero =>
    intro listed a w hsz hX inv
    have hall : ∀ j, j < ops.size → listed.getD j false = true := fun j hj => by
      cases hb : listed.getD j false with
      | true => rfl
      | false =>
        have h1 : j < listed.size := by omega
        have := hX [j] (by simp) (fun k hk => by
          simp at hk; subst hk
          refine ⟨hj, ?_⟩
          simp [h1] at hb ⊢
          exact hb)
        simp at this
    refine ⟨?_, hQ _ a w hall inv⟩
    cases hr : Region.ready .any ops listed with
    | nil => rfl
    | cons i l =>
      have hi : i ∈ Region.ready .any ops listed := by rw [hr]; simp
      obtain ⟨h1, o, ho, _⟩ := mem_ready.1 hi
      have hlt := (Array.getElem?_eq_some_iff.1 ho).1
      have h2 := hall i hlt
      have h3 : i < listed.size := by omega
      simp [h3] at h1 h2
      rw [h1] at h2; cases h2
  | succ fuel ih =>
    intro listed a w hsz hX inv
    refine ⟨fun hr => hQ _ a w (hdone listed hsz hr) inv, fun i hi => ?_⟩
    obtain ⟨h1, o, ho, hedge⟩ := mem_ready.1 hi
    have hlt := (Array.getElem?_eq_some_iff.1 ho).1
    have hil : i < listed.size := by omega
    have hSi : listed.getD i false = false := by simp [hil] at h1 ⊢; exact h1
    -- all that binds has come up
    have hpre : ∀ j, pre B i j = true → listed.getD j false = true := fun j hb => by
      obtain ⟨e, he, hbind, hcase⟩ := hd.gen i j o ho hb
      have h4 : listed.getD e.on false = true := by
        have h5 := hedge e he hbind
        have h6 := hd.back i e.on hlt (hd.edge i o ho e he hbind)
        have h7 : e.on < listed.size := by omega
        simp [h7] at h5 ⊢
        exact h5
      rcases hcase with rfl | hb'
      · exact h4
      · exact inv.down e.on j (by have := hd.back i e.on hlt (hd.edge i o ho e he hbind); omega) h4 hb'
    unfold wpOp
    rw [ho]
    simp only
    refine plan_step hd hp_ hU hh0 inv ho hSi hpre _ Q (fun a' w' inv' => ?_)
    refine ih _ a' w' (by simpa using hsz) (fun X hXn hXm => ?_) ?_
    · have := hX (i :: X) (by
        refine List.nodup_cons.2 ⟨fun hm => ?_, hXn⟩
        have := (hXm i hm).2
        simp [hil] at this) (fun j hj => by
        rcases List.mem_cons.1 hj with rfl | hj
        · exact ⟨hlt, h1⟩
        · obtain ⟨g1, g2⟩ := hXm j hj
          refine ⟨g1, ?_⟩
          by_cases hji : j = i
          · subst hji; exact h1
          · rwa [getD_set_ne _ (Ne.symm hji)] at g2)
      simp at this
      omega
    · have : (fun j => (listed.setIfInBounds i true).getD j false) = addS (fun j => listed.getD j false) i := by
        funext j
        simp only [addS]
        by_cases hji : j = i
        · subst hji; simp [hil]
        · rw [if_neg hji, getD_set_ne _ (Ne.symm hji)]
      rw [this]
      exact inv'

end Go.Av
end

section
namespace Go.Av

variable {P : Program} {N : Nat} {n n' : Nat} {h h0 : Heap} {t : Tmps} {v : AV} {us : List (Nat × Option Row)} {ops : Array Oper} {B W : List Nat} {o : Oper}

/-! ### what an operation comes to hangs on what it looks at -/
theorem wantedA_congr {t' : Tmps} (hx : ∀ k ∈ o.looksAt ops, t' k = t k) : wantedA ops t' o = wantedA ops t o := by
  unfold wantedA
  cases hg : o.guard with
  | none => rfl
  | some g =>
    obtain ⟨j, want⟩ := g
    simp only
    cases hd : (ops[j]?).bind (·.dst) with
    | none => rfl
    | some d =>
      simp only
      rw [hx d (by simp only [Oper.looksAt, hg, hd, List.mem_append]; exact .inr (by simp))]
theorem aev_looks {t' : Tmps} (hx : ∀ k ∈ o.looksAt ops, t' k = t k) : ∀ x ∈ o.op.operands.toList, aev t' x = aev t x := by
  intro x hm
  cases x with
  | tmp k => exact hx k (by simp only [Oper.looksAt, List.mem_append, List.mem_filterMap]; exact .inl ⟨.tmp k, hm, rfl⟩)
  | _ => rfl

theorem SoundL.eff (hw : wantedA ops t o = some true) (ho : opOk o.op = true) (hv : aeff P o.op t h n = some (v, us, n')) : SoundL (fun t => SoundW P ops o t h n v us n') ops o t := fun t' ht =>
  .eff (by rw [wantedA_congr ht]; exact hw) ho (by rw [aeff_congr (aev_looks ht)]; exact hv)
theorem SoundL.skip (hw : wantedA ops t o = some false) : SoundL (fun t => SoundW P ops o t h n (.tup []) [] n) ops o t := fun t' ht =>
  .skip (by rw [wantedA_congr ht]; exact hw)
theorem SoundL.pcall (hw : wantedA ops t o = some true) (ho : opOk o.op = true) {f : Operand} {args : Array Operand} {Ts : Array TypeId} (hop : o.op = .call { callee := .value f, args := args, argTypes := Ts })
    {g : FuncId} {first cap : List AV} (hf : aev t f = .fn (.func g) first cap) (hc : ∀ m, DCalls P g (first ++ args.toList.map (aev t) ++ cap) h m v [] m) : SoundL (fun t => SoundW P ops o t h n v [] n) ops o t := fun t' ht => by
  have hx := aev_looks ht
  rw [hop] at hx
  refine .pcall (first := first) (cap := cap) (g := g) (by rw [wantedA_congr ht]; exact hw) ho hop (by rw [hx f (by simp [Op.operands, Call.operands])]; exact hf) ?_
  rw [List.map_congr_left (fun x hm => hx x (by simp [Op.operands, Call.operands]; exact .inr (by simpa using hm)))]
  exact hc
theorem SoundL.ecall (hw : wantedA ops t o = some true) (ho : opOk o.op = true) {f : Operand} {args : Array Operand} {Ts : Array TypeId} (hop : o.op = .call { callee := .value f, args := args, argTypes := Ts })
    {g : FuncId} {first cap : List AV} (hf : aev t f = .fn (.func g) first cap) (hc : XCalls P g (first ++ args.toList.map (aev t) ++ cap) v) : SoundL (fun t => SoundW P ops o t h n v [] n) ops o t := fun t' ht => by
  have hx := aev_looks ht
  rw [hop] at hx
  refine .ecall (first := first) (cap := cap) (g := g) (by rw [wantedA_congr ht]; exact hw) ho hop (by rw [hx f (by simp [Op.operands, Call.operands])]; exact hf) ?_
  rw [List.map_congr_left (fun x hm => hx x (by simp [Op.operands, Call.operands]; exact .inr (by simpa using hm)))]
  exact hc
theorem SoundL.fcall (hw : wantedA ops t o = some true) (ho : opOk o.op = true) {f : Operand} {args : Array Operand} {Ts : Array TypeId} (hop : o.op = .call { callee := .value f, args := args, argTypes := Ts })
    {g : FuncId} {first cap : List AV} (hf : aev t f = .fn (.func g) first cap) {sz len : Nat} {cs : List AV} (hfree : freeAll cs = true)
    (hc : ∀ m, DCalls P g (first ++ args.toList.map (aev t) ++ cap) h m (.sl sz m 0 len) [(m, some (.cells cs))] (m + 1)) : SoundL (fun t => SoundW P ops o t h n (.sl sz n 0 len) [(n, some (.cells cs))] (n + 1)) ops o t := fun t' ht => by
  have hx := aev_looks ht
  rw [hop] at hx
  refine .fcall (first := first) (cap := cap) (g := g) (by rw [wantedA_congr ht]; exact hw) ho hop (by rw [hx f (by simp [Op.operands, Call.operands])]; exact hf) hfree ?_
  rw [List.map_congr_left (fun x hm => hx x (by simp [Op.operands, Call.operands]; exact .inr (by simpa using hm)))]
  exact hc
theorem SoundLO.eff (hw : wantedA ops t o = some true) (ho : opOk o.op = true) (hv : aeff P o.op t h n = some (v, us, n')) : SoundL (fun t => SoundO P ops o t h n v us n') ops o t := fun t' ht =>
  .eff (by rw [wantedA_congr ht]; exact hw) ho (by rw [aeff_congr (aev_looks ht)]; exact hv)
theorem SoundLO.call (hw : wantedA ops t o = some true) (ho : opOk o.op = true) {f : Operand} {args : Array Operand} {Ts : Array TypeId} (hop : o.op = .call { callee := .value f, args := args, argTypes := Ts })
    {g : FuncId} {first cap : List AV} (hf : aev t f = .fn (.func g) first cap) (hc : DCalls P g (first ++ args.toList.map (aev t) ++ cap) h n v us n') : SoundL (fun t => SoundO P ops o t h n v us n') ops o t := fun t' ht => by
  have hx := aev_looks ht
  rw [hop] at hx
  refine .call (first := first) (cap := cap) (g := g) (by rw [wantedA_congr ht]; exact hw) ho hop (by rw [hx f (by simp [Op.operands, Call.operands])]; exact hf) ?_
  rw [List.map_congr_left (fun x hm => hx x (by simp [Op.operands, Call.operands]; exact .inr (by simpa using hm)))]
  exact hc

/-! ### what writes so far, latest first -/
def hpL (h0 : Heap) (S : Nat → Bool) : List (Nat × List (Nat × Option Row)) → Heap
  | [] => h0
  | (j, us) :: r => if S j then app us (hpL h0 S r) else hpL h0 S r
def lookU : List (Nat × List (Nat × Option Row)) → Nat → List (Nat × Option Row)
  | [], _ => []
  | (j, us) :: r, i => if i = j then us else lookU r i
def sortU : Nat → List (Nat × List (Nat × Option Row)) → Prop
  | _, [] => True
  | k, (j, _) :: r => j < k ∧ sortU j r

theorem lookU_ge : ∀ {r : List (Nat × List (Nat × Option Row))} {k i : Nat}, sortU k r → k ≤ i → lookU r i = []
  | [], _, _, _, _ => rfl
  | (j, us) :: r, k, i, hs, hi => by
    simp only [sortU] at hs
    simp only [lookU]
    rw [if_neg (by omega)]
    exact lookU_ge hs.2 (by omega)
theorem hp_eq {S : Nat → Bool} : ∀ {k : Nat} {Us Us' : Nat → List (Nat × Option Row)}, (∀ j, j < k → Us j = Us' j) → hp Us h0 S k = hp Us' h0 S k
  | 0, _, _, _ => rfl
  | k + 1, Us, Us', h => by
    simp only [hp]
    rw [hp_eq (k := k) (fun j hj => h j (by omega)), h k (by omega)]
theorem hp_look {S : Nat → Bool} : ∀ {k : Nat} {r : List (Nat × List (Nat × Option Row))}, sortU k r → hp (lookU r) h0 S k = hpL h0 S r
  | 0, [], _ => rfl
  | 0, (j, us) :: r, hs => by simp only [sortU] at hs; omega
  | k + 1, r, hs => by
    simp only [hp]
    by_cases hk : sortU k r
    · rw [hp_look hk, lookU_ge hk (Nat.le_refl _)]
      simp [app]
    · cases r with
      | nil => exact absurd trivial hk
      | cons e r =>
        obtain ⟨j, us⟩ := e
        simp only [sortU] at hs hk
        have hj : j = k := by
          have : ¬ j < k := fun h' => hk ⟨h', hs.2⟩
          omega
        subst hj
        have h1 : hp (lookU ((j, us) :: r)) h0 S j = hpL h0 S r := by
          rw [← hp_look hs.2]
          exact hp_eq (fun i hi => by simp only [lookU]; rw [if_neg (by omega)])
        rw [h1]
        simp [lookU, hpL]

inductive DW (P : Program) (N : Nat) (ops : Array Oper) (B W : List Nat) (h0 : Heap) (Q : Tmps → Heap → Nat → Prop) : Nat → Tmps → List (Nat × List (Nat × Option Row)) → Nat → Prop
  | end_ {k t r n} : ops[k]? = none → Q t (hpL h0 (fun _ => true) r) n → DW P N ops B W h0 Q k t r n
  | val {k t r n o v} : ops[k]? = some o → dstOk N o = true → isV P W k o.op = true → SoundL (fun t => SoundW P ops o t noHeap n v [] n) ops o t → DW P N ops B W h0 Q (k + 1) (put t o.dst v) r n → DW P N ops B W h0 Q k t r n
  | read {k t r n o v} : ops[k]? = some o → dstOk N o = true → isV P W k o.op = false → SoundL (fun t => SoundW P ops o t (hpL h0 (pre B k) r) n v [] n) ops o t → DW P N ops B W h0 Q (k + 1) (put t o.dst v) r n → DW P N ops B W h0 Q k t r n
  | quiet {k t r n o v us n'} : ops[k]? = some o → dstOk N o = true → isV P W k o.op = false → n ≤ n' → (∀ u ∈ us, n ≤ u.1 ∧ u.1 < n') → SoundL (fun t => SoundW P ops o t (hpL h0 (pre B k) r) n v us n') ops o t → DW P N ops B W h0 Q (k + 1) (put t o.dst v) ((k, us) :: r) n' → DW P N ops B W h0 Q k t r n
  | wide {k t r n o v us n'} : ops[k]? = some o → dstOk N o = true → isV P W k o.op = false → k ∈ W → n ≤ n' → (∀ u ∈ us, u.1 < n') → SoundL (fun t => SoundO P ops o t (hpL h0 (pre B k) r) n v us n') ops o t → DW P N ops B W h0 Q (k + 1) (put t o.dst v) ((k, us) :: r) n' → DW P N ops B W h0 Q k t r n

theorem tp_eq {S : Nat → Bool} {t0 : Tmps} : ∀ {k : Nat} {V V' : Nat → AV}, (∀ j, j < k → V j = V' j) → tp ops V t0 S k = tp ops V' t0 S k
  | 0, _, _, _ => rfl
  | k + 1, V, V', h => by
    simp only [tp]
    rw [tp_eq (k := k) (fun j hj => h j (by omega)), h k (by omega)]

theorem planAt_congr {p p' : Plan} {j : Nat} (h1 : p.V j = p'.V j) (h2 : ∀ i, i ≤ j → p.Us i = p'.Us i) (h3 : p.ns j = p'.ns j) (h4 : p.ns (j + 1) = p'.ns (j + 1)) (h : PlanAt P N ops B W h0 t p j) : PlanAt P N ops B W h0 t p' j := by
  obtain ⟨o, g1, g2, g3, g4⟩ := h.op
  have h5 : hp p.Us h0 (pre B j) j = hp p'.Us h0 (pre B j) j := hp_eq (fun i hi => h2 i (by omega))
  refine ⟨o, g1, g2, ?_, ?_⟩
  · rw [← h3, ← h4]; exact g3
  · rw [h1, h2 j (Nat.le_refl _), h3, h4, h5] at g4
    exact g4

theorem DW.plan {t0 : Tmps} {Q : Tmps → Heap → Nat → Prop} {k : Nat} {r : List (Nat × List (Nat × Option Row))} (hd : DW P N ops B W h0 Q k t r n) : ∀ (p0 : Plan), k ≤ ops.size → p0.ns k = n → tp ops p0.V t0 (fun _ => true) k = t → (∀ j, j < k → p0.Us j = lookU r j) → sortU k r →
    (∀ j, j < k → PlanAt P N ops B W h0 (tp ops p0.V t0 (fun _ => true) j) p0 j) →
    ∃ p : Plan, p.ns 0 = p0.ns 0 ∧ (∀ j, j < ops.size → PlanAt P N ops B W h0 (tp ops p.V t0 (fun _ => true) j) p j) ∧ Q (tp ops p.V t0 (fun _ => true) ops.size) (hp p.Us h0 (fun _ => true) ops.size) (p.ns ops.size) := by
  -- one step
  have key : ∀ {k : Nat} {t : Tmps} {r r' : List (Nat × List (Nat × Option Row))} {n n' : Nat} {o : Oper} {v : AV} {us : List (Nat × Option Row)} (p0 : Plan), ops[k]? = some o → p0.ns k = n → tp ops p0.V t0 (fun _ => true) k = t → (∀ j, j < k → p0.Us j = lookU r j) → sortU k r →
      (∀ j, j < k → PlanAt P N ops B W h0 (tp ops p0.V t0 (fun _ => true) j) p0 j) → (∀ j, j < k → lookU r' j = lookU r j) → lookU r' k = us → sortU (k + 1) r' →
      (∀ p : Plan, p.V k = v → p.Us k = us → p.ns k = n → p.ns (k + 1) = n' → hp p.Us h0 (pre B k) k = hpL h0 (pre B k) r → PlanAt P N ops B W h0 t p k) →
      (∀ (p0 : Plan), k + 1 ≤ ops.size → p0.ns (k + 1) = n' → tp ops p0.V t0 (fun _ => true) (k + 1) = put t o.dst v → (∀ j, j < k + 1 → p0.Us j = lookU r' j) → sortU (k + 1) r' → (∀ j, j < k + 1 → PlanAt P N ops B W h0 (tp ops p0.V t0 (fun _ => true) j) p0 j) →
        ∃ p : Plan, p.ns 0 = p0.ns 0 ∧ (∀ j, j < ops.size → PlanAt P N ops B W h0 (tp ops p.V t0 (fun _ => true) j) p j) ∧ Q (tp ops p.V t0 (fun _ => true) ops.size) (hp p.Us h0 (fun _ => true) ops.size) (p.ns ops.size)) →
      ∃ p : Plan, p.ns 0 = p0.ns 0 ∧ (∀ j, j < ops.size → PlanAt P N ops B W h0 (tp ops p.V t0 (fun _ => true) j) p j) ∧ Q (tp ops p.V t0 (fun _ => true) ops.size) (hp p.Us h0 (fun _ => true) ops.size) (p.ns ops.size) := by
    intro k t r r' n n' o v us p0 hk hn ht hU hs hP hr1 hr2 hr3 hat ih
    let p1 : Plan := ⟨fun j => if j = k then v else p0.V j, fun j => if j = k then us else p0.Us j, fun j => if j = k + 1 then n' else p0.ns j⟩
    have hlt := (Array.getElem?_eq_some_iff.1 hk).1
    have hV : ∀ j, j < k → p1.V j = p0.V j := fun j hj => by simp only [p1]; rw [if_neg (by omega)]
    have hUs : ∀ j, j < k → p1.Us j = p0.Us j := fun j hj => by simp only [p1]; rw [if_neg (by omega)]
    have hns : ∀ j, j ≤ k → p1.ns j = p0.ns j := fun j hj => by simp only [p1]; rw [if_neg (by omega)]
    have htp : ∀ j, j ≤ k → tp ops p1.V t0 (fun _ => true) j = tp ops p0.V t0 (fun _ => true) j := fun j hj => tp_eq (fun i hi => hV i (by omega))
    have hvk : p1.V k = v := by simp [p1]
    have huk : p1.Us k = us := by simp [p1]
    obtain ⟨p, g1, g2, g3⟩ := ih p1 hlt (by simp [p1]) (by simp only [tp, if_true]; rw [htp k (Nat.le_refl _), ht, hk, hvk]; rfl) (fun j hj => by
        by_cases hjk : j = k
        · subst hjk; rw [huk, hr2]
        · rw [hUs j (by omega), hU j (by omega), hr1 j (by omega)]) hr3 (fun j hj => by
        by_cases hjk : j = k
        · subst hjk
          rw [htp j (Nat.le_refl _), ht]
          refine hat p1 hvk huk (by rw [hns j (Nat.le_refl _), hn]) (by simp [p1]) ?_
          rw [← hp_look hs]
          exact hp_eq (fun i hi => by rw [hUs i hi, hU i hi])
        · rw [htp j (by omega)]
          exact planAt_congr (hV j (by omega)).symm (fun i hi => (hUs i (by omega)).symm) (hns j (by omega)).symm (hns (j + 1) (by omega)).symm (hP j (by omega)))
    exact ⟨p, by rw [g1, hns 0 (Nat.zero_le _)], g2, g3⟩
  induction hd with
  | @end_ k t r n hk hq =>
    intro p0 hle hn ht hU hs hP
    have : k = ops.size := by have := Array.getElem?_eq_none_iff.1 hk; omega
    subst this
    refine ⟨p0, rfl, hP, ?_⟩
    rw [ht, hn, show hp p0.Us h0 (fun _ => true) ops.size = hpL h0 (fun _ => true) r from by rw [← hp_look hs]; exact hp_eq hU]
    exact hq
  | @val k t r n o v hk hd hv hs _ ih =>
    intro p0 hle hn ht hU hso hP
    refine key (r' := r) (us := []) p0 hk hn ht hU hso hP (fun _ _ => rfl) (lookU_ge hso (Nat.le_refl _)) ?_ (fun p e1 e2 e3 e4 e5 => ?_) ih
    · cases r with
      | nil => trivial
      | cons e r => obtain ⟨j, us⟩ := e; simp only [sortU] at hso ⊢; exact ⟨by omega, hso.2⟩
    · refine ⟨o, hk, hd, by omega, .inl ⟨hv, e2, by omega, ?_⟩⟩
      rw [e1, e3]; exact hs
  | @read k t r n o v hk hd hv hs _ ih =>
    intro p0 hle hn ht hU hso hP
    refine key (r' := r) (us := []) p0 hk hn ht hU hso hP (fun _ _ => rfl) (lookU_ge hso (Nat.le_refl _)) ?_ (fun p e1 e2 e3 e4 e5 => ?_) ih
    · cases r with
      | nil => trivial
      | cons e r => obtain ⟨j, us⟩ := e; simp only [sortU] at hso ⊢; exact ⟨by omega, hso.2⟩
    · refine ⟨o, hk, hd, by omega, .inr (.inl ⟨hv, fun u hu => ?_, ?_⟩)⟩
      · rw [e2] at hu; cases hu
      · rw [e1, e2, e3, e4, e5]; exact hs
  | @quiet k t r n o v us n' hk hd hv hnn hus hs _ ih =>
    intro p0 hle hn ht hU hso hP
    refine key (r' := (k, us) :: r) (us := us) p0 hk hn ht hU hso hP (fun j hj => by simp only [lookU]; rw [if_neg (by omega)]) (by simp [lookU]) ⟨Nat.lt_succ_self _, hso⟩ (fun p e1 e2 e3 e4 e5 => ?_) ih
    refine ⟨o, hk, hd, by omega, .inr (.inl ⟨hv, fun u hu => ?_, ?_⟩)⟩
    · rw [e2] at hu; have := hus u hu; omega
    · rw [e1, e2, e3, e4, e5]; exact hs
  | @wide k t r n o v us n' hk hd hv hw hnn hus hs _ ih =>
    intro p0 hle hn ht hU hso hP
    refine key (r' := (k, us) :: r) (us := us) p0 hk hn ht hU hso hP (fun j hj => by simp only [lookU]; rw [if_neg (by omega)]) (by simp [lookU]) ⟨Nat.lt_succ_self _, hso⟩ (fun p e1 e2 e3 e4 e5 => ?_) ih
    refine ⟨o, hk, hd, by omega, .inr (.inr ⟨hv, hw, fun u hu => ?_, ?_⟩)⟩
    · rw [e2] at hu; have := hus u hu; omega
    · rw [e1, e2, e3, e4, e5]; exact hs

end Go.Av
end

section
namespace Go.Av

variable {P : Program} {N : Nat} {n n' : Nat} {h h0 : Heap} {t : Tmps} {v : AV} {us : List (Nat × Option Row)} {ops : Array Oper} {B W : List Nat} {o : Oper} {Q Q' : Exit → Tmps → Heap → Nat → Prop} {c d : Code}

/-- From a state that is so, the code ends so. -/
def AWp (P : Program) (N : Nat) (c : Code) (t : Tmps) (h : Heap) (n : Nat) (Q : Exit → Tmps → Heap → Nat → Prop) : Prop :=
  ∀ U ρ Ro w a, St N U n ρ Ro h w t a → Code.wp P c (Post N U ρ Ro h w n Q) a w

theorem Post.here {U : Nat → Prop} {ρ : Nat → Nat} {Ro : Nat → Prop} {w : World} {a : Act} {e : Exit} (hst : St N U n ρ Ro h w t a) (hq : Q e t h n) : Post N U ρ Ro h w n Q e a w :=
  ⟨t, h, n, ρ, Ro, Nat.le_refl _, by rw [ext_self]; exact hst, by rw [ext_self]; exact Ext.refl .., hq⟩
theorem Post.mono {U : Nat → Prop} {ρ : Nat → Nat} {Ro : Nat → Prop} {w w' : World} {a : Act} {e : Exit} (hp : Post N U ρ Ro h w n Q e a w') (hq : ∀ t' h' n', Q e t' h' n' → Q' e t' h' n') : Post N U ρ Ro h w n Q' e a w' := by
  obtain ⟨t', h', n', ρ', Ro', h1, h2, h3, h4⟩ := hp
  exact ⟨t', h', n', ρ', Ro', h1, h2, h3, hq _ _ _ h4⟩
/-- Where one state follows another, what follows the second follows the first. -/
theorem Post.after {U : Nat → Prop} {ρ ρ1 : Nat → Nat} {Ro Ro1 : Nat → Prop} {w w1 w' : World} {h1 : Heap} {n1 : Nat} {a : Act} {e : Exit} (hn : n ≤ n1) (he : Ext U ρ Ro h w (ext U n n1) ρ1 Ro1 h1 w1)
    (hp : Post N (ext U n n1) ρ1 Ro1 h1 w1 n1 Q e a w') : Post N U ρ Ro h w n Q e a w' := by
  obtain ⟨t', h', n', ρ', Ro', g1, g2, g3, g4⟩ := hp
  rw [ext_ext _ hn g1] at g2 g3
  exact ⟨t', h', n', ρ', Ro', Nat.le_trans hn g1, g2, he.trans g3, g4⟩

theorem AWp.mono (hc : AWp P N c t h n Q) (hq : ∀ e t' h' n', Q e t' h' n' → Q' e t' h' n') : AWp P N c t h n Q' := fun U ρ Ro w a hst =>
  wp_mono (hc U ρ Ro w a hst) fun _ _ _ hp => hp.mono (hq _)

theorem AWp.skip (hq : Q .normal t h n) : AWp P N .skip t h n Q := fun _ _ _ _ _ hst => wp_skip (.here hst hq)
theorem AWp.ret (hq : Q .ret t h n) : AWp P N .ret t h n Q := fun _ _ _ _ _ hst => wp_ret (.here hst hq)
theorem AWp.exit {id : Nat} (hq : Q (.exit id) t h n) : AWp P N (.exit id) t h n Q := fun _ _ _ _ _ hst => wp_exit (.here hst hq)

theorem AWp.seq (hc : AWp P N c t h n (thenQ (fun t' h' n' => AWp P N d t' h' n' Q) Q)) : AWp P N (.seq c d) t h n Q := fun U ρ Ro w a hst => by
  refine wp_seq (wp_mono (hc U ρ Ro w a hst) fun e a' w' hp => ?_)
  cases e with
  | normal =>
    obtain ⟨t', h', n', ρ', Ro', h1, h2, h3, h4⟩ := hp
    exact wp_mono (h4 _ _ _ _ _ h2) fun e a'' w'' hp' => hp'.after h1 h3
  | _ => exact hp.mono fun _ _ _ hq => hq

/-- A sequence, with what holds in the middle told. -/
theorem AWp.cut (K : Tmps → Heap → Nat → Prop) (hc : AWp P N c t h n (thenQ K Q)) (hd : ∀ t' h' n', n ≤ n' → K t' h' n' → AWp P N d t' h' n' Q) : AWp P N (.seq c d) t h n Q := fun U ρ Ro w a hst => by
  refine wp_seq (wp_mono (hc U ρ Ro w a hst) fun e a' w' hp => ?_)
  cases e with
  | normal =>
    obtain ⟨t', h', n', ρ', Ro', h1, h2, h3, h4⟩ := hp
    exact wp_mono (hd _ _ _ h1 h4 _ _ _ _ _ h2) fun e a'' w'' hp' => hp'.after h1 h3
  | _ => exact hp.mono fun _ _ _ hq => hq

theorem AWp.cond {x : Operand} {u : Bool} (hx : okX x = true) (hv : aev t x = .b u) (ht : u = true → AWp P N c t h n Q) (hf : u = false → AWp P N d t h n Q) : AWp P N (.cond x c d) t h n Q := fun U ρ Ro w a hst => by
  have hr := rv_ev hst.tm hx
  rw [hv] at hr
  exact wp_cond_split hr.inv_b (fun hu => ht hu U ρ Ro w a hst) (fun hu => hf hu U ρ Ro w a hst)

theorem AWp.block {id : Nat} (hc : AWp P N c t h n (inBlockQ id Q)) : AWp P N (.block id c) t h n Q := fun U ρ Ro w a hst => by
  refine wp_block (wp_mono (hc U ρ Ro w a hst) fun e a' w' hp => ?_)
  cases e with
  | exit id' =>
    simp only [Exit.inBlock]
    split
    · rename_i hid
      exact (show Post N U ρ Ro h w n Q .normal a' w' from by
        obtain ⟨t', h', n', ρ', Ro', h1, h2, h3, h4⟩ := hp
        simp only [inBlockQ, hid, if_true] at h4
        exact ⟨t', h', n', ρ', Ro', h1, h2, h3, h4⟩)
    · rename_i hid
      obtain ⟨t', h', n', ρ', Ro', h1, h2, h3, h4⟩ := hp
      simp only [inBlockQ, if_neg hid] at h4
      exact ⟨t', h', n', ρ', Ro', h1, h2, h3, h4⟩
  | _ => exact hp.mono fun _ _ _ hq => hq

/-- A loop: at most so many rounds are still to come. -/
theorem AWp.loop (I : Nat → Tmps → Heap → Nat → Prop) (m : Nat) (h0 : I m t h n)
    (round : ∀ m t' h' n', n ≤ n' → I m t' h' n' → AWp P N c t' h' n' (thenQ (fun t'' h'' n'' => ∃ m', m' < m ∧ I m' t'' h'' n'') Q)) : AWp P N (.loop c) t h n Q := fun U ρ Ro w a hst => by
  refine wp_loop_ghost (fun m a w' => Post N U ρ Ro h w n (fun _ t h n => I m t h n) .normal a w') m (.here hst h0) (fun m a' w' hp => ?_)
  obtain ⟨t', h', n', ρ', Ro', h1, h2, h3, h4⟩ := hp
  refine wp_mono (round m t' h' n' h1 h4 _ _ _ _ _ h2) fun e a'' w'' hp' => ?_
  cases e with
  | normal =>
    obtain ⟨t'', h'', n'', ρ'', Ro'', g1, g2, g3, m', g4, g5⟩ := hp'
    rw [ext_ext _ h1 g1] at g2 g3
    exact ⟨m', g4, t'', h'', n'', ρ'', Ro'', Nat.le_trans h1 g1, g2, h3.trans g3, g5⟩
  | _ => exact (hp'.mono fun _ _ _ hq => hq).after h1 h3

/-- A loop, gone through round by round: at most so many rounds. -/
def AWr (P : Program) (N : Nat) (c : Code) (Q : Exit → Tmps → Heap → Nat → Prop) : Nat → Tmps → Heap → Nat → Prop
  | 0, _, _, _ => False
  | k + 1, t, h, n => AWp P N c t h n (thenQ (AWr P N c Q k) Q)
theorem AWr.round {k : Nat} (hr : AWp P N c t h n (thenQ (AWr P N c Q k) Q)) : AWr P N c Q (k + 1) t h n := hr
theorem AWr.cut {k : Nat} (I : Tmps → Heap → Nat → Prop) (h0 : I t h n) (hk : ∀ t' h' n', I t' h' n' → AWr P N c Q k t' h' n') : AWr P N c Q k t h n := hk _ _ _ h0
theorem AWr.loop (k : Nat) (hr : AWr P N c Q k t h n) : AWp P N (.loop c) t h n Q := fun U ρ Ro w a hst => by
  have key : ∀ k a' w', Post N U ρ Ro h w n (fun _ t h n => AWr P N c Q k t h n) .normal a' w' → Code.rounds P c (Post N U ρ Ro h w n Q) k a' w' := by
    intro k
    induction k with
    | zero => rintro a' w' ⟨_, _, _, _, _, _, _, _, h4⟩; exact h4.elim
    | succ k ih =>
      rintro a' w' ⟨t', h', n', ρ', Ro', h1, h2, h3, h4⟩
      rw [rounds_succ]
      refine wp_mono (h4 _ _ _ _ _ h2) fun e a'' w'' hp' => ?_
      cases e with
      | normal => exact ih _ _ ((hp'.mono fun _ _ _ hq => hq).after h1 h3)
      | _ => exact (hp'.mono fun _ _ _ hq => hq).after h1 h3
  exact wp_loop_rounds k (key k a w (.here hst hr))

theorem AWp.region {id : Nat} (ho : opsOk N ops = true) (hr : RW P N ops 0 t h n (fun t' h' n' => Q .normal t' h' n')) : AWp P N (.region id ops false) t h n Q := fun U ρ Ro w a hst => by
  refine wp_region_list ?_
  have := hr ho U ρ Ro w a hst (Post N U ρ Ro h w n Q) (fun t' h' n' ρ' Ro' a' w' h1 h2 h3 h4 => ⟨t', h', n', ρ', Ro', h1, h2, h3, h4⟩)
  simpa using this

theorem AWp.draws {id : Nat} (B W : List Nat) (hm : P.follows .mixedOrders = true) (hd : drawChk P ops B W = true) (hr : DW P N ops B W h (fun t' h' n' => Q .normal t' h' n') 0 t [] n) : AWp P N (.region id ops true) t h n Q := fun U ρ Ro w a hst => by
  refine wp_region_any hm ?_
  obtain ⟨p, h1, h2, h3⟩ := hr.plan (t0 := t) ⟨fun _ => .tup [], fun _ => [], fun _ => n⟩ (Nat.zero_le _) rfl rfl (fun j hj => absurd hj (Nat.not_lt_zero _)) trivial (fun j hj => absurd hj (Nat.not_lt_zero _))
  have hn0 : p.ns 0 = n := h1
  have hsame : Same w { w with drawn := w.drawn + 1 } := by constructor <;> rfl
  have hns : ∀ j, j < ops.size → p.ns j ≤ p.ns (j + 1) := fun j hj => (h2 j hj).op.choose_spec.2.2.1
  have hfalse : (fun j => (Array.replicate ops.size false).getD j false) = fun _ => false := by
    funext j
    by_cases hj : j < ops.size
    · simp [hj]
    · simp [hj]
  have hu0 : used U p.ns ops.size (fun _ => false) = U := by
    funext x
    simp only [used, eq_iff_iff]
    constructor
    · rintro (h | ⟨_, _, h, _⟩)
      · exact h
      · cases h
    · exact .inl
  have hhp0 : ∀ m, hp p.Us h (fun _ => false) m = h := fun m => by
    induction m with
    | zero => rfl
    | succ m ih => simp only [hp]; simpa using ih
  have htp0 : ∀ m, tp ops p.V t (fun _ => false) m = t := fun m => by
    induction m with
    | zero => rfl
    | succ m ih => simp only [tp]; simpa using ih
  obtain ⟨hrel', hext'⟩ := hst.rel.same hsame rfl
  refine plan_any (t0 := t) (U := U) (ρ0 := ρ) (Ro0 := Ro) (w0 := w) (drawChk_ok hd) h2 (fun x hx => by rw [hn0]; exact hst.bd x hx) (fun x r hx => by rw [hn0]; exact hst.bd x (hst.rel.lt x r hx)) _ (fun S a' w' hS inv => ?_) ops.size _ a _ (by simp) (fun X hX hm => nodup_le _ X hX (fun j hj => (hm j hj).1)) ?_
  · obtain ⟨ρ', Ro', g1, g2, g3⟩ := inv.st
    have hSt : ∀ m, m ≤ ops.size → hp p.Us h S m = hp p.Us h (fun _ => true) m := fun m => by
      induction m with
      | zero => intro _; rfl
      | succ m ih => intro hm; simp only [hp]; rw [ih (by omega), hS m (by omega)]; simp
    have hTt : ∀ m, m ≤ ops.size → tp ops p.V t S m = tp ops p.V t (fun _ => true) m := fun m => by
      induction m with
      | zero => intro _; rfl
      | succ m ih => intro hm; simp only [tp]; rw [ih (by omega), hS m (by omega)]; simp
    rw [used_all hns hS, hn0, hSt _ (Nat.le_refl _)] at g1 g3
    rw [used_all hns hS, hn0, hTt _ (Nat.le_refl _)] at g2
    have hle : n ≤ p.ns ops.size := by rw [← hn0]; exact ns_mono hns (Nat.zero_le _) (Nat.le_refl _)
    exact ⟨_, _, _, ρ', Ro', hle, ⟨ext_bd hst.bd hle, g1, g2, inv.sz, inv.df⟩, g3, h3⟩
  · rw [hfalse]
    refine ⟨fun i j _ h' => Bool.noConfusion h', ⟨ρ, Ro, ?_, ?_, ?_⟩, hst.sz, hst.df⟩
    · rw [hu0, hhp0]; exact hrel'
    · rw [hu0, htp0]; exact hst.tm.mono (hext'.cx hst.rel)
    · rw [hu0, hhp0]; exact hext'

end Go.Av
end

section
namespace Go.Av

variable {P : Program} {N : Nat} {n n' : Nat} {h h0 : Heap} {t : Tmps} {v : AV} {us : List (Nat × Option Row)}

mutual
def AV.names (S : Nat → Prop) : AV → Prop
  | .p j _ | .sl _ j _ _ => S j
  | .q cs _ | .ro _ cs _ | .agg cs | .tup cs => namesAll S cs
  | .fn _ a b => namesAll S a ∧ namesAll S b
  | .ifc _ x => x.names S
  | _ => True
def namesAll (S : Nat → Prop) : List AV → Prop
  | [] => True
  | x :: xs => x.names S ∧ namesAll S xs
end
mutual
def AV.ren (σ : Nat → Nat) : AV → AV
  | .p j off => .p (σ j) off
  | .sl sz j off len => .sl sz (σ j) off len
  | .q cs off => .q (renAll σ cs) off
  | .ro z cs len => .ro z (renAll σ cs) len
  | .agg cs => .agg (renAll σ cs)
  | .tup cs => .tup (renAll σ cs)
  | .fn f a b => .fn f (renAll σ a) (renAll σ b)
  | .ifc T x => .ifc T (x.ren σ)
  | x => x
def renAll (σ : Nat → Nat) : List AV → List AV
  | [] => []
  | x :: xs => x.ren σ :: renAll σ xs
end
theorem renAll_map (σ : Nat → Nat) : ∀ cs : List AV, renAll σ cs = cs.map (AV.ren σ)
  | [] => rfl
  | x :: xs => by simp [renAll, renAll_map σ xs]
theorem namesAll_get {S : Nat → Prop} : ∀ {cs : List AV}, namesAll S cs → ∀ (k : Nat) (x : AV), cs[k]? = some x → x.names S
  | [], _, k, x, hx => by simp at hx
  | y :: cs, hf, k, x, hx => by
    simp only [namesAll] at hf
    cases k with
    | zero => simp at hx; subst hx; exact hf.1
    | succ k => exact namesAll_get hf.2 k x (by simpa using hx)
theorem AV.ren_one (σ : Nat → Nat) (x : AV) : (x.ren σ).one = x.one := by cases x <;> rfl

theorem ren_get {σ : Nat → Nat} {cs : List AV} {k : Nat} {y : AV} (h : (renAll σ cs)[k]? = some y) : ∃ x, cs[k]? = some x ∧ y = x.ren σ := by
  rw [renAll_map, List.getElem?_map] at h
  cases hx : cs[k]? with
  | none => rw [hx] at h; cases h
  | some x => rw [hx] at h; simp at h; exact ⟨x, rfl, h.symm⟩

theorem RV.ren {C D : Cx} {x : AV} {v : Value} {S : Nat → Prop} {σ : Nat → Nat} (h : RV C x v) (hS : x.names S) (hj : ∀ j, S j → C.U j → D.U (σ j) ∧ D.ρ (σ j) = C.ρ j ∧ D.Z (C.ρ j) = C.Z (C.ρ j)) (hM : ∀ a v, C.M a v → D.M a v) : RV D (x.ren σ) v := by
  induction h with
  | b x => exact .b x
  | i k m => exact .i k m
  | s x => exact .s x
  | np => exact .np
  | p j off hU =>
    obtain ⟨h1, h2, _⟩ := hj j (by simpa only [AV.names] using hS) hU
    simp only [AV.ren]
    rw [← h2]
    exact .p (σ j) off h1
  | q cs off a vs h1 hm _ ih =>
    simp only [AV.names] at hS
    simp only [AV.ren]
    refine .q _ off a vs (fun k y hy => ?_) (fun k y hy => ?_) (fun k y hy => ?_) <;> obtain ⟨x, hx, rfl⟩ := ren_get hy
    · rw [AV.ren_one]; exact h1 k x hx
    · exact hM _ _ (hm k x hx)
    · exact ih k x hx (namesAll_get hS k x hx)
  | sl sz j off len cap hU hl hc hz =>
    obtain ⟨h1, h2, h3⟩ := hj j (by simpa only [AV.names] using hS) hU
    simp only [AV.ren]
    rw [← h2]
    exact .sl sz (σ j) off len cap h1 hl hc (by rw [h2, h3]; exact hz)
  | ron => exact .ron
  | ro cs len a cap vs hl hc h1 hm _ ih =>
    simp only [AV.names] at hS
    simp only [AV.ren]
    refine .ro _ len a cap vs hl hc (fun k y hy => ?_) (fun k y hy => ?_) (fun k y hy => ?_) <;> obtain ⟨x, hx, rfl⟩ := ren_get hy
    · rw [AV.ren_one]; exact h1 k x hx
    · exact hM _ _ (hm k x hx)
    · exact ih k x hx (namesAll_get hS k x hx)
  | nf => exact .nf
  | fn f first cap vs us h1 h2 _ _ ih1 ih2 =>
    simp only [AV.names] at hS
    simp only [AV.ren]
    refine .fn f _ _ vs us (by rw [renAll_map, List.length_map]; exact h1) (by rw [renAll_map, List.length_map]; exact h2) (fun k y v hy hv => ?_) (fun k y v hy hv => ?_) <;> obtain ⟨x, hx, rfl⟩ := ren_get hy
    · exact ih1 k x v hx hv (namesAll_get hS.1 k x hx)
    · exact ih2 k x v hx hv (namesAll_get hS.2 k x hx)
  | ni => exact .ni
  | ifc T x v _ ih => exact .ifc T _ v (ih (by simpa only [AV.names] using hS))
  | agg cs vs h1 h2 _ ih =>
    simp only [AV.names] at hS
    simp only [AV.ren]
    refine .agg _ vs (by rw [renAll_map, List.length_map]; exact h1) (fun k y hy => ?_) (fun k y v hy hv => ?_) <;> obtain ⟨x, hx, rfl⟩ := ren_get hy
    · rw [AV.ren_one]; exact h2 k x hx
    · exact ih k x v hx hv (namesAll_get hS k x hx)
  | tup cs vs h1 _ ih =>
    simp only [AV.names] at hS
    simp only [AV.ren]
    refine .tup _ vs (by rw [renAll_map, List.length_map]; exact h1) (fun k y v hy hv => ?_)
    obtain ⟨x, hx, rfl⟩ := ren_get hy
    exact ih k x v hx hv (namesAll_get hS k x hx)

def Row.ren (σ : Nat → Nat) : Row → Row
  | .cells cs => .cells (renAll σ cs)
  | .iter s p => .iter s p
def Row.names (S : Nat → Prop) : Row → Prop
  | .cells cs => namesAll S cs
  | .iter .. => True

/-- Numbers anew: τ tells a new number's old one, σ an old number's new one. -/
structure Anew (n n1 n2 : Nat) (σ τ : Nat → Nat) : Prop where
  le : n ≤ n2
  lo : ∀ j, j < n → σ j = j
  hi : ∀ x, n ≤ x → x < n2 → n ≤ τ x ∧ τ x < n1 ∧ σ (τ x) = x

def kept (n n2 : Nat) (τ : Nat → Nat) (j : Nat) : Prop := j < n ∨ ∃ x, n ≤ x ∧ x < n2 ∧ τ x = j
def oldNo (n : Nat) (τ : Nat → Nat) (x : Nat) : Nat := if x < n then x else τ x

theorem Anew.turn {U : Nat → Prop} {ρ ρ1 : Nat → Nat} {Ro Ro1 : Nat → Prop} {w w1 : World} {n1 n2 : Nat} {h1 h2 : Heap} {σ τ : Nat → Nat} (hs : Anew n n1 n2 σ τ) (hU : ∀ j, U j → j < n) (_hr0 : Rel U ρ Ro h w)
    (hr : Rel (ext U n n1) ρ1 Ro1 h1 w1) (he : Ext U ρ Ro h w (ext U n n1) ρ1 Ro1 h1 w1) (hh : ∀ x r, h2 x = some r → (U x ∨ n ≤ x ∧ x < n2) ∧ ∃ r0, h1 (oldNo n τ x) = some r0 ∧ r = r0.ren σ ∧ r0.names (kept n n2 τ)) :
    Rel (ext U n n2) (fun x => ρ1 (oldNo n τ x)) Ro1 h2 w1 ∧ Ext U ρ Ro h w (ext U n n2) (fun x => ρ1 (oldNo n τ x)) Ro1 h2 w1 ∧ (∀ x v, RV (cx (ext U n n1) ρ1 Ro1 w1) x v → x.names (kept n n2 τ) → RV (cx (ext U n n2) (fun x => ρ1 (oldNo n τ x)) Ro1 w1) (x.ren σ) v) := by
  have hold : ∀ x, (U x ∨ n ≤ x ∧ x < n2) → ext U n n1 (oldNo n τ x) := fun x hx => by
    rcases hx with hx | hx
    · have := hU x hx; simp only [oldNo, if_pos this]; exact .inl hx
    · simp only [oldNo, if_neg (by omega : ¬ x < n)]
      have := hs.hi x hx.1 hx.2
      exact .inr ⟨this.1, this.2.1⟩
  have hσ : ∀ j, kept n n2 τ j → (ext U n n1) j → ext U n n2 (σ j) ∧ oldNo n τ (σ j) = j := fun j hk hj => by
    rcases hk with hk | ⟨x, h3, h4, rfl⟩
    · rw [hs.lo j hk]
      refine ⟨.inl ?_, by simp only [oldNo, if_pos hk]⟩
      rcases hj with hj | hj
      · exact hj
      · omega
    · rw [(hs.hi x h3 h4).2.2]
      exact ⟨.inr ⟨h3, h4⟩, by simp only [oldNo, if_neg (by omega : ¬ x < n)]⟩
  have hinv : ∀ x, (U x ∨ n ≤ x ∧ x < n2) → σ (oldNo n τ x) = x := fun x hx => by
    rcases hx with hx | hx
    · have := hU x hx; simp only [oldNo, if_pos this]; exact hs.lo x this
    · simp only [oldNo, if_neg (by omega : ¬ x < n)]; exact (hs.hi x hx.1 hx.2).2.2
  have hval : ∀ x v, RV (cx (ext U n n1) ρ1 Ro1 w1) x v → x.names (kept n n2 τ) → RV (cx (ext U n n2) (fun x => ρ1 (oldNo n τ x)) Ro1 w1) (x.ren σ) v := fun x v hv hn =>
    hv.ren hn (fun j hk hj => ⟨(hσ j hk hj).1, by simp only [cx]; rw [(hσ j hk hj).2], rfl⟩) (fun _ _ h => h)
  refine ⟨⟨fun j r hj => (hh j r hj).1, fun j hj => hr.bl _ (hold j hj), fun j cs hj => ?_, fun j s pos hj => ?_, fun i j ri rj hi hj e => ?_, fun j r hj => ?_, hr.rob, hr.gl⟩, ⟨fun j hj => .inl hj, fun j hj => ?_, he.ro0, he.ro1, he.os, he.tape, he.output, he.size, he.blk, he.zz, fun j r hj => ?_⟩, hval⟩
  · obtain ⟨hx, r0, g1, g2, g3⟩ := hh j _ hj
    cases r0 with
    | iter s p => simp only [Row.ren] at g2; cases g2
    | cells cs0 =>
      simp only [Row.ren, Row.cells.injEq] at g2
      subst g2
      obtain ⟨c, T, lo, hi, k0, k1, k2, k3, k4⟩ := hr.row _ cs0 g1
      refine ⟨c, T, lo, hi, k0, k1, by rw [renAll_map, List.length_map]; exact k2, fun k y hy => ?_, fun k y v hy hv => ?_⟩ <;> obtain ⟨x, hx', rfl⟩ := ren_get hy
      · rw [AV.ren_one]; exact k3 k x hx'
      · exact hval x v (k4 k x v hx' hv) (namesAll_get g3 k x hx')
  · obtain ⟨hx, r0, g1, g2, g3⟩ := hh j _ hj
    cases r0 with
    | cells cs => simp only [Row.ren] at g2; cases g2
    | iter s' p' =>
      simp only [Row.ren, Row.iter.injEq] at g2
      obtain ⟨rfl, rfl⟩ := g2
      exact hr.iter _ s pos g1
  · obtain ⟨hx, r0, g1, _⟩ := hh i _ hi
    obtain ⟨hy, r1, k1, _⟩ := hh j _ hj
    have := hr.inj _ _ _ _ g1 k1 e
    rw [← hinv i hx, ← hinv j hy, this]
  · obtain ⟨hx, r0, g1, _⟩ := hh j _ hj
    exact hr.sep _ _ g1
  · simp only [oldNo, if_pos (hU j hj)]
    exact he.rr j hj
  · obtain ⟨hx, r0, g1, _⟩ := hh j _ hj
    exact he.lv _ _ g1

/-! ### results -/
def resT (P : Program) (t : Tmps) (h : Heap) : ResultVar → Option AV
  | .tmp k => some (t k)
  | .cell k T => aload P T h (t k)
def resAll (P : Program) (t : Tmps) (h : Heap) : List ResultVar → Option (List AV)
  | [] => some []
  | r :: rs => match resT P t h r, resAll P t h rs with
    | some x, some xs => some (x :: xs)
    | _, _ => none
def resOne : List AV → AV
  | [x] => x
  | xs => .tup xs

def inTmps (xs : List AV) : Tmps := fun k => xs.getD k (.tup [])

/-- A function's body comes to this. -/
structure Out (P : Program) (fn : Func) (n : Nat) (h : Heap) (r : AV) (us : List (Nat × Option Row)) (n2 : Nat) (e : Exit) (t : Tmps) (h1 : Heap) (n1 : Nat) : Prop where
  ends : e = .normal ∨ e = .ret
  out : ∃ xs σ τ, resAll P t h1 fn.results.toList = some xs ∧ Anew n n1 n2 σ τ ∧ (resOne xs).ren σ = r ∧ (resOne xs).names (kept n n2 τ) ∧
    (∀ x r, x < n → h x = some r → ¬ touch us x → h1 x = some r) ∧
    ∀ x r, touch us x → app us noHeap x = some r → ((n ≤ x ∧ x < n2) ∨ (h x).isSome = true) ∧ ∃ r0, h1 (oldNo n τ x) = some r0 ∧ r = r0.ren σ ∧ r0.names (kept n n2 τ)

mutual
theorem AV.ren_self {σ : Nat → Nat} {S : Nat → Prop} (hσ : ∀ j, S j → σ j = j) : ∀ (x : AV), x.names S → x.ren σ = x
  | .p j off, h => by simp only [AV.names] at h; simp only [AV.ren]; rw [hσ j h]
  | .sl sz j off len, h => by simp only [AV.names] at h; simp only [AV.ren]; rw [hσ j h]
  | .q cs off, h => by simp only [AV.names] at h; simp only [AV.ren]; rw [renAll_self hσ cs h]
  | .ro z cs len, h => by simp only [AV.names] at h; simp only [AV.ren]; rw [renAll_self hσ cs h]
  | .agg cs, h => by simp only [AV.names] at h; simp only [AV.ren]; rw [renAll_self hσ cs h]
  | .tup cs, h => by simp only [AV.names] at h; simp only [AV.ren]; rw [renAll_self hσ cs h]
  | .fn f a b, h => by simp only [AV.names] at h; simp only [AV.ren]; rw [renAll_self hσ a h.1, renAll_self hσ b h.2]
  | .ifc T x, h => by simp only [AV.names] at h; simp only [AV.ren]; rw [AV.ren_self hσ x h]
  | .b _, _ | .i _ _, _ | .s _, _ | .np, _ | .nf, _ | .ni, _ => rfl
theorem renAll_self {σ : Nat → Nat} {S : Nat → Prop} (hσ : ∀ j, S j → σ j = j) : ∀ (xs : List AV), namesAll S xs → renAll σ xs = xs
  | [], _ => rfl
  | x :: xs, h => by simp only [namesAll] at h; simp only [renAll]; rw [AV.ren_self hσ x h.1, renAll_self hσ xs h.2]
end

theorem namesAll_of {S : Nat → Prop} : ∀ {cs : List AV}, (∀ (k : Nat) (x : AV), cs[k]? = some x → x.names S) → namesAll S cs
  | [], _ => trivial
  | x :: xs, h => ⟨h 0 x rfl, namesAll_of fun k y hy => h (k + 1) y (by simpa using hy)⟩

theorem RV.named {C : Cx} {x : AV} {v : Value} {S : Nat → Prop} (h : RV C x v) (hS : ∀ j, C.U j → S j) : x.names S := by
  have look : ∀ {cs : List AV} {vs : Array Value} {k : Nat} {x : AV}, vs.size = cs.length → cs[k]? = some x → ∃ v, vs[k]? = some v := fun {cs vs k x} hl hx => by
    have hlt : k < vs.size := by
      rcases Nat.lt_or_ge k cs.length with h' | h'
      · omega
      · rw [List.getElem?_eq_none h'] at hx; cases hx
    exact ⟨_, Array.getElem?_eq_getElem hlt⟩
  induction h with
  | p j off hU => exact hS j hU
  | sl sz j off len cap hU => exact hS j hU
  | q cs off a vs h1 hm _ ih => exact namesAll_of fun k x hx => ih k x hx
  | ro cs len a cap vs hl hc h1 hm _ ih => exact namesAll_of fun k x hx => ih k x hx
  | fn f first cap vs us h1 h2 _ _ ih1 ih2 =>
    refine ⟨namesAll_of fun k x hx => ?_, namesAll_of fun k x hx => ?_⟩
    · obtain ⟨v, hv⟩ := look h1 hx; exact ih1 k x v hx hv
    · obtain ⟨v, hv⟩ := look h2 hx; exact ih2 k x v hx hv
  | ifc T x v _ ih => exact ih
  | agg cs vs h1 h2 _ ih => exact namesAll_of fun k x hx => by obtain ⟨v, hv⟩ := look h1 hx; exact ih k x v hx hv
  | tup cs vs h1 _ ih => exact namesAll_of fun k x hx => by obtain ⟨v, hv⟩ := look h1 hx; exact ih k x v hx hv
  | _ => trivial

theorem Rel.named {U : Nat → Prop} {ρ : Nat → Nat} {Ro : Nat → Prop} {w : World} (hr : Rel U ρ Ro h w) {j : Nat} {r : Row} (hj : h j = some r) : r.names U := by
  cases r with
  | iter => trivial
  | cells cs =>
    obtain ⟨c, T, lo, hi, g0, g1, g2, g3, g4⟩ := hr.row j cs hj
    refine namesAll_of fun k x hx => ?_
    have hlt : k < c.size := by
      rcases Nat.lt_or_ge k cs.length with h' | h'
      · omega
      · rw [List.getElem?_eq_none h'] at hx; cases hx
    exact (g4 k x _ hx (Array.getElem?_eq_getElem hlt)).named (fun _ h => h)

mutual
theorem AV.names_mono {S T : Nat → Prop} (hST : ∀ j, S j → T j) : ∀ (x : AV), x.names S → x.names T
  | .p j off, h => by simp only [AV.names] at h ⊢; exact hST j h
  | .sl sz j off len, h => by simp only [AV.names] at h ⊢; exact hST j h
  | .q cs off, h => by simp only [AV.names] at h ⊢; exact namesAll_mono hST cs h
  | .ro z cs len, h => by simp only [AV.names] at h ⊢; exact namesAll_mono hST cs h
  | .agg cs, h => by simp only [AV.names] at h ⊢; exact namesAll_mono hST cs h
  | .tup cs, h => by simp only [AV.names] at h ⊢; exact namesAll_mono hST cs h
  | .fn f a b, h => by simp only [AV.names] at h ⊢; exact ⟨namesAll_mono hST a h.1, namesAll_mono hST b h.2⟩
  | .ifc T x, h => by simp only [AV.names] at h ⊢; exact AV.names_mono hST x h
  | .b _, _ | .i _ _, _ | .s _, _ | .np, _ | .nf, _ | .ni, _ => trivial
theorem namesAll_mono {S T : Nat → Prop} (hST : ∀ j, S j → T j) : ∀ (xs : List AV), namesAll S xs → namesAll T xs
  | [], _ => trivial
  | x :: xs, h => by simp only [namesAll] at h ⊢; exact ⟨AV.names_mono hST x h.1, namesAll_mono hST xs h.2⟩
end
theorem Row.names_mono {S T : Nat → Prop} (hST : ∀ j, S j → T j) (r : Row) (h : r.names S) : r.names T := by
  cases r with
  | iter => trivial
  | cells cs => exact namesAll_mono hST cs h
theorem Row.ren_self {σ : Nat → Nat} {S : Nat → Prop} (hσ : ∀ j, S j → σ j = j) (r : Row) (h : r.names S) : r.ren σ = r := by
  cases r with
  | iter => rfl
  | cells cs => simp only [Row.ren]; rw [renAll_self hσ cs h]

def resM (tmps : Array Value) : ResultVar → Sem Value
  | .tmp t => pure (tmps.getD t undef)
  | .cell a t => do loadVar t (← asAddr (tmps.getD a undef))
theorem results_eq (fn : Func) (tmps : Array Value) : results fn tmps = (do let vs ← fn.results.mapM (resM tmps); pure (if h : vs.size = 1 then vs[0] else .tuple vs)) := rfl

theorem res_run {U : Nat → Prop} {ρ : Nat → Nat} {Ro : Nat → Prop} {w : World} {a : Act} (hr : Rel U ρ Ro h w) (ht : RelT (cx U ρ Ro w) t a) : ∀ {rs : List ResultVar} {xs : List AV}, resAll P t h rs = some xs →
    ∃ vs : List Value, (rs.mapM (resM a.tmps)).run P w = .ok vs w ∧ RVs (cx U ρ Ro w) xs vs
  | [], xs, hx => by
    simp only [resAll, Option.some.injEq] at hx
    subst hx
    exact ⟨[], by simp, RVs.nil _⟩
  | r :: rs, xs, hx => by
    simp only [resAll] at hx
    split at hx
    · rename_i x xs' h1 h2
      injection hx with hx
      subst hx
      obtain ⟨vs, g1, g2⟩ := res_run hr ht h2
      cases r with
      | tmp k =>
        simp only [resT, Option.some.injEq] at h1
        subst h1
        exact ⟨a.tmps.getD k undef :: vs, by simp only [List.mapM_cons, resM, Sem.run_bind, Sem.run_pure, Result.andThen_ok, g1], RVs.cons (ht k) g2⟩
      | cell k T =>
        simp only [resT] at h1
        have hk := ht k
        unfold aload at h1
        split at h1
        · rename_i g z cs off hg hz hp
          obtain ⟨b, hb, hc⟩ := hr.read hk hp
          obtain ⟨y, k1, k2⟩ := run_loadVar_part (w := w) hg hz hc h1
          refine ⟨y :: vs, ?_, RVs.cons k2 g2⟩
          simp only [List.mapM_cons, resM, Sem.run_bind, Sem.run_pure, Result.andThen_ok, g1, hb, asAddr, k1]
        · cases h1
    · cases hx

theorem results_run {U : Nat → Prop} {ρ : Nat → Nat} {Ro : Nat → Prop} {w : World} {a : Act} {fn : Func} (hr : Rel U ρ Ro h w) (ht : RelT (cx U ρ Ro w) t a) {xs : List AV} (hx : resAll P t h fn.results.toList = some xs) :
    ∃ v, (results fn a.tmps).run P w = .ok v w ∧ RV (cx U ρ Ro w) (resOne xs) v := by
  obtain ⟨vs, h1, h2⟩ := res_run hr ht hx
  rw [results_eq, Array.mapM_eq_mapM_toList]
  refine ⟨if h : vs.toArray.size = 1 then vs.toArray[0] else .tuple vs.toArray, ?_, ?_⟩
  · simp [h1]
  · rcases h2 with ⟨hl, hv⟩
    match xs, vs, hl with
    | [x], [v], _ => exact hv 0 x v rfl rfl
    | [], [], _ => exact .tup [] #[] rfl (fun k x v hx => by simp at hx)
    | x :: y :: xs, v :: u :: vs, hl =>
      simp only [List.size_toArray, List.length_cons]
      rw [dif_neg (by omega)]
      exact .tup _ _ (by simpa using hl) (fun k x v hx hv' => hv k x v hx (by simpa using hv'))

theorem DCalls.of {f : FuncId} {fn : Func} {c : Code} {args : List AV} {r : AV} {n2 : Nat} (hf : P.funcs[f]? = some fn) (hb : fn.body = some c) (hname : fn.name ≠ "runtime.NumGoroutine") (hlen : args.length ≤ fn.ntmps) (hn2 : n ≤ n2)
    (hw : AWp P fn.ntmps c (inTmps args) h n (Out P fn n h r us n2)) : DCalls P f args h n r us n2 := by
  refine ⟨⟨fn, hf, by rw [hb]; rfl, hname⟩, hn2, fun U ρ Ro w xs hU hrel hxs => ?_⟩
  refine calls_of_wp hf hb ?_
  have hxl : xs.length = args.length := hxs.1
  have hst : St fn.ntmps U n ρ Ro h w (inTmps args) { tmps := xs.toArray ++ Array.replicate (fn.ntmps - xs.toArray.size) undef, defers := [] } := by
    refine ⟨hU, hrel, fun k => ?_, by simp; omega, rfl⟩
    simp only [inTmps, Array.getD_eq_getD_getElem?, List.getD_eq_getElem?_getD]
    by_cases hk : k < args.length
    · rw [Array.getElem?_append_left (by simp; omega), List.getElem?_eq_getElem hk]
      have : k < xs.length := by omega
      simp only [List.getElem?_toArray, List.getElem?_eq_getElem this, Option.getD_some]
      exact hxs.2 k _ _ (List.getElem?_eq_getElem hk) (List.getElem?_eq_getElem this)
    · rw [List.getElem?_eq_none (by omega), Array.getElem?_append_right (by simp; omega)]
      have : (Array.replicate (fn.ntmps - xs.toArray.size) undef)[k - xs.toArray.size]?.getD undef = undef := by
        rw [Array.getElem?_replicate]; split <;> rfl
      rw [this]
      exact rv_undef _
  refine wp_mono (hw U ρ Ro w _ hst) fun e a' w' hp => ?_
  obtain ⟨t', h1, n1, ρ1, Ro1, g1, g2, g3, g4⟩ := hp
  obtain ⟨hends, ys, σ, τ, k1, k2, k3, k4, k5, k6⟩ := g4
  obtain ⟨v, hv, hrv⟩ := results_run g2.rel g2.tm k1
  have hturn := k2.turn (h2 := app us h) hU hrel g2.rel g3 (fun x r hx => by
    by_cases ht : touch us x
    · obtain ⟨h5, h6⟩ := k6 x r ht (by rw [← hx]; exact app_touched _ _ ht)
      refine ⟨?_, h6⟩
      rcases h5 with h5 | h5
      · exact .inr h5
      · cases hh : h x with
        | none => rw [hh] at h5; cases h5
        | some r' => exact .inl (hrel.lt x r' hh)
    · rw [app_untouched _ ht] at hx
      have hUx := hrel.lt x r hx
      have hlt := hU x hUx
      have hnm := (hrel.named hx)
      refine ⟨.inl hUx, r, ?_, ?_, Row.names_mono (fun j hj => .inl (hU j hj)) r hnm⟩
      · simp only [oldNo, if_pos hlt]; exact k5 x r hlt hx ht
      · exact (Row.ren_self (fun j hj => k2.lo j (hU j hj)) r hnm).symm)
  obtain ⟨m1, m2, m3⟩ := hturn
  have hfin : ∃ v, (results fn a'.tmps).run P w' = .ok v w' ∧ ∃ x ρ' Ro', Ending.returned v = .returned x ∧ Rel (ext U n n2) ρ' Ro' (app us h) w' ∧ RV (cx (ext U n n2) ρ' Ro' w') r x ∧ Ext U ρ Ro h w (ext U n n2) ρ' Ro' (app us h) w' :=
    ⟨v, hv, v, _, _, rfl, m1, by rw [← k3]; exact m3 _ v hrv k4, m2⟩
  rcases hends with rfl | rfl
  · exact ⟨g2.df, hfin⟩
  · exact ⟨g2.df, hfin⟩

theorem Anew.id (n n1 : Nat) : Anew n n1 n id id := ⟨Nat.le_refl _, fun _ _ => rfl, fun x h1 h2 => by omega⟩

/-- It comes back with a value alone. -/
theorem Out.pure {fn : Func} {e : Exit} {h1 : Heap} {n1 : Nat} {r : AV} (he : e = .normal ∨ e = .ret) {xs : List AV} (hx : resAll P t h1 fn.results.toList = some xs) (hr : resOne xs = r) (hn : r.names (· < n)) (hh : ∀ x r, x < n → h x = some r → h1 x = some r) : Out P fn n h r [] n e t h1 n1 := by
  subst hr
  refine ⟨he, xs, _, _, hx, Anew.id n n1, AV.ren_self (fun _ _ => rfl) _ hn, AV.names_mono (fun j hj => .inl hj) _ hn, fun x r hl hx _ => hh x r hl hx, fun x r ht => ?_⟩
  obtain ⟨u, hu, _⟩ := ht
  cases hu

theorem Out.pure1 {fn : Func} {e : Exit} {h1 : Heap} {n1 : Nat} {a : Tmp} {x r : AV} (he : e = .normal ∨ e = .ret) (hf : fn.results = #[.tmp a]) (hx : t a = x) (hr : x = r) (hn : r.names (· < n)) (hh : ∀ x r, x < n → h x = some r → h1 x = some r) : Out P fn n h r [] n e t h1 n1 :=
  Out.pure he (xs := [x]) (by rw [hf]; simp [resAll, resT, hx]) hr hn hh
theorem Out.pure2 {fn : Func} {e : Exit} {h1 : Heap} {n1 : Nat} {a b : Tmp} {x y r : AV} (he : e = .normal ∨ e = .ret) (hf : fn.results = #[.tmp a, .tmp b]) (hx : t a = x) (hy : t b = y) (hr : .tup [x, y] = r) (hn : r.names (· < n)) (hh : ∀ x r, x < n → h x = some r → h1 x = some r) : Out P fn n h r [] n e t h1 n1 :=
  Out.pure he (xs := [x, y]) (by rw [hf]; simp [resAll, resT, hx, hy]) hr hn hh
theorem Out.pure3 {fn : Func} {e : Exit} {h1 : Heap} {n1 : Nat} {a b c : Tmp} {x y z r : AV} (he : e = .normal ∨ e = .ret) (hf : fn.results = #[.tmp a, .tmp b, .tmp c]) (hx : t a = x) (hy : t b = y) (hz : t c = z) (hr : .tup [x, y, z] = r) (hn : r.names (· < n)) (hh : ∀ x r, x < n → h x = some r → h1 x = some r) : Out P fn n h r [] n e t h1 n1 :=
  Out.pure he (xs := [x, y, z]) (by rw [hf]; simp [resAll, resT, hx, hy, hz]) hr hn hh

/-- What is there below a number stays, where rows from that number on are written. -/
theorem keep0 : ∀ x r, x < n → h x = some r → h x = some r := fun _ _ _ h => h
theorem keepU {g : Heap} {j : Nat} {r0 : Option Row} (hj : n ≤ j) (hk : ∀ x r, x < n → h x = some r → g x = some r) : ∀ x r, x < n → h x = some r → upd g j r0 x = some r := fun x r hx hr => by
  rw [upd_ne _ _ (by omega)]; exact hk x r hx hr

end Go.Av
end

section
namespace Go.Av

/-- Plain types: numbers, bools, strings; slices, arrays and structs of such. -/
inductive Ty where
  | int (k : IntKind)
  | bool
  | str
  | slice (e : Ty)
  | prod (ts : List Ty)
  deriving Inhabited

mutual
def Ty.cells : Ty → Nat
  | .prod ts => cellsAll ts
  | _ => 1
def cellsAll : List Ty → Nat
  | [] => 0
  | t :: ts => t.cells + cellsAll ts
end

/-- Fields one behind the other. -/
def chkAll (chk : TypeId → Ty → Bool) (P : Program) : Nat → List Field → List Ty → Bool
  | _, [], [] => true
  | off, f :: fs, t :: ts => f.offset == off && P.cellsOf f.type == t.cells && chk f.type t && chkAll chk P (off + t.cells) fs ts
  | _, _, _ => false

def chkTy (P : Program) : Nat → TypeId → Ty → Bool
  | 0, _, _ => false
  | n + 1, t, ty => match P.underlying t, ty with
    | some (.int k), .int k' => k == k'
    | some .bool, .bool => true
    | some .string, .str => true
    | some (.slice e), .slice a => P.cellsOf e == a.cells && chkTy P n e a
    | some (.struct fs), .prod ts => P.cellsOf t == cellsAll ts && chkAll (chkTy P n) P 0 fs.toList ts
    | some (.array m e), .prod ts => P.cellsOf t == cellsAll ts && ts.length == m && ts.all fun a => P.cellsOf e == a.cells && chkTy P n e a
    | _, _ => false

mutual
/-- The cells are as the type says. -/
def Sh : Ty → List AV → Prop
  | .int k, xs => ∃ n, xs = [.i k n] ∧ (Lit.int k n).wf = true
  | .bool, xs => ∃ b, xs = [.b b]
  | .str, xs => ∃ s, xs = [.s s] ∧ s.size ≤ maxLen
  | .slice e, xs => xs = [.ro true [] 0] ∨ ∃ cs len, xs = [.ro false cs len] ∧ len ≤ maxLen ∧ cs.length = len * e.cells ∧ ∀ i, i < len → Sh e ((cs.drop (i * e.cells)).take e.cells)
  | .prod ts, xs => ShAll ts xs
def ShAll : List Ty → List AV → Prop
  | [], xs => xs = []
  | t :: ts, xs => ∃ ys zs, xs = ys ++ zs ∧ ys.length = t.cells ∧ Sh t ys ∧ ShAll ts zs
end

variable {H : Type} {enc : TypeId × Value → H} {P : Program} {w : World} {spare : Nat → Bool} {held : Bool}

/-- Cells, one by one as told. -/
def Tells (C : Cx) (xs : List AV) (vs : List Value) : Prop := vs.length = xs.length ∧ ∀ (k : Nat) (x : AV) (v : Value), xs[k]? = some x → vs[k]? = some v → x.one = true ∧ RV C x v

theorem Tells.append {C : Cx} {xs ys : List AV} {vs us : List Value} (h : Tells C xs vs) (k : Tells C ys us) : Tells C (xs ++ ys) (vs ++ us) := by
  refine ⟨by simp [h.1, k.1], fun i x v hx hv => ?_⟩
  by_cases hi : i < xs.length
  · rw [List.getElem?_append_left hi] at hx
    rw [List.getElem?_append_left (by rw [h.1]; exact hi)] at hv
    exact h.2 i x v hx hv
  · rw [List.getElem?_append_right (by omega)] at hx
    rw [List.getElem?_append_right (by rw [h.1]; omega), h.1] at hv
    exact k.2 _ x v hx hv
theorem Tells.one {C : Cx} {x : AV} {v : Value} (h1 : x.one = true) (h : RV C x v) : Tells C [x] [v] :=
  ⟨rfl, fun k y u hy hu => by
    rcases k with _ | k
    · simp at hy hu; subst hy; subst hu; exact ⟨h1, h⟩
    · simp at hy⟩

theorem opens {C : Cx} (hC : ∀ a v, w.cell? a = some v → C.M a v) : ∀ (n : Nat) (t : TypeId) (ty : Ty) (fuel : Nat) (cs : List Value) (x : DataW H × List MemPlace),
    chkTy P n t ty = true → DataW.trod enc P w 0 spare held fuel t cs = some x → ∃ xs, xs.length = ty.cells ∧ Sh ty xs ∧ Tells C xs cs := by
  intro n
  induction n with
  | zero => intro t ty fuel cs x h; simp [chkTy] at h
  | succ n ih =>
    intro t ty fuel cs x hc h
    unfold chkTy at hc
    split at hc
    · rename_i k k' hu
      have : k = k' := by simpa using hc
      subst this
      obtain ⟨m, rfl, _, hw⟩ := DataW.trod_int hu h
      exact ⟨[.i k m], by simp [Ty.cells], by simp only [Sh]; exact ⟨m, rfl, hw⟩, .one rfl (.i k m)⟩
    · rename_i hu
      obtain ⟨b, rfl, _⟩ := DataW.trod_bool hu h
      exact ⟨[.b b], by simp [Ty.cells], by simp only [Sh]; exact ⟨b, rfl⟩, .one rfl (.b b)⟩
    · rename_i hu
      obtain ⟨s, rfl, _, hs⟩ := DataW.trod_string hu h
      exact ⟨[.s s], by simp [Ty.cells], by simp only [Sh]; exact ⟨s, rfl, hs⟩, .one rfl (.s s)⟩
    · rename_i e a hu
      simp only [Bool.and_eq_true, beq_iff_eq] at hc
      obtain ⟨hce, hch⟩ := hc
      rcases Deep.open_slice hu h with ⟨rfl, _⟩ | ⟨ad, len, cap, m, n', D, Pl, rfl, _, hl, hm, hmm, _, hel⟩
      · exact ⟨[.ro true [] 0], by simp [Ty.cells], by simp [Sh], .one rfl .ron⟩
      · have hlm : len ≤ m := by rw [hmm]; split <;> omega
        have key : ∀ j, j ≤ len → ∃ cs : List AV, cs.length = j * a.cells ∧ (∀ i, i < j → Sh a ((cs.drop (i * a.cells)).take a.cells)) ∧ ∀ (k : Nat) (x : AV), cs[k]? = some x → x.one = true ∧ ∃ v, w.cell? (ad.add k) = some v ∧ RV C x v := by
          intro j
          induction j with
          | zero => exact fun _ => ⟨[], by simp, fun i hi => by omega, fun k x hx => by simp at hx⟩
          | succ j ihj =>
            intro hj
            obtain ⟨cs, h1, h2, h3⟩ := ihj (by omega)
            obtain ⟨cs', g1, g2⟩ := hel j (by omega)
            obtain ⟨_, g3, g4⟩ := World.cells?_some g1
            obtain ⟨xs, k1, k2, k3⟩ := ih e a _ _ _ hch g2
            refine ⟨cs ++ xs, by rw [List.length_append, h1, k1, Nat.succ_mul], fun i hi => ?_, fun k x hx => ?_⟩
            · by_cases hij : i < j
              · have hle : i * a.cells + a.cells ≤ cs.length := by rw [h1, ← Nat.succ_mul]; exact Nat.mul_le_mul_right _ hij
                have := h2 i hij
                rw [List.drop_append_of_le_length (by omega), List.take_append_of_le_length (by rw [List.length_drop]; omega)]
                exact this
              · have : i = j := by omega
                subst this
                have hd : (cs ++ xs).drop (i * a.cells) = xs := by rw [← h1]; simp
                rw [hd, List.take_of_length_le (by omega)]
                exact k2
            · by_cases hk : k < cs.length
              · rw [List.getElem?_append_left hk] at hx
                exact h3 k x hx
              · rw [List.getElem?_append_right (by omega)] at hx
                have hlt : k - cs.length < xs.length := by
                  rcases Nat.lt_or_ge (k - cs.length) xs.length with h' | h'
                  · exact h'
                  · rw [List.getElem?_eq_none h'] at hx; cases hx
                have hlt' : k - cs.length < cs'.length := by rw [k3.1]; exact hlt
                obtain ⟨o1, o2⟩ := k3.2 _ x _ hx (List.getElem?_eq_getElem hlt')
                refine ⟨o1, _, ?_, o2⟩
                have := g4 (k - cs.length) (by rw [← g3]; exact hlt')
                rw [List.getElem?_eq_getElem hlt'] at this
                rw [← this, hce, add_add]
                have hk' : j * a.cells + (k - cs.length) = k := by rw [← h1]; omega
                rw [hk']
        obtain ⟨cs, h1, h2, h3⟩ := key len (Nat.le_refl _)
        refine ⟨[.ro false cs len], by simp [Ty.cells], ?_, .one rfl ?_⟩
        · simp only [Sh]
          exact .inr ⟨cs, len, rfl, by omega, h1, h2⟩
        · refine .ro cs len ad cap (fun k => (w.cell? (ad.add k)).getD undef) hl hm (fun k x hx => (h3 k x hx).1) (fun k x hx => ?_) (fun k x hx => ?_) <;> obtain ⟨_, v, hv, hr⟩ := h3 k x hx
          · rw [hv]; exact hC _ _ hv
          · rw [hv]; exact hr
    · rename_i fs ts hu
      simp only [Bool.and_eq_true, beq_iff_eq] at hc
      obtain ⟨hcells, hch⟩ := hc
      obtain ⟨xs, n', _, _, hlen, hxl, hf⟩ := DataW.trod_struct hu h
      have key : ∀ (l : List Field) (ts : List Ty) (off : Nat) (i0 : Nat), (∀ j, l[j]? = fs[i0 + j]?) → chkAll (chkTy P n) P off l ts = true → off + cellsAll ts = cs.length → ∃ ys, ys.length = cellsAll ts ∧ ShAll ts ys ∧ Tells C ys (cs.drop off) := by
        intro l
        induction l with
        | nil =>
          intro ts off i0 hl hch hoff
          cases ts with
          | cons => simp [chkAll] at hch
          | nil =>
            refine ⟨[], rfl, by simp only [ShAll], ?_⟩
            rw [List.drop_eq_nil_of_le (by simp [cellsAll] at hoff; omega)]
            exact ⟨rfl, fun k x v hx => by simp at hx⟩
        | cons f l ihl =>
          intro ts off i0 hl hch hoff
          cases ts with
          | nil => simp [chkAll] at hch
          | cons ty ts =>
            simp only [chkAll, Bool.and_eq_true, beq_iff_eq] at hch
            obtain ⟨⟨⟨ho, hcf⟩, hc1⟩, hc2⟩ := hch
            have hfi : fs[i0]? = some f := by have := hl 0; simpa using this.symm
            have h1 := hf i0 f hfi
            have hlt : i0 < xs.length := by rw [hxl]; exact (Array.getElem?_eq_some_iff.1 hfi).1
            rw [List.getElem?_eq_getElem hlt] at h1
            obtain ⟨ys, k1, k2, k3⟩ := ih f.type ty _ _ _ hc1 h1
            simp only [cellsAll] at hoff
            obtain ⟨zs, m1, m2, m3⟩ := ihl ts (off + ty.cells) (i0 + 1) (fun j => by have := hl (j + 1); simpa [Nat.add_assoc, Nat.add_comm 1 j] using this) hc2 (by omega)
            refine ⟨ys ++ zs, by rw [List.length_append, k1, m1]; rfl, ?_, ?_⟩
            · simp only [ShAll]; exact ⟨ys, zs, rfl, k1, k2, m2⟩
            · have hsplit : cs.drop off = (cs.drop f.offset).take (P.cellsOf f.type) ++ cs.drop (off + ty.cells) := by
                rw [ho, hcf, ← List.drop_drop, List.take_append_drop]
              rw [hsplit]
              exact k3.append m3
      obtain ⟨ys, k1, k2, k3⟩ := key fs.toList ts 0 0 (fun j => by simp) hch (by omega)
      exact ⟨ys, by simp only [Ty.cells]; exact k1, by simp only [Sh]; exact k2, by simpa using k3⟩
    · rename_i m e ts hu
      simp only [Bool.and_eq_true, beq_iff_eq, List.all_eq_true] at hc
      obtain ⟨⟨hcells, hml⟩, hch⟩ := hc
      obtain ⟨xs, n', _, _, hlen, hxl, hf⟩ := DataW.trod_array hu h
      have key : ∀ (ts' : List Ty) (i0 : Nat), (∀ a ∈ ts', P.cellsOf e = a.cells ∧ chkTy P n e a = true) → i0 + ts'.length = m → i0 * P.cellsOf e + cellsAll ts' = cs.length → ∃ ys, ys.length = cellsAll ts' ∧ ShAll ts' ys ∧ Tells C ys (cs.drop (i0 * P.cellsOf e)) := by
        intro ts'
        induction ts' with
        | nil =>
          intro i0 _ hi hoff
          refine ⟨[], rfl, by simp only [ShAll], ?_⟩
          rw [List.drop_eq_nil_of_le (by simp [cellsAll] at hoff; omega)]
          exact ⟨rfl, fun k x v hx => by simp at hx⟩
        | cons ty ts' ihl =>
          intro i0 hall hi hoff
          simp only [List.length_cons] at hi
          have h1 := hf i0 (by omega)
          have hlt : i0 < xs.length := by omega
          rw [List.getElem?_eq_getElem hlt] at h1
          obtain ⟨hc0, hc1⟩ := hall ty (by simp)
          obtain ⟨ys, k1, k2, k3⟩ := ih e ty _ _ _ hc1 h1
          simp only [cellsAll] at hoff
          obtain ⟨zs, m1, m2, m3⟩ := ihl (i0 + 1) (fun a ha => hall a (by simp [ha])) (by omega) (by rw [Nat.succ_mul]; omega)
          refine ⟨ys ++ zs, by rw [List.length_append, k1, m1]; rfl, ?_, ?_⟩
          · simp only [ShAll]; exact ⟨ys, zs, rfl, k1, k2, m2⟩
          · have hsplit : cs.drop (i0 * P.cellsOf e) = (cs.drop (i0 * P.cellsOf e)).take (P.cellsOf e) ++ cs.drop ((i0 + 1) * P.cellsOf e) := by
              rw [Nat.succ_mul, ← List.drop_drop, List.take_append_drop]
            rw [hsplit]
            exact k3.append m3
      obtain ⟨ys, k1, k2, k3⟩ := key ts 0 (fun a ha => by simpa using hch a ha) (by omega) (by omega)
      exact ⟨ys, by simp only [Ty.cells]; exact k1, by simp only [Sh]; exact k2, by simpa using k3⟩
    · cases hc

/-! ### arguments -/
def Ty.agg : Ty → Bool
  | .prod _ => true
  | _ => false
def argA (ty : Ty) (xs : List AV) : AV := if ty.agg then .agg xs else xs.headD .ni

/-- The memory that is there when a law is called. -/
def cx0 (w : World) : Cx := cx (fun _ => False) id (fun b => b < w.heap.size) w

theorem cell_lt {a : Addr} {v : Value} (h : w.cell? a = some v) : a.block < w.heap.size := by
  unfold World.cell? at h
  rcases Nat.lt_or_ge a.block w.heap.size with h' | h'
  · exact h'
  · rw [Array.getElem?_eq_none h'] at h; simp at h

theorem argOpen {n b0 : Nat} {t : TypeId} {ty : Ty} {v : Value} {d : DataW H} {ps : List MemPlace} {r : Reach} (hc : chkTy P n t ty = true) (hv : Value.okWide P w r b0 t v) (h : DataW.Trod enc P w 0 spare held t v d ps) :
    ∃ xs, xs.length = ty.cells ∧ Sh ty xs ∧ RV (cx0 w) (argA ty xs) v := by
  obtain ⟨fuel, hf⟩ := h
  obtain ⟨xs, h1, h2, h3⟩ := opens (C := cx0 w) (fun a v hv => ⟨cell_lt hv, hv⟩) n t ty fuel _ _ hc hf
  refine ⟨xs, h1, h2, ?_⟩
  cases n with
  | zero => simp [chkTy] at hc
  | succ n =>
    unfold chkTy at hc
    have one : ∀ (ty : Ty), ty.agg = false → ty.cells = 1 → xs.length = ty.cells → v.cells = #[v] → RV (cx0 w) (argA ty xs) v := fun ty hag hce hl hcv => by
      match xs, hl.trans hce with
      | [x], _ =>
        simp only [argA, hag, Bool.false_eq_true, if_false, List.headD_cons]
        rw [hcv] at h3
        exact (h3.2 0 x v rfl rfl).2
    have many : ∀ (ts : List Ty) (cs : Array Value), v = .agg cs → RV (cx0 w) (argA (.prod ts) xs) v := fun ts cs hcs => by
      subst hcs
      simp only [argA, Ty.agg, if_true]
      simp only [Value.cells] at h3
      refine .agg xs cs (by rw [← Array.length_toList]; exact h3.1) (fun k x hx => ?_) (fun k x v hx hv => (h3.2 k x v hx (by simpa using hv)).2)
      have hlt : k < cs.toList.length := by
        rw [h3.1]
        rcases Nat.lt_or_ge k xs.length with h' | h'
        · exact h'
        · rw [List.getElem?_eq_none h'] at hx; cases hx
      exact (h3.2 k x _ hx (List.getElem?_eq_getElem hlt)).1
    split at hc
    · rename_i hu
      obtain ⟨m, rfl⟩ := WideShapes.okWide_int hu hv
      exact one _ rfl rfl h1 rfl
    · rename_i hu
      obtain ⟨m, rfl⟩ := WideShapes.okWide_bool hu hv
      exact one _ rfl rfl h1 rfl
    · rename_i hu
      obtain ⟨m, rfl⟩ := WideShapes.okWide_string hu hv
      exact one _ rfl rfl h1 rfl
    · rename_i hu
      obtain ⟨a, l, c, rfl⟩ := WideShapes.okWide_slice hu hv
      exact one _ rfl rfl h1 rfl
    · rename_i hu
      obtain ⟨cs, hcs, _⟩ := WideShapes.okWide_struct hu hv
      exact many _ cs hcs
    · rename_i hu
      simp only [Value.okWide, hu] at hv
      obtain ⟨cs, hcs, _⟩ := hv
      exact many _ cs hcs
    · cases hc

/-- A law: it comes back with true, and what was there is as it was. -/
theorem law_calls {f : FuncId} {args : List AV} {xs : List Value} (hd : DCalls P f args noHeap 0 (.b true) [] 0) (hx : RVs (cx0 w) args xs) (hgl : Gl (fun b => b < w.heap.size) w := by intro p hp; cases hp) : Calls P f xs.toArray w fun e w' => e = .returned (.bool true) ∧ RowKit.Below w.heap.size w w' := by
  obtain ⟨_, _, hcalls⟩ := hd
  have hrel : Rel (fun _ => False) id (fun b => b < w.heap.size) noHeap w :=
    ⟨fun j r hj => (nomatch hj), fun j hj => hj.elim, fun j cs hj => (nomatch hj), fun j s pos hj => (nomatch hj), fun i j ri rj hi => (nomatch hi), fun j r hj => (nomatch hj), fun b hb => hb, hgl⟩
  refine (hcalls _ _ _ w xs (fun j hj => hj.elim) hrel hx).mono ?_
  rintro e w' ⟨x, ρ', Ro', rfl, h1, h2, h3⟩
  have hxb := h2.inv_b
  subst hxb
  exact ⟨rfl, ⟨h3.os, h3.tape, h3.output, h3.size, fun k hk => h3.blk k hk (fun j r hj => nomatch hj)⟩⟩

end Go.Av
end
