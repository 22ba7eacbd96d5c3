/- Regions whose order is drawn, part 5: a plan is made step by step. -/
import Derived.Test.YtepfknnffooaiaaAv18
namespace Go.Av

variable {P : Program} {N : Nat} {n n' : Nat} {h h0 : Heap} {t : Tmps} {v : AV} {us : List (Nat × Option Row)} {ops : Array Oper} {B W : List Nat} {o : Oper}

/-! ### what an operation comes to hangs on what it looks at -/
theorem wantedA_congr {t' : Tmps} (hx : ∀ k ∈ o.looksAt ops, t' k = t k) : wantedA ops t' o = wantedA ops t o := by
  unfold wantedA
  cases hg : o.guard with
  | none => rfl
  | some g =>
    obtain ⟨j, want⟩ := g
    simp only
    cases hd : (ops[j]?).bind (·.dst) with
    | none => rfl
    | some d =>
      simp only
      rw [hx d (by simp only [Oper.looksAt, hg, hd, List.mem_append]; exact .inr (by simp))]
theorem aev_looks {t' : Tmps} (hx : ∀ k ∈ o.looksAt ops, t' k = t k) : ∀ x ∈ o.op.operands.toList, aev t' x = aev t x := by
  intro x hm
  cases x with
  | tmp k => exact hx k (by simp only [Oper.looksAt, List.mem_append, List.mem_filterMap]; exact .inl ⟨.tmp k, hm, rfl⟩)
  | _ => rfl

theorem SoundL.eff (hw : wantedA ops t o = some true) (ho : opOk o.op = true) (hv : aeff P o.op t h n = some (v, us, n')) : SoundL (fun t => SoundW P ops o t h n v us n') ops o t := fun t' ht =>
  .eff (by rw [wantedA_congr ht]; exact hw) ho (by rw [aeff_congr (aev_looks ht)]; exact hv)
theorem SoundL.skip (hw : wantedA ops t o = some false) : SoundL (fun t => SoundW P ops o t h n (.tup []) [] n) ops o t := fun t' ht =>
  .skip (by rw [wantedA_congr ht]; exact hw)
theorem SoundL.pcall (hw : wantedA ops t o = some true) (ho : opOk o.op = true) {f : Operand} {args : Array Operand} {Ts : Array TypeId} (hop : o.op = .call { callee := .value f, args := args, argTypes := Ts })
    {g : FuncId} {first cap : List AV} (hf : aev t f = .fn (.func g) first cap) (hc : ∀ m, DCalls P g (first ++ args.toList.map (aev t) ++ cap) h m v [] m) : SoundL (fun t => SoundW P ops o t h n v [] n) ops o t := fun t' ht => by
  have hx := aev_looks ht
  rw [hop] at hx
  refine .pcall (first := first) (cap := cap) (g := g) (by rw [wantedA_congr ht]; exact hw) ho hop (by rw [hx f (by simp [Op.operands, Call.operands])]; exact hf) ?_
  rw [List.map_congr_left (fun x hm => hx x (by simp [Op.operands, Call.operands]; exact .inr (by simpa using hm)))]
  exact hc
theorem SoundL.fcall (hw : wantedA ops t o = some true) (ho : opOk o.op = true) {f : Operand} {args : Array Operand} {Ts : Array TypeId} (hop : o.op = .call { callee := .value f, args := args, argTypes := Ts })
    {g : FuncId} {first cap : List AV} (hf : aev t f = .fn (.func g) first cap) {sz len : Nat} {cs : List AV} (hfree : freeAll cs = true)
    (hc : ∀ m, DCalls P g (first ++ args.toList.map (aev t) ++ cap) h m (.sl sz m 0 len) [(m, some (.cells cs))] (m + 1)) : SoundL (fun t => SoundW P ops o t h n (.sl sz n 0 len) [(n, some (.cells cs))] (n + 1)) ops o t := fun t' ht => by
  have hx := aev_looks ht
  rw [hop] at hx
  refine .fcall (first := first) (cap := cap) (g := g) (by rw [wantedA_congr ht]; exact hw) ho hop (by rw [hx f (by simp [Op.operands, Call.operands])]; exact hf) hfree ?_
  rw [List.map_congr_left (fun x hm => hx x (by simp [Op.operands, Call.operands]; exact .inr (by simpa using hm)))]
  exact hc
theorem SoundLO.eff (hw : wantedA ops t o = some true) (ho : opOk o.op = true) (hv : aeff P o.op t h n = some (v, us, n')) : SoundL (fun t => SoundO P ops o t h n v us n') ops o t := fun t' ht =>
  .eff (by rw [wantedA_congr ht]; exact hw) ho (by rw [aeff_congr (aev_looks ht)]; exact hv)
theorem SoundLO.call (hw : wantedA ops t o = some true) (ho : opOk o.op = true) {f : Operand} {args : Array Operand} {Ts : Array TypeId} (hop : o.op = .call { callee := .value f, args := args, argTypes := Ts })
    {g : FuncId} {first cap : List AV} (hf : aev t f = .fn (.func g) first cap) (hc : DCalls P g (first ++ args.toList.map (aev t) ++ cap) h n v us n') : SoundL (fun t => SoundO P ops o t h n v us n') ops o t := fun t' ht => by
  have hx := aev_looks ht
  rw [hop] at hx
  refine .call (first := first) (cap := cap) (g := g) (by rw [wantedA_congr ht]; exact hw) ho hop (by rw [hx f (by simp [Op.operands, Call.operands])]; exact hf) ?_
  rw [List.map_congr_left (fun x hm => hx x (by simp [Op.operands, Call.operands]; exact .inr (by simpa using hm)))]
  exact hc

/-! ### what writes so far, latest first -/
def hpL (h0 : Heap) (S : Nat → Bool) : List (Nat × List (Nat × Option Row)) → Heap
  | [] => h0
  | (j, us) :: r => if S j then app us (hpL h0 S r) else hpL h0 S r
def lookU : List (Nat × List (Nat × Option Row)) → Nat → List (Nat × Option Row)
  | [], _ => []
  | (j, us) :: r, i => if i = j then us else lookU r i
def sortU : Nat → List (Nat × List (Nat × Option Row)) → Prop
  | _, [] => True
  | k, (j, _) :: r => j < k ∧ sortU j r

theorem lookU_ge : ∀ {r : List (Nat × List (Nat × Option Row))} {k i : Nat}, sortU k r → k ≤ i → lookU r i = []
  | [], _, _, _, _ => rfl
  | (j, us) :: r, k, i, hs, hi => by
    simp only [sortU] at hs
    simp only [lookU]
    rw [if_neg (by omega)]
    exact lookU_ge hs.2 (by omega)
theorem hp_eq {S : Nat → Bool} : ∀ {k : Nat} {Us Us' : Nat → List (Nat × Option Row)}, (∀ j, j < k → Us j = Us' j) → hp Us h0 S k = hp Us' h0 S k
  | 0, _, _, _ => rfl
  | k + 1, Us, Us', h => by
    simp only [hp]
    rw [hp_eq (k := k) (fun j hj => h j (by omega)), h k (by omega)]
theorem hp_look {S : Nat → Bool} : ∀ {k : Nat} {r : List (Nat × List (Nat × Option Row))}, sortU k r → hp (lookU r) h0 S k = hpL h0 S r
  | 0, [], _ => rfl
  | 0, (j, us) :: r, hs => by simp only [sortU] at hs; omega
  | k + 1, r, hs => by
    simp only [hp]
    by_cases hk : sortU k r
    · rw [hp_look hk, lookU_ge hk (Nat.le_refl _)]
      simp [app]
    · cases r with
      | nil => exact absurd trivial hk
      | cons e r =>
        obtain ⟨j, us⟩ := e
        simp only [sortU] at hs hk
        have hj : j = k := by
          have : ¬ j < k := fun h' => hk ⟨h', hs.2⟩
          omega
        subst hj
        have h1 : hp (lookU ((j, us) :: r)) h0 S j = hpL h0 S r := by
          rw [← hp_look hs.2]
          exact hp_eq (fun i hi => by simp only [lookU]; rw [if_neg (by omega)])
        rw [h1]
        simp [lookU, hpL]

inductive DW (P : Program) (N : Nat) (ops : Array Oper) (B W : List Nat) (h0 : Heap) (Q : Tmps → Heap → Nat → Prop) : Nat → Tmps → List (Nat × List (Nat × Option Row)) → Nat → Prop
  | end_ {k t r n} : ops[k]? = none → Q t (hpL h0 (fun _ => true) r) n → DW P N ops B W h0 Q k t r n
  | val {k t r n o v} : ops[k]? = some o → dstOk N o = true → isVal P o.op = true → SoundL (fun t => SoundW P ops o t noHeap n v [] n) ops o t → DW P N ops B W h0 Q (k + 1) (put t o.dst v) r n → DW P N ops B W h0 Q k t r n
  | read {k t r n o v} : ops[k]? = some o → dstOk N o = true → isVal P o.op = false → SoundL (fun t => SoundW P ops o t (hpL h0 (pre B k) r) n v [] n) ops o t → DW P N ops B W h0 Q (k + 1) (put t o.dst v) r n → DW P N ops B W h0 Q k t r n
  | quiet {k t r n o v us n'} : ops[k]? = some o → dstOk N o = true → isVal P o.op = false → n ≤ n' → (∀ u ∈ us, n ≤ u.1 ∧ u.1 < n') → SoundL (fun t => SoundW P ops o t (hpL h0 (pre B k) r) n v us n') ops o t → DW P N ops B W h0 Q (k + 1) (put t o.dst v) ((k, us) :: r) n' → DW P N ops B W h0 Q k t r n
  | wide {k t r n o v us n'} : ops[k]? = some o → dstOk N o = true → isVal P o.op = false → k ∈ W → n ≤ n' → (∀ u ∈ us, u.1 < n') → SoundL (fun t => SoundO P ops o t (hpL h0 (pre B k) r) n v us n') ops o t → DW P N ops B W h0 Q (k + 1) (put t o.dst v) ((k, us) :: r) n' → DW P N ops B W h0 Q k t r n

theorem tp_eq {S : Nat → Bool} {t0 : Tmps} : ∀ {k : Nat} {V V' : Nat → AV}, (∀ j, j < k → V j = V' j) → tp ops V t0 S k = tp ops V' t0 S k
  | 0, _, _, _ => rfl
  | k + 1, V, V', h => by
    simp only [tp]
    rw [tp_eq (k := k) (fun j hj => h j (by omega)), h k (by omega)]

theorem planAt_congr {p p' : Plan} {j : Nat} (h1 : p.V j = p'.V j) (h2 : ∀ i, i ≤ j → p.Us i = p'.Us i) (h3 : p.ns j = p'.ns j) (h4 : p.ns (j + 1) = p'.ns (j + 1)) (h : PlanAt P N ops B W h0 t p j) : PlanAt P N ops B W h0 t p' j := by
  obtain ⟨o, g1, g2, g3, g4⟩ := h.op
  have h5 : hp p.Us h0 (pre B j) j = hp p'.Us h0 (pre B j) j := hp_eq (fun i hi => h2 i (by omega))
  refine ⟨o, g1, g2, ?_, ?_⟩
  · rw [← h3, ← h4]; exact g3
  · rw [h1, h2 j (Nat.le_refl _), h3, h4, h5] at g4
    exact g4

theorem DW.plan {t0 : Tmps} {Q : Tmps → Heap → Nat → Prop} {k : Nat} {r : List (Nat × List (Nat × Option Row))} (hd : DW P N ops B W h0 Q k t r n) : ∀ (p0 : Plan), k ≤ ops.size → p0.ns k = n → tp ops p0.V t0 (fun _ => true) k = t → (∀ j, j < k → p0.Us j = lookU r j) → sortU k r →
    (∀ j, j < k → PlanAt P N ops B W h0 (tp ops p0.V t0 (fun _ => true) j) p0 j) →
    ∃ p : Plan, p.ns 0 = p0.ns 0 ∧ (∀ j, j < ops.size → PlanAt P N ops B W h0 (tp ops p.V t0 (fun _ => true) j) p j) ∧ Q (tp ops p.V t0 (fun _ => true) ops.size) (hp p.Us h0 (fun _ => true) ops.size) (p.ns ops.size) := by
  -- one step
  have key : ∀ {k : Nat} {t : Tmps} {r r' : List (Nat × List (Nat × Option Row))} {n n' : Nat} {o : Oper} {v : AV} {us : List (Nat × Option Row)} (p0 : Plan), ops[k]? = some o → p0.ns k = n → tp ops p0.V t0 (fun _ => true) k = t → (∀ j, j < k → p0.Us j = lookU r j) → sortU k r →
      (∀ j, j < k → PlanAt P N ops B W h0 (tp ops p0.V t0 (fun _ => true) j) p0 j) → (∀ j, j < k → lookU r' j = lookU r j) → lookU r' k = us → sortU (k + 1) r' →
      (∀ p : Plan, p.V k = v → p.Us k = us → p.ns k = n → p.ns (k + 1) = n' → hp p.Us h0 (pre B k) k = hpL h0 (pre B k) r → PlanAt P N ops B W h0 t p k) →
      (∀ (p0 : Plan), k + 1 ≤ ops.size → p0.ns (k + 1) = n' → tp ops p0.V t0 (fun _ => true) (k + 1) = put t o.dst v → (∀ j, j < k + 1 → p0.Us j = lookU r' j) → sortU (k + 1) r' → (∀ j, j < k + 1 → PlanAt P N ops B W h0 (tp ops p0.V t0 (fun _ => true) j) p0 j) →
        ∃ p : Plan, p.ns 0 = p0.ns 0 ∧ (∀ j, j < ops.size → PlanAt P N ops B W h0 (tp ops p.V t0 (fun _ => true) j) p j) ∧ Q (tp ops p.V t0 (fun _ => true) ops.size) (hp p.Us h0 (fun _ => true) ops.size) (p.ns ops.size)) →
      ∃ p : Plan, p.ns 0 = p0.ns 0 ∧ (∀ j, j < ops.size → PlanAt P N ops B W h0 (tp ops p.V t0 (fun _ => true) j) p j) ∧ Q (tp ops p.V t0 (fun _ => true) ops.size) (hp p.Us h0 (fun _ => true) ops.size) (p.ns ops.size) := by
    intro k t r r' n n' o v us p0 hk hn ht hU hs hP hr1 hr2 hr3 hat ih
    let p1 : Plan := ⟨fun j => if j = k then v else p0.V j, fun j => if j = k then us else p0.Us j, fun j => if j = k + 1 then n' else p0.ns j⟩
    have hlt := (Array.getElem?_eq_some_iff.1 hk).1
    have hV : ∀ j, j < k → p1.V j = p0.V j := fun j hj => by simp only [p1]; rw [if_neg (by omega)]
    have hUs : ∀ j, j < k → p1.Us j = p0.Us j := fun j hj => by simp only [p1]; rw [if_neg (by omega)]
    have hns : ∀ j, j ≤ k → p1.ns j = p0.ns j := fun j hj => by simp only [p1]; rw [if_neg (by omega)]
    have htp : ∀ j, j ≤ k → tp ops p1.V t0 (fun _ => true) j = tp ops p0.V t0 (fun _ => true) j := fun j hj => tp_eq (fun i hi => hV i (by omega))
    have hvk : p1.V k = v := by simp [p1]
    have huk : p1.Us k = us := by simp [p1]
    obtain ⟨p, g1, g2, g3⟩ := ih p1 hlt (by simp [p1]) (by simp only [tp, if_true]; rw [htp k (Nat.le_refl _), ht, hk, hvk]; rfl) (fun j hj => by
        by_cases hjk : j = k
        · subst hjk; rw [huk, hr2]
        · rw [hUs j (by omega), hU j (by omega), hr1 j (by omega)]) hr3 (fun j hj => by
        by_cases hjk : j = k
        · subst hjk
          rw [htp j (Nat.le_refl _), ht]
          refine hat p1 hvk huk (by rw [hns j (Nat.le_refl _), hn]) (by simp [p1]) ?_
          rw [← hp_look hs]
          exact hp_eq (fun i hi => by rw [hUs i hi, hU i hi])
        · rw [htp j (by omega)]
          exact planAt_congr (hV j (by omega)).symm (fun i hi => (hUs i (by omega)).symm) (hns j (by omega)).symm (hns (j + 1) (by omega)).symm (hP j (by omega)))
    exact ⟨p, by rw [g1, hns 0 (Nat.zero_le _)], g2, g3⟩
  induction hd with
  | @end_ k t r n hk hq =>
    intro p0 hle hn ht hU hs hP
    have : k = ops.size := by have := Array.getElem?_eq_none_iff.1 hk; omega
    subst this
    refine ⟨p0, rfl, hP, ?_⟩
    rw [ht, hn, show hp p0.Us h0 (fun _ => true) ops.size = hpL h0 (fun _ => true) r from by rw [← hp_look hs]; exact hp_eq hU]
    exact hq
  | @val k t r n o v hk hd hv hs _ ih =>
    intro p0 hle hn ht hU hso hP
    refine key (r' := r) (us := []) p0 hk hn ht hU hso hP (fun _ _ => rfl) (lookU_ge hso (Nat.le_refl _)) ?_ (fun p e1 e2 e3 e4 e5 => ?_) ih
    · cases r with
      | nil => trivial
      | cons e r => obtain ⟨j, us⟩ := e; simp only [sortU] at hso ⊢; exact ⟨by omega, hso.2⟩
    · refine ⟨o, hk, hd, by omega, .inl ⟨hv, e2, by omega, ?_⟩⟩
      rw [e1, e3]; exact hs
  | @read k t r n o v hk hd hv hs _ ih =>
    intro p0 hle hn ht hU hso hP
    refine key (r' := r) (us := []) p0 hk hn ht hU hso hP (fun _ _ => rfl) (lookU_ge hso (Nat.le_refl _)) ?_ (fun p e1 e2 e3 e4 e5 => ?_) ih
    · cases r with
      | nil => trivial
      | cons e r => obtain ⟨j, us⟩ := e; simp only [sortU] at hso ⊢; exact ⟨by omega, hso.2⟩
    · refine ⟨o, hk, hd, by omega, .inr (.inl ⟨hv, fun u hu => ?_, ?_⟩)⟩
      · rw [e2] at hu; cases hu
      · rw [e1, e2, e3, e4, e5]; exact hs
  | @quiet k t r n o v us n' hk hd hv hnn hus hs _ ih =>
    intro p0 hle hn ht hU hso hP
    refine key (r' := (k, us) :: r) (us := us) p0 hk hn ht hU hso hP (fun j hj => by simp only [lookU]; rw [if_neg (by omega)]) (by simp [lookU]) ⟨Nat.lt_succ_self _, hso⟩ (fun p e1 e2 e3 e4 e5 => ?_) ih
    refine ⟨o, hk, hd, by omega, .inr (.inl ⟨hv, fun u hu => ?_, ?_⟩)⟩
    · rw [e2] at hu; have := hus u hu; omega
    · rw [e1, e2, e3, e4, e5]; exact hs
  | @wide k t r n o v us n' hk hd hv hw hnn hus hs _ ih =>
    intro p0 hle hn ht hU hso hP
    refine key (r' := (k, us) :: r) (us := us) p0 hk hn ht hU hso hP (fun j hj => by simp only [lookU]; rw [if_neg (by omega)]) (by simp [lookU]) ⟨Nat.lt_succ_self _, hso⟩ (fun p e1 e2 e3 e4 e5 => ?_) ih
    refine ⟨o, hk, hd, by omega, .inr (.inr ⟨hv, hw, fun u hu => ?_, ?_⟩)⟩
    · rw [e2] at hu; have := hus u hu; omega
    · rw [e1, e2, e3, e4, e5]; exact hs

end Go.Av
