/- Contracts that leave the heap behind a call open but for what is said of it. -/
import Derived.Test.YtepfknnffooaiaaAv29
set_option linter.unusedVariables false
namespace Go.Av

variable {P : Program} {N : Nat} {n n' : Nat} {h h' : Heap} {t : Tmps} {ops : Array Oper}

/-- Called with these, in a heap that is so: it comes back with something, and a heap, of which Φ holds. -/
def DRel (P : Program) (f : FuncId) (args : List AV) (h : Heap) (n : Nat) (Φ : AV → Heap → Nat → Prop) : Prop :=
  (∃ fn, P.funcs[f]? = some fn ∧ fn.body.isSome = true ∧ fn.name ≠ "runtime.NumGoroutine") ∧
  ∀ U ρ Ro w xs, (∀ j, U j → j < n) → Rel U ρ Ro h w → RVs (cx U ρ Ro w) args xs → Calls P f xs.toArray w fun e w' =>
    ∃ x r h' n' ρ' Ro', e = .returned x ∧ n ≤ n' ∧ Φ r h' n' ∧ Rel (ext U n n') ρ' Ro' h' w' ∧ RV (cx (ext U n n') ρ' Ro' w') r x ∧ Ext U ρ Ro h w (ext U n n') ρ' Ro' h' w'

theorem DCalls.rel {f : FuncId} {args : List AV} {r : AV} {us : List (Nat × Option Row)} (hd : DCalls P f args h n r us n') : DRel P f args h n (fun x g m => x = r ∧ g = app us h ∧ m = n') := by
  obtain ⟨h1, h2, h3⟩ := hd
  refine ⟨h1, fun U ρ Ro w xs hU hrel hxs => (h3 U ρ Ro w xs hU hrel hxs).mono ?_⟩
  rintro e w' ⟨x, ρ', Ro', rfl, k1, k2, k3⟩
  exact ⟨x, r, app us h, n', ρ', Ro', rfl, h2, ⟨rfl, rfl, rfl⟩, k1, k2, k3⟩
theorem DRel.mono {f : FuncId} {args : List AV} {Φ Ψ : AV → Heap → Nat → Prop} (hd : DRel P f args h n Φ) (hi : ∀ r g m, Φ r g m → Ψ r g m) : DRel P f args h n Ψ := by
  obtain ⟨h1, h3⟩ := hd
  refine ⟨h1, fun U ρ Ro w xs hU hrel hxs => (h3 U ρ Ro w xs hU hrel hxs).mono ?_⟩
  rintro e w' ⟨x, r, g, m, ρ', Ro', rfl, k0, k1, k2⟩
  exact ⟨x, r, g, m, ρ', Ro', rfl, k0, hi _ _ _ k1, k2⟩

/-- A function's body comes to something of which Φ holds. -/
def OutR (P : Program) (fn : Func) (Φ : AV → Heap → Nat → Prop) : Exit → Tmps → Heap → Nat → Prop := fun e t h1 n1 =>
  (e = .normal ∨ e = .ret) ∧ ∃ xs, resAll P t h1 fn.results.toList = some xs ∧ Φ (resOne xs) h1 n1

theorem DRel.of {f : FuncId} {fn : Func} {c : Code} {args : List AV} {Φ : AV → Heap → Nat → Prop} (hf : P.funcs[f]? = some fn) (hb : fn.body = some c) (hname : fn.name ≠ "runtime.NumGoroutine") (hlen : args.length ≤ fn.ntmps)
    (hw : AWp P fn.ntmps c (inTmps args) h n (OutR P fn Φ)) : DRel P f args h n Φ := by
  refine ⟨⟨fn, hf, by rw [hb]; rfl, hname⟩, fun U ρ Ro w xs hU hrel hxs => ?_⟩
  refine calls_of_wp hf hb ?_
  have hxl : xs.length = args.length := hxs.1
  have hst : St fn.ntmps U n ρ Ro h w (inTmps args) { tmps := xs.toArray ++ Array.replicate (fn.ntmps - xs.toArray.size) undef, defers := [] } := by
    refine ⟨hU, hrel, fun k => ?_, by simp; omega, rfl⟩
    simp only [inTmps, Array.getD_eq_getD_getElem?, List.getD_eq_getElem?_getD]
    by_cases hk : k < args.length
    · rw [Array.getElem?_append_left (by simp; omega), List.getElem?_eq_getElem hk]
      have : k < xs.length := by omega
      simp only [List.getElem?_toArray, List.getElem?_eq_getElem this, Option.getD_some]
      exact hxs.2 k _ _ (List.getElem?_eq_getElem hk) (List.getElem?_eq_getElem this)
    · rw [List.getElem?_eq_none (by omega), Array.getElem?_append_right (by simp; omega)]
      have : (Array.replicate (fn.ntmps - xs.toArray.size) undef)[k - xs.toArray.size]?.getD undef = undef := by
        rw [Array.getElem?_replicate]; split <;> rfl
      rw [this]
      exact rv_undef _
  refine wp_mono (hw U ρ Ro w _ hst) fun e a' w' hp => ?_
  obtain ⟨t', h1, n1, ρ1, Ro1, g1, g2, g3, hends, ys, k1, k2⟩ := hp
  obtain ⟨v, hv, hrv⟩ := results_run g2.rel g2.tm k1
  have hfin : ∃ v, (results fn a'.tmps).run P w' = .ok v w' ∧ ∃ x r h' n' ρ' Ro', Ending.returned v = .returned x ∧ n ≤ n' ∧ Φ r h' n' ∧ Rel (ext U n n') ρ' Ro' h' w' ∧ RV (cx (ext U n n') ρ' Ro' w') r x ∧ Ext U ρ Ro h w (ext U n n') ρ' Ro' h' w' :=
    ⟨v, hv, v, _, h1, n1, ρ1, Ro1, rfl, g1, k2, g2.rel, hrv, g3⟩
  rcases hends with rfl | rfl
  · exact ⟨g2.df, hfin⟩
  · exact ⟨g2.df, hfin⟩

/-- A call that leaves open what comes, in a region in the text's order. -/
theorem RW.callR {k : Nat} {Q : Tmps → Heap → Nat → Prop} {o : Oper} {f : Operand} {args : Array Operand} {Ts : Array TypeId} {g : FuncId} {first cap : List AV} {Φ : AV → Heap → Nat → Prop} (hk : ops[k]? = some o)
    (hw : wantedA ops t o = some true) (hop : o.op = .call { callee := .value f, args := args, argTypes := Ts }) (hf : aev t f = .fn (.func g) first cap) (hc : DRel P g (first ++ args.toList.map (aev t) ++ cap) h n Φ)
    (hr : ∀ r h' n', n ≤ n' → Φ r h' n' → RW P N ops (k + 1) (put t o.dst r) h' n' Q) : RW P N ops k t h n Q := by
  intro ho U ρ Ro w a hst Qc hQ
  obtain ⟨h1, h2⟩ := opsOk_at ho hk
  obtain ⟨hfn, hcalls⟩ := hc
  have hd : ops.toList.drop k = o :: ops.toList.drop (k + 1) := by
    rw [List.drop_eq_getElem_cons (by rw [Array.length_toList]; exact (Array.getElem?_eq_some_iff.1 hk).1)]
    congr 1
    have := (Array.getElem?_eq_some_iff.1 hk).2
    simpa using this
  rw [hd]
  obtain ⟨xs, hrun, hall⟩ := call_run (w := w) h1 hop hf hfn hst.tm
  have key : ∀ (K : Act → World → Prop) (Q' : Exit → Act → World → Prop),
      (∀ x r h' n' w' ρ' Ro', n ≤ n' → Φ r h' n' → RV (cx (ext U n n') ρ' Ro' w') r x → Rel (ext U n n') ρ' Ro' h' w' → Ext U ρ Ro h w (ext U n n') ρ' Ro' h' w' → K (a.put o.dst x) w') →
      (if Region.wanted o (yielded ops a.tmps) then o.wp P a w K Q' ∨ (o.asks P a w ∧ LetsOut Q') else K (a.put o.dst undef) w) := fun K Q' hK => by
    rw [wanted_of hst.tm hw]
    simp only [if_true]
    left
    unfold Oper.wp
    rw [hrun, Oper.upon_enter]
    refine (hcalls U ρ Ro w _ hst.bd hst.rel hall).mono ?_
    rintro e w' ⟨x, r, h', n', ρ', Ro', rfl, g0, g1, g2, g3, g4⟩
    exact hK x r h' n' w' ρ' Ro' g0 g1 g3 g2 g4
  refine key _ _ (fun x r h' n' w' ρ' Ro' hn hΦ hv hrel hext => ?_)
  have hle := hext.cx hst.rel
  have hst' : St N (ext U n n') n' ρ' Ro' h' w' (put t o.dst r) (a.put o.dst x) :=
    ⟨ext_bd hst.bd hn, hrel, (hst.tm.mono hle).put (fun k hk => by rw [hst.sz]; exact dstOk_lt h2 k hk) hv,
     by rw [← hst.sz]; cases o.dst <;> simp [Act.put], by rw [← hst.df]; cases o.dst <;> rfl⟩
  refine hr r h' n' hn hΦ ho _ ρ' Ro' w' _ hst' Qc (fun t' h'' n'' ρ'' Ro'' a' w'' hn' hst'' hext' hq => ?_)
  rw [ext_ext _ hn hn'] at hst'' hext'
  exact hQ t' h'' n'' ρ'' Ro'' a' w'' (Nat.le_trans hn hn') hst'' (hext.trans hext') hq

theorem vcR_pre {S : Sums} (hS : SumOk P S) : ∀ {l1 l2 : List Oper} {k : Nat} {t : Tmps} {h : Heap} {n : Nat} {K : Tmps → Heap → Nat → Prop}, ops.toList.drop k = l1 ++ l2 → vcR P S ops l1 t h n (fun t h n => RW P N ops (k + l1.length) t h n K) → RW P N ops k t h n K
  | [], _, _, _, _, _, _, _, hv => hv
  | o :: l1, l2, k, t, h, n, K, hl, hv => by
    have hk : ops[k]? = some o := by
      have := congrArg (fun l => l[0]?) hl
      simpa using this
    have hl' : ops.toList.drop (k + 1) = l1 ++ l2 := by
      have := congrArg List.tail hl
      simpa using this
    have e : k + (o :: l1).length = k + 1 + l1.length := by simp only [List.length_cons]; omega
    rw [e] at hv
    simp only [vcR] at hv
    rcases vcG_elim hv with ⟨hw, hv⟩ | ⟨hw, hv⟩
    · obtain ⟨v, us, n', he, hv⟩ := vcE_elim hv
      exact RW.step hk (fun ho => stepE_sound hS hw ho he) (vcR_pre hS hl' hv)
    · exact RW.step hk (fun _ => .skip hw) (by rw [app_nil]; exact vcR_pre hS hl' hv)

theorem vcR_mono {S : Sums} {K K' : Tmps → Heap → Nat → Prop} (hK : ∀ t h n, K t h n → K' t h n) : ∀ {l : List Oper} {t : Tmps} {h : Heap} {n : Nat}, vcR P S ops l t h n K → vcR P S ops l t h n K'
  | [], _, _, _, hv => hK _ _ _ hv
  | o :: l, t, h, n, hv => by
    have hE : ∀ t, (vcE (stepE P S o.op t h n) fun v us n' => vcR P S ops l (put t o.dst v) (app us h) n' K) → (vcE (stepE P S o.op t h n) fun v us n' => vcR P S ops l (put t o.dst v) (app us h) n' K') := fun t he => by
      obtain ⟨v, us, n', h1, h2⟩ := vcE_elim he
      rw [h1]
      exact vcR_mono hK h2
    have hN : ∀ t, vcR P S ops l (put t o.dst (.tup [])) h n K → vcR P S ops l (put t o.dst (.tup [])) h n K' := fun t hx => vcR_mono hK hx
    simp only [vcR] at hv ⊢
    unfold vcG at hv ⊢
    cases hg : o.guard with
    | none => rw [hg] at hv; exact hE _ hv
    | some jw =>
      obtain ⟨j, want⟩ := jw
      rw [hg] at hv
      simp only at hv ⊢
      cases hd : (ops[j]?).bind (·.dst) with
      | none => rw [hd] at hv; exact hv.elim
      | some d =>
        rw [hd] at hv
        simp only at hv ⊢
        cases ht : t d <;> rw [ht] at hv <;> first | exact hv.elim | exact hN _ hv | exact ⟨fun hx => hE _ (hv.1 hx), fun hx => hN _ (hv.2 hx)⟩

/-- A region whose operation number k is such a call. -/
theorem aw_callK {S : Sums} {id : Nat} {l : List Oper} {o : Oper} {f : Operand} {args : Array Operand} {Ts : Array TypeId} {Q : Exit → Tmps → Heap → Nat → Prop} (k : Nat) (hS : SumOk P S) (ho : opsOk N l.toArray = true) (hk : l[k]? = some o) (hg : o.guard = none)
    (hop : o.op = .call { callee := .value f, args := args, argTypes := Ts })
    (hv : vcR P S l.toArray (l.take k) t h n (fun t h n => ∃ g first cap xs Φ, aev t f = .fn (.func g) first cap ∧ first ++ args.toList.map (aev t) ++ cap = xs ∧ DRel P g xs h n Φ ∧
      ∀ r h' n', n ≤ n' → Φ r h' n' → vcR P S l.toArray (l.drop (k + 1)) (put t o.dst r) h' n' (fun t h n => Q .normal t h n))) : AWp P N (.region id l.toArray false) t h n Q := by
  refine AWp.region ho ?_
  have hkl : k < l.length := by
    rcases Nat.lt_or_ge k l.length with h1 | h1
    · exact h1
    · rw [List.getElem?_eq_none h1] at hk; cases hk
  refine vcR_pre hS (l1 := l.take k) (l2 := l.drop k) (by simp) ?_
  have hlen : (l.take k).length = k := by rw [List.length_take]; omega
  rw [hlen, Nat.zero_add]
  have imp : ∀ t h n, (∃ g first cap xs Φ, aev t f = .fn (.func g) first cap ∧ first ++ args.toList.map (aev t) ++ cap = xs ∧ DRel P g xs h n Φ ∧
      ∀ r h' n', n ≤ n' → Φ r h' n' → vcR P S l.toArray (l.drop (k + 1)) (put t o.dst r) h' n' (fun t h n => Q .normal t h n)) → RW P N l.toArray k t h n (fun t h n => Q .normal t h n) := fun t h n ⟨g, first, cap, xs, Φ, h1, h2, h3, h4⟩ => by
    subst h2
    refine RW.callR (o := o) (by simpa using hk) (by simp [wantedA, hg]) hop h1 h3 (fun r h' n' hn hΦ => ?_)
    exact vcR_sound hS (by simp) (h4 r h' n' hn hΦ)
  refine vcR_mono (fun t h n hx => imp t h n hx) hv

end Go.Av
