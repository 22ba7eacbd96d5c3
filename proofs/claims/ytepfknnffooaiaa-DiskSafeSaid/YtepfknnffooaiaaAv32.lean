/- Memory that belongs together, as a list of rows: what it is turned to. -/
import Derived.Test.YtepfknnffooaiaaAv31
set_option linter.unusedVariables false
namespace Go.Av

variable {P : Program} {N : Nat} {n n' : Nat} {h h1 g : Heap} {t : Tmps}

abbrev Lst := List (Nat × List AV)
def Lst.keys (L : Lst) : List Nat := L.map (·.1)
def Lst.rows (L : Lst) : List (Nat × Option Row) := L.map fun p => (p.1, some (.cells p.2))
/-- The rows are there, each once. -/
def Has (h : Heap) (L : Lst) : Prop := (∀ p, p ∈ L → h p.1 = some (.cells p.2)) ∧ L.keys.Nodup
/-- The rows of the first list go, those of the second come. -/
def swap (L L' : Lst) : List (Nat × Option Row) := (L.keys.map fun j => (j, none)) ++ L'.rows

theorem app_append : ∀ (us vs : List (Nat × Option Row)) (h : Heap), app (us ++ vs) h = app vs (app us h)
  | [], vs, h => rfl
  | u :: us, vs, h => by rw [List.cons_append, app_cons, app_append us vs, app_cons]
theorem app_off : ∀ {us : List (Nat × Option Row)} {x : Nat} (h : Heap), (∀ u, u ∈ us → u.1 ≠ x) → app us h x = h x
  | [], x, h, _ => rfl
  | u :: us, x, h, hu => by rw [app_cons, app_off _ (fun v hv => hu v (List.mem_cons_of_mem _ hv)), upd_ne _ _ (hu u (List.mem_cons_self ..)).symm]
theorem app_rows : ∀ {L : Lst} (h : Heap), L.keys.Nodup → ∀ p, p ∈ L → app L.rows h p.1 = some (.cells p.2)
  | [], h, _, p, hp => by cases hp
  | q :: L, h, hn, p, hp => by
    simp only [Lst.keys, List.map_cons, List.nodup_cons] at hn
    simp only [Lst.rows, List.map_cons, app_cons]
    rcases List.mem_cons.1 hp with rfl | hp
    · have : app (List.map (fun p => (p.1, some (Row.cells p.2))) L) (upd h p.1 (some (.cells p.2))) p.1 = upd h p.1 (some (.cells p.2)) p.1 := app_off _ fun u hu he => by
        obtain ⟨r, hr, rfl⟩ := List.mem_map.1 hu
        exact hn.1 (List.mem_map.2 ⟨r, hr, he⟩)
      rw [this, upd_same]
    · exact app_rows (L := L) _ hn.2 p hp
theorem swap_in {L L' : Lst} {u : Nat × Option Row} (hu : u ∈ swap L L') : (u.1 ∈ L.keys ∧ u.2 = none) ∨ ∃ p, p ∈ L' ∧ u = (p.1, some (.cells p.2)) := by
  rcases List.mem_append.1 hu with hu | hu
  · obtain ⟨j, hj, rfl⟩ := List.mem_map.1 hu; exact .inl ⟨hj, rfl⟩
  · obtain ⟨p, hp, rfl⟩ := List.mem_map.1 hu; exact .inr ⟨p, hp, rfl⟩
theorem Has.swap {L L' : Lst} (h : Heap) (hn : L'.keys.Nodup) : Has (app (Av.swap L L') h) L' :=
  ⟨fun p hp => by rw [Av.swap, app_append]; exact app_rows _ hn p hp, hn⟩
theorem swap_off {L L' : Lst} {x : Nat} (h : Heap) (h1 : x ∉ L.keys) (h2 : x ∉ L'.keys) : app (swap L L') h x = h x := app_off _ fun u hu he => by
  rcases swap_in hu with ⟨hj, _⟩ | ⟨p, hp, rfl⟩
  · exact h1 (he ▸ hj)
  · exact h2 (he ▸ List.mem_map.2 ⟨p, hp, rfl⟩)
theorem swap_lt {L L' : Lst} (h1 : ∀ j, j ∈ L.keys → j < n) (h2 : ∀ j, j ∈ L'.keys → j < n) : ∀ u, u ∈ swap L L' → u.1 < n := fun u hu => by
  rcases swap_in hu with ⟨hj, _⟩ | ⟨p, hp, rfl⟩
  · exact h1 _ hj
  · exact h2 _ (List.mem_map.2 ⟨p, hp, rfl⟩)
/-- Rows elsewhere make no difference. -/
theorem Has.keep {L : Lst} (hL : Has h L) (hk : ∀ j, j ∈ L.keys → g j = h j) : Has g L :=
  ⟨fun p hp => by rw [hk p.1 (List.mem_map.2 ⟨p, hp, rfl⟩)]; exact hL.1 p hp, hL.2⟩
theorem Has.upd {L : Lst} (hL : Has h L) {j : Nat} (hj : j ∉ L.keys) (r : Option Row) : Has (Av.upd h j r) L := hL.keep fun k hk => upd_ne _ _ fun e => hj (e ▸ hk)
theorem Has.get {L : Lst} (hL : Has h L) {j : Nat} {cs : List AV} (hp : (j, cs) ∈ L) : h j = some (.cells cs) := hL.1 _ hp
theorem Has.isSome {L : Lst} (hL : Has h L) {j : Nat} (hj : j ∈ L.keys) : ∃ cs, h j = some (.cells cs) := by
  obtain ⟨p, hp, rfl⟩ := List.mem_map.1 hj; exact ⟨_, hL.1 p hp⟩

/-- A body that comes to other rows in the place of some. -/
theorem Out.swap {fn : Func} {L L' : Lst} {r : AV} {e : Exit} {n1 n2 : Nat} {xs : List AV} (he : e = .normal ∨ e = .ret) (hx : resAll P t h1 fn.results.toList = some xs) (hr : resOne xs = r) (hn : n ≤ n2) (hn2 : n2 ≤ n1) (hnm : r.names (· < n2))
    (hL : Has h L) (hL' : Has h1 L') (hJ : ∀ j, j ∈ L'.keys → j ∈ L.keys ∨ (n ≤ j ∧ j < n2)) (hcs : ∀ p, p ∈ L' → namesAll (· < n2) p.2) (hk : ∀ x r, x < n → h x = some r → x ∉ L.keys → h1 x = some r) :
    Out P fn n h r (Av.swap L L') n2 e t h1 n1 := by
  subst hr
  have hid : ∀ (j : Nat), j < n2 → kept n n2 id j := fun j hj => by
    by_cases hjn : j < n
    · exact .inl hjn
    · exact .inr ⟨j, by omega, hj, rfl⟩
  have hold : ∀ x, oldNo n id x = x := fun x => by unfold oldNo; split <;> rfl
  refine ⟨he, xs, id, id, hx, ⟨hn, fun _ _ => rfl, fun x h2 h3 => ⟨h2, by show x < n1; omega, rfl⟩⟩, AV.ren_self (fun _ _ => rfl) _ hnm, AV.names_mono hid _ hnm, fun x r hx hh ht => hk x r hx hh fun hj => ht ⟨(x, none), List.mem_append_left _ (List.mem_map.2 ⟨x, hj, rfl⟩), rfl⟩, fun x r ht ha => ?_⟩
  by_cases hx' : x ∈ L'.keys
  · obtain ⟨p, hp, rfl⟩ := List.mem_map.1 hx'
    have hr : r = .cells p.2 := by
      have := (Has.swap (L := L) noHeap hL'.2).1 p hp
      rw [ha] at this
      injection this
    subst hr
    refine ⟨?_, .cells p.2, ?_, (Row.ren_self (S := (· < n2)) (fun _ _ => rfl) (.cells p.2) (hcs p hp)).symm, Row.names_mono hid (.cells p.2) (hcs p hp)⟩
    · rcases hJ _ hx' with h' | h'
      · obtain ⟨cs, hc⟩ := hL.isSome h'
        right; rw [hc]; rfl
      · exact .inl h'
    · rw [hold]; exact hL'.1 p hp
  · exfalso
    have hnone : app (Av.swap L L') noHeap x = none := by
      rw [Av.swap, app_append]
      have e1 : app L'.rows (app (L.keys.map fun j => (j, none)) noHeap) x = app (L.keys.map fun j => (j, none)) noHeap x := app_off _ fun u hu he => hx' (by
        obtain ⟨p, hp, rfl⟩ := List.mem_map.1 hu
        exact he ▸ List.mem_map.2 ⟨p, hp, rfl⟩)
      have e2 := congrFun (app_gone L.keys noHeap) x
      rw [e1]
      refine e2.trans ?_
      show (if x ∈ L.keys then none else noHeap x) = none
      split <;> rfl
    rw [hnone] at ha; cases ha
/-- What is neither told nor new stays. -/
theorem keepX {J : List Nat} {j : Nat} {r0 : Option Row} (hj : n ≤ j ∨ j ∈ J) (hk : ∀ x r, x < n → h x = some r → x ∉ J → g x = some r) : ∀ x r, x < n → h x = some r → x ∉ J → upd g j r0 x = some r := fun x r hx hr hn => by
  rw [upd_ne _ _ (fun e => by subst e; rcases hj with hj | hj; omega; exact hn hj)]; exact hk x r hx hr hn
theorem keepX0 {J : List Nat} : ∀ x r, x < n → h x = some r → x ∉ J → h x = some r := fun _ _ _ h _ => h
theorem keepXs {J : List Nat} {L L' : Lst} (hL : ∀ j, j ∈ L.keys → n ≤ j ∨ j ∈ J) (hL' : ∀ j, j ∈ L'.keys → n ≤ j ∨ j ∈ J) (hk : ∀ x r, x < n → h x = some r → x ∉ J → g x = some r) : ∀ x r, x < n → h x = some r → x ∉ J → app (swap L L') g x = some r := fun x r hx hr hn => by
  rw [swap_off _ (fun hj => by rcases hL x hj with h | h; omega; exact hn h) (fun hj => by rcases hL' x hj with h | h; omega; exact hn h)]; exact hk x r hx hr hn

/-- Where a row is told whose number is none below n, nothing is said. -/
theorem DCalls.vac {f : FuncId} {args : List AV} {r : AV} {us : List (Nat × Option Row)} (hf : ∃ fn, P.funcs[f]? = some fn ∧ fn.body.isSome = true ∧ fn.name ≠ "runtime.NumGoroutine") (hn : n ≤ n') {j : Nat} {x : Row} (hj : h j = some x) (hjn : n ≤ j) : DCalls P f args h n r us n' :=
  ⟨hf, hn, fun U ρ Ro w xs hU hrel _ => absurd (hU j (hrel.lt j x hj)) (by omega)⟩

/-- One call more that is known: this function, these arguments, this heap. -/
noncomputable def Sums.loc (S : Sums) (f : FuncId) (args : List AV) (h : Heap) (r : Res) : Sums := open Classical in fun g a k => if g = f ∧ a = args ∧ k = h then r else S g a k
theorem Sums.loc_at {S : Sums} {f : FuncId} {args : List AV} {r : Res} : S.loc f args h r f args h = r := by unfold Sums.loc; exact if_pos ⟨rfl, rfl, rfl⟩
theorem Sums.loc_ne {S : Sums} {f g : FuncId} {args a : List AV} {k : Heap} {r : Res} (hg : g ≠ f) : S.loc f args h r g a k = S g a k := by unfold Sums.loc; exact if_neg fun hc => hg hc.1
theorem SumOk.loc {S : Sums} {f : FuncId} {args : List AV} {r : Res} (hS : SumOk P S) (hr : ResOk P f args h r) : SumOk P (S.loc f args h r) := by
  have key : ∀ g a k x, S.loc f args h r g a k = x → (g = f ∧ a = args ∧ k = h ∧ r = x) ∨ S g a k = x := fun g a k x hx => by
    unfold Sums.loc at hx
    split at hx
    · rename_i hc; exact .inl ⟨hc.1, hc.2.1, hc.2.2, hx⟩
    · exact .inr hx
  refine ⟨fun g a k x hx n => ?_, fun g a k s l c hx => ?_, fun g a k F hx => ?_⟩
  · rcases key g a k _ hx with ⟨rfl, rfl, rfl, rfl⟩ | h1
    · exact hr n
    · exact hS.pure g a k x h1 n
  · rcases key g a k _ hx with ⟨rfl, rfl, rfl, rfl⟩ | h1
    · exact hr
    · exact hS.fresh g a k s l c h1
  · rcases key g a k _ hx with ⟨rfl, rfl, rfl, rfl⟩ | h1
    · exact fun n => hr n
    · exact hS.wide g a k F h1

end Go.Av
