/- A function that comes back with a slice of new memory. -/
import Derived.Test.YtepfknnffooaiaaAv28
namespace Go.Av

variable {P : Program} {n : Nat} {h : Heap} {t : Tmps}

theorem renAll_free {σ : Nat → Nat} {cs : List AV} (hc : freeAll cs = true) : renAll σ cs = cs := renAll_self (S := fun _ => False) (fun _ hf => hf.elim) cs (freeAll_names cs hc)
theorem Out.fresh1 {fn : Func} {e : Exit} {h1 : Heap} {n1 : Nat} {a : Tmp} {sz j len : Nat} {cs : List AV} (he : e = .normal ∨ e = .ret) (hf : fn.results = #[.tmp a]) (hx : t a = .sl sz j 0 len) (hj1 : n ≤ j) (hj2 : j < n1)
    (hr : h1 j = some (.cells cs)) (hc : freeAll cs = true) (hh : ∀ x r, x < n → h x = some r → h1 x = some r) : Out P fn n h (.sl sz n 0 len) [(n, some (.cells cs))] (n + 1) e t h1 n1 := by
  refine ⟨he, [.sl sz j 0 len], fun x => if x = j then n else x, fun _ => j, by rw [hf]; simp [resAll, resT, hx], ⟨Nat.le_succ _, fun x hl => ?_, fun x h2 h3 => ?_⟩, ?_, ?_, fun x r hl h2 _ => hh x r hl h2, fun x r ht h2 => ?_⟩
  · exact if_neg (by omega)
  · refine ⟨hj1, hj2, ?_⟩
    simp only [if_true]; omega
  · simp [resOne, AV.ren]
  · show kept n (n + 1) (fun _ => j) j
    exact .inr ⟨n, Nat.le_refl _, Nat.lt_succ_self _, rfl⟩
  · obtain ⟨u, hu, hux⟩ := ht
    have : u = (n, some (.cells cs)) := by simpa using hu
    subst this
    subst hux
    rw [app_cons, app_nil, upd_same] at h2
    injection h2 with h2
    subst h2
    refine ⟨.inl ⟨Nat.le_refl _, Nat.lt_succ_self _⟩, .cells cs, ?_, ?_, freeAll_names cs hc⟩
    · simp only [oldNo, if_neg (Nat.lt_irrefl _)]; exact hr
    · simp only [Row.ren]; rw [renAll_free hc]

/-! ### functions told by what they tell -/
open Classical in
noncomputable def ofSpec (Sp : List AV → AV → Prop) : List AV → Option AV := fun args => if h : ∃ r, Sp args r then some h.choose else none
theorem ofSpec_ok {Sp : List AV → AV → Prop} {args : List AV} {r : AV} (h : ofSpec Sp args = some r) : Sp args r := by
  unfold ofSpec at h
  split at h
  · rename_i hx; injection h with h; subst h; exact hx.choose_spec
  · cases h
theorem ofSpec_eq {Sp : List AV → AV → Prop} {args : List AV} {r : AV} (h : Sp args r) (u : ∀ r', Sp args r' → r' = r) : ofSpec Sp args = some r := by
  unfold ofSpec
  have hx : ∃ r, Sp args r := ⟨r, h⟩
  rw [dif_pos hx]
  exact congrArg some (u _ hx.choose_spec)
/-- One more function, told so; what is one's own is given up where the answer has memory. -/
noncomputable def Sums.addD (S : Sums) (f : FuncId) (Sp : List AV → AV → Prop) : Sums := S.addG f (viaD (ofSpec Sp))
theorem SumOk.addD {S : Sums} {f : FuncId} {Sp : List AV → AV → Prop} (hS : SumOk P S) (hF : ∀ args r, Sp args r → PCalls P f args r) : SumOk P (S.addD f Sp) :=
  hS.addG (viaD_ok fun args r h => hF args r (ofSpec_ok h))
/-- The same, where the answer has no memory: all stays. -/
noncomputable def Sums.addK (S : Sums) (f : FuncId) (Sp : List AV → AV → Prop) : Sums := S.addG f (viaK (ofSpec Sp))
theorem SumOk.addK {S : Sums} {f : FuncId} {Sp : List AV → AV → Prop} (hS : SumOk P S) (hF : ∀ args r, Sp args r → PCalls P f args r) : SumOk P (S.addK f Sp) :=
  hS.addG (viaK_ok fun args r h => hF args r (ofSpec_ok h))

end Go.Av
