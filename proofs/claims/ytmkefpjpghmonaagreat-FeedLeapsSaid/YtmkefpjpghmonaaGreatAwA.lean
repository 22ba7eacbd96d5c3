/- Steps through code, told shortly: each rule finds its own side conditions. -/
import Derived.Test.YtmkefpjpghmonaaGreatAvF

section
set_option linter.unusedVariables false
namespace Go.Av

variable {P : Program} {N : Nat} {n n' : Nat} {h h' h0 : Heap} {t : Tmps} {v : AV} {us : List (Nat × Option Row)} {ops : Array Oper} {B W : List Nat} {o : Oper} {l : List Oper} {K : Tmps → Heap → Nat → Prop} {d : Option Tmp} {e : Tmp} {j : Nat} {want u : Bool} {k : Nat} {r r' : List (Nat × List (Nat × Option Row))} {op : Op} {ty : TypeId} {ps : String} {af : Array Edge} {f : Operand} {args : Array Operand} {Ts : Array TypeId} {g : FuncId} {as bs cs : List AV} {sz len : Nat} {gd : Option (Nat × Bool)}

/-- Something that no rewriting looks into. -/
structure Hid (A : Prop) : Prop where
  get : A

/-- What is called, and with what. -/
def calleeA (t : Tmps) (f : Operand) (args : List Operand) : Option (FuncId × List AV) := match aev t f with
  | .fn (.func g) first cap => some (g, first ++ args.map (aev t) ++ cap)
  | _ => none
theorem calleeA_some (hf : calleeA t f args.toList = some (g, as)) : ∃ first cap, aev t f = .fn (.func g) first cap ∧ first ++ args.toList.map (aev t) ++ cap = as := by
  unfold calleeA at hf
  split at hf
  · rename_i first cap hh
    simp only [Option.some.injEq, Prod.mk.injEq] at hf
    obtain ⟨rfl, rfl⟩ := hf
    exact ⟨_, _, hh, rfl⟩
  · cases hf

theorem SoundW.gcall (hw : wantedA ops t o = some true) (ho : opOk o.op = true) {f : Operand} {args : Array Operand} {Ts : Array TypeId} (hop : o.op = .call { callee := .value f, args := args, argTypes := Ts })
    {g : FuncId} {first cap : List AV} (hf : aev t f = .fn (.func g) first cap) {R : Nat → AV} {cs : List AV} (hfree : freeAll cs = true) (hR : ∀ b n, (R b).ren (fun x => if x = b then n else x) = R n) (hN : ∀ b, (R b).names (· = b))
    (hc : ∀ m, DCalls P g (first ++ args.toList.map (aev t) ++ cap) h m (R m) [(m, some (.cells cs))] (m + 1)) : SoundW P ops o t h n (R n) [(n, some (.cells cs))] (n + 1) := by
  refine ⟨Nat.le_succ _, fun U ρ Ro w a hnU hbd hr ht K Q hK => ?_⟩
  rw [wanted_of ht hw]
  simp only [if_true]
  left
  obtain ⟨b0, hb0⟩ := hbd
  have hnn : ¬ U n := hnU n (Nat.le_refl _) (Nat.lt_succ_self _)
  obtain ⟨hfn, _, hcalls⟩ := hc (max b0 (n + 1))
  generalize hbe : max b0 (n + 1) = b at hcalls
  have hb : ∀ j, U j → j < b := fun j hj => by have := hb0 j hj; omega
  have hbU : ¬ U b := fun hU => by have := hb b hU; omega
  have hbn : b ≠ n := by omega
  obtain ⟨xs, hrun, hall⟩ := call_run (w := w) ho hop hf hfn ht
  unfold Oper.wp
  rw [hrun, Oper.upon_enter]
  refine (hcalls U ρ Ro w xs hb hr hall).mono ?_
  rintro e w' ⟨x, ρ', Ro', rfl, h1, h2, h3⟩
  rw [ext_succ] at h1 h2 h3
  have happ : app [(b, some (Row.cells cs))] h = upd h b (some (.cells cs)) := rfl
  have happ' : app [(n, some (Row.cells cs))] h = upd h n (some (.cells cs)) := rfl
  rw [happ] at h1 h3
  have hneb : ∀ j, U j → j ≠ b := fun j hj e => hbU (e ▸ hj)
  have hnen : ∀ j, U j → j ≠ n := fun j hj e => hnn (e ▸ hj)
  -- the new map of numbers
  have hρ : ∀ j, U j → pin ρ' n (ρ' b) j = ρ j := fun j hj => by rw [pin_ne _ _ (hnen j hj)]; exact h3.rr j hj
  have hext : Ext U ρ Ro h w (ins U n) (pin ρ' n (ρ' b)) Ro' (upd h n (some (.cells cs))) w' := by
    refine ⟨fun j hj => .inl hj, hρ, h3.ro0, h3.ro1, h3.os, h3.tape, h3.output, h3.size, h3.blk, h3.zz, fun j r hj => ?_⟩
    by_cases hjn : j = n
    · subst hjn
      rw [pin_same]
      exact h3.lv b _ (upd_same _ _ _)
    · rw [upd_ne _ _ hjn] at hj
      exact .inr ⟨j, r, hj, by rw [hρ j (hr.lt j r hj)]⟩
  have hle := hext.cx hr
  have hM : ∀ a v, (cx (ins U b) ρ' Ro' w').M a v → (cx (ins U n) (pin ρ' n (ρ' b)) Ro' w').M a v := fun _ _ hm => hm
  have hold : ∀ j r, h j = some r → upd h b (some (Row.cells cs)) j = some r := fun j r hj => by rw [upd_ne _ _ (hneb j (hr.lt j r hj))]; exact hj
  have hrel : Rel (ins U n) (pin ρ' n (ρ' b)) Ro' (upd h n (some (.cells cs))) w' := by
    refine ⟨fun j r hj => ?_, fun j hj => ?_, fun j cs' hj => ?_, fun j s pos hj => ?_, fun i j ri rj hi hj he => ?_, fun j r hj => ?_, h1.rob, h1.gl⟩
    · by_cases hjn : j = n
      · exact .inr hjn
      · rw [upd_ne _ _ hjn] at hj; exact .inl (hr.lt j r hj)
    · by_cases hjn : j = n
      · subst hjn; rw [pin_same]; exact h1.bl b (.inr rfl)
      · rw [pin_ne _ _ hjn]; exact h1.bl j (.inl (hj.resolve_right hjn))
    · by_cases hjn : j = n
      · subst hjn
        rw [upd_same] at hj
        injection hj with hj
        injection hj with hj
        subst hj
        rw [pin_same]
        obtain ⟨c, T, lo, hi, g0, g1, g2, g3, g4⟩ := h1.row b cs (upd_same _ _ _)
        exact ⟨c, T, lo, hi, g0, g1, g2, g3, fun k x v hx hv => (g4 k x v hx hv).free (freeAll_get hfree k x hx) hM⟩
      · rw [upd_ne _ _ hjn] at hj
        rw [pin_ne _ _ hjn]
        obtain ⟨c, T, lo, hi, g0, g1, g2, g3, g4⟩ := h1.row j cs' (hold j _ hj)
        obtain ⟨c0, T0, lo0, hi0, k0, k1, k2, k3, k4⟩ := hr.row j cs' hj
        refine ⟨c, T, lo, hi, g0, g1, g2, g3, fun k x v hx hv => ?_⟩
        have hlt : k < c0.size := by
          rcases Nat.lt_or_ge k cs'.length with h' | h'
          · omega
          · rw [List.getElem?_eq_none h'] at hx; cases hx
        have hn := (k4 k x _ hx (Array.getElem?_eq_getElem hlt)).narrow (g4 k x v hx hv)
        have hle2 : ({ cx (ins U b) ρ' Ro' w' with U := U } : Cx).le (cx (ins U n) (pin ρ' n (ρ' b)) Ro' w') :=
          ⟨fun j hj => Or.inl hj, fun j hj => pin_ne _ _ (hnen j hj), fun _ _ hm => hm, fun _ _ => rfl⟩
        exact RV.mono hle2 hn
    · by_cases hjn : j = n
      · subst hjn; rw [upd_same] at hj; cases hj
      · rw [upd_ne _ _ hjn] at hj
        rw [pin_ne _ _ hjn]
        exact h1.iter j s pos (hold j _ hj)
    · by_cases hin : i = n
      · by_cases hjn : j = n
        · omega
        · subst hin
          rw [upd_ne _ _ hjn] at hj
          rw [pin_same, pin_ne _ _ hjn] at he
          exact absurd (h1.inj b j _ _ (upd_same _ _ _) (hold j _ hj) he) (fun e => hneb j (hr.lt j _ hj) e.symm)
      · rw [upd_ne _ _ hin] at hi
        by_cases hjn : j = n
        · subst hjn
          rw [pin_same, pin_ne _ _ hin] at he
          exact absurd (h1.inj i b _ _ (hold i _ hi) (upd_same _ _ _) he) (hneb i (hr.lt i _ hi))
        · rw [upd_ne _ _ hjn] at hj
          rw [pin_ne _ _ hin, pin_ne _ _ hjn] at he
          exact h1.inj i j _ _ (hold i _ hi) (hold j _ hj) he
    · by_cases hjn : j = n
      · subst hjn; rw [pin_same]; exact h1.sep b _ (upd_same _ _ _)
      · rw [upd_ne _ _ hjn] at hj
        rw [pin_ne _ _ hjn]
        exact h1.sep j r (hold j r hj)
  refine hK x w' (pin ρ' n (ρ' b)) Ro' ?_ (by rw [ext_succ]; exact hrel) (by rw [ext_succ]; exact hext)
  rw [ext_succ]
  have hren := RV.ren (D := cx (ins U n) (pin ρ' n (ρ' b)) Ro' w') (S := (· = b)) (σ := fun x => if x = b then n else x) h2 (hN b) (fun j hj _ => by
    have hj : j = b := hj
    subst hj
    simp only [if_true]
    exact ⟨.inr rfl, pin_same _ _ _, rfl⟩) hM
  rw [hR] at hren
  exact hren
theorem SoundL.gcall (hw : wantedA ops t o = some true) (ho : opOk o.op = true) {f : Operand} {args : Array Operand} {Ts : Array TypeId} (hop : o.op = .call { callee := .value f, args := args, argTypes := Ts })
    {g : FuncId} {first cap : List AV} (hf : aev t f = .fn (.func g) first cap) {R : Nat → AV} {cs : List AV} (hfree : freeAll cs = true) (hR : ∀ b n, (R b).ren (fun x => if x = b then n else x) = R n) (hN : ∀ b, (R b).names (· = b))
    (hc : ∀ m, DCalls P g (first ++ args.toList.map (aev t) ++ cap) h m (R m) [(m, some (.cells cs))] (m + 1)) : SoundL (fun t => SoundW P ops o t h n (R n) [(n, some (.cells cs))] (n + 1)) ops o t := fun t' ht => by
  have hx := aev_looks ht
  rw [hop] at hx
  refine .gcall (first := first) (cap := cap) (g := g) (by rw [wantedA_congr ht]; exact hw) ho hop (by rw [hx f (by simp [Op.operands, Call.operands])]; exact hf) hfree hR hN ?_
  rw [List.map_congr_left (fun x hm => hx x (by simp [Op.operands, Call.operands]; exact .inr (by simpa using hm)))]
  exact hc

/-- A function that comes back with a row of new memory. -/
structure FCalls (P : Program) (f : FuncId) (args : List AV) (R : Nat → AV) (cs : List AV) : Prop where
  free : freeAll cs = true
  ren : ∀ b n, (R b).ren (fun x => if x = b then n else x) = R n
  names : ∀ b, (R b).names (· = b)
  calls : ∀ h m, DCalls P f args h m (R m) [(m, some (.cells cs))] (m + 1)

class Ct (P : Program) (f : FuncId) (args : List AV) (r : outParam AV) : Prop where
  pc : PCalls P f args r
class Cf (P : Program) (f : FuncId) (args : List AV) (R : outParam (Nat → AV)) (cs : outParam (List AV)) : Prop where
  fc : FCalls P f args R cs
class Cx' (P : Program) (f : FuncId) (args : List AV) (r : outParam AV) : Prop where
  xc : XCalls P f args r
/-- A bound that is found by itself. -/
class Bd (a b : Nat) : Prop where
  lt : a < b

/-! ### a row of new memory, out of a function that is shown rows of one's own -/
mutual
/-- A value without read-only memory. -/
def AV.flatO : AV → Bool
  | .b _ | .i _ _ | .s _ | .np | .nf | .ni | .sl _ _ _ _ | .p _ _ => true
  | .tup cs | .agg cs => flatOs cs
  | .ro true [] 0 => true
  | _ => false
def flatOs : List AV → Bool
  | [] => true
  | x :: xs => x.flatO && flatOs xs
end
theorem flatOs_get : ∀ {cs : List AV}, flatOs cs = true → ∀ (k : Nat) (x : AV), cs[k]? = some x → x.flatO = true
  | [], _, k, x, hx => by simp at hx
  | y :: cs, hf, k, x, hx => by
    simp only [flatOs, Bool.and_eq_true] at hf
    cases k with
    | zero => simp at hx; subst hx; exact hf.1
    | succ k => exact flatOs_get hf.2 k x (by simpa using hx)
theorem RV.flatO {U : Nat → Prop} {ρ : Nat → Nat} {Ro Ro' : Nat → Prop} {w : World} {x : AV} {v : Value} (h : RV (cx U ρ Ro w) x v) (hf : x.flatO = true) : RV (cx U ρ Ro' w) x v := by
  induction h with
  | b x => exact .b x
  | i k m => exact .i k m
  | s x => exact .s x
  | np => exact .np
  | ron => exact .ron
  | nf => exact .nf
  | ni => exact .ni
  | p j off hj => exact .p j off hj
  | sl sz j off len cap hj hl hc hz => exact .sl (C := cx U ρ Ro' w) sz j off len cap hj hl hc hz
  | tup cs vs h1 h2 ih => exact .tup cs vs h1 (fun k y v hy hv => ih k y v hy hv (flatOs_get (by simpa only [AV.flatO] using hf) k y hy))
  | agg cs vs h1 h2 _ ih => exact .agg cs vs h1 h2 (fun k y v hy hv => ih k y v hy hv (flatOs_get (by simpa only [AV.flatO] using hf) k y hy))
  | q cs off a vs h1 hm _ ih => simp [AV.flatO] at hf
  | ro cs len a cap vs hl hc h1 hm _ ih => simp [AV.flatO] at hf
  | fn f first cap vs us h1 h2 _ _ ih1 ih2 => simp [AV.flatO] at hf
  | ifc t x v _ ih => simp [AV.flatO] at hf
theorem DCalls.keepF {f : FuncId} {args : List AV} {R : AV} {k : Nat} (hd : DCalls P f (args.map (frz h k)) (iters h) n R [(n, some (.cells cs))] (n + 1)) (hf : R.flatO = true) (hc : flatAll cs = true) (hlt : ∀ j r, h j = some r → j < n) : DCalls P f args h n R [(n, some (.cells cs))] (n + 1) := by
  obtain ⟨h1, h2, h3⟩ := hd
  refine ⟨h1, h2, fun U ρ Ro w xs hU hrel hxs => ?_⟩
  have hit : ∀ j r, iters h j = some r → h j = some r ∧ ∀ cs, h j ≠ some (.cells cs) := fun j r hj => by
    unfold iters at hj
    split at hj
    · rename_i s p hx; rw [hx]; exact ⟨hj, fun cs hc => by cases hc⟩
    · cases hj
  obtain ⟨g1, g2, g3⟩ := hrel.frzG (g := h) (h' := iters h) (fun _ _ hj => hj) hit
  refine (h3 U ρ _ w xs hU g1 (hxs.frzG (g3 k))).mono ?_
  rintro e w' ⟨x, ρ', Ro', rfl, k1, k2, k3⟩
  have happ : ∀ g : Heap, app [(n, some (Row.cells cs))] g = upd g n (some (.cells cs)) := fun g => rfl
  rw [happ] at k1 k3
  have same : ∀ b, b < w.heap.size → (∀ j s p, h j = some (.iter s p) → ρ j ≠ b) → w'.heap[b]? = w.heap[b]? := fun b hb hno => k3.blk b hb fun j r hj => by
    unfold iters at hj
    split at hj
    · rename_i s p hx; exact hno j s p hx
    · cases hj
  have hrr := k3.rr
  have hn : ∀ j r, h j = some r → j ≠ n := fun j r hj e => by have := hlt j r hj; omega
  have hnew : w.heap.size ≤ ρ' n := by
    rcases k3.lv n _ (upd_same _ _ _) with h4 | ⟨i, ri, hi, h4⟩
    · exact h4
    · exfalso
      have hi' := (hit i ri hi).1
      have hin := hn i ri hi'
      have := k1.inj i n ri _ (by rw [upd_ne _ _ hin]; exact hi) (upd_same _ _ _) (by rw [hrr i (hrel.lt i ri hi')]; exact h4)
      exact hin this
  have hle : (cx U ρ Ro w).le (cx (ext U n (n + 1)) ρ' Ro w') := ⟨fun j hj => .inl hj, fun j hj => hrr j hj, fun a v hm => ⟨hm.1, by
      have hm2 := hm.2
      unfold World.cell? at hm2 ⊢
      rw [same a.block (hrel.rob _ hm.1) (fun j s p hj he => hrel.sep j _ hj (by rw [he]; exact hm.1))]
      exact hm2⟩, fun j hj => by
      show bsz w' (ρ j) = bsz w (ρ j)
      exact k3.zz _ (hrel.bl j hj)⟩
  refine ⟨x, ρ', Ro, rfl, ?_, k2.flatO hf, ?_⟩
  · rw [happ]
    refine ⟨fun j r hj => ?_, fun j hj => k1.bl j hj, fun j cs' hj => ?_, fun j s p hj => ?_, fun i j ri rj hi hj he => ?_, fun j r hj => ?_, fun b hb => Nat.lt_of_lt_of_le (hrel.rob b hb) k3.size, fun p hp => hle.M _ _ (hrel.gl p hp)⟩
    · by_cases hjn : j = n
      · subst hjn; exact .inr ⟨Nat.le_refl _, Nat.lt_succ_self _⟩
      · rw [upd_ne _ _ hjn] at hj; exact .inl (hrel.lt j r hj)
    · by_cases hjn : j = n
      · subst hjn
        rw [upd_same] at hj
        injection hj with hj
        injection hj with hj
        subst hj
        obtain ⟨c, T, lo, hi, m0, m1, m2, m3, m4⟩ := k1.row j cs (upd_same _ _ _)
        exact ⟨c, T, lo, hi, m0, m1, m2, m3, fun i y u hy hu => (m4 i y u hy hu).flat (flatAll_get hc i y hy)⟩
      · rw [upd_ne _ _ hjn] at hj
        obtain ⟨c, T, lo, hi, m0, m1, m2, m3, m4⟩ := hrel.row j cs' hj
        refine ⟨c, T, lo, hi, ?_, m1, m2, m3, fun i y u hy hu => (m4 i y u hy hu).mono hle⟩
        rw [hrr j (hrel.lt j _ hj), same _ (hrel.bl j (hrel.lt j _ hj)) (fun i s p hi he => ?_), m0]
        have := hrel.inj i j _ _ hi hj he
        subst this
        have hj' : h i = some (.cells cs') := hj
        rw [hi] at hj'; cases hj'
    · by_cases hjn : j = n
      · subst hjn; rw [upd_same] at hj; cases hj
      · rw [upd_ne _ _ hjn] at hj
        have hj' : h j = some (.iter s p) := hj
        exact k1.iter j s p (by rw [upd_ne _ _ hjn]; show iters h j = _; unfold iters; rw [hj'])
    · by_cases hin : i = n
      · by_cases hjn : j = n
        · omega
        · subst hin
          rw [upd_ne _ _ hjn] at hj
          rw [hrr j (hrel.lt j _ hj)] at he
          have := hrel.bl j (hrel.lt j _ hj); omega
      · rw [upd_ne _ _ hin] at hi
        by_cases hjn : j = n
        · subst hjn
          rw [hrr i (hrel.lt i _ hi)] at he
          have := hrel.bl i (hrel.lt i _ hi); omega
        · rw [upd_ne _ _ hjn] at hj
          rw [hrr i (hrel.lt i _ hi), hrr j (hrel.lt j _ hj)] at he
          exact hrel.inj i j ri rj hi hj he
    · by_cases hjn : j = n
      · subst hjn
        intro hro
        have := hrel.rob _ hro; omega
      · rw [upd_ne _ _ hjn] at hj
        rw [hrr j (hrel.lt j _ hj)]; exact hrel.sep j r hj
  · rw [happ]
    refine ⟨fun j hj => .inl hj, hrr, fun b hb => hb, fun b hb => .inl hb, k3.os, k3.tape, k3.output, k3.size, fun b hb hno => same b hb fun j s p hj => hno j _ hj, k3.zz, fun j r hj => ?_⟩
    by_cases hjn : j = n
    · subst hjn; exact .inl hnew
    · rw [upd_ne _ _ hjn] at hj
      exact .inr ⟨j, r, hj, (hrr j (hrel.lt j _ hj)).symm⟩
/-- What is not there yet is no row of the heap. -/
theorem DCalls.under {f : FuncId} {args : List AV} {R : AV} {n' : Nat} (hd : (∀ j r, h j = some r → j < n) → DCalls P f args h n R us n') (hq : (∃ fn, P.funcs[f]? = some fn ∧ fn.body.isSome = true ∧ fn.name ≠ "runtime.NumGoroutine") ∧ n ≤ n') : DCalls P f args h n R us n' := by
  by_cases hh : ∀ j r, h j = some r → j < n
  · exact hd hh
  · refine ⟨hq.1, hq.2, fun U ρ Ro w xs hU hrel hxs => ?_⟩
    exfalso
    exact hh fun j r hj => hU j (hrel.lt j r hj)
theorem FCalls.keep {f : FuncId} {args : List AV} {R : Nat → AV} {k : Nat} (hd : FCalls P f (args.map (frz h k)) R cs) (hf : (R n).flatO = true) (hc : flatAll cs = true) : DCalls P f args h n (R n) [(n, some (.cells cs))] (n + 1) :=
  .under (fun hlt => .keepF (k := k) (hd.calls _ _) hf hc hlt) ⟨(hd.calls h n).1, Nat.le_succ _⟩

/-! ### regions in text order -/
/-- The list is what is left of the region from k on; of its first operation a guard that lets it pass may be left out. -/
def Fit (ops : Array Oper) (t : Tmps) (k : Nat) : List Oper → Prop
  | [] => ops[k]? = none
  | o :: l => ∃ g0, ops[k]? = some { o with guard := g0 } ∧ (g0 = o.guard ∨ (o.guard = none ∧ wantedA ops t { o with guard := g0 } = some true)) ∧ ops.toList.drop (k + 1) = l
theorem Fit.of {k : Nat} (hl : ops.toList.drop k = l) : Fit ops t k l := by
  cases l with
  | nil =>
    have := List.drop_eq_nil_iff.1 hl
    show ops[k]? = none
    rw [Array.getElem?_eq_none_iff]; simpa using this
  | cons o l =>
    refine ⟨o.guard, ?_, .inl rfl, ?_⟩
    · have := congrArg (fun l => l[0]?) hl
      simpa using this
    · have := congrArg List.tail hl
      simpa using this
def VR (P : Program) (N : Nat) (ops : Array Oper) (l : List Oper) (t : Tmps) (h : Heap) (n : Nat) (K : Tmps → Heap → Nat → Prop) : Prop := ∀ k, Fit ops t k l → RW P N ops k t h n K

theorem VR.nil (hk : K t h n) : VR P N ops [] t h n K := fun k hl => RW.end_ hl hk
/-- The first operation is carried out. -/
theorem VR.step (hs : ∀ g0, wantedA ops t ⟨d, op, ty, ps, af, g0⟩ = some true → opOk op = true → SoundO P ops ⟨d, op, ty, ps, af, g0⟩ t h n v us n') (hk : VR P N ops l (put t d v) (app us h) n' K) : VR P N ops (⟨d, op, ty, ps, af, none⟩ :: l) t h n K := fun k hl => by
  obtain ⟨g0, h1, h2, h3⟩ := hl
  have hw : wantedA ops t ⟨d, op, ty, ps, af, g0⟩ = some true := by
    rcases h2 with h2 | h2
    · have : g0 = none := h2
      subst this
      rfl
    · exact h2.2
  exact RW.step h1 (fun ho => hs g0 hw ho) (hk _ (.of h3))
theorem VR.run (he : aeff P op t h n = some (v, us, n')) (hh : app us h = h') (hk : VR P N ops l (put t d v) h' n' K) : VR P N ops (⟨d, op, ty, ps, af, none⟩ :: l) t h n K := by
  subst hh
  exact .step (fun g0 hw ho => .eff hw ho he) hk
theorem VR.pass (hw : wantedA ops t ⟨d, op, ty, ps, af, gd⟩ = some false) (hk : VR P N ops l (put t d (.tup [])) h n K) : VR P N ops (⟨d, op, ty, ps, af, gd⟩ :: l) t h n K := fun k hl => by
  obtain ⟨g0, h1, h2, h3⟩ := hl
  have hg : g0 = gd := by
    rcases h2 with h2 | h2
    · exact h2
    · have : gd = none := h2.1
      subst this
      cases hw
  subst hg
  exact RW.step h1 (fun _ => .skip hw) (by rw [app_nil]; exact hk _ (.of h3))
def wantV (x : AV) (want : Bool) : Option Bool := match x with
  | .b u => some (u == want)
  | .tup _ => some false
  | _ => none
theorem want_at {x : AV} (hj : isD ops j e) (ht : t e = x) : wantedA ops t ⟨d, op, ty, ps, af, some (j, want)⟩ = wantV x want := by
  have hj : (ops[j]?).bind (·.dst) = some e := hj
  unfold wantedA
  simp only [hj, ht]
  cases x <;> rfl
/-- A guard, looked at. -/
def brV (x : AV) (want : Bool) (A B : Prop) : Prop := match x with
  | .b u => (u = want → A) ∧ (u = !want → B)
  | .tup _ => B
  | _ => False
theorem bv_tt {A B : Prop} (hx : A) : brV (.b true) true A B := ⟨fun _ => hx, fun h => (by cases h)⟩
theorem bv_ff {A B : Prop} (hx : A) : brV (.b false) false A B := ⟨fun _ => hx, fun h => (by cases h)⟩
theorem bv_tf {A B : Prop} (hx : B) : brV (.b true) false A B := ⟨fun h => (by cases h), fun _ => hx⟩
theorem bv_ft {A B : Prop} (hx : B) : brV (.b false) true A B := ⟨fun h => (by cases h), fun _ => hx⟩
theorem bv_no {A B : Prop} {xs : List AV} (hx : B) : brV (.tup xs) want A B := hx
theorem VR.guard {x : AV} (hj : isD ops j e) (ht : t e = x) (hk : brV x want (VR P N ops (⟨d, op, ty, ps, af, none⟩ :: l) t h n K) (VR P N ops l (put t d (.tup [])) h n K)) : VR P N ops (⟨d, op, ty, ps, af, some (j, want)⟩ :: l) t h n K := by
  have hW : wantedA ops t ⟨d, op, ty, ps, af, some (j, want)⟩ = wantV x want := want_at hj ht
  cases x with
  | b u =>
    by_cases hu : u = want
    · refine fun k hl => hk.1 hu k ?_
      obtain ⟨g0, h1, h2, h3⟩ := hl
      have hg : g0 = some (j, want) := by
        rcases h2 with h2 | h2
        · exact h2
        · cases h2.1
      subst hg
      exact ⟨_, h1, .inr ⟨rfl, by rw [hW, hu]; simp [wantV]⟩, h3⟩
    · refine .pass (by rw [hW]; simpa [wantV] using hu) (hk.2 ?_)
      revert hu; cases u <;> cases want <;> simp
  | tup xs => exact .pass (by rw [hW]; rfl) hk
  | _ => exact hk.elim

/-! ### a call, its arguments told -/
def VRC (P : Program) (N : Nat) (ops : Array Oper) (d : Option Tmp) (f : Operand) (args : Array Operand) (Ts : Array TypeId) (ty : TypeId) (ps : String) (af : Array Edge) (g : FuncId) (as : List AV) (l : List Oper) (t : Tmps) (h : Heap) (n : Nat) (K : Tmps → Heap → Nat → Prop) : Prop :=
  calleeA t f args.toList = some (g, as) → VR P N ops (⟨d, .call { callee := .value f, args := args, argTypes := Ts }, ty, ps, af, none⟩ :: l) t h n K
theorem VR.callee (hf : calleeA t f args.toList = some (g, as)) (hc : VRC P N ops d f args Ts ty ps af g as l t h n K) : VR P N ops (⟨d, .call { callee := .value f, args := args, argTypes := Ts }, ty, ps, af, none⟩ :: l) t h n K := hc hf
theorem VRC.wide (hc : DCalls P g as h n v us n') (hh : app us h = h') (hk : VR P N ops l (put t d v) h' n' K) : VRC P N ops d f args Ts ty ps af g as l t h n K := fun hf => by
  obtain ⟨first, cap, g1, rfl⟩ := calleeA_some hf
  subst hh
  exact .step (fun g0 hw ho => .call hw ho rfl g1 hc) hk
theorem VRC.pure (hc : PCalls P g as v) (hk : VR P N ops l (put t d v) h n K) : VRC P N ops d f args Ts ty ps af g as l t h n K := .wide (hc h n) (app_nil _) hk
theorem VRC.keep (hz : as.map (frz h 5) = bs) (hc : PCalls P g bs v) (hv : v.flat = true) (hk : VR P N ops l (put t d v) h n K) : VRC P N ops d f args Ts ty ps af g as l t h n K :=
  .wide (us := []) (n' := n) (by subst hz; exact DCalls.keep (hc _ _) hv) (app_nil _) hk
theorem VRC.fresh {R : Nat → AV} (hc : FCalls P g as R cs) (hh : upd h n (some (.cells cs)) = h') (hk : VR P N ops l (put t d (R n)) h' (n + 1) K) : VRC P N ops d f args Ts ty ps af g as l t h n K := .wide (hc.calls h n) (by rw [← hh]; rfl) hk
theorem VRC.freshK {R : Nat → AV} (hz : as.map (frz h 5) = bs) (hc : FCalls P g bs R cs) (hf : (R n).flatO = true) (hfl : flatAll cs = true) (hh : upd h n (some (.cells cs)) = h') (hk : VR P N ops l (put t d (R n)) h' (n + 1) K) : VRC P N ops d f args Ts ty ps af g as l t h n K :=
  .wide (us := [(n, some (.cells cs))]) (n' := n + 1) (by subst hz; exact hc.keep hf hfl) (by rw [← hh]; rfl) hk
theorem VRC.ext (hc : XCalls P g as v) (hk : VR P N ops l (put t d v) h n K) : VRC P N ops d f args Ts ty ps af g as l t h n K := fun hf => by
  obtain ⟨first, cap, g1, rfl⟩ := calleeA_some hf
  exact .step (us := []) (n' := n) (fun g0 hw ho => .ecall hw ho rfl g1 hc) (by rw [app_nil]; exact hk)
/-- What comes is left open but for what is said of it. -/
theorem VRC.rel {Φ : AV → Heap → Nat → Prop} (hc : DRel P g as h n Φ) (hk : ∀ v h' n', n ≤ n' → Φ v h' n' → VR P N ops l (put t d v) h' n' K) : VRC P N ops d f args Ts ty ps af g as l t h n K := fun hf k hl => by
  obtain ⟨g0, h1, h2, h3⟩ := hl
  obtain ⟨first, cap, g1, rfl⟩ := calleeA_some hf
  have hw : wantedA ops t ⟨d, .call { callee := .value f, args := args, argTypes := Ts }, ty, ps, af, g0⟩ = some true := by
    rcases h2 with h2 | h2
    · have : g0 = none := h2
      subst this
      rfl
    · exact h2.2
  exact RW.callR h1 hw rfl g1 hc fun v h' n' hn hΦ => hk v h' n' hn hΦ _ (.of h3)

/-! ### regions in drawn order -/
def VD (P : Program) (N : Nat) (ops : Array Oper) (B W : List Nat) (h0 : Heap) (l : List Oper) (k : Nat) (t : Tmps) (r : List (Nat × List (Nat × Option Row))) (n : Nat) (K : Tmps → Heap → Nat → Prop) : Prop := opsOk N ops = true → Fit ops t k l → DW P N ops B W h0 K k t r n

theorem VD.nil (hh : hpL h0 (fun _ => true) r = h') (hk : K t h' n) : VD P N ops B W h0 [] k t r n K := fun _ hl => .end_ hl (by rw [hh]; exact hk)
theorem VD.step (hs : ∀ g0, wantedA ops t ⟨d, op, ty, ps, af, g0⟩ = some true → opOk op = true → dstOk N ⟨d, op, ty, ps, af, g0⟩ = true → ops[k]? = some ⟨d, op, ty, ps, af, g0⟩ → (∀ v r n, VD P N ops B W h0 l (k + 1) (put t d v) r n K → DW P N ops B W h0 K (k + 1) (put t d v) r n) → DW P N ops B W h0 K k t r n) : VD P N ops B W h0 (⟨d, op, ty, ps, af, none⟩ :: l) k t r n K := fun hok hl => by
  obtain ⟨g0, h1, h2, h3⟩ := hl
  obtain ⟨ho, hd⟩ := opsOk_at hok h1
  have hw : wantedA ops t ⟨d, op, ty, ps, af, g0⟩ = some true := by
    rcases h2 with h2 | h2
    · have : g0 = none := h2
      subst this
      rfl
    · exact h2.2
  exact hs g0 hw ho hd h1 fun v r n hv => hv hok (.of h3)
theorem VD.val (hi : isV P W k op = true) (he : aeff P op t noHeap n = some (v, [], n)) (hk : VD P N ops B W h0 l (k + 1) (put t d v) r n K) : VD P N ops B W h0 (⟨d, op, ty, ps, af, none⟩ :: l) k t r n K :=
  .step fun _ hw ho hd h1 hn => .val h1 hd hi (.eff hw ho he) (hn _ _ _ hk)
/-- What an operation leaves for the region's end. -/
def aft (W : List Nat) (k n n' : Nat) (us : List (Nat × Option Row)) (r r' : List (Nat × List (Nat × Option Row))) : Prop :=
  (us = [] ∧ n' = n ∧ r' = r) ∨ (n ≤ n' ∧ (∀ u ∈ us, n ≤ u.1 ∧ u.1 < n') ∧ r' = (k, us) :: r) ∨ (k ∈ W ∧ n ≤ n' ∧ (∀ u ∈ us, u.1 < n') ∧ r' = (k, us) :: r)
theorem aft0 : aft W k n n [] r r := .inl ⟨rfl, rfl, rfl⟩
theorem aft1 (hn : n ≤ n') (hu : ∀ u ∈ us, n ≤ u.1 ∧ u.1 < n') : aft W k n n' us r ((k, us) :: r) := .inr (.inl ⟨hn, hu, rfl⟩)
theorem aft2 (hw : k ∈ W) (hn : n ≤ n') (hu : ∀ u ∈ us, u.1 < n') : aft W k n n' us r ((k, us) :: r) := .inr (.inr ⟨hw, hn, hu, rfl⟩)
theorem VD.run (hi : isV P W k op = false) (hv : hpL h0 (pre B k) r = h') (he : aeff P op t h' n = some (v, us, n')) (ha : aft W k n n' us r r') (hk : VD P N ops B W h0 l (k + 1) (put t d v) r' n' K) : VD P N ops B W h0 (⟨d, op, ty, ps, af, none⟩ :: l) k t r n K :=
  .step fun _ hw ho hd h1 hn => by
    subst hv
    rcases ha with ⟨rfl, rfl, rfl⟩ | ⟨g1, g2, rfl⟩ | ⟨g0, g1, g2, rfl⟩
    · exact .read h1 hd hi (.eff hw ho he) (hn _ _ _ hk)
    · exact .quiet h1 hd hi g1 g2 (.eff hw ho he) (hn _ _ _ hk)
    · exact .wide h1 hd hi g0 g1 g2 (SoundLO.eff hw ho he) (hn _ _ _ hk)
theorem VD.pass (hi : isV P W k op = false ∨ isV P W k op = true) (hw : wantedA ops t ⟨d, op, ty, ps, af, gd⟩ = some false) (hk : VD P N ops B W h0 l (k + 1) (put t d (.tup [])) r n K) : VD P N ops B W h0 (⟨d, op, ty, ps, af, gd⟩ :: l) k t r n K := fun hok hl => by
  obtain ⟨g0, h1, h2, h3⟩ := hl
  obtain ⟨ho, hd⟩ := opsOk_at hok h1
  have hg : g0 = gd := by
    rcases h2 with h2 | h2
    · exact h2
    · have : gd = none := h2.1
      subst this
      cases hw
  subst hg
  rcases hi with hi | hi
  · exact .read h1 hd hi (.skip hw) (hk hok (.of h3))
  · exact .val h1 hd hi (.skip hw) (hk hok (.of h3))
theorem VD.guard {x : AV} (hj : isD ops j e) (ht : t e = x) (hk : brV x want (VD P N ops B W h0 (⟨d, op, ty, ps, af, none⟩ :: l) k t r n K) (VD P N ops B W h0 l (k + 1) (put t d (.tup [])) r n K)) : VD P N ops B W h0 (⟨d, op, ty, ps, af, some (j, want)⟩ :: l) k t r n K := by
  have hW : wantedA ops t ⟨d, op, ty, ps, af, some (j, want)⟩ = wantV x want := want_at hj ht
  have hi : isV P W k op = false ∨ isV P W k op = true := by cases isV P W k op <;> simp
  cases x with
  | b u =>
    by_cases hu : u = want
    · refine fun hok hl => hk.1 hu hok ?_
      obtain ⟨g0, h1, h2, h3⟩ := hl
      have hg : g0 = some (j, want) := by
        rcases h2 with h2 | h2
        · exact h2
        · cases h2.1
      subst hg
      exact ⟨_, h1, .inr ⟨rfl, by rw [hW, hu]; simp [wantV]⟩, h3⟩
    · refine .pass hi (by rw [hW]; simpa [wantV] using hu) (hk.2 ?_)
      revert hu; cases u <;> cases want <;> simp
  | tup xs => exact .pass hi (by rw [hW]; rfl) hk
  | _ => exact hk.elim

def VDC (P : Program) (N : Nat) (ops : Array Oper) (B W : List Nat) (h0 : Heap) (d : Option Tmp) (f : Operand) (args : Array Operand) (Ts : Array TypeId) (ty : TypeId) (ps : String) (af : Array Edge) (g : FuncId) (as : List AV) (l : List Oper) (k : Nat) (t : Tmps) (r : List (Nat × List (Nat × Option Row))) (n : Nat) (K : Tmps → Heap → Nat → Prop) : Prop :=
  calleeA t f args.toList = some (g, as) → VD P N ops B W h0 (⟨d, .call { callee := .value f, args := args, argTypes := Ts }, ty, ps, af, none⟩ :: l) k t r n K
theorem VD.callee (hf : calleeA t f args.toList = some (g, as)) (hc : VDC P N ops B W h0 d f args Ts ty ps af g as l k t r n K) : VD P N ops B W h0 (⟨d, .call { callee := .value f, args := args, argTypes := Ts }, ty, ps, af, none⟩ :: l) k t r n K := hc hf
theorem isV_call : isV P W k (.call { callee := .value f, args := args, argTypes := Ts }) = false := by simp [isV, isVal, isLd]
theorem VDC.pure (hc : PCalls P g as v) (hk : VD P N ops B W h0 l (k + 1) (put t d v) r n K) : VDC P N ops B W h0 d f args Ts ty ps af g as l k t r n K := fun hf => by
  obtain ⟨first, cap, g1, rfl⟩ := calleeA_some hf
  exact .step fun _ hw ho hd h1 hn => .read h1 hd isV_call (.pcall hw ho rfl g1 (fun m => hc _ m)) (hn _ _ _ hk)
theorem VDC.keep (hv : hpL h0 (pre B k) r = h') (hz : as.map (frz h' 5) = bs) (hc : PCalls P g bs v) (hf : v.flat = true) (hk : VD P N ops B W h0 l (k + 1) (put t d v) r n K) : VDC P N ops B W h0 d f args Ts ty ps af g as l k t r n K := fun hf' => by
  obtain ⟨first, cap, g1, rfl⟩ := calleeA_some hf'
  subst hv; subst hz
  exact .step fun _ hw ho hd h1 hn => .read h1 hd isV_call (.pcall hw ho rfl g1 (fun m => DCalls.keep (hc _ _) hf)) (hn _ _ _ hk)
theorem VDC.ext (hc : XCalls P g as v) (hk : VD P N ops B W h0 l (k + 1) (put t d v) r n K) : VDC P N ops B W h0 d f args Ts ty ps af g as l k t r n K := fun hf => by
  obtain ⟨first, cap, g1, rfl⟩ := calleeA_some hf
  exact .step fun _ hw ho hd h1 hn => .read h1 hd isV_call (.ecall hw ho rfl g1 hc) (hn _ _ _ hk)
theorem VDC.fresh {R : Nat → AV} (hc : FCalls P g as R cs) (hk : VD P N ops B W h0 l (k + 1) (put t d (R n)) ((k, [(n, some (.cells cs))]) :: r) (n + 1) K) : VDC P N ops B W h0 d f args Ts ty ps af g as l k t r n K := fun hf => by
  obtain ⟨first, cap, g1, rfl⟩ := calleeA_some hf
  exact .step fun _ hw ho hd h1 hn => .quiet h1 hd isV_call (Nat.le_succ _) (fun u hu => by simp at hu; subst hu; simp) (.gcall hw ho rfl g1 hc.free hc.ren hc.names (hc.calls _)) (hn _ _ _ hk)
theorem VDC.wide (hv : hpL h0 (pre B k) r = h') (hc : DCalls P g as h' n v us n') (hW : k ∈ W) (hn : n ≤ n') (hu : ∀ u ∈ us, u.1 < n') (hk : VD P N ops B W h0 l (k + 1) (put t d v) ((k, us) :: r) n' K) : VDC P N ops B W h0 d f args Ts ty ps af g as l k t r n K := fun hf => by
  obtain ⟨first, cap, g1, rfl⟩ := calleeA_some hf
  subst hv
  exact .step fun _ hw ho hd h1 hn' => .wide h1 hd isV_call hW hn hu (SoundLO.call hw ho rfl g1 hc) (hn' _ _ _ hk)

/-! ### code -/
variable {Q : Exit → Tmps → Heap → Nat → Prop} {a b c : Code} {id : Nat}
theorem aw_vr (ho : opsOk N l.toArray = true) (hv : VR P N l.toArray l t h n (fun t h n => Q .normal t h n)) : AWp P N (.region id l.toArray false) t h n Q := .region ho (hv 0 (.of rfl))
/-- A drawn region, with its number and its tables. -/
def DrT (_ : Nat) (_ _ : List Nat) (A : Prop) : Prop := A
theorem aw_vd (hm : P.follows .mixedOrders = true) (ho : opsOk N l.toArray = true) (hd : drawChk P l.toArray B W = true) (hv : VD P N l.toArray B W h l 0 t [] n (fun t h n => Q .normal t h n)) : DrT id B W (AWp P N (.region id l.toArray true) t h n Q) := .draws _ _ hm hd (hv ho (.of rfl))

structure Keeps (n : Nat) (h g : Heap) : Prop where
  k : ∀ x r, x < n → h x = some r → g x = some r
theorem Keeps.refl : Keeps n h h := ⟨fun _ _ _ h => h⟩
theorem Keeps.upd {g : Heap} {j : Nat} {r0 : Option Row} (hj : n ≤ j) (hk : Keeps n h g) : Keeps n h (upd g j r0) := ⟨keepU hj hk.k⟩
theorem Keeps.trans {m : Nat} {g i : Heap} (h1 : Keeps n h g) (h2 : Keeps m g i) (hm : n ≤ m) : Keeps n h i := ⟨fun x r hx hr => h2.k x r (by omega) (h1.k x r hx hr)⟩

end Go.Av
end
