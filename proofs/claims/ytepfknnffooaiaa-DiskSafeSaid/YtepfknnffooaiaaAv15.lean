/- Regions whose order is drawn: what each operation comes to is fixed up front; whatever the order, it comes to that. Part 1: what is needed. -/
import Derived.Test.YtepfknnffooaiaaAv14
namespace Go.Av

variable {P : Program} {N : Nat} {n n' : Nat} {h : Heap} {t : Tmps} {v : AV} {us : List (Nat × Option Row)}

/-! ### an operation hangs on its operands alone -/
theorem abuiltin_congr {b : Builtin} {args : List Operand} {Ts : List TypeId} {t' : Tmps} (hx : ∀ x ∈ args, aev t x = aev t' x) : abuiltin P b args Ts t h n = abuiltin P b args Ts t' h n := by
  unfold abuiltin
  split <;> simp_all

theorem aeff_congr {o : Op} {t' : Tmps} (hx : ∀ x ∈ o.operands.toList, aev t x = aev t' x) : aeff P o t h n = aeff P o t' h n := by
  have pairs : ∀ ps : Array (Nat × Operand), (∀ p ∈ ps.toList, aev t p.2 = aev t' p.2) → (ps.toList.map fun (p : Nat × Operand) => (p.1, aev t p.2)) = (ps.toList.map fun (p : Nat × Operand) => (p.1, aev t' p.2)) ∧
      (ps.toList.all fun (p : Nat × Operand) => (aev t p.2).boxable) = (ps.toList.all fun (p : Nat × Operand) => (aev t' p.2).boxable) := fun ps hp =>
    ⟨List.map_congr_left fun p hm => by rw [hp p hm], by
      rw [Bool.eq_iff_iff, List.all_eq_true, List.all_eq_true]
      constructor <;> intro hh p hm <;> have := hh p hm
      · rwa [hp p hm] at this
      · rwa [hp p hm]⟩
  cases o <;> simp only [Op.operands] at hx <;> simp only [aeff]
  case build T ps =>
    have hp := pairs ps (fun p hm => hx p.2 (by simp; exact ⟨p.1, by simpa using hm⟩))
    simp only [hp.1, hp.2]
  case buildSlice T len ps =>
    have hp := pairs ps (fun p hm => hx p.2 (by simp; exact ⟨p.1, by simpa using hm⟩))
    simp only [hp.1, hp.2]
  case makeFunc f first cap =>
    have h1 : first.toList.map (aev t) = first.toList.map (aev t') := List.map_congr_left fun x hm => hx x (by simp; exact .inl (by simpa using hm))
    have h2 : cap.toList.map (aev t) = cap.toList.map (aev t') := List.map_congr_left fun x hm => hx x (by simp; exact .inr (by simpa using hm))
    rw [h1, h2]
  case slice T x lo hi mx =>
    cases mx with
    | none => cases lo <;> cases hi <;> simp_all
    | some m => rfl
  case call c =>
    obtain ⟨callee, args, Ts⟩ := c
    cases callee with
    | builtin b =>
      simp only
      exact abuiltin_congr (fun x hm => hx x (by simpa [Call.operands] using hm))
    | _ => rfl
  case next x b => cases b <;> simp_all
  all_goals (first | rfl | (simp_all; done))

/-- It does not look at the heap. -/
def isVal (P : Program) : Op → Bool
  | .move _ | .assign _ | .pick .. | .fieldAddr .. | .field .. | .binOp .. | .unOp .. | .makeInterface .. | .makeFunc .. | .extract .. | .indexAddr .. | .index .. | .nilCheck _ | .typeAssert .. => true
  | .call { callee := .builtin .len, .. } | .call { callee := .builtin .max, .. } | .call { callee := .builtin .min, .. } => true
  | .convert _ d _ => match kiT P d with | some (.int _) => true | _ => false
  | _ => false

def noHeap : Heap := fun _ => none

/-- One operation of a region, at a time when numbers beyond its own are used already. -/
def SoundW (P : Program) (ops : Array Oper) (o : Oper) (t : Tmps) (h : Heap) (n : Nat) (v : AV) (us : List (Nat × Option Row)) (n' : Nat) : Prop :=
  n ≤ n' ∧ ∀ U ρ Ro w a, (∀ j, n ≤ j → j < n' → ¬ U j) → (∃ b, ∀ j, U j → j < b) → Rel U ρ Ro h w → RelT (cx U ρ Ro w) t a → ∀ (K : Act → World → Prop) (Q : Exit → Act → World → Prop),
    (∀ x w' ρ' Ro', RV (cx (Av.ext U n n') ρ' Ro' w') v x → Rel (Av.ext U n n') ρ' Ro' (app us h) w' → Ext U ρ Ro h w (Av.ext U n n') ρ' Ro' (app us h) w' → K (a.put o.dst x) w') →
    (if Region.wanted o (yielded ops a.tmps) then o.wp P a w K Q ∨ (o.asks P a w ∧ LetsOut Q) else K (a.put o.dst undef) w)

theorem SoundW.skip {ops : Array Oper} {o : Oper} (hw : wantedA ops t o = some false) : SoundW P ops o t h n (.tup []) [] n := by
  refine ⟨Nat.le_refl _, fun U ρ Ro w a _ _ hr ht K Q hK => ?_⟩
  rw [wanted_of ht hw, ext_self] at *
  simp only [Bool.false_eq_true, if_false]
  exact hK undef w ρ Ro (rv_undef _) hr (Ext.refl ..)

theorem SoundW.eff {ops : Array Oper} {o : Oper} (hw : wantedA ops t o = some true) (ho : opOk o.op = true) (hv : aeff P o.op t h n = some (v, us, n')) : SoundW P ops o t h n v us n' := by
  refine ⟨aeff_le hv, fun U ρ Ro w a hb _ hr ht K Q hK => ?_⟩
  rw [wanted_of ht hw]
  simp only [if_true]
  obtain ⟨x, w', ρ', Ro', h1, h2, h3, h4⟩ := aeff_sound ho hv o.type o U ρ Ro w a hb hr ht
  have hk := hK x w' ρ' Ro' h2 h3 h4
  left
  unfold Oper.wp
  rcases h1 with h1 | ⟨h1, rfl⟩
  · rw [h1]; exact hk
  · rw [h1]; exact hk

/-! ### values that name no row of one's own -/
mutual
def AV.free : AV → Bool
  | .p _ _ | .sl _ _ _ _ => false
  | .q cs _ | .ro _ cs _ | .agg cs | .tup cs => freeAll cs
  | .fn _ a b => freeAll a && freeAll b
  | .ifc _ x => x.free
  | _ => true
def freeAll : List AV → Bool
  | [] => true
  | x :: xs => x.free && freeAll xs
end
theorem freeAll_get : ∀ {cs : List AV}, freeAll cs = true → ∀ (k : Nat) (x : AV), cs[k]? = some x → x.free = true
  | [], _, k, x, hx => by simp at hx
  | y :: cs, hf, k, x, hx => by
    simp only [freeAll, Bool.and_eq_true] at hf
    cases k with
    | zero => simp at hx; subst hx; exact hf.1
    | succ k => exact freeAll_get hf.2 k x (by simpa using hx)

theorem RV.free {C D : Cx} {x : AV} {v : Value} (h : RV C x v) (hf : x.free = true) (hM : ∀ a v, C.M a v → D.M a v) : RV D x v := by
  induction h with
  | b x => exact .b x
  | i k m => exact .i k m
  | s x => exact .s x
  | np => exact .np
  | p j off hj => simp [AV.free] at hf
  | q cs off a vs h1 hm _ ih => exact .q cs off a vs h1 (fun k x hx => hM _ _ (hm k x hx)) (fun k x hx => ih k x hx (freeAll_get (by simpa [AV.free] using hf) k x hx))
  | sl sz j off len cap hj hl hc hz => simp [AV.free] at hf
  | ron => exact .ron
  | ro cs len a cap vs hl hc h1 hm _ ih => exact .ro cs len a cap vs hl hc h1 (fun k x hx => hM _ _ (hm k x hx)) (fun k x hx => ih k x hx (freeAll_get (by simpa [AV.free] using hf) k x hx))
  | nf => exact .nf
  | fn f first cap vs us h1 h2 _ _ ih1 ih2 =>
    simp only [AV.free, Bool.and_eq_true] at hf
    exact .fn f first cap vs us h1 h2 (fun k x v hx hv => ih1 k x v hx hv (freeAll_get hf.1 k x hx)) (fun k x v hx hv => ih2 k x v hx hv (freeAll_get hf.2 k x hx))
  | ni => exact .ni
  | ifc t x v _ ih => exact .ifc t x v (ih (by simpa [AV.free] using hf))
  | agg cs vs h1 h2 _ ih => exact .agg cs vs h1 h2 (fun k x v hx hv => ih k x v hx hv (freeAll_get (by simpa [AV.free] using hf) k x hx))
  | tup cs vs h1 _ ih => exact .tup cs vs h1 (fun k x v hx hv => ih k x v hx hv (freeAll_get (by simpa [AV.free] using hf) k x hx))

/-- A function that comes back with a value alone, whatever rows there are. -/
def PCalls (P : Program) (f : FuncId) (args : List AV) (r : AV) : Prop := ∀ h n, DCalls P f args h n r [] n

theorem call_run {o : Oper} (ho : opOk o.op = true) {f : Operand} {args : Array Operand} {Ts : Array TypeId} (hop : o.op = .call { callee := .value f, args := args, argTypes := Ts }) {g : FuncId} {first cap : List AV} (hf : aev t f = .fn (.func g) first cap)
    (hfn : ∃ fn, P.funcs[g]? = some fn ∧ fn.body.isSome = true ∧ fn.name ≠ "runtime.NumGoroutine") {C : Cx} {a : Act} {w : World} (ht : RelT C t a) :
    ∃ xs : List Value, (execOp a.eval o).run P w = .ok (.enter g xs.toArray) w ∧ RVs C (first ++ args.toList.map (aev t) ++ cap) xs := by
  obtain ⟨fn, hfn, hbody, hname⟩ := hfn
  have hx : ∀ x ∈ o.op.operands.toList, okX x = true := fun x hm => okX1 ho hm
  rw [hop] at hx
  have hrf := rv_ev ht (hx f (by simp [Op.operands, Call.operands]))
  rw [hf] at hrf
  obtain ⟨fv, cv, hfv, hfr, hcr⟩ := hrf.inv_fn
  have hargs := rvs_map ht (x := args.toList) (fun y hy => hx y (by simp [Op.operands, Call.operands]; exact .inr (by simpa using hy)))
  have hall := (hfr.append hargs).append hcr
  refine ⟨_, ?_, hall⟩
  have hlist : (fv.toList ++ args.toList.map a.eval ++ cv.toList).toArray = fv ++ args.map a.eval ++ cv := by
    apply Array.ext'; simp
  rw [hlist]
  simp only [execOp, hop, resolve, hfv, Deferred.ofValue, Sem.run_bind, Sem.run_pure, Result.andThen_ok, invoke]
  exact run_callFunc hfn hbody hname _

theorem SoundW.pcall {ops : Array Oper} {o : Oper} (hw : wantedA ops t o = some true) (ho : opOk o.op = true) {f : Operand} {args : Array Operand} {Ts : Array TypeId} (hop : o.op = .call { callee := .value f, args := args, argTypes := Ts })
    {g : FuncId} {first cap : List AV} (hf : aev t f = .fn (.func g) first cap) (hc : ∀ m, DCalls P g (first ++ args.toList.map (aev t) ++ cap) h m v [] m) : SoundW P ops o t h n v [] n := by
  refine ⟨Nat.le_refl _, fun U ρ Ro w a _ hbd hr ht K Q hK => ?_⟩
  rw [wanted_of ht hw]
  simp only [if_true]
  left
  obtain ⟨b, hb⟩ := hbd
  obtain ⟨hfn, _, hcalls⟩ := hc b
  obtain ⟨xs, hrun, hall⟩ := call_run (w := w) ho hop hf hfn ht
  unfold Oper.wp
  rw [hrun, Oper.upon_enter]
  refine (hcalls U ρ Ro w xs hb hr hall).mono ?_
  rintro e w' ⟨x, ρ', Ro', rfl, h1, h2, h3⟩
  rw [ext_self] at h1 h2 h3
  exact hK x w' ρ' Ro' (by rw [ext_self]; exact h2) (by rw [ext_self]; exact h1) (by rw [ext_self]; exact h3)

/-- The numbers that a value names are known from one world; so they are in another. -/
theorem RV.narrow {C : Cx} {x : AV} {v : Value} (h : RV C x v) : ∀ {D : Cx} {v' : Value}, RV D x v' → RV { D with U := C.U } x v' := by
  induction h with
  | b x => intro D v' h'; cases h'; exact .b x
  | i k m => intro D v' h'; cases h'; exact .i k m
  | s x => intro D v' h'; cases h'; exact .s x
  | np => intro D v' h'; cases h'; exact .np
  | p j off hj => intro D v' h'; cases h'; exact .p (C := { D with U := C.U }) j off hj
  | q cs off a vs h1 hm _ ih =>
    intro D v' h'
    obtain ⟨b, us, rfl, g1, g2, g3⟩ := h'.inv_q
    exact .q (C := { D with U := C.U }) cs off b us g1 g2 (fun k x hx => ih k x hx (g3 k x hx))
  | sl sz j off len cap hj hl hc hz =>
    intro D v' h'
    obtain ⟨cap', rfl, _, g1, g2, g3⟩ := h'.inv_sl
    exact .sl (C := { D with U := C.U }) sz j off len cap' hj g1 g2 g3
  | ron => intro D v' h'; cases h'; exact .ron
  | ro cs len a cap vs hl hc h1 hm _ ih =>
    intro D v' h'
    obtain ⟨b, cap', us, rfl, g1, g2, g3, g4, g5⟩ := h'.inv_ro0
    exact .ro (C := { D with U := C.U }) cs len b cap' us g1 g2 g3 g4 (fun k x hx => ih k x hx (g5 k x hx))
  | nf => intro D v' h'; cases h'; exact .nf
  | fn f first cap vs us h1 h2 _ _ ih1 ih2 =>
    intro D v' h'
    obtain ⟨vs', us', rfl, g1, g2⟩ := h'.inv_fn
    refine .fn (C := { D with U := C.U }) f first cap vs' us' (by simpa using g1.1) (by simpa using g2.1) (fun k x v hx hv => ?_) (fun k x v hx hv => ?_)
    · have hlt : k < vs.size := by
        rw [h1]
        rcases Nat.lt_or_ge k first.length with h' | h'
        · exact h'
        · rw [List.getElem?_eq_none h'] at hx; cases hx
      exact ih1 k x _ hx (Array.getElem?_eq_getElem hlt) (g1.2 k x v hx (by simpa using hv))
    · have hlt : k < us.size := by
        rw [h2]
        rcases Nat.lt_or_ge k cap.length with h' | h'
        · exact h'
        · rw [List.getElem?_eq_none h'] at hx; cases hx
      exact ih2 k x _ hx (Array.getElem?_eq_getElem hlt) (g2.2 k x v hx (by simpa using hv))
  | ni => intro D v' h'; cases h'; exact .ni
  | ifc t x v _ ih =>
    intro D v' h'
    obtain ⟨y, rfl, hy⟩ := h'.inv_ifc
    exact .ifc (C := { D with U := C.U }) t x y (ih hy)
  | agg cs vs h1 h2 _ ih =>
    intro D v' h'
    obtain ⟨us, rfl, g1, g2, g3⟩ := h'.inv_agg
    refine .agg (C := { D with U := C.U }) cs us g1 g2 (fun k x v hx hv => ?_)
    have hlt : k < vs.size := by
      rw [h1]
      rcases Nat.lt_or_ge k cs.length with h' | h'
      · exact h'
      · rw [List.getElem?_eq_none h'] at hx; cases hx
    exact ih k x _ hx (Array.getElem?_eq_getElem hlt) (g3 k x v hx hv)
  | tup cs vs h1 _ ih =>
    intro D v' h'
    obtain ⟨us, rfl, g1, g3⟩ := h'.inv_tup
    refine .tup (C := { D with U := C.U }) cs us g1 (fun k x v hx hv => ?_)
    have hlt : k < vs.size := by
      rw [h1]
      rcases Nat.lt_or_ge k cs.length with h' | h'
      · exact h'
      · rw [List.getElem?_eq_none h'] at hx; cases hx
    exact ih k x _ hx (Array.getElem?_eq_getElem hlt) (g3 k x v hx hv)

theorem SoundW.fcall {ops : Array Oper} {o : Oper} (hw : wantedA ops t o = some true) (ho : opOk o.op = true) {f : Operand} {args : Array Operand} {Ts : Array TypeId} (hop : o.op = .call { callee := .value f, args := args, argTypes := Ts })
    {g : FuncId} {first cap : List AV} (hf : aev t f = .fn (.func g) first cap) {sz len : Nat} {cs : List AV} (hfree : freeAll cs = true)
    (hc : ∀ m, DCalls P g (first ++ args.toList.map (aev t) ++ cap) h m (.sl sz m 0 len) [(m, some (.cells cs))] (m + 1)) : SoundW P ops o t h n (.sl sz n 0 len) [(n, some (.cells cs))] (n + 1) := by
  refine ⟨Nat.le_succ _, fun U ρ Ro w a hnU hbd hr ht K Q hK => ?_⟩
  rw [wanted_of ht hw]
  simp only [if_true]
  left
  obtain ⟨b0, hb0⟩ := hbd
  have hnn : ¬ U n := hnU n (Nat.le_refl _) (Nat.lt_succ_self _)
  obtain ⟨hfn, _, hcalls⟩ := hc (max b0 (n + 1))
  generalize hbe : max b0 (n + 1) = b at hcalls
  have hb : ∀ j, U j → j < b := fun j hj => by have := hb0 j hj; omega
  have hbU : ¬ U b := fun hU => by have := hb b hU; omega
  have hbn : b ≠ n := by omega
  obtain ⟨xs, hrun, hall⟩ := call_run (w := w) ho hop hf hfn ht
  unfold Oper.wp
  rw [hrun, Oper.upon_enter]
  refine (hcalls U ρ Ro w xs hb hr hall).mono ?_
  rintro e w' ⟨x, ρ', Ro', rfl, h1, h2, h3⟩
  rw [ext_succ] at h1 h2 h3
  have happ : app [(b, some (Row.cells cs))] h = upd h b (some (.cells cs)) := rfl
  have happ' : app [(n, some (Row.cells cs))] h = upd h n (some (.cells cs)) := rfl
  rw [happ] at h1 h3
  have hneb : ∀ j, U j → j ≠ b := fun j hj e => hbU (e ▸ hj)
  have hnen : ∀ j, U j → j ≠ n := fun j hj e => hnn (e ▸ hj)
  -- the new map of numbers
  have hρ : ∀ j, U j → pin ρ' n (ρ' b) j = ρ j := fun j hj => by rw [pin_ne _ _ (hnen j hj)]; exact h3.rr j hj
  have hext : Ext U ρ Ro h w (ins U n) (pin ρ' n (ρ' b)) Ro' (upd h n (some (.cells cs))) w' := by
    refine ⟨fun j hj => .inl hj, hρ, h3.ro0, h3.ro1, h3.os, h3.tape, h3.output, h3.size, h3.blk, h3.zz, fun j r hj => ?_⟩
    by_cases hjn : j = n
    · subst hjn
      rw [pin_same]
      exact h3.lv b _ (upd_same _ _ _)
    · rw [upd_ne _ _ hjn] at hj
      exact .inr ⟨j, r, hj, by rw [hρ j (hr.lt j r hj)]⟩
  have hle := hext.cx hr
  have hM : ∀ a v, (cx (ins U b) ρ' Ro' w').M a v → (cx (ins U n) (pin ρ' n (ρ' b)) Ro' w').M a v := fun _ _ hm => hm
  have hold : ∀ j r, h j = some r → upd h b (some (Row.cells cs)) j = some r := fun j r hj => by rw [upd_ne _ _ (hneb j (hr.lt j r hj))]; exact hj
  have hrel : Rel (ins U n) (pin ρ' n (ρ' b)) Ro' (upd h n (some (.cells cs))) w' := by
    refine ⟨fun j r hj => ?_, fun j hj => ?_, fun j cs' hj => ?_, fun j s pos hj => ?_, fun i j ri rj hi hj he => ?_, fun j r hj => ?_, h1.rob⟩
    · by_cases hjn : j = n
      · exact .inr hjn
      · rw [upd_ne _ _ hjn] at hj; exact .inl (hr.lt j r hj)
    · by_cases hjn : j = n
      · subst hjn; rw [pin_same]; exact h1.bl b (.inr rfl)
      · rw [pin_ne _ _ hjn]; exact h1.bl j (.inl (hj.resolve_right hjn))
    · by_cases hjn : j = n
      · subst hjn
        rw [upd_same] at hj
        injection hj with hj
        injection hj with hj
        subst hj
        rw [pin_same]
        obtain ⟨c, T, lo, hi, g0, g1, g2, g3, g4⟩ := h1.row b cs (upd_same _ _ _)
        exact ⟨c, T, lo, hi, g0, g1, g2, g3, fun k x v hx hv => (g4 k x v hx hv).free (freeAll_get hfree k x hx) hM⟩
      · rw [upd_ne _ _ hjn] at hj
        rw [pin_ne _ _ hjn]
        obtain ⟨c, T, lo, hi, g0, g1, g2, g3, g4⟩ := h1.row j cs' (hold j _ hj)
        obtain ⟨c0, T0, lo0, hi0, k0, k1, k2, k3, k4⟩ := hr.row j cs' hj
        refine ⟨c, T, lo, hi, g0, g1, g2, g3, fun k x v hx hv => ?_⟩
        have hlt : k < c0.size := by
          rcases Nat.lt_or_ge k cs'.length with h' | h'
          · omega
          · rw [List.getElem?_eq_none h'] at hx; cases hx
        have hn := (k4 k x _ hx (Array.getElem?_eq_getElem hlt)).narrow (g4 k x v hx hv)
        have hle2 : ({ cx (ins U b) ρ' Ro' w' with U := U } : Cx).le (cx (ins U n) (pin ρ' n (ρ' b)) Ro' w') :=
          ⟨fun j hj => Or.inl hj, fun j hj => pin_ne _ _ (hnen j hj), fun _ _ hm => hm, fun _ _ => rfl⟩
        exact RV.mono hle2 hn
    · by_cases hjn : j = n
      · subst hjn; rw [upd_same] at hj; cases hj
      · rw [upd_ne _ _ hjn] at hj
        rw [pin_ne _ _ hjn]
        exact h1.iter j s pos (hold j _ hj)
    · by_cases hin : i = n
      · by_cases hjn : j = n
        · omega
        · subst hin
          rw [upd_ne _ _ hjn] at hj
          rw [pin_same, pin_ne _ _ hjn] at he
          exact absurd (h1.inj b j _ _ (upd_same _ _ _) (hold j _ hj) he) (fun e => hneb j (hr.lt j _ hj) e.symm)
      · rw [upd_ne _ _ hin] at hi
        by_cases hjn : j = n
        · subst hjn
          rw [pin_same, pin_ne _ _ hin] at he
          exact absurd (h1.inj i b _ _ (hold i _ hi) (upd_same _ _ _) he) (hneb i (hr.lt i _ hi))
        · rw [upd_ne _ _ hjn] at hj
          rw [pin_ne _ _ hin, pin_ne _ _ hjn] at he
          exact h1.inj i j _ _ (hold i _ hi) (hold j _ hj) he
    · by_cases hjn : j = n
      · subst hjn; rw [pin_same]; exact h1.sep b _ (upd_same _ _ _)
      · rw [upd_ne _ _ hjn] at hj
        rw [pin_ne _ _ hjn]
        exact h1.sep j r (hold j r hj)
  refine hK x w' (pin ρ' n (ρ' b)) Ro' ?_ (by rw [ext_succ]; exact hrel) (by rw [ext_succ]; exact hext)
  rw [ext_succ]
  obtain ⟨cap', hxv, hj, g1, g2, g3⟩ := h2.inv_sl
  subst hxv
  have := RV.sl (C := cx (ins U n) (pin ρ' n (ρ' b)) Ro' w') sz n 0 len cap' (.inr rfl) g1 g2 (by simp only [cx, pin_same]; exact g3)
  simpa [cx, pin_same] using this

end Go.Av
