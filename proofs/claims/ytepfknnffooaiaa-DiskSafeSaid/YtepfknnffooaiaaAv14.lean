/- Code, told of abstract values: operations in a region, calls, the rules for code. -/
import Derived.Test.YtepfknnffooaiaaAv13
import Derived.Deep.LoopGhost
namespace Go.Av

variable {P : Program} {N : Nat} {n n' : Nat} {h : Heap} {t : Tmps} {v : AV} {us : List (Nat × Option Row)}

/-! ### one operation of a region -/

def wantedA (ops : Array Oper) (t : Tmps) (o : Oper) : Option Bool := match o.guard with
  | none => some true
  | some (j, want) => match (ops[j]?).bind (·.dst) with
    | some d => (match t d with | .b u => some (u == want) | .tup _ => some false | _ => none)
    | none => none

theorem wanted_of {C : Cx} {a : Act} (ht : RelT C t a) {ops : Array Oper} {o : Oper} {u : Bool} (hw : wantedA ops t o = some u) : Region.wanted o (yielded ops a.tmps) = u := by
  unfold wantedA at hw
  unfold Region.wanted
  split at hw
  · rename_i hg
    injection hw with hw
    subst hw
    rw [hg]
  · rename_i j want hg
    rw [hg]
    simp only
    split at hw
    · rename_i d hd
      split at hw
      · rename_i b hb
        injection hw with hw
        subst hw
        have hrv := ht d
        rw [hb] at hrv
        have hv := hrv.inv_b
        have hsome : a.tmps[d]? = some (.bool b) := by
          rw [Array.getD_eq_getD_getElem?] at hv
          cases hx : a.tmps[d]? with
          | none => rw [hx] at hv; simp [undef] at hv
          | some x => rw [hx] at hv; simp at hv; rw [hv]
        simp only [yielded, hd, Option.bind_some, hsome]
        cases b <;> cases want <;> rfl
      · rename_i cs hb
        injection hw with hw
        subst hw
        have hrv := ht d
        rw [hb] at hrv
        obtain ⟨vs, hv, _⟩ := hrv.inv_tup
        rw [Array.getD_eq_getD_getElem?] at hv
        have hnone : yielded ops a.tmps j = none := by
          simp only [yielded, hd, Option.bind_some]
          cases hx : a.tmps[d]? with
          | none => rfl
          | some x => rw [hx] at hv; simp at hv; rw [hv]
        rw [hnone]
        cases want <;> rfl
      · cases hw
    · cases hw

/-- One operation of a region, in a heap that is so: carried out it leaves this. -/
def SoundO (P : Program) (ops : Array Oper) (o : Oper) (t : Tmps) (h : Heap) (n : Nat) (v : AV) (us : List (Nat × Option Row)) (n' : Nat) : Prop :=
  n ≤ n' ∧ ∀ U ρ Ro w a, (∀ j, U j → j < n) → Rel U ρ Ro h w → RelT (cx U ρ Ro w) t a → ∀ (K : Act → World → Prop) (Q : Exit → Act → World → Prop),
    (∀ x w' ρ' Ro', RV (cx (Av.ext U n n') ρ' Ro' w') v x → Rel (Av.ext U n n') ρ' Ro' (app us h) w' → Ext U ρ Ro h w (Av.ext U n n') ρ' Ro' (app us h) w' → K (a.put o.dst x) w') →
    (if Region.wanted o (yielded ops a.tmps) then o.wp P a w K Q ∨ (o.asks P a w ∧ LetsOut Q) else K (a.put o.dst undef) w)

theorem SoundO.skip {ops : Array Oper} {o : Oper} (hw : wantedA ops t o = some false) : SoundO P ops o t h n (.tup []) [] n := by
  refine ⟨Nat.le_refl _, fun U ρ Ro w a hb hr ht K Q hK => ?_⟩
  rw [wanted_of ht hw, ext_self] at *
  simp only [Bool.false_eq_true, if_false]
  exact hK undef w ρ Ro (rv_undef _) hr (Ext.refl ..)

theorem SoundO.of {ops : Array Oper} {o : Oper} (hw : wantedA ops t o = some true) (hn : n ≤ n') (hs : Sound P o.op t h n v us n') : SoundO P ops o t h n v us n' := by
  refine ⟨hn, fun U ρ Ro w a hb hr ht K Q hK => ?_⟩
  rw [wanted_of ht hw]
  simp only [if_true]
  obtain ⟨x, w', ρ', Ro', h1, h2, h3, h4⟩ := hs o.type o U ρ Ro w a (fun j hj _ hU => by have := hb j hU; omega) hr ht
  have hk := hK x w' ρ' Ro' h2 h3 h4
  left
  unfold Oper.wp
  rcases h1 with h1 | ⟨h1, rfl⟩
  · rw [h1]; exact hk
  · rw [h1]; exact hk

theorem aeff_le {o : Op} (hv : aeff P o t h n = some (v, us, n')) : n ≤ n' := by
  have hval : ∀ r : Option AV, (r.map fun v => (v, ([] : List (Nat × Option Row)), n)) = some (v, us, n') → n ≤ n' := fun r hr => by
    obtain ⟨_, _, rfl⟩ := val_some hr; exact Nat.le_refl _
  have hmk : ∀ (x : AV) (y : List (Nat × Option Row)) (k : Nat), n ≤ k → some (x, y, k) = some (v, us, n') → n ≤ n' := fun x y k hk he => by
    simp only [Option.some.injEq, Prod.mk.injEq] at he; omega
  unfold aeff at hv
  simp only [aconv, abuiltin, aappend, acopy] at hv
  repeat' (first
    | (cases hv; done)
    | exact hval _ hv
    | exact hmk _ _ _ (Nat.le_refl _) hv
    | exact hmk _ _ _ (Nat.le_succ _) hv
    | split at hv)

theorem SoundO.eff {ops : Array Oper} {o : Oper} (hw : wantedA ops t o = some true) (ho : opOk o.op = true) (hv : aeff P o.op t h n = some (v, us, n')) : SoundO P ops o t h n v us n' :=
  .of hw (aeff_le hv) (aeff_sound ho hv)

theorem run_callFunc {g : FuncId} {fn : Func} {w : World} (hf : P.funcs[g]? = some fn) (hb : fn.body.isSome = true) (hn : fn.name ≠ "runtime.NumGoroutine") (args : Array Value) : (callFunc g args).run P w = .ok (.enter g args) w := by
  unfold callFunc
  simp only [Sem.run_bind, run_program, Result.andThen_ok, hf]
  have h1 : (fn.name == "runtime.NumGoroutine") = false := by simpa using hn
  have h2 : fn.body.isNone = false := by cases hfb : fn.body <;> simp_all
  simp [h1, h2]

theorem SoundO.call {ops : Array Oper} {o : Oper} (hw : wantedA ops t o = some true) (ho : opOk o.op = true) {f : Operand} {args : Array Operand} {Ts : Array TypeId} (hop : o.op = .call { callee := .value f, args := args, argTypes := Ts })
    {g : FuncId} {first cap : List AV} (hf : aev t f = .fn (.func g) first cap) (hc : DCalls P g (first ++ args.toList.map (aev t) ++ cap) h n v us n') : SoundO P ops o t h n v us n' := by
  obtain ⟨⟨fn, hfn, hbody, hname⟩, hn, hcalls⟩ := hc
  refine ⟨hn, fun U ρ Ro w a hb hr ht K Q hK => ?_⟩
  rw [wanted_of ht hw]
  simp only [if_true]
  left
  have hx : ∀ x ∈ o.op.operands.toList, okX x = true := fun x hm => okX1 ho hm
  rw [hop] at hx
  have hrf := rv_ev ht (hx f (by simp [Op.operands, Call.operands]))
  rw [hf] at hrf
  obtain ⟨fv, cv, hfv, hfr, hcr⟩ := hrf.inv_fn
  have hargs := rvs_map ht (x := args.toList) (fun y hy => hx y (by simp [Op.operands, Call.operands]; exact .inr (by simpa using hy)))
  have hall := (hfr.append hargs).append hcr
  have hrun : (execOp a.eval o).run P w = .ok (.enter g (fv ++ args.map a.eval ++ cv)) w := by
    simp only [execOp, hop, resolve, hfv, Deferred.ofValue, Sem.run_bind, Sem.run_pure, Result.andThen_ok, invoke]
    exact run_callFunc hfn hbody hname _
  unfold Oper.wp
  rw [hrun, Oper.upon_enter]
  have hcall := hcalls U ρ Ro w _ hb hr hall
  have hlist : (fv.toList ++ args.toList.map a.eval ++ cv.toList).toArray = fv ++ args.map a.eval ++ cv := by
    apply Array.ext'; simp
  rw [hlist] at hcall
  refine hcall.mono ?_
  rintro e w' ⟨x, ρ', Ro', rfl, h1, h2, h3⟩
  exact hK x w' ρ' Ro' h2 h1 h3

/-! ### states -/
structure St (N : Nat) (U : Nat → Prop) (n : Nat) (ρ : Nat → Nat) (Ro : Nat → Prop) (h : Heap) (w : World) (t : Tmps) (a : Act) : Prop where
  bd : ∀ j, U j → j < n
  rel : Rel U ρ Ro h w
  tm : RelT (cx U ρ Ro w) t a
  sz : a.tmps.size = N
  df : a.defers = []

theorem ext_bd {U : Nat → Prop} (h : ∀ j, U j → j < n) (hn : n ≤ n') : ∀ j, ext U n n' j → j < n' := fun j hj => by
  rcases hj with hj | hj
  · have := h j hj; omega
  · exact hj.2

def dstOk (N : Nat) (o : Oper) : Bool := match o.dst with | some d => decide (d < N) | none => true
theorem dstOk_lt {o : Oper} (hd : dstOk N o = true) : ∀ k, o.dst = some k → k < N := fun k hk => by
  unfold dstOk at hd; rw [hk] at hd; simpa using hd

/-- What is behind. -/
def Post (N : Nat) (U : Nat → Prop) (ρ : Nat → Nat) (Ro : Nat → Prop) (h : Heap) (w : World) (n : Nat) (Q : Exit → Tmps → Heap → Nat → Prop) : Exit → Act → World → Prop := fun e a' w' =>
  ∃ t' h' n' ρ' Ro', n ≤ n' ∧ St N (ext U n n') n' ρ' Ro' h' w' t' a' ∧ Ext U ρ Ro h w (ext U n n') ρ' Ro' h' w' ∧ Q e t' h' n'

def opsOk (N : Nat) (ops : Array Oper) : Bool := ops.all fun o => opOk o.op && dstOk N o
theorem opsOk_at {ops : Array Oper} (ho : opsOk N ops = true) {k : Nat} {o : Oper} (hk : ops[k]? = some o) : opOk o.op = true ∧ dstOk N o = true := by
  unfold opsOk at ho
  rw [Array.all_eq_true_iff_forall_mem] at ho
  have := ho o (Array.mem_of_getElem? hk)
  simpa using this

/-- A region's operations from number k on. -/
def RW (P : Program) (N : Nat) (ops : Array Oper) (k : Nat) (t : Tmps) (h : Heap) (n : Nat) (Q : Tmps → Heap → Nat → Prop) : Prop :=
  opsOk N ops = true → ∀ U ρ Ro w a, St N U n ρ Ro h w t a → ∀ Qc : Exit → Act → World → Prop,
    (∀ t' h' n' ρ' Ro' a' w', n ≤ n' → St N (ext U n n') n' ρ' Ro' h' w' t' a' → Ext U ρ Ro h w (ext U n n') ρ' Ro' h' w' → Q t' h' n' → Qc .normal a' w') → wpList P ops Qc (ops.toList.drop k) a w

theorem RW.end_ {ops : Array Oper} {k : Nat} {Q : Tmps → Heap → Nat → Prop} (hk : ops[k]? = none) (hq : Q t h n) : RW P N ops k t h n Q := by
  intro ho U ρ Ro w a hst Qc hQ
  have : ops.toList.drop k = [] := List.drop_eq_nil_iff.2 (by rw [Array.length_toList]; exact Array.getElem?_eq_none_iff.1 hk)
  rw [this]
  exact hQ t h n ρ Ro a w (Nat.le_refl _) (by rw [ext_self]; exact hst) (by rw [ext_self]; exact Ext.refl ..) hq

theorem RW.step {ops : Array Oper} {k : Nat} {Q : Tmps → Heap → Nat → Prop} {o : Oper} (hk : ops[k]? = some o) (hs : opOk o.op = true → SoundO P ops o t h n v us n') (hr : RW P N ops (k + 1) (put t o.dst v) (app us h) n' Q) : RW P N ops k t h n Q := by
  intro ho U ρ Ro w a hst Qc hQ
  obtain ⟨h1, h2⟩ := opsOk_at ho hk
  obtain ⟨hn, hso⟩ := hs h1
  have hd : ops.toList.drop k = o :: ops.toList.drop (k + 1) := by
    rw [List.drop_eq_getElem_cons (by rw [Array.length_toList]; exact (Array.getElem?_eq_some_iff.1 hk).1)]
    congr 1
    have := (Array.getElem?_eq_some_iff.1 hk).2
    simpa using this
  rw [hd]
  refine hso U ρ Ro w a hst.bd hst.rel hst.tm _ _ (fun x w' ρ' Ro' hv hrel hext => ?_)
  have hle := hext.cx hst.rel
  have hst' : St N (ext U n n') n' ρ' Ro' (app us h) w' (put t o.dst v) (a.put o.dst x) :=
    ⟨ext_bd hst.bd hn, hrel, (hst.tm.mono hle).put (fun k hk => by rw [hst.sz]; exact dstOk_lt h2 k hk) hv,
     by rw [← hst.sz]; cases o.dst <;> simp [Act.put], by rw [← hst.df]; cases o.dst <;> rfl⟩
  refine hr ho _ ρ' Ro' w' _ hst' Qc (fun t' h' n'' ρ'' Ro'' a' w'' hn' hst'' hext' hq => ?_)
  rw [ext_ext _ hn hn'] at hst'' hext'
  exact hQ t' h' n'' ρ'' Ro'' a' w'' (Nat.le_trans hn hn') hst'' (hext.trans hext') hq

/-! ### code -/
def thenQ (K : Tmps → Heap → Nat → Prop) (Q : Exit → Tmps → Heap → Nat → Prop) : Exit → Tmps → Heap → Nat → Prop := fun e t h n => match e with
  | .normal => K t h n
  | e => Q e t h n
def inBlockQ (id : Nat) (Q : Exit → Tmps → Heap → Nat → Prop) : Exit → Tmps → Heap → Nat → Prop := fun e t h n => match e with
  | .exit id' => if id' = id then Q .normal t h n else Q (.exit id') t h n
  | e => Q e t h n

def codeOk (N : Nat) (draw : Array Oper → Bool) : Code → Bool
  | .skip | .ret | .exit _ => true
  | .region _ ops d => opsOk N ops && (!d || draw ops)
  | .seq a b => codeOk N draw a && codeOk N draw b
  | .cond c a b => okX c && codeOk N draw a && codeOk N draw b
  | .block _ c | .loop c => codeOk N draw c
  | _ => false

end Go.Av
