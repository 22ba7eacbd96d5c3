/- What called functions come to, when they are shown rows of one's own. A function that comes back with a slice of new memory. Contracts that leave the heap behind a call open but for what is said of it. Rows that stand within other rows' cells become read-only, too. Memory that belongs together, as a list of rows: what it is turned to. -/
import Derived.Test.YtmkefpjpghmonaaGreatAvE

section
set_option linter.unusedVariables false
namespace Go.Av

variable {P : Program} {n n' : Nat} {h h' g : Heap}

/-- What a function comes to is right. -/
def ResOk (P : Program) (f : FuncId) (args : List AV) (h : Heap) : Res → Prop
  | .no => True
  | .pure r => ∀ n, DCalls P f args h n r [] n
  | .fresh sz len cs => freeAll cs = true ∧ ∀ m, DCalls P f args h m (.sl sz m 0 len) [(m, some (.cells cs))] (m + 1)
  | .wide F => ∀ n, DCalls P f args h n (F n).1 (F n).2.1 (F n).2.2
  | .ext r => XCalls P f args r

def Sums.addG (S : Sums) (f : FuncId) (G : List AV → Heap → Res) : Sums := fun g args h => if g = f then G args h else S g args h
theorem SumOk.addG {S : Sums} {f : FuncId} {G : List AV → Heap → Res} (hS : SumOk P S) (hG : ∀ args h, ResOk P f args h (G args h)) : SumOk P (S.addG f G) := by
  have key : ∀ g args h r, S.addG f G g args h = r → (g = f ∧ G args h = r) ∨ S g args h = r := fun g args h r hr => by
    unfold Sums.addG at hr
    split at hr
    · exact .inl ⟨by assumption, hr⟩
    · exact .inr hr
  refine ⟨fun g args h r hr n => ?_, fun g args h a b c hr => ?_, fun g args h F hr => ?_, fun g args h r hr => ?_⟩
  · rcases key g args h _ hr with ⟨rfl, h1⟩ | h1
    · have := hG args h; rw [h1] at this; exact this n
    · exact hS.pure g args h r h1 n
  · rcases key g args h _ hr with ⟨rfl, h1⟩ | h1
    · have := hG args h; rw [h1] at this; exact this
    · exact hS.fresh g args h a b c h1
  · rcases key g args h _ hr with ⟨rfl, h1⟩ | h1
    · have := hG args h; rw [h1] at this; exact this
    · exact hS.wide g args h F h1
  · rcases key g args h _ hr with ⟨rfl, h1⟩ | h1
    · have := hG args h; rw [h1] at this; exact this
    · exact hS.ext g args h r h1

/-- The rows that a value leads to. -/
def rowsOf (h : Heap) : Nat → AV → List Nat
  | 0, _ => []
  | k + 1, .sl _ j _ _ => j :: (match h j with | some (.cells cs) => cs.flatMap (rowsOf h k) | _ => [])
  | k + 1, .p j _ => j :: (match h j with | some (.cells cs) => cs.flatMap (rowsOf h k) | _ => [])
  | k + 1, .agg cs => cs.flatMap (rowsOf h k)
  | k + 1, .fn _ a b => a.flatMap (rowsOf h k) ++ b.flatMap (rowsOf h k)
  | _ + 1, _ => []
def pickH (h : Heap) (D : List Nat) : Heap := fun j => if j ∈ D then h j else none
def gone (D : List Nat) : List (Nat × Option Row) := D.map fun j => (j, none)
theorem app_gone : ∀ (D : List Nat) (h : Heap), app (gone D) h = fun j => if j ∈ D then none else h j
  | [], h => by funext j; simp [gone, app]
  | d :: D, h => by
    have := app_gone D (upd h d none)
    rw [show gone (d :: D) = (d, none) :: gone D from rfl, app_cons, this]
    funext j
    by_cases hj : j ∈ D
    · simp [hj]
    · by_cases hd : j = d
      · subst hd; simp [hj, upd_same]
      · simp [hj, hd, upd_ne _ _ hd]

/-- A function told by what it tells where nothing is one's own: what is one's own is shown, and given up if the answer has memory. -/
def viaD (F : List AV → Option AV) : List AV → Heap → Res := fun args h =>
  match F (args.map (frz (pickH h (args.flatMap (rowsOf h 5))) 5)) with
  | some r => if args.flatMap (rowsOf h 5) = [] then .pure r else .wide fun n => (r, gone (args.flatMap (rowsOf h 5)), n)
  | none => .no
theorem viaD_ok {f : FuncId} {F : List AV → Option AV} (hF : ∀ args r, F args = some r → PCalls P f args r) (args : List AV) (h : Heap) : ResOk P f args h (viaD F args h) := by
  unfold viaD
  split
  · rename_i r hr
    have hd : ∀ n, DCalls P f args h n r (gone (args.flatMap (rowsOf h 5))) n := fun n => by
      refine DCalls.drop (k := 5) (g := pickH h (args.flatMap (rowsOf h 5))) (h' := app (gone (args.flatMap (rowsOf h 5))) h) (fun j cs hj => ?_) (fun j r hj => ?_) (hF _ _ hr _ _) rfl
      · unfold pickH at hj; split at hj
        · exact hj
        · cases hj
      · rw [app_gone] at hj
        simp only at hj
        split at hj
        · cases hj
        · rename_i hn
          refine ⟨hj, fun cs hc => ?_⟩
          unfold pickH at hc; rw [if_neg hn] at hc; cases hc
    split
    · rename_i he
      intro n
      have := hd n
      rw [he] at this
      exact this
    · intro n; exact hd n
  · exact trivial

/-- The same, for an answer without memory: nothing is given up. -/
def viaK (F : List AV → Option AV) : List AV → Heap → Res := fun args h =>
  match F (args.map (frz h 5)) with
  | some r => if r.flat = true then .pure r else .no
  | none => .no
theorem viaK_ok {f : FuncId} {F : List AV → Option AV} (hF : ∀ args r, F args = some r → PCalls P f args r) (args : List AV) (h : Heap) : ResOk P f args h (viaK F args h) := by
  unfold viaK
  split
  · rename_i r hr
    split
    · rename_i hf
      exact fun n => DCalls.keep (k := 5) (hF _ _ hr _ _) hf
    · exact trivial
  · exact trivial

theorem freeAll_mem : ∀ {cs : List AV}, freeAll cs = true → ∀ x ∈ cs, x.free = true
  | y :: cs, hf, x, hx => by
    simp only [freeAll, Bool.and_eq_true] at hf
    rcases List.mem_cons.1 hx with rfl | hx
    · exact hf.1
    · exact freeAll_mem hf.2 x hx
theorem frz_free (g : Heap) : ∀ (k : Nat) (x : AV), x.free = true → frz g k x = x
  | 0, x, _ => by simp [frz]
  | k + 1, x, hf => by
    have all : ∀ (cs : List AV), freeAll cs = true → cs.map (frz g k) = cs := fun cs hc => by
      have : cs.map (frz g k) = cs.map id := List.map_congr_left fun x hx => frz_free g k x (freeAll_mem hc x hx)
      rw [this, List.map_id]
    cases x with
    | sl sz j off len => simp [AV.free] at hf
    | p j off => simp [AV.free] at hf
    | agg cs => simp only [frz]; rw [all cs (by simpa [AV.free] using hf)]
    | fn f a b =>
      simp only [AV.free, Bool.and_eq_true] at hf
      simp only [frz]; rw [all a hf.1, all b hf.2]
    | _ => rfl
theorem rows_free (h : Heap) : ∀ (k : Nat) (x : AV), x.free = true → rowsOf h k x = []
  | 0, x, _ => rfl
  | k + 1, x, hf => by
    have all : ∀ (cs : List AV), freeAll cs = true → cs.flatMap (rowsOf h k) = [] := fun cs hc => by
      rw [List.flatMap_eq_nil_iff]
      exact fun x hx => rows_free h k x (freeAll_mem hc x hx)
    cases x with
    | sl sz j off len => simp [AV.free] at hf
    | p j off => simp [AV.free] at hf
    | agg cs => simp only [rowsOf]; exact all cs (by simpa [AV.free] using hf)
    | fn f a b =>
      simp only [AV.free, Bool.and_eq_true] at hf
      simp only [rowsOf]; rw [all a hf.1, all b hf.2]; rfl
    | _ => rfl
theorem frzs_free (g : Heap) (k : Nat) {cs : List AV} (hc : freeAll cs = true) : cs.map (frz g k) = cs := by
  have : cs.map (frz g k) = cs.map id := List.map_congr_left fun x hx => frz_free g k x (freeAll_mem hc x hx)
  rw [this, List.map_id]
theorem rowss_free (h : Heap) (k : Nat) {cs : List AV} (hc : freeAll cs = true) : cs.flatMap (rowsOf h k) = [] := by
  rw [List.flatMap_eq_nil_iff]
  exact fun x hx => rows_free h k x (freeAll_mem hc x hx)
/-- With nothing of one's own: just what it tells. -/
theorem viaD_free {F : List AV → Option AV} {args : List AV} {r : AV} (hc : freeAll args = true) (hF : F args = some r) (h : Heap) : viaD F args h = .pure r := by
  unfold viaD
  rw [rowss_free h 5 hc, frzs_free _ 5 hc, hF]
  simp
theorem viaK_free {F : List AV → Option AV} {args : List AV} {r : AV} (hc : freeAll args = true) (hF : F args = some r) (hr : r.flat = true) (h : Heap) : viaK F args h = .pure r := by
  unfold viaK
  rw [frzs_free _ 5 hc, hF]
  simp [hr]

end Go.Av
end

section
namespace Go.Av

variable {P : Program} {n : Nat} {h : Heap} {t : Tmps}

theorem renAll_free {σ : Nat → Nat} {cs : List AV} (hc : freeAll cs = true) : renAll σ cs = cs := renAll_self (S := fun _ => False) (fun _ hf => hf.elim) cs (freeAll_names cs hc)
theorem Out.fresh1 {fn : Func} {e : Exit} {h1 : Heap} {n1 : Nat} {a : Tmp} {sz j len : Nat} {cs : List AV} (he : e = .normal ∨ e = .ret) (hf : fn.results = #[.tmp a]) (hx : t a = .sl sz j 0 len) (hj1 : n ≤ j) (hj2 : j < n1)
    (hr : h1 j = some (.cells cs)) (hc : freeAll cs = true) (hh : ∀ x r, x < n → h x = some r → h1 x = some r) : Out P fn n h (.sl sz n 0 len) [(n, some (.cells cs))] (n + 1) e t h1 n1 := by
  refine ⟨he, [.sl sz j 0 len], fun x => if x = j then n else x, fun _ => j, by rw [hf]; simp [resAll, resT, hx], ⟨Nat.le_succ _, fun x hl => ?_, fun x h2 h3 => ?_⟩, ?_, ?_, fun x r hl h2 _ => hh x r hl h2, fun x r ht h2 => ?_⟩
  · exact if_neg (by omega)
  · refine ⟨hj1, hj2, ?_⟩
    simp only [if_true]; omega
  · simp [resOne, AV.ren]
  · show kept n (n + 1) (fun _ => j) j
    exact .inr ⟨n, Nat.le_refl _, Nat.lt_succ_self _, rfl⟩
  · obtain ⟨u, hu, hux⟩ := ht
    have : u = (n, some (.cells cs)) := by simpa using hu
    subst this
    subst hux
    rw [app_cons, app_nil, upd_same] at h2
    injection h2 with h2
    subst h2
    refine ⟨.inl ⟨Nat.le_refl _, Nat.lt_succ_self _⟩, .cells cs, ?_, ?_, freeAll_names cs hc⟩
    · simp only [oldNo, if_neg (Nat.lt_irrefl _)]; exact hr
    · simp only [Row.ren]; rw [renAll_free hc]

/-! ### functions told by what they tell -/
open Classical in
noncomputable def ofSpec (Sp : List AV → AV → Prop) : List AV → Option AV := fun args => if h : ∃ r, Sp args r then some h.choose else none
theorem ofSpec_ok {Sp : List AV → AV → Prop} {args : List AV} {r : AV} (h : ofSpec Sp args = some r) : Sp args r := by
  unfold ofSpec at h
  split at h
  · rename_i hx; injection h with h; subst h; exact hx.choose_spec
  · cases h
theorem ofSpec_eq {Sp : List AV → AV → Prop} {args : List AV} {r : AV} (h : Sp args r) (u : ∀ r', Sp args r' → r' = r) : ofSpec Sp args = some r := by
  unfold ofSpec
  have hx : ∃ r, Sp args r := ⟨r, h⟩
  rw [dif_pos hx]
  exact congrArg some (u _ hx.choose_spec)
/-- One more function, told so; what is one's own is given up where the answer has memory. -/
noncomputable def Sums.addD (S : Sums) (f : FuncId) (Sp : List AV → AV → Prop) : Sums := S.addG f (viaD (ofSpec Sp))
theorem SumOk.addD {S : Sums} {f : FuncId} {Sp : List AV → AV → Prop} (hS : SumOk P S) (hF : ∀ args r, Sp args r → PCalls P f args r) : SumOk P (S.addD f Sp) :=
  hS.addG (viaD_ok fun args r h => hF args r (ofSpec_ok h))
/-- The same, where the answer has no memory: all stays. -/
noncomputable def Sums.addK (S : Sums) (f : FuncId) (Sp : List AV → AV → Prop) : Sums := S.addG f (viaK (ofSpec Sp))
theorem SumOk.addK {S : Sums} {f : FuncId} {Sp : List AV → AV → Prop} (hS : SumOk P S) (hF : ∀ args r, Sp args r → PCalls P f args r) : SumOk P (S.addK f Sp) :=
  hS.addG (viaK_ok fun args r h => hF args r (ofSpec_ok h))

end Go.Av
end

section
set_option linter.unusedVariables false
namespace Go.Av

variable {P : Program} {N : Nat} {n n' : Nat} {h h' : Heap} {t : Tmps} {ops : Array Oper}

/-- Called with these, in a heap that is so: it comes back with something, and a heap, of which Φ holds. -/
def DRel (P : Program) (f : FuncId) (args : List AV) (h : Heap) (n : Nat) (Φ : AV → Heap → Nat → Prop) : Prop :=
  (∃ fn, P.funcs[f]? = some fn ∧ fn.body.isSome = true ∧ fn.name ≠ "runtime.NumGoroutine") ∧
  ∀ U ρ Ro w xs, (∀ j, U j → j < n) → Rel U ρ Ro h w → RVs (cx U ρ Ro w) args xs → Calls P f xs.toArray w fun e w' =>
    ∃ x r h' n' ρ' Ro', e = .returned x ∧ n ≤ n' ∧ Φ r h' n' ∧ Rel (ext U n n') ρ' Ro' h' w' ∧ RV (cx (ext U n n') ρ' Ro' w') r x ∧ Ext U ρ Ro h w (ext U n n') ρ' Ro' h' w'

theorem DCalls.rel {f : FuncId} {args : List AV} {r : AV} {us : List (Nat × Option Row)} (hd : DCalls P f args h n r us n') : DRel P f args h n (fun x g m => x = r ∧ g = app us h ∧ m = n') := by
  obtain ⟨h1, h2, h3⟩ := hd
  refine ⟨h1, fun U ρ Ro w xs hU hrel hxs => (h3 U ρ Ro w xs hU hrel hxs).mono ?_⟩
  rintro e w' ⟨x, ρ', Ro', rfl, k1, k2, k3⟩
  exact ⟨x, r, app us h, n', ρ', Ro', rfl, h2, ⟨rfl, rfl, rfl⟩, k1, k2, k3⟩
theorem DRel.mono {f : FuncId} {args : List AV} {Φ Ψ : AV → Heap → Nat → Prop} (hd : DRel P f args h n Φ) (hi : ∀ r g m, Φ r g m → Ψ r g m) : DRel P f args h n Ψ := by
  obtain ⟨h1, h3⟩ := hd
  refine ⟨h1, fun U ρ Ro w xs hU hrel hxs => (h3 U ρ Ro w xs hU hrel hxs).mono ?_⟩
  rintro e w' ⟨x, r, g, m, ρ', Ro', rfl, k0, k1, k2⟩
  exact ⟨x, r, g, m, ρ', Ro', rfl, k0, hi _ _ _ k1, k2⟩

/-- A function's body comes to something of which Φ holds. -/
def OutR (P : Program) (fn : Func) (Φ : AV → Heap → Nat → Prop) : Exit → Tmps → Heap → Nat → Prop := fun e t h1 n1 =>
  (e = .normal ∨ e = .ret) ∧ ∃ xs, resAll P t h1 fn.results.toList = some xs ∧ Φ (resOne xs) h1 n1

theorem DRel.of {f : FuncId} {fn : Func} {c : Code} {args : List AV} {Φ : AV → Heap → Nat → Prop} (hf : P.funcs[f]? = some fn) (hb : fn.body = some c) (hname : fn.name ≠ "runtime.NumGoroutine") (hlen : args.length ≤ fn.ntmps)
    (hw : AWp P fn.ntmps c (inTmps args) h n (OutR P fn Φ)) : DRel P f args h n Φ := by
  refine ⟨⟨fn, hf, by rw [hb]; rfl, hname⟩, fun U ρ Ro w xs hU hrel hxs => ?_⟩
  refine calls_of_wp hf hb ?_
  have hxl : xs.length = args.length := hxs.1
  have hst : St fn.ntmps U n ρ Ro h w (inTmps args) { tmps := xs.toArray ++ Array.replicate (fn.ntmps - xs.toArray.size) undef, defers := [] } := by
    refine ⟨hU, hrel, fun k => ?_, by simp; omega, rfl⟩
    simp only [inTmps, Array.getD_eq_getD_getElem?, List.getD_eq_getElem?_getD]
    by_cases hk : k < args.length
    · rw [Array.getElem?_append_left (by simp; omega), List.getElem?_eq_getElem hk]
      have : k < xs.length := by omega
      simp only [List.getElem?_toArray, List.getElem?_eq_getElem this, Option.getD_some]
      exact hxs.2 k _ _ (List.getElem?_eq_getElem hk) (List.getElem?_eq_getElem this)
    · rw [List.getElem?_eq_none (by omega), Array.getElem?_append_right (by simp; omega)]
      have : (Array.replicate (fn.ntmps - xs.toArray.size) undef)[k - xs.toArray.size]?.getD undef = undef := by
        rw [Array.getElem?_replicate]; split <;> rfl
      rw [this]
      exact rv_undef _
  refine wp_mono (hw U ρ Ro w _ hst) fun e a' w' hp => ?_
  obtain ⟨t', h1, n1, ρ1, Ro1, g1, g2, g3, hends, ys, k1, k2⟩ := hp
  obtain ⟨v, hv, hrv⟩ := results_run g2.rel g2.tm k1
  have hfin : ∃ v, (results fn a'.tmps).run P w' = .ok v w' ∧ ∃ x r h' n' ρ' Ro', Ending.returned v = .returned x ∧ n ≤ n' ∧ Φ r h' n' ∧ Rel (ext U n n') ρ' Ro' h' w' ∧ RV (cx (ext U n n') ρ' Ro' w') r x ∧ Ext U ρ Ro h w (ext U n n') ρ' Ro' h' w' :=
    ⟨v, hv, v, _, h1, n1, ρ1, Ro1, rfl, g1, k2, g2.rel, hrv, g3⟩
  rcases hends with rfl | rfl
  · exact ⟨g2.df, hfin⟩
  · exact ⟨g2.df, hfin⟩

/-- A call that leaves open what comes, in a region in the text's order. -/
theorem RW.callR {k : Nat} {Q : Tmps → Heap → Nat → Prop} {o : Oper} {f : Operand} {args : Array Operand} {Ts : Array TypeId} {g : FuncId} {first cap : List AV} {Φ : AV → Heap → Nat → Prop} (hk : ops[k]? = some o)
    (hw : wantedA ops t o = some true) (hop : o.op = .call { callee := .value f, args := args, argTypes := Ts }) (hf : aev t f = .fn (.func g) first cap) (hc : DRel P g (first ++ args.toList.map (aev t) ++ cap) h n Φ)
    (hr : ∀ r h' n', n ≤ n' → Φ r h' n' → RW P N ops (k + 1) (put t o.dst r) h' n' Q) : RW P N ops k t h n Q := by
  intro ho U ρ Ro w a hst Qc hQ
  obtain ⟨h1, h2⟩ := opsOk_at ho hk
  obtain ⟨hfn, hcalls⟩ := hc
  have hd : ops.toList.drop k = o :: ops.toList.drop (k + 1) := by
    rw [List.drop_eq_getElem_cons (by rw [Array.length_toList]; exact (Array.getElem?_eq_some_iff.1 hk).1)]
    congr 1
    have := (Array.getElem?_eq_some_iff.1 hk).2
    simpa using this
  rw [hd]
  obtain ⟨xs, hrun, hall⟩ := call_run (w := w) h1 hop hf hfn hst.tm
  have key : ∀ (K : Act → World → Prop) (Q' : Exit → Act → World → Prop),
      (∀ x r h' n' w' ρ' Ro', n ≤ n' → Φ r h' n' → RV (cx (ext U n n') ρ' Ro' w') r x → Rel (ext U n n') ρ' Ro' h' w' → Ext U ρ Ro h w (ext U n n') ρ' Ro' h' w' → K (a.put o.dst x) w') →
      (if Region.wanted o (yielded ops a.tmps) then o.wp P a w K Q' ∨ (o.asks P a w ∧ LetsOut Q') else K (a.put o.dst undef) w) := fun K Q' hK => by
    rw [wanted_of hst.tm hw]
    simp only [if_true]
    left
    unfold Oper.wp
    rw [hrun, Oper.upon_enter]
    refine (hcalls U ρ Ro w _ hst.bd hst.rel hall).mono ?_
    rintro e w' ⟨x, r, h', n', ρ', Ro', rfl, g0, g1, g2, g3, g4⟩
    exact hK x r h' n' w' ρ' Ro' g0 g1 g3 g2 g4
  refine key _ _ (fun x r h' n' w' ρ' Ro' hn hΦ hv hrel hext => ?_)
  have hle := hext.cx hst.rel
  have hst' : St N (ext U n n') n' ρ' Ro' h' w' (put t o.dst r) (a.put o.dst x) :=
    ⟨ext_bd hst.bd hn, hrel, (hst.tm.mono hle).put (fun k hk => by rw [hst.sz]; exact dstOk_lt h2 k hk) hv,
     by rw [← hst.sz]; cases o.dst <;> simp [Act.put], by rw [← hst.df]; cases o.dst <;> rfl⟩
  refine hr r h' n' hn hΦ ho _ ρ' Ro' w' _ hst' Qc (fun t' h'' n'' ρ'' Ro'' a' w'' hn' hst'' hext' hq => ?_)
  rw [ext_ext _ hn hn'] at hst'' hext'
  exact hQ t' h'' n'' ρ'' Ro'' a' w'' (Nat.le_trans hn hn') hst'' (hext.trans hext') hq

theorem vcR_pre {S : Sums} (hS : SumOk P S) : ∀ {l1 l2 : List Oper} {k : Nat} {t : Tmps} {h : Heap} {n : Nat} {K : Tmps → Heap → Nat → Prop}, ops.toList.drop k = l1 ++ l2 → vcR P S ops l1 t h n (fun t h n => RW P N ops (k + l1.length) t h n K) → RW P N ops k t h n K
  | [], _, _, _, _, _, _, _, hv => hv
  | o :: l1, l2, k, t, h, n, K, hl, hv => by
    have hk : ops[k]? = some o := by
      have := congrArg (fun l => l[0]?) hl
      simpa using this
    have hl' : ops.toList.drop (k + 1) = l1 ++ l2 := by
      have := congrArg List.tail hl
      simpa using this
    have e : k + (o :: l1).length = k + 1 + l1.length := by simp only [List.length_cons]; omega
    rw [e] at hv
    simp only [vcR] at hv
    rcases vcG_elim hv with ⟨hw, hv⟩ | ⟨hw, hv⟩
    · obtain ⟨v, us, n', he, hv⟩ := vcE_elim hv
      exact RW.step hk (fun ho => stepE_sound hS hw ho he) (vcR_pre hS hl' hv)
    · exact RW.step hk (fun _ => .skip hw) (by rw [app_nil]; exact vcR_pre hS hl' hv)

theorem vcR_mono {S : Sums} {K K' : Tmps → Heap → Nat → Prop} (hK : ∀ t h n, K t h n → K' t h n) : ∀ {l : List Oper} {t : Tmps} {h : Heap} {n : Nat}, vcR P S ops l t h n K → vcR P S ops l t h n K'
  | [], _, _, _, hv => hK _ _ _ hv
  | o :: l, t, h, n, hv => by
    have hE : ∀ t, (vcE (stepE P S o.op t h n) fun v us n' => vcR P S ops l (put t o.dst v) (app us h) n' K) → (vcE (stepE P S o.op t h n) fun v us n' => vcR P S ops l (put t o.dst v) (app us h) n' K') := fun t he => by
      obtain ⟨v, us, n', h1, h2⟩ := vcE_elim he
      rw [h1]
      exact vcR_mono hK h2
    have hN : ∀ t, vcR P S ops l (put t o.dst (.tup [])) h n K → vcR P S ops l (put t o.dst (.tup [])) h n K' := fun t hx => vcR_mono hK hx
    simp only [vcR] at hv ⊢
    unfold vcG at hv ⊢
    cases hg : o.guard with
    | none => rw [hg] at hv; exact hE _ hv
    | some jw =>
      obtain ⟨j, want⟩ := jw
      rw [hg] at hv
      simp only at hv ⊢
      cases hd : (ops[j]?).bind (·.dst) with
      | none => rw [hd] at hv; exact hv.elim
      | some d =>
        rw [hd] at hv
        simp only at hv ⊢
        cases ht : t d <;> rw [ht] at hv <;> first | exact hv.elim | exact hN _ hv | exact ⟨fun hx => hE _ (hv.1 hx), fun hx => hN _ (hv.2 hx)⟩

/-- A region whose operation number k is such a call. -/
theorem aw_callK {S : Sums} {id : Nat} {l : List Oper} {o : Oper} {f : Operand} {args : Array Operand} {Ts : Array TypeId} {Q : Exit → Tmps → Heap → Nat → Prop} (k : Nat) (hS : SumOk P S) (ho : opsOk N l.toArray = true) (hk : l[k]? = some o) (hg : o.guard = none)
    (hop : o.op = .call { callee := .value f, args := args, argTypes := Ts })
    (hv : vcR P S l.toArray (l.take k) t h n (fun t h n => ∃ g first cap xs Φ, aev t f = .fn (.func g) first cap ∧ first ++ args.toList.map (aev t) ++ cap = xs ∧ DRel P g xs h n Φ ∧
      ∀ r h' n', n ≤ n' → Φ r h' n' → vcR P S l.toArray (l.drop (k + 1)) (put t o.dst r) h' n' (fun t h n => Q .normal t h n))) : AWp P N (.region id l.toArray false) t h n Q := by
  refine AWp.region ho ?_
  have hkl : k < l.length := by
    rcases Nat.lt_or_ge k l.length with h1 | h1
    · exact h1
    · rw [List.getElem?_eq_none h1] at hk; cases hk
  refine vcR_pre hS (l1 := l.take k) (l2 := l.drop k) (by simp) ?_
  have hlen : (l.take k).length = k := by rw [List.length_take]; omega
  rw [hlen, Nat.zero_add]
  have imp : ∀ t h n, (∃ g first cap xs Φ, aev t f = .fn (.func g) first cap ∧ first ++ args.toList.map (aev t) ++ cap = xs ∧ DRel P g xs h n Φ ∧
      ∀ r h' n', n ≤ n' → Φ r h' n' → vcR P S l.toArray (l.drop (k + 1)) (put t o.dst r) h' n' (fun t h n => Q .normal t h n)) → RW P N l.toArray k t h n (fun t h n => Q .normal t h n) := fun t h n ⟨g, first, cap, xs, Φ, h1, h2, h3, h4⟩ => by
    subst h2
    refine RW.callR (o := o) (by simpa using hk) (by simp [wantedA, hg]) hop h1 h3 (fun r h' n' hn hΦ => ?_)
    exact vcR_sound hS (by simp) (h4 r h' n' hn hΦ)
  refine vcR_mono (fun t h n hx => imp t h n hx) hv

/-- The same, where the call is guarded: the guard lets it through. -/
theorem aw_callG {S : Sums} {id : Nat} {l : List Oper} {o : Oper} {f : Operand} {args : Array Operand} {Ts : Array TypeId} {Q : Exit → Tmps → Heap → Nat → Prop} (k : Nat) (hS : SumOk P S) (ho : opsOk N l.toArray = true) (hk : l[k]? = some o)
    (hop : o.op = .call { callee := .value f, args := args, argTypes := Ts })
    (hv : vcR P S l.toArray (l.take k) t h n (fun t h n => ∃ g first cap xs Φ, aev t f = .fn (.func g) first cap ∧ first ++ args.toList.map (aev t) ++ cap = xs ∧ DRel P g xs h n Φ ∧ wantedA l.toArray t o = some true ∧
      ∀ r h' n', n ≤ n' → Φ r h' n' → vcR P S l.toArray (l.drop (k + 1)) (put t o.dst r) h' n' (fun t h n => Q .normal t h n))) : AWp P N (.region id l.toArray false) t h n Q := by
  refine AWp.region ho ?_
  have hkl : k < l.length := by
    rcases Nat.lt_or_ge k l.length with h1 | h1
    · exact h1
    · rw [List.getElem?_eq_none h1] at hk; cases hk
  refine vcR_pre hS (l1 := l.take k) (l2 := l.drop k) (by simp) ?_
  have hlen : (l.take k).length = k := by rw [List.length_take]; omega
  rw [hlen, Nat.zero_add]
  have imp : ∀ t h n, (∃ g first cap xs Φ, aev t f = .fn (.func g) first cap ∧ first ++ args.toList.map (aev t) ++ cap = xs ∧ DRel P g xs h n Φ ∧ wantedA l.toArray t o = some true ∧
      ∀ r h' n', n ≤ n' → Φ r h' n' → vcR P S l.toArray (l.drop (k + 1)) (put t o.dst r) h' n' (fun t h n => Q .normal t h n)) → RW P N l.toArray k t h n (fun t h n => Q .normal t h n) := fun t h n ⟨g, first, cap, xs, Φ, h1, h2, h3, hg, h4⟩ => by
    subst h2
    refine RW.callR (o := o) (by simpa using hk) hg hop h1 h3 (fun r h' n' hn hΦ => ?_)
    exact vcR_sound hS (by simp) (h4 r h' n' hn hΦ)
  refine vcR_mono (fun t h n hx => imp t h n hx) hv

end Go.Av
end

section
set_option linter.unusedVariables false
namespace Go.Av

variable {P : Program} {N : Nat} {n n' : Nat} {h h' g : Heap} {t t' : Tmps} {w : World} {U : Nat → Prop} {ρ : Nat → Nat} {Ro : Nat → Prop}

def Row.frz (g : Heap) (d : Nat) : Row → Row
  | .cells cs => .cells (cs.map (Av.frz g d))
  | r => r

theorem Rel.frzH (hr : Rel U ρ Ro h w) (hg : ∀ j cs, g j = some (.cells cs) → h j = some (.cells cs)) (hh : ∀ j r, h' j = some r → ∃ r0, h j = some r0 ∧ (r = r0 ∨ ∃ d, r = r0.frz g d) ∧ ∀ cs, g j ≠ some (.cells cs)) :
    Rel U ρ (roG g ρ Ro) h' w ∧ Ext U ρ Ro h w U ρ (roG g ρ Ro) h' w ∧ ∀ (k : Nat) (x : AV) (v : Value), RV (cx U ρ Ro w) x v → RV (cx U ρ (roG g ρ Ro) w) (Av.frz g k x) v := by
  obtain ⟨g1, g2, g3⟩ := hr.frzG (g := g) (h' := fun j => match g j with | some (.cells _) => none | _ => h j) hg (fun j r hj => by
    split at hj
    · cases hj
    · rename_i hn; exact ⟨hj, fun cs hc => hn cs hc⟩)
  have old : ∀ j r, h' j = some r → ∃ r0, h j = some r0 ∧ (r = r0 ∨ ∃ d, r = r0.frz g d) ∧ (match g j with | some (.cells _) => none | _ => h j) = some r0 := fun j r hj => by
    obtain ⟨r0, h1, h2, h3⟩ := hh j r hj
    refine ⟨r0, h1, h2, ?_⟩
    split
    · rename_i cs hc; exact absurd hc (h3 cs)
    · exact h1
  refine ⟨⟨fun j r hj => ?_, g1.bl, fun j cs hj => ?_, fun j s p hj => ?_, fun i j ri rj hi hj he => ?_, fun j r hj => ?_, g1.rob, g1.gl⟩, ⟨fun _ h => h, fun _ _ => rfl, g2.ro0, g2.ro1, rfl, rfl, rfl, Nat.le_refl _, fun _ _ _ => rfl, fun _ _ => rfl, fun j r hj => ?_⟩, g3⟩
  · obtain ⟨r0, h1, h2, h3⟩ := old j r hj; exact hr.lt j r0 h1
  · obtain ⟨r0, h1, h2, h3⟩ := old j _ hj
    rcases h2 with rfl | ⟨d, h2⟩
    · exact g1.row j cs h3
    · cases r0 with
      | iter s p => cases h2
      | cells cs0 =>
        simp only [Row.frz, Row.cells.injEq] at h2
        subst h2
        obtain ⟨c, T, lo, hi, k0, k1, k2, k3, k4⟩ := hr.row j cs0 h1
        have get : ∀ {i : Nat} {y : AV}, (cs0.map (Av.frz g d))[i]? = some y → ∃ x, cs0[i]? = some x ∧ y = Av.frz g d x := fun {i y} hy => by
          rw [List.getElem?_map] at hy
          cases hc : cs0[i]? with
          | none => rw [hc] at hy; cases hy
          | some x => rw [hc] at hy; injection hy with hy; exact ⟨x, rfl, hy.symm⟩
        refine ⟨c, T, lo, hi, k0, k1, by rw [List.length_map]; exact k2, fun k y hy => ?_, fun k y v hy hv => ?_⟩ <;> obtain ⟨x, hx, rfl⟩ := get hy
        · rw [frz_one]; exact k3 k x hx
        · exact g3 d x v (k4 k x v hx hv)
  · obtain ⟨r0, h1, h2, h3⟩ := old j _ hj
    have : r0 = .iter s p := by
      rcases h2 with h2 | ⟨d, h2⟩
      · exact h2.symm
      · cases r0 with
        | iter s' p' => simpa [Row.frz] using h2.symm
        | cells cs => cases h2
    subst this
    exact hr.iter j s p h1
  · obtain ⟨r0, h1, _⟩ := old i ri hi
    obtain ⟨r1, h2, _⟩ := old j rj hj
    exact hr.inj i j _ _ h1 h2 he
  · obtain ⟨r0, h1, h2, h3⟩ := old j r hj
    exact g1.sep j r0 h3
  · obtain ⟨r0, h1, _⟩ := old j r hj
    exact .inr ⟨j, r0, h1, rfl⟩

/-- From here on the rows of g are told by their content, in slots and in other rows. -/
theorem AWp.frzH {c : Code} {Q : Exit → Tmps → Heap → Nat → Prop} (hg : ∀ j cs, g j = some (.cells cs) → h j = some (.cells cs)) (hh : ∀ j r, h' j = some r → ∃ r0, h j = some r0 ∧ (r = r0 ∨ ∃ d, r = r0.frz g d) ∧ ∀ cs, g j ≠ some (.cells cs))
    (ht : ∀ x, t' x = t x ∨ ∃ d, t' x = frz g d (t x)) (hc : AWp P N c t' h' n Q) : AWp P N c t h n Q := fun U ρ Ro w a hst => by
  obtain ⟨h1, h2, h3⟩ := hst.rel.frzH hg hh
  have hle' := h2.cx hst.rel
  refine wp_mono (hc _ _ _ _ _ ⟨hst.bd, h1, fun x => ?_, hst.sz, hst.df⟩) fun e a' w' hp => ?_
  · rcases ht x with hx | ⟨d, hx⟩
    · rw [hx]; exact (hst.tm x).mono hle'
    · rw [hx]; exact h3 d _ _ (hst.tm x)
  · obtain ⟨t', h', n', ρ', Ro', g1, g2, g3, g4⟩ := hp
    exact ⟨t', h', n', ρ', Ro', g1, g2, h2.trans g3, g4⟩

/-- One row, j, that stands in the cells of another one, k. -/
theorem AWp.frzIn {c : Code} {Q : Exit → Tmps → Heap → Nat → Prop} {j k : Nat} {cs ds es : List AV} (hj : h j = some (.cells cs)) (hk : h k = some (.cells ds)) (hjk : k ≠ j) (he : ds.map (frz (only j cs) 1) = es)
    (hc : AWp P N c t (upd (upd h j none) k (some (.cells es))) n Q) : AWp P N c t h n Q := by
  subst he
  refine AWp.frzH (g := only j cs) (fun i cs' hi => ?_) (fun i r hi => ?_) (fun x => .inl rfl) hc
  · unfold only at hi
    split at hi
    · rename_i he; subst he; injection hi with hi; injection hi with hi; subst hi; exact hj
    · cases hi
  · have no : i ≠ j → ∀ cs', only j cs i ≠ some (.cells cs') := fun hn cs' hc' => by
      unfold only at hc'
      rw [if_neg hn] at hc'; cases hc'
    by_cases h1 : i = k
    · subst h1
      rw [upd_same] at hi
      injection hi with hi
      exact ⟨.cells ds, hk, .inr ⟨1, hi.symm⟩, no hjk⟩
    · rw [upd_ne _ _ h1] at hi
      by_cases h2 : i = j
      · subst h2; rw [upd_same] at hi; cases hi
      · rw [upd_ne _ _ h2] at hi
        exact ⟨r, hi, .inl rfl, no h2⟩

end Go.Av
end

section
set_option linter.unusedVariables false
namespace Go.Av

variable {P : Program} {N : Nat} {n n' : Nat} {h h1 g : Heap} {t : Tmps}

abbrev Lst := List (Nat × List AV)
def Lst.keys (L : Lst) : List Nat := L.map (·.1)
def Lst.rows (L : Lst) : List (Nat × Option Row) := L.map fun p => (p.1, some (.cells p.2))
/-- The rows are there, each once. -/
def Has (h : Heap) (L : Lst) : Prop := (∀ p, p ∈ L → h p.1 = some (.cells p.2)) ∧ L.keys.Nodup
/-- The rows of the first list go, those of the second come. -/
def swap (L L' : Lst) : List (Nat × Option Row) := (L.keys.map fun j => (j, none)) ++ L'.rows

theorem app_append : ∀ (us vs : List (Nat × Option Row)) (h : Heap), app (us ++ vs) h = app vs (app us h)
  | [], vs, h => rfl
  | u :: us, vs, h => by rw [List.cons_append, app_cons, app_append us vs, app_cons]
theorem app_off : ∀ {us : List (Nat × Option Row)} {x : Nat} (h : Heap), (∀ u, u ∈ us → u.1 ≠ x) → app us h x = h x
  | [], x, h, _ => rfl
  | u :: us, x, h, hu => by rw [app_cons, app_off _ (fun v hv => hu v (List.mem_cons_of_mem _ hv)), upd_ne _ _ (hu u (List.mem_cons_self ..)).symm]
theorem app_rows : ∀ {L : Lst} (h : Heap), L.keys.Nodup → ∀ p, p ∈ L → app L.rows h p.1 = some (.cells p.2)
  | [], h, _, p, hp => by cases hp
  | q :: L, h, hn, p, hp => by
    simp only [Lst.keys, List.map_cons, List.nodup_cons] at hn
    simp only [Lst.rows, List.map_cons, app_cons]
    rcases List.mem_cons.1 hp with rfl | hp
    · have : app (List.map (fun p => (p.1, some (Row.cells p.2))) L) (upd h p.1 (some (.cells p.2))) p.1 = upd h p.1 (some (.cells p.2)) p.1 := app_off _ fun u hu he => by
        obtain ⟨r, hr, rfl⟩ := List.mem_map.1 hu
        exact hn.1 (List.mem_map.2 ⟨r, hr, he⟩)
      rw [this, upd_same]
    · exact app_rows (L := L) _ hn.2 p hp
theorem swap_in {L L' : Lst} {u : Nat × Option Row} (hu : u ∈ swap L L') : (u.1 ∈ L.keys ∧ u.2 = none) ∨ ∃ p, p ∈ L' ∧ u = (p.1, some (.cells p.2)) := by
  rcases List.mem_append.1 hu with hu | hu
  · obtain ⟨j, hj, rfl⟩ := List.mem_map.1 hu; exact .inl ⟨hj, rfl⟩
  · obtain ⟨p, hp, rfl⟩ := List.mem_map.1 hu; exact .inr ⟨p, hp, rfl⟩
theorem Has.swap {L L' : Lst} (h : Heap) (hn : L'.keys.Nodup) : Has (app (Av.swap L L') h) L' :=
  ⟨fun p hp => by rw [Av.swap, app_append]; exact app_rows _ hn p hp, hn⟩
theorem swap_off {L L' : Lst} {x : Nat} (h : Heap) (h1 : x ∉ L.keys) (h2 : x ∉ L'.keys) : app (swap L L') h x = h x := app_off _ fun u hu he => by
  rcases swap_in hu with ⟨hj, _⟩ | ⟨p, hp, rfl⟩
  · exact h1 (he ▸ hj)
  · exact h2 (he ▸ List.mem_map.2 ⟨p, hp, rfl⟩)
theorem swap_lt {L L' : Lst} (h1 : ∀ j, j ∈ L.keys → j < n) (h2 : ∀ j, j ∈ L'.keys → j < n) : ∀ u, u ∈ swap L L' → u.1 < n := fun u hu => by
  rcases swap_in hu with ⟨hj, _⟩ | ⟨p, hp, rfl⟩
  · exact h1 _ hj
  · exact h2 _ (List.mem_map.2 ⟨p, hp, rfl⟩)
/-- Rows elsewhere make no difference. -/
theorem Has.keep {L : Lst} (hL : Has h L) (hk : ∀ j, j ∈ L.keys → g j = h j) : Has g L :=
  ⟨fun p hp => by rw [hk p.1 (List.mem_map.2 ⟨p, hp, rfl⟩)]; exact hL.1 p hp, hL.2⟩
theorem Has.upd {L : Lst} (hL : Has h L) {j : Nat} (hj : j ∉ L.keys) (r : Option Row) : Has (Av.upd h j r) L := hL.keep fun k hk => upd_ne _ _ fun e => hj (e ▸ hk)
theorem Has.get {L : Lst} (hL : Has h L) {j : Nat} {cs : List AV} (hp : (j, cs) ∈ L) : h j = some (.cells cs) := hL.1 _ hp
theorem Has.isSome {L : Lst} (hL : Has h L) {j : Nat} (hj : j ∈ L.keys) : ∃ cs, h j = some (.cells cs) := by
  obtain ⟨p, hp, rfl⟩ := List.mem_map.1 hj; exact ⟨_, hL.1 p hp⟩

/-- A body that comes to other rows in the place of some. -/
theorem Out.swap {fn : Func} {L L' : Lst} {r : AV} {e : Exit} {n1 n2 : Nat} {xs : List AV} (he : e = .normal ∨ e = .ret) (hx : resAll P t h1 fn.results.toList = some xs) (hr : resOne xs = r) (hn : n ≤ n2) (hn2 : n2 ≤ n1) (hnm : r.names (· < n2))
    (hL : Has h L) (hL' : Has h1 L') (hJ : ∀ j, j ∈ L'.keys → j ∈ L.keys ∨ (n ≤ j ∧ j < n2)) (hcs : ∀ p, p ∈ L' → namesAll (· < n2) p.2) (hk : ∀ x r, x < n → h x = some r → x ∉ L.keys → h1 x = some r) :
    Out P fn n h r (Av.swap L L') n2 e t h1 n1 := by
  subst hr
  have hid : ∀ (j : Nat), j < n2 → kept n n2 id j := fun j hj => by
    by_cases hjn : j < n
    · exact .inl hjn
    · exact .inr ⟨j, by omega, hj, rfl⟩
  have hold : ∀ x, oldNo n id x = x := fun x => by unfold oldNo; split <;> rfl
  refine ⟨he, xs, id, id, hx, ⟨hn, fun _ _ => rfl, fun x h2 h3 => ⟨h2, by show x < n1; omega, rfl⟩⟩, AV.ren_self (fun _ _ => rfl) _ hnm, AV.names_mono hid _ hnm, fun x r hx hh ht => hk x r hx hh fun hj => ht ⟨(x, none), List.mem_append_left _ (List.mem_map.2 ⟨x, hj, rfl⟩), rfl⟩, fun x r ht ha => ?_⟩
  by_cases hx' : x ∈ L'.keys
  · obtain ⟨p, hp, rfl⟩ := List.mem_map.1 hx'
    have hr : r = .cells p.2 := by
      have := (Has.swap (L := L) noHeap hL'.2).1 p hp
      rw [ha] at this
      injection this
    subst hr
    refine ⟨?_, .cells p.2, ?_, (Row.ren_self (S := (· < n2)) (fun _ _ => rfl) (.cells p.2) (hcs p hp)).symm, Row.names_mono hid (.cells p.2) (hcs p hp)⟩
    · rcases hJ _ hx' with h' | h'
      · obtain ⟨cs, hc⟩ := hL.isSome h'
        right; rw [hc]; rfl
      · exact .inl h'
    · rw [hold]; exact hL'.1 p hp
  · exfalso
    have hnone : app (Av.swap L L') noHeap x = none := by
      rw [Av.swap, app_append]
      have e1 : app L'.rows (app (L.keys.map fun j => (j, none)) noHeap) x = app (L.keys.map fun j => (j, none)) noHeap x := app_off _ fun u hu he => hx' (by
        obtain ⟨p, hp, rfl⟩ := List.mem_map.1 hu
        exact he ▸ List.mem_map.2 ⟨p, hp, rfl⟩)
      have e2 := congrFun (app_gone L.keys noHeap) x
      rw [e1]
      refine e2.trans ?_
      show (if x ∈ L.keys then none else noHeap x) = none
      split <;> rfl
    rw [hnone] at ha; cases ha
/-- What is neither told nor new stays. -/
theorem keepX {J : List Nat} {j : Nat} {r0 : Option Row} (hj : n ≤ j ∨ j ∈ J) (hk : ∀ x r, x < n → h x = some r → x ∉ J → g x = some r) : ∀ x r, x < n → h x = some r → x ∉ J → upd g j r0 x = some r := fun x r hx hr hn => by
  rw [upd_ne _ _ (fun e => by subst e; rcases hj with hj | hj; omega; exact hn hj)]; exact hk x r hx hr hn
theorem keepX0 {J : List Nat} : ∀ x r, x < n → h x = some r → x ∉ J → h x = some r := fun _ _ _ h _ => h
theorem keepXs {J : List Nat} {L L' : Lst} (hL : ∀ j, j ∈ L.keys → n ≤ j ∨ j ∈ J) (hL' : ∀ j, j ∈ L'.keys → n ≤ j ∨ j ∈ J) (hk : ∀ x r, x < n → h x = some r → x ∉ J → g x = some r) : ∀ x r, x < n → h x = some r → x ∉ J → app (swap L L') g x = some r := fun x r hx hr hn => by
  rw [swap_off _ (fun hj => by rcases hL x hj with h | h; omega; exact hn h) (fun hj => by rcases hL' x hj with h | h; omega; exact hn h)]; exact hk x r hx hr hn

/-- Where a row is told whose number is none below n, nothing is said. -/
theorem DCalls.vac {f : FuncId} {args : List AV} {r : AV} {us : List (Nat × Option Row)} (hf : ∃ fn, P.funcs[f]? = some fn ∧ fn.body.isSome = true ∧ fn.name ≠ "runtime.NumGoroutine") (hn : n ≤ n') {j : Nat} {x : Row} (hj : h j = some x) (hjn : n ≤ j) : DCalls P f args h n r us n' :=
  ⟨hf, hn, fun U ρ Ro w xs hU hrel _ => absurd (hU j (hrel.lt j x hj)) (by omega)⟩

/-- One call more that is known: this function, these arguments, this heap. -/
noncomputable def Sums.loc (S : Sums) (f : FuncId) (args : List AV) (h : Heap) (r : Res) : Sums := open Classical in fun g a k => if g = f ∧ a = args ∧ k = h then r else S g a k
theorem Sums.loc_at {S : Sums} {f : FuncId} {args : List AV} {r : Res} : S.loc f args h r f args h = r := by unfold Sums.loc; exact if_pos ⟨rfl, rfl, rfl⟩
theorem Sums.loc_ne {S : Sums} {f g : FuncId} {args a : List AV} {k : Heap} {r : Res} (hg : g ≠ f) : S.loc f args h r g a k = S g a k := by unfold Sums.loc; exact if_neg fun hc => hg hc.1
theorem SumOk.loc {S : Sums} {f : FuncId} {args : List AV} {r : Res} (hS : SumOk P S) (hr : ResOk P f args h r) : SumOk P (S.loc f args h r) := by
  have key : ∀ g a k x, S.loc f args h r g a k = x → (g = f ∧ a = args ∧ k = h ∧ r = x) ∨ S g a k = x := fun g a k x hx => by
    unfold Sums.loc at hx
    split at hx
    · rename_i hc; exact .inl ⟨hc.1, hc.2.1, hc.2.2, hx⟩
    · exact .inr hx
  refine ⟨fun g a k x hx n => ?_, fun g a k s l c hx => ?_, fun g a k F hx => ?_, fun g a k x hx => ?_⟩
  · rcases key g a k _ hx with ⟨rfl, rfl, rfl, rfl⟩ | h1
    · exact hr n
    · exact hS.pure g a k x h1 n
  · rcases key g a k _ hx with ⟨rfl, rfl, rfl, rfl⟩ | h1
    · exact hr
    · exact hS.fresh g a k s l c h1
  · rcases key g a k _ hx with ⟨rfl, rfl, rfl, rfl⟩ | h1
    · exact fun n => hr n
    · exact hS.wide g a k F h1
  · rcases key g a k _ hx with ⟨rfl, rfl, rfl, rfl⟩ | h1
    · exact hr
    · exact hS.ext g a k x h1

end Go.Av
end
