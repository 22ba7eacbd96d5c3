/- Steps through code: one lemma for each kind of operation. -/
import Derived.Test.YtepfknnffooaiaaAv23
namespace Go.Av

variable {P : Program} {N : Nat} {S : Sums} {n n' : Nat} {h h' h0 : Heap} {t : Tmps} {v : AV} {us : List (Nat × Option Row)} {ops : Array Oper} {B W : List Nat} {o : Oper} {l : List Oper} {K : Tmps → Heap → Nat → Prop} {d : Option Tmp} {e : Tmp} {j : Nat} {want u : Bool} {k : Nat} {r : List (Nat × List (Nat × Option Row))}

/-! ### regions in text order -/
theorem vr_nil (hk : K t h n) : vcR P S ops [] t h n K := hk
theorem vr_val (hg : o.guard = none) (hd : o.dst = d) (he : stepE P S o.op t h n = some (v, [], n)) (hk : vcR P S ops l (put t d v) h n K) : vcR P S ops (o :: l) t h n K := by
  subst hd; simp only [vcR, vcG, hg, he, vcE]; exact hk
theorem vr_upd (hg : o.guard = none) (hd : o.dst = d) (he : stepE P S o.op t h n = some (v, us, n')) (hh : app us h = h') (hk : vcR P S ops l (put t d v) h' n' K) : vcR P S ops (o :: l) t h n K := by
  subst hd; subst hh; simp only [vcR, vcG, hg, he, vcE]; exact hk
theorem vr_run (hg : o.guard = some (j, want)) (hj : (ops[j]?).bind (·.dst) = some e) (ht : t e = .b want) (hd : o.dst = d) (he : stepE P S o.op t h n = some (v, [], n)) (hk : vcR P S ops l (put t d v) h n K) : vcR P S ops (o :: l) t h n K := by
  subst hd
  simp only [vcR, vcG, hg, hj, ht, br]
  exact ⟨fun _ => by rw [put_self ht, he]; exact hk, fun hw => by cases want <;> cases hw⟩
theorem vr_runU (hg : o.guard = some (j, want)) (hj : (ops[j]?).bind (·.dst) = some e) (ht : t e = .b want) (hd : o.dst = d) (he : stepE P S o.op t h n = some (v, us, n')) (hh : app us h = h') (hk : vcR P S ops l (put t d v) h' n' K) : vcR P S ops (o :: l) t h n K := by
  subst hd; subst hh
  simp only [vcR, vcG, hg, hj, ht, br]
  exact ⟨fun _ => by rw [put_self ht, he]; exact hk, fun hw => by cases want <;> cases hw⟩
theorem vr_skip (hg : o.guard = some (j, want)) (hj : (ops[j]?).bind (·.dst) = some e) (ht : t e = .b u) (hu : u = !want) (hd : o.dst = d) (hk : vcR P S ops l (put t d (.tup [])) h n K) : vcR P S ops (o :: l) t h n K := by
  subst hd; subst hu
  simp only [vcR, vcG, hg, hj, ht, br]
  exact ⟨(fun hw => by cases want <;> cases hw), fun _ => by rw [put_self ht]; exact hk⟩
theorem vr_split (hg : o.guard = some (j, want)) (hj : (ops[j]?).bind (·.dst) = some e) (ht : t e = .b u) (h1 : u = true → vcR P S ops (o :: l) (put t (some e) (.b true)) h n K) (h2 : u = false → vcR P S ops (o :: l) (put t (some e) (.b false)) h n K) : vcR P S ops (o :: l) t h n K := by
  cases u
  · have := h2 rfl; rwa [put_self ht] at this
  · have := h1 rfl; rwa [put_self ht] at this

/-! ### regions in drawn order -/
theorem vd_nil (hh : hpL h0 (fun _ => true) r = h') (hk : K t h' n) : vcD P S ops B W h0 [] k t r n K := by subst hh; exact hk

theorem vd_guard0 {R Q : Tmps → Prop} (hg : o.guard = none) (hk : R t) : vcG ops o t R Q := by simp only [vcG, hg]; exact hk
theorem vd_guard1 {R Q : Tmps → Prop} (hg : o.guard = some (j, want)) (hj : (ops[j]?).bind (·.dst) = some e) (ht : t e = .b want) (hk : R t) : vcG ops o t R Q := by
  simp only [vcG, hg, hj, ht, br]
  exact ⟨fun _ => by rw [put_self ht]; exact hk, fun hw => by cases want <;> cases hw⟩
theorem vd_skip (hg : o.guard = some (j, want)) (hj : (ops[j]?).bind (·.dst) = some e) (ht : t e = .b u) (hu : u = !want) (hd : o.dst = d) (hk : vcD P S ops B W h0 l (k + 1) (put t d (.tup [])) r n K) : vcD P S ops B W h0 (o :: l) k t r n K := by
  subst hd; subst hu
  simp only [vcD, vcG, hg, hj, ht, br]
  exact ⟨(fun hw => by cases want <;> cases hw), fun _ => by rw [put_self ht]; exact hk⟩
theorem vd_split (hg : o.guard = some (j, want)) (hj : (ops[j]?).bind (·.dst) = some e) (ht : t e = .b u) (h1 : u = true → vcD P S ops B W h0 (o :: l) k (put t (some e) (.b true)) r n K) (h2 : u = false → vcD P S ops B W h0 (o :: l) k (put t (some e) (.b false)) r n K) : vcD P S ops B W h0 (o :: l) k t r n K := by
  cases u
  · have := h2 rfl; rwa [put_self ht] at this
  · have := h1 rfl; rwa [put_self ht] at this

/-- The guard lets it through. -/
def goes (ops : Array Oper) (o : Oper) (t : Tmps) : Prop := o.guard = none ∨ ∃ j want e, o.guard = some (j, want) ∧ (ops[j]?).bind (·.dst) = some e ∧ t e = .b want
theorem goes0 (hg : o.guard = none) : goes ops o t := .inl hg
theorem goes1 (hg : o.guard = some (j, want)) (hj : (ops[j]?).bind (·.dst) = some e) (ht : t e = .b want) : goes ops o t := .inr ⟨j, want, e, hg, hj, ht⟩
theorem vcG_goes {R Q : Tmps → Prop} (hg : goes ops o t) (hk : R t) : vcG ops o t R Q := by
  rcases hg with hg | ⟨j, want, e, h1, h2, h3⟩
  · exact vd_guard0 hg hk
  · exact vd_guard1 h1 h2 h3 hk

theorem vd_val (hg : goes ops o t) (hi : isVal P o.op = true) (hd : o.dst = d) (he : aeff P o.op t noHeap n = some (v, [], n)) (hk : vcD P S ops B W h0 l (k + 1) (put t d v) r n K) : vcD P S ops B W h0 (o :: l) k t r n K := by
  subst hd
  simp only [vcD]
  refine vcG_goes hg ?_
  rw [if_pos hi, he]
  exact ⟨rfl, hk⟩

def isFn : Op → Bool
  | .call { callee := .value _, .. } => true
  | _ => false

theorem vd_read (hg : goes ops o t) (hi : isVal P o.op = false) (hw : k ∉ W) (hf : isFn o.op = false) (hd : o.dst = d) (hv : hpL h0 (pre B k) r = h') (he : aeff P o.op t h' n = some (v, [], n)) (hk : vcD P S ops B W h0 l (k + 1) (put t d v) r n K) : vcD P S ops B W h0 (o :: l) k t r n K := by
  subst hd; subst hv
  simp only [vcD]
  refine vcG_goes hg ?_
  rw [if_neg (by rw [hi]; simp), if_neg hw]
  split
  · rename_i hop; rw [hop] at hf; cases hf
  · rw [he]; exact ⟨rfl, hk⟩
theorem vd_quiet (hg : goes ops o t) (hi : isVal P o.op = false) (hw : k ∉ W) (hf : isFn o.op = false) (hd : o.dst = d) (hv : hpL h0 (pre B k) r = h') (he : aeff P o.op t h' n = some (v, us, n')) (hne : us ≠ []) (hn : n ≤ n') (hus : ∀ u ∈ us, n ≤ u.1 ∧ u.1 < n')
    (hk : vcD P S ops B W h0 l (k + 1) (put t d v) ((k, us) :: r) n' K) : vcD P S ops B W h0 (o :: l) k t r n K := by
  subst hd; subst hv
  simp only [vcD]
  refine vcG_goes hg ?_
  rw [if_neg (by rw [hi]; simp), if_neg hw]
  split
  · rename_i hop; rw [hop] at hf; cases hf
  · rw [he]
    cases us with
    | nil => exact absurd rfl hne
    | cons x us => exact ⟨hn, hus, hk⟩
theorem vd_wide (hg : goes ops o t) (hi : isVal P o.op = false) (hw : k ∈ W) (hd : o.dst = d) (hv : hpL h0 (pre B k) r = h') (he : stepE P S o.op t h' n = some (v, us, n')) (hn : n ≤ n') (hus : ∀ u ∈ us, u.1 < n')
    (hk : vcD P S ops B W h0 l (k + 1) (put t d v) ((k, us) :: r) n' K) : vcD P S ops B W h0 (o :: l) k t r n K := by
  subst hd; subst hv
  simp only [vcD]
  refine vcG_goes hg ?_
  rw [if_neg (by rw [hi]; simp), if_pos hw, he]
  exact ⟨hn, hus, hk⟩
theorem vd_pcall {f : Operand} {args : Array Operand} {Ts : Array TypeId} (hg : goes ops o t) (hop : o.op = .call { callee := .value f, args := args, argTypes := Ts }) (hw : k ∉ W) (hd : o.dst = d) (hv : hpL h0 (pre B k) r = h') (he : callR S t h' f args.toList = .pure v)
    (hk : vcD P S ops B W h0 l (k + 1) (put t d v) r n K) : vcD P S ops B W h0 (o :: l) k t r n K := by
  subst hd; subst hv
  simp only [vcD]
  refine vcG_goes hg ?_
  rw [if_neg (by rw [hop]; simp [isVal]), if_neg hw, hop]
  simp only [he]
  exact hk
theorem vd_fcall {f : Operand} {args : Array Operand} {Ts : Array TypeId} {sz len : Nat} {cs : List AV} (hg : goes ops o t) (hop : o.op = .call { callee := .value f, args := args, argTypes := Ts }) (hw : k ∉ W) (hd : o.dst = d) (hv : hpL h0 (pre B k) r = h') (he : callR S t h' f args.toList = .fresh sz len cs)
    (hk : vcD P S ops B W h0 l (k + 1) (put t d (.sl sz n 0 len)) ((k, [(n, some (.cells cs))]) :: r) (n + 1) K) : vcD P S ops B W h0 (o :: l) k t r n K := by
  subst hd; subst hv
  simp only [vcD]
  refine vcG_goes hg ?_
  rw [if_neg (by rw [hop]; simp [isVal]), if_neg hw, hop]
  simp only [he]
  exact hk

/-! ### code -/
variable {Q : Exit → Tmps → Heap → Nat → Prop} {a b c : Code}

theorem aw_region {id : Nat} (hS : SumOk P S) (ho : opsOk N ops = true) (hl : ops.toList = l) (hv : vcR P S ops l t h n (fun t h n => Q .normal t h n)) : AWp P N (.region id ops false) t h n Q := by
  subst hl
  exact .region ho (vcR_sound hS (List.drop_zero) hv)
theorem aw_draws {id : Nat} (B W : List Nat) (hS : SumOk P S) (hm : P.follows .mixedOrders = true) (ho : opsOk N ops = true) (hd : drawChk P ops B W = true) (hl : ops.toList = l) (hv : vcD P S ops B W h l 0 t [] n (fun t h n => Q .normal t h n)) : AWp P N (.region id ops true) t h n Q := by
  subst hl
  exact .draws _ _ hm hd (vcD_sound hS ho (List.drop_zero) hv)
theorem aw_regionL {id : Nat} (hS : SumOk P S) (ho : opsOk N l.toArray = true) (hv : vcR P S l.toArray l t h n (fun t h n => Q .normal t h n)) : AWp P N (.region id l.toArray false) t h n Q := aw_region hS ho rfl hv
theorem aw_drawsL {id : Nat} (B W : List Nat) (hS : SumOk P S) (hm : P.follows .mixedOrders = true) (ho : opsOk N l.toArray = true) (hd : drawChk P l.toArray B W = true) (hv : vcD P S l.toArray B W h l 0 t [] n (fun t h n => Q .normal t h n)) : AWp P N (.region id l.toArray true) t h n Q := aw_draws B W hS hm ho hd rfl hv
theorem aw_then {k : Tmps → Heap → Nat → Prop} (hk : k t h n) : thenQ k Q .normal t h n := hk
theorem aw_in {id : Nat} (hk : Q .normal t h n) : inBlockQ id Q .normal t h n := hk
theorem aw_exit {id : Nat} (hk : Q .normal t h n) : inBlockQ id Q (.exit id) t h n := by simp only [inBlockQ, if_true]; exact hk
theorem aw_thru {id : Nat} {k : Tmps → Heap → Nat → Prop} (hk : Q (.exit id) t h n) : thenQ k Q (.exit id) t h n := hk
theorem aw_past {id id' : Nat} (hne : id' ≠ id) (hk : Q (.exit id') t h n) : inBlockQ id Q (.exit id') t h n := by simp only [inBlockQ, if_neg hne]; exact hk
theorem aw_true (ht : t e = .b true) (h1 : AWp P N a t h n Q) : AWp P N (.cond (.tmp e) a b) t h n Q := .cond rfl ht (fun _ => h1) (fun h => by cases h)
theorem aw_false (ht : t e = .b false) (h1 : AWp P N b t h n Q) : AWp P N (.cond (.tmp e) a b) t h n Q := .cond rfl ht (fun h => by cases h) (fun _ => h1)
theorem aw_split (ht : t e = .b u) (h1 : u = true → AWp P N a (put t (some e) (.b true)) h n Q) (h2 : u = false → AWp P N b (put t (some e) (.b false)) h n Q) : AWp P N (.cond (.tmp e) a b) t h n Q :=
  .cond rfl ht (fun hu => by have := h1 hu; rwa [put_self (by rw [ht, hu])] at this) (fun hu => by have := h2 hu; rwa [put_self (by rw [ht, hu])] at this)

/-! ### the same, with the operation taken apart -/
variable {op : Op} {ty : TypeId} {ps : String} {af : Array Edge} {x y z : AV}
theorem vr0 (he : stepE P S op t h n = some (v, [], n)) (hk : vcR P S ops l (put t d v) h n K) : vcR P S ops (⟨d, op, ty, ps, af, none⟩ :: l) t h n K := vr_val rfl rfl he hk
theorem vr0u (he : stepE P S op t h n = some (v, us, n')) (hh : app us h = h') (hk : vcR P S ops l (put t d v) h' n' K) : vcR P S ops (⟨d, op, ty, ps, af, none⟩ :: l) t h n K := vr_upd rfl rfl he hh hk
theorem vr1 (hj : (ops[j]?).bind (·.dst) = some e) (ht : t e = .b u) (hu : u = want) (he : stepE P S op t h n = some (v, [], n)) (hk : vcR P S ops l (put t d v) h n K) : vcR P S ops (⟨d, op, ty, ps, af, some (j, want)⟩ :: l) t h n K := vr_run rfl hj (by rw [ht, hu]) rfl he hk
theorem vr1u (hj : (ops[j]?).bind (·.dst) = some e) (ht : t e = .b u) (hu : u = want) (he : stepE P S op t h n = some (v, us, n')) (hh : app us h = h') (hk : vcR P S ops l (put t d v) h' n' K) : vcR P S ops (⟨d, op, ty, ps, af, some (j, want)⟩ :: l) t h n K := vr_runU rfl hj (by rw [ht, hu]) rfl he hh hk
theorem vr2 (hj : (ops[j]?).bind (·.dst) = some e) (ht : t e = .b u) (hu : u = !want) (hk : vcR P S ops l (put t d (.tup [])) h n K) : vcR P S ops (⟨d, op, ty, ps, af, some (j, want)⟩ :: l) t h n K := vr_skip rfl hj ht hu rfl hk
theorem vr3 (hj : (ops[j]?).bind (·.dst) = some e) (ht : t e = .b u) (h1 : u = true → vcR P S ops (⟨d, op, ty, ps, af, some (j, want)⟩ :: l) (put t (some e) (.b true)) h n K) (h2 : u = false → vcR P S ops (⟨d, op, ty, ps, af, some (j, want)⟩ :: l) (put t (some e) (.b false)) h n K) : vcR P S ops (⟨d, op, ty, ps, af, some (j, want)⟩ :: l) t h n K := vr_split rfl hj ht h1 h2

theorem vd0 (hi : isVal P op = true) (he : aeff P op t noHeap n = some (v, [], n)) (hk : vcD P S ops B W h0 l (k + 1) (put t d v) r n K) : vcD P S ops B W h0 (⟨d, op, ty, ps, af, none⟩ :: l) k t r n K := vd_val (.inl rfl) hi rfl he hk
theorem vd1 (hj : (ops[j]?).bind (·.dst) = some e) (ht : t e = .b u) (hu : u = want) (hi : isVal P op = true) (he : aeff P op t noHeap n = some (v, [], n)) (hk : vcD P S ops B W h0 l (k + 1) (put t d v) r n K) : vcD P S ops B W h0 (⟨d, op, ty, ps, af, some (j, want)⟩ :: l) k t r n K := vd_val (goes1 rfl hj (by rw [ht, hu])) hi rfl he hk
theorem vd0r (hi : isVal P op = false) (hw : k ∉ W) (hf : isFn op = false) (hv : hpL h0 (pre B k) r = h') (he : aeff P op t h' n = some (v, [], n)) (hk : vcD P S ops B W h0 l (k + 1) (put t d v) r n K) : vcD P S ops B W h0 (⟨d, op, ty, ps, af, none⟩ :: l) k t r n K := vd_read (.inl rfl) hi hw hf rfl hv he hk
theorem vd1r (hj : (ops[j]?).bind (·.dst) = some e) (ht : t e = .b u) (hu : u = want) (hi : isVal P op = false) (hw : k ∉ W) (hf : isFn op = false) (hv : hpL h0 (pre B k) r = h') (he : aeff P op t h' n = some (v, [], n)) (hk : vcD P S ops B W h0 l (k + 1) (put t d v) r n K) : vcD P S ops B W h0 (⟨d, op, ty, ps, af, some (j, want)⟩ :: l) k t r n K := vd_read (goes1 rfl hj (by rw [ht, hu])) hi hw hf rfl hv he hk
theorem vd0q (hi : isVal P op = false) (hw : k ∉ W) (hf : isFn op = false) (hv : hpL h0 (pre B k) r = h') (he : aeff P op t h' n = some (v, us, n')) (hne : us ≠ []) (hn : n ≤ n') (hus : ∀ u ∈ us, n ≤ u.1 ∧ u.1 < n') (hk : vcD P S ops B W h0 l (k + 1) (put t d v) ((k, us) :: r) n' K) : vcD P S ops B W h0 (⟨d, op, ty, ps, af, none⟩ :: l) k t r n K := vd_quiet (.inl rfl) hi hw hf rfl hv he hne hn hus hk
theorem vd1q (hj : (ops[j]?).bind (·.dst) = some e) (ht : t e = .b u) (hu : u = want) (hi : isVal P op = false) (hw : k ∉ W) (hf : isFn op = false) (hv : hpL h0 (pre B k) r = h') (he : aeff P op t h' n = some (v, us, n')) (hne : us ≠ []) (hn : n ≤ n') (hus : ∀ u ∈ us, n ≤ u.1 ∧ u.1 < n') (hk : vcD P S ops B W h0 l (k + 1) (put t d v) ((k, us) :: r) n' K) : vcD P S ops B W h0 (⟨d, op, ty, ps, af, some (j, want)⟩ :: l) k t r n K := vd_quiet (goes1 rfl hj (by rw [ht, hu])) hi hw hf rfl hv he hne hn hus hk
theorem vd0w (hi : isVal P op = false) (hw : k ∈ W) (hv : hpL h0 (pre B k) r = h') (he : stepE P S op t h' n = some (v, us, n')) (hn : n ≤ n') (hus : ∀ u ∈ us, u.1 < n') (hk : vcD P S ops B W h0 l (k + 1) (put t d v) ((k, us) :: r) n' K) : vcD P S ops B W h0 (⟨d, op, ty, ps, af, none⟩ :: l) k t r n K := vd_wide (.inl rfl) hi hw rfl hv he hn hus hk
theorem vd1w (hj : (ops[j]?).bind (·.dst) = some e) (ht : t e = .b u) (hu : u = want) (hi : isVal P op = false) (hw : k ∈ W) (hv : hpL h0 (pre B k) r = h') (he : stepE P S op t h' n = some (v, us, n')) (hn : n ≤ n') (hus : ∀ u ∈ us, u.1 < n') (hk : vcD P S ops B W h0 l (k + 1) (put t d v) ((k, us) :: r) n' K) : vcD P S ops B W h0 (⟨d, op, ty, ps, af, some (j, want)⟩ :: l) k t r n K := vd_wide (goes1 rfl hj (by rw [ht, hu])) hi hw rfl hv he hn hus hk
variable {f : Operand} {args : Array Operand} {Ts : Array TypeId} {sz len : Nat} {cs : List AV}
theorem vd0p (hw : k ∉ W) (hv : hpL h0 (pre B k) r = h') (he : callR S t h' f args.toList = .pure v) (hk : vcD P S ops B W h0 l (k + 1) (put t d v) r n K) : vcD P S ops B W h0 (⟨d, .call { callee := .value f, args := args, argTypes := Ts }, ty, ps, af, none⟩ :: l) k t r n K := vd_pcall (.inl rfl) rfl hw rfl hv he hk
theorem vd1p (hj : (ops[j]?).bind (·.dst) = some e) (ht : t e = .b u) (hu : u = want) (hw : k ∉ W) (hv : hpL h0 (pre B k) r = h') (he : callR S t h' f args.toList = .pure v) (hk : vcD P S ops B W h0 l (k + 1) (put t d v) r n K) : vcD P S ops B W h0 (⟨d, .call { callee := .value f, args := args, argTypes := Ts }, ty, ps, af, some (j, want)⟩ :: l) k t r n K := vd_pcall (goes1 rfl hj (by rw [ht, hu])) rfl hw rfl hv he hk
theorem vd0f (hw : k ∉ W) (hv : hpL h0 (pre B k) r = h') (he : callR S t h' f args.toList = .fresh sz len cs) (hk : vcD P S ops B W h0 l (k + 1) (put t d (.sl sz n 0 len)) ((k, [(n, some (.cells cs))]) :: r) (n + 1) K) : vcD P S ops B W h0 (⟨d, .call { callee := .value f, args := args, argTypes := Ts }, ty, ps, af, none⟩ :: l) k t r n K := vd_fcall (.inl rfl) rfl hw rfl hv he hk
theorem vd1f (hj : (ops[j]?).bind (·.dst) = some e) (ht : t e = .b u) (hu : u = want) (hw : k ∉ W) (hv : hpL h0 (pre B k) r = h') (he : callR S t h' f args.toList = .fresh sz len cs) (hk : vcD P S ops B W h0 l (k + 1) (put t d (.sl sz n 0 len)) ((k, [(n, some (.cells cs))]) :: r) (n + 1) K) : vcD P S ops B W h0 (⟨d, .call { callee := .value f, args := args, argTypes := Ts }, ty, ps, af, some (j, want)⟩ :: l) k t r n K := vd_fcall (goes1 rfl hj (by rw [ht, hu])) rfl hw rfl hv he hk
theorem vd2 (hj : (ops[j]?).bind (·.dst) = some e) (ht : t e = .b u) (hu : u = !want) (hk : vcD P S ops B W h0 l (k + 1) (put t d (.tup [])) r n K) : vcD P S ops B W h0 (⟨d, op, ty, ps, af, some (j, want)⟩ :: l) k t r n K := vd_skip rfl hj ht hu rfl hk
theorem vd3 (hj : (ops[j]?).bind (·.dst) = some e) (ht : t e = .b u) (h1 : u = true → vcD P S ops B W h0 (⟨d, op, ty, ps, af, some (j, want)⟩ :: l) k (put t (some e) (.b true)) r n K) (h2 : u = false → vcD P S ops B W h0 (⟨d, op, ty, ps, af, some (j, want)⟩ :: l) k (put t (some e) (.b false)) r n K) : vcD P S ops B W h0 (⟨d, op, ty, ps, af, some (j, want)⟩ :: l) k t r n K := vd_split rfl hj ht h1 h2

theorem splice_one (cs : List AV) (off : Nat) (y : AV) : splice cs off [y] = cs.set off y := rfl
theorem splice_two (cs : List AV) (off : Nat) (a b : AV) (l : List AV) : splice cs off (a :: b :: l) = cs.take off ++ (a :: b :: l) ++ cs.drop (off + (l.length + 2)) := rfl
theorem hpL_t {S : Nat → Bool} (hs : S k = true) : hpL h0 S ((k, us) :: r) = app us (hpL h0 S r) := by simp only [hpL, hs, if_true]
theorem hpL_f {S : Nat → Bool} (hs : S k = false) : hpL h0 S ((k, us) :: r) = hpL h0 S r := by simp only [hpL, hs, Bool.false_eq_true, if_false]

/-! ### sums -/
def Sums.none : Sums := fun _ _ _ => .no
theorem SumOk.none : SumOk P Sums.none := ⟨fun f args h r hr => (nomatch hr), fun f args h a b c hr => (nomatch hr), fun f args h F hr => (nomatch hr)⟩
/-- One more function, that comes back with a value alone. -/
def Sums.addP (S : Sums) (f : FuncId) (F : List AV → Option AV) : Sums := fun g args h => if g = f then (match F args with | some r => .pure r | .none => .no) else S g args h
theorem SumOk.addP {f : FuncId} {F : List AV → Option AV} (hS : SumOk P S) (hF : ∀ args r, F args = some r → ∀ h n, DCalls P f args h n r [] n) : SumOk P (S.addP f F) := by
  have key : ∀ g args h r, S.addP f F g args h = r → (g = f ∧ ((∃ v, F args = some v ∧ r = .pure v) ∨ r = .no)) ∨ (S g args h = r) := fun g args h r hr => by
    unfold Sums.addP at hr
    split at hr
    · rename_i hg
      left
      refine ⟨hg, ?_⟩
      cases hx : F args with
      | none => rw [hx] at hr; exact .inr hr.symm
      | some v => rw [hx] at hr; exact .inl ⟨v, rfl, hr.symm⟩
    · exact .inr hr
  refine ⟨fun g args h r hr n => ?_, fun g args h a b c hr => ?_, fun g args h G hr => ?_⟩
  · rcases key g args h _ hr with ⟨rfl, ⟨v, h1, h2⟩ | h2⟩ | h3
    · cases h2; exact hF args _ h1 h n
    · cases h2
    · exact hS.pure g args h r h3 n
  · rcases key g args h _ hr with ⟨rfl, ⟨v, h1, h2⟩ | h2⟩ | h3
    · cases h2
    · cases h2
    · exact hS.fresh g args h a b c h3
  · rcases key g args h _ hr with ⟨rfl, ⟨v, h1, h2⟩ | h2⟩ | h3
    · cases h2
    · cases h2
    · exact hS.wide g args h G h3

mutual
theorem AV.free_names {S : Nat → Prop} : ∀ (x : AV), x.free = true → x.names S
  | .p _ _, h | .sl _ _ _ _, h => by simp [AV.free] at h
  | .q cs _, h | .ro _ cs _, h | .agg cs, h | .tup cs, h => by simp only [AV.free] at h; simp only [AV.names]; exact freeAll_names cs h
  | .fn _ a b, h => by simp only [AV.free, Bool.and_eq_true] at h; simp only [AV.names]; exact ⟨freeAll_names a h.1, freeAll_names b h.2⟩
  | .ifc _ x, h => by simp only [AV.free] at h; simp only [AV.names]; exact AV.free_names x h
  | .b _, _ | .i _ _, _ | .s _, _ | .np, _ | .nf, _ | .ni, _ => trivial
theorem freeAll_names {S : Nat → Prop} : ∀ (xs : List AV), freeAll xs = true → namesAll S xs
  | [], _ => trivial
  | x :: xs, h => by simp only [freeAll, Bool.and_eq_true] at h; exact ⟨AV.free_names x h.1, freeAll_names xs h.2⟩
end

end Go.Av
