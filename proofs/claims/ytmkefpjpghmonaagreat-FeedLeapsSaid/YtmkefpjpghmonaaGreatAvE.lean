/- Code without loops, as a condition: what must hold so that it ends so. Steps through code: one lemma for each kind of operation. Steps through code: guards apart, so that a text need say each tactic once. A row that is written no more: told by its content from then on. One's own memory, shown to a called function as if it could only be read; a slice held against nil. -/
import Derived.Test.YtmkefpjpghmonaaGreatAvD

section
namespace Go.Av

variable {P : Program} {N : Nat} {n n' : Nat} {h h0 : Heap} {t : Tmps} {v : AV} {us : List (Nat × Option Row)} {ops : Array Oper} {B W : List Nat} {o : Oper}

/-- What a call of a function of the program comes to. -/
inductive Res where
  | no
  | pure (r : AV)
  | fresh (sz len : Nat) (cs : List AV)
  | wide (F : Nat → AV × List (Nat × Option Row) × Nat)
  | ext (r : AV)

abbrev Sums := FuncId → List AV → Heap → Res

structure SumOk (P : Program) (S : Sums) : Prop where
  pure : ∀ f args h r, S f args h = .pure r → ∀ n, DCalls P f args h n r [] n
  fresh : ∀ f args h sz len cs, S f args h = .fresh sz len cs → freeAll cs = true ∧ ∀ m, DCalls P f args h m (.sl sz m 0 len) [(m, some (.cells cs))] (m + 1)
  wide : ∀ f args h F, S f args h = .wide F → ∀ n, DCalls P f args h n (F n).1 (F n).2.1 (F n).2.2
  ext : ∀ f args h r, S f args h = .ext r → XCalls P f args r

def callR (S : Sums) (t : Tmps) (h : Heap) (f : Operand) (args : List Operand) : Res := match aev t f with
  | .fn (.func g) first cap => S g (first ++ args.map (aev t) ++ cap) h
  | _ => .no

def resE (r : Res) (n : Nat) : Eff := match r with
  | .no => none
  | .pure r => some (r, [], n)
  | .fresh sz len cs => some (.sl sz n 0 len, [(n, some (.cells cs))], n + 1)
  | .wide F => some (F n)
  | .ext r => some (r, [], n)

def stepE (P : Program) (S : Sums) (o : Op) (t : Tmps) (h : Heap) (n : Nat) : Eff := match o with
  | .call { callee := .value f, args := args, .. } => resE (callR S t h f args.toList) n
  | o => aeff P o t h n

def vcE (e : Eff) (K : AV → List (Nat × Option Row) → Nat → Prop) : Prop := match e with
  | some (v, us, n') => K v us n'
  | none => False

theorem vcE_ite {c : Prop} [Decidable c] {e : Eff} {K : AV → List (Nat × Option Row) → Nat → Prop} : vcE (if c then e else none) K = (c ∧ vcE e K) := by
  by_cases hc : c
  · simp [hc]
  · simp [hc, vcE]
theorem map_ite {α β : Type} {c : Prop} [Decidable c] {e : Option α} {f : α → β} : (if c then e else none).map f = if c then e.map f else none := by split <;> rfl

def br (u want : Bool) (A B : Prop) : Prop := (u = want → A) ∧ (u = !want → B)
theorem br_tt (A B : Prop) : br true true A B = A := by simp [br]
theorem br_ff (A B : Prop) : br false false A B = A := by simp [br]
theorem br_tf (A B : Prop) : br true false A B = B := by simp [br]
theorem br_ft (A B : Prop) : br false true A B = B := by simp [br]
theorem br_intro {u want : Bool} {A B : Prop} (h1 : u = want → A) (h2 : u = !want → B) : br u want A B := ⟨h1, h2⟩

/-- The guard of an operation, looked at: with what is then known of it. -/
def vcG (ops : Array Oper) (o : Oper) (t : Tmps) (R S : Tmps → Prop) : Prop := match o.guard with
  | none => R t
  | some (j, want) => match (ops[j]?).bind (·.dst) with
    | some d => (match t d with
      | .b u => br u want (R (put t (some d) (.b want))) (S (put t (some d) (.b !want)))
      | .tup _ => S t
      | _ => False)
    | none => False

def vcR (P : Program) (S : Sums) (ops : Array Oper) : List Oper → Tmps → Heap → Nat → (Tmps → Heap → Nat → Prop) → Prop
  | [], t, h, n, K => K t h n
  | o :: l, t, h, n, K => vcG ops o t
    (fun t => vcE (stepE P S o.op t h n) fun v us n' => vcR P S ops l (put t o.dst v) (app us h) n' K)
    (fun t => vcR P S ops l (put t o.dst (.tup [])) h n K)

/-- A step of a region in drawn order. -/
def vcU (us : List (Nat × Option Row)) (n n' : Nat) (A : Prop) (B : Prop) : Prop := match us with
  | [] => n' = n ∧ A
  | us => n ≤ n' ∧ (∀ u ∈ us, n ≤ u.1 ∧ u.1 < n') ∧ B
def vcV (us : List (Nat × Option Row)) (n n' : Nat) (A : Prop) : Prop := n ≤ n' ∧ (∀ u ∈ us, u.1 < n') ∧ A

def vcD (P : Program) (S : Sums) (ops : Array Oper) (B W : List Nat) (h0 : Heap) : List Oper → Nat → Tmps → List (Nat × List (Nat × Option Row)) → Nat → (Tmps → Heap → Nat → Prop) → Prop
  | [], _, t, r, n, K => K t (hpL h0 (fun _ => true) r) n
  | o :: l, k, t, r, n, K => vcG ops o t
    (fun t => if isV P W k o.op = true then vcE (aeff P o.op t noHeap n) fun v us n' => vcU us n n' (vcD P S ops B W h0 l (k + 1) (put t o.dst v) r n K) False
      else if k ∈ W then vcE (stepE P S o.op t (hpL h0 (pre B k) r) n) fun v us n' => vcV us n n' (vcD P S ops B W h0 l (k + 1) (put t o.dst v) ((k, us) :: r) n' K)
      else match o.op with
        | .call { callee := .value f, args := args, .. } => (match callR S t (hpL h0 (pre B k) r) f args.toList with
          | .pure v => vcD P S ops B W h0 l (k + 1) (put t o.dst v) r n K
          | .ext v => vcD P S ops B W h0 l (k + 1) (put t o.dst v) r n K
          | .fresh sz len cs => vcD P S ops B W h0 l (k + 1) (put t o.dst (.sl sz n 0 len)) ((k, [(n, some (.cells cs))]) :: r) (n + 1) K
          | _ => False)
        | op => vcE (aeff P op t (hpL h0 (pre B k) r) n) fun v us n' => vcU us n n' (vcD P S ops B W h0 l (k + 1) (put t o.dst v) r n K) (vcD P S ops B W h0 l (k + 1) (put t o.dst v) ((k, us) :: r) n' K))
    (fun t => vcD P S ops B W h0 l (k + 1) (put t o.dst (.tup [])) r n K)

def vcC (P : Program) (S : Sums) (tabs : Nat → List Nat × List Nat) : Code → Tmps → Heap → Nat → (Exit → Tmps → Heap → Nat → Prop) → Prop
  | .skip, t, h, n, K => K .normal t h n
  | .ret, t, h, n, K => K .ret t h n
  | .exit id, t, h, n, K => K (.exit id) t h n
  | .seq a b, t, h, n, K => vcC P S tabs a t h n (thenQ (fun t h n => vcC P S tabs b t h n K) K)
  | .block id c, t, h, n, K => vcC P S tabs c t h n (inBlockQ id K)
  | .cond x a b, t, h, n, K => (match x with
    | .tmp d => (match t d with
      | .b u => br u true (vcC P S tabs a (put t (some d) (.b true)) h n K) (vcC P S tabs b (put t (some d) (.b false)) h n K)
      | _ => False)
    | _ => False)
  | .region id ops false, t, h, n, K => vcR P S ops ops.toList t h n fun t h n => K .normal t h n
  | .region id ops true, t, h, n, K => vcD P S ops (tabs id).1 (tabs id).2 h ops.toList 0 t [] n fun t h n => K .normal t h n
  | _, _, _, _, _ => False

def okCode (P : Program) (N : Nat) (tabs : Nat → List Nat × List Nat) : Code → Bool
  | .skip | .ret | .exit _ => true
  | .region id ops d => opsOk N ops && (!d || drawChk P ops (tabs id).1 (tabs id).2)
  | .seq a b => okCode P N tabs a && okCode P N tabs b
  | .cond x a b => okX x && okCode P N tabs a && okCode P N tabs b
  | .block _ c | .loop c => okCode P N tabs c
  | _ => false

/-! ### and it is so -/
theorem put_self {t : Tmps} {d : Tmp} {x : AV} (hx : t d = x) : put t (some d) x = t := by
  funext k
  rw [put_at]
  split
  · rename_i hk; subst hk; exact hx.symm
  · rfl

theorem vcG_elim {R S : Tmps → Prop} (hg : vcG ops o t R S) : (wantedA ops t o = some true ∧ R t) ∨ (wantedA ops t o = some false ∧ S t) := by
  unfold vcG at hg
  unfold wantedA
  split at hg
  · rename_i hgd; rw [hgd]; exact .inl ⟨rfl, hg⟩
  · rename_i j want hgd
    rw [hgd]
    split at hg
    · rename_i d hd
      simp only [hd]
      split at hg
      · rename_i u hu
        rw [hu]
        by_cases huw : u = want
        · subst huw
          left
          exact ⟨by simp, by have := hg.1 rfl; rwa [put_self hu] at this⟩
        · right
          have : u = !want := by revert huw; cases u <;> cases want <;> simp
          refine ⟨by subst this; cases want <;> rfl, ?_⟩
          have h2 := hg.2 this
          rwa [put_self (by rw [hu, this])] at h2
      · rename_i hu
        rw [hu]
        exact .inr ⟨rfl, hg⟩
      · exact hg.elim
    · exact hg.elim

theorem vcE_elim {e : Eff} {K : AV → List (Nat × Option Row) → Nat → Prop} (he : vcE e K) : ∃ v us n', e = some (v, us, n') ∧ K v us n' := by
  unfold vcE at he
  split at he
  · exact ⟨_, _, _, rfl, he⟩
  · exact he.elim

theorem callR_elim {S : Sums} {f : Operand} {args : List Operand} {r : Res} (hr : callR S t h f args = r) (hno : r ≠ .no) : ∃ g first cap, aev t f = .fn (.func g) first cap ∧ S g (first ++ args.map (aev t) ++ cap) h = r := by
  unfold callR at hr
  split at hr
  · rename_i g first cap hf; exact ⟨g, first, cap, hf, hr⟩
  · exact absurd hr.symm hno

theorem stepE_sound {S : Sums} (hS : SumOk P S) (hw : wantedA ops t o = some true) (ho : opOk o.op = true) (he : stepE P S o.op t h n = some (v, us, n')) : SoundO P ops o t h n v us n' := by
  unfold stepE at he
  split at he
  · rename_i f args Ts hop
    have key : ∀ r, callR S t h f args.toList = r → r ≠ .no → (∀ g xs, S g xs h = r → DCalls P g xs h n v us n') → SoundO P ops o t h n v us n' := fun r hr hno hD => by
      obtain ⟨g, first, cap, hf, hs⟩ := callR_elim hr hno
      exact .call hw ho hop hf (hD g _ hs)
    unfold resE at he
    split at he
    · cases he
    · rename_i r hr
      refine key _ hr (by simp) (fun g xs hs => ?_)
      simp only [Option.some.injEq, Prod.mk.injEq] at he
      obtain ⟨rfl, rfl, rfl⟩ := he
      exact hS.pure _ _ _ _ hs _
    · rename_i sz len cs hr
      refine key _ hr (by simp) (fun g xs hs => ?_)
      simp only [Option.some.injEq, Prod.mk.injEq] at he
      obtain ⟨rfl, rfl, rfl⟩ := he
      exact (hS.fresh _ _ _ _ _ _ hs).2 _
    · rename_i F hr
      refine key _ hr (by simp) (fun g xs hs => ?_)
      simp only [Option.some.injEq] at he
      have := hS.wide _ _ _ _ hs n
      rw [he] at this
      exact this
    · rename_i r hr
      simp only [Option.some.injEq, Prod.mk.injEq] at he
      obtain ⟨rfl, rfl, rfl⟩ := he
      obtain ⟨g, first, cap, hf, hs⟩ := callR_elim hr (by simp)
      exact .ecall hw ho hop hf (hS.ext _ _ _ _ hs)
  · exact .eff hw ho he

theorem vcR_sound {S : Sums} (hS : SumOk P S) : ∀ {l : List Oper} {k : Nat} {t : Tmps} {h : Heap} {n : Nat} {K : Tmps → Heap → Nat → Prop}, ops.toList.drop k = l → vcR P S ops l t h n K → RW P N ops k t h n K
  | [], k, t, h, n, K, hl, hv => by
    refine RW.end_ ?_ hv
    have := List.drop_eq_nil_iff.1 hl
    rw [Array.getElem?_eq_none_iff]; simpa using this
  | o :: l, k, t, h, n, K, hl, hv => by
    have hk : ops[k]? = some o := by
      have := congrArg (fun l => l[0]?) hl
      simpa using this
    have hl' : ops.toList.drop (k + 1) = l := by
      have := congrArg List.tail hl
      simpa using this
    simp only [vcR] at hv
    rcases vcG_elim hv with ⟨hw, hv⟩ | ⟨hw, hv⟩
    · obtain ⟨v, us, n', he, hv⟩ := vcE_elim hv
      exact RW.step hk (fun ho => stepE_sound hS hw ho he) (vcR_sound hS hl' hv)
    · exact RW.step hk (fun _ => .skip hw) (by rw [app_nil]; exact vcR_sound hS hl' hv)

theorem isVal_call {f : Operand} {args : Array Operand} {Ts : Array TypeId} : isVal P (.call { callee := .value f, args := args, argTypes := Ts }) = false := rfl

theorem vcD_sound {S : Sums} (hS : SumOk P S) (hok : opsOk N ops = true) : ∀ {l : List Oper} {k : Nat} {t : Tmps} {r : List (Nat × List (Nat × Option Row))} {n : Nat} {K : Tmps → Heap → Nat → Prop}, ops.toList.drop k = l → vcD P S ops B W h0 l k t r n K → DW P N ops B W h0 K k t r n
  | [], k, t, r, n, K, hl, hv => by
    refine DW.end_ ?_ hv
    have := List.drop_eq_nil_iff.1 hl
    rw [Array.getElem?_eq_none_iff]; simpa using this
  | o :: l, k, t, r, n, K, hl, hv => by
    have hk : ops[k]? = some o := by
      have := congrArg (fun l => l[0]?) hl
      simpa using this
    have hl' : ops.toList.drop (k + 1) = l := by
      have := congrArg List.tail hl
      simpa using this
    obtain ⟨ho, hd⟩ := opsOk_at hok hk
    simp only [vcD] at hv
    rcases vcG_elim hv with ⟨hw, hv⟩ | ⟨hw, hv⟩
    · split at hv
      · rename_i hval
        obtain ⟨v, us, n', he, hv⟩ := vcE_elim hv
        unfold vcU at hv
        split at hv
        · obtain ⟨hn, hv⟩ := hv
          subst hn
          exact DW.val hk hd hval (.eff hw ho he) (vcD_sound hS hok hl' hv)
        · exact hv.2.2.elim
      · rename_i hval
        have hval : isV P W k o.op = false := by simpa using hval
        split at hv
        · rename_i hW
          obtain ⟨v, us, n', he, hn, hus, hv⟩ := vcE_elim hv
          refine DW.wide hk hd hval hW hn hus (fun t' ht => ?_) (vcD_sound hS hok hl' hv)
          refine stepE_sound hS (by rw [wantedA_congr ht]; exact hw) ho ?_
          have hx := aev_looks ht
          rw [← he]
          unfold stepE
          split
          · rename_i f args Ts hop
            rw [hop] at hx
            congr 1
            unfold callR
            rw [hx f (by simp [Op.operands, Call.operands]), List.map_congr_left (fun x hm => hx x (by simp [Op.operands, Call.operands]; exact .inr (by simpa using hm)))]
          · exact aeff_congr hx
        · split at hv
          · rename_i f args Ts hop
            split at hv
            · rename_i v hr
              obtain ⟨g, first, cap, hf, hs⟩ := callR_elim hr (by simp)
              exact DW.read hk hd hval (.pcall hw ho hop hf (fun m => hS.pure _ _ _ _ hs m)) (vcD_sound hS hok hl' hv)
            · rename_i v hr
              obtain ⟨g, first, cap, hf, hs⟩ := callR_elim hr (by simp)
              exact DW.read hk hd hval (.ecall hw ho hop hf (hS.ext _ _ _ _ hs)) (vcD_sound hS hok hl' hv)
            · rename_i sz len cs hr
              obtain ⟨g, first, cap, hf, hs⟩ := callR_elim hr (by simp)
              have := hS.fresh _ _ _ _ _ _ hs
              exact DW.quiet hk hd hval (Nat.le_succ _) (fun u hu => by simp at hu; subst hu; simp) (.fcall hw ho hop hf this.1 this.2) (vcD_sound hS hok hl' hv)
            · exact hv.elim
          · obtain ⟨v, us, n', he, hv⟩ := vcE_elim hv
            unfold vcU at hv
            split at hv
            · obtain ⟨hn, hv⟩ := hv
              subst hn
              exact DW.read hk hd hval (.eff hw ho he) (vcD_sound hS hok hl' hv)
            · exact DW.quiet hk hd hval hv.1 hv.2.1 (.eff hw ho he) (vcD_sound hS hok hl' hv.2.2)
    · cases hval : isV P W k o.op with
      | true => exact DW.val hk hd hval (.skip hw) (vcD_sound hS hok hl' hv)
      | false => exact DW.read hk hd hval (.skip hw) (vcD_sound hS hok hl' hv)

theorem vcC_sound {S : Sums} {tabs : Nat → List Nat × List Nat} (hS : SumOk P S) (hm : P.follows .mixedOrders = true) : ∀ {c : Code} {t : Tmps} {h : Heap} {n : Nat} {K : Exit → Tmps → Heap → Nat → Prop}, okCode P N tabs c = true → vcC P S tabs c t h n K → AWp P N c t h n K
  | .skip, t, h, n, K, _, hv => .skip hv
  | .ret, t, h, n, K, _, hv => .ret hv
  | .exit id, t, h, n, K, _, hv => .exit hv
  | .seq a b, t, h, n, K, ho, hv => by
    simp only [okCode, Bool.and_eq_true] at ho
    refine .seq (AWp.mono (vcC_sound hS hm ho.1 hv) fun e t' h' n' hq => ?_)
    cases e with
    | normal => exact vcC_sound hS hm ho.2 hq
    | _ => exact hq
  | .block id c, t, h, n, K, ho, hv => .block (vcC_sound hS hm ho hv)
  | .cond x a b, t, h, n, K, ho, hv => by
    simp only [okCode, Bool.and_eq_true] at ho
    simp only [vcC] at hv
    split at hv
    · rename_i d
      split at hv
      · rename_i u hu
        refine .cond (u := u) rfl hu (fun h1 => ?_) (fun h1 => ?_)
        · have := hv.1 h1
          rw [put_self (by rw [hu, h1])] at this
          exact vcC_sound hS hm ho.1.2 this
        · have := hv.2 h1
          rw [put_self (by rw [hu, h1])] at this
          exact vcC_sound hS hm ho.2 this
      · exact hv.elim
    · exact hv.elim
  | .region id ops false, t, h, n, K, ho, hv => by
    simp only [okCode, Bool.and_eq_true] at ho
    exact .region ho.1 (vcR_sound hS (List.drop_zero) hv)
  | .region id ops true, t, h, n, K, ho, hv => by
    simp only [okCode, Bool.and_eq_true, Bool.not_true, Bool.false_or] at ho
    exact .draws _ _ hm ho.2 (vcD_sound hS ho.1 (List.drop_zero) hv)

/-- Code without loops, with what is behind as a letter. -/
theorem AWp.of_vc {S : Sums} {tabs : Nat → List Nat × List Nat} (hS : SumOk P S) (hm : P.follows .mixedOrders = true) {c : Code} {Q : Exit → Tmps → Heap → Nat → Prop} (ho : okCode P N tabs c = true)
    (hv : ∀ K : Exit → Tmps → Heap → Nat → Prop, (∀ e t h n, Q e t h n → K e t h n) → vcC P S tabs c t h n K) : AWp P N c t h n Q := vcC_sound hS hm ho (hv Q fun _ _ _ _ h => h)

end Go.Av
end

section
namespace Go.Av

variable {P : Program} {N : Nat} {S : Sums} {n n' : Nat} {h h' h0 : Heap} {t : Tmps} {v : AV} {us : List (Nat × Option Row)} {ops : Array Oper} {B W : List Nat} {o : Oper} {l : List Oper} {K : Tmps → Heap → Nat → Prop} {d : Option Tmp} {e : Tmp} {j : Nat} {want u : Bool} {k : Nat} {r : List (Nat × List (Nat × Option Row))}

/-! ### regions in text order -/
theorem vr_nil (hk : K t h n) : vcR P S ops [] t h n K := hk
theorem vr_val (hg : o.guard = none) (hd : o.dst = d) (he : stepE P S o.op t h n = some (v, [], n)) (hk : vcR P S ops l (put t d v) h n K) : vcR P S ops (o :: l) t h n K := by
  subst hd; simp only [vcR, vcG, hg, he, vcE]; exact hk
theorem vr_upd (hg : o.guard = none) (hd : o.dst = d) (he : stepE P S o.op t h n = some (v, us, n')) (hh : app us h = h') (hk : vcR P S ops l (put t d v) h' n' K) : vcR P S ops (o :: l) t h n K := by
  subst hd; subst hh; simp only [vcR, vcG, hg, he, vcE]; exact hk
theorem vr_run (hg : o.guard = some (j, want)) (hj : (ops[j]?).bind (·.dst) = some e) (ht : t e = .b want) (hd : o.dst = d) (he : stepE P S o.op t h n = some (v, [], n)) (hk : vcR P S ops l (put t d v) h n K) : vcR P S ops (o :: l) t h n K := by
  subst hd
  simp only [vcR, vcG, hg, hj, ht, br]
  exact ⟨fun _ => by rw [put_self ht, he]; exact hk, fun hw => by cases want <;> cases hw⟩
theorem vr_runU (hg : o.guard = some (j, want)) (hj : (ops[j]?).bind (·.dst) = some e) (ht : t e = .b want) (hd : o.dst = d) (he : stepE P S o.op t h n = some (v, us, n')) (hh : app us h = h') (hk : vcR P S ops l (put t d v) h' n' K) : vcR P S ops (o :: l) t h n K := by
  subst hd; subst hh
  simp only [vcR, vcG, hg, hj, ht, br]
  exact ⟨fun _ => by rw [put_self ht, he]; exact hk, fun hw => by cases want <;> cases hw⟩
theorem vr_skip (hg : o.guard = some (j, want)) (hj : (ops[j]?).bind (·.dst) = some e) (ht : t e = .b u) (hu : u = !want) (hd : o.dst = d) (hk : vcR P S ops l (put t d (.tup [])) h n K) : vcR P S ops (o :: l) t h n K := by
  subst hd; subst hu
  simp only [vcR, vcG, hg, hj, ht, br]
  exact ⟨(fun hw => by cases want <;> cases hw), fun _ => by rw [put_self ht]; exact hk⟩
theorem vr_split (hg : o.guard = some (j, want)) (hj : (ops[j]?).bind (·.dst) = some e) (ht : t e = .b u) (h1 : u = true → vcR P S ops (o :: l) (put t (some e) (.b true)) h n K) (h2 : u = false → vcR P S ops (o :: l) (put t (some e) (.b false)) h n K) : vcR P S ops (o :: l) t h n K := by
  cases u
  · have := h2 rfl; rwa [put_self ht] at this
  · have := h1 rfl; rwa [put_self ht] at this

/-! ### regions in drawn order -/
theorem vd_nil (hh : hpL h0 (fun _ => true) r = h') (hk : K t h' n) : vcD P S ops B W h0 [] k t r n K := by subst hh; exact hk

theorem vd_guard0 {R Q : Tmps → Prop} (hg : o.guard = none) (hk : R t) : vcG ops o t R Q := by simp only [vcG, hg]; exact hk
theorem vd_guard1 {R Q : Tmps → Prop} (hg : o.guard = some (j, want)) (hj : (ops[j]?).bind (·.dst) = some e) (ht : t e = .b want) (hk : R t) : vcG ops o t R Q := by
  simp only [vcG, hg, hj, ht, br]
  exact ⟨fun _ => by rw [put_self ht]; exact hk, fun hw => by cases want <;> cases hw⟩
theorem vd_skip (hg : o.guard = some (j, want)) (hj : (ops[j]?).bind (·.dst) = some e) (ht : t e = .b u) (hu : u = !want) (hd : o.dst = d) (hk : vcD P S ops B W h0 l (k + 1) (put t d (.tup [])) r n K) : vcD P S ops B W h0 (o :: l) k t r n K := by
  subst hd; subst hu
  simp only [vcD, vcG, hg, hj, ht, br]
  exact ⟨(fun hw => by cases want <;> cases hw), fun _ => by rw [put_self ht]; exact hk⟩
theorem vd_split (hg : o.guard = some (j, want)) (hj : (ops[j]?).bind (·.dst) = some e) (ht : t e = .b u) (h1 : u = true → vcD P S ops B W h0 (o :: l) k (put t (some e) (.b true)) r n K) (h2 : u = false → vcD P S ops B W h0 (o :: l) k (put t (some e) (.b false)) r n K) : vcD P S ops B W h0 (o :: l) k t r n K := by
  cases u
  · have := h2 rfl; rwa [put_self ht] at this
  · have := h1 rfl; rwa [put_self ht] at this

/-- The guard lets it through. -/
def goes (ops : Array Oper) (o : Oper) (t : Tmps) : Prop := o.guard = none ∨ ∃ j want e, o.guard = some (j, want) ∧ (ops[j]?).bind (·.dst) = some e ∧ t e = .b want
theorem goes0 (hg : o.guard = none) : goes ops o t := .inl hg
theorem goes1 (hg : o.guard = some (j, want)) (hj : (ops[j]?).bind (·.dst) = some e) (ht : t e = .b want) : goes ops o t := .inr ⟨j, want, e, hg, hj, ht⟩
theorem vcG_goes {R Q : Tmps → Prop} (hg : goes ops o t) (hk : R t) : vcG ops o t R Q := by
  rcases hg with hg | ⟨j, want, e, h1, h2, h3⟩
  · exact vd_guard0 hg hk
  · exact vd_guard1 h1 h2 h3 hk

theorem vd_val (hg : goes ops o t) (hi : isV P W k o.op = true) (hd : o.dst = d) (he : aeff P o.op t noHeap n = some (v, [], n)) (hk : vcD P S ops B W h0 l (k + 1) (put t d v) r n K) : vcD P S ops B W h0 (o :: l) k t r n K := by
  subst hd
  simp only [vcD]
  refine vcG_goes hg ?_
  rw [if_pos hi, he]
  exact ⟨rfl, hk⟩

def isFn : Op → Bool
  | .call { callee := .value _, .. } => true
  | _ => false

theorem vd_read (hg : goes ops o t) (hi : isV P W k o.op = false) (hw : k ∉ W) (hf : isFn o.op = false) (hd : o.dst = d) (hv : hpL h0 (pre B k) r = h') (he : aeff P o.op t h' n = some (v, [], n)) (hk : vcD P S ops B W h0 l (k + 1) (put t d v) r n K) : vcD P S ops B W h0 (o :: l) k t r n K := by
  subst hd; subst hv
  simp only [vcD]
  refine vcG_goes hg ?_
  rw [if_neg (by rw [hi]; simp), if_neg hw]
  split
  · rename_i hop; rw [hop] at hf; cases hf
  · rw [he]; exact ⟨rfl, hk⟩
theorem vd_quiet (hg : goes ops o t) (hi : isV P W k o.op = false) (hw : k ∉ W) (hf : isFn o.op = false) (hd : o.dst = d) (hv : hpL h0 (pre B k) r = h') (he : aeff P o.op t h' n = some (v, us, n')) (hne : us ≠ []) (hn : n ≤ n') (hus : ∀ u ∈ us, n ≤ u.1 ∧ u.1 < n')
    (hk : vcD P S ops B W h0 l (k + 1) (put t d v) ((k, us) :: r) n' K) : vcD P S ops B W h0 (o :: l) k t r n K := by
  subst hd; subst hv
  simp only [vcD]
  refine vcG_goes hg ?_
  rw [if_neg (by rw [hi]; simp), if_neg hw]
  split
  · rename_i hop; rw [hop] at hf; cases hf
  · rw [he]
    cases us with
    | nil => exact absurd rfl hne
    | cons x us => exact ⟨hn, hus, hk⟩
theorem vd_wide (hg : goes ops o t) (hi : isV P W k o.op = false) (hw : k ∈ W) (hd : o.dst = d) (hv : hpL h0 (pre B k) r = h') (he : stepE P S o.op t h' n = some (v, us, n')) (hn : n ≤ n') (hus : ∀ u ∈ us, u.1 < n')
    (hk : vcD P S ops B W h0 l (k + 1) (put t d v) ((k, us) :: r) n' K) : vcD P S ops B W h0 (o :: l) k t r n K := by
  subst hd; subst hv
  simp only [vcD]
  refine vcG_goes hg ?_
  rw [if_neg (by rw [hi]; simp), if_pos hw, he]
  exact ⟨hn, hus, hk⟩
theorem vd_pcall {f : Operand} {args : Array Operand} {Ts : Array TypeId} (hg : goes ops o t) (hop : o.op = .call { callee := .value f, args := args, argTypes := Ts }) (hw : k ∉ W) (hd : o.dst = d) (hv : hpL h0 (pre B k) r = h') (he : callR S t h' f args.toList = .pure v)
    (hk : vcD P S ops B W h0 l (k + 1) (put t d v) r n K) : vcD P S ops B W h0 (o :: l) k t r n K := by
  subst hd; subst hv
  simp only [vcD]
  refine vcG_goes hg ?_
  rw [if_neg (by rw [hop]; simp [isV, isVal, isLd]), if_neg hw, hop]
  simp only [he]
  exact hk
theorem vd_ecall {f : Operand} {args : Array Operand} {Ts : Array TypeId} (hg : goes ops o t) (hop : o.op = .call { callee := .value f, args := args, argTypes := Ts }) (hw : k ∉ W) (hd : o.dst = d) (hv : hpL h0 (pre B k) r = h') (he : callR S t h' f args.toList = .ext v)
    (hk : vcD P S ops B W h0 l (k + 1) (put t d v) r n K) : vcD P S ops B W h0 (o :: l) k t r n K := by
  subst hd; subst hv
  simp only [vcD]
  refine vcG_goes hg ?_
  rw [if_neg (by rw [hop]; simp [isV, isVal, isLd]), if_neg hw, hop]
  simp only [he]
  exact hk
theorem vd_fcall {f : Operand} {args : Array Operand} {Ts : Array TypeId} {sz len : Nat} {cs : List AV} (hg : goes ops o t) (hop : o.op = .call { callee := .value f, args := args, argTypes := Ts }) (hw : k ∉ W) (hd : o.dst = d) (hv : hpL h0 (pre B k) r = h') (he : callR S t h' f args.toList = .fresh sz len cs)
    (hk : vcD P S ops B W h0 l (k + 1) (put t d (.sl sz n 0 len)) ((k, [(n, some (.cells cs))]) :: r) (n + 1) K) : vcD P S ops B W h0 (o :: l) k t r n K := by
  subst hd; subst hv
  simp only [vcD]
  refine vcG_goes hg ?_
  rw [if_neg (by rw [hop]; simp [isV, isVal, isLd]), if_neg hw, hop]
  simp only [he]
  exact hk

/-! ### code -/
variable {Q : Exit → Tmps → Heap → Nat → Prop} {a b c : Code}

theorem aw_region {id : Nat} (hS : SumOk P S) (ho : opsOk N ops = true) (hl : ops.toList = l) (hv : vcR P S ops l t h n (fun t h n => Q .normal t h n)) : AWp P N (.region id ops false) t h n Q := by
  subst hl
  exact .region ho (vcR_sound hS (List.drop_zero) hv)
theorem aw_draws {id : Nat} (B W : List Nat) (hS : SumOk P S) (hm : P.follows .mixedOrders = true) (ho : opsOk N ops = true) (hd : drawChk P ops B W = true) (hl : ops.toList = l) (hv : vcD P S ops B W h l 0 t [] n (fun t h n => Q .normal t h n)) : AWp P N (.region id ops true) t h n Q := by
  subst hl
  exact .draws _ _ hm hd (vcD_sound hS ho (List.drop_zero) hv)
theorem aw_regionL {id : Nat} (hS : SumOk P S) (ho : opsOk N l.toArray = true) (hv : vcR P S l.toArray l t h n (fun t h n => Q .normal t h n)) : AWp P N (.region id l.toArray false) t h n Q := aw_region hS ho rfl hv
theorem aw_drawsL {id : Nat} (B W : List Nat) (hS : SumOk P S) (hm : P.follows .mixedOrders = true) (ho : opsOk N l.toArray = true) (hd : drawChk P l.toArray B W = true) (hv : vcD P S l.toArray B W h l 0 t [] n (fun t h n => Q .normal t h n)) : AWp P N (.region id l.toArray true) t h n Q := aw_draws B W hS hm ho hd rfl hv
theorem aw_then {k : Tmps → Heap → Nat → Prop} (hk : k t h n) : thenQ k Q .normal t h n := hk
theorem aw_in {id : Nat} (hk : Q .normal t h n) : inBlockQ id Q .normal t h n := hk
theorem aw_exit {id : Nat} (hk : Q .normal t h n) : inBlockQ id Q (.exit id) t h n := by simp only [inBlockQ, if_true]; exact hk
theorem aw_thru {id : Nat} {k : Tmps → Heap → Nat → Prop} (hk : Q (.exit id) t h n) : thenQ k Q (.exit id) t h n := hk
theorem aw_past {id id' : Nat} (hne : id' ≠ id) (hk : Q (.exit id') t h n) : inBlockQ id Q (.exit id') t h n := by simp only [inBlockQ, if_neg hne]; exact hk
theorem aw_true (ht : t e = .b true) (h1 : AWp P N a t h n Q) : AWp P N (.cond (.tmp e) a b) t h n Q := .cond rfl ht (fun _ => h1) (fun h => by cases h)
theorem aw_false (ht : t e = .b false) (h1 : AWp P N b t h n Q) : AWp P N (.cond (.tmp e) a b) t h n Q := .cond rfl ht (fun h => by cases h) (fun _ => h1)
theorem aw_split (ht : t e = .b u) (h1 : u = true → AWp P N a (put t (some e) (.b true)) h n Q) (h2 : u = false → AWp P N b (put t (some e) (.b false)) h n Q) : AWp P N (.cond (.tmp e) a b) t h n Q :=
  .cond rfl ht (fun hu => by have := h1 hu; rwa [put_self (by rw [ht, hu])] at this) (fun hu => by have := h2 hu; rwa [put_self (by rw [ht, hu])] at this)

/-! ### the same, with the operation taken apart -/
variable {op : Op} {ty : TypeId} {ps : String} {af : Array Edge} {x y z : AV}
theorem vr0 (he : stepE P S op t h n = some (v, [], n)) (hk : vcR P S ops l (put t d v) h n K) : vcR P S ops (⟨d, op, ty, ps, af, none⟩ :: l) t h n K := vr_val rfl rfl he hk
theorem vr0u (he : stepE P S op t h n = some (v, us, n')) (hh : app us h = h') (hk : vcR P S ops l (put t d v) h' n' K) : vcR P S ops (⟨d, op, ty, ps, af, none⟩ :: l) t h n K := vr_upd rfl rfl he hh hk
theorem vr1 (hj : (ops[j]?).bind (·.dst) = some e) (ht : t e = .b u) (hu : u = want) (he : stepE P S op t h n = some (v, [], n)) (hk : vcR P S ops l (put t d v) h n K) : vcR P S ops (⟨d, op, ty, ps, af, some (j, want)⟩ :: l) t h n K := vr_run rfl hj (by rw [ht, hu]) rfl he hk
theorem vr1u (hj : (ops[j]?).bind (·.dst) = some e) (ht : t e = .b u) (hu : u = want) (he : stepE P S op t h n = some (v, us, n')) (hh : app us h = h') (hk : vcR P S ops l (put t d v) h' n' K) : vcR P S ops (⟨d, op, ty, ps, af, some (j, want)⟩ :: l) t h n K := vr_runU rfl hj (by rw [ht, hu]) rfl he hh hk
theorem vr2 (hj : (ops[j]?).bind (·.dst) = some e) (ht : t e = .b u) (hu : u = !want) (hk : vcR P S ops l (put t d (.tup [])) h n K) : vcR P S ops (⟨d, op, ty, ps, af, some (j, want)⟩ :: l) t h n K := vr_skip rfl hj ht hu rfl hk
theorem vr3 (hj : (ops[j]?).bind (·.dst) = some e) (ht : t e = .b u) (h1 : u = true → vcR P S ops (⟨d, op, ty, ps, af, some (j, want)⟩ :: l) (put t (some e) (.b true)) h n K) (h2 : u = false → vcR P S ops (⟨d, op, ty, ps, af, some (j, want)⟩ :: l) (put t (some e) (.b false)) h n K) : vcR P S ops (⟨d, op, ty, ps, af, some (j, want)⟩ :: l) t h n K := vr_split rfl hj ht h1 h2

theorem vd0 (hi : isV P W k op = true) (he : aeff P op t noHeap n = some (v, [], n)) (hk : vcD P S ops B W h0 l (k + 1) (put t d v) r n K) : vcD P S ops B W h0 (⟨d, op, ty, ps, af, none⟩ :: l) k t r n K := vd_val (.inl rfl) hi rfl he hk
theorem vd1 (hj : (ops[j]?).bind (·.dst) = some e) (ht : t e = .b u) (hu : u = want) (hi : isV P W k op = true) (he : aeff P op t noHeap n = some (v, [], n)) (hk : vcD P S ops B W h0 l (k + 1) (put t d v) r n K) : vcD P S ops B W h0 (⟨d, op, ty, ps, af, some (j, want)⟩ :: l) k t r n K := vd_val (goes1 rfl hj (by rw [ht, hu])) hi rfl he hk
theorem vd0r (hi : isV P W k op = false) (hw : k ∉ W) (hf : isFn op = false) (hv : hpL h0 (pre B k) r = h') (he : aeff P op t h' n = some (v, [], n)) (hk : vcD P S ops B W h0 l (k + 1) (put t d v) r n K) : vcD P S ops B W h0 (⟨d, op, ty, ps, af, none⟩ :: l) k t r n K := vd_read (.inl rfl) hi hw hf rfl hv he hk
theorem vd1r (hj : (ops[j]?).bind (·.dst) = some e) (ht : t e = .b u) (hu : u = want) (hi : isV P W k op = false) (hw : k ∉ W) (hf : isFn op = false) (hv : hpL h0 (pre B k) r = h') (he : aeff P op t h' n = some (v, [], n)) (hk : vcD P S ops B W h0 l (k + 1) (put t d v) r n K) : vcD P S ops B W h0 (⟨d, op, ty, ps, af, some (j, want)⟩ :: l) k t r n K := vd_read (goes1 rfl hj (by rw [ht, hu])) hi hw hf rfl hv he hk
theorem vd0q (hi : isV P W k op = false) (hw : k ∉ W) (hf : isFn op = false) (hv : hpL h0 (pre B k) r = h') (he : aeff P op t h' n = some (v, us, n')) (hne : us ≠ []) (hn : n ≤ n') (hus : ∀ u ∈ us, n ≤ u.1 ∧ u.1 < n') (hk : vcD P S ops B W h0 l (k + 1) (put t d v) ((k, us) :: r) n' K) : vcD P S ops B W h0 (⟨d, op, ty, ps, af, none⟩ :: l) k t r n K := vd_quiet (.inl rfl) hi hw hf rfl hv he hne hn hus hk
theorem vd1q (hj : (ops[j]?).bind (·.dst) = some e) (ht : t e = .b u) (hu : u = want) (hi : isV P W k op = false) (hw : k ∉ W) (hf : isFn op = false) (hv : hpL h0 (pre B k) r = h') (he : aeff P op t h' n = some (v, us, n')) (hne : us ≠ []) (hn : n ≤ n') (hus : ∀ u ∈ us, n ≤ u.1 ∧ u.1 < n') (hk : vcD P S ops B W h0 l (k + 1) (put t d v) ((k, us) :: r) n' K) : vcD P S ops B W h0 (⟨d, op, ty, ps, af, some (j, want)⟩ :: l) k t r n K := vd_quiet (goes1 rfl hj (by rw [ht, hu])) hi hw hf rfl hv he hne hn hus hk
theorem vd0w (hi : isV P W k op = false) (hw : k ∈ W) (hv : hpL h0 (pre B k) r = h') (he : stepE P S op t h' n = some (v, us, n')) (hn : n ≤ n') (hus : ∀ u ∈ us, u.1 < n') (hk : vcD P S ops B W h0 l (k + 1) (put t d v) ((k, us) :: r) n' K) : vcD P S ops B W h0 (⟨d, op, ty, ps, af, none⟩ :: l) k t r n K := vd_wide (.inl rfl) hi hw rfl hv he hn hus hk
theorem vd1w (hj : (ops[j]?).bind (·.dst) = some e) (ht : t e = .b u) (hu : u = want) (hi : isV P W k op = false) (hw : k ∈ W) (hv : hpL h0 (pre B k) r = h') (he : stepE P S op t h' n = some (v, us, n')) (hn : n ≤ n') (hus : ∀ u ∈ us, u.1 < n') (hk : vcD P S ops B W h0 l (k + 1) (put t d v) ((k, us) :: r) n' K) : vcD P S ops B W h0 (⟨d, op, ty, ps, af, some (j, want)⟩ :: l) k t r n K := vd_wide (goes1 rfl hj (by rw [ht, hu])) hi hw rfl hv he hn hus hk
variable {f : Operand} {args : Array Operand} {Ts : Array TypeId} {sz len : Nat} {cs : List AV}
theorem vd0p (hw : k ∉ W) (hv : hpL h0 (pre B k) r = h') (he : callR S t h' f args.toList = .pure v) (hk : vcD P S ops B W h0 l (k + 1) (put t d v) r n K) : vcD P S ops B W h0 (⟨d, .call { callee := .value f, args := args, argTypes := Ts }, ty, ps, af, none⟩ :: l) k t r n K := vd_pcall (.inl rfl) rfl hw rfl hv he hk
theorem vd0x (hw : k ∉ W) (hv : hpL h0 (pre B k) r = h') (he : callR S t h' f args.toList = .ext v) (hk : vcD P S ops B W h0 l (k + 1) (put t d v) r n K) : vcD P S ops B W h0 (⟨d, .call { callee := .value f, args := args, argTypes := Ts }, ty, ps, af, none⟩ :: l) k t r n K := vd_ecall (.inl rfl) rfl hw rfl hv he hk
theorem vd1p (hj : (ops[j]?).bind (·.dst) = some e) (ht : t e = .b u) (hu : u = want) (hw : k ∉ W) (hv : hpL h0 (pre B k) r = h') (he : callR S t h' f args.toList = .pure v) (hk : vcD P S ops B W h0 l (k + 1) (put t d v) r n K) : vcD P S ops B W h0 (⟨d, .call { callee := .value f, args := args, argTypes := Ts }, ty, ps, af, some (j, want)⟩ :: l) k t r n K := vd_pcall (goes1 rfl hj (by rw [ht, hu])) rfl hw rfl hv he hk
theorem vd0f (hw : k ∉ W) (hv : hpL h0 (pre B k) r = h') (he : callR S t h' f args.toList = .fresh sz len cs) (hk : vcD P S ops B W h0 l (k + 1) (put t d (.sl sz n 0 len)) ((k, [(n, some (.cells cs))]) :: r) (n + 1) K) : vcD P S ops B W h0 (⟨d, .call { callee := .value f, args := args, argTypes := Ts }, ty, ps, af, none⟩ :: l) k t r n K := vd_fcall (.inl rfl) rfl hw rfl hv he hk
theorem vd1f (hj : (ops[j]?).bind (·.dst) = some e) (ht : t e = .b u) (hu : u = want) (hw : k ∉ W) (hv : hpL h0 (pre B k) r = h') (he : callR S t h' f args.toList = .fresh sz len cs) (hk : vcD P S ops B W h0 l (k + 1) (put t d (.sl sz n 0 len)) ((k, [(n, some (.cells cs))]) :: r) (n + 1) K) : vcD P S ops B W h0 (⟨d, .call { callee := .value f, args := args, argTypes := Ts }, ty, ps, af, some (j, want)⟩ :: l) k t r n K := vd_fcall (goes1 rfl hj (by rw [ht, hu])) rfl hw rfl hv he hk
theorem vd2 (hj : (ops[j]?).bind (·.dst) = some e) (ht : t e = .b u) (hu : u = !want) (hk : vcD P S ops B W h0 l (k + 1) (put t d (.tup [])) r n K) : vcD P S ops B W h0 (⟨d, op, ty, ps, af, some (j, want)⟩ :: l) k t r n K := vd_skip rfl hj ht hu rfl hk
theorem vd3 (hj : (ops[j]?).bind (·.dst) = some e) (ht : t e = .b u) (h1 : u = true → vcD P S ops B W h0 (⟨d, op, ty, ps, af, some (j, want)⟩ :: l) k (put t (some e) (.b true)) r n K) (h2 : u = false → vcD P S ops B W h0 (⟨d, op, ty, ps, af, some (j, want)⟩ :: l) k (put t (some e) (.b false)) r n K) : vcD P S ops B W h0 (⟨d, op, ty, ps, af, some (j, want)⟩ :: l) k t r n K := vd_split rfl hj ht h1 h2

theorem splice_one (cs : List AV) (off : Nat) (y : AV) : splice cs off [y] = cs.set off y := rfl
theorem splice_two (cs : List AV) (off : Nat) (a b : AV) (l : List AV) : splice cs off (a :: b :: l) = cs.take off ++ (a :: b :: l) ++ cs.drop (off + (l.length + 2)) := rfl
theorem hpL_t {S : Nat → Bool} (hs : S k = true) : hpL h0 S ((k, us) :: r) = app us (hpL h0 S r) := by simp only [hpL, hs, if_true]
theorem hpL_f {S : Nat → Bool} (hs : S k = false) : hpL h0 S ((k, us) :: r) = hpL h0 S r := by simp only [hpL, hs, Bool.false_eq_true, if_false]

/-! ### sums -/
def Sums.none : Sums := fun _ _ _ => .no
theorem SumOk.none : SumOk P Sums.none := ⟨fun f args h r hr => (nomatch hr), fun f args h a b c hr => (nomatch hr), fun f args h F hr => (nomatch hr), fun f args h r hr => (nomatch hr)⟩
/-- One more function, that comes back with a value alone. -/
def Sums.addP (S : Sums) (f : FuncId) (F : List AV → Option AV) : Sums := fun g args h => if g = f then (match F args with | some r => .pure r | .none => .no) else S g args h
theorem SumOk.addP {f : FuncId} {F : List AV → Option AV} (hS : SumOk P S) (hF : ∀ args r, F args = some r → ∀ h n, DCalls P f args h n r [] n) : SumOk P (S.addP f F) := by
  have key : ∀ g args h r, S.addP f F g args h = r → (g = f ∧ ((∃ v, F args = some v ∧ r = .pure v) ∨ r = .no)) ∨ (S g args h = r) := fun g args h r hr => by
    unfold Sums.addP at hr
    split at hr
    · rename_i hg
      left
      refine ⟨hg, ?_⟩
      cases hx : F args with
      | none => rw [hx] at hr; exact .inr hr.symm
      | some v => rw [hx] at hr; exact .inl ⟨v, rfl, hr.symm⟩
    · exact .inr hr
  refine ⟨fun g args h r hr n => ?_, fun g args h a b c hr => ?_, fun g args h G hr => ?_, fun g args h r hr => ?_⟩
  · rcases key g args h _ hr with ⟨rfl, ⟨v, h1, h2⟩ | h2⟩ | h3
    · cases h2; exact hF args _ h1 h n
    · cases h2
    · exact hS.pure g args h r h3 n
  · rcases key g args h _ hr with ⟨rfl, ⟨v, h1, h2⟩ | h2⟩ | h3
    · cases h2
    · cases h2
    · exact hS.fresh g args h a b c h3
  · rcases key g args h _ hr with ⟨rfl, ⟨v, h1, h2⟩ | h2⟩ | h3
    · cases h2
    · cases h2
    · exact hS.wide g args h G h3
  · rcases key g args h _ hr with ⟨rfl, ⟨v, h1, h2⟩ | h2⟩ | h3
    · cases h2
    · cases h2
    · exact hS.ext g args h r h3

mutual
theorem AV.free_names {S : Nat → Prop} : ∀ (x : AV), x.free = true → x.names S
  | .p _ _, h | .sl _ _ _ _, h => by simp [AV.free] at h
  | .q cs _, h | .ro _ cs _, h | .agg cs, h | .tup cs, h => by simp only [AV.free] at h; simp only [AV.names]; exact freeAll_names cs h
  | .fn _ a b, h => by simp only [AV.free, Bool.and_eq_true] at h; simp only [AV.names]; exact ⟨freeAll_names a h.1, freeAll_names b h.2⟩
  | .ifc _ x, h => by simp only [AV.free] at h; simp only [AV.names]; exact AV.free_names x h
  | .b _, _ | .i _ _, _ | .s _, _ | .np, _ | .nf, _ | .ni, _ => trivial
theorem freeAll_names {S : Nat → Prop} : ∀ (xs : List AV), freeAll xs = true → namesAll S xs
  | [], _ => trivial
  | x :: xs, h => by simp only [freeAll, Bool.and_eq_true] at h; exact ⟨AV.free_names x h.1, freeAll_names xs h.2⟩
end

end Go.Av
end

section
namespace Go.Av

variable {P : Program} {N : Nat} {S : Sums} {n n' : Nat} {h h' h0 : Heap} {t : Tmps} {v : AV} {ops : Array Oper} {B W : List Nat} {o : Oper} {l : List Oper} {K : Tmps → Heap → Nat → Prop} {d : Option Tmp} {e : Tmp} {j : Nat} {want u : Bool} {k : Nat} {r : List (Nat × List (Nat × Option Row))} {op : Op} {ty : TypeId} {ps : String} {af : Array Edge}

/-- The operation with this number has this slot. -/
def isD (ops : Array Oper) (j : Nat) (e : Tmp) : Prop := (ops[j]?).bind (·.dst) = some e
theorem isD.mk (h : (ops[j]?).bind (·.dst) = some e) : isD ops j e := h

/-- A guard's value, looked at. What was passed over tells nothing: what hangs on it is passed over. -/
def brE (t : Tmps) (_ : Tmp) (x : AV) (want : Bool) (X Y : Tmps → Prop) : Prop := match x with
  | .b u => br u want (X t) (Y t)
  | .tup _ => Y t
  | _ => False
variable {X Y : Tmps → Prop} {x : AV} {xs : List AV}
theorem b_tt (hx : X t) : brE t e (.b true) true X Y := by simp only [brE, br_tt]; exact hx
theorem b_ff (hx : X t) : brE t e (.b false) false X Y := by simp only [brE, br_ff]; exact hx
theorem b_tf (hy : Y t) : brE t e (.b true) false X Y := by simp only [brE, br_tf]; exact hy
theorem b_ft (hy : Y t) : brE t e (.b false) true X Y := by simp only [brE, br_ft]; exact hy
theorem b_no (hy : Y t) : brE t e (.tup xs) want X Y := hy
theorem br_s (ht : t e = .b u) (h1 : u = true → brE (put t (some e) (.b true)) e (.b true) want X Y) (h2 : u = false → brE (put t (some e) (.b false)) e (.b false) want X Y) : brE t e (.b u) want X Y := by
  cases u
  · have := h2 rfl; rwa [put_self ht] at this
  · have := h1 rfl; rwa [put_self ht] at this

theorem vr4 (hj : isD ops j e) (ht : t e = x) (hk : brE t e x want (fun t => vcR P S ops (⟨d, op, ty, ps, af, none⟩ :: l) t h n K) (fun t => vcR P S ops l (put t d (.tup [])) h n K)) : vcR P S ops (⟨d, op, ty, ps, af, some (j, want)⟩ :: l) t h n K := by
  have hj : (ops[j]?).bind (·.dst) = some e := hj
  simp only [vcR, vcG, hj, ht]
  cases x with
  | b u =>
    simp only [brE, vcR, vcG] at hk
    refine ⟨fun hu => ?_, fun hu => ?_⟩
    · have := hk.1 hu
      rw [put_self (by rw [ht, hu])]
      exact this
    · have := hk.2 hu
      rw [put_self (by rw [ht, hu])]
      exact this
  | tup xs => exact hk
  | _ => exact hk.elim
theorem vd4 (hj : isD ops j e) (ht : t e = x) (hk : brE t e x want (fun t => vcD P S ops B W h0 (⟨d, op, ty, ps, af, none⟩ :: l) k t r n K) (fun t => vcD P S ops B W h0 l (k + 1) (put t d (.tup [])) r n K)) : vcD P S ops B W h0 (⟨d, op, ty, ps, af, some (j, want)⟩ :: l) k t r n K := by
  have hj : (ops[j]?).bind (·.dst) = some e := hj
  simp only [vcD, vcG, hj, ht]
  cases x with
  | b u =>
    simp only [brE, vcD, vcG] at hk
    refine ⟨fun hu => ?_, fun hu => ?_⟩
    · have := hk.1 hu
      rw [put_self (by rw [ht, hu])]
      exact this
    · have := hk.2 hu
      rw [put_self (by rw [ht, hu])]
      exact this
  | tup xs => exact hk
  | _ => exact hk.elim

/-- For an equation, and nothing else. -/
theorem eqG {α : Type} {a b : α} (h : a = b) : a = b := h

end Go.Av
end

section
namespace Go.Av

variable {P : Program} {N : Nat} {n : Nat} {h : Heap} {t : Tmps} {w : World} {U : Nat → Prop} {ρ : Nat → Nat} {Ro : Nat → Prop}

theorem Rel.freeze (hr : Rel U ρ Ro h w) {j : Nat} {cs : List AV} (hj : h j = some (.cells cs)) :
    Rel U ρ (fun b => Ro b ∨ b = ρ j) (upd h j none) w ∧ Ext U ρ Ro h w U ρ (fun b => Ro b ∨ b = ρ j) (upd h j none) w ∧
    ∀ sz off len v, RV (cx U ρ Ro w) (.sl sz j off len) v → off + len * sz ≤ cs.length → RV (cx U ρ (fun b => Ro b ∨ b = ρ j) w) (.ro false ((cs.drop off).take (len * sz)) len) v := by
  have hle : (cx U ρ Ro w).le (cx U ρ (fun b => Ro b ∨ b = ρ j) w) := ⟨fun _ h => h, fun _ _ => rfl, fun a v hm => ⟨.inl hm.1, hm.2⟩, fun _ _ => rfl⟩
  have hU := hr.lt j _ hj
  have hold : ∀ x r, upd h j none x = some r → x ≠ j ∧ h x = some r := fun x r hx => by
    by_cases hxj : x = j
    · subst hxj; rw [upd_same] at hx; cases hx
    · rw [upd_ne _ _ hxj] at hx; exact ⟨hxj, hx⟩
  refine ⟨⟨fun x r hx => hr.lt x r (hold x r hx).2, hr.bl, fun x cs' hx => ?_, fun x s pos hx => hr.iter x s pos (hold x _ hx).2, fun x y rx ry hx hy => hr.inj x y rx ry (hold x _ hx).2 (hold y _ hy).2, fun x r hx => ?_, fun b hb => ?_, fun p hp => hle.M _ _ (hr.gl p hp)⟩,
    ⟨fun _ h => h, fun _ _ => rfl, fun b hb => .inl hb, fun b hb => ?_, rfl, rfl, rfl, Nat.le_refl _, fun _ _ _ => rfl, fun _ _ => rfl, fun x r hx => .inr ⟨x, r, (hold x r hx).2, rfl⟩⟩, fun sz off len v hv hlen => ?_⟩
  · obtain ⟨c, T, lo, hi, g0, g1, g2, g3, g4⟩ := hr.row x cs' (hold x _ hx).2
    exact ⟨c, T, lo, hi, g0, g1, g2, g3, fun k y u hy hu => (g4 k y u hy hu).mono hle⟩
  · rintro (h1 | h1)
    · exact hr.sep x r (hold x r hx).2 h1
    · exact (hold x r hx).1 (hr.inj x j r _ (hold x r hx).2 hj h1)
  · rcases hb with hb | rfl
    · exact hr.rob b hb
    · exact hr.bl j hU
  · rcases hb with hb | rfl
    · exact .inl hb
    · exact .inr (.inr ⟨j, _, hj, rfl⟩)
  · cases hv with
    | sl _ _ _ _ cap _ hl hc hz =>
      obtain ⟨c, T, lo, hi, g0, g1, g2, g3, g4⟩ := hr.row j cs hj
      have look : ∀ (k : Nat) (x : AV), ((cs.drop off).take (len * sz))[k]? = some x → cs[off + k]? = some x ∧ off + k < c.size := fun k x hx => by
        rw [List.getElem?_take] at hx
        split at hx
        · rw [List.getElem?_drop] at hx
          refine ⟨hx, ?_⟩
          rcases Nat.lt_or_ge (off + k) cs.length with h' | h'
          · omega
          · rw [List.getElem?_eq_none h'] at hx; cases hx
        · cases hx
      refine .ro _ len ⟨ρ j, off, none⟩ cap (fun k => c.getD (off + k) undef) hl hc (fun k x hx => g3 _ x (look k x hx).1) (fun k x hx => ?_) (fun k x hx => ?_) <;> obtain ⟨h1, h2⟩ := look k x hx
      · refine ⟨.inr ?_, ?_⟩
        · show (Addr.add ⟨ρ j, off, none⟩ k).block = ρ j
          rw [Addr.add_lit]
        · rw [Addr.add_lit, cell_row g0]
          simp [h2]
      · refine (g4 _ x _ h1 (Array.getElem?_eq_getElem h2)).mono hle |> fun hh => ?_
        simpa [h2] using hh

/-- From here on the row's content is the slot's value. -/
theorem AWp.freeze {c : Code} {Q : Exit → Tmps → Heap → Nat → Prop} {j k sz off len : Nat} {cs : List AV} (hj : h j = some (.cells cs)) (hk : t k = .sl sz j off len) (hle : off + len * sz ≤ cs.length)
    (hc : AWp P N c (put t (some k) (.ro false ((cs.drop off).take (len * sz)) len)) (upd h j none) n Q) : AWp P N c t h n Q := fun U ρ Ro w a hst => by
  obtain ⟨h1, h2, h3⟩ := hst.rel.freeze hj
  have hle' := h2.cx hst.rel
  refine wp_mono (hc _ _ _ _ _ ⟨hst.bd, h1, fun x => ?_, hst.sz, hst.df⟩) fun e a' w' hp => ?_
  · rw [put_at]
    split
    · rename_i hx
      subst hx
      have := hst.tm x
      rw [hk] at this
      exact h3 _ _ _ _ this hle
    · exact (hst.tm x).mono hle'
  · obtain ⟨t', h', n', ρ', Ro', g1, g2, g3, g4⟩ := hp
    exact ⟨t', h', n', ρ', Ro', g1, g2, h2.trans g3, g4⟩

end Go.Av
end

section
set_option linter.unusedVariables false
namespace Go.Av

variable {P : Program} {N : Nat} {n n' : Nat} {h h' g : Heap} {t : Tmps} {w : World} {U : Nat → Prop} {ρ : Nat → Nat} {Ro : Nat → Prop}

/-- A value, the rows of g in it told by their content. -/
def frz (g : Heap) : Nat → AV → AV
  | 0, x => x
  | k + 1, .sl sz j off len => match g j with
    | some (.cells cs) => if off + len * sz ≤ cs.length then .ro false (((cs.drop off).take (len * sz)).map (frz g k)) len else .sl sz j off len
    | _ => .sl sz j off len
  | k + 1, .p j off => match g j with
    | some (.cells cs) => .q (cs.map (frz g k)) off
    | _ => .p j off
  | k + 1, .agg cs => .agg (cs.map (frz g k))
  | k + 1, .fn f a b => .fn f (a.map (frz g k)) (b.map (frz g k))
  | _ + 1, x => x

theorem frz_one (g : Heap) : ∀ (k : Nat) (x : AV), (frz g k x).one = x.one
  | 0, x => by simp [frz]
  | k + 1, x => by
    cases x with
    | sl sz j off len =>
      simp only [frz]
      split
      · split <;> rfl
      · rfl
    | p j off =>
      simp only [frz]
      split <;> rfl
    | _ => rfl

/-- What was read-only, and the rows of g. -/
def roG (g : Heap) (ρ : Nat → Nat) (Ro : Nat → Prop) : Nat → Prop := fun b => Ro b ∨ ∃ j cs, g j = some (.cells cs) ∧ ρ j = b

theorem Rel.frzG (hr : Rel U ρ Ro h w) (hg : ∀ j cs, g j = some (.cells cs) → h j = some (.cells cs)) (hh : ∀ j r, h' j = some r → h j = some r ∧ ∀ cs, g j ≠ some (.cells cs)) :
    Rel U ρ (roG g ρ Ro) h' w ∧ Ext U ρ Ro h w U ρ (roG g ρ Ro) h' w ∧ ∀ (k : Nat) (x : AV) (v : Value), RV (cx U ρ Ro w) x v → RV (cx U ρ (roG g ρ Ro) w) (frz g k x) v := by
  have hle : (cx U ρ Ro w).le (cx U ρ (roG g ρ Ro) w) := ⟨fun _ h => h, fun _ _ => rfl, fun a v hm => ⟨.inl hm.1, hm.2⟩, fun _ _ => rfl⟩
  refine ⟨⟨fun x r hx => hr.lt x r (hh x r hx).1, hr.bl, fun x cs' hx => ?_, fun x s pos hx => hr.iter x s pos (hh x _ hx).1, fun x y rx ry hx hy => hr.inj x y rx ry (hh x _ hx).1 (hh y _ hy).1, fun x r hx => ?_, fun b hb => ?_, fun p hp => hle.M _ _ (hr.gl p hp)⟩,
    ⟨fun _ h => h, fun _ _ => rfl, fun b hb => .inl hb, fun b hb => ?_, rfl, rfl, rfl, Nat.le_refl _, fun _ _ _ => rfl, fun _ _ => rfl, fun x r hx => .inr ⟨x, r, (hh x r hx).1, rfl⟩⟩, fun k => ?_⟩
  · obtain ⟨c, T, lo, hi, g0, g1, g2, g3, g4⟩ := hr.row x cs' (hh x _ hx).1
    exact ⟨c, T, lo, hi, g0, g1, g2, g3, fun k y u hy hu => (g4 k y u hy hu).mono hle⟩
  · rintro (h1 | ⟨j, cs, hj, h1⟩)
    · exact hr.sep x r (hh x r hx).1 h1
    · have := hr.inj j x _ r (hg j cs hj) (hh x r hx).1 h1
      subst this
      exact (hh _ r hx).2 cs hj
  · rcases hb with hb | ⟨j, cs, hj, rfl⟩
    · exact hr.rob b hb
    · exact hr.bl j (hr.lt j _ (hg j cs hj))
  · rcases hb with hb | ⟨j, cs, hj, rfl⟩
    · exact .inl hb
    · exact .inr (.inr ⟨j, _, hg j cs hj, rfl⟩)
  · induction k with
    | zero => intro x v hv; exact hv.mono hle
    | succ k ih =>
      intro x v hv
      have get : ∀ {cs : List AV} {i : Nat} {y : AV}, (cs.map (frz g k))[i]? = some y → ∃ x, cs[i]? = some x ∧ y = frz g k x := fun {cs i y} hy => by
        rw [List.getElem?_map] at hy
        cases hc : cs[i]? with
        | none => rw [hc] at hy; cases hy
        | some x => rw [hc] at hy; injection hy with hy; exact ⟨x, rfl, hy.symm⟩
      cases hv with
      | sl sz j off len cap hj hl hc hz =>
        simp only [frz]
        split
        · rename_i cs hgj
          split
          · rename_i hlen
            obtain ⟨c, T, lo, hi, g0, g1, g2, g3, g4⟩ := hr.row j cs (hg j cs hgj)
            have look : ∀ (i : Nat) (y : AV), ((((cs.drop off).take (len * sz)).map (frz g k)))[i]? = some y → ∃ x, cs[off + i]? = some x ∧ y = frz g k x ∧ off + i < c.size := fun i y hy => by
              obtain ⟨x, hx, rfl⟩ := get hy
              rw [List.getElem?_take] at hx
              split at hx
              · rw [List.getElem?_drop] at hx
                refine ⟨x, hx, rfl, ?_⟩
                rcases Nat.lt_or_ge (off + i) cs.length with h1 | h1
                · omega
                · rw [List.getElem?_eq_none h1] at hx; cases hx
              · cases hx
            refine .ro _ len ⟨ρ j, off, none⟩ cap (fun i => c.getD (off + i) undef) hl hc (fun i y hy => ?_) (fun i y hy => ?_) (fun i y hy => ?_) <;> obtain ⟨x, h1, rfl, h2⟩ := look i y hy
            · rw [frz_one]; exact g3 _ x h1
            · refine ⟨.inr ⟨j, cs, hgj, ?_⟩, ?_⟩
              · rw [Addr.add_lit]
              · rw [Addr.add_lit, cell_row g0]
                simp [h2]
            · have := ih x _ (g4 _ x _ h1 (Array.getElem?_eq_getElem h2))
              simpa [h2] using this
          · exact .sl sz j off len cap hj hl hc hz
        · exact .sl sz j off len cap hj hl hc hz
      | p j off hj =>
        simp only [frz]
        split
        · rename_i cs hgj
          obtain ⟨c, T, lo, hi, g0, g1, g2, g3, g4⟩ := hr.row j cs (hg j cs hgj)
          have look : ∀ (i : Nat) (y : AV), (cs.map (frz g k))[i]? = some y → ∃ x, cs[i]? = some x ∧ y = frz g k x ∧ i < c.size := fun i y hy => by
            obtain ⟨x, hx, rfl⟩ := get hy
            refine ⟨x, hx, rfl, ?_⟩
            rcases Nat.lt_or_ge i cs.length with h1 | h1
            · omega
            · rw [List.getElem?_eq_none h1] at hx; cases hx
          have hq := RV.q (C := cx U ρ (roG g ρ Ro) w) (cs.map (frz g k)) off ⟨ρ j, 0, none⟩ (fun i => c.getD i undef) (fun i y hy => by
              obtain ⟨x, h1, rfl, h2⟩ := look i y hy
              rw [frz_one]; exact g3 _ x h1) (fun i y hy => by
              obtain ⟨x, h1, rfl, h2⟩ := look i y hy
              refine ⟨.inr ⟨j, cs, hgj, ?_⟩, ?_⟩
              · rw [Addr.add_lit]
              · rw [Addr.add_lit, Nat.zero_add, cell_row g0]
                simp [h2]) (fun i y hy => by
              obtain ⟨x, h1, rfl, h2⟩ := look i y hy
              have := ih x _ (g4 _ x _ h1 (Array.getElem?_eq_getElem h2))
              simpa [h2] using this)
          rw [Addr.add_lit, Nat.zero_add] at hq
          exact hq
        · exact .p j off hj
      | agg cs vs h1 h2 h3 =>
        simp only [frz]
        refine .agg _ vs (by rw [List.length_map]; exact h1) (fun i y hy => ?_) (fun i y u hy hu => ?_) <;> obtain ⟨x, hx, rfl⟩ := get hy
        · rw [frz_one]; exact h2 i x hx
        · exact ih x u (h3 i x u hx hu)
      | fn f a b vs us h1 h2 h3 h4 =>
        simp only [frz]
        refine .fn f _ _ vs us (by rw [List.length_map]; exact h1) (by rw [List.length_map]; exact h2) (fun i y u hy hu => ?_) (fun i y u hy hu => ?_) <;> obtain ⟨x, hx, rfl⟩ := get hy
        · exact ih x u (h3 i x u hx hu)
        · exact ih x u (h4 i x u hx hu)
      | b x => exact .b x
      | i k m => exact .i k m
      | s x => exact .s x
      | np => exact .np
      | q cs off a vs h1 h2 h3 => exact (RV.q cs off a vs h1 h2 h3).mono hle
      | ron => exact .ron
      | ro cs len a cap vs h1 h2 h3 h4 h5 => exact (RV.ro cs len a cap vs h1 h2 h3 h4 h5).mono hle
      | nf => exact .nf
      | ni => exact .ni
      | ifc t x v h1 => exact (RV.ifc t x v h1).mono hle
      | tup cs vs h1 h2 => exact (RV.tup cs vs h1 h2).mono hle

theorem RVs.frzG {C D : Cx} {k : Nat} (hv : ∀ x v, RV C x v → RV D (frz g k x) v) {xs : List AV} {vs : List Value} (h : RVs C xs vs) : RVs D (xs.map (frz g k)) vs :=
  ⟨by rw [List.length_map]; exact h.1, fun i y v hy hu => by
    rw [List.getElem?_map] at hy
    cases hc : xs[i]? with
    | none => rw [hc] at hy; cases hy
    | some x => rw [hc] at hy; injection hy with hy; subst hy; exact hv x v (h.2 i x v hc hu)⟩

/-- The rows that are shown are given up. -/
theorem DCalls.drop {f : FuncId} {args : List AV} {r : AV} {us us' : List (Nat × Option Row)} {k : Nat} (hg : ∀ j cs, g j = some (.cells cs) → h j = some (.cells cs)) (hh : ∀ j r, h' j = some r → h j = some r ∧ ∀ cs, g j ≠ some (.cells cs))
    (hd : DCalls P f (args.map (frz g k)) h' n r us n') (he : app us h' = app us' h) : DCalls P f args h n r us' n' := by
  obtain ⟨h1, h2, h3⟩ := hd
  refine ⟨h1, h2, fun U ρ Ro w xs hU hrel hxs => ?_⟩
  obtain ⟨g1, g2, g3⟩ := hrel.frzG hg hh
  refine (h3 U ρ _ w xs hU g1 (hxs.frzG (g3 k))).mono ?_
  rintro e w' ⟨x, ρ', Ro', rfl, k1, k2, k3⟩
  rw [he] at k1 k3
  exact ⟨x, ρ', Ro', rfl, k1, k2, g2.trans k3⟩

/-! A value without memory. -/
mutual
def AV.flat : AV → Bool
  | .b _ | .i _ _ | .s _ | .np | .nf | .ni => true
  | .tup cs | .agg cs => flatAll cs
  | .ro true [] 0 => true
  | _ => false
def flatAll : List AV → Bool
  | [] => true
  | x :: xs => x.flat && flatAll xs
end
theorem flatAll_get : ∀ {cs : List AV}, flatAll cs = true → ∀ (k : Nat) (x : AV), cs[k]? = some x → x.flat = true
  | [], _, k, x, hx => by simp at hx
  | y :: cs, hf, k, x, hx => by
    simp only [flatAll, Bool.and_eq_true] at hf
    cases k with
    | zero => simp at hx; subst hx; exact hf.1
    | succ k => exact flatAll_get hf.2 k x (by simpa using hx)
theorem RV.flat {C D : Cx} {x : AV} {v : Value} (h : RV C x v) (hf : x.flat = true) : RV D x v := by
  induction h with
  | b x => exact .b x
  | i k m => exact .i k m
  | s x => exact .s x
  | np => exact .np
  | ron => exact .ron
  | nf => exact .nf
  | ni => exact .ni
  | tup cs vs h1 h2 ih => exact .tup cs vs h1 (fun k y v hy hv => ih k y v hy hv (flatAll_get (by simpa only [AV.flat] using hf) k y hy))
  | agg cs vs h1 h2 _ ih => exact .agg cs vs h1 h2 (fun k y v hy hv => ih k y v hy hv (flatAll_get (by simpa only [AV.flat] using hf) k y hy))
  | p j off hj => simp [AV.flat] at hf
  | q cs off a vs h1 hm _ ih => simp [AV.flat] at hf
  | sl sz j off len cap hj hl hc hz => simp [AV.flat] at hf
  | ro cs len a cap vs hl hc h1 hm _ ih => simp [AV.flat] at hf
  | fn f first cap vs us h1 h2 _ _ ih1 ih2 => simp [AV.flat] at hf
  | ifc t x v _ ih => simp [AV.flat] at hf

/-- The heap's places in a text, alone. -/
def iters (h : Heap) : Heap := fun j => match h j with | some (.iter s p) => some (.iter s p) | _ => none

/-- A function that tells a value without memory, shown one's own rows: they stay as they are. -/
theorem DCalls.keep {f : FuncId} {args : List AV} {r : AV} {k : Nat} (hd : DCalls P f (args.map (frz h k)) (iters h) n r [] n) (hf : r.flat = true) : DCalls P f args h n r [] n := by
  obtain ⟨h1, h2, h3⟩ := hd
  refine ⟨h1, h2, fun U ρ Ro w xs hU hrel hxs => ?_⟩
  have hit : ∀ j r, iters h j = some r → h j = some r ∧ ∀ cs, h j ≠ some (.cells cs) := fun j r hj => by
    unfold iters at hj
    split at hj
    · rename_i s p hx; rw [hx]; exact ⟨hj, fun cs hc => by cases hc⟩
    · cases hj
  obtain ⟨g1, g2, g3⟩ := hrel.frzG (g := h) (h' := iters h) (fun _ _ hj => hj) hit
  refine (h3 U ρ _ w xs hU g1 (hxs.frzG (g3 k))).mono ?_
  rintro e w' ⟨x, ρ', Ro', rfl, k1, k2, k3⟩
  have same : ∀ b, b < w.heap.size → (∀ j s p, h j = some (.iter s p) → ρ j ≠ b) → w'.heap[b]? = w.heap[b]? := fun b hb hno => k3.blk b hb fun j r hj => by
    unfold iters at hj
    split at hj
    · rename_i s p hx; exact hno j s p hx
    · cases hj
  have hrr := k3.rr
  refine ⟨x, ρ', Ro, rfl, ?_, k2.flat hf, ?_⟩
  · have hle : (cx U ρ Ro w).le (cx (ext U n n) ρ' Ro w') := ⟨fun j hj => .inl hj, fun j hj => hrr j hj, fun a v hm => ⟨hm.1, ?_⟩, fun j hj => ?_⟩
    · refine ⟨fun j r hj => .inl (hrel.lt j r hj), fun j hj => k1.bl j hj, fun j cs hj => ?_, fun j s p hj => ?_, fun i j ri rj hi hj he => ?_, fun j r hj => ?_, fun b hb => Nat.lt_of_lt_of_le (hrel.rob b hb) k3.size, fun p hp => hle.M _ _ (hrel.gl p hp)⟩
      · obtain ⟨c, T, lo, hi, m0, m1, m2, m3, m4⟩ := hrel.row j cs hj
        refine ⟨c, T, lo, hi, ?_, m1, m2, m3, fun i y u hy hu => (m4 i y u hy hu).mono hle⟩
        rw [hrr j (hrel.lt j _ hj), same _ (hrel.bl j (hrel.lt j _ hj)) (fun i s p hi he => ?_), m0]
        have := hrel.inj i j _ _ hi hj he
        subst this
        have hj' : h i = some (.cells cs) := hj
        rw [hi] at hj'; cases hj'
      · have hj' : h j = some (.iter s p) := hj
        exact k1.iter j s p (by show iters h j = _; unfold iters; rw [hj'])
      · rw [hrr i (hrel.lt i _ hi), hrr j (hrel.lt j _ hj)] at he
        exact hrel.inj i j ri rj hi hj he
      · rw [hrr j (hrel.lt j _ hj)]; exact hrel.sep j r hj
    · have hm2 := hm.2
      unfold World.cell? at hm2 ⊢
      rw [same a.block (hrel.rob _ hm.1) (fun j s p hj he => hrel.sep j _ hj (by rw [he]; exact hm.1))]
      exact hm2
    · show bsz w' (ρ j) = bsz w (ρ j)
      exact k3.zz _ (hrel.bl j hj)
  · refine ⟨fun j hj => .inl hj, hrr, fun b hb => hb, fun b hb => .inl hb, k3.os, k3.tape, k3.output, k3.size, fun b hb hno => same b hb fun j s p hj => hno j _ hj, k3.zz, fun j r hj => .inr ⟨j, r, hj, (hrr j (hrel.lt j _ hj)).symm⟩⟩

/-- From here on the rows of g are told by their content, in a slot. -/
theorem AWp.frzG {c : Code} {Q : Exit → Tmps → Heap → Nat → Prop} {k d : Nat} (hg : ∀ j cs, g j = some (.cells cs) → h j = some (.cells cs)) (hh : ∀ j r, h' j = some r → h j = some r ∧ ∀ cs, g j ≠ some (.cells cs))
    (hc : AWp P N c (put t (some k) (frz g d (t k))) h' n Q) : AWp P N c t h n Q := fun U ρ Ro w a hst => by
  obtain ⟨h1, h2, h3⟩ := hst.rel.frzG hg hh
  have hle' := h2.cx hst.rel
  refine wp_mono (hc _ _ _ _ _ ⟨hst.bd, h1, fun x => ?_, hst.sz, hst.df⟩) fun e a' w' hp => ?_
  · rw [put_at]
    split
    · rename_i hx
      subst hx
      exact h3 d _ _ (hst.tm x)
    · exact (hst.tm x).mono hle'
  · obtain ⟨t', h', n', ρ', Ro', g1, g2, g3, g4⟩ := hp
    exact ⟨t', h', n', ρ', Ro', g1, g2, h2.trans g3, g4⟩

/-- One row alone. -/
def only (j : Nat) (cs : List AV) : Heap := fun i => if i = j then some (.cells cs) else none
theorem AWp.frz1 {c : Code} {Q : Exit → Tmps → Heap → Nat → Prop} {k j d : Nat} {cs : List AV} {x : AV} (hj : h j = some (.cells cs)) (hx : frz (only j cs) d (t k) = x)
    (hc : AWp P N c (put t (some k) x) (upd h j none) n Q) : AWp P N c t h n Q := by
  refine AWp.frzG (g := only j cs) (h' := upd h j none) (k := k) (d := d) (fun i cs' hi => ?_) (fun i r hi => ?_) (by rw [hx]; exact hc)
  · unfold only at hi
    split at hi
    · rename_i he; subst he; injection hi with hi; injection hi with hi; subst hi; exact hj
    · cases hi
  · by_cases he : i = j
    · subst he; rw [upd_same] at hi; cases hi
    · rw [upd_ne _ _ he] at hi
      refine ⟨hi, fun cs' hc' => ?_⟩
      unfold only at hc'
      rw [if_neg he] at hc'; cases hc'

/-! ### a slice held against nil -/
theorem run_equalIn_nil {T : TypeId} {e : TypeId} (hu : P.underlying T = some (.slice e)) (d : Nat) (a : Option Addr) (len cap : Nat) :
    (Op.equalIn (d + 1) T (.slice a len cap) (.slice none 0 0)).run P w = .ok a.isNone w := by
  cases a with
  | none => simp only [Op.equalIn, Sem.run_bind, run_underlying hu, Result.andThen_ok, Sem.run_pure]
  | some a => simp only [Op.equalIn, Sem.run_bind, run_underlying hu, Result.andThen_ok, Sem.run_pure]; rfl
theorem run_nileq {T : TypeId} {e : TypeId} {z b : Nat} (hT : slT P T = some (e, z, b)) (a : Option Addr) (len cap : Nat) :
    (binOp .eql T (.slice a len cap) (.slice none 0 0)).run P w = .ok (.bool a.isNone) w := by
  obtain ⟨hu, _, _⟩ := slT_some hT
  have h2 : (Op.equal T (.slice a len cap) (.slice none 0 0)).run P w = .ok a.isNone w := run_equalIn_nil hu 9999 a len cap
  simp only [binOp, Sem.run_bind, h2, Result.andThen_ok, Sem.run_pure]
/-- Is it nil? -/
def nilA : AV → Option Bool
  | .ro z _ _ => some z
  | .sl _ _ _ _ => some false
  | _ => none
theorem RV.nilA {C : Cx} {x : AV} {v : Value} {b : Bool} (h : RV C x v) (hb : nilA x = some b) : ∃ a len cap, v = .slice a len cap ∧ a.isNone = b := by
  cases h <;> simp only [Av.nilA] at hb <;> first | (cases hb; done) | (injection hb with hb; subst hb; exact ⟨_, _, _, rfl, rfl⟩)
theorem sound_nil {T Ty : TypeId} {d : Nat} {e : TypeId} {z b : Nat} {u : Bool} (hT : slT P T = some (e, z, b)) (hx : nilA (t d) = some u) : Sound P (.binOp .eql T (.tmp d) (.const (.slice none 0 0)) Ty) t h n (.b u) [] n :=
  .val fun ty o U ρ Ro w a hr ht => by
    have hrv := ht d
    obtain ⟨q, len, cap, hv, hq⟩ := hrv.nilA hx
    refine ⟨.bool u, .inl ?_, .b u⟩
    have e1 : a.eval (.tmp d) = .slice q len cap := by rw [← hv]; rfl
    have e2 : a.eval (.const (.slice none 0 0)) = .slice none 0 0 := rfl
    have hguard : (eqGuard .eql T (.tmp d) (.const (.slice none 0 0)) (.slice q len cap) (.slice none 0 0)).run P w = .ok () w := rfl
    have hbin := run_nileq (w := w) hT q len cap
    rw [hq] at hbin
    simp only [execOp, e1, e2, Sem.run_bind, hguard, hbin, Result.andThen_ok, Sem.run_pure]
/-- A region that does nothing but hold a slot against nil. -/
theorem aw_nil {id d1 d2 a : Nat} {T0 T1 T2 T3 : TypeId} {p1 p2 : String} {e1 e2 : Array Edge} {x : AV} {u : Bool} {e : TypeId} {z b : Nat} {Q : Exit → Tmps → Heap → Nat → Prop} (hT : slT P T1 = some (e, z, b)) (ht : t a = x) (hx : nilA x = some u)
    (ho : opsOk N #[⟨some d1, .move (.tmp a), T0, p1, e1, none⟩, ⟨some d2, .binOp .eql T1 (.tmp d1) (.const (.slice none 0 0)) T2, T3, p2, e2, none⟩] = true)
    (hq : Q .normal (put (put t (some d1) x) (some d2) (.b u)) h n) : AWp P N (.region id #[⟨some d1, .move (.tmp a), T0, p1, e1, none⟩, ⟨some d2, .binOp .eql T1 (.tmp d1) (.const (.slice none 0 0)) T2, T3, p2, e2, none⟩] false) t h n Q := by
  refine AWp.region ho ?_
  refine RW.step (o := ⟨some d1, .move (.tmp a), T0, p1, e1, none⟩) (v := x) (us := []) (n' := n) rfl (fun hok => SoundO.eff rfl hok (by simp only [aeff, aev, ht])) ?_
  refine RW.step (o := ⟨some d2, .binOp .eql T1 (.tmp d1) (.const (.slice none 0 0)) T2, T3, p2, e2, none⟩) (v := .b u) (us := []) (n' := n) rfl (fun hok => SoundO.of rfl (Nat.le_refl _) (sound_nil hT (by rw [put_at]; simp only [if_true]; exact hx))) ?_
  exact RW.end_ rfl hq

end Go.Av
end
