/- Code without loops, as a condition: what must hold so that it ends so. -/
import Derived.Test.YtepfknnffooaiaaAv22
namespace Go.Av

variable {P : Program} {N : Nat} {n n' : Nat} {h h0 : Heap} {t : Tmps} {v : AV} {us : List (Nat × Option Row)} {ops : Array Oper} {B W : List Nat} {o : Oper}

/-- What a call of a function of the program comes to. -/
inductive Res where
  | no
  | pure (r : AV)
  | fresh (sz len : Nat) (cs : List AV)
  | wide (F : Nat → AV × List (Nat × Option Row) × Nat)

abbrev Sums := FuncId → List AV → Heap → Res

structure SumOk (P : Program) (S : Sums) : Prop where
  pure : ∀ f args h r, S f args h = .pure r → ∀ n, DCalls P f args h n r [] n
  fresh : ∀ f args h sz len cs, S f args h = .fresh sz len cs → freeAll cs = true ∧ ∀ m, DCalls P f args h m (.sl sz m 0 len) [(m, some (.cells cs))] (m + 1)
  wide : ∀ f args h F, S f args h = .wide F → ∀ n, DCalls P f args h n (F n).1 (F n).2.1 (F n).2.2

def callR (S : Sums) (t : Tmps) (h : Heap) (f : Operand) (args : List Operand) : Res := match aev t f with
  | .fn (.func g) first cap => S g (first ++ args.map (aev t) ++ cap) h
  | _ => .no

def resE (r : Res) (n : Nat) : Eff := match r with
  | .no => none
  | .pure r => some (r, [], n)
  | .fresh sz len cs => some (.sl sz n 0 len, [(n, some (.cells cs))], n + 1)
  | .wide F => some (F n)

def stepE (P : Program) (S : Sums) (o : Op) (t : Tmps) (h : Heap) (n : Nat) : Eff := match o with
  | .call { callee := .value f, args := args, .. } => resE (callR S t h f args.toList) n
  | o => aeff P o t h n

def vcE (e : Eff) (K : AV → List (Nat × Option Row) → Nat → Prop) : Prop := match e with
  | some (v, us, n') => K v us n'
  | none => False

theorem vcE_ite {c : Prop} [Decidable c] {e : Eff} {K : AV → List (Nat × Option Row) → Nat → Prop} : vcE (if c then e else none) K = (c ∧ vcE e K) := by
  by_cases hc : c
  · simp [hc]
  · simp [hc, vcE]
theorem map_ite {α β : Type} {c : Prop} [Decidable c] {e : Option α} {f : α → β} : (if c then e else none).map f = if c then e.map f else none := by split <;> rfl

def br (u want : Bool) (A B : Prop) : Prop := (u = want → A) ∧ (u = !want → B)
theorem br_tt (A B : Prop) : br true true A B = A := by simp [br]
theorem br_ff (A B : Prop) : br false false A B = A := by simp [br]
theorem br_tf (A B : Prop) : br true false A B = B := by simp [br]
theorem br_ft (A B : Prop) : br false true A B = B := by simp [br]
theorem br_intro {u want : Bool} {A B : Prop} (h1 : u = want → A) (h2 : u = !want → B) : br u want A B := ⟨h1, h2⟩

/-- The guard of an operation, looked at: with what is then known of it. -/
def vcG (ops : Array Oper) (o : Oper) (t : Tmps) (R S : Tmps → Prop) : Prop := match o.guard with
  | none => R t
  | some (j, want) => match (ops[j]?).bind (·.dst) with
    | some d => (match t d with
      | .b u => br u want (R (put t (some d) (.b want))) (S (put t (some d) (.b !want)))
      | .tup _ => S t
      | _ => False)
    | none => False

def vcR (P : Program) (S : Sums) (ops : Array Oper) : List Oper → Tmps → Heap → Nat → (Tmps → Heap → Nat → Prop) → Prop
  | [], t, h, n, K => K t h n
  | o :: l, t, h, n, K => vcG ops o t
    (fun t => vcE (stepE P S o.op t h n) fun v us n' => vcR P S ops l (put t o.dst v) (app us h) n' K)
    (fun t => vcR P S ops l (put t o.dst (.tup [])) h n K)

/-- A step of a region in drawn order. -/
def vcU (us : List (Nat × Option Row)) (n n' : Nat) (A : Prop) (B : Prop) : Prop := match us with
  | [] => n' = n ∧ A
  | us => n ≤ n' ∧ (∀ u ∈ us, n ≤ u.1 ∧ u.1 < n') ∧ B
def vcV (us : List (Nat × Option Row)) (n n' : Nat) (A : Prop) : Prop := n ≤ n' ∧ (∀ u ∈ us, u.1 < n') ∧ A

def vcD (P : Program) (S : Sums) (ops : Array Oper) (B W : List Nat) (h0 : Heap) : List Oper → Nat → Tmps → List (Nat × List (Nat × Option Row)) → Nat → (Tmps → Heap → Nat → Prop) → Prop
  | [], _, t, r, n, K => K t (hpL h0 (fun _ => true) r) n
  | o :: l, k, t, r, n, K => vcG ops o t
    (fun t => if isVal P o.op = true then vcE (aeff P o.op t noHeap n) fun v us n' => vcU us n n' (vcD P S ops B W h0 l (k + 1) (put t o.dst v) r n K) False
      else if k ∈ W then vcE (stepE P S o.op t (hpL h0 (pre B k) r) n) fun v us n' => vcV us n n' (vcD P S ops B W h0 l (k + 1) (put t o.dst v) ((k, us) :: r) n' K)
      else match o.op with
        | .call { callee := .value f, args := args, .. } => (match callR S t (hpL h0 (pre B k) r) f args.toList with
          | .pure v => vcD P S ops B W h0 l (k + 1) (put t o.dst v) r n K
          | .fresh sz len cs => vcD P S ops B W h0 l (k + 1) (put t o.dst (.sl sz n 0 len)) ((k, [(n, some (.cells cs))]) :: r) (n + 1) K
          | _ => False)
        | op => vcE (aeff P op t (hpL h0 (pre B k) r) n) fun v us n' => vcU us n n' (vcD P S ops B W h0 l (k + 1) (put t o.dst v) r n K) (vcD P S ops B W h0 l (k + 1) (put t o.dst v) ((k, us) :: r) n' K))
    (fun t => vcD P S ops B W h0 l (k + 1) (put t o.dst (.tup [])) r n K)

def vcC (P : Program) (S : Sums) (tabs : Nat → List Nat × List Nat) : Code → Tmps → Heap → Nat → (Exit → Tmps → Heap → Nat → Prop) → Prop
  | .skip, t, h, n, K => K .normal t h n
  | .ret, t, h, n, K => K .ret t h n
  | .exit id, t, h, n, K => K (.exit id) t h n
  | .seq a b, t, h, n, K => vcC P S tabs a t h n (thenQ (fun t h n => vcC P S tabs b t h n K) K)
  | .block id c, t, h, n, K => vcC P S tabs c t h n (inBlockQ id K)
  | .cond x a b, t, h, n, K => (match x with
    | .tmp d => (match t d with
      | .b u => br u true (vcC P S tabs a (put t (some d) (.b true)) h n K) (vcC P S tabs b (put t (some d) (.b false)) h n K)
      | _ => False)
    | _ => False)
  | .region id ops false, t, h, n, K => vcR P S ops ops.toList t h n fun t h n => K .normal t h n
  | .region id ops true, t, h, n, K => vcD P S ops (tabs id).1 (tabs id).2 h ops.toList 0 t [] n fun t h n => K .normal t h n
  | _, _, _, _, _ => False

def okCode (P : Program) (N : Nat) (tabs : Nat → List Nat × List Nat) : Code → Bool
  | .skip | .ret | .exit _ => true
  | .region id ops d => opsOk N ops && (!d || drawChk P ops (tabs id).1 (tabs id).2)
  | .seq a b => okCode P N tabs a && okCode P N tabs b
  | .cond x a b => okX x && okCode P N tabs a && okCode P N tabs b
  | .block _ c | .loop c => okCode P N tabs c
  | _ => false

/-! ### and it is so -/
theorem put_self {t : Tmps} {d : Tmp} {x : AV} (hx : t d = x) : put t (some d) x = t := by
  funext k
  rw [put_at]
  split
  · rename_i hk; subst hk; exact hx.symm
  · rfl

theorem vcG_elim {R S : Tmps → Prop} (hg : vcG ops o t R S) : (wantedA ops t o = some true ∧ R t) ∨ (wantedA ops t o = some false ∧ S t) := by
  unfold vcG at hg
  unfold wantedA
  split at hg
  · rename_i hgd; rw [hgd]; exact .inl ⟨rfl, hg⟩
  · rename_i j want hgd
    rw [hgd]
    split at hg
    · rename_i d hd
      simp only [hd]
      split at hg
      · rename_i u hu
        rw [hu]
        by_cases huw : u = want
        · subst huw
          left
          exact ⟨by simp, by have := hg.1 rfl; rwa [put_self hu] at this⟩
        · right
          have : u = !want := by revert huw; cases u <;> cases want <;> simp
          refine ⟨by subst this; cases want <;> rfl, ?_⟩
          have h2 := hg.2 this
          rwa [put_self (by rw [hu, this])] at h2
      · rename_i hu
        rw [hu]
        exact .inr ⟨rfl, hg⟩
      · exact hg.elim
    · exact hg.elim

theorem vcE_elim {e : Eff} {K : AV → List (Nat × Option Row) → Nat → Prop} (he : vcE e K) : ∃ v us n', e = some (v, us, n') ∧ K v us n' := by
  unfold vcE at he
  split at he
  · exact ⟨_, _, _, rfl, he⟩
  · exact he.elim

theorem callR_elim {S : Sums} {f : Operand} {args : List Operand} {r : Res} (hr : callR S t h f args = r) (hno : r ≠ .no) : ∃ g first cap, aev t f = .fn (.func g) first cap ∧ S g (first ++ args.map (aev t) ++ cap) h = r := by
  unfold callR at hr
  split at hr
  · rename_i g first cap hf; exact ⟨g, first, cap, hf, hr⟩
  · exact absurd hr.symm hno

theorem stepE_sound {S : Sums} (hS : SumOk P S) (hw : wantedA ops t o = some true) (ho : opOk o.op = true) (he : stepE P S o.op t h n = some (v, us, n')) : SoundO P ops o t h n v us n' := by
  unfold stepE at he
  split at he
  · rename_i f args Ts hop
    have key : ∀ r, callR S t h f args.toList = r → r ≠ .no → (∀ g xs, S g xs h = r → DCalls P g xs h n v us n') → SoundO P ops o t h n v us n' := fun r hr hno hD => by
      obtain ⟨g, first, cap, hf, hs⟩ := callR_elim hr hno
      exact .call hw ho hop hf (hD g _ hs)
    unfold resE at he
    split at he
    · cases he
    · rename_i r hr
      refine key _ hr (by simp) (fun g xs hs => ?_)
      simp only [Option.some.injEq, Prod.mk.injEq] at he
      obtain ⟨rfl, rfl, rfl⟩ := he
      exact hS.pure _ _ _ _ hs _
    · rename_i sz len cs hr
      refine key _ hr (by simp) (fun g xs hs => ?_)
      simp only [Option.some.injEq, Prod.mk.injEq] at he
      obtain ⟨rfl, rfl, rfl⟩ := he
      exact (hS.fresh _ _ _ _ _ _ hs).2 _
    · rename_i F hr
      refine key _ hr (by simp) (fun g xs hs => ?_)
      simp only [Option.some.injEq] at he
      have := hS.wide _ _ _ _ hs n
      rw [he] at this
      exact this
  · exact .eff hw ho he

theorem vcR_sound {S : Sums} (hS : SumOk P S) : ∀ {l : List Oper} {k : Nat} {t : Tmps} {h : Heap} {n : Nat} {K : Tmps → Heap → Nat → Prop}, ops.toList.drop k = l → vcR P S ops l t h n K → RW P N ops k t h n K
  | [], k, t, h, n, K, hl, hv => by
    refine RW.end_ ?_ hv
    have := List.drop_eq_nil_iff.1 hl
    rw [Array.getElem?_eq_none_iff]; simpa using this
  | o :: l, k, t, h, n, K, hl, hv => by
    have hk : ops[k]? = some o := by
      have := congrArg (fun l => l[0]?) hl
      simpa using this
    have hl' : ops.toList.drop (k + 1) = l := by
      have := congrArg List.tail hl
      simpa using this
    simp only [vcR] at hv
    rcases vcG_elim hv with ⟨hw, hv⟩ | ⟨hw, hv⟩
    · obtain ⟨v, us, n', he, hv⟩ := vcE_elim hv
      exact RW.step hk (fun ho => stepE_sound hS hw ho he) (vcR_sound hS hl' hv)
    · exact RW.step hk (fun _ => .skip hw) (by rw [app_nil]; exact vcR_sound hS hl' hv)

theorem isVal_call {f : Operand} {args : Array Operand} {Ts : Array TypeId} : isVal P (.call { callee := .value f, args := args, argTypes := Ts }) = false := rfl

theorem vcD_sound {S : Sums} (hS : SumOk P S) (hok : opsOk N ops = true) : ∀ {l : List Oper} {k : Nat} {t : Tmps} {r : List (Nat × List (Nat × Option Row))} {n : Nat} {K : Tmps → Heap → Nat → Prop}, ops.toList.drop k = l → vcD P S ops B W h0 l k t r n K → DW P N ops B W h0 K k t r n
  | [], k, t, r, n, K, hl, hv => by
    refine DW.end_ ?_ hv
    have := List.drop_eq_nil_iff.1 hl
    rw [Array.getElem?_eq_none_iff]; simpa using this
  | o :: l, k, t, r, n, K, hl, hv => by
    have hk : ops[k]? = some o := by
      have := congrArg (fun l => l[0]?) hl
      simpa using this
    have hl' : ops.toList.drop (k + 1) = l := by
      have := congrArg List.tail hl
      simpa using this
    obtain ⟨ho, hd⟩ := opsOk_at hok hk
    simp only [vcD] at hv
    rcases vcG_elim hv with ⟨hw, hv⟩ | ⟨hw, hv⟩
    · split at hv
      · rename_i hval
        obtain ⟨v, us, n', he, hv⟩ := vcE_elim hv
        unfold vcU at hv
        split at hv
        · obtain ⟨hn, hv⟩ := hv
          subst hn
          exact DW.val hk hd hval (.eff hw ho he) (vcD_sound hS hok hl' hv)
        · exact hv.2.2.elim
      · rename_i hval
        have hval : isVal P o.op = false := by simpa using hval
        split at hv
        · rename_i hW
          obtain ⟨v, us, n', he, hn, hus, hv⟩ := vcE_elim hv
          refine DW.wide hk hd hval hW hn hus (fun t' ht => ?_) (vcD_sound hS hok hl' hv)
          refine stepE_sound hS (by rw [wantedA_congr ht]; exact hw) ho ?_
          have hx := aev_looks ht
          rw [← he]
          unfold stepE
          split
          · rename_i f args Ts hop
            rw [hop] at hx
            congr 1
            unfold callR
            rw [hx f (by simp [Op.operands, Call.operands]), List.map_congr_left (fun x hm => hx x (by simp [Op.operands, Call.operands]; exact .inr (by simpa using hm)))]
          · exact aeff_congr hx
        · split at hv
          · rename_i f args Ts hop
            split at hv
            · rename_i v hr
              obtain ⟨g, first, cap, hf, hs⟩ := callR_elim hr (by simp)
              exact DW.read hk hd hval (.pcall hw ho hop hf (fun m => hS.pure _ _ _ _ hs m)) (vcD_sound hS hok hl' hv)
            · rename_i sz len cs hr
              obtain ⟨g, first, cap, hf, hs⟩ := callR_elim hr (by simp)
              have := hS.fresh _ _ _ _ _ _ hs
              exact DW.quiet hk hd hval (Nat.le_succ _) (fun u hu => by simp at hu; subst hu; simp) (.fcall hw ho hop hf this.1 this.2) (vcD_sound hS hok hl' hv)
            · exact hv.elim
          · obtain ⟨v, us, n', he, hv⟩ := vcE_elim hv
            unfold vcU at hv
            split at hv
            · obtain ⟨hn, hv⟩ := hv
              subst hn
              exact DW.read hk hd hval (.eff hw ho he) (vcD_sound hS hok hl' hv)
            · exact DW.quiet hk hd hval hv.1 hv.2.1 (.eff hw ho he) (vcD_sound hS hok hl' hv.2.2)
    · cases hval : isVal P o.op with
      | true => exact DW.val hk hd hval (.skip hw) (vcD_sound hS hok hl' hv)
      | false => exact DW.read hk hd hval (.skip hw) (vcD_sound hS hok hl' hv)

theorem vcC_sound {S : Sums} {tabs : Nat → List Nat × List Nat} (hS : SumOk P S) (hm : P.follows .mixedOrders = true) : ∀ {c : Code} {t : Tmps} {h : Heap} {n : Nat} {K : Exit → Tmps → Heap → Nat → Prop}, okCode P N tabs c = true → vcC P S tabs c t h n K → AWp P N c t h n K
  | .skip, t, h, n, K, _, hv => .skip hv
  | .ret, t, h, n, K, _, hv => .ret hv
  | .exit id, t, h, n, K, _, hv => .exit hv
  | .seq a b, t, h, n, K, ho, hv => by
    simp only [okCode, Bool.and_eq_true] at ho
    refine .seq (AWp.mono (vcC_sound hS hm ho.1 hv) fun e t' h' n' hq => ?_)
    cases e with
    | normal => exact vcC_sound hS hm ho.2 hq
    | _ => exact hq
  | .block id c, t, h, n, K, ho, hv => .block (vcC_sound hS hm ho hv)
  | .cond x a b, t, h, n, K, ho, hv => by
    simp only [okCode, Bool.and_eq_true] at ho
    simp only [vcC] at hv
    split at hv
    · rename_i d
      split at hv
      · rename_i u hu
        refine .cond (u := u) rfl hu (fun h1 => ?_) (fun h1 => ?_)
        · have := hv.1 h1
          rw [put_self (by rw [hu, h1])] at this
          exact vcC_sound hS hm ho.1.2 this
        · have := hv.2 h1
          rw [put_self (by rw [hu, h1])] at this
          exact vcC_sound hS hm ho.2 this
      · exact hv.elim
    · exact hv.elim
  | .region id ops false, t, h, n, K, ho, hv => by
    simp only [okCode, Bool.and_eq_true] at ho
    exact .region ho.1 (vcR_sound hS (List.drop_zero) hv)
  | .region id ops true, t, h, n, K, ho, hv => by
    simp only [okCode, Bool.and_eq_true, Bool.not_true, Bool.false_or] at ho
    exact .draws _ _ hm ho.2 (vcD_sound hS ho.1 (List.drop_zero) hv)

/-- Code without loops, with what is behind as a letter. -/
theorem AWp.of_vc {S : Sums} {tabs : Nat → List Nat × List Nat} (hS : SumOk P S) (hm : P.follows .mixedOrders = true) {c : Code} {Q : Exit → Tmps → Heap → Nat → Prop} (ho : okCode P N tabs c = true)
    (hv : ∀ K : Exit → Tmps → Heap → Nat → Prop, (∀ e t h n, Q e t h n → K e t h n) → vcC P S tabs c t h n K) : AWp P N c t h n Q := vcC_sound hS hm ho (hv Q fun _ _ _ _ h => h)

end Go.Av
