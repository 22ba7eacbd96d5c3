/- The rules for code. -/
import Derived.Test.YtepfknnffooaiaaAv19
namespace Go.Av

variable {P : Program} {N : Nat} {n n' : Nat} {h h0 : Heap} {t : Tmps} {v : AV} {us : List (Nat × Option Row)} {ops : Array Oper} {B W : List Nat} {o : Oper} {Q Q' : Exit → Tmps → Heap → Nat → Prop} {c d : Code}

/-- From a state that is so, the code ends so. -/
def AWp (P : Program) (N : Nat) (c : Code) (t : Tmps) (h : Heap) (n : Nat) (Q : Exit → Tmps → Heap → Nat → Prop) : Prop :=
  ∀ U ρ Ro w a, St N U n ρ Ro h w t a → Code.wp P c (Post N U ρ Ro h w n Q) a w

theorem Post.here {U : Nat → Prop} {ρ : Nat → Nat} {Ro : Nat → Prop} {w : World} {a : Act} {e : Exit} (hst : St N U n ρ Ro h w t a) (hq : Q e t h n) : Post N U ρ Ro h w n Q e a w :=
  ⟨t, h, n, ρ, Ro, Nat.le_refl _, by rw [ext_self]; exact hst, by rw [ext_self]; exact Ext.refl .., hq⟩
theorem Post.mono {U : Nat → Prop} {ρ : Nat → Nat} {Ro : Nat → Prop} {w w' : World} {a : Act} {e : Exit} (hp : Post N U ρ Ro h w n Q e a w') (hq : ∀ t' h' n', Q e t' h' n' → Q' e t' h' n') : Post N U ρ Ro h w n Q' e a w' := by
  obtain ⟨t', h', n', ρ', Ro', h1, h2, h3, h4⟩ := hp
  exact ⟨t', h', n', ρ', Ro', h1, h2, h3, hq _ _ _ h4⟩
/-- Where one state follows another, what follows the second follows the first. -/
theorem Post.after {U : Nat → Prop} {ρ ρ1 : Nat → Nat} {Ro Ro1 : Nat → Prop} {w w1 w' : World} {h1 : Heap} {n1 : Nat} {a : Act} {e : Exit} (hn : n ≤ n1) (he : Ext U ρ Ro h w (ext U n n1) ρ1 Ro1 h1 w1)
    (hp : Post N (ext U n n1) ρ1 Ro1 h1 w1 n1 Q e a w') : Post N U ρ Ro h w n Q e a w' := by
  obtain ⟨t', h', n', ρ', Ro', g1, g2, g3, g4⟩ := hp
  rw [ext_ext _ hn g1] at g2 g3
  exact ⟨t', h', n', ρ', Ro', Nat.le_trans hn g1, g2, he.trans g3, g4⟩

theorem AWp.mono (hc : AWp P N c t h n Q) (hq : ∀ e t' h' n', Q e t' h' n' → Q' e t' h' n') : AWp P N c t h n Q' := fun U ρ Ro w a hst =>
  wp_mono (hc U ρ Ro w a hst) fun _ _ _ hp => hp.mono (hq _)

theorem AWp.skip (hq : Q .normal t h n) : AWp P N .skip t h n Q := fun _ _ _ _ _ hst => wp_skip (.here hst hq)
theorem AWp.ret (hq : Q .ret t h n) : AWp P N .ret t h n Q := fun _ _ _ _ _ hst => wp_ret (.here hst hq)
theorem AWp.exit {id : Nat} (hq : Q (.exit id) t h n) : AWp P N (.exit id) t h n Q := fun _ _ _ _ _ hst => wp_exit (.here hst hq)

theorem AWp.seq (hc : AWp P N c t h n (thenQ (fun t' h' n' => AWp P N d t' h' n' Q) Q)) : AWp P N (.seq c d) t h n Q := fun U ρ Ro w a hst => by
  refine wp_seq (wp_mono (hc U ρ Ro w a hst) fun e a' w' hp => ?_)
  cases e with
  | normal =>
    obtain ⟨t', h', n', ρ', Ro', h1, h2, h3, h4⟩ := hp
    exact wp_mono (h4 _ _ _ _ _ h2) fun e a'' w'' hp' => hp'.after h1 h3
  | _ => exact hp.mono fun _ _ _ hq => hq

/-- A sequence, with what holds in the middle told. -/
theorem AWp.cut (K : Tmps → Heap → Nat → Prop) (hc : AWp P N c t h n (thenQ K Q)) (hd : ∀ t' h' n', n ≤ n' → K t' h' n' → AWp P N d t' h' n' Q) : AWp P N (.seq c d) t h n Q := fun U ρ Ro w a hst => by
  refine wp_seq (wp_mono (hc U ρ Ro w a hst) fun e a' w' hp => ?_)
  cases e with
  | normal =>
    obtain ⟨t', h', n', ρ', Ro', h1, h2, h3, h4⟩ := hp
    exact wp_mono (hd _ _ _ h1 h4 _ _ _ _ _ h2) fun e a'' w'' hp' => hp'.after h1 h3
  | _ => exact hp.mono fun _ _ _ hq => hq

theorem AWp.cond {x : Operand} {u : Bool} (hx : okX x = true) (hv : aev t x = .b u) (ht : u = true → AWp P N c t h n Q) (hf : u = false → AWp P N d t h n Q) : AWp P N (.cond x c d) t h n Q := fun U ρ Ro w a hst => by
  have hr := rv_ev hst.tm hx
  rw [hv] at hr
  exact wp_cond_split hr.inv_b (fun hu => ht hu U ρ Ro w a hst) (fun hu => hf hu U ρ Ro w a hst)

theorem AWp.block {id : Nat} (hc : AWp P N c t h n (inBlockQ id Q)) : AWp P N (.block id c) t h n Q := fun U ρ Ro w a hst => by
  refine wp_block (wp_mono (hc U ρ Ro w a hst) fun e a' w' hp => ?_)
  cases e with
  | exit id' =>
    simp only [Exit.inBlock]
    split
    · rename_i hid
      exact (show Post N U ρ Ro h w n Q .normal a' w' from by
        obtain ⟨t', h', n', ρ', Ro', h1, h2, h3, h4⟩ := hp
        simp only [inBlockQ, hid, if_true] at h4
        exact ⟨t', h', n', ρ', Ro', h1, h2, h3, h4⟩)
    · rename_i hid
      obtain ⟨t', h', n', ρ', Ro', h1, h2, h3, h4⟩ := hp
      simp only [inBlockQ, if_neg hid] at h4
      exact ⟨t', h', n', ρ', Ro', h1, h2, h3, h4⟩
  | _ => exact hp.mono fun _ _ _ hq => hq

/-- A loop: at most so many rounds are still to come. -/
theorem AWp.loop (I : Nat → Tmps → Heap → Nat → Prop) (m : Nat) (h0 : I m t h n)
    (round : ∀ m t' h' n', n ≤ n' → I m t' h' n' → AWp P N c t' h' n' (thenQ (fun t'' h'' n'' => ∃ m', m' < m ∧ I m' t'' h'' n'') Q)) : AWp P N (.loop c) t h n Q := fun U ρ Ro w a hst => by
  refine wp_loop_ghost (fun m a w' => Post N U ρ Ro h w n (fun _ t h n => I m t h n) .normal a w') m (.here hst h0) (fun m a' w' hp => ?_)
  obtain ⟨t', h', n', ρ', Ro', h1, h2, h3, h4⟩ := hp
  refine wp_mono (round m t' h' n' h1 h4 _ _ _ _ _ h2) fun e a'' w'' hp' => ?_
  cases e with
  | normal =>
    obtain ⟨t'', h'', n'', ρ'', Ro'', g1, g2, g3, m', g4, g5⟩ := hp'
    rw [ext_ext _ h1 g1] at g2 g3
    exact ⟨m', g4, t'', h'', n'', ρ'', Ro'', Nat.le_trans h1 g1, g2, h3.trans g3, g5⟩
  | _ => exact (hp'.mono fun _ _ _ hq => hq).after h1 h3

theorem AWp.region {id : Nat} (ho : opsOk N ops = true) (hr : RW P N ops 0 t h n (fun t' h' n' => Q .normal t' h' n')) : AWp P N (.region id ops false) t h n Q := fun U ρ Ro w a hst => by
  refine wp_region_list ?_
  have := hr ho U ρ Ro w a hst (Post N U ρ Ro h w n Q) (fun t' h' n' ρ' Ro' a' w' h1 h2 h3 h4 => ⟨t', h', n', ρ', Ro', h1, h2, h3, h4⟩)
  simpa using this

theorem AWp.draws {id : Nat} (B W : List Nat) (hm : P.follows .mixedOrders = true) (hd : drawChk P ops B W = true) (hr : DW P N ops B W h (fun t' h' n' => Q .normal t' h' n') 0 t [] n) : AWp P N (.region id ops true) t h n Q := fun U ρ Ro w a hst => by
  refine wp_region_any hm ?_
  obtain ⟨p, h1, h2, h3⟩ := hr.plan (t0 := t) ⟨fun _ => .tup [], fun _ => [], fun _ => n⟩ (Nat.zero_le _) rfl rfl (fun j hj => absurd hj (Nat.not_lt_zero _)) trivial (fun j hj => absurd hj (Nat.not_lt_zero _))
  have hn0 : p.ns 0 = n := h1
  have hsame : Same w { w with drawn := w.drawn + 1 } := by constructor <;> rfl
  have hns : ∀ j, j < ops.size → p.ns j ≤ p.ns (j + 1) := fun j hj => (h2 j hj).op.choose_spec.2.2.1
  have hfalse : (fun j => (Array.replicate ops.size false).getD j false) = fun _ => false := by
    funext j
    by_cases hj : j < ops.size
    · simp [hj]
    · simp [hj]
  have hu0 : used U p.ns ops.size (fun _ => false) = U := by
    funext x
    simp only [used, eq_iff_iff]
    constructor
    · rintro (h | ⟨_, _, h, _⟩)
      · exact h
      · cases h
    · exact .inl
  have hhp0 : ∀ m, hp p.Us h (fun _ => false) m = h := fun m => by
    induction m with
    | zero => rfl
    | succ m ih => simp only [hp]; simpa using ih
  have htp0 : ∀ m, tp ops p.V t (fun _ => false) m = t := fun m => by
    induction m with
    | zero => rfl
    | succ m ih => simp only [tp]; simpa using ih
  obtain ⟨hrel', hext'⟩ := hst.rel.same hsame rfl
  refine plan_any (t0 := t) (U := U) (ρ0 := ρ) (Ro0 := Ro) (w0 := w) (drawChk_ok hd) h2 (fun x hx => by rw [hn0]; exact hst.bd x hx) (fun x r hx => by rw [hn0]; exact hst.bd x (hst.rel.lt x r hx)) _ (fun S a' w' hS inv => ?_) ops.size _ a _ (by simp) (fun X hX hm => nodup_le _ X hX (fun j hj => (hm j hj).1)) ?_
  · obtain ⟨ρ', Ro', g1, g2, g3⟩ := inv.st
    have hSt : ∀ m, m ≤ ops.size → hp p.Us h S m = hp p.Us h (fun _ => true) m := fun m => by
      induction m with
      | zero => intro _; rfl
      | succ m ih => intro hm; simp only [hp]; rw [ih (by omega), hS m (by omega)]; simp
    have hTt : ∀ m, m ≤ ops.size → tp ops p.V t S m = tp ops p.V t (fun _ => true) m := fun m => by
      induction m with
      | zero => intro _; rfl
      | succ m ih => intro hm; simp only [tp]; rw [ih (by omega), hS m (by omega)]; simp
    rw [used_all hns hS, hn0, hSt _ (Nat.le_refl _)] at g1 g3
    rw [used_all hns hS, hn0, hTt _ (Nat.le_refl _)] at g2
    have hle : n ≤ p.ns ops.size := by rw [← hn0]; exact ns_mono hns (Nat.zero_le _) (Nat.le_refl _)
    exact ⟨_, _, _, ρ', Ro', hle, ⟨ext_bd hst.bd hle, g1, g2, inv.sz, inv.df⟩, g3, h3⟩
  · rw [hfalse]
    refine ⟨fun i j _ h' => Bool.noConfusion h', ⟨ρ, Ro, ?_, ?_, ?_⟩, hst.sz, hst.df⟩
    · rw [hu0, hhp0]; exact hrel'
    · rw [hu0, htp0]; exact hst.tm.mono (hext'.cx hst.rel)
    · rw [hu0, hhp0]; exact hext'

end Go.Av
