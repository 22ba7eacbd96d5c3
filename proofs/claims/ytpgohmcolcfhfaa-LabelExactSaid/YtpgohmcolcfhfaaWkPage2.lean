import Derived.Test.YtpgohmcolcfhfaaWkPage

namespace Go.Proofs.Ytpgohmcolcfhfaa
open Go.Av
set_option maxRecDepth 100000
set_option maxHeartbeats 1000000
set_option linter.unusedSimpArgs false
set_option linter.unusedVariables false
attribute [local push_cast] stepE callR resE aeff aev ofC ofC1 put_at Av.put_none inTmps List.getD_cons_zero List.getD_cons_succ AV.boxable if_true if_false AV.cells aload place app_cons app_nil upd_same Av.part abin aconv aindexAddr fillA splice_one splice_two abuiltin alen amax amin aun aindex Option.map_some List.map_cons List.map_nil List.nil_append List.append_nil List.cons_append Nat.le_refl Nat.zero_add List.length_cons List.length_nil List.drop_succ_cons List.drop_zero List.take_succ_cons List.take_zero beq_self_eq_true bne_self_eq_false Bool.not_true Bool.not_false List.set_cons_zero List.set_cons_succ Bool.false_eq_true IntWalk.i64_in decide_true decide_false Int.toNat_zero and_self and_true true_and List.getElem?_cons_zero List.getElem?_cons_succ agT_26 szT_26 slT_24 agT_24 szT_24 flT_26_0 flT_26_1 flT_26_3 flT_26_2 agT_22 szT_22 arT_22 agT_3 szT_3 kiT_3 kiT_23 kiT_4 zeT_26 buT_26 zeT_22 buT_22 kiT_9 kiT_51 kiT_5 und_51 slT_51 agT_5 szT_5 aappend aapp view slT_24 zeT_3 byT_24 zeT_5 Option.map_none asliceB aslice amin amax Bool.and_true Bool.true_and Nat.mul_one alen


open Go.Lib (decodeN)
theorem decN_big {n b0 b1 b2 b3 : Nat} (h : 1 < (decodeN n b0 b1 b2 b3).2) : 128 ≤ (decodeN n b0 b1 b2 b3).1 ∧ (((decodeN n b0 b1 b2 b3).2 = 2 ∧ b1 / 64 = 2) ∨ ((decodeN n b0 b1 b2 b3).2 = 3 ∧ b2 / 64 = 2) ∨ ((decodeN n b0 b1 b2 b3).2 = 4 ∧ b3 / 64 = 2)) := by
  unfold decodeN at h ⊢
  by_cases h0 : b0 < 128
  · rw [if_pos h0] at h; exact absurd h (by simp)
  · rw [if_neg h0] at h ⊢
    by_cases k1 : b0 / 32 = 6 ∧ (1 < n ∧ b1 / 64 = 2)
    · rw [if_pos k1] at h ⊢
      split at h
      · rename_i hc; rw [if_pos hc]; exact ⟨hc, .inl ⟨rfl, k1.2.2⟩⟩
      · exact absurd h (by simp)
    · rw [if_neg k1] at h ⊢
      by_cases k2 : b0 / 16 = 14 ∧ (1 < n ∧ b1 / 64 = 2) ∧ (2 < n ∧ b2 / 64 = 2)
      · rw [if_pos k2] at h ⊢
        split at h
        · rename_i hc; rw [if_pos hc]; exact ⟨by simp only; omega, .inr (.inl ⟨rfl, k2.2.2.2⟩)⟩
        · exact absurd h (by simp)
      · rw [if_neg k2] at h ⊢
        by_cases k3 : b0 / 8 = 30 ∧ (1 < n ∧ b1 / 64 = 2) ∧ (2 < n ∧ b2 / 64 = 2) ∧ (3 < n ∧ b3 / 64 = 2)
        · rw [if_pos k3] at h ⊢
          split at h
          · rename_i hc; rw [if_pos hc]; exact ⟨by simp only; omega, .inr (.inr ⟨rfl, k3.2.2.2.2⟩)⟩
          · exact absurd h (by simp)
        · rw [if_neg k3] at h
          exact absurd h (by simp)
theorem dec_big {l : List UInt8} (h : 1 < (dec l).2) : 128 ≤ (dec l).1 ∧ bt l ((dec l).2 - 1) / 64 = 2 := by
  obtain ⟨h1, h2⟩ := decN_big (n := l.length) (b0 := bt l 0) (b1 := bt l 1) (b2 := bt l 2) (b3 := bt l 3) h
  refine ⟨h1, ?_⟩
  rcases h2 with ⟨h2, h3⟩ | ⟨h2, h3⟩ | ⟨h2, h3⟩
  · rw [show (dec l).2 = 2 from h2]; exact h3
  · rw [show (dec l).2 = 3 from h2]; exact h3
  · rw [show (dec l).2 = 4 from h2]; exact h3
theorem dec_small {l : List UInt8} (h : bt l 0 < 128) : dec l = (bt l 0, 1) := by rw [dec, decodeN, if_pos h]
theorem head_32 {l : List UInt8} (h : strong l) : ((dec l).1 = 32 ↔ bt l 0 = 32) := by
  by_cases h0 : bt l 0 < 128
  · rw [dec_small h0]
  · have h1 : 1 < (dec l).2 := h.resolve_right h0
    have := (dec_big h1).1
    omega
theorem last_32 : ∀ (k : Nat) (l : List UInt8), l.length ≤ k → l ≠ [] → (∀ c ∈ chop l, strong c) → (lastN ((chop l).map rn) = 32 ↔ bt l (l.length - 1) = 32) := by
  intro k
  induction k with
  | zero => intro l h hne; exact absurd (List.length_eq_zero_iff.1 (by omega)) hne
  | succ k ih =>
    intro l h hne hst
    have hp := dec_pos l
    have hd := dec_le hne
    have hs : strong l := by
      have h2 := hst _ (by rw [chop_cons hne]; exact List.mem_cons_self ..)
      unfold strong at h2 ⊢
      rw [dec_take hne] at h2
      have h3 := bt_app (l.take (dec l).2) (l.drop (dec l).2) (k := 0) (by rw [List.length_take]; omega)
      rw [List.take_append_drop] at h3
      rw [h3]; exact h2
    by_cases hr : l.drop (dec l).2 = []
    · have hl : (dec l).2 = l.length := by
        have := congrArg List.length hr
        rw [List.length_drop, List.length_nil] at this
        omega
      rw [chop_cons hne, hr, chop_nil, List.map_cons, List.map_nil]
      have e : lastN [rn (l.take (dec l).2)] = (dec l).1 := by
        show rn _ = _
        rw [rn, dec_take hne]
      rw [e, ← hl]
      by_cases h0 : bt l 0 < 128
      · rw [dec_small h0]; exact Iff.rfl
      · have h1 : 1 < (dec l).2 := hs.resolve_right h0
        obtain ⟨h2, h3⟩ := dec_big h1
        omega
    · have h4 := ih (l.drop (dec l).2) (by rw [List.length_drop]; omega) hr (fun c hc => hst c (by rw [chop_cons hne]; exact List.mem_cons_of_mem _ hc))
      have hlen : 0 < (l.drop (dec l).2).length := List.length_pos_iff.2 hr
      rw [List.length_drop] at hlen
      rw [bt_drop, List.length_drop] at h4
      have e1 : (dec l).2 + (l.length - (dec l).2 - 1) = l.length - 1 := by omega
      rw [e1] at h4
      rw [chop_cons hne, List.map_cons, ← h4]
      have hne2 : (chop (l.drop (dec l).2)).map rn ≠ [] := by
        rw [chop_cons hr]; simp
      cases hx : (chop (l.drop (dec l).2)).map rn with
      | nil => exact absurd hx hne2
      | cons y ys => rfl
theorem plain_strong {l : List UInt8} (h : ∀ x ∈ (chop l).map rn, plainN (x : Nat) = true) : ∀ c ∈ chop l, strong c := by
  intro c hc
  apply rn_strong
  intro he
  have := h _ (List.mem_map_of_mem hc)
  rw [he] at this
  exact absurd this (by decide)
/-- The ends of a text of plain runes. -/
theorem ends_32 {s : ByteArray} (hs : 0 < s.size) (h : ∀ x ∈ runesL s 0, plainN (x : Nat) = true) : (headN (runesL s 0) = 32 ↔ bt (bs s) 0 = 32) ∧ (lastN (runesL s 0) = 32 ↔ bt (bs s) (s.size - 1) = 32) := by
  have hne : bs s ≠ [] := by
    have := drop_ne (pos := 0) hs
    rwa [List.drop_zero] at this
  rw [runesL_all] at h ⊢
  have hst := plain_strong h
  constructor
  · have h2 := hst _ (by rw [chop_cons hne]; exact List.mem_cons_self ..)
    have hs : strong (bs s) := by
      unfold strong at h2 ⊢
      rw [dec_take hne] at h2
      have hp := dec_pos (bs s)
      have hd := dec_le hne
      have h3 := bt_app ((bs s).take (dec (bs s)).2) ((bs s).drop (dec (bs s)).2) (k := 0) (by rw [List.length_take]; omega)
      rw [List.take_append_drop] at h3
      rw [h3]; exact h2
    rw [chop_cons hne, List.map_cons]
    show rn _ = 32 ↔ _
    rw [rn, dec_take hne]
    exact head_32 hs
  · have := last_32 _ (bs s) (Nat.le_refl _) hne hst
    rwa [bs_size] at this
theorem chk_no_rune {s : ByteArray} {l : List Nat} {pos : Nat} (hp : pos < s.size) (hl : runesL s 0 = l ++ runesL s pos) (h : plainN ((dec ((bs s).drop pos)).1 : Nat) = false) : chkL (runesL s 0) = false := by
  rw [hl, runesL_step hp, decode_dec]
  cases hx : chkL (l ++ (dec ((bs s).drop pos)).1 :: runesL s (pos + (dec ((bs s).drop pos)).2))
  · rfl
  · simp only [chkL, Bool.and_eq_true, List.all_eq_true] at hx
    have := hx.1.1.1.1 _ (List.mem_append_right _ (List.mem_cons_self ..))
    rw [h] at this; cases this
theorem chk_no_long {s : ByteArray} {l : List Nat} {pos : Nat} (hp : pos < s.size) (hl : runesL s 0 = l ++ runesL s pos) (h : 24 < l.length + 1) : chkL (runesL s 0) = false := by
  rw [hl, runesL_step hp]
  cases hx : chkL (l ++ (Utf8.decode s pos).1 :: runesL s (pos + (Utf8.decode s pos).2))
  · rfl
  · simp only [chkL, Bool.and_eq_true, decide_eq_true_eq, List.length_append, List.length_cons] at hx
    omega
theorem chk_nil : chkL [] = false := by decide
theorem c28 (s : ByteArray) (hs : s.size ≤ 5000) (S : Sums) (hS : SumOk Try.prog S) (h48 : ∀ s h, 0 < s.size → s.size ≤ 5000 → S 48 [.s s] h = .pure (r1A s)) : ∀ h n, DCalls Try.prog 28 [.s s] h n (.b (chkL (runesL s 0))) [] n := by
  intro h n
  refine DCalls.of Try.func28 rfl (by decide) (Nat.le_of_ble_eq_true rfl) (Nat.le_refl _) ?_
  refine AWp.seq ?_
  (refine aw_regionL hS (by kernel_rfl) ?_; repeat (first | apply vr0u | apply vr4 | apply b_tt | apply b_ff | apply b_tf | apply b_ft | apply b_no | exact isD.mk rfl | (apply eqG; (simp only [push_cast, ↓reduceIte, Nat.reduceEqDiff, Nat.reduceAdd, Nat.reduceLeDiff, Int.reduceLE, Int.reduceLT, Int.reduceAdd, Int.reduceSub, Int.reduceNeg, Int.reduceBEq, Int.reduceBNe, Int.reduceEq, Int.reduceGT, Int.reduceGE, Int.reduceMul, Int.reduceToNat, Int.reducePow, Nat.reduceMul, reduceCtorEq] <;> rfl))))
  refine vr_nil (aw_then ?_)
  refine AWp.seq ?_
  (refine aw_regionL hS (by kernel_rfl) ?_; repeat (first | apply vr0u | apply vr4 | apply b_tt | apply b_ff | apply b_tf | apply b_ft | apply b_no | exact isD.mk rfl | (apply eqG; (simp only [push_cast, ↓reduceIte, Nat.reduceEqDiff, Nat.reduceAdd, Nat.reduceLeDiff, Int.reduceLE, Int.reduceLT, Int.reduceAdd, Int.reduceSub, Int.reduceNeg, Int.reduceBEq, Int.reduceBNe, Int.reduceEq, Int.reduceGT, Int.reduceGE, Int.reduceMul, Int.reduceToNat, Int.reducePow, Nat.reduceMul, reduceCtorEq] <;> rfl))))
  refine vr_nil (aw_then ?_)
  refine AWp.seq ?_
  refine AWp.seq ?_
  (refine aw_regionL hS (by kernel_rfl) ?_; repeat (first | apply vr0u | apply vr4 | apply b_tt | apply b_ff | apply b_tf | apply b_ft | apply b_no | exact isD.mk rfl | (apply eqG; (simp only [push_cast, ↓reduceIte, Nat.reduceEqDiff, Nat.reduceAdd, Nat.reduceLeDiff, Int.reduceLE, Int.reduceLT, Int.reduceAdd, Int.reduceSub, Int.reduceNeg, Int.reduceBEq, Int.reduceBNe, Int.reduceEq, Int.reduceGT, Int.reduceGE, Int.reduceMul, Int.reduceToNat, Int.reducePow, Nat.reduceMul, reduceCtorEq] <;> rfl))))
  refine vr_nil (aw_then ?_)
  refine AWp.block ?_
  refine AWp.loop (fun k t' h' n' => ∃ (pos : Nat) (l : List Nat), k = s.size - pos ∧ pos ≤ s.size ∧ runesL s 0 = l ++ runesL s pos ∧ (∀ x ∈ l, plainN (x : Nat) = true) ∧ l.length ≤ 24 ∧ (pos = 0 ↔ l = []) ∧ t' 0 = .s s ∧ t' 3 = .i .i64 (l.length : Int) ∧ t' 4 = .i .i64 (pos : Int) ∧ ∀ x r, x < n → h x = some r → h' x = some r) s.size ?_ ?_
  · exact ⟨0, [], rfl, Nat.zero_le _, rfl, by simp, by simp, by simp, by (simp only [push_cast, ↓reduceIte, Nat.reduceEqDiff, Nat.reduceAdd, Nat.reduceLeDiff, Int.reduceLE, Int.reduceLT, Int.reduceAdd, Int.reduceSub, Int.reduceNeg, Int.reduceBEq, Int.reduceBNe, Int.reduceEq, Int.reduceGT, Int.reduceGE, Int.reduceMul, Int.reduceToNat, Int.reducePow, Nat.reduceMul, reduceCtorEq] <;> rfl), by (simp only [push_cast, ↓reduceIte, Nat.reduceEqDiff, Nat.reduceAdd, Nat.reduceLeDiff, Int.reduceLE, Int.reduceLT, Int.reduceAdd, Int.reduceSub, Int.reduceNeg, Int.reduceBEq, Int.reduceBNe, Int.reduceEq, Int.reduceGT, Int.reduceGE, Int.reduceMul, Int.reduceToNat, Int.reducePow, Nat.reduceMul, reduceCtorEq] <;> rfl), by (simp only [push_cast, ↓reduceIte, Nat.reduceEqDiff, Nat.reduceAdd, Nat.reduceLeDiff, Int.reduceLE, Int.reduceLT, Int.reduceAdd, Int.reduceSub, Int.reduceNeg, Int.reduceBEq, Int.reduceBNe, Int.reduceEq, Int.reduceGT, Int.reduceGE, Int.reduceMul, Int.reduceToNat, Int.reducePow, Nat.reduceMul, reduceCtorEq] <;> rfl), keep0⟩
  · rintro m t h' n' - ⟨pos, l, rfl, hpl, hl, hpp, hl24, hpz, h0, h3, h4, hk⟩
    by_cases hp : pos < s.size
    · have q1 : ((pos : Int) < ((s.size : Nat) : Int)) = True := by simp [hp]
      have q2 : (0 ≤ (pos : Int) ∧ (pos : Int) ≤ ((s.size : Nat) : Int)) = True := by simp; omega
      have hstep := runesL_step hp
      rw [decode_dec] at hstep
      have hd := dec_in hp
      have hd1 := dec_pos ((bs s).drop pos)
      have w1 : IntKind.wrap .i64 ((l.length : Int) + 1) = (l.length : Int) + 1 := by rw [IntWalk.i64_in _ (by omega)]
      have hr := c48_at h48 hs hp
      have hno := chk_no_rune hp hl
      have hlong := chk_no_long hp hl
      rcases r1_cases _ (drop_ne hp) with ⟨hr1, hdd⟩ | ⟨hr1, hst⟩
      · rw [hr1] at hr
        have hno := hno (by rw [hdd]; decide)
        have hr : ∀ h, S 48 [.s (s.extract pos s.size)] h = .pure (.tup [.i .i64 0, .i .i64 0]) := hr
        refine AWp.seq ?_
        refine AWp.seq ?_
        (refine aw_regionL hS (by kernel_rfl) ?_; repeat (first | apply vr0u | apply vr4 | apply b_tt | apply b_ff | apply b_tf | apply b_ft | apply b_no | exact isD.mk rfl | (apply eqG; (simp only [push_cast, ↓reduceIte, Nat.reduceEqDiff, Nat.reduceAdd, Nat.reduceLeDiff, Int.reduceLE, Int.reduceLT, Int.reduceAdd, Int.reduceSub, Int.reduceNeg, Int.reduceBEq, Int.reduceBNe, Int.reduceEq, Int.reduceGT, Int.reduceGE, Int.reduceMul, Int.reduceToNat, Int.reducePow, Nat.reduceMul, reduceCtorEq, h0, h3, h4, q1, q2, hr, Int.toNat_natCast] <;> rfl))))
        refine vr_nil (aw_then ?_)
        refine aw_true (by (simp only [push_cast, ↓reduceIte, Nat.reduceEqDiff, Nat.reduceAdd, Nat.reduceLeDiff, Int.reduceLE, Int.reduceLT, Int.reduceAdd, Int.reduceSub, Int.reduceNeg, Int.reduceBEq, Int.reduceBNe, Int.reduceEq, Int.reduceGT, Int.reduceGE, Int.reduceMul, Int.reduceToNat, Int.reducePow, Nat.reduceMul, reduceCtorEq, h0, h3, h4, q1, q2, hr, Int.toNat_natCast] <;> rfl)) (AWp.skip (aw_then ?_))
        refine AWp.block ?_
        refine AWp.seq ?_
        (refine aw_regionL hS (by kernel_rfl) ?_; repeat (first | apply vr0u | apply vr4 | apply b_tt | apply b_ff | apply b_tf | apply b_ft | apply b_no | exact isD.mk rfl | (apply eqG; (simp only [push_cast, ↓reduceIte, Nat.reduceEqDiff, Nat.reduceAdd, Nat.reduceLeDiff, Int.reduceLE, Int.reduceLT, Int.reduceAdd, Int.reduceSub, Int.reduceNeg, Int.reduceBEq, Int.reduceBNe, Int.reduceEq, Int.reduceGT, Int.reduceGE, Int.reduceMul, Int.reduceToNat, Int.reducePow, Nat.reduceMul, reduceCtorEq, h0, h3, h4, q1, q2, hr, Int.toNat_natCast] <;> rfl))))
        refine vr_nil (aw_then ?_)
        refine AWp.seq ?_
        refine AWp.seq ?_
        (refine aw_regionL hS (by kernel_rfl) ?_; repeat (first | apply vr0u | apply vr4 | apply b_tt | apply b_ff | apply b_tf | apply b_ft | apply b_no | exact isD.mk rfl | (apply eqG; (simp only [push_cast, ↓reduceIte, Nat.reduceEqDiff, Nat.reduceAdd, Nat.reduceLeDiff, Int.reduceLE, Int.reduceLT, Int.reduceAdd, Int.reduceSub, Int.reduceNeg, Int.reduceBEq, Int.reduceBNe, Int.reduceEq, Int.reduceGT, Int.reduceGE, Int.reduceMul, Int.reduceToNat, Int.reducePow, Nat.reduceMul, reduceCtorEq, h0, h3, h4, q1, q2, hr, Int.toNat_natCast] <;> rfl))))
        refine vr_nil (aw_then ?_)
        refine aw_true (by (simp only [push_cast, ↓reduceIte, Nat.reduceEqDiff, Nat.reduceAdd, Nat.reduceLeDiff, Int.reduceLE, Int.reduceLT, Int.reduceAdd, Int.reduceSub, Int.reduceNeg, Int.reduceBEq, Int.reduceBNe, Int.reduceEq, Int.reduceGT, Int.reduceGE, Int.reduceMul, Int.reduceToNat, Int.reducePow, Nat.reduceMul, reduceCtorEq, h0, h3, h4, q1, q2, hr, Int.toNat_natCast] <;> rfl)) ?_
        refine AWp.seq ?_
        (refine aw_regionL hS (by kernel_rfl) ?_; repeat (first | apply vr0u | apply vr4 | apply b_tt | apply b_ff | apply b_tf | apply b_ft | apply b_no | exact isD.mk rfl | (apply eqG; (simp only [push_cast, ↓reduceIte, Nat.reduceEqDiff, Nat.reduceAdd, Nat.reduceLeDiff, Int.reduceLE, Int.reduceLT, Int.reduceAdd, Int.reduceSub, Int.reduceNeg, Int.reduceBEq, Int.reduceBNe, Int.reduceEq, Int.reduceGT, Int.reduceGE, Int.reduceMul, Int.reduceToNat, Int.reducePow, Nat.reduceMul, reduceCtorEq, h0, h3, h4, q1, q2, hr, Int.toNat_natCast] <;> rfl))))
        refine vr_nil (aw_then ?_)
        refine AWp.ret ?_
        exact Out.pure1 (.inr rfl) rfl (by (simp only [push_cast, ↓reduceIte, Nat.reduceEqDiff, Nat.reduceAdd, Nat.reduceLeDiff, Int.reduceLE, Int.reduceLT, Int.reduceAdd, Int.reduceSub, Int.reduceNeg, Int.reduceBEq, Int.reduceBNe, Int.reduceEq, Int.reduceGT, Int.reduceGE, Int.reduceMul, Int.reduceToNat, Int.reducePow, Nat.reduceMul, reduceCtorEq, h0, h3, h4, q1, q2, hr, Int.toNat_natCast] <;> rfl)) (by rw [hno]) trivial hk
      · rw [hr1] at hr
        obtain ⟨ai, hai⟩ : ∃ ai : Int, (((dec ((bs s).drop pos)).1 : Nat) : Int) = ai := ⟨_, rfl⟩
        generalize hdv : (dec ((bs s).drop pos)).2 = d at *
        have w2 : IntKind.wrap .i64 ((pos : Int) + (d : Int)) = (pos : Int) + (d : Int) := IntWalk.i64_in _ (by omega)
        have q3 : ((d : Int) == 0) = false := by simp; omega
        rw [hai] at hr hno
        refine AWp.seq ?_
        refine AWp.seq ?_
        (refine aw_regionL hS (by kernel_rfl) ?_; repeat (first | apply vr0u | apply vr4 | apply b_tt | apply b_ff | apply b_tf | apply b_ft | apply b_no | exact isD.mk rfl | (apply eqG; (simp only [push_cast, ↓reduceIte, Nat.reduceEqDiff, Nat.reduceAdd, Nat.reduceLeDiff, Int.reduceLE, Int.reduceLT, Int.reduceAdd, Int.reduceSub, Int.reduceNeg, Int.reduceBEq, Int.reduceBNe, Int.reduceEq, Int.reduceGT, Int.reduceGE, Int.reduceMul, Int.reduceToNat, Int.reducePow, Nat.reduceMul, reduceCtorEq, h0, h3, h4, q1, q2, q3, hr, Int.toNat_natCast] <;> rfl))))
        refine vr_nil (aw_then ?_)
        refine aw_true (by (simp only [push_cast, ↓reduceIte, Nat.reduceEqDiff, Nat.reduceAdd, Nat.reduceLeDiff, Int.reduceLE, Int.reduceLT, Int.reduceAdd, Int.reduceSub, Int.reduceNeg, Int.reduceBEq, Int.reduceBNe, Int.reduceEq, Int.reduceGT, Int.reduceGE, Int.reduceMul, Int.reduceToNat, Int.reducePow, Nat.reduceMul, reduceCtorEq, h0, h3, h4, q1, q2, q3, hr, Int.toNat_natCast] <;> rfl)) (AWp.skip (aw_then ?_))
        refine AWp.block ?_
        refine AWp.seq ?_
        (refine aw_regionL hS (by kernel_rfl) ?_; repeat (first | apply vr0u | apply vr4 | apply b_tt | apply b_ff | apply b_tf | apply b_ft | apply b_no | exact isD.mk rfl | (apply eqG; (simp only [push_cast, ↓reduceIte, Nat.reduceEqDiff, Nat.reduceAdd, Nat.reduceLeDiff, Int.reduceLE, Int.reduceLT, Int.reduceAdd, Int.reduceSub, Int.reduceNeg, Int.reduceBEq, Int.reduceBNe, Int.reduceEq, Int.reduceGT, Int.reduceGE, Int.reduceMul, Int.reduceToNat, Int.reducePow, Nat.reduceMul, reduceCtorEq, h0, h3, h4, q1, q2, q3, hr, Int.toNat_natCast] <;> rfl))))
        refine vr_nil (aw_then ?_)
        refine AWp.cut (fun t' h'' n'' => t' 0 = .s s ∧ t' 3 = .i .i64 (l.length : Int) ∧ t' 4 = .i .i64 (pos : Int) ∧ t' 6 = .i .i64 (d : Int) ∧ plainN ai = true ∧ n'' = n' ∧ h'' = h') ?_ ?_
        · refine AWp.seq ?_
          (refine aw_regionL hS (by kernel_rfl) ?_; repeat (first | apply vr0u | apply vr4 | apply b_tt | apply b_ff | apply b_tf | apply b_ft | apply b_no | exact isD.mk rfl | (apply eqG; (simp only [push_cast, ↓reduceIte, Nat.reduceEqDiff, Nat.reduceAdd, Nat.reduceLeDiff, Int.reduceLE, Int.reduceLT, Int.reduceAdd, Int.reduceSub, Int.reduceNeg, Int.reduceBEq, Int.reduceBNe, Int.reduceEq, Int.reduceGT, Int.reduceGE, Int.reduceMul, Int.reduceToNat, Int.reducePow, Nat.reduceMul, reduceCtorEq, h0, h3, h4, q1, q2, q3, hr, Int.toNat_natCast] <;> rfl))))
          refine br_s (by (simp only [push_cast, ↓reduceIte, Nat.reduceEqDiff, Nat.reduceAdd, Nat.reduceLeDiff, Int.reduceLE, Int.reduceLT, Int.reduceAdd, Int.reduceSub, Int.reduceNeg, Int.reduceBEq, Int.reduceBNe, Int.reduceEq, Int.reduceGT, Int.reduceGE, Int.reduceMul, Int.reduceToNat, Int.reducePow, Nat.reduceMul, reduceCtorEq, h0, h3, h4, q1, q2, q3, hr, Int.toNat_natCast] <;> rfl)) (fun hu => ?_) (fun hu => ?_)
          · repeat (first | apply vr0u | apply vr4 | apply b_tt | apply b_ff | apply b_tf | apply b_ft | apply b_no | exact isD.mk rfl | (apply eqG; (simp only [push_cast, ↓reduceIte, Nat.reduceEqDiff, Nat.reduceAdd, Nat.reduceLeDiff, Int.reduceLE, Int.reduceLT, Int.reduceAdd, Int.reduceSub, Int.reduceNeg, Int.reduceBEq, Int.reduceBNe, Int.reduceEq, Int.reduceGT, Int.reduceGE, Int.reduceMul, Int.reduceToNat, Int.reducePow, Nat.reduceMul, reduceCtorEq, h0, h3, h4, q1, q2, q3, hr, Int.toNat_natCast] <;> rfl)))
            refine vr_nil (aw_then ?_)
            refine aw_true (by (simp only [push_cast, ↓reduceIte, Nat.reduceEqDiff, Nat.reduceAdd, Nat.reduceLeDiff, Int.reduceLE, Int.reduceLT, Int.reduceAdd, Int.reduceSub, Int.reduceNeg, Int.reduceBEq, Int.reduceBNe, Int.reduceEq, Int.reduceGT, Int.reduceGE, Int.reduceMul, Int.reduceToNat, Int.reducePow, Nat.reduceMul, reduceCtorEq, h0, h3, h4, q1, q2, q3, hr, Int.toNat_natCast] <;> rfl)) ?_
            refine AWp.seq ?_
            (refine aw_regionL hS (by kernel_rfl) ?_; repeat (first | apply vr0u | apply vr4 | apply b_tt | apply b_ff | apply b_tf | apply b_ft | apply b_no | exact isD.mk rfl | (apply eqG; (simp only [push_cast, ↓reduceIte, Nat.reduceEqDiff, Nat.reduceAdd, Nat.reduceLeDiff, Int.reduceLE, Int.reduceLT, Int.reduceAdd, Int.reduceSub, Int.reduceNeg, Int.reduceBEq, Int.reduceBNe, Int.reduceEq, Int.reduceGT, Int.reduceGE, Int.reduceMul, Int.reduceToNat, Int.reducePow, Nat.reduceMul, reduceCtorEq, h0, h3, h4, q1, q2, q3, hr, Int.toNat_natCast] <;> rfl))))
            refine vr_nil (aw_then ?_)
            refine AWp.ret ?_
            exact Out.pure1 (.inr rfl) rfl (by (simp only [push_cast, ↓reduceIte, Nat.reduceEqDiff, Nat.reduceAdd, Nat.reduceLeDiff, Int.reduceLE, Int.reduceLT, Int.reduceAdd, Int.reduceSub, Int.reduceNeg, Int.reduceBEq, Int.reduceBNe, Int.reduceEq, Int.reduceGT, Int.reduceGE, Int.reduceMul, Int.reduceToNat, Int.reducePow, Nat.reduceMul, reduceCtorEq, h0, h3, h4, q1, q2, q3, hr, Int.toNat_natCast] <;> rfl)) (by rw [hno (by have := of_decide_eq_true hu; simp only [plainN]; rw [decide_eq_false (by omega)]; rfl)]) trivial hk
          have hu' := of_decide_eq_false hu
          repeat (first | apply vr0u | apply vr4 | apply b_tt | apply b_ff | apply b_tf | apply b_ft | apply b_no | exact isD.mk rfl | (apply eqG; (simp only [push_cast, ↓reduceIte, Nat.reduceEqDiff, Nat.reduceAdd, Nat.reduceLeDiff, Int.reduceLE, Int.reduceLT, Int.reduceAdd, Int.reduceSub, Int.reduceNeg, Int.reduceBEq, Int.reduceBNe, Int.reduceEq, Int.reduceGT, Int.reduceGE, Int.reduceMul, Int.reduceToNat, Int.reducePow, Nat.reduceMul, reduceCtorEq, h0, h3, h4, q1, q2, q3, hr, Int.toNat_natCast] <;> rfl)))
          refine br_s (by (simp only [push_cast, ↓reduceIte, Nat.reduceEqDiff, Nat.reduceAdd, Nat.reduceLeDiff, Int.reduceLE, Int.reduceLT, Int.reduceAdd, Int.reduceSub, Int.reduceNeg, Int.reduceBEq, Int.reduceBNe, Int.reduceEq, Int.reduceGT, Int.reduceGE, Int.reduceMul, Int.reduceToNat, Int.reducePow, Nat.reduceMul, reduceCtorEq, h0, h3, h4, q1, q2, q3, hr, Int.toNat_natCast] <;> rfl)) (fun hv => ?_) (fun hv => ?_)
          · have hv' := of_decide_eq_true hv
            repeat (first | apply vr0u | apply vr4 | apply b_tt | apply b_ff | apply b_tf | apply b_ft | apply b_no | exact isD.mk rfl | (apply eqG; (simp only [push_cast, ↓reduceIte, Nat.reduceEqDiff, Nat.reduceAdd, Nat.reduceLeDiff, Int.reduceLE, Int.reduceLT, Int.reduceAdd, Int.reduceSub, Int.reduceNeg, Int.reduceBEq, Int.reduceBNe, Int.reduceEq, Int.reduceGT, Int.reduceGE, Int.reduceMul, Int.reduceToNat, Int.reducePow, Nat.reduceMul, reduceCtorEq, h0, h3, h4, q1, q2, q3, hr, Int.toNat_natCast] <;> rfl)))
            refine br_s (by (simp only [push_cast, ↓reduceIte, Nat.reduceEqDiff, Nat.reduceAdd, Nat.reduceLeDiff, Int.reduceLE, Int.reduceLT, Int.reduceAdd, Int.reduceSub, Int.reduceNeg, Int.reduceBEq, Int.reduceBNe, Int.reduceEq, Int.reduceGT, Int.reduceGE, Int.reduceMul, Int.reduceToNat, Int.reducePow, Nat.reduceMul, reduceCtorEq, h0, h3, h4, q1, q2, q3, hr, Int.toNat_natCast] <;> rfl)) (fun hw => ?_) (fun hw => ?_)
            · have hw' := of_decide_eq_true hw
              repeat (first | apply vr0u | apply vr4 | apply b_tt | apply b_ff | apply b_tf | apply b_ft | apply b_no | exact isD.mk rfl | (apply eqG; (simp only [push_cast, ↓reduceIte, Nat.reduceEqDiff, Nat.reduceAdd, Nat.reduceLeDiff, Int.reduceLE, Int.reduceLT, Int.reduceAdd, Int.reduceSub, Int.reduceNeg, Int.reduceBEq, Int.reduceBNe, Int.reduceEq, Int.reduceGT, Int.reduceGE, Int.reduceMul, Int.reduceToNat, Int.reducePow, Nat.reduceMul, reduceCtorEq, h0, h3, h4, q1, q2, q3, hr, Int.toNat_natCast] <;> rfl)))
              refine vr_nil (aw_then ?_)
              refine aw_true (by (simp only [push_cast, ↓reduceIte, Nat.reduceEqDiff, Nat.reduceAdd, Nat.reduceLeDiff, Int.reduceLE, Int.reduceLT, Int.reduceAdd, Int.reduceSub, Int.reduceNeg, Int.reduceBEq, Int.reduceBNe, Int.reduceEq, Int.reduceGT, Int.reduceGE, Int.reduceMul, Int.reduceToNat, Int.reducePow, Nat.reduceMul, reduceCtorEq, h0, h3, h4, q1, q2, q3, hr, Int.toNat_natCast] <;> rfl)) ?_
              refine AWp.seq ?_
              (refine aw_regionL hS (by kernel_rfl) ?_; repeat (first | apply vr0u | apply vr4 | apply b_tt | apply b_ff | apply b_tf | apply b_ft | apply b_no | exact isD.mk rfl | (apply eqG; (simp only [push_cast, ↓reduceIte, Nat.reduceEqDiff, Nat.reduceAdd, Nat.reduceLeDiff, Int.reduceLE, Int.reduceLT, Int.reduceAdd, Int.reduceSub, Int.reduceNeg, Int.reduceBEq, Int.reduceBNe, Int.reduceEq, Int.reduceGT, Int.reduceGE, Int.reduceMul, Int.reduceToNat, Int.reducePow, Nat.reduceMul, reduceCtorEq, h0, h3, h4, q1, q2, q3, hr, Int.toNat_natCast] <;> rfl))))
              refine vr_nil (aw_then ?_)
              refine AWp.ret ?_
              exact Out.pure1 (.inr rfl) rfl (by (simp only [push_cast, ↓reduceIte, Nat.reduceEqDiff, Nat.reduceAdd, Nat.reduceLeDiff, Int.reduceLE, Int.reduceLT, Int.reduceAdd, Int.reduceSub, Int.reduceNeg, Int.reduceBEq, Int.reduceBNe, Int.reduceEq, Int.reduceGT, Int.reduceGE, Int.reduceMul, Int.reduceToNat, Int.reducePow, Nat.reduceMul, reduceCtorEq, h0, h3, h4, q1, q2, q3, hr, Int.toNat_natCast] <;> rfl)) (by rw [hno (by simp only [plainN]; rw [decide_eq_false (by omega : ¬ ai < 127), decide_eq_false (by omega : ¬ ai > 159)]; simp)]) trivial hk
            · have hw' := of_decide_eq_false hw
              repeat (first | apply vr0u | apply vr4 | apply b_tt | apply b_ff | apply b_tf | apply b_ft | apply b_no | exact isD.mk rfl | (apply eqG; (simp only [push_cast, ↓reduceIte, Nat.reduceEqDiff, Nat.reduceAdd, Nat.reduceLeDiff, Int.reduceLE, Int.reduceLT, Int.reduceAdd, Int.reduceSub, Int.reduceNeg, Int.reduceBEq, Int.reduceBNe, Int.reduceEq, Int.reduceGT, Int.reduceGE, Int.reduceMul, Int.reduceToNat, Int.reducePow, Nat.reduceMul, reduceCtorEq, h0, h3, h4, q1, q2, q3, hr, Int.toNat_natCast] <;> rfl)))
              refine vr_nil (aw_then ?_)
              refine aw_split (by (simp only [push_cast, ↓reduceIte, Nat.reduceEqDiff, Nat.reduceAdd, Nat.reduceLeDiff, Int.reduceLE, Int.reduceLT, Int.reduceAdd, Int.reduceSub, Int.reduceNeg, Int.reduceBEq, Int.reduceBNe, Int.reduceEq, Int.reduceGT, Int.reduceGE, Int.reduceMul, Int.reduceToNat, Int.reducePow, Nat.reduceMul, reduceCtorEq, h0, h3, h4, q1, q2, q3, hr, Int.toNat_natCast] <;> rfl)) (fun hx => ?_) (fun hx => ?_)
              · refine AWp.seq ?_
                (refine aw_regionL hS (by kernel_rfl) ?_; repeat (first | apply vr0u | apply vr4 | apply b_tt | apply b_ff | apply b_tf | apply b_ft | apply b_no | exact isD.mk rfl | (apply eqG; (simp only [push_cast, ↓reduceIte, Nat.reduceEqDiff, Nat.reduceAdd, Nat.reduceLeDiff, Int.reduceLE, Int.reduceLT, Int.reduceAdd, Int.reduceSub, Int.reduceNeg, Int.reduceBEq, Int.reduceBNe, Int.reduceEq, Int.reduceGT, Int.reduceGE, Int.reduceMul, Int.reduceToNat, Int.reducePow, Nat.reduceMul, reduceCtorEq, h0, h3, h4, q1, q2, q3, hr, Int.toNat_natCast] <;> rfl))))
                refine vr_nil (aw_then ?_)
                refine AWp.ret ?_
                exact Out.pure1 (.inr rfl) rfl (by (simp only [push_cast, ↓reduceIte, Nat.reduceEqDiff, Nat.reduceAdd, Nat.reduceLeDiff, Int.reduceLE, Int.reduceLT, Int.reduceAdd, Int.reduceSub, Int.reduceNeg, Int.reduceBEq, Int.reduceBNe, Int.reduceEq, Int.reduceGT, Int.reduceGE, Int.reduceMul, Int.reduceToNat, Int.reducePow, Nat.reduceMul, reduceCtorEq, h0, h3, h4, q1, q2, q3, hr, Int.toNat_natCast] <;> rfl)) (by rw [hno (by rw [eq_of_beq hx]; decide)]) trivial hk
              · exact AWp.skip (aw_then ⟨by (simp only [push_cast, ↓reduceIte, Nat.reduceEqDiff, Nat.reduceAdd, Nat.reduceLeDiff, Int.reduceLE, Int.reduceLT, Int.reduceAdd, Int.reduceSub, Int.reduceNeg, Int.reduceBEq, Int.reduceBNe, Int.reduceEq, Int.reduceGT, Int.reduceGE, Int.reduceMul, Int.reduceToNat, Int.reducePow, Nat.reduceMul, reduceCtorEq, h0, h3, h4, q1, q2, q3, hr, Int.toNat_natCast] <;> rfl), by (simp only [push_cast, ↓reduceIte, Nat.reduceEqDiff, Nat.reduceAdd, Nat.reduceLeDiff, Int.reduceLE, Int.reduceLT, Int.reduceAdd, Int.reduceSub, Int.reduceNeg, Int.reduceBEq, Int.reduceBNe, Int.reduceEq, Int.reduceGT, Int.reduceGE, Int.reduceMul, Int.reduceToNat, Int.reducePow, Nat.reduceMul, reduceCtorEq, h0, h3, h4, q1, q2, q3, hr, Int.toNat_natCast] <;> rfl), by (simp only [push_cast, ↓reduceIte, Nat.reduceEqDiff, Nat.reduceAdd, Nat.reduceLeDiff, Int.reduceLE, Int.reduceLT, Int.reduceAdd, Int.reduceSub, Int.reduceNeg, Int.reduceBEq, Int.reduceBNe, Int.reduceEq, Int.reduceGT, Int.reduceGE, Int.reduceMul, Int.reduceToNat, Int.reducePow, Nat.reduceMul, reduceCtorEq, h0, h3, h4, q1, q2, q3, hr, Int.toNat_natCast] <;> rfl), by (simp only [push_cast, ↓reduceIte, Nat.reduceEqDiff, Nat.reduceAdd, Nat.reduceLeDiff, Int.reduceLE, Int.reduceLT, Int.reduceAdd, Int.reduceSub, Int.reduceNeg, Int.reduceBEq, Int.reduceBNe, Int.reduceEq, Int.reduceGT, Int.reduceGE, Int.reduceMul, Int.reduceToNat, Int.reducePow, Nat.reduceMul, reduceCtorEq, h0, h3, h4, q1, q2, q3, hr, Int.toNat_natCast] <;> rfl), by simp only [plainN]; rw [decide_eq_true (by omega : ai ≥ 32), decide_eq_true (by omega : ai > 159), bne, hx]; simp, rfl, rfl⟩)
          · have hv' := of_decide_eq_false hv
            repeat (first | apply vr0u | apply vr4 | apply b_tt | apply b_ff | apply b_tf | apply b_ft | apply b_no | exact isD.mk rfl | (apply eqG; (simp only [push_cast, ↓reduceIte, Nat.reduceEqDiff, Nat.reduceAdd, Nat.reduceLeDiff, Int.reduceLE, Int.reduceLT, Int.reduceAdd, Int.reduceSub, Int.reduceNeg, Int.reduceBEq, Int.reduceBNe, Int.reduceEq, Int.reduceGT, Int.reduceGE, Int.reduceMul, Int.reduceToNat, Int.reducePow, Nat.reduceMul, reduceCtorEq, h0, h3, h4, q1, q2, q3, hr, Int.toNat_natCast] <;> rfl)))
            refine vr_nil (aw_then ?_)
            refine aw_split (by (simp only [push_cast, ↓reduceIte, Nat.reduceEqDiff, Nat.reduceAdd, Nat.reduceLeDiff, Int.reduceLE, Int.reduceLT, Int.reduceAdd, Int.reduceSub, Int.reduceNeg, Int.reduceBEq, Int.reduceBNe, Int.reduceEq, Int.reduceGT, Int.reduceGE, Int.reduceMul, Int.reduceToNat, Int.reducePow, Nat.reduceMul, reduceCtorEq, h0, h3, h4, q1, q2, q3, hr, Int.toNat_natCast] <;> rfl)) (fun hx => ?_) (fun hx => ?_)
            · refine AWp.seq ?_
              (refine aw_regionL hS (by kernel_rfl) ?_; repeat (first | apply vr0u | apply vr4 | apply b_tt | apply b_ff | apply b_tf | apply b_ft | apply b_no | exact isD.mk rfl | (apply eqG; (simp only [push_cast, ↓reduceIte, Nat.reduceEqDiff, Nat.reduceAdd, Nat.reduceLeDiff, Int.reduceLE, Int.reduceLT, Int.reduceAdd, Int.reduceSub, Int.reduceNeg, Int.reduceBEq, Int.reduceBNe, Int.reduceEq, Int.reduceGT, Int.reduceGE, Int.reduceMul, Int.reduceToNat, Int.reducePow, Nat.reduceMul, reduceCtorEq, h0, h3, h4, q1, q2, q3, hr, Int.toNat_natCast] <;> rfl))))
              refine vr_nil (aw_then ?_)
              refine AWp.ret ?_
              exact Out.pure1 (.inr rfl) rfl (by (simp only [push_cast, ↓reduceIte, Nat.reduceEqDiff, Nat.reduceAdd, Nat.reduceLeDiff, Int.reduceLE, Int.reduceLT, Int.reduceAdd, Int.reduceSub, Int.reduceNeg, Int.reduceBEq, Int.reduceBNe, Int.reduceEq, Int.reduceGT, Int.reduceGE, Int.reduceMul, Int.reduceToNat, Int.reducePow, Nat.reduceMul, reduceCtorEq, h0, h3, h4, q1, q2, q3, hr, Int.toNat_natCast] <;> rfl)) (by rw [hno (by rw [eq_of_beq hx]; decide)]) trivial hk
            · exact AWp.skip (aw_then ⟨by (simp only [push_cast, ↓reduceIte, Nat.reduceEqDiff, Nat.reduceAdd, Nat.reduceLeDiff, Int.reduceLE, Int.reduceLT, Int.reduceAdd, Int.reduceSub, Int.reduceNeg, Int.reduceBEq, Int.reduceBNe, Int.reduceEq, Int.reduceGT, Int.reduceGE, Int.reduceMul, Int.reduceToNat, Int.reducePow, Nat.reduceMul, reduceCtorEq, h0, h3, h4, q1, q2, q3, hr, Int.toNat_natCast] <;> rfl), by (simp only [push_cast, ↓reduceIte, Nat.reduceEqDiff, Nat.reduceAdd, Nat.reduceLeDiff, Int.reduceLE, Int.reduceLT, Int.reduceAdd, Int.reduceSub, Int.reduceNeg, Int.reduceBEq, Int.reduceBNe, Int.reduceEq, Int.reduceGT, Int.reduceGE, Int.reduceMul, Int.reduceToNat, Int.reducePow, Nat.reduceMul, reduceCtorEq, h0, h3, h4, q1, q2, q3, hr, Int.toNat_natCast] <;> rfl), by (simp only [push_cast, ↓reduceIte, Nat.reduceEqDiff, Nat.reduceAdd, Nat.reduceLeDiff, Int.reduceLE, Int.reduceLT, Int.reduceAdd, Int.reduceSub, Int.reduceNeg, Int.reduceBEq, Int.reduceBNe, Int.reduceEq, Int.reduceGT, Int.reduceGE, Int.reduceMul, Int.reduceToNat, Int.reducePow, Nat.reduceMul, reduceCtorEq, h0, h3, h4, q1, q2, q3, hr, Int.toNat_natCast] <;> rfl), by (simp only [push_cast, ↓reduceIte, Nat.reduceEqDiff, Nat.reduceAdd, Nat.reduceLeDiff, Int.reduceLE, Int.reduceLT, Int.reduceAdd, Int.reduceSub, Int.reduceNeg, Int.reduceBEq, Int.reduceBNe, Int.reduceEq, Int.reduceGT, Int.reduceGE, Int.reduceMul, Int.reduceToNat, Int.reducePow, Nat.reduceMul, reduceCtorEq, h0, h3, h4, q1, q2, q3, hr, Int.toNat_natCast] <;> rfl), by simp only [plainN]; rw [decide_eq_true (by omega : ai ≥ 32), decide_eq_true (by omega : ai < 127), bne, hx]; simp, rfl, rfl⟩)
        · rintro t1 h1 n1 - ⟨g0, g3, g4, g6, hpl2, rfl, rfl⟩
          refine AWp.seq ?_
          (refine aw_regionL hS (by kernel_rfl) ?_; repeat (first | apply vr0u | apply vr4 | apply b_tt | apply b_ff | apply b_tf | apply b_ft | apply b_no | exact isD.mk rfl | (apply eqG; (simp only [push_cast, ↓reduceIte, Nat.reduceEqDiff, Nat.reduceAdd, Nat.reduceLeDiff, Int.reduceLE, Int.reduceLT, Int.reduceAdd, Int.reduceSub, Int.reduceNeg, Int.reduceBEq, Int.reduceBNe, Int.reduceEq, Int.reduceGT, Int.reduceGE, Int.reduceMul, Int.reduceToNat, Int.reducePow, Nat.reduceMul, reduceCtorEq, g0, g3, g4, g6, w1, w2] <;> rfl))))
          refine vr_nil (aw_then ?_)
          refine AWp.seq ?_
          (refine aw_regionL hS (by kernel_rfl) ?_; repeat (first | apply vr0u | apply vr4 | apply b_tt | apply b_ff | apply b_tf | apply b_ft | apply b_no | exact isD.mk rfl | (apply eqG; (simp only [push_cast, ↓reduceIte, Nat.reduceEqDiff, Nat.reduceAdd, Nat.reduceLeDiff, Int.reduceLE, Int.reduceLT, Int.reduceAdd, Int.reduceSub, Int.reduceNeg, Int.reduceBEq, Int.reduceBNe, Int.reduceEq, Int.reduceGT, Int.reduceGE, Int.reduceMul, Int.reduceToNat, Int.reducePow, Nat.reduceMul, reduceCtorEq, g0, g3, g4, g6, w1, w2] <;> rfl))))
          refine vr_nil (aw_then ?_)
          refine AWp.seq ?_
          (refine aw_regionL hS (by kernel_rfl) ?_; repeat (first | apply vr0u | apply vr4 | apply b_tt | apply b_ff | apply b_tf | apply b_ft | apply b_no | exact isD.mk rfl | (apply eqG; (simp only [push_cast, ↓reduceIte, Nat.reduceEqDiff, Nat.reduceAdd, Nat.reduceLeDiff, Int.reduceLE, Int.reduceLT, Int.reduceAdd, Int.reduceSub, Int.reduceNeg, Int.reduceBEq, Int.reduceBNe, Int.reduceEq, Int.reduceGT, Int.reduceGE, Int.reduceMul, Int.reduceToNat, Int.reducePow, Nat.reduceMul, reduceCtorEq, g0, g3, g4, g6, w1, w2] <;> rfl))))
          refine vr_nil (aw_then ?_)
          refine aw_split (by (simp only [push_cast, ↓reduceIte, Nat.reduceEqDiff, Nat.reduceAdd, Nat.reduceLeDiff, Int.reduceLE, Int.reduceLT, Int.reduceAdd, Int.reduceSub, Int.reduceNeg, Int.reduceBEq, Int.reduceBNe, Int.reduceEq, Int.reduceGT, Int.reduceGE, Int.reduceMul, Int.reduceToNat, Int.reducePow, Nat.reduceMul, reduceCtorEq, g0, g3, g4, g6, w1, w2] <;> rfl)) (fun hx => ?_) (fun hx => ?_)
          · have hx := of_decide_eq_true hx
            refine AWp.seq ?_
            (refine aw_regionL hS (by kernel_rfl) ?_; repeat (first | apply vr0u | apply vr4 | apply b_tt | apply b_ff | apply b_tf | apply b_ft | apply b_no | exact isD.mk rfl | (apply eqG; (simp only [push_cast, ↓reduceIte, Nat.reduceEqDiff, Nat.reduceAdd, Nat.reduceLeDiff, Int.reduceLE, Int.reduceLT, Int.reduceAdd, Int.reduceSub, Int.reduceNeg, Int.reduceBEq, Int.reduceBNe, Int.reduceEq, Int.reduceGT, Int.reduceGE, Int.reduceMul, Int.reduceToNat, Int.reducePow, Nat.reduceMul, reduceCtorEq, g0, g3, g4, g6, w1, w2] <;> rfl))))
            refine vr_nil (aw_then ?_)
            refine AWp.ret ?_
            exact Out.pure1 (.inr rfl) rfl (by (simp only [push_cast, ↓reduceIte, Nat.reduceEqDiff, Nat.reduceAdd, Nat.reduceLeDiff, Int.reduceLE, Int.reduceLT, Int.reduceAdd, Int.reduceSub, Int.reduceNeg, Int.reduceBEq, Int.reduceBNe, Int.reduceEq, Int.reduceGT, Int.reduceGE, Int.reduceMul, Int.reduceToNat, Int.reducePow, Nat.reduceMul, reduceCtorEq, g0, g3, g4, g6, w1, w2] <;> rfl)) (by rw [hlong (by omega)]) trivial hk
          · have hx := of_decide_eq_false hx
            exact AWp.skip (aw_in (aw_then ⟨s.size - (pos + d), by omega, pos + d, l ++ [(dec ((bs s).drop pos)).1], rfl, hd, by rw [hl, hstep, List.append_assoc]; rfl, by
              intro x hx
              rcases List.mem_append.1 hx with hx | hx
              · exact hpp x hx
              · rw [List.mem_singleton.1 hx, hai]; exact hpl2, by rw [List.length_append, List.length_cons, List.length_nil]; omega, ⟨fun hz => by omega, fun hz => by simp at hz⟩, by (simp only [push_cast, ↓reduceIte, Nat.reduceEqDiff, Nat.reduceAdd, Nat.reduceLeDiff, Int.reduceLE, Int.reduceLT, Int.reduceAdd, Int.reduceSub, Int.reduceNeg, Int.reduceBEq, Int.reduceBNe, Int.reduceEq, Int.reduceGT, Int.reduceGE, Int.reduceMul, Int.reduceToNat, Int.reducePow, Nat.reduceMul, reduceCtorEq, g0, g3, g4, g6, w1, w2] <;> rfl), by rw [List.length_append, List.length_cons, List.length_nil]; (simp only [push_cast, ↓reduceIte, Nat.reduceEqDiff, Nat.reduceAdd, Nat.reduceLeDiff, Int.reduceLE, Int.reduceLT, Int.reduceAdd, Int.reduceSub, Int.reduceNeg, Int.reduceBEq, Int.reduceBNe, Int.reduceEq, Int.reduceGT, Int.reduceGE, Int.reduceMul, Int.reduceToNat, Int.reducePow, Nat.reduceMul, reduceCtorEq, g0, g3, g4, g6, w1, w2] <;> rfl), by (simp only [push_cast, ↓reduceIte, Nat.reduceEqDiff, Nat.reduceAdd, Nat.reduceLeDiff, Int.reduceLE, Int.reduceLT, Int.reduceAdd, Int.reduceSub, Int.reduceNeg, Int.reduceBEq, Int.reduceBNe, Int.reduceEq, Int.reduceGT, Int.reduceGE, Int.reduceMul, Int.reduceToNat, Int.reducePow, Nat.reduceMul, reduceCtorEq, g0, g3, g4, g6, w1, w2] <;> rfl), hk⟩))
    · have q1 : ((pos : Int) < ((s.size : Nat) : Int)) = False := by simp; omega
      have hend := runesL_end hp
      rw [hend, List.append_nil] at hl
      refine AWp.seq ?_
      refine AWp.seq ?_
      (refine aw_regionL hS (by kernel_rfl) ?_; repeat (first | apply vr0u | apply vr4 | apply b_tt | apply b_ff | apply b_tf | apply b_ft | apply b_no | exact isD.mk rfl | (apply eqG; (simp only [push_cast, ↓reduceIte, Nat.reduceEqDiff, Nat.reduceAdd, Nat.reduceLeDiff, Int.reduceLE, Int.reduceLT, Int.reduceAdd, Int.reduceSub, Int.reduceNeg, Int.reduceBEq, Int.reduceBNe, Int.reduceEq, Int.reduceGT, Int.reduceGE, Int.reduceMul, Int.reduceToNat, Int.reducePow, Nat.reduceMul, reduceCtorEq, h0, h3, h4, q1] <;> rfl))))
      refine vr_nil (aw_then ?_)
      refine aw_false (by (simp only [push_cast, ↓reduceIte, Nat.reduceEqDiff, Nat.reduceAdd, Nat.reduceLeDiff, Int.reduceLE, Int.reduceLT, Int.reduceAdd, Int.reduceSub, Int.reduceNeg, Int.reduceBEq, Int.reduceBNe, Int.reduceEq, Int.reduceGT, Int.reduceGE, Int.reduceMul, Int.reduceToNat, Int.reducePow, Nat.reduceMul, reduceCtorEq, h0, h3, h4, q1] <;> rfl)) (AWp.exit (aw_thru (aw_thru (aw_exit (aw_then ?_)))))
      by_cases hln : l = []
      · subst hln
        have h3 : t 3 = .i .i64 0 := h3
        refine AWp.seq ?_
        (refine aw_regionL hS (by kernel_rfl) ?_; repeat (first | apply vr0u | apply vr4 | apply b_tt | apply b_ff | apply b_tf | apply b_ft | apply b_no | exact isD.mk rfl | (apply eqG; (simp only [push_cast, ↓reduceIte, Nat.reduceEqDiff, Nat.reduceAdd, Nat.reduceLeDiff, Int.reduceLE, Int.reduceLT, Int.reduceAdd, Int.reduceSub, Int.reduceNeg, Int.reduceBEq, Int.reduceBNe, Int.reduceEq, Int.reduceGT, Int.reduceGE, Int.reduceMul, Int.reduceToNat, Int.reducePow, Nat.reduceMul, reduceCtorEq, h0, h3, h4] <;> rfl))))
        refine vr_nil (aw_then ?_)
        refine AWp.ret ?_
        exact Out.pure1 (.inr rfl) rfl (by (simp only [push_cast, ↓reduceIte, Nat.reduceEqDiff, Nat.reduceAdd, Nat.reduceLeDiff, Int.reduceLE, Int.reduceLT, Int.reduceAdd, Int.reduceSub, Int.reduceNeg, Int.reduceBEq, Int.reduceBNe, Int.reduceEq, Int.reduceGT, Int.reduceGE, Int.reduceMul, Int.reduceToNat, Int.reducePow, Nat.reduceMul, reduceCtorEq, h0, h3, h4] <;> rfl)) (by rw [hl]; rfl) trivial hk
      · have hl1 : 1 ≤ l.length := List.length_pos_iff.2 hln
        have hsz : 0 < s.size := by
          have : pos ≠ 0 := fun hz => hln (hpz.1 hz)
          omega
        have q3 : ((l.length : Int) > 0) = True := by simp only [eq_iff_iff, iff_true]; omega
        have q4 : ((0 : Int) < ((s.size : Nat) : Int)) = True := by simp; omega
        have w3 : IntKind.wrap .i64 (((s.size : Nat) : Int) - 1) = ((s.size - 1 : Nat) : Int) := by rw [IntWalk.i64_in _ (by omega)]; omega
        have q5 : (0 ≤ ((s.size - 1 : Nat) : Int) ∧ ((s.size - 1 : Nat) : Int) < ((s.size : Nat) : Int)) = True := by simp only [eq_iff_iff, iff_true]; omega
        have b1 : byteAt s 0 = ((bt (bs s) 0 : Nat) : Int) := byteAt_bt s 0
        have b2 := byteAt_bt s (s.size - 1)
        obtain ⟨e1, e2⟩ := ends_32 hsz (by rw [hl]; exact hpp)
        rw [hl] at e1 e2
        have hchk : chkL (runesL s 0) = ((((bt (bs s) 0 : Nat) : Int) != 32) && (((bt (bs s) (s.size - 1) : Nat) : Int) != 32)) := by
          rw [hl, Bool.eq_iff_iff]
          simp only [chkL, Bool.and_eq_true, List.all_eq_true, decide_eq_true_eq, bne_iff_ne, ne_eq, e1, e2]
          constructor
          · intro hh; exact ⟨by omega, by omega⟩
          · intro hh; exact ⟨⟨⟨⟨hpp, hl1⟩, hl24⟩, by omega⟩, by omega⟩
        rw [hchk]
        generalize ((bt (bs s) 0 : Nat) : Int) = y1 at *
        generalize ((bt (bs s) (s.size - 1) : Nat) : Int) = y2 at *
        generalize ((s.size - 1 : Nat) : Int) = sm at *
        refine AWp.seq ?_
        (refine aw_regionL hS (by kernel_rfl) ?_; repeat (first | apply vr0u | apply vr4 | apply b_tt | apply b_ff | apply b_tf | apply b_ft | apply b_no | exact isD.mk rfl | (apply eqG; (simp only [push_cast, ↓reduceIte, Nat.reduceEqDiff, Nat.reduceAdd, Nat.reduceLeDiff, Int.reduceLE, Int.reduceLT, Int.reduceAdd, Int.reduceSub, Int.reduceNeg, Int.reduceBEq, Int.reduceBNe, Int.reduceEq, Int.reduceGT, Int.reduceGE, Int.reduceMul, Int.reduceToNat, Int.reducePow, Nat.reduceMul, reduceCtorEq, h0, h3, h4, q3, q4, q5, w3, b1, b2] <;> rfl))))
        refine br_s (by (simp only [push_cast, ↓reduceIte, Nat.reduceEqDiff, Nat.reduceAdd, Nat.reduceLeDiff, Int.reduceLE, Int.reduceLT, Int.reduceAdd, Int.reduceSub, Int.reduceNeg, Int.reduceBEq, Int.reduceBNe, Int.reduceEq, Int.reduceGT, Int.reduceGE, Int.reduceMul, Int.reduceToNat, Int.reducePow, Nat.reduceMul, reduceCtorEq, h0, h3, h4, q3, q4, q5, w3, b1, b2] <;> rfl)) (fun hu => ?_) (fun hu => ?_)
        · rw [hu]
          repeat (first | apply vr0u | apply vr4 | apply b_tt | apply b_ff | apply b_tf | apply b_ft | apply b_no | exact isD.mk rfl | (apply eqG; (simp only [push_cast, ↓reduceIte, Nat.reduceEqDiff, Nat.reduceAdd, Nat.reduceLeDiff, Int.reduceLE, Int.reduceLT, Int.reduceAdd, Int.reduceSub, Int.reduceNeg, Int.reduceBEq, Int.reduceBNe, Int.reduceEq, Int.reduceGT, Int.reduceGE, Int.reduceMul, Int.reduceToNat, Int.reducePow, Nat.reduceMul, reduceCtorEq, h0, h3, h4, q3, q4, q5, w3, b1, b2] <;> rfl)))
          refine vr_nil (aw_then ?_)
          refine AWp.ret ?_
          exact Out.pure1 (.inr rfl) rfl (by (simp only [push_cast, ↓reduceIte, Nat.reduceEqDiff, Nat.reduceAdd, Nat.reduceLeDiff, Int.reduceLE, Int.reduceLT, Int.reduceAdd, Int.reduceSub, Int.reduceNeg, Int.reduceBEq, Int.reduceBNe, Int.reduceEq, Int.reduceGT, Int.reduceGE, Int.reduceMul, Int.reduceToNat, Int.reducePow, Nat.reduceMul, reduceCtorEq, h0, h3, h4, q3, q4, q5, w3, b1, b2] <;> rfl)) (by rw [Bool.true_and]) trivial hk
        · rw [hu]
          repeat (first | apply vr0u | apply vr4 | apply b_tt | apply b_ff | apply b_tf | apply b_ft | apply b_no | exact isD.mk rfl | (apply eqG; (simp only [push_cast, ↓reduceIte, Nat.reduceEqDiff, Nat.reduceAdd, Nat.reduceLeDiff, Int.reduceLE, Int.reduceLT, Int.reduceAdd, Int.reduceSub, Int.reduceNeg, Int.reduceBEq, Int.reduceBNe, Int.reduceEq, Int.reduceGT, Int.reduceGE, Int.reduceMul, Int.reduceToNat, Int.reducePow, Nat.reduceMul, reduceCtorEq, h0, h3, h4, q3, q4, q5, w3, b1, b2] <;> rfl)))
          refine vr_nil (aw_then ?_)
          refine AWp.ret ?_
          exact Out.pure1 (.inr rfl) rfl (by (simp only [push_cast, ↓reduceIte, Nat.reduceEqDiff, Nat.reduceAdd, Nat.reduceLeDiff, Int.reduceLE, Int.reduceLT, Int.reduceAdd, Int.reduceSub, Int.reduceNeg, Int.reduceBEq, Int.reduceBNe, Int.reduceEq, Int.reduceGT, Int.reduceGE, Int.reduceMul, Int.reduceToNat, Int.reducePow, Nat.reduceMul, reduceCtorEq, h0, h3, h4, q3, q4, q5, w3, b1, b2] <;> rfl)) rfl trivial hk
end Go.Proofs.Ytpgohmcolcfhfaa
