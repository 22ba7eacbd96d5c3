import Derived.Test.YtpgohmcolcfhfaaWkJoin

namespace Go.Proofs.Ytpgohmcolcfhfaa
open Go.Av
set_option maxRecDepth 100000
set_option maxHeartbeats 1000000
set_option linter.unusedSimpArgs false
set_option linter.unusedVariables false
theorem slT_49 : slT Try.prog 49 = some (9, 1, 16) := by kernel_rfl
theorem agT_9 : agT Try.prog 9 = some false := by kernel_rfl
theorem szT_9 : szT Try.prog 9 = some 1 := by kernel_rfl
theorem zeT_9 : zeT Try.prog 9 = some [.s ByteArray.empty] := by kernel_rfl
attribute [local push_cast] stepE callR resE aeff aev ofC ofC1 put_at Av.put_none inTmps List.getD_cons_zero List.getD_cons_succ AV.boxable if_true if_false AV.cells aload place app_cons app_nil upd_same Av.part abin aconv aindexAddr fillA splice_one splice_two abuiltin alen amax amin aun aindex Option.map_some List.map_cons List.map_nil List.nil_append List.append_nil List.cons_append Nat.le_refl Nat.zero_add List.length_cons List.length_nil List.drop_succ_cons List.drop_zero List.take_succ_cons List.take_zero beq_self_eq_true bne_self_eq_false Bool.not_true Bool.not_false List.set_cons_zero List.set_cons_succ Bool.false_eq_true IntWalk.i64_in decide_true decide_false Int.toNat_zero and_self and_true true_and List.getElem?_cons_zero List.getElem?_cons_succ agT_26 szT_26 slT_24 agT_24 szT_24 flT_26_0 flT_26_1 flT_26_3 flT_26_2 agT_22 szT_22 arT_22 agT_3 szT_3 kiT_3 kiT_23 kiT_4 zeT_26 buT_26 zeT_22 buT_22 kiT_9 kiT_51 kiT_5 und_51 slT_51 agT_5 szT_5 aappend aapp view slT_24 zeT_3 byT_24 agT_9 szT_9 zeT_9 slT_49 asliceB aslice amin amax Bool.and_true Bool.true_and Nat.mul_one alen


open Go.Lib (decodeN)
/-! ### what LabelBytes asks, in plain words -/
theorem chop_drop {l : List UInt8} (h : ∀ c ∈ chop l, strong c) (n : Nat) : chop ((chop l).drop n).flatten = (chop l).drop n := by
  have h1 : l = ((chop l).take n).flatten ++ ((chop l).drop n).flatten := by rw [← List.flatten_append, List.take_append_drop, chop_flatten]
  have h2 := chop_app (a := ((chop l).take n).flatten) ((chop l).drop n).flatten (by
    rw [chop_take]
    exact fun c hc => h c (List.mem_of_mem_take hc))
  rw [← h1, chop_take] at h2
  have h3 := List.take_append_drop n (chop l)
  exact List.append_cancel_left (h2.symm.trans h3.symm)
/-- Behind good runes no rune's byte goes on. -/
theorem bt_good {l : List UInt8} (h : strong l) : ¬ bt l 0 / 64 = 2 := by
  rcases h with h | h
  · intro hc
    have : dec l = (65533, 1) := by
      unfold dec decodeN
      rw [if_neg (by omega), if_neg (by omega), if_neg (by omega), if_neg (by omega)]
    rw [this] at h
    exact absurd h (by decide)
  · omega
theorem chop_cut1 {c rest : List UInt8} {r : Nat} (h : dec (c ++ rest) = (r, c.length)) (hc : c ≠ []) : chop (c ++ rest) = c :: chop rest := by
  rw [chop_cons (by simp [hc]), h, List.take_left' rfl, List.drop_left' rfl]
theorem dec_bad {b : UInt8} (l : List UInt8) (h : b.toNat / 64 = 2 ∨ 248 ≤ b.toNat) : dec (b :: l) = (65533, 1) := by
  have h0 : bt (b :: l) 0 = b.toNat := rfl
  unfold dec decodeN
  rw [h0, if_neg (by omega), if_neg (by omega), if_neg (by omega), if_neg (by omega)]
theorem chop_bad {b : UInt8} (l : List UInt8) (h : b.toNat / 64 = 2 ∨ 248 ≤ b.toNat) : chop (b :: l) = [b] :: chop l := by
  have := chop_cut1 (c := [b]) (rest := l) (r := 65533) (by simpa using dec_bad l h) (by simp)
  simpa using this
theorem rn_bad {b : UInt8} (h : b.toNat / 64 = 2 ∨ 248 ≤ b.toNat) : rn [b] = 65533 := by rw [rn, dec_bad [] h]
def bads : List ByteArray := [{ data := #[128] }, { data := #[192, 128] }, { data := #[237, 160, 128] }, { data := #[244, 144, 128, 128] }, { data := #[255] }, { data := #[0] }, { data := #[31] }, { data := #[127] }, { data := #[194, 133] }, { data := #[194, 159] }, { data := #[239, 191, 189] }, { data := #[228, 184] }]
/-- A text that begins with what may not be. -/
def spoilt (l : List UInt8) (m : Nat) : Prop := ∃ c cs, chop l = c :: cs ∧ plainN (rn c) = false ∧ m ≤ cs.length
theorem spoilt_strong {b : List UInt8} (R : List UInt8) {c : List UInt8} (hb : chop b = [c]) (hs : strong c) (hp : plainN (rn c) = false) : spoilt (b ++ R) (chop R).length := by
  refine ⟨c, chop R, ?_, hp, Nat.le_refl _⟩
  rw [chop_app R (by rw [hb]; intro d hd; rw [List.mem_singleton.1 hd]; exact hs), hb]
  rfl
theorem spoilt_all (R : List UInt8) (hR : R = [] ∨ strong R) (b : ByteArray) (hb : b ∈ bads) : spoilt (bs b ++ R) (chop R).length := by
  simp only [bads, List.mem_cons, List.not_mem_nil, or_false] at hb
  have e1 : ∀ b : UInt8, (b.toNat / 64 = 2 ∨ 248 ≤ b.toNat) → plainN (rn [b]) = false := fun b h => by rw [rn_bad h]; decide
  have c1 : ∀ (b : UInt8) l, (b.toNat / 64 = 2 ∨ 248 ≤ b.toNat) → chop (b :: l) = [b] :: chop l := fun b l h => chop_bad l h
  have two : ∀ (b : UInt8) (l : List UInt8), dec (b :: l) = (65533, 1) → chop (b :: l) = [b] :: chop l := fun b l h => by
    have := chop_cut1 (c := [b]) (rest := l) (r := 65533) (by simpa using h) (by simp)
    simpa using this
  rcases hb with rfl | rfl | rfl | rfl | rfl | rfl | rfl | rfl | rfl | rfl | rfl | rfl
  · exact ⟨[128], chop R, c1 _ _ (by decide), e1 _ (by decide), Nat.le_refl _⟩
  · refine ⟨[192], [128] :: chop R, ?_, ?_, by simp only [List.length_cons]; omega⟩
    · show chop (192 :: 128 :: R) = _
      rw [two 192 (128 :: R) (by simp [dec, decodeN, bt]), c1 128 R (by decide)]
    · decide +kernel
  · refine ⟨[237], [160] :: [128] :: chop R, ?_, ?_, by simp only [List.length_cons]; omega⟩
    · show chop (237 :: 160 :: 128 :: R) = _
      rw [two 237 _ (by simp [dec, decodeN, bt]), c1 160 _ (by decide), c1 128 R (by decide)]
    · decide +kernel
  · refine ⟨[244], [144] :: [128] :: [128] :: chop R, ?_, ?_, by simp only [List.length_cons]; omega⟩
    · show chop (244 :: 144 :: 128 :: 128 :: R) = _
      rw [two 244 _ (by simp [dec, decodeN, bt]), c1 144 _ (by decide), c1 128 _ (by decide), c1 128 R (by decide)]
    · decide +kernel
  · exact ⟨[255], chop R, c1 _ _ (by decide), e1 _ (by decide), Nat.le_refl _⟩
  · exact spoilt_strong R (c := [0]) (by decide +kernel) (.inr (by decide)) (by decide +kernel)
  · exact spoilt_strong R (c := [31]) (by decide +kernel) (.inr (by decide)) (by decide +kernel)
  · exact spoilt_strong R (c := [127]) (by decide +kernel) (.inr (by decide)) (by decide +kernel)
  · exact spoilt_strong R (c := [194, 133]) (by decide +kernel) (.inl (by decide +kernel)) (by decide +kernel)
  · exact spoilt_strong R (c := [194, 159]) (by decide +kernel) (.inl (by decide +kernel)) (by decide +kernel)
  · exact spoilt_strong R (c := [239, 191, 189]) (by decide +kernel) (.inl (by decide +kernel)) (by decide +kernel)
  · refine ⟨[228], [184] :: chop R, ?_, ?_, by simp only [List.length_cons]; omega⟩
    · show chop (228 :: 184 :: R) = _
      rw [two 228 _ ?_, c1 184 R (by decide)]
      have hb2 : ¬ (2 < (228 :: 184 :: R).length ∧ bt (228 :: 184 :: R) 2 / 64 = 2) := by
        rcases hR with rfl | hR
        · simp
        · have := bt_good hR
          have e : bt (228 :: 184 :: R) 2 = bt R 0 := rfl
          rw [e]; exact fun h => this h.2
      have h0 : bt (228 :: 184 :: R) 0 = 228 := rfl
      unfold dec decodeN
      rw [h0, if_neg (by omega), if_neg (by omega), if_neg (fun h => hb2 h.2.2), if_neg (by omega)]
    · decide +kernel
theorem bs_extract2 (s : ByteArray) (q : Nat) : bs (s.extract q s.size) = (bs s).drop q := by
  have : s.data.toList.length = s.size := by simp
  simp only [bs, ByteArray.data_extract, Array.toList_extract, List.extract_eq_drop_take']
  rw [List.take_of_length_le (by omega)]
/-- The spoilt text is no label, and has more runes. -/
theorem bytes_law {s : ByteArray} (hA : chkL (runesL s 0) = true) {k : Nat} (hk : k ≤ runesFrom s 0) {b : ByteArray} (hb : b ∈ bads) :
    chkL (runesL (cutS s k ++ b ++ s.extract (cutS s k).size s.size) 0) = false ∧ runesFrom s 0 < runesFrom (cutS s k ++ b ++ s.extract (cutS s k).size s.size) 0 := by
  have hst := chk_strong hA
  have hcs : ((cutS s k).size) = ((chop (bs s)).take k).flatten.length := by rw [← bs_size, cut_chop, Int.toNat_natCast]
  have hR : bs (s.extract (cutS s k).size s.size) = ((chop (bs s)).drop k).flatten := by
    rw [bs_extract2, hcs]
    have h1 : bs s = ((chop (bs s)).take k).flatten ++ ((chop (bs s)).drop k).flatten := by rw [← List.flatten_append, List.take_append_drop, chop_flatten]
    conv => lhs; arg 2; rw [h1]
    rw [List.drop_left' rfl]
  have hcR := chop_drop hst k
  have hRs : ((chop (bs s)).drop k).flatten = [] ∨ strong ((chop (bs s)).drop k).flatten := by
    by_cases he : ((chop (bs s)).drop k).flatten = []
    · exact .inl he
    · right
      have h1 := chop_cons he
      rw [hcR] at h1
      have h2 : strong (((chop (bs s)).drop k).flatten.take (dec ((chop (bs s)).drop k).flatten).2) := by
        have hm := List.mem_cons_self (a := ((chop (bs s)).drop k).flatten.take (dec ((chop (bs s)).drop k).flatten).2) (l := chop (((chop (bs s)).drop k).flatten.drop (dec ((chop (bs s)).drop k).flatten).2))
        rw [← h1] at hm
        exact hst _ (List.mem_of_mem_drop hm)
      have hd := dec_le he
      have hp := dec_pos ((chop (bs s)).drop k).flatten
      unfold strong at h2 ⊢
      rw [dec_take he] at h2
      have h3 := bt_app (((chop (bs s)).drop k).flatten.take (dec ((chop (bs s)).drop k).flatten).2) (((chop (bs s)).drop k).flatten.drop (dec ((chop (bs s)).drop k).flatten).2) (k := 0) (by rw [List.length_take]; omega)
      rw [List.take_append_drop] at h3
      rw [h3]; exact h2
  obtain ⟨c, cs, hc, hp, hl⟩ := spoilt_all _ hRs b hb
  have ht : chop (bs (cutS s k ++ b ++ s.extract (cutS s k).size s.size)) = (chop (bs s)).take k ++ c :: cs := by
    rw [bs_app, bs_app, hR, List.append_assoc, chop_app _ (by rw [chop_cut]; exact fun c hc => hst c (List.mem_of_mem_take hc)), chop_cut, Int.toNat_natCast, hc]
  constructor
  · rw [runesL_all, ht]
    cases hx : chkL (((chop (bs s)).take k ++ c :: cs).map rn)
    · rfl
    · simp only [chkL, Bool.and_eq_true, List.all_eq_true] at hx
      have := hx.1.1.1.1 (rn c) (List.mem_map_of_mem (by simp))
      rw [hp] at this; cases this
  · rw [hcR, List.length_drop] at hl
    rw [runes_all, runes_all, ht]
    rw [runes_all] at hk
    simp only [List.length_append, List.length_take, List.length_cons]
    omega
theorem rem_u (y r : Int) (h0 : 0 < r) (hr : r ≤ 1000000) : ∃ k : Nat, IntKind.wrap .i64 ((IntKind.wrap .u64 y).tmod r) = (k : Int) ∧ (k : Int) < r := by
  have h1 : 0 ≤ IntKind.wrap .u64 y := by rw [IntKind.wrap_u64]; omega
  have h2 : 0 ≤ (IntKind.wrap .u64 y).tmod r := Int.tmod_nonneg _ h1
  have h3 : (IntKind.wrap .u64 y).tmod r < r := Int.tmod_lt_of_pos _ h0
  rw [IntWalk.i64_in _ (by omega)]
  exact ⟨((IntKind.wrap .u64 y).tmod r).toNat, by omega, by omega⟩
theorem c11 (s : ByteArray) (x y : Int) : ∀ h n, DCalls Try.prog 11 [.s s, .i .i64 x, .i .i64 y] h n (.b true) [] n := by
  intro h n
  have hS := ok_M7
  refine DCalls.of Try.func11 rfl (by decide) (Nat.le_of_ble_eq_true rfl) (Nat.le_refl _) ?_
  refine AWp.seq ?_
  (refine aw_regionL hS (by kernel_rfl) ?_; repeat (first | apply vr0u | apply vr4 | apply b_tt | apply b_ff | apply b_tf | apply b_ft | apply b_no | exact isD.mk rfl | (apply eqG; (simp only [push_cast, ↓reduceIte, Nat.reduceEqDiff, Nat.reduceAdd, Nat.reduceLeDiff, Int.reduceLE, Int.reduceLT, Int.reduceAdd, Int.reduceSub, Int.reduceNeg, Int.reduceBEq, Int.reduceBNe, Int.reduceEq, Int.reduceGT, Int.reduceGE, Int.reduceMul, Int.reduceToNat, Nat.reduceMul, reduceCtorEq] <;> rfl))))
  refine vr_nil (aw_then ?_)
  refine AWp.seq ?_
  refine AWp.seq ?_
  (refine aw_regionL hS (by kernel_rfl) ?_; repeat (first | apply vr0u | apply vr4 | apply b_tt | apply b_ff | apply b_tf | apply b_ft | apply b_no | exact isD.mk rfl | (apply eqG; (simp only [push_cast, ↓reduceIte, Nat.reduceEqDiff, Nat.reduceAdd, Nat.reduceLeDiff, Int.reduceLE, Int.reduceLT, Int.reduceAdd, Int.reduceSub, Int.reduceNeg, Int.reduceBEq, Int.reduceBNe, Int.reduceEq, Int.reduceGT, Int.reduceGE, Int.reduceMul, Int.reduceToNat, Nat.reduceMul, reduceCtorEq] <;> rfl))))
  refine br_s (by (simp only [push_cast, ↓reduceIte, Nat.reduceEqDiff, Nat.reduceAdd, Nat.reduceLeDiff, Int.reduceLE, Int.reduceLT, Int.reduceAdd, Int.reduceSub, Int.reduceNeg, Int.reduceBEq, Int.reduceBNe, Int.reduceEq, Int.reduceGT, Int.reduceGE, Int.reduceMul, Int.reduceToNat, Nat.reduceMul, reduceCtorEq] <;> rfl)) (fun hu => ?_) (fun hu => ?_)
  · repeat (first | apply vr0u | apply vr4 | apply b_tt | apply b_ff | apply b_tf | apply b_ft | apply b_no | exact isD.mk rfl | (apply eqG; (simp only [push_cast, ↓reduceIte, Nat.reduceEqDiff, Nat.reduceAdd, Nat.reduceLeDiff, Int.reduceLE, Int.reduceLT, Int.reduceAdd, Int.reduceSub, Int.reduceNeg, Int.reduceBEq, Int.reduceBNe, Int.reduceEq, Int.reduceGT, Int.reduceGE, Int.reduceMul, Int.reduceToNat, Nat.reduceMul, reduceCtorEq] <;> rfl)))
    refine vr_nil (aw_then ?_)
    refine aw_true (by (simp only [push_cast, ↓reduceIte, Nat.reduceEqDiff, Nat.reduceAdd, Nat.reduceLeDiff, Int.reduceLE, Int.reduceLT, Int.reduceAdd, Int.reduceSub, Int.reduceNeg, Int.reduceBEq, Int.reduceBNe, Int.reduceEq, Int.reduceGT, Int.reduceGE, Int.reduceMul, Int.reduceToNat, Nat.reduceMul, reduceCtorEq] <;> rfl)) ?_
    refine AWp.seq ?_
    (refine aw_regionL hS (by kernel_rfl) ?_; repeat (first | apply vr0u | apply vr4 | apply b_tt | apply b_ff | apply b_tf | apply b_ft | apply b_no | exact isD.mk rfl | (apply eqG; (simp only [push_cast, ↓reduceIte, Nat.reduceEqDiff, Nat.reduceAdd, Nat.reduceLeDiff, Int.reduceLE, Int.reduceLT, Int.reduceAdd, Int.reduceSub, Int.reduceNeg, Int.reduceBEq, Int.reduceBNe, Int.reduceEq, Int.reduceGT, Int.reduceGE, Int.reduceMul, Int.reduceToNat, Nat.reduceMul, reduceCtorEq] <;> rfl))))
    refine vr_nil (aw_then ?_)
    refine AWp.ret ?_
    exact Out.pure1 (.inr rfl) rfl (by (simp only [push_cast, ↓reduceIte, Nat.reduceEqDiff, Nat.reduceAdd, Nat.reduceLeDiff, Int.reduceLE, Int.reduceLT, Int.reduceAdd, Int.reduceSub, Int.reduceNeg, Int.reduceBEq, Int.reduceBNe, Int.reduceEq, Int.reduceGT, Int.reduceGE, Int.reduceMul, Int.reduceToNat, Nat.reduceMul, reduceCtorEq] <;> rfl)) rfl trivial keep0
  have u0 := of_decide_eq_false hu; clear hu
  have z0 : s.size ≤ 500 := by omega
  cases hA : chkL (runesL s 0)
  · have fA : ∀ h, M7 24 [.s s] h = .pure (.i .i64 8) := fun h => by rw [mt24 s h (by omega), hA]; rfl
    repeat (first | apply vr0u | apply vr4 | apply b_tt | apply b_ff | apply b_tf | apply b_ft | apply b_no | exact isD.mk rfl | (apply eqG; (simp only [push_cast, ↓reduceIte, Nat.reduceEqDiff, Nat.reduceAdd, Nat.reduceLeDiff, Int.reduceLE, Int.reduceLT, Int.reduceAdd, Int.reduceSub, Int.reduceNeg, Int.reduceBEq, Int.reduceBNe, Int.reduceEq, Int.reduceGT, Int.reduceGE, Int.reduceMul, Int.reduceToNat, Nat.reduceMul, reduceCtorEq, fA] <;> rfl)))
    refine vr_nil (aw_then ?_)
    refine aw_true (by (simp only [push_cast, ↓reduceIte, Nat.reduceEqDiff, Nat.reduceAdd, Nat.reduceLeDiff, Int.reduceLE, Int.reduceLT, Int.reduceAdd, Int.reduceSub, Int.reduceNeg, Int.reduceBEq, Int.reduceBNe, Int.reduceEq, Int.reduceGT, Int.reduceGE, Int.reduceMul, Int.reduceToNat, Nat.reduceMul, reduceCtorEq, fA] <;> rfl)) ?_
    refine AWp.seq ?_
    (refine aw_regionL hS (by kernel_rfl) ?_; repeat (first | apply vr0u | apply vr4 | apply b_tt | apply b_ff | apply b_tf | apply b_ft | apply b_no | exact isD.mk rfl | (apply eqG; (simp only [push_cast, ↓reduceIte, Nat.reduceEqDiff, Nat.reduceAdd, Nat.reduceLeDiff, Int.reduceLE, Int.reduceLT, Int.reduceAdd, Int.reduceSub, Int.reduceNeg, Int.reduceBEq, Int.reduceBNe, Int.reduceEq, Int.reduceGT, Int.reduceGE, Int.reduceMul, Int.reduceToNat, Nat.reduceMul, reduceCtorEq, fA] <;> rfl))))
    refine vr_nil (aw_then ?_)
    refine AWp.ret ?_
    exact Out.pure1 (.inr rfl) rfl (by (simp only [push_cast, ↓reduceIte, Nat.reduceEqDiff, Nat.reduceAdd, Nat.reduceLeDiff, Int.reduceLE, Int.reduceLT, Int.reduceAdd, Int.reduceSub, Int.reduceNeg, Int.reduceBEq, Int.reduceBNe, Int.reduceEq, Int.reduceGT, Int.reduceGE, Int.reduceMul, Int.reduceToNat, Nat.reduceMul, reduceCtorEq, fA] <;> rfl)) rfl trivial keep0
  have fA : ∀ h, M7 24 [.s s] h = .pure (.i .i64 0) := fun h => by rw [mt24 s h (by omega), hA]; rfl
  repeat (first | apply vr0u | apply vr4 | apply b_tt | apply b_ff | apply b_tf | apply b_ft | apply b_no | exact isD.mk rfl | (apply eqG; (simp only [push_cast, ↓reduceIte, Nat.reduceEqDiff, Nat.reduceAdd, Nat.reduceLeDiff, Int.reduceLE, Int.reduceLT, Int.reduceAdd, Int.reduceSub, Int.reduceNeg, Int.reduceBEq, Int.reduceBNe, Int.reduceEq, Int.reduceGT, Int.reduceGE, Int.reduceMul, Int.reduceToNat, Nat.reduceMul, reduceCtorEq, fA] <;> rfl)))
  refine vr_nil (aw_then ?_)
  refine aw_false (by (simp only [push_cast, ↓reduceIte, Nat.reduceEqDiff, Nat.reduceAdd, Nat.reduceLeDiff, Int.reduceLE, Int.reduceLT, Int.reduceAdd, Int.reduceSub, Int.reduceNeg, Int.reduceBEq, Int.reduceBNe, Int.reduceEq, Int.reduceGT, Int.reduceGE, Int.reduceMul, Int.reduceToNat, Nat.reduceMul, reduceCtorEq, fA] <;> rfl)) (AWp.skip (aw_then ?_))
  have rs := runes_le s
  obtain ⟨k, hk, hkl⟩ := rem_u x ((runesFrom s 0 : Nat) + 1) (by omega) (by omega)
  obtain ⟨j, hj, hjl⟩ := rem_u y 12 (by decide) (by decide)
  have hb : ∃ b, [AV.s { data := #[128] }, AV.s { data := #[192, 128] }, AV.s { data := #[237, 160, 128] }, AV.s { data := #[244, 144, 128, 128] }, AV.s { data := #[255] }, AV.s { data := #[0] }, AV.s { data := #[31] }, AV.s { data := #[127] }, AV.s { data := #[194, 133] }, AV.s { data := #[194, 159] }, AV.s { data := #[239, 191, 189] }, AV.s { data := #[228, 184] }][j]? = some (.s b) ∧ b ∈ bads := by
    have hl : j < bads.length := by simp only [bads, List.length_cons, List.length_nil]; omega
    refine ⟨bads[j], ?_, List.getElem_mem hl⟩
    have : (bads.map AV.s)[j]? = some (.s bads[j]) := by simp [hl]
    exact this
  obtain ⟨b, hb, hbm⟩ := hb
  have hbz : b.size ≤ 4 := by
    simp only [bads, List.mem_cons, List.not_mem_nil, or_false] at hbm
    rcases hbm with rfl | rfl | rfl | rfl | rfl | rfl | rfl | rfl | rfl | rfl | rfl | rfl <;> decide
  obtain ⟨l1, l2⟩ := bytes_law hA (k := k) (by omega) hbm
  have hcl := cutS_le s k
  have ze : (s.extract (cutS s k).size s.size).size ≤ 500 := by simp; omega
  have zt : (cutS s k ++ b ++ s.extract (cutS s k).size s.size).size ≤ 5000 := by rw [size_app, size_app]; omega
  have g1 : ∀ h, M7 23 [.s s] h = .pure (.i .i64 (runesFrom s 0 : Nat)) := fun h => mt23 s h (by omega)
  have g2 : ∀ h, M7 31 [.s s, .i .i64 (k : Int)] h = .pure (.s (cutS s k)) := fun h => mt31 s _ h (by omega) (by omega)
  have g3 : ∀ h, M7 24 [.s (cutS s k ++ b ++ s.extract (cutS s k).size s.size)] h = .pure (.i .i64 8) := fun h => by rw [mt24 _ h zt, l1]; rfl
  have g4 : ∀ h, M7 23 [.s (cutS s k ++ b ++ s.extract (cutS s k).size s.size)] h = .pure (.i .i64 (runesFrom (cutS s k ++ b ++ s.extract (cutS s k).size s.size) 0 : Nat)) := fun h => mt23 _ h zt
  have w1 : IntKind.wrap .i64 ((runesFrom s 0 : Nat) + 1) = (runesFrom s 0 : Nat) + 1 := IntWalk.i64_in _ (by omega)
  have w2 : IntKind.wrap .u64 ((runesFrom s 0 : Nat) + 1) = (runesFrom s 0 : Nat) + 1 := by rw [IntKind.wrap_u64]; omega
  have w3 : IntKind.wrap .u64 12 = 12 := by decide +kernel
  have w4 : IntKind.wrap .u64 ((12 : Nat) : Int) = 12 := by decide +kernel
  have p1 : ((runesFrom s 0 : Int) + 1 = 0) = False := by simp; omega
  have p2 : (0 ≤ (j : Int) ∧ (j : Int) < ((12 : Nat) : Int)) = True := by simp; omega
  have p2' : (0 ≤ (j : Int) ∧ (j : Int) < 12) = True := by simp; omega
  have p3 : ((cutS s k).size + b.size ≤ 9223372036854775807) = True := by simp; omega
  have p4 : ((cutS s k ++ b).size + (s.extract (cutS s k).size s.size).size ≤ 9223372036854775807) = True := by
    rw [size_app]; simp only [eq_iff_iff, iff_true]; omega
  have p5 : (0 ≤ ((cutS s k).size : Int) ∧ ((cutS s k).size : Int) ≤ ((s.size : Nat) : Int)) = True := by simp; omega
  have p6 : (((runesFrom (cutS s k ++ b ++ s.extract (cutS s k).size s.size) 0 : Nat) : Int) > (runesFrom s 0 : Nat)) = True := by simp; omega
  generalize hc : cutS s k = c at *
  have r12 : rep 12 [AV.s ByteArray.empty] = [AV.s ByteArray.empty, AV.s ByteArray.empty, AV.s ByteArray.empty, AV.s ByteArray.empty, AV.s ByteArray.empty, AV.s ByteArray.empty, AV.s ByteArray.empty, AV.s ByteArray.empty, AV.s ByteArray.empty, AV.s ByteArray.empty, AV.s ByteArray.empty, AV.s ByteArray.empty] := rfl
  refine AWp.seq ?_
  (refine aw_regionL hS (by kernel_rfl) ?_; repeat (first | apply vr0u | apply vr4 | apply b_tt | apply b_ff | apply b_tf | apply b_ft | apply b_no | exact isD.mk rfl | (apply eqG; (simp only [push_cast, ↓reduceIte, Nat.reduceEqDiff, Nat.reduceAdd, Nat.reduceLeDiff, Int.reduceLE, Int.reduceLT, Int.reduceAdd, Int.reduceSub, Int.reduceNeg, Int.reduceBEq, Int.reduceBNe, Int.reduceEq, Int.reduceGT, Int.reduceGE, Int.reduceMul, Int.reduceToNat, Nat.reduceMul, reduceCtorEq, g1, g2, g3, g4, w1, w2, w3, w4, p1, p2, p2', p3, p4, p5, p6, hk, hj, hb, Int.toNat_natCast, mt25, Nat.reduceLT, r12, Option.map_none] <;> rfl))))
  refine vr_nil (aw_then ?_)
  refine AWp.seq ?_
  (refine aw_regionL hS (by kernel_rfl) ?_; repeat (first | apply vr0u | apply vr4 | apply b_tt | apply b_ff | apply b_tf | apply b_ft | apply b_no | exact isD.mk rfl | (apply eqG; (simp only [push_cast, ↓reduceIte, Nat.reduceEqDiff, Nat.reduceAdd, Nat.reduceLeDiff, Int.reduceLE, Int.reduceLT, Int.reduceAdd, Int.reduceSub, Int.reduceNeg, Int.reduceBEq, Int.reduceBNe, Int.reduceEq, Int.reduceGT, Int.reduceGE, Int.reduceMul, Int.reduceToNat, Nat.reduceMul, reduceCtorEq, g1, g2, g3, g4, w1, w2, w3, w4, p1, p2, p2', p3, p4, p5, p6, hk, hj, hb, Int.toNat_natCast, mt25, Nat.reduceLT, r12, Option.map_none] <;> rfl))))
  refine vr_nil (aw_then ?_)
  refine AWp.seq ?_
  refine aw_drawsL [0, 0, 0, 4, 0, 16, 48, 124, 252, 510, 1022, 2047, 0, 0, 8192, 28672, 65535, 131071] [] hS mixed (by kernel_rfl) (by kernel_rfl) ?_
  repeat (first | (apply vd0; (focus rfl)) | (apply vd0r; (focus rfl); (focus decide); (focus rfl)) | (apply vd0p; (focus decide)) | apply vd4 | apply b_tt | apply b_ff | apply b_tf | apply b_ft | apply b_no | exact isD.mk rfl | ((repeat (first | rw [hpL_t rfl] | rw [hpL_f rfl])); simp only [hpL, app_cons, app_nil] <;> rfl) | (apply eqG; (simp only [push_cast, ↓reduceIte, Nat.reduceEqDiff, Nat.reduceAdd, Nat.reduceLeDiff, Int.reduceLE, Int.reduceLT, Int.reduceAdd, Int.reduceSub, Int.reduceNeg, Int.reduceBEq, Int.reduceBNe, Int.reduceEq, Int.reduceGT, Int.reduceGE, Int.reduceMul, Int.reduceToNat, Nat.reduceMul, reduceCtorEq, g1, g2, g3, g4, w1, w2, w3, w4, p1, p2, p2', p3, p4, p5, p6, hk, hj, hb, Int.toNat_natCast, mt25, Nat.reduceLT, r12, Option.map_none] <;> rfl)))
  (refine vd_nil (by simp only [hpL, app_cons, app_nil, if_true] <;> rfl) ?_)
  refine aw_then ?_
  refine AWp.seq ?_
  (refine aw_regionL hS (by kernel_rfl) ?_; repeat (first | apply vr0u | apply vr4 | apply b_tt | apply b_ff | apply b_tf | apply b_ft | apply b_no | exact isD.mk rfl | (apply eqG; (simp only [push_cast, ↓reduceIte, Nat.reduceEqDiff, Nat.reduceAdd, Nat.reduceLeDiff, Int.reduceLE, Int.reduceLT, Int.reduceAdd, Int.reduceSub, Int.reduceNeg, Int.reduceBEq, Int.reduceBNe, Int.reduceEq, Int.reduceGT, Int.reduceGE, Int.reduceMul, Int.reduceToNat, Nat.reduceMul, reduceCtorEq, g1, g2, g3, g4, w1, w2, w3, w4, p1, p2, p2', p3, p4, p5, p6, hk, hj, hb, Int.toNat_natCast, mt25, Nat.reduceLT, r12, Option.map_none] <;> rfl))))
  refine vr_nil (aw_then ?_)
  refine AWp.ret ?_
  exact Out.pure1 (.inr rfl) rfl (by (simp only [push_cast, ↓reduceIte, Nat.reduceEqDiff, Nat.reduceAdd, Nat.reduceLeDiff, Int.reduceLE, Int.reduceLT, Int.reduceAdd, Int.reduceSub, Int.reduceNeg, Int.reduceBEq, Int.reduceBNe, Int.reduceEq, Int.reduceGT, Int.reduceGE, Int.reduceMul, Int.reduceToNat, Nat.reduceMul, reduceCtorEq, g1, g2, g3, g4, w1, w2, w3, w4, p1, p2, p2', p3, p4, p5, p6, hk, hj, hb, Int.toNat_natCast, mt25, Nat.reduceLT, r12, Option.map_none] <;> rfl)) rfl trivial (keepU (Nat.le_refl _) keep0)
end Go.Proofs.Ytpgohmcolcfhfaa
