import Derived.Test.YtpgohmcolcfhfaaWkEnc

namespace Go.Proofs.Ytpgohmcolcfhfaa
open Go.Av
set_option maxRecDepth 100000
set_option maxHeartbeats 1000000
set_option linter.unusedSimpArgs false
set_option linter.unusedVariables false
attribute [local push_cast] stepE callR resE aeff aev ofC ofC1 put_at Av.put_none inTmps List.getD_cons_zero List.getD_cons_succ AV.boxable if_true if_false AV.cells aload place app_cons app_nil upd_same Av.part abin aconv aindexAddr fillA splice_one splice_two abuiltin alen amax amin aun aindex Option.map_some List.map_cons List.map_nil List.nil_append List.append_nil List.cons_append Nat.le_refl Nat.zero_add List.length_cons List.length_nil List.drop_succ_cons List.drop_zero List.take_succ_cons List.take_zero beq_self_eq_true bne_self_eq_false Bool.not_true Bool.not_false List.set_cons_zero List.set_cons_succ Bool.false_eq_true IntWalk.i64_in decide_true decide_false Int.toNat_zero and_self and_true true_and List.getElem?_cons_zero List.getElem?_cons_succ agT_26 szT_26 slT_24 agT_24 szT_24 flT_26_0 flT_26_1 flT_26_3 flT_26_2 agT_22 szT_22 arT_22 agT_3 szT_3 kiT_3 kiT_23 kiT_4 zeT_26 buT_26 zeT_22 buT_22 kiT_9 kiT_51 kiT_5 und_51 slT_51 agT_5 szT_5 aappend aapp view slT_24 zeT_3 byT_24 agT_9 szT_9 zeT_9 slT_39 agT_21 szT_21 kiT_21 asliceB aslice amin amax Bool.and_true Bool.true_and Nat.mul_one alen


open Go.Lib (decodeN)
/-! ### the page's way to tell a rune -/
theorem and31 : ∀ c : Fin 256, Av.bits .and .i64 ((c.val : Nat) : Int) 31 = ((c.val % 32 : Nat) : Int) := by decide +kernel
theorem and15 : ∀ c : Fin 256, Av.bits .and .i64 ((c.val : Nat) : Int) 15 = ((c.val % 16 : Nat) : Int) := by decide +kernel
theorem and7 : ∀ c : Fin 256, Av.bits .and .i64 ((c.val : Nat) : Int) 7 = ((c.val % 8 : Nat) : Int) := by decide +kernel
theorem and192 : ∀ c : Fin 256, Av.bits .and .u8 ((c.val : Nat) : Int) 192 = ((c.val / 64 * 64 : Nat) : Int) := by decide +kernel
theorem and63 : ∀ c : Fin 256, Av.bits .and .u8 ((c.val : Nat) : Int) 63 = ((c.val % 64 : Nat) : Int) := by decide +kernel
theorem or64 (x y : Nat) (hx : x < 1099511627776) (hy : y < 64) : Av.bits .or .i64 ((x * 64 : Nat) : Int) ((y : Nat) : Int) = ((x * 64 + y : Nat) : Int) := by
  have e1 : (BitVec.ofInt 64 ((x * 64 : Nat) : Int)).toNat = x * 64 := by rw [BitVec.ofInt_natCast, BitVec.toNat_ofNat]; omega
  have e2 : (BitVec.ofInt 64 ((y : Nat) : Int)).toNat = y := by rw [BitVec.ofInt_natCast, BitVec.toNat_ofNat]; omega
  have e3 : (x * 64) ||| y = x * 64 + y := by
    have := Nat.shiftLeft_add_eq_or_of_lt (b := y) (i := 6) (by simpa using hy) x
    rw [Nat.shiftLeft_eq] at this
    exact this.symm
  show IntKind.wrap .i64 (((BitVec.ofInt 64 ((x * 64 : Nat) : Int) ||| BitVec.ofInt 64 ((y : Nat) : Int)).toNat : Nat) : Int) = _
  rw [BitVec.toNat_or, e1, e2, e3]
  exact IntWalk.i64_in _ (by omega)
theorem bt_lt (l : List UInt8) (k : Nat) : bt l k < 256 := UInt8.toNat_lt _
/-- The rune at the beginning, and its bytes; nothing, where there is none. -/
def r1 (l : List UInt8) : Nat × Nat := if 128 ≤ bt l 0 ∧ (dec l).2 ≤ 1 then (0, 0) else dec l
def lead (c n c0 least : Nat) : Prop := (192 ≤ c ∧ c < 224 ∧ n = 2 ∧ c0 = c % 32 ∧ least = 128) ∨ (224 ≤ c ∧ c < 240 ∧ n = 3 ∧ c0 = c % 16 ∧ least = 2048) ∨ (240 ≤ c ∧ c < 248 ∧ n = 4 ∧ c0 = c % 8 ∧ least = 65536)
def accF (l : List UInt8) (c0 : Nat) : Nat → Nat
  | 0 => c0
  | j + 1 => accF l c0 j * 64 + bt l (j + 1) % 64
theorem accF_lt (l : List UInt8) {c0 : Nat} (h : c0 < 32) : ∀ j, j ≤ 3 → accF l c0 j < 8388608 := by
  intro j hj
  have : ∀ j, accF l c0 j < 32 * 64 ^ j := by
    intro j
    induction j with
    | zero => simpa [accF] using h
    | succ j ih =>
      have := Nat.mod_lt (bt l (j + 1)) (by decide : 64 > 0)
      simp only [accF, Nat.pow_succ]
      omega
  have h2 := this j
  have h3 : 64 ^ j ≤ 64 ^ 3 := Nat.pow_le_pow_right (by decide) hj
  have h4 : 32 * 64 ^ 3 = 8388608 := by decide
  omega
theorem r1_err {l : List UInt8} (h0 : 128 ≤ bt l 0) (h : dec l = (65533, 1)) : r1 l = (0, 0) := by rw [r1, h, if_pos ⟨h0, Nat.le_refl _⟩]
theorem r1_ascii {l : List UInt8} (h0 : bt l 0 < 128) : r1 l = (bt l 0, 1) := by rw [r1, if_neg (by omega), dec, decodeN, if_pos h0]
theorem r1_none {l : List UInt8} (h0 : 128 ≤ bt l 0) (h : bt l 0 < 192 ∨ 248 ≤ bt l 0) : r1 l = (0, 0) := by
  refine r1_err h0 ?_
  unfold dec decodeN
  rw [if_neg (by omega), if_neg (by omega), if_neg (by omega), if_neg (by omega)]
theorem r1_short {l : List UInt8} {n c0 least : Nat} (hl : lead (bt l 0) n c0 least) (h : l.length < n) : r1 l = (0, 0) := by
  refine r1_err (by unfold lead at hl; omega) ?_
  unfold dec decodeN
  rcases hl with ⟨h1, h2, h3, h4, h5⟩ | ⟨h1, h2, h3, h4, h5⟩ | ⟨h1, h2, h3, h4, h5⟩
  · rw [if_neg (by omega), if_neg (by omega), if_neg (by omega), if_neg (by omega)]
  · rw [if_neg (by omega), if_neg (by omega), if_neg (by omega), if_neg (by omega)]
  · rw [if_neg (by omega), if_neg (by omega), if_neg (by omega), if_neg (by omega)]
theorem r1_cont {l : List UInt8} {n c0 least m : Nat} (hl : lead (bt l 0) n c0 least) (h1 : 1 ≤ m) (hm : m < n) (h : ¬ bt l m / 64 = 2) : r1 l = (0, 0) := by
  refine r1_err (by unfold lead at hl; omega) ?_
  unfold dec decodeN
  have hmm : m = 1 ∨ m = 2 ∨ m = 3 := by unfold lead at hl; omega
  rcases hl with ⟨k1, k2, k3, k4, k5⟩ | ⟨k1, k2, k3, k4, k5⟩ | ⟨k1, k2, k3, k4, k5⟩
  · rcases hmm with rfl | rfl | rfl
    · rw [if_neg (by omega), if_neg (by omega), if_neg (by omega), if_neg (by omega)]
    · omega
    · omega
  · rcases hmm with rfl | rfl | rfl
    · rw [if_neg (by omega), if_neg (by omega), if_neg (by omega), if_neg (by omega)]
    · rw [if_neg (by omega), if_neg (by omega), if_neg (by omega), if_neg (by omega)]
    · omega
  · rcases hmm with rfl | rfl | rfl
    · rw [if_neg (by omega), if_neg (by omega), if_neg (by omega), if_neg (by omega)]
    · rw [if_neg (by omega), if_neg (by omega), if_neg (by omega), if_neg (by omega)]
    · rw [if_neg (by omega), if_neg (by omega), if_neg (by omega), if_neg (by omega)]
/-- What is left to ask, once the bytes are of the right kind. -/
def fits (r least : Nat) : Prop := ¬ (r < least) ∧ ¬ (r ≥ 55296 ∧ r < 57344) ∧ ¬ (r > 1114111)
instance (r least : Nat) : Decidable (fits r least) := inferInstanceAs (Decidable (_ ∧ _))
theorem r1_full {l : List UInt8} {n c0 least : Nat} (hl : lead (bt l 0) n c0 least) (hn : n ≤ l.length) (hc : ∀ m, 1 ≤ m → m < n → bt l m / 64 = 2) :
    dec l = (if fits (accF l c0 (n - 1)) least then (accF l c0 (n - 1), n) else (65533, 1)) := by
  unfold dec decodeN fits
  rcases hl with ⟨k1, k2, rfl, rfl, rfl⟩ | ⟨k1, k2, rfl, rfl, rfl⟩ | ⟨k1, k2, rfl, rfl, rfl⟩
  · have c1 := hc 1 (by omega) (by omega)
    rw [if_neg (by omega), if_pos (by omega)]
    simp only [accF, Nat.reduceSub, Nat.zero_add]
    split
    · rw [if_pos (by omega)]
    · rw [if_neg (by omega)]
  · have c1 := hc 1 (by omega) (by omega)
    have c2 := hc 2 (by omega) (by omega)
    rw [if_neg (by omega), if_neg (by omega), if_pos (by omega)]
    simp only [accF, Nat.reduceSub, Nat.zero_add, Nat.reduceAdd]
    split
    · rw [if_pos (by omega)]; refine Prod.ext ?_ rfl; simp only; omega
    · rw [if_neg (by omega)]
  · have c1 := hc 1 (by omega) (by omega)
    have c2 := hc 2 (by omega) (by omega)
    have c3 := hc 3 (by omega) (by omega)
    rw [if_neg (by omega), if_neg (by omega), if_neg (by omega), if_pos (by omega)]
    simp only [accF, Nat.reduceSub, Nat.zero_add, Nat.reduceAdd]
    split
    · rw [if_pos (by omega)]; refine Prod.ext ?_ rfl; simp only; omega
    · rw [if_neg (by omega)]
theorem r1_bad {l : List UInt8} {n c0 least : Nat} (hl : lead (bt l 0) n c0 least) (hn : n ≤ l.length) (hc : ∀ m, 1 ≤ m → m < n → bt l m / 64 = 2) (h : ¬ fits (accF l c0 (n - 1)) least) : r1 l = (0, 0) := by
  refine r1_err (by unfold lead at hl; omega) ?_
  rw [r1_full hl hn hc, if_neg h]
theorem r1_good {l : List UInt8} {n c0 least : Nat} (hl : lead (bt l 0) n c0 least) (hn : n ≤ l.length) (hc : ∀ m, 1 ≤ m → m < n → bt l m / 64 = 2) (h : fits (accF l c0 (n - 1)) least) : r1 l = (accF l c0 (n - 1), n) := by
  have := r1_full hl hn hc
  rw [if_pos h] at this
  rw [r1, this, if_neg]
  simp only
  unfold lead at hl
  omega
def r1A (s : ByteArray) : AV := .tup [.i .i64 ((r1 (bs s)).1 : Int), .i .i64 ((r1 (bs s)).2 : Int)]
theorem r1A_of {s : ByteArray} {a b : Nat} (h : r1 (bs s) = (a, b)) {x y : Int} (hx : x = a) (hy : y = b) : AV.tup [.i .i64 x, .i .i64 y] = r1A s := by rw [r1A, h, hx, hy]
theorem byteAt_bt (s : ByteArray) (k : Nat) : byteAt s (k : Int) = ((bt (bs s) k : Nat) : Int) := by simp [byteAt, bt, bs]
theorem c48 (s : ByteArray) (hs : 0 < s.size) (hs2 : s.size ≤ 100000) (S : Sums) (hS : SumOk Try.prog S) : ∀ h n, DCalls Try.prog 48 [.s s] h n (r1A s) [] n := by
  intro h n
  refine DCalls.of Try.func48 rfl (by decide) (Nat.le_of_ble_eq_true rfl) (Nat.le_refl _) ?_
  have hb0 : byteAt s 0 = ((bt (bs s) 0 : Nat) : Int) := byteAt_bt s 0
  have hlen := bs_size s
  have hc256 := bt_lt (bs s) 0
  have a31 := and31 ⟨bt (bs s) 0, hc256⟩
  have a15 := and15 ⟨bt (bs s) 0, hc256⟩
  have a7 := and7 ⟨bt (bs s) 0, hc256⟩
  simp only at a31 a15 a7
  have w0 : IntKind.wrap .i64 ((bt (bs s) 0 : Nat) : Int) = ((bt (bs s) 0 : Nat) : Int) := IntWalk.i64_in _ (by omega)
  have q0 : ((0 : Int) < ((s.size : Nat) : Int)) = True := by simp; omega
  have k1 : ((65536 : Nat) : Int) = 65536 := by omega
  have k2 : ((2048 : Nat) : Int) = 2048 := by omega
  have k3 : ((128 : Nat) : Int) = 128 := by omega
  refine AWp.seq ?_
  (refine aw_regionL hS (by kernel_rfl) ?_; repeat (first | apply vr0u | apply vr4 | apply b_tt | apply b_ff | apply b_tf | apply b_ft | apply b_no | exact isD.mk rfl | (apply eqG; (simp only [push_cast, ↓reduceIte, Nat.reduceEqDiff, Nat.reduceAdd, Nat.reduceLeDiff, Int.reduceLE, Int.reduceLT, Int.reduceAdd, Int.reduceSub, Int.reduceNeg, Int.reduceBEq, Int.reduceBNe, Int.reduceEq, Int.reduceGT, Int.reduceGE, Int.reduceMul, Int.reduceToNat, Int.reducePow, Nat.reduceMul, reduceCtorEq, k1, k2, k3, hb0, a31, a15, a7, w0, q0] <;> rfl))))
  refine vr_nil (aw_then ?_)
  refine AWp.seq ?_
  (refine aw_regionL hS (by kernel_rfl) ?_; repeat (first | apply vr0u | apply vr4 | apply b_tt | apply b_ff | apply b_tf | apply b_ft | apply b_no | exact isD.mk rfl | (apply eqG; (simp only [push_cast, ↓reduceIte, Nat.reduceEqDiff, Nat.reduceAdd, Nat.reduceLeDiff, Int.reduceLE, Int.reduceLT, Int.reduceAdd, Int.reduceSub, Int.reduceNeg, Int.reduceBEq, Int.reduceBNe, Int.reduceEq, Int.reduceGT, Int.reduceGE, Int.reduceMul, Int.reduceToNat, Int.reducePow, Nat.reduceMul, reduceCtorEq, k1, k2, k3, hb0, a31, a15, a7, w0, q0] <;> rfl))))
  refine vr_nil (aw_then ?_)
  refine AWp.seq ?_
  (refine aw_regionL hS (by kernel_rfl) ?_; repeat (first | apply vr0u | apply vr4 | apply b_tt | apply b_ff | apply b_tf | apply b_ft | apply b_no | exact isD.mk rfl | (apply eqG; (simp only [push_cast, ↓reduceIte, Nat.reduceEqDiff, Nat.reduceAdd, Nat.reduceLeDiff, Int.reduceLE, Int.reduceLT, Int.reduceAdd, Int.reduceSub, Int.reduceNeg, Int.reduceBEq, Int.reduceBNe, Int.reduceEq, Int.reduceGT, Int.reduceGE, Int.reduceMul, Int.reduceToNat, Int.reducePow, Nat.reduceMul, reduceCtorEq, k1, k2, k3, hb0, a31, a15, a7, w0, q0] <;> rfl))))
  refine vr_nil (aw_then ?_)
  refine AWp.cut (fun t' h' n' => ∃ n1 c0 least : Nat, lead (bt (bs s) 0) n1 c0 least ∧ t' 0 = .s s ∧ t' 5 = .i .i64 n1 ∧ t' 6 = .i .i64 c0 ∧ t' 7 = .i .i64 least ∧ ∀ x r, x < n → h x = some r → h' x = some r) ?_ ?_
  · refine AWp.block ?_
    refine AWp.seq ?_
    (refine aw_regionL hS (by kernel_rfl) ?_; repeat (first | apply vr0u | apply vr4 | apply b_tt | apply b_ff | apply b_tf | apply b_ft | apply b_no | exact isD.mk rfl | (apply eqG; (simp only [push_cast, ↓reduceIte, Nat.reduceEqDiff, Nat.reduceAdd, Nat.reduceLeDiff, Int.reduceLE, Int.reduceLT, Int.reduceAdd, Int.reduceSub, Int.reduceNeg, Int.reduceBEq, Int.reduceBNe, Int.reduceEq, Int.reduceGT, Int.reduceGE, Int.reduceMul, Int.reduceToNat, Int.reducePow, Nat.reduceMul, reduceCtorEq, k1, k2, k3, hb0, a31, a15, a7, w0, q0] <;> rfl))))
    refine vr_nil (aw_then ?_)
    refine aw_split (by (simp only [push_cast, ↓reduceIte, Nat.reduceEqDiff, Nat.reduceAdd, Nat.reduceLeDiff, Int.reduceLE, Int.reduceLT, Int.reduceAdd, Int.reduceSub, Int.reduceNeg, Int.reduceBEq, Int.reduceBNe, Int.reduceEq, Int.reduceGT, Int.reduceGE, Int.reduceMul, Int.reduceToNat, Int.reducePow, Nat.reduceMul, reduceCtorEq, k1, k2, k3, hb0, a31, a15, a7, w0, q0] <;> rfl)) (fun hu => ?_) (fun hu => ?_)
    · have hu := of_decide_eq_true hu
      refine AWp.seq ?_; (refine aw_regionL hS (by kernel_rfl) ?_; repeat (first | apply vr0u | apply vr4 | apply b_tt | apply b_ff | apply b_tf | apply b_ft | apply b_no | exact isD.mk rfl | (apply eqG; (simp only [push_cast, ↓reduceIte, Nat.reduceEqDiff, Nat.reduceAdd, Nat.reduceLeDiff, Int.reduceLE, Int.reduceLT, Int.reduceAdd, Int.reduceSub, Int.reduceNeg, Int.reduceBEq, Int.reduceBNe, Int.reduceEq, Int.reduceGT, Int.reduceGE, Int.reduceMul, Int.reduceToNat, Int.reducePow, Nat.reduceMul, reduceCtorEq, k1, k2, k3, hb0, a31, a15, a7, w0, q0] <;> rfl)))); refine vr_nil (aw_then ?_); refine AWp.ret ?_
      exact Out.pure2 (.inr rfl) rfl (by (simp only [push_cast, ↓reduceIte, Nat.reduceEqDiff, Nat.reduceAdd, Nat.reduceLeDiff, Int.reduceLE, Int.reduceLT, Int.reduceAdd, Int.reduceSub, Int.reduceNeg, Int.reduceBEq, Int.reduceBNe, Int.reduceEq, Int.reduceGT, Int.reduceGE, Int.reduceMul, Int.reduceToNat, Int.reducePow, Nat.reduceMul, reduceCtorEq, k1, k2, k3, hb0, a31, a15, a7, w0, q0] <;> rfl)) (by (simp only [push_cast, ↓reduceIte, Nat.reduceEqDiff, Nat.reduceAdd, Nat.reduceLeDiff, Int.reduceLE, Int.reduceLT, Int.reduceAdd, Int.reduceSub, Int.reduceNeg, Int.reduceBEq, Int.reduceBNe, Int.reduceEq, Int.reduceGT, Int.reduceGE, Int.reduceMul, Int.reduceToNat, Int.reducePow, Nat.reduceMul, reduceCtorEq, k1, k2, k3, hb0, a31, a15, a7, w0, q0] <;> rfl)) (r1A_of (r1_ascii (by omega)) rfl rfl) ⟨trivial, trivial, trivial⟩ keep0
    have hu := of_decide_eq_false hu
    refine AWp.seq ?_
    (refine aw_regionL hS (by kernel_rfl) ?_; repeat (first | apply vr0u | apply vr4 | apply b_tt | apply b_ff | apply b_tf | apply b_ft | apply b_no | exact isD.mk rfl | (apply eqG; (simp only [push_cast, ↓reduceIte, Nat.reduceEqDiff, Nat.reduceAdd, Nat.reduceLeDiff, Int.reduceLE, Int.reduceLT, Int.reduceAdd, Int.reduceSub, Int.reduceNeg, Int.reduceBEq, Int.reduceBNe, Int.reduceEq, Int.reduceGT, Int.reduceGE, Int.reduceMul, Int.reduceToNat, Int.reducePow, Nat.reduceMul, reduceCtorEq, k1, k2, k3, hb0, a31, a15, a7, w0, q0] <;> rfl))))
    refine br_s (by (simp only [push_cast, ↓reduceIte, Nat.reduceEqDiff, Nat.reduceAdd, Nat.reduceLeDiff, Int.reduceLE, Int.reduceLT, Int.reduceAdd, Int.reduceSub, Int.reduceNeg, Int.reduceBEq, Int.reduceBNe, Int.reduceEq, Int.reduceGT, Int.reduceGE, Int.reduceMul, Int.reduceToNat, Int.reducePow, Nat.reduceMul, reduceCtorEq, k1, k2, k3, hb0, a31, a15, a7, w0, q0] <;> rfl)) (fun hv => ?_) (fun hv => ?_)
    · have hv := of_decide_eq_true hv
      repeat (first | apply vr0u | apply vr4 | apply b_tt | apply b_ff | apply b_tf | apply b_ft | apply b_no | exact isD.mk rfl | (apply eqG; (simp only [push_cast, ↓reduceIte, Nat.reduceEqDiff, Nat.reduceAdd, Nat.reduceLeDiff, Int.reduceLE, Int.reduceLT, Int.reduceAdd, Int.reduceSub, Int.reduceNeg, Int.reduceBEq, Int.reduceBNe, Int.reduceEq, Int.reduceGT, Int.reduceGE, Int.reduceMul, Int.reduceToNat, Int.reducePow, Nat.reduceMul, reduceCtorEq, k1, k2, k3, hb0, a31, a15, a7, w0, q0] <;> rfl)))
      refine vr_nil (aw_then ?_)
      refine aw_split (by (simp only [push_cast, ↓reduceIte, Nat.reduceEqDiff, Nat.reduceAdd, Nat.reduceLeDiff, Int.reduceLE, Int.reduceLT, Int.reduceAdd, Int.reduceSub, Int.reduceNeg, Int.reduceBEq, Int.reduceBNe, Int.reduceEq, Int.reduceGT, Int.reduceGE, Int.reduceMul, Int.reduceToNat, Int.reducePow, Nat.reduceMul, reduceCtorEq, k1, k2, k3, hb0, a31, a15, a7, w0, q0] <;> rfl)) (fun hw => ?_) (fun hw => ?_)
      · have hw := of_decide_eq_true hw
        (refine aw_regionL hS (by kernel_rfl) ?_; repeat (first | apply vr0u | apply vr4 | apply b_tt | apply b_ff | apply b_tf | apply b_ft | apply b_no | exact isD.mk rfl | (apply eqG; (simp only [push_cast, ↓reduceIte, Nat.reduceEqDiff, Nat.reduceAdd, Nat.reduceLeDiff, Int.reduceLE, Int.reduceLT, Int.reduceAdd, Int.reduceSub, Int.reduceNeg, Int.reduceBEq, Int.reduceBNe, Int.reduceEq, Int.reduceGT, Int.reduceGE, Int.reduceMul, Int.reduceToNat, Int.reducePow, Nat.reduceMul, reduceCtorEq, k1, k2, k3, hb0, a31, a15, a7, w0, q0] <;> rfl))))
        exact vr_nil (aw_in (aw_then ⟨2, bt (bs s) 0 % 32, 128, .inl ⟨by omega, by omega, rfl, rfl, rfl⟩, by (simp only [push_cast, ↓reduceIte, Nat.reduceEqDiff, Nat.reduceAdd, Nat.reduceLeDiff, Int.reduceLE, Int.reduceLT, Int.reduceAdd, Int.reduceSub, Int.reduceNeg, Int.reduceBEq, Int.reduceBNe, Int.reduceEq, Int.reduceGT, Int.reduceGE, Int.reduceMul, Int.reduceToNat, Int.reducePow, Nat.reduceMul, reduceCtorEq, k1, k2, k3, hb0, a31, a15, a7, w0, q0] <;> rfl), by (simp only [push_cast, ↓reduceIte, Nat.reduceEqDiff, Nat.reduceAdd, Nat.reduceLeDiff, Int.reduceLE, Int.reduceLT, Int.reduceAdd, Int.reduceSub, Int.reduceNeg, Int.reduceBEq, Int.reduceBNe, Int.reduceEq, Int.reduceGT, Int.reduceGE, Int.reduceMul, Int.reduceToNat, Int.reducePow, Nat.reduceMul, reduceCtorEq, k1, k2, k3, hb0, a31, a15, a7, w0, q0] <;> rfl), by (simp only [push_cast, ↓reduceIte, Nat.reduceEqDiff, Nat.reduceAdd, Nat.reduceLeDiff, Int.reduceLE, Int.reduceLT, Int.reduceAdd, Int.reduceSub, Int.reduceNeg, Int.reduceBEq, Int.reduceBNe, Int.reduceEq, Int.reduceGT, Int.reduceGE, Int.reduceMul, Int.reduceToNat, Int.reducePow, Nat.reduceMul, reduceCtorEq, k1, k2, k3, hb0, a31, a15, a7, w0, q0] <;> rfl), by (simp only [push_cast, ↓reduceIte, Nat.reduceEqDiff, Nat.reduceAdd, Nat.reduceLeDiff, Int.reduceLE, Int.reduceLT, Int.reduceAdd, Int.reduceSub, Int.reduceNeg, Int.reduceBEq, Int.reduceBNe, Int.reduceEq, Int.reduceGT, Int.reduceGE, Int.reduceMul, Int.reduceToNat, Int.reducePow, Nat.reduceMul, reduceCtorEq, k1, k2, k3, hb0, a31, a15, a7, w0, q0] <;> rfl), keep0⟩))
      · have hw := of_decide_eq_false hw
        refine AWp.seq ?_
        (refine aw_regionL hS (by kernel_rfl) ?_; repeat (first | apply vr0u | apply vr4 | apply b_tt | apply b_ff | apply b_tf | apply b_ft | apply b_no | exact isD.mk rfl | (apply eqG; (simp only [push_cast, ↓reduceIte, Nat.reduceEqDiff, Nat.reduceAdd, Nat.reduceLeDiff, Int.reduceLE, Int.reduceLT, Int.reduceAdd, Int.reduceSub, Int.reduceNeg, Int.reduceBEq, Int.reduceBNe, Int.reduceEq, Int.reduceGT, Int.reduceGE, Int.reduceMul, Int.reduceToNat, Int.reducePow, Nat.reduceMul, reduceCtorEq, k1, k2, k3, hb0, a31, a15, a7, w0, q0] <;> rfl))))
        refine br_s (by (simp only [push_cast, ↓reduceIte, Nat.reduceEqDiff, Nat.reduceAdd, Nat.reduceLeDiff, Int.reduceLE, Int.reduceLT, Int.reduceAdd, Int.reduceSub, Int.reduceNeg, Int.reduceBEq, Int.reduceBNe, Int.reduceEq, Int.reduceGT, Int.reduceGE, Int.reduceMul, Int.reduceToNat, Int.reducePow, Nat.reduceMul, reduceCtorEq, k1, k2, k3, hb0, a31, a15, a7, w0, q0] <;> rfl)) (fun hx => ?_) (fun hx => ?_)
        · have hx := of_decide_eq_true hx
          repeat (first | apply vr0u | apply vr4 | apply b_tt | apply b_ff | apply b_tf | apply b_ft | apply b_no | exact isD.mk rfl | (apply eqG; (simp only [push_cast, ↓reduceIte, Nat.reduceEqDiff, Nat.reduceAdd, Nat.reduceLeDiff, Int.reduceLE, Int.reduceLT, Int.reduceAdd, Int.reduceSub, Int.reduceNeg, Int.reduceBEq, Int.reduceBNe, Int.reduceEq, Int.reduceGT, Int.reduceGE, Int.reduceMul, Int.reduceToNat, Int.reducePow, Nat.reduceMul, reduceCtorEq, k1, k2, k3, hb0, a31, a15, a7, w0, q0] <;> rfl)))
          refine vr_nil (aw_then ?_)
          refine aw_split (by (simp only [push_cast, ↓reduceIte, Nat.reduceEqDiff, Nat.reduceAdd, Nat.reduceLeDiff, Int.reduceLE, Int.reduceLT, Int.reduceAdd, Int.reduceSub, Int.reduceNeg, Int.reduceBEq, Int.reduceBNe, Int.reduceEq, Int.reduceGT, Int.reduceGE, Int.reduceMul, Int.reduceToNat, Int.reducePow, Nat.reduceMul, reduceCtorEq, k1, k2, k3, hb0, a31, a15, a7, w0, q0] <;> rfl)) (fun hy => ?_) (fun hy => ?_)
          · have hy := of_decide_eq_true hy
            (refine aw_regionL hS (by kernel_rfl) ?_; repeat (first | apply vr0u | apply vr4 | apply b_tt | apply b_ff | apply b_tf | apply b_ft | apply b_no | exact isD.mk rfl | (apply eqG; (simp only [push_cast, ↓reduceIte, Nat.reduceEqDiff, Nat.reduceAdd, Nat.reduceLeDiff, Int.reduceLE, Int.reduceLT, Int.reduceAdd, Int.reduceSub, Int.reduceNeg, Int.reduceBEq, Int.reduceBNe, Int.reduceEq, Int.reduceGT, Int.reduceGE, Int.reduceMul, Int.reduceToNat, Int.reducePow, Nat.reduceMul, reduceCtorEq, k1, k2, k3, hb0, a31, a15, a7, w0, q0] <;> rfl))))
            exact vr_nil (aw_in (aw_then ⟨3, bt (bs s) 0 % 16, 2048, .inr (.inl ⟨by omega, by omega, rfl, rfl, rfl⟩), by (simp only [push_cast, ↓reduceIte, Nat.reduceEqDiff, Nat.reduceAdd, Nat.reduceLeDiff, Int.reduceLE, Int.reduceLT, Int.reduceAdd, Int.reduceSub, Int.reduceNeg, Int.reduceBEq, Int.reduceBNe, Int.reduceEq, Int.reduceGT, Int.reduceGE, Int.reduceMul, Int.reduceToNat, Int.reducePow, Nat.reduceMul, reduceCtorEq, k1, k2, k3, hb0, a31, a15, a7, w0, q0] <;> rfl), by (simp only [push_cast, ↓reduceIte, Nat.reduceEqDiff, Nat.reduceAdd, Nat.reduceLeDiff, Int.reduceLE, Int.reduceLT, Int.reduceAdd, Int.reduceSub, Int.reduceNeg, Int.reduceBEq, Int.reduceBNe, Int.reduceEq, Int.reduceGT, Int.reduceGE, Int.reduceMul, Int.reduceToNat, Int.reducePow, Nat.reduceMul, reduceCtorEq, k1, k2, k3, hb0, a31, a15, a7, w0, q0] <;> rfl), by (simp only [push_cast, ↓reduceIte, Nat.reduceEqDiff, Nat.reduceAdd, Nat.reduceLeDiff, Int.reduceLE, Int.reduceLT, Int.reduceAdd, Int.reduceSub, Int.reduceNeg, Int.reduceBEq, Int.reduceBNe, Int.reduceEq, Int.reduceGT, Int.reduceGE, Int.reduceMul, Int.reduceToNat, Int.reducePow, Nat.reduceMul, reduceCtorEq, k1, k2, k3, hb0, a31, a15, a7, w0, q0] <;> rfl), by (simp only [push_cast, ↓reduceIte, Nat.reduceEqDiff, Nat.reduceAdd, Nat.reduceLeDiff, Int.reduceLE, Int.reduceLT, Int.reduceAdd, Int.reduceSub, Int.reduceNeg, Int.reduceBEq, Int.reduceBNe, Int.reduceEq, Int.reduceGT, Int.reduceGE, Int.reduceMul, Int.reduceToNat, Int.reducePow, Nat.reduceMul, reduceCtorEq, k1, k2, k3, hb0, a31, a15, a7, w0, q0] <;> rfl), keep0⟩))
          · have hy := of_decide_eq_false hy
            refine AWp.seq ?_
            (refine aw_regionL hS (by kernel_rfl) ?_; repeat (first | apply vr0u | apply vr4 | apply b_tt | apply b_ff | apply b_tf | apply b_ft | apply b_no | exact isD.mk rfl | (apply eqG; (simp only [push_cast, ↓reduceIte, Nat.reduceEqDiff, Nat.reduceAdd, Nat.reduceLeDiff, Int.reduceLE, Int.reduceLT, Int.reduceAdd, Int.reduceSub, Int.reduceNeg, Int.reduceBEq, Int.reduceBNe, Int.reduceEq, Int.reduceGT, Int.reduceGE, Int.reduceMul, Int.reduceToNat, Int.reducePow, Nat.reduceMul, reduceCtorEq, k1, k2, k3, hb0, a31, a15, a7, w0, q0] <;> rfl))))
            refine br_s (by (simp only [push_cast, ↓reduceIte, Nat.reduceEqDiff, Nat.reduceAdd, Nat.reduceLeDiff, Int.reduceLE, Int.reduceLT, Int.reduceAdd, Int.reduceSub, Int.reduceNeg, Int.reduceBEq, Int.reduceBNe, Int.reduceEq, Int.reduceGT, Int.reduceGE, Int.reduceMul, Int.reduceToNat, Int.reducePow, Nat.reduceMul, reduceCtorEq, k1, k2, k3, hb0, a31, a15, a7, w0, q0] <;> rfl)) (fun ha => ?_) (fun ha => ?_)
            · have ha := of_decide_eq_true ha
              repeat (first | apply vr0u | apply vr4 | apply b_tt | apply b_ff | apply b_tf | apply b_ft | apply b_no | exact isD.mk rfl | (apply eqG; (simp only [push_cast, ↓reduceIte, Nat.reduceEqDiff, Nat.reduceAdd, Nat.reduceLeDiff, Int.reduceLE, Int.reduceLT, Int.reduceAdd, Int.reduceSub, Int.reduceNeg, Int.reduceBEq, Int.reduceBNe, Int.reduceEq, Int.reduceGT, Int.reduceGE, Int.reduceMul, Int.reduceToNat, Int.reducePow, Nat.reduceMul, reduceCtorEq, k1, k2, k3, hb0, a31, a15, a7, w0, q0] <;> rfl)))
              refine vr_nil (aw_then ?_)
              refine aw_split (by (simp only [push_cast, ↓reduceIte, Nat.reduceEqDiff, Nat.reduceAdd, Nat.reduceLeDiff, Int.reduceLE, Int.reduceLT, Int.reduceAdd, Int.reduceSub, Int.reduceNeg, Int.reduceBEq, Int.reduceBNe, Int.reduceEq, Int.reduceGT, Int.reduceGE, Int.reduceMul, Int.reduceToNat, Int.reducePow, Nat.reduceMul, reduceCtorEq, k1, k2, k3, hb0, a31, a15, a7, w0, q0] <;> rfl)) (fun hb => ?_) (fun hb => ?_)
              · have hb := of_decide_eq_true hb
                (refine aw_regionL hS (by kernel_rfl) ?_; repeat (first | apply vr0u | apply vr4 | apply b_tt | apply b_ff | apply b_tf | apply b_ft | apply b_no | exact isD.mk rfl | (apply eqG; (simp only [push_cast, ↓reduceIte, Nat.reduceEqDiff, Nat.reduceAdd, Nat.reduceLeDiff, Int.reduceLE, Int.reduceLT, Int.reduceAdd, Int.reduceSub, Int.reduceNeg, Int.reduceBEq, Int.reduceBNe, Int.reduceEq, Int.reduceGT, Int.reduceGE, Int.reduceMul, Int.reduceToNat, Int.reducePow, Nat.reduceMul, reduceCtorEq, k1, k2, k3, hb0, a31, a15, a7, w0, q0] <;> rfl))))
                exact vr_nil (aw_in (aw_then ⟨4, bt (bs s) 0 % 8, 65536, .inr (.inr ⟨by omega, by omega, rfl, rfl, rfl⟩), by (simp only [push_cast, ↓reduceIte, Nat.reduceEqDiff, Nat.reduceAdd, Nat.reduceLeDiff, Int.reduceLE, Int.reduceLT, Int.reduceAdd, Int.reduceSub, Int.reduceNeg, Int.reduceBEq, Int.reduceBNe, Int.reduceEq, Int.reduceGT, Int.reduceGE, Int.reduceMul, Int.reduceToNat, Int.reducePow, Nat.reduceMul, reduceCtorEq, k1, k2, k3, hb0, a31, a15, a7, w0, q0] <;> rfl), by (simp only [push_cast, ↓reduceIte, Nat.reduceEqDiff, Nat.reduceAdd, Nat.reduceLeDiff, Int.reduceLE, Int.reduceLT, Int.reduceAdd, Int.reduceSub, Int.reduceNeg, Int.reduceBEq, Int.reduceBNe, Int.reduceEq, Int.reduceGT, Int.reduceGE, Int.reduceMul, Int.reduceToNat, Int.reducePow, Nat.reduceMul, reduceCtorEq, k1, k2, k3, hb0, a31, a15, a7, w0, q0] <;> rfl), by (simp only [push_cast, ↓reduceIte, Nat.reduceEqDiff, Nat.reduceAdd, Nat.reduceLeDiff, Int.reduceLE, Int.reduceLT, Int.reduceAdd, Int.reduceSub, Int.reduceNeg, Int.reduceBEq, Int.reduceBNe, Int.reduceEq, Int.reduceGT, Int.reduceGE, Int.reduceMul, Int.reduceToNat, Int.reducePow, Nat.reduceMul, reduceCtorEq, k1, k2, k3, hb0, a31, a15, a7, w0, q0] <;> rfl), by (simp only [push_cast, ↓reduceIte, Nat.reduceEqDiff, Nat.reduceAdd, Nat.reduceLeDiff, Int.reduceLE, Int.reduceLT, Int.reduceAdd, Int.reduceSub, Int.reduceNeg, Int.reduceBEq, Int.reduceBNe, Int.reduceEq, Int.reduceGT, Int.reduceGE, Int.reduceMul, Int.reduceToNat, Int.reducePow, Nat.reduceMul, reduceCtorEq, k1, k2, k3, hb0, a31, a15, a7, w0, q0] <;> rfl), keep0⟩))
              · have hb := of_decide_eq_false hb
                refine AWp.seq ?_; (refine aw_regionL hS (by kernel_rfl) ?_; repeat (first | apply vr0u | apply vr4 | apply b_tt | apply b_ff | apply b_tf | apply b_ft | apply b_no | exact isD.mk rfl | (apply eqG; (simp only [push_cast, ↓reduceIte, Nat.reduceEqDiff, Nat.reduceAdd, Nat.reduceLeDiff, Int.reduceLE, Int.reduceLT, Int.reduceAdd, Int.reduceSub, Int.reduceNeg, Int.reduceBEq, Int.reduceBNe, Int.reduceEq, Int.reduceGT, Int.reduceGE, Int.reduceMul, Int.reduceToNat, Int.reducePow, Nat.reduceMul, reduceCtorEq, k1, k2, k3, hb0, a31, a15, a7, w0, q0] <;> rfl)))); refine vr_nil (aw_then ?_); refine AWp.ret ?_
                exact Out.pure2 (.inr rfl) rfl (by (simp only [push_cast, ↓reduceIte, Nat.reduceEqDiff, Nat.reduceAdd, Nat.reduceLeDiff, Int.reduceLE, Int.reduceLT, Int.reduceAdd, Int.reduceSub, Int.reduceNeg, Int.reduceBEq, Int.reduceBNe, Int.reduceEq, Int.reduceGT, Int.reduceGE, Int.reduceMul, Int.reduceToNat, Int.reducePow, Nat.reduceMul, reduceCtorEq, k1, k2, k3, hb0, a31, a15, a7, w0, q0] <;> rfl)) (by (simp only [push_cast, ↓reduceIte, Nat.reduceEqDiff, Nat.reduceAdd, Nat.reduceLeDiff, Int.reduceLE, Int.reduceLT, Int.reduceAdd, Int.reduceSub, Int.reduceNeg, Int.reduceBEq, Int.reduceBNe, Int.reduceEq, Int.reduceGT, Int.reduceGE, Int.reduceMul, Int.reduceToNat, Int.reducePow, Nat.reduceMul, reduceCtorEq, k1, k2, k3, hb0, a31, a15, a7, w0, q0] <;> rfl)) (r1A_of (r1_none (by omega) (by omega)) rfl rfl) ⟨trivial, trivial, trivial⟩ keep0
            · have ha := of_decide_eq_false ha
              exact absurd (show ((bt (bs s) 0 : Nat) : Int) ≥ 240 by omega) ha
        · have hx := of_decide_eq_false hx
          exact absurd (show ((bt (bs s) 0 : Nat) : Int) ≥ 224 by omega) hx
    · have hv := of_decide_eq_false hv
      repeat (first | apply vr0u | apply vr4 | apply b_tt | apply b_ff | apply b_tf | apply b_ft | apply b_no | exact isD.mk rfl | (apply eqG; (simp only [push_cast, ↓reduceIte, Nat.reduceEqDiff, Nat.reduceAdd, Nat.reduceLeDiff, Int.reduceLE, Int.reduceLT, Int.reduceAdd, Int.reduceSub, Int.reduceNeg, Int.reduceBEq, Int.reduceBNe, Int.reduceEq, Int.reduceGT, Int.reduceGE, Int.reduceMul, Int.reduceToNat, Int.reducePow, Nat.reduceMul, reduceCtorEq, k1, k2, k3, hb0, a31, a15, a7, w0, q0] <;> rfl)))
      refine vr_nil (aw_then ?_)
      refine aw_false (by (simp only [push_cast, ↓reduceIte, Nat.reduceEqDiff, Nat.reduceAdd, Nat.reduceLeDiff, Int.reduceLE, Int.reduceLT, Int.reduceAdd, Int.reduceSub, Int.reduceNeg, Int.reduceBEq, Int.reduceBNe, Int.reduceEq, Int.reduceGT, Int.reduceGE, Int.reduceMul, Int.reduceToNat, Int.reducePow, Nat.reduceMul, reduceCtorEq, k1, k2, k3, hb0, a31, a15, a7, w0, q0] <;> rfl)) ?_
      have q1 : (((bt (bs s) 0 : Nat) : Int) ≥ 224) = False := by simp; omega
      have q2 : (((bt (bs s) 0 : Nat) : Int) ≥ 240) = False := by simp; omega
      refine AWp.seq ?_
      (refine aw_regionL hS (by kernel_rfl) ?_; repeat (first | apply vr0u | apply vr4 | apply b_tt | apply b_ff | apply b_tf | apply b_ft | apply b_no | exact isD.mk rfl | (apply eqG; (simp only [push_cast, ↓reduceIte, Nat.reduceEqDiff, Nat.reduceAdd, Nat.reduceLeDiff, Int.reduceLE, Int.reduceLT, Int.reduceAdd, Int.reduceSub, Int.reduceNeg, Int.reduceBEq, Int.reduceBNe, Int.reduceEq, Int.reduceGT, Int.reduceGE, Int.reduceMul, Int.reduceToNat, Int.reducePow, Nat.reduceMul, reduceCtorEq, hb0, a31, a15, a7, w0, q0, q1, q2] <;> rfl))))
      refine vr_nil (aw_then ?_)
      refine aw_false (by (simp only [push_cast, ↓reduceIte, Nat.reduceEqDiff, Nat.reduceAdd, Nat.reduceLeDiff, Int.reduceLE, Int.reduceLT, Int.reduceAdd, Int.reduceSub, Int.reduceNeg, Int.reduceBEq, Int.reduceBNe, Int.reduceEq, Int.reduceGT, Int.reduceGE, Int.reduceMul, Int.reduceToNat, Int.reducePow, Nat.reduceMul, reduceCtorEq, hb0, a31, a15, a7, w0, q0, q1, q2] <;> rfl)) ?_
      refine AWp.seq ?_
      (refine aw_regionL hS (by kernel_rfl) ?_; repeat (first | apply vr0u | apply vr4 | apply b_tt | apply b_ff | apply b_tf | apply b_ft | apply b_no | exact isD.mk rfl | (apply eqG; (simp only [push_cast, ↓reduceIte, Nat.reduceEqDiff, Nat.reduceAdd, Nat.reduceLeDiff, Int.reduceLE, Int.reduceLT, Int.reduceAdd, Int.reduceSub, Int.reduceNeg, Int.reduceBEq, Int.reduceBNe, Int.reduceEq, Int.reduceGT, Int.reduceGE, Int.reduceMul, Int.reduceToNat, Int.reducePow, Nat.reduceMul, reduceCtorEq, hb0, a31, a15, a7, w0, q0, q1, q2] <;> rfl))))
      refine vr_nil (aw_then ?_)
      refine aw_false (by (simp only [push_cast, ↓reduceIte, Nat.reduceEqDiff, Nat.reduceAdd, Nat.reduceLeDiff, Int.reduceLE, Int.reduceLT, Int.reduceAdd, Int.reduceSub, Int.reduceNeg, Int.reduceBEq, Int.reduceBNe, Int.reduceEq, Int.reduceGT, Int.reduceGE, Int.reduceMul, Int.reduceToNat, Int.reducePow, Nat.reduceMul, reduceCtorEq, hb0, a31, a15, a7, w0, q0, q1, q2] <;> rfl)) ?_
      refine AWp.seq ?_; (refine aw_regionL hS (by kernel_rfl) ?_; repeat (first | apply vr0u | apply vr4 | apply b_tt | apply b_ff | apply b_tf | apply b_ft | apply b_no | exact isD.mk rfl | (apply eqG; (simp only [push_cast, ↓reduceIte, Nat.reduceEqDiff, Nat.reduceAdd, Nat.reduceLeDiff, Int.reduceLE, Int.reduceLT, Int.reduceAdd, Int.reduceSub, Int.reduceNeg, Int.reduceBEq, Int.reduceBNe, Int.reduceEq, Int.reduceGT, Int.reduceGE, Int.reduceMul, Int.reduceToNat, Int.reducePow, Nat.reduceMul, reduceCtorEq, hb0, a31, a15, a7, w0, q0, q1, q2] <;> rfl)))); refine vr_nil (aw_then ?_); refine AWp.ret ?_
      exact Out.pure2 (.inr rfl) rfl (by (simp only [push_cast, ↓reduceIte, Nat.reduceEqDiff, Nat.reduceAdd, Nat.reduceLeDiff, Int.reduceLE, Int.reduceLT, Int.reduceAdd, Int.reduceSub, Int.reduceNeg, Int.reduceBEq, Int.reduceBNe, Int.reduceEq, Int.reduceGT, Int.reduceGE, Int.reduceMul, Int.reduceToNat, Int.reducePow, Nat.reduceMul, reduceCtorEq, hb0, a31, a15, a7, w0, q0, q1, q2] <;> rfl)) (by (simp only [push_cast, ↓reduceIte, Nat.reduceEqDiff, Nat.reduceAdd, Nat.reduceLeDiff, Int.reduceLE, Int.reduceLT, Int.reduceAdd, Int.reduceSub, Int.reduceNeg, Int.reduceBEq, Int.reduceBNe, Int.reduceEq, Int.reduceGT, Int.reduceGE, Int.reduceMul, Int.reduceToNat, Int.reducePow, Nat.reduceMul, reduceCtorEq, hb0, a31, a15, a7, w0, q0, q1, q2] <;> rfl)) (r1A_of (r1_none (by omega) (by omega)) rfl rfl) ⟨trivial, trivial, trivial⟩ keep0
  · rintro t1 h1 m1 - ⟨n1, c0, least, hl, e0, e5, e6, e7, hk⟩
    have hc0 : c0 < 32 := by unfold lead at hl; omega
    have hn4 : 2 ≤ n1 ∧ n1 ≤ 4 := by unfold lead at hl; omega
    refine AWp.seq ?_
    refine AWp.seq ?_
    (refine aw_regionL hS (by kernel_rfl) ?_; repeat (first | apply vr0u | apply vr4 | apply b_tt | apply b_ff | apply b_tf | apply b_ft | apply b_no | exact isD.mk rfl | (apply eqG; (simp only [push_cast, ↓reduceIte, Nat.reduceEqDiff, Nat.reduceAdd, Nat.reduceLeDiff, Int.reduceLE, Int.reduceLT, Int.reduceAdd, Int.reduceSub, Int.reduceNeg, Int.reduceBEq, Int.reduceBNe, Int.reduceEq, Int.reduceGT, Int.reduceGE, Int.reduceMul, Int.reduceToNat, Int.reducePow, Nat.reduceMul, reduceCtorEq, e0, e5, e6, e7] <;> rfl))))
    refine vr_nil (aw_then ?_)
    refine aw_split (by (simp only [push_cast, ↓reduceIte, Nat.reduceEqDiff, Nat.reduceAdd, Nat.reduceLeDiff, Int.reduceLE, Int.reduceLT, Int.reduceAdd, Int.reduceSub, Int.reduceNeg, Int.reduceBEq, Int.reduceBNe, Int.reduceEq, Int.reduceGT, Int.reduceGE, Int.reduceMul, Int.reduceToNat, Int.reducePow, Nat.reduceMul, reduceCtorEq, e0, e5, e6, e7] <;> rfl)) (fun hu => ?_) (fun hu => ?_)
    · have hu := of_decide_eq_true hu
      refine AWp.seq ?_; (refine aw_regionL hS (by kernel_rfl) ?_; repeat (first | apply vr0u | apply vr4 | apply b_tt | apply b_ff | apply b_tf | apply b_ft | apply b_no | exact isD.mk rfl | (apply eqG; (simp only [push_cast, ↓reduceIte, Nat.reduceEqDiff, Nat.reduceAdd, Nat.reduceLeDiff, Int.reduceLE, Int.reduceLT, Int.reduceAdd, Int.reduceSub, Int.reduceNeg, Int.reduceBEq, Int.reduceBNe, Int.reduceEq, Int.reduceGT, Int.reduceGE, Int.reduceMul, Int.reduceToNat, Int.reducePow, Nat.reduceMul, reduceCtorEq, e0, e5, e6, e7] <;> rfl)))); refine vr_nil (aw_then ?_); refine AWp.ret ?_
      exact Out.pure2 (.inr rfl) rfl (by (simp only [push_cast, ↓reduceIte, Nat.reduceEqDiff, Nat.reduceAdd, Nat.reduceLeDiff, Int.reduceLE, Int.reduceLT, Int.reduceAdd, Int.reduceSub, Int.reduceNeg, Int.reduceBEq, Int.reduceBNe, Int.reduceEq, Int.reduceGT, Int.reduceGE, Int.reduceMul, Int.reduceToNat, Int.reducePow, Nat.reduceMul, reduceCtorEq, e0, e5, e6, e7] <;> rfl)) (by (simp only [push_cast, ↓reduceIte, Nat.reduceEqDiff, Nat.reduceAdd, Nat.reduceLeDiff, Int.reduceLE, Int.reduceLT, Int.reduceAdd, Int.reduceSub, Int.reduceNeg, Int.reduceBEq, Int.reduceBNe, Int.reduceEq, Int.reduceGT, Int.reduceGE, Int.reduceMul, Int.reduceToNat, Int.reducePow, Nat.reduceMul, reduceCtorEq, e0, e5, e6, e7] <;> rfl)) (r1A_of (r1_short hl (by omega)) rfl rfl) ⟨trivial, trivial, trivial⟩ hk
    have hu := of_decide_eq_false hu
    refine AWp.skip (aw_then ?_)
    refine AWp.seq ?_
    refine AWp.seq ?_
    (refine aw_regionL hS (by kernel_rfl) ?_; repeat (first | apply vr0u | apply vr4 | apply b_tt | apply b_ff | apply b_tf | apply b_ft | apply b_no | exact isD.mk rfl | (apply eqG; (simp only [push_cast, ↓reduceIte, Nat.reduceEqDiff, Nat.reduceAdd, Nat.reduceLeDiff, Int.reduceLE, Int.reduceLT, Int.reduceAdd, Int.reduceSub, Int.reduceNeg, Int.reduceBEq, Int.reduceBNe, Int.reduceEq, Int.reduceGT, Int.reduceGE, Int.reduceMul, Int.reduceToNat, Int.reducePow, Nat.reduceMul, reduceCtorEq, e0, e5, e6, e7] <;> rfl))))
    refine vr_nil (aw_then ?_)
    refine AWp.block ?_
    refine AWp.loop (fun k t' h' n' => ∃ j : Nat, k = n1 - (j + 1) ∧ j + 1 ≤ n1 ∧ (∀ m, 1 ≤ m → m ≤ j → bt (bs s) m / 64 = 2) ∧ t' 0 = .s s ∧ t' 5 = .i .i64 n1 ∧ t' 6 = .i .i64 ((accF (bs s) c0 j : Nat) : Int) ∧ t' 7 = .i .i64 least ∧ t' 8 = .i .i64 ((j + 1 : Nat) : Int) ∧ ∀ x r, x < n → h x = some r → h' x = some r) (n1 - 1) ?_ ?_
    · exact ⟨0, rfl, by omega, fun m h1 h2 => by omega, by (simp only [push_cast, ↓reduceIte, Nat.reduceEqDiff, Nat.reduceAdd, Nat.reduceLeDiff, Int.reduceLE, Int.reduceLT, Int.reduceAdd, Int.reduceSub, Int.reduceNeg, Int.reduceBEq, Int.reduceBNe, Int.reduceEq, Int.reduceGT, Int.reduceGE, Int.reduceMul, Int.reduceToNat, Int.reducePow, Nat.reduceMul, reduceCtorEq, e0, e5, e6, e7] <;> rfl), by (simp only [push_cast, ↓reduceIte, Nat.reduceEqDiff, Nat.reduceAdd, Nat.reduceLeDiff, Int.reduceLE, Int.reduceLT, Int.reduceAdd, Int.reduceSub, Int.reduceNeg, Int.reduceBEq, Int.reduceBNe, Int.reduceEq, Int.reduceGT, Int.reduceGE, Int.reduceMul, Int.reduceToNat, Int.reducePow, Nat.reduceMul, reduceCtorEq, e0, e5, e6, e7] <;> rfl), by (simp only [push_cast, ↓reduceIte, Nat.reduceEqDiff, Nat.reduceAdd, Nat.reduceLeDiff, Int.reduceLE, Int.reduceLT, Int.reduceAdd, Int.reduceSub, Int.reduceNeg, Int.reduceBEq, Int.reduceBNe, Int.reduceEq, Int.reduceGT, Int.reduceGE, Int.reduceMul, Int.reduceToNat, Int.reducePow, Nat.reduceMul, reduceCtorEq, e0, e5, e6, e7] <;> rfl), by (simp only [push_cast, ↓reduceIte, Nat.reduceEqDiff, Nat.reduceAdd, Nat.reduceLeDiff, Int.reduceLE, Int.reduceLT, Int.reduceAdd, Int.reduceSub, Int.reduceNeg, Int.reduceBEq, Int.reduceBNe, Int.reduceEq, Int.reduceGT, Int.reduceGE, Int.reduceMul, Int.reduceToNat, Int.reducePow, Nat.reduceMul, reduceCtorEq, e0, e5, e6, e7] <;> rfl), by (simp only [push_cast, ↓reduceIte, Nat.reduceEqDiff, Nat.reduceAdd, Nat.reduceLeDiff, Int.reduceLE, Int.reduceLT, Int.reduceAdd, Int.reduceSub, Int.reduceNeg, Int.reduceBEq, Int.reduceBNe, Int.reduceEq, Int.reduceGT, Int.reduceGE, Int.reduceMul, Int.reduceToNat, Int.reducePow, Nat.reduceMul, reduceCtorEq, e0, e5, e6, e7] <;> rfl), hk⟩
    · rintro k t h' n' - ⟨j, rfl, hj, hc, g0, g5, g6, g7, g8, hk2⟩
      have hacc := accF_lt (bs s) hc0 j (by omega)
      by_cases hjn : j + 1 < n1
      · have q1 : (((j + 1 : Nat) : Int) < (n1 : Int)) = True := by simp only [eq_iff_iff, iff_true]; omega
        have q2 : (0 ≤ ((j + 1 : Nat) : Int) ∧ ((j + 1 : Nat) : Int) < ((s.size : Nat) : Int)) = True := by simp only [eq_iff_iff, iff_true]; omega
        have q3 := byteAt_bt s (j + 1)
        have b256 := bt_lt (bs s) (j + 1)
        have a192 := and192 ⟨bt (bs s) (j + 1), b256⟩
        have a63 := and63 ⟨bt (bs s) (j + 1), b256⟩
        simp only at a192 a63
        have hm64 : (bt (bs s) (j + 1) % 64 : Nat) < 64 := Nat.mod_lt _ (by decide)
        have w1 : IntKind.wrap .i64 (((accF (bs s) c0 j : Nat) : Int) * 64) = ((accF (bs s) c0 j : Nat) : Int) * 64 := IntWalk.i64_in _ (by omega)
        have w2 : IntKind.wrap .i64 (((bt (bs s) (j + 1) : Nat) : Int) % 64) = ((bt (bs s) (j + 1) : Nat) : Int) % 64 := IntWalk.i64_in _ (by omega)
        have w3 : Av.bits .or .i64 (((accF (bs s) c0 j : Nat) : Int) * 64) (((bt (bs s) (j + 1) : Nat) : Int) % 64) = ((accF (bs s) c0 (j + 1) : Nat) : Int) := or64 (accF (bs s) c0 j) (bt (bs s) (j + 1) % 64) (by omega) hm64
        have w4 : IntKind.wrap .i64 (((j + 1 : Nat) : Int) + 1) = ((j + 1 + 1 : Nat) : Int) := by rw [IntWalk.i64_in _ (by omega)]; omega
        have mb : min 6 (IntKind.bits .i64) = 6 := rfl
        generalize hji : ((j + 1 : Nat) : Int) = ji at *
        refine AWp.seq ?_
        refine AWp.seq ?_
        (refine aw_regionL hS (by kernel_rfl) ?_; repeat (first | apply vr0u | apply vr4 | apply b_tt | apply b_ff | apply b_tf | apply b_ft | apply b_no | exact isD.mk rfl | (apply eqG; (simp only [push_cast, ↓reduceIte, Nat.reduceEqDiff, Nat.reduceAdd, Nat.reduceLeDiff, Int.reduceLE, Int.reduceLT, Int.reduceAdd, Int.reduceSub, Int.reduceNeg, Int.reduceBEq, Int.reduceBNe, Int.reduceEq, Int.reduceGT, Int.reduceGE, Int.reduceMul, Int.reduceToNat, Int.reducePow, Nat.reduceMul, reduceCtorEq, g0, g5, g6, g7, g8, q1, q2, q3, a192, a63, w1, w2, w3, w4, mb] <;> rfl))))
        refine vr_nil (aw_then ?_)
        refine aw_true (by (simp only [push_cast, ↓reduceIte, Nat.reduceEqDiff, Nat.reduceAdd, Nat.reduceLeDiff, Int.reduceLE, Int.reduceLT, Int.reduceAdd, Int.reduceSub, Int.reduceNeg, Int.reduceBEq, Int.reduceBNe, Int.reduceEq, Int.reduceGT, Int.reduceGE, Int.reduceMul, Int.reduceToNat, Int.reducePow, Nat.reduceMul, reduceCtorEq, g0, g5, g6, g7, g8, q1, q2, q3, a192, a63, w1, w2, w3, w4, mb] <;> rfl)) (AWp.skip (aw_then ?_))
        refine AWp.seq ?_
        refine AWp.block ?_
        refine AWp.seq ?_
        refine AWp.seq ?_
        (refine aw_regionL hS (by kernel_rfl) ?_; repeat (first | apply vr0u | apply vr4 | apply b_tt | apply b_ff | apply b_tf | apply b_ft | apply b_no | exact isD.mk rfl | (apply eqG; (simp only [push_cast, ↓reduceIte, Nat.reduceEqDiff, Nat.reduceAdd, Nat.reduceLeDiff, Int.reduceLE, Int.reduceLT, Int.reduceAdd, Int.reduceSub, Int.reduceNeg, Int.reduceBEq, Int.reduceBNe, Int.reduceEq, Int.reduceGT, Int.reduceGE, Int.reduceMul, Int.reduceToNat, Int.reducePow, Nat.reduceMul, reduceCtorEq, g0, g5, g6, g7, g8, q1, q2, q3, a192, a63, w1, w2, w3, w4, mb] <;> rfl))))
        refine vr_nil (aw_then ?_)
        refine aw_split (by (simp only [push_cast, ↓reduceIte, Nat.reduceEqDiff, Nat.reduceAdd, Nat.reduceLeDiff, Int.reduceLE, Int.reduceLT, Int.reduceAdd, Int.reduceSub, Int.reduceNeg, Int.reduceBEq, Int.reduceBNe, Int.reduceEq, Int.reduceGT, Int.reduceGE, Int.reduceMul, Int.reduceToNat, Int.reducePow, Nat.reduceMul, reduceCtorEq, g0, g5, g6, g7, g8, q1, q2, q3, a192, a63, w1, w2, w3, w4, mb] <;> rfl)) (fun hv => ?_) (fun hv => ?_)
        · have hv : ¬ bt (bs s) (j + 1) / 64 = 2 := by
            intro hc2
            have h3 : ((bt (bs s) (j + 1) : Nat) : Int) / 64 = 2 := by omega
            rw [h3] at hv
            exact absurd hv (by decide)
          refine AWp.seq ?_; (refine aw_regionL hS (by kernel_rfl) ?_; repeat (first | apply vr0u | apply vr4 | apply b_tt | apply b_ff | apply b_tf | apply b_ft | apply b_no | exact isD.mk rfl | (apply eqG; (simp only [push_cast, ↓reduceIte, Nat.reduceEqDiff, Nat.reduceAdd, Nat.reduceLeDiff, Int.reduceLE, Int.reduceLT, Int.reduceAdd, Int.reduceSub, Int.reduceNeg, Int.reduceBEq, Int.reduceBNe, Int.reduceEq, Int.reduceGT, Int.reduceGE, Int.reduceMul, Int.reduceToNat, Int.reducePow, Nat.reduceMul, reduceCtorEq, g0, g5, g6, g7, g8, q1, q2, q3, a192, a63, w1, w2, w3, w4, mb] <;> rfl)))); refine vr_nil (aw_then ?_); refine AWp.ret ?_
          exact Out.pure2 (.inr rfl) rfl (by (simp only [push_cast, ↓reduceIte, Nat.reduceEqDiff, Nat.reduceAdd, Nat.reduceLeDiff, Int.reduceLE, Int.reduceLT, Int.reduceAdd, Int.reduceSub, Int.reduceNeg, Int.reduceBEq, Int.reduceBNe, Int.reduceEq, Int.reduceGT, Int.reduceGE, Int.reduceMul, Int.reduceToNat, Int.reducePow, Nat.reduceMul, reduceCtorEq, g0, g5, g6, g7, g8, q1, q2, q3, a192, a63, w1, w2, w3, w4, mb] <;> rfl)) (by (simp only [push_cast, ↓reduceIte, Nat.reduceEqDiff, Nat.reduceAdd, Nat.reduceLeDiff, Int.reduceLE, Int.reduceLT, Int.reduceAdd, Int.reduceSub, Int.reduceNeg, Int.reduceBEq, Int.reduceBNe, Int.reduceEq, Int.reduceGT, Int.reduceGE, Int.reduceMul, Int.reduceToNat, Int.reducePow, Nat.reduceMul, reduceCtorEq, g0, g5, g6, g7, g8, q1, q2, q3, a192, a63, w1, w2, w3, w4, mb] <;> rfl)) (r1A_of (r1_cont hl (by omega) hjn hv) rfl rfl) ⟨trivial, trivial, trivial⟩ hk2
        · have hv : bt (bs s) (j + 1) / 64 = 2 := by
            have : ((bt (bs s) (j + 1) : Nat) : Int) / 64 * 64 = 128 := by simpa using hv
            omega
          refine AWp.skip (aw_then ?_)
          (refine aw_regionL hS (by kernel_rfl) ?_; repeat (first | apply vr0u | apply vr4 | apply b_tt | apply b_ff | apply b_tf | apply b_ft | apply b_no | exact isD.mk rfl | (apply eqG; (simp only [push_cast, ↓reduceIte, Nat.reduceEqDiff, Nat.reduceAdd, Nat.reduceLeDiff, Int.reduceLE, Int.reduceLT, Int.reduceAdd, Int.reduceSub, Int.reduceNeg, Int.reduceBEq, Int.reduceBNe, Int.reduceEq, Int.reduceGT, Int.reduceGE, Int.reduceMul, Int.reduceToNat, Int.reducePow, Nat.reduceMul, reduceCtorEq, g0, g5, g6, g7, g8, q1, q2, q3, a192, a63, w1, w2, w3, w4, mb] <;> rfl))))
          refine vr_nil (aw_in (aw_then ?_))
          (refine aw_regionL hS (by kernel_rfl) ?_; repeat (first | apply vr0u | apply vr4 | apply b_tt | apply b_ff | apply b_tf | apply b_ft | apply b_no | exact isD.mk rfl | (apply eqG; (simp only [push_cast, ↓reduceIte, Nat.reduceEqDiff, Nat.reduceAdd, Nat.reduceLeDiff, Int.reduceLE, Int.reduceLT, Int.reduceAdd, Int.reduceSub, Int.reduceNeg, Int.reduceBEq, Int.reduceBNe, Int.reduceEq, Int.reduceGT, Int.reduceGE, Int.reduceMul, Int.reduceToNat, Int.reducePow, Nat.reduceMul, reduceCtorEq, g0, g5, g6, g7, g8, q1, q2, q3, a192, a63, w1, w2, w3, w4, mb] <;> rfl))))
          exact vr_nil (aw_then ⟨n1 - (j + 1 + 1), by omega, j + 1, rfl, hjn, fun m h1 h2 => if h3 : m = j + 1 then by rw [h3]; exact hv else hc m h1 (by omega), by (simp only [push_cast, ↓reduceIte, Nat.reduceEqDiff, Nat.reduceAdd, Nat.reduceLeDiff, Int.reduceLE, Int.reduceLT, Int.reduceAdd, Int.reduceSub, Int.reduceNeg, Int.reduceBEq, Int.reduceBNe, Int.reduceEq, Int.reduceGT, Int.reduceGE, Int.reduceMul, Int.reduceToNat, Int.reducePow, Nat.reduceMul, reduceCtorEq, g0, g5, g6, g7, g8, q1, q2, q3, a192, a63, w1, w2, w3, w4, mb] <;> rfl), by (simp only [push_cast, ↓reduceIte, Nat.reduceEqDiff, Nat.reduceAdd, Nat.reduceLeDiff, Int.reduceLE, Int.reduceLT, Int.reduceAdd, Int.reduceSub, Int.reduceNeg, Int.reduceBEq, Int.reduceBNe, Int.reduceEq, Int.reduceGT, Int.reduceGE, Int.reduceMul, Int.reduceToNat, Int.reducePow, Nat.reduceMul, reduceCtorEq, g0, g5, g6, g7, g8, q1, q2, q3, a192, a63, w1, w2, w3, w4, mb] <;> rfl), by (simp only [push_cast, ↓reduceIte, Nat.reduceEqDiff, Nat.reduceAdd, Nat.reduceLeDiff, Int.reduceLE, Int.reduceLT, Int.reduceAdd, Int.reduceSub, Int.reduceNeg, Int.reduceBEq, Int.reduceBNe, Int.reduceEq, Int.reduceGT, Int.reduceGE, Int.reduceMul, Int.reduceToNat, Int.reducePow, Nat.reduceMul, reduceCtorEq, g0, g5, g6, g7, g8, q1, q2, q3, a192, a63, w1, w2, w3, w4, mb] <;> rfl), by (simp only [push_cast, ↓reduceIte, Nat.reduceEqDiff, Nat.reduceAdd, Nat.reduceLeDiff, Int.reduceLE, Int.reduceLT, Int.reduceAdd, Int.reduceSub, Int.reduceNeg, Int.reduceBEq, Int.reduceBNe, Int.reduceEq, Int.reduceGT, Int.reduceGE, Int.reduceMul, Int.reduceToNat, Int.reducePow, Nat.reduceMul, reduceCtorEq, g0, g5, g6, g7, g8, q1, q2, q3, a192, a63, w1, w2, w3, w4, mb] <;> rfl), by (simp only [push_cast, ↓reduceIte, Nat.reduceEqDiff, Nat.reduceAdd, Nat.reduceLeDiff, Int.reduceLE, Int.reduceLT, Int.reduceAdd, Int.reduceSub, Int.reduceNeg, Int.reduceBEq, Int.reduceBNe, Int.reduceEq, Int.reduceGT, Int.reduceGE, Int.reduceMul, Int.reduceToNat, Int.reducePow, Nat.reduceMul, reduceCtorEq, g0, g5, g6, g7, g8, q1, q2, q3, a192, a63, w1, w2, w3, w4, mb] <;> rfl), hk2⟩)
      · have hjn : n1 = j + 1 := by omega
        have q1 : ((j : Int) + 1 < (n1 : Int)) = False := by simp only [eq_iff_iff, iff_false]; omega
        refine AWp.seq ?_
        refine AWp.seq ?_
        (refine aw_regionL hS (by kernel_rfl) ?_; repeat (first | apply vr0u | apply vr4 | apply b_tt | apply b_ff | apply b_tf | apply b_ft | apply b_no | exact isD.mk rfl | (apply eqG; (simp only [push_cast, ↓reduceIte, Nat.reduceEqDiff, Nat.reduceAdd, Nat.reduceLeDiff, Int.reduceLE, Int.reduceLT, Int.reduceAdd, Int.reduceSub, Int.reduceNeg, Int.reduceBEq, Int.reduceBNe, Int.reduceEq, Int.reduceGT, Int.reduceGE, Int.reduceMul, Int.reduceToNat, Int.reducePow, Nat.reduceMul, reduceCtorEq, g0, g5, g6, g7, g8, q1] <;> rfl))))
        refine vr_nil (aw_then ?_)
        refine aw_false (by (simp only [push_cast, ↓reduceIte, Nat.reduceEqDiff, Nat.reduceAdd, Nat.reduceLeDiff, Int.reduceLE, Int.reduceLT, Int.reduceAdd, Int.reduceSub, Int.reduceNeg, Int.reduceBEq, Int.reduceBNe, Int.reduceEq, Int.reduceGT, Int.reduceGE, Int.reduceMul, Int.reduceToNat, Int.reducePow, Nat.reduceMul, reduceCtorEq, g0, g5, g6, g7, g8, q1] <;> rfl)) (AWp.exit (aw_thru (aw_thru (aw_exit (aw_then ?_)))))
        have hcc : ∀ m, 1 ≤ m → m < n1 → bt (bs s) m / 64 = 2 := fun m h1 h2 => hc m h1 (by omega)
        have hn1 : j = n1 - 1 := by omega
        rw [hn1] at g6
        have bad : ¬ fits (accF (bs s) c0 (n1 - 1)) least → r1 (bs s) = (0, 0) := r1_bad hl (by omega) hcc
        have good : fits (accF (bs s) c0 (n1 - 1)) least → r1 (bs s) = (accF (bs s) c0 (n1 - 1), n1) := r1_good hl (by omega) hcc
        unfold fits at bad good
        generalize accF (bs s) c0 (n1 - 1) = a at *
        obtain ⟨ai, hai⟩ : ∃ ai : Int, ((a : Nat) : Int) = ai := ⟨_, rfl⟩
        rw [hai] at g6
        obtain ⟨li, hli⟩ : ∃ li : Int, ((least : Nat) : Int) = li := ⟨_, rfl⟩
        rw [hli] at g7
        refine AWp.seq ?_
        refine AWp.seq ?_
        (refine aw_regionL hS (by kernel_rfl) ?_; repeat (first | apply vr0u | apply vr4 | apply b_tt | apply b_ff | apply b_tf | apply b_ft | apply b_no | exact isD.mk rfl | (apply eqG; (simp only [push_cast, ↓reduceIte, Nat.reduceEqDiff, Nat.reduceAdd, Nat.reduceLeDiff, Int.reduceLE, Int.reduceLT, Int.reduceAdd, Int.reduceSub, Int.reduceNeg, Int.reduceBEq, Int.reduceBNe, Int.reduceEq, Int.reduceGT, Int.reduceGE, Int.reduceMul, Int.reduceToNat, Int.reducePow, Nat.reduceMul, reduceCtorEq, g0, g5, g6, g7, g8] <;> rfl))))
        refine br_s (by (simp only [push_cast, ↓reduceIte, Nat.reduceEqDiff, Nat.reduceAdd, Nat.reduceLeDiff, Int.reduceLE, Int.reduceLT, Int.reduceAdd, Int.reduceSub, Int.reduceNeg, Int.reduceBEq, Int.reduceBNe, Int.reduceEq, Int.reduceGT, Int.reduceGE, Int.reduceMul, Int.reduceToNat, Int.reducePow, Nat.reduceMul, reduceCtorEq, g0, g5, g6, g7, g8] <;> rfl)) (fun hu => ?_) (fun hu => ?_)
        · have hu := of_decide_eq_true hu
          repeat (first | apply vr0u | apply vr4 | apply b_tt | apply b_ff | apply b_tf | apply b_ft | apply b_no | exact isD.mk rfl | (apply eqG; (simp only [push_cast, ↓reduceIte, Nat.reduceEqDiff, Nat.reduceAdd, Nat.reduceLeDiff, Int.reduceLE, Int.reduceLT, Int.reduceAdd, Int.reduceSub, Int.reduceNeg, Int.reduceBEq, Int.reduceBNe, Int.reduceEq, Int.reduceGT, Int.reduceGE, Int.reduceMul, Int.reduceToNat, Int.reducePow, Nat.reduceMul, reduceCtorEq, g0, g5, g6, g7, g8] <;> rfl)))
          refine vr_nil (aw_then ?_)
          refine aw_true (by (simp only [push_cast, ↓reduceIte, Nat.reduceEqDiff, Nat.reduceAdd, Nat.reduceLeDiff, Int.reduceLE, Int.reduceLT, Int.reduceAdd, Int.reduceSub, Int.reduceNeg, Int.reduceBEq, Int.reduceBNe, Int.reduceEq, Int.reduceGT, Int.reduceGE, Int.reduceMul, Int.reduceToNat, Int.reducePow, Nat.reduceMul, reduceCtorEq, g0, g5, g6, g7, g8] <;> rfl)) ?_
          refine AWp.seq ?_; (refine aw_regionL hS (by kernel_rfl) ?_; repeat (first | apply vr0u | apply vr4 | apply b_tt | apply b_ff | apply b_tf | apply b_ft | apply b_no | exact isD.mk rfl | (apply eqG; (simp only [push_cast, ↓reduceIte, Nat.reduceEqDiff, Nat.reduceAdd, Nat.reduceLeDiff, Int.reduceLE, Int.reduceLT, Int.reduceAdd, Int.reduceSub, Int.reduceNeg, Int.reduceBEq, Int.reduceBNe, Int.reduceEq, Int.reduceGT, Int.reduceGE, Int.reduceMul, Int.reduceToNat, Int.reducePow, Nat.reduceMul, reduceCtorEq, g0, g5, g6, g7, g8] <;> rfl)))); refine vr_nil (aw_then ?_); refine AWp.ret ?_
          exact Out.pure2 (.inr rfl) rfl (by (simp only [push_cast, ↓reduceIte, Nat.reduceEqDiff, Nat.reduceAdd, Nat.reduceLeDiff, Int.reduceLE, Int.reduceLT, Int.reduceAdd, Int.reduceSub, Int.reduceNeg, Int.reduceBEq, Int.reduceBNe, Int.reduceEq, Int.reduceGT, Int.reduceGE, Int.reduceMul, Int.reduceToNat, Int.reducePow, Nat.reduceMul, reduceCtorEq, g0, g5, g6, g7, g8] <;> rfl)) (by (simp only [push_cast, ↓reduceIte, Nat.reduceEqDiff, Nat.reduceAdd, Nat.reduceLeDiff, Int.reduceLE, Int.reduceLT, Int.reduceAdd, Int.reduceSub, Int.reduceNeg, Int.reduceBEq, Int.reduceBNe, Int.reduceEq, Int.reduceGT, Int.reduceGE, Int.reduceMul, Int.reduceToNat, Int.reducePow, Nat.reduceMul, reduceCtorEq, g0, g5, g6, g7, g8] <;> rfl)) (r1A_of (bad (by omega)) rfl rfl) ⟨trivial, trivial, trivial⟩ hk2
        have hu := of_decide_eq_false hu
        repeat (first | apply vr0u | apply vr4 | apply b_tt | apply b_ff | apply b_tf | apply b_ft | apply b_no | exact isD.mk rfl | (apply eqG; (simp only [push_cast, ↓reduceIte, Nat.reduceEqDiff, Nat.reduceAdd, Nat.reduceLeDiff, Int.reduceLE, Int.reduceLT, Int.reduceAdd, Int.reduceSub, Int.reduceNeg, Int.reduceBEq, Int.reduceBNe, Int.reduceEq, Int.reduceGT, Int.reduceGE, Int.reduceMul, Int.reduceToNat, Int.reducePow, Nat.reduceMul, reduceCtorEq, g0, g5, g6, g7, g8] <;> rfl)))
        refine br_s (by (simp only [push_cast, ↓reduceIte, Nat.reduceEqDiff, Nat.reduceAdd, Nat.reduceLeDiff, Int.reduceLE, Int.reduceLT, Int.reduceAdd, Int.reduceSub, Int.reduceNeg, Int.reduceBEq, Int.reduceBNe, Int.reduceEq, Int.reduceGT, Int.reduceGE, Int.reduceMul, Int.reduceToNat, Int.reducePow, Nat.reduceMul, reduceCtorEq, g0, g5, g6, g7, g8] <;> rfl)) (fun hv => ?_) (fun hv => ?_)
        · have hv := of_decide_eq_true hv
          repeat (first | apply vr0u | apply vr4 | apply b_tt | apply b_ff | apply b_tf | apply b_ft | apply b_no | exact isD.mk rfl | (apply eqG; (simp only [push_cast, ↓reduceIte, Nat.reduceEqDiff, Nat.reduceAdd, Nat.reduceLeDiff, Int.reduceLE, Int.reduceLT, Int.reduceAdd, Int.reduceSub, Int.reduceNeg, Int.reduceBEq, Int.reduceBNe, Int.reduceEq, Int.reduceGT, Int.reduceGE, Int.reduceMul, Int.reduceToNat, Int.reducePow, Nat.reduceMul, reduceCtorEq, g0, g5, g6, g7, g8] <;> rfl)))
          refine br_s (by (simp only [push_cast, ↓reduceIte, Nat.reduceEqDiff, Nat.reduceAdd, Nat.reduceLeDiff, Int.reduceLE, Int.reduceLT, Int.reduceAdd, Int.reduceSub, Int.reduceNeg, Int.reduceBEq, Int.reduceBNe, Int.reduceEq, Int.reduceGT, Int.reduceGE, Int.reduceMul, Int.reduceToNat, Int.reducePow, Nat.reduceMul, reduceCtorEq, g0, g5, g6, g7, g8] <;> rfl)) (fun hw => ?_) (fun hw => ?_)
          · have hw := of_decide_eq_true hw
            repeat (first | apply vr0u | apply vr4 | apply b_tt | apply b_ff | apply b_tf | apply b_ft | apply b_no | exact isD.mk rfl | (apply eqG; (simp only [push_cast, ↓reduceIte, Nat.reduceEqDiff, Nat.reduceAdd, Nat.reduceLeDiff, Int.reduceLE, Int.reduceLT, Int.reduceAdd, Int.reduceSub, Int.reduceNeg, Int.reduceBEq, Int.reduceBNe, Int.reduceEq, Int.reduceGT, Int.reduceGE, Int.reduceMul, Int.reduceToNat, Int.reducePow, Nat.reduceMul, reduceCtorEq, g0, g5, g6, g7, g8] <;> rfl)))
            refine vr_nil (aw_then ?_)
            refine aw_true (by (simp only [push_cast, ↓reduceIte, Nat.reduceEqDiff, Nat.reduceAdd, Nat.reduceLeDiff, Int.reduceLE, Int.reduceLT, Int.reduceAdd, Int.reduceSub, Int.reduceNeg, Int.reduceBEq, Int.reduceBNe, Int.reduceEq, Int.reduceGT, Int.reduceGE, Int.reduceMul, Int.reduceToNat, Int.reducePow, Nat.reduceMul, reduceCtorEq, g0, g5, g6, g7, g8] <;> rfl)) ?_
            refine AWp.seq ?_; (refine aw_regionL hS (by kernel_rfl) ?_; repeat (first | apply vr0u | apply vr4 | apply b_tt | apply b_ff | apply b_tf | apply b_ft | apply b_no | exact isD.mk rfl | (apply eqG; (simp only [push_cast, ↓reduceIte, Nat.reduceEqDiff, Nat.reduceAdd, Nat.reduceLeDiff, Int.reduceLE, Int.reduceLT, Int.reduceAdd, Int.reduceSub, Int.reduceNeg, Int.reduceBEq, Int.reduceBNe, Int.reduceEq, Int.reduceGT, Int.reduceGE, Int.reduceMul, Int.reduceToNat, Int.reducePow, Nat.reduceMul, reduceCtorEq, g0, g5, g6, g7, g8] <;> rfl)))); refine vr_nil (aw_then ?_); refine AWp.ret ?_
            exact Out.pure2 (.inr rfl) rfl (by (simp only [push_cast, ↓reduceIte, Nat.reduceEqDiff, Nat.reduceAdd, Nat.reduceLeDiff, Int.reduceLE, Int.reduceLT, Int.reduceAdd, Int.reduceSub, Int.reduceNeg, Int.reduceBEq, Int.reduceBNe, Int.reduceEq, Int.reduceGT, Int.reduceGE, Int.reduceMul, Int.reduceToNat, Int.reducePow, Nat.reduceMul, reduceCtorEq, g0, g5, g6, g7, g8] <;> rfl)) (by (simp only [push_cast, ↓reduceIte, Nat.reduceEqDiff, Nat.reduceAdd, Nat.reduceLeDiff, Int.reduceLE, Int.reduceLT, Int.reduceAdd, Int.reduceSub, Int.reduceNeg, Int.reduceBEq, Int.reduceBNe, Int.reduceEq, Int.reduceGT, Int.reduceGE, Int.reduceMul, Int.reduceToNat, Int.reducePow, Nat.reduceMul, reduceCtorEq, g0, g5, g6, g7, g8] <;> rfl)) (r1A_of (bad (by omega)) rfl rfl) ⟨trivial, trivial, trivial⟩ hk2
          · have hw := of_decide_eq_false hw
            repeat (first | apply vr0u | apply vr4 | apply b_tt | apply b_ff | apply b_tf | apply b_ft | apply b_no | exact isD.mk rfl | (apply eqG; (simp only [push_cast, ↓reduceIte, Nat.reduceEqDiff, Nat.reduceAdd, Nat.reduceLeDiff, Int.reduceLE, Int.reduceLT, Int.reduceAdd, Int.reduceSub, Int.reduceNeg, Int.reduceBEq, Int.reduceBNe, Int.reduceEq, Int.reduceGT, Int.reduceGE, Int.reduceMul, Int.reduceToNat, Int.reducePow, Nat.reduceMul, reduceCtorEq, g0, g5, g6, g7, g8] <;> rfl)))
            refine vr_nil (aw_then ?_)
            refine aw_split (by (simp only [push_cast, ↓reduceIte, Nat.reduceEqDiff, Nat.reduceAdd, Nat.reduceLeDiff, Int.reduceLE, Int.reduceLT, Int.reduceAdd, Int.reduceSub, Int.reduceNeg, Int.reduceBEq, Int.reduceBNe, Int.reduceEq, Int.reduceGT, Int.reduceGE, Int.reduceMul, Int.reduceToNat, Int.reducePow, Nat.reduceMul, reduceCtorEq, g0, g5, g6, g7, g8] <;> rfl)) (fun hx => ?_) (fun hx => ?_)
            · have hx := of_decide_eq_true hx
              refine AWp.seq ?_; (refine aw_regionL hS (by kernel_rfl) ?_; repeat (first | apply vr0u | apply vr4 | apply b_tt | apply b_ff | apply b_tf | apply b_ft | apply b_no | exact isD.mk rfl | (apply eqG; (simp only [push_cast, ↓reduceIte, Nat.reduceEqDiff, Nat.reduceAdd, Nat.reduceLeDiff, Int.reduceLE, Int.reduceLT, Int.reduceAdd, Int.reduceSub, Int.reduceNeg, Int.reduceBEq, Int.reduceBNe, Int.reduceEq, Int.reduceGT, Int.reduceGE, Int.reduceMul, Int.reduceToNat, Int.reducePow, Nat.reduceMul, reduceCtorEq, g0, g5, g6, g7, g8] <;> rfl)))); refine vr_nil (aw_then ?_); refine AWp.ret ?_
              exact Out.pure2 (.inr rfl) rfl (by (simp only [push_cast, ↓reduceIte, Nat.reduceEqDiff, Nat.reduceAdd, Nat.reduceLeDiff, Int.reduceLE, Int.reduceLT, Int.reduceAdd, Int.reduceSub, Int.reduceNeg, Int.reduceBEq, Int.reduceBNe, Int.reduceEq, Int.reduceGT, Int.reduceGE, Int.reduceMul, Int.reduceToNat, Int.reducePow, Nat.reduceMul, reduceCtorEq, g0, g5, g6, g7, g8] <;> rfl)) (by (simp only [push_cast, ↓reduceIte, Nat.reduceEqDiff, Nat.reduceAdd, Nat.reduceLeDiff, Int.reduceLE, Int.reduceLT, Int.reduceAdd, Int.reduceSub, Int.reduceNeg, Int.reduceBEq, Int.reduceBNe, Int.reduceEq, Int.reduceGT, Int.reduceGE, Int.reduceMul, Int.reduceToNat, Int.reducePow, Nat.reduceMul, reduceCtorEq, g0, g5, g6, g7, g8] <;> rfl)) (r1A_of (bad (by omega)) rfl rfl) ⟨trivial, trivial, trivial⟩ hk2
            · have hx := of_decide_eq_false hx
              refine AWp.skip (aw_then ?_)
              refine AWp.seq ?_; (refine aw_regionL hS (by kernel_rfl) ?_; repeat (first | apply vr0u | apply vr4 | apply b_tt | apply b_ff | apply b_tf | apply b_ft | apply b_no | exact isD.mk rfl | (apply eqG; (simp only [push_cast, ↓reduceIte, Nat.reduceEqDiff, Nat.reduceAdd, Nat.reduceLeDiff, Int.reduceLE, Int.reduceLT, Int.reduceAdd, Int.reduceSub, Int.reduceNeg, Int.reduceBEq, Int.reduceBNe, Int.reduceEq, Int.reduceGT, Int.reduceGE, Int.reduceMul, Int.reduceToNat, Int.reducePow, Nat.reduceMul, reduceCtorEq, g0, g5, g6, g7, g8] <;> rfl)))); refine vr_nil (aw_then ?_); refine AWp.ret ?_
              exact Out.pure2 (.inr rfl) rfl (by (simp only [push_cast, ↓reduceIte, Nat.reduceEqDiff, Nat.reduceAdd, Nat.reduceLeDiff, Int.reduceLE, Int.reduceLT, Int.reduceAdd, Int.reduceSub, Int.reduceNeg, Int.reduceBEq, Int.reduceBNe, Int.reduceEq, Int.reduceGT, Int.reduceGE, Int.reduceMul, Int.reduceToNat, Int.reducePow, Nat.reduceMul, reduceCtorEq, g0, g5, g6, g7, g8] <;> rfl)) (by (simp only [push_cast, ↓reduceIte, Nat.reduceEqDiff, Nat.reduceAdd, Nat.reduceLeDiff, Int.reduceLE, Int.reduceLT, Int.reduceAdd, Int.reduceSub, Int.reduceNeg, Int.reduceBEq, Int.reduceBNe, Int.reduceEq, Int.reduceGT, Int.reduceGE, Int.reduceMul, Int.reduceToNat, Int.reducePow, Nat.reduceMul, reduceCtorEq, g0, g5, g6, g7, g8] <;> rfl)) (r1A_of (good (by omega)) hai.symm rfl) ⟨trivial, trivial, trivial⟩ hk2
        · have hv := of_decide_eq_false hv
          repeat (first | apply vr0u | apply vr4 | apply b_tt | apply b_ff | apply b_tf | apply b_ft | apply b_no | exact isD.mk rfl | (apply eqG; (simp only [push_cast, ↓reduceIte, Nat.reduceEqDiff, Nat.reduceAdd, Nat.reduceLeDiff, Int.reduceLE, Int.reduceLT, Int.reduceAdd, Int.reduceSub, Int.reduceNeg, Int.reduceBEq, Int.reduceBNe, Int.reduceEq, Int.reduceGT, Int.reduceGE, Int.reduceMul, Int.reduceToNat, Int.reducePow, Nat.reduceMul, reduceCtorEq, g0, g5, g6, g7, g8] <;> rfl)))
          refine vr_nil (aw_then ?_)
          refine aw_split (by (simp only [push_cast, ↓reduceIte, Nat.reduceEqDiff, Nat.reduceAdd, Nat.reduceLeDiff, Int.reduceLE, Int.reduceLT, Int.reduceAdd, Int.reduceSub, Int.reduceNeg, Int.reduceBEq, Int.reduceBNe, Int.reduceEq, Int.reduceGT, Int.reduceGE, Int.reduceMul, Int.reduceToNat, Int.reducePow, Nat.reduceMul, reduceCtorEq, g0, g5, g6, g7, g8] <;> rfl)) (fun hx => ?_) (fun hx => ?_)
          · have hx := of_decide_eq_true hx
            refine AWp.seq ?_; (refine aw_regionL hS (by kernel_rfl) ?_; repeat (first | apply vr0u | apply vr4 | apply b_tt | apply b_ff | apply b_tf | apply b_ft | apply b_no | exact isD.mk rfl | (apply eqG; (simp only [push_cast, ↓reduceIte, Nat.reduceEqDiff, Nat.reduceAdd, Nat.reduceLeDiff, Int.reduceLE, Int.reduceLT, Int.reduceAdd, Int.reduceSub, Int.reduceNeg, Int.reduceBEq, Int.reduceBNe, Int.reduceEq, Int.reduceGT, Int.reduceGE, Int.reduceMul, Int.reduceToNat, Int.reducePow, Nat.reduceMul, reduceCtorEq, g0, g5, g6, g7, g8] <;> rfl)))); refine vr_nil (aw_then ?_); refine AWp.ret ?_
            exact Out.pure2 (.inr rfl) rfl (by (simp only [push_cast, ↓reduceIte, Nat.reduceEqDiff, Nat.reduceAdd, Nat.reduceLeDiff, Int.reduceLE, Int.reduceLT, Int.reduceAdd, Int.reduceSub, Int.reduceNeg, Int.reduceBEq, Int.reduceBNe, Int.reduceEq, Int.reduceGT, Int.reduceGE, Int.reduceMul, Int.reduceToNat, Int.reducePow, Nat.reduceMul, reduceCtorEq, g0, g5, g6, g7, g8] <;> rfl)) (by (simp only [push_cast, ↓reduceIte, Nat.reduceEqDiff, Nat.reduceAdd, Nat.reduceLeDiff, Int.reduceLE, Int.reduceLT, Int.reduceAdd, Int.reduceSub, Int.reduceNeg, Int.reduceBEq, Int.reduceBNe, Int.reduceEq, Int.reduceGT, Int.reduceGE, Int.reduceMul, Int.reduceToNat, Int.reducePow, Nat.reduceMul, reduceCtorEq, g0, g5, g6, g7, g8] <;> rfl)) (r1A_of (bad (by omega)) rfl rfl) ⟨trivial, trivial, trivial⟩ hk2
          · have hx := of_decide_eq_false hx
            refine AWp.skip (aw_then ?_)
            refine AWp.seq ?_; (refine aw_regionL hS (by kernel_rfl) ?_; repeat (first | apply vr0u | apply vr4 | apply b_tt | apply b_ff | apply b_tf | apply b_ft | apply b_no | exact isD.mk rfl | (apply eqG; (simp only [push_cast, ↓reduceIte, Nat.reduceEqDiff, Nat.reduceAdd, Nat.reduceLeDiff, Int.reduceLE, Int.reduceLT, Int.reduceAdd, Int.reduceSub, Int.reduceNeg, Int.reduceBEq, Int.reduceBNe, Int.reduceEq, Int.reduceGT, Int.reduceGE, Int.reduceMul, Int.reduceToNat, Int.reducePow, Nat.reduceMul, reduceCtorEq, g0, g5, g6, g7, g8] <;> rfl)))); refine vr_nil (aw_then ?_); refine AWp.ret ?_
            exact Out.pure2 (.inr rfl) rfl (by (simp only [push_cast, ↓reduceIte, Nat.reduceEqDiff, Nat.reduceAdd, Nat.reduceLeDiff, Int.reduceLE, Int.reduceLT, Int.reduceAdd, Int.reduceSub, Int.reduceNeg, Int.reduceBEq, Int.reduceBNe, Int.reduceEq, Int.reduceGT, Int.reduceGE, Int.reduceMul, Int.reduceToNat, Int.reducePow, Nat.reduceMul, reduceCtorEq, g0, g5, g6, g7, g8] <;> rfl)) (by (simp only [push_cast, ↓reduceIte, Nat.reduceEqDiff, Nat.reduceAdd, Nat.reduceLeDiff, Int.reduceLE, Int.reduceLT, Int.reduceAdd, Int.reduceSub, Int.reduceNeg, Int.reduceBEq, Int.reduceBNe, Int.reduceEq, Int.reduceGT, Int.reduceGE, Int.reduceMul, Int.reduceToNat, Int.reducePow, Nat.reduceMul, reduceCtorEq, g0, g5, g6, g7, g8] <;> rfl)) (r1A_of (good (by omega)) hai.symm rfl) ⟨trivial, trivial, trivial⟩ hk2
end Go.Proofs.Ytpgohmcolcfhfaa
