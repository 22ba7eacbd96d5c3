import Derived.Test.YtmkefpjpghmonaaGreatCrFacts
import Derived.Shelf.Spec.BitsCarry
namespace Go.Proofs.YtmkefpjpghmonaaGreat
open Go.Av
set_option maxRecDepth 100000
set_option maxHeartbeats 1000000
set_option linter.unusedSimpArgs false
set_option linter.unusedVariables false

/-! ### numbers below 2 ^ 256: four digits -/
def dg (a i : Nat) : Nat := a / 2 ^ (64 * i) % 2 ^ 64
def numC (a : Nat) : List AV := [.i .u64 (dg a 0 : Nat), .i .u64 (dg a 1 : Nat), .i .u64 (dg a 2 : Nat), .i .u64 (dg a 3 : Nat)]
theorem dg_lt (a i : Nat) : dg a i < 18446744073709551616 := Nat.mod_lt _ (by decide)
def M256 : Nat := 115792089237316195423570985008687907853269984665640564039457584007913129639936
theorem dg_all {a : Nat} (h : a < M256) : a = dg a 0 + 18446744073709551616 * dg a 1 + 340282366920938463463374607431768211456 * dg a 2 + 6277101735386680763835789423207666416102355444464034512896 * dg a 3 := by
  unfold dg M256 at *
  simp only [Nat.reduceMul, Nat.reducePow, Nat.div_one]
  omega
theorem dg_of {a0 a1 a2 a3 : Nat} (h0 : a0 < 18446744073709551616) (h1 : a1 < 18446744073709551616) (h2 : a2 < 18446744073709551616) (h3 : a3 < 18446744073709551616) :
    numC (a0 + 18446744073709551616 * a1 + 340282366920938463463374607431768211456 * a2 + 6277101735386680763835789423207666416102355444464034512896 * a3) = [.i .u64 (a0 : Int), .i .u64 (a1 : Int), .i .u64 (a2 : Int), .i .u64 (a3 : Int)] := by
  unfold numC dg
  simp only [Nat.reduceMul, Nat.reducePow, Nat.div_one]
  have e0 : (a0 + 18446744073709551616 * a1 + 340282366920938463463374607431768211456 * a2 + 6277101735386680763835789423207666416102355444464034512896 * a3) % 18446744073709551616 = a0 := by omega
  have e1 : (a0 + 18446744073709551616 * a1 + 340282366920938463463374607431768211456 * a2 + 6277101735386680763835789423207666416102355444464034512896 * a3) / 18446744073709551616 % 18446744073709551616 = a1 := by omega
  have e2 : (a0 + 18446744073709551616 * a1 + 340282366920938463463374607431768211456 * a2 + 6277101735386680763835789423207666416102355444464034512896 * a3) / 340282366920938463463374607431768211456 % 18446744073709551616 = a2 := by omega
  have e3 : (a0 + 18446744073709551616 * a1 + 340282366920938463463374607431768211456 * a2 + 6277101735386680763835789423207666416102355444464034512896 * a3) / 6277101735386680763835789423207666416102355444464034512896 % 18446744073709551616 = a3 := by omega
  rw [e0, e1, e2, e3]
/-- A number told by its digits and what is over. -/
theorem dg_sum {a c s0 s1 s2 s3 : Nat} (h : a = s0 + 18446744073709551616 * s1 + 340282366920938463463374607431768211456 * s2 + 6277101735386680763835789423207666416102355444464034512896 * s3 + 115792089237316195423570985008687907853269984665640564039457584007913129639936 * c) (k0 : s0 < 18446744073709551616) (k1 : s1 < 18446744073709551616) (k2 : s2 < 18446744073709551616) (k3 : s3 < 18446744073709551616) :
    a / M256 = c ∧ numC (a % M256) = [.i .u64 (s0 : Int), .i .u64 (s1 : Int), .i .u64 (s2 : Int), .i .u64 (s3 : Int)] := by
  rw [← dg_of k0 k1 k2 k3]
  have hlt : s0 + 18446744073709551616 * s1 + 340282366920938463463374607431768211456 * s2 + 6277101735386680763835789423207666416102355444464034512896 * s3 < M256 := by unfold M256; omega
  generalize s0 + 18446744073709551616 * s1 + 340282366920938463463374607431768211456 * s2 + 6277101735386680763835789423207666416102355444464034512896 * s3 = S at h hlt ⊢
  have h : a = S + M256 * c := h
  subst h
  rw [Nat.add_mul_div_left _ _ (by decide), Nat.add_mul_mod_self_left, Nat.div_eq_of_lt hlt, Nat.mod_eq_of_lt hlt]
  exact ⟨Nat.zero_add _, rfl⟩
theorem numC_inj {a b : Nat} (ha : a < M256) (hb : b < M256) (h : numC a = numC b) : a = b := by
  unfold numC at h
  simp only [List.cons.injEq, AV.i.injEq, true_and, and_true] at h
  rw [dg_all ha, dg_all hb]
  omega
/-! ### functions for which the model stands in -/
theorem rvs_i3 {C : Cx} {k1 k2 k3 : IntKind} {a b c : Int} {xs : List Value} (h : RVs C [.i k1 a, .i k2 b, .i k3 c] xs) : xs = [.int k1 a, .int k2 b, .int k3 c] := by
  obtain ⟨hl, hv⟩ := h
  match xs, hl with
  | [x, y, z], _ =>
    have h1 := (hv 0 _ _ rfl rfl).inv_i
    have h2 := (hv 1 _ _ rfl rfl).inv_i
    have h3 := (hv 2 _ _ rfl rfl).inv_i
    rw [h1, h2, h3]
theorem rv_tup2 {C : Cx} {x y : AV} {a b : Value} (h1 : RV C x a) (h2 : RV C y b) : RV C (.tup [x, y]) (.tuple #[a, b]) := by
  refine .tup _ _ rfl fun k z v hz hv => ?_
  match k, hz, hv with
  | 0, hz, hv => simp at hz hv; rw [← hz, ← hv]; exact h1
  | 1, hz, hv => simp at hz hv; rw [← hz, ← hv]; exact h2
theorem x313 (x y c : Nat) (hc : c ≤ 1) : XCalls Tryz.prog 313 [.i .u64 (x : Int), .i .u64 (y : Int), .i .u64 (c : Int)] (.tup [.i .u64 ((x + y + c) % 18446744073709551616 : Nat), .i .u64 ((x + y + c) / 18446744073709551616 : Nat)]) := by
  intro C w xs hxs
  obtain rfl := rvs_i3 hxs
  refine ⟨_, ?_, rv_tup2 (.i _ _) (.i _ _)⟩
  rw [run_callFunc_extern Tryz.func313 (by kernel_rfl) (by kernel_rfl) (by kernel_rfl) (e := add64Entry) (by kernel_rfl), run_add64 x y c (by omega) (by omega) (by omega) (by omega)]
  simp only [Result.andThen]
  congr 5 <;> omega
theorem x290 (x y b : Nat) (hb : b ≤ 1) : XCalls Tryz.prog 290 [.i .u64 (x : Int), .i .u64 (y : Int), .i .u64 (b : Int)] (.tup [.i .u64 ((x + 18446744073709551616 - y - b) % 18446744073709551616 : Nat), .i .u64 ((if x < y + b then 1 else 0 : Nat) : Int)]) := by
  intro C w xs hxs
  obtain rfl := rvs_i3 hxs
  refine ⟨_, ?_, rv_tup2 (.i _ _) (.i _ _)⟩
  rw [run_callFunc_extern Tryz.func290 (by kernel_rfl) (by kernel_rfl) (by kernel_rfl) (e := sub64Entry) (by kernel_rfl), run_sub64 x y b hb]
  rfl
instance numb (a i : Nat) : Bd (dg a i) 18446744073709551616 := ⟨dg_lt a i⟩
/-! ### bits -/
theorem ofInt_nat (k n : Nat) (h : n < 2 ^ k) : (BitVec.ofInt k (n : Int)).toNat = n := by
  rw [BitVec.toNat_ofInt]
  have e : ((n : Int) % ((2 ^ k : Nat) : Int)) = ((n % 2 ^ k : Nat) : Int) := (Int.natCast_emod ..).symm
  rw [e, Int.toNat_natCast, Nat.mod_eq_of_lt h]
theorem and_u64 (m m' : Nat) (h : m < 18446744073709551616) (h' : m' < 18446744073709551616) : Av.bits .and .u64 (m : Int) (m' : Int) = ((m &&& m' : Nat) : Int) := by
  show IntKind.wrap .u64 ((BitVec.ofInt 64 (m : Int) &&& BitVec.ofInt 64 (m' : Int)).toNat : Int) = _
  rw [BitVec.toNat_and, ofInt_nat 64 m h, ofInt_nat 64 m' h']
  have : m &&& m' ≤ m := Nat.and_le_left
  rw [IntKind.wrap_u64]; omega
theorem or_u64 (m m' : Nat) (h : m < 18446744073709551616) (h' : m' < 18446744073709551616) : Av.bits .or .u64 (m : Int) (m' : Int) = ((m ||| m' : Nat) : Int) := by
  show IntKind.wrap .u64 ((BitVec.ofInt 64 (m : Int) ||| BitVec.ofInt 64 (m' : Int)).toNat : Int) = _
  rw [BitVec.toNat_or, ofInt_nat 64 m h, ofInt_nat 64 m' h']
  have : m ||| m' < 2 ^ 64 := Nat.or_lt_two_pow h h'
  rw [IntKind.wrap_u64]; omega
theorem and1_u64 (m : Nat) (h : m < 18446744073709551616) : Av.bits .and .u64 (m : Int) 1 = ((m % 2 : Nat) : Int) := by
  have := and_u64 m 1 h (by decide)
  rw [Nat.and_one_is_mod] at this
  exact this
theorem and32_u64 (m : Nat) (h : m < 18446744073709551616) : Av.bits .and .u64 (m : Int) 4294967295 = ((m % 4294967296 : Nat) : Int) := by
  have := and_u64 m 4294967295 h (by decide)
  rw [show 4294967295 = 2 ^ 32 - 1 from rfl, Nat.and_two_pow_sub_one_eq_mod] at this
  exact this
def b318_4 : List Nat := [0, 0, 2, 6, 0, 16, 48, 0, 254, 510, 1022, 1022, 2047, 6143, 16383]
def w318_4 : List Nat := [13]
theorem l318 (a b : Nat) [ha : Bd a M256] [hb : Bd b M256] : PCalls Tryz.prog 318 [.agg (numC a), .agg (numC b)] (.tup [.agg (numC ((a + b) % M256)), .i .u64 ((a + b) / M256 : Nat)]) := by
  have ha := ha.lt
  have hb := hb.lt
  obtain ⟨a0, ea0⟩ : ∃ x, x = dg a 0 := ⟨_, rfl⟩
  obtain ⟨a1, ea1⟩ : ∃ x, x = dg a 1 := ⟨_, rfl⟩
  obtain ⟨a2, ea2⟩ : ∃ x, x = dg a 2 := ⟨_, rfl⟩
  obtain ⟨a3, ea3⟩ : ∃ x, x = dg a 3 := ⟨_, rfl⟩
  have la := dg_all ha
  have ka0 := dg_lt a 0
  have ka1 := dg_lt a 1
  have ka2 := dg_lt a 2
  have ka3 := dg_lt a 3
  rw [← ea0, ← ea1, ← ea2, ← ea3] at la
  rw [← ea0] at ka0
  rw [← ea1] at ka1
  rw [← ea2] at ka2
  rw [← ea3] at ka3
  have na : numC a = [.i .u64 (a0 : Int), .i .u64 (a1 : Int), .i .u64 (a2 : Int), .i .u64 (a3 : Int)] := by rw [ea0, ea1, ea2, ea3]; rfl
  clear ea0 ea1 ea2 ea3
  obtain ⟨b0, eb0⟩ : ∃ x, x = dg b 0 := ⟨_, rfl⟩
  obtain ⟨b1, eb1⟩ : ∃ x, x = dg b 1 := ⟨_, rfl⟩
  obtain ⟨b2, eb2⟩ : ∃ x, x = dg b 2 := ⟨_, rfl⟩
  obtain ⟨b3, eb3⟩ : ∃ x, x = dg b 3 := ⟨_, rfl⟩
  have lb := dg_all hb
  have kb0 := dg_lt b 0
  have kb1 := dg_lt b 1
  have kb2 := dg_lt b 2
  have kb3 := dg_lt b 3
  rw [← eb0, ← eb1, ← eb2, ← eb3] at lb
  rw [← eb0] at kb0
  rw [← eb1] at kb1
  rw [← eb2] at kb2
  rw [← eb3] at kb3
  have nb : numC b = [.i .u64 (b0 : Int), .i .u64 (b1 : Int), .i .u64 (b2 : Int), .i .u64 (b3 : Int)] := by rw [eb0, eb1, eb2, eb3]; rfl
  clear eb0 eb1 eb2 eb3
  rw [na, nb]
  obtain ⟨s0, c1, h0⟩ : ∃ s0 c1 : Nat, s0 = (a0 + b0 + 0) % 18446744073709551616 ∧ c1 = (a0 + b0 + 0) / 18446744073709551616 := ⟨_, _, rfl, rfl⟩
  have x0 := x313 a0 b0 0 (by omega)
  rw [← h0.1, ← h0.2] at x0
  obtain ⟨s1, c2, h1⟩ : ∃ s1 c2 : Nat, s1 = (a1 + b1 + c1) % 18446744073709551616 ∧ c2 = (a1 + b1 + c1) / 18446744073709551616 := ⟨_, _, rfl, rfl⟩
  have x1 := x313 a1 b1 c1 (by omega)
  rw [← h1.1, ← h1.2] at x1
  obtain ⟨s2, c3, h2⟩ : ∃ s2 c3 : Nat, s2 = (a2 + b2 + c2) % 18446744073709551616 ∧ c3 = (a2 + b2 + c2) / 18446744073709551616 := ⟨_, _, rfl, rfl⟩
  have x2 := x313 a2 b2 c2 (by omega)
  rw [← h2.1, ← h2.2] at x2
  obtain ⟨s3, c4, h3⟩ : ∃ s3 c4 : Nat, s3 = (a3 + b3 + c3) % 18446744073709551616 ∧ c4 = (a3 + b3 + c3) / 18446744073709551616 := ⟨_, _, rfl, rfl⟩
  have x3 := x313 a3 b3 c3 (by omega)
  rw [← h3.1, ← h3.2] at x3
  have fin : (a + b) / M256 = c4 ∧ numC ((a + b) % M256) = [.i .u64 (s0 : Int), .i .u64 (s1 : Int), .i .u64 (s2 : Int), .i .u64 (s3 : Int)] := by
    obtain ⟨h01, h02⟩ := h0
    obtain ⟨h11, h12⟩ := h1
    obtain ⟨h21, h22⟩ := h2
    obtain ⟨h31, h32⟩ := h3
    have k0 : s0 < 18446744073709551616 := by rw [h01]; exact Nat.mod_lt _ (by decide)
    have k1 : s1 < 18446744073709551616 := by rw [h11]; exact Nat.mod_lt _ (by decide)
    have k2 : s2 < 18446744073709551616 := by rw [h21]; exact Nat.mod_lt _ (by decide)
    have k3 : s3 < 18446744073709551616 := by rw [h31]; exact Nat.mod_lt _ (by decide)
    have d0 : a0 + b0 = s0 + 18446744073709551616 * c1 := by clear h11 h12 h21 h22 h31 h32 la lb; omega
    have d1 : a1 + b1 + c1 = s1 + 18446744073709551616 * c2 := by clear d0 h01 h02 h21 h22 h31 h32 la lb; omega
    have d2 : a2 + b2 + c2 = s2 + 18446744073709551616 * c3 := by clear d0 d1 h01 h02 h11 h12 h31 h32 la lb; omega
    have d3 : a3 + b3 + c3 = s3 + 18446744073709551616 * c4 := by clear d0 d1 d2 h01 h02 h11 h12 h21 h22 la lb; omega
    clear h01 h02 h11 h12 h21 h22 h31 h32 x0 x1 x2 x3 na nb ka0 ka1 ka2 ka3 kb0 kb1 kb2 kb3 ha hb
    exact dg_sum (by rw [la, lb]; omega) k0 k1 k2 k3
  rw [fin.1, fin.2]
  clear fin h0 h1 h2 h3 la lb na nb
  have x0 : XCalls Tryz.prog 313 [.i .u64 (a0 : Int), .i .u64 (b0 : Int), .i .u64 0] (.tup [.i .u64 (s0 : Int), .i .u64 (c1 : Int)]) := x0
  refine pof Tryz.func318 fun h n => ?_
  repeat (first | refine go ?_ | refine drg 4 b318_4 w318_4 ?_)
  refine AWr.loop 5 ?_
  repeat (first | refine go ?_ | refine drg 4 b318_4 w318_4 ?_)
  exact outP
instance (a b : Nat) [Bd a M256] [Bd b M256] : Ct Tryz.prog 318 [.agg (numC a), .agg (numC b)] (.tup [.agg (numC ((a + b) % M256)), .i .u64 ((a + b) / M256 : Nat)]) := ⟨l318 a b⟩
/-! ### limb.Sub -/
theorem dg_dif {a b c S : Nat} (h : a + 115792089237316195423570985008687907853269984665640564039457584007913129639936 * c = S + b) (hc : c ≤ 1) (hS : S < M256) (ha : a < M256) (hb : b < M256) : (a + M256 - b) % M256 = S ∧ (if a < b then 1 else 0) = c := by
  unfold M256 at *
  rcases (show c = 0 ∨ c = 1 by omega) with rfl | rfl
  · refine ⟨by omega, if_neg (by omega)⟩
  · refine ⟨by omega, if_pos (by omega)⟩
def b303_4 : List Nat := [0, 0, 2, 6, 0, 16, 48, 0, 254, 510, 1022, 1022, 2047, 6143, 16383]
def w303_4 : List Nat := [13]
theorem l303 (a b : Nat) [ha : Bd a M256] [hb : Bd b M256] : PCalls Tryz.prog 303 [.agg (numC a), .agg (numC b)] (.tup [.agg (numC ((a + M256 - b) % M256)), .i .u64 ((if a < b then 1 else 0 : Nat) : Int)]) := by
  have ha := ha.lt
  have hb := hb.lt
  obtain ⟨a0, ea0⟩ : ∃ x, x = dg a 0 := ⟨_, rfl⟩
  obtain ⟨a1, ea1⟩ : ∃ x, x = dg a 1 := ⟨_, rfl⟩
  obtain ⟨a2, ea2⟩ : ∃ x, x = dg a 2 := ⟨_, rfl⟩
  obtain ⟨a3, ea3⟩ : ∃ x, x = dg a 3 := ⟨_, rfl⟩
  have la := dg_all ha
  have ka0 := dg_lt a 0
  have ka1 := dg_lt a 1
  have ka2 := dg_lt a 2
  have ka3 := dg_lt a 3
  rw [← ea0, ← ea1, ← ea2, ← ea3] at la
  rw [← ea0] at ka0
  rw [← ea1] at ka1
  rw [← ea2] at ka2
  rw [← ea3] at ka3
  have na : numC a = [.i .u64 (a0 : Int), .i .u64 (a1 : Int), .i .u64 (a2 : Int), .i .u64 (a3 : Int)] := by rw [ea0, ea1, ea2, ea3]; rfl
  clear ea0 ea1 ea2 ea3
  obtain ⟨b0, eb0⟩ : ∃ x, x = dg b 0 := ⟨_, rfl⟩
  obtain ⟨b1, eb1⟩ : ∃ x, x = dg b 1 := ⟨_, rfl⟩
  obtain ⟨b2, eb2⟩ : ∃ x, x = dg b 2 := ⟨_, rfl⟩
  obtain ⟨b3, eb3⟩ : ∃ x, x = dg b 3 := ⟨_, rfl⟩
  have lb := dg_all hb
  have kb0 := dg_lt b 0
  have kb1 := dg_lt b 1
  have kb2 := dg_lt b 2
  have kb3 := dg_lt b 3
  rw [← eb0, ← eb1, ← eb2, ← eb3] at lb
  rw [← eb0] at kb0
  rw [← eb1] at kb1
  rw [← eb2] at kb2
  rw [← eb3] at kb3
  have nb : numC b = [.i .u64 (b0 : Int), .i .u64 (b1 : Int), .i .u64 (b2 : Int), .i .u64 (b3 : Int)] := by rw [eb0, eb1, eb2, eb3]; rfl
  clear eb0 eb1 eb2 eb3
  rw [na, nb]
  obtain ⟨s0, c1, h0⟩ : ∃ s0 c1 : Nat, s0 = (a0 + 18446744073709551616 - b0 - 0) % 18446744073709551616 ∧ c1 = (if a0 < b0 + 0 then 1 else 0) := ⟨_, _, rfl, rfl⟩
  have b0' : c1 ≤ 1 := by rw [h0.2]; split <;> omega
  have x0 := x290 a0 b0 0 (by omega)
  rw [← h0.1, ← h0.2] at x0
  have t0 : s0 < 18446744073709551616 := by rw [h0.1]; exact Nat.mod_lt _ (by decide)
  have d0 : a0 + 18446744073709551616 * c1 = s0 + b0 + 0 := by
    obtain ⟨u1, u2⟩ := h0
    clear la lb x0
    split at u2 <;> omega
  clear h0
  obtain ⟨s1, c2, h1⟩ : ∃ s1 c2 : Nat, s1 = (a1 + 18446744073709551616 - b1 - c1) % 18446744073709551616 ∧ c2 = (if a1 < b1 + c1 then 1 else 0) := ⟨_, _, rfl, rfl⟩
  have b1' : c2 ≤ 1 := by rw [h1.2]; split <;> omega
  have x1 := x290 a1 b1 c1 (by omega)
  rw [← h1.1, ← h1.2] at x1
  have t1 : s1 < 18446744073709551616 := by rw [h1.1]; exact Nat.mod_lt _ (by decide)
  have d1 : a1 + 18446744073709551616 * c2 = s1 + b1 + c1 := by
    obtain ⟨u1, u2⟩ := h1
    clear la lb x1
    split at u2 <;> omega
  clear h1
  obtain ⟨s2, c3, h2⟩ : ∃ s2 c3 : Nat, s2 = (a2 + 18446744073709551616 - b2 - c2) % 18446744073709551616 ∧ c3 = (if a2 < b2 + c2 then 1 else 0) := ⟨_, _, rfl, rfl⟩
  have b2' : c3 ≤ 1 := by rw [h2.2]; split <;> omega
  have x2 := x290 a2 b2 c2 (by omega)
  rw [← h2.1, ← h2.2] at x2
  have t2 : s2 < 18446744073709551616 := by rw [h2.1]; exact Nat.mod_lt _ (by decide)
  have d2 : a2 + 18446744073709551616 * c3 = s2 + b2 + c2 := by
    obtain ⟨u1, u2⟩ := h2
    clear la lb x2
    split at u2 <;> omega
  clear h2
  obtain ⟨s3, c4, h3⟩ : ∃ s3 c4 : Nat, s3 = (a3 + 18446744073709551616 - b3 - c3) % 18446744073709551616 ∧ c4 = (if a3 < b3 + c3 then 1 else 0) := ⟨_, _, rfl, rfl⟩
  have b3' : c4 ≤ 1 := by rw [h3.2]; split <;> omega
  have x3 := x290 a3 b3 c3 (by omega)
  rw [← h3.1, ← h3.2] at x3
  have t3 : s3 < 18446744073709551616 := by rw [h3.1]; exact Nat.mod_lt _ (by decide)
  have d3 : a3 + 18446744073709551616 * c4 = s3 + b3 + c3 := by
    obtain ⟨u1, u2⟩ := h3
    clear la lb x3
    split at u2 <;> omega
  clear h3
  have fin : (a + M256 - b) % M256 = s0 + 18446744073709551616 * s1 + 340282366920938463463374607431768211456 * s2 + 6277101735386680763835789423207666416102355444464034512896 * s3 ∧ (if a < b then 1 else 0) = c4 := by
    clear x0 x1 x2 x3 na nb
    refine dg_dif ?_ b3' (by unfold M256; omega) ha hb
    rw [la, lb]
    omega
  rw [fin.1, fin.2, dg_of t0 t1 t2 t3]
  clear fin la lb na nb d0 d1 d2 d3
  have x0 : XCalls Tryz.prog 290 [.i .u64 (a0 : Int), .i .u64 (b0 : Int), .i .u64 0] (.tup [.i .u64 (s0 : Int), .i .u64 (c1 : Int)]) := x0
  refine pof Tryz.func303 fun h n => ?_
  repeat (first | refine go ?_ | refine drg 4 b303_4 w303_4 ?_)
  refine AWr.loop 5 ?_
  repeat (first | refine go ?_ | refine drg 4 b303_4 w303_4 ?_)
  exact outP
instance (a b : Nat) [Bd a M256] [Bd b M256] : Ct Tryz.prog 303 [.agg (numC a), .agg (numC b)] (.tup [.agg (numC ((a + M256 - b) % M256)), .i .u64 ((if a < b then 1 else 0 : Nat) : Int)]) := ⟨l303 a b⟩
/-! ### limb.Cmp -/
def b273_4 : List Nat := [0, 1, 3, 0, 8, 24, 63, 127]
def w273_4 : List Nat := []
def b273_6 : List Nat := [0, 1, 3, 0, 8, 24, 63, 127]
def w273_6 : List Nat := []
def cmpN (a b : Nat) : Int := if a < b then -1 else if a = b then 0 else 1
theorem l273 (a b : Nat) [ha : Bd a M256] [hb : Bd b M256] : PCalls Tryz.prog 273 [.agg (numC a), .agg (numC b)] (.i .i64 (cmpN a b)) := by
  have ha := ha.lt
  have hb := hb.lt
  obtain ⟨a0, ea0⟩ : ∃ x, x = dg a 0 := ⟨_, rfl⟩
  obtain ⟨a1, ea1⟩ : ∃ x, x = dg a 1 := ⟨_, rfl⟩
  obtain ⟨a2, ea2⟩ : ∃ x, x = dg a 2 := ⟨_, rfl⟩
  obtain ⟨a3, ea3⟩ : ∃ x, x = dg a 3 := ⟨_, rfl⟩
  have la := dg_all ha
  have ka0 := dg_lt a 0
  have ka1 := dg_lt a 1
  have ka2 := dg_lt a 2
  have ka3 := dg_lt a 3
  rw [← ea0, ← ea1, ← ea2, ← ea3] at la
  rw [← ea0] at ka0
  rw [← ea1] at ka1
  rw [← ea2] at ka2
  rw [← ea3] at ka3
  have na : numC a = [.i .u64 (a0 : Int), .i .u64 (a1 : Int), .i .u64 (a2 : Int), .i .u64 (a3 : Int)] := by rw [ea0, ea1, ea2, ea3]; rfl
  clear ea0 ea1 ea2 ea3
  obtain ⟨b0, eb0⟩ : ∃ x, x = dg b 0 := ⟨_, rfl⟩
  obtain ⟨b1, eb1⟩ : ∃ x, x = dg b 1 := ⟨_, rfl⟩
  obtain ⟨b2, eb2⟩ : ∃ x, x = dg b 2 := ⟨_, rfl⟩
  obtain ⟨b3, eb3⟩ : ∃ x, x = dg b 3 := ⟨_, rfl⟩
  have lb := dg_all hb
  have kb0 := dg_lt b 0
  have kb1 := dg_lt b 1
  have kb2 := dg_lt b 2
  have kb3 := dg_lt b 3
  rw [← eb0, ← eb1, ← eb2, ← eb3] at lb
  rw [← eb0] at kb0
  rw [← eb1] at kb1
  rw [← eb2] at kb2
  rw [← eb3] at kb3
  have nb : numC b = [.i .u64 (b0 : Int), .i .u64 (b1 : Int), .i .u64 (b2 : Int), .i .u64 (b3 : Int)] := by rw [eb0, eb1, eb2, eb3]; rfl
  clear eb0 eb1 eb2 eb3
  obtain ⟨v, ev⟩ : ∃ v, v = cmpN a b := ⟨_, rfl⟩
  have Hv : Hid (v = cmpN a b) := ⟨ev⟩
  have Ha : Hid _ := ⟨la⟩
  have Hb : Hid _ := ⟨lb⟩
  rw [na, nb, ← ev]
  clear na nb ev la lb
  refine pof Tryz.func273 fun h n => ?_
  repeat (first | refine go ?_ | refine drg 4 b273_4 w273_4 ?_ | refine drg 6 b273_6 w273_6 ?_)
  refine AWr.loop 5 ?_
  rcases Nat.lt_trichotomy a3 b3 with g3 | g3 | g3
  · have q3l : ((a3 : Int) < (b3 : Int)) = True := by simp only [eq_iff_iff, iff_true]; omega
    repeat (first | refine go ?_ | refine drg 4 b273_4 w273_4 ?_ | refine drg 6 b273_6 w273_6 ?_)
    have e : v = -1 := by rw [Hv.get]; unfold cmpN; rw [if_pos (by rw [Ha.get, Hb.get]; omega)]
    rw [e]
    clear Hv Ha Hb
    exact outP
  · subst g3
    have q3l : ((a3 : Int) < (a3 : Int)) = False := by simp
    have q3g : ((a3 : Int) > (a3 : Int)) = False := by simp
    repeat (first | refine go ?_ | refine drg 4 b273_4 w273_4 ?_ | refine drg 6 b273_6 w273_6 ?_)
    rcases Nat.lt_trichotomy a2 b2 with g2 | g2 | g2
    · have q2l : ((a2 : Int) < (b2 : Int)) = True := by simp only [eq_iff_iff, iff_true]; omega
      repeat (first | refine go ?_ | refine drg 4 b273_4 w273_4 ?_ | refine drg 6 b273_6 w273_6 ?_)
      have e : v = -1 := by rw [Hv.get]; unfold cmpN; rw [if_pos (by rw [Ha.get, Hb.get]; omega)]
      rw [e]
      clear Hv Ha Hb
      exact outP
    · subst g2
      have q2l : ((a2 : Int) < (a2 : Int)) = False := by simp
      have q2g : ((a2 : Int) > (a2 : Int)) = False := by simp
      repeat (first | refine go ?_ | refine drg 4 b273_4 w273_4 ?_ | refine drg 6 b273_6 w273_6 ?_)
      rcases Nat.lt_trichotomy a1 b1 with g1 | g1 | g1
      · have q1l : ((a1 : Int) < (b1 : Int)) = True := by simp only [eq_iff_iff, iff_true]; omega
        repeat (first | refine go ?_ | refine drg 4 b273_4 w273_4 ?_ | refine drg 6 b273_6 w273_6 ?_)
        have e : v = -1 := by rw [Hv.get]; unfold cmpN; rw [if_pos (by rw [Ha.get, Hb.get]; omega)]
        rw [e]
        clear Hv Ha Hb
        exact outP
      · subst g1
        have q1l : ((a1 : Int) < (a1 : Int)) = False := by simp
        have q1g : ((a1 : Int) > (a1 : Int)) = False := by simp
        repeat (first | refine go ?_ | refine drg 4 b273_4 w273_4 ?_ | refine drg 6 b273_6 w273_6 ?_)
        rcases Nat.lt_trichotomy a0 b0 with g0 | g0 | g0
        · have q0l : ((a0 : Int) < (b0 : Int)) = True := by simp only [eq_iff_iff, iff_true]; omega
          repeat (first | refine go ?_ | refine drg 4 b273_4 w273_4 ?_ | refine drg 6 b273_6 w273_6 ?_)
          have e : v = -1 := by rw [Hv.get]; unfold cmpN; rw [if_pos (by rw [Ha.get, Hb.get]; omega)]
          rw [e]
          clear Hv Ha Hb
          exact outP
        · subst g0
          have q0l : ((a0 : Int) < (a0 : Int)) = False := by simp
          have q0g : ((a0 : Int) > (a0 : Int)) = False := by simp
          repeat (first | refine go ?_ | refine drg 4 b273_4 w273_4 ?_ | refine drg 6 b273_6 w273_6 ?_)
          have e : v = 0 := by rw [Hv.get]; unfold cmpN; rw [if_neg (by rw [Ha.get, Hb.get]; omega), if_pos (by rw [Ha.get, Hb.get])]
          rw [e]
          clear Hv Ha Hb
          exact outP
        · have q0l : ((a0 : Int) < (b0 : Int)) = False := by simp only [eq_iff_iff, iff_false]; omega
          have q0g : ((a0 : Int) > (b0 : Int)) = True := by simp only [eq_iff_iff, iff_true]; omega
          repeat (first | refine go ?_ | refine drg 4 b273_4 w273_4 ?_ | refine drg 6 b273_6 w273_6 ?_)
          have e : v = 1 := by rw [Hv.get]; unfold cmpN; rw [if_neg (by rw [Ha.get, Hb.get]; omega), if_neg (by rw [Ha.get, Hb.get]; omega)]
          rw [e]
          clear Hv Ha Hb
          exact outP
      · have q1l : ((a1 : Int) < (b1 : Int)) = False := by simp only [eq_iff_iff, iff_false]; omega
        have q1g : ((a1 : Int) > (b1 : Int)) = True := by simp only [eq_iff_iff, iff_true]; omega
        repeat (first | refine go ?_ | refine drg 4 b273_4 w273_4 ?_ | refine drg 6 b273_6 w273_6 ?_)
        have e : v = 1 := by rw [Hv.get]; unfold cmpN; rw [if_neg (by rw [Ha.get, Hb.get]; omega), if_neg (by rw [Ha.get, Hb.get]; omega)]
        rw [e]
        clear Hv Ha Hb
        exact outP
    · have q2l : ((a2 : Int) < (b2 : Int)) = False := by simp only [eq_iff_iff, iff_false]; omega
      have q2g : ((a2 : Int) > (b2 : Int)) = True := by simp only [eq_iff_iff, iff_true]; omega
      repeat (first | refine go ?_ | refine drg 4 b273_4 w273_4 ?_ | refine drg 6 b273_6 w273_6 ?_)
      have e : v = 1 := by rw [Hv.get]; unfold cmpN; rw [if_neg (by rw [Ha.get, Hb.get]; omega), if_neg (by rw [Ha.get, Hb.get]; omega)]
      rw [e]
      clear Hv Ha Hb
      exact outP
  · have q3l : ((a3 : Int) < (b3 : Int)) = False := by simp only [eq_iff_iff, iff_false]; omega
    have q3g : ((a3 : Int) > (b3 : Int)) = True := by simp only [eq_iff_iff, iff_true]; omega
    repeat (first | refine go ?_ | refine drg 4 b273_4 w273_4 ?_ | refine drg 6 b273_6 w273_6 ?_)
    have e : v = 1 := by rw [Hv.get]; unfold cmpN; rw [if_neg (by rw [Ha.get, Hb.get]; omega), if_neg (by rw [Ha.get, Hb.get]; omega)]
    rw [e]
    clear Hv Ha Hb
    exact outP
instance (a b : Nat) [Bd a M256] [Bd b M256] : Ct Tryz.prog 273 [.agg (numC a), .agg (numC b)] (.i .i64 (cmpN a b)) := ⟨l273 a b⟩
/-! ### bits.Mul64 -/
theorem fdiv32 (m : Nat) : Int.fdiv (m : Int) 4294967296 = ((m / 4294967296 : Nat) : Int) := by rw [Int.fdiv_eq_ediv_of_nonneg _ (by decide)]; exact (Int.natCast_ediv ..).symm
theorem wrapN (m : Nat) : IntKind.wrap .u64 (m : Int) = ((m % 18446744073709551616 : Nat) : Int) := by rw [IntKind.wrap_u64]; omega
theorem l312 (x y : Nat) [hx : Bd x 18446744073709551616] [hy : Bd y 18446744073709551616] : PCalls Tryz.prog 312 [.i .u64 (x : Int), .i .u64 (y : Int)] (.tup [.i .u64 ((x * y / 18446744073709551616 : Nat) : Int), .i .u64 ((x * y % 18446744073709551616 : Nat) : Int)]) := by
  have hx := hx.lt
  have hy := hy.lt
  have a1 := and32_u64 x hx
  have a2 := and32_u64 y hy
  have d1 := fdiv32 x
  have d2 := fdiv32 y
  obtain ⟨x0, hx0⟩ : ∃ z, z = x % 4294967296 := ⟨_, rfl⟩
  obtain ⟨x1, hx1⟩ : ∃ z, z = x / 4294967296 := ⟨_, rfl⟩
  obtain ⟨y0, hy0⟩ : ∃ z, z = y % 4294967296 := ⟨_, rfl⟩
  obtain ⟨y1, hy1⟩ : ∃ z, z = y / 4294967296 := ⟨_, rfl⟩
  rw [← hx0] at a1; rw [← hy0] at a2; rw [← hx1] at d1; rw [← hy1] at d2
  have bx0 : x0 ≤ 4294967295 := by omega
  have bx1 : x1 ≤ 4294967295 := by omega
  have by0 : y0 ≤ 4294967295 := by omega
  have by1 : y1 ≤ 4294967295 := by omega
  have ex : x = x1 * 4294967296 + x0 := by omega
  have ey : y = y1 * 4294967296 + y0 := by omega
  have p00 : x0 * y0 ≤ 18446744065119617025 := Nat.mul_le_mul bx0 by0
  have p01 : x0 * y1 ≤ 18446744065119617025 := Nat.mul_le_mul bx0 by1
  have p10 : x1 * y0 ≤ 18446744065119617025 := Nat.mul_le_mul bx1 by0
  have p11 : x1 * y1 ≤ 18446744065119617025 := Nat.mul_le_mul bx1 by1
  have exy : x * y = x1 * y1 * 18446744073709551616 + (x1 * y0 + x0 * y1) * 4294967296 + x0 * y0 := by rw [ex, ey]; grind
  have m00 : IntKind.wrap .u64 ((x0 : Int) * (y0 : Int)) = ((x0 * y0 : Nat) : Int) := by rw [← Int.natCast_mul, wrapN, Nat.mod_eq_of_lt (by omega)]
  have m10 : IntKind.wrap .u64 ((x1 : Int) * (y0 : Int)) = ((x1 * y0 : Nat) : Int) := by rw [← Int.natCast_mul, wrapN, Nat.mod_eq_of_lt (by omega)]
  have m01 : IntKind.wrap .u64 ((x0 : Int) * (y1 : Int)) = ((x0 * y1 : Nat) : Int) := by rw [← Int.natCast_mul, wrapN, Nat.mod_eq_of_lt (by omega)]
  have m11 : IntKind.wrap .u64 ((x1 : Int) * (y1 : Int)) = ((x1 * y1 : Nat) : Int) := by rw [← Int.natCast_mul, wrapN, Nat.mod_eq_of_lt (by omega)]
  have mm : IntKind.wrap .u64 ((x : Int) * (y : Int)) = ((x * y % 18446744073709551616 : Nat) : Int) := by rw [← Int.natCast_mul, wrapN]
  generalize x0 * y0 = A at *
  generalize x1 * y0 = B at *
  generalize x0 * y1 = C at *
  generalize x1 * y1 = D at *
  have e1 := fdiv32 A
  obtain ⟨t, ht⟩ : ∃ t, t = B + A / 4294967296 := ⟨_, rfl⟩
  have w1 : IntKind.wrap .u64 ((B : Int) + ((A / 4294967296 : Nat) : Int)) = (t : Int) := by rw [← Int.natCast_add, wrapN, Nat.mod_eq_of_lt (by omega), ht]
  have a3 := and32_u64 t (by omega)
  have e2 := fdiv32 t
  obtain ⟨w, hw⟩ : ∃ w, w = t % 4294967296 + C := ⟨_, rfl⟩
  have w2 : IntKind.wrap .u64 (((t % 4294967296 : Nat) : Int) + (C : Int)) = (w : Int) := by rw [← Int.natCast_add, wrapN, Nat.mod_eq_of_lt (by omega), hw]
  have e3 := fdiv32 w
  have w3 : IntKind.wrap .u64 ((D : Int) + ((t / 4294967296 : Nat) : Int)) = ((D + t / 4294967296 : Nat) : Int) := by rw [← Int.natCast_add, wrapN, Nat.mod_eq_of_lt (by omega)]
  have w4 : IntKind.wrap .u64 (((D + t / 4294967296 : Nat) : Int) + ((w / 4294967296 : Nat) : Int)) = ((x * y / 18446744073709551616 : Nat) : Int) := by
    rw [← Int.natCast_add, wrapN, Nat.mod_eq_of_lt (by omega)]
    congr 1
    omega
  generalize x * y / 18446744073709551616 = hi at *
  generalize x * y % 18446744073709551616 = lo at *
  generalize D + t / 4294967296 = D2 at *
  generalize A / 4294967296 = A2 at *
  generalize t / 4294967296 = t2 at *
  generalize t % 4294967296 = t3 at *
  generalize w / 4294967296 = w5 at *
  clear hx0 hx1 hy0 hy1 ex ey exy ht hw
  have p32 : (2 : Int) ^ min 32 (IntKind.bits .u64) = 4294967296 := by decide
  refine pof Tryz.func312 fun h n => ?_
  refine go ?_
  exact outP
instance (x y : Nat) [Bd x 18446744073709551616] [Bd y 18446744073709551616] : Ct Tryz.prog 312 [.i .u64 (x : Int), .i .u64 (y : Int)] (.tup [.i .u64 ((x * y / 18446744073709551616 : Nat) : Int), .i .u64 ((x * y % 18446744073709551616 : Nat) : Int)]) := ⟨l312 x y⟩

end Go.Proofs.YtmkefpjpghmonaaGreat
