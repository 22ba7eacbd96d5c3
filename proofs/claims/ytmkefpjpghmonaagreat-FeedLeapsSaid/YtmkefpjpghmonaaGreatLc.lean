import Derived.Test.YtmkefpjpghmonaaGreatLb
namespace Go.Proofs.YtmkefpjpghmonaaGreat
open Go.Av
set_option maxRecDepth 100000
set_option maxHeartbeats 1000000
set_option linter.unusedSimpArgs false
set_option linter.unusedVariables false

/-! ### numbers as values -/
theorem len_num (a : Nat) : (numC a).length = 4 := rfl
theorem take_num (a : Nat) : (numC a).take 4 = numC a := rfl
theorem take_num' (a : Nat) (l : List AV) : (numC a ++ l).take 4 = numC a := rfl
theorem drop_num (a : Nat) : (numC a).drop 4 = [] := rfl
theorem drop_num' (a : Nat) (l : List AV) : (numC a ++ l).drop 4 = l := rfl
theorem splice_num (cs : List AV) (off a : Nat) : splice cs off (numC a) = cs.take off ++ numC a ++ cs.drop (off + 4) := rfl
theorem agg_0 : AV.agg [.i .u64 0, .i .u64 0, .i .u64 0, .i .u64 0] = .agg (numC 0) := rfl
theorem agg_1 : AV.agg [.i .u64 1, .i .u64 0, .i .u64 0, .i .u64 0] = .agg (numC 1) := rfl
theorem agg_2 : AV.agg [.i .u64 2, .i .u64 0, .i .u64 0, .i .u64 0] = .agg (numC 2) := rfl
theorem agg_7 : AV.agg [.i .u64 7, .i .u64 0, .i .u64 0, .i .u64 0] = .agg (numC 7) := rfl
theorem agg_p : AV.agg [.i .u64 4294968273, .i .u64 0, .i .u64 0, .i .u64 0] = .agg (numC 4294968273) := rfl
theorem agg_n : AV.agg [.i .u64 4624529908474429119, .i .u64 4994812053365940164, .i .u64 1, .i .u64 0] = .agg (numC 432420386565659656852420866394968145599) := rfl
attribute [push_cast] len_num take_num take_num' drop_num drop_num' splice_num agg_0 agg_1 agg_2 agg_7 agg_p agg_n
theorem agg_small {c : Nat} (h : c < 18446744073709551616) : AV.agg [.i .u64 (c : Int), .i .u64 0, .i .u64 0, .i .u64 0] = .agg (numC c) := by
  have := dg_of (a0 := c) (a1 := 0) (a2 := 0) (a3 := 0) h (by decide) (by decide) (by decide)
  simp only [Nat.mul_zero, Nat.add_zero] at this
  rw [this]; rfl
theorem aeq_raw (a0 a1 a2 a3 b0 b1 b2 b3 : Int) : aeq Tryz.prog 10000 33 (.agg [.i .u64 a0, .i .u64 a1, .i .u64 a2, .i .u64 a3]) (.agg [.i .u64 b0, .i .u64 b1, .i .u64 b2, .i .u64 b3]) = some (a0 == b0 && (a1 == b1 && (a2 == b2 && (a3 == b3 && true)))) := by kernel_rfl
theorem aeq_num {a b : Nat} (ha : a < M256) (hb : b < M256) : aeq Tryz.prog 10000 33 (.agg (numC a)) (.agg (numC b)) = some (decide (a = b)) := by
  unfold numC
  rw [aeq_raw]
  congr 1
  rw [Bool.eq_iff_iff]
  simp only [Bool.and_eq_true, beq_iff_eq, and_true, decide_eq_true_eq, Int.natCast_inj]
  constructor
  · rintro ⟨h0, h1, h2, h3⟩
    rw [dg_all ha, dg_all hb, h0, h1, h2, h3]
  · rintro rfl; exact ⟨rfl, rfl, rfl, rfl⟩
/-! ### the moduli -/
def cOf (w : Int) : Nat := if w = 0 then 4294968273 else 432420386565659656852420866394968145599
def mOf (w : Int) : Nat := M256 - cOf w
theorem c_lt (w : Int) : 0 < cOf w ∧ cOf w < 340282366920938463463374607431768211456 * 2 := by unfold cOf; split <;> decide
theorem m_lt (w : Int) : mOf w < M256 ∧ M256 < 2 * mOf w ∧ 0 < mOf w := by have := c_lt w; unfold mOf M256; omega
theorem P_pos (w : Int) : 0 < mOf w := (m_lt w).2.2
/-- One of the two moduli. -/
class Wh (w : Int) : Prop where
  h : w = 0 ∨ w = 1
instance : Wh 0 := ⟨.inl rfl⟩
instance : Wh 1 := ⟨.inr rfl⟩
instance (w : Int) : Bd (mOf w) M256 := ⟨(m_lt w).1⟩
instance (w : Int) (a : Nat) : Bd (a % mOf w) M256 := ⟨Nat.lt_trans (Nat.mod_lt _ (P_pos w)) (m_lt w).1⟩
instance : Bd 0 M256 := ⟨by decide⟩
instance : Bd 1 M256 := ⟨by decide⟩
instance : Bd 2 M256 := ⟨by decide⟩
instance : Bd 7 M256 := ⟨by decide⟩
theorem l302 (w : Int) [hw : Wh w] : PCalls Tryz.prog 302 [.i .i64 w] (.tup [.agg (numC (cOf w)), .b true]) := by
  rcases hw.h with rfl | rfl
  · show PCalls Tryz.prog 302 [.i .i64 0] (.tup [.agg (numC 4294968273), .b true])
    refine pof Tryz.func302 fun h n => ?_
    refine go ?_
    exact outP
  · show PCalls Tryz.prog 302 [.i .i64 1] (.tup [.agg (numC 432420386565659656852420866394968145599), .b true])
    refine pof Tryz.func302 fun h n => ?_
    refine go ?_
    exact outP
instance (w : Int) [Wh w] : Ct Tryz.prog 302 [.i .i64 w] (.tup [.agg (numC (cOf w)), .b true]) := ⟨l302 w⟩
theorem l272 (w : Int) [hw : Wh w] : PCalls Tryz.prog 272 [.i .i64 w] (.agg (numC (mOf w))) := by
  have hc := c_lt w
  haveI : Bd (cOf w) M256 := ⟨by unfold M256; omega⟩
  have A : PCalls Tryz.prog 303 [.agg (numC 0), .agg (numC (cOf w))] (.tup [.agg (numC (mOf w)), .i .u64 1]) := by
    have e := l303 0 (cOf w)
    rw [if_pos hc.1, show (0 + M256 - cOf w) % M256 = mOf w by unfold mOf M256; omega] at e
    exact e
  clear hc
  refine pof Tryz.func272 fun h n => ?_
  refine go ?_
  exact outP
instance (w : Int) [Wh w] : Ct Tryz.prog 272 [.i .i64 w] (.agg (numC (mOf w))) := ⟨l272 w⟩
/-! ### field.fold -/
theorem fold_step {x y c l hh s cy y' : Nat} (hx : x < M256) (hy : y < M256) (hc : c < 680564733841876926926749214863536422912) (hl : l = y * c % M256) (hhh : hh = y * c / M256) (hs : s = (x + l) % M256) (hcy : cy = (x + l) / M256) (hy' : y' = (hh + cy) % M256) :
    l < M256 ∧ hh < M256 ∧ s < M256 ∧ cy < 18446744073709551616 ∧ cy < M256 ∧ y' < M256 ∧ y' * M256 + s = y * c + x ∧ (hh + cy) / M256 = 0 := by
  have h1 : y * c ≤ y * 680564733841876926926749214863536422912 := Nat.mul_le_mul_left _ (Nat.le_of_lt hc)
  generalize y * c = p at *
  unfold M256 at *
  have h2 : p = 115792089237316195423570985008687907853269984665640564039457584007913129639936 * hh + l := by omega
  have h3 : x + l = 115792089237316195423570985008687907853269984665640564039457584007913129639936 * cy + s := by omega
  have hl' : l < 115792089237316195423570985008687907853269984665640564039457584007913129639936 := by rw [hl]; exact Nat.mod_lt _ (by decide)
  have hs' : s < 115792089237316195423570985008687907853269984665640564039457584007913129639936 := by rw [hs]; exact Nat.mod_lt _ (by decide)
  clear hl hhh hs hcy
  have h4 : hh ≤ 680564733841876926926749214863536422912 := by omega
  have h5 : cy ≤ 1 := by omega
  have h6 : y' = hh + cy := by omega
  have h7 : (hh + cy) / 115792089237316195423570985008687907853269984665640564039457584007913129639936 = 0 := by omega
  subst h6
  clear hy'
  exact ⟨hl', by omega, hs', by omega, by omega, by omega, by omega, h7⟩
theorem fold_mod {x y c s y' : Nat} (hc : c ≤ M256) (h : y' * M256 + s = y * c + x) : (y' * M256 + s) % (M256 - c) = (y * M256 + x) % (M256 - c) := by
  have e : y * M256 = y * c + y * (M256 - c) := by rw [← Nat.mul_add]; congr 1; omega
  rw [h, e, show y * c + y * (M256 - c) + x = (y * c + x) + y * (M256 - c) by omega, Nat.add_mul_mod_self_right]
theorem fold_less {x y c s y' : Nat} (hc : c < M256) (hy : y ≠ 0) (h : y' * M256 + s = y * c + x) : y' * M256 + s < y * M256 + x := by
  rw [h]
  have : y * c < y * M256 := Nat.mul_lt_mul_of_pos_left hc (by omega)
  omega

theorem l328 (lo hi c : Nat) [hlo : Bd lo M256] [hhi : Bd hi M256] [hc : Bd c M256] (hx0 : 0 < c ∧ c < 680564733841876926926749214863536422912) : PCalls Tryz.prog 328 [.agg (numC lo), .agg (numC hi), .agg (numC c)] (.agg (numC ((hi * M256 + lo) % (M256 - c)))) := by
  have hlo := hlo.lt
  have hhi := hhi.lt
  have hc' := hc.lt
  obtain ⟨F, eF⟩ : ∃ F, (hi * M256 + lo) % (M256 - c) = F := ⟨_, rfl⟩
  have HF : Hid _ := ⟨eF⟩
  have Hx : Hid _ := ⟨hx0⟩
  rw [eF]
  clear eF hx0
  refine pof Tryz.func328 fun h n => ?_
  refine go ?_
  refine AWp.loop (fun m t' h' n' => ∃ x y : Nat, m = y * M256 + x ∧ x < M256 ∧ y < M256 ∧ Hid ((y * M256 + x) % (M256 - c) = F) ∧ t' 3 = .p n 0 ∧ t' 4 = .p (n + 1) 0 ∧ t' 5 = .p (n + 2) 0 ∧ t' 6 = .p (n + 3) 0 ∧ h' n = some (.cells (numC x)) ∧ h' (n + 1) = some (.cells (numC y)) ∧ h' (n + 2) = some (.cells (numC c)) ∧ h' (n + 3) = some (.cells (numC 0)) ∧ n + 4 ≤ n' ∧ Keeps n h h') (hi * M256 + lo) ?_ ?_
  · exact ⟨lo, hi, rfl, hlo, hhi, HF, tr, tr, tr, tr, tr, tr, tr, tr, by omega, ks⟩
  · rintro m t' h' n' - ⟨x, y, hm, hx, hy, Hm, t3, t4, t5, t6, r0, r1, r2, r3, hn, kp⟩
    have p0 := apt (j := n) (n := n') (by omega)
    have p1 := apt (j := n + 1) (n := n') (by omega)
    have p2 := apt (j := n + 2) (n := n') (by omega)
    have p3 := apt (j := n + 3) (n := n') (by omega)
    have Hm' : Hid (m = y * M256 + x) := ⟨hm⟩
    have hx0 := Hx.get
    clear hm
    haveI : Bd x M256 := ⟨hx⟩
    haveI : Bd y M256 := ⟨hy⟩
    by_cases hy0 : y = 0
    · subst hy0
      have q := aeq_num (a := 0) (b := 0) (by decide) (by decide)
      rw [show decide ((0 : Nat) = 0) = true from rfl] at q
      have e0 : x % (M256 - c) = F := by rw [← Hm.get]; simp only [Nat.zero_mul, Nat.zero_add]
      obtain ⟨m2, em⟩ : ∃ m, m = M256 - c := ⟨_, rfl⟩
      have hm2 : m2 < M256 ∧ M256 < 2 * m2 := by unfold M256 at *; omega
      have A : PCalls Tryz.prog 303 [.agg (numC 0), .agg (numC c)] (.tup [.agg (numC m2), .i .u64 1]) := by
        have e := l303 0 c
        rw [if_pos hx0.1, show (0 + M256 - c) % M256 = m2 by unfold M256 at *; omega] at e
        exact e
      haveI : Bd m2 M256 := ⟨hm2.1⟩
      rw [← em] at e0
      have B := l273 x m2
      by_cases hxm : x < m2
      · rw [show cmpN x m2 = -1 by unfold cmpN; rw [if_pos hxm]] at B
        rw [Nat.mod_eq_of_lt hxm] at e0
        rw [← e0]
        clear em e0 hm2 hx0
        refine go ?_
        exact outP
      · have e2 : x % m2 = x - m2 := by rw [Nat.mod_eq_sub_mod (by omega), Nat.mod_eq_of_lt (by omega)]
        obtain ⟨s, es⟩ : ∃ s, s = x - m2 := ⟨_, rfl⟩
        rw [e2, ← es] at e0
        rw [← e0]
        have C : PCalls Tryz.prog 303 [.agg (numC x), .agg (numC m2)] (.tup [.agg (numC s), .i .u64 0]) := by
          have e := l303 x m2
          rw [if_neg hxm, show (x + M256 - m2) % M256 = s by unfold M256 at *; omega] at e
          exact e
        obtain ⟨v, ev⟩ : ∃ v, v = cmpN x m2 := ⟨_, rfl⟩
        have hv : (0 ≤ v) = True := by
          rw [ev]; unfold cmpN; rw [if_neg hxm]; split <;> simp
        have hv' : (v ≥ 0) = True := hv
        rw [← ev] at B
        clear em e0 hm2 hx0 ev es e2
        refine go ?_
        exact outP
    · have q := aeq_num (a := y) (b := 0) hy (by decide)
      rw [show decide (y = 0) = false from decide_eq_false hy0] at q
      obtain ⟨l, el⟩ : ∃ l, l = y * c % M256 := ⟨_, rfl⟩
      obtain ⟨hh, ehh⟩ : ∃ hh, hh = y * c / M256 := ⟨_, rfl⟩
      obtain ⟨s, es⟩ : ∃ s, s = (x + l) % M256 := ⟨_, rfl⟩
      obtain ⟨cy, ecy⟩ : ∃ cy, cy = (x + l) / M256 := ⟨_, rfl⟩
      obtain ⟨y', ey'⟩ : ∃ y', y' = (hh + cy) % M256 := ⟨_, rfl⟩
      obtain ⟨k1, k2, k3, k4, k5, k6, k7, k8⟩ := fold_step hx hy hx0.2 el ehh es ecy ey'
      haveI : Bd l M256 := ⟨k1⟩
      haveI : Bd hh M256 := ⟨k2⟩
      haveI : Bd cy M256 := ⟨k5⟩
      have A := l327 y c
      rw [← el, ← ehh] at A
      have B := l318 x l
      rw [← es, ← ecy] at B
      have ag := agg_small k4
      have C := l318 hh cy
      rw [← ey', k8] at C
      have C : PCalls Tryz.prog 318 [.agg (numC hh), .agg (numC cy)] (.tup [.agg (numC y'), .i .u64 0]) := C
      have less := fold_less hc' hy0 k7
      rw [← Hm'.get] at less
      have mod : Hid ((y' * M256 + s) % (M256 - c) = F) := ⟨(fold_mod (Nat.le_of_lt hc') k7).trans Hm.get⟩
      clear el ehh es ecy ey' k7 k8 hx0
      refine go ?_
      exact ⟨y' * M256 + s, less, s, y', rfl, k3, k6, mod, tr, tr, tr, tr, tr, tr, tr, tr, by omega, ks⟩
theorem c_ok (w : Int) : 0 < cOf w ∧ cOf w < 680564733841876926926749214863536422912 := by have := c_lt w; omega
instance (w : Int) : Bd (cOf w) M256 := ⟨by have := c_lt w; unfold M256; omega⟩
theorem l319 (w : Int) (a : Nat) [Wh w] [Bd a M256] : PCalls Tryz.prog 319 [.i .i64 w, .agg (numC a)] (.agg (numC (a % mOf w))) := by
  have B := l328 a 0 (cOf w) (c_ok w)
  rw [Nat.zero_mul, Nat.zero_add] at B
  refine pof Tryz.func319 fun h n => ?_
  refine go ?_
  exact outP
instance (w : Int) (a : Nat) [Wh w] [Bd a M256] : Ct Tryz.prog 319 [.i .i64 w, .agg (numC a)] (.agg (numC (a % mOf w))) := ⟨l319 w a⟩
theorem l316 (w : Int) (a b : Nat) [Wh w] [ha : Bd a M256] [hb : Bd b M256] : PCalls Tryz.prog 316 [.i .i64 w, .agg (numC a), .agg (numC b)] (.agg (numC ((a + b) % mOf w))) := by
  obtain ⟨s, es⟩ : ∃ s, s = (a + b) % M256 := ⟨_, rfl⟩
  obtain ⟨cy, ecy⟩ : ∃ cy, cy = (a + b) / M256 := ⟨_, rfl⟩
  have k : s < M256 ∧ cy < 18446744073709551616 ∧ cy < M256 ∧ cy * M256 + s = a + b := by have := ha.lt; have := hb.lt; unfold M256 at *; omega
  have ag := agg_small k.2.1
  haveI : Bd s M256 := ⟨k.1⟩
  haveI : Bd cy M256 := ⟨k.2.2.1⟩
  have C := l318 a b
  rw [← es, ← ecy] at C
  have B := l328 s cy (cOf w) (c_ok w)
  rw [k.2.2.2] at B
  have B : PCalls Tryz.prog 328 [.agg (numC s), .agg (numC cy), .agg (numC (cOf w))] (.agg (numC ((a + b) % mOf w))) := B
  clear es ecy k
  refine pof Tryz.func316 fun h n => ?_
  refine go ?_
  exact outP
instance (w : Int) (a b : Nat) [Wh w] [Bd a M256] [Bd b M256] : Ct Tryz.prog 316 [.i .i64 w, .agg (numC a), .agg (numC b)] (.agg (numC ((a + b) % mOf w))) := ⟨l316 w a b⟩
def b315_4 : List Nat := [0, 1, 0, 0, 15, 31, 63, 127, 127, 0, 767, 2047]
def w315_4 : List Nat := [10]
theorem l315 (w : Int) (a b : Nat) [Wh w] [Bd a M256] [Bd b M256] : PCalls Tryz.prog 315 [.i .i64 w, .agg (numC a), .agg (numC b)] (.agg (numC ((a + (mOf w - b % mOf w)) % mOf w))) := by
  have hm := m_lt w
  obtain ⟨r, er⟩ : ∃ r, r = b % mOf w := ⟨_, rfl⟩
  have hr : r < mOf w := by rw [er]; exact Nat.mod_lt _ hm.2.2
  obtain ⟨d, ed⟩ : ∃ d, d = mOf w - r := ⟨_, rfl⟩
  rw [← er, ← ed]
  haveI : Bd r M256 := ⟨by omega⟩
  haveI : Bd d M256 := ⟨by omega⟩
  have C := l319 w b
  rw [← er] at C
  have D := l303 (mOf w) r
  rw [if_neg (by omega), show (mOf w + M256 - r) % M256 = d by unfold M256 at *; omega] at D
  have D : PCalls Tryz.prog 303 [.agg (numC (mOf w)), .agg (numC r)] (.tup [.agg (numC d), .i .u64 0]) := D
  clear er ed hr hm
  refine pof Tryz.func315 fun h n => ?_
  repeat (first | refine go ?_ | refine drg 4 b315_4 w315_4 ?_)
  exact outP
instance (w : Int) (a b : Nat) [Wh w] [Bd a M256] [Bd b M256] : Ct Tryz.prog 315 [.i .i64 w, .agg (numC a), .agg (numC b)] (.agg (numC ((a + (mOf w - b % mOf w)) % mOf w))) := ⟨l315 w a b⟩
theorem l314 (w : Int) (a b : Nat) [Wh w] [ha : Bd a M256] [hb : Bd b M256] : PCalls Tryz.prog 314 [.i .i64 w, .agg (numC a), .agg (numC b)] (.agg (numC (a * b % mOf w))) := by
  obtain ⟨s, es⟩ : ∃ s, s = (a * b) % M256 := ⟨_, rfl⟩
  obtain ⟨cy, ecy⟩ : ∃ cy, cy = (a * b) / M256 := ⟨_, rfl⟩
  have k : s < M256 ∧ cy < M256 ∧ cy * M256 + s = a * b := by
    refine ⟨by rw [es]; exact Nat.mod_lt _ (by decide), by rw [ecy]; exact Nat.div_lt_of_lt_mul (Nat.mul_lt_mul'' ha.lt hb.lt), ?_⟩
    rw [es, ecy, Nat.mul_comm]; exact Nat.div_add_mod _ _
  haveI : Bd s M256 := ⟨k.1⟩
  haveI : Bd cy M256 := ⟨k.2.1⟩
  have C := l327 a b
  rw [← es, ← ecy] at C
  have B := l328 s cy (cOf w) (c_ok w)
  rw [k.2.2] at B
  have B : PCalls Tryz.prog 328 [.agg (numC s), .agg (numC cy), .agg (numC (cOf w))] (.agg (numC (a * b % mOf w))) := B
  clear es ecy k
  refine pof Tryz.func314 fun h n => ?_
  refine go ?_
  exact outP
instance (w : Int) (a b : Nat) [Wh w] [Bd a M256] [Bd b M256] : Ct Tryz.prog 314 [.i .i64 w, .agg (numC a), .agg (numC b)] (.agg (numC (a * b % mOf w))) := ⟨l314 w a b⟩
/-! ### limb.Bit -/
theorem tdivN (i m : Nat) : Int.tdiv (i : Int) (m : Int) = ((i / m : Nat) : Int) := by rw [Int.tdiv_eq_ediv_of_nonneg (Int.natCast_nonneg _)]; exact (Int.natCast_ediv ..).symm
theorem tmodN (i m : Nat) : Int.tmod (i : Int) (m : Int) = ((i % m : Nat) : Int) := by rw [Int.tmod_eq_emod_of_nonneg (Int.natCast_nonneg _)]; exact (Int.natCast_emod ..).symm
theorem fdivN (i m : Nat) : Int.fdiv (i : Int) (m : Int) = ((i / m : Nat) : Int) := by rw [Int.fdiv_eq_ediv_of_nonneg _ (Int.natCast_nonneg _)]; exact (Int.natCast_ediv ..).symm
theorem shrN (x r : Nat) (hr : r ≤ 64) : Int.fdiv (x : Int) (2 ^ min r (IntKind.bits .u64)) = ((x / 2 ^ r : Nat) : Int) := by
  have e : min r (IntKind.bits .u64) = r := Nat.min_eq_left hr
  rw [e]
  have := fdivN x (2 ^ r)
  rw [Int.natCast_pow] at this
  exact this
theorem dg_bit (a q r : Nat) (hr : r < 64) : dg a q / 2 ^ r % 2 = a / 2 ^ (64 * q + r) % 2 := by
  unfold dg
  rw [← Nat.toNat_testBit, ← Nat.toNat_testBit, Nat.testBit_mod_two_pow, Nat.testBit_div_two_pow]
  simp only [hr, decide_true, Bool.true_and]
  rw [Nat.add_comm]
theorem l324 (a i : Nat) [ha : Bd a M256] [hi : Bd i 256] : PCalls Tryz.prog 324 [.agg (numC a), .i .i64 (i : Int)] (.i .i64 ((a / 2 ^ i % 2 : Nat) : Int)) := by
  have hi := hi.lt
  obtain ⟨q, eq⟩ : ∃ q, q = i / 64 := ⟨_, rfl⟩
  obtain ⟨r, er⟩ : ∃ r, r = i % 64 := ⟨_, rfl⟩
  have e1 : Int.tdiv (i : Int) 64 = (q : Int) := by rw [eq]; exact tdivN i 64
  have e2 : Int.tmod (i : Int) 64 = (r : Int) := by rw [er]; exact tmodN i 64
  obtain ⟨x, ex⟩ : ∃ x, x = dg a q := ⟨_, rfl⟩
  have hx : x < 18446744073709551616 := by rw [ex]; exact dg_lt a q
  obtain ⟨y, ey⟩ : ∃ y, y = x / 2 ^ r := ⟨_, rfl⟩
  obtain ⟨z, ez⟩ : ∃ z, z = y % 2 := ⟨_, rfl⟩
  have hr : r < 64 := by omega
  have fin : a / 2 ^ i % 2 = z := by
    rw [ez, ey, ex, dg_bit a q r hr]
    congr 3; omega
  have s1 : Int.fdiv (x : Int) (2 ^ min r (IntKind.bits .u64)) = (y : Int) := by rw [shrN x r (by omega), ey]
  have hy : y < 18446744073709551616 := by rw [ey]; exact Nat.lt_of_le_of_lt (Nat.div_le_self _ _) hx
  have a1 : Av.bits .and .u64 (y : Int) 1 = (z : Int) := by rw [and1_u64 y hy, ez]
  have w1 : IntKind.wrap .i64 (z : Int) = (z : Int) := IntWalk.i64_in _ (by omega)
  have s0 : (0 ≤ (r : Int)) = True := by simp
  have g1 : ((i : Int) < 0) = False := by simp
  have g2 : ((i : Int) ≥ 256) = False := by simp; omega
  have g3 : (256 ≤ (i : Int)) = False := by simp; omega
  have hq : q = 0 ∨ q = 1 ∨ q = 2 ∨ q = 3 := by omega
  rw [fin]
  have Hex : Hid _ := ⟨ex⟩
  clear eq er ey ez fin hx hy ex
  refine pof Tryz.func324 fun h n => ?_
  rcases hq with rfl | rfl | rfl | rfl
  · rw [show numC a = [.i .u64 (x : Int), .i .u64 (dg a 1 : Nat), .i .u64 (dg a 2 : Nat), .i .u64 (dg a 3 : Nat)] by rw [Hex.get]; rfl]
    refine go ?_
    exact outP
  · rw [show numC a = [.i .u64 (dg a 0 : Nat), .i .u64 (x : Int), .i .u64 (dg a 2 : Nat), .i .u64 (dg a 3 : Nat)] by rw [Hex.get]; rfl]
    refine go ?_
    exact outP
  · rw [show numC a = [.i .u64 (dg a 0 : Nat), .i .u64 (dg a 1 : Nat), .i .u64 (x : Int), .i .u64 (dg a 3 : Nat)] by rw [Hex.get]; rfl]
    refine go ?_
    exact outP
  · rw [show numC a = [.i .u64 (dg a 0 : Nat), .i .u64 (dg a 1 : Nat), .i .u64 (dg a 2 : Nat), .i .u64 (x : Int)] by rw [Hex.get]; rfl]
    refine go ?_
    exact outP
instance (a i : Nat) [Bd a M256] [Bd i 256] : Ct Tryz.prog 324 [.agg (numC a), .i .i64 (i : Int)] (.i .i64 ((a / 2 ^ i % 2 : Nat) : Int)) := ⟨l324 a i⟩

end Go.Proofs.YtmkefpjpghmonaaGreat
