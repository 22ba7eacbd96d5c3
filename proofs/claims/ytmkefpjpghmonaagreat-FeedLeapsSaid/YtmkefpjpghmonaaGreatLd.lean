import Derived.Test.YtmkefpjpghmonaaGreatLc
namespace Go.Proofs.YtmkefpjpghmonaaGreat
open Go.Av
set_option maxRecDepth 100000
set_option maxHeartbeats 1000000
set_option linter.unusedSimpArgs false
set_option linter.unusedVariables false

/-! ### bits.Len64 -/
def bl (x : Nat) : Nat := if x = 0 then 0 else Nat.log2 x + 1
theorem bl_lt (x : Nat) : x < 2 ^ bl x := by
  unfold bl
  split
  · subst_vars; decide
  · exact Nat.lt_log2_self
theorem bl_shr {x k : Nat} (h : 2 ^ k ≤ x) : bl x = k + bl (x / 2 ^ k) := by
  have h0 : 0 < 2 ^ k := Nat.two_pow_pos k
  have hy : x / 2 ^ k ≠ 0 := by have := Nat.div_pos h h0; omega
  have hx : x ≠ 0 := by omega
  unfold bl
  rw [if_neg hx, if_neg hy]
  have e := (Nat.log2_eq_iff (k := Nat.log2 (x / 2 ^ k)) hy).1 rfl
  have : Nat.log2 x = Nat.log2 (x / 2 ^ k) + k := by
    refine (Nat.log2_eq_iff hx).2 ⟨?_, ?_⟩
    · rw [Nat.pow_add]
      exact Nat.le_trans (Nat.mul_le_mul_right _ e.1) (Nat.div_mul_le_self _ _)
    · have := Nat.lt_mul_of_div_lt e.2 h0
      rw [show Nat.log2 (x / 2 ^ k) + k + 1 = (Nat.log2 (x / 2 ^ k) + 1) + k by omega, Nat.pow_add]
      exact this
  omega
theorem bl_le {x k : Nat} (h : x < 2 ^ k) : bl x ≤ k := by
  unfold bl
  split
  · omega
  · rename_i hx
    have := (Nat.log2_lt hx).2 h
    omega
theorem bl_lo {x k : Nat} (h : bl x = k + 1) : 2 ^ k ≤ x := by
  unfold bl at h
  split at h
  · omega
  · rename_i hx
    have := ((Nat.log2_eq_iff (k := k) hx).1 (by omega)).1
    exact this
theorem tab_size : ByteArray.size ({ data := (((0 :: 1 :: 2 :: 2 :: 3 :: 3 :: 3 :: 3 :: 4 :: 4 :: 4 :: 4 :: 4 :: 4 :: 4 :: 4 :: 5 :: 5 :: 5 :: 5 :: 5 :: 5 :: 5 :: 5 :: 5 :: 5 :: 5 :: 5 :: 5 :: 5 :: 5 :: 5 :: 6 :: 6 :: 6 :: 6 :: 6 :: 6 :: 6 :: 6 :: 6 :: 6 :: 6 :: 6 :: 6 :: 6 :: 6 :: 6 :: 6 :: 6 :: 6 :: 6 :: 6 :: 6 :: 6 :: 6 :: 6 :: 6 :: 6 :: 6 :: 6 :: 6 :: 6 :: 6 :: []).append (7 :: 7 :: 7 :: 7 :: 7 :: 7 :: 7 :: 7 :: 7 :: 7 :: 7 :: 7 :: 7 :: 7 :: 7 :: 7 :: 7 :: 7 :: 7 :: 7 :: 7 :: 7 :: 7 :: 7 :: 7 :: 7 :: 7 :: 7 :: 7 :: 7 :: 7 :: 7 :: 7 :: 7 :: 7 :: 7 :: 7 :: 7 :: 7 :: 7 :: 7 :: 7 :: 7 :: 7 :: 7 :: 7 :: 7 :: 7 :: 7 :: 7 :: 7 :: 7 :: 7 :: 7 :: 7 :: 7 :: 7 :: 7 :: 7 :: 7 :: 7 :: 7 :: 7 :: 7 :: [])).append ((8 :: 8 :: 8 :: 8 :: 8 :: 8 :: 8 :: 8 :: 8 :: 8 :: 8 :: 8 :: 8 :: 8 :: 8 :: 8 :: 8 :: 8 :: 8 :: 8 :: 8 :: 8 :: 8 :: 8 :: 8 :: 8 :: 8 :: 8 :: 8 :: 8 :: 8 :: 8 :: 8 :: 8 :: 8 :: 8 :: 8 :: 8 :: 8 :: 8 :: 8 :: 8 :: 8 :: 8 :: 8 :: 8 :: 8 :: 8 :: 8 :: 8 :: 8 :: 8 :: 8 :: 8 :: 8 :: 8 :: 8 :: 8 :: 8 :: 8 :: 8 :: 8 :: 8 :: 8 :: []).append (8 :: 8 :: 8 :: 8 :: 8 :: 8 :: 8 :: 8 :: 8 :: 8 :: 8 :: 8 :: 8 :: 8 :: 8 :: 8 :: 8 :: 8 :: 8 :: 8 :: 8 :: 8 :: 8 :: 8 :: 8 :: 8 :: 8 :: 8 :: 8 :: 8 :: 8 :: 8 :: 8 :: 8 :: 8 :: 8 :: 8 :: 8 :: 8 :: 8 :: 8 :: 8 :: 8 :: 8 :: 8 :: 8 :: 8 :: 8 :: 8 :: 8 :: 8 :: 8 :: 8 :: 8 :: 8 :: 8 :: 8 :: 8 :: 8 :: 8 :: 8 :: 8 :: 8 :: 8 :: []))).toArray } : ByteArray) = 256 := by kernel_rfl
theorem tab_all : ((List.range 256).all fun i => byteAt ({ data := (((0 :: 1 :: 2 :: 2 :: 3 :: 3 :: 3 :: 3 :: 4 :: 4 :: 4 :: 4 :: 4 :: 4 :: 4 :: 4 :: 5 :: 5 :: 5 :: 5 :: 5 :: 5 :: 5 :: 5 :: 5 :: 5 :: 5 :: 5 :: 5 :: 5 :: 5 :: 5 :: 6 :: 6 :: 6 :: 6 :: 6 :: 6 :: 6 :: 6 :: 6 :: 6 :: 6 :: 6 :: 6 :: 6 :: 6 :: 6 :: 6 :: 6 :: 6 :: 6 :: 6 :: 6 :: 6 :: 6 :: 6 :: 6 :: 6 :: 6 :: 6 :: 6 :: 6 :: 6 :: []).append (7 :: 7 :: 7 :: 7 :: 7 :: 7 :: 7 :: 7 :: 7 :: 7 :: 7 :: 7 :: 7 :: 7 :: 7 :: 7 :: 7 :: 7 :: 7 :: 7 :: 7 :: 7 :: 7 :: 7 :: 7 :: 7 :: 7 :: 7 :: 7 :: 7 :: 7 :: 7 :: 7 :: 7 :: 7 :: 7 :: 7 :: 7 :: 7 :: 7 :: 7 :: 7 :: 7 :: 7 :: 7 :: 7 :: 7 :: 7 :: 7 :: 7 :: 7 :: 7 :: 7 :: 7 :: 7 :: 7 :: 7 :: 7 :: 7 :: 7 :: 7 :: 7 :: 7 :: 7 :: [])).append ((8 :: 8 :: 8 :: 8 :: 8 :: 8 :: 8 :: 8 :: 8 :: 8 :: 8 :: 8 :: 8 :: 8 :: 8 :: 8 :: 8 :: 8 :: 8 :: 8 :: 8 :: 8 :: 8 :: 8 :: 8 :: 8 :: 8 :: 8 :: 8 :: 8 :: 8 :: 8 :: 8 :: 8 :: 8 :: 8 :: 8 :: 8 :: 8 :: 8 :: 8 :: 8 :: 8 :: 8 :: 8 :: 8 :: 8 :: 8 :: 8 :: 8 :: 8 :: 8 :: 8 :: 8 :: 8 :: 8 :: 8 :: 8 :: 8 :: 8 :: 8 :: 8 :: 8 :: 8 :: []).append (8 :: 8 :: 8 :: 8 :: 8 :: 8 :: 8 :: 8 :: 8 :: 8 :: 8 :: 8 :: 8 :: 8 :: 8 :: 8 :: 8 :: 8 :: 8 :: 8 :: 8 :: 8 :: 8 :: 8 :: 8 :: 8 :: 8 :: 8 :: 8 :: 8 :: 8 :: 8 :: 8 :: 8 :: 8 :: 8 :: 8 :: 8 :: 8 :: 8 :: 8 :: 8 :: 8 :: 8 :: 8 :: 8 :: 8 :: 8 :: 8 :: 8 :: 8 :: 8 :: 8 :: 8 :: 8 :: 8 :: 8 :: 8 :: 8 :: 8 :: 8 :: 8 :: 8 :: 8 :: []))).toArray } : ByteArray) (i : Int) == (bl i : Int)) = true := by kernel_rfl
theorem tab_at (x : Nat) (hx : x < 256) : byteAt ({ data := (((0 :: 1 :: 2 :: 2 :: 3 :: 3 :: 3 :: 3 :: 4 :: 4 :: 4 :: 4 :: 4 :: 4 :: 4 :: 4 :: 5 :: 5 :: 5 :: 5 :: 5 :: 5 :: 5 :: 5 :: 5 :: 5 :: 5 :: 5 :: 5 :: 5 :: 5 :: 5 :: 6 :: 6 :: 6 :: 6 :: 6 :: 6 :: 6 :: 6 :: 6 :: 6 :: 6 :: 6 :: 6 :: 6 :: 6 :: 6 :: 6 :: 6 :: 6 :: 6 :: 6 :: 6 :: 6 :: 6 :: 6 :: 6 :: 6 :: 6 :: 6 :: 6 :: 6 :: 6 :: []).append (7 :: 7 :: 7 :: 7 :: 7 :: 7 :: 7 :: 7 :: 7 :: 7 :: 7 :: 7 :: 7 :: 7 :: 7 :: 7 :: 7 :: 7 :: 7 :: 7 :: 7 :: 7 :: 7 :: 7 :: 7 :: 7 :: 7 :: 7 :: 7 :: 7 :: 7 :: 7 :: 7 :: 7 :: 7 :: 7 :: 7 :: 7 :: 7 :: 7 :: 7 :: 7 :: 7 :: 7 :: 7 :: 7 :: 7 :: 7 :: 7 :: 7 :: 7 :: 7 :: 7 :: 7 :: 7 :: 7 :: 7 :: 7 :: 7 :: 7 :: 7 :: 7 :: 7 :: 7 :: [])).append ((8 :: 8 :: 8 :: 8 :: 8 :: 8 :: 8 :: 8 :: 8 :: 8 :: 8 :: 8 :: 8 :: 8 :: 8 :: 8 :: 8 :: 8 :: 8 :: 8 :: 8 :: 8 :: 8 :: 8 :: 8 :: 8 :: 8 :: 8 :: 8 :: 8 :: 8 :: 8 :: 8 :: 8 :: 8 :: 8 :: 8 :: 8 :: 8 :: 8 :: 8 :: 8 :: 8 :: 8 :: 8 :: 8 :: 8 :: 8 :: 8 :: 8 :: 8 :: 8 :: 8 :: 8 :: 8 :: 8 :: 8 :: 8 :: 8 :: 8 :: 8 :: 8 :: 8 :: 8 :: []).append (8 :: 8 :: 8 :: 8 :: 8 :: 8 :: 8 :: 8 :: 8 :: 8 :: 8 :: 8 :: 8 :: 8 :: 8 :: 8 :: 8 :: 8 :: 8 :: 8 :: 8 :: 8 :: 8 :: 8 :: 8 :: 8 :: 8 :: 8 :: 8 :: 8 :: 8 :: 8 :: 8 :: 8 :: 8 :: 8 :: 8 :: 8 :: 8 :: 8 :: 8 :: 8 :: 8 :: 8 :: 8 :: 8 :: 8 :: 8 :: 8 :: 8 :: 8 :: 8 :: 8 :: 8 :: 8 :: 8 :: 8 :: 8 :: 8 :: 8 :: 8 :: 8 :: 8 :: 8 :: []))).toArray } : ByteArray) (x : Int) = (bl x : Int) := by
  have := List.all_eq_true.1 tab_all x (List.mem_range.2 hx)
  simpa only [beq_iff_eq] using this
theorem l332 (x : Nat) [hx : Bd x 18446744073709551616] : PCalls Tryz.prog 332 [.i .u64 (x : Int)] (.i .i64 (bl x : Int)) := by
  have hx := hx.lt
  refine pof Tryz.func332 fun h n => ?_
  refine AWp.seq ?_
  refine rg ?_
  refine AWp.cut (fun t' h' n' => ∃ x1 m1 : Nat, t' 0 = .i .u64 (x1 : Int) ∧ t' 2 = .i .i64 (m1 : Int) ∧ x1 < 4294967296 ∧ m1 ≤ 32 ∧ Hid (bl x = m1 + bl x1) ∧ h = h') ?_ ?_
  · by_cases g : 4294967296 ≤ x
    · have g1 : ((x : Int) ≥ 4294967296) = True := by simp; omega
      have g2 : (4294967296 ≤ (x : Int)) = True := by simp; omega
      have p : (2 : Int) ^ min 32 (IntKind.bits .u64) = 4294967296 := by decide
      obtain ⟨y, ey⟩ : ∃ y, y = x / 4294967296 := ⟨_, rfl⟩
      have s1 : Int.fdiv (x : Int) 4294967296 = (y : Int) := by rw [ey]; exact fdivN x 4294967296
      have w1 : IntKind.wrap .u64 (y : Int) = (y : Int) := by rw [wrapN, Nat.mod_eq_of_lt (by omega)]
      obtain ⟨v, ev⟩ : ∃ v, v = 0 + 32 := ⟨_, rfl⟩
      have w2 : IntKind.wrap .i64 ((0 : Int) + 32) = (v : Int) := by rw [ev]; exact IntWalk.i64_in _ (by omega)
      have e := bl_shr (x := x) (k := 32) (by simpa using g)
      have e2 : Hid (bl x = v + bl y) := ⟨by rw [ev, ey]; rw [e]⟩
      have b1 : y < 4294967296 := by omega
      have b2 : v ≤ 32 := by omega
      clear ey e
      rw [Nat.zero_add] at ev; subst ev
      refine go ?_
      exact ⟨y, 32, tr, tr, b1, b2, e2, rfl⟩
    · have g1 : ((x : Int) ≥ 4294967296) = False := by simp; omega
      have g2 : (4294967296 ≤ (x : Int)) = False := by simp; omega
      have b1 : x < 4294967296 := by omega
      have e2 : Hid (bl x = 0 + bl x) := ⟨(Nat.zero_add _).symm⟩
      refine go ?_
      exact ⟨x, 0, tr, tr, b1, by omega, e2, rfl⟩
  rintro t1 g1 n1 - ⟨x1, m1, h0, h2, hx1, hm1, hb, rfl⟩
  refine AWp.cut (fun t' h' n' => ∃ x1 m1 : Nat, t' 0 = .i .u64 (x1 : Int) ∧ t' 2 = .i .i64 (m1 : Int) ∧ x1 < 65536 ∧ m1 ≤ 48 ∧ Hid (bl x = m1 + bl x1) ∧ h = h') ?_ ?_
  · by_cases g : 65536 ≤ x1
    · have g1 : ((x1 : Int) ≥ 65536) = True := by simp; omega
      have g2 : (65536 ≤ (x1 : Int)) = True := by simp; omega
      have p : (2 : Int) ^ min 16 (IntKind.bits .u64) = 65536 := by decide
      obtain ⟨y, ey⟩ : ∃ y, y = x1 / 65536 := ⟨_, rfl⟩
      have s1 : Int.fdiv (x1 : Int) 65536 = (y : Int) := by rw [ey]; exact fdivN x1 65536
      have w1 : IntKind.wrap .u64 (y : Int) = (y : Int) := by rw [wrapN, Nat.mod_eq_of_lt (by omega)]
      obtain ⟨v, ev⟩ : ∃ v, v = m1 + 16 := ⟨_, rfl⟩
      have w2 : IntKind.wrap .i64 ((m1 : Int) + 16) = (v : Int) := by rw [ev]; exact IntWalk.i64_in _ (by omega)
      have e := bl_shr (x := x1) (k := 16) (by simpa using g)
      have e2 : Hid (bl x = v + bl y) := ⟨by rw [ev, ey]; rw [hb.get, e]; simp only [Nat.reducePow]; omega⟩
      have b1 : y < 65536 := by omega
      have b2 : v ≤ 48 := by omega
      clear ey e
      clear ev
      refine go ?_
      exact ⟨y, v, tr, tr, b1, b2, e2, rfl⟩
    · have g1 : ((x1 : Int) ≥ 65536) = False := by simp; omega
      have g2 : (65536 ≤ (x1 : Int)) = False := by simp; omega
      have b1 : x1 < 65536 := by omega
      have e2 : Hid (bl x = m1 + bl x1) := hb
      refine go ?_
      exact ⟨x1, m1, tr, tr, b1, by omega, e2, rfl⟩
  clear h0 h2
  rintro t2 g2 n2 - ⟨x2, m2, h0, h2, hx2, hm2, hb, rfl⟩
  refine AWp.cut (fun t' h' n' => ∃ x1 m1 : Nat, t' 0 = .i .u64 (x1 : Int) ∧ t' 2 = .i .i64 (m1 : Int) ∧ x1 < 256 ∧ m1 ≤ 56 ∧ Hid (bl x = m1 + bl x1) ∧ h = h') ?_ ?_
  · by_cases g : 256 ≤ x2
    · have g1 : ((x2 : Int) ≥ 256) = True := by simp; omega
      have g2 : (256 ≤ (x2 : Int)) = True := by simp; omega
      have p : (2 : Int) ^ min 8 (IntKind.bits .u64) = 256 := by decide
      obtain ⟨y, ey⟩ : ∃ y, y = x2 / 256 := ⟨_, rfl⟩
      have s1 : Int.fdiv (x2 : Int) 256 = (y : Int) := by rw [ey]; exact fdivN x2 256
      have w1 : IntKind.wrap .u64 (y : Int) = (y : Int) := by rw [wrapN, Nat.mod_eq_of_lt (by omega)]
      obtain ⟨v, ev⟩ : ∃ v, v = m2 + 8 := ⟨_, rfl⟩
      have w2 : IntKind.wrap .i64 ((m2 : Int) + 8) = (v : Int) := by rw [ev]; exact IntWalk.i64_in _ (by omega)
      have e := bl_shr (x := x2) (k := 8) (by simpa using g)
      have e2 : Hid (bl x = v + bl y) := ⟨by rw [ev, ey]; rw [hb.get, e]; simp only [Nat.reducePow]; omega⟩
      have b1 : y < 256 := by omega
      have b2 : v ≤ 56 := by omega
      clear ey e
      clear ev
      refine go ?_
      exact ⟨y, v, tr, tr, b1, b2, e2, rfl⟩
    · have g1 : ((x2 : Int) ≥ 256) = False := by simp; omega
      have g2 : (256 ≤ (x2 : Int)) = False := by simp; omega
      have b1 : x2 < 256 := by omega
      have e2 : Hid (bl x = m2 + bl x2) := hb
      refine go ?_
      exact ⟨x2, m2, tr, tr, b1, by omega, e2, rfl⟩
  clear h0 h2
  rintro t3 g3 n3 - ⟨x3, m3, h0, h2, hx3, hm3, hb, rfl⟩
  have w1 : IntKind.wrap .u8 (x3 : Int) = (x3 : Int) := by rw [IntKind.wrap_u8]; omega
  obtain ⟨b, eb⟩ : ∃ b, b = bl x3 := ⟨_, rfl⟩
  have hb8 := bl_le (x := x3) (k := 8) (by simpa using hx3)
  have i1 : (0 ≤ (x3 : Int) ∧ (x3 : Int) < 256) = True := by simp; omega
  have i2 := tab_at x3 hx3
  rw [← eb] at i2 hb8
  have w2 : IntKind.wrap .i64 (b : Int) = (b : Int) := IntWalk.i64_in _ (by omega)
  have w3 : IntKind.wrap .i64 ((m3 : Int) + (b : Int)) = (bl x : Int) := by rw [hb.get, ← eb]; exact IntWalk.i64_in _ (by omega)
  have ts := tab_size
  clear eb hb
  refine go ?_
  exact outP
instance (x : Nat) [Bd x 18446744073709551616] : Ct Tryz.prog 332 [.i .u64 (x : Int)] (.i .i64 (bl x : Int)) := ⟨l332 x⟩
/-! ### limb.Len -/
theorem l323 (a : Nat) [ha : Bd a M256] : PCalls Tryz.prog 323 [.agg (numC a)] (.i .i64 (bl a : Int)) := by
  have ha := ha.lt
  obtain ⟨a0, ea0⟩ : ∃ x, x = dg a 0 := ⟨_, rfl⟩
  obtain ⟨a1, ea1⟩ : ∃ x, x = dg a 1 := ⟨_, rfl⟩
  obtain ⟨a2, ea2⟩ : ∃ x, x = dg a 2 := ⟨_, rfl⟩
  obtain ⟨a3, ea3⟩ : ∃ x, x = dg a 3 := ⟨_, rfl⟩
  have la := dg_all ha
  have ka0 := dg_lt a 0
  have ka1 := dg_lt a 1
  have ka2 := dg_lt a 2
  have ka3 := dg_lt a 3
  rw [← ea0, ← ea1, ← ea2, ← ea3] at la
  rw [← ea0] at ka0
  rw [← ea1] at ka1
  rw [← ea2] at ka2
  rw [← ea3] at ka3
  have na : numC a = [.i .u64 (a0 : Int), .i .u64 (a1 : Int), .i .u64 (a2 : Int), .i .u64 (a3 : Int)] := by rw [ea0, ea1, ea2, ea3]; rfl
  clear ea0 ea1 ea2 ea3
  rw [na]
  obtain ⟨v, ev⟩ : ∃ v, v = bl a := ⟨_, rfl⟩
  rw [← ev]
  have Ev : Hid _ := ⟨ev⟩
  have La : Hid _ := ⟨la⟩
  clear ev la na ha
  have ws : ∀ k : Nat, k < 300 → IntKind.wrap .i64 (k : Int) = (k : Int) := fun k hk => IntWalk.i64_in _ (by omega)
  have u64 : IntKind.wrap .i64 64 = 64 := ws 64 (by decide)
  have u128 : IntKind.wrap .i64 128 = 128 := ws 128 (by decide)
  have u192 : IntKind.wrap .i64 192 = 192 := ws 192 (by decide)
  have u0 : IntKind.wrap .i64 0 = 0 := ws 0 (by decide)
  have um : IntKind.wrap .i64 (-1) = -1 := by decide
  clear ws
  refine pof Tryz.func323 fun h n => ?_
  by_cases c3 : a3 = 0
  · have z3 : (((a3 : Int) != 0) = false) := by simp; omega
    by_cases c2 : a2 = 0
    · have z2 : (((a2 : Int) != 0) = false) := by simp; omega
      by_cases c1 : a1 = 0
      · have z1 : (((a1 : Int) != 0) = false) := by simp; omega
        by_cases c0 : a0 = 0
        · have z0 : (((a0 : Int) != 0) = false) := by simp; omega
          have e : v = 0 := by rw [Ev.get, La.get, show a0 + 18446744073709551616 * a1 + 340282366920938463463374607431768211456 * a2 + 6277101735386680763835789423207666416102355444464034512896 * a3 = 0 by omega]; rfl
          rw [e]
          clear e Ev La
          refine go ?_
          refine AWr.loop 6 ?_
          refine go ?_
          exact outP
        · have f0 : (((a0 : Int) != 0) = true) := by simp; omega
          have hb := bl_le (x := a0) (k := 64) (by simpa using ka0)
          have hv : v = 0 + bl a0 := by
            rw [Ev.get, La.get]
            rw [Nat.zero_add]
            congr 1; omega
          haveI : Bd a0 18446744073709551616 := ⟨ka0⟩
          have w : IntKind.wrap .i64 (0 + (bl a0 : Int)) = (v : Int) := by rw [hv]; exact (IntWalk.i64_in _ (by omega)).trans (by omega)
          clear hv hb Ev La
          refine go ?_
          refine AWr.loop 6 ?_
          refine go ?_
          exact outP
      · have f1 : (((a1 : Int) != 0) = true) := by simp; omega
        have hb := bl_le (x := a1) (k := 64) (by simpa using ka1)
        have hv : v = 64 + bl a1 := by
          rw [Ev.get, La.get]
          rw [bl_shr (k := 64) (by simp only [Nat.reducePow]; omega)]
          congr 2
          simp only [Nat.reducePow]; omega
        haveI : Bd a1 18446744073709551616 := ⟨ka1⟩
        have w : IntKind.wrap .i64 (64 + (bl a1 : Int)) = (v : Int) := by rw [hv]; exact (IntWalk.i64_in _ (by omega)).trans (by omega)
        clear hv hb Ev La
        refine go ?_
        refine AWr.loop 6 ?_
        refine go ?_
        exact outP
    · have f2 : (((a2 : Int) != 0) = true) := by simp; omega
      have hb := bl_le (x := a2) (k := 64) (by simpa using ka2)
      have hv : v = 128 + bl a2 := by
        rw [Ev.get, La.get]
        rw [bl_shr (k := 128) (by simp only [Nat.reducePow]; omega)]
        congr 2
        simp only [Nat.reducePow]; omega
      haveI : Bd a2 18446744073709551616 := ⟨ka2⟩
      have w : IntKind.wrap .i64 (128 + (bl a2 : Int)) = (v : Int) := by rw [hv]; exact (IntWalk.i64_in _ (by omega)).trans (by omega)
      clear hv hb Ev La
      refine go ?_
      refine AWr.loop 6 ?_
      refine go ?_
      exact outP
  · have f3 : (((a3 : Int) != 0) = true) := by simp; omega
    have hb := bl_le (x := a3) (k := 64) (by simpa using ka3)
    have hv : v = 192 + bl a3 := by
      rw [Ev.get, La.get]
      rw [bl_shr (k := 192) (by simp only [Nat.reducePow]; omega)]
      congr 2
      simp only [Nat.reducePow]; omega
    haveI : Bd a3 18446744073709551616 := ⟨ka3⟩
    have w : IntKind.wrap .i64 (192 + (bl a3 : Int)) = (v : Int) := by rw [hv]; exact (IntWalk.i64_in _ (by omega)).trans (by omega)
    clear hv hb Ev La
    refine go ?_
    refine AWr.loop 6 ?_
    refine go ?_
    exact outP
instance (a : Nat) [Bd a M256] : Ct Tryz.prog 323 [.agg (numC a)] (.i .i64 (bl a : Int)) := ⟨l323 a⟩
/-! ### field.Pow -/
theorem pow_step {a e k m o : Nat} (ho : o = a ^ (e / 2 ^ (k + 1)) % m) : (e / 2 ^ k % 2 = 0 → o * o % m = a ^ (e / 2 ^ k) % m) ∧ (e / 2 ^ k % 2 = 1 → (o * o % m) * a % m = a ^ (e / 2 ^ k) % m) := by
  obtain ⟨q, hq⟩ : ∃ q, q = e / 2 ^ (k + 1) := ⟨_, rfl⟩
  obtain ⟨p, hp⟩ : ∃ p, p = e / 2 ^ k := ⟨_, rfl⟩
  have e1 : q = p / 2 := by rw [hq, hp, Nat.pow_succ, Nat.div_div_eq_div_mul]
  rw [← hp, ho, ← hq]
  have e2 : (a ^ q % m) * (a ^ q % m) % m = a ^ (2 * q) % m := by rw [← Nat.mul_mod, ← Nat.pow_add]; congr 2; omega
  constructor
  · intro hz
    rw [e2, show 2 * q = p by omega]
  · intro hz
    rw [e2, Nat.mod_mul_mod, ← Nat.pow_succ, show (2 * q).succ = p by omega]
/-- A power, sealed: nothing reckons it out. -/
noncomputable def powm (a e m : Nat) : Nat := @ite _ True (Classical.propDecidable True) (a ^ e % m) 0
theorem powm_eq (a e m : Nat) : powm a e m = a ^ e % m := if_pos trivial
theorem powm_lt (a e m : Nat) (hm : 0 < m) : powm a e m < m := by rw [powm_eq]; exact Nat.mod_lt _ hm
theorem m_gt (w : Int) : 1 < mOf w := by have := m_lt w; unfold M256 at this; omega
instance (a e : Nat) (w : Int) : Bd (powm a e (mOf w)) M256 := ⟨Nat.lt_trans (powm_lt _ _ _ (P_pos w)) (m_lt w).1⟩
theorem l317 (w : Int) (a e : Nat) [Wh w] [ha : Bd a M256] [he : Bd e M256] : PCalls Tryz.prog 317 [.i .i64 w, .agg (numC a), .agg (numC e)] (.agg (numC (powm a e (mOf w)))) := by
  have he := he.lt
  have hm := m_lt w
  have hm1 := m_gt w
  have hb := bl_le (x := e) (k := 256) (by unfold M256 at he; simpa using he)
  have hlt := bl_lt e
  obtain ⟨F, eF⟩ : ∃ F, F = powm a e (mOf w) := ⟨_, rfl⟩
  have HF : Hid _ := ⟨eF⟩
  rw [← eF]
  clear eF
  have w0 : IntKind.wrap .i64 ((bl e : Int) - 1) = (bl e : Int) - 1 := IntWalk.i64_in _ (by omega)
  refine pof Tryz.func317 fun h n => ?_
  refine go ?_
  refine AWp.loop (fun mm t' h' n' => ∃ k o : Nat, mm = k ∧ k ≤ bl e ∧ o < M256 ∧ Hid (o = a ^ (e / 2 ^ k) % mOf w) ∧ t' 0 = .i .i64 w ∧ t' 4 = .p n 0 ∧ t' 5 = .p (n + 1) 0 ∧ t' 6 = .p (n + 2) 0 ∧ t' 9 = .p (n + 4) 0 ∧ t' 10 = .i .i64 ((k : Int) - 1) ∧ h' n = some (.cells (numC a)) ∧ h' (n + 1) = some (.cells (numC e)) ∧ h' (n + 2) = some (.cells (numC 0)) ∧ h' (n + 4) = some (.cells (numC o)) ∧ n + 5 ≤ n' ∧ Keeps n h h') (bl e) ?_ ?_
  · exact ⟨bl e, 1, rfl, Nat.le_refl _, by decide, ⟨by rw [Nat.div_eq_of_lt hlt, Nat.pow_zero, Nat.mod_eq_of_lt hm1]⟩, tr, tr, tr, tr, tr, tr, tr, tr, tr, tr, by omega, ks⟩
  · rintro mm t' h' n' - ⟨k, o, hmm, hk, om, Ho, t0, t4, t5, t6, t9, t10, r0, r1, r2, r4, hn, kp⟩
    by_cases hk0 : k = 0
    · subst hk0
      have e1 : F = o := by rw [HF.get, Ho.get]; simp only [Nat.pow_zero, Nat.div_one]; exact powm_eq _ _ _
      rw [e1]
      clear e1
      have g1 : ((((0 : Nat) : Int) - 1) ≥ 0) = False := by simp
      have g2 : (0 ≤ (((0 : Nat) : Int) - 1)) = False := by simp
      refine go ?_
      exact outP
    · obtain ⟨j, rfl⟩ : ∃ j, k = j + 1 := ⟨k - 1, by omega⟩
      haveI : Bd o M256 := ⟨om⟩
      obtain ⟨o1, eo1⟩ : ∃ o1, o1 = o * o % mOf w := ⟨_, rfl⟩
      have om1 : o1 < M256 := by rw [eo1]; exact Nat.lt_trans (Nat.mod_lt _ hm.2.2) hm.1
      haveI : Bd o1 M256 := ⟨om1⟩
      obtain ⟨o2, eo2⟩ : ∃ o2, o2 = o1 * a % mOf w := ⟨_, rfl⟩
      have om2 : o2 < M256 := by rw [eo2]; exact Nat.lt_trans (Nat.mod_lt _ hm.2.2) hm.1
      obtain ⟨z, ez⟩ : ∃ z, z = e / 2 ^ j % 2 := ⟨_, rfl⟩
      have st := pow_step Ho.get
      rw [← eo1, ← eo2, ← ez] at st
      haveI : Bd j 256 := ⟨by omega⟩
      have C := l314 w o o
      have D := l314 w o1 a
      have E := l324 e j
      rw [← eo1] at C
      rw [← eo2] at D
      rw [← ez] at E
      obtain ⟨x, ex⟩ : ∃ x : Int, x = ((j + 1 : Nat) : Int) - 1 := ⟨_, rfl⟩
      have ej : x = (j : Int) := by omega
      rw [← ex, ej] at t10
      clear ex ej x
      have p0 := apt (j := n) (n := n') (by omega)
      have p1 := apt (j := n + 1) (n := n') (by omega)
      have p2 := apt (j := n + 2) (n := n') (by omega)
      have p4 := apt (j := n + 4) (n := n') (by omega)
      have g1 : ((j : Int) ≥ 0) = True := by simp
      have g2 : (0 ≤ (j : Int)) = True := by simp
      have w1 : IntKind.wrap .i64 ((j : Int) - 1) = (j : Int) - 1 := IntWalk.i64_in _ (by omega)
      have lt1 : j < mm := by omega
      have le1 : j ≤ bl e := by omega
      clear eo1 eo2 Ho HF hmm
      rcases (show z = 0 ∨ z = 1 by omega) with hz | hz
      · have st : Hid _ := ⟨st.1 hz⟩
        have f1 : ((z : Int) == 1) = false := by subst hz; rfl
        clear hz ez hlt w0
        refine go ?_
        exact ⟨j, lt1, j, o1, rfl, le1, om1, st, tr, tr, tr, tr, tr, tr, tr, tr, tr, tr, by omega, ks⟩
      · have st : Hid _ := ⟨st.2 hz⟩
        have f1 : ((z : Int) == 1) = true := by subst hz; rfl
        clear hz ez hlt w0
        refine go ?_
        exact ⟨j, lt1, j, o2, rfl, le1, om2, st, tr, tr, tr, tr, tr, tr, tr, tr, tr, tr, by omega, ks⟩
instance (w : Int) (a e : Nat) [Wh w] [Bd a M256] [Bd e M256] : Ct Tryz.prog 317 [.i .i64 w, .agg (numC a), .agg (numC e)] (.agg (numC (powm a e (mOf w)))) := ⟨l317 w a e⟩
/-! ### field.Inv -/
theorem l289 (w : Int) (a : Nat) [Wh w] [Bd a M256] : PCalls Tryz.prog 289 [.i .i64 w, .agg (numC a)] (.agg (numC (powm a (mOf w - 2) (mOf w)))) := by
  have hm := m_lt w
  obtain ⟨d, ed⟩ : ∃ d, d = mOf w - 2 := ⟨_, rfl⟩
  haveI : Bd d M256 := ⟨by omega⟩
  rw [← ed]
  have B := l303 (mOf w) 2
  rw [if_neg (by unfold M256 at hm; omega), show (mOf w + M256 - 2) % M256 = d by unfold M256 at *; omega] at B
  have B : PCalls Tryz.prog 303 [.agg (numC (mOf w)), .agg (numC 2)] (.tup [.agg (numC d), .i .u64 0]) := B
  clear ed hm
  refine pof Tryz.func289 fun h n => ?_
  refine go ?_
  exact outP
instance (w : Int) (a : Nat) [Wh w] [Bd a M256] : Ct Tryz.prog 289 [.i .i64 w, .agg (numC a)] (.agg (numC (powm a (mOf w - 2) (mOf w)))) := ⟨l289 w a⟩
/-! ### field.Root -/
def P0 : Nat := 115792089237316195423570985008687907853269984665640564039457584007908834671663
theorem m0 : mOf 0 = P0 := by decide
def E4 : Nat := 28948022309329048855892746252171976963317496166410141009864396001977208667916
noncomputable def rootN (a : Nat) : Nat × Bool := if (powm a E4 P0) * (powm a E4 P0) % P0 = a % P0 then (if (powm a E4 P0) % 2 = 1 then (0 + (P0 - (powm a E4 P0) % P0)) % P0 else powm a E4 P0, true) else (0, false)
theorem rootN_lt (a : Nat) : (rootN a).1 < M256 := by
  have hp : P0 < M256 ∧ 0 < P0 := by decide
  unfold rootN
  split
  · split
    · exact Nat.lt_trans (Nat.mod_lt _ hp.2) hp.1
    · exact Nat.lt_trans (powm_lt _ _ _ hp.2) hp.1
  · decide
theorem splice4 (a b c d e f g i : AV) : splice [a, b, c, d] 0 [e, f, g, i] = [e, f, g, i] := rfl
theorem set1 (a b c d x : AV) : [a, b, c, d].set 1 x = [a, x, c, d] := rfl
theorem set0 (a b c d x : AV) : [a, b, c, d].set 0 x = [x, b, c, d] := rfl
theorem set2 (a b c d x : AV) : [a, b, c, d].set 2 x = [a, b, x, d] := rfl
theorem set3 (a b c d x : AV) : [a, b, c, d].set 3 x = [a, b, c, x] := rfl
theorem dg0_odd (x : Nat) : dg x 0 % 2 = x % 2 := by unfold dg; simp only [Nat.mul_zero, Nat.pow_zero, Nat.div_one]; omega
instance : Bd P0 M256 := ⟨by decide⟩
instance : Bd E4 M256 := ⟨by decide⟩
instance (a : Nat) : Bd (rootN a).1 M256 := ⟨rootN_lt a⟩
instance (a e : Nat) : Bd (powm a e P0) M256 := ⟨Nat.lt_trans (powm_lt _ _ _ (by decide)) (by decide)⟩
instance (a : Nat) : Bd (a % P0) M256 := ⟨Nat.lt_trans (Nat.mod_lt _ (by decide)) (by decide)⟩
def b296_7 : List Nat := [0, 1, 3, 0, 8, 24, 56, 120, 255, 511, 1023]
def w296_7 : List Nat := [10]
def b296_10 : List Nat := [0, 0, 3, 0, 15, 31]
def w296_10 : List Nat := []
theorem l296 (a : Nat) [Bd a M256] : PCalls Tryz.prog 296 [.agg (numC a)] (.tup [.agg (numC (rootN a).1), .b (rootN a).2]) := by
  obtain ⟨x, ex⟩ : ∃ x, x = powm a E4 P0 := ⟨_, rfl⟩
  haveI : Bd x M256 := by rw [ex]; infer_instance
  obtain ⟨q, eq⟩ : ∃ q, q = x * x % P0 := ⟨_, rfl⟩
  haveI hq : Bd q M256 := by rw [eq]; infer_instance
  obtain ⟨r, er⟩ : ∃ r, r = a % P0 := ⟨_, rfl⟩
  haveI hr : Bd r M256 := by rw [er]; infer_instance
  obtain ⟨y, ey⟩ : ∃ y, y = (0 + (P0 - x % P0)) % P0 := ⟨_, rfl⟩
  obtain ⟨z, ez⟩ : ∃ z, z = x % 2 := ⟨_, rfl⟩
  have eR : rootN a = if q = r then (if z = 1 then y else x, true) else (0, false) := by
    unfold rootN; rw [← ex, ← eq, ← er, ← ey, ← ez]
  rw [eR]
  clear eR
  have A := l272 0
  rw [m0] at A
  have B : PCalls Tryz.prog 318 [.agg (numC P0), .agg (numC 1)] (.tup [.agg [.i .u64 18446744069414583344, .i .u64 18446744073709551615, .i .u64 18446744073709551615, .i .u64 18446744073709551615], .i .u64 0]) := by
    have e := l318 P0 1
    rwa [show AV.tup [.agg (numC ((P0 + 1) % M256)), .i .u64 ((P0 + 1) / M256 : Nat)] = .tup [.agg [.i .u64 18446744069414583344, .i .u64 18446744073709551615, .i .u64 18446744073709551615, .i .u64 18446744073709551615], .i .u64 0] by kernel_rfl] at e
  have ne4 : AV.agg [.i .u64 18446744072635809548, .i .u64 18446744073709551615, .i .u64 18446744073709551615, .i .u64 4611686018427387903] = .agg (numC E4) := by kernel_rfl
  have C := l317 0 a E4
  rw [m0, ← ex] at C
  have D := l314 0 x x
  rw [m0, ← eq] at D
  have E := l319 0 a
  rw [m0, ← er] at E
  have F := l315 0 0 x
  rw [m0, ← ey] at F
  have G := aeq_num hq.lt hr.lt
  have b1 : Av.bits .and .u64 (dg x 0 : Nat) 1 = (z : Int) := by rw [and1_u64 _ (dg_lt x 0), dg0_odd, ez]
  have s0 : Int.fdiv 18446744069414583344 (2 ^ min 2 (IntKind.bits .u64)) = 4611686017353645836 := by decide
  have s0x : Int.fdiv 18446744069414583344 4 = 4611686017353645836 := by decide
  have h0 : IntKind.wrap .u64 (18446744073709551615 * 2 ^ min 62 (IntKind.bits .u64)) = 13835058055282163712 := by decide
  have h0x : IntKind.wrap .u64 (85070591730234615861231965839514664960) = 13835058055282163712 := by decide
  have r0 : Av.bits .or .u64 4611686017353645836 13835058055282163712 = 18446744072635809548 := by decide
  have s1 : Int.fdiv 18446744073709551615 (2 ^ min 2 (IntKind.bits .u64)) = 4611686018427387903 := by decide
  have s1x : Int.fdiv 18446744073709551615 4 = 4611686018427387903 := by decide
  have h1 : IntKind.wrap .u64 (18446744073709551615 * 2 ^ min 62 (IntKind.bits .u64)) = 13835058055282163712 := by decide
  have h1x : IntKind.wrap .u64 (85070591730234615861231965839514664960) = 13835058055282163712 := by decide
  have r1 : Av.bits .or .u64 4611686018427387903 13835058055282163712 = 18446744073709551615 := by decide
  have s2 : Int.fdiv 18446744073709551615 (2 ^ min 2 (IntKind.bits .u64)) = 4611686018427387903 := by decide
  have s2x : Int.fdiv 18446744073709551615 4 = 4611686018427387903 := by decide
  have h2 : IntKind.wrap .u64 (18446744073709551615 * 2 ^ min 62 (IntKind.bits .u64)) = 13835058055282163712 := by decide
  have h2x : IntKind.wrap .u64 (85070591730234615861231965839514664960) = 13835058055282163712 := by decide
  have r2 : Av.bits .or .u64 4611686018427387903 13835058055282163712 = 18446744073709551615 := by decide
  have s3 : Int.fdiv 18446744073709551615 (2 ^ min 2 (IntKind.bits .u64)) = 4611686018427387903 := by decide
  have s3x : Int.fdiv 18446744073709551615 4 = 4611686018427387903 := by decide
  have k4 := splice4
  have k0 := set0
  have k1 := set1
  have k2 := set2
  have k3 := set3
  clear ex eq er ey
  refine pof Tryz.func296 fun h n => ?_
  by_cases hqr : q = r
  · rw [if_pos hqr]
    rw [decide_eq_true hqr] at G
    clear hqr
    rcases (show z = 0 ∨ z = 1 by omega) with hz | hz
    · have f1 : ((z : Int) == 1) = false := by subst hz; rfl
      rw [if_neg (show ¬ z = 1 by omega)]
      clear hz ez
      repeat (first | refine go ?_ | refine drg 7 b296_7 w296_7 ?_ | refine drg 10 b296_10 w296_10 ?_)
      refine AWr.loop 6 ?_
      repeat (first | refine go ?_ | refine drg 7 b296_7 w296_7 ?_ | refine drg 10 b296_10 w296_10 ?_)
      exact outP
    · have f1 : ((z : Int) == 1) = true := by subst hz; rfl
      rw [if_pos hz]
      clear hz ez
      repeat (first | refine go ?_ | refine drg 7 b296_7 w296_7 ?_ | refine drg 10 b296_10 w296_10 ?_)
      refine AWr.loop 6 ?_
      repeat (first | refine go ?_ | refine drg 7 b296_7 w296_7 ?_ | refine drg 10 b296_10 w296_10 ?_)
      exact outP
  · rw [if_neg hqr]
    rw [decide_eq_false hqr] at G
    clear hqr ez
    repeat (first | refine go ?_ | refine drg 7 b296_7 w296_7 ?_ | refine drg 10 b296_10 w296_10 ?_)
    refine AWr.loop 6 ?_
    repeat (first | refine go ?_ | refine drg 7 b296_7 w296_7 ?_ | refine drg 10 b296_10 w296_10 ?_)
    exact outP
instance (a : Nat) [Bd a M256] : Ct Tryz.prog 296 [.agg (numC a)] (.tup [.agg (numC (rootN a).1), .b (rootN a).2]) := ⟨l296 a⟩

end Go.Proofs.YtmkefpjpghmonaaGreat
