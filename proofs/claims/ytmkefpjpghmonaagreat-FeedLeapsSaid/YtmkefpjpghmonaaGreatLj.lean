import Derived.Test.YtmkefpjpghmonaaGreatLi
namespace Go.Proofs.YtmkefpjpghmonaaGreat
open Go.Av
set_option maxRecDepth 100000
set_option maxHeartbeats 1000000
set_option synthInstance.maxHeartbeats 400000
set_option synthInstance.maxSize 4000
set_option linter.unusedSimpArgs false
set_option linter.unusedVariables false

/-! ### numbers' bytes, the highest first -/
def beL (x : Nat) : Nat → List UInt8
  | 0 => []
  | n + 1 => UInt8.ofNat (x / 256 ^ n % 256) :: beL x n
theorem beL_len (x : Nat) : ∀ n, (beL x n).length = n
  | 0 => rfl
  | n + 1 => by rw [beL, List.length_cons, beL_len x n]
theorem beN_cons (c : UInt8) (b : List UInt8) : beN (c :: b) = c.toNat * 256 ^ b.length + beN b := by
  have h : ∀ (b : List UInt8) (x : Nat), b.foldl (fun x c => x * 256 + c.toNat) x = x * 256 ^ b.length + beN b := by
    intro b
    induction b with
    | nil => intro x; simp [beN]
    | cons d b ih =>
      intro x
      show List.foldl _ (x * 256 + d.toNat) b = x * 256 ^ (b.length + 1) + List.foldl _ (0 * 256 + d.toNat) b
      rw [ih, ih (0 * 256 + d.toNat)]
      simp only [Nat.zero_mul, Nat.zero_add, Nat.add_mul, Nat.pow_succ]
      rw [Nat.mul_assoc x 256, Nat.mul_comm 256, Nat.add_assoc]
  show List.foldl _ (0 * 256 + c.toNat) b = _
  rw [h, Nat.zero_mul, Nat.zero_add]
/-! ### high -/
theorem l251 (b : List UInt8) (hb : b.length ≤ 7) : PCalls Tryz.prog 251 [.ro false (cellsB b) b.length] (.i .u64 (beN b : Int)) := by
  obtain ⟨F, eF⟩ : ∃ F, F = beN b := ⟨_, rfl⟩
  have HF : Hid _ := ⟨eF⟩
  rw [← eF]
  clear eF
  refine pof Tryz.func251 fun h n => ?_
  refine go ?_
  refine AWp.loop (fun mm t' h' n' => ∃ i v : Nat, mm = b.length - i ∧ i ≤ b.length ∧ Hid (v = beN (b.take i)) ∧ t' 3 = .i .u64 (v : Int) ∧ t' 6 = .ro false (cellsB b) b.length ∧ t' 7 = .i .i64 (b.length : Int) ∧ t' 8 = .i .i64 (i : Int) ∧ Keeps n h h') b.length ?_ ?_
  · exact ⟨0, 0, rfl, Nat.zero_le _, ⟨rfl⟩, tr, tr, tr, tr, ks⟩
  · rintro mm t' h' n' - ⟨i, v, hmm, hi, Hv, t3, t6, t7, t8, kp⟩
    by_cases hib : i < b.length
    · have q1 : ((i : Int) < (b.length : Int)) = True := by simp; omega
      have q2 : (0 ≤ (i : Int) ∧ (i : Int) < (b.length : Int)) = True := by simp; omega
      have w1 : IntKind.wrap .i64 ((i : Int) + 1) = (i : Int) + 1 := IntWalk.i64_in _ (by omega)
      have q3 := cellsB_get hib
      have hv : v < 256 ^ i := by
        have := beN_lt (b.take i)
        rw [List.length_take, Nat.min_eq_left hi] at this
        rw [Hv.get]; exact this
      have hv7 : v < 256 ^ 6 := Nat.lt_of_lt_of_le hv (Nat.pow_le_pow_right (by decide) (by omega))
      obtain ⟨c, ec⟩ : ∃ c, c = b[i].toNat := ⟨_, rfl⟩
      have hc : c < 256 := by rw [ec]; exact b[i].toNat_lt
      rw [← ec] at q3
      obtain ⟨y, ey⟩ : ∃ y, y = v * 256 := ⟨_, rfl⟩
      have s1 : IntKind.wrap .u64 ((v : Int) * 2 ^ min 8 (IntKind.bits .u64)) = (y : Int) := by
        rw [show (2 : Int) ^ min 8 (IntKind.bits .u64) = ((256 : Nat) : Int) from rfl, ← Int.natCast_mul, wrapN, ey, Nat.mod_eq_of_lt (by omega)]
      have w5 : IntKind.wrap .u64 (c : Int) = (c : Int) := by rw [wrapN, Nat.mod_eq_of_lt (by omega)]
      obtain ⟨z, ez⟩ : ∃ z, z = y + c := ⟨_, rfl⟩
      have o1 : Av.bits .or .u64 (y : Int) (c : Int) = (z : Int) := by rw [or_u64 _ _ (by omega) (by omega), or_low (k := 8) (by omega) (by omega), ez]
      have Hz : Hid (z = beN (b.take (i + 1))) := ⟨by rw [List.take_succ_eq_append_getElem hib, beN_snoc, ez, ey, ← Hv.get, ← ec]⟩
      have lt1 : b.length - (i + 1) < mm := by omega
      clear ec ey ez Hv hv hv7 hmm HF
      refine go ?_
      exact ⟨b.length - (i + 1), lt1, i + 1, z, rfl, hib, Hz, tr, tr, tr, tr, ks⟩
    · have e : F = v := by rw [HF.get, Hv.get, List.take_of_length_le (by omega)]
      have q1 : ((i : Int) < (b.length : Int)) = False := by simp; omega
      rw [e]
      clear e HF Hv hmm
      refine go ?_
      exact outP
/-! ### RotateLeft32, of the distances that stand there -/
def rotI (x a b : Int) : Int := Av.bits .or .u32 (IntKind.wrap .u32 (x * a)) (Int.fdiv x b)
theorem l252_7 (x : Int) : PCalls Tryz.prog 252 [.i .u32 x, .i .i64 (-7)] (.i .u32 (rotI x 33554432 128)) := by
  have h1 : IntKind.wrap .u64 (-7) = 18446744073709551609 := by decide
  have h2 : Av.bits .and .u64 18446744073709551609 31 = 25 := by decide
  have h3 : IntKind.wrap .u64 7 = 7 := by decide
  have h4 : (2 : Int) ^ min 25 (IntKind.bits .u32) = 33554432 := by decide
  have h5 : (2 : Int) ^ min 7 (IntKind.bits .u32) = 128 := by decide
  refine pof Tryz.func252 fun h n => ?_
  refine go ?_
  exact outP
instance (x : Int) : Ct Tryz.prog 252 [.i .u32 x, .i .i64 (-7)] (.i .u32 (rotI x 33554432 128)) := ⟨l252_7 x⟩
theorem l252_18 (x : Int) : PCalls Tryz.prog 252 [.i .u32 x, .i .i64 (-18)] (.i .u32 (rotI x 16384 262144)) := by
  have h1 : IntKind.wrap .u64 (-18) = 18446744073709551598 := by decide
  have h2 : Av.bits .and .u64 18446744073709551598 31 = 14 := by decide
  have h3 : IntKind.wrap .u64 18 = 18 := by decide
  have h4 : (2 : Int) ^ min 14 (IntKind.bits .u32) = 16384 := by decide
  have h5 : (2 : Int) ^ min 18 (IntKind.bits .u32) = 262144 := by decide
  refine pof Tryz.func252 fun h n => ?_
  refine go ?_
  exact outP
instance (x : Int) : Ct Tryz.prog 252 [.i .u32 x, .i .i64 (-18)] (.i .u32 (rotI x 16384 262144)) := ⟨l252_18 x⟩
theorem l252_17 (x : Int) : PCalls Tryz.prog 252 [.i .u32 x, .i .i64 (-17)] (.i .u32 (rotI x 32768 131072)) := by
  have h1 : IntKind.wrap .u64 (-17) = 18446744073709551599 := by decide
  have h2 : Av.bits .and .u64 18446744073709551599 31 = 15 := by decide
  have h3 : IntKind.wrap .u64 17 = 17 := by decide
  have h4 : (2 : Int) ^ min 15 (IntKind.bits .u32) = 32768 := by decide
  have h5 : (2 : Int) ^ min 17 (IntKind.bits .u32) = 131072 := by decide
  refine pof Tryz.func252 fun h n => ?_
  refine go ?_
  exact outP
instance (x : Int) : Ct Tryz.prog 252 [.i .u32 x, .i .i64 (-17)] (.i .u32 (rotI x 32768 131072)) := ⟨l252_17 x⟩
theorem l252_19 (x : Int) : PCalls Tryz.prog 252 [.i .u32 x, .i .i64 (-19)] (.i .u32 (rotI x 8192 524288)) := by
  have h1 : IntKind.wrap .u64 (-19) = 18446744073709551597 := by decide
  have h2 : Av.bits .and .u64 18446744073709551597 31 = 13 := by decide
  have h3 : IntKind.wrap .u64 19 = 19 := by decide
  have h4 : (2 : Int) ^ min 13 (IntKind.bits .u32) = 8192 := by decide
  have h5 : (2 : Int) ^ min 19 (IntKind.bits .u32) = 524288 := by decide
  refine pof Tryz.func252 fun h n => ?_
  refine go ?_
  exact outP
instance (x : Int) : Ct Tryz.prog 252 [.i .u32 x, .i .i64 (-19)] (.i .u32 (rotI x 8192 524288)) := ⟨l252_19 x⟩
theorem l252_6 (x : Int) : PCalls Tryz.prog 252 [.i .u32 x, .i .i64 (-6)] (.i .u32 (rotI x 67108864 64)) := by
  have h1 : IntKind.wrap .u64 (-6) = 18446744073709551610 := by decide
  have h2 : Av.bits .and .u64 18446744073709551610 31 = 26 := by decide
  have h3 : IntKind.wrap .u64 6 = 6 := by decide
  have h4 : (2 : Int) ^ min 26 (IntKind.bits .u32) = 67108864 := by decide
  have h5 : (2 : Int) ^ min 6 (IntKind.bits .u32) = 64 := by decide
  refine pof Tryz.func252 fun h n => ?_
  refine go ?_
  exact outP
instance (x : Int) : Ct Tryz.prog 252 [.i .u32 x, .i .i64 (-6)] (.i .u32 (rotI x 67108864 64)) := ⟨l252_6 x⟩
theorem l252_11 (x : Int) : PCalls Tryz.prog 252 [.i .u32 x, .i .i64 (-11)] (.i .u32 (rotI x 2097152 2048)) := by
  have h1 : IntKind.wrap .u64 (-11) = 18446744073709551605 := by decide
  have h2 : Av.bits .and .u64 18446744073709551605 31 = 21 := by decide
  have h3 : IntKind.wrap .u64 11 = 11 := by decide
  have h4 : (2 : Int) ^ min 21 (IntKind.bits .u32) = 2097152 := by decide
  have h5 : (2 : Int) ^ min 11 (IntKind.bits .u32) = 2048 := by decide
  refine pof Tryz.func252 fun h n => ?_
  refine go ?_
  exact outP
instance (x : Int) : Ct Tryz.prog 252 [.i .u32 x, .i .i64 (-11)] (.i .u32 (rotI x 2097152 2048)) := ⟨l252_11 x⟩
theorem l252_25 (x : Int) : PCalls Tryz.prog 252 [.i .u32 x, .i .i64 (-25)] (.i .u32 (rotI x 128 33554432)) := by
  have h1 : IntKind.wrap .u64 (-25) = 18446744073709551591 := by decide
  have h2 : Av.bits .and .u64 18446744073709551591 31 = 7 := by decide
  have h3 : IntKind.wrap .u64 25 = 25 := by decide
  have h4 : (2 : Int) ^ min 7 (IntKind.bits .u32) = 128 := by decide
  have h5 : (2 : Int) ^ min 25 (IntKind.bits .u32) = 33554432 := by decide
  refine pof Tryz.func252 fun h n => ?_
  refine go ?_
  exact outP
instance (x : Int) : Ct Tryz.prog 252 [.i .u32 x, .i .i64 (-25)] (.i .u32 (rotI x 128 33554432)) := ⟨l252_25 x⟩
theorem l252_2 (x : Int) : PCalls Tryz.prog 252 [.i .u32 x, .i .i64 (-2)] (.i .u32 (rotI x 1073741824 4)) := by
  have h1 : IntKind.wrap .u64 (-2) = 18446744073709551614 := by decide
  have h2 : Av.bits .and .u64 18446744073709551614 31 = 30 := by decide
  have h3 : IntKind.wrap .u64 2 = 2 := by decide
  have h4 : (2 : Int) ^ min 30 (IntKind.bits .u32) = 1073741824 := by decide
  have h5 : (2 : Int) ^ min 2 (IntKind.bits .u32) = 4 := by decide
  refine pof Tryz.func252 fun h n => ?_
  refine go ?_
  exact outP
instance (x : Int) : Ct Tryz.prog 252 [.i .u32 x, .i .i64 (-2)] (.i .u32 (rotI x 1073741824 4)) := ⟨l252_2 x⟩
theorem l252_13 (x : Int) : PCalls Tryz.prog 252 [.i .u32 x, .i .i64 (-13)] (.i .u32 (rotI x 524288 8192)) := by
  have h1 : IntKind.wrap .u64 (-13) = 18446744073709551603 := by decide
  have h2 : Av.bits .and .u64 18446744073709551603 31 = 19 := by decide
  have h3 : IntKind.wrap .u64 13 = 13 := by decide
  have h4 : (2 : Int) ^ min 19 (IntKind.bits .u32) = 524288 := by decide
  have h5 : (2 : Int) ^ min 13 (IntKind.bits .u32) = 8192 := by decide
  refine pof Tryz.func252 fun h n => ?_
  refine go ?_
  exact outP
instance (x : Int) : Ct Tryz.prog 252 [.i .u32 x, .i .i64 (-13)] (.i .u32 (rotI x 524288 8192)) := ⟨l252_13 x⟩
theorem l252_22 (x : Int) : PCalls Tryz.prog 252 [.i .u32 x, .i .i64 (-22)] (.i .u32 (rotI x 1024 4194304)) := by
  have h1 : IntKind.wrap .u64 (-22) = 18446744073709551594 := by decide
  have h2 : Av.bits .and .u64 18446744073709551594 31 = 10 := by decide
  have h3 : IntKind.wrap .u64 22 = 22 := by decide
  have h4 : (2 : Int) ^ min 10 (IntKind.bits .u32) = 1024 := by decide
  have h5 : (2 : Int) ^ min 22 (IntKind.bits .u32) = 4194304 := by decide
  refine pof Tryz.func252 fun h n => ?_
  refine go ?_
  exact outP
instance (x : Int) : Ct Tryz.prog 252 [.i .u32 x, .i .i64 (-22)] (.i .u32 (rotI x 1024 4194304)) := ⟨l252_22 x⟩
/-! ### rounds -/
def kL : List Nat := [1116352408, 1899447441, 3049323471, 3921009573, 961987163, 1508970993, 2453635748, 2870763221, 3624381080, 310598401, 607225278, 1426881987, 1925078388, 2162078206, 2614888103, 3248222580, 3835390401, 4022224774, 264347078, 604807628, 770255983, 1249150122, 1555081692, 1996064986, 2554220882, 2821834349, 2952996808, 3210313671, 3336571891, 3584528711, 113926993, 338241895, 666307205, 773529912, 1294757372, 1396182291, 1695183700, 1986661051, 2177026350, 2456956037, 2730485921, 2820302411, 3259730800, 3345764771, 3516065817, 3600352804, 4094571909, 275423344, 430227734, 506948616, 659060556, 883997877, 958139571, 1322822218, 1537002063, 1747873779, 1955562222, 2024104815, 2227730452, 2361852424, 2428436474, 2756734187, 3204031479, 3329325298]
def kC : List AV := [.i .u32 1116352408, .i .u32 1899447441, .i .u32 3049323471, .i .u32 3921009573, .i .u32 961987163, .i .u32 1508970993, .i .u32 2453635748, .i .u32 2870763221, .i .u32 3624381080, .i .u32 310598401, .i .u32 607225278, .i .u32 1426881987, .i .u32 1925078388, .i .u32 2162078206, .i .u32 2614888103, .i .u32 3248222580, .i .u32 3835390401, .i .u32 4022224774, .i .u32 264347078, .i .u32 604807628, .i .u32 770255983, .i .u32 1249150122, .i .u32 1555081692, .i .u32 1996064986, .i .u32 2554220882, .i .u32 2821834349, .i .u32 2952996808, .i .u32 3210313671, .i .u32 3336571891, .i .u32 3584528711, .i .u32 113926993, .i .u32 338241895, .i .u32 666307205, .i .u32 773529912, .i .u32 1294757372, .i .u32 1396182291, .i .u32 1695183700, .i .u32 1986661051, .i .u32 2177026350, .i .u32 2456956037, .i .u32 2730485921, .i .u32 2820302411, .i .u32 3259730800, .i .u32 3345764771, .i .u32 3516065817, .i .u32 3600352804, .i .u32 4094571909, .i .u32 275423344, .i .u32 430227734, .i .u32 506948616, .i .u32 659060556, .i .u32 883997877, .i .u32 958139571, .i .u32 1322822218, .i .u32 1537002063, .i .u32 1747873779, .i .u32 1955562222, .i .u32 2024104815, .i .u32 2227730452, .i .u32 2361852424, .i .u32 2428436474, .i .u32 2756734187, .i .u32 3204031479, .i .u32 3329325298]
def kAt (i : Nat) : Int := ((kL.getD i 0 : Nat) : Int)
theorem kC_eq : kC = (List.range 64).map (fun i => AV.i .u32 (kAt i)) := by kernel_rfl
theorem kC_get {i : Nat} (hi : i < 64) : kC[i]? = some (.i .u32 (kAt i)) := by rw [kC_eq]; simp [hi]
theorem kC_len : kC.length = 64 := rfl
theorem free_kC : freeAll kC = true := rfl
theorem kC_take : kC.take 64 = kC := rfl
attribute [push_cast] free_kC kC_take
theorem l249 : PCalls Tryz.prog 249 [] (.ro false kC 64) := by
  have r0 : rep 64 [AV.i .u32 0] = [.i .u32 0, .i .u32 0, .i .u32 0, .i .u32 0, .i .u32 0, .i .u32 0, .i .u32 0, .i .u32 0, .i .u32 0, .i .u32 0, .i .u32 0, .i .u32 0, .i .u32 0, .i .u32 0, .i .u32 0, .i .u32 0, .i .u32 0, .i .u32 0, .i .u32 0, .i .u32 0, .i .u32 0, .i .u32 0, .i .u32 0, .i .u32 0, .i .u32 0, .i .u32 0, .i .u32 0, .i .u32 0, .i .u32 0, .i .u32 0, .i .u32 0, .i .u32 0, .i .u32 0, .i .u32 0, .i .u32 0, .i .u32 0, .i .u32 0, .i .u32 0, .i .u32 0, .i .u32 0, .i .u32 0, .i .u32 0, .i .u32 0, .i .u32 0, .i .u32 0, .i .u32 0, .i .u32 0, .i .u32 0, .i .u32 0, .i .u32 0, .i .u32 0, .i .u32 0, .i .u32 0, .i .u32 0, .i .u32 0, .i .u32 0, .i .u32 0, .i .u32 0, .i .u32 0, .i .u32 0, .i .u32 0, .i .u32 0, .i .u32 0, .i .u32 0] := rfl
  refine pof Tryz.func249 fun h n => ?_
  refine gon ?_
  refine AWp.freeze (j := n) (k := 0) tr tr (by decide) ?_
  refine go ?_
  exact outP
instance : Ct Tryz.prog 249 [] (.ro false kC 64) := ⟨l249⟩
/-! ### padded -/
def padZ (l : Nat) : Nat := (119 - l % 64) % 64
def padL (b : List UInt8) : List UInt8 := b ++ [128] ++ List.replicate (padZ b.length) 0 ++ beL (b.length * 8 % 18446744073709551616) 8
theorem padL_len (b : List UInt8) : (padL b).length = b.length + 1 + padZ b.length + 8 := by
  simp [padL, beL_len]
  omega
theorem padL_64 (b : List UInt8) : (padL b).length % 64 = 0 := by
  rw [padL_len]; unfold padZ; omega
theorem cellsB_1 (c : UInt8) : cellsB [c] = [.i .u8 (c.toNat : Int)] := rfl
theorem rep1 : rep 1 [AV.i .u8 0] = [.i .u8 0] := rfl
theorem rep0 : rep 0 [AV.i .u8 0] = [] := rfl
attribute [push_cast] rep1 rep0
theorem l250 (b : List UInt8) (hb : b.length ≤ 1000000) : PCalls Tryz.prog 250 [.ro false (cellsB b) b.length] (.ro false (cellsB (padL b)) (padL b).length) := by
  obtain ⟨F, eF⟩ : ∃ F, F = padL b := ⟨_, rfl⟩
  have HF : Hid _ := ⟨eF⟩
  rw [← eF]
  clear eF
  have b1 : (b.length ≤ 140737488355328) = True := by simp; omega
  have b2 : (b.length ≤ 9223372036854775807) = True := by simp; omega
  have b3 : (b.length + 1 ≤ 140737488355328) = True := by simp; omega
  have b4 : (b.length + 1 ≤ 9223372036854775807) = True := by simp; omega
  refine pof Tryz.func250 fun h n => ?_
  refine go ?_
  refine AWp.loop (fun mm t' h' n' => ∃ (k j : Nat) (A : List UInt8), mm = padZ b.length - k ∧ k ≤ padZ b.length ∧ Hid (A.length = b.length + 1 + k) ∧ Hid (A = b ++ [128] ++ List.replicate k 0) ∧ t' 0 = .ro false (cellsB b) b.length ∧ t' 3 = .sl 1 j 0 A.length ∧ h' j = some (.cells (cellsB A)) ∧ n ≤ j ∧ j < n' ∧ Keeps n h h') (padZ b.length) ?_ ?_
  · exact ⟨0, n + 3, b ++ [128], rfl, Nat.zero_le _, ⟨by simp⟩, ⟨by simp⟩, tr, by rw [List.length_append]; exact tr, by rw [cellsB_app]; exact tr, by omega, by omega, ks⟩
  · rintro mm t' h' n' - ⟨k, j, A, hmm, hk, HL, HA, t0, t3, rj, hj1, hj2, kp⟩
    have hA := HL.get
    have p0 := apt hj2
    have hz : padZ b.length ≤ 63 := by unfold padZ; omega
    have a1 : (A.length + 1 ≤ 140737488355328) = True := by simp; omega
    have a2 : (A.length + 1 ≤ 9223372036854775807) = True := by simp; omega
    have m1 : Int.tmod (A.length : Int) 64 = ((A.length % 64 : Nat) : Int) := tmodN A.length 64
    obtain ⟨m, em⟩ : ∃ m, m = A.length % 64 := ⟨_, rfl⟩
    rw [← em] at m1
    by_cases hlt : k < padZ b.length
    · have c1 : ((m : Int) != 56) = true := by
        simp only [bne, Bool.not_eq_true', beq_eq_false_iff_ne]
        unfold padZ at hlt; omega
      have e1 : (A ++ [0]).length = A.length + 1 := by simp
      have HA' : Hid (A ++ [0] = b ++ [128] ++ List.replicate (k + 1) 0) := ⟨by rw [HA.get, List.append_assoc, ← List.replicate_succ']⟩
      have HL' : Hid ((A ++ [0]).length = b.length + 1 + (k + 1)) := ⟨by rw [e1]; omega⟩
      have lt1 : padZ b.length - (k + 1) < mm := by omega
      clear em HF HA hmm hA HL
      refine go ?_
      exact ⟨padZ b.length - (k + 1), lt1, k + 1, n' + 1, A ++ [0], rfl, hlt, HL', HA', tr, tr, by rw [cellsB_app]; exact tr, by omega, by omega, ks⟩
    · have c1 : ((m : Int) != 56) = false := by
        simp only [bne, Bool.not_eq_false', beq_iff_eq]
        unfold padZ at hlt hk; omega
      obtain ⟨x, ex⟩ : ∃ x, x = b.length * 8 % 18446744073709551616 := ⟨_, rfl⟩
      have hx : x < 18446744073709551616 := by omega
      have w1 : IntKind.wrap .u64 (b.length : Int) = (b.length : Int) := by rw [wrapN, Nat.mod_eq_of_lt (by omega)]
      have w2 : IntKind.wrap .u64 ((b.length : Int) * 2 ^ min 3 (IntKind.bits .u64)) = (x : Int) := by
        rw [show (2 : Int) ^ min 3 (IntKind.bits .u64) = ((8 : Nat) : Int) from rfl, ← Int.natCast_mul, wrapN, ex]
      have HA2 : Hid (F = A ++ beL x 8) := ⟨by rw [HF.get, HA.get, ex]; unfold padL; rw [show k = padZ b.length by omega]⟩
      have hF : A.length + 8 ≤ 1000100 := by omega
      clear ex em HF HA hmm hA HL
      refine go ?_
      refine AWp.loop (fun mm t' h' n' => ∃ (k j : Nat) (A : List UInt8), mm = k ∧ k ≤ 8 ∧ Hid (A.length + k ≤ 1000100) ∧ Hid (F = A ++ beL x k) ∧ t' 3 = .sl 1 j 0 A.length ∧ t' 4 = .i .u64 (x : Int) ∧ t' 5 = .i .i64 ((k : Int) - 1) ∧ h' j = some (.cells (cellsB A)) ∧ n ≤ j ∧ j < n' ∧ Keeps n h h') 8 ?_ ?_
      · exact ⟨8, j, A, rfl, by decide, ⟨hF⟩, HA2, tr, tr, tr, tr, hj1, by omega, ks⟩
      · clear t0 t3 rj hj1 hj2 kp p0 a1 a2 m1 c1 w2 HA2 hF
        rintro mm t' h' n' - ⟨k, j, A, hmm, hk, HL, HA, t3, t4, t5, rj, hj1, hj2, kp⟩
        have hA := HL.get
        have p0 := apt hj2
        by_cases hk0 : k = 0
        · subst hk0
          have e : F = A := by rw [HA.get]; simp [beL]
          rw [e]
          have g1 : ((((0 : Nat) : Int) - 1) ≥ 0) = False := by simp
          have g2 : (0 ≤ (((0 : Nat) : Int) - 1)) = False := by simp
          clear e HA hmm
          refine gon ?_
          refine AWp.freeze (j := j) (k := 2) tr tr (by simp [cellsB]) ?_
          refine go ?_
          exact outP
        · obtain ⟨i, rfl⟩ : ∃ i, k = i + 1 := ⟨k - 1, by omega⟩
          obtain ⟨u, eu⟩ : ∃ u : Int, u = ((i + 1 : Nat) : Int) - 1 := ⟨_, rfl⟩
          have ei : u = (i : Int) := by omega
          rw [← eu, ei] at t5
          clear eu ei u
          have g1 : ((i : Int) ≥ 0) = True := by simp
          have g2 : (0 ≤ (i : Int)) = True := by simp
          have w3 : IntKind.wrap .i64 ((i : Int) - 1) = (i : Int) - 1 := IntWalk.i64_in _ (by omega)
          obtain ⟨s, es⟩ : ∃ s, s = 8 * i := ⟨_, rfl⟩
          have w4 : IntKind.wrap .i64 (8 * (i : Int)) = (s : Int) := by rw [show (8 * (i : Int)) = (s : Int) by omega]; exact IntWalk.i64_in _ (by omega)
          have s0 : (0 ≤ (s : Int)) = True := by simp
          obtain ⟨y, ey⟩ : ∃ y, y = x / 2 ^ s := ⟨_, rfl⟩
          have s1 : Int.fdiv (x : Int) (2 ^ min s (IntKind.bits .u64)) = (y : Int) := by rw [shrN x s (by omega), ey]
          obtain ⟨c, ec⟩ : ∃ c, c = UInt8.ofNat (x / 256 ^ i % 256) := ⟨_, rfl⟩
          have w5 : IntKind.wrap .u8 (y : Int) = (c.toNat : Int) := by
            rw [ec, UInt8.toNat_ofNat', IntKind.wrap_u8, ey, es, Nat.pow_mul, show (2 : Nat) ^ 8 = 256 from rfl]; omega
          have a1 : (A.length + 1 ≤ 140737488355328) = True := by simp; omega
          have a2 : (A.length + 1 ≤ 9223372036854775807) = True := by simp; omega
          have e1 : (A ++ [c]).length = A.length + 1 := by simp
          have HA' : Hid (F = (A ++ [c]) ++ beL x i) := ⟨by rw [HA.get, beL, ← ec]; simp⟩
          have lt1 : i < mm := by omega
          have HL' : Hid ((A ++ [c]).length + i ≤ 1000100) := ⟨by rw [e1]; omega⟩
          clear ec ey es HA hmm hA HL
          refine go ?_
          exact ⟨i, lt1, i, n' + 1, A ++ [c], rfl, by omega, HL', HA', tr, tr, tr, by rw [cellsB_app]; exact tr, by omega, by omega, ks⟩

end Go.Proofs.YtmkefpjpghmonaaGreat
