import Derived.Test.YtmkefpjpghmonaaGreatLd
namespace Go.Proofs.YtmkefpjpghmonaaGreat
open Go.Av
set_option exponentiation.threshold 600
set_option maxRecDepth 100000
set_option maxHeartbeats 1000000
set_option linter.unusedSimpArgs false
set_option linter.unusedVariables false

/-! ### limb.Of -/
def cellsB (bs : List UInt8) : List AV := bs.map fun b => .i .u8 (b.toNat : Int)
theorem cellsB_get {b : List UInt8} {i : Nat} (hi : i < b.length) : (cellsB b)[i]? = some (.i .u8 (b[i].toNat : Int)) := by simp [cellsB, hi]
theorem cellsB_inj {a b : List UInt8} (h : cellsB a = cellsB b) : a = b := by
  induction a generalizing b with
  | nil => cases b with
    | nil => rfl
    | cons y b => simp [cellsB] at h
  | cons x a ih => cases b with
    | nil => simp [cellsB] at h
    | cons y b =>
      simp only [cellsB, List.map_cons, List.cons.injEq, AV.i.injEq, true_and, Int.natCast_inj] at h
      rw [UInt8.toNat_inj.1 h.1, ih h.2]
theorem free_cellsB (b : List UInt8) : freeAll (cellsB b) = true := by
  induction b with
  | nil => rfl
  | cons x b ih => simp only [cellsB, List.map_cons, freeAll, AV.free, Bool.true_and]; exact ih
/-- The number of bytes, the highest first. -/
def beN (b : List UInt8) : Nat := b.foldl (fun x c => x * 256 + c.toNat) 0
theorem beN_snoc (b : List UInt8) (c : UInt8) : beN (b ++ [c]) = beN b * 256 + c.toNat := by simp [beN, List.foldl_append]
theorem beN_ge : ∀ (b : List UInt8) (x : Nat), b.foldl (fun x c => x * 256 + c.toNat) x < (x + 1) * 256 ^ b.length
  | [], x => by simp
  | c :: b, x => by
    rw [List.foldl_cons, List.length_cons, Nat.pow_succ, Nat.mul_comm (256 ^ _), ← Nat.mul_assoc]
    have h := beN_ge b (x * 256 + c.toNat)
    have hc := c.toNat_lt
    exact Nat.lt_of_lt_of_le h (Nat.mul_le_mul_right _ (by omega))
theorem beN_lt (b : List UInt8) : beN b < 256 ^ b.length := by
  have := beN_ge b 0
  rw [Nat.zero_add, Nat.one_mul] at this
  exact this
theorem dg_low {m q s : Nat} (hs : s + 8 ≤ 64) : dg (2 ^ (64 * q + s + 8) * m) q % 2 ^ (s + 8) = 0 := by
  unfold dg
  rw [show 64 * q + s + 8 = 64 * q + (s + 8) by omega, Nat.pow_add, Nat.mul_assoc, Nat.mul_div_cancel_left _ (Nat.two_pow_pos _), Nat.mod_mod_of_dvd _ (Nat.pow_dvd_pow 2 hs)]
  exact Nat.mul_mod_right _ _
theorem or_low {d y k : Nat} (hd : d % 2 ^ k = 0) (hy : y < 2 ^ k) : d ||| y = d + y := by
  have e : d = 2 ^ k * (d / 2 ^ k) := by have := Nat.div_add_mod d (2 ^ k); omega
  have := Nat.two_pow_add_eq_or_of_lt hy (d / 2 ^ k)
  rw [← e] at this
  exact this.symm
theorem shlN (x s : Nat) (hx : x < 256) (hs : s + 8 ≤ 64) : IntKind.wrap .u64 ((x : Int) * 2 ^ min s (IntKind.bits .u64)) = ((x * 2 ^ s : Nat) : Int) := by
  have e : min s (IntKind.bits .u64) = s := Nat.min_eq_left (show s ≤ 64 by omega)
  have e2 : ((x : Int) * 2 ^ s) = ((x * 2 ^ s : Nat) : Int) := by rw [Int.natCast_mul, Int.natCast_pow]; rfl
  have : x * 2 ^ s < 2 ^ 64 := by
    have h1 : x * 2 ^ s < 2 ^ 8 * 2 ^ s := Nat.mul_lt_mul_of_pos_right hx (Nat.two_pow_pos s)
    rw [← Nat.pow_add] at h1
    exact Nat.lt_of_lt_of_le h1 (Nat.pow_le_pow_right (by decide) (by omega))
  rw [e, e2, wrapN, Nat.mod_eq_of_lt (by simpa using this)]
/-- What the first i of 32 bytes come to. -/
def ofTop (b : List UInt8) (i : Nat) : Nat := beN (b.take i) * 2 ^ (8 * (32 - i))
theorem ofTop_succ {b : List UInt8} {i : Nat} (hi : i < b.length) (h32 : i < 32) : ofTop b (i + 1) = ofTop b i + b[i].toNat * 2 ^ (8 * (31 - i)) := by
  unfold ofTop
  rw [List.take_succ_eq_append_getElem hi, beN_snoc, show 8 * (32 - i) = 8 * (31 - i) + 8 by omega, show 32 - (i + 1) = 31 - i by omega, Nat.pow_add, Nat.add_mul]
  have : (2 : Nat) ^ 8 = 256 := rfl
  rw [this, Nat.mul_assoc, Nat.mul_comm 256]
theorem ofTop_lt {b : List UInt8} {i : Nat} (hi : i ≤ 32) (hl : b.length = 32) : ofTop b i < M256 := by
  unfold ofTop
  have h := beN_lt (b.take i)
  rw [List.length_take, hl, Nat.min_eq_left hi] at h
  have e : M256 = 256 ^ i * 2 ^ (8 * (32 - i)) := by
    rw [show (256 : Nat) = 2 ^ 8 from rfl, ← Nat.pow_mul, ← Nat.pow_add, show 8 * i + 8 * (32 - i) = 256 by omega]; rfl
  rw [e]
  exact Nat.mul_lt_mul_of_pos_right h (Nat.two_pow_pos _)
theorem beN_256 {b : List UInt8} (hb : b.length = 32) : beN b < M256 := by
  have := beN_lt b
  rw [hb] at this
  exact this
/-- So many bytes. -/
class Ln {α : Type} (b : List α) (n : Nat) : Prop where
  h : b.length = n
instance (b : List UInt8) [hb : Ln b 32] : Bd (beN b) M256 := ⟨beN_256 hb.h⟩
theorem len_cellsB (b : List UInt8) : (cellsB b).length = b.length := by simp [cellsB]
theorem take_cellsB (b : List UInt8) : (cellsB b).take b.length = cellsB b := List.take_of_length_le (by simp [cellsB])
attribute [push_cast] free_cellsB len_cellsB take_cellsB
def b297_6 : List Nat := [0, 1, 3, 7, 0, 16, 0, 64, 192, 496, 1023, 2047, 4095]
def w297_6 : List Nat := [12]
theorem l297 (b : List UInt8) [hb : Ln b 32] : PCalls Tryz.prog 297 [.agg (cellsB b)] (.agg (numC (beN b))) := by
  have hb := hb.h
  obtain ⟨F, eF⟩ : ∃ F, F = beN b := ⟨_, rfl⟩
  have HF : Hid _ := ⟨eF⟩
  rw [← eF]
  clear eF
  refine pof Tryz.func297 fun h n => ?_
  have ft : (cellsB b).take 32 = cellsB b := List.take_of_length_le (by rw [len_cellsB, hb]; exact Nat.le_refl _)
  repeat (first | refine go ?_ | refine drg 6 b297_6 w297_6 ?_)
  refine AWp.loop (fun mm t' h' n' => ∃ i v : Nat, mm = 32 - i ∧ i ≤ 32 ∧ v < M256 ∧ Hid (v = ofTop b i) ∧ t' 2 = .p (n + 1) 0 ∧ t' 3 = .p (n + 2) 0 ∧ t' 7 = .agg (cellsB b) ∧ t' 8 = .i .i64 (i : Int) ∧ h' (n + 1) = some (.cells (numC 0)) ∧ h' (n + 2) = some (.cells (numC v)) ∧ n' = n + 3 ∧ Keeps n h h') 32 ?_ ?_
  · exact ⟨0, 0, rfl, by decide, by decide, ⟨(Nat.zero_mul _).symm⟩, tr, tr, tr, tr, tr, tr, rfl, ks⟩
  · rintro mm t' h' _ - ⟨i, v, hmm, hi, hv, Hv, t2, t3, t7, t8, r1, r2, rfl, kp⟩
    by_cases h32 : i < 32
    · have q1 : ((i : Int) < 32) = True := by simp; omega
      have hib : i < b.length := by omega
      have q2 : (0 ≤ (i : Int) ∧ (i : Int) < 32) = True := by simp; omega
      have w1 : IntKind.wrap .i64 ((i : Int) + 1) = (i : Int) + 1 := IntWalk.i64_in _ (by omega)
      obtain ⟨c, ec⟩ : ∃ c, c = b[i].toNat := ⟨_, rfl⟩
      have hc : c < 256 := by rw [ec]; exact b[i].toNat_lt
      have q3 := cellsB_get hib
      rw [← ec] at q3
      obtain ⟨k, ek⟩ : ∃ k, k = 31 - i := ⟨_, rfl⟩
      have w2 : IntKind.wrap .i64 (31 - (i : Int)) = (k : Int) := by rw [show (31 - (i : Int)) = (k : Int) by omega]; exact IntWalk.i64_in _ (by omega)
      obtain ⟨q, eq⟩ : ∃ q, q = k / 8 := ⟨_, rfl⟩
      obtain ⟨r, er⟩ : ∃ r, r = k % 8 := ⟨_, rfl⟩
      have d1 : Int.tdiv (k : Int) 8 = (q : Int) := by rw [eq]; exact tdivN k 8
      have d2 : Int.tmod (k : Int) 8 = (r : Int) := by rw [er]; exact tmodN k 8
      obtain ⟨s, es⟩ : ∃ s, s = 8 * r := ⟨_, rfl⟩
      have w3 : IntKind.wrap .i64 (8 * (r : Int)) = (s : Int) := by rw [show (8 * (r : Int)) = (s : Int) by omega]; exact IntWalk.i64_in _ (by omega)
      have hs : s + 8 ≤ 64 := by omega
      have s0 : (0 ≤ (s : Int)) = True := by simp
      obtain ⟨y, ey⟩ : ∃ y, y = c * 2 ^ s := ⟨_, rfl⟩
      have w4 := shlN c s hc hs
      rw [← ey] at w4
      have w5 : IntKind.wrap .u64 (c : Int) = (c : Int) := by rw [wrapN, Nat.mod_eq_of_lt (by omega)]
      have hy : y < 2 ^ (s + 8) := by rw [ey, Nat.pow_add, Nat.mul_comm]; exact Nat.mul_lt_mul_of_pos_left hc (Nat.two_pow_pos s)
      have hy64 : y < 18446744073709551616 := Nat.lt_of_lt_of_le hy (Nat.pow_le_pow_right (by decide) hs)
      have ev := Hv.get
      have ev' : v = 2 ^ (64 * q + s + 8) * beN (b.take i) := by
        rw [ev, Nat.mul_comm]; unfold ofTop; congr 2; omega
      have low := dg_low (m := beN (b.take i)) (q := q) hs
      rw [← ev'] at low
      have e1 := or_low low hy
      have o1 : Av.bits .or .u64 (dg v q : Nat) (y : Int) = ((dg v q + y : Nat) : Int) := by rw [or_u64 _ _ (dg_lt v q) hy64, e1]
      have big : dg v q + y < 18446744073709551616 := by rw [← e1]; exact Nat.or_lt_two_pow (n := 64) (dg_lt v q) hy64
      have next : ofTop b (i + 1) = v + y * 2 ^ (64 * q) := by
        rw [ofTop_succ hib h32, ← ev, ← ec, ey, Nat.mul_assoc, ← Nat.pow_add]; congr 3; omega
      obtain ⟨o, eo⟩ : ∃ o, o = dg v q + y := ⟨_, rfl⟩
      rw [← eo] at o1 big
      obtain ⟨x, ex⟩ : ∃ x, x = ofTop b (i + 1) := ⟨_, rfl⟩
      have hx : x < M256 := by rw [ex]; exact ofTop_lt h32 hb
      have Hx : Hid _ := ⟨ex⟩
      rw [← ex] at next
      have wq : IntKind.wrap .i64 (q : Int) = (q : Int) := IntWalk.i64_in _ (by omega)
      have hq4 : q = 0 ∨ q = 1 ∨ q = 2 ∨ q = 3 := by omega
      have all := dg_all hv
      have g0 := dg_lt v 0
      have g1 := dg_lt v 1
      have g2 := dg_lt v 2
      have g3 := dg_lt v 3
      have lt1 : 32 - (i + 1) < mm := by omega
      have nv : numC v = [.i .u64 (dg v 0 : Nat), .i .u64 (dg v 1 : Nat), .i .u64 (dg v 2 : Nat), .i .u64 (dg v 3 : Nat)] := rfl
      rw [nv] at r2
      clear ec ek eq er es ev ev' low e1 ey ex nv hmm HF Hv
      rcases hq4 with rfl | rfl | rfl | rfl
      · have num : numC x = [.i .u64 (o : Nat), .i .u64 (dg v 1 : Nat), .i .u64 (dg v 2 : Nat), .i .u64 (dg v 3 : Nat)] := by
          rw [← dg_of big g1 g2 g3]
          congr 1
          rw [next, eo]
          simp only [Nat.reduceMul, Nat.reducePow]
          omega
        clear next eo all
        repeat (first | refine go ?_ | refine drg 6 b297_6 w297_6 ?_)
        exact ⟨32 - (i + 1), lt1, i + 1, x, rfl, h32, hx, Hx, tr, tr, tr, tr, tr, tr, rfl, ks⟩
      · have num : numC x = [.i .u64 (dg v 0 : Nat), .i .u64 (o : Nat), .i .u64 (dg v 2 : Nat), .i .u64 (dg v 3 : Nat)] := by
          rw [← dg_of g0 big g2 g3]
          congr 1
          rw [next, eo]
          simp only [Nat.reduceMul, Nat.reducePow]
          omega
        clear next eo all
        repeat (first | refine go ?_ | refine drg 6 b297_6 w297_6 ?_)
        exact ⟨32 - (i + 1), lt1, i + 1, x, rfl, h32, hx, Hx, tr, tr, tr, tr, tr, tr, rfl, ks⟩
      · have num : numC x = [.i .u64 (dg v 0 : Nat), .i .u64 (dg v 1 : Nat), .i .u64 (o : Nat), .i .u64 (dg v 3 : Nat)] := by
          rw [← dg_of g0 g1 big g3]
          congr 1
          rw [next, eo]
          simp only [Nat.reduceMul, Nat.reducePow]
          omega
        clear next eo all
        repeat (first | refine go ?_ | refine drg 6 b297_6 w297_6 ?_)
        exact ⟨32 - (i + 1), lt1, i + 1, x, rfl, h32, hx, Hx, tr, tr, tr, tr, tr, tr, rfl, ks⟩
      · have num : numC x = [.i .u64 (dg v 0 : Nat), .i .u64 (dg v 1 : Nat), .i .u64 (dg v 2 : Nat), .i .u64 (o : Nat)] := by
          rw [← dg_of g0 g1 g2 big]
          congr 1
          rw [next, eo]
          simp only [Nat.reduceMul, Nat.reducePow]
          omega
        clear next eo all
        repeat (first | refine go ?_ | refine drg 6 b297_6 w297_6 ?_)
        exact ⟨32 - (i + 1), lt1, i + 1, x, rfl, h32, hx, Hx, tr, tr, tr, tr, tr, tr, rfl, ks⟩
    · have e : F = v := by
        rw [HF.get, Hv.get]
        have : i = 32 := by omega
        subst this
        unfold ofTop
        rw [List.take_of_length_le (by omega)]
        simp
      have q1 : ((i : Int) < 32) = False := by simp; omega
      rw [e]
      clear e HF Hv hmm
      repeat (first | refine go ?_ | refine drg 6 b297_6 w297_6 ?_)
      exact outP
instance (b : List UInt8) [Ln b 32] : Ct Tryz.prog 297 [.agg (cellsB b)] (.agg (numC (beN b))) := ⟨l297 b⟩
/-! ### limb.Bytes -/
theorem dg_byte (a q s : Nat) (hs : s + 8 ≤ 64) : dg a q / 2 ^ s % 256 = a / 2 ^ (64 * q + s) % 256 := by
  unfold dg
  have e : (2 : Nat) ^ 64 = 2 ^ s * 2 ^ (64 - s) := by rw [← Nat.pow_add]; congr 1; omega
  rw [e, Nat.mod_mul_right_div_self, Nat.div_div_eq_div_mul, ← Nat.pow_add]
  exact Nat.mod_mod_of_dvd _ (Nat.pow_dvd_pow 2 (show 8 ≤ 64 - s by omega))
/-- A number's byte at a place, the highest first. -/
def byteOf (a i : Nat) : UInt8 := UInt8.ofNat (a / 2 ^ (8 * (31 - i)) % 256)
theorem byteOf_nat (a i : Nat) : (byteOf a i).toNat = a / 2 ^ (8 * (31 - i)) % 256 := by
  unfold byteOf
  rw [UInt8.toNat_ofNat']
  omega
def bytesTo (a i : Nat) : List UInt8 := (List.range 32).map fun j => if j < i then byteOf a j else 0
def bytesN (a : Nat) : List UInt8 := (List.range 32).map (byteOf a)
theorem bytesN_len (a : Nat) : (bytesN a).length = 32 := by simp [bytesN]
theorem bytesTo_set (a i : Nat) (hi : i < 32) : (cellsB (bytesTo a i)).set i (.i .u8 ((byteOf a i).toNat : Int)) = cellsB (bytesTo a (i + 1)) := by
  apply List.ext_getElem
  · simp [cellsB, bytesTo]
  · intro j h1 h2
    rw [List.getElem_set]
    simp only [cellsB, bytesTo, List.getElem_map, List.getElem_range]
    split
    · subst_vars; rw [if_pos (by omega)]
    · rename_i hne
      by_cases hj : j < i
      · rw [if_pos hj, if_pos (by omega)]
      · rw [if_neg hj, if_neg (by omega)]
theorem bytesTo_32 (a : Nat) : bytesTo a 32 = bytesN a := by
  apply List.ext_getElem
  · simp [bytesTo, bytesN]
  · intro j h1 h2
    have : j < 32 := by simpa [bytesN] using h2
    simp only [bytesTo, bytesN, List.getElem_map, List.getElem_range]
    rw [if_pos this]
instance (a : Nat) : Ln (bytesN a) 32 := ⟨bytesN_len a⟩
theorem l325 (a : Nat) [ha : Bd a M256] : PCalls Tryz.prog 325 [.agg (numC a)] (.agg (cellsB (bytesN a))) := by
  have fl : ∀ i, (cellsB (bytesTo a i)).length = 32 := fun i => by simp [cellsB, bytesTo]
  have fl2 : (cellsB (bytesN a)).length = 32 := by simp [cellsB, bytesN]
  have ft : (cellsB (bytesN a)).take 32 = cellsB (bytesN a) := List.take_of_length_le (by omega)
  have nv : numC a = [.i .u64 (dg a 0 : Nat), .i .u64 (dg a 1 : Nat), .i .u64 (dg a 2 : Nat), .i .u64 (dg a 3 : Nat)] := rfl
  have z0 : cellsB (bytesTo a 0) = List.replicate 32 (.i .u8 0) := by
    unfold bytesTo cellsB
    simp only [Nat.not_lt_zero, if_false]
    rfl
  rw [nv]
  refine pof Tryz.func325 fun h n => ?_
  refine go ?_
  refine AWp.loop (fun mm t' h' n' => ∃ i : Nat, mm = 32 - i ∧ i ≤ 32 ∧ t' 1 = .p n 0 ∧ t' 2 = .p (n + 1) 0 ∧ t' 3 = .p (n + 2) 0 ∧ t' 6 = .i .i64 (i : Int) ∧ h' n = some (.cells [.i .u64 (dg a 0 : Nat), .i .u64 (dg a 1 : Nat), .i .u64 (dg a 2 : Nat), .i .u64 (dg a 3 : Nat)]) ∧ h' (n + 1) = some (.cells (cellsB (bytesTo a 0))) ∧ h' (n + 2) = some (.cells (cellsB (bytesTo a i))) ∧ n' = n + 3 ∧ Keeps n h h') 32 ?_ ?_
  · exact ⟨0, rfl, by decide, tr, tr, tr, tr, tr, tr, tr, rfl, ks⟩
  · rintro mm t' h' _ - ⟨i, hmm, hi, t1, t2, t3, t6, r0, r1, r2, rfl, kp⟩
    by_cases h32 : i < 32
    · have q1 : ((i : Int) < 32) = True := by simp; omega
      have q2 : (0 ≤ (i : Int) ∧ (i : Int) < 32) = True := by simp; omega
      have q31 : (i ≤ 31) = True := by simp; omega
      have w1 : IntKind.wrap .i64 ((i : Int) + 1) = (i : Int) + 1 := IntWalk.i64_in _ (by omega)
      obtain ⟨k, ek⟩ : ∃ k, k = 31 - i := ⟨_, rfl⟩
      have w2 : IntKind.wrap .i64 (31 - (i : Int)) = (k : Int) := by rw [show (31 - (i : Int)) = (k : Int) by omega]; exact IntWalk.i64_in _ (by omega)
      obtain ⟨q, eq⟩ : ∃ q, q = k / 8 := ⟨_, rfl⟩
      obtain ⟨r, er⟩ : ∃ r, r = k % 8 := ⟨_, rfl⟩
      have d1 : Int.tdiv (k : Int) 8 = (q : Int) := by rw [eq]; exact tdivN k 8
      have d2 : Int.tmod (k : Int) 8 = (r : Int) := by rw [er]; exact tmodN k 8
      obtain ⟨s, es⟩ : ∃ s, s = 8 * r := ⟨_, rfl⟩
      have w3 : IntKind.wrap .i64 (8 * (r : Int)) = (s : Int) := by rw [show (8 * (r : Int)) = (s : Int) by omega]; exact IntWalk.i64_in _ (by omega)
      have hs : s + 8 ≤ 64 := by omega
      have s0 : (0 ≤ (s : Int)) = True := by simp
      obtain ⟨y, ey⟩ : ∃ y, y = dg a q / 2 ^ s := ⟨_, rfl⟩
      have w4 : Int.fdiv (dg a q : Nat) (2 ^ min s (IntKind.bits .u64)) = (y : Int) := by rw [shrN _ s (by omega), ey]
      obtain ⟨c, ec⟩ : ∃ c, c = (byteOf a i).toNat := ⟨_, rfl⟩
      have w5 : IntKind.wrap .u8 (y : Int) = (c : Int) := by
        rw [ec, byteOf_nat, show 8 * (31 - i) = 64 * q + s by omega, ← dg_byte a q s hs, ← ey, IntKind.wrap_u8]
        omega
      have set := bytesTo_set a i h32
      rw [← ec] at set
      have wq : IntKind.wrap .i64 (q : Int) = (q : Int) := IntWalk.i64_in _ (by omega)
      have hq4 : q = 0 ∨ q = 1 ∨ q = 2 ∨ q = 3 := by omega
      have lt1 : 32 - (i + 1) < mm := by omega
      clear ec ek eq er es ey nv hmm z0
      rcases hq4 with rfl | rfl | rfl | rfl
      · refine go ?_
        exact ⟨32 - (i + 1), lt1, i + 1, rfl, h32, tr, tr, tr, tr, tr, tr, tr, rfl, ks⟩
      · refine go ?_
        exact ⟨32 - (i + 1), lt1, i + 1, rfl, h32, tr, tr, tr, tr, tr, tr, tr, rfl, ks⟩
      · refine go ?_
        exact ⟨32 - (i + 1), lt1, i + 1, rfl, h32, tr, tr, tr, tr, tr, tr, tr, rfl, ks⟩
      · refine go ?_
        exact ⟨32 - (i + 1), lt1, i + 1, rfl, h32, tr, tr, tr, tr, tr, tr, tr, rfl, ks⟩
    · have e : i = 32 := by omega
      rw [e, bytesTo_32] at r2
      have q1 : ((i : Int) < 32) = False := by simp; omega
      clear e nv z0 hmm
      refine go ?_
      exact outP
instance (a : Nat) [Bd a M256] : Ct Tryz.prog 325 [.agg (numC a)] (.agg (cellsB (bytesN a))) := ⟨l325 a⟩
/-! ### limb.Mod -/
theorem bit_lo {hi lo i : Nat} (hi2 : i < 256) : (hi * M256 + lo) / 2 ^ i % 2 = lo / 2 ^ i % 2 := by
  have e : hi * M256 = 2 ^ i * (2 * (2 ^ (255 - i) * hi)) := by
    have : M256 = 2 ^ i * (2 * 2 ^ (255 - i)) := by
      rw [← Nat.pow_succ', ← Nat.pow_add, show i + (255 - i).succ = 256 by omega]; rfl
    rw [this, Nat.mul_comm hi, Nat.mul_assoc, Nat.mul_assoc]
  rw [e, Nat.mul_add_div (Nat.two_pow_pos i)]
  omega
theorem bit_hi {hi lo i : Nat} (hlo : lo < M256) (hi2 : 256 ≤ i) : (hi * M256 + lo) / 2 ^ i % 2 = hi / 2 ^ (i - 256) % 2 := by
  have e : (2 : Nat) ^ i = M256 * 2 ^ (i - 256) := by
    have : M256 = 2 ^ 256 := rfl
    rw [this, ← Nat.pow_add]; congr 1; omega
  rw [e, ← Nat.div_div_eq_div_mul]
  congr 2
  rw [Nat.mul_comm, Nat.mul_add_div (by decide), Nat.div_eq_of_lt hlo, Nat.add_zero]
theorem mod_step {T m j r : Nat} (hr : r = T / 2 ^ (j + 1) % m) : (2 * r + T / 2 ^ j % 2) % m = T / 2 ^ j % m := by
  obtain ⟨q, hq⟩ : ∃ q, q = T / 2 ^ (j + 1) := ⟨_, rfl⟩
  obtain ⟨p, hp⟩ : ∃ p, p = T / 2 ^ j := ⟨_, rfl⟩
  have e1 : q = p / 2 := by rw [hq, hp, Nat.pow_succ, Nat.div_div_eq_div_mul]
  rw [← hp, hr, ← hq]
  have e2 : p = 2 * q + p % 2 := by omega
  rw [Nat.add_mod, Nat.mul_mod, Nat.mod_mod, ← Nat.mul_mod, ← Nat.add_mod, ← e2]
theorem over_digit {r : Nat} (hr : r < M256) : dg r 3 / 9223372036854775808 = if M256 ≤ 2 * r then 1 else 0 := by
  have h := dg_all hr
  have h0 := dg_lt r 0
  have h1 := dg_lt r 1
  have h2 := dg_lt r 2
  have h3 := dg_lt r 3
  unfold M256 at *
  split <;> omega
theorem even_or {x b : Nat} (hx : x % 2 = 0) (hb : b < 2) : dg x 0 ||| b = dg x 0 + b :=
  or_low (k := 1) (by unfold dg; simp only [Nat.mul_zero, Nat.pow_zero, Nat.div_one]; omega) hb
theorem numC_low {x b : Nat} (hx : x < M256) (he : x % 2 = 0) (hb : b < 2) : numC (x + b) = [.i .u64 (dg x 0 + b : Nat), .i .u64 (dg x 1 : Nat), .i .u64 (dg x 2 : Nat), .i .u64 (dg x 3 : Nat)] := by
  have h := dg_all hx
  have h0 := dg_lt x 0
  have e0 : dg x 0 % 2 = 0 := by unfold dg; simp only [Nat.mul_zero, Nat.pow_zero, Nat.div_one]; omega
  rw [← dg_of (show dg x 0 + b < 18446744073709551616 by omega) (dg_lt x 1) (dg_lt x 2) (dg_lt x 3)]
  congr 1
  omega
def b326_12 : List Nat := [0, 1, 0, 0, 8, 28, 60, 127, 255, 511]
def w326_12 : List Nat := [9]
theorem l326 (hi lo m : Nat) [hhi : Bd hi M256] [hlo : Bd lo M256] [hm : Bd m M256] (hx0 : 0 < m) : PCalls Tryz.prog 326 [.agg (numC hi), .agg (numC lo), .agg (numC m)] (.tup [.agg (numC ((hi * M256 + lo) % m)), .i .i64 0]) := by
  have hhi := hhi.lt
  have hlo := hlo.lt
  have hm := hm.lt
  obtain ⟨T, hT⟩ : ∃ T, T = hi * M256 + lo := ⟨_, rfl⟩
  have hT2 : T < 2 ^ 512 := by
    have e : (2 : Nat) ^ 512 = M256 * M256 := by rw [show M256 = 2 ^ 256 from rfl, ← Nat.pow_add]
    have e2 : (hi + 1) * M256 ≤ M256 * M256 := Nat.mul_le_mul_right _ hhi
    rw [e, hT]
    rw [Nat.add_mul, Nat.one_mul] at e2
    omega
  have q0 := aeq_num hm (show 0 < M256 by decide)
  rw [decide_eq_false (show ¬ m = 0 by omega)] at q0
  rw [← hT]
  have HT : Hid _ := ⟨hT⟩
  obtain ⟨F, eF⟩ : ∃ F, F = T % m := ⟨_, rfl⟩
  have HF : Hid _ := ⟨eF⟩
  rw [← eF]
  clear hT eF
  refine pof Tryz.func326 fun h n => ?_
  repeat (first | refine go ?_ | refine drg 12 b326_12 w326_12 ?_)
  refine AWp.loop (fun mm t' h' n' => ∃ k r : Nat, mm = k ∧ k ≤ 512 ∧ r < m ∧ Hid (r = T / 2 ^ k % m) ∧ t' 3 = .p n 0 ∧ t' 4 = .p (n + 1) 0 ∧ t' 5 = .p (n + 2) 0 ∧ t' 6 = .p (n + 3) 0 ∧ t' 8 = .p (n + 4) 0 ∧ t' 9 = .i .i64 ((k : Int) - 1) ∧ h' n = some (.cells (numC hi)) ∧ h' (n + 1) = some (.cells (numC lo)) ∧ h' (n + 2) = some (.cells (numC m)) ∧ h' (n + 3) = some (.cells (numC 0)) ∧ h' (n + 4) = some (.cells (numC r)) ∧ n + 5 ≤ n' ∧ Keeps n h h') 512 ?_ ?_
  · exact ⟨512, 0, rfl, Nat.le_refl _, hx0, ⟨by rw [Nat.div_eq_of_lt hT2, Nat.zero_mod]⟩, tr, tr, tr, tr, tr, tr, tr, tr, tr, tr, tr, by omega, ks⟩
  · rintro mm t' h' n' - ⟨k, r, hmm, hk, rm, Hr, t3, t4, t5, t6, t8, t9, r0, r1, r2, r3, r4, hn, kp⟩
    by_cases hk0 : k = 0
    · subst hk0
      have e1 : F = r := by rw [HF.get, Hr.get]; simp only [Nat.pow_zero, Nat.div_one]
      rw [e1]
      have g1 : ((((0 : Nat) : Int) - 1) ≥ 0) = False := by simp
      have g2 : (0 ≤ (((0 : Nat) : Int) - 1)) = False := by simp
      clear e1 HF Hr HT hT2
      repeat (first | refine go ?_ | refine drg 12 b326_12 w326_12 ?_)
      exact outP
    · obtain ⟨j, rfl⟩ : ∃ j, k = j + 1 := ⟨k - 1, by omega⟩
      have rM : r < M256 := Nat.lt_trans rm hm
      haveI : Bd r M256 := ⟨rM⟩
      have step := mod_step Hr.get
      have hT := HT.get
      obtain ⟨b, eb⟩ : ∃ b, b = T / 2 ^ j % 2 := ⟨_, rfl⟩
      have hb : b < 2 := by omega
      rw [← eb] at step
      obtain ⟨x, ex⟩ : ∃ x : Int, x = ((j + 1 : Nat) : Int) - 1 := ⟨_, rfl⟩
      have ej : x = (j : Int) := by omega
      rw [← ex, ej] at t9
      clear ex ej x
      have g1 : ((j : Int) ≥ 0) = True := by simp
      have g2 : (0 ≤ (j : Int)) = True := by simp
      have w1 : IntKind.wrap .i64 ((j : Int) - 1) = (j : Int) - 1 := IntWalk.i64_in _ (by omega)
      obtain ⟨i, ei⟩ : ∃ i, i = j % 256 := ⟨_, rfl⟩
      have hi256 : i < 256 := by omega
      haveI : Bd i 256 := ⟨hi256⟩
      have d2 : Int.tmod (j : Int) 256 = (i : Int) := by rw [ei]; exact tmodN j 256
      obtain ⟨y, ey⟩ : ∃ y, y = (r + r) % M256 := ⟨_, rfl⟩
      have hy : y < M256 := by rw [ey]; exact Nat.mod_lt _ (by decide)
      have hy2 : y % 2 = 0 := by rw [ey]; unfold M256; omega
      obtain ⟨cy, ecy⟩ : ∃ cy, cy = (r + r) / M256 := ⟨_, rfl⟩
      have A := l318 r r
      rw [← ey, ← ecy] at A
      obtain ⟨ov, eov⟩ : ∃ ov, ov = dg r 3 / 9223372036854775808 := ⟨_, rfl⟩
      have s63 : Int.fdiv (dg r 3 : Nat) (2 ^ min 63 (IntKind.bits .u64)) = (ov : Int) := by rw [eov]; exact fdivN (dg r 3) 9223372036854775808
      have s63' : Int.fdiv (dg r 3 : Nat) 9223372036854775808 = (ov : Int) := by rw [eov]; exact fdivN (dg r 3) 9223372036854775808
      have hov := over_digit rM
      rw [← eov] at hov
      have wb : IntKind.wrap .u64 (b : Int) = (b : Int) := by rw [wrapN, Nat.mod_eq_of_lt (by omega)]
      obtain ⟨o, eo⟩ : ∃ o, o = dg y 0 + b := ⟨_, rfl⟩
      have o1 : Av.bits .or .u64 (dg y 0 : Nat) (b : Int) = (o : Int) := by rw [or_u64 _ _ (dg_lt y 0) (by omega), even_or hy2 hb, eo]
      obtain ⟨z, ez⟩ : ∃ z, z = y + b := ⟨_, rfl⟩
      have num := numC_low hy hy2 hb
      rw [← ez, ← eo] at num
      have hz : z < M256 := by rw [ez]; unfold M256 at *; omega
      haveI : Bd z M256 := ⟨hz⟩
      have lnum : AV.agg [.i .u64 (o : Int), .i .u64 (dg y 1 : Nat), .i .u64 (dg y 2 : Nat), .i .u64 (dg y 3 : Nat)] = .agg (numC z) := by rw [num]
      have sety : (numC y).set 0 (.i .u64 (o : Int)) = numC z := by rw [num]; rfl
      have B := l273 z m
      obtain ⟨v, ev⟩ : ∃ v, v = cmpN z m := ⟨_, rfl⟩
      rw [← ev] at B
      obtain ⟨d, ed⟩ : ∃ d, d = (z + M256 - m) % M256 := ⟨_, rfl⟩
      obtain ⟨bo, ebo⟩ : ∃ bo, bo = (if z < m then 1 else 0 : Nat) := ⟨_, rfl⟩
      have C := l303 z m
      rw [← ed, ← ebo] at C
      have p0 := apt (j := n) (n := n') (by omega)
      have p1 := apt (j := n + 1) (n := n') (by omega)
      have p2 := apt (j := n + 2) (n := n') (by omega)
      have p3 := apt (j := n + 3) (n := n') (by omega)
      have p4 := apt (j := n + 4) (n := n') (by omega)
      have tot : 2 * r + b = (if M256 ≤ 2 * r then M256 else 0) + z := by
        rw [ez, ey]; unfold M256 at *; split <;> omega
      have two : ∀ t', t' = 2 * r + b → (t' < m → T / 2 ^ j % m = t') ∧ (m ≤ t' → T / 2 ^ j % m = t' - m) := fun t' et => by
        rw [← step, ← et]
        exact ⟨fun hl => Nat.mod_eq_of_lt hl, fun hg => by rw [Nat.mod_eq_sub_mod hg, Nat.mod_eq_of_lt (by omega)]⟩
      have three := two _ rfl
      have ltm : j < mm := by omega
      have le1 : j ≤ 512 := by omega
      clear two step hmm HF Hr ecy eov eo num ebo HT hT2
      by_cases hj : 256 ≤ j
      · have j1 : ((j : Int) ≥ 256) = True := by simp; omega
        have j2 : (256 ≤ (j : Int)) = True := by simp; omega
        have D := l324 hi i
        rw [show hi / 2 ^ i % 2 = b by rw [eb, hT]; rw [bit_hi hlo hj]; congr 3; omega] at D
        by_cases ho : M256 ≤ 2 * r
        · rw [if_pos ho] at hov tot
          have f1 : ((ov : Int) == 1) = true := by rw [hov]; rfl
          have fin : d = T / 2 ^ j % m := by
            rw [three.2 (by unfold M256 at *; omega), ed]; unfold M256 at *; omega
          have dm : d < m := by rw [fin]; exact Nat.mod_lt _ hx0
          have Fin : Hid _ := ⟨fin⟩
          clear fin ev tot three hT ez ey ei ed eb hov
          repeat (first | refine go ?_ | refine drg 12 b326_12 w326_12 ?_)
          exact ⟨j, ltm, j, d, rfl, le1, dm, Fin, tr, tr, tr, tr, tr, tr, tr, tr, tr, tr, tr, by omega, ks⟩
        · rw [if_neg ho] at hov tot
          have f1 : ((ov : Int) == 1) = false := by rw [hov]; rfl
          by_cases hzm : z < m
          · have fin : z = T / 2 ^ j % m := by rw [three.1 (by omega)]; omega
            have k0 : v = -1 := by rw [ev]; unfold cmpN; rw [if_pos hzm]
            have k1 : (0 ≤ v) = False := by rw [k0]; simp
            have k2 : (v ≥ 0) = False := by rw [k0]; simp
            clear k0
            have dm : z < m := by rw [fin]; exact Nat.mod_lt _ hx0
            have Fin : Hid _ := ⟨fin⟩
            clear fin ev tot three hT ez ey ei ed eb hov
            repeat (first | refine go ?_ | refine drg 12 b326_12 w326_12 ?_)
            exact ⟨j, ltm, j, z, rfl, le1, dm, Fin, tr, tr, tr, tr, tr, tr, tr, tr, tr, tr, tr, by omega, ks⟩
          · have fin : d = T / 2 ^ j % m := by
              rw [three.2 (by omega), ed]; unfold M256 at *; omega
            have k1 : (0 ≤ v) = True := by rw [ev]; unfold cmpN; rw [if_neg hzm]; split <;> simp
            have k2 : (v ≥ 0) = True := k1
            have dm : d < m := by rw [fin]; exact Nat.mod_lt _ hx0
            have Fin : Hid _ := ⟨fin⟩
            clear fin ev tot three hT ez ey ei ed eb hov
            repeat (first | refine go ?_ | refine drg 12 b326_12 w326_12 ?_)
            exact ⟨j, ltm, j, d, rfl, le1, dm, Fin, tr, tr, tr, tr, tr, tr, tr, tr, tr, tr, tr, by omega, ks⟩
      · have j1 : ((j : Int) ≥ 256) = False := by simp; omega
        have j2 : (256 ≤ (j : Int)) = False := by simp; omega
        have D := l324 lo i
        rw [show lo / 2 ^ i % 2 = b by rw [eb, hT]; rw [bit_lo (by omega)]; congr 3; omega] at D
        by_cases ho : M256 ≤ 2 * r
        · rw [if_pos ho] at hov tot
          have f1 : ((ov : Int) == 1) = true := by rw [hov]; rfl
          have fin : d = T / 2 ^ j % m := by
            rw [three.2 (by unfold M256 at *; omega), ed]; unfold M256 at *; omega
          have dm : d < m := by rw [fin]; exact Nat.mod_lt _ hx0
          have Fin : Hid _ := ⟨fin⟩
          clear fin ev tot three hT ez ey ei ed eb hov
          repeat (first | refine go ?_ | refine drg 12 b326_12 w326_12 ?_)
          exact ⟨j, ltm, j, d, rfl, le1, dm, Fin, tr, tr, tr, tr, tr, tr, tr, tr, tr, tr, tr, by omega, ks⟩
        · rw [if_neg ho] at hov tot
          have f1 : ((ov : Int) == 1) = false := by rw [hov]; rfl
          by_cases hzm : z < m
          · have fin : z = T / 2 ^ j % m := by rw [three.1 (by omega)]; omega
            have k0 : v = -1 := by rw [ev]; unfold cmpN; rw [if_pos hzm]
            have k1 : (0 ≤ v) = False := by rw [k0]; simp
            have k2 : (v ≥ 0) = False := by rw [k0]; simp
            clear k0
            have dm : z < m := by rw [fin]; exact Nat.mod_lt _ hx0
            have Fin : Hid _ := ⟨fin⟩
            clear fin ev tot three hT ez ey ei ed eb hov
            repeat (first | refine go ?_ | refine drg 12 b326_12 w326_12 ?_)
            exact ⟨j, ltm, j, z, rfl, le1, dm, Fin, tr, tr, tr, tr, tr, tr, tr, tr, tr, tr, tr, by omega, ks⟩
          · have fin : d = T / 2 ^ j % m := by
              rw [three.2 (by omega), ed]; unfold M256 at *; omega
            have k1 : (0 ≤ v) = True := by rw [ev]; unfold cmpN; rw [if_neg hzm]; split <;> simp
            have k2 : (v ≥ 0) = True := k1
            have dm : d < m := by rw [fin]; exact Nat.mod_lt _ hx0
            have Fin : Hid _ := ⟨fin⟩
            clear fin ev tot three hT ez ey ei ed eb hov
            repeat (first | refine go ?_ | refine drg 12 b326_12 w326_12 ?_)
            exact ⟨j, ltm, j, d, rfl, le1, dm, Fin, tr, tr, tr, tr, tr, tr, tr, tr, tr, tr, tr, by omega, ks⟩
/-! ### field.Read -/
def b295_5 : List Nat := [0, 0, 2, 7, 15, 31]
def w295_5 : List Nat := []
theorem l295 (w : Int) (b : List UInt8) [Wh w] [hb : Ln b 32] : PCalls Tryz.prog 295 [.i .i64 w, .agg (cellsB b)] (.tup [.agg (numC (if beN b < mOf w then beN b else 0)), .i .i64 (if beN b < mOf w then 0 else 2)]) := by
  have hm := m_lt w
  obtain ⟨x, ex⟩ : ∃ x, x = beN b := ⟨_, rfl⟩
  have hx : x < M256 := by rw [ex]; exact beN_256 hb.h
  haveI : Bd x M256 := ⟨hx⟩
  have B := l297 b
  rw [← ex] at B ⊢
  have D := l273 x (mOf w)
  obtain ⟨v, ev⟩ : ∃ v, v = cmpN x (mOf w) := ⟨_, rfl⟩
  rw [← ev] at D
  have hbl := hb.h
  have ft : (cellsB b).take 32 = cellsB b := List.take_of_length_le (by rw [len_cellsB, hbl]; exact Nat.le_refl _)
  clear ex
  refine pof Tryz.func295 fun h n => ?_
  by_cases hz : x < mOf w
  · have k0 : v = -1 := by rw [ev]; unfold cmpN; rw [if_pos hz]
    have k1 : (0 ≤ v) = False := by rw [k0]; simp
    have k2 : (v ≥ 0) = False := by rw [k0]; simp
    rw [if_pos hz, if_pos hz]
    clear ev k0 hm
    repeat (first | refine go ?_ | refine drg 5 b295_5 w295_5 ?_)
    exact outP
  · have k1 : (0 ≤ v) = True := by rw [ev]; unfold cmpN; rw [if_neg hz]; split <;> simp
    have k2 : (v ≥ 0) = True := k1
    rw [if_neg hz, if_neg hz]
    clear ev hm
    repeat (first | refine go ?_ | refine drg 5 b295_5 w295_5 ?_)
    exact outP
instance (w : Int) (b : List UInt8) [Wh w] [Ln b 32] : Ct Tryz.prog 295 [.i .i64 w, .agg (cellsB b)] (.tup [.agg (numC (if beN b < mOf w then beN b else 0)), .i .i64 (if beN b < mOf w then 0 else 2)]) := ⟨l295 w b⟩

end Go.Proofs.YtmkefpjpghmonaaGreat
