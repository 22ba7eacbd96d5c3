import Derived.Test.YtmkefpjpghmonaaGreatLg
namespace Go.Proofs.YtmkefpjpghmonaaGreat
open Go.Av
set_option maxRecDepth 100000
set_option maxHeartbeats 1000000
set_option synthInstance.maxHeartbeats 400000
set_option synthInstance.maxSize 4000
set_option linter.unusedSimpArgs false
set_option linter.unusedVariables false

/-! ### sums of points -/
def noPt : Pn × Int := (⟨false, 0, 0⟩, 3)
noncomputable def addPt (p q : Pn) : Pn × Int := if (chk p && chk q) = true then (pointN (plusN (spreadN p) (spreadN q)), 0) else noPt
noncomputable def timesPt (e : Nat) (p : Pn) : Pn × Int := if chk p = true then (pointN (timesN (spreadN p) e), 0) else noPt
noncomputable def basePt (e : Nat) : Pn := pointN (timesN (spreadN ⟨false, GX, GY⟩) e)
noncomputable def twoPt (e : Nat) (p : Pn) (f : Nat) (q : Pn) : Pn × Int := if (chk p && chk q) = true then (pointN (plusN (timesN (spreadN p) e) (timesN (spreadN q) f)), 0) else noPt
instance : POk noPt.1 := ⟨⟨zero_lt, zero_lt⟩⟩
instance (p q : Pn) : POk (addPt p q).1 := by unfold addPt; split <;> infer_instance
instance (e : Nat) (p : Pn) : POk (timesPt e p).1 := by unfold timesPt; split <;> infer_instance
instance (e : Nat) : POk (basePt e) := by unfold basePt; infer_instance
instance (e f : Nat) (p q : Pn) : POk (twoPt e p f q).1 := by unfold twoPt; split <;> infer_instance
theorem chkE_t {p : Pn} (h : chk p = true) : chkE p = 0 := if_pos h
theorem chkE_f {p : Pn} (h : chk p = false) : chkE p = 3 := if_neg (by rw [h]; decide)
def b203_3 : List Nat := [0, 1, 0, 7, 15, 31, 63, 127]
def w203_3 : List Nat := [6]
theorem l203 (pi : Bool) (px py : Nat) (qi : Bool) (qx qy : Nat) [Bd px M256] [Bd py M256] [Bd qx M256] [Bd qy M256] : PCalls Tryz.prog 203 [.agg (.b pi :: (numC px ++ numC py)), .agg (.b qi :: (numC qx ++ numC qy))] (.tup [.agg (ptC (addPt ⟨pi, px, py⟩ ⟨qi, qx, qy⟩).1), .i .i64 (addPt ⟨pi, px, py⟩ ⟨qi, qx, qy⟩).2]) := by
  unfold addPt
  cases cp : chk ⟨pi, px, py⟩ with
  | false =>
    have ep := chkE_f cp
    rw [if_neg (by simp)]
    clear cp
    refine pof Tryz.func203 fun h n => ?_
    repeat (first | refine go ?_ | refine drg 3 b203_3 w203_3 ?_)
    exact outP
  | true =>
    have ep := chkE_t cp
    cases cq : chk ⟨qi, qx, qy⟩ with
    | false =>
      have eq := chkE_f cq
      rw [if_neg (by simp)]
      clear cq
      refine pof Tryz.func203 fun h n => ?_
      repeat (first | refine go ?_ | refine drg 3 b203_3 w203_3 ?_)
      exact outP
    | true =>
      have eq := chkE_t cq
      rw [if_pos (show (true && true) = true from rfl)]
      refine pof Tryz.func203 fun h n => ?_
      repeat (first | refine go ?_ | refine drg 3 b203_3 w203_3 ?_)
      exact outP
instance (pi : Bool) (px py : Nat) (qi : Bool) (qx qy : Nat) [Bd px M256] [Bd py M256] [Bd qx M256] [Bd qy M256] : Ct Tryz.prog 203 [.agg (.b pi :: (numC px ++ numC py)), .agg (.b qi :: (numC qx ++ numC qy))] (.tup [.agg (ptC (addPt ⟨pi, px, py⟩ ⟨qi, qx, qy⟩).1), .i .i64 (addPt ⟨pi, px, py⟩ ⟨qi, qx, qy⟩).2]) := ⟨l203 pi px py qi qx qy⟩
def b306_4 : List Nat := [0, 1, 0, 7, 15, 31, 63]
def w306_4 : List Nat := [5]
theorem l306 (e : Nat) (pi : Bool) (px py : Nat) [Bd e M256] [Bd px M256] [Bd py M256] : PCalls Tryz.prog 306 [.agg (numC e), .agg (.b pi :: (numC px ++ numC py))] (.tup [.agg (ptC (timesPt e ⟨pi, px, py⟩).1), .i .i64 (timesPt e ⟨pi, px, py⟩).2]) := by
  unfold timesPt
  cases cp : chk ⟨pi, px, py⟩ with
  | false =>
    have ep := chkE_f cp
    rw [if_neg (by simp)]
    clear cp
    refine pof Tryz.func306 fun h n => ?_
    repeat (first | refine go ?_ | refine drg 4 b306_4 w306_4 ?_)
    exact outP
  | true =>
    have ep := chkE_t cp
    rw [if_pos (show (true) = true from rfl)]
    refine pof Tryz.func306 fun h n => ?_
    repeat (first | refine go ?_ | refine drg 4 b306_4 w306_4 ?_)
    exact outP
instance (e : Nat) (pi : Bool) (px py : Nat) [Bd e M256] [Bd px M256] [Bd py M256] : Ct Tryz.prog 306 [.agg (numC e), .agg (.b pi :: (numC px ++ numC py))] (.tup [.agg (ptC (timesPt e ⟨pi, px, py⟩).1), .i .i64 (timesPt e ⟨pi, px, py⟩).2]) := ⟨l306 e pi px py⟩
def b276_3 : List Nat := [0, 1, 0, 7, 0, 31, 0, 127, 255, 511, 1023, 2047]
def w276_3 : List Nat := [10]
theorem l276 (e : Nat) (pi : Bool) (px py : Nat) (f : Nat) (qi : Bool) (qx qy : Nat) [Bd e M256] [Bd f M256] [Bd px M256] [Bd py M256] [Bd qx M256] [Bd qy M256] : PCalls Tryz.prog 276 [.agg (numC e), .agg (.b pi :: (numC px ++ numC py)), .agg (numC f), .agg (.b qi :: (numC qx ++ numC qy))] (.tup [.agg (ptC (twoPt e ⟨pi, px, py⟩ f ⟨qi, qx, qy⟩).1), .i .i64 (twoPt e ⟨pi, px, py⟩ f ⟨qi, qx, qy⟩).2]) := by
  unfold twoPt
  cases cp : chk ⟨pi, px, py⟩ with
  | false =>
    have ep := chkE_f cp
    rw [if_neg (by simp)]
    clear cp
    refine pof Tryz.func276 fun h n => ?_
    repeat (first | refine go ?_ | refine drg 3 b276_3 w276_3 ?_)
    exact outP
  | true =>
    have ep := chkE_t cp
    cases cq : chk ⟨qi, qx, qy⟩ with
    | false =>
      have eq := chkE_f cq
      rw [if_neg (by simp)]
      clear cq
      refine pof Tryz.func276 fun h n => ?_
      repeat (first | refine go ?_ | refine drg 3 b276_3 w276_3 ?_)
      exact outP
    | true =>
      have eq := chkE_t cq
      rw [if_pos (show (true && true) = true from rfl)]
      refine pof Tryz.func276 fun h n => ?_
      repeat (first | refine go ?_ | refine drg 3 b276_3 w276_3 ?_)
      exact outP
instance (e : Nat) (pi : Bool) (px py : Nat) (f : Nat) (qi : Bool) (qx qy : Nat) [Bd e M256] [Bd f M256] [Bd px M256] [Bd py M256] [Bd qx M256] [Bd qy M256] : Ct Tryz.prog 276 [.agg (numC e), .agg (.b pi :: (numC px ++ numC py)), .agg (numC f), .agg (.b qi :: (numC qx ++ numC qy))] (.tup [.agg (ptC (twoPt e ⟨pi, px, py⟩ f ⟨qi, qx, qy⟩).1), .i .i64 (twoPt e ⟨pi, px, py⟩ f ⟨qi, qx, qy⟩).2]) := ⟨l276 e pi px py f qi qx qy⟩
def b274_1 : List Nat := [0, 1, 0, 7, 15, 31]
def w274_1 : List Nat := [5]
theorem l274 (e : Nat) [Bd e M256] : PCalls Tryz.prog 274 [.agg (numC e)] (.agg (ptC (basePt e))) := by
  refine pof Tryz.func274 fun h n => ?_
  repeat (first | refine go ?_ | refine drg 1 b274_1 w274_1 ?_)
  exact outP
instance (e : Nat) [Bd e M256] : Ct Tryz.prog 274 [.agg (numC e)] (.agg (ptC (basePt e))) := ⟨l274 e⟩
theorem l275 (e : Nat) (pi : Bool) (px py : Nat) [Bd e M256] [Bd px M256] [Bd py M256] : PCalls Tryz.prog 275 [.agg (numC e), .agg (.b pi :: (numC px ++ numC py))] (.agg (ptC (timesPt e ⟨pi, px, py⟩).1)) := by
  refine pof Tryz.func275 fun h n => ?_
  refine go ?_
  exact outP
instance (e : Nat) (pi : Bool) (px py : Nat) [Bd e M256] [Bd px M256] [Bd py M256] : Ct Tryz.prog 275 [.agg (numC e), .agg (.b pi :: (numC px ++ numC py))] (.agg (ptC (timesPt e ⟨pi, px, py⟩).1)) := ⟨l275 e pi px py⟩
/-! ### Bytes -/
def ptBytes (p : Pn) : List UInt8 := if p.inf then [0] else UInt8.ofNat (2 + p.y % 2) :: bytesN p.x
theorem ptB_inf (x y : Nat) : ptBytes ⟨true, x, y⟩ = [0] := rfl
theorem ptB_fin (x y : Nat) : ptBytes ⟨false, x, y⟩ = UInt8.ofNat (2 + y % 2) :: bytesN x := rfl
theorem ptB_len (p : Pn) : (ptBytes p).length = if p.inf then 1 else 33 := by
  unfold ptBytes
  split
  · rfl
  · rw [List.length_cons, bytesN_len]
theorem cellsB_cons (b : UInt8) (l : List UInt8) : cellsB (b :: l) = .i .u8 (b.toNat : Int) :: cellsB l := rfl
theorem cellsB_nil : cellsB [] = [] := rfl
theorem cellsB_app (a b : List UInt8) : cellsB (a ++ b) = cellsB a ++ cellsB b := by simp [cellsB]
/-- 32 bytes laid over 32. -/
theorem splice_b32 (b : List UInt8) (h : b.length = 32) : splice [.i .u8 0, .i .u8 0, .i .u8 0, .i .u8 0, .i .u8 0, .i .u8 0, .i .u8 0, .i .u8 0, .i .u8 0, .i .u8 0, .i .u8 0, .i .u8 0, .i .u8 0, .i .u8 0, .i .u8 0, .i .u8 0, .i .u8 0, .i .u8 0, .i .u8 0, .i .u8 0, .i .u8 0, .i .u8 0, .i .u8 0, .i .u8 0, .i .u8 0, .i .u8 0, .i .u8 0, .i .u8 0, .i .u8 0, .i .u8 0, .i .u8 0, .i .u8 0] 0 (cellsB b) = cellsB b := by
  have hl : (cellsB b).length = 32 := by rw [len_cellsB, h]
  unfold splice
  split
  · rename_i y hy; rw [hy] at hl; simp at hl
  · rw [hl]; simp
attribute [push_cast] splice_b32 bytesN_len
def b307_7 : List Nat := [0, 1, 3, 7, 15, 31, 63, 0, 255, 511, 1023]
def w307_7 : List Nat := [8]
theorem l307e (pi : Bool) (px py : Nat) [Bd px M256] [Bd py M256] (hc : chk ⟨pi, px, py⟩ = false) : PCalls Tryz.prog 307 [.agg (.b pi :: (numC px ++ numC py))] (.tup [.ro true [] 0, .i .i64 3]) := by
  have e := chkE_f hc
  clear hc
  refine pof Tryz.func307 fun h n => ?_
  repeat (first | refine go ?_ | refine drg 7 b307_7 w307_7 ?_)
  exact outP
theorem l307f (pi : Bool) (px py : Nat) [Bd px M256] [Bd py M256] (hc : chk ⟨pi, px, py⟩ = true) : FCalls Tryz.prog 307 [.agg (.b pi :: (numC px ++ numC py))] (fun m => .tup [.sl 1 m 0 (ptBytes ⟨pi, px, py⟩).length, .i .i64 0]) (cellsB (ptBytes ⟨pi, px, py⟩)) := by
  have e := chkE_t hc
  clear hc
  cases pi with
  | true =>
    rw [ptB_inf]
    refine fof Tryz.func307 fun h n => ?_
    repeat (first | refine go ?_ | refine drg 7 b307_7 w307_7 ?_)
    exact outF (n + 1)
  | false =>
    obtain ⟨z, ez⟩ : ∃ z, z = py % 2 := ⟨_, rfl⟩
    have b1 : Av.bits .and .u64 (dg py 0 : Nat) 1 = (z : Int) := by rw [and1_u64 _ (dg_lt py 0), dg0_odd, ez]
    have hz : z < 2 := by omega
    obtain ⟨y, ey⟩ : ∃ y, y = 2 + z := ⟨_, rfl⟩
    have w1 : IntKind.wrap .u64 (2 + (z : Int)) = (y : Int) := by rw [show (2 + (z : Int)) = (y : Int) by omega, wrapN, Nat.mod_eq_of_lt (by omega)]
    have w2 : IntKind.wrap .u8 (y : Int) = ((UInt8.ofNat (2 + z)).toNat : Int) := by rw [UInt8.toNat_ofNat', IntKind.wrap_u8]; omega
    obtain ⟨b, eb⟩ : ∃ b, b = UInt8.ofNat (2 + z) := ⟨_, rfl⟩
    rw [← eb] at w2
    rw [ptB_fin, ← ez, ← eb]
    clear ez eb hz ey
    have hl := bytesN_len px
    have lc : (b :: bytesN px).length = 33 := by rw [List.length_cons, hl]
    have ft : (cellsB (bytesN px)).take 32 = cellsB (bytesN px) := List.take_of_length_le (by rw [len_cellsB, hl]; exact Nat.le_refl _)
    have c0 := cellsB_cons b (bytesN px)
    refine fof Tryz.func307 fun h n => ?_
    repeat (first | refine go ?_ | refine drg 7 b307_7 w307_7 ?_)
    exact outF (n + 3) (hR := by simp [resOne, AV.ren, renAll, hl])

end Go.Proofs.YtmkefpjpghmonaaGreat
