import Derived.Test.YtmkefpjpghmonaaGreatLk
namespace Go.Proofs.YtmkefpjpghmonaaGreat
open Go.Av
set_option maxRecDepth 100000
set_option maxHeartbeats 1000000
set_option synthInstance.maxHeartbeats 400000
set_option synthInstance.maxSize 4000
set_option linter.unusedSimpArgs false
set_option linter.unusedVariables false

/-! ### slices.Clone -/
theorem freeAll_app : ∀ (a b : List AV), freeAll (a ++ b) = (freeAll a && freeAll b)
  | [], b => rfl
  | x :: a, b => by simp only [List.cons_append, freeAll, freeAll_app a b, Bool.and_assoc]
theorem flatAll_app : ∀ (a b : List AV), flatAll (a ++ b) = (flatAll a && flatAll b)
  | [], b => rfl
  | x :: a, b => by simp only [List.cons_append, flatAll, flatAll_app a b, Bool.and_assoc]
theorem frzs_free' (g : Heap) (k : Nat) (cs : List AV) (hc : freeAll cs = true) : cs.map (frz g k) = cs := frzs_free g k hc
theorem frz_free' (g : Heap) (k : Nat) (x : AV) (hx : x.free = true) : frz g k x = x := frz_free g k x hx
attribute [push_cast] freeAll_app flatAll_app frzs_free'
theorem rep_0 (zs : List AV) : rep 0 zs = [] := rfl
theorem flatAll_cells (b : List UInt8) : flatAll (cellsB b) = true := by
  induction b with
  | nil => rfl
  | cons x b ih => simp only [cellsB, List.map_cons, flatAll, AV.flat, Bool.true_and]; exact ih
def intsC (l : List Int) : List AV := l.map (.i .i64)
theorem free_ints (l : List Int) : freeAll (intsC l) = true := by
  induction l with
  | nil => rfl
  | cons x b ih => simp only [intsC, List.map_cons, freeAll, AV.free, Bool.true_and]; exact ih
theorem flatAll_ints (l : List Int) : flatAll (intsC l) = true := by
  induction l with
  | nil => rfl
  | cons x b ih => simp only [intsC, List.map_cons, flatAll, AV.flat, Bool.true_and]; exact ih
theorem len_ints (l : List Int) : (intsC l).length = l.length := by simp [intsC]
theorem take_ints (l : List Int) : (intsC l).take l.length = intsC l := List.take_of_length_le (by simp [intsC])
theorem ints_get {l : List Int} {i : Nat} (hi : i < l.length) : (intsC l)[i]? = some (.i .i64 l[i]) := by simp [intsC, hi]
theorem ints_nil : intsC [] = [] := rfl
theorem ints_app (a b : List Int) : intsC (a ++ b) = intsC a ++ intsC b := by simp [intsC]
attribute [push_cast] rep_0 flatAll_cells free_ints flatAll_ints len_ints take_ints
theorem l137n : PCalls Tryz.prog 137 [.ro true [] 0] (.ro true [] 0) := by
  refine pof Tryz.func137 fun h n => ?_
  refine go ?_
  exact outP
theorem l137 (cs : List AV) (len : Nat) (hl : cs.length = len) (hf : freeAll cs = true) (hb : len ≤ 1000000) : FCalls Tryz.prog 137 [.ro false cs len] (fun m => .sl 1 m 0 len) cs := by
  have q1 : (len * 8 ≤ 140737488355328) = True := eq_true (by omega)
  have q1' : (len ≤ 140737488355328) = True := eq_true (by omega)
  have q2 : (len ≤ 9223372036854775807) = True := eq_true (by omega)
  have tk : List.take (len) cs = cs := List.take_of_length_le (by omega)
  have z0 : 0 * 1 = 0 := by decide
  clear hb
  refine fof Tryz.func137 (fun h n => ?_) hf
  refine go ?_
  exact outF (n + 1)
theorem l137p (cs : List AV) (len : Nat) (hl : cs.length = len) (hf : freeAll cs = true) (hb : len ≤ 1000000) : PCalls Tryz.prog 137 [.ro false cs len] (.ro false cs len) := by
  have q1 : (len * 8 ≤ 140737488355328) = True := eq_true (by omega)
  have q1' : (len ≤ 140737488355328) = True := eq_true (by omega)
  have q2 : (len ≤ 9223372036854775807) = True := eq_true (by omega)
  have tk : List.take (len) cs = cs := List.take_of_length_le (by omega)
  have z0 : 0 * 1 = 0 := by decide
  refine pof Tryz.func137 fun h n => ?_
  refine gon ?_
  refine AWp.freeze (j := n + 1) (k := 2) tr tr (by rw [hl]; omega) ?_
  refine go ?_
  exact outP
theorem l137z (u : Bool) (cs : List AV) (len : Nat) (hu : u = true → cs = [] ∧ len = 0) (hl : cs.length = len) (hf : freeAll cs = true) (hb : len ≤ 1000000) : PCalls Tryz.prog 137 [.ro u cs len] (.ro u cs len) := by
  cases u with
  | false => exact l137p cs len hl hf hb
  | true => obtain ⟨rfl, rfl⟩ := hu rfl; exact l137n
theorem l142n : PCalls Tryz.prog 142 [.ro true [] 0] (.ro true [] 0) := by
  refine pof Tryz.func142 fun h n => ?_
  refine go ?_
  exact outP
theorem l142 (cs : List AV) (len : Nat) (hl : cs.length = len) (hf : freeAll cs = true) (hb : len ≤ 1000000) : FCalls Tryz.prog 142 [.ro false cs len] (fun m => .sl 1 m 0 len) cs := by
  have q1 : (len * 8 ≤ 140737488355328) = True := eq_true (by omega)
  have q1' : (len ≤ 140737488355328) = True := eq_true (by omega)
  have q2 : (len ≤ 9223372036854775807) = True := eq_true (by omega)
  have tk : List.take (len) cs = cs := List.take_of_length_le (by omega)
  have z0 : 0 * 1 = 0 := by decide
  clear hb
  refine fof Tryz.func142 (fun h n => ?_) hf
  refine go ?_
  exact outF (n + 1)
theorem l142p (cs : List AV) (len : Nat) (hl : cs.length = len) (hf : freeAll cs = true) (hb : len ≤ 1000000) : PCalls Tryz.prog 142 [.ro false cs len] (.ro false cs len) := by
  have q1 : (len * 8 ≤ 140737488355328) = True := eq_true (by omega)
  have q1' : (len ≤ 140737488355328) = True := eq_true (by omega)
  have q2 : (len ≤ 9223372036854775807) = True := eq_true (by omega)
  have tk : List.take (len) cs = cs := List.take_of_length_le (by omega)
  have z0 : 0 * 1 = 0 := by decide
  refine pof Tryz.func142 fun h n => ?_
  refine gon ?_
  refine AWp.freeze (j := n + 1) (k := 2) tr tr (by rw [hl]; omega) ?_
  refine go ?_
  exact outP
theorem l142z (u : Bool) (cs : List AV) (len : Nat) (hu : u = true → cs = [] ∧ len = 0) (hl : cs.length = len) (hf : freeAll cs = true) (hb : len ≤ 1000000) : PCalls Tryz.prog 142 [.ro u cs len] (.ro u cs len) := by
  cases u with
  | false => exact l142p cs len hl hf hb
  | true => obtain ⟨rfl, rfl⟩ := hu rfl; exact l142n
theorem l144n : PCalls Tryz.prog 144 [.ro true [] 0] (.ro true [] 0) := by
  refine pof Tryz.func144 fun h n => ?_
  refine go ?_
  exact outP
theorem l144 (cs : List AV) (len : Nat) (hl : cs.length = len * 26) (hf : freeAll cs = true) (hb : len ≤ 1000000) : FCalls Tryz.prog 144 [.ro false cs len] (fun m => .sl 26 m 0 len) cs := by
  have q1 : (len * 240 ≤ 140737488355328) = True := eq_true (by omega)
  have q1' : (len ≤ 140737488355328) = True := eq_true (by omega)
  have q2 : (len ≤ 9223372036854775807) = True := eq_true (by omega)
  have tk : List.take (len * 26) cs = cs := List.take_of_length_le (by omega)
  have z0 : 0 * 26 = 0 := by decide
  clear hb
  refine fof Tryz.func144 (fun h n => ?_) hf
  refine go ?_
  exact outF (n + 1)
theorem l144p (cs : List AV) (len : Nat) (hl : cs.length = len * 26) (hf : freeAll cs = true) (hb : len ≤ 1000000) : PCalls Tryz.prog 144 [.ro false cs len] (.ro false cs len) := by
  have q1 : (len * 240 ≤ 140737488355328) = True := eq_true (by omega)
  have q1' : (len ≤ 140737488355328) = True := eq_true (by omega)
  have q2 : (len ≤ 9223372036854775807) = True := eq_true (by omega)
  have tk : List.take (len * 26) cs = cs := List.take_of_length_le (by omega)
  have z0 : 0 * 26 = 0 := by decide
  refine pof Tryz.func144 fun h n => ?_
  refine gon ?_
  refine AWp.freeze (j := n + 1) (k := 2) tr tr (by rw [hl]; omega) ?_
  refine go ?_
  exact outP
theorem l144z (u : Bool) (cs : List AV) (len : Nat) (hu : u = true → cs = [] ∧ len = 0) (hl : cs.length = len * 26) (hf : freeAll cs = true) (hb : len ≤ 1000000) : PCalls Tryz.prog 144 [.ro u cs len] (.ro u cs len) := by
  cases u with
  | false => exact l144p cs len hl hf hb
  | true => obtain ⟨rfl, rfl⟩ := hu rfl; exact l144n
theorem l145n : PCalls Tryz.prog 145 [.ro true [] 0] (.ro true [] 0) := by
  refine pof Tryz.func145 fun h n => ?_
  refine go ?_
  exact outP
theorem l145 (cs : List AV) (len : Nat) (hl : cs.length = len * 32) (hf : freeAll cs = true) (hb : len ≤ 1000000) : FCalls Tryz.prog 145 [.ro false cs len] (fun m => .sl 32 m 0 len) cs := by
  have q1 : (len * 32 ≤ 140737488355328) = True := eq_true (by omega)
  have q1' : (len ≤ 140737488355328) = True := eq_true (by omega)
  have q2 : (len ≤ 9223372036854775807) = True := eq_true (by omega)
  have tk : List.take (len * 32) cs = cs := List.take_of_length_le (by omega)
  have z0 : 0 * 32 = 0 := by decide
  clear hb
  refine fof Tryz.func145 (fun h n => ?_) hf
  refine go ?_
  exact outF (n + 1)
theorem l145p (cs : List AV) (len : Nat) (hl : cs.length = len * 32) (hf : freeAll cs = true) (hb : len ≤ 1000000) : PCalls Tryz.prog 145 [.ro false cs len] (.ro false cs len) := by
  have q1 : (len * 32 ≤ 140737488355328) = True := eq_true (by omega)
  have q1' : (len ≤ 140737488355328) = True := eq_true (by omega)
  have q2 : (len ≤ 9223372036854775807) = True := eq_true (by omega)
  have tk : List.take (len * 32) cs = cs := List.take_of_length_le (by omega)
  have z0 : 0 * 32 = 0 := by decide
  refine pof Tryz.func145 fun h n => ?_
  refine gon ?_
  refine AWp.freeze (j := n + 1) (k := 2) tr tr (by rw [hl]; omega) ?_
  refine go ?_
  exact outP
theorem l145z (u : Bool) (cs : List AV) (len : Nat) (hu : u = true → cs = [] ∧ len = 0) (hl : cs.length = len * 32) (hf : freeAll cs = true) (hb : len ≤ 1000000) : PCalls Tryz.prog 145 [.ro u cs len] (.ro u cs len) := by
  cases u with
  | false => exact l145p cs len hl hf hb
  | true => obtain ⟨rfl, rfl⟩ := hu rfl; exact l145n
theorem l146n : PCalls Tryz.prog 146 [.ro true [] 0] (.ro true [] 0) := by
  refine pof Tryz.func146 fun h n => ?_
  refine go ?_
  exact outP
theorem l146 (cs : List AV) (len : Nat) (hl : cs.length = len * 9) (hf : freeAll cs = true) (hb : len ≤ 1000000) : FCalls Tryz.prog 146 [.ro false cs len] (fun m => .sl 9 m 0 len) cs := by
  have q1 : (len * 72 ≤ 140737488355328) = True := eq_true (by omega)
  have q1' : (len ≤ 140737488355328) = True := eq_true (by omega)
  have q2 : (len ≤ 9223372036854775807) = True := eq_true (by omega)
  have tk : List.take (len * 9) cs = cs := List.take_of_length_le (by omega)
  have z0 : 0 * 9 = 0 := by decide
  clear hb
  refine fof Tryz.func146 (fun h n => ?_) hf
  refine go ?_
  exact outF (n + 1)
theorem l146p (cs : List AV) (len : Nat) (hl : cs.length = len * 9) (hf : freeAll cs = true) (hb : len ≤ 1000000) : PCalls Tryz.prog 146 [.ro false cs len] (.ro false cs len) := by
  have q1 : (len * 72 ≤ 140737488355328) = True := eq_true (by omega)
  have q1' : (len ≤ 140737488355328) = True := eq_true (by omega)
  have q2 : (len ≤ 9223372036854775807) = True := eq_true (by omega)
  have tk : List.take (len * 9) cs = cs := List.take_of_length_le (by omega)
  have z0 : 0 * 9 = 0 := by decide
  refine pof Tryz.func146 fun h n => ?_
  refine gon ?_
  refine AWp.freeze (j := n + 1) (k := 2) tr tr (by rw [hl]; omega) ?_
  refine go ?_
  exact outP
theorem l146z (u : Bool) (cs : List AV) (len : Nat) (hu : u = true → cs = [] ∧ len = 0) (hl : cs.length = len * 9) (hf : freeAll cs = true) (hb : len ≤ 1000000) : PCalls Tryz.prog 146 [.ro u cs len] (.ro u cs len) := by
  cases u with
  | false => exact l146p cs len hl hf hb
  | true => obtain ⟨rfl, rfl⟩ := hu rfl; exact l146n
theorem l195n : PCalls Tryz.prog 195 [.ro true [] 0] (.ro true [] 0) := by
  refine pof Tryz.func195 fun h n => ?_
  refine go ?_
  exact outP
theorem l195 (cs : List AV) (len : Nat) (hl : cs.length = len * 2) (hf : freeAll cs = true) (hb : len ≤ 1000000) : FCalls Tryz.prog 195 [.ro false cs len] (fun m => .sl 2 m 0 len) cs := by
  have q1 : (len * 32 ≤ 140737488355328) = True := eq_true (by omega)
  have q1' : (len ≤ 140737488355328) = True := eq_true (by omega)
  have q2 : (len ≤ 9223372036854775807) = True := eq_true (by omega)
  have tk : List.take (len * 2) cs = cs := List.take_of_length_le (by omega)
  have z0 : 0 * 2 = 0 := by decide
  clear hb
  refine fof Tryz.func195 (fun h n => ?_) hf
  refine go ?_
  exact outF (n + 1)
theorem l195p (cs : List AV) (len : Nat) (hl : cs.length = len * 2) (hf : freeAll cs = true) (hb : len ≤ 1000000) : PCalls Tryz.prog 195 [.ro false cs len] (.ro false cs len) := by
  have q1 : (len * 32 ≤ 140737488355328) = True := eq_true (by omega)
  have q1' : (len ≤ 140737488355328) = True := eq_true (by omega)
  have q2 : (len ≤ 9223372036854775807) = True := eq_true (by omega)
  have tk : List.take (len * 2) cs = cs := List.take_of_length_le (by omega)
  have z0 : 0 * 2 = 0 := by decide
  refine pof Tryz.func195 fun h n => ?_
  refine gon ?_
  refine AWp.freeze (j := n + 1) (k := 2) tr tr (by rw [hl]; omega) ?_
  refine go ?_
  exact outP
theorem l195z (u : Bool) (cs : List AV) (len : Nat) (hu : u = true → cs = [] ∧ len = 0) (hl : cs.length = len * 2) (hf : freeAll cs = true) (hb : len ≤ 1000000) : PCalls Tryz.prog 195 [.ro u cs len] (.ro u cs len) := by
  cases u with
  | false => exact l195p cs len hl hf hb
  | true => obtain ⟨rfl, rfl⟩ := hu rfl; exact l195n
theorem l196n : PCalls Tryz.prog 196 [.ro true [] 0] (.ro true [] 0) := by
  refine pof Tryz.func196 fun h n => ?_
  refine go ?_
  exact outP
theorem l196 (cs : List AV) (len : Nat) (hl : cs.length = len) (hf : freeAll cs = true) (hb : len ≤ 1000000) : FCalls Tryz.prog 196 [.ro false cs len] (fun m => .sl 1 m 0 len) cs := by
  have q1 : (len * 1 ≤ 140737488355328) = True := eq_true (by omega)
  have q1' : (len ≤ 140737488355328) = True := eq_true (by omega)
  have q2 : (len ≤ 9223372036854775807) = True := eq_true (by omega)
  have tk : List.take (len) cs = cs := List.take_of_length_le (by omega)
  have z0 : 0 * 1 = 0 := by decide
  clear hb
  refine fof Tryz.func196 (fun h n => ?_) hf
  refine go ?_
  exact outF (n + 1)
theorem l196p (cs : List AV) (len : Nat) (hl : cs.length = len) (hf : freeAll cs = true) (hb : len ≤ 1000000) : PCalls Tryz.prog 196 [.ro false cs len] (.ro false cs len) := by
  have q1 : (len * 1 ≤ 140737488355328) = True := eq_true (by omega)
  have q1' : (len ≤ 140737488355328) = True := eq_true (by omega)
  have q2 : (len ≤ 9223372036854775807) = True := eq_true (by omega)
  have tk : List.take (len) cs = cs := List.take_of_length_le (by omega)
  have z0 : 0 * 1 = 0 := by decide
  refine pof Tryz.func196 fun h n => ?_
  refine gon ?_
  refine AWp.freeze (j := n + 1) (k := 2) tr tr (by rw [hl]; omega) ?_
  refine go ?_
  exact outP
theorem l196z (u : Bool) (cs : List AV) (len : Nat) (hu : u = true → cs = [] ∧ len = 0) (hl : cs.length = len) (hf : freeAll cs = true) (hb : len ≤ 1000000) : PCalls Tryz.prog 196 [.ro u cs len] (.ro u cs len) := by
  cases u with
  | false => exact l196p cs len hl hf hb
  | true => obtain ⟨rfl, rfl⟩ := hu rfl; exact l196n
/-! ### bin.room, Put -/
theorem l283_1 : PCalls Tryz.prog 283 [.i .i64 1] (.i .i64 256) := by
  have h1 : IntKind.wrap .i64 8 = 8 := by decide
  have h2 : IntKind.wrap .i64 (1 * 2 ^ min 8 (IntKind.bits .i64)) = 256 := by decide
  refine pof Tryz.func283 fun h n => ?_
  refine go ?_
  exact outP
theorem l283_4 : PCalls Tryz.prog 283 [.i .i64 4] (.i .i64 4294967296) := by
  have h1 : IntKind.wrap .i64 32 = 32 := by decide
  have h2 : IntKind.wrap .i64 (1 * 2 ^ min 32 (IntKind.bits .i64)) = 4294967296 := by decide
  refine pof Tryz.func283 fun h n => ?_
  refine go ?_
  exact outP
instance : Ct Tryz.prog 283 [.i .i64 1] (.i .i64 256) := ⟨l283_1⟩
instance : Ct Tryz.prog 283 [.i .i64 4] (.i .i64 4294967296) := ⟨l283_4⟩
theorem byte_at (x k s : Nat) (hs : s = 256 ^ k) : IntKind.wrap .u8 ((x / s : Nat) : Int) = ((UInt8.ofNat (x / 256 ^ k % 256)).toNat : Int) := by
  subst hs
  rw [UInt8.toNat_ofNat', IntKind.wrap_u8]
  omega
theorem l247_1 (b : List UInt8) (hb : b.length ≤ 900000) (x : Nat) (hx : x < 256) (A : List UInt8) (hA : b ++ beL x 1 = A) : FCalls Tryz.prog 247 [.ro false (cellsB b) b.length, .i .i64 (x : Int), .i .i64 1] (fun m => .tup [.sl 1 m 0 A.length, .i .i64 0]) (cellsB A) := by
  have g1 : ((x : Int) < 0) = False := eq_false (by omega)
  have g2 : ((x : Int) ≥ 256) = False := eq_false (by omega)
  have s0 : Int.fdiv (x : Int) (2 ^ min 0 (IntKind.bits .i64)) = ((x / 1 : Nat) : Int) := fdivN x 1
  have w0 := byte_at x 0 1 rfl
  obtain ⟨c0, ec0⟩ : ∃ c, UInt8.ofNat (x / 256 ^ 0 % 256) = c := ⟨_, rfl⟩
  rw [ec0] at w0
  obtain ⟨y0, ey0⟩ : ∃ y, x / 1 = y := ⟨_, rfl⟩
  rw [ey0] at s0 w0
  have v0 : IntKind.wrap .i64 0 = 0 := by decide
  have hL : beL x 1 = [c0] := by
    simp only [beL, ec0]
  rw [hL] at hA
  have hAl : A.length = b.length + 1 := by rw [← hA]; simp
  have hAc : cellsB A = cellsB b ++ [.i .u8 (c0.toNat : Int)] := by rw [← hA]; simp [cellsB]
  have um : IntKind.wrap .i64 (-1) = -1 := by decide
  have u0 : IntKind.wrap .i64 0 = 0 := by decide
  have u1 : IntKind.wrap .i64 1 = 1 := by decide
  have u2 : IntKind.wrap .i64 2 = 2 := by decide
  have u3 : IntKind.wrap .i64 3 = 3 := by decide
  have q0 : (b.length ≤ 140737488355328) = True := eq_true (by omega)
  have r0 : (b.length ≤ 9223372036854775807) = True := eq_true (by omega)
  have q1 : (b.length + 1 ≤ 140737488355328) = True := eq_true (by omega)
  have r1 : (b.length + 1 ≤ 9223372036854775807) = True := eq_true (by omega)
  have C := l196 (cellsB b) b.length (by rw [len_cellsB]) (free_cellsB b) (by omega)
  clear hx hA hL ey0 ec0 hb
  refine fof Tryz.func247 fun h n => ?_
  refine go ?_
  refine AWr.loop 2 ?_
  refine go ?_
  exact outF (n + 2)
theorem l247_4 (b : List UInt8) (hb : b.length ≤ 900000) (x : Nat) (hx : x < 4294967296) (A : List UInt8) (hA : b ++ beL x 4 = A) : FCalls Tryz.prog 247 [.ro false (cellsB b) b.length, .i .i64 (x : Int), .i .i64 4] (fun m => .tup [.sl 1 m 0 A.length, .i .i64 0]) (cellsB A) := by
  have g1 : ((x : Int) < 0) = False := eq_false (by omega)
  have g2 : ((x : Int) ≥ 4294967296) = False := eq_false (by omega)
  have s0 : Int.fdiv (x : Int) (2 ^ min 0 (IntKind.bits .i64)) = ((x / 1 : Nat) : Int) := fdivN x 1
  have w0 := byte_at x 0 1 rfl
  obtain ⟨c0, ec0⟩ : ∃ c, UInt8.ofNat (x / 256 ^ 0 % 256) = c := ⟨_, rfl⟩
  rw [ec0] at w0
  obtain ⟨y0, ey0⟩ : ∃ y, x / 1 = y := ⟨_, rfl⟩
  rw [ey0] at s0 w0
  have v0 : IntKind.wrap .i64 0 = 0 := by decide
  have s1 : Int.fdiv (x : Int) (2 ^ min 8 (IntKind.bits .i64)) = ((x / 256 : Nat) : Int) := fdivN x 256
  have w1 := byte_at x 1 256 rfl
  obtain ⟨c1, ec1⟩ : ∃ c, UInt8.ofNat (x / 256 ^ 1 % 256) = c := ⟨_, rfl⟩
  rw [ec1] at w1
  obtain ⟨y1, ey1⟩ : ∃ y, x / 256 = y := ⟨_, rfl⟩
  rw [ey1] at s1 w1
  have v1 : IntKind.wrap .i64 8 = 8 := by decide
  have s2 : Int.fdiv (x : Int) (2 ^ min 16 (IntKind.bits .i64)) = ((x / 65536 : Nat) : Int) := fdivN x 65536
  have w2 := byte_at x 2 65536 rfl
  obtain ⟨c2, ec2⟩ : ∃ c, UInt8.ofNat (x / 256 ^ 2 % 256) = c := ⟨_, rfl⟩
  rw [ec2] at w2
  obtain ⟨y2, ey2⟩ : ∃ y, x / 65536 = y := ⟨_, rfl⟩
  rw [ey2] at s2 w2
  have v2 : IntKind.wrap .i64 16 = 16 := by decide
  have s3 : Int.fdiv (x : Int) (2 ^ min 24 (IntKind.bits .i64)) = ((x / 16777216 : Nat) : Int) := fdivN x 16777216
  have w3 := byte_at x 3 16777216 rfl
  obtain ⟨c3, ec3⟩ : ∃ c, UInt8.ofNat (x / 256 ^ 3 % 256) = c := ⟨_, rfl⟩
  rw [ec3] at w3
  obtain ⟨y3, ey3⟩ : ∃ y, x / 16777216 = y := ⟨_, rfl⟩
  rw [ey3] at s3 w3
  have v3 : IntKind.wrap .i64 24 = 24 := by decide
  have hL : beL x 4 = [c3, c2, c1, c0] := by
    simp only [beL, ec0, ec1, ec2, ec3]
  rw [hL] at hA
  have hAl : A.length = b.length + 1 + 1 + 1 + 1 := by rw [← hA]; simp
  have hAc : cellsB A = cellsB b ++ [.i .u8 (c3.toNat : Int)] ++ [.i .u8 (c2.toNat : Int)] ++ [.i .u8 (c1.toNat : Int)] ++ [.i .u8 (c0.toNat : Int)] := by rw [← hA]; simp [cellsB]
  have um : IntKind.wrap .i64 (-1) = -1 := by decide
  have u0 : IntKind.wrap .i64 0 = 0 := by decide
  have u1 : IntKind.wrap .i64 1 = 1 := by decide
  have u2 : IntKind.wrap .i64 2 = 2 := by decide
  have u3 : IntKind.wrap .i64 3 = 3 := by decide
  have q0 : (b.length ≤ 140737488355328) = True := eq_true (by omega)
  have r0 : (b.length ≤ 9223372036854775807) = True := eq_true (by omega)
  have q1 : (b.length + 1 ≤ 140737488355328) = True := eq_true (by omega)
  have r1 : (b.length + 1 ≤ 9223372036854775807) = True := eq_true (by omega)
  have q2 : (b.length + 1 + 1 ≤ 140737488355328) = True := eq_true (by omega)
  have r2 : (b.length + 1 + 1 ≤ 9223372036854775807) = True := eq_true (by omega)
  have q3 : (b.length + 1 + 1 + 1 ≤ 140737488355328) = True := eq_true (by omega)
  have r3 : (b.length + 1 + 1 + 1 ≤ 9223372036854775807) = True := eq_true (by omega)
  have q4 : (b.length + 1 + 1 + 1 + 1 ≤ 140737488355328) = True := eq_true (by omega)
  have r4 : (b.length + 1 + 1 + 1 + 1 ≤ 9223372036854775807) = True := eq_true (by omega)
  have C := l196 (cellsB b) b.length (by rw [len_cellsB]) (free_cellsB b) (by omega)
  clear hx hA hL ey0 ec0 ey1 ec1 ey2 ec2 ey3 ec3 hb
  refine fof Tryz.func247 fun h n => ?_
  refine go ?_
  refine AWr.loop 5 ?_
  refine go ?_
  exact outF (n + 8)
theorem l247_4n (x : Nat) (hx : x < 4294967296) (A : List UInt8) (hA : beL x 4 = A) : FCalls Tryz.prog 247 [.ro true [] 0, .i .i64 (x : Int), .i .i64 4] (fun m => .tup [.sl 1 m 0 A.length, .i .i64 0]) (cellsB A) := by
  have g1 : ((x : Int) < 0) = False := eq_false (by omega)
  have g2 : ((x : Int) ≥ 4294967296) = False := eq_false (by omega)
  have s0 : Int.fdiv (x : Int) (2 ^ min 0 (IntKind.bits .i64)) = ((x / 1 : Nat) : Int) := fdivN x 1
  have w0 := byte_at x 0 1 rfl
  obtain ⟨c0, ec0⟩ : ∃ c, UInt8.ofNat (x / 256 ^ 0 % 256) = c := ⟨_, rfl⟩
  rw [ec0] at w0
  obtain ⟨y0, ey0⟩ : ∃ y, x / 1 = y := ⟨_, rfl⟩
  rw [ey0] at s0 w0
  have v0 : IntKind.wrap .i64 0 = 0 := by decide
  have s1 : Int.fdiv (x : Int) (2 ^ min 8 (IntKind.bits .i64)) = ((x / 256 : Nat) : Int) := fdivN x 256
  have w1 := byte_at x 1 256 rfl
  obtain ⟨c1, ec1⟩ : ∃ c, UInt8.ofNat (x / 256 ^ 1 % 256) = c := ⟨_, rfl⟩
  rw [ec1] at w1
  obtain ⟨y1, ey1⟩ : ∃ y, x / 256 = y := ⟨_, rfl⟩
  rw [ey1] at s1 w1
  have v1 : IntKind.wrap .i64 8 = 8 := by decide
  have s2 : Int.fdiv (x : Int) (2 ^ min 16 (IntKind.bits .i64)) = ((x / 65536 : Nat) : Int) := fdivN x 65536
  have w2 := byte_at x 2 65536 rfl
  obtain ⟨c2, ec2⟩ : ∃ c, UInt8.ofNat (x / 256 ^ 2 % 256) = c := ⟨_, rfl⟩
  rw [ec2] at w2
  obtain ⟨y2, ey2⟩ : ∃ y, x / 65536 = y := ⟨_, rfl⟩
  rw [ey2] at s2 w2
  have v2 : IntKind.wrap .i64 16 = 16 := by decide
  have s3 : Int.fdiv (x : Int) (2 ^ min 24 (IntKind.bits .i64)) = ((x / 16777216 : Nat) : Int) := fdivN x 16777216
  have w3 := byte_at x 3 16777216 rfl
  obtain ⟨c3, ec3⟩ : ∃ c, UInt8.ofNat (x / 256 ^ 3 % 256) = c := ⟨_, rfl⟩
  rw [ec3] at w3
  obtain ⟨y3, ey3⟩ : ∃ y, x / 16777216 = y := ⟨_, rfl⟩
  rw [ey3] at s3 w3
  have v3 : IntKind.wrap .i64 24 = 24 := by decide
  have hL : beL x 4 = [c3, c2, c1, c0] := by
    simp only [beL, ec0, ec1, ec2, ec3]
  rw [hL] at hA
  have hAl : A.length = 0 + 1 + 1 + 1 + 1 := by rw [← hA]; simp
  have hAc : cellsB A = [] ++ [.i .u8 (c3.toNat : Int)] ++ [.i .u8 (c2.toNat : Int)] ++ [.i .u8 (c1.toNat : Int)] ++ [.i .u8 (c0.toNat : Int)] := by rw [← hA]; simp [cellsB]
  have um : IntKind.wrap .i64 (-1) = -1 := by decide
  have u0 : IntKind.wrap .i64 0 = 0 := by decide
  have u1 : IntKind.wrap .i64 1 = 1 := by decide
  have u2 : IntKind.wrap .i64 2 = 2 := by decide
  have u3 : IntKind.wrap .i64 3 = 3 := by decide
  have C := l196n
  clear hx hA hL ey0 ec0 ey1 ec1 ey2 ec2 ey3 ec3
  refine fof Tryz.func247 fun h n => ?_
  refine go ?_
  refine AWr.loop 5 ?_
  refine go ?_
  exact outF (n + 7)
/-! ### configs, phases -/
structure Cfg where
  T : Int
  D : Int
  e0 : Int
  e1 : Int
  e2 : Int
  e3 : Int
  z : Bool
  M : List Int
def cfgC (c : Cfg) : List AV := [.i .i64 c.T, .i .i64 c.D, .i .i64 c.e0, .i .i64 c.e1, .i .i64 c.e2, .i .i64 c.e3, .ro c.z (intsC c.M) c.M.length]
def endsOk (e0 e1 e2 e3 : Int) : Prop := (0 ≤ e0 ∧ e0 ≤ 1048576) ∧ (e0 ≤ e1 ∧ e1 ≤ 1048576) ∧ (e1 ≤ e2 ∧ e2 ≤ 1048576) ∧ (e2 ≤ e3 ∧ e3 ≤ 1048576)
def moneyOk (m : Int) : Prop := 0 ≤ m ∧ m ≤ 1099511627776
structure Cfg.ok (c : Cfg) : Prop where
  T : 0 ≤ c.T ∧ c.T < 64
  D : moneyOk c.D
  l : c.M.length ≤ 16
  e : endsOk c.e0 c.e1 c.e2 c.e3
  m : ∀ m, m ∈ c.M → moneyOk m
theorem l84t (c : Cfg) (h : c.ok) : PCalls Tryz.prog 84 [.agg (cfgC c)] (.i .i64 0) := by
  obtain ⟨T, D, e0, e1, e2, e3, z, M⟩ := c
  obtain ⟨hT, hD, hl, he, hm⟩ := h
  simp only [moneyOk, endsOk] at hT hD hl he hm
  have a1 : (T < 0) = False := eq_false (by omega)
  have a2 : (T ≥ 64) = False := eq_false (by omega)
  have a3 : (D < 0) = False := eq_false (by omega)
  have a4 : (D > 1099511627776) = False := eq_false (by omega)
  have a5 : ((M.length : Int) > 16) = False := eq_false (by omega)
  have b0 : (e0 < 0) = False := eq_false (by omega)
  have b1 : (e1 < e0) = False := eq_false (by omega)
  have b2 : (e2 < e1) = False := eq_false (by omega)
  have b3 : (e3 < e2) = False := eq_false (by omega)
  have d0 : (e0 > 1048576) = False := eq_false (by omega)
  have d1 : (e1 > 1048576) = False := eq_false (by omega)
  have d2 : (e2 > 1048576) = False := eq_false (by omega)
  have d3 : (e3 > 1048576) = False := eq_false (by omega)
  have Hm : Hid _ := ⟨hm⟩
  clear hT hD he hm
  unfold cfgC
  refine pof Tryz.func84 fun h n => ?_
  refine go ?_
  refine AWr.loop 5 ?_
  refine go ?_
  refine AWp.loop (fun mm t' h' n' => ∃ i : Nat, mm = M.length - i ∧ i ≤ M.length ∧ t' 47 = .ro z (intsC M) M.length ∧ t' 48 = .i .i64 (M.length : Int) ∧ t' 49 = .i .i64 (i : Int) ∧ Keeps n h h') M.length ?_ ?_
  · exact ⟨0, rfl, Nat.zero_le _, tr, tr, tr, ks⟩
  · rintro mm t' h' n' - ⟨i, hmm, hi, t47, t48, t49, kp⟩
    by_cases hlt : i < M.length
    · have q1 : ((i : Int) < (M.length : Int)) = True := eq_true (by omega)
      have q2 : (0 ≤ (i : Int) ∧ (i : Int) < (M.length : Int)) = True := eq_true (by omega)
      have w1 : IntKind.wrap .i64 ((i : Int) + 1) = (i : Int) + 1 := IntWalk.i64_in _ (by omega)
      have q3 := ints_get hlt
      have hm := Hm.get M[i] (List.getElem_mem hlt)
      obtain ⟨v, ev⟩ : ∃ v, M[i] = v := ⟨_, rfl⟩
      rw [ev] at q3 hm
      have m1 : (v < 0) = False := eq_false (by omega)
      have m2 : (v > 1099511627776) = False := eq_false (by omega)
      have lt1 : M.length - (i + 1) < mm := by omega
      clear hm ev hmm
      refine go ?_
      exact ⟨M.length - (i + 1), lt1, i + 1, rfl, hlt, tr, tr, tr, ks⟩
    · have q1 : ((i : Int) < (M.length : Int)) = False := eq_false (by omega)
      clear hmm
      refine go ?_
      exact outP
/-- The phase of a height. -/
def atC (c : Cfg) (x : Int) : Int := if max x 0 ≤ c.e0 then 1 else if max x 0 ≤ c.e1 then 2 else if max x 0 ≤ c.e2 then 3 else if max x 0 ≤ c.e3 then 4 else 0
theorem max_go (x : Int) : (if (0 : Int) > x then 0 else x) = max x 0 := by
  rw [Int.max_def]
  split <;> split <;> omega
theorem l85 (c : Cfg) (x : Int) : PCalls Tryz.prog 85 [.agg (cfgC c), .i .i64 x] (.i .i64 (atC c x)) := by
  obtain ⟨T, D, e0, e1, e2, e3, z, M⟩ := c
  have mx := max_go x
  obtain ⟨m, em⟩ : ∃ m, max x 0 = m := ⟨_, rfl⟩
  rw [em] at mx
  have R : atC ⟨T, D, e0, e1, e2, e3, z, M⟩ x = if m ≤ e0 then 1 else if m ≤ e1 then 2 else if m ≤ e2 then 3 else if m ≤ e3 then 4 else 0 := by unfold atC; rw [em]
  rw [R]
  clear R em
  have u : ∀ k : Nat, k < 10 → IntKind.wrap .i64 (k : Int) = (k : Int) := fun k hk => IntWalk.i64_in _ (by omega)
  have u1 : IntKind.wrap .i64 1 = 1 := u 1 (by decide)
  have u2 : IntKind.wrap .i64 2 = 2 := u 2 (by decide)
  have u3 : IntKind.wrap .i64 3 = 3 := u 3 (by decide)
  have u4 : IntKind.wrap .i64 4 = 4 := u 4 (by decide)
  clear u
  unfold cfgC
  refine pof Tryz.func85 fun h n => ?_
  refine go ?_
  refine AWr.loop 5 ?_
  by_cases c0 : m ≤ e0
  · have c0f : (m ≤ e0) = True := eq_true c0
    rw [if_pos c0]
    have c0g : (e0 ≥ m) = True := eq_true c0
    clear c0
    refine go ?_
    exact outP
  · have c0f : (m ≤ e0) = False := eq_false c0
    have c0g : (e0 ≥ m) = False := eq_false c0
    rw [if_neg c0]
    clear c0
    refine go ?_
    by_cases c1 : m ≤ e1
    · have c1f : (m ≤ e1) = True := eq_true c1
      rw [if_pos c1]
      have c1g : (e1 ≥ m) = True := eq_true c1
      clear c1
      refine go ?_
      exact outP
    · have c1f : (m ≤ e1) = False := eq_false c1
      have c1g : (e1 ≥ m) = False := eq_false c1
      rw [if_neg c1]
      clear c1
      refine go ?_
      by_cases c2 : m ≤ e2
      · have c2f : (m ≤ e2) = True := eq_true c2
        rw [if_pos c2]
        have c2g : (e2 ≥ m) = True := eq_true c2
        clear c2
        refine go ?_
        exact outP
      · have c2f : (m ≤ e2) = False := eq_false c2
        have c2g : (e2 ≥ m) = False := eq_false c2
        rw [if_neg c2]
        clear c2
        refine go ?_
        by_cases c3 : m ≤ e3
        · have c3f : (m ≤ e3) = True := eq_true c3
          rw [if_pos c3]
          have c3g : (e3 ≥ m) = True := eq_true c3
          clear c3
          refine go ?_
          exact outP
        · have c3f : (m ≤ e3) = False := eq_false c3
          have c3g : (e3 ≥ m) = False := eq_false c3
          rw [if_neg c3]
          clear c3
          refine go ?_
          exact outP
/-- Whether another phase begins. -/
def begC (c : Cfg) (x : Int) : Bool := decide (x ≥ 1) && (atC c x != atC c (x - 1))
theorem l92 (c : Cfg) (x : Int) (hx : -9000000000000000000 ≤ x ∧ x ≤ 9000000000000000000) : PCalls Tryz.prog 92 [.agg (cfgC c), .i .i64 x] (.tup [.i .i64 (atC c x), .b (begC c x)]) := by
  have A := l85 c x
  have B := l85 c (x - 1)
  have w : IntKind.wrap .i64 (x - 1) = x - 1 := IntWalk.i64_in _ (by omega)
  obtain ⟨a, ea⟩ : ∃ a, atC c x = a := ⟨_, rfl⟩
  obtain ⟨b, eb⟩ : ∃ b, atC c (x - 1) = b := ⟨_, rfl⟩
  have R : begC c x = (decide (x ≥ 1) && (a != b)) := by unfold begC; rw [ea, eb]
  rw [ea] at A
  rw [eb] at B
  rw [R, ea]
  clear R ea eb hx
  have cl : (cfgC c).length = 7 := rfl
  have ct : (cfgC c).take 7 = cfgC c := rfl
  refine pof Tryz.func92 fun h n => ?_
  by_cases h1 : x ≥ 1
  · have h1f : (x ≥ 1) = True := eq_true h1
    rw [show decide (x ≥ 1) = true from decide_eq_true h1]
    clear h1
    refine go ?_
    exact outP
  · have h1f : (x ≥ 1) = False := eq_false h1
    rw [show decide (x ≥ 1) = false from decide_eq_false h1]
    clear h1
    refine go ?_
    exact outP

end Go.Proofs.YtmkefpjpghmonaaGreat
