import Derived.Test.YtmkefpjpghmonaaGreatLq
namespace Go.Proofs.YtmkefpjpghmonaaGreat
open Go.Av
set_option maxRecDepth 100000
set_option maxHeartbeats 1000000
set_option synthInstance.maxHeartbeats 400000
set_option synthInstance.maxSize 4000
set_option linter.unusedSimpArgs false
set_option linter.unusedVariables false

theorem rep_1 (zs : List AV) : rep 1 zs = zs := by simp [rep]
attribute [push_cast] rep_1
section
variable {P : Program} {n : Nat} {h h1 : Heap} {t : Tmps} {e : Exit} {xs : List AV} {rs : List ResultVar} {n1 : Nat}
theorem outR {fn : Func} {Φ : AV → Heap → Nat → Prop} (hΦ : Φ (resOne xs) h1 n1) (hl : fn.results = ⟨rs⟩ := by rfl) (hx : resAll P t h1 rs = some xs := by (simp only [resAll, resT, push_cast, ↓reduceIte, Nat.reduceEqDiff, Nat.reduceAdd, Nat.reduceSub, Nat.reduceLeDiff, Nat.reduceLT, Int.reduceLE, Int.reduceLT, Int.reduceAdd, Int.reduceSub, Int.reduceNeg, Int.reduceBEq, Int.reduceBNe, Int.reduceEq, Int.reduceGT, Int.reduceGE, Int.reduceMul, Int.reduceToNat, Nat.reduceMul, reduceCtorEq, *] <;> rfl)) (he : e = .normal ∨ e = .ret := by (first | exact .inl rfl | exact .inr rfl)) : OutR P fn Φ e t h1 n1 :=
  ⟨he, xs, by rw [hl]; exact hx, hΦ⟩
theorem kx {p : Prop} (h : p := by (repeat (first | with_reducible assumption | exact keepX0 | refine keepX (by first | (left; omega) | (right; simp)) ?_))) : p := h
end
def b59_6 : List Nat := [0, 1, 3, 7, 0, 16, 63, 127, 0, 511]
def w59_6 : List Nat := [9]
def b59_7 : List Nat := [0, 1, 0, 4, 0, 16, 48, 3, 143, 511]
def w59_7 : List Nat := [7, 8, 1001, 1003, 1006]
def b59_15 : List Nat := [0, 1, 0, 0, 11, 31, 0, 127]
def w59_15 : List Nat := [7]
def b59_24 : List Nat := [0, 0, 2, 6, 14, 0, 32, 126, 255, 511, 1023]
def w59_24 : List Nat := [7, 10]

/-- The ledger's row and its entries' row, a new entry at their end. -/
def AddedB (h : Heap) (n jl ja : Nat) (S E : List AV) (N : Nat) (hd : Int) (v : AV) (g : Heap) (m : Nat) : Prop :=
  v = .tup [.i .i64 (N : Int), .i .i64 0] ∧ n ≤ m ∧ ∃ jb, n ≤ jb ∧ jb < m ∧ g jl = some (.cells (S ++ [.sl 58 jb 0 (N + 1), .i .i64 hd])) ∧ g jb = some (.cells E) ∧ ∀ x r, x < n → h x = some r → x ∉ [jl, ja] → g x = some r
theorem add_c {S EC X Y : List AV} {H0 H : List UInt8} {N k x s : Nat} {p ht hd : Int} {c0 c2 c3 er : AV} (hp : p = (k : Int)) (hS : S.length = 21) (fS : freeAll S = true) (lE : EC.length = N * 58) (fE : freeAll EC = true) (hk : k < N) (hN : N < 4000)
    (w : List.take 58 (List.drop (k * 58) EC) = c0 :: .i .i64 ht :: c2 :: c3 :: (cellsB H0 ++ (X ++ [er]))) (hX : X.length = 21) (hY : Y.length = 21) (fY : freeAll Y = true) (h0 : H0.length = 32) (h1 : H.length = 32) (hx : (x : Int) = ht + 1) (hxb : x ≤ 1048576)
    (C1 : PCalls Tryz.prog 128 [.q (S ++ [.ro false EC N, .i .i64 hd]) 0, .i .i64 p] (.b true)) (C2 : PCalls Tryz.prog 130 [.agg [.i .i64 p, .i .i64 (x : Int), .i .i64 (s : Int), .ro true [] 0]] (.i .i64 0)) (C3 : PCalls Tryz.prog 131 [.agg (cellsB H0), .agg [.i .i64 p, .i .i64 (x : Int), .i .i64 (s : Int), .ro true [] 0]] (.tup [.agg (cellsB H), .i .i64 0]))
    (T : PCalls Tryz.prog 31 [.agg X] (.agg Y)) {bt : Bool} (C4 : PCalls Tryz.prog 132 [.q (S ++ [.ro false (EC ++ (AV.i .i64 p :: .i .i64 (x : Int) :: .i .i64 (s : Int) :: .ro true [] 0 :: (cellsB H ++ (Y ++ [.ro true [] 0])))) (N + 1), .i .i64 hd]) 0, .i .i64 (N : Int)] (.b bt))
    {h : Heap} {n jl ja : Nat} (jn : jl < n) (an : ja < n) (hne : (ja = jl) = False) (hne' : (jl = ja) = False) (hl : h jl = some (.cells (S ++ [.sl 58 ja 0 N, .i .i64 hd]))) (ha : h ja = some (.cells EC)) : DRel Tryz.prog 59 [.p jl 0, .agg [.i .i64 p, .i .i64 (x : Int), .i .i64 (s : Int), .ro true [] 0]] h n (AddedB h n jl ja S (EC ++ (AV.i .i64 p :: .i .i64 (x : Int) :: .i .i64 (s : Int) :: .ro true [] 0 :: (cellsB H ++ (Y ++ [.ro true [] 0])))) N (if bt then (N : Int) else hd)) := by
  have F := st_facts hS
  have FX := st_facts hX
  have FY := st_facts hY
  have FH0 := h_facts h0
  have FH := h_facts h1
  have ap1 := apt jn
  have ap2 := apt an
  have b1 : (k * 58 + 58 ≤ N * 58) = True := eq_true (by omega)
  have b2 : (0 ≤ p ∧ p < (N : Int)) = True := eq_true (by omega)
  have e1 : p.toNat = k := by omega
  have w1 : IntKind.wrap .i64 (ht + 1) = (x : Int) := by rw [← hx]; exact IntWalk.i64_in _ (by omega)
  have w2 : IntKind.wrap .i64 ((N : Int) + 1 - 1) = (N : Int) := by rw [Int.add_sub_cancel]; exact IntWalk.i64_in _ (by omega)
  have b3 : ((N : Int) ≥ 4000) = False := eq_false (by omega)
  have b4 : (p != -1) = true := by simp only [bne_iff_ne, ne_eq]; omega
  have tE : List.take (N * 58) EC = EC := List.take_of_length_le (by omega)
  have b5 : ((N + 1) * 320 ≤ 140737488355328) = True := eq_true (by omega)
  have b6 : (N ≤ 9223372036854775806) = True := eq_true (by omega)
  have b7 : ((N + 1) * 58 ≤ N * 58 + 58) = True := eq_true (by omega)
  have lE1 : (EC ++ (AV.i .i64 p :: .i .i64 (x : Int) :: .i .i64 (s : Int) :: .ro true [] 0 :: (cellsB H ++ (Y ++ [.ro true [] 0])))).length = (N + 1) * 58 := by simp only [push_cast, *]; try omega
  have t54 : List.take 54 (cellsB H ++ (Y ++ [.ro true [] 0])) = cellsB H ++ (Y ++ [.ro true [] 0]) := List.take_of_length_le (by simp only [push_cast, *]; try omega)
  have tE1 : List.take ((N + 1) * 58) (EC ++ (AV.i .i64 p :: .i .i64 (x : Int) :: .i .i64 (s : Int) :: .ro true [] 0 :: (cellsB H ++ (Y ++ [.ro true [] 0])))) = EC ++ (AV.i .i64 p :: .i .i64 (x : Int) :: .i .i64 (s : Int) :: .ro true [] 0 :: (cellsB H ++ (Y ++ [.ro true [] 0]))) := List.take_of_length_le (by omega)
  clear hp hx lE1
  refine DRel.of Tryz.func59 rfl (by decide) (Nat.le_of_ble_eq_true rfl) ?_
  repeat (first | refine go ?_ | refine drg 6 b59_6 w59_6 ?_)
  refine AWp.frz1 (k := 10) (j := n + 3) (d := 1) tr (x := .q (c0 :: .i .i64 ht :: c2 :: c3 :: (cellsB H0 ++ (X ++ [er]))) 0) (by simp only [push_cast]; exact frz_ptr) ?_
  repeat (first | refine go ?_ | refine drg 6 b59_6 w59_6 ?_ | refine drg 7 b59_7 w59_7 ?_ | refine drg 15 b59_15 w59_15 ?_ | refine drg 24 b59_24 w59_24 ?_)
  refine AWr.loop 1 ?_
  repeat (first | refine go ?_ | refine drg 6 b59_6 w59_6 ?_ | refine drg 7 b59_7 w59_7 ?_ | refine drg 15 b59_15 w59_15 ?_ | refine drg 24 b59_24 w59_24 ?_)
  cases bt
  · repeat (first | refine go ?_ | refine drg 6 b59_6 w59_6 ?_ | refine drg 7 b59_7 w59_7 ?_ | refine drg 15 b59_15 w59_15 ?_ | refine drg 24 b59_24 w59_24 ?_)
    exact outR ⟨rfl, by omega, n + 7, by omega, by omega, tr, tr, kx⟩
  · repeat (first | refine go ?_ | refine drg 6 b59_6 w59_6 ?_ | refine drg 7 b59_7 w59_7 ?_ | refine drg 15 b59_15 w59_15 ?_ | refine drg 24 b59_24 w59_24 ?_)
    exact outR ⟨rfl, by omega, n + 7, by omega, by omega, tr, tr, kx⟩
/-- The first one. -/
theorem add_0 {S Y : List AV} {H : List UInt8} {x s : Nat} {p hd : Int} (hp : p = -1) (hS : S.length = 21) (fS : freeAll S = true) (hY : Y.length = 21) (fY : freeAll Y = true) (h1 : H.length = 32) (hx : x = 1)
    (C1 : PCalls Tryz.prog 128 [.q (S ++ [.ro true [] 0, .i .i64 hd]) 0, .i .i64 p] (.b false)) (C2 : PCalls Tryz.prog 130 [.agg [.i .i64 p, .i .i64 (x : Int), .i .i64 (s : Int), .ro true [] 0]] (.i .i64 0)) (C3 : PCalls Tryz.prog 131 [.agg [.i .u8 0, .i .u8 0, .i .u8 0, .i .u8 0, .i .u8 0, .i .u8 0, .i .u8 0, .i .u8 0, .i .u8 0, .i .u8 0, .i .u8 0, .i .u8 0, .i .u8 0, .i .u8 0, .i .u8 0, .i .u8 0, .i .u8 0, .i .u8 0, .i .u8 0, .i .u8 0, .i .u8 0, .i .u8 0, .i .u8 0, .i .u8 0, .i .u8 0, .i .u8 0, .i .u8 0, .i .u8 0, .i .u8 0, .i .u8 0, .i .u8 0, .i .u8 0], .agg [.i .i64 p, .i .i64 (x : Int), .i .i64 (s : Int), .ro true [] 0]] (.tup [.agg (cellsB H), .i .i64 0]))
    (T : PCalls Tryz.prog 31 [.agg S] (.agg Y)) (C4 : PCalls Tryz.prog 132 [.q (S ++ [.ro false (AV.i .i64 p :: .i .i64 (x : Int) :: .i .i64 (s : Int) :: .ro true [] 0 :: (cellsB H ++ (Y ++ [.ro true [] 0]))) 1, .i .i64 hd]) 0, .i .i64 0] (.b true))
    {h : Heap} {n jl ja : Nat} (jn : jl < n) (hl : h jl = some (.cells (S ++ [.ro true [] 0, .i .i64 hd]))) : DRel Tryz.prog 59 [.p jl 0, .agg [.i .i64 p, .i .i64 (x : Int), .i .i64 (s : Int), .ro true [] 0]] h n (AddedB h n jl ja S (AV.i .i64 p :: .i .i64 (x : Int) :: .i .i64 (s : Int) :: .ro true [] 0 :: (cellsB H ++ (Y ++ [.ro true [] 0]))) 0 0) := by
  have F := st_facts hS
  have FY := st_facts hY
  have FH := h_facts h1
  have ap1 := apt jn
  have w1 : ((x : Int) != 1) = false := by rw [hx]; rfl
  have b4 : (p != -1) = false := by rw [hp]; decide
  have t54 : List.take 54 (cellsB H ++ (Y ++ [.ro true [] 0])) = cellsB H ++ (Y ++ [.ro true [] 0]) := List.take_of_length_le (by simp only [push_cast, *]; try omega)
  clear hp hx
  refine DRel.of Tryz.func59 rfl (by decide) (Nat.le_of_ble_eq_true rfl) ?_
  repeat (first | refine go ?_ | refine drg 6 b59_6 w59_6 ?_ | refine drg 7 b59_7 w59_7 ?_ | refine drg 15 b59_15 w59_15 ?_ | refine drg 24 b59_24 w59_24 ?_)
  refine AWr.loop 1 ?_
  repeat (first | refine go ?_ | refine drg 6 b59_6 w59_6 ?_ | refine drg 7 b59_7 w59_7 ?_ | refine drg 15 b59_15 w59_15 ?_ | refine drg 24 b59_24 w59_24 ?_)
  exact outR ⟨rfl, by omega, n + 6, by omega, by omega, tr, tr, kx⟩
/-- A further one without a parent. -/
theorem add_r {S EC Y : List AV} {H : List UInt8} {N x s : Nat} {p hd : Int} (hp : p = -1) (hS : S.length = 21) (fS : freeAll S = true) (lE : EC.length = N * 58) (fE : freeAll EC = true) (hN : N < 4000) (hY : Y.length = 21) (fY : freeAll Y = true) (h1 : H.length = 32) (hx : x = 1)
    (C1 : PCalls Tryz.prog 128 [.q (S ++ [.ro false EC N, .i .i64 hd]) 0, .i .i64 p] (.b false)) (C2 : PCalls Tryz.prog 130 [.agg [.i .i64 p, .i .i64 (x : Int), .i .i64 (s : Int), .ro true [] 0]] (.i .i64 0)) (C3 : PCalls Tryz.prog 131 [.agg [.i .u8 0, .i .u8 0, .i .u8 0, .i .u8 0, .i .u8 0, .i .u8 0, .i .u8 0, .i .u8 0, .i .u8 0, .i .u8 0, .i .u8 0, .i .u8 0, .i .u8 0, .i .u8 0, .i .u8 0, .i .u8 0, .i .u8 0, .i .u8 0, .i .u8 0, .i .u8 0, .i .u8 0, .i .u8 0, .i .u8 0, .i .u8 0, .i .u8 0, .i .u8 0, .i .u8 0, .i .u8 0, .i .u8 0, .i .u8 0, .i .u8 0, .i .u8 0], .agg [.i .i64 p, .i .i64 (x : Int), .i .i64 (s : Int), .ro true [] 0]] (.tup [.agg (cellsB H), .i .i64 0]))
    (T : PCalls Tryz.prog 31 [.agg S] (.agg Y)) {bt : Bool} (C4 : PCalls Tryz.prog 132 [.q (S ++ [.ro false (EC ++ (AV.i .i64 p :: .i .i64 (x : Int) :: .i .i64 (s : Int) :: .ro true [] 0 :: (cellsB H ++ (Y ++ [.ro true [] 0])))) (N + 1), .i .i64 hd]) 0, .i .i64 (N : Int)] (.b bt))
    {h : Heap} {n jl ja : Nat} (jn : jl < n) (an : ja < n) (hne : (ja = jl) = False) (hne' : (jl = ja) = False) (hl : h jl = some (.cells (S ++ [.sl 58 ja 0 N, .i .i64 hd]))) (ha : h ja = some (.cells EC)) : DRel Tryz.prog 59 [.p jl 0, .agg [.i .i64 p, .i .i64 (x : Int), .i .i64 (s : Int), .ro true [] 0]] h n (AddedB h n jl ja S (EC ++ (AV.i .i64 p :: .i .i64 (x : Int) :: .i .i64 (s : Int) :: .ro true [] 0 :: (cellsB H ++ (Y ++ [.ro true [] 0])))) N (if bt then (N : Int) else hd)) := by
  have F := st_facts hS
  have FY := st_facts hY
  have FH := h_facts h1
  have ap1 := apt jn
  have ap2 := apt an
  have w1 : ((x : Int) != 1) = false := by rw [hx]; rfl
  have w2 : IntKind.wrap .i64 ((N : Int) + 1 - 1) = (N : Int) := by rw [Int.add_sub_cancel]; exact IntWalk.i64_in _ (by omega)
  have b3 : ((N : Int) ≥ 4000) = False := eq_false (by omega)
  have b4 : (p != -1) = false := by rw [hp]; decide
  have tE : List.take (N * 58) EC = EC := List.take_of_length_le (by omega)
  have b5 : ((N + 1) * 320 ≤ 140737488355328) = True := eq_true (by omega)
  have b6 : (N ≤ 9223372036854775806) = True := eq_true (by omega)
  have b7 : ((N + 1) * 58 ≤ N * 58 + 58) = True := eq_true (by omega)
  have lEE : (EC ++ (AV.i .i64 p :: .i .i64 (x : Int) :: .i .i64 (s : Int) :: .ro true [] 0 :: (cellsB H ++ (Y ++ [.ro true [] 0])))).length = (N + 1) * 58 := by simp only [push_cast, *]; try omega
  have t54 : List.take 54 (cellsB H ++ (Y ++ [.ro true [] 0])) = cellsB H ++ (Y ++ [.ro true [] 0]) := List.take_of_length_le (by simp only [push_cast, *]; try omega)
  have tEE : List.take ((N + 1) * 58) (EC ++ (AV.i .i64 p :: .i .i64 (x : Int) :: .i .i64 (s : Int) :: .ro true [] 0 :: (cellsB H ++ (Y ++ [.ro true [] 0])))) = EC ++ (AV.i .i64 p :: .i .i64 (x : Int) :: .i .i64 (s : Int) :: .ro true [] 0 :: (cellsB H ++ (Y ++ [.ro true [] 0]))) := List.take_of_length_le (by omega)
  clear hp hx lEE
  refine DRel.of Tryz.func59 rfl (by decide) (Nat.le_of_ble_eq_true rfl) ?_
  repeat (first | refine go ?_ | refine drg 6 b59_6 w59_6 ?_ | refine drg 7 b59_7 w59_7 ?_ | refine drg 15 b59_15 w59_15 ?_ | refine drg 24 b59_24 w59_24 ?_)
  refine AWr.loop 1 ?_
  repeat (first | refine go ?_ | refine drg 6 b59_6 w59_6 ?_ | refine drg 7 b59_7 w59_7 ?_ | refine drg 15 b59_15 w59_15 ?_ | refine drg 24 b59_24 w59_24 ?_)
  cases bt
  · repeat (first | refine go ?_ | refine drg 6 b59_6 w59_6 ?_ | refine drg 7 b59_7 w59_7 ?_ | refine drg 15 b59_15 w59_15 ?_ | refine drg 24 b59_24 w59_24 ?_)
    exact outR ⟨rfl, by omega, n + 6, by omega, by omega, tr, tr, kx⟩
  · repeat (first | refine go ?_ | refine drg 6 b59_6 w59_6 ?_ | refine drg 7 b59_7 w59_7 ?_ | refine drg 15 b59_15 w59_15 ?_ | refine drg 24 b59_24 w59_24 ?_)
    exact outR ⟨rfl, by omega, n + 6, by omega, by omega, tr, tr, kx⟩

end Go.Proofs.YtmkefpjpghmonaaGreat
