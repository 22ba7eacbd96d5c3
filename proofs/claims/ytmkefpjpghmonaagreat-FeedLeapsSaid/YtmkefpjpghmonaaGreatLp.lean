import Derived.Test.YtmkefpjpghmonaaGreatLo
namespace Go.Proofs.YtmkefpjpghmonaaGreat
open Go.Av
set_option maxRecDepth 100000
set_option maxHeartbeats 1000000
set_option synthInstance.maxHeartbeats 400000
set_option synthInstance.maxSize 4000
set_option linter.unusedSimpArgs false
set_option linter.unusedVariables false

attribute [push_cast] frz frz_free'
theorem splice_two (cs : List AV) (off : Nat) (x y : AV) (l : List AV) : splice cs off (x :: y :: l) = cs.take off ++ (x :: y :: l) ++ cs.drop (off + (x :: y :: l).length) := rfl
attribute [push_cast] splice_two
/-! ### blocks without transactions -/
theorem l129 (p x s : Int) : PCalls Tryz.prog 129 [.agg [.i .i64 p, .i .i64 x, .i .i64 s, .ro true [] 0]] (.agg [.i .i64 p, .i .i64 x, .i .i64 s, .ro true [] 0]) := by
  have C := l195n
  refine pof Tryz.func129 fun h n => ?_
  repeat (first | refine go ?_ | refine drg 5 b129_5 w129_5 ?_)
  refine AWr.loop 1 ?_
  repeat (first | refine go ?_ | refine drg 5 b129_5 w129_5 ?_)
  exact outP
instance (p x s : Int) : Ct Tryz.prog 129 [.agg [.i .i64 p, .i .i64 x, .i .i64 s, .ro true [] 0]] (.agg [.i .i64 p, .i .i64 x, .i .i64 s, .ro true [] 0]) := ⟨l129 p x s⟩
structure BlkOk (p : Int) (x s : Nat) : Prop where
  p : -1 ≤ p
  x : 1 ≤ x ∧ x ≤ 1048576
  s : s ≤ 1073741824
theorem l130 {p : Int} {x s : Nat} (h : BlkOk p x s) : PCalls Tryz.prog 130 [.agg [.i .i64 p, .i .i64 (x : Int), .i .i64 (s : Int), .ro true [] 0]] (.i .i64 0) := by
  obtain ⟨h1, h2, h3⟩ := h
  have a1 : (p < -1) = False := eq_false (by omega)
  have a2 : ((x : Int) < 1) = False := eq_false (by omega)
  have a3 : ((x : Int) > 1048576) = False := eq_false (by omega)
  have a4 : ((s : Int) < 0) = False := eq_false (by omega)
  have a5 : ((s : Int) > 1073741824) = False := eq_false (by omega)
  clear h1 h2 h3
  refine pof Tryz.func130 fun h n => ?_
  refine go ?_
  refine AWr.loop 1 ?_
  refine go ?_
  exact outP
def blkBytes (par : List UInt8) (x s : Nat) : List UInt8 := ((beL x 4 ++ beL s 4) ++ par) ++ beL 0 1
theorem blk_len (par : List UInt8) (x s : Nat) : (blkBytes par x s).length = par.length + 9 := by simp [blkBytes, beL_len]; omega
theorem l197 (par : List UInt8) (hp : par.length = 32) {p : Int} {x s : Nat} (h : BlkOk p x s) : FCalls Tryz.prog 197 [.agg (cellsB par), .agg [.i .i64 p, .i .i64 (x : Int), .i .i64 (s : Int), .ro true [] 0]] (fun m => .tup [.sl 1 m 0 (blkBytes par x s).length, .i .i64 0]) (cellsB (blkBytes par x s)) := by
  have K := l130 h
  obtain ⟨A1, e1⟩ : ∃ A, beL x 4 = A := ⟨_, rfl⟩
  obtain ⟨A2, e2⟩ : ∃ A, A1 ++ beL s 4 = A := ⟨_, rfl⟩
  obtain ⟨A3, e3⟩ : ∃ A, A2 ++ par = A := ⟨_, rfl⟩
  obtain ⟨A4, e4⟩ : ∃ A, A3 ++ beL 0 1 = A := ⟨_, rfl⟩
  have n1 : A1.length = 4 := by rw [← e1, beL_len]
  have n2 : A2.length = 8 := by rw [← e2, List.length_append, beL_len, n1]
  have n3 : A3.length = 40 := by rw [← e3, List.length_append, n2, hp]
  have E : blkBytes par x s = A4 := by unfold blkBytes; rw [e1, e2, e3, e4]
  rw [E]
  have C1 := l247_4n x (by have := h.x; omega) A1 e1
  have C2 := l247_4 A1 (by omega) s (by have := h.s; omega) A2 e2
  have C3 : FCalls Tryz.prog 247 [.ro false (cellsB A3) A3.length, .i .i64 0, .i .i64 1] (fun m => .tup [.sl 1 m 0 A4.length, .i .i64 0]) (cellsB A4) := l247_1 A3 (by omega) 0 (by decide) A4 e4
  have c3 : cellsB A2 ++ cellsB par = cellsB A3 := by rw [← e3, cellsB_app]
  have l3 : A2.length + 32 = A3.length := by omega
  have ft : (cellsB par).take 32 = cellsB par := List.take_of_length_le (by rw [len_cellsB, hp]; exact Nat.le_refl _)
  have q1 : (A3.length ≤ 140737488355328) = True := eq_true (by omega)
  have q2 : (A3.length ≤ 9223372036854775807) = True := eq_true (by omega)
  clear e1 e2 e3 e4 n1 n2 n3 E h
  refine fof Tryz.func197 fun h n => ?_
  refine go ?_
  refine AWr.loop 1 ?_
  refine go ?_
  exact outF (n + 5)
def hashN (par : List UInt8) (x s : Nat) : List UInt8 := sha (blkBytes par x s)
theorem hash_len (par : List UInt8) (x s : Nat) : (hashN par x s).length = 32 := sha_len _
theorem l131 (par : List UInt8) (hp : par.length = 32) {p : Int} {x s : Nat} (h : BlkOk p x s) : PCalls Tryz.prog 131 [.agg (cellsB par), .agg [.i .i64 p, .i .i64 (x : Int), .i .i64 (s : Int), .ro true [] 0]] (.tup [.agg (cellsB (hashN par x s)), .i .i64 0]) := by
  have C := l197 par hp h
  have hl := blk_len par x s
  unfold hashN
  obtain ⟨A, eA⟩ : ∃ A, blkBytes par x s = A := ⟨_, rfl⟩
  rw [eA] at C hl ⊢
  haveI : Lx A := ⟨by omega⟩
  have ls := sha_len A
  have ft : (cellsB par).take 32 = cellsB par := List.take_of_length_le (by rw [len_cellsB, hp]; exact Nat.le_refl _)
  have fs : (cellsB (sha A)).take 32 = cellsB (sha A) := List.take_of_length_le (by rw [len_cellsB, ls]; exact Nat.le_refl _)
  clear eA hl h
  refine pof Tryz.func131 fun h n => ?_
  refine go ?_
  exact outP
/-- Entries without transactions. -/
def Bare (es : List Ent) : Prop := ∀ e, e ∈ es → e.zt = true ∧ e.txc = [] ∧ e.nt = 0
def blkV (e : Ent) : AV := .agg [.i .i64 e.par, .i .i64 e.ht, .i .i64 e.salt, .ro true [] 0]
theorem l56 {S : List AV} {es : List Ent} (L : Lg S es) (hB : Bare es) (z : Bool) (hd : Int) (k : Nat) (hk : k < es.length) : PCalls Tryz.prog 56 [.q (ledC S z es hd) 0, .i .i64 (k : Int)] (.tup [blkV es[k], .i .i64 0]) := by
  have a := led21 L.hS z es hd
  have H := l128 L z hd k
  rw [show hasN es.length (k : Int) = true by simp [hasN]; omega] at H
  obtain ⟨e, he⟩ : ∃ e, es[k] = e := ⟨_, rfl⟩
  have F := ent_facts L hk e he
  have B := hB es[k] (List.getElem_mem hk)
  rw [he] at B ⊢
  obtain ⟨p, x, s, zt, tx, nt, hs, st, ze, er⟩ := e
  obtain ⟨rfl, rfl, rfl⟩ := B
  clear he
  refine pof Tryz.func56 fun h n => ?_
  refine go ?_
  exact outP
theorem l56n {S : List AV} {es : List Ent} (L : Lg S es) (z : Bool) (hd id : Int) (hi : hasN es.length id = false) : PCalls Tryz.prog 56 [.q (ledC S z es hd) 0, .i .i64 id] (.tup [.agg [.i .i64 0, .i .i64 0, .i .i64 0, .ro true [] 0], .i .i64 5]) := by
  have a := led21 L.hS z es hd
  have H := l128 L z hd id
  rw [hi] at H
  refine pof Tryz.func56 fun h n => ?_
  refine go ?_
  exact outP
theorem l57 {S : List AV} {es : List Ent} (L : Lg S es) (z : Bool) (hd : Int) : PCalls Tryz.prog 57 [.q (ledC S z es hd) 0] (.i .i64 hd) := by
  have a := led22 L.hS z es hd
  refine pof Tryz.func57 fun h n => ?_
  refine go ?_
  exact outP
/-! ### contracts that nobody has joined, and that have no money -/
def s0 (e x : Int) : List AV := .i .i64 0 :: .i .i64 0 :: .i .i64 e :: .i .i64 e :: .i .i64 e :: .i .i64 e :: .ro true [] 0 :: .i .i64 x :: .i .i64 1 :: .ro true [] 0 :: .ro true [] 0 :: .i .i64 0 :: .b true :: (numC 0 ++ numC 0)
theorem l86s (e x p : Int) : PCalls Tryz.prog 86 [.agg (.i .i64 0 :: .i .i64 0 :: .i .i64 e :: .i .i64 e :: .i .i64 e :: .i .i64 e :: .ro true [] 0 :: .i .i64 x :: .i .i64 p :: .ro true [] 0 :: .ro true [] 0 :: .i .i64 0 :: .b true :: (numC 0 ++ numC 0))] (.agg (.i .i64 0 :: .i .i64 0 :: .i .i64 e :: .i .i64 e :: .i .i64 e :: .i .i64 e :: .ro true [] 0 :: .i .i64 x :: .i .i64 p :: .ro true [] 0 :: .ro true [] 0 :: .i .i64 0 :: .b true :: (numC 0 ++ numC 0))) := by
  have C1 := l142n
  have C2 := l144n
  refine pof Tryz.func86 fun h n => ?_
  repeat (first | refine go ?_ | refine drg 8 b86_8 w86_8 ?_)
  refine AWr.loop 1 ?_
  repeat (first | refine go ?_ | refine drg 8 b86_8 w86_8 ?_)
  exact outP
theorem l84s (e : Int) (he : 0 ≤ e ∧ e ≤ 1048576) : PCalls Tryz.prog 84 [.agg [.i .i64 0, .i .i64 0, .i .i64 e, .i .i64 e, .i .i64 e, .i .i64 e, .ro true [] 0]] (.i .i64 0) :=
  l84t ⟨0, 0, e, e, e, e, true, []⟩ ⟨⟨Int.le_refl 0, (by decide : (0 : Int) < 64)⟩, ⟨Int.le_refl 0, (by decide : (0 : Int) ≤ 1099511627776)⟩, Nat.zero_le 16, ⟨he, ⟨Int.le_refl _, he.2⟩, ⟨Int.le_refl _, he.2⟩, ⟨Int.le_refl _, he.2⟩⟩, fun m hm => (by cases hm)⟩
theorem at_s (e x : Int) (h : x ≤ e) (h0 : 0 ≤ e) : atC ⟨0, 0, e, e, e, e, true, []⟩ x = 1 := if_pos (by rw [Int.max_def]; split <;> assumption)
theorem l85s (e x : Int) (h : x ≤ e) (h0 : 0 ≤ e) : PCalls Tryz.prog 85 [.agg [.i .i64 0, .i .i64 0, .i .i64 e, .i .i64 e, .i .i64 e, .i .i64 e, .ro true [] 0], .i .i64 x] (.i .i64 1) := by
  have := l85 ⟨0, 0, e, e, e, e, true, []⟩ x
  rw [at_s e x h h0] at this
  exact this
theorem l92s (e x : Int) (h : x ≤ e) (h0 : 0 ≤ e) (hx : 0 ≤ x ∧ x ≤ 1048576) : PCalls Tryz.prog 92 [.agg [.i .i64 0, .i .i64 0, .i .i64 e, .i .i64 e, .i .i64 e, .i .i64 e, .ro true [] 0], .i .i64 x] (.tup [.i .i64 1, .b false]) := by
  have A := l92 ⟨0, 0, e, e, e, e, true, []⟩ x (by omega)
  rw [at_s e x h h0, show begC ⟨0, 0, e, e, e, e, true, []⟩ x = false by unfold begC; rw [at_s e x h h0, at_s e (x - 1) (by omega) h0]; simp] at A
  exact A
theorem l93s (e x : Int) : PCalls Tryz.prog 93 [.agg (s0 e x)] (.b false) := by
  unfold s0
  refine pof Tryz.func93 fun h n => ?_
  refine go ?_
  exact outP
theorem l25s (e : Int) (he : 0 ≤ e ∧ e ≤ 1048576) : PCalls Tryz.prog 25 [.agg [.i .i64 0, .i .i64 0, .i .i64 e, .i .i64 e, .i .i64 e, .i .i64 e, .ro true [] 0]] (.tup [.agg (s0 e 0), .i .i64 0]) := by
  have A := l84s e he
  have B := l85s e 0 he.1 he.1
  have C := l86s e 0 1
  unfold s0
  refine pof Tryz.func25 fun h n => ?_
  refine go ?_
  exact outP
theorem l31s (e x : Int) (h0 : 0 ≤ e ∧ e ≤ 1048576) (hx : 0 ≤ x ∧ x + 1 ≤ e) : PCalls Tryz.prog 31 [.agg (s0 e x)] (.agg (s0 e (x + 1))) := by
  have A := l84s e h0
  have B := l86s e x 1
  have C := l92s e (x + 1) hx.2 h0.1 (by omega)
  have D := l93s e (x + 1)
  have w : IntKind.wrap .i64 (x + 1) = x + 1 := IntWalk.i64_in _ (by omega)
  have c1 : (x ≥ 1048576) = False := eq_false (by omega)
  unfold s0 at D ⊢
  clear hx h0
  refine pof Tryz.func31 fun h n => ?_
  refine go ?_
  exact outP

end Go.Proofs.YtmkefpjpghmonaaGreat
