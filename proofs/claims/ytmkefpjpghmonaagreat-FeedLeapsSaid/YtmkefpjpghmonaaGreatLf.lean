import Derived.Test.YtmkefpjpghmonaaGreatLe
namespace Go.Proofs.YtmkefpjpghmonaaGreat
open Go.Av
set_option maxRecDepth 100000
set_option maxHeartbeats 1000000
set_option linter.unusedSimpArgs false
set_option linter.unusedVariables false

/-! ### the curve's sums -/
def addp (a b : Nat) : Nat := (a + b) % P0
def subp (a b : Nat) : Nat := (a + (P0 - b % P0)) % P0
def mulp (a b : Nat) : Nat := a * b % P0
theorem P0_lt : P0 < M256 ∧ 0 < P0 := by decide
theorem addp_lt (a b : Nat) : addp a b < M256 := Nat.lt_trans (Nat.mod_lt _ P0_lt.2) P0_lt.1
theorem subp_lt (a b : Nat) : subp a b < M256 := Nat.lt_trans (Nat.mod_lt _ P0_lt.2) P0_lt.1
theorem mulp_lt (a b : Nat) : mulp a b < M256 := Nat.lt_trans (Nat.mod_lt _ P0_lt.2) P0_lt.1
instance (a b : Nat) : Bd (addp a b) M256 := ⟨addp_lt a b⟩
instance (a b : Nat) : Bd (subp a b) M256 := ⟨subp_lt a b⟩
instance (a b : Nat) : Bd (mulp a b) M256 := ⟨mulp_lt a b⟩
theorem l288 (a b : Nat) [Bd a M256] [Bd b M256] : PCalls Tryz.prog 288 [.agg (numC a), .agg (numC b)] (.agg (numC (addp a b))) := by
  have A := l316 0 a b
  rw [m0] at A
  have A : PCalls Tryz.prog 316 [.i .i64 0, .agg (numC a), .agg (numC b)] (.agg (numC (addp a b))) := A
  refine pof Tryz.func288 fun h n => ?_
  refine go ?_
  exact outP
instance (a b : Nat) [Bd a M256] [Bd b M256] : Ct Tryz.prog 288 [.agg (numC a), .agg (numC b)] (.agg (numC (addp a b))) := ⟨l288 a b⟩
theorem l286 (a b : Nat) [Bd a M256] [Bd b M256] : PCalls Tryz.prog 286 [.agg (numC a), .agg (numC b)] (.agg (numC (subp a b))) := by
  have A := l315 0 a b
  rw [m0] at A
  have A : PCalls Tryz.prog 315 [.i .i64 0, .agg (numC a), .agg (numC b)] (.agg (numC (subp a b))) := A
  refine pof Tryz.func286 fun h n => ?_
  refine go ?_
  exact outP
instance (a b : Nat) [Bd a M256] [Bd b M256] : Ct Tryz.prog 286 [.agg (numC a), .agg (numC b)] (.agg (numC (subp a b))) := ⟨l286 a b⟩
theorem l284 (a b : Nat) [Bd a M256] [Bd b M256] : PCalls Tryz.prog 284 [.agg (numC a), .agg (numC b)] (.agg (numC (mulp a b))) := by
  have A := l314 0 a b
  rw [m0] at A
  have A : PCalls Tryz.prog 314 [.i .i64 0, .agg (numC a), .agg (numC b)] (.agg (numC (mulp a b))) := A
  refine pof Tryz.func284 fun h n => ?_
  refine go ?_
  exact outP
instance (a b : Nat) [Bd a M256] [Bd b M256] : Ct Tryz.prog 284 [.agg (numC a), .agg (numC b)] (.agg (numC (mulp a b))) := ⟨l284 a b⟩
def rightN (x : Nat) : Nat := addp (mulp (mulp x x) x) 7
instance (x : Nat) : Bd (rightN x) M256 := ⟨addp_lt _ _⟩
def b285_1 : List Nat := [0, 0, 3, 0, 15, 0, 63, 127]
def w285_1 : List Nat := [7]
theorem l285 (x : Nat) [Bd x M256] : PCalls Tryz.prog 285 [.agg (numC x)] (.agg (numC (rightN x))) := by
  refine pof Tryz.func285 fun h n => ?_
  repeat (first | refine go ?_ | refine drg 1 b285_1 w285_1 ?_)
  exact outP
instance (x : Nat) [Bd x M256] : Ct Tryz.prog 285 [.agg (numC x)] (.agg (numC (rightN x))) := ⟨l285 x⟩
/-! ### points as values -/
theorem take_n8 (a : Nat) (l : List AV) : (numC a ++ l).take 8 = numC a ++ l.take 4 := rfl
theorem take_n12 (a : Nat) (l : List AV) : (numC a ++ l).take 12 = numC a ++ l.take 8 := rfl
theorem drop_n8 (a : Nat) (l : List AV) : (numC a ++ l).drop 8 = l.drop 4 := rfl
theorem drop_n12 (a : Nat) (l : List AV) : (numC a ++ l).drop 12 = l.drop 8 := rfl
theorem splice_num2 (cs : List AV) (off a : Nat) (l : List AV) : splice cs off (numC a ++ l) = cs.take off ++ (numC a ++ l) ++ cs.drop (off + (numC a ++ l).length) := rfl
attribute [push_cast] take_n8 take_n12 drop_n8 drop_n12 splice_num2 List.append_assoc List.nil_append List.append_nil List.length_append List.length_cons List.length_nil List.drop_succ_cons List.drop_zero List.take_succ_cons List.take_zero List.drop_nil List.take_nil
structure J where
  x : Nat
  y : Nat
  z : Nat
structure J.ok (a : J) : Prop where
  x : a.x < M256
  y : a.y < M256
  z : a.z < M256
def jC (a : J) : List AV := numC a.x ++ (numC a.y ++ numC a.z)
theorem jC_inj {a b : J} (ha : a.ok) (hb : b.ok) (h : jC a = jC b) : a = b := by
  obtain ⟨h1, h2⟩ := List.append_inj h rfl
  obtain ⟨h2, h3⟩ := List.append_inj h2 rfl
  have e1 := numC_inj ha.x hb.x h1
  have e2 := numC_inj ha.y hb.y h2
  have e3 := numC_inj ha.z hb.z h3
  cases a; cases b
  simp only at e1 e2 e3
  subst e1 e2 e3
  rfl
/-- A point. -/
structure Pn where
  inf : Bool
  x : Nat
  y : Nat
  deriving DecidableEq
structure Pn.ok (a : Pn) : Prop where
  x : a.x < M256
  y : a.y < M256
def ptC (a : Pn) : List AV := .b a.inf :: (numC a.x ++ numC a.y)
theorem ptC_inj {a b : Pn} (ha : a.ok) (hb : b.ok) (h : ptC a = ptC b) : a = b := by
  unfold ptC at h
  simp only [List.cons.injEq, AV.b.injEq] at h
  obtain ⟨h0, h⟩ := h
  obtain ⟨h1, h2⟩ := List.append_inj h rfl
  have e1 := numC_inj ha.x hb.x h1
  have e2 := numC_inj ha.y hb.y h2
  cases a; cases b
  simp only at e1 e2 h0
  subst e1 e2 h0
  rfl
def spreadN (p : Pn) : J := if p.inf then ⟨1, 1, 0⟩ else ⟨p.x, p.y, 1⟩
theorem jC_eq (a : J) : jC a = numC a.x ++ (numC a.y ++ numC a.z) := rfl
theorem ptC_eq (a : Pn) : ptC a = .b a.inf :: (numC a.x ++ numC a.y) := rfl
attribute [push_cast] jC_eq ptC_eq
theorem drop_numL (a b : Nat) : (numC a ++ numC b).drop 4 = numC b := rfl
theorem freeA_num (a : Nat) (l : List AV) : freeAll (numC a ++ l) = freeAll l := rfl
theorem freeA_num' (a : Nat) : freeAll (numC a) = true := rfl
theorem freeA_cons (x : AV) (l : List AV) : freeAll (x :: l) = (x.free && freeAll l) := rfl
attribute [push_cast] freeA_num freeA_num' 
class JOk (a : J) : Prop where
  ok : a.ok
class POk (p : Pn) : Prop where
  ok : p.ok
instance (a : J) [h : JOk a] : Bd a.x M256 := ⟨h.ok.x⟩
instance (a : J) [h : JOk a] : Bd a.y M256 := ⟨h.ok.y⟩
instance (a : J) [h : JOk a] : Bd a.z M256 := ⟨h.ok.z⟩
instance (a : Pn) [h : POk a] : Bd a.x M256 := ⟨h.ok.x⟩
instance (a : Pn) [h : POk a] : Bd a.y M256 := ⟨h.ok.y⟩
instance (x y z : Nat) [hx : Bd x M256] [hy : Bd y M256] [hz : Bd z M256] : JOk ⟨x, y, z⟩ := ⟨⟨hx.lt, hy.lt, hz.lt⟩⟩
instance (i : Bool) (x y : Nat) [hx : Bd x M256] [hy : Bd y M256] : POk ⟨i, x, y⟩ := ⟨⟨hx.lt, hy.lt⟩⟩
instance (p : Pn) [h : POk p] : JOk (spreadN p) := by
  unfold spreadN
  split <;> infer_instance
theorem l255 (i : Bool) (x y : Nat) : PCalls Tryz.prog 255 [.agg (.b i :: (numC x ++ numC y))] (.agg (jC (spreadN ⟨i, x, y⟩))) := by
  refine pof Tryz.func255 fun h n => ?_
  cases i with
  | true =>
    show AWp _ _ _ _ _ _ (Out _ _ _ _ (.agg (numC 1 ++ (numC 1 ++ numC 0))) _ _)
    refine go ?_
    exact outP
  | false =>
    show AWp _ _ _ _ _ _ (Out _ _ _ _ (.agg (numC x ++ (numC y ++ numC 1))) _ _)
    refine go ?_
    exact outP
instance (i : Bool) (x y : Nat) : Ct Tryz.prog 255 [.agg (.b i :: (numC x ++ numC y))] (.agg (jC (spreadN ⟨i, x, y⟩))) := ⟨l255 i x y⟩
theorem one_lt : 1 < M256 := by decide
theorem zero_lt : 0 < M256 := by decide
/-! ### twice -/
def twiceN (a : J) : J :=
  let yy := mulp a.y a.y
  let s0 := mulp a.x yy
  let s := addp (addp s0 s0) (addp s0 s0)
  let xx := mulp a.x a.x
  let m := addp (addp xx xx) xx
  let x := subp (mulp m m) (addp s s)
  let y0 := mulp yy yy
  let y4 := addp (addp y0 y0) (addp y0 y0)
  let y := subp (mulp m (subp s x)) (addp y4 y4)
  let z0 := mulp a.y a.z
  ⟨x, y, addp z0 z0⟩
theorem twiceN_ok (a : J) : (twiceN a).ok := ⟨subp_lt _ _, subp_lt _ _, addp_lt _ _⟩
instance (a : J) : JOk (twiceN a) := ⟨twiceN_ok a⟩
def b287_3 : List Nat := [0, 0, 3, 0, 0, 31, 63, 127]
def w287_3 : List Nat := [7]
def b287_5 : List Nat := [0, 0, 3, 0, 15, 0, 63]
def w287_5 : List Nat := [6]
def b287_6 : List Nat := [0, 0, 3, 0, 0, 31, 63, 0, 255]
def w287_6 : List Nat := [8]
def b287_8 : List Nat := [0, 0, 3, 0, 0, 31, 63, 127]
def w287_8 : List Nat := [7]
def b287_9 : List Nat := [0, 0, 0, 6, 15, 0, 0, 127, 255, 0, 1023]
def w287_9 : List Nat := [10]
def b287_11 : List Nat := [0, 0, 0, 0, 12, 31, 63]
def w287_11 : List Nat := [6]
theorem l287 (x y z : Nat) [Bd x M256] [Bd y M256] [Bd z M256] : PCalls Tryz.prog 287 [.agg (numC x ++ (numC y ++ numC z))] (.agg (jC (twiceN ⟨x, y, z⟩))) := by
  refine pof Tryz.func287 fun h n => ?_
  repeat (first | refine go ?_ | refine drg 3 b287_3 w287_3 ?_ | refine drg 5 b287_5 w287_5 ?_ | refine drg 6 b287_6 w287_6 ?_ | refine drg 8 b287_8 w287_8 ?_ | refine drg 9 b287_9 w287_9 ?_ | refine drg 11 b287_11 w287_11 ?_)
  exact outP
instance (x y z : Nat) [Bd x M256] [Bd y M256] [Bd z M256] : Ct Tryz.prog 287 [.agg (numC x ++ (numC y ++ numC z))] (.agg (jC (twiceN ⟨x, y, z⟩))) := ⟨l287 x y z⟩
/-! ### plus -/
def plusN (a b : J) : J :=
  if a.z = 0 then b else if b.z = 0 then a else
  let za := mulp a.z a.z
  let zb := mulp b.z b.z
  let ua := mulp a.x zb
  let ub := mulp b.x za
  let sa := mulp a.y (mulp zb b.z)
  let sb := mulp b.y (mulp za a.z)
  let h := subp ub ua
  let r := subp sb sa
  if h = 0 then (if r = 0 then twiceN a else ⟨1, 1, 0⟩) else
  let hh := mulp h h
  let hhh := mulp hh h
  let v := mulp ua hh
  let x := subp (subp (mulp r r) hhh) (addp v v)
  let y := subp (mulp r (subp v x)) (mulp sa hhh)
  ⟨x, y, mulp h (mulp a.z b.z)⟩
theorem plusN_ok {a b : J} (ha : a.ok) (hb : b.ok) : (plusN a b).ok := by
  unfold plusN
  split
  · exact hb
  · split
    · exact ha
    · dsimp only
      split
      · split
        · exact twiceN_ok a
        · exact ⟨one_lt, one_lt, zero_lt⟩
      · exact ⟨subp_lt _ _, subp_lt _ _, mulp_lt _ _⟩
instance (a b : J) [ha : JOk a] [hb : JOk b] : JOk (plusN a b) := ⟨plusN_ok ha.ok hb.ok⟩
def b256_6 : List Nat := [0, 1, 0, 4, 15, 0, 32, 0, 128, 511, 0, 0, 4095, 8191]
def w256_6 : List Nat := [12, 13]
def b256_7 : List Nat := [0, 1, 0, 7, 0, 16, 0, 127, 0, 0, 1023, 2047]
def w256_7 : List Nat := [10, 11]
def b256_8 : List Nat := [0, 1, 0, 0, 8, 28, 63, 0, 128, 0, 0, 1024, 3711, 8191, 0, 0, 65535, 131071]
def w256_8 : List Nat := [16, 17]
def b256_9 : List Nat := [0, 0, 3, 0, 0, 31, 0, 0, 255, 511]
def w256_9 : List Nat := [8, 9]
def b256_15 : List Nat := [0, 0, 3, 0, 0, 31, 0, 0, 255, 511]
def w256_15 : List Nat := [8, 9]
def b256_16 : List Nat := [0, 0, 3, 0, 15, 0, 0, 127, 255, 0, 1023]
def w256_16 : List Nat := [10]
def b256_17 : List Nat := [0, 0, 0, 6, 15, 0, 0, 127, 255, 0, 1023]
def w256_17 : List Nat := [10]
def b256_18 : List Nat := [0, 0, 0, 0, 8, 0, 32, 120, 252, 511, 1023]
def w256_18 : List Nat := [10]
set_option maxHeartbeats 8000000 in
theorem l256 (ax ay az bx by_ bz : Nat) [hax : Bd ax M256] [hay : Bd ay M256] [haz : Bd az M256] [hbx : Bd bx M256] [hby : Bd by_ M256] [hbz : Bd bz M256] : PCalls Tryz.prog 256 [.agg (numC ax ++ (numC ay ++ numC az)), .agg (numC bx ++ (numC by_ ++ numC bz))] (.agg (jC (plusN ⟨ax, ay, az⟩ ⟨bx, by_, bz⟩))) := by
  have GE : ∀ a, a < M256 → aeq Tryz.prog 10000 33 (.agg (numC a)) (.agg (numC 0)) = some (decide (a = 0)) := fun a ha => aeq_num ha zero_lt
  obtain ⟨za, e_za⟩ : ∃ v, mulp az az = v := ⟨_, rfl⟩
  haveI h_za : Bd za M256 := by rw [← e_za]; infer_instance
  obtain ⟨zb, e_zb⟩ : ∃ v, mulp bz bz = v := ⟨_, rfl⟩
  haveI h_zb : Bd zb M256 := by rw [← e_zb]; infer_instance
  obtain ⟨ua, e_ua⟩ : ∃ v, mulp ax zb = v := ⟨_, rfl⟩
  haveI h_ua : Bd ua M256 := by rw [← e_ua]; infer_instance
  obtain ⟨ub, e_ub⟩ : ∃ v, mulp bx za = v := ⟨_, rfl⟩
  haveI h_ub : Bd ub M256 := by rw [← e_ub]; infer_instance
  obtain ⟨wa, e_wa⟩ : ∃ v, mulp zb bz = v := ⟨_, rfl⟩
  haveI h_wa : Bd wa M256 := by rw [← e_wa]; infer_instance
  obtain ⟨sa, e_sa⟩ : ∃ v, mulp ay wa = v := ⟨_, rfl⟩
  haveI h_sa : Bd sa M256 := by rw [← e_sa]; infer_instance
  obtain ⟨wb, e_wb⟩ : ∃ v, mulp za az = v := ⟨_, rfl⟩
  haveI h_wb : Bd wb M256 := by rw [← e_wb]; infer_instance
  obtain ⟨sb, e_sb⟩ : ∃ v, mulp by_ wb = v := ⟨_, rfl⟩
  haveI h_sb : Bd sb M256 := by rw [← e_sb]; infer_instance
  obtain ⟨hd, e_hd⟩ : ∃ v, subp ub ua = v := ⟨_, rfl⟩
  haveI h_hd : Bd hd M256 := by rw [← e_hd]; infer_instance
  obtain ⟨rd, e_rd⟩ : ∃ v, subp sb sa = v := ⟨_, rfl⟩
  haveI h_rd : Bd rd M256 := by rw [← e_rd]; infer_instance
  have eP : plusN ⟨ax, ay, az⟩ ⟨bx, by_, bz⟩ = if az = 0 then ⟨bx, by_, bz⟩ else if bz = 0 then ⟨ax, ay, az⟩ else if hd = 0 then (if rd = 0 then twiceN ⟨ax, ay, az⟩ else ⟨1, 1, 0⟩) else ⟨subp (subp (mulp rd rd) (mulp (mulp hd hd) hd)) (addp (mulp ua (mulp hd hd)) (mulp ua (mulp hd hd))), subp (mulp rd (subp (mulp ua (mulp hd hd)) (subp (subp (mulp rd rd) (mulp (mulp hd hd) hd)) (addp (mulp ua (mulp hd hd)) (mulp ua (mulp hd hd)))))) (mulp sa (mulp (mulp hd hd) hd)), mulp hd (mulp az bz)⟩ := by
    subst e_rd e_hd e_sb e_wb e_sa e_wa e_ub e_ua e_zb e_za
    rfl
  rw [eP]
  clear eP
  have f1 := GE az haz.lt
  have f2 := GE bz hbz.lt
  have f3 := GE hd h_hd.lt
  have f4 := GE rd h_rd.lt
  clear GE
  refine pof Tryz.func256 fun h n => ?_
  by_cases c1 : az = 0
  · rw [if_pos c1]
    rw [decide_eq_true c1] at f1
    clear c1
    repeat (first | refine go ?_ | refine drg 6 b256_6 w256_6 ?_ | refine drg 7 b256_7 w256_7 ?_ | refine drg 8 b256_8 w256_8 ?_ | refine drg 9 b256_9 w256_9 ?_ | refine drg 15 b256_15 w256_15 ?_ | refine drg 16 b256_16 w256_16 ?_ | refine drg 17 b256_17 w256_17 ?_ | refine drg 18 b256_18 w256_18 ?_)
    exact outP
  · rw [if_neg c1]
    rw [decide_eq_false c1] at f1
    clear c1
    by_cases c2 : bz = 0
    · rw [if_pos c2]
      rw [decide_eq_true c2] at f2
      clear c2
      repeat (first | refine go ?_ | refine drg 6 b256_6 w256_6 ?_ | refine drg 7 b256_7 w256_7 ?_ | refine drg 8 b256_8 w256_8 ?_ | refine drg 9 b256_9 w256_9 ?_ | refine drg 15 b256_15 w256_15 ?_ | refine drg 16 b256_16 w256_16 ?_ | refine drg 17 b256_17 w256_17 ?_ | refine drg 18 b256_18 w256_18 ?_)
      exact outP
    · rw [if_neg c2]
      rw [decide_eq_false c2] at f2
      clear c2
      by_cases c3 : hd = 0
      · rw [if_pos c3]
        rw [decide_eq_true c3] at f3
        clear c3
        by_cases c4 : rd = 0
        · rw [if_pos c4]
          rw [decide_eq_true c4] at f4
          clear c4
          repeat (first | refine go ?_ | refine drg 6 b256_6 w256_6 ?_ | refine drg 7 b256_7 w256_7 ?_ | refine drg 8 b256_8 w256_8 ?_ | refine drg 9 b256_9 w256_9 ?_ | refine drg 15 b256_15 w256_15 ?_ | refine drg 16 b256_16 w256_16 ?_ | refine drg 17 b256_17 w256_17 ?_ | refine drg 18 b256_18 w256_18 ?_)
          exact outP
        · rw [if_neg c4]
          rw [decide_eq_false c4] at f4
          clear c4
          repeat (first | refine go ?_ | refine drg 6 b256_6 w256_6 ?_ | refine drg 7 b256_7 w256_7 ?_ | refine drg 8 b256_8 w256_8 ?_ | refine drg 9 b256_9 w256_9 ?_ | refine drg 15 b256_15 w256_15 ?_ | refine drg 16 b256_16 w256_16 ?_ | refine drg 17 b256_17 w256_17 ?_ | refine drg 18 b256_18 w256_18 ?_)
          exact outP
      · rw [if_neg c3]
        rw [decide_eq_false c3] at f3
        clear c3
        repeat (first | refine go ?_ | refine drg 6 b256_6 w256_6 ?_ | refine drg 7 b256_7 w256_7 ?_ | refine drg 8 b256_8 w256_8 ?_ | refine drg 9 b256_9 w256_9 ?_ | refine drg 15 b256_15 w256_15 ?_ | refine drg 16 b256_16 w256_16 ?_ | refine drg 17 b256_17 w256_17 ?_ | refine drg 18 b256_18 w256_18 ?_)
        exact outP
instance (ax ay az bx by_ bz : Nat) [Bd ax M256] [Bd ay M256] [Bd az M256] [Bd bx M256] [Bd by_ M256] [Bd bz M256] : Ct Tryz.prog 256 [.agg (numC ax ++ (numC ay ++ numC az)), .agg (numC bx ++ (numC by_ ++ numC bz))] (.agg (jC (plusN ⟨ax, ay, az⟩ ⟨bx, by_, bz⟩))) := ⟨l256 ax ay az bx by_ bz⟩
/-! ### point -/
noncomputable def invp (z : Nat) : Nat := powm z (P0 - 2) P0
instance (a : Nat) : Bd (invp a) M256 := ⟨Nat.lt_trans (powm_lt _ _ _ P0_lt.2) P0_lt.1⟩
noncomputable def pointN (a : J) : Pn := if a.z = 0 then ⟨true, 0, 0⟩ else ⟨false, mulp a.x (mulp (invp a.z) (invp a.z)), mulp a.y (mulp (mulp (invp a.z) (invp a.z)) (invp a.z))⟩
instance (a : J) : POk (pointN a) := by
  unfold pointN
  split <;> infer_instance
def b257_5 : List Nat := [0, 1, 0, 7, 0, 16, 0, 0, 207, 511, 1023, 2047]
def w257_5 : List Nat := [11]
theorem l257 (x y z : Nat) [Bd x M256] [Bd y M256] [hz : Bd z M256] : PCalls Tryz.prog 257 [.agg (numC x ++ (numC y ++ numC z))] (.agg (ptC (pointN ⟨x, y, z⟩))) := by
  have GI := l289 0 z
  rw [m0] at GI
  have GI : PCalls Tryz.prog 289 [.i .i64 0, .agg (numC z)] (.agg (numC (invp z))) := GI
  have GE := aeq_num hz.lt zero_lt
  by_cases c1 : z = 0
  · rw [show pointN ⟨x, y, z⟩ = ⟨true, 0, 0⟩ from if_pos c1]
    rw [decide_eq_true c1] at GE
    clear c1
    refine pof Tryz.func257 fun h n => ?_
    repeat (first | refine go ?_ | refine drg 5 b257_5 w257_5 ?_)
    exact outP
  · rw [show pointN ⟨x, y, z⟩ = ⟨false, mulp x (mulp (invp z) (invp z)), mulp y (mulp (mulp (invp z) (invp z)) (invp z))⟩ from if_neg c1]
    rw [decide_eq_false c1] at GE
    clear c1
    refine pof Tryz.func257 fun h n => ?_
    repeat (first | refine go ?_ | refine drg 5 b257_5 w257_5 ?_)
    exact outP
instance (x y z : Nat) [Bd x M256] [Bd y M256] [Bd z M256] : Ct Tryz.prog 257 [.agg (numC x ++ (numC y ++ numC z))] (.agg (ptC (pointN ⟨x, y, z⟩))) := ⟨l257 x y z⟩

end Go.Proofs.YtmkefpjpghmonaaGreat
