import Derived.Test.YtmkefpjpghmonaaGreatLf
namespace Go.Proofs.YtmkefpjpghmonaaGreat
open Go.Av
set_option maxRecDepth 100000
set_option maxHeartbeats 1000000
set_option linter.unusedSimpArgs false
set_option linter.unusedVariables false

/-! ### points held against points -/
theorem aeq_rawP (i j : Bool) (a0 a1 a2 a3 a4 a5 a6 a7 b0 b1 b2 b3 b4 b5 b6 b7 : Int) : aeq Tryz.prog 10000 35 (.agg [.b i, .i .u64 a0, .i .u64 a1, .i .u64 a2, .i .u64 a3, .i .u64 a4, .i .u64 a5, .i .u64 a6, .i .u64 a7]) (.agg [.b j, .i .u64 b0, .i .u64 b1, .i .u64 b2, .i .u64 b3, .i .u64 b4, .i .u64 b5, .i .u64 b6, .i .u64 b7]) = some ((i == j) && ((a0 == b0 && (a1 == b1 && (a2 == b2 && (a3 == b3 && true)))) && ((a4 == b4 && (a5 == b5 && (a6 == b6 && (a7 == b7 && true)))) && true))) := by kernel_rfl
theorem num_beq {a b : Nat} (ha : a < M256) (hb : b < M256) : (((dg a 0 : Nat) : Int) == ((dg b 0 : Nat) : Int) && (((dg a 1 : Nat) : Int) == ((dg b 1 : Nat) : Int) && (((dg a 2 : Nat) : Int) == ((dg b 2 : Nat) : Int) && (((dg a 3 : Nat) : Int) == ((dg b 3 : Nat) : Int) && true)))) = decide (a = b) := by
  have h := aeq_num ha hb
  unfold numC at h
  rw [aeq_raw] at h
  exact Option.some.inj h
theorem aeq_pt (i j : Bool) (x y u v : Nat) [hx : Bd x M256] [hy : Bd y M256] [hu : Bd u M256] [hv : Bd v M256] : aeq Tryz.prog 10000 35 (.agg (.b i :: (numC x ++ numC y))) (.agg (.b j :: (numC u ++ numC v))) = some ((i == j) && (decide (x = u) && decide (y = v))) := by
  show aeq Tryz.prog 10000 35 (.agg [.b i, .i .u64 (dg x 0 : Nat), .i .u64 (dg x 1 : Nat), .i .u64 (dg x 2 : Nat), .i .u64 (dg x 3 : Nat), .i .u64 (dg y 0 : Nat), .i .u64 (dg y 1 : Nat), .i .u64 (dg y 2 : Nat), .i .u64 (dg y 3 : Nat)]) (.agg [.b j, .i .u64 (dg u 0 : Nat), .i .u64 (dg u 1 : Nat), .i .u64 (dg u 2 : Nat), .i .u64 (dg u 3 : Nat), .i .u64 (dg v 0 : Nat), .i .u64 (dg v 1 : Nat), .i .u64 (dg v 2 : Nat), .i .u64 (dg v 3 : Nat)]) = _
  rw [aeq_rawP, num_beq hx.lt hu.lt, num_beq hy.lt hv.lt, Bool.and_true]
theorem agg_inf (b : Bool) : AV.agg [.b b, .i .u64 0, .i .u64 0, .i .u64 0, .i .u64 0, .i .u64 0, .i .u64 0, .i .u64 0, .i .u64 0] = .agg (.b b :: (numC 0 ++ numC 0)) := rfl
theorem splice_pt (cs : List AV) (off : Nat) (b : Bool) (x y : Nat) : splice cs off (.b b :: (numC x ++ numC y)) = cs.take off ++ (.b b :: (numC x ++ numC y)) ++ cs.drop (off + 9) := rfl
attribute [push_cast] agg_inf aeq_num splice_pt
/-! ### Check -/
def chk (p : Pn) : Bool := if p.inf then decide (p.x = 0) && decide (p.y = 0) else decide (p.x < P0) && (decide (p.y < P0) && decide (mulp p.y p.y = rightN p.x))
def chkE (p : Pn) : Int := if chk p then 0 else 3
theorem cmp_ge (a b : Nat) : (decide (cmpN a b ≥ 0)) = !decide (a < b) := by
  unfold cmpN
  by_cases h : a < b
  · rw [if_pos h]; simp [h]
  · rw [if_neg h]; split <;> simp [h]
theorem pick_or (a b : Bool) : (if a = true then AV.b true else .b b) = .b (a || b) := by cases a <;> rfl
theorem pick_and (a b : Bool) : (if a = true then AV.b b else .b false) = .b (a && b) := by cases a <;> rfl
def b254_6 : List Nat := [0, 1, 0, 7, 15, 31, 63, 127, 63, 511, 1023, 2047, 4095, 8191, 16383, 8191, 40959, 131071, 8191, 270335, 1048575, 2097151, 4194303]
def w254_6 : List Nat := []
theorem l254 (i : Bool) (x y : Nat) [hx : Bd x M256] [hy : Bd y M256] : PCalls Tryz.prog 254 [.agg (.b i :: (numC x ++ numC y))] (.i .i64 (chkE ⟨i, x, y⟩)) := by
  cases i with
  | true =>
    have E := aeq_pt true true x y 0 0
    have R : chkE ⟨true, x, y⟩ = if (decide (x = 0) && decide (y = 0)) = true then 0 else 3 := rfl
    rw [R]
    clear R
    refine pof Tryz.func254 fun h n => ?_
    cases hz : (decide (x = 0) && decide (y = 0)) with
    | true =>
      rw [hz] at E
      clear hz
      show AWp _ _ _ _ _ _ (Out _ _ _ _ (.i .i64 0) _ _)
      repeat (first | refine go ?_ | refine drg 6 b254_6 w254_6 ?_)
      exact outP
    | false =>
      rw [hz] at E
      clear hz
      show AWp _ _ _ _ _ _ (Out _ _ _ _ (.i .i64 3) _ _)
      repeat (first | refine go ?_ | refine drg 6 b254_6 w254_6 ?_)
      exact outP
  | false =>
    have A := l272 0
    rw [m0] at A
    have C1 := cmp_ge x P0
    have C2 := cmp_ge y P0
    have E := aeq_num (a := mulp y y) (b := rightN x) (mulp_lt _ _) (addp_lt _ _)
    have R : chkE ⟨false, x, y⟩ = if (decide (x < P0) && (decide (y < P0) && decide (mulp y y = rightN x))) = true then 0 else 3 := rfl
    rw [R]
    clear R
    refine pof Tryz.func254 fun h n => ?_
    cases h1 : decide (x < P0) with
    | false =>
      rw [h1] at C1
      clear h1
      show AWp _ _ _ _ _ _ (Out _ _ _ _ (.i .i64 3) _ _)
      repeat (first | refine go ?_ | refine drg 6 b254_6 w254_6 ?_)
      exact outP
    | true =>
      rw [h1] at C1
      clear h1
      cases h2 : decide (y < P0) with
      | false =>
        rw [h2] at C2
        clear h2
        show AWp _ _ _ _ _ _ (Out _ _ _ _ (.i .i64 3) _ _)
        repeat (first | refine go ?_ | refine drg 6 b254_6 w254_6 ?_)
        exact outP
      | true =>
        rw [h2] at C2
        clear h2
        cases h3 : decide (mulp y y = rightN x) with
        | false =>
          rw [h3] at E
          clear h3
          show AWp _ _ _ _ _ _ (Out _ _ _ _ (.i .i64 3) _ _)
          repeat (first | refine go ?_ | refine drg 6 b254_6 w254_6 ?_)
          exact outP
        | true =>
          rw [h3] at E
          clear h3
          show AWp _ _ _ _ _ _ (Out _ _ _ _ (.i .i64 0) _ _)
          repeat (first | refine go ?_ | refine drg 6 b254_6 w254_6 ?_)
          exact outP
instance (i : Bool) (x y : Nat) [Bd x M256] [Bd y M256] : Ct Tryz.prog 254 [.agg (.b i :: (numC x ++ numC y))] (.i .i64 (chkE ⟨i, x, y⟩)) := ⟨l254 i x y⟩
/-! ### base -/
def GX : Nat := 55066263022277343669578718895168534326250603453777594175500187360389116729240
def GY : Nat := 32670510020758816978083085130507043184471273380659243275938904335757337482424
instance : Bd GX M256 := ⟨by decide⟩
instance : Bd GY M256 := ⟨by decide⟩
theorem agg_gx : AV.agg [.i .u64 6481385041966929816, .i .u64 188021827762530521, .i .u64 6170039885052185351, .i .u64 8772561819708210092] = .agg (numC GX) := by kernel_rfl
theorem agg_gy : AV.agg [.i .u64 11261198710074299576, .i .u64 18237243440184513561, .i .u64 6747795201694173352, .i .u64 5204712524664259685] = .agg (numC GY) := by kernel_rfl
attribute [push_cast] agg_gx agg_gy
theorem l304 : PCalls Tryz.prog 304 [] (.agg (.b false :: (numC GX ++ numC GY))) := by
  refine pof Tryz.func304 fun h n => ?_
  refine go ?_
  exact outP
instance : Ct Tryz.prog 304 [] (.agg (.b false :: (numC GX ++ numC GY))) := ⟨l304⟩
/-! ### times -/
/-- So many bits of n done, of m bits in all, from the top. -/
def accN (a : J) (n m : Nat) : Nat → J
  | 0 => ⟨1, 1, 0⟩
  | k + 1 => if n / 2 ^ (m - 1 - k) % 2 = 1 then plusN (twiceN (accN a n m k)) a else twiceN (accN a n m k)
instance accN_ok (a : J) [ha : JOk a] (n m : Nat) : ∀ k, JOk (accN a n m k)
  | 0 => ⟨⟨one_lt, one_lt, zero_lt⟩⟩
  | k + 1 => by
    unfold accN
    split <;> infer_instance
def timesN (a : J) (n : Nat) : J := accN a n (bl n) (bl n)
instance (a : J) [JOk a] (n : Nat) : JOk (timesN a n) := accN_ok a n _ _
theorem l305 (ax ay az e : Nat) [hax : Bd ax M256] [hay : Bd ay M256] [haz : Bd az M256] [he : Bd e M256] : PCalls Tryz.prog 305 [.agg (numC ax ++ (numC ay ++ numC az)), .agg (numC e)] (.agg (jC (timesN ⟨ax, ay, az⟩ e))) := by
  have he' := he.lt
  have hb := bl_le (x := e) (k := 256) (by unfold M256 at he'; simpa using he')
  have w0 : IntKind.wrap .i64 ((bl e : Int) - 1) = (bl e : Int) - 1 := IntWalk.i64_in _ (by omega)
  obtain ⟨F, eF⟩ : ∃ F, F = timesN ⟨ax, ay, az⟩ e := ⟨_, rfl⟩
  have HF : Hid _ := ⟨eF⟩
  rw [← eF]
  clear eF
  refine pof Tryz.func305 fun h n => ?_
  refine go ?_
  refine AWp.loop (fun mm t' h' n' => ∃ k : Nat, ∃ o : J, mm = k ∧ k ≤ bl e ∧ o.ok ∧ Hid (o = accN ⟨ax, ay, az⟩ e (bl e) (bl e - k)) ∧ t' 2 = .p n 0 ∧ t' 3 = .p (n + 1) 0 ∧ t' 4 = .p (n + 2) 0 ∧ t' 5 = .p (n + 3) 0 ∧ t' 6 = .i .i64 ((k : Int) - 1) ∧ h' n = some (.cells (numC ax ++ (numC ay ++ numC az))) ∧ h' (n + 1) = some (.cells (numC e)) ∧ h' (n + 2) = some (.cells (numC 0 ++ (numC 0 ++ numC 0))) ∧ h' (n + 3) = some (.cells (numC o.x ++ (numC o.y ++ numC o.z))) ∧ n + 4 ≤ n' ∧ Keeps n h h') (bl e) ?_ ?_
  · exact ⟨bl e, ⟨1, 1, 0⟩, rfl, Nat.le_refl _, ⟨one_lt, one_lt, zero_lt⟩, ⟨by rw [Nat.sub_self]; rfl⟩, tr, tr, tr, tr, tr, tr, tr, tr, tr, by omega, ks⟩
  · rintro mm t' h' n' - ⟨k, ⟨ox, oy, oz⟩, hmm, hk, om, Ho, t2, t3, t4, t5, t6, r0, r1, r2, r3, hn, kp⟩
    simp only at r3
    haveI : Bd ox M256 := ⟨om.x⟩
    haveI : Bd oy M256 := ⟨om.y⟩
    haveI : Bd oz M256 := ⟨om.z⟩
    by_cases hk0 : k = 0
    · subst hk0
      have e1 : F = ⟨ox, oy, oz⟩ := by rw [HF.get, Ho.get]; rfl
      rw [e1]
      clear e1 HF Ho hmm
      have g1 : ((((0 : Nat) : Int) - 1) ≥ 0) = False := by simp
      have g2 : (0 ≤ (((0 : Nat) : Int) - 1)) = False := by simp
      refine go ?_
      exact outP
    · obtain ⟨j, rfl⟩ : ∃ j, k = j + 1 := ⟨k - 1, by omega⟩
      obtain ⟨⟨ux, uy, uz⟩, eu⟩ : ∃ u, u = twiceN ⟨ox, oy, oz⟩ := ⟨_, rfl⟩
      have hu : (⟨ux, uy, uz⟩ : J).ok := by rw [eu]; exact twiceN_ok _
      haveI : Bd ux M256 := ⟨hu.x⟩
      haveI : Bd uy M256 := ⟨hu.y⟩
      haveI : Bd uz M256 := ⟨hu.z⟩
      obtain ⟨⟨vx, vy, vz⟩, ev⟩ : ∃ v, v = plusN ⟨ux, uy, uz⟩ ⟨ax, ay, az⟩ := ⟨_, rfl⟩
      have hv : (⟨vx, vy, vz⟩ : J).ok := by rw [ev]; exact plusN_ok hu ⟨hax.lt, hay.lt, haz.lt⟩
      have A := l287 ox oy oz
      rw [← eu] at A
      have B := l256 ux uy uz ax ay az
      rw [← ev] at B
      obtain ⟨z, ez⟩ : ∃ z, z = e / 2 ^ j % 2 := ⟨_, rfl⟩
      haveI : Bd j 256 := ⟨by omega⟩
      have E := l324 e j
      rw [← ez] at E
      have step : accN ⟨ax, ay, az⟩ e (bl e) (bl e - j) = if z = 1 then ⟨vx, vy, vz⟩ else ⟨ux, uy, uz⟩ := by
        rw [show bl e - j = (bl e - (j + 1)) + 1 by omega]
        unfold accN
        rw [← Ho.get, ← eu, ← ev, show bl e - 1 - (bl e - (j + 1)) = j by omega, ← ez]
      obtain ⟨x, ex⟩ : ∃ x : Int, x = ((j + 1 : Nat) : Int) - 1 := ⟨_, rfl⟩
      have ej : x = (j : Int) := by omega
      rw [← ex, ej] at t6
      clear ex ej x
      have p0 := apt (j := n) (n := n') (by omega)
      have p1 := apt (j := n + 1) (n := n') (by omega)
      have p2 := apt (j := n + 2) (n := n') (by omega)
      have p3 := apt (j := n + 3) (n := n') (by omega)
      have g1 : ((j : Int) ≥ 0) = True := by simp
      have g2 : (0 ≤ (j : Int)) = True := by simp
      have w1 : IntKind.wrap .i64 ((j : Int) - 1) = (j : Int) - 1 := IntWalk.i64_in _ (by omega)
      have lt1 : j < mm := by omega
      have le1 : j ≤ bl e := by omega
      clear eu ev Ho HF hmm w0
      rcases (show z = 0 ∨ z = 1 by omega) with hz | hz
      · have st : Hid _ := ⟨(step.trans (if_neg (by omega))).symm⟩
        have f1 : ((z : Int) == 1) = false := by subst hz; rfl
        clear hz ez step
        refine go ?_
        exact ⟨j, lt1, j, ⟨ux, uy, uz⟩, rfl, le1, hu, st, tr, tr, tr, tr, tr, tr, tr, tr, tr, by omega, ks⟩
      · have st : Hid _ := ⟨(step.trans (if_pos hz)).symm⟩
        have f1 : ((z : Int) == 1) = true := by subst hz; rfl
        clear hz ez step
        refine go ?_
        exact ⟨j, lt1, j, ⟨vx, vy, vz⟩, rfl, le1, hv, st, tr, tr, tr, tr, tr, tr, tr, tr, tr, by omega, ks⟩
instance (ax ay az e : Nat) [Bd ax M256] [Bd ay M256] [Bd az M256] [Bd e M256] : Ct Tryz.prog 305 [.agg (numC ax ++ (numC ay ++ numC az)), .agg (numC e)] (.agg (jC (timesN ⟨ax, ay, az⟩ e))) := ⟨l305 ax ay az e⟩

end Go.Proofs.YtmkefpjpghmonaaGreat
