import Derived.Test.YtmkefpjpghmonaaGreatLa
namespace Go.Proofs.YtmkefpjpghmonaaGreat
open Go.Av
set_option maxRecDepth 100000
set_option maxHeartbeats 1000000
set_option linter.unusedSimpArgs false
set_option linter.unusedVariables false

/-! ### limb.Mul -/
theorem mul_lt {x y : Nat} (hx : x < 18446744073709551616) (hy : y < 18446744073709551616) : x * y ≤ 340282366920938463426481119284349108225 := Nat.mul_le_mul (Nat.le_of_lt_succ hx) (Nat.le_of_lt_succ hy)
/-- One digit's step. -/
theorem mstep {p o c : Nat} (hp : p ≤ 340282366920938463426481119284349108225) (ho : o < 18446744073709551616) (hc : c < 18446744073709551616) : ∃ h l o1 x o2 y u c' : Nat, h = p / 18446744073709551616 ∧ l = p % 18446744073709551616 ∧ o1 = (o + l + 0) % 18446744073709551616 ∧ x = (o + l + 0) / 18446744073709551616 ∧ o2 = (o1 + c + 0) % 18446744073709551616 ∧ y = (o1 + c + 0) / 18446744073709551616 ∧
    u = h + x ∧ c' = u + y ∧ o + p + c = o2 + 18446744073709551616 * c' ∧ o2 < 18446744073709551616 ∧ c' < 18446744073709551616 ∧ u < 18446744073709551616 :=
  ⟨_, _, _, _, _, _, _, _, rfl, rfl, rfl, rfl, rfl, rfl, rfl, rfl, by omega, by omega, by omega, by omega⟩
theorem frz_ptr {j off : Nat} {cs : List AV} : frz (only j cs) 1 (.p j off) = .q cs off := by
  simp only [frz, only, if_true]
  rw [List.map_id']
theorem mul_sum {p00 o00 c00 p01 o01 c01 p02 o02 c02 p03 o03 c03 p10 o10 c10 p11 o11 c11 p12 o12 c12 p13 o13 c13 p20 o20 c20 p21 o21 c21 p22 o22 c22 p23 o23 c23 p30 o30 c30 p31 o31 c31 p32 o32 c32 p33 o33 c33 : Nat} (r00 : 0 + p00 + 0 = o00 + 18446744073709551616 * c00) (r01 : 0 + p01 + c00 = o01 + 18446744073709551616 * c01) (r02 : 0 + p02 + c01 = o02 + 18446744073709551616 * c02) (r03 : 0 + p03 + c02 = o03 + 18446744073709551616 * c03) (r10 : o01 + p10 + 0 = o10 + 18446744073709551616 * c10) (r11 : o02 + p11 + c10 = o11 + 18446744073709551616 * c11) (r12 : o03 + p12 + c11 = o12 + 18446744073709551616 * c12) (r13 : c03 + p13 + c12 = o13 + 18446744073709551616 * c13) (r20 : o11 + p20 + 0 = o20 + 18446744073709551616 * c20) (r21 : o12 + p21 + c20 = o21 + 18446744073709551616 * c21) (r22 : o13 + p22 + c21 = o22 + 18446744073709551616 * c22) (r23 : c13 + p23 + c22 = o23 + 18446744073709551616 * c23) (r30 : o21 + p30 + 0 = o30 + 18446744073709551616 * c30) (r31 : o22 + p31 + c30 = o31 + 18446744073709551616 * c31) (r32 : o23 + p32 + c31 = o32 + 18446744073709551616 * c32) (r33 : c23 + p33 + c32 = o33 + 18446744073709551616 * c33) : p00 + 18446744073709551616 * p01 + 340282366920938463463374607431768211456 * p02 + 6277101735386680763835789423207666416102355444464034512896 * p03 + 18446744073709551616 * p10 + 340282366920938463463374607431768211456 * p11 + 6277101735386680763835789423207666416102355444464034512896 * p12 + 115792089237316195423570985008687907853269984665640564039457584007913129639936 * p13 + 340282366920938463463374607431768211456 * p20 + 6277101735386680763835789423207666416102355444464034512896 * p21 + 115792089237316195423570985008687907853269984665640564039457584007913129639936 * p22 + 2135987035920910082395021706169552114602704522356652769947041607822219725780640550022962086936576 * p23 + 6277101735386680763835789423207666416102355444464034512896 * p30 + 115792089237316195423570985008687907853269984665640564039457584007913129639936 * p31 + 2135987035920910082395021706169552114602704522356652769947041607822219725780640550022962086936576 * p32 + 39402006196394479212279040100143613805079739270465446667948293404245721771497210611414266254884915640806627990306816 * p33 = o00 + 18446744073709551616 * o10 + 340282366920938463463374607431768211456 * o20 + 6277101735386680763835789423207666416102355444464034512896 * o30 + 115792089237316195423570985008687907853269984665640564039457584007913129639936 * (o31 + 18446744073709551616 * o32 + 340282366920938463463374607431768211456 * o33 + 6277101735386680763835789423207666416102355444464034512896 * c33) := by
  have R0 : (0 + 18446744073709551616 * 0 + 340282366920938463463374607431768211456 * 0 + 6277101735386680763835789423207666416102355444464034512896 * 0) + (p00 + 18446744073709551616 * p01 + 340282366920938463463374607431768211456 * p02 + 6277101735386680763835789423207666416102355444464034512896 * p03) = (o00 + 18446744073709551616 * o01 + 340282366920938463463374607431768211456 * o02 + 6277101735386680763835789423207666416102355444464034512896 * o03) + 115792089237316195423570985008687907853269984665640564039457584007913129639936 * c03 := by
    clear r10 r11 r12 r13 r20 r21 r22 r23 r30 r31 r32 r33
    omega
  have R1 : (o01 + 18446744073709551616 * o02 + 340282366920938463463374607431768211456 * o03 + 6277101735386680763835789423207666416102355444464034512896 * c03) + (p10 + 18446744073709551616 * p11 + 340282366920938463463374607431768211456 * p12 + 6277101735386680763835789423207666416102355444464034512896 * p13) = (o10 + 18446744073709551616 * o11 + 340282366920938463463374607431768211456 * o12 + 6277101735386680763835789423207666416102355444464034512896 * o13) + 115792089237316195423570985008687907853269984665640564039457584007913129639936 * c13 := by
    clear r00 r01 r02 r03 r20 r21 r22 r23 r30 r31 r32 r33 R0
    omega
  have R2 : (o11 + 18446744073709551616 * o12 + 340282366920938463463374607431768211456 * o13 + 6277101735386680763835789423207666416102355444464034512896 * c13) + (p20 + 18446744073709551616 * p21 + 340282366920938463463374607431768211456 * p22 + 6277101735386680763835789423207666416102355444464034512896 * p23) = (o20 + 18446744073709551616 * o21 + 340282366920938463463374607431768211456 * o22 + 6277101735386680763835789423207666416102355444464034512896 * o23) + 115792089237316195423570985008687907853269984665640564039457584007913129639936 * c23 := by
    clear r00 r01 r02 r03 r10 r11 r12 r13 r30 r31 r32 r33 R0 R1
    omega
  have R3 : (o21 + 18446744073709551616 * o22 + 340282366920938463463374607431768211456 * o23 + 6277101735386680763835789423207666416102355444464034512896 * c23) + (p30 + 18446744073709551616 * p31 + 340282366920938463463374607431768211456 * p32 + 6277101735386680763835789423207666416102355444464034512896 * p33) = (o30 + 18446744073709551616 * o31 + 340282366920938463463374607431768211456 * o32 + 6277101735386680763835789423207666416102355444464034512896 * o33) + 115792089237316195423570985008687907853269984665640564039457584007913129639936 * c33 := by
    clear r00 r01 r02 r03 r10 r11 r12 r13 r20 r21 r22 r23 R0 R1 R2
    omega
  clear r00 r01 r02 r03 r10 r11 r12 r13 r20 r21 r22 r23 r30 r31 r32 r33
  omega
theorem mul_open (a0 a1 a2 a3 b0 b1 b2 b3 : Nat) : (a0 + 18446744073709551616 * a1 + 340282366920938463463374607431768211456 * a2 + 6277101735386680763835789423207666416102355444464034512896 * a3) * (b0 + 18446744073709551616 * b1 + 340282366920938463463374607431768211456 * b2 + 6277101735386680763835789423207666416102355444464034512896 * b3) = (a0 * b0) + 18446744073709551616 * (a0 * b1) + 340282366920938463463374607431768211456 * (a0 * b2) + 6277101735386680763835789423207666416102355444464034512896 * (a0 * b3) + 18446744073709551616 * (a1 * b0) + 340282366920938463463374607431768211456 * (a1 * b1) + 6277101735386680763835789423207666416102355444464034512896 * (a1 * b2) + 115792089237316195423570985008687907853269984665640564039457584007913129639936 * (a1 * b3) + 340282366920938463463374607431768211456 * (a2 * b0) + 6277101735386680763835789423207666416102355444464034512896 * (a2 * b1) + 115792089237316195423570985008687907853269984665640564039457584007913129639936 * (a2 * b2) + 2135987035920910082395021706169552114602704522356652769947041607822219725780640550022962086936576 * (a2 * b3) + 6277101735386680763835789423207666416102355444464034512896 * (a3 * b0) + 115792089237316195423570985008687907853269984665640564039457584007913129639936 * (a3 * b1) + 2135987035920910082395021706169552114602704522356652769947041607822219725780640550022962086936576 * (a3 * b2) + 39402006196394479212279040100143613805079739270465446667948293404245721771497210611414266254884915640806627990306816 * (a3 * b3) := by
  grind
def b327_9 : List Nat := [0, 1, 3, 0, 8, 24, 63, 127, 255, 255, 511, 2047]
def w327_9 : List Nat := []
def b327_17 : List Nat := [0, 1, 3, 0, 8, 24, 7, 127]
def w327_17 : List Nat := [6, 7, 1000, 1001, 1002, 1003, 1004, 1005]
set_option maxHeartbeats 8000000 in
theorem l327 (a b : Nat) [ha : Bd a M256] [hb : Bd b M256] : PCalls Tryz.prog 327 [.agg (numC a), .agg (numC b)] (.tup [.agg (numC (a * b % M256)), .agg (numC (a * b / M256))]) := by
  have ha := ha.lt
  have hb := hb.lt
  obtain ⟨a0, ea0⟩ : ∃ x, x = dg a 0 := ⟨_, rfl⟩
  obtain ⟨a1, ea1⟩ : ∃ x, x = dg a 1 := ⟨_, rfl⟩
  obtain ⟨a2, ea2⟩ : ∃ x, x = dg a 2 := ⟨_, rfl⟩
  obtain ⟨a3, ea3⟩ : ∃ x, x = dg a 3 := ⟨_, rfl⟩
  have la := dg_all ha
  have ka0 := dg_lt a 0
  have ka1 := dg_lt a 1
  have ka2 := dg_lt a 2
  have ka3 := dg_lt a 3
  rw [← ea0, ← ea1, ← ea2, ← ea3] at la
  rw [← ea0] at ka0
  rw [← ea1] at ka1
  rw [← ea2] at ka2
  rw [← ea3] at ka3
  have na : numC a = [.i .u64 (a0 : Int), .i .u64 (a1 : Int), .i .u64 (a2 : Int), .i .u64 (a3 : Int)] := by rw [ea0, ea1, ea2, ea3]; rfl
  clear ea0 ea1 ea2 ea3
  obtain ⟨b0, eb0⟩ : ∃ x, x = dg b 0 := ⟨_, rfl⟩
  obtain ⟨b1, eb1⟩ : ∃ x, x = dg b 1 := ⟨_, rfl⟩
  obtain ⟨b2, eb2⟩ : ∃ x, x = dg b 2 := ⟨_, rfl⟩
  obtain ⟨b3, eb3⟩ : ∃ x, x = dg b 3 := ⟨_, rfl⟩
  have lb := dg_all hb
  have kb0 := dg_lt b 0
  have kb1 := dg_lt b 1
  have kb2 := dg_lt b 2
  have kb3 := dg_lt b 3
  rw [← eb0, ← eb1, ← eb2, ← eb3] at lb
  rw [← eb0] at kb0
  rw [← eb1] at kb1
  rw [← eb2] at kb2
  rw [← eb3] at kb3
  have nb : numC b = [.i .u64 (b0 : Int), .i .u64 (b1 : Int), .i .u64 (b2 : Int), .i .u64 (b3 : Int)] := by rw [eb0, eb1, eb2, eb3]; rfl
  clear eb0 eb1 eb2 eb3
  have La : Hid _ := ⟨la⟩
  have Lb : Hid _ := ⟨lb⟩
  rw [show PCalls Tryz.prog 327 [.agg (numC a), .agg (numC b)] = PCalls Tryz.prog 327 [.agg [.i .u64 (a0 : Int), .i .u64 (a1 : Int), .i .u64 (a2 : Int), .i .u64 (a3 : Int)], .agg [.i .u64 (b0 : Int), .i .u64 (b1 : Int), .i .u64 (b2 : Int), .i .u64 (b3 : Int)]] by rw [na, nb]]
  obtain ⟨R, eR⟩ : ∃ R, R = AV.tup [.agg (numC (a * b % M256)), .agg (numC (a * b / M256))] := ⟨_, rfl⟩
  have HR : Hid _ := ⟨eR⟩
  rw [← eR]
  clear eR la lb na nb ha hb
  refine pof Tryz.func327 fun h n => ?_
  repeat (first | refine gon ?_ | refine drg 9 b327_9 w327_9 ?_)
  refine AWr.loop 5 ?_
  refine AWr.cut (fun t' h' n' => t' 2 = .p n 0 ∧ t' 3 = .p (n + 1) 0 ∧ t' 4 = .p (n + 2) 0 ∧ t' 5 = .p (n + 3) 0 ∧ t' 6 = .p (n + 4) 0 ∧ t' 14 = .i .i64 0 ∧ h' n = some (.cells [.i .u64 (a0 : Int), .i .u64 (a1 : Int), .i .u64 (a2 : Int), .i .u64 (a3 : Int)]) ∧ h' (n + 1) = some (.cells [.i .u64 (b0 : Int), .i .u64 (b1 : Int), .i .u64 (b2 : Int), .i .u64 (b3 : Int)]) ∧ h' (n + 2) = some (.cells [.i .u64 0, .i .u64 0, .i .u64 0, .i .u64 0]) ∧ h' (n + 3) = some (.cells [.i .u64 0, .i .u64 0, .i .u64 0, .i .u64 0]) ∧ h' (n + 4) = some (.cells [.i .u64 0, .i .u64 0, .i .u64 0, .i .u64 0, .i .u64 0, .i .u64 0, .i .u64 0, .i .u64 0]) ∧ n' = n + 5 ∧ Keeps n h h') ⟨tr, tr, tr, tr, tr, tr, tr, tr, tr, tr, tr, rfl, ks⟩ ?_
  rintro t' h' _ ⟨t2, t3, t4, t5, t6, t14, q0, q1, q2, q3, q4, rfl, kp⟩
  refine AWr.round ?_
  repeat (first | refine gon ?_ | refine drg 9 b327_9 w327_9 ?_)
  refine AWr.loop 5 ?_
  refine AWr.cut (fun t' h' n' => t' 2 = .p n 0 ∧ t' 3 = .p (n + 1) 0 ∧ t' 4 = .p (n + 2) 0 ∧ t' 5 = .p (n + 3) 0 ∧ t' 6 = .p (n + 4) 0 ∧ t' 14 = .i .i64 0 ∧ t' 7 = .i .i64 0 ∧ t' 8 = .i .u64 0 ∧ t' 17 = .i .i64 0 ∧ h' n = some (.cells [.i .u64 (a0 : Int), .i .u64 (a1 : Int), .i .u64 (a2 : Int), .i .u64 (a3 : Int)]) ∧ h' (n + 1) = some (.cells [.i .u64 (b0 : Int), .i .u64 (b1 : Int), .i .u64 (b2 : Int), .i .u64 (b3 : Int)]) ∧ h' (n + 2) = some (.cells [.i .u64 0, .i .u64 0, .i .u64 0, .i .u64 0]) ∧ h' (n + 3) = some (.cells [.i .u64 0, .i .u64 0, .i .u64 0, .i .u64 0]) ∧ h' (n + 4) = some (.cells [.i .u64 0, .i .u64 0, .i .u64 0, .i .u64 0, .i .u64 0, .i .u64 0, .i .u64 0, .i .u64 0]) ∧ n' = n + 5 ∧ Keeps n h h') ⟨tr, tr, tr, tr, tr, tr, tr, tr, tr, tr, tr, tr, tr, tr, rfl, ks⟩ ?_
  clear t2 t3 t4 t5 t6 t14 q0 q1 q2 q3 q4 kp
  rintro t' h' _ ⟨t2, t3, t4, t5, t6, t14, t7, t8, t17, q0, q1, q2, q3, q4, rfl, kp⟩
  obtain ⟨h00, l00, m00, x00, o00, y00, u00, c00, eh, el, em, ex, eo, ey, eu, ec, r, bo00, bc00, bu⟩ := mstep (p := a0 * b0) (o := 0) (c := 0) (mul_lt ka0 kb0) (by first | assumption | decide) (by first | assumption | decide)
  have A : PCalls Tryz.prog 312 [.i .u64 (a0 : Int), .i .u64 (b0 : Int)] (.tup [.i .u64 (h00 : Int), .i .u64 (l00 : Int)]) := by
    haveI : Bd a0 18446744073709551616 := ⟨ka0⟩
    haveI : Bd b0 18446744073709551616 := ⟨kb0⟩
    rw [eh, el]; exact l312 a0 b0
  have B : XCalls Tryz.prog 313 [.i .u64 0, .i .u64 (l00 : Int), .i .u64 0] (.tup [.i .u64 (m00 : Int), .i .u64 (x00 : Int)]) := by rw [em, ex]; exact x313 0 l00 0 (by decide)
  have C : XCalls Tryz.prog 313 [.i .u64 (m00 : Int), .i .u64 0, .i .u64 0] (.tup [.i .u64 (o00 : Int), .i .u64 (y00 : Int)]) := by rw [eo, ey]; exact x313 m00 0 0 (by decide)
  have D : IntKind.wrap .u64 ((h00 : Int) + (x00 : Int)) = (u00 : Int) := by rw [eu, ← Int.natCast_add, wrapN, Nat.mod_eq_of_lt (by rw [← eu]; exact bu)]
  have E : IntKind.wrap .u64 ((u00 : Int) + (y00 : Int)) = (c00 : Int) := by rw [ec, ← Int.natCast_add, wrapN, Nat.mod_eq_of_lt (by rw [← ec]; exact bc00)]
  have r00 : Hid _ := ⟨r⟩
  clear eh el em ex eo ey eu ec bu r
  refine AWr.round ?_
  repeat (first | refine gon ?_ | refine drg 9 b327_9 w327_9 ?_)
  refine AWr.cut (fun t' h' n' => t' 2 = .p n 0 ∧ t' 3 = .p (n + 1) 0 ∧ t' 4 = .p (n + 2) 0 ∧ t' 5 = .p (n + 3) 0 ∧ t' 6 = .p (n + 4) 0 ∧ t' 14 = .i .i64 0 ∧ t' 7 = .i .i64 0 ∧ t' 8 = .i .u64 (c00 : Int) ∧ t' 17 = .i .i64 1 ∧ h' n = some (.cells [.i .u64 (a0 : Int), .i .u64 (a1 : Int), .i .u64 (a2 : Int), .i .u64 (a3 : Int)]) ∧ h' (n + 1) = some (.cells [.i .u64 (b0 : Int), .i .u64 (b1 : Int), .i .u64 (b2 : Int), .i .u64 (b3 : Int)]) ∧ h' (n + 2) = some (.cells [.i .u64 0, .i .u64 0, .i .u64 0, .i .u64 0]) ∧ h' (n + 3) = some (.cells [.i .u64 0, .i .u64 0, .i .u64 0, .i .u64 0]) ∧ h' (n + 4) = some (.cells [.i .u64 (o00 : Int), .i .u64 0, .i .u64 0, .i .u64 0, .i .u64 0, .i .u64 0, .i .u64 0, .i .u64 0]) ∧ n' = n + 5 ∧ Keeps n h h') ⟨tr, tr, tr, tr, tr, tr, tr, tr, tr, tr, tr, tr, tr, tr, rfl, ks⟩ ?_
  clear t2 t3 t4 t5 t6 t14 t7 t8 t17 q0 q1 q2 q3 q4 kp A B C D E
  rintro t' h' _ ⟨t2, t3, t4, t5, t6, t14, t7, t8, t17, q0, q1, q2, q3, q4, rfl, kp⟩
  obtain ⟨h01, l01, m01, x01, o01, y01, u01, c01, eh, el, em, ex, eo, ey, eu, ec, r, bo01, bc01, bu⟩ := mstep (p := a0 * b1) (o := 0) (c := c00) (mul_lt ka0 kb1) (by first | assumption | decide) (by first | assumption | decide)
  have A : PCalls Tryz.prog 312 [.i .u64 (a0 : Int), .i .u64 (b1 : Int)] (.tup [.i .u64 (h01 : Int), .i .u64 (l01 : Int)]) := by
    haveI : Bd a0 18446744073709551616 := ⟨ka0⟩
    haveI : Bd b1 18446744073709551616 := ⟨kb1⟩
    rw [eh, el]; exact l312 a0 b1
  have B : XCalls Tryz.prog 313 [.i .u64 0, .i .u64 (l01 : Int), .i .u64 0] (.tup [.i .u64 (m01 : Int), .i .u64 (x01 : Int)]) := by rw [em, ex]; exact x313 0 l01 0 (by decide)
  have C : XCalls Tryz.prog 313 [.i .u64 (m01 : Int), .i .u64 (c00 : Int), .i .u64 0] (.tup [.i .u64 (o01 : Int), .i .u64 (y01 : Int)]) := by rw [eo, ey]; exact x313 m01 c00 0 (by decide)
  have D : IntKind.wrap .u64 ((h01 : Int) + (x01 : Int)) = (u01 : Int) := by rw [eu, ← Int.natCast_add, wrapN, Nat.mod_eq_of_lt (by rw [← eu]; exact bu)]
  have E : IntKind.wrap .u64 ((u01 : Int) + (y01 : Int)) = (c01 : Int) := by rw [ec, ← Int.natCast_add, wrapN, Nat.mod_eq_of_lt (by rw [← ec]; exact bc01)]
  have r01 : Hid _ := ⟨r⟩
  clear eh el em ex eo ey eu ec bu r
  refine AWr.round ?_
  repeat (first | refine gon ?_ | refine drg 9 b327_9 w327_9 ?_)
  refine AWr.cut (fun t' h' n' => t' 2 = .p n 0 ∧ t' 3 = .p (n + 1) 0 ∧ t' 4 = .p (n + 2) 0 ∧ t' 5 = .p (n + 3) 0 ∧ t' 6 = .p (n + 4) 0 ∧ t' 14 = .i .i64 0 ∧ t' 7 = .i .i64 0 ∧ t' 8 = .i .u64 (c01 : Int) ∧ t' 17 = .i .i64 2 ∧ h' n = some (.cells [.i .u64 (a0 : Int), .i .u64 (a1 : Int), .i .u64 (a2 : Int), .i .u64 (a3 : Int)]) ∧ h' (n + 1) = some (.cells [.i .u64 (b0 : Int), .i .u64 (b1 : Int), .i .u64 (b2 : Int), .i .u64 (b3 : Int)]) ∧ h' (n + 2) = some (.cells [.i .u64 0, .i .u64 0, .i .u64 0, .i .u64 0]) ∧ h' (n + 3) = some (.cells [.i .u64 0, .i .u64 0, .i .u64 0, .i .u64 0]) ∧ h' (n + 4) = some (.cells [.i .u64 (o00 : Int), .i .u64 (o01 : Int), .i .u64 0, .i .u64 0, .i .u64 0, .i .u64 0, .i .u64 0, .i .u64 0]) ∧ n' = n + 5 ∧ Keeps n h h') ⟨tr, tr, tr, tr, tr, tr, tr, tr, tr, tr, tr, tr, tr, tr, rfl, ks⟩ ?_
  clear t2 t3 t4 t5 t6 t14 t7 t8 t17 q0 q1 q2 q3 q4 kp A B C D E
  rintro t' h' _ ⟨t2, t3, t4, t5, t6, t14, t7, t8, t17, q0, q1, q2, q3, q4, rfl, kp⟩
  obtain ⟨h02, l02, m02, x02, o02, y02, u02, c02, eh, el, em, ex, eo, ey, eu, ec, r, bo02, bc02, bu⟩ := mstep (p := a0 * b2) (o := 0) (c := c01) (mul_lt ka0 kb2) (by first | assumption | decide) (by first | assumption | decide)
  have A : PCalls Tryz.prog 312 [.i .u64 (a0 : Int), .i .u64 (b2 : Int)] (.tup [.i .u64 (h02 : Int), .i .u64 (l02 : Int)]) := by
    haveI : Bd a0 18446744073709551616 := ⟨ka0⟩
    haveI : Bd b2 18446744073709551616 := ⟨kb2⟩
    rw [eh, el]; exact l312 a0 b2
  have B : XCalls Tryz.prog 313 [.i .u64 0, .i .u64 (l02 : Int), .i .u64 0] (.tup [.i .u64 (m02 : Int), .i .u64 (x02 : Int)]) := by rw [em, ex]; exact x313 0 l02 0 (by decide)
  have C : XCalls Tryz.prog 313 [.i .u64 (m02 : Int), .i .u64 (c01 : Int), .i .u64 0] (.tup [.i .u64 (o02 : Int), .i .u64 (y02 : Int)]) := by rw [eo, ey]; exact x313 m02 c01 0 (by decide)
  have D : IntKind.wrap .u64 ((h02 : Int) + (x02 : Int)) = (u02 : Int) := by rw [eu, ← Int.natCast_add, wrapN, Nat.mod_eq_of_lt (by rw [← eu]; exact bu)]
  have E : IntKind.wrap .u64 ((u02 : Int) + (y02 : Int)) = (c02 : Int) := by rw [ec, ← Int.natCast_add, wrapN, Nat.mod_eq_of_lt (by rw [← ec]; exact bc02)]
  have r02 : Hid _ := ⟨r⟩
  clear eh el em ex eo ey eu ec bu r
  refine AWr.round ?_
  repeat (first | refine gon ?_ | refine drg 9 b327_9 w327_9 ?_)
  refine AWr.cut (fun t' h' n' => t' 2 = .p n 0 ∧ t' 3 = .p (n + 1) 0 ∧ t' 4 = .p (n + 2) 0 ∧ t' 5 = .p (n + 3) 0 ∧ t' 6 = .p (n + 4) 0 ∧ t' 14 = .i .i64 0 ∧ t' 7 = .i .i64 0 ∧ t' 8 = .i .u64 (c02 : Int) ∧ t' 17 = .i .i64 3 ∧ h' n = some (.cells [.i .u64 (a0 : Int), .i .u64 (a1 : Int), .i .u64 (a2 : Int), .i .u64 (a3 : Int)]) ∧ h' (n + 1) = some (.cells [.i .u64 (b0 : Int), .i .u64 (b1 : Int), .i .u64 (b2 : Int), .i .u64 (b3 : Int)]) ∧ h' (n + 2) = some (.cells [.i .u64 0, .i .u64 0, .i .u64 0, .i .u64 0]) ∧ h' (n + 3) = some (.cells [.i .u64 0, .i .u64 0, .i .u64 0, .i .u64 0]) ∧ h' (n + 4) = some (.cells [.i .u64 (o00 : Int), .i .u64 (o01 : Int), .i .u64 (o02 : Int), .i .u64 0, .i .u64 0, .i .u64 0, .i .u64 0, .i .u64 0]) ∧ n' = n + 5 ∧ Keeps n h h') ⟨tr, tr, tr, tr, tr, tr, tr, tr, tr, tr, tr, tr, tr, tr, rfl, ks⟩ ?_
  clear t2 t3 t4 t5 t6 t14 t7 t8 t17 q0 q1 q2 q3 q4 kp A B C D E
  rintro t' h' _ ⟨t2, t3, t4, t5, t6, t14, t7, t8, t17, q0, q1, q2, q3, q4, rfl, kp⟩
  obtain ⟨h03, l03, m03, x03, o03, y03, u03, c03, eh, el, em, ex, eo, ey, eu, ec, r, bo03, bc03, bu⟩ := mstep (p := a0 * b3) (o := 0) (c := c02) (mul_lt ka0 kb3) (by first | assumption | decide) (by first | assumption | decide)
  have A : PCalls Tryz.prog 312 [.i .u64 (a0 : Int), .i .u64 (b3 : Int)] (.tup [.i .u64 (h03 : Int), .i .u64 (l03 : Int)]) := by
    haveI : Bd a0 18446744073709551616 := ⟨ka0⟩
    haveI : Bd b3 18446744073709551616 := ⟨kb3⟩
    rw [eh, el]; exact l312 a0 b3
  have B : XCalls Tryz.prog 313 [.i .u64 0, .i .u64 (l03 : Int), .i .u64 0] (.tup [.i .u64 (m03 : Int), .i .u64 (x03 : Int)]) := by rw [em, ex]; exact x313 0 l03 0 (by decide)
  have C : XCalls Tryz.prog 313 [.i .u64 (m03 : Int), .i .u64 (c02 : Int), .i .u64 0] (.tup [.i .u64 (o03 : Int), .i .u64 (y03 : Int)]) := by rw [eo, ey]; exact x313 m03 c02 0 (by decide)
  have D : IntKind.wrap .u64 ((h03 : Int) + (x03 : Int)) = (u03 : Int) := by rw [eu, ← Int.natCast_add, wrapN, Nat.mod_eq_of_lt (by rw [← eu]; exact bu)]
  have E : IntKind.wrap .u64 ((u03 : Int) + (y03 : Int)) = (c03 : Int) := by rw [ec, ← Int.natCast_add, wrapN, Nat.mod_eq_of_lt (by rw [← ec]; exact bc03)]
  have r03 : Hid _ := ⟨r⟩
  clear eh el em ex eo ey eu ec bu r
  refine AWr.round ?_
  repeat (first | refine gon ?_ | refine drg 9 b327_9 w327_9 ?_)
  refine AWr.cut (fun t' h' n' => t' 2 = .p n 0 ∧ t' 3 = .p (n + 1) 0 ∧ t' 4 = .p (n + 2) 0 ∧ t' 5 = .p (n + 3) 0 ∧ t' 6 = .p (n + 4) 0 ∧ t' 14 = .i .i64 0 ∧ t' 7 = .i .i64 0 ∧ t' 8 = .i .u64 (c03 : Int) ∧ t' 17 = .i .i64 4 ∧ h' n = some (.cells [.i .u64 (a0 : Int), .i .u64 (a1 : Int), .i .u64 (a2 : Int), .i .u64 (a3 : Int)]) ∧ h' (n + 1) = some (.cells [.i .u64 (b0 : Int), .i .u64 (b1 : Int), .i .u64 (b2 : Int), .i .u64 (b3 : Int)]) ∧ h' (n + 2) = some (.cells [.i .u64 0, .i .u64 0, .i .u64 0, .i .u64 0]) ∧ h' (n + 3) = some (.cells [.i .u64 0, .i .u64 0, .i .u64 0, .i .u64 0]) ∧ h' (n + 4) = some (.cells [.i .u64 (o00 : Int), .i .u64 (o01 : Int), .i .u64 (o02 : Int), .i .u64 (o03 : Int), .i .u64 0, .i .u64 0, .i .u64 0, .i .u64 0]) ∧ n' = n + 5 ∧ Keeps n h h') ⟨tr, tr, tr, tr, tr, tr, tr, tr, tr, tr, tr, tr, tr, tr, rfl, ks⟩ ?_
  clear t2 t3 t4 t5 t6 t14 t7 t8 t17 q0 q1 q2 q3 q4 kp A B C D E
  rintro t' h' _ ⟨t2, t3, t4, t5, t6, t14, t7, t8, t17, q0, q1, q2, q3, q4, rfl, kp⟩
  refine AWr.round ?_
  repeat (first | refine gon ?_ | refine drg 9 b327_9 w327_9 ?_)
  refine AWr.cut (fun t' h' n' => t' 2 = .p n 0 ∧ t' 3 = .p (n + 1) 0 ∧ t' 4 = .p (n + 2) 0 ∧ t' 5 = .p (n + 3) 0 ∧ t' 6 = .p (n + 4) 0 ∧ t' 14 = .i .i64 1 ∧ h' n = some (.cells [.i .u64 (a0 : Int), .i .u64 (a1 : Int), .i .u64 (a2 : Int), .i .u64 (a3 : Int)]) ∧ h' (n + 1) = some (.cells [.i .u64 (b0 : Int), .i .u64 (b1 : Int), .i .u64 (b2 : Int), .i .u64 (b3 : Int)]) ∧ h' (n + 2) = some (.cells [.i .u64 0, .i .u64 0, .i .u64 0, .i .u64 0]) ∧ h' (n + 3) = some (.cells [.i .u64 0, .i .u64 0, .i .u64 0, .i .u64 0]) ∧ h' (n + 4) = some (.cells [.i .u64 (o00 : Int), .i .u64 (o01 : Int), .i .u64 (o02 : Int), .i .u64 (o03 : Int), .i .u64 (c03 : Int), .i .u64 0, .i .u64 0, .i .u64 0]) ∧ n' = n + 5 ∧ Keeps n h h') ⟨tr, tr, tr, tr, tr, tr, tr, tr, tr, tr, tr, rfl, ks⟩ ?_
  clear t2 t3 t4 t5 t6 t14 t7 t8 t17 q0 q1 q2 q3 q4 kp
  rintro t' h' _ ⟨t2, t3, t4, t5, t6, t14, q0, q1, q2, q3, q4, rfl, kp⟩
  refine AWr.round ?_
  repeat (first | refine gon ?_ | refine drg 9 b327_9 w327_9 ?_)
  refine AWr.loop 5 ?_
  refine AWr.cut (fun t' h' n' => t' 2 = .p n 0 ∧ t' 3 = .p (n + 1) 0 ∧ t' 4 = .p (n + 2) 0 ∧ t' 5 = .p (n + 3) 0 ∧ t' 6 = .p (n + 4) 0 ∧ t' 14 = .i .i64 1 ∧ t' 7 = .i .i64 1 ∧ t' 8 = .i .u64 0 ∧ t' 17 = .i .i64 0 ∧ h' n = some (.cells [.i .u64 (a0 : Int), .i .u64 (a1 : Int), .i .u64 (a2 : Int), .i .u64 (a3 : Int)]) ∧ h' (n + 1) = some (.cells [.i .u64 (b0 : Int), .i .u64 (b1 : Int), .i .u64 (b2 : Int), .i .u64 (b3 : Int)]) ∧ h' (n + 2) = some (.cells [.i .u64 0, .i .u64 0, .i .u64 0, .i .u64 0]) ∧ h' (n + 3) = some (.cells [.i .u64 0, .i .u64 0, .i .u64 0, .i .u64 0]) ∧ h' (n + 4) = some (.cells [.i .u64 (o00 : Int), .i .u64 (o01 : Int), .i .u64 (o02 : Int), .i .u64 (o03 : Int), .i .u64 (c03 : Int), .i .u64 0, .i .u64 0, .i .u64 0]) ∧ n' = n + 5 ∧ Keeps n h h') ⟨tr, tr, tr, tr, tr, tr, tr, tr, tr, tr, tr, tr, tr, tr, rfl, ks⟩ ?_
  clear t2 t3 t4 t5 t6 t14 q0 q1 q2 q3 q4 kp
  rintro t' h' _ ⟨t2, t3, t4, t5, t6, t14, t7, t8, t17, q0, q1, q2, q3, q4, rfl, kp⟩
  obtain ⟨h10, l10, m10, x10, o10, y10, u10, c10, eh, el, em, ex, eo, ey, eu, ec, r, bo10, bc10, bu⟩ := mstep (p := a1 * b0) (o := o01) (c := 0) (mul_lt ka1 kb0) (by first | assumption | decide) (by first | assumption | decide)
  have A : PCalls Tryz.prog 312 [.i .u64 (a1 : Int), .i .u64 (b0 : Int)] (.tup [.i .u64 (h10 : Int), .i .u64 (l10 : Int)]) := by
    haveI : Bd a1 18446744073709551616 := ⟨ka1⟩
    haveI : Bd b0 18446744073709551616 := ⟨kb0⟩
    rw [eh, el]; exact l312 a1 b0
  have B : XCalls Tryz.prog 313 [.i .u64 (o01 : Int), .i .u64 (l10 : Int), .i .u64 0] (.tup [.i .u64 (m10 : Int), .i .u64 (x10 : Int)]) := by rw [em, ex]; exact x313 o01 l10 0 (by decide)
  have C : XCalls Tryz.prog 313 [.i .u64 (m10 : Int), .i .u64 0, .i .u64 0] (.tup [.i .u64 (o10 : Int), .i .u64 (y10 : Int)]) := by rw [eo, ey]; exact x313 m10 0 0 (by decide)
  have D : IntKind.wrap .u64 ((h10 : Int) + (x10 : Int)) = (u10 : Int) := by rw [eu, ← Int.natCast_add, wrapN, Nat.mod_eq_of_lt (by rw [← eu]; exact bu)]
  have E : IntKind.wrap .u64 ((u10 : Int) + (y10 : Int)) = (c10 : Int) := by rw [ec, ← Int.natCast_add, wrapN, Nat.mod_eq_of_lt (by rw [← ec]; exact bc10)]
  have r10 : Hid _ := ⟨r⟩
  clear eh el em ex eo ey eu ec bu r
  refine AWr.round ?_
  repeat (first | refine gon ?_ | refine drg 9 b327_9 w327_9 ?_)
  refine AWr.cut (fun t' h' n' => t' 2 = .p n 0 ∧ t' 3 = .p (n + 1) 0 ∧ t' 4 = .p (n + 2) 0 ∧ t' 5 = .p (n + 3) 0 ∧ t' 6 = .p (n + 4) 0 ∧ t' 14 = .i .i64 1 ∧ t' 7 = .i .i64 1 ∧ t' 8 = .i .u64 (c10 : Int) ∧ t' 17 = .i .i64 1 ∧ h' n = some (.cells [.i .u64 (a0 : Int), .i .u64 (a1 : Int), .i .u64 (a2 : Int), .i .u64 (a3 : Int)]) ∧ h' (n + 1) = some (.cells [.i .u64 (b0 : Int), .i .u64 (b1 : Int), .i .u64 (b2 : Int), .i .u64 (b3 : Int)]) ∧ h' (n + 2) = some (.cells [.i .u64 0, .i .u64 0, .i .u64 0, .i .u64 0]) ∧ h' (n + 3) = some (.cells [.i .u64 0, .i .u64 0, .i .u64 0, .i .u64 0]) ∧ h' (n + 4) = some (.cells [.i .u64 (o00 : Int), .i .u64 (o10 : Int), .i .u64 (o02 : Int), .i .u64 (o03 : Int), .i .u64 (c03 : Int), .i .u64 0, .i .u64 0, .i .u64 0]) ∧ n' = n + 5 ∧ Keeps n h h') ⟨tr, tr, tr, tr, tr, tr, tr, tr, tr, tr, tr, tr, tr, tr, rfl, ks⟩ ?_
  clear t2 t3 t4 t5 t6 t14 t7 t8 t17 q0 q1 q2 q3 q4 kp A B C D E
  rintro t' h' _ ⟨t2, t3, t4, t5, t6, t14, t7, t8, t17, q0, q1, q2, q3, q4, rfl, kp⟩
  obtain ⟨h11, l11, m11, x11, o11, y11, u11, c11, eh, el, em, ex, eo, ey, eu, ec, r, bo11, bc11, bu⟩ := mstep (p := a1 * b1) (o := o02) (c := c10) (mul_lt ka1 kb1) (by first | assumption | decide) (by first | assumption | decide)
  have A : PCalls Tryz.prog 312 [.i .u64 (a1 : Int), .i .u64 (b1 : Int)] (.tup [.i .u64 (h11 : Int), .i .u64 (l11 : Int)]) := by
    haveI : Bd a1 18446744073709551616 := ⟨ka1⟩
    haveI : Bd b1 18446744073709551616 := ⟨kb1⟩
    rw [eh, el]; exact l312 a1 b1
  have B : XCalls Tryz.prog 313 [.i .u64 (o02 : Int), .i .u64 (l11 : Int), .i .u64 0] (.tup [.i .u64 (m11 : Int), .i .u64 (x11 : Int)]) := by rw [em, ex]; exact x313 o02 l11 0 (by decide)
  have C : XCalls Tryz.prog 313 [.i .u64 (m11 : Int), .i .u64 (c10 : Int), .i .u64 0] (.tup [.i .u64 (o11 : Int), .i .u64 (y11 : Int)]) := by rw [eo, ey]; exact x313 m11 c10 0 (by decide)
  have D : IntKind.wrap .u64 ((h11 : Int) + (x11 : Int)) = (u11 : Int) := by rw [eu, ← Int.natCast_add, wrapN, Nat.mod_eq_of_lt (by rw [← eu]; exact bu)]
  have E : IntKind.wrap .u64 ((u11 : Int) + (y11 : Int)) = (c11 : Int) := by rw [ec, ← Int.natCast_add, wrapN, Nat.mod_eq_of_lt (by rw [← ec]; exact bc11)]
  have r11 : Hid _ := ⟨r⟩
  clear eh el em ex eo ey eu ec bu r
  refine AWr.round ?_
  repeat (first | refine gon ?_ | refine drg 9 b327_9 w327_9 ?_)
  refine AWr.cut (fun t' h' n' => t' 2 = .p n 0 ∧ t' 3 = .p (n + 1) 0 ∧ t' 4 = .p (n + 2) 0 ∧ t' 5 = .p (n + 3) 0 ∧ t' 6 = .p (n + 4) 0 ∧ t' 14 = .i .i64 1 ∧ t' 7 = .i .i64 1 ∧ t' 8 = .i .u64 (c11 : Int) ∧ t' 17 = .i .i64 2 ∧ h' n = some (.cells [.i .u64 (a0 : Int), .i .u64 (a1 : Int), .i .u64 (a2 : Int), .i .u64 (a3 : Int)]) ∧ h' (n + 1) = some (.cells [.i .u64 (b0 : Int), .i .u64 (b1 : Int), .i .u64 (b2 : Int), .i .u64 (b3 : Int)]) ∧ h' (n + 2) = some (.cells [.i .u64 0, .i .u64 0, .i .u64 0, .i .u64 0]) ∧ h' (n + 3) = some (.cells [.i .u64 0, .i .u64 0, .i .u64 0, .i .u64 0]) ∧ h' (n + 4) = some (.cells [.i .u64 (o00 : Int), .i .u64 (o10 : Int), .i .u64 (o11 : Int), .i .u64 (o03 : Int), .i .u64 (c03 : Int), .i .u64 0, .i .u64 0, .i .u64 0]) ∧ n' = n + 5 ∧ Keeps n h h') ⟨tr, tr, tr, tr, tr, tr, tr, tr, tr, tr, tr, tr, tr, tr, rfl, ks⟩ ?_
  clear t2 t3 t4 t5 t6 t14 t7 t8 t17 q0 q1 q2 q3 q4 kp A B C D E
  rintro t' h' _ ⟨t2, t3, t4, t5, t6, t14, t7, t8, t17, q0, q1, q2, q3, q4, rfl, kp⟩
  obtain ⟨h12, l12, m12, x12, o12, y12, u12, c12, eh, el, em, ex, eo, ey, eu, ec, r, bo12, bc12, bu⟩ := mstep (p := a1 * b2) (o := o03) (c := c11) (mul_lt ka1 kb2) (by first | assumption | decide) (by first | assumption | decide)
  have A : PCalls Tryz.prog 312 [.i .u64 (a1 : Int), .i .u64 (b2 : Int)] (.tup [.i .u64 (h12 : Int), .i .u64 (l12 : Int)]) := by
    haveI : Bd a1 18446744073709551616 := ⟨ka1⟩
    haveI : Bd b2 18446744073709551616 := ⟨kb2⟩
    rw [eh, el]; exact l312 a1 b2
  have B : XCalls Tryz.prog 313 [.i .u64 (o03 : Int), .i .u64 (l12 : Int), .i .u64 0] (.tup [.i .u64 (m12 : Int), .i .u64 (x12 : Int)]) := by rw [em, ex]; exact x313 o03 l12 0 (by decide)
  have C : XCalls Tryz.prog 313 [.i .u64 (m12 : Int), .i .u64 (c11 : Int), .i .u64 0] (.tup [.i .u64 (o12 : Int), .i .u64 (y12 : Int)]) := by rw [eo, ey]; exact x313 m12 c11 0 (by decide)
  have D : IntKind.wrap .u64 ((h12 : Int) + (x12 : Int)) = (u12 : Int) := by rw [eu, ← Int.natCast_add, wrapN, Nat.mod_eq_of_lt (by rw [← eu]; exact bu)]
  have E : IntKind.wrap .u64 ((u12 : Int) + (y12 : Int)) = (c12 : Int) := by rw [ec, ← Int.natCast_add, wrapN, Nat.mod_eq_of_lt (by rw [← ec]; exact bc12)]
  have r12 : Hid _ := ⟨r⟩
  clear eh el em ex eo ey eu ec bu r
  refine AWr.round ?_
  repeat (first | refine gon ?_ | refine drg 9 b327_9 w327_9 ?_)
  refine AWr.cut (fun t' h' n' => t' 2 = .p n 0 ∧ t' 3 = .p (n + 1) 0 ∧ t' 4 = .p (n + 2) 0 ∧ t' 5 = .p (n + 3) 0 ∧ t' 6 = .p (n + 4) 0 ∧ t' 14 = .i .i64 1 ∧ t' 7 = .i .i64 1 ∧ t' 8 = .i .u64 (c12 : Int) ∧ t' 17 = .i .i64 3 ∧ h' n = some (.cells [.i .u64 (a0 : Int), .i .u64 (a1 : Int), .i .u64 (a2 : Int), .i .u64 (a3 : Int)]) ∧ h' (n + 1) = some (.cells [.i .u64 (b0 : Int), .i .u64 (b1 : Int), .i .u64 (b2 : Int), .i .u64 (b3 : Int)]) ∧ h' (n + 2) = some (.cells [.i .u64 0, .i .u64 0, .i .u64 0, .i .u64 0]) ∧ h' (n + 3) = some (.cells [.i .u64 0, .i .u64 0, .i .u64 0, .i .u64 0]) ∧ h' (n + 4) = some (.cells [.i .u64 (o00 : Int), .i .u64 (o10 : Int), .i .u64 (o11 : Int), .i .u64 (o12 : Int), .i .u64 (c03 : Int), .i .u64 0, .i .u64 0, .i .u64 0]) ∧ n' = n + 5 ∧ Keeps n h h') ⟨tr, tr, tr, tr, tr, tr, tr, tr, tr, tr, tr, tr, tr, tr, rfl, ks⟩ ?_
  clear t2 t3 t4 t5 t6 t14 t7 t8 t17 q0 q1 q2 q3 q4 kp A B C D E
  rintro t' h' _ ⟨t2, t3, t4, t5, t6, t14, t7, t8, t17, q0, q1, q2, q3, q4, rfl, kp⟩
  obtain ⟨h13, l13, m13, x13, o13, y13, u13, c13, eh, el, em, ex, eo, ey, eu, ec, r, bo13, bc13, bu⟩ := mstep (p := a1 * b3) (o := c03) (c := c12) (mul_lt ka1 kb3) (by first | assumption | decide) (by first | assumption | decide)
  have A : PCalls Tryz.prog 312 [.i .u64 (a1 : Int), .i .u64 (b3 : Int)] (.tup [.i .u64 (h13 : Int), .i .u64 (l13 : Int)]) := by
    haveI : Bd a1 18446744073709551616 := ⟨ka1⟩
    haveI : Bd b3 18446744073709551616 := ⟨kb3⟩
    rw [eh, el]; exact l312 a1 b3
  have B : XCalls Tryz.prog 313 [.i .u64 (c03 : Int), .i .u64 (l13 : Int), .i .u64 0] (.tup [.i .u64 (m13 : Int), .i .u64 (x13 : Int)]) := by rw [em, ex]; exact x313 c03 l13 0 (by decide)
  have C : XCalls Tryz.prog 313 [.i .u64 (m13 : Int), .i .u64 (c12 : Int), .i .u64 0] (.tup [.i .u64 (o13 : Int), .i .u64 (y13 : Int)]) := by rw [eo, ey]; exact x313 m13 c12 0 (by decide)
  have D : IntKind.wrap .u64 ((h13 : Int) + (x13 : Int)) = (u13 : Int) := by rw [eu, ← Int.natCast_add, wrapN, Nat.mod_eq_of_lt (by rw [← eu]; exact bu)]
  have E : IntKind.wrap .u64 ((u13 : Int) + (y13 : Int)) = (c13 : Int) := by rw [ec, ← Int.natCast_add, wrapN, Nat.mod_eq_of_lt (by rw [← ec]; exact bc13)]
  have r13 : Hid _ := ⟨r⟩
  clear eh el em ex eo ey eu ec bu r
  refine AWr.round ?_
  repeat (first | refine gon ?_ | refine drg 9 b327_9 w327_9 ?_)
  refine AWr.cut (fun t' h' n' => t' 2 = .p n 0 ∧ t' 3 = .p (n + 1) 0 ∧ t' 4 = .p (n + 2) 0 ∧ t' 5 = .p (n + 3) 0 ∧ t' 6 = .p (n + 4) 0 ∧ t' 14 = .i .i64 1 ∧ t' 7 = .i .i64 1 ∧ t' 8 = .i .u64 (c13 : Int) ∧ t' 17 = .i .i64 4 ∧ h' n = some (.cells [.i .u64 (a0 : Int), .i .u64 (a1 : Int), .i .u64 (a2 : Int), .i .u64 (a3 : Int)]) ∧ h' (n + 1) = some (.cells [.i .u64 (b0 : Int), .i .u64 (b1 : Int), .i .u64 (b2 : Int), .i .u64 (b3 : Int)]) ∧ h' (n + 2) = some (.cells [.i .u64 0, .i .u64 0, .i .u64 0, .i .u64 0]) ∧ h' (n + 3) = some (.cells [.i .u64 0, .i .u64 0, .i .u64 0, .i .u64 0]) ∧ h' (n + 4) = some (.cells [.i .u64 (o00 : Int), .i .u64 (o10 : Int), .i .u64 (o11 : Int), .i .u64 (o12 : Int), .i .u64 (o13 : Int), .i .u64 0, .i .u64 0, .i .u64 0]) ∧ n' = n + 5 ∧ Keeps n h h') ⟨tr, tr, tr, tr, tr, tr, tr, tr, tr, tr, tr, tr, tr, tr, rfl, ks⟩ ?_
  clear t2 t3 t4 t5 t6 t14 t7 t8 t17 q0 q1 q2 q3 q4 kp A B C D E
  rintro t' h' _ ⟨t2, t3, t4, t5, t6, t14, t7, t8, t17, q0, q1, q2, q3, q4, rfl, kp⟩
  refine AWr.round ?_
  repeat (first | refine gon ?_ | refine drg 9 b327_9 w327_9 ?_)
  refine AWr.cut (fun t' h' n' => t' 2 = .p n 0 ∧ t' 3 = .p (n + 1) 0 ∧ t' 4 = .p (n + 2) 0 ∧ t' 5 = .p (n + 3) 0 ∧ t' 6 = .p (n + 4) 0 ∧ t' 14 = .i .i64 2 ∧ h' n = some (.cells [.i .u64 (a0 : Int), .i .u64 (a1 : Int), .i .u64 (a2 : Int), .i .u64 (a3 : Int)]) ∧ h' (n + 1) = some (.cells [.i .u64 (b0 : Int), .i .u64 (b1 : Int), .i .u64 (b2 : Int), .i .u64 (b3 : Int)]) ∧ h' (n + 2) = some (.cells [.i .u64 0, .i .u64 0, .i .u64 0, .i .u64 0]) ∧ h' (n + 3) = some (.cells [.i .u64 0, .i .u64 0, .i .u64 0, .i .u64 0]) ∧ h' (n + 4) = some (.cells [.i .u64 (o00 : Int), .i .u64 (o10 : Int), .i .u64 (o11 : Int), .i .u64 (o12 : Int), .i .u64 (o13 : Int), .i .u64 (c13 : Int), .i .u64 0, .i .u64 0]) ∧ n' = n + 5 ∧ Keeps n h h') ⟨tr, tr, tr, tr, tr, tr, tr, tr, tr, tr, tr, rfl, ks⟩ ?_
  clear t2 t3 t4 t5 t6 t14 t7 t8 t17 q0 q1 q2 q3 q4 kp
  rintro t' h' _ ⟨t2, t3, t4, t5, t6, t14, q0, q1, q2, q3, q4, rfl, kp⟩
  refine AWr.round ?_
  repeat (first | refine gon ?_ | refine drg 9 b327_9 w327_9 ?_)
  refine AWr.loop 5 ?_
  refine AWr.cut (fun t' h' n' => t' 2 = .p n 0 ∧ t' 3 = .p (n + 1) 0 ∧ t' 4 = .p (n + 2) 0 ∧ t' 5 = .p (n + 3) 0 ∧ t' 6 = .p (n + 4) 0 ∧ t' 14 = .i .i64 2 ∧ t' 7 = .i .i64 2 ∧ t' 8 = .i .u64 0 ∧ t' 17 = .i .i64 0 ∧ h' n = some (.cells [.i .u64 (a0 : Int), .i .u64 (a1 : Int), .i .u64 (a2 : Int), .i .u64 (a3 : Int)]) ∧ h' (n + 1) = some (.cells [.i .u64 (b0 : Int), .i .u64 (b1 : Int), .i .u64 (b2 : Int), .i .u64 (b3 : Int)]) ∧ h' (n + 2) = some (.cells [.i .u64 0, .i .u64 0, .i .u64 0, .i .u64 0]) ∧ h' (n + 3) = some (.cells [.i .u64 0, .i .u64 0, .i .u64 0, .i .u64 0]) ∧ h' (n + 4) = some (.cells [.i .u64 (o00 : Int), .i .u64 (o10 : Int), .i .u64 (o11 : Int), .i .u64 (o12 : Int), .i .u64 (o13 : Int), .i .u64 (c13 : Int), .i .u64 0, .i .u64 0]) ∧ n' = n + 5 ∧ Keeps n h h') ⟨tr, tr, tr, tr, tr, tr, tr, tr, tr, tr, tr, tr, tr, tr, rfl, ks⟩ ?_
  clear t2 t3 t4 t5 t6 t14 q0 q1 q2 q3 q4 kp
  rintro t' h' _ ⟨t2, t3, t4, t5, t6, t14, t7, t8, t17, q0, q1, q2, q3, q4, rfl, kp⟩
  obtain ⟨h20, l20, m20, x20, o20, y20, u20, c20, eh, el, em, ex, eo, ey, eu, ec, r, bo20, bc20, bu⟩ := mstep (p := a2 * b0) (o := o11) (c := 0) (mul_lt ka2 kb0) (by first | assumption | decide) (by first | assumption | decide)
  have A : PCalls Tryz.prog 312 [.i .u64 (a2 : Int), .i .u64 (b0 : Int)] (.tup [.i .u64 (h20 : Int), .i .u64 (l20 : Int)]) := by
    haveI : Bd a2 18446744073709551616 := ⟨ka2⟩
    haveI : Bd b0 18446744073709551616 := ⟨kb0⟩
    rw [eh, el]; exact l312 a2 b0
  have B : XCalls Tryz.prog 313 [.i .u64 (o11 : Int), .i .u64 (l20 : Int), .i .u64 0] (.tup [.i .u64 (m20 : Int), .i .u64 (x20 : Int)]) := by rw [em, ex]; exact x313 o11 l20 0 (by decide)
  have C : XCalls Tryz.prog 313 [.i .u64 (m20 : Int), .i .u64 0, .i .u64 0] (.tup [.i .u64 (o20 : Int), .i .u64 (y20 : Int)]) := by rw [eo, ey]; exact x313 m20 0 0 (by decide)
  have D : IntKind.wrap .u64 ((h20 : Int) + (x20 : Int)) = (u20 : Int) := by rw [eu, ← Int.natCast_add, wrapN, Nat.mod_eq_of_lt (by rw [← eu]; exact bu)]
  have E : IntKind.wrap .u64 ((u20 : Int) + (y20 : Int)) = (c20 : Int) := by rw [ec, ← Int.natCast_add, wrapN, Nat.mod_eq_of_lt (by rw [← ec]; exact bc20)]
  have r20 : Hid _ := ⟨r⟩
  clear eh el em ex eo ey eu ec bu r
  refine AWr.round ?_
  repeat (first | refine gon ?_ | refine drg 9 b327_9 w327_9 ?_)
  refine AWr.cut (fun t' h' n' => t' 2 = .p n 0 ∧ t' 3 = .p (n + 1) 0 ∧ t' 4 = .p (n + 2) 0 ∧ t' 5 = .p (n + 3) 0 ∧ t' 6 = .p (n + 4) 0 ∧ t' 14 = .i .i64 2 ∧ t' 7 = .i .i64 2 ∧ t' 8 = .i .u64 (c20 : Int) ∧ t' 17 = .i .i64 1 ∧ h' n = some (.cells [.i .u64 (a0 : Int), .i .u64 (a1 : Int), .i .u64 (a2 : Int), .i .u64 (a3 : Int)]) ∧ h' (n + 1) = some (.cells [.i .u64 (b0 : Int), .i .u64 (b1 : Int), .i .u64 (b2 : Int), .i .u64 (b3 : Int)]) ∧ h' (n + 2) = some (.cells [.i .u64 0, .i .u64 0, .i .u64 0, .i .u64 0]) ∧ h' (n + 3) = some (.cells [.i .u64 0, .i .u64 0, .i .u64 0, .i .u64 0]) ∧ h' (n + 4) = some (.cells [.i .u64 (o00 : Int), .i .u64 (o10 : Int), .i .u64 (o20 : Int), .i .u64 (o12 : Int), .i .u64 (o13 : Int), .i .u64 (c13 : Int), .i .u64 0, .i .u64 0]) ∧ n' = n + 5 ∧ Keeps n h h') ⟨tr, tr, tr, tr, tr, tr, tr, tr, tr, tr, tr, tr, tr, tr, rfl, ks⟩ ?_
  clear t2 t3 t4 t5 t6 t14 t7 t8 t17 q0 q1 q2 q3 q4 kp A B C D E
  rintro t' h' _ ⟨t2, t3, t4, t5, t6, t14, t7, t8, t17, q0, q1, q2, q3, q4, rfl, kp⟩
  obtain ⟨h21, l21, m21, x21, o21, y21, u21, c21, eh, el, em, ex, eo, ey, eu, ec, r, bo21, bc21, bu⟩ := mstep (p := a2 * b1) (o := o12) (c := c20) (mul_lt ka2 kb1) (by first | assumption | decide) (by first | assumption | decide)
  have A : PCalls Tryz.prog 312 [.i .u64 (a2 : Int), .i .u64 (b1 : Int)] (.tup [.i .u64 (h21 : Int), .i .u64 (l21 : Int)]) := by
    haveI : Bd a2 18446744073709551616 := ⟨ka2⟩
    haveI : Bd b1 18446744073709551616 := ⟨kb1⟩
    rw [eh, el]; exact l312 a2 b1
  have B : XCalls Tryz.prog 313 [.i .u64 (o12 : Int), .i .u64 (l21 : Int), .i .u64 0] (.tup [.i .u64 (m21 : Int), .i .u64 (x21 : Int)]) := by rw [em, ex]; exact x313 o12 l21 0 (by decide)
  have C : XCalls Tryz.prog 313 [.i .u64 (m21 : Int), .i .u64 (c20 : Int), .i .u64 0] (.tup [.i .u64 (o21 : Int), .i .u64 (y21 : Int)]) := by rw [eo, ey]; exact x313 m21 c20 0 (by decide)
  have D : IntKind.wrap .u64 ((h21 : Int) + (x21 : Int)) = (u21 : Int) := by rw [eu, ← Int.natCast_add, wrapN, Nat.mod_eq_of_lt (by rw [← eu]; exact bu)]
  have E : IntKind.wrap .u64 ((u21 : Int) + (y21 : Int)) = (c21 : Int) := by rw [ec, ← Int.natCast_add, wrapN, Nat.mod_eq_of_lt (by rw [← ec]; exact bc21)]
  have r21 : Hid _ := ⟨r⟩
  clear eh el em ex eo ey eu ec bu r
  refine AWr.round ?_
  repeat (first | refine gon ?_ | refine drg 9 b327_9 w327_9 ?_)
  refine AWr.cut (fun t' h' n' => t' 2 = .p n 0 ∧ t' 3 = .p (n + 1) 0 ∧ t' 4 = .p (n + 2) 0 ∧ t' 5 = .p (n + 3) 0 ∧ t' 6 = .p (n + 4) 0 ∧ t' 14 = .i .i64 2 ∧ t' 7 = .i .i64 2 ∧ t' 8 = .i .u64 (c21 : Int) ∧ t' 17 = .i .i64 2 ∧ h' n = some (.cells [.i .u64 (a0 : Int), .i .u64 (a1 : Int), .i .u64 (a2 : Int), .i .u64 (a3 : Int)]) ∧ h' (n + 1) = some (.cells [.i .u64 (b0 : Int), .i .u64 (b1 : Int), .i .u64 (b2 : Int), .i .u64 (b3 : Int)]) ∧ h' (n + 2) = some (.cells [.i .u64 0, .i .u64 0, .i .u64 0, .i .u64 0]) ∧ h' (n + 3) = some (.cells [.i .u64 0, .i .u64 0, .i .u64 0, .i .u64 0]) ∧ h' (n + 4) = some (.cells [.i .u64 (o00 : Int), .i .u64 (o10 : Int), .i .u64 (o20 : Int), .i .u64 (o21 : Int), .i .u64 (o13 : Int), .i .u64 (c13 : Int), .i .u64 0, .i .u64 0]) ∧ n' = n + 5 ∧ Keeps n h h') ⟨tr, tr, tr, tr, tr, tr, tr, tr, tr, tr, tr, tr, tr, tr, rfl, ks⟩ ?_
  clear t2 t3 t4 t5 t6 t14 t7 t8 t17 q0 q1 q2 q3 q4 kp A B C D E
  rintro t' h' _ ⟨t2, t3, t4, t5, t6, t14, t7, t8, t17, q0, q1, q2, q3, q4, rfl, kp⟩
  obtain ⟨h22, l22, m22, x22, o22, y22, u22, c22, eh, el, em, ex, eo, ey, eu, ec, r, bo22, bc22, bu⟩ := mstep (p := a2 * b2) (o := o13) (c := c21) (mul_lt ka2 kb2) (by first | assumption | decide) (by first | assumption | decide)
  have A : PCalls Tryz.prog 312 [.i .u64 (a2 : Int), .i .u64 (b2 : Int)] (.tup [.i .u64 (h22 : Int), .i .u64 (l22 : Int)]) := by
    haveI : Bd a2 18446744073709551616 := ⟨ka2⟩
    haveI : Bd b2 18446744073709551616 := ⟨kb2⟩
    rw [eh, el]; exact l312 a2 b2
  have B : XCalls Tryz.prog 313 [.i .u64 (o13 : Int), .i .u64 (l22 : Int), .i .u64 0] (.tup [.i .u64 (m22 : Int), .i .u64 (x22 : Int)]) := by rw [em, ex]; exact x313 o13 l22 0 (by decide)
  have C : XCalls Tryz.prog 313 [.i .u64 (m22 : Int), .i .u64 (c21 : Int), .i .u64 0] (.tup [.i .u64 (o22 : Int), .i .u64 (y22 : Int)]) := by rw [eo, ey]; exact x313 m22 c21 0 (by decide)
  have D : IntKind.wrap .u64 ((h22 : Int) + (x22 : Int)) = (u22 : Int) := by rw [eu, ← Int.natCast_add, wrapN, Nat.mod_eq_of_lt (by rw [← eu]; exact bu)]
  have E : IntKind.wrap .u64 ((u22 : Int) + (y22 : Int)) = (c22 : Int) := by rw [ec, ← Int.natCast_add, wrapN, Nat.mod_eq_of_lt (by rw [← ec]; exact bc22)]
  have r22 : Hid _ := ⟨r⟩
  clear eh el em ex eo ey eu ec bu r
  refine AWr.round ?_
  repeat (first | refine gon ?_ | refine drg 9 b327_9 w327_9 ?_)
  refine AWr.cut (fun t' h' n' => t' 2 = .p n 0 ∧ t' 3 = .p (n + 1) 0 ∧ t' 4 = .p (n + 2) 0 ∧ t' 5 = .p (n + 3) 0 ∧ t' 6 = .p (n + 4) 0 ∧ t' 14 = .i .i64 2 ∧ t' 7 = .i .i64 2 ∧ t' 8 = .i .u64 (c22 : Int) ∧ t' 17 = .i .i64 3 ∧ h' n = some (.cells [.i .u64 (a0 : Int), .i .u64 (a1 : Int), .i .u64 (a2 : Int), .i .u64 (a3 : Int)]) ∧ h' (n + 1) = some (.cells [.i .u64 (b0 : Int), .i .u64 (b1 : Int), .i .u64 (b2 : Int), .i .u64 (b3 : Int)]) ∧ h' (n + 2) = some (.cells [.i .u64 0, .i .u64 0, .i .u64 0, .i .u64 0]) ∧ h' (n + 3) = some (.cells [.i .u64 0, .i .u64 0, .i .u64 0, .i .u64 0]) ∧ h' (n + 4) = some (.cells [.i .u64 (o00 : Int), .i .u64 (o10 : Int), .i .u64 (o20 : Int), .i .u64 (o21 : Int), .i .u64 (o22 : Int), .i .u64 (c13 : Int), .i .u64 0, .i .u64 0]) ∧ n' = n + 5 ∧ Keeps n h h') ⟨tr, tr, tr, tr, tr, tr, tr, tr, tr, tr, tr, tr, tr, tr, rfl, ks⟩ ?_
  clear t2 t3 t4 t5 t6 t14 t7 t8 t17 q0 q1 q2 q3 q4 kp A B C D E
  rintro t' h' _ ⟨t2, t3, t4, t5, t6, t14, t7, t8, t17, q0, q1, q2, q3, q4, rfl, kp⟩
  obtain ⟨h23, l23, m23, x23, o23, y23, u23, c23, eh, el, em, ex, eo, ey, eu, ec, r, bo23, bc23, bu⟩ := mstep (p := a2 * b3) (o := c13) (c := c22) (mul_lt ka2 kb3) (by first | assumption | decide) (by first | assumption | decide)
  have A : PCalls Tryz.prog 312 [.i .u64 (a2 : Int), .i .u64 (b3 : Int)] (.tup [.i .u64 (h23 : Int), .i .u64 (l23 : Int)]) := by
    haveI : Bd a2 18446744073709551616 := ⟨ka2⟩
    haveI : Bd b3 18446744073709551616 := ⟨kb3⟩
    rw [eh, el]; exact l312 a2 b3
  have B : XCalls Tryz.prog 313 [.i .u64 (c13 : Int), .i .u64 (l23 : Int), .i .u64 0] (.tup [.i .u64 (m23 : Int), .i .u64 (x23 : Int)]) := by rw [em, ex]; exact x313 c13 l23 0 (by decide)
  have C : XCalls Tryz.prog 313 [.i .u64 (m23 : Int), .i .u64 (c22 : Int), .i .u64 0] (.tup [.i .u64 (o23 : Int), .i .u64 (y23 : Int)]) := by rw [eo, ey]; exact x313 m23 c22 0 (by decide)
  have D : IntKind.wrap .u64 ((h23 : Int) + (x23 : Int)) = (u23 : Int) := by rw [eu, ← Int.natCast_add, wrapN, Nat.mod_eq_of_lt (by rw [← eu]; exact bu)]
  have E : IntKind.wrap .u64 ((u23 : Int) + (y23 : Int)) = (c23 : Int) := by rw [ec, ← Int.natCast_add, wrapN, Nat.mod_eq_of_lt (by rw [← ec]; exact bc23)]
  have r23 : Hid _ := ⟨r⟩
  clear eh el em ex eo ey eu ec bu r
  refine AWr.round ?_
  repeat (first | refine gon ?_ | refine drg 9 b327_9 w327_9 ?_)
  refine AWr.cut (fun t' h' n' => t' 2 = .p n 0 ∧ t' 3 = .p (n + 1) 0 ∧ t' 4 = .p (n + 2) 0 ∧ t' 5 = .p (n + 3) 0 ∧ t' 6 = .p (n + 4) 0 ∧ t' 14 = .i .i64 2 ∧ t' 7 = .i .i64 2 ∧ t' 8 = .i .u64 (c23 : Int) ∧ t' 17 = .i .i64 4 ∧ h' n = some (.cells [.i .u64 (a0 : Int), .i .u64 (a1 : Int), .i .u64 (a2 : Int), .i .u64 (a3 : Int)]) ∧ h' (n + 1) = some (.cells [.i .u64 (b0 : Int), .i .u64 (b1 : Int), .i .u64 (b2 : Int), .i .u64 (b3 : Int)]) ∧ h' (n + 2) = some (.cells [.i .u64 0, .i .u64 0, .i .u64 0, .i .u64 0]) ∧ h' (n + 3) = some (.cells [.i .u64 0, .i .u64 0, .i .u64 0, .i .u64 0]) ∧ h' (n + 4) = some (.cells [.i .u64 (o00 : Int), .i .u64 (o10 : Int), .i .u64 (o20 : Int), .i .u64 (o21 : Int), .i .u64 (o22 : Int), .i .u64 (o23 : Int), .i .u64 0, .i .u64 0]) ∧ n' = n + 5 ∧ Keeps n h h') ⟨tr, tr, tr, tr, tr, tr, tr, tr, tr, tr, tr, tr, tr, tr, rfl, ks⟩ ?_
  clear t2 t3 t4 t5 t6 t14 t7 t8 t17 q0 q1 q2 q3 q4 kp A B C D E
  rintro t' h' _ ⟨t2, t3, t4, t5, t6, t14, t7, t8, t17, q0, q1, q2, q3, q4, rfl, kp⟩
  refine AWr.round ?_
  repeat (first | refine gon ?_ | refine drg 9 b327_9 w327_9 ?_)
  refine AWr.cut (fun t' h' n' => t' 2 = .p n 0 ∧ t' 3 = .p (n + 1) 0 ∧ t' 4 = .p (n + 2) 0 ∧ t' 5 = .p (n + 3) 0 ∧ t' 6 = .p (n + 4) 0 ∧ t' 14 = .i .i64 3 ∧ h' n = some (.cells [.i .u64 (a0 : Int), .i .u64 (a1 : Int), .i .u64 (a2 : Int), .i .u64 (a3 : Int)]) ∧ h' (n + 1) = some (.cells [.i .u64 (b0 : Int), .i .u64 (b1 : Int), .i .u64 (b2 : Int), .i .u64 (b3 : Int)]) ∧ h' (n + 2) = some (.cells [.i .u64 0, .i .u64 0, .i .u64 0, .i .u64 0]) ∧ h' (n + 3) = some (.cells [.i .u64 0, .i .u64 0, .i .u64 0, .i .u64 0]) ∧ h' (n + 4) = some (.cells [.i .u64 (o00 : Int), .i .u64 (o10 : Int), .i .u64 (o20 : Int), .i .u64 (o21 : Int), .i .u64 (o22 : Int), .i .u64 (o23 : Int), .i .u64 (c23 : Int), .i .u64 0]) ∧ n' = n + 5 ∧ Keeps n h h') ⟨tr, tr, tr, tr, tr, tr, tr, tr, tr, tr, tr, rfl, ks⟩ ?_
  clear t2 t3 t4 t5 t6 t14 t7 t8 t17 q0 q1 q2 q3 q4 kp
  rintro t' h' _ ⟨t2, t3, t4, t5, t6, t14, q0, q1, q2, q3, q4, rfl, kp⟩
  refine AWr.round ?_
  repeat (first | refine gon ?_ | refine drg 9 b327_9 w327_9 ?_)
  refine AWr.loop 5 ?_
  refine AWr.cut (fun t' h' n' => t' 2 = .p n 0 ∧ t' 3 = .p (n + 1) 0 ∧ t' 4 = .p (n + 2) 0 ∧ t' 5 = .p (n + 3) 0 ∧ t' 6 = .p (n + 4) 0 ∧ t' 14 = .i .i64 3 ∧ t' 7 = .i .i64 3 ∧ t' 8 = .i .u64 0 ∧ t' 17 = .i .i64 0 ∧ h' n = some (.cells [.i .u64 (a0 : Int), .i .u64 (a1 : Int), .i .u64 (a2 : Int), .i .u64 (a3 : Int)]) ∧ h' (n + 1) = some (.cells [.i .u64 (b0 : Int), .i .u64 (b1 : Int), .i .u64 (b2 : Int), .i .u64 (b3 : Int)]) ∧ h' (n + 2) = some (.cells [.i .u64 0, .i .u64 0, .i .u64 0, .i .u64 0]) ∧ h' (n + 3) = some (.cells [.i .u64 0, .i .u64 0, .i .u64 0, .i .u64 0]) ∧ h' (n + 4) = some (.cells [.i .u64 (o00 : Int), .i .u64 (o10 : Int), .i .u64 (o20 : Int), .i .u64 (o21 : Int), .i .u64 (o22 : Int), .i .u64 (o23 : Int), .i .u64 (c23 : Int), .i .u64 0]) ∧ n' = n + 5 ∧ Keeps n h h') ⟨tr, tr, tr, tr, tr, tr, tr, tr, tr, tr, tr, tr, tr, tr, rfl, ks⟩ ?_
  clear t2 t3 t4 t5 t6 t14 q0 q1 q2 q3 q4 kp
  rintro t' h' _ ⟨t2, t3, t4, t5, t6, t14, t7, t8, t17, q0, q1, q2, q3, q4, rfl, kp⟩
  obtain ⟨h30, l30, m30, x30, o30, y30, u30, c30, eh, el, em, ex, eo, ey, eu, ec, r, bo30, bc30, bu⟩ := mstep (p := a3 * b0) (o := o21) (c := 0) (mul_lt ka3 kb0) (by first | assumption | decide) (by first | assumption | decide)
  have A : PCalls Tryz.prog 312 [.i .u64 (a3 : Int), .i .u64 (b0 : Int)] (.tup [.i .u64 (h30 : Int), .i .u64 (l30 : Int)]) := by
    haveI : Bd a3 18446744073709551616 := ⟨ka3⟩
    haveI : Bd b0 18446744073709551616 := ⟨kb0⟩
    rw [eh, el]; exact l312 a3 b0
  have B : XCalls Tryz.prog 313 [.i .u64 (o21 : Int), .i .u64 (l30 : Int), .i .u64 0] (.tup [.i .u64 (m30 : Int), .i .u64 (x30 : Int)]) := by rw [em, ex]; exact x313 o21 l30 0 (by decide)
  have C : XCalls Tryz.prog 313 [.i .u64 (m30 : Int), .i .u64 0, .i .u64 0] (.tup [.i .u64 (o30 : Int), .i .u64 (y30 : Int)]) := by rw [eo, ey]; exact x313 m30 0 0 (by decide)
  have D : IntKind.wrap .u64 ((h30 : Int) + (x30 : Int)) = (u30 : Int) := by rw [eu, ← Int.natCast_add, wrapN, Nat.mod_eq_of_lt (by rw [← eu]; exact bu)]
  have E : IntKind.wrap .u64 ((u30 : Int) + (y30 : Int)) = (c30 : Int) := by rw [ec, ← Int.natCast_add, wrapN, Nat.mod_eq_of_lt (by rw [← ec]; exact bc30)]
  have r30 : Hid _ := ⟨r⟩
  clear eh el em ex eo ey eu ec bu r
  refine AWr.round ?_
  repeat (first | refine gon ?_ | refine drg 9 b327_9 w327_9 ?_)
  refine AWr.cut (fun t' h' n' => t' 2 = .p n 0 ∧ t' 3 = .p (n + 1) 0 ∧ t' 4 = .p (n + 2) 0 ∧ t' 5 = .p (n + 3) 0 ∧ t' 6 = .p (n + 4) 0 ∧ t' 14 = .i .i64 3 ∧ t' 7 = .i .i64 3 ∧ t' 8 = .i .u64 (c30 : Int) ∧ t' 17 = .i .i64 1 ∧ h' n = some (.cells [.i .u64 (a0 : Int), .i .u64 (a1 : Int), .i .u64 (a2 : Int), .i .u64 (a3 : Int)]) ∧ h' (n + 1) = some (.cells [.i .u64 (b0 : Int), .i .u64 (b1 : Int), .i .u64 (b2 : Int), .i .u64 (b3 : Int)]) ∧ h' (n + 2) = some (.cells [.i .u64 0, .i .u64 0, .i .u64 0, .i .u64 0]) ∧ h' (n + 3) = some (.cells [.i .u64 0, .i .u64 0, .i .u64 0, .i .u64 0]) ∧ h' (n + 4) = some (.cells [.i .u64 (o00 : Int), .i .u64 (o10 : Int), .i .u64 (o20 : Int), .i .u64 (o30 : Int), .i .u64 (o22 : Int), .i .u64 (o23 : Int), .i .u64 (c23 : Int), .i .u64 0]) ∧ n' = n + 5 ∧ Keeps n h h') ⟨tr, tr, tr, tr, tr, tr, tr, tr, tr, tr, tr, tr, tr, tr, rfl, ks⟩ ?_
  clear t2 t3 t4 t5 t6 t14 t7 t8 t17 q0 q1 q2 q3 q4 kp A B C D E
  rintro t' h' _ ⟨t2, t3, t4, t5, t6, t14, t7, t8, t17, q0, q1, q2, q3, q4, rfl, kp⟩
  obtain ⟨h31, l31, m31, x31, o31, y31, u31, c31, eh, el, em, ex, eo, ey, eu, ec, r, bo31, bc31, bu⟩ := mstep (p := a3 * b1) (o := o22) (c := c30) (mul_lt ka3 kb1) (by first | assumption | decide) (by first | assumption | decide)
  have A : PCalls Tryz.prog 312 [.i .u64 (a3 : Int), .i .u64 (b1 : Int)] (.tup [.i .u64 (h31 : Int), .i .u64 (l31 : Int)]) := by
    haveI : Bd a3 18446744073709551616 := ⟨ka3⟩
    haveI : Bd b1 18446744073709551616 := ⟨kb1⟩
    rw [eh, el]; exact l312 a3 b1
  have B : XCalls Tryz.prog 313 [.i .u64 (o22 : Int), .i .u64 (l31 : Int), .i .u64 0] (.tup [.i .u64 (m31 : Int), .i .u64 (x31 : Int)]) := by rw [em, ex]; exact x313 o22 l31 0 (by decide)
  have C : XCalls Tryz.prog 313 [.i .u64 (m31 : Int), .i .u64 (c30 : Int), .i .u64 0] (.tup [.i .u64 (o31 : Int), .i .u64 (y31 : Int)]) := by rw [eo, ey]; exact x313 m31 c30 0 (by decide)
  have D : IntKind.wrap .u64 ((h31 : Int) + (x31 : Int)) = (u31 : Int) := by rw [eu, ← Int.natCast_add, wrapN, Nat.mod_eq_of_lt (by rw [← eu]; exact bu)]
  have E : IntKind.wrap .u64 ((u31 : Int) + (y31 : Int)) = (c31 : Int) := by rw [ec, ← Int.natCast_add, wrapN, Nat.mod_eq_of_lt (by rw [← ec]; exact bc31)]
  have r31 : Hid _ := ⟨r⟩
  clear eh el em ex eo ey eu ec bu r
  refine AWr.round ?_
  repeat (first | refine gon ?_ | refine drg 9 b327_9 w327_9 ?_)
  refine AWr.cut (fun t' h' n' => t' 2 = .p n 0 ∧ t' 3 = .p (n + 1) 0 ∧ t' 4 = .p (n + 2) 0 ∧ t' 5 = .p (n + 3) 0 ∧ t' 6 = .p (n + 4) 0 ∧ t' 14 = .i .i64 3 ∧ t' 7 = .i .i64 3 ∧ t' 8 = .i .u64 (c31 : Int) ∧ t' 17 = .i .i64 2 ∧ h' n = some (.cells [.i .u64 (a0 : Int), .i .u64 (a1 : Int), .i .u64 (a2 : Int), .i .u64 (a3 : Int)]) ∧ h' (n + 1) = some (.cells [.i .u64 (b0 : Int), .i .u64 (b1 : Int), .i .u64 (b2 : Int), .i .u64 (b3 : Int)]) ∧ h' (n + 2) = some (.cells [.i .u64 0, .i .u64 0, .i .u64 0, .i .u64 0]) ∧ h' (n + 3) = some (.cells [.i .u64 0, .i .u64 0, .i .u64 0, .i .u64 0]) ∧ h' (n + 4) = some (.cells [.i .u64 (o00 : Int), .i .u64 (o10 : Int), .i .u64 (o20 : Int), .i .u64 (o30 : Int), .i .u64 (o31 : Int), .i .u64 (o23 : Int), .i .u64 (c23 : Int), .i .u64 0]) ∧ n' = n + 5 ∧ Keeps n h h') ⟨tr, tr, tr, tr, tr, tr, tr, tr, tr, tr, tr, tr, tr, tr, rfl, ks⟩ ?_
  clear t2 t3 t4 t5 t6 t14 t7 t8 t17 q0 q1 q2 q3 q4 kp A B C D E
  rintro t' h' _ ⟨t2, t3, t4, t5, t6, t14, t7, t8, t17, q0, q1, q2, q3, q4, rfl, kp⟩
  obtain ⟨h32, l32, m32, x32, o32, y32, u32, c32, eh, el, em, ex, eo, ey, eu, ec, r, bo32, bc32, bu⟩ := mstep (p := a3 * b2) (o := o23) (c := c31) (mul_lt ka3 kb2) (by first | assumption | decide) (by first | assumption | decide)
  have A : PCalls Tryz.prog 312 [.i .u64 (a3 : Int), .i .u64 (b2 : Int)] (.tup [.i .u64 (h32 : Int), .i .u64 (l32 : Int)]) := by
    haveI : Bd a3 18446744073709551616 := ⟨ka3⟩
    haveI : Bd b2 18446744073709551616 := ⟨kb2⟩
    rw [eh, el]; exact l312 a3 b2
  have B : XCalls Tryz.prog 313 [.i .u64 (o23 : Int), .i .u64 (l32 : Int), .i .u64 0] (.tup [.i .u64 (m32 : Int), .i .u64 (x32 : Int)]) := by rw [em, ex]; exact x313 o23 l32 0 (by decide)
  have C : XCalls Tryz.prog 313 [.i .u64 (m32 : Int), .i .u64 (c31 : Int), .i .u64 0] (.tup [.i .u64 (o32 : Int), .i .u64 (y32 : Int)]) := by rw [eo, ey]; exact x313 m32 c31 0 (by decide)
  have D : IntKind.wrap .u64 ((h32 : Int) + (x32 : Int)) = (u32 : Int) := by rw [eu, ← Int.natCast_add, wrapN, Nat.mod_eq_of_lt (by rw [← eu]; exact bu)]
  have E : IntKind.wrap .u64 ((u32 : Int) + (y32 : Int)) = (c32 : Int) := by rw [ec, ← Int.natCast_add, wrapN, Nat.mod_eq_of_lt (by rw [← ec]; exact bc32)]
  have r32 : Hid _ := ⟨r⟩
  clear eh el em ex eo ey eu ec bu r
  refine AWr.round ?_
  repeat (first | refine gon ?_ | refine drg 9 b327_9 w327_9 ?_)
  refine AWr.cut (fun t' h' n' => t' 2 = .p n 0 ∧ t' 3 = .p (n + 1) 0 ∧ t' 4 = .p (n + 2) 0 ∧ t' 5 = .p (n + 3) 0 ∧ t' 6 = .p (n + 4) 0 ∧ t' 14 = .i .i64 3 ∧ t' 7 = .i .i64 3 ∧ t' 8 = .i .u64 (c32 : Int) ∧ t' 17 = .i .i64 3 ∧ h' n = some (.cells [.i .u64 (a0 : Int), .i .u64 (a1 : Int), .i .u64 (a2 : Int), .i .u64 (a3 : Int)]) ∧ h' (n + 1) = some (.cells [.i .u64 (b0 : Int), .i .u64 (b1 : Int), .i .u64 (b2 : Int), .i .u64 (b3 : Int)]) ∧ h' (n + 2) = some (.cells [.i .u64 0, .i .u64 0, .i .u64 0, .i .u64 0]) ∧ h' (n + 3) = some (.cells [.i .u64 0, .i .u64 0, .i .u64 0, .i .u64 0]) ∧ h' (n + 4) = some (.cells [.i .u64 (o00 : Int), .i .u64 (o10 : Int), .i .u64 (o20 : Int), .i .u64 (o30 : Int), .i .u64 (o31 : Int), .i .u64 (o32 : Int), .i .u64 (c23 : Int), .i .u64 0]) ∧ n' = n + 5 ∧ Keeps n h h') ⟨tr, tr, tr, tr, tr, tr, tr, tr, tr, tr, tr, tr, tr, tr, rfl, ks⟩ ?_
  clear t2 t3 t4 t5 t6 t14 t7 t8 t17 q0 q1 q2 q3 q4 kp A B C D E
  rintro t' h' _ ⟨t2, t3, t4, t5, t6, t14, t7, t8, t17, q0, q1, q2, q3, q4, rfl, kp⟩
  obtain ⟨h33, l33, m33, x33, o33, y33, u33, c33, eh, el, em, ex, eo, ey, eu, ec, r, bo33, bc33, bu⟩ := mstep (p := a3 * b3) (o := c23) (c := c32) (mul_lt ka3 kb3) (by first | assumption | decide) (by first | assumption | decide)
  have A : PCalls Tryz.prog 312 [.i .u64 (a3 : Int), .i .u64 (b3 : Int)] (.tup [.i .u64 (h33 : Int), .i .u64 (l33 : Int)]) := by
    haveI : Bd a3 18446744073709551616 := ⟨ka3⟩
    haveI : Bd b3 18446744073709551616 := ⟨kb3⟩
    rw [eh, el]; exact l312 a3 b3
  have B : XCalls Tryz.prog 313 [.i .u64 (c23 : Int), .i .u64 (l33 : Int), .i .u64 0] (.tup [.i .u64 (m33 : Int), .i .u64 (x33 : Int)]) := by rw [em, ex]; exact x313 c23 l33 0 (by decide)
  have C : XCalls Tryz.prog 313 [.i .u64 (m33 : Int), .i .u64 (c32 : Int), .i .u64 0] (.tup [.i .u64 (o33 : Int), .i .u64 (y33 : Int)]) := by rw [eo, ey]; exact x313 m33 c32 0 (by decide)
  have D : IntKind.wrap .u64 ((h33 : Int) + (x33 : Int)) = (u33 : Int) := by rw [eu, ← Int.natCast_add, wrapN, Nat.mod_eq_of_lt (by rw [← eu]; exact bu)]
  have E : IntKind.wrap .u64 ((u33 : Int) + (y33 : Int)) = (c33 : Int) := by rw [ec, ← Int.natCast_add, wrapN, Nat.mod_eq_of_lt (by rw [← ec]; exact bc33)]
  have r33 : Hid _ := ⟨r⟩
  clear eh el em ex eo ey eu ec bu r
  refine AWr.round ?_
  repeat (first | refine gon ?_ | refine drg 9 b327_9 w327_9 ?_)
  refine AWr.cut (fun t' h' n' => t' 2 = .p n 0 ∧ t' 3 = .p (n + 1) 0 ∧ t' 4 = .p (n + 2) 0 ∧ t' 5 = .p (n + 3) 0 ∧ t' 6 = .p (n + 4) 0 ∧ t' 14 = .i .i64 3 ∧ t' 7 = .i .i64 3 ∧ t' 8 = .i .u64 (c33 : Int) ∧ t' 17 = .i .i64 4 ∧ h' n = some (.cells [.i .u64 (a0 : Int), .i .u64 (a1 : Int), .i .u64 (a2 : Int), .i .u64 (a3 : Int)]) ∧ h' (n + 1) = some (.cells [.i .u64 (b0 : Int), .i .u64 (b1 : Int), .i .u64 (b2 : Int), .i .u64 (b3 : Int)]) ∧ h' (n + 2) = some (.cells [.i .u64 0, .i .u64 0, .i .u64 0, .i .u64 0]) ∧ h' (n + 3) = some (.cells [.i .u64 0, .i .u64 0, .i .u64 0, .i .u64 0]) ∧ h' (n + 4) = some (.cells [.i .u64 (o00 : Int), .i .u64 (o10 : Int), .i .u64 (o20 : Int), .i .u64 (o30 : Int), .i .u64 (o31 : Int), .i .u64 (o32 : Int), .i .u64 (o33 : Int), .i .u64 0]) ∧ n' = n + 5 ∧ Keeps n h h') ⟨tr, tr, tr, tr, tr, tr, tr, tr, tr, tr, tr, tr, tr, tr, rfl, ks⟩ ?_
  clear t2 t3 t4 t5 t6 t14 t7 t8 t17 q0 q1 q2 q3 q4 kp A B C D E
  rintro t' h' _ ⟨t2, t3, t4, t5, t6, t14, t7, t8, t17, q0, q1, q2, q3, q4, rfl, kp⟩
  refine AWr.round ?_
  repeat (first | refine gon ?_ | refine drg 9 b327_9 w327_9 ?_)
  refine AWr.cut (fun t' h' n' => t' 2 = .p n 0 ∧ t' 3 = .p (n + 1) 0 ∧ t' 4 = .p (n + 2) 0 ∧ t' 5 = .p (n + 3) 0 ∧ t' 6 = .p (n + 4) 0 ∧ t' 14 = .i .i64 4 ∧ h' n = some (.cells [.i .u64 (a0 : Int), .i .u64 (a1 : Int), .i .u64 (a2 : Int), .i .u64 (a3 : Int)]) ∧ h' (n + 1) = some (.cells [.i .u64 (b0 : Int), .i .u64 (b1 : Int), .i .u64 (b2 : Int), .i .u64 (b3 : Int)]) ∧ h' (n + 2) = some (.cells [.i .u64 0, .i .u64 0, .i .u64 0, .i .u64 0]) ∧ h' (n + 3) = some (.cells [.i .u64 0, .i .u64 0, .i .u64 0, .i .u64 0]) ∧ h' (n + 4) = some (.cells [.i .u64 (o00 : Int), .i .u64 (o10 : Int), .i .u64 (o20 : Int), .i .u64 (o30 : Int), .i .u64 (o31 : Int), .i .u64 (o32 : Int), .i .u64 (o33 : Int), .i .u64 (c33 : Int)]) ∧ n' = n + 5 ∧ Keeps n h h') ⟨tr, tr, tr, tr, tr, tr, tr, tr, tr, tr, tr, rfl, ks⟩ ?_
  clear t2 t3 t4 t5 t6 t14 t7 t8 t17 q0 q1 q2 q3 q4 kp
  rintro t' h' _ ⟨t2, t3, t4, t5, t6, t14, q0, q1, q2, q3, q4, rfl, kp⟩
  refine AWr.round ?_
  repeat (first | refine gon ?_ | refine drg 9 b327_9 w327_9 ?_)
  refine AWp.frz1 (k := 6) (j := n + 4) (d := 1) q4 (x := .q [.i .u64 (o00 : Int), .i .u64 (o10 : Int), .i .u64 (o20 : Int), .i .u64 (o30 : Int), .i .u64 (o31 : Int), .i .u64 (o32 : Int), .i .u64 (o33 : Int), .i .u64 (c33 : Int)] 0) (by simp only [push_cast, *]; exact frz_ptr) ?_
  clear t6 q4
  repeat (first | refine go ?_ | refine drg 17 b327_17 w327_17 ?_)
  have fin : a * b = o00 + 18446744073709551616 * o10 + 340282366920938463463374607431768211456 * o20 + 6277101735386680763835789423207666416102355444464034512896 * o30 + 115792089237316195423570985008687907853269984665640564039457584007913129639936 * (o31 + 18446744073709551616 * o32 + 340282366920938463463374607431768211456 * o33 + 6277101735386680763835789423207666416102355444464034512896 * c33) := by
    have e := mul_open a0 a1 a2 a3 b0 b1 b2 b3
    rw [← La.get, ← Lb.get] at e
    exact e.trans (mul_sum r00.get r01.get r02.get r03.get r10.get r11.get r12.get r13.get r20.get r21.get r22.get r23.get r30.get r31.get r32.get r33.get)
  have fin2 := dg_sum fin bo00 bo10 bo20 bo30
  rw [HR.get, fin2.2, fin2.1, dg_of bo31 bo32 bo33 bc33]
  clear fin fin2 HR La Lb r00 r01 r02 r03 r10 r11 r12 r13 r20 r21 r22 r23 r30 r31 r32 r33
  exact outP
instance (a b : Nat) [Bd a M256] [Bd b M256] : Ct Tryz.prog 327 [.agg (numC a), .agg (numC b)] (.tup [.agg (numC (a * b % M256)), .agg (numC (a * b / M256))]) := ⟨l327 a b⟩

end Go.Proofs.YtmkefpjpghmonaaGreat
