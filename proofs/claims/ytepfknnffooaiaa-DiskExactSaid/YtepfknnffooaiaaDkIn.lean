import Derived.Test.YtepfknnffooaiaaDkI
namespace Go.Proofs.Ytepfknnffooaiaa
open Go.Av
set_option linter.unusedVariables false
set_option linter.unusedSimpArgs false
/-! ### arguments of the disk's laws -/
theorem u8_wf {x : Int} (h : (Lit.int .u8 x).wf = true) : 0 ≤ x ∧ x ≤ 255 := by
  simp only [Lit.wf, IntKind.min, IntKind.max, IntKind.signed, IntKind.bits, Bool.and_eq_true, decide_eq_true_eq, Bool.false_eq_true, if_false] at h
  omega
theorem i64_wf {x : Int} (h : (Lit.int .i64 x).wf = true) : -9223372036854775808 ≤ x ∧ x ≤ 9223372036854775807 := by
  simp only [Lit.wf, IntKind.min, IntKind.max, IntKind.signed, IntKind.bits, Bool.and_eq_true, decide_eq_true_eq, if_true] at h
  omega
theorem bytes_of : ∀ (cs : List AV), (∀ i, i < cs.length → ∃ m, (cs.drop i).take 1 = [AV.i .u8 m] ∧ 0 ≤ m ∧ m ≤ 255) → ∃ b, cs = cellsB b
  | [], _ => ⟨[], rfl⟩
  | x :: cs, h => by
    obtain ⟨m, hm, h0, h1⟩ := h 0 (Nat.succ_pos _)
    simp only [List.drop_zero, List.take_succ_cons, List.take_zero, List.cons.injEq, and_true] at hm
    obtain ⟨b, hb⟩ := bytes_of cs (fun i hi => by
      obtain ⟨k, hk⟩ := h (i + 1) (by simp only [List.length_cons]; omega)
      exact ⟨k, by simpa using hk⟩)
    refine ⟨UInt8.ofNat m.toNat :: b, ?_⟩
    have e : (((UInt8.ofNat m.toNat).toNat : Nat) : Int) = m := by
      have : (UInt8.ofNat m.toNat).toNat = m.toNat % 256 := by simp
      rw [this]; omega
    rw [hm, hb]
    simp only [cellsB, List.map_cons, e]
theorem sh_bytes {xs : List AV} (h : Sh (.slice (.int .u8)) xs) : ∃ z b, xs = [.ro z (cellsB b) b.length] ∧ (z = true → b = []) := by
  simp only [Sh, Ty.cells, Nat.mul_one] at h
  rcases h with rfl | ⟨cs, len, rfl, _, hl, hel⟩
  · exact ⟨true, [], rfl, fun _ => rfl⟩
  · obtain ⟨b, rfl⟩ := bytes_of cs (fun i hi => by
      obtain ⟨k, hk, hw⟩ := hel i (by omega)
      exact ⟨k, hk, u8_wf hw⟩)
    exact ⟨false, b, by rw [← hl]; simp [cellsB], by simp⟩
theorem bools_of : ∀ (cs : List AV), (∀ i, i < cs.length → ∃ m, (cs.drop i).take 1 = [AV.b m]) → ∃ b, cs = bools b
  | [], _ => ⟨[], rfl⟩
  | x :: cs, h => by
    obtain ⟨m, hm⟩ := h 0 (Nat.succ_pos _)
    simp only [List.drop_zero, List.take_succ_cons, List.take_zero, List.cons.injEq, and_true] at hm
    obtain ⟨b, hb⟩ := bools_of cs (fun i hi => by
      obtain ⟨k, hk⟩ := h (i + 1) (by simp only [List.length_cons]; omega)
      exact ⟨k, by simpa using hk⟩)
    exact ⟨m :: b, by rw [hm, hb]; rfl⟩
theorem sh_bools {xs : List AV} (h : Sh (.slice .bool) xs) : ∃ z b, xs = [.ro z (bools b) b.length] ∧ (z = true → b = []) := by
  simp only [Sh, Ty.cells, Nat.mul_one] at h
  rcases h with rfl | ⟨cs, len, rfl, _, hl, hel⟩
  · exact ⟨true, [], rfl, fun _ => rfl⟩
  · obtain ⟨b, rfl⟩ := bools_of cs (fun i hi => hel i (by omega))
    exact ⟨false, b, by rw [← hl]; simp [bools], by simp⟩
def intsV (l : List Int) : List AV := l.map (.i .i64)
theorem len_intsV (l : List Int) : (intsV l).length = l.length := List.length_map ..
theorem ints_of : ∀ (cs : List AV), (∀ i, i < cs.length → ∃ m, (cs.drop i).take 1 = [AV.i .i64 m] ∧ (Lit.int .i64 m).wf = true) → ∃ ms, cs = intsV ms ∧ ∀ x, x ∈ ms → -9223372036854775808 ≤ x ∧ x ≤ 9223372036854775807
  | [], _ => ⟨[], rfl, by simp⟩
  | x :: cs, h => by
    obtain ⟨m, hm, hw⟩ := h 0 (Nat.succ_pos _)
    simp only [List.drop_zero, List.take_succ_cons, List.take_zero, List.cons.injEq, and_true] at hm
    obtain ⟨ms, hms, hb⟩ := ints_of cs (fun i hi => by
      obtain ⟨k, hk⟩ := h (i + 1) (by simp only [List.length_cons]; omega)
      exact ⟨k, by simpa using hk⟩)
    refine ⟨m :: ms, by rw [hm, hms]; rfl, fun x hx => ?_⟩
    rcases List.mem_cons.1 hx with rfl | hx
    · exact i64_wf hw
    · exact hb x hx
theorem sh_ints {xs : List AV} (h : Sh (.slice (.int .i64)) xs) : ∃ z ms, xs = [.ro z (intsV ms) ms.length] ∧ (∀ x, x ∈ ms → -9223372036854775808 ≤ x ∧ x ≤ 9223372036854775807) := by
  simp only [Sh, Ty.cells, Nat.mul_one] at h
  rcases h with rfl | ⟨cs, len, rfl, _, hl, hel⟩
  · exact ⟨true, [], rfl, by simp⟩
  · obtain ⟨ms, rfl, hb⟩ := ints_of cs (fun i hi => hel i (by omega))
    exact ⟨false, ms, by rw [← hl]; simp [intsV], hb⟩
/-- A text of bytes as it came in: nil, or not. -/
structure Bt where
  z : Bool
  b : List UInt8
def Bt.v (x : Bt) : AV := .ro x.z (cellsB x.b) x.b.length
def btsV (l : List Bt) : List AV := l.map Bt.v
theorem len_btsV (l : List Bt) : (btsV l).length = l.length := List.length_map ..
theorem bts_of : ∀ (cs : List AV), (∀ i, i < cs.length → Sh (.slice (.int .u8)) ((cs.drop i).take 1)) → ∃ l, cs = btsV l ∧ ∀ x, x ∈ l → x.z = true → x.b = []
  | [], _ => ⟨[], rfl, by simp⟩
  | x :: cs, h => by
    obtain ⟨z, b, hm, hz⟩ := sh_bytes (h 0 (Nat.succ_pos _))
    simp only [List.drop_zero, List.take_succ_cons, List.take_zero, List.cons.injEq, and_true] at hm
    obtain ⟨l, hl, hb⟩ := bts_of cs (fun i hi => by
      have := h (i + 1) (by simp only [List.length_cons]; omega)
      simpa using this)
    refine ⟨⟨z, b⟩ :: l, by rw [hm, hl]; rfl, fun x hx => ?_⟩
    rcases List.mem_cons.1 hx with rfl | hx
    · exact hz
    · exact hb x hx
theorem cells_bt : (Ty.slice (.int .u8)).cells = 1 := by kernel_rfl
theorem sh_bts {xs : List AV} (h : Sh (.slice (.slice (.int .u8))) xs) : ∃ z l, xs = [.ro z (btsV l) l.length] ∧ (z = true → l = []) ∧ ∀ x, x ∈ l → x.z = true → x.b = [] := by
  have h := (show xs = [.ro true [] 0] ∨ ∃ cs len, xs = [.ro false cs len] ∧ len ≤ maxLen ∧ cs.length = len * 1 ∧ ∀ i, i < len → Sh (.slice (.int .u8)) ((cs.drop (i * 1)).take 1) from by simpa only [Sh, cells_bt] using h)
  simp only [Nat.mul_one] at h
  rcases h with rfl | ⟨cs, len, rfl, _, hl, hel⟩
  · exact ⟨true, [], rfl, fun _ => rfl, by simp⟩
  · obtain ⟨l, rfl, hb⟩ := bts_of cs (fun i hi => hel i (by omega))
    exact ⟨false, l, by rw [← hl, len_btsV], by simp, hb⟩
/-- What is done. -/
structure Act where
  dO : Int
  I : Int
  B : Bt
  raw : Bool
  kz : Bool
  keep : List Bool
  torn : Int
structure Act.Ok (a : Act) : Prop where
  d1 : -9223372036854775808 ≤ a.dO ∧ a.dO ≤ 9223372036854775807
  i1 : -9223372036854775808 ≤ a.I ∧ a.I ≤ 9223372036854775807
  bz : a.B.z = true → a.B.b = []
  kz : a.kz = true → a.keep = []
def Act.k (a : Act) : AV := .ro a.kz (bools a.keep) a.keep.length
def actC (a : Act) : List AV := [.i .i64 a.dO, .i .i64 a.I, a.B.v, .b a.raw, a.k, .i .i64 a.torn]
def acts : List Act → List AV
  | [] => []
  | a :: l => actC a ++ acts l
theorem acts_len : ∀ l, (acts l).length = l.length * 6
  | [] => rfl
  | a :: l => by simp only [acts, actC, List.length_append, List.length_cons, List.length_nil, acts_len l]; omega
theorem acts_get : ∀ {l : List Act} {i : Nat} (hi : i < l.length), ((acts l).drop (i * 6)).take 6 = actC l[i]
  | a :: l, 0, _ => rfl
  | a :: l, i + 1, hi => by
    rw [show (i + 1) * 6 = 6 + i * 6 by omega, ← List.drop_drop]
    exact acts_get (l := l) (by simpa using hi)
abbrev tyAct : Ty := .prod [.int .i64, .int .i64, .slice (.int .u8), .bool, .slice .bool, .int .i64]
theorem cells_act : tyAct.cells = 6 := by kernel_rfl
theorem sh_act {xs : List AV} (h : Sh tyAct xs) : ∃ a : Act, xs = actC a ∧ a.Ok := by
  obtain ⟨ya, za, rfl, _, sa, yb, zb, rfl, _, sb, yc, zc, rfl, _, sc, yd, zd, rfl, _, sd, ye, ze, rfl, _, se, yf, zf, rfl, _, sf, rfl⟩ := (show ∃ ys zs, xs = ys ++ zs ∧ ys.length = _ ∧ Sh (.int .i64) ys ∧ ∃ y1 z1, zs = y1 ++ z1 ∧ y1.length = _ ∧ Sh (.int .i64) y1 ∧ ∃ y2 z2, z1 = y2 ++ z2 ∧ y2.length = _ ∧ Sh (.slice (.int .u8)) y2 ∧ ∃ y3 z3, z2 = y3 ++ z3 ∧ y3.length = _ ∧ Sh .bool y3 ∧ ∃ y4 z4, z3 = y4 ++ z4 ∧ y4.length = _ ∧ Sh (.slice .bool) y4 ∧ ∃ y5 z5, z4 = y5 ++ z5 ∧ y5.length = _ ∧ Sh (.int .i64) y5 ∧ z5 = [] from by simpa only [tyAct, Sh, ShAll] using h)
  obtain ⟨z, b, rfl, hz⟩ := sh_bytes sc
  obtain ⟨kz, keep, rfl, hk⟩ := sh_bools se
  simp only [Sh] at sa sb sd sf
  obtain ⟨x0, rfl, w0⟩ := sa
  obtain ⟨x1, rfl, w1⟩ := sb
  obtain ⟨x3, rfl⟩ := sd
  obtain ⟨x5, rfl, _⟩ := sf
  exact ⟨⟨x0, x1, ⟨z, b⟩, x3, kz, keep, x5⟩, rfl, i64_wf w0, i64_wf w1, hz, hk⟩
theorem acts_of : ∀ (len : Nat) (cs : List AV), cs.length = len * 6 → (∀ i, i < len → Sh tyAct ((cs.drop (i * 6)).take 6)) → ∃ l : List Act, cs = acts l ∧ l.length = len ∧ ∀ x, x ∈ l → x.Ok
  | 0, cs, hl, _ => ⟨[], by have : cs = [] := by simpa using hl
                            rw [this]; rfl, rfl, by simp⟩
  | n + 1, cs, hl, h => by
    obtain ⟨t, ht, hz⟩ := sh_act (h 0 (Nat.succ_pos _))
    rw [Nat.zero_mul, List.drop_zero] at ht
    obtain ⟨l, h1, h2, h3⟩ := acts_of n (cs.drop 6) (by rw [List.length_drop]; omega) (fun i hi => by
      have := h (i + 1) (by omega)
      rw [List.drop_drop, show 6 + i * 6 = (i + 1) * 6 by omega]
      exact this)
    refine ⟨t :: l, ?_, by simp [h2], fun x hx => ?_⟩
    · show cs = actC t ++ acts l
      rw [← ht, ← h1, List.take_append_drop]
    · rcases List.mem_cons.1 hx with rfl | hx
      · exact hz
      · exact h3 x hx
theorem sh_acts {xs : List AV} (h : Sh (.slice tyAct) xs) : ∃ z l, xs = [.ro z (acts l) l.length] ∧ (z = true → l = []) ∧ ∀ x, x ∈ l → x.Ok := by
  have h := (show xs = [.ro true [] 0] ∨ ∃ cs len, xs = [.ro false cs len] ∧ len ≤ maxLen ∧ cs.length = len * 6 ∧ ∀ i, i < len → Sh tyAct ((cs.drop (i * 6)).take 6) from by simpa only [Sh, cells_act] using h)
  rcases h with rfl | ⟨cs, len, rfl, _, hl, hel⟩
  · exact ⟨true, [], rfl, fun _ => rfl, by simp⟩
  · obtain ⟨l, rfl, rfl, h3⟩ := acts_of len cs hl hel
    exact ⟨false, l, rfl, by simp, h3⟩
end Go.Proofs.Ytepfknnffooaiaa
