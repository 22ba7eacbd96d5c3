import Derived.Test.YtepfknnffooaiaaDoorDoU
namespace Go.Proofs.YtepfknnffooaiaaDoor
open Go.Av
set_option linter.unusedVariables false
set_option linter.unusedSimpArgs false
/-! ### arguments of the disk's laws -/
theorem u8_wf {x : Int} (h : (Lit.int .u8 x).wf = true) : 0 ≤ x ∧ x ≤ 255 := by
  simp only [Lit.wf, IntKind.min, IntKind.max, IntKind.signed, IntKind.bits, Bool.and_eq_true, decide_eq_true_eq, Bool.false_eq_true, if_false] at h
  omega
theorem i64_wf {x : Int} (h : (Lit.int .i64 x).wf = true) : -9223372036854775808 ≤ x ∧ x ≤ 9223372036854775807 := by
  simp only [Lit.wf, IntKind.min, IntKind.max, IntKind.signed, IntKind.bits, Bool.and_eq_true, decide_eq_true_eq, if_true] at h
  omega
theorem bytes_of : ∀ (cs : List AV), (∀ i, i < cs.length → ∃ m, (cs.drop i).take 1 = [AV.i .u8 m] ∧ 0 ≤ m ∧ m ≤ 255) → ∃ b, cs = cellsB b
  | [], _ => ⟨[], rfl⟩
  | x :: cs, h => by
    obtain ⟨m, hm, h0, h1⟩ := h 0 (Nat.succ_pos _)
    simp only [List.drop_zero, List.take_succ_cons, List.take_zero, List.cons.injEq, and_true] at hm
    obtain ⟨b, hb⟩ := bytes_of cs (fun i hi => by
      obtain ⟨k, hk⟩ := h (i + 1) (by simp only [List.length_cons]; omega)
      exact ⟨k, by simpa using hk⟩)
    refine ⟨UInt8.ofNat m.toNat :: b, ?_⟩
    have e : (((UInt8.ofNat m.toNat).toNat : Nat) : Int) = m := by
      have : (UInt8.ofNat m.toNat).toNat = m.toNat % 256 := by simp
      rw [this]; omega
    rw [hm, hb]
    simp only [cellsB, List.map_cons, e]
theorem sh_bytes {xs : List AV} (h : Sh (.slice (.int .u8)) xs) : ∃ z b, xs = [.ro z (cellsB b) b.length] ∧ (z = true → b = []) := by
  simp only [Sh, Ty.cells, Nat.mul_one] at h
  rcases h with rfl | ⟨cs, len, rfl, _, hl, hel⟩
  · exact ⟨true, [], rfl, fun _ => rfl⟩
  · obtain ⟨b, rfl⟩ := bytes_of cs (fun i hi => by
      obtain ⟨k, hk, hw⟩ := hel i (by omega)
      exact ⟨k, hk, u8_wf hw⟩)
    exact ⟨false, b, by rw [← hl]; simp [cellsB], by simp⟩
theorem bools_of : ∀ (cs : List AV), (∀ i, i < cs.length → ∃ m, (cs.drop i).take 1 = [AV.b m]) → ∃ b, cs = bools b
  | [], _ => ⟨[], rfl⟩
  | x :: cs, h => by
    obtain ⟨m, hm⟩ := h 0 (Nat.succ_pos _)
    simp only [List.drop_zero, List.take_succ_cons, List.take_zero, List.cons.injEq, and_true] at hm
    obtain ⟨b, hb⟩ := bools_of cs (fun i hi => by
      obtain ⟨k, hk⟩ := h (i + 1) (by simp only [List.length_cons]; omega)
      exact ⟨k, by simpa using hk⟩)
    exact ⟨m :: b, by rw [hm, hb]; rfl⟩
theorem sh_bools {xs : List AV} (h : Sh (.slice .bool) xs) : ∃ z b, xs = [.ro z (bools b) b.length] ∧ (z = true → b = []) := by
  simp only [Sh, Ty.cells, Nat.mul_one] at h
  rcases h with rfl | ⟨cs, len, rfl, _, hl, hel⟩
  · exact ⟨true, [], rfl, fun _ => rfl⟩
  · obtain ⟨b, rfl⟩ := bools_of cs (fun i hi => hel i (by omega))
    exact ⟨false, b, by rw [← hl]; simp [bools], by simp⟩
def intsV (l : List Int) : List AV := l.map (.i .i64)
theorem len_intsV (l : List Int) : (intsV l).length = l.length := List.length_map ..
theorem ints_of : ∀ (cs : List AV), (∀ i, i < cs.length → ∃ m, (cs.drop i).take 1 = [AV.i .i64 m] ∧ (Lit.int .i64 m).wf = true) → ∃ ms, cs = intsV ms ∧ ∀ x, x ∈ ms → -9223372036854775808 ≤ x ∧ x ≤ 9223372036854775807
  | [], _ => ⟨[], rfl, by simp⟩
  | x :: cs, h => by
    obtain ⟨m, hm, hw⟩ := h 0 (Nat.succ_pos _)
    simp only [List.drop_zero, List.take_succ_cons, List.take_zero, List.cons.injEq, and_true] at hm
    obtain ⟨ms, hms, hb⟩ := ints_of cs (fun i hi => by
      obtain ⟨k, hk⟩ := h (i + 1) (by simp only [List.length_cons]; omega)
      exact ⟨k, by simpa using hk⟩)
    refine ⟨m :: ms, by rw [hm, hms]; rfl, fun x hx => ?_⟩
    rcases List.mem_cons.1 hx with rfl | hx
    · exact i64_wf hw
    · exact hb x hx
theorem sh_ints {xs : List AV} (h : Sh (.slice (.int .i64)) xs) : ∃ z ms, xs = [.ro z (intsV ms) ms.length] ∧ (∀ x, x ∈ ms → -9223372036854775808 ≤ x ∧ x ≤ 9223372036854775807) := by
  simp only [Sh, Ty.cells, Nat.mul_one] at h
  rcases h with rfl | ⟨cs, len, rfl, _, hl, hel⟩
  · exact ⟨true, [], rfl, by simp⟩
  · obtain ⟨ms, rfl, hb⟩ := ints_of cs (fun i hi => hel i (by omega))
    exact ⟨false, ms, by rw [← hl]; simp [intsV], hb⟩
/-- A text of bytes as it came in: nil, or not. -/
structure Bt where
  z : Bool
  b : List UInt8
def Bt.v (x : Bt) : AV := .ro x.z (cellsB x.b) x.b.length
def btsV (l : List Bt) : List AV := l.map Bt.v
theorem len_btsV (l : List Bt) : (btsV l).length = l.length := List.length_map ..
theorem bts_of : ∀ (cs : List AV), (∀ i, i < cs.length → Sh (.slice (.int .u8)) ((cs.drop i).take 1)) → ∃ l, cs = btsV l ∧ ∀ x, x ∈ l → x.z = true → x.b = []
  | [], _ => ⟨[], rfl, by simp⟩
  | x :: cs, h => by
    obtain ⟨z, b, hm, hz⟩ := sh_bytes (h 0 (Nat.succ_pos _))
    simp only [List.drop_zero, List.take_succ_cons, List.take_zero, List.cons.injEq, and_true] at hm
    obtain ⟨l, hl, hb⟩ := bts_of cs (fun i hi => by
      have := h (i + 1) (by simp only [List.length_cons]; omega)
      simpa using this)
    refine ⟨⟨z, b⟩ :: l, by rw [hm, hl]; rfl, fun x hx => ?_⟩
    rcases List.mem_cons.1 hx with rfl | hx
    · exact hz
    · exact hb x hx
theorem cells_bt : (Ty.slice (.int .u8)).cells = 1 := by kernel_rfl
theorem sh_bts {xs : List AV} (h : Sh (.slice (.slice (.int .u8))) xs) : ∃ z l, xs = [.ro z (btsV l) l.length] ∧ (z = true → l = []) ∧ ∀ x, x ∈ l → x.z = true → x.b = [] := by
  have h := (show xs = [.ro true [] 0] ∨ ∃ cs len, xs = [.ro false cs len] ∧ len ≤ maxLen ∧ cs.length = len * 1 ∧ ∀ i, i < len → Sh (.slice (.int .u8)) ((cs.drop (i * 1)).take 1) from by simpa only [Sh, cells_bt] using h)
  simp only [Nat.mul_one] at h
  rcases h with rfl | ⟨cs, len, rfl, _, hl, hel⟩
  · exact ⟨true, [], rfl, fun _ => rfl, by simp⟩
  · obtain ⟨l, rfl, hb⟩ := bts_of cs (fun i hi => hel i (by omega))
    exact ⟨false, l, by rw [← hl, len_btsV], by simp, hb⟩
def Bt.ok (x : Bt) : Prop := x.z = true → x.b = []
theorem btsV_get {l : List Bt} {k : Nat} (hk : k < l.length) : (btsV l)[k]? = some (.ro l[k].z (cellsB l[k].b) l[k].b.length) := by simp [btsV, hk, Bt.v]

end Go.Proofs.YtepfknnffooaiaaDoor
