import Derived.Test.YtpgohmcolcfhfaaWkPool6
namespace Go.Proofs.Ytpgohmcolcfhfaa
open Go.Av
set_option linter.unusedVariables false
set_option linter.unusedSimpArgs false
/-! ### arguments that are bytes, transactions, blocks -/
theorem u8_wf {x : Int} (h : (Lit.int .u8 x).wf = true) : 0 ≤ x ∧ x ≤ 255 := by
  simp only [Lit.wf, IntKind.min, IntKind.max, IntKind.signed, IntKind.bits, Bool.and_eq_true, decide_eq_true_eq, Bool.false_eq_true, if_false] at h
  omega
theorem bytes_of : ∀ (cs : List AV), (∀ i, i < cs.length → ∃ m, (cs.drop i).take 1 = [AV.i .u8 m] ∧ 0 ≤ m ∧ m ≤ 255) → ∃ b, cs = cellsB b
  | [], _ => ⟨[], rfl⟩
  | x :: cs, h => by
    obtain ⟨m, hm, h0, h1⟩ := h 0 (Nat.succ_pos _)
    simp only [List.drop_zero, List.take_succ_cons, List.take_zero, List.cons.injEq, and_true] at hm
    obtain ⟨b, hb⟩ := bytes_of cs (fun i hi => by
      obtain ⟨k, hk⟩ := h (i + 1) (by simp only [List.length_cons]; omega)
      exact ⟨k, by simpa using hk⟩)
    refine ⟨UInt8.ofNat m.toNat :: b, ?_⟩
    have e : (((UInt8.ofNat m.toNat).toNat : Nat) : Int) = m := by
      have : (UInt8.ofNat m.toNat).toNat = m.toNat % 256 := by simp
      rw [this]; omega
    rw [hm, hb]
    simp only [cellsB, List.map_cons, e]
theorem sh_bytes {xs : List AV} (h : Sh (.slice (.int .u8)) xs) : ∃ z b, xs = [.ro z (cellsB b) b.length] ∧ (z = true → b = []) := by
  simp only [Sh, Ty.cells, Nat.mul_one] at h
  rcases h with rfl | ⟨cs, len, rfl, _, hl, hel⟩
  · exact ⟨true, [], rfl, fun _ => rfl⟩
  · obtain ⟨b, rfl⟩ := bytes_of cs (fun i hi => by
      obtain ⟨k, hk, hw⟩ := hel i (by omega)
      exact ⟨k, hk, u8_wf hw⟩)
    exact ⟨false, b, by rw [← hl]; simp [cellsB], by simp⟩
abbrev tyTx : Ty := .prod [.int .i64, .slice (.int .u8)]
theorem sh_tx {xs : List AV} (h : Sh tyTx xs) : ∃ t : Tx, xs = txC t ∧ (t.z = true → t.b = []) := by
  obtain ⟨ya, za, rfl, ea, sa, yb, zb, rfl, eb, sb, rfl⟩ := (show ∃ ys zs, xs = ys ++ zs ∧ ys.length = _ ∧ Sh (.int .i64) ys ∧ ∃ y1 z1, zs = y1 ++ z1 ∧ y1.length = _ ∧ Sh (.slice (.int .u8)) y1 ∧ z1 = [] from by simpa only [tyTx, Sh, ShAll] using h)
  obtain ⟨z, b, rfl, hz⟩ := sh_bytes sb
  simp only [Sh] at sa
  obtain ⟨f, rfl, _⟩ := sa
  exact ⟨⟨f, z, b⟩, rfl, hz⟩
theorem txs_of : ∀ (len : Nat) (cs : List AV), cs.length = len * 2 → (∀ i, i < len → Sh tyTx ((cs.drop (i * 2)).take 2)) → ∃ l : List Tx, cs = txs l ∧ l.length = len ∧ ∀ x, x ∈ l → (x.z = true → x.b = [])
  | 0, cs, hl, _ => ⟨[], by have : cs = [] := by simpa using hl
                            rw [this]; rfl, rfl, by simp⟩
  | n + 1, cs, hl, h => by
    obtain ⟨t, ht, hz⟩ := sh_tx (h 0 (Nat.succ_pos _))
    rw [Nat.zero_mul, List.drop_zero] at ht
    obtain ⟨l, h1, h2, h3⟩ := txs_of n (cs.drop 2) (by rw [List.length_drop]; omega) (fun i hi => by
      have := h (i + 1) (by omega)
      rw [List.drop_drop, show 2 + i * 2 = (i + 1) * 2 by omega]
      exact this)
    refine ⟨t :: l, ?_, by simp [h2], fun x hx => ?_⟩
    · show cs = txC t ++ txs l
      rw [← ht, ← h1, List.take_append_drop]
    · rcases List.mem_cons.1 hx with rfl | hx
      · exact hz
      · exact h3 x hx
theorem cells_tx : tyTx.cells = 2 := by kernel_rfl
theorem sh_txs {xs : List AV} (h : Sh (.slice tyTx) xs) : ∃ z l, xs = [.ro z (txs l) l.length] ∧ (z = true → l = []) ∧ ∀ x, x ∈ l → (x.z = true → x.b = []) := by
  have h := (show xs = [.ro true [] 0] ∨ ∃ cs len, xs = [.ro false cs len] ∧ len ≤ maxLen ∧ cs.length = len * 2 ∧ ∀ i, i < len → Sh tyTx ((cs.drop (i * 2)).take 2) from by simpa only [Sh, cells_tx] using h)
  rcases h with rfl | ⟨cs, len, rfl, _, hl, hel⟩
  · exact ⟨true, [], rfl, fun _ => rfl, by simp⟩
  · obtain ⟨l, rfl, rfl, h3⟩ := txs_of len cs hl hel
    exact ⟨false, l, rfl, by simp, h3⟩
abbrev tyBk : Ty := .prod [.int .i64, .int .i64, .int .i64, .slice tyTx]
theorem sh_bk {xs : List AV} (h : Sh tyBk xs) : ∃ b : Bk, xs = bkC b ∧ (b.z = true → b.l = []) ∧ ∀ x, x ∈ b.l → (x.z = true → x.b = []) := by
  obtain ⟨ya, za, rfl, _, sa, yb, zb, rfl, _, sb, yc, zc, rfl, _, sc, yd, zd, rfl, _, sd, rfl⟩ := (show ∃ ys zs, xs = ys ++ zs ∧ ys.length = _ ∧ Sh (.int .i64) ys ∧ ∃ y1 z1, zs = y1 ++ z1 ∧ y1.length = _ ∧ Sh (.int .i64) y1 ∧ ∃ y2 z2, z1 = y2 ++ z2 ∧ y2.length = _ ∧ Sh (.int .i64) y2 ∧ ∃ y3 z3, z2 = y3 ++ z3 ∧ y3.length = _ ∧ Sh (.slice tyTx) y3 ∧ z3 = [] from by simpa only [tyBk, Sh, ShAll] using h)
  obtain ⟨z, l, rfl, hz, hx⟩ := sh_txs sd
  simp only [Sh] at sa sb sc
  obtain ⟨p, rfl, _⟩ := sa
  obtain ⟨q, rfl, _⟩ := sb
  obtain ⟨s, rfl, _⟩ := sc
  exact ⟨⟨p, q, s, z, l⟩, rfl, hz, hx⟩
theorem bks_of : ∀ (len : Nat) (cs : List AV), cs.length = len * 4 → (∀ i, i < len → Sh tyBk ((cs.drop (i * 4)).take 4)) → ∃ l : List Bk, cs = bks l ∧ l.length = len ∧ ∀ b, b ∈ l → (b.z = true → b.l = []) ∧ ∀ x, x ∈ b.l → (x.z = true → x.b = [])
  | 0, cs, hl, _ => ⟨[], by have : cs = [] := by simpa using hl
                            rw [this]; rfl, rfl, by simp⟩
  | n + 1, cs, hl, h => by
    obtain ⟨t, ht, hz⟩ := sh_bk (h 0 (Nat.succ_pos _))
    rw [Nat.zero_mul, List.drop_zero] at ht
    obtain ⟨l, h1, h2, h3⟩ := bks_of n (cs.drop 4) (by rw [List.length_drop]; omega) (fun i hi => by
      have := h (i + 1) (by omega)
      rw [List.drop_drop, show 4 + i * 4 = (i + 1) * 4 by omega]
      exact this)
    refine ⟨t :: l, ?_, by simp [h2], fun x hx => ?_⟩
    · show cs = bkC t ++ bks l
      rw [← ht, ← h1, List.take_append_drop]
    · rcases List.mem_cons.1 hx with rfl | hx
      · exact hz
      · exact h3 x hx
theorem cells_bk : tyBk.cells = 4 := by kernel_rfl
theorem sh_bks {xs : List AV} (h : Sh (.slice tyBk) xs) : ∃ z l, xs = [.ro z (bks l) l.length] ∧ (z = true → l = []) ∧ ∀ b, b ∈ l → (b.z = true → b.l = []) ∧ ∀ x, x ∈ b.l → (x.z = true → x.b = []) := by
  have h := (show xs = [.ro true [] 0] ∨ ∃ cs len, xs = [.ro false cs len] ∧ len ≤ maxLen ∧ cs.length = len * 4 ∧ ∀ i, i < len → Sh tyBk ((cs.drop (i * 4)).take 4) from by simpa only [Sh, cells_bk] using h)
  rcases h with rfl | ⟨cs, len, rfl, _, hl, hel⟩
  · exact ⟨true, [], rfl, fun _ => rfl, by simp⟩
  · obtain ⟨l, rfl, rfl, h3⟩ := bks_of len cs hl hel
    exact ⟨false, l, rfl, by simp, h3⟩
end Go.Proofs.Ytpgohmcolcfhfaa
