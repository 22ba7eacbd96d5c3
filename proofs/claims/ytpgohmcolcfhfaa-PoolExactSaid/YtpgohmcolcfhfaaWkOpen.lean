import Derived.Test.YtpgohmcolcfhfaaWkMore
namespace Go.Proofs.Ytpgohmcolcfhfaa
open Go.Av
theorem ints_of : ∀ (cs : List AV), (∀ i, i < cs.length → ∃ m, (cs.drop i).take 1 = [AV.i .i64 m]) → ∃ ms, cs = ints ms
  | [], _ => ⟨[], rfl⟩
  | x :: cs, h => by
    obtain ⟨m, hm⟩ := h 0 (Nat.succ_pos _)
    simp only [List.drop_zero, List.take_succ_cons, List.take_zero, List.cons.injEq, and_true] at hm
    obtain ⟨ms, hms⟩ := ints_of cs (fun i hi => by
      obtain ⟨k, hk⟩ := h (i + 1) (by simp only [List.length_cons]; omega)
      exact ⟨k, by simpa using hk⟩)
    exact ⟨m :: ms, by rw [hm, hms]; rfl⟩
theorem sh_ints {xs : List AV} (h : Sh (.slice (.int .i64)) xs) : ∃ z ms, xs = [.ro z (ints ms) ms.length] := by
  simp only [Sh, Ty.cells, Nat.mul_one] at h
  rcases h with rfl | ⟨cs, len, rfl, _, hl, hel⟩
  · exact ⟨true, [], rfl⟩
  · obtain ⟨ms, rfl⟩ := ints_of cs (fun i hi => by
      obtain ⟨k, hk, _⟩ := hel i (by omega)
      exact ⟨k, hk⟩)
    exact ⟨false, ms, by rw [← hl]; simp [ints]⟩
end Go.Proofs.Ytpgohmcolcfhfaa
