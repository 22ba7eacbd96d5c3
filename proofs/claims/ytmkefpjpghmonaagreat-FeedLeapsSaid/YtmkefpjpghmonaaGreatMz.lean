import Derived.Test.YtmkefpjpghmonaaGreatLl
namespace Go.Proofs.YtmkefpjpghmonaaGreat
open Go.Av
set_option maxRecDepth 100000
set_option maxHeartbeats 1000000
set_option synthInstance.maxHeartbeats 400000
set_option synthInstance.maxSize 4000
set_option linter.unusedSimpArgs false
set_option linter.unusedVariables false
theorem intsC_of : ∀ (cs : List AV), (∀ i, i < cs.length → ∃ m, (cs.drop i).take 1 = [AV.i .i64 m]) → ∃ ms, cs = intsC ms
  | [], _ => ⟨[], rfl⟩
  | x :: cs, h => by
    obtain ⟨m, hm⟩ := h 0 (Nat.succ_pos _)
    simp only [List.drop_zero, List.take_succ_cons, List.take_zero, List.cons.injEq, and_true] at hm
    obtain ⟨ms, hms⟩ := intsC_of cs (fun i hi => by
      obtain ⟨k, hk⟩ := h (i + 1) (by simp only [List.length_cons]; omega)
      exact ⟨k, by simpa using hk⟩)
    exact ⟨m :: ms, by rw [hm, hms]; rfl⟩
theorem sh_ints {xs : List AV} (h : Sh (.slice (.int .i64)) xs) : ∃ z ms, xs = [.ro z (intsC ms) ms.length] := by
  simp only [Sh, Ty.cells, Nat.mul_one] at h
  rcases h with rfl | ⟨cs, len, rfl, _, hl, hel⟩
  · exact ⟨true, [], rfl⟩
  · obtain ⟨ms, rfl⟩ := intsC_of cs (fun i hi => by
      obtain ⟨k, hk, _⟩ := hel i (by omega)
      exact ⟨k, hk⟩)
    exact ⟨false, ms, by rw [← hl]; simp [intsC]⟩

end Go.Proofs.YtmkefpjpghmonaaGreat
