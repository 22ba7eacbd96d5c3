import Derived.Test.YtpgohmcolcfhfaaRows
import Derived.Test.YtpgohmcolcfhfaaWkExact
import Derived.Test.YtpgohmcolcfhfaaWkOpen
import Derived.WalkKit
import Derived.ProofKit
import Derived.OpenShut
import Derived.ShutString
import Derived.ChangeOld
import Derived.Below
import Derived.Carry
import Derived.SizedLaws
namespace Go.Proofs.Ytpgohmcolcfhfaa.phaseExact
open Go.ChangeShapes Go.WideShapes Go.ChangeAt Go.RowKit Go.Av
set_option linter.unusedVariables false
set_option linter.unusedSimpArgs false
theorem own : ownKnob Try.prog.godebug = none := by kernel_rfl
theorem laidOut : laidOutB Try.prog = true := by kernel_rfl
set_option maxRecDepth 100000 in
theorem lifted (os : Os) (started : os.Started) (H : Type) (enc : TypeId × Value → H) :
    ReturnsInHanded {} Try.checked os 4 .any (Rows.phaseExactSpec.pre6 enc Try.prog Try.f4 Rows.phaseExactRow.domain false) (Rows.phaseExactSpec.post enc Try.prog Try.f4 false true false false) := by
  refine returnsInHanded_of_change_sized (C := Try.checked) own started (by kernel_rfl) Try.func4
    (ChangeSpec.witness6 (enc := enc) (C := Try.checked) false ⟨#[], #[.agg #[.int .i64 0, .int .i64 0, .int .i64 0, .int .i64 0, .int .i64 0, .int .i64 0, .slice none 0 0], .int .i64 0], []⟩ 8 (by kernel_rfl) (by kernel_rfl) (by kernel_rfl) (by kernel_rfl)) ?_
  intro W base args ds gs before hval0 hW hcnd hsz0 _
  have hval : ∀ (j : Nat) t v, Try.f4.params[j]? = some t → args[j]? = some v → Value.okWide Try.prog W .any base t v := hval0
  have hW' := hW
  obtain ⟨p, q, hA0, hV, rfl, hfz, hnd⟩ := hW
  have hA : DataW.TrodAll enc Try.prog W 0 (fun _ => true) true Try.f4.params.toList args.toList ds p := hA0
  rw [Try.params4] at hA hval
  obtain ⟨v0, vs0, d0, ds0, p0, q0, hargs, rfl, rfl, h0, r0⟩ := trodAll_cons hA
  obtain ⟨v1, vs1, d1, ds1, p1, q1, rfl, rfl, rfl, h1, r1⟩ := trodAll_cons r0
  obtain ⟨rfl, rfl, rfl⟩ := trodAll_nil r1
  obtain rfl : args = #[v0, v1] := by cases args; simp_all
  obtain ⟨rfl, rfl⟩ := trodVars_none hV
  have lt0 : ∀ x ∈ p0, x.block < W.heap.size := by obtain ⟨m, hm⟩ := h0; exact DataW.trod_lt m _ _ _ hm
  obtain ⟨x0, l0, s0, g0⟩ := argOpen (ty := .prod [.int .i64, .int .i64, .prod [.int .i64, .int .i64, .int .i64, .int .i64], .slice (.int .i64)]) (n := 6) (by kernel_rfl) (hval 0 26 v0 rfl rfl) h0
  have lt1 : ∀ x ∈ p1, x.block < W.heap.size := by obtain ⟨m, hm⟩ := h1; exact DataW.trod_lt m _ _ _ hm
  obtain ⟨x1, l1, s1, g1⟩ := argOpen (ty := .int .i64) (n := 6) (by kernel_rfl) (hval 1 3 v1 rfl rfl) h1
  obtain ⟨yT, zT, rfl, eT, sT, yD, zD, rfl, eD, sD, yE, zE, rfl, eE, sE, yM, zM, rfl, eM, sM, rfl⟩ := (show ∃ ys zs, x0 = ys ++ zs ∧ ys.length = _ ∧ Sh (.int .i64) ys ∧ ∃ y1 z1, zs = y1 ++ z1 ∧ y1.length = _ ∧ Sh (.int .i64) y1 ∧ ∃ y2 z2, z1 = y2 ++ z2 ∧ y2.length = _ ∧ Sh (.prod [.int .i64, .int .i64, .int .i64, .int .i64]) y2 ∧ ∃ y3 z3, z2 = y3 ++ z3 ∧ y3.length = _ ∧ Sh (.slice (.int .i64)) y3 ∧ z3 = [] from by simpa only [Sh, ShAll] using s0)
  obtain ⟨zz, ms, rfl⟩ := sh_ints sM
  simp only [Sh, ShAll, Ty.cells] at sT sD sE s1
  obtain ⟨T, rfl, _⟩ := sT
  obtain ⟨D, rfl, _⟩ := sD
  obtain ⟨_, _, rfl, _, ⟨a0, rfl, _⟩, _, _, rfl, _, ⟨a1, rfl, _⟩, _, _, rfl, _, ⟨a2, rfl, _⟩, _, _, rfl, _, ⟨a3, rfl, _⟩, rfl⟩ := sE
  obtain ⟨y1, rfl, _⟩ := s1
  have hx := RVs.cons g0 (RVs.cons g1 (RVs.nil (cx0 W)))
  refine (law_calls (f := 4) (xs := [v0, v1]) (walk4 zz T D a0 a1 a2 a3 y1 ms _ _) hx).mono fun e W' ⟨he, bel⟩ => ?_
  subst he
  exact ⟨_, rfl, _, _, _, [], _, [], hW', trodAll_mk1 (shut_bool Try.underlying4 _), (trodAll_cons_mk (Below.trod laidOut (by kernel_rfl) (of_decide_eq_true (by kernel_rfl)) h0 bel lt0) (trodAll_cons_mk (Below.trod laidOut (by kernel_rfl) (of_decide_eq_true (by kernel_rfl)) h1 bel lt1) trodAll_mk0)), rfl, bel.frame _, fun h => by cases h⟩
theorem over : Rows.phaseExactRow.holds Try.pinned (OpenSpec.ofChange Rows.phaseExactSpec) :=
  OpenClaim.holds_of_wide 4 Try.f4 rfl rfl rfl rfl rfl rfl rfl ⟨rfl, rfl, rfl, rfl, rfl⟩ rfl rfl rfl rfl rfl (by kernel_rfl) Try.func4 (by kernel_rfl)
    (of_decide_eq_true (by kernel_rfl)) (by unfold Func.isWrapper; first | (rw [if_pos (by decide +kernel)]; kernel_rfl) | (rw [if_neg (by decide +kernel)]; exact ⟨rfl, rfl⟩))
    (fun os started H enc _ => lifted os started H enc)
theorem proved : Rows.PhaseExactSaid := over
#print axioms proved
end Go.Proofs.Ytpgohmcolcfhfaa.phaseExact
namespace Go.Proofs.Ytpgohmcolcfhfaa
/-- The row, under a short name, for the claim. -/
theorem phaseExact_holds : Rows.PhaseExactSaid := phaseExact.proved
end Go.Proofs.Ytpgohmcolcfhfaa
