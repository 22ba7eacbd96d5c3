import Derived.Test.YtmkefpjpghmonaaGreatLv
namespace Go.Proofs.YtmkefpjpghmonaaGreat
open Go.Av
set_option maxRecDepth 100000
set_option maxHeartbeats 1000000
set_option synthInstance.maxHeartbeats 400000
set_option synthInstance.maxSize 4000
set_option linter.unusedSimpArgs false
set_option linter.unusedVariables false

theorem led_0 (e : Int) : ledC (s0 e 0) true [] (-1) = s0 e 0 ++ [.ro true [] 0, .i .i64 (-1)] := rfl
theorem rep_3 (x : AV) : rep 3 [x] = [x, x, x] := rfl
attribute [push_cast] rep_3
theorem l82 : PCalls Tryz.prog 82 [] (.b true) := by
  have C1 := l69s 9 (by decide)
  rw [led_0] at C1
  have C2 : PCalls Tryz.prog 76 [.i .i64 2] (.tup [.agg [.i .i64 2, .i .i64 (-1), .i .i64 (-1), .b false], .i .i64 0]) := l76 2 (by decide)
  have C3 : PCalls Tryz.prog 49 [.ro false [.i .i64 0, .i .i64 1, .i .i64 2] 3, .ro false [.i .i64 0, .i .i64 1, .i .i64 2] 3] (.b true) := l49t false false [0, 1, 2] (by decide)
  refine pof Tryz.func82 fun h n => ?_
  refine go ?_
  refine AWp.loop (fun mm t' h' n' => ∃ (i ja : Nat), mm = 5 - i ∧ i ≤ 5 ∧ t' 1 = .p n 0 ∧ t' 3 = .p (n + 1) 0 ∧ t' 5 = .i .i64 (i : Int) ∧ h' (n + 1) = some (.cells [.i .i64 2, .i .i64 (-1), .i .i64 (-1), .b false]) ∧ LedAt 9 i h' n ja ∧ n + 1 < n' ∧ ja < n' ∧ ja ≠ n + 1 ∧ n ≤ ja ∧ Keeps n h h') 5 ?_ ?_
  · exact ⟨0, n, rfl, by omega, tr, tr, tr, tr, .inl ⟨rfl, tr⟩, by omega, by omega, by omega, by omega, ks⟩
  · rintro mm t' h' n' - ⟨i, ja, hmm, hi, t1, t3, t5, hf, hl, hn, hja, hne, hna, kp⟩
    by_cases hlt : i < 5
    · have q1 : ((i : Int) < 5) = True := eq_true (by omega)
      have w1 : IntKind.wrap .i64 ((i : Int) - 1) = (i : Int) - 1 := IntWalk.i64_in _ (by omega)
      have w2 : IntKind.wrap .i64 ((i : Int) + 1) = (i : Int) + 1 := IntWalk.i64_in _ (by omega)
      have A := add_one 9 i (by omega) (by omega) (n := n') (show n < n' by omega) hja hl
      refine go ?_
      refine VRC.rel A fun v g m hm hΦ => ?_
      obtain ⟨rfl, -, jb, hb1, hb2, hb3, hl', ks'⟩ := hΦ
      have hf' := ks' _ _ hn hf (by simp; omega)
      have kp' : Keeps n h g := ⟨fun x r hx hr => ks' x r (by omega) (kp.k x r hx hr) (by simp; omega)⟩
      clear A hl hf kp ks'
      have lt1 : 5 - (i + 1) < mm := by omega
      clear hmm
      refine go ?_
      exact ⟨5 - (i + 1), lt1, i + 1, jb, rfl, hlt, tr, tr, tr, tr, hl', by omega, by omega, by omega, by omega, ks⟩
    · have q1 : ((i : Int) < 5) = False := eq_false (by omega)
      obtain rfl : i = 5 := by omega
      have A : DRel Tryz.prog 80 [.p n 0, .agg [.i .i64 2, .i .i64 (-1), .i .i64 (-1), .b false], .i .i64 4] h' n' (fun v g m => ∃ j, n' ≤ j ∧ j < m ∧ v = .tup [.agg [.i .i64 2, .i .i64 4, .i .i64 2, .b false], .sl 1 j 0 3, .i .i64 0] ∧ (∀ x r, x < n' → h' x = some r → g x = some r) ∧ g j = some (.cells (intsC [0, 1, 2]))) :=
        (see_own 9 (by decide) (n := n') hl 2 (by decide) (-1) (-1) (by decide) (by decide) 4 (by decide) (by decide) (by decide)).mono fun r g m h => by
          obtain ⟨o, rfl, -, ks', ho⟩ := h
          rcases ho with ⟨ho, _⟩ | ⟨_, j, hj1, hj2, rfl, hj⟩
          · omega
          · exact ⟨j, hj1, hj2, rfl, ks', hj⟩
      clear hmm hlt hi
      refine go ?_
      refine VRC.rel A fun v g m hm hΦ => ?_
      obtain ⟨j, hj1, hj2, rfl, ks', hj⟩ := hΦ
      have hf' := ks' _ _ hn hf
      have kp' : Keeps n h g := ⟨fun x r hx hr => ks' x r (by omega) (kp.k x r hx hr)⟩
      clear A hl hf kp ks'
      have ap := apt hj2
      have ap4 := apt (show n + 1 < m by omega)
      have ap2 : (j = n + 1) = False := eq_false (by omega)
      have ap3 : (n + 1 = j) = False := eq_false (by omega)
      simp only [intsC, List.map_cons, List.map_nil, List.length_cons, List.length_nil] at hj
      clear C1 C2
      refine go ?_
      exact outP

end Go.Proofs.YtmkefpjpghmonaaGreat
