import Derived.Test.YtmkefpjpghmonaaGreatLu
namespace Go.Proofs.YtmkefpjpghmonaaGreat
open Go.Av
set_option maxRecDepth 100000
set_option maxHeartbeats 1000000
set_option synthInstance.maxHeartbeats 400000
set_option synthInstance.maxSize 4000
set_option linter.unusedSimpArgs false
set_option linter.unusedVariables false

theorem frz_led {e : Int} {m : Nat} (hm : m ≤ 100000) (hm0 : 0 < m) {h : Heap} {jl ja : Nat} (hl : LedAt e m h jl ja) : frz h 5 (.p jl 0) = .q (ledC (s0 e 0) false (ents e m) ((m : Int) - 1)) 0 := by
  rcases hl with ⟨h0, _⟩ | ⟨_, hne, h1, h2⟩
  · omega
  · have L := ents_lg e m hm
    have lE := entsC_len L.oks
    have fE := free_ents L.oks
    rw [ents_len] at lE
    unfold ledC
    rw [ents_len]
    have f1 : frz h 4 (.sl 58 ja 0 m) = .ro false (entsC (ents e m)) m := by
      simp only [frz, h2]
      rw [if_pos (by omega), List.drop_zero, List.take_of_length_le (by omega), frzs_free' _ _ _ fE]
    show (match h jl with | some (.cells cs) => AV.q (cs.map (frz h 4)) 0 | _ => .p jl 0) = _
    rw [h1]
    show AV.q (List.map _ _) 0 = _
    rw [List.map_append, frzs_free' _ _ _ L.fS, List.map_cons, List.map_cons, List.map_nil, f1]
    rfl
/-- See on one's own rows. -/
theorem see_own (e : Int) {m : Nat} (hm : m ≤ 100000) {h : Heap} {n jl ja : Nat} (hl : LedAt e m h jl ja) (K : Nat) (hK : K ≤ 1048576) (tip last : Int) (ht : -1 ≤ tip ∧ tip < m) (hs : -1 ≤ last ∧ last ≤ tip) (k : Nat) (hk : k < m) (hq : tip - (k : Int) ≤ (K : Int)) (hlk : last ≤ (k : Int)) :
    DRel Tryz.prog 80 [.p jl 0, .agg [.i .i64 (K : Int), .i .i64 tip, .i .i64 last, .b false], .i .i64 (k : Int)] h n (fun v g n' => ∃ o : AV, v = .tup [.agg [.i .i64 (K : Int), .i .i64 (k : Int), .i .i64 (max last ((k : Int) - (K : Int))), .b false], o, .i .i64 0] ∧ n ≤ n' ∧ (∀ x r, x < n → h x = some r → g x = some r) ∧
      ((((k : Int) - (K : Int) ≤ last) ∧ o = .ro true [] 0) ∨ (last < (k : Int) - (K : Int) ∧ ∃ j, n ≤ j ∧ j < n' ∧ o = .sl 1 j 0 ((k : Int) - (K : Int) - last).toNat ∧ g j = some (.cells (intsC ((List.range' (last + 1).toNat ((k : Int) - (K : Int) - last).toNat).map fun i : Nat => (i : Int))))))) := by
  have S := see_one e hm false ((m : Int) - 1) K hK tip last ht hs k hk hq hlk
  have fz : [.p jl 0, .agg [.i .i64 (K : Int), .i .i64 tip, .i .i64 last, .b false], .i .i64 (k : Int)].map (frz h 5) = [.q (ledC (s0 e 0) false (ents e m) ((m : Int) - 1)) 0, .agg [.i .i64 (K : Int), .i .i64 tip, .i .i64 last, .b false], .i .i64 (k : Int)] := by
    show [frz h 5 (.p jl 0), frz h 5 (.agg [.i .i64 (K : Int), .i .i64 tip, .i .i64 last, .b false]), frz h 5 (.i .i64 (k : Int))] = _
    rw [frz_led hm (by omega) hl]
    rfl
  by_cases hc : (k : Int) - (K : Int) ≤ last
  · have C := S.1 hc
    rw [← fz] at C
    refine (DCalls.keep (C (iters h) n) rfl).rel.mono ?_
    rintro r g n' ⟨rfl, rfl, rfl⟩
    exact ⟨_, by rw [Int.max_eq_left hc], Nat.le_refl _, fun _ _ _ h => h, .inl ⟨hc, rfl⟩⟩
  · have C := S.2 (by omega)
    rw [← fz] at C
    refine (C.keep rfl (flatAll_ints _)).rel.mono ?_
    rintro r g n' ⟨rfl, rfl, rfl⟩
    exact ⟨_, by rw [Int.max_eq_right (by omega)], by omega, fun x r hx hr => by rw [app_cons, app_nil, upd_ne _ _ (by show x ≠ n; omega)]; exact hr, .inr ⟨by omega, n, Nat.le_refl _, by omega, rfl, by rw [app_cons, app_nil]; exact upd_same _ _ _⟩⟩
def b49_6 : List Nat := [0, 0, 3, 7, 0, 0, 48, 112, 255]
def w49_6 : List Nat := []

theorem l49t (za zb : Bool) (l : List Int) (hl : l.length ≤ 1000000) : PCalls Tryz.prog 49 [.ro za (intsC l) l.length, .ro zb (intsC l) l.length] (.b true) := by
  refine pof Tryz.func49 fun h n => ?_
  repeat (first | refine go ?_ | refine drg 6 b49_6 w49_6 ?_)
  refine AWp.loop (fun mm t' h' n' => ∃ i : Nat, mm = l.length - i ∧ i ≤ l.length ∧ t' 0 = .ro za (intsC l) l.length ∧ t' 1 = .ro zb (intsC l) l.length ∧ t' 5 = .i .i64 (i : Int) ∧ Keeps n h h') l.length ?_ ?_
  · exact ⟨0, rfl, Nat.zero_le _, tr, tr, tr, ks⟩
  · rintro mm t' h' n' - ⟨i, hmm, hi, t0, t1, t5, kp⟩
    by_cases hlt : i < l.length
    · have q1 : ((i : Int) < (l.length : Int)) = True := eq_true (by omega)
      have q2 : (0 ≤ (i : Int) ∧ (i : Int) < (l.length : Int)) = True := eq_true (by omega)
      have w1 : IntKind.wrap .i64 ((i : Int) + 1) = (i : Int) + 1 := IntWalk.i64_in _ (by omega)
      have q3 := ints_get hlt
      obtain ⟨x, ex⟩ : ∃ x, l[i] = x := ⟨_, rfl⟩
      rw [ex] at q3
      have q4 : (i + 1 ≤ l.length) = True := eq_true (by omega)
      have lt1 : l.length - (i + 1) < mm := by omega
      clear ex hmm
      repeat (first | refine go ?_ | refine drg 6 b49_6 w49_6 ?_)
      exact ⟨l.length - (i + 1), lt1, i + 1, rfl, hlt, tr, tr, tr, ks⟩
    · have q1 : ((i : Int) < (l.length : Int)) = False := eq_false (by omega)
      clear hmm
      repeat (first | refine go ?_ | refine drg 6 b49_6 w49_6 ?_)
      exact outP
theorem l77t (K t l : Int) (b : Bool) : PCalls Tryz.prog 77 [.agg [.i .i64 K, .i .i64 t, .i .i64 l, .b b], .agg [.i .i64 K, .i .i64 t, .i .i64 l, .b b]] (.b true) := by
  refine pof Tryz.func77 fun h n => ?_
  refine go ?_
  exact outP

end Go.Proofs.YtmkefpjpghmonaaGreat
