import Derived.Test.YtmkefpjpghmonaaGreatLx
namespace Go.Proofs.YtmkefpjpghmonaaGreat
open Go.Av
set_option maxRecDepth 100000
set_option maxHeartbeats 1000000
set_option synthInstance.maxHeartbeats 400000
set_option synthInstance.maxSize 4000
set_option linter.unusedSimpArgs false
set_option linter.unusedVariables false

def b22_19 : List Nat := [0, 0, 0, 6, 15, 31]
def w22_19 : List Nat := [3, 4, 1000]
def b22_26 : List Nat := [0, 1, 3, 0, 0, 24, 56, 120, 248, 504, 1023, 0, 2048, 8191, 16383]
def w22_26 : List Nat := []
def b22_30 : List Nat := [0, 0, 0, 6, 15, 31]
def w22_30 : List Nat := [3, 4, 1000]

/-- A slice of numbers that is one's own: nil, or a row. -/
def OutAt (l : List Int) (o : AV) (j : Nat) (h : Heap) : Prop := (l = [] ∧ o = .ro true [] 0) ∨ (l ≠ [] ∧ o = .sl 1 j 0 l.length ∧ h j = some (.cells (intsC l)))
theorem out_upd {l : List Int} {o : AV} {j k : Nat} {h : Heap} {r : Option Row} (hA : OutAt l o j h) (hk : l = [] ∨ j ≠ k) : OutAt l o j (upd h k r) := by
  rcases hA with hA | ⟨a, b, c⟩
  · exact .inl hA
  · exact .inr ⟨a, b, by rw [upd_ne _ _ (hk.resolve_left a)]; exact c⟩
theorem out_frz {l : List Int} {o : AV} {j : Nat} {h : Heap} (hA : OutAt l o j h) : ∃ z, frz h 5 o = .ro z (intsC l) l.length := by
  rcases hA with ⟨rfl, rfl⟩ | ⟨_, rfl, hr⟩
  · exact ⟨true, rfl⟩
  · refine ⟨false, ?_⟩
    simp only [frz, hr]
    rw [if_pos (by rw [len_ints]; omega), List.drop_zero, Nat.mul_one, take_ints, frzs_free' _ _ _ (free_ints l)]
theorem ints_own {l : List Int} {o o' : AV} {j j' n : Nat} {h : Heap} (hA : OutAt l o j h) (hB : OutAt l o' j' h) (hl : l.length ≤ 1000000) : DCalls Tryz.prog 49 [o, o'] h n (.b true) [] n := by
  obtain ⟨z, e⟩ := out_frz hA
  obtain ⟨z', e'⟩ := out_frz hB
  refine DCalls.keep (k := 5) ?_ rfl
  show DCalls _ _ [frz h 5 o, frz h 5 o'] _ _ _ _ _
  rw [e, e']
  exact l49t z z' l hl _ _
theorem out_len {l : List Int} {o : AV} {j : Nat} {h : Heap} (hA : OutAt l o j h) : alen Tryz.prog 23 o = some (l.length : Int) := by
  rcases hA with ⟨rfl, rfl⟩ | ⟨_, rfl, hr⟩ <;> rfl
theorem ints_more (a b : Nat) : ints a ++ (List.range' a b).map (fun i : Nat => (i : Int)) = ints (a + b) := by
  unfold ints
  rw [List.range_eq_range', List.range_eq_range', ← List.range'_append_1, List.map_append]
  simp
set_option maxHeartbeats 20000000 in
theorem l22 (n0 k0 : Int) (z : Bool) (path : List Int) : PCalls Tryz.prog 22 [.i .i64 n0, .i .i64 k0, .ro z (intsC path) path.length] (.b true) := by
  obtain ⟨U, hU⟩ := u64_nat n0
  obtain ⟨V, hV⟩ := u64_nat k0
  obtain ⟨m, hm⟩ : ∃ m, m = U % 20 + 1 := ⟨_, rfl⟩
  obtain ⟨K, hK⟩ : ∃ K, K = V % 6 := ⟨_, rfl⟩
  have r1 : Int.tmod (U : Int) 20 = ((U % 20 : Nat) : Int) := tmod_nat U 20
  have r2 : Int.tmod (V : Int) 6 = (K : Int) := by rw [hK]; exact tmod_nat V 6
  have w1 : IntKind.wrap .i64 ((U % 20 : Nat) : Int) = ((U % 20 : Nat) : Int) := IntWalk.i64_in _ (by omega)
  have w2 : IntKind.wrap .i64 (1 + ((U % 20 : Nat) : Int)) = (m : Int) := by rw [hm, show ((U % 20 + 1 : Nat) : Int) = 1 + ((U % 20 : Nat) : Int) by omega]; exact IntWalk.i64_in _ (by omega)
  have w3 : IntKind.wrap .i64 (K : Int) = (K : Int) := IntWalk.i64_in _ (by omega)
  have hmb : 1 ≤ m ∧ m ≤ 20 := by omega
  have hKb : K < 6 := by omega
  clear hm hK
  generalize U % 20 = u at r1 w1 w2
  have C1 := l69s 99 (by decide)
  rw [led_0] at C1
  have C2 := l76 K (by omega)
  have C3 := l82
  refine pof Tryz.func22 fun h n => ?_
  by_cases hp : path.length > 60
  · have q0 : ((path.length : Int) > 60) = True := eq_true (by omega)
    repeat (first | refine go ?_ | refine drg 19 b22_19 w22_19 ?_ | refine drg 26 b22_26 w22_26 ?_ | refine drg 30 b22_30 w22_30 ?_)
    exact outP
  have q0 : ((path.length : Int) > 60) = False := eq_false (by omega)
  repeat (first | refine go ?_ | refine drg 19 b22_19 w22_19 ?_ | refine drg 26 b22_26 w22_26 ?_ | refine drg 30 b22_30 w22_30 ?_)
  refine AWp.loop (fun mm t' h' n' => ∃ (i ja jA : Nat) (last : Int) (A : List Int) (o : AV), mm = m - i ∧ i ≤ m ∧ t' 0 = .i .i64 (m : Int) ∧ t' 1 = .i .i64 (K : Int) ∧ t' 2 = .ro z (intsC path) path.length ∧ t' 7 = .p n 0 ∧ t' 9 = .p (n + 1) 0 ∧ t' 11 = .p (n + 2) 0 ∧ t' 13 = o ∧ t' 14 = .ro true [] 0 ∧ t' 15 = .i .i64 (i : Int) ∧ h' (n + 1) = some (.cells [.i .i64 (K : Int), .i .i64 ((i : Int) - 1), .i .i64 last, .b false]) ∧ h' (n + 2) = some (.cells [.i .i64 (K : Int), .i .i64 (-1), .i .i64 (-1), .b false]) ∧ LedAt 99 i h' n ja ∧ OutAt A o jA h' ∧ Hid (last = max ((i : Int) - 1 - K) (-1) ∧ A = ints (last + 1).toNat) ∧ n + 2 < n' ∧ ja < n' ∧ (ja ≠ n + 1 ∧ ja ≠ n + 2 ∧ n ≤ ja) ∧ (A = [] ∨ (ja ≠ jA ∧ n + 2 < jA ∧ jA < n')) ∧ Keeps n h h') m ?_ ?_
  · exact ⟨0, n, n, -1, [], _, rfl, by omega, tr, tr, tr, tr, tr, tr, tr, tr, tr, tr, tr, .inl ⟨rfl, tr⟩, .inl ⟨rfl, rfl⟩, ⟨by omega, rfl⟩, by omega, by omega, by omega, .inl rfl, ks⟩
  · clear C1 C2 r1 r2 w1 w2 w3 hU hV
    rintro mm t' h' n' - ⟨i, ja, jA, last, A, o, hmm, hi, t0, t1, t2, t7, t9, t11, t13, t14, t15, hf, hf2, hl, hA, hlast, hn, hja, hne, hnA, kp⟩
    by_cases hlt : i < m
    · have q1 : ((i : Int) < (m : Int)) = True := eq_true (by omega)
      have w1 : IntKind.wrap .i64 ((i : Int) - 1) = (i : Int) - 1 := IntWalk.i64_in _ (by omega)
      have w2 : IntKind.wrap .i64 ((i : Int) + 1) = (i : Int) + 1 := IntWalk.i64_in _ (by omega)
      have B := add_one 99 i (by omega) (by omega) (n := n') (show n < n' by omega) hja hl
      repeat (first | refine go ?_ | refine drg 19 b22_19 w22_19 ?_ | refine drg 26 b22_26 w22_26 ?_ | refine drg 30 b22_30 w22_30 ?_)
      refine VRC.rel B fun v g n2 hn2 hΦ => ?_
      obtain ⟨rfl, -, jb, hb1, hb2, hb3, hl', ks'⟩ := hΦ
      have hf' := ks' _ _ (by omega) hf (by simp; omega)
      have hf2' := ks' _ _ (by omega) hf2 (by simp; omega)
      have kp' : Keeps n h g := ⟨fun x r hx hr => ks' x r (by omega) (kp.k x r hx hr) (by simp; omega)⟩
      have hA' : OutAt A o jA g := by
        rcases hA with hA | ⟨a, b, c⟩
        · exact .inl hA
        · rcases hnA with hnA | hnA
          · exact absurd hnA a
          · exact .inr ⟨a, b, ks' _ _ (by omega) c (by simp; omega)⟩
      have hnA' : A = [] ∨ (jb ≠ jA ∧ n + 2 < jA ∧ jA < n2) := hnA.imp id fun h => by omega
      clear B hl hf hf2 kp ks' hA hnA
      have hla := hlast.get.1
      have C := see_own 99 (m := i + 1) (by omega) (n := n2) hl' K (by omega) ((i : Int) - 1) last (by omega) (by omega) i (by omega) (by omega) (by omega)
      clear hla
      repeat (first | refine go ?_ | refine drg 19 b22_19 w22_19 ?_ | refine drg 26 b22_26 w22_26 ?_ | refine drg 30 b22_30 w22_30 ?_)
      refine VRC.rel C fun v g2 n3 hn3 hΦ => ?_
      obtain ⟨out, rfl, -, ks', ho⟩ := hΦ
      have hf2'' := ks' _ _ (by omega) hf2'
      have kp'' : Keeps n h g2 := ⟨fun x r hx hr => ks' x r (by omega) (kp'.k x r hx hr)⟩
      have hl'' : LedAt 99 (i + 1) g2 n jb := by
        rcases hl' with ⟨a, b⟩ | ⟨a, b, c, d⟩
        · exact .inl ⟨a, ks' _ _ (by omega) b⟩
        · exact .inr ⟨a, b, ks' _ _ (by omega) c, ks' _ _ (by omega) d⟩
      have hf'' := ks' _ _ (by omega) hf'
      have e3 : (i : Int) + 1 - 1 = (i : Int) := by omega
      have lt1 : m - (i + 1) < mm := by omega
      have ap1 := apt (show n + 1 < n3 by omega)
      have ap2 := apt (show n + 2 < n3 by omega)
      have hla := hlast.get
      have q5 : (n + 1 = n + 2) = False := eq_false (by omega)
      have q6 : (n + 2 = n + 1) = False := eq_false (by omega)
      rcases ho with ⟨ho, rfl⟩ | ⟨ho, j, hj1, hj2, rfl, hj⟩
      · have hlast' : Hid (max last ((i : Int) - (K : Int)) = max (((i + 1 : Nat) : Int) - 1 - K) (-1) ∧ A = ints (max last ((i : Int) - (K : Int)) + 1).toNat) := ⟨⟨by omega, by rw [hla.2]; congr 1; omega⟩⟩
        rcases hA' with ⟨rfl, rfl⟩ | ⟨hA0, rfl, rA⟩
        · clear hla hlast ho C hl' hf' hf2' kp' ks' hmm
          refine go ?_
          refine AWp.frz1 (k := 18) (j := n3) (d := 1) tr (x := .q [.i .i64 (K : Int), .i .i64 (i : Int), .i .i64 (max last ((i : Int) - (K : Int))), .b false] 0) (by simp only [push_cast]; exact frz_ptr) ?_
          repeat (first | refine go ?_ | refine drg 19 b22_19 w22_19 ?_ | refine drg 26 b22_26 w22_26 ?_ | refine drg 30 b22_30 w22_30 ?_)
          exact ⟨m - (i + 1), lt1, i + 1, jb, n, max last ((i : Int) - (K : Int)), [], .ro true [] 0, rfl, hlt, tr, tr, tr, tr, tr, tr, tr, tr, tr, tr, tr, by repeat (first | exact hl'' | refine led_upd ?_ (by omega) (by omega)), .inl ⟨rfl, rfl⟩, hlast', by omega, by omega, by omega, .inl rfl, ks⟩
        · rcases hnA' with h0 | hnA'
          · exact absurd h0 hA0
          have rA' := ks' _ _ (by omega) rA
          have ap3 := apt (show jA < n3 by omega)
          have lA := len_ints A
          have bA : A.length ≤ 30 := by rw [hla.2, ints_len]; omega
          have x1 : (A.length * 8 ≤ 140737488355328) = True := eq_true (by omega)
          have x2 : (A.length ≤ 9223372036854775807) = True := eq_true (by omega)
          have x3 : (n + 1 = jA) = False := eq_false (by omega)
          have x4 : (jA = n + 1) = False := eq_false (by omega)
          have x5 : (n + 2 = jA) = False := eq_false (by omega)
          clear hla hlast ho C hl' hf' hf2' kp' ks' hmm rA
          refine go ?_
          refine AWp.frz1 (k := 18) (j := n3) (d := 1) tr (x := .q [.i .i64 (K : Int), .i .i64 (i : Int), .i .i64 (max last ((i : Int) - (K : Int))), .b false] 0) (by simp only [push_cast]; exact frz_ptr) ?_
          repeat (first | refine go ?_ | refine drg 19 b22_19 w22_19 ?_ | refine drg 26 b22_26 w22_26 ?_ | refine drg 30 b22_30 w22_30 ?_)
          exact ⟨m - (i + 1), lt1, i + 1, jb, (n3 + 1), max last ((i : Int) - (K : Int)), A, .sl 1 (n3 + 1) 0 A.length, rfl, hlt, tr, tr, tr, tr, tr, tr, tr, tr, tr, tr, tr, by repeat (first | exact hl'' | refine led_upd ?_ (by omega) (by omega)), .inr ⟨hA0, rfl, tr⟩, hlast', by omega, by omega, by omega, .inr (by omega), ks⟩
      · have hk1 : ((i : Int) - (K : Int) - last).toNat = 1 := by omega
        have hk2 : max last ((i : Int) - (K : Int)) = (i : Int) - (K : Int) := by omega
        obtain ⟨y, ey⟩ : ∃ y : Nat, y = (last + 1).toNat := ⟨_, rfl⟩
        have ey2 : (i : Int) - (K : Int) = (y : Int) := by omega
        rw [hk1, ← ey] at hj
        have hj : g2 j = some (.cells [.i .i64 (y : Int)]) := hj
        rw [hk1, hk2, ey2]
        have hlast' : Hid ((y : Int) = max (((i + 1 : Nat) : Int) - 1 - K) (-1) ∧ A ++ [(y : Int)] = ints ((y : Int) + 1).toNat) := ⟨⟨by omega, by rw [hla.2, ← ey]; exact ints_more y 1⟩⟩
        have fz : frz (only j [.i .i64 (y : Int)]) 1 (.sl 1 j 0 1) = .ro false [.i .i64 (y : Int)] 1 := by simp [frz, only]
        have x6 : (j = n + 1) = False := eq_false (by omega)
        have x7 : (n + 1 = j) = False := eq_false (by omega)
        have x8 : (j = n + 2) = False := eq_false (by omega)
        have x9 : (n + 2 = j) = False := eq_false (by omega)
        have ap4 := apt hj2
        rcases hA' with ⟨rfl, rfl⟩ | ⟨hA0, rfl, rA⟩
        · clear hla hlast C hl' hf' hf2' kp' ks' hmm hk1 hk2 ey ey2 ho
          refine go ?_
          refine AWp.frz1 (k := 18) (j := n3) (d := 1) tr (x := .q [.i .i64 (K : Int), .i .i64 (i : Int), .i .i64 (y : Int), .b false] 0) (by simp only [push_cast]; exact frz_ptr) ?_
          refine AWp.frz1 (k := 19) (j := j) (d := 1) tr (x := .ro false [.i .i64 (y : Int)] 1) (by simp only [push_cast]; exact fz) ?_
          repeat (first | refine go ?_ | refine drg 19 b22_19 w22_19 ?_ | refine drg 26 b22_26 w22_26 ?_ | refine drg 30 b22_30 w22_30 ?_)
          exact ⟨m - (i + 1), lt1, i + 1, jb, n3 + 1, (y : Int), [(y : Int)], .sl 1 (n3 + 1) 0 1, rfl, hlt, tr, tr, tr, tr, tr, tr, tr, tr, tr, tr, tr, by repeat (first | exact hl'' | refine led_upd ?_ (by omega) (by omega)), .inr ⟨by simp, rfl, tr⟩, hlast', by omega, by omega, by omega, .inr (by omega), ks⟩
        · rcases hnA' with h0 | hnA'
          · exact absurd h0 hA0
          have rA' := ks' _ _ (by omega) rA
          have ap3 := apt (show jA < n3 by omega)
          have lA := len_ints A
          have bA : A.length ≤ 30 := by rw [hla.2, ints_len]; omega
          have x1 : (A.length * 8 ≤ 140737488355328) = True := eq_true (by omega)
          have x2 : (A.length ≤ 9223372036854775807) = True := eq_true (by omega)
          have x1' : ((A.length + 1) * 8 ≤ 140737488355328) = True := eq_true (by omega)
          have x2' : (A.length + 1 ≤ 9223372036854775807) = True := eq_true (by omega)
          have x3 : (n + 1 = jA) = False := eq_false (by omega)
          have x4 : (jA = n + 1) = False := eq_false (by omega)
          have x5 : (n + 2 = jA) = False := eq_false (by omega)
          have y1 : (j = jA) = False := eq_false (by omega)
          have y2 : (jA = j) = False := eq_false (by omega)
          have ic : intsC (A ++ [(y : Int)]) = intsC A ++ [.i .i64 (y : Int)] := by simp [intsC]
          clear hla hlast C hl' hf' hf2' kp' ks' hmm rA hk1 hk2 ey ey2 ho
          refine go ?_
          refine AWp.frz1 (k := 18) (j := n3) (d := 1) tr (x := .q [.i .i64 (K : Int), .i .i64 (i : Int), .i .i64 (y : Int), .b false] 0) (by simp only [push_cast]; exact frz_ptr) ?_
          refine AWp.frz1 (k := 19) (j := j) (d := 1) tr (x := .ro false [.i .i64 (y : Int)] 1) (by simp only [push_cast]; exact fz) ?_
          repeat (first | refine go ?_ | refine drg 19 b22_19 w22_19 ?_ | refine drg 26 b22_26 w22_26 ?_ | refine drg 30 b22_30 w22_30 ?_)
          exact ⟨m - (i + 1), lt1, i + 1, jb, n3 + 1, (y : Int), A ++ [(y : Int)], .sl 1 (n3 + 1) 0 (A ++ [(y : Int)]).length, rfl, hlt, tr, tr, tr, tr, tr, tr, by rw [List.length_append]; exact tr, tr, tr, tr, tr, by repeat (first | exact hl'' | refine led_upd ?_ (by omega) (by omega)), .inr ⟨by simp, rfl, by rw [ic]; exact tr⟩, hlast', by omega, by omega, by omega, .inr (by omega), ks⟩
    · have q1 : ((i : Int) < (m : Int)) = False := eq_false (by omega)
      obtain rfl : i = m := by omega
      clear hmm hlt hi
      repeat (first | refine go ?_ | refine drg 19 b22_19 w22_19 ?_ | refine drg 26 b22_26 w22_26 ?_ | refine drg 30 b22_30 w22_30 ?_)
      refine AWp.loop (fun mm t' h' n' => ∃ (j jB : Nat) (tip last2 : Int) (B : List Int) (oB : AV), mm = path.length + 1 - j ∧ j ≤ path.length + 1 ∧ t' 0 = .i .i64 (i : Int) ∧ t' 1 = .i .i64 (K : Int) ∧ t' 2 = .ro z (intsC path) path.length ∧ t' 7 = .p n 0 ∧ t' 9 = .p (n + 1) 0 ∧ t' 11 = .p (n + 2) 0 ∧ t' 13 = o ∧ t' 14 = oB ∧ t' 21 = .i .i64 tip ∧ t' 22 = .i .i64 (j : Int) ∧ h' (n + 1) = some (.cells [.i .i64 (K : Int), .i .i64 ((i : Int) - 1), .i .i64 last, .b false]) ∧ h' (n + 2) = some (.cells [.i .i64 (K : Int), .i .i64 tip, .i .i64 last2, .b false]) ∧ LedAt 99 i h' n ja ∧ OutAt A o jA h' ∧ OutAt B oB jB h' ∧ Hid (last2 = max (tip - K) (-1) ∧ B = ints (last2 + 1).toNat) ∧ (-1 ≤ tip ∧ tip ≤ (i : Int) - 1) ∧ Hid (j = path.length + 1 → tip = (i : Int) - 1) ∧ n + 2 < n' ∧ ja < n' ∧ (A = [] ∨ (n + 2 < jA ∧ jA < n')) ∧ (B = [] ∨ (ja ≠ jB ∧ n + 2 < jB ∧ jB < n' ∧ (A = [] ∨ jA ≠ jB))) ∧ Keeps n h h') (path.length + 1) ?_ ?_
      · exact ⟨0, n, -1, -1, [], _, rfl, by omega, tr, tr, tr, tr, tr, tr, tr, tr, tr, tr, tr, tr, hl, hA, .inl ⟨rfl, rfl⟩, ⟨by omega, rfl⟩, by omega, ⟨by omega⟩, by omega, by omega, hnA.imp id fun h => by omega, .inl rfl, ks⟩
      · clear t0 t1 t2 t7 t9 t11 t13 t14 t15 hf hf2 hl hA hn hja kp q1 hnA
        rintro mm t' h' n' - ⟨j, jB, tip, last2, B, oB, hmm, hj, t0, t1, t2, t7, t9, t11, t13, t14, t21, t22, hf, hf2, hl, hA, hB, hl2, htip, hend, hn, hja, hnA, hnB, kp⟩
        have w0 : IntKind.wrap .i64 ((i : Int) - 1) = (i : Int) - 1 := IntWalk.i64_in _ (by omega)
        by_cases hc : j ≤ path.length ∧ tip < (i : Int) - 1
        · obtain ⟨hj1, ht1⟩ := hc
          have q1 : ((j : Int) ≤ (path.length : Int)) = True := eq_true (by omega)
          have q2 : (tip < (i : Int) - 1) = True := eq_true ht1
          have w1 : IntKind.wrap .i64 ((j : Int) + 1) = (j : Int) + 1 := IntWalk.i64_in _ (by omega)
          have lt1 : path.length + 1 - (j + 1) < mm := by omega
          by_cases hjl : j < path.length
          · have q3 : ((j : Int) < (path.length : Int)) = True := eq_true (by omega)
            have q4 : (0 ≤ (j : Int) ∧ (j : Int) < (path.length : Int)) = True := eq_true (by omega)
            have q5 := ints_get hjl
            obtain ⟨x, ex⟩ : ∃ x, path[j] = x := ⟨_, rfl⟩
            rw [ex] at q5
            obtain ⟨U, hU⟩ := u64_nat x
            obtain ⟨r, er⟩ : ∃ r, r = U % 4 := ⟨_, rfl⟩
            have r1 : Int.tmod (U : Int) 4 = (r : Int) := by rw [er]; exact tmod_nat U 4
            have hr4 : r < 4 := by omega
            have w2 : IntKind.wrap .i64 (r : Int) = (r : Int) := IntWalk.i64_in _ (by omega)
            have w3 : IntKind.wrap .i64 (tip + 1) = tip + 1 := IntWalk.i64_in _ (by omega)
            have w4 : IntKind.wrap .i64 (tip + 1 + (r : Int)) = tip + 1 + (r : Int) := IntWalk.i64_in _ (by omega)
            obtain ⟨k, ek⟩ : ∃ k : Nat, (k : Int) = min (tip + 1 + (r : Int)) ((i : Int) - 1) := ⟨(min (tip + 1 + (r : Int)) ((i : Int) - 1)).toNat, by omega⟩
            have mn : (if (i : Int) - 1 < tip + 1 + (r : Int) then (i : Int) - 1 else tip + 1 + (r : Int)) = (k : Int) := by rw [ek]; split <;> omega
            have hk1 : k < i ∧ tip < (k : Int) := by omega
            have hend' : Hid (j + 1 = path.length + 1 → (k : Int) = (i : Int) - 1) := ⟨fun h => by omega⟩
            clear ex er ek hend hr4
            have hlb := hl2.get
            have C := see_own 99 (m := i) (by omega) (n := n') hl K (by omega) tip last2 (by omega) (by omega) k hk1.1 (by omega) (by omega)
            clear hlb
            repeat (first | refine go ?_ | refine drg 19 b22_19 w22_19 ?_ | refine drg 26 b22_26 w22_26 ?_ | refine drg 30 b22_30 w22_30 ?_)
            refine VRC.rel C fun v g n3 hn3 hΦ => ?_
            obtain ⟨out, rfl, -, ks', ho⟩ := hΦ
            have hlb := hl2.get
            have hla := hlast.get
            have hf' := ks' _ _ (by omega) hf
            have hf2' := ks' _ _ (by omega) hf2
            have kp' : Keeps n h g := ⟨fun x r hx hr => ks' x r (by omega) (kp.k x r hx hr)⟩
            have hl' : LedAt 99 i g n ja := by
              rcases hl with ⟨a, b⟩ | ⟨a, b, c, d⟩
              · exact .inl ⟨a, ks' _ _ (by omega) b⟩
              · exact .inr ⟨a, b, ks' _ _ (by omega) c, ks' _ _ (by omega) d⟩
            have hA' : OutAt A o jA g := by
              rcases hA with hA | ⟨a, b, c⟩
              · exact .inl hA
              · exact .inr ⟨a, b, ks' _ _ (by rcases hnA with h0 | h0; exact absurd h0 a; omega) c⟩
            have ap1 := apt (show n + 1 < n3 by omega)
            have ap2 := apt (show n + 2 < n3 by omega)
            have v5 : (n + 1 = n + 2) = False := eq_false (by omega)
            have v6 : (n + 2 = n + 1) = False := eq_false (by omega)
            have hja' : ja < n3 := by omega
            have hnA' : A = [] ∨ (n + 2 < jA ∧ jA < n3 ∧ jA < n') := hnA.imp id fun h => by omega
            rcases ho with ⟨ho, rfl⟩ | ⟨ho, jo, hj1', hj2, rfl, hjo⟩
            · have hl2' : Hid (max last2 ((k : Int) - (K : Int)) = max ((k : Int) - K) (-1) ∧ B = ints (max last2 ((k : Int) - (K : Int)) + 1).toNat) := ⟨⟨by omega, by rw [hlb.2]; congr 1; omega⟩⟩
              rcases hB with ⟨rfl, rfl⟩ | ⟨hB0, rfl, rB⟩
              · clear hla hlb C hl hf hf2 kp ks' hmm ho hA hnA hl2 hlast
                refine go ?_
                refine AWp.frz1 (k := 23) (j := n3) (d := 1) tr (x := .q [.i .i64 (K : Int), .i .i64 (k : Int), .i .i64 (max last2 ((k : Int) - (K : Int))), .b false] 0) (by simp only [push_cast]; exact frz_ptr) ?_
                repeat (first | refine go ?_ | refine drg 19 b22_19 w22_19 ?_ | refine drg 26 b22_26 w22_26 ?_ | refine drg 30 b22_30 w22_30 ?_)
                exact ⟨path.length + 1 - (j + 1), lt1, j + 1, n, (k : Int), max last2 ((k : Int) - (K : Int)), [], .ro true [] 0, rfl, by omega, tr, tr, tr, tr, tr, tr, tr, tr, tr, tr, tr, tr, by repeat (first | exact hl' | refine led_upd ?_ (by omega) (by omega)), by repeat (first | exact hA' | refine out_upd ?_ (hnA'.imp id fun h => by omega) | refine out_upd ?_ hAB), .inl ⟨rfl, rfl⟩, hl2', by omega, hend', by omega, by omega, hnA'.imp id fun h => by omega, .inl rfl, ks⟩
              · rcases hnB with h0 | hnB
                · exact absurd h0 hB0
                have rB' := ks' _ _ (by omega) rB
                have hAB := hnB.2.2.2
                have ap3 := apt (show jB < n3 by omega)
                have lB := len_ints B
                have bB : B.length ≤ 30 := by rw [hlb.2, ints_len]; omega
                have x1 : (B.length * 8 ≤ 140737488355328) = True := eq_true (by omega)
                have x2 : (B.length ≤ 9223372036854775807) = True := eq_true (by omega)
                have x3 : (n + 1 = jB) = False := eq_false (by omega)
                have x4 : (jB = n + 1) = False := eq_false (by omega)
                have x5 : (n + 2 = jB) = False := eq_false (by omega)
                have x6 : (jB = n + 2) = False := eq_false (by omega)
                clear hla hlb C hl hf hf2 kp ks' hmm ho hA hnA hl2 hlast rB
                refine go ?_
                refine AWp.frz1 (k := 23) (j := n3) (d := 1) tr (x := .q [.i .i64 (K : Int), .i .i64 (k : Int), .i .i64 (max last2 ((k : Int) - (K : Int))), .b false] 0) (by simp only [push_cast]; exact frz_ptr) ?_
                repeat (first | refine go ?_ | refine drg 19 b22_19 w22_19 ?_ | refine drg 26 b22_26 w22_26 ?_ | refine drg 30 b22_30 w22_30 ?_)
                exact ⟨path.length + 1 - (j + 1), lt1, j + 1, n3 + 1, (k : Int), max last2 ((k : Int) - (K : Int)), B, .sl 1 (n3 + 1) 0 B.length, rfl, by omega, tr, tr, tr, tr, tr, tr, tr, tr, tr, tr, tr, tr, by repeat (first | exact hl' | refine led_upd ?_ (by omega) (by omega)), by repeat (first | exact hA' | refine out_upd ?_ (hnA'.imp id fun h => by omega) | refine out_upd ?_ hAB), .inr ⟨hB0, rfl, tr⟩, hl2', by omega, hend', by omega, by omega, hnA'.imp id fun h => by omega, .inr ⟨by omega, by omega, by omega, hnA'.imp id fun h => by omega⟩, ks⟩
            · obtain ⟨c, ec⟩ : ∃ c : Nat, c = ((k : Int) - (K : Int) - last2).toNat := ⟨_, rfl⟩
              obtain ⟨D, eD⟩ : ∃ D, D = ((List.range' (last2 + 1).toNat c).map fun i : Nat => (i : Int)) := ⟨_, rfl⟩
              have hD : D.length = c := by rw [eD]; simp
              rw [← ec, ← eD] at hjo
              rw [← ec, ← hD]
              have hl2' : Hid (max last2 ((k : Int) - (K : Int)) = max ((k : Int) - K) (-1) ∧ B ++ D = ints (max last2 ((k : Int) - (K : Int)) + 1).toNat) := ⟨⟨by omega, by rw [hlb.2, eD, ints_more]; congr 1; omega⟩⟩
              have hD0 : D ≠ [] := fun h => by rw [h] at hD; simp at hD; omega
              have bD : D.length ≤ 30 := by omega
              have z1 : (D.length = 0) = False := eq_false (by omega)
              have z2 : (0 < D.length) = True := eq_true (by omega)
              have lD := len_ints D
              have tD := take_ints D
              have fz : frz (only jo (intsC D)) 1 (.sl 1 jo 0 D.length) = .ro false (intsC D) D.length := by
                simp only [frz, only, if_true]
                rw [if_pos (by rw [len_ints]; omega), List.drop_zero, Nat.mul_one, take_ints]
                simp [frz]
              have y1 : (D.length * 8 ≤ 140737488355328) = True := eq_true (by omega)
              have y2 : (D.length ≤ 9223372036854775807) = True := eq_true (by omega)
              have x6 : (jo = n + 1) = False := eq_false (by omega)
              have x7 : (n + 1 = jo) = False := eq_false (by omega)
              have x8 : (jo = n + 2) = False := eq_false (by omega)
              have x9 : (n + 2 = jo) = False := eq_false (by omega)
              have ap4 := apt hj2
              rcases hB with ⟨rfl, rfl⟩ | ⟨hB0, rfl, rB⟩
              · clear hla hlb C hl hf hf2 kp ks' hmm ho hA hnA hl2 hlast ec eD hD
                refine go ?_
                refine AWp.frz1 (k := 23) (j := n3) (d := 1) tr (x := .q [.i .i64 (K : Int), .i .i64 (k : Int), .i .i64 (max last2 ((k : Int) - (K : Int))), .b false] 0) (by simp only [push_cast]; exact frz_ptr) ?_
                refine AWp.frz1 (k := 24) (j := jo) (d := 1) tr (x := .ro false (intsC D) D.length) (by simp only [push_cast]; exact fz) ?_
                repeat (first | refine go ?_ | refine drg 19 b22_19 w22_19 ?_ | refine drg 26 b22_26 w22_26 ?_ | refine drg 30 b22_30 w22_30 ?_)
                exact ⟨path.length + 1 - (j + 1), lt1, j + 1, n3 + 1, (k : Int), max last2 ((k : Int) - (K : Int)), D, .sl 1 (n3 + 1) 0 D.length, rfl, by omega, tr, tr, tr, tr, tr, tr, tr, tr, tr, tr, tr, tr, by repeat (first | exact hl' | refine led_upd ?_ (by omega) (by omega)), by repeat (first | exact hA' | refine out_upd ?_ (hnA'.imp id fun h => by omega) | refine out_upd ?_ hAB), .inr ⟨hD0, rfl, tr⟩, hl2', by omega, hend', by omega, by omega, hnA'.imp id fun h => by omega, .inr ⟨by omega, by omega, by omega, hnA'.imp id fun h => by omega⟩, ks⟩
              · rcases hnB with h0 | hnB
                · exact absurd h0 hB0
                have rB' := ks' _ _ (by omega) rB
                have hAB := hnB.2.2.2
                have ap3 := apt (show jB < n3 by omega)
                have lB := len_ints B
                have bB : B.length ≤ 30 := by rw [hlb.2, ints_len]; omega
                have x1 : (B.length * 8 ≤ 140737488355328) = True := eq_true (by omega)
                have x2 : (B.length ≤ 9223372036854775807) = True := eq_true (by omega)
                have x1' : ((B.length + D.length) * 8 ≤ 140737488355328) = True := eq_true (by omega)
                have x2' : (B.length + D.length ≤ 9223372036854775807) = True := eq_true (by omega)
                have x3 : (n + 1 = jB) = False := eq_false (by omega)
                have x4 : (jB = n + 1) = False := eq_false (by omega)
                have x5 : (n + 2 = jB) = False := eq_false (by omega)
                have x5' : (jB = n + 2) = False := eq_false (by omega)
                have y3 : (jo = jB) = False := eq_false (by omega)
                have y4 : (jB = jo) = False := eq_false (by omega)
                have ic : intsC (B ++ D) = intsC B ++ intsC D := by simp [intsC]
                clear hla hlb C hl hf hf2 kp ks' hmm ho hA hnA hl2 hlast rB ec eD hD
                refine go ?_
                refine AWp.frz1 (k := 23) (j := n3) (d := 1) tr (x := .q [.i .i64 (K : Int), .i .i64 (k : Int), .i .i64 (max last2 ((k : Int) - (K : Int))), .b false] 0) (by simp only [push_cast]; exact frz_ptr) ?_
                refine AWp.frz1 (k := 24) (j := jo) (d := 1) tr (x := .ro false (intsC D) D.length) (by simp only [push_cast]; exact fz) ?_
                repeat (first | refine go ?_ | refine drg 19 b22_19 w22_19 ?_ | refine drg 26 b22_26 w22_26 ?_ | refine drg 30 b22_30 w22_30 ?_)
                exact ⟨path.length + 1 - (j + 1), lt1, j + 1, n3 + 1, (k : Int), max last2 ((k : Int) - (K : Int)), B ++ D, .sl 1 (n3 + 1) 0 (B ++ D).length, rfl, by omega, tr, tr, tr, tr, tr, tr, tr, by rw [List.length_append]; exact tr, tr, tr, tr, tr, by repeat (first | exact hl' | refine led_upd ?_ (by omega) (by omega)), by repeat (first | exact hA' | refine out_upd ?_ (hnA'.imp id fun h => by omega) | refine out_upd ?_ hAB), .inr ⟨by simp [hB0], rfl, by rw [ic]; exact tr⟩, hl2', by omega, hend', by omega, by omega, hnA'.imp id fun h => by omega, .inr ⟨by omega, by omega, by omega, hnA'.imp id fun h => by omega⟩, ks⟩
          · have q3 : ((j : Int) < (path.length : Int)) = False := eq_false (by omega)
            obtain ⟨k, ek⟩ : ∃ k : Nat, (k : Int) = (i : Int) - 1 := ⟨((i : Int) - 1).toNat, by omega⟩
            have hk1 : k < i ∧ tip < (k : Int) := by omega
            have hend' : Hid (j + 1 = path.length + 1 → (k : Int) = (i : Int) - 1) := ⟨fun h => by omega⟩
            rw [← ek] at w0 q2
            have w0' : IntKind.wrap .i64 (k : Int) = (k : Int) := IntWalk.i64_in _ (by omega)
            have ek' := ek.symm
            clear ek hend w0
            have hlb := hl2.get
            have C := see_own 99 (m := i) (by omega) (n := n') hl K (by omega) tip last2 (by omega) (by omega) k hk1.1 (by omega) (by omega)
            clear hlb
            repeat (first | refine go ?_ | refine drg 19 b22_19 w22_19 ?_ | refine drg 26 b22_26 w22_26 ?_ | refine drg 30 b22_30 w22_30 ?_)
            refine VRC.rel C fun v g n3 hn3 hΦ => ?_
            obtain ⟨out, rfl, -, ks', ho⟩ := hΦ
            have hlb := hl2.get
            have hla := hlast.get
            have hf' := ks' _ _ (by omega) hf
            have hf2' := ks' _ _ (by omega) hf2
            have kp' : Keeps n h g := ⟨fun x r hx hr => ks' x r (by omega) (kp.k x r hx hr)⟩
            have hl' : LedAt 99 i g n ja := by
              rcases hl with ⟨a, b⟩ | ⟨a, b, c, d⟩
              · exact .inl ⟨a, ks' _ _ (by omega) b⟩
              · exact .inr ⟨a, b, ks' _ _ (by omega) c, ks' _ _ (by omega) d⟩
            have hA' : OutAt A o jA g := by
              rcases hA with hA | ⟨a, b, c⟩
              · exact .inl hA
              · exact .inr ⟨a, b, ks' _ _ (by rcases hnA with h0 | h0; exact absurd h0 a; omega) c⟩
            have ap1 := apt (show n + 1 < n3 by omega)
            have ap2 := apt (show n + 2 < n3 by omega)
            have v5 : (n + 1 = n + 2) = False := eq_false (by omega)
            have v6 : (n + 2 = n + 1) = False := eq_false (by omega)
            have hja' : ja < n3 := by omega
            have hnA' : A = [] ∨ (n + 2 < jA ∧ jA < n3 ∧ jA < n') := hnA.imp id fun h => by omega
            rcases ho with ⟨ho, rfl⟩ | ⟨ho, jo, hj1', hj2, rfl, hjo⟩
            · have hl2' : Hid (max last2 ((k : Int) - (K : Int)) = max ((k : Int) - K) (-1) ∧ B = ints (max last2 ((k : Int) - (K : Int)) + 1).toNat) := ⟨⟨by omega, by rw [hlb.2]; congr 1; omega⟩⟩
              rcases hB with ⟨rfl, rfl⟩ | ⟨hB0, rfl, rB⟩
              · clear hla hlb C hl hf hf2 kp ks' hmm ho hA hnA hl2 hlast
                refine go ?_
                refine AWp.frz1 (k := 23) (j := n3) (d := 1) tr (x := .q [.i .i64 (K : Int), .i .i64 (k : Int), .i .i64 (max last2 ((k : Int) - (K : Int))), .b false] 0) (by simp only [push_cast]; exact frz_ptr) ?_
                repeat (first | refine go ?_ | refine drg 19 b22_19 w22_19 ?_ | refine drg 26 b22_26 w22_26 ?_ | refine drg 30 b22_30 w22_30 ?_)
                exact ⟨path.length + 1 - (j + 1), lt1, j + 1, n, (k : Int), max last2 ((k : Int) - (K : Int)), [], .ro true [] 0, rfl, by omega, tr, tr, tr, tr, tr, tr, tr, tr, tr, tr, tr, tr, by repeat (first | exact hl' | refine led_upd ?_ (by omega) (by omega)), by repeat (first | exact hA' | refine out_upd ?_ (hnA'.imp id fun h => by omega) | refine out_upd ?_ hAB), .inl ⟨rfl, rfl⟩, hl2', by omega, hend', by omega, by omega, hnA'.imp id fun h => by omega, .inl rfl, ks⟩
              · rcases hnB with h0 | hnB
                · exact absurd h0 hB0
                have rB' := ks' _ _ (by omega) rB
                have hAB := hnB.2.2.2
                have ap3 := apt (show jB < n3 by omega)
                have lB := len_ints B
                have bB : B.length ≤ 30 := by rw [hlb.2, ints_len]; omega
                have x1 : (B.length * 8 ≤ 140737488355328) = True := eq_true (by omega)
                have x2 : (B.length ≤ 9223372036854775807) = True := eq_true (by omega)
                have x3 : (n + 1 = jB) = False := eq_false (by omega)
                have x4 : (jB = n + 1) = False := eq_false (by omega)
                have x5 : (n + 2 = jB) = False := eq_false (by omega)
                have x6 : (jB = n + 2) = False := eq_false (by omega)
                clear hla hlb C hl hf hf2 kp ks' hmm ho hA hnA hl2 hlast rB
                refine go ?_
                refine AWp.frz1 (k := 23) (j := n3) (d := 1) tr (x := .q [.i .i64 (K : Int), .i .i64 (k : Int), .i .i64 (max last2 ((k : Int) - (K : Int))), .b false] 0) (by simp only [push_cast]; exact frz_ptr) ?_
                repeat (first | refine go ?_ | refine drg 19 b22_19 w22_19 ?_ | refine drg 26 b22_26 w22_26 ?_ | refine drg 30 b22_30 w22_30 ?_)
                exact ⟨path.length + 1 - (j + 1), lt1, j + 1, n3 + 1, (k : Int), max last2 ((k : Int) - (K : Int)), B, .sl 1 (n3 + 1) 0 B.length, rfl, by omega, tr, tr, tr, tr, tr, tr, tr, tr, tr, tr, tr, tr, by repeat (first | exact hl' | refine led_upd ?_ (by omega) (by omega)), by repeat (first | exact hA' | refine out_upd ?_ (hnA'.imp id fun h => by omega) | refine out_upd ?_ hAB), .inr ⟨hB0, rfl, tr⟩, hl2', by omega, hend', by omega, by omega, hnA'.imp id fun h => by omega, .inr ⟨by omega, by omega, by omega, hnA'.imp id fun h => by omega⟩, ks⟩
            · obtain ⟨c, ec⟩ : ∃ c : Nat, c = ((k : Int) - (K : Int) - last2).toNat := ⟨_, rfl⟩
              obtain ⟨D, eD⟩ : ∃ D, D = ((List.range' (last2 + 1).toNat c).map fun i : Nat => (i : Int)) := ⟨_, rfl⟩
              have hD : D.length = c := by rw [eD]; simp
              rw [← ec, ← eD] at hjo
              rw [← ec, ← hD]
              have hl2' : Hid (max last2 ((k : Int) - (K : Int)) = max ((k : Int) - K) (-1) ∧ B ++ D = ints (max last2 ((k : Int) - (K : Int)) + 1).toNat) := ⟨⟨by omega, by rw [hlb.2, eD, ints_more]; congr 1; omega⟩⟩
              have hD0 : D ≠ [] := fun h => by rw [h] at hD; simp at hD; omega
              have bD : D.length ≤ 30 := by omega
              have z1 : (D.length = 0) = False := eq_false (by omega)
              have z2 : (0 < D.length) = True := eq_true (by omega)
              have lD := len_ints D
              have tD := take_ints D
              have fz : frz (only jo (intsC D)) 1 (.sl 1 jo 0 D.length) = .ro false (intsC D) D.length := by
                simp only [frz, only, if_true]
                rw [if_pos (by rw [len_ints]; omega), List.drop_zero, Nat.mul_one, take_ints]
                simp [frz]
              have y1 : (D.length * 8 ≤ 140737488355328) = True := eq_true (by omega)
              have y2 : (D.length ≤ 9223372036854775807) = True := eq_true (by omega)
              have x6 : (jo = n + 1) = False := eq_false (by omega)
              have x7 : (n + 1 = jo) = False := eq_false (by omega)
              have x8 : (jo = n + 2) = False := eq_false (by omega)
              have x9 : (n + 2 = jo) = False := eq_false (by omega)
              have ap4 := apt hj2
              rcases hB with ⟨rfl, rfl⟩ | ⟨hB0, rfl, rB⟩
              · clear hla hlb C hl hf hf2 kp ks' hmm ho hA hnA hl2 hlast ec eD hD
                refine go ?_
                refine AWp.frz1 (k := 23) (j := n3) (d := 1) tr (x := .q [.i .i64 (K : Int), .i .i64 (k : Int), .i .i64 (max last2 ((k : Int) - (K : Int))), .b false] 0) (by simp only [push_cast]; exact frz_ptr) ?_
                refine AWp.frz1 (k := 24) (j := jo) (d := 1) tr (x := .ro false (intsC D) D.length) (by simp only [push_cast]; exact fz) ?_
                repeat (first | refine go ?_ | refine drg 19 b22_19 w22_19 ?_ | refine drg 26 b22_26 w22_26 ?_ | refine drg 30 b22_30 w22_30 ?_)
                exact ⟨path.length + 1 - (j + 1), lt1, j + 1, n3 + 1, (k : Int), max last2 ((k : Int) - (K : Int)), D, .sl 1 (n3 + 1) 0 D.length, rfl, by omega, tr, tr, tr, tr, tr, tr, tr, tr, tr, tr, tr, tr, by repeat (first | exact hl' | refine led_upd ?_ (by omega) (by omega)), by repeat (first | exact hA' | refine out_upd ?_ (hnA'.imp id fun h => by omega) | refine out_upd ?_ hAB), .inr ⟨hD0, rfl, tr⟩, hl2', by omega, hend', by omega, by omega, hnA'.imp id fun h => by omega, .inr ⟨by omega, by omega, by omega, hnA'.imp id fun h => by omega⟩, ks⟩
              · rcases hnB with h0 | hnB
                · exact absurd h0 hB0
                have rB' := ks' _ _ (by omega) rB
                have hAB := hnB.2.2.2
                have ap3 := apt (show jB < n3 by omega)
                have lB := len_ints B
                have bB : B.length ≤ 30 := by rw [hlb.2, ints_len]; omega
                have x1 : (B.length * 8 ≤ 140737488355328) = True := eq_true (by omega)
                have x2 : (B.length ≤ 9223372036854775807) = True := eq_true (by omega)
                have x1' : ((B.length + D.length) * 8 ≤ 140737488355328) = True := eq_true (by omega)
                have x2' : (B.length + D.length ≤ 9223372036854775807) = True := eq_true (by omega)
                have x3 : (n + 1 = jB) = False := eq_false (by omega)
                have x4 : (jB = n + 1) = False := eq_false (by omega)
                have x5 : (n + 2 = jB) = False := eq_false (by omega)
                have x5' : (jB = n + 2) = False := eq_false (by omega)
                have y3 : (jo = jB) = False := eq_false (by omega)
                have y4 : (jB = jo) = False := eq_false (by omega)
                have ic : intsC (B ++ D) = intsC B ++ intsC D := by simp [intsC]
                clear hla hlb C hl hf hf2 kp ks' hmm ho hA hnA hl2 hlast rB ec eD hD
                refine go ?_
                refine AWp.frz1 (k := 23) (j := n3) (d := 1) tr (x := .q [.i .i64 (K : Int), .i .i64 (k : Int), .i .i64 (max last2 ((k : Int) - (K : Int))), .b false] 0) (by simp only [push_cast]; exact frz_ptr) ?_
                refine AWp.frz1 (k := 24) (j := jo) (d := 1) tr (x := .ro false (intsC D) D.length) (by simp only [push_cast]; exact fz) ?_
                repeat (first | refine go ?_ | refine drg 19 b22_19 w22_19 ?_ | refine drg 26 b22_26 w22_26 ?_ | refine drg 30 b22_30 w22_30 ?_)
                exact ⟨path.length + 1 - (j + 1), lt1, j + 1, n3 + 1, (k : Int), max last2 ((k : Int) - (K : Int)), B ++ D, .sl 1 (n3 + 1) 0 (B ++ D).length, rfl, by omega, tr, tr, tr, tr, tr, tr, tr, by rw [List.length_append]; exact tr, tr, tr, tr, tr, by repeat (first | exact hl' | refine led_upd ?_ (by omega) (by omega)), by repeat (first | exact hA' | refine out_upd ?_ (hnA'.imp id fun h => by omega) | refine out_upd ?_ hAB), .inr ⟨by simp [hB0], rfl, by rw [ic]; exact tr⟩, hl2', by omega, hend', by omega, by omega, hnA'.imp id fun h => by omega, .inr ⟨by omega, by omega, by omega, hnA'.imp id fun h => by omega⟩, ks⟩
        · have hlb := hl2.get
          have hla := hlast.get
          have htip2 : tip = (i : Int) - 1 := by
            by_cases h : j = path.length + 1
            · exact hend.get h
            · omega
          have hlast2 : last2 = last := by omega
          subst hlast2
          have hBA : B = A := by rw [hlb.2, hla.2]
          subst hBA
          have bA : B.length ≤ 30 := by rw [hlb.2, ints_len]; omega
          have I := ints_own (n := n') hA hB (by omega)
          have F := l77t (K : Int) ((i : Int) - 1) last2 false
          have w1 : IntKind.wrap .i64 ((i : Int) - (K : Int)) = (i : Int) - (K : Int) := IntWalk.i64_in _ (by omega)
          have bl : B.length = (last2 + 1).toNat := by rw [hlb.2, ints_len]
          have mx : (if (0 : Int) > (i : Int) - (K : Int) then 0 else (i : Int) - (K : Int)) = (B.length : Int) := by split <;> omega
          have q2 : ((i : Int) - 1 < (i : Int) - 1) = False := eq_false (by omega)
          rw [htip2] at hf2 t21
          have hjc : ((j : Int) ≤ (path.length : Int)) = True ∨ ((j : Int) ≤ (path.length : Int)) = False := (Classical.em _).imp eq_true eq_false
          clear hlb hla hl2 hlast hend hc htip htip2 bl hmm bA hnA hnB
          rcases hjc with q1 | q1 <;> (rcases hB with ⟨rfl, rfl⟩ | ⟨hB0, rfl, rB⟩)
          · repeat (first | refine go ?_ | refine drg 19 b22_19 w22_19 ?_ | refine drg 26 b22_26 w22_26 ?_ | refine drg 30 b22_30 w22_30 ?_)
            refine VRC.wide I (app_nil _) ?_
            repeat (first | refine go ?_ | refine drg 19 b22_19 w22_19 ?_ | refine drg 26 b22_26 w22_26 ?_ | refine drg 30 b22_30 w22_30 ?_)
            exact outP
          · repeat (first | refine go ?_ | refine drg 19 b22_19 w22_19 ?_ | refine drg 26 b22_26 w22_26 ?_ | refine drg 30 b22_30 w22_30 ?_)
            refine VRC.wide I (app_nil _) ?_
            repeat (first | refine go ?_ | refine drg 19 b22_19 w22_19 ?_ | refine drg 26 b22_26 w22_26 ?_ | refine drg 30 b22_30 w22_30 ?_)
            exact outP
          · repeat (first | refine go ?_ | refine drg 19 b22_19 w22_19 ?_ | refine drg 26 b22_26 w22_26 ?_ | refine drg 30 b22_30 w22_30 ?_)
            refine VRC.wide I (app_nil _) ?_
            repeat (first | refine go ?_ | refine drg 19 b22_19 w22_19 ?_ | refine drg 26 b22_26 w22_26 ?_ | refine drg 30 b22_30 w22_30 ?_)
            exact outP
          · repeat (first | refine go ?_ | refine drg 19 b22_19 w22_19 ?_ | refine drg 26 b22_26 w22_26 ?_ | refine drg 30 b22_30 w22_30 ?_)
            refine VRC.wide I (app_nil _) ?_
            repeat (first | refine go ?_ | refine drg 19 b22_19 w22_19 ?_ | refine drg 26 b22_26 w22_26 ?_ | refine drg 30 b22_30 w22_30 ?_)
            exact outP

end Go.Proofs.YtmkefpjpghmonaaGreat
