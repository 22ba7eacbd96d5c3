import Derived.Test.YtmkefpjpghmonaaGreatLw
namespace Go.Proofs.YtmkefpjpghmonaaGreat
open Go.Av
set_option maxRecDepth 100000
set_option maxHeartbeats 1000000
set_option synthInstance.maxHeartbeats 400000
set_option synthInstance.maxSize 4000
set_option linter.unusedSimpArgs false
set_option linter.unusedVariables false

theorem u64_nat (x : Int) : ∃ U : Nat, IntKind.wrap .u64 x = (U : Int) := ⟨(IntKind.wrap .u64 x).toNat, by rw [IntKind.wrap_u64]; omega⟩
theorem tmod_nat (U m : Nat) : Int.tmod (U : Int) (m : Int) = ((U % m : Nat) : Int) := by rw [Int.tmod_eq_emod_of_nonneg (by omega)]; exact (Int.natCast_emod U m).symm
theorem led_upd {e : Int} {m : Nat} {h : Heap} {jl ja j : Nat} {r : Option Row} (hl : LedAt e m h jl ja) (h1 : jl ≠ j) (h2 : ja ≠ j) : LedAt e m (upd h j r) jl ja := by
  rcases hl with ⟨a, b⟩ | ⟨a, b, c, d⟩
  · exact .inl ⟨a, by rw [upd_ne _ _ h1]; exact b⟩
  · exact .inr ⟨a, b, by rw [upd_ne _ _ h1]; exact c, by rw [upd_ne _ _ h2]; exact d⟩
theorem fo_r {last top id K i : Int} (h1 : -1 ≤ last) (h2 : last ≤ id) (h3 : id < i) (h4 : top < i) (h5 : 0 ≤ K) : -1 ≤ max last (id - K) ∧ max last (id - K) ≤ id ∧ id ≤ max top id ∧ max top id < i := by omega
theorem l21 (n0 k0 : Int) (z : Bool) (path : List Int) : PCalls Tryz.prog 21 [.i .i64 n0, .i .i64 k0, .ro z (intsC path) path.length] (.b true) := by
  obtain ⟨U, hU⟩ := u64_nat n0
  obtain ⟨V, hV⟩ := u64_nat k0
  obtain ⟨m, hm⟩ : ∃ m, m = U % 20 + 1 := ⟨_, rfl⟩
  obtain ⟨K, hK⟩ : ∃ K, K = V % 6 := ⟨_, rfl⟩
  have r1 : Int.tmod (U : Int) 20 = ((U % 20 : Nat) : Int) := tmod_nat U 20
  have r2 : Int.tmod (V : Int) 6 = (K : Int) := by rw [hK]; exact tmod_nat V 6
  have w1 : IntKind.wrap .i64 ((U % 20 : Nat) : Int) = ((U % 20 : Nat) : Int) := IntWalk.i64_in _ (by omega)
  have w2 : IntKind.wrap .i64 (1 + ((U % 20 : Nat) : Int)) = (m : Int) := by rw [hm, show ((U % 20 + 1 : Nat) : Int) = 1 + ((U % 20 : Nat) : Int) by omega]; exact IntWalk.i64_in _ (by omega)
  have w3 : IntKind.wrap .i64 (K : Int) = (K : Int) := IntWalk.i64_in _ (by omega)
  have hmb : 1 ≤ m ∧ m ≤ 20 := by omega
  have hKb : K < 6 := by omega
  clear hm hK
  generalize U % 20 = u at r1 w1 w2
  have C1 := l69s 99 (by decide)
  rw [led_0] at C1
  have C2 := l76 K (by omega)
  have C3 := l82
  refine pof Tryz.func21 fun h n => ?_
  by_cases hp : path.length > 60
  · have q0 : ((path.length : Int) > 60) = True := eq_true (by omega)
    refine go ?_
    exact outP
  have q0 : ((path.length : Int) > 60) = False := eq_false (by omega)
  refine go ?_
  refine AWp.loop (fun mm t' h' n' => ∃ (i ja : Nat), mm = m - i ∧ i ≤ m ∧ t' 0 = .i .i64 (m : Int) ∧ t' 1 = .i .i64 (K : Int) ∧ t' 2 = .ro z (intsC path) path.length ∧ t' 7 = .p n 0 ∧ t' 9 = .p (n + 1) 0 ∧ t' 11 = .i .i64 (i : Int) ∧ h' (n + 1) = some (.cells [.i .i64 (K : Int), .i .i64 (-1), .i .i64 (-1), .b false]) ∧ LedAt 99 i h' n ja ∧ n + 1 < n' ∧ ja < n' ∧ ja ≠ n + 1 ∧ n ≤ ja ∧ Keeps n h h') m ?_ ?_
  · exact ⟨0, n, rfl, by omega, tr, tr, tr, tr, tr, tr, tr, .inl ⟨rfl, tr⟩, by omega, by omega, by omega, by omega, ks⟩
  · clear C1 C2 r1 r2 w1 w2 w3 hU hV
    rintro mm t' h' n' - ⟨i, ja, hmm, hi, t0, t1, t2, t7, t9, t11, hf, hl, hn, hja, hne, hna, kp⟩
    by_cases hlt : i < m
    · have q1 : ((i : Int) < (m : Int)) = True := eq_true (by omega)
      have w1 : IntKind.wrap .i64 ((i : Int) - 1) = (i : Int) - 1 := IntWalk.i64_in _ (by omega)
      have w2 : IntKind.wrap .i64 ((i : Int) + 1) = (i : Int) + 1 := IntWalk.i64_in _ (by omega)
      have A := add_one 99 i (by omega) (by omega) (n := n') (show n < n' by omega) hja hl
      refine go ?_
      refine VRC.rel A fun v g o hm hΦ => ?_
      obtain ⟨rfl, -, jb, hb1, hb2, hb3, hl', ks'⟩ := hΦ
      have hf' := ks' _ _ hn hf (by simp; omega)
      have kp' : Keeps n h g := ⟨fun x r hx hr => ks' x r (by omega) (kp.k x r hx hr) (by simp; omega)⟩
      clear A hl hf kp ks'
      have lt1 : m - (i + 1) < mm := by omega
      clear hmm
      refine go ?_
      exact ⟨m - (i + 1), lt1, i + 1, jb, rfl, hlt, tr, tr, tr, tr, tr, tr, tr, hl', by omega, by omega, by omega, by omega, ks⟩
    · have q1 : ((i : Int) < (m : Int)) = False := eq_false (by omega)
      obtain rfl : i = m := by omega
      clear hmm hlt hi
      refine go ?_
      refine AWp.loop (fun mm t' h' n' => ∃ (j : Nat) (top tip last : Int), mm = path.length - j ∧ j ≤ path.length ∧ t' 0 = .i .i64 (i : Int) ∧ t' 1 = .i .i64 (K : Int) ∧ t' 2 = .ro z (intsC path) path.length ∧ t' 7 = .p n 0 ∧ t' 9 = .p (n + 1) 0 ∧ t' 15 = .i .i64 (j : Int) ∧ t' 14 = .i .i64 top ∧ h' (n + 1) = some (.cells [.i .i64 (K : Int), .i .i64 tip, .i .i64 last, .b false]) ∧ LedAt 99 i h' n ja ∧ n + 1 < n' ∧ ja < n' ∧ Keeps n h h' ∧ (-1 ≤ last ∧ last ≤ tip ∧ tip ≤ top ∧ top < i) ∧ Hid (last = max (top - K) (-1))) path.length ?_ ?_
      · exact ⟨0, -1, -1, -1, rfl, by omega, tr, tr, tr, tr, tr, tr, tr, tr, hl, by omega, by omega, ks, by omega, ⟨by omega⟩⟩
      · clear t0 t1 t2 t7 t9 t11 hf hl hn hja kp q1
        rintro mm t' h' n' - ⟨j, top, tip, last, hmm, hj, t0, t1, t2, t7, t9, t15, t14, hf, hl, hn, hja, kp, hr, hlast⟩
        by_cases hlt : j < path.length
        · have q1 : ((j : Int) < (path.length : Int)) = True := eq_true (by omega)
          have q2 : (0 ≤ (j : Int) ∧ (j : Int) < (path.length : Int)) = True := eq_true (by omega)
          have w1 : IntKind.wrap .i64 ((j : Int) + 1) = (j : Int) + 1 := IntWalk.i64_in _ (by omega)
          have q3 := ints_get hlt
          obtain ⟨x, ex⟩ : ∃ x, path[j] = x := ⟨_, rfl⟩
          rw [ex] at q3
          obtain ⟨U, hU⟩ := u64_nat x
          have w2 : IntKind.wrap .u64 (i : Int) = (i : Int) := by rw [wrapN, Nat.mod_eq_of_lt (by omega)]
          have q4 : ((i : Int) = 0) = False := eq_false (by omega)
          have r1 := tmod_nat U i
          obtain ⟨id, eid⟩ : ∃ id, U % i = id := ⟨_, rfl⟩
          have hid : id < i := by rw [← eid]; exact Nat.mod_lt _ (by omega)
          rw [eid] at r1
          have w3 : IntKind.wrap .i64 (id : Int) = (id : Int) := IntWalk.i64_in _ (by omega)
          have w4 : IntKind.wrap .i64 (tip - (id : Int)) = tip - (id : Int) := IntWalk.i64_in _ (by omega)
          have lt1 : path.length - (j + 1) < mm := by omega
          clear ex eid hmm
          by_cases c1 : tip - (id : Int) > (K : Int)
          · have q5 := eq_true c1
            clear c1
            refine go ?_
            exact ⟨path.length - (j + 1), lt1, j + 1, top, tip, last, rfl, hlt, tr, tr, tr, tr, tr, tr, tr, tr, hl, by omega, by omega, ks, hr, hlast⟩
          · have q5 := eq_false c1
            by_cases c2 : last > (id : Int)
            · have q6 := eq_true c2
              clear c1 c2
              refine go ?_
              exact ⟨path.length - (j + 1), lt1, j + 1, top, tip, last, rfl, hlt, tr, tr, tr, tr, tr, tr, tr, tr, hl, by omega, by omega, ks, hr, hlast⟩
            · have q6 := eq_false c2
              have A := see_own 99 (m := i) (by omega) (n := n') hl K (by omega) tip last (by omega) (by omega) id hid (by omega) (by omega)
              have w5 : IntKind.wrap .i64 (max top (id : Int) - (K : Int)) = max top (id : Int) - (K : Int) := IntWalk.i64_in _ (by omega)
              have e1 : (if (id : Int) > top then (id : Int) else top) = max top (id : Int) := by rw [Int.max_def]; split <;> split <;> omega
              have hla := hlast.get
              have e2 : (if (-1 : Int) > max top (id : Int) - (K : Int) then -1 else max top (id : Int) - (K : Int)) = max last ((id : Int) - (K : Int)) := by split <;> omega
              have hlast' : Hid (max last ((id : Int) - (K : Int)) = max (max top (id : Int) - K) (-1)) := ⟨by omega⟩
              clear hla
              refine go ?_
              refine VRC.rel A fun v g o hm hΦ => ?_
              obtain ⟨out, rfl, hno, ks', ho⟩ := hΦ
              have hf' := ks' _ _ hn hf
              have kp' : Keeps n h g := ⟨fun x r hx hr => ks' x r (by omega) (kp.k x r hx hr)⟩
              have hl' : LedAt 99 i g n ja := by
                rcases hl with ⟨a, b⟩ | ⟨a, b, c, d⟩
                · exact .inl ⟨a, ks' _ _ (by omega) b⟩
                · exact .inr ⟨a, b, ks' _ _ (by omega) c, ks' _ _ hja d⟩
              have ap := apt (show n + 1 < o by omega)
              have hr' := fo_r (K := (K : Int)) hr.1 (Int.not_lt.1 c2) (Int.ofNat_lt.2 hid) hr.2.2.2 (Int.natCast_nonneg K)
              clear A hl hf kp ks' ho c1 c2 hr hlast
              refine go ?_
              exact ⟨path.length - (j + 1), lt1, j + 1, max top (id : Int), (id : Int), max last ((id : Int) - (K : Int)), rfl, hlt, tr, tr, tr, tr, tr, tr, tr, tr, led_upd (led_upd (led_upd hl' (by omega) (by omega)) (by omega) (by omega)) (by omega) (by omega), by omega, by omega, ks, hr', hlast'⟩
        · have q1 : ((j : Int) < (path.length : Int)) = False := eq_false (by omega)
          clear hmm
          refine go ?_
          exact outP

end Go.Proofs.YtmkefpjpghmonaaGreat
