import Derived.Test.YtmkefpjpghmonaaGreatLl
namespace Go.Proofs.YtmkefpjpghmonaaGreat
open Go.Av
set_option maxRecDepth 100000
set_option maxHeartbeats 1000000
set_option synthInstance.maxHeartbeats 400000
set_option synthInstance.maxSize 4000
set_option linter.unusedSimpArgs false
set_option linter.unusedVariables false

attribute [push_cast] List.length_set
/-! ### slices of numbers -/
def idxFrom (v : Int) : List Int → Nat → Int
  | [], _ => -1
  | x :: l, k => if v = x then (k : Int) else idxFrom v l (k + 1)
def idxOf (l : List Int) (v : Int) : Int := idxFrom v l 0
theorem l141 (z : Bool) (l : List Int) (v : Int) (hl : l.length ≤ 1000000) : PCalls Tryz.prog 141 [.ro z (intsC l) l.length, .i .i64 v] (.i .i64 (idxOf l v)) := by
  obtain ⟨F, eF⟩ : ∃ F, F = idxOf l v := ⟨_, rfl⟩
  have HF : Hid _ := ⟨eF⟩
  rw [← eF]
  clear eF
  refine pof Tryz.func141 fun h n => ?_
  refine go ?_
  refine AWp.loop (fun mm t' h' n' => ∃ i : Nat, mm = l.length - i ∧ i ≤ l.length ∧ Hid (F = idxFrom v (l.drop i) i) ∧ t' 0 = .ro z (intsC l) l.length ∧ t' 1 = .i .i64 v ∧ t' 7 = .i .i64 (l.length : Int) ∧ t' 8 = .i .i64 (i : Int) ∧ Keeps n h h') l.length ?_ ?_
  · exact ⟨0, rfl, Nat.zero_le _, HF, tr, tr, tr, tr, ks⟩
  · rintro mm t' h' n' - ⟨i, hmm, hi, HF, t0, t1, t7, t8, kp⟩
    by_cases hlt : i < l.length
    · have q1 : ((i : Int) < (l.length : Int)) = True := eq_true (by omega)
      have q2 : (0 ≤ (i : Int) ∧ (i : Int) < (l.length : Int)) = True := eq_true (by omega)
      have w1 : IntKind.wrap .i64 ((i : Int) + 1) = (i : Int) + 1 := IntWalk.i64_in _ (by omega)
      have q3 := ints_get hlt
      have e := HF.get
      rw [List.drop_eq_getElem_cons hlt, idxFrom] at e
      obtain ⟨x, ex⟩ : ∃ x, l[i] = x := ⟨_, rfl⟩
      rw [ex] at q3 e
      have lt1 : l.length - (i + 1) < mm := by omega
      by_cases hx : v = x
      · have c1 : (v == x) = true := by simpa using hx
        rw [if_pos hx] at e
        rw [e]
        clear hx ex HF hmm e
        refine go ?_
        exact outP
      · have c1 : (v == x) = false := by simpa using hx
        rw [if_neg hx] at e
        have HF' : Hid _ := ⟨e⟩
        clear hx ex HF hmm e
        refine go ?_
        exact ⟨l.length - (i + 1), lt1, i + 1, rfl, hlt, HF', tr, tr, tr, tr, ks⟩
    · have q1 : ((i : Int) < (l.length : Int)) = False := eq_false (by omega)
      have e : F = -1 := by rw [HF.get, List.drop_eq_nil_of_le (by omega)]; rfl
      rw [e]
      clear HF hmm e
      refine go ?_
      exact outP
def hasInt (l : List Int) (v : Int) : Bool := decide (idxOf l v ≥ 0)
theorem l140 (z : Bool) (l : List Int) (v : Int) (hl : l.length ≤ 1000000) : PCalls Tryz.prog 140 [.ro z (intsC l) l.length, .i .i64 v] (.b (hasInt l v)) := by
  have A := l141 z l v hl
  unfold hasInt
  refine pof Tryz.func140 fun h n => ?_
  refine go ?_
  exact outP
/-! ### Reverse -/
/-- The first i and the last i have changed places. -/
def revTo (l : List Int) (i : Nat) : List Int := (List.range l.length).map fun k => if k < i ∨ l.length - i ≤ k then l.getD (l.length - 1 - k) 0 else l.getD k 0
theorem revTo_len (l : List Int) (i : Nat) : (revTo l i).length = l.length := by simp [revTo]
theorem revTo_0 (l : List Int) : revTo l 0 = l := by
  apply List.ext_getElem
  · simp [revTo]
  · intro k h1 h2
    simp only [revTo, List.getElem_map, List.getElem_range]
    rw [revTo_len] at h1
    rw [if_neg (by omega)]
    simp [h2]
theorem revTo_end (l : List Int) (i : Nat) (hi : l.length ≤ 2 * i + 1) : revTo l i = l.reverse := by
  apply List.ext_getElem
  · simp [revTo]
  · intro k h1 h2
    have hk : k < l.length := by simpa using h2
    simp only [revTo, List.getElem_map, List.getElem_range, List.getElem_reverse]
    split
    · rw [List.getD_eq_getElem?_getD, List.getElem?_eq_getElem (by omega)]; rfl
    · rename_i hn
      have : l.length - 1 - k = k := by omega
      rw [List.getD_eq_getElem?_getD, List.getElem?_eq_getElem hk]
      simp [this]
theorem revTo_get {l : List Int} {i k : Nat} (hk : k < l.length) (h1 : i ≤ k) (h2 : k < l.length - i) : (intsC (revTo l i))[k]? = some (.i .i64 (l.getD k 0)) := by
  rw [ints_get (by rw [revTo_len]; exact hk)]
  simp only [revTo, List.getElem_map, List.getElem_range]
  rw [if_neg (by omega)]
theorem revTo_set {l : List Int} {i : Nat} (h : 2 * i + 1 < l.length) : ((intsC (revTo l i)).set i (.i .i64 (l.getD (l.length - 1 - i) 0))).set (l.length - 1 - i) (.i .i64 (l.getD i 0)) = intsC (revTo l (i + 1)) := by
  apply List.ext_getElem
  · simp [intsC, revTo]
  · intro k h1 h2
    have hk : k < l.length := by simpa [intsC, revTo] using h2
    rw [List.getElem_set, List.getElem_set]
    simp only [intsC, revTo, List.getElem_map, List.getElem_range]
    split
    · subst_vars; rw [if_pos (by omega)]; congr 2; omega
    · split
      · subst_vars; rw [if_pos (by omega)]
      · congr 1
        by_cases hc : k < i ∨ l.length - i ≤ k
        · rw [if_pos hc, if_pos (by omega)]
        · rw [if_neg hc, if_neg (by omega)]
def b135_3 : List Nat := [0, 0, 0, 0, 0, 0, 48, 112, 0, 0, 768, 1792, 4083, 8179, 16383, 32767]
def w135_3 : List Nat := [13, 15]
theorem l135 (l : List Int) (hl : l.length ≤ 1000000) {h : Heap} {j : Nat} (hj : h j = some (.cells (intsC l))) (n : Nat) : DCalls Tryz.prog 135 [.sl 1 j 0 l.length] h n (.tup []) (swap [(j, intsC l)] [(j, intsC l.reverse)]) n := by
  by_cases hjn : n ≤ j
  · exact DCalls.vac ⟨_, Tryz.func135, rfl, by decide⟩ (Nat.le_refl _) hj hjn
  refine DCalls.of Tryz.func135 rfl (by decide) (Nat.le_of_ble_eq_true rfl) (Nat.le_refl _) ?_
  have w0 : IntKind.wrap .i64 ((l.length : Int) - 1) = (l.length : Int) - 1 := IntWalk.i64_in _ (by omega)
  repeat (first | refine go ?_ | refine drg 3 b135_3 w135_3 ?_)
  refine AWp.loop (fun mm t' h' n' => ∃ i : Nat, mm = l.length - i ∧ 2 * i ≤ l.length + 1 ∧ t' 0 = .sl 1 j 0 l.length ∧ t' 2 = .i .i64 (i : Int) ∧ t' 3 = .i .i64 ((l.length : Int) - 1 - (i : Int)) ∧ h' j = some (.cells (intsC (revTo l i))) ∧ n ≤ n' ∧ Hid (∀ x r, x < n → h x = some r → x ∉ [j] → h' x = some r)) l.length ?_ ?_
  · exact ⟨0, rfl, by omega, tr, tr, by first | exact tr | simp only [push_cast, Int.sub_zero], by rw [revTo_0]; exact tr, Nat.le_refl _, ⟨keepX0⟩⟩
  · have Hj : Hid _ := ⟨hj⟩
    clear hj
    rintro mm t' h' n' - ⟨i, hmm, hi, t0, t2, t3, rj, hn, kp⟩
    by_cases hlt : 2 * i + 1 < l.length
    · obtain ⟨k, ek⟩ : ∃ k, k = l.length - 1 - i := ⟨_, rfl⟩
      rw [show (l.length : Int) - 1 - (i : Int) = (k : Int) by omega] at t3
      have q1 : ((i : Int) < (k : Int)) = True := eq_true (by omega)
      have q2 : (0 ≤ (i : Int) ∧ (i : Int) < (l.length : Int)) = True := eq_true (by omega)
      have q3 : (0 ≤ (k : Int) ∧ (k : Int) < (l.length : Int)) = True := eq_true (by omega)
      have w1 : IntKind.wrap .i64 ((i : Int) + 1) = (i : Int) + 1 := IntWalk.i64_in _ (by omega)
      have w2 : IntKind.wrap .i64 ((k : Int) - 1) = (k : Int) - 1 := IntWalk.i64_in _ (by omega)
      have g1 := revTo_get (l := l) (i := i) (k := i) (by omega) (by omega) (by omega)
      have g2 := revTo_get (l := l) (i := i) (k := k) (by omega) (by omega) (by omega)
      have st := revTo_set hlt
      rw [← ek] at st
      obtain ⟨x, ex⟩ : ∃ x, l.getD i 0 = x := ⟨_, rfl⟩
      obtain ⟨y, ey⟩ : ∃ y, l.getD k 0 = y := ⟨_, rfl⟩
      rw [ex] at g1 st
      rw [ey] at g2 st
      have ln := len_ints (revTo l i)
      have lr := revTo_len l i
      have b1 : (i + 1 ≤ l.length) = True := eq_true (by omega)
      have b2 : (k + 1 ≤ l.length) = True := eq_true (by omega)
      have eu : (l.length : Int) - 1 - ((i : Int) + 1) = (k : Int) - 1 := by omega
      have lt1 : l.length - (i + 1) < mm := by omega
      have hi' : 2 * (i + 1) ≤ l.length + 1 := by omega
      clear ek ex ey hmm hi
      repeat (first | refine go ?_ | refine drg 3 b135_3 w135_3 ?_)
      exact ⟨l.length - (i + 1), lt1, i + 1, rfl, hi', tr, tr, tr, tr, by omega, ⟨by repeat (first | exact kp.get | refine keepX (by simp) ?_)⟩⟩
    · have q1 : ((i : Int) < (l.length : Int) - 1 - (i : Int)) = False := eq_false (by omega)
      rw [revTo_end l i (by omega)] at rj
      clear hmm
      repeat (first | refine go ?_ | refine drg 3 b135_3 w135_3 ?_)
      exact Out.swap (L := [(j, intsC l)]) (L' := [(j, intsC l.reverse)]) (xs := []) (by first | exact .inl rfl | exact .inr rfl) rfl rfl (Nat.le_refl _) hn trivial ⟨fun p hp => by simp at hp; subst hp; exact Hj.get, by simp [Lst.keys]⟩ ⟨fun p hp => by simp at hp; subst hp; exact tr, by simp [Lst.keys]⟩ (fun x hx => .inl hx) (fun p hp => by simp at hp; subst hp; exact freeAll_names _ (free_ints _)) (fun x r hx hr hn => kp.get x r hx hr hn)

end Go.Proofs.YtmkefpjpghmonaaGreat
