import Derived.Test.YtmkefpjpghmonaaGreatLt
namespace Go.Proofs.YtmkefpjpghmonaaGreat
open Go.Av
set_option maxRecDepth 100000
set_option maxHeartbeats 1000000
set_option synthInstance.maxHeartbeats 400000
set_option synthInstance.maxSize 4000
set_option linter.unusedSimpArgs false
set_option linter.unusedVariables false

def ints (n : Nat) : List Int := (List.range n).map fun i : Nat => (i : Int)
theorem ints_len (n : Nat) : (ints n).length = n := by simp [ints]
theorem ints_succ (n : Nat) : ints (n + 1) = ints n ++ [(n : Int)] := by simp [ints, List.range_succ]
theorem ints_at {n i : Nat} (hi : i < n) : (ints n)[i]? = some (i : Int) := by simp [ints, hi]
theorem ents_par (e : Int) {m k : Nat} (hk : k < m) : parOf (ents e m) (k : Int) = (k : Int) - 1 := by
  rw [par_at (by rw [ents_len]; exact hk), ents_at]; rfl
theorem up_one (e : Int) (m : Nat) : ∀ k : Nat, k < m → up (ents e m) (k + 1) (k : Int) = (ints (k + 1)).reverse
  | 0, h => by
    unfold up
    rw [if_neg (by omega)]
    rfl
  | k + 1, h => by
    unfold up
    rw [if_neg (by omega), ents_par e h, show ((k + 1 : Nat) : Int) - 1 = (k : Int) by omega, up_one e m k (by omega), ints_succ (k + 1), List.reverse_append]
    rfl
theorem chain_one (e : Int) {m k : Nat} (hk : k < m) : chainN (ents e m) (k : Int) = ints (k + 1) := by
  unfold chainN
  rw [show ((k : Int) + 1).toNat = k + 1 by omega, up_one e m k hk, List.reverse_reverse]
theorem chain_any (e : Int) {m : Nat} {a : Int} (h : -1 ≤ a ∧ a < m) : chainN (ents e m) a = ints (a + 1).toNat := by
  by_cases ha : a = -1
  · subst ha; rfl
  · obtain ⟨k, rfl⟩ : ∃ k : Nat, a = k := ⟨a.toNat, by omega⟩
    rw [chain_one e (by omega)]
    congr 1
theorem ht_one (e : Int) {m : Nat} {a : Int} (h : -1 ≤ a ∧ a < m) : htOf (ents e m) a = a + 1 := by
  by_cases ha : a = -1
  · subst ha; exact ht_neg _ (by omega)
  · obtain ⟨k, rfl⟩ : ∃ k : Nat, a = k := ⟨a.toNat, by omega⟩
    rw [ht_at (by rw [ents_len]; omega), ents_at]; rfl
theorem com_one (e : Int) (m : Nat) : ∀ (f : Nat) (a b : Int), (-1 ≤ a ∧ a < m) → (-1 ≤ b ∧ b < m) → (a + 1).toNat + (b + 1).toNat ≤ f → com (ents e m) f a b = min a b
  | 0, a, b, ha, hb, h => by
    have h1 : a = -1 := by omega
    have h2 : b = -1 := by omega
    subst h1 h2; rfl
  | f + 1, a, b, ha, hb, h => by
    unfold com
    by_cases hab : a = b
    · rw [if_pos hab]; omega
    · rw [if_neg hab, ht_one e ha, ht_one e hb]
      split
      · obtain ⟨k, rfl⟩ : ∃ k : Nat, a = k := ⟨a.toNat, by omega⟩
        rw [ents_par e (by omega), com_one e m f _ b ⟨by omega, by omega⟩ hb (by omega)]
        omega
      · obtain ⟨k, rfl⟩ : ∃ k : Nat, b = k := ⟨b.toNat, by omega⟩
        rw [ents_par e (by omega), com_one e m f a _ ha ⟨by omega, by omega⟩ (by omega)]
        omega
theorem comN_one (e : Int) {m : Nat} {a b : Int} (ha : -1 ≤ a ∧ a < m) (hb : -1 ≤ b ∧ b < m) : comN (ents e m) a b = min a b := com_one e m _ a b ha hb (Nat.le_refl _)
theorem idx_app (v : Int) : ∀ (l r : List Int) (i : Nat), (∀ x, x ∈ l → x ≠ v) → idxFrom v (l ++ r) i = idxFrom v r (i + l.length)
  | [], r, i, _ => by simp
  | x :: l, r, i, h => by
    have hx := h x (by simp)
    rw [show i + (x :: l).length = i + 1 + l.length by simp only [List.length_cons]; omega, ← idx_app v l r (i + 1) (fun y hy => h y (by simp [hy]))]
    exact if_neg (fun e => hx e.symm)
theorem idx_ints (n : Nat) (a : Int) (h : -1 ≤ a ∧ a < n) : idxOf (ints n) a = a := by
  by_cases ha : a = -1
  · subst ha
    have := idx_app (-1) (ints n) [] 0 (fun x hx => by
      obtain ⟨i, _, rfl⟩ := List.mem_map.1 hx; omega)
    rw [List.append_nil] at this
    exact this
  · obtain ⟨k, rfl⟩ : ∃ k : Nat, a = k := ⟨a.toNat, by omega⟩
    have e1 : ints n = ints k ++ ((k : Int) :: (List.range' (k + 1) (n - k - 1)).map fun i : Nat => (i : Int)) := by
      unfold ints
      rw [List.range_eq_range', List.range_eq_range', show n = k + (1 + (n - k - 1)) by omega, ← List.range'_append_1, ← List.range'_append_1]
      simp
    unfold idxOf
    rw [e1, idx_app _ (ints k) _ 0 (fun x hx => by
      obtain ⟨i, hi, rfl⟩ := List.mem_map.1 hx
      have := List.mem_range.1 hi
      omega), ints_len]
    unfold idxFrom
    simp
theorem has_ints (n : Nat) (a : Int) (h : 0 ≤ a ∧ a < n) : hasInt (ints n) a = true := by
  unfold hasInt; rw [idx_ints n a ⟨by omega, h.2⟩]; simpa using h.1
theorem ints_cut (a b n : Nat) (hb : b ≤ n) : ((ints n).drop a).take (b - a) = (List.range' a (b - a)).map fun i : Nat => (i : Int) := by
  refine List.ext_getElem (by simp [ints]; omega) fun i h1 h2 => ?_
  simp [ints]
/-- See along one chain: a feed at tip, that has handed out all up to last. -/
theorem see_one (e : Int) {m : Nat} (hm : m ≤ 100000) (z : Bool) (hd : Int) (K : Nat) (hK : K ≤ 1048576) (tip last : Int) (ht : -1 ≤ tip ∧ tip < m) (hs : -1 ≤ last ∧ last ≤ tip) (k : Nat) (hk : k < m) (hq : tip - (k : Int) ≤ (K : Int)) (hl : last ≤ (k : Int)) :
    (((k : Int) - (K : Int) ≤ last) → PCalls Tryz.prog 80 [.q (ledC (s0 e 0) z (ents e m) hd) 0, .agg [.i .i64 (K : Int), .i .i64 tip, .i .i64 last, .b false], .i .i64 (k : Int)] (.tup [.agg [.i .i64 (K : Int), .i .i64 (k : Int), .i .i64 last, .b false], .ro true [] 0, .i .i64 0])) ∧
    ((last < (k : Int) - (K : Int)) → FCalls Tryz.prog 80 [.q (ledC (s0 e 0) z (ents e m) hd) 0, .agg [.i .i64 (K : Int), .i .i64 tip, .i .i64 last, .b false], .i .i64 (k : Int)] (fun j => .tup [.agg [.i .i64 (K : Int), .i .i64 (k : Int), .i .i64 ((k : Int) - (K : Int)), .b false], .sl 1 j 0 ((k : Int) - (K : Int) - last).toNat, .i .i64 0]) (intsC ((List.range' (last + 1).toNat ((k : Int) - (K : Int) - last).toNat).map fun i : Nat => (i : Int)))) := by
  have L := ents_lg e m hm
  have hkl : k < (ents e m).length := by rw [ents_len]; exact hk
  have hok : okId (ents e m).length tip = true := by
    rw [ents_len]
    simp only [okId, hasN, Bool.or_eq_true, beq_iff_eq, Bool.and_eq_true, decide_eq_true_eq]; omega
  have cT := chain_any e ht
  have cK := chain_one e hk
  have cC := comN_one e ht (b := (k : Int)) ⟨by omega, by omega⟩
  have cM := chain_any e (m := m) (a := min tip (k : Int)) ⟨by omega, by omega⟩
  have hs' : last = -1 ∨ hasInt (chainN (ents e m) tip) last = true := by
    by_cases h : last = -1
    · exact .inl h
    · right; rw [cT]; exact has_ints _ _ ⟨by omega, by omega⟩
  have hq' : ¬ ((chainN (ents e m) tip).length : Int) - ((chainN (ents e m) (comN (ents e m) tip k)).length : Int) > (K : Int) := by
    rw [cC, cT, cM, ints_len, ints_len]; omega
  have hl' : (last != -1) = false ∨ ((last != -1) = true ∧ hasInt (chainN (ents e m) k) last = true) := by
    by_cases h : last = -1
    · left; rw [h]; rfl
    · right; refine ⟨by simpa using h, ?_⟩
      rw [cK]; exact has_ints _ _ ⟨by omega, by omega⟩
  have ix : idxOf (chainN (ents e m) k) last = last := by rw [cK]; exact idx_ints _ _ ⟨by omega, by omega⟩
  refine ⟨fun h => l80n L (ents_bare e m) z hd K hK tip last hok hs' k hkl hq' hl' (by rw [ix, cK, ints_len]; omega), fun h => ?_⟩
  have F := l80f L (ents_bare e m) z hd K hK tip last hok hs' k hkl hq' hl' (last + 1).toNat (k + 1 - K) (by omega) (by rw [cK, ints_len]; omega) (by rw [ix]; omega) (by rw [cK, ints_len]; omega) ((k : Int) - (K : Int)) (by
    rw [cK, ints_at (by omega)]
    congr 1
    omega)
  rw [cK, ints_cut _ _ _ (by omega), show k + 1 - K - (last + 1).toNat = ((k : Int) - (K : Int) - last).toNat by omega] at F
  exact F

end Go.Proofs.YtmkefpjpghmonaaGreat
