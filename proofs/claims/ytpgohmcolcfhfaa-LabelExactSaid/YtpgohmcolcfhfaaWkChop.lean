import Derived.Test.YtpgohmcolcfhfaaWkCut
import Derived.Test.YtpgohmcolcfhfaaWkFoldLaw
import Derived.Lib.DecodeN
namespace Go.Proofs.Ytpgohmcolcfhfaa
open Go.Av
set_option maxRecDepth 100000
set_option maxHeartbeats 2000000
set_option linter.unusedVariables false
set_option linter.unusedSimpArgs false
open Go.Lib (decodeN)
/-! ### a text as the list of its runes' bytes -/
theorem decN_err {n b0 b1 b2 b3 : Nat} (h0 : ¬ b0 < 128) (h : (decodeN n b0 b1 b2 b3).2 ≤ 1) : decodeN n b0 b1 b2 b3 = (65533, 1) := by
  unfold decodeN at h ⊢
  rw [if_neg h0] at h ⊢
  repeat' split
  all_goals simp_all
theorem decN_grow {n n' b0 b1 b2 b3 c1 c2 c3 : Nat} (hn : n ≤ n') (h1 : 1 < n → c1 = b1) (h2 : 2 < n → c2 = b2) (h3 : 3 < n → c3 = b3) (hs : 1 < (decodeN n b0 b1 b2 b3).2 ∨ b0 < 128) : decodeN n' b0 c1 c2 c3 = decodeN n b0 b1 b2 b3 := by
  by_cases h0 : b0 < 128
  · simp only [decodeN, if_pos h0]
  · have hs : 1 < (decodeN n b0 b1 b2 b3).2 := hs.resolve_right h0
    by_cases k1 : b0 / 32 = 6 ∧ (1 < n ∧ b1 / 64 = 2)
    · have k1' : b0 / 32 = 6 ∧ (1 < n' ∧ c1 / 64 = 2) := by rw [h1 k1.2.1]; exact ⟨k1.1, by omega, k1.2.2⟩
      simp only [decodeN, if_neg h0, if_pos k1, if_pos k1']
      rw [h1 k1.2.1]
    · by_cases k2 : b0 / 16 = 14 ∧ (1 < n ∧ b1 / 64 = 2) ∧ (2 < n ∧ b2 / 64 = 2)
      · have k1' : ¬ (b0 / 32 = 6 ∧ (1 < n' ∧ c1 / 64 = 2)) := by omega
        have k2' : b0 / 16 = 14 ∧ (1 < n' ∧ c1 / 64 = 2) ∧ (2 < n' ∧ c2 / 64 = 2) := by rw [h1 k2.2.1.1, h2 k2.2.2.1]; exact ⟨k2.1, ⟨by omega, k2.2.1.2⟩, ⟨by omega, k2.2.2.2⟩⟩
        simp only [decodeN, if_neg h0, if_neg k1, if_neg k1', if_pos k2, if_pos k2']
        rw [h1 k2.2.1.1, h2 k2.2.2.1]
      · by_cases k3 : b0 / 8 = 30 ∧ (1 < n ∧ b1 / 64 = 2) ∧ (2 < n ∧ b2 / 64 = 2) ∧ (3 < n ∧ b3 / 64 = 2)
        · have k1' : ¬ (b0 / 32 = 6 ∧ (1 < n' ∧ c1 / 64 = 2)) := by omega
          have k2' : ¬ (b0 / 16 = 14 ∧ (1 < n' ∧ c1 / 64 = 2) ∧ (2 < n' ∧ c2 / 64 = 2)) := by omega
          have k3' : b0 / 8 = 30 ∧ (1 < n' ∧ c1 / 64 = 2) ∧ (2 < n' ∧ c2 / 64 = 2) ∧ (3 < n' ∧ c3 / 64 = 2) := by rw [h1 k3.2.1.1, h2 k3.2.2.1.1, h3 k3.2.2.2.1]; exact ⟨k3.1, ⟨by omega, k3.2.1.2⟩, ⟨by omega, k3.2.2.1.2⟩, ⟨by omega, k3.2.2.2.2⟩⟩
          simp only [decodeN, if_neg h0, if_neg k1, if_neg k1', if_neg k2, if_neg k2', if_pos k3, if_pos k3']
          rw [h1 k3.2.1.1, h2 k3.2.2.1.1, h3 k3.2.2.2.1]
        · simp only [decodeN, if_neg h0, if_neg k1, if_neg k2, if_neg k3] at hs
          exact absurd hs (by omega)
theorem decN_shrink1 {n n' b0 b1 b2 b3 c1 c2 c3 : Nat} (hn : n ≤ n') (h1 : 1 < n → c1 = b1) (h2 : 2 < n → c2 = b2) (h3 : 3 < n → c3 = b3) (h0 : ¬ b0 < 128) (hs : 1 < (decodeN n' b0 c1 c2 c3).2) (hk : (decodeN n' b0 c1 c2 c3).2 ≤ n) : decodeN n b0 b1 b2 b3 = decodeN n' b0 c1 c2 c3 := by
  have key : 1 < (decodeN n b0 b1 b2 b3).2 → decodeN n b0 b1 b2 b3 = decodeN n' b0 c1 c2 c3 := fun h => (decN_grow hn h1 h2 h3 (.inl h)).symm
  refine key ?_
  by_cases k1' : b0 / 32 = 6 ∧ (1 < n' ∧ c1 / 64 = 2)
  · simp only [decodeN, if_neg h0, if_pos k1'] at hs hk
    split at hs
    · rename_i hc
      rw [if_pos hc] at hk
      have hk : 1 < n := hk
      have k1 : b0 / 32 = 6 ∧ (1 < n ∧ b1 / 64 = 2) := by rw [← h1 hk]; exact ⟨k1'.1, hk, k1'.2.2⟩
      rw [h1 hk] at hc
      simp only [decodeN, if_neg h0, if_pos k1, if_pos hc]
      decide
    · exact absurd hs (by decide)
  · by_cases k2' : b0 / 16 = 14 ∧ (1 < n' ∧ c1 / 64 = 2) ∧ (2 < n' ∧ c2 / 64 = 2)
    · simp only [decodeN, if_neg h0, if_neg k1', if_pos k2'] at hs hk
      split at hs
      · rename_i hc
        rw [if_pos hc] at hk
        have hk : 2 < n := hk
        have hk1 : 1 < n := by omega
        have k1 : ¬ (b0 / 32 = 6 ∧ (1 < n ∧ b1 / 64 = 2)) := by omega
        have k2 : b0 / 16 = 14 ∧ (1 < n ∧ b1 / 64 = 2) ∧ (2 < n ∧ b2 / 64 = 2) := by rw [← h1 hk1, ← h2 hk]; exact ⟨k2'.1, ⟨hk1, k2'.2.1.2⟩, ⟨hk, k2'.2.2.2⟩⟩
        rw [h1 hk1, h2 hk] at hc
        simp only [decodeN, if_neg h0, if_neg k1, if_pos k2, if_pos hc]
        decide
      · exact absurd hs (by decide)
    · by_cases k3' : b0 / 8 = 30 ∧ (1 < n' ∧ c1 / 64 = 2) ∧ (2 < n' ∧ c2 / 64 = 2) ∧ (3 < n' ∧ c3 / 64 = 2)
      · simp only [decodeN, if_neg h0, if_neg k1', if_neg k2', if_pos k3'] at hs hk
        split at hs
        · rename_i hc
          rw [if_pos hc] at hk
          have hk : 3 < n := hk
          have hk1 : 1 < n := by omega
          have hk2 : 2 < n := by omega
          have k1 : ¬ (b0 / 32 = 6 ∧ (1 < n ∧ b1 / 64 = 2)) := by omega
          have k2 : ¬ (b0 / 16 = 14 ∧ (1 < n ∧ b1 / 64 = 2) ∧ (2 < n ∧ b2 / 64 = 2)) := by omega
          have k3 : b0 / 8 = 30 ∧ (1 < n ∧ b1 / 64 = 2) ∧ (2 < n ∧ b2 / 64 = 2) ∧ (3 < n ∧ b3 / 64 = 2) := by rw [← h1 hk1, ← h2 hk2, ← h3 hk]; exact ⟨k3'.1, ⟨hk1, k3'.2.1.2⟩, ⟨hk2, k3'.2.2.1.2⟩, ⟨hk, k3'.2.2.2.2⟩⟩
          rw [h1 hk1, h2 hk2, h3 hk] at hc
          simp only [decodeN, if_neg h0, if_neg k1, if_neg k2, if_pos k3, if_pos hc]
          decide
        · exact absurd hs (by decide)
      · simp only [decodeN, if_neg h0, if_neg k1', if_neg k2', if_neg k3'] at hs
        exact absurd hs (by omega)
theorem decN_shrink {n n' b0 b1 b2 b3 c1 c2 c3 : Nat} (hn : n ≤ n') (h1 : 1 < n → c1 = b1) (h2 : 2 < n → c2 = b2) (h3 : 3 < n → c3 = b3) (hk : (decodeN n' b0 c1 c2 c3).2 ≤ n) : decodeN n b0 b1 b2 b3 = decodeN n' b0 c1 c2 c3 := by
  by_cases h0 : b0 < 128
  · simp only [decodeN, if_pos h0]
  · by_cases hs : 1 < (decodeN n' b0 c1 c2 c3).2
    · exact decN_shrink1 hn h1 h2 h3 h0 hs hk
    · by_cases hs' : 1 < (decodeN n b0 b1 b2 b3).2
      · exact (decN_grow hn h1 h2 h3 (.inl hs')).symm
      · rw [decN_err h0 (by omega), decN_err h0 (by omega)]
theorem decN_le {n b0 b1 b2 b3 : Nat} (hn : 1 ≤ n) : (decodeN n b0 b1 b2 b3).2 ≤ n := by
  unfold decodeN
  repeat' split
  all_goals simp only
  all_goals omega
theorem decN_pos {n b0 b1 b2 b3 : Nat} : 1 ≤ (decodeN n b0 b1 b2 b3).2 := by
  unfold decodeN
  repeat' split
  all_goals simp only
  all_goals omega
/-- The bytes of a text. -/
def bs (s : ByteArray) : List UInt8 := s.data.toList
def bt (l : List UInt8) (k : Nat) : Nat := (l.getD k 0).toNat
/-- The first rune of bytes, and how many bytes it has. -/
def dec (l : List UInt8) : Nat × Nat := decodeN l.length (bt l 0) (bt l 1) (bt l 2) (bt l 3)
theorem bs_size (s : ByteArray) : (bs s).length = s.size := by simp [bs]
theorem bs_inj {s t : ByteArray} (h : bs s = bs t) : s = t := by
  cases s; cases t
  simp only [bs, Array.toList_inj] at h
  rw [h]
theorem get_bs (s : ByteArray) (k : Nat) : (s.get! k).toNat = bt (bs s) k := by
  have h1 : s.get! k = s.data.getD k default := rfl
  have hz : (default : UInt8) = 0 := rfl
  rw [h1, bt, bs, hz]
  by_cases hk : k < s.data.size
  · have hk' : k < s.size := hk
    simp [Array.getD, hk', List.getD_eq_getElem?_getD]
  · have hk' : ¬ k < s.size := hk
    simp [Array.getD, hk', List.getD_eq_getElem?_getD]
theorem bt_drop (l : List UInt8) (p k : Nat) : bt (l.drop p) k = bt l (p + k) := by simp [bt, List.getD_eq_getElem?_getD, List.getElem?_drop]
theorem bt_app (a x : List UInt8) {k : Nat} (h : k < a.length) : bt (a ++ x) k = bt a k := by simp [bt, List.getD_eq_getElem?_getD, List.getElem?_append, h]
theorem decode_dec (s : ByteArray) (pos : Nat) : Utf8.decode s pos = dec ((bs s).drop pos) := by
  rw [Go.Lib.decode_at, dec]
  simp only [bt_drop, get_bs, List.length_drop, bs_size, Nat.add_zero]
theorem dec_pos (l : List UInt8) : 1 ≤ (dec l).2 := decN_pos
theorem dec_le {l : List UInt8} (h : l ≠ []) : (dec l).2 ≤ l.length := decN_le (List.length_pos_iff.2 h)
theorem dec_grow {a : List UInt8} (x : List UInt8) (ha : a ≠ []) (hs : 1 < (dec a).2 ∨ bt a 0 < 128) : dec (a ++ x) = dec a := by
  have hl := List.length_pos_iff.2 ha
  simp only [dec]
  rw [bt_app a x hl]
  exact decN_grow (by simp) (fun h => bt_app a x h) (fun h => bt_app a x h) (fun h => bt_app a x h) hs
theorem dec_shrink {a x : List UInt8} (hs : (dec (a ++ x)).2 ≤ a.length) : dec a = dec (a ++ x) := by
  have hl : 0 < a.length := Nat.lt_of_lt_of_le (dec_pos _) hs
  simp only [dec] at hs ⊢
  rw [bt_app a x hl] at hs ⊢
  exact decN_shrink (by simp) (fun h => bt_app a x h) (fun h => bt_app a x h) (fun h => bt_app a x h) hs
theorem dec_take {l : List UInt8} (h : l ≠ []) : dec (l.take (dec l).2) = dec l := by
  have hl := dec_le h
  have := dec_shrink (a := l.take (dec l).2) (x := l.drop (dec l).2) (by rw [List.take_append_drop, List.length_take]; omega)
  rw [this, List.take_append_drop]
/-- A text as its runes' bytes, rune by rune. -/
def chopF : Nat → List UInt8 → List (List UInt8)
  | 0, _ => []
  | k + 1, l => if l.isEmpty then [] else l.take (dec l).2 :: chopF k (l.drop (dec l).2)
theorem chopF_more : ∀ (k k' : Nat) (l : List UInt8), l.length ≤ k → l.length ≤ k' → chopF k l = chopF k' l
  | 0, 0, _, _, _ => rfl
  | 0, k' + 1, l, h, _ => by
    have : l = [] := List.length_eq_zero_iff.1 (by omega)
    subst this; rfl
  | k + 1, 0, l, _, h => by
    have : l = [] := List.length_eq_zero_iff.1 (by omega)
    subst this; rfl
  | k + 1, k' + 1, l, h, h' => by
    simp only [chopF]
    split
    · rfl
    · have := dec_pos l
      rw [chopF_more k k' _ (by rw [List.length_drop]; omega) (by rw [List.length_drop]; omega)]
def chop (l : List UInt8) : List (List UInt8) := chopF l.length l
theorem chop_nil : chop [] = [] := rfl
theorem chop_cons {l : List UInt8} (h : l ≠ []) : chop l = l.take (dec l).2 :: chop (l.drop (dec l).2) := by
  have hl := List.length_pos_iff.2 h
  have := dec_pos l
  simp only [chop]
  rw [chopF_more l.length (l.length - 1 + 1) l (by omega) (by omega)]
  have he : l.isEmpty = false := by rw [List.isEmpty_eq_false_iff]; exact h
  simp only [chopF, he, Bool.false_eq_true, if_false]
  rw [chopF_more _ (l.drop (dec l).2).length _ (by rw [List.length_drop]; omega) (Nat.le_refl _)]
theorem chop_flat : ∀ (k : Nat) (l : List UInt8), l.length ≤ k → (chop l).flatten = l := by
  intro k
  induction k with
  | zero => intro l h; have : l = [] := List.length_eq_zero_iff.1 (by omega); subst this; rfl
  | succ k ih =>
    intro l h
    by_cases he : l = []
    · subst he; rfl
    · have := dec_pos l
      rw [chop_cons he, List.flatten_cons, ih _ (by rw [List.length_drop]; omega), List.take_append_drop]
theorem chop_flatten (l : List UInt8) : (chop l).flatten = l := chop_flat _ l (Nat.le_refl _)
theorem chop_take_k : ∀ (k : Nat) (l : List UInt8) (n : Nat), l.length ≤ k → chop ((chop l).take n).flatten = (chop l).take n := by
  intro k
  induction k with
  | zero => intro l n h; have : l = [] := List.length_eq_zero_iff.1 (by omega); subst this; simp [chop_nil]
  | succ k ih =>
    intro l n h
    by_cases he : l = []
    · subst he; simp [chop_nil]
    · cases n with
      | zero => simp [chop_nil]
      | succ n =>
        have hp := dec_pos l
        have hd := dec_le he
        have h2 := ih (l.drop (dec l).2) n (by rw [List.length_drop]; omega)
        rw [chop_cons he, List.take_succ_cons, List.flatten_cons]
        have hx : ((chop (l.drop (dec l).2)).take n).flatten ++ ((chop (l.drop (dec l).2)).drop n).flatten = l.drop (dec l).2 := by
          rw [← List.flatten_append, List.take_append_drop, chop_flatten]
        have hlen : (l.take (dec l).2).length = (dec l).2 := by rw [List.length_take]; omega
        have hde : dec (l.take (dec l).2 ++ ((chop (l.drop (dec l).2)).take n).flatten) = dec l := by
          have := dec_shrink (a := l.take (dec l).2 ++ ((chop (l.drop (dec l).2)).take n).flatten) (x := ((chop (l.drop (dec l).2)).drop n).flatten) (by
            rw [List.append_assoc, hx, List.take_append_drop, List.length_append, hlen]; omega)
          rw [this, List.append_assoc, hx, List.take_append_drop]
        have hne : l.take (dec l).2 ++ ((chop (l.drop (dec l).2)).take n).flatten ≠ [] := by
          intro hc
          have := congrArg List.length hc
          rw [List.length_append, hlen] at this
          simp only [List.length_nil] at this
          omega
        rw [chop_cons hne, hde, List.take_left' hlen, List.drop_left' hlen, h2]
theorem chop_take (l : List UInt8) (n : Nat) : chop ((chop l).take n).flatten = (chop l).take n := chop_take_k _ l n (Nat.le_refl _)
/-- A rune's bytes that nothing behind them changes. -/
def strong (c : List UInt8) : Prop := 1 < (dec c).2 ∨ bt c 0 < 128
theorem chop_app_k : ∀ (k : Nat) (a b : List UInt8), a.length ≤ k → (∀ c ∈ chop a, strong c) → chop (a ++ b) = chop a ++ chop b := by
  intro k
  induction k with
  | zero => intro a b h _; have : a = [] := List.length_eq_zero_iff.1 (by omega); subst this; rfl
  | succ k ih =>
    intro a b h hc
    by_cases he : a = []
    · subst he; rfl
    · have hp := dec_pos a
      have hd := dec_le he
      have ht := dec_take he
      rw [chop_cons he] at hc ⊢
      have hs := hc _ (List.mem_cons_self ..)
      have hs' : strong a := by
        unfold strong at hs ⊢
        rw [ht] at hs
        have : bt (a.take (dec a).2) 0 = bt a 0 := by
          have := bt_app (a.take (dec a).2) (a.drop (dec a).2) (k := 0) (by rw [List.length_take]; omega)
          rw [List.take_append_drop] at this
          exact this.symm
        rw [this] at hs
        exact hs
      have hg := dec_grow b he hs'
      have hne : a ++ b ≠ [] := by simp [he]
      rw [chop_cons hne, hg, List.take_append_of_le_length hd, List.drop_append_of_le_length hd, List.cons_append]
      rw [ih _ b (by rw [List.length_drop]; omega) (fun c hcm => hc c (List.mem_cons_of_mem _ hcm))]
theorem chop_app {a : List UInt8} (b : List UInt8) (h : ∀ c ∈ chop a, strong c) : chop (a ++ b) = chop a ++ chop b := chop_app_k _ a b (Nat.le_refl _) h
def rn (c : List UInt8) : Nat := (dec c).1
theorem runesL_chop (s : ByteArray) : ∀ (k pos : Nat), s.size - pos ≤ k → runesL s pos = (chop ((bs s).drop pos)).map rn := by
  intro k
  induction k with
  | zero =>
    intro pos h
    rw [runesL_end (by omega), List.drop_eq_nil_of_le (by rw [bs_size]; omega)]; rfl
  | succ k ih =>
    intro pos h
    by_cases hp : pos < s.size
    · have hd := decode_pos s pos
      have hne : (bs s).drop pos ≠ [] := by
        intro hc
        have := congrArg List.length hc
        rw [List.length_drop, bs_size] at this
        simp only [List.length_nil] at this
        omega
      rw [runesL_step hp, chop_cons hne, List.map_cons, ih _ (by omega), List.drop_drop, decode_dec]
      congr 1
      rw [rn, dec_take hne]
    · rw [runesL_end hp, List.drop_eq_nil_of_le (by rw [bs_size]; omega)]; rfl
theorem runesL_all (s : ByteArray) : runesL s 0 = (chop (bs s)).map rn := by rw [runesL_chop s _ 0 (Nat.le_refl _), List.drop_zero]
theorem runes_all (s : ByteArray) : runesFrom s 0 = (chop (bs s)).length := by rw [← runesL_len s _ 0 (Nat.le_refl _), runesL_all, List.length_map]
theorem cut_chop_k (s : ByteArray) : ∀ (k pos : Nat) (n : Int), s.size - pos ≤ k → pos ≤ s.size → (bs s).take (cutAt s pos n) = (bs s).take pos ++ ((chop ((bs s).drop pos)).take n.toNat).flatten := by
  intro k
  induction k with
  | zero =>
    intro pos n h hle
    have he : pos = s.size := by omega
    rw [cutAt_end (by omega), List.drop_eq_nil_of_le (by rw [bs_size]; omega), he]
    simp [chop_nil]
  | succ k ih =>
    intro pos n h hle
    by_cases hp : pos < s.size
    · by_cases hn : n < 1
      · have : n.toNat = 0 := by omega
        rw [cutAt_here hp hn, this]
        simp
      · have hd := decode_pos s pos
        have hne : (bs s).drop pos ≠ [] := by
          intro hc
          have := congrArg List.length hc
          rw [List.length_drop, bs_size] at this
          simp only [List.length_nil] at this
          omega
        have hle2 := dec_le hne
        rw [List.length_drop, bs_size, ← decode_dec] at hle2
        have hn2 : n.toNat = (n - 1).toNat + 1 := by omega
        rw [cutAt_step hp hn, ih _ _ (by omega) (by omega), chop_cons hne, hn2, List.take_succ_cons, List.flatten_cons, List.take_add, List.append_assoc, List.drop_drop, decode_dec]
    · have he : pos = s.size := by omega
      rw [cutAt_end (by omega), List.drop_eq_nil_of_le (by rw [bs_size]; omega), he]
      simp [chop_nil]
theorem bs_extract (s : ByteArray) (q : Nat) : bs (s.extract 0 q) = (bs s).take q := by
  simp [bs, ByteArray.data_extract, Array.toList_extract]
theorem cut_chop (s : ByteArray) (n : Int) : bs (cutS s n) = ((chop (bs s)).take n.toNat).flatten := by
  rw [cutS, bs_extract, cut_chop_k s _ 0 n (Nat.le_refl _) (Nat.zero_le _)]
  simp
theorem chop_cut (s : ByteArray) (n : Int) : chop (bs (cutS s n)) = (chop (bs s)).take n.toNat := by rw [cut_chop, chop_take]
theorem rn_strong {c : List UInt8} (h : rn c ≠ 65533) : strong c := by
  unfold strong
  by_cases h0 : bt c 0 < 128
  · exact .inr h0
  · by_cases h1 : 1 < (dec c).2
    · exact .inl h1
    · have : dec c = (65533, 1) := decN_err h0 (by simp only [dec] at h1; omega)
      exact absurd (by rw [rn, this]) h
theorem chk_strong {s : ByteArray} (h : chkL (runesL s 0) = true) : ∀ c ∈ chop (bs s), strong c := by
  intro c hc
  apply rn_strong
  rw [runesL_all] at h
  simp only [chkL, Bool.and_eq_true, List.all_eq_true] at h
  have := h.1.1.1.1 (rn c) (List.mem_map_of_mem hc)
  intro he
  rw [he] at this
  exact absurd this (by decide)
end Go.Proofs.Ytpgohmcolcfhfaa
