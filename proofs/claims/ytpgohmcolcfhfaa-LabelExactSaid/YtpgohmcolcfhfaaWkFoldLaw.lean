import Derived.Test.YtpgohmcolcfhfaaWkLabel
namespace Go.Proofs.Ytpgohmcolcfhfaa
open Go.Av
set_option linter.unusedVariables false
set_option linter.unusedSimpArgs false
set_option maxRecDepth 100000
set_option maxHeartbeats 800000
def foldN (r : Nat) : Nat := if 65 ≤ r ∧ r ≤ 90 then r + 32 else r
theorem fold1_nat (b : UInt8) : (fold1 b).toNat = foldN b.toNat := by
  by_cases h : 65 ≤ b.toNat ∧ b.toNat ≤ 90
  · have := fold1_up h; rw [foldN, if_pos h]; omega
  · rw [fold1_no h, foldN, if_neg h]
theorem foldS_size (s : ByteArray) : (foldS s).size = s.size := by
  show (s.data.toList.map fold1).toArray.size = s.data.size
  simp
theorem foldS_get (s : ByteArray) (k : Nat) : ((foldS s).get! k).toNat = foldN (s.get! k).toNat := by
  have h1 : ∀ (u : ByteArray), u.get! k = u.data.getD k default := fun u => by
    show u.data[k]! = _
    rfl
  rw [h1, h1]
  have : (foldS s).data = (s.data.toList.map fold1).toArray := rfl
  rw [this]
  by_cases hk : k < s.data.size
  · have hk' : k < s.size := hk
    simp [Array.getD, hk', fold1_nat]
  · have hk' : ¬ k < s.size := hk
    simp [Array.getD, hk']
    rfl
theorem foldN_small (b : Nat) : (foldN b < 128) ↔ (b < 128) := by unfold foldN; split <;> omega
theorem foldN_big {b : Nat} (h : ¬ b < 128) : foldN b = b := by unfold foldN; split <;> omega
theorem foldN_64 (b : Nat) : (foldN b / 64 == 2) = (b / 64 == 2) := by
  unfold foldN
  split
  · have h1 : (b + 32) / 64 = 1 := by omega
    have h2 : b / 64 = 1 := by omega
    rw [h1, h2]
  · rfl
theorem foldN_cont {b : Nat} (h : (b / 64 == 2) = true) : foldN b = b := by
  have := eq_of_beq h
  exact foldN_big (by omega)
theorem decode_fold (s : ByteArray) (pos : Nat) : Utf8.decode (foldS s) pos = (foldN (Utf8.decode s pos).1, (Utf8.decode s pos).2) := by
  unfold Utf8.decode
  simp only [foldS_get, foldS_size, foldN_64, foldN_small]
  obtain ⟨b0, hb0⟩ : ∃ b, (s.get! (pos + 0)).toNat = b := ⟨_, rfl⟩
  obtain ⟨b1, hb1⟩ : ∃ b, (s.get! (pos + 1)).toNat = b := ⟨_, rfl⟩
  obtain ⟨b2, hb2⟩ : ∃ b, (s.get! (pos + 2)).toNat = b := ⟨_, rfl⟩
  obtain ⟨b3, hb3⟩ : ∃ b, (s.get! (pos + 3)).toNat = b := ⟨_, rfl⟩
  simp only [hb0, hb1, hb2, hb3]
  clear hb0 hb1 hb2 hb3
  by_cases h0 : b0 < 128
  · simp only [if_pos h0]
  · simp only [if_neg h0, foldN_big h0]
    have e : ∀ (b : Nat) (p : Bool), (p && b / 64 == 2) = true → foldN b = b := fun b p h => foldN_cont (by simp at h; simp [h.2])
    split
    · rename_i h
      simp only [Bool.and_eq_true] at h
      rw [foldN_cont h.2.2]
      split
      · rename_i hc; rw [foldN_big (by omega)]
      · rfl
    · split
      · rename_i h
        simp only [Bool.and_eq_true] at h
        rw [foldN_cont h.1.2.2, foldN_cont h.2.2]
        split
        · rename_i hc; simp only [Bool.and_eq_true, decide_eq_true_eq] at hc; rw [foldN_big (by omega)]
        · rfl
      · split
        · rename_i h
          simp only [Bool.and_eq_true] at h
          rw [foldN_cont h.1.1.2.2, foldN_cont h.1.2.2, foldN_cont h.2.2]
          split
          · rename_i hc; simp only [Bool.and_eq_true, decide_eq_true_eq] at hc; rw [foldN_big (by omega)]
          · rfl
        · rfl
theorem runesL_fold (s : ByteArray) : ∀ (k pos : Nat), s.size - pos ≤ k → runesL (foldS s) pos = (runesL s pos).map foldN
  | 0, pos, h => by rw [runesL_end (by rw [foldS_size]; omega), runesL_end (by omega)]; rfl
  | k + 1, pos, h => by
    by_cases hp : pos < s.size
    · have hd := decode_pos s pos
      rw [runesL_step (by rw [foldS_size]; exact hp), runesL_step hp, decode_fold, List.map_cons, runesL_fold s k _ (by omega)]
    · rw [runesL_end (by rw [foldS_size]; exact hp), runesL_end hp]; rfl
theorem plain_fold (r : Nat) : plainN (foldN r : Nat) = plainN (r : Nat) := by
  unfold foldN
  split
  · rename_i h
    have h1 : plainN ((r + 32 : Nat) : Int) = true := by simp [plainN]; omega
    have h2 : plainN (r : Int) = true := by simp [plainN]; omega
    rw [h1, h2]
  · rfl
theorem fold_32 (r : Nat) : (foldN r = 32) ↔ (r = 32) := by unfold foldN; split <;> omega
theorem chk_fold (l : List Nat) : chkL (l.map foldN) = chkL l := by
  have h1 : (l.map foldN).all (fun r => plainN r) = l.all (fun r => plainN r) := by simp [List.all_map, Function.comp_def, plain_fold]
  have h2 : (headN (l.map foldN) != 32) = (headN l != 32) := by
    cases l with
    | nil => rfl
    | cons x l => simp only [headN, List.map_cons, List.headD_cons]; rw [Bool.eq_iff_iff]; simp [fold_32]
  have h3 : (lastN (l.map foldN) != 32) = (lastN l != 32) := by
    rw [Bool.eq_iff_iff]
    simp only [lastN, bne_iff_ne, ne_eq]
    cases hl : l.getLast? with
    | none => simp [List.getLastD_eq_getLast?, hl]
    | some x => simp [List.getLastD_eq_getLast?, hl, fold_32]
  simp only [chkL, h1, h2, h3, List.length_map]
theorem fold1_idem (b : UInt8) : fold1 (fold1 b) = fold1 b := by
  apply UInt8.toNat_inj.1
  rw [fold1_nat, fold1_nat]
  simp only [foldN]
  repeat' split
  all_goals omega
theorem foldS_idem (s : ByteArray) : foldS (foldS s) = foldS s := by
  have : (foldS s).data.toList = s.data.toList.map fold1 := by simp [foldS]
  have h2 : ((s.data.toList.map fold1).map fold1) = s.data.toList.map fold1 := by simp [fold1_idem]
  show (⟨((foldS s).data.toList.map fold1).toArray⟩ : ByteArray) = ⟨(s.data.toList.map fold1).toArray⟩
  rw [this, h2]
theorem chkS_fold (s : ByteArray) : chkL (runesL (foldS s) 0) = chkL (runesL s 0) := by rw [runesL_fold s s.size 0 (by omega), chk_fold]
theorem runes_fold (s : ByteArray) : runesFrom (foldS s) 0 = runesFrom s 0 := by
  rw [← runesL_len (foldS s) _ 0 (Nat.le_refl _), ← runesL_len s _ 0 (Nat.le_refl _), runesL_fold s s.size 0 (by omega), List.length_map]
theorem same_fold (s : ByteArray) : sameS s (foldS s) = true := by simp [sameS, foldS_idem]
theorem same_comm (s t : ByteArray) : sameS s t = sameS t s := by
  rw [Bool.eq_iff_iff]; simp only [sameS, beq_iff_eq]; exact ⟨Eq.symm, Eq.symm⟩
end Go.Proofs.Ytpgohmcolcfhfaa
