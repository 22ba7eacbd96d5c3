import Derived.Test.YtmkefpjpghmonaaGreatLs
namespace Go.Proofs.YtmkefpjpghmonaaGreat
open Go.Av
set_option maxRecDepth 100000
set_option maxHeartbeats 1000000
set_option synthInstance.maxHeartbeats 400000
set_option synthInstance.maxSize 4000
set_option linter.unusedSimpArgs false
set_option linter.unusedVariables false

/-! ### one chain of blocks -/
def hsh : Nat → List UInt8
  | 0 => hashN (List.replicate 32 0) 1 0
  | i + 1 => hashN (hsh i) (i + 2) 0
theorem hsh_len (i : Nat) : (hsh i).length = 32 := by cases i <;> exact hash_len _ _ _
def ent1 (e : Int) (i : Nat) : Ent := ⟨(i : Int) - 1, (i : Int) + 1, 0, true, [], 0, hsh i, s0 e ((i : Int) + 1), true, []⟩
def ents (e : Int) (m : Nat) : List Ent := (List.range m).map (ent1 e)
theorem ents_len (e : Int) (m : Nat) : (ents e m).length = m := by simp [ents]
theorem ents_at (e : Int) {m k : Nat} (hk : k < (ents e m).length) : (ents e m)[k] = ent1 e k := by simp [ents]
theorem ents_succ (e : Int) (m : Nat) : ents e (m + 1) = ents e m ++ [ent1 e m] := by simp [ents, List.range_succ]
theorem ents_lg (e : Int) (m : Nat) (hm : m ≤ 100000) : Lg (s0 e 0) (ents e m) := by
  refine ⟨s0_len e 0, s0_free e 0, fun x hx => ?_, by rw [ents_len]; exact hm, fun k hk => ?_, fun k hk => ?_⟩
  · obtain ⟨i, _, rfl⟩ := List.mem_map.1 hx
    exact ⟨hsh_len i, s0_len e _, s0_free e _, rfl⟩
  · rw [ents_at]; show -1 ≤ (k : Int) - 1 ∧ (k : Int) - 1 < k; omega
  · rw [ents_at]; show 1 ≤ (k : Int) + 1; omega
theorem ents_bare (e : Int) (m : Nat) : Bare (ents e m) := fun x hx => by
  obtain ⟨i, _, rfl⟩ := List.mem_map.1 hx
  exact ⟨rfl, rfl, rfl⟩
theorem entC_one (e : Int) (i : Nat) : entsC [ent1 e i] = (AV.i .i64 ((i : Int) - 1) :: .i .i64 ((i : Int) + 1) :: .i .i64 0 :: .ro true [] 0 :: (cellsB (hsh i) ++ (s0 e ((i : Int) + 1) ++ [.ro true [] 0]))) := by
  simp [entsC, entC, ent1, intsC]
/-- The ledger's rows: m blocks, the last one the head. -/
def LedAt (e : Int) (m : Nat) (h : Heap) (jl ja : Nat) : Prop :=
  (m = 0 ∧ h jl = some (.cells (s0 e 0 ++ [.ro true [] 0, .i .i64 (-1)]))) ∨ (0 < m ∧ ja ≠ jl ∧ h jl = some (.cells (s0 e 0 ++ [.sl 58 ja 0 m, .i .i64 ((m : Int) - 1)])) ∧ h ja = some (.cells (entsC (ents e m))))
theorem add_one (e : Int) (m : Nat) (hm : m < 1000) (he : (m : Int) + 1 ≤ e ∧ e ≤ 1048576) {h : Heap} {n jl ja : Nat} (jn : jl < n) (an : ja < n) (hl : LedAt e m h jl ja) :
    DRel Tryz.prog 59 [.p jl 0, .agg [.i .i64 ((m : Int) - 1), .i .i64 ((m : Int) + 1), .i .i64 0, .ro true [] 0]] h n (fun v g n' => v = .tup [.i .i64 (m : Int), .i .i64 0] ∧ n ≤ n' ∧ ∃ jb, jb < n' ∧ jl ≠ jb ∧ n ≤ jb ∧ LedAt e (m + 1) g jl jb ∧ ∀ x r, x < n → h x = some r → x ∉ [jl, ja] → g x = some r) := by
  have L := ents_lg e m (by omega)
  have L' := ents_lg e (m + 1) (by omega)
  have T : PCalls Tryz.prog 31 [.agg (s0 e (m : Int))] (.agg (s0 e ((m : Int) + 1))) := l31s e m ⟨by omega, he.2⟩ ⟨by omega, he.1⟩
  have hB : BlkOk ((m : Int) - 1) (m + 1) 0 := ⟨by omega, ⟨by omega, by omega⟩, by omega⟩
  have C2 := l130 hB
  have C4 := l132t L' ((m : Int) - 1) (k := m) (by rw [ents_len]; omega) (by
    rcases Nat.eq_zero_or_pos m with h0 | h0
    · left; omega
    · right
      refine ⟨m - 1, by rw [ents_len]; omega, by omega, ?_⟩
      rw [ents_at, ents_at]
      show ((m - 1 : Nat) : Int) + 1 < (m : Int) + 1
      omega)
  have ee : entsC (ents e (m + 1)) = entsC (ents e m) ++ (AV.i .i64 ((m : Int) - 1) :: .i .i64 (((m + 1 : Nat) : Int)) :: .i .i64 ((0 : Nat) : Int) :: .ro true [] 0 :: (cellsB (hsh m) ++ (s0 e ((m : Int) + 1) ++ [.ro true [] 0]))) := by
    rw [ents_succ, entsC_app, entC_one]; rfl
  unfold ledC at C4
  rw [ee, ents_len] at C4
  rcases hl with ⟨rfl, hl⟩ | ⟨hm0, hne, hl, ha⟩
  · have C1 := l128 L true (-1) (-1)
    rw [show hasN (ents e 0).length (-1) = false by simp [hasN]] at C1
    have C3 := l131 (List.replicate 32 0) (by simp) hB
    have := add_0 (ja := ja) (p := -1) (x := 1) (s := 0) (hd := -1) rfl (s0_len e 0) (s0_free e 0) (s0_len e 1) (s0_free e 1) (hsh_len 0) rfl C1 C2 C3 T C4 jn hl
    refine this.mono ?_
    rintro r g n' ⟨rfl, hn, jb, h1, h2, h3, h4, h5⟩
    refine ⟨rfl, hn, jb, h2, by omega, h1, .inr ⟨by omega, by omega, h3, ?_⟩, h5⟩
    rw [h4, ee]; rfl
  · obtain ⟨k, rfl⟩ : ∃ k, m = k + 1 := ⟨m - 1, by omega⟩
    have hk : k < (ents e (k + 1)).length := by rw [ents_len]; omega
    have C1 := l128 L false ((k + 1 : Nat) - 1 : Int) ((k + 1 : Nat) - 1 : Int)
    rw [show hasN (ents e (k + 1)).length (((k + 1 : Nat) : Int) - 1) = true by rw [ents_len]; simp [hasN]; omega] at C1
    unfold ledC at C1
    rw [ents_len] at C1
    have C3 := l131 (hsh k) (hsh_len k) hB
    have W := ent_whole L hk _ (ents_at e hk)
    have := add_c (N := k + 1) (k := k) (x := k + 1 + 1) (s := 0) (p := ((k + 1 : Nat) : Int) - 1) (hd := ((k + 1 : Nat) : Int) - 1) (by omega) (s0_len e 0) (s0_free e 0) (by rw [entsC_len L.oks, ents_len]) (free_ents L.oks) (by omega) (by omega) W.1 (s0_len e _) (s0_len e _) (s0_free e _) (hsh_len k) (hsh_len (k + 1)) (by show _ = (k : Int) + 1 + 1; omega) (by omega) C1 C2 C3 T C4 jn an (eq_false hne) (eq_false (Ne.symm hne)) hl ha
    refine this.mono ?_
    rintro r g n' ⟨rfl, hn, jb, h1, h2, h3, h4, h5⟩
    rw [if_pos rfl, show ((k + 1 : Nat) : Int) = ((k + 1 + 1 : Nat) : Int) - 1 by omega] at h3
    refine ⟨rfl, hn, jb, h2, by omega, h1, .inr ⟨by omega, by omega, h3, ?_⟩, h5⟩
    rw [h4, ee]

end Go.Proofs.YtmkefpjpghmonaaGreat
