import Derived.Test.YtmkefpjpghmonaaGreatLh
namespace Go.Proofs.YtmkefpjpghmonaaGreat
open Go.Av
set_option maxRecDepth 100000
set_option maxHeartbeats 1000000
set_option synthInstance.maxHeartbeats 400000
set_option synthInstance.maxSize 4000
set_option linter.unusedSimpArgs false
set_option linter.unusedVariables false

/-! ### the point of bytes -/
noncomputable def readTail (c : UInt8) (t : List UInt8) : Pn × Int :=
  if beN t < P0 then (if (rootN (rightN (beN t))).2 = true then (⟨false, beN t, if c = 3 then subp 0 (rootN (rightN (beN t))).1 else (rootN (rightN (beN t))).1⟩, 0) else noPt) else (⟨false, 0, 0⟩, 2)
noncomputable def readPt (b : List UInt8) : Pn × Int := match b with
  | [] => (⟨false, 0, 0⟩, 7)
  | c :: t => if t.length = 0 then (if c = 0 then (⟨true, 0, 0⟩, 0) else (⟨false, 0, 0⟩, 7)) else if t.length = 32 then (if c = 2 ∨ c = 3 then readTail c t else (⟨false, 0, 0⟩, 7)) else (⟨false, 0, 0⟩, 7)
theorem u8_eq (c : UInt8) (k : Nat) (hk : k < 256) : ((c.toNat : Int) == (k : Int)) = decide (c = UInt8.ofNat k) := by
  rw [Bool.eq_iff_iff]
  simp only [beq_iff_eq, decide_eq_true_eq, Int.natCast_inj]
  constructor
  · intro h; rw [← h]; simp
  · rintro rfl; rw [UInt8.toNat_ofNat']; omega
theorem u8_ne (c : UInt8) (k : Nat) (hk : k < 256) : ((c.toNat : Int) != (k : Int)) = !decide (c = UInt8.ofNat k) := by
  rw [← u8_eq c k hk]; rfl
instance (x : Nat) [Bd x M256] : Bd (if True then x else x) M256 := by simp only [if_true]; infer_instance
instance (c : UInt8) (t : List UInt8) [Ln t 32] : POk (readTail c t).1 := by
  unfold readTail
  split
  · split
    · dsimp only; split <;> infer_instance
    · infer_instance
  · infer_instance
instance (b : List UInt8) : POk (readPt b).1 := by
  unfold readPt
  split
  · infer_instance
  · split
    · split <;> infer_instance
    · split
      · rename_i ht
        haveI : Ln _ 32 := ⟨ht⟩
        split <;> infer_instance
      · infer_instance
theorem l266 (b : List UInt8) : PCalls Tryz.prog 266 [.ro false (cellsB b) b.length] (.tup [.agg (ptC (readPt b).1), .i .i64 (readPt b).2]) := by
  have w1 : ∀ k : Int, (k == 0) = decide (k = 0) := fun k => rfl
  clear w1
  match b with
  | [] =>
    refine pof Tryz.func266 fun h n => ?_
    refine go ?_
    exact outP
  | c :: t =>
    have c0 := cellsB_cons c t
    have lc : (c :: t).length = t.length + 1 := rfl
    have f0 := u8_eq c 0 (by decide)
    have f2 := u8_ne c 2 (by decide)
    have f3 := u8_ne c 3 (by decide)
    have f4 := u8_eq c 3 (by decide)
    have f0 : ((c.toNat : Int) == 0) = decide (c = 0) := f0
    have f2 : ((c.toNat : Int) != 2) = !decide (c = 2) := f2
    have f3 : ((c.toNat : Int) != 3) = !decide (c = 3) := f3
    have f4 : ((c.toNat : Int) == 3) = decide (c = 3) := f4
    have i0 : (0 < t.length + 1) = True := by simp
    have i1 : ((0 : Int) < (t.length : Int) + 1) = True := by simp only [eq_iff_iff, iff_true]; omega
    obtain ⟨R, eR⟩ : ∃ R, R = readPt (c :: t) := ⟨_, rfl⟩
    unfold readPt at eR
    rw [← show R = readPt (c :: t) by rw [eR]; rfl]
    dsimp only at eR
    by_cases h0 : t.length = 0
    · have g1 : (((t.length : Int) + 1) == 1) = true := by rw [h0]; rfl
      rw [if_pos h0] at eR
      clear h0
      by_cases hc : c = 0
      · rw [if_pos hc] at eR
        have hd : decide (c = 0) = true := decide_eq_true hc
        clear hc
        subst eR
        refine pof Tryz.func266 fun h n => ?_
        refine go ?_
        exact outP
      · rw [if_neg hc] at eR
        have hd : decide (c = 0) = false := decide_eq_false hc
        have g2 : (((t.length : Int) + 1) != 33) = true := by simp only [bne, beq_eq_false_iff_ne, Bool.not_eq_true']; simp only [beq_iff_eq] at g1; rw [g1]; decide
        clear hc
        subst eR
        refine pof Tryz.func266 fun h n => ?_
        refine go ?_
        exact outP
    · have g1 : (((t.length : Int) + 1) == 1) = false := by rw [beq_eq_false_iff_ne]; omega
      rw [if_neg h0] at eR
      clear h0
      by_cases h32 : t.length = 32
      · have g2 : (((t.length : Int) + 1) != 33) = false := by rw [h32]; rfl
        rw [if_pos h32] at eR
        by_cases hc : c = 2 ∨ c = 3
        · rw [if_pos hc] at eR
          haveI : Ln t 32 := ⟨h32⟩
          have A := l295 0 t
          rw [m0] at A
          have ft : (cellsB t).take 32 = cellsB t := List.take_of_length_le (by rw [len_cellsB, h32]; exact Nat.le_refl _)
          have lt : (cellsB t).length = 32 := by rw [len_cellsB, h32]
          have i2 : ((1 : Int) ≤ (t.length : Int) + 1) = True := by simp only [eq_iff_iff, iff_true]; omega
          have i3 : t.length + 1 - 1 = 32 := by omega
          have i4 : (((t.length : Int) + 1).toNat) = 33 := by omega
          unfold readTail at eR
          have hcc : (!decide (c = 2)) = true → (!decide (c = 3)) = false := by
            rcases hc with rfl | rfl
            · intro h; simp at h
            · intro _; rfl
          by_cases hx : beN t < P0
          · rw [if_pos hx] at eR
            rw [if_pos hx, if_pos hx] at A
            obtain ⟨x, ex⟩ : ∃ x, x = beN t := ⟨_, rfl⟩
            rw [← ex] at A eR
            haveI : Bd x M256 := by rw [ex]; infer_instance
            have B := l296 (rightN x)
            obtain ⟨r, er⟩ : ∃ r, r = rootN (rightN x) := ⟨_, rfl⟩
            haveI : Bd r.1 M256 := by rw [er]; infer_instance
            rw [← er] at B eR
            obtain ⟨y, ok⟩ := r
            dsimp only at B eR
            haveI : Bd y M256 := by assumption
            clear hx ex er
            cases ok with
            | false =>
              rw [if_neg (by simp)] at eR
              cases d2 : decide (c = 2) with
              | true =>
                subst eR
                refine pof Tryz.func266 fun h n => ?_
                refine go ?_
                exact outP
              | false =>
                have d3 := hcc (by rw [d2]; rfl)
                subst eR
                refine pof Tryz.func266 fun h n => ?_
                refine go ?_
                exact outP
            | true =>
              rw [if_pos rfl] at eR
              cases d2 : decide (c = 2) with
              | true =>
                have d3 : decide (c = 3) = false := by
                  have : c = 2 := of_decide_eq_true d2
                  rw [this]; rfl
                rw [if_neg (of_decide_eq_false d3)] at eR
                subst eR
                refine pof Tryz.func266 fun h n => ?_
                refine go ?_
                exact outP
              | false =>
                have d3 : decide (c = 3) = true := by have := hcc (by rw [d2]; rfl); simpa using this
                rw [if_pos (of_decide_eq_true d3)] at eR
                subst eR
                refine pof Tryz.func266 fun h n => ?_
                refine go ?_
                exact outP
          · rw [if_neg hx] at eR
            rw [if_neg hx, if_neg hx] at A
            clear hx
            cases d2 : decide (c = 2) with
            | true =>
              subst eR
              refine pof Tryz.func266 fun h n => ?_
              refine go ?_
              exact outP
            | false =>
              have d3 := hcc (by rw [d2]; rfl)
              subst eR
              refine pof Tryz.func266 fun h n => ?_
              refine go ?_
              exact outP
        · rw [if_neg hc] at eR
          have d2 : decide (c = 2) = false := decide_eq_false fun h => hc (.inl h)
          have d3 : decide (c = 3) = false := decide_eq_false fun h => hc (.inr h)
          clear hc h32
          subst eR
          refine pof Tryz.func266 fun h n => ?_
          refine go ?_
          exact outP
      · have g2 : (((t.length : Int) + 1) != 33) = true := by simp only [bne, Bool.not_eq_true', beq_eq_false_iff_ne]; omega
        rw [if_neg h32] at eR
        clear h32
        subst eR
        refine pof Tryz.func266 fun h n => ?_
        refine go ?_
        exact outP
instance (b : List UInt8) : Ct Tryz.prog 266 [.ro false (cellsB b) b.length] (.tup [.agg (ptC (readPt b).1), .i .i64 (readPt b).2]) := ⟨l266 b⟩

end Go.Proofs.YtmkefpjpghmonaaGreat
