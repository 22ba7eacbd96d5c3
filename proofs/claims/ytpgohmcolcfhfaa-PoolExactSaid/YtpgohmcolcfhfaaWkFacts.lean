import Derived.Test.YtpgohmcolcfhfaaAv25
import Derived.Test.YtpgohmcolcfhfaaChecked
import Derived.IntWalk
namespace Go.Proofs.Ytpgohmcolcfhfaa
open Go.Av
theorem agT_26 : agT Try.prog 26 = some true := by kernel_rfl
theorem szT_26 : szT Try.prog 26 = some 7 := by kernel_rfl
theorem flT_26_2 : flT Try.prog 26 2 = some (2, 4, true) := by kernel_rfl
theorem agT_22 : agT Try.prog 22 = some true := by kernel_rfl
theorem szT_22 : szT Try.prog 22 = some 4 := by kernel_rfl
theorem arT_22 : arT Try.prog 22 = some (4, 1, false) := by kernel_rfl
theorem agT_3 : agT Try.prog 3 = some false := by kernel_rfl
theorem szT_3 : szT Try.prog 3 = some 1 := by kernel_rfl
theorem kiT_3 : kiT Try.prog 3 = some (.int .i64) := by kernel_rfl
theorem kiT_23 : kiT Try.prog 23 = some (.int .u64) := by kernel_rfl
theorem kiT_4 : kiT Try.prog 4 = some .bool := by kernel_rfl
theorem zeT_22 : zeT Try.prog 22 = some [.i .i64 0, .i .i64 0, .i .i64 0, .i .i64 0] := by kernel_rfl
theorem zeT_26 : zeT Try.prog 26 = some [.i .i64 0, .i .i64 0, .i .i64 0, .i .i64 0, .i .i64 0, .i .i64 0, .ro true [] 0] := by kernel_rfl
theorem buT_22 : buT Try.prog 22 = some [(0, 1), (1, 1), (2, 1), (3, 1)] := by kernel_rfl
theorem buT_26 : buT Try.prog 26 = some [(0, 1), (1, 1), (2, 4), (6, 1)] := by kernel_rfl
theorem slT_24 : slT Try.prog 24 = some (3, 1, 8) := by kernel_rfl
theorem agT_24 : agT Try.prog 24 = some false := by kernel_rfl
theorem szT_24 : szT Try.prog 24 = some 1 := by kernel_rfl
theorem flT_26_0 : flT Try.prog 26 0 = some (0, 1, false) := by kernel_rfl
theorem flT_26_1 : flT Try.prog 26 1 = some (1, 1, false) := by kernel_rfl
theorem flT_26_3 : flT Try.prog 26 3 = some (6, 1, false) := by kernel_rfl
theorem mixed : Try.prog.follows .mixedOrders = true := by kernel_rfl
def mx (x : Int) : Int := if 0 > x then 0 else x
def phL : List Int → Int → Int → Int
  | [], _, _ => 0
  | a :: l, i, m => if a ≥ m then 1 + i else phL l (i + 1) m
def phAt (a0 a1 a2 a3 x : Int) : Int := phL [a0, a1, a2, a3] 0 (mx x)
def bgAt (a0 a1 a2 a3 x : Int) : Bool := decide (x ≥ 1) && (phAt a0 a1 a2 a3 x != phAt a0 a1 a2 a3 (IntKind.wrap .i64 (x - 1)))
def okHead (T D : Int) (k : Nat) : Bool := !decide (T < 0) && !decide (T ≥ 64) && !decide (D < 0) && !decide (D > 1099511627776) && !decide ((k : Int) > 16)
def okEnds (a0 a1 a2 a3 : Int) : Bool := decide (0 ≤ a0 ∧ a0 ≤ a1 ∧ a1 ≤ a2 ∧ a2 ≤ a3 ∧ a3 ≤ 1048576)
def okMoney (ms : List Int) : Bool := ms.all fun m => decide (0 ≤ m ∧ m ≤ 1099511627776)
def okCfg (T D a0 a1 a2 a3 : Int) (ms : List Int) : Bool := okHead T D ms.length && okEnds a0 a1 a2 a3 && okMoney ms
def ints (ms : List Int) : List AV := ms.map (AV.i .i64)
theorem ints_get {ms : List Int} {j : Nat} (hj : j < ms.length) : (ints ms)[j]? = some (.i .i64 ms[j]) := by simp [ints, hj]
theorem okMoney_bad {ms : List Int} {j : Nat} (hj : j < ms.length) (h : ¬ (0 ≤ ms[j] ∧ ms[j] ≤ 1099511627776)) : okMoney ms = false := by
  simp only [okMoney, List.all_eq_false]
  exact ⟨ms[j], List.getElem_mem hj, by simpa using h⟩
theorem okMoney_all {ms : List Int} (h : ∀ j (hj : j < ms.length), 0 ≤ ms[j] ∧ ms[j] ≤ 1099511627776) : okMoney ms = true := by
  simp only [okMoney, List.all_eq_true]
  intro m hm
  obtain ⟨j, hj, rfl⟩ := List.getElem_of_mem hm
  simpa using h j hj
theorem rem30 (d : Int) : 0 ≤ IntKind.wrap .i64 ((IntKind.wrap .u64 d).tmod 30) ∧ IntKind.wrap .i64 ((IntKind.wrap .u64 d).tmod 30) ≤ 29 := by
  have h0 : 0 ≤ IntKind.wrap .u64 d := by rw [IntKind.wrap_u64]; omega
  have h1 : 0 ≤ (IntKind.wrap .u64 d).tmod 30 := Int.tmod_nonneg _ h0
  have h2 : (IntKind.wrap .u64 d).tmod 30 < 30 := Int.tmod_lt_of_pos _ (by decide)
  rw [IntWalk.i64_in _ (by omega)]
  omega
theorem ph_zero {f0 f1 f2 f3 : Int} (h : 0 ≤ f0) : phAt f0 f1 f2 f3 0 = 1 := by
  simp only [phAt, phL, mx]; repeat' split
  all_goals omega
theorem ph_last {f0 f1 f2 f3 : Int} (h : 0 ≤ f0 ∧ f0 ≤ f1 ∧ f1 ≤ f2 ∧ f2 ≤ f3 ∧ f3 ≤ 29) : phAt f0 f1 f2 f3 32 = 0 := by
  simp only [phAt, phL, mx]; repeat' split
  all_goals omega
theorem ph_mono {f0 f1 f2 f3 i : Int} (h : 0 ≤ f0 ∧ f0 ≤ f1 ∧ f1 ≤ f2 ∧ f2 ≤ f3 ∧ f3 ≤ 29) (hi : 1 ≤ i) (hp : phAt f0 f1 f2 f3 i ≠ 0) : phAt f0 f1 f2 f3 (i - 1) ≠ 0 ∧ ¬ phAt f0 f1 f2 f3 i < phAt f0 f1 f2 f3 (i - 1) := by
  revert hp
  simp only [phAt, phL, mx]; repeat' split
  all_goals omega

theorem rem1000 (d : Int) : 0 ≤ IntKind.wrap .i64 ((IntKind.wrap .u64 d).tmod 1000) ∧ IntKind.wrap .i64 ((IntKind.wrap .u64 d).tmod 1000) ≤ 999 := by
  have h0 : 0 ≤ IntKind.wrap .u64 d := by rw [IntKind.wrap_u64]; omega
  have h1 : 0 ≤ (IntKind.wrap .u64 d).tmod 1000 := Int.tmod_nonneg _ h0
  have h2 : (IntKind.wrap .u64 d).tmod 1000 < 1000 := Int.tmod_lt_of_pos _ (by decide)
  rw [IntWalk.i64_in _ (by omega)]
  omega
theorem ph_neg {f0 f1 f2 f3 : Int} (h : 0 ≤ f0) : phAt f0 f1 f2 f3 (-5) = 1 := by
  simp only [phAt, phL, mx]; repeat' split
  all_goals omega
def unints : List AV → Option (List Int)
  | [] => some []
  | .i .i64 m :: r => (unints r).map (m :: ·)
  | _ => none
theorem ints_unints : ∀ {cs : List AV} {ms : List Int}, unints cs = some ms → cs = ints ms
  | [], ms, h => by simp only [unints, Option.some.injEq] at h; subst h; rfl
  | x :: cs, ms, h => by
    unfold unints at h
    split at h
    · rename_i heq; cases heq
    · rename_i m r heq
      injection heq with h1 h2
      subst h1; subst h2
      cases hu : unints cs with
      | none => rw [hu] at h; cases h
      | some ms' =>
        rw [hu] at h
        simp only [Option.map_some, Option.some.injEq] at h
        subst h
        rw [ints_unints hu]; rfl
    · cases h
theorem unints_ints : ∀ ms : List Int, unints (ints ms) = some ms
  | [] => rfl
  | m :: ms => by
    have := unints_ints ms
    simp only [ints, List.map_cons, unints] at this ⊢
    rw [this]; rfl
end Go.Proofs.Ytpgohmcolcfhfaa
