import Derived.Test.YtepfknnffooaiaaDkI

namespace Go.Proofs.Ytepfknnffooaiaa
open Go.Av
set_option maxRecDepth 100000
set_option maxHeartbeats 1000000
set_option linter.unusedSimpArgs false
set_option linter.unusedVariables false
attribute [local push_cast] stepE callR resE aeff aev ofC ofC1 put_at Av.put_none inTmps List.getD_cons_zero List.getD_cons_succ AV.boxable if_true if_false AV.cells aload place app_cons app_nil upd_same Av.part abin aconv aindexAddr fillA splice_one abuiltin alen amax amin aun aindex Option.map_some Option.isSome_some List.map_cons List.map_nil List.nil_append List.append_nil List.cons_append Nat.le_refl Nat.zero_add Nat.add_zero List.length_cons List.length_nil List.drop_succ_cons List.drop_zero List.take_succ_cons List.take_zero beq_self_eq_true bne_self_eq_false Bool.not_true Bool.not_false List.set_cons_zero List.set_cons_succ Bool.false_eq_true IntWalk.i64_in decide_true decide_false Int.toNat_zero and_self and_true true_and List.getElem?_cons_zero List.getElem?_cons_succ aappend aapp view Bool.and_true Bool.true_and Nat.mul_one Option.map_none aslice asliceB nilOp Int.toNat_natCast und_30 agT_3 szT_3 kiT_3 agT_4 szT_4 kiT_4 agT_5 szT_5 kiT_5 agT_25 szT_25 kiT_25 agT_28 szT_28 kiT_28 agT_22 szT_22 kiT_22 agT_23 szT_23 kiT_23 agT_30 szT_30 kiT_30 agT_37 szT_37 kiT_37 agT_38 szT_38 kiT_38 agT_52 szT_52 kiT_52 agT_53 szT_53 kiT_53 agT_24 szT_24 kiT_24 agT_54 szT_54 kiT_54 agT_47 szT_47 kiT_47 slT_22 slT_23 slT_30 slT_37 slT_38 slT_52 slT_53 zeT_3 zeT_4 zeT_5 zeT_30 flT_56_0 flT_56_1 flT_56_2 flT_56_3 flT_56_4 agT_56 szT_56 buT_56 zeT_56 flT_58_0 flT_58_1 agT_58 szT_58 buT_58 zeT_58 flT_62_0 flT_62_1 agT_62 szT_62 buT_62 zeT_62 flT_65_0 flT_65_1 flT_65_2 agT_65 szT_65 buT_65 zeT_65 flT_42_0 flT_42_1 flT_42_2 flT_42_3 flT_42_4 flT_42_5 agT_42 szT_42 buT_42 zeT_42 flT_68_0 flT_68_1 flT_68_2 flT_68_3 flT_68_4 flT_68_5 flT_68_6 agT_68 szT_68 buT_68 zeT_68 ptT_24 ptT_54 ptT_47 und_30 

theorem sum_here8 {S : Sums} (hS : SumOk Try.prog S) {f : FuncId} {args : List AV} {g : Heap} {r : Res} (hr : ResOk Try.prog f args g r) : ∃ S6, SumOk Try.prog S6 ∧ S6 f args g = r ∧ ∀ f' a, f' ≠ f ∨ a ≠ args → S6 f' a = S f' a :=
  ⟨_, hS.loc hr, Sums.loc_at, fun f' a hf => by funext k; unfold Sums.loc; exact if_neg fun hc => by rcases hf with h | h; exact h hc.1; exact h hc.2.1⟩

theorem showsK_ro {h : Heap} {J : List Nat} {z : Bool} {keep : List Bool} (hz : z = true → keep = []) : ShowsK h J (.ro z (bools keep) keep.length) z keep := by
  cases z with
  | false => exact .inl ⟨rfl, rfl⟩
  | true => obtain rfl := hz rfl; exact .inr (.inl ⟨rfl, rfl, rfl⟩)
/-- What a write or a sync comes to, as the trip is. -/
def Eff (w : DW) (r : Int) (w' : DW) : Prop := w'.safe.length = w.safe.length ∧ w'.pend.length ≤ w.pend.length + 1 ∧
  ((∃ x, w.trip = some x ∧ x.1 ≤ 1 ∧ r = 14 ∧ w'.off = true ∧ w'.trip = none) ∨ (∃ x, w.trip = some x ∧ 1 < x.1 ∧ r = 0 ∧ w'.off = false ∧ w'.trip = some (x.1 - 1, x.2)) ∨ (w.trip = none ∧ r = 0 ∧ w'.off = false ∧ w'.trip = none))
theorem eff_sync {w : DW} {m : Nat} (ho : w.off = false) : Eff w (w.sync m).1 (w.sync m).2.1 := by
  unfold DW.sync
  rw [if_neg (by rw [ho]; simp)]
  cases ht : w.trip with
  | none =>
    have e : w.trips m = (false, w, m) := by simp only [DW.trips, ht]
    rw [e]
    refine ⟨?_, ?_, .inr (.inr ⟨ht, rfl, ho, ht⟩)⟩
    · show (syncN _ _ _).length = _; exact syncN_len _
    · show ([] : List (Nat × List UInt8)).length ≤ _; simp
  | some x =>
    by_cases hx : x.1 ≤ 1
    · have e : w.trips m = (true, w.crash x.2.2.1 x.2.2.2 (m + w.pend.length), m + w.pend.length + 1) := by simp only [DW.trips, ht]; rw [if_pos hx]
      rw [e]
      refine ⟨?_, ?_, .inl ⟨x, ht, hx, rfl, rfl, rfl⟩⟩
      · show (crashN _ _ _ _ _).length = _; exact crashN_len _
      · show ([] : List (Nat × List UInt8)).length ≤ _; simp
    · have e : w.trips m = (false, { w with trip := some (x.1 - 1, x.2) }, m) := by simp only [DW.trips, ht]; rw [if_neg hx]
      rw [e]
      refine ⟨?_, ?_, .inr (.inl ⟨x, ht, by omega, rfl, ho, rfl⟩)⟩
      · show (syncN _ _ _).length = _; exact syncN_len _
      · show ([] : List (Nat × List UInt8)).length ≤ _; simp
theorem eff_write {w : DW} {m : Nat} {i : Int} {b : List UInt8} (ho : w.off = false) (h0 : 0 ≤ i) (h1 : i < w.safe.length) (hb : b.length = 64) : Eff w (w.write m i b).1 (w.write m i b).2.1 := by
  have h2 : wrongE w.off w.safe.length i = 0 := by simp only [wrongE, ho, Bool.false_eq_true, if_false]; rw [if_neg (by omega)]
  unfold DW.write
  rw [if_neg (by omega), if_neg (by omega)]
  cases ht : w.trip with
  | none =>
    have e : (w.wrote (m + 1) i.toNat b).trips (m + 2) = (false, w.wrote (m + 1) i.toNat b, m + 2) := by simp only [DW.trips, DW.wrote, ht]
    rw [e]
    exact ⟨rfl, by show (w.pend ++ _).length ≤ _; simp, .inr (.inr ⟨ht, rfl, ho, ht⟩)⟩
  | some x =>
    by_cases hx : x.1 ≤ 1
    · have e : (w.wrote (m + 1) i.toNat b).trips (m + 2) = (true, (w.wrote (m + 1) i.toNat b).crash x.2.2.1 x.2.2.2 (m + 2 + (w.wrote (m + 1) i.toNat b).pend.length), m + 2 + (w.wrote (m + 1) i.toNat b).pend.length + 1) := by
        have ht' : (w.wrote (m + 1) i.toNat b).trip = some x := ht
        simp only [DW.trips, ht']; rw [if_pos hx]
      rw [e]
      refine ⟨?_, ?_, .inl ⟨x, ht, hx, rfl, rfl, rfl⟩⟩
      · show (crashN _ _ _ _ _).length = _; exact crashN_len _
      · show ([] : List (Nat × List UInt8)).length ≤ _; simp
    · have e : (w.wrote (m + 1) i.toNat b).trips (m + 2) = (false, { w.wrote (m + 1) i.toNat b with trip := some (x.1 - 1, x.2) }, m + 2) := by
        have ht' : (w.wrote (m + 1) i.toNat b).trip = some x := ht
        simp only [DW.trips, ht']; rw [if_neg hx]
      rw [e]
      exact ⟨rfl, by show (w.pend ++ _).length ≤ _; simp, .inr (.inl ⟨x, ht, by omega, rfl, ho, rfl⟩)⟩
theorem byte_cells {i : Nat} (hi : i < 256) : [AV.i .u8 (IntKind.wrap .u8 (i : Int))] = cellsB [UInt8.ofNat i] := by
  have h1 : IntKind.wrap .u8 (i : Int) = ((UInt8.ofNat i).toNat : Int) := by
    rw [IntKind.wrap_u8]
    have : (UInt8.ofNat i).toNat = i := by simp; omega
    rw [this]; omega
  rw [h1]; rfl
theorem at12e {h : Heap} {d : Nat} {w : DW} (F : DFacts h d w) : DE 12 [.p d 0] h = .pure (.b w.off) := at12' F
theorem at9e {x : AV} {b : List UInt8} {h : Heap} (hb : b.length ≤ 1000000) (hx : x = .ro false (cellsB b) b.length ∨ (x = .ro true [] 0 ∧ b = []) ∨ ∃ j, x = .sl 1 j 0 b.length ∧ h j = some (.cells (cellsB b))) : DE 9 [x] h = .pure (.ro false (cellsB (sectorB b)) 64) := at9 hb hx
theorem shows_sec {h : Heap} {J : List Nat} {b : List UInt8} : Shows h J (.ro false (cellsB (sectorB b)) 64) (sectorB b) := .inl (by rw [sectorB_len])

end Go.Proofs.Ytepfknnffooaiaa
