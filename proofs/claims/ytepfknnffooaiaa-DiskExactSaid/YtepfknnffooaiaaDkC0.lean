import Derived.Test.YtepfknnffooaiaaDkIn
import Derived.Test.YtepfknnffooaiaaDkT0

namespace Go.Proofs.Ytepfknnffooaiaa
open Go.Av
set_option maxRecDepth 100000
set_option maxHeartbeats 1000000
set_option linter.unusedSimpArgs false
set_option linter.unusedVariables false
attribute [local push_cast] stepE callR resE aeff aev ofC ofC1 put_at Av.put_none inTmps List.getD_cons_zero List.getD_cons_succ AV.boxable if_true if_false AV.cells aload place app_cons app_nil upd_same Av.part abin aconv aindexAddr fillA splice_one abuiltin alen amax amin aun aindex Option.map_some Option.isSome_some List.map_cons List.map_nil List.nil_append List.append_nil List.cons_append Nat.le_refl Nat.zero_add Nat.add_zero List.length_cons List.length_nil List.drop_succ_cons List.drop_zero List.take_succ_cons List.take_zero beq_self_eq_true bne_self_eq_false Bool.not_true Bool.not_false List.set_cons_zero List.set_cons_succ Bool.false_eq_true IntWalk.i64_in decide_true decide_false Int.toNat_zero and_self and_true true_and List.getElem?_cons_zero List.getElem?_cons_succ aappend aapp view Bool.and_true Bool.true_and Nat.mul_one Option.map_none aslice asliceB nilOp Int.toNat_natCast und_30 agT_3 szT_3 kiT_3 agT_4 szT_4 kiT_4 agT_5 szT_5 kiT_5 agT_25 szT_25 kiT_25 agT_28 szT_28 kiT_28 agT_22 szT_22 kiT_22 agT_23 szT_23 kiT_23 agT_30 szT_30 kiT_30 agT_37 szT_37 kiT_37 agT_38 szT_38 kiT_38 agT_52 szT_52 kiT_52 agT_53 szT_53 kiT_53 agT_24 szT_24 kiT_24 agT_54 szT_54 kiT_54 agT_47 szT_47 kiT_47 slT_22 slT_23 slT_30 slT_37 slT_38 slT_52 slT_53 zeT_3 zeT_4 zeT_5 zeT_30 flT_56_0 flT_56_1 flT_56_2 flT_56_3 flT_56_4 agT_56 szT_56 buT_56 zeT_56 flT_58_0 flT_58_1 agT_58 szT_58 buT_58 zeT_58 flT_62_0 flT_62_1 agT_62 szT_62 buT_62 zeT_62 flT_65_0 flT_65_1 flT_65_2 agT_65 szT_65 buT_65 zeT_65 flT_42_0 flT_42_1 flT_42_2 flT_42_3 flT_42_4 flT_42_5 agT_42 szT_42 buT_42 zeT_42 flT_68_0 flT_68_1 flT_68_2 flT_68_3 flT_68_4 flT_68_5 flT_68_6 agT_68 szT_68 buT_68 zeT_68 ptT_24 ptT_54 ptT_47 und_30 

/-! ### rows of ints beside a disk -/
theorem intsV_get {l : List Int} {i : Nat} (hi : i < l.length) : (intsV l)[i]? = some (.i .i64 l[i]) := by simp [intsV, hi]
theorem intsV_set (l : List Int) (i : Nat) (v : Int) : (intsV l).set i (.i .i64 v) = intsV (l.set i v) := by simp [intsV, List.map_set]
theorem take_intsV (l : List Int) : (intsV l).take l.length = intsV l := List.take_of_length_le (by rw [len_intsV]; exact Nat.le_refl _)
structure Wt (g : Heap) (m d j : Nat) (w : DW) (cs : List AV) : Prop where
  row : g j = some (.cells cs)
  off : j ∉ (w.cont d).keys
  lt : j < m
theorem Wt.turn {h0 g : Heap} {n0 m d m' j : Nat} {w w' : DW} {cs : List AV} (X : Wt g m d j w cs) (A : At h0 n0 g m d w) (T : Turn d w m w' m') : Wt (app (swap (w.cont d) (w'.cont d)) g) m' d j w' cs := by
  obtain ⟨h1, h2⟩ := A.other T X.lt X.off
  exact ⟨by rw [h2]; exact X.row, h1, Nat.lt_of_lt_of_le X.lt T.le⟩
theorem Wt.new {g : Heap} {m d j : Nat} {w : DW} {cs : List AV} (X : Wt g m d j w cs) (r : Option Row) : Wt (upd g m r) (m + 1) d j w cs :=
  ⟨by rw [upd_ne _ _ (by have := X.lt; omega)]; exact X.row, X.off, by have := X.lt; omega⟩
theorem Wt.set {g : Heap} {m d j : Nat} {w : DW} {cs : List AV} (X : Wt g m d j w cs) (cs' : List AV) : Wt (upd g j (some (.cells cs'))) m d j w cs' := ⟨upd_same .., X.off, X.lt⟩
/-- What a number of the law stands for. -/
def secOf (v : Int) : Sec := if v < 0 then none else some (sectorB [UInt8.ofNat v.toNat])
theorem crashN_app {pend : List (Nat × List UInt8)} {p : Nat × List UInt8} {keep : List Bool} {torn : Int} {s : List Sec} : ∀ k, k ≤ pend.length → crashN (pend ++ [p]) keep torn s k = crashN pend keep torn s k
  | 0, _ => rfl
  | k + 1, h => by
    simp only [crashN]
    rw [crashN_app k (by omega), List.getElem?_append_left (by omega)]
theorem crash_step {pend : List (Nat × List UInt8)} {i : Nat} {b : List UInt8} {keep : List Bool} {torn : Int} {s : List Sec} : crashN (pend ++ [(i, b)]) keep torn s (pend ++ [(i, b)]).length = crash1 keep torn pend.length i b (crashN pend keep torn s pend.length) := by
  rw [List.length_append, List.length_singleton, crashN_at (by simp)]
  rw [crashN_app _ (Nat.le_refl _)]
  simp
theorem byte_at {v : Int} (h0 : 0 ≤ v) (h1 : v < 256) : (cellsB (sectorB [UInt8.ofNat v.toNat]))[0]? = some (.i .u8 v) := by
  have e : (UInt8.ofNat v.toNat).toNat = v.toNat := by simp; omega
  show some (AV.i .u8 ((UInt8.ofNat v.toNat).toNat : Int)) = _
  rw [e, Int.toNat_of_nonneg h0]
theorem mod4 (x : Int) : ∃ c : Nat, IntKind.wrap .i64 (Int.tmod (IntKind.wrap .u64 x) 4) = (c : Int) ∧ c < 4 := by
  have h1 : IntKind.wrap .u64 x = x % 18446744073709551616 := IntKind.wrap_u64 x
  have h2 : Int.tmod (IntKind.wrap .u64 x) 4 = IntKind.wrap .u64 x % 4 := Int.tmod_eq_emod_of_nonneg (by rw [h1]; omega)
  refine ⟨(IntKind.wrap .u64 x % 4).toNat, ?_, by omega⟩
  rw [h2, IntWalk.i64_in _ (by omega)]
  omega
theorem read_at {w : DW} {i : Nat} (ho : w.off = false) (hi : i < w.safe.length) {b : List UInt8} (h : w.now[i]? = some (some b)) : w.read i = (.ro false (cellsB b) b.length, 0) := by
  have h2 : wrongE w.off w.safe.length i = 0 := by simp only [wrongE, ho, Bool.false_eq_true, if_false]; rw [if_neg (by omega)]
  unfold DW.read
  rw [if_neg (by omega), Int.toNat_natCast, h]
theorem read_torn {w : DW} {i : Nat} (ho : w.off = false) (hi : i < w.safe.length) (h : w.now[i]? = some none) : w.read i = (.ro true [] 0, 15) := by
  have h2 : wrongE w.off w.safe.length i = 0 := by simp only [wrongE, ho, Bool.false_eq_true, if_false]; rw [if_neg (by omega)]
  unfold DW.read
  rw [if_neg (by omega), Int.toNat_natCast, h]

end Go.Proofs.Ytepfknnffooaiaa
