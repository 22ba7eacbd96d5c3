import Derived.Test.YtepfknnffooaiaaDkHeld

namespace Go.Proofs.Ytepfknnffooaiaa
open Go.Av
set_option maxRecDepth 100000
set_option maxHeartbeats 1000000
set_option linter.unusedSimpArgs false
set_option linter.unusedVariables false
attribute [local push_cast] stepE callR resE aeff aev ofC ofC1 put_at Av.put_none inTmps List.getD_cons_zero List.getD_cons_succ AV.boxable if_true if_false AV.cells aload place app_cons app_nil upd_same Av.part abin aconv aindexAddr fillA splice_one abuiltin alen amax amin aun aindex Option.map_some Option.isSome_some List.map_cons List.map_nil List.nil_append List.append_nil List.cons_append Nat.le_refl Nat.zero_add Nat.add_zero List.length_cons List.length_nil List.drop_succ_cons List.drop_zero List.take_succ_cons List.take_zero beq_self_eq_true bne_self_eq_false Bool.not_true Bool.not_false List.set_cons_zero List.set_cons_succ Bool.false_eq_true IntWalk.i64_in decide_true decide_false Int.toNat_zero and_self and_true true_and List.getElem?_cons_zero List.getElem?_cons_succ aappend aapp view Bool.and_true Bool.true_and Nat.mul_one Option.map_none aslice asliceB nilOp Int.toNat_natCast und_30 agT_3 szT_3 kiT_3 agT_4 szT_4 kiT_4 agT_5 szT_5 kiT_5 agT_25 szT_25 kiT_25 agT_28 szT_28 kiT_28 agT_22 szT_22 kiT_22 agT_23 szT_23 kiT_23 agT_30 szT_30 kiT_30 agT_37 szT_37 kiT_37 agT_38 szT_38 kiT_38 agT_52 szT_52 kiT_52 agT_53 szT_53 kiT_53 agT_24 szT_24 kiT_24 agT_54 szT_54 kiT_54 agT_47 szT_47 kiT_47 slT_22 slT_23 slT_30 slT_37 slT_38 slT_52 slT_53 zeT_3 zeT_4 zeT_5 zeT_30 flT_56_0 flT_56_1 flT_56_2 flT_56_3 flT_56_4 agT_56 szT_56 buT_56 zeT_56 flT_58_0 flT_58_1 agT_58 szT_58 buT_58 zeT_58 flT_62_0 flT_62_1 agT_62 szT_62 buT_62 zeT_62 flT_65_0 flT_65_1 flT_65_2 agT_65 szT_65 buT_65 zeT_65 flT_42_0 flT_42_1 flT_42_2 flT_42_3 flT_42_4 flT_42_5 agT_42 szT_42 buT_42 zeT_42 flT_68_0 flT_68_1 flT_68_2 flT_68_3 flT_68_4 flT_68_5 flT_68_6 agT_68 szT_68 buT_68 zeT_68 ptT_24 ptT_54 ptT_47 und_30 

theorem Wt.upd {g : Heap} {m d j i : Nat} {w : DW} {cs : List AV} (X : Wt g m d j w cs) (hi : j ≠ i) (r : Option Row) : Wt (Av.upd g i r) m d j w cs := ⟨by rw [upd_ne _ _ hi]; exact X.row, X.off, X.lt⟩
theorem upd_upd (h : Heap) (j : Nat) (a b : Option Row) : Av.upd (Av.upd h j a) j b = Av.upd h j b := by funext x; by_cases hx : x = j; subst hx; rw [upd_same, upd_same]; rw [upd_ne _ _ hx, upd_ne _ _ hx, upd_ne _ _ hx]
theorem Wt.more {g : Heap} {m m' d j : Nat} {w : DW} {cs : List AV} (X : Wt g m d j w cs) (h : m ≤ m') : Wt g m' d j w cs := ⟨X.row, X.off, by have := X.lt; omega⟩
theorem bt_case {x : Bt} {h : Heap} (hz : x.z = true → x.b = []) : x.v = .ro false (cellsB x.b) x.b.length ∨ (x.v = .ro true [] 0 ∧ x.b = []) ∨ ∃ j, x.v = .sl 1 j 0 x.b.length ∧ h j = some (.cells (cellsB x.b)) := by
  obtain ⟨z, b⟩ := x
  cases z with
  | false => exact .inl rfl
  | true =>
    obtain rfl : b = [] := hz rfl
    exact .inr (.inl ⟨rfl, rfl⟩)
theorem tmodN (x : Int) (N : Nat) (hN : 0 < N) : ∃ c : Nat, Int.tmod (IntKind.wrap .u64 x) (N : Int) = (c : Int) ∧ c < N := by
  have h1 : IntKind.wrap .u64 x = x % 18446744073709551616 := IntKind.wrap_u64 x
  have h2 : Int.tmod (IntKind.wrap .u64 x) N = IntKind.wrap .u64 x % N := Int.tmod_eq_emod_of_nonneg (by rw [h1]; omega)
  have h3 := Int.emod_nonneg (IntKind.wrap .u64 x) (show (N : Int) ≠ 0 by omega)
  have h4 := Int.emod_lt_of_pos (IntKind.wrap .u64 x) (show (0 : Int) < (N : Int) by omega)
  exact ⟨(IntKind.wrap .u64 x % N).toNat, by rw [h2]; omega, by omega⟩
theorem mod8 (x : Int) : ∃ c : Nat, Int.tmod (IntKind.wrap .u64 x) 8 = (c : Int) ∧ c < 8 := tmodN x 8 (by decide)
theorem mod10 (x : Int) : ∃ c : Nat, IntKind.wrap .i64 (Int.tmod (IntKind.wrap .u64 x) 10) = (c : Int) ∧ c < 10 := by
  obtain ⟨c, h, hc⟩ := tmodN x 10 (by decide)
  exact ⟨c, by have h' : Int.tmod (IntKind.wrap .u64 x) 10 = (c : Int) := h
               rw [h', IntWalk.i64_in _ (by omega)], hc⟩
def wantV (rows : List Bt) : List AV := rows.map fun r => .ro false (cellsB (sectorB r.b)) 64
theorem wantV_len (rows : List Bt) : (wantV rows).length = rows.length := List.length_map ..
theorem wantV_snoc {rows : List Bt} {k : Nat} (hk : k < rows.length) : wantV (rows.take (k + 1)) = wantV (rows.take k) ++ [.ro false (cellsB (sectorB rows[k].b)) 64] := by
  rw [List.take_succ_eq_append_getElem hk, wantV, List.map_append]; rfl
theorem wantV_get {rows : List Bt} {k : Nat} (hk : k < rows.length) : (wantV rows)[k]? = some (.ro false (cellsB (sectorB rows[k].b)) 64) := by simp [wantV, hk]
def secR (rows : List Bt) (i : Nat) : List UInt8 := sectorB ((rows.map Bt.b).getD i [])
theorem secR_at {rows : List Bt} {k : Nat} (hk : k < rows.length) : secR rows k = sectorB rows[k].b := by simp [secR, hk]
theorem btsV_get {rows : List Bt} {k : Nat} (hk : k < rows.length) : (btsV rows)[k]? = some rows[k].v := by simp [btsV, hk]

end Go.Proofs.Ytepfknnffooaiaa
