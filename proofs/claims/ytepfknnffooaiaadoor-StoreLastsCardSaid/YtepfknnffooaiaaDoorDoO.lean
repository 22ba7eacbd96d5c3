import Derived.Test.YtepfknnffooaiaaDoorDoN

namespace Go.Proofs.YtepfknnffooaiaaDoor
open Go.Av
set_option maxRecDepth 100000
set_option maxHeartbeats 1000000
set_option linter.unusedSimpArgs false
set_option linter.unusedVariables false
attribute [local push_cast] stepE callR resE aeff aev ofC ofC1 put_at Av.put_none inTmps List.getD_cons_zero List.getD_cons_succ AV.boxable if_true if_false AV.cells aload place app_cons app_nil upd_same Av.part abin aconv aindexAddr fillA splice_one abuiltin alen amax amin aun aindex Option.map_some Option.isSome_some List.map_cons List.map_nil List.nil_append List.append_nil List.cons_append Nat.le_refl Nat.zero_add Nat.add_zero List.length_cons List.length_nil List.drop_succ_cons List.drop_zero List.take_succ_cons List.take_zero beq_self_eq_true bne_self_eq_false Bool.not_true Bool.not_false List.set_cons_zero List.set_cons_succ Bool.false_eq_true IntWalk.i64_in decide_true decide_false Int.toNat_zero and_self and_true true_and List.getElem?_cons_zero List.getElem?_cons_succ aappend aapp view Bool.and_true Bool.true_and Nat.mul_one Option.map_none aslice asliceB nilOp Int.toNat_natCast und_30 agT_3 szT_3 kiT_3 agT_5 szT_5 kiT_5 agT_24 szT_24 kiT_24 agT_62 szT_62 kiT_62 agT_4 szT_4 kiT_4 agT_9 szT_9 kiT_9 agT_44 szT_44 kiT_44 agT_45 szT_45 kiT_45 agT_30 szT_30 kiT_30 agT_22 szT_22 kiT_22 agT_41 szT_41 kiT_41 agT_51 szT_51 kiT_51 agT_52 szT_52 kiT_52 agT_23 szT_23 kiT_23 agT_53 szT_53 kiT_53 agT_27 szT_27 kiT_27 agT_89 szT_89 kiT_89 agT_66 szT_66 kiT_66 agT_20 szT_20 kiT_20 slT_45 slT_44 slT_30 slT_22 slT_41 slT_51 slT_52 zeT_3 zeT_4 zeT_5 zeT_30 zeT_24 flT_55_0 flT_55_1 flT_55_2 flT_55_3 flT_55_4 agT_55 szT_55 buT_55 zeT_55 flT_57_0 flT_57_1 agT_57 szT_57 buT_57 zeT_57 flT_74_0 flT_74_1 agT_74 szT_74 buT_74 zeT_74 flT_77_0 flT_77_1 flT_77_2 agT_77 szT_77 buT_77 zeT_77 flT_47_0 flT_47_1 flT_47_2 flT_47_3 flT_47_4 flT_47_5 agT_47 szT_47 buT_47 zeT_47 flT_61_0 flT_61_1 agT_61 szT_61 buT_61 zeT_61 flT_64_0 flT_64_1 agT_64 szT_64 buT_64 zeT_64 flT_91_0 flT_91_1 agT_91 szT_91 buT_91 zeT_91 ptT_23 ptT_53 ptT_27 ptT_89 und_30 

/-! ### steps of a disk, with what they leave -/
structure Step (h : Heap) (n d : Nat) (w : DW) (g : Heap) (m : Nat) (v : DW) : Prop where
  ok : DOk v
  F : DFacts g d v
  key : ∀ j, j ∈ (v.cont d).keys → j < m ∧ (j ∈ (w.cont d).keys ∨ n ≤ j)
  fr : ∀ x r, x < n → h x = some r → x ∉ (w.cont d).keys → g x = some r
  le : n ≤ m
theorem Step.start {h : Heap} {n d : Nat} {w : DW} (hw : DOk w) (F : DFacts h d w) (hlt : ∀ j, j ∈ (w.cont d).keys → j < n) : Step h n d w h n w :=
  ⟨hw, F, fun j hj => ⟨hlt j hj, .inl hj⟩, fun x r _ hr _ => hr, Nat.le_refl _⟩
theorem Step.at {h : Heap} {n d : Nat} {w : DW} {g : Heap} {m : Nat} {v : DW} (S : Step h n d w g m v) : At (fun _ => none) 0 g m d v :=
  ⟨S.ok, S.F, fun j hj => ⟨Nat.zero_le _, (S.key j hj).1⟩, fun _ _ _ hc => (nomatch hc), Nat.zero_le _⟩
theorem Step.turn {h : Heap} {n d : Nat} {w : DW} {g : Heap} {m : Nat} {v : DW} (S : Step h n d w g m v) {v' : DW} {m' : Nat} (T : Turn d v m v' m') : Step h n d w (app (swap (v.cont d) (v'.cont d)) g) m' v' := by
  have hle := S.le
  have hle' := T.le
  refine ⟨T.ok, Has.dis T.nd, fun j hj => ?_, fun x r hx hr hk => ?_, Nat.le_trans S.le T.le⟩
  · rcases T.key j hj with h1 | h1
    · have := S.key j h1
      exact ⟨by omega, this.2⟩
    · exact ⟨h1.2, .inr (by omega)⟩
  · have h1 : x ∉ (v.cont d).keys := fun hj => by
      rcases (S.key x hj).2 with h2 | h2
      · exact hk h2
      · omega
    have h2 : x ∉ (v'.cont d).keys := fun hj => by
      rcases T.key x hj with h3 | h3
      · exact h1 h3
      · omega
    rw [swap_off _ h1 h2]
    exact S.fr x r hx hr hk
theorem Step.upd {h : Heap} {n d : Nat} {w : DW} {g : Heap} {m j : Nat} {v : DW} (S : Step h n d w g m v) (hj : n ≤ j) (hk : j ∉ (v.cont d).keys) (r : Option Row) : Step h n d w (Av.upd g j r) m v :=
  ⟨S.ok, DFacts.of (S.F.has.upd hk r), S.key, fun x r' hx hr hx' => by rw [upd_ne _ _ (by omega)]; exact S.fr x r' hx hr hx', S.le⟩
theorem Step.more {h : Heap} {n d : Nat} {w : DW} {g : Heap} {m m' : Nat} {v : DW} (S : Step h n d w g m v) (hm : m ≤ m') : Step h n d w g m' v :=
  ⟨S.ok, S.F, fun j hj => ⟨Nat.lt_of_lt_of_le (S.key j hj).1 hm, (S.key j hj).2⟩, S.fr, Nat.le_trans S.le hm⟩
theorem Step.new {h : Heap} {n d : Nat} {w : DW} {g : Heap} {m : Nat} {v : DW} (S : Step h n d w g m v) : m ∉ (v.cont d).keys := fun hj => by have := (S.key m hj).1; omega
theorem Step.lower {h h1 : Heap} {n n1 d : Nat} {w : DW} {g : Heap} {m : Nat} {v : DW} (S : Step h1 n1 d w g m v) (hn : n ≤ n1) (hh : ∀ x r, x < n → h x = some r → h1 x = some r) : Step h n d w g m v :=
  ⟨S.ok, S.F, fun j hj => ⟨(S.key j hj).1, (S.key j hj).2.imp_right fun h => Nat.le_trans hn h⟩, fun x r hx hr hk => S.fr x r (by omega) (hh x r hx hr) hk, Nat.le_trans hn S.le⟩
/-- The power has gone: nothing waits. -/
structure Dead (v : DW) : Prop where
  off : v.off = true
  pend : v.pend = []
  now : v.now = v.safe
  trip : v.trip = none
theorem write_cases {w : DW} {m i : Nat} {b : List UInt8} (ho : w.off = false) (hi : i < w.safe.length) (hb : b.length = 64) :
    ((w.write m (i : Int) b).1 = 0 ∧ (w.write m (i : Int) b).2.1.off = false ∧ (w.write m (i : Int) b).2.1.safe = w.safe ∧ (w.write m (i : Int) b).2.1.pend = w.pend ++ [(i, b)] ∧ (w.write m (i : Int) b).2.1.now = w.now.set i (some b) ∧ ((w.write m (i : Int) b).2.1.trip = none ↔ w.trip = none) ∧ (w.write m (i : Int) b).2.1.js = w.js ∧ (w.write m (i : Int) b).2.1.jn = w.jn) ∨
    ((w.write m (i : Int) b).1 = 14 ∧ w.trip ≠ none ∧ Dead (w.write m (i : Int) b).2.1 ∧ ∃ keep torn, (w.write m (i : Int) b).2.1.safe = crashN (w.pend ++ [(i, b)]) keep torn w.safe (w.pend.length + 1)) := by
  have hz : wrongE w.off w.safe.length (i : Int) = 0 := by
    unfold wrongE
    rw [ho]
    simp only [Bool.false_eq_true, if_false]
    rw [if_neg (by omega)]
  unfold DW.write
  rw [if_neg (by rw [hz]; simp), if_neg (by rw [hb]; simp)]
  unfold DW.trips
  cases ht : (w.wrote (m + 1) (i : Int).toNat b).trip with
  | none =>
    have ht' : w.trip = none := ht
    exact .inl ⟨rfl, ho, rfl, rfl, rfl, ⟨fun _ => ht', fun _ => ht'⟩, rfl, rfl⟩
  | some x =>
    have ht' : w.trip = some x := ht
    simp only
    split
    · refine .inr ⟨rfl, by rw [ht']; simp, ⟨rfl, rfl, rfl, rfl⟩, x.2.2.1, x.2.2.2, ?_⟩
      show crashN (w.pend ++ [(i, b)]) _ _ w.safe (w.pend ++ [(i, b)]).length = _
      rw [List.length_append]; rfl
    · exact .inl ⟨rfl, ho, rfl, rfl, rfl, by simp [ht'], rfl, rfl⟩
theorem sync_cases {w : DW} {m : Nat} (ho : w.off = false) :
    ((w.sync m).1 = 0 ∧ (w.sync m).2.1.off = false ∧ (w.sync m).2.1.safe = syncN w.pend w.safe w.pend.length ∧ (w.sync m).2.1.pend = [] ∧ (w.sync m).2.1.now = w.now ∧ ((w.sync m).2.1.trip = none ↔ w.trip = none) ∧ (w.sync m).2.1.js = w.js ∧ (w.sync m).2.1.jn = w.jn) ∨
    ((w.sync m).1 = 14 ∧ w.trip ≠ none ∧ Dead (w.sync m).2.1 ∧ ∃ keep torn, (w.sync m).2.1.safe = crashN w.pend keep torn w.safe w.pend.length) := by
  unfold DW.sync
  rw [if_neg (by rw [ho]; simp)]
  unfold DW.trips
  cases ht : w.trip with
  | none =>
    simp only [Bool.false_eq_true, if_false]
    exact .inl ⟨trivial, ho, rfl, rfl, rfl, by simp [DW.synced, ht], rfl, rfl⟩
  | some x =>
    simp only
    by_cases hx : x.1 ≤ 1
    · simp only [if_pos hx, if_true]
      exact .inr ⟨trivial, by simp, ⟨rfl, rfl, rfl, rfl⟩, x.2.2.1, x.2.2.2, rfl⟩
    · simp only [if_neg hx, Bool.false_eq_true, if_false]
      exact .inl ⟨trivial, ho, rfl, rfl, rfl, by simp [DW.synced], rfl, rfl⟩
/-! ### what a save writes -/
def areaW (c : Nat) (b : List UInt8) (k : Nat) : List (Nat × List UInt8) := (List.range k).map fun i => (placeN c i, sectorB (b.drop (64 * i)))
theorem areaW_len (c : Nat) (b : List UInt8) (k : Nat) : (areaW c b k).length = k := by simp [areaW]
theorem areaW_succ (c : Nat) (b : List UInt8) (k : Nat) : areaW c b (k + 1) = areaW c b k ++ [(placeN c k, sectorB (b.drop (64 * k)))] := by simp [areaW, List.range_succ]
theorem syncN_app {pend : List (Nat × List UInt8)} {p : Nat × List UInt8} {s : List Sec} : ∀ k, k ≤ pend.length → syncN (pend ++ [p]) s k = syncN pend s k
  | 0, _ => rfl
  | k + 1, h => by
    simp only [syncN]
    rw [syncN_app k (by omega), List.getElem?_append_left (by omega)]
theorem sync_step {pend : List (Nat × List UInt8)} {i : Nat} {b : List UInt8} {s : List Sec} : syncN (pend ++ [(i, b)]) s (pend ++ [(i, b)]).length = (syncN pend s pend.length).set i (some b) := by
  rw [List.length_append, List.length_singleton, syncN_at (by simp), syncN_app _ (Nat.le_refl _)]
  simp
theorem areaN_succ (c : Nat) (b : List UInt8) (k : Nat) (s : List Sec) : syncN (areaW c b (k + 1)) s (k + 1) = (syncN (areaW c b k) s k).set (placeN c k) (some (sectorB (b.drop (64 * k)))) := by
  have := sync_step (pend := areaW c b k) (i := placeN c k) (b := sectorB (b.drop (64 * k))) (s := s)
  rw [← areaW_succ, areaW_len, areaW_len] at this
  exact this
def nSec (b : List UInt8) : Nat := (b.length + 63) / 64
/-- What an area's sectors are, all written. -/
def areaS (c : Nat) (b : List UInt8) (s : List Sec) : List Sec := syncN (areaW c b (nSec b)) s (nSec b)
structure AreaI (w v : DW) (c : Nat) (b : List UInt8) (k : Nat) : Prop where
  off : v.off = false
  safe : v.safe = w.safe
  pend : v.pend = areaW c b k
  now : v.now = syncN (areaW c b k) w.safe k
  trip : v.trip = none ↔ w.trip = none
  js : v.js = w.js
  jn : v.jn = w.jn
structure Kept (w v : DW) (c : Nat) (b : List UInt8) : Prop where
  off : v.off = false
  pend : v.pend = []
  now : v.now = v.safe
  trip : v.trip = none ↔ w.trip = none
  safe : v.safe = (areaS c b w.safe).set (c % 2) (some (markB c b.length))
  js : v.js = w.js
  jn : v.jn = w.jn
structure Gone (w v : DW) (c : Nat) (b : List UInt8) : Prop where
  dead : Dead v
  armed : w.trip ≠ none
  safe : ∃ keep torn, (∃ k, k ≤ nSec b ∧ v.safe = crashN (areaW c b k) keep torn w.safe k) ∨ v.safe = crash1 keep torn 0 (c % 2) (markB c b.length) (areaS c b w.safe)
def Rel27 (h : Heap) (n d : Nat) (w : DW) (c : Nat) (b : List UInt8) : AV → Heap → Nat → Prop := fun r g m =>
  (r = .ni ∧ ∃ v, Step h n d w g m v ∧ Kept w v c b) ∨ ∃ j v s, r = .ifc 89 (.p j 0) ∧ g j = some (.cells (trb s 14)) ∧ Step h n d w g m v ∧ Gone w v c b
theorem s27 {h : Heap} {s d n : Nat} {w : DW} {sv : AV} (z : Bool) (b : List UInt8) (hw : DOk w) (F : DFacts h d w) (ho : w.off = false) (hlen : 150 ≤ w.safe.length) (hp : w.pend = []) (hns : w.now = w.safe) (hlt : ∀ j, j ∈ (w.cont d).keys → j < n) (hsn : s < n) (hsk : s ∉ (w.cont d).keys)
    (hs : h s = some (.cells [.p d 0, sv])) (c' sz : Nat) (hlast : lastOf w.now = (c', sz)) (hcl : c' + 1 < 9223372036854775808) (hb : b.length ≤ 4000) :
    DRel Tryd.prog 27 [.p s 0, .ro z (cellsB b) b.length] h n (Rel27 h n d w (c' + 1) b) := by
  have hS := SumOk.none (P := Tryd.prog)
  refine DRel.of Tryd.func27 rfl (by decide) (Nat.le_of_ble_eq_true rfl) ?_
  obtain ⟨S2, hS2, h24, n24⟩ := sum_here hS (f := 24) (args := [.p s 0]) (g := h) (r := .pure (.tup [.agg (mkC (lastOf w.now)), .ni])) (fun m => s24 hw F ho (by omega) hs m)
  rw [hlast] at h24
  simp only [mkC] at h24
  obtain ⟨c, hc⟩ : ∃ c, c = c' + 1 := ⟨_, rfl⟩
  have w0 : IntKind.wrap .u64 ((c' : Int) + 1) = (c : Int) := by rw [IntKind.wrap_u64]; omega
  rw [← hc]
  clear hlast
  refine AWp.seq ?_
  (refine aw_regionL hS2 (by kernel_rfl) ?_; repeat (first | apply vr0u | apply vr4 | apply b_tt | apply b_ff | apply b_tf | apply b_ft | apply b_no | exact isD.mk rfl | (apply eqG; (simp only [push_cast, ↓reduceIte, Nat.reduceEqDiff, Nat.reduceAdd, Nat.reduceLeDiff, Nat.reduceLT, Int.reduceLE, Int.reduceLT, Int.reduceAdd, Int.reduceSub, Int.reduceNeg, Int.reduceBEq, Int.reduceBNe, Int.reduceEq, Int.reduceGT, Int.reduceGE, Int.reduceMul, Int.reduceToNat, Nat.reduceMul, reduceCtorEq, h24, splice_two, upd_upd, w0] <;> rfl)) | exact (rfl : app (swap _ _) _ = _)))
  refine vr_nil (aw_then ?_)
  refine AWp.seq ?_
  (refine aw_regionL hS2 (by kernel_rfl) ?_; repeat (first | apply vr0u | apply vr4 | apply b_tt | apply b_ff | apply b_tf | apply b_ft | apply b_no | exact isD.mk rfl | (apply eqG; (simp only [push_cast, ↓reduceIte, Nat.reduceEqDiff, Nat.reduceAdd, Nat.reduceLeDiff, Nat.reduceLT, Int.reduceLE, Int.reduceLT, Int.reduceAdd, Int.reduceSub, Int.reduceNeg, Int.reduceBEq, Int.reduceBNe, Int.reduceEq, Int.reduceGT, Int.reduceGE, Int.reduceMul, Int.reduceToNat, Nat.reduceMul, reduceCtorEq, h24, splice_two, upd_upd, w0] <;> rfl)) | exact (rfl : app (swap _ _) _ = _)))
  refine vr_nil (aw_then ?_)
  refine AWp.seq ?_
  refine AWp.seq ?_
  (refine aw_regionL hS2 (by kernel_rfl) ?_; repeat (first | apply vr0u | apply vr4 | apply b_tt | apply b_ff | apply b_tf | apply b_ft | apply b_no | exact isD.mk rfl | (apply eqG; (simp only [push_cast, ↓reduceIte, Nat.reduceEqDiff, Nat.reduceAdd, Nat.reduceLeDiff, Nat.reduceLT, Int.reduceLE, Int.reduceLT, Int.reduceAdd, Int.reduceSub, Int.reduceNeg, Int.reduceBEq, Int.reduceBNe, Int.reduceEq, Int.reduceGT, Int.reduceGE, Int.reduceMul, Int.reduceToNat, Nat.reduceMul, reduceCtorEq, h24, splice_two, upd_upd, w0] <;> rfl)) | exact (rfl : app (swap _ _) _ = _)))
  refine vr_nil (aw_then ?_)
  refine aw_false (by (simp only [push_cast, ↓reduceIte, Nat.reduceEqDiff, Nat.reduceAdd, Nat.reduceLeDiff, Nat.reduceLT, Int.reduceLE, Int.reduceLT, Int.reduceAdd, Int.reduceSub, Int.reduceNeg, Int.reduceBEq, Int.reduceBNe, Int.reduceEq, Int.reduceGT, Int.reduceGE, Int.reduceMul, Int.reduceToNat, Nat.reduceMul, reduceCtorEq, h24, splice_two, upd_upd, w0] <;> rfl)) (AWp.skip (aw_then ?_))
  refine AWp.seq ?_
  (refine aw_regionL hS2 (by kernel_rfl) ?_; repeat (first | apply vr0u | apply vr4 | apply b_tt | apply b_ff | apply b_tf | apply b_ft | apply b_no | exact isD.mk rfl | (apply eqG; (simp only [push_cast, ↓reduceIte, Nat.reduceEqDiff, Nat.reduceAdd, Nat.reduceLeDiff, Nat.reduceLT, Int.reduceLE, Int.reduceLT, Int.reduceAdd, Int.reduceSub, Int.reduceNeg, Int.reduceBEq, Int.reduceBNe, Int.reduceEq, Int.reduceGT, Int.reduceGE, Int.reduceMul, Int.reduceToNat, Nat.reduceMul, reduceCtorEq, h24, splice_two, upd_upd, w0] <;> rfl)) | exact (rfl : app (swap _ _) _ = _)))
  refine vr_nil (aw_then ?_)
  have hbase : ∀ x r, x < n → h x = some r → upd h n (some (.cells [.i .u64 (c : Int), .i .i64 (b.length : Int)])) x = some r := keepU (Nat.le_refl _) keep0
  have B0 := ((Step.start hw F hlt).upd (j := n) (Nat.le_refl _) (fun hj => by have := hlt n hj; omega) (some (.cells [.i .u64 (c : Int), .i .i64 (b.length : Int)]))).F
  have T0 : Step (upd h n (some (.cells [.i .u64 (c : Int), .i .i64 (b.length : Int)]))) (n + 1) d w (upd h n (some (.cells [.i .u64 (c : Int), .i .i64 (b.length : Int)]))) (n + 1) w := Step.start hw B0 (fun j hj => by have := hlt j hj; omega)
  have hs1 := hbase s _ hsn hs
  have hm1 : upd h n (some (.cells [.i .u64 (c : Int), .i .i64 (b.length : Int)])) n = some (.cells [.i .u64 (c : Int), .i .i64 (b.length : Int)]) := upd_same ..
  have hnk : n ∉ (w.cont d).keys := fun hj => by have := hlt n hj; omega
  generalize hh1 : upd h n (some (.cells [.i .u64 (c : Int), .i .i64 (b.length : Int)])) = h1 at *
  clear h24 n24
  refine AWp.cut (fun t' h' n' => ∃ v, Step h1 (n + 1) d w h' n' v ∧ AreaI w v c b (nSec b) ∧ t' 0 = .p s 0 ∧ t' 5 = .p n 0) ?_ ?_
  · refine AWp.seq ?_
    (refine aw_regionL hS (by kernel_rfl) ?_; repeat (first | apply vr0u | apply vr4 | apply b_tt | apply b_ff | apply b_tf | apply b_ft | apply b_no | exact isD.mk rfl | (apply eqG; (simp only [push_cast, ↓reduceIte, Nat.reduceEqDiff, Nat.reduceAdd, Nat.reduceLeDiff, Nat.reduceLT, Int.reduceLE, Int.reduceLT, Int.reduceAdd, Int.reduceSub, Int.reduceNeg, Int.reduceBEq, Int.reduceBNe, Int.reduceEq, Int.reduceGT, Int.reduceGE, Int.reduceMul, Int.reduceToNat, Nat.reduceMul, reduceCtorEq] <;> rfl)) | exact (rfl : app (swap _ _) _ = _)))
    refine vr_nil (aw_then ?_)
    refine AWp.block ?_
    refine AWp.loop (fun mm t' h' n' => ∃ (k : Nat) (v : DW), mm = nSec b - k ∧ k ≤ nSec b ∧ Step h1 (n + 1) d w h' n' v ∧ AreaI w v c b k ∧ t' 0 = .p s 0 ∧ t' 1 = .ro z (cellsB b) b.length ∧ t' 5 = .p n 0 ∧ t' 7 = .i .i64 (k : Int)) (nSec b) ?_ ?_
    · exact ⟨0, w, rfl, Nat.zero_le _, T0, ⟨ho, rfl, hp, hns, Iff.rfl, rfl, rfl⟩, by (simp only [push_cast, ↓reduceIte, Nat.reduceEqDiff, Nat.reduceAdd, Nat.reduceLeDiff, Nat.reduceLT, Int.reduceLE, Int.reduceLT, Int.reduceAdd, Int.reduceSub, Int.reduceNeg, Int.reduceBEq, Int.reduceBNe, Int.reduceEq, Int.reduceGT, Int.reduceGE, Int.reduceMul, Int.reduceToNat, Nat.reduceMul, reduceCtorEq] <;> rfl), by (simp only [push_cast, ↓reduceIte, Nat.reduceEqDiff, Nat.reduceAdd, Nat.reduceLeDiff, Nat.reduceLT, Int.reduceLE, Int.reduceLT, Int.reduceAdd, Int.reduceSub, Int.reduceNeg, Int.reduceBEq, Int.reduceBNe, Int.reduceEq, Int.reduceGT, Int.reduceGE, Int.reduceMul, Int.reduceToNat, Nat.reduceMul, reduceCtorEq] <;> rfl), by (simp only [push_cast, ↓reduceIte, Nat.reduceEqDiff, Nat.reduceAdd, Nat.reduceLeDiff, Nat.reduceLT, Int.reduceLE, Int.reduceLT, Int.reduceAdd, Int.reduceSub, Int.reduceNeg, Int.reduceBEq, Int.reduceBNe, Int.reduceEq, Int.reduceGT, Int.reduceGE, Int.reduceMul, Int.reduceToNat, Nat.reduceMul, reduceCtorEq] <;> rfl), by (simp only [push_cast, ↓reduceIte, Nat.reduceEqDiff, Nat.reduceAdd, Nat.reduceLeDiff, Nat.reduceLT, Int.reduceLE, Int.reduceLT, Int.reduceAdd, Int.reduceSub, Int.reduceNeg, Int.reduceBEq, Int.reduceBNe, Int.reduceEq, Int.reduceGT, Int.reduceGE, Int.reduceMul, Int.reduceToNat, Nat.reduceMul, reduceCtorEq] <;> rfl)⟩
    · rintro mm t' h' n' - ⟨k, v, rfl, hkn, S, I, t0, t1, t5, t7⟩
      have wk : IntKind.wrap .i64 ((k : Int) * 64) = (k : Int) * 64 := IntWalk.i64_in _ (by unfold nSec at hkn; omega)
      have w1 : IntKind.wrap .i64 ((k : Int) + 1) = (k : Int) + 1 := IntWalk.i64_in _ (by unfold nSec at hkn; omega)
      have hs' := S.fr s _ (by omega) hs1 hsk
      have hm' := S.fr n _ (by omega) hm1 hnk
      have nn := S.le
      by_cases hk : 64 * k < b.length
      · have hk62 : k ≤ 62 := by omega
        have q1 : ((k : Int) * 64 < (b.length : Int)) = True := by simp only [eq_iff_iff, iff_true]; omega
        have qm : ((0 : Int) ≤ 64) = True := by simp
        have q2 : (0 ≤ (k : Int) * 64 ∧ (k : Int) * 64 ≤ (b.length : Int)) = True := by simp only [eq_iff_iff, iff_true]; omega
        have q3 : ((k : Int) * 64).toNat = 64 * k := by omega
        obtain ⟨b', hb'⟩ : ∃ b', b' = b.drop (64 * k) := ⟨_, rfl⟩
        have el : b.length - 64 * k = b'.length := by rw [hb', List.length_drop]
        have q4 : List.take b'.length (List.drop (64 * k) (cellsB b)) = cellsB b' := by
          rw [show List.drop (64 * k) (cellsB b) = cellsB b' from by rw [hb']; exact (List.map_drop ..).symm]
          exact take_cellsB b'
        have qa : (64 ≤ (cellsB (List.replicate 64 0)).length) = True := by simp [cellsB]
        have qb : (b'.length ≤ (cellsB b').length) = True := by simp [cellsB]
        have qc := take_cellsB b'
        have qd := sector_cells b'
        have qe : (0 + 64 ≤ (cellsB (List.replicate 64 0)).length) = True := by simp [cellsB]
        refine AWp.seq ?_
        refine AWp.seq ?_
        (refine aw_regionL hS (by kernel_rfl) ?_; repeat (first | apply vr0u | apply vr4 | apply b_tt | apply b_ff | apply b_tf | apply b_ft | apply b_no | exact isD.mk rfl | (apply eqG; (simp only [push_cast, ↓reduceIte, Nat.reduceEqDiff, Nat.reduceAdd, Nat.reduceLeDiff, Nat.reduceLT, Int.reduceLE, Int.reduceLT, Int.reduceAdd, Int.reduceSub, Int.reduceNeg, Int.reduceBEq, Int.reduceBNe, Int.reduceEq, Int.reduceGT, Int.reduceGE, Int.reduceMul, Int.reduceToNat, Nat.reduceMul, reduceCtorEq, t0, t1, t5, t7, q1, wk, rep64, qm, q2, q3, q4, el, qa, qb, qc, qd, qe, acopy, upd_upd] <;> rfl)) | exact (rfl : app (swap _ _) _ = _)))
        refine vr_nil (aw_then ?_)
        refine aw_true (by (simp only [push_cast, ↓reduceIte, Nat.reduceEqDiff, Nat.reduceAdd, Nat.reduceLeDiff, Nat.reduceLT, Int.reduceLE, Int.reduceLT, Int.reduceAdd, Int.reduceSub, Int.reduceNeg, Int.reduceBEq, Int.reduceBNe, Int.reduceEq, Int.reduceGT, Int.reduceGE, Int.reduceMul, Int.reduceToNat, Nat.reduceMul, reduceCtorEq, t0, t1, t5, t7, q1, wk, rep64, qm, q2, q3, q4, el, qa, qb, qc, qd, qe, acopy, upd_upd] <;> rfl)) (AWp.skip (aw_then ?_))
        refine AWp.seq ?_
        refine AWp.block ?_
        refine AWp.seq ?_
        (refine aw_regionL hS (by kernel_rfl) ?_; repeat (first | apply vr0u | apply vr4 | apply b_tt | apply b_ff | apply b_tf | apply b_ft | apply b_no | exact isD.mk rfl | (apply eqG; (simp only [push_cast, ↓reduceIte, Nat.reduceEqDiff, Nat.reduceAdd, Nat.reduceLeDiff, Nat.reduceLT, Int.reduceLE, Int.reduceLT, Int.reduceAdd, Int.reduceSub, Int.reduceNeg, Int.reduceBEq, Int.reduceBNe, Int.reduceEq, Int.reduceGT, Int.reduceGE, Int.reduceMul, Int.reduceToNat, Nat.reduceMul, reduceCtorEq, t0, t1, t5, t7, q1, wk, rep64, qm, q2, q3, q4, el, qa, qb, qc, qd, qe, acopy, upd_upd] <;> rfl)) | exact (rfl : app (swap _ _) _ = _)))
        refine vr_nil (aw_then ?_)
        refine AWp.seq ?_
        (refine aw_regionL hS (by kernel_rfl) ?_; repeat (first | apply vr0u | apply vr4 | apply b_tt | apply b_ff | apply b_tf | apply b_ft | apply b_no | exact isD.mk rfl | (apply eqG; (simp only [push_cast, ↓reduceIte, Nat.reduceEqDiff, Nat.reduceAdd, Nat.reduceLeDiff, Nat.reduceLT, Int.reduceLE, Int.reduceLT, Int.reduceAdd, Int.reduceSub, Int.reduceNeg, Int.reduceBEq, Int.reduceBNe, Int.reduceEq, Int.reduceGT, Int.reduceGE, Int.reduceMul, Int.reduceToNat, Nat.reduceMul, reduceCtorEq, t0, t1, t5, t7, q1, wk, rep64, qm, q2, q3, q4, el, qa, qb, qc, qd, qe, acopy, upd_upd] <;> rfl)) | exact (rfl : app (swap _ _) _ = _)))
        refine vr_nil (aw_then ?_)
        have S1 : Step h1 (n + 1) d w (Av.upd h' n' (some (.cells (cellsB (sectorB b'))))) (n' + 1) v := (S.upd nn S.new _).more (Nat.le_succ _)
        have A1 := S1.at
        have hpl : placeN c k < 150 := by unfold placeN; omega
        have hpp : v.pend.length = k := by rw [I.pend, areaW_len]
        have T := A1.tWrite (placeN c k : Int) (sectorB b')
        have S2 := S1.turn T
        have Tle := T.le
        obtain ⟨S3, hS3, h34, n34, -⟩ := sum_pure hS (c34 c k (by omega) (by omega))
        obtain ⟨S4, hS4, h36, n36⟩ := sum_here hS3 (A1.s8 (by omega) (placeN c k : Int) (x := .sl 1 n' 0 64) (b := sectorB b') (.inr (.inr ⟨n', by rw [sectorB_len], upd_same .., S.new⟩)))
        have ea : ({ data := #[97, 110, 32, 97, 114, 101, 97] } : ByteArray) = anArea := rfl
        rcases write_cases (w := v) (m := n' + 1) (i := placeN c k) (b := sectorB b') I.off (by rw [I.safe]; omega) (sectorB_len _) with ⟨e1, e2, e3, e4, e5, e6, f1, f2⟩ | ⟨e1, e2, e3, kp, tn, e4⟩
        · obtain ⟨S5, hS5, h31, n31, -⟩ := sum_pure hS4 (c31 anArea)
          have h34 : ∀ g, S5 34 [.i .u64 (c : Int), .i .i64 (k : Int)] g = .pure (.i .i64 (placeN c k : Int)) := fun g => by rw [n31 34 (by decide), n36 34 (by decide)]; exact h34 g
          have h36 : S5 36 [.p d 0, .i .i64 (placeN c k : Int), .sl 1 n' 0 64] (Av.upd h' n' (some (.cells (cellsB (sectorB b'))))) = .wide fun j => (.i .i64 (v.write j (placeN c k : Int) (sectorB b')).1, swap (v.cont d) ((v.write j (placeN c k : Int) (sectorB b')).2.1.cont d), (v.write j (placeN c k : Int) (sectorB b')).2.2) := by rw [n31 36 (by decide)]; exact h36
          have u1 : ∀ (g : Heap) (r : Option Row), Av.upd g n' r s = g s := fun g r => upd_ne _ _ (by omega)
          have u2 : ∀ (g : Heap) (r : Option Row), Av.upd g n' r n = g n := fun g r => upd_ne _ _ (by omega)
          refine AWp.seq ?_
          refine aw_drawsL [0, 1, 3, 7, 0, 16, 0, 112, 0, 511, 1023, 2047] [9] hS5 mixed (by kernel_rfl) (by kernel_rfl) ?_
          repeat (first | (refine vd0f (by decide) (by ((repeat (first | rewrite [hpL_t rfl] | rewrite [hpL_f rfl])); (simp only [hpL, app_cons, app_nil] <;> rfl))) (by (simp only [push_cast, ↓reduceIte, Nat.reduceEqDiff, Nat.reduceAdd, Nat.reduceLeDiff, Nat.reduceLT, Int.reduceLE, Int.reduceLT, Int.reduceAdd, Int.reduceSub, Int.reduceNeg, Int.reduceBEq, Int.reduceBNe, Int.reduceEq, Int.reduceGT, Int.reduceGE, Int.reduceMul, Int.reduceToNat, Nat.reduceMul, reduceCtorEq, t0, t1, t5, t7, hs', hm', u1, u2, h34, h36, h31, ea, e1, isK, w1] <;> rfl)) ?_) | (refine vd0q rfl (by decide) rfl (by ((repeat (first | rewrite [hpL_t rfl] | rewrite [hpL_f rfl])); (simp only [hpL, app_cons, app_nil] <;> rfl))) (by (simp only [push_cast, ↓reduceIte, Nat.reduceEqDiff, Nat.reduceAdd, Nat.reduceLeDiff, Nat.reduceLT, Int.reduceLE, Int.reduceLT, Int.reduceAdd, Int.reduceSub, Int.reduceNeg, Int.reduceBEq, Int.reduceBNe, Int.reduceEq, Int.reduceGT, Int.reduceGE, Int.reduceMul, Int.reduceToNat, Nat.reduceMul, reduceCtorEq, t0, t1, t5, t7, hs', hm', u1, u2, h34, h36, h31, ea, e1, isK, w1] <;> rfl)) (by simp) (by omega) (by intro u hu; simp only [List.mem_cons, List.not_mem_nil, or_false] at hu; rcases hu with rfl | rfl | rfl <;> simp only <;> omega) ?_) | (refine vd0w rfl (by decide) (by ((repeat (first | rewrite [hpL_t rfl] | rewrite [hpL_f rfl])); (simp only [hpL, app_cons, app_nil] <;> rfl))) (by (simp only [push_cast, ↓reduceIte, Nat.reduceEqDiff, Nat.reduceAdd, Nat.reduceLeDiff, Nat.reduceLT, Int.reduceLE, Int.reduceLT, Int.reduceAdd, Int.reduceSub, Int.reduceNeg, Int.reduceBEq, Int.reduceBNe, Int.reduceEq, Int.reduceGT, Int.reduceGE, Int.reduceMul, Int.reduceToNat, Nat.reduceMul, reduceCtorEq, t0, t1, t5, t7, hs', hm', u1, u2, h34, h36, h31, ea, e1, isK, w1] <;> rfl)) (by omega) (by intro u hu; simp only [List.mem_cons, List.not_mem_nil, or_false] at hu; rcases hu with rfl | rfl | rfl <;> simp only <;> omega) ?_) | (apply vd0; (focus rfl)) | (apply vd0r; (focus rfl); (focus decide); (focus rfl)) | (apply vd0p; (focus decide)) | apply vd4 | apply b_tt | apply b_ff | apply b_tf | apply b_ft | apply b_no | exact isD.mk rfl | ((repeat (first | rewrite [hpL_t rfl] | rewrite [hpL_f rfl])); (simp only [hpL, app_cons, app_nil] <;> rfl)) | (apply eqG; (simp only [push_cast, ↓reduceIte, Nat.reduceEqDiff, Nat.reduceAdd, Nat.reduceLeDiff, Nat.reduceLT, Int.reduceLE, Int.reduceLT, Int.reduceAdd, Int.reduceSub, Int.reduceNeg, Int.reduceBEq, Int.reduceBNe, Int.reduceEq, Int.reduceGT, Int.reduceGE, Int.reduceMul, Int.reduceToNat, Nat.reduceMul, reduceCtorEq, t0, t1, t5, t7, hs', hm', u1, u2, h34, h36, h31, ea, e1, isK, w1] <;> rfl)))
          refine vd0w rfl (by decide) (by ((repeat (first | rewrite [hpL_t rfl] | rewrite [hpL_f rfl])); (simp only [hpL, app_cons, app_nil] <;> rfl))) (by (simp only [push_cast, ↓reduceIte, Nat.reduceEqDiff, Nat.reduceAdd, Nat.reduceLeDiff, Nat.reduceLT, Int.reduceLE, Int.reduceLT, Int.reduceAdd, Int.reduceSub, Int.reduceNeg, Int.reduceBEq, Int.reduceBNe, Int.reduceEq, Int.reduceGT, Int.reduceGE, Int.reduceMul, Int.reduceToNat, Nat.reduceMul, reduceCtorEq, t0, t1, t5, t7, hs', hm', u1, u2, h34, h36, h31, ea, e1, isK, w1] <;> rfl)) (by omega) (swap_lt (fun j hj => by have := (S1.key j hj).1; omega) (fun j hj => (S2.key j hj).1)) ?_
          repeat (first | (refine vd0f (by decide) (by ((repeat (first | rewrite [hpL_t rfl] | rewrite [hpL_f rfl])); (simp only [hpL, app_cons, app_nil] <;> rfl))) (by (simp only [push_cast, ↓reduceIte, Nat.reduceEqDiff, Nat.reduceAdd, Nat.reduceLeDiff, Nat.reduceLT, Int.reduceLE, Int.reduceLT, Int.reduceAdd, Int.reduceSub, Int.reduceNeg, Int.reduceBEq, Int.reduceBNe, Int.reduceEq, Int.reduceGT, Int.reduceGE, Int.reduceMul, Int.reduceToNat, Nat.reduceMul, reduceCtorEq, t0, t1, t5, t7, hs', hm', u1, u2, h34, h36, h31, ea, e1, isK, w1] <;> rfl)) ?_) | (refine vd0q rfl (by decide) rfl (by ((repeat (first | rewrite [hpL_t rfl] | rewrite [hpL_f rfl])); (simp only [hpL, app_cons, app_nil] <;> rfl))) (by (simp only [push_cast, ↓reduceIte, Nat.reduceEqDiff, Nat.reduceAdd, Nat.reduceLeDiff, Nat.reduceLT, Int.reduceLE, Int.reduceLT, Int.reduceAdd, Int.reduceSub, Int.reduceNeg, Int.reduceBEq, Int.reduceBNe, Int.reduceEq, Int.reduceGT, Int.reduceGE, Int.reduceMul, Int.reduceToNat, Nat.reduceMul, reduceCtorEq, t0, t1, t5, t7, hs', hm', u1, u2, h34, h36, h31, ea, e1, isK, w1] <;> rfl)) (by simp) (by omega) (by intro u hu; simp only [List.mem_cons, List.not_mem_nil, or_false] at hu; rcases hu with rfl | rfl | rfl <;> simp only <;> omega) ?_) | (refine vd0w rfl (by decide) (by ((repeat (first | rewrite [hpL_t rfl] | rewrite [hpL_f rfl])); (simp only [hpL, app_cons, app_nil] <;> rfl))) (by (simp only [push_cast, ↓reduceIte, Nat.reduceEqDiff, Nat.reduceAdd, Nat.reduceLeDiff, Nat.reduceLT, Int.reduceLE, Int.reduceLT, Int.reduceAdd, Int.reduceSub, Int.reduceNeg, Int.reduceBEq, Int.reduceBNe, Int.reduceEq, Int.reduceGT, Int.reduceGE, Int.reduceMul, Int.reduceToNat, Nat.reduceMul, reduceCtorEq, t0, t1, t5, t7, hs', hm', u1, u2, h34, h36, h31, ea, e1, isK, w1] <;> rfl)) (by omega) (by intro u hu; simp only [List.mem_cons, List.not_mem_nil, or_false] at hu; rcases hu with rfl | rfl | rfl <;> simp only <;> omega) ?_) | (apply vd0; (focus rfl)) | (apply vd0r; (focus rfl); (focus decide); (focus rfl)) | (apply vd0p; (focus decide)) | apply vd4 | apply b_tt | apply b_ff | apply b_tf | apply b_ft | apply b_no | exact isD.mk rfl | ((repeat (first | rewrite [hpL_t rfl] | rewrite [hpL_f rfl])); (simp only [hpL, app_cons, app_nil] <;> rfl)) | (apply eqG; (simp only [push_cast, ↓reduceIte, Nat.reduceEqDiff, Nat.reduceAdd, Nat.reduceLeDiff, Nat.reduceLT, Int.reduceLE, Int.reduceLT, Int.reduceAdd, Int.reduceSub, Int.reduceNeg, Int.reduceBEq, Int.reduceBNe, Int.reduceEq, Int.reduceGT, Int.reduceGE, Int.reduceMul, Int.reduceToNat, Nat.reduceMul, reduceCtorEq, t0, t1, t5, t7, hs', hm', u1, u2, h34, h36, h31, ea, e1, isK, w1] <;> rfl)))
          (refine vd_nil (by simp only [hpL, app_cons, app_nil, if_true] <;> rfl) ?_)
          refine aw_then ?_
          refine AWp.seq ?_
          refine aw_regionL hS5 (by kernel_rfl) ?_; repeat (first | apply vr0u | apply vr4 | apply b_tt | apply b_ff | apply b_tf | apply b_ft | apply b_no | exact isD.mk rfl | (apply eqG; (simp only [push_cast, ↓reduceIte, Nat.reduceEqDiff, Nat.reduceAdd, Nat.reduceLeDiff, Nat.reduceLT, Int.reduceLE, Int.reduceLT, Int.reduceAdd, Int.reduceSub, Int.reduceNeg, Int.reduceBEq, Int.reduceBNe, Int.reduceEq, Int.reduceGT, Int.reduceGE, Int.reduceMul, Int.reduceToNat, Nat.reduceMul, reduceCtorEq, t0, t1, t5, t7, hs', hm', u1, u2, h34, h36, h31, ea, e1, isK, w1] <;> rfl)) | exact (rfl : app (swap _ _) _ = _))
          refine vr_nil (aw_then ?_)
          refine aw_false (by (simp only [push_cast, ↓reduceIte, Nat.reduceEqDiff, Nat.reduceAdd, Nat.reduceLeDiff, Nat.reduceLT, Int.reduceLE, Int.reduceLT, Int.reduceAdd, Int.reduceSub, Int.reduceNeg, Int.reduceBEq, Int.reduceBNe, Int.reduceEq, Int.reduceGT, Int.reduceGE, Int.reduceMul, Int.reduceToNat, Nat.reduceMul, reduceCtorEq, t0, t1, t5, t7, hs', hm', u1, u2, h34, h36, h31, ea, e1, isK, w1] <;> rfl)) (AWp.skip (aw_in (aw_then ?_)))
          refine aw_regionL hS5 (by kernel_rfl) ?_; repeat (first | apply vr0u | apply vr4 | apply b_tt | apply b_ff | apply b_tf | apply b_ft | apply b_no | exact isD.mk rfl | (apply eqG; (simp only [push_cast, ↓reduceIte, Nat.reduceEqDiff, Nat.reduceAdd, Nat.reduceLeDiff, Nat.reduceLT, Int.reduceLE, Int.reduceLT, Int.reduceAdd, Int.reduceSub, Int.reduceNeg, Int.reduceBEq, Int.reduceBNe, Int.reduceEq, Int.reduceGT, Int.reduceGE, Int.reduceMul, Int.reduceToNat, Nat.reduceMul, reduceCtorEq, t0, t1, t5, t7, hs', hm', u1, u2, h34, h36, h31, ea, e1, isK, w1] <;> rfl)) | exact (rfl : app (swap _ _) _ = _))
          have I2 : AreaI w (v.write (n' + 1) (placeN c k : Int) (sectorB b')).2.1 c b (k + 1) := ⟨e2, by rw [e3, I.safe], by rw [e4, I.pend, areaW_succ, hb'], by rw [e5, I.now, areaN_succ, hb'], e6.trans I.trip, f1.trans I.js, f2.trans I.jn⟩
          exact vr_nil (aw_then ⟨nSec b - (k + 1), by unfold nSec at *; omega, k + 1, _, rfl, by unfold nSec at *; omega, S2, I2, by (simp only [push_cast, ↓reduceIte, Nat.reduceEqDiff, Nat.reduceAdd, Nat.reduceLeDiff, Nat.reduceLT, Int.reduceLE, Int.reduceLT, Int.reduceAdd, Int.reduceSub, Int.reduceNeg, Int.reduceBEq, Int.reduceBNe, Int.reduceEq, Int.reduceGT, Int.reduceGE, Int.reduceMul, Int.reduceToNat, Nat.reduceMul, reduceCtorEq, t0, t1, t5, t7, hs', hm', u1, u2, h34, h36, h31, ea, e1, isK, w1] <;> rfl), by (simp only [push_cast, ↓reduceIte, Nat.reduceEqDiff, Nat.reduceAdd, Nat.reduceLeDiff, Nat.reduceLT, Int.reduceLE, Int.reduceLT, Int.reduceAdd, Int.reduceSub, Int.reduceNeg, Int.reduceBEq, Int.reduceBNe, Int.reduceEq, Int.reduceGT, Int.reduceGE, Int.reduceMul, Int.reduceToNat, Nat.reduceMul, reduceCtorEq, t0, t1, t5, t7, hs', hm', u1, u2, h34, h36, h31, ea, e1, isK, w1] <;> rfl), by (simp only [push_cast, ↓reduceIte, Nat.reduceEqDiff, Nat.reduceAdd, Nat.reduceLeDiff, Nat.reduceLT, Int.reduceLE, Int.reduceLT, Int.reduceAdd, Int.reduceSub, Int.reduceNeg, Int.reduceBEq, Int.reduceBNe, Int.reduceEq, Int.reduceGT, Int.reduceGE, Int.reduceMul, Int.reduceToNat, Nat.reduceMul, reduceCtorEq, t0, t1, t5, t7, hs', hm', u1, u2, h34, h36, h31, ea, e1, isK, w1] <;> rfl), by (simp only [push_cast, ↓reduceIte, Nat.reduceEqDiff, Nat.reduceAdd, Nat.reduceLeDiff, Nat.reduceLT, Int.reduceLE, Int.reduceLT, Int.reduceAdd, Int.reduceSub, Int.reduceNeg, Int.reduceBEq, Int.reduceBNe, Int.reduceEq, Int.reduceGT, Int.reduceGE, Int.reduceMul, Int.reduceToNat, Nat.reduceMul, reduceCtorEq, t0, t1, t5, t7, hs', hm', u1, u2, h34, h36, h31, ea, e1, isK, w1] <;> rfl)⟩)
        · obtain ⟨S5, hS5, h31, n31⟩ := sum_here hS4 (f := 31) (args := [.s anArea, .i .i64 14]) (g := app (swap (v.cont d) ((v.write (n' + 1) (placeN c k : Int) (sectorB b')).2.1.cont d)) (Av.upd h' n' (some (.cells (cellsB (sectorB b')))))) (r := .wide fun m => (.ifc 89 (.p m 0), swap [] [(m, trb anArea 14)], m + 1)) (fun m => c31e anArea (by decide) m)
          have h34 : ∀ g, S5 34 [.i .u64 (c : Int), .i .i64 (k : Int)] g = .pure (.i .i64 (placeN c k : Int)) := fun g => by rw [n31 34 (by decide), n36 34 (by decide)]; exact h34 g
          have h36 : S5 36 [.p d 0, .i .i64 (placeN c k : Int), .sl 1 n' 0 64] (Av.upd h' n' (some (.cells (cellsB (sectorB b'))))) = .wide fun j => (.i .i64 (v.write j (placeN c k : Int) (sectorB b')).1, swap (v.cont d) ((v.write j (placeN c k : Int) (sectorB b')).2.1.cont d), (v.write j (placeN c k : Int) (sectorB b')).2.2) := by rw [n31 36 (by decide)]; exact h36
          have u1 : ∀ (g : Heap) (r : Option Row), Av.upd g n' r s = g s := fun g r => upd_ne _ _ (by omega)
          have u2 : ∀ (g : Heap) (r : Option Row), Av.upd g n' r n = g n := fun g r => upd_ne _ _ (by omega)
          refine AWp.seq ?_
          refine aw_drawsL [0, 1, 3, 7, 0, 16, 0, 112, 0, 511, 1023, 2047] [9, 10] hS5 mixed (by kernel_rfl) (by kernel_rfl) ?_
          repeat (first | (refine vd0f (by decide) (by ((repeat (first | rewrite [hpL_t rfl] | rewrite [hpL_f rfl])); (simp only [hpL, app_cons, app_nil] <;> rfl))) (by (simp only [push_cast, ↓reduceIte, Nat.reduceEqDiff, Nat.reduceAdd, Nat.reduceLeDiff, Nat.reduceLT, Int.reduceLE, Int.reduceLT, Int.reduceAdd, Int.reduceSub, Int.reduceNeg, Int.reduceBEq, Int.reduceBNe, Int.reduceEq, Int.reduceGT, Int.reduceGE, Int.reduceMul, Int.reduceToNat, Nat.reduceMul, reduceCtorEq, t0, t1, t5, t7, hs', hm', u1, u2, h34, h36, h31, ea, e1, isK, w1] <;> rfl)) ?_) | (refine vd0q rfl (by decide) rfl (by ((repeat (first | rewrite [hpL_t rfl] | rewrite [hpL_f rfl])); (simp only [hpL, app_cons, app_nil] <;> rfl))) (by (simp only [push_cast, ↓reduceIte, Nat.reduceEqDiff, Nat.reduceAdd, Nat.reduceLeDiff, Nat.reduceLT, Int.reduceLE, Int.reduceLT, Int.reduceAdd, Int.reduceSub, Int.reduceNeg, Int.reduceBEq, Int.reduceBNe, Int.reduceEq, Int.reduceGT, Int.reduceGE, Int.reduceMul, Int.reduceToNat, Nat.reduceMul, reduceCtorEq, t0, t1, t5, t7, hs', hm', u1, u2, h34, h36, h31, ea, e1, isK, w1] <;> rfl)) (by simp) (by omega) (by intro u hu; simp only [List.mem_cons, List.not_mem_nil, or_false] at hu; rcases hu with rfl | rfl | rfl <;> simp only <;> omega) ?_) | (refine vd0w rfl (by decide) (by ((repeat (first | rewrite [hpL_t rfl] | rewrite [hpL_f rfl])); (simp only [hpL, app_cons, app_nil] <;> rfl))) (by (simp only [push_cast, ↓reduceIte, Nat.reduceEqDiff, Nat.reduceAdd, Nat.reduceLeDiff, Nat.reduceLT, Int.reduceLE, Int.reduceLT, Int.reduceAdd, Int.reduceSub, Int.reduceNeg, Int.reduceBEq, Int.reduceBNe, Int.reduceEq, Int.reduceGT, Int.reduceGE, Int.reduceMul, Int.reduceToNat, Nat.reduceMul, reduceCtorEq, t0, t1, t5, t7, hs', hm', u1, u2, h34, h36, h31, ea, e1, isK, w1] <;> rfl)) (by omega) (by intro u hu; simp only [List.mem_cons, List.not_mem_nil, or_false] at hu; rcases hu with rfl | rfl | rfl <;> simp only <;> omega) ?_) | (apply vd0; (focus rfl)) | (apply vd0r; (focus rfl); (focus decide); (focus rfl)) | (apply vd0p; (focus decide)) | apply vd4 | apply b_tt | apply b_ff | apply b_tf | apply b_ft | apply b_no | exact isD.mk rfl | ((repeat (first | rewrite [hpL_t rfl] | rewrite [hpL_f rfl])); (simp only [hpL, app_cons, app_nil] <;> rfl)) | (apply eqG; (simp only [push_cast, ↓reduceIte, Nat.reduceEqDiff, Nat.reduceAdd, Nat.reduceLeDiff, Nat.reduceLT, Int.reduceLE, Int.reduceLT, Int.reduceAdd, Int.reduceSub, Int.reduceNeg, Int.reduceBEq, Int.reduceBNe, Int.reduceEq, Int.reduceGT, Int.reduceGE, Int.reduceMul, Int.reduceToNat, Nat.reduceMul, reduceCtorEq, t0, t1, t5, t7, hs', hm', u1, u2, h34, h36, h31, ea, e1, isK, w1] <;> rfl)))
          refine vd0w rfl (by decide) (by ((repeat (first | rewrite [hpL_t rfl] | rewrite [hpL_f rfl])); (simp only [hpL, app_cons, app_nil] <;> rfl))) (by (simp only [push_cast, ↓reduceIte, Nat.reduceEqDiff, Nat.reduceAdd, Nat.reduceLeDiff, Nat.reduceLT, Int.reduceLE, Int.reduceLT, Int.reduceAdd, Int.reduceSub, Int.reduceNeg, Int.reduceBEq, Int.reduceBNe, Int.reduceEq, Int.reduceGT, Int.reduceGE, Int.reduceMul, Int.reduceToNat, Nat.reduceMul, reduceCtorEq, t0, t1, t5, t7, hs', hm', u1, u2, h34, h36, h31, ea, e1, isK, w1] <;> rfl)) (by omega) (swap_lt (fun j hj => by have := (S1.key j hj).1; omega) (fun j hj => (S2.key j hj).1)) ?_
          refine vd0w rfl (by decide) (by ((repeat (first | rewrite [hpL_t rfl] | rewrite [hpL_f rfl])); (simp only [hpL, app_cons, app_nil] <;> rfl))) (by (simp only [push_cast, ↓reduceIte, Nat.reduceEqDiff, Nat.reduceAdd, Nat.reduceLeDiff, Nat.reduceLT, Int.reduceLE, Int.reduceLT, Int.reduceAdd, Int.reduceSub, Int.reduceNeg, Int.reduceBEq, Int.reduceBNe, Int.reduceEq, Int.reduceGT, Int.reduceGE, Int.reduceMul, Int.reduceToNat, Nat.reduceMul, reduceCtorEq, t0, t1, t5, t7, hs', hm', u1, u2, h34, h36, h31, ea, e1, isK, w1] <;> rfl)) (by omega) (swap_lt (fun j hj => by simp [Lst.keys] at hj) (fun j hj => by simp [Lst.keys] at hj; omega)) ?_
          repeat (first | (refine vd0f (by decide) (by ((repeat (first | rewrite [hpL_t rfl] | rewrite [hpL_f rfl])); (simp only [hpL, app_cons, app_nil] <;> rfl))) (by (simp only [push_cast, ↓reduceIte, Nat.reduceEqDiff, Nat.reduceAdd, Nat.reduceLeDiff, Nat.reduceLT, Int.reduceLE, Int.reduceLT, Int.reduceAdd, Int.reduceSub, Int.reduceNeg, Int.reduceBEq, Int.reduceBNe, Int.reduceEq, Int.reduceGT, Int.reduceGE, Int.reduceMul, Int.reduceToNat, Nat.reduceMul, reduceCtorEq, t0, t1, t5, t7, hs', hm', u1, u2, h34, h36, h31, ea, e1, isK, w1] <;> rfl)) ?_) | (refine vd0q rfl (by decide) rfl (by ((repeat (first | rewrite [hpL_t rfl] | rewrite [hpL_f rfl])); (simp only [hpL, app_cons, app_nil] <;> rfl))) (by (simp only [push_cast, ↓reduceIte, Nat.reduceEqDiff, Nat.reduceAdd, Nat.reduceLeDiff, Nat.reduceLT, Int.reduceLE, Int.reduceLT, Int.reduceAdd, Int.reduceSub, Int.reduceNeg, Int.reduceBEq, Int.reduceBNe, Int.reduceEq, Int.reduceGT, Int.reduceGE, Int.reduceMul, Int.reduceToNat, Nat.reduceMul, reduceCtorEq, t0, t1, t5, t7, hs', hm', u1, u2, h34, h36, h31, ea, e1, isK, w1] <;> rfl)) (by simp) (by omega) (by intro u hu; simp only [List.mem_cons, List.not_mem_nil, or_false] at hu; rcases hu with rfl | rfl | rfl <;> simp only <;> omega) ?_) | (refine vd0w rfl (by decide) (by ((repeat (first | rewrite [hpL_t rfl] | rewrite [hpL_f rfl])); (simp only [hpL, app_cons, app_nil] <;> rfl))) (by (simp only [push_cast, ↓reduceIte, Nat.reduceEqDiff, Nat.reduceAdd, Nat.reduceLeDiff, Nat.reduceLT, Int.reduceLE, Int.reduceLT, Int.reduceAdd, Int.reduceSub, Int.reduceNeg, Int.reduceBEq, Int.reduceBNe, Int.reduceEq, Int.reduceGT, Int.reduceGE, Int.reduceMul, Int.reduceToNat, Nat.reduceMul, reduceCtorEq, t0, t1, t5, t7, hs', hm', u1, u2, h34, h36, h31, ea, e1, isK, w1] <;> rfl)) (by omega) (by intro u hu; simp only [List.mem_cons, List.not_mem_nil, or_false] at hu; rcases hu with rfl | rfl | rfl <;> simp only <;> omega) ?_) | (apply vd0; (focus rfl)) | (apply vd0r; (focus rfl); (focus decide); (focus rfl)) | (apply vd0p; (focus decide)) | apply vd4 | apply b_tt | apply b_ff | apply b_tf | apply b_ft | apply b_no | exact isD.mk rfl | ((repeat (first | rewrite [hpL_t rfl] | rewrite [hpL_f rfl])); (simp only [hpL, app_cons, app_nil] <;> rfl)) | (apply eqG; (simp only [push_cast, ↓reduceIte, Nat.reduceEqDiff, Nat.reduceAdd, Nat.reduceLeDiff, Nat.reduceLT, Int.reduceLE, Int.reduceLT, Int.reduceAdd, Int.reduceSub, Int.reduceNeg, Int.reduceBEq, Int.reduceBNe, Int.reduceEq, Int.reduceGT, Int.reduceGE, Int.reduceMul, Int.reduceToNat, Nat.reduceMul, reduceCtorEq, t0, t1, t5, t7, hs', hm', u1, u2, h34, h36, h31, ea, e1, isK, w1] <;> rfl)))
          (refine vd_nil (by simp only [hpL, app_cons, app_nil, if_true] <;> rfl) ?_)
          refine aw_then ?_
          refine AWp.seq ?_
          refine aw_regionL hS5 (by kernel_rfl) ?_; repeat (first | apply vr0u | apply vr4 | apply b_tt | apply b_ff | apply b_tf | apply b_ft | apply b_no | exact isD.mk rfl | (apply eqG; (simp only [push_cast, ↓reduceIte, Nat.reduceEqDiff, Nat.reduceAdd, Nat.reduceLeDiff, Nat.reduceLT, Int.reduceLE, Int.reduceLT, Int.reduceAdd, Int.reduceSub, Int.reduceNeg, Int.reduceBEq, Int.reduceBNe, Int.reduceEq, Int.reduceGT, Int.reduceGE, Int.reduceMul, Int.reduceToNat, Nat.reduceMul, reduceCtorEq, t0, t1, t5, t7, hs', hm', u1, u2, h34, h36, h31, ea, e1, isK, w1] <;> rfl)) | exact (rfl : app (swap _ _) _ = _))
          refine vr_nil (aw_then ?_)
          refine aw_true (by (simp only [push_cast, ↓reduceIte, Nat.reduceEqDiff, Nat.reduceAdd, Nat.reduceLeDiff, Nat.reduceLT, Int.reduceLE, Int.reduceLT, Int.reduceAdd, Int.reduceSub, Int.reduceNeg, Int.reduceBEq, Int.reduceBNe, Int.reduceEq, Int.reduceGT, Int.reduceGE, Int.reduceMul, Int.reduceToNat, Nat.reduceMul, reduceCtorEq, t0, t1, t5, t7, hs', hm', u1, u2, h34, h36, h31, ea, e1, isK, w1] <;> rfl)) ?_
          refine AWp.seq ?_
          refine aw_regionL hS5 (by kernel_rfl) ?_; repeat (first | apply vr0u | apply vr4 | apply b_tt | apply b_ff | apply b_tf | apply b_ft | apply b_no | exact isD.mk rfl | (apply eqG; (simp only [push_cast, ↓reduceIte, Nat.reduceEqDiff, Nat.reduceAdd, Nat.reduceLeDiff, Nat.reduceLT, Int.reduceLE, Int.reduceLT, Int.reduceAdd, Int.reduceSub, Int.reduceNeg, Int.reduceBEq, Int.reduceBNe, Int.reduceEq, Int.reduceGT, Int.reduceGE, Int.reduceMul, Int.reduceToNat, Nat.reduceMul, reduceCtorEq, t0, t1, t5, t7, hs', hm', u1, u2, h34, h36, h31, ea, e1, isK, w1] <;> rfl)) | exact (rfl : app (swap _ _) _ = _))
          refine vr_nil (aw_then ?_)
          refine AWp.ret ?_
          have G2 : Gone w (v.write (n' + 1) (placeN c k : Int) (sectorB b')).2.1 c b := ⟨e3, fun hc => e2 (I.trip.2 hc), kp, tn, .inl ⟨k + 1, by unfold nSec at *; omega, by rw [e4, I.pend, I.safe, areaW_succ, hb', areaW_len]⟩⟩
          exact ⟨.inr rfl, [.ifc 89 (.p _ 0)], by simp [Tryd.f27, resAll, resT]; (simp only [push_cast, ↓reduceIte, Nat.reduceEqDiff, Nat.reduceAdd, Nat.reduceLeDiff, Nat.reduceLT, Int.reduceLE, Int.reduceLT, Int.reduceAdd, Int.reduceSub, Int.reduceNeg, Int.reduceBEq, Int.reduceBNe, Int.reduceEq, Int.reduceGT, Int.reduceGE, Int.reduceMul, Int.reduceToNat, Nat.reduceMul, reduceCtorEq, t0, t1, t5, t7, hs', hm', u1, u2, h34, h36, h31, ea, e1, isK, w1] <;> rfl), Or.inr ⟨_, _, anArea, rfl, upd_same .., ((S2.upd (j := (v.write (n' + 1) (placeN c k : Int) (sectorB b')).2.2) (by omega) S2.new _).more (Nat.le_succ _)).lower (Nat.le_succ n) hbase, G2⟩⟩
      · have q1 : ((k : Int) * 64 < (b.length : Int)) = False := by simp only [eq_iff_iff, iff_false]; omega
        have hkk : k = nSec b := by unfold nSec at *; omega
        subst hkk
        refine AWp.seq ?_
        refine AWp.seq ?_
        (refine aw_regionL hS (by kernel_rfl) ?_; repeat (first | apply vr0u | apply vr4 | apply b_tt | apply b_ff | apply b_tf | apply b_ft | apply b_no | exact isD.mk rfl | (apply eqG; (simp only [push_cast, ↓reduceIte, Nat.reduceEqDiff, Nat.reduceAdd, Nat.reduceLeDiff, Nat.reduceLT, Int.reduceLE, Int.reduceLT, Int.reduceAdd, Int.reduceSub, Int.reduceNeg, Int.reduceBEq, Int.reduceBNe, Int.reduceEq, Int.reduceGT, Int.reduceGE, Int.reduceMul, Int.reduceToNat, Nat.reduceMul, reduceCtorEq, t0, t1, t5, t7, q1, wk] <;> rfl)) | exact (rfl : app (swap _ _) _ = _)))
        refine vr_nil (aw_then ?_)
        refine aw_false (by (simp only [push_cast, ↓reduceIte, Nat.reduceEqDiff, Nat.reduceAdd, Nat.reduceLeDiff, Nat.reduceLT, Int.reduceLE, Int.reduceLT, Int.reduceAdd, Int.reduceSub, Int.reduceNeg, Int.reduceBEq, Int.reduceBNe, Int.reduceEq, Int.reduceGT, Int.reduceGE, Int.reduceMul, Int.reduceToNat, Nat.reduceMul, reduceCtorEq, t0, t1, t5, t7, q1, wk] <;> rfl)) (AWp.exit (aw_thru (aw_thru (aw_exit (aw_then ?_)))))
        exact ⟨v, S, I, by (simp only [push_cast, ↓reduceIte, Nat.reduceEqDiff, Nat.reduceAdd, Nat.reduceLeDiff, Nat.reduceLT, Int.reduceLE, Int.reduceLT, Int.reduceAdd, Int.reduceSub, Int.reduceNeg, Int.reduceBEq, Int.reduceBNe, Int.reduceEq, Int.reduceGT, Int.reduceGE, Int.reduceMul, Int.reduceToNat, Nat.reduceMul, reduceCtorEq, t0, t1, t5, t7, q1, wk] <;> rfl), by (simp only [push_cast, ↓reduceIte, Nat.reduceEqDiff, Nat.reduceAdd, Nat.reduceLeDiff, Nat.reduceLT, Int.reduceLE, Int.reduceLT, Int.reduceAdd, Int.reduceSub, Int.reduceNeg, Int.reduceBEq, Int.reduceBNe, Int.reduceEq, Int.reduceGT, Int.reduceGE, Int.reduceMul, Int.reduceToNat, Nat.reduceMul, reduceCtorEq, t0, t1, t5, t7, q1, wk] <;> rfl)⟩
  rintro t1 g1 m1 - ⟨v, S, I, t0, t5⟩
  have nn := S.le
  have hs' := S.fr s _ (by omega) hs1 hsk
  have hm' := S.fr n _ (by omega) hm1 hnk
  have A1 := S.at
  have hpp : v.pend.length = nSec b := by rw [I.pend, areaW_len]
  have hn63 : nSec b ≤ 63 := by unfold nSec; omega
  have T := A1.tSync
  have S2 := S.turn T
  have Tle := T.le
  have ea : ({ data := #[97, 110, 32, 97, 114, 101, 97] } : ByteArray) = anArea := rfl
  have em : ({ data := #[97, 32, 109, 97, 114, 107] } : ByteArray) = aMark := rfl
  obtain ⟨S4, hS4, h37, n37⟩ := sum_here hS (A1.s16 (by omega))
  rcases sync_cases (w := v) (m := m1) I.off with ⟨e1, e2, e3, e4, e5, e6, f1, f2⟩ | ⟨e1, e2, e3, kp, tn, e4⟩
  case inr =>
    obtain ⟨S5, hS5, h31, n31⟩ := sum_here hS4 (f := 31) (args := [.s anArea, .i .i64 14]) (g := app (swap (v.cont d) ((v.sync m1).2.1.cont d)) g1) (r := .wide fun m => (.ifc 89 (.p m 0), swap [] [(m, trb anArea 14)], m + 1)) (fun m => c31e anArea (by decide) m)
    have h37 : S5 37 [.p d 0] g1 = .wide fun k => (.i .i64 (v.sync k).1, swap (v.cont d) ((v.sync k).2.1.cont d), (v.sync k).2.2) := by rw [n31 37 (by decide)]; exact h37
    refine AWp.seq ?_
    refine AWp.seq ?_
    refine aw_regionL hS5 (by kernel_rfl) ?_; repeat (first | apply vr0u | apply vr4 | apply b_tt | apply b_ff | apply b_tf | apply b_ft | apply b_no | exact isD.mk rfl | (apply eqG; (simp only [push_cast, ↓reduceIte, Nat.reduceEqDiff, Nat.reduceAdd, Nat.reduceLeDiff, Nat.reduceLT, Int.reduceLE, Int.reduceLT, Int.reduceAdd, Int.reduceSub, Int.reduceNeg, Int.reduceBEq, Int.reduceBNe, Int.reduceEq, Int.reduceGT, Int.reduceGE, Int.reduceMul, Int.reduceToNat, Nat.reduceMul, reduceCtorEq, t0, t5, hs', hm', h37, h31, ea, e1, isK] <;> rfl)) | exact (rfl : app (swap _ _) _ = _))
    refine vr_nil (aw_then ?_)
    refine AWp.seq ?_
    refine aw_regionL hS5 (by kernel_rfl) ?_; repeat (first | apply vr0u | apply vr4 | apply b_tt | apply b_ff | apply b_tf | apply b_ft | apply b_no | exact isD.mk rfl | (apply eqG; (simp only [push_cast, ↓reduceIte, Nat.reduceEqDiff, Nat.reduceAdd, Nat.reduceLeDiff, Nat.reduceLT, Int.reduceLE, Int.reduceLT, Int.reduceAdd, Int.reduceSub, Int.reduceNeg, Int.reduceBEq, Int.reduceBNe, Int.reduceEq, Int.reduceGT, Int.reduceGE, Int.reduceMul, Int.reduceToNat, Nat.reduceMul, reduceCtorEq, t0, t5, hs', hm', h37, h31, ea, e1, isK] <;> rfl)) | exact (rfl : app (swap _ _) _ = _))
    refine vr_nil (aw_then ?_)
    refine aw_true (by (simp only [push_cast, ↓reduceIte, Nat.reduceEqDiff, Nat.reduceAdd, Nat.reduceLeDiff, Nat.reduceLT, Int.reduceLE, Int.reduceLT, Int.reduceAdd, Int.reduceSub, Int.reduceNeg, Int.reduceBEq, Int.reduceBNe, Int.reduceEq, Int.reduceGT, Int.reduceGE, Int.reduceMul, Int.reduceToNat, Nat.reduceMul, reduceCtorEq, t0, t5, hs', hm', h37, h31, ea, e1, isK] <;> rfl)) ?_
    refine AWp.seq ?_
    refine aw_regionL hS5 (by kernel_rfl) ?_; repeat (first | apply vr0u | apply vr4 | apply b_tt | apply b_ff | apply b_tf | apply b_ft | apply b_no | exact isD.mk rfl | (apply eqG; (simp only [push_cast, ↓reduceIte, Nat.reduceEqDiff, Nat.reduceAdd, Nat.reduceLeDiff, Nat.reduceLT, Int.reduceLE, Int.reduceLT, Int.reduceAdd, Int.reduceSub, Int.reduceNeg, Int.reduceBEq, Int.reduceBNe, Int.reduceEq, Int.reduceGT, Int.reduceGE, Int.reduceMul, Int.reduceToNat, Nat.reduceMul, reduceCtorEq, t0, t5, hs', hm', h37, h31, ea, e1, isK] <;> rfl)) | exact (rfl : app (swap _ _) _ = _))
    refine vr_nil (aw_then ?_)
    refine AWp.ret ?_
    have G2 : Gone w (v.sync m1).2.1 c b := ⟨e3, fun hc => e2 (I.trip.2 hc), kp, tn, .inl ⟨nSec b, Nat.le_refl _, by rw [e4, I.pend, I.safe, areaW_len]⟩⟩
    exact ⟨.inr rfl, [.ifc 89 (.p _ 0)], by simp [Tryd.f27, resAll, resT]; (simp only [push_cast, ↓reduceIte, Nat.reduceEqDiff, Nat.reduceAdd, Nat.reduceLeDiff, Nat.reduceLT, Int.reduceLE, Int.reduceLT, Int.reduceAdd, Int.reduceSub, Int.reduceNeg, Int.reduceBEq, Int.reduceBNe, Int.reduceEq, Int.reduceGT, Int.reduceGE, Int.reduceMul, Int.reduceToNat, Nat.reduceMul, reduceCtorEq, t0, t5, hs', hm', h37, h31, ea, e1, isK] <;> rfl), Or.inr ⟨_, _, anArea, rfl, upd_same .., ((S2.upd (j := (v.sync m1).2.2) (by omega) S2.new _).more (Nat.le_succ _)).lower (Nat.le_succ n) hbase, G2⟩⟩
  obtain ⟨S5, hS5, h31, n31, -⟩ := sum_pure hS4 (c31 anArea)
  have h37 : S5 37 [.p d 0] g1 = .wide fun k => (.i .i64 (v.sync k).1, swap (v.cont d) ((v.sync k).2.1.cont d), (v.sync k).2.2) := by rw [n31 37 (by decide)]; exact h37
  refine AWp.seq ?_
  refine AWp.seq ?_
  refine aw_regionL hS5 (by kernel_rfl) ?_; repeat (first | apply vr0u | apply vr4 | apply b_tt | apply b_ff | apply b_tf | apply b_ft | apply b_no | exact isD.mk rfl | (apply eqG; (simp only [push_cast, ↓reduceIte, Nat.reduceEqDiff, Nat.reduceAdd, Nat.reduceLeDiff, Nat.reduceLT, Int.reduceLE, Int.reduceLT, Int.reduceAdd, Int.reduceSub, Int.reduceNeg, Int.reduceBEq, Int.reduceBNe, Int.reduceEq, Int.reduceGT, Int.reduceGE, Int.reduceMul, Int.reduceToNat, Nat.reduceMul, reduceCtorEq, t0, t5, hs', hm', h37, h31, ea, e1, isK] <;> rfl)) | exact (rfl : app (swap _ _) _ = _))
  refine vr_nil (aw_then ?_)
  refine AWp.seq ?_
  refine aw_regionL hS5 (by kernel_rfl) ?_; repeat (first | apply vr0u | apply vr4 | apply b_tt | apply b_ff | apply b_tf | apply b_ft | apply b_no | exact isD.mk rfl | (apply eqG; (simp only [push_cast, ↓reduceIte, Nat.reduceEqDiff, Nat.reduceAdd, Nat.reduceLeDiff, Nat.reduceLT, Int.reduceLE, Int.reduceLT, Int.reduceAdd, Int.reduceSub, Int.reduceNeg, Int.reduceBEq, Int.reduceBNe, Int.reduceEq, Int.reduceGT, Int.reduceGE, Int.reduceMul, Int.reduceToNat, Nat.reduceMul, reduceCtorEq, t0, t5, hs', hm', h37, h31, ea, e1, isK] <;> rfl)) | exact (rfl : app (swap _ _) _ = _))
  refine vr_nil (aw_then ?_)
  refine aw_false (by (simp only [push_cast, ↓reduceIte, Nat.reduceEqDiff, Nat.reduceAdd, Nat.reduceLeDiff, Nat.reduceLT, Int.reduceLE, Int.reduceLT, Int.reduceAdd, Int.reduceSub, Int.reduceNeg, Int.reduceBEq, Int.reduceBNe, Int.reduceEq, Int.reduceGT, Int.reduceGE, Int.reduceMul, Int.reduceToNat, Nat.reduceMul, reduceCtorEq, t0, t5, hs', hm', h37, h31, ea, e1, isK] <;> rfl)) (AWp.skip (aw_then ?_))
  have e3' : (v.sync m1).2.1.safe = areaS c b w.safe := by rw [e3, I.pend, I.safe, areaW_len]; rfl
  have e5' : (v.sync m1).2.1.now = areaS c b w.safe := by rw [e5, I.now]; rfl
  have e6' := e6.trans I.trip
  have f1' := f1.trans I.js
  have f2' := f2.trans I.jn
  have hlen2 : (v.sync m1).2.1.safe.length = w.safe.length := by rw [e3, syncN_len, I.safe]
  clear hs' hm' h37 h31 n31 A1 T nn
  generalize (v.sync m1).2.1 = v1 at *
  generalize app (swap (v.cont d) (v1.cont d)) g1 = g2 at *
  generalize (v.sync m1).2.2 = m2 at *
  clear e1 e3 e5 e6 f1 f2 S I hpp
  have nn := S2.le
  have hs' := S2.fr s _ (by omega) hs1 hsk
  have hm' := S2.fr n _ (by omega) hm1 hnk
  have A1 := S2.at
  have hmb : (markB c b.length).length = 64 := mkF_len ..
  obtain ⟨i0, hi0⟩ : ∃ i0, i0 = c % 2 := ⟨_, rfl⟩
  have e7 : Int.tmod (c : Int) 2 = (i0 : Int) := by rw [Int.tmod_eq_emod_of_nonneg (by omega)]; omega
  have e8 : IntKind.wrap .i64 (i0 : Int) = (i0 : Int) := IntWalk.i64_in _ (by omega)
  have e9 : IntKind.wrap .u64 (i0 : Int) = (i0 : Int) := by rw [IntKind.wrap_u64]; omega
  have T := A1.tWrite (i0 : Int) (markB c b.length)
  have S3 := S2.turn T
  have Tle := T.le
  obtain ⟨S6, hS6, h38, n38, -⟩ := sum_pure hS (c38 c b.length (by omega) (by omega))
  obtain ⟨S7, hS7, h36, n36⟩ := sum_here hS6 (A1.s8 (by rw [e4]; decide) (i0 : Int) (x := .ro false (cellsB (markB c b.length)) 64) (b := markB c b.length) (.inl (by rw [hmb])))
  rcases write_cases (w := v1) (m := m2) (i := i0) (b := markB c b.length) e2 (by omega) hmb with ⟨x1, x2, x3, x4, x5, x6, y1, y2⟩ | ⟨x1, x2, x3, kp, tn, x4⟩
  case inr =>
    obtain ⟨S5, hS5, h31, n31⟩ := sum_here hS7 (f := 31) (args := [.s aMark, .i .i64 14]) (g := app (swap (v1.cont d) ((v1.write m2 (i0 : Int) (markB c b.length)).2.1.cont d)) g2) (r := .wide fun m => (.ifc 89 (.p m 0), swap [] [(m, trb aMark 14)], m + 1)) (fun m => c31e aMark (by decide) m)
    have h38 : ∀ g, S5 38 [.agg [.i .u64 (c : Int), .i .i64 (b.length : Int)]] g = .pure (.ro false (cellsB (markB c b.length)) 64) := fun g => by rw [n31 38 (by decide), n36 38 (by decide)]; exact h38 g
    have h36 : S5 36 [.p d 0, .i .i64 (i0 : Int), .ro false (cellsB (markB c b.length)) 64] g2 = .wide fun j => (.i .i64 (v1.write j (i0 : Int) (markB c b.length)).1, swap (v1.cont d) ((v1.write j (i0 : Int) (markB c b.length)).2.1.cont d), (v1.write j (i0 : Int) (markB c b.length)).2.2) := by rw [n31 36 (by decide)]; exact h36
    refine AWp.seq ?_
    refine AWp.seq ?_
    refine aw_drawsL [0, 1, 3, 7, 0, 16, 48, 112, 0, 256, 1023, 2047, 4095] [10, 11] hS5 mixed (by kernel_rfl) (by kernel_rfl) ?_
    repeat (first | (refine vd0f (by decide) (by ((repeat (first | rewrite [hpL_t rfl] | rewrite [hpL_f rfl])); (simp only [hpL, app_cons, app_nil] <;> rfl))) (by (simp only [push_cast, ↓reduceIte, Nat.reduceEqDiff, Nat.reduceAdd, Nat.reduceLeDiff, Nat.reduceLT, Int.reduceLE, Int.reduceLT, Int.reduceAdd, Int.reduceSub, Int.reduceNeg, Int.reduceBEq, Int.reduceBNe, Int.reduceEq, Int.reduceGT, Int.reduceGE, Int.reduceMul, Int.reduceToNat, Nat.reduceMul, reduceCtorEq, t0, t5, hs', hm', h36, h38, h31, em, x1, isK, e7, e8, e9] <;> rfl)) ?_) | (refine vd0q rfl (by decide) rfl (by ((repeat (first | rewrite [hpL_t rfl] | rewrite [hpL_f rfl])); (simp only [hpL, app_cons, app_nil] <;> rfl))) (by (simp only [push_cast, ↓reduceIte, Nat.reduceEqDiff, Nat.reduceAdd, Nat.reduceLeDiff, Nat.reduceLT, Int.reduceLE, Int.reduceLT, Int.reduceAdd, Int.reduceSub, Int.reduceNeg, Int.reduceBEq, Int.reduceBNe, Int.reduceEq, Int.reduceGT, Int.reduceGE, Int.reduceMul, Int.reduceToNat, Nat.reduceMul, reduceCtorEq, t0, t5, hs', hm', h36, h38, h31, em, x1, isK, e7, e8, e9] <;> rfl)) (by simp) (by omega) (by intro u hu; simp only [List.mem_cons, List.not_mem_nil, or_false] at hu; rcases hu with rfl | rfl | rfl <;> simp only <;> omega) ?_) | (refine vd0w rfl (by decide) (by ((repeat (first | rewrite [hpL_t rfl] | rewrite [hpL_f rfl])); (simp only [hpL, app_cons, app_nil] <;> rfl))) (by (simp only [push_cast, ↓reduceIte, Nat.reduceEqDiff, Nat.reduceAdd, Nat.reduceLeDiff, Nat.reduceLT, Int.reduceLE, Int.reduceLT, Int.reduceAdd, Int.reduceSub, Int.reduceNeg, Int.reduceBEq, Int.reduceBNe, Int.reduceEq, Int.reduceGT, Int.reduceGE, Int.reduceMul, Int.reduceToNat, Nat.reduceMul, reduceCtorEq, t0, t5, hs', hm', h36, h38, h31, em, x1, isK, e7, e8, e9] <;> rfl)) (by omega) (by intro u hu; simp only [List.mem_cons, List.not_mem_nil, or_false] at hu; rcases hu with rfl | rfl | rfl <;> simp only <;> omega) ?_) | (apply vd0; (focus rfl)) | (apply vd0r; (focus rfl); (focus decide); (focus rfl)) | (apply vd0p; (focus decide)) | apply vd4 | apply b_tt | apply b_ff | apply b_tf | apply b_ft | apply b_no | exact isD.mk rfl | ((repeat (first | rewrite [hpL_t rfl] | rewrite [hpL_f rfl])); (simp only [hpL, app_cons, app_nil] <;> rfl)) | (apply eqG; (simp only [push_cast, ↓reduceIte, Nat.reduceEqDiff, Nat.reduceAdd, Nat.reduceLeDiff, Nat.reduceLT, Int.reduceLE, Int.reduceLT, Int.reduceAdd, Int.reduceSub, Int.reduceNeg, Int.reduceBEq, Int.reduceBNe, Int.reduceEq, Int.reduceGT, Int.reduceGE, Int.reduceMul, Int.reduceToNat, Nat.reduceMul, reduceCtorEq, t0, t5, hs', hm', h36, h38, h31, em, x1, isK, e7, e8, e9] <;> rfl)))
    refine vd0w rfl (by decide) (by ((repeat (first | rewrite [hpL_t rfl] | rewrite [hpL_f rfl])); (simp only [hpL, app_cons, app_nil] <;> rfl))) (by (simp only [push_cast, ↓reduceIte, Nat.reduceEqDiff, Nat.reduceAdd, Nat.reduceLeDiff, Nat.reduceLT, Int.reduceLE, Int.reduceLT, Int.reduceAdd, Int.reduceSub, Int.reduceNeg, Int.reduceBEq, Int.reduceBNe, Int.reduceEq, Int.reduceGT, Int.reduceGE, Int.reduceMul, Int.reduceToNat, Nat.reduceMul, reduceCtorEq, t0, t5, hs', hm', h36, h38, h31, em, x1, isK, e7, e8, e9] <;> rfl)) (by omega) (swap_lt (fun j hj => by have := (S2.key j hj).1; omega) (fun j hj => (S3.key j hj).1)) ?_
    refine vd0w rfl (by decide) (by ((repeat (first | rewrite [hpL_t rfl] | rewrite [hpL_f rfl])); (simp only [hpL, app_cons, app_nil] <;> rfl))) (by (simp only [push_cast, ↓reduceIte, Nat.reduceEqDiff, Nat.reduceAdd, Nat.reduceLeDiff, Nat.reduceLT, Int.reduceLE, Int.reduceLT, Int.reduceAdd, Int.reduceSub, Int.reduceNeg, Int.reduceBEq, Int.reduceBNe, Int.reduceEq, Int.reduceGT, Int.reduceGE, Int.reduceMul, Int.reduceToNat, Nat.reduceMul, reduceCtorEq, t0, t5, hs', hm', h36, h38, h31, em, x1, isK, e7, e8, e9] <;> rfl)) (by omega) (swap_lt (fun j hj => by simp [Lst.keys] at hj) (fun j hj => by simp [Lst.keys] at hj; omega)) ?_
    repeat (first | (refine vd0f (by decide) (by ((repeat (first | rewrite [hpL_t rfl] | rewrite [hpL_f rfl])); (simp only [hpL, app_cons, app_nil] <;> rfl))) (by (simp only [push_cast, ↓reduceIte, Nat.reduceEqDiff, Nat.reduceAdd, Nat.reduceLeDiff, Nat.reduceLT, Int.reduceLE, Int.reduceLT, Int.reduceAdd, Int.reduceSub, Int.reduceNeg, Int.reduceBEq, Int.reduceBNe, Int.reduceEq, Int.reduceGT, Int.reduceGE, Int.reduceMul, Int.reduceToNat, Nat.reduceMul, reduceCtorEq, t0, t5, hs', hm', h36, h38, h31, em, x1, isK, e7, e8, e9] <;> rfl)) ?_) | (refine vd0q rfl (by decide) rfl (by ((repeat (first | rewrite [hpL_t rfl] | rewrite [hpL_f rfl])); (simp only [hpL, app_cons, app_nil] <;> rfl))) (by (simp only [push_cast, ↓reduceIte, Nat.reduceEqDiff, Nat.reduceAdd, Nat.reduceLeDiff, Nat.reduceLT, Int.reduceLE, Int.reduceLT, Int.reduceAdd, Int.reduceSub, Int.reduceNeg, Int.reduceBEq, Int.reduceBNe, Int.reduceEq, Int.reduceGT, Int.reduceGE, Int.reduceMul, Int.reduceToNat, Nat.reduceMul, reduceCtorEq, t0, t5, hs', hm', h36, h38, h31, em, x1, isK, e7, e8, e9] <;> rfl)) (by simp) (by omega) (by intro u hu; simp only [List.mem_cons, List.not_mem_nil, or_false] at hu; rcases hu with rfl | rfl | rfl <;> simp only <;> omega) ?_) | (refine vd0w rfl (by decide) (by ((repeat (first | rewrite [hpL_t rfl] | rewrite [hpL_f rfl])); (simp only [hpL, app_cons, app_nil] <;> rfl))) (by (simp only [push_cast, ↓reduceIte, Nat.reduceEqDiff, Nat.reduceAdd, Nat.reduceLeDiff, Nat.reduceLT, Int.reduceLE, Int.reduceLT, Int.reduceAdd, Int.reduceSub, Int.reduceNeg, Int.reduceBEq, Int.reduceBNe, Int.reduceEq, Int.reduceGT, Int.reduceGE, Int.reduceMul, Int.reduceToNat, Nat.reduceMul, reduceCtorEq, t0, t5, hs', hm', h36, h38, h31, em, x1, isK, e7, e8, e9] <;> rfl)) (by omega) (by intro u hu; simp only [List.mem_cons, List.not_mem_nil, or_false] at hu; rcases hu with rfl | rfl | rfl <;> simp only <;> omega) ?_) | (apply vd0; (focus rfl)) | (apply vd0r; (focus rfl); (focus decide); (focus rfl)) | (apply vd0p; (focus decide)) | apply vd4 | apply b_tt | apply b_ff | apply b_tf | apply b_ft | apply b_no | exact isD.mk rfl | ((repeat (first | rewrite [hpL_t rfl] | rewrite [hpL_f rfl])); (simp only [hpL, app_cons, app_nil] <;> rfl)) | (apply eqG; (simp only [push_cast, ↓reduceIte, Nat.reduceEqDiff, Nat.reduceAdd, Nat.reduceLeDiff, Nat.reduceLT, Int.reduceLE, Int.reduceLT, Int.reduceAdd, Int.reduceSub, Int.reduceNeg, Int.reduceBEq, Int.reduceBNe, Int.reduceEq, Int.reduceGT, Int.reduceGE, Int.reduceMul, Int.reduceToNat, Nat.reduceMul, reduceCtorEq, t0, t5, hs', hm', h36, h38, h31, em, x1, isK, e7, e8, e9] <;> rfl)))
    (refine vd_nil (by simp only [hpL, app_cons, app_nil, if_true] <;> rfl) ?_)
    refine aw_then ?_
    refine AWp.seq ?_
    refine aw_regionL hS5 (by kernel_rfl) ?_; repeat (first | apply vr0u | apply vr4 | apply b_tt | apply b_ff | apply b_tf | apply b_ft | apply b_no | exact isD.mk rfl | (apply eqG; (simp only [push_cast, ↓reduceIte, Nat.reduceEqDiff, Nat.reduceAdd, Nat.reduceLeDiff, Nat.reduceLT, Int.reduceLE, Int.reduceLT, Int.reduceAdd, Int.reduceSub, Int.reduceNeg, Int.reduceBEq, Int.reduceBNe, Int.reduceEq, Int.reduceGT, Int.reduceGE, Int.reduceMul, Int.reduceToNat, Nat.reduceMul, reduceCtorEq, t0, t5, hs', hm', h36, h38, h31, em, x1, isK, e7, e8, e9] <;> rfl)) | exact (rfl : app (swap _ _) _ = _))
    refine vr_nil (aw_then ?_)
    refine aw_true (by (simp only [push_cast, ↓reduceIte, Nat.reduceEqDiff, Nat.reduceAdd, Nat.reduceLeDiff, Nat.reduceLT, Int.reduceLE, Int.reduceLT, Int.reduceAdd, Int.reduceSub, Int.reduceNeg, Int.reduceBEq, Int.reduceBNe, Int.reduceEq, Int.reduceGT, Int.reduceGE, Int.reduceMul, Int.reduceToNat, Nat.reduceMul, reduceCtorEq, t0, t5, hs', hm', h36, h38, h31, em, x1, isK, e7, e8, e9] <;> rfl)) ?_
    refine AWp.seq ?_
    refine aw_regionL hS5 (by kernel_rfl) ?_; repeat (first | apply vr0u | apply vr4 | apply b_tt | apply b_ff | apply b_tf | apply b_ft | apply b_no | exact isD.mk rfl | (apply eqG; (simp only [push_cast, ↓reduceIte, Nat.reduceEqDiff, Nat.reduceAdd, Nat.reduceLeDiff, Nat.reduceLT, Int.reduceLE, Int.reduceLT, Int.reduceAdd, Int.reduceSub, Int.reduceNeg, Int.reduceBEq, Int.reduceBNe, Int.reduceEq, Int.reduceGT, Int.reduceGE, Int.reduceMul, Int.reduceToNat, Nat.reduceMul, reduceCtorEq, t0, t5, hs', hm', h36, h38, h31, em, x1, isK, e7, e8, e9] <;> rfl)) | exact (rfl : app (swap _ _) _ = _))
    refine vr_nil (aw_then ?_)
    refine AWp.ret ?_
    have G2 : Gone w (v1.write m2 (i0 : Int) (markB c b.length)).2.1 c b := ⟨x3, fun hc => x2 (e6'.2 hc), kp, tn, .inr (by rw [x4, e4, e3', ← hi0]; rfl)⟩
    exact ⟨.inr rfl, [.ifc 89 (.p _ 0)], by simp [Tryd.f27, resAll, resT]; (simp only [push_cast, ↓reduceIte, Nat.reduceEqDiff, Nat.reduceAdd, Nat.reduceLeDiff, Nat.reduceLT, Int.reduceLE, Int.reduceLT, Int.reduceAdd, Int.reduceSub, Int.reduceNeg, Int.reduceBEq, Int.reduceBNe, Int.reduceEq, Int.reduceGT, Int.reduceGE, Int.reduceMul, Int.reduceToNat, Nat.reduceMul, reduceCtorEq, t0, t5, hs', hm', h36, h38, h31, em, x1, isK, e7, e8, e9] <;> rfl), Or.inr ⟨_, _, aMark, rfl, upd_same .., ((S3.upd (j := (v1.write m2 (i0 : Int) (markB c b.length)).2.2) (by omega) S3.new _).more (Nat.le_succ _)).lower (Nat.le_succ n) hbase, G2⟩⟩
  obtain ⟨S5, hS5, h31, n31, -⟩ := sum_pure hS7 (c31 aMark)
  have h38 : ∀ g, S5 38 [.agg [.i .u64 (c : Int), .i .i64 (b.length : Int)]] g = .pure (.ro false (cellsB (markB c b.length)) 64) := fun g => by rw [n31 38 (by decide), n36 38 (by decide)]; exact h38 g
  have h36 : S5 36 [.p d 0, .i .i64 (i0 : Int), .ro false (cellsB (markB c b.length)) 64] g2 = .wide fun j => (.i .i64 (v1.write j (i0 : Int) (markB c b.length)).1, swap (v1.cont d) ((v1.write j (i0 : Int) (markB c b.length)).2.1.cont d), (v1.write j (i0 : Int) (markB c b.length)).2.2) := by rw [n31 36 (by decide)]; exact h36
  refine AWp.seq ?_
  refine AWp.seq ?_
  refine aw_drawsL [0, 1, 3, 7, 0, 16, 48, 112, 0, 256, 1023, 2047, 4095] [10] hS5 mixed (by kernel_rfl) (by kernel_rfl) ?_
  repeat (first | (refine vd0f (by decide) (by ((repeat (first | rewrite [hpL_t rfl] | rewrite [hpL_f rfl])); (simp only [hpL, app_cons, app_nil] <;> rfl))) (by (simp only [push_cast, ↓reduceIte, Nat.reduceEqDiff, Nat.reduceAdd, Nat.reduceLeDiff, Nat.reduceLT, Int.reduceLE, Int.reduceLT, Int.reduceAdd, Int.reduceSub, Int.reduceNeg, Int.reduceBEq, Int.reduceBNe, Int.reduceEq, Int.reduceGT, Int.reduceGE, Int.reduceMul, Int.reduceToNat, Nat.reduceMul, reduceCtorEq, t0, t5, hs', hm', h36, h38, h31, em, x1, isK, e7, e8, e9] <;> rfl)) ?_) | (refine vd0q rfl (by decide) rfl (by ((repeat (first | rewrite [hpL_t rfl] | rewrite [hpL_f rfl])); (simp only [hpL, app_cons, app_nil] <;> rfl))) (by (simp only [push_cast, ↓reduceIte, Nat.reduceEqDiff, Nat.reduceAdd, Nat.reduceLeDiff, Nat.reduceLT, Int.reduceLE, Int.reduceLT, Int.reduceAdd, Int.reduceSub, Int.reduceNeg, Int.reduceBEq, Int.reduceBNe, Int.reduceEq, Int.reduceGT, Int.reduceGE, Int.reduceMul, Int.reduceToNat, Nat.reduceMul, reduceCtorEq, t0, t5, hs', hm', h36, h38, h31, em, x1, isK, e7, e8, e9] <;> rfl)) (by simp) (by omega) (by intro u hu; simp only [List.mem_cons, List.not_mem_nil, or_false] at hu; rcases hu with rfl | rfl | rfl <;> simp only <;> omega) ?_) | (refine vd0w rfl (by decide) (by ((repeat (first | rewrite [hpL_t rfl] | rewrite [hpL_f rfl])); (simp only [hpL, app_cons, app_nil] <;> rfl))) (by (simp only [push_cast, ↓reduceIte, Nat.reduceEqDiff, Nat.reduceAdd, Nat.reduceLeDiff, Nat.reduceLT, Int.reduceLE, Int.reduceLT, Int.reduceAdd, Int.reduceSub, Int.reduceNeg, Int.reduceBEq, Int.reduceBNe, Int.reduceEq, Int.reduceGT, Int.reduceGE, Int.reduceMul, Int.reduceToNat, Nat.reduceMul, reduceCtorEq, t0, t5, hs', hm', h36, h38, h31, em, x1, isK, e7, e8, e9] <;> rfl)) (by omega) (by intro u hu; simp only [List.mem_cons, List.not_mem_nil, or_false] at hu; rcases hu with rfl | rfl | rfl <;> simp only <;> omega) ?_) | (apply vd0; (focus rfl)) | (apply vd0r; (focus rfl); (focus decide); (focus rfl)) | (apply vd0p; (focus decide)) | apply vd4 | apply b_tt | apply b_ff | apply b_tf | apply b_ft | apply b_no | exact isD.mk rfl | ((repeat (first | rewrite [hpL_t rfl] | rewrite [hpL_f rfl])); (simp only [hpL, app_cons, app_nil] <;> rfl)) | (apply eqG; (simp only [push_cast, ↓reduceIte, Nat.reduceEqDiff, Nat.reduceAdd, Nat.reduceLeDiff, Nat.reduceLT, Int.reduceLE, Int.reduceLT, Int.reduceAdd, Int.reduceSub, Int.reduceNeg, Int.reduceBEq, Int.reduceBNe, Int.reduceEq, Int.reduceGT, Int.reduceGE, Int.reduceMul, Int.reduceToNat, Nat.reduceMul, reduceCtorEq, t0, t5, hs', hm', h36, h38, h31, em, x1, isK, e7, e8, e9] <;> rfl)))
  refine vd0w rfl (by decide) (by ((repeat (first | rewrite [hpL_t rfl] | rewrite [hpL_f rfl])); (simp only [hpL, app_cons, app_nil] <;> rfl))) (by (simp only [push_cast, ↓reduceIte, Nat.reduceEqDiff, Nat.reduceAdd, Nat.reduceLeDiff, Nat.reduceLT, Int.reduceLE, Int.reduceLT, Int.reduceAdd, Int.reduceSub, Int.reduceNeg, Int.reduceBEq, Int.reduceBNe, Int.reduceEq, Int.reduceGT, Int.reduceGE, Int.reduceMul, Int.reduceToNat, Nat.reduceMul, reduceCtorEq, t0, t5, hs', hm', h36, h38, h31, em, x1, isK, e7, e8, e9] <;> rfl)) (by omega) (swap_lt (fun j hj => by have := (S2.key j hj).1; omega) (fun j hj => (S3.key j hj).1)) ?_
  repeat (first | (refine vd0f (by decide) (by ((repeat (first | rewrite [hpL_t rfl] | rewrite [hpL_f rfl])); (simp only [hpL, app_cons, app_nil] <;> rfl))) (by (simp only [push_cast, ↓reduceIte, Nat.reduceEqDiff, Nat.reduceAdd, Nat.reduceLeDiff, Nat.reduceLT, Int.reduceLE, Int.reduceLT, Int.reduceAdd, Int.reduceSub, Int.reduceNeg, Int.reduceBEq, Int.reduceBNe, Int.reduceEq, Int.reduceGT, Int.reduceGE, Int.reduceMul, Int.reduceToNat, Nat.reduceMul, reduceCtorEq, t0, t5, hs', hm', h36, h38, h31, em, x1, isK, e7, e8, e9] <;> rfl)) ?_) | (refine vd0q rfl (by decide) rfl (by ((repeat (first | rewrite [hpL_t rfl] | rewrite [hpL_f rfl])); (simp only [hpL, app_cons, app_nil] <;> rfl))) (by (simp only [push_cast, ↓reduceIte, Nat.reduceEqDiff, Nat.reduceAdd, Nat.reduceLeDiff, Nat.reduceLT, Int.reduceLE, Int.reduceLT, Int.reduceAdd, Int.reduceSub, Int.reduceNeg, Int.reduceBEq, Int.reduceBNe, Int.reduceEq, Int.reduceGT, Int.reduceGE, Int.reduceMul, Int.reduceToNat, Nat.reduceMul, reduceCtorEq, t0, t5, hs', hm', h36, h38, h31, em, x1, isK, e7, e8, e9] <;> rfl)) (by simp) (by omega) (by intro u hu; simp only [List.mem_cons, List.not_mem_nil, or_false] at hu; rcases hu with rfl | rfl | rfl <;> simp only <;> omega) ?_) | (refine vd0w rfl (by decide) (by ((repeat (first | rewrite [hpL_t rfl] | rewrite [hpL_f rfl])); (simp only [hpL, app_cons, app_nil] <;> rfl))) (by (simp only [push_cast, ↓reduceIte, Nat.reduceEqDiff, Nat.reduceAdd, Nat.reduceLeDiff, Nat.reduceLT, Int.reduceLE, Int.reduceLT, Int.reduceAdd, Int.reduceSub, Int.reduceNeg, Int.reduceBEq, Int.reduceBNe, Int.reduceEq, Int.reduceGT, Int.reduceGE, Int.reduceMul, Int.reduceToNat, Nat.reduceMul, reduceCtorEq, t0, t5, hs', hm', h36, h38, h31, em, x1, isK, e7, e8, e9] <;> rfl)) (by omega) (by intro u hu; simp only [List.mem_cons, List.not_mem_nil, or_false] at hu; rcases hu with rfl | rfl | rfl <;> simp only <;> omega) ?_) | (apply vd0; (focus rfl)) | (apply vd0r; (focus rfl); (focus decide); (focus rfl)) | (apply vd0p; (focus decide)) | apply vd4 | apply b_tt | apply b_ff | apply b_tf | apply b_ft | apply b_no | exact isD.mk rfl | ((repeat (first | rewrite [hpL_t rfl] | rewrite [hpL_f rfl])); (simp only [hpL, app_cons, app_nil] <;> rfl)) | (apply eqG; (simp only [push_cast, ↓reduceIte, Nat.reduceEqDiff, Nat.reduceAdd, Nat.reduceLeDiff, Nat.reduceLT, Int.reduceLE, Int.reduceLT, Int.reduceAdd, Int.reduceSub, Int.reduceNeg, Int.reduceBEq, Int.reduceBNe, Int.reduceEq, Int.reduceGT, Int.reduceGE, Int.reduceMul, Int.reduceToNat, Nat.reduceMul, reduceCtorEq, t0, t5, hs', hm', h36, h38, h31, em, x1, isK, e7, e8, e9] <;> rfl)))
  (refine vd_nil (by simp only [hpL, app_cons, app_nil, if_true] <;> rfl) ?_)
  refine aw_then ?_
  refine AWp.seq ?_
  refine aw_regionL hS5 (by kernel_rfl) ?_; repeat (first | apply vr0u | apply vr4 | apply b_tt | apply b_ff | apply b_tf | apply b_ft | apply b_no | exact isD.mk rfl | (apply eqG; (simp only [push_cast, ↓reduceIte, Nat.reduceEqDiff, Nat.reduceAdd, Nat.reduceLeDiff, Nat.reduceLT, Int.reduceLE, Int.reduceLT, Int.reduceAdd, Int.reduceSub, Int.reduceNeg, Int.reduceBEq, Int.reduceBNe, Int.reduceEq, Int.reduceGT, Int.reduceGE, Int.reduceMul, Int.reduceToNat, Nat.reduceMul, reduceCtorEq, t0, t5, hs', hm', h36, h38, h31, em, x1, isK, e7, e8, e9] <;> rfl)) | exact (rfl : app (swap _ _) _ = _))
  refine vr_nil (aw_then ?_)
  refine aw_false (by (simp only [push_cast, ↓reduceIte, Nat.reduceEqDiff, Nat.reduceAdd, Nat.reduceLeDiff, Nat.reduceLT, Int.reduceLE, Int.reduceLT, Int.reduceAdd, Int.reduceSub, Int.reduceNeg, Int.reduceBEq, Int.reduceBNe, Int.reduceEq, Int.reduceGT, Int.reduceGE, Int.reduceMul, Int.reduceToNat, Nat.reduceMul, reduceCtorEq, t0, t5, hs', hm', h36, h38, h31, em, x1, isK, e7, e8, e9] <;> rfl)) (AWp.skip (aw_then ?_))
  have x6' := x6.trans e6'
  have y1' := y1.trans f1'
  have y2' := y2.trans f2'
  rw [e3'] at x3
  rw [e5'] at x5
  rw [e4] at x4
  clear hs' hm' h36 h38 h31 n31 A1 T nn
  generalize (v1.write m2 (i0 : Int) (markB c b.length)).2.1 = v2 at *
  generalize app (swap (v1.cont d) (v2.cont d)) g2 = g3 at *
  generalize (v1.write m2 (i0 : Int) (markB c b.length)).2.2 = m3 at *
  clear e2 e4 e3' e5' x1 x6 y1 y2 f1' f2' S2 hlen2
  have nn := S3.le
  have hs' := S3.fr s _ (by omega) hs1 hsk
  have A1 := S3.at
  have T := A1.tSync
  have S4 := S3.turn T
  have Tle := T.le
  obtain ⟨Sa, hSa, h37, n37⟩ := sum_here hS (A1.s16 (by rw [x4]; show 1 < 1000000; decide))
  rcases sync_cases (w := v2) (m := m3) x2 with ⟨e1, e2, e3, e4, e5, e6, f1, f2⟩ | ⟨e1, e2, e3, kp, tn, e4⟩
  case inr =>
    obtain ⟨S5, hS5, h31, n31⟩ := sum_here hSa (f := 31) (args := [.s aMark, .i .i64 14]) (g := app (swap (v2.cont d) ((v2.sync m3).2.1.cont d)) g3) (r := .wide fun m => (.ifc 89 (.p m 0), swap [] [(m, trb aMark 14)], m + 1)) (fun m => c31e aMark (by decide) m)
    have h37 : S5 37 [.p d 0] g3 = .wide fun k => (.i .i64 (v2.sync k).1, swap (v2.cont d) ((v2.sync k).2.1.cont d), (v2.sync k).2.2) := by rw [n31 37 (by decide)]; exact h37
    refine AWp.seq ?_
    refine aw_regionL hS5 (by kernel_rfl) ?_; repeat (first | apply vr0u | apply vr4 | apply b_tt | apply b_ff | apply b_tf | apply b_ft | apply b_no | exact isD.mk rfl | (apply eqG; (simp only [push_cast, ↓reduceIte, Nat.reduceEqDiff, Nat.reduceAdd, Nat.reduceLeDiff, Nat.reduceLT, Int.reduceLE, Int.reduceLT, Int.reduceAdd, Int.reduceSub, Int.reduceNeg, Int.reduceBEq, Int.reduceBNe, Int.reduceEq, Int.reduceGT, Int.reduceGE, Int.reduceMul, Int.reduceToNat, Nat.reduceMul, reduceCtorEq, t0, t5, hs', h37, h31, em, e1, isK] <;> rfl)) | exact (rfl : app (swap _ _) _ = _))
    refine vr_nil (aw_then ?_)
    refine AWp.ret ?_
    have G2 : Gone w (v2.sync m3).2.1 c b := ⟨e3, fun hc => e2 (x6'.2 hc), kp, tn, .inr (by rw [e4, x4, x3, ← hi0]; rfl)⟩
    exact ⟨.inr rfl, [.ifc 89 (.p _ 0)], by simp [Tryd.f27, resAll, resT]; (simp only [push_cast, ↓reduceIte, Nat.reduceEqDiff, Nat.reduceAdd, Nat.reduceLeDiff, Nat.reduceLT, Int.reduceLE, Int.reduceLT, Int.reduceAdd, Int.reduceSub, Int.reduceNeg, Int.reduceBEq, Int.reduceBNe, Int.reduceEq, Int.reduceGT, Int.reduceGE, Int.reduceMul, Int.reduceToNat, Nat.reduceMul, reduceCtorEq, t0, t5, hs', h37, h31, em, e1, isK] <;> rfl), Or.inr ⟨_, _, aMark, rfl, upd_same .., ((S4.upd (j := (v2.sync m3).2.2) (by omega) S4.new _).more (Nat.le_succ _)).lower (Nat.le_succ n) hbase, G2⟩⟩
  obtain ⟨S5, hS5, h31, n31, -⟩ := sum_pure hSa (c31 aMark)
  have h37 : S5 37 [.p d 0] g3 = .wide fun k => (.i .i64 (v2.sync k).1, swap (v2.cont d) ((v2.sync k).2.1.cont d), (v2.sync k).2.2) := by rw [n31 37 (by decide)]; exact h37
  refine AWp.seq ?_
  refine aw_regionL hS5 (by kernel_rfl) ?_; repeat (first | apply vr0u | apply vr4 | apply b_tt | apply b_ff | apply b_tf | apply b_ft | apply b_no | exact isD.mk rfl | (apply eqG; (simp only [push_cast, ↓reduceIte, Nat.reduceEqDiff, Nat.reduceAdd, Nat.reduceLeDiff, Nat.reduceLT, Int.reduceLE, Int.reduceLT, Int.reduceAdd, Int.reduceSub, Int.reduceNeg, Int.reduceBEq, Int.reduceBNe, Int.reduceEq, Int.reduceGT, Int.reduceGE, Int.reduceMul, Int.reduceToNat, Nat.reduceMul, reduceCtorEq, t0, t5, hs', h37, h31, em, e1, isK] <;> rfl)) | exact (rfl : app (swap _ _) _ = _))
  refine vr_nil (aw_then ?_)
  refine AWp.ret ?_
  have e3'' : (v2.sync m3).2.1.safe = (areaS c b w.safe).set (c % 2) (some (markB c b.length)) := by rw [e3, x4, x3, ← hi0]; rfl
  exact ⟨.inr rfl, [.ni], by simp [Tryd.f27, resAll, resT]; (simp only [push_cast, ↓reduceIte, Nat.reduceEqDiff, Nat.reduceAdd, Nat.reduceLeDiff, Nat.reduceLT, Int.reduceLE, Int.reduceLT, Int.reduceAdd, Int.reduceSub, Int.reduceNeg, Int.reduceBEq, Int.reduceBNe, Int.reduceEq, Int.reduceGT, Int.reduceGE, Int.reduceMul, Int.reduceToNat, Nat.reduceMul, reduceCtorEq, t0, t5, hs', h37, h31, em, e1, isK] <;> rfl), Or.inl ⟨rfl, _, S4.lower (Nat.le_succ n) hbase, ⟨e2, e4, by rw [e5, x5, e3'', hi0], e6.trans x6', e3'', f1.trans y1', f2.trans y2'⟩⟩⟩

end Go.Proofs.YtepfknnffooaiaaDoor
