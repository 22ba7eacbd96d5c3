import Derived.Test.YtepfknnffooaiaaDoorDoR
import Derived.Test.YtepfknnffooaiaaDoorDoS

namespace Go.Proofs.YtepfknnffooaiaaDoor
open Go.Av
set_option maxRecDepth 100000
set_option maxHeartbeats 1000000
set_option linter.unusedSimpArgs false
set_option linter.unusedVariables false
attribute [local push_cast] stepE callR resE aeff aev ofC ofC1 put_at Av.put_none inTmps List.getD_cons_zero List.getD_cons_succ AV.boxable if_true if_false AV.cells aload place app_cons app_nil upd_same Av.part abin aconv aindexAddr fillA splice_one abuiltin alen amax amin aun aindex Option.map_some Option.isSome_some List.map_cons List.map_nil List.nil_append List.append_nil List.cons_append Nat.le_refl Nat.zero_add Nat.add_zero List.length_cons List.length_nil List.drop_succ_cons List.drop_zero List.take_succ_cons List.take_zero beq_self_eq_true bne_self_eq_false Bool.not_true Bool.not_false List.set_cons_zero List.set_cons_succ Bool.false_eq_true IntWalk.i64_in decide_true decide_false Int.toNat_zero and_self and_true true_and List.getElem?_cons_zero List.getElem?_cons_succ aappend aapp view Bool.and_true Bool.true_and Nat.mul_one Option.map_none aslice asliceB nilOp Int.toNat_natCast und_30 agT_3 szT_3 kiT_3 agT_5 szT_5 kiT_5 agT_24 szT_24 kiT_24 agT_62 szT_62 kiT_62 agT_4 szT_4 kiT_4 agT_9 szT_9 kiT_9 agT_44 szT_44 kiT_44 agT_45 szT_45 kiT_45 agT_30 szT_30 kiT_30 agT_22 szT_22 kiT_22 agT_41 szT_41 kiT_41 agT_51 szT_51 kiT_51 agT_52 szT_52 kiT_52 agT_23 szT_23 kiT_23 agT_53 szT_53 kiT_53 agT_27 szT_27 kiT_27 agT_89 szT_89 kiT_89 agT_66 szT_66 kiT_66 agT_20 szT_20 kiT_20 slT_45 slT_44 slT_30 slT_22 slT_41 slT_51 slT_52 zeT_3 zeT_4 zeT_5 zeT_30 zeT_24 flT_55_0 flT_55_1 flT_55_2 flT_55_3 flT_55_4 agT_55 szT_55 buT_55 zeT_55 flT_57_0 flT_57_1 agT_57 szT_57 buT_57 zeT_57 flT_74_0 flT_74_1 agT_74 szT_74 buT_74 zeT_74 flT_77_0 flT_77_1 flT_77_2 agT_77 szT_77 buT_77 zeT_77 flT_47_0 flT_47_1 flT_47_2 flT_47_3 flT_47_4 flT_47_5 agT_47 szT_47 buT_47 zeT_47 flT_61_0 flT_61_1 agT_61 szT_61 buT_61 zeT_61 flT_64_0 flT_64_1 agT_64 szT_64 buT_64 zeT_64 flT_91_0 flT_91_1 agT_91 szT_91 buT_91 zeT_91 ptT_23 ptT_53 ptT_27 ptT_89 und_30 

/-! ### stores in a law -/
theorem At.on {h0 g g' : Heap} {n0 m m' d : Nat} {w : DW} (A : At h0 n0 g m d w) (hk : ∀ j, j ∈ (w.cont d).keys → g' j = g j) (fr : ∀ x r, x < n0 → h0 x = some r → g' x = some r) (hm : m ≤ m') : At h0 n0 g' m' d w :=
  ⟨A.ok, DFacts.of (A.F.has.keep hk), fun j hj => by have := A.lo j hj; omega, fr, Nat.le_trans A.le hm⟩
/-- A disk for which no crash is armed, and what its sectors hold. -/
structure Dsk (h0 : Heap) (n0 : Nat) (g : Heap) (m d : Nat) (w : DW) (c : Nat) (st : List UInt8) : Prop where
  A : At h0 n0 g m d w
  off : w.off = false
  pend : w.pend = []
  now : w.now = w.safe
  trip : w.trip = none
  G : Good w.safe c st
  lim : c < 1000000000
/-- A store of it. -/
structure Sto (h0 : Heap) (n0 : Nat) (g : Heap) (m d s : Nat) (w : DW) (c : Nat) (z : Bool) (st : List UInt8) : Prop where
  D : Dsk h0 n0 g m d w c st
  row : g s = some (.cells (stoR d z st))
  sk : s ∉ (w.cont d).keys
  sm : s < m
  sn : n0 ≤ s
  zz : z = true → st = []
theorem Dsk.holds {h0 g : Heap} {n0 m d : Nat} {w : DW} {c : Nat} {st : List UInt8} (D : Dsk h0 n0 g m d w c st) : Holds w.now c st := by
  have := D.lim
  rw [D.now]; exact D.G.holds (by omega)
theorem Dsk.new {h0 g : Heap} {n0 m : Nat} (N : Nat) (h1 : 150 ≤ N) (h2 : N ≤ 256) (hm : n0 ≤ m) (hf : ∀ x r, x < n0 → h0 x = some r → g x = some r) : Dsk h0 n0 (app (swap [] ((newW N m).cont m)) g) (m + 1 + 3 * N + 1) m (newW N m) 0 [] :=
  ⟨At.tNew (by omega) h2 hm hf, rfl, rfl, rfl, rfl, Good.new h1, by decide⟩
theorem Dsk.on {h0 g g' : Heap} {n0 m m' d : Nat} {w : DW} {c : Nat} {st : List UInt8} (D : Dsk h0 n0 g m d w c st) (hk : ∀ j, j ∈ (w.cont d).keys → g' j = g j) (fr : ∀ x r, x < n0 → h0 x = some r → g' x = some r) (hm : m ≤ m') : Dsk h0 n0 g' m' d w c st :=
  ⟨D.A.on hk fr hm, D.off, D.pend, D.now, D.trip, D.G, D.lim⟩
theorem Sto.on {h0 g g' : Heap} {n0 m m' d s : Nat} {w : DW} {c : Nat} {z : Bool} {st : List UInt8} (T : Sto h0 n0 g m d s w c z st) (hk : ∀ j, j ∈ (w.cont d).keys ∨ j = s → g' j = g j) (fr : ∀ x r, x < n0 → h0 x = some r → g' x = some r) (hm : m ≤ m') : Sto h0 n0 g' m' d s w c z st :=
  ⟨T.D.on (fun j hj => hk j (.inl hj)) fr hm, by rw [hk s (.inr rfl)]; exact T.row, T.sk, Nat.lt_of_lt_of_le T.sm hm, T.sn, T.zz⟩
theorem Dsk.upd {h0 g : Heap} {n0 m m' d j : Nat} {w : DW} {c : Nat} {st : List UInt8} (D : Dsk h0 n0 g m d w c st) (hj : m ≤ j) (hm : m ≤ m') (r : Option Row) : Dsk h0 n0 (Av.upd g j r) m' d w c st :=
  D.on (fun k hk => upd_ne _ _ (by have := D.A.lo k hk; omega)) (keepU (by have := D.A.le; omega) D.A.fr) hm
theorem Sto.upd {h0 g : Heap} {n0 m m' d s j : Nat} {w : DW} {c : Nat} {z : Bool} {st : List UInt8} (T : Sto h0 n0 g m d s w c z st) (hj : m ≤ j) (hm : m ≤ m') (r : Option Row) : Sto h0 n0 (Av.upd g j r) m' d s w c z st :=
  T.on (fun k hk => upd_ne _ _ (by
    rcases hk with hk | rfl
    · have := T.D.A.lo k hk; omega
    · have := T.sm; omega)) (keepU (by have := T.D.A.le; omega) T.D.A.fr) hm
theorem Dsk.sOpen {h0 g : Heap} {n0 m d : Nat} {w : DW} {c : Nat} {st : List UInt8} (D : Dsk h0 n0 g m d w c st) : ResOk Tryd.prog 9 [.p d 0] g (.wide fun k => (.tup [.p k 0, .i .i64 0], swap [] [(k, stoR d st.isEmpty st)], k + 1)) :=
  fun n => s9 D.A.ok D.A.F D.off D.G.len D.holds n
theorem Dsk.opened {h0 g : Heap} {n0 m d : Nat} {w : DW} {c : Nat} {st : List UInt8} (D : Dsk h0 n0 g m d w c st) : Sto h0 n0 (app (swap [] [(m, stoR d st.isEmpty st)]) g) (m + 1) d m w c st.isEmpty st :=
  ⟨D.upd (Nat.le_refl _) (Nat.le_succ _) _, upd_same .., D.A.new, Nat.lt_succ_self _, D.A.le, fun h => List.isEmpty_iff.1 h⟩
theorem Sto.sState {h0 g : Heap} {n0 m d s : Nat} {w : DW} {c : Nat} {z : Bool} {st : List UInt8} (T : Sto h0 n0 g m d s w c z st) : ResOk Tryd.prog 13 [.p s 0] g (.pure (.ro z (cellsB st) st.length)) :=
  fun n => s13 T.zz (by have := T.D.G.size; omega) T.row n
theorem Sto.sSave {h0 g : Heap} {n0 m d s : Nat} {w : DW} {c : Nat} {z : Bool} {st : List UInt8} (T : Sto h0 n0 g m d s w c z st) {z' : Bool} {b : List UInt8} (hz : z' = true → b = []) (hb : b.length ≤ 4000) :
    ResOk Tryd.prog 11 [.p s 0, .ro z' (cellsB b) b.length] g (.wide fun k => (.i .i64 0, swap (w.cont d ++ [(s, stoR d z st)]) ((w.saved (c + 1) b).cont d ++ [(s, stoR d z' b)]), k)) := fun n =>
  s11x z' b hz T.D.A.ok T.D.A.F T.D.off T.D.G.len T.D.pend T.D.now T.D.trip T.sk T.row c st.length T.D.holds.last (by have := T.D.lim; omega) hb n
theorem Sto.sSaveS {h0 g : Heap} {n0 m d s j : Nat} {w : DW} {c : Nat} {z : Bool} {st : List UInt8} (T : Sto h0 n0 g m d s w c z st) {b : List UInt8} (hj : j ∉ (w.cont d).keys) (hjr : g j = some (.cells (cellsB b))) (hb : b.length ≤ 4000) :
    ResOk Tryd.prog 11 [.p s 0, .sl 1 j 0 b.length] g (.wide fun k => (.i .i64 0, swap (w.cont d ++ [(s, stoR d z st)]) ((w.saved (c + 1) b).cont d ++ [(s, stoR d false b)]), k)) := fun n =>
  s11xs b hj hjr T.D.A.ok T.D.A.F T.D.off T.D.G.len T.D.pend T.D.now T.D.trip T.sk T.row c st.length T.D.holds.last (by have := T.D.lim; omega) hb n
theorem DOk.saved {w : DW} (hw : DOk w) (c : Nat) (b : List UInt8) : DOk (w.saved c b) := by
  have key : ∀ x, some x ∈ (areaS c b w.safe).set (c % 2) (some (markB c b.length)) → x.length = 64 := fun x hx => by
    rcases List.mem_or_eq_of_mem_set hx with hx | hx
    · rcases syncN_mem _ hx with h | ⟨p, hp, rfl⟩
      · exact hw.s1 x h
      · obtain ⟨i, _, rfl⟩ := List.mem_map.1 hp
        exact sectorB_len _
    · injection hx with hx
      rw [hx]; exact mkF_len ..
  have hl : (w.saved c b).safe.length = w.safe.length := (List.length_set ..).trans (syncN_len _)
  exact ⟨rfl, by rw [hl]; exact hw.n0, fun p hp => by rw [hl]; exact hw.pe p hp, key, key, hw.tp⟩
theorem Has.left {h : Heap} {L L' : Lst} (hL : Has h (L ++ L')) : Has h L :=
  ⟨fun p hp => hL.1 p (List.mem_append_left _ hp), by
    have := hL.2
    simp only [Lst.keys, List.map_append] at this
    exact (List.nodup_append.1 this).1⟩
theorem saved_nodup {h0 g : Heap} {n0 m d s : Nat} {w : DW} {c : Nat} {z : Bool} {st : List UInt8} (T : Sto h0 n0 g m d s w c z st) (b : List UInt8) (cs : List AV) : (Lst.keys ((w.saved (c + 1) b).cont d ++ [(s, cs)])).Nodup := by
  have h1 : ((w.saved (c + 1) b).cont d).keys = (w.cont d).keys := rfl
  have h2 := (Has.snoc T.D.A.F.has T.row T.sk).2
  simp only [Lst.keys, List.map_append] at h1 h2 ⊢
  rw [h1]
  exact h2
theorem Sto.off2 {h0 g : Heap} {n0 m d s : Nat} {w : DW} {c : Nat} {z : Bool} {st : List UInt8} (T : Sto h0 n0 g m d s w c z st) (z' : Bool) (b : List UInt8) {x : Nat} (hx : x ∉ (w.cont d).keys) (hs : x ≠ s) : app (swap (w.cont d ++ [(s, stoR d z st)]) ((w.saved (c + 1) b).cont d ++ [(s, stoR d z' b)])) g x = g x :=
  swap_off _ (fun hj => by rw [snoc_keys] at hj; exact hj.elim hx hs) (fun hj => by rw [snoc_keys] at hj; exact hj.elim (fun h => hx (saved_keys h)) hs)
theorem Sto.saved {h0 g : Heap} {n0 m d s : Nat} {w : DW} {c : Nat} {z : Bool} {st : List UInt8} (T : Sto h0 n0 g m d s w c z st) {z' : Bool} {b : List UInt8} (hz : z' = true → b = []) (hb : b.length ≤ 4000) (hl : c + 1 < 1000000000) :
    Sto h0 n0 (app (swap (w.cont d ++ [(s, stoR d z st)]) ((w.saved (c + 1) b).cont d ++ [(s, stoR d z' b)])) g) m d s (w.saved (c + 1) b) (c + 1) z' b := by
  have H := Has.swap (L := w.cont d ++ [(s, stoR d z st)]) g (saved_nodup T b (stoR d z' b))
  refine ⟨⟨⟨T.D.A.ok.saved _ _, DFacts.of (Has.left H), fun j hj => T.D.A.lo j (saved_keys hj), fun x r hx hr => ?_, T.D.A.le⟩, T.D.off, T.D.pend, rfl, T.D.trip, T.D.G.next hb (by omega), hl⟩, H.1 (s, stoR d z' b) (List.mem_append_right _ (List.mem_singleton.2 rfl)), fun hj => T.sk (saved_keys hj), T.sm, T.sn, hz⟩
  rw [T.off2 z' b (fun hj => by have := T.D.A.lo x hj; omega) (by have := T.sn; omega)]
  exact T.D.A.fr x r hx hr
theorem Out.yes {fn : Func} {e : Exit} {h h1 : Heap} {n n1 : Nat} {t : Tmps} {a : Tmp} (he : e = .normal ∨ e = .ret) (hf : fn.results = #[.tmp a]) (hx : t a = .b true) (hh : ∀ x r, x < n → h x = some r → h1 x = some r) : Out Tryd.prog fn n h (.b true) [] n e t h1 n1 := Out.pure1 he hf hx rfl trivial hh
def byteX : List UInt8 := [120]
theorem d8 (N : Nat) (h1 : 1 ≤ N) (h2 : N ≤ 256) (g : Heap) : ResOk Tryd.prog 8 [.i .i64 (N : Int)] g (.wide (fun n => (.tup [.p n 0, .i .i64 0], swap [] ((newW N n).cont n), n + 1 + 3 * N + 1))) := fun n => c7 N h1 h2 n
/-! ### wakes -/
theorem s15 : PCalls Tryd.prog 15 [] (.b true) := by
  intro h n
  refine DCalls.of Tryd.func15 rfl (by decide) (Nat.le_of_ble_eq_true rfl) (Nat.le_refl _) ?_
  have hS := SumOk.none (P := Tryd.prog)
  obtain ⟨S1, hS1, h8, n8⟩ := sum_here hS (d8 256 (by decide) (by decide) h)
  have h8 : S1 8 [.i .i64 256] h = .wide (fun n => (.tup [.p n 0, .i .i64 0], swap [] ((newW 256 n).cont n), n + 1 + 3 * 256 + 1)) := h8
  refine AWp.seq ?_
  (refine aw_regionL hS1 (by kernel_rfl) ?_; repeat (first | apply vr0u | apply vr4 | apply b_tt | apply b_ff | apply b_tf | apply b_ft | apply b_no | exact isD.mk rfl | (apply eqG; (simp only [push_cast, ↓reduceIte, Nat.reduceEqDiff, Nat.reduceAdd, Nat.reduceLeDiff, Nat.reduceLT, Int.reduceLE, Int.reduceLT, Int.reduceAdd, Int.reduceSub, Int.reduceNeg, Int.reduceBEq, Int.reduceBNe, Int.reduceEq, Int.reduceGT, Int.reduceGE, Int.reduceMul, Int.reduceToNat, Nat.reduceMul, reduceCtorEq, h8] <;> rfl)) | exact (rfl : app (swap _ _) _ = _)))
  refine vr_nil (aw_then ?_)
  refine AWp.seq ?_
  (refine aw_regionL hS1 (by kernel_rfl) ?_; repeat (first | apply vr0u | apply vr4 | apply b_tt | apply b_ff | apply b_tf | apply b_ft | apply b_no | exact isD.mk rfl | (apply eqG; (simp only [push_cast, ↓reduceIte, Nat.reduceEqDiff, Nat.reduceAdd, Nat.reduceLeDiff, Nat.reduceLT, Int.reduceLE, Int.reduceLT, Int.reduceAdd, Int.reduceSub, Int.reduceNeg, Int.reduceBEq, Int.reduceBNe, Int.reduceEq, Int.reduceGT, Int.reduceGE, Int.reduceMul, Int.reduceToNat, Nat.reduceMul, reduceCtorEq, h8] <;> rfl)) | exact (rfl : app (swap _ _) _ = _)))
  refine vr_nil (aw_then ?_)
  have D1 := Dsk.new (h0 := h) (g := h) (n0 := n) (m := n) 256 (by decide) (by decide) (Nat.le_refl _) keep0
  generalize newW 256 n = w1 at D1 ⊢
  generalize app (swap [] (w1.cont n)) h = g1 at D1 ⊢
  generalize n + 1 + 3 * 256 + 1 = m1 at D1 ⊢
  obtain ⟨S2, hS2, h9, n9⟩ := sum_here hS D1.sOpen
  have T1 := D1.opened
  refine AWp.seq ?_
  refine AWp.seq ?_
  (refine aw_regionL hS2 (by kernel_rfl) ?_; repeat (first | apply vr0u | apply vr4 | apply b_tt | apply b_ff | apply b_tf | apply b_ft | apply b_no | exact isD.mk rfl | (apply eqG; (simp only [push_cast, ↓reduceIte, Nat.reduceEqDiff, Nat.reduceAdd, Nat.reduceLeDiff, Nat.reduceLT, Int.reduceLE, Int.reduceLT, Int.reduceAdd, Int.reduceSub, Int.reduceNeg, Int.reduceBEq, Int.reduceBNe, Int.reduceEq, Int.reduceGT, Int.reduceGE, Int.reduceMul, Int.reduceToNat, Nat.reduceMul, reduceCtorEq, h9] <;> rfl)) | exact (rfl : app (swap _ _) _ = _)))
  refine vr_nil (aw_then ?_)
  refine aw_false (by (simp only [push_cast, ↓reduceIte, Nat.reduceEqDiff, Nat.reduceAdd, Nat.reduceLeDiff, Nat.reduceLT, Int.reduceLE, Int.reduceLT, Int.reduceAdd, Int.reduceSub, Int.reduceNeg, Int.reduceBEq, Int.reduceBNe, Int.reduceEq, Int.reduceGT, Int.reduceGE, Int.reduceMul, Int.reduceToNat, Nat.reduceMul, reduceCtorEq, h9] <;> rfl)) (AWp.skip (aw_then ?_))
  refine AWp.seq ?_
  (refine aw_regionL hS2 (by kernel_rfl) ?_; repeat (first | apply vr0u | apply vr4 | apply b_tt | apply b_ff | apply b_tf | apply b_ft | apply b_no | exact isD.mk rfl | (apply eqG; (simp only [push_cast, ↓reduceIte, Nat.reduceEqDiff, Nat.reduceAdd, Nat.reduceLeDiff, Nat.reduceLT, Int.reduceLE, Int.reduceLT, Int.reduceAdd, Int.reduceSub, Int.reduceNeg, Int.reduceBEq, Int.reduceBNe, Int.reduceEq, Int.reduceGT, Int.reduceGE, Int.reduceMul, Int.reduceToNat, Nat.reduceMul, reduceCtorEq, h9] <;> rfl)) | exact (rfl : app (swap _ _) _ = _)))
  refine vr_nil (aw_then ?_)
  generalize app (swap [] [(m1, stoR n ([] : List UInt8).isEmpty [])]) g1 = g2 at T1 ⊢
  have T2 := T1.upd (j := m1 + 1) (m' := m1 + 2) (Nat.le_refl _) (Nat.le_succ _) (some (.cells (cellsB byteX)))
  have hjk : m1 + 1 ∉ (w1.cont n).keys := fun hj => by have := T1.D.A.lo _ hj; omega
  obtain ⟨S3, hS3, h13, n13⟩ := sum_here hS T1.sState
  obtain ⟨S4, hS4, h11, n11⟩ := sum_here hS3 (T2.sSaveS (b := byteX) hjk (upd_same ..) (by decide))
  have h13 : S4 13 [.p m1 0] g2 = .pure (.ro true [] 0) := by rw [n11 13 (by decide)]; exact h13
  have h11 : S4 11 [.p m1 0, .sl 1 (m1 + 1) 0 1] (Av.upd g2 (m1 + 1) (some (.cells [.i .u8 120]))) = _ := h11
  have T3 := T2.saved (z' := false) (b := byteX) (fun h => nomatch h) (by decide) (by decide)
  have rp1 : rep 1 [AV.i .u8 0] = [.i .u8 0] := rfl
  refine AWp.seq ?_
  refine AWp.seq ?_
  (refine aw_regionL hS4 (by kernel_rfl) ?_; repeat (first | apply vr0u | apply vr4 | apply b_tt | apply b_ff | apply b_tf | apply b_ft | apply b_no | exact isD.mk rfl | (apply eqG; (simp only [push_cast, ↓reduceIte, Nat.reduceEqDiff, Nat.reduceAdd, Nat.reduceLeDiff, Nat.reduceLT, Int.reduceLE, Int.reduceLT, Int.reduceAdd, Int.reduceSub, Int.reduceNeg, Int.reduceBEq, Int.reduceBNe, Int.reduceEq, Int.reduceGT, Int.reduceGE, Int.reduceMul, Int.reduceToNat, Nat.reduceMul, reduceCtorEq, h13, h11, upd_upd, rp1] <;> rfl)) | exact (rfl : app (swap _ _) _ = _)))
  refine vr_nil (aw_then ?_)
  refine aw_false (by (simp only [push_cast, ↓reduceIte, Nat.reduceEqDiff, Nat.reduceAdd, Nat.reduceLeDiff, Nat.reduceLT, Int.reduceLE, Int.reduceLT, Int.reduceAdd, Int.reduceSub, Int.reduceNeg, Int.reduceBEq, Int.reduceBNe, Int.reduceEq, Int.reduceGT, Int.reduceGE, Int.reduceMul, Int.reduceToNat, Nat.reduceMul, reduceCtorEq, h13, h11, upd_upd, rp1] <;> rfl)) (AWp.skip (aw_then ?_))
  show AWp Tryd.prog _ _ _ (app (swap (w1.cont n ++ [(m1, stoR n ([] : List UInt8).isEmpty [])]) ((w1.saved 1 byteX).cont n ++ [(m1, stoR n false byteX)])) (Av.upd g2 (m1 + 1) (some (.cells (cellsB byteX))))) (m1 + 2) _
  generalize hg3 : app (swap (w1.cont n ++ [(m1, stoR n ([] : List UInt8).isEmpty [])]) ((w1.saved 1 byteX).cont n ++ [(m1, stoR n false byteX)])) (Av.upd g2 (m1 + 1) (some (.cells (cellsB byteX)))) = g3 at T3 ⊢
  clear hg3
  generalize hw2 : w1.saved 1 byteX = w2 at T3
  obtain ⟨S5, hS5, h9, n9⟩ := sum_here hS T3.D.sOpen
  have T4 := T3.D.opened
  refine AWp.seq ?_
  (refine aw_regionL hS5 (by kernel_rfl) ?_; repeat (first | apply vr0u | apply vr4 | apply b_tt | apply b_ff | apply b_tf | apply b_ft | apply b_no | exact isD.mk rfl | (apply eqG; (simp only [push_cast, ↓reduceIte, Nat.reduceEqDiff, Nat.reduceAdd, Nat.reduceLeDiff, Nat.reduceLT, Int.reduceLE, Int.reduceLT, Int.reduceAdd, Int.reduceSub, Int.reduceNeg, Int.reduceBEq, Int.reduceBNe, Int.reduceEq, Int.reduceGT, Int.reduceGE, Int.reduceMul, Int.reduceToNat, Nat.reduceMul, reduceCtorEq, h9] <;> rfl)) | exact (rfl : app (swap _ _) _ = _)))
  refine vr_nil (aw_then ?_)
  generalize app (swap [] [(m1 + 2, stoR n byteX.isEmpty byteX)]) g3 = g4 at T4 ⊢
  obtain ⟨S6, hS6, h13, n13⟩ := sum_here hS T4.sState
  have h13 : S6 13 [.p (m1 + 2) 0] g4 = .pure (.ro false [.i .u8 120] 1) := h13
  have ub : unbytes [AV.i .u8 120] = some [120] := rfl
  have eb : (({ data := [120].toArray } : ByteArray) == { data := #[120] }) = true := by rfl
  refine AWp.seq ?_
  (refine aw_regionL hS6 (by kernel_rfl) ?_; repeat (first | apply vr0u | apply vr4 | apply b_tt | apply b_ff | apply b_tf | apply b_ft | apply b_no | exact isD.mk rfl | (apply eqG; (simp only [push_cast, ↓reduceIte, Nat.reduceEqDiff, Nat.reduceAdd, Nat.reduceLeDiff, Nat.reduceLT, Int.reduceLE, Int.reduceLT, Int.reduceAdd, Int.reduceSub, Int.reduceNeg, Int.reduceBEq, Int.reduceBNe, Int.reduceEq, Int.reduceGT, Int.reduceGE, Int.reduceMul, Int.reduceToNat, Nat.reduceMul, reduceCtorEq, h13, ub, eb] <;> rfl)) | exact (rfl : app (swap _ _) _ = _)))
  refine vr_nil (aw_then ?_)
  refine AWp.ret ?_
  exact Out.yes (.inr rfl) rfl (by (simp only [push_cast, ↓reduceIte, Nat.reduceEqDiff, Nat.reduceAdd, Nat.reduceLeDiff, Nat.reduceLT, Int.reduceLE, Int.reduceLT, Int.reduceAdd, Int.reduceSub, Int.reduceNeg, Int.reduceBEq, Int.reduceBNe, Int.reduceEq, Int.reduceGT, Int.reduceGE, Int.reduceMul, Int.reduceToNat, Nat.reduceMul, reduceCtorEq, h13, ub, eb] <;> rfl)) T4.D.A.fr

end Go.Proofs.YtepfknnffooaiaaDoor
