import Derived.Test.YtepfknnffooaiaaDkR1

namespace Go.Proofs.Ytepfknnffooaiaa
open Go.Av
set_option maxRecDepth 100000
set_option maxHeartbeats 1000000
set_option linter.unusedSimpArgs false
set_option linter.unusedVariables false
attribute [local push_cast] stepE callR resE aeff aev ofC ofC1 put_at Av.put_none inTmps List.getD_cons_zero List.getD_cons_succ AV.boxable if_true if_false AV.cells aload place app_cons app_nil upd_same Av.part abin aconv aindexAddr fillA splice_one abuiltin alen amax amin aun aindex Option.map_some Option.isSome_some List.map_cons List.map_nil List.nil_append List.append_nil List.cons_append Nat.le_refl Nat.zero_add Nat.add_zero List.length_cons List.length_nil List.drop_succ_cons List.drop_zero List.take_succ_cons List.take_zero beq_self_eq_true bne_self_eq_false Bool.not_true Bool.not_false List.set_cons_zero List.set_cons_succ Bool.false_eq_true IntWalk.i64_in decide_true decide_false Int.toNat_zero and_self and_true true_and List.getElem?_cons_zero List.getElem?_cons_succ aappend aapp view Bool.and_true Bool.true_and Nat.mul_one Option.map_none aslice asliceB nilOp Int.toNat_natCast und_30 agT_3 szT_3 kiT_3 agT_4 szT_4 kiT_4 agT_5 szT_5 kiT_5 agT_25 szT_25 kiT_25 agT_28 szT_28 kiT_28 agT_22 szT_22 kiT_22 agT_23 szT_23 kiT_23 agT_30 szT_30 kiT_30 agT_37 szT_37 kiT_37 agT_38 szT_38 kiT_38 agT_52 szT_52 kiT_52 agT_53 szT_53 kiT_53 agT_24 szT_24 kiT_24 agT_54 szT_54 kiT_54 agT_47 szT_47 kiT_47 slT_22 slT_23 slT_30 slT_37 slT_38 slT_52 slT_53 zeT_3 zeT_4 zeT_5 zeT_30 flT_56_0 flT_56_1 flT_56_2 flT_56_3 flT_56_4 agT_56 szT_56 buT_56 zeT_56 flT_58_0 flT_58_1 agT_58 szT_58 buT_58 zeT_58 flT_62_0 flT_62_1 agT_62 szT_62 buT_62 zeT_62 flT_65_0 flT_65_1 flT_65_2 agT_65 szT_65 buT_65 zeT_65 flT_42_0 flT_42_1 flT_42_2 flT_42_3 flT_42_4 flT_42_5 agT_42 szT_42 buT_42 zeT_42 flT_68_0 flT_68_1 flT_68_2 flT_68_3 flT_68_4 flT_68_5 flT_68_6 agT_68 szT_68 buT_68 zeT_68 ptT_24 ptT_54 ptT_47 und_30 agT_66 szT_66 kiT_66 slT_66 flT_73_0 flT_73_1 agT_73 szT_73 buT_73 zeT_73 

/-! ### the page's disk, and where its memory lies -/
def secsV (l : List (List UInt8)) : List AV := l.map fun b => .ro false (cellsB b) b.length
theorem secsV_len (l : List (List UInt8)) : (secsV l).length = l.length := List.length_map ..
theorem secsV_get {l : List (List UInt8)} {i : Nat} (hi : i < l.length) : (secsV l)[i]? = some (.ro false (cellsB l[i]) l[i].length) := by simp [secsV, hi]
theorem secsV_set (l : List (List UInt8)) (i : Nat) (b : List UInt8) : (secsV l).set i (.ro false (cellsB b) b.length) = secsV (l.set i b) := by simp [secsV, List.map_set]
theorem free_secsV : ∀ l : List (List UInt8), freeAll (secsV l) = true
  | [] => rfl
  | b :: l => by have := free_secsV l; simp only [secsV, List.map_cons, freeAll, AV.free, free_cellsB, Bool.true_and]; exact this
theorem bools_set (l : List Bool) (i : Nat) (b : Bool) : (bools l).set i (.b b) = bools (l.set i b) := by simp [bools, List.map_set]
structure RW where
  jS : Nat
  jT : Nat
  jW : Nat
  S : List (List UInt8)
  T : List Bool
  W : List (Nat × List UInt8)
  down : Bool
  armed : Int
  kz : Bool
  keep : List Bool
  tear : Int
def RW.wV (r : RW) : AV := if r.W = [] then .ro true [] 0 else .sl 2 r.jW 0 r.W.length
def RW.wL (r : RW) : Lst := if r.W = [] then [] else [(r.jW, wrC r.W)]
def RW.row (r : RW) : List AV := [.sl 1 r.jS 0 r.S.length, .sl 1 r.jT 0 r.T.length, r.wV, .b r.down, .i .i64 r.armed, .ro r.kz (bools r.keep) r.keep.length, .i .i64 r.tear]
def RW.cont (d : Nat) (r : RW) : Lst := (d, r.row) :: (r.jS, secsV r.S) :: (r.jT, bools r.T) :: r.wL
theorem RW.w0 {r : RW} (h : r.W = []) : r.wV = .ro true [] 0 ∧ r.wL = [] := ⟨if_pos h, if_pos h⟩
theorem RW.w1 {r : RW} (h : r.W ≠ []) : r.wV = .sl 2 r.jW 0 r.W.length ∧ r.wL = [(r.jW, wrC r.W)] := ⟨if_neg h, if_neg h⟩
theorem RW.wlen (r : RW) : alen Try.prog 66 r.wV = some (r.W.length : Int) := by
  by_cases h : r.W = []
  · rw [(RW.w0 h).1, h]; simp only [alen, slT_66]; rfl
  · rw [(RW.w1 h).1]; simp only [alen, slT_66]; rfl
structure ROk (r : RW) : Prop where
  len : r.T.length = r.S.length
  n0 : r.S.length ≤ 256
  we : ∀ p, p ∈ r.W → p.1 < r.S.length ∧ p.2.length = 64
  s1 : ∀ b, b ∈ r.S → b.length = 64
  ar : 0 ≤ r.armed ∧ r.armed ≤ 9223372036854775807
  kl : r.keep.length ≤ 1000000
  wl : r.W.length ≤ 1000000
structure RFacts (h : Heap) (d : Nat) (r : RW) : Prop where
  hd : h d = some (.cells r.row)
  hS : h r.jS = some (.cells (secsV r.S))
  hT : h r.jT = some (.cells (bools r.T))
  hW : r.W ≠ [] → h r.jW = some (.cells (wrC r.W)) ∧ r.jW ≠ d ∧ r.jW ≠ r.jS ∧ r.jW ≠ r.jT
  dS : d ≠ r.jS
  dT : d ≠ r.jT
  ST : r.jS ≠ r.jT
theorem RFacts.of {h : Heap} {d : Nat} {r : RW} (hL : Has h (r.cont d)) : RFacts h d r := by
  have hN : (r.cont d).keys.Nodup := hL.2
  have hA := hL.1
  simp only [RW.cont, Lst.keys, List.map_cons, List.nodup_cons, List.mem_cons, not_or] at hN
  obtain ⟨⟨n1, n2, n3⟩, ⟨n5, n6⟩, n8, n10⟩ := hN
  refine ⟨hA (d, r.row) (by simp [RW.cont]), hA (r.jS, secsV r.S) (by simp [RW.cont]), hA (r.jT, bools r.T) (by simp [RW.cont]), fun hp => ?_, n1, n2, n5⟩
  obtain ⟨_, e⟩ := RW.w1 hp
  rw [e] at n3 n6 n8
  exact ⟨hA (r.jW, wrC r.W) (by simp [RW.cont, e]), fun he => n3 (by simp [he]), fun he => n6 (by simp [he]), fun he => n8 (by simp [he])⟩
theorem RFacts.has {h : Heap} {d : Nat} {r : RW} (F : RFacts h d r) : Has h (r.cont d) := by
  by_cases he : r.W = []
  · refine ⟨fun p hp => ?_, ?_⟩
    · simp only [RW.cont, (RW.w0 he).2, List.mem_cons, List.not_mem_nil, or_false] at hp
      rcases hp with rfl | rfl | rfl
      · exact F.hd
      · exact F.hS
      · exact F.hT
    · simp only [RW.cont, (RW.w0 he).2, Lst.keys, List.map_cons, List.map_nil, List.nodup_cons, List.mem_cons, List.not_mem_nil, or_false, not_or, not_false_eq_true, List.nodup_nil, and_true]
      exact ⟨⟨F.dS, F.dT⟩, F.ST⟩
  · obtain ⟨h1, h2, h3, h4⟩ := F.hW he
    refine ⟨fun p hp => ?_, ?_⟩
    · simp only [RW.cont, (RW.w1 he).2, List.mem_cons, List.not_mem_nil, or_false] at hp
      rcases hp with rfl | rfl | rfl | rfl
      · exact F.hd
      · exact F.hS
      · exact F.hT
      · exact h1
    · simp only [RW.cont, (RW.w1 he).2, Lst.keys, List.map_cons, List.map_nil, List.nodup_cons, List.mem_cons, List.not_mem_nil, or_false, not_or, not_false_eq_true, List.nodup_nil, and_true]
      exact ⟨⟨F.dS, F.dT, fun e => h2 e.symm⟩, ⟨F.ST, fun e => h3 e.symm⟩, fun e => h4 e.symm⟩
theorem RW.keys_iff {d : Nat} {r : RW} {j : Nat} : j ∈ (r.cont d).keys ↔ j = d ∨ j = r.jS ∨ j = r.jT ∨ (r.W ≠ [] ∧ j = r.jW) := by
  by_cases he : r.W = []
  · simp [RW.cont, Lst.keys, (RW.w0 he).2, he]
  · simp [RW.cont, Lst.keys, (RW.w1 he).2, he]
theorem RW.names {d n : Nat} {r : RW} (h : ∀ j, j ∈ (r.cont d).keys → j < n) : ∀ p, p ∈ r.cont d → namesAll (· < n) p.2 := fun p hp => by
  simp only [RW.cont, List.mem_cons] at hp
  rcases hp with rfl | rfl | rfl | hp
  · refine ⟨h _ (RW.keys_iff.2 (.inr (.inl rfl))), h _ (RW.keys_iff.2 (.inr (.inr (.inl rfl)))), ?_, trivial, trivial, AV.free_names _ (by simp [AV.free, free_bools]), trivial, trivial⟩
    by_cases he : r.W = []
    · rw [(RW.w0 he).1]; exact trivial
    · rw [(RW.w1 he).1]; exact h _ (RW.keys_iff.2 (.inr (.inr (.inr ⟨he, rfl⟩))))
  · exact freeAll_names _ (free_secsV _)
  · exact freeAll_names _ (free_bools _)
  · by_cases he : r.W = []
    · rw [(RW.w0 he).2] at hp; cases hp
    · rw [(RW.w1 he).2] at hp; rw [List.mem_singleton.1 hp]; exact freeAll_names _ (free_wrC _)
theorem Out.refd {fn : Func} {n : Nat} {h : Heap} {d : Nat} {r r' : RW} {x : AV} {e : Exit} {t : Tmps} {h1 : Heap} {n1 n2 : Nat} {xs : List AV} (he : e = .normal ∨ e = .ret) (hx : resAll Try.prog t h1 fn.results.toList = some xs) (hr : resOne xs = x) (hn : n ≤ n2) (hn2 : n2 ≤ n1) (hnm : x.names (· < n2))
    (hL : Has h (r.cont d)) (hlt : ∀ j, j ∈ (r.cont d).keys → j < n) (hL' : RFacts h1 d r') (hJ : ∀ j, j ∈ (r'.cont d).keys → j ∈ (r.cont d).keys ∨ (n ≤ j ∧ j < n2)) (hk : ∀ x r0, x < n → h x = some r0 → x ∉ (r.cont d).keys → h1 x = some r0) :
    Out Try.prog fn n h x (swap (r.cont d) (r'.cont d)) n2 e t h1 n1 :=
  Out.swap he hx hr hn hn2 hnm hL hL'.has hJ (RW.names fun j hj => by rcases hJ j hj with h | h; exact Nat.lt_of_lt_of_le (hlt j h) hn; exact h.2) hk

/-! ### what the page's disk tells -/
def lastK (W : List (Nat × List UInt8)) (i : Int) : Nat → Option (List UInt8)
  | 0 => none
  | k + 1 => match W[k]? with
    | some p => if (p.1 : Int) = i then some p.2 else lastK W i k
    | none => lastK W i k
def RW.read (r : RW) (i : Int) : AV × Int := if r.down = true then (.ro true [] 0, 14) else if i < 0 ∨ i ≥ r.S.length then (.ro true [] 0, 1) else match lastK r.W i r.W.length with
  | some b => (.ro false (cellsB b) b.length, 0)
  | none => if r.T[i.toNat]? = some true then (.ro true [] 0, 15) else match r.S[i.toNat]? with
    | some b => (.ro false (cellsB b) b.length, 0)
    | none => (.ro true [] 0, 15)
theorem wrC_at {l : List (Nat × List UInt8)} {k : Nat} (hk : k < l.length) : (wrC l)[k * 2]? = some (.i .i64 (l[k].1 : Int)) ∧ (wrC l)[k * 2 + 1]? = some (.ro false (cellsB l[k].2) l[k].2.length) := by
  have h := wrC_get hk
  have h1 : ∀ i, i < 2 → (wrC l)[k * 2 + i]? = ([.i .i64 (l[k].1 : Int), .ro false (cellsB l[k].2) l[k].2.length] : List AV)[i]? := fun i hi => by
    rw [← h, List.getElem?_take_of_lt hi, List.getElem?_drop]
  exact ⟨h1 0 (by decide), h1 1 (by decide)⟩
theorem c32 {h : Heap} {d : Nat} {r : RW} (hr : ROk r) (hL : Has h (r.cont d)) (i : Int) : ∀ n, DCalls Try.prog 32 [.p d 0, .i .i64 i] h n (.tup [(r.read i).1, .i .i64 (r.read i).2]) [] n := by
  intro n
  have hS := SumOk.none (P := Try.prog)
  have F := RFacts.of hL
  have hd := F.hd
  have hTT := F.hT
  have hSS := F.hS
  simp only [RW.row] at hd
  refine DCalls.of Try.func32 rfl (by decide) (Nat.le_of_ble_eq_true rfl) (Nat.le_refl _) ?_
  refine AWp.seq ?_
  (refine aw_regionL hS (by kernel_rfl) ?_; repeat (first | apply vr0u | apply vr4 | apply b_tt | apply b_ff | apply b_tf | apply b_ft | apply b_no | exact isD.mk rfl | (apply eqG; (simp only [push_cast, ↓reduceIte, Nat.reduceEqDiff, Nat.reduceAdd, Nat.reduceLeDiff, Nat.reduceLT, Int.reduceLE, Int.reduceLT, Int.reduceAdd, Int.reduceSub, Int.reduceNeg, Int.reduceBEq, Int.reduceBNe, Int.reduceEq, Int.reduceGT, Int.reduceGE, Int.reduceMul, Int.reduceToNat, Nat.reduceMul, reduceCtorEq, hd] <;> rfl)) | exact (rfl : app (swap _ _) _ = _)))
  refine vr_nil (aw_then ?_)
  refine AWp.seq ?_
  refine AWp.seq ?_
  (refine aw_regionL hS (by kernel_rfl) ?_; repeat (first | apply vr0u | apply vr4 | apply b_tt | apply b_ff | apply b_tf | apply b_ft | apply b_no | exact isD.mk rfl | (apply eqG; (simp only [push_cast, ↓reduceIte, Nat.reduceEqDiff, Nat.reduceAdd, Nat.reduceLeDiff, Nat.reduceLT, Int.reduceLE, Int.reduceLT, Int.reduceAdd, Int.reduceSub, Int.reduceNeg, Int.reduceBEq, Int.reduceBNe, Int.reduceEq, Int.reduceGT, Int.reduceGE, Int.reduceMul, Int.reduceToNat, Nat.reduceMul, reduceCtorEq, hd] <;> rfl)) | exact (rfl : app (swap _ _) _ = _)))
  refine vr_nil (aw_then ?_)
  refine aw_split (by (simp only [push_cast, ↓reduceIte, Nat.reduceEqDiff, Nat.reduceAdd, Nat.reduceLeDiff, Nat.reduceLT, Int.reduceLE, Int.reduceLT, Int.reduceAdd, Int.reduceSub, Int.reduceNeg, Int.reduceBEq, Int.reduceBNe, Int.reduceEq, Int.reduceGT, Int.reduceGE, Int.reduceMul, Int.reduceToNat, Nat.reduceMul, reduceCtorEq, hd] <;> rfl)) (fun hu => ?_) (fun hu => ?_)
  · have ht : r.read i = (.ro true [] 0, 14) := if_pos hu
    rw [ht]
    refine AWp.seq ?_
    (refine aw_regionL hS (by kernel_rfl) ?_; repeat (first | apply vr0u | apply vr4 | apply b_tt | apply b_ff | apply b_tf | apply b_ft | apply b_no | exact isD.mk rfl | (apply eqG; (simp only [push_cast, ↓reduceIte, Nat.reduceEqDiff, Nat.reduceAdd, Nat.reduceLeDiff, Nat.reduceLT, Int.reduceLE, Int.reduceLT, Int.reduceAdd, Int.reduceSub, Int.reduceNeg, Int.reduceBEq, Int.reduceBNe, Int.reduceEq, Int.reduceGT, Int.reduceGE, Int.reduceMul, Int.reduceToNat, Nat.reduceMul, reduceCtorEq, hd] <;> rfl)) | exact (rfl : app (swap _ _) _ = _)))
    refine vr_nil (aw_then ?_)
    refine AWp.ret ?_
    exact Out.pure2 (.inr rfl) rfl (by (simp only [push_cast, ↓reduceIte, Nat.reduceEqDiff, Nat.reduceAdd, Nat.reduceLeDiff, Nat.reduceLT, Int.reduceLE, Int.reduceLT, Int.reduceAdd, Int.reduceSub, Int.reduceNeg, Int.reduceBEq, Int.reduceBNe, Int.reduceEq, Int.reduceGT, Int.reduceGE, Int.reduceMul, Int.reduceToNat, Nat.reduceMul, reduceCtorEq, hd] <;> rfl)) (by (simp only [push_cast, ↓reduceIte, Nat.reduceEqDiff, Nat.reduceAdd, Nat.reduceLeDiff, Nat.reduceLT, Int.reduceLE, Int.reduceLT, Int.reduceAdd, Int.reduceSub, Int.reduceNeg, Int.reduceBEq, Int.reduceBNe, Int.reduceEq, Int.reduceGT, Int.reduceGE, Int.reduceMul, Int.reduceToNat, Nat.reduceMul, reduceCtorEq, hd] <;> rfl)) rfl (by simp [AV.names, namesAll]) keep0
  refine AWp.skip (aw_then ?_)
  rw [hu] at hd
  have hne1 : ¬ (r.down = true) := by rw [hu]; simp
  refine AWp.cut (fun t' h' n' => (0 ≤ i ∧ i < (r.S.length : Int)) ∧ t' 0 = .p d 0 ∧ t' 1 = .i .i64 i ∧ h' = h) ?_ ?_
  · refine AWp.seq ?_
    (refine aw_regionL hS (by kernel_rfl) ?_; repeat (first | apply vr0u | apply vr4 | apply b_tt | apply b_ff | apply b_tf | apply b_ft | apply b_no | exact isD.mk rfl | (apply eqG; (simp only [push_cast, ↓reduceIte, Nat.reduceEqDiff, Nat.reduceAdd, Nat.reduceLeDiff, Nat.reduceLT, Int.reduceLE, Int.reduceLT, Int.reduceAdd, Int.reduceSub, Int.reduceNeg, Int.reduceBEq, Int.reduceBNe, Int.reduceEq, Int.reduceGT, Int.reduceGE, Int.reduceMul, Int.reduceToNat, Nat.reduceMul, reduceCtorEq, hd] <;> rfl)) | exact (rfl : app (swap _ _) _ = _)))
    refine br_s (by (simp only [push_cast, ↓reduceIte, Nat.reduceEqDiff, Nat.reduceAdd, Nat.reduceLeDiff, Nat.reduceLT, Int.reduceLE, Int.reduceLT, Int.reduceAdd, Int.reduceSub, Int.reduceNeg, Int.reduceBEq, Int.reduceBNe, Int.reduceEq, Int.reduceGT, Int.reduceGE, Int.reduceMul, Int.reduceToNat, Nat.reduceMul, reduceCtorEq, hd] <;> rfl)) (fun hv => ?_) (fun hv => ?_)
    · have hv := of_decide_eq_true hv
      repeat (first | apply vr0u | apply vr4 | apply b_tt | apply b_ff | apply b_tf | apply b_ft | apply b_no | exact isD.mk rfl | (apply eqG; (simp only [push_cast, ↓reduceIte, Nat.reduceEqDiff, Nat.reduceAdd, Nat.reduceLeDiff, Nat.reduceLT, Int.reduceLE, Int.reduceLT, Int.reduceAdd, Int.reduceSub, Int.reduceNeg, Int.reduceBEq, Int.reduceBNe, Int.reduceEq, Int.reduceGT, Int.reduceGE, Int.reduceMul, Int.reduceToNat, Nat.reduceMul, reduceCtorEq, hd] <;> rfl)) | exact (rfl : app (swap _ _) _ = _))
      refine vr_nil (aw_then ?_)
      have ht : r.read i = (.ro true [] 0, 1) := by unfold RW.read; rw [if_neg hne1, if_pos (.inl hv)]
      rw [ht]
      refine aw_true (by (simp only [push_cast, ↓reduceIte, Nat.reduceEqDiff, Nat.reduceAdd, Nat.reduceLeDiff, Nat.reduceLT, Int.reduceLE, Int.reduceLT, Int.reduceAdd, Int.reduceSub, Int.reduceNeg, Int.reduceBEq, Int.reduceBNe, Int.reduceEq, Int.reduceGT, Int.reduceGE, Int.reduceMul, Int.reduceToNat, Nat.reduceMul, reduceCtorEq, hd] <;> rfl)) ?_
      refine AWp.seq ?_
      (refine aw_regionL hS (by kernel_rfl) ?_; repeat (first | apply vr0u | apply vr4 | apply b_tt | apply b_ff | apply b_tf | apply b_ft | apply b_no | exact isD.mk rfl | (apply eqG; (simp only [push_cast, ↓reduceIte, Nat.reduceEqDiff, Nat.reduceAdd, Nat.reduceLeDiff, Nat.reduceLT, Int.reduceLE, Int.reduceLT, Int.reduceAdd, Int.reduceSub, Int.reduceNeg, Int.reduceBEq, Int.reduceBNe, Int.reduceEq, Int.reduceGT, Int.reduceGE, Int.reduceMul, Int.reduceToNat, Nat.reduceMul, reduceCtorEq, hd] <;> rfl)) | exact (rfl : app (swap _ _) _ = _)))
      refine vr_nil (aw_then ?_)
      refine AWp.ret ?_
      exact Out.pure2 (.inr rfl) rfl (by (simp only [push_cast, ↓reduceIte, Nat.reduceEqDiff, Nat.reduceAdd, Nat.reduceLeDiff, Nat.reduceLT, Int.reduceLE, Int.reduceLT, Int.reduceAdd, Int.reduceSub, Int.reduceNeg, Int.reduceBEq, Int.reduceBNe, Int.reduceEq, Int.reduceGT, Int.reduceGE, Int.reduceMul, Int.reduceToNat, Nat.reduceMul, reduceCtorEq, hd] <;> rfl)) (by (simp only [push_cast, ↓reduceIte, Nat.reduceEqDiff, Nat.reduceAdd, Nat.reduceLeDiff, Nat.reduceLT, Int.reduceLE, Int.reduceLT, Int.reduceAdd, Int.reduceSub, Int.reduceNeg, Int.reduceBEq, Int.reduceBNe, Int.reduceEq, Int.reduceGT, Int.reduceGE, Int.reduceMul, Int.reduceToNat, Nat.reduceMul, reduceCtorEq, hd] <;> rfl)) rfl (by simp [AV.names, namesAll]) keep0
    · have hv := of_decide_eq_false hv
      repeat (first | apply vr0u | apply vr4 | apply b_tt | apply b_ff | apply b_tf | apply b_ft | apply b_no | exact isD.mk rfl | (apply eqG; (simp only [push_cast, ↓reduceIte, Nat.reduceEqDiff, Nat.reduceAdd, Nat.reduceLeDiff, Nat.reduceLT, Int.reduceLE, Int.reduceLT, Int.reduceAdd, Int.reduceSub, Int.reduceNeg, Int.reduceBEq, Int.reduceBNe, Int.reduceEq, Int.reduceGT, Int.reduceGE, Int.reduceMul, Int.reduceToNat, Nat.reduceMul, reduceCtorEq, hd] <;> rfl)) | exact (rfl : app (swap _ _) _ = _))
      refine vr_nil (aw_then ?_)
      refine aw_split (by (simp only [push_cast, ↓reduceIte, Nat.reduceEqDiff, Nat.reduceAdd, Nat.reduceLeDiff, Nat.reduceLT, Int.reduceLE, Int.reduceLT, Int.reduceAdd, Int.reduceSub, Int.reduceNeg, Int.reduceBEq, Int.reduceBNe, Int.reduceEq, Int.reduceGT, Int.reduceGE, Int.reduceMul, Int.reduceToNat, Nat.reduceMul, reduceCtorEq, hd] <;> rfl)) (fun hw => ?_) (fun hw => ?_)
      · have hw := of_decide_eq_true hw
        have ht : r.read i = (.ro true [] 0, 1) := by unfold RW.read; rw [if_neg hne1, if_pos (.inr hw)]
        rw [ht]
        refine AWp.seq ?_
        (refine aw_regionL hS (by kernel_rfl) ?_; repeat (first | apply vr0u | apply vr4 | apply b_tt | apply b_ff | apply b_tf | apply b_ft | apply b_no | exact isD.mk rfl | (apply eqG; (simp only [push_cast, ↓reduceIte, Nat.reduceEqDiff, Nat.reduceAdd, Nat.reduceLeDiff, Nat.reduceLT, Int.reduceLE, Int.reduceLT, Int.reduceAdd, Int.reduceSub, Int.reduceNeg, Int.reduceBEq, Int.reduceBNe, Int.reduceEq, Int.reduceGT, Int.reduceGE, Int.reduceMul, Int.reduceToNat, Nat.reduceMul, reduceCtorEq, hd] <;> rfl)) | exact (rfl : app (swap _ _) _ = _)))
        refine vr_nil (aw_then ?_)
        refine AWp.ret ?_
        exact Out.pure2 (.inr rfl) rfl (by (simp only [push_cast, ↓reduceIte, Nat.reduceEqDiff, Nat.reduceAdd, Nat.reduceLeDiff, Nat.reduceLT, Int.reduceLE, Int.reduceLT, Int.reduceAdd, Int.reduceSub, Int.reduceNeg, Int.reduceBEq, Int.reduceBNe, Int.reduceEq, Int.reduceGT, Int.reduceGE, Int.reduceMul, Int.reduceToNat, Nat.reduceMul, reduceCtorEq, hd] <;> rfl)) (by (simp only [push_cast, ↓reduceIte, Nat.reduceEqDiff, Nat.reduceAdd, Nat.reduceLeDiff, Nat.reduceLT, Int.reduceLE, Int.reduceLT, Int.reduceAdd, Int.reduceSub, Int.reduceNeg, Int.reduceBEq, Int.reduceBNe, Int.reduceEq, Int.reduceGT, Int.reduceGE, Int.reduceMul, Int.reduceToNat, Nat.reduceMul, reduceCtorEq, hd] <;> rfl)) rfl (by simp [AV.names, namesAll]) keep0
      · have hw := of_decide_eq_false hw
        exact AWp.skip (aw_then ⟨⟨by omega, by omega⟩, by (simp only [push_cast, ↓reduceIte, Nat.reduceEqDiff, Nat.reduceAdd, Nat.reduceLeDiff, Nat.reduceLT, Int.reduceLE, Int.reduceLT, Int.reduceAdd, Int.reduceSub, Int.reduceNeg, Int.reduceBEq, Int.reduceBNe, Int.reduceEq, Int.reduceGT, Int.reduceGE, Int.reduceMul, Int.reduceToNat, Nat.reduceMul, reduceCtorEq, hd] <;> rfl), by (simp only [push_cast, ↓reduceIte, Nat.reduceEqDiff, Nat.reduceAdd, Nat.reduceLeDiff, Nat.reduceLT, Int.reduceLE, Int.reduceLT, Int.reduceAdd, Int.reduceSub, Int.reduceNeg, Int.reduceBEq, Int.reduceBNe, Int.reduceEq, Int.reduceGT, Int.reduceGE, Int.reduceMul, Int.reduceToNat, Nat.reduceMul, reduceCtorEq, hd] <;> rfl), rfl⟩)
  rintro t1 g1 m1 - ⟨⟨hi0, hiN⟩, t0, t1', rfl⟩
  have ht : r.read i = (match lastK r.W i r.W.length with
    | some b => (.ro false (cellsB b) b.length, 0)
    | none => if r.T[i.toNat]? = some true then (.ro true [] 0, 15) else match r.S[i.toNat]? with
      | some b => (.ro false (cellsB b) b.length, 0)
      | none => (.ro true [] 0, 15)) := by unfold RW.read; rw [if_neg hne1, if_neg (by omega)]
  have qL := RW.wlen r
  have hwl := hr.wl
  refine AWp.cut (fun t' h' n' => lastK r.W i r.W.length = none ∧ t' 0 = .p d 0 ∧ t' 1 = .i .i64 i ∧ h' = g1) ?_ ?_
  · have w0 : IntKind.wrap .i64 ((r.W.length : Int) - 1) = (r.W.length : Int) - 1 := IntWalk.i64_in _ (by omega)
    refine AWp.cut (fun t' h' n' => t' 0 = .p d 0 ∧ t' 1 = .i .i64 i ∧ t' 6 = .i .i64 ((r.W.length : Int) - 1) ∧ h' = g1) ?_ ?_
    · by_cases hW0 : r.W = []
      · have hd' := hd
        rw [(RW.w0 hW0).1] at hd'
        rw [hW0]
        (refine aw_regionL hS (by kernel_rfl) ?_; repeat (first | apply vr0u | apply vr4 | apply b_tt | apply b_ff | apply b_tf | apply b_ft | apply b_no | exact isD.mk rfl | (apply eqG; (simp only [push_cast, ↓reduceIte, Nat.reduceEqDiff, Nat.reduceAdd, Nat.reduceLeDiff, Nat.reduceLT, Int.reduceLE, Int.reduceLT, Int.reduceAdd, Int.reduceSub, Int.reduceNeg, Int.reduceBEq, Int.reduceBNe, Int.reduceEq, Int.reduceGT, Int.reduceGE, Int.reduceMul, Int.reduceToNat, Nat.reduceMul, reduceCtorEq, hd', t0, t1'] <;> rfl)) | exact (rfl : app (swap _ _) _ = _)))
        exact vr_nil (aw_then ⟨by (simp only [push_cast, ↓reduceIte, Nat.reduceEqDiff, Nat.reduceAdd, Nat.reduceLeDiff, Nat.reduceLT, Int.reduceLE, Int.reduceLT, Int.reduceAdd, Int.reduceSub, Int.reduceNeg, Int.reduceBEq, Int.reduceBNe, Int.reduceEq, Int.reduceGT, Int.reduceGE, Int.reduceMul, Int.reduceToNat, Nat.reduceMul, reduceCtorEq, hd', t0, t1'] <;> rfl), by (simp only [push_cast, ↓reduceIte, Nat.reduceEqDiff, Nat.reduceAdd, Nat.reduceLeDiff, Nat.reduceLT, Int.reduceLE, Int.reduceLT, Int.reduceAdd, Int.reduceSub, Int.reduceNeg, Int.reduceBEq, Int.reduceBNe, Int.reduceEq, Int.reduceGT, Int.reduceGE, Int.reduceMul, Int.reduceToNat, Nat.reduceMul, reduceCtorEq, hd', t0, t1'] <;> rfl), by (simp only [push_cast, ↓reduceIte, Nat.reduceEqDiff, Nat.reduceAdd, Nat.reduceLeDiff, Nat.reduceLT, Int.reduceLE, Int.reduceLT, Int.reduceAdd, Int.reduceSub, Int.reduceNeg, Int.reduceBEq, Int.reduceBNe, Int.reduceEq, Int.reduceGT, Int.reduceGE, Int.reduceMul, Int.reduceToNat, Nat.reduceMul, reduceCtorEq, hd', t0, t1'] <;> rfl), rfl⟩)
      · have hd' := hd
        rw [(RW.w1 hW0).1] at hd'
        (refine aw_regionL hS (by kernel_rfl) ?_; repeat (first | apply vr0u | apply vr4 | apply b_tt | apply b_ff | apply b_tf | apply b_ft | apply b_no | exact isD.mk rfl | (apply eqG; (simp only [push_cast, ↓reduceIte, Nat.reduceEqDiff, Nat.reduceAdd, Nat.reduceLeDiff, Nat.reduceLT, Int.reduceLE, Int.reduceLT, Int.reduceAdd, Int.reduceSub, Int.reduceNeg, Int.reduceBEq, Int.reduceBNe, Int.reduceEq, Int.reduceGT, Int.reduceGE, Int.reduceMul, Int.reduceToNat, Nat.reduceMul, reduceCtorEq, hd', t0, t1', w0] <;> rfl)) | exact (rfl : app (swap _ _) _ = _)))
        exact vr_nil (aw_then ⟨by (simp only [push_cast, ↓reduceIte, Nat.reduceEqDiff, Nat.reduceAdd, Nat.reduceLeDiff, Nat.reduceLT, Int.reduceLE, Int.reduceLT, Int.reduceAdd, Int.reduceSub, Int.reduceNeg, Int.reduceBEq, Int.reduceBNe, Int.reduceEq, Int.reduceGT, Int.reduceGE, Int.reduceMul, Int.reduceToNat, Nat.reduceMul, reduceCtorEq, hd', t0, t1', w0] <;> rfl), by (simp only [push_cast, ↓reduceIte, Nat.reduceEqDiff, Nat.reduceAdd, Nat.reduceLeDiff, Nat.reduceLT, Int.reduceLE, Int.reduceLT, Int.reduceAdd, Int.reduceSub, Int.reduceNeg, Int.reduceBEq, Int.reduceBNe, Int.reduceEq, Int.reduceGT, Int.reduceGE, Int.reduceMul, Int.reduceToNat, Nat.reduceMul, reduceCtorEq, hd', t0, t1', w0] <;> rfl), by (simp only [push_cast, ↓reduceIte, Nat.reduceEqDiff, Nat.reduceAdd, Nat.reduceLeDiff, Nat.reduceLT, Int.reduceLE, Int.reduceLT, Int.reduceAdd, Int.reduceSub, Int.reduceNeg, Int.reduceBEq, Int.reduceBNe, Int.reduceEq, Int.reduceGT, Int.reduceGE, Int.reduceMul, Int.reduceToNat, Nat.reduceMul, reduceCtorEq, hd', t0, t1', w0] <;> rfl), rfl⟩)
    clear t0 t1'
    rintro t2 g2 m2 - ⟨t0, t1', t6, rfl⟩
    refine AWp.block ?_
    refine AWp.loop (fun m t' h' n' => ∃ k : Nat, m = k ∧ k ≤ r.W.length ∧ t' 0 = .p d 0 ∧ t' 1 = .i .i64 i ∧ t' 6 = .i .i64 ((k : Int) - 1) ∧ lastK r.W i r.W.length = lastK r.W i k ∧ h' = g2) r.W.length ?_ ?_
    · exact ⟨r.W.length, rfl, Nat.le_refl _, by (simp only [push_cast, ↓reduceIte, Nat.reduceEqDiff, Nat.reduceAdd, Nat.reduceLeDiff, Nat.reduceLT, Int.reduceLE, Int.reduceLT, Int.reduceAdd, Int.reduceSub, Int.reduceNeg, Int.reduceBEq, Int.reduceBNe, Int.reduceEq, Int.reduceGT, Int.reduceGE, Int.reduceMul, Int.reduceToNat, Nat.reduceMul, reduceCtorEq, hd, t0, t1', t6] <;> rfl), by (simp only [push_cast, ↓reduceIte, Nat.reduceEqDiff, Nat.reduceAdd, Nat.reduceLeDiff, Nat.reduceLT, Int.reduceLE, Int.reduceLT, Int.reduceAdd, Int.reduceSub, Int.reduceNeg, Int.reduceBEq, Int.reduceBNe, Int.reduceEq, Int.reduceGT, Int.reduceGE, Int.reduceMul, Int.reduceToNat, Nat.reduceMul, reduceCtorEq, hd, t0, t1', t6] <;> rfl), by (simp only [push_cast, ↓reduceIte, Nat.reduceEqDiff, Nat.reduceAdd, Nat.reduceLeDiff, Nat.reduceLT, Int.reduceLE, Int.reduceLT, Int.reduceAdd, Int.reduceSub, Int.reduceNeg, Int.reduceBEq, Int.reduceBNe, Int.reduceEq, Int.reduceGT, Int.reduceGE, Int.reduceMul, Int.reduceToNat, Nat.reduceMul, reduceCtorEq, hd, t0, t1', t6] <;> rfl), rfl, rfl⟩
    · rintro m t' h' n' - ⟨k, rfl, hkl, t0, t1', t6, hlast, rfl⟩
      cases m with
      | zero =>
        have t6 : t' 6 = .i .i64 (-1) := t6
        refine AWp.seq ?_
        refine AWp.seq ?_
        (refine aw_regionL hS (by kernel_rfl) ?_; repeat (first | apply vr0u | apply vr4 | apply b_tt | apply b_ff | apply b_tf | apply b_ft | apply b_no | exact isD.mk rfl | (apply eqG; (simp only [push_cast, ↓reduceIte, Nat.reduceEqDiff, Nat.reduceAdd, Nat.reduceLeDiff, Nat.reduceLT, Int.reduceLE, Int.reduceLT, Int.reduceAdd, Int.reduceSub, Int.reduceNeg, Int.reduceBEq, Int.reduceBNe, Int.reduceEq, Int.reduceGT, Int.reduceGE, Int.reduceMul, Int.reduceToNat, Nat.reduceMul, reduceCtorEq, hd, t0, t1', t6] <;> rfl)) | exact (rfl : app (swap _ _) _ = _)))
        refine vr_nil (aw_then ?_)
        refine aw_false (by (simp only [push_cast, ↓reduceIte, Nat.reduceEqDiff, Nat.reduceAdd, Nat.reduceLeDiff, Nat.reduceLT, Int.reduceLE, Int.reduceLT, Int.reduceAdd, Int.reduceSub, Int.reduceNeg, Int.reduceBEq, Int.reduceBNe, Int.reduceEq, Int.reduceGT, Int.reduceGE, Int.reduceMul, Int.reduceToNat, Nat.reduceMul, reduceCtorEq, hd, t0, t1', t6] <;> rfl)) (AWp.exit (aw_thru (aw_thru (aw_exit (aw_then ?_)))))
        exact ⟨hlast, by (simp only [push_cast, ↓reduceIte, Nat.reduceEqDiff, Nat.reduceAdd, Nat.reduceLeDiff, Nat.reduceLT, Int.reduceLE, Int.reduceLT, Int.reduceAdd, Int.reduceSub, Int.reduceNeg, Int.reduceBEq, Int.reduceBNe, Int.reduceEq, Int.reduceGT, Int.reduceGE, Int.reduceMul, Int.reduceToNat, Nat.reduceMul, reduceCtorEq, hd, t0, t1', t6] <;> rfl), by (simp only [push_cast, ↓reduceIte, Nat.reduceEqDiff, Nat.reduceAdd, Nat.reduceLeDiff, Nat.reduceLT, Int.reduceLE, Int.reduceLT, Int.reduceAdd, Int.reduceSub, Int.reduceNeg, Int.reduceBEq, Int.reduceBNe, Int.reduceEq, Int.reduceGT, Int.reduceGE, Int.reduceMul, Int.reduceToNat, Nat.reduceMul, reduceCtorEq, hd, t0, t1', t6] <;> rfl), rfl⟩
      | succ k =>
        have hk : k < r.W.length := by omega
        have hW0 : r.W ≠ [] := fun e => by rw [e] at hk; simp at hk
        obtain ⟨e1, _⟩ := RW.w1 hW0
        obtain ⟨hjw, _⟩ := F.hW hW0
        have hd' := hd
        rw [e1] at hd'
        obtain ⟨q4, q5⟩ := wrC_at hk
        have q3 : (k * 2 + 2 ≤ (wrC r.W).length) = True := by rw [wrC_len]; simp only [eq_iff_iff, iff_true]; omega
        have e6 : ((k + 1 : Nat) : Int) - 1 = (k : Int) := by omega
        rw [e6] at t6
        have q1 : (0 ≤ (k : Int)) = True := by simp
        have q2 : ((k : Int) < (r.W.length : Int)) = True := by simp [hk]
        have w1 : IntKind.wrap .i64 ((k : Int) - 1) = (k : Int) - 1 := IntWalk.i64_in _ (by omega)
        have elast : lastK r.W i (k + 1) = if (r.W[k].1 : Int) = i then some r.W[k].2 else lastK r.W i k := by simp only [lastK, List.getElem?_eq_getElem hk]
        refine AWp.seq ?_
        refine AWp.seq ?_
        (refine aw_regionL hS (by kernel_rfl) ?_; repeat (first | apply vr0u | apply vr4 | apply b_tt | apply b_ff | apply b_tf | apply b_ft | apply b_no | exact isD.mk rfl | (apply eqG; (simp only [push_cast, ↓reduceIte, Nat.reduceEqDiff, Nat.reduceAdd, Nat.reduceLeDiff, Nat.reduceLT, Int.reduceLE, Int.reduceLT, Int.reduceAdd, Int.reduceSub, Int.reduceNeg, Int.reduceBEq, Int.reduceBNe, Int.reduceEq, Int.reduceGT, Int.reduceGE, Int.reduceMul, Int.reduceToNat, Nat.reduceMul, reduceCtorEq, hd', t0, t1', t6, hjw, q1, q2, q3, q4, q5, w1] <;> rfl)) | exact (rfl : app (swap _ _) _ = _)))
        refine vr_nil (aw_then ?_)
        refine aw_true (by (simp only [push_cast, ↓reduceIte, Nat.reduceEqDiff, Nat.reduceAdd, Nat.reduceLeDiff, Nat.reduceLT, Int.reduceLE, Int.reduceLT, Int.reduceAdd, Int.reduceSub, Int.reduceNeg, Int.reduceBEq, Int.reduceBNe, Int.reduceEq, Int.reduceGT, Int.reduceGE, Int.reduceMul, Int.reduceToNat, Nat.reduceMul, reduceCtorEq, hd', t0, t1', t6, hjw, q1, q2, q3, q4, q5, w1] <;> rfl)) (AWp.skip (aw_then ?_))
        refine AWp.seq ?_
        refine AWp.block ?_
        refine AWp.seq ?_
        (refine aw_regionL hS (by kernel_rfl) ?_; repeat (first | apply vr0u | apply vr4 | apply b_tt | apply b_ff | apply b_tf | apply b_ft | apply b_no | exact isD.mk rfl | (apply eqG; (simp only [push_cast, ↓reduceIte, Nat.reduceEqDiff, Nat.reduceAdd, Nat.reduceLeDiff, Nat.reduceLT, Int.reduceLE, Int.reduceLT, Int.reduceAdd, Int.reduceSub, Int.reduceNeg, Int.reduceBEq, Int.reduceBNe, Int.reduceEq, Int.reduceGT, Int.reduceGE, Int.reduceMul, Int.reduceToNat, Nat.reduceMul, reduceCtorEq, hd', t0, t1', t6, hjw, q1, q2, q3, q4, q5, w1] <;> rfl)) | exact (rfl : app (swap _ _) _ = _)))
        refine vr_nil (aw_then ?_)
        refine aw_split (by (simp only [push_cast, ↓reduceIte, Nat.reduceEqDiff, Nat.reduceAdd, Nat.reduceLeDiff, Nat.reduceLT, Int.reduceLE, Int.reduceLT, Int.reduceAdd, Int.reduceSub, Int.reduceNeg, Int.reduceBEq, Int.reduceBNe, Int.reduceEq, Int.reduceGT, Int.reduceGE, Int.reduceMul, Int.reduceToNat, Nat.reduceMul, reduceCtorEq, hd', t0, t1', t6, hjw, q1, q2, q3, q4, q5, w1] <;> rfl)) (fun hv => ?_) (fun hv => ?_)
        · have hv : (r.W[k].1 : Int) = i := by simpa using hv
          rw [ht, hlast, elast, if_pos hv]
          refine AWp.seq ?_
          (refine aw_regionL hS (by kernel_rfl) ?_; repeat (first | apply vr0u | apply vr4 | apply b_tt | apply b_ff | apply b_tf | apply b_ft | apply b_no | exact isD.mk rfl | (apply eqG; (simp only [push_cast, ↓reduceIte, Nat.reduceEqDiff, Nat.reduceAdd, Nat.reduceLeDiff, Nat.reduceLT, Int.reduceLE, Int.reduceLT, Int.reduceAdd, Int.reduceSub, Int.reduceNeg, Int.reduceBEq, Int.reduceBNe, Int.reduceEq, Int.reduceGT, Int.reduceGE, Int.reduceMul, Int.reduceToNat, Nat.reduceMul, reduceCtorEq, hd', t0, t1', t6, hjw, q1, q2, q3, q4, q5, w1] <;> rfl)) | exact (rfl : app (swap _ _) _ = _)))
          refine vr_nil (aw_then ?_)
          refine AWp.ret ?_
          exact Out.pure2 (.inr rfl) rfl (by (simp only [push_cast, ↓reduceIte, Nat.reduceEqDiff, Nat.reduceAdd, Nat.reduceLeDiff, Nat.reduceLT, Int.reduceLE, Int.reduceLT, Int.reduceAdd, Int.reduceSub, Int.reduceNeg, Int.reduceBEq, Int.reduceBNe, Int.reduceEq, Int.reduceGT, Int.reduceGE, Int.reduceMul, Int.reduceToNat, Nat.reduceMul, reduceCtorEq, hd', t0, t1', t6, hjw, q1, q2, q3, q4, q5, w1] <;> rfl)) (by (simp only [push_cast, ↓reduceIte, Nat.reduceEqDiff, Nat.reduceAdd, Nat.reduceLeDiff, Nat.reduceLT, Int.reduceLE, Int.reduceLT, Int.reduceAdd, Int.reduceSub, Int.reduceNeg, Int.reduceBEq, Int.reduceBNe, Int.reduceEq, Int.reduceGT, Int.reduceGE, Int.reduceMul, Int.reduceToNat, Nat.reduceMul, reduceCtorEq, hd', t0, t1', t6, hjw, q1, q2, q3, q4, q5, w1] <;> rfl)) rfl (show namesAll (· < n) [AV.ro false (cellsB r.W[k].2) r.W[k].2.length, .i .i64 0] from ⟨AV.free_names _ (by simp [AV.free, free_cellsB]), trivial, trivial⟩) keep0
        · have hv : ¬ (r.W[k].1 : Int) = i := by simpa using hv
          refine AWp.skip (aw_in (aw_then ?_))
          (refine aw_regionL hS (by kernel_rfl) ?_; repeat (first | apply vr0u | apply vr4 | apply b_tt | apply b_ff | apply b_tf | apply b_ft | apply b_no | exact isD.mk rfl | (apply eqG; (simp only [push_cast, ↓reduceIte, Nat.reduceEqDiff, Nat.reduceAdd, Nat.reduceLeDiff, Nat.reduceLT, Int.reduceLE, Int.reduceLT, Int.reduceAdd, Int.reduceSub, Int.reduceNeg, Int.reduceBEq, Int.reduceBNe, Int.reduceEq, Int.reduceGT, Int.reduceGE, Int.reduceMul, Int.reduceToNat, Nat.reduceMul, reduceCtorEq, hd', t0, t1', t6, hjw, q1, q2, q3, q4, q5, w1] <;> rfl)) | exact (rfl : app (swap _ _) _ = _)))
          exact vr_nil (aw_then ⟨k, by omega, k, rfl, by omega, by (simp only [push_cast, ↓reduceIte, Nat.reduceEqDiff, Nat.reduceAdd, Nat.reduceLeDiff, Nat.reduceLT, Int.reduceLE, Int.reduceLT, Int.reduceAdd, Int.reduceSub, Int.reduceNeg, Int.reduceBEq, Int.reduceBNe, Int.reduceEq, Int.reduceGT, Int.reduceGE, Int.reduceMul, Int.reduceToNat, Nat.reduceMul, reduceCtorEq, hd', t0, t1', t6, hjw, q1, q2, q3, q4, q5, w1] <;> rfl), by (simp only [push_cast, ↓reduceIte, Nat.reduceEqDiff, Nat.reduceAdd, Nat.reduceLeDiff, Nat.reduceLT, Int.reduceLE, Int.reduceLT, Int.reduceAdd, Int.reduceSub, Int.reduceNeg, Int.reduceBEq, Int.reduceBNe, Int.reduceEq, Int.reduceGT, Int.reduceGE, Int.reduceMul, Int.reduceToNat, Nat.reduceMul, reduceCtorEq, hd', t0, t1', t6, hjw, q1, q2, q3, q4, q5, w1] <;> rfl), by (simp only [push_cast, ↓reduceIte, Nat.reduceEqDiff, Nat.reduceAdd, Nat.reduceLeDiff, Nat.reduceLT, Int.reduceLE, Int.reduceLT, Int.reduceAdd, Int.reduceSub, Int.reduceNeg, Int.reduceBEq, Int.reduceBNe, Int.reduceEq, Int.reduceGT, Int.reduceGE, Int.reduceMul, Int.reduceToNat, Nat.reduceMul, reduceCtorEq, hd', t0, t1', t6, hjw, q1, q2, q3, q4, q5, w1] <;> rfl), by rw [hlast, elast, if_neg hv], rfl⟩)
  · rintro t2 g2 m2 - ⟨hlast, t0, t1', rfl⟩
    rw [ht, hlast]
    obtain ⟨k, rfl⟩ : ∃ k : Nat, i = (k : Int) := ⟨i.toNat, by omega⟩
    have hkT : k < r.T.length := by rw [hr.len]; omega
    have hkS : k < r.S.length := by omega
    have q2 : (0 ≤ (k : Int) ∧ (k : Int) < (r.T.length : Int)) = True := by simp; omega
    have q3 : (0 ≤ (k : Int) ∧ (k : Int) < (r.S.length : Int)) = True := by simp; omega
    have q4 := bools_get hkT
    have q5 := secsV_get hkS
    have q6 : (k + 1 ≤ (bools r.T).length) = True := by rw [len_bools]; simp only [eq_iff_iff, iff_true]; omega
    have q7 : (k + 1 ≤ (secsV r.S).length) = True := by rw [secsV_len]; simp only [eq_iff_iff, iff_true]; omega
    simp only [Int.toNat_natCast, List.getElem?_eq_getElem hkT, List.getElem?_eq_getElem hkS]
    refine AWp.seq ?_
    refine AWp.seq ?_
    (refine aw_regionL hS (by kernel_rfl) ?_; repeat (first | apply vr0u | apply vr4 | apply b_tt | apply b_ff | apply b_tf | apply b_ft | apply b_no | exact isD.mk rfl | (apply eqG; (simp only [push_cast, ↓reduceIte, Nat.reduceEqDiff, Nat.reduceAdd, Nat.reduceLeDiff, Nat.reduceLT, Int.reduceLE, Int.reduceLT, Int.reduceAdd, Int.reduceSub, Int.reduceNeg, Int.reduceBEq, Int.reduceBNe, Int.reduceEq, Int.reduceGT, Int.reduceGE, Int.reduceMul, Int.reduceToNat, Nat.reduceMul, reduceCtorEq, hd, t0, t1', hTT, hSS, q2, q3, q4, q5, q6, q7] <;> rfl)) | exact (rfl : app (swap _ _) _ = _)))
    refine vr_nil (aw_then ?_)
    refine aw_split (by (simp only [push_cast, ↓reduceIte, Nat.reduceEqDiff, Nat.reduceAdd, Nat.reduceLeDiff, Nat.reduceLT, Int.reduceLE, Int.reduceLT, Int.reduceAdd, Int.reduceSub, Int.reduceNeg, Int.reduceBEq, Int.reduceBNe, Int.reduceEq, Int.reduceGT, Int.reduceGE, Int.reduceMul, Int.reduceToNat, Nat.reduceMul, reduceCtorEq, hd, t0, t1', hTT, hSS, q2, q3, q4, q5, q6, q7] <;> rfl)) (fun hv => ?_) (fun hv => ?_)
    · rw [if_pos (by rw [hv])]
      refine AWp.seq ?_
      (refine aw_regionL hS (by kernel_rfl) ?_; repeat (first | apply vr0u | apply vr4 | apply b_tt | apply b_ff | apply b_tf | apply b_ft | apply b_no | exact isD.mk rfl | (apply eqG; (simp only [push_cast, ↓reduceIte, Nat.reduceEqDiff, Nat.reduceAdd, Nat.reduceLeDiff, Nat.reduceLT, Int.reduceLE, Int.reduceLT, Int.reduceAdd, Int.reduceSub, Int.reduceNeg, Int.reduceBEq, Int.reduceBNe, Int.reduceEq, Int.reduceGT, Int.reduceGE, Int.reduceMul, Int.reduceToNat, Nat.reduceMul, reduceCtorEq, hd, t0, t1', hTT, hSS, q2, q3, q4, q5, q6, q7] <;> rfl)) | exact (rfl : app (swap _ _) _ = _)))
      refine vr_nil (aw_then ?_)
      refine AWp.ret ?_
      exact Out.pure2 (.inr rfl) rfl (by (simp only [push_cast, ↓reduceIte, Nat.reduceEqDiff, Nat.reduceAdd, Nat.reduceLeDiff, Nat.reduceLT, Int.reduceLE, Int.reduceLT, Int.reduceAdd, Int.reduceSub, Int.reduceNeg, Int.reduceBEq, Int.reduceBNe, Int.reduceEq, Int.reduceGT, Int.reduceGE, Int.reduceMul, Int.reduceToNat, Nat.reduceMul, reduceCtorEq, hd, t0, t1', hTT, hSS, q2, q3, q4, q5, q6, q7] <;> rfl)) (by (simp only [push_cast, ↓reduceIte, Nat.reduceEqDiff, Nat.reduceAdd, Nat.reduceLeDiff, Nat.reduceLT, Int.reduceLE, Int.reduceLT, Int.reduceAdd, Int.reduceSub, Int.reduceNeg, Int.reduceBEq, Int.reduceBNe, Int.reduceEq, Int.reduceGT, Int.reduceGE, Int.reduceMul, Int.reduceToNat, Nat.reduceMul, reduceCtorEq, hd, t0, t1', hTT, hSS, q2, q3, q4, q5, q6, q7] <;> rfl)) rfl (by simp [AV.names, namesAll]) keep0
    · rw [if_neg (by rw [hv]; simp)]
      refine AWp.skip (aw_then ?_)
      refine AWp.seq ?_
      (refine aw_regionL hS (by kernel_rfl) ?_; repeat (first | apply vr0u | apply vr4 | apply b_tt | apply b_ff | apply b_tf | apply b_ft | apply b_no | exact isD.mk rfl | (apply eqG; (simp only [push_cast, ↓reduceIte, Nat.reduceEqDiff, Nat.reduceAdd, Nat.reduceLeDiff, Nat.reduceLT, Int.reduceLE, Int.reduceLT, Int.reduceAdd, Int.reduceSub, Int.reduceNeg, Int.reduceBEq, Int.reduceBNe, Int.reduceEq, Int.reduceGT, Int.reduceGE, Int.reduceMul, Int.reduceToNat, Nat.reduceMul, reduceCtorEq, hd, t0, t1', hTT, hSS, q2, q3, q4, q5, q6, q7] <;> rfl)) | exact (rfl : app (swap _ _) _ = _)))
      refine vr_nil (aw_then ?_)
      refine AWp.ret ?_
      exact Out.pure2 (.inr rfl) rfl (by (simp only [push_cast, ↓reduceIte, Nat.reduceEqDiff, Nat.reduceAdd, Nat.reduceLeDiff, Nat.reduceLT, Int.reduceLE, Int.reduceLT, Int.reduceAdd, Int.reduceSub, Int.reduceNeg, Int.reduceBEq, Int.reduceBNe, Int.reduceEq, Int.reduceGT, Int.reduceGE, Int.reduceMul, Int.reduceToNat, Nat.reduceMul, reduceCtorEq, hd, t0, t1', hTT, hSS, q2, q3, q4, q5, q6, q7] <;> rfl)) (by (simp only [push_cast, ↓reduceIte, Nat.reduceEqDiff, Nat.reduceAdd, Nat.reduceLeDiff, Nat.reduceLT, Int.reduceLE, Int.reduceLT, Int.reduceAdd, Int.reduceSub, Int.reduceNeg, Int.reduceBEq, Int.reduceBNe, Int.reduceEq, Int.reduceGT, Int.reduceGE, Int.reduceMul, Int.reduceToNat, Nat.reduceMul, reduceCtorEq, hd, t0, t1', hTT, hSS, q2, q3, q4, q5, q6, q7] <;> rfl)) rfl (show namesAll (· < n) [AV.ro false (cellsB r.S[k]) r.S[k].length, .i .i64 0] from ⟨AV.free_names _ (by simp [AV.free, free_cellsB]), trivial, trivial⟩) keep0

end Go.Proofs.Ytepfknnffooaiaa
