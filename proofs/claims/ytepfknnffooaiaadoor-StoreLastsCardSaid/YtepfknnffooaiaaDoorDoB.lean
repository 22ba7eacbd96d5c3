import Derived.Test.YtepfknnffooaiaaDoorDoA

namespace Go.Proofs.YtepfknnffooaiaaDoor
open Go.Av
set_option maxRecDepth 100000
set_option maxHeartbeats 1000000
set_option linter.unusedSimpArgs false
set_option linter.unusedVariables false
attribute [local push_cast] stepE callR resE aeff aev ofC ofC1 put_at Av.put_none inTmps List.getD_cons_zero List.getD_cons_succ AV.boxable if_true if_false AV.cells aload place app_cons app_nil upd_same Av.part abin aconv aindexAddr fillA splice_one abuiltin alen amax amin aun aindex Option.map_some Option.isSome_some List.map_cons List.map_nil List.nil_append List.append_nil List.cons_append Nat.le_refl Nat.zero_add Nat.add_zero List.length_cons List.length_nil List.drop_succ_cons List.drop_zero List.take_succ_cons List.take_zero beq_self_eq_true bne_self_eq_false Bool.not_true Bool.not_false List.set_cons_zero List.set_cons_succ Bool.false_eq_true IntWalk.i64_in decide_true decide_false Int.toNat_zero and_self and_true true_and List.getElem?_cons_zero List.getElem?_cons_succ aappend aapp view Bool.and_true Bool.true_and Nat.mul_one Option.map_none aslice asliceB nilOp Int.toNat_natCast und_30 agT_3 szT_3 kiT_3 agT_5 szT_5 kiT_5 agT_24 szT_24 kiT_24 agT_62 szT_62 kiT_62 agT_4 szT_4 kiT_4 agT_9 szT_9 kiT_9 agT_44 szT_44 kiT_44 agT_45 szT_45 kiT_45 agT_30 szT_30 kiT_30 agT_22 szT_22 kiT_22 agT_41 szT_41 kiT_41 agT_51 szT_51 kiT_51 agT_52 szT_52 kiT_52 agT_23 szT_23 kiT_23 agT_53 szT_53 kiT_53 agT_27 szT_27 kiT_27 agT_89 szT_89 kiT_89 agT_66 szT_66 kiT_66 agT_20 szT_20 kiT_20 slT_45 slT_44 slT_30 slT_22 slT_41 slT_51 slT_52 zeT_3 zeT_4 zeT_5 zeT_30 zeT_24 flT_55_0 flT_55_1 flT_55_2 flT_55_3 flT_55_4 agT_55 szT_55 buT_55 zeT_55 flT_57_0 flT_57_1 agT_57 szT_57 buT_57 zeT_57 flT_74_0 flT_74_1 agT_74 szT_74 buT_74 zeT_74 flT_77_0 flT_77_1 flT_77_2 agT_77 szT_77 buT_77 zeT_77 flT_47_0 flT_47_1 flT_47_2 flT_47_3 flT_47_4 flT_47_5 agT_47 szT_47 buT_47 zeT_47 flT_61_0 flT_61_1 agT_61 szT_61 buT_61 zeT_61 flT_64_0 flT_64_1 agT_64 szT_64 buT_64 zeT_64 flT_91_0 flT_91_1 agT_91 szT_91 buT_91 zeT_91 ptT_23 ptT_53 ptT_27 ptT_89 und_30 

/-! ### a disk, and where its memory lies -/
structure DW where
  js : Nat
  jn : Nat
  jp : Nat
  jt : Nat
  safe : List Sec
  now : List Sec
  pend : List (Nat × List UInt8)
  off : Bool
  trip : Option (Int × Bool × List Bool × Int)
def trC (x : Int × Bool × List Bool × Int) : List AV := [.i .i64 x.1, .ro x.2.1 (bools x.2.2.1) x.2.2.1.length, .i .i64 x.2.2.2]
def DW.pd (w : DW) : AV := if w.pend = [] then .ro true [] 0 else .sl 2 w.jp 0 w.pend.length
def DW.pL (w : DW) : Lst := if w.pend = [] then [] else [(w.jp, wrC w.pend)]
def DW.tr (w : DW) : AV := match w.trip with | none => .np | some _ => .p w.jt 0
def DW.tL (w : DW) : Lst := match w.trip with | none => [] | some x => [(w.jt, trC x)]
def DW.rowD (w : DW) : List AV := [.sl 2 w.js 0 w.safe.length, .sl 2 w.jn 0 w.now.length, w.pd, .b w.off, w.tr]
def DW.cont (d : Nat) (w : DW) : Lst := (d, w.rowD) :: (w.js, secC w.safe) :: (w.jn, secC w.now) :: (w.pL ++ w.tL)
structure DOk (w : DW) : Prop where
  len : w.now.length = w.safe.length
  n0 : w.safe.length ≤ 256
  pe : ∀ p, p ∈ w.pend → p.1 < w.safe.length ∧ p.2.length = 64
  s1 : ∀ b, some b ∈ w.safe → b.length = 64
  s2 : ∀ b, some b ∈ w.now → b.length = 64
  tp : ∀ x, w.trip = some x → (x.2.1 = true → x.2.2.1 = []) ∧ x.2.2.1.length ≤ 1000000 ∧ 1 ≤ x.1 ∧ x.1 ≤ 9223372036854775807
theorem DW.pend0 {w : DW} (h : w.pend = []) : w.pd = .ro true [] 0 ∧ w.pL = [] := ⟨if_pos h, if_pos h⟩
theorem DW.pend1 {w : DW} (h : w.pend ≠ []) : w.pd = .sl 2 w.jp 0 w.pend.length ∧ w.pL = [(w.jp, wrC w.pend)] := ⟨if_neg h, if_neg h⟩
theorem DW.trip0 {w : DW} (h : w.trip = none) : w.tr = .np ∧ w.tL = [] := by simp [DW.tr, DW.tL, h]
theorem DW.trip1 {w : DW} {x} (h : w.trip = some x) : w.tr = .p w.jt 0 ∧ w.tL = [(w.jt, trC x)] := by simp [DW.tr, DW.tL, h]
structure DFacts (h : Heap) (d : Nat) (w : DW) : Prop where
  hd : h d = some (.cells w.rowD)
  hs : h w.js = some (.cells (secC w.safe))
  hn : h w.jn = some (.cells (secC w.now))
  hp : w.pend ≠ [] → h w.jp = some (.cells (wrC w.pend)) ∧ w.jp ≠ d ∧ w.jp ≠ w.js ∧ w.jp ≠ w.jn
  ht : ∀ x, w.trip = some x → h w.jt = some (.cells (trC x)) ∧ w.jt ≠ d ∧ w.jt ≠ w.js ∧ w.jt ≠ w.jn ∧ (w.pend ≠ [] → w.jt ≠ w.jp)
  ds : d ≠ w.js
  dn : d ≠ w.jn
  sn : w.js ≠ w.jn
theorem DFacts.of {h : Heap} {d : Nat} {w : DW} (hL : Has h (w.cont d)) : DFacts h d w := by
  have hN : (w.cont d).keys.Nodup := hL.2
  have hA := hL.1
  simp only [DW.cont, Lst.keys, List.map_cons, List.nodup_cons, List.mem_cons, not_or, List.map_append, List.mem_append] at hN
  obtain ⟨⟨n1, n2, n3, n4⟩, ⟨n5, n6, n7⟩, ⟨n8, n9⟩, n10⟩ := hN
  refine ⟨hA (d, w.rowD) (by simp [DW.cont]), hA (w.js, _) (by simp [DW.cont]), hA (w.jn, _) (by simp [DW.cont]), fun hp => ?_, fun x hx => ?_, n1, n2, n5⟩
  · obtain ⟨_, e⟩ := DW.pend1 hp
    rw [e] at n3 n6 n8
    exact ⟨hA (w.jp, _) (by simp [DW.cont, e]), fun he => n3 (by simp [he]), fun he => n6 (by simp [he]), fun he => n8 (by simp [he])⟩
  · obtain ⟨_, e⟩ := DW.trip1 hx
    rw [e] at n4 n7 n9 n10
    refine ⟨hA (w.jt, trC x) (by simp [DW.cont, e]), fun he => n4 (by simp [he]), fun he => n7 (by simp [he]), fun he => n9 (by simp [he]), fun hp he => ?_⟩
    obtain ⟨_, e2⟩ := DW.pend1 hp
    rw [e2] at n10
    simp [he] at n10
theorem DFacts.has {h : Heap} {d : Nat} {w : DW} (F : DFacts h d w) : Has h (w.cont d) := by
  refine ⟨fun p hp => ?_, ?_⟩
  · simp only [DW.cont, List.mem_cons, List.mem_append] at hp
    rcases hp with rfl | rfl | rfl | hp | hp
    · exact F.hd
    · exact F.hs
    · exact F.hn
    · by_cases he : w.pend = []
      · rw [(DW.pend0 he).2] at hp; cases hp
      · rw [(DW.pend1 he).2] at hp; rw [List.mem_singleton.1 hp]; exact (F.hp he).1
    · cases he : w.trip with
      | none => rw [(DW.trip0 he).2] at hp; cases hp
      | some x => rw [(DW.trip1 he).2] at hp; rw [List.mem_singleton.1 hp]; exact (F.ht x he).1
  · simp only [DW.cont, Lst.keys, List.map_cons, List.nodup_cons, List.mem_cons, not_or, List.map_append, List.mem_append]
    have h1 : ∀ j, (w.pend ≠ [] → w.jp ≠ j) → j ∉ List.map (fun p : Nat × List AV => p.1) w.pL := fun j hj hm => by
      by_cases he : w.pend = []
      · rw [(DW.pend0 he).2] at hm; cases hm
      · rw [(DW.pend1 he).2] at hm; exact hj he (List.mem_singleton.1 hm).symm
    have h2 : ∀ j, (∀ x, w.trip = some x → w.jt ≠ j) → j ∉ List.map (fun p : Nat × List AV => p.1) w.tL := fun j hj hm => by
      cases he : w.trip with
      | none => rw [(DW.trip0 he).2] at hm; cases hm
      | some x => rw [(DW.trip1 he).2] at hm; exact hj x he (List.mem_singleton.1 hm).symm
    refine ⟨⟨F.ds, F.dn, h1 _ fun hp => (F.hp hp).2.1, h2 _ fun x hx => (F.ht x hx).2.1⟩, ⟨F.sn, h1 _ fun hp => (F.hp hp).2.2.1, h2 _ fun x hx => (F.ht x hx).2.2.1⟩, ⟨h1 _ fun hp => (F.hp hp).2.2.2, h2 _ fun x hx => (F.ht x hx).2.2.2.1⟩, ?_⟩
    by_cases he : w.pend = []
    · rw [(DW.pend0 he).2]
      cases ht : w.trip with
      | none => rw [(DW.trip0 ht).2]; simp
      | some x => rw [(DW.trip1 ht).2]; simp
    · rw [(DW.pend1 he).2]
      cases ht : w.trip with
      | none => rw [(DW.trip0 ht).2]; simp
      | some x => rw [(DW.trip1 ht).2]; simpa using fun e => (F.ht x ht).2.2.2.2 he e.symm
theorem DW.keys_iff {d : Nat} {w : DW} {j : Nat} : j ∈ (w.cont d).keys ↔ j = d ∨ j = w.js ∨ j = w.jn ∨ (w.pend ≠ [] ∧ j = w.jp) ∨ (w.trip ≠ none ∧ j = w.jt) := by
  simp only [DW.cont, Lst.keys, List.map_cons, List.mem_cons, List.map_append, List.mem_append]
  have h1 : j ∈ List.map (fun p : Nat × List AV => p.1) w.pL ↔ w.pend ≠ [] ∧ j = w.jp := by
    by_cases he : w.pend = []
    · rw [(DW.pend0 he).2]; simp [he]
    · rw [(DW.pend1 he).2]; simp [he]
  have h2 : j ∈ List.map (fun p : Nat × List AV => p.1) w.tL ↔ w.trip ≠ none ∧ j = w.jt := by
    cases he : w.trip with
    | none => rw [(DW.trip0 he).2]; simp
    | some x => rw [(DW.trip1 he).2]; simp
  rw [h1, h2]
/-- The contents name rows of their own alone. -/
theorem DW.names {d n : Nat} {w : DW} (h : ∀ j, j ∈ (w.cont d).keys → j < n) : ∀ p, p ∈ w.cont d → namesAll (· < n) p.2 := fun p hp => by
  simp only [DW.cont, List.mem_cons, List.mem_append] at hp
  rcases hp with rfl | rfl | rfl | hp | hp
  · refine ⟨h _ (DW.keys_iff.2 (.inr (.inl rfl))), h _ (DW.keys_iff.2 (.inr (.inr (.inl rfl)))), ?_, trivial, ?_, trivial⟩
    · by_cases he : w.pend = []
      · rw [(DW.pend0 he).1]; exact trivial
      · rw [(DW.pend1 he).1]; exact h _ (DW.keys_iff.2 (.inr (.inr (.inr (.inl ⟨he, rfl⟩)))))
    · cases he : w.trip with
      | none => rw [(DW.trip0 he).1]; exact trivial
      | some x => rw [(DW.trip1 he).1]; exact h _ (DW.keys_iff.2 (.inr (.inr (.inr (.inr ⟨by rw [he]; simp, rfl⟩)))))
  · exact freeAll_names _ (free_secC _)
  · exact freeAll_names _ (free_secC _)
  · by_cases he : w.pend = []
    · rw [(DW.pend0 he).2] at hp; cases hp
    · rw [(DW.pend1 he).2] at hp; rw [List.mem_singleton.1 hp]; exact freeAll_names _ (free_wrC _)
  · cases he : w.trip with
    | none => rw [(DW.trip0 he).2] at hp; cases hp
    | some x => rw [(DW.trip1 he).2] at hp; rw [List.mem_singleton.1 hp]; exact freeAll_names _ (by simp [trC, freeAll, AV.free, free_bools])
/-- A body that comes to the disk turned so. -/
theorem Out.disk {fn : Func} {n : Nat} {h : Heap} {d : Nat} {w w' : DW} {r : AV} {e : Exit} {t : Tmps} {h1 : Heap} {n1 n2 : Nat} {xs : List AV} (he : e = .normal ∨ e = .ret) (hx : resAll Tryd.prog t h1 fn.results.toList = some xs) (hr : resOne xs = r) (hn : n ≤ n2) (hn2 : n2 ≤ n1) (hnm : r.names (· < n2))
    (hL : Has h (w.cont d)) (hlt : ∀ j, j ∈ (w.cont d).keys → j < n) (hL' : DFacts h1 d w') (hJ : ∀ j, j ∈ (w'.cont d).keys → j ∈ (w.cont d).keys ∨ (n ≤ j ∧ j < n2)) (hk : ∀ x r, x < n → h x = some r → x ∉ (w.cont d).keys → h1 x = some r) :
    Out Tryd.prog fn n h r (swap (w.cont d) (w'.cont d)) n2 e t h1 n1 :=
  Out.swap he hx hr hn hn2 hnm hL hL'.has hJ (DW.names fun j hj => by rcases hJ j hj with h | h; exact Nat.lt_of_lt_of_le (hlt j h) hn; exact h.2) hk
theorem has_any {h : Heap} {L : Lst} (hL : Has h L) (n : Nat) : (∀ j, j ∈ L.keys → j < n) ∨ ∃ j r, h j = some r ∧ n ≤ j := by
  by_cases hlt : ∀ j, j ∈ L.keys → j < n
  · exact .inl hlt
  · simp only [Classical.not_forall] at hlt
    obtain ⟨j, hj, hn⟩ := hlt
    obtain ⟨cs, hc⟩ := hL.isSome hj
    exact .inr ⟨j, _, hc, by omega⟩

/-! ### the power goes -/
def crash1 (keep : List Bool) (torn : Int) (k i : Nat) (b : List UInt8) (s : List Sec) : List Sec := if (k : Int) = torn then s.set i none else if keep[k]? = some true then s.set i (some b) else s
def crashN (pend : List (Nat × List UInt8)) (keep : List Bool) (torn : Int) (s : List Sec) : Nat → List Sec
  | 0 => s
  | k + 1 => match pend[k]? with
    | some p => crash1 keep torn k p.1 p.2 (crashN pend keep torn s k)
    | none => crashN pend keep torn s k
theorem crash1_len {keep : List Bool} {torn : Int} {k i : Nat} {b : List UInt8} {s : List Sec} : (crash1 keep torn k i b s).length = s.length := by
  unfold crash1
  split
  · simp
  · split <;> simp
theorem crashN_len {pend : List (Nat × List UInt8)} {keep : List Bool} {torn : Int} {s : List Sec} : ∀ k, (crashN pend keep torn s k).length = s.length
  | 0 => rfl
  | k + 1 => by
    simp only [crashN]
    split
    · rw [crash1_len, crashN_len k]
    · exact crashN_len k
theorem crashN_at {pend : List (Nat × List UInt8)} {keep : List Bool} {torn : Int} {s : List Sec} {k : Nat} (hk : k < pend.length) : crashN pend keep torn s (k + 1) = crash1 keep torn k pend[k].1 pend[k].2 (crashN pend keep torn s k) := by
  simp only [crashN, List.getElem?_eq_getElem hk]
theorem crashN_mem {pend : List (Nat × List UInt8)} {keep : List Bool} {torn : Int} {s : List Sec} {b : List UInt8} : ∀ k, some b ∈ crashN pend keep torn s k → some b ∈ s ∨ ∃ p, p ∈ pend ∧ p.2 = b
  | 0, h => .inl h
  | k + 1, h => by
    simp only [crashN] at h
    split at h
    · rename_i p hp
      unfold crash1 at h
      split at h
      · rcases List.mem_or_eq_of_mem_set h with h | h
        · exact crashN_mem k h
        · cases h
      · split at h
        · rcases List.mem_or_eq_of_mem_set h with h | h
          · exact crashN_mem k h
          · injection h with h; exact .inr ⟨p, List.mem_of_getElem? hp, h.symm⟩
        · exact crashN_mem k h
    · exact crashN_mem k h
def DW.crash (w : DW) (keep : List Bool) (torn : Int) (j : Nat) : DW := { w with jn := j, safe := crashN w.pend keep torn w.safe w.pend.length, now := crashN w.pend keep torn w.safe w.pend.length, pend := [], off := true, trip := none }
theorem DOk.crash {w : DW} (hw : DOk w) (keep : List Bool) (torn : Int) (j : Nat) : DOk (w.crash keep torn j) := by
  have key : ∀ b, some b ∈ crashN w.pend keep torn w.safe w.pend.length → b.length = 64 := fun b hb => by
    rcases crashN_mem _ hb with h | ⟨p, hp, rfl⟩
    · exact hw.s1 b h
    · exact (hw.pe p hp).2
  exact ⟨rfl, by show (crashN _ _ _ _ _).length ≤ 256; rw [crashN_len]; exact hw.n0, fun p hp => (nomatch hp), key, key, fun x hx => (nomatch hx)⟩
theorem sp2 (a b x y : AV) : splice [x, y] 0 [a, b] = [a, b] := rfl
theorem c10off {h : Heap} {d : Nat} {a b pd tr k : AV} {torn : Int} (hd : h d = some (.cells [a, b, pd, .b true, tr])) (S : Sums) (hS : SumOk Tryd.prog S) : ∀ n, DCalls Tryd.prog 16 [.p d 0, k, .i .i64 torn] h n (.tup []) [] n := by
  intro n
  refine DCalls.of Tryd.func16 rfl (by decide) (Nat.le_of_ble_eq_true rfl) (Nat.le_refl _) ?_
  refine AWp.seq ?_
  refine AWp.seq ?_
  (refine aw_regionL hS (by kernel_rfl) ?_; repeat (first | apply vr0u | apply vr4 | apply b_tt | apply b_ff | apply b_tf | apply b_ft | apply b_no | exact isD.mk rfl | (apply eqG; (simp only [push_cast, ↓reduceIte, Nat.reduceEqDiff, Nat.reduceAdd, Nat.reduceLeDiff, Nat.reduceLT, Int.reduceLE, Int.reduceLT, Int.reduceAdd, Int.reduceSub, Int.reduceNeg, Int.reduceBEq, Int.reduceBNe, Int.reduceEq, Int.reduceGT, Int.reduceGE, Int.reduceMul, Int.reduceToNat, Nat.reduceMul, reduceCtorEq, hd] <;> rfl)) | exact (rfl : app (swap _ _) _ = _)))
  refine vr_nil (aw_then ?_)
  refine aw_true (by (simp only [push_cast, ↓reduceIte, Nat.reduceEqDiff, Nat.reduceAdd, Nat.reduceLeDiff, Nat.reduceLT, Int.reduceLE, Int.reduceLT, Int.reduceAdd, Int.reduceSub, Int.reduceNeg, Int.reduceBEq, Int.reduceBNe, Int.reduceEq, Int.reduceGT, Int.reduceGE, Int.reduceMul, Int.reduceToNat, Nat.reduceMul, reduceCtorEq, hd] <;> rfl)) ?_
  refine AWp.ret ?_
  exact Out.pure (xs := []) (.inr rfl) rfl rfl trivial keep0
theorem c10 {h : Heap} {d : Nat} {w : DW} (hw : w.safe.length ≤ 256 ∧ ∀ p, p ∈ w.pend → p.1 < w.safe.length ∧ p.2.length = 64) (hL : Has h (w.cont d)) (hoff : w.off = false) (hpl : w.pend.length ≤ 1000000) (z : Bool) (keep : List Bool) (torn : Int) (S : Sums) (hS : SumOk Tryd.prog S) :
    ∀ n, DCalls Tryd.prog 16 [.p d 0, .ro z (bools keep) keep.length, .i .i64 torn] h n (.tup []) (swap (w.cont d) ((w.crash keep torn (n + w.pend.length)).cont d)) (n + w.pend.length + 1) := by
  intro n
  rcases has_any hL n with hlt | ⟨j, r, hj, hn⟩
  case inr => exact DCalls.vac ⟨_, Tryd.func16, rfl, by decide⟩ (by omega) hj hn
  have F := DFacts.of hL
  have hd := F.hd
  have hdn := hlt d (DW.keys_iff.2 (.inl rfl))
  have hsn := hlt w.js (DW.keys_iff.2 (.inr (.inl rfl)))
  have hnn := hlt w.jn (DW.keys_iff.2 (.inr (.inr (.inl rfl))))
  have n1 := F.ds
  have n2 := F.dn
  have n3 := F.sn
  simp only [DW.rowD, hoff] at hd
  have hN0 := hw.1
  refine DCalls.of Tryd.func16 rfl (by decide) (Nat.le_of_ble_eq_true rfl) (by omega) ?_
  refine AWp.seq ?_
  refine AWp.seq ?_
  (refine aw_regionL hS (by kernel_rfl) ?_; repeat (first | apply vr0u | apply vr4 | apply b_tt | apply b_ff | apply b_tf | apply b_ft | apply b_no | exact isD.mk rfl | (apply eqG; (simp only [push_cast, ↓reduceIte, Nat.reduceEqDiff, Nat.reduceAdd, Nat.reduceLeDiff, Nat.reduceLT, Int.reduceLE, Int.reduceLT, Int.reduceAdd, Int.reduceSub, Int.reduceNeg, Int.reduceBEq, Int.reduceBNe, Int.reduceEq, Int.reduceGT, Int.reduceGE, Int.reduceMul, Int.reduceToNat, Nat.reduceMul, reduceCtorEq, hd] <;> rfl)) | exact (rfl : app (swap _ _) _ = _)))
  refine vr_nil (aw_then ?_)
  refine aw_false (by (simp only [push_cast, ↓reduceIte, Nat.reduceEqDiff, Nat.reduceAdd, Nat.reduceLeDiff, Nat.reduceLT, Int.reduceLE, Int.reduceLT, Int.reduceAdd, Int.reduceSub, Int.reduceNeg, Int.reduceBEq, Int.reduceBNe, Int.reduceEq, Int.reduceGT, Int.reduceGE, Int.reduceMul, Int.reduceToNat, Nat.reduceMul, reduceCtorEq, hd] <;> rfl)) (AWp.skip (aw_then ?_))
  refine AWp.cut (fun t' h' n' => t' 0 = .p d 0 ∧ n' = n + w.pend.length ∧ h' w.js = some (.cells (secC (crashN w.pend keep torn w.safe w.pend.length))) ∧ ∀ x r, x < n → h x = some r → x ∉ [w.js] → h' x = some r) ?_ ?_
  · by_cases hpe : w.pend = []
    · obtain ⟨e1, _⟩ := DW.pend0 hpe
      rw [e1] at hd
      refine AWp.seq ?_
      (refine aw_regionL hS (by kernel_rfl) ?_; repeat (first | apply vr0u | apply vr4 | apply b_tt | apply b_ff | apply b_tf | apply b_ft | apply b_no | exact isD.mk rfl | (apply eqG; (simp only [push_cast, ↓reduceIte, Nat.reduceEqDiff, Nat.reduceAdd, Nat.reduceLeDiff, Nat.reduceLT, Int.reduceLE, Int.reduceLT, Int.reduceAdd, Int.reduceSub, Int.reduceNeg, Int.reduceBEq, Int.reduceBNe, Int.reduceEq, Int.reduceGT, Int.reduceGE, Int.reduceMul, Int.reduceToNat, Nat.reduceMul, reduceCtorEq, hd] <;> rfl)) | exact (rfl : app (swap _ _) _ = _)))
      refine vr_nil (aw_then ?_)
      refine AWp.block ?_
      refine AWp.loop (fun k t' h' n' => t' 0 = .p d 0 ∧ t' 16 = .i .i64 0 ∧ t' 17 = .i .i64 0 ∧ n' = n ∧ h' = h) 0 ?_ ?_
      · exact ⟨by (simp only [push_cast, ↓reduceIte, Nat.reduceEqDiff, Nat.reduceAdd, Nat.reduceLeDiff, Nat.reduceLT, Int.reduceLE, Int.reduceLT, Int.reduceAdd, Int.reduceSub, Int.reduceNeg, Int.reduceBEq, Int.reduceBNe, Int.reduceEq, Int.reduceGT, Int.reduceGE, Int.reduceMul, Int.reduceToNat, Nat.reduceMul, reduceCtorEq, hd] <;> rfl), by (simp only [push_cast, ↓reduceIte, Nat.reduceEqDiff, Nat.reduceAdd, Nat.reduceLeDiff, Nat.reduceLT, Int.reduceLE, Int.reduceLT, Int.reduceAdd, Int.reduceSub, Int.reduceNeg, Int.reduceBEq, Int.reduceBNe, Int.reduceEq, Int.reduceGT, Int.reduceGE, Int.reduceMul, Int.reduceToNat, Nat.reduceMul, reduceCtorEq, hd] <;> rfl), by (simp only [push_cast, ↓reduceIte, Nat.reduceEqDiff, Nat.reduceAdd, Nat.reduceLeDiff, Nat.reduceLT, Int.reduceLE, Int.reduceLT, Int.reduceAdd, Int.reduceSub, Int.reduceNeg, Int.reduceBEq, Int.reduceBNe, Int.reduceEq, Int.reduceGT, Int.reduceGE, Int.reduceMul, Int.reduceToNat, Nat.reduceMul, reduceCtorEq, hd] <;> rfl), rfl, rfl⟩
      · rintro m t' h' n' - ⟨h0, h16, h17, rfl, rfl⟩
        refine AWp.seq ?_
        (refine aw_regionL hS (by kernel_rfl) ?_; repeat (first | apply vr0u | apply vr4 | apply b_tt | apply b_ff | apply b_tf | apply b_ft | apply b_no | exact isD.mk rfl | (apply eqG; (simp only [push_cast, ↓reduceIte, Nat.reduceEqDiff, Nat.reduceAdd, Nat.reduceLeDiff, Nat.reduceLT, Int.reduceLE, Int.reduceLT, Int.reduceAdd, Int.reduceSub, Int.reduceNeg, Int.reduceBEq, Int.reduceBNe, Int.reduceEq, Int.reduceGT, Int.reduceGE, Int.reduceMul, Int.reduceToNat, Nat.reduceMul, reduceCtorEq, h0, h16, h17] <;> rfl)) | exact (rfl : app (swap _ _) _ = _)))
        refine vr_nil (aw_then ?_)
        refine AWp.seq ?_
        refine aw_false (by (simp only [push_cast, ↓reduceIte, Nat.reduceEqDiff, Nat.reduceAdd, Nat.reduceLeDiff, Nat.reduceLT, Int.reduceLE, Int.reduceLT, Int.reduceAdd, Int.reduceSub, Int.reduceNeg, Int.reduceBEq, Int.reduceBNe, Int.reduceEq, Int.reduceGT, Int.reduceGE, Int.reduceMul, Int.reduceToNat, Nat.reduceMul, reduceCtorEq, h0, h16, h17] <;> rfl)) (AWp.exit (aw_thru (aw_thru (aw_exit (aw_then ?_)))))
        refine ⟨by (simp only [push_cast, ↓reduceIte, Nat.reduceEqDiff, Nat.reduceAdd, Nat.reduceLeDiff, Nat.reduceLT, Int.reduceLE, Int.reduceLT, Int.reduceAdd, Int.reduceSub, Int.reduceNeg, Int.reduceBEq, Int.reduceBNe, Int.reduceEq, Int.reduceGT, Int.reduceGE, Int.reduceMul, Int.reduceToNat, Nat.reduceMul, reduceCtorEq, h0, h16, h17] <;> rfl), by rw [hpe]; rfl, ?_, keepX0⟩
        rw [hpe]; exact F.hs
    · obtain ⟨e1, _⟩ := DW.pend1 hpe
      obtain ⟨hjp, p1, p2, p3⟩ := F.hp hpe
      have hpn := hlt w.jp (DW.keys_iff.2 (.inr (.inr (.inr (.inl ⟨hpe, rfl⟩)))))
      rw [e1] at hd
      refine AWp.seq ?_
      (refine aw_regionL hS (by kernel_rfl) ?_; repeat (first | apply vr0u | apply vr4 | apply b_tt | apply b_ff | apply b_tf | apply b_ft | apply b_no | exact isD.mk rfl | (apply eqG; (simp only [push_cast, ↓reduceIte, Nat.reduceEqDiff, Nat.reduceAdd, Nat.reduceLeDiff, Nat.reduceLT, Int.reduceLE, Int.reduceLT, Int.reduceAdd, Int.reduceSub, Int.reduceNeg, Int.reduceBEq, Int.reduceBNe, Int.reduceEq, Int.reduceGT, Int.reduceGE, Int.reduceMul, Int.reduceToNat, Nat.reduceMul, reduceCtorEq, hd] <;> rfl)) | exact (rfl : app (swap _ _) _ = _)))
      refine vr_nil (aw_then ?_)
      refine AWp.block ?_
      refine AWp.loop (fun m t' h' n' => ∃ k : Nat, m = w.pend.length - k ∧ k ≤ w.pend.length ∧ t' 0 = .p d 0 ∧ t' 1 = .ro z (bools keep) keep.length ∧ t' 2 = .i .i64 torn ∧ t' 15 = .sl 2 w.jp 0 w.pend.length ∧ t' 16 = .i .i64 (w.pend.length : Int) ∧ t' 17 = .i .i64 (k : Int) ∧ n' = n + k ∧ h' w.js = some (.cells (secC (crashN w.pend keep torn w.safe k))) ∧ ∀ x r, x < n → h x = some r → x ∉ [w.js] → h' x = some r) w.pend.length ?_ ?_
      · exact ⟨0, rfl, Nat.zero_le _, by (simp only [push_cast, ↓reduceIte, Nat.reduceEqDiff, Nat.reduceAdd, Nat.reduceLeDiff, Nat.reduceLT, Int.reduceLE, Int.reduceLT, Int.reduceAdd, Int.reduceSub, Int.reduceNeg, Int.reduceBEq, Int.reduceBNe, Int.reduceEq, Int.reduceGT, Int.reduceGE, Int.reduceMul, Int.reduceToNat, Nat.reduceMul, reduceCtorEq, hd] <;> rfl), by (simp only [push_cast, ↓reduceIte, Nat.reduceEqDiff, Nat.reduceAdd, Nat.reduceLeDiff, Nat.reduceLT, Int.reduceLE, Int.reduceLT, Int.reduceAdd, Int.reduceSub, Int.reduceNeg, Int.reduceBEq, Int.reduceBNe, Int.reduceEq, Int.reduceGT, Int.reduceGE, Int.reduceMul, Int.reduceToNat, Nat.reduceMul, reduceCtorEq, hd] <;> rfl), by (simp only [push_cast, ↓reduceIte, Nat.reduceEqDiff, Nat.reduceAdd, Nat.reduceLeDiff, Nat.reduceLT, Int.reduceLE, Int.reduceLT, Int.reduceAdd, Int.reduceSub, Int.reduceNeg, Int.reduceBEq, Int.reduceBNe, Int.reduceEq, Int.reduceGT, Int.reduceGE, Int.reduceMul, Int.reduceToNat, Nat.reduceMul, reduceCtorEq, hd] <;> rfl), by (simp only [push_cast, ↓reduceIte, Nat.reduceEqDiff, Nat.reduceAdd, Nat.reduceLeDiff, Nat.reduceLT, Int.reduceLE, Int.reduceLT, Int.reduceAdd, Int.reduceSub, Int.reduceNeg, Int.reduceBEq, Int.reduceBNe, Int.reduceEq, Int.reduceGT, Int.reduceGE, Int.reduceMul, Int.reduceToNat, Nat.reduceMul, reduceCtorEq, hd] <;> rfl), by (simp only [push_cast, ↓reduceIte, Nat.reduceEqDiff, Nat.reduceAdd, Nat.reduceLeDiff, Nat.reduceLT, Int.reduceLE, Int.reduceLT, Int.reduceAdd, Int.reduceSub, Int.reduceNeg, Int.reduceBEq, Int.reduceBNe, Int.reduceEq, Int.reduceGT, Int.reduceGE, Int.reduceMul, Int.reduceToNat, Nat.reduceMul, reduceCtorEq, hd] <;> rfl), by (simp only [push_cast, ↓reduceIte, Nat.reduceEqDiff, Nat.reduceAdd, Nat.reduceLeDiff, Nat.reduceLT, Int.reduceLE, Int.reduceLT, Int.reduceAdd, Int.reduceSub, Int.reduceNeg, Int.reduceBEq, Int.reduceBNe, Int.reduceEq, Int.reduceGT, Int.reduceGE, Int.reduceMul, Int.reduceToNat, Nat.reduceMul, reduceCtorEq, hd] <;> rfl), rfl, F.hs, keepX0⟩
      · rintro m t' h' n' - ⟨k, rfl, hkl, h0, h1, h2, h15, h16, h17, rfl, hrow, hk⟩
        have hl' := crashN_len (pend := w.pend) (keep := keep) (torn := torn) (s := w.safe) k
        have hd' := hk d _ hdn hd (by simpa using n1)
        have hp' := hk w.jp _ hpn hjp (by simpa using p2)
        by_cases hkk : k < w.pend.length
        · have q1 : ((k : Int) < (w.pend.length : Int)) = True := by simp [hkk]
          have q2 : (0 ≤ (k : Int) ∧ (k : Int) < (w.pend.length : Int)) = True := by simp [hkk]
          have q3 : (k * 2 + 2 ≤ (wrC w.pend).length) = True := by rw [wrC_len]; simp only [eq_iff_iff, iff_true]; omega
          have q4 := wrC_get hkk
          have hcr := crashN_at (keep := keep) (torn := torn) (s := w.safe) hkk
          obtain ⟨hpi, hpb⟩ := hw.2 _ (List.getElem_mem hkk)
          generalize w.pend[k] = pk at *
          obtain ⟨i, b⟩ := pk
          simp only at hpi hpb q4 hcr
          generalize hsk : crashN w.pend keep torn w.safe k = sk at *
          have q5 : (0 ≤ (i : Int) ∧ (i : Int) < (w.safe.length : Int)) = True := by simp [hpi]
          have q6 : (i * 2 + 2 ≤ (secC sk).length) = True := by rw [secC_len, hl']; simp only [eq_iff_iff, iff_true]; omega
          have q7 : splice (secC sk) (i * 2) [.ro true [] 0, .b true] = secC (sk.set i none) := secC_set none (by omega)
          have q8 : splice (secC sk) (i * 2) [.ro false (cellsB b) b.length, .b false] = secC (sk.set i (some b)) := secC_set (some b) (by omega)
          have w1 : IntKind.wrap .i64 ((k : Int) + 1) = (k : Int) + 1 := IntWalk.i64_in _ (by omega)
          have u0 : ∀ (g : Heap) (r : Option Row), upd g (n + k) r w.js = g w.js := fun g r => upd_ne _ _ (by omega)
          have u1 : ∀ (g : Heap) (r : Option Row), upd g (n + k) r d = g d := fun g r => upd_ne _ _ (by omega)
          have u2 : ∀ (g : Heap) (r : Option Row), upd g w.js r (n + k) = g (n + k) := fun g r => upd_ne _ _ (by omega)
          have kk : ∀ (g : Heap) r, (∀ x r, x < n → h x = some r → x ∉ [w.js] → g x = some r) → (∀ x r', x < n → h x = some r' → x ∉ [w.js] → upd g w.js r x = some r') := fun g r hg => keepX (.inr (by simp)) hg
          refine AWp.seq ?_
          (refine aw_regionL hS (by kernel_rfl) ?_; repeat (first | apply vr0u | apply vr4 | apply b_tt | apply b_ff | apply b_tf | apply b_ft | apply b_no | exact isD.mk rfl | (apply eqG; (simp only [push_cast, ↓reduceIte, Nat.reduceEqDiff, Nat.reduceAdd, Nat.reduceLeDiff, Nat.reduceLT, Int.reduceLE, Int.reduceLT, Int.reduceAdd, Int.reduceSub, Int.reduceNeg, Int.reduceBEq, Int.reduceBNe, Int.reduceEq, Int.reduceGT, Int.reduceGE, Int.reduceMul, Int.reduceToNat, Nat.reduceMul, reduceCtorEq, h0, h1, h2, h15, h16, h17, hrow, hd', hp', q1, q2, q3, q4, q5, q6, q7, q8, w1, u0, u1, u2, sp2] <;> rfl)) | exact (rfl : app (swap _ _) _ = _)))
          refine vr_nil (aw_then ?_)
          refine AWp.seq ?_
          refine aw_true (by (simp only [push_cast, ↓reduceIte, Nat.reduceEqDiff, Nat.reduceAdd, Nat.reduceLeDiff, Nat.reduceLT, Int.reduceLE, Int.reduceLT, Int.reduceAdd, Int.reduceSub, Int.reduceNeg, Int.reduceBEq, Int.reduceBNe, Int.reduceEq, Int.reduceGT, Int.reduceGE, Int.reduceMul, Int.reduceToNat, Nat.reduceMul, reduceCtorEq, h0, h1, h2, h15, h16, h17, hrow, hd', hp', q1, q2, q3, q4, q5, q6, q7, q8, w1, u0, u1, u2, sp2] <;> rfl)) (AWp.skip (aw_then ?_))
          refine AWp.seq ?_
          refine AWp.block ?_
          refine AWp.seq ?_
          (refine aw_regionL hS (by kernel_rfl) ?_; repeat (first | apply vr0u | apply vr4 | apply b_tt | apply b_ff | apply b_tf | apply b_ft | apply b_no | exact isD.mk rfl | (apply eqG; (simp only [push_cast, ↓reduceIte, Nat.reduceEqDiff, Nat.reduceAdd, Nat.reduceLeDiff, Nat.reduceLT, Int.reduceLE, Int.reduceLT, Int.reduceAdd, Int.reduceSub, Int.reduceNeg, Int.reduceBEq, Int.reduceBNe, Int.reduceEq, Int.reduceGT, Int.reduceGE, Int.reduceMul, Int.reduceToNat, Nat.reduceMul, reduceCtorEq, h0, h1, h2, h15, h16, h17, hrow, hd', hp', q1, q2, q3, q4, q5, q6, q7, q8, w1, u0, u1, u2, sp2] <;> rfl)) | exact (rfl : app (swap _ _) _ = _)))
          refine vr_nil (aw_then ?_)
          refine AWp.block ?_
          refine AWp.seq ?_
          (refine aw_regionL hS (by kernel_rfl) ?_; repeat (first | apply vr0u | apply vr4 | apply b_tt | apply b_ff | apply b_tf | apply b_ft | apply b_no | exact isD.mk rfl | (apply eqG; (simp only [push_cast, ↓reduceIte, Nat.reduceEqDiff, Nat.reduceAdd, Nat.reduceLeDiff, Nat.reduceLT, Int.reduceLE, Int.reduceLT, Int.reduceAdd, Int.reduceSub, Int.reduceNeg, Int.reduceBEq, Int.reduceBNe, Int.reduceEq, Int.reduceGT, Int.reduceGE, Int.reduceMul, Int.reduceToNat, Nat.reduceMul, reduceCtorEq, h0, h1, h2, h15, h16, h17, hrow, hd', hp', q1, q2, q3, q4, q5, q6, q7, q8, w1, u0, u1, u2, sp2] <;> rfl)) | exact (rfl : app (swap _ _) _ = _)))
          refine vr_nil (aw_then ?_)
          refine aw_split (by (simp only [push_cast, ↓reduceIte, Nat.reduceEqDiff, Nat.reduceAdd, Nat.reduceLeDiff, Nat.reduceLT, Int.reduceLE, Int.reduceLT, Int.reduceAdd, Int.reduceSub, Int.reduceNeg, Int.reduceBEq, Int.reduceBNe, Int.reduceEq, Int.reduceGT, Int.reduceGE, Int.reduceMul, Int.reduceToNat, Nat.reduceMul, reduceCtorEq, h0, h1, h2, h15, h16, h17, hrow, hd', hp', q1, q2, q3, q4, q5, q6, q7, q8, w1, u0, u1, u2, sp2] <;> rfl)) (fun hu => ?_) (fun hu => ?_)
          · have hu : (k : Int) = torn := by simpa using hu
            refine aw_drawsL [0, 1, 3, 7, 0, 16, 0, 127, 255] [8] hS mixed (by kernel_rfl) (by kernel_rfl) ?_
            repeat (first | (refine vd0f (by decide) (by ((repeat (first | rewrite [hpL_t rfl] | rewrite [hpL_f rfl])); (simp only [hpL, app_cons, app_nil] <;> rfl))) (by (simp only [push_cast, ↓reduceIte, Nat.reduceEqDiff, Nat.reduceAdd, Nat.reduceLeDiff, Nat.reduceLT, Int.reduceLE, Int.reduceLT, Int.reduceAdd, Int.reduceSub, Int.reduceNeg, Int.reduceBEq, Int.reduceBNe, Int.reduceEq, Int.reduceGT, Int.reduceGE, Int.reduceMul, Int.reduceToNat, Nat.reduceMul, reduceCtorEq, h0, h1, h2, h15, h16, h17, hrow, hd', hp', q1, q2, q3, q4, q5, q6, q7, q8, w1, u0, u1, u2, sp2] <;> rfl)) ?_) | (refine vd0q rfl (by decide) rfl (by ((repeat (first | rewrite [hpL_t rfl] | rewrite [hpL_f rfl])); (simp only [hpL, app_cons, app_nil] <;> rfl))) (by (simp only [push_cast, ↓reduceIte, Nat.reduceEqDiff, Nat.reduceAdd, Nat.reduceLeDiff, Nat.reduceLT, Int.reduceLE, Int.reduceLT, Int.reduceAdd, Int.reduceSub, Int.reduceNeg, Int.reduceBEq, Int.reduceBNe, Int.reduceEq, Int.reduceGT, Int.reduceGE, Int.reduceMul, Int.reduceToNat, Nat.reduceMul, reduceCtorEq, h0, h1, h2, h15, h16, h17, hrow, hd', hp', q1, q2, q3, q4, q5, q6, q7, q8, w1, u0, u1, u2, sp2] <;> rfl)) (by simp) (by omega) (by intro u hu; simp only [List.mem_cons, List.not_mem_nil, or_false] at hu; rcases hu with rfl | rfl | rfl <;> simp only <;> omega) ?_) | (refine vd0w rfl (by decide) (by ((repeat (first | rewrite [hpL_t rfl] | rewrite [hpL_f rfl])); (simp only [hpL, app_cons, app_nil] <;> rfl))) (by (simp only [push_cast, ↓reduceIte, Nat.reduceEqDiff, Nat.reduceAdd, Nat.reduceLeDiff, Nat.reduceLT, Int.reduceLE, Int.reduceLT, Int.reduceAdd, Int.reduceSub, Int.reduceNeg, Int.reduceBEq, Int.reduceBNe, Int.reduceEq, Int.reduceGT, Int.reduceGE, Int.reduceMul, Int.reduceToNat, Nat.reduceMul, reduceCtorEq, h0, h1, h2, h15, h16, h17, hrow, hd', hp', q1, q2, q3, q4, q5, q6, q7, q8, w1, u0, u1, u2, sp2] <;> rfl)) (by omega) (by intro u hu; simp only [List.mem_cons, List.not_mem_nil, or_false] at hu; rcases hu with rfl | rfl | rfl <;> simp only <;> omega) ?_) | (apply vd0; (focus rfl)) | (apply vd0r; (focus rfl); (focus decide); (focus rfl)) | (apply vd0p; (focus decide)) | apply vd4 | apply b_tt | apply b_ff | apply b_tf | apply b_ft | apply b_no | exact isD.mk rfl | ((repeat (first | rewrite [hpL_t rfl] | rewrite [hpL_f rfl])); (simp only [hpL, app_cons, app_nil] <;> rfl)) | (apply eqG; (simp only [push_cast, ↓reduceIte, Nat.reduceEqDiff, Nat.reduceAdd, Nat.reduceLeDiff, Nat.reduceLT, Int.reduceLE, Int.reduceLT, Int.reduceAdd, Int.reduceSub, Int.reduceNeg, Int.reduceBEq, Int.reduceBNe, Int.reduceEq, Int.reduceGT, Int.reduceGE, Int.reduceMul, Int.reduceToNat, Nat.reduceMul, reduceCtorEq, h0, h1, h2, h15, h16, h17, hrow, hd', hp', q1, q2, q3, q4, q5, q6, q7, q8, w1, u0, u1, u2, sp2] <;> rfl)))
            (refine vd_nil (by simp only [hpL, app_cons, app_nil, if_true] <;> rfl) ?_)
            refine aw_in (aw_in (aw_then ?_))
            (refine aw_regionL hS (by kernel_rfl) ?_; repeat (first | apply vr0u | apply vr4 | apply b_tt | apply b_ff | apply b_tf | apply b_ft | apply b_no | exact isD.mk rfl | (apply eqG; (simp only [push_cast, ↓reduceIte, Nat.reduceEqDiff, Nat.reduceAdd, Nat.reduceLeDiff, Nat.reduceLT, Int.reduceLE, Int.reduceLT, Int.reduceAdd, Int.reduceSub, Int.reduceNeg, Int.reduceBEq, Int.reduceBNe, Int.reduceEq, Int.reduceGT, Int.reduceGE, Int.reduceMul, Int.reduceToNat, Nat.reduceMul, reduceCtorEq, h0, h1, h2, h15, h16, h17, hrow, hd', hp', q1, q2, q3, q4, q5, q6, q7, q8, w1, u0, u1, u2, sp2] <;> rfl)) | exact (rfl : app (swap _ _) _ = _)))
            refine vr_nil (aw_then ⟨w.pend.length - (k + 1), by omega, k + 1, rfl, hkk, by (simp only [push_cast, ↓reduceIte, Nat.reduceEqDiff, Nat.reduceAdd, Nat.reduceLeDiff, Nat.reduceLT, Int.reduceLE, Int.reduceLT, Int.reduceAdd, Int.reduceSub, Int.reduceNeg, Int.reduceBEq, Int.reduceBNe, Int.reduceEq, Int.reduceGT, Int.reduceGE, Int.reduceMul, Int.reduceToNat, Nat.reduceMul, reduceCtorEq, h0, h1, h2, h15, h16, h17, hrow, hd', hp', q1, q2, q3, q4, q5, q6, q7, q8, w1, u0, u1, u2, sp2] <;> rfl), by (simp only [push_cast, ↓reduceIte, Nat.reduceEqDiff, Nat.reduceAdd, Nat.reduceLeDiff, Nat.reduceLT, Int.reduceLE, Int.reduceLT, Int.reduceAdd, Int.reduceSub, Int.reduceNeg, Int.reduceBEq, Int.reduceBNe, Int.reduceEq, Int.reduceGT, Int.reduceGE, Int.reduceMul, Int.reduceToNat, Nat.reduceMul, reduceCtorEq, h0, h1, h2, h15, h16, h17, hrow, hd', hp', q1, q2, q3, q4, q5, q6, q7, q8, w1, u0, u1, u2, sp2] <;> rfl), by (simp only [push_cast, ↓reduceIte, Nat.reduceEqDiff, Nat.reduceAdd, Nat.reduceLeDiff, Nat.reduceLT, Int.reduceLE, Int.reduceLT, Int.reduceAdd, Int.reduceSub, Int.reduceNeg, Int.reduceBEq, Int.reduceBNe, Int.reduceEq, Int.reduceGT, Int.reduceGE, Int.reduceMul, Int.reduceToNat, Nat.reduceMul, reduceCtorEq, h0, h1, h2, h15, h16, h17, hrow, hd', hp', q1, q2, q3, q4, q5, q6, q7, q8, w1, u0, u1, u2, sp2] <;> rfl), by (simp only [push_cast, ↓reduceIte, Nat.reduceEqDiff, Nat.reduceAdd, Nat.reduceLeDiff, Nat.reduceLT, Int.reduceLE, Int.reduceLT, Int.reduceAdd, Int.reduceSub, Int.reduceNeg, Int.reduceBEq, Int.reduceBNe, Int.reduceEq, Int.reduceGT, Int.reduceGE, Int.reduceMul, Int.reduceToNat, Nat.reduceMul, reduceCtorEq, h0, h1, h2, h15, h16, h17, hrow, hd', hp', q1, q2, q3, q4, q5, q6, q7, q8, w1, u0, u1, u2, sp2] <;> rfl), by (simp only [push_cast, ↓reduceIte, Nat.reduceEqDiff, Nat.reduceAdd, Nat.reduceLeDiff, Nat.reduceLT, Int.reduceLE, Int.reduceLT, Int.reduceAdd, Int.reduceSub, Int.reduceNeg, Int.reduceBEq, Int.reduceBNe, Int.reduceEq, Int.reduceGT, Int.reduceGE, Int.reduceMul, Int.reduceToNat, Nat.reduceMul, reduceCtorEq, h0, h1, h2, h15, h16, h17, hrow, hd', hp', q1, q2, q3, q4, q5, q6, q7, q8, w1, u0, u1, u2, sp2] <;> rfl), by (simp only [push_cast, ↓reduceIte, Nat.reduceEqDiff, Nat.reduceAdd, Nat.reduceLeDiff, Nat.reduceLT, Int.reduceLE, Int.reduceLT, Int.reduceAdd, Int.reduceSub, Int.reduceNeg, Int.reduceBEq, Int.reduceBNe, Int.reduceEq, Int.reduceGT, Int.reduceGE, Int.reduceMul, Int.reduceToNat, Nat.reduceMul, reduceCtorEq, h0, h1, h2, h15, h16, h17, hrow, hd', hp', q1, q2, q3, q4, q5, q6, q7, q8, w1, u0, u1, u2, sp2] <;> rfl), by omega, ?_, kk _ _ (keepX (.inl (by omega)) (keepX (.inl (by omega)) hk))⟩)
            rw [upd_same, hcr, crash1, if_pos hu]
          · have hu : ¬ (k : Int) = torn := by simpa using hu
            refine AWp.seq ?_
            (refine aw_regionL hS (by kernel_rfl) ?_; repeat (first | apply vr0u | apply vr4 | apply b_tt | apply b_ff | apply b_tf | apply b_ft | apply b_no | exact isD.mk rfl | (apply eqG; (simp only [push_cast, ↓reduceIte, Nat.reduceEqDiff, Nat.reduceAdd, Nat.reduceLeDiff, Nat.reduceLT, Int.reduceLE, Int.reduceLT, Int.reduceAdd, Int.reduceSub, Int.reduceNeg, Int.reduceBEq, Int.reduceBNe, Int.reduceEq, Int.reduceGT, Int.reduceGE, Int.reduceMul, Int.reduceToNat, Nat.reduceMul, reduceCtorEq, h0, h1, h2, h15, h16, h17, hrow, hd', hp', q1, q2, q3, q4, q5, q6, q7, q8, w1, u0, u1, u2, sp2] <;> rfl)) | exact (rfl : app (swap _ _) _ = _)))
            refine br_s (by (simp only [push_cast, ↓reduceIte, Nat.reduceEqDiff, Nat.reduceAdd, Nat.reduceLeDiff, Nat.reduceLT, Int.reduceLE, Int.reduceLT, Int.reduceAdd, Int.reduceSub, Int.reduceNeg, Int.reduceBEq, Int.reduceBNe, Int.reduceEq, Int.reduceGT, Int.reduceGE, Int.reduceMul, Int.reduceToNat, Nat.reduceMul, reduceCtorEq, h0, h1, h2, h15, h16, h17, hrow, hd', hp', q1, q2, q3, q4, q5, q6, q7, q8, w1, u0, u1, u2, sp2] <;> rfl)) (fun hv => ?_) (fun hv => ?_)
            · have hv : k < keep.length := by simpa using hv
              have q9 : (0 ≤ (k : Int) ∧ (k : Int) < (keep.length : Int)) = True := by simp [hv]
              have q10 := bools_get hv
              repeat (first | apply vr0u | apply vr4 | apply b_tt | apply b_ff | apply b_tf | apply b_ft | apply b_no | exact isD.mk rfl | (apply eqG; (simp only [push_cast, ↓reduceIte, Nat.reduceEqDiff, Nat.reduceAdd, Nat.reduceLeDiff, Nat.reduceLT, Int.reduceLE, Int.reduceLT, Int.reduceAdd, Int.reduceSub, Int.reduceNeg, Int.reduceBEq, Int.reduceBNe, Int.reduceEq, Int.reduceGT, Int.reduceGE, Int.reduceMul, Int.reduceToNat, Nat.reduceMul, reduceCtorEq, h0, h1, h2, h15, h16, h17, hrow, hd', hp', q1, q2, q3, q4, q5, q6, q7, q8, w1, u0, u1, u2, sp2, q9, q10] <;> rfl)) | exact (rfl : app (swap _ _) _ = _))
              refine vr_nil (aw_then ?_)
              refine aw_split (by (simp only [push_cast, ↓reduceIte, Nat.reduceEqDiff, Nat.reduceAdd, Nat.reduceLeDiff, Nat.reduceLT, Int.reduceLE, Int.reduceLT, Int.reduceAdd, Int.reduceSub, Int.reduceNeg, Int.reduceBEq, Int.reduceBNe, Int.reduceEq, Int.reduceGT, Int.reduceGE, Int.reduceMul, Int.reduceToNat, Nat.reduceMul, reduceCtorEq, h0, h1, h2, h15, h16, h17, hrow, hd', hp', q1, q2, q3, q4, q5, q6, q7, q8, w1, u0, u1, u2, sp2, q9, q10] <;> rfl)) (fun hy => ?_) (fun hy => ?_)
              · refine aw_drawsL [0, 1, 3, 7, 0, 16, 0, 64, 192, 511, 1023] [10] hS mixed (by kernel_rfl) (by kernel_rfl) ?_
                repeat (first | (refine vd0f (by decide) (by ((repeat (first | rewrite [hpL_t rfl] | rewrite [hpL_f rfl])); (simp only [hpL, app_cons, app_nil] <;> rfl))) (by (simp only [push_cast, ↓reduceIte, Nat.reduceEqDiff, Nat.reduceAdd, Nat.reduceLeDiff, Nat.reduceLT, Int.reduceLE, Int.reduceLT, Int.reduceAdd, Int.reduceSub, Int.reduceNeg, Int.reduceBEq, Int.reduceBNe, Int.reduceEq, Int.reduceGT, Int.reduceGE, Int.reduceMul, Int.reduceToNat, Nat.reduceMul, reduceCtorEq, h0, h1, h2, h15, h16, h17, hrow, hd', hp', q1, q2, q3, q4, q5, q6, q7, q8, w1, u0, u1, u2, sp2, q9, q10] <;> rfl)) ?_) | (refine vd0q rfl (by decide) rfl (by ((repeat (first | rewrite [hpL_t rfl] | rewrite [hpL_f rfl])); (simp only [hpL, app_cons, app_nil] <;> rfl))) (by (simp only [push_cast, ↓reduceIte, Nat.reduceEqDiff, Nat.reduceAdd, Nat.reduceLeDiff, Nat.reduceLT, Int.reduceLE, Int.reduceLT, Int.reduceAdd, Int.reduceSub, Int.reduceNeg, Int.reduceBEq, Int.reduceBNe, Int.reduceEq, Int.reduceGT, Int.reduceGE, Int.reduceMul, Int.reduceToNat, Nat.reduceMul, reduceCtorEq, h0, h1, h2, h15, h16, h17, hrow, hd', hp', q1, q2, q3, q4, q5, q6, q7, q8, w1, u0, u1, u2, sp2, q9, q10] <;> rfl)) (by simp) (by omega) (by intro u hu; simp only [List.mem_cons, List.not_mem_nil, or_false] at hu; rcases hu with rfl | rfl | rfl <;> simp only <;> omega) ?_) | (refine vd0w rfl (by decide) (by ((repeat (first | rewrite [hpL_t rfl] | rewrite [hpL_f rfl])); (simp only [hpL, app_cons, app_nil] <;> rfl))) (by (simp only [push_cast, ↓reduceIte, Nat.reduceEqDiff, Nat.reduceAdd, Nat.reduceLeDiff, Nat.reduceLT, Int.reduceLE, Int.reduceLT, Int.reduceAdd, Int.reduceSub, Int.reduceNeg, Int.reduceBEq, Int.reduceBNe, Int.reduceEq, Int.reduceGT, Int.reduceGE, Int.reduceMul, Int.reduceToNat, Nat.reduceMul, reduceCtorEq, h0, h1, h2, h15, h16, h17, hrow, hd', hp', q1, q2, q3, q4, q5, q6, q7, q8, w1, u0, u1, u2, sp2, q9, q10] <;> rfl)) (by omega) (by intro u hu; simp only [List.mem_cons, List.not_mem_nil, or_false] at hu; rcases hu with rfl | rfl | rfl <;> simp only <;> omega) ?_) | (apply vd0; (focus rfl)) | (apply vd0r; (focus rfl); (focus decide); (focus rfl)) | (apply vd0p; (focus decide)) | apply vd4 | apply b_tt | apply b_ff | apply b_tf | apply b_ft | apply b_no | exact isD.mk rfl | ((repeat (first | rewrite [hpL_t rfl] | rewrite [hpL_f rfl])); (simp only [hpL, app_cons, app_nil] <;> rfl)) | (apply eqG; (simp only [push_cast, ↓reduceIte, Nat.reduceEqDiff, Nat.reduceAdd, Nat.reduceLeDiff, Nat.reduceLT, Int.reduceLE, Int.reduceLT, Int.reduceAdd, Int.reduceSub, Int.reduceNeg, Int.reduceBEq, Int.reduceBNe, Int.reduceEq, Int.reduceGT, Int.reduceGE, Int.reduceMul, Int.reduceToNat, Nat.reduceMul, reduceCtorEq, h0, h1, h2, h15, h16, h17, hrow, hd', hp', q1, q2, q3, q4, q5, q6, q7, q8, w1, u0, u1, u2, sp2, q9, q10] <;> rfl)))
                (refine vd_nil (by simp only [hpL, app_cons, app_nil, if_true] <;> rfl) ?_)
                refine aw_in (aw_in (aw_then ?_))
                (refine aw_regionL hS (by kernel_rfl) ?_; repeat (first | apply vr0u | apply vr4 | apply b_tt | apply b_ff | apply b_tf | apply b_ft | apply b_no | exact isD.mk rfl | (apply eqG; (simp only [push_cast, ↓reduceIte, Nat.reduceEqDiff, Nat.reduceAdd, Nat.reduceLeDiff, Nat.reduceLT, Int.reduceLE, Int.reduceLT, Int.reduceAdd, Int.reduceSub, Int.reduceNeg, Int.reduceBEq, Int.reduceBNe, Int.reduceEq, Int.reduceGT, Int.reduceGE, Int.reduceMul, Int.reduceToNat, Nat.reduceMul, reduceCtorEq, h0, h1, h2, h15, h16, h17, hrow, hd', hp', q1, q2, q3, q4, q5, q6, q7, q8, w1, u0, u1, u2, sp2, q9, q10] <;> rfl)) | exact (rfl : app (swap _ _) _ = _)))
                refine vr_nil (aw_then ⟨w.pend.length - (k + 1), by omega, k + 1, rfl, hkk, by (simp only [push_cast, ↓reduceIte, Nat.reduceEqDiff, Nat.reduceAdd, Nat.reduceLeDiff, Nat.reduceLT, Int.reduceLE, Int.reduceLT, Int.reduceAdd, Int.reduceSub, Int.reduceNeg, Int.reduceBEq, Int.reduceBNe, Int.reduceEq, Int.reduceGT, Int.reduceGE, Int.reduceMul, Int.reduceToNat, Nat.reduceMul, reduceCtorEq, h0, h1, h2, h15, h16, h17, hrow, hd', hp', q1, q2, q3, q4, q5, q6, q7, q8, w1, u0, u1, u2, sp2, q9, q10] <;> rfl), by (simp only [push_cast, ↓reduceIte, Nat.reduceEqDiff, Nat.reduceAdd, Nat.reduceLeDiff, Nat.reduceLT, Int.reduceLE, Int.reduceLT, Int.reduceAdd, Int.reduceSub, Int.reduceNeg, Int.reduceBEq, Int.reduceBNe, Int.reduceEq, Int.reduceGT, Int.reduceGE, Int.reduceMul, Int.reduceToNat, Nat.reduceMul, reduceCtorEq, h0, h1, h2, h15, h16, h17, hrow, hd', hp', q1, q2, q3, q4, q5, q6, q7, q8, w1, u0, u1, u2, sp2, q9, q10] <;> rfl), by (simp only [push_cast, ↓reduceIte, Nat.reduceEqDiff, Nat.reduceAdd, Nat.reduceLeDiff, Nat.reduceLT, Int.reduceLE, Int.reduceLT, Int.reduceAdd, Int.reduceSub, Int.reduceNeg, Int.reduceBEq, Int.reduceBNe, Int.reduceEq, Int.reduceGT, Int.reduceGE, Int.reduceMul, Int.reduceToNat, Nat.reduceMul, reduceCtorEq, h0, h1, h2, h15, h16, h17, hrow, hd', hp', q1, q2, q3, q4, q5, q6, q7, q8, w1, u0, u1, u2, sp2, q9, q10] <;> rfl), by (simp only [push_cast, ↓reduceIte, Nat.reduceEqDiff, Nat.reduceAdd, Nat.reduceLeDiff, Nat.reduceLT, Int.reduceLE, Int.reduceLT, Int.reduceAdd, Int.reduceSub, Int.reduceNeg, Int.reduceBEq, Int.reduceBNe, Int.reduceEq, Int.reduceGT, Int.reduceGE, Int.reduceMul, Int.reduceToNat, Nat.reduceMul, reduceCtorEq, h0, h1, h2, h15, h16, h17, hrow, hd', hp', q1, q2, q3, q4, q5, q6, q7, q8, w1, u0, u1, u2, sp2, q9, q10] <;> rfl), by (simp only [push_cast, ↓reduceIte, Nat.reduceEqDiff, Nat.reduceAdd, Nat.reduceLeDiff, Nat.reduceLT, Int.reduceLE, Int.reduceLT, Int.reduceAdd, Int.reduceSub, Int.reduceNeg, Int.reduceBEq, Int.reduceBNe, Int.reduceEq, Int.reduceGT, Int.reduceGE, Int.reduceMul, Int.reduceToNat, Nat.reduceMul, reduceCtorEq, h0, h1, h2, h15, h16, h17, hrow, hd', hp', q1, q2, q3, q4, q5, q6, q7, q8, w1, u0, u1, u2, sp2, q9, q10] <;> rfl), by (simp only [push_cast, ↓reduceIte, Nat.reduceEqDiff, Nat.reduceAdd, Nat.reduceLeDiff, Nat.reduceLT, Int.reduceLE, Int.reduceLT, Int.reduceAdd, Int.reduceSub, Int.reduceNeg, Int.reduceBEq, Int.reduceBNe, Int.reduceEq, Int.reduceGT, Int.reduceGE, Int.reduceMul, Int.reduceToNat, Nat.reduceMul, reduceCtorEq, h0, h1, h2, h15, h16, h17, hrow, hd', hp', q1, q2, q3, q4, q5, q6, q7, q8, w1, u0, u1, u2, sp2, q9, q10] <;> rfl), by omega, ?_, kk _ _ (keepX (.inl (by omega)) (keepX (.inl (by omega)) hk))⟩)
                rw [upd_same, hcr, crash1, if_neg hu, if_pos (by rw [List.getElem?_eq_getElem hv, hy])]
              · refine AWp.skip (aw_in (aw_in (aw_then ?_)))
                (refine aw_regionL hS (by kernel_rfl) ?_; repeat (first | apply vr0u | apply vr4 | apply b_tt | apply b_ff | apply b_tf | apply b_ft | apply b_no | exact isD.mk rfl | (apply eqG; (simp only [push_cast, ↓reduceIte, Nat.reduceEqDiff, Nat.reduceAdd, Nat.reduceLeDiff, Nat.reduceLT, Int.reduceLE, Int.reduceLT, Int.reduceAdd, Int.reduceSub, Int.reduceNeg, Int.reduceBEq, Int.reduceBNe, Int.reduceEq, Int.reduceGT, Int.reduceGE, Int.reduceMul, Int.reduceToNat, Nat.reduceMul, reduceCtorEq, h0, h1, h2, h15, h16, h17, hrow, hd', hp', q1, q2, q3, q4, q5, q6, q7, q8, w1, u0, u1, u2, sp2, q9, q10] <;> rfl)) | exact (rfl : app (swap _ _) _ = _)))
                refine vr_nil (aw_then ⟨w.pend.length - (k + 1), by omega, k + 1, rfl, hkk, by (simp only [push_cast, ↓reduceIte, Nat.reduceEqDiff, Nat.reduceAdd, Nat.reduceLeDiff, Nat.reduceLT, Int.reduceLE, Int.reduceLT, Int.reduceAdd, Int.reduceSub, Int.reduceNeg, Int.reduceBEq, Int.reduceBNe, Int.reduceEq, Int.reduceGT, Int.reduceGE, Int.reduceMul, Int.reduceToNat, Nat.reduceMul, reduceCtorEq, h0, h1, h2, h15, h16, h17, hrow, hd', hp', q1, q2, q3, q4, q5, q6, q7, q8, w1, u0, u1, u2, sp2, q9, q10] <;> rfl), by (simp only [push_cast, ↓reduceIte, Nat.reduceEqDiff, Nat.reduceAdd, Nat.reduceLeDiff, Nat.reduceLT, Int.reduceLE, Int.reduceLT, Int.reduceAdd, Int.reduceSub, Int.reduceNeg, Int.reduceBEq, Int.reduceBNe, Int.reduceEq, Int.reduceGT, Int.reduceGE, Int.reduceMul, Int.reduceToNat, Nat.reduceMul, reduceCtorEq, h0, h1, h2, h15, h16, h17, hrow, hd', hp', q1, q2, q3, q4, q5, q6, q7, q8, w1, u0, u1, u2, sp2, q9, q10] <;> rfl), by (simp only [push_cast, ↓reduceIte, Nat.reduceEqDiff, Nat.reduceAdd, Nat.reduceLeDiff, Nat.reduceLT, Int.reduceLE, Int.reduceLT, Int.reduceAdd, Int.reduceSub, Int.reduceNeg, Int.reduceBEq, Int.reduceBNe, Int.reduceEq, Int.reduceGT, Int.reduceGE, Int.reduceMul, Int.reduceToNat, Nat.reduceMul, reduceCtorEq, h0, h1, h2, h15, h16, h17, hrow, hd', hp', q1, q2, q3, q4, q5, q6, q7, q8, w1, u0, u1, u2, sp2, q9, q10] <;> rfl), by (simp only [push_cast, ↓reduceIte, Nat.reduceEqDiff, Nat.reduceAdd, Nat.reduceLeDiff, Nat.reduceLT, Int.reduceLE, Int.reduceLT, Int.reduceAdd, Int.reduceSub, Int.reduceNeg, Int.reduceBEq, Int.reduceBNe, Int.reduceEq, Int.reduceGT, Int.reduceGE, Int.reduceMul, Int.reduceToNat, Nat.reduceMul, reduceCtorEq, h0, h1, h2, h15, h16, h17, hrow, hd', hp', q1, q2, q3, q4, q5, q6, q7, q8, w1, u0, u1, u2, sp2, q9, q10] <;> rfl), by (simp only [push_cast, ↓reduceIte, Nat.reduceEqDiff, Nat.reduceAdd, Nat.reduceLeDiff, Nat.reduceLT, Int.reduceLE, Int.reduceLT, Int.reduceAdd, Int.reduceSub, Int.reduceNeg, Int.reduceBEq, Int.reduceBNe, Int.reduceEq, Int.reduceGT, Int.reduceGE, Int.reduceMul, Int.reduceToNat, Nat.reduceMul, reduceCtorEq, h0, h1, h2, h15, h16, h17, hrow, hd', hp', q1, q2, q3, q4, q5, q6, q7, q8, w1, u0, u1, u2, sp2, q9, q10] <;> rfl), by (simp only [push_cast, ↓reduceIte, Nat.reduceEqDiff, Nat.reduceAdd, Nat.reduceLeDiff, Nat.reduceLT, Int.reduceLE, Int.reduceLT, Int.reduceAdd, Int.reduceSub, Int.reduceNeg, Int.reduceBEq, Int.reduceBNe, Int.reduceEq, Int.reduceGT, Int.reduceGE, Int.reduceMul, Int.reduceToNat, Nat.reduceMul, reduceCtorEq, h0, h1, h2, h15, h16, h17, hrow, hd', hp', q1, q2, q3, q4, q5, q6, q7, q8, w1, u0, u1, u2, sp2, q9, q10] <;> rfl), by omega, ?_, keepX (.inl (by omega)) (keepX (.inl (by omega)) hk)⟩)
                rw [hcr, crash1, if_neg hu, if_neg (by rw [List.getElem?_eq_getElem hv, hy]; simp), upd_ne _ _ (by omega), upd_ne _ _ (by omega)]; exact hrow
            · have hv : ¬ k < keep.length := by simpa using hv
              repeat (first | apply vr0u | apply vr4 | apply b_tt | apply b_ff | apply b_tf | apply b_ft | apply b_no | exact isD.mk rfl | (apply eqG; (simp only [push_cast, ↓reduceIte, Nat.reduceEqDiff, Nat.reduceAdd, Nat.reduceLeDiff, Nat.reduceLT, Int.reduceLE, Int.reduceLT, Int.reduceAdd, Int.reduceSub, Int.reduceNeg, Int.reduceBEq, Int.reduceBNe, Int.reduceEq, Int.reduceGT, Int.reduceGE, Int.reduceMul, Int.reduceToNat, Nat.reduceMul, reduceCtorEq, h0, h1, h2, h15, h16, h17, hrow, hd', hp', q1, q2, q3, q4, q5, q6, q7, q8, w1, u0, u1, u2, sp2] <;> rfl)) | exact (rfl : app (swap _ _) _ = _))
              refine vr_nil (aw_then ?_)
              refine aw_false (by (simp only [push_cast, ↓reduceIte, Nat.reduceEqDiff, Nat.reduceAdd, Nat.reduceLeDiff, Nat.reduceLT, Int.reduceLE, Int.reduceLT, Int.reduceAdd, Int.reduceSub, Int.reduceNeg, Int.reduceBEq, Int.reduceBNe, Int.reduceEq, Int.reduceGT, Int.reduceGE, Int.reduceMul, Int.reduceToNat, Nat.reduceMul, reduceCtorEq, h0, h1, h2, h15, h16, h17, hrow, hd', hp', q1, q2, q3, q4, q5, q6, q7, q8, w1, u0, u1, u2, sp2] <;> rfl)) ?_
              refine AWp.skip (aw_in (aw_in (aw_then ?_)))
              (refine aw_regionL hS (by kernel_rfl) ?_; repeat (first | apply vr0u | apply vr4 | apply b_tt | apply b_ff | apply b_tf | apply b_ft | apply b_no | exact isD.mk rfl | (apply eqG; (simp only [push_cast, ↓reduceIte, Nat.reduceEqDiff, Nat.reduceAdd, Nat.reduceLeDiff, Nat.reduceLT, Int.reduceLE, Int.reduceLT, Int.reduceAdd, Int.reduceSub, Int.reduceNeg, Int.reduceBEq, Int.reduceBNe, Int.reduceEq, Int.reduceGT, Int.reduceGE, Int.reduceMul, Int.reduceToNat, Nat.reduceMul, reduceCtorEq, h0, h1, h2, h15, h16, h17, hrow, hd', hp', q1, q2, q3, q4, q5, q6, q7, q8, w1, u0, u1, u2, sp2] <;> rfl)) | exact (rfl : app (swap _ _) _ = _)))
              refine vr_nil (aw_then ⟨w.pend.length - (k + 1), by omega, k + 1, rfl, hkk, by (simp only [push_cast, ↓reduceIte, Nat.reduceEqDiff, Nat.reduceAdd, Nat.reduceLeDiff, Nat.reduceLT, Int.reduceLE, Int.reduceLT, Int.reduceAdd, Int.reduceSub, Int.reduceNeg, Int.reduceBEq, Int.reduceBNe, Int.reduceEq, Int.reduceGT, Int.reduceGE, Int.reduceMul, Int.reduceToNat, Nat.reduceMul, reduceCtorEq, h0, h1, h2, h15, h16, h17, hrow, hd', hp', q1, q2, q3, q4, q5, q6, q7, q8, w1, u0, u1, u2, sp2] <;> rfl), by (simp only [push_cast, ↓reduceIte, Nat.reduceEqDiff, Nat.reduceAdd, Nat.reduceLeDiff, Nat.reduceLT, Int.reduceLE, Int.reduceLT, Int.reduceAdd, Int.reduceSub, Int.reduceNeg, Int.reduceBEq, Int.reduceBNe, Int.reduceEq, Int.reduceGT, Int.reduceGE, Int.reduceMul, Int.reduceToNat, Nat.reduceMul, reduceCtorEq, h0, h1, h2, h15, h16, h17, hrow, hd', hp', q1, q2, q3, q4, q5, q6, q7, q8, w1, u0, u1, u2, sp2] <;> rfl), by (simp only [push_cast, ↓reduceIte, Nat.reduceEqDiff, Nat.reduceAdd, Nat.reduceLeDiff, Nat.reduceLT, Int.reduceLE, Int.reduceLT, Int.reduceAdd, Int.reduceSub, Int.reduceNeg, Int.reduceBEq, Int.reduceBNe, Int.reduceEq, Int.reduceGT, Int.reduceGE, Int.reduceMul, Int.reduceToNat, Nat.reduceMul, reduceCtorEq, h0, h1, h2, h15, h16, h17, hrow, hd', hp', q1, q2, q3, q4, q5, q6, q7, q8, w1, u0, u1, u2, sp2] <;> rfl), by (simp only [push_cast, ↓reduceIte, Nat.reduceEqDiff, Nat.reduceAdd, Nat.reduceLeDiff, Nat.reduceLT, Int.reduceLE, Int.reduceLT, Int.reduceAdd, Int.reduceSub, Int.reduceNeg, Int.reduceBEq, Int.reduceBNe, Int.reduceEq, Int.reduceGT, Int.reduceGE, Int.reduceMul, Int.reduceToNat, Nat.reduceMul, reduceCtorEq, h0, h1, h2, h15, h16, h17, hrow, hd', hp', q1, q2, q3, q4, q5, q6, q7, q8, w1, u0, u1, u2, sp2] <;> rfl), by (simp only [push_cast, ↓reduceIte, Nat.reduceEqDiff, Nat.reduceAdd, Nat.reduceLeDiff, Nat.reduceLT, Int.reduceLE, Int.reduceLT, Int.reduceAdd, Int.reduceSub, Int.reduceNeg, Int.reduceBEq, Int.reduceBNe, Int.reduceEq, Int.reduceGT, Int.reduceGE, Int.reduceMul, Int.reduceToNat, Nat.reduceMul, reduceCtorEq, h0, h1, h2, h15, h16, h17, hrow, hd', hp', q1, q2, q3, q4, q5, q6, q7, q8, w1, u0, u1, u2, sp2] <;> rfl), by (simp only [push_cast, ↓reduceIte, Nat.reduceEqDiff, Nat.reduceAdd, Nat.reduceLeDiff, Nat.reduceLT, Int.reduceLE, Int.reduceLT, Int.reduceAdd, Int.reduceSub, Int.reduceNeg, Int.reduceBEq, Int.reduceBNe, Int.reduceEq, Int.reduceGT, Int.reduceGE, Int.reduceMul, Int.reduceToNat, Nat.reduceMul, reduceCtorEq, h0, h1, h2, h15, h16, h17, hrow, hd', hp', q1, q2, q3, q4, q5, q6, q7, q8, w1, u0, u1, u2, sp2] <;> rfl), by omega, ?_, keepX (.inl (by omega)) (keepX (.inl (by omega)) hk)⟩)
              rw [hcr, crash1, if_neg hu, if_neg (by rw [List.getElem?_eq_none (by omega)]; simp), upd_ne _ _ (by omega), upd_ne _ _ (by omega)]; exact hrow
        · have hke : k = w.pend.length := by omega
          subst hke
          have q1 : ((w.pend.length : Int) < (w.pend.length : Int)) = False := by simp
          refine AWp.seq ?_
          (refine aw_regionL hS (by kernel_rfl) ?_; repeat (first | apply vr0u | apply vr4 | apply b_tt | apply b_ff | apply b_tf | apply b_ft | apply b_no | exact isD.mk rfl | (apply eqG; (simp only [push_cast, ↓reduceIte, Nat.reduceEqDiff, Nat.reduceAdd, Nat.reduceLeDiff, Nat.reduceLT, Int.reduceLE, Int.reduceLT, Int.reduceAdd, Int.reduceSub, Int.reduceNeg, Int.reduceBEq, Int.reduceBNe, Int.reduceEq, Int.reduceGT, Int.reduceGE, Int.reduceMul, Int.reduceToNat, Nat.reduceMul, reduceCtorEq, h0, h1, h2, h15, h16, h17, q1] <;> rfl)) | exact (rfl : app (swap _ _) _ = _)))
          refine vr_nil (aw_then ?_)
          refine AWp.seq ?_
          refine aw_false (by (simp only [push_cast, ↓reduceIte, Nat.reduceEqDiff, Nat.reduceAdd, Nat.reduceLeDiff, Nat.reduceLT, Int.reduceLE, Int.reduceLT, Int.reduceAdd, Int.reduceSub, Int.reduceNeg, Int.reduceBEq, Int.reduceBNe, Int.reduceEq, Int.reduceGT, Int.reduceGE, Int.reduceMul, Int.reduceToNat, Nat.reduceMul, reduceCtorEq, h0, h1, h2, h15, h16, h17, q1] <;> rfl)) (AWp.exit (aw_thru (aw_thru (aw_exit (aw_then ?_)))))
          exact ⟨by (simp only [push_cast, ↓reduceIte, Nat.reduceEqDiff, Nat.reduceAdd, Nat.reduceLeDiff, Nat.reduceLT, Int.reduceLE, Int.reduceLT, Int.reduceAdd, Int.reduceSub, Int.reduceNeg, Int.reduceBEq, Int.reduceBNe, Int.reduceEq, Int.reduceGT, Int.reduceGE, Int.reduceMul, Int.reduceToNat, Nat.reduceMul, reduceCtorEq, h0, h1, h2, h15, h16, h17, q1] <;> rfl), rfl, hrow, hk⟩
  · rintro t1 h1 n1' - ⟨h0, rfl, hrow, hk⟩
    have hl' := crashN_len (pend := w.pend) (keep := keep) (torn := torn) (s := w.safe) w.pend.length
    have hd' := hk d _ hdn hd (by simpa using n1)
    have hfold : w.crash keep torn (n + w.pend.length) = { w with jn := n + w.pend.length, safe := crashN w.pend keep torn w.safe w.pend.length, now := crashN w.pend keep torn w.safe w.pend.length, pend := [], off := true, trip := none } := rfl
    generalize crashN w.pend keep torn w.safe w.pend.length = s' at *
    obtain ⟨S2, hS2, h22⟩ : ∃ S2, SumOk Tryd.prog S2 ∧ S2 22 [.sl 2 w.js 0 w.safe.length] h1 = .fresh 2 w.safe.length (secC s') := ⟨_, hS.loc (f := 22) (args := [.sl 2 w.js 0 w.safe.length]) (h := h1) (r := .fresh 2 w.safe.length (secC s')) ⟨free_secC _, by have := c22 s' (by omega) hrow S hS; rw [hl'] at this; exact this⟩, Sums.loc_at⟩
    have u1 : ∀ (g : Heap) (r : Option Row), upd g (n + w.pend.length) r d = g d := fun g r => upd_ne _ _ (by omega)
    refine aw_regionL hS2 (by kernel_rfl) ?_
    repeat (first | apply vr0u | apply vr4 | apply b_tt | apply b_ff | apply b_tf | apply b_ft | apply b_no | exact isD.mk rfl | (apply eqG; (simp only [push_cast, ↓reduceIte, Nat.reduceEqDiff, Nat.reduceAdd, Nat.reduceLeDiff, Nat.reduceLT, Int.reduceLE, Int.reduceLT, Int.reduceAdd, Int.reduceSub, Int.reduceNeg, Int.reduceBEq, Int.reduceBNe, Int.reduceEq, Int.reduceGT, Int.reduceGE, Int.reduceMul, Int.reduceToNat, Nat.reduceMul, reduceCtorEq, h0, hd', h22, u1] <;> rfl)) | exact (rfl : app (swap _ _) _ = _))
    refine vr_nil ?_
    refine Out.disk (w' := w.crash keep torn (n + w.pend.length)) (xs := []) (.inl rfl) rfl rfl (by omega) (by omega) trivial hL hlt ?_ ?_ ?_
    · rw [hfold]
      have e1 : ∀ (g : Heap) (r : Option Row), upd g d r w.js = g w.js := fun g r => upd_ne _ _ (by omega)
      have e2 : ∀ (g : Heap) (r : Option Row), upd g d r (n + w.pend.length) = g (n + w.pend.length) := fun g r => upd_ne _ _ (by omega)
      have e3 : ∀ (g : Heap) (r : Option Row), upd g (n + w.pend.length) r w.js = g w.js := fun g r => upd_ne _ _ (by omega)
      refine ⟨?_, ?_, ?_, fun hp => absurd rfl hp, fun x hx => (nomatch hx), n1, by show d ≠ n + w.pend.length; omega, by show w.js ≠ n + w.pend.length; omega⟩
      · simp only [upd_same, DW.rowD, hl', DW.pd, DW.tr, if_true]
      · simp only [e1, e3]; exact hrow
      · simp only [e2, upd_same]
    · intro j hj
      rw [DW.keys_iff] at hj ⊢
      rw [hfold] at hj
      simp only [ne_eq, not_true, false_and, or_false] at hj
      rcases hj with rfl | rfl | rfl
      · exact .inl (.inl rfl)
      · exact .inl (.inr (.inl rfl))
      · exact .inr ⟨by omega, by omega⟩
    · intro x r hx hr hxk
      rw [DW.keys_iff] at hxk
      have hxd : x ≠ d := fun e => hxk (.inl e)
      have hxs : x ≠ w.js := fun e => hxk (.inr (.inl e))
      simp only [upd_ne _ _ hxd]
      rw [upd_ne _ _ (by omega)]
      exact hk x r hx hr (by simpa using hxs)

end Go.Proofs.YtepfknnffooaiaaDoor
