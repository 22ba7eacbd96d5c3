import Derived.Test.YtmkefpjpghmonaaGreatLp
namespace Go.Proofs.YtmkefpjpghmonaaGreat
open Go.Av
set_option maxRecDepth 100000
set_option maxHeartbeats 1000000
set_option synthInstance.maxHeartbeats 400000
set_option synthInstance.maxSize 4000
set_option linter.unusedSimpArgs false
set_option linter.unusedVariables false

attribute [push_cast] List.map_append
theorem splice_many : ∀ (X : List AV), X.length ≠ 1 → ∀ cs off, splice cs off X = cs.take off ++ X ++ cs.drop (off + X.length)
  | [], _ => fun _ _ => rfl
  | [_], h => absurd rfl h
  | _ :: _ :: _, _ => fun _ _ => rfl
/-- What is the case of a state's cells. -/
theorem st_facts {S : List AV} (l1 : S.length = 21) : (∀ cs off, splice cs off S = cs.take off ++ S ++ cs.drop (off + 21)) ∧ (∀ l, (S ++ l).drop 21 = l) ∧ (∀ l, (S ++ l).drop 22 = l.drop 1) ∧ S.take 21 = S ∧ (∀ l, (S ++ l).take 22 = S ++ l.take 1) ∧ (∀ (l : List AV) x, (S ++ l).set 22 x = S ++ l.set 1 x) ∧ (∀ (l : List AV) x, (S ++ l).set 21 x = S ++ l.set 0 x) ∧ (∀ l, (S ++ l).take 21 = S) ∧ (∀ l : List AV, (S ++ l)[21]? = l[0]?) ∧ (∀ l : List AV, (S ++ l)[22]? = l[1]?) ∧ S.drop 21 = [] := by
  refine ⟨fun cs off => by rw [splice_many S (by omega), l1], fun l => by rw [← l1, List.drop_left], fun l => by rw [List.drop_append, l1, List.drop_of_length_le (by omega)]; rfl, List.take_of_length_le (by omega), fun l => by rw [List.take_append, l1, List.take_of_length_le (by omega)], fun l x => by rw [List.set_append_right _ _ (by omega), l1], fun l x => by rw [List.set_append_right _ _ (by omega), l1], fun l => by rw [← l1, List.take_left], fun l => ?_, fun l => ?_, List.drop_of_length_le (by omega)⟩
  · rw [List.getElem?_append_right (by omega), l1]
  · rw [List.getElem?_append_right (by omega), l1]
theorem s0_len (e x : Int) : (s0 e x).length = 21 := by simp [s0, numC]
theorem s0_free (e x : Int) : freeAll (s0 e x) = true := by simp [s0, freeAll, AV.free, freeAll_app, numC]
theorem l69s (e : Int) (he : 0 ≤ e ∧ e ≤ 1048576) : FCalls Tryz.prog 69 [.agg [.i .i64 0, .i .i64 0, .i .i64 e, .i .i64 e, .i .i64 e, .i .i64 e, .ro true [] 0]] (fun m => .tup [.p m 0, .i .i64 0]) (ledC (s0 e 0) true [] (-1)) := by
  have A := l25s e he
  have l1 := s0_len e 0
  have f1 := s0_free e 0
  unfold ledC
  generalize s0 e 0 = S at A l1 f1 ⊢
  have F := st_facts l1
  refine fof Tryz.func69 fun h n => ?_
  refine go ?_
  exact outF (n + 2)
/-- An entry whole. -/
theorem ent_whole {S : List AV} {es : List Ent} (L : Lg S es) {k : Nat} (hk : k < es.length) (e : Ent) (he : es[k] = e) : List.take 58 (List.drop (k * 58) (entsC es)) = .i .i64 e.par :: .i .i64 e.ht :: .i .i64 e.salt :: .ro e.zt e.txc e.nt :: (cellsB e.hash ++ (e.st ++ [.ro e.ze (intsC e.er) e.er.length])) ∧ (entsC es).length = es.length * 58 ∧ (k * 58 + 58 ≤ es.length * 58) = True ∧ (0 ≤ (k : Int) ∧ (k : Int) < (es.length : Int)) = True := by
  subst he
  refine ⟨?_, entsC_len L.oks, eq_true (by omega), eq_true (by omega)⟩
  rw [entsC_take L.oks hk 58 (Nat.le_refl _), List.take_of_length_le (by rw [entC_len (L.oks _ (List.getElem_mem hk))]; exact Nat.le_refl _)]
  rfl
/-- What is the case of a hash's cells. -/
theorem h_facts {H : List UInt8} (l : H.length = 32) : (∀ l, (cellsB H ++ l).take 32 = cellsB H) ∧ (∀ l, (cellsB H ++ l).drop 32 = l) ∧ (∀ l, (cellsB H ++ l).drop 53 = l.drop 21) ∧ (cellsB H).take 32 = cellsB H ∧ (cellsB H).length = 32 ∧ (∀ cs off, splice cs off (cellsB H) = cs.take off ++ cellsB H ++ cs.drop (off + 32)) ∧ (cellsB H).drop 32 = [] := by
  have lc : (cellsB H).length = 32 := by rw [len_cellsB, l]
  exact ⟨fun l => by rw [← lc, List.take_left], fun l => by rw [← lc, List.drop_left], fun l => by rw [List.drop_append, lc, List.drop_of_length_le (by omega)]; rfl, List.take_of_length_le (by omega), lc, fun cs off => by rw [splice_many _ (by omega), lc], List.drop_of_length_le (by omega)⟩
def b132_3 : List Nat := [0, 1, 3, 7, 0, 31, 63, 0, 128, 384, 896, 0, 2048, 6144, 14336, 32640, 65408, 0, 0, 524287, 1048575]
def w132_3 : List Nat := [19, 20]
def b132_4 : List Nat := [0, 1, 3, 0, 8, 24, 63, 127, 255, 511, 1023, 255, 2303, 6399, 16383, 32767, 65535, 131071, 65535, 327679, 1048575, 2097151, 4194303, 8388607, 16777215]
def w132_4 : List Nat := []

/-- The new block is higher than the head. -/
theorem l132t {S : List AV} {es : List Ent} (L : Lg S es) (hd : Int) {k : Nat} (hk : k < es.length) (hb : hd < 0 ∨ ∃ j, ∃ hj : j < es.length, hd = (j : Int) ∧ es[j].ht < es[k].ht) : PCalls Tryz.prog 132 [.q (ledC S false es hd) 0, .i .i64 (k : Int)] (.b true) := by
  have a := led21 L.hS false es hd
  have b := led22 L.hS false es hd
  rcases hb with hb | ⟨j, hj, rfl, hh⟩
  · have q : (hd < 0) = True := eq_true hb
    clear hb
    refine pof Tryz.func132 fun h n => ?_
    repeat (first | refine go ?_ | refine drg 3 b132_3 w132_3 ?_ | refine drg 4 b132_4 w132_4 ?_)
    exact outP
  · have q : ((j : Int) < 0) = False := eq_false (by omega)
    have o1 := L.oks _ (List.getElem_mem hj)
    have o2 := L.oks _ (List.getElem_mem hk)
    obtain ⟨e1, h1⟩ : ∃ e, es[j] = e := ⟨_, rfl⟩
    obtain ⟨e2, h2⟩ : ∃ e, es[k] = e := ⟨_, rfl⟩
    have F1 := ent_whole L hj e1 h1
    have F2 := ent_whole L hk e2 h2
    rw [h1] at hh o1
    rw [h2] at hh o2
    have q2 : (e2.ht > e1.ht) = True := eq_true hh
    have n1 := o1.hash
    have n2 := o2.hash
    have s1 := o1.st
    have s2 := o2.st
    clear h1 h2 hh o1 o2
    refine pof Tryz.func132 fun h n => ?_
    repeat (first | refine go ?_ | refine drg 3 b132_3 w132_3 ?_ | refine drg 4 b132_4 w132_4 ?_)
    exact outP

end Go.Proofs.YtmkefpjpghmonaaGreat
