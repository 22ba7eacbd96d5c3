import Derived.Test.YtmkefpjpghmonaaGreatLm
namespace Go.Proofs.YtmkefpjpghmonaaGreat
open Go.Av
set_option maxRecDepth 100000
set_option maxHeartbeats 1000000
set_option synthInstance.maxHeartbeats 400000
set_option synthInstance.maxSize 4000
set_option linter.unusedSimpArgs false
set_option linter.unusedVariables false

/-! ### a ledger's entries -/
structure Ent where
  par : Int
  ht : Int
  salt : Int
  zt : Bool
  txc : List AV
  nt : Nat
  hash : List UInt8
  st : List AV
  ze : Bool
  er : List Int
def entC (e : Ent) : List AV := [.i .i64 e.par, .i .i64 e.ht, .i .i64 e.salt, .ro e.zt e.txc e.nt] ++ (cellsB e.hash ++ (e.st ++ [.ro e.ze (intsC e.er) e.er.length]))
structure Ent.ok (e : Ent) : Prop where
  hash : e.hash.length = 32
  st : e.st.length = 21
  fst : freeAll e.st = true
  ftx : freeAll e.txc = true
def dEnt : Ent := ⟨-1, 0, 0, true, [], 0, [], [], true, []⟩
def entsC (l : List Ent) : List AV := l.flatMap entC
theorem entC_len {e : Ent} (h : e.ok) : (entC e).length = 58 := by
  simp [entC, cellsB, h.hash, h.st]
theorem free_ent {e : Ent} (h : e.ok) : freeAll (entC e) = true := by
  simp [entC, freeAll_app, freeAll, AV.free, free_cellsB, h.fst, h.ftx, free_ints]
def Oks (l : List Ent) : Prop := ∀ e, e ∈ l → e.ok
theorem entsC_len : ∀ {l : List Ent}, Oks l → (entsC l).length = l.length * 58
  | [], _ => rfl
  | e :: l, h => by
    show (entC e ++ entsC l).length = _
    rw [List.length_append, entC_len (h e (by simp)), entsC_len (fun x hx => h x (by simp [hx])), List.length_cons]
    omega
theorem free_ents : ∀ {l : List Ent}, Oks l → freeAll (entsC l) = true
  | [], _ => rfl
  | e :: l, h => by
    show freeAll (entC e ++ entsC l) = true
    rw [freeAll_app, free_ent (h e (by simp)), free_ents (fun x hx => h x (by simp [hx]))]; rfl
theorem entsC_app (a b : List Ent) : entsC (a ++ b) = entsC a ++ entsC b := by simp [entsC]
theorem entsC_drop : ∀ {l : List Ent} {k : Nat}, Oks l → (hk : k < l.length) → ∃ r, (entsC l).drop (k * 58) = entC l[k] ++ r
  | e :: l, 0, h, _ => ⟨entsC l, rfl⟩
  | e :: l, k + 1, h, hk => by
    obtain ⟨r, hr⟩ := entsC_drop (l := l) (k := k) (fun x hx => h x (by simp [hx])) (by simpa using hk)
    refine ⟨r, ?_⟩
    show (entC e ++ entsC l).drop ((k + 1) * 58) = _
    rw [show (k + 1) * 58 = (entC e).length + k * 58 by rw [entC_len (h e (by simp))]; omega, List.drop_append, List.drop_of_length_le (by omega)]
    simpa using hr
theorem entsC_at {l : List Ent} {k : Nat} (h : Oks l) (hk : k < l.length) (r : Nat) (hr : r < 58) : (entsC l)[k * 58 + r]? = (entC l[k])[r]? := by
  obtain ⟨s, hs⟩ := entsC_drop h hk
  rw [← List.getElem?_drop, hs, List.getElem?_append_left (by rw [entC_len (h _ (List.getElem_mem hk))]; exact hr)]
theorem entsC_take {l : List Ent} {k : Nat} (h : Oks l) (hk : k < l.length) (m : Nat) (hm : m ≤ 58) : ((entsC l).drop (k * 58)).take m = (entC l[k]).take m := by
  obtain ⟨s, hs⟩ := entsC_drop h hk
  rw [hs, List.take_append_of_le_length (by rw [entC_len (h _ (List.getElem_mem hk))]; exact hm)]
/-- A ledger's cells. -/
def ledC (S : List AV) (z : Bool) (es : List Ent) (hd : Int) : List AV := S ++ [.ro z (entsC es) es.length, .i .i64 hd]
theorem led21 {S : List AV} (hS : S.length = 21) (z : Bool) (es : List Ent) (hd : Int) : (ledC S z es hd)[21]? = some (.ro z (entsC es) es.length) := by
  unfold ledC; rw [List.getElem?_append_right (by omega), hS]; rfl
theorem led22 {S : List AV} (hS : S.length = 21) (z : Bool) (es : List Ent) (hd : Int) : (ledC S z es hd)[22]? = some (.i .i64 hd) := by
  unfold ledC; rw [List.getElem?_append_right (by omega), hS]; rfl
def hasN (n : Nat) (id : Int) : Bool := decide (id ≥ 0) && decide (id < n)
/-- What is the case of a ledger. -/
structure Lg (S : List AV) (es : List Ent) : Prop where
  hS : S.length = 21
  fS : freeAll S = true
  oks : Oks es
  len : es.length ≤ 100000
  tree : ∀ k (hk : k < es.length), -1 ≤ es[k].par ∧ es[k].par < k
  ht : ∀ k (hk : k < es.length), 1 ≤ es[k].ht
theorem l128 {S : List AV} {es : List Ent} (L : Lg S es) (z : Bool) (hd id : Int) : PCalls Tryz.prog 128 [.q (ledC S z es hd) 0, .i .i64 id] (.b (hasN es.length id)) := by
  have a := led21 L.hS z es hd
  unfold hasN
  refine pof Tryz.func128 fun h n => ?_
  by_cases h1 : id ≥ 0
  · have h1f : (id ≥ 0) = True := eq_true h1
    rw [show decide (id ≥ 0) = true from decide_eq_true h1]
    clear h1
    refine go ?_
    exact outP
  · have h1f : (id ≥ 0) = False := eq_false h1
    rw [show decide (id ≥ 0) = false from decide_eq_false h1]
    clear h1
    refine go ?_
    exact outP
def parOf (es : List Ent) (id : Int) : Int := (es.getD id.toNat dEnt).par
def htOf (es : List Ent) (id : Int) : Int := if hasN es.length id = true then (es.getD id.toNat dEnt).ht else 0
theorem hasN_t {n : Nat} {id : Int} (h : hasN n id = true) : ∃ k : Nat, id = k ∧ k < n := by
  simp only [hasN, Bool.and_eq_true, decide_eq_true_eq] at h
  exact ⟨id.toNat, by omega, by omega⟩
theorem getD_at {es : List Ent} {k : Nat} (hk : k < es.length) : es.getD k dEnt = es[k] := by simp [hk]
/-- The facts of entry k. -/
theorem ent_facts {S : List AV} {es : List Ent} (L : Lg S es) {k : Nat} (hk : k < es.length) (e : Ent) (he : es[k] = e) : (entsC es)[k * 58]? = some (.i .i64 e.par) ∧ (entsC es)[k * 58 + 1]? = some (.i .i64 e.ht) ∧ List.take 4 (List.drop (k * 58) (entsC es)) = [.i .i64 e.par, .i .i64 e.ht, .i .i64 e.salt, .ro e.zt e.txc e.nt] ∧ (entsC es).length = es.length * 58 ∧ (k * 58 + 4 ≤ es.length * 58) = True ∧ (0 ≤ (k : Int) ∧ (k : Int) < (es.length : Int)) = True := by
  subst he
  have h0 := entsC_at L.oks hk 0 (by decide)
  have h1 := entsC_at L.oks hk 1 (by decide)
  exact ⟨h0, h1, entsC_take L.oks hk 4 (by decide), entsC_len L.oks, eq_true (by omega), eq_true (by omega)⟩
theorem l136 {S : List AV} {es : List Ent} (L : Lg S es) (z : Bool) (hd id : Int) : PCalls Tryz.prog 136 [.q (ledC S z es hd) 0, .i .i64 id] (.i .i64 (htOf es id)) := by
  have a := led21 L.hS z es hd
  have H := l128 L z hd id
  unfold htOf
  cases hh : hasN es.length id with
  | false =>
    rw [hh] at H
    rw [if_neg (by simp)]
    clear hh
    refine pof Tryz.func136 fun h n => ?_
    refine go ?_
    exact outP
  | true =>
    rw [if_pos rfl]
    rw [hh] at H
    obtain ⟨k, rfl, hk⟩ := hasN_t hh
    obtain ⟨e, he⟩ : ∃ e, es[k] = e := ⟨_, rfl⟩
    have F := ent_facts L hk e he
    rw [Int.toNat_natCast, getD_at hk, he]
    clear hh he
    refine pof Tryz.func136 fun h n => ?_
    refine go ?_
    exact outP
/-- From a block up to its first one. -/
def up (es : List Ent) : Nat → Int → List Int
  | 0, _ => []
  | f + 1, id => if id < 0 then [] else id :: up es f (parOf es id)
def chainN (es : List Ent) (id : Int) : List Int := (up es (id + 1).toNat id).reverse
theorem up_neg (es : List Ent) (f : Nat) {id : Int} (h : id < 0) : up es f id = [] := by
  cases f with
  | zero => rfl
  | succ f => exact if_pos h
theorem up_fuel {S : List AV} {es : List Ent} (L : Lg S es) : ∀ (f g : Nat) (id : Int), id < f → id < g → id < es.length → up es f id = up es g id
  | 0, g, id, h1, h2, _ => by rw [up_neg es g (by omega)]; rfl
  | f + 1, 0, id, h1, h2, _ => by rw [up_neg es (f + 1) (by omega)]; rfl
  | f + 1, g + 1, id, h1, h2, h3 => by
    unfold up
    by_cases hn : id < 0
    · rw [if_pos hn, if_pos hn]
    · rw [if_neg hn, if_neg hn]
      obtain ⟨k, rfl⟩ : ∃ k : Nat, id = k := ⟨id.toNat, by omega⟩
      have hk : k < es.length := by omega
      have ht := L.tree k hk
      have hp : parOf es k = es[k].par := by unfold parOf; rw [Int.toNat_natCast, getD_at hk]
      rw [up_fuel L f g _ (by rw [hp]; omega) (by rw [hp]; omega) (by rw [hp]; omega)]
theorem up_len (es : List Ent) : ∀ (f : Nat) (id : Int), (up es f id).length ≤ f
  | 0, _ => Nat.le_refl _
  | f + 1, id => by
    unfold up
    split
    · simp
    · have := up_len es f (parOf es id); simp; omega
theorem l63n {S : List AV} {es : List Ent} (L : Lg S es) (z : Bool) (hd : Int) (id : Int) (hi : id ≠ -1) (hh : hasN es.length id = false) : PCalls Tryz.prog 63 [.q (ledC S z es hd) 0, .i .i64 id] (.tup [.ro true [] 0, .i .i64 5]) := by
  have H := l128 L z hd id
  rw [hh] at H
  have c1 : (id != -1) = true := by simpa using hi
  clear hh hi
  refine pof Tryz.func63 fun h n => ?_
  refine go ?_
  exact outP
theorem l135n : PCalls Tryz.prog 135 [.ro true [] 0] (.tup []) := by
  have w0 : IntKind.wrap .i64 (-1) = -1 := by decide
  refine pof Tryz.func135 fun h n => ?_
  repeat (first | refine go ?_ | refine drg 3 b135_3 w135_3 ?_)
  refine AWr.loop 2 ?_
  repeat (first | refine go ?_ | refine drg 3 b135_3 w135_3 ?_)
  exact outP
theorem l63r {S : List AV} {es : List Ent} (L : Lg S es) (z : Bool) (hd : Int) : PCalls Tryz.prog 63 [.q (ledC S z es hd) 0, .i .i64 (-1)] (.tup [.ro true [] 0, .i .i64 0]) := by
  have R := l135n
  refine pof Tryz.func63 fun h n => ?_
  refine go ?_
  refine AWr.loop 2 ?_
  refine go ?_
  exact outP
theorem l63 {S : List AV} {es : List Ent} (L : Lg S es) (z : Bool) (hd : Int) (k0 : Nat) (hk0 : k0 < es.length) : FCalls Tryz.prog 63 [.q (ledC S z es hd) 0, .i .i64 (k0 : Int)] (fun m => .tup [.sl 1 m 0 (chainN es k0).length, .i .i64 0]) (intsC (chainN es k0)) := by
  have H := l128 L z hd k0
  have hh : hasN es.length (k0 : Int) = true := by simp [hasN]; omega
  rw [hh] at H
  have c1 : ((k0 : Int) != -1) = true := by simp only [bne_iff_ne, ne_eq]; omega
  have a := led21 L.hS z es hd
  obtain ⟨C, eC⟩ : ∃ C, C = chainN es k0 := ⟨_, rfl⟩
  have HC : Hid _ := ⟨eC⟩
  have hlen := L.len
  have hC : C.length ≤ 100001 := by
    rw [eC]; unfold chainN
    rw [List.length_reverse]
    have := up_len es ((k0 : Int) + 1).toNat k0
    omega
  rw [← eC]
  clear hh eC
  refine fof Tryz.func63 fun h n => ?_
  refine go ?_
  refine AWp.loop (fun mm t' h' n' => ∃ (id : Int) (A : List Int) (s : AV), mm = (id + 1).toNat ∧ -1 ≤ id ∧ id < es.length ∧ Hid (A ++ up es (id + 1).toNat id = C.reverse) ∧ t' 0 = .q (ledC S z es hd) 0 ∧ t' 1 = .i .i64 id ∧ t' 6 = s ∧ ((Hid (A = []) ∧ s = .ro true [] 0 ∧ id = k0) ∨ ∃ j, s = .sl 1 j 0 A.length ∧ h' j = some (.cells (intsC A)) ∧ n ≤ j ∧ j < n') ∧ n ≤ n' ∧ Keeps n h h') (k0 + 1) ?_ ?_
  · exact ⟨k0, [], _, by omega, by omega, by omega, ⟨by rw [HC.get]; unfold chainN; simp⟩, tr, tr, tr, .inl ⟨⟨rfl⟩, rfl, rfl⟩, by omega, ks⟩
  · rintro mm t' h' n' - ⟨id, A, s, hmm, h1, h2, HA, t0, t1, t6, hs, hn, kp⟩
    have Hmm : Hid _ := ⟨hmm⟩
    clear hmm
    by_cases hid : id < 0
    · have hm1 : id = -1 := by omega
      have q1 : (id ≥ 0) = False := eq_false (by omega)
      have e : A = C.reverse := by rw [← HA.get, up_neg es _ hid]; simp
      rcases hs with ⟨_, _, h3⟩ | ⟨j, rfl, rj, hj1, hj2⟩
      · omega
      · have p0 := apt hj2
        have hAl : A.length ≤ 1000000 := by rw [e, List.length_reverse]; omega
        have hAl' : A.length = C.length := by rw [e, List.length_reverse]
        have R := fun (g : Heap) (m : Nat) (hg : g j = some (.cells (intsC A))) => l135 A hAl hg m
        have er : A.reverse = C := by rw [e, List.reverse_reverse]
        rw [er, hAl'] at R
        rw [hAl'] at t6
        clear hm1 HA HC hAl e Hmm
        refine go ?_
        refine VRC.wide (us := swap [(j, intsC A)] [(j, intsC C)]) (n' := n') (R _ _ rj) rfl ?_
        have sw : app (swap [(j, intsC A)] [(j, intsC C)]) h' = upd h' j (some (.cells (intsC C))) := by
          rw [show swap [(j, intsC A)] [(j, intsC C)] = [(j, none), (j, some (.cells (intsC C)))] from rfl, app_cons, app_cons, app_nil, upd_upd]
        rw [sw]
        clear R er hAl' rj
        refine go ?_
        exact outF j
    · obtain ⟨k, rfl⟩ : ∃ k : Nat, id = k := ⟨id.toNat, by omega⟩
      have hk : k < es.length := by omega
      have q1 : ((k : Int) ≥ 0) = True := eq_true (by omega)
      obtain ⟨e, he⟩ : ∃ e, es[k] = e := ⟨_, rfl⟩
      have F := ent_facts L hk e he
      have b1 : ((k : Int) < (es.length : Int)) = True := eq_true (by omega)
      have ht := L.tree k hk
      have hp : parOf es k = es[k].par := by unfold parOf; rw [Int.toNat_natCast, getD_at hk]
      rw [he] at ht hp
      have HA' : Hid ((A ++ [(k : Int)]) ++ up es (e.par + 1).toNat e.par = C.reverse) := ⟨by
        rw [← HA.get, show ((k : Int) + 1).toNat = k + 1 by omega]
        conv => rhs; unfold up
        rw [if_neg (by omega), hp, up_fuel L (e.par + 1).toNat k e.par (by omega) (by omega) (by omega)]
        simp⟩
      have hAl : A.length + 1 ≤ 100001 := by
        have := congrArg List.length HA'.get
        simp at this; omega
      have lt1 : (e.par + 1).toNat < mm := by have := Hmm.get; omega
      have a1 : ((A.length + 1) * 8 ≤ 140737488355328) = True := eq_true (by omega)
      have a2 : (A.length + 1 ≤ 9223372036854775807) = True := eq_true (by omega)
      have i1 : intsC [(k : Int)] = [.i .i64 (k : Int)] := rfl
      have r1 : rep 1 [AV.i .i64 0] = [.i .i64 0] := rfl
      have e1 : (A ++ [(k : Int)]).length = A.length + 1 := by simp
      rcases hs with ⟨hA, hs, h3⟩ | ⟨j, hs, rj, hj1, hj2⟩
      · have hA := hA.get
        subst hs hA
        clear HA he hp h2 hAl Hmm h3
        refine go ?_
        exact ⟨_, lt1, e.par, [(k : Int)], _, rfl, ht.1, by omega, HA', tr, tr, tr, .inr ⟨n' + 1, rfl, tr, by omega, by omega⟩, by omega, ks⟩
      · have p0 := apt hj2
        subst hs
        clear HA he hp h2 hAl Hmm
        refine go ?_
        exact ⟨_, lt1, e.par, A ++ [(k : Int)], _, rfl, ht.1, by omega, HA', tr, tr, tr, .inr ⟨n' + 1, by rw [e1], by rw [ints_app]; exact tr, by omega, by omega⟩, by omega, ks⟩

end Go.Proofs.YtmkefpjpghmonaaGreat
