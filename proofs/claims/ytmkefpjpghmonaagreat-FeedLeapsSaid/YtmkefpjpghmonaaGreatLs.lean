import Derived.Test.YtmkefpjpghmonaaGreatLr
section
namespace Go.Av
variable {P : Program}
/-- Results, the rows of g in them told by their content. -/
def frzT (g : Heap) (d : Nat) : AV → AV
  | .tup xs => .tup (xs.map (frz g d))
  | x => frz g d x
theorem RV.frzT {C D : Cx} {g : Heap} (h3 : ∀ (k : Nat) (x : AV) (v : Value), RV C x v → RV D (frz g k x) v) (d : Nat) : ∀ (x : AV) (v : Value), RV C x v → RV D (frzT g d x) v := fun x v h => by
  cases x with
  | tup xs =>
    obtain ⟨vs, rfl, hl, hv⟩ := h.inv_tup
    refine .tup _ _ (by simpa using hl) fun k y u hy hu => ?_
    obtain ⟨y0, hy0, rfl⟩ : ∃ y0, xs[k]? = some y0 ∧ frz g d y0 = y := by simpa using hy
    exact h3 d _ _ (hv k y0 u hy0 hu)
  | _ => exact h3 d _ _ h
/-- What comes back with a row of new memory, the row told by its content. -/
theorem FCalls.frozen {f : FuncId} {args : List AV} {R : Nat → AV} {cs : List AV} {r : AV} (hc : FCalls P f args R cs) (d : Nat) (hr : ∀ n, frzT (only n cs) d (R n) = r := by (intro n; simp [frzT, frz, only])) (hf : r.free = true := by (exact fr)) : PCalls P f args r := fun h n => by
  obtain ⟨h1, h2, h3⟩ := hc.calls h n
  refine ⟨h1, Nat.le_refl _, fun U ρ Ro w xs hU hrel hxs => (h3 U ρ Ro w xs hU hrel hxs).mono ?_⟩
  rintro e w' ⟨x, ρ', Ro', rfl, k1, k2, k3⟩
  have hlt : ∀ j r, h j = some r → j < n := fun j r hj => hU j (hrel.lt j r hj)
  obtain ⟨g1, g2, g3⟩ := k1.frzG (g := only n cs) (h' := h) (fun j cs' hj => by
    unfold only at hj
    split at hj
    · rename_i he; subst he; injection hj with hj; injection hj with hj; subst hj
      show upd h j _ j = _; rw [upd_same]
    · cases hj) (fun j r hj => by
    have hne : j ≠ n := Nat.ne_of_lt (hlt j r hj)
    refine ⟨by show upd h n _ j = _; rw [upd_ne _ _ hne]; exact hj, fun cs' hc' => ?_⟩
    unfold only at hc'
    rw [if_neg hne] at hc'; cases hc')
  have e3 := k3.trans g2
  have hsub : ∀ j, ext U n n j → ext U n (n + 1) j := fun j hj => by rcases hj with hj | hj; exact .inl hj; omega
  refine ⟨x, ρ', _, rfl, ⟨fun j r hj => .inl (hrel.lt j r hj), fun j hj => g1.bl j (hsub j hj), fun j cs' hj => ?_, g1.iter, g1.inj, g1.sep, g1.rob, g1.gl⟩, ?_, ⟨fun j hj => .inl hj, e3.rr, e3.ro0, e3.ro1, e3.os, e3.tape, e3.output, e3.size, e3.blk, e3.zz, e3.lv⟩⟩
  · obtain ⟨c, T, lo, hi, m0, m1, m2, m3, m4⟩ := g1.row j cs' hj
    obtain ⟨c0, T0, lo0, hi0, p0, p1, p2, p3, p4⟩ := hrel.row j cs' hj
    refine ⟨c, T, lo, hi, m0, m1, m2, m3, fun k y v hy hv => ?_⟩
    have hk : k < c0.size := by
      rcases Nat.lt_or_ge k cs'.length with h' | h'
      · omega
      · rw [List.getElem?_eq_none h'] at hy; cases hy
    have := (p4 k y _ hy (Array.getElem?_eq_getElem hk)).narrow (m4 k y v hy hv)
    rw [ext_self]
    exact this
  · have := RV.frzT g3 d _ _ k2
    rw [hr n] at this
    exact this.free hf fun _ _ h => h
end Go.Av
end

namespace Go.Proofs.YtmkefpjpghmonaaGreat
open Go.Av
set_option maxRecDepth 100000
set_option maxHeartbeats 1000000
set_option synthInstance.maxHeartbeats 400000
set_option synthInstance.maxSize 4000
set_option linter.unusedSimpArgs false
set_option linter.unusedVariables false

theorem chain_root (es : List Ent) : chainN es (-1) = [] := rfl
theorem chain_len {S : List AV} {es : List Ent} (L : Lg S es) {id : Int} (h : id < es.length) : (chainN es id).length ≤ 100001 := by
  have := up_len es (id + 1).toNat id
  have := L.len
  unfold chainN
  rw [List.length_reverse]
  omega
theorem l63p {S : List AV} {es : List Ent} (L : Lg S es) (z : Bool) (hd id : Int) (h : okId es.length id = true) : PCalls Tryz.prog 63 [.q (ledC S z es hd) 0, .i .i64 id] (.tup [.ro (id == -1) (intsC (chainN es id)) (chainN es id).length, .i .i64 0]) := by
  by_cases hi : id = -1
  · subst hi; exact l63r L z hd
  · have hr := okId_t h
    obtain ⟨k, rfl⟩ : ∃ k : Nat, id = k := ⟨id.toNat, by omega⟩
    rw [show ((k : Int) == -1) = false by simp only [beq_eq_false_iff_ne, ne_eq]; omega]
    refine (l63 L z hd k (by omega)).frozen 1 (fun n => ?_) (by simp [AV.free, freeAll, free_ints])
    simp [frzT, frz, only, len_ints, take_ints]
theorem l76 (K : Nat) (hK : K ≤ 1048576) : PCalls Tryz.prog 76 [.i .i64 (K : Int)] (.tup [.agg [.i .i64 (K : Int), .i .i64 (-1), .i .i64 (-1), .b false], .i .i64 0]) := by
  have q1 : ((K : Int) < 0) = False := eq_false (by omega)
  have q2 : ((K : Int) > 1048576) = False := eq_false (by omega)
  refine pof Tryz.func76 fun h n => ?_
  refine go ?_
  exact outP
theorem l78 {S : List AV} {es : List Ent} (L : Lg S es) (z : Bool) (hd : Int) (K : Nat) (hK : K ≤ 1048576) (tip last : Int) (b : Bool) (ht : okId es.length tip = true) (hs : last = -1 ∨ hasInt (chainN es tip) last = true) : PCalls Tryz.prog 78 [.q (ledC S z es hd) 0, .agg [.i .i64 (K : Int), .i .i64 tip, .i .i64 last, .b b]] (.i .i64 0) := by
  have q1 : ((K : Int) < 0) = False := eq_false (by omega)
  have q2 : ((K : Int) > 1048576) = False := eq_false (by omega)
  have C := l63p L z hd tip ht
  have hl := chain_len L (okId_t ht).2
  have D := l140 (tip == -1) (chainN es tip) last (by omega)
  generalize chainN es tip = new at C hl D hs
  generalize (tip == -1) = zt at C D
  rcases hs with hs | hs
  · have c1 : (last != -1) = false := by rw [hs]; rfl
    clear hs hl ht hK
    refine pof Tryz.func78 fun h n => ?_
    refine go ?_
    exact outP
  · rw [hs] at D
    by_cases hm : last = -1
    · have c1 : (last != -1) = false := by rw [hm]; rfl
      clear hs hl ht hK hm
      refine pof Tryz.func78 fun h n => ?_
      refine go ?_
      exact outP
    · have c1 : (last != -1) = true := by simpa using hm
      clear hs hl ht hK hm
      refine pof Tryz.func78 fun h n => ?_
      refine go ?_
      exact outP

theorem com_ok {S : List AV} {es : List Ent} (L : Lg S es) : ∀ (f : Nat) (a b : Int), (-1 ≤ a ∧ a < es.length) → (-1 ≤ b ∧ b < es.length) → -1 ≤ com es f a b ∧ com es f a b < es.length
  | 0, a, b, ha, _ => ha
  | f + 1, a, b, ha, hb => by
    unfold com
    by_cases hab : a = b
    · rw [if_pos hab]; exact ha
    · rw [if_neg hab]
      have hs := com_side L ha hb hab
      split
      · rename_i hh
        obtain ⟨k, rfl, hk⟩ := hs.1 hh
        have ht := L.tree k hk
        rw [par_at hk]
        exact com_ok L f _ b ⟨by omega, by omega⟩ hb
      · rename_i hh
        obtain ⟨k, rfl, hk⟩ := hs.2 hh
        have ht := L.tree k hk
        rw [par_at hk]
        exact com_ok L f a _ ha ⟨by omega, by omega⟩
theorem comN_ok {S : List AV} {es : List Ent} (L : Lg S es) {a b : Int} (ha : -1 ≤ a ∧ a < es.length) (hb : -1 ≤ b ∧ b < es.length) : okId es.length (comN es a b) = true := by
  have := com_ok L ((a + 1).toNat + (b + 1).toNat) a b ha hb
  change -1 ≤ comN es a b ∧ comN es a b < es.length at this
  simp only [okId, hasN, Bool.or_eq_true, beq_iff_eq, Bool.and_eq_true, decide_eq_true_eq]
  omega
/-- What See has before it comes to the out. -/
theorem see_setup {S : List AV} {es : List Ent} (L : Lg S es) (hB : Bare es) (z : Bool) (hd : Int) (K : Nat) (hK : K ≤ 1048576) (tip last : Int) (ht : okId es.length tip = true) (hs : last = -1 ∨ hasInt (chainN es tip) last = true) (k : Nat) (hk : k < es.length) : ∃ (B : AV) (A N C : List Int) (c : Int) (za zc : Bool), (A = chainN es tip ∧ N = chainN es k ∧ C = chainN es (comN es tip k)) ∧ PCalls Tryz.prog 78 [.q (ledC S z es hd) 0, .agg [.i .i64 (K : Int), .i .i64 tip, .i .i64 last, .b false]] (.i .i64 0) ∧ PCalls Tryz.prog 56 [.q (ledC S z es hd) 0, .i .i64 (k : Int)] (.tup [B, .i .i64 0]) ∧
    PCalls Tryz.prog 63 [.q (ledC S z es hd) 0, .i .i64 tip] (.tup [.ro za (intsC A) A.length, .i .i64 0]) ∧ PCalls Tryz.prog 63 [.q (ledC S z es hd) 0, .i .i64 (k : Int)] (.tup [.ro false (intsC N) N.length, .i .i64 0]) ∧ PCalls Tryz.prog 63 [.q (ledC S z es hd) 0, .i .i64 c] (.tup [.ro zc (intsC C) C.length, .i .i64 0]) ∧
    PCalls Tryz.prog 66 [.q (ledC S z es hd) 0, .i .i64 tip, .i .i64 (k : Int)] (.tup [.i .i64 c, .i .i64 0]) ∧ PCalls Tryz.prog 140 [.ro false (intsC N) N.length, .i .i64 last] (.b (hasInt N last)) ∧ PCalls Tryz.prog 141 [.ro false (intsC N) N.length, .i .i64 last] (.i .i64 (idxOf N last)) ∧ (A.length ≤ 100001 ∧ N.length ≤ 100001 ∧ C.length ≤ 100001) := by
  have hk' : okId es.length (k : Int) = true := by simp [okId, hasN]; omega
  have hc := comN_ok L (okId_t ht) (okId_t hk')
  have l1 := chain_len L (okId_t ht).2
  have l2 := chain_len L (okId_t hk').2
  have l3 := chain_len L (okId_t hc).2
  have hz : ((k : Int) == -1) = false := by simp only [beq_eq_false_iff_ne, ne_eq]; omega
  have l4 := l63p L z hd k hk'
  rw [hz] at l4
  exact ⟨_, _, _, _, _, _, _, ⟨rfl, rfl, rfl⟩, l78 L z hd K hK tip last false ht hs, l56 L hB z hd k hk, l63p L z hd tip ht, l4, l63p L z hd _ hc, l66 L z hd tip k ht hk', l140 _ _ _ (by omega), l141 _ _ _ (by omega), l1, l2, l3⟩
theorem idx_from (v : Int) : ∀ (l : List Int) (i : Nat), -1 ≤ idxFrom v l i ∧ idxFrom v l i < i + l.length
  | [], i => by simp only [idxFrom, List.length_nil]; omega
  | x :: l, i => by
    have := idx_from v l (i + 1)
    unfold idxFrom
    simp only [List.length_cons]
    split <;> omega
theorem idx_range (l : List Int) (v : Int) : -1 ≤ idxOf l v ∧ idxOf l v < l.length := by have := idx_from v l 0; unfold idxOf; omega

/-- Too much is taken back. -/
theorem l80h {S : List AV} {es : List Ent} (L : Lg S es) (hB : Bare es) (z : Bool) (hd : Int) (K : Nat) (hK : K ≤ 1048576) (tip last : Int) (ht : okId es.length tip = true) (hs : last = -1 ∨ hasInt (chainN es tip) last = true) (k : Nat) (hk : k < es.length) (hq : ((chainN es tip).length : Int) - ((chainN es (comN es tip k)).length : Int) > (K : Int)) : PCalls Tryz.prog 80 [.q (ledC S z es hd) 0, .agg [.i .i64 (K : Int), .i .i64 tip, .i .i64 last, .b false], .i .i64 (k : Int)] (.tup [.agg [.i .i64 (K : Int), .i .i64 tip, .i .i64 last, .b true], .ro true [] 0, .i .i64 16]) := by
  obtain ⟨B, A, N, C, c, za, zc, ⟨eA, eN, eC⟩, X1, X2, X3, X4, X5, X6, X7, X8, l1, l2, l3⟩ := see_setup L hB z hd K hK tip last ht hs k hk
  rw [← eA, ← eC] at hq

  have w1 : IntKind.wrap .i64 ((A.length : Int) - (C.length : Int)) = (A.length : Int) - (C.length : Int) := IntWalk.i64_in _ (by omega)
  have q1 := eq_true hq
  clear hq eA eN eC l1 l2 l3 hs ht hk hK
  refine pof Tryz.func80 fun h n => ?_
  refine go ?_
  exact outP
/-- The last one handed out is gone. -/
theorem l80g {S : List AV} {es : List Ent} (L : Lg S es) (hB : Bare es) (z : Bool) (hd : Int) (K : Nat) (hK : K ≤ 1048576) (tip last : Int) (ht : okId es.length tip = true) (hs : last = -1 ∨ hasInt (chainN es tip) last = true) (k : Nat) (hk : k < es.length) (hq : ¬ ((chainN es tip).length : Int) - ((chainN es (comN es tip k)).length : Int) > (K : Int)) (hl : last ≠ -1) (hg : hasInt (chainN es k) last = false) : PCalls Tryz.prog 80 [.q (ledC S z es hd) 0, .agg [.i .i64 (K : Int), .i .i64 tip, .i .i64 last, .b false], .i .i64 (k : Int)] (.tup [.agg [.i .i64 (K : Int), .i .i64 tip, .i .i64 last, .b true], .ro true [] 0, .i .i64 16]) := by
  obtain ⟨B, A, N, C, c, za, zc, ⟨eA, eN, eC⟩, X1, X2, X3, X4, X5, X6, X7, X8, l1, l2, l3⟩ := see_setup L hB z hd K hK tip last ht hs k hk
  rw [← eA, ← eC] at hq

  have w1 : IntKind.wrap .i64 ((A.length : Int) - (C.length : Int)) = (A.length : Int) - (C.length : Int) := IntWalk.i64_in _ (by omega)
  have q1 := eq_false hq
  have q2 : (last != -1) = true := by simpa using hl
  rw [← eN] at hg
  clear hq eA eN eC l1 l2 l3 hs ht hk hK hl
  refine pof Tryz.func80 fun h n => ?_
  refine go ?_
  exact outP
/-- Nothing is handed out. -/
theorem l80n {S : List AV} {es : List Ent} (L : Lg S es) (hB : Bare es) (z : Bool) (hd : Int) (K : Nat) (hK : K ≤ 1048576) (tip last : Int) (ht : okId es.length tip = true) (hs : last = -1 ∨ hasInt (chainN es tip) last = true) (k : Nat) (hk : k < es.length) (hq : ¬ ((chainN es tip).length : Int) - ((chainN es (comN es tip k)).length : Int) > (K : Int)) (hl : (last != -1) = false ∨ ((last != -1) = true ∧ hasInt (chainN es k) last = true)) (hn : ¬ ((chainN es k).length : Int) - (K : Int) > 1 + idxOf (chainN es k) last) : PCalls Tryz.prog 80 [.q (ledC S z es hd) 0, .agg [.i .i64 (K : Int), .i .i64 tip, .i .i64 last, .b false], .i .i64 (k : Int)] (.tup [.agg [.i .i64 (K : Int), .i .i64 (k : Int), .i .i64 last, .b false], .ro true [] 0, .i .i64 0]) := by
  obtain ⟨B, A, N, C, c, za, zc, ⟨eA, eN, eC⟩, X1, X2, X3, X4, X5, X6, X7, X8, l1, l2, l3⟩ := see_setup L hB z hd K hK tip last ht hs k hk
  rw [← eA, ← eC] at hq

  have w1 : IntKind.wrap .i64 ((A.length : Int) - (C.length : Int)) = (A.length : Int) - (C.length : Int) := IntWalk.i64_in _ (by omega)
  have q1 := eq_false hq
  rw [← eN] at hl hn
  have ix := idx_range N last
  have w2 : IntKind.wrap .i64 (1 + idxOf N last) = 1 + idxOf N last := IntWalk.i64_in _ (by omega)
  have w3 : IntKind.wrap .i64 ((N.length : Int) - (K : Int)) = (N.length : Int) - (K : Int) := IntWalk.i64_in _ (by omega)
  have q3 := eq_false hn
  rcases hl with hl | ⟨hl, hg⟩
  · clear hq eA eN eC l1 l2 l3 hs ht hk hK hn ix
    refine pof Tryz.func80 fun h n => ?_
    refine go ?_
    exact outP
  · clear hq eA eN eC l1 l2 l3 hs ht hk hK hn ix
    refine pof Tryz.func80 fun h n => ?_
    refine go ?_
    exact outP
/-- Something is handed out. -/
theorem l80f {S : List AV} {es : List Ent} (L : Lg S es) (hB : Bare es) (z : Bool) (hd : Int) (K : Nat) (hK : K ≤ 1048576) (tip last : Int) (ht : okId es.length tip = true) (hs : last = -1 ∨ hasInt (chainN es tip) last = true) (k : Nat) (hk : k < es.length) (hq : ¬ ((chainN es tip).length : Int) - ((chainN es (comN es tip k)).length : Int) > (K : Int)) (hl : (last != -1) = false ∨ ((last != -1) = true ∧ hasInt (chainN es k) last = true)) (a b : Nat) (hab : a < b) (hbl : b ≤ (chainN es k).length) (ha : 1 + idxOf (chainN es k) last = (a : Int)) (hb : ((chainN es k).length : Int) - (K : Int) = (b : Int)) (y : Int) (hy : (chainN es k)[b - 1]? = some y) :
    FCalls Tryz.prog 80 [.q (ledC S z es hd) 0, .agg [.i .i64 (K : Int), .i .i64 tip, .i .i64 last, .b false], .i .i64 (k : Int)] (fun m => .tup [.agg [.i .i64 (K : Int), .i .i64 (k : Int), .i .i64 y, .b false], .sl 1 m 0 (b - a), .i .i64 0]) (intsC (((chainN es k).drop a).take (b - a))) := by
  obtain ⟨B, A, N, C, c, za, zc, ⟨eA, eN, eC⟩, X1, X2, X3, X4, X5, X6, X7, X8, l1, l2, l3⟩ := see_setup L hB z hd K hK tip last ht hs k hk
  rw [← eA, ← eC] at hq

  have w1 : IntKind.wrap .i64 ((A.length : Int) - (C.length : Int)) = (A.length : Int) - (C.length : Int) := IntWalk.i64_in _ (by omega)
  have q1 := eq_false hq
  rw [← eN] at hl hbl ha hb hy ⊢
  have w2 : IntKind.wrap .i64 (a : Int) = (a : Int) := IntWalk.i64_in _ (by omega)
  have w3 : IntKind.wrap .i64 (b : Int) = (b : Int) := IntWalk.i64_in _ (by omega)
  have w4 : IntKind.wrap .i64 ((b : Int) - 1) = ((b - 1 : Nat) : Int) := by rw [show ((b - 1 : Nat) : Int) = (b : Int) - 1 by omega]; exact IntWalk.i64_in _ (by omega)
  have q3 : ((b : Int) > (a : Int)) = True := eq_true (by omega)
  have D := l142 (intsC ((N.drop a).take (b - a))) (b - a) (by simp [intsC]; omega) (free_ints _) (by omega)
  have gy : (intsC N)[b - 1]? = some (.i .i64 y) := by simp [intsC, hy]
  have ec : ((intsC N).drop a).take (b - a) = intsC ((N.drop a).take (b - a)) := by simp [intsC]
  have q4 : (0 ≤ (b : Int) ∧ (b : Int) ≤ (N.length : Int)) = True := eq_true (by omega)
  have q5 : (0 ≤ (a : Int) ∧ (a : Int) ≤ (b : Int)) = True := eq_true (by omega)
  have q6 : (0 ≤ ((b - 1 : Nat) : Int) ∧ ((b - 1 : Nat) : Int) < (N.length : Int)) = True := eq_true (by omega)
  have fO := free_ints ((N.drop a).take (b - a))
  generalize intsC ((N.drop a).take (b - a)) = O at D ec fO ⊢
  clear hy eA eN eC l1 l2 l3 hs ht hk hK hq
  rcases hl with hl | ⟨hl, hg⟩
  · refine fof Tryz.func80 (fun h n => ?_)
    refine go ?_
    exact outF (n + 2)
  · refine fof Tryz.func80 (fun h n => ?_)
    refine go ?_
    exact outF (n + 2)

end Go.Proofs.YtmkefpjpghmonaaGreat
