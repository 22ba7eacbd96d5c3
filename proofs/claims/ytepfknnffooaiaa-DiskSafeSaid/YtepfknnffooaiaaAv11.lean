/- What one operation does, told of abstract values: it is so. Part 8: appending, copying. -/
import Derived.Test.YtepfknnffooaiaaAv10
namespace Go.Av

variable {P : Program} {U : Nat → Prop} {n n' : Nat} {ρ : Nat → Nat} {Ro : Nat → Prop} {h : Heap} {w w1 : World} {t : Tmps} {a : Act} {o : Oper} {C : Cx} {v : AV} {us : List (Nat × Option Row)}

/-- What is appended, read. -/
structure Src (P : Program) (C : Cx) (T2 : TypeId) (w : World) (z : Nat) (xv : Value) (ys : List AV) (m : Nat) (news : List Value) : Prop where
  kind : ∃ D, P.underlying T2 = some D ∧ ∀ k, D ≠ .int k
  len : Builtin.lenOf xv = pure m
  cells : ∀ W k, W.heap = w.heap → k ≤ m → (Builtin.firstCells z k xv).run P W = .ok (news.take (k * z)).toArray W
  rvs : RVs C ys news
  one : ∀ (k : Nat) (x : AV), ys[k]? = some x → x.one = true
  size : ys.length = m * z
  ones : ∀ u ∈ news, u.oneCell' = true

theorem src_of (hr : Rel U ρ Ro h w) {T2 : TypeId} {z m : Nat} {x : AV} {xv : Value} {ys : List AV} (hx : RV (cx U ρ Ro w) x xv) (ha : aapp P T2 h z x = some (ys, m)) (hzU : ∀ e z' b, slT P T2 = some (e, z', b) → z' = z ∨ True) :
    ∃ news, Src P (cx U ρ Ro w) T2 w z xv ys m news := by
  unfold aapp at ha
  split at ha
  · rename_i u
    split at ha
    · rename_i hk
      obtain ⟨hk, rfl⟩ := hk
      simp only [Option.some.injEq, Prod.mk.injEq] at ha
      obtain ⟨rfl, rfl⟩ := ha
      obtain rfl := hx.inv_s
      obtain ⟨D, hd, _, _, h1, _⟩ := kiT_some hk
      obtain rfl := h1.1 rfl
      refine ⟨u.data.toList.map fun b => Value.int .u8 b.toNat, ⟨_, hd, fun k hk => by cases hk⟩, rfl, fun W k hW hk => ?_, bytesA_rvs _ u, bytesA_one u, by rw [bytesA_len]; omega, fun y hy => ?_⟩
      · simp only [Builtin.firstCells, Sem.run_pure]
        congr 1
        rw [Nat.mul_one, ← List.map_take, ← List.map_toArray]
        congr 1
        apply Array.ext'
        simp [ByteArray.data_extract]
      · obtain ⟨b, _, rfl⟩ := List.mem_map.1 hy
        rfl
    · cases ha
  · split at ha
    · rename_i s cs off len hs hv
      obtain ⟨e, z', b⟩ := s
      split at ha
      · rename_i hle
        simp only [Option.some.injEq, Prod.mk.injEq] at ha
        obtain ⟨rfl, rfl⟩ := ha
        obtain ⟨hu, _, _⟩ := slT_some hs
        obtain ⟨ad, cap, hva, hnil, hrd⟩ := hr.show_ hx hv
        subst hva
        have hlen : ((cs.drop off).take (len * z)).length = len * z := by simp; omega
        cases ad with
        | none =>
          obtain ⟨rfl, rfl⟩ := hnil rfl
          refine ⟨[], ⟨_, hu, fun k hk => by cases hk⟩, rfl, fun W k hW hk => ?_, by simpa using RVs.nil _, fun k x hx => by simp at hx, by simp, fun u hu => by simp at hu⟩
          simp [Builtin.firstCells]
        | some ad =>
          have hget : ∀ (k : Nat) (y : AV), ((cs.drop off).take (len * z))[k]? = some y → y.one = true ∧ ∃ u, w.cell? (ad.add k) = some u ∧ RV (cx U ρ Ro w) y u := fun k y hy => by
            rw [List.getElem?_take] at hy
            split at hy
            · rw [List.getElem?_drop] at hy; exact hrd ad rfl k y hy
            · cases hy
          obtain ⟨vs, g1, g2, g3, g4⟩ := exists_cells (C := cx U ρ Ro w) (a := ad) (len * z) hlen.symm hget
          refine ⟨vs, ⟨_, hu, fun k hk => by cases hk⟩, rfl, fun W k hW hk => ?_, g2, fun k x hx => (hget k x hx).1, hlen, g4⟩
          have hlk : (vs.take (k * z)).length = k * z := by
            rw [List.length_take, g1]
            have := Nat.mul_le_mul_right z hk
            omega
          have := run_loads P (w := W) (vs.take (k * z)) ad (fun j v hj => by
            rw [List.getElem?_take] at hj
            split at hj
            · have := g3 j v hj
              simpa [World.cell?, hW] using this
            · cases hj)
          rw [hlk] at this
          simpa [Builtin.firstCells] using this
      · cases ha
    · cases ha

theorem run_app_nil0 {T T2 ty e : TypeId} {i : TypeInfo} {z m : Nat} {xv : Value} {ys : List AV} {news : List Value} (ht : P.underlying T = some (.slice e)) (hi : P.info? e = some i) (hz : i.size = z) (hs : Src P C T2 w z xv ys m news) (hm : m = 0) :
    (Builtin.append_ #[T, T2] ty #[.slice none 0 0, xv]).run P w = .ok (.slice none 0 0) w := by
  subst hm
  obtain ⟨D, hd, hk⟩ := hs.kind
  have hc := hs.cells w 0 rfl (Nat.le_refl _)
  simp only [Nat.zero_mul, List.take_zero] at hc
  simp [Builtin.append_, run_underlying ht, run_underlying hd, sizeOf, typeInfo, hi, hz, hs.len, hc]

theorem run_app_grow {T T2 ty e : TypeId} {i : TypeInfo} {zv : Value} {z m len cap : Nat} {base : Option Addr} {xv : Value} {ys : List AV} {olds news : List Value} (ht : P.underlying T = some (.slice e)) (hi : P.info? e = some i) (hz : i.size = z) (hzz : i.zero = some zv)
    (hs : Src P C T2 w z xv ys m news) (hold : ∀ W, W.heap = w.heap → (Builtin.firstCells z len (.slice base len cap)).run P W = .ok olds.toArray W)
    (hg : cap < len + m) (h63 : ((len + m : Nat) : Int) ≤ 9223372036854775807) (hfit : Builtin.nextslicecap (len + m) cap * i.bytes ≤ 281474976710656) :
    (Builtin.append_ #[T, T2] ty #[.slice base len cap, xv]).run P w = .ok (.slice (some ⟨w.heap.size, 0, none⟩) (len + m) (grownCap w (len + m) cap e))
      (w.drew.alloc (.cells (olds.toArray ++ news.toArray ++ Builtin.zeroCells zv.cells (grownCap w (len + m) cap e - (len + m))) e)) := by
  obtain ⟨D, hd, hk⟩ := hs.kind
  have hc := hs.cells w.drew m rfl (Nat.le_refl _)
  have hnl : news.length = m * z := by rw [hs.rvs.1, hs.size]
  rw [← hnl, List.take_length] at hc
  have ho := hold w.drew rfl
  have hn : ¬ (len + m ≤ cap) := by omega
  have h63' : ¬ (9223372036854775807 < ((len : Int) + (m : Int))) := by omega
  have h48' : ¬ (281474976710656 < Builtin.nextslicecap (len + m) cap * i.bytes) := by omega
  simp [Builtin.append_, run_underlying ht, run_underlying hd, sizeOf, typeInfo, zeroValue, hi, hz, hzz, hs.len, hn, h63', h48', Question.forced, hc, ho, newRow, grownCap]
  congr 2
  apply Array.ext'
  simp [List.append_assoc]

theorem run_app_room {T T2 ty e : TypeId} {i : TypeInfo} {z m len cap g : Nat} {xv : Value} {ys : List AV} {news : List Value} (ht : P.underlying T = some (.slice e)) (hi : P.info? e = some i) (hz : i.size = z)
    (hs : Src P C T2 w z xv ys m news) (hroom : len + m ≤ cap) {w' : World} (hst : (storeCells ⟨g, 0 + len * z, none⟩ news).run P w = .ok () w') :
    (Builtin.append_ #[T, T2] ty #[.slice (some ⟨g, 0, none⟩) len cap, xv]).run P w = .ok (.slice (some ⟨g, 0, none⟩) (len + m) cap) w' := by
  obtain ⟨D, hd, hk⟩ := hs.kind
  have hc := hs.cells w m rfl (Nat.le_refl _)
  have hnl : news.length = m * z := by rw [hs.rvs.1, hs.size]
  rw [← hnl, List.take_length] at hc
  simp only [Nat.zero_add] at hst
  simp [Builtin.append_, run_underlying ht, run_underlying hd, sizeOf, typeInfo, hi, hz, hs.len, hroom, hc, Addr.add_lit, hst]

theorem sound_append {T T2 : TypeId} {s x : Operand} (hs : okX s = true) (hx : okX x = true) (hv : aappend P T T2 h n (aev t s) (aev t x) = some (v, us, n')) :
    Sound P (.call { callee := .builtin .append, args := #[s, x], argTypes := #[T, T2] }) t h n v us n' := by
  intro ty d U ρ Ro w a hmU hr ht
  have hrs := rv_ev ht hs
  have hrx := rv_ev ht hx
  generalize aev t s = p at hv hrs
  generalize aev t x = q at hv hrx
  have hexec : ∀ r w', (Builtin.append_ #[T, T2] ty #[a.eval s, a.eval x]).run P w = .ok r w' → Ran P (.call { callee := .builtin .append, args := #[s, x], argTypes := #[T, T2] }) ty d a w r w' := fun r w' hrun => by
    refine .inl ?_
    simp only [execOp, resolve, Sem.run_bind, Sem.run_pure, Result.andThen_ok, invoke, builtin, List.map_toArray, List.map_cons, List.map_nil, hrun]
  unfold aappend at hv
  split at hv
  · rename_i e z by_ hsl
    obtain ⟨hu, hsz, hby⟩ := slT_some hsl
    split at hv
    · rename_i hz0
      obtain ⟨hzp, hzl⟩ := hz0
      split at hv
      · rename_i ys m ha
        obtain ⟨news, hsrc⟩ := src_of (P := P) hr hrx ha (fun _ _ _ _ => .inr trivial)
        cases hze : zeT P e with
        | none => rw [hze] at hzl; cases hzl
        | some zs =>
          rw [hze] at hzl
          simp at hzl
          obtain ⟨i, zv, hi, hzz, hzcs⟩ := zero_cs hze (cx U ρ Ro w)
          have hiz : i.size = z := by
            obtain ⟨i', hi', h'⟩ := szT_some hsz
            rw [hi] at hi'
            injection hi' with hi'
            subst hi'
            exact h'
          have hib : i.bytes = by_ := by
            obtain ⟨i', hi', h'⟩ := byT_some hby
            rw [hi] at hi'
            injection hi' with hi'
            subst hi'
            exact h'
          have hzvs : zv.cells.size = z := by rw [hzcs.len, hzl]
          have hnl : news.length = m * z := by rw [hsrc.rvs.1, hsrc.size]
          split at hv
          · -- nil
            have hsv := hrs.inv_nil
            split at hv
            · rename_i hm
              simp only [Option.some.injEq, Prod.mk.injEq] at hv
              obtain ⟨rfl, rfl, rfl⟩ := hv
              rw [ext_self]
              refine ⟨.slice none 0 0, w, ρ, Ro, hexec _ _ ?_, .ron, hr, Ext.refl ..⟩
              rw [hsv]
              exact run_app_nil0 hu hi hiz hsrc hm
            · rename_i hm
              split at hv
              · rename_i hb
                simp only [Option.some.injEq, Prod.mk.injEq] at hv
                obtain ⟨rfl, rfl, rfl⟩ := hv
                have hgc := grownCap_ge w (0 + m) 0 e
                have hgm := grownCap_le_maxLen w (0 + m) 0 e (by unfold maxLen; omega)
                have hrun := run_app_grow (P := P) (ty := ty) (olds := []) (base := none) (len := 0) (cap := 0) hu hi hiz hzz hsrc (fun W _ => by simp [Builtin.firstCells]) (by omega) (by omega)
                  (growslice_fits (by omega) (by rw [Nat.zero_add, hib]; exact hb.1))
                simp only [Nat.zero_add] at hrun hgc hgm
                obtain ⟨ρ', Ro', g0, g1, g2⟩ := new_slice (w1 := w.drew.alloc (.cells (#[] ++ news.toArray ++ Builtin.zeroCells zv.cells (grownCap w m 0 e - m)) e)) hr (hmU n (Nat.le_refl _) (Nat.lt_succ_self _)) ⟨rfl, rfl, rfl⟩
                  (c := #[] ++ news.toArray ++ Builtin.zeroCells zv.cells (grownCap w m 0 e - m)) (T := e) (lo := 0) (hi := 0) rfl (.inl (Nat.le_refl _)) (cs := ys) (by simp [hnl, hsrc.size]) hsrc.one
                  (fun k x v hx hv => by
                    have hk : k < ys.length := by
                      rcases Nat.lt_or_ge k ys.length with h' | h'
                      · exact h'
                      · rw [List.getElem?_eq_none h'] at hx; cases hx
                    refine hsrc.rvs.2 k x v hx ?_
                    rw [Array.empty_append, Array.getElem?_append_left (by simp [hnl]; rw [← hsrc.size]; exact hk)] at hv
                    simpa using hv)
                  (sz := z) (len := m) (cap := grownCap w m 0 e) hgc hgm (by
                    simp only [Array.empty_append, Array.size_append, List.size_toArray, hnl, size_zeroCells, hzvs, ← Nat.add_mul]
                    rw [show m + (grownCap w m 0 e - m) = grownCap w m 0 e by omega]
                    exact Nat.le_refl _)
                rw [ext_succ]
                refine ⟨_, _, ρ', Ro', hexec _ _ ?_, g0, g1, g2⟩
                rw [hsv]
                simpa using hrun
              · cases hv
          · -- own
            rename_i sz j off len
            obtain ⟨cap, hsv, hjn, hlc, hcm, hroomZ⟩ := hrs.inv_sl
            split at hv
            · rename_i cs hj
              split at hv
              · rename_i hb
                obtain ⟨rfl, hcl, hb1, hb2, rfl⟩ := hb
                simp only [Option.some.injEq, Prod.mk.injEq] at hv
                obtain ⟨rfl, rfl, rfl⟩ := hv
                obtain ⟨c, T', lo, hi', h0, hfr, hle, hcone, hcrv⟩ := hr.row j cs hj
                have hZ : (cx U ρ Ro w).Z ((cx U ρ Ro w).ρ j) = c.size := bsz_cells h0
                rw [hZ] at hroomZ
                have hρ : (cx U ρ Ro w).ρ j = ρ j := rfl
                rw [hρ] at hsv
                by_cases hroom : len + m ≤ cap
                · -- in place
                  have hfit : len * sz + m * sz ≤ c.size := by
                    rw [← Nat.add_mul]
                    have := Nat.mul_le_mul_right sz hroom
                    omega
                  obtain ⟨w', h1, h2, h3⟩ := stored hr hj P (0 + len * sz) news ys (cs ++ ys) (by rw [hnl, hsrc.size]) hsrc.one hsrc.rvs.2 hsrc.ones
                    (fun c' T'' fr hg => by
                      rw [h0] at hg
                      injection hg with hg
                      injection hg with hg
                      subst hg
                      rw [hsrc.size, List.length_append, hsrc.size]
                      omega)
                    (fun k hk => by
                      rw [List.length_append] at hk
                      by_cases hkc : k < cs.length
                      · rw [List.getElem?_append_left hkc, if_neg (by omega)]
                      · rw [List.getElem?_append_right (by omega), if_pos (by omega)]
                        congr 1; omega)
                  obtain ⟨g1, g2⟩ := h2.turn (hmU n (Nat.le_refl _) (Nat.lt_succ_self _)) (j := j) (r := .cells (cs ++ ys)) (upd_same _ _ _)
                  have hheap : upd (upd (upd h j (some (.cells (cs ++ ys)))) j none) n (some (.cells (cs ++ ys))) = app [(j, none), (n, some (.cells (cs ++ ys)))] h := by
                    funext k
                    simp only [app, List.foldl_cons, List.foldl_nil, upd]
                    split
                    · rfl
                    · split <;> rfl
                  rw [hheap] at g1 g2
                  rw [ext_succ]
                  refine ⟨.slice (some ⟨ρ j, 0, none⟩) (len + m) cap, w', pin ρ n (ρ j), Ro, hexec _ _ ?_, ?_, g1, h3.trans g2⟩
                  · rw [hsv]
                    exact run_app_room hu hi hiz hsrc hroom h1
                  · have hz' : bsz w' (ρ j) = c.size := by rw [h3.zz _ (hr.bl j hjn), bsz_cells h0]
                    have := RV.sl (C := cx (ins U n) (pin ρ n (ρ j)) Ro w') sz n 0 (len + m) cap ((.inr rfl : ins U n n)) hroom hcm (by simp only [cx, pin_same, hz']; exact hroomZ)
                    simpa [cx, pin_same] using this
                · -- a new block
                  have hgc := grownCap_ge w (len + m) cap e
                  have hgm := grownCap_le_maxLen w (len + m) cap e (by unfold maxLen; omega)
                  have hcl' : cs.length = len * sz := by omega
                  obtain ⟨olds, o1, o2, o3, o4⟩ := exists_cells (C := cx U ρ Ro w) (w := w) (a := ⟨ρ j, 0, none⟩) (len * sz) hcl'.symm (fun k y hy => by
                    have hk : k < cs.length := by
                      rcases Nat.lt_or_ge k cs.length with h' | h'
                      · exact h'
                      · rw [List.getElem?_eq_none h'] at hy; cases hy
                    have hkc : k < c.size := by omega
                    refine ⟨hcone k y hy, c[k], ?_, hcrv k y _ hy (by simp [hkc])⟩
                    rw [Addr.add_lit, Nat.zero_add, cell_row h0]
                    simp [hkc])
                  have hold : ∀ W, W.heap = w.heap → (Builtin.firstCells sz len (.slice (some ⟨ρ j, 0, none⟩) len cap)).run P W = .ok olds.toArray W := fun W hW => by
                    have := run_loads P (w := W) olds ⟨ρ j, 0, none⟩ (fun k v hk => by have := o3 k v hk; simpa [World.cell?, hW] using this)
                    rw [o1] at this
                    simpa [Builtin.firstCells] using this
                  have hrun := run_app_grow (P := P) (ty := ty) (olds := olds) (base := some ⟨ρ j, 0, none⟩) (len := len) (cap := cap) hu hi hiz hzz hsrc hold (by omega) (by omega) (growslice_fits (by omega) (by rw [hib]; exact hb1))
                  obtain ⟨ρ', Ro', g0, g1, g2⟩ := new_slice (w1 := w.drew.alloc (.cells (olds.toArray ++ news.toArray ++ Builtin.zeroCells zv.cells (grownCap w (len + m) cap e - (len + m))) e)) hr (hmU n (Nat.le_refl _) (Nat.lt_succ_self _)) ⟨rfl, rfl, rfl⟩
                    (c := olds.toArray ++ news.toArray ++ Builtin.zeroCells zv.cells (grownCap w (len + m) cap e - (len + m))) (T := e) (lo := 0) (hi := 0) rfl (.inl (Nat.le_refl _)) (cs := cs ++ ys)
                    (by simp only [List.length_append, Array.size_append, List.size_toArray, o1, hnl, hcl', hsrc.size]; omega)
                    (fun k x hx => by
                      by_cases hk : k < cs.length
                      · rw [List.getElem?_append_left hk] at hx; exact hcone k x hx
                      · rw [List.getElem?_append_right (by omega)] at hx; exact hsrc.one _ x hx)
                    (fun k x v hx hv => by
                      have hkl : k < (cs ++ ys).length := by
                        rcases Nat.lt_or_ge k (cs ++ ys).length with h' | h'
                        · exact h'
                        · rw [List.getElem?_eq_none h'] at hx; cases hx
                      rw [List.length_append, hsrc.size] at hkl
                      rw [Array.getElem?_append_left (by simp [o1, hnl]; omega)] at hv
                      have hv' : (olds ++ news)[k]? = some v := by simpa using hv
                      exact (o2.append hsrc.rvs).2 k x v hx hv')
                    (sz := sz) (len := len + m) (cap := grownCap w (len + m) cap e) hgc hgm (by
                      simp only [Array.size_append, List.size_toArray, o1, hnl, size_zeroCells, hzvs, ← Nat.add_mul]
                      rw [show len + m + (grownCap w (len + m) cap e - (len + m)) = grownCap w (len + m) cap e by omega]
                      exact Nat.le_refl _)
                  have hless : ∀ k r, app [(j, none), (n, some (Row.cells (cs ++ ys)))] h k = some r → upd h n (some (Row.cells (cs ++ ys))) k = some r := fun k r hk => by
                    simp only [app, List.foldl_cons, List.foldl_nil, upd] at hk ⊢
                    split at hk
                    · rename_i hkn; rw [if_pos hkn]; exact hk
                    · rename_i hkn
                      rw [if_neg hkn]
                      split at hk
                      · cases hk
                      · exact hk
                  rw [ext_succ]
                  refine ⟨_, _, ρ', Ro', hexec _ _ ?_, g0, g1.less hless, g2.less hless⟩
                  rw [hsv]
                  exact hrun
              · cases hv
            · cases hv
          · cases hv
      · cases hv
    · cases hv
  · cases hv

end Go.Av
