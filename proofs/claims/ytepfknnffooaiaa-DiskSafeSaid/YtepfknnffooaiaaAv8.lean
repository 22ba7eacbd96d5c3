/- What one operation does, told of abstract values: it is so. Part 5: stores, strings gone through, slices made, cut, appended to. -/
import Derived.Test.YtepfknnffooaiaaAv7
import Derived.IntWalk
namespace Go.Av

variable {P : Program} {U : Nat → Prop} {n n' : Nat} {ρ : Nat → Nat} {Ro : Nat → Prop} {h : Heap} {w w1 : World} {t : Tmps} {a : Act} {o : Oper} {C : Cx} {v : AV} {us : List (Nat × Option Row)}

theorem bsz_cells {b : Nat} {c : Array Value} {T : TypeId} {fr : Nat × Nat} (hb : w.heap[b]? = some (.cells c T fr)) : bsz w b = c.size := by simp [bsz, hb]

/-- A row into which cells were stored. -/
theorem stored (hr : Rel U ρ Ro h w) {j : Nat} {cs : List AV} (hj : h j = some (.cells cs)) (P : Program) (off : Nat) (vs : List Value) (ys ds : List AV) (hlen : vs.length = ys.length) (hone : ∀ (k : Nat) (x : AV), ys[k]? = some x → x.one = true)
    (hrv : ∀ (k : Nat) (x : AV) (v : Value), ys[k]? = some x → vs[k]? = some v → RV (cx U ρ Ro w) x v) (h1 : ∀ v ∈ vs, v.oneCell' = true)
    (hroom : ∀ c T fr, w.heap[ρ j]? = some (.cells c T fr) → off + ys.length ≤ c.size ∧ ds.length ≤ c.size)
    (hds : ∀ k : Nat, k < ds.length → ds[k]? = if off ≤ k ∧ k < off + ys.length then ys[k - off]? else cs[k]?) :
    ∃ w', (storeCells ⟨ρ j, off, none⟩ vs).run P w = .ok () w' ∧ Rel U ρ Ro (upd h j (some (.cells ds))) w' ∧ Ext U ρ Ro h w U ρ Ro (upd h j (some (.cells ds))) w' := by
  obtain ⟨c, T, lo, hi, h0, hfr, hle, hcone, hcrv⟩ := hr.row j cs hj
  obtain ⟨hr1, hr2⟩ := hroom c T (lo, hi) h0
  obtain ⟨w', c', hrun, hs, hsz, hoth, hg', hcsz, hget⟩ := run_storeCells P (ρ j) off vs 0 w c T lo hi h0 hfr (by omega) h1
  simp only [Nat.add_zero, hlen] at hget
  refine ⟨w', hrun, ?_⟩
  have hnone : ∀ (k : Nat) (x : AV), ds[k]? = some x → k < ds.length := fun k x hx => by
    rcases Nat.lt_or_ge k ds.length with h' | h'
    · exact h'
    · rw [List.getElem?_eq_none h'] at hx; cases hx
  exact hr.write hs hj (.cells ds) hsz hoth (by rw [bsz_cells hg', bsz_cells h0, hcsz]) (fun cs' he => by
    injection he with he
    subst he
    refine ⟨c', T, lo, hi, hg', by rw [hcsz]; exact hfr, by rw [hcsz]; exact hr2, fun k x hx => ?_, fun k x v hx hv => ?_⟩
    · rw [hds k (hnone k x hx)] at hx
      split at hx
      · exact hone _ x hx
      · exact hcone k x hx
    · have hk := hnone k x hx
      rw [hds k hk] at hx
      rw [hget] at hv
      split at hx
      · rename_i hkk
        rw [if_pos hkk] at hv
        exact hrv _ x v hx hv
      · rename_i hkk
        rw [if_neg hkk] at hv
        exact hcrv k x v hx hv) (fun s pos he => by cases he)

theorem oneCells_of {x : AV} {v : Value} (h : RV C x v) (hb : x.boxable = true) : ∀ u ∈ v.cells.toList, u.oneCell' = true := fun u hu => by
  have hc := h.cells
  obtain ⟨k, hk, rfl⟩ := List.mem_iff_getElem.1 hu
  have hk' : k < v.cells.size := by simpa using hk
  have hy : x.cells[k]? = some (x.cells[k]'(by omega)) := List.getElem?_eq_getElem (by omega)
  exact ((hc.2 k _ _ hy (by simp [hk'])).one_cell (one_of_boxable h hb k _ hy)).1

theorem sound_store {T : TypeId} {p x : Operand} {z j off : Nat} {cs : List AV} (hp : okX p = true) (hx : okX x = true) (hz : szT P T = some z) (he : aev t p = .p j off) (hj : h j = some (.cells cs))
    (hb : (aev t x).boxable = true) (hl : (aev t x).cells.length = z) (hfit : off + z ≤ cs.length) : Sound P (.store T p x) t h n (.tup []) [(j, some (.cells (splice cs off (aev t x).cells)))] n := by
  intro ty d U ρ Ro w a hm hr ht
  rw [ext_self]
  have hrp := rv_ev ht hp
  rw [he] at hrp
  obtain ⟨hjn, hpa⟩ := hrp.inv_p
  have hrx := rv_ev ht hx
  have hc := hrx.cells
  have hlen : (a.eval x).cells.toList.length = (aev t x).cells.length := by simp [hc.1]
  have hsp := splice_len cs off (aev t x).cells (by omega)
  obtain ⟨w', h1, h2, h3⟩ := stored hr hj P off (a.eval x).cells.toList (aev t x).cells (splice cs off (aev t x).cells) hlen (one_of_boxable hrx hb) (fun k y u hy hu => hc.2 k y u hy (by simpa using hu)) (oneCells_of hrx hb)
    (fun c T fr hg => by
      obtain ⟨c', T', lo, hi, h0, _, hle, _, _⟩ := hr.row j cs hj
      rw [hg] at h0
      injection h0 with h0
      injection h0 with h0
      subst h0
      omega) (fun k _ => splice_get _ _ _ (by omega) k)
  refine ⟨undef, w', ρ, Ro, .inr ⟨?_, rfl⟩, rv_undef _, h2, h3⟩
  have hsz : (a.eval x).cells.size = z := by rw [hc.1]; exact hl
  have hpa' : a.eval p = .pointer (some ⟨ρ j, off, none⟩) := hpa
  simp [execOp, Instr.storeAt, hpa', Instr.sureAddr, storeVar, run_sizeOf hz, hsz, h1]

theorem sound_range {T : TypeId} {x : Operand} {u : ByteArray} (hx : okX x = true) (hk : kiT P T = some .string) (he : aev t x = .s u) : Sound P (.range T x) t h n (.p n 0) [(n, some (.iter u 0))] (n + 1) := by
  intro ty d U ρ Ro w a hm hr ht
  rw [ext_succ]
  obtain ⟨D, hd, _, _, h1, _⟩ := kiT_some hk
  obtain rfl := h1.1 rfl
  have hrx := rv_ev ht hx
  rw [he] at hrx
  have hs := hrx.inv_s
  obtain ⟨g1, g2, g3⟩ := hr.new (hm n (Nat.le_refl _) (Nat.lt_succ_self _)) (w1 := w.alloc (.stringIter u 0)) (same_alloc ..) (o := .stringIter u 0) rfl (.iter u 0) (fun cs he => by cases he) (fun s pos he => by injection he with h1 h2; subst h1; subst h2; rfl)
  refine ⟨.pointer (some ⟨w.heap.size, 0, none⟩), w.alloc (.stringIter u 0), pin ρ n w.heap.size, Ro, .inl ?_, ?_, g1, g2⟩
  · simp [execOp, Instr.range, hs, run_underlying hd]
  · have := RV.p (C := cx (ins U n) (pin ρ n w.heap.size) Ro (w.alloc (.stringIter u 0))) n 0 ((.inr rfl : ins U n n))
    simpa [cx, pin_same] using this

theorem rv_tup3 {x y z : AV} {a b c : Value} (hx : RV C x a) (hy : RV C y b) (hz : RV C z c) : RV C (.tup [x, y, z]) (.tuple #[a, b, c]) :=
  .tup _ _ rfl (fun k u v hu hv => by
    rcases k with _ | _ | _ | k
    · simp at hu hv; subst hu; subst hv; exact hx
    · simp at hu hv; subst hu; subst hv; exact hy
    · simp at hu hv; subst hu; subst hv; exact hz
    · simp at hu)
theorem rv_tup2 {x y : AV} {a b : Value} (hx : RV C x a) (hy : RV C y b) : RV C (.tup [x, y]) (.tuple #[a, b]) :=
  .tup _ _ rfl (fun k u v hu hv => by
    rcases k with _ | _ | k
    · simp at hu hv; subst hu; subst hv; exact hx
    · simp at hu hv; subst hu; subst hv; exact hy
    · simp at hu)
theorem rv_tup1 {x : AV} {a : Value} (hx : RV C x a) : RV C (.tup [x]) (.tuple #[a]) :=
  .tup _ _ rfl (fun k u v hu hv => by
    rcases k with _ | k
    · simp at hu hv; subst hu; subst hv; exact hx
    · simp at hu)

theorem sound_next {x : Operand} {u : ByteArray} {j pos : Nat} (hx : okX x = true) (he : aev t x = .p j 0) (hj : h j = some (.iter u pos)) (hlt : pos < u.size) :
    Sound P (.next x true) t h n (.tup [.b true, .i .i64 pos, .i .i32 ((Utf8.decode u pos).1 : Int)]) [(j, some (.iter u (pos + (Utf8.decode u pos).2)))] n := by
  intro ty d U ρ Ro w a hm hr ht
  rw [ext_self]
  have hrx := rv_ev ht hx
  rw [he] at hrx
  obtain ⟨hjn, hpa⟩ := hrx.inv_p
  have hpa' : a.eval x = .pointer (some ⟨ρ j, 0, none⟩) := hpa
  have hit := hr.iter j u pos hj
  obtain ⟨g1, g2⟩ := hr.write (w1 := { w with heap := w.heap.setIfInBounds (ρ j) (.stringIter u (pos + (Utf8.decode u pos).2)) }) ⟨rfl, rfl, rfl⟩ hj (.iter u (pos + (Utf8.decode u pos).2)) (by simp)
    (fun b hb => by simp [Array.getElem?_setIfInBounds_ne (Ne.symm hb)]) (by have hlt : ρ j < w.heap.size := hr.bl j hjn; simp only [bsz, hit]; rw [Array.getElem?_setIfInBounds_self_of_lt hlt]) (fun cs he => by cases he)
    (fun s p he => by injection he with h1 h2; subst h1; subst h2; have hlt := hr.bl j hjn; simp [hlt])
  refine ⟨.tuple #[.bool true, goInt pos, .int .i32 ((Utf8.decode u pos).1 : Int)], _, ρ, Ro, .inl ?_, rv_tup3 (.b _) (.i _ _) (.i _ _), g1, g2⟩
  simp only [execOp, Instr.next, hpa', Sem.run_bind, getObj, Sem.run, hit, Result.andThen_ok, Sem.run_pure]
  rw [if_pos hlt]
  simp [setObj, Sem.run, hit]

theorem sound_next_end {x : Operand} {u : ByteArray} {j pos : Nat} (hx : okX x = true) (he : aev t x = .p j 0) (hj : h j = some (.iter u pos)) (hge : ¬ pos < u.size) :
    Sound P (.next x true) t h n (.tup [.b false]) [] n :=
  Sound.val fun ty d U ρ Ro w a hr ht => by
    have hrx := rv_ev ht hx
    rw [he] at hrx
    obtain ⟨hjn, hpa⟩ := hrx.inv_p
    have hpa' : a.eval x = .pointer (some ⟨ρ j, 0, none⟩) := hpa
    have hit := hr.iter j u pos hj
    refine ⟨.tuple #[.bool false], .inl ?_, rv_tup1 (.b _)⟩
    simp only [execOp, Instr.next, hpa', Sem.run_bind, getObj, Sem.run, hit, Result.andThen_ok, Sem.run_pure]
    rw [if_neg hge]
    rfl

theorem sound_makeSlice {T : TypeId} {l c : Operand} {kl kc : IntKind} {li ci : Int} {e : TypeId} {z by_ : Nat} {zs : List AV} (hl : okX l = true) (hc : okX c = true) (hs : slT P T = some (e, z, by_)) (hel : aev t l = .i kl li) (hec : aev t c = .i kc ci)
    (hz : zeT P e = some zs) (hzs : zs.length = z) (h0 : 0 ≤ li) (hlc : li ≤ ci) (hb : ci * by_ ≤ 140737488355328) (hm : ci ≤ 9223372036854775807) :
    Sound P (.makeSlice T l c) t h n (.sl z n 0 li.toNat) [(n, some (.cells (rep ci.toNat zs)))] (n + 1) := by
  intro ty d U ρ Ro w a hm_ hr ht
  rw [ext_succ]
  have h1 := rv_ev ht hl
  rw [hel] at h1
  have h2 := rv_ev ht hc
  rw [hec] at h2
  have hli := h1.inv_i
  have hci := h2.inv_i
  obtain ⟨hu, hsz, hby⟩ := slT_some hs
  obtain ⟨ib, hib, hibb⟩ := byT_some hby
  obtain ⟨i, zv, hi, hzz, hcs⟩ := zero_cs hz (cx U ρ Ro w)
  rw [hi] at hib
  injection hib with hib
  subst hib
  have hwl : IntKind.i64.wrap li = li := IntWalk.i64_in _ (by omega)
  have hwc : IntKind.i64.wrap ci = ci := IntWalk.i64_in _ (by omega)
  have hc0 := zeroRow_cs hcs ci.toNat z hzs
  obtain ⟨ρ', Ro', g0, g1, g2⟩ := new_slice (w1 := w.alloc (.cells ((Array.range (ci.toNat * z)).map (zv.cells[· % zv.cells.size]!)) e)) hr (hm_ n (Nat.le_refl _) (Nat.lt_succ_self _)) (same_alloc ..) (c := (Array.range (ci.toNat * z)).map (zv.cells[· % zv.cells.size]!)) (T := e) (lo := 0) (hi := 0) rfl (.inl (Nat.le_refl _))
    (Nat.le_of_eq hc0.len.symm) hc0.one hc0.rv (sz := z) (len := li.toNat) (cap := ci.toNat) (by omega) (by unfold maxLen; omega) (by simp)
  refine ⟨_, _, ρ', Ro', .inl ?_, g0, g1, g2⟩
  have hnb : ¬ (by_ : Int) * ci > 281474976710656 := by rw [Int.mul_comm]; omega
  have hnbl : ¬ (i.bytes : Int) * ci > 281474976710656 := by rw [hibb]; exact hnb
  simp only [execOp, Instr.makeSlice, Sem.run_bind, run_underlying hu, Result.andThen_ok, hli, hci, asInt, asIntOf, Sem.run_pure, typeInfo, run_program, hi, hwl, hwc]
  have hcond : ((decide (ci < 0) || decide ((i.bytes : Int) * ci > 2 ^ 48)) || decide (li < 0) || decide (li > ci)) = false := by
    simp only [Bool.or_eq_false_iff, decide_eq_false_iff_not]
    refine ⟨⟨⟨by omega, ?_⟩, by omega⟩, by omega⟩
    rw [show (2 : Int) ^ 48 = 281474976710656 from rfl]; exact hnbl
  simp only [hcond, Bool.false_eq_true, if_false, Sem.run_bind, run_askRoom, Result.andThen_ok, run_sizeOf hsz]
  by_cases hn0 : ci.toNat * z = 0
  · rw [if_pos hn0]
    simp only [Sem.run_bind, Sem.run_pure, Result.andThen_ok, newRow, run_newObj]
    rw [hn0]
    congr 2
    rw [show (Array.range 0 : Array Nat) = #[] from rfl]
    simp
  · rw [if_neg hn0]
    simp only [Sem.run_bind, run_zeroValue hi hzz, Sem.run_pure, Result.andThen_ok, newRow, run_newObj]
    rfl

end Go.Av
