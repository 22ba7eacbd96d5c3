/- What one operation does, told of abstract values: it is so. Part 6: cutting, converting, appending. -/
import Derived.Test.YtepfknnffooaiaaAv8
import Derived.Laws.BytesString
namespace Go.Av

variable {P : Program} {U : Nat → Prop} {n n' : Nat} {ρ : Nat → Nat} {Ro : Nat → Prop} {h : Heap} {w w1 : World} {t : Tmps} {a : Act} {o : Oper} {C : Cx} {v : AV} {us : List (Nat × Option Row)}

/-- A bound of a cut: as the operand says. -/
def RO (C : Cx) : Option AV → Option Value → Prop
  | none, none => True
  | some x, some v => RV C x v
  | _, _ => False

theorem ro_map (ht : RelT C t a) {x : Option Operand} (hx : ∀ y, x = some y → okX y = true) : RO C (x.map (aev t)) (x.map a.eval) := by
  cases x with
  | none => trivial
  | some y => exact rv_ev ht (hx y rfl)

theorem run_sliceBounds {len cap : Nat} {lo hi : Option AV} {lov hiv : Option Value} (hlo : RO C lo lov) (hhi : RO C hi hiv) {x y : Nat} (hb : asliceB len len lo hi = some (x, y)) (hlc : len ≤ cap) (isS : Bool) :
    (Instr.sliceBounds isS len cap lov hiv none).run P w = .ok (x, y, cap) w ∧ x ≤ y ∧ y ≤ len := by
  unfold asliceB at hb
  split at hb
  · cases hb
  · rename_i b hbb
    split at hb
    · cases hb
    · rename_i a' haa
      simp only [Option.some.injEq, Prod.mk.injEq] at hb
      obtain ⟨rfl, rfl⟩ := hb
      have h1 : b ≤ len ∧ (match hiv with | some v => Instr.sliceBound v cap (if isS then .sliceAcap else .sliceAlen) | none => pure len : Sem Nat).run P w = .ok b w := by
        cases hi with
        | none =>
          cases hiv with
          | none => simp at hbb; subst hbb; exact ⟨Nat.le_refl _, rfl⟩
          | some v => exact hhi.elim
        | some hx =>
          cases hiv with
          | none => exact hhi.elim
          | some v =>
            cases hx <;> simp only at hbb <;> try (cases hbb; done)
            rename_i k m
            split at hbb
            · rename_i hm
              injection hbb with hbb
              subst hbb
              have hv := RV.inv_i hhi
              subst hv
              refine ⟨by omega, ?_⟩
              simp only [Instr.sliceBound, asIntOf, Sem.run_bind, Sem.run_pure, Result.andThen_ok]
              rw [if_pos ⟨hm.1, by omega⟩]
              rfl
            · cases hbb
      have h2 : a' ≤ b ∧ (match lov with | some v => Instr.sliceBound v b .sliceB | none => pure 0 : Sem Nat).run P w = .ok a' w := by
        cases lo with
        | none =>
          cases lov with
          | none => simp at haa; subst haa; exact ⟨Nat.zero_le _, rfl⟩
          | some v => exact hlo.elim
        | some hx =>
          cases lov with
          | none => exact hlo.elim
          | some v =>
            cases hx <;> simp only at haa <;> try (cases haa; done)
            rename_i k m
            split at haa
            · rename_i hm
              injection haa with haa
              subst haa
              have hv := RV.inv_i hlo
              subst hv
              refine ⟨by omega, ?_⟩
              simp only [Instr.sliceBound, asIntOf, Sem.run_bind, Sem.run_pure, Result.andThen_ok]
              rw [if_pos ⟨hm.1, by omega⟩]
              rfl
            · cases haa
      refine ⟨?_, h2.1, h1.1⟩
      have g1 := h1.2
      have g2 := h2.2
      cases hiv <;> cases lov <;> simp only [Instr.sliceBounds, Sem.run_bind, Sem.run_pure, Result.andThen_ok, Option.isSome_none, Bool.false_eq_true, if_false] at g1 g2 ⊢ <;> simp_all

theorem rv_empty (C : Cx) (ad : Addr) (cap : Nat) (hm : cap ≤ maxLen) : RV C (.ro false [] 0) (.slice (some ad) 0 cap) :=
  .ro [] 0 ad cap (fun _ => default) (Nat.zero_le _) hm (fun k x hx => by simp at hx) (fun k x hx => by simp at hx) (fun k x hx => by simp at hx)

theorem rv_sub {cs : List AV} {ad : Addr} {vs : Nat → Value} (h1 : ∀ (k : Nat) (x : AV), cs[k]? = some x → x.one = true) (h2 : ∀ (k : Nat) (x : AV), cs[k]? = some x → C.M (ad.add k) (vs k))
    (h3 : ∀ (k : Nat) (x : AV), cs[k]? = some x → RV C x (vs k)) {off m len cap : Nat} (hl : len ≤ cap) (hc : cap ≤ maxLen) {ad' : Addr} (had : m = 0 ∨ ad' = ad.add off) : RV C (.ro false ((cs.drop off).take m) len) (.slice (some ad') len cap) := by
  have hget : ∀ (k : Nat) (x : AV), ((cs.drop off).take m)[k]? = some x → cs[off + k]? = some x ∧ k < m := fun k x hx => by
    rw [List.getElem?_take] at hx
    split at hx
    · rw [List.getElem?_drop] at hx; exact ⟨hx, by assumption⟩
    · cases hx
  refine .ro _ len ad' cap (fun k => vs (off + k)) hl hc (fun k x hx => h1 _ x (hget k x hx).1) (fun k x hx => ?_) (fun k x hx => h3 _ x (hget k x hx).1)
  obtain ⟨hx1, hx2⟩ := hget k x hx
  rcases had with rfl | rfl
  · omega
  · rw [add_add]; exact h2 _ x hx1

theorem sound_slice {T : TypeId} {x : Operand} {lo hi : Option Operand} (hx : okX x = true) (hlo : ∀ y, lo = some y → okX y = true) (hhi : ∀ y, hi = some y → okX y = true) (hv : aslice P T h (aev t x) (lo.map (aev t)) (hi.map (aev t)) = some v) :
    Sound P (.slice T x lo hi none) t h n v [] n :=
  Sound.val fun ty d U ρ Ro w a hrel ht => by
    have hr := rv_ev ht hx
    have hl := ro_map ht hlo
    have hh := ro_map ht hhi
    generalize aev t x = p at hv hr
    generalize lo.map (aev t) = lo' at hv hl
    generalize hi.map (aev t) = hi' at hv hh
    unfold aslice at hv
    split at hv
    · -- string
      rename_i u hk
      obtain ⟨D, hd, _, _, h1, _⟩ := kiT_some hk
      obtain rfl := h1.1 rfl
      have hs := hr.inv_s
      split at hv
      · rename_i x' y' hb
        injection hv with hv
        subst hv
        obtain ⟨g1, g2, g3⟩ := run_sliceBounds (P := P) (w := w) hl hh hb (Nat.le_refl _) false
        exact ⟨.string (u.extract x' y'), .inl (by simp [execOp, Instr.sliceAt, Instr.slice, run_underlying hd, hs, g1]), .s _⟩
      · cases hv
    · -- own slice
      rename_i sz j off len hk
      split at hv
      · rename_i e z by_ x' y' hs hb
        split at hv
        · rename_i hz
          subst hz
          obtain ⟨hu, hsz, _⟩ := slT_some hs
          obtain ⟨cap, hva, hj, hlc, hcm, hroom⟩ := hr.inv_sl
          obtain ⟨g1, g2, g3⟩ := run_sliceBounds (P := P) (w := w) hl hh hb hlc true
          have hrun : Ran P (.slice T x lo hi none) ty d a w (.slice (if cap = x' then some ⟨(cx U ρ Ro w).ρ j, off, none⟩ else (some (⟨(cx U ρ Ro w).ρ j, off, none⟩ : Addr)).map (·.add (x' * z))) (y' - x') (cap - x')) w := by
            refine .inl ?_
            simp only [execOp, Instr.sliceAt, Sem.run_bind, run_underlying hu, Result.andThen_ok, hva]
            simp only [Instr.slice, Sem.run_bind, run_underlying hu, Result.andThen_ok, Option.map_none, g1, run_sizeOf hsz, Sem.run_pure]
          refine ⟨_, hrun, ?_⟩
          split at hv
          · rename_i hxy
            injection hv with hv
            subst hv
            rw [if_neg (by omega)]
            simp only [Option.map_some, Addr.add_lit]
            refine .sl z j _ _ _ hj (by omega) (by omega) ?_
            have : x' * z + (cap - x') * z = cap * z := by rw [← Nat.add_mul]; congr 1; omega
            omega
          · injection hv with hv
            subst hv
            have h0 : y' - x' = 0 := by omega
            rw [h0]
            split
            · exact rv_empty _ _ _ (by omega)
            · exact rv_empty _ _ _ (by omega)
        · cases hv
      · cases hv
    · -- read-only slice
      rename_i zz cs len hk
      split at hv
      · rename_i e z by_ x' y' hs hb
        injection hv with hv
        subst hv
        obtain ⟨hu, hsz, _⟩ := slT_some hs
        cases zz with
        | true =>
          obtain ⟨rfl, rfl, hva⟩ := hr.inv_ro1
          obtain ⟨g1, g2, g3⟩ := run_sliceBounds (P := P) (w := w) hl hh hb (Nat.le_refl _) true
          have hx0 : x' = 0 := by omega
          have hy0 : y' = 0 := by omega
          subst hx0; subst hy0
          refine ⟨.slice none 0 0, .inl ?_, by simpa using RV.ron⟩
          simp only [execOp, Instr.sliceAt, Sem.run_bind, run_underlying hu, Result.andThen_ok, hva]
          simp [Instr.slice, run_underlying hu, g1, run_sizeOf hsz]
        | false =>
          obtain ⟨ad, cap, vs, hva, hlc, hcm, h1, h2, h3⟩ := hr.inv_ro0
          obtain ⟨g1, g2, g3⟩ := run_sliceBounds (P := P) (w := w) hl hh hb hlc true
          have hrun : Ran P (.slice T x lo hi none) ty d a w (.slice (if cap = x' then some ad else (some ad).map (·.add (x' * z))) (y' - x') (cap - x')) w := by
            refine .inl ?_
            simp only [execOp, Instr.sliceAt, Sem.run_bind, run_underlying hu, Result.andThen_ok, hva]
            simp only [Instr.slice, Sem.run_bind, run_underlying hu, Result.andThen_ok, Option.map_none, g1, run_sizeOf hsz, Sem.run_pure]
          refine ⟨_, hrun, ?_⟩
          split
          · exact rv_sub h1 h2 h3 (by omega) (by omega) (.inl (by rw [show y' - x' = 0 by omega]; simp))
          · exact rv_sub h1 h2 h3 (by omega) (by omega) (.inr rfl)
      · cases hv
    · -- an array behind a pointer
      rename_i px kk p' hk hn1 hn2
      split at hv
      · rename_i m z g cs off hs hp
        obtain ⟨e, hu, hsz, _⟩ := arT_some hs
        split at hv
        · rename_i x' y' hb
          split at hv
          · rename_i hroom
            obtain ⟨hroom, hmm⟩ := hroom
            obtain ⟨g1, g2, g3⟩ := run_sliceBounds (P := P) (w := w) hl hh hb (Nat.le_refl _) false
            obtain ⟨ad, hva, _⟩ := hrel.read hr hp
            have hrun : Ran P (.slice T x lo hi none) ty d a w (.slice (some (if m = x' then ad else ad.add (x' * z))) (y' - x') (m - x')) w := by
              refine .inl ?_
              simp only [execOp, Instr.sliceAt, Sem.run_bind, run_underlying hu, Result.andThen_ok, hva, Instr.sureAddr, Sem.run_pure, Option.map_none, g1, run_sizeOf hsz]
            refine ⟨_, hrun, ?_⟩
            split at hv
            · rename_i j off'
              obtain ⟨hj, hpa⟩ := hr.inv_p
              rw [hva] at hpa
              injection hpa with hpa
              injection hpa with hpa
              subst hpa
              simp only [place] at hp
              cases hhj : h j with
              | none => rw [hhj] at hp; cases hp
              | some r =>
                rw [hhj] at hp
                cases r with
                | iter s pos => cases hp
                | cells cs' =>
                  simp only [Option.some.injEq, Prod.mk.injEq] at hp
                  obtain ⟨rfl, rfl⟩ := hp
                  obtain ⟨c, t', lo', hi'', h0, _, hle, _, _⟩ := hrel.row j cs' hhj
                  have hZ : (cx U ρ Ro w).Z ((cx U ρ Ro w).ρ j) = c.size := bsz_cells h0
                  split at hv
                  · rename_i hxy
                    injection hv with hv
                    subst hv
                    rw [if_neg (by omega), Addr.add_lit]
                    refine .sl z j _ _ _ hj (by omega) (by unfold maxLen; omega) ?_
                    have : x' * z + (m - x') * z = m * z := by rw [← Nat.add_mul]; congr 1; omega
                    omega
                  · injection hv with hv
                    subst hv
                    have h0 : y' - x' = 0 := by omega
                    rw [h0]
                    exact rv_empty _ _ _ (by unfold maxLen; omega)
            · injection hv with hv
              subst hv
              rename_i hnp
              cases px with
              | q cs' o =>
                obtain ⟨b, vs, hb', h1, h2, h3⟩ := hr.inv_q
                simp only [place, Option.some.injEq, Prod.mk.injEq] at hp
                obtain ⟨rfl, rfl⟩ := hp
                rw [hva] at hb'
                injection hb' with hb'
                injection hb' with hb'
                subst hb'
                by_cases hmx : m = x'
                · rw [if_pos hmx]
                  exact rv_sub h1 h2 h3 (by omega) (by unfold maxLen; omega) (.inl (by rw [show y' - x' = 0 by omega]; simp))
                · rw [if_neg hmx, add_add]
                  exact rv_sub h1 h2 h3 (by omega) (by unfold maxLen; omega) (.inr rfl)
              | p j' o' => exact absurd rfl (hnp j' o')
              | _ => simp [place] at hp
          · cases hv
        · cases hv
      · cases hv
    · cases hv

end Go.Av
