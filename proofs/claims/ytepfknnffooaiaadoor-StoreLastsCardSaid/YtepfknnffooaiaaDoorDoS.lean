import Derived.Test.YtepfknnffooaiaaDoorDoP

namespace Go.Proofs.YtepfknnffooaiaaDoor
open Go.Av
set_option maxRecDepth 100000
set_option maxHeartbeats 1000000
set_option linter.unusedSimpArgs false
set_option linter.unusedVariables false
attribute [local push_cast] stepE callR resE aeff aev ofC ofC1 put_at Av.put_none inTmps List.getD_cons_zero List.getD_cons_succ AV.boxable if_true if_false AV.cells aload place app_cons app_nil upd_same Av.part abin aconv aindexAddr fillA splice_one abuiltin alen amax amin aun aindex Option.map_some Option.isSome_some List.map_cons List.map_nil List.nil_append List.append_nil List.cons_append Nat.le_refl Nat.zero_add Nat.add_zero List.length_cons List.length_nil List.drop_succ_cons List.drop_zero List.take_succ_cons List.take_zero beq_self_eq_true bne_self_eq_false Bool.not_true Bool.not_false List.set_cons_zero List.set_cons_succ Bool.false_eq_true IntWalk.i64_in decide_true decide_false Int.toNat_zero and_self and_true true_and List.getElem?_cons_zero List.getElem?_cons_succ aappend aapp view Bool.and_true Bool.true_and Nat.mul_one Option.map_none aslice asliceB nilOp Int.toNat_natCast und_30 agT_3 szT_3 kiT_3 agT_5 szT_5 kiT_5 agT_24 szT_24 kiT_24 agT_62 szT_62 kiT_62 agT_4 szT_4 kiT_4 agT_9 szT_9 kiT_9 agT_44 szT_44 kiT_44 agT_45 szT_45 kiT_45 agT_30 szT_30 kiT_30 agT_22 szT_22 kiT_22 agT_41 szT_41 kiT_41 agT_51 szT_51 kiT_51 agT_52 szT_52 kiT_52 agT_23 szT_23 kiT_23 agT_53 szT_53 kiT_53 agT_27 szT_27 kiT_27 agT_89 szT_89 kiT_89 agT_66 szT_66 kiT_66 agT_20 szT_20 kiT_20 slT_45 slT_44 slT_30 slT_22 slT_41 slT_51 slT_52 zeT_3 zeT_4 zeT_5 zeT_30 zeT_24 flT_55_0 flT_55_1 flT_55_2 flT_55_3 flT_55_4 agT_55 szT_55 buT_55 zeT_55 flT_57_0 flT_57_1 agT_57 szT_57 buT_57 zeT_57 flT_74_0 flT_74_1 agT_74 szT_74 buT_74 zeT_74 flT_77_0 flT_77_1 flT_77_2 agT_77 szT_77 buT_77 zeT_77 flT_47_0 flT_47_1 flT_47_2 flT_47_3 flT_47_4 flT_47_5 agT_47 szT_47 buT_47 zeT_47 flT_61_0 flT_61_1 agT_61 szT_61 buT_61 zeT_61 flT_64_0 flT_64_1 agT_64 szT_64 buT_64 zeT_64 flT_91_0 flT_91_1 agT_91 szT_91 buT_91 zeT_91 ptT_23 ptT_53 ptT_27 ptT_89 und_30 

/-! ### the law: what sectors hold, whatever is kept -/
theorem crashN_ne {pend : List (Nat × List UInt8)} {keep : List Bool} {torn : Int} {s : List Sec} {i : Nat} (h : ∀ p, p ∈ pend → p.1 ≠ i) : ∀ k, (crashN pend keep torn s k)[i]? = s[i]?
  | 0 => rfl
  | k + 1 => by
    simp only [crashN]
    split
    · rename_i p hp
      have hne := h p (List.mem_of_getElem? hp)
      unfold crash1
      split
      · rw [List.getElem?_set_ne hne]; exact crashN_ne h k
      · split
        · rw [List.getElem?_set_ne hne]; exact crashN_ne h k
        · exact crashN_ne h k
    · exact crashN_ne h k
theorem syncN_ne {pend : List (Nat × List UInt8)} {s : List Sec} {i : Nat} (h : ∀ p, p ∈ pend → p.1 ≠ i) : ∀ k, (syncN pend s k)[i]? = s[i]?
  | 0 => rfl
  | k + 1 => by
    simp only [syncN]
    split
    · rename_i p hp
      rw [List.getElem?_set_ne (h p (List.mem_of_getElem? hp))]; exact syncN_ne h k
    · exact syncN_ne h k
theorem areaW_mem {c : Nat} {b : List UInt8} {k : Nat} {p : Nat × List UInt8} (hp : p ∈ areaW c b k) : ∃ i, i < k ∧ p.1 = placeN c i := by
  obtain ⟨i, hi, rfl⟩ := List.mem_map.1 hp
  exact ⟨i, List.mem_range.1 hi, rfl⟩
theorem area_get {c : Nat} {b : List UInt8} {s : List Sec} {k : Nat} (hs : placeN c k < s.length) : ∀ m, k < m → (syncN (areaW c b m) s m)[placeN c k]? = some (some (sectorB (b.drop (64 * k))))
  | 0, h => by omega
  | m + 1, h => by
    rw [areaN_succ]
    by_cases hkm : k = m
    · subst hkm
      rw [List.getElem?_set_self (by rw [syncN_len]; exact hs)]
    · rw [List.getElem?_set_ne (by unfold placeN; omega)]
      exact area_get hs m (by omega)
def weak (c : Nat) (x : Option Sec) : Prop := ∀ b, x = some (some b) → lowN (b.take 8) < c ∨ lowN (b.take 8) = 0
theorem weak.more {c c' : Nat} {x : Option Sec} (h : weak c x) (hc : c ≤ c') : weak c' x := fun b hb => (h b hb).imp_left fun h => by omega
theorem step_weak {c k : Nat} {o : Nat × Nat} {x : Option Sec} (h : weak c x) (ho : c ≤ o.1) : lastStep o k x = o := by
  unfold lastStep
  split
  · rename_i b
    refine if_neg fun hc => ?_
    have : (markOf b).1 = lowN (b.take 8) := rfl
    rcases h b rfl with h1 | h1 <;> omega
  · rfl
theorem step_lt {c k : Nat} {o : Nat × Nat} {x : Option Sec} (h : weak c x) (ho : o.1 < c) : (lastStep o k x).1 < c := by
  unfold lastStep
  split
  · rename_i b
    have : (markOf b).1 = lowN (b.take 8) := rfl
    split
    · rcases h b rfl with h1 | h1 <;> omega
    · exact ho
  · exact ho
theorem step_mark {c k len : Nat} {o : Nat × Nat} (ho : o.1 < c) (hk : c % 2 = k) (hl : len ≤ 4000) (hc : c < 9223372036854775808) : lastStep o k (some (some (markB c len))) = (c, len) := by
  have e : markOf (markB c len) = (c, len) := by
    unfold markOf
    rw [mark_count (by omega), mark_size (by omega)]
    rw [Nat.min_eq_left hl]
  unfold lastStep
  simp only [e]
  exact if_pos ⟨ho, hk⟩
structure Good (l : List Sec) (c : Nat) (st : List UInt8) : Prop where
  len : 150 ≤ l.length
  size : st.length ≤ 4000
  none : c = 0 → st = []
  mark : 0 < c → l[c % 2]? = some (some (markB c st.length))
  zero : c = 0 → weak 0 l[0]?
  other : weak c l[(c + 1) % 2]?
  area : areaOk l c st
theorem Good.last {l : List Sec} {c : Nat} {st : List UInt8} (G : Good l c st) (hc : c < 9223372036854775808) : lastOf l = (c, st.length) := by
  show lastStep (lastStep (0, 0) 0 l[0]?) 1 l[1]? = _
  by_cases h0 : c = 0
  · have h1 := G.other
    have h2 := G.zero h0
    have h3 := G.none h0
    subst h0
    subst h3
    rw [step_weak h2 (Nat.le_refl _), step_weak h1 (Nat.le_refl _)]
    rfl
  · have hm := G.mark (by omega)
    have ho := G.other
    rcases Nat.mod_two_eq_zero_or_one c with hp | hp
    · have hp' : (c + 1) % 2 = 1 := by omega
      rw [hp] at hm
      rw [hp'] at ho
      rw [hm, step_mark (by show 0 < c; omega) hp G.size hc, step_weak ho (Nat.le_refl _)]
    · have hp' : (c + 1) % 2 = 0 := by omega
      rw [hp] at hm
      rw [hp'] at ho
      rw [hm, step_mark (step_lt ho (by show 0 < c; omega)) hp G.size hc]
theorem Good.holds {l : List Sec} {c : Nat} {st : List UInt8} (G : Good l c st) (hc : c < 9223372036854775808) : Holds l c st := ⟨G.last hc, hc, G.size, G.none, G.area⟩
theorem Good.new {N : Nat} (hN : 150 ≤ N) : Good (List.replicate N (some zero64)) 0 [] := by
  have hw : ∀ i, weak 0 (List.replicate N (some zero64))[i]? := fun i b hb => by
    have := List.mem_of_getElem? hb
    rw [List.mem_replicate] at this
    have h2 : b = zero64 := by have := this.2; injection this
    subst h2
    exact .inr rfl
  exact ⟨by rw [List.length_replicate]; exact hN, by simp, fun _ => rfl, fun h => by omega, fun _ => hw 0, hw 1, fun k hk => by simp at hk⟩
theorem Good.keep {l l' : List Sec} {c : Nat} {st : List UInt8} (G : Good l c st) (hl : l'.length = l.length) (hm : l'[c % 2]? = l[c % 2]?) (ho : weak c l'[(c + 1) % 2]?) (ha : ∀ k, 64 * k < st.length → l'[placeN c k]? = l[placeN c k]?) : Good l' c st :=
  ⟨by rw [hl]; exact G.len, G.size, G.none, fun h => by rw [hm]; exact G.mark h, fun h => by
    have h2 := G.zero h
    subst h
    rw [show l'[0]? = l[0]? from hm]; exact h2, ho, fun k hk => by rw [ha k hk]; exact G.area k hk⟩
theorem place_ge (c k : Nat) : 2 ≤ placeN c k := by unfold placeN; omega
theorem place_ne {c i k : Nat} (hi : i < 63) (hk : k < 63) : placeN (c + 1) i ≠ placeN c k := by unfold placeN; omega
theorem nSec_le {b : List UInt8} (hb : b.length ≤ 4000) : nSec b ≤ 63 := by unfold nSec; omega
theorem areaS_lo {c i : Nat} {b : List UInt8} {l : List Sec} (hi : i < 2) : (areaS c b l)[i]? = l[i]? := syncN_ne (fun p hp => by
  obtain ⟨k, _, e⟩ := areaW_mem hp
  have := place_ge c k
  omega) _
theorem areaS_len {c : Nat} {b : List UInt8} {l : List Sec} : (areaS c b l).length = l.length := syncN_len _
theorem areaS_ne {c k : Nat} {b : List UInt8} {l : List Sec} (hb : b.length ≤ 4000) (hk : k < 63) : (areaS (c + 1) b l)[placeN c k]? = l[placeN c k]? := syncN_ne (fun p hp => by
  obtain ⟨i, hi, e⟩ := areaW_mem hp
  have := nSec_le hb
  rw [e]
  exact place_ne (by omega) hk) _
theorem Good.areaS {l : List Sec} {c : Nat} {st : List UInt8} (G : Good l c st) {b : List UInt8} (hb : b.length ≤ 4000) : Good (areaS (c + 1) b l) c st := by
  refine G.keep areaS_len (areaS_lo (by omega)) ?_ fun k hk => areaS_ne hb (by have := G.size; omega)
  rw [areaS_lo (by omega)]; exact G.other
theorem Good.next {l : List Sec} {c : Nat} {st : List UInt8} (G : Good l c st) {b : List UInt8} (hb : b.length ≤ 4000) (hc : c + 1 < 9223372036854775808) :
    Good ((Go.Proofs.YtepfknnffooaiaaDoor.areaS (c + 1) b l).set ((c + 1) % 2) (some (markB (c + 1) b.length))) (c + 1) b := by
  have hl := G.len
  refine ⟨by rw [List.length_set, areaS_len]; exact hl, hb, fun h => by omega, fun _ => ?_, fun h => by omega, ?_, fun k hk => ?_⟩
  · rw [List.getElem?_set_self (by rw [areaS_len]; omega)]
  · rw [List.getElem?_set_ne (by omega), areaS_lo (by omega)]
    have e : (c + 1 + 1) % 2 = c % 2 := by omega
    rw [e]
    by_cases h0 : c = 0
    · have h2 := G.zero h0
      subst h0
      exact weak.more h2 (Nat.zero_le _)
    · rw [G.mark (by omega)]
      intro b' hb'
      injection hb' with hb'
      injection hb' with hb'
      rw [← hb', mark_count (by omega)]
      exact .inl (Nat.lt_succ_self _)
  · have hg := place_ge (c + 1) k
    have hp : placeN (c + 1) k < l.length := by unfold placeN; omega
    rw [List.getElem?_set_ne (by omega)]
    exact area_get hp _ (by unfold nSec; omega)
theorem Good.kept {w v : DW} {c : Nat} {st b : List UInt8} (G : Good w.safe c st) (K : Kept w v (c + 1) b) (hb : b.length ≤ 4000) (hc : c + 1 < 9223372036854775808) : Good v.safe (c + 1) b := by
  rw [K.safe]; exact G.next hb hc
theorem Good.gone {w v : DW} {c : Nat} {st b : List UInt8} (G : Good w.safe c st) (K : Gone w v (c + 1) b) (hb : b.length ≤ 4000) (hc : c + 1 < 9223372036854775808) : Good v.safe c st ∨ Good v.safe (c + 1) b := by
  obtain ⟨keep, torn, ⟨k, hk, e⟩ | e⟩ := K.safe
  · left
    rw [e]
    have hm := nSec_le hb
    have lo : ∀ i, i < 2 → (crashN (areaW (c + 1) b k) keep torn w.safe k)[i]? = w.safe[i]? := fun i hi => crashN_ne (fun p hp => by
      obtain ⟨j, _, e⟩ := areaW_mem hp
      have := place_ge (c + 1) j
      omega) _
    refine G.keep (crashN_len _) (lo _ (by omega)) ?_ fun i hi => crashN_ne (fun p hp => ?_) _
    · rw [lo _ (by omega)]; exact G.other
    · obtain ⟨j, hj, e⟩ := areaW_mem hp
      rw [e]
      exact place_ne (by omega) (by have := G.size; omega)
  · rw [e]
    have hl := G.len
    have GA := G.areaS hb
    unfold crash1
    split
    · left
      refine GA.keep (List.length_set ..) (List.getElem?_set_ne (by omega)) ?_ fun k _ => List.getElem?_set_ne (by have := place_ge c k; omega)
      rw [List.getElem?_set_self (by rw [areaS_len]; omega)]
      intro b' hb'
      injection hb' with hb'
      cases hb'
    · split
      · exact .inr (G.next hb hc)
      · exact .inl GA

end Go.Proofs.YtepfknnffooaiaaDoor
