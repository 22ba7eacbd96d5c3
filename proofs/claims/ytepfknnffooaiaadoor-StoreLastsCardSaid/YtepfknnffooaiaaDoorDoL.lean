import Derived.Test.YtepfknnffooaiaaDoorDoK

namespace Go.Proofs.YtepfknnffooaiaaDoor
open Go.Av
set_option maxRecDepth 100000
set_option maxHeartbeats 1000000
set_option linter.unusedSimpArgs false
set_option linter.unusedVariables false
attribute [local push_cast] stepE callR resE aeff aev ofC ofC1 put_at Av.put_none inTmps List.getD_cons_zero List.getD_cons_succ AV.boxable if_true if_false AV.cells aload place app_cons app_nil upd_same Av.part abin aconv aindexAddr fillA splice_one abuiltin alen amax amin aun aindex Option.map_some Option.isSome_some List.map_cons List.map_nil List.nil_append List.append_nil List.cons_append Nat.le_refl Nat.zero_add Nat.add_zero List.length_cons List.length_nil List.drop_succ_cons List.drop_zero List.take_succ_cons List.take_zero beq_self_eq_true bne_self_eq_false Bool.not_true Bool.not_false List.set_cons_zero List.set_cons_succ Bool.false_eq_true IntWalk.i64_in decide_true decide_false Int.toNat_zero and_self and_true true_and List.getElem?_cons_zero List.getElem?_cons_succ aappend aapp view Bool.and_true Bool.true_and Nat.mul_one Option.map_none aslice asliceB nilOp Int.toNat_natCast und_30 agT_3 szT_3 kiT_3 agT_5 szT_5 kiT_5 agT_24 szT_24 kiT_24 agT_62 szT_62 kiT_62 agT_4 szT_4 kiT_4 agT_9 szT_9 kiT_9 agT_44 szT_44 kiT_44 agT_45 szT_45 kiT_45 agT_30 szT_30 kiT_30 agT_22 szT_22 kiT_22 agT_41 szT_41 kiT_41 agT_51 szT_51 kiT_51 agT_52 szT_52 kiT_52 agT_23 szT_23 kiT_23 agT_53 szT_53 kiT_53 agT_27 szT_27 kiT_27 agT_89 szT_89 kiT_89 agT_66 szT_66 kiT_66 agT_20 szT_20 kiT_20 slT_45 slT_44 slT_30 slT_22 slT_41 slT_51 slT_52 zeT_3 zeT_4 zeT_5 zeT_30 zeT_24 flT_55_0 flT_55_1 flT_55_2 flT_55_3 flT_55_4 agT_55 szT_55 buT_55 zeT_55 flT_57_0 flT_57_1 agT_57 szT_57 buT_57 zeT_57 flT_74_0 flT_74_1 agT_74 szT_74 buT_74 zeT_74 flT_77_0 flT_77_1 flT_77_2 agT_77 szT_77 buT_77 zeT_77 flT_47_0 flT_47_1 flT_47_2 flT_47_3 flT_47_4 flT_47_5 agT_47 szT_47 buT_47 zeT_47 flT_61_0 flT_61_1 agT_61 szT_61 buT_61 zeT_61 flT_64_0 flT_64_1 agT_64 szT_64 buT_64 zeT_64 flT_91_0 flT_91_1 agT_91 szT_91 buT_91 zeT_91 ptT_23 ptT_53 ptT_27 ptT_89 und_30 

theorem upd_upd (h : Heap) (j : Nat) (a b : Option Row) : Av.upd (Av.upd h j a) j b = Av.upd h j b := by funext x; by_cases hx : x = j; subst hx; rw [upd_same, upd_same]; rw [upd_ne _ _ hx, upd_ne _ _ hx, upd_ne _ _ hx]
/-! ### the mark that counts -/
def markOf (b : List UInt8) : Nat × Nat := (lowN (b.take 8), min (lowN ((b.drop 8).take 8)) 4000)
def lastStep (o : Nat × Nat) (k : Nat) (s : Option Sec) : Nat × Nat := match s with
  | some (some b) => if (markOf b).1 > o.1 ∧ (markOf b).1 % 2 = k then markOf b else o
  | _ => o
def lastK2 (l : List Sec) : Nat → Nat × Nat
  | 0 => (0, 0)
  | k + 1 => lastStep (lastK2 l k) k l[k]?
def lastOf (l : List Sec) : Nat × Nat := lastK2 l 2
theorem lowN8 {b : List UInt8} (h : b.length = 8) : lowN b < 18446744073709551616 := by
  have h1 := lowN_lt b
  rw [h] at h1
  have : (256 : Nat) ^ 8 = 18446744073709551616 := by decide
  omega
def aMark : ByteArray := { data := #[97, 32, 109, 97, 114, 107] }
def anArea : ByteArray := { data := #[97, 110, 32, 97, 114, 101, 97] }
def mkC (o : Nat × Nat) : List AV := [.i .u64 (o.1 : Int), .i .i64 (o.2 : Int)]
theorem read_at {w : DW} {i : Nat} (ho : w.off = false) (hi : i < w.safe.length) {b : List UInt8} (h : w.now[i]? = some (some b)) : w.read i = (.ro false (cellsB b) b.length, 0) := by
  have h2 : wrongE w.off w.safe.length i = 0 := by simp only [wrongE, ho, Bool.false_eq_true, if_false]; rw [if_neg (by omega)]
  unfold DW.read
  rw [if_neg (by omega), Int.toNat_natCast, h]
theorem read_torn {w : DW} {i : Nat} (ho : w.off = false) (hi : i < w.safe.length) (h : w.now[i]? = some none) : w.read i = (.ro true [] 0, 15) := by
  have h2 : wrongE w.off w.safe.length i = 0 := by simp only [wrongE, ho, Bool.false_eq_true, if_false]; rw [if_neg (by omega)]
  unfold DW.read
  rw [if_neg (by omega), Int.toNat_natCast, h]
/-- A function that is known at these arguments, whatever the heap. -/
noncomputable def Sums.one (S : Sums) (f : FuncId) (args : List AV) (r : AV) : Sums := open Classical in fun g a k => if g = f ∧ a = args then .pure r else S g a k
theorem sum_pure {S : Sums} (hS : SumOk Tryd.prog S) {f : FuncId} {args : List AV} {r : AV} (hp : PCalls Tryd.prog f args r) : ∃ S2, SumOk Tryd.prog S2 ∧ (∀ g, S2 f args g = .pure r) ∧ (∀ f', f' ≠ f → S2 f' = S f') ∧ ∀ f' a, a ≠ args → S2 f' a = S f' a := by
  have key : ∀ g a k x, Sums.one S f args r g a k = x → (g = f ∧ a = args ∧ Res.pure r = x) ∨ S g a k = x := fun g a k x hx => by
    unfold Sums.one at hx
    split at hx
    · rename_i hc; exact .inl ⟨hc.1, hc.2, hx⟩
    · exact .inr hx
  refine ⟨Sums.one S f args r, ⟨fun g a k x hx n => ?_, fun g a k s l c hx => ?_, fun g a k F hx => ?_⟩, fun g => if_pos ⟨rfl, rfl⟩, fun f' hf => ?_, fun f' a ha => ?_⟩
  · rcases key g a k _ hx with ⟨rfl, rfl, h1⟩ | h1
    · injection h1 with h1; subst h1; exact hp k n
    · exact hS.pure g a k x h1 n
  · rcases key g a k _ hx with ⟨_, _, h1⟩ | h1
    · cases h1
    · exact hS.fresh g a k s l c h1
  · rcases key g a k _ hx with ⟨_, _, h1⟩ | h1
    · cases h1
    · exact hS.wide g a k F h1
  · funext a k; exact if_neg fun hc => hf hc.1
  · funext k; exact if_neg fun hc => ha hc.2
/-- low of two texts. -/
theorem sum_low {S : Sums} (hS : SumOk Tryd.prog S) {a b : List UInt8} (ha : a.length = 8) (hb : b.length = 8) : ∃ S2, SumOk Tryd.prog S2 ∧ (∀ g, S2 33 [.ro false (cellsB a) 8] g = .pure (.i .u64 (lowN a : Int))) ∧ (∀ g, S2 33 [.ro false (cellsB b) 8] g = .pure (.i .u64 (lowN b : Int))) ∧ ∀ f', f' ≠ 33 → S2 f' = S f' := by
  have p1 := c33 a ha
  have p2 := c33 b hb
  rw [ha] at p1
  rw [hb] at p2
  obtain ⟨S2, h1, h2, h3, -⟩ := sum_pure hS p1
  by_cases he : a = b
  · subst he
    exact ⟨S2, h1, h2, h2, h3⟩
  · obtain ⟨S3, k1, k2, k3, k4⟩ := sum_pure h1 p2
    refine ⟨S3, k1, fun g => ?_, k2, fun f' hf => by rw [k3 f' hf, h3 f' hf]⟩
    rw [k4 33 _ (fun e => he ?_)]
    · exact h2 g
    · simp only [List.cons.injEq, AV.ro.injEq, and_true, true_and] at e
      exact cellsB_inj e
theorem lastK2_at (l : List Sec) (k : Nat) : lastK2 l (k + 1) = lastStep (lastK2 l k) k l[k]? := rfl
theorem lastStep_le {o : Nat × Nat} {k : Nat} {s : Option Sec} (h1 : o.1 < 18446744073709551616) (h2 : o.2 ≤ 4000) (hs : ∀ b, s = some (some b) → b.length = 64) : (lastStep o k s).1 < 18446744073709551616 ∧ (lastStep o k s).2 ≤ 4000 := by
  unfold lastStep
  split
  · rename_i b
    split
    · refine ⟨lowN8 (by simp [hs b rfl]), Nat.min_le_right _ _⟩
    · exact ⟨h1, h2⟩
  · exact ⟨h1, h2⟩
theorem lastK2_le {l : List Sec} (hl : ∀ b, some b ∈ l → b.length = 64) : ∀ k, (lastK2 l k).1 < 18446744073709551616 ∧ (lastK2 l k).2 ≤ 4000
  | 0 => ⟨by show (0 : Nat) < _; decide, by show (0 : Nat) ≤ _; decide⟩
  | k + 1 => lastStep_le (lastK2_le hl k).1 (lastK2_le hl k).2 fun b hb => hl b (List.mem_of_getElem? hb)
theorem s24 {h : Heap} {s d : Nat} {w : DW} {sv : AV} (hw : DOk w) (F : DFacts h d w) (ho : w.off = false) (hlen : 2 ≤ w.safe.length) (hs : h s = some (.cells [.p d 0, sv])) :
    ∀ n, DCalls Tryd.prog 24 [.p s 0] h n (.tup [.agg (mkC (lastOf w.now)), .ni]) [] n := by
  intro n
  have hS := SumOk.none (P := Tryd.prog)
  by_cases hsn : n ≤ s
  · exact DCalls.vac ⟨_, Tryd.func24, rfl, by decide⟩ (Nat.le_refl _) hs hsn
  rcases has_any F.has n with hlt | ⟨j, r, hj, hn⟩
  case inr => exact DCalls.vac ⟨_, Tryd.func24, rfl, by decide⟩ (Nat.le_refl _) hj hn
  refine DCalls.of Tryd.func24 rfl (by decide) (Nat.le_of_ble_eq_true rfl) (Nat.le_refl _) ?_
  have hdn := hlt d (DW.keys_iff.2 (.inl rfl))
  refine AWp.seq ?_
  (refine aw_regionL hS (by kernel_rfl) ?_; repeat (first | apply vr0u | apply vr4 | apply b_tt | apply b_ff | apply b_tf | apply b_ft | apply b_no | exact isD.mk rfl | (apply eqG; (simp only [push_cast, ↓reduceIte, Nat.reduceEqDiff, Nat.reduceAdd, Nat.reduceLeDiff, Nat.reduceLT, Int.reduceLE, Int.reduceLT, Int.reduceAdd, Int.reduceSub, Int.reduceNeg, Int.reduceBEq, Int.reduceBNe, Int.reduceEq, Int.reduceGT, Int.reduceGE, Int.reduceMul, Int.reduceToNat, Nat.reduceMul, reduceCtorEq, splice_two] <;> rfl)) | exact (rfl : app (swap _ _) _ = _)))
  refine vr_nil (aw_then ?_)
  refine AWp.seq ?_
  (refine aw_regionL hS (by kernel_rfl) ?_; repeat (first | apply vr0u | apply vr4 | apply b_tt | apply b_ff | apply b_tf | apply b_ft | apply b_no | exact isD.mk rfl | (apply eqG; (simp only [push_cast, ↓reduceIte, Nat.reduceEqDiff, Nat.reduceAdd, Nat.reduceLeDiff, Nat.reduceLT, Int.reduceLE, Int.reduceLT, Int.reduceAdd, Int.reduceSub, Int.reduceNeg, Int.reduceBEq, Int.reduceBNe, Int.reduceEq, Int.reduceGT, Int.reduceGE, Int.reduceMul, Int.reduceToNat, Nat.reduceMul, reduceCtorEq, splice_two] <;> rfl)) | exact (rfl : app (swap _ _) _ = _)))
  refine vr_nil (aw_then ?_)
  have KK : ∀ {g : Heap} {m : Nat}, (∀ x r, x < n → h x = some r → g x = some r) → DFacts g d w ∧ g s = some (.cells [.p d 0, sv]) := fun {g m} hk =>
    ⟨DFacts.of (F.has.keep fun j hj => by
      obtain ⟨cs, hc⟩ := F.has.isSome hj
      rw [hc]; exact hk j _ (hlt j hj) hc), hk s _ (by omega) hs⟩
  refine AWp.cut (fun t' h' n' => t' 2 = .p n 0 ∧ t' 4 = .p (n + 1) 0 ∧ h' n = some (.cells [.i .u64 0, .i .i64 0]) ∧ h' (n + 1) = some (.cells (mkC (lastOf w.now))) ∧ ∀ x r, x < n → h x = some r → h' x = some r) ?_ ?_
  · refine AWp.seq ?_
    (refine aw_regionL hS (by kernel_rfl) ?_; repeat (first | apply vr0u | apply vr4 | apply b_tt | apply b_ff | apply b_tf | apply b_ft | apply b_no | exact isD.mk rfl | (apply eqG; (simp only [push_cast, ↓reduceIte, Nat.reduceEqDiff, Nat.reduceAdd, Nat.reduceLeDiff, Nat.reduceLT, Int.reduceLE, Int.reduceLT, Int.reduceAdd, Int.reduceSub, Int.reduceNeg, Int.reduceBEq, Int.reduceBNe, Int.reduceEq, Int.reduceGT, Int.reduceGE, Int.reduceMul, Int.reduceToNat, Nat.reduceMul, reduceCtorEq, splice_two] <;> rfl)) | exact (rfl : app (swap _ _) _ = _)))
    refine vr_nil (aw_then ?_)
    refine AWp.block ?_
    refine AWp.loop (fun m t' h' n' => ∃ k : Nat, m = 2 - k ∧ k ≤ 2 ∧ t' 0 = .p s 0 ∧ t' 2 = .p n 0 ∧ t' 4 = .p (n + 1) 0 ∧ t' 10 = .i .i64 (k : Int) ∧ n + 2 ≤ n' ∧ h' n = some (.cells [.i .u64 0, .i .i64 0]) ∧ h' (n + 1) = some (.cells (mkC (lastK2 w.now k))) ∧ ∀ x r, x < n → h x = some r → h' x = some r) 2 ?_ ?_
    · exact ⟨0, rfl, Nat.zero_le _, by (simp only [push_cast, ↓reduceIte, Nat.reduceEqDiff, Nat.reduceAdd, Nat.reduceLeDiff, Nat.reduceLT, Int.reduceLE, Int.reduceLT, Int.reduceAdd, Int.reduceSub, Int.reduceNeg, Int.reduceBEq, Int.reduceBNe, Int.reduceEq, Int.reduceGT, Int.reduceGE, Int.reduceMul, Int.reduceToNat, Nat.reduceMul, reduceCtorEq, splice_two] <;> rfl), by (simp only [push_cast, ↓reduceIte, Nat.reduceEqDiff, Nat.reduceAdd, Nat.reduceLeDiff, Nat.reduceLT, Int.reduceLE, Int.reduceLT, Int.reduceAdd, Int.reduceSub, Int.reduceNeg, Int.reduceBEq, Int.reduceBNe, Int.reduceEq, Int.reduceGT, Int.reduceGE, Int.reduceMul, Int.reduceToNat, Nat.reduceMul, reduceCtorEq, splice_two] <;> rfl), by (simp only [push_cast, ↓reduceIte, Nat.reduceEqDiff, Nat.reduceAdd, Nat.reduceLeDiff, Nat.reduceLT, Int.reduceLE, Int.reduceLT, Int.reduceAdd, Int.reduceSub, Int.reduceNeg, Int.reduceBEq, Int.reduceBNe, Int.reduceEq, Int.reduceGT, Int.reduceGE, Int.reduceMul, Int.reduceToNat, Nat.reduceMul, reduceCtorEq, splice_two] <;> rfl), by (simp only [push_cast, ↓reduceIte, Nat.reduceEqDiff, Nat.reduceAdd, Nat.reduceLeDiff, Nat.reduceLT, Int.reduceLE, Int.reduceLT, Int.reduceAdd, Int.reduceSub, Int.reduceNeg, Int.reduceBEq, Int.reduceBNe, Int.reduceEq, Int.reduceGT, Int.reduceGE, Int.reduceMul, Int.reduceToNat, Nat.reduceMul, reduceCtorEq, splice_two] <;> rfl), Nat.le_refl _, by rw [upd_ne _ _ (by omega), upd_same], by rw [upd_same]; rfl, keepU (Nat.le_succ _) (keepU (Nat.le_refl _) keep0)⟩
    · rintro m t' h' n' - ⟨k, rfl, hk2', t0, t2, t4, t10, hnn, hr0, hr1, hk2⟩
      obtain ⟨F', hs'⟩ := KK (m := n') hk2
      obtain ⟨ol1, ol2⟩ := lastK2_le hw.s2 k
      by_cases hk : k < 2
      · have q1 : ((k : Int) < 2) = True := by simp; omega
        have w1 : IntKind.wrap .i64 ((k : Int) + 1) = (k : Int) + 1 := IntWalk.i64_in _ (by omega)
        have hkn : k < w.now.length := by rw [hw.len]; omega
        have elast := lastK2_at w.now k
        rw [List.getElem?_eq_getElem hkn] at elast
        have hnk : w.now[k]? = some w.now[k] := List.getElem?_eq_getElem hkn
        have hbs := hw.s2
        have hmem := List.getElem_mem hkn
        obtain ⟨S2, hS2, h30, n30⟩ := sum_here hS (f := 30) (args := [.p d 0, .i .i64 (k : Int)]) (g := h') (r := .pure (.tup [(w.read k).1, .i .i64 (w.read k).2])) (fun n => c11 hw F'.has (k : Int) n)
        generalize w.now[k] = sk at *
        have hnn' : n + 2 ≤ n' := hnn
        refine AWp.seq ?_
        (refine aw_regionL hS (by kernel_rfl) ?_; repeat (first | apply vr0u | apply vr4 | apply b_tt | apply b_ff | apply b_tf | apply b_ft | apply b_no | exact isD.mk rfl | (apply eqG; (simp only [push_cast, ↓reduceIte, Nat.reduceEqDiff, Nat.reduceAdd, Nat.reduceLeDiff, Nat.reduceLT, Int.reduceLE, Int.reduceLT, Int.reduceAdd, Int.reduceSub, Int.reduceNeg, Int.reduceBEq, Int.reduceBNe, Int.reduceEq, Int.reduceGT, Int.reduceGE, Int.reduceMul, Int.reduceToNat, Nat.reduceMul, reduceCtorEq, t0, t2, t4, t10, q1, w1, hs', h30] <;> rfl)) | exact (rfl : app (swap _ _) _ = _)))
        refine vr_nil (aw_then ?_)
        refine AWp.seq ?_
        refine aw_true (by (simp only [push_cast, ↓reduceIte, Nat.reduceEqDiff, Nat.reduceAdd, Nat.reduceLeDiff, Nat.reduceLT, Int.reduceLE, Int.reduceLT, Int.reduceAdd, Int.reduceSub, Int.reduceNeg, Int.reduceBEq, Int.reduceBNe, Int.reduceEq, Int.reduceGT, Int.reduceGE, Int.reduceMul, Int.reduceToNat, Nat.reduceMul, reduceCtorEq, t0, t2, t4, t10, q1, w1, hs', h30] <;> rfl)) (AWp.skip (aw_then ?_))
        refine AWp.seq ?_
        refine AWp.block ?_
        refine AWp.seq ?_
        (refine aw_regionL hS (by kernel_rfl) ?_; repeat (first | apply vr0u | apply vr4 | apply b_tt | apply b_ff | apply b_tf | apply b_ft | apply b_no | exact isD.mk rfl | (apply eqG; (simp only [push_cast, ↓reduceIte, Nat.reduceEqDiff, Nat.reduceAdd, Nat.reduceLeDiff, Nat.reduceLT, Int.reduceLE, Int.reduceLT, Int.reduceAdd, Int.reduceSub, Int.reduceNeg, Int.reduceBEq, Int.reduceBNe, Int.reduceEq, Int.reduceGT, Int.reduceGE, Int.reduceMul, Int.reduceToNat, Nat.reduceMul, reduceCtorEq, t0, t2, t4, t10, q1, w1, hs', h30] <;> rfl)) | exact (rfl : app (swap _ _) _ = _)))
        refine vr_nil (aw_then ?_)
        cases sk with
        | none =>
          have er := read_torn ho (by omega) hnk
          rw [er] at h30
          obtain ⟨S3, hS3, h31, n31⟩ := sum_here hS2 (f := 31) (args := [.s aMark, .i .i64 15]) (g := h') (r := .wide fun m => (.ifc 89 (.p m 0), swap [] [(m, trb aMark 15)], m + 1)) (fun m => c31e aMark (by decide) m)
          have hrow : app (swap [] [(n', trb aMark 15)]) h' n' = some (.cells (trb aMark 15)) := upd_same ..
          obtain ⟨S4, hS4, h32, n32⟩ := sum_here hS3 (f := 32) (args := [.ifc 89 (.p n' 0), .ifc 24 (.i .i64 15)]) (g := app (swap [] [(n', trb aMark 15)]) h') (r := .pure (.b true)) (d32 hrow)
          have h30 : S4 30 [.p d 0, .i .i64 (k : Int)] h' = .pure (.tup [.ro true [] 0, .i .i64 15]) := by rw [n32 30 (by decide), n31 30 (by decide)]; exact h30
          have h31 : S4 31 [.s aMark, .i .i64 15] h' = .wide fun m => (.ifc 89 (.p m 0), swap [] [(m, trb aMark 15)], m + 1) := by rw [n32 31 (by decide)]; exact h31
          have ea : ({ data := #[97, 32, 109, 97, 114, 107] } : ByteArray) = aMark := rfl
          have hl2 : lastK2 w.now (k + 1) = lastK2 w.now k := by rw [elast]; rfl
          have hr0' : app (swap [] [(n', trb aMark 15)]) h' n = some (.cells [.i .u64 0, .i .i64 0]) := by rw [show app (swap [] [(n', trb aMark 15)]) h' n = upd h' n' _ n from rfl, upd_ne _ _ (by omega)]; exact hr0
          have hr1' : app (swap [] [(n', trb aMark 15)]) h' (n + 1) = some (.cells (mkC (lastK2 w.now k))) := by rw [show app (swap [] [(n', trb aMark 15)]) h' (n + 1) = upd h' n' _ (n + 1) from rfl, upd_ne _ _ (by omega)]; exact hr1
          have hk3 : ∀ x r, x < n → h x = some r → app (swap [] [(n', trb aMark 15)]) h' x = some r := fun x r hx hr => by
            rw [show app (swap [] [(n', trb aMark 15)]) h' x = upd h' n' _ x from rfl, upd_ne _ _ (by omega)]; exact hk2 x r hx hr
          generalize hgg : app (swap [] [(n', trb aMark 15)]) h' = g2 at *
          refine AWp.seq ?_
          refine aw_regionL hS4 (by kernel_rfl) ?_
          repeat (first | apply vr0u | apply vr4 | apply b_tt | apply b_ff | apply b_tf | apply b_ft | apply b_no | exact isD.mk rfl | (apply eqG; (simp only [push_cast, ↓reduceIte, Nat.reduceEqDiff, Nat.reduceAdd, Nat.reduceLeDiff, Nat.reduceLT, Int.reduceLE, Int.reduceLT, Int.reduceAdd, Int.reduceSub, Int.reduceNeg, Int.reduceBEq, Int.reduceBNe, Int.reduceEq, Int.reduceGT, Int.reduceGE, Int.reduceMul, Int.reduceToNat, Nat.reduceMul, reduceCtorEq, t0, t2, t4, t10, q1, w1, hs', h30, h31, h32, ea, hgg] <;> rfl)) | exact (rfl : app (swap _ _) _ = _))
          refine vr_nil (aw_then ?_)
          refine AWp.seq ?_
          refine aw_regionL hS4 (by kernel_rfl) ?_
          repeat (first | apply vr0u | apply vr4 | apply b_tt | apply b_ff | apply b_tf | apply b_ft | apply b_no | exact isD.mk rfl | (apply eqG; (simp only [push_cast, ↓reduceIte, Nat.reduceEqDiff, Nat.reduceAdd, Nat.reduceLeDiff, Nat.reduceLT, Int.reduceLE, Int.reduceLT, Int.reduceAdd, Int.reduceSub, Int.reduceNeg, Int.reduceBEq, Int.reduceBNe, Int.reduceEq, Int.reduceGT, Int.reduceGE, Int.reduceMul, Int.reduceToNat, Nat.reduceMul, reduceCtorEq, t0, t2, t4, t10, q1, w1, hs', h30, h31, h32, ea, hgg] <;> rfl)) | exact (rfl : app (swap _ _) _ = _))
          refine vr_nil (aw_then ?_)
          refine AWp.seq ?_
          refine AWp.block ?_
          refine AWp.seq ?_
          refine aw_regionL hS4 (by kernel_rfl) ?_
          repeat (first | apply vr0u | apply vr4 | apply b_tt | apply b_ff | apply b_tf | apply b_ft | apply b_no | exact isD.mk rfl | (apply eqG; (simp only [push_cast, ↓reduceIte, Nat.reduceEqDiff, Nat.reduceAdd, Nat.reduceLeDiff, Nat.reduceLT, Int.reduceLE, Int.reduceLT, Int.reduceAdd, Int.reduceSub, Int.reduceNeg, Int.reduceBEq, Int.reduceBNe, Int.reduceEq, Int.reduceGT, Int.reduceGE, Int.reduceMul, Int.reduceToNat, Nat.reduceMul, reduceCtorEq, t0, t2, t4, t10, q1, w1, hs', h30, h31, h32, ea, hgg] <;> rfl)) | exact (rfl : app (swap _ _) _ = _))
          refine vr_nil (aw_then ?_)
          refine aw_true (by (simp only [push_cast, ↓reduceIte, Nat.reduceEqDiff, Nat.reduceAdd, Nat.reduceLeDiff, Nat.reduceLT, Int.reduceLE, Int.reduceLT, Int.reduceAdd, Int.reduceSub, Int.reduceNeg, Int.reduceBEq, Int.reduceBNe, Int.reduceEq, Int.reduceGT, Int.reduceGE, Int.reduceMul, Int.reduceToNat, Nat.reduceMul, reduceCtorEq, t0, t2, t4, t10, q1, w1, hs', h30, h31, h32, ea, hgg] <;> rfl)) (AWp.exit (aw_past (by decide) (aw_thru (aw_exit (aw_then ?_)))))
          (refine aw_regionL hS (by kernel_rfl) ?_; repeat (first | apply vr0u | apply vr4 | apply b_tt | apply b_ff | apply b_tf | apply b_ft | apply b_no | exact isD.mk rfl | (apply eqG; (simp only [push_cast, ↓reduceIte, Nat.reduceEqDiff, Nat.reduceAdd, Nat.reduceLeDiff, Nat.reduceLT, Int.reduceLE, Int.reduceLT, Int.reduceAdd, Int.reduceSub, Int.reduceNeg, Int.reduceBEq, Int.reduceBNe, Int.reduceEq, Int.reduceGT, Int.reduceGE, Int.reduceMul, Int.reduceToNat, Nat.reduceMul, reduceCtorEq, t0, t2, t4, t10, q1, w1, hs', h30, h31, h32, ea, hgg] <;> rfl)) | exact (rfl : app (swap _ _) _ = _)))
          exact vr_nil (aw_then ⟨2 - (k + 1), by omega, k + 1, rfl, hk, by (simp only [push_cast, ↓reduceIte, Nat.reduceEqDiff, Nat.reduceAdd, Nat.reduceLeDiff, Nat.reduceLT, Int.reduceLE, Int.reduceLT, Int.reduceAdd, Int.reduceSub, Int.reduceNeg, Int.reduceBEq, Int.reduceBNe, Int.reduceEq, Int.reduceGT, Int.reduceGE, Int.reduceMul, Int.reduceToNat, Nat.reduceMul, reduceCtorEq, t0, t2, t4, t10, q1, w1, hs', h30, h31, h32, ea, hgg] <;> rfl), by (simp only [push_cast, ↓reduceIte, Nat.reduceEqDiff, Nat.reduceAdd, Nat.reduceLeDiff, Nat.reduceLT, Int.reduceLE, Int.reduceLT, Int.reduceAdd, Int.reduceSub, Int.reduceNeg, Int.reduceBEq, Int.reduceBNe, Int.reduceEq, Int.reduceGT, Int.reduceGE, Int.reduceMul, Int.reduceToNat, Nat.reduceMul, reduceCtorEq, t0, t2, t4, t10, q1, w1, hs', h30, h31, h32, ea, hgg] <;> rfl), by (simp only [push_cast, ↓reduceIte, Nat.reduceEqDiff, Nat.reduceAdd, Nat.reduceLeDiff, Nat.reduceLT, Int.reduceLE, Int.reduceLT, Int.reduceAdd, Int.reduceSub, Int.reduceNeg, Int.reduceBEq, Int.reduceBNe, Int.reduceEq, Int.reduceGT, Int.reduceGE, Int.reduceMul, Int.reduceToNat, Nat.reduceMul, reduceCtorEq, t0, t2, t4, t10, q1, w1, hs', h30, h31, h32, ea, hgg] <;> rfl), by (simp only [push_cast, ↓reduceIte, Nat.reduceEqDiff, Nat.reduceAdd, Nat.reduceLeDiff, Nat.reduceLT, Int.reduceLE, Int.reduceLT, Int.reduceAdd, Int.reduceSub, Int.reduceNeg, Int.reduceBEq, Int.reduceBNe, Int.reduceEq, Int.reduceGT, Int.reduceGE, Int.reduceMul, Int.reduceToNat, Nat.reduceMul, reduceCtorEq, t0, t2, t4, t10, q1, w1, hs', h30, h31, h32, ea, hgg] <;> rfl), by omega, hr0', by rw [hl2]; exact hr1', hk3⟩)
        | some b =>
          have hb := hbs b hmem
          have er := read_at ho (by omega) hnk
          rw [er] at h30
          obtain ⟨S3, hS3, h31, n31, -⟩ := sum_pure hS2 (c31 aMark)
          obtain ⟨S4, hS4, h32, n32, -⟩ := sum_pure hS3 c32n
          obtain ⟨S5, hS5, h33, h33', n33⟩ := sum_low hS4 (a := b.take 8) (b := (b.drop 8).take 8) (by simp [hb]) (by simp [hb])
          have h30 : S5 30 [.p d 0, .i .i64 (k : Int)] h' = .pure (.tup [.ro false (cellsB b) b.length, .i .i64 0]) := by rw [n33 30 (by decide), n32 30 (by decide), n31 30 (by decide)]; exact h30
          have h31 : ∀ g, S5 31 [.s aMark, .i .i64 0] g = .pure .ni := fun g => by rw [n33 31 (by decide), n32 31 (by decide)]; exact h31 g
          have h32 : ∀ g, S5 32 [.ni, .ifc 24 (.i .i64 15)] g = .pure (.b false) := fun g => by rw [n33 32 (by decide)]; exact h32 g
          have ea : ({ data := #[97, 32, 109, 97, 114, 107] } : ByteArray) = aMark := rfl
          have e1 : (cellsB b).take 8 = cellsB (b.take 8) := by simp [cellsB, List.map_take]
          have e2 : ((cellsB b).drop 8).take 8 = cellsB ((b.drop 8).take 8) := by simp [cellsB, List.map_take, List.map_drop]
          have eml : markOf b = (lowN (b.take 8), min (lowN ((b.drop 8).take 8)) 4000) := rfl
          have l1 := lowN8 (b := b.take 8) (by simp [hb])
          have l2 := lowN8 (b := (b.drop 8).take 8) (by simp [hb])
          have elast' : lastK2 w.now (k + 1) = if (markOf b).1 > (lastK2 w.now k).1 ∧ (markOf b).1 % 2 = k then markOf b else lastK2 w.now k := elast
          rw [eml] at elast'
          simp only at elast'
          generalize lastK2 w.now k = o at *
          generalize lowN (b.take 8) = lo at *
          generalize lowN ((b.drop 8).take 8) = hi at *
          have e3 : (if (4000 : Int) < (hi : Int) then (4000 : Int) else (hi : Int)) = ((min hi 4000 : Nat) : Int) := by
            split <;> omega
          have e4 : IntKind.wrap .i64 ((min hi 4000 : Nat) : Int) = ((min hi 4000 : Nat) : Int) := IntWalk.i64_in _ (by omega)
          have e5 : Int.tmod (lo : Int) 2 = (lo : Int) % 2 := Int.tmod_eq_emod_of_nonneg (by omega)
          have e6 : IntKind.wrap .u64 (k : Int) = (k : Int) := by rw [IntKind.wrap_u64]; omega
          have l3 : min hi 4000 ≤ 4000 := Nat.min_le_right _ _
          generalize min hi 4000 = mh at *
          obtain ⟨o1, o2⟩ := o
          simp only [mkC] at hr1 elast' ol1 ol2
          have u1 : ∀ (g : Heap) (r : Option Row), upd g n' r (n + 1) = g (n + 1) := fun g r => upd_ne _ _ (by omega)
          have u2 : ∀ (g : Heap) (r : Option Row), upd g (n + 1) r n' = g n' := fun g r => upd_ne _ _ (by omega)
          refine AWp.seq ?_
          refine aw_regionL hS5 (by kernel_rfl) ?_
          repeat (first | apply vr0u | apply vr4 | apply b_tt | apply b_ff | apply b_tf | apply b_ft | apply b_no | exact isD.mk rfl | (apply eqG; (simp only [push_cast, ↓reduceIte, Nat.reduceEqDiff, Nat.reduceAdd, Nat.reduceLeDiff, Nat.reduceLT, Int.reduceLE, Int.reduceLT, Int.reduceAdd, Int.reduceSub, Int.reduceNeg, Int.reduceBEq, Int.reduceBNe, Int.reduceEq, Int.reduceGT, Int.reduceGE, Int.reduceMul, Int.reduceToNat, Nat.reduceMul, reduceCtorEq, t0, t2, t4, t10, q1, w1, hs', h30, h31, h32, h33, h33', ea, e1, e2, e3, e4, e5, e6, hb, isK, hr1, u1, u2, splice_two, upd_upd] <;> rfl)) | exact (rfl : app (swap _ _) _ = _))
          refine vr_nil (aw_then ?_)
          refine AWp.seq ?_
          refine aw_regionL hS5 (by kernel_rfl) ?_
          repeat (first | apply vr0u | apply vr4 | apply b_tt | apply b_ff | apply b_tf | apply b_ft | apply b_no | exact isD.mk rfl | (apply eqG; (simp only [push_cast, ↓reduceIte, Nat.reduceEqDiff, Nat.reduceAdd, Nat.reduceLeDiff, Nat.reduceLT, Int.reduceLE, Int.reduceLT, Int.reduceAdd, Int.reduceSub, Int.reduceNeg, Int.reduceBEq, Int.reduceBNe, Int.reduceEq, Int.reduceGT, Int.reduceGE, Int.reduceMul, Int.reduceToNat, Nat.reduceMul, reduceCtorEq, t0, t2, t4, t10, q1, w1, hs', h30, h31, h32, h33, h33', ea, e1, e2, e3, e4, e5, e6, hb, isK, hr1, u1, u2, splice_two, upd_upd] <;> rfl)) | exact (rfl : app (swap _ _) _ = _))
          refine vr_nil (aw_then ?_)
          refine AWp.seq ?_
          refine AWp.block ?_
          refine AWp.seq ?_
          refine aw_regionL hS5 (by kernel_rfl) ?_
          repeat (first | apply vr0u | apply vr4 | apply b_tt | apply b_ff | apply b_tf | apply b_ft | apply b_no | exact isD.mk rfl | (apply eqG; (simp only [push_cast, ↓reduceIte, Nat.reduceEqDiff, Nat.reduceAdd, Nat.reduceLeDiff, Nat.reduceLT, Int.reduceLE, Int.reduceLT, Int.reduceAdd, Int.reduceSub, Int.reduceNeg, Int.reduceBEq, Int.reduceBNe, Int.reduceEq, Int.reduceGT, Int.reduceGE, Int.reduceMul, Int.reduceToNat, Nat.reduceMul, reduceCtorEq, t0, t2, t4, t10, q1, w1, hs', h30, h31, h32, h33, h33', ea, e1, e2, e3, e4, e5, e6, hb, isK, hr1, u1, u2, splice_two, upd_upd] <;> rfl)) | exact (rfl : app (swap _ _) _ = _))
          refine vr_nil (aw_then ?_)
          refine aw_false (by (simp only [push_cast, ↓reduceIte, Nat.reduceEqDiff, Nat.reduceAdd, Nat.reduceLeDiff, Nat.reduceLT, Int.reduceLE, Int.reduceLT, Int.reduceAdd, Int.reduceSub, Int.reduceNeg, Int.reduceBEq, Int.reduceBNe, Int.reduceEq, Int.reduceGT, Int.reduceGE, Int.reduceMul, Int.reduceToNat, Nat.reduceMul, reduceCtorEq, t0, t2, t4, t10, q1, w1, hs', h30, h31, h32, h33, h33', ea, e1, e2, e3, e4, e5, e6, hb, isK, hr1, u1, u2, splice_two, upd_upd] <;> rfl)) ?_
          refine AWp.seq ?_
          (refine aw_regionL hS (by kernel_rfl) ?_; repeat (first | apply vr0u | apply vr4 | apply b_tt | apply b_ff | apply b_tf | apply b_ft | apply b_no | exact isD.mk rfl | (apply eqG; (simp only [push_cast, ↓reduceIte, Nat.reduceEqDiff, Nat.reduceAdd, Nat.reduceLeDiff, Nat.reduceLT, Int.reduceLE, Int.reduceLT, Int.reduceAdd, Int.reduceSub, Int.reduceNeg, Int.reduceBEq, Int.reduceBNe, Int.reduceEq, Int.reduceGT, Int.reduceGE, Int.reduceMul, Int.reduceToNat, Nat.reduceMul, reduceCtorEq, t0, t2, t4, t10, q1, w1, hs', h30, h31, h32, h33, h33', ea, e1, e2, e3, e4, e5, e6, hb, isK, hr1, u1, u2, splice_two, upd_upd] <;> rfl)) | exact (rfl : app (swap _ _) _ = _)))
          refine vr_nil (aw_then ?_)
          refine aw_false (by (simp only [push_cast, ↓reduceIte, Nat.reduceEqDiff, Nat.reduceAdd, Nat.reduceLeDiff, Nat.reduceLT, Int.reduceLE, Int.reduceLT, Int.reduceAdd, Int.reduceSub, Int.reduceNeg, Int.reduceBEq, Int.reduceBNe, Int.reduceEq, Int.reduceGT, Int.reduceGE, Int.reduceMul, Int.reduceToNat, Nat.reduceMul, reduceCtorEq, t0, t2, t4, t10, q1, w1, hs', h30, h31, h32, h33, h33', ea, e1, e2, e3, e4, e5, e6, hb, isK, hr1, u1, u2, splice_two, upd_upd] <;> rfl)) (AWp.skip (aw_in (aw_then ?_)))
          refine AWp.seq ?_
          refine aw_drawsL [0, 1, 3, 0, 8, 31, 63, 127, 255, 0, 1023] [10] hS5 mixed (by kernel_rfl) (by kernel_rfl) ?_
          repeat (first | (refine vd0f (by decide) (by ((repeat (first | rewrite [hpL_t rfl] | rewrite [hpL_f rfl])); (simp only [hpL, app_cons, app_nil] <;> rfl))) (by (simp only [push_cast, ↓reduceIte, Nat.reduceEqDiff, Nat.reduceAdd, Nat.reduceLeDiff, Nat.reduceLT, Int.reduceLE, Int.reduceLT, Int.reduceAdd, Int.reduceSub, Int.reduceNeg, Int.reduceBEq, Int.reduceBNe, Int.reduceEq, Int.reduceGT, Int.reduceGE, Int.reduceMul, Int.reduceToNat, Nat.reduceMul, reduceCtorEq, t0, t2, t4, t10, q1, w1, hs', h30, h31, h32, h33, h33', ea, e1, e2, e3, e4, e5, e6, hb, isK, hr1, u1, u2, splice_two, upd_upd] <;> rfl)) ?_) | (refine vd0q rfl (by decide) rfl (by ((repeat (first | rewrite [hpL_t rfl] | rewrite [hpL_f rfl])); (simp only [hpL, app_cons, app_nil] <;> rfl))) (by (simp only [push_cast, ↓reduceIte, Nat.reduceEqDiff, Nat.reduceAdd, Nat.reduceLeDiff, Nat.reduceLT, Int.reduceLE, Int.reduceLT, Int.reduceAdd, Int.reduceSub, Int.reduceNeg, Int.reduceBEq, Int.reduceBNe, Int.reduceEq, Int.reduceGT, Int.reduceGE, Int.reduceMul, Int.reduceToNat, Nat.reduceMul, reduceCtorEq, t0, t2, t4, t10, q1, w1, hs', h30, h31, h32, h33, h33', ea, e1, e2, e3, e4, e5, e6, hb, isK, hr1, u1, u2, splice_two, upd_upd] <;> rfl)) (by simp) (by omega) (by intro u hu; simp only [List.mem_cons, List.not_mem_nil, or_false] at hu; rcases hu with rfl | rfl | rfl <;> simp only <;> omega) ?_) | (refine vd0w rfl (by decide) (by ((repeat (first | rewrite [hpL_t rfl] | rewrite [hpL_f rfl])); (simp only [hpL, app_cons, app_nil] <;> rfl))) (by (simp only [push_cast, ↓reduceIte, Nat.reduceEqDiff, Nat.reduceAdd, Nat.reduceLeDiff, Nat.reduceLT, Int.reduceLE, Int.reduceLT, Int.reduceAdd, Int.reduceSub, Int.reduceNeg, Int.reduceBEq, Int.reduceBNe, Int.reduceEq, Int.reduceGT, Int.reduceGE, Int.reduceMul, Int.reduceToNat, Nat.reduceMul, reduceCtorEq, t0, t2, t4, t10, q1, w1, hs', h30, h31, h32, h33, h33', ea, e1, e2, e3, e4, e5, e6, hb, isK, hr1, u1, u2, splice_two, upd_upd] <;> rfl)) (by omega) (by intro u hu; simp only [List.mem_cons, List.not_mem_nil, or_false] at hu; rcases hu with rfl | rfl | rfl <;> simp only <;> omega) ?_) | (apply vd0; (focus rfl)) | (apply vd0r; (focus rfl); (focus decide); (focus rfl)) | (apply vd0p; (focus decide)) | apply vd4 | apply b_tt | apply b_ff | apply b_tf | apply b_ft | apply b_no | exact isD.mk rfl | ((repeat (first | rewrite [hpL_t rfl] | rewrite [hpL_f rfl])); (simp only [hpL, app_cons, app_nil] <;> rfl)) | (apply eqG; (simp only [push_cast, ↓reduceIte, Nat.reduceEqDiff, Nat.reduceAdd, Nat.reduceLeDiff, Nat.reduceLT, Int.reduceLE, Int.reduceLT, Int.reduceAdd, Int.reduceSub, Int.reduceNeg, Int.reduceBEq, Int.reduceBNe, Int.reduceEq, Int.reduceGT, Int.reduceGE, Int.reduceMul, Int.reduceToNat, Nat.reduceMul, reduceCtorEq, t0, t2, t4, t10, q1, w1, hs', h30, h31, h32, h33, h33', ea, e1, e2, e3, e4, e5, e6, hb, isK, hr1, u1, u2, splice_two, upd_upd] <;> rfl)))
          (refine vd_nil (by simp only [hpL, app_cons, app_nil, if_true] <;> rfl) ?_)
          refine aw_then ?_
          by_cases g1 : lo > o1
          · have g1' : ((lo : Int) > (o1 : Int)) = True := by simp only [eq_iff_iff, iff_true]; omega
            by_cases g2 : lo % 2 = k
            case pos =>
              have g2' : ((lo : Int) % 2 == (k : Int)) = true := by simp only [beq_iff_eq]; omega
              refine AWp.seq ?_
              (refine aw_regionL hS (by kernel_rfl) ?_; repeat (first | apply vr0u | apply vr4 | apply b_tt | apply b_ff | apply b_tf | apply b_ft | apply b_no | exact isD.mk rfl | (apply eqG; (simp only [push_cast, ↓reduceIte, Nat.reduceEqDiff, Nat.reduceAdd, Nat.reduceLeDiff, Nat.reduceLT, Int.reduceLE, Int.reduceLT, Int.reduceAdd, Int.reduceSub, Int.reduceNeg, Int.reduceBEq, Int.reduceBNe, Int.reduceEq, Int.reduceGT, Int.reduceGE, Int.reduceMul, Int.reduceToNat, Nat.reduceMul, reduceCtorEq, t0, t2, t4, t10, w1, hs', e5, e6, hr1, u1, u2, splice_two, upd_upd, g1', g2'] <;> rfl)) | exact (rfl : app (swap _ _) _ = _)))
              refine vr_nil (aw_then ?_)
              refine aw_true (by (simp only [push_cast, ↓reduceIte, Nat.reduceEqDiff, Nat.reduceAdd, Nat.reduceLeDiff, Nat.reduceLT, Int.reduceLE, Int.reduceLT, Int.reduceAdd, Int.reduceSub, Int.reduceNeg, Int.reduceBEq, Int.reduceBNe, Int.reduceEq, Int.reduceGT, Int.reduceGE, Int.reduceMul, Int.reduceToNat, Nat.reduceMul, reduceCtorEq, t0, t2, t4, t10, w1, hs', e5, e6, hr1, u1, u2, splice_two, upd_upd, g1', g2'] <;> rfl)) ?_
              (refine aw_regionL hS (by kernel_rfl) ?_; repeat (first | apply vr0u | apply vr4 | apply b_tt | apply b_ff | apply b_tf | apply b_ft | apply b_no | exact isD.mk rfl | (apply eqG; (simp only [push_cast, ↓reduceIte, Nat.reduceEqDiff, Nat.reduceAdd, Nat.reduceLeDiff, Nat.reduceLT, Int.reduceLE, Int.reduceLT, Int.reduceAdd, Int.reduceSub, Int.reduceNeg, Int.reduceBEq, Int.reduceBNe, Int.reduceEq, Int.reduceGT, Int.reduceGE, Int.reduceMul, Int.reduceToNat, Nat.reduceMul, reduceCtorEq, t0, t2, t4, t10, w1, hs', e5, e6, hr1, u1, u2, splice_two, upd_upd, g1', g2'] <;> rfl)) | exact (rfl : app (swap _ _) _ = _)))
              refine vr_nil (aw_in (aw_then ?_))
              (refine aw_regionL hS (by kernel_rfl) ?_; repeat (first | apply vr0u | apply vr4 | apply b_tt | apply b_ff | apply b_tf | apply b_ft | apply b_no | exact isD.mk rfl | (apply eqG; (simp only [push_cast, ↓reduceIte, Nat.reduceEqDiff, Nat.reduceAdd, Nat.reduceLeDiff, Nat.reduceLT, Int.reduceLE, Int.reduceLT, Int.reduceAdd, Int.reduceSub, Int.reduceNeg, Int.reduceBEq, Int.reduceBNe, Int.reduceEq, Int.reduceGT, Int.reduceGE, Int.reduceMul, Int.reduceToNat, Nat.reduceMul, reduceCtorEq, t0, t2, t4, t10, w1, hs', e5, e6, hr1, u1, u2, splice_two, upd_upd, g1', g2'] <;> rfl)) | exact (rfl : app (swap _ _) _ = _)))
              exact vr_nil (aw_then ⟨2 - (k + 1), by omega, k + 1, rfl, hk, by (simp only [push_cast, ↓reduceIte, Nat.reduceEqDiff, Nat.reduceAdd, Nat.reduceLeDiff, Nat.reduceLT, Int.reduceLE, Int.reduceLT, Int.reduceAdd, Int.reduceSub, Int.reduceNeg, Int.reduceBEq, Int.reduceBNe, Int.reduceEq, Int.reduceGT, Int.reduceGE, Int.reduceMul, Int.reduceToNat, Nat.reduceMul, reduceCtorEq, t0, t2, t4, t10, w1, hs', e5, e6, hr1, u1, u2, splice_two, upd_upd, g1', g2'] <;> rfl), by (simp only [push_cast, ↓reduceIte, Nat.reduceEqDiff, Nat.reduceAdd, Nat.reduceLeDiff, Nat.reduceLT, Int.reduceLE, Int.reduceLT, Int.reduceAdd, Int.reduceSub, Int.reduceNeg, Int.reduceBEq, Int.reduceBNe, Int.reduceEq, Int.reduceGT, Int.reduceGE, Int.reduceMul, Int.reduceToNat, Nat.reduceMul, reduceCtorEq, t0, t2, t4, t10, w1, hs', e5, e6, hr1, u1, u2, splice_two, upd_upd, g1', g2'] <;> rfl), by (simp only [push_cast, ↓reduceIte, Nat.reduceEqDiff, Nat.reduceAdd, Nat.reduceLeDiff, Nat.reduceLT, Int.reduceLE, Int.reduceLT, Int.reduceAdd, Int.reduceSub, Int.reduceNeg, Int.reduceBEq, Int.reduceBNe, Int.reduceEq, Int.reduceGT, Int.reduceGE, Int.reduceMul, Int.reduceToNat, Nat.reduceMul, reduceCtorEq, t0, t2, t4, t10, w1, hs', e5, e6, hr1, u1, u2, splice_two, upd_upd, g1', g2'] <;> rfl), by (simp only [push_cast, ↓reduceIte, Nat.reduceEqDiff, Nat.reduceAdd, Nat.reduceLeDiff, Nat.reduceLT, Int.reduceLE, Int.reduceLT, Int.reduceAdd, Int.reduceSub, Int.reduceNeg, Int.reduceBEq, Int.reduceBNe, Int.reduceEq, Int.reduceGT, Int.reduceGE, Int.reduceMul, Int.reduceToNat, Nat.reduceMul, reduceCtorEq, t0, t2, t4, t10, w1, hs', e5, e6, hr1, u1, u2, splice_two, upd_upd, g1', g2'] <;> rfl), by omega, by rw [upd_ne _ _ (by omega), upd_ne _ _ (by omega)]; exact hr0, by rw [elast', if_pos ⟨g1, g2⟩]; exact upd_same .., keepU (by omega) (keepU (by omega) hk2)⟩)
            case neg =>
              have g2' : ((lo : Int) % 2 == (k : Int)) = false := by simp only [beq_eq_false_iff_ne]; omega
              refine AWp.seq ?_
              (refine aw_regionL hS (by kernel_rfl) ?_; repeat (first | apply vr0u | apply vr4 | apply b_tt | apply b_ff | apply b_tf | apply b_ft | apply b_no | exact isD.mk rfl | (apply eqG; (simp only [push_cast, ↓reduceIte, Nat.reduceEqDiff, Nat.reduceAdd, Nat.reduceLeDiff, Nat.reduceLT, Int.reduceLE, Int.reduceLT, Int.reduceAdd, Int.reduceSub, Int.reduceNeg, Int.reduceBEq, Int.reduceBNe, Int.reduceEq, Int.reduceGT, Int.reduceGE, Int.reduceMul, Int.reduceToNat, Nat.reduceMul, reduceCtorEq, t0, t2, t4, t10, w1, hs', e5, e6, hr1, u1, u2, splice_two, upd_upd, g1', g2'] <;> rfl)) | exact (rfl : app (swap _ _) _ = _)))
              refine vr_nil (aw_then ?_)
              refine aw_false (by (simp only [push_cast, ↓reduceIte, Nat.reduceEqDiff, Nat.reduceAdd, Nat.reduceLeDiff, Nat.reduceLT, Int.reduceLE, Int.reduceLT, Int.reduceAdd, Int.reduceSub, Int.reduceNeg, Int.reduceBEq, Int.reduceBNe, Int.reduceEq, Int.reduceGT, Int.reduceGE, Int.reduceMul, Int.reduceToNat, Nat.reduceMul, reduceCtorEq, t0, t2, t4, t10, w1, hs', e5, e6, hr1, u1, u2, splice_two, upd_upd, g1', g2'] <;> rfl)) (AWp.skip (aw_in (aw_then ?_)))
              (refine aw_regionL hS (by kernel_rfl) ?_; repeat (first | apply vr0u | apply vr4 | apply b_tt | apply b_ff | apply b_tf | apply b_ft | apply b_no | exact isD.mk rfl | (apply eqG; (simp only [push_cast, ↓reduceIte, Nat.reduceEqDiff, Nat.reduceAdd, Nat.reduceLeDiff, Nat.reduceLT, Int.reduceLE, Int.reduceLT, Int.reduceAdd, Int.reduceSub, Int.reduceNeg, Int.reduceBEq, Int.reduceBNe, Int.reduceEq, Int.reduceGT, Int.reduceGE, Int.reduceMul, Int.reduceToNat, Nat.reduceMul, reduceCtorEq, t0, t2, t4, t10, w1, hs', e5, e6, hr1, u1, u2, splice_two, upd_upd, g1', g2'] <;> rfl)) | exact (rfl : app (swap _ _) _ = _)))
              exact vr_nil (aw_then ⟨2 - (k + 1), by omega, k + 1, rfl, hk, by (simp only [push_cast, ↓reduceIte, Nat.reduceEqDiff, Nat.reduceAdd, Nat.reduceLeDiff, Nat.reduceLT, Int.reduceLE, Int.reduceLT, Int.reduceAdd, Int.reduceSub, Int.reduceNeg, Int.reduceBEq, Int.reduceBNe, Int.reduceEq, Int.reduceGT, Int.reduceGE, Int.reduceMul, Int.reduceToNat, Nat.reduceMul, reduceCtorEq, t0, t2, t4, t10, w1, hs', e5, e6, hr1, u1, u2, splice_two, upd_upd, g1', g2'] <;> rfl), by (simp only [push_cast, ↓reduceIte, Nat.reduceEqDiff, Nat.reduceAdd, Nat.reduceLeDiff, Nat.reduceLT, Int.reduceLE, Int.reduceLT, Int.reduceAdd, Int.reduceSub, Int.reduceNeg, Int.reduceBEq, Int.reduceBNe, Int.reduceEq, Int.reduceGT, Int.reduceGE, Int.reduceMul, Int.reduceToNat, Nat.reduceMul, reduceCtorEq, t0, t2, t4, t10, w1, hs', e5, e6, hr1, u1, u2, splice_two, upd_upd, g1', g2'] <;> rfl), by (simp only [push_cast, ↓reduceIte, Nat.reduceEqDiff, Nat.reduceAdd, Nat.reduceLeDiff, Nat.reduceLT, Int.reduceLE, Int.reduceLT, Int.reduceAdd, Int.reduceSub, Int.reduceNeg, Int.reduceBEq, Int.reduceBNe, Int.reduceEq, Int.reduceGT, Int.reduceGE, Int.reduceMul, Int.reduceToNat, Nat.reduceMul, reduceCtorEq, t0, t2, t4, t10, w1, hs', e5, e6, hr1, u1, u2, splice_two, upd_upd, g1', g2'] <;> rfl), by (simp only [push_cast, ↓reduceIte, Nat.reduceEqDiff, Nat.reduceAdd, Nat.reduceLeDiff, Nat.reduceLT, Int.reduceLE, Int.reduceLT, Int.reduceAdd, Int.reduceSub, Int.reduceNeg, Int.reduceBEq, Int.reduceBNe, Int.reduceEq, Int.reduceGT, Int.reduceGE, Int.reduceMul, Int.reduceToNat, Nat.reduceMul, reduceCtorEq, t0, t2, t4, t10, w1, hs', e5, e6, hr1, u1, u2, splice_two, upd_upd, g1', g2'] <;> rfl), by omega, by rw [upd_ne _ _ (by omega)]; exact hr0, by rw [elast', if_neg (fun hc => g2 hc.2), upd_ne _ _ (by omega)]; exact hr1, keepU (by omega) hk2⟩)
          · have g1' : ((lo : Int) > (o1 : Int)) = False := by simp only [eq_iff_iff, iff_false]; omega
            refine AWp.seq ?_
            (refine aw_regionL hS (by kernel_rfl) ?_; repeat (first | apply vr0u | apply vr4 | apply b_tt | apply b_ff | apply b_tf | apply b_ft | apply b_no | exact isD.mk rfl | (apply eqG; (simp only [push_cast, ↓reduceIte, Nat.reduceEqDiff, Nat.reduceAdd, Nat.reduceLeDiff, Nat.reduceLT, Int.reduceLE, Int.reduceLT, Int.reduceAdd, Int.reduceSub, Int.reduceNeg, Int.reduceBEq, Int.reduceBNe, Int.reduceEq, Int.reduceGT, Int.reduceGE, Int.reduceMul, Int.reduceToNat, Nat.reduceMul, reduceCtorEq, t0, t2, t4, t10, w1, hs', e5, e6, hr1, u1, u2, splice_two, upd_upd, g1'] <;> rfl)) | exact (rfl : app (swap _ _) _ = _)))
            refine vr_nil (aw_then ?_)
            refine aw_false (by (simp only [push_cast, ↓reduceIte, Nat.reduceEqDiff, Nat.reduceAdd, Nat.reduceLeDiff, Nat.reduceLT, Int.reduceLE, Int.reduceLT, Int.reduceAdd, Int.reduceSub, Int.reduceNeg, Int.reduceBEq, Int.reduceBNe, Int.reduceEq, Int.reduceGT, Int.reduceGE, Int.reduceMul, Int.reduceToNat, Nat.reduceMul, reduceCtorEq, t0, t2, t4, t10, w1, hs', e5, e6, hr1, u1, u2, splice_two, upd_upd, g1'] <;> rfl)) (AWp.skip (aw_in (aw_then ?_)))
            (refine aw_regionL hS (by kernel_rfl) ?_; repeat (first | apply vr0u | apply vr4 | apply b_tt | apply b_ff | apply b_tf | apply b_ft | apply b_no | exact isD.mk rfl | (apply eqG; (simp only [push_cast, ↓reduceIte, Nat.reduceEqDiff, Nat.reduceAdd, Nat.reduceLeDiff, Nat.reduceLT, Int.reduceLE, Int.reduceLT, Int.reduceAdd, Int.reduceSub, Int.reduceNeg, Int.reduceBEq, Int.reduceBNe, Int.reduceEq, Int.reduceGT, Int.reduceGE, Int.reduceMul, Int.reduceToNat, Nat.reduceMul, reduceCtorEq, t0, t2, t4, t10, w1, hs', e5, e6, hr1, u1, u2, splice_two, upd_upd, g1'] <;> rfl)) | exact (rfl : app (swap _ _) _ = _)))
            exact vr_nil (aw_then ⟨2 - (k + 1), by omega, k + 1, rfl, hk, by (simp only [push_cast, ↓reduceIte, Nat.reduceEqDiff, Nat.reduceAdd, Nat.reduceLeDiff, Nat.reduceLT, Int.reduceLE, Int.reduceLT, Int.reduceAdd, Int.reduceSub, Int.reduceNeg, Int.reduceBEq, Int.reduceBNe, Int.reduceEq, Int.reduceGT, Int.reduceGE, Int.reduceMul, Int.reduceToNat, Nat.reduceMul, reduceCtorEq, t0, t2, t4, t10, w1, hs', e5, e6, hr1, u1, u2, splice_two, upd_upd, g1'] <;> rfl), by (simp only [push_cast, ↓reduceIte, Nat.reduceEqDiff, Nat.reduceAdd, Nat.reduceLeDiff, Nat.reduceLT, Int.reduceLE, Int.reduceLT, Int.reduceAdd, Int.reduceSub, Int.reduceNeg, Int.reduceBEq, Int.reduceBNe, Int.reduceEq, Int.reduceGT, Int.reduceGE, Int.reduceMul, Int.reduceToNat, Nat.reduceMul, reduceCtorEq, t0, t2, t4, t10, w1, hs', e5, e6, hr1, u1, u2, splice_two, upd_upd, g1'] <;> rfl), by (simp only [push_cast, ↓reduceIte, Nat.reduceEqDiff, Nat.reduceAdd, Nat.reduceLeDiff, Nat.reduceLT, Int.reduceLE, Int.reduceLT, Int.reduceAdd, Int.reduceSub, Int.reduceNeg, Int.reduceBEq, Int.reduceBNe, Int.reduceEq, Int.reduceGT, Int.reduceGE, Int.reduceMul, Int.reduceToNat, Nat.reduceMul, reduceCtorEq, t0, t2, t4, t10, w1, hs', e5, e6, hr1, u1, u2, splice_two, upd_upd, g1'] <;> rfl), by (simp only [push_cast, ↓reduceIte, Nat.reduceEqDiff, Nat.reduceAdd, Nat.reduceLeDiff, Nat.reduceLT, Int.reduceLE, Int.reduceLT, Int.reduceAdd, Int.reduceSub, Int.reduceNeg, Int.reduceBEq, Int.reduceBNe, Int.reduceEq, Int.reduceGT, Int.reduceGE, Int.reduceMul, Int.reduceToNat, Nat.reduceMul, reduceCtorEq, t0, t2, t4, t10, w1, hs', e5, e6, hr1, u1, u2, splice_two, upd_upd, g1'] <;> rfl), by omega, by rw [upd_ne _ _ (by omega)]; exact hr0, by rw [elast', if_neg (fun hc => g1 hc.1), upd_ne _ _ (by omega)]; exact hr1, keepU (by omega) hk2⟩)
      · obtain rfl : k = 2 := by omega
        have t10 : t' 10 = .i .i64 2 := t10
        refine AWp.seq ?_
        (refine aw_regionL hS (by kernel_rfl) ?_; repeat (first | apply vr0u | apply vr4 | apply b_tt | apply b_ff | apply b_tf | apply b_ft | apply b_no | exact isD.mk rfl | (apply eqG; (simp only [push_cast, ↓reduceIte, Nat.reduceEqDiff, Nat.reduceAdd, Nat.reduceLeDiff, Nat.reduceLT, Int.reduceLE, Int.reduceLT, Int.reduceAdd, Int.reduceSub, Int.reduceNeg, Int.reduceBEq, Int.reduceBNe, Int.reduceEq, Int.reduceGT, Int.reduceGE, Int.reduceMul, Int.reduceToNat, Nat.reduceMul, reduceCtorEq, t0, t2, t4, t10] <;> rfl)) | exact (rfl : app (swap _ _) _ = _)))
        refine vr_nil (aw_then ?_)
        refine AWp.seq ?_
        refine aw_false (by (simp only [push_cast, ↓reduceIte, Nat.reduceEqDiff, Nat.reduceAdd, Nat.reduceLeDiff, Nat.reduceLT, Int.reduceLE, Int.reduceLT, Int.reduceAdd, Int.reduceSub, Int.reduceNeg, Int.reduceBEq, Int.reduceBNe, Int.reduceEq, Int.reduceGT, Int.reduceGE, Int.reduceMul, Int.reduceToNat, Nat.reduceMul, reduceCtorEq, t0, t2, t4, t10] <;> rfl)) (AWp.exit (aw_thru (aw_thru (aw_exit (aw_then ?_)))))
        exact ⟨by (simp only [push_cast, ↓reduceIte, Nat.reduceEqDiff, Nat.reduceAdd, Nat.reduceLeDiff, Nat.reduceLT, Int.reduceLE, Int.reduceLT, Int.reduceAdd, Int.reduceSub, Int.reduceNeg, Int.reduceBEq, Int.reduceBNe, Int.reduceEq, Int.reduceGT, Int.reduceGE, Int.reduceMul, Int.reduceToNat, Nat.reduceMul, reduceCtorEq, t0, t2, t4, t10] <;> rfl), by (simp only [push_cast, ↓reduceIte, Nat.reduceEqDiff, Nat.reduceAdd, Nat.reduceLeDiff, Nat.reduceLT, Int.reduceLE, Int.reduceLT, Int.reduceAdd, Int.reduceSub, Int.reduceNeg, Int.reduceBEq, Int.reduceBNe, Int.reduceEq, Int.reduceGT, Int.reduceGE, Int.reduceMul, Int.reduceToNat, Nat.reduceMul, reduceCtorEq, t0, t2, t4, t10] <;> rfl), hr0, hr1, hk2⟩
  · rintro t1 h1 m1 - ⟨t2, t4, hr0, hr1, hk2⟩
    simp only [mkC] at hr1
    have u1 : ∀ (g : Heap) (r : Option Row), upd g n r (n + 1) = g (n + 1) := fun g r => upd_ne _ _ (by omega)
    refine AWp.seq ?_
    (refine aw_regionL hS (by kernel_rfl) ?_; repeat (first | apply vr0u | apply vr4 | apply b_tt | apply b_ff | apply b_tf | apply b_ft | apply b_no | exact isD.mk rfl | (apply eqG; (simp only [push_cast, ↓reduceIte, Nat.reduceEqDiff, Nat.reduceAdd, Nat.reduceLeDiff, Nat.reduceLT, Int.reduceLE, Int.reduceLT, Int.reduceAdd, Int.reduceSub, Int.reduceNeg, Int.reduceBEq, Int.reduceBNe, Int.reduceEq, Int.reduceGT, Int.reduceGE, Int.reduceMul, Int.reduceToNat, Nat.reduceMul, reduceCtorEq, t2, t4, hr0, hr1, u1, splice_two] <;> rfl)) | exact (rfl : app (swap _ _) _ = _)))
    refine vr_nil (aw_then ?_)
    refine AWp.ret ?_
    exact Out.pure (xs := [.agg (mkC (lastOf w.now)), .ni]) (.inr rfl) (by simp [Tryd.f24, resAll, resT]; simp only [mkC]; (simp only [push_cast, ↓reduceIte, Nat.reduceEqDiff, Nat.reduceAdd, Nat.reduceLeDiff, Nat.reduceLT, Int.reduceLE, Int.reduceLT, Int.reduceAdd, Int.reduceSub, Int.reduceNeg, Int.reduceBEq, Int.reduceBNe, Int.reduceEq, Int.reduceGT, Int.reduceGE, Int.reduceMul, Int.reduceToNat, Nat.reduceMul, reduceCtorEq, t2, t4, hr0, hr1, u1, splice_two] <;> rfl)) rfl (show namesAll (· < n) [AV.agg (mkC (lastOf w.now)), .ni] from ⟨⟨trivial, trivial, trivial⟩, trivial, trivial⟩) (keepU (Nat.le_refl _) hk2)

end Go.Proofs.YtepfknnffooaiaaDoor
