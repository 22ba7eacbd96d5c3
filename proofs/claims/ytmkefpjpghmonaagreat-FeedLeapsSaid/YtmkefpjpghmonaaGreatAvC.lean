/- What one operation does, told of abstract values: it is so. Part 9: all of it. What one operation that is no call of a function does, told of abstract values: it is so. Code, told of abstract values: operations in a region, calls, the rules for code. Regions whose order is drawn: what each operation comes to is fixed up front; whatever the order, it comes to that. Part 1: what is needed. Regions whose order is drawn. Part 2: whatever the order, it comes to that. Regions whose order is drawn. Part 3: the theorem. -/
import Derived.Test.YtmkefpjpghmonaaGreatAvB
import Derived.Deep.LoopGhost

section
namespace Go.Av

variable {P : Program} {U : Nat → Prop} {n n' : Nat} {ρ : Nat → Nat} {Ro : Nat → Prop} {h : Heap} {w w1 : World} {t : Tmps} {a : Act} {o : Oper} {C : Cx} {v : AV} {us : List (Nat × Option Row)}

theorem zvT_some {T : TypeId} {z : AV} (hz : zvT P T = some z) : ∃ i zv, P.info? T = some i ∧ i.zero = some zv ∧ okC zv = true ∧ ofC zv = z := by
  unfold zvT at hz
  cases hi : P.info? T with
  | none => rw [hi] at hz; cases hz
  | some i =>
    rw [hi] at hz
    simp only [Option.bind_some] at hz
    cases hzz : i.zero with
    | none => rw [hzz] at hz; cases hz
    | some zv =>
      rw [hzz] at hz
      simp only at hz
      split at hz
      · rename_i hok
        exact ⟨i, zv, rfl, hzz, hok, by injection hz⟩
      · cases hz

theorem sound_typeAssert {x : Operand} {X D : TypeId} {ok : Bool} {k : Kind} (hx : okX x = true) (hk : kiT P D = some k) (hne : k ≠ .iface)
    (hv : (∃ T u, aev t x = .ifc T u ∧ T = D ∧ v = if ok then .tup [u, .b true] else u) ∨ (∃ z, ok = true ∧ zvT P D = some z ∧ v = .tup [z, .b false] ∧ ((∃ T u, aev t x = .ifc T u ∧ T ≠ D) ∨ aev t x = .ni))) :
    Sound P (.typeAssert x X D ok) t h n v [] n :=
  Sound.val fun ty d U ρ Ro w a hrel ht => by
    obtain ⟨Dd, hd, _, _, _, h1⟩ := kiT_some hk
    have hni : ∀ ms, Dd ≠ .interface ms := fun ms he => hne (h1.2 ⟨ms, he⟩)
    have hr := rv_ev ht hx
    rcases hv with ⟨T, u, he, rfl, rfl⟩ | ⟨z, rfl, hz, rfl, hw⟩
    · rw [he] at hr
      obtain ⟨y, hva, hy⟩ := hr.inv_ifc
      refine ⟨if ok then .tuple #[y, .bool true] else y, .inl ?_, ?_⟩
      · simp only [execOp, hva, Instr.typeAssert, Sem.run_bind, run_underlying hd, Result.andThen_ok]
        cases Dd <;> first | (cases ok <;> simp; done) | exact absurd rfl (hni _)
      · cases ok
        · exact hy
        · exact rv_tup2 hy (.b _)
    · obtain ⟨i, zv, hi, hzz, hok, rfl⟩ := zvT_some hz
      refine ⟨.tuple #[zv, .bool false], .inl ?_, rv_tup2 (rv_ofC _ hok) (.b _)⟩
      rcases hw with ⟨T, u, he, hTD⟩ | he
      · rw [he] at hr
        obtain ⟨y, hva, hy⟩ := hr.inv_ifc
        simp only [execOp, hva, Instr.typeAssert, Sem.run_bind, run_underlying hd, Result.andThen_ok]
        cases Dd <;> first | (simp [hTD, run_zeroValue hi hzz]; done) | exact absurd rfl (hni _)
      · rw [he] at hr
        have hva := hr.inv_ni
        simp only [execOp, hva, Instr.typeAssert, Sem.run_bind, run_underlying hd, Result.andThen_ok]
        cases Dd <;> first | (simp [run_zeroValue hi hzz]; done) | exact absurd rfl (hni _)

theorem ran_builtin {b : Builtin} {args : Array Operand} {Ts : Array TypeId} {ty : TypeId} {d : Oper} {r : Value} {w' : World} (f : Array TypeId → TypeId → Array Value → Sem Value)
    (hf : ∀ consts vs, builtin b Ts ty consts vs = (do pure (.value (← f Ts ty vs)) : Sem Next)) (hr : (f Ts ty (args.map a.eval)).run P w = .ok r w') : Ran P (.call { callee := .builtin b, args := args, argTypes := Ts }) ty d a w r w' := by
  refine .inl ?_
  simp only [execOp, resolve, Sem.run_bind, Sem.run_pure, Result.andThen_ok, invoke, hf, hr]

theorem sound_len {T : TypeId} {x : Operand} {m : Int} (hx : okX x = true) (hv : alen P T (aev t x) = some m) : Sound P (.call { callee := .builtin .len, args := #[x], argTypes := #[T] }) t h n (.i .i64 m) [] n :=
  Sound.val fun ty d U ρ Ro w a hrel ht => by
    have hr := rv_ev ht hx
    generalize aev t x = p at hv hr
    refine ⟨.int .i64 m, ran_builtin Builtin.len_ (fun _ _ => rfl) ?_, .i _ _⟩
    simp only [List.map_toArray, List.map_cons, List.map_nil]
    unfold alen at hv
    split at hv
    · split at hv
      · rename_i hk
        injection hv with hv
        subst hv
        obtain ⟨D, hd, _, _, h1, _⟩ := kiT_some hk
        obtain rfl := h1.1 rfl
        rw [hr.inv_s]
        simp [Builtin.len_, run_underlying hd, goInt]
      · cases hv
    · cases hs : slT P T with
      | none => rw [hs] at hv; cases hv
      | some s =>
        rw [hs] at hv
        simp at hv
        subst hv
        obtain ⟨hu, _⟩ := slT_some hs
        obtain ⟨cap, hva, _⟩ := hr.inv_sl
        rw [hva]
        simp [Builtin.len_, run_underlying hu, goInt]
    · cases hs : slT P T with
      | none => rw [hs] at hv; cases hv
      | some s =>
        rw [hs] at hv
        simp at hv
        subst hv
        obtain ⟨hu, _⟩ := slT_some hs
        obtain ⟨b, cap, hva, _⟩ := hr.inv_ro
        rw [hva]
        simp [Builtin.len_, run_underlying hu, goInt]
    · cases hs : arT P T with
      | none => rw [hs] at hv; cases hv
      | some s =>
        obtain ⟨m', z, g⟩ := s
        rw [hs] at hv
        simp at hv
        subst hv
        obtain ⟨e, hu, _⟩ := arT_some hs
        simp [Builtin.len_, run_underlying hu, goInt]
    · cases hv

theorem sound_max {x y : Operand} {Ts : Array TypeId} (hx : okX x = true) (hy : okX y = true) (hv : amax (aev t x) (aev t y) = some v) : Sound P (.call { callee := .builtin .max, args := #[x, y], argTypes := Ts }) t h n v [] n :=
  Sound.val fun ty d U ρ Ro w a hrel ht => by
    have hr := rv_ev ht hx
    have hr' := rv_ev ht hy
    generalize aev t x = p at hv hr
    generalize aev t y = q at hv hr'
    unfold amax at hv
    split at hv
    · rename_i k m k' m'
      injection hv with hv
      subst hv
      refine ⟨.int k (if m' > m then m' else m), ran_builtin Builtin.max_ (fun _ _ => rfl) ?_, .i _ _⟩
      simp only [List.map_toArray, List.map_cons, List.map_nil, hr.inv_i, hr'.inv_i]
      simp [Builtin.max_, Builtin.max2]
    · cases hv
theorem sound_min {x y : Operand} {Ts : Array TypeId} (hx : okX x = true) (hy : okX y = true) (hv : amin (aev t x) (aev t y) = some v) : Sound P (.call { callee := .builtin .min, args := #[x, y], argTypes := Ts }) t h n v [] n :=
  Sound.val fun ty d U ρ Ro w a hrel ht => by
    have hr := rv_ev ht hx
    have hr' := rv_ev ht hy
    generalize aev t x = p at hv hr
    generalize aev t y = q at hv hr'
    unfold amin at hv
    split at hv
    · rename_i k m k' m'
      injection hv with hv
      subst hv
      refine ⟨.int k (if m' < m then m' else m), ran_builtin Builtin.min_ (fun _ _ => rfl) ?_, .i _ _⟩
      simp only [List.map_toArray, List.map_cons, List.map_nil, hr.inv_i, hr'.inv_i]
      simp [Builtin.min_, Builtin.min2]
    · cases hv

theorem sound_copy {T T2 : TypeId} {s x : Operand} (hs : okX s = true) (hx : okX x = true) (hv : acopy P T T2 h n (aev t s) (aev t x) = some (v, us, n')) :
    Sound P (.call { callee := .builtin .copy, args := #[s, x], argTypes := #[T, T2] }) t h n v us n' := by
  intro ty d U ρ Ro w a hm hr ht
  have hrs := rv_ev ht hs
  have hrx := rv_ev ht hx
  generalize aev t s = p at hv hrs
  generalize aev t x = q at hv hrx
  unfold acopy at hv
  split at hv
  · rename_i e z by_ sz j off len hsl
    obtain ⟨hu, hsz, hby⟩ := slT_some hsl
    split at hv
    · rename_i ys m cs ha hj
      split at hv
      · rename_i hb
        obtain ⟨rfl, hfit⟩ := hb
        simp only [Option.some.injEq, Prod.mk.injEq] at hv
        obtain ⟨rfl, rfl, rfl⟩ := hv
        obtain ⟨news, hsrc⟩ := src_of (P := P) hr hrx ha (fun _ _ _ _ => .inr trivial)
        obtain ⟨cap, hsv, hjn, hlc, hcm, hroomZ⟩ := hrs.inv_sl
        have hmul : min m len * sz ≤ m * sz := Nat.mul_le_mul_right _ (Nat.min_le_left ..)
        have hmul2 : min m len * sz ≤ len * sz := Nat.mul_le_mul_right _ (Nat.min_le_right ..)
        have hyl : (ys.take (min m len * sz)).length = min m len * sz := by rw [List.length_take, hsrc.size]; omega
        have hnl : news.length = m * sz := by rw [hsrc.rvs.1, hsrc.size]
        obtain ⟨w', h1, h2, h3⟩ := stored hr hj P off (news.take (min m len * sz)) (ys.take (min m len * sz)) (cs.take off ++ ys.take (min m len * sz) ++ cs.drop (off + min m len * sz)) (by rw [hyl, List.length_take, hnl]; omega)
          (fun k x hx => by
            rw [List.getElem?_take] at hx
            split at hx
            · exact hsrc.one k x hx
            · cases hx)
          (fun k x v hx hv => by
            rw [List.getElem?_take] at hx hv
            split at hx
            · rename_i hk
              rw [if_pos hk] at hv
              exact hsrc.rvs.2 k x v hx hv
            · cases hx)
          (fun u hu => hsrc.ones u (List.mem_of_mem_take hu))
          (fun c T fr hg => by
            obtain ⟨c', T', lo, hi, h0, _, hle, _, _⟩ := hr.row j cs hj
            rw [hg] at h0
            injection h0 with h0
            injection h0 with h0
            subst h0
            refine ⟨by omega, ?_⟩
            simp only [List.length_append, hyl, List.length_take, List.length_drop]
            omega)
          (fun k hk => by
            rw [hyl]
            by_cases h1 : k < off
            · rw [if_neg (by omega), List.append_assoc, List.getElem?_append_left (by simp; omega), List.getElem?_take, if_pos h1]
            · by_cases h2 : k < off + min m len * sz
              · rw [if_pos ⟨by omega, h2⟩, List.getElem?_append_left (by simp only [List.length_append, hyl, List.length_take]; omega), List.getElem?_append_right (by simp; omega)]
                congr 1
                simp; omega
              · rw [if_neg (by omega), List.getElem?_append_right (by simp only [List.length_append, hyl, List.length_take]; omega), List.getElem?_drop]
                congr 1
                simp only [List.length_append, hyl, List.length_take]; omega)
        rw [ext_self]
        refine ⟨.int .i64 (min m len : Nat), w', ρ, Ro, ran_builtin Builtin.copy_ (fun _ _ => rfl) ?_, .i _ _, h2, h3⟩
        have hc := hsrc.cells w (min m len) rfl (Nat.min_le_left ..)
        have hsv' : a.eval s = .slice (some ⟨ρ j, off, none⟩) len cap := hsv
        simp only [List.map_toArray, List.map_cons, List.map_nil, hsv']
        have hmin : Nat.min m len = min m len := rfl
        simp [Builtin.copy_, run_underlying hu, run_sizeOf hsz, hsrc.len, hc, h1, goInt, hmin]
      · cases hv
    · cases hv
  · cases hv

end Go.Av
end

section
namespace Go.Av

variable {P : Program} {n n' : Nat} {h : Heap} {t : Tmps} {v : AV} {us : List (Nat × Option Row)}

theorem val_some {r : Option AV} (hv : (r.map fun v => (v, ([] : List (Nat × Option Row)), n)) = some (v, us, n')) : r = some v ∧ us = [] ∧ n' = n := by
  cases r with
  | none => cases hv
  | some r => simp at hv; obtain ⟨rfl, rfl, rfl⟩ := hv; exact ⟨rfl, rfl, rfl⟩

theorem abuiltin_sound {b : Builtin} {args : Array Operand} {Ts : Array TypeId} (ho : opOk (.call { callee := .builtin b, args := args, argTypes := Ts }) = true) (hv : abuiltin P b args.toList Ts.toList t h n = some (v, us, n')) :
    Sound P (.call { callee := .builtin b, args := args, argTypes := Ts }) t h n v us n' := by
  have hx : ∀ x ∈ args.toList, okX x = true := fun x hm => okX1 ho (by simpa [Op.operands, Call.operands] using hm)
  have e1 : ∀ {l : List Operand}, args.toList = l → args = l.toArray := fun he => by rw [← he]
  have e2 : ∀ {l : List TypeId}, Ts.toList = l → Ts = l.toArray := fun he => by rw [← he]
  unfold abuiltin at hv
  split at hv
  · rename_i x T ha hT
    rw [ha] at hx
    obtain rfl := e1 ha
    obtain rfl := e2 hT
    obtain ⟨h1, rfl, rfl⟩ := val_some hv
    cases hl : alen P T (aev t x) with
    | none => rw [hl] at h1; cases h1
    | some m =>
      rw [hl] at h1
      simp at h1
      subst h1
      exact sound_len (hx _ (by simp)) hl
  · rename_i s x T U ha hT
    rw [ha] at hx
    obtain rfl := e1 ha
    obtain rfl := e2 hT
    exact sound_append (hx _ (by simp)) (hx _ (by simp)) hv
  · rename_i s x T U ha hT
    rw [ha] at hx
    obtain rfl := e1 ha
    obtain rfl := e2 hT
    exact sound_copy (hx _ (by simp)) (hx _ (by simp)) hv
  · rename_i x y ha
    rw [ha] at hx
    obtain rfl := e1 ha
    obtain ⟨h1, rfl, rfl⟩ := val_some hv
    exact sound_max (hx _ (by simp)) (hx _ (by simp)) h1
  · rename_i x y ha
    rw [ha] at hx
    obtain rfl := e1 ha
    obtain ⟨h1, rfl, rfl⟩ := val_some hv
    exact sound_min (hx _ (by simp)) (hx _ (by simp)) h1
  · cases hv

theorem aeff_sound {o : Op} (ho : opOk o = true) (hv : aeff P o t h n = some (v, us, n')) : Sound P o t h n v us n' := by
  have hx : ∀ x ∈ o.operands.toList, okX x = true := fun x hm => okX1 ho hm
  unfold aeff at hv
  split at hv
  · simp only [Option.some.injEq, Prod.mk.injEq] at hv
    obtain ⟨rfl, rfl, rfl⟩ := hv
    exact sound_move (hx _ (by simp [Op.operands]))
  · simp only [Option.some.injEq, Prod.mk.injEq] at hv
    obtain ⟨rfl, rfl, rfl⟩ := hv
    exact sound_assign (hx _ (by simp [Op.operands]))
  · split at hv
    · rename_i u hu
      simp only [Option.some.injEq, Prod.mk.injEq] at hv
      obtain ⟨rfl, rfl, rfl⟩ := hv
      exact sound_pick (hx _ (by simp [Op.operands])) (hx _ (by simp [Op.operands])) (hx _ (by simp [Op.operands])) hu
    · cases hv
  · split at hv
    · rename_i cs hz
      simp only [Option.some.injEq, Prod.mk.injEq] at hv
      obtain ⟨rfl, rfl, rfl⟩ := hv
      exact sound_alloc hz
    · cases hv
  · split at hv
    · rename_i hb
      simp only [Option.some.injEq, Prod.mk.injEq] at hv
      obtain ⟨rfl, rfl, rfl⟩ := hv
      exact sound_box (hx _ (by simp [Op.operands])) hb
    · cases hv
  · split at hv
    · rename_i zs pl hz hp
      split at hv
      · rename_i hb
        obtain ⟨h1, rfl, rfl⟩ := val_some hv
        cases hf : fillA (fun i => pl[i]?) zs _ with
        | none => rw [hf] at h1; cases h1
        | some ds =>
          rw [hf] at h1
          simp at h1
          subst h1
          exact sound_build ho hz hp hb hf
      · cases hv
    · cases hv
  · split at hv
    · rename_i e z by_ hs
      split at hv
      · rename_i zs hz
        split at hv
        · rename_i hc
          obtain ⟨h1, h2, h3, h4⟩ := hc
          split at hv
          · rename_i cs hf
            simp only [Option.some.injEq, Prod.mk.injEq] at hv
            obtain ⟨rfl, rfl, rfl⟩ := hv
            exact sound_buildSlice ho hs hz h1 h2 h3 h4 hf
          · cases hv
        · cases hv
      · cases hv
    · cases hv
  · obtain ⟨h1, rfl, rfl⟩ := val_some hv
    exact sound_load (hx _ (by simp [Op.operands])) h1
  · split at hv
    · rename_i z j off hz he
      split at hv
      · rename_i cs hj
        split at hv
        · rename_i hc
          obtain ⟨h1, h2, h3⟩ := hc
          simp only [Option.some.injEq, Prod.mk.injEq] at hv
          obtain ⟨rfl, rfl, rfl⟩ := hv
          exact sound_store (hx _ (by simp [Op.operands])) (hx _ (by simp [Op.operands])) hz he hj h1 h2 h3
        · cases hv
      · cases hv
    · cases hv
  · split at hv
    · rename_i he
      simp only [Option.some.injEq, Prod.mk.injEq] at hv
      obtain ⟨rfl, rfl, rfl⟩ := hv
      exact sound_nilCheck (hx _ (by simp [Op.operands])) ⟨he, .inl ⟨_, _, rfl⟩⟩
    · rename_i he
      simp only [Option.some.injEq, Prod.mk.injEq] at hv
      obtain ⟨rfl, rfl, rfl⟩ := hv
      exact sound_nilCheck (hx _ (by simp [Op.operands])) ⟨he, .inr (.inl ⟨_, _, rfl⟩)⟩
    · rename_i he
      simp only [Option.some.injEq, Prod.mk.injEq] at hv
      obtain ⟨rfl, rfl, rfl⟩ := hv
      exact sound_nilCheck (hx _ (by simp [Op.operands])) ⟨he, .inr (.inr ⟨_, _, _, rfl⟩)⟩
    · cases hv
  · obtain ⟨h1, rfl, rfl⟩ := val_some hv
    exact sound_bin (hx _ (by simp [Op.operands])) (hx _ (by simp [Op.operands])) h1
  · obtain ⟨h1, rfl, rfl⟩ := val_some hv
    exact sound_un (hx _ (by simp [Op.operands])) h1
  · exact sound_conv (hx _ (by simp [Op.operands])) hv
  · obtain ⟨h1, rfl, rfl⟩ := val_some hv
    exact sound_sliceToArrayPointer (hx _ (by simp [Op.operands])) h1
  · split at hv
    · cases hv
    · rename_i k hne hk
      simp only [Option.some.injEq, Prod.mk.injEq] at hv
      obtain ⟨rfl, rfl, rfl⟩ := hv
      exact sound_makeInterface (hx _ (by simp [Op.operands])) hk (fun he => by subst he; exact hne rfl)
    · cases hv
  · simp only [Option.some.injEq, Prod.mk.injEq] at hv
    obtain ⟨rfl, rfl, rfl⟩ := hv
    exact sound_makeFunc ho
  · split at hv
    · rename_i e z by_ kl l kc c hs hl hc
      split at hv
      · rename_i zs hz
        split at hv
        · rename_i hcnd
          obtain ⟨h1, h2, h3, h4, h5⟩ := hcnd
          simp only [Option.some.injEq, Prod.mk.injEq] at hv
          obtain ⟨rfl, rfl, rfl⟩ := hv
          exact sound_makeSlice (hx _ (by simp [Op.operands])) (hx _ (by simp [Op.operands])) hs hl hc hz h1 h2 h3 h4 h5
        · cases hv
      · cases hv
    · cases hv
  · obtain ⟨h1, rfl, rfl⟩ := val_some hv
    exact sound_slice (hx _ (by simp [Op.operands])) (fun y hy => hx _ (by subst hy; simp [Op.operands])) (fun y hy => hx _ (by subst hy; simp [Op.operands])) h1
  · split at hv
    · rename_i off z g hf
      split at hv
      · cases hv
      · rename_i hz
        split at hv
        · rename_i j o he
          simp only [Option.some.injEq, Prod.mk.injEq] at hv
          obtain ⟨rfl, rfl, rfl⟩ := hv
          exact sound_fieldAddr (hx _ (by simp [Op.operands])) hf hz (.inl ⟨j, o, he, rfl⟩)
        · rename_i cs o he
          simp only [Option.some.injEq, Prod.mk.injEq] at hv
          obtain ⟨rfl, rfl, rfl⟩ := hv
          exact sound_fieldAddr (hx _ (by simp [Op.operands])) hf hz (.inr ⟨cs, o, he, rfl⟩)
        · cases hv
    · cases hv
  · split at hv
    · rename_i off z g cs hf he
      obtain ⟨h1, rfl, rfl⟩ := val_some hv
      exact sound_field (hx _ (by simp [Op.operands])) hf he h1
    · cases hv
  · obtain ⟨h1, rfl, rfl⟩ := val_some hv
    exact sound_indexAddr (hx _ (by simp [Op.operands])) (hx _ (by simp [Op.operands])) h1
  · obtain ⟨h1, rfl, rfl⟩ := val_some hv
    exact sound_index (hx _ (by simp [Op.operands])) (hx _ (by simp [Op.operands])) h1
  · split at hv
    · rename_i u hk he
      simp only [Option.some.injEq, Prod.mk.injEq] at hv
      obtain ⟨rfl, rfl, rfl⟩ := hv
      exact sound_range (hx _ (by simp [Op.operands])) hk he
    · cases hv
  · split at hv
    · rename_i j he
      split at hv
      · rename_i u pos hj
        split at hv
        · rename_i hlt
          simp only [Option.some.injEq, Prod.mk.injEq] at hv
          obtain ⟨rfl, rfl, rfl⟩ := hv
          exact sound_next (hx _ (by simp [Op.operands])) he hj hlt
        · rename_i hge
          simp only [Option.some.injEq, Prod.mk.injEq] at hv
          obtain ⟨rfl, rfl, rfl⟩ := hv
          exact sound_next_end (hx _ (by simp [Op.operands])) he hj hge
      · cases hv
    · cases hv
  · split at hv
    · cases hv
    · rename_i k hne hk
      have hne' : k ≠ .iface := fun he => by subst he; exact hne rfl
      split at hv
      · rename_i T u he
        split at hv
        · rename_i hTD
          simp only [Option.some.injEq, Prod.mk.injEq] at hv
          obtain ⟨rfl, rfl, rfl⟩ := hv
          exact sound_typeAssert (hx _ (by simp [Op.operands])) hk hne' (.inl ⟨T, u, he, hTD, rfl⟩)
        · rename_i hTD
          split at hv
          · rename_i hok
            split at hv
            · rename_i z hz
              simp only [Option.some.injEq, Prod.mk.injEq] at hv
              obtain ⟨rfl, rfl, rfl⟩ := hv
              exact sound_typeAssert (hx _ (by simp [Op.operands])) hk hne' (.inr ⟨z, hok, hz, rfl, .inl ⟨T, u, he, hTD⟩⟩)
            · cases hv
          · cases hv
      · rename_i he
        split at hv
        · rename_i hok
          split at hv
          · rename_i z hz
            simp only [Option.some.injEq, Prod.mk.injEq] at hv
            obtain ⟨rfl, rfl, rfl⟩ := hv
            exact sound_typeAssert (hx _ (by simp [Op.operands])) hk hne' (.inr ⟨z, hok, hz, rfl, .inr he⟩)
          · cases hv
        · cases hv
      · cases hv
    · cases hv
  · split at hv
    · rename_i vs he
      obtain ⟨h1, rfl, rfl⟩ := val_some hv
      exact sound_extract (hx _ (by simp [Op.operands])) he h1
    · cases hv
  · rename_i c
    obtain ⟨callee, args, Ts⟩ := c
    split at hv
    · rename_i b hb
      simp only at hb
      subst hb
      exact abuiltin_sound ho hv
    · cases hv
  · cases hv

end Go.Av
end

section
namespace Go.Av

variable {P : Program} {N : Nat} {n n' : Nat} {h : Heap} {t : Tmps} {v : AV} {us : List (Nat × Option Row)}

/-! ### one operation of a region -/

def wantedA (ops : Array Oper) (t : Tmps) (o : Oper) : Option Bool := match o.guard with
  | none => some true
  | some (j, want) => match (ops[j]?).bind (·.dst) with
    | some d => (match t d with | .b u => some (u == want) | .tup _ => some false | _ => none)
    | none => none

theorem wanted_of {C : Cx} {a : Act} (ht : RelT C t a) {ops : Array Oper} {o : Oper} {u : Bool} (hw : wantedA ops t o = some u) : Region.wanted o (yielded ops a.tmps) = u := by
  unfold wantedA at hw
  unfold Region.wanted
  split at hw
  · rename_i hg
    injection hw with hw
    subst hw
    rw [hg]
  · rename_i j want hg
    rw [hg]
    simp only
    split at hw
    · rename_i d hd
      split at hw
      · rename_i b hb
        injection hw with hw
        subst hw
        have hrv := ht d
        rw [hb] at hrv
        have hv := hrv.inv_b
        have hsome : a.tmps[d]? = some (.bool b) := by
          rw [Array.getD_eq_getD_getElem?] at hv
          cases hx : a.tmps[d]? with
          | none => rw [hx] at hv; simp [undef] at hv
          | some x => rw [hx] at hv; simp at hv; rw [hv]
        simp only [yielded, hd, Option.bind_some, hsome]
        cases b <;> cases want <;> rfl
      · rename_i cs hb
        injection hw with hw
        subst hw
        have hrv := ht d
        rw [hb] at hrv
        obtain ⟨vs, hv, _⟩ := hrv.inv_tup
        rw [Array.getD_eq_getD_getElem?] at hv
        have hnone : yielded ops a.tmps j = none := by
          simp only [yielded, hd, Option.bind_some]
          cases hx : a.tmps[d]? with
          | none => rfl
          | some x => rw [hx] at hv; simp at hv; rw [hv]
        rw [hnone]
        cases want <;> rfl
      · cases hw
    · cases hw

/-- One operation of a region, in a heap that is so: carried out it leaves this. -/
def SoundO (P : Program) (ops : Array Oper) (o : Oper) (t : Tmps) (h : Heap) (n : Nat) (v : AV) (us : List (Nat × Option Row)) (n' : Nat) : Prop :=
  n ≤ n' ∧ ∀ U ρ Ro w a, (∀ j, U j → j < n) → Rel U ρ Ro h w → RelT (cx U ρ Ro w) t a → ∀ (K : Act → World → Prop) (Q : Exit → Act → World → Prop),
    (∀ x w' ρ' Ro', RV (cx (Av.ext U n n') ρ' Ro' w') v x → Rel (Av.ext U n n') ρ' Ro' (app us h) w' → Ext U ρ Ro h w (Av.ext U n n') ρ' Ro' (app us h) w' → K (a.put o.dst x) w') →
    (if Region.wanted o (yielded ops a.tmps) then o.wp P a w K Q ∨ (o.asks P a w ∧ LetsOut Q) else K (a.put o.dst undef) w)

theorem SoundO.skip {ops : Array Oper} {o : Oper} (hw : wantedA ops t o = some false) : SoundO P ops o t h n (.tup []) [] n := by
  refine ⟨Nat.le_refl _, fun U ρ Ro w a hb hr ht K Q hK => ?_⟩
  rw [wanted_of ht hw, ext_self] at *
  simp only [Bool.false_eq_true, if_false]
  exact hK undef w ρ Ro (rv_undef _) hr (Ext.refl ..)

theorem SoundO.of {ops : Array Oper} {o : Oper} (hw : wantedA ops t o = some true) (hn : n ≤ n') (hs : Sound P o.op t h n v us n') : SoundO P ops o t h n v us n' := by
  refine ⟨hn, fun U ρ Ro w a hb hr ht K Q hK => ?_⟩
  rw [wanted_of ht hw]
  simp only [if_true]
  obtain ⟨x, w', ρ', Ro', h1, h2, h3, h4⟩ := hs o.type o U ρ Ro w a (fun j hj _ hU => by have := hb j hU; omega) hr ht
  have hk := hK x w' ρ' Ro' h2 h3 h4
  left
  unfold Oper.wp
  rcases h1 with h1 | ⟨h1, rfl⟩
  · rw [h1]; exact hk
  · rw [h1]; exact hk

theorem aeff_le {o : Op} (hv : aeff P o t h n = some (v, us, n')) : n ≤ n' := by
  have hval : ∀ r : Option AV, (r.map fun v => (v, ([] : List (Nat × Option Row)), n)) = some (v, us, n') → n ≤ n' := fun r hr => by
    obtain ⟨_, _, rfl⟩ := val_some hr; exact Nat.le_refl _
  have hmk : ∀ (x : AV) (y : List (Nat × Option Row)) (k : Nat), n ≤ k → some (x, y, k) = some (v, us, n') → n ≤ n' := fun x y k hk he => by
    simp only [Option.some.injEq, Prod.mk.injEq] at he; omega
  unfold aeff at hv
  simp only [aconv, abuiltin, aappend, acopy] at hv
  repeat' (first
    | (cases hv; done)
    | exact hval _ hv
    | exact hmk _ _ _ (Nat.le_refl _) hv
    | exact hmk _ _ _ (Nat.le_succ _) hv
    | split at hv)

theorem SoundO.eff {ops : Array Oper} {o : Oper} (hw : wantedA ops t o = some true) (ho : opOk o.op = true) (hv : aeff P o.op t h n = some (v, us, n')) : SoundO P ops o t h n v us n' :=
  .of hw (aeff_le hv) (aeff_sound ho hv)

theorem run_callFunc {g : FuncId} {fn : Func} {w : World} (hf : P.funcs[g]? = some fn) (hb : fn.body.isSome = true) (hn : fn.name ≠ "runtime.NumGoroutine") (args : Array Value) : (callFunc g args).run P w = .ok (.enter g args) w := by
  unfold callFunc
  simp only [Sem.run_bind, run_program, Result.andThen_ok, hf]
  have h1 : (fn.name == "runtime.NumGoroutine") = false := by simpa using hn
  have h2 : fn.body.isNone = false := by cases hfb : fn.body <;> simp_all
  simp [h1, h2]

theorem SoundO.call {ops : Array Oper} {o : Oper} (hw : wantedA ops t o = some true) (ho : opOk o.op = true) {f : Operand} {args : Array Operand} {Ts : Array TypeId} (hop : o.op = .call { callee := .value f, args := args, argTypes := Ts })
    {g : FuncId} {first cap : List AV} (hf : aev t f = .fn (.func g) first cap) (hc : DCalls P g (first ++ args.toList.map (aev t) ++ cap) h n v us n') : SoundO P ops o t h n v us n' := by
  obtain ⟨⟨fn, hfn, hbody, hname⟩, hn, hcalls⟩ := hc
  refine ⟨hn, fun U ρ Ro w a hb hr ht K Q hK => ?_⟩
  rw [wanted_of ht hw]
  simp only [if_true]
  left
  have hx : ∀ x ∈ o.op.operands.toList, okX x = true := fun x hm => okX1 ho hm
  rw [hop] at hx
  have hrf := rv_ev ht (hx f (by simp [Op.operands, Call.operands]))
  rw [hf] at hrf
  obtain ⟨fv, cv, hfv, hfr, hcr⟩ := hrf.inv_fn
  have hargs := rvs_map ht (x := args.toList) (fun y hy => hx y (by simp [Op.operands, Call.operands]; exact .inr (by simpa using hy)))
  have hall := (hfr.append hargs).append hcr
  have hrun : (execOp a.eval o).run P w = .ok (.enter g (fv ++ args.map a.eval ++ cv)) w := by
    simp only [execOp, hop, resolve, hfv, Deferred.ofValue, Sem.run_bind, Sem.run_pure, Result.andThen_ok, invoke]
    exact run_callFunc hfn hbody hname _
  unfold Oper.wp
  rw [hrun, Oper.upon_enter]
  have hcall := hcalls U ρ Ro w _ hb hr hall
  have hlist : (fv.toList ++ args.toList.map a.eval ++ cv.toList).toArray = fv ++ args.map a.eval ++ cv := by
    apply Array.ext'; simp
  rw [hlist] at hcall
  refine hcall.mono ?_
  rintro e w' ⟨x, ρ', Ro', rfl, h1, h2, h3⟩
  exact hK x w' ρ' Ro' h2 h1 h3

/-- A function for which the model stands in, and that looks at no memory. -/
def XCalls (P : Program) (g : FuncId) (args : List AV) (r : AV) : Prop := ∀ (C : Cx) (w : World) (xs : List Value), RVs C args xs → ∃ x, (callFunc g xs.toArray).run P w = .ok (.value x) w ∧ RV C r x
theorem call_runX {o : Oper} (ho : opOk o.op = true) {f : Operand} {args : Array Operand} {Ts : Array TypeId} (hop : o.op = .call { callee := .value f, args := args, argTypes := Ts }) {g : FuncId} {first cap : List AV} (hf : aev t f = .fn (.func g) first cap)
    (hc : XCalls P g (first ++ args.toList.map (aev t) ++ cap) v) {C : Cx} {a : Act} {w : World} (ht : RelT C t a) : ∃ x, (execOp a.eval o).run P w = .ok (.value x) w ∧ RV C v x := by
  have hx : ∀ x ∈ o.op.operands.toList, okX x = true := fun x hm => okX1 ho hm
  rw [hop] at hx
  have hrf := rv_ev ht (hx f (by simp [Op.operands, Call.operands]))
  rw [hf] at hrf
  obtain ⟨fv, cv, hfv, hfr, hcr⟩ := hrf.inv_fn
  have hargs := rvs_map ht (x := args.toList) (fun y hy => hx y (by simp [Op.operands, Call.operands]; exact .inr (by simpa using hy)))
  have hall := (hfr.append hargs).append hcr
  obtain ⟨x, h1, h2⟩ := hc C w _ hall
  have hlist : (fv.toList ++ args.toList.map a.eval ++ cv.toList).toArray = fv ++ args.map a.eval ++ cv := by
    apply Array.ext'; simp
  rw [hlist] at h1
  refine ⟨x, ?_, h2⟩
  simp only [execOp, hop, resolve, hfv, Deferred.ofValue, Sem.run_bind, Sem.run_pure, Result.andThen_ok, invoke]
  exact h1
theorem SoundO.ecall {ops : Array Oper} {o : Oper} (hw : wantedA ops t o = some true) (ho : opOk o.op = true) {f : Operand} {args : Array Operand} {Ts : Array TypeId} (hop : o.op = .call { callee := .value f, args := args, argTypes := Ts })
    {g : FuncId} {first cap : List AV} (hf : aev t f = .fn (.func g) first cap) (hc : XCalls P g (first ++ args.toList.map (aev t) ++ cap) v) : SoundO P ops o t h n v [] n := by
  refine ⟨Nat.le_refl _, fun U ρ Ro w a hb hr ht K Q hK => ?_⟩
  rw [wanted_of ht hw]
  simp only [if_true]
  left
  obtain ⟨x, h1, h2⟩ := call_runX (w := w) ho hop hf hc ht
  unfold Oper.wp
  rw [h1]
  exact hK x w ρ Ro (by rw [ext_self]; exact h2) (by rw [ext_self]; exact hr) (by rw [ext_self]; exact Ext.refl ..)

/-! ### states -/
structure St (N : Nat) (U : Nat → Prop) (n : Nat) (ρ : Nat → Nat) (Ro : Nat → Prop) (h : Heap) (w : World) (t : Tmps) (a : Act) : Prop where
  bd : ∀ j, U j → j < n
  rel : Rel U ρ Ro h w
  tm : RelT (cx U ρ Ro w) t a
  sz : a.tmps.size = N
  df : a.defers = []

theorem ext_bd {U : Nat → Prop} (h : ∀ j, U j → j < n) (hn : n ≤ n') : ∀ j, ext U n n' j → j < n' := fun j hj => by
  rcases hj with hj | hj
  · have := h j hj; omega
  · exact hj.2

def dstOk (N : Nat) (o : Oper) : Bool := match o.dst with | some d => decide (d < N) | none => true
theorem dstOk_lt {o : Oper} (hd : dstOk N o = true) : ∀ k, o.dst = some k → k < N := fun k hk => by
  unfold dstOk at hd; rw [hk] at hd; simpa using hd

/-- What is behind. -/
def Post (N : Nat) (U : Nat → Prop) (ρ : Nat → Nat) (Ro : Nat → Prop) (h : Heap) (w : World) (n : Nat) (Q : Exit → Tmps → Heap → Nat → Prop) : Exit → Act → World → Prop := fun e a' w' =>
  ∃ t' h' n' ρ' Ro', n ≤ n' ∧ St N (ext U n n') n' ρ' Ro' h' w' t' a' ∧ Ext U ρ Ro h w (ext U n n') ρ' Ro' h' w' ∧ Q e t' h' n'

def opsOk (N : Nat) (ops : Array Oper) : Bool := ops.all fun o => opOk o.op && dstOk N o
theorem opsOk_at {ops : Array Oper} (ho : opsOk N ops = true) {k : Nat} {o : Oper} (hk : ops[k]? = some o) : opOk o.op = true ∧ dstOk N o = true := by
  unfold opsOk at ho
  rw [Array.all_eq_true_iff_forall_mem] at ho
  have := ho o (Array.mem_of_getElem? hk)
  simpa using this

/-- A region's operations from number k on. -/
def RW (P : Program) (N : Nat) (ops : Array Oper) (k : Nat) (t : Tmps) (h : Heap) (n : Nat) (Q : Tmps → Heap → Nat → Prop) : Prop :=
  opsOk N ops = true → ∀ U ρ Ro w a, St N U n ρ Ro h w t a → ∀ Qc : Exit → Act → World → Prop,
    (∀ t' h' n' ρ' Ro' a' w', n ≤ n' → St N (ext U n n') n' ρ' Ro' h' w' t' a' → Ext U ρ Ro h w (ext U n n') ρ' Ro' h' w' → Q t' h' n' → Qc .normal a' w') → wpList P ops Qc (ops.toList.drop k) a w

theorem RW.end_ {ops : Array Oper} {k : Nat} {Q : Tmps → Heap → Nat → Prop} (hk : ops[k]? = none) (hq : Q t h n) : RW P N ops k t h n Q := by
  intro ho U ρ Ro w a hst Qc hQ
  have : ops.toList.drop k = [] := List.drop_eq_nil_iff.2 (by rw [Array.length_toList]; exact Array.getElem?_eq_none_iff.1 hk)
  rw [this]
  exact hQ t h n ρ Ro a w (Nat.le_refl _) (by rw [ext_self]; exact hst) (by rw [ext_self]; exact Ext.refl ..) hq

theorem RW.step {ops : Array Oper} {k : Nat} {Q : Tmps → Heap → Nat → Prop} {o : Oper} (hk : ops[k]? = some o) (hs : opOk o.op = true → SoundO P ops o t h n v us n') (hr : RW P N ops (k + 1) (put t o.dst v) (app us h) n' Q) : RW P N ops k t h n Q := by
  intro ho U ρ Ro w a hst Qc hQ
  obtain ⟨h1, h2⟩ := opsOk_at ho hk
  obtain ⟨hn, hso⟩ := hs h1
  have hd : ops.toList.drop k = o :: ops.toList.drop (k + 1) := by
    rw [List.drop_eq_getElem_cons (by rw [Array.length_toList]; exact (Array.getElem?_eq_some_iff.1 hk).1)]
    congr 1
    have := (Array.getElem?_eq_some_iff.1 hk).2
    simpa using this
  rw [hd]
  refine hso U ρ Ro w a hst.bd hst.rel hst.tm _ _ (fun x w' ρ' Ro' hv hrel hext => ?_)
  have hle := hext.cx hst.rel
  have hst' : St N (ext U n n') n' ρ' Ro' (app us h) w' (put t o.dst v) (a.put o.dst x) :=
    ⟨ext_bd hst.bd hn, hrel, (hst.tm.mono hle).put (fun k hk => by rw [hst.sz]; exact dstOk_lt h2 k hk) hv,
     by rw [← hst.sz]; cases o.dst <;> simp [Act.put], by rw [← hst.df]; cases o.dst <;> rfl⟩
  refine hr ho _ ρ' Ro' w' _ hst' Qc (fun t' h' n'' ρ'' Ro'' a' w'' hn' hst'' hext' hq => ?_)
  rw [ext_ext _ hn hn'] at hst'' hext'
  exact hQ t' h' n'' ρ'' Ro'' a' w'' (Nat.le_trans hn hn') hst'' (hext.trans hext') hq

/-! ### code -/
def thenQ (K : Tmps → Heap → Nat → Prop) (Q : Exit → Tmps → Heap → Nat → Prop) : Exit → Tmps → Heap → Nat → Prop := fun e t h n => match e with
  | .normal => K t h n
  | e => Q e t h n
def inBlockQ (id : Nat) (Q : Exit → Tmps → Heap → Nat → Prop) : Exit → Tmps → Heap → Nat → Prop := fun e t h n => match e with
  | .exit id' => if id' = id then Q .normal t h n else Q (.exit id') t h n
  | e => Q e t h n

def codeOk (N : Nat) (draw : Array Oper → Bool) : Code → Bool
  | .skip | .ret | .exit _ => true
  | .region _ ops d => opsOk N ops && (!d || draw ops)
  | .seq a b => codeOk N draw a && codeOk N draw b
  | .cond c a b => okX c && codeOk N draw a && codeOk N draw b
  | .block _ c | .loop c => codeOk N draw c
  | _ => false

end Go.Av
end

section
namespace Go.Av

variable {P : Program} {N : Nat} {n n' : Nat} {h : Heap} {t : Tmps} {v : AV} {us : List (Nat × Option Row)}

/-! ### an operation hangs on its operands alone -/
theorem abuiltin_congr {b : Builtin} {args : List Operand} {Ts : List TypeId} {t' : Tmps} (hx : ∀ x ∈ args, aev t x = aev t' x) : abuiltin P b args Ts t h n = abuiltin P b args Ts t' h n := by
  unfold abuiltin
  split <;> simp_all

theorem aeff_congr {o : Op} {t' : Tmps} (hx : ∀ x ∈ o.operands.toList, aev t x = aev t' x) : aeff P o t h n = aeff P o t' h n := by
  have pairs : ∀ ps : Array (Nat × Operand), (∀ p ∈ ps.toList, aev t p.2 = aev t' p.2) → (ps.toList.map fun (p : Nat × Operand) => (p.1, aev t p.2)) = (ps.toList.map fun (p : Nat × Operand) => (p.1, aev t' p.2)) ∧
      (ps.toList.all fun (p : Nat × Operand) => (aev t p.2).boxable) = (ps.toList.all fun (p : Nat × Operand) => (aev t' p.2).boxable) := fun ps hp =>
    ⟨List.map_congr_left fun p hm => by rw [hp p hm], by
      rw [Bool.eq_iff_iff, List.all_eq_true, List.all_eq_true]
      constructor <;> intro hh p hm <;> have := hh p hm
      · rwa [hp p hm] at this
      · rwa [hp p hm]⟩
  cases o <;> simp only [Op.operands] at hx <;> simp only [aeff]
  case build T ps =>
    have hp := pairs ps (fun p hm => hx p.2 (by simp; exact ⟨p.1, by simpa using hm⟩))
    simp only [hp.1, hp.2]
  case buildSlice T len ps =>
    have hp := pairs ps (fun p hm => hx p.2 (by simp; exact ⟨p.1, by simpa using hm⟩))
    simp only [hp.1, hp.2]
  case makeFunc f first cap =>
    have h1 : first.toList.map (aev t) = first.toList.map (aev t') := List.map_congr_left fun x hm => hx x (by simp; exact .inl (by simpa using hm))
    have h2 : cap.toList.map (aev t) = cap.toList.map (aev t') := List.map_congr_left fun x hm => hx x (by simp; exact .inr (by simpa using hm))
    rw [h1, h2]
  case slice T x lo hi mx =>
    cases mx with
    | none => cases lo <;> cases hi <;> simp_all
    | some m => rfl
  case call c =>
    obtain ⟨callee, args, Ts⟩ := c
    cases callee with
    | builtin b =>
      simp only
      exact abuiltin_congr (fun x hm => hx x (by simpa [Call.operands] using hm))
    | _ => rfl
  case next x b => cases b <;> simp_all
  all_goals (first | rfl | (simp_all; done))

/-- It does not look at the heap. -/
def isVal (P : Program) : Op → Bool
  | .move _ | .assign _ | .pick .. | .fieldAddr .. | .field .. | .binOp .. | .unOp .. | .makeInterface .. | .makeFunc .. | .extract .. | .indexAddr .. | .index .. | .nilCheck _ | .typeAssert .. => true
  | .call { callee := .builtin .len, .. } | .call { callee := .builtin .max, .. } | .call { callee := .builtin .min, .. } => true
  | .convert _ d _ => match kiT P d with | some (.int _) => true | _ => false
  | _ => false

/-- Nor does a load of what is read-only; where it stands so in W (its number and 1000) it is told without the heap. -/
def isLd : Op → Bool
  | .load .. | .slice .. | .sliceToArrayPointer .. | .build .. => true
  | _ => false
def isV (P : Program) (W : List Nat) (i : Nat) (op : Op) : Bool := isVal P op || (W.contains (i + 1000) && isLd op)

def noHeap : Heap := fun _ => none

/-- One operation of a region, at a time when numbers beyond its own are used already. -/
def SoundW (P : Program) (ops : Array Oper) (o : Oper) (t : Tmps) (h : Heap) (n : Nat) (v : AV) (us : List (Nat × Option Row)) (n' : Nat) : Prop :=
  n ≤ n' ∧ ∀ U ρ Ro w a, (∀ j, n ≤ j → j < n' → ¬ U j) → (∃ b, ∀ j, U j → j < b) → Rel U ρ Ro h w → RelT (cx U ρ Ro w) t a → ∀ (K : Act → World → Prop) (Q : Exit → Act → World → Prop),
    (∀ x w' ρ' Ro', RV (cx (Av.ext U n n') ρ' Ro' w') v x → Rel (Av.ext U n n') ρ' Ro' (app us h) w' → Ext U ρ Ro h w (Av.ext U n n') ρ' Ro' (app us h) w' → K (a.put o.dst x) w') →
    (if Region.wanted o (yielded ops a.tmps) then o.wp P a w K Q ∨ (o.asks P a w ∧ LetsOut Q) else K (a.put o.dst undef) w)

theorem SoundW.skip {ops : Array Oper} {o : Oper} (hw : wantedA ops t o = some false) : SoundW P ops o t h n (.tup []) [] n := by
  refine ⟨Nat.le_refl _, fun U ρ Ro w a _ _ hr ht K Q hK => ?_⟩
  rw [wanted_of ht hw, ext_self] at *
  simp only [Bool.false_eq_true, if_false]
  exact hK undef w ρ Ro (rv_undef _) hr (Ext.refl ..)

theorem SoundW.eff {ops : Array Oper} {o : Oper} (hw : wantedA ops t o = some true) (ho : opOk o.op = true) (hv : aeff P o.op t h n = some (v, us, n')) : SoundW P ops o t h n v us n' := by
  refine ⟨aeff_le hv, fun U ρ Ro w a hb _ hr ht K Q hK => ?_⟩
  rw [wanted_of ht hw]
  simp only [if_true]
  obtain ⟨x, w', ρ', Ro', h1, h2, h3, h4⟩ := aeff_sound ho hv o.type o U ρ Ro w a hb hr ht
  have hk := hK x w' ρ' Ro' h2 h3 h4
  left
  unfold Oper.wp
  rcases h1 with h1 | ⟨h1, rfl⟩
  · rw [h1]; exact hk
  · rw [h1]; exact hk

/-! ### values that name no row of one's own -/
mutual
def AV.free : AV → Bool
  | .p _ _ | .sl _ _ _ _ => false
  | .q cs _ | .ro _ cs _ | .agg cs | .tup cs => freeAll cs
  | .fn _ a b => freeAll a && freeAll b
  | .ifc _ x => x.free
  | _ => true
def freeAll : List AV → Bool
  | [] => true
  | x :: xs => x.free && freeAll xs
end
theorem freeAll_get : ∀ {cs : List AV}, freeAll cs = true → ∀ (k : Nat) (x : AV), cs[k]? = some x → x.free = true
  | [], _, k, x, hx => by simp at hx
  | y :: cs, hf, k, x, hx => by
    simp only [freeAll, Bool.and_eq_true] at hf
    cases k with
    | zero => simp at hx; subst hx; exact hf.1
    | succ k => exact freeAll_get hf.2 k x (by simpa using hx)

theorem RV.free {C D : Cx} {x : AV} {v : Value} (h : RV C x v) (hf : x.free = true) (hM : ∀ a v, C.M a v → D.M a v) : RV D x v := by
  induction h with
  | b x => exact .b x
  | i k m => exact .i k m
  | s x => exact .s x
  | np => exact .np
  | p j off hj => simp [AV.free] at hf
  | q cs off a vs h1 hm _ ih => exact .q cs off a vs h1 (fun k x hx => hM _ _ (hm k x hx)) (fun k x hx => ih k x hx (freeAll_get (by simpa [AV.free] using hf) k x hx))
  | sl sz j off len cap hj hl hc hz => simp [AV.free] at hf
  | ron => exact .ron
  | ro cs len a cap vs hl hc h1 hm _ ih => exact .ro cs len a cap vs hl hc h1 (fun k x hx => hM _ _ (hm k x hx)) (fun k x hx => ih k x hx (freeAll_get (by simpa [AV.free] using hf) k x hx))
  | nf => exact .nf
  | fn f first cap vs us h1 h2 _ _ ih1 ih2 =>
    simp only [AV.free, Bool.and_eq_true] at hf
    exact .fn f first cap vs us h1 h2 (fun k x v hx hv => ih1 k x v hx hv (freeAll_get hf.1 k x hx)) (fun k x v hx hv => ih2 k x v hx hv (freeAll_get hf.2 k x hx))
  | ni => exact .ni
  | ifc t x v _ ih => exact .ifc t x v (ih (by simpa [AV.free] using hf))
  | agg cs vs h1 h2 _ ih => exact .agg cs vs h1 h2 (fun k x v hx hv => ih k x v hx hv (freeAll_get (by simpa [AV.free] using hf) k x hx))
  | tup cs vs h1 _ ih => exact .tup cs vs h1 (fun k x v hx hv => ih k x v hx hv (freeAll_get (by simpa [AV.free] using hf) k x hx))

/-- A function that comes back with a value alone, whatever rows there are. -/
def PCalls (P : Program) (f : FuncId) (args : List AV) (r : AV) : Prop := ∀ h n, DCalls P f args h n r [] n

theorem call_run {o : Oper} (ho : opOk o.op = true) {f : Operand} {args : Array Operand} {Ts : Array TypeId} (hop : o.op = .call { callee := .value f, args := args, argTypes := Ts }) {g : FuncId} {first cap : List AV} (hf : aev t f = .fn (.func g) first cap)
    (hfn : ∃ fn, P.funcs[g]? = some fn ∧ fn.body.isSome = true ∧ fn.name ≠ "runtime.NumGoroutine") {C : Cx} {a : Act} {w : World} (ht : RelT C t a) :
    ∃ xs : List Value, (execOp a.eval o).run P w = .ok (.enter g xs.toArray) w ∧ RVs C (first ++ args.toList.map (aev t) ++ cap) xs := by
  obtain ⟨fn, hfn, hbody, hname⟩ := hfn
  have hx : ∀ x ∈ o.op.operands.toList, okX x = true := fun x hm => okX1 ho hm
  rw [hop] at hx
  have hrf := rv_ev ht (hx f (by simp [Op.operands, Call.operands]))
  rw [hf] at hrf
  obtain ⟨fv, cv, hfv, hfr, hcr⟩ := hrf.inv_fn
  have hargs := rvs_map ht (x := args.toList) (fun y hy => hx y (by simp [Op.operands, Call.operands]; exact .inr (by simpa using hy)))
  have hall := (hfr.append hargs).append hcr
  refine ⟨_, ?_, hall⟩
  have hlist : (fv.toList ++ args.toList.map a.eval ++ cv.toList).toArray = fv ++ args.map a.eval ++ cv := by
    apply Array.ext'; simp
  rw [hlist]
  simp only [execOp, hop, resolve, hfv, Deferred.ofValue, Sem.run_bind, Sem.run_pure, Result.andThen_ok, invoke]
  exact run_callFunc hfn hbody hname _

theorem SoundW.pcall {ops : Array Oper} {o : Oper} (hw : wantedA ops t o = some true) (ho : opOk o.op = true) {f : Operand} {args : Array Operand} {Ts : Array TypeId} (hop : o.op = .call { callee := .value f, args := args, argTypes := Ts })
    {g : FuncId} {first cap : List AV} (hf : aev t f = .fn (.func g) first cap) (hc : ∀ m, DCalls P g (first ++ args.toList.map (aev t) ++ cap) h m v [] m) : SoundW P ops o t h n v [] n := by
  refine ⟨Nat.le_refl _, fun U ρ Ro w a _ hbd hr ht K Q hK => ?_⟩
  rw [wanted_of ht hw]
  simp only [if_true]
  left
  obtain ⟨b, hb⟩ := hbd
  obtain ⟨hfn, _, hcalls⟩ := hc b
  obtain ⟨xs, hrun, hall⟩ := call_run (w := w) ho hop hf hfn ht
  unfold Oper.wp
  rw [hrun, Oper.upon_enter]
  refine (hcalls U ρ Ro w xs hb hr hall).mono ?_
  rintro e w' ⟨x, ρ', Ro', rfl, h1, h2, h3⟩
  rw [ext_self] at h1 h2 h3
  exact hK x w' ρ' Ro' (by rw [ext_self]; exact h2) (by rw [ext_self]; exact h1) (by rw [ext_self]; exact h3)

theorem SoundW.ecall {ops : Array Oper} {o : Oper} (hw : wantedA ops t o = some true) (ho : opOk o.op = true) {f : Operand} {args : Array Operand} {Ts : Array TypeId} (hop : o.op = .call { callee := .value f, args := args, argTypes := Ts })
    {g : FuncId} {first cap : List AV} (hf : aev t f = .fn (.func g) first cap) (hc : XCalls P g (first ++ args.toList.map (aev t) ++ cap) v) : SoundW P ops o t h n v [] n := by
  refine ⟨Nat.le_refl _, fun U ρ Ro w a _ hbd hr ht K Q hK => ?_⟩
  rw [wanted_of ht hw]
  simp only [if_true]
  left
  obtain ⟨x, h1, h2⟩ := call_runX (w := w) ho hop hf hc ht
  unfold Oper.wp
  rw [h1]
  exact hK x w ρ Ro (by rw [ext_self]; exact h2) (by rw [ext_self]; exact hr) (by rw [ext_self]; exact Ext.refl ..)

/-- The numbers that a value names are known from one world; so they are in another. -/
theorem RV.narrow {C : Cx} {x : AV} {v : Value} (h : RV C x v) : ∀ {D : Cx} {v' : Value}, RV D x v' → RV { D with U := C.U } x v' := by
  induction h with
  | b x => intro D v' h'; cases h'; exact .b x
  | i k m => intro D v' h'; cases h'; exact .i k m
  | s x => intro D v' h'; cases h'; exact .s x
  | np => intro D v' h'; cases h'; exact .np
  | p j off hj => intro D v' h'; cases h'; exact .p (C := { D with U := C.U }) j off hj
  | q cs off a vs h1 hm _ ih =>
    intro D v' h'
    obtain ⟨b, us, rfl, g1, g2, g3⟩ := h'.inv_q
    exact .q (C := { D with U := C.U }) cs off b us g1 g2 (fun k x hx => ih k x hx (g3 k x hx))
  | sl sz j off len cap hj hl hc hz =>
    intro D v' h'
    obtain ⟨cap', rfl, _, g1, g2, g3⟩ := h'.inv_sl
    exact .sl (C := { D with U := C.U }) sz j off len cap' hj g1 g2 g3
  | ron => intro D v' h'; cases h'; exact .ron
  | ro cs len a cap vs hl hc h1 hm _ ih =>
    intro D v' h'
    obtain ⟨b, cap', us, rfl, g1, g2, g3, g4, g5⟩ := h'.inv_ro0
    exact .ro (C := { D with U := C.U }) cs len b cap' us g1 g2 g3 g4 (fun k x hx => ih k x hx (g5 k x hx))
  | nf => intro D v' h'; cases h'; exact .nf
  | fn f first cap vs us h1 h2 _ _ ih1 ih2 =>
    intro D v' h'
    obtain ⟨vs', us', rfl, g1, g2⟩ := h'.inv_fn
    refine .fn (C := { D with U := C.U }) f first cap vs' us' (by simpa using g1.1) (by simpa using g2.1) (fun k x v hx hv => ?_) (fun k x v hx hv => ?_)
    · have hlt : k < vs.size := by
        rw [h1]
        rcases Nat.lt_or_ge k first.length with h' | h'
        · exact h'
        · rw [List.getElem?_eq_none h'] at hx; cases hx
      exact ih1 k x _ hx (Array.getElem?_eq_getElem hlt) (g1.2 k x v hx (by simpa using hv))
    · have hlt : k < us.size := by
        rw [h2]
        rcases Nat.lt_or_ge k cap.length with h' | h'
        · exact h'
        · rw [List.getElem?_eq_none h'] at hx; cases hx
      exact ih2 k x _ hx (Array.getElem?_eq_getElem hlt) (g2.2 k x v hx (by simpa using hv))
  | ni => intro D v' h'; cases h'; exact .ni
  | ifc t x v _ ih =>
    intro D v' h'
    obtain ⟨y, rfl, hy⟩ := h'.inv_ifc
    exact .ifc (C := { D with U := C.U }) t x y (ih hy)
  | agg cs vs h1 h2 _ ih =>
    intro D v' h'
    obtain ⟨us, rfl, g1, g2, g3⟩ := h'.inv_agg
    refine .agg (C := { D with U := C.U }) cs us g1 g2 (fun k x v hx hv => ?_)
    have hlt : k < vs.size := by
      rw [h1]
      rcases Nat.lt_or_ge k cs.length with h' | h'
      · exact h'
      · rw [List.getElem?_eq_none h'] at hx; cases hx
    exact ih k x _ hx (Array.getElem?_eq_getElem hlt) (g3 k x v hx hv)
  | tup cs vs h1 _ ih =>
    intro D v' h'
    obtain ⟨us, rfl, g1, g3⟩ := h'.inv_tup
    refine .tup (C := { D with U := C.U }) cs us g1 (fun k x v hx hv => ?_)
    have hlt : k < vs.size := by
      rw [h1]
      rcases Nat.lt_or_ge k cs.length with h' | h'
      · exact h'
      · rw [List.getElem?_eq_none h'] at hx; cases hx
    exact ih k x _ hx (Array.getElem?_eq_getElem hlt) (g3 k x v hx hv)

theorem SoundW.fcall {ops : Array Oper} {o : Oper} (hw : wantedA ops t o = some true) (ho : opOk o.op = true) {f : Operand} {args : Array Operand} {Ts : Array TypeId} (hop : o.op = .call { callee := .value f, args := args, argTypes := Ts })
    {g : FuncId} {first cap : List AV} (hf : aev t f = .fn (.func g) first cap) {sz len : Nat} {cs : List AV} (hfree : freeAll cs = true)
    (hc : ∀ m, DCalls P g (first ++ args.toList.map (aev t) ++ cap) h m (.sl sz m 0 len) [(m, some (.cells cs))] (m + 1)) : SoundW P ops o t h n (.sl sz n 0 len) [(n, some (.cells cs))] (n + 1) := by
  refine ⟨Nat.le_succ _, fun U ρ Ro w a hnU hbd hr ht K Q hK => ?_⟩
  rw [wanted_of ht hw]
  simp only [if_true]
  left
  obtain ⟨b0, hb0⟩ := hbd
  have hnn : ¬ U n := hnU n (Nat.le_refl _) (Nat.lt_succ_self _)
  obtain ⟨hfn, _, hcalls⟩ := hc (max b0 (n + 1))
  generalize hbe : max b0 (n + 1) = b at hcalls
  have hb : ∀ j, U j → j < b := fun j hj => by have := hb0 j hj; omega
  have hbU : ¬ U b := fun hU => by have := hb b hU; omega
  have hbn : b ≠ n := by omega
  obtain ⟨xs, hrun, hall⟩ := call_run (w := w) ho hop hf hfn ht
  unfold Oper.wp
  rw [hrun, Oper.upon_enter]
  refine (hcalls U ρ Ro w xs hb hr hall).mono ?_
  rintro e w' ⟨x, ρ', Ro', rfl, h1, h2, h3⟩
  rw [ext_succ] at h1 h2 h3
  have happ : app [(b, some (Row.cells cs))] h = upd h b (some (.cells cs)) := rfl
  have happ' : app [(n, some (Row.cells cs))] h = upd h n (some (.cells cs)) := rfl
  rw [happ] at h1 h3
  have hneb : ∀ j, U j → j ≠ b := fun j hj e => hbU (e ▸ hj)
  have hnen : ∀ j, U j → j ≠ n := fun j hj e => hnn (e ▸ hj)
  -- the new map of numbers
  have hρ : ∀ j, U j → pin ρ' n (ρ' b) j = ρ j := fun j hj => by rw [pin_ne _ _ (hnen j hj)]; exact h3.rr j hj
  have hext : Ext U ρ Ro h w (ins U n) (pin ρ' n (ρ' b)) Ro' (upd h n (some (.cells cs))) w' := by
    refine ⟨fun j hj => .inl hj, hρ, h3.ro0, h3.ro1, h3.os, h3.tape, h3.output, h3.size, h3.blk, h3.zz, fun j r hj => ?_⟩
    by_cases hjn : j = n
    · subst hjn
      rw [pin_same]
      exact h3.lv b _ (upd_same _ _ _)
    · rw [upd_ne _ _ hjn] at hj
      exact .inr ⟨j, r, hj, by rw [hρ j (hr.lt j r hj)]⟩
  have hle := hext.cx hr
  have hM : ∀ a v, (cx (ins U b) ρ' Ro' w').M a v → (cx (ins U n) (pin ρ' n (ρ' b)) Ro' w').M a v := fun _ _ hm => hm
  have hold : ∀ j r, h j = some r → upd h b (some (Row.cells cs)) j = some r := fun j r hj => by rw [upd_ne _ _ (hneb j (hr.lt j r hj))]; exact hj
  have hrel : Rel (ins U n) (pin ρ' n (ρ' b)) Ro' (upd h n (some (.cells cs))) w' := by
    refine ⟨fun j r hj => ?_, fun j hj => ?_, fun j cs' hj => ?_, fun j s pos hj => ?_, fun i j ri rj hi hj he => ?_, fun j r hj => ?_, h1.rob, h1.gl⟩
    · by_cases hjn : j = n
      · exact .inr hjn
      · rw [upd_ne _ _ hjn] at hj; exact .inl (hr.lt j r hj)
    · by_cases hjn : j = n
      · subst hjn; rw [pin_same]; exact h1.bl b (.inr rfl)
      · rw [pin_ne _ _ hjn]; exact h1.bl j (.inl (hj.resolve_right hjn))
    · by_cases hjn : j = n
      · subst hjn
        rw [upd_same] at hj
        injection hj with hj
        injection hj with hj
        subst hj
        rw [pin_same]
        obtain ⟨c, T, lo, hi, g0, g1, g2, g3, g4⟩ := h1.row b cs (upd_same _ _ _)
        exact ⟨c, T, lo, hi, g0, g1, g2, g3, fun k x v hx hv => (g4 k x v hx hv).free (freeAll_get hfree k x hx) hM⟩
      · rw [upd_ne _ _ hjn] at hj
        rw [pin_ne _ _ hjn]
        obtain ⟨c, T, lo, hi, g0, g1, g2, g3, g4⟩ := h1.row j cs' (hold j _ hj)
        obtain ⟨c0, T0, lo0, hi0, k0, k1, k2, k3, k4⟩ := hr.row j cs' hj
        refine ⟨c, T, lo, hi, g0, g1, g2, g3, fun k x v hx hv => ?_⟩
        have hlt : k < c0.size := by
          rcases Nat.lt_or_ge k cs'.length with h' | h'
          · omega
          · rw [List.getElem?_eq_none h'] at hx; cases hx
        have hn := (k4 k x _ hx (Array.getElem?_eq_getElem hlt)).narrow (g4 k x v hx hv)
        have hle2 : ({ cx (ins U b) ρ' Ro' w' with U := U } : Cx).le (cx (ins U n) (pin ρ' n (ρ' b)) Ro' w') :=
          ⟨fun j hj => Or.inl hj, fun j hj => pin_ne _ _ (hnen j hj), fun _ _ hm => hm, fun _ _ => rfl⟩
        exact RV.mono hle2 hn
    · by_cases hjn : j = n
      · subst hjn; rw [upd_same] at hj; cases hj
      · rw [upd_ne _ _ hjn] at hj
        rw [pin_ne _ _ hjn]
        exact h1.iter j s pos (hold j _ hj)
    · by_cases hin : i = n
      · by_cases hjn : j = n
        · omega
        · subst hin
          rw [upd_ne _ _ hjn] at hj
          rw [pin_same, pin_ne _ _ hjn] at he
          exact absurd (h1.inj b j _ _ (upd_same _ _ _) (hold j _ hj) he) (fun e => hneb j (hr.lt j _ hj) e.symm)
      · rw [upd_ne _ _ hin] at hi
        by_cases hjn : j = n
        · subst hjn
          rw [pin_same, pin_ne _ _ hin] at he
          exact absurd (h1.inj i b _ _ (hold i _ hi) (upd_same _ _ _) he) (hneb i (hr.lt i _ hi))
        · rw [upd_ne _ _ hjn] at hj
          rw [pin_ne _ _ hin, pin_ne _ _ hjn] at he
          exact h1.inj i j _ _ (hold i _ hi) (hold j _ hj) he
    · by_cases hjn : j = n
      · subst hjn; rw [pin_same]; exact h1.sep b _ (upd_same _ _ _)
      · rw [upd_ne _ _ hjn] at hj
        rw [pin_ne _ _ hjn]
        exact h1.sep j r (hold j r hj)
  refine hK x w' (pin ρ' n (ρ' b)) Ro' ?_ (by rw [ext_succ]; exact hrel) (by rw [ext_succ]; exact hext)
  rw [ext_succ]
  obtain ⟨cap', hxv, hj, g1, g2, g3⟩ := h2.inv_sl
  subst hxv
  have := RV.sl (C := cx (ins U n) (pin ρ' n (ρ' b)) Ro' w') sz n 0 len cap' (.inr rfl) g1 g2 (by simp only [cx, pin_same]; exact g3)
  simpa [cx, pin_same] using this

end Go.Av
end

section
namespace Go.Av

variable {P : Program} {N : Nat}

/-! ### rows that a step does not see stay -/
theorem Rel.frame {U U' : Nat → Prop} {ρ ρ' : Nat → Nat} {Ro Ro' : Nat → Prop} {hS view g : Heap} {w w' : World} (hr : Rel U ρ Ro hS w) (hv : ∀ j r, view j = some r → hS j = some r)
    (e : Ext U ρ Ro view w U' ρ' Ro' g w') (hg : Rel U' ρ' Ro' g w') (mg : Heap) (hm : ∀ x, mg x = g x ∨ (view x = none ∧ g x = none ∧ mg x = hS x)) :
    Rel U' ρ' Ro' mg w' ∧ Ext U ρ Ro hS w U' ρ' Ro' mg w' := by
  have hrv := hr.less hv
  have hle := e.cx hrv
  -- a row that is not seen
  have key : ∀ x r, mg x = some r → g x = some r ∨ (hS x = some r ∧ view x = none ∧ g x = none) := fun x r hx => by
    rcases hm x with h1 | ⟨h1, h2, h3⟩
    · exact .inl (h1 ▸ hx)
    · exact .inr ⟨h3 ▸ hx, h1, h2⟩
  have hρ : ∀ x r, hS x = some r → ρ' x = ρ x := fun x r hx => e.rr x (hr.lt x r hx)
  have hblk : ∀ x r, hS x = some r → view x = none → w'.heap[ρ x]? = w.heap[ρ x]? := fun x r hx hv0 =>
    e.blk _ (hr.bl x (hr.lt x r hx)) (fun j rj hj he => by
      have := hr.inj j x rj r (hv j rj hj) hx he
      subst this
      rw [hv0] at hj; cases hj)
  have hnew : ∀ x r y ry, hS x = some r → view x = none → g y = some ry → ρ' y ≠ ρ x := fun x r y ry hx hv0 hy he => by
    rcases e.lv y ry hy with h1 | ⟨i, ri, hi, h1⟩
    · have := hr.bl x (hr.lt x r hx); omega
    · have := hr.inj i x ri r (hv i ri hi) hx (h1.trans he)
      subst this
      rw [hv0] at hi; cases hi
  refine ⟨⟨fun j r hj => ?_, hg.bl, fun j cs hj => ?_, fun j s pos hj => ?_, fun i j ri rj hi hj he => ?_, fun j r hj => ?_, hg.rob, hg.gl⟩, ?_⟩
  · rcases key j r hj with h1 | ⟨h1, _⟩
    · exact hg.lt j r h1
    · exact e.nn j (hr.lt j r h1)
  · rcases key j _ hj with h1 | ⟨h1, h2, _⟩
    · exact hg.row j cs h1
    · obtain ⟨c, T, lo, hi, g0, g1, g2, g3, g4⟩ := hr.row j cs h1
      rw [hρ j _ h1, hblk j _ h1 h2]
      exact ⟨c, T, lo, hi, g0, g1, g2, g3, fun k x v hx hv => (g4 k x v hx hv).mono hle⟩
  · rcases key j _ hj with h1 | ⟨h1, h2, _⟩
    · exact hg.iter j s pos h1
    · rw [hρ j _ h1, hblk j _ h1 h2]
      exact hr.iter j s pos h1
  · rcases key i ri hi with h1 | ⟨h1, h2, h3⟩
    · rcases key j rj hj with k1 | ⟨k1, k2, k3⟩
      · exact hg.inj i j ri rj h1 k1 he
      · rw [hρ j _ k1] at he
        exact absurd he (hnew j rj i ri k1 k2 h1)
    · rcases key j rj hj with k1 | ⟨k1, k2, k3⟩
      · rw [hρ i _ h1] at he
        exact absurd he.symm (hnew i ri j rj h1 h2 k1)
      · rw [hρ i _ h1, hρ j _ k1] at he
        exact hr.inj i j ri rj h1 k1 he
  · rcases key j r hj with h1 | ⟨h1, h2, _⟩
    · exact hg.sep j r h1
    · rw [hρ j _ h1]
      intro hro
      rcases e.ro1 _ hro with h3 | h3 | ⟨i, ri, hi, h3⟩
      · exact hr.sep j r h1 h3
      · have := hr.bl j (hr.lt j r h1); omega
      · have := hr.inj i j ri r (hv i ri hi) h1 h3
        subst this
        rw [h2] at hi; cases hi
  · refine ⟨e.nn, e.rr, e.ro0, fun b hb => ?_, e.os, e.tape, e.output, e.size, fun b hb hn => e.blk b hb (fun j r hj => hn j r (hv j r hj)), e.zz, fun j r hj => ?_⟩
    · rcases e.ro1 b hb with h1 | h1 | ⟨j, r, hj, h1⟩
      · exact .inl h1
      · exact .inr (.inl h1)
      · exact .inr (.inr ⟨j, r, hv j r hj, h1⟩)
    · rcases key j r hj with h1 | ⟨h1, _⟩
      · rcases e.lv j r h1 with h2 | ⟨i, ri, hi, h2⟩
        · exact .inl h2
        · exact .inr ⟨i, ri, hv i ri hi, h2⟩
      · exact .inr ⟨j, r, h1, (hρ j r h1).symm⟩

/-! ### what has come up so far -/
def touch (us : List (Nat × Option Row)) (x : Nat) : Prop := ∃ u ∈ us, u.1 = x

theorem app_untouched : ∀ {us : List (Nat × Option Row)} {x : Nat} (g : Heap), ¬ touch us x → app us g x = g x
  | [], x, g, _ => rfl
  | u :: us, x, g, hn => by
    rw [app_cons, app_untouched _ (fun ⟨v, hv, he⟩ => hn ⟨v, by simp [hv], he⟩), upd_ne]
    exact fun e => hn ⟨u, by simp, e.symm⟩
theorem app_touched : ∀ {us : List (Nat × Option Row)} {x : Nat} (g g' : Heap), touch us x → app us g x = app us g' x
  | [], x, g, g', ⟨u, hu, _⟩ => by cases hu
  | u :: us, x, g, g', ht => by
    rw [app_cons, app_cons]
    by_cases hr : touch us x
    · exact app_touched _ _ hr
    · rw [app_untouched _ hr, app_untouched _ hr]
      obtain ⟨v, hv, he⟩ := ht
      rcases List.mem_cons.1 hv with rfl | hv
      · subst he; rw [upd_same, upd_same]
      · exact absurd ⟨v, hv, he⟩ hr
theorem app_at {us : List (Nat × Option Row)} {x : Nat} {g g' : Heap} (h : g x = g' x) : app us g x = app us g' x := by
  by_cases ht : touch us x
  · exact app_touched _ _ ht
  · rw [app_untouched _ ht, app_untouched _ ht, h]

def hp (Us : Nat → List (Nat × Option Row)) (h0 : Heap) (S : Nat → Bool) : Nat → Heap
  | 0 => h0
  | j + 1 => if S j then app (Us j) (hp Us h0 S j) else hp Us h0 S j
def tp (ops : Array Oper) (V : Nat → AV) (t0 : Tmps) (S : Nat → Bool) : Nat → Tmps
  | 0 => t0
  | j + 1 => if S j then put (tp ops V t0 S j) ((ops[j]?).bind (·.dst)) (V j) else tp ops V t0 S j

variable {Us : Nat → List (Nat × Option Row)} {h0 : Heap} {S S' : Nat → Bool} {ops : Array Oper} {V : Nat → AV} {t0 : Tmps}

theorem hp_congr {x : Nat} : ∀ {k : Nat}, (∀ j, j < k → S j ≠ S' j → ¬ touch (Us j) x) → hp Us h0 S k x = hp Us h0 S' k x
  | 0, _ => rfl
  | k + 1, h => by
    have ih := hp_congr (k := k) (fun j hj => h j (by omega))
    simp only [hp]
    by_cases hs : S k = S' k
    · rw [hs]
      split
      · exact app_at ih
      · exact ih
    · have hn := h k (Nat.lt_succ_self k) hs
      split <;> split <;> first | rw [app_untouched _ hn, app_untouched _ hn, ih] | rw [app_untouched _ hn, ih] | exact ih
theorem hp_tail {x k : Nat} : ∀ {m : Nat}, k ≤ m → (∀ j, k ≤ j → j < m → S j = true → ¬ touch (Us j) x) → hp Us h0 S m x = hp Us h0 S k x
  | 0, hk, _ => by have : k = 0 := by omega
                   subst this; rfl
  | m + 1, hk, h => by
    by_cases hkm : k = m + 1
    · subst hkm; rfl
    · have ih := hp_tail (m := m) (by omega) (fun j h1 h2 => h j h1 (by omega))
      simp only [hp]
      split
      · rename_i hs
        rw [app_untouched _ (h m (by omega) (by omega) hs), ih]
      · exact ih

theorem put_other {t : Tmps} {d : Option Tmp} {v : AV} {x : Nat} (h : d ≠ some x) : put t d v x = t x := by
  cases d with
  | none => rfl
  | some d => simp only [put]; rw [if_neg]; exact fun e => h (by rw [e])
theorem put_eq {t : Tmps} {d : Option Tmp} {v : AV} {x : Nat} (h : d = some x) : put t d v x = v := by subst h; simp [put]

theorem tp_congr {x : Nat} : ∀ {k : Nat}, (∀ j, j < k → S j ≠ S' j → (ops[j]?).bind (·.dst) ≠ some x) → tp ops V t0 S k x = tp ops V t0 S' k x
  | 0, _ => rfl
  | k + 1, h => by
    have ih := tp_congr (k := k) (fun j hj => h j (by omega))
    simp only [tp]
    by_cases hs : S k = S' k
    · rw [hs]
      split
      · by_cases hd : (ops[k]?).bind (·.dst) = some x
        · rw [put_eq hd, put_eq hd]
        · rw [put_other hd, put_other hd, ih]
      · exact ih
    · have hn := h k (Nat.lt_succ_self k) hs
      split <;> split <;> first | rw [put_other hn, put_other hn, ih] | rw [put_other hn, ih] | exact ih
theorem tp_tail {x k : Nat} : ∀ {m : Nat}, k ≤ m → (∀ j, k ≤ j → j < m → S j = true → (ops[j]?).bind (·.dst) ≠ some x) → tp ops V t0 S m x = tp ops V t0 S k x
  | 0, hk, _ => by have : k = 0 := by omega
                   subst this; rfl
  | m + 1, hk, h => by
    by_cases hkm : k = m + 1
    · subst hkm; rfl
    · have ih := tp_tail (m := m) (by omega) (fun j h1 h2 => h j h1 (by omega))
      simp only [tp]
      split
      · rename_i hs
        rw [put_other (h m (by omega) (by omega) hs), ih]
      · exact ih

/-! ### the order that binds -/
def pre (B : List Nat) (i j : Nat) : Bool := (B.getD i 0).testBit j

/-- The table is the region's; what names one temporary is in order; what writes is in order with all that looks at the heap. -/
def drawChk (P : Program) (ops : Array Oper) (B W : List Nat) : Bool :=
  let m := ops.size
  let at_ := fun i => ops.getD i default
  let R := List.range m
  (R.all fun i => decide (B.getD i 0 < 2 ^ i)) &&
  (R.all fun i => (at_ i).after.all fun e => !Region.binds .any e || pre B i e.on) &&
  (R.all fun i => R.all fun j => !pre B i j || (B.getD i 0 ||| B.getD j 0) == B.getD i 0) &&
  (R.all fun i => R.all fun j => i == j || pre B i j || pre B j i || (match (at_ j).dst with | some d => !((at_ i).looksAt ops).contains d && !((at_ i).dst == some d) | none => true)) &&
  (R.all fun i => R.all fun j => i == j || !W.contains j || isV P W i (at_ i).op || pre B i j || pre B j i) &&
  (R.all fun i => R.all fun j => !pre B i j || ((at_ i).after.any fun e => Region.binds .any e && (e.on == j || pre B e.on j)))

structure DrawOk (P : Program) (ops : Array Oper) (B W : List Nat) : Prop where
  back : ∀ i j, i < ops.size → pre B i j = true → j < i
  edge : ∀ i o, ops[i]? = some o → ∀ e ∈ o.after, Region.binds .any e = true → pre B i e.on = true
  trans : ∀ i j l, i < ops.size → j < ops.size → pre B i j = true → pre B j l = true → pre B i l = true
  tmp : ∀ i j oi oj d, ops[i]? = some oi → ops[j]? = some oj → i ≠ j → oj.dst = some d → (d ∈ oi.looksAt ops ∨ oi.dst = some d) → pre B i j = true ∨ pre B j i = true
  wr : ∀ i j oi, ops[i]? = some oi → j < ops.size → i ≠ j → j ∈ W → isV P W i oi.op = false → pre B i j = true ∨ pre B j i = true
  gen : ∀ i j o, ops[i]? = some o → pre B i j = true → ∃ e ∈ o.after, Region.binds .any e = true ∧ (e.on = j ∨ pre B e.on j = true)

theorem drawChk_ok {B W : List Nat} (h : drawChk P ops B W = true) : DrawOk P ops B W := by
  simp only [drawChk, Bool.and_eq_true, List.all_eq_true, List.mem_range] at h
  obtain ⟨⟨⟨⟨⟨h1, h2⟩, h3⟩, h4⟩, h5⟩, h7⟩ := h
  have hat : ∀ i o, ops[i]? = some o → i < ops.size ∧ ops.getD i default = o := fun i o ho => by
    obtain ⟨hlt, he⟩ := Array.getElem?_eq_some_iff.1 ho
    exact ⟨hlt, by simp [Array.getD, hlt, he]⟩
  have back : ∀ i j, i < ops.size → pre B i j = true → j < i := fun i j hi hp => by
    rcases Nat.lt_or_ge j i with h' | h'
    · exact h'
    · have hlt := of_decide_eq_true (h1 i hi)
      have : (B.getD i 0).testBit j = false := Nat.testBit_lt_two_pow (Nat.lt_of_lt_of_le hlt (Nat.pow_le_pow_right (by decide) h'))
      rw [pre, this] at hp; cases hp
  refine ⟨back, fun i o ho e he hb => ?_, fun i j l hi hj hij hjl => ?_, fun i j oi oj d hoi hoj hne hd hl => ?_, fun i j oi hoi hj hne hw hv => ?_, fun i j o ho hp => ?_⟩
  · obtain ⟨hlt, hd⟩ := hat i o ho
    have := h2 i hlt
    rw [hd, Array.all_eq_true_iff_forall_mem] at this
    have := this e he
    simpa [hb] using this
  · have := h3 i hi j hj
    simp only [hij, Bool.not_true, Bool.false_or, beq_iff_eq] at this
    have hb : ((B.getD i 0) ||| (B.getD j 0)).testBit l = true := by
      rw [Nat.testBit_or]
      have : (B.getD j 0).testBit l = true := hjl
      rw [this]; simp
    rw [this] at hb
    exact hb
  · obtain ⟨hi, hdi⟩ := hat i oi hoi
    obtain ⟨hj, hdj⟩ := hat j oj hoj
    have := h4 i hi j hj
    rw [hdi, hdj, hd] at this
    simp only [Bool.or_eq_true, beq_iff_eq, Bool.and_eq_true, Bool.not_eq_true'] at this
    rcases this with ((h6 | h6) | h6) | h6
    · exact absurd h6 hne
    · exact .inl h6
    · exact .inr h6
    · rcases hl with hl | hl
      · have := h6.1
        rw [List.contains_eq_mem] at this
        simp [hl] at this
      · have := h6.2
        rw [hl] at this
        simp at this
  · obtain ⟨hi, hdi⟩ := hat i oi hoi
    have := h5 i hi j hj
    rw [hdi] at this
    simp only [Bool.or_eq_true, beq_iff_eq, Bool.not_eq_true', hv, Bool.false_eq_true, or_false] at this
    rcases this with ((h6 | h6) | h6) | h6
    · exact absurd h6 hne
    · rw [List.contains_eq_mem] at h6
      simp [hw] at h6
    · exact .inl h6
    · exact .inr h6
  · obtain ⟨hlt, hd⟩ := hat i o ho
    have := h7 i hlt j (Nat.lt_trans (back i j hlt hp) hlt)
    rw [hd] at this
    rw [hp, Bool.not_true, Bool.false_or, ← Array.any_toList, List.any_eq_true] at this
    obtain ⟨e, he, hb⟩ := this
    simp only [Bool.and_eq_true, Bool.or_eq_true, beq_iff_eq] at hb
    exact ⟨e, Array.mem_toList_iff.1 he, hb.1, hb.2⟩

end Go.Av
end

section
namespace Go.Av

variable {P : Program} {N : Nat}

/-- What each operation comes to, fixed up front. -/
structure Plan where
  V : Nat → AV
  Us : Nat → List (Nat × Option Row)
  ns : Nat → Nat

def SoundL (S : Tmps → Prop) (ops : Array Oper) (o : Oper) (t : Tmps) : Prop := ∀ t', (∀ k ∈ o.looksAt ops, t' k = t k) → S t'

/-- One operation's part of the plan. -/
structure PlanAt (P : Program) (N : Nat) (ops : Array Oper) (B W : List Nat) (h0 : Heap) (t : Tmps) (p : Plan) (j : Nat) : Prop where
  op : ∃ o, ops[j]? = some o ∧ dstOk N o = true ∧ p.ns j ≤ p.ns (j + 1) ∧
    ((isV P W j o.op = true ∧ p.Us j = [] ∧ p.ns (j + 1) = p.ns j ∧ SoundL (fun t => SoundW P ops o t noHeap (p.ns j) (p.V j) [] (p.ns j)) ops o t) ∨
     (isV P W j o.op = false ∧ (∀ u ∈ p.Us j, p.ns j ≤ u.1 ∧ u.1 < p.ns (j + 1)) ∧ SoundL (fun t => SoundW P ops o t (hp p.Us h0 (pre B j) j) (p.ns j) (p.V j) (p.Us j) (p.ns (j + 1))) ops o t) ∨
     (isV P W j o.op = false ∧ j ∈ W ∧ (∀ u ∈ p.Us j, u.1 < p.ns (j + 1)) ∧ SoundL (fun t => SoundO P ops o t (hp p.Us h0 (pre B j) j) (p.ns j) (p.V j) (p.Us j) (p.ns (j + 1))) ops o t))

/-- The numbers used, when these have come up. -/
def used (U : Nat → Prop) (ns : Nat → Nat) (m : Nat) (S : Nat → Bool) : Nat → Prop := fun x => U x ∨ ∃ i, i < m ∧ S i = true ∧ ns i ≤ x ∧ x < ns (i + 1)

theorem ns_mono {p : Plan} {m : Nat} (hm : ∀ j, j < m → p.ns j ≤ p.ns (j + 1)) : ∀ {i j : Nat}, i ≤ j → j ≤ m → p.ns i ≤ p.ns j
  | i, 0, hi, _ => by have : i = 0 := by omega
                      subst this; exact Nat.le_refl _
  | i, j + 1, hi, hj => by
    by_cases he : i = j + 1
    · subst he; exact Nat.le_refl _
    · exact Nat.le_trans (ns_mono hm (i := i) (j := j) (by omega) (by omega)) (hm j (by omega))

theorem used_all {U : Nat → Prop} {p : Plan} {m : Nat} (hm : ∀ j, j < m → p.ns j ≤ p.ns (j + 1)) {S : Nat → Bool} (hS : ∀ j, j < m → S j = true) : used U p.ns m S = ext U (p.ns 0) (p.ns m) := by
  funext x
  simp only [used, ext, eq_iff_iff]
  constructor
  · rintro (h | ⟨i, hi, _, h1, h2⟩)
    · exact .inl h
    · have a1 := ns_mono hm (i := 0) (j := i) (by omega) (by omega)
      have a2 := ns_mono hm (i := i + 1) (j := m) (by omega) (Nat.le_refl _)
      exact .inr ⟨by omega, by omega⟩
  · rintro (h | ⟨h1, h2⟩)
    · exact .inl h
    · right
      have key : ∀ k, k ≤ m → x < p.ns k → ∃ i, i < k ∧ p.ns i ≤ x ∧ x < p.ns (i + 1) := by
        intro k
        induction k with
        | zero => intro _ h; omega
        | succ k ih =>
          intro hk h
          by_cases hx : x < p.ns k
          · obtain ⟨i, g1, g2, g3⟩ := ih (by omega) hx
            exact ⟨i, by omega, g2, g3⟩
          · exact ⟨k, Nat.lt_succ_self k, by omega, h⟩
      obtain ⟨i, g1, g2, g3⟩ := key m (Nat.le_refl _) h2
      exact ⟨i, g1, hS i g1, g2, g3⟩

/-- When these have come up, the state is so. -/
structure Inv (P : Program) (N : Nat) (ops : Array Oper) (B : List Nat) (h0 : Heap) (t0 : Tmps) (p : Plan) (U : Nat → Prop) (ρ0 : Nat → Nat) (Ro0 : Nat → Prop) (w0 : World) (S : Nat → Bool) (a : Act) (w : World) : Prop where
  down : ∀ i j, i < ops.size → S i = true → pre B i j = true → S j = true
  st : ∃ ρ Ro, Rel (used U p.ns ops.size S) ρ Ro (hp p.Us h0 S ops.size) w ∧ RelT (cx (used U p.ns ops.size S) ρ Ro w) (tp ops p.V t0 S ops.size) a ∧
    Ext U ρ0 Ro0 h0 w0 (used U p.ns ops.size S) ρ Ro (hp p.Us h0 S ops.size) w
  sz : a.tmps.size = N
  df : a.defers = []

def addS (S : Nat → Bool) (i : Nat) : Nat → Bool := fun j => if j = i then true else S j

theorem plan_step {ops : Array Oper} {B W : List Nat} {h0 : Heap} {t0 : Tmps} {p : Plan} {U : Nat → Prop} {ρ0 : Nat → Nat} {Ro0 : Nat → Prop} {w0 : World} (hd : DrawOk P ops B W)
    (hp_ : ∀ j, j < ops.size → PlanAt P N ops B W h0 (tp ops p.V t0 (fun _ => true) j) p j) (hU : ∀ x, U x → x < p.ns 0) (hh0 : ∀ x r, h0 x = some r → x < p.ns 0) {S : Nat → Bool} {a : Act} {w : World}
    (inv : Inv P N ops B h0 t0 p U ρ0 Ro0 w0 S a w) {i : Nat} {o : Oper} (hi : ops[i]? = some o) (hSi : S i = false) (hpre : ∀ j, pre B i j = true → S j = true) (K : Act → World → Prop) (Q : Exit → Act → World → Prop)
    (hK : ∀ a' w', Inv P N ops B h0 t0 p U ρ0 Ro0 w0 (addS S i) a' w' → K a' w') :
    if Region.wanted o (yielded ops a.tmps) then o.wp P a w K Q ∨ (o.asks P a w ∧ LetsOut Q) else K (a.put o.dst undef) w := by
  have hlt : i < ops.size := (Array.getElem?_eq_some_iff.1 hi).1
  have hns : ∀ j, j < ops.size → p.ns j ≤ p.ns (j + 1) := fun j hj => (hp_ j hj).op.choose_spec.2.2.1
  have hop : ∀ j, j < ops.size → ∃ o, ops[j]? = some o := fun j hj => ⟨_, Array.getElem?_eq_getElem hj⟩
  have hnot : ∀ j, j < ops.size → S j = true → pre B j i = false := fun j hj hs => by
    cases hb : pre B j i with
    | false => rfl
    | true => have := inv.down j i hj hs hb; rw [hSi] at this; cases this
  have hpsz : ∀ j, pre B i j = true → j < ops.size := fun j hj => Nat.lt_trans (hd.back i j hlt hj) hlt
  -- temporaries
  have htmp : ∀ k ∈ o.looksAt ops, tp ops p.V t0 S ops.size k = tp ops p.V t0 (fun _ => true) i k := fun k hk => by
    have hwr : ∀ j, j < ops.size → j ≠ i → (ops[j]?).bind (·.dst) = some k → pre B i j = true ∨ pre B j i = true := fun j hj hne hdk => by
      obtain ⟨oj, hoj⟩ := hop j hj
      rw [hoj] at hdk
      exact hd.tmp i j o oj k hi hoj (Ne.symm hne) hdk (.inl hk)
    rw [tp_tail (k := i) (Nat.le_of_lt hlt) (fun j h1 h2 h3 hdk => by
      by_cases hji : j = i
      · subst hji; rw [hSi] at h3; cases h3
      · rcases hwr j h2 hji hdk with h4 | h4
        · have := hd.back i j hlt h4; omega
        · rw [hnot j h2 h3] at h4; cases h4)]
    refine tp_congr (fun j hj hne hdk => ?_)
    rcases hwr j (by omega) (by omega) hdk with h4 | h4
    · exact hne (hpre j h4)
    · have := hd.back j i (by omega) h4; omega
  obtain ⟨o', ho', hdst, hnsi, hcase⟩ := (hp_ i hlt).op
  rw [hi] at ho'
  injection ho' with ho'
  subst ho'
  obtain ⟨ρ, Ro, hrel, htm, hext⟩ := inv.st
  -- where a touched row comes from
  have htouch : ∀ j, j < ops.size → ∀ x, touch (p.Us j) x → x < p.ns (j + 1) ∧ (p.ns j ≤ x ∨ j ∈ W) ∧ (∃ oj, ops[j]? = some oj ∧ isV P W j oj.op = false) := fun j hj x ⟨u, hu, he⟩ => by
    obtain ⟨oj, hoj, _, _, hc⟩ := (hp_ j hj).op
    subst he
    rcases hc with ⟨_, h2, _⟩ | ⟨h1, h2, _⟩ | ⟨h1, h2, h3, _⟩
    · rw [h2] at hu; cases hu
    · exact ⟨(h2 u hu).2, .inl (h2 u hu).1, oj, hoj, h1⟩
    · exact ⟨h3 u hu, .inr h2, oj, hoj, h1⟩
  have husedb : ∃ b, ∀ x, used U p.ns ops.size S x → x < b := ⟨p.ns ops.size, fun x hx => by
    have h1 := ns_mono hns (i := 0) (j := ops.size) (Nat.zero_le _) (Nat.le_refl _)
    rcases hx with hx | ⟨l, hl, _, _, h3⟩
    · have := hU x hx; omega
    · have := ns_mono hns (i := l + 1) (j := ops.size) (by omega) (Nat.le_refl _); omega⟩
  have hfree : ∀ x, p.ns i ≤ x → x < p.ns (i + 1) → ¬ used U p.ns ops.size S x := fun x h1 h2 hx => by
    have h0' := ns_mono hns (i := 0) (j := i) (Nat.zero_le _) (Nat.le_of_lt hlt)
    rcases hx with hx | ⟨l, hl, hs, h3, h4⟩
    · have := hU x hx; omega
    · have hne : l ≠ i := fun e => by subst e; rw [hSi] at hs; cases hs
      rcases Nat.lt_or_gt_of_ne hne with h5 | h5
      · have := ns_mono hns (i := l + 1) (j := i) (by omega) (by omega); omega
      · have := ns_mono hns (i := i + 1) (j := l) (by omega) (by omega); omega
  have hused : ext (used U p.ns ops.size S) (p.ns i) (p.ns (i + 1)) = used U p.ns ops.size (addS S i) := by
    funext x
    simp only [ext, used, eq_iff_iff, addS]
    constructor
    · rintro ((h1 | ⟨l, h1, h2, h3⟩) | h1)
      · exact .inl h1
      · exact .inr ⟨l, h1, by split <;> first | rfl | exact h2, h3⟩
      · exact .inr ⟨i, hlt, by simp, h1⟩
    · rintro (h1 | ⟨l, h1, h2, h3⟩)
      · exact .inl (.inl h1)
      · by_cases hli : l = i
        · subst hli; exact .inr h3
        · rw [if_neg hli] at h2; exact .inl (.inr ⟨l, h1, h2, h3⟩)
  have hdownS : ∀ l j, l < ops.size → addS S i l = true → pre B l j = true → addS S i j = true := fun l j hl hs hb => by
    simp only [addS] at hs ⊢
    split
    · rfl
    · by_cases hli : l = i
      · subst hli; exact hpre j hb
      · rw [if_neg hli] at hs; exact inv.down l j hl hs hb
  have htmpS : ∀ x, tp ops p.V t0 (addS S i) ops.size x = put (tp ops p.V t0 S ops.size) o.dst (p.V i) x := fun x => by
    by_cases hdx : o.dst = some x
    · rw [put_eq hdx]
      have hwr : ∀ j, j < ops.size → j ≠ i → (ops[j]?).bind (·.dst) = some x → pre B i j = true ∨ pre B j i = true := fun j hj hne hdk => by
        obtain ⟨oj, hoj⟩ := hop j hj
        rw [hoj] at hdk
        exact hd.tmp i j o oj x hi hoj (Ne.symm hne) hdk (.inr hdx)
      rw [tp_tail (k := i + 1) (by omega) (fun j h1 h2 h3 hdk => by
        simp only [addS, show j ≠ i by omega, if_false] at h3
        rcases hwr j h2 (by omega) hdk with h4 | h4
        · have := hd.back i j hlt h4; omega
        · rw [hnot j h2 h3] at h4; cases h4)]
      simp only [tp, addS, if_true, hi, Option.bind_some]
      rw [put_eq hdx]
    · rw [put_other hdx]
      refine tp_congr (fun j hj hne hdk => ?_)
      simp only [addS] at hne
      by_cases hji : j = i
      · subst hji; rw [hi] at hdk; exact hdx hdk
      · rw [if_neg hji] at hne; exact hne rfl
  -- the heart: a step that saw a part of the rows
  have finish : ∀ (view : Heap) (us : List (Nat × Option Row)) (n' : Nat), us = p.Us i → n' = p.ns (i + 1) → (∀ x r, view x = some r → hp p.Us h0 S ops.size x = some r) →
      (∀ x, hp p.Us h0 (addS S i) ops.size x = app us view x ∨ (view x = none ∧ app us view x = none ∧ hp p.Us h0 (addS S i) ops.size x = hp p.Us h0 S ops.size x)) →
      (∀ x w' ρ' Ro', RV (cx (Av.ext (used U p.ns ops.size S) (p.ns i) n') ρ' Ro' w') (p.V i) x → Rel (Av.ext (used U p.ns ops.size S) (p.ns i) n') ρ' Ro' (app us view) w' → Ext (used U p.ns ops.size S) ρ Ro view w (Av.ext (used U p.ns ops.size S) (p.ns i) n') ρ' Ro' (app us view) w' → K (a.put o.dst x) w') := by
    intro view us n' hus hn' hsub hmg x w' ρ' Ro' hv hr' he'
    subst hus; subst hn'
    rw [hused] at hv hr' he'
    obtain ⟨g1, g2⟩ := hrel.frame hsub he' hr' (hp p.Us h0 (addS S i) ops.size) hmg
    have hle := g2.cx hrel
    refine hK _ _ ⟨hdownS, ⟨ρ', Ro', g1, ?_, hext.trans g2⟩, ?_, ?_⟩
    · have h1 := (htm.mono hle).put (d := o.dst) (fun k hk => by rw [inv.sz]; exact dstOk_lt hdst k hk) hv
      intro k
      rw [htmpS k]
      exact h1 k
    · rw [← inv.sz]; cases o.dst <;> simp [Act.put]
    · rw [← inv.df]; cases o.dst <;> rfl
  have h0le : ∀ j, j ≤ ops.size → p.ns 0 ≤ p.ns j := fun j hj => ns_mono hns (Nat.zero_le _) hj
  -- who of those that came up, and need not come up ahead, touched a row
  have hview : ∀ (hval : isV P W i o.op = false) (x j : Nat), j < ops.size → S j = true → pre B i j = false → touch (p.Us j) x → hp p.Us h0 (pre B i) i x = none ∧ i ∉ W := fun hval x j hj hs hb ht => by
    obtain ⟨h1, h2, oj, hoj, hvj⟩ := htouch j hj x ht
    have hne : i ≠ j := fun e => by subst e; rw [hSi] at hs; cases hs
    have hjW : j ∉ W := fun hw => by
      rcases hd.wr i j o hi hj hne hw hval with h4 | h4
      · rw [hb] at h4; cases h4
      · rw [hnot j hj hs] at h4; cases h4
    have hiW : i ∉ W := fun hw => by
      rcases hd.wr j i oj hoj hlt (Ne.symm hne) hw hvj with h4 | h4
      · rw [hnot j hj hs] at h4; cases h4
      · rw [hb] at h4; cases h4
    have hge := h2.resolve_right hjW
    refine ⟨?_, hiW⟩
    have key : ∀ k, k ≤ i → hp p.Us h0 (pre B i) k x = none := by
      intro k
      induction k with
      | zero =>
        intro _
        cases hh : h0 x with
        | none => exact hh
        | some r => have := hh0 x r hh; have := h0le j (by omega); omega
      | succ k ih =>
        intro hk
        simp only [hp]
        split
        · rename_i hbk
          rw [app_untouched]
          · exact ih (by omega)
          · intro htk
            have hkj : k ≠ j := fun e => by subst e; rw [hb] at hbk; cases hbk
            obtain ⟨k1, k2, ok, hok, hvk⟩ := htouch k (by omega) x htk
            rcases k2 with k2 | k2
            · rcases Nat.lt_or_gt_of_ne hkj with h5 | h5
              · have := ns_mono hns (i := k + 1) (j := j) (by omega) (by omega); omega
              · have := ns_mono hns (i := j + 1) (j := k) (by omega) (by omega); omega
            · rcases hd.wr j k oj hoj (by omega) (Ne.symm hkj) k2 hvj with h5 | h5
              · have := hd.back j k hj h5
                have := ns_mono hns (i := k + 1) (j := j) (by omega) (by omega); omega
              · have := hd.trans i k j hlt (by omega) hbk h5
                rw [hb] at this; cases this
        · exact ih (by omega)
    exact key i (Nat.le_refl _)
  have hsub : isV P W i o.op = false → ∀ x r, hp p.Us h0 (pre B i) i x = some r → hp p.Us h0 S ops.size x = some r := fun hval x r hx => by
    have hno : ∀ j, j < ops.size → S j = true → pre B i j = false → ¬ touch (p.Us j) x := fun j hj hs hb ht => by
      rw [(hview hval x j hj hs hb ht).1] at hx; cases hx
    rw [hp_tail (k := i) (Nat.le_of_lt hlt) (fun j h1 h2 h3 => hno j h2 h3 (by
      cases hb : pre B i j with
      | false => rfl
      | true => have := hd.back i j hlt hb; omega))]
    rw [hp_congr (S' := pre B i) (fun j hj hne => by
      cases hb : pre B i j with
      | true => rw [hb, hpre j hb] at hne; exact absurd rfl hne
      | false =>
        rw [hb] at hne
        exact hno j (by omega) (by simpa using hne) hb)]
    exact hx
  have hmg : isV P W i o.op = false → (∀ u ∈ p.Us i, u.1 < p.ns (i + 1)) → ((∀ u ∈ p.Us i, p.ns i ≤ u.1) ∨ i ∈ W) → ∀ x, hp p.Us h0 (addS S i) ops.size x = app (p.Us i) (hp p.Us h0 (pre B i) i) x ∨
      (hp p.Us h0 (pre B i) i x = none ∧ app (p.Us i) (hp p.Us h0 (pre B i) i) x = none ∧ hp p.Us h0 (addS S i) ops.size x = hp p.Us h0 S ops.size x) := fun hval hub hkind x => by
    by_cases ht : touch (p.Us i) x
    · left
      have hno : ∀ j, j < ops.size → S j = true → pre B i j = false → ¬ touch (p.Us j) x := fun j hj hs hb htj => by
        obtain ⟨h1, h2, oj, hoj, hvj⟩ := htouch j hj x htj
        obtain ⟨_, hiW⟩ := hview hval x j hj hs hb htj
        have hne : i ≠ j := fun e => by subst e; rw [hSi] at hs; cases hs
        have hjW : j ∉ W := fun hw => by
          rcases hd.wr i j o hi hj hne hw hval with h4 | h4
          · rw [hb] at h4; cases h4
          · rw [hnot j hj hs] at h4; cases h4
        obtain ⟨u, hu, he⟩ := ht
        have hge := (hkind.resolve_right hiW) u hu
        have hlt' := hub u hu
        have hgj := h2.resolve_right hjW
        rcases Nat.lt_or_gt_of_ne hne with h5 | h5
        · have := ns_mono hns (i := i + 1) (j := j) (by omega) (by omega); omega
        · have := ns_mono hns (i := j + 1) (j := i) (by omega) (by omega); omega
      rw [hp_tail (k := i + 1) (by omega) (fun j h1 h2 h3 => by
        simp only [addS, show j ≠ i by omega, if_false] at h3
        exact hno j h2 h3 (by
          cases hb : pre B i j with
          | false => rfl
          | true => have := hd.back i j hlt hb; omega))]
      simp only [hp, addS, if_true]
      exact app_touched _ _ ht
    · rw [app_untouched _ ht]
      have hS : hp p.Us h0 (addS S i) ops.size x = hp p.Us h0 S ops.size x := hp_congr (fun j hj hne htj => by
        simp only [addS] at hne
        by_cases hji : j = i
        · subst hji; exact ht htj
        · rw [if_neg hji] at hne; exact hne rfl)
      rw [hS]
      cases hv : hp p.Us h0 (pre B i) i x with
      | none => exact .inr ⟨rfl, rfl, rfl⟩
      | some r => exact .inl (hsub hval x r hv)
  rcases hcase with ⟨hval, hus, hn, hs⟩ | ⟨hval, hus, hs⟩ | ⟨hval, hw, hus, hs⟩
  · refine (hs _ htmp).2 _ ρ Ro w a (fun j h1 h2 => by omega) husedb (hrel.less (fun j r hj => by cases hj)) htm K Q ?_
    refine finish noHeap [] (p.ns i) hus.symm hn.symm (fun x r hx => by cases hx) (fun x => .inr ⟨rfl, rfl, ?_⟩)
    refine hp_congr (fun j hj hne htj => ?_)
    simp only [addS] at hne
    by_cases hji : j = i
    · subst hji; rw [hus] at htj; obtain ⟨u, hu, _⟩ := htj; cases hu
    · rw [if_neg hji] at hne; exact hne rfl
  · refine (hs _ htmp).2 _ ρ Ro w a hfree husedb (hrel.less (hsub hval)) htm K Q ?_
    exact finish _ _ _ rfl rfl (hsub hval) (hmg hval (fun u hu => (hus u hu).2) (.inl fun u hu => (hus u hu).1))
  · refine (hs _ htmp).2 _ ρ Ro w a (fun x hx => ?_) (hrel.less (hsub hval)) htm K Q ?_
    · rcases hx with hx | ⟨l, hl, hsl, h3, h4⟩
      · have := hU x hx; have := h0le i (Nat.le_of_lt hlt); omega
      · have hne : l ≠ i := fun e => by subst e; rw [hSi] at hsl; cases hsl
        obtain ⟨ol, hol, _, _, hc⟩ := (hp_ l hl).op
        have hvl : isV P W l ol.op = false := by
          rcases hc with ⟨_, _, h5, _⟩ | ⟨h5, _⟩ | ⟨h5, _⟩
          · omega
          · exact h5
          · exact h5
        rcases hd.wr l i ol hol hlt hne hw hvl with h5 | h5
        · rw [hnot l hl hsl] at h5; cases h5
        · have := hd.back i l hlt h5
          have := ns_mono hns (i := l + 1) (j := i) (by omega) (by omega); omega
    · exact finish _ _ _ rfl rfl (hsub hval) (hmg hval hus (.inr hw))

end Go.Av
end
