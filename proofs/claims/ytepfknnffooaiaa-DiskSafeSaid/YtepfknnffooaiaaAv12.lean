/- What one operation does, told of abstract values: it is so. Part 9: all of it. -/
import Derived.Test.YtepfknnffooaiaaAv11
namespace Go.Av

variable {P : Program} {U : Nat → Prop} {n n' : Nat} {ρ : Nat → Nat} {Ro : Nat → Prop} {h : Heap} {w w1 : World} {t : Tmps} {a : Act} {o : Oper} {C : Cx} {v : AV} {us : List (Nat × Option Row)}

theorem zvT_some {T : TypeId} {z : AV} (hz : zvT P T = some z) : ∃ i zv, P.info? T = some i ∧ i.zero = some zv ∧ okC zv = true ∧ ofC zv = z := by
  unfold zvT at hz
  cases hi : P.info? T with
  | none => rw [hi] at hz; cases hz
  | some i =>
    rw [hi] at hz
    simp only [Option.bind_some] at hz
    cases hzz : i.zero with
    | none => rw [hzz] at hz; cases hz
    | some zv =>
      rw [hzz] at hz
      simp only at hz
      split at hz
      · rename_i hok
        exact ⟨i, zv, rfl, hzz, hok, by injection hz⟩
      · cases hz

theorem sound_typeAssert {x : Operand} {X D : TypeId} {ok : Bool} {k : Kind} (hx : okX x = true) (hk : kiT P D = some k) (hne : k ≠ .iface)
    (hv : (∃ T u, aev t x = .ifc T u ∧ T = D ∧ v = if ok then .tup [u, .b true] else u) ∨ (∃ z, ok = true ∧ zvT P D = some z ∧ v = .tup [z, .b false] ∧ ((∃ T u, aev t x = .ifc T u ∧ T ≠ D) ∨ aev t x = .ni))) :
    Sound P (.typeAssert x X D ok) t h n v [] n :=
  Sound.val fun ty d U ρ Ro w a hrel ht => by
    obtain ⟨Dd, hd, _, _, _, h1⟩ := kiT_some hk
    have hni : ∀ ms, Dd ≠ .interface ms := fun ms he => hne (h1.2 ⟨ms, he⟩)
    have hr := rv_ev ht hx
    rcases hv with ⟨T, u, he, rfl, rfl⟩ | ⟨z, rfl, hz, rfl, hw⟩
    · rw [he] at hr
      obtain ⟨y, hva, hy⟩ := hr.inv_ifc
      refine ⟨if ok then .tuple #[y, .bool true] else y, .inl ?_, ?_⟩
      · simp only [execOp, hva, Instr.typeAssert, Sem.run_bind, run_underlying hd, Result.andThen_ok]
        cases Dd <;> first | (cases ok <;> simp; done) | exact absurd rfl (hni _)
      · cases ok
        · exact hy
        · exact rv_tup2 hy (.b _)
    · obtain ⟨i, zv, hi, hzz, hok, rfl⟩ := zvT_some hz
      refine ⟨.tuple #[zv, .bool false], .inl ?_, rv_tup2 (rv_ofC _ hok) (.b _)⟩
      rcases hw with ⟨T, u, he, hTD⟩ | he
      · rw [he] at hr
        obtain ⟨y, hva, hy⟩ := hr.inv_ifc
        simp only [execOp, hva, Instr.typeAssert, Sem.run_bind, run_underlying hd, Result.andThen_ok]
        cases Dd <;> first | (simp [hTD, run_zeroValue hi hzz]; done) | exact absurd rfl (hni _)
      · rw [he] at hr
        have hva := hr.inv_ni
        simp only [execOp, hva, Instr.typeAssert, Sem.run_bind, run_underlying hd, Result.andThen_ok]
        cases Dd <;> first | (simp [run_zeroValue hi hzz]; done) | exact absurd rfl (hni _)

theorem ran_builtin {b : Builtin} {args : Array Operand} {Ts : Array TypeId} {ty : TypeId} {d : Oper} {r : Value} {w' : World} (f : Array TypeId → TypeId → Array Value → Sem Value)
    (hf : ∀ consts vs, builtin b Ts ty consts vs = (do pure (.value (← f Ts ty vs)) : Sem Next)) (hr : (f Ts ty (args.map a.eval)).run P w = .ok r w') : Ran P (.call { callee := .builtin b, args := args, argTypes := Ts }) ty d a w r w' := by
  refine .inl ?_
  simp only [execOp, resolve, Sem.run_bind, Sem.run_pure, Result.andThen_ok, invoke, hf, hr]

theorem sound_len {T : TypeId} {x : Operand} {m : Int} (hx : okX x = true) (hv : alen P T (aev t x) = some m) : Sound P (.call { callee := .builtin .len, args := #[x], argTypes := #[T] }) t h n (.i .i64 m) [] n :=
  Sound.val fun ty d U ρ Ro w a hrel ht => by
    have hr := rv_ev ht hx
    generalize aev t x = p at hv hr
    refine ⟨.int .i64 m, ran_builtin Builtin.len_ (fun _ _ => rfl) ?_, .i _ _⟩
    simp only [List.map_toArray, List.map_cons, List.map_nil]
    unfold alen at hv
    split at hv
    · split at hv
      · rename_i hk
        injection hv with hv
        subst hv
        obtain ⟨D, hd, _, _, h1, _⟩ := kiT_some hk
        obtain rfl := h1.1 rfl
        rw [hr.inv_s]
        simp [Builtin.len_, run_underlying hd, goInt]
      · cases hv
    · cases hs : slT P T with
      | none => rw [hs] at hv; cases hv
      | some s =>
        rw [hs] at hv
        simp at hv
        subst hv
        obtain ⟨hu, _⟩ := slT_some hs
        obtain ⟨cap, hva, _⟩ := hr.inv_sl
        rw [hva]
        simp [Builtin.len_, run_underlying hu, goInt]
    · cases hs : slT P T with
      | none => rw [hs] at hv; cases hv
      | some s =>
        rw [hs] at hv
        simp at hv
        subst hv
        obtain ⟨hu, _⟩ := slT_some hs
        obtain ⟨b, cap, hva, _⟩ := hr.inv_ro
        rw [hva]
        simp [Builtin.len_, run_underlying hu, goInt]
    · cases hs : arT P T with
      | none => rw [hs] at hv; cases hv
      | some s =>
        obtain ⟨m', z, g⟩ := s
        rw [hs] at hv
        simp at hv
        subst hv
        obtain ⟨e, hu, _⟩ := arT_some hs
        simp [Builtin.len_, run_underlying hu, goInt]
    · cases hv

theorem sound_max {x y : Operand} {Ts : Array TypeId} (hx : okX x = true) (hy : okX y = true) (hv : amax (aev t x) (aev t y) = some v) : Sound P (.call { callee := .builtin .max, args := #[x, y], argTypes := Ts }) t h n v [] n :=
  Sound.val fun ty d U ρ Ro w a hrel ht => by
    have hr := rv_ev ht hx
    have hr' := rv_ev ht hy
    generalize aev t x = p at hv hr
    generalize aev t y = q at hv hr'
    unfold amax at hv
    split at hv
    · rename_i k m k' m'
      injection hv with hv
      subst hv
      refine ⟨.int k (if m' > m then m' else m), ran_builtin Builtin.max_ (fun _ _ => rfl) ?_, .i _ _⟩
      simp only [List.map_toArray, List.map_cons, List.map_nil, hr.inv_i, hr'.inv_i]
      simp [Builtin.max_, Builtin.max2]
    · cases hv
theorem sound_min {x y : Operand} {Ts : Array TypeId} (hx : okX x = true) (hy : okX y = true) (hv : amin (aev t x) (aev t y) = some v) : Sound P (.call { callee := .builtin .min, args := #[x, y], argTypes := Ts }) t h n v [] n :=
  Sound.val fun ty d U ρ Ro w a hrel ht => by
    have hr := rv_ev ht hx
    have hr' := rv_ev ht hy
    generalize aev t x = p at hv hr
    generalize aev t y = q at hv hr'
    unfold amin at hv
    split at hv
    · rename_i k m k' m'
      injection hv with hv
      subst hv
      refine ⟨.int k (if m' < m then m' else m), ran_builtin Builtin.min_ (fun _ _ => rfl) ?_, .i _ _⟩
      simp only [List.map_toArray, List.map_cons, List.map_nil, hr.inv_i, hr'.inv_i]
      simp [Builtin.min_, Builtin.min2]
    · cases hv

theorem sound_copy {T T2 : TypeId} {s x : Operand} (hs : okX s = true) (hx : okX x = true) (hv : acopy P T T2 h n (aev t s) (aev t x) = some (v, us, n')) :
    Sound P (.call { callee := .builtin .copy, args := #[s, x], argTypes := #[T, T2] }) t h n v us n' := by
  intro ty d U ρ Ro w a hm hr ht
  have hrs := rv_ev ht hs
  have hrx := rv_ev ht hx
  generalize aev t s = p at hv hrs
  generalize aev t x = q at hv hrx
  unfold acopy at hv
  split at hv
  · rename_i e z by_ sz j off len hsl
    obtain ⟨hu, hsz, hby⟩ := slT_some hsl
    split at hv
    · rename_i ys m cs ha hj
      split at hv
      · rename_i hb
        obtain ⟨rfl, hfit⟩ := hb
        simp only [Option.some.injEq, Prod.mk.injEq] at hv
        obtain ⟨rfl, rfl, rfl⟩ := hv
        obtain ⟨news, hsrc⟩ := src_of (P := P) hr hrx ha (fun _ _ _ _ => .inr trivial)
        obtain ⟨cap, hsv, hjn, hlc, hcm, hroomZ⟩ := hrs.inv_sl
        have hmul : min m len * sz ≤ m * sz := Nat.mul_le_mul_right _ (Nat.min_le_left ..)
        have hmul2 : min m len * sz ≤ len * sz := Nat.mul_le_mul_right _ (Nat.min_le_right ..)
        have hyl : (ys.take (min m len * sz)).length = min m len * sz := by rw [List.length_take, hsrc.size]; omega
        have hnl : news.length = m * sz := by rw [hsrc.rvs.1, hsrc.size]
        obtain ⟨w', h1, h2, h3⟩ := stored hr hj P off (news.take (min m len * sz)) (ys.take (min m len * sz)) (cs.take off ++ ys.take (min m len * sz) ++ cs.drop (off + min m len * sz)) (by rw [hyl, List.length_take, hnl]; omega)
          (fun k x hx => by
            rw [List.getElem?_take] at hx
            split at hx
            · exact hsrc.one k x hx
            · cases hx)
          (fun k x v hx hv => by
            rw [List.getElem?_take] at hx hv
            split at hx
            · rename_i hk
              rw [if_pos hk] at hv
              exact hsrc.rvs.2 k x v hx hv
            · cases hx)
          (fun u hu => hsrc.ones u (List.mem_of_mem_take hu))
          (fun c T fr hg => by
            obtain ⟨c', T', lo, hi, h0, _, hle, _, _⟩ := hr.row j cs hj
            rw [hg] at h0
            injection h0 with h0
            injection h0 with h0
            subst h0
            refine ⟨by omega, ?_⟩
            simp only [List.length_append, hyl, List.length_take, List.length_drop]
            omega)
          (fun k hk => by
            rw [hyl]
            by_cases h1 : k < off
            · rw [if_neg (by omega), List.append_assoc, List.getElem?_append_left (by simp; omega), List.getElem?_take, if_pos h1]
            · by_cases h2 : k < off + min m len * sz
              · rw [if_pos ⟨by omega, h2⟩, List.getElem?_append_left (by simp only [List.length_append, hyl, List.length_take]; omega), List.getElem?_append_right (by simp; omega)]
                congr 1
                simp; omega
              · rw [if_neg (by omega), List.getElem?_append_right (by simp only [List.length_append, hyl, List.length_take]; omega), List.getElem?_drop]
                congr 1
                simp only [List.length_append, hyl, List.length_take]; omega)
        rw [ext_self]
        refine ⟨.int .i64 (min m len : Nat), w', ρ, Ro, ran_builtin Builtin.copy_ (fun _ _ => rfl) ?_, .i _ _, h2, h3⟩
        have hc := hsrc.cells w (min m len) rfl (Nat.min_le_left ..)
        have hsv' : a.eval s = .slice (some ⟨ρ j, off, none⟩) len cap := hsv
        simp only [List.map_toArray, List.map_cons, List.map_nil, hsv']
        have hmin : Nat.min m len = min m len := rfl
        simp [Builtin.copy_, run_underlying hu, run_sizeOf hsz, hsrc.len, hc, h1, goInt, hmin]
      · cases hv
    · cases hv
  · cases hv

end Go.Av
