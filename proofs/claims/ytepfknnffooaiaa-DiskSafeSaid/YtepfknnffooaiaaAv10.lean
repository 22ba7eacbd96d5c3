/- What one operation does, told of abstract values: it is so. Part 7: converting, appending, copying; all of it. -/
import Derived.Test.YtepfknnffooaiaaAv9
import Derived.Lib.ConvBytes
namespace Go.Av

variable {P : Program} {U : Nat → Prop} {n n' : Nat} {ρ : Nat → Nat} {Ro : Nat → Prop} {h : Heap} {w w1 : World} {t : Tmps} {a : Act} {o : Oper} {C : Cx} {v : AV} {us : List (Nat × Option Row)}

theorem sound_sliceToArrayPointer {T : TypeId} {x : Operand} (hx : okX x = true) (hv : (match arT P T, aev t x with
    | some (m, _, _), .sl _ j off len => if m ≤ len then some (AV.p j off) else none
    | some (m, _, _), .ro false cs len => if m ≤ len then some (AV.q cs 0) else none
    | _, _ => none) = some v) : Sound P (.sliceToArrayPointer T x) t h n v [] n :=
  Sound.val fun ty d U ρ Ro w a hrel ht => by
    have hr := rv_ev ht hx
    generalize aev t x = p at hv hr
    split at hv
    · rename_i m z g sz j off len hs
      split at hv
      · rename_i hml
        injection hv with hv
        subst hv
        obtain ⟨e, hu, _⟩ := arT_some hs
        obtain ⟨cap, hva, hj, _⟩ := hr.inv_sl
        refine ⟨_, .inl ?_, .p j off hj⟩
        simp only [execOp, Instr.arrayAt, Sem.run_bind, run_underlying hu, Result.andThen_ok, hva]
        rw [if_neg (by omega)]
        rfl
      · cases hv
    · rename_i m z g cs len hs
      split at hv
      · rename_i hml
        injection hv with hv
        subst hv
        obtain ⟨e, hu, _⟩ := arT_some hs
        obtain ⟨ad, cap, vs, hva, hlc, hcm, h1, h2, h3⟩ := hr.inv_ro0
        refine ⟨.pointer (some (ad.add 0)), .inl ?_, .q cs 0 ad vs h1 h2 h3⟩
        simp only [execOp, Instr.arrayAt, Sem.run_bind, run_underlying hu, Result.andThen_ok, hva, Addr.add_zero']
        rw [if_neg (by omega)]
        rfl
      · cases hv
    · cases hv

theorem foldl_push (l : List UInt8) : ∀ (acc : ByteArray), l.foldl (fun r (n : UInt8) => r.push n) acc = ⟨acc.data ++ l.toArray⟩ := by
  induction l with
  | nil => intro acc; simp
  | cons x l ih => intro acc; rw [List.foldl_cons, ih]; simp [ByteArray.push]

theorem unbytes_some : ∀ {ys : List AV} {l : List UInt8} {vs : List Value}, unbytes ys = some l → RVs C ys vs → ∃ ns : List Int, vs = ns.map (Value.int .u8) ∧ l = ns.map fun n => UInt8.ofNat n.toNat
  | [], l, vs, hu, hv => by
    simp [unbytes] at hu; subst hu
    have : vs = [] := List.eq_nil_of_length_eq_zero hv.1
    exact ⟨[], by simp [this], rfl⟩
  | y :: ys, l, vs, hu, hv => by
    cases vs with
    | nil => have := hv.1; simp at this
    | cons u vs =>
      have h0 := hv.2 0 y u rfl rfl
      have hrest : RVs C ys vs := ⟨by simpa using hv.1, fun k x v hx hv' => hv.2 (k + 1) x v (by simpa using hx) (by simpa using hv')⟩
      cases y with
      | i k m =>
        cases k with
        | u8 =>
          cases hr : unbytes ys with
          | none => simp [unbytes, hr] at hu
          | some r =>
            simp [unbytes, hr] at hu
            obtain ⟨ns, h1, h2⟩ := unbytes_some hr hrest
            obtain rfl := h0.inv_i
            exact ⟨m :: ns, by simp [h1], by simp [← hu, h2]⟩
        | _ => simp [unbytes] at hu
      | _ => simp [unbytes] at hu

theorem bytesA_get (u : ByteArray) (k : Nat) : (bytesA u)[k]? = (u.data.toList[k]?).map fun b => AV.i .u8 (b.toNat : Int) := by simp [bytesA]
theorem bytesA_len (u : ByteArray) : (bytesA u).length = u.size := by simp [bytesA]
theorem bytesA_one (u : ByteArray) : ∀ (k : Nat) (x : AV), (bytesA u)[k]? = some x → x.one = true := fun k x hx => by
  rw [bytesA_get] at hx
  cases hk : u.data.toList[k]? with
  | none => rw [hk] at hx; cases hx
  | some b => rw [hk] at hx; simp at hx; subst hx; rfl
theorem bytesA_rvs (C : Cx) (u : ByteArray) : RVs C (bytesA u) (u.data.toList.map fun b => Value.int .u8 b.toNat) :=
  ⟨by simp [bytesA], fun k x v hx hv => by
    rw [bytesA_get] at hx
    rw [List.getElem?_map] at hv
    cases hk : u.data.toList[k]? with
    | none => rw [hk] at hx; cases hx
    | some b => rw [hk] at hx hv; simp at hx hv; subst hx; subst hv; exact .i _ _⟩

theorem sound_conv {S D : TypeId} {x : Operand} (hx : okX x = true) (hv : aconv P S D h n (aev t x) = some (v, us, n')) : Sound P (.convert S D x) t h n v us n' := by
  generalize hp : aev t x = p at hv
  unfold aconv at hv
  split at hv
  · rename_i k0 k k' m hs hd
    simp only [Option.some.injEq, Prod.mk.injEq] at hv
    obtain ⟨rfl, rfl, rfl⟩ := hv
    refine Sound.val fun ty d U ρ Ro w a hrel ht => ?_
    have hr := rv_ev ht hx
    rw [hp] at hr
    have hva := hr.inv_i
    obtain ⟨Ds, hds, _⟩ := kiT_some hs
    obtain ⟨Dd, hdd, _, h1, _⟩ := kiT_some hd
    obtain rfl := (h1 k).1 rfl
    exact ⟨.int k (k.wrap m), .inl (by simp [execOp, convert, run_underlying hds, run_underlying hdd, hva, Conv.intToInt]), .i _ _⟩
  · rename_i u hs hd
    simp only [Option.some.injEq, Prod.mk.injEq] at hv
    obtain ⟨rfl, rfl, rfl⟩ := hv
    refine Sound.val fun ty d U ρ Ro w a hrel ht => ?_
    have hr := rv_ev ht hx
    rw [hp] at hr
    have hva := hr.inv_s
    obtain ⟨Ds, hds, _⟩ := kiT_some hs
    obtain ⟨Dd, hdd, _, _, h1, _⟩ := kiT_some hd
    obtain rfl := h1.1 rfl
    exact ⟨.string u, .inl (by simp [execOp, convert, run_underlying hds, run_underlying hdd, hva]), .s _⟩
  · rename_i k0 k' m hs hd
    simp only [Option.some.injEq, Prod.mk.injEq] at hv
    obtain ⟨rfl, rfl, rfl⟩ := hv
    refine Sound.val fun ty d U ρ Ro w a hrel ht => ?_
    have hr := rv_ev ht hx
    rw [hp] at hr
    have hva := hr.inv_i
    obtain ⟨Ds, hds, _⟩ := kiT_some hs
    obtain ⟨Dd, hdd, _, _, h1, _⟩ := kiT_some hd
    obtain rfl := h1.1 rfl
    exact ⟨.string (Utf8.encode m), .inl (by simp [execOp, convert, run_underlying hds, run_underlying hdd, hva, Conv.intToString]), .s _⟩
  · rename_i u hs hd
    split at hv
    · rename_i e hu
      split at hv
      · rename_i hke
        obtain ⟨hke, hsz⟩ := hke
        simp only [Option.some.injEq, Prod.mk.injEq] at hv
        obtain ⟨rfl, rfl, rfl⟩ := hv
        intro ty d U ρ Ro w a hm hrel ht
        rw [ext_succ]
        have hr := rv_ev ht hx
        rw [hp] at hr
        have hva := hr.inv_s
        obtain ⟨Ds, hds, _⟩ := kiT_some hs
        obtain ⟨De, hde, _, h1, _⟩ := kiT_some hke
        obtain rfl := (h1 .u8).1 rfl
        have hcap : u.size ≤ grownCap w u.size 0 e := grownCap_ge ..
        have hcapm : grownCap w u.size 0 e ≤ maxLen := grownCap_le_maxLen _ _ _ _ (by unfold maxLen; omega)
        let c : Array Value := u.data.map (fun b => Value.int .u8 b.toNat) ++ Array.replicate (grownCap w u.size 0 e - u.size) (.int .u8 0)
        have hcsz : c.size = grownCap w u.size 0 e := by
          have h2 : u.data.size = u.size := rfl
          simp only [c, Array.size_append, Array.size_map, Array.size_replicate, h2]; omega
        let w1 : World := Lib.bytesWorld w e u
        have hheap : w1.heap = w.heap.push (.cells c e (c.size, c.size + 1)) := by
          have hc : Lib.bytesCells w e u = c := rfl
          show (World.freeze (w.drew.alloc (.cells (Lib.bytesCells w e u) e)) ⟨w.heap.size, (Lib.bytesCells w e u).size, none⟩ 1).heap = _
          rw [hc]
          apply Array.ext_getElem?
          intro k
          simp only [World.freeze, Nat.one_ne_zero, if_false, Array.getElem?_modify]
          have h1 : (w.drew.alloc (.cells c e)).heap = w.heap.push (.cells c e) := rfl
          rw [h1, Array.getElem?_push, Array.getElem?_push]
          by_cases hk : k = w.heap.size
          · subst hk; simp
          · rw [if_neg hk, if_neg hk, if_neg (fun e => hk e.symm)]
        have hsame : Same w w1 := by
          show Same w (World.freeze (w.drew.alloc (.cells (Lib.bytesCells w e u) e)) _ 1)
          exact ⟨rfl, rfl, rfl⟩
        have hcell : ∀ (k : Nat) (x : AV) (v : Value), (bytesA u)[k]? = some x → c[k]? = some v → RV (cx U ρ Ro w) x v := fun k x v hx hv => by
          have hk : k < u.size := by
            rcases Nat.lt_or_ge k u.size with h' | h'
            · exact h'
            · rw [List.getElem?_eq_none (by rw [bytesA_len]; exact h')] at hx; cases hx
          have : c[k]? = (u.data.map (fun b => Value.int .u8 b.toNat))[k]? := Array.getElem?_append_left (by simpa using hk)
          rw [this] at hv
          exact (bytesA_rvs _ u).2 k x v hx (by simpa using hv)
        obtain ⟨ρ', Ro', g0, g1, g2⟩ := new_slice (w1 := w1) hrel (hm n (Nat.le_refl _) (Nat.lt_succ_self _)) hsame (c := c) (T := e) (lo := c.size) (hi := c.size + 1) hheap (.inr (Nat.le_refl _)) (by rw [bytesA_len, hcsz]; exact hcap) (bytesA_one u) hcell
          (sz := 1) (len := u.size) (cap := grownCap w u.size 0 e) hcap hcapm (by omega)
        refine ⟨_, w1, ρ', Ro', .inl ?_, g0, g1, g2⟩
        simp only [execOp, hva, Sem.run_bind, Lib.run_convert_string_bytes w S D e u hds hu hde, Result.andThen_ok]
        rfl
      · cases hv
    · cases hv
  · rename_i x' hs hd
    split at hv
    · rename_i e hu
      split at hv
      · rename_i hke
        split at hv
        · rename_i cs off len hview
          split at hv
          · rename_i l hub
            split at hv
            · rename_i hle
              simp only [Option.some.injEq, Prod.mk.injEq] at hv
              obtain ⟨rfl, rfl, rfl⟩ := hv
              refine Sound.val fun ty d U ρ Ro w a hrel ht => ?_
              have hr := rv_ev ht hx
              rw [hp] at hr
              obtain ⟨De, hde, _, h1, _⟩ := kiT_some hke
              obtain rfl := (h1 .u8).1 rfl
              obtain ⟨Dd, hdd, _, _, h2, _⟩ := kiT_some hd
              obtain rfl := h2.1 rfl
              obtain ⟨ad, cap, hva, hnil, hrd⟩ := hrel.show_ hr hview
              have hlen : ((cs.drop off).take len).length = len := by simp; omega
              refine ⟨.string ⟨l.toArray⟩, .inl ?_, .s _⟩
              have hc := run_convert_bytes_string w S D e ad len cap hu hde hdd
              simp only [execOp, hva, Sem.run_bind, hc]
              cases ad with
              | none =>
                obtain ⟨rfl, rfl⟩ := hnil rfl
                simp [unbytes] at hub
                subst hub
                rfl
              | some ad =>
                obtain ⟨vs, g1, g2, g3, g4⟩ := exists_cells (C := cx U ρ Ro w) (a := ad) len hlen.symm (fun k y hy => by
                  rw [List.getElem?_take] at hy
                  split at hy
                  · rw [List.getElem?_drop] at hy; exact hrd ad rfl k y hy
                  · cases hy)
                obtain ⟨ns, g5, g6⟩ := unbytes_some hub g2
                have hl := run_loads P vs ad g3
                rw [g1, g5] at hl
                rw [run_bytesToString w ad len cap ns hl]
                have : ns.foldl (fun r n => r.push (UInt8.ofNat n.toNat)) ByteArray.empty = ⟨l.toArray⟩ := by
                  rw [g6]
                  have h3 := foldl_push (ns.map fun n => UInt8.ofNat n.toNat) ByteArray.empty
                  rw [List.foldl_map] at h3
                  rw [h3]
                  rw [show ByteArray.empty.data = #[] from rfl, Array.empty_append]
                rw [this]
                rfl
            · cases hv
          · cases hv
        · cases hv
      · cases hv
    · cases hv
  · cases hv

end Go.Av
