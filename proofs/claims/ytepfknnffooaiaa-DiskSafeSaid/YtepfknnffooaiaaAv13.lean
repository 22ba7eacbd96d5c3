/- What one operation that is no call of a function does, told of abstract values: it is so. -/
import Derived.Test.YtepfknnffooaiaaAv12
namespace Go.Av

variable {P : Program} {n n' : Nat} {h : Heap} {t : Tmps} {v : AV} {us : List (Nat × Option Row)}

theorem val_some {r : Option AV} (hv : (r.map fun v => (v, ([] : List (Nat × Option Row)), n)) = some (v, us, n')) : r = some v ∧ us = [] ∧ n' = n := by
  cases r with
  | none => cases hv
  | some r => simp at hv; obtain ⟨rfl, rfl, rfl⟩ := hv; exact ⟨rfl, rfl, rfl⟩

theorem abuiltin_sound {b : Builtin} {args : Array Operand} {Ts : Array TypeId} (ho : opOk (.call { callee := .builtin b, args := args, argTypes := Ts }) = true) (hv : abuiltin P b args.toList Ts.toList t h n = some (v, us, n')) :
    Sound P (.call { callee := .builtin b, args := args, argTypes := Ts }) t h n v us n' := by
  have hx : ∀ x ∈ args.toList, okX x = true := fun x hm => okX1 ho (by simpa [Op.operands, Call.operands] using hm)
  have e1 : ∀ {l : List Operand}, args.toList = l → args = l.toArray := fun he => by rw [← he]
  have e2 : ∀ {l : List TypeId}, Ts.toList = l → Ts = l.toArray := fun he => by rw [← he]
  unfold abuiltin at hv
  split at hv
  · rename_i x T ha hT
    rw [ha] at hx
    obtain rfl := e1 ha
    obtain rfl := e2 hT
    obtain ⟨h1, rfl, rfl⟩ := val_some hv
    cases hl : alen P T (aev t x) with
    | none => rw [hl] at h1; cases h1
    | some m =>
      rw [hl] at h1
      simp at h1
      subst h1
      exact sound_len (hx _ (by simp)) hl
  · rename_i s x T U ha hT
    rw [ha] at hx
    obtain rfl := e1 ha
    obtain rfl := e2 hT
    exact sound_append (hx _ (by simp)) (hx _ (by simp)) hv
  · rename_i s x T U ha hT
    rw [ha] at hx
    obtain rfl := e1 ha
    obtain rfl := e2 hT
    exact sound_copy (hx _ (by simp)) (hx _ (by simp)) hv
  · rename_i x y ha
    rw [ha] at hx
    obtain rfl := e1 ha
    obtain ⟨h1, rfl, rfl⟩ := val_some hv
    exact sound_max (hx _ (by simp)) (hx _ (by simp)) h1
  · rename_i x y ha
    rw [ha] at hx
    obtain rfl := e1 ha
    obtain ⟨h1, rfl, rfl⟩ := val_some hv
    exact sound_min (hx _ (by simp)) (hx _ (by simp)) h1
  · cases hv

theorem aeff_sound {o : Op} (ho : opOk o = true) (hv : aeff P o t h n = some (v, us, n')) : Sound P o t h n v us n' := by
  have hx : ∀ x ∈ o.operands.toList, okX x = true := fun x hm => okX1 ho hm
  unfold aeff at hv
  split at hv
  · simp only [Option.some.injEq, Prod.mk.injEq] at hv
    obtain ⟨rfl, rfl, rfl⟩ := hv
    exact sound_move (hx _ (by simp [Op.operands]))
  · simp only [Option.some.injEq, Prod.mk.injEq] at hv
    obtain ⟨rfl, rfl, rfl⟩ := hv
    exact sound_assign (hx _ (by simp [Op.operands]))
  · split at hv
    · rename_i u hu
      simp only [Option.some.injEq, Prod.mk.injEq] at hv
      obtain ⟨rfl, rfl, rfl⟩ := hv
      exact sound_pick (hx _ (by simp [Op.operands])) (hx _ (by simp [Op.operands])) (hx _ (by simp [Op.operands])) hu
    · cases hv
  · split at hv
    · rename_i cs hz
      simp only [Option.some.injEq, Prod.mk.injEq] at hv
      obtain ⟨rfl, rfl, rfl⟩ := hv
      exact sound_alloc hz
    · cases hv
  · split at hv
    · rename_i hb
      simp only [Option.some.injEq, Prod.mk.injEq] at hv
      obtain ⟨rfl, rfl, rfl⟩ := hv
      exact sound_box (hx _ (by simp [Op.operands])) hb
    · cases hv
  · split at hv
    · rename_i zs pl hz hp
      split at hv
      · rename_i hb
        obtain ⟨h1, rfl, rfl⟩ := val_some hv
        cases hf : fillA (fun i => pl[i]?) zs _ with
        | none => rw [hf] at h1; cases h1
        | some ds =>
          rw [hf] at h1
          simp at h1
          subst h1
          exact sound_build ho hz hp hb hf
      · cases hv
    · cases hv
  · split at hv
    · rename_i e z by_ hs
      split at hv
      · rename_i zs hz
        split at hv
        · rename_i hc
          obtain ⟨h1, h2, h3, h4⟩ := hc
          split at hv
          · rename_i cs hf
            simp only [Option.some.injEq, Prod.mk.injEq] at hv
            obtain ⟨rfl, rfl, rfl⟩ := hv
            exact sound_buildSlice ho hs hz h1 h2 h3 h4 hf
          · cases hv
        · cases hv
      · cases hv
    · cases hv
  · obtain ⟨h1, rfl, rfl⟩ := val_some hv
    exact sound_load (hx _ (by simp [Op.operands])) h1
  · split at hv
    · rename_i z j off hz he
      split at hv
      · rename_i cs hj
        split at hv
        · rename_i hc
          obtain ⟨h1, h2, h3⟩ := hc
          simp only [Option.some.injEq, Prod.mk.injEq] at hv
          obtain ⟨rfl, rfl, rfl⟩ := hv
          exact sound_store (hx _ (by simp [Op.operands])) (hx _ (by simp [Op.operands])) hz he hj h1 h2 h3
        · cases hv
      · cases hv
    · cases hv
  · split at hv
    · rename_i he
      simp only [Option.some.injEq, Prod.mk.injEq] at hv
      obtain ⟨rfl, rfl, rfl⟩ := hv
      exact sound_nilCheck (hx _ (by simp [Op.operands])) ⟨he, .inl ⟨_, _, rfl⟩⟩
    · rename_i he
      simp only [Option.some.injEq, Prod.mk.injEq] at hv
      obtain ⟨rfl, rfl, rfl⟩ := hv
      exact sound_nilCheck (hx _ (by simp [Op.operands])) ⟨he, .inr (.inl ⟨_, _, rfl⟩)⟩
    · rename_i he
      simp only [Option.some.injEq, Prod.mk.injEq] at hv
      obtain ⟨rfl, rfl, rfl⟩ := hv
      exact sound_nilCheck (hx _ (by simp [Op.operands])) ⟨he, .inr (.inr ⟨_, _, _, rfl⟩)⟩
    · cases hv
  · obtain ⟨h1, rfl, rfl⟩ := val_some hv
    exact sound_bin (hx _ (by simp [Op.operands])) (hx _ (by simp [Op.operands])) h1
  · obtain ⟨h1, rfl, rfl⟩ := val_some hv
    exact sound_un (hx _ (by simp [Op.operands])) h1
  · exact sound_conv (hx _ (by simp [Op.operands])) hv
  · obtain ⟨h1, rfl, rfl⟩ := val_some hv
    exact sound_sliceToArrayPointer (hx _ (by simp [Op.operands])) h1
  · split at hv
    · cases hv
    · rename_i k hne hk
      simp only [Option.some.injEq, Prod.mk.injEq] at hv
      obtain ⟨rfl, rfl, rfl⟩ := hv
      exact sound_makeInterface (hx _ (by simp [Op.operands])) hk (fun he => by subst he; exact hne rfl)
    · cases hv
  · simp only [Option.some.injEq, Prod.mk.injEq] at hv
    obtain ⟨rfl, rfl, rfl⟩ := hv
    exact sound_makeFunc ho
  · split at hv
    · rename_i e z by_ kl l kc c hs hl hc
      split at hv
      · rename_i zs hz
        split at hv
        · rename_i hcnd
          obtain ⟨h1, h2, h3, h4, h5⟩ := hcnd
          simp only [Option.some.injEq, Prod.mk.injEq] at hv
          obtain ⟨rfl, rfl, rfl⟩ := hv
          exact sound_makeSlice (hx _ (by simp [Op.operands])) (hx _ (by simp [Op.operands])) hs hl hc hz h1 h2 h3 h4 h5
        · cases hv
      · cases hv
    · cases hv
  · obtain ⟨h1, rfl, rfl⟩ := val_some hv
    exact sound_slice (hx _ (by simp [Op.operands])) (fun y hy => hx _ (by subst hy; simp [Op.operands])) (fun y hy => hx _ (by subst hy; simp [Op.operands])) h1
  · split at hv
    · rename_i off z g hf
      split at hv
      · cases hv
      · rename_i hz
        split at hv
        · rename_i j o he
          simp only [Option.some.injEq, Prod.mk.injEq] at hv
          obtain ⟨rfl, rfl, rfl⟩ := hv
          exact sound_fieldAddr (hx _ (by simp [Op.operands])) hf hz (.inl ⟨j, o, he, rfl⟩)
        · rename_i cs o he
          simp only [Option.some.injEq, Prod.mk.injEq] at hv
          obtain ⟨rfl, rfl, rfl⟩ := hv
          exact sound_fieldAddr (hx _ (by simp [Op.operands])) hf hz (.inr ⟨cs, o, he, rfl⟩)
        · cases hv
    · cases hv
  · split at hv
    · rename_i off z g cs hf he
      obtain ⟨h1, rfl, rfl⟩ := val_some hv
      exact sound_field (hx _ (by simp [Op.operands])) hf he h1
    · cases hv
  · obtain ⟨h1, rfl, rfl⟩ := val_some hv
    exact sound_indexAddr (hx _ (by simp [Op.operands])) (hx _ (by simp [Op.operands])) h1
  · obtain ⟨h1, rfl, rfl⟩ := val_some hv
    exact sound_index (hx _ (by simp [Op.operands])) (hx _ (by simp [Op.operands])) h1
  · split at hv
    · rename_i u hk he
      simp only [Option.some.injEq, Prod.mk.injEq] at hv
      obtain ⟨rfl, rfl, rfl⟩ := hv
      exact sound_range (hx _ (by simp [Op.operands])) hk he
    · cases hv
  · split at hv
    · rename_i j he
      split at hv
      · rename_i u pos hj
        split at hv
        · rename_i hlt
          simp only [Option.some.injEq, Prod.mk.injEq] at hv
          obtain ⟨rfl, rfl, rfl⟩ := hv
          exact sound_next (hx _ (by simp [Op.operands])) he hj hlt
        · rename_i hge
          simp only [Option.some.injEq, Prod.mk.injEq] at hv
          obtain ⟨rfl, rfl, rfl⟩ := hv
          exact sound_next_end (hx _ (by simp [Op.operands])) he hj hge
      · cases hv
    · cases hv
  · split at hv
    · cases hv
    · rename_i k hne hk
      have hne' : k ≠ .iface := fun he => by subst he; exact hne rfl
      split at hv
      · rename_i T u he
        split at hv
        · rename_i hTD
          simp only [Option.some.injEq, Prod.mk.injEq] at hv
          obtain ⟨rfl, rfl, rfl⟩ := hv
          exact sound_typeAssert (hx _ (by simp [Op.operands])) hk hne' (.inl ⟨T, u, he, hTD, rfl⟩)
        · rename_i hTD
          split at hv
          · rename_i hok
            split at hv
            · rename_i z hz
              simp only [Option.some.injEq, Prod.mk.injEq] at hv
              obtain ⟨rfl, rfl, rfl⟩ := hv
              exact sound_typeAssert (hx _ (by simp [Op.operands])) hk hne' (.inr ⟨z, hok, hz, rfl, .inl ⟨T, u, he, hTD⟩⟩)
            · cases hv
          · cases hv
      · rename_i he
        split at hv
        · rename_i hok
          split at hv
          · rename_i z hz
            simp only [Option.some.injEq, Prod.mk.injEq] at hv
            obtain ⟨rfl, rfl, rfl⟩ := hv
            exact sound_typeAssert (hx _ (by simp [Op.operands])) hk hne' (.inr ⟨z, hok, hz, rfl, .inr he⟩)
          · cases hv
        · cases hv
      · cases hv
    · cases hv
  · split at hv
    · rename_i vs he
      obtain ⟨h1, rfl, rfl⟩ := val_some hv
      exact sound_extract (hx _ (by simp [Op.operands])) he h1
    · cases hv
  · rename_i c
    obtain ⟨callee, args, Ts⟩ := c
    split at hv
    · rename_i b hb
      simp only at hb
      subst hb
      exact abuiltin_sound ho hv
    · cases hv
  · cases hv

end Go.Av
