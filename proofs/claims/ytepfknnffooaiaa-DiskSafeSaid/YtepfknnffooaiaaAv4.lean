/- What one operation does, told of abstract values: it is so. Part 1. -/
import Derived.Test.YtepfknnffooaiaaAv3
namespace Go.Av

variable {P : Program} {U : Nat → Prop} {n n' : Nat} {ρ : Nat → Nat} {Ro : Nat → Prop} {h : Heap} {w w1 : World} {t : Tmps} {a : Act} {o : Oper} {C : Cx} {v : AV} {us : List (Nat × Option Row)}

def opOk (o : Op) : Bool := o.operands.all okX

/-- The operation, run: what it leaves in its temporary. -/
def Ran (P : Program) (o : Op) (ty : TypeId) (d : Oper) (a : Act) (w : World) (x : Value) (w' : World) : Prop :=
  (execOp a.eval { d with op := o, type := ty }).run P w = .ok (.value x) w' ∨ ((execOp a.eval { d with op := o, type := ty }).run P w = .ok .skip w' ∧ x = undef)

def Sound (P : Program) (o : Op) (t : Tmps) (h : Heap) (n : Nat) (v : AV) (us : List (Nat × Option Row)) (n' : Nat) : Prop :=
  ∀ (ty : TypeId) (d : Oper) U ρ Ro w a, (∀ j, n ≤ j → j < n' → ¬ U j) → Rel U ρ Ro h w → RelT (cx U ρ Ro w) t a →
    ∃ x w' ρ' Ro', Ran P o ty d a w x w' ∧ RV (cx (Av.ext U n n') ρ' Ro' w') v x ∧ Rel (Av.ext U n n') ρ' Ro' (app us h) w' ∧ Ext U ρ Ro h w (Av.ext U n n') ρ' Ro' (app us h) w'

/-- Nothing but a value. -/
theorem Sound.val {o : Op} (hv : ∀ (ty : TypeId) (d : Oper) U ρ Ro w a, Rel U ρ Ro h w → RelT (cx U ρ Ro w) t a → ∃ x, Ran P o ty d a w x w ∧ RV (cx U ρ Ro w) v x) : Sound P o t h n v [] n :=
  fun ty d U ρ Ro w a _ hr ht => let ⟨x, h1, h2⟩ := hv ty d U ρ Ro w a hr ht; ⟨x, w, ρ, Ro, h1, by rw [ext_self]; exact h2, by rw [ext_self]; exact hr, by rw [ext_self]; exact Ext.refl ..⟩

/-! inversions -/
theorem RV.inv_b {u : Bool} {x : Value} (h : RV C (.b u) x) : x = .bool u := by cases h; rfl
theorem RV.inv_i {k : IntKind} {m : Int} {x : Value} (h : RV C (.i k m) x) : x = .int k m := by cases h; rfl
theorem RV.inv_s {u : ByteArray} {x : Value} (h : RV C (.s u) x) : x = .string u := by cases h; rfl
theorem RV.inv_p {j off : Nat} {x : Value} (h : RV C (.p j off) x) : C.U j ∧ x = .pointer (some ⟨C.ρ j, off, none⟩) := by cases h; exact ⟨by assumption, rfl⟩
theorem RV.inv_q {cs : List AV} {off : Nat} {x : Value} (h : RV C (.q cs off) x) : ∃ (b : Addr) (vs : Nat → Value), x = .pointer (some (b.add off)) ∧ (∀ (k : Nat) (x : AV), cs[k]? = some x → x.one = true) ∧
    (∀ (k : Nat) (x : AV), cs[k]? = some x → C.M (b.add k) (vs k)) ∧ (∀ (k : Nat) (x : AV), cs[k]? = some x → RV C x (vs k)) := by cases h; exact ⟨_, _, rfl, by assumption, by assumption, by assumption⟩
theorem RV.inv_ro0 {cs : List AV} {len : Nat} {x : Value} (h : RV C (.ro false cs len) x) : ∃ (b : Addr) (cap : Nat) (vs : Nat → Value), x = .slice (some b) len cap ∧ len ≤ cap ∧ cap ≤ maxLen ∧ (∀ (k : Nat) (x : AV), cs[k]? = some x → x.one = true) ∧
    (∀ (k : Nat) (x : AV), cs[k]? = some x → C.M (b.add k) (vs k)) ∧ (∀ (k : Nat) (x : AV), cs[k]? = some x → RV C x (vs k)) := by cases h; exact ⟨_, _, _, rfl, by assumption, by assumption, by assumption, by assumption, by assumption⟩
theorem RV.inv_ro1 {cs : List AV} {len : Nat} {x : Value} (h : RV C (.ro true cs len) x) : cs = [] ∧ len = 0 ∧ x = .slice none 0 0 := by cases h; exact ⟨rfl, rfl, rfl⟩
theorem RV.inv_ni {x : Value} (h : RV C .ni x) : x = .nilIface := by cases h; rfl
theorem RV.inv_ifc {T : TypeId} {u : AV} {x : Value} (h : RV C (.ifc T u) x) : ∃ y, x = .iface T y ∧ RV C u y := by cases h; exact ⟨_, rfl, by assumption⟩
theorem RV.inv_agg {cs : List AV} {x : Value} (h : RV C (.agg cs) x) : ∃ vs : Array Value, x = .agg vs ∧ vs.size = cs.length ∧ (∀ (k : Nat) (x : AV), cs[k]? = some x → x.one = true) ∧ ∀ (k : Nat) (x : AV) (v : Value), cs[k]? = some x → vs[k]? = some v → RV C x v := by
  cases h; exact ⟨_, rfl, by assumption, by assumption, by assumption⟩
theorem RV.inv_tup {cs : List AV} {x : Value} (h : RV C (.tup cs) x) : ∃ vs : Array Value, x = .tuple vs ∧ vs.size = cs.length ∧ ∀ (k : Nat) (x : AV) (v : Value), cs[k]? = some x → vs[k]? = some v → RV C x v := by
  cases h; exact ⟨_, rfl, by assumption, by assumption⟩
theorem RV.inv_sl {sz j off len : Nat} {x : Value} (h : RV C (.sl sz j off len) x) : ∃ cap, x = .slice (some ⟨C.ρ j, off, none⟩) len cap ∧ C.U j ∧ len ≤ cap ∧ cap ≤ maxLen ∧ off + cap * sz ≤ C.Z (C.ρ j) := by
  cases h; exact ⟨_, rfl, by assumption, by assumption, by assumption, by assumption⟩
theorem RV.inv_nil {x : Value} (h : RV C (.ro true [] 0) x) : x = .slice none 0 0 := by cases h; rfl
theorem RV.inv_ro {z : Bool} {cs : List AV} {len : Nat} {x : Value} (h : RV C (.ro z cs len) x) : ∃ a cap, x = .slice a len cap ∧ len ≤ cap := by
  cases h
  · exact ⟨_, _, rfl, Nat.le_refl _⟩
  · exact ⟨_, _, rfl, by assumption⟩
theorem RV.inv_fn {f : Fn} {first cap : List AV} {x : Value} (h : RV C (.fn f first cap) x) : ∃ vs us : Array Value, x = .func f vs us ∧ RVs C first vs.toList ∧ RVs C cap us.toList := by
  cases h with
  | fn _ _ _ vs us h1 h2 h3 h4 => exact ⟨vs, us, rfl, ⟨by simpa using h1, fun k x v hx hv => h3 k x v hx (by simpa using hv)⟩, ⟨by simpa using h2, fun k x v hx hv => h4 k x v hx (by simpa using hv)⟩⟩

theorem RV.mk_agg {cs : List AV} {vs : List Value} (h : RVs C cs vs) (h1 : ∀ (k : Nat) (x : AV), cs[k]? = some x → x.one = true) : RV C (.agg cs) (.agg vs.toArray) :=
  .agg _ _ (by simpa using h.1) h1 (fun k x v hx hv => h.2 k x v hx (by simpa using hv))

/-! the facts on types -/
theorem szT_some {T : TypeId} {z : Nat} (hz : szT P T = some z) : ∃ i, P.info? T = some i ∧ i.size = z := by
  unfold szT at hz
  cases hi : P.info? T with
  | none => rw [hi] at hz; cases hz
  | some i => rw [hi] at hz; simp at hz; exact ⟨i, rfl, hz⟩
theorem byT_some {T : TypeId} {z : Nat} (hz : byT P T = some z) : ∃ i, P.info? T = some i ∧ i.bytes = z := by
  unfold byT at hz
  cases hi : P.info? T with
  | none => rw [hi] at hz; cases hz
  | some i => rw [hi] at hz; simp at hz; exact ⟨i, rfl, hz⟩
theorem agT_some {T : TypeId} {g : Bool} (hg : agT P T = some g) : ∃ d, P.underlying T = some d ∧ (isAgg T).run P w = .ok g w := by
  unfold agT at hg
  cases hu : P.underlying T with
  | none => rw [hu] at hg; cases hg
  | some d => refine ⟨d, rfl, ?_⟩; rw [hu] at hg; cases d <;> simp at hg <;> subst hg <;> simp [isAgg, run_underlying hu]
theorem zeT_some {T : TypeId} {cs : List AV} (hz : zeT P T = some cs) : ∃ i z, P.info? T = some i ∧ i.zero = some z ∧ okC z = true ∧ (ofC z).cells = cs := by
  unfold zeT at hz
  cases hi : P.info? T with
  | none => rw [hi] at hz; cases hz
  | some i =>
    rw [hi] at hz
    simp only [Option.bind_some] at hz
    cases hzz : i.zero with
    | none => rw [hzz] at hz; cases hz
    | some z =>
      rw [hzz] at hz
      simp only at hz
      split at hz
      · rename_i hok
        exact ⟨i, z, rfl, hzz, hok, by injection hz⟩
      · cases hz
theorem run_sizeOf {T : TypeId} {z : Nat} (hz : szT P T = some z) : (sizeOf T).run P w = .ok z w := by
  obtain ⟨i, hi, rfl⟩ := szT_some hz
  simp [sizeOf, typeInfo, hi]
theorem run_zeroValue {T : TypeId} {i : TypeInfo} {z : Value} (hi : P.info? T = some i) (hz : i.zero = some z) : (zeroValue T).run P w = .ok z w := by
  simp [zeroValue, typeInfo, hi, hz]
theorem slT_some {T : TypeId} {e : TypeId} {z b : Nat} (hs : slT P T = some (e, z, b)) : P.underlying T = some (.slice e) ∧ szT P e = some z ∧ byT P e = some b := by
  unfold slT at hs
  split at hs
  · rename_i e' hu
    split at hs
    · rename_i z' b' h1 h2
      simp only [Option.some.injEq, Prod.mk.injEq] at hs
      obtain ⟨rfl, rfl, rfl⟩ := hs
      exact ⟨hu, h1, h2⟩
    · cases hs
  · cases hs
theorem arT_some {T : TypeId} {m z : Nat} {g : Bool} (hs : arT P T = some (m, z, g)) : ∃ e, P.underlying T = some (.array m e) ∧ szT P e = some z ∧ agT P e = some g := by
  unfold arT at hs
  split at hs
  · rename_i m' e' hu
    split at hs
    · rename_i z' b' h1 h2
      simp only [Option.some.injEq, Prod.mk.injEq] at hs
      obtain ⟨rfl, rfl, rfl⟩ := hs
      exact ⟨_, hu, h1, h2⟩
    · cases hs
  · cases hs
theorem flT_some {T : TypeId} {i off z : Nat} {g : Bool} (hs : flT P T i = some (off, z, g)) : ∃ fs f, P.underlying T = some (.struct fs) ∧ fs[i]? = some f ∧ f.offset = off ∧ szT P f.type = some z ∧ agT P f.type = some g := by
  unfold flT at hs
  split at hs
  · rename_i fs hu
    split at hs
    · rename_i f hf
      split at hs
      · rename_i z' b' h1 h2
        simp only [Option.some.injEq, Prod.mk.injEq] at hs
        obtain ⟨rfl, rfl, rfl⟩ := hs
        exact ⟨fs, f, hu, hf, rfl, h1, h2⟩
      · cases hs
    · cases hs
  · cases hs
theorem kiT_some {T : TypeId} {k : Kind} (hk : kiT P T = some k) : ∃ d, P.underlying T = some d ∧ (k = .bool ↔ d = .bool) ∧ (∀ i, k = .int i ↔ d = .int i) ∧ (k = .string ↔ d = .string) ∧ (k = .iface ↔ ∃ ms, d = .interface ms) := by
  unfold kiT at hk
  split at hk <;> first | (cases hk; done) | skip
  all_goals
    rename_i hu
    injection hk with hk
    subst hk
    refine ⟨_, hu, ?_, ?_, ?_, ?_⟩ <;> simp
  all_goals
    rename_i h1 h2 h3 h4
    first
      | exact h1
      | exact h3
      | exact h2
      | exact h4
      | (intro i e; exact h2 i e)

/-! memory -/
theorem run_loads (P : Program) (cs : List Value) (a : Addr) (hc : ∀ (j : Nat) v, cs[j]? = some v → w.cell? (a.add j) = some v) : (loadCells a cs.length).run P w = .ok cs.toArray w :=
  run_loadCells_list w a cs hc

/-- Cells that are read one by one, as a list. -/
theorem exists_cells {cs : List AV} {a : Addr} (m : Nat) (hm : m = cs.length) (hc : ∀ k y, cs[k]? = some y → y.one = true ∧ ∃ u, w.cell? (a.add k) = some u ∧ RV C y u) :
    ∃ vs : List Value, vs.length = m ∧ RVs C cs vs ∧ (∀ j v, vs[j]? = some v → w.cell? (a.add j) = some v) ∧ (∀ u ∈ vs, u.oneCell' = true) := by
  have key : ∀ k, ∃ u, k < cs.length → (w.cell? (a.add k) = some u ∧ ∀ y, cs[k]? = some y → RV C y u ∧ y.one = true) := by
    intro k
    by_cases hk : k < cs.length
    · have hy : cs[k]? = some cs[k] := List.getElem?_eq_getElem hk
      obtain ⟨h1, u, hu, hrv⟩ := hc k cs[k] hy
      exact ⟨u, fun _ => ⟨hu, fun y hy' => by rw [hy] at hy'; injection hy' with hy'; subst hy'; exact ⟨hrv, h1⟩⟩⟩
    · exact ⟨default, fun h => absurd h hk⟩
  let f : Nat → Value := fun k => (key k).choose
  have hf : ∀ k, k < cs.length → w.cell? (a.add k) = some (f k) ∧ ∀ y, cs[k]? = some y → RV C y (f k) ∧ y.one = true := fun k hk => (key k).choose_spec hk
  have hget : ∀ (k : Nat) (v : Value), ((List.range cs.length).map f)[k]? = some v → k < cs.length ∧ v = f k := fun k v hv => by
    rw [List.getElem?_map] at hv
    cases hr : (List.range cs.length)[k]? with
    | none => rw [hr] at hv; cases hv
    | some i =>
      rw [hr] at hv
      simp at hv
      have hi := List.getElem?_eq_some_iff.1 hr
      obtain ⟨hlt, he⟩ := hi
      simp at hlt he
      subst he
      exact ⟨hlt, hv.symm⟩
  refine ⟨(List.range cs.length).map f, by simp [hm], ⟨by simp, fun k x v hx hv => ?_⟩, fun j v hv => ?_, fun u hu => ?_⟩
  · obtain ⟨hk, rfl⟩ := hget k v hv
    exact ((hf k hk).2 x hx).1
  · obtain ⟨hk, rfl⟩ := hget j v hv
    exact (hf j hk).1
  · obtain ⟨k, hk, rfl⟩ := List.mem_map.1 hu
    simp at hk
    have := (hf k hk).2 cs[k] (List.getElem?_eq_getElem hk)
    exact (this.1.one_cell this.2).1

/-- A variable read. -/
theorem run_loadVar_part {T : TypeId} {g : Bool} {z : Nat} (hg : agT P T = some g) (hz : szT P T = some z) {cs : List AV} {off : Nat} {a : Addr}
    (hc : ∀ (k : Nat) (y : AV), cs[off + k]? = some y → y.one = true ∧ ∃ u, w.cell? (a.add k) = some u ∧ RV C y u) {v : AV} (hp : part g cs off z = some v) :
    ∃ x, (loadVar T a).run P w = .ok x w ∧ RV C v x := by
  obtain ⟨d, hd, hag⟩ := agT_some (w := w) hg
  cases g with
  | true =>
    simp only [part, if_true] at hp
    split at hp
    · rename_i hle
      injection hp with hp
      subst hp
      have hlen : ((cs.drop off).take z).length = z := by simp; omega
      have hget : ∀ (k : Nat) (y : AV), ((cs.drop off).take z)[k]? = some y → y.one = true ∧ ∃ u, w.cell? (a.add k) = some u ∧ RV C y u := fun k y hy => by
        rw [List.getElem?_take] at hy
        split at hy
        · rw [List.getElem?_drop] at hy; exact hc k y hy
        · cases hy
      obtain ⟨vs, h1, h2, h3, h4⟩ := exists_cells z hlen.symm hget
      refine ⟨.agg vs.toArray, ?_, RV.mk_agg h2 (fun k x hx => (hget k x hx).1)⟩
      have := run_loads P vs a h3
      rw [h1] at this
      simp [loadVar, hag, run_sizeOf hz, this]
    · cases hp
  | false =>
    simp only [part, Bool.false_eq_true, if_false] at hp
    obtain ⟨_, u, hu, hrv⟩ := hc 0 v (by simpa using hp)
    rw [Addr.add_zero'] at hu
    exact ⟨u, by simp [loadVar, hag, hu], hrv⟩

/-- A part of what lies in a temporary. -/
theorem run_part {T : TypeId} {g : Bool} {z : Nat} (hg : agT P T = some g) (hz : szT P T = some z) {cs : List AV} {off : Nat} {vs : Array Value} (hsz : vs.size = cs.length) (h1 : ∀ (k : Nat) (x : AV), cs[k]? = some x → x.one = true)
    (hc : ∀ (k : Nat) (x : AV) (v : Value), cs[k]? = some x → vs[k]? = some v → RV C x v) {v : AV} (hp : part g cs off z = some v) :
    ∃ x, (Go.part T vs off).run P w = .ok x w ∧ RV C v x := by
  obtain ⟨d, hd, hag⟩ := agT_some (w := w) hg
  cases g with
  | true =>
    simp only [part, if_true] at hp
    split at hp
    · rename_i hle
      injection hp with hp
      subst hp
      refine ⟨.agg (vs.extract off (off + z)), by simp [Go.part, hag, run_sizeOf hz], .agg _ _ (by simp; omega) (fun k x hx => ?_) (fun k x u hx hu => ?_)⟩
      · rw [List.getElem?_take] at hx
        split at hx
        · rw [List.getElem?_drop] at hx; exact h1 _ x hx
        · cases hx
      · rw [List.getElem?_take] at hx
        split at hx
        · rename_i hk
          rw [List.getElem?_drop] at hx
          rw [Array.getElem?_extract] at hu
          split at hu
          · exact hc _ x u hx hu
          · cases hu
        · cases hx
    · cases hp
  | false =>
    simp only [part, Bool.false_eq_true, if_false] at hp
    have hlt : off < vs.size := by
      rw [hsz]
      rcases Nat.lt_or_ge off cs.length with h' | h'
      · exact h'
      · rw [List.getElem?_eq_none h'] at hp; cases hp
    have hv : vs[off]? = some vs[off] := Array.getElem?_eq_getElem hlt
    exact ⟨vs[off], by simp [Go.part, hag, hv], hc off v _ hp hv⟩

end Go.Av
