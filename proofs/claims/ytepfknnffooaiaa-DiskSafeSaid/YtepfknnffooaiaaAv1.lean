/- Abstract values, abstract heaps, and what it means that a world is as an abstract heap says. -/
import Derived.Below
import Derived.Orders
import Derived.Tactics
import Derived.WalkKit
import Derived.KernelRfl
namespace Go.Av

/-- What a Go value is, as far as it is known: read-only memory is told by its content, own memory by a row's number. -/
inductive AV where
  | b (x : Bool)
  | i (k : IntKind) (n : Int)
  | s (x : ByteArray)
  | np
  | p (j off : Nat)
  | q (cs : List AV) (off : Nat)
  | sl (sz j off len : Nat)
  | ro (z : Bool) (cs : List AV) (len : Nat)
  | nf
  | fn (f : Fn) (first cap : List AV)
  | ni
  | ifc (t : TypeId) (v : AV)
  | agg (cs : List AV)
  | tup (vs : List AV)
  deriving Inhabited

/-- It lies in one cell. -/
def AV.one : AV → Bool
  | .agg _ | .tup _ => false
  | _ => true

def AV.cells : AV → List AV
  | .agg cs => cs
  | v => [v]

inductive Row where
  | cells (cs : List AV)
  | iter (s : ByteArray) (pos : Nat)
  deriving Inhabited

abbrev Heap := Nat → Option Row
abbrev Tmps := Nat → AV

structure Cx where
  U : Nat → Prop
  ρ : Nat → Nat
  M : Addr → Value → Prop
  Z : Nat → Nat

/-- The value is as the abstract one says. -/
inductive RV (C : Cx) : AV → Value → Prop where
  | b (x : Bool) : RV C (.b x) (.bool x)
  | i (k : IntKind) (m : Int) : RV C (.i k m) (.int k m)
  | s (x : ByteArray) : RV C (.s x) (.string x)
  | np : RV C .np (.pointer none)
  | p (j off : Nat) : C.U j → RV C (.p j off) (.pointer (some ⟨C.ρ j, off, none⟩))
  | q (cs : List AV) (off : Nat) (a : Addr) (vs : Nat → Value) : (∀ (k : Nat) (x : AV), cs[k]? = some x → x.one = true) → (∀ (k : Nat) (x : AV), cs[k]? = some x → C.M (a.add k) (vs k)) → (∀ (k : Nat) (x : AV), cs[k]? = some x → RV C x (vs k)) →
      RV C (.q cs off) (.pointer (some (a.add off)))
  | sl (sz j off len cap : Nat) : C.U j → len ≤ cap → cap ≤ maxLen → off + cap * sz ≤ C.Z (C.ρ j) → RV C (.sl sz j off len) (.slice (some ⟨C.ρ j, off, none⟩) len cap)
  | ron : RV C (.ro true [] 0) (.slice none 0 0)
  | ro (cs : List AV) (len : Nat) (a : Addr) (cap : Nat) (vs : Nat → Value) : len ≤ cap → cap ≤ maxLen → (∀ (k : Nat) (x : AV), cs[k]? = some x → x.one = true) → (∀ (k : Nat) (x : AV), cs[k]? = some x → C.M (a.add k) (vs k)) → (∀ (k : Nat) (x : AV), cs[k]? = some x → RV C x (vs k)) →
      RV C (.ro false cs len) (.slice (some a) len cap)
  | nf : RV C .nf .nilFunc
  | fn (f : Fn) (first cap : List AV) (vs us : Array Value) : vs.size = first.length → us.size = cap.length → (∀ (k : Nat) (x : AV) (v : Value), first[k]? = some x → vs[k]? = some v → RV C x v) → (∀ (k : Nat) (x : AV) (v : Value), cap[k]? = some x → us[k]? = some v → RV C x v) →
      RV C (.fn f first cap) (.func f vs us)
  | ni : RV C .ni .nilIface
  | ifc (t : TypeId) (x : AV) (v : Value) : RV C x v → RV C (.ifc t x) (.iface t v)
  | agg (cs : List AV) (vs : Array Value) : vs.size = cs.length → (∀ (k : Nat) (x : AV), cs[k]? = some x → x.one = true) → (∀ (k : Nat) (x : AV) (v : Value), cs[k]? = some x → vs[k]? = some v → RV C x v) → RV C (.agg cs) (.agg vs)
  | tup (cs : List AV) (vs : Array Value) : vs.size = cs.length → (∀ (k : Nat) (x : AV) (v : Value), cs[k]? = some x → vs[k]? = some v → RV C x v) → RV C (.tup cs) (.tuple vs)

structure Cx.le (C D : Cx) : Prop where
  U : ∀ j, C.U j → D.U j
  ρ : ∀ j, C.U j → D.ρ j = C.ρ j
  M : ∀ a v, C.M a v → D.M a v
  Z : ∀ j, C.U j → D.Z (C.ρ j) = C.Z (C.ρ j)

theorem Cx.le.refl (C : Cx) : C.le C := ⟨fun _ h => h, fun _ _ => rfl, fun _ _ h => h, fun _ _ => rfl⟩
theorem Cx.le.trans {C D E : Cx} (h : C.le D) (k : D.le E) : C.le E :=
  ⟨fun j hj => k.U j (h.U j hj), fun j hj => (k.ρ j (h.U j hj)).trans (h.ρ j hj), fun a v hm => k.M a v (h.M a v hm),
   fun j hj => by have := k.Z j (h.U j hj); rw [h.ρ j hj] at this; exact this.trans (h.Z j hj)⟩

theorem RV.mono {C D : Cx} (hle : C.le D) {x : AV} {v : Value} (h : RV C x v) : RV D x v := by
  induction h with
  | b x => exact .b x
  | i k m => exact .i k m
  | s x => exact .s x
  | np => exact .np
  | p j off hj => rw [← hle.ρ j hj]; exact .p j off (hle.U j hj)
  | q cs off a vs h1 hm _ ih => exact .q cs off a vs h1 (fun k x hx => hle.M _ _ (hm k x hx)) ih
  | sl sz j off len cap hj hl hc hz =>
    rw [← hle.ρ j hj]
    refine .sl sz j off len cap (hle.U j hj) hl hc ?_
    rw [hle.ρ j hj, hle.Z j hj]; exact hz
  | ron => exact .ron
  | ro cs len a cap vs hl hc h1 hm _ ih => exact .ro cs len a cap vs hl hc h1 (fun k x hx => hle.M _ _ (hm k x hx)) ih
  | nf => exact .nf
  | fn f first cap vs us h1 h2 _ _ ih1 ih2 => exact .fn f first cap vs us h1 h2 ih1 ih2
  | ni => exact .ni
  | ifc t x v _ ih => exact .ifc t x v ih
  | agg cs vs h1 h2 _ ih => exact .agg cs vs h1 h2 ih
  | tup cs vs h1 _ ih => exact .tup cs vs h1 ih

theorem RV.one_cell {C : Cx} {x : AV} {v : Value} (h : RV C x v) (h1 : x.one = true) : v.oneCell' = true ∧ v.cells = #[v] := by
  cases h <;> first | exact ⟨rfl, rfl⟩ | cases h1

theorem RV.cells {C : Cx} {x : AV} {v : Value} (h : RV C x v) : v.cells.size = x.cells.length ∧ ∀ (k : Nat) (y : AV) (u : Value), x.cells[k]? = some y → v.cells[k]? = some u → RV C y u := by
  cases h <;> first
    | exact ⟨by assumption, by assumption⟩
    | (refine ⟨rfl, fun k y u hy hu => ?_⟩
       rcases k with _ | k
       · simp only [AV.cells, List.getElem?_cons_zero, Option.some.injEq] at hy
         simp [Value.cells] at hu
         subst hy; subst hu
         first | (constructor <;> assumption) | (constructor; done)
       · simp [AV.cells] at hy)

/-- How many cells a block has. -/
def bsz (w : World) (b : Nat) : Nat := match w.heap[b]? with | some (.cells c _ _) => c.size | _ => 0

def cx (U : Nat → Prop) (ρ : Nat → Nat) (Ro : Nat → Prop) (w : World) : Cx := ⟨U, ρ, fun a v => Ro a.block ∧ w.cell? a = some v, bsz w⟩

/-- The world is as the abstract heap says. -/
structure Rel (U : Nat → Prop) (ρ : Nat → Nat) (Ro : Nat → Prop) (h : Heap) (w : World) : Prop where
  lt : ∀ j r, h j = some r → U j
  bl : ∀ j, U j → ρ j < w.heap.size
  row : ∀ j cs, h j = some (.cells cs) → ∃ c t lo hi, w.heap[ρ j]? = some (.cells c t (lo, hi)) ∧ (hi ≤ lo ∨ c.size ≤ lo) ∧ cs.length ≤ c.size ∧
    (∀ (k : Nat) (x : AV), cs[k]? = some x → x.one = true) ∧ ∀ (k : Nat) (x : AV) (v : Value), cs[k]? = some x → c[k]? = some v → RV (cx U ρ Ro w) x v
  iter : ∀ j s pos, h j = some (.iter s pos) → w.heap[ρ j]? = some (.stringIter s pos)
  inj : ∀ i j ri rj, h i = some ri → h j = some rj → ρ i = ρ j → i = j
  sep : ∀ j r, h j = some r → ¬ Ro (ρ j)
  rob : ∀ b, Ro b → b < w.heap.size

/-- What is behind a step: nothing has gone, what was told keeps its place, and what is neither own nor new is as it was. -/
structure Ext (U : Nat → Prop) (ρ : Nat → Nat) (Ro : Nat → Prop) (h : Heap) (w : World) (U' : Nat → Prop) (ρ' : Nat → Nat) (Ro' : Nat → Prop) (h' : Heap) (w' : World) : Prop where
  nn : ∀ j, U j → U' j
  rr : ∀ j, U j → ρ' j = ρ j
  ro0 : ∀ b, Ro b → Ro' b
  ro1 : ∀ b, Ro' b → Ro b ∨ w.heap.size ≤ b ∨ ∃ j r, h j = some r ∧ ρ j = b
  os : w'.os = w.os
  tape : w'.tape = w.tape
  output : w'.output = w.output
  size : w.heap.size ≤ w'.heap.size
  blk : ∀ b, b < w.heap.size → (∀ j r, h j = some r → ρ j ≠ b) → w'.heap[b]? = w.heap[b]?
  zz : ∀ b, b < w.heap.size → bsz w' b = bsz w b
  lv : ∀ j r, h' j = some r → w.heap.size ≤ ρ' j ∨ ∃ i ri, h i = some ri ∧ ρ i = ρ' j

theorem Ext.refl (U : Nat → Prop) (ρ : Nat → Nat) (Ro : Nat → Prop) (h : Heap) (w : World) : Ext U ρ Ro h w U ρ Ro h w :=
  ⟨fun _ h => h, fun _ _ => rfl, fun _ hb => hb, fun _ hb => .inl hb, rfl, rfl, rfl, Nat.le_refl _, fun _ _ _ => rfl, fun _ _ => rfl, fun j r hj => .inr ⟨j, r, hj, rfl⟩⟩

theorem Ext.trans {U U1 U2 : Nat → Prop} {ρ ρ1 ρ2 : Nat → Nat} {Ro Ro1 Ro2 : Nat → Prop} {h h1 h2 : Heap} {w w1 w2 : World}
    (e : Ext U ρ Ro h w U1 ρ1 Ro1 h1 w1) (f : Ext U1 ρ1 Ro1 h1 w1 U2 ρ2 Ro2 h2 w2) : Ext U ρ Ro h w U2 ρ2 Ro2 h2 w2 where
  nn := fun j hj => f.nn j (e.nn j hj)
  rr := fun j hj => (f.rr j (e.nn j hj)).trans (e.rr j hj)
  ro0 := fun b hb => f.ro0 b (e.ro0 b hb)
  ro1 := fun b hb => by
    rcases f.ro1 b hb with h1 | h1 | ⟨j, r, hj, rfl⟩
    · exact e.ro1 b h1
    · exact .inr (.inl (Nat.le_trans e.size h1))
    · exact .inr (e.lv j r hj)
  os := f.os.trans e.os
  tape := f.tape.trans e.tape
  output := f.output.trans e.output
  size := Nat.le_trans e.size f.size
  blk := fun b hb hn => (f.blk b (Nat.lt_of_lt_of_le hb e.size) (fun j r hj he => by
    rcases e.lv j r hj with h3 | ⟨i, ri, hi, h3⟩
    · omega
    · exact hn i ri hi (h3.trans he))).trans (e.blk b hb hn)
  zz := fun b hb => (f.zz b (Nat.lt_of_lt_of_le hb e.size)).trans (e.zz b hb)
  lv := fun j r hj => by
    rcases f.lv j r hj with h3 | ⟨i, ri, hi, h3⟩
    · exact .inl (Nat.le_trans e.size h3)
    · rcases e.lv i ri hi with h4 | ⟨i', ri', hi', h4⟩
      · exact .inl (by omega)
      · exact .inr ⟨i', ri', hi', h4.trans h3⟩

theorem Ext.cx {U U' : Nat → Prop} {ρ ρ' : Nat → Nat} {Ro Ro' : Nat → Prop} {h h' : Heap} {w w' : World} (hr : Rel U ρ Ro h w) (e : Ext U ρ Ro h w U' ρ' Ro' h' w') :
    (cx U ρ Ro w).le (cx U' ρ' Ro' w') where
  U := e.nn
  ρ := e.rr
  M := fun a v hm => ⟨e.ro0 _ hm.1, by
    have hb := hr.rob _ hm.1
    have := e.blk a.block hb (fun j r hj he => hr.sep j r hj (by rw [he]; exact hm.1))
    simpa [World.cell?, this] using hm.2⟩
  Z := fun j hj => e.zz _ (hr.bl j hj)

/-- Fewer rows are told. -/
theorem Rel.less {U : Nat → Prop} {ρ : Nat → Nat} {Ro : Nat → Prop} {h g : Heap} {w : World} (hr : Rel U ρ Ro h w) (hg : ∀ j r, g j = some r → h j = some r) : Rel U ρ Ro g w :=
  ⟨fun j r hj => hr.lt j r (hg j r hj), hr.bl, fun j cs hj => hr.row j cs (hg j _ hj), fun j s pos hj => hr.iter j s pos (hg j _ hj),
   fun i j ri rj hi hj => hr.inj i j ri rj (hg i ri hi) (hg j rj hj), fun j r hj => hr.sep j r (hg j r hj), hr.rob⟩

def RVs (C : Cx) (xs : List AV) (vs : List Value) : Prop := vs.length = xs.length ∧ ∀ (k : Nat) (x : AV) (v : Value), xs[k]? = some x → vs[k]? = some v → RV C x v

theorem RVs.nil (C : Cx) : RVs C [] [] := ⟨rfl, fun k x v hx => by simp at hx⟩
theorem RVs.cons {C : Cx} {x : AV} {v : Value} {xs : List AV} {vs : List Value} (h : RV C x v) (hs : RVs C xs vs) : RVs C (x :: xs) (v :: vs) :=
  ⟨by simp [hs.1], fun k y u hy hu => by
    rcases k with _ | k
    · simp at hy hu; subst hy; subst hu; exact h
    · simp at hy hu; exact hs.2 k y u hy hu⟩
theorem RVs.mono {C D : Cx} (hle : C.le D) {xs : List AV} {vs : List Value} (h : RVs C xs vs) : RVs D xs vs :=
  ⟨h.1, fun k x v hx hv => (h.2 k x v hx hv).mono hle⟩
theorem RVs.append {C : Cx} {xs ys : List AV} {vs us : List Value} (h : RVs C xs vs) (k : RVs C ys us) : RVs C (xs ++ ys) (vs ++ us) := by
  refine ⟨by simp [h.1, k.1], fun i x v hx hv => ?_⟩
  by_cases hi : i < xs.length
  · rw [List.getElem?_append_left hi] at hx
    rw [List.getElem?_append_left (by rw [h.1]; exact hi)] at hv
    exact h.2 i x v hx hv
  · rw [List.getElem?_append_right (by omega)] at hx
    rw [List.getElem?_append_right (by rw [h.1]; omega), h.1] at hv
    exact k.2 _ x v hx hv

/-- An update of a heap. -/
def upd (h : Heap) (j : Nat) (r : Option Row) : Heap := fun k => if k = j then r else h k
def app (us : List (Nat × Option Row)) (h : Heap) : Heap := us.foldl (fun g u => upd g u.1 u.2) h
theorem upd_same (h : Heap) (j : Nat) (r : Option Row) : upd h j r j = r := by simp [upd]
theorem upd_ne (h : Heap) {j k : Nat} (r : Option Row) (hk : k ≠ j) : upd h j r k = h k := by simp [upd, hk]
theorem app_nil (h : Heap) : app [] h = h := rfl
theorem app_cons (u : Nat × Option Row) (us : List (Nat × Option Row)) (h : Heap) : app (u :: us) h = app us (upd h u.1 u.2) := rfl

/-- The numbers used: m more. -/
def ins (U : Nat → Prop) (m : Nat) : Nat → Prop := fun j => U j ∨ j = m
def ext (U : Nat → Prop) (n n' : Nat) : Nat → Prop := fun j => U j ∨ (n ≤ j ∧ j < n')
theorem ext_self (U : Nat → Prop) (n : Nat) : ext U n n = U := by funext j; simp only [ext, eq_iff_iff]; constructor <;> intro h; (rcases h with h | h; exact h; omega); exact .inl h
theorem ext_succ (U : Nat → Prop) (n : Nat) : ext U n (n + 1) = ins U n := by funext j; simp only [ext, ins, eq_iff_iff]; constructor <;> intro h <;> rcases h with h | h <;> first | exact .inl h | (right; omega)
theorem ext_ext (U : Nat → Prop) {n m k : Nat} (h : n ≤ m) (g : m ≤ k) : ext (ext U n m) m k = ext U n k := by funext j; simp only [ext, eq_iff_iff]; constructor <;> intro h <;> (first | (rcases h with (h | h) | h) | (rcases h with h | h)) <;> first | exact .inl h | exact .inl (.inl h) | (right; omega) | (by_cases hj : j < m; exact .inl (.inr (by omega)); right; omega)

/-- A function of the program: called with these, in a heap that is so, it comes back with this, the heap turned so. -/
def DCalls (P : Program) (f : FuncId) (args : List AV) (h : Heap) (n : Nat) (r : AV) (us : List (Nat × Option Row)) (n' : Nat) : Prop :=
  (∃ fn, P.funcs[f]? = some fn ∧ fn.body.isSome = true ∧ fn.name ≠ "runtime.NumGoroutine") ∧ n ≤ n' ∧
  ∀ U ρ Ro w xs, (∀ j, U j → j < n) → Rel U ρ Ro h w → RVs (cx U ρ Ro w) args xs → Calls P f xs.toArray w fun e w' =>
    ∃ x ρ' Ro', e = .returned x ∧ Rel (ext U n n') ρ' Ro' (app us h) w' ∧ RV (cx (ext U n n') ρ' Ro' w') r x ∧ Ext U ρ Ro h w (ext U n n') ρ' Ro' (app us h) w'

end Go.Av
