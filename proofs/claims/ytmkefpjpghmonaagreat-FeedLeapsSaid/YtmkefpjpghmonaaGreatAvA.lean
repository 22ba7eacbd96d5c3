/- Abstract values, abstract heaps, and what it means that a world is as an abstract heap says. How a world that is as an abstract heap says stays so: a block more, a row written, a row that is appended to. What one operation does, told of abstract values: the definitions. What one operation does, told of abstract values: it is so. Part 1. What one operation does, told of abstract values: it is so. Part 2: values. -/
import Derived.Below
import Derived.Orders
import Derived.Tactics
import Derived.WalkKit
import Derived.KernelRfl
import Derived.ChangeKeysEq
import Derived.Laws.StructEq
import Derived.Laws.Externs
import Derived.LoopN

section
namespace Go.Av

/-- What a Go value is, as far as it is known: read-only memory is told by its content, own memory by a row's number. -/
inductive AV where
  | b (x : Bool)
  | i (k : IntKind) (n : Int)
  | s (x : ByteArray)
  | np
  | p (j off : Nat)
  | q (cs : List AV) (off : Nat)
  | sl (sz j off len : Nat)
  | ro (z : Bool) (cs : List AV) (len : Nat)
  | nf
  | fn (f : Fn) (first cap : List AV)
  | ni
  | ifc (t : TypeId) (v : AV)
  | agg (cs : List AV)
  | tup (vs : List AV)
  deriving Inhabited

/-- It lies in one cell. -/
def AV.one : AV → Bool
  | .agg _ | .tup _ => false
  | _ => true

def AV.cells : AV → List AV
  | .agg cs => cs
  | v => [v]

inductive Row where
  | cells (cs : List AV)
  | iter (s : ByteArray) (pos : Nat)
  deriving Inhabited

abbrev Heap := Nat → Option Row
abbrev Tmps := Nat → AV

structure Cx where
  U : Nat → Prop
  ρ : Nat → Nat
  M : Addr → Value → Prop
  Z : Nat → Nat

/-- The value is as the abstract one says. -/
inductive RV (C : Cx) : AV → Value → Prop where
  | b (x : Bool) : RV C (.b x) (.bool x)
  | i (k : IntKind) (m : Int) : RV C (.i k m) (.int k m)
  | s (x : ByteArray) : RV C (.s x) (.string x)
  | np : RV C .np (.pointer none)
  | p (j off : Nat) : C.U j → RV C (.p j off) (.pointer (some ⟨C.ρ j, off, none⟩))
  | q (cs : List AV) (off : Nat) (a : Addr) (vs : Nat → Value) : (∀ (k : Nat) (x : AV), cs[k]? = some x → x.one = true) → (∀ (k : Nat) (x : AV), cs[k]? = some x → C.M (a.add k) (vs k)) → (∀ (k : Nat) (x : AV), cs[k]? = some x → RV C x (vs k)) →
      RV C (.q cs off) (.pointer (some (a.add off)))
  | sl (sz j off len cap : Nat) : C.U j → len ≤ cap → cap ≤ maxLen → off + cap * sz ≤ C.Z (C.ρ j) → RV C (.sl sz j off len) (.slice (some ⟨C.ρ j, off, none⟩) len cap)
  | ron : RV C (.ro true [] 0) (.slice none 0 0)
  | ro (cs : List AV) (len : Nat) (a : Addr) (cap : Nat) (vs : Nat → Value) : len ≤ cap → cap ≤ maxLen → (∀ (k : Nat) (x : AV), cs[k]? = some x → x.one = true) → (∀ (k : Nat) (x : AV), cs[k]? = some x → C.M (a.add k) (vs k)) → (∀ (k : Nat) (x : AV), cs[k]? = some x → RV C x (vs k)) →
      RV C (.ro false cs len) (.slice (some a) len cap)
  | nf : RV C .nf .nilFunc
  | fn (f : Fn) (first cap : List AV) (vs us : Array Value) : vs.size = first.length → us.size = cap.length → (∀ (k : Nat) (x : AV) (v : Value), first[k]? = some x → vs[k]? = some v → RV C x v) → (∀ (k : Nat) (x : AV) (v : Value), cap[k]? = some x → us[k]? = some v → RV C x v) →
      RV C (.fn f first cap) (.func f vs us)
  | ni : RV C .ni .nilIface
  | ifc (t : TypeId) (x : AV) (v : Value) : RV C x v → RV C (.ifc t x) (.iface t v)
  | agg (cs : List AV) (vs : Array Value) : vs.size = cs.length → (∀ (k : Nat) (x : AV), cs[k]? = some x → x.one = true) → (∀ (k : Nat) (x : AV) (v : Value), cs[k]? = some x → vs[k]? = some v → RV C x v) → RV C (.agg cs) (.agg vs)
  | tup (cs : List AV) (vs : Array Value) : vs.size = cs.length → (∀ (k : Nat) (x : AV) (v : Value), cs[k]? = some x → vs[k]? = some v → RV C x v) → RV C (.tup cs) (.tuple vs)

structure Cx.le (C D : Cx) : Prop where
  U : ∀ j, C.U j → D.U j
  ρ : ∀ j, C.U j → D.ρ j = C.ρ j
  M : ∀ a v, C.M a v → D.M a v
  Z : ∀ j, C.U j → D.Z (C.ρ j) = C.Z (C.ρ j)

theorem Cx.le.refl (C : Cx) : C.le C := ⟨fun _ h => h, fun _ _ => rfl, fun _ _ h => h, fun _ _ => rfl⟩
theorem Cx.le.trans {C D E : Cx} (h : C.le D) (k : D.le E) : C.le E :=
  ⟨fun j hj => k.U j (h.U j hj), fun j hj => (k.ρ j (h.U j hj)).trans (h.ρ j hj), fun a v hm => k.M a v (h.M a v hm),
   fun j hj => by have := k.Z j (h.U j hj); rw [h.ρ j hj] at this; exact this.trans (h.Z j hj)⟩

theorem RV.mono {C D : Cx} (hle : C.le D) {x : AV} {v : Value} (h : RV C x v) : RV D x v := by
  induction h with
  | b x => exact .b x
  | i k m => exact .i k m
  | s x => exact .s x
  | np => exact .np
  | p j off hj => rw [← hle.ρ j hj]; exact .p j off (hle.U j hj)
  | q cs off a vs h1 hm _ ih => exact .q cs off a vs h1 (fun k x hx => hle.M _ _ (hm k x hx)) ih
  | sl sz j off len cap hj hl hc hz =>
    rw [← hle.ρ j hj]
    refine .sl sz j off len cap (hle.U j hj) hl hc ?_
    rw [hle.ρ j hj, hle.Z j hj]; exact hz
  | ron => exact .ron
  | ro cs len a cap vs hl hc h1 hm _ ih => exact .ro cs len a cap vs hl hc h1 (fun k x hx => hle.M _ _ (hm k x hx)) ih
  | nf => exact .nf
  | fn f first cap vs us h1 h2 _ _ ih1 ih2 => exact .fn f first cap vs us h1 h2 ih1 ih2
  | ni => exact .ni
  | ifc t x v _ ih => exact .ifc t x v ih
  | agg cs vs h1 h2 _ ih => exact .agg cs vs h1 h2 ih
  | tup cs vs h1 _ ih => exact .tup cs vs h1 ih

theorem RV.one_cell {C : Cx} {x : AV} {v : Value} (h : RV C x v) (h1 : x.one = true) : v.oneCell' = true ∧ v.cells = #[v] := by
  cases h <;> first | exact ⟨rfl, rfl⟩ | cases h1

theorem RV.cells {C : Cx} {x : AV} {v : Value} (h : RV C x v) : v.cells.size = x.cells.length ∧ ∀ (k : Nat) (y : AV) (u : Value), x.cells[k]? = some y → v.cells[k]? = some u → RV C y u := by
  cases h <;> first
    | exact ⟨by assumption, by assumption⟩
    | (refine ⟨rfl, fun k y u hy hu => ?_⟩
       rcases k with _ | k
       · simp only [AV.cells, List.getElem?_cons_zero, Option.some.injEq] at hy
         simp [Value.cells] at hu
         subst hy; subst hu
         first | (constructor <;> assumption) | (constructor; done)
       · simp [AV.cells] at hy)

/-- How many cells a block has. -/
def bsz (w : World) (b : Nat) : Nat := match w.heap[b]? with | some (.cells c _ _) => c.size | _ => 0

def cx (U : Nat → Prop) (ρ : Nat → Nat) (Ro : Nat → Prop) (w : World) : Cx := ⟨U, ρ, fun a v => Ro a.block ∧ w.cell? a = some v, bsz w⟩

/-- Package variables that the program lays, and never writes; what they read as. -/
def globs : List (Addr × Value) := []
def Gl (Ro : Nat → Prop) (w : World) : Prop := ∀ p, p ∈ globs → Ro p.1.block ∧ w.cell? p.1 = some p.2

/-- The world is as the abstract heap says. -/
structure Rel (U : Nat → Prop) (ρ : Nat → Nat) (Ro : Nat → Prop) (h : Heap) (w : World) : Prop where
  lt : ∀ j r, h j = some r → U j
  bl : ∀ j, U j → ρ j < w.heap.size
  row : ∀ j cs, h j = some (.cells cs) → ∃ c t lo hi, w.heap[ρ j]? = some (.cells c t (lo, hi)) ∧ (hi = lo ∨ c.size ≤ lo) ∧ cs.length ≤ c.size ∧
    (∀ (k : Nat) (x : AV), cs[k]? = some x → x.one = true) ∧ ∀ (k : Nat) (x : AV) (v : Value), cs[k]? = some x → c[k]? = some v → RV (cx U ρ Ro w) x v
  iter : ∀ j s pos, h j = some (.iter s pos) → w.heap[ρ j]? = some (.stringIter s pos)
  inj : ∀ i j ri rj, h i = some ri → h j = some rj → ρ i = ρ j → i = j
  sep : ∀ j r, h j = some r → ¬ Ro (ρ j)
  rob : ∀ b, Ro b → b < w.heap.size
  gl : Gl Ro w

/-- What is behind a step: nothing has gone, what was told keeps its place, and what is neither own nor new is as it was. -/
structure Ext (U : Nat → Prop) (ρ : Nat → Nat) (Ro : Nat → Prop) (h : Heap) (w : World) (U' : Nat → Prop) (ρ' : Nat → Nat) (Ro' : Nat → Prop) (h' : Heap) (w' : World) : Prop where
  nn : ∀ j, U j → U' j
  rr : ∀ j, U j → ρ' j = ρ j
  ro0 : ∀ b, Ro b → Ro' b
  ro1 : ∀ b, Ro' b → Ro b ∨ w.heap.size ≤ b ∨ ∃ j r, h j = some r ∧ ρ j = b
  os : w'.os = w.os
  tape : w'.tape = w.tape
  output : w'.output = w.output
  size : w.heap.size ≤ w'.heap.size
  blk : ∀ b, b < w.heap.size → (∀ j r, h j = some r → ρ j ≠ b) → w'.heap[b]? = w.heap[b]?
  zz : ∀ b, b < w.heap.size → bsz w' b = bsz w b
  lv : ∀ j r, h' j = some r → w.heap.size ≤ ρ' j ∨ ∃ i ri, h i = some ri ∧ ρ i = ρ' j

theorem Ext.refl (U : Nat → Prop) (ρ : Nat → Nat) (Ro : Nat → Prop) (h : Heap) (w : World) : Ext U ρ Ro h w U ρ Ro h w :=
  ⟨fun _ h => h, fun _ _ => rfl, fun _ hb => hb, fun _ hb => .inl hb, rfl, rfl, rfl, Nat.le_refl _, fun _ _ _ => rfl, fun _ _ => rfl, fun j r hj => .inr ⟨j, r, hj, rfl⟩⟩

theorem Ext.trans {U U1 U2 : Nat → Prop} {ρ ρ1 ρ2 : Nat → Nat} {Ro Ro1 Ro2 : Nat → Prop} {h h1 h2 : Heap} {w w1 w2 : World}
    (e : Ext U ρ Ro h w U1 ρ1 Ro1 h1 w1) (f : Ext U1 ρ1 Ro1 h1 w1 U2 ρ2 Ro2 h2 w2) : Ext U ρ Ro h w U2 ρ2 Ro2 h2 w2 where
  nn := fun j hj => f.nn j (e.nn j hj)
  rr := fun j hj => (f.rr j (e.nn j hj)).trans (e.rr j hj)
  ro0 := fun b hb => f.ro0 b (e.ro0 b hb)
  ro1 := fun b hb => by
    rcases f.ro1 b hb with h1 | h1 | ⟨j, r, hj, rfl⟩
    · exact e.ro1 b h1
    · exact .inr (.inl (Nat.le_trans e.size h1))
    · exact .inr (e.lv j r hj)
  os := f.os.trans e.os
  tape := f.tape.trans e.tape
  output := f.output.trans e.output
  size := Nat.le_trans e.size f.size
  blk := fun b hb hn => (f.blk b (Nat.lt_of_lt_of_le hb e.size) (fun j r hj he => by
    rcases e.lv j r hj with h3 | ⟨i, ri, hi, h3⟩
    · omega
    · exact hn i ri hi (h3.trans he))).trans (e.blk b hb hn)
  zz := fun b hb => (f.zz b (Nat.lt_of_lt_of_le hb e.size)).trans (e.zz b hb)
  lv := fun j r hj => by
    rcases f.lv j r hj with h3 | ⟨i, ri, hi, h3⟩
    · exact .inl (Nat.le_trans e.size h3)
    · rcases e.lv i ri hi with h4 | ⟨i', ri', hi', h4⟩
      · exact .inl (by omega)
      · exact .inr ⟨i', ri', hi', h4.trans h3⟩

theorem Ext.cx {U U' : Nat → Prop} {ρ ρ' : Nat → Nat} {Ro Ro' : Nat → Prop} {h h' : Heap} {w w' : World} (hr : Rel U ρ Ro h w) (e : Ext U ρ Ro h w U' ρ' Ro' h' w') :
    (cx U ρ Ro w).le (cx U' ρ' Ro' w') where
  U := e.nn
  ρ := e.rr
  M := fun a v hm => ⟨e.ro0 _ hm.1, by
    have hb := hr.rob _ hm.1
    have := e.blk a.block hb (fun j r hj he => hr.sep j r hj (by rw [he]; exact hm.1))
    simpa [World.cell?, this] using hm.2⟩
  Z := fun j hj => e.zz _ (hr.bl j hj)

/-- Fewer rows are told. -/
theorem Rel.less {U : Nat → Prop} {ρ : Nat → Nat} {Ro : Nat → Prop} {h g : Heap} {w : World} (hr : Rel U ρ Ro h w) (hg : ∀ j r, g j = some r → h j = some r) : Rel U ρ Ro g w :=
  ⟨fun j r hj => hr.lt j r (hg j r hj), hr.bl, fun j cs hj => hr.row j cs (hg j _ hj), fun j s pos hj => hr.iter j s pos (hg j _ hj),
   fun i j ri rj hi hj => hr.inj i j ri rj (hg i ri hi) (hg j rj hj), fun j r hj => hr.sep j r (hg j r hj), hr.rob, hr.gl⟩

def RVs (C : Cx) (xs : List AV) (vs : List Value) : Prop := vs.length = xs.length ∧ ∀ (k : Nat) (x : AV) (v : Value), xs[k]? = some x → vs[k]? = some v → RV C x v

theorem RVs.nil (C : Cx) : RVs C [] [] := ⟨rfl, fun k x v hx => by simp at hx⟩
theorem RVs.cons {C : Cx} {x : AV} {v : Value} {xs : List AV} {vs : List Value} (h : RV C x v) (hs : RVs C xs vs) : RVs C (x :: xs) (v :: vs) :=
  ⟨by simp [hs.1], fun k y u hy hu => by
    rcases k with _ | k
    · simp at hy hu; subst hy; subst hu; exact h
    · simp at hy hu; exact hs.2 k y u hy hu⟩
theorem RVs.mono {C D : Cx} (hle : C.le D) {xs : List AV} {vs : List Value} (h : RVs C xs vs) : RVs D xs vs :=
  ⟨h.1, fun k x v hx hv => (h.2 k x v hx hv).mono hle⟩
theorem RVs.append {C : Cx} {xs ys : List AV} {vs us : List Value} (h : RVs C xs vs) (k : RVs C ys us) : RVs C (xs ++ ys) (vs ++ us) := by
  refine ⟨by simp [h.1, k.1], fun i x v hx hv => ?_⟩
  by_cases hi : i < xs.length
  · rw [List.getElem?_append_left hi] at hx
    rw [List.getElem?_append_left (by rw [h.1]; exact hi)] at hv
    exact h.2 i x v hx hv
  · rw [List.getElem?_append_right (by omega)] at hx
    rw [List.getElem?_append_right (by rw [h.1]; omega), h.1] at hv
    exact k.2 _ x v hx hv

/-- An update of a heap. -/
def upd (h : Heap) (j : Nat) (r : Option Row) : Heap := fun k => if k = j then r else h k
def app (us : List (Nat × Option Row)) (h : Heap) : Heap := us.foldl (fun g u => upd g u.1 u.2) h
theorem upd_same (h : Heap) (j : Nat) (r : Option Row) : upd h j r j = r := by simp [upd]
theorem upd_ne (h : Heap) {j k : Nat} (r : Option Row) (hk : k ≠ j) : upd h j r k = h k := by simp [upd, hk]
theorem app_nil (h : Heap) : app [] h = h := rfl
theorem app_cons (u : Nat × Option Row) (us : List (Nat × Option Row)) (h : Heap) : app (u :: us) h = app us (upd h u.1 u.2) := rfl

/-- The numbers used: m more. -/
def ins (U : Nat → Prop) (m : Nat) : Nat → Prop := fun j => U j ∨ j = m
def ext (U : Nat → Prop) (n n' : Nat) : Nat → Prop := fun j => U j ∨ (n ≤ j ∧ j < n')
theorem ext_self (U : Nat → Prop) (n : Nat) : ext U n n = U := by funext j; simp only [ext, eq_iff_iff]; constructor <;> intro h; (rcases h with h | h; exact h; omega); exact .inl h
theorem ext_succ (U : Nat → Prop) (n : Nat) : ext U n (n + 1) = ins U n := by funext j; simp only [ext, ins, eq_iff_iff]; constructor <;> intro h <;> rcases h with h | h <;> first | exact .inl h | (right; omega)
theorem ext_ext (U : Nat → Prop) {n m k : Nat} (h : n ≤ m) (g : m ≤ k) : ext (ext U n m) m k = ext U n k := by funext j; simp only [ext, eq_iff_iff]; constructor <;> intro h <;> (first | (rcases h with (h | h) | h) | (rcases h with h | h)) <;> first | exact .inl h | exact .inl (.inl h) | (right; omega) | (by_cases hj : j < m; exact .inl (.inr (by omega)); right; omega)

/-- A function of the program: called with these, in a heap that is so, it comes back with this, the heap turned so. -/
def DCalls (P : Program) (f : FuncId) (args : List AV) (h : Heap) (n : Nat) (r : AV) (us : List (Nat × Option Row)) (n' : Nat) : Prop :=
  (∃ fn, P.funcs[f]? = some fn ∧ fn.body.isSome = true ∧ fn.name ≠ "runtime.NumGoroutine") ∧ n ≤ n' ∧
  ∀ U ρ Ro w xs, (∀ j, U j → j < n) → Rel U ρ Ro h w → RVs (cx U ρ Ro w) args xs → Calls P f xs.toArray w fun e w' =>
    ∃ x ρ' Ro', e = .returned x ∧ Rel (ext U n n') ρ' Ro' (app us h) w' ∧ RV (cx (ext U n n') ρ' Ro' w') r x ∧ Ext U ρ Ro h w (ext U n n') ρ' Ro' (app us h) w'

end Go.Av
end

section
namespace Go.Av

variable {U : Nat → Prop} {n : Nat} {ρ : Nat → Nat} {Ro : Nat → Prop} {h : Heap} {w w1 : World}

/-- The same but for the blocks. -/
structure Same (w w1 : World) : Prop where
  os : w1.os = w.os
  tape : w1.tape = w.tape
  output : w1.output = w.output

theorem Same.refl (w : World) : Same w w := ⟨rfl, rfl, rfl⟩

def pin (ρ : Nat → Nat) (n b : Nat) : Nat → Nat := fun j => if j = n then b else ρ j
theorem pin_same (ρ : Nat → Nat) (n b : Nat) : pin ρ n b n = b := by simp [pin]
theorem pin_ne (ρ : Nat → Nat) {n : Nat} (b : Nat) {j : Nat} (hj : j ≠ n) : pin ρ n b j = ρ j := by simp [pin, hj]

theorem get_push {w w1 : World} {o : Obj} (hp : w1.heap = w.heap.push o) : w1.heap[w.heap.size]? = some o ∧ (∀ b, b < w.heap.size → w1.heap[b]? = w.heap[b]?) ∧ w1.heap.size = w.heap.size + 1 := by
  refine ⟨by rw [hp]; simp, fun b hb => ?_, by rw [hp]; simp⟩
  rw [hp, Array.getElem?_push, if_neg (by omega)]

/-- A new block. -/
theorem Rel.new (hr : Rel U ρ Ro h w) (hm : ¬ U n) (hs : Same w w1) {o : Obj} (hp : w1.heap = w.heap.push o) (r : Row)
    (hrow : ∀ cs, r = .cells cs → ∃ c t lo hi, o = .cells c t (lo, hi) ∧ (hi = lo ∨ c.size ≤ lo) ∧ cs.length ≤ c.size ∧ (∀ (k : Nat) (x : AV), cs[k]? = some x → x.one = true) ∧
      ∀ (k : Nat) (x : AV) (v : Value), cs[k]? = some x → c[k]? = some v → RV (cx U ρ Ro w) x v)
    (hit : ∀ s pos, r = .iter s pos → o = .stringIter s pos) :
    Rel (ins U n) (pin ρ n w.heap.size) Ro (upd h n (some r)) w1 ∧ Ext U ρ Ro h w (ins U n) (pin ρ n w.heap.size) Ro (upd h n (some r)) w1 ∧
      ∀ c t fr, o = .cells c t fr → bsz w1 w.heap.size = c.size := by
  obtain ⟨hnew, hold, hsz⟩ := get_push hp
  have hne : ∀ j, U j → j ≠ n := fun j hj e => hm (e ▸ hj)
  have hext : Ext U ρ Ro h w (ins U n) (pin ρ n w.heap.size) Ro (upd h n (some r)) w1 := by
    refine ⟨fun j hj => .inl hj, fun j hj => pin_ne ρ _ (hne j hj), fun b hb => hb, fun b hb => .inl hb, hs.os, hs.tape, hs.output, by omega, fun b hb _ => hold b hb, fun b hb => ?_, fun j r' hj => ?_⟩
    · simp only [bsz, hold b hb]
    · by_cases hjn : j = n
      · subst hjn; exact .inl (by rw [pin_same]; exact Nat.le_refl _)
      · rw [upd_ne _ _ hjn] at hj
        exact .inr ⟨j, r', hj, by rw [pin_ne ρ _ hjn]⟩
  have hle := hext.cx hr
  refine ⟨?_, hext, fun c t fr ho => by simp only [bsz, hnew, ho]⟩
  refine ⟨fun j r' hj => ?_, fun j hj => ?_, fun j cs hj => ?_, fun j s pos hj => ?_, fun i j ri rj hi hj he => ?_, fun j r' hj => ?_, fun b hb => ?_, fun p hp => hle.M _ _ (hr.gl p hp)⟩
  · by_cases hjn : j = n
    · exact .inr hjn
    · rw [upd_ne _ _ hjn] at hj; exact .inl (hr.lt j r' hj)
  · by_cases hjn : j = n
    · subst hjn; rw [pin_same]; omega
    · rw [pin_ne ρ _ hjn]; have := hr.bl j (hj.resolve_right hjn); omega
  · by_cases hjn : j = n
    · subst hjn
      rw [upd_same] at hj
      obtain ⟨c, t, lo, hi, rfl, h1, h2, h3, h4⟩ := hrow cs (by injection hj)
      rw [pin_same]
      exact ⟨c, t, lo, hi, hnew, h1, h2, h3, fun k x v hx hv => (h4 k x v hx hv).mono hle⟩
    · rw [upd_ne _ _ hjn] at hj
      obtain ⟨c, t, lo, hi, h0, h1, h2, h3, h4⟩ := hr.row j cs hj
      have hlt := hr.lt j _ hj
      rw [pin_ne ρ _ hjn, hold _ (hr.bl j hlt)]
      exact ⟨c, t, lo, hi, h0, h1, h2, h3, fun k x v hx hv => (h4 k x v hx hv).mono hle⟩
  · by_cases hjn : j = n
    · subst hjn
      rw [upd_same] at hj
      rw [pin_same, hnew, hit s pos (by injection hj)]
    · rw [upd_ne _ _ hjn] at hj
      have hlt := hr.lt j _ hj
      rw [pin_ne ρ _ hjn, hold _ (hr.bl j hlt)]
      exact hr.iter j s pos hj
  · by_cases hin : i = n
    · subst hin
      by_cases hjn : j = i
      · exact hjn.symm
      · rw [upd_ne _ _ hjn] at hj
        have hlt := hr.lt j _ hj
        rw [pin_same, pin_ne ρ _ hjn] at he
        have := hr.bl j hlt
        omega
    · rw [upd_ne _ _ hin] at hi
      have hlti := hr.lt i _ hi
      by_cases hjn : j = n
      · subst hjn
        rw [pin_same, pin_ne ρ _ hin] at he
        have := hr.bl i hlti
        omega
      · rw [upd_ne _ _ hjn] at hj
        rw [pin_ne ρ _ hin, pin_ne ρ _ hjn] at he
        exact hr.inj i j ri rj hi hj he
  · by_cases hjn : j = n
    · subst hjn
      rw [pin_same]
      exact fun hb => absurd (hr.rob _ hb) (Nat.lt_irrefl _)
    · rw [upd_ne _ _ hjn] at hj
      rw [pin_ne ρ _ hjn]
      exact hr.sep j r' hj
  · have := hr.rob b hb; omega

/-- A row written. -/
theorem Rel.write (hr : Rel U ρ Ro h w) (hs : Same w w1) {j : Nat} {r0 : Row} (hj : h j = some r0) (r : Row) (hsz : w1.heap.size = w.heap.size)
    (hoth : ∀ b, b ≠ ρ j → w1.heap[b]? = w.heap[b]?) (hz : bsz w1 (ρ j) = bsz w (ρ j))
    (hrow : ∀ cs, r = .cells cs → ∃ c t lo hi, w1.heap[ρ j]? = some (.cells c t (lo, hi)) ∧ (hi = lo ∨ c.size ≤ lo) ∧ cs.length ≤ c.size ∧ (∀ (k : Nat) (x : AV), cs[k]? = some x → x.one = true) ∧
      ∀ (k : Nat) (x : AV) (v : Value), cs[k]? = some x → c[k]? = some v → RV (cx U ρ Ro w) x v)
    (hit : ∀ s pos, r = .iter s pos → w1.heap[ρ j]? = some (.stringIter s pos)) :
    Rel U ρ Ro (upd h j (some r)) w1 ∧ Ext U ρ Ro h w U ρ Ro (upd h j (some r)) w1 := by
  have hext : Ext U ρ Ro h w U ρ Ro (upd h j (some r)) w1 := by
    refine ⟨fun j h => h, fun j _ => rfl, fun b hb => hb, fun b hb => .inl hb, hs.os, hs.tape, hs.output, by omega, fun b hb hn => hoth b (fun he => hn j r0 hj he.symm), fun b hb => ?_, fun i r' hi => ?_⟩
    · by_cases hb' : b = ρ j
      · subst hb'; exact hz
      · simp only [bsz, hoth b hb']
    · by_cases hij : i = j
      · subst hij; exact .inr ⟨i, r0, hj, rfl⟩
      · rw [upd_ne _ _ hij] at hi; exact .inr ⟨i, r', hi, rfl⟩
  have hle := hext.cx hr
  refine ⟨?_, hext⟩
  have hne : ∀ i ri, i ≠ j → h i = some ri → ρ i ≠ ρ j := fun i ri hij hi he => hij (hr.inj i j ri r0 hi hj he)
  refine ⟨fun i r' hi => ?_, fun i hi => by rw [hsz]; exact hr.bl i hi, fun i cs hi => ?_, fun i s pos hi => ?_, fun i k ri rk hi hk he => ?_, fun i r' hi => ?_, fun b hb => by rw [hsz]; exact hr.rob b hb, fun p hp => hle.M _ _ (hr.gl p hp)⟩
  · by_cases hij : i = j
    · subst hij; exact hr.lt i _ hj
    · rw [upd_ne _ _ hij] at hi; exact hr.lt i _ hi
  · by_cases hij : i = j
    · subst hij
      rw [upd_same] at hi
      obtain ⟨c, t, lo, hi', h0, h1, h2, h3, h4⟩ := hrow cs (by injection hi)
      exact ⟨c, t, lo, hi', h0, h1, h2, h3, fun k x v hx hv => (h4 k x v hx hv).mono hle⟩
    · rw [upd_ne _ _ hij] at hi
      obtain ⟨c, t, lo, hi', h0, h1, h2, h3, h4⟩ := hr.row i cs hi
      rw [hoth _ (hne i _ hij hi)]
      exact ⟨c, t, lo, hi', h0, h1, h2, h3, fun k x v hx hv => (h4 k x v hx hv).mono hle⟩
  · by_cases hij : i = j
    · subst hij
      rw [upd_same] at hi
      exact hit s pos (by injection hi)
    · rw [upd_ne _ _ hij] at hi
      rw [hoth _ (hne i _ hij hi)]
      exact hr.iter i s pos hi
  · have live : ∀ m rm, upd h j (some r) m = some rm → ∃ rm', h m = some rm' := fun m rm hm => by
      by_cases hmj : m = j
      · subst hmj; exact ⟨r0, hj⟩
      · rw [upd_ne _ _ hmj] at hm; exact ⟨rm, hm⟩
    obtain ⟨ri', hi'⟩ := live i ri hi
    obtain ⟨rk', hk'⟩ := live k rk hk
    exact hr.inj i k ri' rk' hi' hk' he
  · by_cases hij : i = j
    · subst hij; exact hr.sep i _ hj
    · rw [upd_ne _ _ hij] at hi; exact hr.sep i r' hi

/-- A row's number is given up, and it has a new one. -/
theorem Rel.turn (hr : Rel U ρ Ro h w) (hm : ¬ U n) {j : Nat} {r : Row} (hj : h j = some r) :
    Rel (ins U n) (pin ρ n (ρ j)) Ro (upd (upd h j none) n (some r)) w ∧ Ext U ρ Ro h w (ins U n) (pin ρ n (ρ j)) Ro (upd (upd h j none) n (some r)) w := by
  have hjn := hr.lt j r hj
  have hne : ∀ j, U j → j ≠ n := fun j hj e => hm (e ▸ hj)
  have hext : Ext U ρ Ro h w (ins U n) (pin ρ n (ρ j)) Ro (upd (upd h j none) n (some r)) w := by
    refine ⟨fun j hj => .inl hj, fun j hj => pin_ne ρ _ (hne j hj), fun b hb => hb, fun b hb => .inl hb, rfl, rfl, rfl, Nat.le_refl _, fun b hb _ => rfl, fun b hb => rfl, fun i r' hi => ?_⟩
    by_cases hin : i = n
    · subst hin; exact .inr ⟨j, r, hj, by rw [pin_same]⟩
    · rw [upd_ne _ _ hin] at hi
      by_cases hij : i = j
      · subst hij; rw [upd_same] at hi; cases hi
      · rw [upd_ne _ _ hij] at hi
        exact .inr ⟨i, r', hi, by rw [pin_ne ρ _ hin]⟩
  have hle := hext.cx hr
  refine ⟨?_, hext⟩
  have back : ∀ i ri, upd (upd h j none) n (some r) i = some ri → ∃ i', h i' = some ri ∧ pin ρ n (ρ j) i = ρ i' ∧ ins U n i ∧ (i = n → i' = j) ∧ (i ≠ n → i' = i ∧ i ≠ j) := fun i ri hi => by
    by_cases hin : i = n
    · subst hin
      rw [upd_same] at hi
      injection hi with hi
      subst hi
      exact ⟨j, hj, pin_same .., .inr rfl, fun _ => rfl, fun hne => absurd rfl hne⟩
    · rw [upd_ne _ _ hin] at hi
      by_cases hij : i = j
      · subst hij; rw [upd_same] at hi; cases hi
      · rw [upd_ne _ _ hij] at hi
        have hlt := hr.lt i ri hi
        exact ⟨i, hi, pin_ne ρ _ hin, .inl hlt, fun he => absurd he hin, fun _ => ⟨rfl, hij⟩⟩
  refine ⟨fun i ri hi => (back i ri hi).choose_spec.2.2.1, fun i hi => ?_, fun i cs hi => ?_, fun i s pos hi => ?_, fun i k ri rk hi hk he => ?_, fun i ri hi => ?_, hr.rob, hr.gl⟩
  · by_cases hin : i = n
    · subst hin; rw [pin_same]; exact hr.bl j hjn
    · rw [pin_ne ρ _ hin]; exact hr.bl i (hi.resolve_right hin)
  · obtain ⟨i', h1, h2, _⟩ := back i _ hi
    obtain ⟨c, t, lo, hi', h0, h1, h2', h3, h4⟩ := hr.row i' cs h1
    rw [h2]
    exact ⟨c, t, lo, hi', h0, h1, h2', h3, fun k x v hx hv => (h4 k x v hx hv).mono hle⟩
  · obtain ⟨i', h1, h2, _⟩ := back i _ hi
    rw [h2]
    exact hr.iter i' s pos h1
  · obtain ⟨i', h1, h2, _, h3, h4⟩ := back i _ hi
    obtain ⟨k', g1, g2, _, g3, g4⟩ := back k _ hk
    have he' := hr.inj i' k' _ _ h1 g1 (by rw [← h2, ← g2]; exact he)
    by_cases hin : i = n
    · by_cases hkn : k = n
      · omega
      · have := h3 hin; have := g4 hkn; omega
    · by_cases hkn : k = n
      · have := g3 hkn; have := h4 hin; omega
      · have := h4 hin; have := g4 hkn; omega
  · obtain ⟨i', h1, h2, _⟩ := back i _ hi
    rw [h2]
    exact hr.sep i' _ h1

/-- Nothing but the count of draws has turned. -/
theorem Rel.same (hr : Rel U ρ Ro h w) (hs : Same w w1) (hp : w1.heap = w.heap) : Rel U ρ Ro h w1 ∧ Ext U ρ Ro h w U ρ Ro h w1 := by
  have hext : Ext U ρ Ro h w U ρ Ro h w1 :=
    ⟨fun j h => h, fun j _ => rfl, fun b hb => hb, fun b hb => .inl hb, hs.os, hs.tape, hs.output, by rw [hp]; exact Nat.le_refl _, fun b hb _ => by rw [hp], fun b hb => by simp only [bsz, hp], fun j r hj => .inr ⟨j, r, hj, rfl⟩⟩
  have hle := hext.cx hr
  refine ⟨⟨hr.lt, fun j hj => by rw [hp]; exact hr.bl j hj, fun j cs hj => ?_, fun j s pos hj => by rw [hp]; exact hr.iter j s pos hj, hr.inj, hr.sep, fun b hb => by rw [hp]; exact hr.rob b hb, fun p hp => hle.M _ _ (hr.gl p hp)⟩, hext⟩
  obtain ⟨c, t, lo, hi, h0, h1, h2, h3, h4⟩ := hr.row j cs hj
  rw [hp]
  exact ⟨c, t, lo, hi, h0, h1, h2, h3, fun k x v hx hv => (h4 k x v hx hv).mono hle⟩

/-- Some rows are no longer told. -/
theorem Ext.less {U' : Nat → Prop} {ρ' : Nat → Nat} {Ro' : Nat → Prop} {h' g : Heap} (e : Ext U ρ Ro h w U' ρ' Ro' h' w1) (hg : ∀ j r, g j = some r → h' j = some r) : Ext U ρ Ro h w U' ρ' Ro' g w1 :=
  { e with lv := fun j r hj => e.lv j r (hg j r hj) }

/-! ### reading -/

/-- The cells that a pointer points into, and where. -/
def place (h : Heap) : AV → Option (List AV × Nat)
  | .p j off => match h j with | some (.cells cs) => some (cs, off) | _ => none
  | .q cs off => some (cs, off)
  | _ => none

theorem cell_row {b k : Nat} {c : Array Value} {t : TypeId} {fr : Nat × Nat} (hb : w.heap[b]? = some (.cells c t fr)) : w.cell? ⟨b, k, none⟩ = c[k]? := by
  simp [World.cell?, hb]

theorem add_add (a : Addr) (m k : Nat) : (a.add m).add k = a.add (m + k) := by
  unfold Addr.add
  by_cases hm : m = 0
  · subst hm; simp
  · by_cases hk : k = 0
    · subst hk; simp [hm]
    · simp [hm, hk, Nat.add_assoc]

theorem Rel.read (hr : Rel U ρ Ro h w) {x : AV} {v : Value} (hx : RV (cx U ρ Ro w) x v) {cs : List AV} {off : Nat} (hp : place h x = some (cs, off)) :
    ∃ a, v = .pointer (some a) ∧ ∀ k y, cs[off + k]? = some y → y.one = true ∧ ∃ u, w.cell? (a.add k) = some u ∧ RV (cx U ρ Ro w) y u := by
  cases hx with
  | p j o hj =>
    simp only [place] at hp
    cases hh : h j with
    | none => rw [hh] at hp; cases hp
    | some r =>
      rw [hh] at hp
      cases r with
      | iter s pos => cases hp
      | cells cs' =>
        simp only [Option.some.injEq, Prod.mk.injEq] at hp
        obtain ⟨rfl, rfl⟩ := hp
        refine ⟨_, rfl, fun k y hy => ?_⟩
        obtain ⟨c, t, lo, hi, h0, h1, h2, h3, h4⟩ := hr.row j cs' hh
        have hlt : o + k < cs'.length := by
          rcases Nat.lt_or_ge (o + k) cs'.length with h' | h'
          · exact h'
          · rw [List.getElem?_eq_none h'] at hy; cases hy
        have hlc : o + k < c.size := by omega
        refine ⟨h3 _ y hy, c[o + k], ?_, h4 _ y _ hy (by simp [hlc])⟩
        show w.cell? (Addr.add ⟨ρ j, o, none⟩ k) = _
        rw [Addr.add_lit, cell_row h0]
        simp [hlc]
  | q cs' o a vs h1 h2 h3 =>
    simp only [place, Option.some.injEq, Prod.mk.injEq] at hp
    obtain ⟨rfl, rfl⟩ := hp
    refine ⟨_, rfl, fun k y hy => ⟨h1 _ y hy, vs (o + k), ?_, h3 _ y hy⟩⟩
    rw [add_add]
    exact (h2 _ y hy).2
  | _ => simp [place] at hp

/-- The cells that a slice shows: the row's, where it begins, how many elements. -/
def view (h : Heap) : AV → Option (List AV × Nat × Nat)
  | .sl _ j off len => match h j with | some (.cells cs) => some (cs, off, len) | _ => none
  | .ro _ cs len => some (cs, 0, len)
  | _ => none

theorem Rel.show_ (hr : Rel U ρ Ro h w) {x : AV} {v : Value} (hx : RV (cx U ρ Ro w) x v) {cs : List AV} {off len : Nat} (hp : view h x = some (cs, off, len)) :
    ∃ a cap, v = .slice a len cap ∧ (a = none → cs = [] ∧ len = 0) ∧ ∀ a', a = some a' → ∀ k y, cs[off + k]? = some y → y.one = true ∧ ∃ u, w.cell? (a'.add k) = some u ∧ RV (cx U ρ Ro w) y u := by
  cases hx with
  | sl sz j o l cap hj hl hc hz =>
    simp only [view] at hp
    cases hh : h j with
    | none => rw [hh] at hp; cases hp
    | some r =>
      rw [hh] at hp
      cases r with
      | iter s pos => cases hp
      | cells cs' =>
        simp only [Option.some.injEq, Prod.mk.injEq] at hp
        obtain ⟨rfl, rfl, rfl⟩ := hp
        refine ⟨_, _, rfl, fun he => (by cases he), fun a' ha => ?_⟩
        injection ha with ha
        subst ha
        obtain ⟨a, hva, hrd⟩ := hr.read (x := .p j o) (.p j o hj) (cs := cs') (off := o) (by simp [place, hh])
        injection hva with hva
        injection hva with hva
        subst hva
        exact hrd
  | ron =>
    simp only [view, Option.some.injEq, Prod.mk.injEq] at hp
    obtain ⟨rfl, rfl, rfl⟩ := hp
    exact ⟨none, 0, rfl, fun _ => ⟨rfl, rfl⟩, fun a' ha => by cases ha⟩
  | ro cs' l a cap vs hl hc h1 h2 h3 =>
    simp only [view, Option.some.injEq, Prod.mk.injEq] at hp
    obtain ⟨rfl, rfl, rfl⟩ := hp
    refine ⟨_, _, rfl, fun he => (by cases he), fun a' ha k y hy => ?_⟩
    injection ha with ha
    subst ha
    rw [Nat.zero_add] at hy
    exact ⟨h1 _ y hy, vs k, (h2 _ y hy).2, h3 _ y hy⟩
  | _ => simp [view] at hp

end Go.Av
end

section
namespace Go.Av

/-! ### constants, operands -/
def okC1 : Value → Bool
  | .bool _ | .int _ _ | .string _ | .pointer none | .slice none 0 0 | .nilFunc | .nilIface => true
  | _ => false
def ofC1 : Value → AV
  | .bool b => .b b
  | .int k n => .i k n
  | .string s => .s s
  | .pointer _ => .np
  | .slice _ _ _ => .ro true [] 0
  | .nilFunc => .nf
  | _ => .ni
def okC : Value → Bool
  | .agg cs => cs.toList.all okC1
  | v => okC1 v
def ofC : Value → AV
  | .agg cs => .agg (cs.toList.map ofC1)
  | v => ofC1 v
theorem rv_ofC1 (C : Cx) {v : Value} (h : okC1 v = true) : RV C (ofC1 v) v ∧ (ofC1 v).one = true := by
  unfold okC1 at h
  split at h <;> first | exact ⟨by unfold ofC1; constructor, rfl⟩ | (cases h; done)
theorem rv_ofC (C : Cx) {v : Value} (h : okC v = true) : RV C (ofC v) v := by
  cases v with
  | agg cs =>
    have h' : ∀ x ∈ cs.toList, okC1 x = true := List.all_eq_true.1 h
    refine .agg _ _ (by simp) (fun k x hx => ?_) (fun k x v hx hv => ?_)
    · rw [List.getElem?_map] at hx
      cases hc : cs.toList[k]? with
      | none => rw [hc] at hx; cases hx
      | some u => rw [hc] at hx; simp at hx; subst hx; exact (rv_ofC1 C (h' u (List.mem_of_getElem? hc))).2
    · rw [List.getElem?_map] at hx
      have hc : cs.toList[k]? = some v := by simpa using hv
      rw [hc] at hx; simp at hx; subst hx
      exact (rv_ofC1 C (h' v (List.mem_of_getElem? hc))).1
  | _ => exact (rv_ofC1 C (by simpa [okC] using h)).1

def aev (t : Tmps) : Operand → AV
  | .tmp k => t k
  | .const v => ofC v
  | .func f => .fn (.func f) [] []
  | .global _ => .tup []
def okX : Operand → Bool
  | .tmp _ | .func _ => true
  | .const v => okC v
  | .global _ => false

def RelT (C : Cx) (t : Tmps) (a : Act) : Prop := ∀ k, RV C (t k) (a.tmps.getD k undef)

theorem rv_undef (C : Cx) : RV C (.tup []) undef := .tup [] #[] rfl (fun k x v hx => by simp at hx)

theorem rv_ev {C : Cx} {t : Tmps} {a : Act} (ht : RelT C t a) {x : Operand} (hx : okX x = true) : RV C (aev t x) (a.eval x) := by
  cases x with
  | tmp k => exact ht k
  | const v => exact rv_ofC C hx
  | func f => exact .fn (.func f) [] [] #[] #[] rfl rfl (fun k x v hx => by simp at hx) (fun k x v hx => by simp at hx)
  | global g => cases hx

def put (t : Tmps) (d : Option Tmp) (v : AV) : Tmps := match d with | some d => fun k => if k = d then v else t k | none => t
theorem put_some (t : Tmps) (d : Tmp) (v : AV) : put t (some d) v = fun k => if k = d then v else t k := rfl
theorem put_none (t : Tmps) (v : AV) : put t none v = t := rfl
theorem put_at (t : Tmps) (d k : Tmp) (v : AV) : put t (some d) v k = if k = d then v else t k := rfl

theorem RelT.put {C : Cx} {t : Tmps} {a : Act} (ht : RelT C t a) {d : Option Tmp} (hd : ∀ k, d = some k → k < a.tmps.size) {v : AV} {x : Value} (hv : RV C v x) : RelT C (put t d v) (a.put d x) := by
  cases d with
  | none => exact ht
  | some d =>
    intro k
    have hlt := hd d rfl
    by_cases hk : k = d
    · subst hk
      simp only [Av.put, if_true, Act.put]
      simpa [hlt] using hv
    · simp only [Av.put, if_neg hk, Act.put]
      have := ht k
      simpa [Array.getD_eq_getD_getElem?, Array.getElem?_setIfInBounds_ne (Ne.symm hk)] using this
theorem RelT.mono {C D : Cx} (hle : C.le D) {t : Tmps} {a : Act} (ht : RelT C t a) : RelT D t a := fun k => (ht k).mono hle

/-! ### what is known of types -/
def szT (P : Program) (t : TypeId) : Option Nat := (P.info? t).map (·.size)
def byT (P : Program) (t : TypeId) : Option Nat := (P.info? t).map (·.bytes)
def agT (P : Program) (t : TypeId) : Option Bool := match P.underlying t with | some (.struct _) | some (.array _ _) => some true | some _ => some false | none => none
def zeT (P : Program) (t : TypeId) : Option (List AV) := match (P.info? t).bind (·.zero) with | some v => if okC v then some (ofC v).cells else none | none => none
def zvT (P : Program) (t : TypeId) : Option AV := match (P.info? t).bind (·.zero) with | some v => if okC v then some (ofC v) else none | none => none
/-- A slice's element: its size and its bytes. -/
def slT (P : Program) (t : TypeId) : Option (TypeId × Nat × Nat) := match P.underlying t with | some (.slice e) => (match szT P e, byT P e with | some z, some b => some (e, z, b) | _, _ => none) | _ => none
/-- An array: how many, and the element's size. -/
def arT (P : Program) (t : TypeId) : Option (Nat × Nat × Bool) := match P.underlying t with | some (.array n e) => (match szT P e, agT P e with | some z, some g => some (n, z, g) | _, _ => none) | _ => none
/-- A struct's field: where, how many cells, many in one or one. -/
def flT (P : Program) (t : TypeId) (i : Nat) : Option (Nat × Nat × Bool) := match P.underlying t with
  | some (.struct fs) => match fs[i]? with
    | some f => match szT P f.type, agT P f.type with | some z, some g => some (f.offset, z, g) | _, _ => none
    | none => none
  | _ => none
inductive Kind where
  | bool | int (k : IntKind) | string | iface | other
  deriving DecidableEq
def kiT (P : Program) (t : TypeId) : Option Kind := match P.underlying t with
  | some .bool => some .bool
  | some (.int k) => some (.int k)
  | some .string => some .string
  | some (.interface _) => some .iface
  | some _ => some .other
  | none => none

/-- Where the parts of a struct or an array are, and how many cells each has. -/
def buT (P : Program) (t : TypeId) : Option (List (Nat × Nat)) := match P.underlying t with
  | some (.struct fs) => fs.toList.mapM fun f => (szT P f.type).map fun z => (f.offset, z)
  | some (.array m e) => (szT P e).map fun z => (List.range m).map fun i => (i * z, z)
  | _ => none

/-! ### lists of cells -/
def splice (cs : List AV) (off : Nat) : List AV → List AV
  | [y] => cs.set off y
  | ys => cs.take off ++ ys ++ cs.drop (off + ys.length)

/-- Parts put into cells. -/
def fillA (place : Nat → Option (Nat × Nat)) (cs : List AV) : List (Nat × AV) → Option (List AV)
  | [] => some cs
  | (i, v) :: rest => match place i with
    | none => none
    | some (off, size) => if v.cells.length = size ∧ off + size ≤ cs.length then fillA place (splice cs off v.cells) rest else none

def AV.boxable : AV → Bool
  | .tup _ => false
  | _ => true

def rep (n : Nat) (zs : List AV) : List AV := (List.replicate n zs).flatten

/-! ### arithmetic -/
def bits (op : BinOp) (k : IntKind) (x y : Int) : Int :=
  let a := BitVec.ofInt k.bits x
  let b := BitVec.ofInt k.bits y
  match op with
  | .and => k.wrap ((a &&& b).toNat : Int)
  | .or => k.wrap ((a ||| b).toNat : Int)
  | .xor => k.wrap ((a ^^^ b).toNat : Int)
  | _ => k.wrap ((a &&& ~~~b).toNat : Int)

def isK : Operand → Bool
  | .const _ => true
  | _ => false

/-- A pointer's type. -/
def ptT (P : Program) (t : TypeId) : Bool := match P.underlying t with | some (.pointer _) => true | _ => false
/-- Held against nil. -/
def nilOp (op : BinOp) (u : Bool) : Option AV := match op with
  | .eql => some (.b u)
  | .neq => some (.b (!u))
  | _ => none

/-- Structs and arrays, part by part. -/
def part (g : Bool) (cs : List AV) (off z : Nat) : Option AV :=
  if g then (if off + z ≤ cs.length then some (.agg ((cs.drop off).take z)) else none) else cs[off]?
def allO : List (Option Bool) → Option Bool
  | [] => some true
  | x :: l => match x, allO l with | some a, some b => some (a && b) | _, _ => none
def aeq (P : Program) : Nat → TypeId → AV → AV → Option Bool
  | 0, _, _, _ => none
  | d + 1, T, x, y => match P.underlying T with
    | some .bool => (match x, y with | .b a, .b b => some (a == b) | _, _ => none)
    | some (.int _) => (match x, y with | .i k a, .i k' b => if k = k' then some (a == b) else none | _, _ => none)
    | some .string => (match x, y with | .s a, .s b => some (a.toList == b.toList) | _, _ => none)
    | some (.struct fs) => (match x, y with
      | .agg xs, .agg ys => if P.stoodInHeld T = true then none else allO (fs.toList.map fun f => if f.name = "_" then none else match agT P f.type, szT P f.type with
        | some g, some z => (match part g xs f.offset z, part g ys f.offset z with | some a, some b => aeq P d f.type a b | _, _ => none)
        | _, _ => none)
      | _, _ => none)
    | some (.array n e) => (match x, y with
      | .agg xs, .agg ys => (match agT P e, szT P e with
        | some g, some z => allO ((List.range n).map fun i => match part g xs (i * z) z, part g ys (i * z) z with | some a, some b => aeq P d e a b | _, _ => none)
        | _, _ => none)
      | _, _ => none)
    | _ => none
def aggOp (op : BinOp) (u : Option Bool) : Option AV := match op, u with
  | .eql, some u => some (.b u)
  | .neq, some u => some (.b (!u))
  | _, _ => none

/-- Two operands of one kind. -/
def abin (P : Program) (op : BinOp) (T : TypeId) (x y : Operand) (a b : AV) : Option AV :=
  match a, b with
  | .i k m, .i k' m' =>
    match op with
    | .shl => if 0 ≤ m' then some (.i k (k.wrap (m * 2 ^ (min m'.toNat k.bits)))) else none
    | .shr => if 0 ≤ m' then some (.i k (m.fdiv (2 ^ (min m'.toNat k.bits)))) else none
    | op => if k = k' then (match op with
      | .add => some (.i k (k.wrap (m + m')))
      | .sub => some (.i k (k.wrap (m - m')))
      | .mul => some (.i k (k.wrap (m * m')))
      | .quo => if m' = 0 then none else some (.i k (k.wrap (m.tdiv m')))
      | .rem => if m' = 0 then none else some (.i k (m.tmod m'))
      | .and => some (.i k (bits .and k m m'))
      | .or => some (.i k (bits .or k m m'))
      | .xor => some (.i k (bits .xor k m m'))
      | .andNot => some (.i k (bits .andNot k m m'))
      | .eql => some (.b (m == m'))
      | .neq => some (.b (m != m'))
      | .lss => some (.b (decide (m < m')))
      | .leq => some (.b (decide (m ≤ m')))
      | .gtr => some (.b (decide (m > m')))
      | .geq => some (.b (decide (m ≥ m')))
      | _ => none) else none
  | .s u, .s v =>
    match op with
    | .add => if u.size + v.size ≤ 9223372036854775807 then some (.s (u ++ v)) else none
    | .eql => some (.b (u.toList == v.toList))
    | .neq => some (.b (!(u.toList == v.toList)))
    | _ => none
  | .b u, .b v => if kiT P T = some .bool then (match op with | .eql => some (.b (u == v)) | .neq => some (.b (!(u == v))) | _ => none) else none
  | .ni, .ni => if kiT P T = some .iface ∧ (isK x || isK y) = true then (match op with | .eql => some (.b true) | .neq => some (.b false) | _ => none) else none
  | .ni, .ifc _ _ => if kiT P T = some .iface then (match op with | .eql => some (.b false) | .neq => some (.b true) | _ => none) else none
  | .ifc _ _, .ni => if kiT P T = some .iface then (match op with | .eql => some (.b false) | .neq => some (.b true) | _ => none) else none
  | .p _ _, .np => if ptT P T = true then nilOp op false else none
  | .q _ _, .np => if ptT P T = true then nilOp op false else none
  | .np, .np => if ptT P T = true then nilOp op true else none
  | .sl _ _ _ _, .ro true [] 0 => if (slT P T).isSome = true then nilOp op false else none
  | .ro u _ _, .ro true [] 0 => if (slT P T).isSome = true then nilOp op u else none
  | .agg xs, .agg ys => if P.eqGuardType P.depth T = false then aggOp op (aeq P 10000 T (.agg xs) (.agg ys)) else none
  | _, _ => none

def aun (op : UnOp) (a : AV) : Option AV :=
  match op, a with
  | .neg, .i k m => some (.i k (k.wrap (0 - m)))
  | .xor, .i k m => some (.i k (bits .xor k (if k.signed then -1 else k.max) m))
  | .not, .b u => some (.b (!u))
  | _, _ => none

abbrev Eff := Option (AV × List (Nat × Option Row) × Nat)

/-- A slice of something: 'x[lo:hi]'. -/
def asliceB (len cap : Nat) (lo hi : Option AV) : Option (Nat × Nat) :=
  match (match hi with | some (.i _ m) => if 0 ≤ m ∧ m ≤ cap then some m.toNat else none | some _ => none | none => some len) with
  | none => none
  | some b => match (match lo with | some (.i _ m) => if 0 ≤ m ∧ m ≤ b then some m.toNat else none | some _ => none | none => some 0) with
    | none => none
    | some a => some (a, b)

def aslice (P : Program) (T : TypeId) (h : Heap) (x : AV) (lo hi : Option AV) : Option AV :=
  match kiT P T, x with
  | some .string, .s u => match asliceB u.size u.size lo hi with | some (a, b) => some (.s (u.extract a b)) | none => none
  | some .other, .sl sz j off len => match slT P T, asliceB len len lo hi with
    | some (_, z, _), some (a, b) => if z = sz then (if a < b then some (.sl sz j (off + a * z) (b - a)) else some (.ro false [] 0)) else none
    | _, _ => none
  | some .other, .ro zz cs len => match slT P T, asliceB len len lo hi with
    | some (_, z, _), some (a, b) => some (.ro zz ((cs.drop (a * z)).take ((b - a) * z)) (b - a))
    | _, _ => none
  | some .other, x => match arT P T, place h x with
    | some (n, z, _), some (cs, off) => match asliceB n n lo hi with
      | some (a, b) => if off + n * z ≤ cs.length ∧ n ≤ 9223372036854775807 then (match x with
        | .p j _ => if a < b then some (.sl z j (off + a * z) (b - a)) else some (.ro false [] 0)
        | _ => some (.ro false ((cs.drop (off + a * z)).take ((b - a) * z)) (b - a))) else none
      | none => none
    | _, _ => none
  | _, _ => none

def aindexAddr (P : Program) (T : TypeId) (x i : AV) : Option AV :=
  match i with
  | .i _ m => match x with
    | .sl _ j off len => match slT P T with | some (_, z, _) => if 0 ≤ m ∧ m < len then some (.p j (off + m.toNat * z)) else none | none => none
    | .ro _ cs len => match slT P T with | some (_, z, _) => if 0 ≤ m ∧ m < len then some (.q cs (m.toNat * z)) else none | none => none
    | .p j off => match arT P T with | some (n, z, _) => if 0 ≤ m ∧ m < n then some (.p j (off + m.toNat * z)) else none | none => none
    | .q cs off => match arT P T with | some (n, z, _) => if 0 ≤ m ∧ m < n then some (.q cs (off + m.toNat * z)) else none | none => none
    | _ => none
  | _ => none

def aload (P : Program) (T : TypeId) (h : Heap) (x : AV) : Option AV :=
  match agT P T, szT P T, place h x with
  | some g, some z, some (cs, off) => part g cs off z
  | _, _, _ => none

def byteAt (u : ByteArray) (m : Int) : Int := ((u.data.toList.getD m.toNat 0).toNat : Int)

def aindex (P : Program) (T : TypeId) (x i : AV) : Option AV :=
  match x, i with
  | .agg cs, .i _ m => match arT P T with | some (n, z, g) => if 0 ≤ m ∧ m < n then part g cs (m.toNat * z) z else none | none => none
  | .s u, .i _ m => if kiT P T = some .string then (if 0 ≤ m ∧ m < u.size then some (.i .u8 (byteAt u m)) else none) else none
  | _, _ => none

def bytesA (u : ByteArray) : List AV := u.data.toList.map fun b => .i .u8 (b.toNat : Int)

def unbytes : List AV → Option (List UInt8)
  | [] => some []
  | .i .u8 m :: r => (unbytes r).map (UInt8.ofNat m.toNat :: ·)
  | _ => none

def aconv (P : Program) (S D : TypeId) (h : Heap) (n : Nat) (x : AV) : Eff :=
  match kiT P S, kiT P D, x with
  | some _, some (.int k), .i _ m => some (.i k (k.wrap m), [], n)
  | some .string, some .string, .s u => some (.s u, [], n)
  | some (.int _), some .string, .i _ m => some (.s (Utf8.encode m), [], n)
  | some .string, some .other, .s u => match P.underlying D with
    | some (.slice e) => if kiT P e = some (.int .u8) ∧ u.size ≤ 9223372036854775807 then some (.sl 1 n 0 u.size, [(n, some (.cells (bytesA u)))], n + 1) else none
    | _ => none
  | some .other, some .string, x => match P.underlying S with
    | some (.slice e) => if kiT P e = some (.int .u8) then (match view h x with
      | some (cs, off, len) => match unbytes ((cs.drop off).take len) with | some l => if off + len ≤ cs.length then some (.s ⟨l.toArray⟩, [], n) else none | none => none
      | none => none) else none
    | _ => none
  | some .other, some .other, .sl sz j off len => match P.underlying D, h j with
    | some (.slice e), some (.cells cs) => if S = D ∧ kiT P e = some (.int .u8) then some (.sl sz j off len, [(j, some (.cells cs))], n) else none
    | _, _ => none
  | _, _, _ => none

/-- What is appended: its cells, and how many elements. -/
def aapp (P : Program) (U : TypeId) (h : Heap) (z : Nat) (x : AV) : Option (List AV × Nat) :=
  match x with
  | .s u => if kiT P U = some .string ∧ z = 1 then some (bytesA u, u.size) else none
  | x => match slT P U, view h x with
    | some _, some (cs, off, m) => if off + m * z ≤ cs.length then some ((cs.drop off).take (m * z), m) else none
    | _, _ => none

def aappend (P : Program) (T U : TypeId) (h : Heap) (n : Nat) (s x : AV) : Eff :=
  match slT P T with
  | some (e, z, by_) => if 0 < z ∧ (zeT P e).map (·.length) = some z then (match aapp P U h z x with
    | some (ys, m) => (match s with
      | .ro true [] 0 => if m = 0 then some (.ro true [] 0, [], n) else if m * by_ ≤ 140737488355328 ∧ m ≤ 9223372036854775807 then some (.sl z n 0 m, [(n, some (.cells ys))], n + 1) else none
      | .sl sz j off len => match h j with
        | some (.cells cs) => if sz = z ∧ cs.length = off + len * z ∧ (len + m) * by_ ≤ 140737488355328 ∧ len + m ≤ 9223372036854775807 ∧ off = 0 then some (.sl z n 0 (len + m), [(j, none), (n, some (.cells (cs ++ ys)))], n + 1) else none
        | _ => none
      | _ => none)
    | none => none) else none
  | none => none

def acopy (P : Program) (T U : TypeId) (h : Heap) (n : Nat) (d x : AV) : Eff :=
  match slT P T, d with
  | some (_, z, _), .sl sz j off len => (match aapp P U h z x, h j with
    | some (ys, m), some (.cells cs) => if sz = z ∧ off + len * z ≤ cs.length then
        some (.i .i64 (min m len : Nat), [(j, some (.cells (cs.take off ++ ys.take (min m len * z) ++ cs.drop (off + min m len * z))))], n) else none
    | _, _ => none)
  | _, _ => none

def alen (P : Program) (T : TypeId) (x : AV) : Option Int :=
  match x with
  | .s u => if kiT P T = some .string then some u.size else none
  | .sl _ _ _ len => (slT P T).map fun _ => (len : Int)
  | .ro _ _ len => (slT P T).map fun _ => (len : Int)
  | .agg _ => (arT P T).map fun a => (a.1 : Int)
  | _ => none

def amax : AV → AV → Option AV
  | .i k x, .i _ y => some (.i k (if y > x then y else x))
  | _, _ => none
def amin : AV → AV → Option AV
  | .i k x, .i _ y => some (.i k (if y < x then y else x))
  | _, _ => none

def abuiltin (P : Program) (b : Builtin) (args : List Operand) (Ts : List TypeId) (t : Tmps) (h : Heap) (n : Nat) : Eff :=
  match b, args, Ts with
  | .len, [x], [T] => ((alen P T (aev t x)).map (AV.i .i64)).map fun v => (v, [], n)
  | .append, [s, x], [T, U] => aappend P T U h n (aev t s) (aev t x)
  | .copy, [d, x], [T, U] => acopy P T U h n (aev t d) (aev t x)
  | .max, [x, y], _ => (amax (aev t x) (aev t y)).map fun v => (v, [], n)
  | .min, [x, y], _ => (amin (aev t x) (aev t y)).map fun v => (v, [], n)
  | _, _, _ => none

/-- What an operation that is no call of a function does. -/
def aeff (P : Program) (o : Op) (t : Tmps) (h : Heap) (n : Nat) : Eff :=
  let val (v : Option AV) : Eff := v.map fun v => (v, [], n)
  match o with
  | .move x | .assign x => some (aev t x, [], n)
  | .pick c a b => match aev t c with | .b u => some (if u then aev t a else aev t b, [], n) | _ => none
  | .alloc T => match zeT P T with | some cs => some (.p n 0, [(n, some (.cells cs))], n + 1) | none => none
  | .box _ x => if (aev t x).boxable then some (.p n 0, [(n, some (.cells (aev t x).cells))], n + 1) else none
  | .build T parts => match zeT P T, buT P T with
    | some zs, some pl => if (parts.toList.all fun (p : Nat × Operand) => (aev t p.2).boxable) = true then val ((fillA (fun i => pl[i]?) zs (parts.toList.map fun (p : Nat × Operand) => (p.1, aev t p.2))).map AV.agg) else none
    | _, _ => none
  | .buildSlice T len parts => match slT P T with
    | some (e, z, _) => match zeT P e with
      | some zs => if zs.length = z ∧ len * z ≤ 16777216 ∧ len ≤ 9223372036854775807 ∧ (parts.toList.all fun (p : Nat × Operand) => (aev t p.2).boxable) = true then (match fillA (fun i => some (i * z, z)) (rep len zs) (parts.toList.map fun (p : Nat × Operand) => (p.1, aev t p.2)) with
        | some cs => some (.sl z n 0 len, [(n, some (.cells cs))], n + 1)
        | none => none) else none
      | none => none
    | none => none
  | .load T x => val (aload P T h (aev t x))
  | .store T a x => match szT P T, aev t a with
    | some z, .p j off => match h j with
      | some (.cells cs) => if (aev t x).boxable = true ∧ (aev t x).cells.length = z ∧ off + z ≤ cs.length then some (.tup [], [(j, some (.cells (splice cs off (aev t x).cells)))], n) else none
      | _ => none
    | _, _ => none
  | .nilCheck x => match aev t x with
    | .p j off => some (.p j off, [], n)
    | .q cs off => some (.q cs off, [], n)
    | .fn (.func f) a b => some (.fn (.func f) a b, [], n)
    | _ => none
  | .binOp op T x y _ => val (abin P op T x y (aev t x) (aev t y))
  | .unOp op _ x => val (aun op (aev t x))
  | .convert S D x => aconv P S D h n (aev t x)
  | .sliceToArrayPointer T x => val (match arT P T, aev t x with
    | some (m, _, _), .sl _ j off len => if m ≤ len then some (.p j off) else none
    | some (m, _, _), .ro false cs len => if m ≤ len then some (.q cs 0) else none
    | _, _ => none)
  | .makeInterface T x => match kiT P T with | some .iface => none | some _ => some (.ifc T (aev t x), [], n) | none => none
  | .makeFunc f first cap => some (.fn f (first.toList.map (aev t)) (cap.toList.map (aev t)), [], n)
  | .makeSlice T l c => match slT P T, aev t l, aev t c with
    | some (e, z, by_), .i _ l, .i _ c => match zeT P e with
      | some zs => if zs.length = z ∧ 0 ≤ l ∧ l ≤ c ∧ c * by_ ≤ 140737488355328 ∧ c ≤ 9223372036854775807 then some (.sl z n 0 l.toNat, [(n, some (.cells (rep c.toNat zs)))], n + 1) else none
      | none => none
    | _, _, _ => none
  | .slice T x lo hi none => val (aslice P T h (aev t x) (lo.map (aev t)) (hi.map (aev t)))
  | .fieldAddr T x f => match flT P T f with
    | some (o, z, _) => if z = 0 then none else match aev t x with
      | .p j off => some (.p j (off + o), [], n)
      | .q cs off => some (.q cs (off + o), [], n)
      | _ => none
    | none => none
  | .field T x f => match flT P T f, aev t x with
    | some (o, z, g), .agg cs => val (part g cs o z)
    | _, _ => none
  | .indexAddr T x i => val (aindexAddr P T (aev t x) (aev t i))
  | .index T x i => val (aindex P T (aev t x) (aev t i))
  | .range T x => match kiT P T, aev t x with
    | some .string, .s u => some (.p n 0, [(n, some (.iter u 0))], n + 1)
    | _, _ => none
  | .next it true => match aev t it with
    | .p j 0 => match h j with
      | some (.iter u pos) => if pos < u.size then some (.tup [.b true, .i .i64 pos, .i .i32 ((Utf8.decode u pos).1 : Int)], [(j, some (.iter u (pos + (Utf8.decode u pos).2)))], n) else some (.tup [.b false], [], n)
      | _ => none
    | _ => none
  | .typeAssert x _ D ok => match kiT P D with
    | some .iface => none
    | some _ => (match aev t x with
      | .ifc T v => if T = D then some (if ok then .tup [v, .b true] else v, [], n) else if ok then (match zvT P D with | some z => some (.tup [z, .b false], [], n) | none => none) else none
      | .ni => if ok then (match zvT P D with | some z => some (.tup [z, .b false], [], n) | none => none) else none
      | _ => none)
    | none => none
  | .extract x i => match aev t x with | .tup vs => val vs[i]? | _ => none
  | .call c => match c.callee with
    | .builtin b => abuiltin P b c.args.toList c.argTypes.toList t h n
    | _ => none
  | _ => none

end Go.Av
end

section
namespace Go.Av

variable {P : Program} {U : Nat → Prop} {n n' : Nat} {ρ : Nat → Nat} {Ro : Nat → Prop} {h : Heap} {w w1 : World} {t : Tmps} {a : Act} {o : Oper} {C : Cx} {v : AV} {us : List (Nat × Option Row)}

def opOk (o : Op) : Bool := o.operands.all okX

/-- The operation, run: what it leaves in its temporary. -/
def Ran (P : Program) (o : Op) (ty : TypeId) (d : Oper) (a : Act) (w : World) (x : Value) (w' : World) : Prop :=
  (execOp a.eval { d with op := o, type := ty }).run P w = .ok (.value x) w' ∨ ((execOp a.eval { d with op := o, type := ty }).run P w = .ok .skip w' ∧ x = undef)

def Sound (P : Program) (o : Op) (t : Tmps) (h : Heap) (n : Nat) (v : AV) (us : List (Nat × Option Row)) (n' : Nat) : Prop :=
  ∀ (ty : TypeId) (d : Oper) U ρ Ro w a, (∀ j, n ≤ j → j < n' → ¬ U j) → Rel U ρ Ro h w → RelT (cx U ρ Ro w) t a →
    ∃ x w' ρ' Ro', Ran P o ty d a w x w' ∧ RV (cx (Av.ext U n n') ρ' Ro' w') v x ∧ Rel (Av.ext U n n') ρ' Ro' (app us h) w' ∧ Ext U ρ Ro h w (Av.ext U n n') ρ' Ro' (app us h) w'

/-- Nothing but a value. -/
theorem Sound.val {o : Op} (hv : ∀ (ty : TypeId) (d : Oper) U ρ Ro w a, Rel U ρ Ro h w → RelT (cx U ρ Ro w) t a → ∃ x, Ran P o ty d a w x w ∧ RV (cx U ρ Ro w) v x) : Sound P o t h n v [] n :=
  fun ty d U ρ Ro w a _ hr ht => let ⟨x, h1, h2⟩ := hv ty d U ρ Ro w a hr ht; ⟨x, w, ρ, Ro, h1, by rw [ext_self]; exact h2, by rw [ext_self]; exact hr, by rw [ext_self]; exact Ext.refl ..⟩

/-! inversions -/
theorem RV.inv_b {u : Bool} {x : Value} (h : RV C (.b u) x) : x = .bool u := by cases h; rfl
theorem RV.inv_i {k : IntKind} {m : Int} {x : Value} (h : RV C (.i k m) x) : x = .int k m := by cases h; rfl
theorem RV.inv_s {u : ByteArray} {x : Value} (h : RV C (.s u) x) : x = .string u := by cases h; rfl
theorem RV.inv_p {j off : Nat} {x : Value} (h : RV C (.p j off) x) : C.U j ∧ x = .pointer (some ⟨C.ρ j, off, none⟩) := by cases h; exact ⟨by assumption, rfl⟩
theorem RV.inv_q {cs : List AV} {off : Nat} {x : Value} (h : RV C (.q cs off) x) : ∃ (b : Addr) (vs : Nat → Value), x = .pointer (some (b.add off)) ∧ (∀ (k : Nat) (x : AV), cs[k]? = some x → x.one = true) ∧
    (∀ (k : Nat) (x : AV), cs[k]? = some x → C.M (b.add k) (vs k)) ∧ (∀ (k : Nat) (x : AV), cs[k]? = some x → RV C x (vs k)) := by cases h; exact ⟨_, _, rfl, by assumption, by assumption, by assumption⟩
theorem RV.inv_ro0 {cs : List AV} {len : Nat} {x : Value} (h : RV C (.ro false cs len) x) : ∃ (b : Addr) (cap : Nat) (vs : Nat → Value), x = .slice (some b) len cap ∧ len ≤ cap ∧ cap ≤ maxLen ∧ (∀ (k : Nat) (x : AV), cs[k]? = some x → x.one = true) ∧
    (∀ (k : Nat) (x : AV), cs[k]? = some x → C.M (b.add k) (vs k)) ∧ (∀ (k : Nat) (x : AV), cs[k]? = some x → RV C x (vs k)) := by cases h; exact ⟨_, _, _, rfl, by assumption, by assumption, by assumption, by assumption, by assumption⟩
theorem RV.inv_ro1 {cs : List AV} {len : Nat} {x : Value} (h : RV C (.ro true cs len) x) : cs = [] ∧ len = 0 ∧ x = .slice none 0 0 := by cases h; exact ⟨rfl, rfl, rfl⟩
theorem RV.inv_ni {x : Value} (h : RV C .ni x) : x = .nilIface := by cases h; rfl
theorem RV.inv_ifc {T : TypeId} {u : AV} {x : Value} (h : RV C (.ifc T u) x) : ∃ y, x = .iface T y ∧ RV C u y := by cases h; exact ⟨_, rfl, by assumption⟩
theorem RV.inv_agg {cs : List AV} {x : Value} (h : RV C (.agg cs) x) : ∃ vs : Array Value, x = .agg vs ∧ vs.size = cs.length ∧ (∀ (k : Nat) (x : AV), cs[k]? = some x → x.one = true) ∧ ∀ (k : Nat) (x : AV) (v : Value), cs[k]? = some x → vs[k]? = some v → RV C x v := by
  cases h; exact ⟨_, rfl, by assumption, by assumption, by assumption⟩
theorem RV.inv_tup {cs : List AV} {x : Value} (h : RV C (.tup cs) x) : ∃ vs : Array Value, x = .tuple vs ∧ vs.size = cs.length ∧ ∀ (k : Nat) (x : AV) (v : Value), cs[k]? = some x → vs[k]? = some v → RV C x v := by
  cases h; exact ⟨_, rfl, by assumption, by assumption⟩
theorem RV.inv_sl {sz j off len : Nat} {x : Value} (h : RV C (.sl sz j off len) x) : ∃ cap, x = .slice (some ⟨C.ρ j, off, none⟩) len cap ∧ C.U j ∧ len ≤ cap ∧ cap ≤ maxLen ∧ off + cap * sz ≤ C.Z (C.ρ j) := by
  cases h; exact ⟨_, rfl, by assumption, by assumption, by assumption, by assumption⟩
theorem RV.inv_nil {x : Value} (h : RV C (.ro true [] 0) x) : x = .slice none 0 0 := by cases h; rfl
theorem RV.inv_ro {z : Bool} {cs : List AV} {len : Nat} {x : Value} (h : RV C (.ro z cs len) x) : ∃ a cap, x = .slice a len cap ∧ len ≤ cap := by
  cases h
  · exact ⟨_, _, rfl, Nat.le_refl _⟩
  · exact ⟨_, _, rfl, by assumption⟩
theorem RV.inv_fn {f : Fn} {first cap : List AV} {x : Value} (h : RV C (.fn f first cap) x) : ∃ vs us : Array Value, x = .func f vs us ∧ RVs C first vs.toList ∧ RVs C cap us.toList := by
  cases h with
  | fn _ _ _ vs us h1 h2 h3 h4 => exact ⟨vs, us, rfl, ⟨by simpa using h1, fun k x v hx hv => h3 k x v hx (by simpa using hv)⟩, ⟨by simpa using h2, fun k x v hx hv => h4 k x v hx (by simpa using hv)⟩⟩

theorem RV.mk_agg {cs : List AV} {vs : List Value} (h : RVs C cs vs) (h1 : ∀ (k : Nat) (x : AV), cs[k]? = some x → x.one = true) : RV C (.agg cs) (.agg vs.toArray) :=
  .agg _ _ (by simpa using h.1) h1 (fun k x v hx hv => h.2 k x v hx (by simpa using hv))

/-! the facts on types -/
theorem szT_some {T : TypeId} {z : Nat} (hz : szT P T = some z) : ∃ i, P.info? T = some i ∧ i.size = z := by
  unfold szT at hz
  cases hi : P.info? T with
  | none => rw [hi] at hz; cases hz
  | some i => rw [hi] at hz; simp at hz; exact ⟨i, rfl, hz⟩
theorem byT_some {T : TypeId} {z : Nat} (hz : byT P T = some z) : ∃ i, P.info? T = some i ∧ i.bytes = z := by
  unfold byT at hz
  cases hi : P.info? T with
  | none => rw [hi] at hz; cases hz
  | some i => rw [hi] at hz; simp at hz; exact ⟨i, rfl, hz⟩
theorem agT_some {T : TypeId} {g : Bool} (hg : agT P T = some g) : ∃ d, P.underlying T = some d ∧ (isAgg T).run P w = .ok g w := by
  unfold agT at hg
  cases hu : P.underlying T with
  | none => rw [hu] at hg; cases hg
  | some d => refine ⟨d, rfl, ?_⟩; rw [hu] at hg; cases d <;> simp at hg <;> subst hg <;> simp [isAgg, run_underlying hu]
theorem zeT_some {T : TypeId} {cs : List AV} (hz : zeT P T = some cs) : ∃ i z, P.info? T = some i ∧ i.zero = some z ∧ okC z = true ∧ (ofC z).cells = cs := by
  unfold zeT at hz
  cases hi : P.info? T with
  | none => rw [hi] at hz; cases hz
  | some i =>
    rw [hi] at hz
    simp only [Option.bind_some] at hz
    cases hzz : i.zero with
    | none => rw [hzz] at hz; cases hz
    | some z =>
      rw [hzz] at hz
      simp only at hz
      split at hz
      · rename_i hok
        exact ⟨i, z, rfl, hzz, hok, by injection hz⟩
      · cases hz
theorem run_sizeOf {T : TypeId} {z : Nat} (hz : szT P T = some z) : (sizeOf T).run P w = .ok z w := by
  obtain ⟨i, hi, rfl⟩ := szT_some hz
  simp [sizeOf, typeInfo, hi]
theorem run_zeroValue {T : TypeId} {i : TypeInfo} {z : Value} (hi : P.info? T = some i) (hz : i.zero = some z) : (zeroValue T).run P w = .ok z w := by
  simp [zeroValue, typeInfo, hi, hz]
theorem slT_some {T : TypeId} {e : TypeId} {z b : Nat} (hs : slT P T = some (e, z, b)) : P.underlying T = some (.slice e) ∧ szT P e = some z ∧ byT P e = some b := by
  unfold slT at hs
  split at hs
  · rename_i e' hu
    split at hs
    · rename_i z' b' h1 h2
      simp only [Option.some.injEq, Prod.mk.injEq] at hs
      obtain ⟨rfl, rfl, rfl⟩ := hs
      exact ⟨hu, h1, h2⟩
    · cases hs
  · cases hs
theorem arT_some {T : TypeId} {m z : Nat} {g : Bool} (hs : arT P T = some (m, z, g)) : ∃ e, P.underlying T = some (.array m e) ∧ szT P e = some z ∧ agT P e = some g := by
  unfold arT at hs
  split at hs
  · rename_i m' e' hu
    split at hs
    · rename_i z' b' h1 h2
      simp only [Option.some.injEq, Prod.mk.injEq] at hs
      obtain ⟨rfl, rfl, rfl⟩ := hs
      exact ⟨_, hu, h1, h2⟩
    · cases hs
  · cases hs
theorem flT_some {T : TypeId} {i off z : Nat} {g : Bool} (hs : flT P T i = some (off, z, g)) : ∃ fs f, P.underlying T = some (.struct fs) ∧ fs[i]? = some f ∧ f.offset = off ∧ szT P f.type = some z ∧ agT P f.type = some g := by
  unfold flT at hs
  split at hs
  · rename_i fs hu
    split at hs
    · rename_i f hf
      split at hs
      · rename_i z' b' h1 h2
        simp only [Option.some.injEq, Prod.mk.injEq] at hs
        obtain ⟨rfl, rfl, rfl⟩ := hs
        exact ⟨fs, f, hu, hf, rfl, h1, h2⟩
      · cases hs
    · cases hs
  · cases hs
theorem kiT_some {T : TypeId} {k : Kind} (hk : kiT P T = some k) : ∃ d, P.underlying T = some d ∧ (k = .bool ↔ d = .bool) ∧ (∀ i, k = .int i ↔ d = .int i) ∧ (k = .string ↔ d = .string) ∧ (k = .iface ↔ ∃ ms, d = .interface ms) := by
  unfold kiT at hk
  split at hk <;> first | (cases hk; done) | skip
  all_goals
    rename_i hu
    injection hk with hk
    subst hk
    refine ⟨_, hu, ?_, ?_, ?_, ?_⟩ <;> simp
  all_goals
    rename_i h1 h2 h3 h4
    first
      | exact h1
      | exact h3
      | exact h2
      | exact h4
      | (intro i e; exact h2 i e)

/-! memory -/
theorem run_loads (P : Program) (cs : List Value) (a : Addr) (hc : ∀ (j : Nat) v, cs[j]? = some v → w.cell? (a.add j) = some v) : (loadCells a cs.length).run P w = .ok cs.toArray w :=
  run_loadCells_list w a cs hc

/-- Cells that are read one by one, as a list. -/
theorem exists_cells {cs : List AV} {a : Addr} (m : Nat) (hm : m = cs.length) (hc : ∀ k y, cs[k]? = some y → y.one = true ∧ ∃ u, w.cell? (a.add k) = some u ∧ RV C y u) :
    ∃ vs : List Value, vs.length = m ∧ RVs C cs vs ∧ (∀ j v, vs[j]? = some v → w.cell? (a.add j) = some v) ∧ (∀ u ∈ vs, u.oneCell' = true) := by
  have key : ∀ k, ∃ u, k < cs.length → (w.cell? (a.add k) = some u ∧ ∀ y, cs[k]? = some y → RV C y u ∧ y.one = true) := by
    intro k
    by_cases hk : k < cs.length
    · have hy : cs[k]? = some cs[k] := List.getElem?_eq_getElem hk
      obtain ⟨h1, u, hu, hrv⟩ := hc k cs[k] hy
      exact ⟨u, fun _ => ⟨hu, fun y hy' => by rw [hy] at hy'; injection hy' with hy'; subst hy'; exact ⟨hrv, h1⟩⟩⟩
    · exact ⟨default, fun h => absurd h hk⟩
  let f : Nat → Value := fun k => (key k).choose
  have hf : ∀ k, k < cs.length → w.cell? (a.add k) = some (f k) ∧ ∀ y, cs[k]? = some y → RV C y (f k) ∧ y.one = true := fun k hk => (key k).choose_spec hk
  have hget : ∀ (k : Nat) (v : Value), ((List.range cs.length).map f)[k]? = some v → k < cs.length ∧ v = f k := fun k v hv => by
    rw [List.getElem?_map] at hv
    cases hr : (List.range cs.length)[k]? with
    | none => rw [hr] at hv; cases hv
    | some i =>
      rw [hr] at hv
      simp at hv
      have hi := List.getElem?_eq_some_iff.1 hr
      obtain ⟨hlt, he⟩ := hi
      simp at hlt he
      subst he
      exact ⟨hlt, hv.symm⟩
  refine ⟨(List.range cs.length).map f, by simp [hm], ⟨by simp, fun k x v hx hv => ?_⟩, fun j v hv => ?_, fun u hu => ?_⟩
  · obtain ⟨hk, rfl⟩ := hget k v hv
    exact ((hf k hk).2 x hx).1
  · obtain ⟨hk, rfl⟩ := hget j v hv
    exact (hf j hk).1
  · obtain ⟨k, hk, rfl⟩ := List.mem_map.1 hu
    simp at hk
    have := (hf k hk).2 cs[k] (List.getElem?_eq_getElem hk)
    exact (this.1.one_cell this.2).1

/-- A variable read. -/
theorem run_loadVar_part {T : TypeId} {g : Bool} {z : Nat} (hg : agT P T = some g) (hz : szT P T = some z) {cs : List AV} {off : Nat} {a : Addr}
    (hc : ∀ (k : Nat) (y : AV), cs[off + k]? = some y → y.one = true ∧ ∃ u, w.cell? (a.add k) = some u ∧ RV C y u) {v : AV} (hp : part g cs off z = some v) :
    ∃ x, (loadVar T a).run P w = .ok x w ∧ RV C v x := by
  obtain ⟨d, hd, hag⟩ := agT_some (w := w) hg
  cases g with
  | true =>
    simp only [part, if_true] at hp
    split at hp
    · rename_i hle
      injection hp with hp
      subst hp
      have hlen : ((cs.drop off).take z).length = z := by simp; omega
      have hget : ∀ (k : Nat) (y : AV), ((cs.drop off).take z)[k]? = some y → y.one = true ∧ ∃ u, w.cell? (a.add k) = some u ∧ RV C y u := fun k y hy => by
        rw [List.getElem?_take] at hy
        split at hy
        · rw [List.getElem?_drop] at hy; exact hc k y hy
        · cases hy
      obtain ⟨vs, h1, h2, h3, h4⟩ := exists_cells z hlen.symm hget
      refine ⟨.agg vs.toArray, ?_, RV.mk_agg h2 (fun k x hx => (hget k x hx).1)⟩
      have := run_loads P vs a h3
      rw [h1] at this
      simp [loadVar, hag, run_sizeOf hz, this]
    · cases hp
  | false =>
    simp only [part, Bool.false_eq_true, if_false] at hp
    obtain ⟨_, u, hu, hrv⟩ := hc 0 v (by simpa using hp)
    rw [Addr.add_zero'] at hu
    exact ⟨u, by simp [loadVar, hag, hu], hrv⟩

/-- A part of what lies in a temporary. -/
theorem run_part {T : TypeId} {g : Bool} {z : Nat} (hg : agT P T = some g) (hz : szT P T = some z) {cs : List AV} {off : Nat} {vs : Array Value} (hsz : vs.size = cs.length) (h1 : ∀ (k : Nat) (x : AV), cs[k]? = some x → x.one = true)
    (hc : ∀ (k : Nat) (x : AV) (v : Value), cs[k]? = some x → vs[k]? = some v → RV C x v) {v : AV} (hp : part g cs off z = some v) :
    ∃ x, (Go.part T vs off).run P w = .ok x w ∧ RV C v x := by
  obtain ⟨d, hd, hag⟩ := agT_some (w := w) hg
  cases g with
  | true =>
    simp only [part, if_true] at hp
    split at hp
    · rename_i hle
      injection hp with hp
      subst hp
      refine ⟨.agg (vs.extract off (off + z)), by simp [Go.part, hag, run_sizeOf hz], .agg _ _ (by simp; omega) (fun k x hx => ?_) (fun k x u hx hu => ?_)⟩
      · rw [List.getElem?_take] at hx
        split at hx
        · rw [List.getElem?_drop] at hx; exact h1 _ x hx
        · cases hx
      · rw [List.getElem?_take] at hx
        split at hx
        · rename_i hk
          rw [List.getElem?_drop] at hx
          rw [Array.getElem?_extract] at hu
          split at hu
          · exact hc _ x u hx hu
          · cases hu
        · cases hx
    · cases hp
  | false =>
    simp only [part, Bool.false_eq_true, if_false] at hp
    have hlt : off < vs.size := by
      rw [hsz]
      rcases Nat.lt_or_ge off cs.length with h' | h'
      · exact h'
      · rw [List.getElem?_eq_none h'] at hp; cases hp
    have hv : vs[off]? = some vs[off] := Array.getElem?_eq_getElem hlt
    exact ⟨vs[off], by simp [Go.part, hag, hv], hc off v _ hp hv⟩

end Go.Av
end

section
namespace Go.Av

variable {P : Program} {U : Nat → Prop} {n n' : Nat} {ρ : Nat → Nat} {Ro : Nat → Prop} {h : Heap} {w w1 : World} {t : Tmps} {a : Act} {o : Oper} {C : Cx} {v : AV} {us : List (Nat × Option Row)}

theorem okX1 {x : Operand} {op : Op} (ho : opOk op = true) (hx : x ∈ op.operands.toList) : okX x = true := by
  unfold opOk at ho
  rw [← Array.all_toList] at ho
  exact List.all_eq_true.1 ho x hx

theorem sound_move {x : Operand} (ho : okX x = true) : Sound P (.move x) t h n (aev t x) [] n :=
  Sound.val fun _ _ U ρ Ro w a _ ht => ⟨a.eval x, .inl (by simp [execOp]), rv_ev ht ho⟩
theorem sound_assign {x : Operand} (ho : okX x = true) : Sound P (.assign x) t h n (aev t x) [] n :=
  Sound.val fun _ _ U ρ Ro w a _ ht => ⟨a.eval x, .inl (by simp [execOp]), rv_ev ht ho⟩
theorem sound_pick {c x y : Operand} (hc : okX c = true) (hx : okX x = true) (hy : okX y = true) {u : Bool} (hu : aev t c = .b u) : Sound P (.pick c x y) t h n (if u then aev t x else aev t y) [] n :=
  Sound.val fun _ _ U ρ Ro w a _ ht => by
    have h1 := rv_ev ht hc
    rw [hu] at h1
    have h2 := h1.inv_b
    refine ⟨if u then a.eval x else a.eval y, .inl (by simp [execOp, h2, asBool]), ?_⟩
    cases u
    · exact rv_ev ht hy
    · exact rv_ev ht hx

/-! binary operations -/
theorem eqGuard_ni {op : BinOp} {T : TypeId} {x y : Operand} (hk : (isK x || isK y) = true) (P : Program) (w : World) : (eqGuard op T x y .nilIface .nilIface).run P w = .ok () w := by
  cases x <;> cases y <;> simp [isK] at hk <;> cases op <;> rfl

theorem run_equalIn_bool {T : TypeId} (hk : kiT P T = some .bool) (u v : Bool) (d : Nat) : (Op.equalIn (d + 1) T (.bool u) (.bool v)).run P w = .ok (u == v) w := by
  obtain ⟨D, hd, h1, _⟩ := kiT_some hk
  obtain rfl := h1.1 rfl
  simp only [Op.equalIn, Sem.run_bind, run_underlying hd, Result.andThen_ok, Sem.run_pure]
theorem run_equalIn_ni {T : TypeId} (hk : kiT P T = some .iface) (d : Nat) : (Op.equalIn (d + 1) T .nilIface .nilIface).run P w = .ok true w := by
  obtain ⟨D, hd, _, _, _, h1⟩ := kiT_some hk
  obtain ⟨ms, rfl⟩ := h1.1 rfl
  simp only [Op.equalIn, Sem.run_bind, run_underlying hd, Result.andThen_ok, Sem.run_pure]
theorem run_equalIn_ni_ifc {T U : TypeId} {z : Value} (hk : kiT P T = some .iface) (d : Nat) : (Op.equalIn (d + 1) T .nilIface (.iface U z)).run P w = .ok false w ∧ (Op.equalIn (d + 1) T (.iface U z) .nilIface).run P w = .ok false w := by
  obtain ⟨D, hd, _, _, _, h1⟩ := kiT_some hk
  obtain ⟨ms, rfl⟩ := h1.1 rfl
  constructor <;> simp only [Op.equalIn, Sem.run_bind, run_underlying hd, Result.andThen_ok, Sem.run_pure]
theorem run_equal_bool {T : TypeId} (hk : kiT P T = some .bool) (u v : Bool) : (Op.equal T (.bool u) (.bool v)).run P w = .ok (u == v) w := run_equalIn_bool hk u v 9999
theorem run_equal_ni {T : TypeId} (hk : kiT P T = some .iface) : (Op.equal T .nilIface .nilIface).run P w = .ok true w := run_equalIn_ni hk 9999
theorem run_equal_ni_ifc {T U : TypeId} {z : Value} (hk : kiT P T = some .iface) : (Op.equal T .nilIface (.iface U z)).run P w = .ok false w ∧ (Op.equal T (.iface U z) .nilIface).run P w = .ok false w := run_equalIn_ni_ifc hk 9999

theorem run_eqNilP {T e : TypeId} (hu : P.underlying T = some (.pointer e)) (d : Nat) (a : Option Addr) : (Op.equalIn (d + 1) T (.pointer a) (.pointer none)).run P w = .ok a.isNone w := by
  cases a with
  | none => simp only [Op.equalIn, Sem.run_bind, run_underlying hu, Result.andThen_ok, Sem.run_pure]
  | some a => simp only [Op.equalIn, Sem.run_bind, run_underlying hu, Result.andThen_ok, Sem.run_pure]; rfl
theorem run_eqNilS {T e : TypeId} (hu : P.underlying T = some (.slice e)) (d : Nat) (a : Option Addr) (len cap : Nat) : (Op.equalIn (d + 1) T (.slice a len cap) (.slice none 0 0)).run P w = .ok a.isNone w := by
  cases a with
  | none => simp only [Op.equalIn, Sem.run_bind, run_underlying hu, Result.andThen_ok, Sem.run_pure]
  | some a => simp only [Op.equalIn, Sem.run_bind, run_underlying hu, Result.andThen_ok, Sem.run_pure]; rfl
theorem run_nilP {op : BinOp} {T : TypeId} {x y : Operand} (hT : ptT P T = true) (a : Option Addr) {v : AV} (hv : nilOp op a.isNone = some v) :
    ∃ r, (do eqGuard op T x y (.pointer a) (.pointer none); binOp op T (.pointer a) (.pointer none) : Sem Value).run P w = .ok r w ∧ RV C v r := by
  unfold ptT at hT
  split at hT
  · rename_i e hu
    have h2 : (Op.equal T (.pointer a) (.pointer none)).run P w = .ok a.isNone w := run_eqNilP hu 9999 a
    unfold nilOp at hv
    split at hv <;> first | (cases hv; done) | skip
    · injection hv with hv; subst hv
      have hg : (eqGuard .eql T x y (.pointer a) (.pointer none)).run P w = .ok () w := rfl
      exact ⟨.bool a.isNone, by simp only [Sem.run_bind, hg, Result.andThen_ok, binOp, h2, Sem.run_pure], .b _⟩
    · injection hv with hv; subst hv
      have hg : (eqGuard .neq T x y (.pointer a) (.pointer none)).run P w = .ok () w := rfl
      exact ⟨.bool (!a.isNone), by simp only [Sem.run_bind, hg, Result.andThen_ok, binOp, h2, Sem.run_pure], .b _⟩
  · cases hT
theorem run_nilS {op : BinOp} {T : TypeId} {x y : Operand} (hT : (slT P T).isSome = true) (a : Option Addr) (len cap : Nat) {v : AV} (hv : nilOp op a.isNone = some v) :
    ∃ r, (do eqGuard op T x y (.slice a len cap) (.slice none 0 0); binOp op T (.slice a len cap) (.slice none 0 0) : Sem Value).run P w = .ok r w ∧ RV C v r := by
  obtain ⟨⟨e, z, b⟩, hT⟩ := Option.isSome_iff_exists.1 hT
  obtain ⟨hu, _, _⟩ := slT_some hT
  have h2 : (Op.equal T (.slice a len cap) (.slice none 0 0)).run P w = .ok a.isNone w := run_eqNilS hu 9999 a len cap
  unfold nilOp at hv
  split at hv <;> first | (cases hv; done) | skip
  · injection hv with hv; subst hv
    have hg : (eqGuard .eql T x y (.slice a len cap) (.slice none 0 0)).run P w = .ok () w := rfl
    exact ⟨.bool a.isNone, by simp only [Sem.run_bind, hg, Result.andThen_ok, binOp, h2, Sem.run_pure], .b _⟩
  · injection hv with hv; subst hv
    have hg : (eqGuard .neq T x y (.slice a len cap) (.slice none 0 0)).run P w = .ok () w := rfl
    exact ⟨.bool (!a.isNone), by simp only [Sem.run_bind, hg, Result.andThen_ok, binOp, h2, Sem.run_pure], .b _⟩

/-! structs and arrays, part by part -/
theorem run_eqFields {d : Nat} {xs ys : Array Value} {cs ds : List AV} (hc : RV C (.agg cs) (.agg xs)) (hd : RV C (.agg ds) (.agg ys)) (ih : ∀ {T : TypeId} {x y : AV} {a b : Value} {u : Bool}, RV C x a → RV C y b → aeq P d T x y = some u → (Op.equalIn d T a b).run P w = .ok u w) :
    ∀ {fs : List Field} {u : Bool}, allO (fs.map fun f => if f.name = "_" then none else match agT P f.type, szT P f.type with
        | some g, some z => (match part g cs f.offset z, part g ds f.offset z with | some a, some b => aeq P d f.type a b | _, _ => none)
        | _, _ => none) = some u → (Op.eqFields d xs ys fs).run P w = .ok u w
  | [], u, h => by
    simp only [List.map_nil, allO, Option.some.injEq] at h
    subst h
    rfl
  | f :: fs, u, h => by
    simp only [List.map_cons, allO] at h
    split at h
    · rename_i a b h1 h2
      injection h with h
      subst h
      have hr := run_eqFields hc hd ih h2
      split at h1
      · cases h1
      · rename_i hn
        split at h1
        · rename_i g z hg hz
          split at h1
          · rename_i x y hx hy
            obtain ⟨_, e1, c1, c2, c3⟩ := hc.inv_agg
            injection e1 with e1
            subst e1
            obtain ⟨_, e2, d1, d2, d3⟩ := hd.inv_agg
            injection e2 with e2
            subst e2
            obtain ⟨r1, k1, k2⟩ := run_part (w := w) hg hz c1 c2 c3 hx
            obtain ⟨r2, k3, k4⟩ := run_part (w := w) hg hz d1 d2 d3 hy
            have k5 := ih k2 k4 h1
            simp only [Op.eqFields, hn, ne_eq, not_false_eq_true, if_true, Sem.run_bind, k1, k3, k5, Result.andThen_ok]
            cases a
            · simp
            · simpa using hr
          · cases h1
        · cases h1
    · cases h
theorem run_eqItems {d n : Nat} {e : TypeId} {xs ys : Array Value} {cs ds : List AV} {g : Bool} {z : Nat} (hg : agT P e = some g) (hz : szT P e = some z) (hc : RV C (.agg cs) (.agg xs)) (hd : RV C (.agg ds) (.agg ys)) (ih : ∀ {T : TypeId} {x y : AV} {a b : Value} {u : Bool}, RV C x a → RV C y b → aeq P d T x y = some u → (Op.equalIn d T a b).run P w = .ok u w) :
    ∀ {is : List Nat} {u : Bool}, allO (is.map fun i => match part g cs (i * z) z, part g ds (i * z) z with | some a, some b => aeq P d e a b | _, _ => none) = some u → (Op.eqItems d e z xs ys is).run P w = .ok u w
  | [], u, h => by
    simp only [List.map_nil, allO, Option.some.injEq] at h
    subst h
    rfl
  | i :: is, u, h => by
    simp only [List.map_cons, allO] at h
    split at h
    · rename_i a b h1 h2
      injection h with h
      subst h
      have hr := run_eqItems (n := n) hg hz hc hd ih h2
      split at h1
      · rename_i x y hx hy
        obtain ⟨_, e1, c1, c2, c3⟩ := hc.inv_agg
        injection e1 with e1
        subst e1
        obtain ⟨_, e2, d1, d2, d3⟩ := hd.inv_agg
        injection e2 with e2
        subst e2
        obtain ⟨r1, k1, k2⟩ := run_part (w := w) hg hz c1 c2 c3 hx
        obtain ⟨r2, k3, k4⟩ := run_part (w := w) hg hz d1 d2 d3 hy
        have k5 := ih k2 k4 h1
        simp only [Op.eqItems, Sem.run_bind, k1, k3, k5, Result.andThen_ok]
        cases a
        · simp
        · simpa using hr
      · cases h1
    · cases h
theorem run_aeq : ∀ {d : Nat} {T : TypeId} {x y : AV} {a b : Value} {u : Bool}, RV C x a → RV C y b → aeq P d T x y = some u → (Op.equalIn d T a b).run P w = .ok u w
  | 0, _, _, _, _, _, _, _, _, h => by cases h
  | d + 1, T, x, y, a, b, u, hx, hy, h => by
    have ih := fun {T x y a b u} hx hy h => run_aeq (d := d) (T := T) (x := x) (y := y) (a := a) (b := b) (u := u) hx hy h
    unfold aeq at h
    split at h
    · rename_i hu
      split at h
      · injection h with h; subst h
        obtain rfl := hx.inv_b
        obtain rfl := hy.inv_b
        simp only [Op.equalIn, Sem.run_bind, run_underlying hu, Result.andThen_ok, Sem.run_pure]
      · cases h
    · rename_i hu
      split at h
      · split at h
        · rename_i hk
          subst hk
          injection h with h; subst h
          obtain rfl := hx.inv_i
          obtain rfl := hy.inv_i
          simp only [Op.equalIn, Sem.run_bind, run_underlying hu, Result.andThen_ok, Sem.run_pure, if_true]
        · cases h
      · cases h
    · rename_i hu
      split at h
      · injection h with h; subst h
        obtain rfl := hx.inv_s
        obtain rfl := hy.inv_s
        simp only [Op.equalIn, Sem.run_bind, run_underlying hu, Result.andThen_ok, Sem.run_pure, beq_toListBytes]
      · cases h
    · rename_i fs hu
      split at h
      · split at h
        · cases h
        · rename_i hp
          obtain ⟨xs, rfl, -⟩ := hx.inv_agg
          obtain ⟨ys, rfl, -⟩ := hy.inv_agg
          have hfs : P.fieldsOf T = fs := by simp [Program.fieldsOf, hu]
          rw [run_equalIn_struct w d T xs ys (by rw [hfs]; exact hu) (by simpa using hp), hfs]
          exact run_eqFields hx hy ih h
      · cases h
    · rename_i m e hu
      split at h
      · split at h
        · rename_i g z hg hz
          obtain ⟨xs, rfl, -⟩ := hx.inv_agg
          obtain ⟨ys, rfl, -⟩ := hy.inv_agg
          have hz' := hz
          unfold szT at hz'
          cases hi : P.info? e with
          | none => rw [hi] at hz'; cases hz'
          | some i =>
            rw [hi] at hz'
            injection hz' with hz'
            have hc : P.cellsOf e = z := by rw [← hz']; simp [Program.cellsOf, hi]
            rw [run_equalIn_array w d xs ys hu hi, hc]
            exact run_eqItems (n := m) hg hz hx hy ih h
        · cases h
      · cases h
    · cases h

theorem run_abin {op : BinOp} {T : TypeId} {x y : Operand} {p q v : AV} {a b : Value} (hp : RV C p a) (hq : RV C q b) (hv : abin P op T x y p q = some v) :
    ∃ r, (do eqGuard op T x y a b; binOp op T a b : Sem Value).run P w = .ok r w ∧ RV C v r := by
  unfold abin at hv
  split at hv
  · -- int
    obtain rfl := hp.inv_i
    obtain rfl := hq.inv_i
    rename_i k m k' m'
    split at hv
    · split at hv
      · rename_i h0
        injection hv with hv; subst hv
        refine ⟨_, ?_, .i _ _⟩
        simp [eqGuard, binOp, Op.shift, show ¬ m' < 0 by omega]
      · cases hv
    · split at hv
      · rename_i h0
        injection hv with hv; subst hv
        refine ⟨_, ?_, .i _ _⟩
        simp [eqGuard, binOp, Op.shift, show ¬ m' < 0 by omega]
      · cases hv
    · rename_i hns hnr
      split at hv
      · rename_i hk
        subst hk
        split at hv
        all_goals first
          | (cases hv; done)
          | skip
        all_goals first
          | (injection hv with hv; subst hv; refine ⟨_, ?_, by constructor⟩; simp [eqGuard, binOp, Op.intArith, Op.intCmp, Op.intBits, bits]; done)
          | (split at hv
             · cases hv
             · rename_i hz
               injection hv with hv; subst hv
               refine ⟨_, ?_, .i _ _⟩
               simp [eqGuard, binOp, Op.intDiv, hz])
      · cases hv
  · -- string
    obtain rfl := hp.inv_s
    obtain rfl := hq.inv_s
    split at hv
    · split at hv
      · rename_i h0
        injection hv with hv; subst hv
        refine ⟨_, ?_, .s _⟩
        simp only [eqGuard_add, binOp, Op.stringOp, IntKind.max_i64, Sem.run_bind, Sem.run_pure, Result.andThen_ok]
        rw [if_neg (by omega)]
        rfl
      · cases hv
    · injection hv with hv; subst hv
      exact ⟨_, by simp [eqGuard_at_string, binOp, Op.stringOp], .b _⟩
    · injection hv with hv; subst hv
      exact ⟨_, by simp [eqGuard_at_string, binOp, Op.stringOp], .b _⟩
    · cases hv
  · -- bool
    obtain rfl := hp.inv_b
    obtain rfl := hq.inv_b
    split at hv
    · rename_i hk
      split at hv
      · injection hv with hv; subst hv
        exact ⟨_, by simp [eqGuard_at_bool, binOp, run_equal_bool hk], .b _⟩
      · injection hv with hv; subst hv
        exact ⟨_, by simp [eqGuard_at_bool, binOp, run_equal_bool hk], .b _⟩
      · cases hv
    · cases hv
  · obtain rfl := hp.inv_ni
    obtain rfl := hq.inv_ni
    split at hv
    · rename_i hk
      obtain ⟨hk, hc⟩ := hk
      split at hv
      · injection hv with hv; subst hv
        exact ⟨_, by simp [eqGuard_ni hc, binOp, run_equal_ni hk], .b _⟩
      · injection hv with hv; subst hv
        exact ⟨_, by simp [eqGuard_ni hc, binOp, run_equal_ni hk], .b _⟩
      · cases hv
    · cases hv
  · obtain rfl := hp.inv_ni
    obtain ⟨z, rfl, _⟩ := hq.inv_ifc
    split at hv
    · rename_i hk
      split at hv
      · injection hv with hv; subst hv
        exact ⟨_, by simp [eqGuard_nil_iface, binOp, (run_equal_ni_ifc hk).1], .b _⟩
      · injection hv with hv; subst hv
        exact ⟨_, by simp [eqGuard_nil_iface, binOp, (run_equal_ni_ifc hk).1], .b _⟩
      · cases hv
    · cases hv
  · obtain rfl := hq.inv_ni
    obtain ⟨z, rfl, _⟩ := hp.inv_ifc
    split at hv
    · rename_i hk
      split at hv
      · injection hv with hv; subst hv
        exact ⟨_, by simp [eqGuard_at_iface, binOp, (run_equal_ni_ifc hk).2], .b _⟩
      · injection hv with hv; subst hv
        exact ⟨_, by simp [eqGuard_at_iface, binOp, (run_equal_ni_ifc hk).2], .b _⟩
      · cases hv
    · cases hv
  · obtain ⟨_, rfl⟩ := hp.inv_p
    cases hq
    split at hv
    · rename_i hk; exact run_nilP hk _ hv
    · cases hv
  · obtain ⟨_, _, rfl, _⟩ := hp.inv_q
    cases hq
    split at hv
    · rename_i hk; exact run_nilP hk _ hv
    · cases hv
  · cases hp
    cases hq
    split at hv
    · rename_i hk; exact run_nilP hk _ hv
    · cases hv
  · obtain ⟨_, rfl, _⟩ := hp.inv_sl
    obtain rfl := hq.inv_nil
    split at hv
    · rename_i hk; exact run_nilS hk _ _ _ hv
    · cases hv
  · obtain rfl := hq.inv_nil
    split at hv
    · rename_i hk
      cases hp with
      | ron => exact run_nilS hk _ _ _ hv
      | ro cs len a cap vs h1 h2 h3 h4 h5 => exact run_nilS hk _ _ _ hv
    · cases hv
  · obtain ⟨xs, rfl, -⟩ := hp.inv_agg
    obtain ⟨ys, rfl, -⟩ := hq.inv_agg
    split at hv
    · rename_i hg
      unfold aggOp at hv
      split at hv
      · rename_i u hu
        injection hv with hv; subst hv
        have h1 := run_aeq (w := w) hp hq hu
        refine ⟨.bool u, ?_, .b _⟩
        simp only [Sem.run_bind, run_eqGuard_agg w .eql T x y xs ys hg, Result.andThen_ok, run_eql_struct, h1]
      · rename_i u hu
        injection hv with hv; subst hv
        have h1 := run_aeq (w := w) hp hq hu
        refine ⟨.bool (!u), ?_, .b _⟩
        simp only [Sem.run_bind, run_eqGuard_agg w .neq T x y xs ys hg, Result.andThen_ok, run_neq_struct, h1]
      · cases hv
    · cases hv
  · cases hv

theorem sound_bin {op : BinOp} {T U : TypeId} {x y : Operand} (hx : okX x = true) (hy : okX y = true) (hv : abin P op T x y (aev t x) (aev t y) = some v) : Sound P (.binOp op T x y U) t h n v [] n :=
  Sound.val fun _ _ U ρ Ro w a _ ht => by
    obtain ⟨r, h1, h2⟩ := run_abin (w := w) (rv_ev ht hx) (rv_ev ht hy) hv
    refine ⟨r, .inl ?_, h2⟩
    simp only [execOp]
    rw [Sem.run_bind, h1]
    rfl

theorem sound_un {op : UnOp} {T : TypeId} {x : Operand} (hx : okX x = true) (hv : aun op (aev t x) = some v) : Sound P (.unOp op T x) t h n v [] n :=
  Sound.val fun _ _ U ρ Ro w a _ ht => by
    have hr := rv_ev ht hx
    generalize aev t x = p at hv hr
    unfold aun at hv
    split at hv
    · injection hv with hv; subst hv
      have h1 := hr.inv_i
      exact ⟨_, .inl (by simp [execOp, h1, Op.unary, Op.intArith]), .i _ _⟩
    · injection hv with hv; subst hv
      have h1 := hr.inv_i
      exact ⟨_, .inl (by simp [execOp, h1, Op.unary, Op.intBits, bits]), .i _ _⟩
    · injection hv with hv; subst hv
      have h1 := hr.inv_b
      exact ⟨_, .inl (by simp [execOp, h1, Op.unary]), .b _⟩
    · cases hv

theorem sound_makeInterface {T : TypeId} {x : Operand} {k : Kind} (hx : okX x = true) (hk : kiT P T = some k) (hne : k ≠ .iface) : Sound P (.makeInterface T x) t h n (.ifc T (aev t x)) [] n :=
  Sound.val fun _ _ U ρ Ro w a _ ht => by
    obtain ⟨d, hd, _, _, _, h1⟩ := kiT_some hk
    refine ⟨.iface T (a.eval x), .inl ?_, .ifc _ _ _ (rv_ev ht hx)⟩
    simp only [execOp, Sem.run_bind, Instr.makeInterface, run_underlying hd, Result.andThen_ok]
    cases d <;> first | rfl | (exact absurd (h1.2 ⟨_, rfl⟩) hne)

theorem rvs_map {x : List Operand} (ht : RelT C t a) (hx : ∀ y ∈ x, okX y = true) : RVs C (x.map (aev t)) (x.map a.eval) :=
  ⟨by simp, fun k y v hy hv => by
    rw [List.getElem?_map] at hy hv
    cases hk : x[k]? with
    | none => rw [hk] at hy; cases hy
    | some z => rw [hk] at hy hv; simp at hy hv; subst hy; subst hv; exact rv_ev ht (hx z (List.mem_of_getElem? hk))⟩

theorem sound_makeFunc {f : Fn} {first cap : Array Operand} (ho : opOk (.makeFunc f first cap) = true) : Sound P (.makeFunc f first cap) t h n (.fn f (first.toList.map (aev t)) (cap.toList.map (aev t))) [] n :=
  Sound.val fun _ _ U ρ Ro w a _ ht => by
    have h1 := rvs_map ht (x := first.toList) (fun y hy => okX1 ho (by simp [Op.operands]; exact .inl (by simpa using hy)))
    have h2 := rvs_map ht (x := cap.toList) (fun y hy => okX1 ho (by simp [Op.operands]; exact .inr (by simpa using hy)))
    refine ⟨.func f (first.map a.eval) (cap.map a.eval), .inl (by simp [execOp, Instr.makeFunc]), .fn _ _ _ _ _ (by simp) (by simp) (fun k x v hx hv => h1.2 k x v hx ?_) (fun k x v hx hv => h2.2 k x v hx ?_)⟩
    · rw [← hv]; simp
    · rw [← hv]; simp

theorem sound_nilCheck {x : Operand} (hx : okX x = true) (hv : (aev t x = v ∧ ((∃ j off, v = .p j off) ∨ (∃ cs off, v = .q cs off) ∨ ∃ f p q, v = .fn (.func f) p q))) : Sound P (.nilCheck x) t h n v [] n :=
  Sound.val fun _ _ U ρ Ro w a _ ht => by
    obtain ⟨rfl, hv⟩ := hv
    have hr := rv_ev ht hx
    refine ⟨a.eval x, .inl ?_, hr⟩
    generalize aev t x = p at hv hr
    rcases hv with ⟨j, off, rfl⟩ | ⟨cs, off, rfl⟩ | ⟨f, p, q, rfl⟩
    · have h1 := hr.inv_p.2
      simp [execOp, h1]
    · obtain ⟨b, vs, h1, _⟩ := hr.inv_q
      simp [execOp, h1]
    · obtain ⟨vs, us, h1, _⟩ := hr.inv_fn
      simp [execOp, h1]

theorem sound_fieldAddr {T : TypeId} {x : Operand} {f off z : Nat} {g : Bool} (hx : okX x = true) (hf : flT P T f = some (off, z, g)) (hz : z ≠ 0)
    (hv : (∃ j o, aev t x = .p j o ∧ v = .p j (o + off)) ∨ (∃ cs o, aev t x = .q cs o ∧ v = .q cs (o + off))) : Sound P (.fieldAddr T x f) t h n v [] n :=
  Sound.val fun _ _ U ρ Ro w a _ ht => by
    obtain ⟨fs, fd, hu, hfd, rfl, hs, _⟩ := flT_some hf
    have hr := rv_ev ht hx
    have hplace : ∀ b : Addr, (fieldPlace b fd).run P w = .ok (b.add fd.offset) w := fun b => by simp [fieldPlace, run_sizeOf hs, hz]
    rcases hv with ⟨j, o, he, rfl⟩ | ⟨cs, o, he, rfl⟩
    · rw [he] at hr
      obtain ⟨hj, h1⟩ := hr.inv_p
      refine ⟨_, .inl (by simp [execOp, Instr.fieldAt, run_underlying hu, hfd, h1, Instr.sureAddr, hplace]; rfl), ?_⟩
      rw [Addr.add_lit]
      exact .p _ _ hj
    · rw [he] at hr
      obtain ⟨b, vs, hb, h1, h2, h3⟩ := hr.inv_q
      refine ⟨_, .inl (by simp [execOp, Instr.fieldAt, run_underlying hu, hfd, hb, Instr.sureAddr, hplace]; rfl), ?_⟩
      rw [add_add]
      exact .q _ _ _ vs h1 h2 h3

theorem sound_field {T : TypeId} {x : Operand} {f off z : Nat} {g : Bool} {cs : List AV} (hx : okX x = true) (hf : flT P T f = some (off, z, g)) (he : aev t x = .agg cs) (hv : part g cs off z = some v) : Sound P (.field T x f) t h n v [] n :=
  Sound.val fun _ _ U ρ Ro w a _ ht => by
    obtain ⟨fs, fd, hu, hfd, rfl, hs, hg⟩ := flT_some hf
    have hr := rv_ev ht hx
    rw [he] at hr
    obtain ⟨vs, h1, h2, h3, h4⟩ := hr.inv_agg
    obtain ⟨r, h5, h6⟩ := run_part (w := w) hg hs h2 h3 h4 hv
    exact ⟨r, .inl (by simp [execOp, Instr.field, run_underlying hu, hfd, h1, asAgg, h5]), h6⟩

theorem sound_extract {x : Operand} {i : Nat} {vs : List AV} (hx : okX x = true) (he : aev t x = .tup vs) (hv : vs[i]? = some v) : Sound P (.extract x i) t h n v [] n :=
  Sound.val fun _ _ U ρ Ro w a _ ht => by
    have hr := rv_ev ht hx
    rw [he] at hr
    obtain ⟨us, h1, h2, h3⟩ := hr.inv_tup
    have hlt : i < us.size := by
      rw [h2]
      rcases Nat.lt_or_ge i vs.length with h' | h'
      · exact h'
      · rw [List.getElem?_eq_none h'] at hv; cases hv
    have hu : us[i]? = some us[i] := Array.getElem?_eq_getElem hlt
    exact ⟨us[i], .inl (by simp [execOp, Instr.extract, h1, hu]), h3 i v _ hv hu⟩

theorem sound_load {T : TypeId} {x : Operand} (hx : okX x = true) (hv : aload P T h (aev t x) = some v) : Sound P (.load T x) t h n v [] n :=
  Sound.val fun _ _ U ρ Ro w a hrel ht => by
    have hr := rv_ev ht hx
    unfold aload at hv
    split at hv
    · rename_i g z cs off hg hz hp
      obtain ⟨b, hb, hc⟩ := hrel.read hr hp
      obtain ⟨r, h1, h2⟩ := run_loadVar_part (w := w) hg hz hc hv
      exact ⟨r, .inl (by simp [execOp, Instr.loadAt, hb, Instr.sureAddr, h1]), h2⟩
    · cases hv

theorem sound_indexAddr {T : TypeId} {x i : Operand} (hx : okX x = true) (hi : okX i = true) (hv : aindexAddr P T (aev t x) (aev t i) = some v) : Sound P (.indexAddr T x i) t h n v [] n :=
  Sound.val fun _ _ U ρ Ro w a hrel ht => by
    have hr := rv_ev ht hx
    have hri := rv_ev ht hi
    generalize aev t x = p at hv hr
    generalize aev t i = q at hv hri
    unfold aindexAddr at hv
    split at hv
    · rename_i k m
      have hm := hri.inv_i
      split at hv
      · rename_i sz j off len
        split at hv
        · rename_i e z b hs
          split at hv
          · rename_i hb
            injection hv with hv; subst hv
            obtain ⟨hu, hz, _⟩ := slT_some hs
            obtain ⟨cap, h1, h2, _⟩ := hr.inv_sl
            refine ⟨.pointer (some ((⟨(cx U ρ Ro w).ρ j, off, none⟩ : Addr).add (m.toNat * z))), .inl ?_, ?_⟩
            · simp [execOp, Instr.indexAt, hm, h1, asIntOf, run_underlying hu, run_sizeOf hz, hb.1, hb.2]
            · rw [Addr.add_lit]; exact .p _ _ h2
          · cases hv
        · cases hv
      · rename_i zz cs len
        split at hv
        · rename_i e z b hs
          split at hv
          · rename_i hb
            injection hv with hv; subst hv
            obtain ⟨hu, hz, _⟩ := slT_some hs
            cases zz with
            | true => have := hr.inv_ro1; omega
            | false =>
              obtain ⟨ad, cap, vs, hb', hl, hc, h1, h2, h3⟩ := hr.inv_ro0
              refine ⟨.pointer (some (ad.add (m.toNat * z))), .inl ?_, .q _ _ _ vs h1 h2 h3⟩
              simp [execOp, Instr.indexAt, hm, hb', asIntOf, run_underlying hu, run_sizeOf hz, hb.1, hb.2]
          · cases hv
        · cases hv
      · rename_i j off
        split at hv
        · rename_i len z g hs
          split at hv
          · rename_i hb
            injection hv with hv; subst hv
            obtain ⟨e, hu, hz, _⟩ := arT_some hs
            obtain ⟨h2, h1⟩ := hr.inv_p
            refine ⟨.pointer (some ((⟨(cx U ρ Ro w).ρ j, off, none⟩ : Addr).add (m.toNat * z))), .inl ?_, ?_⟩
            · simp [execOp, Instr.indexAt, hm, h1, asIntOf, run_underlying hu, run_sizeOf hz, Instr.sureAddr, hb.1, hb.2]
            · rw [Addr.add_lit]; exact .p _ _ h2
          · cases hv
        · cases hv
      · rename_i cs off
        split at hv
        · rename_i len z g hs
          split at hv
          · rename_i hb
            injection hv with hv; subst hv
            obtain ⟨e, hu, hz, _⟩ := arT_some hs
            obtain ⟨ad, vs, hb', h1, h2, h3⟩ := hr.inv_q
            refine ⟨.pointer (some ((ad.add off).add (m.toNat * z))), .inl ?_, ?_⟩
            · simp [execOp, Instr.indexAt, hm, hb', asIntOf, run_underlying hu, run_sizeOf hz, Instr.sureAddr, hb.1, hb.2]
            · rw [add_add]; exact .q _ _ _ vs h1 h2 h3
          · cases hv
        · cases hv
      · cases hv
    · cases hv

theorem sound_index {T : TypeId} {x i : Operand} (hx : okX x = true) (hi : okX i = true) (hv : aindex P T (aev t x) (aev t i) = some v) : Sound P (.index T x i) t h n v [] n :=
  Sound.val fun _ _ U ρ Ro w a hrel ht => by
    have hr := rv_ev ht hx
    have hri := rv_ev ht hi
    generalize aev t x = p at hv hr
    generalize aev t i = q at hv hri
    unfold aindex at hv
    split at hv
    · rename_i cs k m
      have hm := hri.inv_i
      split at hv
      · rename_i len z g hs
        split at hv
        · rename_i hb
          obtain ⟨e, hu, hz, hg⟩ := arT_some hs
          obtain ⟨vs, h1, h2, h3, h4⟩ := hr.inv_agg
          obtain ⟨r, h5, h6⟩ := run_part (w := w) hg hz h2 h3 h4 hv
          refine ⟨r, .inl ?_, h6⟩
          simp [execOp, Instr.index, hm, h1, asIntOf, run_underlying hu, run_sizeOf hz, hb.1, hb.2, h5]
        · cases hv
      · cases hv
    · rename_i u k m
      have hm := hri.inv_i
      have hs := hr.inv_s
      split at hv
      · rename_i hk
        obtain ⟨d, hd, _, _, h1, _⟩ := kiT_some hk
        obtain rfl := h1.1 rfl
        split at hv
        · rename_i hb
          injection hv with hv; subst hv
          have hlt : m.toNat < u.size := by omega
          refine ⟨.int .u8 (byteAt u m), .inl ?_, .i _ _⟩
          simp only [execOp, Instr.index, hm, hs, asIntOf, Sem.run_bind, Sem.run_pure, Result.andThen_ok, run_underlying hd]
          rw [if_pos hb.1]
          have hg : u[m.toNat]? = some u[m.toNat] := getElem?_pos u m.toNat hlt
          rw [hg]
          simp only [Sem.run_pure, Result.andThen_ok, byteAt]
          congr 3
          have : u.data.toList.getD m.toNat 0 = u[m.toNat] := by
            have hl : m.toNat < u.data.toList.length := by simpa using hlt
            rw [List.getD_eq_getElem?_getD, List.getElem?_eq_getElem hl]
            rfl
          rw [this]
        · cases hv
      · cases hv
    · cases hv

end Go.Av
end
