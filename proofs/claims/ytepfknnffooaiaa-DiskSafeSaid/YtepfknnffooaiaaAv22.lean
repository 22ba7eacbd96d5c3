/- What comes in from outside: arguments of plain types, told as read-only memory. -/
import Derived.Test.YtepfknnffooaiaaAv21
import Derived.Deep.Slices
import Derived.WideShapes
import Derived.OpenShut
import Derived.Carry
namespace Go.Av

/-- Plain types: numbers, bools, strings; slices, arrays and structs of such. -/
inductive Ty where
  | int (k : IntKind)
  | bool
  | str
  | slice (e : Ty)
  | prod (ts : List Ty)
  deriving Inhabited

mutual
def Ty.cells : Ty → Nat
  | .prod ts => cellsAll ts
  | _ => 1
def cellsAll : List Ty → Nat
  | [] => 0
  | t :: ts => t.cells + cellsAll ts
end

/-- Fields one behind the other. -/
def chkAll (chk : TypeId → Ty → Bool) (P : Program) : Nat → List Field → List Ty → Bool
  | _, [], [] => true
  | off, f :: fs, t :: ts => f.offset == off && P.cellsOf f.type == t.cells && chk f.type t && chkAll chk P (off + t.cells) fs ts
  | _, _, _ => false

def chkTy (P : Program) : Nat → TypeId → Ty → Bool
  | 0, _, _ => false
  | n + 1, t, ty => match P.underlying t, ty with
    | some (.int k), .int k' => k == k'
    | some .bool, .bool => true
    | some .string, .str => true
    | some (.slice e), .slice a => P.cellsOf e == a.cells && chkTy P n e a
    | some (.struct fs), .prod ts => P.cellsOf t == cellsAll ts && chkAll (chkTy P n) P 0 fs.toList ts
    | some (.array m e), .prod ts => P.cellsOf t == cellsAll ts && ts.length == m && ts.all fun a => P.cellsOf e == a.cells && chkTy P n e a
    | _, _ => false

mutual
/-- The cells are as the type says. -/
def Sh : Ty → List AV → Prop
  | .int k, xs => ∃ n, xs = [.i k n] ∧ (Lit.int k n).wf = true
  | .bool, xs => ∃ b, xs = [.b b]
  | .str, xs => ∃ s, xs = [.s s] ∧ s.size ≤ maxLen
  | .slice e, xs => xs = [.ro true [] 0] ∨ ∃ cs len, xs = [.ro false cs len] ∧ len ≤ maxLen ∧ cs.length = len * e.cells ∧ ∀ i, i < len → Sh e ((cs.drop (i * e.cells)).take e.cells)
  | .prod ts, xs => ShAll ts xs
def ShAll : List Ty → List AV → Prop
  | [], xs => xs = []
  | t :: ts, xs => ∃ ys zs, xs = ys ++ zs ∧ ys.length = t.cells ∧ Sh t ys ∧ ShAll ts zs
end

variable {H : Type} {enc : TypeId × Value → H} {P : Program} {w : World} {spare : Nat → Bool} {held : Bool}

/-- Cells, one by one as told. -/
def Tells (C : Cx) (xs : List AV) (vs : List Value) : Prop := vs.length = xs.length ∧ ∀ (k : Nat) (x : AV) (v : Value), xs[k]? = some x → vs[k]? = some v → x.one = true ∧ RV C x v

theorem Tells.append {C : Cx} {xs ys : List AV} {vs us : List Value} (h : Tells C xs vs) (k : Tells C ys us) : Tells C (xs ++ ys) (vs ++ us) := by
  refine ⟨by simp [h.1, k.1], fun i x v hx hv => ?_⟩
  by_cases hi : i < xs.length
  · rw [List.getElem?_append_left hi] at hx
    rw [List.getElem?_append_left (by rw [h.1]; exact hi)] at hv
    exact h.2 i x v hx hv
  · rw [List.getElem?_append_right (by omega)] at hx
    rw [List.getElem?_append_right (by rw [h.1]; omega), h.1] at hv
    exact k.2 _ x v hx hv
theorem Tells.one {C : Cx} {x : AV} {v : Value} (h1 : x.one = true) (h : RV C x v) : Tells C [x] [v] :=
  ⟨rfl, fun k y u hy hu => by
    rcases k with _ | k
    · simp at hy hu; subst hy; subst hu; exact ⟨h1, h⟩
    · simp at hy⟩

theorem opens {C : Cx} (hC : ∀ a v, w.cell? a = some v → C.M a v) : ∀ (n : Nat) (t : TypeId) (ty : Ty) (fuel : Nat) (cs : List Value) (x : DataW H × List MemPlace),
    chkTy P n t ty = true → DataW.trod enc P w 0 spare held fuel t cs = some x → ∃ xs, xs.length = ty.cells ∧ Sh ty xs ∧ Tells C xs cs := by
  intro n
  induction n with
  | zero => intro t ty fuel cs x h; simp [chkTy] at h
  | succ n ih =>
    intro t ty fuel cs x hc h
    unfold chkTy at hc
    split at hc
    · rename_i k k' hu
      have : k = k' := by simpa using hc
      subst this
      obtain ⟨m, rfl, _, hw⟩ := DataW.trod_int hu h
      exact ⟨[.i k m], by simp [Ty.cells], by simp only [Sh]; exact ⟨m, rfl, hw⟩, .one rfl (.i k m)⟩
    · rename_i hu
      obtain ⟨b, rfl, _⟩ := DataW.trod_bool hu h
      exact ⟨[.b b], by simp [Ty.cells], by simp only [Sh]; exact ⟨b, rfl⟩, .one rfl (.b b)⟩
    · rename_i hu
      obtain ⟨s, rfl, _, hs⟩ := DataW.trod_string hu h
      exact ⟨[.s s], by simp [Ty.cells], by simp only [Sh]; exact ⟨s, rfl, hs⟩, .one rfl (.s s)⟩
    · rename_i e a hu
      simp only [Bool.and_eq_true, beq_iff_eq] at hc
      obtain ⟨hce, hch⟩ := hc
      rcases Deep.open_slice hu h with ⟨rfl, _⟩ | ⟨ad, len, cap, m, n', D, Pl, rfl, _, hl, hm, hmm, _, hel⟩
      · exact ⟨[.ro true [] 0], by simp [Ty.cells], by simp [Sh], .one rfl .ron⟩
      · have hlm : len ≤ m := by rw [hmm]; split <;> omega
        have key : ∀ j, j ≤ len → ∃ cs : List AV, cs.length = j * a.cells ∧ (∀ i, i < j → Sh a ((cs.drop (i * a.cells)).take a.cells)) ∧ ∀ (k : Nat) (x : AV), cs[k]? = some x → x.one = true ∧ ∃ v, w.cell? (ad.add k) = some v ∧ RV C x v := by
          intro j
          induction j with
          | zero => exact fun _ => ⟨[], by simp, fun i hi => by omega, fun k x hx => by simp at hx⟩
          | succ j ihj =>
            intro hj
            obtain ⟨cs, h1, h2, h3⟩ := ihj (by omega)
            obtain ⟨cs', g1, g2⟩ := hel j (by omega)
            obtain ⟨_, g3, g4⟩ := World.cells?_some g1
            obtain ⟨xs, k1, k2, k3⟩ := ih e a _ _ _ hch g2
            refine ⟨cs ++ xs, by rw [List.length_append, h1, k1, Nat.succ_mul], fun i hi => ?_, fun k x hx => ?_⟩
            · by_cases hij : i < j
              · have hle : i * a.cells + a.cells ≤ cs.length := by rw [h1, ← Nat.succ_mul]; exact Nat.mul_le_mul_right _ hij
                have := h2 i hij
                rw [List.drop_append_of_le_length (by omega), List.take_append_of_le_length (by rw [List.length_drop]; omega)]
                exact this
              · have : i = j := by omega
                subst this
                have hd : (cs ++ xs).drop (i * a.cells) = xs := by rw [← h1]; simp
                rw [hd, List.take_of_length_le (by omega)]
                exact k2
            · by_cases hk : k < cs.length
              · rw [List.getElem?_append_left hk] at hx
                exact h3 k x hx
              · rw [List.getElem?_append_right (by omega)] at hx
                have hlt : k - cs.length < xs.length := by
                  rcases Nat.lt_or_ge (k - cs.length) xs.length with h' | h'
                  · exact h'
                  · rw [List.getElem?_eq_none h'] at hx; cases hx
                have hlt' : k - cs.length < cs'.length := by rw [k3.1]; exact hlt
                obtain ⟨o1, o2⟩ := k3.2 _ x _ hx (List.getElem?_eq_getElem hlt')
                refine ⟨o1, _, ?_, o2⟩
                have := g4 (k - cs.length) (by rw [← g3]; exact hlt')
                rw [List.getElem?_eq_getElem hlt'] at this
                rw [← this, hce, add_add]
                have hk' : j * a.cells + (k - cs.length) = k := by rw [← h1]; omega
                rw [hk']
        obtain ⟨cs, h1, h2, h3⟩ := key len (Nat.le_refl _)
        refine ⟨[.ro false cs len], by simp [Ty.cells], ?_, .one rfl ?_⟩
        · simp only [Sh]
          exact .inr ⟨cs, len, rfl, by omega, h1, h2⟩
        · refine .ro cs len ad cap (fun k => (w.cell? (ad.add k)).getD undef) hl hm (fun k x hx => (h3 k x hx).1) (fun k x hx => ?_) (fun k x hx => ?_) <;> obtain ⟨_, v, hv, hr⟩ := h3 k x hx
          · rw [hv]; exact hC _ _ hv
          · rw [hv]; exact hr
    · rename_i fs ts hu
      simp only [Bool.and_eq_true, beq_iff_eq] at hc
      obtain ⟨hcells, hch⟩ := hc
      obtain ⟨xs, n', _, _, hlen, hxl, hf⟩ := DataW.trod_struct hu h
      have key : ∀ (l : List Field) (ts : List Ty) (off : Nat) (i0 : Nat), (∀ j, l[j]? = fs[i0 + j]?) → chkAll (chkTy P n) P off l ts = true → off + cellsAll ts = cs.length → ∃ ys, ys.length = cellsAll ts ∧ ShAll ts ys ∧ Tells C ys (cs.drop off) := by
        intro l
        induction l with
        | nil =>
          intro ts off i0 hl hch hoff
          cases ts with
          | cons => simp [chkAll] at hch
          | nil =>
            refine ⟨[], rfl, by simp only [ShAll], ?_⟩
            rw [List.drop_eq_nil_of_le (by simp [cellsAll] at hoff; omega)]
            exact ⟨rfl, fun k x v hx => by simp at hx⟩
        | cons f l ihl =>
          intro ts off i0 hl hch hoff
          cases ts with
          | nil => simp [chkAll] at hch
          | cons ty ts =>
            simp only [chkAll, Bool.and_eq_true, beq_iff_eq] at hch
            obtain ⟨⟨⟨ho, hcf⟩, hc1⟩, hc2⟩ := hch
            have hfi : fs[i0]? = some f := by have := hl 0; simpa using this.symm
            have h1 := hf i0 f hfi
            have hlt : i0 < xs.length := by rw [hxl]; exact (Array.getElem?_eq_some_iff.1 hfi).1
            rw [List.getElem?_eq_getElem hlt] at h1
            obtain ⟨ys, k1, k2, k3⟩ := ih f.type ty _ _ _ hc1 h1
            simp only [cellsAll] at hoff
            obtain ⟨zs, m1, m2, m3⟩ := ihl ts (off + ty.cells) (i0 + 1) (fun j => by have := hl (j + 1); simpa [Nat.add_assoc, Nat.add_comm 1 j] using this) hc2 (by omega)
            refine ⟨ys ++ zs, by rw [List.length_append, k1, m1]; rfl, ?_, ?_⟩
            · simp only [ShAll]; exact ⟨ys, zs, rfl, k1, k2, m2⟩
            · have hsplit : cs.drop off = (cs.drop f.offset).take (P.cellsOf f.type) ++ cs.drop (off + ty.cells) := by
                rw [ho, hcf, ← List.drop_drop, List.take_append_drop]
              rw [hsplit]
              exact k3.append m3
      obtain ⟨ys, k1, k2, k3⟩ := key fs.toList ts 0 0 (fun j => by simp) hch (by omega)
      exact ⟨ys, by simp only [Ty.cells]; exact k1, by simp only [Sh]; exact k2, by simpa using k3⟩
    · rename_i m e ts hu
      simp only [Bool.and_eq_true, beq_iff_eq, List.all_eq_true] at hc
      obtain ⟨⟨hcells, hml⟩, hch⟩ := hc
      obtain ⟨xs, n', _, _, hlen, hxl, hf⟩ := DataW.trod_array hu h
      have key : ∀ (ts' : List Ty) (i0 : Nat), (∀ a ∈ ts', P.cellsOf e = a.cells ∧ chkTy P n e a = true) → i0 + ts'.length = m → i0 * P.cellsOf e + cellsAll ts' = cs.length → ∃ ys, ys.length = cellsAll ts' ∧ ShAll ts' ys ∧ Tells C ys (cs.drop (i0 * P.cellsOf e)) := by
        intro ts'
        induction ts' with
        | nil =>
          intro i0 _ hi hoff
          refine ⟨[], rfl, by simp only [ShAll], ?_⟩
          rw [List.drop_eq_nil_of_le (by simp [cellsAll] at hoff; omega)]
          exact ⟨rfl, fun k x v hx => by simp at hx⟩
        | cons ty ts' ihl =>
          intro i0 hall hi hoff
          simp only [List.length_cons] at hi
          have h1 := hf i0 (by omega)
          have hlt : i0 < xs.length := by omega
          rw [List.getElem?_eq_getElem hlt] at h1
          obtain ⟨hc0, hc1⟩ := hall ty (by simp)
          obtain ⟨ys, k1, k2, k3⟩ := ih e ty _ _ _ hc1 h1
          simp only [cellsAll] at hoff
          obtain ⟨zs, m1, m2, m3⟩ := ihl (i0 + 1) (fun a ha => hall a (by simp [ha])) (by omega) (by rw [Nat.succ_mul]; omega)
          refine ⟨ys ++ zs, by rw [List.length_append, k1, m1]; rfl, ?_, ?_⟩
          · simp only [ShAll]; exact ⟨ys, zs, rfl, k1, k2, m2⟩
          · have hsplit : cs.drop (i0 * P.cellsOf e) = (cs.drop (i0 * P.cellsOf e)).take (P.cellsOf e) ++ cs.drop ((i0 + 1) * P.cellsOf e) := by
              rw [Nat.succ_mul, ← List.drop_drop, List.take_append_drop]
            rw [hsplit]
            exact k3.append m3
      obtain ⟨ys, k1, k2, k3⟩ := key ts 0 (fun a ha => by simpa using hch a ha) (by omega) (by omega)
      exact ⟨ys, by simp only [Ty.cells]; exact k1, by simp only [Sh]; exact k2, by simpa using k3⟩
    · cases hc

/-! ### arguments -/
def Ty.agg : Ty → Bool
  | .prod _ => true
  | _ => false
def argA (ty : Ty) (xs : List AV) : AV := if ty.agg then .agg xs else xs.headD .ni

/-- The memory that is there when a law is called. -/
def cx0 (w : World) : Cx := cx (fun _ => False) id (fun b => b < w.heap.size) w

theorem cell_lt {a : Addr} {v : Value} (h : w.cell? a = some v) : a.block < w.heap.size := by
  unfold World.cell? at h
  rcases Nat.lt_or_ge a.block w.heap.size with h' | h'
  · exact h'
  · rw [Array.getElem?_eq_none h'] at h; simp at h

theorem argOpen {n b0 : Nat} {t : TypeId} {ty : Ty} {v : Value} {d : DataW H} {ps : List MemPlace} {r : Reach} (hc : chkTy P n t ty = true) (hv : Value.okWide P w r b0 t v) (h : DataW.Trod enc P w 0 spare held t v d ps) :
    ∃ xs, xs.length = ty.cells ∧ Sh ty xs ∧ RV (cx0 w) (argA ty xs) v := by
  obtain ⟨fuel, hf⟩ := h
  obtain ⟨xs, h1, h2, h3⟩ := opens (C := cx0 w) (fun a v hv => ⟨cell_lt hv, hv⟩) n t ty fuel _ _ hc hf
  refine ⟨xs, h1, h2, ?_⟩
  cases n with
  | zero => simp [chkTy] at hc
  | succ n =>
    unfold chkTy at hc
    have one : ∀ (ty : Ty), ty.agg = false → ty.cells = 1 → xs.length = ty.cells → v.cells = #[v] → RV (cx0 w) (argA ty xs) v := fun ty hag hce hl hcv => by
      match xs, hl.trans hce with
      | [x], _ =>
        simp only [argA, hag, Bool.false_eq_true, if_false, List.headD_cons]
        rw [hcv] at h3
        exact (h3.2 0 x v rfl rfl).2
    have many : ∀ (ts : List Ty) (cs : Array Value), v = .agg cs → RV (cx0 w) (argA (.prod ts) xs) v := fun ts cs hcs => by
      subst hcs
      simp only [argA, Ty.agg, if_true]
      simp only [Value.cells] at h3
      refine .agg xs cs (by rw [← Array.length_toList]; exact h3.1) (fun k x hx => ?_) (fun k x v hx hv => (h3.2 k x v hx (by simpa using hv)).2)
      have hlt : k < cs.toList.length := by
        rw [h3.1]
        rcases Nat.lt_or_ge k xs.length with h' | h'
        · exact h'
        · rw [List.getElem?_eq_none h'] at hx; cases hx
      exact (h3.2 k x _ hx (List.getElem?_eq_getElem hlt)).1
    split at hc
    · rename_i hu
      obtain ⟨m, rfl⟩ := WideShapes.okWide_int hu hv
      exact one _ rfl rfl h1 rfl
    · rename_i hu
      obtain ⟨m, rfl⟩ := WideShapes.okWide_bool hu hv
      exact one _ rfl rfl h1 rfl
    · rename_i hu
      obtain ⟨m, rfl⟩ := WideShapes.okWide_string hu hv
      exact one _ rfl rfl h1 rfl
    · rename_i hu
      obtain ⟨a, l, c, rfl⟩ := WideShapes.okWide_slice hu hv
      exact one _ rfl rfl h1 rfl
    · rename_i hu
      obtain ⟨cs, hcs, _⟩ := WideShapes.okWide_struct hu hv
      exact many _ cs hcs
    · rename_i hu
      simp only [Value.okWide, hu] at hv
      obtain ⟨cs, hcs, _⟩ := hv
      exact many _ cs hcs
    · cases hc

/-- A law: it comes back with true, and what was there is as it was. -/
theorem law_calls {f : FuncId} {args : List AV} {xs : List Value} (hd : DCalls P f args noHeap 0 (.b true) [] 0) (hx : RVs (cx0 w) args xs) : Calls P f xs.toArray w fun e w' => e = .returned (.bool true) ∧ RowKit.Below w.heap.size w w' := by
  obtain ⟨_, _, hcalls⟩ := hd
  have hrel : Rel (fun _ => False) id (fun b => b < w.heap.size) noHeap w :=
    ⟨fun j r hj => (nomatch hj), fun j hj => hj.elim, fun j cs hj => (nomatch hj), fun j s pos hj => (nomatch hj), fun i j ri rj hi => (nomatch hi), fun j r hj => (nomatch hj), fun b hb => hb⟩
  refine (hcalls _ _ _ w xs (fun j hj => hj.elim) hrel hx).mono ?_
  rintro e w' ⟨x, ρ', Ro', rfl, h1, h2, h3⟩
  have hxb := h2.inv_b
  subst hxb
  exact ⟨rfl, ⟨h3.os, h3.tape, h3.output, h3.size, fun k hk => h3.blk k hk (fun j r hj => nomatch hj)⟩⟩

end Go.Av
