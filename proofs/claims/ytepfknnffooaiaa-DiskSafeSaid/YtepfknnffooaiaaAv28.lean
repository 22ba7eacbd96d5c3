/- What called functions come to, when they are shown rows of one's own. -/
import Derived.Test.YtepfknnffooaiaaAv27
set_option linter.unusedVariables false
namespace Go.Av

variable {P : Program} {n n' : Nat} {h h' g : Heap}

/-- What a function comes to is right. -/
def ResOk (P : Program) (f : FuncId) (args : List AV) (h : Heap) : Res → Prop
  | .no => True
  | .pure r => ∀ n, DCalls P f args h n r [] n
  | .fresh sz len cs => freeAll cs = true ∧ ∀ m, DCalls P f args h m (.sl sz m 0 len) [(m, some (.cells cs))] (m + 1)
  | .wide F => ∀ n, DCalls P f args h n (F n).1 (F n).2.1 (F n).2.2

def Sums.addG (S : Sums) (f : FuncId) (G : List AV → Heap → Res) : Sums := fun g args h => if g = f then G args h else S g args h
theorem SumOk.addG {S : Sums} {f : FuncId} {G : List AV → Heap → Res} (hS : SumOk P S) (hG : ∀ args h, ResOk P f args h (G args h)) : SumOk P (S.addG f G) := by
  have key : ∀ g args h r, S.addG f G g args h = r → (g = f ∧ G args h = r) ∨ S g args h = r := fun g args h r hr => by
    unfold Sums.addG at hr
    split at hr
    · exact .inl ⟨by assumption, hr⟩
    · exact .inr hr
  refine ⟨fun g args h r hr n => ?_, fun g args h a b c hr => ?_, fun g args h F hr => ?_⟩
  · rcases key g args h _ hr with ⟨rfl, h1⟩ | h1
    · have := hG args h; rw [h1] at this; exact this n
    · exact hS.pure g args h r h1 n
  · rcases key g args h _ hr with ⟨rfl, h1⟩ | h1
    · have := hG args h; rw [h1] at this; exact this
    · exact hS.fresh g args h a b c h1
  · rcases key g args h _ hr with ⟨rfl, h1⟩ | h1
    · have := hG args h; rw [h1] at this; exact this
    · exact hS.wide g args h F h1

/-- The rows that a value leads to. -/
def rowsOf (h : Heap) : Nat → AV → List Nat
  | 0, _ => []
  | k + 1, .sl _ j _ _ => j :: (match h j with | some (.cells cs) => cs.flatMap (rowsOf h k) | _ => [])
  | k + 1, .p j _ => j :: (match h j with | some (.cells cs) => cs.flatMap (rowsOf h k) | _ => [])
  | k + 1, .agg cs => cs.flatMap (rowsOf h k)
  | k + 1, .fn _ a b => a.flatMap (rowsOf h k) ++ b.flatMap (rowsOf h k)
  | _ + 1, _ => []
def pickH (h : Heap) (D : List Nat) : Heap := fun j => if j ∈ D then h j else none
def gone (D : List Nat) : List (Nat × Option Row) := D.map fun j => (j, none)
theorem app_gone : ∀ (D : List Nat) (h : Heap), app (gone D) h = fun j => if j ∈ D then none else h j
  | [], h => by funext j; simp [gone, app]
  | d :: D, h => by
    have := app_gone D (upd h d none)
    rw [show gone (d :: D) = (d, none) :: gone D from rfl, app_cons, this]
    funext j
    by_cases hj : j ∈ D
    · simp [hj]
    · by_cases hd : j = d
      · subst hd; simp [hj, upd_same]
      · simp [hj, hd, upd_ne _ _ hd]

/-- A function told by what it tells where nothing is one's own: what is one's own is shown, and given up if the answer has memory. -/
def viaD (F : List AV → Option AV) : List AV → Heap → Res := fun args h =>
  match F (args.map (frz (pickH h (args.flatMap (rowsOf h 5))) 5)) with
  | some r => if args.flatMap (rowsOf h 5) = [] then .pure r else .wide fun n => (r, gone (args.flatMap (rowsOf h 5)), n)
  | none => .no
theorem viaD_ok {f : FuncId} {F : List AV → Option AV} (hF : ∀ args r, F args = some r → PCalls P f args r) (args : List AV) (h : Heap) : ResOk P f args h (viaD F args h) := by
  unfold viaD
  split
  · rename_i r hr
    have hd : ∀ n, DCalls P f args h n r (gone (args.flatMap (rowsOf h 5))) n := fun n => by
      refine DCalls.drop (k := 5) (g := pickH h (args.flatMap (rowsOf h 5))) (h' := app (gone (args.flatMap (rowsOf h 5))) h) (fun j cs hj => ?_) (fun j r hj => ?_) (hF _ _ hr _ _) rfl
      · unfold pickH at hj; split at hj
        · exact hj
        · cases hj
      · rw [app_gone] at hj
        simp only at hj
        split at hj
        · cases hj
        · rename_i hn
          refine ⟨hj, fun cs hc => ?_⟩
          unfold pickH at hc; rw [if_neg hn] at hc; cases hc
    split
    · rename_i he
      intro n
      have := hd n
      rw [he] at this
      exact this
    · intro n; exact hd n
  · exact trivial

/-- The same, for an answer without memory: nothing is given up. -/
def viaK (F : List AV → Option AV) : List AV → Heap → Res := fun args h =>
  match F (args.map (frz h 5)) with
  | some r => if r.flat = true then .pure r else .no
  | none => .no
theorem viaK_ok {f : FuncId} {F : List AV → Option AV} (hF : ∀ args r, F args = some r → PCalls P f args r) (args : List AV) (h : Heap) : ResOk P f args h (viaK F args h) := by
  unfold viaK
  split
  · rename_i r hr
    split
    · rename_i hf
      exact fun n => DCalls.keep (k := 5) (hF _ _ hr _ _) hf
    · exact trivial
  · exact trivial

theorem freeAll_mem : ∀ {cs : List AV}, freeAll cs = true → ∀ x ∈ cs, x.free = true
  | y :: cs, hf, x, hx => by
    simp only [freeAll, Bool.and_eq_true] at hf
    rcases List.mem_cons.1 hx with rfl | hx
    · exact hf.1
    · exact freeAll_mem hf.2 x hx
theorem frz_free (g : Heap) : ∀ (k : Nat) (x : AV), x.free = true → frz g k x = x
  | 0, x, _ => by simp [frz]
  | k + 1, x, hf => by
    have all : ∀ (cs : List AV), freeAll cs = true → cs.map (frz g k) = cs := fun cs hc => by
      have : cs.map (frz g k) = cs.map id := List.map_congr_left fun x hx => frz_free g k x (freeAll_mem hc x hx)
      rw [this, List.map_id]
    cases x with
    | sl sz j off len => simp [AV.free] at hf
    | p j off => simp [AV.free] at hf
    | agg cs => simp only [frz]; rw [all cs (by simpa [AV.free] using hf)]
    | fn f a b =>
      simp only [AV.free, Bool.and_eq_true] at hf
      simp only [frz]; rw [all a hf.1, all b hf.2]
    | _ => rfl
theorem rows_free (h : Heap) : ∀ (k : Nat) (x : AV), x.free = true → rowsOf h k x = []
  | 0, x, _ => rfl
  | k + 1, x, hf => by
    have all : ∀ (cs : List AV), freeAll cs = true → cs.flatMap (rowsOf h k) = [] := fun cs hc => by
      rw [List.flatMap_eq_nil_iff]
      exact fun x hx => rows_free h k x (freeAll_mem hc x hx)
    cases x with
    | sl sz j off len => simp [AV.free] at hf
    | p j off => simp [AV.free] at hf
    | agg cs => simp only [rowsOf]; exact all cs (by simpa [AV.free] using hf)
    | fn f a b =>
      simp only [AV.free, Bool.and_eq_true] at hf
      simp only [rowsOf]; rw [all a hf.1, all b hf.2]; rfl
    | _ => rfl
theorem frzs_free (g : Heap) (k : Nat) {cs : List AV} (hc : freeAll cs = true) : cs.map (frz g k) = cs := by
  have : cs.map (frz g k) = cs.map id := List.map_congr_left fun x hx => frz_free g k x (freeAll_mem hc x hx)
  rw [this, List.map_id]
theorem rowss_free (h : Heap) (k : Nat) {cs : List AV} (hc : freeAll cs = true) : cs.flatMap (rowsOf h k) = [] := by
  rw [List.flatMap_eq_nil_iff]
  exact fun x hx => rows_free h k x (freeAll_mem hc x hx)
/-- With nothing of one's own: just what it tells. -/
theorem viaD_free {F : List AV → Option AV} {args : List AV} {r : AV} (hc : freeAll args = true) (hF : F args = some r) (h : Heap) : viaD F args h = .pure r := by
  unfold viaD
  rw [rowss_free h 5 hc, frzs_free _ 5 hc, hF]
  simp
theorem viaK_free {F : List AV → Option AV} {args : List AV} {r : AV} (hc : freeAll args = true) (hF : F args = some r) (hr : r.flat = true) (h : Heap) : viaK F args h = .pure r := by
  unfold viaK
  rw [frzs_free _ 5 hc, hF]
  simp [hr]

end Go.Av
