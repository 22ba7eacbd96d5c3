/- Steps through code: guards apart, so that a text need say each tactic once. -/
import Derived.Test.YtepfknnffooaiaaAv24
namespace Go.Av

variable {P : Program} {N : Nat} {S : Sums} {n n' : Nat} {h h' h0 : Heap} {t : Tmps} {v : AV} {ops : Array Oper} {B W : List Nat} {o : Oper} {l : List Oper} {K : Tmps → Heap → Nat → Prop} {d : Option Tmp} {e : Tmp} {j : Nat} {want u : Bool} {k : Nat} {r : List (Nat × List (Nat × Option Row))} {op : Op} {ty : TypeId} {ps : String} {af : Array Edge}

/-- The operation with this number has this slot. -/
def isD (ops : Array Oper) (j : Nat) (e : Tmp) : Prop := (ops[j]?).bind (·.dst) = some e
theorem isD.mk (h : (ops[j]?).bind (·.dst) = some e) : isD ops j e := h

/-- A guard's value, looked at. What was passed over tells nothing: what hangs on it is passed over. -/
def brE (t : Tmps) (_ : Tmp) (x : AV) (want : Bool) (X Y : Tmps → Prop) : Prop := match x with
  | .b u => br u want (X t) (Y t)
  | .tup _ => Y t
  | _ => False
variable {X Y : Tmps → Prop} {x : AV} {xs : List AV}
theorem b_tt (hx : X t) : brE t e (.b true) true X Y := by simp only [brE, br_tt]; exact hx
theorem b_ff (hx : X t) : brE t e (.b false) false X Y := by simp only [brE, br_ff]; exact hx
theorem b_tf (hy : Y t) : brE t e (.b true) false X Y := by simp only [brE, br_tf]; exact hy
theorem b_ft (hy : Y t) : brE t e (.b false) true X Y := by simp only [brE, br_ft]; exact hy
theorem b_no (hy : Y t) : brE t e (.tup xs) want X Y := hy
theorem br_s (ht : t e = .b u) (h1 : u = true → brE (put t (some e) (.b true)) e (.b true) want X Y) (h2 : u = false → brE (put t (some e) (.b false)) e (.b false) want X Y) : brE t e (.b u) want X Y := by
  cases u
  · have := h2 rfl; rwa [put_self ht] at this
  · have := h1 rfl; rwa [put_self ht] at this

theorem vr4 (hj : isD ops j e) (ht : t e = x) (hk : brE t e x want (fun t => vcR P S ops (⟨d, op, ty, ps, af, none⟩ :: l) t h n K) (fun t => vcR P S ops l (put t d (.tup [])) h n K)) : vcR P S ops (⟨d, op, ty, ps, af, some (j, want)⟩ :: l) t h n K := by
  have hj : (ops[j]?).bind (·.dst) = some e := hj
  simp only [vcR, vcG, hj, ht]
  cases x with
  | b u =>
    simp only [brE, vcR, vcG] at hk
    refine ⟨fun hu => ?_, fun hu => ?_⟩
    · have := hk.1 hu
      rw [put_self (by rw [ht, hu])]
      exact this
    · have := hk.2 hu
      rw [put_self (by rw [ht, hu])]
      exact this
  | tup xs => exact hk
  | _ => exact hk.elim
theorem vd4 (hj : isD ops j e) (ht : t e = x) (hk : brE t e x want (fun t => vcD P S ops B W h0 (⟨d, op, ty, ps, af, none⟩ :: l) k t r n K) (fun t => vcD P S ops B W h0 l (k + 1) (put t d (.tup [])) r n K)) : vcD P S ops B W h0 (⟨d, op, ty, ps, af, some (j, want)⟩ :: l) k t r n K := by
  have hj : (ops[j]?).bind (·.dst) = some e := hj
  simp only [vcD, vcG, hj, ht]
  cases x with
  | b u =>
    simp only [brE, vcD, vcG] at hk
    refine ⟨fun hu => ?_, fun hu => ?_⟩
    · have := hk.1 hu
      rw [put_self (by rw [ht, hu])]
      exact this
    · have := hk.2 hu
      rw [put_self (by rw [ht, hu])]
      exact this
  | tup xs => exact hk
  | _ => exact hk.elim

/-- For an equation, and nothing else. -/
theorem eqG {α : Type} {a b : α} (h : a = b) : a = b := h

end Go.Av
