/- What one operation does, told of abstract values: the definitions. -/
import Derived.Test.YtepfknnffooaiaaAv2
namespace Go.Av

/-! ### constants, operands -/
def okC1 : Value → Bool
  | .bool _ | .int _ _ | .string _ | .pointer none | .slice none 0 0 | .nilFunc | .nilIface => true
  | _ => false
def ofC1 : Value → AV
  | .bool b => .b b
  | .int k n => .i k n
  | .string s => .s s
  | .pointer _ => .np
  | .slice _ _ _ => .ro true [] 0
  | .nilFunc => .nf
  | _ => .ni
def okC : Value → Bool
  | .agg cs => cs.toList.all okC1
  | v => okC1 v
def ofC : Value → AV
  | .agg cs => .agg (cs.toList.map ofC1)
  | v => ofC1 v
theorem rv_ofC1 (C : Cx) {v : Value} (h : okC1 v = true) : RV C (ofC1 v) v ∧ (ofC1 v).one = true := by
  unfold okC1 at h
  split at h <;> first | exact ⟨by unfold ofC1; constructor, rfl⟩ | (cases h; done)
theorem rv_ofC (C : Cx) {v : Value} (h : okC v = true) : RV C (ofC v) v := by
  cases v with
  | agg cs =>
    have h' : ∀ x ∈ cs.toList, okC1 x = true := List.all_eq_true.1 h
    refine .agg _ _ (by simp) (fun k x hx => ?_) (fun k x v hx hv => ?_)
    · rw [List.getElem?_map] at hx
      cases hc : cs.toList[k]? with
      | none => rw [hc] at hx; cases hx
      | some u => rw [hc] at hx; simp at hx; subst hx; exact (rv_ofC1 C (h' u (List.mem_of_getElem? hc))).2
    · rw [List.getElem?_map] at hx
      have hc : cs.toList[k]? = some v := by simpa using hv
      rw [hc] at hx; simp at hx; subst hx
      exact (rv_ofC1 C (h' v (List.mem_of_getElem? hc))).1
  | _ => exact (rv_ofC1 C (by simpa [okC] using h)).1

def aev (t : Tmps) : Operand → AV
  | .tmp k => t k
  | .const v => ofC v
  | .func f => .fn (.func f) [] []
  | .global _ => .tup []
def okX : Operand → Bool
  | .tmp _ | .func _ => true
  | .const v => okC v
  | .global _ => false

def RelT (C : Cx) (t : Tmps) (a : Act) : Prop := ∀ k, RV C (t k) (a.tmps.getD k undef)

theorem rv_undef (C : Cx) : RV C (.tup []) undef := .tup [] #[] rfl (fun k x v hx => by simp at hx)

theorem rv_ev {C : Cx} {t : Tmps} {a : Act} (ht : RelT C t a) {x : Operand} (hx : okX x = true) : RV C (aev t x) (a.eval x) := by
  cases x with
  | tmp k => exact ht k
  | const v => exact rv_ofC C hx
  | func f => exact .fn (.func f) [] [] #[] #[] rfl rfl (fun k x v hx => by simp at hx) (fun k x v hx => by simp at hx)
  | global g => cases hx

def put (t : Tmps) (d : Option Tmp) (v : AV) : Tmps := match d with | some d => fun k => if k = d then v else t k | none => t
theorem put_some (t : Tmps) (d : Tmp) (v : AV) : put t (some d) v = fun k => if k = d then v else t k := rfl
theorem put_none (t : Tmps) (v : AV) : put t none v = t := rfl
theorem put_at (t : Tmps) (d k : Tmp) (v : AV) : put t (some d) v k = if k = d then v else t k := rfl

theorem RelT.put {C : Cx} {t : Tmps} {a : Act} (ht : RelT C t a) {d : Option Tmp} (hd : ∀ k, d = some k → k < a.tmps.size) {v : AV} {x : Value} (hv : RV C v x) : RelT C (put t d v) (a.put d x) := by
  cases d with
  | none => exact ht
  | some d =>
    intro k
    have hlt := hd d rfl
    by_cases hk : k = d
    · subst hk
      simp only [Av.put, if_true, Act.put]
      simpa [hlt] using hv
    · simp only [Av.put, if_neg hk, Act.put]
      have := ht k
      simpa [Array.getD_eq_getD_getElem?, Array.getElem?_setIfInBounds_ne (Ne.symm hk)] using this
theorem RelT.mono {C D : Cx} (hle : C.le D) {t : Tmps} {a : Act} (ht : RelT C t a) : RelT D t a := fun k => (ht k).mono hle

/-! ### what is known of types -/
def szT (P : Program) (t : TypeId) : Option Nat := (P.info? t).map (·.size)
def byT (P : Program) (t : TypeId) : Option Nat := (P.info? t).map (·.bytes)
def agT (P : Program) (t : TypeId) : Option Bool := match P.underlying t with | some (.struct _) | some (.array _ _) => some true | some _ => some false | none => none
def zeT (P : Program) (t : TypeId) : Option (List AV) := match (P.info? t).bind (·.zero) with | some v => if okC v then some (ofC v).cells else none | none => none
def zvT (P : Program) (t : TypeId) : Option AV := match (P.info? t).bind (·.zero) with | some v => if okC v then some (ofC v) else none | none => none
/-- A slice's element: its size and its bytes. -/
def slT (P : Program) (t : TypeId) : Option (TypeId × Nat × Nat) := match P.underlying t with | some (.slice e) => (match szT P e, byT P e with | some z, some b => some (e, z, b) | _, _ => none) | _ => none
/-- An array: how many, and the element's size. -/
def arT (P : Program) (t : TypeId) : Option (Nat × Nat × Bool) := match P.underlying t with | some (.array n e) => (match szT P e, agT P e with | some z, some g => some (n, z, g) | _, _ => none) | _ => none
/-- A struct's field: where, how many cells, many in one or one. -/
def flT (P : Program) (t : TypeId) (i : Nat) : Option (Nat × Nat × Bool) := match P.underlying t with
  | some (.struct fs) => match fs[i]? with
    | some f => match szT P f.type, agT P f.type with | some z, some g => some (f.offset, z, g) | _, _ => none
    | none => none
  | _ => none
inductive Kind where
  | bool | int (k : IntKind) | string | iface | other
  deriving DecidableEq
def kiT (P : Program) (t : TypeId) : Option Kind := match P.underlying t with
  | some .bool => some .bool
  | some (.int k) => some (.int k)
  | some .string => some .string
  | some (.interface _) => some .iface
  | some _ => some .other
  | none => none

/-- Where the parts of a struct or an array are, and how many cells each has. -/
def buT (P : Program) (t : TypeId) : Option (List (Nat × Nat)) := match P.underlying t with
  | some (.struct fs) => fs.toList.mapM fun f => (szT P f.type).map fun z => (f.offset, z)
  | some (.array m e) => (szT P e).map fun z => (List.range m).map fun i => (i * z, z)
  | _ => none

/-! ### lists of cells -/
def splice (cs : List AV) (off : Nat) : List AV → List AV
  | [y] => cs.set off y
  | ys => cs.take off ++ ys ++ cs.drop (off + ys.length)

/-- Parts put into cells. -/
def fillA (place : Nat → Option (Nat × Nat)) (cs : List AV) : List (Nat × AV) → Option (List AV)
  | [] => some cs
  | (i, v) :: rest => match place i with
    | none => none
    | some (off, size) => if v.cells.length = size ∧ off + size ≤ cs.length then fillA place (splice cs off v.cells) rest else none

def AV.boxable : AV → Bool
  | .tup _ => false
  | _ => true

def rep (n : Nat) (zs : List AV) : List AV := (List.replicate n zs).flatten

/-! ### arithmetic -/
def bits (op : BinOp) (k : IntKind) (x y : Int) : Int :=
  let a := BitVec.ofInt k.bits x
  let b := BitVec.ofInt k.bits y
  match op with
  | .and => k.wrap ((a &&& b).toNat : Int)
  | .or => k.wrap ((a ||| b).toNat : Int)
  | .xor => k.wrap ((a ^^^ b).toNat : Int)
  | _ => k.wrap ((a &&& ~~~b).toNat : Int)

def isK : Operand → Bool
  | .const _ => true
  | _ => false

/-- A pointer's type. -/
def ptT (P : Program) (t : TypeId) : Bool := match P.underlying t with | some (.pointer _) => true | _ => false
/-- Held against nil. -/
def nilOp (op : BinOp) (u : Bool) : Option AV := match op with
  | .eql => some (.b u)
  | .neq => some (.b (!u))
  | _ => none

/-- Two operands of one kind. -/
def abin (P : Program) (op : BinOp) (T : TypeId) (x y : Operand) (a b : AV) : Option AV :=
  match a, b with
  | .i k m, .i k' m' =>
    match op with
    | .shl => if 0 ≤ m' then some (.i k (k.wrap (m * 2 ^ (min m'.toNat k.bits)))) else none
    | .shr => if 0 ≤ m' then some (.i k (m.fdiv (2 ^ (min m'.toNat k.bits)))) else none
    | op => if k = k' then (match op with
      | .add => some (.i k (k.wrap (m + m')))
      | .sub => some (.i k (k.wrap (m - m')))
      | .mul => some (.i k (k.wrap (m * m')))
      | .quo => if m' = 0 then none else some (.i k (k.wrap (m.tdiv m')))
      | .rem => if m' = 0 then none else some (.i k (m.tmod m'))
      | .and => some (.i k (bits .and k m m'))
      | .or => some (.i k (bits .or k m m'))
      | .xor => some (.i k (bits .xor k m m'))
      | .andNot => some (.i k (bits .andNot k m m'))
      | .eql => some (.b (m == m'))
      | .neq => some (.b (m != m'))
      | .lss => some (.b (decide (m < m')))
      | .leq => some (.b (decide (m ≤ m')))
      | .gtr => some (.b (decide (m > m')))
      | .geq => some (.b (decide (m ≥ m')))
      | _ => none) else none
  | .s u, .s v =>
    match op with
    | .add => if u.size + v.size ≤ 9223372036854775807 then some (.s (u ++ v)) else none
    | .eql => some (.b (u.toList == v.toList))
    | .neq => some (.b (!(u.toList == v.toList)))
    | _ => none
  | .b u, .b v => if kiT P T = some .bool then (match op with | .eql => some (.b (u == v)) | .neq => some (.b (!(u == v))) | _ => none) else none
  | .ni, .ni => if kiT P T = some .iface ∧ (isK x || isK y) = true then (match op with | .eql => some (.b true) | .neq => some (.b false) | _ => none) else none
  | .ni, .ifc _ _ => if kiT P T = some .iface then (match op with | .eql => some (.b false) | .neq => some (.b true) | _ => none) else none
  | .ifc _ _, .ni => if kiT P T = some .iface then (match op with | .eql => some (.b false) | .neq => some (.b true) | _ => none) else none
  | .p _ _, .np => if ptT P T = true then nilOp op false else none
  | .q _ _, .np => if ptT P T = true then nilOp op false else none
  | .np, .np => if ptT P T = true then nilOp op true else none
  | .sl _ _ _ _, .ro true [] 0 => if (slT P T).isSome = true then nilOp op false else none
  | .ro u _ _, .ro true [] 0 => if (slT P T).isSome = true then nilOp op u else none
  | _, _ => none

def aun (op : UnOp) (a : AV) : Option AV :=
  match op, a with
  | .neg, .i k m => some (.i k (k.wrap (0 - m)))
  | .xor, .i k m => some (.i k (bits .xor k (if k.signed then -1 else k.max) m))
  | .not, .b u => some (.b (!u))
  | _, _ => none

abbrev Eff := Option (AV × List (Nat × Option Row) × Nat)

/-- A slice of something: 'x[lo:hi]'. -/
def asliceB (len cap : Nat) (lo hi : Option AV) : Option (Nat × Nat) :=
  match (match hi with | some (.i _ m) => if 0 ≤ m ∧ m ≤ cap then some m.toNat else none | some _ => none | none => some len) with
  | none => none
  | some b => match (match lo with | some (.i _ m) => if 0 ≤ m ∧ m ≤ b then some m.toNat else none | some _ => none | none => some 0) with
    | none => none
    | some a => some (a, b)

def aslice (P : Program) (T : TypeId) (h : Heap) (x : AV) (lo hi : Option AV) : Option AV :=
  match kiT P T, x with
  | some .string, .s u => match asliceB u.size u.size lo hi with | some (a, b) => some (.s (u.extract a b)) | none => none
  | some .other, .sl sz j off len => match slT P T, asliceB len len lo hi with
    | some (_, z, _), some (a, b) => if z = sz then (if a < b then some (.sl sz j (off + a * z) (b - a)) else some (.ro false [] 0)) else none
    | _, _ => none
  | some .other, .ro zz cs len => match slT P T, asliceB len len lo hi with
    | some (_, z, _), some (a, b) => some (.ro zz ((cs.drop (a * z)).take ((b - a) * z)) (b - a))
    | _, _ => none
  | some .other, x => match arT P T, place h x with
    | some (n, z, _), some (cs, off) => match asliceB n n lo hi with
      | some (a, b) => if off + n * z ≤ cs.length ∧ n ≤ 9223372036854775807 then (match x with
        | .p j _ => if a < b then some (.sl z j (off + a * z) (b - a)) else some (.ro false [] 0)
        | _ => some (.ro false ((cs.drop (off + a * z)).take ((b - a) * z)) (b - a))) else none
      | none => none
    | _, _ => none
  | _, _ => none

def aindexAddr (P : Program) (T : TypeId) (x i : AV) : Option AV :=
  match i with
  | .i _ m => match x with
    | .sl _ j off len => match slT P T with | some (_, z, _) => if 0 ≤ m ∧ m < len then some (.p j (off + m.toNat * z)) else none | none => none
    | .ro _ cs len => match slT P T with | some (_, z, _) => if 0 ≤ m ∧ m < len then some (.q cs (m.toNat * z)) else none | none => none
    | .p j off => match arT P T with | some (n, z, _) => if 0 ≤ m ∧ m < n then some (.p j (off + m.toNat * z)) else none | none => none
    | .q cs off => match arT P T with | some (n, z, _) => if 0 ≤ m ∧ m < n then some (.q cs (off + m.toNat * z)) else none | none => none
    | _ => none
  | _ => none

def part (g : Bool) (cs : List AV) (off z : Nat) : Option AV :=
  if g then (if off + z ≤ cs.length then some (.agg ((cs.drop off).take z)) else none) else cs[off]?

def aload (P : Program) (T : TypeId) (h : Heap) (x : AV) : Option AV :=
  match agT P T, szT P T, place h x with
  | some g, some z, some (cs, off) => part g cs off z
  | _, _, _ => none

def byteAt (u : ByteArray) (m : Int) : Int := ((u.data.toList.getD m.toNat 0).toNat : Int)

def aindex (P : Program) (T : TypeId) (x i : AV) : Option AV :=
  match x, i with
  | .agg cs, .i _ m => match arT P T with | some (n, z, g) => if 0 ≤ m ∧ m < n then part g cs (m.toNat * z) z else none | none => none
  | .s u, .i _ m => if kiT P T = some .string then (if 0 ≤ m ∧ m < u.size then some (.i .u8 (byteAt u m)) else none) else none
  | _, _ => none

def bytesA (u : ByteArray) : List AV := u.data.toList.map fun b => .i .u8 (b.toNat : Int)

def unbytes : List AV → Option (List UInt8)
  | [] => some []
  | .i .u8 m :: r => (unbytes r).map (UInt8.ofNat m.toNat :: ·)
  | _ => none

def aconv (P : Program) (S D : TypeId) (h : Heap) (n : Nat) (x : AV) : Eff :=
  match kiT P S, kiT P D, x with
  | some _, some (.int k), .i _ m => some (.i k (k.wrap m), [], n)
  | some .string, some .string, .s u => some (.s u, [], n)
  | some (.int _), some .string, .i _ m => some (.s (Utf8.encode m), [], n)
  | some .string, some .other, .s u => match P.underlying D with
    | some (.slice e) => if kiT P e = some (.int .u8) ∧ u.size ≤ 9223372036854775807 then some (.sl 1 n 0 u.size, [(n, some (.cells (bytesA u)))], n + 1) else none
    | _ => none
  | some .other, some .string, x => match P.underlying S with
    | some (.slice e) => if kiT P e = some (.int .u8) then (match view h x with
      | some (cs, off, len) => match unbytes ((cs.drop off).take len) with | some l => if off + len ≤ cs.length then some (.s ⟨l.toArray⟩, [], n) else none | none => none
      | none => none) else none
    | _ => none
  | _, _, _ => none

/-- What is appended: its cells, and how many elements. -/
def aapp (P : Program) (U : TypeId) (h : Heap) (z : Nat) (x : AV) : Option (List AV × Nat) :=
  match x with
  | .s u => if kiT P U = some .string ∧ z = 1 then some (bytesA u, u.size) else none
  | x => match slT P U, view h x with
    | some _, some (cs, off, m) => if off + m * z ≤ cs.length then some ((cs.drop off).take (m * z), m) else none
    | _, _ => none

def aappend (P : Program) (T U : TypeId) (h : Heap) (n : Nat) (s x : AV) : Eff :=
  match slT P T with
  | some (e, z, by_) => if 0 < z ∧ (zeT P e).map (·.length) = some z then (match aapp P U h z x with
    | some (ys, m) => (match s with
      | .ro true [] 0 => if m = 0 then some (.ro true [] 0, [], n) else if m * by_ ≤ 140737488355328 ∧ m ≤ 9223372036854775807 then some (.sl z n 0 m, [(n, some (.cells ys))], n + 1) else none
      | .sl sz j off len => match h j with
        | some (.cells cs) => if sz = z ∧ cs.length = off + len * z ∧ (len + m) * by_ ≤ 140737488355328 ∧ len + m ≤ 9223372036854775807 ∧ off = 0 then some (.sl z n 0 (len + m), [(j, none), (n, some (.cells (cs ++ ys)))], n + 1) else none
        | _ => none
      | _ => none)
    | none => none) else none
  | none => none

def acopy (P : Program) (T U : TypeId) (h : Heap) (n : Nat) (d x : AV) : Eff :=
  match slT P T, d with
  | some (_, z, _), .sl sz j off len => (match aapp P U h z x, h j with
    | some (ys, m), some (.cells cs) => if sz = z ∧ off + len * z ≤ cs.length then
        some (.i .i64 (min m len : Nat), [(j, some (.cells (cs.take off ++ ys.take (min m len * z) ++ cs.drop (off + min m len * z))))], n) else none
    | _, _ => none)
  | _, _ => none

def alen (P : Program) (T : TypeId) (x : AV) : Option Int :=
  match x with
  | .s u => if kiT P T = some .string then some u.size else none
  | .sl _ _ _ len => (slT P T).map fun _ => (len : Int)
  | .ro _ _ len => (slT P T).map fun _ => (len : Int)
  | .agg _ => (arT P T).map fun a => (a.1 : Int)
  | _ => none

def amax : AV → AV → Option AV
  | .i k x, .i _ y => some (.i k (if y > x then y else x))
  | _, _ => none
def amin : AV → AV → Option AV
  | .i k x, .i _ y => some (.i k (if y < x then y else x))
  | _, _ => none

def abuiltin (P : Program) (b : Builtin) (args : List Operand) (Ts : List TypeId) (t : Tmps) (h : Heap) (n : Nat) : Eff :=
  match b, args, Ts with
  | .len, [x], [T] => ((alen P T (aev t x)).map (AV.i .i64)).map fun v => (v, [], n)
  | .append, [s, x], [T, U] => aappend P T U h n (aev t s) (aev t x)
  | .copy, [d, x], [T, U] => acopy P T U h n (aev t d) (aev t x)
  | .max, [x, y], _ => (amax (aev t x) (aev t y)).map fun v => (v, [], n)
  | .min, [x, y], _ => (amin (aev t x) (aev t y)).map fun v => (v, [], n)
  | _, _, _ => none

/-- What an operation that is no call of a function does. -/
def aeff (P : Program) (o : Op) (t : Tmps) (h : Heap) (n : Nat) : Eff :=
  let val (v : Option AV) : Eff := v.map fun v => (v, [], n)
  match o with
  | .move x | .assign x => some (aev t x, [], n)
  | .pick c a b => match aev t c with | .b u => some (if u then aev t a else aev t b, [], n) | _ => none
  | .alloc T => match zeT P T with | some cs => some (.p n 0, [(n, some (.cells cs))], n + 1) | none => none
  | .box _ x => if (aev t x).boxable then some (.p n 0, [(n, some (.cells (aev t x).cells))], n + 1) else none
  | .build T parts => match zeT P T, buT P T with
    | some zs, some pl => if (parts.toList.all fun (p : Nat × Operand) => (aev t p.2).boxable) = true then val ((fillA (fun i => pl[i]?) zs (parts.toList.map fun (p : Nat × Operand) => (p.1, aev t p.2))).map AV.agg) else none
    | _, _ => none
  | .buildSlice T len parts => match slT P T with
    | some (e, z, _) => match zeT P e with
      | some zs => if zs.length = z ∧ len * z ≤ 16777216 ∧ len ≤ 9223372036854775807 ∧ (parts.toList.all fun (p : Nat × Operand) => (aev t p.2).boxable) = true then (match fillA (fun i => some (i * z, z)) (rep len zs) (parts.toList.map fun (p : Nat × Operand) => (p.1, aev t p.2)) with
        | some cs => some (.sl z n 0 len, [(n, some (.cells cs))], n + 1)
        | none => none) else none
      | none => none
    | none => none
  | .load T x => val (aload P T h (aev t x))
  | .store T a x => match szT P T, aev t a with
    | some z, .p j off => match h j with
      | some (.cells cs) => if (aev t x).boxable = true ∧ (aev t x).cells.length = z ∧ off + z ≤ cs.length then some (.tup [], [(j, some (.cells (splice cs off (aev t x).cells)))], n) else none
      | _ => none
    | _, _ => none
  | .nilCheck x => match aev t x with
    | .p j off => some (.p j off, [], n)
    | .q cs off => some (.q cs off, [], n)
    | .fn (.func f) a b => some (.fn (.func f) a b, [], n)
    | _ => none
  | .binOp op T x y _ => val (abin P op T x y (aev t x) (aev t y))
  | .unOp op _ x => val (aun op (aev t x))
  | .convert S D x => aconv P S D h n (aev t x)
  | .sliceToArrayPointer T x => val (match arT P T, aev t x with
    | some (m, _, _), .sl _ j off len => if m ≤ len then some (.p j off) else none
    | some (m, _, _), .ro false cs len => if m ≤ len then some (.q cs 0) else none
    | _, _ => none)
  | .makeInterface T x => match kiT P T with | some .iface => none | some _ => some (.ifc T (aev t x), [], n) | none => none
  | .makeFunc f first cap => some (.fn f (first.toList.map (aev t)) (cap.toList.map (aev t)), [], n)
  | .makeSlice T l c => match slT P T, aev t l, aev t c with
    | some (e, z, by_), .i _ l, .i _ c => match zeT P e with
      | some zs => if zs.length = z ∧ 0 ≤ l ∧ l ≤ c ∧ c * by_ ≤ 140737488355328 ∧ c ≤ 9223372036854775807 then some (.sl z n 0 l.toNat, [(n, some (.cells (rep c.toNat zs)))], n + 1) else none
      | none => none
    | _, _, _ => none
  | .slice T x lo hi none => val (aslice P T h (aev t x) (lo.map (aev t)) (hi.map (aev t)))
  | .fieldAddr T x f => match flT P T f with
    | some (o, z, _) => if z = 0 then none else match aev t x with
      | .p j off => some (.p j (off + o), [], n)
      | .q cs off => some (.q cs (off + o), [], n)
      | _ => none
    | none => none
  | .field T x f => match flT P T f, aev t x with
    | some (o, z, g), .agg cs => val (part g cs o z)
    | _, _ => none
  | .indexAddr T x i => val (aindexAddr P T (aev t x) (aev t i))
  | .index T x i => val (aindex P T (aev t x) (aev t i))
  | .range T x => match kiT P T, aev t x with
    | some .string, .s u => some (.p n 0, [(n, some (.iter u 0))], n + 1)
    | _, _ => none
  | .next it true => match aev t it with
    | .p j 0 => match h j with
      | some (.iter u pos) => if pos < u.size then some (.tup [.b true, .i .i64 pos, .i .i32 ((Utf8.decode u pos).1 : Int)], [(j, some (.iter u (pos + (Utf8.decode u pos).2)))], n) else some (.tup [.b false], [], n)
      | _ => none
    | _ => none
  | .typeAssert x _ D ok => match kiT P D with
    | some .iface => none
    | some _ => (match aev t x with
      | .ifc T v => if T = D then some (if ok then .tup [v, .b true] else v, [], n) else if ok then (match zvT P D with | some z => some (.tup [z, .b false], [], n) | none => none) else none
      | .ni => if ok then (match zvT P D with | some z => some (.tup [z, .b false], [], n) | none => none) else none
      | _ => none)
    | none => none
  | .extract x i => match aev t x with | .tup vs => val vs[i]? | _ => none
  | .call c => match c.callee with
    | .builtin b => abuiltin P b c.args.toList c.argTypes.toList t h n
    | _ => none
  | _ => none

end Go.Av
