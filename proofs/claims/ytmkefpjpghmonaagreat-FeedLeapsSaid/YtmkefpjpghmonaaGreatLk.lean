import Derived.Test.YtmkefpjpghmonaaGreatLj
namespace Go.Proofs.YtmkefpjpghmonaaGreat
open Go.Av
set_option maxRecDepth 100000
set_option maxHeartbeats 1000000
set_option synthInstance.maxHeartbeats 400000
set_option synthInstance.maxSize 4000
set_option linter.unusedSimpArgs false
set_option linter.unusedVariables false

/-! ### SHA-256, as the code reckons -/
/-- Not too long for what the machine hashes. -/
class Lx (b : List UInt8) : Prop where
  h : b.length ≤ 1000000
structure S8 where
  a : Int
  b : Int
  c : Int
  d : Int
  e : Int
  f : Int
  g : Int
  h : Int
def s8C (s : S8) : List AV := [.i .u32 s.a, .i .u32 s.b, .i .u32 s.c, .i .u32 s.d, .i .u32 s.e, .i .u32 s.f, .i .u32 s.g, .i .u32 s.h]
abbrev w32 (x : Int) : Int := IntKind.wrap .u32 x
abbrev xr (x y : Int) : Int := Av.bits .xor .u32 x y
abbrev an (x y : Int) : Int := Av.bits .and .u32 x y
abbrev nt (x : Int) : Int := Av.bits .xor .u32 4294967295 x
def wNext (l : List Int) (i : Nat) : Int :=
  w32 (w32 (w32 (l.getD (i - 16) 0 + xr (xr (rotI (l.getD (i - 15) 0) 33554432 128) (rotI (l.getD (i - 15) 0) 16384 262144)) (Int.fdiv (l.getD (i - 15) 0) 8)) + l.getD (i - 7) 0) + xr (xr (rotI (l.getD (i - 2) 0) 32768 131072) (rotI (l.getD (i - 2) 0) 8192 524288)) (Int.fdiv (l.getD (i - 2) 0) 1024))
def wAt (blk : List UInt8) (l : List Int) (i : Nat) : Int := if i < 16 then (beN ((blk.drop (4 * i)).take 4) : Int) else wNext l i
def wl (blk : List UInt8) : Nat → List Int
  | 0 => []
  | i + 1 => wl blk i ++ [wAt blk (wl blk i) i]
theorem wl_len (blk : List UInt8) : ∀ i, (wl blk i).length = i
  | 0 => rfl
  | i + 1 => by rw [wl, List.length_append, wl_len blk i]; rfl
def roundI (s : S8) (k w : Int) : S8 :=
  let one := w32 (w32 (w32 (w32 (s.h + xr (xr (rotI s.e 67108864 64) (rotI s.e 2097152 2048)) (rotI s.e 128 33554432)) + xr (an s.e s.f) (an (nt s.e) s.g)) + k) + w)
  let two := w32 (xr (xr (rotI s.a 1073741824 4) (rotI s.a 524288 8192)) (rotI s.a 1024 4194304) + xr (xr (an s.a s.b) (an s.a s.c)) (an s.b s.c))
  ⟨w32 (one + two), s.a, s.b, s.c, w32 (s.d + one), s.e, s.f, s.g⟩
def rd (s : S8) (l : List Int) : Nat → S8
  | 0 => s
  | i + 1 => roundI (rd s l i) (kAt i) (l.getD i 0)
def add8 (x y : S8) : S8 := ⟨w32 (x.a + y.a), w32 (x.b + y.b), w32 (x.c + y.c), w32 (x.d + y.d), w32 (x.e + y.e), w32 (x.f + y.f), w32 (x.g + y.g), w32 (x.h + y.h)⟩
def compress (s : S8) (blk : List UInt8) : S8 := add8 s (rd s (wl blk 64) 64)
def absorb : Nat → S8 → List UInt8 → S8
  | 0, s, _ => s
  | m + 1, s, q => absorb m (compress s q) (q.drop 64)
def iv : S8 := ⟨1779033703, 3144134277, 1013904242, 2773480762, 1359893119, 2600822924, 528734635, 1541459225⟩
def s8At (s : S8) : Nat → Int
  | 0 => s.a | 1 => s.b | 2 => s.c | 3 => s.d | 4 => s.e | 5 => s.f | 6 => s.g | _ => s.h
theorem s8_get (s : S8) {q : Nat} (h : q < 8) : (s8C s)[q]? = some (.i .u32 (s8At s q)) := by
  rcases (show q = 0 ∨ q = 1 ∨ q = 2 ∨ q = 3 ∨ q = 4 ∨ q = 5 ∨ q = 6 ∨ q = 7 by omega) with rfl | rfl | rfl | rfl | rfl | rfl | rfl | rfl <;> rfl
def dB (s : S8) (i : Nat) : UInt8 := UInt8.ofNat (IntKind.wrap .u8 (Int.fdiv (s8At s (i / 4)) (2 ^ (24 - 8 * (i % 4))))).toNat
def digestTo (s : S8) (i : Nat) : List UInt8 := (List.range 32).map fun j => if j < i then dB s j else 0
def digest (s : S8) : List UInt8 := (List.range 32).map (dB s)
def sha (b : List UInt8) : List UInt8 := digest (absorb ((padL b).length / 64) iv (padL b))
theorem sha_len (b : List UInt8) : (sha b).length = 32 := by simp [sha, digest]
instance (b : List UInt8) : Ln (sha b) 32 := ⟨sha_len b⟩
theorem dB_wrap (s : S8) (i : Nat) : IntKind.wrap .u8 (Int.fdiv (s8At s (i / 4)) (2 ^ (24 - 8 * (i % 4)))) = ((dB s i).toNat : Int) := by
  unfold dB
  rw [UInt8.toNat_ofNat', IntKind.wrap_u8]
  omega
theorem digestTo_set (s : S8) (i : Nat) (hi : i < 32) : (cellsB (digestTo s i)).set i (.i .u8 ((dB s i).toNat : Int)) = cellsB (digestTo s (i + 1)) := by
  apply List.ext_getElem
  · simp [cellsB, digestTo]
  · intro j h1 h2
    rw [List.getElem_set]
    simp only [cellsB, digestTo, List.getElem_map, List.getElem_range]
    split
    · subst_vars; rw [if_pos (by omega)]
    · rename_i hne
      by_cases hj : j < i
      · rw [if_pos hj, if_pos (by omega)]
      · rw [if_neg hj, if_neg (by omega)]
theorem digestTo_32 (s : S8) : digestTo s 32 = digest s := by
  apply List.ext_getElem
  · simp [digestTo, digest]
  · intro j h1 h2
    have : j < 32 := by simpa [digest] using h2
    simp only [digestTo, digest, List.getElem_map, List.getElem_range]
    rw [if_pos this]
theorem digestTo_0 (s : S8) : cellsB (digestTo s 0) = [.i .u8 0, .i .u8 0, .i .u8 0, .i .u8 0, .i .u8 0, .i .u8 0, .i .u8 0, .i .u8 0, .i .u8 0, .i .u8 0, .i .u8 0, .i .u8 0, .i .u8 0, .i .u8 0, .i .u8 0, .i .u8 0, .i .u8 0, .i .u8 0, .i .u8 0, .i .u8 0, .i .u8 0, .i .u8 0, .i .u8 0, .i .u8 0, .i .u8 0, .i .u8 0, .i .u8 0, .i .u8 0, .i .u8 0, .i .u8 0, .i .u8 0, .i .u8 0] := by
  unfold digestTo cellsB
  simp only [Nat.not_lt_zero, if_false]
  rfl
theorem digest_len (s : S8) : (digest s).length = 32 := by simp [digest]
attribute [push_cast] digestTo_0 digest_len
/-- The words so far, and noughts. -/
def wC (l : List Int) : List AV := l.map (.i .u32) ++ List.replicate (64 - l.length) (.i .u32 0)
theorem wC_len {l : List Int} (h : l.length ≤ 64) : (wC l).length = 64 := by simp [wC]; omega
theorem wC_set {l : List Int} (h : l.length < 64) (x : Int) : (wC l).set l.length (.i .u32 x) = wC (l ++ [x]) := by
  unfold wC
  rw [show 64 - l.length = (64 - (l ++ [x]).length) + 1 by simp; omega, List.replicate_succ]
  simp
theorem wC_get {l : List Int} {i : Nat} (h : i < l.length) : (wC l)[i]? = some (.i .u32 (l.getD i 0)) := by
  unfold wC
  rw [List.getElem?_append_left (by simpa using h)]
  simp [h]
theorem wC_0 : wC [] = [.i .u32 0, .i .u32 0, .i .u32 0, .i .u32 0, .i .u32 0, .i .u32 0, .i .u32 0, .i .u32 0, .i .u32 0, .i .u32 0, .i .u32 0, .i .u32 0, .i .u32 0, .i .u32 0, .i .u32 0, .i .u32 0, .i .u32 0, .i .u32 0, .i .u32 0, .i .u32 0, .i .u32 0, .i .u32 0, .i .u32 0, .i .u32 0, .i .u32 0, .i .u32 0, .i .u32 0, .i .u32 0, .i .u32 0, .i .u32 0, .i .u32 0, .i .u32 0, .i .u32 0, .i .u32 0, .i .u32 0, .i .u32 0, .i .u32 0, .i .u32 0, .i .u32 0, .i .u32 0, .i .u32 0, .i .u32 0, .i .u32 0, .i .u32 0, .i .u32 0, .i .u32 0, .i .u32 0, .i .u32 0, .i .u32 0, .i .u32 0, .i .u32 0, .i .u32 0, .i .u32 0, .i .u32 0, .i .u32 0, .i .u32 0, .i .u32 0, .i .u32 0, .i .u32 0, .i .u32 0, .i .u32 0, .i .u32 0, .i .u32 0, .i .u32 0] := rfl
theorem s8C_eq (s : S8) : s8C s = [.i .u32 s.a, .i .u32 s.b, .i .u32 s.c, .i .u32 s.d, .i .u32 s.e, .i .u32 s.f, .i .u32 s.g, .i .u32 s.h] := rfl
theorem len_s8 (s : S8) : (s8C s).length = 8 := rfl
def b198_12 : List Nat := [0, 1, 3, 7, 0, 16, 48, 112, 15, 511]
def w198_12 : List Nat := []
def b198_15 : List Nat := [0, 0, 2, 6, 14, 0, 62, 0, 128, 384, 896, 2046, 0, 8190, 16383, 32767]
def w198_15 : List Nat := [15]
def b198_21 : List Nat := [0, 1, 0, 4, 3, 31]
def w198_21 : List Nat := []
def b198_23 : List Nat := [0, 1, 0, 7, 0, 0, 32, 112, 0, 256, 0, 1024, 3840, 8176, 16383, 0, 0, 98304, 229376, 524287, 0, 1048576, 3145728, 8388607, 16777215]
def w198_23 : List Nat := []
def b198_31 : List Nat := [0, 1, 3, 0, 8, 24, 63, 127, 255]
def w198_31 : List Nat := [8]
set_option maxHeartbeats 8000000 in
theorem l198 (b : List UInt8) (hb : b.length ≤ 1000000) : PCalls Tryz.prog 198 [.ro false (cellsB b) b.length] (.agg (cellsB (sha b))) := by
  have P0 := l250 b hb
  have h64 := padL_64 b
  have hpl : (padL b).length ≤ 1000100 := by rw [padL_len]; unfold padZ; omega
  obtain ⟨q, eq⟩ : ∃ q, q = padL b := ⟨_, rfl⟩
  rw [← eq] at P0 h64 hpl
  obtain ⟨F, eF⟩ : ∃ F, F = absorb (q.length / 64) iv q := ⟨_, rfl⟩
  rw [show sha b = digest F by rw [eF, eq]; rfl]
  have HF : Hid _ := ⟨eF⟩
  clear eF eq
  have sg : IntKind.signed .u32 = false := rfl
  have mx : IntKind.max .u32 = 4294967295 := by decide
  have p3 : (2 : Int) ^ min 3 (IntKind.bits .u32) = 8 := by decide
  have p10 : (2 : Int) ^ min 10 (IntKind.bits .u32) = 1024 := by decide
  refine pof Tryz.func198 fun h n => ?_
  repeat (first | refine go ?_ | refine drg 12 b198_12 w198_12 ?_ | refine drg 15 b198_15 w198_15 ?_ | refine drg 21 b198_21 w198_21 ?_ | refine drg 23 b198_23 w198_23 ?_ | refine drg 31 b198_31 w198_31 ?_)
  refine AWp.loop (fun mm t' h' n' => ∃ (m : Nat) (q : List UInt8) (H : S8), mm = m ∧ Hid (q.length = 64 * m) ∧ m ≤ 20000 ∧ Hid (F = absorb m H q) ∧ t' 2 = .p n 0 ∧ t' 3 = .p (n + 1) 0 ∧ t' 4 = .ro false kC 64 ∧ t' 5 = .ro false (cellsB q) q.length ∧ h' n = some (.cells [.i .u8 0, .i .u8 0, .i .u8 0, .i .u8 0, .i .u8 0, .i .u8 0, .i .u8 0, .i .u8 0, .i .u8 0, .i .u8 0, .i .u8 0, .i .u8 0, .i .u8 0, .i .u8 0, .i .u8 0, .i .u8 0, .i .u8 0, .i .u8 0, .i .u8 0, .i .u8 0, .i .u8 0, .i .u8 0, .i .u8 0, .i .u8 0, .i .u8 0, .i .u8 0, .i .u8 0, .i .u8 0, .i .u8 0, .i .u8 0, .i .u8 0, .i .u8 0]) ∧ h' (n + 1) = some (.cells (s8C H)) ∧ n + 2 ≤ n' ∧ Keeps n h h') (q.length / 64) ?_ ?_
  · exact ⟨q.length / 64, q, iv, rfl, ⟨by omega⟩, by omega, HF, tr, tr, tr, tr, tr, tr, by omega, ks⟩
  · clear P0 h64 hpl HF q
    rintro mm t' h' n' - ⟨m, q, H, hmm, Hq, hm, HF, t2, t3, t4, t5, r0, r1, hn, kp⟩
    have p0 := apt (j := n) (n := n') (by omega)
    have p1 := apt (j := n + 1) (n := n') (by omega)
    by_cases hm0 : m = 0
    · subst hm0
      have hq0 := Hq.get
      have eF : F = H := by rw [HF.get]; rfl
      have g1 : ((q.length : Int) > 0) = False := eq_false (by omega)
      have g2 : ((0 : Int) < (q.length : Int)) = False := eq_false (by omega)
      clear Hq HF hq0 hmm
      subst eF
      repeat (first | refine go ?_ | refine drg 12 b198_12 w198_12 ?_ | refine drg 15 b198_15 w198_15 ?_ | refine drg 21 b198_21 w198_21 ?_ | refine drg 23 b198_23 w198_23 ?_ | refine drg 31 b198_31 w198_31 ?_)
      refine AWp.loop (fun mm t2 h2 n2 => ∃ i : Nat, mm = 32 - i ∧ i ≤ 32 ∧ t2 2 = .p n 0 ∧ t2 3 = .p (n + 1) 0 ∧ t2 21 = .p n' 0 ∧ t2 184 = .i .i64 (i : Int) ∧ h2 n = some (.cells [.i .u8 0, .i .u8 0, .i .u8 0, .i .u8 0, .i .u8 0, .i .u8 0, .i .u8 0, .i .u8 0, .i .u8 0, .i .u8 0, .i .u8 0, .i .u8 0, .i .u8 0, .i .u8 0, .i .u8 0, .i .u8 0, .i .u8 0, .i .u8 0, .i .u8 0, .i .u8 0, .i .u8 0, .i .u8 0, .i .u8 0, .i .u8 0, .i .u8 0, .i .u8 0, .i .u8 0, .i .u8 0, .i .u8 0, .i .u8 0, .i .u8 0, .i .u8 0]) ∧ h2 (n + 1) = some (.cells (s8C F)) ∧ h2 n' = some (.cells (cellsB (digestTo F i))) ∧ n' + 1 ≤ n2 ∧ Keeps n h h2) 32 ?_ ?_
      · exact ⟨0, rfl, by decide, tr, tr, tr, tr, tr, tr, tr, by omega, ks⟩
      · clear t2 t3 t4 t5 r0 r1 kp g1 g2
        rintro mm t2 h2 n2 - ⟨i, hmm, hi, t2, t3, t21, t184, r0, r1, rj, hn2, kp⟩
        have fl : ∀ i, (cellsB (digestTo F i)).length = 32 := fun i => by simp [cellsB, digestTo]
        by_cases h32 : i < 32
        · have q1 : ((i : Int) < 32) = True := eq_true (by omega)
          have q2 : (0 ≤ (i : Int) ∧ (i : Int) < 32) = True := eq_true (by omega)
          have q3 : (i ≤ 31) = True := eq_true (by omega)
          have w1 : IntKind.wrap .i64 ((i : Int) + 1) = (i : Int) + 1 := IntWalk.i64_in _ (by omega)
          obtain ⟨k, ek⟩ : ∃ k, k = i / 4 := ⟨_, rfl⟩
          obtain ⟨r, er⟩ : ∃ r, r = i % 4 := ⟨_, rfl⟩
          have d1 : Int.tdiv (i : Int) 4 = (k : Int) := by rw [ek]; exact tdivN i 4
          have d2 : Int.tmod (i : Int) 4 = (r : Int) := by rw [er]; exact tmodN i 4
          have wk : IntKind.wrap .i64 (k : Int) = (k : Int) := IntWalk.i64_in _ (by omega)
          have qk : (0 ≤ (k : Int) ∧ (k : Int) < 8) = True := eq_true (by omega)
          have gk := s8_get F (q := k) (by omega)
          obtain ⟨s, es⟩ : ∃ s, s = 8 * r := ⟨_, rfl⟩
          have w3 : IntKind.wrap .i64 (8 * (r : Int)) = (s : Int) := by rw [show (8 * (r : Int)) = (s : Int) by omega]; exact IntWalk.i64_in _ (by omega)
          obtain ⟨u, eu⟩ : ∃ u, u = 24 - s := ⟨_, rfl⟩
          have w4 : IntKind.wrap .i64 (24 - (s : Int)) = (u : Int) := by rw [show (24 - (s : Int)) = (u : Int) by omega]; exact IntWalk.i64_in _ (by omega)
          have u0 : (0 ≤ (u : Int)) = True := by simp
          have mn : min u (IntKind.bits .u32) = u := Nat.min_eq_left (show u ≤ 32 by omega)
          obtain ⟨c, ec⟩ : ∃ c, c = (dB F i).toNat := ⟨_, rfl⟩
          have wc : IntKind.wrap .u8 (Int.fdiv (s8At F k) (2 ^ u)) = (c : Int) := by rw [ec, ← dB_wrap, ← ek, ← er, ← es, ← eu]
          have set := digestTo_set F i h32
          rw [← ec] at set
          have fli := fl i
          have lt1 : 32 - (i + 1) < mm := by omega
          clear ek er es eu ec fl hmm
          repeat (first | refine go ?_ | refine drg 12 b198_12 w198_12 ?_ | refine drg 15 b198_15 w198_15 ?_ | refine drg 21 b198_21 w198_21 ?_ | refine drg 23 b198_23 w198_23 ?_ | refine drg 31 b198_31 w198_31 ?_)
          exact ⟨32 - (i + 1), lt1, i + 1, rfl, h32, tr, tr, tr, tr, tr, tr, tr, by omega, ks⟩
        · have e : i = 32 := by omega
          rw [e, digestTo_32] at rj
          have q1 : ((i : Int) < 32) = False := eq_false (by omega)
          have fl2 : (cellsB (digest F)).length = 32 := by rw [len_cellsB, digest_len]
          have ft : (cellsB (digest F)).take 32 = cellsB (digest F) := List.take_of_length_le (by omega)
          clear e fl hmm
          repeat (first | refine go ?_ | refine drg 12 b198_12 w198_12 ?_ | refine drg 15 b198_15 w198_15 ?_ | refine drg 21 b198_21 w198_21 ?_ | refine drg 23 b198_23 w198_23 ?_ | refine drg 31 b198_31 w198_31 ?_)
          exact outP
    · obtain ⟨j, rfl⟩ : ∃ j, m = j + 1 := ⟨m - 1, by omega⟩
      have hq64 : 64 ≤ q.length := by have := Hq.get; omega
      have g1 : ((q.length : Int) > 0) = True := eq_true (by omega)
      have g2 : ((0 : Int) < (q.length : Int)) = True := eq_true (by omega)
      have g64 : (64 ≤ (q.length : Int)) = True := eq_true (by omega)
      have lj : j < mm := by omega
      clear hmm
      repeat (first | refine go ?_ | refine drg 12 b198_12 w198_12 ?_ | refine drg 15 b198_15 w198_15 ?_ | refine drg 21 b198_21 w198_21 ?_ | refine drg 23 b198_23 w198_23 ?_ | refine drg 31 b198_31 w198_31 ?_)
      refine AWp.loop (fun mm t2 h2 n2 => ∃ (i : Nat) (l : List Int), mm = 64 - i ∧ i ≤ 64 ∧ l.length = i ∧ Hid (l = wl q i) ∧ t2 2 = .p n 0 ∧ t2 3 = .p (n + 1) 0 ∧ t2 4 = .ro false kC 64 ∧ t2 5 = .ro false (cellsB q) q.length ∧ t2 6 = .p n' 0 ∧ t2 32 = .i .i64 (i : Int) ∧ h2 n = some (.cells [.i .u8 0, .i .u8 0, .i .u8 0, .i .u8 0, .i .u8 0, .i .u8 0, .i .u8 0, .i .u8 0, .i .u8 0, .i .u8 0, .i .u8 0, .i .u8 0, .i .u8 0, .i .u8 0, .i .u8 0, .i .u8 0, .i .u8 0, .i .u8 0, .i .u8 0, .i .u8 0, .i .u8 0, .i .u8 0, .i .u8 0, .i .u8 0, .i .u8 0, .i .u8 0, .i .u8 0, .i .u8 0, .i .u8 0, .i .u8 0, .i .u8 0, .i .u8 0]) ∧ h2 (n + 1) = some (.cells (s8C H)) ∧ h2 n' = some (.cells (wC l)) ∧ n' + 1 ≤ n2 ∧ Keeps n h h2) 64 ?_ ?_
      · exact ⟨0, [], rfl, by decide, rfl, ⟨rfl⟩, tr, tr, tr, tr, tr, tr, tr, tr, by rw [wC_0]; exact tr, by omega, ks⟩
      · clear t2 t3 t4 t5 r0 r1 kp p0 p1
        rintro mm t2 h2 n2 - ⟨i, l, hmm, hi, hl, Hl, t2, t3, t4, t5, t6, t32, r0, r1, rw', hn2, kp⟩
        have p0 := apt (j := n) (n := n2) (by omega)
        have p1 := apt (j := n + 1) (n := n2) (by omega)
        have p2 := apt (j := n') (n := n2) (by omega)
        have p3 := apt (j := n) (n := n') (by omega)
        have p4 := apt (j := n + 1) (n := n') (by omega)
        by_cases h64 : i < 64
        · have q1 : ((i : Int) < 64) = True := eq_true (by omega)
          have q2 : (0 ≤ (i : Int) ∧ (i : Int) < 64) = True := eq_true (by omega)
          have q3 : (i + 1 ≤ (wC l).length) = True := by rw [wC_len (by omega)]; exact eq_true (by omega)
          have w1 : IntKind.wrap .i64 ((i : Int) + 1) = (i : Int) + 1 := IntWalk.i64_in _ (by omega)
          have set : ∀ x, (wC l).set i (.i .u32 x) = wC (l ++ [x]) := fun x => by rw [← hl]; exact wC_set (by omega) x
          have hl' : ∀ x : Int, (l ++ [x]).length = i + 1 := fun x => by simp [hl]
          have lt1 : 64 - (i + 1) < mm := by omega
          have Hl' : Hid (l ++ [wAt q l i] = wl q (i + 1)) := ⟨by rw [wl, ← Hl.get]⟩
          by_cases h16 : i < 16
          · have c1 : ((i : Int) < 16) = True := eq_true (by omega)
            obtain ⟨a, ea⟩ : ∃ a, a = 4 * i := ⟨_, rfl⟩
            obtain ⟨b4, eb⟩ : ∃ b, b = a + 4 := ⟨_, rfl⟩
            have w2 : IntKind.wrap .i64 (4 * (i : Int)) = (a : Int) := by rw [show (4 * (i : Int)) = (a : Int) by omega]; exact IntWalk.i64_in _ (by omega)
            have w3 : IntKind.wrap .i64 ((a : Int) + 4) = (b4 : Int) := by rw [show ((a : Int) + 4) = (b4 : Int) by omega]; exact IntWalk.i64_in _ (by omega)
            have s1 : (0 ≤ (b4 : Int) ∧ (b4 : Int) ≤ (q.length : Int)) = True := eq_true (by omega)
            have s2 : (0 ≤ (a : Int) ∧ (a : Int) ≤ (b4 : Int)) = True := eq_true (by omega)
            have d4 : b4 - a = 4 := by omega
            obtain ⟨c4, e4⟩ : ∃ c4, c4 = (q.drop a).take 4 := ⟨_, rfl⟩
            have l4 : c4.length = 4 := by rw [e4]; simp; omega
            have tk : List.take 4 (List.drop a (cellsB q)) = cellsB c4 := by rw [e4]; simp [cellsB]
            have A := l251 c4 (by omega)
            rw [l4] at A
            have hx : beN c4 < 4294967296 := by have := beN_lt c4; rw [l4] at this; exact this
            have w4 : IntKind.wrap .u32 (beN c4 : Int) = (beN c4 : Int) := by rw [IntKind.wrap_u32]; omega
            have hX : wAt q l i = (beN c4 : Int) := by unfold wAt; rw [if_pos h16, ← ea, ← e4]
            clear ea eb e4 hx Hl hmm
            repeat (first | refine go ?_ | refine drg 12 b198_12 w198_12 ?_ | refine drg 15 b198_15 w198_15 ?_ | refine drg 21 b198_21 w198_21 ?_ | refine drg 23 b198_23 w198_23 ?_ | refine drg 31 b198_31 w198_31 ?_)
            exact ⟨64 - (i + 1), lt1, i + 1, l ++ [wAt q l i], rfl, h64, hl' _, Hl', tr, tr, tr, tr, tr, tr, tr, tr, tr, by omega, ks⟩
          · have c1 : ((i : Int) < 16) = False := eq_false (by omega)
            have hX : wAt q l i = wNext l i := if_neg h16
            unfold wNext at hX
            obtain ⟨k15, ek15⟩ : ∃ k, k = i - 15 := ⟨_, rfl⟩
            have wk15 : IntKind.wrap .i64 ((i : Int) - 15) = (k15 : Int) := by rw [show ((i : Int) - 15) = (k15 : Int) by omega]; exact IntWalk.i64_in _ (by omega)
            have qk15 : (0 ≤ (k15 : Int) ∧ (k15 : Int) < 64) = True := eq_true (by omega)
            have gk15 := wC_get (l := l) (i := k15) (by omega)
            obtain ⟨y15, ey15⟩ : ∃ y, l.getD k15 0 = y := ⟨_, rfl⟩
            rw [ey15] at gk15
            rw [← ek15, ey15] at hX
            clear ek15 ey15
            obtain ⟨k2, ek2⟩ : ∃ k, k = i - 2 := ⟨_, rfl⟩
            have wk2 : IntKind.wrap .i64 ((i : Int) - 2) = (k2 : Int) := by rw [show ((i : Int) - 2) = (k2 : Int) by omega]; exact IntWalk.i64_in _ (by omega)
            have qk2 : (0 ≤ (k2 : Int) ∧ (k2 : Int) < 64) = True := eq_true (by omega)
            have gk2 := wC_get (l := l) (i := k2) (by omega)
            obtain ⟨y2, ey2⟩ : ∃ y, l.getD k2 0 = y := ⟨_, rfl⟩
            rw [ey2] at gk2
            rw [← ek2, ey2] at hX
            clear ek2 ey2
            obtain ⟨k16, ek16⟩ : ∃ k, k = i - 16 := ⟨_, rfl⟩
            have wk16 : IntKind.wrap .i64 ((i : Int) - 16) = (k16 : Int) := by rw [show ((i : Int) - 16) = (k16 : Int) by omega]; exact IntWalk.i64_in _ (by omega)
            have qk16 : (0 ≤ (k16 : Int) ∧ (k16 : Int) < 64) = True := eq_true (by omega)
            have gk16 := wC_get (l := l) (i := k16) (by omega)
            obtain ⟨y16, ey16⟩ : ∃ y, l.getD k16 0 = y := ⟨_, rfl⟩
            rw [ey16] at gk16
            rw [← ek16, ey16] at hX
            clear ek16 ey16
            obtain ⟨k7, ek7⟩ : ∃ k, k = i - 7 := ⟨_, rfl⟩
            have wk7 : IntKind.wrap .i64 ((i : Int) - 7) = (k7 : Int) := by rw [show ((i : Int) - 7) = (k7 : Int) by omega]; exact IntWalk.i64_in _ (by omega)
            have qk7 : (0 ≤ (k7 : Int) ∧ (k7 : Int) < 64) = True := eq_true (by omega)
            have gk7 := wC_get (l := l) (i := k7) (by omega)
            obtain ⟨y7, ey7⟩ : ∃ y, l.getD k7 0 = y := ⟨_, rfl⟩
            rw [ey7] at gk7
            rw [← ek7, ey7] at hX
            clear ek7 ey7
            clear Hl hmm
            repeat (first | refine go ?_ | refine drg 12 b198_12 w198_12 ?_ | refine drg 15 b198_15 w198_15 ?_ | refine drg 21 b198_21 w198_21 ?_ | refine drg 23 b198_23 w198_23 ?_ | refine drg 31 b198_31 w198_31 ?_)
            exact ⟨64 - (i + 1), lt1, i + 1, l ++ [wAt q l i], rfl, h64, hl' _, Hl', tr, tr, tr, tr, tr, tr, tr, tr, tr, by omega, ks⟩
        · have hi64 : i = 64 := by omega
          subst hi64
          have q1 : (((64 : Nat) : Int) < 64) = False := by simp
          have HW := Hl
          clear Hl hmm
          repeat (first | refine go ?_ | refine drg 12 b198_12 w198_12 ?_ | refine drg 15 b198_15 w198_15 ?_ | refine drg 21 b198_21 w198_21 ?_ | refine drg 23 b198_23 w198_23 ?_ | refine drg 31 b198_31 w198_31 ?_)
          refine AWp.loop (fun mm t3 h3 n3 => ∃ (i : Nat) (V : S8), mm = 64 - i ∧ i ≤ 64 ∧ Hid (V = rd H l i) ∧ t3 2 = .p n 0 ∧ t3 3 = .p (n + 1) 0 ∧ t3 4 = .ro false kC 64 ∧ t3 5 = .ro false (cellsB q) q.length ∧ t3 6 = .p n' 0 ∧ t3 12 = .p n2 0 ∧ t3 89 = .i .i64 (i : Int) ∧ h3 n = some (.cells [.i .u8 0, .i .u8 0, .i .u8 0, .i .u8 0, .i .u8 0, .i .u8 0, .i .u8 0, .i .u8 0, .i .u8 0, .i .u8 0, .i .u8 0, .i .u8 0, .i .u8 0, .i .u8 0, .i .u8 0, .i .u8 0, .i .u8 0, .i .u8 0, .i .u8 0, .i .u8 0, .i .u8 0, .i .u8 0, .i .u8 0, .i .u8 0, .i .u8 0, .i .u8 0, .i .u8 0, .i .u8 0, .i .u8 0, .i .u8 0, .i .u8 0, .i .u8 0]) ∧ h3 (n + 1) = some (.cells (s8C H)) ∧ h3 n' = some (.cells (wC l)) ∧ h3 n2 = some (.cells (s8C V)) ∧ n2 + 1 ≤ n3 ∧ Keeps n h h3) 64 ?_ ?_
          · exact ⟨0, H, rfl, by decide, ⟨rfl⟩, tr, tr, tr, tr, tr, tr, tr, tr, tr, tr, tr, by omega, ks⟩
          · clear t2 t3 t4 t5 t6 t32 r0 r1 rw' kp q1
            rintro mm t3 h3 n3 - ⟨i, V, hmm, hi3, HV, t2, t3, t4, t5, t6, t12, t89, r0, r1, rw', rv, hn3, kp⟩
            have p5 := apt (j := n) (n := n3) (by omega)
            have p6 := apt (j := n + 1) (n := n3) (by omega)
            have p7 := apt (j := n') (n := n3) (by omega)
            have p8 := apt (j := n2) (n := n3) (by omega)
            by_cases h64 : i < 64
            · have q1 : ((i : Int) < 64) = True := eq_true (by omega)
              have q2 : (0 ≤ (i : Int) ∧ (i : Int) < 64) = True := eq_true (by omega)
              have w1 : IntKind.wrap .i64 ((i : Int) + 1) = (i : Int) + 1 := IntWalk.i64_in _ (by omega)
              have k1 := kC_get h64
              have k2 := wC_get (l := l) (i := i) (by omega)
              have HV' : Hid (roundI V (kAt i) (l.getD i 0) = rd H l (i + 1)) := ⟨by rw [rd, ← HV.get]⟩
              obtain ⟨y, ey⟩ : ∃ y, l.getD i 0 = y := ⟨_, rfl⟩
              obtain ⟨ka, eka⟩ : ∃ y, kAt i = y := ⟨_, rfl⟩
              rw [ey] at k2 HV'
              rw [eka] at k1 HV'
              have lt1 : 64 - (i + 1) < mm := by omega
              clear ey eka HV hmm
              obtain ⟨va, vb, vc, vd, ve, vf, vg, vh⟩ := V
              have rv : h3 n2 = some (.cells [.i .u32 va, .i .u32 vb, .i .u32 vc, .i .u32 vd, .i .u32 ve, .i .u32 vf, .i .u32 vg, .i .u32 vh]) := rv
              repeat (first | refine go ?_ | refine drg 12 b198_12 w198_12 ?_ | refine drg 15 b198_15 w198_15 ?_ | refine drg 21 b198_21 w198_21 ?_ | refine drg 23 b198_23 w198_23 ?_ | refine drg 31 b198_31 w198_31 ?_)
              exact ⟨64 - (i + 1), lt1, i + 1, roundI ⟨va, vb, vc, vd, ve, vf, vg, vh⟩ ka y, rfl, h64, HV', tr, tr, tr, tr, tr, tr, tr, tr, tr, tr, tr, by omega, ks⟩
            · have hi64 : i = 64 := by omega
              subst hi64
              have q1 : (((64 : Nat) : Int) < 64) = False := by simp
              obtain ⟨q', eq'⟩ : ∃ q', q.drop 64 = q' := ⟨_, rfl⟩
              have HF' : Hid (F = absorb j (add8 H V) q') := ⟨by rw [HF.get, absorb, compress, HV.get, HW.get, eq']⟩
              have e1 : List.take q'.length (List.drop 64 (cellsB q)) = cellsB q' := by
                rw [← eq', List.take_of_length_le (by simp [cellsB])]; simp [cellsB]
              have e2 : q.length - 64 = q'.length := by rw [← eq']; simp
              have Hq' : Hid (q'.length = 64 * j) := ⟨by have := Hq.get; omega⟩
              clear eq'
              have s0 := s8C_eq H
              have s1 := s8C_eq V
              have ws : ∀ k : Nat, k < 10 → IntKind.wrap .i64 (k : Int) = (k : Int) := fun k hk => IntWalk.i64_in _ (by omega)
              have ws0 : IntKind.wrap .i64 0 = 0 := ws 0 (by decide)
              have ws1 : IntKind.wrap .i64 1 = 1 := ws 1 (by decide)
              have ws2 : IntKind.wrap .i64 2 = 2 := ws 2 (by decide)
              have ws3 : IntKind.wrap .i64 3 = 3 := ws 3 (by decide)
              have ws4 : IntKind.wrap .i64 4 = 4 := ws 4 (by decide)
              have ws5 : IntKind.wrap .i64 5 = 5 := ws 5 (by decide)
              have ws6 : IntKind.wrap .i64 6 = 6 := ws 6 (by decide)
              have ws7 : IntKind.wrap .i64 7 = 7 := ws 7 (by decide)
              have ws8 : IntKind.wrap .i64 8 = 8 := ws 8 (by decide)
              clear ws hmm HF HV HW Hq
              repeat (first | refine go ?_ | refine drg 12 b198_12 w198_12 ?_ | refine drg 15 b198_15 w198_15 ?_ | refine drg 21 b198_21 w198_21 ?_ | refine drg 23 b198_23 w198_23 ?_ | refine drg 31 b198_31 w198_31 ?_)
              refine AWr.loop 9 ?_
              repeat (first | refine go ?_ | refine drg 12 b198_12 w198_12 ?_ | refine drg 15 b198_15 w198_15 ?_ | refine drg 21 b198_21 w198_21 ?_ | refine drg 23 b198_23 w198_23 ?_ | refine drg 31 b198_31 w198_31 ?_)
              exact ⟨j, lj, j, q', add8 H V, rfl, Hq', by omega, HF', tr, tr, tr, tr, tr, tr, by omega, ks⟩
instance (b : List UInt8) [hb : Lx b] : Ct Tryz.prog 198 [.ro false (cellsB b) b.length] (.agg (cellsB (sha b))) := ⟨l198 b hb.h⟩

end Go.Proofs.YtmkefpjpghmonaaGreat
