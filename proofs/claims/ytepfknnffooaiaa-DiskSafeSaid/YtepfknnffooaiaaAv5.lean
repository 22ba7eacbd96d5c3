/- What one operation does, told of abstract values: it is so. Part 2: values. -/
import Derived.Test.YtepfknnffooaiaaAv4
namespace Go.Av

variable {P : Program} {U : Nat → Prop} {n n' : Nat} {ρ : Nat → Nat} {Ro : Nat → Prop} {h : Heap} {w w1 : World} {t : Tmps} {a : Act} {o : Oper} {C : Cx} {v : AV} {us : List (Nat × Option Row)}

theorem okX1 {x : Operand} {op : Op} (ho : opOk op = true) (hx : x ∈ op.operands.toList) : okX x = true := by
  unfold opOk at ho
  rw [← Array.all_toList] at ho
  exact List.all_eq_true.1 ho x hx

theorem sound_move {x : Operand} (ho : okX x = true) : Sound P (.move x) t h n (aev t x) [] n :=
  Sound.val fun _ _ U ρ Ro w a _ ht => ⟨a.eval x, .inl (by simp [execOp]), rv_ev ht ho⟩
theorem sound_assign {x : Operand} (ho : okX x = true) : Sound P (.assign x) t h n (aev t x) [] n :=
  Sound.val fun _ _ U ρ Ro w a _ ht => ⟨a.eval x, .inl (by simp [execOp]), rv_ev ht ho⟩
theorem sound_pick {c x y : Operand} (hc : okX c = true) (hx : okX x = true) (hy : okX y = true) {u : Bool} (hu : aev t c = .b u) : Sound P (.pick c x y) t h n (if u then aev t x else aev t y) [] n :=
  Sound.val fun _ _ U ρ Ro w a _ ht => by
    have h1 := rv_ev ht hc
    rw [hu] at h1
    have h2 := h1.inv_b
    refine ⟨if u then a.eval x else a.eval y, .inl (by simp [execOp, h2, asBool]), ?_⟩
    cases u
    · exact rv_ev ht hy
    · exact rv_ev ht hx

/-! binary operations -/
theorem eqGuard_ni {op : BinOp} {T : TypeId} {x y : Operand} (hk : (isK x || isK y) = true) (P : Program) (w : World) : (eqGuard op T x y .nilIface .nilIface).run P w = .ok () w := by
  cases x <;> cases y <;> simp [isK] at hk <;> cases op <;> rfl

theorem run_equalIn_bool {T : TypeId} (hk : kiT P T = some .bool) (u v : Bool) (d : Nat) : (Op.equalIn (d + 1) T (.bool u) (.bool v)).run P w = .ok (u == v) w := by
  obtain ⟨D, hd, h1, _⟩ := kiT_some hk
  obtain rfl := h1.1 rfl
  simp only [Op.equalIn, Sem.run_bind, run_underlying hd, Result.andThen_ok, Sem.run_pure]
theorem run_equalIn_ni {T : TypeId} (hk : kiT P T = some .iface) (d : Nat) : (Op.equalIn (d + 1) T .nilIface .nilIface).run P w = .ok true w := by
  obtain ⟨D, hd, _, _, _, h1⟩ := kiT_some hk
  obtain ⟨ms, rfl⟩ := h1.1 rfl
  simp only [Op.equalIn, Sem.run_bind, run_underlying hd, Result.andThen_ok, Sem.run_pure]
theorem run_equalIn_ni_ifc {T U : TypeId} {z : Value} (hk : kiT P T = some .iface) (d : Nat) : (Op.equalIn (d + 1) T .nilIface (.iface U z)).run P w = .ok false w ∧ (Op.equalIn (d + 1) T (.iface U z) .nilIface).run P w = .ok false w := by
  obtain ⟨D, hd, _, _, _, h1⟩ := kiT_some hk
  obtain ⟨ms, rfl⟩ := h1.1 rfl
  constructor <;> simp only [Op.equalIn, Sem.run_bind, run_underlying hd, Result.andThen_ok, Sem.run_pure]
theorem run_equal_bool {T : TypeId} (hk : kiT P T = some .bool) (u v : Bool) : (Op.equal T (.bool u) (.bool v)).run P w = .ok (u == v) w := run_equalIn_bool hk u v 9999
theorem run_equal_ni {T : TypeId} (hk : kiT P T = some .iface) : (Op.equal T .nilIface .nilIface).run P w = .ok true w := run_equalIn_ni hk 9999
theorem run_equal_ni_ifc {T U : TypeId} {z : Value} (hk : kiT P T = some .iface) : (Op.equal T .nilIface (.iface U z)).run P w = .ok false w ∧ (Op.equal T (.iface U z) .nilIface).run P w = .ok false w := run_equalIn_ni_ifc hk 9999

theorem run_eqNilP {T e : TypeId} (hu : P.underlying T = some (.pointer e)) (d : Nat) (a : Option Addr) : (Op.equalIn (d + 1) T (.pointer a) (.pointer none)).run P w = .ok a.isNone w := by
  cases a with
  | none => simp only [Op.equalIn, Sem.run_bind, run_underlying hu, Result.andThen_ok, Sem.run_pure]
  | some a => simp only [Op.equalIn, Sem.run_bind, run_underlying hu, Result.andThen_ok, Sem.run_pure]; rfl
theorem run_eqNilS {T e : TypeId} (hu : P.underlying T = some (.slice e)) (d : Nat) (a : Option Addr) (len cap : Nat) : (Op.equalIn (d + 1) T (.slice a len cap) (.slice none 0 0)).run P w = .ok a.isNone w := by
  cases a with
  | none => simp only [Op.equalIn, Sem.run_bind, run_underlying hu, Result.andThen_ok, Sem.run_pure]
  | some a => simp only [Op.equalIn, Sem.run_bind, run_underlying hu, Result.andThen_ok, Sem.run_pure]; rfl
theorem run_nilP {op : BinOp} {T : TypeId} {x y : Operand} (hT : ptT P T = true) (a : Option Addr) {v : AV} (hv : nilOp op a.isNone = some v) :
    ∃ r, (do eqGuard op T x y (.pointer a) (.pointer none); binOp op T (.pointer a) (.pointer none) : Sem Value).run P w = .ok r w ∧ RV C v r := by
  unfold ptT at hT
  split at hT
  · rename_i e hu
    have h2 : (Op.equal T (.pointer a) (.pointer none)).run P w = .ok a.isNone w := run_eqNilP hu 9999 a
    unfold nilOp at hv
    split at hv <;> first | (cases hv; done) | skip
    · injection hv with hv; subst hv
      have hg : (eqGuard .eql T x y (.pointer a) (.pointer none)).run P w = .ok () w := rfl
      exact ⟨.bool a.isNone, by simp only [Sem.run_bind, hg, Result.andThen_ok, binOp, h2, Sem.run_pure], .b _⟩
    · injection hv with hv; subst hv
      have hg : (eqGuard .neq T x y (.pointer a) (.pointer none)).run P w = .ok () w := rfl
      exact ⟨.bool (!a.isNone), by simp only [Sem.run_bind, hg, Result.andThen_ok, binOp, h2, Sem.run_pure], .b _⟩
  · cases hT
theorem run_nilS {op : BinOp} {T : TypeId} {x y : Operand} (hT : (slT P T).isSome = true) (a : Option Addr) (len cap : Nat) {v : AV} (hv : nilOp op a.isNone = some v) :
    ∃ r, (do eqGuard op T x y (.slice a len cap) (.slice none 0 0); binOp op T (.slice a len cap) (.slice none 0 0) : Sem Value).run P w = .ok r w ∧ RV C v r := by
  obtain ⟨⟨e, z, b⟩, hT⟩ := Option.isSome_iff_exists.1 hT
  obtain ⟨hu, _, _⟩ := slT_some hT
  have h2 : (Op.equal T (.slice a len cap) (.slice none 0 0)).run P w = .ok a.isNone w := run_eqNilS hu 9999 a len cap
  unfold nilOp at hv
  split at hv <;> first | (cases hv; done) | skip
  · injection hv with hv; subst hv
    have hg : (eqGuard .eql T x y (.slice a len cap) (.slice none 0 0)).run P w = .ok () w := rfl
    exact ⟨.bool a.isNone, by simp only [Sem.run_bind, hg, Result.andThen_ok, binOp, h2, Sem.run_pure], .b _⟩
  · injection hv with hv; subst hv
    have hg : (eqGuard .neq T x y (.slice a len cap) (.slice none 0 0)).run P w = .ok () w := rfl
    exact ⟨.bool (!a.isNone), by simp only [Sem.run_bind, hg, Result.andThen_ok, binOp, h2, Sem.run_pure], .b _⟩

theorem run_abin {op : BinOp} {T : TypeId} {x y : Operand} {p q v : AV} {a b : Value} (hp : RV C p a) (hq : RV C q b) (hv : abin P op T x y p q = some v) :
    ∃ r, (do eqGuard op T x y a b; binOp op T a b : Sem Value).run P w = .ok r w ∧ RV C v r := by
  unfold abin at hv
  split at hv
  · -- int
    obtain rfl := hp.inv_i
    obtain rfl := hq.inv_i
    rename_i k m k' m'
    split at hv
    · split at hv
      · rename_i h0
        injection hv with hv; subst hv
        refine ⟨_, ?_, .i _ _⟩
        simp [eqGuard, binOp, Op.shift, show ¬ m' < 0 by omega]
      · cases hv
    · split at hv
      · rename_i h0
        injection hv with hv; subst hv
        refine ⟨_, ?_, .i _ _⟩
        simp [eqGuard, binOp, Op.shift, show ¬ m' < 0 by omega]
      · cases hv
    · rename_i hns hnr
      split at hv
      · rename_i hk
        subst hk
        split at hv
        all_goals first
          | (cases hv; done)
          | skip
        all_goals first
          | (injection hv with hv; subst hv; refine ⟨_, ?_, by constructor⟩; simp [eqGuard, binOp, Op.intArith, Op.intCmp, Op.intBits, bits]; done)
          | (split at hv
             · cases hv
             · rename_i hz
               injection hv with hv; subst hv
               refine ⟨_, ?_, .i _ _⟩
               simp [eqGuard, binOp, Op.intDiv, hz])
      · cases hv
  · -- string
    obtain rfl := hp.inv_s
    obtain rfl := hq.inv_s
    split at hv
    · split at hv
      · rename_i h0
        injection hv with hv; subst hv
        refine ⟨_, ?_, .s _⟩
        simp only [eqGuard_add, binOp, Op.stringOp, IntKind.max_i64, Sem.run_bind, Sem.run_pure, Result.andThen_ok]
        rw [if_neg (by omega)]
        rfl
      · cases hv
    · injection hv with hv; subst hv
      exact ⟨_, by simp [eqGuard_at_string, binOp, Op.stringOp], .b _⟩
    · injection hv with hv; subst hv
      exact ⟨_, by simp [eqGuard_at_string, binOp, Op.stringOp], .b _⟩
    · cases hv
  · -- bool
    obtain rfl := hp.inv_b
    obtain rfl := hq.inv_b
    split at hv
    · rename_i hk
      split at hv
      · injection hv with hv; subst hv
        exact ⟨_, by simp [eqGuard_at_bool, binOp, run_equal_bool hk], .b _⟩
      · injection hv with hv; subst hv
        exact ⟨_, by simp [eqGuard_at_bool, binOp, run_equal_bool hk], .b _⟩
      · cases hv
    · cases hv
  · obtain rfl := hp.inv_ni
    obtain rfl := hq.inv_ni
    split at hv
    · rename_i hk
      obtain ⟨hk, hc⟩ := hk
      split at hv
      · injection hv with hv; subst hv
        exact ⟨_, by simp [eqGuard_ni hc, binOp, run_equal_ni hk], .b _⟩
      · injection hv with hv; subst hv
        exact ⟨_, by simp [eqGuard_ni hc, binOp, run_equal_ni hk], .b _⟩
      · cases hv
    · cases hv
  · obtain rfl := hp.inv_ni
    obtain ⟨z, rfl, _⟩ := hq.inv_ifc
    split at hv
    · rename_i hk
      split at hv
      · injection hv with hv; subst hv
        exact ⟨_, by simp [eqGuard_nil_iface, binOp, (run_equal_ni_ifc hk).1], .b _⟩
      · injection hv with hv; subst hv
        exact ⟨_, by simp [eqGuard_nil_iface, binOp, (run_equal_ni_ifc hk).1], .b _⟩
      · cases hv
    · cases hv
  · obtain rfl := hq.inv_ni
    obtain ⟨z, rfl, _⟩ := hp.inv_ifc
    split at hv
    · rename_i hk
      split at hv
      · injection hv with hv; subst hv
        exact ⟨_, by simp [eqGuard_at_iface, binOp, (run_equal_ni_ifc hk).2], .b _⟩
      · injection hv with hv; subst hv
        exact ⟨_, by simp [eqGuard_at_iface, binOp, (run_equal_ni_ifc hk).2], .b _⟩
      · cases hv
    · cases hv
  · obtain ⟨_, rfl⟩ := hp.inv_p
    cases hq
    split at hv
    · rename_i hk; exact run_nilP hk _ hv
    · cases hv
  · obtain ⟨_, _, rfl, _⟩ := hp.inv_q
    cases hq
    split at hv
    · rename_i hk; exact run_nilP hk _ hv
    · cases hv
  · cases hp
    cases hq
    split at hv
    · rename_i hk; exact run_nilP hk _ hv
    · cases hv
  · obtain ⟨_, rfl, _⟩ := hp.inv_sl
    obtain rfl := hq.inv_nil
    split at hv
    · rename_i hk; exact run_nilS hk _ _ _ hv
    · cases hv
  · obtain rfl := hq.inv_nil
    split at hv
    · rename_i hk
      cases hp with
      | ron => exact run_nilS hk _ _ _ hv
      | ro cs len a cap vs h1 h2 h3 h4 h5 => exact run_nilS hk _ _ _ hv
    · cases hv
  · cases hv

theorem sound_bin {op : BinOp} {T U : TypeId} {x y : Operand} (hx : okX x = true) (hy : okX y = true) (hv : abin P op T x y (aev t x) (aev t y) = some v) : Sound P (.binOp op T x y U) t h n v [] n :=
  Sound.val fun _ _ U ρ Ro w a _ ht => by
    obtain ⟨r, h1, h2⟩ := run_abin (w := w) (rv_ev ht hx) (rv_ev ht hy) hv
    refine ⟨r, .inl ?_, h2⟩
    simp only [execOp]
    rw [Sem.run_bind, h1]
    rfl

theorem sound_un {op : UnOp} {T : TypeId} {x : Operand} (hx : okX x = true) (hv : aun op (aev t x) = some v) : Sound P (.unOp op T x) t h n v [] n :=
  Sound.val fun _ _ U ρ Ro w a _ ht => by
    have hr := rv_ev ht hx
    generalize aev t x = p at hv hr
    unfold aun at hv
    split at hv
    · injection hv with hv; subst hv
      have h1 := hr.inv_i
      exact ⟨_, .inl (by simp [execOp, h1, Op.unary, Op.intArith]), .i _ _⟩
    · injection hv with hv; subst hv
      have h1 := hr.inv_i
      exact ⟨_, .inl (by simp [execOp, h1, Op.unary, Op.intBits, bits]), .i _ _⟩
    · injection hv with hv; subst hv
      have h1 := hr.inv_b
      exact ⟨_, .inl (by simp [execOp, h1, Op.unary]), .b _⟩
    · cases hv

theorem sound_makeInterface {T : TypeId} {x : Operand} {k : Kind} (hx : okX x = true) (hk : kiT P T = some k) (hne : k ≠ .iface) : Sound P (.makeInterface T x) t h n (.ifc T (aev t x)) [] n :=
  Sound.val fun _ _ U ρ Ro w a _ ht => by
    obtain ⟨d, hd, _, _, _, h1⟩ := kiT_some hk
    refine ⟨.iface T (a.eval x), .inl ?_, .ifc _ _ _ (rv_ev ht hx)⟩
    simp only [execOp, Sem.run_bind, Instr.makeInterface, run_underlying hd, Result.andThen_ok]
    cases d <;> first | rfl | (exact absurd (h1.2 ⟨_, rfl⟩) hne)

theorem rvs_map {x : List Operand} (ht : RelT C t a) (hx : ∀ y ∈ x, okX y = true) : RVs C (x.map (aev t)) (x.map a.eval) :=
  ⟨by simp, fun k y v hy hv => by
    rw [List.getElem?_map] at hy hv
    cases hk : x[k]? with
    | none => rw [hk] at hy; cases hy
    | some z => rw [hk] at hy hv; simp at hy hv; subst hy; subst hv; exact rv_ev ht (hx z (List.mem_of_getElem? hk))⟩

theorem sound_makeFunc {f : Fn} {first cap : Array Operand} (ho : opOk (.makeFunc f first cap) = true) : Sound P (.makeFunc f first cap) t h n (.fn f (first.toList.map (aev t)) (cap.toList.map (aev t))) [] n :=
  Sound.val fun _ _ U ρ Ro w a _ ht => by
    have h1 := rvs_map ht (x := first.toList) (fun y hy => okX1 ho (by simp [Op.operands]; exact .inl (by simpa using hy)))
    have h2 := rvs_map ht (x := cap.toList) (fun y hy => okX1 ho (by simp [Op.operands]; exact .inr (by simpa using hy)))
    refine ⟨.func f (first.map a.eval) (cap.map a.eval), .inl (by simp [execOp, Instr.makeFunc]), .fn _ _ _ _ _ (by simp) (by simp) (fun k x v hx hv => h1.2 k x v hx ?_) (fun k x v hx hv => h2.2 k x v hx ?_)⟩
    · rw [← hv]; simp
    · rw [← hv]; simp

theorem sound_nilCheck {x : Operand} (hx : okX x = true) (hv : (aev t x = v ∧ ((∃ j off, v = .p j off) ∨ (∃ cs off, v = .q cs off) ∨ ∃ f p q, v = .fn (.func f) p q))) : Sound P (.nilCheck x) t h n v [] n :=
  Sound.val fun _ _ U ρ Ro w a _ ht => by
    obtain ⟨rfl, hv⟩ := hv
    have hr := rv_ev ht hx
    refine ⟨a.eval x, .inl ?_, hr⟩
    generalize aev t x = p at hv hr
    rcases hv with ⟨j, off, rfl⟩ | ⟨cs, off, rfl⟩ | ⟨f, p, q, rfl⟩
    · have h1 := hr.inv_p.2
      simp [execOp, h1]
    · obtain ⟨b, vs, h1, _⟩ := hr.inv_q
      simp [execOp, h1]
    · obtain ⟨vs, us, h1, _⟩ := hr.inv_fn
      simp [execOp, h1]

theorem sound_fieldAddr {T : TypeId} {x : Operand} {f off z : Nat} {g : Bool} (hx : okX x = true) (hf : flT P T f = some (off, z, g)) (hz : z ≠ 0)
    (hv : (∃ j o, aev t x = .p j o ∧ v = .p j (o + off)) ∨ (∃ cs o, aev t x = .q cs o ∧ v = .q cs (o + off))) : Sound P (.fieldAddr T x f) t h n v [] n :=
  Sound.val fun _ _ U ρ Ro w a _ ht => by
    obtain ⟨fs, fd, hu, hfd, rfl, hs, _⟩ := flT_some hf
    have hr := rv_ev ht hx
    have hplace : ∀ b : Addr, (fieldPlace b fd).run P w = .ok (b.add fd.offset) w := fun b => by simp [fieldPlace, run_sizeOf hs, hz]
    rcases hv with ⟨j, o, he, rfl⟩ | ⟨cs, o, he, rfl⟩
    · rw [he] at hr
      obtain ⟨hj, h1⟩ := hr.inv_p
      refine ⟨_, .inl (by simp [execOp, Instr.fieldAt, run_underlying hu, hfd, h1, Instr.sureAddr, hplace]; rfl), ?_⟩
      rw [Addr.add_lit]
      exact .p _ _ hj
    · rw [he] at hr
      obtain ⟨b, vs, hb, h1, h2, h3⟩ := hr.inv_q
      refine ⟨_, .inl (by simp [execOp, Instr.fieldAt, run_underlying hu, hfd, hb, Instr.sureAddr, hplace]; rfl), ?_⟩
      rw [add_add]
      exact .q _ _ _ vs h1 h2 h3

theorem sound_field {T : TypeId} {x : Operand} {f off z : Nat} {g : Bool} {cs : List AV} (hx : okX x = true) (hf : flT P T f = some (off, z, g)) (he : aev t x = .agg cs) (hv : part g cs off z = some v) : Sound P (.field T x f) t h n v [] n :=
  Sound.val fun _ _ U ρ Ro w a _ ht => by
    obtain ⟨fs, fd, hu, hfd, rfl, hs, hg⟩ := flT_some hf
    have hr := rv_ev ht hx
    rw [he] at hr
    obtain ⟨vs, h1, h2, h3, h4⟩ := hr.inv_agg
    obtain ⟨r, h5, h6⟩ := run_part (w := w) hg hs h2 h3 h4 hv
    exact ⟨r, .inl (by simp [execOp, Instr.field, run_underlying hu, hfd, h1, asAgg, h5]), h6⟩

theorem sound_extract {x : Operand} {i : Nat} {vs : List AV} (hx : okX x = true) (he : aev t x = .tup vs) (hv : vs[i]? = some v) : Sound P (.extract x i) t h n v [] n :=
  Sound.val fun _ _ U ρ Ro w a _ ht => by
    have hr := rv_ev ht hx
    rw [he] at hr
    obtain ⟨us, h1, h2, h3⟩ := hr.inv_tup
    have hlt : i < us.size := by
      rw [h2]
      rcases Nat.lt_or_ge i vs.length with h' | h'
      · exact h'
      · rw [List.getElem?_eq_none h'] at hv; cases hv
    have hu : us[i]? = some us[i] := Array.getElem?_eq_getElem hlt
    exact ⟨us[i], .inl (by simp [execOp, Instr.extract, h1, hu]), h3 i v _ hv hu⟩

theorem sound_load {T : TypeId} {x : Operand} (hx : okX x = true) (hv : aload P T h (aev t x) = some v) : Sound P (.load T x) t h n v [] n :=
  Sound.val fun _ _ U ρ Ro w a hrel ht => by
    have hr := rv_ev ht hx
    unfold aload at hv
    split at hv
    · rename_i g z cs off hg hz hp
      obtain ⟨b, hb, hc⟩ := hrel.read hr hp
      obtain ⟨r, h1, h2⟩ := run_loadVar_part (w := w) hg hz hc hv
      exact ⟨r, .inl (by simp [execOp, Instr.loadAt, hb, Instr.sureAddr, h1]), h2⟩
    · cases hv

theorem sound_indexAddr {T : TypeId} {x i : Operand} (hx : okX x = true) (hi : okX i = true) (hv : aindexAddr P T (aev t x) (aev t i) = some v) : Sound P (.indexAddr T x i) t h n v [] n :=
  Sound.val fun _ _ U ρ Ro w a hrel ht => by
    have hr := rv_ev ht hx
    have hri := rv_ev ht hi
    generalize aev t x = p at hv hr
    generalize aev t i = q at hv hri
    unfold aindexAddr at hv
    split at hv
    · rename_i k m
      have hm := hri.inv_i
      split at hv
      · rename_i sz j off len
        split at hv
        · rename_i e z b hs
          split at hv
          · rename_i hb
            injection hv with hv; subst hv
            obtain ⟨hu, hz, _⟩ := slT_some hs
            obtain ⟨cap, h1, h2, _⟩ := hr.inv_sl
            refine ⟨.pointer (some ((⟨(cx U ρ Ro w).ρ j, off, none⟩ : Addr).add (m.toNat * z))), .inl ?_, ?_⟩
            · simp [execOp, Instr.indexAt, hm, h1, asIntOf, run_underlying hu, run_sizeOf hz, hb.1, hb.2]
            · rw [Addr.add_lit]; exact .p _ _ h2
          · cases hv
        · cases hv
      · rename_i zz cs len
        split at hv
        · rename_i e z b hs
          split at hv
          · rename_i hb
            injection hv with hv; subst hv
            obtain ⟨hu, hz, _⟩ := slT_some hs
            cases zz with
            | true => have := hr.inv_ro1; omega
            | false =>
              obtain ⟨ad, cap, vs, hb', hl, hc, h1, h2, h3⟩ := hr.inv_ro0
              refine ⟨.pointer (some (ad.add (m.toNat * z))), .inl ?_, .q _ _ _ vs h1 h2 h3⟩
              simp [execOp, Instr.indexAt, hm, hb', asIntOf, run_underlying hu, run_sizeOf hz, hb.1, hb.2]
          · cases hv
        · cases hv
      · rename_i j off
        split at hv
        · rename_i len z g hs
          split at hv
          · rename_i hb
            injection hv with hv; subst hv
            obtain ⟨e, hu, hz, _⟩ := arT_some hs
            obtain ⟨h2, h1⟩ := hr.inv_p
            refine ⟨.pointer (some ((⟨(cx U ρ Ro w).ρ j, off, none⟩ : Addr).add (m.toNat * z))), .inl ?_, ?_⟩
            · simp [execOp, Instr.indexAt, hm, h1, asIntOf, run_underlying hu, run_sizeOf hz, Instr.sureAddr, hb.1, hb.2]
            · rw [Addr.add_lit]; exact .p _ _ h2
          · cases hv
        · cases hv
      · rename_i cs off
        split at hv
        · rename_i len z g hs
          split at hv
          · rename_i hb
            injection hv with hv; subst hv
            obtain ⟨e, hu, hz, _⟩ := arT_some hs
            obtain ⟨ad, vs, hb', h1, h2, h3⟩ := hr.inv_q
            refine ⟨.pointer (some ((ad.add off).add (m.toNat * z))), .inl ?_, ?_⟩
            · simp [execOp, Instr.indexAt, hm, hb', asIntOf, run_underlying hu, run_sizeOf hz, Instr.sureAddr, hb.1, hb.2]
            · rw [add_add]; exact .q _ _ _ vs h1 h2 h3
          · cases hv
        · cases hv
      · cases hv
    · cases hv

theorem sound_index {T : TypeId} {x i : Operand} (hx : okX x = true) (hi : okX i = true) (hv : aindex P T (aev t x) (aev t i) = some v) : Sound P (.index T x i) t h n v [] n :=
  Sound.val fun _ _ U ρ Ro w a hrel ht => by
    have hr := rv_ev ht hx
    have hri := rv_ev ht hi
    generalize aev t x = p at hv hr
    generalize aev t i = q at hv hri
    unfold aindex at hv
    split at hv
    · rename_i cs k m
      have hm := hri.inv_i
      split at hv
      · rename_i len z g hs
        split at hv
        · rename_i hb
          obtain ⟨e, hu, hz, hg⟩ := arT_some hs
          obtain ⟨vs, h1, h2, h3, h4⟩ := hr.inv_agg
          obtain ⟨r, h5, h6⟩ := run_part (w := w) hg hz h2 h3 h4 hv
          refine ⟨r, .inl ?_, h6⟩
          simp [execOp, Instr.index, hm, h1, asIntOf, run_underlying hu, run_sizeOf hz, hb.1, hb.2, h5]
        · cases hv
      · cases hv
    · rename_i u k m
      have hm := hri.inv_i
      have hs := hr.inv_s
      split at hv
      · rename_i hk
        obtain ⟨d, hd, _, _, h1, _⟩ := kiT_some hk
        obtain rfl := h1.1 rfl
        split at hv
        · rename_i hb
          injection hv with hv; subst hv
          have hlt : m.toNat < u.size := by omega
          refine ⟨.int .u8 (byteAt u m), .inl ?_, .i _ _⟩
          simp only [execOp, Instr.index, hm, hs, asIntOf, Sem.run_bind, Sem.run_pure, Result.andThen_ok, run_underlying hd]
          rw [if_pos hb.1]
          have hg : u[m.toNat]? = some u[m.toNat] := getElem?_pos u m.toNat hlt
          rw [hg]
          simp only [Sem.run_pure, Result.andThen_ok, byteAt]
          congr 3
          have : u.data.toList.getD m.toNat 0 = u[m.toNat] := by
            have hl : m.toNat < u.data.toList.length := by simpa using hlt
            rw [List.getD_eq_getElem?_getD, List.getElem?_eq_getElem hl]
            rfl
          rw [this]
        · cases hv
      · cases hv
    · cases hv

end Go.Av
