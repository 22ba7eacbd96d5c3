/- Steps through code, told shortly: the tactics that find the side conditions stand here once. -/
import Derived.Test.YtmkefpjpghmonaaGreatAwA

section
namespace Go.Av
variable {P : Program} {N : Nat} {n n' : Nat} {h h' h0 h1 : Heap} {t : Tmps} {e : Exit} {r : AV} {xs : List AV} {rs : List ResultVar} {n1 : Nat}

theorem pof {f : FuncId} {fn : Func} {c : Code} {args : List AV} (hf : P.funcs[f]? = some fn) (hw : ∀ h n, AWp P fn.ntmps c (inTmps args) h n (Out P fn n h r [] n)) (hb : fn.body = some c := by rfl) (hname : fn.name ≠ "runtime.NumGoroutine" := by decide) (hlen : args.length ≤ fn.ntmps := by exact Nat.le_of_ble_eq_true rfl) : PCalls P f args r :=
  fun h n => .of hf hb hname hlen (Nat.le_refl _) (hw h n)

/-- By the facts at hand. -/
theorem tr {p : Prop} (h : p := by (first | (simp only [push_cast, ↓reduceIte, Nat.reduceEqDiff, Nat.reduceAdd, Nat.reduceSub, Nat.reduceLeDiff, Nat.reduceLT, Int.reduceLE, Int.reduceLT, Int.reduceAdd, Int.reduceSub, Int.reduceNeg, Int.reduceBEq, Int.reduceBNe, Int.reduceEq, Int.reduceGT, Int.reduceGE, Int.reduceMul, Int.reduceToNat, Nat.reduceMul, reduceCtorEq, *] <;> rfl) | rfl)) : p := h
theorem ks {p : Prop} (h : p := by (repeat (first | with_reducible exact Keeps.refl | with_reducible assumption | refine Keeps.upd (by omega) ?_))) : p := h
theorem fr {p : Prop} (h : p := by (first | rfl | (simp only [push_cast, freeAll, AV.free, Bool.and_true, Bool.true_and, Bool.and_self, *] <;> rfl))) : p := h
theorem res1 {x : AV} : resOne [x] = x := rfl

theorem outP {fn : Func} (hl : fn.results = ⟨rs⟩ := by rfl) (hx : resAll P t h1 rs = some xs := by (simp only [resAll, resT, push_cast, ↓reduceIte, Nat.reduceEqDiff, Nat.reduceAdd, Nat.reduceSub, Nat.reduceLeDiff, Nat.reduceLT, Int.reduceLE, Int.reduceLT, Int.reduceAdd, Int.reduceSub, Int.reduceNeg, Int.reduceBEq, Int.reduceBNe, Int.reduceEq, Int.reduceGT, Int.reduceGE, Int.reduceMul, Int.reduceToNat, Nat.reduceMul, reduceCtorEq, *] <;> rfl)) (hr : resOne xs = r := by rfl) (he : e = .normal ∨ e = .ret := by (first | exact .inl rfl | exact .inr rfl)) (hn : r.names (· < n) := by (exact AV.free_names _ fr)) (hh : Keeps n h h1 := by (exact ks)) : Out P fn n h r [] n e t h1 n1 :=
  .pure he (by rw [hl]; exact hx) hr hn hh.k

/-- A row ahead of the new ones. -/
theorem apt {j n : Nat} (h : j < n) : ((j = n) = False) ∧ ((n = j) = False) ∧ ((j = n + 1) = False) ∧ ((n + 1 = j) = False) ∧ ((j = n + 1 + 1) = False) ∧ ((n + 1 + 1 = j) = False) ∧ ((j = n + 1 + 1 + 1) = False) ∧ ((n + 1 + 1 + 1 = j) = False) ∧ ((j = n + 1 + 1 + 1 + 1) = False) ∧ ((n + 1 + 1 + 1 + 1 = j) = False) ∧ ((j = n + 1 + 1 + 1 + 1 + 1) = False) ∧ ((n + 1 + 1 + 1 + 1 + 1 = j) = False) ∧ ((j = n + 1 + 1 + 1 + 1 + 1 + 1) = False) ∧ ((n + 1 + 1 + 1 + 1 + 1 + 1 = j) = False) ∧ ((j = n + 1 + 1 + 1 + 1 + 1 + 1 + 1) = False) ∧ ((n + 1 + 1 + 1 + 1 + 1 + 1 + 1 = j) = False) := by
  refine ⟨?_, ?_, ?_, ?_, ?_, ?_, ?_, ?_, ?_, ?_, ?_, ?_, ?_, ?_, ?_, ?_⟩ <;> simp only [eq_iff_iff, iff_false] <;> omega

/-- A function that comes back with a row of new memory, from its body. -/
theorem Out.freshR {fn : Func} {j : Nat} {R : AV} {cs : List AV} (hj : n ≤ j ∧ j < n1) (hr : h1 j = some (.cells cs)) (hc : freeAll cs = true) (he : e = .normal ∨ e = .ret) (hl : fn.results = ⟨rs⟩) (hx : resAll P t h1 rs = some xs)
    (hR : (resOne xs).ren (fun x => if x = j then n else x) = R) (hN : (resOne xs).names (· = j)) (hh : Keeps n h h1) : Out P fn n h R [(n, some (.cells cs))] (n + 1) e t h1 n1 := by
  refine ⟨he, xs, fun x => if x = j then n else x, fun _ => j, by rw [hl]; exact hx, ⟨Nat.le_succ _, fun x hl => ?_, fun x h2 h3 => ?_⟩, hR, AV.names_mono (fun x hxj => ?_) _ hN, fun x r hl h2 _ => hh.k x r hl h2, fun x r ht h2 => ?_⟩
  · exact if_neg (by omega)
  · refine ⟨hj.1, hj.2, ?_⟩
    simp only [if_true]; omega
  · exact .inr ⟨n, Nat.le_refl _, Nat.lt_succ_self _, hxj.symm⟩
  · obtain ⟨u, hu, hux⟩ := ht
    have : u = (n, some (.cells cs)) := by simpa using hu
    subst this
    subst hux
    rw [app_cons, app_nil, upd_same] at h2
    injection h2 with h2
    subst h2
    refine ⟨.inl ⟨Nat.le_refl _, Nat.lt_succ_self _⟩, .cells cs, ?_, ?_, freeAll_names cs hc⟩
    · simp only [oldNo, if_neg (Nat.lt_irrefl _)]; exact hr
    · simp only [Row.ren]; rw [renAll_free hc]
theorem fof {f : FuncId} {fn : Func} {c : Code} {args : List AV} {R : Nat → AV} {cs : List AV} (hf : P.funcs[f]? = some fn) (hw : ∀ h n, AWp P fn.ntmps c (inTmps args) h n (Out P fn n h (R n) [(n, some (.cells cs))] (n + 1))) (hc : freeAll cs = true := by (exact fr)) (h2 : ∀ b n, (R b).ren (fun x => if x = b then n else x) = R n := by (intro b n; simp [AV.ren, renAll])) (h3 : ∀ b, (R b).names (· = b) := by (intro b; simp [AV.names, namesAll])) (hb : fn.body = some c := by rfl) (hname : fn.name ≠ "runtime.NumGoroutine" := by decide) (hlen : args.length ≤ fn.ntmps := by exact Nat.le_of_ble_eq_true rfl) : FCalls P f args R cs :=
  ⟨hc, h2, h3, fun h n => .of hf hb hname hlen (Nat.le_succ _) (hw h n)⟩
theorem outF {fn : Func} {R : AV} {cs : List AV} (j : Nat) (hj : n ≤ j ∧ j < n1 := by omega) (hr : h1 j = some (.cells cs) := by (exact tr)) (hc : freeAll cs = true := by (exact fr)) (he : e = .normal ∨ e = .ret := by (first | exact .inl rfl | exact .inr rfl)) (hl : fn.results = ⟨rs⟩ := by rfl) (hx : resAll P t h1 rs = some xs := by (simp only [resAll, resT, push_cast, ↓reduceIte, Nat.reduceEqDiff, Nat.reduceAdd, Nat.reduceSub, Nat.reduceLeDiff, Nat.reduceLT, Int.reduceLE, Int.reduceLT, Int.reduceAdd, Int.reduceSub, Int.reduceNeg, Int.reduceBEq, Int.reduceBNe, Int.reduceEq, Int.reduceGT, Int.reduceGE, Int.reduceMul, Int.reduceToNat, Nat.reduceMul, reduceCtorEq, *] <;> rfl))
    (hR : (resOne xs).ren (fun x => if x = j then n else x) = R := by simp [resOne, AV.ren, renAll, *]) (hN : (resOne xs).names (· = j) := by simp [resOne, AV.names, namesAll]) (hh : Keeps n h h1 := by (exact ks)) : Out P fn n h R [(n, some (.cells cs))] (n + 1) e t h1 n1 := .freshR hj hr hc he hl hx hR hN hh

/-- So far by itself. -/
theorem go {A B : Prop} (hB : B) (k : Hid B → A := by
    intro hk
    (first
      | with_reducible refine AWp.seq ?_
      | ((with_reducible refine aw_vr ?_ ?_); (focus kernel_rfl))
      | ((with_reducible apply VR.callee); (focus (first | (simp only [push_cast, ↓reduceIte, Nat.reduceEqDiff, Nat.reduceAdd, Nat.reduceSub, Nat.reduceLeDiff, Nat.reduceLT, Int.reduceLE, Int.reduceLT, Int.reduceAdd, Int.reduceSub, Int.reduceNeg, Int.reduceBEq, Int.reduceBNe, Int.reduceEq, Int.reduceGT, Int.reduceGE, Int.reduceMul, Int.reduceToNat, Nat.reduceMul, reduceCtorEq, *] <;> rfl) | rfl)))
      | ((with_reducible apply VRC.pure); (focus (first | with_reducible assumption | exact Ct.pc)))
      | ((with_reducible apply VRC.ext); (focus (first | with_reducible assumption | exact Cx'.xc)))
      | ((with_reducible apply VRC.fresh); (focus (first | with_reducible assumption | exact Cf.fc)); (focus rfl))
      | ((with_reducible apply VRC.keep); (focus (first | (simp only [push_cast, ↓reduceIte, Nat.reduceEqDiff, Nat.reduceAdd, Nat.reduceSub, Nat.reduceLeDiff, Nat.reduceLT, Int.reduceLE, Int.reduceLT, Int.reduceAdd, Int.reduceSub, Int.reduceNeg, Int.reduceBEq, Int.reduceBNe, Int.reduceEq, Int.reduceGT, Int.reduceGE, Int.reduceMul, Int.reduceToNat, Nat.reduceMul, reduceCtorEq, *] <;> rfl) | rfl)); (focus (first | with_reducible assumption | exact Ct.pc)); (focus rfl))
      | ((with_reducible apply VRC.freshK); (focus (first | (simp only [push_cast, ↓reduceIte, Nat.reduceEqDiff, Nat.reduceAdd, Nat.reduceSub, Nat.reduceLeDiff, Nat.reduceLT, Int.reduceLE, Int.reduceLT, Int.reduceAdd, Int.reduceSub, Int.reduceNeg, Int.reduceBEq, Int.reduceBNe, Int.reduceEq, Int.reduceGT, Int.reduceGE, Int.reduceMul, Int.reduceToNat, Nat.reduceMul, reduceCtorEq, *] <;> rfl) | rfl)); (focus (first | with_reducible assumption | exact Cf.fc)); (focus rfl); (focus (first | rfl | (simp only [push_cast, flatAll, AV.flat, Bool.and_true, Bool.true_and, Bool.and_self, *] <;> rfl))); (focus rfl))
      | ((with_reducible apply VR.run); (focus (first | (simp only [push_cast, ↓reduceIte, Nat.reduceEqDiff, Nat.reduceAdd, Nat.reduceSub, Nat.reduceLeDiff, Nat.reduceLT, Int.reduceLE, Int.reduceLT, Int.reduceAdd, Int.reduceSub, Int.reduceNeg, Int.reduceBEq, Int.reduceBNe, Int.reduceEq, Int.reduceGT, Int.reduceGE, Int.reduceMul, Int.reduceToNat, Nat.reduceMul, reduceCtorEq, *] <;> rfl) | rfl)); (focus (first | with_reducible exact app_nil _ | (simp only [app_cons, app_nil] <;> rfl) | exact (rfl : app (swap _ _) _ = _))))
      | ((with_reducible apply VR.guard); (focus exact isD.mk rfl); (focus (first | (simp only [push_cast, ↓reduceIte, Nat.reduceEqDiff, Nat.reduceAdd, Nat.reduceSub, Nat.reduceLeDiff, Nat.reduceLT, Int.reduceLE, Int.reduceLT, Int.reduceAdd, Int.reduceSub, Int.reduceNeg, Int.reduceBEq, Int.reduceBNe, Int.reduceEq, Int.reduceGT, Int.reduceGE, Int.reduceMul, Int.reduceToNat, Nat.reduceMul, reduceCtorEq, *] <;> rfl) | rfl)); (first | with_reducible refine bv_tt ?_ | with_reducible refine bv_ff ?_ | with_reducible refine bv_tf ?_ | with_reducible refine bv_ft ?_ | with_reducible refine bv_no ?_))
      | with_reducible refine VR.nil ?_
      | with_reducible refine aw_then ?_
      | with_reducible refine aw_in ?_
      | with_reducible refine AWp.block ?_
      | with_reducible refine AWp.skip ?_
      | with_reducible refine AWp.ret ?_
      | with_reducible refine aw_exit ?_
      | with_reducible refine aw_thru ?_
      | ((with_reducible refine aw_past ?_ ?_); (focus decide))
      | with_reducible refine AWp.exit ?_
      | with_reducible refine AWr.round ?_
      | ((with_reducible refine aw_true ?_ ?_); (focus (first | (simp only [push_cast, ↓reduceIte, Nat.reduceEqDiff, Nat.reduceAdd, Nat.reduceSub, Nat.reduceLeDiff, Nat.reduceLT, Int.reduceLE, Int.reduceLT, Int.reduceAdd, Int.reduceSub, Int.reduceNeg, Int.reduceBEq, Int.reduceBNe, Int.reduceEq, Int.reduceGT, Int.reduceGE, Int.reduceMul, Int.reduceToNat, Nat.reduceMul, reduceCtorEq, *] <;> rfl) | rfl)))
      | ((with_reducible refine aw_false ?_ ?_); (focus (first | (simp only [push_cast, ↓reduceIte, Nat.reduceEqDiff, Nat.reduceAdd, Nat.reduceSub, Nat.reduceLeDiff, Nat.reduceLT, Int.reduceLE, Int.reduceLT, Int.reduceAdd, Int.reduceSub, Int.reduceNeg, Int.reduceBEq, Int.reduceBNe, Int.reduceEq, Int.reduceGT, Int.reduceGE, Int.reduceMul, Int.reduceToNat, Nat.reduceMul, reduceCtorEq, *] <;> rfl) | rfl))))
    repeat (first
      | with_reducible refine AWp.seq ?_
      | ((with_reducible refine aw_vr ?_ ?_); (focus kernel_rfl))
      | ((with_reducible apply VR.callee); (focus (first | (simp only [push_cast, ↓reduceIte, Nat.reduceEqDiff, Nat.reduceAdd, Nat.reduceSub, Nat.reduceLeDiff, Nat.reduceLT, Int.reduceLE, Int.reduceLT, Int.reduceAdd, Int.reduceSub, Int.reduceNeg, Int.reduceBEq, Int.reduceBNe, Int.reduceEq, Int.reduceGT, Int.reduceGE, Int.reduceMul, Int.reduceToNat, Nat.reduceMul, reduceCtorEq, *] <;> rfl) | rfl)))
      | ((with_reducible apply VRC.pure); (focus (first | with_reducible assumption | exact Ct.pc)))
      | ((with_reducible apply VRC.ext); (focus (first | with_reducible assumption | exact Cx'.xc)))
      | ((with_reducible apply VRC.fresh); (focus (first | with_reducible assumption | exact Cf.fc)); (focus rfl))
      | ((with_reducible apply VRC.keep); (focus (first | (simp only [push_cast, ↓reduceIte, Nat.reduceEqDiff, Nat.reduceAdd, Nat.reduceSub, Nat.reduceLeDiff, Nat.reduceLT, Int.reduceLE, Int.reduceLT, Int.reduceAdd, Int.reduceSub, Int.reduceNeg, Int.reduceBEq, Int.reduceBNe, Int.reduceEq, Int.reduceGT, Int.reduceGE, Int.reduceMul, Int.reduceToNat, Nat.reduceMul, reduceCtorEq, *] <;> rfl) | rfl)); (focus (first | with_reducible assumption | exact Ct.pc)); (focus rfl))
      | ((with_reducible apply VRC.freshK); (focus (first | (simp only [push_cast, ↓reduceIte, Nat.reduceEqDiff, Nat.reduceAdd, Nat.reduceSub, Nat.reduceLeDiff, Nat.reduceLT, Int.reduceLE, Int.reduceLT, Int.reduceAdd, Int.reduceSub, Int.reduceNeg, Int.reduceBEq, Int.reduceBNe, Int.reduceEq, Int.reduceGT, Int.reduceGE, Int.reduceMul, Int.reduceToNat, Nat.reduceMul, reduceCtorEq, *] <;> rfl) | rfl)); (focus (first | with_reducible assumption | exact Cf.fc)); (focus rfl); (focus (first | rfl | (simp only [push_cast, flatAll, AV.flat, Bool.and_true, Bool.true_and, Bool.and_self, *] <;> rfl))); (focus rfl))
      | ((with_reducible apply VR.run); (focus (first | (simp only [push_cast, ↓reduceIte, Nat.reduceEqDiff, Nat.reduceAdd, Nat.reduceSub, Nat.reduceLeDiff, Nat.reduceLT, Int.reduceLE, Int.reduceLT, Int.reduceAdd, Int.reduceSub, Int.reduceNeg, Int.reduceBEq, Int.reduceBNe, Int.reduceEq, Int.reduceGT, Int.reduceGE, Int.reduceMul, Int.reduceToNat, Nat.reduceMul, reduceCtorEq, *] <;> rfl) | rfl)); (focus (first | with_reducible exact app_nil _ | (simp only [app_cons, app_nil] <;> rfl) | exact (rfl : app (swap _ _) _ = _))))
      | ((with_reducible apply VR.guard); (focus exact isD.mk rfl); (focus (first | (simp only [push_cast, ↓reduceIte, Nat.reduceEqDiff, Nat.reduceAdd, Nat.reduceSub, Nat.reduceLeDiff, Nat.reduceLT, Int.reduceLE, Int.reduceLT, Int.reduceAdd, Int.reduceSub, Int.reduceNeg, Int.reduceBEq, Int.reduceBNe, Int.reduceEq, Int.reduceGT, Int.reduceGE, Int.reduceMul, Int.reduceToNat, Nat.reduceMul, reduceCtorEq, *] <;> rfl) | rfl)); (first | with_reducible refine bv_tt ?_ | with_reducible refine bv_ff ?_ | with_reducible refine bv_tf ?_ | with_reducible refine bv_ft ?_ | with_reducible refine bv_no ?_))
      | with_reducible refine VR.nil ?_
      | with_reducible refine aw_then ?_
      | with_reducible refine aw_in ?_
      | with_reducible refine AWp.block ?_
      | with_reducible refine AWp.skip ?_
      | with_reducible refine AWp.ret ?_
      | with_reducible refine aw_exit ?_
      | with_reducible refine aw_thru ?_
      | ((with_reducible refine aw_past ?_ ?_); (focus decide))
      | with_reducible refine AWp.exit ?_
      | with_reducible refine AWr.round ?_
      | ((with_reducible refine aw_true ?_ ?_); (focus (first | (simp only [push_cast, ↓reduceIte, Nat.reduceEqDiff, Nat.reduceAdd, Nat.reduceSub, Nat.reduceLeDiff, Nat.reduceLT, Int.reduceLE, Int.reduceLT, Int.reduceAdd, Int.reduceSub, Int.reduceNeg, Int.reduceBEq, Int.reduceBNe, Int.reduceEq, Int.reduceGT, Int.reduceGE, Int.reduceMul, Int.reduceToNat, Nat.reduceMul, reduceCtorEq, *] <;> rfl) | rfl)))
      | ((with_reducible refine aw_false ?_ ?_); (focus (first | (simp only [push_cast, ↓reduceIte, Nat.reduceEqDiff, Nat.reduceAdd, Nat.reduceSub, Nat.reduceLeDiff, Nat.reduceLT, Int.reduceLE, Int.reduceLT, Int.reduceAdd, Int.reduceSub, Int.reduceNeg, Int.reduceBEq, Int.reduceBNe, Int.reduceEq, Int.reduceGT, Int.reduceGE, Int.reduceMul, Int.reduceToNat, Nat.reduceMul, reduceCtorEq, *] <;> rfl) | rfl))))
    exact hk.get) : A := k ⟨hB⟩

/-- The same, but no round of a loop is begun, and nothing comes back. -/
theorem gon {A B : Prop} (hB : B) (k : Hid B → A := by
    intro hk
    (first
      | with_reducible refine AWp.seq ?_
      | ((with_reducible refine aw_vr ?_ ?_); (focus kernel_rfl))
      | ((with_reducible apply VR.callee); (focus (first | (simp only [push_cast, ↓reduceIte, Nat.reduceEqDiff, Nat.reduceAdd, Nat.reduceSub, Nat.reduceLeDiff, Nat.reduceLT, Int.reduceLE, Int.reduceLT, Int.reduceAdd, Int.reduceSub, Int.reduceNeg, Int.reduceBEq, Int.reduceBNe, Int.reduceEq, Int.reduceGT, Int.reduceGE, Int.reduceMul, Int.reduceToNat, Nat.reduceMul, reduceCtorEq, *] <;> rfl) | rfl)))
      | ((with_reducible apply VRC.pure); (focus (first | with_reducible assumption | exact Ct.pc)))
      | ((with_reducible apply VRC.ext); (focus (first | with_reducible assumption | exact Cx'.xc)))
      | ((with_reducible apply VRC.fresh); (focus (first | with_reducible assumption | exact Cf.fc)); (focus rfl))
      | ((with_reducible apply VRC.keep); (focus (first | (simp only [push_cast, ↓reduceIte, Nat.reduceEqDiff, Nat.reduceAdd, Nat.reduceSub, Nat.reduceLeDiff, Nat.reduceLT, Int.reduceLE, Int.reduceLT, Int.reduceAdd, Int.reduceSub, Int.reduceNeg, Int.reduceBEq, Int.reduceBNe, Int.reduceEq, Int.reduceGT, Int.reduceGE, Int.reduceMul, Int.reduceToNat, Nat.reduceMul, reduceCtorEq, *] <;> rfl) | rfl)); (focus (first | with_reducible assumption | exact Ct.pc)); (focus rfl))
      | ((with_reducible apply VRC.freshK); (focus (first | (simp only [push_cast, ↓reduceIte, Nat.reduceEqDiff, Nat.reduceAdd, Nat.reduceSub, Nat.reduceLeDiff, Nat.reduceLT, Int.reduceLE, Int.reduceLT, Int.reduceAdd, Int.reduceSub, Int.reduceNeg, Int.reduceBEq, Int.reduceBNe, Int.reduceEq, Int.reduceGT, Int.reduceGE, Int.reduceMul, Int.reduceToNat, Nat.reduceMul, reduceCtorEq, *] <;> rfl) | rfl)); (focus (first | with_reducible assumption | exact Cf.fc)); (focus rfl); (focus (first | rfl | (simp only [push_cast, flatAll, AV.flat, Bool.and_true, Bool.true_and, Bool.and_self, *] <;> rfl))); (focus rfl))
      | ((with_reducible apply VR.run); (focus (first | (simp only [push_cast, ↓reduceIte, Nat.reduceEqDiff, Nat.reduceAdd, Nat.reduceSub, Nat.reduceLeDiff, Nat.reduceLT, Int.reduceLE, Int.reduceLT, Int.reduceAdd, Int.reduceSub, Int.reduceNeg, Int.reduceBEq, Int.reduceBNe, Int.reduceEq, Int.reduceGT, Int.reduceGE, Int.reduceMul, Int.reduceToNat, Nat.reduceMul, reduceCtorEq, *] <;> rfl) | rfl)); (focus (first | with_reducible exact app_nil _ | (simp only [app_cons, app_nil] <;> rfl) | exact (rfl : app (swap _ _) _ = _))))
      | ((with_reducible apply VR.guard); (focus exact isD.mk rfl); (focus (first | (simp only [push_cast, ↓reduceIte, Nat.reduceEqDiff, Nat.reduceAdd, Nat.reduceSub, Nat.reduceLeDiff, Nat.reduceLT, Int.reduceLE, Int.reduceLT, Int.reduceAdd, Int.reduceSub, Int.reduceNeg, Int.reduceBEq, Int.reduceBNe, Int.reduceEq, Int.reduceGT, Int.reduceGE, Int.reduceMul, Int.reduceToNat, Nat.reduceMul, reduceCtorEq, *] <;> rfl) | rfl)); (first | with_reducible refine bv_tt ?_ | with_reducible refine bv_ff ?_ | with_reducible refine bv_tf ?_ | with_reducible refine bv_ft ?_ | with_reducible refine bv_no ?_))
      | with_reducible refine VR.nil ?_
      | with_reducible refine aw_then ?_
      | with_reducible refine aw_in ?_
      | with_reducible refine AWp.block ?_
      | with_reducible refine AWp.skip ?_
      | with_reducible refine aw_exit ?_
      | with_reducible refine aw_thru ?_
      | ((with_reducible refine aw_past ?_ ?_); (focus decide))
      | with_reducible refine AWp.exit ?_
      | ((with_reducible refine aw_true ?_ ?_); (focus (first | (simp only [push_cast, ↓reduceIte, Nat.reduceEqDiff, Nat.reduceAdd, Nat.reduceSub, Nat.reduceLeDiff, Nat.reduceLT, Int.reduceLE, Int.reduceLT, Int.reduceAdd, Int.reduceSub, Int.reduceNeg, Int.reduceBEq, Int.reduceBNe, Int.reduceEq, Int.reduceGT, Int.reduceGE, Int.reduceMul, Int.reduceToNat, Nat.reduceMul, reduceCtorEq, *] <;> rfl) | rfl)))
      | ((with_reducible refine aw_false ?_ ?_); (focus (first | (simp only [push_cast, ↓reduceIte, Nat.reduceEqDiff, Nat.reduceAdd, Nat.reduceSub, Nat.reduceLeDiff, Nat.reduceLT, Int.reduceLE, Int.reduceLT, Int.reduceAdd, Int.reduceSub, Int.reduceNeg, Int.reduceBEq, Int.reduceBNe, Int.reduceEq, Int.reduceGT, Int.reduceGE, Int.reduceMul, Int.reduceToNat, Nat.reduceMul, reduceCtorEq, *] <;> rfl) | rfl))))
    repeat (first
      | with_reducible refine AWp.seq ?_
      | ((with_reducible refine aw_vr ?_ ?_); (focus kernel_rfl))
      | ((with_reducible apply VR.callee); (focus (first | (simp only [push_cast, ↓reduceIte, Nat.reduceEqDiff, Nat.reduceAdd, Nat.reduceSub, Nat.reduceLeDiff, Nat.reduceLT, Int.reduceLE, Int.reduceLT, Int.reduceAdd, Int.reduceSub, Int.reduceNeg, Int.reduceBEq, Int.reduceBNe, Int.reduceEq, Int.reduceGT, Int.reduceGE, Int.reduceMul, Int.reduceToNat, Nat.reduceMul, reduceCtorEq, *] <;> rfl) | rfl)))
      | ((with_reducible apply VRC.pure); (focus (first | with_reducible assumption | exact Ct.pc)))
      | ((with_reducible apply VRC.ext); (focus (first | with_reducible assumption | exact Cx'.xc)))
      | ((with_reducible apply VRC.fresh); (focus (first | with_reducible assumption | exact Cf.fc)); (focus rfl))
      | ((with_reducible apply VRC.keep); (focus (first | (simp only [push_cast, ↓reduceIte, Nat.reduceEqDiff, Nat.reduceAdd, Nat.reduceSub, Nat.reduceLeDiff, Nat.reduceLT, Int.reduceLE, Int.reduceLT, Int.reduceAdd, Int.reduceSub, Int.reduceNeg, Int.reduceBEq, Int.reduceBNe, Int.reduceEq, Int.reduceGT, Int.reduceGE, Int.reduceMul, Int.reduceToNat, Nat.reduceMul, reduceCtorEq, *] <;> rfl) | rfl)); (focus (first | with_reducible assumption | exact Ct.pc)); (focus rfl))
      | ((with_reducible apply VRC.freshK); (focus (first | (simp only [push_cast, ↓reduceIte, Nat.reduceEqDiff, Nat.reduceAdd, Nat.reduceSub, Nat.reduceLeDiff, Nat.reduceLT, Int.reduceLE, Int.reduceLT, Int.reduceAdd, Int.reduceSub, Int.reduceNeg, Int.reduceBEq, Int.reduceBNe, Int.reduceEq, Int.reduceGT, Int.reduceGE, Int.reduceMul, Int.reduceToNat, Nat.reduceMul, reduceCtorEq, *] <;> rfl) | rfl)); (focus (first | with_reducible assumption | exact Cf.fc)); (focus rfl); (focus (first | rfl | (simp only [push_cast, flatAll, AV.flat, Bool.and_true, Bool.true_and, Bool.and_self, *] <;> rfl))); (focus rfl))
      | ((with_reducible apply VR.run); (focus (first | (simp only [push_cast, ↓reduceIte, Nat.reduceEqDiff, Nat.reduceAdd, Nat.reduceSub, Nat.reduceLeDiff, Nat.reduceLT, Int.reduceLE, Int.reduceLT, Int.reduceAdd, Int.reduceSub, Int.reduceNeg, Int.reduceBEq, Int.reduceBNe, Int.reduceEq, Int.reduceGT, Int.reduceGE, Int.reduceMul, Int.reduceToNat, Nat.reduceMul, reduceCtorEq, *] <;> rfl) | rfl)); (focus (first | with_reducible exact app_nil _ | (simp only [app_cons, app_nil] <;> rfl) | exact (rfl : app (swap _ _) _ = _))))
      | ((with_reducible apply VR.guard); (focus exact isD.mk rfl); (focus (first | (simp only [push_cast, ↓reduceIte, Nat.reduceEqDiff, Nat.reduceAdd, Nat.reduceSub, Nat.reduceLeDiff, Nat.reduceLT, Int.reduceLE, Int.reduceLT, Int.reduceAdd, Int.reduceSub, Int.reduceNeg, Int.reduceBEq, Int.reduceBNe, Int.reduceEq, Int.reduceGT, Int.reduceGE, Int.reduceMul, Int.reduceToNat, Nat.reduceMul, reduceCtorEq, *] <;> rfl) | rfl)); (first | with_reducible refine bv_tt ?_ | with_reducible refine bv_ff ?_ | with_reducible refine bv_tf ?_ | with_reducible refine bv_ft ?_ | with_reducible refine bv_no ?_))
      | with_reducible refine VR.nil ?_
      | with_reducible refine aw_then ?_
      | with_reducible refine aw_in ?_
      | with_reducible refine AWp.block ?_
      | with_reducible refine AWp.skip ?_
      | with_reducible refine aw_exit ?_
      | with_reducible refine aw_thru ?_
      | ((with_reducible refine aw_past ?_ ?_); (focus decide))
      | with_reducible refine AWp.exit ?_
      | ((with_reducible refine aw_true ?_ ?_); (focus (first | (simp only [push_cast, ↓reduceIte, Nat.reduceEqDiff, Nat.reduceAdd, Nat.reduceSub, Nat.reduceLeDiff, Nat.reduceLT, Int.reduceLE, Int.reduceLT, Int.reduceAdd, Int.reduceSub, Int.reduceNeg, Int.reduceBEq, Int.reduceBNe, Int.reduceEq, Int.reduceGT, Int.reduceGE, Int.reduceMul, Int.reduceToNat, Nat.reduceMul, reduceCtorEq, *] <;> rfl) | rfl)))
      | ((with_reducible refine aw_false ?_ ?_); (focus (first | (simp only [push_cast, ↓reduceIte, Nat.reduceEqDiff, Nat.reduceAdd, Nat.reduceSub, Nat.reduceLeDiff, Nat.reduceLT, Int.reduceLE, Int.reduceLT, Int.reduceAdd, Int.reduceSub, Int.reduceNeg, Int.reduceBEq, Int.reduceBNe, Int.reduceEq, Int.reduceGT, Int.reduceGE, Int.reduceMul, Int.reduceToNat, Nat.reduceMul, reduceCtorEq, *] <;> rfl) | rfl))))
    exact hk.get) : A := k ⟨hB⟩

/-- One region. -/
theorem rg {A B : Prop} (hB : B) (k : Hid B → A := by
    intro hk
    (first
      | ((with_reducible refine aw_vr ?_ ?_); (focus kernel_rfl))
      | ((with_reducible apply VR.callee); (focus (first | (simp only [push_cast, ↓reduceIte, Nat.reduceEqDiff, Nat.reduceAdd, Nat.reduceSub, Nat.reduceLeDiff, Nat.reduceLT, Int.reduceLE, Int.reduceLT, Int.reduceAdd, Int.reduceSub, Int.reduceNeg, Int.reduceBEq, Int.reduceBNe, Int.reduceEq, Int.reduceGT, Int.reduceGE, Int.reduceMul, Int.reduceToNat, Nat.reduceMul, reduceCtorEq, *] <;> rfl) | rfl)))
      | ((with_reducible apply VRC.pure); (focus (first | with_reducible assumption | exact Ct.pc)))
      | ((with_reducible apply VRC.ext); (focus (first | with_reducible assumption | exact Cx'.xc)))
      | ((with_reducible apply VRC.fresh); (focus (first | with_reducible assumption | exact Cf.fc)); (focus rfl))
      | ((with_reducible apply VRC.keep); (focus (first | (simp only [push_cast, ↓reduceIte, Nat.reduceEqDiff, Nat.reduceAdd, Nat.reduceSub, Nat.reduceLeDiff, Nat.reduceLT, Int.reduceLE, Int.reduceLT, Int.reduceAdd, Int.reduceSub, Int.reduceNeg, Int.reduceBEq, Int.reduceBNe, Int.reduceEq, Int.reduceGT, Int.reduceGE, Int.reduceMul, Int.reduceToNat, Nat.reduceMul, reduceCtorEq, *] <;> rfl) | rfl)); (focus (first | with_reducible assumption | exact Ct.pc)); (focus rfl))
      | ((with_reducible apply VRC.freshK); (focus (first | (simp only [push_cast, ↓reduceIte, Nat.reduceEqDiff, Nat.reduceAdd, Nat.reduceSub, Nat.reduceLeDiff, Nat.reduceLT, Int.reduceLE, Int.reduceLT, Int.reduceAdd, Int.reduceSub, Int.reduceNeg, Int.reduceBEq, Int.reduceBNe, Int.reduceEq, Int.reduceGT, Int.reduceGE, Int.reduceMul, Int.reduceToNat, Nat.reduceMul, reduceCtorEq, *] <;> rfl) | rfl)); (focus (first | with_reducible assumption | exact Cf.fc)); (focus rfl); (focus (first | rfl | (simp only [push_cast, flatAll, AV.flat, Bool.and_true, Bool.true_and, Bool.and_self, *] <;> rfl))); (focus rfl))
      | ((with_reducible apply VR.run); (focus (first | (simp only [push_cast, ↓reduceIte, Nat.reduceEqDiff, Nat.reduceAdd, Nat.reduceSub, Nat.reduceLeDiff, Nat.reduceLT, Int.reduceLE, Int.reduceLT, Int.reduceAdd, Int.reduceSub, Int.reduceNeg, Int.reduceBEq, Int.reduceBNe, Int.reduceEq, Int.reduceGT, Int.reduceGE, Int.reduceMul, Int.reduceToNat, Nat.reduceMul, reduceCtorEq, *] <;> rfl) | rfl)); (focus (first | with_reducible exact app_nil _ | (simp only [app_cons, app_nil] <;> rfl) | exact (rfl : app (swap _ _) _ = _))))
      | ((with_reducible apply VR.guard); (focus exact isD.mk rfl); (focus (first | (simp only [push_cast, ↓reduceIte, Nat.reduceEqDiff, Nat.reduceAdd, Nat.reduceSub, Nat.reduceLeDiff, Nat.reduceLT, Int.reduceLE, Int.reduceLT, Int.reduceAdd, Int.reduceSub, Int.reduceNeg, Int.reduceBEq, Int.reduceBNe, Int.reduceEq, Int.reduceGT, Int.reduceGE, Int.reduceMul, Int.reduceToNat, Nat.reduceMul, reduceCtorEq, *] <;> rfl) | rfl)); (first | with_reducible refine bv_tt ?_ | with_reducible refine bv_ff ?_ | with_reducible refine bv_tf ?_ | with_reducible refine bv_ft ?_ | with_reducible refine bv_no ?_))
      | with_reducible refine VR.nil ?_
      | with_reducible refine aw_then ?_)
    repeat (first
      | ((with_reducible refine aw_vr ?_ ?_); (focus kernel_rfl))
      | ((with_reducible apply VR.callee); (focus (first | (simp only [push_cast, ↓reduceIte, Nat.reduceEqDiff, Nat.reduceAdd, Nat.reduceSub, Nat.reduceLeDiff, Nat.reduceLT, Int.reduceLE, Int.reduceLT, Int.reduceAdd, Int.reduceSub, Int.reduceNeg, Int.reduceBEq, Int.reduceBNe, Int.reduceEq, Int.reduceGT, Int.reduceGE, Int.reduceMul, Int.reduceToNat, Nat.reduceMul, reduceCtorEq, *] <;> rfl) | rfl)))
      | ((with_reducible apply VRC.pure); (focus (first | with_reducible assumption | exact Ct.pc)))
      | ((with_reducible apply VRC.ext); (focus (first | with_reducible assumption | exact Cx'.xc)))
      | ((with_reducible apply VRC.fresh); (focus (first | with_reducible assumption | exact Cf.fc)); (focus rfl))
      | ((with_reducible apply VRC.keep); (focus (first | (simp only [push_cast, ↓reduceIte, Nat.reduceEqDiff, Nat.reduceAdd, Nat.reduceSub, Nat.reduceLeDiff, Nat.reduceLT, Int.reduceLE, Int.reduceLT, Int.reduceAdd, Int.reduceSub, Int.reduceNeg, Int.reduceBEq, Int.reduceBNe, Int.reduceEq, Int.reduceGT, Int.reduceGE, Int.reduceMul, Int.reduceToNat, Nat.reduceMul, reduceCtorEq, *] <;> rfl) | rfl)); (focus (first | with_reducible assumption | exact Ct.pc)); (focus rfl))
      | ((with_reducible apply VRC.freshK); (focus (first | (simp only [push_cast, ↓reduceIte, Nat.reduceEqDiff, Nat.reduceAdd, Nat.reduceSub, Nat.reduceLeDiff, Nat.reduceLT, Int.reduceLE, Int.reduceLT, Int.reduceAdd, Int.reduceSub, Int.reduceNeg, Int.reduceBEq, Int.reduceBNe, Int.reduceEq, Int.reduceGT, Int.reduceGE, Int.reduceMul, Int.reduceToNat, Nat.reduceMul, reduceCtorEq, *] <;> rfl) | rfl)); (focus (first | with_reducible assumption | exact Cf.fc)); (focus rfl); (focus (first | rfl | (simp only [push_cast, flatAll, AV.flat, Bool.and_true, Bool.true_and, Bool.and_self, *] <;> rfl))); (focus rfl))
      | ((with_reducible apply VR.run); (focus (first | (simp only [push_cast, ↓reduceIte, Nat.reduceEqDiff, Nat.reduceAdd, Nat.reduceSub, Nat.reduceLeDiff, Nat.reduceLT, Int.reduceLE, Int.reduceLT, Int.reduceAdd, Int.reduceSub, Int.reduceNeg, Int.reduceBEq, Int.reduceBNe, Int.reduceEq, Int.reduceGT, Int.reduceGE, Int.reduceMul, Int.reduceToNat, Nat.reduceMul, reduceCtorEq, *] <;> rfl) | rfl)); (focus (first | with_reducible exact app_nil _ | (simp only [app_cons, app_nil] <;> rfl) | exact (rfl : app (swap _ _) _ = _))))
      | ((with_reducible apply VR.guard); (focus exact isD.mk rfl); (focus (first | (simp only [push_cast, ↓reduceIte, Nat.reduceEqDiff, Nat.reduceAdd, Nat.reduceSub, Nat.reduceLeDiff, Nat.reduceLT, Int.reduceLE, Int.reduceLT, Int.reduceAdd, Int.reduceSub, Int.reduceNeg, Int.reduceBEq, Int.reduceBNe, Int.reduceEq, Int.reduceGT, Int.reduceGE, Int.reduceMul, Int.reduceToNat, Nat.reduceMul, reduceCtorEq, *] <;> rfl) | rfl)); (first | with_reducible refine bv_tt ?_ | with_reducible refine bv_ff ?_ | with_reducible refine bv_tf ?_ | with_reducible refine bv_ft ?_ | with_reducible refine bv_no ?_))
      | with_reducible refine VR.nil ?_
      | with_reducible refine aw_then ?_)
    exact hk.get) : A := k ⟨hB⟩

/-- One drawn region by itself. -/
theorem drg (id : Nat) (B W : List Nat) {A X : Prop} (hX : X) (k : Hid X → DrT id B W A := by
    intro hk
    with_reducible refine aw_vd mixed ?_ ?_ ?_
    focus kernel_rfl
    focus kernel_rfl
    repeat (first
      | ((with_reducible apply VD.callee); (focus (first | (simp only [push_cast, ↓reduceIte, Nat.reduceEqDiff, Nat.reduceAdd, Nat.reduceSub, Nat.reduceLeDiff, Nat.reduceLT, Int.reduceLE, Int.reduceLT, Int.reduceAdd, Int.reduceSub, Int.reduceNeg, Int.reduceBEq, Int.reduceBNe, Int.reduceEq, Int.reduceGT, Int.reduceGE, Int.reduceMul, Int.reduceToNat, Nat.reduceMul, reduceCtorEq, *] <;> rfl) | rfl)))
      | ((with_reducible apply VDC.pure); (focus (first | with_reducible assumption | exact Ct.pc)))
      | ((with_reducible apply VDC.ext); (focus (first | with_reducible assumption | exact Cx'.xc)))
      | ((with_reducible apply VDC.fresh); (focus (first | with_reducible assumption | exact Cf.fc)))
      | ((with_reducible apply VDC.keep); (focus ((repeat (first | rewrite [hpL_t rfl] | rewrite [hpL_f rfl])); (simp only [hpL, app_cons, app_nil, if_true] <;> rfl))); (focus (first | (simp only [push_cast, ↓reduceIte, Nat.reduceEqDiff, Nat.reduceAdd, Nat.reduceSub, Nat.reduceLeDiff, Nat.reduceLT, Int.reduceLE, Int.reduceLT, Int.reduceAdd, Int.reduceSub, Int.reduceNeg, Int.reduceBEq, Int.reduceBNe, Int.reduceEq, Int.reduceGT, Int.reduceGE, Int.reduceMul, Int.reduceToNat, Nat.reduceMul, reduceCtorEq, *] <;> rfl) | rfl)); (focus (first | with_reducible assumption | exact Ct.pc)); (focus rfl))
      | ((with_reducible apply VD.val); (focus rfl); (focus (simp only [push_cast, ↓reduceIte, Nat.reduceEqDiff, Nat.reduceAdd, Nat.reduceSub, Nat.reduceLeDiff, Nat.reduceLT, Int.reduceLE, Int.reduceLT, Int.reduceAdd, Int.reduceSub, Int.reduceNeg, Int.reduceBEq, Int.reduceBNe, Int.reduceEq, Int.reduceGT, Int.reduceGE, Int.reduceMul, Int.reduceToNat, Nat.reduceMul, reduceCtorEq, *] <;> rfl)))
      | ((with_reducible apply VD.run); (focus rfl); (focus ((repeat (first | rewrite [hpL_t rfl] | rewrite [hpL_f rfl])); (simp only [hpL, app_cons, app_nil, if_true] <;> rfl))); (focus (simp only [push_cast, ↓reduceIte, Nat.reduceEqDiff, Nat.reduceAdd, Nat.reduceSub, Nat.reduceLeDiff, Nat.reduceLT, Int.reduceLE, Int.reduceLT, Int.reduceAdd, Int.reduceSub, Int.reduceNeg, Int.reduceBEq, Int.reduceBNe, Int.reduceEq, Int.reduceGT, Int.reduceGE, Int.reduceMul, Int.reduceToNat, Nat.reduceMul, reduceCtorEq, *] <;> rfl)); (focus (first | with_reducible exact aft0 | ((refine aft1 ?_ ?_); (focus omega); (focus (intro u hu; simp only [List.mem_cons, List.not_mem_nil, or_false] at hu; rcases hu with rfl | rfl | rfl <;> simp only <;> omega))) | ((refine aft2 ?_ ?_ ?_); (focus decide); (focus omega); (focus (intro u hu; simp only [List.mem_cons, List.not_mem_nil, or_false] at hu; rcases hu with rfl | rfl | rfl <;> simp only <;> omega))))))
      | ((with_reducible apply VD.guard); (focus exact isD.mk rfl); (focus (first | (simp only [push_cast, ↓reduceIte, Nat.reduceEqDiff, Nat.reduceAdd, Nat.reduceSub, Nat.reduceLeDiff, Nat.reduceLT, Int.reduceLE, Int.reduceLT, Int.reduceAdd, Int.reduceSub, Int.reduceNeg, Int.reduceBEq, Int.reduceBNe, Int.reduceEq, Int.reduceGT, Int.reduceGE, Int.reduceMul, Int.reduceToNat, Nat.reduceMul, reduceCtorEq, *] <;> rfl) | rfl)); (first | with_reducible refine bv_tt ?_ | with_reducible refine bv_ff ?_ | with_reducible refine bv_tf ?_ | with_reducible refine bv_ft ?_ | with_reducible refine bv_no ?_)))
    with_reducible apply VD.nil
    focus ((repeat (first | rewrite [hpL_t rfl] | rewrite [hpL_f rfl])); (simp only [hpL, app_cons, app_nil, if_true] <;> rfl))
    exact hk.get) : A := k ⟨hX⟩

end Go.Av
end
