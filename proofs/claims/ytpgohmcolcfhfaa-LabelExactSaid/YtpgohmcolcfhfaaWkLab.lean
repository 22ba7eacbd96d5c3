import Derived.Test.YtpgohmcolcfhfaaWkFolds
import Derived.Test.YtpgohmcolcfhfaaWkChop

namespace Go.Proofs.Ytpgohmcolcfhfaa
open Go.Av
set_option maxRecDepth 100000
set_option maxHeartbeats 1000000
set_option linter.unusedSimpArgs false
set_option linter.unusedVariables false
attribute [local push_cast] stepE callR resE aeff aev ofC ofC1 put_at Av.put_none inTmps List.getD_cons_zero List.getD_cons_succ AV.boxable if_true if_false AV.cells aload place app_cons app_nil upd_same Av.part abin aconv aindexAddr fillA splice_one splice_two abuiltin alen amax amin aun aindex Option.map_some List.map_cons List.map_nil List.nil_append List.append_nil List.cons_append Nat.le_refl Nat.zero_add List.length_cons List.length_nil List.drop_succ_cons List.drop_zero List.take_succ_cons List.take_zero beq_self_eq_true bne_self_eq_false Bool.not_true Bool.not_false List.set_cons_zero List.set_cons_succ Bool.false_eq_true IntWalk.i64_in decide_true decide_false Int.toNat_zero and_self and_true true_and List.getElem?_cons_zero List.getElem?_cons_succ agT_26 szT_26 slT_24 agT_24 szT_24 flT_26_0 flT_26_1 flT_26_3 flT_26_2 agT_22 szT_22 arT_22 agT_3 szT_3 kiT_3 kiT_23 kiT_4 zeT_26 buT_26 zeT_22 buT_22 kiT_9 kiT_51 kiT_5 und_51 slT_51 agT_5 szT_5 aappend aapp view slT_24 zeT_3 byT_24 Bool.and_true Bool.true_and Nat.mul_one alen

def M0 : Sums := Sums.none
theorem ok_M0 : SumOk Try.prog M0 := SumOk.none
def M1 : Sums := M0.addP 26 (fun args => match args with | [.s s] => if s.size ≤ 5000 then some (.s (foldS s)) else none | _ => none)
theorem ok_M1 : SumOk Try.prog M1 := by
  refine ok_M0.addP (fun args r hr => ?_)
  split at hr
  · split at hr
    · rename_i hc; injection hr with hr; subst hr; exact c26 _ (by omega) _ ok_M0
    · cases hr
  · cases hr
def M2 : Sums := M1.addP 27 (fun args => match args with | [.s s, .s t] => if s.size ≤ 5000 ∧ t.size ≤ 5000 then some (.b (sameS s t)) else none | _ => none)
theorem ok_M2 : SumOk Try.prog M2 := by
  refine ok_M1.addP (fun args r hr => ?_)
  split at hr
  · split at hr
    · rename_i hc; injection hr with hr; subst hr; exact c27 _ _ _ ok_M1 (fun h => by simp [M1, Sums.addP, hc.1]) (fun h => by simp [M1, Sums.addP, hc.2])
    · cases hr
  · cases hr
def M3 : Sums := M2.addP 47 (fun args => match args with | [.i .i32 r] => some (.b (plainN r)) | _ => none)
theorem ok_M3 : SumOk Try.prog M3 := by
  refine ok_M2.addP (fun args r hr => ?_)
  split at hr
  · injection hr with hr; subst hr; exact c47 _ _ ok_M2
  · cases hr
def M4 : Sums := M3.addP 24 (fun args => match args with | [.s s] => if s.size ≤ 5000 then some (.i .i64 (if chkL (runesL s 0) then 0 else 8)) else none | _ => none)
theorem ok_M4 : SumOk Try.prog M4 := by
  refine ok_M3.addP (fun args r hr => ?_)
  split at hr
  · split at hr
    · rename_i hc; injection hr with hr; subst hr; exact c24 _ (by omega) _ ok_M3 (fun _ _ => rfl)
    · cases hr
  · cases hr
def M5 : Sums := M4.addP 23 (fun args => match args with | [.s s] => if s.size ≤ 5000 then some (.i .i64 (runesFrom s 0 : Nat)) else none | _ => none)
theorem ok_M5 : SumOk Try.prog M5 := by
  refine ok_M4.addP (fun args r hr => ?_)
  split at hr
  · split at hr
    · rename_i hc; injection hr with hr; subst hr; exact c23 _ (by omega) _ ok_M4
    · cases hr
  · cases hr
def M6 : Sums := M5.addP 25 (fun args => match args with | [] => some (.b true) | _ => none)
theorem ok_M6 : SumOk Try.prog M6 := by
  refine ok_M5.addP (fun args r hr => ?_)
  split at hr
  · injection hr with hr; subst hr
    exact c25 _ ok_M5 (fun s h hz => by simp [M5, Sums.addP, (by omega : s.size ≤ 5000)]) (fun s h hz => by simp [M5, M4, Sums.addP, (by omega : s.size ≤ 5000)]) (fun s t h hz hz' => by simp [M5, M4, M3, M2, Sums.addP, (by omega : s.size ≤ 5000), (by omega : t.size ≤ 5000)])
  · cases hr
def M7 : Sums := M6.addP 31 (fun args => match args with | [.s s, .i .i64 x] => if s.size ≤ 5000 ∧ x ≤ 9223372036854775807 then some (.s (cutS s x)) else none | _ => none)
theorem ok_M7 : SumOk Try.prog M7 := by
  refine ok_M6.addP (fun args r hr => ?_)
  split at hr
  · split at hr
    · rename_i hc; injection hr with hr; subst hr; exact c31 _ _ (by omega) hc.2 _ ok_M6
    · cases hr
  · cases hr
theorem mt23 (s : ByteArray) (h : Heap) (hz : s.size ≤ 5000) : M7 23 [.s s] h = .pure (.i .i64 (runesFrom s 0 : Nat)) := by simp [M7, M6, M5, Sums.addP, hz]
theorem mt24 (s : ByteArray) (h : Heap) (hz : s.size ≤ 5000) : M7 24 [.s s] h = .pure (.i .i64 (if chkL (runesL s 0) then 0 else 8)) := by simp [M7, M6, M5, M4, Sums.addP, hz]
theorem mt26 (s : ByteArray) (h : Heap) (hz : s.size ≤ 5000) : M7 26 [.s s] h = .pure (.s (foldS s)) := by simp [M7, M6, M5, M4, M3, M2, M1, Sums.addP, hz]
theorem mt27 (s t : ByteArray) (h : Heap) (hz : s.size ≤ 5000) (hz' : t.size ≤ 5000) : M7 27 [.s s, .s t] h = .pure (.b (sameS s t)) := by simp [M7, M6, M5, M4, M3, M2, Sums.addP, hz, hz']
theorem mt25 (h : Heap) : M7 25 [] h = .pure (.b true) := rfl
theorem mt31 (s : ByteArray) (x : Int) (h : Heap) (hz : s.size ≤ 5000) (hx : x ≤ 9223372036854775807) : M7 31 [.s s, .i .i64 x] h = .pure (.s (cutS s x)) := by simp [M7, Sums.addP, hz, hx]
theorem i64_wf {x : Int} (h : (Lit.int .i64 x).wf = true) : -9223372036854775808 ≤ x ∧ x ≤ 9223372036854775807 := by
  simp only [Lit.wf, IntKind.min, IntKind.max, IntKind.signed, IntKind.bits, Bool.and_eq_true, decide_eq_true_eq, if_true] at h
  omega
theorem cutS_le (s : ByteArray) (x : Int) : (cutS s x).size ≤ s.size := by simp [cutS]; omega
theorem cutS_pre (s : ByteArray) (x : Int) : s.extract 0 (cutS s x).size = cutS s x := by
  apply bs_inj
  have h1 : bs (cutS s x) = (bs s).take (cutAt s 0 x) := by rw [cutS, bs_extract]
  have h2 : (cutS s x).size = min (cutAt s 0 x) (bs s).length := by rw [← bs_size, h1, List.length_take]
  rw [bs_extract, h1, h2, List.take_eq_take_iff]
  omega
end Go.Proofs.Ytpgohmcolcfhfaa
