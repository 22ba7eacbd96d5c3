import Derived.Test.YtpgohmcolcfhfaaWkFacts
import Derived.Test.YtpgohmcolcfhfaaAv26
namespace Go.Proofs.Ytpgohmcolcfhfaa
open Go.Av
theorem free_ints : ∀ ms : List Int, freeAll (ints ms) = true
  | [] => rfl
  | m :: ms => by have := free_ints ms; simpa [ints, freeAll, AV.free] using this
theorem zeT_3 : zeT Try.prog 3 = some [.i .i64 0] := by kernel_rfl
theorem byT_24 : byT Try.prog 24 = some 24 := by kernel_rfl
theorem outCell {P : Program} {t : Tmps} {h : Heap} {n : Nat} {fn : Func} {e : Exit} {h1 : Heap} {n1 : Nat} {a : Tmp} {T : TypeId} {x r : AV} (he : e = .normal ∨ e = .ret) (hf : fn.results = #[.cell a T]) (hx : aload P T h1 (t a) = some x) (hr : x = r) (hn : r.names (· < n)) (hh : ∀ x r, x < n → h x = some r → h1 x = some r) : Out P fn n h r [] n e t h1 n1 :=
  Out.pure he (xs := [x]) (by rw [hf]; simp [resAll, resT, hx]) hr hn hh
end Go.Proofs.Ytpgohmcolcfhfaa
