/-
  No cell of these rows narrows 'for every input' (looked for: loops, veiled, ifaces, maps, wideKeys, modest, calm, conditions, laid).
  DERIVED. THE GIVEN ROWS OF THIS SEAT. 4 by the template 'for every input the law returns true; each argument reads behind the call as it read before'; 0 by the template 'total and deterministic' (their statements: YtepfknnffooaiaaTotals.lean).
  GIVEN WITH THE SEED: the statements are not yours to turn. If you find one false, say at which input.
  Laid BY PROGRAM, IN A SANDBOX (cutbox-rows.mjs): the forced cells as the released guide's own fill.sh prints them over the translation 6577b865f881d2a5… (all of the seat's roots in one cut). By AI agents, Wed Nov 11 2026. No macro, syntax, notation, axiom, sorry.
-/
import Derived.Test.YtepfknnffooaiaaChecked
import GoSem.Claim
import GoSem.ClaimJoined
import GoSem.ClaimMapViews
import Derived.JoinedTies
import Derived.KernelRfl
namespace Go.Proofs.Ytepfknnffooaiaa
/- THE CELL 'sum', in the pinned program and in every row, IS THE sha256 OF THE DUMP (.gsa) THAT YtepfknnffooaiaaProg.lean LOADS. Nothing in Lean hashes anything: it is a label: what it is worth is what the hold of that sum in a sandbox is worth. -/
noncomputable def Try.pinned : Pinned := { name := "ytepfknnffooaiaa", sum := "6577b865f881d2a5690fb24c10432764542e55d82f17d52f1382db1f3b4291ea", checked := Try.checked }
namespace Rows
def none {H : Type} : Left H := { results := [], args := [] }

/-- 'witanlaw19.DiskChoice': WHATEVER THE INPUT: true; the input reads as it did. -/
def diskChoiceSpec : ChangeSpec := { name := "diskChoice", fn := fun _ => fun
  | [d1, d2, d3] => { results := [.lit (.bool true)], args := [d1, d2, d3] }
  | _ => none }
def diskChoiceRow : OpenClaim := { program := "ytepfknnffooaiaa", sum := "6577b865f881d2a5690fb24c10432764542e55d82f17d52f1382db1f3b4291ea", func := "witan/witanlaw19.DiskChoice", spec := "diskChoice", apart := false }
def DiskChoiceSaid : Prop := diskChoiceRow.holds Try.pinned (OpenSpec.ofChange diskChoiceSpec)

/-- ITS FALSE NEIGHBOUR: 'it returns false'. Refute it at one input. -/
def diskChoiceWrong : ChangeSpec := { name := "diskChoice", fn := fun _ => fun
  | [d1, d2, d3] => { results := [.lit (.bool false)], args := [d1, d2, d3] }
  | _ => none }
def DiskChoiceWrongFalsely : Prop := diskChoiceRow.holds Try.pinned (OpenSpec.ofChange diskChoiceWrong)

/-- 'witanlaw19.DiskSafe': WHATEVER THE INPUT: true; the input reads as it did. -/
def diskSafeSpec : ChangeSpec := { name := "diskSafe", fn := fun _ => fun
  | [d1, d2] => { results := [.lit (.bool true)], args := [d1, d2] }
  | _ => none }
def diskSafeRow : OpenClaim := { program := "ytepfknnffooaiaa", sum := "6577b865f881d2a5690fb24c10432764542e55d82f17d52f1382db1f3b4291ea", func := "witan/witanlaw19.DiskSafe", spec := "diskSafe", apart := false }
def DiskSafeSaid : Prop := diskSafeRow.holds Try.pinned (OpenSpec.ofChange diskSafeSpec)

/-- ITS FALSE NEIGHBOUR: 'it returns false'. Refute it at one input. -/
def diskSafeWrong : ChangeSpec := { name := "diskSafe", fn := fun _ => fun
  | [d1, d2] => { results := [.lit (.bool false)], args := [d1, d2] }
  | _ => none }
def DiskSafeWrongFalsely : Prop := diskSafeRow.holds Try.pinned (OpenSpec.ofChange diskSafeWrong)

/-- 'witanlaw19.DiskTrips': WHATEVER THE INPUT: true; the input reads as it did. -/
def diskTripsSpec : ChangeSpec := { name := "diskTrips", fn := fun _ => fun
  | [d1, d2, d3, d4] => { results := [.lit (.bool true)], args := [d1, d2, d3, d4] }
  | _ => none }
def diskTripsRow : OpenClaim := { program := "ytepfknnffooaiaa", sum := "6577b865f881d2a5690fb24c10432764542e55d82f17d52f1382db1f3b4291ea", func := "witan/witanlaw19.DiskTrips", spec := "diskTrips", apart := false }
def DiskTripsSaid : Prop := diskTripsRow.holds Try.pinned (OpenSpec.ofChange diskTripsSpec)

/-- ITS FALSE NEIGHBOUR: 'it returns false'. Refute it at one input. -/
def diskTripsWrong : ChangeSpec := { name := "diskTrips", fn := fun _ => fun
  | [d1, d2, d3, d4] => { results := [.lit (.bool false)], args := [d1, d2, d3, d4] }
  | _ => none }
def DiskTripsWrongFalsely : Prop := diskTripsRow.holds Try.pinned (OpenSpec.ofChange diskTripsWrong)

/-- 'witanlaw19.DiskExact': WHATEVER THE INPUT: true; the input reads as it did. -/
def diskExactSpec : ChangeSpec := { name := "diskExact", fn := fun _ => fun
  | [d1, d2] => { results := [.lit (.bool true)], args := [d1, d2] }
  | _ => none }
def diskExactRow : OpenClaim := { program := "ytepfknnffooaiaa", sum := "6577b865f881d2a5690fb24c10432764542e55d82f17d52f1382db1f3b4291ea", func := "witan/witanlaw19.DiskExact", spec := "diskExact", apart := false }
def DiskExactSaid : Prop := diskExactRow.holds Try.pinned (OpenSpec.ofChange diskExactSpec)

/-- ITS FALSE NEIGHBOUR: 'it returns false'. Refute it at one input. -/
def diskExactWrong : ChangeSpec := { name := "diskExact", fn := fun _ => fun
  | [d1, d2] => { results := [.lit (.bool false)], args := [d1, d2] }
  | _ => none }
def DiskExactWrongFalsely : Prop := diskExactRow.holds Try.pinned (OpenSpec.ofChange diskExactWrong)

/- THE SECOND FORM. 'bulk': how many values and letters a reading holds, each counted each time it is reached (what is shared counts as often as it is met; a slice's spare places count too). A statement '..UptoSaid' is the law's where the arguments, and the package variables that the reading takes, are together of bulk at most 1048576: NARROWER than '..Said'. Prove '..Said' where nothing that the law and all that it calls make is longer than what came in: it says more and counts as full. Else prove '..UptoSaid'. A law counts once. -/
mutual
def uptoBulk {H : Type} : DataW H → Nat
  | .lit (.string bytes) => bytes.length + 1
  | .lit _ => 1
  | .nil => 1
  | .ptr d => uptoBulk d + 1
  | .slice elems spare => uptoBulkAll elems + uptoBulkAll spare + 1
  | .agg parts => uptoBulkAll parts + 1
  | .iface _ d => uptoBulk d + 1
  | .map entries => uptoBulkEntries entries + 1
  | .held _ => 1
def uptoBulkAll {H : Type} : List (DataW H) → Nat
  | [] => 0
  | d :: r => uptoBulk d + uptoBulkAll r
def uptoBulkEntries {H : Type} : List (Lit × DataW H) → Nat
  | [] => 0
  | x :: r => uptoBulkEntry x + uptoBulkEntries r
def uptoBulkEntry {H : Type} : Lit × DataW H → Nat
  | (.string bytes, d) => bytes.length + uptoBulk d + 1
  | (_, d) => uptoBulk d + 1
 end
def uptoSmall : (H : Type) → List (DataW H) → Bool := fun _ ds => decide (uptoBulkAll ds ≤ 1048576)
def OpenSpec.upto (s : _root_.Go.ChangeSpec) : _root_.Go.OpenSpec := { _root_.Go.OpenSpec.ofChange s with cond := some uptoSmall }

/-- 'witanlaw19.DiskChoice', WHERE WHAT IT READS IS OF BULK AT MOST 1048576: true; the input reads as it did. -/
def diskChoiceUptoRow : OpenClaim := { program := "ytepfknnffooaiaa", sum := "6577b865f881d2a5690fb24c10432764542e55d82f17d52f1382db1f3b4291ea", func := "witan/witanlaw19.DiskChoice", spec := "diskChoice", apart := false, narrowed := true }
def DiskChoiceUptoSaid : Prop := diskChoiceUptoRow.holds Try.pinned (OpenSpec.upto diskChoiceSpec)

/-- 'witanlaw19.DiskSafe', WHERE WHAT IT READS IS OF BULK AT MOST 1048576: true; the input reads as it did. -/
def diskSafeUptoRow : OpenClaim := { program := "ytepfknnffooaiaa", sum := "6577b865f881d2a5690fb24c10432764542e55d82f17d52f1382db1f3b4291ea", func := "witan/witanlaw19.DiskSafe", spec := "diskSafe", apart := false, narrowed := true }
def DiskSafeUptoSaid : Prop := diskSafeUptoRow.holds Try.pinned (OpenSpec.upto diskSafeSpec)

/-- 'witanlaw19.DiskTrips', WHERE WHAT IT READS IS OF BULK AT MOST 1048576: true; the input reads as it did. -/
def diskTripsUptoRow : OpenClaim := { program := "ytepfknnffooaiaa", sum := "6577b865f881d2a5690fb24c10432764542e55d82f17d52f1382db1f3b4291ea", func := "witan/witanlaw19.DiskTrips", spec := "diskTrips", apart := false, narrowed := true }
def DiskTripsUptoSaid : Prop := diskTripsUptoRow.holds Try.pinned (OpenSpec.upto diskTripsSpec)

/-- 'witanlaw19.DiskExact', WHERE WHAT IT READS IS OF BULK AT MOST 1048576: true; the input reads as it did. -/
def diskExactUptoRow : OpenClaim := { program := "ytepfknnffooaiaa", sum := "6577b865f881d2a5690fb24c10432764542e55d82f17d52f1382db1f3b4291ea", func := "witan/witanlaw19.DiskExact", spec := "diskExact", apart := false, narrowed := true }
def DiskExactUptoSaid : Prop := diskExactUptoRow.holds Try.pinned (OpenSpec.upto diskExactSpec)

end Rows
end Go.Proofs.Ytepfknnffooaiaa
