/-
  No cell of these rows narrows 'for every input' (looked for: loops, veiled, ifaces, maps, wideKeys, modest, calm, conditions, laid).
  DERIVED. THE GIVEN ROWS OF THIS SEAT. 12 by the template 'for every input the law returns true; each argument reads behind the call as it read before'; 0 by the template 'total and deterministic' (their statements: YtpgohmcolcfhfaaTotals.lean).
  GIVEN WITH THE SEED: the statements are not yours to turn. If you find one false, say at which input.
  Laid BY PROGRAM, IN A SANDBOX (cutbox-rows.mjs): the forced cells as the released guide's own fill.sh prints them over the translation 3d158c00b04aa16e… (all of the seat's roots in one cut). By AI agents, Wed Nov 11 2026. No macro, syntax, notation, axiom, sorry.
-/
import Derived.Test.YtpgohmcolcfhfaaChecked
import GoSem.Claim
import GoSem.ClaimJoined
import GoSem.ClaimMapViews
import Derived.JoinedTies
import Derived.KernelRfl
namespace Go.Proofs.Ytpgohmcolcfhfaa
/- THE CELL 'sum', in the pinned program and in every row, IS THE sha256 OF THE DUMP (.gsa) THAT YtpgohmcolcfhfaaProg.lean LOADS. Nothing in Lean hashes anything: it is a label: what it is worth is what the hold of that sum in a sandbox is worth. -/
noncomputable def Try.pinned : Pinned := { name := "ytpgohmcolcfhfaa", sum := "3d158c00b04aa16ed16191ead11570d07c3a08532276138d81fbbf44f95ec7b4", checked := Try.checked }
namespace Rows
def none {H : Type} : Left H := { results := [], args := [] }

/-- 'witanlaw13.PhaseRises': WHATEVER THE INPUT: true; the input reads as it did. -/
def phaseRisesSpec : ChangeSpec := { name := "phaseRises", fn := fun _ => fun
  | [d1, d2, d3] => { results := [.lit (.bool true)], args := [d1, d2, d3] }
  | _ => none }
def phaseRisesRow : OpenClaim := { program := "ytpgohmcolcfhfaa", sum := "3d158c00b04aa16ed16191ead11570d07c3a08532276138d81fbbf44f95ec7b4", func := "witan/witanlaw13.PhaseRises", spec := "phaseRises", apart := false }
def PhaseRisesSaid : Prop := phaseRisesRow.holds Try.pinned (OpenSpec.ofChange phaseRisesSpec)

/-- ITS FALSE NEIGHBOUR: 'it returns false'. Refute it at one input. -/
def phaseRisesWrong : ChangeSpec := { name := "phaseRises", fn := fun _ => fun
  | [d1, d2, d3] => { results := [.lit (.bool false)], args := [d1, d2, d3] }
  | _ => none }
def PhaseRisesWrongFalsely : Prop := phaseRisesRow.holds Try.pinned (OpenSpec.ofChange phaseRisesWrong)

/-- 'witanlaw13.PhaseExact': WHATEVER THE INPUT: true; the input reads as it did. -/
def phaseExactSpec : ChangeSpec := { name := "phaseExact", fn := fun _ => fun
  | [d1, d2] => { results := [.lit (.bool true)], args := [d1, d2] }
  | _ => none }
def phaseExactRow : OpenClaim := { program := "ytpgohmcolcfhfaa", sum := "3d158c00b04aa16ed16191ead11570d07c3a08532276138d81fbbf44f95ec7b4", func := "witan/witanlaw13.PhaseExact", spec := "phaseExact", apart := false }
def PhaseExactSaid : Prop := phaseExactRow.holds Try.pinned (OpenSpec.ofChange phaseExactSpec)

/-- ITS FALSE NEIGHBOUR: 'it returns false'. Refute it at one input. -/
def phaseExactWrong : ChangeSpec := { name := "phaseExact", fn := fun _ => fun
  | [d1, d2] => { results := [.lit (.bool false)], args := [d1, d2] }
  | _ => none }
def PhaseExactWrongFalsely : Prop := phaseExactRow.holds Try.pinned (OpenSpec.ofChange phaseExactWrong)

/-- 'witanlaw13.PhaseEnds': WHATEVER THE INPUT: true; the input reads as it did. -/
def phaseEndsSpec : ChangeSpec := { name := "phaseEnds", fn := fun _ => fun
  | [d] => { results := [.lit (.bool true)], args := [d] }
  | _ => none }
def phaseEndsRow : OpenClaim := { program := "ytpgohmcolcfhfaa", sum := "3d158c00b04aa16ed16191ead11570d07c3a08532276138d81fbbf44f95ec7b4", func := "witan/witanlaw13.PhaseEnds", spec := "phaseEnds", apart := false }
def PhaseEndsSaid : Prop := phaseEndsRow.holds Try.pinned (OpenSpec.ofChange phaseEndsSpec)

/-- ITS FALSE NEIGHBOUR: 'it returns false'. Refute it at one input. -/
def phaseEndsWrong : ChangeSpec := { name := "phaseEnds", fn := fun _ => fun
  | [d] => { results := [.lit (.bool false)], args := [d] }
  | _ => none }
def PhaseEndsWrongFalsely : Prop := phaseEndsRow.holds Try.pinned (OpenSpec.ofChange phaseEndsWrong)

/-- 'witanlaw11.LabelRunes': WHATEVER THE INPUT: true; the input reads as it did. -/
def labelRunesSpec : ChangeSpec := { name := "labelRunes", fn := fun _ => fun
  | [d] => { results := [.lit (.bool true)], args := [d] }
  | _ => none }
def labelRunesRow : OpenClaim := { program := "ytpgohmcolcfhfaa", sum := "3d158c00b04aa16ed16191ead11570d07c3a08532276138d81fbbf44f95ec7b4", func := "witan/witanlaw11.LabelRunes", spec := "labelRunes", apart := false }
def LabelRunesSaid : Prop := labelRunesRow.holds Try.pinned (OpenSpec.ofChange labelRunesSpec)

/-- ITS FALSE NEIGHBOUR: 'it returns false'. Refute it at one input. -/
def labelRunesWrong : ChangeSpec := { name := "labelRunes", fn := fun _ => fun
  | [d] => { results := [.lit (.bool false)], args := [d] }
  | _ => none }
def LabelRunesWrongFalsely : Prop := labelRunesRow.holds Try.pinned (OpenSpec.ofChange labelRunesWrong)

/-- 'witanlaw11.LabelFolds': WHATEVER THE INPUT: true; the input reads as it did. -/
def labelFoldsSpec : ChangeSpec := { name := "labelFolds", fn := fun _ => fun
  | [d1, d2] => { results := [.lit (.bool true)], args := [d1, d2] }
  | _ => none }
def labelFoldsRow : OpenClaim := { program := "ytpgohmcolcfhfaa", sum := "3d158c00b04aa16ed16191ead11570d07c3a08532276138d81fbbf44f95ec7b4", func := "witan/witanlaw11.LabelFolds", spec := "labelFolds", apart := false }
def LabelFoldsSaid : Prop := labelFoldsRow.holds Try.pinned (OpenSpec.ofChange labelFoldsSpec)

/-- ITS FALSE NEIGHBOUR: 'it returns false'. Refute it at one input. -/
def labelFoldsWrong : ChangeSpec := { name := "labelFolds", fn := fun _ => fun
  | [d1, d2] => { results := [.lit (.bool false)], args := [d1, d2] }
  | _ => none }
def LabelFoldsWrongFalsely : Prop := labelFoldsRow.holds Try.pinned (OpenSpec.ofChange labelFoldsWrong)

/-- 'witanlaw11.LabelExact': WHATEVER THE INPUT: true; the input reads as it did. -/
def labelExactSpec : ChangeSpec := { name := "labelExact", fn := fun _ => fun
  | [d1, d2, d3] => { results := [.lit (.bool true)], args := [d1, d2, d3] }
  | _ => none }
def labelExactRow : OpenClaim := { program := "ytpgohmcolcfhfaa", sum := "3d158c00b04aa16ed16191ead11570d07c3a08532276138d81fbbf44f95ec7b4", func := "witan/witanlaw11.LabelExact", spec := "labelExact", apart := false }
def LabelExactSaid : Prop := labelExactRow.holds Try.pinned (OpenSpec.ofChange labelExactSpec)

/-- ITS FALSE NEIGHBOUR: 'it returns false'. Refute it at one input. -/
def labelExactWrong : ChangeSpec := { name := "labelExact", fn := fun _ => fun
  | [d1, d2, d3] => { results := [.lit (.bool false)], args := [d1, d2, d3] }
  | _ => none }
def LabelExactWrongFalsely : Prop := labelExactRow.holds Try.pinned (OpenSpec.ofChange labelExactWrong)

/-- 'witanlaw11.LabelCuts': WHATEVER THE INPUT: true; the input reads as it did. -/
def labelCutsSpec : ChangeSpec := { name := "labelCuts", fn := fun _ => fun
  | [d1, d2, d3] => { results := [.lit (.bool true)], args := [d1, d2, d3] }
  | _ => none }
def labelCutsRow : OpenClaim := { program := "ytpgohmcolcfhfaa", sum := "3d158c00b04aa16ed16191ead11570d07c3a08532276138d81fbbf44f95ec7b4", func := "witan/witanlaw11.LabelCuts", spec := "labelCuts", apart := false }
def LabelCutsSaid : Prop := labelCutsRow.holds Try.pinned (OpenSpec.ofChange labelCutsSpec)

/-- ITS FALSE NEIGHBOUR: 'it returns false'. Refute it at one input. -/
def labelCutsWrong : ChangeSpec := { name := "labelCuts", fn := fun _ => fun
  | [d1, d2, d3] => { results := [.lit (.bool false)], args := [d1, d2, d3] }
  | _ => none }
def LabelCutsWrongFalsely : Prop := labelCutsRow.holds Try.pinned (OpenSpec.ofChange labelCutsWrong)

/-- 'witanlaw11.LabelJoins': WHATEVER THE INPUT: true; the input reads as it did. -/
def labelJoinsSpec : ChangeSpec := { name := "labelJoins", fn := fun _ => fun
  | [d1, d2] => { results := [.lit (.bool true)], args := [d1, d2] }
  | _ => none }
def labelJoinsRow : OpenClaim := { program := "ytpgohmcolcfhfaa", sum := "3d158c00b04aa16ed16191ead11570d07c3a08532276138d81fbbf44f95ec7b4", func := "witan/witanlaw11.LabelJoins", spec := "labelJoins", apart := false }
def LabelJoinsSaid : Prop := labelJoinsRow.holds Try.pinned (OpenSpec.ofChange labelJoinsSpec)

/-- ITS FALSE NEIGHBOUR: 'it returns false'. Refute it at one input. -/
def labelJoinsWrong : ChangeSpec := { name := "labelJoins", fn := fun _ => fun
  | [d1, d2] => { results := [.lit (.bool false)], args := [d1, d2] }
  | _ => none }
def LabelJoinsWrongFalsely : Prop := labelJoinsRow.holds Try.pinned (OpenSpec.ofChange labelJoinsWrong)

/-- 'witanlaw11.LabelBytes': WHATEVER THE INPUT: true; the input reads as it did. -/
def labelBytesSpec : ChangeSpec := { name := "labelBytes", fn := fun _ => fun
  | [d1, d2, d3] => { results := [.lit (.bool true)], args := [d1, d2, d3] }
  | _ => none }
def labelBytesRow : OpenClaim := { program := "ytpgohmcolcfhfaa", sum := "3d158c00b04aa16ed16191ead11570d07c3a08532276138d81fbbf44f95ec7b4", func := "witan/witanlaw11.LabelBytes", spec := "labelBytes", apart := false }
def LabelBytesSaid : Prop := labelBytesRow.holds Try.pinned (OpenSpec.ofChange labelBytesSpec)

/-- ITS FALSE NEIGHBOUR: 'it returns false'. Refute it at one input. -/
def labelBytesWrong : ChangeSpec := { name := "labelBytes", fn := fun _ => fun
  | [d1, d2, d3] => { results := [.lit (.bool false)], args := [d1, d2, d3] }
  | _ => none }
def LabelBytesWrongFalsely : Prop := labelBytesRow.holds Try.pinned (OpenSpec.ofChange labelBytesWrong)

/-- 'witanlaw23.PoolExact': WHATEVER THE INPUT: true; the input reads as it did. -/
def poolExactSpec : ChangeSpec := { name := "poolExact", fn := fun _ => fun
  | [d1, d2, d3, d4, d5] => { results := [.lit (.bool true)], args := [d1, d2, d3, d4, d5] }
  | _ => none }
def poolExactRow : OpenClaim := { program := "ytpgohmcolcfhfaa", sum := "3d158c00b04aa16ed16191ead11570d07c3a08532276138d81fbbf44f95ec7b4", func := "witan/witanlaw23.PoolExact", spec := "poolExact", unfollowed := true, recurses := true, apart := false }
def PoolExactSaid : Prop := poolExactRow.holds Try.pinned (OpenSpec.ofChange poolExactSpec)

/-- ITS FALSE NEIGHBOUR: 'it returns false'. Refute it at one input. -/
def poolExactWrong : ChangeSpec := { name := "poolExact", fn := fun _ => fun
  | [d1, d2, d3, d4, d5] => { results := [.lit (.bool false)], args := [d1, d2, d3, d4, d5] }
  | _ => none }
def PoolExactWrongFalsely : Prop := poolExactRow.holds Try.pinned (OpenSpec.ofChange poolExactWrong)

/-- 'witanlaw23.PoolBack': WHATEVER THE INPUT: true; the input reads as it did. -/
def poolBackSpec : ChangeSpec := { name := "poolBack", fn := fun _ => fun
  | [d1, d2] => { results := [.lit (.bool true)], args := [d1, d2] }
  | _ => none }
def poolBackRow : OpenClaim := { program := "ytpgohmcolcfhfaa", sum := "3d158c00b04aa16ed16191ead11570d07c3a08532276138d81fbbf44f95ec7b4", func := "witan/witanlaw23.PoolBack", spec := "poolBack", unfollowed := true, recurses := true, apart := false }
def PoolBackSaid : Prop := poolBackRow.holds Try.pinned (OpenSpec.ofChange poolBackSpec)

/-- ITS FALSE NEIGHBOUR: 'it returns false'. Refute it at one input. -/
def poolBackWrong : ChangeSpec := { name := "poolBack", fn := fun _ => fun
  | [d1, d2] => { results := [.lit (.bool false)], args := [d1, d2] }
  | _ => none }
def PoolBackWrongFalsely : Prop := poolBackRow.holds Try.pinned (OpenSpec.ofChange poolBackWrong)

/-- 'witanlaw23.PoolLimits': WHATEVER THE INPUT: true; the input reads as it did. -/
def poolLimitsSpec : ChangeSpec := { name := "poolLimits", fn := fun _ => fun
  | [d1, d2, d3] => { results := [.lit (.bool true)], args := [d1, d2, d3] }
  | _ => none }
def poolLimitsRow : OpenClaim := { program := "ytpgohmcolcfhfaa", sum := "3d158c00b04aa16ed16191ead11570d07c3a08532276138d81fbbf44f95ec7b4", func := "witan/witanlaw23.PoolLimits", spec := "poolLimits", unfollowed := true, recurses := true, apart := false }
def PoolLimitsSaid : Prop := poolLimitsRow.holds Try.pinned (OpenSpec.ofChange poolLimitsSpec)

/-- ITS FALSE NEIGHBOUR: 'it returns false'. Refute it at one input. -/
def poolLimitsWrong : ChangeSpec := { name := "poolLimits", fn := fun _ => fun
  | [d1, d2, d3] => { results := [.lit (.bool false)], args := [d1, d2, d3] }
  | _ => none }
def PoolLimitsWrongFalsely : Prop := poolLimitsRow.holds Try.pinned (OpenSpec.ofChange poolLimitsWrong)

/- THE SECOND FORM. 'bulk': how many values and letters a reading holds, each counted each time it is reached (what is shared counts as often as it is met; a slice's spare places count too). A statement '..UptoSaid' is the law's where the arguments, and the package variables that the reading takes, are together of bulk at most 1048576: NARROWER than '..Said'. Prove '..Said' where nothing that the law and all that it calls make is longer than what came in: it says more and counts as full. Else prove '..UptoSaid'. A law counts once. -/
mutual
def uptoBulk {H : Type} : DataW H → Nat
  | .lit (.string bytes) => bytes.length + 1
  | .lit _ => 1
  | .nil => 1
  | .ptr d => uptoBulk d + 1
  | .slice elems spare => uptoBulkAll elems + uptoBulkAll spare + 1
  | .agg parts => uptoBulkAll parts + 1
  | .iface _ d => uptoBulk d + 1
  | .map entries => uptoBulkEntries entries + 1
  | .held _ => 1
def uptoBulkAll {H : Type} : List (DataW H) → Nat
  | [] => 0
  | d :: r => uptoBulk d + uptoBulkAll r
def uptoBulkEntries {H : Type} : List (Lit × DataW H) → Nat
  | [] => 0
  | x :: r => uptoBulkEntry x + uptoBulkEntries r
def uptoBulkEntry {H : Type} : Lit × DataW H → Nat
  | (.string bytes, d) => bytes.length + uptoBulk d + 1
  | (_, d) => uptoBulk d + 1
 end
def uptoSmall : (H : Type) → List (DataW H) → Bool := fun _ ds => decide (uptoBulkAll ds ≤ 1048576)
def OpenSpec.upto (s : _root_.Go.ChangeSpec) : _root_.Go.OpenSpec := { _root_.Go.OpenSpec.ofChange s with cond := some uptoSmall }

/-- 'witanlaw13.PhaseRises', WHERE WHAT IT READS IS OF BULK AT MOST 1048576: true; the input reads as it did. -/
def phaseRisesUptoRow : OpenClaim := { program := "ytpgohmcolcfhfaa", sum := "3d158c00b04aa16ed16191ead11570d07c3a08532276138d81fbbf44f95ec7b4", func := "witan/witanlaw13.PhaseRises", spec := "phaseRises", apart := false, narrowed := true }
def PhaseRisesUptoSaid : Prop := phaseRisesUptoRow.holds Try.pinned (OpenSpec.upto phaseRisesSpec)

/-- 'witanlaw13.PhaseExact', WHERE WHAT IT READS IS OF BULK AT MOST 1048576: true; the input reads as it did. -/
def phaseExactUptoRow : OpenClaim := { program := "ytpgohmcolcfhfaa", sum := "3d158c00b04aa16ed16191ead11570d07c3a08532276138d81fbbf44f95ec7b4", func := "witan/witanlaw13.PhaseExact", spec := "phaseExact", apart := false, narrowed := true }
def PhaseExactUptoSaid : Prop := phaseExactUptoRow.holds Try.pinned (OpenSpec.upto phaseExactSpec)

/-- 'witanlaw13.PhaseEnds', WHERE WHAT IT READS IS OF BULK AT MOST 1048576: true; the input reads as it did. -/
def phaseEndsUptoRow : OpenClaim := { program := "ytpgohmcolcfhfaa", sum := "3d158c00b04aa16ed16191ead11570d07c3a08532276138d81fbbf44f95ec7b4", func := "witan/witanlaw13.PhaseEnds", spec := "phaseEnds", apart := false, narrowed := true }
def PhaseEndsUptoSaid : Prop := phaseEndsUptoRow.holds Try.pinned (OpenSpec.upto phaseEndsSpec)

/-- 'witanlaw11.LabelRunes', WHERE WHAT IT READS IS OF BULK AT MOST 1048576: true; the input reads as it did. -/
def labelRunesUptoRow : OpenClaim := { program := "ytpgohmcolcfhfaa", sum := "3d158c00b04aa16ed16191ead11570d07c3a08532276138d81fbbf44f95ec7b4", func := "witan/witanlaw11.LabelRunes", spec := "labelRunes", apart := false, narrowed := true }
def LabelRunesUptoSaid : Prop := labelRunesUptoRow.holds Try.pinned (OpenSpec.upto labelRunesSpec)

/-- 'witanlaw11.LabelFolds', WHERE WHAT IT READS IS OF BULK AT MOST 1048576: true; the input reads as it did. -/
def labelFoldsUptoRow : OpenClaim := { program := "ytpgohmcolcfhfaa", sum := "3d158c00b04aa16ed16191ead11570d07c3a08532276138d81fbbf44f95ec7b4", func := "witan/witanlaw11.LabelFolds", spec := "labelFolds", apart := false, narrowed := true }
def LabelFoldsUptoSaid : Prop := labelFoldsUptoRow.holds Try.pinned (OpenSpec.upto labelFoldsSpec)

/-- 'witanlaw11.LabelExact', WHERE WHAT IT READS IS OF BULK AT MOST 1048576: true; the input reads as it did. -/
def labelExactUptoRow : OpenClaim := { program := "ytpgohmcolcfhfaa", sum := "3d158c00b04aa16ed16191ead11570d07c3a08532276138d81fbbf44f95ec7b4", func := "witan/witanlaw11.LabelExact", spec := "labelExact", apart := false, narrowed := true }
def LabelExactUptoSaid : Prop := labelExactUptoRow.holds Try.pinned (OpenSpec.upto labelExactSpec)

/-- 'witanlaw11.LabelCuts', WHERE WHAT IT READS IS OF BULK AT MOST 1048576: true; the input reads as it did. -/
def labelCutsUptoRow : OpenClaim := { program := "ytpgohmcolcfhfaa", sum := "3d158c00b04aa16ed16191ead11570d07c3a08532276138d81fbbf44f95ec7b4", func := "witan/witanlaw11.LabelCuts", spec := "labelCuts", apart := false, narrowed := true }
def LabelCutsUptoSaid : Prop := labelCutsUptoRow.holds Try.pinned (OpenSpec.upto labelCutsSpec)

/-- 'witanlaw11.LabelJoins', WHERE WHAT IT READS IS OF BULK AT MOST 1048576: true; the input reads as it did. -/
def labelJoinsUptoRow : OpenClaim := { program := "ytpgohmcolcfhfaa", sum := "3d158c00b04aa16ed16191ead11570d07c3a08532276138d81fbbf44f95ec7b4", func := "witan/witanlaw11.LabelJoins", spec := "labelJoins", apart := false, narrowed := true }
def LabelJoinsUptoSaid : Prop := labelJoinsUptoRow.holds Try.pinned (OpenSpec.upto labelJoinsSpec)

/-- 'witanlaw11.LabelBytes', WHERE WHAT IT READS IS OF BULK AT MOST 1048576: true; the input reads as it did. -/
def labelBytesUptoRow : OpenClaim := { program := "ytpgohmcolcfhfaa", sum := "3d158c00b04aa16ed16191ead11570d07c3a08532276138d81fbbf44f95ec7b4", func := "witan/witanlaw11.LabelBytes", spec := "labelBytes", apart := false, narrowed := true }
def LabelBytesUptoSaid : Prop := labelBytesUptoRow.holds Try.pinned (OpenSpec.upto labelBytesSpec)

/-- 'witanlaw23.PoolExact', WHERE WHAT IT READS IS OF BULK AT MOST 1048576: true; the input reads as it did. -/
def poolExactUptoRow : OpenClaim := { program := "ytpgohmcolcfhfaa", sum := "3d158c00b04aa16ed16191ead11570d07c3a08532276138d81fbbf44f95ec7b4", func := "witan/witanlaw23.PoolExact", spec := "poolExact", unfollowed := true, recurses := true, apart := false, narrowed := true }
def PoolExactUptoSaid : Prop := poolExactUptoRow.holds Try.pinned (OpenSpec.upto poolExactSpec)

/-- 'witanlaw23.PoolBack', WHERE WHAT IT READS IS OF BULK AT MOST 1048576: true; the input reads as it did. -/
def poolBackUptoRow : OpenClaim := { program := "ytpgohmcolcfhfaa", sum := "3d158c00b04aa16ed16191ead11570d07c3a08532276138d81fbbf44f95ec7b4", func := "witan/witanlaw23.PoolBack", spec := "poolBack", unfollowed := true, recurses := true, apart := false, narrowed := true }
def PoolBackUptoSaid : Prop := poolBackUptoRow.holds Try.pinned (OpenSpec.upto poolBackSpec)

/-- 'witanlaw23.PoolLimits', WHERE WHAT IT READS IS OF BULK AT MOST 1048576: true; the input reads as it did. -/
def poolLimitsUptoRow : OpenClaim := { program := "ytpgohmcolcfhfaa", sum := "3d158c00b04aa16ed16191ead11570d07c3a08532276138d81fbbf44f95ec7b4", func := "witan/witanlaw23.PoolLimits", spec := "poolLimits", unfollowed := true, recurses := true, apart := false, narrowed := true }
def PoolLimitsUptoSaid : Prop := poolLimitsUptoRow.holds Try.pinned (OpenSpec.upto poolLimitsSpec)

end Rows
end Go.Proofs.Ytpgohmcolcfhfaa
