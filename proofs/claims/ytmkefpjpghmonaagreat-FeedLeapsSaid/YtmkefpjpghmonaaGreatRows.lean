/-
  No cell of these rows narrows 'for every input' (looked for: loops, veiled, ifaces, maps, wideKeys, modest, calm, conditions, laid).
  DERIVED. THE GIVEN ROWS OF THIS SEAT. 20 by the template 'for every input the law returns true; each argument reads behind the call as it read before'; 0 by the template 'total and deterministic' (their statements: YtmkefpjpghmonaaGreatTotals.lean).
  GIVEN WITH THE SEED: the statements are not yours to turn. If you find one false, say at which input.
  Laid BY PROGRAM, IN A SANDBOX (cutbox-rows.mjs): the forced cells as the released guide's own fill.sh prints them over the translation 395d7222f5672990… (all of the seat's roots in one cut). By AI agents, Wed Nov 11 2026. No macro, syntax, notation, axiom, sorry.
-/
import Derived.Test.YtmkefpjpghmonaaGreatChecked
import GoSem.Claim
import GoSem.ClaimJoined
import GoSem.ClaimMapViews
import Derived.JoinedTies
import Derived.KernelRfl
namespace Go.Proofs.YtmkefpjpghmonaaGreat
/- THE CELL 'sum', in the pinned program and in every row, IS THE sha256 OF THE DUMP (.gsa) THAT YtmkefpjpghmonaaGreatProg.lean LOADS. Nothing in Lean hashes anything: it is a label: what it is worth is what the hold of that sum in a sandbox is worth. -/
noncomputable def Tryz.pinned : Pinned := { name := "ytmkefpjpghmonaagreat", sum := "395d7222f5672990d2e006bd75d47f969a4b15f32fe6796d529eceaffdec6256", checked := Tryz.checked }
namespace Rows
def none {H : Type} : Left H := { results := [], args := [] }

/-- 'witanlaw15.ContractLives': WHATEVER THE INPUT: true; the input reads as it did. -/
def contractLivesSpec : ChangeSpec := { name := "contractLives", fn := fun _ => fun
  | [d1, d2, d3, d4] => { results := [.lit (.bool true)], args := [d1, d2, d3, d4] }
  | _ => none }
def contractLivesRow : OpenClaim := { program := "ytmkefpjpghmonaagreat", sum := "395d7222f5672990d2e006bd75d47f969a4b15f32fe6796d529eceaffdec6256", func := "witan/witanlaw15.ContractLives", spec := "contractLives", inPlace := ["math/bits.Sub64", "math/bits.Add64"], unfollowed := true, recurses := true, apart := false }
def ContractLivesSaid : Prop := contractLivesRow.holds Tryz.pinned (OpenSpec.ofChange contractLivesSpec)

/-- ITS FALSE NEIGHBOUR: 'it returns false'. Refute it at one input. -/
def contractLivesWrong : ChangeSpec := { name := "contractLives", fn := fun _ => fun
  | [d1, d2, d3, d4] => { results := [.lit (.bool false)], args := [d1, d2, d3, d4] }
  | _ => none }
def ContractLivesWrongFalsely : Prop := contractLivesRow.holds Tryz.pinned (OpenSpec.ofChange contractLivesWrong)

/-- 'witanlaw15.ContractMoney': WHATEVER THE INPUT: true; the input reads as it did. -/
def contractMoneySpec : ChangeSpec := { name := "contractMoney", fn := fun _ => fun
  | [d1, d2, d3] => { results := [.lit (.bool true)], args := [d1, d2, d3] }
  | _ => none }
def contractMoneyRow : OpenClaim := { program := "ytmkefpjpghmonaagreat", sum := "395d7222f5672990d2e006bd75d47f969a4b15f32fe6796d529eceaffdec6256", func := "witan/witanlaw15.ContractMoney", spec := "contractMoney", inPlace := ["math/bits.Sub64", "math/bits.Add64"], unfollowed := true, recurses := true, apart := false }
def ContractMoneySaid : Prop := contractMoneyRow.holds Tryz.pinned (OpenSpec.ofChange contractMoneySpec)

/-- ITS FALSE NEIGHBOUR: 'it returns false'. Refute it at one input. -/
def contractMoneyWrong : ChangeSpec := { name := "contractMoney", fn := fun _ => fun
  | [d1, d2, d3] => { results := [.lit (.bool false)], args := [d1, d2, d3] }
  | _ => none }
def ContractMoneyWrongFalsely : Prop := contractMoneyRow.holds Tryz.pinned (OpenSpec.ofChange contractMoneyWrong)

/-- 'witanlaw15.ContractPhases': WHATEVER THE INPUT: true; the input reads as it did. -/
def contractPhasesSpec : ChangeSpec := { name := "contractPhases", fn := fun _ => fun
  | [d1, d2, d3] => { results := [.lit (.bool true)], args := [d1, d2, d3] }
  | _ => none }
def contractPhasesRow : OpenClaim := { program := "ytmkefpjpghmonaagreat", sum := "395d7222f5672990d2e006bd75d47f969a4b15f32fe6796d529eceaffdec6256", func := "witan/witanlaw15.ContractPhases", spec := "contractPhases", inPlace := ["math/bits.Sub64", "math/bits.Add64"], unfollowed := true, recurses := true, apart := false }
def ContractPhasesSaid : Prop := contractPhasesRow.holds Tryz.pinned (OpenSpec.ofChange contractPhasesSpec)

/-- ITS FALSE NEIGHBOUR: 'it returns false'. Refute it at one input. -/
def contractPhasesWrong : ChangeSpec := { name := "contractPhases", fn := fun _ => fun
  | [d1, d2, d3] => { results := [.lit (.bool false)], args := [d1, d2, d3] }
  | _ => none }
def ContractPhasesWrongFalsely : Prop := contractPhasesRow.holds Tryz.pinned (OpenSpec.ofChange contractPhasesWrong)

/-- 'witanlaw15.ContractHonest': WHATEVER THE INPUT: true; the input reads as it did. -/
def contractHonestSpec : ChangeSpec := { name := "contractHonest", fn := fun _ => fun
  | [d1, d2, d3, d4] => { results := [.lit (.bool true)], args := [d1, d2, d3, d4] }
  | _ => none }
def contractHonestRow : OpenClaim := { program := "ytmkefpjpghmonaagreat", sum := "395d7222f5672990d2e006bd75d47f969a4b15f32fe6796d529eceaffdec6256", func := "witan/witanlaw15.ContractHonest", spec := "contractHonest", inPlace := ["math/bits.Add64", "math/bits.Sub64"], unfollowed := true, recurses := true, apart := false }
def ContractHonestSaid : Prop := contractHonestRow.holds Tryz.pinned (OpenSpec.ofChange contractHonestSpec)

/-- ITS FALSE NEIGHBOUR: 'it returns false'. Refute it at one input. -/
def contractHonestWrong : ChangeSpec := { name := "contractHonest", fn := fun _ => fun
  | [d1, d2, d3, d4] => { results := [.lit (.bool false)], args := [d1, d2, d3, d4] }
  | _ => none }
def ContractHonestWrongFalsely : Prop := contractHonestRow.holds Tryz.pinned (OpenSpec.ofChange contractHonestWrong)

/-- 'witanlaw15.ContractOnce': WHATEVER THE INPUT: true; the input reads as it did. -/
def contractOnceSpec : ChangeSpec := { name := "contractOnce", fn := fun _ => fun
  | [d1, d2, d3] => { results := [.lit (.bool true)], args := [d1, d2, d3] }
  | _ => none }
def contractOnceRow : OpenClaim := { program := "ytmkefpjpghmonaagreat", sum := "395d7222f5672990d2e006bd75d47f969a4b15f32fe6796d529eceaffdec6256", func := "witan/witanlaw15.ContractOnce", spec := "contractOnce", inPlace := ["math/bits.Sub64", "math/bits.Add64"], unfollowed := true, recurses := true, apart := false }
def ContractOnceSaid : Prop := contractOnceRow.holds Tryz.pinned (OpenSpec.ofChange contractOnceSpec)

/-- ITS FALSE NEIGHBOUR: 'it returns false'. Refute it at one input. -/
def contractOnceWrong : ChangeSpec := { name := "contractOnce", fn := fun _ => fun
  | [d1, d2, d3] => { results := [.lit (.bool false)], args := [d1, d2, d3] }
  | _ => none }
def ContractOnceWrongFalsely : Prop := contractOnceRow.holds Tryz.pinned (OpenSpec.ofChange contractOnceWrong)

/-- 'witanlaw15.ContractLate': WHATEVER THE INPUT: true; the input reads as it did. -/
def contractLateSpec : ChangeSpec := { name := "contractLate", fn := fun _ => fun
  | [d1, d2, d3, d4, d5] => { results := [.lit (.bool true)], args := [d1, d2, d3, d4, d5] }
  | _ => none }
def contractLateRow : OpenClaim := { program := "ytmkefpjpghmonaagreat", sum := "395d7222f5672990d2e006bd75d47f969a4b15f32fe6796d529eceaffdec6256", func := "witan/witanlaw15.ContractLate", spec := "contractLate", inPlace := ["math/bits.Sub64", "math/bits.Add64"], unfollowed := true, recurses := true, apart := false }
def ContractLateSaid : Prop := contractLateRow.holds Tryz.pinned (OpenSpec.ofChange contractLateSpec)

/-- ITS FALSE NEIGHBOUR: 'it returns false'. Refute it at one input. -/
def contractLateWrong : ChangeSpec := { name := "contractLate", fn := fun _ => fun
  | [d1, d2, d3, d4, d5] => { results := [.lit (.bool false)], args := [d1, d2, d3, d4, d5] }
  | _ => none }
def ContractLateWrongFalsely : Prop := contractLateRow.holds Tryz.pinned (OpenSpec.ofChange contractLateWrong)

/-- 'witanlaw15.ContractLazy': WHATEVER THE INPUT: true; the input reads as it did. -/
def contractLazySpec : ChangeSpec := { name := "contractLazy", fn := fun _ => fun
  | [d1, d2, d3, d4] => { results := [.lit (.bool true)], args := [d1, d2, d3, d4] }
  | _ => none }
def contractLazyRow : OpenClaim := { program := "ytmkefpjpghmonaagreat", sum := "395d7222f5672990d2e006bd75d47f969a4b15f32fe6796d529eceaffdec6256", func := "witan/witanlaw15.ContractLazy", spec := "contractLazy", inPlace := ["math/bits.Sub64", "math/bits.Add64"], unfollowed := true, recurses := true, apart := false }
def ContractLazySaid : Prop := contractLazyRow.holds Tryz.pinned (OpenSpec.ofChange contractLazySpec)

/-- ITS FALSE NEIGHBOUR: 'it returns false'. Refute it at one input. -/
def contractLazyWrong : ChangeSpec := { name := "contractLazy", fn := fun _ => fun
  | [d1, d2, d3, d4] => { results := [.lit (.bool false)], args := [d1, d2, d3, d4] }
  | _ => none }
def ContractLazyWrongFalsely : Prop := contractLazyRow.holds Tryz.pinned (OpenSpec.ofChange contractLazyWrong)

/-- 'witanlaw15.ContractFew': WHATEVER THE INPUT: true; the input reads as it did. -/
def contractFewSpec : ChangeSpec := { name := "contractFew", fn := fun _ => fun
  | [d1, d2, d3] => { results := [.lit (.bool true)], args := [d1, d2, d3] }
  | _ => none }
def contractFewRow : OpenClaim := { program := "ytmkefpjpghmonaagreat", sum := "395d7222f5672990d2e006bd75d47f969a4b15f32fe6796d529eceaffdec6256", func := "witan/witanlaw15.ContractFew", spec := "contractFew", inPlace := ["math/bits.Sub64", "math/bits.Add64"], unfollowed := true, recurses := true, apart := false }
def ContractFewSaid : Prop := contractFewRow.holds Tryz.pinned (OpenSpec.ofChange contractFewSpec)

/-- ITS FALSE NEIGHBOUR: 'it returns false'. Refute it at one input. -/
def contractFewWrong : ChangeSpec := { name := "contractFew", fn := fun _ => fun
  | [d1, d2, d3] => { results := [.lit (.bool false)], args := [d1, d2, d3] }
  | _ => none }
def ContractFewWrongFalsely : Prop := contractFewRow.holds Tryz.pinned (OpenSpec.ofChange contractFewWrong)

/-- 'witanlaw15.ContractDisputes': WHATEVER THE INPUT: true; the input reads as it did. -/
def contractDisputesSpec : ChangeSpec := { name := "contractDisputes", fn := fun _ => fun
  | [d1, d2, d3] => { results := [.lit (.bool true)], args := [d1, d2, d3] }
  | _ => none }
def contractDisputesRow : OpenClaim := { program := "ytmkefpjpghmonaagreat", sum := "395d7222f5672990d2e006bd75d47f969a4b15f32fe6796d529eceaffdec6256", func := "witan/witanlaw15.ContractDisputes", spec := "contractDisputes", inPlace := ["math/bits.Sub64", "math/bits.Add64"], unfollowed := true, recurses := true, apart := false }
def ContractDisputesSaid : Prop := contractDisputesRow.holds Tryz.pinned (OpenSpec.ofChange contractDisputesSpec)

/-- ITS FALSE NEIGHBOUR: 'it returns false'. Refute it at one input. -/
def contractDisputesWrong : ChangeSpec := { name := "contractDisputes", fn := fun _ => fun
  | [d1, d2, d3] => { results := [.lit (.bool false)], args := [d1, d2, d3] }
  | _ => none }
def ContractDisputesWrongFalsely : Prop := contractDisputesRow.holds Tryz.pinned (OpenSpec.ofChange contractDisputesWrong)

/-- 'witanlaw17.LedgerHeads': WHATEVER THE INPUT: true; the input reads as it did. -/
def ledgerHeadsSpec : ChangeSpec := { name := "ledgerHeads", fn := fun _ => fun
  | [d1, d2] => { results := [.lit (.bool true)], args := [d1, d2] }
  | _ => none }
def ledgerHeadsRow : OpenClaim := { program := "ytmkefpjpghmonaagreat", sum := "395d7222f5672990d2e006bd75d47f969a4b15f32fe6796d529eceaffdec6256", func := "witan/witanlaw17.LedgerHeads", spec := "ledgerHeads", inPlace := ["math/bits.Add64", "math/bits.Sub64", "internal/bytealg.Compare"], unfollowed := true, recurses := true, apart := false }
def LedgerHeadsSaid : Prop := ledgerHeadsRow.holds Tryz.pinned (OpenSpec.ofChange ledgerHeadsSpec)

/-- ITS FALSE NEIGHBOUR: 'it returns false'. Refute it at one input. -/
def ledgerHeadsWrong : ChangeSpec := { name := "ledgerHeads", fn := fun _ => fun
  | [d1, d2] => { results := [.lit (.bool false)], args := [d1, d2] }
  | _ => none }
def LedgerHeadsWrongFalsely : Prop := ledgerHeadsRow.holds Tryz.pinned (OpenSpec.ofChange ledgerHeadsWrong)

/-- 'witanlaw17.LedgerRefuses': WHATEVER THE INPUT: true; the input reads as it did. -/
def ledgerRefusesSpec : ChangeSpec := { name := "ledgerRefuses", fn := fun _ => fun
  | [d1, d2, d3] => { results := [.lit (.bool true)], args := [d1, d2, d3] }
  | _ => none }
def ledgerRefusesRow : OpenClaim := { program := "ytmkefpjpghmonaagreat", sum := "395d7222f5672990d2e006bd75d47f969a4b15f32fe6796d529eceaffdec6256", func := "witan/witanlaw17.LedgerRefuses", spec := "ledgerRefuses", inPlace := ["math/bits.Add64", "math/bits.Sub64", "internal/bytealg.Compare"], unfollowed := true, recurses := true, apart := false }
def LedgerRefusesSaid : Prop := ledgerRefusesRow.holds Tryz.pinned (OpenSpec.ofChange ledgerRefusesSpec)

/-- ITS FALSE NEIGHBOUR: 'it returns false'. Refute it at one input. -/
def ledgerRefusesWrong : ChangeSpec := { name := "ledgerRefuses", fn := fun _ => fun
  | [d1, d2, d3] => { results := [.lit (.bool false)], args := [d1, d2, d3] }
  | _ => none }
def LedgerRefusesWrongFalsely : Prop := ledgerRefusesRow.holds Tryz.pinned (OpenSpec.ofChange ledgerRefusesWrong)

/-- 'witanlaw17.LedgerTree': WHATEVER THE INPUT: true; the input reads as it did. -/
def ledgerTreeSpec : ChangeSpec := { name := "ledgerTree", fn := fun _ => fun
  | [d1, d2, d3, d4] => { results := [.lit (.bool true)], args := [d1, d2, d3, d4] }
  | _ => none }
def ledgerTreeRow : OpenClaim := { program := "ytmkefpjpghmonaagreat", sum := "395d7222f5672990d2e006bd75d47f969a4b15f32fe6796d529eceaffdec6256", func := "witan/witanlaw17.LedgerTree", spec := "ledgerTree", inPlace := ["math/bits.Add64", "math/bits.Sub64", "internal/bytealg.Compare"], unfollowed := true, recurses := true, apart := false }
def LedgerTreeSaid : Prop := ledgerTreeRow.holds Tryz.pinned (OpenSpec.ofChange ledgerTreeSpec)

/-- ITS FALSE NEIGHBOUR: 'it returns false'. Refute it at one input. -/
def ledgerTreeWrong : ChangeSpec := { name := "ledgerTree", fn := fun _ => fun
  | [d1, d2, d3, d4] => { results := [.lit (.bool false)], args := [d1, d2, d3, d4] }
  | _ => none }
def LedgerTreeWrongFalsely : Prop := ledgerTreeRow.holds Tryz.pinned (OpenSpec.ofChange ledgerTreeWrong)

/-- 'witanlaw17.LedgerTwins': WHATEVER THE INPUT: true; the input reads as it did. -/
def ledgerTwinsSpec : ChangeSpec := { name := "ledgerTwins", fn := fun _ => fun
  | [d1, d2, d3, d4] => { results := [.lit (.bool true)], args := [d1, d2, d3, d4] }
  | _ => none }
def ledgerTwinsRow : OpenClaim := { program := "ytmkefpjpghmonaagreat", sum := "395d7222f5672990d2e006bd75d47f969a4b15f32fe6796d529eceaffdec6256", func := "witan/witanlaw17.LedgerTwins", spec := "ledgerTwins", inPlace := ["math/bits.Add64", "math/bits.Sub64", "internal/bytealg.Compare"], unfollowed := true, recurses := true, apart := false }
def LedgerTwinsSaid : Prop := ledgerTwinsRow.holds Tryz.pinned (OpenSpec.ofChange ledgerTwinsSpec)

/-- ITS FALSE NEIGHBOUR: 'it returns false'. Refute it at one input. -/
def ledgerTwinsWrong : ChangeSpec := { name := "ledgerTwins", fn := fun _ => fun
  | [d1, d2, d3, d4] => { results := [.lit (.bool false)], args := [d1, d2, d3, d4] }
  | _ => none }
def LedgerTwinsWrongFalsely : Prop := ledgerTwinsRow.holds Tryz.pinned (OpenSpec.ofChange ledgerTwinsWrong)

/-- 'witanlaw17.LedgerChains': WHATEVER THE INPUT: true; the input reads as it did. -/
def ledgerChainsSpec : ChangeSpec := { name := "ledgerChains", fn := fun _ => fun
  | [d1, d2, d3, d4] => { results := [.lit (.bool true)], args := [d1, d2, d3, d4] }
  | _ => none }
def ledgerChainsRow : OpenClaim := { program := "ytmkefpjpghmonaagreat", sum := "395d7222f5672990d2e006bd75d47f969a4b15f32fe6796d529eceaffdec6256", func := "witan/witanlaw17.LedgerChains", spec := "ledgerChains", inPlace := ["math/bits.Add64", "math/bits.Sub64", "internal/bytealg.Compare"], unfollowed := true, recurses := true, apart := false }
def LedgerChainsSaid : Prop := ledgerChainsRow.holds Tryz.pinned (OpenSpec.ofChange ledgerChainsSpec)

/-- ITS FALSE NEIGHBOUR: 'it returns false'. Refute it at one input. -/
def ledgerChainsWrong : ChangeSpec := { name := "ledgerChains", fn := fun _ => fun
  | [d1, d2, d3, d4] => { results := [.lit (.bool false)], args := [d1, d2, d3, d4] }
  | _ => none }
def LedgerChainsWrongFalsely : Prop := ledgerChainsRow.holds Tryz.pinned (OpenSpec.ofChange ledgerChainsWrong)

/-- 'witanlaw17.LedgerSkips': WHATEVER THE INPUT: true; the input reads as it did. -/
def ledgerSkipsSpec : ChangeSpec := { name := "ledgerSkips", fn := fun _ => fun
  | [d1, d2, d3, d4] => { results := [.lit (.bool true)], args := [d1, d2, d3, d4] }
  | _ => none }
def ledgerSkipsRow : OpenClaim := { program := "ytmkefpjpghmonaagreat", sum := "395d7222f5672990d2e006bd75d47f969a4b15f32fe6796d529eceaffdec6256", func := "witan/witanlaw17.LedgerSkips", spec := "ledgerSkips", inPlace := ["math/bits.Add64", "math/bits.Sub64", "internal/bytealg.Compare"], unfollowed := true, recurses := true, apart := false }
def LedgerSkipsSaid : Prop := ledgerSkipsRow.holds Tryz.pinned (OpenSpec.ofChange ledgerSkipsSpec)

/-- ITS FALSE NEIGHBOUR: 'it returns false'. Refute it at one input. -/
def ledgerSkipsWrong : ChangeSpec := { name := "ledgerSkips", fn := fun _ => fun
  | [d1, d2, d3, d4] => { results := [.lit (.bool false)], args := [d1, d2, d3, d4] }
  | _ => none }
def LedgerSkipsWrongFalsely : Prop := ledgerSkipsRow.holds Tryz.pinned (OpenSpec.ofChange ledgerSkipsWrong)

/-- 'witanlaw17.LedgerExact': WHATEVER THE INPUT: true; the input reads as it did. -/
def ledgerExactSpec : ChangeSpec := { name := "ledgerExact", fn := fun _ => fun
  | [d1, d2, d3, d4, d5] => { results := [.lit (.bool true)], args := [d1, d2, d3, d4, d5] }
  | _ => none }
def ledgerExactRow : OpenClaim := { program := "ytmkefpjpghmonaagreat", sum := "395d7222f5672990d2e006bd75d47f969a4b15f32fe6796d529eceaffdec6256", func := "witan/witanlaw17.LedgerExact", spec := "ledgerExact", inPlace := ["math/bits.Sub64", "math/bits.Add64", "internal/bytealg.Compare"], unfollowed := true, recurses := true, apart := false }
def LedgerExactSaid : Prop := ledgerExactRow.holds Tryz.pinned (OpenSpec.ofChange ledgerExactSpec)

/-- ITS FALSE NEIGHBOUR: 'it returns false'. Refute it at one input. -/
def ledgerExactWrong : ChangeSpec := { name := "ledgerExact", fn := fun _ => fun
  | [d1, d2, d3, d4, d5] => { results := [.lit (.bool false)], args := [d1, d2, d3, d4, d5] }
  | _ => none }
def LedgerExactWrongFalsely : Prop := ledgerExactRow.holds Tryz.pinned (OpenSpec.ofChange ledgerExactWrong)

/-- 'witanlaw18.FeedExact': WHATEVER THE INPUT: true; the input reads as it did. -/
def feedExactSpec : ChangeSpec := { name := "feedExact", fn := fun _ => fun
  | [d1, d2, d3, d4, d5] => { results := [.lit (.bool true)], args := [d1, d2, d3, d4, d5] }
  | _ => none }
def feedExactRow : OpenClaim := { program := "ytmkefpjpghmonaagreat", sum := "395d7222f5672990d2e006bd75d47f969a4b15f32fe6796d529eceaffdec6256", func := "witan/witanlaw18.FeedExact", spec := "feedExact", inPlace := ["math/bits.Add64", "math/bits.Sub64", "internal/bytealg.Compare"], unfollowed := true, recurses := true, apart := false }
def FeedExactSaid : Prop := feedExactRow.holds Tryz.pinned (OpenSpec.ofChange feedExactSpec)

/-- ITS FALSE NEIGHBOUR: 'it returns false'. Refute it at one input. -/
def feedExactWrong : ChangeSpec := { name := "feedExact", fn := fun _ => fun
  | [d1, d2, d3, d4, d5] => { results := [.lit (.bool false)], args := [d1, d2, d3, d4, d5] }
  | _ => none }
def FeedExactWrongFalsely : Prop := feedExactRow.holds Tryz.pinned (OpenSpec.ofChange feedExactWrong)

/-- 'witanlaw18.FeedStays': WHATEVER THE INPUT: true; the input reads as it did. -/
def feedStaysSpec : ChangeSpec := { name := "feedStays", fn := fun _ => fun
  | [d1, d2, d3, d4] => { results := [.lit (.bool true)], args := [d1, d2, d3, d4] }
  | _ => none }
def feedStaysRow : OpenClaim := { program := "ytmkefpjpghmonaagreat", sum := "395d7222f5672990d2e006bd75d47f969a4b15f32fe6796d529eceaffdec6256", func := "witan/witanlaw18.FeedStays", spec := "feedStays", inPlace := ["math/bits.Add64", "math/bits.Sub64", "internal/bytealg.Compare"], unfollowed := true, recurses := true, apart := false }
def FeedStaysSaid : Prop := feedStaysRow.holds Tryz.pinned (OpenSpec.ofChange feedStaysSpec)

/-- ITS FALSE NEIGHBOUR: 'it returns false'. Refute it at one input. -/
def feedStaysWrong : ChangeSpec := { name := "feedStays", fn := fun _ => fun
  | [d1, d2, d3, d4] => { results := [.lit (.bool false)], args := [d1, d2, d3, d4] }
  | _ => none }
def FeedStaysWrongFalsely : Prop := feedStaysRow.holds Tryz.pinned (OpenSpec.ofChange feedStaysWrong)

/-- 'witanlaw18.FeedOne': WHATEVER THE INPUT: true; the input reads as it did. -/
def feedOneSpec : ChangeSpec := { name := "feedOne", fn := fun _ => fun
  | [d1, d2, d3] => { results := [.lit (.bool true)], args := [d1, d2, d3] }
  | _ => none }
def feedOneRow : OpenClaim := { program := "ytmkefpjpghmonaagreat", sum := "395d7222f5672990d2e006bd75d47f969a4b15f32fe6796d529eceaffdec6256", func := "witan/witanlaw18.FeedOne", spec := "feedOne", inPlace := ["math/bits.Sub64", "math/bits.Add64", "internal/bytealg.Compare"], unfollowed := true, recurses := true, apart := false }
def FeedOneSaid : Prop := feedOneRow.holds Tryz.pinned (OpenSpec.ofChange feedOneSpec)

/-- ITS FALSE NEIGHBOUR: 'it returns false'. Refute it at one input. -/
def feedOneWrong : ChangeSpec := { name := "feedOne", fn := fun _ => fun
  | [d1, d2, d3] => { results := [.lit (.bool false)], args := [d1, d2, d3] }
  | _ => none }
def FeedOneWrongFalsely : Prop := feedOneRow.holds Tryz.pinned (OpenSpec.ofChange feedOneWrong)

/-- 'witanlaw18.FeedLeaps': WHATEVER THE INPUT: true; the input reads as it did. -/
def feedLeapsSpec : ChangeSpec := { name := "feedLeaps", fn := fun _ => fun
  | [d1, d2, d3] => { results := [.lit (.bool true)], args := [d1, d2, d3] }
  | _ => none }
def feedLeapsRow : OpenClaim := { program := "ytmkefpjpghmonaagreat", sum := "395d7222f5672990d2e006bd75d47f969a4b15f32fe6796d529eceaffdec6256", func := "witan/witanlaw18.FeedLeaps", spec := "feedLeaps", inPlace := ["math/bits.Sub64", "math/bits.Add64", "internal/bytealg.Compare"], unfollowed := true, recurses := true, apart := false }
def FeedLeapsSaid : Prop := feedLeapsRow.holds Tryz.pinned (OpenSpec.ofChange feedLeapsSpec)

/-- ITS FALSE NEIGHBOUR: 'it returns false'. Refute it at one input. -/
def feedLeapsWrong : ChangeSpec := { name := "feedLeaps", fn := fun _ => fun
  | [d1, d2, d3] => { results := [.lit (.bool false)], args := [d1, d2, d3] }
  | _ => none }
def FeedLeapsWrongFalsely : Prop := feedLeapsRow.holds Tryz.pinned (OpenSpec.ofChange feedLeapsWrong)

/- THE SECOND FORM. 'bulk': how many values and letters a reading holds, each counted each time it is reached (what is shared counts as often as it is met; a slice's spare places count too). A statement '..UptoSaid' is the law's where the arguments, and the package variables that the reading takes, are together of bulk at most 1048576: NARROWER than '..Said'. Prove '..Said' where nothing that the law and all that it calls make is longer than what came in: it says more and counts as full. Else prove '..UptoSaid'. A law counts once. -/
mutual
def uptoBulk {H : Type} : DataW H → Nat
  | .lit (.string bytes) => bytes.length + 1
  | .lit _ => 1
  | .nil => 1
  | .ptr d => uptoBulk d + 1
  | .slice elems spare => uptoBulkAll elems + uptoBulkAll spare + 1
  | .agg parts => uptoBulkAll parts + 1
  | .iface _ d => uptoBulk d + 1
  | .map entries => uptoBulkEntries entries + 1
  | .held _ => 1
def uptoBulkAll {H : Type} : List (DataW H) → Nat
  | [] => 0
  | d :: r => uptoBulk d + uptoBulkAll r
def uptoBulkEntries {H : Type} : List (Lit × DataW H) → Nat
  | [] => 0
  | x :: r => uptoBulkEntry x + uptoBulkEntries r
def uptoBulkEntry {H : Type} : Lit × DataW H → Nat
  | (.string bytes, d) => bytes.length + uptoBulk d + 1
  | (_, d) => uptoBulk d + 1
 end
def uptoSmall : (H : Type) → List (DataW H) → Bool := fun _ ds => decide (uptoBulkAll ds ≤ 1048576)
def OpenSpec.upto (s : _root_.Go.ChangeSpec) : _root_.Go.OpenSpec := { _root_.Go.OpenSpec.ofChange s with cond := some uptoSmall }

/-- 'witanlaw15.ContractLives', WHERE WHAT IT READS IS OF BULK AT MOST 1048576: true; the input reads as it did. -/
def contractLivesUptoRow : OpenClaim := { program := "ytmkefpjpghmonaagreat", sum := "395d7222f5672990d2e006bd75d47f969a4b15f32fe6796d529eceaffdec6256", func := "witan/witanlaw15.ContractLives", spec := "contractLives", inPlace := ["math/bits.Sub64", "math/bits.Add64"], unfollowed := true, recurses := true, apart := false, narrowed := true }
def ContractLivesUptoSaid : Prop := contractLivesUptoRow.holds Tryz.pinned (OpenSpec.upto contractLivesSpec)

/-- 'witanlaw15.ContractMoney', WHERE WHAT IT READS IS OF BULK AT MOST 1048576: true; the input reads as it did. -/
def contractMoneyUptoRow : OpenClaim := { program := "ytmkefpjpghmonaagreat", sum := "395d7222f5672990d2e006bd75d47f969a4b15f32fe6796d529eceaffdec6256", func := "witan/witanlaw15.ContractMoney", spec := "contractMoney", inPlace := ["math/bits.Sub64", "math/bits.Add64"], unfollowed := true, recurses := true, apart := false, narrowed := true }
def ContractMoneyUptoSaid : Prop := contractMoneyUptoRow.holds Tryz.pinned (OpenSpec.upto contractMoneySpec)

/-- 'witanlaw15.ContractPhases', WHERE WHAT IT READS IS OF BULK AT MOST 1048576: true; the input reads as it did. -/
def contractPhasesUptoRow : OpenClaim := { program := "ytmkefpjpghmonaagreat", sum := "395d7222f5672990d2e006bd75d47f969a4b15f32fe6796d529eceaffdec6256", func := "witan/witanlaw15.ContractPhases", spec := "contractPhases", inPlace := ["math/bits.Sub64", "math/bits.Add64"], unfollowed := true, recurses := true, apart := false, narrowed := true }
def ContractPhasesUptoSaid : Prop := contractPhasesUptoRow.holds Tryz.pinned (OpenSpec.upto contractPhasesSpec)

/-- 'witanlaw15.ContractHonest', WHERE WHAT IT READS IS OF BULK AT MOST 1048576: true; the input reads as it did. -/
def contractHonestUptoRow : OpenClaim := { program := "ytmkefpjpghmonaagreat", sum := "395d7222f5672990d2e006bd75d47f969a4b15f32fe6796d529eceaffdec6256", func := "witan/witanlaw15.ContractHonest", spec := "contractHonest", inPlace := ["math/bits.Add64", "math/bits.Sub64"], unfollowed := true, recurses := true, apart := false, narrowed := true }
def ContractHonestUptoSaid : Prop := contractHonestUptoRow.holds Tryz.pinned (OpenSpec.upto contractHonestSpec)

/-- 'witanlaw15.ContractOnce', WHERE WHAT IT READS IS OF BULK AT MOST 1048576: true; the input reads as it did. -/
def contractOnceUptoRow : OpenClaim := { program := "ytmkefpjpghmonaagreat", sum := "395d7222f5672990d2e006bd75d47f969a4b15f32fe6796d529eceaffdec6256", func := "witan/witanlaw15.ContractOnce", spec := "contractOnce", inPlace := ["math/bits.Sub64", "math/bits.Add64"], unfollowed := true, recurses := true, apart := false, narrowed := true }
def ContractOnceUptoSaid : Prop := contractOnceUptoRow.holds Tryz.pinned (OpenSpec.upto contractOnceSpec)

/-- 'witanlaw15.ContractLate', WHERE WHAT IT READS IS OF BULK AT MOST 1048576: true; the input reads as it did. -/
def contractLateUptoRow : OpenClaim := { program := "ytmkefpjpghmonaagreat", sum := "395d7222f5672990d2e006bd75d47f969a4b15f32fe6796d529eceaffdec6256", func := "witan/witanlaw15.ContractLate", spec := "contractLate", inPlace := ["math/bits.Sub64", "math/bits.Add64"], unfollowed := true, recurses := true, apart := false, narrowed := true }
def ContractLateUptoSaid : Prop := contractLateUptoRow.holds Tryz.pinned (OpenSpec.upto contractLateSpec)

/-- 'witanlaw15.ContractLazy', WHERE WHAT IT READS IS OF BULK AT MOST 1048576: true; the input reads as it did. -/
def contractLazyUptoRow : OpenClaim := { program := "ytmkefpjpghmonaagreat", sum := "395d7222f5672990d2e006bd75d47f969a4b15f32fe6796d529eceaffdec6256", func := "witan/witanlaw15.ContractLazy", spec := "contractLazy", inPlace := ["math/bits.Sub64", "math/bits.Add64"], unfollowed := true, recurses := true, apart := false, narrowed := true }
def ContractLazyUptoSaid : Prop := contractLazyUptoRow.holds Tryz.pinned (OpenSpec.upto contractLazySpec)

/-- 'witanlaw15.ContractFew', WHERE WHAT IT READS IS OF BULK AT MOST 1048576: true; the input reads as it did. -/
def contractFewUptoRow : OpenClaim := { program := "ytmkefpjpghmonaagreat", sum := "395d7222f5672990d2e006bd75d47f969a4b15f32fe6796d529eceaffdec6256", func := "witan/witanlaw15.ContractFew", spec := "contractFew", inPlace := ["math/bits.Sub64", "math/bits.Add64"], unfollowed := true, recurses := true, apart := false, narrowed := true }
def ContractFewUptoSaid : Prop := contractFewUptoRow.holds Tryz.pinned (OpenSpec.upto contractFewSpec)

/-- 'witanlaw15.ContractDisputes', WHERE WHAT IT READS IS OF BULK AT MOST 1048576: true; the input reads as it did. -/
def contractDisputesUptoRow : OpenClaim := { program := "ytmkefpjpghmonaagreat", sum := "395d7222f5672990d2e006bd75d47f969a4b15f32fe6796d529eceaffdec6256", func := "witan/witanlaw15.ContractDisputes", spec := "contractDisputes", inPlace := ["math/bits.Sub64", "math/bits.Add64"], unfollowed := true, recurses := true, apart := false, narrowed := true }
def ContractDisputesUptoSaid : Prop := contractDisputesUptoRow.holds Tryz.pinned (OpenSpec.upto contractDisputesSpec)

/-- 'witanlaw17.LedgerHeads', WHERE WHAT IT READS IS OF BULK AT MOST 1048576: true; the input reads as it did. -/
def ledgerHeadsUptoRow : OpenClaim := { program := "ytmkefpjpghmonaagreat", sum := "395d7222f5672990d2e006bd75d47f969a4b15f32fe6796d529eceaffdec6256", func := "witan/witanlaw17.LedgerHeads", spec := "ledgerHeads", inPlace := ["math/bits.Add64", "math/bits.Sub64", "internal/bytealg.Compare"], unfollowed := true, recurses := true, apart := false, narrowed := true }
def LedgerHeadsUptoSaid : Prop := ledgerHeadsUptoRow.holds Tryz.pinned (OpenSpec.upto ledgerHeadsSpec)

/-- 'witanlaw17.LedgerRefuses', WHERE WHAT IT READS IS OF BULK AT MOST 1048576: true; the input reads as it did. -/
def ledgerRefusesUptoRow : OpenClaim := { program := "ytmkefpjpghmonaagreat", sum := "395d7222f5672990d2e006bd75d47f969a4b15f32fe6796d529eceaffdec6256", func := "witan/witanlaw17.LedgerRefuses", spec := "ledgerRefuses", inPlace := ["math/bits.Add64", "math/bits.Sub64", "internal/bytealg.Compare"], unfollowed := true, recurses := true, apart := false, narrowed := true }
def LedgerRefusesUptoSaid : Prop := ledgerRefusesUptoRow.holds Tryz.pinned (OpenSpec.upto ledgerRefusesSpec)

/-- 'witanlaw17.LedgerTree', WHERE WHAT IT READS IS OF BULK AT MOST 1048576: true; the input reads as it did. -/
def ledgerTreeUptoRow : OpenClaim := { program := "ytmkefpjpghmonaagreat", sum := "395d7222f5672990d2e006bd75d47f969a4b15f32fe6796d529eceaffdec6256", func := "witan/witanlaw17.LedgerTree", spec := "ledgerTree", inPlace := ["math/bits.Add64", "math/bits.Sub64", "internal/bytealg.Compare"], unfollowed := true, recurses := true, apart := false, narrowed := true }
def LedgerTreeUptoSaid : Prop := ledgerTreeUptoRow.holds Tryz.pinned (OpenSpec.upto ledgerTreeSpec)

/-- 'witanlaw17.LedgerTwins', WHERE WHAT IT READS IS OF BULK AT MOST 1048576: true; the input reads as it did. -/
def ledgerTwinsUptoRow : OpenClaim := { program := "ytmkefpjpghmonaagreat", sum := "395d7222f5672990d2e006bd75d47f969a4b15f32fe6796d529eceaffdec6256", func := "witan/witanlaw17.LedgerTwins", spec := "ledgerTwins", inPlace := ["math/bits.Add64", "math/bits.Sub64", "internal/bytealg.Compare"], unfollowed := true, recurses := true, apart := false, narrowed := true }
def LedgerTwinsUptoSaid : Prop := ledgerTwinsUptoRow.holds Tryz.pinned (OpenSpec.upto ledgerTwinsSpec)

/-- 'witanlaw17.LedgerChains', WHERE WHAT IT READS IS OF BULK AT MOST 1048576: true; the input reads as it did. -/
def ledgerChainsUptoRow : OpenClaim := { program := "ytmkefpjpghmonaagreat", sum := "395d7222f5672990d2e006bd75d47f969a4b15f32fe6796d529eceaffdec6256", func := "witan/witanlaw17.LedgerChains", spec := "ledgerChains", inPlace := ["math/bits.Add64", "math/bits.Sub64", "internal/bytealg.Compare"], unfollowed := true, recurses := true, apart := false, narrowed := true }
def LedgerChainsUptoSaid : Prop := ledgerChainsUptoRow.holds Tryz.pinned (OpenSpec.upto ledgerChainsSpec)

/-- 'witanlaw17.LedgerSkips', WHERE WHAT IT READS IS OF BULK AT MOST 1048576: true; the input reads as it did. -/
def ledgerSkipsUptoRow : OpenClaim := { program := "ytmkefpjpghmonaagreat", sum := "395d7222f5672990d2e006bd75d47f969a4b15f32fe6796d529eceaffdec6256", func := "witan/witanlaw17.LedgerSkips", spec := "ledgerSkips", inPlace := ["math/bits.Add64", "math/bits.Sub64", "internal/bytealg.Compare"], unfollowed := true, recurses := true, apart := false, narrowed := true }
def LedgerSkipsUptoSaid : Prop := ledgerSkipsUptoRow.holds Tryz.pinned (OpenSpec.upto ledgerSkipsSpec)

/-- 'witanlaw17.LedgerExact', WHERE WHAT IT READS IS OF BULK AT MOST 1048576: true; the input reads as it did. -/
def ledgerExactUptoRow : OpenClaim := { program := "ytmkefpjpghmonaagreat", sum := "395d7222f5672990d2e006bd75d47f969a4b15f32fe6796d529eceaffdec6256", func := "witan/witanlaw17.LedgerExact", spec := "ledgerExact", inPlace := ["math/bits.Sub64", "math/bits.Add64", "internal/bytealg.Compare"], unfollowed := true, recurses := true, apart := false, narrowed := true }
def LedgerExactUptoSaid : Prop := ledgerExactUptoRow.holds Tryz.pinned (OpenSpec.upto ledgerExactSpec)

/-- 'witanlaw18.FeedExact', WHERE WHAT IT READS IS OF BULK AT MOST 1048576: true; the input reads as it did. -/
def feedExactUptoRow : OpenClaim := { program := "ytmkefpjpghmonaagreat", sum := "395d7222f5672990d2e006bd75d47f969a4b15f32fe6796d529eceaffdec6256", func := "witan/witanlaw18.FeedExact", spec := "feedExact", inPlace := ["math/bits.Add64", "math/bits.Sub64", "internal/bytealg.Compare"], unfollowed := true, recurses := true, apart := false, narrowed := true }
def FeedExactUptoSaid : Prop := feedExactUptoRow.holds Tryz.pinned (OpenSpec.upto feedExactSpec)

/-- 'witanlaw18.FeedStays', WHERE WHAT IT READS IS OF BULK AT MOST 1048576: true; the input reads as it did. -/
def feedStaysUptoRow : OpenClaim := { program := "ytmkefpjpghmonaagreat", sum := "395d7222f5672990d2e006bd75d47f969a4b15f32fe6796d529eceaffdec6256", func := "witan/witanlaw18.FeedStays", spec := "feedStays", inPlace := ["math/bits.Add64", "math/bits.Sub64", "internal/bytealg.Compare"], unfollowed := true, recurses := true, apart := false, narrowed := true }
def FeedStaysUptoSaid : Prop := feedStaysUptoRow.holds Tryz.pinned (OpenSpec.upto feedStaysSpec)

/-- 'witanlaw18.FeedOne', WHERE WHAT IT READS IS OF BULK AT MOST 1048576: true; the input reads as it did. -/
def feedOneUptoRow : OpenClaim := { program := "ytmkefpjpghmonaagreat", sum := "395d7222f5672990d2e006bd75d47f969a4b15f32fe6796d529eceaffdec6256", func := "witan/witanlaw18.FeedOne", spec := "feedOne", inPlace := ["math/bits.Sub64", "math/bits.Add64", "internal/bytealg.Compare"], unfollowed := true, recurses := true, apart := false, narrowed := true }
def FeedOneUptoSaid : Prop := feedOneUptoRow.holds Tryz.pinned (OpenSpec.upto feedOneSpec)

/-- 'witanlaw18.FeedLeaps', WHERE WHAT IT READS IS OF BULK AT MOST 1048576: true; the input reads as it did. -/
def feedLeapsUptoRow : OpenClaim := { program := "ytmkefpjpghmonaagreat", sum := "395d7222f5672990d2e006bd75d47f969a4b15f32fe6796d529eceaffdec6256", func := "witan/witanlaw18.FeedLeaps", spec := "feedLeaps", inPlace := ["math/bits.Sub64", "math/bits.Add64", "internal/bytealg.Compare"], unfollowed := true, recurses := true, apart := false, narrowed := true }
def FeedLeapsUptoSaid : Prop := feedLeapsUptoRow.holds Tryz.pinned (OpenSpec.upto feedLeapsSpec)

end Rows
end Go.Proofs.YtmkefpjpghmonaaGreat
