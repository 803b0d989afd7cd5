/-
  No cell of these rows narrows 'for every input' (looked for: loops, veiled, ifaces, maps, wideKeys, modest, calm, conditions, laid).
  DERIVED. THE GIVEN ROWS OF THIS SEAT. 14 by the template 'for every input the law returns true; each argument reads behind the call as it read before'; 0 by the template 'total and deterministic' (their statements: YtnombgiacfeloaaTotals.lean).
  GIVEN WITH THE SEED: the statements are not yours to turn. If you find one false, say at which input.
  Laid BY PROGRAM, IN A SANDBOX (cutbox-rows.mjs): the forced cells as the released guide's own fill.sh prints them over the translation b0331f308b3ec924… (all of the seat's roots in one cut). By AI agents, Wed Nov 11 2026. No macro, syntax, notation, axiom, sorry.
-/
import Derived.Test.YtnombgiacfeloaaChecked
import GoSem.Claim
import GoSem.ClaimJoined
import GoSem.ClaimMapViews
import Derived.JoinedTies
import Derived.KernelRfl
namespace Go.Proofs.Ytnombgiacfeloaa
/- THE CELL 'sum', in the pinned program and in every row, IS THE sha256 OF THE DUMP (.gsa) THAT YtnombgiacfeloaaProg.lean LOADS. Nothing in Lean hashes anything: it is a label: what it is worth is what the hold of that sum in a sandbox is worth. -/
noncomputable def Try.pinned : Pinned := { name := "ytnombgiacfeloaa", sum := "b0331f308b3ec924d843cb09d8f36a0fab7ba363c6e45eb7c4e96b0a38d6a57e", checked := Try.checked }
namespace Rows
def none {H : Type} : Left H := { results := [], args := [] }

/-- 'stearinlaw08.StubWeights': WHATEVER THE INPUT: true; the input reads as it did. -/
def stubWeightsSpec : ChangeSpec := { name := "stubWeights", fn := fun _ => fun
  | [d1, d2, d3] => { results := [.lit (.bool true)], args := [d1, d2, d3] }
  | _ => none }
def stubWeightsRow : OpenClaim := { program := "ytnombgiacfeloaa", sum := "b0331f308b3ec924d843cb09d8f36a0fab7ba363c6e45eb7c4e96b0a38d6a57e", func := "stearin/stearinlaw08.StubWeights", spec := "stubWeights", unfollowed := true, recurses := true, apart := false }
def StubWeightsSaid : Prop := stubWeightsRow.holds Try.pinned (OpenSpec.ofChange stubWeightsSpec)

/-- ITS FALSE NEIGHBOUR: 'it returns false'. Refute it at one input. -/
def stubWeightsWrong : ChangeSpec := { name := "stubWeights", fn := fun _ => fun
  | [d1, d2, d3] => { results := [.lit (.bool false)], args := [d1, d2, d3] }
  | _ => none }
def StubWeightsWrongFalsely : Prop := stubWeightsRow.holds Try.pinned (OpenSpec.ofChange stubWeightsWrong)

/-- 'stearinlaw08.StubCheats': WHATEVER THE INPUT: true; the input reads as it did. -/
def stubCheatsSpec : ChangeSpec := { name := "stubCheats", fn := fun _ => fun
  | [d1, d2, d3] => { results := [.lit (.bool true)], args := [d1, d2, d3] }
  | _ => none }
def stubCheatsRow : OpenClaim := { program := "ytnombgiacfeloaa", sum := "b0331f308b3ec924d843cb09d8f36a0fab7ba363c6e45eb7c4e96b0a38d6a57e", func := "stearin/stearinlaw08.StubCheats", spec := "stubCheats", unfollowed := true, recurses := true, apart := false }
def StubCheatsSaid : Prop := stubCheatsRow.holds Try.pinned (OpenSpec.ofChange stubCheatsSpec)

/-- ITS FALSE NEIGHBOUR: 'it returns false'. Refute it at one input. -/
def stubCheatsWrong : ChangeSpec := { name := "stubCheats", fn := fun _ => fun
  | [d1, d2, d3] => { results := [.lit (.bool false)], args := [d1, d2, d3] }
  | _ => none }
def StubCheatsWrongFalsely : Prop := stubCheatsRow.holds Try.pinned (OpenSpec.ofChange stubCheatsWrong)

/-- 'stearinlaw08.StubBags': WHATEVER THE INPUT: true; the input reads as it did. -/
def stubBagsSpec : ChangeSpec := { name := "stubBags", fn := fun _ => fun
  | [d1, d2] => { results := [.lit (.bool true)], args := [d1, d2] }
  | _ => none }
def stubBagsRow : OpenClaim := { program := "ytnombgiacfeloaa", sum := "b0331f308b3ec924d843cb09d8f36a0fab7ba363c6e45eb7c4e96b0a38d6a57e", func := "stearin/stearinlaw08.StubBags", spec := "stubBags", unfollowed := true, recurses := true, apart := false }
def StubBagsSaid : Prop := stubBagsRow.holds Try.pinned (OpenSpec.ofChange stubBagsSpec)

/-- ITS FALSE NEIGHBOUR: 'it returns false'. Refute it at one input. -/
def stubBagsWrong : ChangeSpec := { name := "stubBags", fn := fun _ => fun
  | [d1, d2] => { results := [.lit (.bool false)], args := [d1, d2] }
  | _ => none }
def StubBagsWrongFalsely : Prop := stubBagsRow.holds Try.pinned (OpenSpec.ofChange stubBagsWrong)

/-- 'stearinlaw08.StubKnown': WHATEVER THE INPUT: true; the input reads as it did. -/
def stubKnownSpec : ChangeSpec := { name := "stubKnown", fn := fun _ => fun
  | [] => { results := [.lit (.bool true)], args := [] }
  | _ => none }
def stubKnownRow : OpenClaim := { program := "ytnombgiacfeloaa", sum := "b0331f308b3ec924d843cb09d8f36a0fab7ba363c6e45eb7c4e96b0a38d6a57e", func := "stearin/stearinlaw08.StubKnown", spec := "stubKnown", unfollowed := true, recurses := true, apart := false }
def StubKnownSaid : Prop := stubKnownRow.holds Try.pinned (OpenSpec.ofChange stubKnownSpec)

/-- ITS FALSE NEIGHBOUR: 'it returns false'. Refute it at one input. -/
def stubKnownWrong : ChangeSpec := { name := "stubKnown", fn := fun _ => fun
  | [] => { results := [.lit (.bool false)], args := [] }
  | _ => none }
def StubKnownWrongFalsely : Prop := stubKnownRow.holds Try.pinned (OpenSpec.ofChange stubKnownWrong)

/-- 'stearinlaw08.StubTrue': WHATEVER THE INPUT: true; the input reads as it did. -/
def stubTrueSpec : ChangeSpec := { name := "stubTrue", fn := fun _ => fun
  | [d1, d2, d3] => { results := [.lit (.bool true)], args := [d1, d2, d3] }
  | _ => none }
def stubTrueRow : OpenClaim := { program := "ytnombgiacfeloaa", sum := "b0331f308b3ec924d843cb09d8f36a0fab7ba363c6e45eb7c4e96b0a38d6a57e", func := "stearin/stearinlaw08.StubTrue", spec := "stubTrue", unfollowed := true, recurses := true, apart := false }
def StubTrueSaid : Prop := stubTrueRow.holds Try.pinned (OpenSpec.ofChange stubTrueSpec)

/-- ITS FALSE NEIGHBOUR: 'it returns false'. Refute it at one input. -/
def stubTrueWrong : ChangeSpec := { name := "stubTrue", fn := fun _ => fun
  | [d1, d2, d3] => { results := [.lit (.bool false)], args := [d1, d2, d3] }
  | _ => none }
def StubTrueWrongFalsely : Prop := stubTrueRow.holds Try.pinned (OpenSpec.ofChange stubTrueWrong)

/-- 'stearinlaw08.StubReached': WHATEVER THE INPUT: true; the input reads as it did. -/
def stubReachedSpec : ChangeSpec := { name := "stubReached", fn := fun _ => fun
  | [d1, d2, d3] => { results := [.lit (.bool true)], args := [d1, d2, d3] }
  | _ => none }
def stubReachedRow : OpenClaim := { program := "ytnombgiacfeloaa", sum := "b0331f308b3ec924d843cb09d8f36a0fab7ba363c6e45eb7c4e96b0a38d6a57e", func := "stearin/stearinlaw08.StubReached", spec := "stubReached", unfollowed := true, recurses := true, apart := false }
def StubReachedSaid : Prop := stubReachedRow.holds Try.pinned (OpenSpec.ofChange stubReachedSpec)

/-- ITS FALSE NEIGHBOUR: 'it returns false'. Refute it at one input. -/
def stubReachedWrong : ChangeSpec := { name := "stubReached", fn := fun _ => fun
  | [d1, d2, d3] => { results := [.lit (.bool false)], args := [d1, d2, d3] }
  | _ => none }
def StubReachedWrongFalsely : Prop := stubReachedRow.holds Try.pinned (OpenSpec.ofChange stubReachedWrong)

/-- 'stearinlaw08.StubConserved': WHATEVER THE INPUT: true; the input reads as it did. -/
def stubConservedSpec : ChangeSpec := { name := "stubConserved", fn := fun _ => fun
  | [d1, d2, d3] => { results := [.lit (.bool true)], args := [d1, d2, d3] }
  | _ => none }
def stubConservedRow : OpenClaim := { program := "ytnombgiacfeloaa", sum := "b0331f308b3ec924d843cb09d8f36a0fab7ba363c6e45eb7c4e96b0a38d6a57e", func := "stearin/stearinlaw08.StubConserved", spec := "stubConserved", unfollowed := true, recurses := true, apart := false }
def StubConservedSaid : Prop := stubConservedRow.holds Try.pinned (OpenSpec.ofChange stubConservedSpec)

/-- ITS FALSE NEIGHBOUR: 'it returns false'. Refute it at one input. -/
def stubConservedWrong : ChangeSpec := { name := "stubConserved", fn := fun _ => fun
  | [d1, d2, d3] => { results := [.lit (.bool false)], args := [d1, d2, d3] }
  | _ => none }
def StubConservedWrongFalsely : Prop := stubConservedRow.holds Try.pinned (OpenSpec.ofChange stubConservedWrong)

/-- 'stearinlaw08.StubCheat': WHATEVER THE INPUT: true; the input reads as it did. -/
def stubCheatSpec : ChangeSpec := { name := "stubCheat", fn := fun _ => fun
  | [d1, d2, d3] => { results := [.lit (.bool true)], args := [d1, d2, d3] }
  | _ => none }
def stubCheatRow : OpenClaim := { program := "ytnombgiacfeloaa", sum := "b0331f308b3ec924d843cb09d8f36a0fab7ba363c6e45eb7c4e96b0a38d6a57e", func := "stearin/stearinlaw08.StubCheat", spec := "stubCheat", unfollowed := true, recurses := true, apart := false }
def StubCheatSaid : Prop := stubCheatRow.holds Try.pinned (OpenSpec.ofChange stubCheatSpec)

/-- ITS FALSE NEIGHBOUR: 'it returns false'. Refute it at one input. -/
def stubCheatWrong : ChangeSpec := { name := "stubCheat", fn := fun _ => fun
  | [d1, d2, d3] => { results := [.lit (.bool false)], args := [d1, d2, d3] }
  | _ => none }
def StubCheatWrongFalsely : Prop := stubCheatRow.holds Try.pinned (OpenSpec.ofChange stubCheatWrong)

/-- 'stearinlaw08.StubMore': WHATEVER THE INPUT: true; the input reads as it did. -/
def stubMoreSpec : ChangeSpec := { name := "stubMore", fn := fun _ => fun
  | [d1, d2, d3] => { results := [.lit (.bool true)], args := [d1, d2, d3] }
  | _ => none }
def stubMoreRow : OpenClaim := { program := "ytnombgiacfeloaa", sum := "b0331f308b3ec924d843cb09d8f36a0fab7ba363c6e45eb7c4e96b0a38d6a57e", func := "stearin/stearinlaw08.StubMore", spec := "stubMore", unfollowed := true, recurses := true, apart := false }
def StubMoreSaid : Prop := stubMoreRow.holds Try.pinned (OpenSpec.ofChange stubMoreSpec)

/-- ITS FALSE NEIGHBOUR: 'it returns false'. Refute it at one input. -/
def stubMoreWrong : ChangeSpec := { name := "stubMore", fn := fun _ => fun
  | [d1, d2, d3] => { results := [.lit (.bool false)], args := [d1, d2, d3] }
  | _ => none }
def StubMoreWrongFalsely : Prop := stubMoreRow.holds Try.pinned (OpenSpec.ofChange stubMoreWrong)

/-- 'stearinlaw08.StubSure': WHATEVER THE INPUT: true; the input reads as it did. -/
def stubSureSpec : ChangeSpec := { name := "stubSure", fn := fun _ => fun
  | [d1, d2, d3] => { results := [.lit (.bool true)], args := [d1, d2, d3] }
  | _ => none }
def stubSureRow : OpenClaim := { program := "ytnombgiacfeloaa", sum := "b0331f308b3ec924d843cb09d8f36a0fab7ba363c6e45eb7c4e96b0a38d6a57e", func := "stearin/stearinlaw08.StubSure", spec := "stubSure", unfollowed := true, recurses := true, apart := false }
def StubSureSaid : Prop := stubSureRow.holds Try.pinned (OpenSpec.ofChange stubSureSpec)

/-- ITS FALSE NEIGHBOUR: 'it returns false'. Refute it at one input. -/
def stubSureWrong : ChangeSpec := { name := "stubSure", fn := fun _ => fun
  | [d1, d2, d3] => { results := [.lit (.bool false)], args := [d1, d2, d3] }
  | _ => none }
def StubSureWrongFalsely : Prop := stubSureRow.holds Try.pinned (OpenSpec.ofChange stubSureWrong)

/-- 'stearinlaw08.StubPerhaps': WHATEVER THE INPUT: true; the input reads as it did. -/
def stubPerhapsSpec : ChangeSpec := { name := "stubPerhaps", fn := fun _ => fun
  | [d1, d2] => { results := [.lit (.bool true)], args := [d1, d2] }
  | _ => none }
def stubPerhapsRow : OpenClaim := { program := "ytnombgiacfeloaa", sum := "b0331f308b3ec924d843cb09d8f36a0fab7ba363c6e45eb7c4e96b0a38d6a57e", func := "stearin/stearinlaw08.StubPerhaps", spec := "stubPerhaps", unfollowed := true, recurses := true, apart := false }
def StubPerhapsSaid : Prop := stubPerhapsRow.holds Try.pinned (OpenSpec.ofChange stubPerhapsSpec)

/-- ITS FALSE NEIGHBOUR: 'it returns false'. Refute it at one input. -/
def stubPerhapsWrong : ChangeSpec := { name := "stubPerhaps", fn := fun _ => fun
  | [d1, d2] => { results := [.lit (.bool false)], args := [d1, d2] }
  | _ => none }
def StubPerhapsWrongFalsely : Prop := stubPerhapsRow.holds Try.pinned (OpenSpec.ofChange stubPerhapsWrong)

/-- 'stearinlaw08.StubBest': WHATEVER THE INPUT: true; the input reads as it did. -/
def stubBestSpec : ChangeSpec := { name := "stubBest", fn := fun _ => fun
  | [d1, d2, d3] => { results := [.lit (.bool true)], args := [d1, d2, d3] }
  | _ => none }
def stubBestRow : OpenClaim := { program := "ytnombgiacfeloaa", sum := "b0331f308b3ec924d843cb09d8f36a0fab7ba363c6e45eb7c4e96b0a38d6a57e", func := "stearin/stearinlaw08.StubBest", spec := "stubBest", unfollowed := true, recurses := true, apart := false }
def StubBestSaid : Prop := stubBestRow.holds Try.pinned (OpenSpec.ofChange stubBestSpec)

/-- ITS FALSE NEIGHBOUR: 'it returns false'. Refute it at one input. -/
def stubBestWrong : ChangeSpec := { name := "stubBest", fn := fun _ => fun
  | [d1, d2, d3] => { results := [.lit (.bool false)], args := [d1, d2, d3] }
  | _ => none }
def StubBestWrongFalsely : Prop := stubBestRow.holds Try.pinned (OpenSpec.ofChange stubBestWrong)

/-- 'stearinlaw08.StubMilder': WHATEVER THE INPUT: true; the input reads as it did. -/
def stubMilderSpec : ChangeSpec := { name := "stubMilder", fn := fun _ => fun
  | [d1, d2, d3] => { results := [.lit (.bool true)], args := [d1, d2, d3] }
  | _ => none }
def stubMilderRow : OpenClaim := { program := "ytnombgiacfeloaa", sum := "b0331f308b3ec924d843cb09d8f36a0fab7ba363c6e45eb7c4e96b0a38d6a57e", func := "stearin/stearinlaw08.StubMilder", spec := "stubMilder", unfollowed := true, recurses := true, apart := false }
def StubMilderSaid : Prop := stubMilderRow.holds Try.pinned (OpenSpec.ofChange stubMilderSpec)

/-- ITS FALSE NEIGHBOUR: 'it returns false'. Refute it at one input. -/
def stubMilderWrong : ChangeSpec := { name := "stubMilder", fn := fun _ => fun
  | [d1, d2, d3] => { results := [.lit (.bool false)], args := [d1, d2, d3] }
  | _ => none }
def StubMilderWrongFalsely : Prop := stubMilderRow.holds Try.pinned (OpenSpec.ofChange stubMilderWrong)

/-- 'stearinlaw08.StubOrder': WHATEVER THE INPUT: true; the input reads as it did. -/
def stubOrderSpec : ChangeSpec := { name := "stubOrder", fn := fun _ => fun
  | [d1, d2, d3] => { results := [.lit (.bool true)], args := [d1, d2, d3] }
  | _ => none }
def stubOrderRow : OpenClaim := { program := "ytnombgiacfeloaa", sum := "b0331f308b3ec924d843cb09d8f36a0fab7ba363c6e45eb7c4e96b0a38d6a57e", func := "stearin/stearinlaw08.StubOrder", spec := "stubOrder", unfollowed := true, recurses := true, apart := false }
def StubOrderSaid : Prop := stubOrderRow.holds Try.pinned (OpenSpec.ofChange stubOrderSpec)

/-- ITS FALSE NEIGHBOUR: 'it returns false'. Refute it at one input. -/
def stubOrderWrong : ChangeSpec := { name := "stubOrder", fn := fun _ => fun
  | [d1, d2, d3] => { results := [.lit (.bool false)], args := [d1, d2, d3] }
  | _ => none }
def StubOrderWrongFalsely : Prop := stubOrderRow.holds Try.pinned (OpenSpec.ofChange stubOrderWrong)

/- THE SECOND FORM. 'bulk': how many values and letters a reading holds, each counted each time it is reached (what is shared counts as often as it is met; a slice's spare places count too). A statement '..UptoSaid' is the law's where the arguments, and the package variables that the reading takes, are together of bulk at most 1048576: NARROWER than '..Said'. Prove '..Said' where nothing that the law and all that it calls make is longer than what came in: it says more and counts as full. Else prove '..UptoSaid'. A law counts once. -/
mutual
def uptoBulk {H : Type} : DataW H → Nat
  | .lit (.string bytes) => bytes.length + 1
  | .lit _ => 1
  | .nil => 1
  | .ptr d => uptoBulk d + 1
  | .slice elems spare => uptoBulkAll elems + uptoBulkAll spare + 1
  | .agg parts => uptoBulkAll parts + 1
  | .iface _ d => uptoBulk d + 1
  | .map entries => uptoBulkEntries entries + 1
  | .held _ => 1
def uptoBulkAll {H : Type} : List (DataW H) → Nat
  | [] => 0
  | d :: r => uptoBulk d + uptoBulkAll r
def uptoBulkEntries {H : Type} : List (Lit × DataW H) → Nat
  | [] => 0
  | x :: r => uptoBulkEntry x + uptoBulkEntries r
def uptoBulkEntry {H : Type} : Lit × DataW H → Nat
  | (.string bytes, d) => bytes.length + uptoBulk d + 1
  | (_, d) => uptoBulk d + 1
 end
def uptoSmall : (H : Type) → List (DataW H) → Bool := fun _ ds => decide (uptoBulkAll ds ≤ 1048576)
def OpenSpec.upto (s : _root_.Go.ChangeSpec) : _root_.Go.OpenSpec := { _root_.Go.OpenSpec.ofChange s with cond := some uptoSmall }

/-- 'stearinlaw08.StubWeights', WHERE WHAT IT READS IS OF BULK AT MOST 1048576: true; the input reads as it did. -/
def stubWeightsUptoRow : OpenClaim := { program := "ytnombgiacfeloaa", sum := "b0331f308b3ec924d843cb09d8f36a0fab7ba363c6e45eb7c4e96b0a38d6a57e", func := "stearin/stearinlaw08.StubWeights", spec := "stubWeights", unfollowed := true, recurses := true, apart := false, narrowed := true }
def StubWeightsUptoSaid : Prop := stubWeightsUptoRow.holds Try.pinned (OpenSpec.upto stubWeightsSpec)

/-- 'stearinlaw08.StubCheats', WHERE WHAT IT READS IS OF BULK AT MOST 1048576: true; the input reads as it did. -/
def stubCheatsUptoRow : OpenClaim := { program := "ytnombgiacfeloaa", sum := "b0331f308b3ec924d843cb09d8f36a0fab7ba363c6e45eb7c4e96b0a38d6a57e", func := "stearin/stearinlaw08.StubCheats", spec := "stubCheats", unfollowed := true, recurses := true, apart := false, narrowed := true }
def StubCheatsUptoSaid : Prop := stubCheatsUptoRow.holds Try.pinned (OpenSpec.upto stubCheatsSpec)

/-- 'stearinlaw08.StubBags', WHERE WHAT IT READS IS OF BULK AT MOST 1048576: true; the input reads as it did. -/
def stubBagsUptoRow : OpenClaim := { program := "ytnombgiacfeloaa", sum := "b0331f308b3ec924d843cb09d8f36a0fab7ba363c6e45eb7c4e96b0a38d6a57e", func := "stearin/stearinlaw08.StubBags", spec := "stubBags", unfollowed := true, recurses := true, apart := false, narrowed := true }
def StubBagsUptoSaid : Prop := stubBagsUptoRow.holds Try.pinned (OpenSpec.upto stubBagsSpec)

/-- 'stearinlaw08.StubKnown', WHERE WHAT IT READS IS OF BULK AT MOST 1048576: true; the input reads as it did. -/
def stubKnownUptoRow : OpenClaim := { program := "ytnombgiacfeloaa", sum := "b0331f308b3ec924d843cb09d8f36a0fab7ba363c6e45eb7c4e96b0a38d6a57e", func := "stearin/stearinlaw08.StubKnown", spec := "stubKnown", unfollowed := true, recurses := true, apart := false, narrowed := true }
def StubKnownUptoSaid : Prop := stubKnownUptoRow.holds Try.pinned (OpenSpec.upto stubKnownSpec)

/-- 'stearinlaw08.StubTrue', WHERE WHAT IT READS IS OF BULK AT MOST 1048576: true; the input reads as it did. -/
def stubTrueUptoRow : OpenClaim := { program := "ytnombgiacfeloaa", sum := "b0331f308b3ec924d843cb09d8f36a0fab7ba363c6e45eb7c4e96b0a38d6a57e", func := "stearin/stearinlaw08.StubTrue", spec := "stubTrue", unfollowed := true, recurses := true, apart := false, narrowed := true }
def StubTrueUptoSaid : Prop := stubTrueUptoRow.holds Try.pinned (OpenSpec.upto stubTrueSpec)

/-- 'stearinlaw08.StubReached', WHERE WHAT IT READS IS OF BULK AT MOST 1048576: true; the input reads as it did. -/
def stubReachedUptoRow : OpenClaim := { program := "ytnombgiacfeloaa", sum := "b0331f308b3ec924d843cb09d8f36a0fab7ba363c6e45eb7c4e96b0a38d6a57e", func := "stearin/stearinlaw08.StubReached", spec := "stubReached", unfollowed := true, recurses := true, apart := false, narrowed := true }
def StubReachedUptoSaid : Prop := stubReachedUptoRow.holds Try.pinned (OpenSpec.upto stubReachedSpec)

/-- 'stearinlaw08.StubConserved', WHERE WHAT IT READS IS OF BULK AT MOST 1048576: true; the input reads as it did. -/
def stubConservedUptoRow : OpenClaim := { program := "ytnombgiacfeloaa", sum := "b0331f308b3ec924d843cb09d8f36a0fab7ba363c6e45eb7c4e96b0a38d6a57e", func := "stearin/stearinlaw08.StubConserved", spec := "stubConserved", unfollowed := true, recurses := true, apart := false, narrowed := true }
def StubConservedUptoSaid : Prop := stubConservedUptoRow.holds Try.pinned (OpenSpec.upto stubConservedSpec)

/-- 'stearinlaw08.StubCheat', WHERE WHAT IT READS IS OF BULK AT MOST 1048576: true; the input reads as it did. -/
def stubCheatUptoRow : OpenClaim := { program := "ytnombgiacfeloaa", sum := "b0331f308b3ec924d843cb09d8f36a0fab7ba363c6e45eb7c4e96b0a38d6a57e", func := "stearin/stearinlaw08.StubCheat", spec := "stubCheat", unfollowed := true, recurses := true, apart := false, narrowed := true }
def StubCheatUptoSaid : Prop := stubCheatUptoRow.holds Try.pinned (OpenSpec.upto stubCheatSpec)

/-- 'stearinlaw08.StubMore', WHERE WHAT IT READS IS OF BULK AT MOST 1048576: true; the input reads as it did. -/
def stubMoreUptoRow : OpenClaim := { program := "ytnombgiacfeloaa", sum := "b0331f308b3ec924d843cb09d8f36a0fab7ba363c6e45eb7c4e96b0a38d6a57e", func := "stearin/stearinlaw08.StubMore", spec := "stubMore", unfollowed := true, recurses := true, apart := false, narrowed := true }
def StubMoreUptoSaid : Prop := stubMoreUptoRow.holds Try.pinned (OpenSpec.upto stubMoreSpec)

/-- 'stearinlaw08.StubSure', WHERE WHAT IT READS IS OF BULK AT MOST 1048576: true; the input reads as it did. -/
def stubSureUptoRow : OpenClaim := { program := "ytnombgiacfeloaa", sum := "b0331f308b3ec924d843cb09d8f36a0fab7ba363c6e45eb7c4e96b0a38d6a57e", func := "stearin/stearinlaw08.StubSure", spec := "stubSure", unfollowed := true, recurses := true, apart := false, narrowed := true }
def StubSureUptoSaid : Prop := stubSureUptoRow.holds Try.pinned (OpenSpec.upto stubSureSpec)

/-- 'stearinlaw08.StubPerhaps', WHERE WHAT IT READS IS OF BULK AT MOST 1048576: true; the input reads as it did. -/
def stubPerhapsUptoRow : OpenClaim := { program := "ytnombgiacfeloaa", sum := "b0331f308b3ec924d843cb09d8f36a0fab7ba363c6e45eb7c4e96b0a38d6a57e", func := "stearin/stearinlaw08.StubPerhaps", spec := "stubPerhaps", unfollowed := true, recurses := true, apart := false, narrowed := true }
def StubPerhapsUptoSaid : Prop := stubPerhapsUptoRow.holds Try.pinned (OpenSpec.upto stubPerhapsSpec)

/-- 'stearinlaw08.StubBest', WHERE WHAT IT READS IS OF BULK AT MOST 1048576: true; the input reads as it did. -/
def stubBestUptoRow : OpenClaim := { program := "ytnombgiacfeloaa", sum := "b0331f308b3ec924d843cb09d8f36a0fab7ba363c6e45eb7c4e96b0a38d6a57e", func := "stearin/stearinlaw08.StubBest", spec := "stubBest", unfollowed := true, recurses := true, apart := false, narrowed := true }
def StubBestUptoSaid : Prop := stubBestUptoRow.holds Try.pinned (OpenSpec.upto stubBestSpec)

/-- 'stearinlaw08.StubMilder', WHERE WHAT IT READS IS OF BULK AT MOST 1048576: true; the input reads as it did. -/
def stubMilderUptoRow : OpenClaim := { program := "ytnombgiacfeloaa", sum := "b0331f308b3ec924d843cb09d8f36a0fab7ba363c6e45eb7c4e96b0a38d6a57e", func := "stearin/stearinlaw08.StubMilder", spec := "stubMilder", unfollowed := true, recurses := true, apart := false, narrowed := true }
def StubMilderUptoSaid : Prop := stubMilderUptoRow.holds Try.pinned (OpenSpec.upto stubMilderSpec)

/-- 'stearinlaw08.StubOrder', WHERE WHAT IT READS IS OF BULK AT MOST 1048576: true; the input reads as it did. -/
def stubOrderUptoRow : OpenClaim := { program := "ytnombgiacfeloaa", sum := "b0331f308b3ec924d843cb09d8f36a0fab7ba363c6e45eb7c4e96b0a38d6a57e", func := "stearin/stearinlaw08.StubOrder", spec := "stubOrder", unfollowed := true, recurses := true, apart := false, narrowed := true }
def StubOrderUptoSaid : Prop := stubOrderUptoRow.holds Try.pinned (OpenSpec.upto stubOrderSpec)

end Rows
end Go.Proofs.Ytnombgiacfeloaa
