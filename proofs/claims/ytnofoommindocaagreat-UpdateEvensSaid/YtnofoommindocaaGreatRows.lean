/-
  No cell of these rows narrows 'for every input' (looked for: loops, veiled, ifaces, maps, wideKeys, modest, calm, conditions, laid).
  DERIVED. THE GIVEN ROWS OF THIS SEAT. 11 by the template 'for every input the law returns true; each argument reads behind the call as it read before'; 0 by the template 'total and deterministic' (their statements: YtnofoommindocaaGreatTotals.lean).
  GIVEN WITH THE SEED: the statements are not yours to turn. If you find one false, say at which input.
  Laid BY PROGRAM, IN A SANDBOX (cutbox-rows.mjs): the forced cells as the released guide's own fill.sh prints them over the translation 1f2424375da1427a… (all of the seat's roots in one cut). By AI agents, Wed Nov 11 2026. No macro, syntax, notation, axiom, sorry.
-/
import Derived.Test.YtnofoommindocaaGreatChecked
import GoSem.Claim
import GoSem.ClaimJoined
import GoSem.ClaimMapViews
import Derived.JoinedTies
import Derived.KernelRfl
namespace Go.Proofs.YtnofoommindocaaGreat
/- THE CELL 'sum', in the pinned program and in every row, IS THE sha256 OF THE DUMP (.gsa) THAT YtnofoommindocaaGreatProg.lean LOADS. Nothing in Lean hashes anything: it is a label: what it is worth is what the hold of that sum in a sandbox is worth. -/
noncomputable def Tryz.pinned : Pinned := { name := "ytnofoommindocaagreat", sum := "1f2424375da1427a3ef322a9ed334a2fbd1aca1afb8488c466bd60229a02db86", checked := Tryz.checked }
namespace Rows
def none {H : Type} : Left H := { results := [], args := [] }

/-- 'binnaclelaw13.UpdateTells': WHATEVER THE INPUT: true; the input reads as it did. -/
def updateTellsSpec : ChangeSpec := { name := "updateTells", fn := fun _ => fun
  | [d1, d2, d3, d4, d5] => { results := [.lit (.bool true)], args := [d1, d2, d3, d4, d5] }
  | _ => none }
def updateTellsRow : OpenClaim := { program := "ytnofoommindocaagreat", sum := "1f2424375da1427a3ef322a9ed334a2fbd1aca1afb8488c466bd60229a02db86", func := "binnacle/binnaclelaw13.UpdateTells", spec := "updateTells", inPlace := ["math/bits.Sub64", "math/bits.Add64"], unfollowed := true, recurses := true, named := ["math/bits.divideError", "math/bits.overflowError"], apart := false }
def UpdateTellsSaid : Prop := updateTellsRow.holds Tryz.pinned (OpenSpec.ofChange updateTellsSpec)

/-- ITS FALSE NEIGHBOUR: 'it returns false'. Refute it at one input. -/
def updateTellsWrong : ChangeSpec := { name := "updateTells", fn := fun _ => fun
  | [d1, d2, d3, d4, d5] => { results := [.lit (.bool false)], args := [d1, d2, d3, d4, d5] }
  | _ => none }
def UpdateTellsWrongFalsely : Prop := updateTellsRow.holds Tryz.pinned (OpenSpec.ofChange updateTellsWrong)

/-- 'binnaclelaw13.UpdateEvens': WHATEVER THE INPUT: true; the input reads as it did. -/
def updateEvensSpec : ChangeSpec := { name := "updateEvens", fn := fun _ => fun
  | [d1, d2] => { results := [.lit (.bool true)], args := [d1, d2] }
  | _ => none }
def updateEvensRow : OpenClaim := { program := "ytnofoommindocaagreat", sum := "1f2424375da1427a3ef322a9ed334a2fbd1aca1afb8488c466bd60229a02db86", func := "binnacle/binnaclelaw13.UpdateEvens", spec := "updateEvens", inPlace := ["math/bits.Sub64", "math/bits.Add64"], unfollowed := true, recurses := true, named := ["math/bits.divideError", "math/bits.overflowError"], apart := false }
def UpdateEvensSaid : Prop := updateEvensRow.holds Tryz.pinned (OpenSpec.ofChange updateEvensSpec)

/-- ITS FALSE NEIGHBOUR: 'it returns false'. Refute it at one input. -/
def updateEvensWrong : ChangeSpec := { name := "updateEvens", fn := fun _ => fun
  | [d1, d2] => { results := [.lit (.bool false)], args := [d1, d2] }
  | _ => none }
def UpdateEvensWrongFalsely : Prop := updateEvensRow.holds Tryz.pinned (OpenSpec.ofChange updateEvensWrong)

/-- 'binnaclelaw13.UpdateKnown': WHATEVER THE INPUT: true; the input reads as it did. -/
def updateKnownSpec : ChangeSpec := { name := "updateKnown", fn := fun _ => fun
  | [] => { results := [.lit (.bool true)], args := [] }
  | _ => none }
def updateKnownRow : OpenClaim := { program := "ytnofoommindocaagreat", sum := "1f2424375da1427a3ef322a9ed334a2fbd1aca1afb8488c466bd60229a02db86", func := "binnacle/binnaclelaw13.UpdateKnown", spec := "updateKnown", inPlace := ["math/bits.Sub64", "math/bits.Add64"], unfollowed := true, recurses := true, named := ["math/bits.divideError", "math/bits.overflowError"], apart := false }
def UpdateKnownSaid : Prop := updateKnownRow.holds Tryz.pinned (OpenSpec.ofChange updateKnownSpec)

/-- ITS FALSE NEIGHBOUR: 'it returns false'. Refute it at one input. -/
def updateKnownWrong : ChangeSpec := { name := "updateKnown", fn := fun _ => fun
  | [] => { results := [.lit (.bool false)], args := [] }
  | _ => none }
def UpdateKnownWrongFalsely : Prop := updateKnownRow.holds Tryz.pinned (OpenSpec.ofChange updateKnownWrong)

/-- 'binnaclelaw13.UpdateFits': WHATEVER THE INPUT: true; the input reads as it did. -/
def updateFitsSpec : ChangeSpec := { name := "updateFits", fn := fun _ => fun
  | [d1, d2, d3, d4] => { results := [.lit (.bool true)], args := [d1, d2, d3, d4] }
  | _ => none }
def updateFitsRow : OpenClaim := { program := "ytnofoommindocaagreat", sum := "1f2424375da1427a3ef322a9ed334a2fbd1aca1afb8488c466bd60229a02db86", func := "binnacle/binnaclelaw13.UpdateFits", spec := "updateFits", inPlace := ["math/bits.Sub64", "math/bits.Add64"], unfollowed := true, recurses := true, named := ["math/bits.divideError", "math/bits.overflowError"], apart := false }
def UpdateFitsSaid : Prop := updateFitsRow.holds Tryz.pinned (OpenSpec.ofChange updateFitsSpec)

/-- ITS FALSE NEIGHBOUR: 'it returns false'. Refute it at one input. -/
def updateFitsWrong : ChangeSpec := { name := "updateFits", fn := fun _ => fun
  | [d1, d2, d3, d4] => { results := [.lit (.bool false)], args := [d1, d2, d3, d4] }
  | _ => none }
def UpdateFitsWrongFalsely : Prop := updateFitsRow.holds Tryz.pinned (OpenSpec.ofChange updateFitsWrong)

/-- 'binnaclelaw13.UpdateExpected': WHATEVER THE INPUT: true; the input reads as it did. -/
def updateExpectedSpec : ChangeSpec := { name := "updateExpected", fn := fun _ => fun
  | [d1, d2, d3] => { results := [.lit (.bool true)], args := [d1, d2, d3] }
  | _ => none }
def updateExpectedRow : OpenClaim := { program := "ytnofoommindocaagreat", sum := "1f2424375da1427a3ef322a9ed334a2fbd1aca1afb8488c466bd60229a02db86", func := "binnacle/binnaclelaw13.UpdateExpected", spec := "updateExpected", inPlace := ["math/bits.Sub64", "math/bits.Add64"], unfollowed := true, recurses := true, named := ["math/bits.divideError", "math/bits.overflowError"], apart := false }
def UpdateExpectedSaid : Prop := updateExpectedRow.holds Tryz.pinned (OpenSpec.ofChange updateExpectedSpec)

/-- ITS FALSE NEIGHBOUR: 'it returns false'. Refute it at one input. -/
def updateExpectedWrong : ChangeSpec := { name := "updateExpected", fn := fun _ => fun
  | [d1, d2, d3] => { results := [.lit (.bool false)], args := [d1, d2, d3] }
  | _ => none }
def UpdateExpectedWrongFalsely : Prop := updateExpectedRow.holds Tryz.pinned (OpenSpec.ofChange updateExpectedWrong)

/-- 'binnaclelaw13.UpdateBetween': WHATEVER THE INPUT: true; the input reads as it did. -/
def updateBetweenSpec : ChangeSpec := { name := "updateBetween", fn := fun _ => fun
  | [d1, d2, d3, d4] => { results := [.lit (.bool true)], args := [d1, d2, d3, d4] }
  | _ => none }
def updateBetweenRow : OpenClaim := { program := "ytnofoommindocaagreat", sum := "1f2424375da1427a3ef322a9ed334a2fbd1aca1afb8488c466bd60229a02db86", func := "binnacle/binnaclelaw13.UpdateBetween", spec := "updateBetween", inPlace := ["math/bits.Sub64", "math/bits.Add64"], unfollowed := true, recurses := true, named := ["math/bits.divideError", "math/bits.overflowError"], apart := false }
def UpdateBetweenSaid : Prop := updateBetweenRow.holds Tryz.pinned (OpenSpec.ofChange updateBetweenSpec)

/-- ITS FALSE NEIGHBOUR: 'it returns false'. Refute it at one input. -/
def updateBetweenWrong : ChangeSpec := { name := "updateBetween", fn := fun _ => fun
  | [d1, d2, d3, d4] => { results := [.lit (.bool false)], args := [d1, d2, d3, d4] }
  | _ => none }
def UpdateBetweenWrongFalsely : Prop := updateBetweenRow.holds Tryz.pinned (OpenSpec.ofChange updateBetweenWrong)

/-- 'binnaclelaw12.PredictTells': WHATEVER THE INPUT: true; the input reads as it did. -/
def predictTellsSpec : ChangeSpec := { name := "predictTells", fn := fun _ => fun
  | [d1, d2, d3, d4] => { results := [.lit (.bool true)], args := [d1, d2, d3, d4] }
  | _ => none }
def predictTellsRow : OpenClaim := { program := "ytnofoommindocaagreat", sum := "1f2424375da1427a3ef322a9ed334a2fbd1aca1afb8488c466bd60229a02db86", func := "binnacle/binnaclelaw12.PredictTells", spec := "predictTells", inPlace := ["math/bits.Sub64", "math/bits.Add64"], unfollowed := true, recurses := true, named := ["math/bits.divideError", "math/bits.overflowError"], apart := false }
def PredictTellsSaid : Prop := predictTellsRow.holds Tryz.pinned (OpenSpec.ofChange predictTellsSpec)

/-- ITS FALSE NEIGHBOUR: 'it returns false'. Refute it at one input. -/
def predictTellsWrong : ChangeSpec := { name := "predictTells", fn := fun _ => fun
  | [d1, d2, d3, d4] => { results := [.lit (.bool false)], args := [d1, d2, d3, d4] }
  | _ => none }
def PredictTellsWrongFalsely : Prop := predictTellsRow.holds Tryz.pinned (OpenSpec.ofChange predictTellsWrong)

/-- 'binnaclelaw12.PredictHeld': WHATEVER THE INPUT: true; the input reads as it did. -/
def predictHeldSpec : ChangeSpec := { name := "predictHeld", fn := fun _ => fun
  | [d] => { results := [.lit (.bool true)], args := [d] }
  | _ => none }
def predictHeldRow : OpenClaim := { program := "ytnofoommindocaagreat", sum := "1f2424375da1427a3ef322a9ed334a2fbd1aca1afb8488c466bd60229a02db86", func := "binnacle/binnaclelaw12.PredictHeld", spec := "predictHeld", inPlace := ["math/bits.Sub64", "math/bits.Add64"], unfollowed := true, recurses := true, named := ["math/bits.divideError", "math/bits.overflowError"], apart := false }
def PredictHeldSaid : Prop := predictHeldRow.holds Tryz.pinned (OpenSpec.ofChange predictHeldSpec)

/-- ITS FALSE NEIGHBOUR: 'it returns false'. Refute it at one input. -/
def predictHeldWrong : ChangeSpec := { name := "predictHeld", fn := fun _ => fun
  | [d] => { results := [.lit (.bool false)], args := [d] }
  | _ => none }
def PredictHeldWrongFalsely : Prop := predictHeldRow.holds Tryz.pinned (OpenSpec.ofChange predictHeldWrong)

/-- 'binnaclelaw12.PredictNone': WHATEVER THE INPUT: true; the input reads as it did. -/
def predictNoneSpec : ChangeSpec := { name := "predictNone", fn := fun _ => fun
  | [d1, d2, d3] => { results := [.lit (.bool true)], args := [d1, d2, d3] }
  | _ => none }
def predictNoneRow : OpenClaim := { program := "ytnofoommindocaagreat", sum := "1f2424375da1427a3ef322a9ed334a2fbd1aca1afb8488c466bd60229a02db86", func := "binnacle/binnaclelaw12.PredictNone", spec := "predictNone", inPlace := ["math/bits.Sub64", "math/bits.Add64"], unfollowed := true, recurses := true, named := ["math/bits.divideError", "math/bits.overflowError"], apart := false }
def PredictNoneSaid : Prop := predictNoneRow.holds Tryz.pinned (OpenSpec.ofChange predictNoneSpec)

/-- ITS FALSE NEIGHBOUR: 'it returns false'. Refute it at one input. -/
def predictNoneWrong : ChangeSpec := { name := "predictNone", fn := fun _ => fun
  | [d1, d2, d3] => { results := [.lit (.bool false)], args := [d1, d2, d3] }
  | _ => none }
def PredictNoneWrongFalsely : Prop := predictNoneRow.holds Tryz.pinned (OpenSpec.ofChange predictNoneWrong)

/-- 'binnaclelaw12.PredictKnown': WHATEVER THE INPUT: true; the input reads as it did. -/
def predictKnownSpec : ChangeSpec := { name := "predictKnown", fn := fun _ => fun
  | [] => { results := [.lit (.bool true)], args := [] }
  | _ => none }
def predictKnownRow : OpenClaim := { program := "ytnofoommindocaagreat", sum := "1f2424375da1427a3ef322a9ed334a2fbd1aca1afb8488c466bd60229a02db86", func := "binnacle/binnaclelaw12.PredictKnown", spec := "predictKnown", inPlace := ["math/bits.Sub64", "math/bits.Add64"], unfollowed := true, recurses := true, named := ["math/bits.divideError", "math/bits.overflowError"], apart := false }
def PredictKnownSaid : Prop := predictKnownRow.holds Tryz.pinned (OpenSpec.ofChange predictKnownSpec)

/-- ITS FALSE NEIGHBOUR: 'it returns false'. Refute it at one input. -/
def predictKnownWrong : ChangeSpec := { name := "predictKnown", fn := fun _ => fun
  | [] => { results := [.lit (.bool false)], args := [] }
  | _ => none }
def PredictKnownWrongFalsely : Prop := predictKnownRow.holds Tryz.pinned (OpenSpec.ofChange predictKnownWrong)

/-- 'binnaclelaw12.PredictFits': WHATEVER THE INPUT: true; the input reads as it did. -/
def predictFitsSpec : ChangeSpec := { name := "predictFits", fn := fun _ => fun
  | [d1, d2, d3] => { results := [.lit (.bool true)], args := [d1, d2, d3] }
  | _ => none }
def predictFitsRow : OpenClaim := { program := "ytnofoommindocaagreat", sum := "1f2424375da1427a3ef322a9ed334a2fbd1aca1afb8488c466bd60229a02db86", func := "binnacle/binnaclelaw12.PredictFits", spec := "predictFits", inPlace := ["math/bits.Sub64", "math/bits.Add64"], unfollowed := true, recurses := true, named := ["math/bits.divideError", "math/bits.overflowError"], apart := false }
def PredictFitsSaid : Prop := predictFitsRow.holds Tryz.pinned (OpenSpec.ofChange predictFitsSpec)

/-- ITS FALSE NEIGHBOUR: 'it returns false'. Refute it at one input. -/
def predictFitsWrong : ChangeSpec := { name := "predictFits", fn := fun _ => fun
  | [d1, d2, d3] => { results := [.lit (.bool false)], args := [d1, d2, d3] }
  | _ => none }
def PredictFitsWrongFalsely : Prop := predictFitsRow.holds Tryz.pinned (OpenSpec.ofChange predictFitsWrong)

/- THE SECOND FORM. 'bulk': how many values and letters a reading holds, each counted each time it is reached (what is shared counts as often as it is met; a slice's spare places count too). A statement '..UptoSaid' is the law's where the arguments, and the package variables that the reading takes, are together of bulk at most 1048576: NARROWER than '..Said'. Prove '..Said' where nothing that the law and all that it calls make is longer than what came in: it says more and counts as full. Else prove '..UptoSaid'. A law counts once. -/
mutual
def uptoBulk {H : Type} : DataW H → Nat
  | .lit (.string bytes) => bytes.length + 1
  | .lit _ => 1
  | .nil => 1
  | .ptr d => uptoBulk d + 1
  | .slice elems spare => uptoBulkAll elems + uptoBulkAll spare + 1
  | .agg parts => uptoBulkAll parts + 1
  | .iface _ d => uptoBulk d + 1
  | .map entries => uptoBulkEntries entries + 1
  | .held _ => 1
def uptoBulkAll {H : Type} : List (DataW H) → Nat
  | [] => 0
  | d :: r => uptoBulk d + uptoBulkAll r
def uptoBulkEntries {H : Type} : List (Lit × DataW H) → Nat
  | [] => 0
  | x :: r => uptoBulkEntry x + uptoBulkEntries r
def uptoBulkEntry {H : Type} : Lit × DataW H → Nat
  | (.string bytes, d) => bytes.length + uptoBulk d + 1
  | (_, d) => uptoBulk d + 1
 end
def uptoSmall : (H : Type) → List (DataW H) → Bool := fun _ ds => decide (uptoBulkAll ds ≤ 1048576)
def OpenSpec.upto (s : _root_.Go.ChangeSpec) : _root_.Go.OpenSpec := { _root_.Go.OpenSpec.ofChange s with cond := some uptoSmall }

/-- 'binnaclelaw13.UpdateTells', WHERE WHAT IT READS IS OF BULK AT MOST 1048576: true; the input reads as it did. -/
def updateTellsUptoRow : OpenClaim := { program := "ytnofoommindocaagreat", sum := "1f2424375da1427a3ef322a9ed334a2fbd1aca1afb8488c466bd60229a02db86", func := "binnacle/binnaclelaw13.UpdateTells", spec := "updateTells", inPlace := ["math/bits.Sub64", "math/bits.Add64"], unfollowed := true, recurses := true, named := ["math/bits.divideError", "math/bits.overflowError"], apart := false, narrowed := true }
def UpdateTellsUptoSaid : Prop := updateTellsUptoRow.holds Tryz.pinned (OpenSpec.upto updateTellsSpec)

/-- 'binnaclelaw13.UpdateEvens', WHERE WHAT IT READS IS OF BULK AT MOST 1048576: true; the input reads as it did. -/
def updateEvensUptoRow : OpenClaim := { program := "ytnofoommindocaagreat", sum := "1f2424375da1427a3ef322a9ed334a2fbd1aca1afb8488c466bd60229a02db86", func := "binnacle/binnaclelaw13.UpdateEvens", spec := "updateEvens", inPlace := ["math/bits.Sub64", "math/bits.Add64"], unfollowed := true, recurses := true, named := ["math/bits.divideError", "math/bits.overflowError"], apart := false, narrowed := true }
def UpdateEvensUptoSaid : Prop := updateEvensUptoRow.holds Tryz.pinned (OpenSpec.upto updateEvensSpec)

/-- 'binnaclelaw13.UpdateKnown', WHERE WHAT IT READS IS OF BULK AT MOST 1048576: true; the input reads as it did. -/
def updateKnownUptoRow : OpenClaim := { program := "ytnofoommindocaagreat", sum := "1f2424375da1427a3ef322a9ed334a2fbd1aca1afb8488c466bd60229a02db86", func := "binnacle/binnaclelaw13.UpdateKnown", spec := "updateKnown", inPlace := ["math/bits.Sub64", "math/bits.Add64"], unfollowed := true, recurses := true, named := ["math/bits.divideError", "math/bits.overflowError"], apart := false, narrowed := true }
def UpdateKnownUptoSaid : Prop := updateKnownUptoRow.holds Tryz.pinned (OpenSpec.upto updateKnownSpec)

/-- 'binnaclelaw13.UpdateFits', WHERE WHAT IT READS IS OF BULK AT MOST 1048576: true; the input reads as it did. -/
def updateFitsUptoRow : OpenClaim := { program := "ytnofoommindocaagreat", sum := "1f2424375da1427a3ef322a9ed334a2fbd1aca1afb8488c466bd60229a02db86", func := "binnacle/binnaclelaw13.UpdateFits", spec := "updateFits", inPlace := ["math/bits.Sub64", "math/bits.Add64"], unfollowed := true, recurses := true, named := ["math/bits.divideError", "math/bits.overflowError"], apart := false, narrowed := true }
def UpdateFitsUptoSaid : Prop := updateFitsUptoRow.holds Tryz.pinned (OpenSpec.upto updateFitsSpec)

/-- 'binnaclelaw13.UpdateExpected', WHERE WHAT IT READS IS OF BULK AT MOST 1048576: true; the input reads as it did. -/
def updateExpectedUptoRow : OpenClaim := { program := "ytnofoommindocaagreat", sum := "1f2424375da1427a3ef322a9ed334a2fbd1aca1afb8488c466bd60229a02db86", func := "binnacle/binnaclelaw13.UpdateExpected", spec := "updateExpected", inPlace := ["math/bits.Sub64", "math/bits.Add64"], unfollowed := true, recurses := true, named := ["math/bits.divideError", "math/bits.overflowError"], apart := false, narrowed := true }
def UpdateExpectedUptoSaid : Prop := updateExpectedUptoRow.holds Tryz.pinned (OpenSpec.upto updateExpectedSpec)

/-- 'binnaclelaw13.UpdateBetween', WHERE WHAT IT READS IS OF BULK AT MOST 1048576: true; the input reads as it did. -/
def updateBetweenUptoRow : OpenClaim := { program := "ytnofoommindocaagreat", sum := "1f2424375da1427a3ef322a9ed334a2fbd1aca1afb8488c466bd60229a02db86", func := "binnacle/binnaclelaw13.UpdateBetween", spec := "updateBetween", inPlace := ["math/bits.Sub64", "math/bits.Add64"], unfollowed := true, recurses := true, named := ["math/bits.divideError", "math/bits.overflowError"], apart := false, narrowed := true }
def UpdateBetweenUptoSaid : Prop := updateBetweenUptoRow.holds Tryz.pinned (OpenSpec.upto updateBetweenSpec)

/-- 'binnaclelaw12.PredictTells', WHERE WHAT IT READS IS OF BULK AT MOST 1048576: true; the input reads as it did. -/
def predictTellsUptoRow : OpenClaim := { program := "ytnofoommindocaagreat", sum := "1f2424375da1427a3ef322a9ed334a2fbd1aca1afb8488c466bd60229a02db86", func := "binnacle/binnaclelaw12.PredictTells", spec := "predictTells", inPlace := ["math/bits.Sub64", "math/bits.Add64"], unfollowed := true, recurses := true, named := ["math/bits.divideError", "math/bits.overflowError"], apart := false, narrowed := true }
def PredictTellsUptoSaid : Prop := predictTellsUptoRow.holds Tryz.pinned (OpenSpec.upto predictTellsSpec)

/-- 'binnaclelaw12.PredictHeld', WHERE WHAT IT READS IS OF BULK AT MOST 1048576: true; the input reads as it did. -/
def predictHeldUptoRow : OpenClaim := { program := "ytnofoommindocaagreat", sum := "1f2424375da1427a3ef322a9ed334a2fbd1aca1afb8488c466bd60229a02db86", func := "binnacle/binnaclelaw12.PredictHeld", spec := "predictHeld", inPlace := ["math/bits.Sub64", "math/bits.Add64"], unfollowed := true, recurses := true, named := ["math/bits.divideError", "math/bits.overflowError"], apart := false, narrowed := true }
def PredictHeldUptoSaid : Prop := predictHeldUptoRow.holds Tryz.pinned (OpenSpec.upto predictHeldSpec)

/-- 'binnaclelaw12.PredictNone', WHERE WHAT IT READS IS OF BULK AT MOST 1048576: true; the input reads as it did. -/
def predictNoneUptoRow : OpenClaim := { program := "ytnofoommindocaagreat", sum := "1f2424375da1427a3ef322a9ed334a2fbd1aca1afb8488c466bd60229a02db86", func := "binnacle/binnaclelaw12.PredictNone", spec := "predictNone", inPlace := ["math/bits.Sub64", "math/bits.Add64"], unfollowed := true, recurses := true, named := ["math/bits.divideError", "math/bits.overflowError"], apart := false, narrowed := true }
def PredictNoneUptoSaid : Prop := predictNoneUptoRow.holds Tryz.pinned (OpenSpec.upto predictNoneSpec)

/-- 'binnaclelaw12.PredictKnown', WHERE WHAT IT READS IS OF BULK AT MOST 1048576: true; the input reads as it did. -/
def predictKnownUptoRow : OpenClaim := { program := "ytnofoommindocaagreat", sum := "1f2424375da1427a3ef322a9ed334a2fbd1aca1afb8488c466bd60229a02db86", func := "binnacle/binnaclelaw12.PredictKnown", spec := "predictKnown", inPlace := ["math/bits.Sub64", "math/bits.Add64"], unfollowed := true, recurses := true, named := ["math/bits.divideError", "math/bits.overflowError"], apart := false, narrowed := true }
def PredictKnownUptoSaid : Prop := predictKnownUptoRow.holds Tryz.pinned (OpenSpec.upto predictKnownSpec)

/-- 'binnaclelaw12.PredictFits', WHERE WHAT IT READS IS OF BULK AT MOST 1048576: true; the input reads as it did. -/
def predictFitsUptoRow : OpenClaim := { program := "ytnofoommindocaagreat", sum := "1f2424375da1427a3ef322a9ed334a2fbd1aca1afb8488c466bd60229a02db86", func := "binnacle/binnaclelaw12.PredictFits", spec := "predictFits", inPlace := ["math/bits.Sub64", "math/bits.Add64"], unfollowed := true, recurses := true, named := ["math/bits.divideError", "math/bits.overflowError"], apart := false, narrowed := true }
def PredictFitsUptoSaid : Prop := predictFitsUptoRow.holds Tryz.pinned (OpenSpec.upto predictFitsSpec)

end Rows
end Go.Proofs.YtnofoommindocaaGreat
