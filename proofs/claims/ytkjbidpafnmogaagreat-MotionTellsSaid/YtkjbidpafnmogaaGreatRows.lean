/-
  No cell of these rows narrows 'for every input' (looked for: loops, veiled, ifaces, maps, wideKeys, modest, calm, conditions, laid).
  DERIVED. THE GIVEN ROWS OF THIS SEAT. 7 by the template 'for every input the law returns true; each argument reads behind the call as it read before'; 0 by the template 'total and deterministic' (their statements: YtkjbidpafnmogaaGreatTotals.lean).
  GIVEN WITH THE SEED: the statements are not yours to turn. If you find one false, say at which input.
  Laid BY PROGRAM, IN A SANDBOX (cutbox-rows.mjs): the forced cells as the released guide's own fill.sh prints them over the translation 24ba9f9f4078111c… (all of the seat's roots in one cut). By AI agents, Wed Nov 11 2026. No macro, syntax, notation, axiom, sorry.
-/
import Derived.Test.YtkjbidpafnmogaaGreatChecked
import GoSem.Claim
import GoSem.ClaimJoined
import GoSem.ClaimMapViews
import Derived.JoinedTies
import Derived.KernelRfl
namespace Go.Proofs.YtkjbidpafnmogaaGreat
/- THE CELL 'sum', in the pinned program and in every row, IS THE sha256 OF THE DUMP (.gsa) THAT YtkjbidpafnmogaaGreatProg.lean LOADS. Nothing in Lean hashes anything: it is a label: what it is worth is what the hold of that sum in a sandbox is worth. -/
noncomputable def Tryz.pinned : Pinned := { name := "ytkjbidpafnmogaagreat", sum := "24ba9f9f4078111cdee5f4bae2c4f5ad39499421f1543506af39d6f509e21916", checked := Tryz.checked }
namespace Rows
def none {H : Type} : Left H := { results := [], args := [] }

/-- 'binnaclelaw09.PolyTerms': WHATEVER THE INPUT: true; the input reads as it did. -/
def polyTermsSpec : ChangeSpec := { name := "polyTerms", fn := fun _ => fun
  | [d1, d2, d3] => { results := [.lit (.bool true)], args := [d1, d2, d3] }
  | _ => none }
def polyTermsRow : OpenClaim := { program := "ytkjbidpafnmogaagreat", sum := "24ba9f9f4078111cdee5f4bae2c4f5ad39499421f1543506af39d6f509e21916", func := "binnacle/binnaclelaw09.PolyTerms", spec := "polyTerms", inPlace := ["math/bits.Sub64", "math/bits.Add64"], unfollowed := true, recurses := true, named := ["math/bits.divideError", "math/bits.overflowError"], apart := false }
def PolyTermsSaid : Prop := polyTermsRow.holds Tryz.pinned (OpenSpec.ofChange polyTermsSpec)

/-- ITS FALSE NEIGHBOUR: 'it returns false'. Refute it at one input. -/
def polyTermsWrong : ChangeSpec := { name := "polyTerms", fn := fun _ => fun
  | [d1, d2, d3] => { results := [.lit (.bool false)], args := [d1, d2, d3] }
  | _ => none }
def PolyTermsWrongFalsely : Prop := polyTermsRow.holds Tryz.pinned (OpenSpec.ofChange polyTermsWrong)

/-- 'binnaclelaw09.PolyValues': WHATEVER THE INPUT: true; the input reads as it did. -/
def polyValuesSpec : ChangeSpec := { name := "polyValues", fn := fun _ => fun
  | [d1, d2] => { results := [.lit (.bool true)], args := [d1, d2] }
  | _ => none }
def polyValuesRow : OpenClaim := { program := "ytkjbidpafnmogaagreat", sum := "24ba9f9f4078111cdee5f4bae2c4f5ad39499421f1543506af39d6f509e21916", func := "binnacle/binnaclelaw09.PolyValues", spec := "polyValues", inPlace := ["math/bits.Sub64", "math/bits.Add64"], unfollowed := true, recurses := true, named := ["math/bits.divideError", "math/bits.overflowError"], apart := false }
def PolyValuesSaid : Prop := polyValuesRow.holds Tryz.pinned (OpenSpec.ofChange polyValuesSpec)

/-- ITS FALSE NEIGHBOUR: 'it returns false'. Refute it at one input. -/
def polyValuesWrong : ChangeSpec := { name := "polyValues", fn := fun _ => fun
  | [d1, d2] => { results := [.lit (.bool false)], args := [d1, d2] }
  | _ => none }
def PolyValuesWrongFalsely : Prop := polyValuesRow.holds Tryz.pinned (OpenSpec.ofChange polyValuesWrong)

/-- 'binnaclelaw11.MotionSpans': WHATEVER THE INPUT: true; the input reads as it did. -/
def motionSpansSpec : ChangeSpec := { name := "motionSpans", fn := fun _ => fun
  | [d1, d2, d3, d4, d5] => { results := [.lit (.bool true)], args := [d1, d2, d3, d4, d5] }
  | _ => none }
def motionSpansRow : OpenClaim := { program := "ytkjbidpafnmogaagreat", sum := "24ba9f9f4078111cdee5f4bae2c4f5ad39499421f1543506af39d6f509e21916", func := "binnacle/binnaclelaw11.MotionSpans", spec := "motionSpans", inPlace := ["math/bits.Sub64", "math/bits.Add64"], unfollowed := true, recurses := true, named := ["math/bits.divideError", "math/bits.overflowError"], apart := false }
def MotionSpansSaid : Prop := motionSpansRow.holds Tryz.pinned (OpenSpec.ofChange motionSpansSpec)

/-- ITS FALSE NEIGHBOUR: 'it returns false'. Refute it at one input. -/
def motionSpansWrong : ChangeSpec := { name := "motionSpans", fn := fun _ => fun
  | [d1, d2, d3, d4, d5] => { results := [.lit (.bool false)], args := [d1, d2, d3, d4, d5] }
  | _ => none }
def MotionSpansWrongFalsely : Prop := motionSpansRow.holds Tryz.pinned (OpenSpec.ofChange motionSpansWrong)

/-- 'binnaclelaw11.MotionKnown': WHATEVER THE INPUT: true; the input reads as it did. -/
def motionKnownSpec : ChangeSpec := { name := "motionKnown", fn := fun _ => fun
  | [] => { results := [.lit (.bool true)], args := [] }
  | _ => none }
def motionKnownRow : OpenClaim := { program := "ytkjbidpafnmogaagreat", sum := "24ba9f9f4078111cdee5f4bae2c4f5ad39499421f1543506af39d6f509e21916", func := "binnacle/binnaclelaw11.MotionKnown", spec := "motionKnown", inPlace := ["math/bits.Sub64", "math/bits.Add64"], unfollowed := true, recurses := true, named := ["math/bits.divideError", "math/bits.overflowError"], apart := false }
def MotionKnownSaid : Prop := motionKnownRow.holds Tryz.pinned (OpenSpec.ofChange motionKnownSpec)

/-- ITS FALSE NEIGHBOUR: 'it returns false'. Refute it at one input. -/
def motionKnownWrong : ChangeSpec := { name := "motionKnown", fn := fun _ => fun
  | [] => { results := [.lit (.bool false)], args := [] }
  | _ => none }
def MotionKnownWrongFalsely : Prop := motionKnownRow.holds Tryz.pinned (OpenSpec.ofChange motionKnownWrong)

/-- 'binnaclelaw11.MotionNone': WHATEVER THE INPUT: true; the input reads as it did. -/
def motionNoneSpec : ChangeSpec := { name := "motionNone", fn := fun _ => fun
  | [d1, d2] => { results := [.lit (.bool true)], args := [d1, d2] }
  | _ => none }
def motionNoneRow : OpenClaim := { program := "ytkjbidpafnmogaagreat", sum := "24ba9f9f4078111cdee5f4bae2c4f5ad39499421f1543506af39d6f509e21916", func := "binnacle/binnaclelaw11.MotionNone", spec := "motionNone", inPlace := ["math/bits.Sub64", "math/bits.Add64"], unfollowed := true, recurses := true, named := ["math/bits.divideError", "math/bits.overflowError"], apart := false }
def MotionNoneSaid : Prop := motionNoneRow.holds Tryz.pinned (OpenSpec.ofChange motionNoneSpec)

/-- ITS FALSE NEIGHBOUR: 'it returns false'. Refute it at one input. -/
def motionNoneWrong : ChangeSpec := { name := "motionNone", fn := fun _ => fun
  | [d1, d2] => { results := [.lit (.bool false)], args := [d1, d2] }
  | _ => none }
def MotionNoneWrongFalsely : Prop := motionNoneRow.holds Tryz.pinned (OpenSpec.ofChange motionNoneWrong)

/-- 'binnaclelaw11.MotionShape': WHATEVER THE INPUT: true; the input reads as it did. -/
def motionShapeSpec : ChangeSpec := { name := "motionShape", fn := fun _ => fun
  | [d1, d2] => { results := [.lit (.bool true)], args := [d1, d2] }
  | _ => none }
def motionShapeRow : OpenClaim := { program := "ytkjbidpafnmogaagreat", sum := "24ba9f9f4078111cdee5f4bae2c4f5ad39499421f1543506af39d6f509e21916", func := "binnacle/binnaclelaw11.MotionShape", spec := "motionShape", inPlace := ["math/bits.Sub64", "math/bits.Add64"], unfollowed := true, recurses := true, named := ["math/bits.divideError", "math/bits.overflowError"], apart := false }
def MotionShapeSaid : Prop := motionShapeRow.holds Tryz.pinned (OpenSpec.ofChange motionShapeSpec)

/-- ITS FALSE NEIGHBOUR: 'it returns false'. Refute it at one input. -/
def motionShapeWrong : ChangeSpec := { name := "motionShape", fn := fun _ => fun
  | [d1, d2] => { results := [.lit (.bool false)], args := [d1, d2] }
  | _ => none }
def MotionShapeWrongFalsely : Prop := motionShapeRow.holds Tryz.pinned (OpenSpec.ofChange motionShapeWrong)

/-- 'binnaclelaw11.MotionTells': WHATEVER THE INPUT: true; the input reads as it did. -/
def motionTellsSpec : ChangeSpec := { name := "motionTells", fn := fun _ => fun
  | [d1, d2] => { results := [.lit (.bool true)], args := [d1, d2] }
  | _ => none }
def motionTellsRow : OpenClaim := { program := "ytkjbidpafnmogaagreat", sum := "24ba9f9f4078111cdee5f4bae2c4f5ad39499421f1543506af39d6f509e21916", func := "binnacle/binnaclelaw11.MotionTells", spec := "motionTells", inPlace := ["math/bits.Sub64", "math/bits.Add64"], unfollowed := true, recurses := true, named := ["math/bits.divideError", "math/bits.overflowError"], apart := false }
def MotionTellsSaid : Prop := motionTellsRow.holds Tryz.pinned (OpenSpec.ofChange motionTellsSpec)

/-- ITS FALSE NEIGHBOUR: 'it returns false'. Refute it at one input. -/
def motionTellsWrong : ChangeSpec := { name := "motionTells", fn := fun _ => fun
  | [d1, d2] => { results := [.lit (.bool false)], args := [d1, d2] }
  | _ => none }
def MotionTellsWrongFalsely : Prop := motionTellsRow.holds Tryz.pinned (OpenSpec.ofChange motionTellsWrong)

/- THE SECOND FORM. 'bulk': how many values and letters a reading holds, each counted each time it is reached (what is shared counts as often as it is met; a slice's spare places count too). A statement '..UptoSaid' is the law's where the arguments, and the package variables that the reading takes, are together of bulk at most 1048576: NARROWER than '..Said'. Prove '..Said' where nothing that the law and all that it calls make is longer than what came in: it says more and counts as full. Else prove '..UptoSaid'. A law counts once. -/
mutual
def uptoBulk {H : Type} : DataW H → Nat
  | .lit (.string bytes) => bytes.length + 1
  | .lit _ => 1
  | .nil => 1
  | .ptr d => uptoBulk d + 1
  | .slice elems spare => uptoBulkAll elems + uptoBulkAll spare + 1
  | .agg parts => uptoBulkAll parts + 1
  | .iface _ d => uptoBulk d + 1
  | .map entries => uptoBulkEntries entries + 1
  | .held _ => 1
def uptoBulkAll {H : Type} : List (DataW H) → Nat
  | [] => 0
  | d :: r => uptoBulk d + uptoBulkAll r
def uptoBulkEntries {H : Type} : List (Lit × DataW H) → Nat
  | [] => 0
  | x :: r => uptoBulkEntry x + uptoBulkEntries r
def uptoBulkEntry {H : Type} : Lit × DataW H → Nat
  | (.string bytes, d) => bytes.length + uptoBulk d + 1
  | (_, d) => uptoBulk d + 1
 end
def uptoSmall : (H : Type) → List (DataW H) → Bool := fun _ ds => decide (uptoBulkAll ds ≤ 1048576)
def OpenSpec.upto (s : _root_.Go.ChangeSpec) : _root_.Go.OpenSpec := { _root_.Go.OpenSpec.ofChange s with cond := some uptoSmall }

/-- 'binnaclelaw09.PolyTerms', WHERE WHAT IT READS IS OF BULK AT MOST 1048576: true; the input reads as it did. -/
def polyTermsUptoRow : OpenClaim := { program := "ytkjbidpafnmogaagreat", sum := "24ba9f9f4078111cdee5f4bae2c4f5ad39499421f1543506af39d6f509e21916", func := "binnacle/binnaclelaw09.PolyTerms", spec := "polyTerms", inPlace := ["math/bits.Sub64", "math/bits.Add64"], unfollowed := true, recurses := true, named := ["math/bits.divideError", "math/bits.overflowError"], apart := false, narrowed := true }
def PolyTermsUptoSaid : Prop := polyTermsUptoRow.holds Tryz.pinned (OpenSpec.upto polyTermsSpec)

/-- 'binnaclelaw09.PolyValues', WHERE WHAT IT READS IS OF BULK AT MOST 1048576: true; the input reads as it did. -/
def polyValuesUptoRow : OpenClaim := { program := "ytkjbidpafnmogaagreat", sum := "24ba9f9f4078111cdee5f4bae2c4f5ad39499421f1543506af39d6f509e21916", func := "binnacle/binnaclelaw09.PolyValues", spec := "polyValues", inPlace := ["math/bits.Sub64", "math/bits.Add64"], unfollowed := true, recurses := true, named := ["math/bits.divideError", "math/bits.overflowError"], apart := false, narrowed := true }
def PolyValuesUptoSaid : Prop := polyValuesUptoRow.holds Tryz.pinned (OpenSpec.upto polyValuesSpec)

/-- 'binnaclelaw11.MotionSpans', WHERE WHAT IT READS IS OF BULK AT MOST 1048576: true; the input reads as it did. -/
def motionSpansUptoRow : OpenClaim := { program := "ytkjbidpafnmogaagreat", sum := "24ba9f9f4078111cdee5f4bae2c4f5ad39499421f1543506af39d6f509e21916", func := "binnacle/binnaclelaw11.MotionSpans", spec := "motionSpans", inPlace := ["math/bits.Sub64", "math/bits.Add64"], unfollowed := true, recurses := true, named := ["math/bits.divideError", "math/bits.overflowError"], apart := false, narrowed := true }
def MotionSpansUptoSaid : Prop := motionSpansUptoRow.holds Tryz.pinned (OpenSpec.upto motionSpansSpec)

/-- 'binnaclelaw11.MotionKnown', WHERE WHAT IT READS IS OF BULK AT MOST 1048576: true; the input reads as it did. -/
def motionKnownUptoRow : OpenClaim := { program := "ytkjbidpafnmogaagreat", sum := "24ba9f9f4078111cdee5f4bae2c4f5ad39499421f1543506af39d6f509e21916", func := "binnacle/binnaclelaw11.MotionKnown", spec := "motionKnown", inPlace := ["math/bits.Sub64", "math/bits.Add64"], unfollowed := true, recurses := true, named := ["math/bits.divideError", "math/bits.overflowError"], apart := false, narrowed := true }
def MotionKnownUptoSaid : Prop := motionKnownUptoRow.holds Tryz.pinned (OpenSpec.upto motionKnownSpec)

/-- 'binnaclelaw11.MotionNone', WHERE WHAT IT READS IS OF BULK AT MOST 1048576: true; the input reads as it did. -/
def motionNoneUptoRow : OpenClaim := { program := "ytkjbidpafnmogaagreat", sum := "24ba9f9f4078111cdee5f4bae2c4f5ad39499421f1543506af39d6f509e21916", func := "binnacle/binnaclelaw11.MotionNone", spec := "motionNone", inPlace := ["math/bits.Sub64", "math/bits.Add64"], unfollowed := true, recurses := true, named := ["math/bits.divideError", "math/bits.overflowError"], apart := false, narrowed := true }
def MotionNoneUptoSaid : Prop := motionNoneUptoRow.holds Tryz.pinned (OpenSpec.upto motionNoneSpec)

/-- 'binnaclelaw11.MotionShape', WHERE WHAT IT READS IS OF BULK AT MOST 1048576: true; the input reads as it did. -/
def motionShapeUptoRow : OpenClaim := { program := "ytkjbidpafnmogaagreat", sum := "24ba9f9f4078111cdee5f4bae2c4f5ad39499421f1543506af39d6f509e21916", func := "binnacle/binnaclelaw11.MotionShape", spec := "motionShape", inPlace := ["math/bits.Sub64", "math/bits.Add64"], unfollowed := true, recurses := true, named := ["math/bits.divideError", "math/bits.overflowError"], apart := false, narrowed := true }
def MotionShapeUptoSaid : Prop := motionShapeUptoRow.holds Tryz.pinned (OpenSpec.upto motionShapeSpec)

/-- 'binnaclelaw11.MotionTells', WHERE WHAT IT READS IS OF BULK AT MOST 1048576: true; the input reads as it did. -/
def motionTellsUptoRow : OpenClaim := { program := "ytkjbidpafnmogaagreat", sum := "24ba9f9f4078111cdee5f4bae2c4f5ad39499421f1543506af39d6f509e21916", func := "binnacle/binnaclelaw11.MotionTells", spec := "motionTells", inPlace := ["math/bits.Sub64", "math/bits.Add64"], unfollowed := true, recurses := true, named := ["math/bits.divideError", "math/bits.overflowError"], apart := false, narrowed := true }
def MotionTellsUptoSaid : Prop := motionTellsUptoRow.holds Tryz.pinned (OpenSpec.upto motionTellsSpec)

end Rows
end Go.Proofs.YtkjbidpafnmogaaGreat
