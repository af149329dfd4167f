/-
  No cell of these rows narrows 'for every input' (looked for: loops, veiled, ifaces, maps, wideKeys, modest, calm, conditions, laid).
  DERIVED. THE GIVEN ROWS OF THIS SEAT. 10 by the template 'for every input the law returns true; each argument reads behind the call as it read before'; 0 by the template 'total and deterministic' (their statements: YtagakcnhhhlolaaTotals.lean).
  GIVEN WITH THE SEED: the statements are not yours to turn. If you find one false, say at which input.
  Laid BY PROGRAM, IN A SANDBOX (cutbox-rows.mjs): the forced cells as the released guide's own fill.sh prints them over the translation c3d2b488c35fcb00… (all of the seat's roots in one cut). By AI agents, Wed Nov 11 2026. No macro, syntax, notation, axiom, sorry.
-/
import Derived.Test.YtagakcnhhhlolaaChecked
import GoSem.Claim
import GoSem.ClaimJoined
import GoSem.ClaimMapViews
import Derived.JoinedTies
import Derived.KernelRfl
namespace Go.Proofs.Ytagakcnhhhlolaa
/- THE CELL 'sum', in the pinned program and in every row, IS THE sha256 OF THE DUMP (.gsa) THAT YtagakcnhhhlolaaProg.lean LOADS. Nothing in Lean hashes anything: it is a label: what it is worth is what the hold of that sum in a sandbox is worth. -/
noncomputable def Try.pinned : Pinned := { name := "ytagakcnhhhlolaa", sum := "c3d2b488c35fcb007eb78449540b4ce7c4c02948e294cbffcd57a878641cc9f8", checked := Try.checked }
namespace Rows
def none {H : Type} : Left H := { results := [], args := [] }

/-- 'binnaclelaw10.ModelTells': WHATEVER THE INPUT: true; the input reads as it did. -/
def modelTellsSpec : ChangeSpec := { name := "modelTells", fn := fun _ => fun
  | [d1, d2, d3] => { results := [.lit (.bool true)], args := [d1, d2, d3] }
  | _ => none }
def modelTellsRow : OpenClaim := { program := "ytagakcnhhhlolaa", sum := "c3d2b488c35fcb007eb78449540b4ce7c4c02948e294cbffcd57a878641cc9f8", func := "binnacle/binnaclelaw10.ModelTells", spec := "modelTells", unfollowed := true, recurses := true, apart := false }
def ModelTellsSaid : Prop := modelTellsRow.holds Try.pinned (OpenSpec.ofChange modelTellsSpec)

/-- ITS FALSE NEIGHBOUR: 'it returns false'. Refute it at one input. -/
def modelTellsWrong : ChangeSpec := { name := "modelTells", fn := fun _ => fun
  | [d1, d2, d3] => { results := [.lit (.bool false)], args := [d1, d2, d3] }
  | _ => none }
def ModelTellsWrongFalsely : Prop := modelTellsRow.holds Try.pinned (OpenSpec.ofChange modelTellsWrong)

/-- 'binnaclelaw10.ModelKnown': WHATEVER THE INPUT: true; the input reads as it did. -/
def modelKnownSpec : ChangeSpec := { name := "modelKnown", fn := fun _ => fun
  | [] => { results := [.lit (.bool true)], args := [] }
  | _ => none }
def modelKnownRow : OpenClaim := { program := "ytagakcnhhhlolaa", sum := "c3d2b488c35fcb007eb78449540b4ce7c4c02948e294cbffcd57a878641cc9f8", func := "binnacle/binnaclelaw10.ModelKnown", spec := "modelKnown", unfollowed := true, recurses := true, apart := false }
def ModelKnownSaid : Prop := modelKnownRow.holds Try.pinned (OpenSpec.ofChange modelKnownSpec)

/-- ITS FALSE NEIGHBOUR: 'it returns false'. Refute it at one input. -/
def modelKnownWrong : ChangeSpec := { name := "modelKnown", fn := fun _ => fun
  | [] => { results := [.lit (.bool false)], args := [] }
  | _ => none }
def ModelKnownWrongFalsely : Prop := modelKnownRow.holds Try.pinned (OpenSpec.ofChange modelKnownWrong)

/-- 'binnaclelaw10.ModelMoves': WHATEVER THE INPUT: true; the input reads as it did. -/
def modelMovesSpec : ChangeSpec := { name := "modelMoves", fn := fun _ => fun
  | [d] => { results := [.lit (.bool true)], args := [d] }
  | _ => none }
def modelMovesRow : OpenClaim := { program := "ytagakcnhhhlolaa", sum := "c3d2b488c35fcb007eb78449540b4ce7c4c02948e294cbffcd57a878641cc9f8", func := "binnacle/binnaclelaw10.ModelMoves", spec := "modelMoves", unfollowed := true, recurses := true, apart := false }
def ModelMovesSaid : Prop := modelMovesRow.holds Try.pinned (OpenSpec.ofChange modelMovesSpec)

/-- ITS FALSE NEIGHBOUR: 'it returns false'. Refute it at one input. -/
def modelMovesWrong : ChangeSpec := { name := "modelMoves", fn := fun _ => fun
  | [d] => { results := [.lit (.bool false)], args := [d] }
  | _ => none }
def ModelMovesWrongFalsely : Prop := modelMovesRow.holds Try.pinned (OpenSpec.ofChange modelMovesWrong)

/-- 'binnaclelaw10.ModelRows': WHATEVER THE INPUT: true; the input reads as it did. -/
def modelRowsSpec : ChangeSpec := { name := "modelRows", fn := fun _ => fun
  | [d] => { results := [.lit (.bool true)], args := [d] }
  | _ => none }
def modelRowsRow : OpenClaim := { program := "ytagakcnhhhlolaa", sum := "c3d2b488c35fcb007eb78449540b4ce7c4c02948e294cbffcd57a878641cc9f8", func := "binnacle/binnaclelaw10.ModelRows", spec := "modelRows", unfollowed := true, recurses := true, apart := false }
def ModelRowsSaid : Prop := modelRowsRow.holds Try.pinned (OpenSpec.ofChange modelRowsSpec)

/-- ITS FALSE NEIGHBOUR: 'it returns false'. Refute it at one input. -/
def modelRowsWrong : ChangeSpec := { name := "modelRows", fn := fun _ => fun
  | [d] => { results := [.lit (.bool false)], args := [d] }
  | _ => none }
def ModelRowsWrongFalsely : Prop := modelRowsRow.holds Try.pinned (OpenSpec.ofChange modelRowsWrong)

/-- 'binnaclelaw10.ModelFits': WHATEVER THE INPUT: true; the input reads as it did. -/
def modelFitsSpec : ChangeSpec := { name := "modelFits", fn := fun _ => fun
  | [d1, d2, d3] => { results := [.lit (.bool true)], args := [d1, d2, d3] }
  | _ => none }
def modelFitsRow : OpenClaim := { program := "ytagakcnhhhlolaa", sum := "c3d2b488c35fcb007eb78449540b4ce7c4c02948e294cbffcd57a878641cc9f8", func := "binnacle/binnaclelaw10.ModelFits", spec := "modelFits", unfollowed := true, recurses := true, apart := false }
def ModelFitsSaid : Prop := modelFitsRow.holds Try.pinned (OpenSpec.ofChange modelFitsSpec)

/-- ITS FALSE NEIGHBOUR: 'it returns false'. Refute it at one input. -/
def modelFitsWrong : ChangeSpec := { name := "modelFits", fn := fun _ => fun
  | [d1, d2, d3] => { results := [.lit (.bool false)], args := [d1, d2, d3] }
  | _ => none }
def ModelFitsWrongFalsely : Prop := modelFitsRow.holds Try.pinned (OpenSpec.ofChange modelFitsWrong)

/-- 'binnaclelaw22.SnapKnown': WHATEVER THE INPUT: true; the input reads as it did. -/
def snapKnownSpec : ChangeSpec := { name := "snapKnown", fn := fun _ => fun
  | [] => { results := [.lit (.bool true)], args := [] }
  | _ => none }
def snapKnownRow : OpenClaim := { program := "ytagakcnhhhlolaa", sum := "c3d2b488c35fcb007eb78449540b4ce7c4c02948e294cbffcd57a878641cc9f8", func := "binnacle/binnaclelaw22.SnapKnown", spec := "snapKnown", unfollowed := true, recurses := true, apart := false }
def SnapKnownSaid : Prop := snapKnownRow.holds Try.pinned (OpenSpec.ofChange snapKnownSpec)

/-- ITS FALSE NEIGHBOUR: 'it returns false'. Refute it at one input. -/
def snapKnownWrong : ChangeSpec := { name := "snapKnown", fn := fun _ => fun
  | [] => { results := [.lit (.bool false)], args := [] }
  | _ => none }
def SnapKnownWrongFalsely : Prop := snapKnownRow.holds Try.pinned (OpenSpec.ofChange snapKnownWrong)

/-- 'binnaclelaw22.SnapOrder': WHATEVER THE INPUT: true; the input reads as it did. -/
def snapOrderSpec : ChangeSpec := { name := "snapOrder", fn := fun _ => fun
  | [d1, d2, d3, d4] => { results := [.lit (.bool true)], args := [d1, d2, d3, d4] }
  | _ => none }
def snapOrderRow : OpenClaim := { program := "ytagakcnhhhlolaa", sum := "c3d2b488c35fcb007eb78449540b4ce7c4c02948e294cbffcd57a878641cc9f8", func := "binnacle/binnaclelaw22.SnapOrder", spec := "snapOrder", unfollowed := true, recurses := true, apart := false }
def SnapOrderSaid : Prop := snapOrderRow.holds Try.pinned (OpenSpec.ofChange snapOrderSpec)

/-- ITS FALSE NEIGHBOUR: 'it returns false'. Refute it at one input. -/
def snapOrderWrong : ChangeSpec := { name := "snapOrder", fn := fun _ => fun
  | [d1, d2, d3, d4] => { results := [.lit (.bool false)], args := [d1, d2, d3, d4] }
  | _ => none }
def SnapOrderWrongFalsely : Prop := snapOrderRow.holds Try.pinned (OpenSpec.ofChange snapOrderWrong)

/-- 'binnaclelaw22.SnapBack': WHATEVER THE INPUT: true; the input reads as it did. -/
def snapBackSpec : ChangeSpec := { name := "snapBack", fn := fun _ => fun
  | [d1, d2, d3] => { results := [.lit (.bool true)], args := [d1, d2, d3] }
  | _ => none }
def snapBackRow : OpenClaim := { program := "ytagakcnhhhlolaa", sum := "c3d2b488c35fcb007eb78449540b4ce7c4c02948e294cbffcd57a878641cc9f8", func := "binnacle/binnaclelaw22.SnapBack", spec := "snapBack", unfollowed := true, recurses := true, apart := false }
def SnapBackSaid : Prop := snapBackRow.holds Try.pinned (OpenSpec.ofChange snapBackSpec)

/-- ITS FALSE NEIGHBOUR: 'it returns false'. Refute it at one input. -/
def snapBackWrong : ChangeSpec := { name := "snapBack", fn := fun _ => fun
  | [d1, d2, d3] => { results := [.lit (.bool false)], args := [d1, d2, d3] }
  | _ => none }
def SnapBackWrongFalsely : Prop := snapBackRow.holds Try.pinned (OpenSpec.ofChange snapBackWrong)

/-- 'binnaclelaw22.SnapScript': WHATEVER THE INPUT: true; the input reads as it did. -/
def snapScriptSpec : ChangeSpec := { name := "snapScript", fn := fun _ => fun
  | [d1, d2, d3, d4] => { results := [.lit (.bool true)], args := [d1, d2, d3, d4] }
  | _ => none }
def snapScriptRow : OpenClaim := { program := "ytagakcnhhhlolaa", sum := "c3d2b488c35fcb007eb78449540b4ce7c4c02948e294cbffcd57a878641cc9f8", func := "binnacle/binnaclelaw22.SnapScript", spec := "snapScript", unfollowed := true, recurses := true, apart := false }
def SnapScriptSaid : Prop := snapScriptRow.holds Try.pinned (OpenSpec.ofChange snapScriptSpec)

/-- ITS FALSE NEIGHBOUR: 'it returns false'. Refute it at one input. -/
def snapScriptWrong : ChangeSpec := { name := "snapScript", fn := fun _ => fun
  | [d1, d2, d3, d4] => { results := [.lit (.bool false)], args := [d1, d2, d3, d4] }
  | _ => none }
def SnapScriptWrongFalsely : Prop := snapScriptRow.holds Try.pinned (OpenSpec.ofChange snapScriptWrong)

/-- 'binnaclelaw22.SnapNone': WHATEVER THE INPUT: true; the input reads as it did. -/
def snapNoneSpec : ChangeSpec := { name := "snapNone", fn := fun _ => fun
  | [d] => { results := [.lit (.bool true)], args := [d] }
  | _ => none }
def snapNoneRow : OpenClaim := { program := "ytagakcnhhhlolaa", sum := "c3d2b488c35fcb007eb78449540b4ce7c4c02948e294cbffcd57a878641cc9f8", func := "binnacle/binnaclelaw22.SnapNone", spec := "snapNone", unfollowed := true, recurses := true, apart := false }
def SnapNoneSaid : Prop := snapNoneRow.holds Try.pinned (OpenSpec.ofChange snapNoneSpec)

/-- ITS FALSE NEIGHBOUR: 'it returns false'. Refute it at one input. -/
def snapNoneWrong : ChangeSpec := { name := "snapNone", fn := fun _ => fun
  | [d] => { results := [.lit (.bool false)], args := [d] }
  | _ => none }
def SnapNoneWrongFalsely : Prop := snapNoneRow.holds Try.pinned (OpenSpec.ofChange snapNoneWrong)

/- THE SECOND FORM. 'bulk': how many values and letters a reading holds, each counted each time it is reached (what is shared counts as often as it is met; a slice's spare places count too). A statement '..UptoSaid' is the law's where the arguments, and the package variables that the reading takes, are together of bulk at most 1048576: NARROWER than '..Said'. Prove '..Said' where nothing that the law and all that it calls make is longer than what came in: it says more and counts as full. Else prove '..UptoSaid'. A law counts once. -/
mutual
def uptoBulk {H : Type} : DataW H → Nat
  | .lit (.string bytes) => bytes.length + 1
  | .lit _ => 1
  | .nil => 1
  | .ptr d => uptoBulk d + 1
  | .slice elems spare => uptoBulkAll elems + uptoBulkAll spare + 1
  | .agg parts => uptoBulkAll parts + 1
  | .iface _ d => uptoBulk d + 1
  | .map entries => uptoBulkEntries entries + 1
  | .held _ => 1
def uptoBulkAll {H : Type} : List (DataW H) → Nat
  | [] => 0
  | d :: r => uptoBulk d + uptoBulkAll r
def uptoBulkEntries {H : Type} : List (Lit × DataW H) → Nat
  | [] => 0
  | x :: r => uptoBulkEntry x + uptoBulkEntries r
def uptoBulkEntry {H : Type} : Lit × DataW H → Nat
  | (.string bytes, d) => bytes.length + uptoBulk d + 1
  | (_, d) => uptoBulk d + 1
 end
def uptoSmall : (H : Type) → List (DataW H) → Bool := fun _ ds => decide (uptoBulkAll ds ≤ 1048576)
def OpenSpec.upto (s : _root_.Go.ChangeSpec) : _root_.Go.OpenSpec := { _root_.Go.OpenSpec.ofChange s with cond := some uptoSmall }

/-- 'binnaclelaw10.ModelTells', WHERE WHAT IT READS IS OF BULK AT MOST 1048576: true; the input reads as it did. -/
def modelTellsUptoRow : OpenClaim := { program := "ytagakcnhhhlolaa", sum := "c3d2b488c35fcb007eb78449540b4ce7c4c02948e294cbffcd57a878641cc9f8", func := "binnacle/binnaclelaw10.ModelTells", spec := "modelTells", unfollowed := true, recurses := true, apart := false, narrowed := true }
def ModelTellsUptoSaid : Prop := modelTellsUptoRow.holds Try.pinned (OpenSpec.upto modelTellsSpec)

/-- 'binnaclelaw10.ModelKnown', WHERE WHAT IT READS IS OF BULK AT MOST 1048576: true; the input reads as it did. -/
def modelKnownUptoRow : OpenClaim := { program := "ytagakcnhhhlolaa", sum := "c3d2b488c35fcb007eb78449540b4ce7c4c02948e294cbffcd57a878641cc9f8", func := "binnacle/binnaclelaw10.ModelKnown", spec := "modelKnown", unfollowed := true, recurses := true, apart := false, narrowed := true }
def ModelKnownUptoSaid : Prop := modelKnownUptoRow.holds Try.pinned (OpenSpec.upto modelKnownSpec)

/-- 'binnaclelaw10.ModelMoves', WHERE WHAT IT READS IS OF BULK AT MOST 1048576: true; the input reads as it did. -/
def modelMovesUptoRow : OpenClaim := { program := "ytagakcnhhhlolaa", sum := "c3d2b488c35fcb007eb78449540b4ce7c4c02948e294cbffcd57a878641cc9f8", func := "binnacle/binnaclelaw10.ModelMoves", spec := "modelMoves", unfollowed := true, recurses := true, apart := false, narrowed := true }
def ModelMovesUptoSaid : Prop := modelMovesUptoRow.holds Try.pinned (OpenSpec.upto modelMovesSpec)

/-- 'binnaclelaw10.ModelRows', WHERE WHAT IT READS IS OF BULK AT MOST 1048576: true; the input reads as it did. -/
def modelRowsUptoRow : OpenClaim := { program := "ytagakcnhhhlolaa", sum := "c3d2b488c35fcb007eb78449540b4ce7c4c02948e294cbffcd57a878641cc9f8", func := "binnacle/binnaclelaw10.ModelRows", spec := "modelRows", unfollowed := true, recurses := true, apart := false, narrowed := true }
def ModelRowsUptoSaid : Prop := modelRowsUptoRow.holds Try.pinned (OpenSpec.upto modelRowsSpec)

/-- 'binnaclelaw10.ModelFits', WHERE WHAT IT READS IS OF BULK AT MOST 1048576: true; the input reads as it did. -/
def modelFitsUptoRow : OpenClaim := { program := "ytagakcnhhhlolaa", sum := "c3d2b488c35fcb007eb78449540b4ce7c4c02948e294cbffcd57a878641cc9f8", func := "binnacle/binnaclelaw10.ModelFits", spec := "modelFits", unfollowed := true, recurses := true, apart := false, narrowed := true }
def ModelFitsUptoSaid : Prop := modelFitsUptoRow.holds Try.pinned (OpenSpec.upto modelFitsSpec)

/-- 'binnaclelaw22.SnapKnown', WHERE WHAT IT READS IS OF BULK AT MOST 1048576: true; the input reads as it did. -/
def snapKnownUptoRow : OpenClaim := { program := "ytagakcnhhhlolaa", sum := "c3d2b488c35fcb007eb78449540b4ce7c4c02948e294cbffcd57a878641cc9f8", func := "binnacle/binnaclelaw22.SnapKnown", spec := "snapKnown", unfollowed := true, recurses := true, apart := false, narrowed := true }
def SnapKnownUptoSaid : Prop := snapKnownUptoRow.holds Try.pinned (OpenSpec.upto snapKnownSpec)

/-- 'binnaclelaw22.SnapOrder', WHERE WHAT IT READS IS OF BULK AT MOST 1048576: true; the input reads as it did. -/
def snapOrderUptoRow : OpenClaim := { program := "ytagakcnhhhlolaa", sum := "c3d2b488c35fcb007eb78449540b4ce7c4c02948e294cbffcd57a878641cc9f8", func := "binnacle/binnaclelaw22.SnapOrder", spec := "snapOrder", unfollowed := true, recurses := true, apart := false, narrowed := true }
def SnapOrderUptoSaid : Prop := snapOrderUptoRow.holds Try.pinned (OpenSpec.upto snapOrderSpec)

/-- 'binnaclelaw22.SnapBack', WHERE WHAT IT READS IS OF BULK AT MOST 1048576: true; the input reads as it did. -/
def snapBackUptoRow : OpenClaim := { program := "ytagakcnhhhlolaa", sum := "c3d2b488c35fcb007eb78449540b4ce7c4c02948e294cbffcd57a878641cc9f8", func := "binnacle/binnaclelaw22.SnapBack", spec := "snapBack", unfollowed := true, recurses := true, apart := false, narrowed := true }
def SnapBackUptoSaid : Prop := snapBackUptoRow.holds Try.pinned (OpenSpec.upto snapBackSpec)

/-- 'binnaclelaw22.SnapScript', WHERE WHAT IT READS IS OF BULK AT MOST 1048576: true; the input reads as it did. -/
def snapScriptUptoRow : OpenClaim := { program := "ytagakcnhhhlolaa", sum := "c3d2b488c35fcb007eb78449540b4ce7c4c02948e294cbffcd57a878641cc9f8", func := "binnacle/binnaclelaw22.SnapScript", spec := "snapScript", unfollowed := true, recurses := true, apart := false, narrowed := true }
def SnapScriptUptoSaid : Prop := snapScriptUptoRow.holds Try.pinned (OpenSpec.upto snapScriptSpec)

/-- 'binnaclelaw22.SnapNone', WHERE WHAT IT READS IS OF BULK AT MOST 1048576: true; the input reads as it did. -/
def snapNoneUptoRow : OpenClaim := { program := "ytagakcnhhhlolaa", sum := "c3d2b488c35fcb007eb78449540b4ce7c4c02948e294cbffcd57a878641cc9f8", func := "binnacle/binnaclelaw22.SnapNone", spec := "snapNone", unfollowed := true, recurses := true, apart := false, narrowed := true }
def SnapNoneUptoSaid : Prop := snapNoneUptoRow.holds Try.pinned (OpenSpec.upto snapNoneSpec)

end Rows
end Go.Proofs.Ytagakcnhhhlolaa
