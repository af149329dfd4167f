/-
  No cell of these rows narrows 'for every input' (looked for: loops, veiled, ifaces, maps, wideKeys, modest, calm, conditions, laid).
  DERIVED. THE GIVEN ROWS OF THIS SEAT. 11 by the template 'for every input the law returns true; each argument reads behind the call as it read before'; 0 by the template 'total and deterministic' (their statements: YtfjdooloikofoaaTotals.lean).
  GIVEN WITH THE SEED: the statements are not yours to turn. If you find one false, say at which input.
  Laid BY PROGRAM, IN A SANDBOX (cutbox-rows.mjs): the forced cells as the released guide's own fill.sh prints them over the translation 4ef7aa12b3e2c10a… (all of the seat's roots in one cut). By AI agents, Wed Nov 11 2026. No macro, syntax, notation, axiom, sorry.
-/
import Derived.Test.YtfjdooloikofoaaChecked
import GoSem.Claim
import GoSem.ClaimJoined
import GoSem.ClaimMapViews
import Derived.JoinedTies
import Derived.KernelRfl
namespace Go.Proofs.Ytfjdooloikofoaa
/- THE CELL 'sum', in the pinned program and in every row, IS THE sha256 OF THE DUMP (.gsa) THAT YtfjdooloikofoaaProg.lean LOADS. Nothing in Lean hashes anything: it is a label: what it is worth is what the hold of that sum in a sandbox is worth. -/
noncomputable def Try.pinned : Pinned := { name := "ytfjdooloikofoaa", sum := "4ef7aa12b3e2c10a8700f6ec4aa3b5520916bd16aed7c88934ed11a2cb3a63ae", checked := Try.checked }
namespace Rows
def none {H : Type} : Left H := { results := [], args := [] }

/-- 'binnaclelaw17.StampTells': WHATEVER THE INPUT: true; the input reads as it did. -/
def stampTellsSpec : ChangeSpec := { name := "stampTells", fn := fun _ => fun
  | [d1, d2, d3, d4, d5] => { results := [.lit (.bool true)], args := [d1, d2, d3, d4, d5] }
  | _ => none }
def stampTellsRow : OpenClaim := { program := "ytfjdooloikofoaa", sum := "4ef7aa12b3e2c10a8700f6ec4aa3b5520916bd16aed7c88934ed11a2cb3a63ae", func := "binnacle/binnaclelaw17.StampTells", spec := "stampTells", apart := false }
def StampTellsSaid : Prop := stampTellsRow.holds Try.pinned (OpenSpec.ofChange stampTellsSpec)

/-- ITS FALSE NEIGHBOUR: 'it returns false'. Refute it at one input. -/
def stampTellsWrong : ChangeSpec := { name := "stampTells", fn := fun _ => fun
  | [d1, d2, d3, d4, d5] => { results := [.lit (.bool false)], args := [d1, d2, d3, d4, d5] }
  | _ => none }
def StampTellsWrongFalsely : Prop := stampTellsRow.holds Try.pinned (OpenSpec.ofChange stampTellsWrong)

/-- 'binnaclelaw17.StampNone': WHATEVER THE INPUT: true; the input reads as it did. -/
def stampNoneSpec : ChangeSpec := { name := "stampNone", fn := fun _ => fun
  | [d] => { results := [.lit (.bool true)], args := [d] }
  | _ => none }
def stampNoneRow : OpenClaim := { program := "ytfjdooloikofoaa", sum := "4ef7aa12b3e2c10a8700f6ec4aa3b5520916bd16aed7c88934ed11a2cb3a63ae", func := "binnacle/binnaclelaw17.StampNone", spec := "stampNone", unfollowed := true, recurses := true, apart := false }
def StampNoneSaid : Prop := stampNoneRow.holds Try.pinned (OpenSpec.ofChange stampNoneSpec)

/-- ITS FALSE NEIGHBOUR: 'it returns false'. Refute it at one input. -/
def stampNoneWrong : ChangeSpec := { name := "stampNone", fn := fun _ => fun
  | [d] => { results := [.lit (.bool false)], args := [d] }
  | _ => none }
def StampNoneWrongFalsely : Prop := stampNoneRow.holds Try.pinned (OpenSpec.ofChange stampNoneWrong)

/-- 'binnaclelaw17.StampLags': WHATEVER THE INPUT: true; the input reads as it did. -/
def stampLagsSpec : ChangeSpec := { name := "stampLags", fn := fun _ => fun
  | [d] => { results := [.lit (.bool true)], args := [d] }
  | _ => none }
def stampLagsRow : OpenClaim := { program := "ytfjdooloikofoaa", sum := "4ef7aa12b3e2c10a8700f6ec4aa3b5520916bd16aed7c88934ed11a2cb3a63ae", func := "binnacle/binnaclelaw17.StampLags", spec := "stampLags", unfollowed := true, recurses := true, apart := false }
def StampLagsSaid : Prop := stampLagsRow.holds Try.pinned (OpenSpec.ofChange stampLagsSpec)

/-- ITS FALSE NEIGHBOUR: 'it returns false'. Refute it at one input. -/
def stampLagsWrong : ChangeSpec := { name := "stampLags", fn := fun _ => fun
  | [d] => { results := [.lit (.bool false)], args := [d] }
  | _ => none }
def StampLagsWrongFalsely : Prop := stampLagsRow.holds Try.pinned (OpenSpec.ofChange stampLagsWrong)

/-- 'binnaclelaw17.StampKnown': WHATEVER THE INPUT: true; the input reads as it did. -/
def stampKnownSpec : ChangeSpec := { name := "stampKnown", fn := fun _ => fun
  | [] => { results := [.lit (.bool true)], args := [] }
  | _ => none }
def stampKnownRow : OpenClaim := { program := "ytfjdooloikofoaa", sum := "4ef7aa12b3e2c10a8700f6ec4aa3b5520916bd16aed7c88934ed11a2cb3a63ae", func := "binnacle/binnaclelaw17.StampKnown", spec := "stampKnown", unfollowed := true, recurses := true, apart := false }
def StampKnownSaid : Prop := stampKnownRow.holds Try.pinned (OpenSpec.ofChange stampKnownSpec)

/-- ITS FALSE NEIGHBOUR: 'it returns false'. Refute it at one input. -/
def stampKnownWrong : ChangeSpec := { name := "stampKnown", fn := fun _ => fun
  | [] => { results := [.lit (.bool false)], args := [] }
  | _ => none }
def StampKnownWrongFalsely : Prop := stampKnownRow.holds Try.pinned (OpenSpec.ofChange stampKnownWrong)

/-- 'binnaclelaw17.StampTrue': WHATEVER THE INPUT: true; the input reads as it did. -/
def stampTrueSpec : ChangeSpec := { name := "stampTrue", fn := fun _ => fun
  | [d1, d2, d3, d4] => { results := [.lit (.bool true)], args := [d1, d2, d3, d4] }
  | _ => none }
def stampTrueRow : OpenClaim := { program := "ytfjdooloikofoaa", sum := "4ef7aa12b3e2c10a8700f6ec4aa3b5520916bd16aed7c88934ed11a2cb3a63ae", func := "binnacle/binnaclelaw17.StampTrue", spec := "stampTrue", unfollowed := true, recurses := true, apart := false }
def StampTrueSaid : Prop := stampTrueRow.holds Try.pinned (OpenSpec.ofChange stampTrueSpec)

/-- ITS FALSE NEIGHBOUR: 'it returns false'. Refute it at one input. -/
def stampTrueWrong : ChangeSpec := { name := "stampTrue", fn := fun _ => fun
  | [d1, d2, d3, d4] => { results := [.lit (.bool false)], args := [d1, d2, d3, d4] }
  | _ => none }
def StampTrueWrongFalsely : Prop := stampTrueRow.holds Try.pinned (OpenSpec.ofChange stampTrueWrong)

/-- 'binnaclelaw17.StampMean': WHATEVER THE INPUT: true; the input reads as it did. -/
def stampMeanSpec : ChangeSpec := { name := "stampMean", fn := fun _ => fun
  | [d1, d2] => { results := [.lit (.bool true)], args := [d1, d2] }
  | _ => none }
def stampMeanRow : OpenClaim := { program := "ytfjdooloikofoaa", sum := "4ef7aa12b3e2c10a8700f6ec4aa3b5520916bd16aed7c88934ed11a2cb3a63ae", func := "binnacle/binnaclelaw17.StampMean", spec := "stampMean", unfollowed := true, recurses := true, apart := false }
def StampMeanSaid : Prop := stampMeanRow.holds Try.pinned (OpenSpec.ofChange stampMeanSpec)

/-- ITS FALSE NEIGHBOUR: 'it returns false'. Refute it at one input. -/
def stampMeanWrong : ChangeSpec := { name := "stampMean", fn := fun _ => fun
  | [d1, d2] => { results := [.lit (.bool false)], args := [d1, d2] }
  | _ => none }
def StampMeanWrongFalsely : Prop := stampMeanRow.holds Try.pinned (OpenSpec.ofChange stampMeanWrong)

/-- 'binnaclelaw16.SyncKnown': WHATEVER THE INPUT: true; the input reads as it did. -/
def syncKnownSpec : ChangeSpec := { name := "syncKnown", fn := fun _ => fun
  | [] => { results := [.lit (.bool true)], args := [] }
  | _ => none }
def syncKnownRow : OpenClaim := { program := "ytfjdooloikofoaa", sum := "4ef7aa12b3e2c10a8700f6ec4aa3b5520916bd16aed7c88934ed11a2cb3a63ae", func := "binnacle/binnaclelaw16.SyncKnown", spec := "syncKnown", unfollowed := true, recurses := true, apart := false }
def SyncKnownSaid : Prop := syncKnownRow.holds Try.pinned (OpenSpec.ofChange syncKnownSpec)

/-- ITS FALSE NEIGHBOUR: 'it returns false'. Refute it at one input. -/
def syncKnownWrong : ChangeSpec := { name := "syncKnown", fn := fun _ => fun
  | [] => { results := [.lit (.bool false)], args := [] }
  | _ => none }
def SyncKnownWrongFalsely : Prop := syncKnownRow.holds Try.pinned (OpenSpec.ofChange syncKnownWrong)

/-- 'binnaclelaw16.SyncScript': WHATEVER THE INPUT: true; the input reads as it did. -/
def syncScriptSpec : ChangeSpec := { name := "syncScript", fn := fun _ => fun
  | [d1, d2] => { results := [.lit (.bool true)], args := [d1, d2] }
  | _ => none }
def syncScriptRow : OpenClaim := { program := "ytfjdooloikofoaa", sum := "4ef7aa12b3e2c10a8700f6ec4aa3b5520916bd16aed7c88934ed11a2cb3a63ae", func := "binnacle/binnaclelaw16.SyncScript", spec := "syncScript", unfollowed := true, recurses := true, apart := false }
def SyncScriptSaid : Prop := syncScriptRow.holds Try.pinned (OpenSpec.ofChange syncScriptSpec)

/-- ITS FALSE NEIGHBOUR: 'it returns false'. Refute it at one input. -/
def syncScriptWrong : ChangeSpec := { name := "syncScript", fn := fun _ => fun
  | [d1, d2] => { results := [.lit (.bool false)], args := [d1, d2] }
  | _ => none }
def SyncScriptWrongFalsely : Prop := syncScriptRow.holds Try.pinned (OpenSpec.ofChange syncScriptWrong)

/-- 'binnaclelaw16.SyncNone': WHATEVER THE INPUT: true; the input reads as it did. -/
def syncNoneSpec : ChangeSpec := { name := "syncNone", fn := fun _ => fun
  | [d] => { results := [.lit (.bool true)], args := [d] }
  | _ => none }
def syncNoneRow : OpenClaim := { program := "ytfjdooloikofoaa", sum := "4ef7aa12b3e2c10a8700f6ec4aa3b5520916bd16aed7c88934ed11a2cb3a63ae", func := "binnacle/binnaclelaw16.SyncNone", spec := "syncNone", unfollowed := true, recurses := true, apart := false }
def SyncNoneSaid : Prop := syncNoneRow.holds Try.pinned (OpenSpec.ofChange syncNoneSpec)

/-- ITS FALSE NEIGHBOUR: 'it returns false'. Refute it at one input. -/
def syncNoneWrong : ChangeSpec := { name := "syncNone", fn := fun _ => fun
  | [d] => { results := [.lit (.bool false)], args := [d] }
  | _ => none }
def SyncNoneWrongFalsely : Prop := syncNoneRow.holds Try.pinned (OpenSpec.ofChange syncNoneWrong)

/-- 'binnaclelaw16.SyncTrue': WHATEVER THE INPUT: true; the input reads as it did. -/
def syncTrueSpec : ChangeSpec := { name := "syncTrue", fn := fun _ => fun
  | [d1, d2, d3] => { results := [.lit (.bool true)], args := [d1, d2, d3] }
  | _ => none }
def syncTrueRow : OpenClaim := { program := "ytfjdooloikofoaa", sum := "4ef7aa12b3e2c10a8700f6ec4aa3b5520916bd16aed7c88934ed11a2cb3a63ae", func := "binnacle/binnaclelaw16.SyncTrue", spec := "syncTrue", unfollowed := true, recurses := true, apart := false }
def SyncTrueSaid : Prop := syncTrueRow.holds Try.pinned (OpenSpec.ofChange syncTrueSpec)

/-- ITS FALSE NEIGHBOUR: 'it returns false'. Refute it at one input. -/
def syncTrueWrong : ChangeSpec := { name := "syncTrue", fn := fun _ => fun
  | [d1, d2, d3] => { results := [.lit (.bool false)], args := [d1, d2, d3] }
  | _ => none }
def SyncTrueWrongFalsely : Prop := syncTrueRow.holds Try.pinned (OpenSpec.ofChange syncTrueWrong)

/-- 'binnaclelaw16.SyncRefused': WHATEVER THE INPUT: true; the input reads as it did. -/
def syncRefusedSpec : ChangeSpec := { name := "syncRefused", fn := fun _ => fun
  | [d1, d2, d3] => { results := [.lit (.bool true)], args := [d1, d2, d3] }
  | _ => none }
def syncRefusedRow : OpenClaim := { program := "ytfjdooloikofoaa", sum := "4ef7aa12b3e2c10a8700f6ec4aa3b5520916bd16aed7c88934ed11a2cb3a63ae", func := "binnacle/binnaclelaw16.SyncRefused", spec := "syncRefused", unfollowed := true, recurses := true, apart := false }
def SyncRefusedSaid : Prop := syncRefusedRow.holds Try.pinned (OpenSpec.ofChange syncRefusedSpec)

/-- ITS FALSE NEIGHBOUR: 'it returns false'. Refute it at one input. -/
def syncRefusedWrong : ChangeSpec := { name := "syncRefused", fn := fun _ => fun
  | [d1, d2, d3] => { results := [.lit (.bool false)], args := [d1, d2, d3] }
  | _ => none }
def SyncRefusedWrongFalsely : Prop := syncRefusedRow.holds Try.pinned (OpenSpec.ofChange syncRefusedWrong)

/- THE SECOND FORM. 'bulk': how many values and letters a reading holds, each counted each time it is reached (what is shared counts as often as it is met; a slice's spare places count too). A statement '..UptoSaid' is the law's where the arguments, and the package variables that the reading takes, are together of bulk at most 1048576: NARROWER than '..Said'. Prove '..Said' where nothing that the law and all that it calls make is longer than what came in: it says more and counts as full. Else prove '..UptoSaid'. A law counts once. -/
mutual
def uptoBulk {H : Type} : DataW H → Nat
  | .lit (.string bytes) => bytes.length + 1
  | .lit _ => 1
  | .nil => 1
  | .ptr d => uptoBulk d + 1
  | .slice elems spare => uptoBulkAll elems + uptoBulkAll spare + 1
  | .agg parts => uptoBulkAll parts + 1
  | .iface _ d => uptoBulk d + 1
  | .map entries => uptoBulkEntries entries + 1
  | .held _ => 1
def uptoBulkAll {H : Type} : List (DataW H) → Nat
  | [] => 0
  | d :: r => uptoBulk d + uptoBulkAll r
def uptoBulkEntries {H : Type} : List (Lit × DataW H) → Nat
  | [] => 0
  | x :: r => uptoBulkEntry x + uptoBulkEntries r
def uptoBulkEntry {H : Type} : Lit × DataW H → Nat
  | (.string bytes, d) => bytes.length + uptoBulk d + 1
  | (_, d) => uptoBulk d + 1
 end
def uptoSmall : (H : Type) → List (DataW H) → Bool := fun _ ds => decide (uptoBulkAll ds ≤ 1048576)
def OpenSpec.upto (s : _root_.Go.ChangeSpec) : _root_.Go.OpenSpec := { _root_.Go.OpenSpec.ofChange s with cond := some uptoSmall }

/-- 'binnaclelaw17.StampTells', WHERE WHAT IT READS IS OF BULK AT MOST 1048576: true; the input reads as it did. -/
def stampTellsUptoRow : OpenClaim := { program := "ytfjdooloikofoaa", sum := "4ef7aa12b3e2c10a8700f6ec4aa3b5520916bd16aed7c88934ed11a2cb3a63ae", func := "binnacle/binnaclelaw17.StampTells", spec := "stampTells", apart := false, narrowed := true }
def StampTellsUptoSaid : Prop := stampTellsUptoRow.holds Try.pinned (OpenSpec.upto stampTellsSpec)

/-- 'binnaclelaw17.StampNone', WHERE WHAT IT READS IS OF BULK AT MOST 1048576: true; the input reads as it did. -/
def stampNoneUptoRow : OpenClaim := { program := "ytfjdooloikofoaa", sum := "4ef7aa12b3e2c10a8700f6ec4aa3b5520916bd16aed7c88934ed11a2cb3a63ae", func := "binnacle/binnaclelaw17.StampNone", spec := "stampNone", unfollowed := true, recurses := true, apart := false, narrowed := true }
def StampNoneUptoSaid : Prop := stampNoneUptoRow.holds Try.pinned (OpenSpec.upto stampNoneSpec)

/-- 'binnaclelaw17.StampLags', WHERE WHAT IT READS IS OF BULK AT MOST 1048576: true; the input reads as it did. -/
def stampLagsUptoRow : OpenClaim := { program := "ytfjdooloikofoaa", sum := "4ef7aa12b3e2c10a8700f6ec4aa3b5520916bd16aed7c88934ed11a2cb3a63ae", func := "binnacle/binnaclelaw17.StampLags", spec := "stampLags", unfollowed := true, recurses := true, apart := false, narrowed := true }
def StampLagsUptoSaid : Prop := stampLagsUptoRow.holds Try.pinned (OpenSpec.upto stampLagsSpec)

/-- 'binnaclelaw17.StampKnown', WHERE WHAT IT READS IS OF BULK AT MOST 1048576: true; the input reads as it did. -/
def stampKnownUptoRow : OpenClaim := { program := "ytfjdooloikofoaa", sum := "4ef7aa12b3e2c10a8700f6ec4aa3b5520916bd16aed7c88934ed11a2cb3a63ae", func := "binnacle/binnaclelaw17.StampKnown", spec := "stampKnown", unfollowed := true, recurses := true, apart := false, narrowed := true }
def StampKnownUptoSaid : Prop := stampKnownUptoRow.holds Try.pinned (OpenSpec.upto stampKnownSpec)

/-- 'binnaclelaw17.StampTrue', WHERE WHAT IT READS IS OF BULK AT MOST 1048576: true; the input reads as it did. -/
def stampTrueUptoRow : OpenClaim := { program := "ytfjdooloikofoaa", sum := "4ef7aa12b3e2c10a8700f6ec4aa3b5520916bd16aed7c88934ed11a2cb3a63ae", func := "binnacle/binnaclelaw17.StampTrue", spec := "stampTrue", unfollowed := true, recurses := true, apart := false, narrowed := true }
def StampTrueUptoSaid : Prop := stampTrueUptoRow.holds Try.pinned (OpenSpec.upto stampTrueSpec)

/-- 'binnaclelaw17.StampMean', WHERE WHAT IT READS IS OF BULK AT MOST 1048576: true; the input reads as it did. -/
def stampMeanUptoRow : OpenClaim := { program := "ytfjdooloikofoaa", sum := "4ef7aa12b3e2c10a8700f6ec4aa3b5520916bd16aed7c88934ed11a2cb3a63ae", func := "binnacle/binnaclelaw17.StampMean", spec := "stampMean", unfollowed := true, recurses := true, apart := false, narrowed := true }
def StampMeanUptoSaid : Prop := stampMeanUptoRow.holds Try.pinned (OpenSpec.upto stampMeanSpec)

/-- 'binnaclelaw16.SyncKnown', WHERE WHAT IT READS IS OF BULK AT MOST 1048576: true; the input reads as it did. -/
def syncKnownUptoRow : OpenClaim := { program := "ytfjdooloikofoaa", sum := "4ef7aa12b3e2c10a8700f6ec4aa3b5520916bd16aed7c88934ed11a2cb3a63ae", func := "binnacle/binnaclelaw16.SyncKnown", spec := "syncKnown", unfollowed := true, recurses := true, apart := false, narrowed := true }
def SyncKnownUptoSaid : Prop := syncKnownUptoRow.holds Try.pinned (OpenSpec.upto syncKnownSpec)

/-- 'binnaclelaw16.SyncScript', WHERE WHAT IT READS IS OF BULK AT MOST 1048576: true; the input reads as it did. -/
def syncScriptUptoRow : OpenClaim := { program := "ytfjdooloikofoaa", sum := "4ef7aa12b3e2c10a8700f6ec4aa3b5520916bd16aed7c88934ed11a2cb3a63ae", func := "binnacle/binnaclelaw16.SyncScript", spec := "syncScript", unfollowed := true, recurses := true, apart := false, narrowed := true }
def SyncScriptUptoSaid : Prop := syncScriptUptoRow.holds Try.pinned (OpenSpec.upto syncScriptSpec)

/-- 'binnaclelaw16.SyncNone', WHERE WHAT IT READS IS OF BULK AT MOST 1048576: true; the input reads as it did. -/
def syncNoneUptoRow : OpenClaim := { program := "ytfjdooloikofoaa", sum := "4ef7aa12b3e2c10a8700f6ec4aa3b5520916bd16aed7c88934ed11a2cb3a63ae", func := "binnacle/binnaclelaw16.SyncNone", spec := "syncNone", unfollowed := true, recurses := true, apart := false, narrowed := true }
def SyncNoneUptoSaid : Prop := syncNoneUptoRow.holds Try.pinned (OpenSpec.upto syncNoneSpec)

/-- 'binnaclelaw16.SyncTrue', WHERE WHAT IT READS IS OF BULK AT MOST 1048576: true; the input reads as it did. -/
def syncTrueUptoRow : OpenClaim := { program := "ytfjdooloikofoaa", sum := "4ef7aa12b3e2c10a8700f6ec4aa3b5520916bd16aed7c88934ed11a2cb3a63ae", func := "binnacle/binnaclelaw16.SyncTrue", spec := "syncTrue", unfollowed := true, recurses := true, apart := false, narrowed := true }
def SyncTrueUptoSaid : Prop := syncTrueUptoRow.holds Try.pinned (OpenSpec.upto syncTrueSpec)

/-- 'binnaclelaw16.SyncRefused', WHERE WHAT IT READS IS OF BULK AT MOST 1048576: true; the input reads as it did. -/
def syncRefusedUptoRow : OpenClaim := { program := "ytfjdooloikofoaa", sum := "4ef7aa12b3e2c10a8700f6ec4aa3b5520916bd16aed7c88934ed11a2cb3a63ae", func := "binnacle/binnaclelaw16.SyncRefused", spec := "syncRefused", unfollowed := true, recurses := true, apart := false, narrowed := true }
def SyncRefusedUptoSaid : Prop := syncRefusedUptoRow.holds Try.pinned (OpenSpec.upto syncRefusedSpec)

end Rows
end Go.Proofs.Ytfjdooloikofoaa
