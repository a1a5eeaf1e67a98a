/-
  No cell of these rows narrows 'for every input' (looked for: loops, veiled, ifaces, maps, wideKeys, modest, calm, conditions, laid).
  DERIVED. THE GIVEN ROWS OF THIS SEAT. 5 by the template 'for every input the law returns true; each argument reads behind the call as it read before'; 0 by the template 'total and deterministic' (their statements: YtmdppkbekmpopaaGreatTotals.lean).
  GIVEN WITH THE SEED: the statements are not yours to turn. If you find one false, say at which input.
  Laid BY PROGRAM, IN A SANDBOX (cutbox-rows.mjs): the forced cells as the released guide's own fill.sh prints them over the translation b067c49bb79280fc… (all of the seat's roots in one cut). By AI agents, Wed Nov 11 2026. No macro, syntax, notation, axiom, sorry.
-/
import Derived.Test.YtmdppkbekmpopaaGreatChecked
import GoSem.Claim
import GoSem.ClaimJoined
import GoSem.ClaimMapViews
import Derived.JoinedTies
import Derived.KernelRfl
namespace Go.Proofs.YtmdppkbekmpopaaGreat
/- THE CELL 'sum', in the pinned program and in every row, IS THE sha256 OF THE DUMP (.gsa) THAT YtmdppkbekmpopaaGreatProg.lean LOADS. Nothing in Lean hashes anything: it is a label: what it is worth is what the hold of that sum in a sandbox is worth. -/
noncomputable def Tryz.pinned : Pinned := { name := "ytmdppkbekmpopaagreat", sum := "b067c49bb79280fcdddaa8ebbc5ee03fd240b7b6f2356186732a51f6a65635a9", checked := Tryz.checked }
namespace Rows
def none {H : Type} : Left H := { results := [], args := [] }

/-- 'augurlaw11.CallsGraph': WHATEVER THE INPUT: true; the input reads as it did. -/
def callsGraphSpec : ChangeSpec := { name := "callsGraph", fn := fun _ => fun
  | [d] => { results := [.lit (.bool true)], args := [d] }
  | _ => none }
def callsGraphRow : OpenClaim := { program := "ytmdppkbekmpopaagreat", sum := "b067c49bb79280fcdddaa8ebbc5ee03fd240b7b6f2356186732a51f6a65635a9", func := "augur/augurlaw11.CallsGraph", spec := "callsGraph", inPlace := ["internal/bytealg.abigen_runtime_cmpstring"], unfollowed := true, recurses := true, apart := false }
def CallsGraphSaid : Prop := callsGraphRow.holds Tryz.pinned (OpenSpec.ofChange callsGraphSpec)

/-- ITS FALSE NEIGHBOUR: 'it returns false'. Refute it at one input. -/
def callsGraphWrong : ChangeSpec := { name := "callsGraph", fn := fun _ => fun
  | [d] => { results := [.lit (.bool false)], args := [d] }
  | _ => none }
def CallsGraphWrongFalsely : Prop := callsGraphRow.holds Tryz.pinned (OpenSpec.ofChange callsGraphWrong)

/-- 'augurlaw22.DepKeys': WHATEVER THE INPUT: true; the input reads as it did. -/
def depKeysSpec : ChangeSpec := { name := "depKeys", fn := fun _ => fun
  | [d1, d2, d3, d4] => { results := [.lit (.bool true)], args := [d1, d2, d3, d4] }
  | _ => none }
def depKeysRow : OpenClaim := { program := "ytmdppkbekmpopaagreat", sum := "b067c49bb79280fcdddaa8ebbc5ee03fd240b7b6f2356186732a51f6a65635a9", func := "augur/augurlaw22.DepKeys", spec := "depKeys", inPlace := ["internal/bytealg.abigen_runtime_cmpstring"], unfollowed := true, recurses := true, apart := false }
def DepKeysSaid : Prop := depKeysRow.holds Tryz.pinned (OpenSpec.ofChange depKeysSpec)

/-- ITS FALSE NEIGHBOUR: 'it returns false'. Refute it at one input. -/
def depKeysWrong : ChangeSpec := { name := "depKeys", fn := fun _ => fun
  | [d1, d2, d3, d4] => { results := [.lit (.bool false)], args := [d1, d2, d3, d4] }
  | _ => none }
def DepKeysWrongFalsely : Prop := depKeysRow.holds Tryz.pinned (OpenSpec.ofChange depKeysWrong)

/-- 'augurlaw22.DepValid': WHATEVER THE INPUT: true; the input reads as it did. -/
def depValidSpec : ChangeSpec := { name := "depValid", fn := fun _ => fun
  | [d1, d2, d3, d4] => { results := [.lit (.bool true)], args := [d1, d2, d3, d4] }
  | _ => none }
def depValidRow : OpenClaim := { program := "ytmdppkbekmpopaagreat", sum := "b067c49bb79280fcdddaa8ebbc5ee03fd240b7b6f2356186732a51f6a65635a9", func := "augur/augurlaw22.DepValid", spec := "depValid", inPlace := ["internal/bytealg.abigen_runtime_cmpstring"], unfollowed := true, recurses := true, apart := false }
def DepValidSaid : Prop := depValidRow.holds Tryz.pinned (OpenSpec.ofChange depValidSpec)

/-- ITS FALSE NEIGHBOUR: 'it returns false'. Refute it at one input. -/
def depValidWrong : ChangeSpec := { name := "depValid", fn := fun _ => fun
  | [d1, d2, d3, d4] => { results := [.lit (.bool false)], args := [d1, d2, d3, d4] }
  | _ => none }
def DepValidWrongFalsely : Prop := depValidRow.holds Tryz.pinned (OpenSpec.ofChange depValidWrong)

/-- 'augurlaw22.DepExact': WHATEVER THE INPUT: true; the input reads as it did. -/
def depExactSpec : ChangeSpec := { name := "depExact", fn := fun _ => fun
  | [d1, d2, d3, d4, d5] => { results := [.lit (.bool true)], args := [d1, d2, d3, d4, d5] }
  | _ => none }
def depExactRow : OpenClaim := { program := "ytmdppkbekmpopaagreat", sum := "b067c49bb79280fcdddaa8ebbc5ee03fd240b7b6f2356186732a51f6a65635a9", func := "augur/augurlaw22.DepExact", spec := "depExact", inPlace := ["internal/bytealg.abigen_runtime_cmpstring"], unfollowed := true, recurses := true, apart := false }
def DepExactSaid : Prop := depExactRow.holds Tryz.pinned (OpenSpec.ofChange depExactSpec)

/-- ITS FALSE NEIGHBOUR: 'it returns false'. Refute it at one input. -/
def depExactWrong : ChangeSpec := { name := "depExact", fn := fun _ => fun
  | [d1, d2, d3, d4, d5] => { results := [.lit (.bool false)], args := [d1, d2, d3, d4, d5] }
  | _ => none }
def DepExactWrongFalsely : Prop := depExactRow.holds Tryz.pinned (OpenSpec.ofChange depExactWrong)

/-- 'augurlaw22.DepEdits': WHATEVER THE INPUT: true; the input reads as it did. -/
def depEditsSpec : ChangeSpec := { name := "depEdits", fn := fun _ => fun
  | [d1, d2, d3, d4] => { results := [.lit (.bool true)], args := [d1, d2, d3, d4] }
  | _ => none }
def depEditsRow : OpenClaim := { program := "ytmdppkbekmpopaagreat", sum := "b067c49bb79280fcdddaa8ebbc5ee03fd240b7b6f2356186732a51f6a65635a9", func := "augur/augurlaw22.DepEdits", spec := "depEdits", inPlace := ["internal/bytealg.abigen_runtime_cmpstring"], unfollowed := true, recurses := true, apart := false }
def DepEditsSaid : Prop := depEditsRow.holds Tryz.pinned (OpenSpec.ofChange depEditsSpec)

/-- ITS FALSE NEIGHBOUR: 'it returns false'. Refute it at one input. -/
def depEditsWrong : ChangeSpec := { name := "depEdits", fn := fun _ => fun
  | [d1, d2, d3, d4] => { results := [.lit (.bool false)], args := [d1, d2, d3, d4] }
  | _ => none }
def DepEditsWrongFalsely : Prop := depEditsRow.holds Tryz.pinned (OpenSpec.ofChange depEditsWrong)

/- THE SECOND FORM. 'bulk': how many values and letters a reading holds, each counted each time it is reached (what is shared counts as often as it is met; a slice's spare places count too). A statement '..UptoSaid' is the law's where the arguments, and the package variables that the reading takes, are together of bulk at most 1048576: NARROWER than '..Said'. Prove '..Said' where nothing that the law and all that it calls make is longer than what came in: it says more and counts as full. Else prove '..UptoSaid'. A law counts once. -/
mutual
def uptoBulk {H : Type} : DataW H → Nat
  | .lit (.string bytes) => bytes.length + 1
  | .lit _ => 1
  | .nil => 1
  | .ptr d => uptoBulk d + 1
  | .slice elems spare => uptoBulkAll elems + uptoBulkAll spare + 1
  | .agg parts => uptoBulkAll parts + 1
  | .iface _ d => uptoBulk d + 1
  | .map entries => uptoBulkEntries entries + 1
  | .held _ => 1
def uptoBulkAll {H : Type} : List (DataW H) → Nat
  | [] => 0
  | d :: r => uptoBulk d + uptoBulkAll r
def uptoBulkEntries {H : Type} : List (Lit × DataW H) → Nat
  | [] => 0
  | x :: r => uptoBulkEntry x + uptoBulkEntries r
def uptoBulkEntry {H : Type} : Lit × DataW H → Nat
  | (.string bytes, d) => bytes.length + uptoBulk d + 1
  | (_, d) => uptoBulk d + 1
 end
def uptoSmall : (H : Type) → List (DataW H) → Bool := fun _ ds => decide (uptoBulkAll ds ≤ 1048576)
def OpenSpec.upto (s : _root_.Go.ChangeSpec) : _root_.Go.OpenSpec := { _root_.Go.OpenSpec.ofChange s with cond := some uptoSmall }

/-- 'augurlaw11.CallsGraph', WHERE WHAT IT READS IS OF BULK AT MOST 1048576: true; the input reads as it did. -/
def callsGraphUptoRow : OpenClaim := { program := "ytmdppkbekmpopaagreat", sum := "b067c49bb79280fcdddaa8ebbc5ee03fd240b7b6f2356186732a51f6a65635a9", func := "augur/augurlaw11.CallsGraph", spec := "callsGraph", inPlace := ["internal/bytealg.abigen_runtime_cmpstring"], unfollowed := true, recurses := true, apart := false, narrowed := true }
def CallsGraphUptoSaid : Prop := callsGraphUptoRow.holds Tryz.pinned (OpenSpec.upto callsGraphSpec)

/-- 'augurlaw22.DepKeys', WHERE WHAT IT READS IS OF BULK AT MOST 1048576: true; the input reads as it did. -/
def depKeysUptoRow : OpenClaim := { program := "ytmdppkbekmpopaagreat", sum := "b067c49bb79280fcdddaa8ebbc5ee03fd240b7b6f2356186732a51f6a65635a9", func := "augur/augurlaw22.DepKeys", spec := "depKeys", inPlace := ["internal/bytealg.abigen_runtime_cmpstring"], unfollowed := true, recurses := true, apart := false, narrowed := true }
def DepKeysUptoSaid : Prop := depKeysUptoRow.holds Tryz.pinned (OpenSpec.upto depKeysSpec)

/-- 'augurlaw22.DepValid', WHERE WHAT IT READS IS OF BULK AT MOST 1048576: true; the input reads as it did. -/
def depValidUptoRow : OpenClaim := { program := "ytmdppkbekmpopaagreat", sum := "b067c49bb79280fcdddaa8ebbc5ee03fd240b7b6f2356186732a51f6a65635a9", func := "augur/augurlaw22.DepValid", spec := "depValid", inPlace := ["internal/bytealg.abigen_runtime_cmpstring"], unfollowed := true, recurses := true, apart := false, narrowed := true }
def DepValidUptoSaid : Prop := depValidUptoRow.holds Tryz.pinned (OpenSpec.upto depValidSpec)

/-- 'augurlaw22.DepExact', WHERE WHAT IT READS IS OF BULK AT MOST 1048576: true; the input reads as it did. -/
def depExactUptoRow : OpenClaim := { program := "ytmdppkbekmpopaagreat", sum := "b067c49bb79280fcdddaa8ebbc5ee03fd240b7b6f2356186732a51f6a65635a9", func := "augur/augurlaw22.DepExact", spec := "depExact", inPlace := ["internal/bytealg.abigen_runtime_cmpstring"], unfollowed := true, recurses := true, apart := false, narrowed := true }
def DepExactUptoSaid : Prop := depExactUptoRow.holds Tryz.pinned (OpenSpec.upto depExactSpec)

/-- 'augurlaw22.DepEdits', WHERE WHAT IT READS IS OF BULK AT MOST 1048576: true; the input reads as it did. -/
def depEditsUptoRow : OpenClaim := { program := "ytmdppkbekmpopaagreat", sum := "b067c49bb79280fcdddaa8ebbc5ee03fd240b7b6f2356186732a51f6a65635a9", func := "augur/augurlaw22.DepEdits", spec := "depEdits", inPlace := ["internal/bytealg.abigen_runtime_cmpstring"], unfollowed := true, recurses := true, apart := false, narrowed := true }
def DepEditsUptoSaid : Prop := depEditsUptoRow.holds Tryz.pinned (OpenSpec.upto depEditsSpec)

end Rows
end Go.Proofs.YtmdppkbekmpopaaGreat
