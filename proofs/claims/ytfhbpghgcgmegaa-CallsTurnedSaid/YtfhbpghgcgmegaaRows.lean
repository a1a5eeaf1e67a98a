/-
  No cell of these rows narrows 'for every input' (looked for: loops, veiled, ifaces, maps, wideKeys, modest, calm, conditions, laid).
  DERIVED. THE GIVEN ROWS OF THIS SEAT. 4 by the template 'for every input the law returns true; each argument reads behind the call as it read before'; 0 by the template 'total and deterministic' (their statements: YtfhbpghgcgmegaaTotals.lean).
  GIVEN WITH THE SEED: the statements are not yours to turn. If you find one false, say at which input.
  Laid BY PROGRAM, IN A SANDBOX (cutbox-rows.mjs): the forced cells as the released guide's own fill.sh prints them over the translation 33049514ef959859… (all of the seat's roots in one cut). By AI agents, Wed Nov 11 2026. No macro, syntax, notation, axiom, sorry.
-/
import Derived.Test.YtfhbpghgcgmegaaChecked
import GoSem.Claim
import GoSem.ClaimJoined
import GoSem.ClaimMapViews
import Derived.JoinedTies
import Derived.KernelRfl
namespace Go.Proofs.Ytfhbpghgcgmegaa
/- THE CELL 'sum', in the pinned program and in every row, IS THE sha256 OF THE DUMP (.gsa) THAT YtfhbpghgcgmegaaProg.lean LOADS. Nothing in Lean hashes anything: it is a label: what it is worth is what the hold of that sum in a sandbox is worth. -/
noncomputable def Try.pinned : Pinned := { name := "ytfhbpghgcgmegaa", sum := "33049514ef9598595df6e595dcafe24c505193b81e62e5fa1e159f29c3910ac1", checked := Try.checked }
namespace Rows
def none {H : Type} : Left H := { results := [], args := [] }

/-- 'augurlaw11.CallsOrder': WHATEVER THE INPUT: true; the input reads as it did. -/
def callsOrderSpec : ChangeSpec := { name := "callsOrder", fn := fun _ => fun
  | [d1, d2] => { results := [.lit (.bool true)], args := [d1, d2] }
  | _ => none }
def callsOrderRow : OpenClaim := { program := "ytfhbpghgcgmegaa", sum := "33049514ef9598595df6e595dcafe24c505193b81e62e5fa1e159f29c3910ac1", func := "augur/augurlaw11.CallsOrder", spec := "callsOrder", inPlace := ["internal/bytealg.abigen_runtime_cmpstring"], unfollowed := true, recurses := true, apart := false }
def CallsOrderSaid : Prop := callsOrderRow.holds Try.pinned (OpenSpec.ofChange callsOrderSpec)

/-- ITS FALSE NEIGHBOUR: 'it returns false'. Refute it at one input. -/
def callsOrderWrong : ChangeSpec := { name := "callsOrder", fn := fun _ => fun
  | [d1, d2] => { results := [.lit (.bool false)], args := [d1, d2] }
  | _ => none }
def CallsOrderWrongFalsely : Prop := callsOrderRow.holds Try.pinned (OpenSpec.ofChange callsOrderWrong)

/-- 'augurlaw11.CallsTurned': WHATEVER THE INPUT: true; the input reads as it did. -/
def callsTurnedSpec : ChangeSpec := { name := "callsTurned", fn := fun _ => fun
  | [d1, d2, d3] => { results := [.lit (.bool true)], args := [d1, d2, d3] }
  | _ => none }
def callsTurnedRow : OpenClaim := { program := "ytfhbpghgcgmegaa", sum := "33049514ef9598595df6e595dcafe24c505193b81e62e5fa1e159f29c3910ac1", func := "augur/augurlaw11.CallsTurned", spec := "callsTurned", inPlace := ["internal/bytealg.abigen_runtime_cmpstring"], unfollowed := true, recurses := true, apart := false }
def CallsTurnedSaid : Prop := callsTurnedRow.holds Try.pinned (OpenSpec.ofChange callsTurnedSpec)

/-- ITS FALSE NEIGHBOUR: 'it returns false'. Refute it at one input. -/
def callsTurnedWrong : ChangeSpec := { name := "callsTurned", fn := fun _ => fun
  | [d1, d2, d3] => { results := [.lit (.bool false)], args := [d1, d2, d3] }
  | _ => none }
def CallsTurnedWrongFalsely : Prop := callsTurnedRow.holds Try.pinned (OpenSpec.ofChange callsTurnedWrong)

/-- 'augurlaw11.CallsBack': WHATEVER THE INPUT: true; the input reads as it did. -/
def callsBackSpec : ChangeSpec := { name := "callsBack", fn := fun _ => fun
  | [d1, d2] => { results := [.lit (.bool true)], args := [d1, d2] }
  | _ => none }
def callsBackRow : OpenClaim := { program := "ytfhbpghgcgmegaa", sum := "33049514ef9598595df6e595dcafe24c505193b81e62e5fa1e159f29c3910ac1", func := "augur/augurlaw11.CallsBack", spec := "callsBack", inPlace := ["internal/bytealg.abigen_runtime_cmpstring"], unfollowed := true, recurses := true, apart := false }
def CallsBackSaid : Prop := callsBackRow.holds Try.pinned (OpenSpec.ofChange callsBackSpec)

/-- ITS FALSE NEIGHBOUR: 'it returns false'. Refute it at one input. -/
def callsBackWrong : ChangeSpec := { name := "callsBack", fn := fun _ => fun
  | [d1, d2] => { results := [.lit (.bool false)], args := [d1, d2] }
  | _ => none }
def CallsBackWrongFalsely : Prop := callsBackRow.holds Try.pinned (OpenSpec.ofChange callsBackWrong)

/-- 'augurlaw11.CallsAlone': WHATEVER THE INPUT: true; the input reads as it did. -/
def callsAloneSpec : ChangeSpec := { name := "callsAlone", fn := fun _ => fun
  | [d1, d2, d3] => { results := [.lit (.bool true)], args := [d1, d2, d3] }
  | _ => none }
def callsAloneRow : OpenClaim := { program := "ytfhbpghgcgmegaa", sum := "33049514ef9598595df6e595dcafe24c505193b81e62e5fa1e159f29c3910ac1", func := "augur/augurlaw11.CallsAlone", spec := "callsAlone", inPlace := ["internal/bytealg.abigen_runtime_cmpstring"], unfollowed := true, recurses := true, apart := false }
def CallsAloneSaid : Prop := callsAloneRow.holds Try.pinned (OpenSpec.ofChange callsAloneSpec)

/-- ITS FALSE NEIGHBOUR: 'it returns false'. Refute it at one input. -/
def callsAloneWrong : ChangeSpec := { name := "callsAlone", fn := fun _ => fun
  | [d1, d2, d3] => { results := [.lit (.bool false)], args := [d1, d2, d3] }
  | _ => none }
def CallsAloneWrongFalsely : Prop := callsAloneRow.holds Try.pinned (OpenSpec.ofChange callsAloneWrong)

/- THE SECOND FORM. 'bulk': how many values and letters a reading holds, each counted each time it is reached (what is shared counts as often as it is met; a slice's spare places count too). A statement '..UptoSaid' is the law's where the arguments, and the package variables that the reading takes, are together of bulk at most 1048576: NARROWER than '..Said'. Prove '..Said' where nothing that the law and all that it calls make is longer than what came in: it says more and counts as full. Else prove '..UptoSaid'. A law counts once. -/
mutual
def uptoBulk {H : Type} : DataW H → Nat
  | .lit (.string bytes) => bytes.length + 1
  | .lit _ => 1
  | .nil => 1
  | .ptr d => uptoBulk d + 1
  | .slice elems spare => uptoBulkAll elems + uptoBulkAll spare + 1
  | .agg parts => uptoBulkAll parts + 1
  | .iface _ d => uptoBulk d + 1
  | .map entries => uptoBulkEntries entries + 1
  | .held _ => 1
def uptoBulkAll {H : Type} : List (DataW H) → Nat
  | [] => 0
  | d :: r => uptoBulk d + uptoBulkAll r
def uptoBulkEntries {H : Type} : List (Lit × DataW H) → Nat
  | [] => 0
  | x :: r => uptoBulkEntry x + uptoBulkEntries r
def uptoBulkEntry {H : Type} : Lit × DataW H → Nat
  | (.string bytes, d) => bytes.length + uptoBulk d + 1
  | (_, d) => uptoBulk d + 1
 end
def uptoSmall : (H : Type) → List (DataW H) → Bool := fun _ ds => decide (uptoBulkAll ds ≤ 1048576)
def OpenSpec.upto (s : _root_.Go.ChangeSpec) : _root_.Go.OpenSpec := { _root_.Go.OpenSpec.ofChange s with cond := some uptoSmall }

/-- 'augurlaw11.CallsOrder', WHERE WHAT IT READS IS OF BULK AT MOST 1048576: true; the input reads as it did. -/
def callsOrderUptoRow : OpenClaim := { program := "ytfhbpghgcgmegaa", sum := "33049514ef9598595df6e595dcafe24c505193b81e62e5fa1e159f29c3910ac1", func := "augur/augurlaw11.CallsOrder", spec := "callsOrder", inPlace := ["internal/bytealg.abigen_runtime_cmpstring"], unfollowed := true, recurses := true, apart := false, narrowed := true }
def CallsOrderUptoSaid : Prop := callsOrderUptoRow.holds Try.pinned (OpenSpec.upto callsOrderSpec)

/-- 'augurlaw11.CallsTurned', WHERE WHAT IT READS IS OF BULK AT MOST 1048576: true; the input reads as it did. -/
def callsTurnedUptoRow : OpenClaim := { program := "ytfhbpghgcgmegaa", sum := "33049514ef9598595df6e595dcafe24c505193b81e62e5fa1e159f29c3910ac1", func := "augur/augurlaw11.CallsTurned", spec := "callsTurned", inPlace := ["internal/bytealg.abigen_runtime_cmpstring"], unfollowed := true, recurses := true, apart := false, narrowed := true }
def CallsTurnedUptoSaid : Prop := callsTurnedUptoRow.holds Try.pinned (OpenSpec.upto callsTurnedSpec)

/-- 'augurlaw11.CallsBack', WHERE WHAT IT READS IS OF BULK AT MOST 1048576: true; the input reads as it did. -/
def callsBackUptoRow : OpenClaim := { program := "ytfhbpghgcgmegaa", sum := "33049514ef9598595df6e595dcafe24c505193b81e62e5fa1e159f29c3910ac1", func := "augur/augurlaw11.CallsBack", spec := "callsBack", inPlace := ["internal/bytealg.abigen_runtime_cmpstring"], unfollowed := true, recurses := true, apart := false, narrowed := true }
def CallsBackUptoSaid : Prop := callsBackUptoRow.holds Try.pinned (OpenSpec.upto callsBackSpec)

/-- 'augurlaw11.CallsAlone', WHERE WHAT IT READS IS OF BULK AT MOST 1048576: true; the input reads as it did. -/
def callsAloneUptoRow : OpenClaim := { program := "ytfhbpghgcgmegaa", sum := "33049514ef9598595df6e595dcafe24c505193b81e62e5fa1e159f29c3910ac1", func := "augur/augurlaw11.CallsAlone", spec := "callsAlone", inPlace := ["internal/bytealg.abigen_runtime_cmpstring"], unfollowed := true, recurses := true, apart := false, narrowed := true }
def CallsAloneUptoSaid : Prop := callsAloneUptoRow.holds Try.pinned (OpenSpec.upto callsAloneSpec)

end Rows
end Go.Proofs.Ytfhbpghgcgmegaa
