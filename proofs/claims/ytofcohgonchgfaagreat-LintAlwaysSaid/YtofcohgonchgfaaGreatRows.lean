/-
  No cell of these rows narrows 'for every input' (looked for: loops, veiled, ifaces, maps, wideKeys, modest, calm, conditions, laid).
  DERIVED. THE GIVEN ROWS OF THIS SEAT. 4 by the template 'for every input the law returns true; each argument reads behind the call as it read before'; 0 by the template 'total and deterministic' (their statements: YtofcohgonchgfaaGreatTotals.lean).
  GIVEN WITH THE SEED: the statements are not yours to turn. If you find one false, say at which input.
  Laid BY PROGRAM, IN A SANDBOX (cutbox-rows.mjs): the forced cells as the released guide's own fill.sh prints them over the translation a8e147f28a0f43db… (all of the seat's roots in one cut). By AI agents, Wed Nov 11 2026. No macro, syntax, notation, axiom, sorry.
-/
import Derived.Test.YtofcohgonchgfaaGreatChecked
import GoSem.Claim
import GoSem.ClaimJoined
import GoSem.ClaimMapViews
import Derived.JoinedTies
import Derived.KernelRfl
namespace Go.Proofs.YtofcohgonchgfaaGreat
/- THE CELL 'sum', in the pinned program and in every row, IS THE sha256 OF THE DUMP (.gsa) THAT YtofcohgonchgfaaGreatProg.lean LOADS. Nothing in Lean hashes anything: it is a label: what it is worth is what the hold of that sum in a sandbox is worth. -/
noncomputable def Tryz.pinned : Pinned := { name := "ytofcohgonchgfaagreat", sum := "a8e147f28a0f43db09f79c461355b3b9acf5386651859c3c3dfe3186fcc32a1e", checked := Tryz.checked }
namespace Rows
def none {H : Type} : Left H := { results := [], args := [] }

/-- 'augurlaw27.LintUnused': WHATEVER THE INPUT: true; the input reads as it did. -/
def lintUnusedSpec : ChangeSpec := { name := "lintUnused", fn := fun _ => fun
  | [d1, d2] => { results := [.lit (.bool true)], args := [d1, d2] }
  | _ => none }
def lintUnusedRow : OpenClaim := { program := "ytofcohgonchgfaagreat", sum := "a8e147f28a0f43db09f79c461355b3b9acf5386651859c3c3dfe3186fcc32a1e", func := "augur/augurlaw27.LintUnused", spec := "lintUnused", inPlace := ["internal/bytealg.abigen_runtime_cmpstring", "slices.overlaps[augur/api.Named]", "slices.overlaps[augur/api.Point]"], unfollowed := true, recurses := true, apart := false }
def LintUnusedSaid : Prop := lintUnusedRow.holds Tryz.pinned (OpenSpec.ofChange lintUnusedSpec)

/-- ITS FALSE NEIGHBOUR: 'it returns false'. Refute it at one input. -/
def lintUnusedWrong : ChangeSpec := { name := "lintUnused", fn := fun _ => fun
  | [d1, d2] => { results := [.lit (.bool false)], args := [d1, d2] }
  | _ => none }
def LintUnusedWrongFalsely : Prop := lintUnusedRow.holds Tryz.pinned (OpenSpec.ofChange lintUnusedWrong)

/-- 'augurlaw27.LintAlways': WHATEVER THE INPUT: true; the input reads as it did. -/
def lintAlwaysSpec : ChangeSpec := { name := "lintAlways", fn := fun _ => fun
  | [d1, d2, d3, d4] => { results := [.lit (.bool true)], args := [d1, d2, d3, d4] }
  | _ => none }
def lintAlwaysRow : OpenClaim := { program := "ytofcohgonchgfaagreat", sum := "a8e147f28a0f43db09f79c461355b3b9acf5386651859c3c3dfe3186fcc32a1e", func := "augur/augurlaw27.LintAlways", spec := "lintAlways", inPlace := ["internal/bytealg.abigen_runtime_cmpstring", "slices.overlaps[augur/api.Named]", "slices.overlaps[augur/api.Point]"], unfollowed := true, recurses := true, apart := false }
def LintAlwaysSaid : Prop := lintAlwaysRow.holds Tryz.pinned (OpenSpec.ofChange lintAlwaysSpec)

/-- ITS FALSE NEIGHBOUR: 'it returns false'. Refute it at one input. -/
def lintAlwaysWrong : ChangeSpec := { name := "lintAlways", fn := fun _ => fun
  | [d1, d2, d3, d4] => { results := [.lit (.bool false)], args := [d1, d2, d3, d4] }
  | _ => none }
def LintAlwaysWrongFalsely : Prop := lintAlwaysRow.holds Tryz.pinned (OpenSpec.ofChange lintAlwaysWrong)

/-- 'augurlaw27.LintDead': WHATEVER THE INPUT: true; the input reads as it did. -/
def lintDeadSpec : ChangeSpec := { name := "lintDead", fn := fun _ => fun
  | [d1, d2, d3] => { results := [.lit (.bool true)], args := [d1, d2, d3] }
  | _ => none }
def lintDeadRow : OpenClaim := { program := "ytofcohgonchgfaagreat", sum := "a8e147f28a0f43db09f79c461355b3b9acf5386651859c3c3dfe3186fcc32a1e", func := "augur/augurlaw27.LintDead", spec := "lintDead", inPlace := ["internal/bytealg.abigen_runtime_cmpstring", "slices.overlaps[augur/api.Named]", "slices.overlaps[augur/api.Point]"], unfollowed := true, recurses := true, apart := false }
def LintDeadSaid : Prop := lintDeadRow.holds Tryz.pinned (OpenSpec.ofChange lintDeadSpec)

/-- ITS FALSE NEIGHBOUR: 'it returns false'. Refute it at one input. -/
def lintDeadWrong : ChangeSpec := { name := "lintDead", fn := fun _ => fun
  | [d1, d2, d3] => { results := [.lit (.bool false)], args := [d1, d2, d3] }
  | _ => none }
def LintDeadWrongFalsely : Prop := lintDeadRow.holds Tryz.pinned (OpenSpec.ofChange lintDeadWrong)

/-- 'augurlaw18.FixNever': WHATEVER THE INPUT: true; the input reads as it did. -/
def fixNeverSpec : ChangeSpec := { name := "fixNever", fn := fun _ => fun
  | [d1, d2] => { results := [.lit (.bool true)], args := [d1, d2] }
  | _ => none }
def fixNeverRow : OpenClaim := { program := "ytofcohgonchgfaagreat", sum := "a8e147f28a0f43db09f79c461355b3b9acf5386651859c3c3dfe3186fcc32a1e", func := "augur/augurlaw18.FixNever", spec := "fixNever", inPlace := ["internal/bytealg.abigen_runtime_cmpstring", "slices.overlaps[augur/api.Named]", "slices.overlaps[augur/api.Point]"], unfollowed := true, recurses := true, apart := false }
def FixNeverSaid : Prop := fixNeverRow.holds Tryz.pinned (OpenSpec.ofChange fixNeverSpec)

/-- ITS FALSE NEIGHBOUR: 'it returns false'. Refute it at one input. -/
def fixNeverWrong : ChangeSpec := { name := "fixNever", fn := fun _ => fun
  | [d1, d2] => { results := [.lit (.bool false)], args := [d1, d2] }
  | _ => none }
def FixNeverWrongFalsely : Prop := fixNeverRow.holds Tryz.pinned (OpenSpec.ofChange fixNeverWrong)

/- THE SECOND FORM. 'bulk': how many values and letters a reading holds, each counted each time it is reached (what is shared counts as often as it is met; a slice's spare places count too). A statement '..UptoSaid' is the law's where the arguments, and the package variables that the reading takes, are together of bulk at most 1048576: NARROWER than '..Said'. Prove '..Said' where nothing that the law and all that it calls make is longer than what came in: it says more and counts as full. Else prove '..UptoSaid'. A law counts once. -/
mutual
def uptoBulk {H : Type} : DataW H → Nat
  | .lit (.string bytes) => bytes.length + 1
  | .lit _ => 1
  | .nil => 1
  | .ptr d => uptoBulk d + 1
  | .slice elems spare => uptoBulkAll elems + uptoBulkAll spare + 1
  | .agg parts => uptoBulkAll parts + 1
  | .iface _ d => uptoBulk d + 1
  | .map entries => uptoBulkEntries entries + 1
  | .held _ => 1
def uptoBulkAll {H : Type} : List (DataW H) → Nat
  | [] => 0
  | d :: r => uptoBulk d + uptoBulkAll r
def uptoBulkEntries {H : Type} : List (Lit × DataW H) → Nat
  | [] => 0
  | x :: r => uptoBulkEntry x + uptoBulkEntries r
def uptoBulkEntry {H : Type} : Lit × DataW H → Nat
  | (.string bytes, d) => bytes.length + uptoBulk d + 1
  | (_, d) => uptoBulk d + 1
 end
def uptoSmall : (H : Type) → List (DataW H) → Bool := fun _ ds => decide (uptoBulkAll ds ≤ 1048576)
def OpenSpec.upto (s : _root_.Go.ChangeSpec) : _root_.Go.OpenSpec := { _root_.Go.OpenSpec.ofChange s with cond := some uptoSmall }

/-- 'augurlaw27.LintUnused', WHERE WHAT IT READS IS OF BULK AT MOST 1048576: true; the input reads as it did. -/
def lintUnusedUptoRow : OpenClaim := { program := "ytofcohgonchgfaagreat", sum := "a8e147f28a0f43db09f79c461355b3b9acf5386651859c3c3dfe3186fcc32a1e", func := "augur/augurlaw27.LintUnused", spec := "lintUnused", inPlace := ["internal/bytealg.abigen_runtime_cmpstring", "slices.overlaps[augur/api.Named]", "slices.overlaps[augur/api.Point]"], unfollowed := true, recurses := true, apart := false, narrowed := true }
def LintUnusedUptoSaid : Prop := lintUnusedUptoRow.holds Tryz.pinned (OpenSpec.upto lintUnusedSpec)

/-- 'augurlaw27.LintAlways', WHERE WHAT IT READS IS OF BULK AT MOST 1048576: true; the input reads as it did. -/
def lintAlwaysUptoRow : OpenClaim := { program := "ytofcohgonchgfaagreat", sum := "a8e147f28a0f43db09f79c461355b3b9acf5386651859c3c3dfe3186fcc32a1e", func := "augur/augurlaw27.LintAlways", spec := "lintAlways", inPlace := ["internal/bytealg.abigen_runtime_cmpstring", "slices.overlaps[augur/api.Named]", "slices.overlaps[augur/api.Point]"], unfollowed := true, recurses := true, apart := false, narrowed := true }
def LintAlwaysUptoSaid : Prop := lintAlwaysUptoRow.holds Tryz.pinned (OpenSpec.upto lintAlwaysSpec)

/-- 'augurlaw27.LintDead', WHERE WHAT IT READS IS OF BULK AT MOST 1048576: true; the input reads as it did. -/
def lintDeadUptoRow : OpenClaim := { program := "ytofcohgonchgfaagreat", sum := "a8e147f28a0f43db09f79c461355b3b9acf5386651859c3c3dfe3186fcc32a1e", func := "augur/augurlaw27.LintDead", spec := "lintDead", inPlace := ["internal/bytealg.abigen_runtime_cmpstring", "slices.overlaps[augur/api.Named]", "slices.overlaps[augur/api.Point]"], unfollowed := true, recurses := true, apart := false, narrowed := true }
def LintDeadUptoSaid : Prop := lintDeadUptoRow.holds Tryz.pinned (OpenSpec.upto lintDeadSpec)

/-- 'augurlaw18.FixNever', WHERE WHAT IT READS IS OF BULK AT MOST 1048576: true; the input reads as it did. -/
def fixNeverUptoRow : OpenClaim := { program := "ytofcohgonchgfaagreat", sum := "a8e147f28a0f43db09f79c461355b3b9acf5386651859c3c3dfe3186fcc32a1e", func := "augur/augurlaw18.FixNever", spec := "fixNever", inPlace := ["internal/bytealg.abigen_runtime_cmpstring", "slices.overlaps[augur/api.Named]", "slices.overlaps[augur/api.Point]"], unfollowed := true, recurses := true, apart := false, narrowed := true }
def FixNeverUptoSaid : Prop := fixNeverUptoRow.holds Tryz.pinned (OpenSpec.upto fixNeverSpec)

end Rows
end Go.Proofs.YtofcohgonchgfaaGreat
