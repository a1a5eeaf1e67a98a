/-
  No cell of these rows narrows 'for every input' (looked for: loops, veiled, ifaces, maps, wideKeys, modest, calm, conditions, laid).
  DERIVED. THE GIVEN ROWS OF THIS SEAT. 3 by the template 'for every input the law returns true; each argument reads behind the call as it read before'; 0 by the template 'total and deterministic' (their statements: YtaibfbakhiainaaGreatTotals.lean).
  GIVEN WITH THE SEED: the statements are not yours to turn. If you find one false, say at which input.
  Laid BY PROGRAM, IN A SANDBOX (cutbox-rows.mjs): the forced cells as the released guide's own fill.sh prints them over the translation 0f9df5e6a0388b65… (all of the seat's roots in one cut). By AI agents, Wed Nov 11 2026. No macro, syntax, notation, axiom, sorry.
-/
import Derived.Test.YtaibfbakhiainaaGreatChecked
import GoSem.Claim
import GoSem.ClaimJoined
import GoSem.ClaimMapViews
import Derived.JoinedTies
import Derived.KernelRfl
namespace Go.Proofs.YtaibfbakhiainaaGreat
/- THE CELL 'sum', in the pinned program and in every row, IS THE sha256 OF THE DUMP (.gsa) THAT YtaibfbakhiainaaGreatProg.lean LOADS. Nothing in Lean hashes anything: it is a label: what it is worth is what the hold of that sum in a sandbox is worth. -/
noncomputable def Tryz.pinned : Pinned := { name := "ytaibfbakhiainaagreat", sum := "0f9df5e6a0388b65e996c9de8b1ee09a5528fb087ff6797644762ffb7248c936", checked := Tryz.checked }
namespace Rows
def none {H : Type} : Left H := { results := [], args := [] }

/-- 'augurlaw19.DigestTells': WHATEVER THE INPUT: true; the input reads as it did. -/
def digestTellsSpec : ChangeSpec := { name := "digestTells", fn := fun _ => fun
  | [d1, d2] => { results := [.lit (.bool true)], args := [d1, d2] }
  | _ => none }
def digestTellsRow : OpenClaim := { program := "ytaibfbakhiainaagreat", sum := "0f9df5e6a0388b65e996c9de8b1ee09a5528fb087ff6797644762ffb7248c936", func := "augur/augurlaw19.DigestTells", spec := "digestTells", unfollowed := true, recurses := true, apart := false }
def DigestTellsSaid : Prop := digestTellsRow.holds Tryz.pinned (OpenSpec.ofChange digestTellsSpec)

/-- ITS FALSE NEIGHBOUR: 'it returns false'. Refute it at one input. -/
def digestTellsWrong : ChangeSpec := { name := "digestTells", fn := fun _ => fun
  | [d1, d2] => { results := [.lit (.bool false)], args := [d1, d2] }
  | _ => none }
def DigestTellsWrongFalsely : Prop := digestTellsRow.holds Tryz.pinned (OpenSpec.ofChange digestTellsWrong)

/-- 'augurlaw19.DigestLattice': WHATEVER THE INPUT: true; the input reads as it did. -/
def digestLatticeSpec : ChangeSpec := { name := "digestLattice", fn := fun _ => fun
  | [d1, d2, d3] => { results := [.lit (.bool true)], args := [d1, d2, d3] }
  | _ => none }
def digestLatticeRow : OpenClaim := { program := "ytaibfbakhiainaagreat", sum := "0f9df5e6a0388b65e996c9de8b1ee09a5528fb087ff6797644762ffb7248c936", func := "augur/augurlaw19.DigestLattice", spec := "digestLattice", unfollowed := true, recurses := true, apart := false }
def DigestLatticeSaid : Prop := digestLatticeRow.holds Tryz.pinned (OpenSpec.ofChange digestLatticeSpec)

/-- ITS FALSE NEIGHBOUR: 'it returns false'. Refute it at one input. -/
def digestLatticeWrong : ChangeSpec := { name := "digestLattice", fn := fun _ => fun
  | [d1, d2, d3] => { results := [.lit (.bool false)], args := [d1, d2, d3] }
  | _ => none }
def DigestLatticeWrongFalsely : Prop := digestLatticeRow.holds Tryz.pinned (OpenSpec.ofChange digestLatticeWrong)

/-- 'augurlaw19.DigestWidens': WHATEVER THE INPUT: true; the input reads as it did. -/
def digestWidensSpec : ChangeSpec := { name := "digestWidens", fn := fun _ => fun
  | [d] => { results := [.lit (.bool true)], args := [d] }
  | _ => none }
def digestWidensRow : OpenClaim := { program := "ytaibfbakhiainaagreat", sum := "0f9df5e6a0388b65e996c9de8b1ee09a5528fb087ff6797644762ffb7248c936", func := "augur/augurlaw19.DigestWidens", spec := "digestWidens", unfollowed := true, recurses := true, apart := false }
def DigestWidensSaid : Prop := digestWidensRow.holds Tryz.pinned (OpenSpec.ofChange digestWidensSpec)

/-- ITS FALSE NEIGHBOUR: 'it returns false'. Refute it at one input. -/
def digestWidensWrong : ChangeSpec := { name := "digestWidens", fn := fun _ => fun
  | [d] => { results := [.lit (.bool false)], args := [d] }
  | _ => none }
def DigestWidensWrongFalsely : Prop := digestWidensRow.holds Tryz.pinned (OpenSpec.ofChange digestWidensWrong)

/- THE SECOND FORM. 'bulk': how many values and letters a reading holds, each counted each time it is reached (what is shared counts as often as it is met; a slice's spare places count too). A statement '..UptoSaid' is the law's where the arguments, and the package variables that the reading takes, are together of bulk at most 1048576: NARROWER than '..Said'. Prove '..Said' where nothing that the law and all that it calls make is longer than what came in: it says more and counts as full. Else prove '..UptoSaid'. A law counts once. -/
mutual
def uptoBulk {H : Type} : DataW H → Nat
  | .lit (.string bytes) => bytes.length + 1
  | .lit _ => 1
  | .nil => 1
  | .ptr d => uptoBulk d + 1
  | .slice elems spare => uptoBulkAll elems + uptoBulkAll spare + 1
  | .agg parts => uptoBulkAll parts + 1
  | .iface _ d => uptoBulk d + 1
  | .map entries => uptoBulkEntries entries + 1
  | .held _ => 1
def uptoBulkAll {H : Type} : List (DataW H) → Nat
  | [] => 0
  | d :: r => uptoBulk d + uptoBulkAll r
def uptoBulkEntries {H : Type} : List (Lit × DataW H) → Nat
  | [] => 0
  | x :: r => uptoBulkEntry x + uptoBulkEntries r
def uptoBulkEntry {H : Type} : Lit × DataW H → Nat
  | (.string bytes, d) => bytes.length + uptoBulk d + 1
  | (_, d) => uptoBulk d + 1
 end
def uptoSmall : (H : Type) → List (DataW H) → Bool := fun _ ds => decide (uptoBulkAll ds ≤ 1048576)
def OpenSpec.upto (s : _root_.Go.ChangeSpec) : _root_.Go.OpenSpec := { _root_.Go.OpenSpec.ofChange s with cond := some uptoSmall }

/-- 'augurlaw19.DigestTells', WHERE WHAT IT READS IS OF BULK AT MOST 1048576: true; the input reads as it did. -/
def digestTellsUptoRow : OpenClaim := { program := "ytaibfbakhiainaagreat", sum := "0f9df5e6a0388b65e996c9de8b1ee09a5528fb087ff6797644762ffb7248c936", func := "augur/augurlaw19.DigestTells", spec := "digestTells", unfollowed := true, recurses := true, apart := false, narrowed := true }
def DigestTellsUptoSaid : Prop := digestTellsUptoRow.holds Tryz.pinned (OpenSpec.upto digestTellsSpec)

/-- 'augurlaw19.DigestLattice', WHERE WHAT IT READS IS OF BULK AT MOST 1048576: true; the input reads as it did. -/
def digestLatticeUptoRow : OpenClaim := { program := "ytaibfbakhiainaagreat", sum := "0f9df5e6a0388b65e996c9de8b1ee09a5528fb087ff6797644762ffb7248c936", func := "augur/augurlaw19.DigestLattice", spec := "digestLattice", unfollowed := true, recurses := true, apart := false, narrowed := true }
def DigestLatticeUptoSaid : Prop := digestLatticeUptoRow.holds Tryz.pinned (OpenSpec.upto digestLatticeSpec)

/-- 'augurlaw19.DigestWidens', WHERE WHAT IT READS IS OF BULK AT MOST 1048576: true; the input reads as it did. -/
def digestWidensUptoRow : OpenClaim := { program := "ytaibfbakhiainaagreat", sum := "0f9df5e6a0388b65e996c9de8b1ee09a5528fb087ff6797644762ffb7248c936", func := "augur/augurlaw19.DigestWidens", spec := "digestWidens", unfollowed := true, recurses := true, apart := false, narrowed := true }
def DigestWidensUptoSaid : Prop := digestWidensUptoRow.holds Tryz.pinned (OpenSpec.upto digestWidensSpec)

end Rows
end Go.Proofs.YtaibfbakhiainaaGreat
