/- What the row asks of the program, part by part. -/
import Derived.Test.YtojhofdndohhdaaGreatRows
import Derived.JoinedOf
import Derived.KernelRfl
set_option linter.unusedVariables false
set_option maxRecDepth 100000
namespace Go.Proofs.YtojhofdndohhdaaGreat.compRounds
open Go
theorem and_t {a b : Bool} (h : a = true) (k : b = true) : (a && b) = true := by rw [h, k]; rfl
theorem kk0 : (Rows.compRoundsRow.wf (OpenSpec.ofChange Rows.compRoundsSpec)) = true := by kernel_rfl
theorem kk1 : (laidOutB Tryz.pinned.checked.prog) = true := by kernel_rfl
theorem kk2 : (mapsRowed Tryz.pinned.checked.prog) = true := by kernel_rfl
theorem kk3 : (Tryz.f3.params.all (Tryz.pinned.checked.prog.readableRec ·)) = true := by kernel_rfl
theorem kk4 : (namedTie Tryz.pinned.checked.prog Rows.compRoundsRow.named Rows.compRoundsSpec.vars) = true := by kernel_rfl
theorem kk5 : ((Rows.compRoundsRow.stops == [])) = true := by kernel_rfl
theorem kk6 : ((Tryz.pinned.checked.prog.stops == [])) = true := by kernel_rfl
theorem kk7 : ((Rows.compRoundsRow.knobs == [])) = true := by kernel_rfl
theorem kk8 : ((Tryz.pinned.checked.prog.stopKnobs == [])) = true := by kernel_rfl
theorem kk9 : ((Rows.compRoundsRow.inPlace == Tryz.pinned.checked.prog.inPlace 3)) = true := by kernel_rfl
theorem kk10 : ((Rows.compRoundsRow.unfollowed == Tryz.pinned.checked.prog.unfollowed 3)) = true := by kernel_rfl
theorem kk11 : ((Rows.compRoundsRow.recurses == Tryz.pinned.checked.prog.recurses 3)) = true := by kernel_rfl
theorem kk12 : ((Rows.compRoundsRow.named == Tryz.pinned.checked.prog.varsNamed 3)) = true := by kernel_rfl
theorem kk13 : ((Rows.compRoundsRow.maps == (Tryz.f3.params.toList ++ Rows.compRoundsSpec.plain.varTypes Tryz.pinned.checked.prog).any (Tryz.pinned.checked.prog.mapsRec ·))) = true := by kernel_rfl
theorem kk14 : ((Rows.compRoundsRow.ifaces == (Tryz.f3.params.toList ++ Rows.compRoundsSpec.plain.varTypes Tryz.pinned.checked.prog).any (Tryz.pinned.checked.prog.ifacesRec ·))) = true := by kernel_rfl
theorem kk15 : ((Rows.compRoundsRow.mapsOut == Tryz.pinned.checked.prog.mapsAmong Tryz.f3.resultTypes.toList)) = true := by kernel_rfl
theorem kk16 : ((Rows.compRoundsRow.loops == (Tryz.f3.params.toList ++ Rows.compRoundsSpec.plain.varTypes Tryz.pinned.checked.prog).any (Tryz.pinned.checked.prog.loopsFrom ·))) = true := by kernel_rfl
theorem kk17 : ((Rows.compRoundsRow.wideKeys == (Tryz.f3.params.toList ++ Rows.compRoundsSpec.plain.varTypes Tryz.pinned.checked.prog ++ Tryz.f3.resultTypes.toList).any (Tryz.pinned.checked.prog.wideKeysFrom ·))) = true := by kernel_rfl
theorem kk18 : (Rows.compRoundsSpec.vars.all (Tryz.pinned.checked.prog.varReadable ·)) = true := by kernel_rfl
theorem kk19 : (Tryz.f3.resultTypes.all (fun t => Tryz.pinned.checked.prog.readableRec t && decide (t < Tryz.pinned.checked.prog.types.size))) = true := by kernel_rfl
theorem kk20 : ((Rows.compRoundsRow.ifacesOut == Tryz.f3.resultTypes.toList.any (Tryz.pinned.checked.prog.ifacesRec ·))) = true := by kernel_rfl
theorem kk21 : ((Rows.compRoundsRow.loopsOut == Tryz.f3.resultTypes.toList.any (Tryz.pinned.checked.prog.loopsFrom ·))) = true := by kernel_rfl
theorem kk22 : ((Rows.compRoundsRow.plainKeys == Tryz.pinned.checked.prog.plainKeys)) = true := by kernel_rfl
theorem kk23 : (Rows.compRoundsRow.shortTexts.isNone) = true := by kernel_rfl
theorem kk24 : (Tryz.pinned.checked.prog.stopsHeard) = true := by kernel_rfl
theorem kk25 : (Tryz.pinned.checked.prog.mayEnter) = true := by kernel_rfl
theorem kk26 : ((Rows.compRoundsRow.lifted == Tryz.pinned.checked.prog.liftsFinal)) = true := by kernel_rfl
theorem kk27 : ((Tryz.pinned.checked.prog.make == some Rows.compRoundsRow.make)) = true := by kernel_rfl
theorem kk28 : ((Rows.compRoundsRow.kinds == (if Rows.compRoundsRow.domain.isEmpty then [] else Tryz.f3.params.toList.map fun t => match Tryz.pinned.checked.prog.underlying t with | some (.int k) => some k | _ => none))) = true := by kernel_rfl
theorem kk29 : ((Rows.compRoundsRow.pinned == Rows.compRoundsRow.pinnedBy)) = true := by kernel_rfl
theorem kk30 : ((Rows.compRoundsRow.veiled == (Tryz.f3.params.toList ++ Rows.compRoundsSpec.plain.varTypes Tryz.pinned.checked.prog ++ Tryz.f3.resultTypes.toList).any (Tryz.pinned.checked.prog.veiledRec ·))) = true := by kernel_rfl
theorem kk31 : (Rows.compRoundsRow.veiledFits Tryz.pinned.checked.prog Tryz.f3.params.toList (Tryz.f3.params.toList ++ Rows.compRoundsSpec.plain.varTypes Tryz.pinned.checked.prog ++ Tryz.f3.resultTypes.toList)) = true := by kernel_rfl
theorem k2 : joinedFacts Tryz.pinned.checked.prog 3 Tryz.f3 Rows.compRoundsSpec Rows.compRoundsRow = true := by
  unfold joinedFacts
  exact (and_t (and_t (and_t (and_t (and_t (and_t (and_t (and_t (and_t (and_t (and_t (and_t (and_t (and_t (and_t (and_t (and_t (and_t (and_t (and_t (and_t (and_t (and_t (and_t (and_t (and_t (and_t (and_t (and_t (and_t (and_t kk0 kk1) kk2) kk3) kk4) kk5) kk6) kk7) kk8) kk9) kk10) kk11) kk12) kk13) kk14) kk15) kk16) kk17) kk18) kk19) kk20) kk21) kk22) kk23) kk24) kk25) kk26) kk27) kk28) kk29) kk30) kk31)
end Go.Proofs.YtojhofdndohhdaaGreat.compRounds
