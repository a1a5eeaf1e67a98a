/- What the laws' ends have in common. -/
import Derived.Test.YtfaieigeojiiiaaGreatMj
import Derived.WalkKit
import Derived.ChangeArms
import Derived.KernelRfl
set_option linter.unusedVariables false
namespace Go.Proofs.YtfaieigeojiiiaaGreat.Fw
open Go Go.Sh Go.Va Go.ChangeShapes Go.WideShapes Go.ChangeAt Go.RowKit
theorem own : ownKnob Tryz.prog.godebug = none := by kernel_rfl
theorem laidOut : laidOutB Tryz.prog = true := by kernel_rfl
theorem rowed : mapsRowed Tryz.prog = true := by kernel_rfl
theorem full : ∀ t e, t < Tryz.prog.types.size → Tryz.prog.underlying t = some (.slice e) → 0 < Tryz.prog.cellsOf e := slices_full_of Tryz.prog (by kernel_rfl)
theorem int_in {H : Type} {enc : TypeId × Value → H} {W : World} {base : Nat} {sp : Nat → Bool} {held : Bool} {t : TypeId} {k : IntKind} {v : Value} {d : DataW H} {ps : List MemPlace} (hd : DataW.Trod enc Tryz.prog W base sp held t v d ps)
    (ht : Tryz.prog.underlying t = some (.int k)) (hv : ∃ n, v = .int k n) : ∃ n, v = .int k n ∧ (Lit.int k n).wf = true := by
  obtain ⟨fuel, hf⟩ := hd
  obtain ⟨n, hc, _, hw⟩ := DataW.trod_int ht hf
  obtain ⟨m, rfl⟩ := hv
  simp only [Value.cells, List.cons.injEq, Value.int.injEq, and_true, true_and] at hc
  exact ⟨m, rfl, by rw [hc]; exact hw⟩
end Go.Proofs.YtfaieigeojiiiaaGreat.Fw
