/- Fix: its known example, reckoned once. -/
import Derived.Test.YtofcohgonchgfaaGreatKj1
import Derived.KernelRfl
set_option linter.unusedVariables false
set_option linter.unusedSectionVars false
set_option maxRecDepth 100000
namespace Go.Proofs.YtofcohgonchgfaaGreat
open Go Go.Sh Go.Va
variable [Vl]
theorem kf : runs tab 13 1000 1000 18 [] .nil = (FV.bool true = FV.bool true) := by kernel_rfl
theorem kf_run : Runs tab 13 1000 1000 18 [] := ⟨⟨.nil, by rw [kf]⟩⟩
noncomputable def tabf : Tr FFn := tab.put 18 .t
theorem tabf_ok : ∀ i f, tabf.get i = some f → KOk Tryz.prog i f := fun i f h => TabOk.get (TabOk.put (kok_t tab_ok kf_run Tryz.call18) tab_all) h
end Go.Proofs.YtofcohgonchgfaaGreat
