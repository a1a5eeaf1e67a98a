/- Lint's known example, reckoned once. -/
import Derived.Test.YtofcohgonchgfaaGreatKj1
import Derived.KernelRfl
set_option linter.unusedVariables false
set_option linter.unusedSectionVars false
set_option maxRecDepth 100000
namespace Go.Proofs.YtofcohgonchgfaaGreat
open Go Go.Sh Go.Va
variable [Vl]
theorem kn : runs tab 13 1000 1000 7 [] .nil = (FV.bool true = FV.bool true) := by kernel_rfl
theorem kn_run : Runs tab 13 1000 1000 7 [] := ⟨⟨.nil, by rw [kn]⟩⟩
noncomputable def tabt : Tr FFn := tab.put 7 .t
theorem tabt_all : TabOk Tryz.prog tabt := TabOk.put (kok_t tab_ok kn_run Tryz.call7) tab_all
end Go.Proofs.YtofcohgonchgfaaGreat
