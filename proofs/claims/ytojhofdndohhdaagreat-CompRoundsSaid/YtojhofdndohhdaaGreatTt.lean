/- The chapter's example, reckoned once; the table with it told. -/
import Derived.Test.YtojhofdndohhdaaGreatKj1
import Derived.Test.YtojhofdndohhdaaGreatLw
import Derived.KernelRfl
set_option linter.unusedVariables false
set_option linter.unusedSectionVars false
set_option maxRecDepth 100000
namespace Go.Proofs.YtojhofdndohhdaaGreat
open Go Go.Sh Go.Va
variable [Vl]
theorem kn : runs tab 14 1000 1000 5 [] .nil = (FV.bool true = FV.bool true) := by kernel_rfl
theorem kn_run : Runs tab 14 1000 1000 5 [] := ⟨⟨.nil, by rw [kn]⟩⟩
noncomputable def tabt : Tr FFn := tab.put 5 .t
theorem tabt_all : TabOk Tryz.prog tabt := TabOk.put (kok_t tab_ok kn_run Tryz.call5) tab_all
end Go.Proofs.YtojhofdndohhdaaGreat
