/- FixNever: it answers true. -/
import Derived.Test.YtofcohgonchgfaaGreatFna
import Derived.Test.YtofcohgonchgfaaGreatFnb
import Derived.KernelRfl
set_option linter.unusedVariables false
set_option linter.unusedSectionVars false
set_option maxRecDepth 100000
namespace Go.Proofs.YtofcohgonchgfaaGreat
open Go Go.Sh Go.Va
theorem fn_good (x n : Int) (hx : 0 ≤ x ∧ x ≤ 255) (hn : 0 ≤ n ∧ n ≤ 255) : Go.Va.Good Tryz.prog 6 [.int .u8 x, .int .u8 n] := by
  have hk : x % 6 = 0 ∨ x % 6 = 1 ∨ x % 6 = 2 ∨ x % 6 = 3 ∨ x % 6 = 4 ∨ x % 6 = 5 := by omega
  have hr : n = 0 ∨ (1 ≤ n ∧ n ≤ 9) ∨ (10 ≤ n ∧ n ≤ 99) ∨ (100 ≤ n ∧ n ≤ 255) := by omega
  letI V : Vl := ofL [n, x / 6]
  rcases hk with hk | hk | hk | hk | hk | hk
  · have e : (SE.add (.mul (.c 6) (.v 1)) (.c 0)).ev = x := (by show 6 * (x / 6) + 0 = x; omega)
    rcases hr with hr | hr | hr | hr
    · exact Go.Va.good_of tabf_ok fnr_0_0 Tryz.call6 (denL_of (den_by e (by omega) (by omega)) (denL_of (den_int (by omega)) rfl))
    · exact Go.Va.good_of tabf_ok fnr_0_1 Tryz.call6 (denL_of (den_by e (by omega) (by omega)) (denL_of (den_by rfl (by omega) (by omega)) rfl))
    · exact Go.Va.good_of tabf_ok fnr_0_10 Tryz.call6 (denL_of (den_by e (by omega) (by omega)) (denL_of (den_by rfl (by omega) (by omega)) rfl))
    · exact Go.Va.good_of tabf_ok fnr_0_100 Tryz.call6 (denL_of (den_by e (by omega) (by omega)) (denL_of (den_by rfl (by omega) (by omega)) rfl))
  · have e : (SE.add (.mul (.c 6) (.v 1)) (.c 1)).ev = x := (by show 6 * (x / 6) + 1 = x; omega)
    rcases hr with hr | hr | hr | hr
    · exact Go.Va.good_of tabf_ok fnr_1_0 Tryz.call6 (denL_of (den_by e (by omega) (by omega)) (denL_of (den_int (by omega)) rfl))
    · exact Go.Va.good_of tabf_ok fnr_1_1 Tryz.call6 (denL_of (den_by e (by omega) (by omega)) (denL_of (den_by rfl (by omega) (by omega)) rfl))
    · exact Go.Va.good_of tabf_ok fnr_1_10 Tryz.call6 (denL_of (den_by e (by omega) (by omega)) (denL_of (den_by rfl (by omega) (by omega)) rfl))
    · exact Go.Va.good_of tabf_ok fnr_1_100 Tryz.call6 (denL_of (den_by e (by omega) (by omega)) (denL_of (den_by rfl (by omega) (by omega)) rfl))
  · have e : (SE.add (.mul (.c 6) (.v 1)) (.c 2)).ev = x := (by show 6 * (x / 6) + 2 = x; omega)
    rcases hr with hr | hr | hr | hr
    · exact Go.Va.good_of tabf_ok fnr_2_0 Tryz.call6 (denL_of (den_by e (by omega) (by omega)) (denL_of (den_int (by omega)) rfl))
    · exact Go.Va.good_of tabf_ok fnr_2_1 Tryz.call6 (denL_of (den_by e (by omega) (by omega)) (denL_of (den_by rfl (by omega) (by omega)) rfl))
    · exact Go.Va.good_of tabf_ok fnr_2_10 Tryz.call6 (denL_of (den_by e (by omega) (by omega)) (denL_of (den_by rfl (by omega) (by omega)) rfl))
    · exact Go.Va.good_of tabf_ok fnr_2_100 Tryz.call6 (denL_of (den_by e (by omega) (by omega)) (denL_of (den_by rfl (by omega) (by omega)) rfl))
  · have e : (SE.add (.mul (.c 6) (.v 1)) (.c 3)).ev = x := (by show 6 * (x / 6) + 3 = x; omega)
    rcases hr with hr | hr | hr | hr
    · exact Go.Va.good_of tabf_ok fnr_3_0 Tryz.call6 (denL_of (den_by e (by omega) (by omega)) (denL_of (den_int (by omega)) rfl))
    · exact Go.Va.good_of tabf_ok fnr_3_1 Tryz.call6 (denL_of (den_by e (by omega) (by omega)) (denL_of (den_by rfl (by omega) (by omega)) rfl))
    · exact Go.Va.good_of tabf_ok fnr_3_10 Tryz.call6 (denL_of (den_by e (by omega) (by omega)) (denL_of (den_by rfl (by omega) (by omega)) rfl))
    · exact Go.Va.good_of tabf_ok fnr_3_100 Tryz.call6 (denL_of (den_by e (by omega) (by omega)) (denL_of (den_by rfl (by omega) (by omega)) rfl))
  · have e : (SE.add (.mul (.c 6) (.v 1)) (.c 4)).ev = x := (by show 6 * (x / 6) + 4 = x; omega)
    rcases hr with hr | hr | hr | hr
    · exact Go.Va.good_of tabf_ok fnr_4_0 Tryz.call6 (denL_of (den_by e (by omega) (by omega)) (denL_of (den_int (by omega)) rfl))
    · exact Go.Va.good_of tabf_ok fnr_4_1 Tryz.call6 (denL_of (den_by e (by omega) (by omega)) (denL_of (den_by rfl (by omega) (by omega)) rfl))
    · exact Go.Va.good_of tabf_ok fnr_4_10 Tryz.call6 (denL_of (den_by e (by omega) (by omega)) (denL_of (den_by rfl (by omega) (by omega)) rfl))
    · exact Go.Va.good_of tabf_ok fnr_4_100 Tryz.call6 (denL_of (den_by e (by omega) (by omega)) (denL_of (den_by rfl (by omega) (by omega)) rfl))
  · have e : (SE.add (.mul (.c 6) (.v 1)) (.c 5)).ev = x := (by show 6 * (x / 6) + 5 = x; omega)
    rcases hr with hr | hr | hr | hr
    · exact Go.Va.good_of tabf_ok fnr_5_0 Tryz.call6 (denL_of (den_by e (by omega) (by omega)) (denL_of (den_int (by omega)) rfl))
    · exact Go.Va.good_of tabf_ok fnr_5_1 Tryz.call6 (denL_of (den_by e (by omega) (by omega)) (denL_of (den_by rfl (by omega) (by omega)) rfl))
    · exact Go.Va.good_of tabf_ok fnr_5_10 Tryz.call6 (denL_of (den_by e (by omega) (by omega)) (denL_of (den_by rfl (by omega) (by omega)) rfl))
    · exact Go.Va.good_of tabf_ok fnr_5_100 Tryz.call6 (denL_of (den_by e (by omega) (by omega)) (denL_of (den_by rfl (by omega) (by omega)) rfl))
end Go.Proofs.YtofcohgonchgfaaGreat
