/- FixLoops: its runs, reckoned. -/
import Derived.Test.YtaaedipojhnjjaaGreatFa
import Derived.Test.YtaaedipojhnjjaaGreatVsl
import Derived.KernelRfl
set_option linter.unusedVariables false
set_option linter.unusedSectionVars false
set_option maxRecDepth 100000
namespace Go.Proofs.YtaaedipojhnjjaaGreat
open Go Go.Sh Go.Va
def flX_ppA : List (FV × FV × List SC) := [(.sy .i16 (.v 0) 0 9, .sy .i16 (.v 1) 0 9, [.eq (.add (.c 48) (.v 0)) (.c 48), .eq (.add (.c 48) (.v 1)) (.c 48)]), (.sy .i16 (.v 0) 10 99, .sy .i16 (.v 1) 10 99, []), (.sy .i16 (.v 0) 100 999, .sy .i16 (.v 1) 100 999, []), (.sy .i16 (.v 0) 1000 9999, .sy .i16 (.v 1) 1000 9999, []), (.sy .i16 (.v 0) 10000 32767, .sy .i16 (.v 1) 10000 32767, [])]
theorem lr_ppAl_0 (B : Vb) (h : @okF B flG_A) : letI : Vl := @Vl.mk B flG_A h; allR (flS_ppA.inp flR) (flV_pp.inp flRL) false ((flX_ppA).take 5) = allT ((flX_ppA).take 5) := by kernel_rfl
theorem lr_ppBl_0 (B : Vb) (h : @okF B flG_l) : letI : Vl := @Vl.mk B flG_l h; allR (flS_ppB.inp flR) (flV_pp.inp flRL) false ((flA_pp).take 5) = allT ((flA_pp).take 5) := by kernel_rfl
theorem lr_ppBg_1 (B : Vb) (h : @okF B flG_g) : letI : Vl := @Vl.mk B flG_g h; allR (flS_ppB.inp flR) (flV_pp.inp flRL) true (((flA_pp).drop 5).take 5) = allT (((flA_pp).drop 5).take 5) := by kernel_rfl
theorem lr_ppCl_2 (B : Vb) (h : @okF B flG_l) : letI : Vl := @Vl.mk B flG_l h; allR (flS_ppC.inp flR) (flV_pp.inp flRL) false ((((flA_pp).drop 5).drop 5).take 5) = allT ((((flA_pp).drop 5).drop 5).take 5) := by kernel_rfl
theorem lr_ppDl_0 (B : Vb) (h : @okF B flG_l) : letI : Vl := @Vl.mk B flG_l h; allR (flS_ppD.inp flR) (flV_pp.inp flRL) false ((flA_pp).take 5) = allT ((flA_pp).take 5) := by kernel_rfl
theorem lr_ppDg_1 (B : Vb) (h : @okF B flG_g) : letI : Vl := @Vl.mk B flG_g h; allR (flS_ppD.inp flR) (flV_pp.inp flRL) true (((flA_pp).drop 5).take 5) = allT (((flA_pp).drop 5).take 5) := by kernel_rfl
theorem lr_ppEl_2 (B : Vb) (h : @okF B flG_l) : letI : Vl := @Vl.mk B flG_l h; allR (flS_ppE.inp flR) (flV_pp.inp flRL) false ((((flA_pp).drop 5).drop 5).take 5) = allT ((((flA_pp).drop 5).drop 5).take 5) := by kernel_rfl
def flX_npB : List (FV × FV × List SC) := [(.sy .i16 (.v 0) (-9) (-1), .sy .i16 (.v 1) 0 9, [.eq (.add (.c 48) (.v 1)) (.c 48)])]
theorem lr_npBl_0 (B : Vb) (h : @okF B flG_l) : letI : Vl := @Vl.mk B flG_l h; allR (flS_npB.inp flR) (flV_np.inp flRL) false ((flX_npB).take 5) = allT ((flX_npB).take 5) := by kernel_rfl
theorem lr_npBg_0 (B : Vb) (h : @okF B flG_g) : letI : Vl := @Vl.mk B flG_g h; allR (flS_npB.inp flR) (flV_np.inp flRL) true ((flX_npB).take 5) = allT ((flX_npB).take 5) := by kernel_rfl
def flX_npC : List (FV × FV × List SC) := [(.sy .i16 (.v 0) (-9) (-1), .sy .i16 (.v 1) 0 9, [.eq (.add (.c 48) (.v 1)) (.c 48)])]
theorem lr_npCl_0 (B : Vb) (h : @okF B flG_l) : letI : Vl := @Vl.mk B flG_l h; allR (flS_npC.inp flR) (flV_np.inp flRL) false ((flX_npC).take 5) = allT ((flX_npC).take 5) := by kernel_rfl
theorem lr_npCg_0 (B : Vb) (h : @okF B flG_g) : letI : Vl := @Vl.mk B flG_g h; allR (flS_npC.inp flR) (flV_np.inp flRL) true ((flX_npC).take 5) = allT ((flX_npC).take 5) := by kernel_rfl
def flX_npD : List (FV × FV × List SC) := [(.sy .i16 (.v 0) (-9) (-1), .sy .i16 (.v 1) 0 9, [.eq (.add (.c 48) (.v 1)) (.c 48)]), (.sy .i16 (.v 0) (-99) (-10), .sy .i16 (.v 1) 0 9, [.eq (.add (.c 48) (.v 1)) (.c 48)])]
theorem lr_npDl_0 (B : Vb) (h : @okF B flG_l) : letI : Vl := @Vl.mk B flG_l h; allR (flS_npD.inp flR) (flV_np.inp flRL) false ((flX_npD).take 5) = allT ((flX_npD).take 5) := by kernel_rfl
theorem lr_npDg_0 (B : Vb) (h : @okF B flG_g) : letI : Vl := @Vl.mk B flG_g h; allR (flS_npD.inp flR) (flV_np.inp flRL) true ((flX_npD).take 5) = allT ((flX_npD).take 5) := by kernel_rfl
theorem lr_npEl_0 (B : Vb) (h : @okF B flG_l) : letI : Vl := @Vl.mk B flG_l h; allR (flS_npE.inp flR) (flV_np.inp flRL) false ((flA_np).take 5) = allT ((flA_np).take 5) := by kernel_rfl
theorem lr_npEl_4 (B : Vb) (h : @okF B flG_l) : letI : Vl := @Vl.mk B flG_l h; allR (flS_npE.inp flR) (flV_np.inp flRL) false ((((((flA_np).drop 5).drop 5).drop 5).drop 5).take 5) = allT ((((((flA_np).drop 5).drop 5).drop 5).drop 5).take 5) := by kernel_rfl
theorem lr_npEg_3 (B : Vb) (h : @okF B flG_g) : letI : Vl := @Vl.mk B flG_g h; allR (flS_npE.inp flR) (flV_np.inp flRL) true (((((flA_np).drop 5).drop 5).drop 5).take 5) = allT (((((flA_np).drop 5).drop 5).drop 5).take 5) := by kernel_rfl
def flX_nnA : List (FV × FV × List SC) := [(.sy .i16 (.v 0) (-9) (-1), .sy .i16 (.v 1) (-9) (-1), []), (.sy .i16 (.v 0) (-99) (-10), .sy .i16 (.v 1) (-99) (-10), []), (.sy .i16 (.v 0) (-999) (-100), .sy .i16 (.v 1) (-999) (-100), []), (.sy .i16 (.v 0) (-9999) (-1000), .sy .i16 (.v 1) (-9999) (-1000), []), (.sy .i16 (.v 0) (-32768) (-10000), .sy .i16 (.v 1) (-32768) (-10000), [])]
theorem lr_nnAl_0 (B : Vb) (h : @okF B flG_A) : letI : Vl := @Vl.mk B flG_A h; allR (flS_nnA.inp flR) (flV_nn.inp flRL) false ((flX_nnA).take 5) = allT ((flX_nnA).take 5) := by kernel_rfl
theorem lr_nnBl_2 (B : Vb) (h : @okF B flG_l) : letI : Vl := @Vl.mk B flG_l h; allR (flS_nnB.inp flR) (flV_nn.inp flRL) false ((((flA_nn).drop 5).drop 5).take 5) = allT ((((flA_nn).drop 5).drop 5).take 5) := by kernel_rfl
theorem lr_nnCl_0 (B : Vb) (h : @okF B flG_l) : letI : Vl := @Vl.mk B flG_l h; allR (flS_nnC.inp flR) (flV_nn.inp flRL) false ((flA_nn).take 5) = allT ((flA_nn).take 5) := by kernel_rfl
theorem lr_nnCg_1 (B : Vb) (h : @okF B flG_g) : letI : Vl := @Vl.mk B flG_g h; allR (flS_nnC.inp flR) (flV_nn.inp flRL) true (((flA_nn).drop 5).take 5) = allT (((flA_nn).drop 5).take 5) := by kernel_rfl
theorem lr_nnDl_2 (B : Vb) (h : @okF B flG_l) : letI : Vl := @Vl.mk B flG_l h; allR (flS_nnD.inp flR) (flV_nn.inp flRL) false ((((flA_nn).drop 5).drop 5).take 5) = allT ((((flA_nn).drop 5).drop 5).take 5) := by kernel_rfl
theorem lr_nnEl_0 (B : Vb) (h : @okF B flG_l) : letI : Vl := @Vl.mk B flG_l h; allR (flS_nnE.inp flR) (flV_nn.inp flRL) false ((flA_nn).take 5) = allT ((flA_nn).take 5) := by kernel_rfl
theorem lr_nnEg_1 (B : Vb) (h : @okF B flG_g) : letI : Vl := @Vl.mk B flG_g h; allR (flS_nnE.inp flR) (flV_nn.inp flRL) true (((flA_nn).drop 5).take 5) = allT (((flA_nn).drop 5).take 5) := by kernel_rfl
end Go.Proofs.YtaaedipojhnjjaaGreat
