/- FixLoops: its runs, reckoned. -/
import Derived.Test.YtaaedipojhnjjaaGreatFa
import Derived.Test.YtaaedipojhnjjaaGreatVsl
import Derived.KernelRfl
set_option linter.unusedVariables false
set_option linter.unusedSectionVars false
set_option maxRecDepth 100000
namespace Go.Proofs.YtaaedipojhnjjaaGreat
open Go Go.Sh Go.Va
theorem lr_ppBg_0 (B : Vb) (h : @okF B flG_g) : letI : Vl := @Vl.mk B flG_g h; allR (flS_ppB.inp flR) (flV_pp.inp flRL) true ((flA_pp).take 5) = allT ((flA_pp).take 5) := by kernel_rfl
theorem lr_ppCl_1 (B : Vb) (h : @okF B flG_l) : letI : Vl := @Vl.mk B flG_l h; allR (flS_ppC.inp flR) (flV_pp.inp flRL) false (((flA_pp).drop 5).take 5) = allT (((flA_pp).drop 5).take 5) := by kernel_rfl
theorem lr_ppCg_2 (B : Vb) (h : @okF B flG_g) : letI : Vl := @Vl.mk B flG_g h; allR (flS_ppC.inp flR) (flV_pp.inp flRL) true ((((flA_pp).drop 5).drop 5).take 5) = allT ((((flA_pp).drop 5).drop 5).take 5) := by kernel_rfl
theorem lr_ppDg_0 (B : Vb) (h : @okF B flG_g) : letI : Vl := @Vl.mk B flG_g h; allR (flS_ppD.inp flR) (flV_pp.inp flRL) true ((flA_pp).take 5) = allT ((flA_pp).take 5) := by kernel_rfl
theorem lr_ppEl_1 (B : Vb) (h : @okF B flG_l) : letI : Vl := @Vl.mk B flG_l h; allR (flS_ppE.inp flR) (flV_pp.inp flRL) false (((flA_pp).drop 5).take 5) = allT (((flA_pp).drop 5).take 5) := by kernel_rfl
theorem lr_ppEg_2 (B : Vb) (h : @okF B flG_g) : letI : Vl := @Vl.mk B flG_g h; allR (flS_ppE.inp flR) (flV_pp.inp flRL) true ((((flA_pp).drop 5).drop 5).take 5) = allT ((((flA_pp).drop 5).drop 5).take 5) := by kernel_rfl
theorem lr_npEl_3 (B : Vb) (h : @okF B flG_l) : letI : Vl := @Vl.mk B flG_l h; allR (flS_npE.inp flR) (flV_np.inp flRL) false (((((flA_np).drop 5).drop 5).drop 5).take 5) = allT (((((flA_np).drop 5).drop 5).drop 5).take 5) := by kernel_rfl
theorem lr_npEg_2 (B : Vb) (h : @okF B flG_g) : letI : Vl := @Vl.mk B flG_g h; allR (flS_npE.inp flR) (flV_np.inp flRL) true ((((flA_np).drop 5).drop 5).take 5) = allT ((((flA_np).drop 5).drop 5).take 5) := by kernel_rfl
theorem lr_nnBl_1 (B : Vb) (h : @okF B flG_l) : letI : Vl := @Vl.mk B flG_l h; allR (flS_nnB.inp flR) (flV_nn.inp flRL) false (((flA_nn).drop 5).take 5) = allT (((flA_nn).drop 5).take 5) := by kernel_rfl
theorem lr_nnBg_2 (B : Vb) (h : @okF B flG_g) : letI : Vl := @Vl.mk B flG_g h; allR (flS_nnB.inp flR) (flV_nn.inp flRL) true ((((flA_nn).drop 5).drop 5).take 5) = allT ((((flA_nn).drop 5).drop 5).take 5) := by kernel_rfl
theorem lr_nnCg_0 (B : Vb) (h : @okF B flG_g) : letI : Vl := @Vl.mk B flG_g h; allR (flS_nnC.inp flR) (flV_nn.inp flRL) true ((flA_nn).take 5) = allT ((flA_nn).take 5) := by kernel_rfl
theorem lr_nnDl_1 (B : Vb) (h : @okF B flG_l) : letI : Vl := @Vl.mk B flG_l h; allR (flS_nnD.inp flR) (flV_nn.inp flRL) false (((flA_nn).drop 5).take 5) = allT (((flA_nn).drop 5).take 5) := by kernel_rfl
theorem lr_nnDg_2 (B : Vb) (h : @okF B flG_g) : letI : Vl := @Vl.mk B flG_g h; allR (flS_nnD.inp flR) (flV_nn.inp flRL) true ((((flA_nn).drop 5).drop 5).take 5) = allT ((((flA_nn).drop 5).drop 5).take 5) := by kernel_rfl
theorem lr_nnEg_0 (B : Vb) (h : @okF B flG_g) : letI : Vl := @Vl.mk B flG_g h; allR (flS_nnE.inp flR) (flV_nn.inp flRL) true ((flA_nn).take 5) = allT ((flA_nn).take 5) := by kernel_rfl
end Go.Proofs.YtaaedipojhnjjaaGreat
