/- LintAlways: its runs, reckoned. -/
import Derived.Test.YtofcohgonchgfaaGreatLa
import Derived.KernelRfl
set_option linter.unusedVariables false
set_option linter.unusedSectionVars false
set_option maxRecDepth 100000
namespace Go.Proofs.YtofcohgonchgfaaGreat
open Go Go.Sh Go.Va
theorem lr_nn_gt_00_0_0 (B : Vb) (h : @okF B laG_nn_gt_00) : letI : Vl := @Vl.mk B laG_nn_gt_00 h; allR laS_nn0_0_gt 0 0 laA_nn_gt_00 = allT laA_nn_gt_00 := by kernel_rfl
theorem lr_nn_gt_00_0_1 (B : Vb) (h : @okF B laG_nn_gt_00) : letI : Vl := @Vl.mk B laG_nn_gt_00 h; allR laS_nn0_1_gt 1 0 laA_nn_gt_00 = allT laA_nn_gt_00 := by kernel_rfl
theorem lr_nn_gt_00_0_2 (B : Vb) (h : @okF B laG_nn_gt_00) : letI : Vl := @Vl.mk B laG_nn_gt_00 h; allR laS_nn0_2_gt 2 0 laA_nn_gt_00 = allT laA_nn_gt_00 := by kernel_rfl
theorem lr_nn_gt_00_0_3 (B : Vb) (h : @okF B laG_nn_gt_00) : letI : Vl := @Vl.mk B laG_nn_gt_00 h; allR laS_nn0_3_gt 3 0 laA_nn_gt_00 = allT laA_nn_gt_00 := by kernel_rfl
theorem lr_nn_gt_00_0_4 (B : Vb) (h : @okF B laG_nn_gt_00) : letI : Vl := @Vl.mk B laG_nn_gt_00 h; allR laS_nn0_4_gt 4 0 laA_nn_gt_00 = allT laA_nn_gt_00 := by kernel_rfl
theorem lr_nn_gt_00_0_5 (B : Vb) (h : @okF B laG_nn_gt_00) : letI : Vl := @Vl.mk B laG_nn_gt_00 h; allR laS_nn0_5_gt 5 0 laA_nn_gt_00 = allT laA_nn_gt_00 := by kernel_rfl
theorem lr_nn_gt_00_1_0 (B : Vb) (h : @okF B laG_nn_gt_00) : letI : Vl := @Vl.mk B laG_nn_gt_00 h; allR laS_nn1_0_gt 0 1 laA_nn_gt_00 = allT laA_nn_gt_00 := by kernel_rfl
theorem lr_nn_gt_00_1_1 (B : Vb) (h : @okF B laG_nn_gt_00) : letI : Vl := @Vl.mk B laG_nn_gt_00 h; allR laS_nn1_1_gt 1 1 laA_nn_gt_00 = allT laA_nn_gt_00 := by kernel_rfl
theorem lr_nn_gt_00_1_2 (B : Vb) (h : @okF B laG_nn_gt_00) : letI : Vl := @Vl.mk B laG_nn_gt_00 h; allR laS_nn1_2_gt 2 1 laA_nn_gt_00 = allT laA_nn_gt_00 := by kernel_rfl
theorem lr_nn_gt_00_1_3 (B : Vb) (h : @okF B laG_nn_gt_00) : letI : Vl := @Vl.mk B laG_nn_gt_00 h; allR laS_nn1_3_gt 3 1 laA_nn_gt_00 = allT laA_nn_gt_00 := by kernel_rfl
theorem lr_nn_gt_00_1_4 (B : Vb) (h : @okF B laG_nn_gt_00) : letI : Vl := @Vl.mk B laG_nn_gt_00 h; allR laS_nn1_4_gt 4 1 laA_nn_gt_00 = allT laA_nn_gt_00 := by kernel_rfl
theorem lr_nn_gt_00_1_5 (B : Vb) (h : @okF B laG_nn_gt_00) : letI : Vl := @Vl.mk B laG_nn_gt_00 h; allR laS_nn1_5_gt 5 1 laA_nn_gt_00 = allT laA_nn_gt_00 := by kernel_rfl
theorem lr_pn_gt_10_0_0 (B : Vb) (h : @okF B laG_pn_gt_10) : letI : Vl := @Vl.mk B laG_pn_gt_10 h; allR laS_pn0_0_gt 0 0 laA_pn_gt_10 = allT laA_pn_gt_10 := by kernel_rfl
theorem lr_pn_gt_10_0_1 (B : Vb) (h : @okF B laG_pn_gt_10) : letI : Vl := @Vl.mk B laG_pn_gt_10 h; allR laS_pn0_1_gt 1 0 laA_pn_gt_10 = allT laA_pn_gt_10 := by kernel_rfl
theorem lr_pn_gt_10_0_2 (B : Vb) (h : @okF B laG_pn_gt_10) : letI : Vl := @Vl.mk B laG_pn_gt_10 h; allR laS_pn0_2_gt 2 0 laA_pn_gt_10 = allT laA_pn_gt_10 := by kernel_rfl
theorem lr_pn_gt_10_0_3 (B : Vb) (h : @okF B laG_pn_gt_10) : letI : Vl := @Vl.mk B laG_pn_gt_10 h; allR laS_pn0_3_gt 3 0 laA_pn_gt_10 = allT laA_pn_gt_10 := by kernel_rfl
theorem lr_pn_gt_10_0_4 (B : Vb) (h : @okF B laG_pn_gt_10) : letI : Vl := @Vl.mk B laG_pn_gt_10 h; allR laS_pn0_4_gt 4 0 laA_pn_gt_10 = allT laA_pn_gt_10 := by kernel_rfl
theorem lr_pn_gt_10_0_5 (B : Vb) (h : @okF B laG_pn_gt_10) : letI : Vl := @Vl.mk B laG_pn_gt_10 h; allR laS_pn0_5_gt 5 0 laA_pn_gt_10 = allT laA_pn_gt_10 := by kernel_rfl
theorem lr_pn_gt_10_1_0 (B : Vb) (h : @okF B laG_pn_gt_10) : letI : Vl := @Vl.mk B laG_pn_gt_10 h; allR laS_pn1_0_gt 0 1 laA_pn_gt_10 = allT laA_pn_gt_10 := by kernel_rfl
theorem lr_pn_gt_10_1_1 (B : Vb) (h : @okF B laG_pn_gt_10) : letI : Vl := @Vl.mk B laG_pn_gt_10 h; allR laS_pn1_1_gt 1 1 laA_pn_gt_10 = allT laA_pn_gt_10 := by kernel_rfl
theorem lr_pn_gt_10_1_2 (B : Vb) (h : @okF B laG_pn_gt_10) : letI : Vl := @Vl.mk B laG_pn_gt_10 h; allR laS_pn1_2_gt 2 1 laA_pn_gt_10 = allT laA_pn_gt_10 := by kernel_rfl
theorem lr_pn_gt_10_1_3 (B : Vb) (h : @okF B laG_pn_gt_10) : letI : Vl := @Vl.mk B laG_pn_gt_10 h; allR laS_pn1_3_gt 3 1 laA_pn_gt_10 = allT laA_pn_gt_10 := by kernel_rfl
theorem lr_pn_gt_10_1_4 (B : Vb) (h : @okF B laG_pn_gt_10) : letI : Vl := @Vl.mk B laG_pn_gt_10 h; allR laS_pn1_4_gt 4 1 laA_pn_gt_10 = allT laA_pn_gt_10 := by kernel_rfl
theorem lr_pn_gt_10_1_5 (B : Vb) (h : @okF B laG_pn_gt_10) : letI : Vl := @Vl.mk B laG_pn_gt_10 h; allR laS_pn1_5_gt 5 1 laA_pn_gt_10 = allT laA_pn_gt_10 := by kernel_rfl
theorem lr_pn_gt_00_0_0 (B : Vb) (h : @okF B laG_pn_gt_00) : letI : Vl := @Vl.mk B laG_pn_gt_00 h; allR laS_pn0_0_gt 0 0 laA_pn_gt_00 = allT laA_pn_gt_00 := by kernel_rfl
theorem lr_pn_gt_00_0_1 (B : Vb) (h : @okF B laG_pn_gt_00) : letI : Vl := @Vl.mk B laG_pn_gt_00 h; allR laS_pn0_1_gt 1 0 laA_pn_gt_00 = allT laA_pn_gt_00 := by kernel_rfl
theorem lr_pn_gt_00_0_2 (B : Vb) (h : @okF B laG_pn_gt_00) : letI : Vl := @Vl.mk B laG_pn_gt_00 h; allR laS_pn0_2_gt 2 0 laA_pn_gt_00 = allT laA_pn_gt_00 := by kernel_rfl
theorem lr_pn_gt_00_0_3 (B : Vb) (h : @okF B laG_pn_gt_00) : letI : Vl := @Vl.mk B laG_pn_gt_00 h; allR laS_pn0_3_gt 3 0 laA_pn_gt_00 = allT laA_pn_gt_00 := by kernel_rfl
theorem lr_pn_gt_00_0_4 (B : Vb) (h : @okF B laG_pn_gt_00) : letI : Vl := @Vl.mk B laG_pn_gt_00 h; allR laS_pn0_4_gt 4 0 laA_pn_gt_00 = allT laA_pn_gt_00 := by kernel_rfl
theorem lr_pn_gt_00_0_5 (B : Vb) (h : @okF B laG_pn_gt_00) : letI : Vl := @Vl.mk B laG_pn_gt_00 h; allR laS_pn0_5_gt 5 0 laA_pn_gt_00 = allT laA_pn_gt_00 := by kernel_rfl
theorem lr_pn_gt_00_1_0 (B : Vb) (h : @okF B laG_pn_gt_00) : letI : Vl := @Vl.mk B laG_pn_gt_00 h; allR laS_pn1_0_gt 0 1 laA_pn_gt_00 = allT laA_pn_gt_00 := by kernel_rfl
theorem lr_pn_gt_00_1_1 (B : Vb) (h : @okF B laG_pn_gt_00) : letI : Vl := @Vl.mk B laG_pn_gt_00 h; allR laS_pn1_1_gt 1 1 laA_pn_gt_00 = allT laA_pn_gt_00 := by kernel_rfl
theorem lr_pn_gt_00_1_2 (B : Vb) (h : @okF B laG_pn_gt_00) : letI : Vl := @Vl.mk B laG_pn_gt_00 h; allR laS_pn1_2_gt 2 1 laA_pn_gt_00 = allT laA_pn_gt_00 := by kernel_rfl
theorem lr_pn_gt_00_1_3 (B : Vb) (h : @okF B laG_pn_gt_00) : letI : Vl := @Vl.mk B laG_pn_gt_00 h; allR laS_pn1_3_gt 3 1 laA_pn_gt_00 = allT laA_pn_gt_00 := by kernel_rfl
theorem lr_pn_gt_00_1_4 (B : Vb) (h : @okF B laG_pn_gt_00) : letI : Vl := @Vl.mk B laG_pn_gt_00 h; allR laS_pn1_4_gt 4 1 laA_pn_gt_00 = allT laA_pn_gt_00 := by kernel_rfl
theorem lr_pn_gt_00_1_5 (B : Vb) (h : @okF B laG_pn_gt_00) : letI : Vl := @Vl.mk B laG_pn_gt_00 h; allR laS_pn1_5_gt 5 1 laA_pn_gt_00 = allT laA_pn_gt_00 := by kernel_rfl
theorem lr_np_lt_01_0_0 (B : Vb) (h : @okF B laG_np_lt_01) : letI : Vl := @Vl.mk B laG_np_lt_01 h; allR laS_np0_0_lt 0 0 laA_np_lt_01 = allT laA_np_lt_01 := by kernel_rfl
theorem lr_np_lt_01_0_1 (B : Vb) (h : @okF B laG_np_lt_01) : letI : Vl := @Vl.mk B laG_np_lt_01 h; allR laS_np0_1_lt 1 0 laA_np_lt_01 = allT laA_np_lt_01 := by kernel_rfl
theorem lr_np_lt_01_0_2 (B : Vb) (h : @okF B laG_np_lt_01) : letI : Vl := @Vl.mk B laG_np_lt_01 h; allR laS_np0_2_lt 2 0 laA_np_lt_01 = allT laA_np_lt_01 := by kernel_rfl
theorem lr_np_lt_01_0_3 (B : Vb) (h : @okF B laG_np_lt_01) : letI : Vl := @Vl.mk B laG_np_lt_01 h; allR laS_np0_3_lt 3 0 laA_np_lt_01 = allT laA_np_lt_01 := by kernel_rfl
theorem lr_np_lt_01_0_4 (B : Vb) (h : @okF B laG_np_lt_01) : letI : Vl := @Vl.mk B laG_np_lt_01 h; allR laS_np0_4_lt 4 0 laA_np_lt_01 = allT laA_np_lt_01 := by kernel_rfl
theorem lr_np_lt_01_0_5 (B : Vb) (h : @okF B laG_np_lt_01) : letI : Vl := @Vl.mk B laG_np_lt_01 h; allR laS_np0_5_lt 5 0 laA_np_lt_01 = allT laA_np_lt_01 := by kernel_rfl
theorem lr_np_lt_01_1_0 (B : Vb) (h : @okF B laG_np_lt_01) : letI : Vl := @Vl.mk B laG_np_lt_01 h; allR laS_np1_0_lt 0 1 laA_np_lt_01 = allT laA_np_lt_01 := by kernel_rfl
theorem lr_np_lt_01_1_1 (B : Vb) (h : @okF B laG_np_lt_01) : letI : Vl := @Vl.mk B laG_np_lt_01 h; allR laS_np1_1_lt 1 1 laA_np_lt_01 = allT laA_np_lt_01 := by kernel_rfl
theorem lr_np_lt_01_1_2 (B : Vb) (h : @okF B laG_np_lt_01) : letI : Vl := @Vl.mk B laG_np_lt_01 h; allR laS_np1_2_lt 2 1 laA_np_lt_01 = allT laA_np_lt_01 := by kernel_rfl
theorem lr_np_lt_01_1_3 (B : Vb) (h : @okF B laG_np_lt_01) : letI : Vl := @Vl.mk B laG_np_lt_01 h; allR laS_np1_3_lt 3 1 laA_np_lt_01 = allT laA_np_lt_01 := by kernel_rfl
theorem lr_np_lt_01_1_4 (B : Vb) (h : @okF B laG_np_lt_01) : letI : Vl := @Vl.mk B laG_np_lt_01 h; allR laS_np1_4_lt 4 1 laA_np_lt_01 = allT laA_np_lt_01 := by kernel_rfl
theorem lr_np_lt_01_1_5 (B : Vb) (h : @okF B laG_np_lt_01) : letI : Vl := @Vl.mk B laG_np_lt_01 h; allR laS_np1_5_lt 5 1 laA_np_lt_01 = allT laA_np_lt_01 := by kernel_rfl
theorem lr_np_lt_00_0_0 (B : Vb) (h : @okF B laG_np_lt_00) : letI : Vl := @Vl.mk B laG_np_lt_00 h; allR laS_np0_0_lt 0 0 laA_np_lt_00 = allT laA_np_lt_00 := by kernel_rfl
theorem lr_np_lt_00_0_1 (B : Vb) (h : @okF B laG_np_lt_00) : letI : Vl := @Vl.mk B laG_np_lt_00 h; allR laS_np0_1_lt 1 0 laA_np_lt_00 = allT laA_np_lt_00 := by kernel_rfl
theorem lr_np_lt_00_0_2 (B : Vb) (h : @okF B laG_np_lt_00) : letI : Vl := @Vl.mk B laG_np_lt_00 h; allR laS_np0_2_lt 2 0 laA_np_lt_00 = allT laA_np_lt_00 := by kernel_rfl
theorem lr_np_lt_00_0_3 (B : Vb) (h : @okF B laG_np_lt_00) : letI : Vl := @Vl.mk B laG_np_lt_00 h; allR laS_np0_3_lt 3 0 laA_np_lt_00 = allT laA_np_lt_00 := by kernel_rfl
theorem lr_np_lt_00_0_4 (B : Vb) (h : @okF B laG_np_lt_00) : letI : Vl := @Vl.mk B laG_np_lt_00 h; allR laS_np0_4_lt 4 0 laA_np_lt_00 = allT laA_np_lt_00 := by kernel_rfl
theorem lr_np_lt_00_0_5 (B : Vb) (h : @okF B laG_np_lt_00) : letI : Vl := @Vl.mk B laG_np_lt_00 h; allR laS_np0_5_lt 5 0 laA_np_lt_00 = allT laA_np_lt_00 := by kernel_rfl
theorem lr_np_lt_00_1_0 (B : Vb) (h : @okF B laG_np_lt_00) : letI : Vl := @Vl.mk B laG_np_lt_00 h; allR laS_np1_0_lt 0 1 laA_np_lt_00 = allT laA_np_lt_00 := by kernel_rfl
theorem lr_np_lt_00_1_1 (B : Vb) (h : @okF B laG_np_lt_00) : letI : Vl := @Vl.mk B laG_np_lt_00 h; allR laS_np1_1_lt 1 1 laA_np_lt_00 = allT laA_np_lt_00 := by kernel_rfl
theorem lr_np_lt_00_1_2 (B : Vb) (h : @okF B laG_np_lt_00) : letI : Vl := @Vl.mk B laG_np_lt_00 h; allR laS_np1_2_lt 2 1 laA_np_lt_00 = allT laA_np_lt_00 := by kernel_rfl
theorem lr_np_lt_00_1_3 (B : Vb) (h : @okF B laG_np_lt_00) : letI : Vl := @Vl.mk B laG_np_lt_00 h; allR laS_np1_3_lt 3 1 laA_np_lt_00 = allT laA_np_lt_00 := by kernel_rfl
theorem lr_np_lt_00_1_4 (B : Vb) (h : @okF B laG_np_lt_00) : letI : Vl := @Vl.mk B laG_np_lt_00 h; allR laS_np1_4_lt 4 1 laA_np_lt_00 = allT laA_np_lt_00 := by kernel_rfl
theorem lr_np_lt_00_1_5 (B : Vb) (h : @okF B laG_np_lt_00) : letI : Vl := @Vl.mk B laG_np_lt_00 h; allR laS_np1_5_lt 5 1 laA_np_lt_00 = allT laA_np_lt_00 := by kernel_rfl
end Go.Proofs.YtofcohgonchgfaaGreat
