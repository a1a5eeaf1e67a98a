/- LintAlways: Notes, reckoned. -/
import Derived.Test.YtofcohgonchgfaaGreatLa
import Derived.Test.YtofcohgonchgfaaGreatVsc
import Derived.KernelRfl
set_option linter.unusedVariables false
set_option linter.unusedSectionVars false
set_option maxRecDepth 100000
namespace Go.Proofs.YtofcohgonchgfaaGreat
open Go Go.Sh Go.Va
theorem ln_nn0_0_lt (B : Vb) (h : @okF B laF_nn_lt) : letI : Vl := @Vl.mk B laF_nn_lt h; smRun tab 13 1000 1000 9 .nil laS_nn0_0_lt = (laS_nn0_0_lt.x1 = laS_nn0_0_lt.x1 ∧ reflT laS_nn0_0_lt.t1) := by kernel_rfl
theorem sn_nn0_0_lt (B : Vb) (h : @okF B laF_nn_lt) (G : Gd) : @SmOk B G Tryz.prog 9 laS_nn0_0_lt := by
  letI : Vl := @Vl.mk B laF_nn_lt h
  exact sm_ok tab_ok (by kernel_rfl) (by kernel_rfl) (ln_nn0_0_lt B h) G
theorem ln_nn0_1_lt (B : Vb) (h : @okF B laF_nn_lt) : letI : Vl := @Vl.mk B laF_nn_lt h; smRun tab 13 1000 1000 9 .nil laS_nn0_1_lt = (laS_nn0_1_lt.x1 = laS_nn0_1_lt.x1 ∧ reflT laS_nn0_1_lt.t1) := by kernel_rfl
theorem sn_nn0_1_lt (B : Vb) (h : @okF B laF_nn_lt) (G : Gd) : @SmOk B G Tryz.prog 9 laS_nn0_1_lt := by
  letI : Vl := @Vl.mk B laF_nn_lt h
  exact sm_ok tab_ok (by kernel_rfl) (by kernel_rfl) (ln_nn0_1_lt B h) G
theorem ln_nn0_2_lt (B : Vb) (h : @okF B laF_nn_lt) : letI : Vl := @Vl.mk B laF_nn_lt h; smRun tab 13 1000 1000 9 .nil laS_nn0_2_lt = (laS_nn0_2_lt.x1 = laS_nn0_2_lt.x1 ∧ reflT laS_nn0_2_lt.t1) := by kernel_rfl
theorem sn_nn0_2_lt (B : Vb) (h : @okF B laF_nn_lt) (G : Gd) : @SmOk B G Tryz.prog 9 laS_nn0_2_lt := by
  letI : Vl := @Vl.mk B laF_nn_lt h
  exact sm_ok tab_ok (by kernel_rfl) (by kernel_rfl) (ln_nn0_2_lt B h) G
theorem ln_nn0_3_lt (B : Vb) (h : @okF B laF_nn_lt) : letI : Vl := @Vl.mk B laF_nn_lt h; smRun tab 13 1000 1000 9 .nil laS_nn0_3_lt = (laS_nn0_3_lt.x1 = laS_nn0_3_lt.x1 ∧ reflT laS_nn0_3_lt.t1) := by kernel_rfl
theorem sn_nn0_3_lt (B : Vb) (h : @okF B laF_nn_lt) (G : Gd) : @SmOk B G Tryz.prog 9 laS_nn0_3_lt := by
  letI : Vl := @Vl.mk B laF_nn_lt h
  exact sm_ok tab_ok (by kernel_rfl) (by kernel_rfl) (ln_nn0_3_lt B h) G
theorem ln_nn0_4_lt (B : Vb) (h : @okF B laF_nn_lt) : letI : Vl := @Vl.mk B laF_nn_lt h; smRun tab 13 1000 1000 9 .nil laS_nn0_4_lt = (laS_nn0_4_lt.x1 = laS_nn0_4_lt.x1 ∧ reflT laS_nn0_4_lt.t1) := by kernel_rfl
theorem sn_nn0_4_lt (B : Vb) (h : @okF B laF_nn_lt) (G : Gd) : @SmOk B G Tryz.prog 9 laS_nn0_4_lt := by
  letI : Vl := @Vl.mk B laF_nn_lt h
  exact sm_ok tab_ok (by kernel_rfl) (by kernel_rfl) (ln_nn0_4_lt B h) G
theorem ln_nn0_5_lt (B : Vb) (h : @okF B laF_nn_lt) : letI : Vl := @Vl.mk B laF_nn_lt h; smRun tab 13 1000 1000 9 .nil laS_nn0_5_lt = (laS_nn0_5_lt.x1 = laS_nn0_5_lt.x1 ∧ reflT laS_nn0_5_lt.t1) := by kernel_rfl
theorem sn_nn0_5_lt (B : Vb) (h : @okF B laF_nn_lt) (G : Gd) : @SmOk B G Tryz.prog 9 laS_nn0_5_lt := by
  letI : Vl := @Vl.mk B laF_nn_lt h
  exact sm_ok tab_ok (by kernel_rfl) (by kernel_rfl) (ln_nn0_5_lt B h) G
theorem ln_nn1_0_lt (B : Vb) (h : @okF B laF_nn_lt) : letI : Vl := @Vl.mk B laF_nn_lt h; smRun tab 13 1000 1000 9 .nil laS_nn1_0_lt = (laS_nn1_0_lt.x1 = laS_nn1_0_lt.x1 ∧ reflT laS_nn1_0_lt.t1) := by kernel_rfl
theorem sn_nn1_0_lt (B : Vb) (h : @okF B laF_nn_lt) (G : Gd) : @SmOk B G Tryz.prog 9 laS_nn1_0_lt := by
  letI : Vl := @Vl.mk B laF_nn_lt h
  exact sm_ok tab_ok (by kernel_rfl) (by kernel_rfl) (ln_nn1_0_lt B h) G
theorem ln_nn1_1_lt (B : Vb) (h : @okF B laF_nn_lt) : letI : Vl := @Vl.mk B laF_nn_lt h; smRun tab 13 1000 1000 9 .nil laS_nn1_1_lt = (laS_nn1_1_lt.x1 = laS_nn1_1_lt.x1 ∧ reflT laS_nn1_1_lt.t1) := by kernel_rfl
theorem sn_nn1_1_lt (B : Vb) (h : @okF B laF_nn_lt) (G : Gd) : @SmOk B G Tryz.prog 9 laS_nn1_1_lt := by
  letI : Vl := @Vl.mk B laF_nn_lt h
  exact sm_ok tab_ok (by kernel_rfl) (by kernel_rfl) (ln_nn1_1_lt B h) G
theorem ln_nn1_2_lt (B : Vb) (h : @okF B laF_nn_lt) : letI : Vl := @Vl.mk B laF_nn_lt h; smRun tab 13 1000 1000 9 .nil laS_nn1_2_lt = (laS_nn1_2_lt.x1 = laS_nn1_2_lt.x1 ∧ reflT laS_nn1_2_lt.t1) := by kernel_rfl
theorem sn_nn1_2_lt (B : Vb) (h : @okF B laF_nn_lt) (G : Gd) : @SmOk B G Tryz.prog 9 laS_nn1_2_lt := by
  letI : Vl := @Vl.mk B laF_nn_lt h
  exact sm_ok tab_ok (by kernel_rfl) (by kernel_rfl) (ln_nn1_2_lt B h) G
theorem ln_nn1_3_lt (B : Vb) (h : @okF B laF_nn_lt) : letI : Vl := @Vl.mk B laF_nn_lt h; smRun tab 13 1000 1000 9 .nil laS_nn1_3_lt = (laS_nn1_3_lt.x1 = laS_nn1_3_lt.x1 ∧ reflT laS_nn1_3_lt.t1) := by kernel_rfl
theorem sn_nn1_3_lt (B : Vb) (h : @okF B laF_nn_lt) (G : Gd) : @SmOk B G Tryz.prog 9 laS_nn1_3_lt := by
  letI : Vl := @Vl.mk B laF_nn_lt h
  exact sm_ok tab_ok (by kernel_rfl) (by kernel_rfl) (ln_nn1_3_lt B h) G
theorem ln_nn1_4_lt (B : Vb) (h : @okF B laF_nn_lt) : letI : Vl := @Vl.mk B laF_nn_lt h; smRun tab 13 1000 1000 9 .nil laS_nn1_4_lt = (laS_nn1_4_lt.x1 = laS_nn1_4_lt.x1 ∧ reflT laS_nn1_4_lt.t1) := by kernel_rfl
theorem sn_nn1_4_lt (B : Vb) (h : @okF B laF_nn_lt) (G : Gd) : @SmOk B G Tryz.prog 9 laS_nn1_4_lt := by
  letI : Vl := @Vl.mk B laF_nn_lt h
  exact sm_ok tab_ok (by kernel_rfl) (by kernel_rfl) (ln_nn1_4_lt B h) G
theorem ln_nn1_5_lt (B : Vb) (h : @okF B laF_nn_lt) : letI : Vl := @Vl.mk B laF_nn_lt h; smRun tab 13 1000 1000 9 .nil laS_nn1_5_lt = (laS_nn1_5_lt.x1 = laS_nn1_5_lt.x1 ∧ reflT laS_nn1_5_lt.t1) := by kernel_rfl
theorem sn_nn1_5_lt (B : Vb) (h : @okF B laF_nn_lt) (G : Gd) : @SmOk B G Tryz.prog 9 laS_nn1_5_lt := by
  letI : Vl := @Vl.mk B laF_nn_lt h
  exact sm_ok tab_ok (by kernel_rfl) (by kernel_rfl) (ln_nn1_5_lt B h) G
theorem ln_nn0_0_eq (B : Vb) (h : @okF B laF_nn_eq) : letI : Vl := @Vl.mk B laF_nn_eq h; smRun tab 13 1000 1000 9 .nil laS_nn0_0_eq = (laS_nn0_0_eq.x1 = laS_nn0_0_eq.x1 ∧ reflT laS_nn0_0_eq.t1) := by kernel_rfl
theorem sn_nn0_0_eq (B : Vb) (h : @okF B laF_nn_eq) (G : Gd) : @SmOk B G Tryz.prog 9 laS_nn0_0_eq := by
  letI : Vl := @Vl.mk B laF_nn_eq h
  exact sm_ok tab_ok (by kernel_rfl) (by kernel_rfl) (ln_nn0_0_eq B h) G
theorem ln_nn0_1_eq (B : Vb) (h : @okF B laF_nn_eq) : letI : Vl := @Vl.mk B laF_nn_eq h; smRun tab 13 1000 1000 9 .nil laS_nn0_1_eq = (laS_nn0_1_eq.x1 = laS_nn0_1_eq.x1 ∧ reflT laS_nn0_1_eq.t1) := by kernel_rfl
theorem sn_nn0_1_eq (B : Vb) (h : @okF B laF_nn_eq) (G : Gd) : @SmOk B G Tryz.prog 9 laS_nn0_1_eq := by
  letI : Vl := @Vl.mk B laF_nn_eq h
  exact sm_ok tab_ok (by kernel_rfl) (by kernel_rfl) (ln_nn0_1_eq B h) G
theorem ln_nn0_2_eq (B : Vb) (h : @okF B laF_nn_eq) : letI : Vl := @Vl.mk B laF_nn_eq h; smRun tab 13 1000 1000 9 .nil laS_nn0_2_eq = (laS_nn0_2_eq.x1 = laS_nn0_2_eq.x1 ∧ reflT laS_nn0_2_eq.t1) := by kernel_rfl
theorem sn_nn0_2_eq (B : Vb) (h : @okF B laF_nn_eq) (G : Gd) : @SmOk B G Tryz.prog 9 laS_nn0_2_eq := by
  letI : Vl := @Vl.mk B laF_nn_eq h
  exact sm_ok tab_ok (by kernel_rfl) (by kernel_rfl) (ln_nn0_2_eq B h) G
theorem ln_nn0_3_eq (B : Vb) (h : @okF B laF_nn_eq) : letI : Vl := @Vl.mk B laF_nn_eq h; smRun tab 13 1000 1000 9 .nil laS_nn0_3_eq = (laS_nn0_3_eq.x1 = laS_nn0_3_eq.x1 ∧ reflT laS_nn0_3_eq.t1) := by kernel_rfl
theorem sn_nn0_3_eq (B : Vb) (h : @okF B laF_nn_eq) (G : Gd) : @SmOk B G Tryz.prog 9 laS_nn0_3_eq := by
  letI : Vl := @Vl.mk B laF_nn_eq h
  exact sm_ok tab_ok (by kernel_rfl) (by kernel_rfl) (ln_nn0_3_eq B h) G
theorem ln_nn0_4_eq (B : Vb) (h : @okF B laF_nn_eq) : letI : Vl := @Vl.mk B laF_nn_eq h; smRun tab 13 1000 1000 9 .nil laS_nn0_4_eq = (laS_nn0_4_eq.x1 = laS_nn0_4_eq.x1 ∧ reflT laS_nn0_4_eq.t1) := by kernel_rfl
theorem sn_nn0_4_eq (B : Vb) (h : @okF B laF_nn_eq) (G : Gd) : @SmOk B G Tryz.prog 9 laS_nn0_4_eq := by
  letI : Vl := @Vl.mk B laF_nn_eq h
  exact sm_ok tab_ok (by kernel_rfl) (by kernel_rfl) (ln_nn0_4_eq B h) G
theorem ln_nn0_5_eq (B : Vb) (h : @okF B laF_nn_eq) : letI : Vl := @Vl.mk B laF_nn_eq h; smRun tab 13 1000 1000 9 .nil laS_nn0_5_eq = (laS_nn0_5_eq.x1 = laS_nn0_5_eq.x1 ∧ reflT laS_nn0_5_eq.t1) := by kernel_rfl
theorem sn_nn0_5_eq (B : Vb) (h : @okF B laF_nn_eq) (G : Gd) : @SmOk B G Tryz.prog 9 laS_nn0_5_eq := by
  letI : Vl := @Vl.mk B laF_nn_eq h
  exact sm_ok tab_ok (by kernel_rfl) (by kernel_rfl) (ln_nn0_5_eq B h) G
theorem ln_nn1_0_eq (B : Vb) (h : @okF B laF_nn_eq) : letI : Vl := @Vl.mk B laF_nn_eq h; smRun tab 13 1000 1000 9 .nil laS_nn1_0_eq = (laS_nn1_0_eq.x1 = laS_nn1_0_eq.x1 ∧ reflT laS_nn1_0_eq.t1) := by kernel_rfl
theorem sn_nn1_0_eq (B : Vb) (h : @okF B laF_nn_eq) (G : Gd) : @SmOk B G Tryz.prog 9 laS_nn1_0_eq := by
  letI : Vl := @Vl.mk B laF_nn_eq h
  exact sm_ok tab_ok (by kernel_rfl) (by kernel_rfl) (ln_nn1_0_eq B h) G
theorem ln_nn1_1_eq (B : Vb) (h : @okF B laF_nn_eq) : letI : Vl := @Vl.mk B laF_nn_eq h; smRun tab 13 1000 1000 9 .nil laS_nn1_1_eq = (laS_nn1_1_eq.x1 = laS_nn1_1_eq.x1 ∧ reflT laS_nn1_1_eq.t1) := by kernel_rfl
theorem sn_nn1_1_eq (B : Vb) (h : @okF B laF_nn_eq) (G : Gd) : @SmOk B G Tryz.prog 9 laS_nn1_1_eq := by
  letI : Vl := @Vl.mk B laF_nn_eq h
  exact sm_ok tab_ok (by kernel_rfl) (by kernel_rfl) (ln_nn1_1_eq B h) G
theorem ln_nn1_2_eq (B : Vb) (h : @okF B laF_nn_eq) : letI : Vl := @Vl.mk B laF_nn_eq h; smRun tab 13 1000 1000 9 .nil laS_nn1_2_eq = (laS_nn1_2_eq.x1 = laS_nn1_2_eq.x1 ∧ reflT laS_nn1_2_eq.t1) := by kernel_rfl
theorem sn_nn1_2_eq (B : Vb) (h : @okF B laF_nn_eq) (G : Gd) : @SmOk B G Tryz.prog 9 laS_nn1_2_eq := by
  letI : Vl := @Vl.mk B laF_nn_eq h
  exact sm_ok tab_ok (by kernel_rfl) (by kernel_rfl) (ln_nn1_2_eq B h) G
theorem ln_nn1_3_eq (B : Vb) (h : @okF B laF_nn_eq) : letI : Vl := @Vl.mk B laF_nn_eq h; smRun tab 13 1000 1000 9 .nil laS_nn1_3_eq = (laS_nn1_3_eq.x1 = laS_nn1_3_eq.x1 ∧ reflT laS_nn1_3_eq.t1) := by kernel_rfl
theorem sn_nn1_3_eq (B : Vb) (h : @okF B laF_nn_eq) (G : Gd) : @SmOk B G Tryz.prog 9 laS_nn1_3_eq := by
  letI : Vl := @Vl.mk B laF_nn_eq h
  exact sm_ok tab_ok (by kernel_rfl) (by kernel_rfl) (ln_nn1_3_eq B h) G
theorem ln_nn1_4_eq (B : Vb) (h : @okF B laF_nn_eq) : letI : Vl := @Vl.mk B laF_nn_eq h; smRun tab 13 1000 1000 9 .nil laS_nn1_4_eq = (laS_nn1_4_eq.x1 = laS_nn1_4_eq.x1 ∧ reflT laS_nn1_4_eq.t1) := by kernel_rfl
theorem sn_nn1_4_eq (B : Vb) (h : @okF B laF_nn_eq) (G : Gd) : @SmOk B G Tryz.prog 9 laS_nn1_4_eq := by
  letI : Vl := @Vl.mk B laF_nn_eq h
  exact sm_ok tab_ok (by kernel_rfl) (by kernel_rfl) (ln_nn1_4_eq B h) G
theorem ln_nn1_5_eq (B : Vb) (h : @okF B laF_nn_eq) : letI : Vl := @Vl.mk B laF_nn_eq h; smRun tab 13 1000 1000 9 .nil laS_nn1_5_eq = (laS_nn1_5_eq.x1 = laS_nn1_5_eq.x1 ∧ reflT laS_nn1_5_eq.t1) := by kernel_rfl
theorem sn_nn1_5_eq (B : Vb) (h : @okF B laF_nn_eq) (G : Gd) : @SmOk B G Tryz.prog 9 laS_nn1_5_eq := by
  letI : Vl := @Vl.mk B laF_nn_eq h
  exact sm_ok tab_ok (by kernel_rfl) (by kernel_rfl) (ln_nn1_5_eq B h) G
theorem ln_nn0_0_gt (B : Vb) (h : @okF B laF_nn_gt) : letI : Vl := @Vl.mk B laF_nn_gt h; smRun tab 13 1000 1000 9 .nil laS_nn0_0_gt = (laS_nn0_0_gt.x1 = laS_nn0_0_gt.x1 ∧ reflT laS_nn0_0_gt.t1) := by kernel_rfl
theorem sn_nn0_0_gt (B : Vb) (h : @okF B laF_nn_gt) (G : Gd) : @SmOk B G Tryz.prog 9 laS_nn0_0_gt := by
  letI : Vl := @Vl.mk B laF_nn_gt h
  exact sm_ok tab_ok (by kernel_rfl) (by kernel_rfl) (ln_nn0_0_gt B h) G
theorem ln_nn0_1_gt (B : Vb) (h : @okF B laF_nn_gt) : letI : Vl := @Vl.mk B laF_nn_gt h; smRun tab 13 1000 1000 9 .nil laS_nn0_1_gt = (laS_nn0_1_gt.x1 = laS_nn0_1_gt.x1 ∧ reflT laS_nn0_1_gt.t1) := by kernel_rfl
theorem sn_nn0_1_gt (B : Vb) (h : @okF B laF_nn_gt) (G : Gd) : @SmOk B G Tryz.prog 9 laS_nn0_1_gt := by
  letI : Vl := @Vl.mk B laF_nn_gt h
  exact sm_ok tab_ok (by kernel_rfl) (by kernel_rfl) (ln_nn0_1_gt B h) G
theorem ln_nn0_2_gt (B : Vb) (h : @okF B laF_nn_gt) : letI : Vl := @Vl.mk B laF_nn_gt h; smRun tab 13 1000 1000 9 .nil laS_nn0_2_gt = (laS_nn0_2_gt.x1 = laS_nn0_2_gt.x1 ∧ reflT laS_nn0_2_gt.t1) := by kernel_rfl
theorem sn_nn0_2_gt (B : Vb) (h : @okF B laF_nn_gt) (G : Gd) : @SmOk B G Tryz.prog 9 laS_nn0_2_gt := by
  letI : Vl := @Vl.mk B laF_nn_gt h
  exact sm_ok tab_ok (by kernel_rfl) (by kernel_rfl) (ln_nn0_2_gt B h) G
theorem ln_nn0_3_gt (B : Vb) (h : @okF B laF_nn_gt) : letI : Vl := @Vl.mk B laF_nn_gt h; smRun tab 13 1000 1000 9 .nil laS_nn0_3_gt = (laS_nn0_3_gt.x1 = laS_nn0_3_gt.x1 ∧ reflT laS_nn0_3_gt.t1) := by kernel_rfl
theorem sn_nn0_3_gt (B : Vb) (h : @okF B laF_nn_gt) (G : Gd) : @SmOk B G Tryz.prog 9 laS_nn0_3_gt := by
  letI : Vl := @Vl.mk B laF_nn_gt h
  exact sm_ok tab_ok (by kernel_rfl) (by kernel_rfl) (ln_nn0_3_gt B h) G
theorem ln_nn0_4_gt (B : Vb) (h : @okF B laF_nn_gt) : letI : Vl := @Vl.mk B laF_nn_gt h; smRun tab 13 1000 1000 9 .nil laS_nn0_4_gt = (laS_nn0_4_gt.x1 = laS_nn0_4_gt.x1 ∧ reflT laS_nn0_4_gt.t1) := by kernel_rfl
theorem sn_nn0_4_gt (B : Vb) (h : @okF B laF_nn_gt) (G : Gd) : @SmOk B G Tryz.prog 9 laS_nn0_4_gt := by
  letI : Vl := @Vl.mk B laF_nn_gt h
  exact sm_ok tab_ok (by kernel_rfl) (by kernel_rfl) (ln_nn0_4_gt B h) G
theorem ln_nn0_5_gt (B : Vb) (h : @okF B laF_nn_gt) : letI : Vl := @Vl.mk B laF_nn_gt h; smRun tab 13 1000 1000 9 .nil laS_nn0_5_gt = (laS_nn0_5_gt.x1 = laS_nn0_5_gt.x1 ∧ reflT laS_nn0_5_gt.t1) := by kernel_rfl
theorem sn_nn0_5_gt (B : Vb) (h : @okF B laF_nn_gt) (G : Gd) : @SmOk B G Tryz.prog 9 laS_nn0_5_gt := by
  letI : Vl := @Vl.mk B laF_nn_gt h
  exact sm_ok tab_ok (by kernel_rfl) (by kernel_rfl) (ln_nn0_5_gt B h) G
theorem ln_nn1_0_gt (B : Vb) (h : @okF B laF_nn_gt) : letI : Vl := @Vl.mk B laF_nn_gt h; smRun tab 13 1000 1000 9 .nil laS_nn1_0_gt = (laS_nn1_0_gt.x1 = laS_nn1_0_gt.x1 ∧ reflT laS_nn1_0_gt.t1) := by kernel_rfl
theorem sn_nn1_0_gt (B : Vb) (h : @okF B laF_nn_gt) (G : Gd) : @SmOk B G Tryz.prog 9 laS_nn1_0_gt := by
  letI : Vl := @Vl.mk B laF_nn_gt h
  exact sm_ok tab_ok (by kernel_rfl) (by kernel_rfl) (ln_nn1_0_gt B h) G
theorem ln_nn1_1_gt (B : Vb) (h : @okF B laF_nn_gt) : letI : Vl := @Vl.mk B laF_nn_gt h; smRun tab 13 1000 1000 9 .nil laS_nn1_1_gt = (laS_nn1_1_gt.x1 = laS_nn1_1_gt.x1 ∧ reflT laS_nn1_1_gt.t1) := by kernel_rfl
theorem sn_nn1_1_gt (B : Vb) (h : @okF B laF_nn_gt) (G : Gd) : @SmOk B G Tryz.prog 9 laS_nn1_1_gt := by
  letI : Vl := @Vl.mk B laF_nn_gt h
  exact sm_ok tab_ok (by kernel_rfl) (by kernel_rfl) (ln_nn1_1_gt B h) G
theorem ln_nn1_2_gt (B : Vb) (h : @okF B laF_nn_gt) : letI : Vl := @Vl.mk B laF_nn_gt h; smRun tab 13 1000 1000 9 .nil laS_nn1_2_gt = (laS_nn1_2_gt.x1 = laS_nn1_2_gt.x1 ∧ reflT laS_nn1_2_gt.t1) := by kernel_rfl
theorem sn_nn1_2_gt (B : Vb) (h : @okF B laF_nn_gt) (G : Gd) : @SmOk B G Tryz.prog 9 laS_nn1_2_gt := by
  letI : Vl := @Vl.mk B laF_nn_gt h
  exact sm_ok tab_ok (by kernel_rfl) (by kernel_rfl) (ln_nn1_2_gt B h) G
theorem ln_nn1_3_gt (B : Vb) (h : @okF B laF_nn_gt) : letI : Vl := @Vl.mk B laF_nn_gt h; smRun tab 13 1000 1000 9 .nil laS_nn1_3_gt = (laS_nn1_3_gt.x1 = laS_nn1_3_gt.x1 ∧ reflT laS_nn1_3_gt.t1) := by kernel_rfl
theorem sn_nn1_3_gt (B : Vb) (h : @okF B laF_nn_gt) (G : Gd) : @SmOk B G Tryz.prog 9 laS_nn1_3_gt := by
  letI : Vl := @Vl.mk B laF_nn_gt h
  exact sm_ok tab_ok (by kernel_rfl) (by kernel_rfl) (ln_nn1_3_gt B h) G
theorem ln_nn1_4_gt (B : Vb) (h : @okF B laF_nn_gt) : letI : Vl := @Vl.mk B laF_nn_gt h; smRun tab 13 1000 1000 9 .nil laS_nn1_4_gt = (laS_nn1_4_gt.x1 = laS_nn1_4_gt.x1 ∧ reflT laS_nn1_4_gt.t1) := by kernel_rfl
theorem sn_nn1_4_gt (B : Vb) (h : @okF B laF_nn_gt) (G : Gd) : @SmOk B G Tryz.prog 9 laS_nn1_4_gt := by
  letI : Vl := @Vl.mk B laF_nn_gt h
  exact sm_ok tab_ok (by kernel_rfl) (by kernel_rfl) (ln_nn1_4_gt B h) G
theorem ln_nn1_5_gt (B : Vb) (h : @okF B laF_nn_gt) : letI : Vl := @Vl.mk B laF_nn_gt h; smRun tab 13 1000 1000 9 .nil laS_nn1_5_gt = (laS_nn1_5_gt.x1 = laS_nn1_5_gt.x1 ∧ reflT laS_nn1_5_gt.t1) := by kernel_rfl
theorem sn_nn1_5_gt (B : Vb) (h : @okF B laF_nn_gt) (G : Gd) : @SmOk B G Tryz.prog 9 laS_nn1_5_gt := by
  letI : Vl := @Vl.mk B laF_nn_gt h
  exact sm_ok tab_ok (by kernel_rfl) (by kernel_rfl) (ln_nn1_5_gt B h) G
end Go.Proofs.YtofcohgonchgfaaGreat
