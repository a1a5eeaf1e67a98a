/- LintAlways: Notes, reckoned. -/
import Derived.Test.YtofcohgonchgfaaGreatLa
import Derived.Test.YtofcohgonchgfaaGreatVsc
import Derived.KernelRfl
set_option linter.unusedVariables false
set_option linter.unusedSectionVars false
set_option maxRecDepth 100000
namespace Go.Proofs.YtofcohgonchgfaaGreat
open Go Go.Sh Go.Va
theorem ln_pp0_0_lt (B : Vb) (h : @okF B laF_pp_lt) : letI : Vl := @Vl.mk B laF_pp_lt h; smRun tab 12 1000 1000 9 .nil laS_pp0_0_lt = (laS_pp0_0_lt.x1 = laS_pp0_0_lt.x1 ∧ reflT laS_pp0_0_lt.t1) := by kernel_rfl
theorem sn_pp0_0_lt (B : Vb) (h : @okF B laF_pp_lt) (G : Gd) : @SmOk B G Tryz.prog 9 laS_pp0_0_lt := by
  letI : Vl := @Vl.mk B laF_pp_lt h
  exact sm_ok tab_ok (by kernel_rfl) (by kernel_rfl) (ln_pp0_0_lt B h) G
theorem ln_pp0_1_lt (B : Vb) (h : @okF B laF_pp_lt) : letI : Vl := @Vl.mk B laF_pp_lt h; smRun tab 12 1000 1000 9 .nil laS_pp0_1_lt = (laS_pp0_1_lt.x1 = laS_pp0_1_lt.x1 ∧ reflT laS_pp0_1_lt.t1) := by kernel_rfl
theorem sn_pp0_1_lt (B : Vb) (h : @okF B laF_pp_lt) (G : Gd) : @SmOk B G Tryz.prog 9 laS_pp0_1_lt := by
  letI : Vl := @Vl.mk B laF_pp_lt h
  exact sm_ok tab_ok (by kernel_rfl) (by kernel_rfl) (ln_pp0_1_lt B h) G
theorem ln_pp0_2_lt (B : Vb) (h : @okF B laF_pp_lt) : letI : Vl := @Vl.mk B laF_pp_lt h; smRun tab 12 1000 1000 9 .nil laS_pp0_2_lt = (laS_pp0_2_lt.x1 = laS_pp0_2_lt.x1 ∧ reflT laS_pp0_2_lt.t1) := by kernel_rfl
theorem sn_pp0_2_lt (B : Vb) (h : @okF B laF_pp_lt) (G : Gd) : @SmOk B G Tryz.prog 9 laS_pp0_2_lt := by
  letI : Vl := @Vl.mk B laF_pp_lt h
  exact sm_ok tab_ok (by kernel_rfl) (by kernel_rfl) (ln_pp0_2_lt B h) G
theorem ln_pp0_3_lt (B : Vb) (h : @okF B laF_pp_lt) : letI : Vl := @Vl.mk B laF_pp_lt h; smRun tab 12 1000 1000 9 .nil laS_pp0_3_lt = (laS_pp0_3_lt.x1 = laS_pp0_3_lt.x1 ∧ reflT laS_pp0_3_lt.t1) := by kernel_rfl
theorem sn_pp0_3_lt (B : Vb) (h : @okF B laF_pp_lt) (G : Gd) : @SmOk B G Tryz.prog 9 laS_pp0_3_lt := by
  letI : Vl := @Vl.mk B laF_pp_lt h
  exact sm_ok tab_ok (by kernel_rfl) (by kernel_rfl) (ln_pp0_3_lt B h) G
theorem ln_pp0_4_lt (B : Vb) (h : @okF B laF_pp_lt) : letI : Vl := @Vl.mk B laF_pp_lt h; smRun tab 12 1000 1000 9 .nil laS_pp0_4_lt = (laS_pp0_4_lt.x1 = laS_pp0_4_lt.x1 ∧ reflT laS_pp0_4_lt.t1) := by kernel_rfl
theorem sn_pp0_4_lt (B : Vb) (h : @okF B laF_pp_lt) (G : Gd) : @SmOk B G Tryz.prog 9 laS_pp0_4_lt := by
  letI : Vl := @Vl.mk B laF_pp_lt h
  exact sm_ok tab_ok (by kernel_rfl) (by kernel_rfl) (ln_pp0_4_lt B h) G
theorem ln_pp0_5_lt (B : Vb) (h : @okF B laF_pp_lt) : letI : Vl := @Vl.mk B laF_pp_lt h; smRun tab 12 1000 1000 9 .nil laS_pp0_5_lt = (laS_pp0_5_lt.x1 = laS_pp0_5_lt.x1 ∧ reflT laS_pp0_5_lt.t1) := by kernel_rfl
theorem sn_pp0_5_lt (B : Vb) (h : @okF B laF_pp_lt) (G : Gd) : @SmOk B G Tryz.prog 9 laS_pp0_5_lt := by
  letI : Vl := @Vl.mk B laF_pp_lt h
  exact sm_ok tab_ok (by kernel_rfl) (by kernel_rfl) (ln_pp0_5_lt B h) G
theorem ln_pp1_0_lt (B : Vb) (h : @okF B laF_pp_lt) : letI : Vl := @Vl.mk B laF_pp_lt h; smRun tab 13 1000 1000 9 .nil laS_pp1_0_lt = (laS_pp1_0_lt.x1 = laS_pp1_0_lt.x1 ∧ reflT laS_pp1_0_lt.t1) := by kernel_rfl
theorem sn_pp1_0_lt (B : Vb) (h : @okF B laF_pp_lt) (G : Gd) : @SmOk B G Tryz.prog 9 laS_pp1_0_lt := by
  letI : Vl := @Vl.mk B laF_pp_lt h
  exact sm_ok tab_ok (by kernel_rfl) (by kernel_rfl) (ln_pp1_0_lt B h) G
theorem ln_pp1_1_lt (B : Vb) (h : @okF B laF_pp_lt) : letI : Vl := @Vl.mk B laF_pp_lt h; smRun tab 13 1000 1000 9 .nil laS_pp1_1_lt = (laS_pp1_1_lt.x1 = laS_pp1_1_lt.x1 ∧ reflT laS_pp1_1_lt.t1) := by kernel_rfl
theorem sn_pp1_1_lt (B : Vb) (h : @okF B laF_pp_lt) (G : Gd) : @SmOk B G Tryz.prog 9 laS_pp1_1_lt := by
  letI : Vl := @Vl.mk B laF_pp_lt h
  exact sm_ok tab_ok (by kernel_rfl) (by kernel_rfl) (ln_pp1_1_lt B h) G
theorem ln_pp1_2_lt (B : Vb) (h : @okF B laF_pp_lt) : letI : Vl := @Vl.mk B laF_pp_lt h; smRun tab 13 1000 1000 9 .nil laS_pp1_2_lt = (laS_pp1_2_lt.x1 = laS_pp1_2_lt.x1 ∧ reflT laS_pp1_2_lt.t1) := by kernel_rfl
theorem sn_pp1_2_lt (B : Vb) (h : @okF B laF_pp_lt) (G : Gd) : @SmOk B G Tryz.prog 9 laS_pp1_2_lt := by
  letI : Vl := @Vl.mk B laF_pp_lt h
  exact sm_ok tab_ok (by kernel_rfl) (by kernel_rfl) (ln_pp1_2_lt B h) G
theorem ln_pp1_3_lt (B : Vb) (h : @okF B laF_pp_lt) : letI : Vl := @Vl.mk B laF_pp_lt h; smRun tab 13 1000 1000 9 .nil laS_pp1_3_lt = (laS_pp1_3_lt.x1 = laS_pp1_3_lt.x1 ∧ reflT laS_pp1_3_lt.t1) := by kernel_rfl
theorem sn_pp1_3_lt (B : Vb) (h : @okF B laF_pp_lt) (G : Gd) : @SmOk B G Tryz.prog 9 laS_pp1_3_lt := by
  letI : Vl := @Vl.mk B laF_pp_lt h
  exact sm_ok tab_ok (by kernel_rfl) (by kernel_rfl) (ln_pp1_3_lt B h) G
theorem ln_pp1_4_lt (B : Vb) (h : @okF B laF_pp_lt) : letI : Vl := @Vl.mk B laF_pp_lt h; smRun tab 12 1000 1000 9 .nil laS_pp1_4_lt = (laS_pp1_4_lt.x1 = laS_pp1_4_lt.x1 ∧ reflT laS_pp1_4_lt.t1) := by kernel_rfl
theorem sn_pp1_4_lt (B : Vb) (h : @okF B laF_pp_lt) (G : Gd) : @SmOk B G Tryz.prog 9 laS_pp1_4_lt := by
  letI : Vl := @Vl.mk B laF_pp_lt h
  exact sm_ok tab_ok (by kernel_rfl) (by kernel_rfl) (ln_pp1_4_lt B h) G
theorem ln_pp1_5_lt (B : Vb) (h : @okF B laF_pp_lt) : letI : Vl := @Vl.mk B laF_pp_lt h; smRun tab 12 1000 1000 9 .nil laS_pp1_5_lt = (laS_pp1_5_lt.x1 = laS_pp1_5_lt.x1 ∧ reflT laS_pp1_5_lt.t1) := by kernel_rfl
theorem sn_pp1_5_lt (B : Vb) (h : @okF B laF_pp_lt) (G : Gd) : @SmOk B G Tryz.prog 9 laS_pp1_5_lt := by
  letI : Vl := @Vl.mk B laF_pp_lt h
  exact sm_ok tab_ok (by kernel_rfl) (by kernel_rfl) (ln_pp1_5_lt B h) G
theorem ln_pp0_0_eq (B : Vb) (h : @okF B laF_pp_eq) : letI : Vl := @Vl.mk B laF_pp_eq h; smRun tab 12 1000 1000 9 .nil laS_pp0_0_eq = (laS_pp0_0_eq.x1 = laS_pp0_0_eq.x1 ∧ reflT laS_pp0_0_eq.t1) := by kernel_rfl
theorem sn_pp0_0_eq (B : Vb) (h : @okF B laF_pp_eq) (G : Gd) : @SmOk B G Tryz.prog 9 laS_pp0_0_eq := by
  letI : Vl := @Vl.mk B laF_pp_eq h
  exact sm_ok tab_ok (by kernel_rfl) (by kernel_rfl) (ln_pp0_0_eq B h) G
theorem ln_pp0_1_eq (B : Vb) (h : @okF B laF_pp_eq) : letI : Vl := @Vl.mk B laF_pp_eq h; smRun tab 12 1000 1000 9 .nil laS_pp0_1_eq = (laS_pp0_1_eq.x1 = laS_pp0_1_eq.x1 ∧ reflT laS_pp0_1_eq.t1) := by kernel_rfl
theorem sn_pp0_1_eq (B : Vb) (h : @okF B laF_pp_eq) (G : Gd) : @SmOk B G Tryz.prog 9 laS_pp0_1_eq := by
  letI : Vl := @Vl.mk B laF_pp_eq h
  exact sm_ok tab_ok (by kernel_rfl) (by kernel_rfl) (ln_pp0_1_eq B h) G
theorem ln_pp0_2_eq (B : Vb) (h : @okF B laF_pp_eq) : letI : Vl := @Vl.mk B laF_pp_eq h; smRun tab 12 1000 1000 9 .nil laS_pp0_2_eq = (laS_pp0_2_eq.x1 = laS_pp0_2_eq.x1 ∧ reflT laS_pp0_2_eq.t1) := by kernel_rfl
theorem sn_pp0_2_eq (B : Vb) (h : @okF B laF_pp_eq) (G : Gd) : @SmOk B G Tryz.prog 9 laS_pp0_2_eq := by
  letI : Vl := @Vl.mk B laF_pp_eq h
  exact sm_ok tab_ok (by kernel_rfl) (by kernel_rfl) (ln_pp0_2_eq B h) G
theorem ln_pp0_3_eq (B : Vb) (h : @okF B laF_pp_eq) : letI : Vl := @Vl.mk B laF_pp_eq h; smRun tab 12 1000 1000 9 .nil laS_pp0_3_eq = (laS_pp0_3_eq.x1 = laS_pp0_3_eq.x1 ∧ reflT laS_pp0_3_eq.t1) := by kernel_rfl
theorem sn_pp0_3_eq (B : Vb) (h : @okF B laF_pp_eq) (G : Gd) : @SmOk B G Tryz.prog 9 laS_pp0_3_eq := by
  letI : Vl := @Vl.mk B laF_pp_eq h
  exact sm_ok tab_ok (by kernel_rfl) (by kernel_rfl) (ln_pp0_3_eq B h) G
theorem ln_pp0_4_eq (B : Vb) (h : @okF B laF_pp_eq) : letI : Vl := @Vl.mk B laF_pp_eq h; smRun tab 12 1000 1000 9 .nil laS_pp0_4_eq = (laS_pp0_4_eq.x1 = laS_pp0_4_eq.x1 ∧ reflT laS_pp0_4_eq.t1) := by kernel_rfl
theorem sn_pp0_4_eq (B : Vb) (h : @okF B laF_pp_eq) (G : Gd) : @SmOk B G Tryz.prog 9 laS_pp0_4_eq := by
  letI : Vl := @Vl.mk B laF_pp_eq h
  exact sm_ok tab_ok (by kernel_rfl) (by kernel_rfl) (ln_pp0_4_eq B h) G
theorem ln_pp0_5_eq (B : Vb) (h : @okF B laF_pp_eq) : letI : Vl := @Vl.mk B laF_pp_eq h; smRun tab 12 1000 1000 9 .nil laS_pp0_5_eq = (laS_pp0_5_eq.x1 = laS_pp0_5_eq.x1 ∧ reflT laS_pp0_5_eq.t1) := by kernel_rfl
theorem sn_pp0_5_eq (B : Vb) (h : @okF B laF_pp_eq) (G : Gd) : @SmOk B G Tryz.prog 9 laS_pp0_5_eq := by
  letI : Vl := @Vl.mk B laF_pp_eq h
  exact sm_ok tab_ok (by kernel_rfl) (by kernel_rfl) (ln_pp0_5_eq B h) G
theorem ln_pp1_0_eq (B : Vb) (h : @okF B laF_pp_eq) : letI : Vl := @Vl.mk B laF_pp_eq h; smRun tab 13 1000 1000 9 .nil laS_pp1_0_eq = (laS_pp1_0_eq.x1 = laS_pp1_0_eq.x1 ∧ reflT laS_pp1_0_eq.t1) := by kernel_rfl
theorem sn_pp1_0_eq (B : Vb) (h : @okF B laF_pp_eq) (G : Gd) : @SmOk B G Tryz.prog 9 laS_pp1_0_eq := by
  letI : Vl := @Vl.mk B laF_pp_eq h
  exact sm_ok tab_ok (by kernel_rfl) (by kernel_rfl) (ln_pp1_0_eq B h) G
theorem ln_pp1_1_eq (B : Vb) (h : @okF B laF_pp_eq) : letI : Vl := @Vl.mk B laF_pp_eq h; smRun tab 13 1000 1000 9 .nil laS_pp1_1_eq = (laS_pp1_1_eq.x1 = laS_pp1_1_eq.x1 ∧ reflT laS_pp1_1_eq.t1) := by kernel_rfl
theorem sn_pp1_1_eq (B : Vb) (h : @okF B laF_pp_eq) (G : Gd) : @SmOk B G Tryz.prog 9 laS_pp1_1_eq := by
  letI : Vl := @Vl.mk B laF_pp_eq h
  exact sm_ok tab_ok (by kernel_rfl) (by kernel_rfl) (ln_pp1_1_eq B h) G
theorem ln_pp1_2_eq (B : Vb) (h : @okF B laF_pp_eq) : letI : Vl := @Vl.mk B laF_pp_eq h; smRun tab 12 1000 1000 9 .nil laS_pp1_2_eq = (laS_pp1_2_eq.x1 = laS_pp1_2_eq.x1 ∧ reflT laS_pp1_2_eq.t1) := by kernel_rfl
theorem sn_pp1_2_eq (B : Vb) (h : @okF B laF_pp_eq) (G : Gd) : @SmOk B G Tryz.prog 9 laS_pp1_2_eq := by
  letI : Vl := @Vl.mk B laF_pp_eq h
  exact sm_ok tab_ok (by kernel_rfl) (by kernel_rfl) (ln_pp1_2_eq B h) G
theorem ln_pp1_3_eq (B : Vb) (h : @okF B laF_pp_eq) : letI : Vl := @Vl.mk B laF_pp_eq h; smRun tab 13 1000 1000 9 .nil laS_pp1_3_eq = (laS_pp1_3_eq.x1 = laS_pp1_3_eq.x1 ∧ reflT laS_pp1_3_eq.t1) := by kernel_rfl
theorem sn_pp1_3_eq (B : Vb) (h : @okF B laF_pp_eq) (G : Gd) : @SmOk B G Tryz.prog 9 laS_pp1_3_eq := by
  letI : Vl := @Vl.mk B laF_pp_eq h
  exact sm_ok tab_ok (by kernel_rfl) (by kernel_rfl) (ln_pp1_3_eq B h) G
theorem ln_pp1_4_eq (B : Vb) (h : @okF B laF_pp_eq) : letI : Vl := @Vl.mk B laF_pp_eq h; smRun tab 12 1000 1000 9 .nil laS_pp1_4_eq = (laS_pp1_4_eq.x1 = laS_pp1_4_eq.x1 ∧ reflT laS_pp1_4_eq.t1) := by kernel_rfl
theorem sn_pp1_4_eq (B : Vb) (h : @okF B laF_pp_eq) (G : Gd) : @SmOk B G Tryz.prog 9 laS_pp1_4_eq := by
  letI : Vl := @Vl.mk B laF_pp_eq h
  exact sm_ok tab_ok (by kernel_rfl) (by kernel_rfl) (ln_pp1_4_eq B h) G
theorem ln_pp1_5_eq (B : Vb) (h : @okF B laF_pp_eq) : letI : Vl := @Vl.mk B laF_pp_eq h; smRun tab 13 1000 1000 9 .nil laS_pp1_5_eq = (laS_pp1_5_eq.x1 = laS_pp1_5_eq.x1 ∧ reflT laS_pp1_5_eq.t1) := by kernel_rfl
theorem sn_pp1_5_eq (B : Vb) (h : @okF B laF_pp_eq) (G : Gd) : @SmOk B G Tryz.prog 9 laS_pp1_5_eq := by
  letI : Vl := @Vl.mk B laF_pp_eq h
  exact sm_ok tab_ok (by kernel_rfl) (by kernel_rfl) (ln_pp1_5_eq B h) G
theorem ln_pp0_0_gt (B : Vb) (h : @okF B laF_pp_gt) : letI : Vl := @Vl.mk B laF_pp_gt h; smRun tab 12 1000 1000 9 .nil laS_pp0_0_gt = (laS_pp0_0_gt.x1 = laS_pp0_0_gt.x1 ∧ reflT laS_pp0_0_gt.t1) := by kernel_rfl
theorem sn_pp0_0_gt (B : Vb) (h : @okF B laF_pp_gt) (G : Gd) : @SmOk B G Tryz.prog 9 laS_pp0_0_gt := by
  letI : Vl := @Vl.mk B laF_pp_gt h
  exact sm_ok tab_ok (by kernel_rfl) (by kernel_rfl) (ln_pp0_0_gt B h) G
theorem ln_pp0_1_gt (B : Vb) (h : @okF B laF_pp_gt) : letI : Vl := @Vl.mk B laF_pp_gt h; smRun tab 12 1000 1000 9 .nil laS_pp0_1_gt = (laS_pp0_1_gt.x1 = laS_pp0_1_gt.x1 ∧ reflT laS_pp0_1_gt.t1) := by kernel_rfl
theorem sn_pp0_1_gt (B : Vb) (h : @okF B laF_pp_gt) (G : Gd) : @SmOk B G Tryz.prog 9 laS_pp0_1_gt := by
  letI : Vl := @Vl.mk B laF_pp_gt h
  exact sm_ok tab_ok (by kernel_rfl) (by kernel_rfl) (ln_pp0_1_gt B h) G
theorem ln_pp0_2_gt (B : Vb) (h : @okF B laF_pp_gt) : letI : Vl := @Vl.mk B laF_pp_gt h; smRun tab 12 1000 1000 9 .nil laS_pp0_2_gt = (laS_pp0_2_gt.x1 = laS_pp0_2_gt.x1 ∧ reflT laS_pp0_2_gt.t1) := by kernel_rfl
theorem sn_pp0_2_gt (B : Vb) (h : @okF B laF_pp_gt) (G : Gd) : @SmOk B G Tryz.prog 9 laS_pp0_2_gt := by
  letI : Vl := @Vl.mk B laF_pp_gt h
  exact sm_ok tab_ok (by kernel_rfl) (by kernel_rfl) (ln_pp0_2_gt B h) G
theorem ln_pp0_3_gt (B : Vb) (h : @okF B laF_pp_gt) : letI : Vl := @Vl.mk B laF_pp_gt h; smRun tab 12 1000 1000 9 .nil laS_pp0_3_gt = (laS_pp0_3_gt.x1 = laS_pp0_3_gt.x1 ∧ reflT laS_pp0_3_gt.t1) := by kernel_rfl
theorem sn_pp0_3_gt (B : Vb) (h : @okF B laF_pp_gt) (G : Gd) : @SmOk B G Tryz.prog 9 laS_pp0_3_gt := by
  letI : Vl := @Vl.mk B laF_pp_gt h
  exact sm_ok tab_ok (by kernel_rfl) (by kernel_rfl) (ln_pp0_3_gt B h) G
theorem ln_pp0_4_gt (B : Vb) (h : @okF B laF_pp_gt) : letI : Vl := @Vl.mk B laF_pp_gt h; smRun tab 12 1000 1000 9 .nil laS_pp0_4_gt = (laS_pp0_4_gt.x1 = laS_pp0_4_gt.x1 ∧ reflT laS_pp0_4_gt.t1) := by kernel_rfl
theorem sn_pp0_4_gt (B : Vb) (h : @okF B laF_pp_gt) (G : Gd) : @SmOk B G Tryz.prog 9 laS_pp0_4_gt := by
  letI : Vl := @Vl.mk B laF_pp_gt h
  exact sm_ok tab_ok (by kernel_rfl) (by kernel_rfl) (ln_pp0_4_gt B h) G
theorem ln_pp0_5_gt (B : Vb) (h : @okF B laF_pp_gt) : letI : Vl := @Vl.mk B laF_pp_gt h; smRun tab 12 1000 1000 9 .nil laS_pp0_5_gt = (laS_pp0_5_gt.x1 = laS_pp0_5_gt.x1 ∧ reflT laS_pp0_5_gt.t1) := by kernel_rfl
theorem sn_pp0_5_gt (B : Vb) (h : @okF B laF_pp_gt) (G : Gd) : @SmOk B G Tryz.prog 9 laS_pp0_5_gt := by
  letI : Vl := @Vl.mk B laF_pp_gt h
  exact sm_ok tab_ok (by kernel_rfl) (by kernel_rfl) (ln_pp0_5_gt B h) G
theorem ln_pp1_0_gt (B : Vb) (h : @okF B laF_pp_gt) : letI : Vl := @Vl.mk B laF_pp_gt h; smRun tab 13 1000 1000 9 .nil laS_pp1_0_gt = (laS_pp1_0_gt.x1 = laS_pp1_0_gt.x1 ∧ reflT laS_pp1_0_gt.t1) := by kernel_rfl
theorem sn_pp1_0_gt (B : Vb) (h : @okF B laF_pp_gt) (G : Gd) : @SmOk B G Tryz.prog 9 laS_pp1_0_gt := by
  letI : Vl := @Vl.mk B laF_pp_gt h
  exact sm_ok tab_ok (by kernel_rfl) (by kernel_rfl) (ln_pp1_0_gt B h) G
theorem ln_pp1_1_gt (B : Vb) (h : @okF B laF_pp_gt) : letI : Vl := @Vl.mk B laF_pp_gt h; smRun tab 13 1000 1000 9 .nil laS_pp1_1_gt = (laS_pp1_1_gt.x1 = laS_pp1_1_gt.x1 ∧ reflT laS_pp1_1_gt.t1) := by kernel_rfl
theorem sn_pp1_1_gt (B : Vb) (h : @okF B laF_pp_gt) (G : Gd) : @SmOk B G Tryz.prog 9 laS_pp1_1_gt := by
  letI : Vl := @Vl.mk B laF_pp_gt h
  exact sm_ok tab_ok (by kernel_rfl) (by kernel_rfl) (ln_pp1_1_gt B h) G
theorem ln_pp1_2_gt (B : Vb) (h : @okF B laF_pp_gt) : letI : Vl := @Vl.mk B laF_pp_gt h; smRun tab 12 1000 1000 9 .nil laS_pp1_2_gt = (laS_pp1_2_gt.x1 = laS_pp1_2_gt.x1 ∧ reflT laS_pp1_2_gt.t1) := by kernel_rfl
theorem sn_pp1_2_gt (B : Vb) (h : @okF B laF_pp_gt) (G : Gd) : @SmOk B G Tryz.prog 9 laS_pp1_2_gt := by
  letI : Vl := @Vl.mk B laF_pp_gt h
  exact sm_ok tab_ok (by kernel_rfl) (by kernel_rfl) (ln_pp1_2_gt B h) G
theorem ln_pp1_3_gt (B : Vb) (h : @okF B laF_pp_gt) : letI : Vl := @Vl.mk B laF_pp_gt h; smRun tab 12 1000 1000 9 .nil laS_pp1_3_gt = (laS_pp1_3_gt.x1 = laS_pp1_3_gt.x1 ∧ reflT laS_pp1_3_gt.t1) := by kernel_rfl
theorem sn_pp1_3_gt (B : Vb) (h : @okF B laF_pp_gt) (G : Gd) : @SmOk B G Tryz.prog 9 laS_pp1_3_gt := by
  letI : Vl := @Vl.mk B laF_pp_gt h
  exact sm_ok tab_ok (by kernel_rfl) (by kernel_rfl) (ln_pp1_3_gt B h) G
theorem ln_pp1_4_gt (B : Vb) (h : @okF B laF_pp_gt) : letI : Vl := @Vl.mk B laF_pp_gt h; smRun tab 13 1000 1000 9 .nil laS_pp1_4_gt = (laS_pp1_4_gt.x1 = laS_pp1_4_gt.x1 ∧ reflT laS_pp1_4_gt.t1) := by kernel_rfl
theorem sn_pp1_4_gt (B : Vb) (h : @okF B laF_pp_gt) (G : Gd) : @SmOk B G Tryz.prog 9 laS_pp1_4_gt := by
  letI : Vl := @Vl.mk B laF_pp_gt h
  exact sm_ok tab_ok (by kernel_rfl) (by kernel_rfl) (ln_pp1_4_gt B h) G
theorem ln_pp1_5_gt (B : Vb) (h : @okF B laF_pp_gt) : letI : Vl := @Vl.mk B laF_pp_gt h; smRun tab 13 1000 1000 9 .nil laS_pp1_5_gt = (laS_pp1_5_gt.x1 = laS_pp1_5_gt.x1 ∧ reflT laS_pp1_5_gt.t1) := by kernel_rfl
theorem sn_pp1_5_gt (B : Vb) (h : @okF B laF_pp_gt) (G : Gd) : @SmOk B G Tryz.prog 9 laS_pp1_5_gt := by
  letI : Vl := @Vl.mk B laF_pp_gt h
  exact sm_ok tab_ok (by kernel_rfl) (by kernel_rfl) (ln_pp1_5_gt B h) G
end Go.Proofs.YtofcohgonchgfaaGreat
