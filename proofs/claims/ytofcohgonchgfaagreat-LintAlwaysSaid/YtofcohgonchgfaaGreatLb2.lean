/- LintAlways: Notes, reckoned. -/
import Derived.Test.YtofcohgonchgfaaGreatLa
import Derived.Test.YtofcohgonchgfaaGreatVsc
import Derived.KernelRfl
set_option linter.unusedVariables false
set_option linter.unusedSectionVars false
set_option maxRecDepth 100000
namespace Go.Proofs.YtofcohgonchgfaaGreat
open Go Go.Sh Go.Va
theorem ln_pn0_0_gt (B : Vb) (h : @okF B laF_pn_gt) : letI : Vl := @Vl.mk B laF_pn_gt h; smRun tab 12 1000 1000 9 .nil laS_pn0_0_gt = (laS_pn0_0_gt.x1 = laS_pn0_0_gt.x1 ∧ reflT laS_pn0_0_gt.t1) := by kernel_rfl
theorem sn_pn0_0_gt (B : Vb) (h : @okF B laF_pn_gt) (G : Gd) : @SmOk B G Tryz.prog 9 laS_pn0_0_gt := by
  letI : Vl := @Vl.mk B laF_pn_gt h
  exact sm_ok tab_ok (by kernel_rfl) (by kernel_rfl) (ln_pn0_0_gt B h) G
theorem ln_pn0_1_gt (B : Vb) (h : @okF B laF_pn_gt) : letI : Vl := @Vl.mk B laF_pn_gt h; smRun tab 13 1000 1000 9 .nil laS_pn0_1_gt = (laS_pn0_1_gt.x1 = laS_pn0_1_gt.x1 ∧ reflT laS_pn0_1_gt.t1) := by kernel_rfl
theorem sn_pn0_1_gt (B : Vb) (h : @okF B laF_pn_gt) (G : Gd) : @SmOk B G Tryz.prog 9 laS_pn0_1_gt := by
  letI : Vl := @Vl.mk B laF_pn_gt h
  exact sm_ok tab_ok (by kernel_rfl) (by kernel_rfl) (ln_pn0_1_gt B h) G
theorem ln_pn0_2_gt (B : Vb) (h : @okF B laF_pn_gt) : letI : Vl := @Vl.mk B laF_pn_gt h; smRun tab 12 1000 1000 9 .nil laS_pn0_2_gt = (laS_pn0_2_gt.x1 = laS_pn0_2_gt.x1 ∧ reflT laS_pn0_2_gt.t1) := by kernel_rfl
theorem sn_pn0_2_gt (B : Vb) (h : @okF B laF_pn_gt) (G : Gd) : @SmOk B G Tryz.prog 9 laS_pn0_2_gt := by
  letI : Vl := @Vl.mk B laF_pn_gt h
  exact sm_ok tab_ok (by kernel_rfl) (by kernel_rfl) (ln_pn0_2_gt B h) G
theorem ln_pn0_3_gt (B : Vb) (h : @okF B laF_pn_gt) : letI : Vl := @Vl.mk B laF_pn_gt h; smRun tab 12 1000 1000 9 .nil laS_pn0_3_gt = (laS_pn0_3_gt.x1 = laS_pn0_3_gt.x1 ∧ reflT laS_pn0_3_gt.t1) := by kernel_rfl
theorem sn_pn0_3_gt (B : Vb) (h : @okF B laF_pn_gt) (G : Gd) : @SmOk B G Tryz.prog 9 laS_pn0_3_gt := by
  letI : Vl := @Vl.mk B laF_pn_gt h
  exact sm_ok tab_ok (by kernel_rfl) (by kernel_rfl) (ln_pn0_3_gt B h) G
theorem ln_pn0_4_gt (B : Vb) (h : @okF B laF_pn_gt) : letI : Vl := @Vl.mk B laF_pn_gt h; smRun tab 12 1000 1000 9 .nil laS_pn0_4_gt = (laS_pn0_4_gt.x1 = laS_pn0_4_gt.x1 ∧ reflT laS_pn0_4_gt.t1) := by kernel_rfl
theorem sn_pn0_4_gt (B : Vb) (h : @okF B laF_pn_gt) (G : Gd) : @SmOk B G Tryz.prog 9 laS_pn0_4_gt := by
  letI : Vl := @Vl.mk B laF_pn_gt h
  exact sm_ok tab_ok (by kernel_rfl) (by kernel_rfl) (ln_pn0_4_gt B h) G
theorem ln_pn0_5_gt (B : Vb) (h : @okF B laF_pn_gt) : letI : Vl := @Vl.mk B laF_pn_gt h; smRun tab 12 1000 1000 9 .nil laS_pn0_5_gt = (laS_pn0_5_gt.x1 = laS_pn0_5_gt.x1 ∧ reflT laS_pn0_5_gt.t1) := by kernel_rfl
theorem sn_pn0_5_gt (B : Vb) (h : @okF B laF_pn_gt) (G : Gd) : @SmOk B G Tryz.prog 9 laS_pn0_5_gt := by
  letI : Vl := @Vl.mk B laF_pn_gt h
  exact sm_ok tab_ok (by kernel_rfl) (by kernel_rfl) (ln_pn0_5_gt B h) G
theorem ln_pn1_0_gt (B : Vb) (h : @okF B laF_pn_gt) : letI : Vl := @Vl.mk B laF_pn_gt h; smRun tab 13 1000 1000 9 .nil laS_pn1_0_gt = (laS_pn1_0_gt.x1 = laS_pn1_0_gt.x1 ∧ reflT laS_pn1_0_gt.t1) := by kernel_rfl
theorem sn_pn1_0_gt (B : Vb) (h : @okF B laF_pn_gt) (G : Gd) : @SmOk B G Tryz.prog 9 laS_pn1_0_gt := by
  letI : Vl := @Vl.mk B laF_pn_gt h
  exact sm_ok tab_ok (by kernel_rfl) (by kernel_rfl) (ln_pn1_0_gt B h) G
theorem ln_pn1_1_gt (B : Vb) (h : @okF B laF_pn_gt) : letI : Vl := @Vl.mk B laF_pn_gt h; smRun tab 13 1000 1000 9 .nil laS_pn1_1_gt = (laS_pn1_1_gt.x1 = laS_pn1_1_gt.x1 ∧ reflT laS_pn1_1_gt.t1) := by kernel_rfl
theorem sn_pn1_1_gt (B : Vb) (h : @okF B laF_pn_gt) (G : Gd) : @SmOk B G Tryz.prog 9 laS_pn1_1_gt := by
  letI : Vl := @Vl.mk B laF_pn_gt h
  exact sm_ok tab_ok (by kernel_rfl) (by kernel_rfl) (ln_pn1_1_gt B h) G
theorem ln_pn1_2_gt (B : Vb) (h : @okF B laF_pn_gt) : letI : Vl := @Vl.mk B laF_pn_gt h; smRun tab 13 1000 1000 9 .nil laS_pn1_2_gt = (laS_pn1_2_gt.x1 = laS_pn1_2_gt.x1 ∧ reflT laS_pn1_2_gt.t1) := by kernel_rfl
theorem sn_pn1_2_gt (B : Vb) (h : @okF B laF_pn_gt) (G : Gd) : @SmOk B G Tryz.prog 9 laS_pn1_2_gt := by
  letI : Vl := @Vl.mk B laF_pn_gt h
  exact sm_ok tab_ok (by kernel_rfl) (by kernel_rfl) (ln_pn1_2_gt B h) G
theorem ln_pn1_3_gt (B : Vb) (h : @okF B laF_pn_gt) : letI : Vl := @Vl.mk B laF_pn_gt h; smRun tab 13 1000 1000 9 .nil laS_pn1_3_gt = (laS_pn1_3_gt.x1 = laS_pn1_3_gt.x1 ∧ reflT laS_pn1_3_gt.t1) := by kernel_rfl
theorem sn_pn1_3_gt (B : Vb) (h : @okF B laF_pn_gt) (G : Gd) : @SmOk B G Tryz.prog 9 laS_pn1_3_gt := by
  letI : Vl := @Vl.mk B laF_pn_gt h
  exact sm_ok tab_ok (by kernel_rfl) (by kernel_rfl) (ln_pn1_3_gt B h) G
theorem ln_pn1_4_gt (B : Vb) (h : @okF B laF_pn_gt) : letI : Vl := @Vl.mk B laF_pn_gt h; smRun tab 13 1000 1000 9 .nil laS_pn1_4_gt = (laS_pn1_4_gt.x1 = laS_pn1_4_gt.x1 ∧ reflT laS_pn1_4_gt.t1) := by kernel_rfl
theorem sn_pn1_4_gt (B : Vb) (h : @okF B laF_pn_gt) (G : Gd) : @SmOk B G Tryz.prog 9 laS_pn1_4_gt := by
  letI : Vl := @Vl.mk B laF_pn_gt h
  exact sm_ok tab_ok (by kernel_rfl) (by kernel_rfl) (ln_pn1_4_gt B h) G
theorem ln_pn1_5_gt (B : Vb) (h : @okF B laF_pn_gt) : letI : Vl := @Vl.mk B laF_pn_gt h; smRun tab 13 1000 1000 9 .nil laS_pn1_5_gt = (laS_pn1_5_gt.x1 = laS_pn1_5_gt.x1 ∧ reflT laS_pn1_5_gt.t1) := by kernel_rfl
theorem sn_pn1_5_gt (B : Vb) (h : @okF B laF_pn_gt) (G : Gd) : @SmOk B G Tryz.prog 9 laS_pn1_5_gt := by
  letI : Vl := @Vl.mk B laF_pn_gt h
  exact sm_ok tab_ok (by kernel_rfl) (by kernel_rfl) (ln_pn1_5_gt B h) G
theorem ln_np0_0_lt (B : Vb) (h : @okF B laF_np_lt) : letI : Vl := @Vl.mk B laF_np_lt h; smRun tab 12 1000 1000 9 .nil laS_np0_0_lt = (laS_np0_0_lt.x1 = laS_np0_0_lt.x1 ∧ reflT laS_np0_0_lt.t1) := by kernel_rfl
theorem sn_np0_0_lt (B : Vb) (h : @okF B laF_np_lt) (G : Gd) : @SmOk B G Tryz.prog 9 laS_np0_0_lt := by
  letI : Vl := @Vl.mk B laF_np_lt h
  exact sm_ok tab_ok (by kernel_rfl) (by kernel_rfl) (ln_np0_0_lt B h) G
theorem ln_np0_1_lt (B : Vb) (h : @okF B laF_np_lt) : letI : Vl := @Vl.mk B laF_np_lt h; smRun tab 13 1000 1000 9 .nil laS_np0_1_lt = (laS_np0_1_lt.x1 = laS_np0_1_lt.x1 ∧ reflT laS_np0_1_lt.t1) := by kernel_rfl
theorem sn_np0_1_lt (B : Vb) (h : @okF B laF_np_lt) (G : Gd) : @SmOk B G Tryz.prog 9 laS_np0_1_lt := by
  letI : Vl := @Vl.mk B laF_np_lt h
  exact sm_ok tab_ok (by kernel_rfl) (by kernel_rfl) (ln_np0_1_lt B h) G
theorem ln_np0_2_lt (B : Vb) (h : @okF B laF_np_lt) : letI : Vl := @Vl.mk B laF_np_lt h; smRun tab 13 1000 1000 9 .nil laS_np0_2_lt = (laS_np0_2_lt.x1 = laS_np0_2_lt.x1 ∧ reflT laS_np0_2_lt.t1) := by kernel_rfl
theorem sn_np0_2_lt (B : Vb) (h : @okF B laF_np_lt) (G : Gd) : @SmOk B G Tryz.prog 9 laS_np0_2_lt := by
  letI : Vl := @Vl.mk B laF_np_lt h
  exact sm_ok tab_ok (by kernel_rfl) (by kernel_rfl) (ln_np0_2_lt B h) G
theorem ln_np0_3_lt (B : Vb) (h : @okF B laF_np_lt) : letI : Vl := @Vl.mk B laF_np_lt h; smRun tab 13 1000 1000 9 .nil laS_np0_3_lt = (laS_np0_3_lt.x1 = laS_np0_3_lt.x1 ∧ reflT laS_np0_3_lt.t1) := by kernel_rfl
theorem sn_np0_3_lt (B : Vb) (h : @okF B laF_np_lt) (G : Gd) : @SmOk B G Tryz.prog 9 laS_np0_3_lt := by
  letI : Vl := @Vl.mk B laF_np_lt h
  exact sm_ok tab_ok (by kernel_rfl) (by kernel_rfl) (ln_np0_3_lt B h) G
theorem ln_np0_4_lt (B : Vb) (h : @okF B laF_np_lt) : letI : Vl := @Vl.mk B laF_np_lt h; smRun tab 12 1000 1000 9 .nil laS_np0_4_lt = (laS_np0_4_lt.x1 = laS_np0_4_lt.x1 ∧ reflT laS_np0_4_lt.t1) := by kernel_rfl
theorem sn_np0_4_lt (B : Vb) (h : @okF B laF_np_lt) (G : Gd) : @SmOk B G Tryz.prog 9 laS_np0_4_lt := by
  letI : Vl := @Vl.mk B laF_np_lt h
  exact sm_ok tab_ok (by kernel_rfl) (by kernel_rfl) (ln_np0_4_lt B h) G
theorem ln_np0_5_lt (B : Vb) (h : @okF B laF_np_lt) : letI : Vl := @Vl.mk B laF_np_lt h; smRun tab 12 1000 1000 9 .nil laS_np0_5_lt = (laS_np0_5_lt.x1 = laS_np0_5_lt.x1 ∧ reflT laS_np0_5_lt.t1) := by kernel_rfl
theorem sn_np0_5_lt (B : Vb) (h : @okF B laF_np_lt) (G : Gd) : @SmOk B G Tryz.prog 9 laS_np0_5_lt := by
  letI : Vl := @Vl.mk B laF_np_lt h
  exact sm_ok tab_ok (by kernel_rfl) (by kernel_rfl) (ln_np0_5_lt B h) G
theorem ln_np1_0_lt (B : Vb) (h : @okF B laF_np_lt) : letI : Vl := @Vl.mk B laF_np_lt h; smRun tab 13 1000 1000 9 .nil laS_np1_0_lt = (laS_np1_0_lt.x1 = laS_np1_0_lt.x1 ∧ reflT laS_np1_0_lt.t1) := by kernel_rfl
theorem sn_np1_0_lt (B : Vb) (h : @okF B laF_np_lt) (G : Gd) : @SmOk B G Tryz.prog 9 laS_np1_0_lt := by
  letI : Vl := @Vl.mk B laF_np_lt h
  exact sm_ok tab_ok (by kernel_rfl) (by kernel_rfl) (ln_np1_0_lt B h) G
theorem ln_np1_1_lt (B : Vb) (h : @okF B laF_np_lt) : letI : Vl := @Vl.mk B laF_np_lt h; smRun tab 13 1000 1000 9 .nil laS_np1_1_lt = (laS_np1_1_lt.x1 = laS_np1_1_lt.x1 ∧ reflT laS_np1_1_lt.t1) := by kernel_rfl
theorem sn_np1_1_lt (B : Vb) (h : @okF B laF_np_lt) (G : Gd) : @SmOk B G Tryz.prog 9 laS_np1_1_lt := by
  letI : Vl := @Vl.mk B laF_np_lt h
  exact sm_ok tab_ok (by kernel_rfl) (by kernel_rfl) (ln_np1_1_lt B h) G
theorem ln_np1_2_lt (B : Vb) (h : @okF B laF_np_lt) : letI : Vl := @Vl.mk B laF_np_lt h; smRun tab 13 1000 1000 9 .nil laS_np1_2_lt = (laS_np1_2_lt.x1 = laS_np1_2_lt.x1 ∧ reflT laS_np1_2_lt.t1) := by kernel_rfl
theorem sn_np1_2_lt (B : Vb) (h : @okF B laF_np_lt) (G : Gd) : @SmOk B G Tryz.prog 9 laS_np1_2_lt := by
  letI : Vl := @Vl.mk B laF_np_lt h
  exact sm_ok tab_ok (by kernel_rfl) (by kernel_rfl) (ln_np1_2_lt B h) G
theorem ln_np1_3_lt (B : Vb) (h : @okF B laF_np_lt) : letI : Vl := @Vl.mk B laF_np_lt h; smRun tab 13 1000 1000 9 .nil laS_np1_3_lt = (laS_np1_3_lt.x1 = laS_np1_3_lt.x1 ∧ reflT laS_np1_3_lt.t1) := by kernel_rfl
theorem sn_np1_3_lt (B : Vb) (h : @okF B laF_np_lt) (G : Gd) : @SmOk B G Tryz.prog 9 laS_np1_3_lt := by
  letI : Vl := @Vl.mk B laF_np_lt h
  exact sm_ok tab_ok (by kernel_rfl) (by kernel_rfl) (ln_np1_3_lt B h) G
theorem ln_np1_4_lt (B : Vb) (h : @okF B laF_np_lt) : letI : Vl := @Vl.mk B laF_np_lt h; smRun tab 12 1000 1000 9 .nil laS_np1_4_lt = (laS_np1_4_lt.x1 = laS_np1_4_lt.x1 ∧ reflT laS_np1_4_lt.t1) := by kernel_rfl
theorem sn_np1_4_lt (B : Vb) (h : @okF B laF_np_lt) (G : Gd) : @SmOk B G Tryz.prog 9 laS_np1_4_lt := by
  letI : Vl := @Vl.mk B laF_np_lt h
  exact sm_ok tab_ok (by kernel_rfl) (by kernel_rfl) (ln_np1_4_lt B h) G
theorem ln_np1_5_lt (B : Vb) (h : @okF B laF_np_lt) : letI : Vl := @Vl.mk B laF_np_lt h; smRun tab 12 1000 1000 9 .nil laS_np1_5_lt = (laS_np1_5_lt.x1 = laS_np1_5_lt.x1 ∧ reflT laS_np1_5_lt.t1) := by kernel_rfl
theorem sn_np1_5_lt (B : Vb) (h : @okF B laF_np_lt) (G : Gd) : @SmOk B G Tryz.prog 9 laS_np1_5_lt := by
  letI : Vl := @Vl.mk B laF_np_lt h
  exact sm_ok tab_ok (by kernel_rfl) (by kernel_rfl) (ln_np1_5_lt B h) G
end Go.Proofs.YtofcohgonchgfaaGreat
