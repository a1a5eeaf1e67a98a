/- CompRounds: the whole, reckoned with its steps told. -/
import Derived.Test.YtojhofdndohhdaaGreatCb0
import Derived.Test.YtojhofdndohhdaaGreatCb1
import Derived.Test.YtojhofdndohhdaaGreatCb2
import Derived.Test.YtojhofdndohhdaaGreatCb3
import Derived.KernelRfl
set_option linter.unusedVariables false
set_option linter.unusedSectionVars false
set_option maxRecDepth 100000
namespace Go.Proofs.YtojhofdndohhdaaGreat
open Go Go.Sh Go.Va
theorem rw0_23 (B : Vb) (h : @okF B F0) : letI : Vl := @Vl.mk B F0 h; smRun (ta [S0_23_0, S0_23_1]) 13 1000 1000 23 (.u 0 (.u 1 .nil)) W0_23 = (W0_23.x1 = W0_23.x1 ∧ reflT W0_23.t1) := by kernel_rfl
theorem ow0_23 (B : Vb) (h : @okF B F0) (G : Gd) (hg : ¬ G.g) : @SmOk B G Tryz.prog 23 W0_23 := by
  letI : Vl := @Vl.mk B F0 h
  refine sm_ok (ta_ok _ fun S hS => ?_) (by kernel_rfl) (by kernel_rfl) (rw0_23 B h) G hg
  simp only [List.mem_cons, List.not_mem_nil, or_false] at hS
  rcases hS with rfl | rfl
  · exact o0_23_0 B h
  · exact o0_23_1 B h
theorem rw0_9 (B : Vb) (h : @okF B F0) : letI : Vl := @Vl.mk B F0 h; smRun (tr [S0_9_0, S0_9_1]) 13 1000 1000 9 (.u 0 (.u 1 .nil)) W0_9 = (W0_9.x1 = W0_9.x1 ∧ reflT W0_9.t1) := by kernel_rfl
theorem ow0_9 (B : Vb) (h : @okF B F0) (G : Gd) (hg : ¬ G.g) : @SmOk B G Tryz.prog 9 W0_9 := by
  letI : Vl := @Vl.mk B F0 h
  refine sm_ok (tr_ok _ fun S hS => ?_) (by kernel_rfl) (by kernel_rfl) (rw0_9 B h) G hg
  simp only [List.mem_cons, List.not_mem_nil, or_false] at hS
  rcases hS with rfl | rfl
  · exact o0_9_0 B h
  · exact o0_9_1 B h
theorem rw1_23 (B : Vb) (h : @okF B F1) : letI : Vl := @Vl.mk B F1 h; smRun (ta [S1_23_0, S1_23_1, S1_23_2, S1_23_3, S1_23_4, S1_23_5]) 13 1000 1000 23 (.u 0 (.u 1 (.u 2 (.u 3 (.u 4 (.u 5 .nil)))))) W1_23 = (W1_23.x1 = W1_23.x1 ∧ reflT W1_23.t1) := by kernel_rfl
theorem ow1_23 (B : Vb) (h : @okF B F1) (G : Gd) (hg : ¬ G.g) : @SmOk B G Tryz.prog 23 W1_23 := by
  letI : Vl := @Vl.mk B F1 h
  refine sm_ok (ta_ok _ fun S hS => ?_) (by kernel_rfl) (by kernel_rfl) (rw1_23 B h) G hg
  simp only [List.mem_cons, List.not_mem_nil, or_false] at hS
  rcases hS with rfl | rfl | rfl | rfl | rfl | rfl
  · exact o1_23_0 B h
  · exact o1_23_1 B h
  · exact o1_23_2 B h
  · exact o1_23_3 B h
  · exact o1_23_4 B h
  · exact o1_23_5 B h
theorem rw1_9 (B : Vb) (h : @okF B F1) : letI : Vl := @Vl.mk B F1 h; smRun (tr [S1_9_0, S1_9_1, S1_9_2, S1_9_3, S1_9_4, S1_9_5]) 13 1000 1000 9 (.u 0 (.u 1 (.u 2 (.u 3 (.u 4 (.u 5 .nil)))))) W1_9 = (W1_9.x1 = W1_9.x1 ∧ reflT W1_9.t1) := by kernel_rfl
theorem ow1_9 (B : Vb) (h : @okF B F1) (G : Gd) (hg : ¬ G.g) : @SmOk B G Tryz.prog 9 W1_9 := by
  letI : Vl := @Vl.mk B F1 h
  refine sm_ok (tr_ok _ fun S hS => ?_) (by kernel_rfl) (by kernel_rfl) (rw1_9 B h) G hg
  simp only [List.mem_cons, List.not_mem_nil, or_false] at hS
  rcases hS with rfl | rfl | rfl | rfl | rfl | rfl
  · exact o1_9_0 B h
  · exact o1_9_1 B h
  · exact o1_9_2 B h
  · exact o1_9_3 B h
  · exact o1_9_4 B h
  · exact o1_9_5 B h
theorem rw2_23 (B : Vb) (h : @okF B F2) : letI : Vl := @Vl.mk B F2 h; smRun (ta [S2_23_0, S2_23_1]) 13 1000 1000 23 (.u 0 (.u 1 .nil)) W2_23 = (W2_23.x1 = W2_23.x1 ∧ reflT W2_23.t1) := by kernel_rfl
theorem ow2_23 (B : Vb) (h : @okF B F2) (G : Gd) (hg : ¬ G.g) : @SmOk B G Tryz.prog 23 W2_23 := by
  letI : Vl := @Vl.mk B F2 h
  refine sm_ok (ta_ok _ fun S hS => ?_) (by kernel_rfl) (by kernel_rfl) (rw2_23 B h) G hg
  simp only [List.mem_cons, List.not_mem_nil, or_false] at hS
  rcases hS with rfl | rfl
  · exact o2_23_0 B h
  · exact o2_23_1 B h
theorem rw2_9 (B : Vb) (h : @okF B F2) : letI : Vl := @Vl.mk B F2 h; smRun (tr [S2_9_0, S2_9_1]) 13 1000 1000 9 (.u 0 (.u 1 .nil)) W2_9 = (W2_9.x1 = W2_9.x1 ∧ reflT W2_9.t1) := by kernel_rfl
theorem ow2_9 (B : Vb) (h : @okF B F2) (G : Gd) (hg : ¬ G.g) : @SmOk B G Tryz.prog 9 W2_9 := by
  letI : Vl := @Vl.mk B F2 h
  refine sm_ok (tr_ok _ fun S hS => ?_) (by kernel_rfl) (by kernel_rfl) (rw2_9 B h) G hg
  simp only [List.mem_cons, List.not_mem_nil, or_false] at hS
  rcases hS with rfl | rfl
  · exact o2_9_0 B h
  · exact o2_9_1 B h
theorem rw3_23 (B : Vb) (h : @okF B F3) : letI : Vl := @Vl.mk B F3 h; smRun (ta [S3_23_0, S3_23_1, S3_23_2, S3_23_3, S3_23_4, S3_23_5]) 13 1000 1000 23 (.u 0 (.u 1 (.u 2 (.u 3 (.u 4 (.u 5 .nil)))))) W3_23 = (W3_23.x1 = W3_23.x1 ∧ reflT W3_23.t1) := by kernel_rfl
theorem ow3_23 (B : Vb) (h : @okF B F3) (G : Gd) (hg : ¬ G.g) : @SmOk B G Tryz.prog 23 W3_23 := by
  letI : Vl := @Vl.mk B F3 h
  refine sm_ok (ta_ok _ fun S hS => ?_) (by kernel_rfl) (by kernel_rfl) (rw3_23 B h) G hg
  simp only [List.mem_cons, List.not_mem_nil, or_false] at hS
  rcases hS with rfl | rfl | rfl | rfl | rfl | rfl
  · exact o3_23_0 B h
  · exact o3_23_1 B h
  · exact o3_23_2 B h
  · exact o3_23_3 B h
  · exact o3_23_4 B h
  · exact o3_23_5 B h
theorem rw3_9 (B : Vb) (h : @okF B F3) : letI : Vl := @Vl.mk B F3 h; smRun (tr [S3_9_0, S3_9_1, S3_9_2, S3_9_3, S3_9_4, S3_9_5]) 13 1000 1000 9 (.u 0 (.u 1 (.u 2 (.u 3 (.u 4 (.u 5 .nil)))))) W3_9 = (W3_9.x1 = W3_9.x1 ∧ reflT W3_9.t1) := by kernel_rfl
theorem ow3_9 (B : Vb) (h : @okF B F3) (G : Gd) (hg : ¬ G.g) : @SmOk B G Tryz.prog 9 W3_9 := by
  letI : Vl := @Vl.mk B F3 h
  refine sm_ok (tr_ok _ fun S hS => ?_) (by kernel_rfl) (by kernel_rfl) (rw3_9 B h) G hg
  simp only [List.mem_cons, List.not_mem_nil, or_false] at hS
  rcases hS with rfl | rfl | rfl | rfl | rfl | rfl
  · exact o3_9_0 B h
  · exact o3_9_1 B h
  · exact o3_9_2 B h
  · exact o3_9_3 B h
  · exact o3_9_4 B h
  · exact o3_9_5 B h
end Go.Proofs.YtojhofdndohhdaaGreat
