/- FixNested: what Solve comes to. -/
import Derived.Test.YtaaedipojhnjjaaGreatNa
import Derived.Test.YtaaedipojhnjjaaGreatVsl
import Derived.KernelRfl
set_option linter.unusedVariables false
set_option linter.unusedSectionVars false
set_option maxRecDepth 100000
noncomputable section
namespace Go.Proofs.YtaaedipojhnjjaaGreat
open Go Go.Sh Go.Va
def nv1s : Sm := ⟨n9l, n9_1 (.sy .i64 (.v 0) 0 4294967295), 11, (.agg [.sl 59 0 0 6 (.lit 6), .nsl, .nsl, .bool true, .bool true, .sy .i64 (.v 0) 0 4294967295, .sy .i64 (.add (.sub (.v 0) (.c 1)) (.c 1)) 0 4294967295, .nsl, .int .i64 10]), [], 8006⟩
def nv2s : Sm := ⟨n9l, n9_2 (.sy .i64 (.v 0) 0 4294967295), 19, (.agg [.sl 91 0 0 9 (.lit 9), .nsl, .nsl, .bool true, .bool true, .sy .i64 (.v 0) 0 4294967295, .int .i64 9223372036854775807, .nsl, .int .i64 23]), [], 18737⟩
def nv3s : Sm := ⟨n9l, n9_3 (.sy .i64 (.v 0) 0 4294967295), 27, (.agg [.sl 123 0 0 12 (.lit 12), .nsl, .nsl, .bool true, .bool true, .sy .i64 (.v 0) 0 4294967295, .int .i64 9223372036854775807, .nsl, .int .i64 42]), [], 32928⟩
def nv4s : Sm := ⟨n9l, n9_4 (.sy .i64 (.v 0) 0 4294967295), 35, (.agg [.sl 155 0 0 15 (.lit 15), .nsl, .nsl, .bool true, .bool true, .sy .i64 (.v 0) 0 4294967295, .int .i64 9223372036854775807, .nsl, .int .i64 67]), [], 50663⟩
def nv5s : Sm := ⟨n9l, n9_5 (.sy .i64 (.v 0) 0 4294967295), 43, (.agg [.sl 187 0 0 18 (.lit 18), .nsl, .nsl, .bool true, .bool true, .sy .i64 (.v 0) 0 4294967295, .int .i64 9223372036854775807, .nsl, .int .i64 98]), [], 72026⟩
def nv12 : Sm := ⟨n9l, n9_1 (.int .i64 2), 11, (.agg [.sl 59 0 0 6 (.lit 6), .nsl, .nsl, .bool true, .bool true, .int .i64 2, .int .i64 2, .nsl, .int .i64 9]), [], 7652⟩
def nv22 : Sm := ⟨n9l, n9_2 (.int .i64 2), 19, (.agg [.sl 91 0 0 9 (.lit 9), .nsl, .nsl, .bool true, .bool true, .int .i64 2, .int .i64 9223372036854775807, .nsl, .int .i64 22]), [], 18369⟩
def nv32 : Sm := ⟨n9l, n9_3 (.int .i64 2), 27, (.agg [.sl 123 0 0 12 (.lit 12), .nsl, .nsl, .bool true, .bool true, .int .i64 2, .int .i64 9223372036854775807, .nsl, .int .i64 41]), [], 32546⟩
def nv42 : Sm := ⟨n9l, n9_4 (.int .i64 2), 35, (.agg [.sl 155 0 0 15 (.lit 15), .nsl, .nsl, .bool true, .bool true, .int .i64 2, .int .i64 9223372036854775807, .nsl, .int .i64 66]), [], 50267⟩
def nv52 : Sm := ⟨n9l, n9_5 (.int .i64 2), 43, (.agg [.sl 187 0 0 18 (.lit 18), .nsl, .nsl, .bool true, .bool true, .int .i64 2, .int .i64 9223372036854775807, .nsl, .int .i64 97]), [], 71616⟩
def nv11 : Sm := ⟨n9l, n9_1 (.int .i64 1), 11, (.agg [.sl 59 0 0 6 (.lit 6), .nsl, .nsl, .bool true, .bool true, .int .i64 1, .int .i64 1, .nsl, .int .i64 7]), [], 6649⟩
def nv21 : Sm := ⟨n9l, n9_2 (.int .i64 1), 19, (.agg [.sl 91 0 0 9 (.lit 9), .nsl, .nsl, .bool true, .bool true, .int .i64 1, .int .i64 1, .nsl, .int .i64 12]), [], 12982⟩
def nv31 : Sm := ⟨n9l, n9_3 (.int .i64 1), 27, (.agg [.sl 123 0 0 12 (.lit 12), .nsl, .nsl, .bool true, .bool true, .int .i64 1, .int .i64 1, .nsl, .int .i64 17]), [], 19343⟩
def nv41 : Sm := ⟨n9l, n9_4 (.int .i64 1), 35, (.agg [.sl 155 0 0 15 (.lit 15), .nsl, .nsl, .bool true, .bool true, .int .i64 1, .int .i64 1, .nsl, .int .i64 22]), [], 25732⟩
def nv51 : Sm := ⟨n9l, n9_5 (.int .i64 1), 43, (.agg [.sl 187 0 0 18 (.lit 18), .nsl, .nsl, .bool true, .bool true, .int .i64 1, .int .i64 1, .nsl, .int .i64 27]), [], 32149⟩
def nv10 : Sm := ⟨n9l, n9_1 (.int .i64 0), 11, (.agg [.sl 59 0 0 6 (.lit 6), .nsl, .nsl, .bool true, .bool true, .int .i64 0, .int .i64 0, .nsl, .int .i64 5]), [], 4141⟩
def nv20 : Sm := ⟨n9l, n9_2 (.int .i64 0), 19, (.agg [.sl 91 0 0 9 (.lit 9), .nsl, .nsl, .bool true, .bool true, .int .i64 0, .int .i64 0, .nsl, .int .i64 5]), [], 4282⟩
def nv30 : Sm := ⟨n9l, n9_3 (.int .i64 0), 27, (.agg [.sl 123 0 0 12 (.lit 12), .nsl, .nsl, .bool true, .bool true, .int .i64 0, .int .i64 0, .nsl, .int .i64 5]), [], 4423⟩
def nv40 : Sm := ⟨n9l, n9_4 (.int .i64 0), 35, (.agg [.sl 155 0 0 15 (.lit 15), .nsl, .nsl, .bool true, .bool true, .int .i64 0, .int .i64 0, .nsl, .int .i64 5]), [], 4564⟩
def nv50 : Sm := ⟨n9l, n9_5 (.int .i64 0), 43, (.agg [.sl 187 0 0 18 (.lit 18), .nsl, .nsl, .bool true, .bool true, .int .i64 0, .int .i64 0, .nsl, .int .i64 5]), [], 4705⟩
theorem vn5s (B : Vb) (h : @okF B nF_s) : letI : Vl := @Vl.mk B nF_s h; smRun (tabS nu5s nw5s) 17 1000 1000 9 (.u 0 (.u 0 .nil)) nv5s = (nv5s.x1 = nv5s.x1 ∧ reflT nv5s.t1) := by kernel_rfl
theorem vn52 (B : Vb) (h : @okF B nF_0) : letI : Vl := @Vl.mk B nF_0 h; smRun (tabS nu52 nw52) 17 1000 1000 9 (.u 0 (.u 0 .nil)) nv52 = (nv52.x1 = nv52.x1 ∧ reflT nv52.t1) := by kernel_rfl
theorem vn51 (B : Vb) (h : @okF B nF_0) : letI : Vl := @Vl.mk B nF_0 h; smRun (tabS nu51 nw51) 17 1000 1000 9 (.u 0 (.u 0 .nil)) nv51 = (nv51.x1 = nv51.x1 ∧ reflT nv51.t1) := by kernel_rfl
theorem vn50 (B : Vb) (h : @okF B nF_0) : letI : Vl := @Vl.mk B nF_0 h; smRun (tabS nu50 nw50) 17 1000 1000 9 (.u 0 (.u 0 .nil)) nv50 = (nv50.x1 = nv50.x1 ∧ reflT nv50.t1) := by kernel_rfl
theorem vn4s (B : Vb) (h : @okF B nF_s) : letI : Vl := @Vl.mk B nF_s h; smRun (tabS nu4s nw4s) 17 1000 1000 9 (.u 0 (.u 0 .nil)) nv4s = (nv4s.x1 = nv4s.x1 ∧ reflT nv4s.t1) := by kernel_rfl
theorem vn42 (B : Vb) (h : @okF B nF_0) : letI : Vl := @Vl.mk B nF_0 h; smRun (tabS nu42 nw42) 17 1000 1000 9 (.u 0 (.u 0 .nil)) nv42 = (nv42.x1 = nv42.x1 ∧ reflT nv42.t1) := by kernel_rfl
theorem vn41 (B : Vb) (h : @okF B nF_0) : letI : Vl := @Vl.mk B nF_0 h; smRun (tabS nu41 nw41) 17 1000 1000 9 (.u 0 (.u 0 .nil)) nv41 = (nv41.x1 = nv41.x1 ∧ reflT nv41.t1) := by kernel_rfl
theorem vn40 (B : Vb) (h : @okF B nF_0) : letI : Vl := @Vl.mk B nF_0 h; smRun (tabS nu40 nw40) 17 1000 1000 9 (.u 0 (.u 0 .nil)) nv40 = (nv40.x1 = nv40.x1 ∧ reflT nv40.t1) := by kernel_rfl
theorem vn3s (B : Vb) (h : @okF B nF_s) : letI : Vl := @Vl.mk B nF_s h; smRun (tabS nu3s nw3s) 17 1000 1000 9 (.u 0 (.u 0 .nil)) nv3s = (nv3s.x1 = nv3s.x1 ∧ reflT nv3s.t1) := by kernel_rfl
theorem vn32 (B : Vb) (h : @okF B nF_0) : letI : Vl := @Vl.mk B nF_0 h; smRun (tabS nu32 nw32) 17 1000 1000 9 (.u 0 (.u 0 .nil)) nv32 = (nv32.x1 = nv32.x1 ∧ reflT nv32.t1) := by kernel_rfl
theorem vn31 (B : Vb) (h : @okF B nF_0) : letI : Vl := @Vl.mk B nF_0 h; smRun (tabS nu31 nw31) 17 1000 1000 9 (.u 0 (.u 0 .nil)) nv31 = (nv31.x1 = nv31.x1 ∧ reflT nv31.t1) := by kernel_rfl
theorem vn30 (B : Vb) (h : @okF B nF_0) : letI : Vl := @Vl.mk B nF_0 h; smRun (tabS nu30 nw30) 17 1000 1000 9 (.u 0 (.u 0 .nil)) nv30 = (nv30.x1 = nv30.x1 ∧ reflT nv30.t1) := by kernel_rfl
theorem vn2s (B : Vb) (h : @okF B nF_s) : letI : Vl := @Vl.mk B nF_s h; smRun (tabS nu2s nw2s) 17 1000 1000 9 (.u 0 (.u 0 .nil)) nv2s = (nv2s.x1 = nv2s.x1 ∧ reflT nv2s.t1) := by kernel_rfl
theorem vn22 (B : Vb) (h : @okF B nF_0) : letI : Vl := @Vl.mk B nF_0 h; smRun (tabS nu22 nw22) 17 1000 1000 9 (.u 0 (.u 0 .nil)) nv22 = (nv22.x1 = nv22.x1 ∧ reflT nv22.t1) := by kernel_rfl
theorem vn21 (B : Vb) (h : @okF B nF_0) : letI : Vl := @Vl.mk B nF_0 h; smRun (tabS nu21 nw21) 17 1000 1000 9 (.u 0 (.u 0 .nil)) nv21 = (nv21.x1 = nv21.x1 ∧ reflT nv21.t1) := by kernel_rfl
theorem vn20 (B : Vb) (h : @okF B nF_0) : letI : Vl := @Vl.mk B nF_0 h; smRun (tabS nu20 nw20) 17 1000 1000 9 (.u 0 (.u 0 .nil)) nv20 = (nv20.x1 = nv20.x1 ∧ reflT nv20.t1) := by kernel_rfl
theorem vn1s (B : Vb) (h : @okF B nF_s) : letI : Vl := @Vl.mk B nF_s h; smRun (tabS nu1s nw1s) 17 1000 1000 9 (.u 0 (.u 0 .nil)) nv1s = (nv1s.x1 = nv1s.x1 ∧ reflT nv1s.t1) := by kernel_rfl
theorem vn12 (B : Vb) (h : @okF B nF_0) : letI : Vl := @Vl.mk B nF_0 h; smRun (tabS nu12 nw12) 17 1000 1000 9 (.u 0 (.u 0 .nil)) nv12 = (nv12.x1 = nv12.x1 ∧ reflT nv12.t1) := by kernel_rfl
theorem vn11 (B : Vb) (h : @okF B nF_0) : letI : Vl := @Vl.mk B nF_0 h; smRun (tabS nu11 nw11) 17 1000 1000 9 (.u 0 (.u 0 .nil)) nv11 = (nv11.x1 = nv11.x1 ∧ reflT nv11.t1) := by kernel_rfl
theorem vn10 (B : Vb) (h : @okF B nF_0) : letI : Vl := @Vl.mk B nF_0 h; smRun (tabS nu10 nw10) 17 1000 1000 9 (.u 0 (.u 0 .nil)) nv10 = (nv10.x1 = nv10.x1 ∧ reflT nv10.t1) := by kernel_rfl
theorem rn5s_0 (B : Vb) (h : @okF B nF_s) : letI : Vl := @Vl.mk B nF_s h; allR nv5s 4 [.sy .u32 (.v 0) 3 9] = allT [.sy .u32 (.v 0) 3 9] := by kernel_rfl
theorem rn5s_1 (B : Vb) (h : @okF B nF_s) : letI : Vl := @Vl.mk B nF_s h; allR nv5s 4 [.sy .u32 (.v 0) 10 99] = allT [.sy .u32 (.v 0) 10 99] := by kernel_rfl
theorem rn5s_2 (B : Vb) (h : @okF B nF_s) : letI : Vl := @Vl.mk B nF_s h; allR nv5s 4 [.sy .u32 (.v 0) 100 999] = allT [.sy .u32 (.v 0) 100 999] := by kernel_rfl
theorem rn5s_3 (B : Vb) (h : @okF B nF_s) : letI : Vl := @Vl.mk B nF_s h; allR nv5s 4 [.sy .u32 (.v 0) 1000 9999] = allT [.sy .u32 (.v 0) 1000 9999] := by kernel_rfl
theorem rn5s_4 (B : Vb) (h : @okF B nF_s) : letI : Vl := @Vl.mk B nF_s h; allR nv5s 4 [.sy .u32 (.v 0) 10000 99999] = allT [.sy .u32 (.v 0) 10000 99999] := by kernel_rfl
theorem rn5s_5 (B : Vb) (h : @okF B nF_s) : letI : Vl := @Vl.mk B nF_s h; allR nv5s 4 [.sy .u32 (.v 0) 100000 999999] = allT [.sy .u32 (.v 0) 100000 999999] := by kernel_rfl
theorem rn5s_6 (B : Vb) (h : @okF B nF_s) : letI : Vl := @Vl.mk B nF_s h; allR nv5s 4 [.sy .u32 (.v 0) 1000000 9999999] = allT [.sy .u32 (.v 0) 1000000 9999999] := by kernel_rfl
theorem rn5s_7 (B : Vb) (h : @okF B nF_s) : letI : Vl := @Vl.mk B nF_s h; allR nv5s 4 [.sy .u32 (.v 0) 10000000 99999999] = allT [.sy .u32 (.v 0) 10000000 99999999] := by kernel_rfl
theorem rn5s_8 (B : Vb) (h : @okF B nF_s) : letI : Vl := @Vl.mk B nF_s h; allR nv5s 4 [.sy .u32 (.v 0) 100000000 999999999] = allT [.sy .u32 (.v 0) 100000000 999999999] := by kernel_rfl
theorem rn5s_9 (B : Vb) (h : @okF B nF_s) : letI : Vl := @Vl.mk B nF_s h; allR nv5s 4 [.sy .u32 (.v 0) 1000000000 4294967295] = allT [.sy .u32 (.v 0) 1000000000 4294967295] := by kernel_rfl
theorem rn4s_0 (B : Vb) (h : @okF B nF_s) : letI : Vl := @Vl.mk B nF_s h; allR nv4s 3 [.sy .u32 (.v 0) 3 9] = allT [.sy .u32 (.v 0) 3 9] := by kernel_rfl
theorem rn4s_1 (B : Vb) (h : @okF B nF_s) : letI : Vl := @Vl.mk B nF_s h; allR nv4s 3 [.sy .u32 (.v 0) 10 99] = allT [.sy .u32 (.v 0) 10 99] := by kernel_rfl
theorem rn4s_2 (B : Vb) (h : @okF B nF_s) : letI : Vl := @Vl.mk B nF_s h; allR nv4s 3 [.sy .u32 (.v 0) 100 999] = allT [.sy .u32 (.v 0) 100 999] := by kernel_rfl
theorem rn4s_3 (B : Vb) (h : @okF B nF_s) : letI : Vl := @Vl.mk B nF_s h; allR nv4s 3 [.sy .u32 (.v 0) 1000 9999] = allT [.sy .u32 (.v 0) 1000 9999] := by kernel_rfl
theorem rn4s_4 (B : Vb) (h : @okF B nF_s) : letI : Vl := @Vl.mk B nF_s h; allR nv4s 3 [.sy .u32 (.v 0) 10000 99999] = allT [.sy .u32 (.v 0) 10000 99999] := by kernel_rfl
theorem rn4s_5 (B : Vb) (h : @okF B nF_s) : letI : Vl := @Vl.mk B nF_s h; allR nv4s 3 [.sy .u32 (.v 0) 100000 999999] = allT [.sy .u32 (.v 0) 100000 999999] := by kernel_rfl
theorem rn4s_6 (B : Vb) (h : @okF B nF_s) : letI : Vl := @Vl.mk B nF_s h; allR nv4s 3 [.sy .u32 (.v 0) 1000000 9999999] = allT [.sy .u32 (.v 0) 1000000 9999999] := by kernel_rfl
theorem rn4s_7 (B : Vb) (h : @okF B nF_s) : letI : Vl := @Vl.mk B nF_s h; allR nv4s 3 [.sy .u32 (.v 0) 10000000 99999999] = allT [.sy .u32 (.v 0) 10000000 99999999] := by kernel_rfl
theorem rn4s_8 (B : Vb) (h : @okF B nF_s) : letI : Vl := @Vl.mk B nF_s h; allR nv4s 3 [.sy .u32 (.v 0) 100000000 999999999] = allT [.sy .u32 (.v 0) 100000000 999999999] := by kernel_rfl
theorem rn4s_9 (B : Vb) (h : @okF B nF_s) : letI : Vl := @Vl.mk B nF_s h; allR nv4s 3 [.sy .u32 (.v 0) 1000000000 4294967295] = allT [.sy .u32 (.v 0) 1000000000 4294967295] := by kernel_rfl
theorem rn3s_0 (B : Vb) (h : @okF B nF_s) : letI : Vl := @Vl.mk B nF_s h; allR nv3s 2 [.sy .u32 (.v 0) 3 9] = allT [.sy .u32 (.v 0) 3 9] := by kernel_rfl
theorem rn3s_1 (B : Vb) (h : @okF B nF_s) : letI : Vl := @Vl.mk B nF_s h; allR nv3s 2 [.sy .u32 (.v 0) 10 99] = allT [.sy .u32 (.v 0) 10 99] := by kernel_rfl
theorem rn3s_2 (B : Vb) (h : @okF B nF_s) : letI : Vl := @Vl.mk B nF_s h; allR nv3s 2 [.sy .u32 (.v 0) 100 999] = allT [.sy .u32 (.v 0) 100 999] := by kernel_rfl
theorem rn3s_3 (B : Vb) (h : @okF B nF_s) : letI : Vl := @Vl.mk B nF_s h; allR nv3s 2 [.sy .u32 (.v 0) 1000 9999] = allT [.sy .u32 (.v 0) 1000 9999] := by kernel_rfl
theorem rn3s_4 (B : Vb) (h : @okF B nF_s) : letI : Vl := @Vl.mk B nF_s h; allR nv3s 2 [.sy .u32 (.v 0) 10000 99999] = allT [.sy .u32 (.v 0) 10000 99999] := by kernel_rfl
theorem rn3s_5 (B : Vb) (h : @okF B nF_s) : letI : Vl := @Vl.mk B nF_s h; allR nv3s 2 [.sy .u32 (.v 0) 100000 999999] = allT [.sy .u32 (.v 0) 100000 999999] := by kernel_rfl
theorem rn3s_6 (B : Vb) (h : @okF B nF_s) : letI : Vl := @Vl.mk B nF_s h; allR nv3s 2 [.sy .u32 (.v 0) 1000000 9999999] = allT [.sy .u32 (.v 0) 1000000 9999999] := by kernel_rfl
theorem rn3s_7 (B : Vb) (h : @okF B nF_s) : letI : Vl := @Vl.mk B nF_s h; allR nv3s 2 [.sy .u32 (.v 0) 10000000 99999999] = allT [.sy .u32 (.v 0) 10000000 99999999] := by kernel_rfl
theorem rn3s_8 (B : Vb) (h : @okF B nF_s) : letI : Vl := @Vl.mk B nF_s h; allR nv3s 2 [.sy .u32 (.v 0) 100000000 999999999] = allT [.sy .u32 (.v 0) 100000000 999999999] := by kernel_rfl
theorem rn3s_9 (B : Vb) (h : @okF B nF_s) : letI : Vl := @Vl.mk B nF_s h; allR nv3s 2 [.sy .u32 (.v 0) 1000000000 4294967295] = allT [.sy .u32 (.v 0) 1000000000 4294967295] := by kernel_rfl
theorem rn2s_0 (B : Vb) (h : @okF B nF_s) : letI : Vl := @Vl.mk B nF_s h; allR nv2s 1 [.sy .u32 (.v 0) 3 9] = allT [.sy .u32 (.v 0) 3 9] := by kernel_rfl
theorem rn2s_1 (B : Vb) (h : @okF B nF_s) : letI : Vl := @Vl.mk B nF_s h; allR nv2s 1 [.sy .u32 (.v 0) 10 99] = allT [.sy .u32 (.v 0) 10 99] := by kernel_rfl
theorem rn2s_2 (B : Vb) (h : @okF B nF_s) : letI : Vl := @Vl.mk B nF_s h; allR nv2s 1 [.sy .u32 (.v 0) 100 999] = allT [.sy .u32 (.v 0) 100 999] := by kernel_rfl
theorem rn2s_3 (B : Vb) (h : @okF B nF_s) : letI : Vl := @Vl.mk B nF_s h; allR nv2s 1 [.sy .u32 (.v 0) 1000 9999] = allT [.sy .u32 (.v 0) 1000 9999] := by kernel_rfl
theorem rn2s_4 (B : Vb) (h : @okF B nF_s) : letI : Vl := @Vl.mk B nF_s h; allR nv2s 1 [.sy .u32 (.v 0) 10000 99999] = allT [.sy .u32 (.v 0) 10000 99999] := by kernel_rfl
theorem rn2s_5 (B : Vb) (h : @okF B nF_s) : letI : Vl := @Vl.mk B nF_s h; allR nv2s 1 [.sy .u32 (.v 0) 100000 999999] = allT [.sy .u32 (.v 0) 100000 999999] := by kernel_rfl
theorem rn2s_6 (B : Vb) (h : @okF B nF_s) : letI : Vl := @Vl.mk B nF_s h; allR nv2s 1 [.sy .u32 (.v 0) 1000000 9999999] = allT [.sy .u32 (.v 0) 1000000 9999999] := by kernel_rfl
theorem rn2s_7 (B : Vb) (h : @okF B nF_s) : letI : Vl := @Vl.mk B nF_s h; allR nv2s 1 [.sy .u32 (.v 0) 10000000 99999999] = allT [.sy .u32 (.v 0) 10000000 99999999] := by kernel_rfl
theorem rn2s_8 (B : Vb) (h : @okF B nF_s) : letI : Vl := @Vl.mk B nF_s h; allR nv2s 1 [.sy .u32 (.v 0) 100000000 999999999] = allT [.sy .u32 (.v 0) 100000000 999999999] := by kernel_rfl
theorem rn2s_9 (B : Vb) (h : @okF B nF_s) : letI : Vl := @Vl.mk B nF_s h; allR nv2s 1 [.sy .u32 (.v 0) 1000000000 4294967295] = allT [.sy .u32 (.v 0) 1000000000 4294967295] := by kernel_rfl
theorem rn1s_0 (B : Vb) (h : @okF B nF_s) : letI : Vl := @Vl.mk B nF_s h; allR nv1s 0 [.sy .u32 (.v 0) 3 9] = allT [.sy .u32 (.v 0) 3 9] := by kernel_rfl
theorem rn1s_1 (B : Vb) (h : @okF B nF_s) : letI : Vl := @Vl.mk B nF_s h; allR nv1s 0 [.sy .u32 (.v 0) 10 99] = allT [.sy .u32 (.v 0) 10 99] := by kernel_rfl
theorem rn1s_2 (B : Vb) (h : @okF B nF_s) : letI : Vl := @Vl.mk B nF_s h; allR nv1s 0 [.sy .u32 (.v 0) 100 999] = allT [.sy .u32 (.v 0) 100 999] := by kernel_rfl
theorem rn1s_3 (B : Vb) (h : @okF B nF_s) : letI : Vl := @Vl.mk B nF_s h; allR nv1s 0 [.sy .u32 (.v 0) 1000 9999] = allT [.sy .u32 (.v 0) 1000 9999] := by kernel_rfl
theorem rn1s_4 (B : Vb) (h : @okF B nF_s) : letI : Vl := @Vl.mk B nF_s h; allR nv1s 0 [.sy .u32 (.v 0) 10000 99999] = allT [.sy .u32 (.v 0) 10000 99999] := by kernel_rfl
theorem rn1s_5 (B : Vb) (h : @okF B nF_s) : letI : Vl := @Vl.mk B nF_s h; allR nv1s 0 [.sy .u32 (.v 0) 100000 999999] = allT [.sy .u32 (.v 0) 100000 999999] := by kernel_rfl
theorem rn1s_6 (B : Vb) (h : @okF B nF_s) : letI : Vl := @Vl.mk B nF_s h; allR nv1s 0 [.sy .u32 (.v 0) 1000000 9999999] = allT [.sy .u32 (.v 0) 1000000 9999999] := by kernel_rfl
theorem rn1s_7 (B : Vb) (h : @okF B nF_s) : letI : Vl := @Vl.mk B nF_s h; allR nv1s 0 [.sy .u32 (.v 0) 10000000 99999999] = allT [.sy .u32 (.v 0) 10000000 99999999] := by kernel_rfl
theorem rn1s_8 (B : Vb) (h : @okF B nF_s) : letI : Vl := @Vl.mk B nF_s h; allR nv1s 0 [.sy .u32 (.v 0) 100000000 999999999] = allT [.sy .u32 (.v 0) 100000000 999999999] := by kernel_rfl
theorem rn1s_9 (B : Vb) (h : @okF B nF_s) : letI : Vl := @Vl.mk B nF_s h; allR nv1s 0 [.sy .u32 (.v 0) 1000000000 4294967295] = allT [.sy .u32 (.v 0) 1000000000 4294967295] := by kernel_rfl
theorem rn12_2 (B : Vb) (h : @okF B nF_0) : letI : Vl := @Vl.mk B nF_0 h; allR nv12 0 nL_2 = allT nL_2 := by kernel_rfl
theorem rn22_2 (B : Vb) (h : @okF B nF_0) : letI : Vl := @Vl.mk B nF_0 h; allR nv22 1 nL_2 = allT nL_2 := by kernel_rfl
theorem rn32_2 (B : Vb) (h : @okF B nF_0) : letI : Vl := @Vl.mk B nF_0 h; allR nv32 2 nL_2 = allT nL_2 := by kernel_rfl
theorem rn42_2 (B : Vb) (h : @okF B nF_0) : letI : Vl := @Vl.mk B nF_0 h; allR nv42 3 nL_2 = allT nL_2 := by kernel_rfl
theorem rn52_2 (B : Vb) (h : @okF B nF_0) : letI : Vl := @Vl.mk B nF_0 h; allR nv52 4 nL_2 = allT nL_2 := by kernel_rfl
theorem rn11_1 (B : Vb) (h : @okF B nF_0) : letI : Vl := @Vl.mk B nF_0 h; allR nv11 0 nL_1 = allT nL_1 := by kernel_rfl
theorem rn21_1 (B : Vb) (h : @okF B nF_0) : letI : Vl := @Vl.mk B nF_0 h; allR nv21 1 nL_1 = allT nL_1 := by kernel_rfl
theorem rn31_1 (B : Vb) (h : @okF B nF_0) : letI : Vl := @Vl.mk B nF_0 h; allR nv31 2 nL_1 = allT nL_1 := by kernel_rfl
theorem rn41_1 (B : Vb) (h : @okF B nF_0) : letI : Vl := @Vl.mk B nF_0 h; allR nv41 3 nL_1 = allT nL_1 := by kernel_rfl
theorem rn51_1 (B : Vb) (h : @okF B nF_0) : letI : Vl := @Vl.mk B nF_0 h; allR nv51 4 nL_1 = allT nL_1 := by kernel_rfl
theorem rn10_0 (B : Vb) (h : @okF B nF_0) : letI : Vl := @Vl.mk B nF_0 h; allR nv10 0 nL_0 = allT nL_0 := by kernel_rfl
theorem rn20_0 (B : Vb) (h : @okF B nF_0) : letI : Vl := @Vl.mk B nF_0 h; allR nv20 1 nL_0 = allT nL_0 := by kernel_rfl
theorem rn30_0 (B : Vb) (h : @okF B nF_0) : letI : Vl := @Vl.mk B nF_0 h; allR nv30 2 nL_0 = allT nL_0 := by kernel_rfl
theorem rn40_0 (B : Vb) (h : @okF B nF_0) : letI : Vl := @Vl.mk B nF_0 h; allR nv40 3 nL_0 = allT nL_0 := by kernel_rfl
theorem rn50_0 (B : Vb) (h : @okF B nF_0) : letI : Vl := @Vl.mk B nF_0 h; allR nv50 4 nL_0 = allT nL_0 := by kernel_rfl
end Go.Proofs.YtaaedipojhnjjaaGreat
