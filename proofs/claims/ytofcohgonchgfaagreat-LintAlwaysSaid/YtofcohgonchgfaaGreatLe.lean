/- LintAlways: it answers true. -/
import Derived.Test.YtofcohgonchgfaaGreatLb0
import Derived.Test.YtofcohgonchgfaaGreatLb1
import Derived.Test.YtofcohgonchgfaaGreatLb2
import Derived.Test.YtofcohgonchgfaaGreatLc0
import Derived.Test.YtofcohgonchgfaaGreatLc1
import Derived.KernelRfl
set_option linter.unusedVariables false
set_option linter.unusedSectionVars false
set_option maxRecDepth 100000
namespace Go.Proofs.YtofcohgonchgfaaGreat
open Go Go.Sh Go.Va
theorem den_byB (B : Vb) {E : Env} {k : IntKind} {e : SE} {lo hi n : Int} (h : @SE.ev B e = n) (h1 : lo ≤ n) (h2 : n ≤ hi) : @den B E (.sy k e lo hi) = some (.int k n) := by
  simp only [den]; rw [h]; exact if_pos ⟨h1, h2⟩
theorem den_intB (B : Vb) {E : Env} {k : IntKind} {c n : Int} (h : c = n) : @den B E (.int k c) = some (.int k n) := by rw [h]; rfl
theorem lf_pp_lt (u v x y : Int) (h0 : 0 ≤ u) (h1 : u ≤ 127) (h2 : 0 ≤ v) (h3 : v ≤ 127) (h : u < v) : @okF (ofB [u, v, x, y]) laF_pp_lt := by
  show decide (u = v) = false ∧ decide (u < v) = true ∧ decide (u ≤ v) = true ∧ decide (v < u) = false ∧ decide (v ≤ u) = false ∧ decide ((min u v) < (max u v)) = true ∧ decide (v = u) = false ∧ decide ((min u (v - 1)) < u) = false ∧ decide (v < (max v (u + 1))) = false ∧ decide ((min v u) < v) = true ∧ decide (u < (max u v)) = true ∧ decide ((min u v) < u) = false ∧ decide (v < (max v u)) = false ∧ decide ((min v (u - 1)) < v) = true ∧ decide (u < (max u (v + 1))) = true ∧ True
  exact ⟨decide_eq_false (by omega), decide_eq_true (by omega), decide_eq_true (by omega), decide_eq_false (by omega), decide_eq_false (by omega), decide_eq_true (by omega), decide_eq_false (by omega), decide_eq_false (by omega), decide_eq_false (by omega), decide_eq_true (by omega), decide_eq_true (by omega), decide_eq_false (by omega), decide_eq_false (by omega), decide_eq_true (by omega), decide_eq_true (by omega), trivial⟩
theorem lf_pp_eq (u v x y : Int) (h0 : 0 ≤ u) (h1 : u ≤ 127) (h2 : 0 ≤ v) (h3 : v ≤ 127) (h : u = v) : @okF (ofB [u, v, x, y]) laF_pp_eq := by
  show decide (u = v) = true ∧ decide (u < v) = false ∧ decide (u ≤ v) = true ∧ decide (v < u) = false ∧ decide (v ≤ u) = true ∧ decide ((min u v) < (max u v)) = false ∧ decide (v = u) = true ∧ decide ((min u (v - 1)) < u) = true ∧ decide (v < (max v (u + 1))) = true ∧ decide ((min v u) < v) = false ∧ decide (u < (max u v)) = false ∧ decide ((min u v) < u) = false ∧ decide (v < (max v u)) = false ∧ decide ((min v (u - 1)) < v) = true ∧ decide (u < (max u (v + 1))) = true ∧ True
  exact ⟨decide_eq_true (by omega), decide_eq_false (by omega), decide_eq_true (by omega), decide_eq_false (by omega), decide_eq_true (by omega), decide_eq_false (by omega), decide_eq_true (by omega), decide_eq_true (by omega), decide_eq_true (by omega), decide_eq_false (by omega), decide_eq_false (by omega), decide_eq_false (by omega), decide_eq_false (by omega), decide_eq_true (by omega), decide_eq_true (by omega), trivial⟩
theorem lf_pp_gt (u v x y : Int) (h0 : 0 ≤ u) (h1 : u ≤ 127) (h2 : 0 ≤ v) (h3 : v ≤ 127) (h : v < u) : @okF (ofB [u, v, x, y]) laF_pp_gt := by
  show decide (u = v) = false ∧ decide (u < v) = false ∧ decide (u ≤ v) = false ∧ decide (v < u) = true ∧ decide (v ≤ u) = true ∧ decide ((min u v) < (max u v)) = true ∧ decide (v = u) = false ∧ decide ((min u (v - 1)) < u) = true ∧ decide (v < (max v (u + 1))) = true ∧ decide ((min v u) < v) = false ∧ decide (u < (max u v)) = false ∧ decide ((min u v) < u) = true ∧ decide (v < (max v u)) = true ∧ decide ((min v (u - 1)) < v) = false ∧ decide (u < (max u (v + 1))) = false ∧ True
  exact ⟨decide_eq_false (by omega), decide_eq_false (by omega), decide_eq_false (by omega), decide_eq_true (by omega), decide_eq_true (by omega), decide_eq_true (by omega), decide_eq_false (by omega), decide_eq_true (by omega), decide_eq_true (by omega), decide_eq_false (by omega), decide_eq_false (by omega), decide_eq_true (by omega), decide_eq_true (by omega), decide_eq_false (by omega), decide_eq_false (by omega), trivial⟩
theorem lf_nn_lt (u v x y : Int) (h0 : 1 ≤ u) (h1 : u ≤ 128) (h2 : 1 ≤ v) (h3 : v ≤ 128) (h : -u < -v) : @okF (ofB [u, v, x, y]) laF_nn_lt := by
  show decide ((0 - u) = (0 - v)) = false ∧ decide ((0 - u) < (0 - v)) = true ∧ decide ((0 - u) ≤ (0 - v)) = true ∧ decide ((0 - v) < (0 - u)) = false ∧ decide ((0 - v) ≤ (0 - u)) = false ∧ decide ((min (0 - u) (0 - v)) < (max (0 - u) (0 - v))) = true ∧ decide ((0 - v) = (0 - u)) = false ∧ decide ((min (0 - u) ((0 - v) - 1)) < (0 - u)) = false ∧ decide ((0 - v) < (max (0 - v) ((0 - u) + 1))) = false ∧ decide ((min (0 - v) (0 - u)) < (0 - v)) = true ∧ decide ((0 - u) < (max (0 - u) (0 - v))) = true ∧ decide ((min (0 - u) (0 - v)) < (0 - u)) = false ∧ decide ((0 - v) < (max (0 - v) (0 - u))) = false ∧ decide ((min (0 - v) ((0 - u) - 1)) < (0 - v)) = true ∧ decide ((0 - u) < (max (0 - u) ((0 - v) + 1))) = true ∧ True
  exact ⟨decide_eq_false (by omega), decide_eq_true (by omega), decide_eq_true (by omega), decide_eq_false (by omega), decide_eq_false (by omega), decide_eq_true (by omega), decide_eq_false (by omega), decide_eq_false (by omega), decide_eq_false (by omega), decide_eq_true (by omega), decide_eq_true (by omega), decide_eq_false (by omega), decide_eq_false (by omega), decide_eq_true (by omega), decide_eq_true (by omega), trivial⟩
theorem lf_nn_eq (u v x y : Int) (h0 : 1 ≤ u) (h1 : u ≤ 128) (h2 : 1 ≤ v) (h3 : v ≤ 128) (h : -u = -v) : @okF (ofB [u, v, x, y]) laF_nn_eq := by
  show decide ((0 - u) = (0 - v)) = true ∧ decide ((0 - u) < (0 - v)) = false ∧ decide ((0 - u) ≤ (0 - v)) = true ∧ decide ((0 - v) < (0 - u)) = false ∧ decide ((0 - v) ≤ (0 - u)) = true ∧ decide ((min (0 - u) (0 - v)) < (max (0 - u) (0 - v))) = false ∧ decide ((0 - v) = (0 - u)) = true ∧ decide ((min (0 - u) ((0 - v) - 1)) < (0 - u)) = true ∧ decide ((0 - v) < (max (0 - v) ((0 - u) + 1))) = true ∧ decide ((min (0 - v) (0 - u)) < (0 - v)) = false ∧ decide ((0 - u) < (max (0 - u) (0 - v))) = false ∧ decide ((min (0 - u) (0 - v)) < (0 - u)) = false ∧ decide ((0 - v) < (max (0 - v) (0 - u))) = false ∧ decide ((min (0 - v) ((0 - u) - 1)) < (0 - v)) = true ∧ decide ((0 - u) < (max (0 - u) ((0 - v) + 1))) = true ∧ True
  exact ⟨decide_eq_true (by omega), decide_eq_false (by omega), decide_eq_true (by omega), decide_eq_false (by omega), decide_eq_true (by omega), decide_eq_false (by omega), decide_eq_true (by omega), decide_eq_true (by omega), decide_eq_true (by omega), decide_eq_false (by omega), decide_eq_false (by omega), decide_eq_false (by omega), decide_eq_false (by omega), decide_eq_true (by omega), decide_eq_true (by omega), trivial⟩
theorem lf_nn_gt (u v x y : Int) (h0 : 1 ≤ u) (h1 : u ≤ 128) (h2 : 1 ≤ v) (h3 : v ≤ 128) (h : -v < -u) : @okF (ofB [u, v, x, y]) laF_nn_gt := by
  show decide ((0 - u) = (0 - v)) = false ∧ decide ((0 - u) < (0 - v)) = false ∧ decide ((0 - u) ≤ (0 - v)) = false ∧ decide ((0 - v) < (0 - u)) = true ∧ decide ((0 - v) ≤ (0 - u)) = true ∧ decide ((min (0 - u) (0 - v)) < (max (0 - u) (0 - v))) = true ∧ decide ((0 - v) = (0 - u)) = false ∧ decide ((min (0 - u) ((0 - v) - 1)) < (0 - u)) = true ∧ decide ((0 - v) < (max (0 - v) ((0 - u) + 1))) = true ∧ decide ((min (0 - v) (0 - u)) < (0 - v)) = false ∧ decide ((0 - u) < (max (0 - u) (0 - v))) = false ∧ decide ((min (0 - u) (0 - v)) < (0 - u)) = true ∧ decide ((0 - v) < (max (0 - v) (0 - u))) = true ∧ decide ((min (0 - v) ((0 - u) - 1)) < (0 - v)) = false ∧ decide ((0 - u) < (max (0 - u) ((0 - v) + 1))) = false ∧ True
  exact ⟨decide_eq_false (by omega), decide_eq_false (by omega), decide_eq_false (by omega), decide_eq_true (by omega), decide_eq_true (by omega), decide_eq_true (by omega), decide_eq_false (by omega), decide_eq_true (by omega), decide_eq_true (by omega), decide_eq_false (by omega), decide_eq_false (by omega), decide_eq_true (by omega), decide_eq_true (by omega), decide_eq_false (by omega), decide_eq_false (by omega), trivial⟩
theorem lf_pn_gt (u v x y : Int) (h0 : 0 ≤ u) (h1 : u ≤ 127) (h2 : 1 ≤ v) (h3 : v ≤ 128) (h : -v < u) : @okF (ofB [u, v, x, y]) laF_pn_gt := by
  show decide (u = (0 - v)) = false ∧ decide (u < (0 - v)) = false ∧ decide (u ≤ (0 - v)) = false ∧ decide ((0 - v) < u) = true ∧ decide ((0 - v) ≤ u) = true ∧ True
  exact ⟨decide_eq_false (by omega), decide_eq_false (by omega), decide_eq_false (by omega), decide_eq_true (by omega), decide_eq_true (by omega), trivial⟩
theorem lf_np_lt (u v x y : Int) (h0 : 1 ≤ u) (h1 : u ≤ 128) (h2 : 0 ≤ v) (h3 : v ≤ 127) (h : -u < v) : @okF (ofB [u, v, x, y]) laF_np_lt := by
  show decide ((0 - u) = v) = false ∧ decide ((0 - u) < v) = true ∧ decide ((0 - u) ≤ v) = true ∧ decide (v < (0 - u)) = false ∧ decide (v ≤ (0 - u)) = false ∧ True
  exact ⟨decide_eq_false (by omega), decide_eq_true (by omega), decide_eq_true (by omega), decide_eq_false (by omega), decide_eq_false (by omega), trivial⟩
theorem lh_pp_lt_10 (a b p q u v : Int) (hF : @okF (ofB [u, v, p / 6, q / 2]) laF_pp_lt) (hG : @okF (ofB [u, v, p / 6, q / 2]) laG_pp_lt_10) (X Y : FV) (mm : (X, Y) ∈ laA_pp_lt_10) (dA : @den (ofB [u, v, p / 6, q / 2]) env0 X = some (.int .i8 a)) (dB : @den (ofB [u, v, p / 6, q / 2]) env0 Y = some (.int .i8 b)) (hp : 0 ≤ p ∧ p ≤ 255) (hq : 0 ≤ q ∧ q ≤ 255) : Go.Va.Good Tryz.prog 4 [.int .i8 a, .int .i8 b, .int .u8 p, .int .u8 q] := by
  letI V : Vl := @Vl.mk (ofB [u, v, p / 6, q / 2]) laG_pp_lt_10 hG
  have hk : p % 6 = 0 ∨ p % 6 = 1 ∨ p % 6 = 2 ∨ p % 6 = 3 ∨ p % 6 = 4 ∨ p % 6 = 5 := by omega
  have hj : q % 2 = 0 ∨ q % 2 = 1 := by omega
  have dp : ∀ k : Int, p % 6 = k → den env0 (opA k) = some (.int .u8 p) := fun k e => den_by (show 6 * (p / 6) + k = p by omega) (by omega) hp.2
  have dq : ∀ k : Int, q % 2 = k → den env0 (howA k) = some (.int .u8 q) := fun k e => den_by (show 2 * (q / 2) + k = q by omega) (by omega) hq.2
  rcases hj with hj | hj <;> rcases hk with hk | hk | hk | hk | hk | hk
  · exact Go.Va.good_of (tabn_ok _ fun G => sn_pp0_0_lt _ hF G) (run_mem (lr_pp_lt_10_0_0 _ hG) mm) Tryz.call4 (denL_of dA (denL_of dB (denL_of (dp _ hk) (denL_of (dq _ hj) rfl))))
  · exact Go.Va.good_of (tabn_ok _ fun G => sn_pp0_1_lt _ hF G) (run_mem (lr_pp_lt_10_0_1 _ hG) mm) Tryz.call4 (denL_of dA (denL_of dB (denL_of (dp _ hk) (denL_of (dq _ hj) rfl))))
  · exact Go.Va.good_of (tabn_ok _ fun G => sn_pp0_2_lt _ hF G) (run_mem (lr_pp_lt_10_0_2 _ hG) mm) Tryz.call4 (denL_of dA (denL_of dB (denL_of (dp _ hk) (denL_of (dq _ hj) rfl))))
  · exact Go.Va.good_of (tabn_ok _ fun G => sn_pp0_3_lt _ hF G) (run_mem (lr_pp_lt_10_0_3 _ hG) mm) Tryz.call4 (denL_of dA (denL_of dB (denL_of (dp _ hk) (denL_of (dq _ hj) rfl))))
  · exact Go.Va.good_of (tabn_ok _ fun G => sn_pp0_4_lt _ hF G) (run_mem (lr_pp_lt_10_0_4 _ hG) mm) Tryz.call4 (denL_of dA (denL_of dB (denL_of (dp _ hk) (denL_of (dq _ hj) rfl))))
  · exact Go.Va.good_of (tabn_ok _ fun G => sn_pp0_5_lt _ hF G) (run_mem (lr_pp_lt_10_0_5 _ hG) mm) Tryz.call4 (denL_of dA (denL_of dB (denL_of (dp _ hk) (denL_of (dq _ hj) rfl))))
  · exact Go.Va.good_of (tabn_ok _ fun G => sn_pp1_0_lt _ hF G) (run_mem (lr_pp_lt_10_1_0 _ hG) mm) Tryz.call4 (denL_of dA (denL_of dB (denL_of (dp _ hk) (denL_of (dq _ hj) rfl))))
  · exact Go.Va.good_of (tabn_ok _ fun G => sn_pp1_1_lt _ hF G) (run_mem (lr_pp_lt_10_1_1 _ hG) mm) Tryz.call4 (denL_of dA (denL_of dB (denL_of (dp _ hk) (denL_of (dq _ hj) rfl))))
  · exact Go.Va.good_of (tabn_ok _ fun G => sn_pp1_2_lt _ hF G) (run_mem (lr_pp_lt_10_1_2 _ hG) mm) Tryz.call4 (denL_of dA (denL_of dB (denL_of (dp _ hk) (denL_of (dq _ hj) rfl))))
  · exact Go.Va.good_of (tabn_ok _ fun G => sn_pp1_3_lt _ hF G) (run_mem (lr_pp_lt_10_1_3 _ hG) mm) Tryz.call4 (denL_of dA (denL_of dB (denL_of (dp _ hk) (denL_of (dq _ hj) rfl))))
  · exact Go.Va.good_of (tabn_ok _ fun G => sn_pp1_4_lt _ hF G) (run_mem (lr_pp_lt_10_1_4 _ hG) mm) Tryz.call4 (denL_of dA (denL_of dB (denL_of (dp _ hk) (denL_of (dq _ hj) rfl))))
  · exact Go.Va.good_of (tabn_ok _ fun G => sn_pp1_5_lt _ hF G) (run_mem (lr_pp_lt_10_1_5 _ hG) mm) Tryz.call4 (denL_of dA (denL_of dB (denL_of (dp _ hk) (denL_of (dq _ hj) rfl))))
theorem lg_pp_lt_10_0 (a b p q : Int) (ha : a = 0) (hb : 1 ≤ b ∧ b ≤ 9) (hr : a < b) (hp : 0 ≤ p ∧ p ≤ 255) (hq : 0 ≤ q ∧ q ≤ 255) : Go.Va.Good Tryz.prog 4 [.int .i8 a, .int .i8 b, .int .u8 p, .int .u8 q] := by
  have hF := lf_pp_lt (a) (b) (p / 6) (q / 2) (by omega) (by omega) (by omega) (by omega) (by omega)
  exact lh_pp_lt_10 a b p q (a) (b) hF ⟨decide_eq_true (show (a : Int) = 0 by omega), hF⟩ _ _ (.head _) (den_intB _ (by omega)) (den_byB _ rfl (by omega) (by omega)) hp hq
theorem lg_pp_lt_10_1 (a b p q : Int) (ha : a = 0) (hb : 10 ≤ b ∧ b ≤ 99) (hr : a < b) (hp : 0 ≤ p ∧ p ≤ 255) (hq : 0 ≤ q ∧ q ≤ 255) : Go.Va.Good Tryz.prog 4 [.int .i8 a, .int .i8 b, .int .u8 p, .int .u8 q] := by
  have hF := lf_pp_lt (a) (b) (p / 6) (q / 2) (by omega) (by omega) (by omega) (by omega) (by omega)
  exact lh_pp_lt_10 a b p q (a) (b) hF ⟨decide_eq_true (show (a : Int) = 0 by omega), hF⟩ _ _ (.tail _ (.head _)) (den_intB _ (by omega)) (den_byB _ rfl (by omega) (by omega)) hp hq
theorem lg_pp_lt_10_2 (a b p q : Int) (ha : a = 0) (hb : 100 ≤ b ∧ b ≤ 127) (hr : a < b) (hp : 0 ≤ p ∧ p ≤ 255) (hq : 0 ≤ q ∧ q ≤ 255) : Go.Va.Good Tryz.prog 4 [.int .i8 a, .int .i8 b, .int .u8 p, .int .u8 q] := by
  have hF := lf_pp_lt (a) (b) (p / 6) (q / 2) (by omega) (by omega) (by omega) (by omega) (by omega)
  exact lh_pp_lt_10 a b p q (a) (b) hF ⟨decide_eq_true (show (a : Int) = 0 by omega), hF⟩ _ _ (.tail _ (.tail _ (.head _))) (den_intB _ (by omega)) (den_byB _ rfl (by omega) (by omega)) hp hq
theorem lh_pp_lt_00 (a b p q u v : Int) (hF : @okF (ofB [u, v, p / 6, q / 2]) laF_pp_lt) (hG : @okF (ofB [u, v, p / 6, q / 2]) laG_pp_lt_00) (X Y : FV) (mm : (X, Y) ∈ laA_pp_lt_00) (dA : @den (ofB [u, v, p / 6, q / 2]) env0 X = some (.int .i8 a)) (dB : @den (ofB [u, v, p / 6, q / 2]) env0 Y = some (.int .i8 b)) (hp : 0 ≤ p ∧ p ≤ 255) (hq : 0 ≤ q ∧ q ≤ 255) : Go.Va.Good Tryz.prog 4 [.int .i8 a, .int .i8 b, .int .u8 p, .int .u8 q] := by
  letI V : Vl := @Vl.mk (ofB [u, v, p / 6, q / 2]) laG_pp_lt_00 hG
  have hk : p % 6 = 0 ∨ p % 6 = 1 ∨ p % 6 = 2 ∨ p % 6 = 3 ∨ p % 6 = 4 ∨ p % 6 = 5 := by omega
  have hj : q % 2 = 0 ∨ q % 2 = 1 := by omega
  have dp : ∀ k : Int, p % 6 = k → den env0 (opA k) = some (.int .u8 p) := fun k e => den_by (show 6 * (p / 6) + k = p by omega) (by omega) hp.2
  have dq : ∀ k : Int, q % 2 = k → den env0 (howA k) = some (.int .u8 q) := fun k e => den_by (show 2 * (q / 2) + k = q by omega) (by omega) hq.2
  rcases hj with hj | hj <;> rcases hk with hk | hk | hk | hk | hk | hk
  · exact Go.Va.good_of (tabn_ok _ fun G => sn_pp0_0_lt _ hF G) (run_mem (lr_pp_lt_00_0_0 _ hG) mm) Tryz.call4 (denL_of dA (denL_of dB (denL_of (dp _ hk) (denL_of (dq _ hj) rfl))))
  · exact Go.Va.good_of (tabn_ok _ fun G => sn_pp0_1_lt _ hF G) (run_mem (lr_pp_lt_00_0_1 _ hG) mm) Tryz.call4 (denL_of dA (denL_of dB (denL_of (dp _ hk) (denL_of (dq _ hj) rfl))))
  · exact Go.Va.good_of (tabn_ok _ fun G => sn_pp0_2_lt _ hF G) (run_mem (lr_pp_lt_00_0_2 _ hG) mm) Tryz.call4 (denL_of dA (denL_of dB (denL_of (dp _ hk) (denL_of (dq _ hj) rfl))))
  · exact Go.Va.good_of (tabn_ok _ fun G => sn_pp0_3_lt _ hF G) (run_mem (lr_pp_lt_00_0_3 _ hG) mm) Tryz.call4 (denL_of dA (denL_of dB (denL_of (dp _ hk) (denL_of (dq _ hj) rfl))))
  · exact Go.Va.good_of (tabn_ok _ fun G => sn_pp0_4_lt _ hF G) (run_mem (lr_pp_lt_00_0_4 _ hG) mm) Tryz.call4 (denL_of dA (denL_of dB (denL_of (dp _ hk) (denL_of (dq _ hj) rfl))))
  · exact Go.Va.good_of (tabn_ok _ fun G => sn_pp0_5_lt _ hF G) (run_mem (lr_pp_lt_00_0_5 _ hG) mm) Tryz.call4 (denL_of dA (denL_of dB (denL_of (dp _ hk) (denL_of (dq _ hj) rfl))))
  · exact Go.Va.good_of (tabn_ok _ fun G => sn_pp1_0_lt _ hF G) (run_mem (lr_pp_lt_00_1_0 _ hG) mm) Tryz.call4 (denL_of dA (denL_of dB (denL_of (dp _ hk) (denL_of (dq _ hj) rfl))))
  · exact Go.Va.good_of (tabn_ok _ fun G => sn_pp1_1_lt _ hF G) (run_mem (lr_pp_lt_00_1_1 _ hG) mm) Tryz.call4 (denL_of dA (denL_of dB (denL_of (dp _ hk) (denL_of (dq _ hj) rfl))))
  · exact Go.Va.good_of (tabn_ok _ fun G => sn_pp1_2_lt _ hF G) (run_mem (lr_pp_lt_00_1_2 _ hG) mm) Tryz.call4 (denL_of dA (denL_of dB (denL_of (dp _ hk) (denL_of (dq _ hj) rfl))))
  · exact Go.Va.good_of (tabn_ok _ fun G => sn_pp1_3_lt _ hF G) (run_mem (lr_pp_lt_00_1_3 _ hG) mm) Tryz.call4 (denL_of dA (denL_of dB (denL_of (dp _ hk) (denL_of (dq _ hj) rfl))))
  · exact Go.Va.good_of (tabn_ok _ fun G => sn_pp1_4_lt _ hF G) (run_mem (lr_pp_lt_00_1_4 _ hG) mm) Tryz.call4 (denL_of dA (denL_of dB (denL_of (dp _ hk) (denL_of (dq _ hj) rfl))))
  · exact Go.Va.good_of (tabn_ok _ fun G => sn_pp1_5_lt _ hF G) (run_mem (lr_pp_lt_00_1_5 _ hG) mm) Tryz.call4 (denL_of dA (denL_of dB (denL_of (dp _ hk) (denL_of (dq _ hj) rfl))))
theorem lg_pp_lt_00_0 (a b p q : Int) (ha : 1 ≤ a ∧ a ≤ 9) (hb : 1 ≤ b ∧ b ≤ 9) (hr : a < b) (hp : 0 ≤ p ∧ p ≤ 255) (hq : 0 ≤ q ∧ q ≤ 255) : Go.Va.Good Tryz.prog 4 [.int .i8 a, .int .i8 b, .int .u8 p, .int .u8 q] := by
  have hF := lf_pp_lt (a) (b) (p / 6) (q / 2) (by omega) (by omega) (by omega) (by omega) (by omega)
  exact lh_pp_lt_00 a b p q (a) (b) hF hF _ _ (.head _) (den_byB _ rfl (by omega) (by omega)) (den_byB _ rfl (by omega) (by omega)) hp hq
theorem lg_pp_lt_00_1 (a b p q : Int) (ha : 1 ≤ a ∧ a ≤ 9) (hb : 10 ≤ b ∧ b ≤ 99) (hr : a < b) (hp : 0 ≤ p ∧ p ≤ 255) (hq : 0 ≤ q ∧ q ≤ 255) : Go.Va.Good Tryz.prog 4 [.int .i8 a, .int .i8 b, .int .u8 p, .int .u8 q] := by
  have hF := lf_pp_lt (a) (b) (p / 6) (q / 2) (by omega) (by omega) (by omega) (by omega) (by omega)
  exact lh_pp_lt_00 a b p q (a) (b) hF hF _ _ (.tail _ (.head _)) (den_byB _ rfl (by omega) (by omega)) (den_byB _ rfl (by omega) (by omega)) hp hq
theorem lg_pp_lt_00_2 (a b p q : Int) (ha : 1 ≤ a ∧ a ≤ 9) (hb : 100 ≤ b ∧ b ≤ 127) (hr : a < b) (hp : 0 ≤ p ∧ p ≤ 255) (hq : 0 ≤ q ∧ q ≤ 255) : Go.Va.Good Tryz.prog 4 [.int .i8 a, .int .i8 b, .int .u8 p, .int .u8 q] := by
  have hF := lf_pp_lt (a) (b) (p / 6) (q / 2) (by omega) (by omega) (by omega) (by omega) (by omega)
  exact lh_pp_lt_00 a b p q (a) (b) hF hF _ _ (.tail _ (.tail _ (.head _))) (den_byB _ rfl (by omega) (by omega)) (den_byB _ rfl (by omega) (by omega)) hp hq
theorem lg_pp_lt_00_3 (a b p q : Int) (ha : 10 ≤ a ∧ a ≤ 99) (hb : 10 ≤ b ∧ b ≤ 99) (hr : a < b) (hp : 0 ≤ p ∧ p ≤ 255) (hq : 0 ≤ q ∧ q ≤ 255) : Go.Va.Good Tryz.prog 4 [.int .i8 a, .int .i8 b, .int .u8 p, .int .u8 q] := by
  have hF := lf_pp_lt (a) (b) (p / 6) (q / 2) (by omega) (by omega) (by omega) (by omega) (by omega)
  exact lh_pp_lt_00 a b p q (a) (b) hF hF _ _ (.tail _ (.tail _ (.tail _ (.head _)))) (den_byB _ rfl (by omega) (by omega)) (den_byB _ rfl (by omega) (by omega)) hp hq
theorem lg_pp_lt_00_4 (a b p q : Int) (ha : 10 ≤ a ∧ a ≤ 99) (hb : 100 ≤ b ∧ b ≤ 127) (hr : a < b) (hp : 0 ≤ p ∧ p ≤ 255) (hq : 0 ≤ q ∧ q ≤ 255) : Go.Va.Good Tryz.prog 4 [.int .i8 a, .int .i8 b, .int .u8 p, .int .u8 q] := by
  have hF := lf_pp_lt (a) (b) (p / 6) (q / 2) (by omega) (by omega) (by omega) (by omega) (by omega)
  exact lh_pp_lt_00 a b p q (a) (b) hF hF _ _ (.tail _ (.tail _ (.tail _ (.tail _ (.head _))))) (den_byB _ rfl (by omega) (by omega)) (den_byB _ rfl (by omega) (by omega)) hp hq
theorem lg_pp_lt_00_5 (a b p q : Int) (ha : 100 ≤ a ∧ a ≤ 127) (hb : 100 ≤ b ∧ b ≤ 127) (hr : a < b) (hp : 0 ≤ p ∧ p ≤ 255) (hq : 0 ≤ q ∧ q ≤ 255) : Go.Va.Good Tryz.prog 4 [.int .i8 a, .int .i8 b, .int .u8 p, .int .u8 q] := by
  have hF := lf_pp_lt (a) (b) (p / 6) (q / 2) (by omega) (by omega) (by omega) (by omega) (by omega)
  exact lh_pp_lt_00 a b p q (a) (b) hF hF _ _ (.tail _ (.tail _ (.tail _ (.tail _ (.tail _ (.head _)))))) (den_byB _ rfl (by omega) (by omega)) (den_byB _ rfl (by omega) (by omega)) hp hq
theorem lh_pp_eq_11 (a b p q u v : Int) (hF : @okF (ofB [u, v, p / 6, q / 2]) laF_pp_eq) (hG : @okF (ofB [u, v, p / 6, q / 2]) laG_pp_eq_11) (X Y : FV) (mm : (X, Y) ∈ laA_pp_eq_11) (dA : @den (ofB [u, v, p / 6, q / 2]) env0 X = some (.int .i8 a)) (dB : @den (ofB [u, v, p / 6, q / 2]) env0 Y = some (.int .i8 b)) (hp : 0 ≤ p ∧ p ≤ 255) (hq : 0 ≤ q ∧ q ≤ 255) : Go.Va.Good Tryz.prog 4 [.int .i8 a, .int .i8 b, .int .u8 p, .int .u8 q] := by
  letI V : Vl := @Vl.mk (ofB [u, v, p / 6, q / 2]) laG_pp_eq_11 hG
  have hk : p % 6 = 0 ∨ p % 6 = 1 ∨ p % 6 = 2 ∨ p % 6 = 3 ∨ p % 6 = 4 ∨ p % 6 = 5 := by omega
  have hj : q % 2 = 0 ∨ q % 2 = 1 := by omega
  have dp : ∀ k : Int, p % 6 = k → den env0 (opA k) = some (.int .u8 p) := fun k e => den_by (show 6 * (p / 6) + k = p by omega) (by omega) hp.2
  have dq : ∀ k : Int, q % 2 = k → den env0 (howA k) = some (.int .u8 q) := fun k e => den_by (show 2 * (q / 2) + k = q by omega) (by omega) hq.2
  rcases hj with hj | hj <;> rcases hk with hk | hk | hk | hk | hk | hk
  · exact Go.Va.good_of (tabn_ok _ fun G => sn_pp0_0_eq _ hF G) (run_mem (lr_pp_eq_11_0_0 _ hG) mm) Tryz.call4 (denL_of dA (denL_of dB (denL_of (dp _ hk) (denL_of (dq _ hj) rfl))))
  · exact Go.Va.good_of (tabn_ok _ fun G => sn_pp0_1_eq _ hF G) (run_mem (lr_pp_eq_11_0_1 _ hG) mm) Tryz.call4 (denL_of dA (denL_of dB (denL_of (dp _ hk) (denL_of (dq _ hj) rfl))))
  · exact Go.Va.good_of (tabn_ok _ fun G => sn_pp0_2_eq _ hF G) (run_mem (lr_pp_eq_11_0_2 _ hG) mm) Tryz.call4 (denL_of dA (denL_of dB (denL_of (dp _ hk) (denL_of (dq _ hj) rfl))))
  · exact Go.Va.good_of (tabn_ok _ fun G => sn_pp0_3_eq _ hF G) (run_mem (lr_pp_eq_11_0_3 _ hG) mm) Tryz.call4 (denL_of dA (denL_of dB (denL_of (dp _ hk) (denL_of (dq _ hj) rfl))))
  · exact Go.Va.good_of (tabn_ok _ fun G => sn_pp0_4_eq _ hF G) (run_mem (lr_pp_eq_11_0_4 _ hG) mm) Tryz.call4 (denL_of dA (denL_of dB (denL_of (dp _ hk) (denL_of (dq _ hj) rfl))))
  · exact Go.Va.good_of (tabn_ok _ fun G => sn_pp0_5_eq _ hF G) (run_mem (lr_pp_eq_11_0_5 _ hG) mm) Tryz.call4 (denL_of dA (denL_of dB (denL_of (dp _ hk) (denL_of (dq _ hj) rfl))))
  · exact Go.Va.good_of (tabn_ok _ fun G => sn_pp1_0_eq _ hF G) (run_mem (lr_pp_eq_11_1_0 _ hG) mm) Tryz.call4 (denL_of dA (denL_of dB (denL_of (dp _ hk) (denL_of (dq _ hj) rfl))))
  · exact Go.Va.good_of (tabn_ok _ fun G => sn_pp1_1_eq _ hF G) (run_mem (lr_pp_eq_11_1_1 _ hG) mm) Tryz.call4 (denL_of dA (denL_of dB (denL_of (dp _ hk) (denL_of (dq _ hj) rfl))))
  · exact Go.Va.good_of (tabn_ok _ fun G => sn_pp1_2_eq _ hF G) (run_mem (lr_pp_eq_11_1_2 _ hG) mm) Tryz.call4 (denL_of dA (denL_of dB (denL_of (dp _ hk) (denL_of (dq _ hj) rfl))))
  · exact Go.Va.good_of (tabn_ok _ fun G => sn_pp1_3_eq _ hF G) (run_mem (lr_pp_eq_11_1_3 _ hG) mm) Tryz.call4 (denL_of dA (denL_of dB (denL_of (dp _ hk) (denL_of (dq _ hj) rfl))))
  · exact Go.Va.good_of (tabn_ok _ fun G => sn_pp1_4_eq _ hF G) (run_mem (lr_pp_eq_11_1_4 _ hG) mm) Tryz.call4 (denL_of dA (denL_of dB (denL_of (dp _ hk) (denL_of (dq _ hj) rfl))))
  · exact Go.Va.good_of (tabn_ok _ fun G => sn_pp1_5_eq _ hF G) (run_mem (lr_pp_eq_11_1_5 _ hG) mm) Tryz.call4 (denL_of dA (denL_of dB (denL_of (dp _ hk) (denL_of (dq _ hj) rfl))))
theorem lg_pp_eq_11_0 (a b p q : Int) (ha : a = 0) (hb : b = 0) (hr : a = b) (hp : 0 ≤ p ∧ p ≤ 255) (hq : 0 ≤ q ∧ q ≤ 255) : Go.Va.Good Tryz.prog 4 [.int .i8 a, .int .i8 b, .int .u8 p, .int .u8 q] := by
  have hF := lf_pp_eq (a) (b) (p / 6) (q / 2) (by omega) (by omega) (by omega) (by omega) (by omega)
  exact lh_pp_eq_11 a b p q (a) (b) hF ⟨decide_eq_true (show (a : Int) = 0 by omega), decide_eq_true (show (b : Int) = 0 by omega), hF⟩ _ _ (.head _) (den_intB _ (by omega)) (den_intB _ (by omega)) hp hq
theorem lh_pp_eq_00 (a b p q u v : Int) (hF : @okF (ofB [u, v, p / 6, q / 2]) laF_pp_eq) (hG : @okF (ofB [u, v, p / 6, q / 2]) laG_pp_eq_00) (X Y : FV) (mm : (X, Y) ∈ laA_pp_eq_00) (dA : @den (ofB [u, v, p / 6, q / 2]) env0 X = some (.int .i8 a)) (dB : @den (ofB [u, v, p / 6, q / 2]) env0 Y = some (.int .i8 b)) (hp : 0 ≤ p ∧ p ≤ 255) (hq : 0 ≤ q ∧ q ≤ 255) : Go.Va.Good Tryz.prog 4 [.int .i8 a, .int .i8 b, .int .u8 p, .int .u8 q] := by
  letI V : Vl := @Vl.mk (ofB [u, v, p / 6, q / 2]) laG_pp_eq_00 hG
  have hk : p % 6 = 0 ∨ p % 6 = 1 ∨ p % 6 = 2 ∨ p % 6 = 3 ∨ p % 6 = 4 ∨ p % 6 = 5 := by omega
  have hj : q % 2 = 0 ∨ q % 2 = 1 := by omega
  have dp : ∀ k : Int, p % 6 = k → den env0 (opA k) = some (.int .u8 p) := fun k e => den_by (show 6 * (p / 6) + k = p by omega) (by omega) hp.2
  have dq : ∀ k : Int, q % 2 = k → den env0 (howA k) = some (.int .u8 q) := fun k e => den_by (show 2 * (q / 2) + k = q by omega) (by omega) hq.2
  rcases hj with hj | hj <;> rcases hk with hk | hk | hk | hk | hk | hk
  · exact Go.Va.good_of (tabn_ok _ fun G => sn_pp0_0_eq _ hF G) (run_mem (lr_pp_eq_00_0_0 _ hG) mm) Tryz.call4 (denL_of dA (denL_of dB (denL_of (dp _ hk) (denL_of (dq _ hj) rfl))))
  · exact Go.Va.good_of (tabn_ok _ fun G => sn_pp0_1_eq _ hF G) (run_mem (lr_pp_eq_00_0_1 _ hG) mm) Tryz.call4 (denL_of dA (denL_of dB (denL_of (dp _ hk) (denL_of (dq _ hj) rfl))))
  · exact Go.Va.good_of (tabn_ok _ fun G => sn_pp0_2_eq _ hF G) (run_mem (lr_pp_eq_00_0_2 _ hG) mm) Tryz.call4 (denL_of dA (denL_of dB (denL_of (dp _ hk) (denL_of (dq _ hj) rfl))))
  · exact Go.Va.good_of (tabn_ok _ fun G => sn_pp0_3_eq _ hF G) (run_mem (lr_pp_eq_00_0_3 _ hG) mm) Tryz.call4 (denL_of dA (denL_of dB (denL_of (dp _ hk) (denL_of (dq _ hj) rfl))))
  · exact Go.Va.good_of (tabn_ok _ fun G => sn_pp0_4_eq _ hF G) (run_mem (lr_pp_eq_00_0_4 _ hG) mm) Tryz.call4 (denL_of dA (denL_of dB (denL_of (dp _ hk) (denL_of (dq _ hj) rfl))))
  · exact Go.Va.good_of (tabn_ok _ fun G => sn_pp0_5_eq _ hF G) (run_mem (lr_pp_eq_00_0_5 _ hG) mm) Tryz.call4 (denL_of dA (denL_of dB (denL_of (dp _ hk) (denL_of (dq _ hj) rfl))))
  · exact Go.Va.good_of (tabn_ok _ fun G => sn_pp1_0_eq _ hF G) (run_mem (lr_pp_eq_00_1_0 _ hG) mm) Tryz.call4 (denL_of dA (denL_of dB (denL_of (dp _ hk) (denL_of (dq _ hj) rfl))))
  · exact Go.Va.good_of (tabn_ok _ fun G => sn_pp1_1_eq _ hF G) (run_mem (lr_pp_eq_00_1_1 _ hG) mm) Tryz.call4 (denL_of dA (denL_of dB (denL_of (dp _ hk) (denL_of (dq _ hj) rfl))))
  · exact Go.Va.good_of (tabn_ok _ fun G => sn_pp1_2_eq _ hF G) (run_mem (lr_pp_eq_00_1_2 _ hG) mm) Tryz.call4 (denL_of dA (denL_of dB (denL_of (dp _ hk) (denL_of (dq _ hj) rfl))))
  · exact Go.Va.good_of (tabn_ok _ fun G => sn_pp1_3_eq _ hF G) (run_mem (lr_pp_eq_00_1_3 _ hG) mm) Tryz.call4 (denL_of dA (denL_of dB (denL_of (dp _ hk) (denL_of (dq _ hj) rfl))))
  · exact Go.Va.good_of (tabn_ok _ fun G => sn_pp1_4_eq _ hF G) (run_mem (lr_pp_eq_00_1_4 _ hG) mm) Tryz.call4 (denL_of dA (denL_of dB (denL_of (dp _ hk) (denL_of (dq _ hj) rfl))))
  · exact Go.Va.good_of (tabn_ok _ fun G => sn_pp1_5_eq _ hF G) (run_mem (lr_pp_eq_00_1_5 _ hG) mm) Tryz.call4 (denL_of dA (denL_of dB (denL_of (dp _ hk) (denL_of (dq _ hj) rfl))))
theorem lg_pp_eq_00_0 (a b p q : Int) (ha : 1 ≤ a ∧ a ≤ 9) (hb : 1 ≤ b ∧ b ≤ 9) (hr : a = b) (hp : 0 ≤ p ∧ p ≤ 255) (hq : 0 ≤ q ∧ q ≤ 255) : Go.Va.Good Tryz.prog 4 [.int .i8 a, .int .i8 b, .int .u8 p, .int .u8 q] := by
  have hF := lf_pp_eq (a) (b) (p / 6) (q / 2) (by omega) (by omega) (by omega) (by omega) (by omega)
  exact lh_pp_eq_00 a b p q (a) (b) hF hF _ _ (.head _) (den_byB _ rfl (by omega) (by omega)) (den_byB _ rfl (by omega) (by omega)) hp hq
theorem lg_pp_eq_00_1 (a b p q : Int) (ha : 10 ≤ a ∧ a ≤ 99) (hb : 10 ≤ b ∧ b ≤ 99) (hr : a = b) (hp : 0 ≤ p ∧ p ≤ 255) (hq : 0 ≤ q ∧ q ≤ 255) : Go.Va.Good Tryz.prog 4 [.int .i8 a, .int .i8 b, .int .u8 p, .int .u8 q] := by
  have hF := lf_pp_eq (a) (b) (p / 6) (q / 2) (by omega) (by omega) (by omega) (by omega) (by omega)
  exact lh_pp_eq_00 a b p q (a) (b) hF hF _ _ (.tail _ (.head _)) (den_byB _ rfl (by omega) (by omega)) (den_byB _ rfl (by omega) (by omega)) hp hq
theorem lg_pp_eq_00_2 (a b p q : Int) (ha : 100 ≤ a ∧ a ≤ 127) (hb : 100 ≤ b ∧ b ≤ 127) (hr : a = b) (hp : 0 ≤ p ∧ p ≤ 255) (hq : 0 ≤ q ∧ q ≤ 255) : Go.Va.Good Tryz.prog 4 [.int .i8 a, .int .i8 b, .int .u8 p, .int .u8 q] := by
  have hF := lf_pp_eq (a) (b) (p / 6) (q / 2) (by omega) (by omega) (by omega) (by omega) (by omega)
  exact lh_pp_eq_00 a b p q (a) (b) hF hF _ _ (.tail _ (.tail _ (.head _))) (den_byB _ rfl (by omega) (by omega)) (den_byB _ rfl (by omega) (by omega)) hp hq
theorem lh_pp_gt_01 (a b p q u v : Int) (hF : @okF (ofB [u, v, p / 6, q / 2]) laF_pp_gt) (hG : @okF (ofB [u, v, p / 6, q / 2]) laG_pp_gt_01) (X Y : FV) (mm : (X, Y) ∈ laA_pp_gt_01) (dA : @den (ofB [u, v, p / 6, q / 2]) env0 X = some (.int .i8 a)) (dB : @den (ofB [u, v, p / 6, q / 2]) env0 Y = some (.int .i8 b)) (hp : 0 ≤ p ∧ p ≤ 255) (hq : 0 ≤ q ∧ q ≤ 255) : Go.Va.Good Tryz.prog 4 [.int .i8 a, .int .i8 b, .int .u8 p, .int .u8 q] := by
  letI V : Vl := @Vl.mk (ofB [u, v, p / 6, q / 2]) laG_pp_gt_01 hG
  have hk : p % 6 = 0 ∨ p % 6 = 1 ∨ p % 6 = 2 ∨ p % 6 = 3 ∨ p % 6 = 4 ∨ p % 6 = 5 := by omega
  have hj : q % 2 = 0 ∨ q % 2 = 1 := by omega
  have dp : ∀ k : Int, p % 6 = k → den env0 (opA k) = some (.int .u8 p) := fun k e => den_by (show 6 * (p / 6) + k = p by omega) (by omega) hp.2
  have dq : ∀ k : Int, q % 2 = k → den env0 (howA k) = some (.int .u8 q) := fun k e => den_by (show 2 * (q / 2) + k = q by omega) (by omega) hq.2
  rcases hj with hj | hj <;> rcases hk with hk | hk | hk | hk | hk | hk
  · exact Go.Va.good_of (tabn_ok _ fun G => sn_pp0_0_gt _ hF G) (run_mem (lr_pp_gt_01_0_0 _ hG) mm) Tryz.call4 (denL_of dA (denL_of dB (denL_of (dp _ hk) (denL_of (dq _ hj) rfl))))
  · exact Go.Va.good_of (tabn_ok _ fun G => sn_pp0_1_gt _ hF G) (run_mem (lr_pp_gt_01_0_1 _ hG) mm) Tryz.call4 (denL_of dA (denL_of dB (denL_of (dp _ hk) (denL_of (dq _ hj) rfl))))
  · exact Go.Va.good_of (tabn_ok _ fun G => sn_pp0_2_gt _ hF G) (run_mem (lr_pp_gt_01_0_2 _ hG) mm) Tryz.call4 (denL_of dA (denL_of dB (denL_of (dp _ hk) (denL_of (dq _ hj) rfl))))
  · exact Go.Va.good_of (tabn_ok _ fun G => sn_pp0_3_gt _ hF G) (run_mem (lr_pp_gt_01_0_3 _ hG) mm) Tryz.call4 (denL_of dA (denL_of dB (denL_of (dp _ hk) (denL_of (dq _ hj) rfl))))
  · exact Go.Va.good_of (tabn_ok _ fun G => sn_pp0_4_gt _ hF G) (run_mem (lr_pp_gt_01_0_4 _ hG) mm) Tryz.call4 (denL_of dA (denL_of dB (denL_of (dp _ hk) (denL_of (dq _ hj) rfl))))
  · exact Go.Va.good_of (tabn_ok _ fun G => sn_pp0_5_gt _ hF G) (run_mem (lr_pp_gt_01_0_5 _ hG) mm) Tryz.call4 (denL_of dA (denL_of dB (denL_of (dp _ hk) (denL_of (dq _ hj) rfl))))
  · exact Go.Va.good_of (tabn_ok _ fun G => sn_pp1_0_gt _ hF G) (run_mem (lr_pp_gt_01_1_0 _ hG) mm) Tryz.call4 (denL_of dA (denL_of dB (denL_of (dp _ hk) (denL_of (dq _ hj) rfl))))
  · exact Go.Va.good_of (tabn_ok _ fun G => sn_pp1_1_gt _ hF G) (run_mem (lr_pp_gt_01_1_1 _ hG) mm) Tryz.call4 (denL_of dA (denL_of dB (denL_of (dp _ hk) (denL_of (dq _ hj) rfl))))
  · exact Go.Va.good_of (tabn_ok _ fun G => sn_pp1_2_gt _ hF G) (run_mem (lr_pp_gt_01_1_2 _ hG) mm) Tryz.call4 (denL_of dA (denL_of dB (denL_of (dp _ hk) (denL_of (dq _ hj) rfl))))
  · exact Go.Va.good_of (tabn_ok _ fun G => sn_pp1_3_gt _ hF G) (run_mem (lr_pp_gt_01_1_3 _ hG) mm) Tryz.call4 (denL_of dA (denL_of dB (denL_of (dp _ hk) (denL_of (dq _ hj) rfl))))
  · exact Go.Va.good_of (tabn_ok _ fun G => sn_pp1_4_gt _ hF G) (run_mem (lr_pp_gt_01_1_4 _ hG) mm) Tryz.call4 (denL_of dA (denL_of dB (denL_of (dp _ hk) (denL_of (dq _ hj) rfl))))
  · exact Go.Va.good_of (tabn_ok _ fun G => sn_pp1_5_gt _ hF G) (run_mem (lr_pp_gt_01_1_5 _ hG) mm) Tryz.call4 (denL_of dA (denL_of dB (denL_of (dp _ hk) (denL_of (dq _ hj) rfl))))
theorem lg_pp_gt_01_0 (a b p q : Int) (ha : 1 ≤ a ∧ a ≤ 9) (hb : b = 0) (hr : b < a) (hp : 0 ≤ p ∧ p ≤ 255) (hq : 0 ≤ q ∧ q ≤ 255) : Go.Va.Good Tryz.prog 4 [.int .i8 a, .int .i8 b, .int .u8 p, .int .u8 q] := by
  have hF := lf_pp_gt (a) (b) (p / 6) (q / 2) (by omega) (by omega) (by omega) (by omega) (by omega)
  exact lh_pp_gt_01 a b p q (a) (b) hF ⟨decide_eq_true (show (b : Int) = 0 by omega), hF⟩ _ _ (.head _) (den_byB _ rfl (by omega) (by omega)) (den_intB _ (by omega)) hp hq
theorem lg_pp_gt_01_1 (a b p q : Int) (ha : 10 ≤ a ∧ a ≤ 99) (hb : b = 0) (hr : b < a) (hp : 0 ≤ p ∧ p ≤ 255) (hq : 0 ≤ q ∧ q ≤ 255) : Go.Va.Good Tryz.prog 4 [.int .i8 a, .int .i8 b, .int .u8 p, .int .u8 q] := by
  have hF := lf_pp_gt (a) (b) (p / 6) (q / 2) (by omega) (by omega) (by omega) (by omega) (by omega)
  exact lh_pp_gt_01 a b p q (a) (b) hF ⟨decide_eq_true (show (b : Int) = 0 by omega), hF⟩ _ _ (.tail _ (.head _)) (den_byB _ rfl (by omega) (by omega)) (den_intB _ (by omega)) hp hq
theorem lg_pp_gt_01_2 (a b p q : Int) (ha : 100 ≤ a ∧ a ≤ 127) (hb : b = 0) (hr : b < a) (hp : 0 ≤ p ∧ p ≤ 255) (hq : 0 ≤ q ∧ q ≤ 255) : Go.Va.Good Tryz.prog 4 [.int .i8 a, .int .i8 b, .int .u8 p, .int .u8 q] := by
  have hF := lf_pp_gt (a) (b) (p / 6) (q / 2) (by omega) (by omega) (by omega) (by omega) (by omega)
  exact lh_pp_gt_01 a b p q (a) (b) hF ⟨decide_eq_true (show (b : Int) = 0 by omega), hF⟩ _ _ (.tail _ (.tail _ (.head _))) (den_byB _ rfl (by omega) (by omega)) (den_intB _ (by omega)) hp hq
theorem lh_pp_gt_00 (a b p q u v : Int) (hF : @okF (ofB [u, v, p / 6, q / 2]) laF_pp_gt) (hG : @okF (ofB [u, v, p / 6, q / 2]) laG_pp_gt_00) (X Y : FV) (mm : (X, Y) ∈ laA_pp_gt_00) (dA : @den (ofB [u, v, p / 6, q / 2]) env0 X = some (.int .i8 a)) (dB : @den (ofB [u, v, p / 6, q / 2]) env0 Y = some (.int .i8 b)) (hp : 0 ≤ p ∧ p ≤ 255) (hq : 0 ≤ q ∧ q ≤ 255) : Go.Va.Good Tryz.prog 4 [.int .i8 a, .int .i8 b, .int .u8 p, .int .u8 q] := by
  letI V : Vl := @Vl.mk (ofB [u, v, p / 6, q / 2]) laG_pp_gt_00 hG
  have hk : p % 6 = 0 ∨ p % 6 = 1 ∨ p % 6 = 2 ∨ p % 6 = 3 ∨ p % 6 = 4 ∨ p % 6 = 5 := by omega
  have hj : q % 2 = 0 ∨ q % 2 = 1 := by omega
  have dp : ∀ k : Int, p % 6 = k → den env0 (opA k) = some (.int .u8 p) := fun k e => den_by (show 6 * (p / 6) + k = p by omega) (by omega) hp.2
  have dq : ∀ k : Int, q % 2 = k → den env0 (howA k) = some (.int .u8 q) := fun k e => den_by (show 2 * (q / 2) + k = q by omega) (by omega) hq.2
  rcases hj with hj | hj <;> rcases hk with hk | hk | hk | hk | hk | hk
  · exact Go.Va.good_of (tabn_ok _ fun G => sn_pp0_0_gt _ hF G) (run_mem (lr_pp_gt_00_0_0 _ hG) mm) Tryz.call4 (denL_of dA (denL_of dB (denL_of (dp _ hk) (denL_of (dq _ hj) rfl))))
  · exact Go.Va.good_of (tabn_ok _ fun G => sn_pp0_1_gt _ hF G) (run_mem (lr_pp_gt_00_0_1 _ hG) mm) Tryz.call4 (denL_of dA (denL_of dB (denL_of (dp _ hk) (denL_of (dq _ hj) rfl))))
  · exact Go.Va.good_of (tabn_ok _ fun G => sn_pp0_2_gt _ hF G) (run_mem (lr_pp_gt_00_0_2 _ hG) mm) Tryz.call4 (denL_of dA (denL_of dB (denL_of (dp _ hk) (denL_of (dq _ hj) rfl))))
  · exact Go.Va.good_of (tabn_ok _ fun G => sn_pp0_3_gt _ hF G) (run_mem (lr_pp_gt_00_0_3 _ hG) mm) Tryz.call4 (denL_of dA (denL_of dB (denL_of (dp _ hk) (denL_of (dq _ hj) rfl))))
  · exact Go.Va.good_of (tabn_ok _ fun G => sn_pp0_4_gt _ hF G) (run_mem (lr_pp_gt_00_0_4 _ hG) mm) Tryz.call4 (denL_of dA (denL_of dB (denL_of (dp _ hk) (denL_of (dq _ hj) rfl))))
  · exact Go.Va.good_of (tabn_ok _ fun G => sn_pp0_5_gt _ hF G) (run_mem (lr_pp_gt_00_0_5 _ hG) mm) Tryz.call4 (denL_of dA (denL_of dB (denL_of (dp _ hk) (denL_of (dq _ hj) rfl))))
  · exact Go.Va.good_of (tabn_ok _ fun G => sn_pp1_0_gt _ hF G) (run_mem (lr_pp_gt_00_1_0 _ hG) mm) Tryz.call4 (denL_of dA (denL_of dB (denL_of (dp _ hk) (denL_of (dq _ hj) rfl))))
  · exact Go.Va.good_of (tabn_ok _ fun G => sn_pp1_1_gt _ hF G) (run_mem (lr_pp_gt_00_1_1 _ hG) mm) Tryz.call4 (denL_of dA (denL_of dB (denL_of (dp _ hk) (denL_of (dq _ hj) rfl))))
  · exact Go.Va.good_of (tabn_ok _ fun G => sn_pp1_2_gt _ hF G) (run_mem (lr_pp_gt_00_1_2 _ hG) mm) Tryz.call4 (denL_of dA (denL_of dB (denL_of (dp _ hk) (denL_of (dq _ hj) rfl))))
  · exact Go.Va.good_of (tabn_ok _ fun G => sn_pp1_3_gt _ hF G) (run_mem (lr_pp_gt_00_1_3 _ hG) mm) Tryz.call4 (denL_of dA (denL_of dB (denL_of (dp _ hk) (denL_of (dq _ hj) rfl))))
  · exact Go.Va.good_of (tabn_ok _ fun G => sn_pp1_4_gt _ hF G) (run_mem (lr_pp_gt_00_1_4 _ hG) mm) Tryz.call4 (denL_of dA (denL_of dB (denL_of (dp _ hk) (denL_of (dq _ hj) rfl))))
  · exact Go.Va.good_of (tabn_ok _ fun G => sn_pp1_5_gt _ hF G) (run_mem (lr_pp_gt_00_1_5 _ hG) mm) Tryz.call4 (denL_of dA (denL_of dB (denL_of (dp _ hk) (denL_of (dq _ hj) rfl))))
theorem lg_pp_gt_00_0 (a b p q : Int) (ha : 1 ≤ a ∧ a ≤ 9) (hb : 1 ≤ b ∧ b ≤ 9) (hr : b < a) (hp : 0 ≤ p ∧ p ≤ 255) (hq : 0 ≤ q ∧ q ≤ 255) : Go.Va.Good Tryz.prog 4 [.int .i8 a, .int .i8 b, .int .u8 p, .int .u8 q] := by
  have hF := lf_pp_gt (a) (b) (p / 6) (q / 2) (by omega) (by omega) (by omega) (by omega) (by omega)
  exact lh_pp_gt_00 a b p q (a) (b) hF hF _ _ (.head _) (den_byB _ rfl (by omega) (by omega)) (den_byB _ rfl (by omega) (by omega)) hp hq
theorem lg_pp_gt_00_1 (a b p q : Int) (ha : 10 ≤ a ∧ a ≤ 99) (hb : 1 ≤ b ∧ b ≤ 9) (hr : b < a) (hp : 0 ≤ p ∧ p ≤ 255) (hq : 0 ≤ q ∧ q ≤ 255) : Go.Va.Good Tryz.prog 4 [.int .i8 a, .int .i8 b, .int .u8 p, .int .u8 q] := by
  have hF := lf_pp_gt (a) (b) (p / 6) (q / 2) (by omega) (by omega) (by omega) (by omega) (by omega)
  exact lh_pp_gt_00 a b p q (a) (b) hF hF _ _ (.tail _ (.head _)) (den_byB _ rfl (by omega) (by omega)) (den_byB _ rfl (by omega) (by omega)) hp hq
theorem lg_pp_gt_00_2 (a b p q : Int) (ha : 10 ≤ a ∧ a ≤ 99) (hb : 10 ≤ b ∧ b ≤ 99) (hr : b < a) (hp : 0 ≤ p ∧ p ≤ 255) (hq : 0 ≤ q ∧ q ≤ 255) : Go.Va.Good Tryz.prog 4 [.int .i8 a, .int .i8 b, .int .u8 p, .int .u8 q] := by
  have hF := lf_pp_gt (a) (b) (p / 6) (q / 2) (by omega) (by omega) (by omega) (by omega) (by omega)
  exact lh_pp_gt_00 a b p q (a) (b) hF hF _ _ (.tail _ (.tail _ (.head _))) (den_byB _ rfl (by omega) (by omega)) (den_byB _ rfl (by omega) (by omega)) hp hq
theorem lg_pp_gt_00_3 (a b p q : Int) (ha : 100 ≤ a ∧ a ≤ 127) (hb : 1 ≤ b ∧ b ≤ 9) (hr : b < a) (hp : 0 ≤ p ∧ p ≤ 255) (hq : 0 ≤ q ∧ q ≤ 255) : Go.Va.Good Tryz.prog 4 [.int .i8 a, .int .i8 b, .int .u8 p, .int .u8 q] := by
  have hF := lf_pp_gt (a) (b) (p / 6) (q / 2) (by omega) (by omega) (by omega) (by omega) (by omega)
  exact lh_pp_gt_00 a b p q (a) (b) hF hF _ _ (.tail _ (.tail _ (.tail _ (.head _)))) (den_byB _ rfl (by omega) (by omega)) (den_byB _ rfl (by omega) (by omega)) hp hq
theorem lg_pp_gt_00_4 (a b p q : Int) (ha : 100 ≤ a ∧ a ≤ 127) (hb : 10 ≤ b ∧ b ≤ 99) (hr : b < a) (hp : 0 ≤ p ∧ p ≤ 255) (hq : 0 ≤ q ∧ q ≤ 255) : Go.Va.Good Tryz.prog 4 [.int .i8 a, .int .i8 b, .int .u8 p, .int .u8 q] := by
  have hF := lf_pp_gt (a) (b) (p / 6) (q / 2) (by omega) (by omega) (by omega) (by omega) (by omega)
  exact lh_pp_gt_00 a b p q (a) (b) hF hF _ _ (.tail _ (.tail _ (.tail _ (.tail _ (.head _))))) (den_byB _ rfl (by omega) (by omega)) (den_byB _ rfl (by omega) (by omega)) hp hq
theorem lg_pp_gt_00_5 (a b p q : Int) (ha : 100 ≤ a ∧ a ≤ 127) (hb : 100 ≤ b ∧ b ≤ 127) (hr : b < a) (hp : 0 ≤ p ∧ p ≤ 255) (hq : 0 ≤ q ∧ q ≤ 255) : Go.Va.Good Tryz.prog 4 [.int .i8 a, .int .i8 b, .int .u8 p, .int .u8 q] := by
  have hF := lf_pp_gt (a) (b) (p / 6) (q / 2) (by omega) (by omega) (by omega) (by omega) (by omega)
  exact lh_pp_gt_00 a b p q (a) (b) hF hF _ _ (.tail _ (.tail _ (.tail _ (.tail _ (.tail _ (.head _)))))) (den_byB _ rfl (by omega) (by omega)) (den_byB _ rfl (by omega) (by omega)) hp hq
theorem lh_nn_lt_00 (a b p q u v : Int) (hF : @okF (ofB [u, v, p / 6, q / 2]) laF_nn_lt) (hG : @okF (ofB [u, v, p / 6, q / 2]) laG_nn_lt_00) (X Y : FV) (mm : (X, Y) ∈ laA_nn_lt_00) (dA : @den (ofB [u, v, p / 6, q / 2]) env0 X = some (.int .i8 a)) (dB : @den (ofB [u, v, p / 6, q / 2]) env0 Y = some (.int .i8 b)) (hp : 0 ≤ p ∧ p ≤ 255) (hq : 0 ≤ q ∧ q ≤ 255) : Go.Va.Good Tryz.prog 4 [.int .i8 a, .int .i8 b, .int .u8 p, .int .u8 q] := by
  letI V : Vl := @Vl.mk (ofB [u, v, p / 6, q / 2]) laG_nn_lt_00 hG
  have hk : p % 6 = 0 ∨ p % 6 = 1 ∨ p % 6 = 2 ∨ p % 6 = 3 ∨ p % 6 = 4 ∨ p % 6 = 5 := by omega
  have hj : q % 2 = 0 ∨ q % 2 = 1 := by omega
  have dp : ∀ k : Int, p % 6 = k → den env0 (opA k) = some (.int .u8 p) := fun k e => den_by (show 6 * (p / 6) + k = p by omega) (by omega) hp.2
  have dq : ∀ k : Int, q % 2 = k → den env0 (howA k) = some (.int .u8 q) := fun k e => den_by (show 2 * (q / 2) + k = q by omega) (by omega) hq.2
  rcases hj with hj | hj <;> rcases hk with hk | hk | hk | hk | hk | hk
  · exact Go.Va.good_of (tabn_ok _ fun G => sn_nn0_0_lt _ hF G) (run_mem (lr_nn_lt_00_0_0 _ hG) mm) Tryz.call4 (denL_of dA (denL_of dB (denL_of (dp _ hk) (denL_of (dq _ hj) rfl))))
  · exact Go.Va.good_of (tabn_ok _ fun G => sn_nn0_1_lt _ hF G) (run_mem (lr_nn_lt_00_0_1 _ hG) mm) Tryz.call4 (denL_of dA (denL_of dB (denL_of (dp _ hk) (denL_of (dq _ hj) rfl))))
  · exact Go.Va.good_of (tabn_ok _ fun G => sn_nn0_2_lt _ hF G) (run_mem (lr_nn_lt_00_0_2 _ hG) mm) Tryz.call4 (denL_of dA (denL_of dB (denL_of (dp _ hk) (denL_of (dq _ hj) rfl))))
  · exact Go.Va.good_of (tabn_ok _ fun G => sn_nn0_3_lt _ hF G) (run_mem (lr_nn_lt_00_0_3 _ hG) mm) Tryz.call4 (denL_of dA (denL_of dB (denL_of (dp _ hk) (denL_of (dq _ hj) rfl))))
  · exact Go.Va.good_of (tabn_ok _ fun G => sn_nn0_4_lt _ hF G) (run_mem (lr_nn_lt_00_0_4 _ hG) mm) Tryz.call4 (denL_of dA (denL_of dB (denL_of (dp _ hk) (denL_of (dq _ hj) rfl))))
  · exact Go.Va.good_of (tabn_ok _ fun G => sn_nn0_5_lt _ hF G) (run_mem (lr_nn_lt_00_0_5 _ hG) mm) Tryz.call4 (denL_of dA (denL_of dB (denL_of (dp _ hk) (denL_of (dq _ hj) rfl))))
  · exact Go.Va.good_of (tabn_ok _ fun G => sn_nn1_0_lt _ hF G) (run_mem (lr_nn_lt_00_1_0 _ hG) mm) Tryz.call4 (denL_of dA (denL_of dB (denL_of (dp _ hk) (denL_of (dq _ hj) rfl))))
  · exact Go.Va.good_of (tabn_ok _ fun G => sn_nn1_1_lt _ hF G) (run_mem (lr_nn_lt_00_1_1 _ hG) mm) Tryz.call4 (denL_of dA (denL_of dB (denL_of (dp _ hk) (denL_of (dq _ hj) rfl))))
  · exact Go.Va.good_of (tabn_ok _ fun G => sn_nn1_2_lt _ hF G) (run_mem (lr_nn_lt_00_1_2 _ hG) mm) Tryz.call4 (denL_of dA (denL_of dB (denL_of (dp _ hk) (denL_of (dq _ hj) rfl))))
  · exact Go.Va.good_of (tabn_ok _ fun G => sn_nn1_3_lt _ hF G) (run_mem (lr_nn_lt_00_1_3 _ hG) mm) Tryz.call4 (denL_of dA (denL_of dB (denL_of (dp _ hk) (denL_of (dq _ hj) rfl))))
  · exact Go.Va.good_of (tabn_ok _ fun G => sn_nn1_4_lt _ hF G) (run_mem (lr_nn_lt_00_1_4 _ hG) mm) Tryz.call4 (denL_of dA (denL_of dB (denL_of (dp _ hk) (denL_of (dq _ hj) rfl))))
  · exact Go.Va.good_of (tabn_ok _ fun G => sn_nn1_5_lt _ hF G) (run_mem (lr_nn_lt_00_1_5 _ hG) mm) Tryz.call4 (denL_of dA (denL_of dB (denL_of (dp _ hk) (denL_of (dq _ hj) rfl))))
theorem lg_nn_lt_00_0 (a b p q : Int) (ha : -9 ≤ a ∧ a ≤ -1) (hb : -9 ≤ b ∧ b ≤ -1) (hr : a < b) (hp : 0 ≤ p ∧ p ≤ 255) (hq : 0 ≤ q ∧ q ≤ 255) : Go.Va.Good Tryz.prog 4 [.int .i8 a, .int .i8 b, .int .u8 p, .int .u8 q] := by
  have hF := lf_nn_lt (-a) (-b) (p / 6) (q / 2) (by omega) (by omega) (by omega) (by omega) (by omega)
  exact lh_nn_lt_00 a b p q (-a) (-b) hF hF _ _ (.head _) (den_byB _ (show 0 - -a = a by omega) (by omega) (by omega)) (den_byB _ (show 0 - -b = b by omega) (by omega) (by omega)) hp hq
theorem lg_nn_lt_00_1 (a b p q : Int) (ha : -99 ≤ a ∧ a ≤ -10) (hb : -9 ≤ b ∧ b ≤ -1) (hr : a < b) (hp : 0 ≤ p ∧ p ≤ 255) (hq : 0 ≤ q ∧ q ≤ 255) : Go.Va.Good Tryz.prog 4 [.int .i8 a, .int .i8 b, .int .u8 p, .int .u8 q] := by
  have hF := lf_nn_lt (-a) (-b) (p / 6) (q / 2) (by omega) (by omega) (by omega) (by omega) (by omega)
  exact lh_nn_lt_00 a b p q (-a) (-b) hF hF _ _ (.tail _ (.head _)) (den_byB _ (show 0 - -a = a by omega) (by omega) (by omega)) (den_byB _ (show 0 - -b = b by omega) (by omega) (by omega)) hp hq
theorem lg_nn_lt_00_2 (a b p q : Int) (ha : -99 ≤ a ∧ a ≤ -10) (hb : -99 ≤ b ∧ b ≤ -10) (hr : a < b) (hp : 0 ≤ p ∧ p ≤ 255) (hq : 0 ≤ q ∧ q ≤ 255) : Go.Va.Good Tryz.prog 4 [.int .i8 a, .int .i8 b, .int .u8 p, .int .u8 q] := by
  have hF := lf_nn_lt (-a) (-b) (p / 6) (q / 2) (by omega) (by omega) (by omega) (by omega) (by omega)
  exact lh_nn_lt_00 a b p q (-a) (-b) hF hF _ _ (.tail _ (.tail _ (.head _))) (den_byB _ (show 0 - -a = a by omega) (by omega) (by omega)) (den_byB _ (show 0 - -b = b by omega) (by omega) (by omega)) hp hq
theorem lg_nn_lt_00_3 (a b p q : Int) (ha : -128 ≤ a ∧ a ≤ -100) (hb : -9 ≤ b ∧ b ≤ -1) (hr : a < b) (hp : 0 ≤ p ∧ p ≤ 255) (hq : 0 ≤ q ∧ q ≤ 255) : Go.Va.Good Tryz.prog 4 [.int .i8 a, .int .i8 b, .int .u8 p, .int .u8 q] := by
  have hF := lf_nn_lt (-a) (-b) (p / 6) (q / 2) (by omega) (by omega) (by omega) (by omega) (by omega)
  exact lh_nn_lt_00 a b p q (-a) (-b) hF hF _ _ (.tail _ (.tail _ (.tail _ (.head _)))) (den_byB _ (show 0 - -a = a by omega) (by omega) (by omega)) (den_byB _ (show 0 - -b = b by omega) (by omega) (by omega)) hp hq
theorem lg_nn_lt_00_4 (a b p q : Int) (ha : -128 ≤ a ∧ a ≤ -100) (hb : -99 ≤ b ∧ b ≤ -10) (hr : a < b) (hp : 0 ≤ p ∧ p ≤ 255) (hq : 0 ≤ q ∧ q ≤ 255) : Go.Va.Good Tryz.prog 4 [.int .i8 a, .int .i8 b, .int .u8 p, .int .u8 q] := by
  have hF := lf_nn_lt (-a) (-b) (p / 6) (q / 2) (by omega) (by omega) (by omega) (by omega) (by omega)
  exact lh_nn_lt_00 a b p q (-a) (-b) hF hF _ _ (.tail _ (.tail _ (.tail _ (.tail _ (.head _))))) (den_byB _ (show 0 - -a = a by omega) (by omega) (by omega)) (den_byB _ (show 0 - -b = b by omega) (by omega) (by omega)) hp hq
theorem lg_nn_lt_00_5 (a b p q : Int) (ha : -128 ≤ a ∧ a ≤ -100) (hb : -128 ≤ b ∧ b ≤ -100) (hr : a < b) (hp : 0 ≤ p ∧ p ≤ 255) (hq : 0 ≤ q ∧ q ≤ 255) : Go.Va.Good Tryz.prog 4 [.int .i8 a, .int .i8 b, .int .u8 p, .int .u8 q] := by
  have hF := lf_nn_lt (-a) (-b) (p / 6) (q / 2) (by omega) (by omega) (by omega) (by omega) (by omega)
  exact lh_nn_lt_00 a b p q (-a) (-b) hF hF _ _ (.tail _ (.tail _ (.tail _ (.tail _ (.tail _ (.head _)))))) (den_byB _ (show 0 - -a = a by omega) (by omega) (by omega)) (den_byB _ (show 0 - -b = b by omega) (by omega) (by omega)) hp hq
theorem lh_nn_eq_00 (a b p q u v : Int) (hF : @okF (ofB [u, v, p / 6, q / 2]) laF_nn_eq) (hG : @okF (ofB [u, v, p / 6, q / 2]) laG_nn_eq_00) (X Y : FV) (mm : (X, Y) ∈ laA_nn_eq_00) (dA : @den (ofB [u, v, p / 6, q / 2]) env0 X = some (.int .i8 a)) (dB : @den (ofB [u, v, p / 6, q / 2]) env0 Y = some (.int .i8 b)) (hp : 0 ≤ p ∧ p ≤ 255) (hq : 0 ≤ q ∧ q ≤ 255) : Go.Va.Good Tryz.prog 4 [.int .i8 a, .int .i8 b, .int .u8 p, .int .u8 q] := by
  letI V : Vl := @Vl.mk (ofB [u, v, p / 6, q / 2]) laG_nn_eq_00 hG
  have hk : p % 6 = 0 ∨ p % 6 = 1 ∨ p % 6 = 2 ∨ p % 6 = 3 ∨ p % 6 = 4 ∨ p % 6 = 5 := by omega
  have hj : q % 2 = 0 ∨ q % 2 = 1 := by omega
  have dp : ∀ k : Int, p % 6 = k → den env0 (opA k) = some (.int .u8 p) := fun k e => den_by (show 6 * (p / 6) + k = p by omega) (by omega) hp.2
  have dq : ∀ k : Int, q % 2 = k → den env0 (howA k) = some (.int .u8 q) := fun k e => den_by (show 2 * (q / 2) + k = q by omega) (by omega) hq.2
  rcases hj with hj | hj <;> rcases hk with hk | hk | hk | hk | hk | hk
  · exact Go.Va.good_of (tabn_ok _ fun G => sn_nn0_0_eq _ hF G) (run_mem (lr_nn_eq_00_0_0 _ hG) mm) Tryz.call4 (denL_of dA (denL_of dB (denL_of (dp _ hk) (denL_of (dq _ hj) rfl))))
  · exact Go.Va.good_of (tabn_ok _ fun G => sn_nn0_1_eq _ hF G) (run_mem (lr_nn_eq_00_0_1 _ hG) mm) Tryz.call4 (denL_of dA (denL_of dB (denL_of (dp _ hk) (denL_of (dq _ hj) rfl))))
  · exact Go.Va.good_of (tabn_ok _ fun G => sn_nn0_2_eq _ hF G) (run_mem (lr_nn_eq_00_0_2 _ hG) mm) Tryz.call4 (denL_of dA (denL_of dB (denL_of (dp _ hk) (denL_of (dq _ hj) rfl))))
  · exact Go.Va.good_of (tabn_ok _ fun G => sn_nn0_3_eq _ hF G) (run_mem (lr_nn_eq_00_0_3 _ hG) mm) Tryz.call4 (denL_of dA (denL_of dB (denL_of (dp _ hk) (denL_of (dq _ hj) rfl))))
  · exact Go.Va.good_of (tabn_ok _ fun G => sn_nn0_4_eq _ hF G) (run_mem (lr_nn_eq_00_0_4 _ hG) mm) Tryz.call4 (denL_of dA (denL_of dB (denL_of (dp _ hk) (denL_of (dq _ hj) rfl))))
  · exact Go.Va.good_of (tabn_ok _ fun G => sn_nn0_5_eq _ hF G) (run_mem (lr_nn_eq_00_0_5 _ hG) mm) Tryz.call4 (denL_of dA (denL_of dB (denL_of (dp _ hk) (denL_of (dq _ hj) rfl))))
  · exact Go.Va.good_of (tabn_ok _ fun G => sn_nn1_0_eq _ hF G) (run_mem (lr_nn_eq_00_1_0 _ hG) mm) Tryz.call4 (denL_of dA (denL_of dB (denL_of (dp _ hk) (denL_of (dq _ hj) rfl))))
  · exact Go.Va.good_of (tabn_ok _ fun G => sn_nn1_1_eq _ hF G) (run_mem (lr_nn_eq_00_1_1 _ hG) mm) Tryz.call4 (denL_of dA (denL_of dB (denL_of (dp _ hk) (denL_of (dq _ hj) rfl))))
  · exact Go.Va.good_of (tabn_ok _ fun G => sn_nn1_2_eq _ hF G) (run_mem (lr_nn_eq_00_1_2 _ hG) mm) Tryz.call4 (denL_of dA (denL_of dB (denL_of (dp _ hk) (denL_of (dq _ hj) rfl))))
  · exact Go.Va.good_of (tabn_ok _ fun G => sn_nn1_3_eq _ hF G) (run_mem (lr_nn_eq_00_1_3 _ hG) mm) Tryz.call4 (denL_of dA (denL_of dB (denL_of (dp _ hk) (denL_of (dq _ hj) rfl))))
  · exact Go.Va.good_of (tabn_ok _ fun G => sn_nn1_4_eq _ hF G) (run_mem (lr_nn_eq_00_1_4 _ hG) mm) Tryz.call4 (denL_of dA (denL_of dB (denL_of (dp _ hk) (denL_of (dq _ hj) rfl))))
  · exact Go.Va.good_of (tabn_ok _ fun G => sn_nn1_5_eq _ hF G) (run_mem (lr_nn_eq_00_1_5 _ hG) mm) Tryz.call4 (denL_of dA (denL_of dB (denL_of (dp _ hk) (denL_of (dq _ hj) rfl))))
theorem lg_nn_eq_00_0 (a b p q : Int) (ha : -9 ≤ a ∧ a ≤ -1) (hb : -9 ≤ b ∧ b ≤ -1) (hr : a = b) (hp : 0 ≤ p ∧ p ≤ 255) (hq : 0 ≤ q ∧ q ≤ 255) : Go.Va.Good Tryz.prog 4 [.int .i8 a, .int .i8 b, .int .u8 p, .int .u8 q] := by
  have hF := lf_nn_eq (-a) (-b) (p / 6) (q / 2) (by omega) (by omega) (by omega) (by omega) (by omega)
  exact lh_nn_eq_00 a b p q (-a) (-b) hF hF _ _ (.head _) (den_byB _ (show 0 - -a = a by omega) (by omega) (by omega)) (den_byB _ (show 0 - -b = b by omega) (by omega) (by omega)) hp hq
theorem lg_nn_eq_00_1 (a b p q : Int) (ha : -99 ≤ a ∧ a ≤ -10) (hb : -99 ≤ b ∧ b ≤ -10) (hr : a = b) (hp : 0 ≤ p ∧ p ≤ 255) (hq : 0 ≤ q ∧ q ≤ 255) : Go.Va.Good Tryz.prog 4 [.int .i8 a, .int .i8 b, .int .u8 p, .int .u8 q] := by
  have hF := lf_nn_eq (-a) (-b) (p / 6) (q / 2) (by omega) (by omega) (by omega) (by omega) (by omega)
  exact lh_nn_eq_00 a b p q (-a) (-b) hF hF _ _ (.tail _ (.head _)) (den_byB _ (show 0 - -a = a by omega) (by omega) (by omega)) (den_byB _ (show 0 - -b = b by omega) (by omega) (by omega)) hp hq
theorem lg_nn_eq_00_2 (a b p q : Int) (ha : -128 ≤ a ∧ a ≤ -100) (hb : -128 ≤ b ∧ b ≤ -100) (hr : a = b) (hp : 0 ≤ p ∧ p ≤ 255) (hq : 0 ≤ q ∧ q ≤ 255) : Go.Va.Good Tryz.prog 4 [.int .i8 a, .int .i8 b, .int .u8 p, .int .u8 q] := by
  have hF := lf_nn_eq (-a) (-b) (p / 6) (q / 2) (by omega) (by omega) (by omega) (by omega) (by omega)
  exact lh_nn_eq_00 a b p q (-a) (-b) hF hF _ _ (.tail _ (.tail _ (.head _))) (den_byB _ (show 0 - -a = a by omega) (by omega) (by omega)) (den_byB _ (show 0 - -b = b by omega) (by omega) (by omega)) hp hq
theorem lh_nn_gt_00 (a b p q u v : Int) (hF : @okF (ofB [u, v, p / 6, q / 2]) laF_nn_gt) (hG : @okF (ofB [u, v, p / 6, q / 2]) laG_nn_gt_00) (X Y : FV) (mm : (X, Y) ∈ laA_nn_gt_00) (dA : @den (ofB [u, v, p / 6, q / 2]) env0 X = some (.int .i8 a)) (dB : @den (ofB [u, v, p / 6, q / 2]) env0 Y = some (.int .i8 b)) (hp : 0 ≤ p ∧ p ≤ 255) (hq : 0 ≤ q ∧ q ≤ 255) : Go.Va.Good Tryz.prog 4 [.int .i8 a, .int .i8 b, .int .u8 p, .int .u8 q] := by
  letI V : Vl := @Vl.mk (ofB [u, v, p / 6, q / 2]) laG_nn_gt_00 hG
  have hk : p % 6 = 0 ∨ p % 6 = 1 ∨ p % 6 = 2 ∨ p % 6 = 3 ∨ p % 6 = 4 ∨ p % 6 = 5 := by omega
  have hj : q % 2 = 0 ∨ q % 2 = 1 := by omega
  have dp : ∀ k : Int, p % 6 = k → den env0 (opA k) = some (.int .u8 p) := fun k e => den_by (show 6 * (p / 6) + k = p by omega) (by omega) hp.2
  have dq : ∀ k : Int, q % 2 = k → den env0 (howA k) = some (.int .u8 q) := fun k e => den_by (show 2 * (q / 2) + k = q by omega) (by omega) hq.2
  rcases hj with hj | hj <;> rcases hk with hk | hk | hk | hk | hk | hk
  · exact Go.Va.good_of (tabn_ok _ fun G => sn_nn0_0_gt _ hF G) (run_mem (lr_nn_gt_00_0_0 _ hG) mm) Tryz.call4 (denL_of dA (denL_of dB (denL_of (dp _ hk) (denL_of (dq _ hj) rfl))))
  · exact Go.Va.good_of (tabn_ok _ fun G => sn_nn0_1_gt _ hF G) (run_mem (lr_nn_gt_00_0_1 _ hG) mm) Tryz.call4 (denL_of dA (denL_of dB (denL_of (dp _ hk) (denL_of (dq _ hj) rfl))))
  · exact Go.Va.good_of (tabn_ok _ fun G => sn_nn0_2_gt _ hF G) (run_mem (lr_nn_gt_00_0_2 _ hG) mm) Tryz.call4 (denL_of dA (denL_of dB (denL_of (dp _ hk) (denL_of (dq _ hj) rfl))))
  · exact Go.Va.good_of (tabn_ok _ fun G => sn_nn0_3_gt _ hF G) (run_mem (lr_nn_gt_00_0_3 _ hG) mm) Tryz.call4 (denL_of dA (denL_of dB (denL_of (dp _ hk) (denL_of (dq _ hj) rfl))))
  · exact Go.Va.good_of (tabn_ok _ fun G => sn_nn0_4_gt _ hF G) (run_mem (lr_nn_gt_00_0_4 _ hG) mm) Tryz.call4 (denL_of dA (denL_of dB (denL_of (dp _ hk) (denL_of (dq _ hj) rfl))))
  · exact Go.Va.good_of (tabn_ok _ fun G => sn_nn0_5_gt _ hF G) (run_mem (lr_nn_gt_00_0_5 _ hG) mm) Tryz.call4 (denL_of dA (denL_of dB (denL_of (dp _ hk) (denL_of (dq _ hj) rfl))))
  · exact Go.Va.good_of (tabn_ok _ fun G => sn_nn1_0_gt _ hF G) (run_mem (lr_nn_gt_00_1_0 _ hG) mm) Tryz.call4 (denL_of dA (denL_of dB (denL_of (dp _ hk) (denL_of (dq _ hj) rfl))))
  · exact Go.Va.good_of (tabn_ok _ fun G => sn_nn1_1_gt _ hF G) (run_mem (lr_nn_gt_00_1_1 _ hG) mm) Tryz.call4 (denL_of dA (denL_of dB (denL_of (dp _ hk) (denL_of (dq _ hj) rfl))))
  · exact Go.Va.good_of (tabn_ok _ fun G => sn_nn1_2_gt _ hF G) (run_mem (lr_nn_gt_00_1_2 _ hG) mm) Tryz.call4 (denL_of dA (denL_of dB (denL_of (dp _ hk) (denL_of (dq _ hj) rfl))))
  · exact Go.Va.good_of (tabn_ok _ fun G => sn_nn1_3_gt _ hF G) (run_mem (lr_nn_gt_00_1_3 _ hG) mm) Tryz.call4 (denL_of dA (denL_of dB (denL_of (dp _ hk) (denL_of (dq _ hj) rfl))))
  · exact Go.Va.good_of (tabn_ok _ fun G => sn_nn1_4_gt _ hF G) (run_mem (lr_nn_gt_00_1_4 _ hG) mm) Tryz.call4 (denL_of dA (denL_of dB (denL_of (dp _ hk) (denL_of (dq _ hj) rfl))))
  · exact Go.Va.good_of (tabn_ok _ fun G => sn_nn1_5_gt _ hF G) (run_mem (lr_nn_gt_00_1_5 _ hG) mm) Tryz.call4 (denL_of dA (denL_of dB (denL_of (dp _ hk) (denL_of (dq _ hj) rfl))))
theorem lg_nn_gt_00_0 (a b p q : Int) (ha : -9 ≤ a ∧ a ≤ -1) (hb : -9 ≤ b ∧ b ≤ -1) (hr : b < a) (hp : 0 ≤ p ∧ p ≤ 255) (hq : 0 ≤ q ∧ q ≤ 255) : Go.Va.Good Tryz.prog 4 [.int .i8 a, .int .i8 b, .int .u8 p, .int .u8 q] := by
  have hF := lf_nn_gt (-a) (-b) (p / 6) (q / 2) (by omega) (by omega) (by omega) (by omega) (by omega)
  exact lh_nn_gt_00 a b p q (-a) (-b) hF hF _ _ (.head _) (den_byB _ (show 0 - -a = a by omega) (by omega) (by omega)) (den_byB _ (show 0 - -b = b by omega) (by omega) (by omega)) hp hq
theorem lg_nn_gt_00_1 (a b p q : Int) (ha : -9 ≤ a ∧ a ≤ -1) (hb : -99 ≤ b ∧ b ≤ -10) (hr : b < a) (hp : 0 ≤ p ∧ p ≤ 255) (hq : 0 ≤ q ∧ q ≤ 255) : Go.Va.Good Tryz.prog 4 [.int .i8 a, .int .i8 b, .int .u8 p, .int .u8 q] := by
  have hF := lf_nn_gt (-a) (-b) (p / 6) (q / 2) (by omega) (by omega) (by omega) (by omega) (by omega)
  exact lh_nn_gt_00 a b p q (-a) (-b) hF hF _ _ (.tail _ (.head _)) (den_byB _ (show 0 - -a = a by omega) (by omega) (by omega)) (den_byB _ (show 0 - -b = b by omega) (by omega) (by omega)) hp hq
theorem lg_nn_gt_00_2 (a b p q : Int) (ha : -9 ≤ a ∧ a ≤ -1) (hb : -128 ≤ b ∧ b ≤ -100) (hr : b < a) (hp : 0 ≤ p ∧ p ≤ 255) (hq : 0 ≤ q ∧ q ≤ 255) : Go.Va.Good Tryz.prog 4 [.int .i8 a, .int .i8 b, .int .u8 p, .int .u8 q] := by
  have hF := lf_nn_gt (-a) (-b) (p / 6) (q / 2) (by omega) (by omega) (by omega) (by omega) (by omega)
  exact lh_nn_gt_00 a b p q (-a) (-b) hF hF _ _ (.tail _ (.tail _ (.head _))) (den_byB _ (show 0 - -a = a by omega) (by omega) (by omega)) (den_byB _ (show 0 - -b = b by omega) (by omega) (by omega)) hp hq
theorem lg_nn_gt_00_3 (a b p q : Int) (ha : -99 ≤ a ∧ a ≤ -10) (hb : -99 ≤ b ∧ b ≤ -10) (hr : b < a) (hp : 0 ≤ p ∧ p ≤ 255) (hq : 0 ≤ q ∧ q ≤ 255) : Go.Va.Good Tryz.prog 4 [.int .i8 a, .int .i8 b, .int .u8 p, .int .u8 q] := by
  have hF := lf_nn_gt (-a) (-b) (p / 6) (q / 2) (by omega) (by omega) (by omega) (by omega) (by omega)
  exact lh_nn_gt_00 a b p q (-a) (-b) hF hF _ _ (.tail _ (.tail _ (.tail _ (.head _)))) (den_byB _ (show 0 - -a = a by omega) (by omega) (by omega)) (den_byB _ (show 0 - -b = b by omega) (by omega) (by omega)) hp hq
theorem lg_nn_gt_00_4 (a b p q : Int) (ha : -99 ≤ a ∧ a ≤ -10) (hb : -128 ≤ b ∧ b ≤ -100) (hr : b < a) (hp : 0 ≤ p ∧ p ≤ 255) (hq : 0 ≤ q ∧ q ≤ 255) : Go.Va.Good Tryz.prog 4 [.int .i8 a, .int .i8 b, .int .u8 p, .int .u8 q] := by
  have hF := lf_nn_gt (-a) (-b) (p / 6) (q / 2) (by omega) (by omega) (by omega) (by omega) (by omega)
  exact lh_nn_gt_00 a b p q (-a) (-b) hF hF _ _ (.tail _ (.tail _ (.tail _ (.tail _ (.head _))))) (den_byB _ (show 0 - -a = a by omega) (by omega) (by omega)) (den_byB _ (show 0 - -b = b by omega) (by omega) (by omega)) hp hq
theorem lg_nn_gt_00_5 (a b p q : Int) (ha : -128 ≤ a ∧ a ≤ -100) (hb : -128 ≤ b ∧ b ≤ -100) (hr : b < a) (hp : 0 ≤ p ∧ p ≤ 255) (hq : 0 ≤ q ∧ q ≤ 255) : Go.Va.Good Tryz.prog 4 [.int .i8 a, .int .i8 b, .int .u8 p, .int .u8 q] := by
  have hF := lf_nn_gt (-a) (-b) (p / 6) (q / 2) (by omega) (by omega) (by omega) (by omega) (by omega)
  exact lh_nn_gt_00 a b p q (-a) (-b) hF hF _ _ (.tail _ (.tail _ (.tail _ (.tail _ (.tail _ (.head _)))))) (den_byB _ (show 0 - -a = a by omega) (by omega) (by omega)) (den_byB _ (show 0 - -b = b by omega) (by omega) (by omega)) hp hq
theorem lh_pn_gt_10 (a b p q u v : Int) (hF : @okF (ofB [u, v, p / 6, q / 2]) laF_pn_gt) (hG : @okF (ofB [u, v, p / 6, q / 2]) laG_pn_gt_10) (X Y : FV) (mm : (X, Y) ∈ laA_pn_gt_10) (dA : @den (ofB [u, v, p / 6, q / 2]) env0 X = some (.int .i8 a)) (dB : @den (ofB [u, v, p / 6, q / 2]) env0 Y = some (.int .i8 b)) (hp : 0 ≤ p ∧ p ≤ 255) (hq : 0 ≤ q ∧ q ≤ 255) : Go.Va.Good Tryz.prog 4 [.int .i8 a, .int .i8 b, .int .u8 p, .int .u8 q] := by
  letI V : Vl := @Vl.mk (ofB [u, v, p / 6, q / 2]) laG_pn_gt_10 hG
  have hk : p % 6 = 0 ∨ p % 6 = 1 ∨ p % 6 = 2 ∨ p % 6 = 3 ∨ p % 6 = 4 ∨ p % 6 = 5 := by omega
  have hj : q % 2 = 0 ∨ q % 2 = 1 := by omega
  have dp : ∀ k : Int, p % 6 = k → den env0 (opA k) = some (.int .u8 p) := fun k e => den_by (show 6 * (p / 6) + k = p by omega) (by omega) hp.2
  have dq : ∀ k : Int, q % 2 = k → den env0 (howA k) = some (.int .u8 q) := fun k e => den_by (show 2 * (q / 2) + k = q by omega) (by omega) hq.2
  rcases hj with hj | hj <;> rcases hk with hk | hk | hk | hk | hk | hk
  · exact Go.Va.good_of (tabn_ok _ fun G => sn_pn0_0_gt _ hF G) (run_mem (lr_pn_gt_10_0_0 _ hG) mm) Tryz.call4 (denL_of dA (denL_of dB (denL_of (dp _ hk) (denL_of (dq _ hj) rfl))))
  · exact Go.Va.good_of (tabn_ok _ fun G => sn_pn0_1_gt _ hF G) (run_mem (lr_pn_gt_10_0_1 _ hG) mm) Tryz.call4 (denL_of dA (denL_of dB (denL_of (dp _ hk) (denL_of (dq _ hj) rfl))))
  · exact Go.Va.good_of (tabn_ok _ fun G => sn_pn0_2_gt _ hF G) (run_mem (lr_pn_gt_10_0_2 _ hG) mm) Tryz.call4 (denL_of dA (denL_of dB (denL_of (dp _ hk) (denL_of (dq _ hj) rfl))))
  · exact Go.Va.good_of (tabn_ok _ fun G => sn_pn0_3_gt _ hF G) (run_mem (lr_pn_gt_10_0_3 _ hG) mm) Tryz.call4 (denL_of dA (denL_of dB (denL_of (dp _ hk) (denL_of (dq _ hj) rfl))))
  · exact Go.Va.good_of (tabn_ok _ fun G => sn_pn0_4_gt _ hF G) (run_mem (lr_pn_gt_10_0_4 _ hG) mm) Tryz.call4 (denL_of dA (denL_of dB (denL_of (dp _ hk) (denL_of (dq _ hj) rfl))))
  · exact Go.Va.good_of (tabn_ok _ fun G => sn_pn0_5_gt _ hF G) (run_mem (lr_pn_gt_10_0_5 _ hG) mm) Tryz.call4 (denL_of dA (denL_of dB (denL_of (dp _ hk) (denL_of (dq _ hj) rfl))))
  · exact Go.Va.good_of (tabn_ok _ fun G => sn_pn1_0_gt _ hF G) (run_mem (lr_pn_gt_10_1_0 _ hG) mm) Tryz.call4 (denL_of dA (denL_of dB (denL_of (dp _ hk) (denL_of (dq _ hj) rfl))))
  · exact Go.Va.good_of (tabn_ok _ fun G => sn_pn1_1_gt _ hF G) (run_mem (lr_pn_gt_10_1_1 _ hG) mm) Tryz.call4 (denL_of dA (denL_of dB (denL_of (dp _ hk) (denL_of (dq _ hj) rfl))))
  · exact Go.Va.good_of (tabn_ok _ fun G => sn_pn1_2_gt _ hF G) (run_mem (lr_pn_gt_10_1_2 _ hG) mm) Tryz.call4 (denL_of dA (denL_of dB (denL_of (dp _ hk) (denL_of (dq _ hj) rfl))))
  · exact Go.Va.good_of (tabn_ok _ fun G => sn_pn1_3_gt _ hF G) (run_mem (lr_pn_gt_10_1_3 _ hG) mm) Tryz.call4 (denL_of dA (denL_of dB (denL_of (dp _ hk) (denL_of (dq _ hj) rfl))))
  · exact Go.Va.good_of (tabn_ok _ fun G => sn_pn1_4_gt _ hF G) (run_mem (lr_pn_gt_10_1_4 _ hG) mm) Tryz.call4 (denL_of dA (denL_of dB (denL_of (dp _ hk) (denL_of (dq _ hj) rfl))))
  · exact Go.Va.good_of (tabn_ok _ fun G => sn_pn1_5_gt _ hF G) (run_mem (lr_pn_gt_10_1_5 _ hG) mm) Tryz.call4 (denL_of dA (denL_of dB (denL_of (dp _ hk) (denL_of (dq _ hj) rfl))))
theorem lg_pn_gt_10_0 (a b p q : Int) (ha : a = 0) (hb : -9 ≤ b ∧ b ≤ -1) (hr : b < a) (hp : 0 ≤ p ∧ p ≤ 255) (hq : 0 ≤ q ∧ q ≤ 255) : Go.Va.Good Tryz.prog 4 [.int .i8 a, .int .i8 b, .int .u8 p, .int .u8 q] := by
  have hF := lf_pn_gt (a) (-b) (p / 6) (q / 2) (by omega) (by omega) (by omega) (by omega) (by omega)
  exact lh_pn_gt_10 a b p q (a) (-b) hF ⟨decide_eq_true (show (a : Int) = 0 by omega), hF⟩ _ _ (.head _) (den_intB _ (by omega)) (den_byB _ (show 0 - -b = b by omega) (by omega) (by omega)) hp hq
theorem lg_pn_gt_10_1 (a b p q : Int) (ha : a = 0) (hb : -99 ≤ b ∧ b ≤ -10) (hr : b < a) (hp : 0 ≤ p ∧ p ≤ 255) (hq : 0 ≤ q ∧ q ≤ 255) : Go.Va.Good Tryz.prog 4 [.int .i8 a, .int .i8 b, .int .u8 p, .int .u8 q] := by
  have hF := lf_pn_gt (a) (-b) (p / 6) (q / 2) (by omega) (by omega) (by omega) (by omega) (by omega)
  exact lh_pn_gt_10 a b p q (a) (-b) hF ⟨decide_eq_true (show (a : Int) = 0 by omega), hF⟩ _ _ (.tail _ (.head _)) (den_intB _ (by omega)) (den_byB _ (show 0 - -b = b by omega) (by omega) (by omega)) hp hq
theorem lg_pn_gt_10_2 (a b p q : Int) (ha : a = 0) (hb : -128 ≤ b ∧ b ≤ -100) (hr : b < a) (hp : 0 ≤ p ∧ p ≤ 255) (hq : 0 ≤ q ∧ q ≤ 255) : Go.Va.Good Tryz.prog 4 [.int .i8 a, .int .i8 b, .int .u8 p, .int .u8 q] := by
  have hF := lf_pn_gt (a) (-b) (p / 6) (q / 2) (by omega) (by omega) (by omega) (by omega) (by omega)
  exact lh_pn_gt_10 a b p q (a) (-b) hF ⟨decide_eq_true (show (a : Int) = 0 by omega), hF⟩ _ _ (.tail _ (.tail _ (.head _))) (den_intB _ (by omega)) (den_byB _ (show 0 - -b = b by omega) (by omega) (by omega)) hp hq
theorem lh_pn_gt_00 (a b p q u v : Int) (hF : @okF (ofB [u, v, p / 6, q / 2]) laF_pn_gt) (hG : @okF (ofB [u, v, p / 6, q / 2]) laG_pn_gt_00) (X Y : FV) (mm : (X, Y) ∈ laA_pn_gt_00) (dA : @den (ofB [u, v, p / 6, q / 2]) env0 X = some (.int .i8 a)) (dB : @den (ofB [u, v, p / 6, q / 2]) env0 Y = some (.int .i8 b)) (hp : 0 ≤ p ∧ p ≤ 255) (hq : 0 ≤ q ∧ q ≤ 255) : Go.Va.Good Tryz.prog 4 [.int .i8 a, .int .i8 b, .int .u8 p, .int .u8 q] := by
  letI V : Vl := @Vl.mk (ofB [u, v, p / 6, q / 2]) laG_pn_gt_00 hG
  have hk : p % 6 = 0 ∨ p % 6 = 1 ∨ p % 6 = 2 ∨ p % 6 = 3 ∨ p % 6 = 4 ∨ p % 6 = 5 := by omega
  have hj : q % 2 = 0 ∨ q % 2 = 1 := by omega
  have dp : ∀ k : Int, p % 6 = k → den env0 (opA k) = some (.int .u8 p) := fun k e => den_by (show 6 * (p / 6) + k = p by omega) (by omega) hp.2
  have dq : ∀ k : Int, q % 2 = k → den env0 (howA k) = some (.int .u8 q) := fun k e => den_by (show 2 * (q / 2) + k = q by omega) (by omega) hq.2
  rcases hj with hj | hj <;> rcases hk with hk | hk | hk | hk | hk | hk
  · exact Go.Va.good_of (tabn_ok _ fun G => sn_pn0_0_gt _ hF G) (run_mem (lr_pn_gt_00_0_0 _ hG) mm) Tryz.call4 (denL_of dA (denL_of dB (denL_of (dp _ hk) (denL_of (dq _ hj) rfl))))
  · exact Go.Va.good_of (tabn_ok _ fun G => sn_pn0_1_gt _ hF G) (run_mem (lr_pn_gt_00_0_1 _ hG) mm) Tryz.call4 (denL_of dA (denL_of dB (denL_of (dp _ hk) (denL_of (dq _ hj) rfl))))
  · exact Go.Va.good_of (tabn_ok _ fun G => sn_pn0_2_gt _ hF G) (run_mem (lr_pn_gt_00_0_2 _ hG) mm) Tryz.call4 (denL_of dA (denL_of dB (denL_of (dp _ hk) (denL_of (dq _ hj) rfl))))
  · exact Go.Va.good_of (tabn_ok _ fun G => sn_pn0_3_gt _ hF G) (run_mem (lr_pn_gt_00_0_3 _ hG) mm) Tryz.call4 (denL_of dA (denL_of dB (denL_of (dp _ hk) (denL_of (dq _ hj) rfl))))
  · exact Go.Va.good_of (tabn_ok _ fun G => sn_pn0_4_gt _ hF G) (run_mem (lr_pn_gt_00_0_4 _ hG) mm) Tryz.call4 (denL_of dA (denL_of dB (denL_of (dp _ hk) (denL_of (dq _ hj) rfl))))
  · exact Go.Va.good_of (tabn_ok _ fun G => sn_pn0_5_gt _ hF G) (run_mem (lr_pn_gt_00_0_5 _ hG) mm) Tryz.call4 (denL_of dA (denL_of dB (denL_of (dp _ hk) (denL_of (dq _ hj) rfl))))
  · exact Go.Va.good_of (tabn_ok _ fun G => sn_pn1_0_gt _ hF G) (run_mem (lr_pn_gt_00_1_0 _ hG) mm) Tryz.call4 (denL_of dA (denL_of dB (denL_of (dp _ hk) (denL_of (dq _ hj) rfl))))
  · exact Go.Va.good_of (tabn_ok _ fun G => sn_pn1_1_gt _ hF G) (run_mem (lr_pn_gt_00_1_1 _ hG) mm) Tryz.call4 (denL_of dA (denL_of dB (denL_of (dp _ hk) (denL_of (dq _ hj) rfl))))
  · exact Go.Va.good_of (tabn_ok _ fun G => sn_pn1_2_gt _ hF G) (run_mem (lr_pn_gt_00_1_2 _ hG) mm) Tryz.call4 (denL_of dA (denL_of dB (denL_of (dp _ hk) (denL_of (dq _ hj) rfl))))
  · exact Go.Va.good_of (tabn_ok _ fun G => sn_pn1_3_gt _ hF G) (run_mem (lr_pn_gt_00_1_3 _ hG) mm) Tryz.call4 (denL_of dA (denL_of dB (denL_of (dp _ hk) (denL_of (dq _ hj) rfl))))
  · exact Go.Va.good_of (tabn_ok _ fun G => sn_pn1_4_gt _ hF G) (run_mem (lr_pn_gt_00_1_4 _ hG) mm) Tryz.call4 (denL_of dA (denL_of dB (denL_of (dp _ hk) (denL_of (dq _ hj) rfl))))
  · exact Go.Va.good_of (tabn_ok _ fun G => sn_pn1_5_gt _ hF G) (run_mem (lr_pn_gt_00_1_5 _ hG) mm) Tryz.call4 (denL_of dA (denL_of dB (denL_of (dp _ hk) (denL_of (dq _ hj) rfl))))
theorem lg_pn_gt_00_0 (a b p q : Int) (ha : 1 ≤ a ∧ a ≤ 9) (hb : -9 ≤ b ∧ b ≤ -1) (hr : b < a) (hp : 0 ≤ p ∧ p ≤ 255) (hq : 0 ≤ q ∧ q ≤ 255) : Go.Va.Good Tryz.prog 4 [.int .i8 a, .int .i8 b, .int .u8 p, .int .u8 q] := by
  have hF := lf_pn_gt (a) (-b) (p / 6) (q / 2) (by omega) (by omega) (by omega) (by omega) (by omega)
  exact lh_pn_gt_00 a b p q (a) (-b) hF hF _ _ (.head _) (den_byB _ rfl (by omega) (by omega)) (den_byB _ (show 0 - -b = b by omega) (by omega) (by omega)) hp hq
theorem lg_pn_gt_00_1 (a b p q : Int) (ha : 1 ≤ a ∧ a ≤ 9) (hb : -99 ≤ b ∧ b ≤ -10) (hr : b < a) (hp : 0 ≤ p ∧ p ≤ 255) (hq : 0 ≤ q ∧ q ≤ 255) : Go.Va.Good Tryz.prog 4 [.int .i8 a, .int .i8 b, .int .u8 p, .int .u8 q] := by
  have hF := lf_pn_gt (a) (-b) (p / 6) (q / 2) (by omega) (by omega) (by omega) (by omega) (by omega)
  exact lh_pn_gt_00 a b p q (a) (-b) hF hF _ _ (.tail _ (.head _)) (den_byB _ rfl (by omega) (by omega)) (den_byB _ (show 0 - -b = b by omega) (by omega) (by omega)) hp hq
theorem lg_pn_gt_00_2 (a b p q : Int) (ha : 1 ≤ a ∧ a ≤ 9) (hb : -128 ≤ b ∧ b ≤ -100) (hr : b < a) (hp : 0 ≤ p ∧ p ≤ 255) (hq : 0 ≤ q ∧ q ≤ 255) : Go.Va.Good Tryz.prog 4 [.int .i8 a, .int .i8 b, .int .u8 p, .int .u8 q] := by
  have hF := lf_pn_gt (a) (-b) (p / 6) (q / 2) (by omega) (by omega) (by omega) (by omega) (by omega)
  exact lh_pn_gt_00 a b p q (a) (-b) hF hF _ _ (.tail _ (.tail _ (.head _))) (den_byB _ rfl (by omega) (by omega)) (den_byB _ (show 0 - -b = b by omega) (by omega) (by omega)) hp hq
theorem lg_pn_gt_00_3 (a b p q : Int) (ha : 10 ≤ a ∧ a ≤ 99) (hb : -9 ≤ b ∧ b ≤ -1) (hr : b < a) (hp : 0 ≤ p ∧ p ≤ 255) (hq : 0 ≤ q ∧ q ≤ 255) : Go.Va.Good Tryz.prog 4 [.int .i8 a, .int .i8 b, .int .u8 p, .int .u8 q] := by
  have hF := lf_pn_gt (a) (-b) (p / 6) (q / 2) (by omega) (by omega) (by omega) (by omega) (by omega)
  exact lh_pn_gt_00 a b p q (a) (-b) hF hF _ _ (.tail _ (.tail _ (.tail _ (.head _)))) (den_byB _ rfl (by omega) (by omega)) (den_byB _ (show 0 - -b = b by omega) (by omega) (by omega)) hp hq
theorem lg_pn_gt_00_4 (a b p q : Int) (ha : 10 ≤ a ∧ a ≤ 99) (hb : -99 ≤ b ∧ b ≤ -10) (hr : b < a) (hp : 0 ≤ p ∧ p ≤ 255) (hq : 0 ≤ q ∧ q ≤ 255) : Go.Va.Good Tryz.prog 4 [.int .i8 a, .int .i8 b, .int .u8 p, .int .u8 q] := by
  have hF := lf_pn_gt (a) (-b) (p / 6) (q / 2) (by omega) (by omega) (by omega) (by omega) (by omega)
  exact lh_pn_gt_00 a b p q (a) (-b) hF hF _ _ (.tail _ (.tail _ (.tail _ (.tail _ (.head _))))) (den_byB _ rfl (by omega) (by omega)) (den_byB _ (show 0 - -b = b by omega) (by omega) (by omega)) hp hq
theorem lg_pn_gt_00_5 (a b p q : Int) (ha : 10 ≤ a ∧ a ≤ 99) (hb : -128 ≤ b ∧ b ≤ -100) (hr : b < a) (hp : 0 ≤ p ∧ p ≤ 255) (hq : 0 ≤ q ∧ q ≤ 255) : Go.Va.Good Tryz.prog 4 [.int .i8 a, .int .i8 b, .int .u8 p, .int .u8 q] := by
  have hF := lf_pn_gt (a) (-b) (p / 6) (q / 2) (by omega) (by omega) (by omega) (by omega) (by omega)
  exact lh_pn_gt_00 a b p q (a) (-b) hF hF _ _ (.tail _ (.tail _ (.tail _ (.tail _ (.tail _ (.head _)))))) (den_byB _ rfl (by omega) (by omega)) (den_byB _ (show 0 - -b = b by omega) (by omega) (by omega)) hp hq
theorem lg_pn_gt_00_6 (a b p q : Int) (ha : 100 ≤ a ∧ a ≤ 127) (hb : -9 ≤ b ∧ b ≤ -1) (hr : b < a) (hp : 0 ≤ p ∧ p ≤ 255) (hq : 0 ≤ q ∧ q ≤ 255) : Go.Va.Good Tryz.prog 4 [.int .i8 a, .int .i8 b, .int .u8 p, .int .u8 q] := by
  have hF := lf_pn_gt (a) (-b) (p / 6) (q / 2) (by omega) (by omega) (by omega) (by omega) (by omega)
  exact lh_pn_gt_00 a b p q (a) (-b) hF hF _ _ (.tail _ (.tail _ (.tail _ (.tail _ (.tail _ (.tail _ (.head _))))))) (den_byB _ rfl (by omega) (by omega)) (den_byB _ (show 0 - -b = b by omega) (by omega) (by omega)) hp hq
theorem lg_pn_gt_00_7 (a b p q : Int) (ha : 100 ≤ a ∧ a ≤ 127) (hb : -99 ≤ b ∧ b ≤ -10) (hr : b < a) (hp : 0 ≤ p ∧ p ≤ 255) (hq : 0 ≤ q ∧ q ≤ 255) : Go.Va.Good Tryz.prog 4 [.int .i8 a, .int .i8 b, .int .u8 p, .int .u8 q] := by
  have hF := lf_pn_gt (a) (-b) (p / 6) (q / 2) (by omega) (by omega) (by omega) (by omega) (by omega)
  exact lh_pn_gt_00 a b p q (a) (-b) hF hF _ _ (.tail _ (.tail _ (.tail _ (.tail _ (.tail _ (.tail _ (.tail _ (.head _)))))))) (den_byB _ rfl (by omega) (by omega)) (den_byB _ (show 0 - -b = b by omega) (by omega) (by omega)) hp hq
theorem lg_pn_gt_00_8 (a b p q : Int) (ha : 100 ≤ a ∧ a ≤ 127) (hb : -128 ≤ b ∧ b ≤ -100) (hr : b < a) (hp : 0 ≤ p ∧ p ≤ 255) (hq : 0 ≤ q ∧ q ≤ 255) : Go.Va.Good Tryz.prog 4 [.int .i8 a, .int .i8 b, .int .u8 p, .int .u8 q] := by
  have hF := lf_pn_gt (a) (-b) (p / 6) (q / 2) (by omega) (by omega) (by omega) (by omega) (by omega)
  exact lh_pn_gt_00 a b p q (a) (-b) hF hF _ _ (.tail _ (.tail _ (.tail _ (.tail _ (.tail _ (.tail _ (.tail _ (.tail _ (.head _))))))))) (den_byB _ rfl (by omega) (by omega)) (den_byB _ (show 0 - -b = b by omega) (by omega) (by omega)) hp hq
theorem lh_np_lt_01 (a b p q u v : Int) (hF : @okF (ofB [u, v, p / 6, q / 2]) laF_np_lt) (hG : @okF (ofB [u, v, p / 6, q / 2]) laG_np_lt_01) (X Y : FV) (mm : (X, Y) ∈ laA_np_lt_01) (dA : @den (ofB [u, v, p / 6, q / 2]) env0 X = some (.int .i8 a)) (dB : @den (ofB [u, v, p / 6, q / 2]) env0 Y = some (.int .i8 b)) (hp : 0 ≤ p ∧ p ≤ 255) (hq : 0 ≤ q ∧ q ≤ 255) : Go.Va.Good Tryz.prog 4 [.int .i8 a, .int .i8 b, .int .u8 p, .int .u8 q] := by
  letI V : Vl := @Vl.mk (ofB [u, v, p / 6, q / 2]) laG_np_lt_01 hG
  have hk : p % 6 = 0 ∨ p % 6 = 1 ∨ p % 6 = 2 ∨ p % 6 = 3 ∨ p % 6 = 4 ∨ p % 6 = 5 := by omega
  have hj : q % 2 = 0 ∨ q % 2 = 1 := by omega
  have dp : ∀ k : Int, p % 6 = k → den env0 (opA k) = some (.int .u8 p) := fun k e => den_by (show 6 * (p / 6) + k = p by omega) (by omega) hp.2
  have dq : ∀ k : Int, q % 2 = k → den env0 (howA k) = some (.int .u8 q) := fun k e => den_by (show 2 * (q / 2) + k = q by omega) (by omega) hq.2
  rcases hj with hj | hj <;> rcases hk with hk | hk | hk | hk | hk | hk
  · exact Go.Va.good_of (tabn_ok _ fun G => sn_np0_0_lt _ hF G) (run_mem (lr_np_lt_01_0_0 _ hG) mm) Tryz.call4 (denL_of dA (denL_of dB (denL_of (dp _ hk) (denL_of (dq _ hj) rfl))))
  · exact Go.Va.good_of (tabn_ok _ fun G => sn_np0_1_lt _ hF G) (run_mem (lr_np_lt_01_0_1 _ hG) mm) Tryz.call4 (denL_of dA (denL_of dB (denL_of (dp _ hk) (denL_of (dq _ hj) rfl))))
  · exact Go.Va.good_of (tabn_ok _ fun G => sn_np0_2_lt _ hF G) (run_mem (lr_np_lt_01_0_2 _ hG) mm) Tryz.call4 (denL_of dA (denL_of dB (denL_of (dp _ hk) (denL_of (dq _ hj) rfl))))
  · exact Go.Va.good_of (tabn_ok _ fun G => sn_np0_3_lt _ hF G) (run_mem (lr_np_lt_01_0_3 _ hG) mm) Tryz.call4 (denL_of dA (denL_of dB (denL_of (dp _ hk) (denL_of (dq _ hj) rfl))))
  · exact Go.Va.good_of (tabn_ok _ fun G => sn_np0_4_lt _ hF G) (run_mem (lr_np_lt_01_0_4 _ hG) mm) Tryz.call4 (denL_of dA (denL_of dB (denL_of (dp _ hk) (denL_of (dq _ hj) rfl))))
  · exact Go.Va.good_of (tabn_ok _ fun G => sn_np0_5_lt _ hF G) (run_mem (lr_np_lt_01_0_5 _ hG) mm) Tryz.call4 (denL_of dA (denL_of dB (denL_of (dp _ hk) (denL_of (dq _ hj) rfl))))
  · exact Go.Va.good_of (tabn_ok _ fun G => sn_np1_0_lt _ hF G) (run_mem (lr_np_lt_01_1_0 _ hG) mm) Tryz.call4 (denL_of dA (denL_of dB (denL_of (dp _ hk) (denL_of (dq _ hj) rfl))))
  · exact Go.Va.good_of (tabn_ok _ fun G => sn_np1_1_lt _ hF G) (run_mem (lr_np_lt_01_1_1 _ hG) mm) Tryz.call4 (denL_of dA (denL_of dB (denL_of (dp _ hk) (denL_of (dq _ hj) rfl))))
  · exact Go.Va.good_of (tabn_ok _ fun G => sn_np1_2_lt _ hF G) (run_mem (lr_np_lt_01_1_2 _ hG) mm) Tryz.call4 (denL_of dA (denL_of dB (denL_of (dp _ hk) (denL_of (dq _ hj) rfl))))
  · exact Go.Va.good_of (tabn_ok _ fun G => sn_np1_3_lt _ hF G) (run_mem (lr_np_lt_01_1_3 _ hG) mm) Tryz.call4 (denL_of dA (denL_of dB (denL_of (dp _ hk) (denL_of (dq _ hj) rfl))))
  · exact Go.Va.good_of (tabn_ok _ fun G => sn_np1_4_lt _ hF G) (run_mem (lr_np_lt_01_1_4 _ hG) mm) Tryz.call4 (denL_of dA (denL_of dB (denL_of (dp _ hk) (denL_of (dq _ hj) rfl))))
  · exact Go.Va.good_of (tabn_ok _ fun G => sn_np1_5_lt _ hF G) (run_mem (lr_np_lt_01_1_5 _ hG) mm) Tryz.call4 (denL_of dA (denL_of dB (denL_of (dp _ hk) (denL_of (dq _ hj) rfl))))
theorem lg_np_lt_01_0 (a b p q : Int) (ha : -9 ≤ a ∧ a ≤ -1) (hb : b = 0) (hr : a < b) (hp : 0 ≤ p ∧ p ≤ 255) (hq : 0 ≤ q ∧ q ≤ 255) : Go.Va.Good Tryz.prog 4 [.int .i8 a, .int .i8 b, .int .u8 p, .int .u8 q] := by
  have hF := lf_np_lt (-a) (b) (p / 6) (q / 2) (by omega) (by omega) (by omega) (by omega) (by omega)
  exact lh_np_lt_01 a b p q (-a) (b) hF ⟨decide_eq_true (show (b : Int) = 0 by omega), hF⟩ _ _ (.head _) (den_byB _ (show 0 - -a = a by omega) (by omega) (by omega)) (den_intB _ (by omega)) hp hq
theorem lg_np_lt_01_1 (a b p q : Int) (ha : -99 ≤ a ∧ a ≤ -10) (hb : b = 0) (hr : a < b) (hp : 0 ≤ p ∧ p ≤ 255) (hq : 0 ≤ q ∧ q ≤ 255) : Go.Va.Good Tryz.prog 4 [.int .i8 a, .int .i8 b, .int .u8 p, .int .u8 q] := by
  have hF := lf_np_lt (-a) (b) (p / 6) (q / 2) (by omega) (by omega) (by omega) (by omega) (by omega)
  exact lh_np_lt_01 a b p q (-a) (b) hF ⟨decide_eq_true (show (b : Int) = 0 by omega), hF⟩ _ _ (.tail _ (.head _)) (den_byB _ (show 0 - -a = a by omega) (by omega) (by omega)) (den_intB _ (by omega)) hp hq
theorem lg_np_lt_01_2 (a b p q : Int) (ha : -128 ≤ a ∧ a ≤ -100) (hb : b = 0) (hr : a < b) (hp : 0 ≤ p ∧ p ≤ 255) (hq : 0 ≤ q ∧ q ≤ 255) : Go.Va.Good Tryz.prog 4 [.int .i8 a, .int .i8 b, .int .u8 p, .int .u8 q] := by
  have hF := lf_np_lt (-a) (b) (p / 6) (q / 2) (by omega) (by omega) (by omega) (by omega) (by omega)
  exact lh_np_lt_01 a b p q (-a) (b) hF ⟨decide_eq_true (show (b : Int) = 0 by omega), hF⟩ _ _ (.tail _ (.tail _ (.head _))) (den_byB _ (show 0 - -a = a by omega) (by omega) (by omega)) (den_intB _ (by omega)) hp hq
theorem lh_np_lt_00 (a b p q u v : Int) (hF : @okF (ofB [u, v, p / 6, q / 2]) laF_np_lt) (hG : @okF (ofB [u, v, p / 6, q / 2]) laG_np_lt_00) (X Y : FV) (mm : (X, Y) ∈ laA_np_lt_00) (dA : @den (ofB [u, v, p / 6, q / 2]) env0 X = some (.int .i8 a)) (dB : @den (ofB [u, v, p / 6, q / 2]) env0 Y = some (.int .i8 b)) (hp : 0 ≤ p ∧ p ≤ 255) (hq : 0 ≤ q ∧ q ≤ 255) : Go.Va.Good Tryz.prog 4 [.int .i8 a, .int .i8 b, .int .u8 p, .int .u8 q] := by
  letI V : Vl := @Vl.mk (ofB [u, v, p / 6, q / 2]) laG_np_lt_00 hG
  have hk : p % 6 = 0 ∨ p % 6 = 1 ∨ p % 6 = 2 ∨ p % 6 = 3 ∨ p % 6 = 4 ∨ p % 6 = 5 := by omega
  have hj : q % 2 = 0 ∨ q % 2 = 1 := by omega
  have dp : ∀ k : Int, p % 6 = k → den env0 (opA k) = some (.int .u8 p) := fun k e => den_by (show 6 * (p / 6) + k = p by omega) (by omega) hp.2
  have dq : ∀ k : Int, q % 2 = k → den env0 (howA k) = some (.int .u8 q) := fun k e => den_by (show 2 * (q / 2) + k = q by omega) (by omega) hq.2
  rcases hj with hj | hj <;> rcases hk with hk | hk | hk | hk | hk | hk
  · exact Go.Va.good_of (tabn_ok _ fun G => sn_np0_0_lt _ hF G) (run_mem (lr_np_lt_00_0_0 _ hG) mm) Tryz.call4 (denL_of dA (denL_of dB (denL_of (dp _ hk) (denL_of (dq _ hj) rfl))))
  · exact Go.Va.good_of (tabn_ok _ fun G => sn_np0_1_lt _ hF G) (run_mem (lr_np_lt_00_0_1 _ hG) mm) Tryz.call4 (denL_of dA (denL_of dB (denL_of (dp _ hk) (denL_of (dq _ hj) rfl))))
  · exact Go.Va.good_of (tabn_ok _ fun G => sn_np0_2_lt _ hF G) (run_mem (lr_np_lt_00_0_2 _ hG) mm) Tryz.call4 (denL_of dA (denL_of dB (denL_of (dp _ hk) (denL_of (dq _ hj) rfl))))
  · exact Go.Va.good_of (tabn_ok _ fun G => sn_np0_3_lt _ hF G) (run_mem (lr_np_lt_00_0_3 _ hG) mm) Tryz.call4 (denL_of dA (denL_of dB (denL_of (dp _ hk) (denL_of (dq _ hj) rfl))))
  · exact Go.Va.good_of (tabn_ok _ fun G => sn_np0_4_lt _ hF G) (run_mem (lr_np_lt_00_0_4 _ hG) mm) Tryz.call4 (denL_of dA (denL_of dB (denL_of (dp _ hk) (denL_of (dq _ hj) rfl))))
  · exact Go.Va.good_of (tabn_ok _ fun G => sn_np0_5_lt _ hF G) (run_mem (lr_np_lt_00_0_5 _ hG) mm) Tryz.call4 (denL_of dA (denL_of dB (denL_of (dp _ hk) (denL_of (dq _ hj) rfl))))
  · exact Go.Va.good_of (tabn_ok _ fun G => sn_np1_0_lt _ hF G) (run_mem (lr_np_lt_00_1_0 _ hG) mm) Tryz.call4 (denL_of dA (denL_of dB (denL_of (dp _ hk) (denL_of (dq _ hj) rfl))))
  · exact Go.Va.good_of (tabn_ok _ fun G => sn_np1_1_lt _ hF G) (run_mem (lr_np_lt_00_1_1 _ hG) mm) Tryz.call4 (denL_of dA (denL_of dB (denL_of (dp _ hk) (denL_of (dq _ hj) rfl))))
  · exact Go.Va.good_of (tabn_ok _ fun G => sn_np1_2_lt _ hF G) (run_mem (lr_np_lt_00_1_2 _ hG) mm) Tryz.call4 (denL_of dA (denL_of dB (denL_of (dp _ hk) (denL_of (dq _ hj) rfl))))
  · exact Go.Va.good_of (tabn_ok _ fun G => sn_np1_3_lt _ hF G) (run_mem (lr_np_lt_00_1_3 _ hG) mm) Tryz.call4 (denL_of dA (denL_of dB (denL_of (dp _ hk) (denL_of (dq _ hj) rfl))))
  · exact Go.Va.good_of (tabn_ok _ fun G => sn_np1_4_lt _ hF G) (run_mem (lr_np_lt_00_1_4 _ hG) mm) Tryz.call4 (denL_of dA (denL_of dB (denL_of (dp _ hk) (denL_of (dq _ hj) rfl))))
  · exact Go.Va.good_of (tabn_ok _ fun G => sn_np1_5_lt _ hF G) (run_mem (lr_np_lt_00_1_5 _ hG) mm) Tryz.call4 (denL_of dA (denL_of dB (denL_of (dp _ hk) (denL_of (dq _ hj) rfl))))
theorem lg_np_lt_00_0 (a b p q : Int) (ha : -9 ≤ a ∧ a ≤ -1) (hb : 1 ≤ b ∧ b ≤ 9) (hr : a < b) (hp : 0 ≤ p ∧ p ≤ 255) (hq : 0 ≤ q ∧ q ≤ 255) : Go.Va.Good Tryz.prog 4 [.int .i8 a, .int .i8 b, .int .u8 p, .int .u8 q] := by
  have hF := lf_np_lt (-a) (b) (p / 6) (q / 2) (by omega) (by omega) (by omega) (by omega) (by omega)
  exact lh_np_lt_00 a b p q (-a) (b) hF hF _ _ (.head _) (den_byB _ (show 0 - -a = a by omega) (by omega) (by omega)) (den_byB _ rfl (by omega) (by omega)) hp hq
theorem lg_np_lt_00_1 (a b p q : Int) (ha : -9 ≤ a ∧ a ≤ -1) (hb : 10 ≤ b ∧ b ≤ 99) (hr : a < b) (hp : 0 ≤ p ∧ p ≤ 255) (hq : 0 ≤ q ∧ q ≤ 255) : Go.Va.Good Tryz.prog 4 [.int .i8 a, .int .i8 b, .int .u8 p, .int .u8 q] := by
  have hF := lf_np_lt (-a) (b) (p / 6) (q / 2) (by omega) (by omega) (by omega) (by omega) (by omega)
  exact lh_np_lt_00 a b p q (-a) (b) hF hF _ _ (.tail _ (.head _)) (den_byB _ (show 0 - -a = a by omega) (by omega) (by omega)) (den_byB _ rfl (by omega) (by omega)) hp hq
theorem lg_np_lt_00_2 (a b p q : Int) (ha : -9 ≤ a ∧ a ≤ -1) (hb : 100 ≤ b ∧ b ≤ 127) (hr : a < b) (hp : 0 ≤ p ∧ p ≤ 255) (hq : 0 ≤ q ∧ q ≤ 255) : Go.Va.Good Tryz.prog 4 [.int .i8 a, .int .i8 b, .int .u8 p, .int .u8 q] := by
  have hF := lf_np_lt (-a) (b) (p / 6) (q / 2) (by omega) (by omega) (by omega) (by omega) (by omega)
  exact lh_np_lt_00 a b p q (-a) (b) hF hF _ _ (.tail _ (.tail _ (.head _))) (den_byB _ (show 0 - -a = a by omega) (by omega) (by omega)) (den_byB _ rfl (by omega) (by omega)) hp hq
theorem lg_np_lt_00_3 (a b p q : Int) (ha : -99 ≤ a ∧ a ≤ -10) (hb : 1 ≤ b ∧ b ≤ 9) (hr : a < b) (hp : 0 ≤ p ∧ p ≤ 255) (hq : 0 ≤ q ∧ q ≤ 255) : Go.Va.Good Tryz.prog 4 [.int .i8 a, .int .i8 b, .int .u8 p, .int .u8 q] := by
  have hF := lf_np_lt (-a) (b) (p / 6) (q / 2) (by omega) (by omega) (by omega) (by omega) (by omega)
  exact lh_np_lt_00 a b p q (-a) (b) hF hF _ _ (.tail _ (.tail _ (.tail _ (.head _)))) (den_byB _ (show 0 - -a = a by omega) (by omega) (by omega)) (den_byB _ rfl (by omega) (by omega)) hp hq
theorem lg_np_lt_00_4 (a b p q : Int) (ha : -99 ≤ a ∧ a ≤ -10) (hb : 10 ≤ b ∧ b ≤ 99) (hr : a < b) (hp : 0 ≤ p ∧ p ≤ 255) (hq : 0 ≤ q ∧ q ≤ 255) : Go.Va.Good Tryz.prog 4 [.int .i8 a, .int .i8 b, .int .u8 p, .int .u8 q] := by
  have hF := lf_np_lt (-a) (b) (p / 6) (q / 2) (by omega) (by omega) (by omega) (by omega) (by omega)
  exact lh_np_lt_00 a b p q (-a) (b) hF hF _ _ (.tail _ (.tail _ (.tail _ (.tail _ (.head _))))) (den_byB _ (show 0 - -a = a by omega) (by omega) (by omega)) (den_byB _ rfl (by omega) (by omega)) hp hq
theorem lg_np_lt_00_5 (a b p q : Int) (ha : -99 ≤ a ∧ a ≤ -10) (hb : 100 ≤ b ∧ b ≤ 127) (hr : a < b) (hp : 0 ≤ p ∧ p ≤ 255) (hq : 0 ≤ q ∧ q ≤ 255) : Go.Va.Good Tryz.prog 4 [.int .i8 a, .int .i8 b, .int .u8 p, .int .u8 q] := by
  have hF := lf_np_lt (-a) (b) (p / 6) (q / 2) (by omega) (by omega) (by omega) (by omega) (by omega)
  exact lh_np_lt_00 a b p q (-a) (b) hF hF _ _ (.tail _ (.tail _ (.tail _ (.tail _ (.tail _ (.head _)))))) (den_byB _ (show 0 - -a = a by omega) (by omega) (by omega)) (den_byB _ rfl (by omega) (by omega)) hp hq
theorem lg_np_lt_00_6 (a b p q : Int) (ha : -128 ≤ a ∧ a ≤ -100) (hb : 1 ≤ b ∧ b ≤ 9) (hr : a < b) (hp : 0 ≤ p ∧ p ≤ 255) (hq : 0 ≤ q ∧ q ≤ 255) : Go.Va.Good Tryz.prog 4 [.int .i8 a, .int .i8 b, .int .u8 p, .int .u8 q] := by
  have hF := lf_np_lt (-a) (b) (p / 6) (q / 2) (by omega) (by omega) (by omega) (by omega) (by omega)
  exact lh_np_lt_00 a b p q (-a) (b) hF hF _ _ (.tail _ (.tail _ (.tail _ (.tail _ (.tail _ (.tail _ (.head _))))))) (den_byB _ (show 0 - -a = a by omega) (by omega) (by omega)) (den_byB _ rfl (by omega) (by omega)) hp hq
theorem lg_np_lt_00_7 (a b p q : Int) (ha : -128 ≤ a ∧ a ≤ -100) (hb : 10 ≤ b ∧ b ≤ 99) (hr : a < b) (hp : 0 ≤ p ∧ p ≤ 255) (hq : 0 ≤ q ∧ q ≤ 255) : Go.Va.Good Tryz.prog 4 [.int .i8 a, .int .i8 b, .int .u8 p, .int .u8 q] := by
  have hF := lf_np_lt (-a) (b) (p / 6) (q / 2) (by omega) (by omega) (by omega) (by omega) (by omega)
  exact lh_np_lt_00 a b p q (-a) (b) hF hF _ _ (.tail _ (.tail _ (.tail _ (.tail _ (.tail _ (.tail _ (.tail _ (.head _)))))))) (den_byB _ (show 0 - -a = a by omega) (by omega) (by omega)) (den_byB _ rfl (by omega) (by omega)) hp hq
theorem lg_np_lt_00_8 (a b p q : Int) (ha : -128 ≤ a ∧ a ≤ -100) (hb : 100 ≤ b ∧ b ≤ 127) (hr : a < b) (hp : 0 ≤ p ∧ p ≤ 255) (hq : 0 ≤ q ∧ q ≤ 255) : Go.Va.Good Tryz.prog 4 [.int .i8 a, .int .i8 b, .int .u8 p, .int .u8 q] := by
  have hF := lf_np_lt (-a) (b) (p / 6) (q / 2) (by omega) (by omega) (by omega) (by omega) (by omega)
  exact lh_np_lt_00 a b p q (-a) (b) hF hF _ _ (.tail _ (.tail _ (.tail _ (.tail _ (.tail _ (.tail _ (.tail _ (.tail _ (.head _))))))))) (den_byB _ (show 0 - -a = a by omega) (by omega) (by omega)) (den_byB _ rfl (by omega) (by omega)) hp hq
theorem la_good (a b p q : Int) (ha : -128 ≤ a ∧ a ≤ 127) (hb : -128 ≤ b ∧ b ≤ 127) (hp : 0 ≤ p ∧ p ≤ 255) (hq : 0 ≤ q ∧ q ≤ 255) : Go.Va.Good Tryz.prog 4 [.int .i8 a, .int .i8 b, .int .u8 p, .int .u8 q] := by
  have ca : (-128 ≤ a ∧ a ≤ -100) ∨ (-99 ≤ a ∧ a ≤ -10) ∨ (-9 ≤ a ∧ a ≤ -1) ∨ a = 0 ∨ (1 ≤ a ∧ a ≤ 9) ∨ (10 ≤ a ∧ a ≤ 99) ∨ (100 ≤ a ∧ a ≤ 127) := by omega
  have cb : (-128 ≤ b ∧ b ≤ -100) ∨ (-99 ≤ b ∧ b ≤ -10) ∨ (-9 ≤ b ∧ b ≤ -1) ∨ b = 0 ∨ (1 ≤ b ∧ b ≤ 9) ∨ (10 ≤ b ∧ b ≤ 99) ∨ (100 ≤ b ∧ b ≤ 127) := by omega
  have cr : a < b ∨ a = b ∨ b < a := by omega
  rcases ca with ca | ca | ca | ca | ca | ca | ca <;> rcases cb with cb | cb | cb | cb | cb | cb | cb <;> rcases cr with cr | cr | cr <;> first
    | (exfalso; omega)
    | exact lg_pp_lt_10_0 a b p q ca cb cr hp hq
    | exact lg_pp_lt_10_1 a b p q ca cb cr hp hq
    | exact lg_pp_lt_10_2 a b p q ca cb cr hp hq
    | exact lg_pp_lt_00_0 a b p q ca cb cr hp hq
    | exact lg_pp_lt_00_1 a b p q ca cb cr hp hq
    | exact lg_pp_lt_00_2 a b p q ca cb cr hp hq
    | exact lg_pp_lt_00_3 a b p q ca cb cr hp hq
    | exact lg_pp_lt_00_4 a b p q ca cb cr hp hq
    | exact lg_pp_lt_00_5 a b p q ca cb cr hp hq
    | exact lg_pp_eq_11_0 a b p q ca cb cr hp hq
    | exact lg_pp_eq_00_0 a b p q ca cb cr hp hq
    | exact lg_pp_eq_00_1 a b p q ca cb cr hp hq
    | exact lg_pp_eq_00_2 a b p q ca cb cr hp hq
    | exact lg_pp_gt_01_0 a b p q ca cb cr hp hq
    | exact lg_pp_gt_01_1 a b p q ca cb cr hp hq
    | exact lg_pp_gt_01_2 a b p q ca cb cr hp hq
    | exact lg_pp_gt_00_0 a b p q ca cb cr hp hq
    | exact lg_pp_gt_00_1 a b p q ca cb cr hp hq
    | exact lg_pp_gt_00_2 a b p q ca cb cr hp hq
    | exact lg_pp_gt_00_3 a b p q ca cb cr hp hq
    | exact lg_pp_gt_00_4 a b p q ca cb cr hp hq
    | exact lg_pp_gt_00_5 a b p q ca cb cr hp hq
    | exact lg_nn_lt_00_0 a b p q ca cb cr hp hq
    | exact lg_nn_lt_00_1 a b p q ca cb cr hp hq
    | exact lg_nn_lt_00_2 a b p q ca cb cr hp hq
    | exact lg_nn_lt_00_3 a b p q ca cb cr hp hq
    | exact lg_nn_lt_00_4 a b p q ca cb cr hp hq
    | exact lg_nn_lt_00_5 a b p q ca cb cr hp hq
    | exact lg_nn_eq_00_0 a b p q ca cb cr hp hq
    | exact lg_nn_eq_00_1 a b p q ca cb cr hp hq
    | exact lg_nn_eq_00_2 a b p q ca cb cr hp hq
    | exact lg_nn_gt_00_0 a b p q ca cb cr hp hq
    | exact lg_nn_gt_00_1 a b p q ca cb cr hp hq
    | exact lg_nn_gt_00_2 a b p q ca cb cr hp hq
    | exact lg_nn_gt_00_3 a b p q ca cb cr hp hq
    | exact lg_nn_gt_00_4 a b p q ca cb cr hp hq
    | exact lg_nn_gt_00_5 a b p q ca cb cr hp hq
    | exact lg_pn_gt_10_0 a b p q ca cb cr hp hq
    | exact lg_pn_gt_10_1 a b p q ca cb cr hp hq
    | exact lg_pn_gt_10_2 a b p q ca cb cr hp hq
    | exact lg_pn_gt_00_0 a b p q ca cb cr hp hq
    | exact lg_pn_gt_00_1 a b p q ca cb cr hp hq
    | exact lg_pn_gt_00_2 a b p q ca cb cr hp hq
    | exact lg_pn_gt_00_3 a b p q ca cb cr hp hq
    | exact lg_pn_gt_00_4 a b p q ca cb cr hp hq
    | exact lg_pn_gt_00_5 a b p q ca cb cr hp hq
    | exact lg_pn_gt_00_6 a b p q ca cb cr hp hq
    | exact lg_pn_gt_00_7 a b p q ca cb cr hp hq
    | exact lg_pn_gt_00_8 a b p q ca cb cr hp hq
    | exact lg_np_lt_01_0 a b p q ca cb cr hp hq
    | exact lg_np_lt_01_1 a b p q ca cb cr hp hq
    | exact lg_np_lt_01_2 a b p q ca cb cr hp hq
    | exact lg_np_lt_00_0 a b p q ca cb cr hp hq
    | exact lg_np_lt_00_1 a b p q ca cb cr hp hq
    | exact lg_np_lt_00_2 a b p q ca cb cr hp hq
    | exact lg_np_lt_00_3 a b p q ca cb cr hp hq
    | exact lg_np_lt_00_4 a b p q ca cb cr hp hq
    | exact lg_np_lt_00_5 a b p q ca cb cr hp hq
    | exact lg_np_lt_00_6 a b p q ca cb cr hp hq
    | exact lg_np_lt_00_7 a b p q ca cb cr hp hq
    | exact lg_np_lt_00_8 a b p q ca cb cr hp hq
end Go.Proofs.YtofcohgonchgfaaGreat
