/- CompRounds: it answers true. -/
import Derived.Test.YtojhofdndohhdaaGreatCc
import Derived.Test.YtojhofdndohhdaaGreatCd
import Derived.Test.YtojhofdndohhdaaGreatLw
import Derived.KernelRfl
set_option linter.unusedVariables false
set_option linter.unusedSectionVars false
set_option maxRecDepth 100000
namespace Go.Proofs.YtojhofdndohhdaaGreat
open Go Go.Sh Go.Va
theorem denL2 {B : Vb} {x y : FV} {u v : Value} (h : @den B env0 x = some u) (k : @den B env0 y = some v) : @denL B env0 [x, y] = some [u, v] := by simp only [denL, h, k]
theorem den_byB (B : Vb) {k : IntKind} {e : SE} {lo hi n : Int} (h : @SE.ev B e = n) (h1 : lo ≤ n) (h2 : n ≤ hi) : @den B env0 (.sy k e lo hi) = some (.int k n) := by
  simp only [den]; rw [h]; exact if_pos ⟨h1, h2⟩
theorem hF0 (u v : Int) (h0 : 1 ≤ u) (h1 : u ≤ 255)  : @okF (ofB [u, v]) F0 := by
  show decide ((u + 0) < u) = false ∧ decide (u ≤ (u + 0)) = true ∧ decide ((u + 0) = u) = true ∧ decide (u ≤ 255) = true ∧ True
  exact ⟨decide_eq_false (by omega), decide_eq_true (by omega), decide_eq_true (by omega), decide_eq_true (by omega), trivial⟩
theorem hF1 (u v : Int) (h0 : 1 ≤ u) (h1 : u ≤ 255) (h2 : 1 ≤ v) (h3 : v ≤ 255) : @okF (ofB [u, v]) F1 := by
  show decide ((u + v) < u) = false ∧ decide (u ≤ (u + v)) = true ∧ decide ((u + v) = u) = false ∧ decide (((u + v) + v) < (u + v)) = false ∧ decide (u ≤ ((u + v) + v)) = true ∧ decide (((u + v) + v) < u) = false ∧ decide ((u + v) ≤ ((u + v) + v)) = true ∧ decide (((u + v) + v) = (u + v)) = false ∧ decide ((((u + v) + v) + v) < ((u + v) + v)) = false ∧ decide ((((u + v) + v) + v) < (u + v)) = false ∧ decide (u ≤ (((u + v) + v) + v)) = true ∧ decide ((((u + v) + v) + v) < u) = false ∧ decide (((u + v) + v) ≤ (((u + v) + v) + v)) = true ∧ decide (((u + v) + v) < (((u + v) + v) + v)) = true ∧ decide (IntKind.wrap .i64 ((9223372036854775807 + v)) < 9223372036854775807) = true ∧ decide (IntKind.wrap .i64 ((9223372036854775807 + v)) < 0) = true ∧ decide (u ≤ 255) = true ∧ decide (v ≤ 255) = true ∧ True
  exact ⟨decide_eq_false (by omega), decide_eq_true (by omega), decide_eq_false (by omega), decide_eq_false (by omega), decide_eq_true (by omega), decide_eq_false (by omega), decide_eq_true (by omega), decide_eq_false (by omega), decide_eq_false (by omega), decide_eq_false (by omega), decide_eq_true (by omega), decide_eq_false (by omega), decide_eq_true (by omega), decide_eq_true (by omega), decide_eq_true (by rw [IntKind.wrap_i64]; omega), decide_eq_true (by rw [IntKind.wrap_i64]; omega), decide_eq_true (by omega), decide_eq_true (by omega), trivial⟩
theorem hF2 (u v : Int)   : @okF (ofB [u, v]) F2 := by
  show True
  exact trivial
theorem hF3 (u v : Int)  (h2 : 1 ≤ v) (h3 : v ≤ 255) : @okF (ofB [u, v]) F3 := by
  show decide ((v + v) < v) = false ∧ decide (v ≤ (v + v)) = true ∧ decide ((v + v) = v) = false ∧ decide (((v + v) + v) < (v + v)) = false ∧ decide (((v + v) + v) < v) = false ∧ decide ((v + v) ≤ ((v + v) + v)) = true ∧ decide ((v + v) < ((v + v) + v)) = true ∧ decide (IntKind.wrap .i64 ((9223372036854775807 + v)) < 9223372036854775807) = true ∧ decide (IntKind.wrap .i64 ((9223372036854775807 + v)) < 0) = true ∧ decide (v ≤ 255) = true ∧ True
  exact ⟨decide_eq_false (by omega), decide_eq_true (by omega), decide_eq_false (by omega), decide_eq_false (by omega), decide_eq_false (by omega), decide_eq_true (by omega), decide_eq_true (by omega), decide_eq_true (by rw [IntKind.wrap_i64]; omega), decide_eq_true (by rw [IntKind.wrap_i64]; omega), decide_eq_true (by omega), trivial⟩
theorem g0 (u v : Int) (h0 : 1 ≤ u) (h1 : u ≤ 255) (h2 : v = 0) : Go.Va.Good Tryz.prog 3 [.int .u8 u, .int .u8 v] := by
  subst h2
  have h := hF0 u 0 h0 h1 
  letI : Vl := @Vl.mk (ofB [u, 0]) F0 h
  have hu : (1 ≤ u ∧ u ≤ 9) ∨ (10 ≤ u ∧ u ≤ 99) ∨ (100 ≤ u ∧ u ≤ 255) := by omega
  rcases hu with hu | hu | hu
  · exact good_of (tw_ok _ _ (ow0_23 _ h) (ow0_9 _ h)) ⟨⟨_, by rw [u0_1_0 _ h]⟩⟩ Tryz.call3 (denL2 (den_byB _ rfl hu.1 hu.2) rfl)
  · exact good_of (tw_ok _ _ (ow0_23 _ h) (ow0_9 _ h)) ⟨⟨_, by rw [u0_10_0 _ h]⟩⟩ Tryz.call3 (denL2 (den_byB _ rfl hu.1 hu.2) rfl)
  · exact good_of (tw_ok _ _ (ow0_23 _ h) (ow0_9 _ h)) ⟨⟨_, by rw [u0_100_0 _ h]⟩⟩ Tryz.call3 (denL2 (den_byB _ rfl hu.1 hu.2) rfl)
theorem g1 (u v : Int) (h0 : 1 ≤ u) (h1 : u ≤ 255) (h2 : 1 ≤ v) (h3 : v ≤ 255) : Go.Va.Good Tryz.prog 3 [.int .u8 u, .int .u8 v] := by
  have h := hF1 u v h0 h1 h2 h3
  letI : Vl := @Vl.mk (ofB [u, v]) F1 h
  have hu : (1 ≤ u ∧ u ≤ 9) ∨ (10 ≤ u ∧ u ≤ 99) ∨ (100 ≤ u ∧ u ≤ 255) := by omega
  have hv : (1 ≤ v ∧ v ≤ 9) ∨ (10 ≤ v ∧ v ≤ 99) ∨ (100 ≤ v ∧ v ≤ 255) := by omega
  rcases hu with hu | hu | hu
  · rcases hv with hv | hv | hv
    · exact good_of (tw_ok _ _ (ow1_23 _ h) (ow1_9 _ h)) ⟨⟨_, by rw [u1_1_1 _ h]⟩⟩ Tryz.call3 (denL2 (den_byB _ rfl hu.1 hu.2) (den_byB _ rfl hv.1 hv.2))
    · exact good_of (tw_ok _ _ (ow1_23 _ h) (ow1_9 _ h)) ⟨⟨_, by rw [u1_1_10 _ h]⟩⟩ Tryz.call3 (denL2 (den_byB _ rfl hu.1 hu.2) (den_byB _ rfl hv.1 hv.2))
    · exact good_of (tw_ok _ _ (ow1_23 _ h) (ow1_9 _ h)) ⟨⟨_, by rw [u1_1_100 _ h]⟩⟩ Tryz.call3 (denL2 (den_byB _ rfl hu.1 hu.2) (den_byB _ rfl hv.1 hv.2))
  · rcases hv with hv | hv | hv
    · exact good_of (tw_ok _ _ (ow1_23 _ h) (ow1_9 _ h)) ⟨⟨_, by rw [u1_10_1 _ h]⟩⟩ Tryz.call3 (denL2 (den_byB _ rfl hu.1 hu.2) (den_byB _ rfl hv.1 hv.2))
    · exact good_of (tw_ok _ _ (ow1_23 _ h) (ow1_9 _ h)) ⟨⟨_, by rw [u1_10_10 _ h]⟩⟩ Tryz.call3 (denL2 (den_byB _ rfl hu.1 hu.2) (den_byB _ rfl hv.1 hv.2))
    · exact good_of (tw_ok _ _ (ow1_23 _ h) (ow1_9 _ h)) ⟨⟨_, by rw [u1_10_100 _ h]⟩⟩ Tryz.call3 (denL2 (den_byB _ rfl hu.1 hu.2) (den_byB _ rfl hv.1 hv.2))
  · rcases hv with hv | hv | hv
    · exact good_of (tw_ok _ _ (ow1_23 _ h) (ow1_9 _ h)) ⟨⟨_, by rw [u1_100_1 _ h]⟩⟩ Tryz.call3 (denL2 (den_byB _ rfl hu.1 hu.2) (den_byB _ rfl hv.1 hv.2))
    · exact good_of (tw_ok _ _ (ow1_23 _ h) (ow1_9 _ h)) ⟨⟨_, by rw [u1_100_10 _ h]⟩⟩ Tryz.call3 (denL2 (den_byB _ rfl hu.1 hu.2) (den_byB _ rfl hv.1 hv.2))
    · exact good_of (tw_ok _ _ (ow1_23 _ h) (ow1_9 _ h)) ⟨⟨_, by rw [u1_100_100 _ h]⟩⟩ Tryz.call3 (denL2 (den_byB _ rfl hu.1 hu.2) (den_byB _ rfl hv.1 hv.2))
theorem g2 (u v : Int) (h0 : u = 0) (h2 : v = 0) : Go.Va.Good Tryz.prog 3 [.int .u8 u, .int .u8 v] := by
  subst h0
  subst h2
  have h := hF2 0 0  
  letI : Vl := @Vl.mk (ofB [0, 0]) F2 h
  exact good_of (tw_ok _ _ (ow2_23 _ h) (ow2_9 _ h)) ⟨⟨_, by rw [u2_0_0 _ h]⟩⟩ Tryz.call3 (denL2 rfl rfl)
theorem g3 (u v : Int) (h0 : u = 0) (h2 : 1 ≤ v) (h3 : v ≤ 255) : Go.Va.Good Tryz.prog 3 [.int .u8 u, .int .u8 v] := by
  subst h0
  have h := hF3 0 v  h2 h3
  letI : Vl := @Vl.mk (ofB [0, v]) F3 h
  have hv : (1 ≤ v ∧ v ≤ 9) ∨ (10 ≤ v ∧ v ≤ 99) ∨ (100 ≤ v ∧ v ≤ 255) := by omega
  rcases hv with hv | hv | hv
  · exact good_of (tw_ok _ _ (ow3_23 _ h) (ow3_9 _ h)) ⟨⟨_, by rw [u3_0_1 _ h]⟩⟩ Tryz.call3 (denL2 rfl (den_byB _ rfl hv.1 hv.2))
  · exact good_of (tw_ok _ _ (ow3_23 _ h) (ow3_9 _ h)) ⟨⟨_, by rw [u3_0_10 _ h]⟩⟩ Tryz.call3 (denL2 rfl (den_byB _ rfl hv.1 hv.2))
  · exact good_of (tw_ok _ _ (ow3_23 _ h) (ow3_9 _ h)) ⟨⟨_, by rw [u3_0_100 _ h]⟩⟩ Tryz.call3 (denL2 rfl (den_byB _ rfl hv.1 hv.2))
theorem cr_good (u v : Int) (hu : 0 ≤ u ∧ u ≤ 255) (hv : 0 ≤ v ∧ v ≤ 255) : Go.Va.Good Tryz.prog 3 [.int .u8 u, .int .u8 v] := by
  rcases (by omega : u = 0 ∨ 1 ≤ u) with h | h
  · rcases (by omega : v = 0 ∨ 1 ≤ v) with k | k
    · exact g2 u v h k
    · exact g3 u v h k hv.2
  · rcases (by omega : v = 0 ∨ 1 ≤ v) with k | k
    · exact g0 u v h hu.2 k
    · exact g1 u v h hu.2 k hv.2
end Go.Proofs.YtojhofdndohhdaaGreat
