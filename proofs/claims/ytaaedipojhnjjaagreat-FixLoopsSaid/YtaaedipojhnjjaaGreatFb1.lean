/- FixLoops: Solve, reckoned. -/
import Derived.Test.YtaaedipojhnjjaaGreatFa
import Derived.Test.YtaaedipojhnjjaaGreatVsl
import Derived.KernelRfl
set_option linter.unusedVariables false
set_option linter.unusedSectionVars false
set_option maxRecDepth 100000
namespace Go.Proofs.YtaaedipojhnjjaaGreat
open Go Go.Sh Go.Va
theorem fn_ppB (B : Vb) (h : @okF B flF_ppB) : letI : Vl := @Vl.mk B flF_ppB h; smRun tab 13 1000 1000 9 .nil flS_ppB = (flS_ppB.x1 = flS_ppB.x1 ∧ reflT flS_ppB.t1) := by kernel_rfl
theorem sn_ppB (B : Vb) (h : @okF B flF_ppB) (G : Gd) : @SmOk B G Tryz.prog 9 flS_ppB := by
  letI : Vl := @Vl.mk B flF_ppB h
  exact sm_ok tab_ok (by kernel_rfl) (by kernel_rfl) (fn_ppB B h) G
theorem fn_ppD (B : Vb) (h : @okF B flF_ppD) : letI : Vl := @Vl.mk B flF_ppD h; smRun tab 13 1000 1000 9 .nil flS_ppD = (flS_ppD.x1 = flS_ppD.x1 ∧ reflT flS_ppD.t1) := by kernel_rfl
theorem sn_ppD (B : Vb) (h : @okF B flF_ppD) (G : Gd) : @SmOk B G Tryz.prog 9 flS_ppD := by
  letI : Vl := @Vl.mk B flF_ppD h
  exact sm_ok tab_ok (by kernel_rfl) (by kernel_rfl) (fn_ppD B h) G
theorem fn_npB (B : Vb) (h : @okF B flF_npB) : letI : Vl := @Vl.mk B flF_npB h; smRun tab 13 1000 1000 9 .nil flS_npB = (flS_npB.x1 = flS_npB.x1 ∧ reflT flS_npB.t1) := by kernel_rfl
theorem sn_npB (B : Vb) (h : @okF B flF_npB) (G : Gd) : @SmOk B G Tryz.prog 9 flS_npB := by
  letI : Vl := @Vl.mk B flF_npB h
  exact sm_ok tab_ok (by kernel_rfl) (by kernel_rfl) (fn_npB B h) G
theorem fn_npD (B : Vb) (h : @okF B flF_npD) : letI : Vl := @Vl.mk B flF_npD h; smRun tab 13 1000 1000 9 .nil flS_npD = (flS_npD.x1 = flS_npD.x1 ∧ reflT flS_npD.t1) := by kernel_rfl
theorem sn_npD (B : Vb) (h : @okF B flF_npD) (G : Gd) : @SmOk B G Tryz.prog 9 flS_npD := by
  letI : Vl := @Vl.mk B flF_npD h
  exact sm_ok tab_ok (by kernel_rfl) (by kernel_rfl) (fn_npD B h) G
theorem fn_nnA (B : Vb) (h : @okF B flF_nnA) : letI : Vl := @Vl.mk B flF_nnA h; smRun tab 13 1000 1000 9 .nil flS_nnA = (flS_nnA.x1 = flS_nnA.x1 ∧ reflT flS_nnA.t1) := by kernel_rfl
theorem sn_nnA (B : Vb) (h : @okF B flF_nnA) (G : Gd) : @SmOk B G Tryz.prog 9 flS_nnA := by
  letI : Vl := @Vl.mk B flF_nnA h
  exact sm_ok tab_ok (by kernel_rfl) (by kernel_rfl) (fn_nnA B h) G
theorem fn_nnC (B : Vb) (h : @okF B flF_nnC) : letI : Vl := @Vl.mk B flF_nnC h; smRun tab 13 1000 1000 9 .nil flS_nnC = (flS_nnC.x1 = flS_nnC.x1 ∧ reflT flS_nnC.t1) := by kernel_rfl
theorem sn_nnC (B : Vb) (h : @okF B flF_nnC) (G : Gd) : @SmOk B G Tryz.prog 9 flS_nnC := by
  letI : Vl := @Vl.mk B flF_nnC h
  exact sm_ok tab_ok (by kernel_rfl) (by kernel_rfl) (fn_nnC B h) G
theorem fn_nnE (B : Vb) (h : @okF B flF_nnE) : letI : Vl := @Vl.mk B flF_nnE h; smRun tab 13 1000 1000 9 .nil flS_nnE = (flS_nnE.x1 = flS_nnE.x1 ∧ reflT flS_nnE.t1) := by kernel_rfl
theorem sn_nnE (B : Vb) (h : @okF B flF_nnE) (G : Gd) : @SmOk B G Tryz.prog 9 flS_nnE := by
  letI : Vl := @Vl.mk B flF_nnE h
  exact sm_ok tab_ok (by kernel_rfl) (by kernel_rfl) (fn_nnE B h) G
theorem lst_pp (B : Vb) (h : @okF B flFS) : letI : Vl := @Vl.mk B flFS h; lsRun tab 12 1000 1000 m101 kb101 (.u 0 .nil) flV_pp [flV_pp.inp flSig] = (flV_pp.s.x1 = flV_pp.s.x1 ∧ reflT flV_pp.s.t1) := by kernel_rfl
theorem lsb_pp (B : Vb) (h : @okF B flFB) : letI : Vl := @Vl.mk B flFB h; lsRun tab 12 1000 1000 m101 kb101 .nil (flV_pp.inp flTau) [] = ((flV_pp.inp flTau).s.x1 = (flV_pp.inp flTau).s.x1 ∧ reflT (flV_pp.inp flTau).s.t1) := by kernel_rfl
theorem lst_np (B : Vb) (h : @okF B flFS) : letI : Vl := @Vl.mk B flFS h; lsRun tab 12 1000 1000 m101 kb101 (.u 0 .nil) flV_np [flV_np.inp flSig] = (flV_np.s.x1 = flV_np.s.x1 ∧ reflT flV_np.s.t1) := by kernel_rfl
theorem lsb_np (B : Vb) (h : @okF B flFB) : letI : Vl := @Vl.mk B flFB h; lsRun tab 12 1000 1000 m101 kb101 .nil (flV_np.inp flTau) [] = ((flV_np.inp flTau).s.x1 = (flV_np.inp flTau).s.x1 ∧ reflT (flV_np.inp flTau).s.t1) := by kernel_rfl
theorem lst_nn (B : Vb) (h : @okF B flFS) : letI : Vl := @Vl.mk B flFS h; lsRun tab 12 1000 1000 m101 kb101 (.u 0 .nil) flV_nn [flV_nn.inp flSig] = (flV_nn.s.x1 = flV_nn.s.x1 ∧ reflT flV_nn.s.t1) := by kernel_rfl
theorem lsb_nn (B : Vb) (h : @okF B flFB) : letI : Vl := @Vl.mk B flFB h; lsRun tab 12 1000 1000 m101 kb101 .nil (flV_nn.inp flTau) [] = ((flV_nn.inp flTau).s.x1 = (flV_nn.inp flTau).s.x1 ∧ reflT (flV_nn.inp flTau).s.t1) := by kernel_rfl
theorem lkS_ge {l : List SE} {i : Nat} (h : l.length ≤ i) : lkS l i = .v i := by
  unfold lkS
  cases hh : hd? (dropF i l) with
  | none => rfl
  | some a =>
    letI : Vb := ofB []
    have := hd?_some hh
    rw [List.getElem?_eq_none h] at this
    cases this
theorem putsT {hi k fuel fin ff lo : Int} (h : ff = fuel - 1) : Puts (ofB [fin, hi, k, fuel, fin, ff, lo]) (ofB [fin, hi, k, fuel, fin, ff, lo]) flTau := ⟨fun i => match i with
  | 0 => rfl
  | 1 => rfl
  | 2 => rfl
  | 3 => rfl
  | 4 => rfl
  | 5 => h
  | n + 6 => by
    unfold flTau; rw [lkS_ge (by simp)]; rfl, fun _ => rfl⟩
theorem putsS {cur hi k fuel fin ff lo : Int} : Puts (ofB [cur, hi, k, fuel, fin, ff, lo]) (ofB [cur + k, hi, k, fuel - 1 - 1, fin, ff, lo]) flSig := ⟨fun i => match i with
  | 0 => rfl
  | 1 => rfl
  | 2 => rfl
  | 3 => rfl
  | n + 4 => by
    unfold flSig; rw [lkS_ge (by simp)]; rfl, fun _ => rfl⟩
theorem loop_pp (hi k fin ff lo : Int) (k1 : 1 ≤ k) (k9 : k ≤ 9) (hh : hi ≤ 32767) (hf : 99 ≤ ff) (h1 : hi ≤ fin) (h2 : fin < hi + k) : ∀ (N : Nat) (cur fuel : Int), cur + N * k = fin → fuel - 2 * N - 1 = ff → @LsI (ofB [cur, hi, k, fuel, fin, ff, lo]) Tryz.prog 101 flV_pp
  | 0, cur, fuel, e1, e2 => by
    have e1 : cur = fin := by simpa using e1
    subst e1
    have e2 : ff = fuel - 1 := by simp at e2; omega
    have h : @okF (ofB [cur, hi, k, fuel, cur, ff, lo]) flFB := ⟨decide_eq_false (show ¬ cur < hi by omega), trivial⟩
    refine (LsI.sub_iff (putsT e2)).1 ?_
    letI : Vl := @Vl.mk (ofB [cur, hi, k, fuel, cur, ff, lo]) flFB h
    exact ls_eq tab_ok lp101 (fun S' hS => by cases hS) (by kernel_rfl) (by kernel_rfl) (lsb_pp _ h)
  | N + 1, cur, fuel, e1, e2 => by
    have hm : ((N + 1 : Nat) : Int) * k = (N : Int) * k + k := by rw [Int.natCast_succ, Int.add_mul, Int.one_mul]
    have hp : 0 ≤ (N : Int) * k := Int.mul_nonneg (by omega) (by omega)
    have e2' : (fuel - 1 - 1) - 2 * (N : Int) - 1 = ff := by have := e2; rw [Int.natCast_succ] at this; omega
    rw [hm] at e1
    have e1' : (cur + k) + (N : Int) * k = fin := by omega
    have ih := loop_pp hi k fin ff lo k1 k9 hh hf h1 h2 N (cur + k) (fuel - 1 - 1) e1' e2'
    generalize (N : Int) * k = M at *
    have h : @okF (ofB [cur, hi, k, fuel, fin, ff, lo]) flFS := ⟨decide_eq_true (show cur < hi by omega), decide_eq_true (show cur + k ≤ 32776 by omega), decide_eq_true (show 100 ≤ fuel - 1 - 1 by omega), trivial⟩
    letI : Vl := @Vl.mk (ofB [cur, hi, k, fuel, fin, ff, lo]) flFS h
    exact ls_eq tab_ok lp101 (fun S' hS => by cases List.mem_singleton.1 hS; exact (LsI.sub_iff putsS).2 ih) (by kernel_rfl) (by kernel_rfl) (lst_pp _ h)
theorem loop_np (hi k fin ff lo : Int) (k1 : 1 ≤ k) (k9 : k ≤ 9) (hh : hi ≤ 32767) (hf : 99 ≤ ff) (h1 : hi ≤ fin) (h2 : fin < hi + k) : ∀ (N : Nat) (cur fuel : Int), cur + N * k = fin → fuel - 2 * N - 1 = ff → @LsI (ofB [cur, hi, k, fuel, fin, ff, lo]) Tryz.prog 101 flV_np
  | 0, cur, fuel, e1, e2 => by
    have e1 : cur = fin := by simpa using e1
    subst e1
    have e2 : ff = fuel - 1 := by simp at e2; omega
    have h : @okF (ofB [cur, hi, k, fuel, cur, ff, lo]) flFB := ⟨decide_eq_false (show ¬ cur < hi by omega), trivial⟩
    refine (LsI.sub_iff (putsT e2)).1 ?_
    letI : Vl := @Vl.mk (ofB [cur, hi, k, fuel, cur, ff, lo]) flFB h
    exact ls_eq tab_ok lp101 (fun S' hS => by cases hS) (by kernel_rfl) (by kernel_rfl) (lsb_np _ h)
  | N + 1, cur, fuel, e1, e2 => by
    have hm : ((N + 1 : Nat) : Int) * k = (N : Int) * k + k := by rw [Int.natCast_succ, Int.add_mul, Int.one_mul]
    have hp : 0 ≤ (N : Int) * k := Int.mul_nonneg (by omega) (by omega)
    have e2' : (fuel - 1 - 1) - 2 * (N : Int) - 1 = ff := by have := e2; rw [Int.natCast_succ] at this; omega
    rw [hm] at e1
    have e1' : (cur + k) + (N : Int) * k = fin := by omega
    have ih := loop_np hi k fin ff lo k1 k9 hh hf h1 h2 N (cur + k) (fuel - 1 - 1) e1' e2'
    generalize (N : Int) * k = M at *
    have h : @okF (ofB [cur, hi, k, fuel, fin, ff, lo]) flFS := ⟨decide_eq_true (show cur < hi by omega), decide_eq_true (show cur + k ≤ 32776 by omega), decide_eq_true (show 100 ≤ fuel - 1 - 1 by omega), trivial⟩
    letI : Vl := @Vl.mk (ofB [cur, hi, k, fuel, fin, ff, lo]) flFS h
    exact ls_eq tab_ok lp101 (fun S' hS => by cases List.mem_singleton.1 hS; exact (LsI.sub_iff putsS).2 ih) (by kernel_rfl) (by kernel_rfl) (lst_np _ h)
theorem loop_nn (hi k fin ff lo : Int) (k1 : 1 ≤ k) (k9 : k ≤ 9) (hh : hi ≤ 32767) (hf : 99 ≤ ff) (h1 : hi ≤ fin) (h2 : fin < hi + k) : ∀ (N : Nat) (cur fuel : Int), cur + N * k = fin → fuel - 2 * N - 1 = ff → @LsI (ofB [cur, hi, k, fuel, fin, ff, lo]) Tryz.prog 101 flV_nn
  | 0, cur, fuel, e1, e2 => by
    have e1 : cur = fin := by simpa using e1
    subst e1
    have e2 : ff = fuel - 1 := by simp at e2; omega
    have h : @okF (ofB [cur, hi, k, fuel, cur, ff, lo]) flFB := ⟨decide_eq_false (show ¬ cur < hi by omega), trivial⟩
    refine (LsI.sub_iff (putsT e2)).1 ?_
    letI : Vl := @Vl.mk (ofB [cur, hi, k, fuel, cur, ff, lo]) flFB h
    exact ls_eq tab_ok lp101 (fun S' hS => by cases hS) (by kernel_rfl) (by kernel_rfl) (lsb_nn _ h)
  | N + 1, cur, fuel, e1, e2 => by
    have hm : ((N + 1 : Nat) : Int) * k = (N : Int) * k + k := by rw [Int.natCast_succ, Int.add_mul, Int.one_mul]
    have hp : 0 ≤ (N : Int) * k := Int.mul_nonneg (by omega) (by omega)
    have e2' : (fuel - 1 - 1) - 2 * (N : Int) - 1 = ff := by have := e2; rw [Int.natCast_succ] at this; omega
    rw [hm] at e1
    have e1' : (cur + k) + (N : Int) * k = fin := by omega
    have ih := loop_nn hi k fin ff lo k1 k9 hh hf h1 h2 N (cur + k) (fuel - 1 - 1) e1' e2'
    generalize (N : Int) * k = M at *
    have h : @okF (ofB [cur, hi, k, fuel, fin, ff, lo]) flFS := ⟨decide_eq_true (show cur < hi by omega), decide_eq_true (show cur + k ≤ 32776 by omega), decide_eq_true (show 100 ≤ fuel - 1 - 1 by omega), trivial⟩
    letI : Vl := @Vl.mk (ofB [cur, hi, k, fuel, fin, ff, lo]) flFS h
    exact ls_eq tab_ok lp101 (fun S' hS => by cases List.mem_singleton.1 hS; exact (LsI.sub_iff putsS).2 ih) (by kernel_rfl) (by kernel_rfl) (lst_nn _ h)
end Go.Proofs.YtaaedipojhnjjaaGreat
