/- FixNested: for every input it returns true, and its arguments read behind the call as they did before; under no condition. -/
import Derived.Test.YtaaedipojhnjjaaGreatNb0
import Derived.Test.YtaaedipojhnjjaaGreatNb1
import Derived.Test.YtaaedipojhnjjaaGreatNb2
import Derived.Test.YtaaedipojhnjjaaGreatNb3
import Derived.Test.YtaaedipojhnjjaaGreatNc0
import Derived.KernelRfl
set_option linter.unusedVariables false
set_option linter.unusedSectionVars false
set_option maxRecDepth 100000
namespace Go.Proofs.YtaaedipojhnjjaaGreat
open Go Go.Sh Go.Va
theorem den_byB (B : Vb) {E : Env} {k : IntKind} {e : SE} {lo hi n : Int} (h : @SE.ev B e = n) (h1 : lo ≤ n) (h2 : n ≤ hi) : @den B E (.sy k e lo hi) = some (.int k n) := by
  simp only [den]; rw [h]; exact if_pos ⟨h1, h2⟩
theorem li1s_0 (B : Vb) (h : @okF B nF_s) : @LsI B Tryz.prog 27 nl1s_0 := by
  letI : Vl := @Vl.mk B nF_s h
  exact ls_eq tab_ok lp27 (fun S' hS => by cases hS) (by kernel_rfl) (by kernel_rfl) (ln1s_0 B h)
theorem ui1s (B : Vb) (h : @okF B nF_s) (G : Gd) : @SmOk B G Tryz.prog 27 nu1s := by
  letI : Vl := @Vl.mk B nF_s h
  exact sm_ok (tabU_ok (li1s_0 B h)) (by kernel_rfl) (by kernel_rfl) (un1s B h) G
theorem wi1s (B : Vb) (h : @okF B nF_s) (G : Gd) : @SmOk B G Tryz.prog 28 nw1s := by
  letI : Vl := @Vl.mk B nF_s h
  exact sm_ok tab_ok (by kernel_rfl) (by kernel_rfl) (wn1s B h) G
theorem vi1s (B : Vb) (h : @okF B nF_s) (G : Gd) : @SmOk B G Tryz.prog 9 nv1s := by
  letI : Vl := @Vl.mk B nF_s h
  exact sm_ok (tabS_ok (ui1s B h) (wi1s B h)) (by kernel_rfl) (by kernel_rfl) (vn1s B h) G
theorem li2s_0 (B : Vb) (h : @okF B nF_s) : @LsI B Tryz.prog 27 nl2s_0 := by
  letI : Vl := @Vl.mk B nF_s h
  exact ls_eq tab_ok lp27 (fun S' hS => by cases hS) (by kernel_rfl) (by kernel_rfl) (ln2s_0 B h)
theorem ui2s (B : Vb) (h : @okF B nF_s) (G : Gd) : @SmOk B G Tryz.prog 27 nu2s := by
  letI : Vl := @Vl.mk B nF_s h
  exact sm_ok (tabU_ok (li2s_0 B h)) (by kernel_rfl) (by kernel_rfl) (un2s B h) G
theorem wi2s (B : Vb) (h : @okF B nF_s) (G : Gd) : @SmOk B G Tryz.prog 28 nw2s := by
  letI : Vl := @Vl.mk B nF_s h
  exact sm_ok tab_ok (by kernel_rfl) (by kernel_rfl) (wn2s B h) G
theorem vi2s (B : Vb) (h : @okF B nF_s) (G : Gd) : @SmOk B G Tryz.prog 9 nv2s := by
  letI : Vl := @Vl.mk B nF_s h
  exact sm_ok (tabS_ok (ui2s B h) (wi2s B h)) (by kernel_rfl) (by kernel_rfl) (vn2s B h) G
theorem li3s_2 (B : Vb) (h : @okF B nF_s) : @LsI B Tryz.prog 27 nl3s_2 := by
  letI : Vl := @Vl.mk B nF_s h
  exact ls_eq tab_ok lp27 (fun S' hS => by cases hS) (by kernel_rfl) (by kernel_rfl) (ln3s_2 B h)
theorem li3s_1 (B : Vb) (h : @okF B nF_s) : @LsI B Tryz.prog 27 nl3s_1 := by
  letI : Vl := @Vl.mk B nF_s h
  exact ls_eq tab_ok lp27 (fun S' hS => by cases List.mem_singleton.1 hS; exact li3s_2 B h) (by kernel_rfl) (by kernel_rfl) (ln3s_1 B h)
theorem li3s_0 (B : Vb) (h : @okF B nF_s) : @LsI B Tryz.prog 27 nl3s_0 := by
  letI : Vl := @Vl.mk B nF_s h
  exact ls_eq tab_ok lp27 (fun S' hS => by cases List.mem_singleton.1 hS; exact li3s_1 B h) (by kernel_rfl) (by kernel_rfl) (ln3s_0 B h)
theorem ui3s (B : Vb) (h : @okF B nF_s) (G : Gd) : @SmOk B G Tryz.prog 27 nu3s := by
  letI : Vl := @Vl.mk B nF_s h
  exact sm_ok (tabU_ok (li3s_0 B h)) (by kernel_rfl) (by kernel_rfl) (un3s B h) G
theorem wi3s (B : Vb) (h : @okF B nF_s) (G : Gd) : @SmOk B G Tryz.prog 28 nw3s := by
  letI : Vl := @Vl.mk B nF_s h
  exact sm_ok tab_ok (by kernel_rfl) (by kernel_rfl) (wn3s B h) G
theorem vi3s (B : Vb) (h : @okF B nF_s) (G : Gd) : @SmOk B G Tryz.prog 9 nv3s := by
  letI : Vl := @Vl.mk B nF_s h
  exact sm_ok (tabS_ok (ui3s B h) (wi3s B h)) (by kernel_rfl) (by kernel_rfl) (vn3s B h) G
theorem li4s_3 (B : Vb) (h : @okF B nF_s) : @LsI B Tryz.prog 27 nl4s_3 := by
  letI : Vl := @Vl.mk B nF_s h
  exact ls_eq tab_ok lp27 (fun S' hS => by cases hS) (by kernel_rfl) (by kernel_rfl) (ln4s_3 B h)
theorem li4s_2 (B : Vb) (h : @okF B nF_s) : @LsI B Tryz.prog 27 nl4s_2 := by
  letI : Vl := @Vl.mk B nF_s h
  exact ls_eq tab_ok lp27 (fun S' hS => by cases List.mem_singleton.1 hS; exact li4s_3 B h) (by kernel_rfl) (by kernel_rfl) (ln4s_2 B h)
theorem li4s_1 (B : Vb) (h : @okF B nF_s) : @LsI B Tryz.prog 27 nl4s_1 := by
  letI : Vl := @Vl.mk B nF_s h
  exact ls_eq tab_ok lp27 (fun S' hS => by cases List.mem_singleton.1 hS; exact li4s_2 B h) (by kernel_rfl) (by kernel_rfl) (ln4s_1 B h)
theorem li4s_0 (B : Vb) (h : @okF B nF_s) : @LsI B Tryz.prog 27 nl4s_0 := by
  letI : Vl := @Vl.mk B nF_s h
  exact ls_eq tab_ok lp27 (fun S' hS => by cases List.mem_singleton.1 hS; exact li4s_1 B h) (by kernel_rfl) (by kernel_rfl) (ln4s_0 B h)
theorem ui4s (B : Vb) (h : @okF B nF_s) (G : Gd) : @SmOk B G Tryz.prog 27 nu4s := by
  letI : Vl := @Vl.mk B nF_s h
  exact sm_ok (tabU_ok (li4s_0 B h)) (by kernel_rfl) (by kernel_rfl) (un4s B h) G
theorem wi4s (B : Vb) (h : @okF B nF_s) (G : Gd) : @SmOk B G Tryz.prog 28 nw4s := by
  letI : Vl := @Vl.mk B nF_s h
  exact sm_ok tab_ok (by kernel_rfl) (by kernel_rfl) (wn4s B h) G
theorem vi4s (B : Vb) (h : @okF B nF_s) (G : Gd) : @SmOk B G Tryz.prog 9 nv4s := by
  letI : Vl := @Vl.mk B nF_s h
  exact sm_ok (tabS_ok (ui4s B h) (wi4s B h)) (by kernel_rfl) (by kernel_rfl) (vn4s B h) G
theorem li5s_5 (B : Vb) (h : @okF B nF_s) : @LsI B Tryz.prog 27 nl5s_5 := by
  letI : Vl := @Vl.mk B nF_s h
  exact ls_eq tab_ok lp27 (fun S' hS => by cases hS) (by kernel_rfl) (by kernel_rfl) (ln5s_5 B h)
theorem li5s_4 (B : Vb) (h : @okF B nF_s) : @LsI B Tryz.prog 27 nl5s_4 := by
  letI : Vl := @Vl.mk B nF_s h
  exact ls_eq tab_ok lp27 (fun S' hS => by cases List.mem_singleton.1 hS; exact li5s_5 B h) (by kernel_rfl) (by kernel_rfl) (ln5s_4 B h)
theorem li5s_3 (B : Vb) (h : @okF B nF_s) : @LsI B Tryz.prog 27 nl5s_3 := by
  letI : Vl := @Vl.mk B nF_s h
  exact ls_eq tab_ok lp27 (fun S' hS => by cases List.mem_singleton.1 hS; exact li5s_4 B h) (by kernel_rfl) (by kernel_rfl) (ln5s_3 B h)
theorem li5s_2 (B : Vb) (h : @okF B nF_s) : @LsI B Tryz.prog 27 nl5s_2 := by
  letI : Vl := @Vl.mk B nF_s h
  exact ls_eq tab_ok lp27 (fun S' hS => by cases List.mem_singleton.1 hS; exact li5s_3 B h) (by kernel_rfl) (by kernel_rfl) (ln5s_2 B h)
theorem li5s_1 (B : Vb) (h : @okF B nF_s) : @LsI B Tryz.prog 27 nl5s_1 := by
  letI : Vl := @Vl.mk B nF_s h
  exact ls_eq tab_ok lp27 (fun S' hS => by cases List.mem_singleton.1 hS; exact li5s_2 B h) (by kernel_rfl) (by kernel_rfl) (ln5s_1 B h)
theorem li5s_0 (B : Vb) (h : @okF B nF_s) : @LsI B Tryz.prog 27 nl5s_0 := by
  letI : Vl := @Vl.mk B nF_s h
  exact ls_eq tab_ok lp27 (fun S' hS => by cases List.mem_singleton.1 hS; exact li5s_1 B h) (by kernel_rfl) (by kernel_rfl) (ln5s_0 B h)
theorem ui5s (B : Vb) (h : @okF B nF_s) (G : Gd) : @SmOk B G Tryz.prog 27 nu5s := by
  letI : Vl := @Vl.mk B nF_s h
  exact sm_ok (tabU_ok (li5s_0 B h)) (by kernel_rfl) (by kernel_rfl) (un5s B h) G
theorem lj5s (B : Vb) (h : @okF B nF_s) : @LsI B Tryz.prog 28 ny5s := by
  letI : Vl := @Vl.mk B nF_s h
  exact ls_eq tab_ok lp28 (fun S' hS => by cases hS) (by kernel_rfl) (by kernel_rfl) (lq5s B h)
theorem wi5s (B : Vb) (h : @okF B nF_s) (G : Gd) : @SmOk B G Tryz.prog 28 nw5s := by
  letI : Vl := @Vl.mk B nF_s h
  exact sm_ok (tabD_ok (lj5s B h)) (by kernel_rfl) (by kernel_rfl) (wn5s B h) G
theorem vi5s (B : Vb) (h : @okF B nF_s) (G : Gd) : @SmOk B G Tryz.prog 9 nv5s := by
  letI : Vl := @Vl.mk B nF_s h
  exact sm_ok (tabS_ok (ui5s B h) (wi5s B h)) (by kernel_rfl) (by kernel_rfl) (vn5s B h) G
theorem li12_0 (B : Vb) (h : @okF B nF_0) : @LsI B Tryz.prog 27 nl12_0 := by
  letI : Vl := @Vl.mk B nF_0 h
  exact ls_eq tab_ok lp27 (fun S' hS => by cases hS) (by kernel_rfl) (by kernel_rfl) (ln12_0 B h)
theorem ui12 (B : Vb) (h : @okF B nF_0) (G : Gd) : @SmOk B G Tryz.prog 27 nu12 := by
  letI : Vl := @Vl.mk B nF_0 h
  exact sm_ok (tabU_ok (li12_0 B h)) (by kernel_rfl) (by kernel_rfl) (un12 B h) G
theorem wi12 (B : Vb) (h : @okF B nF_0) (G : Gd) : @SmOk B G Tryz.prog 28 nw12 := by
  letI : Vl := @Vl.mk B nF_0 h
  exact sm_ok tab_ok (by kernel_rfl) (by kernel_rfl) (wn12 B h) G
theorem vi12 (B : Vb) (h : @okF B nF_0) (G : Gd) : @SmOk B G Tryz.prog 9 nv12 := by
  letI : Vl := @Vl.mk B nF_0 h
  exact sm_ok (tabS_ok (ui12 B h) (wi12 B h)) (by kernel_rfl) (by kernel_rfl) (vn12 B h) G
theorem li22_0 (B : Vb) (h : @okF B nF_0) : @LsI B Tryz.prog 27 nl22_0 := by
  letI : Vl := @Vl.mk B nF_0 h
  exact ls_eq tab_ok lp27 (fun S' hS => by cases hS) (by kernel_rfl) (by kernel_rfl) (ln22_0 B h)
theorem ui22 (B : Vb) (h : @okF B nF_0) (G : Gd) : @SmOk B G Tryz.prog 27 nu22 := by
  letI : Vl := @Vl.mk B nF_0 h
  exact sm_ok (tabU_ok (li22_0 B h)) (by kernel_rfl) (by kernel_rfl) (un22 B h) G
theorem wi22 (B : Vb) (h : @okF B nF_0) (G : Gd) : @SmOk B G Tryz.prog 28 nw22 := by
  letI : Vl := @Vl.mk B nF_0 h
  exact sm_ok tab_ok (by kernel_rfl) (by kernel_rfl) (wn22 B h) G
theorem vi22 (B : Vb) (h : @okF B nF_0) (G : Gd) : @SmOk B G Tryz.prog 9 nv22 := by
  letI : Vl := @Vl.mk B nF_0 h
  exact sm_ok (tabS_ok (ui22 B h) (wi22 B h)) (by kernel_rfl) (by kernel_rfl) (vn22 B h) G
theorem li32_2 (B : Vb) (h : @okF B nF_0) : @LsI B Tryz.prog 27 nl32_2 := by
  letI : Vl := @Vl.mk B nF_0 h
  exact ls_eq tab_ok lp27 (fun S' hS => by cases hS) (by kernel_rfl) (by kernel_rfl) (ln32_2 B h)
theorem li32_1 (B : Vb) (h : @okF B nF_0) : @LsI B Tryz.prog 27 nl32_1 := by
  letI : Vl := @Vl.mk B nF_0 h
  exact ls_eq tab_ok lp27 (fun S' hS => by cases List.mem_singleton.1 hS; exact li32_2 B h) (by kernel_rfl) (by kernel_rfl) (ln32_1 B h)
theorem li32_0 (B : Vb) (h : @okF B nF_0) : @LsI B Tryz.prog 27 nl32_0 := by
  letI : Vl := @Vl.mk B nF_0 h
  exact ls_eq tab_ok lp27 (fun S' hS => by cases List.mem_singleton.1 hS; exact li32_1 B h) (by kernel_rfl) (by kernel_rfl) (ln32_0 B h)
theorem ui32 (B : Vb) (h : @okF B nF_0) (G : Gd) : @SmOk B G Tryz.prog 27 nu32 := by
  letI : Vl := @Vl.mk B nF_0 h
  exact sm_ok (tabU_ok (li32_0 B h)) (by kernel_rfl) (by kernel_rfl) (un32 B h) G
theorem wi32 (B : Vb) (h : @okF B nF_0) (G : Gd) : @SmOk B G Tryz.prog 28 nw32 := by
  letI : Vl := @Vl.mk B nF_0 h
  exact sm_ok tab_ok (by kernel_rfl) (by kernel_rfl) (wn32 B h) G
theorem vi32 (B : Vb) (h : @okF B nF_0) (G : Gd) : @SmOk B G Tryz.prog 9 nv32 := by
  letI : Vl := @Vl.mk B nF_0 h
  exact sm_ok (tabS_ok (ui32 B h) (wi32 B h)) (by kernel_rfl) (by kernel_rfl) (vn32 B h) G
theorem li42_3 (B : Vb) (h : @okF B nF_0) : @LsI B Tryz.prog 27 nl42_3 := by
  letI : Vl := @Vl.mk B nF_0 h
  exact ls_eq tab_ok lp27 (fun S' hS => by cases hS) (by kernel_rfl) (by kernel_rfl) (ln42_3 B h)
theorem li42_2 (B : Vb) (h : @okF B nF_0) : @LsI B Tryz.prog 27 nl42_2 := by
  letI : Vl := @Vl.mk B nF_0 h
  exact ls_eq tab_ok lp27 (fun S' hS => by cases List.mem_singleton.1 hS; exact li42_3 B h) (by kernel_rfl) (by kernel_rfl) (ln42_2 B h)
theorem li42_1 (B : Vb) (h : @okF B nF_0) : @LsI B Tryz.prog 27 nl42_1 := by
  letI : Vl := @Vl.mk B nF_0 h
  exact ls_eq tab_ok lp27 (fun S' hS => by cases List.mem_singleton.1 hS; exact li42_2 B h) (by kernel_rfl) (by kernel_rfl) (ln42_1 B h)
theorem li42_0 (B : Vb) (h : @okF B nF_0) : @LsI B Tryz.prog 27 nl42_0 := by
  letI : Vl := @Vl.mk B nF_0 h
  exact ls_eq tab_ok lp27 (fun S' hS => by cases List.mem_singleton.1 hS; exact li42_1 B h) (by kernel_rfl) (by kernel_rfl) (ln42_0 B h)
theorem ui42 (B : Vb) (h : @okF B nF_0) (G : Gd) : @SmOk B G Tryz.prog 27 nu42 := by
  letI : Vl := @Vl.mk B nF_0 h
  exact sm_ok (tabU_ok (li42_0 B h)) (by kernel_rfl) (by kernel_rfl) (un42 B h) G
theorem wi42 (B : Vb) (h : @okF B nF_0) (G : Gd) : @SmOk B G Tryz.prog 28 nw42 := by
  letI : Vl := @Vl.mk B nF_0 h
  exact sm_ok tab_ok (by kernel_rfl) (by kernel_rfl) (wn42 B h) G
theorem vi42 (B : Vb) (h : @okF B nF_0) (G : Gd) : @SmOk B G Tryz.prog 9 nv42 := by
  letI : Vl := @Vl.mk B nF_0 h
  exact sm_ok (tabS_ok (ui42 B h) (wi42 B h)) (by kernel_rfl) (by kernel_rfl) (vn42 B h) G
theorem li52_5 (B : Vb) (h : @okF B nF_0) : @LsI B Tryz.prog 27 nl52_5 := by
  letI : Vl := @Vl.mk B nF_0 h
  exact ls_eq tab_ok lp27 (fun S' hS => by cases hS) (by kernel_rfl) (by kernel_rfl) (ln52_5 B h)
theorem li52_4 (B : Vb) (h : @okF B nF_0) : @LsI B Tryz.prog 27 nl52_4 := by
  letI : Vl := @Vl.mk B nF_0 h
  exact ls_eq tab_ok lp27 (fun S' hS => by cases List.mem_singleton.1 hS; exact li52_5 B h) (by kernel_rfl) (by kernel_rfl) (ln52_4 B h)
theorem li52_3 (B : Vb) (h : @okF B nF_0) : @LsI B Tryz.prog 27 nl52_3 := by
  letI : Vl := @Vl.mk B nF_0 h
  exact ls_eq tab_ok lp27 (fun S' hS => by cases List.mem_singleton.1 hS; exact li52_4 B h) (by kernel_rfl) (by kernel_rfl) (ln52_3 B h)
theorem li52_2 (B : Vb) (h : @okF B nF_0) : @LsI B Tryz.prog 27 nl52_2 := by
  letI : Vl := @Vl.mk B nF_0 h
  exact ls_eq tab_ok lp27 (fun S' hS => by cases List.mem_singleton.1 hS; exact li52_3 B h) (by kernel_rfl) (by kernel_rfl) (ln52_2 B h)
theorem li52_1 (B : Vb) (h : @okF B nF_0) : @LsI B Tryz.prog 27 nl52_1 := by
  letI : Vl := @Vl.mk B nF_0 h
  exact ls_eq tab_ok lp27 (fun S' hS => by cases List.mem_singleton.1 hS; exact li52_2 B h) (by kernel_rfl) (by kernel_rfl) (ln52_1 B h)
theorem li52_0 (B : Vb) (h : @okF B nF_0) : @LsI B Tryz.prog 27 nl52_0 := by
  letI : Vl := @Vl.mk B nF_0 h
  exact ls_eq tab_ok lp27 (fun S' hS => by cases List.mem_singleton.1 hS; exact li52_1 B h) (by kernel_rfl) (by kernel_rfl) (ln52_0 B h)
theorem ui52 (B : Vb) (h : @okF B nF_0) (G : Gd) : @SmOk B G Tryz.prog 27 nu52 := by
  letI : Vl := @Vl.mk B nF_0 h
  exact sm_ok (tabU_ok (li52_0 B h)) (by kernel_rfl) (by kernel_rfl) (un52 B h) G
theorem lj52 (B : Vb) (h : @okF B nF_0) : @LsI B Tryz.prog 28 ny52 := by
  letI : Vl := @Vl.mk B nF_0 h
  exact ls_eq tab_ok lp28 (fun S' hS => by cases hS) (by kernel_rfl) (by kernel_rfl) (lq52 B h)
theorem wi52 (B : Vb) (h : @okF B nF_0) (G : Gd) : @SmOk B G Tryz.prog 28 nw52 := by
  letI : Vl := @Vl.mk B nF_0 h
  exact sm_ok (tabD_ok (lj52 B h)) (by kernel_rfl) (by kernel_rfl) (wn52 B h) G
theorem vi52 (B : Vb) (h : @okF B nF_0) (G : Gd) : @SmOk B G Tryz.prog 9 nv52 := by
  letI : Vl := @Vl.mk B nF_0 h
  exact sm_ok (tabS_ok (ui52 B h) (wi52 B h)) (by kernel_rfl) (by kernel_rfl) (vn52 B h) G
theorem li11_0 (B : Vb) (h : @okF B nF_0) : @LsI B Tryz.prog 27 nl11_0 := by
  letI : Vl := @Vl.mk B nF_0 h
  exact ls_eq tab_ok lp27 (fun S' hS => by cases hS) (by kernel_rfl) (by kernel_rfl) (ln11_0 B h)
theorem ui11 (B : Vb) (h : @okF B nF_0) (G : Gd) : @SmOk B G Tryz.prog 27 nu11 := by
  letI : Vl := @Vl.mk B nF_0 h
  exact sm_ok (tabU_ok (li11_0 B h)) (by kernel_rfl) (by kernel_rfl) (un11 B h) G
theorem wi11 (B : Vb) (h : @okF B nF_0) (G : Gd) : @SmOk B G Tryz.prog 28 nw11 := by
  letI : Vl := @Vl.mk B nF_0 h
  exact sm_ok tab_ok (by kernel_rfl) (by kernel_rfl) (wn11 B h) G
theorem vi11 (B : Vb) (h : @okF B nF_0) (G : Gd) : @SmOk B G Tryz.prog 9 nv11 := by
  letI : Vl := @Vl.mk B nF_0 h
  exact sm_ok (tabS_ok (ui11 B h) (wi11 B h)) (by kernel_rfl) (by kernel_rfl) (vn11 B h) G
theorem li21_0 (B : Vb) (h : @okF B nF_0) : @LsI B Tryz.prog 27 nl21_0 := by
  letI : Vl := @Vl.mk B nF_0 h
  exact ls_eq tab_ok lp27 (fun S' hS => by cases hS) (by kernel_rfl) (by kernel_rfl) (ln21_0 B h)
theorem ui21 (B : Vb) (h : @okF B nF_0) (G : Gd) : @SmOk B G Tryz.prog 27 nu21 := by
  letI : Vl := @Vl.mk B nF_0 h
  exact sm_ok (tabU_ok (li21_0 B h)) (by kernel_rfl) (by kernel_rfl) (un21 B h) G
theorem wi21 (B : Vb) (h : @okF B nF_0) (G : Gd) : @SmOk B G Tryz.prog 28 nw21 := by
  letI : Vl := @Vl.mk B nF_0 h
  exact sm_ok tab_ok (by kernel_rfl) (by kernel_rfl) (wn21 B h) G
theorem vi21 (B : Vb) (h : @okF B nF_0) (G : Gd) : @SmOk B G Tryz.prog 9 nv21 := by
  letI : Vl := @Vl.mk B nF_0 h
  exact sm_ok (tabS_ok (ui21 B h) (wi21 B h)) (by kernel_rfl) (by kernel_rfl) (vn21 B h) G
theorem li31_0 (B : Vb) (h : @okF B nF_0) : @LsI B Tryz.prog 27 nl31_0 := by
  letI : Vl := @Vl.mk B nF_0 h
  exact ls_eq tab_ok lp27 (fun S' hS => by cases hS) (by kernel_rfl) (by kernel_rfl) (ln31_0 B h)
theorem ui31 (B : Vb) (h : @okF B nF_0) (G : Gd) : @SmOk B G Tryz.prog 27 nu31 := by
  letI : Vl := @Vl.mk B nF_0 h
  exact sm_ok (tabU_ok (li31_0 B h)) (by kernel_rfl) (by kernel_rfl) (un31 B h) G
theorem wi31 (B : Vb) (h : @okF B nF_0) (G : Gd) : @SmOk B G Tryz.prog 28 nw31 := by
  letI : Vl := @Vl.mk B nF_0 h
  exact sm_ok tab_ok (by kernel_rfl) (by kernel_rfl) (wn31 B h) G
theorem vi31 (B : Vb) (h : @okF B nF_0) (G : Gd) : @SmOk B G Tryz.prog 9 nv31 := by
  letI : Vl := @Vl.mk B nF_0 h
  exact sm_ok (tabS_ok (ui31 B h) (wi31 B h)) (by kernel_rfl) (by kernel_rfl) (vn31 B h) G
theorem li41_0 (B : Vb) (h : @okF B nF_0) : @LsI B Tryz.prog 27 nl41_0 := by
  letI : Vl := @Vl.mk B nF_0 h
  exact ls_eq tab_ok lp27 (fun S' hS => by cases hS) (by kernel_rfl) (by kernel_rfl) (ln41_0 B h)
theorem ui41 (B : Vb) (h : @okF B nF_0) (G : Gd) : @SmOk B G Tryz.prog 27 nu41 := by
  letI : Vl := @Vl.mk B nF_0 h
  exact sm_ok (tabU_ok (li41_0 B h)) (by kernel_rfl) (by kernel_rfl) (un41 B h) G
theorem wi41 (B : Vb) (h : @okF B nF_0) (G : Gd) : @SmOk B G Tryz.prog 28 nw41 := by
  letI : Vl := @Vl.mk B nF_0 h
  exact sm_ok tab_ok (by kernel_rfl) (by kernel_rfl) (wn41 B h) G
theorem vi41 (B : Vb) (h : @okF B nF_0) (G : Gd) : @SmOk B G Tryz.prog 9 nv41 := by
  letI : Vl := @Vl.mk B nF_0 h
  exact sm_ok (tabS_ok (ui41 B h) (wi41 B h)) (by kernel_rfl) (by kernel_rfl) (vn41 B h) G
theorem li51_0 (B : Vb) (h : @okF B nF_0) : @LsI B Tryz.prog 27 nl51_0 := by
  letI : Vl := @Vl.mk B nF_0 h
  exact ls_eq tab_ok lp27 (fun S' hS => by cases hS) (by kernel_rfl) (by kernel_rfl) (ln51_0 B h)
theorem ui51 (B : Vb) (h : @okF B nF_0) (G : Gd) : @SmOk B G Tryz.prog 27 nu51 := by
  letI : Vl := @Vl.mk B nF_0 h
  exact sm_ok (tabU_ok (li51_0 B h)) (by kernel_rfl) (by kernel_rfl) (un51 B h) G
theorem lj51 (B : Vb) (h : @okF B nF_0) : @LsI B Tryz.prog 28 ny51 := by
  letI : Vl := @Vl.mk B nF_0 h
  exact ls_eq tab_ok lp28 (fun S' hS => by cases hS) (by kernel_rfl) (by kernel_rfl) (lq51 B h)
theorem wi51 (B : Vb) (h : @okF B nF_0) (G : Gd) : @SmOk B G Tryz.prog 28 nw51 := by
  letI : Vl := @Vl.mk B nF_0 h
  exact sm_ok (tabD_ok (lj51 B h)) (by kernel_rfl) (by kernel_rfl) (wn51 B h) G
theorem vi51 (B : Vb) (h : @okF B nF_0) (G : Gd) : @SmOk B G Tryz.prog 9 nv51 := by
  letI : Vl := @Vl.mk B nF_0 h
  exact sm_ok (tabS_ok (ui51 B h) (wi51 B h)) (by kernel_rfl) (by kernel_rfl) (vn51 B h) G
theorem li10_0 (B : Vb) (h : @okF B nF_0) : @LsI B Tryz.prog 27 nl10_0 := by
  letI : Vl := @Vl.mk B nF_0 h
  exact ls_eq tab_ok lp27 (fun S' hS => by cases hS) (by kernel_rfl) (by kernel_rfl) (ln10_0 B h)
theorem ui10 (B : Vb) (h : @okF B nF_0) (G : Gd) : @SmOk B G Tryz.prog 27 nu10 := by
  letI : Vl := @Vl.mk B nF_0 h
  exact sm_ok (tabU_ok (li10_0 B h)) (by kernel_rfl) (by kernel_rfl) (un10 B h) G
theorem wi10 (B : Vb) (h : @okF B nF_0) (G : Gd) : @SmOk B G Tryz.prog 28 nw10 := by
  letI : Vl := @Vl.mk B nF_0 h
  exact sm_ok tab_ok (by kernel_rfl) (by kernel_rfl) (wn10 B h) G
theorem vi10 (B : Vb) (h : @okF B nF_0) (G : Gd) : @SmOk B G Tryz.prog 9 nv10 := by
  letI : Vl := @Vl.mk B nF_0 h
  exact sm_ok (tabS_ok (ui10 B h) (wi10 B h)) (by kernel_rfl) (by kernel_rfl) (vn10 B h) G
theorem li20_0 (B : Vb) (h : @okF B nF_0) : @LsI B Tryz.prog 27 nl20_0 := by
  letI : Vl := @Vl.mk B nF_0 h
  exact ls_eq tab_ok lp27 (fun S' hS => by cases hS) (by kernel_rfl) (by kernel_rfl) (ln20_0 B h)
theorem ui20 (B : Vb) (h : @okF B nF_0) (G : Gd) : @SmOk B G Tryz.prog 27 nu20 := by
  letI : Vl := @Vl.mk B nF_0 h
  exact sm_ok (tabU_ok (li20_0 B h)) (by kernel_rfl) (by kernel_rfl) (un20 B h) G
theorem wi20 (B : Vb) (h : @okF B nF_0) (G : Gd) : @SmOk B G Tryz.prog 28 nw20 := by
  letI : Vl := @Vl.mk B nF_0 h
  exact sm_ok tab_ok (by kernel_rfl) (by kernel_rfl) (wn20 B h) G
theorem vi20 (B : Vb) (h : @okF B nF_0) (G : Gd) : @SmOk B G Tryz.prog 9 nv20 := by
  letI : Vl := @Vl.mk B nF_0 h
  exact sm_ok (tabS_ok (ui20 B h) (wi20 B h)) (by kernel_rfl) (by kernel_rfl) (vn20 B h) G
theorem li30_0 (B : Vb) (h : @okF B nF_0) : @LsI B Tryz.prog 27 nl30_0 := by
  letI : Vl := @Vl.mk B nF_0 h
  exact ls_eq tab_ok lp27 (fun S' hS => by cases hS) (by kernel_rfl) (by kernel_rfl) (ln30_0 B h)
theorem ui30 (B : Vb) (h : @okF B nF_0) (G : Gd) : @SmOk B G Tryz.prog 27 nu30 := by
  letI : Vl := @Vl.mk B nF_0 h
  exact sm_ok (tabU_ok (li30_0 B h)) (by kernel_rfl) (by kernel_rfl) (un30 B h) G
theorem wi30 (B : Vb) (h : @okF B nF_0) (G : Gd) : @SmOk B G Tryz.prog 28 nw30 := by
  letI : Vl := @Vl.mk B nF_0 h
  exact sm_ok tab_ok (by kernel_rfl) (by kernel_rfl) (wn30 B h) G
theorem vi30 (B : Vb) (h : @okF B nF_0) (G : Gd) : @SmOk B G Tryz.prog 9 nv30 := by
  letI : Vl := @Vl.mk B nF_0 h
  exact sm_ok (tabS_ok (ui30 B h) (wi30 B h)) (by kernel_rfl) (by kernel_rfl) (vn30 B h) G
theorem li40_0 (B : Vb) (h : @okF B nF_0) : @LsI B Tryz.prog 27 nl40_0 := by
  letI : Vl := @Vl.mk B nF_0 h
  exact ls_eq tab_ok lp27 (fun S' hS => by cases hS) (by kernel_rfl) (by kernel_rfl) (ln40_0 B h)
theorem ui40 (B : Vb) (h : @okF B nF_0) (G : Gd) : @SmOk B G Tryz.prog 27 nu40 := by
  letI : Vl := @Vl.mk B nF_0 h
  exact sm_ok (tabU_ok (li40_0 B h)) (by kernel_rfl) (by kernel_rfl) (un40 B h) G
theorem wi40 (B : Vb) (h : @okF B nF_0) (G : Gd) : @SmOk B G Tryz.prog 28 nw40 := by
  letI : Vl := @Vl.mk B nF_0 h
  exact sm_ok tab_ok (by kernel_rfl) (by kernel_rfl) (wn40 B h) G
theorem vi40 (B : Vb) (h : @okF B nF_0) (G : Gd) : @SmOk B G Tryz.prog 9 nv40 := by
  letI : Vl := @Vl.mk B nF_0 h
  exact sm_ok (tabS_ok (ui40 B h) (wi40 B h)) (by kernel_rfl) (by kernel_rfl) (vn40 B h) G
theorem li50_0 (B : Vb) (h : @okF B nF_0) : @LsI B Tryz.prog 27 nl50_0 := by
  letI : Vl := @Vl.mk B nF_0 h
  exact ls_eq tab_ok lp27 (fun S' hS => by cases hS) (by kernel_rfl) (by kernel_rfl) (ln50_0 B h)
theorem ui50 (B : Vb) (h : @okF B nF_0) (G : Gd) : @SmOk B G Tryz.prog 27 nu50 := by
  letI : Vl := @Vl.mk B nF_0 h
  exact sm_ok (tabU_ok (li50_0 B h)) (by kernel_rfl) (by kernel_rfl) (un50 B h) G
theorem wi50 (B : Vb) (h : @okF B nF_0) (G : Gd) : @SmOk B G Tryz.prog 28 nw50 := by
  letI : Vl := @Vl.mk B nF_0 h
  exact sm_ok tab_ok (by kernel_rfl) (by kernel_rfl) (wn50 B h) G
theorem vi50 (B : Vb) (h : @okF B nF_0) (G : Gd) : @SmOk B G Tryz.prog 9 nv50 := by
  letI : Vl := @Vl.mk B nF_0 h
  exact sm_ok (tabS_ok (ui50 B h) (wi50 B h)) (by kernel_rfl) (by kernel_rfl) (vn50 B h) G
theorem okS (to q : Int) (h : 3 ≤ to) (h2 : to ≤ 4294967295) : @okF (ofB [to, q]) nF_s := by
  show decide (0 ≤ (to - 1)) = true ∧ decide (to ≤ 1) = false ∧ decide (0 < to) = true ∧ decide (1 ≤ (to - 1)) = true ∧ decide (1 < to) = true ∧ decide ((to - 1) < 0) = false ∧ decide ((to - 1) ≤ 1) = false ∧ decide (((to - 1) + 1) < (to - 1)) = false ∧ decide (((to - 1) + 1) ≤ (to - 1)) = false ∧ decide (to ≤ ((to - 1) + 1)) = true ∧ decide (((to - 1) + 1) < to) = false ∧ decide (((to - 1) + 1) < 1) = false ∧ decide (to ≤ 4294967295) = true ∧ True
  exact ⟨decide_eq_true (by omega), decide_eq_false (by omega), decide_eq_true (by omega), decide_eq_true (by omega), decide_eq_true (by omega), decide_eq_false (by omega), decide_eq_false (by omega), decide_eq_false (by omega), decide_eq_false (by omega), decide_eq_true (by omega), decide_eq_false (by omega), decide_eq_false (by omega), decide_eq_true (by omega), trivial⟩
theorem ng_1 (n to : Int) (hn : 0 ≤ n ∧ n ≤ 255) (ht : 0 ≤ to ∧ to ≤ 4294967295) (hk : n % 5 = 0) : Go.Va.Good Tryz.prog 4 [.int .u8 n, .int .u32 to] := by
  have dn : @den (ofB [to, n / 5]) env0 (nA 0) = some (.int .u8 n) := den_byB _ (show 5 * (n / 5) + 0 = n by omega) (by omega) hn.2
  have hc : to = 0 ∨ to = 1 ∨ to = 2 ∨ (3 ≤ to ∧ to ≤ 9) ∨ (10 ≤ to ∧ to ≤ 99) ∨ (100 ≤ to ∧ to ≤ 999) ∨ (1000 ≤ to ∧ to ≤ 9999) ∨ (10000 ≤ to ∧ to ≤ 99999) ∨ (100000 ≤ to ∧ to ≤ 999999) ∨ (1000000 ≤ to ∧ to ≤ 9999999) ∨ (10000000 ≤ to ∧ to ≤ 99999999) ∨ (100000000 ≤ to ∧ to ≤ 999999999) ∨ (1000000000 ≤ to ∧ to ≤ 4294967295) := by omega
  rcases hc with hc | hc | hc | hc | hc | hc | hc | hc | hc | hc | hc | hc | hc
  · subst hc
    letI : Vl := @Vl.mk (ofB [0, n / 5]) nF_0 trivial
    exact good_of (tabf_ok (vi10 _ trivial)) (run_mem (rn10_0 _ trivial) (.head _)) Tryz.call4 (denL_of dn (denL_of rfl rfl))
  · subst hc
    letI : Vl := @Vl.mk (ofB [1, n / 5]) nF_0 trivial
    exact good_of (tabf_ok (vi11 _ trivial)) (run_mem (rn11_1 _ trivial) (.head _)) Tryz.call4 (denL_of dn (denL_of rfl rfl))
  · subst hc
    letI : Vl := @Vl.mk (ofB [2, n / 5]) nF_0 trivial
    exact good_of (tabf_ok (vi12 _ trivial)) (run_mem (rn12_2 _ trivial) (.head _)) Tryz.call4 (denL_of dn (denL_of rfl rfl))
  · have h := okS to (n / 5) (by omega) (by omega)
    letI : Vl := @Vl.mk (ofB [to, n / 5]) nF_s h
    exact good_of (tabf_ok (vi1s _ h)) (run_mem (rn1s_0 _ h) (.head _)) Tryz.call4 (denL_of dn (denL_of (den_byB _ rfl hc.1 hc.2) rfl))
  · have h := okS to (n / 5) (by omega) (by omega)
    letI : Vl := @Vl.mk (ofB [to, n / 5]) nF_s h
    exact good_of (tabf_ok (vi1s _ h)) (run_mem (rn1s_1 _ h) (.head _)) Tryz.call4 (denL_of dn (denL_of (den_byB _ rfl hc.1 hc.2) rfl))
  · have h := okS to (n / 5) (by omega) (by omega)
    letI : Vl := @Vl.mk (ofB [to, n / 5]) nF_s h
    exact good_of (tabf_ok (vi1s _ h)) (run_mem (rn1s_2 _ h) (.head _)) Tryz.call4 (denL_of dn (denL_of (den_byB _ rfl hc.1 hc.2) rfl))
  · have h := okS to (n / 5) (by omega) (by omega)
    letI : Vl := @Vl.mk (ofB [to, n / 5]) nF_s h
    exact good_of (tabf_ok (vi1s _ h)) (run_mem (rn1s_3 _ h) (.head _)) Tryz.call4 (denL_of dn (denL_of (den_byB _ rfl hc.1 hc.2) rfl))
  · have h := okS to (n / 5) (by omega) (by omega)
    letI : Vl := @Vl.mk (ofB [to, n / 5]) nF_s h
    exact good_of (tabf_ok (vi1s _ h)) (run_mem (rn1s_4 _ h) (.head _)) Tryz.call4 (denL_of dn (denL_of (den_byB _ rfl hc.1 hc.2) rfl))
  · have h := okS to (n / 5) (by omega) (by omega)
    letI : Vl := @Vl.mk (ofB [to, n / 5]) nF_s h
    exact good_of (tabf_ok (vi1s _ h)) (run_mem (rn1s_5 _ h) (.head _)) Tryz.call4 (denL_of dn (denL_of (den_byB _ rfl hc.1 hc.2) rfl))
  · have h := okS to (n / 5) (by omega) (by omega)
    letI : Vl := @Vl.mk (ofB [to, n / 5]) nF_s h
    exact good_of (tabf_ok (vi1s _ h)) (run_mem (rn1s_6 _ h) (.head _)) Tryz.call4 (denL_of dn (denL_of (den_byB _ rfl hc.1 hc.2) rfl))
  · have h := okS to (n / 5) (by omega) (by omega)
    letI : Vl := @Vl.mk (ofB [to, n / 5]) nF_s h
    exact good_of (tabf_ok (vi1s _ h)) (run_mem (rn1s_7 _ h) (.head _)) Tryz.call4 (denL_of dn (denL_of (den_byB _ rfl hc.1 hc.2) rfl))
  · have h := okS to (n / 5) (by omega) (by omega)
    letI : Vl := @Vl.mk (ofB [to, n / 5]) nF_s h
    exact good_of (tabf_ok (vi1s _ h)) (run_mem (rn1s_8 _ h) (.head _)) Tryz.call4 (denL_of dn (denL_of (den_byB _ rfl hc.1 hc.2) rfl))
  · have h := okS to (n / 5) (by omega) (by omega)
    letI : Vl := @Vl.mk (ofB [to, n / 5]) nF_s h
    exact good_of (tabf_ok (vi1s _ h)) (run_mem (rn1s_9 _ h) (.head _)) Tryz.call4 (denL_of dn (denL_of (den_byB _ rfl hc.1 hc.2) rfl))
theorem ng_2 (n to : Int) (hn : 0 ≤ n ∧ n ≤ 255) (ht : 0 ≤ to ∧ to ≤ 4294967295) (hk : n % 5 = 1) : Go.Va.Good Tryz.prog 4 [.int .u8 n, .int .u32 to] := by
  have dn : @den (ofB [to, n / 5]) env0 (nA 1) = some (.int .u8 n) := den_byB _ (show 5 * (n / 5) + 1 = n by omega) (by omega) hn.2
  have hc : to = 0 ∨ to = 1 ∨ to = 2 ∨ (3 ≤ to ∧ to ≤ 9) ∨ (10 ≤ to ∧ to ≤ 99) ∨ (100 ≤ to ∧ to ≤ 999) ∨ (1000 ≤ to ∧ to ≤ 9999) ∨ (10000 ≤ to ∧ to ≤ 99999) ∨ (100000 ≤ to ∧ to ≤ 999999) ∨ (1000000 ≤ to ∧ to ≤ 9999999) ∨ (10000000 ≤ to ∧ to ≤ 99999999) ∨ (100000000 ≤ to ∧ to ≤ 999999999) ∨ (1000000000 ≤ to ∧ to ≤ 4294967295) := by omega
  rcases hc with hc | hc | hc | hc | hc | hc | hc | hc | hc | hc | hc | hc | hc
  · subst hc
    letI : Vl := @Vl.mk (ofB [0, n / 5]) nF_0 trivial
    exact good_of (tabf_ok (vi20 _ trivial)) (run_mem (rn20_0 _ trivial) (.head _)) Tryz.call4 (denL_of dn (denL_of rfl rfl))
  · subst hc
    letI : Vl := @Vl.mk (ofB [1, n / 5]) nF_0 trivial
    exact good_of (tabf_ok (vi21 _ trivial)) (run_mem (rn21_1 _ trivial) (.head _)) Tryz.call4 (denL_of dn (denL_of rfl rfl))
  · subst hc
    letI : Vl := @Vl.mk (ofB [2, n / 5]) nF_0 trivial
    exact good_of (tabf_ok (vi22 _ trivial)) (run_mem (rn22_2 _ trivial) (.head _)) Tryz.call4 (denL_of dn (denL_of rfl rfl))
  · have h := okS to (n / 5) (by omega) (by omega)
    letI : Vl := @Vl.mk (ofB [to, n / 5]) nF_s h
    exact good_of (tabf_ok (vi2s _ h)) (run_mem (rn2s_0 _ h) (.head _)) Tryz.call4 (denL_of dn (denL_of (den_byB _ rfl hc.1 hc.2) rfl))
  · have h := okS to (n / 5) (by omega) (by omega)
    letI : Vl := @Vl.mk (ofB [to, n / 5]) nF_s h
    exact good_of (tabf_ok (vi2s _ h)) (run_mem (rn2s_1 _ h) (.head _)) Tryz.call4 (denL_of dn (denL_of (den_byB _ rfl hc.1 hc.2) rfl))
  · have h := okS to (n / 5) (by omega) (by omega)
    letI : Vl := @Vl.mk (ofB [to, n / 5]) nF_s h
    exact good_of (tabf_ok (vi2s _ h)) (run_mem (rn2s_2 _ h) (.head _)) Tryz.call4 (denL_of dn (denL_of (den_byB _ rfl hc.1 hc.2) rfl))
  · have h := okS to (n / 5) (by omega) (by omega)
    letI : Vl := @Vl.mk (ofB [to, n / 5]) nF_s h
    exact good_of (tabf_ok (vi2s _ h)) (run_mem (rn2s_3 _ h) (.head _)) Tryz.call4 (denL_of dn (denL_of (den_byB _ rfl hc.1 hc.2) rfl))
  · have h := okS to (n / 5) (by omega) (by omega)
    letI : Vl := @Vl.mk (ofB [to, n / 5]) nF_s h
    exact good_of (tabf_ok (vi2s _ h)) (run_mem (rn2s_4 _ h) (.head _)) Tryz.call4 (denL_of dn (denL_of (den_byB _ rfl hc.1 hc.2) rfl))
  · have h := okS to (n / 5) (by omega) (by omega)
    letI : Vl := @Vl.mk (ofB [to, n / 5]) nF_s h
    exact good_of (tabf_ok (vi2s _ h)) (run_mem (rn2s_5 _ h) (.head _)) Tryz.call4 (denL_of dn (denL_of (den_byB _ rfl hc.1 hc.2) rfl))
  · have h := okS to (n / 5) (by omega) (by omega)
    letI : Vl := @Vl.mk (ofB [to, n / 5]) nF_s h
    exact good_of (tabf_ok (vi2s _ h)) (run_mem (rn2s_6 _ h) (.head _)) Tryz.call4 (denL_of dn (denL_of (den_byB _ rfl hc.1 hc.2) rfl))
  · have h := okS to (n / 5) (by omega) (by omega)
    letI : Vl := @Vl.mk (ofB [to, n / 5]) nF_s h
    exact good_of (tabf_ok (vi2s _ h)) (run_mem (rn2s_7 _ h) (.head _)) Tryz.call4 (denL_of dn (denL_of (den_byB _ rfl hc.1 hc.2) rfl))
  · have h := okS to (n / 5) (by omega) (by omega)
    letI : Vl := @Vl.mk (ofB [to, n / 5]) nF_s h
    exact good_of (tabf_ok (vi2s _ h)) (run_mem (rn2s_8 _ h) (.head _)) Tryz.call4 (denL_of dn (denL_of (den_byB _ rfl hc.1 hc.2) rfl))
  · have h := okS to (n / 5) (by omega) (by omega)
    letI : Vl := @Vl.mk (ofB [to, n / 5]) nF_s h
    exact good_of (tabf_ok (vi2s _ h)) (run_mem (rn2s_9 _ h) (.head _)) Tryz.call4 (denL_of dn (denL_of (den_byB _ rfl hc.1 hc.2) rfl))
theorem ng_3 (n to : Int) (hn : 0 ≤ n ∧ n ≤ 255) (ht : 0 ≤ to ∧ to ≤ 4294967295) (hk : n % 5 = 2) : Go.Va.Good Tryz.prog 4 [.int .u8 n, .int .u32 to] := by
  have dn : @den (ofB [to, n / 5]) env0 (nA 2) = some (.int .u8 n) := den_byB _ (show 5 * (n / 5) + 2 = n by omega) (by omega) hn.2
  have hc : to = 0 ∨ to = 1 ∨ to = 2 ∨ (3 ≤ to ∧ to ≤ 9) ∨ (10 ≤ to ∧ to ≤ 99) ∨ (100 ≤ to ∧ to ≤ 999) ∨ (1000 ≤ to ∧ to ≤ 9999) ∨ (10000 ≤ to ∧ to ≤ 99999) ∨ (100000 ≤ to ∧ to ≤ 999999) ∨ (1000000 ≤ to ∧ to ≤ 9999999) ∨ (10000000 ≤ to ∧ to ≤ 99999999) ∨ (100000000 ≤ to ∧ to ≤ 999999999) ∨ (1000000000 ≤ to ∧ to ≤ 4294967295) := by omega
  rcases hc with hc | hc | hc | hc | hc | hc | hc | hc | hc | hc | hc | hc | hc
  · subst hc
    letI : Vl := @Vl.mk (ofB [0, n / 5]) nF_0 trivial
    exact good_of (tabf_ok (vi30 _ trivial)) (run_mem (rn30_0 _ trivial) (.head _)) Tryz.call4 (denL_of dn (denL_of rfl rfl))
  · subst hc
    letI : Vl := @Vl.mk (ofB [1, n / 5]) nF_0 trivial
    exact good_of (tabf_ok (vi31 _ trivial)) (run_mem (rn31_1 _ trivial) (.head _)) Tryz.call4 (denL_of dn (denL_of rfl rfl))
  · subst hc
    letI : Vl := @Vl.mk (ofB [2, n / 5]) nF_0 trivial
    exact good_of (tabf_ok (vi32 _ trivial)) (run_mem (rn32_2 _ trivial) (.head _)) Tryz.call4 (denL_of dn (denL_of rfl rfl))
  · have h := okS to (n / 5) (by omega) (by omega)
    letI : Vl := @Vl.mk (ofB [to, n / 5]) nF_s h
    exact good_of (tabf_ok (vi3s _ h)) (run_mem (rn3s_0 _ h) (.head _)) Tryz.call4 (denL_of dn (denL_of (den_byB _ rfl hc.1 hc.2) rfl))
  · have h := okS to (n / 5) (by omega) (by omega)
    letI : Vl := @Vl.mk (ofB [to, n / 5]) nF_s h
    exact good_of (tabf_ok (vi3s _ h)) (run_mem (rn3s_1 _ h) (.head _)) Tryz.call4 (denL_of dn (denL_of (den_byB _ rfl hc.1 hc.2) rfl))
  · have h := okS to (n / 5) (by omega) (by omega)
    letI : Vl := @Vl.mk (ofB [to, n / 5]) nF_s h
    exact good_of (tabf_ok (vi3s _ h)) (run_mem (rn3s_2 _ h) (.head _)) Tryz.call4 (denL_of dn (denL_of (den_byB _ rfl hc.1 hc.2) rfl))
  · have h := okS to (n / 5) (by omega) (by omega)
    letI : Vl := @Vl.mk (ofB [to, n / 5]) nF_s h
    exact good_of (tabf_ok (vi3s _ h)) (run_mem (rn3s_3 _ h) (.head _)) Tryz.call4 (denL_of dn (denL_of (den_byB _ rfl hc.1 hc.2) rfl))
  · have h := okS to (n / 5) (by omega) (by omega)
    letI : Vl := @Vl.mk (ofB [to, n / 5]) nF_s h
    exact good_of (tabf_ok (vi3s _ h)) (run_mem (rn3s_4 _ h) (.head _)) Tryz.call4 (denL_of dn (denL_of (den_byB _ rfl hc.1 hc.2) rfl))
  · have h := okS to (n / 5) (by omega) (by omega)
    letI : Vl := @Vl.mk (ofB [to, n / 5]) nF_s h
    exact good_of (tabf_ok (vi3s _ h)) (run_mem (rn3s_5 _ h) (.head _)) Tryz.call4 (denL_of dn (denL_of (den_byB _ rfl hc.1 hc.2) rfl))
  · have h := okS to (n / 5) (by omega) (by omega)
    letI : Vl := @Vl.mk (ofB [to, n / 5]) nF_s h
    exact good_of (tabf_ok (vi3s _ h)) (run_mem (rn3s_6 _ h) (.head _)) Tryz.call4 (denL_of dn (denL_of (den_byB _ rfl hc.1 hc.2) rfl))
  · have h := okS to (n / 5) (by omega) (by omega)
    letI : Vl := @Vl.mk (ofB [to, n / 5]) nF_s h
    exact good_of (tabf_ok (vi3s _ h)) (run_mem (rn3s_7 _ h) (.head _)) Tryz.call4 (denL_of dn (denL_of (den_byB _ rfl hc.1 hc.2) rfl))
  · have h := okS to (n / 5) (by omega) (by omega)
    letI : Vl := @Vl.mk (ofB [to, n / 5]) nF_s h
    exact good_of (tabf_ok (vi3s _ h)) (run_mem (rn3s_8 _ h) (.head _)) Tryz.call4 (denL_of dn (denL_of (den_byB _ rfl hc.1 hc.2) rfl))
  · have h := okS to (n / 5) (by omega) (by omega)
    letI : Vl := @Vl.mk (ofB [to, n / 5]) nF_s h
    exact good_of (tabf_ok (vi3s _ h)) (run_mem (rn3s_9 _ h) (.head _)) Tryz.call4 (denL_of dn (denL_of (den_byB _ rfl hc.1 hc.2) rfl))
theorem ng_4 (n to : Int) (hn : 0 ≤ n ∧ n ≤ 255) (ht : 0 ≤ to ∧ to ≤ 4294967295) (hk : n % 5 = 3) : Go.Va.Good Tryz.prog 4 [.int .u8 n, .int .u32 to] := by
  have dn : @den (ofB [to, n / 5]) env0 (nA 3) = some (.int .u8 n) := den_byB _ (show 5 * (n / 5) + 3 = n by omega) (by omega) hn.2
  have hc : to = 0 ∨ to = 1 ∨ to = 2 ∨ (3 ≤ to ∧ to ≤ 9) ∨ (10 ≤ to ∧ to ≤ 99) ∨ (100 ≤ to ∧ to ≤ 999) ∨ (1000 ≤ to ∧ to ≤ 9999) ∨ (10000 ≤ to ∧ to ≤ 99999) ∨ (100000 ≤ to ∧ to ≤ 999999) ∨ (1000000 ≤ to ∧ to ≤ 9999999) ∨ (10000000 ≤ to ∧ to ≤ 99999999) ∨ (100000000 ≤ to ∧ to ≤ 999999999) ∨ (1000000000 ≤ to ∧ to ≤ 4294967295) := by omega
  rcases hc with hc | hc | hc | hc | hc | hc | hc | hc | hc | hc | hc | hc | hc
  · subst hc
    letI : Vl := @Vl.mk (ofB [0, n / 5]) nF_0 trivial
    exact good_of (tabf_ok (vi40 _ trivial)) (run_mem (rn40_0 _ trivial) (.head _)) Tryz.call4 (denL_of dn (denL_of rfl rfl))
  · subst hc
    letI : Vl := @Vl.mk (ofB [1, n / 5]) nF_0 trivial
    exact good_of (tabf_ok (vi41 _ trivial)) (run_mem (rn41_1 _ trivial) (.head _)) Tryz.call4 (denL_of dn (denL_of rfl rfl))
  · subst hc
    letI : Vl := @Vl.mk (ofB [2, n / 5]) nF_0 trivial
    exact good_of (tabf_ok (vi42 _ trivial)) (run_mem (rn42_2 _ trivial) (.head _)) Tryz.call4 (denL_of dn (denL_of rfl rfl))
  · have h := okS to (n / 5) (by omega) (by omega)
    letI : Vl := @Vl.mk (ofB [to, n / 5]) nF_s h
    exact good_of (tabf_ok (vi4s _ h)) (run_mem (rn4s_0 _ h) (.head _)) Tryz.call4 (denL_of dn (denL_of (den_byB _ rfl hc.1 hc.2) rfl))
  · have h := okS to (n / 5) (by omega) (by omega)
    letI : Vl := @Vl.mk (ofB [to, n / 5]) nF_s h
    exact good_of (tabf_ok (vi4s _ h)) (run_mem (rn4s_1 _ h) (.head _)) Tryz.call4 (denL_of dn (denL_of (den_byB _ rfl hc.1 hc.2) rfl))
  · have h := okS to (n / 5) (by omega) (by omega)
    letI : Vl := @Vl.mk (ofB [to, n / 5]) nF_s h
    exact good_of (tabf_ok (vi4s _ h)) (run_mem (rn4s_2 _ h) (.head _)) Tryz.call4 (denL_of dn (denL_of (den_byB _ rfl hc.1 hc.2) rfl))
  · have h := okS to (n / 5) (by omega) (by omega)
    letI : Vl := @Vl.mk (ofB [to, n / 5]) nF_s h
    exact good_of (tabf_ok (vi4s _ h)) (run_mem (rn4s_3 _ h) (.head _)) Tryz.call4 (denL_of dn (denL_of (den_byB _ rfl hc.1 hc.2) rfl))
  · have h := okS to (n / 5) (by omega) (by omega)
    letI : Vl := @Vl.mk (ofB [to, n / 5]) nF_s h
    exact good_of (tabf_ok (vi4s _ h)) (run_mem (rn4s_4 _ h) (.head _)) Tryz.call4 (denL_of dn (denL_of (den_byB _ rfl hc.1 hc.2) rfl))
  · have h := okS to (n / 5) (by omega) (by omega)
    letI : Vl := @Vl.mk (ofB [to, n / 5]) nF_s h
    exact good_of (tabf_ok (vi4s _ h)) (run_mem (rn4s_5 _ h) (.head _)) Tryz.call4 (denL_of dn (denL_of (den_byB _ rfl hc.1 hc.2) rfl))
  · have h := okS to (n / 5) (by omega) (by omega)
    letI : Vl := @Vl.mk (ofB [to, n / 5]) nF_s h
    exact good_of (tabf_ok (vi4s _ h)) (run_mem (rn4s_6 _ h) (.head _)) Tryz.call4 (denL_of dn (denL_of (den_byB _ rfl hc.1 hc.2) rfl))
  · have h := okS to (n / 5) (by omega) (by omega)
    letI : Vl := @Vl.mk (ofB [to, n / 5]) nF_s h
    exact good_of (tabf_ok (vi4s _ h)) (run_mem (rn4s_7 _ h) (.head _)) Tryz.call4 (denL_of dn (denL_of (den_byB _ rfl hc.1 hc.2) rfl))
  · have h := okS to (n / 5) (by omega) (by omega)
    letI : Vl := @Vl.mk (ofB [to, n / 5]) nF_s h
    exact good_of (tabf_ok (vi4s _ h)) (run_mem (rn4s_8 _ h) (.head _)) Tryz.call4 (denL_of dn (denL_of (den_byB _ rfl hc.1 hc.2) rfl))
  · have h := okS to (n / 5) (by omega) (by omega)
    letI : Vl := @Vl.mk (ofB [to, n / 5]) nF_s h
    exact good_of (tabf_ok (vi4s _ h)) (run_mem (rn4s_9 _ h) (.head _)) Tryz.call4 (denL_of dn (denL_of (den_byB _ rfl hc.1 hc.2) rfl))
theorem ng_5 (n to : Int) (hn : 0 ≤ n ∧ n ≤ 255) (ht : 0 ≤ to ∧ to ≤ 4294967295) (hk : n % 5 = 4) : Go.Va.Good Tryz.prog 4 [.int .u8 n, .int .u32 to] := by
  have dn : @den (ofB [to, n / 5]) env0 (nA 4) = some (.int .u8 n) := den_byB _ (show 5 * (n / 5) + 4 = n by omega) (by omega) hn.2
  have hc : to = 0 ∨ to = 1 ∨ to = 2 ∨ (3 ≤ to ∧ to ≤ 9) ∨ (10 ≤ to ∧ to ≤ 99) ∨ (100 ≤ to ∧ to ≤ 999) ∨ (1000 ≤ to ∧ to ≤ 9999) ∨ (10000 ≤ to ∧ to ≤ 99999) ∨ (100000 ≤ to ∧ to ≤ 999999) ∨ (1000000 ≤ to ∧ to ≤ 9999999) ∨ (10000000 ≤ to ∧ to ≤ 99999999) ∨ (100000000 ≤ to ∧ to ≤ 999999999) ∨ (1000000000 ≤ to ∧ to ≤ 4294967295) := by omega
  rcases hc with hc | hc | hc | hc | hc | hc | hc | hc | hc | hc | hc | hc | hc
  · subst hc
    letI : Vl := @Vl.mk (ofB [0, n / 5]) nF_0 trivial
    exact good_of (tabf_ok (vi50 _ trivial)) (run_mem (rn50_0 _ trivial) (.head _)) Tryz.call4 (denL_of dn (denL_of rfl rfl))
  · subst hc
    letI : Vl := @Vl.mk (ofB [1, n / 5]) nF_0 trivial
    exact good_of (tabf_ok (vi51 _ trivial)) (run_mem (rn51_1 _ trivial) (.head _)) Tryz.call4 (denL_of dn (denL_of rfl rfl))
  · subst hc
    letI : Vl := @Vl.mk (ofB [2, n / 5]) nF_0 trivial
    exact good_of (tabf_ok (vi52 _ trivial)) (run_mem (rn52_2 _ trivial) (.head _)) Tryz.call4 (denL_of dn (denL_of rfl rfl))
  · have h := okS to (n / 5) (by omega) (by omega)
    letI : Vl := @Vl.mk (ofB [to, n / 5]) nF_s h
    exact good_of (tabf_ok (vi5s _ h)) (run_mem (rn5s_0 _ h) (.head _)) Tryz.call4 (denL_of dn (denL_of (den_byB _ rfl hc.1 hc.2) rfl))
  · have h := okS to (n / 5) (by omega) (by omega)
    letI : Vl := @Vl.mk (ofB [to, n / 5]) nF_s h
    exact good_of (tabf_ok (vi5s _ h)) (run_mem (rn5s_1 _ h) (.head _)) Tryz.call4 (denL_of dn (denL_of (den_byB _ rfl hc.1 hc.2) rfl))
  · have h := okS to (n / 5) (by omega) (by omega)
    letI : Vl := @Vl.mk (ofB [to, n / 5]) nF_s h
    exact good_of (tabf_ok (vi5s _ h)) (run_mem (rn5s_2 _ h) (.head _)) Tryz.call4 (denL_of dn (denL_of (den_byB _ rfl hc.1 hc.2) rfl))
  · have h := okS to (n / 5) (by omega) (by omega)
    letI : Vl := @Vl.mk (ofB [to, n / 5]) nF_s h
    exact good_of (tabf_ok (vi5s _ h)) (run_mem (rn5s_3 _ h) (.head _)) Tryz.call4 (denL_of dn (denL_of (den_byB _ rfl hc.1 hc.2) rfl))
  · have h := okS to (n / 5) (by omega) (by omega)
    letI : Vl := @Vl.mk (ofB [to, n / 5]) nF_s h
    exact good_of (tabf_ok (vi5s _ h)) (run_mem (rn5s_4 _ h) (.head _)) Tryz.call4 (denL_of dn (denL_of (den_byB _ rfl hc.1 hc.2) rfl))
  · have h := okS to (n / 5) (by omega) (by omega)
    letI : Vl := @Vl.mk (ofB [to, n / 5]) nF_s h
    exact good_of (tabf_ok (vi5s _ h)) (run_mem (rn5s_5 _ h) (.head _)) Tryz.call4 (denL_of dn (denL_of (den_byB _ rfl hc.1 hc.2) rfl))
  · have h := okS to (n / 5) (by omega) (by omega)
    letI : Vl := @Vl.mk (ofB [to, n / 5]) nF_s h
    exact good_of (tabf_ok (vi5s _ h)) (run_mem (rn5s_6 _ h) (.head _)) Tryz.call4 (denL_of dn (denL_of (den_byB _ rfl hc.1 hc.2) rfl))
  · have h := okS to (n / 5) (by omega) (by omega)
    letI : Vl := @Vl.mk (ofB [to, n / 5]) nF_s h
    exact good_of (tabf_ok (vi5s _ h)) (run_mem (rn5s_7 _ h) (.head _)) Tryz.call4 (denL_of dn (denL_of (den_byB _ rfl hc.1 hc.2) rfl))
  · have h := okS to (n / 5) (by omega) (by omega)
    letI : Vl := @Vl.mk (ofB [to, n / 5]) nF_s h
    exact good_of (tabf_ok (vi5s _ h)) (run_mem (rn5s_8 _ h) (.head _)) Tryz.call4 (denL_of dn (denL_of (den_byB _ rfl hc.1 hc.2) rfl))
  · have h := okS to (n / 5) (by omega) (by omega)
    letI : Vl := @Vl.mk (ofB [to, n / 5]) nF_s h
    exact good_of (tabf_ok (vi5s _ h)) (run_mem (rn5s_9 _ h) (.head _)) Tryz.call4 (denL_of dn (denL_of (den_byB _ rfl hc.1 hc.2) rfl))
theorem nn_good (n to : Int) (hn : 0 ≤ n ∧ n ≤ 255) (ht : 0 ≤ to ∧ to ≤ 4294967295) : Go.Va.Good Tryz.prog 4 [.int .u8 n, .int .u32 to] := by
  have h : n % 5 = 0 ∨ n % 5 = 1 ∨ n % 5 = 2 ∨ n % 5 = 3 ∨ n % 5 = 4 := by omega
  rcases h with h | h | h | h | h
  · exact ng_1 n to hn ht h
  · exact ng_2 n to hn ht h
  · exact ng_3 n to hn ht h
  · exact ng_4 n to hn ht h
  · exact ng_5 n to hn ht h
end Go.Proofs.YtaaedipojhnjjaaGreat
namespace Go.Proofs.YtaaedipojhnjjaaGreat.fixNested
open Go Go.Sh Go.Va Go.ChangeShapes Go.WideShapes Go.ChangeAt Go.RowKit

set_option maxRecDepth 100000 in
theorem lifted (os : Os) (started : os.Started) (H : Type) (enc : TypeId × Value → H) :
    ReturnsInHanded {} Tryz.checked os 4 .any (Rows.fixNestedSpec.pre6 enc Tryz.prog Tryz.f4 Rows.fixNestedRow.domain false) (Rows.fixNestedSpec.post enc Tryz.prog Tryz.f4 false true false false) := by
  refine returnsInHanded_of_change (C := Tryz.checked) Fw.own started (by kernel_rfl) Tryz.func4
    (ChangeSpec.witness6 (enc := enc) (C := Tryz.checked) false ⟨#[], #[.int .u8 0, .int .u32 0], []⟩ 8 (by kernel_rfl) (by kernel_rfl) (by kernel_rfl) (by kernel_rfl)) ?_
  intro W base args ds gs before hval0 hW hcnd _
  have hval : ∀ (j : Nat) t v, Tryz.f4.params[j]? = some t → args[j]? = some v → Value.okWide Tryz.prog W .any base t v := hval0
  have hW' := hW
  obtain ⟨p, q, hA0, hV, rfl, hfz, hnd⟩ := hW
  have hA : DataW.TrodAll enc Tryz.prog W 0 (fun _ => true) true Tryz.f4.params.toList args.toList ds p := hA0
  rw [Tryz.params4] at hA hval
  obtain ⟨v0, vs0, d0, ds0, p0, q0, hargs, rfl, rfl, hd0, r0⟩ := trodAll_cons hA
  obtain ⟨v1, vs1, d1, ds1, p1, q1, rfl, rfl, rfl, hd1, r1⟩ := trodAll_cons r0
  obtain ⟨rfl, rfl, rfl⟩ := trodAll_nil r1
  obtain rfl : args = #[v0, v1] := by cases args; simp_all
  obtain ⟨rfl, rfl⟩ := trodVars_none hV
  obtain ⟨x0, rfl, w0⟩ := Fw.int_in hd0 Tryz.underlying5 (okWide_int Tryz.underlying5 (hval 0 5 v0 rfl rfl))
  have h0 := bounds_u8 w0
  obtain ⟨x1, rfl, w1⟩ := Fw.int_in hd1 Tryz.underlying64 (okWide_int Tryz.underlying64 (hval 1 64 v1 rfl rfl))
  have h1 := bounds_u32 w1
  have hrun := nn_good x0 x1 h0 h1
  refine (hrun W).mono ?_
  rintro e W' ⟨rfl, hs, hx⟩
  refine ⟨_, rfl, law_post Fw.laidOut Fw.rowed Fw.full ?_ rfl rfl rfl rfl rfl Tryz.underlying4 hW' hs hx⟩
  rw [Tryz.params4]
  decide

theorem k1 : Tryz.pinned.checked.prog.funcNamed Rows.fixNestedRow.func = some 4 := by kernel_rfl
theorem k2 : joinedFacts Tryz.pinned.checked.prog 4 Tryz.f4 Rows.fixNestedSpec Rows.fixNestedRow = true := by kernel_rfl

theorem over : Rows.fixNestedRow.holds Tryz.pinned (OpenSpec.ofChange Rows.fixNestedSpec) :=
  OpenClaim.holds_of_wide 4 Tryz.f4 rfl rfl rfl rfl rfl rfl rfl ⟨rfl, rfl, rfl, rfl, rfl⟩ rfl rfl rfl rfl rfl k1 Tryz.func4 k2
    (of_decide_eq_true (by kernel_rfl)) (by unfold Func.isWrapper; first | (rw [if_pos (by decide +kernel)]; kernel_rfl) | (rw [if_neg (by decide +kernel)]; exact ⟨rfl, rfl⟩))
    (fun os started H enc _ => lifted os started H enc)

/-- The statement. -/
theorem proved : Rows.FixNestedSaid :=
  over
#print axioms proved
end Go.Proofs.YtaaedipojhnjjaaGreat.fixNested
