/- FixLoops: for every input it returns true, and its arguments read behind the call as they did before; under no condition. -/
import Derived.Test.YtaaedipojhnjjaaGreatFb1
import Derived.Test.YtaaedipojhnjjaaGreatFd0
import Derived.Test.YtaaedipojhnjjaaGreatFd1
import Derived.Test.YtaaedipojhnjjaaGreatFd2
import Derived.Test.YtaaedipojhnjjaaGreatFd3
import Derived.KernelRfl
set_option linter.unusedVariables false
set_option linter.unusedSectionVars false
set_option maxRecDepth 100000
namespace Go.Proofs.YtaaedipojhnjjaaGreat
open Go Go.Sh Go.Va
theorem fn_ppA (B : Vb) (h : @okF B flF_ppA) : letI : Vl := @Vl.mk B flF_ppA h; smRun tab 13 1000 1000 9 .nil flS_ppA = (flS_ppA.x1 = flS_ppA.x1 ∧ reflT flS_ppA.t1) := by kernel_rfl
theorem sn_ppA (B : Vb) (h : @okF B flF_ppA) (G : Gd) : @SmOk B G Tryz.prog 9 flS_ppA := by
  letI : Vl := @Vl.mk B flF_ppA h
  exact sm_ok tab_ok (by kernel_rfl) (by kernel_rfl) (fn_ppA B h) G
theorem fn_ppC (B : Vb) (h : @okF B flF_ppC) : letI : Vl := @Vl.mk B flF_ppC h; smRun tab 13 1000 1000 9 .nil flS_ppC = (flS_ppC.x1 = flS_ppC.x1 ∧ reflT flS_ppC.t1) := by kernel_rfl
theorem sn_ppC (B : Vb) (h : @okF B flF_ppC) (G : Gd) : @SmOk B G Tryz.prog 9 flS_ppC := by
  letI : Vl := @Vl.mk B flF_ppC h
  exact sm_ok tab_ok (by kernel_rfl) (by kernel_rfl) (fn_ppC B h) G
theorem fn_ppE (B : Vb) (h : @okF B flF_ppE) : letI : Vl := @Vl.mk B flF_ppE h; smRun tab 13 1000 1000 9 .nil flS_ppE = (flS_ppE.x1 = flS_ppE.x1 ∧ reflT flS_ppE.t1) := by kernel_rfl
theorem sn_ppE (B : Vb) (h : @okF B flF_ppE) (G : Gd) : @SmOk B G Tryz.prog 9 flS_ppE := by
  letI : Vl := @Vl.mk B flF_ppE h
  exact sm_ok tab_ok (by kernel_rfl) (by kernel_rfl) (fn_ppE B h) G
theorem fn_npC (B : Vb) (h : @okF B flF_npC) : letI : Vl := @Vl.mk B flF_npC h; smRun tab 13 1000 1000 9 .nil flS_npC = (flS_npC.x1 = flS_npC.x1 ∧ reflT flS_npC.t1) := by kernel_rfl
theorem sn_npC (B : Vb) (h : @okF B flF_npC) (G : Gd) : @SmOk B G Tryz.prog 9 flS_npC := by
  letI : Vl := @Vl.mk B flF_npC h
  exact sm_ok tab_ok (by kernel_rfl) (by kernel_rfl) (fn_npC B h) G
theorem fn_npE (B : Vb) (h : @okF B flF_npE) : letI : Vl := @Vl.mk B flF_npE h; smRun tab 13 1000 1000 9 .nil flS_npE = (flS_npE.x1 = flS_npE.x1 ∧ reflT flS_npE.t1) := by kernel_rfl
theorem sn_npE (B : Vb) (h : @okF B flF_npE) (G : Gd) : @SmOk B G Tryz.prog 9 flS_npE := by
  letI : Vl := @Vl.mk B flF_npE h
  exact sm_ok tab_ok (by kernel_rfl) (by kernel_rfl) (fn_npE B h) G
theorem fn_nnB (B : Vb) (h : @okF B flF_nnB) : letI : Vl := @Vl.mk B flF_nnB h; smRun tab 13 1000 1000 9 .nil flS_nnB = (flS_nnB.x1 = flS_nnB.x1 ∧ reflT flS_nnB.t1) := by kernel_rfl
theorem sn_nnB (B : Vb) (h : @okF B flF_nnB) (G : Gd) : @SmOk B G Tryz.prog 9 flS_nnB := by
  letI : Vl := @Vl.mk B flF_nnB h
  exact sm_ok tab_ok (by kernel_rfl) (by kernel_rfl) (fn_nnB B h) G
theorem fn_nnD (B : Vb) (h : @okF B flF_nnD) : letI : Vl := @Vl.mk B flF_nnD h; smRun tab 13 1000 1000 9 .nil flS_nnD = (flS_nnD.x1 = flS_nnD.x1 ∧ reflT flS_nnD.t1) := by kernel_rfl
theorem sn_nnD (B : Vb) (h : @okF B flF_nnD) (G : Gd) : @SmOk B G Tryz.prog 9 flS_nnD := by
  letI : Vl := @Vl.mk B flF_nnD h
  exact sm_ok tab_ok (by kernel_rfl) (by kernel_rfl) (fn_nnD B h) G
theorem den_byB (B : Vb) {E : Env} {k : IntKind} {e : SE} {lo hi n : Int} (h : @SE.ev B e = n) (h1 : lo ≤ n) (h2 : n ≤ hi) : @den B E (.sy k e lo hi) = some (.int k n) := by
  simp only [den]; rw [h]; exact if_pos ⟨h1, h2⟩
theorem den_intB (B : Vb) {E : Env} {k : IntKind} {c n : Int} (h : c = n) : @den B E (.int k c) = some (.int k n) := by rw [h]; rfl
section
variable [Vl] {S : Sm} {L : LS} {g : Bool}
theorem allR_td (n : Nat) {l : List (FV × FV × List SC)} (h1 : allR S L g (l.take n) = allT (l.take n)) (h2 : allR S L g (l.drop n)) : allR S L g l := by
  have key : ∀ (a b : List (FV × FV × List SC)), allR S L g a → allR S L g b → allR S L g (a ++ b) := fun a => by
    induction a with
    | nil => intro b _ h; exact h
    | cons p r ih => intro b h h'; exact ⟨h.1, ih b h.2 h'⟩
  have h1' : allR S L g (l.take n) := by rw [h1]; exact allT_ok _
  have := key _ _ h1' h2
  rwa [List.take_append_drop] at this
end
theorem la_ppAl (B : Vb) (h : @okF B flG_A) : letI : Vl := @Vl.mk B flG_A h; allR (flS_ppA.inp flR) (flV_pp.inp flRL) false flX_ppA := by
  letI : Vl := @Vl.mk B flG_A h
  exact allR_td 5 (lr_ppAl_0 B h) (trivial)
theorem la_ppBl (B : Vb) (h : @okF B flG_l) : letI : Vl := @Vl.mk B flG_l h; allR (flS_ppB.inp flR) (flV_pp.inp flRL) false flA_pp := by
  letI : Vl := @Vl.mk B flG_l h
  exact allR_td 5 (lr_ppBl_0 B h) (allR_td 5 (lr_ppBl_1 B h) (allR_td 5 (lr_ppBl_2 B h) (trivial)))
theorem la_ppBg (B : Vb) (h : @okF B flG_g) : letI : Vl := @Vl.mk B flG_g h; allR (flS_ppB.inp flR) (flV_pp.inp flRL) true flA_pp := by
  letI : Vl := @Vl.mk B flG_g h
  exact allR_td 5 (lr_ppBg_0 B h) (allR_td 5 (lr_ppBg_1 B h) (allR_td 5 (lr_ppBg_2 B h) (trivial)))
theorem la_ppCl (B : Vb) (h : @okF B flG_l) : letI : Vl := @Vl.mk B flG_l h; allR (flS_ppC.inp flR) (flV_pp.inp flRL) false flA_pp := by
  letI : Vl := @Vl.mk B flG_l h
  exact allR_td 5 (lr_ppCl_0 B h) (allR_td 5 (lr_ppCl_1 B h) (allR_td 5 (lr_ppCl_2 B h) (trivial)))
theorem la_ppCg (B : Vb) (h : @okF B flG_g) : letI : Vl := @Vl.mk B flG_g h; allR (flS_ppC.inp flR) (flV_pp.inp flRL) true flA_pp := by
  letI : Vl := @Vl.mk B flG_g h
  exact allR_td 5 (lr_ppCg_0 B h) (allR_td 5 (lr_ppCg_1 B h) (allR_td 5 (lr_ppCg_2 B h) (trivial)))
theorem la_ppDl (B : Vb) (h : @okF B flG_l) : letI : Vl := @Vl.mk B flG_l h; allR (flS_ppD.inp flR) (flV_pp.inp flRL) false flA_pp := by
  letI : Vl := @Vl.mk B flG_l h
  exact allR_td 5 (lr_ppDl_0 B h) (allR_td 5 (lr_ppDl_1 B h) (allR_td 5 (lr_ppDl_2 B h) (trivial)))
theorem la_ppDg (B : Vb) (h : @okF B flG_g) : letI : Vl := @Vl.mk B flG_g h; allR (flS_ppD.inp flR) (flV_pp.inp flRL) true flA_pp := by
  letI : Vl := @Vl.mk B flG_g h
  exact allR_td 5 (lr_ppDg_0 B h) (allR_td 5 (lr_ppDg_1 B h) (allR_td 5 (lr_ppDg_2 B h) (trivial)))
theorem la_ppEl (B : Vb) (h : @okF B flG_l) : letI : Vl := @Vl.mk B flG_l h; allR (flS_ppE.inp flR) (flV_pp.inp flRL) false flA_pp := by
  letI : Vl := @Vl.mk B flG_l h
  exact allR_td 5 (lr_ppEl_0 B h) (allR_td 5 (lr_ppEl_1 B h) (allR_td 5 (lr_ppEl_2 B h) (trivial)))
theorem la_ppEg (B : Vb) (h : @okF B flG_g) : letI : Vl := @Vl.mk B flG_g h; allR (flS_ppE.inp flR) (flV_pp.inp flRL) true flA_pp := by
  letI : Vl := @Vl.mk B flG_g h
  exact allR_td 5 (lr_ppEg_0 B h) (allR_td 5 (lr_ppEg_1 B h) (allR_td 5 (lr_ppEg_2 B h) (trivial)))
theorem la_npBl (B : Vb) (h : @okF B flG_l) : letI : Vl := @Vl.mk B flG_l h; allR (flS_npB.inp flR) (flV_np.inp flRL) false flX_npB := by
  letI : Vl := @Vl.mk B flG_l h
  exact allR_td 5 (lr_npBl_0 B h) (trivial)
theorem la_npBg (B : Vb) (h : @okF B flG_g) : letI : Vl := @Vl.mk B flG_g h; allR (flS_npB.inp flR) (flV_np.inp flRL) true flX_npB := by
  letI : Vl := @Vl.mk B flG_g h
  exact allR_td 5 (lr_npBg_0 B h) (trivial)
theorem la_npCl (B : Vb) (h : @okF B flG_l) : letI : Vl := @Vl.mk B flG_l h; allR (flS_npC.inp flR) (flV_np.inp flRL) false flX_npC := by
  letI : Vl := @Vl.mk B flG_l h
  exact allR_td 5 (lr_npCl_0 B h) (trivial)
theorem la_npCg (B : Vb) (h : @okF B flG_g) : letI : Vl := @Vl.mk B flG_g h; allR (flS_npC.inp flR) (flV_np.inp flRL) true flX_npC := by
  letI : Vl := @Vl.mk B flG_g h
  exact allR_td 5 (lr_npCg_0 B h) (trivial)
theorem la_npDl (B : Vb) (h : @okF B flG_l) : letI : Vl := @Vl.mk B flG_l h; allR (flS_npD.inp flR) (flV_np.inp flRL) false flX_npD := by
  letI : Vl := @Vl.mk B flG_l h
  exact allR_td 5 (lr_npDl_0 B h) (trivial)
theorem la_npDg (B : Vb) (h : @okF B flG_g) : letI : Vl := @Vl.mk B flG_g h; allR (flS_npD.inp flR) (flV_np.inp flRL) true flX_npD := by
  letI : Vl := @Vl.mk B flG_g h
  exact allR_td 5 (lr_npDg_0 B h) (trivial)
theorem la_npEl (B : Vb) (h : @okF B flG_l) : letI : Vl := @Vl.mk B flG_l h; allR (flS_npE.inp flR) (flV_np.inp flRL) false flA_np := by
  letI : Vl := @Vl.mk B flG_l h
  exact allR_td 5 (lr_npEl_0 B h) (allR_td 5 (lr_npEl_1 B h) (allR_td 5 (lr_npEl_2 B h) (allR_td 5 (lr_npEl_3 B h) (allR_td 5 (lr_npEl_4 B h) (trivial)))))
theorem la_npEg (B : Vb) (h : @okF B flG_g) : letI : Vl := @Vl.mk B flG_g h; allR (flS_npE.inp flR) (flV_np.inp flRL) true flA_np := by
  letI : Vl := @Vl.mk B flG_g h
  exact allR_td 5 (lr_npEg_0 B h) (allR_td 5 (lr_npEg_1 B h) (allR_td 5 (lr_npEg_2 B h) (allR_td 5 (lr_npEg_3 B h) (allR_td 5 (lr_npEg_4 B h) (trivial)))))
theorem la_nnAl (B : Vb) (h : @okF B flG_A) : letI : Vl := @Vl.mk B flG_A h; allR (flS_nnA.inp flR) (flV_nn.inp flRL) false flX_nnA := by
  letI : Vl := @Vl.mk B flG_A h
  exact allR_td 5 (lr_nnAl_0 B h) (trivial)
theorem la_nnBl (B : Vb) (h : @okF B flG_l) : letI : Vl := @Vl.mk B flG_l h; allR (flS_nnB.inp flR) (flV_nn.inp flRL) false flA_nn := by
  letI : Vl := @Vl.mk B flG_l h
  exact allR_td 5 (lr_nnBl_0 B h) (allR_td 5 (lr_nnBl_1 B h) (allR_td 5 (lr_nnBl_2 B h) (trivial)))
theorem la_nnBg (B : Vb) (h : @okF B flG_g) : letI : Vl := @Vl.mk B flG_g h; allR (flS_nnB.inp flR) (flV_nn.inp flRL) true flA_nn := by
  letI : Vl := @Vl.mk B flG_g h
  exact allR_td 5 (lr_nnBg_0 B h) (allR_td 5 (lr_nnBg_1 B h) (allR_td 5 (lr_nnBg_2 B h) (trivial)))
theorem la_nnCl (B : Vb) (h : @okF B flG_l) : letI : Vl := @Vl.mk B flG_l h; allR (flS_nnC.inp flR) (flV_nn.inp flRL) false flA_nn := by
  letI : Vl := @Vl.mk B flG_l h
  exact allR_td 5 (lr_nnCl_0 B h) (allR_td 5 (lr_nnCl_1 B h) (allR_td 5 (lr_nnCl_2 B h) (trivial)))
theorem la_nnCg (B : Vb) (h : @okF B flG_g) : letI : Vl := @Vl.mk B flG_g h; allR (flS_nnC.inp flR) (flV_nn.inp flRL) true flA_nn := by
  letI : Vl := @Vl.mk B flG_g h
  exact allR_td 5 (lr_nnCg_0 B h) (allR_td 5 (lr_nnCg_1 B h) (allR_td 5 (lr_nnCg_2 B h) (trivial)))
theorem la_nnDl (B : Vb) (h : @okF B flG_l) : letI : Vl := @Vl.mk B flG_l h; allR (flS_nnD.inp flR) (flV_nn.inp flRL) false flA_nn := by
  letI : Vl := @Vl.mk B flG_l h
  exact allR_td 5 (lr_nnDl_0 B h) (allR_td 5 (lr_nnDl_1 B h) (allR_td 5 (lr_nnDl_2 B h) (trivial)))
theorem la_nnDg (B : Vb) (h : @okF B flG_g) : letI : Vl := @Vl.mk B flG_g h; allR (flS_nnD.inp flR) (flV_nn.inp flRL) true flA_nn := by
  letI : Vl := @Vl.mk B flG_g h
  exact allR_td 5 (lr_nnDg_0 B h) (allR_td 5 (lr_nnDg_1 B h) (allR_td 5 (lr_nnDg_2 B h) (trivial)))
theorem la_nnEl (B : Vb) (h : @okF B flG_l) : letI : Vl := @Vl.mk B flG_l h; allR (flS_nnE.inp flR) (flV_nn.inp flRL) false flA_nn := by
  letI : Vl := @Vl.mk B flG_l h
  exact allR_td 5 (lr_nnEl_0 B h) (allR_td 5 (lr_nnEl_1 B h) (allR_td 5 (lr_nnEl_2 B h) (trivial)))
theorem la_nnEg (B : Vb) (h : @okF B flG_g) : letI : Vl := @Vl.mk B flG_g h; allR (flS_nnE.inp flR) (flV_nn.inp flRL) true flA_nn := by
  letI : Vl := @Vl.mk B flG_g h
  exact allR_td 5 (lr_nnEg_0 B h) (allR_td 5 (lr_nnEg_1 B h) (allR_td 5 (lr_nnEg_2 B h) (trivial)))
abbrev flB (lo hi b fin ff : Int) : Vb := ofB [lo, hi, b, 0, fin, ff]
structure FlH (lo hi b fin ff : Int) : Prop where
  hb : 0 ≤ b ∧ b ≤ 255
  h1 : lo ≤ hi
  hh : hi ≤ 32767
  hl : -32768 ≤ lo
  n : ∃ N : Nat, lo + N * (b % 9 + 1) = fin ∧ 262143 - 2 * (N : Int) - 1 = ff
  f : 99 ≤ ff
  h4 : hi ≤ fin
  h5 : fin < hi + (b % 9 + 1)
theorem FlH.last {lo hi b fin ff : Int} (H : FlH lo hi b fin ff) (e : lo = hi) : fin ≤ lo := by
  obtain ⟨N, n1, n2⟩ := H.n
  have h5 := H.h5
  have hb : 0 ≤ b % 9 := by omega
  cases N with
  | zero => simp at n1; omega
  | succ N =>
    exfalso
    have hm : ((N + 1 : Nat) : Int) * (b % 9 + 1) = (N : Int) * (b % 9 + 1) + (b % 9 + 1) := by rw [Int.natCast_succ, Int.add_mul, Int.one_mul]
    have hp : 0 ≤ (N : Int) * (b % 9 + 1) := Int.mul_nonneg (by omega) (by omega)
    rw [hm] at n1
    generalize (N : Int) * (b % 9 + 1) = M at *
    omega
theorem putsL {lo hi b fin ff : Int} : Puts (flB lo hi b fin ff) (ofB [lo, hi, b % 9 + 1, 262143, fin, ff, lo]) flRL := ⟨fun i => match i with
  | 0 => rfl
  | 1 => rfl
  | 2 => rfl
  | 3 => rfl
  | 4 => rfl
  | 5 => rfl
  | 6 => rfl
  | n + 7 => by
    unfold flRL; rw [lkS_ge (by simp)]; rfl, fun _ => rfl⟩
/-- An end: from Solve's summary, the loop's, the runs. -/
theorem fl_use {lo hi b fin ff : Int} {S : Sm} {L : LS} {F G : List (SC × Bool)} {g : Bool} {A : List (FV × FV × List SC)} (H : FlH lo hi b fin ff) (hS : ∀ (B : Vb) (h : @okF B F) (G : Gd), @SmOk B G Tryz.prog 9 S) (hF : @okF (putB (flB lo hi b fin ff) flR) F)
    (hL : ∀ (hi k fin ff lo : Int), 1 ≤ k → k ≤ 9 → hi ≤ 32767 → 99 ≤ ff → hi ≤ fin → fin < hi + k → ∀ (N : Nat) (cur fuel : Int), cur + N * k = fin → fuel - 2 * N - 1 = ff → @LsI (ofB [cur, hi, k, fuel, fin, ff, lo]) Tryz.prog 101 L)
    (hG : @okF (flB lo hi b fin ff) G) (hr : ∀ (B : Vb) (h : @okF B G), letI : Vl := @Vl.mk B G h; allR (S.inp flR) (L.inp flRL) g A)
    (hm : ∃ p ∈ A, @den (flB lo hi b fin ff) env0 p.1 = some (.int .i16 lo) ∧ @den (flB lo hi b fin ff) env0 p.2.1 = some (.int .i16 hi)) :
    Go.Va.Good Tryz.prog 3 (match g with | true => [.int .i16 hi, .int .i16 lo, .int .u8 b] | false => [.int .i16 lo, .int .i16 hi, .int .u8 b]) := by
  obtain ⟨p, hp, dX, dY⟩ := hm
  obtain ⟨N, n1, n2⟩ := H.n
  have h0 : 0 ≤ b % 9 ∧ b % 9 ≤ 8 := by have := H.hb; omega
  letI V : Vl := @Vl.mk (flB lo hi b fin ff) G hG
  have hS' : ∀ G : Gd, @SmOk (flB lo hi b fin ff) G Tryz.prog 9 (S.inp flR) := fun G => (@SmOk.sub_iff _ _ _ G (puts _ _) _ _ _).2 (hS _ hF G)
  have hL' : @LsI (flB lo hi b fin ff) Tryz.prog 101 (L.inp flRL) := (LsI.sub_iff putsL).2 (hL hi (b % 9 + 1) fin ff lo (by omega) (by omega) H.hh H.f H.h4 H.h5 N lo 262143 n1 n2)
  have dB : @den (flB lo hi b fin ff) env0 byA = some (.int .u8 b) := den_by rfl H.hb.1 H.hb.2
  have ha : allR (S.inp flR) (L.inp flRL) g A := hr (flB lo hi b fin ff) hG
  have hrun := allR_mem ha hp
  cases g with
  | false => exact Go.Va.good_of (tabf_ok _ _ hS' hL') hrun Tryz.call3 (denL_of dX (denL_of dY (denL_of dB rfl)))
  | true => exact Go.Va.good_of (tabf_ok _ _ hS' hL') hrun Tryz.call3 (denL_of dY (denL_of dX (denL_of dB rfl)))
theorem fm_at {V : Vb} {A : List (FV × FV × List SC)} {x y : Value} {p : FV × FV × List SC} (i : Nat) (h : A[i]? = some p) (hx : @den V env0 p.1 = some x) (hy : @den V env0 p.2.1 = some y) : ∃ p ∈ A, @den V env0 p.1 = some x ∧ @den V env0 p.2.1 = some y := ⟨p, List.mem_of_getElem? h, hx, hy⟩
theorem ff_ppA (lo hi b fin ff : Int) (h0 : 0 ≤ b % 9 ∧ b % 9 ≤ 8) (h1 : 0 ≤ lo ∧ lo ≤ 32767) (h2 : 0 ≤ hi ∧ hi ≤ 32767) (h3 : lo = hi) : @okF (putB (flB lo hi b fin ff) flR) flF_ppA := by
  show decide (lo ≤ (hi - 1)) = false ∧ decide (hi ≤ (lo + 1)) = true ∧ decide ((hi - 1) < lo) = true ∧ decide (hi < (lo + 1)) = true ∧ decide (hi ≤ lo) = true ∧ decide (lo ≤ hi) = true ∧ decide (lo < hi) = false ∧ True
  exact ⟨decide_eq_false (by omega), decide_eq_true (by omega), decide_eq_true (by omega), decide_eq_true (by omega), decide_eq_true (by omega), decide_eq_true (by omega), decide_eq_false (by omega), trivial⟩
theorem ff_ppB (lo hi b fin ff : Int) (h0 : 0 ≤ b % 9 ∧ b % 9 ≤ 8) (h1 : 0 ≤ lo ∧ lo ≤ 32767) (h2 : 0 ≤ hi ∧ hi ≤ 32767) (h3 : hi = lo + 1) : @okF (putB (flB lo hi b fin ff) flR) flF_ppB := by
  show decide (lo ≤ (hi - 1)) = true ∧ decide (hi ≤ (lo + 1)) = true ∧ decide (hi < (lo + 1)) = false ∧ decide (hi ≤ lo) = false ∧ decide (lo ≤ hi) = true ∧ decide (lo < hi) = true ∧ decide ((lo + (b % 9 + 1)) < lo) = false ∧ decide (lo ≤ (lo + (b % 9 + 1))) = true ∧ decide ((lo + (b % 9 + 1)) ≤ lo) = false ∧ decide ((lo + (b % 9 + 1)) ≤ (hi - 1)) = false ∧ decide ((hi - 1) < lo) = false ∧ decide (hi ≤ (lo + (b % 9 + 1))) = true ∧ decide ((lo + (b % 9 + 1)) < hi) = false ∧ decide ((hi - 1) ≤ lo) = true ∧ decide (((hi - 1) + (b % 9 + 1)) < (hi - 1)) = false ∧ decide (((hi - 1) + (b % 9 + 1)) < (lo + (b % 9 + 1))) = false ∧ decide (lo ≤ ((hi - 1) + (b % 9 + 1))) = true ∧ decide (((hi - 1) + (b % 9 + 1)) < lo) = false ∧ decide (((hi - 1) + (b % 9 + 1)) ≤ (hi - 1)) = false ∧ decide (hi ≤ ((hi - 1) + (b % 9 + 1))) = true ∧ decide (((hi - 1) + (b % 9 + 1)) < hi) = false ∧ True
  exact ⟨decide_eq_true (by omega), decide_eq_true (by omega), decide_eq_false (by omega), decide_eq_false (by omega), decide_eq_true (by omega), decide_eq_true (by omega), decide_eq_false (by omega), decide_eq_true (by omega), decide_eq_false (by omega), decide_eq_false (by omega), decide_eq_false (by omega), decide_eq_true (by omega), decide_eq_false (by omega), decide_eq_true (by omega), decide_eq_false (by omega), decide_eq_false (by omega), decide_eq_true (by omega), decide_eq_false (by omega), decide_eq_false (by omega), decide_eq_true (by omega), decide_eq_false (by omega), trivial⟩
theorem ff_ppC (lo hi b fin ff : Int) (h0 : 0 ≤ b % 9 ∧ b % 9 ≤ 8) (h1 : 0 ≤ lo ∧ lo ≤ 32767) (h2 : 0 ≤ hi ∧ hi ≤ 32767) (h3 : lo + 2 ≤ hi ∧ hi ≤ lo + (b % 9 + 1)) : @okF (putB (flB lo hi b fin ff) flR) flF_ppC := by
  show decide (lo ≤ (hi - 1)) = true ∧ decide (hi ≤ (lo + 1)) = false ∧ decide (hi ≤ lo) = false ∧ decide (lo ≤ hi) = true ∧ decide (lo < hi) = true ∧ decide ((lo + (b % 9 + 1)) < lo) = false ∧ decide (lo ≤ (lo + (b % 9 + 1))) = true ∧ decide ((lo + (b % 9 + 1)) ≤ lo) = false ∧ decide ((lo + (b % 9 + 1)) ≤ (hi - 1)) = false ∧ decide ((hi - 1) < lo) = false ∧ decide (hi ≤ (lo + (b % 9 + 1))) = true ∧ decide ((lo + (b % 9 + 1)) < hi) = false ∧ decide ((hi - 1) ≤ lo) = false ∧ decide (((hi - 1) + (b % 9 + 1)) < (hi - 1)) = false ∧ decide (((hi - 1) + (b % 9 + 1)) < (lo + (b % 9 + 1))) = false ∧ decide ((lo + (b % 9 + 1)) ≤ ((hi - 1) + (b % 9 + 1))) = true ∧ decide (((hi - 1) + (b % 9 + 1)) < lo) = false ∧ decide ((lo + (b % 9 + 1)) < ((hi - 1) + (b % 9 + 1))) = true ∧ decide (lo ≤ ((hi - 1) + (b % 9 + 1))) = true ∧ decide (((hi - 1) + (b % 9 + 1)) ≤ (hi - 1)) = false ∧ decide (hi ≤ ((hi - 1) + (b % 9 + 1))) = true ∧ decide (((hi - 1) + (b % 9 + 1)) < hi) = false ∧ True
  exact ⟨decide_eq_true (by omega), decide_eq_false (by omega), decide_eq_false (by omega), decide_eq_true (by omega), decide_eq_true (by omega), decide_eq_false (by omega), decide_eq_true (by omega), decide_eq_false (by omega), decide_eq_false (by omega), decide_eq_false (by omega), decide_eq_true (by omega), decide_eq_false (by omega), decide_eq_false (by omega), decide_eq_false (by omega), decide_eq_false (by omega), decide_eq_true (by omega), decide_eq_false (by omega), decide_eq_true (by omega), decide_eq_true (by omega), decide_eq_false (by omega), decide_eq_true (by omega), decide_eq_false (by omega), trivial⟩
theorem ff_ppD (lo hi b fin ff : Int) (h0 : 0 ≤ b % 9 ∧ b % 9 ≤ 8) (h1 : 0 ≤ lo ∧ lo ≤ 32767) (h2 : 0 ≤ hi ∧ hi ≤ 32767) (h3 : hi = lo + (b % 9 + 1) + 1) : @okF (putB (flB lo hi b fin ff) flR) flF_ppD := by
  show decide (lo ≤ (hi - 1)) = true ∧ decide (hi ≤ (lo + 1)) = false ∧ decide (hi ≤ lo) = false ∧ decide (lo ≤ hi) = true ∧ decide (lo < hi) = true ∧ decide ((lo + (b % 9 + 1)) < lo) = false ∧ decide (lo ≤ (lo + (b % 9 + 1))) = true ∧ decide ((lo + (b % 9 + 1)) ≤ lo) = false ∧ decide ((lo + (b % 9 + 1)) ≤ (hi - 1)) = true ∧ decide (hi ≤ (lo + (b % 9 + 1))) = false ∧ decide ((lo + (b % 9 + 1)) < hi) = true ∧ decide (((lo + (b % 9 + 1)) + (b % 9 + 1)) < (lo + (b % 9 + 1))) = false ∧ decide ((lo + (b % 9 + 1)) ≤ ((lo + (b % 9 + 1)) + (b % 9 + 1))) = true ∧ decide (((lo + (b % 9 + 1)) + (b % 9 + 1)) < lo) = false ∧ decide ((lo + (b % 9 + 1)) < ((lo + (b % 9 + 1)) + (b % 9 + 1))) = true ∧ decide ((hi - 1) < lo) = false ∧ decide ((hi - 1) ≤ (lo + (b % 9 + 1))) = true ∧ decide (lo ≤ ((lo + (b % 9 + 1)) + (b % 9 + 1))) = true ∧ decide (((lo + (b % 9 + 1)) + (b % 9 + 1)) ≤ (hi - 1)) = false ∧ decide (hi ≤ ((lo + (b % 9 + 1)) + (b % 9 + 1))) = true ∧ decide (((lo + (b % 9 + 1)) + (b % 9 + 1)) < hi) = false ∧ decide (((hi - 1) + (b % 9 + 1)) < (hi - 1)) = false ∧ decide (((hi - 1) + (b % 9 + 1)) < (lo + (b % 9 + 1))) = false ∧ decide (lo ≤ ((hi - 1) + (b % 9 + 1))) = true ∧ decide (((hi - 1) + (b % 9 + 1)) < lo) = false ∧ decide (((hi - 1) + (b % 9 + 1)) ≤ (hi - 1)) = false ∧ decide (hi ≤ ((hi - 1) + (b % 9 + 1))) = true ∧ decide (((hi - 1) + (b % 9 + 1)) < hi) = false ∧ True
  exact ⟨decide_eq_true (by omega), decide_eq_false (by omega), decide_eq_false (by omega), decide_eq_true (by omega), decide_eq_true (by omega), decide_eq_false (by omega), decide_eq_true (by omega), decide_eq_false (by omega), decide_eq_true (by omega), decide_eq_false (by omega), decide_eq_true (by omega), decide_eq_false (by omega), decide_eq_true (by omega), decide_eq_false (by omega), decide_eq_true (by omega), decide_eq_false (by omega), decide_eq_true (by omega), decide_eq_true (by omega), decide_eq_false (by omega), decide_eq_true (by omega), decide_eq_false (by omega), decide_eq_false (by omega), decide_eq_false (by omega), decide_eq_true (by omega), decide_eq_false (by omega), decide_eq_false (by omega), decide_eq_true (by omega), decide_eq_false (by omega), trivial⟩
theorem ff_ppE (lo hi b fin ff : Int) (h0 : 0 ≤ b % 9 ∧ b % 9 ≤ 8) (h1 : 0 ≤ lo ∧ lo ≤ 32767) (h2 : 0 ≤ hi ∧ hi ≤ 32767) (h3 : lo + (b % 9 + 1) + 2 ≤ hi) : @okF (putB (flB lo hi b fin ff) flR) flF_ppE := by
  show decide (lo ≤ (hi - 1)) = true ∧ decide (hi ≤ (lo + 1)) = false ∧ decide (hi ≤ lo) = false ∧ decide (lo ≤ hi) = true ∧ decide (lo < hi) = true ∧ decide ((lo + (b % 9 + 1)) < lo) = false ∧ decide (lo ≤ (lo + (b % 9 + 1))) = true ∧ decide ((lo + (b % 9 + 1)) ≤ lo) = false ∧ decide ((lo + (b % 9 + 1)) ≤ (hi - 1)) = true ∧ decide (hi ≤ (lo + (b % 9 + 1))) = false ∧ decide ((lo + (b % 9 + 1)) < hi) = true ∧ decide (((lo + (b % 9 + 1)) + (b % 9 + 1)) < (lo + (b % 9 + 1))) = false ∧ decide ((lo + (b % 9 + 1)) ≤ ((lo + (b % 9 + 1)) + (b % 9 + 1))) = true ∧ decide (((lo + (b % 9 + 1)) + (b % 9 + 1)) < lo) = false ∧ decide ((lo + (b % 9 + 1)) < ((lo + (b % 9 + 1)) + (b % 9 + 1))) = true ∧ decide ((hi - 1) < lo) = false ∧ decide ((hi - 1) ≤ (lo + (b % 9 + 1))) = false ∧ decide (((hi - 1) + (b % 9 + 1)) < (hi - 1)) = false ∧ decide (((hi - 1) + (b % 9 + 1)) < (lo + (b % 9 + 1))) = false ∧ decide (lo ≤ ((hi - 1) + (b % 9 + 1))) = true ∧ decide (((hi - 1) + (b % 9 + 1)) < lo) = false ∧ decide (((hi - 1) + (b % 9 + 1)) ≤ (hi - 1)) = false ∧ decide (hi ≤ ((hi - 1) + (b % 9 + 1))) = true ∧ decide (((hi - 1) + (b % 9 + 1)) < hi) = false ∧ True
  exact ⟨decide_eq_true (by omega), decide_eq_false (by omega), decide_eq_false (by omega), decide_eq_true (by omega), decide_eq_true (by omega), decide_eq_false (by omega), decide_eq_true (by omega), decide_eq_false (by omega), decide_eq_true (by omega), decide_eq_false (by omega), decide_eq_true (by omega), decide_eq_false (by omega), decide_eq_true (by omega), decide_eq_false (by omega), decide_eq_true (by omega), decide_eq_false (by omega), decide_eq_false (by omega), decide_eq_false (by omega), decide_eq_false (by omega), decide_eq_true (by omega), decide_eq_false (by omega), decide_eq_false (by omega), decide_eq_true (by omega), decide_eq_false (by omega), trivial⟩
theorem ff_npB (lo hi b fin ff : Int) (h0 : 0 ≤ b % 9 ∧ b % 9 ≤ 8) (h1 : -32768 ≤ lo ∧ lo ≤ -1) (h2 : 0 ≤ hi ∧ hi ≤ 32767) (h3 : hi = lo + 1) : @okF (putB (flB lo hi b fin ff) flR) flF_npB := by
  show decide ((lo + (b % 9 + 1)) < lo) = false ∧ decide (lo ≤ (lo + (b % 9 + 1))) = true ∧ decide ((lo + (b % 9 + 1)) ≤ lo) = false ∧ decide ((lo + (b % 9 + 1)) ≤ (hi - 1)) = false ∧ decide ((hi - 1) < lo) = false ∧ decide (hi ≤ (lo + (b % 9 + 1))) = true ∧ decide ((lo + (b % 9 + 1)) < hi) = false ∧ decide (lo ≤ (hi - 1)) = true ∧ decide ((hi - 1) ≤ lo) = true ∧ decide (((hi - 1) + (b % 9 + 1)) < (hi - 1)) = false ∧ decide (((hi - 1) + (b % 9 + 1)) < (lo + (b % 9 + 1))) = false ∧ decide (lo ≤ ((hi - 1) + (b % 9 + 1))) = true ∧ decide (((hi - 1) + (b % 9 + 1)) < lo) = false ∧ decide (((hi - 1) + (b % 9 + 1)) ≤ (hi - 1)) = false ∧ decide (hi ≤ ((hi - 1) + (b % 9 + 1))) = true ∧ decide (((hi - 1) + (b % 9 + 1)) < hi) = false ∧ True
  exact ⟨decide_eq_false (by omega), decide_eq_true (by omega), decide_eq_false (by omega), decide_eq_false (by omega), decide_eq_false (by omega), decide_eq_true (by omega), decide_eq_false (by omega), decide_eq_true (by omega), decide_eq_true (by omega), decide_eq_false (by omega), decide_eq_false (by omega), decide_eq_true (by omega), decide_eq_false (by omega), decide_eq_false (by omega), decide_eq_true (by omega), decide_eq_false (by omega), trivial⟩
theorem ff_npC (lo hi b fin ff : Int) (h0 : 0 ≤ b % 9 ∧ b % 9 ≤ 8) (h1 : -32768 ≤ lo ∧ lo ≤ -1) (h2 : 0 ≤ hi ∧ hi ≤ 32767) (h3 : lo + 2 ≤ hi ∧ hi ≤ lo + (b % 9 + 1)) : @okF (putB (flB lo hi b fin ff) flR) flF_npC := by
  show decide ((lo + (b % 9 + 1)) < lo) = false ∧ decide (lo ≤ (lo + (b % 9 + 1))) = true ∧ decide ((lo + (b % 9 + 1)) ≤ lo) = false ∧ decide ((lo + (b % 9 + 1)) ≤ (hi - 1)) = false ∧ decide ((hi - 1) < lo) = false ∧ decide (hi ≤ (lo + (b % 9 + 1))) = true ∧ decide ((lo + (b % 9 + 1)) < hi) = false ∧ decide (lo ≤ (hi - 1)) = true ∧ decide ((hi - 1) ≤ lo) = false ∧ decide (((hi - 1) + (b % 9 + 1)) < (hi - 1)) = false ∧ decide (((hi - 1) + (b % 9 + 1)) < (lo + (b % 9 + 1))) = false ∧ decide ((lo + (b % 9 + 1)) ≤ ((hi - 1) + (b % 9 + 1))) = true ∧ decide (((hi - 1) + (b % 9 + 1)) < lo) = false ∧ decide ((lo + (b % 9 + 1)) < ((hi - 1) + (b % 9 + 1))) = true ∧ decide (lo ≤ ((hi - 1) + (b % 9 + 1))) = true ∧ decide (((hi - 1) + (b % 9 + 1)) ≤ (hi - 1)) = false ∧ decide (hi ≤ ((hi - 1) + (b % 9 + 1))) = true ∧ decide (((hi - 1) + (b % 9 + 1)) < hi) = false ∧ True
  exact ⟨decide_eq_false (by omega), decide_eq_true (by omega), decide_eq_false (by omega), decide_eq_false (by omega), decide_eq_false (by omega), decide_eq_true (by omega), decide_eq_false (by omega), decide_eq_true (by omega), decide_eq_false (by omega), decide_eq_false (by omega), decide_eq_false (by omega), decide_eq_true (by omega), decide_eq_false (by omega), decide_eq_true (by omega), decide_eq_true (by omega), decide_eq_false (by omega), decide_eq_true (by omega), decide_eq_false (by omega), trivial⟩
theorem ff_npD (lo hi b fin ff : Int) (h0 : 0 ≤ b % 9 ∧ b % 9 ≤ 8) (h1 : -32768 ≤ lo ∧ lo ≤ -1) (h2 : 0 ≤ hi ∧ hi ≤ 32767) (h3 : hi = lo + (b % 9 + 1) + 1) : @okF (putB (flB lo hi b fin ff) flR) flF_npD := by
  show decide ((lo + (b % 9 + 1)) < lo) = false ∧ decide (lo ≤ (lo + (b % 9 + 1))) = true ∧ decide ((lo + (b % 9 + 1)) ≤ lo) = false ∧ decide ((lo + (b % 9 + 1)) ≤ (hi - 1)) = true ∧ decide (hi ≤ (lo + (b % 9 + 1))) = false ∧ decide ((lo + (b % 9 + 1)) < hi) = true ∧ decide (((lo + (b % 9 + 1)) + (b % 9 + 1)) < (lo + (b % 9 + 1))) = false ∧ decide ((lo + (b % 9 + 1)) ≤ ((lo + (b % 9 + 1)) + (b % 9 + 1))) = true ∧ decide (((lo + (b % 9 + 1)) + (b % 9 + 1)) < lo) = false ∧ decide ((lo + (b % 9 + 1)) < ((lo + (b % 9 + 1)) + (b % 9 + 1))) = true ∧ decide ((hi - 1) ≤ (lo + (b % 9 + 1))) = true ∧ decide (lo ≤ ((lo + (b % 9 + 1)) + (b % 9 + 1))) = true ∧ decide (((lo + (b % 9 + 1)) + (b % 9 + 1)) ≤ (hi - 1)) = false ∧ decide ((hi - 1) < lo) = false ∧ decide (hi ≤ ((lo + (b % 9 + 1)) + (b % 9 + 1))) = true ∧ decide (((lo + (b % 9 + 1)) + (b % 9 + 1)) < hi) = false ∧ decide (((hi - 1) + (b % 9 + 1)) < (hi - 1)) = false ∧ decide (((hi - 1) + (b % 9 + 1)) < (lo + (b % 9 + 1))) = false ∧ decide (lo ≤ ((hi - 1) + (b % 9 + 1))) = true ∧ decide (((hi - 1) + (b % 9 + 1)) < lo) = false ∧ decide (((hi - 1) + (b % 9 + 1)) ≤ (hi - 1)) = false ∧ decide (hi ≤ ((hi - 1) + (b % 9 + 1))) = true ∧ decide (((hi - 1) + (b % 9 + 1)) < hi) = false ∧ True
  exact ⟨decide_eq_false (by omega), decide_eq_true (by omega), decide_eq_false (by omega), decide_eq_true (by omega), decide_eq_false (by omega), decide_eq_true (by omega), decide_eq_false (by omega), decide_eq_true (by omega), decide_eq_false (by omega), decide_eq_true (by omega), decide_eq_true (by omega), decide_eq_true (by omega), decide_eq_false (by omega), decide_eq_false (by omega), decide_eq_true (by omega), decide_eq_false (by omega), decide_eq_false (by omega), decide_eq_false (by omega), decide_eq_true (by omega), decide_eq_false (by omega), decide_eq_false (by omega), decide_eq_true (by omega), decide_eq_false (by omega), trivial⟩
theorem ff_npE (lo hi b fin ff : Int) (h0 : 0 ≤ b % 9 ∧ b % 9 ≤ 8) (h1 : -32768 ≤ lo ∧ lo ≤ -1) (h2 : 0 ≤ hi ∧ hi ≤ 32767) (h3 : lo + (b % 9 + 1) + 2 ≤ hi) : @okF (putB (flB lo hi b fin ff) flR) flF_npE := by
  show decide ((lo + (b % 9 + 1)) < lo) = false ∧ decide (lo ≤ (lo + (b % 9 + 1))) = true ∧ decide ((lo + (b % 9 + 1)) ≤ lo) = false ∧ decide ((lo + (b % 9 + 1)) ≤ (hi - 1)) = true ∧ decide (hi ≤ (lo + (b % 9 + 1))) = false ∧ decide ((lo + (b % 9 + 1)) < hi) = true ∧ decide (((lo + (b % 9 + 1)) + (b % 9 + 1)) < (lo + (b % 9 + 1))) = false ∧ decide ((lo + (b % 9 + 1)) ≤ ((lo + (b % 9 + 1)) + (b % 9 + 1))) = true ∧ decide (((lo + (b % 9 + 1)) + (b % 9 + 1)) < lo) = false ∧ decide ((lo + (b % 9 + 1)) < ((lo + (b % 9 + 1)) + (b % 9 + 1))) = true ∧ decide ((hi - 1) ≤ (lo + (b % 9 + 1))) = false ∧ decide (((hi - 1) + (b % 9 + 1)) < (hi - 1)) = false ∧ decide (((hi - 1) + (b % 9 + 1)) < (lo + (b % 9 + 1))) = false ∧ decide (((hi - 1) + (b % 9 + 1)) ≤ (hi - 1)) = false ∧ decide (hi ≤ ((hi - 1) + (b % 9 + 1))) = true ∧ decide (((hi - 1) + (b % 9 + 1)) < hi) = false ∧ True
  exact ⟨decide_eq_false (by omega), decide_eq_true (by omega), decide_eq_false (by omega), decide_eq_true (by omega), decide_eq_false (by omega), decide_eq_true (by omega), decide_eq_false (by omega), decide_eq_true (by omega), decide_eq_false (by omega), decide_eq_true (by omega), decide_eq_false (by omega), decide_eq_false (by omega), decide_eq_false (by omega), decide_eq_false (by omega), decide_eq_true (by omega), decide_eq_false (by omega), trivial⟩
theorem ff_nnA (lo hi b fin ff : Int) (h0 : 0 ≤ b % 9 ∧ b % 9 ≤ 8) (h1 : -32768 ≤ lo ∧ lo ≤ -1) (h2 : -32768 ≤ hi ∧ hi ≤ -1) (h3 : lo = hi) : @okF (putB (flB lo hi b fin ff) flR) flF_nnA := by
  show decide (lo ≤ (hi - 1)) = false ∧ decide (hi ≤ (lo + 1)) = true ∧ decide ((hi - 1) < lo) = true ∧ decide (hi < (lo + 1)) = true ∧ decide (hi ≤ lo) = true ∧ decide (lo ≤ hi) = true ∧ decide (lo < hi) = false ∧ True
  exact ⟨decide_eq_false (by omega), decide_eq_true (by omega), decide_eq_true (by omega), decide_eq_true (by omega), decide_eq_true (by omega), decide_eq_true (by omega), decide_eq_false (by omega), trivial⟩
theorem ff_nnB (lo hi b fin ff : Int) (h0 : 0 ≤ b % 9 ∧ b % 9 ≤ 8) (h1 : -32768 ≤ lo ∧ lo ≤ -1) (h2 : -32768 ≤ hi ∧ hi ≤ -1) (h3 : hi = lo + 1) : @okF (putB (flB lo hi b fin ff) flR) flF_nnB := by
  show decide (lo ≤ (hi - 1)) = true ∧ decide (hi ≤ (lo + 1)) = true ∧ decide (hi < (lo + 1)) = false ∧ decide (hi ≤ lo) = false ∧ decide (lo ≤ hi) = true ∧ decide (lo < hi) = true ∧ decide ((lo + (b % 9 + 1)) < lo) = false ∧ decide (lo ≤ (lo + (b % 9 + 1))) = true ∧ decide ((lo + (b % 9 + 1)) ≤ lo) = false ∧ decide ((lo + (b % 9 + 1)) ≤ (hi - 1)) = false ∧ decide ((hi - 1) < lo) = false ∧ decide (hi ≤ (lo + (b % 9 + 1))) = true ∧ decide ((lo + (b % 9 + 1)) < hi) = false ∧ decide ((hi - 1) ≤ lo) = true ∧ decide (((hi - 1) + (b % 9 + 1)) < (hi - 1)) = false ∧ decide (((hi - 1) + (b % 9 + 1)) < (lo + (b % 9 + 1))) = false ∧ decide (lo ≤ ((hi - 1) + (b % 9 + 1))) = true ∧ decide (((hi - 1) + (b % 9 + 1)) < lo) = false ∧ decide (((hi - 1) + (b % 9 + 1)) ≤ (hi - 1)) = false ∧ decide (hi ≤ ((hi - 1) + (b % 9 + 1))) = true ∧ decide (((hi - 1) + (b % 9 + 1)) < hi) = false ∧ True
  exact ⟨decide_eq_true (by omega), decide_eq_true (by omega), decide_eq_false (by omega), decide_eq_false (by omega), decide_eq_true (by omega), decide_eq_true (by omega), decide_eq_false (by omega), decide_eq_true (by omega), decide_eq_false (by omega), decide_eq_false (by omega), decide_eq_false (by omega), decide_eq_true (by omega), decide_eq_false (by omega), decide_eq_true (by omega), decide_eq_false (by omega), decide_eq_false (by omega), decide_eq_true (by omega), decide_eq_false (by omega), decide_eq_false (by omega), decide_eq_true (by omega), decide_eq_false (by omega), trivial⟩
theorem ff_nnC (lo hi b fin ff : Int) (h0 : 0 ≤ b % 9 ∧ b % 9 ≤ 8) (h1 : -32768 ≤ lo ∧ lo ≤ -1) (h2 : -32768 ≤ hi ∧ hi ≤ -1) (h3 : lo + 2 ≤ hi ∧ hi ≤ lo + (b % 9 + 1)) : @okF (putB (flB lo hi b fin ff) flR) flF_nnC := by
  show decide (lo ≤ (hi - 1)) = true ∧ decide (hi ≤ (lo + 1)) = false ∧ decide (hi ≤ lo) = false ∧ decide (lo ≤ hi) = true ∧ decide (lo < hi) = true ∧ decide ((lo + (b % 9 + 1)) < lo) = false ∧ decide (lo ≤ (lo + (b % 9 + 1))) = true ∧ decide ((lo + (b % 9 + 1)) ≤ lo) = false ∧ decide ((lo + (b % 9 + 1)) ≤ (hi - 1)) = false ∧ decide ((hi - 1) < lo) = false ∧ decide (hi ≤ (lo + (b % 9 + 1))) = true ∧ decide ((lo + (b % 9 + 1)) < hi) = false ∧ decide ((hi - 1) ≤ lo) = false ∧ decide (((hi - 1) + (b % 9 + 1)) < (hi - 1)) = false ∧ decide (((hi - 1) + (b % 9 + 1)) < (lo + (b % 9 + 1))) = false ∧ decide ((lo + (b % 9 + 1)) ≤ ((hi - 1) + (b % 9 + 1))) = true ∧ decide (((hi - 1) + (b % 9 + 1)) < lo) = false ∧ decide ((lo + (b % 9 + 1)) < ((hi - 1) + (b % 9 + 1))) = true ∧ decide (lo ≤ ((hi - 1) + (b % 9 + 1))) = true ∧ decide (((hi - 1) + (b % 9 + 1)) ≤ (hi - 1)) = false ∧ decide (hi ≤ ((hi - 1) + (b % 9 + 1))) = true ∧ decide (((hi - 1) + (b % 9 + 1)) < hi) = false ∧ True
  exact ⟨decide_eq_true (by omega), decide_eq_false (by omega), decide_eq_false (by omega), decide_eq_true (by omega), decide_eq_true (by omega), decide_eq_false (by omega), decide_eq_true (by omega), decide_eq_false (by omega), decide_eq_false (by omega), decide_eq_false (by omega), decide_eq_true (by omega), decide_eq_false (by omega), decide_eq_false (by omega), decide_eq_false (by omega), decide_eq_false (by omega), decide_eq_true (by omega), decide_eq_false (by omega), decide_eq_true (by omega), decide_eq_true (by omega), decide_eq_false (by omega), decide_eq_true (by omega), decide_eq_false (by omega), trivial⟩
theorem ff_nnD (lo hi b fin ff : Int) (h0 : 0 ≤ b % 9 ∧ b % 9 ≤ 8) (h1 : -32768 ≤ lo ∧ lo ≤ -1) (h2 : -32768 ≤ hi ∧ hi ≤ -1) (h3 : hi = lo + (b % 9 + 1) + 1) : @okF (putB (flB lo hi b fin ff) flR) flF_nnD := by
  show decide (lo ≤ (hi - 1)) = true ∧ decide (hi ≤ (lo + 1)) = false ∧ decide (hi ≤ lo) = false ∧ decide (lo ≤ hi) = true ∧ decide (lo < hi) = true ∧ decide ((lo + (b % 9 + 1)) < lo) = false ∧ decide (lo ≤ (lo + (b % 9 + 1))) = true ∧ decide ((lo + (b % 9 + 1)) ≤ lo) = false ∧ decide ((lo + (b % 9 + 1)) ≤ (hi - 1)) = true ∧ decide (hi ≤ (lo + (b % 9 + 1))) = false ∧ decide ((lo + (b % 9 + 1)) < hi) = true ∧ decide (((lo + (b % 9 + 1)) + (b % 9 + 1)) < (lo + (b % 9 + 1))) = false ∧ decide ((lo + (b % 9 + 1)) ≤ ((lo + (b % 9 + 1)) + (b % 9 + 1))) = true ∧ decide (((lo + (b % 9 + 1)) + (b % 9 + 1)) < lo) = false ∧ decide ((lo + (b % 9 + 1)) < ((lo + (b % 9 + 1)) + (b % 9 + 1))) = true ∧ decide ((hi - 1) < lo) = false ∧ decide ((hi - 1) ≤ (lo + (b % 9 + 1))) = true ∧ decide (lo ≤ ((lo + (b % 9 + 1)) + (b % 9 + 1))) = true ∧ decide (((lo + (b % 9 + 1)) + (b % 9 + 1)) ≤ (hi - 1)) = false ∧ decide (hi ≤ ((lo + (b % 9 + 1)) + (b % 9 + 1))) = true ∧ decide (((lo + (b % 9 + 1)) + (b % 9 + 1)) < hi) = false ∧ decide (((hi - 1) + (b % 9 + 1)) < (hi - 1)) = false ∧ decide (((hi - 1) + (b % 9 + 1)) < (lo + (b % 9 + 1))) = false ∧ decide (lo ≤ ((hi - 1) + (b % 9 + 1))) = true ∧ decide (((hi - 1) + (b % 9 + 1)) < lo) = false ∧ decide (((hi - 1) + (b % 9 + 1)) ≤ (hi - 1)) = false ∧ decide (hi ≤ ((hi - 1) + (b % 9 + 1))) = true ∧ decide (((hi - 1) + (b % 9 + 1)) < hi) = false ∧ True
  exact ⟨decide_eq_true (by omega), decide_eq_false (by omega), decide_eq_false (by omega), decide_eq_true (by omega), decide_eq_true (by omega), decide_eq_false (by omega), decide_eq_true (by omega), decide_eq_false (by omega), decide_eq_true (by omega), decide_eq_false (by omega), decide_eq_true (by omega), decide_eq_false (by omega), decide_eq_true (by omega), decide_eq_false (by omega), decide_eq_true (by omega), decide_eq_false (by omega), decide_eq_true (by omega), decide_eq_true (by omega), decide_eq_false (by omega), decide_eq_true (by omega), decide_eq_false (by omega), decide_eq_false (by omega), decide_eq_false (by omega), decide_eq_true (by omega), decide_eq_false (by omega), decide_eq_false (by omega), decide_eq_true (by omega), decide_eq_false (by omega), trivial⟩
theorem ff_nnE (lo hi b fin ff : Int) (h0 : 0 ≤ b % 9 ∧ b % 9 ≤ 8) (h1 : -32768 ≤ lo ∧ lo ≤ -1) (h2 : -32768 ≤ hi ∧ hi ≤ -1) (h3 : lo + (b % 9 + 1) + 2 ≤ hi) : @okF (putB (flB lo hi b fin ff) flR) flF_nnE := by
  show decide (lo ≤ (hi - 1)) = true ∧ decide (hi ≤ (lo + 1)) = false ∧ decide (hi ≤ lo) = false ∧ decide (lo ≤ hi) = true ∧ decide (lo < hi) = true ∧ decide ((lo + (b % 9 + 1)) < lo) = false ∧ decide (lo ≤ (lo + (b % 9 + 1))) = true ∧ decide ((lo + (b % 9 + 1)) ≤ lo) = false ∧ decide ((lo + (b % 9 + 1)) ≤ (hi - 1)) = true ∧ decide (hi ≤ (lo + (b % 9 + 1))) = false ∧ decide ((lo + (b % 9 + 1)) < hi) = true ∧ decide (((lo + (b % 9 + 1)) + (b % 9 + 1)) < (lo + (b % 9 + 1))) = false ∧ decide ((lo + (b % 9 + 1)) ≤ ((lo + (b % 9 + 1)) + (b % 9 + 1))) = true ∧ decide (((lo + (b % 9 + 1)) + (b % 9 + 1)) < lo) = false ∧ decide ((lo + (b % 9 + 1)) < ((lo + (b % 9 + 1)) + (b % 9 + 1))) = true ∧ decide ((hi - 1) < lo) = false ∧ decide ((hi - 1) ≤ (lo + (b % 9 + 1))) = false ∧ decide (((hi - 1) + (b % 9 + 1)) < (hi - 1)) = false ∧ decide (((hi - 1) + (b % 9 + 1)) < (lo + (b % 9 + 1))) = false ∧ decide (lo ≤ ((hi - 1) + (b % 9 + 1))) = true ∧ decide (((hi - 1) + (b % 9 + 1)) < lo) = false ∧ decide (((hi - 1) + (b % 9 + 1)) ≤ (hi - 1)) = false ∧ decide (hi ≤ ((hi - 1) + (b % 9 + 1))) = true ∧ decide (((hi - 1) + (b % 9 + 1)) < hi) = false ∧ True
  exact ⟨decide_eq_true (by omega), decide_eq_false (by omega), decide_eq_false (by omega), decide_eq_true (by omega), decide_eq_true (by omega), decide_eq_false (by omega), decide_eq_true (by omega), decide_eq_false (by omega), decide_eq_true (by omega), decide_eq_false (by omega), decide_eq_true (by omega), decide_eq_false (by omega), decide_eq_true (by omega), decide_eq_false (by omega), decide_eq_true (by omega), decide_eq_false (by omega), decide_eq_false (by omega), decide_eq_false (by omega), decide_eq_false (by omega), decide_eq_true (by omega), decide_eq_false (by omega), decide_eq_false (by omega), decide_eq_true (by omega), decide_eq_false (by omega), trivial⟩
theorem fg_A (lo hi b fin ff : Int) (H : FlH lo hi b fin ff) (hd : lo = hi) : @okF (flB lo hi b fin ff) flG_A := by
  have h0 := H.hb; have h1 := H.h1; have h4 := H.h4; have h5 := H.h5; have hh := H.hh; have hl := H.hl; have e4 : fin ≤ lo := FlH.last H hd
  show decide (lo ≤ hi) = true ∧ decide (hi ≤ fin) = true ∧ decide (fin ≤ lo) = true ∧ decide (lo = hi) = true ∧ decide (hi = lo) = true ∧ decide (lo ≤ 32767) = true ∧ decide (hi ≤ 32767) = true ∧ decide ((0 - lo) ≤ 32768) = true ∧ decide ((0 - hi) ≤ 32768) = true ∧ decide ((-32768) ≤ lo) = true ∧ True
  exact ⟨decide_eq_true (by omega), decide_eq_true (by omega), decide_eq_true (by omega), decide_eq_true (by omega), decide_eq_true (by omega), decide_eq_true (by omega), decide_eq_true (by omega), decide_eq_true (by omega), decide_eq_true (by omega), decide_eq_true (by omega), trivial⟩
theorem fg_l (lo hi b fin ff : Int) (H : FlH lo hi b fin ff) (hd : lo < hi) : @okF (flB lo hi b fin ff) flG_l := by
  have h0 := H.hb; have h1 := H.h1; have h4 := H.h4; have h5 := H.h5; have hh := H.hh; have hl := H.hl; skip
  show decide (lo ≤ hi) = true ∧ decide (hi ≤ fin) = true ∧ decide (fin ≤ ((hi - 1) + ((b % 9) + 1))) = true ∧ decide (lo = hi) = false ∧ decide (((hi - 1) + ((b % 9) + 1)) < hi) = false ∧ decide (lo ≤ 32767) = true ∧ decide (hi ≤ 32767) = true ∧ decide ((0 - lo) ≤ 32768) = true ∧ decide ((0 - hi) ≤ 32768) = true ∧ decide ((-32768) ≤ lo) = true ∧ True
  exact ⟨decide_eq_true (by omega), decide_eq_true (by omega), decide_eq_true (by omega), decide_eq_false (by omega), decide_eq_false (by omega), decide_eq_true (by omega), decide_eq_true (by omega), decide_eq_true (by omega), decide_eq_true (by omega), decide_eq_true (by omega), trivial⟩
theorem fg_g (lo hi b fin ff : Int) (H : FlH lo hi b fin ff) (hd : lo < hi) : @okF (flB lo hi b fin ff) flG_g := by
  have h0 := H.hb; have h1 := H.h1; have h4 := H.h4; have h5 := H.h5; have hh := H.hh; have hl := H.hl; skip
  show decide (hi ≤ lo) = false ∧ decide (hi ≤ fin) = true ∧ decide (fin ≤ ((hi - 1) + ((b % 9) + 1))) = true ∧ decide (lo = hi) = false ∧ decide (((hi - 1) + ((b % 9) + 1)) < hi) = false ∧ decide (lo ≤ 32767) = true ∧ decide (hi ≤ 32767) = true ∧ decide ((0 - lo) ≤ 32768) = true ∧ decide ((0 - hi) ≤ 32768) = true ∧ decide ((-32768) ≤ lo) = true ∧ True
  exact ⟨decide_eq_false (by omega), decide_eq_true (by omega), decide_eq_true (by omega), decide_eq_false (by omega), decide_eq_false (by omega), decide_eq_true (by omega), decide_eq_true (by omega), decide_eq_true (by omega), decide_eq_true (by omega), decide_eq_true (by omega), trivial⟩
theorem fm_pp (lo hi b fin ff : Int) (h : lo ≤ hi) (h1 : 0 ≤ lo ∧ lo ≤ 32767) (h2 : 0 ≤ hi ∧ hi ≤ 32767) : ∃ p ∈ flA_pp, @den (flB lo hi b fin ff) env0 p.1 = some (.int .i16 lo) ∧ @den (flB lo hi b fin ff) env0 p.2.1 = some (.int .i16 hi) := by
  have ca : (0 ≤ lo ∧ lo ≤ 9) ∨ (10 ≤ lo ∧ lo ≤ 99) ∨ (100 ≤ lo ∧ lo ≤ 999) ∨ (1000 ≤ lo ∧ lo ≤ 9999) ∨ (10000 ≤ lo ∧ lo ≤ 32767) := by omega
  have cb : (0 ≤ hi ∧ hi ≤ 9) ∨ (10 ≤ hi ∧ hi ≤ 99) ∨ (100 ≤ hi ∧ hi ≤ 999) ∨ (1000 ≤ hi ∧ hi ≤ 9999) ∨ (10000 ≤ hi ∧ hi ≤ 32767) := by omega
  rcases ca with ca | ca | ca | ca | ca <;> rcases cb with cb | cb | cb | cb | cb
  · exact fm_at 0 rfl (den_byB _ rfl ca.1 ca.2) (den_byB _ rfl cb.1 cb.2)
  · exact fm_at 1 rfl (den_byB _ rfl ca.1 ca.2) (den_byB _ rfl cb.1 cb.2)
  · exact fm_at 2 rfl (den_byB _ rfl ca.1 ca.2) (den_byB _ rfl cb.1 cb.2)
  · exact fm_at 3 rfl (den_byB _ rfl ca.1 ca.2) (den_byB _ rfl cb.1 cb.2)
  · exact fm_at 4 rfl (den_byB _ rfl ca.1 ca.2) (den_byB _ rfl cb.1 cb.2)
  · exfalso; omega
  · exact fm_at 5 rfl (den_byB _ rfl ca.1 ca.2) (den_byB _ rfl cb.1 cb.2)
  · exact fm_at 6 rfl (den_byB _ rfl ca.1 ca.2) (den_byB _ rfl cb.1 cb.2)
  · exact fm_at 7 rfl (den_byB _ rfl ca.1 ca.2) (den_byB _ rfl cb.1 cb.2)
  · exact fm_at 8 rfl (den_byB _ rfl ca.1 ca.2) (den_byB _ rfl cb.1 cb.2)
  · exfalso; omega
  · exfalso; omega
  · exact fm_at 9 rfl (den_byB _ rfl ca.1 ca.2) (den_byB _ rfl cb.1 cb.2)
  · exact fm_at 10 rfl (den_byB _ rfl ca.1 ca.2) (den_byB _ rfl cb.1 cb.2)
  · exact fm_at 11 rfl (den_byB _ rfl ca.1 ca.2) (den_byB _ rfl cb.1 cb.2)
  · exfalso; omega
  · exfalso; omega
  · exfalso; omega
  · exact fm_at 12 rfl (den_byB _ rfl ca.1 ca.2) (den_byB _ rfl cb.1 cb.2)
  · exact fm_at 13 rfl (den_byB _ rfl ca.1 ca.2) (den_byB _ rfl cb.1 cb.2)
  · exfalso; omega
  · exfalso; omega
  · exfalso; omega
  · exfalso; omega
  · exact fm_at 14 rfl (den_byB _ rfl ca.1 ca.2) (den_byB _ rfl cb.1 cb.2)
theorem fm_np (lo hi b fin ff : Int) (h : lo ≤ hi) (h1 : -32768 ≤ lo ∧ lo ≤ -1) (h2 : 0 ≤ hi ∧ hi ≤ 32767) : ∃ p ∈ flA_np, @den (flB lo hi b fin ff) env0 p.1 = some (.int .i16 lo) ∧ @den (flB lo hi b fin ff) env0 p.2.1 = some (.int .i16 hi) := by
  have ca : (-9 ≤ lo ∧ lo ≤ -1) ∨ (-99 ≤ lo ∧ lo ≤ -10) ∨ (-999 ≤ lo ∧ lo ≤ -100) ∨ (-9999 ≤ lo ∧ lo ≤ -1000) ∨ (-32768 ≤ lo ∧ lo ≤ -10000) := by omega
  have cb : (0 ≤ hi ∧ hi ≤ 9) ∨ (10 ≤ hi ∧ hi ≤ 99) ∨ (100 ≤ hi ∧ hi ≤ 999) ∨ (1000 ≤ hi ∧ hi ≤ 9999) ∨ (10000 ≤ hi ∧ hi ≤ 32767) := by omega
  rcases ca with ca | ca | ca | ca | ca <;> rcases cb with cb | cb | cb | cb | cb
  · exact fm_at 0 rfl (den_byB _ rfl ca.1 ca.2) (den_byB _ rfl cb.1 cb.2)
  · exact fm_at 1 rfl (den_byB _ rfl ca.1 ca.2) (den_byB _ rfl cb.1 cb.2)
  · exact fm_at 2 rfl (den_byB _ rfl ca.1 ca.2) (den_byB _ rfl cb.1 cb.2)
  · exact fm_at 3 rfl (den_byB _ rfl ca.1 ca.2) (den_byB _ rfl cb.1 cb.2)
  · exact fm_at 4 rfl (den_byB _ rfl ca.1 ca.2) (den_byB _ rfl cb.1 cb.2)
  · exact fm_at 5 rfl (den_byB _ rfl ca.1 ca.2) (den_byB _ rfl cb.1 cb.2)
  · exact fm_at 6 rfl (den_byB _ rfl ca.1 ca.2) (den_byB _ rfl cb.1 cb.2)
  · exact fm_at 7 rfl (den_byB _ rfl ca.1 ca.2) (den_byB _ rfl cb.1 cb.2)
  · exact fm_at 8 rfl (den_byB _ rfl ca.1 ca.2) (den_byB _ rfl cb.1 cb.2)
  · exact fm_at 9 rfl (den_byB _ rfl ca.1 ca.2) (den_byB _ rfl cb.1 cb.2)
  · exact fm_at 10 rfl (den_byB _ rfl ca.1 ca.2) (den_byB _ rfl cb.1 cb.2)
  · exact fm_at 11 rfl (den_byB _ rfl ca.1 ca.2) (den_byB _ rfl cb.1 cb.2)
  · exact fm_at 12 rfl (den_byB _ rfl ca.1 ca.2) (den_byB _ rfl cb.1 cb.2)
  · exact fm_at 13 rfl (den_byB _ rfl ca.1 ca.2) (den_byB _ rfl cb.1 cb.2)
  · exact fm_at 14 rfl (den_byB _ rfl ca.1 ca.2) (den_byB _ rfl cb.1 cb.2)
  · exact fm_at 15 rfl (den_byB _ rfl ca.1 ca.2) (den_byB _ rfl cb.1 cb.2)
  · exact fm_at 16 rfl (den_byB _ rfl ca.1 ca.2) (den_byB _ rfl cb.1 cb.2)
  · exact fm_at 17 rfl (den_byB _ rfl ca.1 ca.2) (den_byB _ rfl cb.1 cb.2)
  · exact fm_at 18 rfl (den_byB _ rfl ca.1 ca.2) (den_byB _ rfl cb.1 cb.2)
  · exact fm_at 19 rfl (den_byB _ rfl ca.1 ca.2) (den_byB _ rfl cb.1 cb.2)
  · exact fm_at 20 rfl (den_byB _ rfl ca.1 ca.2) (den_byB _ rfl cb.1 cb.2)
  · exact fm_at 21 rfl (den_byB _ rfl ca.1 ca.2) (den_byB _ rfl cb.1 cb.2)
  · exact fm_at 22 rfl (den_byB _ rfl ca.1 ca.2) (den_byB _ rfl cb.1 cb.2)
  · exact fm_at 23 rfl (den_byB _ rfl ca.1 ca.2) (den_byB _ rfl cb.1 cb.2)
  · exact fm_at 24 rfl (den_byB _ rfl ca.1 ca.2) (den_byB _ rfl cb.1 cb.2)
theorem fm_nn (lo hi b fin ff : Int) (h : lo ≤ hi) (h1 : -32768 ≤ lo ∧ lo ≤ -1) (h2 : -32768 ≤ hi ∧ hi ≤ -1) : ∃ p ∈ flA_nn, @den (flB lo hi b fin ff) env0 p.1 = some (.int .i16 lo) ∧ @den (flB lo hi b fin ff) env0 p.2.1 = some (.int .i16 hi) := by
  have ca : (-9 ≤ lo ∧ lo ≤ -1) ∨ (-99 ≤ lo ∧ lo ≤ -10) ∨ (-999 ≤ lo ∧ lo ≤ -100) ∨ (-9999 ≤ lo ∧ lo ≤ -1000) ∨ (-32768 ≤ lo ∧ lo ≤ -10000) := by omega
  have cb : (-9 ≤ hi ∧ hi ≤ -1) ∨ (-99 ≤ hi ∧ hi ≤ -10) ∨ (-999 ≤ hi ∧ hi ≤ -100) ∨ (-9999 ≤ hi ∧ hi ≤ -1000) ∨ (-32768 ≤ hi ∧ hi ≤ -10000) := by omega
  rcases ca with ca | ca | ca | ca | ca <;> rcases cb with cb | cb | cb | cb | cb
  · exact fm_at 0 rfl (den_byB _ rfl ca.1 ca.2) (den_byB _ rfl cb.1 cb.2)
  · exfalso; omega
  · exfalso; omega
  · exfalso; omega
  · exfalso; omega
  · exact fm_at 1 rfl (den_byB _ rfl ca.1 ca.2) (den_byB _ rfl cb.1 cb.2)
  · exact fm_at 2 rfl (den_byB _ rfl ca.1 ca.2) (den_byB _ rfl cb.1 cb.2)
  · exfalso; omega
  · exfalso; omega
  · exfalso; omega
  · exact fm_at 3 rfl (den_byB _ rfl ca.1 ca.2) (den_byB _ rfl cb.1 cb.2)
  · exact fm_at 4 rfl (den_byB _ rfl ca.1 ca.2) (den_byB _ rfl cb.1 cb.2)
  · exact fm_at 5 rfl (den_byB _ rfl ca.1 ca.2) (den_byB _ rfl cb.1 cb.2)
  · exfalso; omega
  · exfalso; omega
  · exact fm_at 6 rfl (den_byB _ rfl ca.1 ca.2) (den_byB _ rfl cb.1 cb.2)
  · exact fm_at 7 rfl (den_byB _ rfl ca.1 ca.2) (den_byB _ rfl cb.1 cb.2)
  · exact fm_at 8 rfl (den_byB _ rfl ca.1 ca.2) (den_byB _ rfl cb.1 cb.2)
  · exact fm_at 9 rfl (den_byB _ rfl ca.1 ca.2) (den_byB _ rfl cb.1 cb.2)
  · exfalso; omega
  · exact fm_at 10 rfl (den_byB _ rfl ca.1 ca.2) (den_byB _ rfl cb.1 cb.2)
  · exact fm_at 11 rfl (den_byB _ rfl ca.1 ca.2) (den_byB _ rfl cb.1 cb.2)
  · exact fm_at 12 rfl (den_byB _ rfl ca.1 ca.2) (den_byB _ rfl cb.1 cb.2)
  · exact fm_at 13 rfl (den_byB _ rfl ca.1 ca.2) (den_byB _ rfl cb.1 cb.2)
  · exact fm_at 14 rfl (den_byB _ rfl ca.1 ca.2) (den_byB _ rfl cb.1 cb.2)
theorem fm_ppA (lo hi b fin ff : Int) (h0 : 0 ≤ b % 9 ∧ b % 9 ≤ 8) (h : lo = hi) (h1 : 0 ≤ lo ∧ lo ≤ 32767) (h2 : 0 ≤ hi ∧ hi ≤ 32767) : ∃ p ∈ flX_ppA, @den (flB lo hi b fin ff) env0 p.1 = some (.int .i16 lo) ∧ @den (flB lo hi b fin ff) env0 p.2.1 = some (.int .i16 hi) := by
  have ca : ((0 ≤ lo ∧ lo ≤ 9) ∧ (0 ≤ hi ∧ hi ≤ 9)) ∨ ((10 ≤ lo ∧ lo ≤ 99) ∧ (10 ≤ hi ∧ hi ≤ 99)) ∨ ((100 ≤ lo ∧ lo ≤ 999) ∧ (100 ≤ hi ∧ hi ≤ 999)) ∨ ((1000 ≤ lo ∧ lo ≤ 9999) ∧ (1000 ≤ hi ∧ hi ≤ 9999)) ∨ ((10000 ≤ lo ∧ lo ≤ 32767) ∧ (10000 ≤ hi ∧ hi ≤ 32767)) := by omega
  rcases ca with ca | ca | ca | ca | ca
  · exact fm_at 0 rfl (den_byB _ rfl ca.1.1 ca.1.2) (den_byB _ rfl ca.2.1 ca.2.2)
  · exact fm_at 1 rfl (den_byB _ rfl ca.1.1 ca.1.2) (den_byB _ rfl ca.2.1 ca.2.2)
  · exact fm_at 2 rfl (den_byB _ rfl ca.1.1 ca.1.2) (den_byB _ rfl ca.2.1 ca.2.2)
  · exact fm_at 3 rfl (den_byB _ rfl ca.1.1 ca.1.2) (den_byB _ rfl ca.2.1 ca.2.2)
  · exact fm_at 4 rfl (den_byB _ rfl ca.1.1 ca.1.2) (den_byB _ rfl ca.2.1 ca.2.2)
theorem fm_nnA (lo hi b fin ff : Int) (h0 : 0 ≤ b % 9 ∧ b % 9 ≤ 8) (h : lo = hi) (h1 : -32768 ≤ lo ∧ lo ≤ -1) (h2 : -32768 ≤ hi ∧ hi ≤ -1) : ∃ p ∈ flX_nnA, @den (flB lo hi b fin ff) env0 p.1 = some (.int .i16 lo) ∧ @den (flB lo hi b fin ff) env0 p.2.1 = some (.int .i16 hi) := by
  have ca : ((-9 ≤ lo ∧ lo ≤ -1) ∧ (-9 ≤ hi ∧ hi ≤ -1)) ∨ ((-99 ≤ lo ∧ lo ≤ -10) ∧ (-99 ≤ hi ∧ hi ≤ -10)) ∨ ((-999 ≤ lo ∧ lo ≤ -100) ∧ (-999 ≤ hi ∧ hi ≤ -100)) ∨ ((-9999 ≤ lo ∧ lo ≤ -1000) ∧ (-9999 ≤ hi ∧ hi ≤ -1000)) ∨ ((-32768 ≤ lo ∧ lo ≤ -10000) ∧ (-32768 ≤ hi ∧ hi ≤ -10000)) := by omega
  rcases ca with ca | ca | ca | ca | ca
  · exact fm_at 0 rfl (den_byB _ rfl ca.1.1 ca.1.2) (den_byB _ rfl ca.2.1 ca.2.2)
  · exact fm_at 1 rfl (den_byB _ rfl ca.1.1 ca.1.2) (den_byB _ rfl ca.2.1 ca.2.2)
  · exact fm_at 2 rfl (den_byB _ rfl ca.1.1 ca.1.2) (den_byB _ rfl ca.2.1 ca.2.2)
  · exact fm_at 3 rfl (den_byB _ rfl ca.1.1 ca.1.2) (den_byB _ rfl ca.2.1 ca.2.2)
  · exact fm_at 4 rfl (den_byB _ rfl ca.1.1 ca.1.2) (den_byB _ rfl ca.2.1 ca.2.2)
theorem fm_npB (lo hi b fin ff : Int) (h0 : 0 ≤ b % 9 ∧ b % 9 ≤ 8) (h : hi = lo + 1) (h1 : -32768 ≤ lo ∧ lo ≤ -1) (h2 : 0 ≤ hi ∧ hi ≤ 32767) : ∃ p ∈ flX_npB, @den (flB lo hi b fin ff) env0 p.1 = some (.int .i16 lo) ∧ @den (flB lo hi b fin ff) env0 p.2.1 = some (.int .i16 hi) := by
  have ca : ((-9 ≤ lo ∧ lo ≤ -1) ∧ (0 ≤ hi ∧ hi ≤ 9)) := by omega
  exact fm_at 0 rfl (den_byB _ rfl ca.1.1 ca.1.2) (den_byB _ rfl ca.2.1 ca.2.2)
theorem fm_npC (lo hi b fin ff : Int) (h0 : 0 ≤ b % 9 ∧ b % 9 ≤ 8) (h : lo + 2 ≤ hi ∧ hi ≤ lo + (b % 9 + 1)) (h1 : -32768 ≤ lo ∧ lo ≤ -1) (h2 : 0 ≤ hi ∧ hi ≤ 32767) : ∃ p ∈ flX_npC, @den (flB lo hi b fin ff) env0 p.1 = some (.int .i16 lo) ∧ @den (flB lo hi b fin ff) env0 p.2.1 = some (.int .i16 hi) := by
  have ca : ((-9 ≤ lo ∧ lo ≤ -1) ∧ (0 ≤ hi ∧ hi ≤ 9)) := by omega
  exact fm_at 0 rfl (den_byB _ rfl ca.1.1 ca.1.2) (den_byB _ rfl ca.2.1 ca.2.2)
theorem fm_npD (lo hi b fin ff : Int) (h0 : 0 ≤ b % 9 ∧ b % 9 ≤ 8) (h : hi = lo + (b % 9 + 1) + 1) (h1 : -32768 ≤ lo ∧ lo ≤ -1) (h2 : 0 ≤ hi ∧ hi ≤ 32767) : ∃ p ∈ flX_npD, @den (flB lo hi b fin ff) env0 p.1 = some (.int .i16 lo) ∧ @den (flB lo hi b fin ff) env0 p.2.1 = some (.int .i16 hi) := by
  have ca : ((-9 ≤ lo ∧ lo ≤ -1) ∧ (0 ≤ hi ∧ hi ≤ 9)) ∨ ((-99 ≤ lo ∧ lo ≤ -10) ∧ (0 ≤ hi ∧ hi ≤ 9)) := by omega
  rcases ca with ca | ca
  · exact fm_at 0 rfl (den_byB _ rfl ca.1.1 ca.1.2) (den_byB _ rfl ca.2.1 ca.2.2)
  · exact fm_at 1 rfl (den_byB _ rfl ca.1.1 ca.1.2) (den_byB _ rfl ca.2.1 ca.2.2)
theorem fl_ex (lo hi b : Int) (hb : 0 ≤ b ∧ b ≤ 255) (h : lo ≤ hi) (hl : -32768 ≤ lo) (hh : hi ≤ 32767) : ∃ fin ff, FlH lo hi b fin ff := by
  have h0 : 0 ≤ b % 9 ∧ b % 9 ≤ 8 := by omega
  have k1 : 1 ≤ b % 9 + 1 ∧ b % 9 + 1 ≤ 9 := by omega
  generalize hk : b % 9 + 1 = k at k1
  have q0 : 0 ≤ (hi - lo + k - 1) / k := Int.ediv_nonneg (by omega) (by omega)
  have q1 : (hi - lo + k - 1) / k * k ≤ hi - lo + k - 1 := Int.ediv_mul_le _ (by omega)
  have q2 : hi - lo + k - 1 < ((hi - lo + k - 1) / k + 1) * k := Int.lt_ediv_add_one_mul_self _ (by omega)
  have q3 : (hi - lo + k - 1) / k ≤ 65535 := by
    refine Int.le_of_lt_add_one (Int.ediv_lt_of_lt_mul (by omega) ?_)
    have : (65535 + 1) * k = 65535 * k + k := by rw [Int.add_mul, Int.one_mul]
    omega
  obtain ⟨N, hN⟩ := Int.eq_ofNat_of_zero_le q0
  rw [Int.add_mul, Int.one_mul] at q2
  rw [hN] at q1 q2 q3
  refine ⟨lo + N * k, 262143 - 2 * (N : Int) - 1, hb, h, hh, hl, ⟨N, by rw [hk], rfl⟩, by omega, ?_, ?_⟩
  · generalize (N : Int) * k = M at *
    omega
  · rw [hk]
    generalize (N : Int) * k = M at *
    omega
theorem fo_l (lo hi b : Int) (hb : 0 ≤ b ∧ b ≤ 255) (h : lo ≤ hi) (hl : -32768 ≤ lo) (hh : hi ≤ 32767) : Go.Va.Good Tryz.prog 3 [.int .i16 lo, .int .i16 hi, .int .u8 b] := by
  obtain ⟨fin, ff, H⟩ := fl_ex lo hi b hb (by omega) hl hh
  have h0 : 0 ≤ b % 9 ∧ b % 9 ≤ 8 := by omega
  have hc : (lo = hi) ∨ (hi = lo + 1) ∨ (lo + 2 ≤ hi ∧ hi ≤ lo + (b % 9 + 1)) ∨ (hi = lo + (b % 9 + 1) + 1) ∨ (lo + (b % 9 + 1) + 2 ≤ hi) := by omega
  have hs : (0 ≤ lo) ∨ (lo < 0 ∧ 0 ≤ hi) ∨ (hi < 0) := by omega
  rcases hs with hs | hs | hs
  · rcases hc with hc | hc | hc | hc | hc
    · exact fl_use (g := false) H sn_ppA (ff_ppA lo hi b fin ff h0 (by omega) (by omega) hc) loop_pp (fg_A lo hi b fin ff H (by omega)) la_ppAl (fm_ppA lo hi b fin ff h0 (by omega) (by omega) (by omega))
    · exact fl_use (g := false) H sn_ppB (ff_ppB lo hi b fin ff h0 (by omega) (by omega) hc) loop_pp (fg_l lo hi b fin ff H (by omega)) la_ppBl (fm_pp lo hi b fin ff (by omega) (by omega) (by omega))
    · exact fl_use (g := false) H sn_ppC (ff_ppC lo hi b fin ff h0 (by omega) (by omega) hc) loop_pp (fg_l lo hi b fin ff H (by omega)) la_ppCl (fm_pp lo hi b fin ff (by omega) (by omega) (by omega))
    · exact fl_use (g := false) H sn_ppD (ff_ppD lo hi b fin ff h0 (by omega) (by omega) hc) loop_pp (fg_l lo hi b fin ff H (by omega)) la_ppDl (fm_pp lo hi b fin ff (by omega) (by omega) (by omega))
    · exact fl_use (g := false) H sn_ppE (ff_ppE lo hi b fin ff h0 (by omega) (by omega) hc) loop_pp (fg_l lo hi b fin ff H (by omega)) la_ppEl (fm_pp lo hi b fin ff (by omega) (by omega) (by omega))
  · rcases hc with hc | hc | hc | hc | hc
    · exfalso; omega
    · exact fl_use (g := false) H sn_npB (ff_npB lo hi b fin ff h0 (by omega) (by omega) hc) loop_np (fg_l lo hi b fin ff H (by omega)) la_npBl (fm_npB lo hi b fin ff h0 (by omega) (by omega) (by omega))
    · exact fl_use (g := false) H sn_npC (ff_npC lo hi b fin ff h0 (by omega) (by omega) hc) loop_np (fg_l lo hi b fin ff H (by omega)) la_npCl (fm_npC lo hi b fin ff h0 (by omega) (by omega) (by omega))
    · exact fl_use (g := false) H sn_npD (ff_npD lo hi b fin ff h0 (by omega) (by omega) hc) loop_np (fg_l lo hi b fin ff H (by omega)) la_npDl (fm_npD lo hi b fin ff h0 (by omega) (by omega) (by omega))
    · exact fl_use (g := false) H sn_npE (ff_npE lo hi b fin ff h0 (by omega) (by omega) hc) loop_np (fg_l lo hi b fin ff H (by omega)) la_npEl (fm_np lo hi b fin ff (by omega) (by omega) (by omega))
  · rcases hc with hc | hc | hc | hc | hc
    · exact fl_use (g := false) H sn_nnA (ff_nnA lo hi b fin ff h0 (by omega) (by omega) hc) loop_nn (fg_A lo hi b fin ff H (by omega)) la_nnAl (fm_nnA lo hi b fin ff h0 (by omega) (by omega) (by omega))
    · exact fl_use (g := false) H sn_nnB (ff_nnB lo hi b fin ff h0 (by omega) (by omega) hc) loop_nn (fg_l lo hi b fin ff H (by omega)) la_nnBl (fm_nn lo hi b fin ff (by omega) (by omega) (by omega))
    · exact fl_use (g := false) H sn_nnC (ff_nnC lo hi b fin ff h0 (by omega) (by omega) hc) loop_nn (fg_l lo hi b fin ff H (by omega)) la_nnCl (fm_nn lo hi b fin ff (by omega) (by omega) (by omega))
    · exact fl_use (g := false) H sn_nnD (ff_nnD lo hi b fin ff h0 (by omega) (by omega) hc) loop_nn (fg_l lo hi b fin ff H (by omega)) la_nnDl (fm_nn lo hi b fin ff (by omega) (by omega) (by omega))
    · exact fl_use (g := false) H sn_nnE (ff_nnE lo hi b fin ff h0 (by omega) (by omega) hc) loop_nn (fg_l lo hi b fin ff H (by omega)) la_nnEl (fm_nn lo hi b fin ff (by omega) (by omega) (by omega))
theorem fo_g (lo hi b : Int) (hb : 0 ≤ b ∧ b ≤ 255) (h : lo < hi) (hl : -32768 ≤ lo) (hh : hi ≤ 32767) : Go.Va.Good Tryz.prog 3 [.int .i16 hi, .int .i16 lo, .int .u8 b] := by
  obtain ⟨fin, ff, H⟩ := fl_ex lo hi b hb (by omega) hl hh
  have h0 : 0 ≤ b % 9 ∧ b % 9 ≤ 8 := by omega
  have hc : (hi = lo + 1) ∨ (lo + 2 ≤ hi ∧ hi ≤ lo + (b % 9 + 1)) ∨ (hi = lo + (b % 9 + 1) + 1) ∨ (lo + (b % 9 + 1) + 2 ≤ hi) := by omega
  have hs : (0 ≤ lo) ∨ (lo < 0 ∧ 0 ≤ hi) ∨ (hi < 0) := by omega
  rcases hs with hs | hs | hs
  · rcases hc with hc | hc | hc | hc
    · exact fl_use (g := true) H sn_ppB (ff_ppB lo hi b fin ff h0 (by omega) (by omega) hc) loop_pp (fg_g lo hi b fin ff H (by omega)) la_ppBg (fm_pp lo hi b fin ff (by omega) (by omega) (by omega))
    · exact fl_use (g := true) H sn_ppC (ff_ppC lo hi b fin ff h0 (by omega) (by omega) hc) loop_pp (fg_g lo hi b fin ff H (by omega)) la_ppCg (fm_pp lo hi b fin ff (by omega) (by omega) (by omega))
    · exact fl_use (g := true) H sn_ppD (ff_ppD lo hi b fin ff h0 (by omega) (by omega) hc) loop_pp (fg_g lo hi b fin ff H (by omega)) la_ppDg (fm_pp lo hi b fin ff (by omega) (by omega) (by omega))
    · exact fl_use (g := true) H sn_ppE (ff_ppE lo hi b fin ff h0 (by omega) (by omega) hc) loop_pp (fg_g lo hi b fin ff H (by omega)) la_ppEg (fm_pp lo hi b fin ff (by omega) (by omega) (by omega))
  · rcases hc with hc | hc | hc | hc
    · exact fl_use (g := true) H sn_npB (ff_npB lo hi b fin ff h0 (by omega) (by omega) hc) loop_np (fg_g lo hi b fin ff H (by omega)) la_npBg (fm_npB lo hi b fin ff h0 (by omega) (by omega) (by omega))
    · exact fl_use (g := true) H sn_npC (ff_npC lo hi b fin ff h0 (by omega) (by omega) hc) loop_np (fg_g lo hi b fin ff H (by omega)) la_npCg (fm_npC lo hi b fin ff h0 (by omega) (by omega) (by omega))
    · exact fl_use (g := true) H sn_npD (ff_npD lo hi b fin ff h0 (by omega) (by omega) hc) loop_np (fg_g lo hi b fin ff H (by omega)) la_npDg (fm_npD lo hi b fin ff h0 (by omega) (by omega) (by omega))
    · exact fl_use (g := true) H sn_npE (ff_npE lo hi b fin ff h0 (by omega) (by omega) hc) loop_np (fg_g lo hi b fin ff H (by omega)) la_npEg (fm_np lo hi b fin ff (by omega) (by omega) (by omega))
  · rcases hc with hc | hc | hc | hc
    · exact fl_use (g := true) H sn_nnB (ff_nnB lo hi b fin ff h0 (by omega) (by omega) hc) loop_nn (fg_g lo hi b fin ff H (by omega)) la_nnBg (fm_nn lo hi b fin ff (by omega) (by omega) (by omega))
    · exact fl_use (g := true) H sn_nnC (ff_nnC lo hi b fin ff h0 (by omega) (by omega) hc) loop_nn (fg_g lo hi b fin ff H (by omega)) la_nnCg (fm_nn lo hi b fin ff (by omega) (by omega) (by omega))
    · exact fl_use (g := true) H sn_nnD (ff_nnD lo hi b fin ff h0 (by omega) (by omega) hc) loop_nn (fg_g lo hi b fin ff H (by omega)) la_nnDg (fm_nn lo hi b fin ff (by omega) (by omega) (by omega))
    · exact fl_use (g := true) H sn_nnE (ff_nnE lo hi b fin ff h0 (by omega) (by omega) hc) loop_nn (fg_g lo hi b fin ff H (by omega)) la_nnEg (fm_nn lo hi b fin ff (by omega) (by omega) (by omega))
theorem fl_good (u v b : Int) (hu : -32768 ≤ u ∧ u ≤ 32767) (hv : -32768 ≤ v ∧ v ≤ 32767) (hb : 0 ≤ b ∧ b ≤ 255) : Go.Va.Good Tryz.prog 3 [.int .i16 u, .int .i16 v, .int .u8 b] := by
  rcases (by omega : v < u ∨ u ≤ v) with h | h
  · exact fo_g v u b hb h (by omega) (by omega)
  · exact fo_l u v b hb h (by omega) (by omega)
end Go.Proofs.YtaaedipojhnjjaaGreat
namespace Go.Proofs.YtaaedipojhnjjaaGreat.fixLoops
open Go Go.Sh Go.Va Go.ChangeShapes Go.WideShapes Go.ChangeAt Go.RowKit

set_option maxRecDepth 100000 in
theorem lifted (os : Os) (started : os.Started) (H : Type) (enc : TypeId × Value → H) :
    ReturnsInHanded {} Tryz.checked os 3 .any (Rows.fixLoopsSpec.pre6 enc Tryz.prog Tryz.f3 Rows.fixLoopsRow.domain false) (Rows.fixLoopsSpec.post enc Tryz.prog Tryz.f3 false true false false) := by
  refine returnsInHanded_of_change (C := Tryz.checked) Fw.own started (by kernel_rfl) Tryz.func3
    (ChangeSpec.witness6 (enc := enc) (C := Tryz.checked) false ⟨#[], #[.int .i16 0, .int .i16 0, .int .u8 0], []⟩ 8 (by kernel_rfl) (by kernel_rfl) (by kernel_rfl) (by kernel_rfl)) ?_
  intro W base args ds gs before hval0 hW hcnd _
  have hval : ∀ (j : Nat) t v, Tryz.f3.params[j]? = some t → args[j]? = some v → Value.okWide Tryz.prog W .any base t v := hval0
  have hW' := hW
  obtain ⟨p, q, hA0, hV, rfl, hfz, hnd⟩ := hW
  have hA : DataW.TrodAll enc Tryz.prog W 0 (fun _ => true) true Tryz.f3.params.toList args.toList ds p := hA0
  rw [Tryz.params3] at hA hval
  obtain ⟨v0, vs0, d0, ds0, p0, q0, hargs, rfl, rfl, hd0, r0⟩ := trodAll_cons hA
  obtain ⟨v1, vs1, d1, ds1, p1, q1, rfl, rfl, rfl, hd1, r1⟩ := trodAll_cons r0
  obtain ⟨v2, vs2, d2, ds2, p2, q2, rfl, rfl, rfl, hd2, r2⟩ := trodAll_cons r1
  obtain ⟨rfl, rfl, rfl⟩ := trodAll_nil r2
  obtain rfl : args = #[v0, v1, v2] := by cases args; simp_all
  obtain ⟨rfl, rfl⟩ := trodVars_none hV
  obtain ⟨x0, rfl, w0⟩ := Fw.int_in hd0 Tryz.underlying22 (okWide_int Tryz.underlying22 (hval 0 22 v0 rfl rfl))
  have h0 := bounds_i16 w0
  obtain ⟨x1, rfl, w1⟩ := Fw.int_in hd1 Tryz.underlying22 (okWide_int Tryz.underlying22 (hval 1 22 v1 rfl rfl))
  have h1 := bounds_i16 w1
  obtain ⟨x2, rfl, w2⟩ := Fw.int_in hd2 Tryz.underlying5 (okWide_int Tryz.underlying5 (hval 2 5 v2 rfl rfl))
  have h2 := bounds_u8 w2
  have hrun := fl_good x0 x1 x2 h0 h1 h2
  refine (hrun W).mono ?_
  rintro e W' ⟨rfl, hs, hx⟩
  refine ⟨_, rfl, law_post Fw.laidOut Fw.rowed Fw.full ?_ rfl rfl rfl rfl rfl Tryz.underlying4 hW' hs hx⟩
  rw [Tryz.params3]
  decide

theorem k1 : Tryz.pinned.checked.prog.funcNamed Rows.fixLoopsRow.func = some 3 := by kernel_rfl
theorem k2 : joinedFacts Tryz.pinned.checked.prog 3 Tryz.f3 Rows.fixLoopsSpec Rows.fixLoopsRow = true := by kernel_rfl

theorem over : Rows.fixLoopsRow.holds Tryz.pinned (OpenSpec.ofChange Rows.fixLoopsSpec) :=
  OpenClaim.holds_of_wide 3 Tryz.f3 rfl rfl rfl rfl rfl rfl rfl ⟨rfl, rfl, rfl, rfl, rfl⟩ rfl rfl rfl rfl rfl k1 Tryz.func3 k2
    (of_decide_eq_true (by kernel_rfl)) (by unfold Func.isWrapper; first | (rw [if_pos (by decide +kernel)]; kernel_rfl) | (rw [if_neg (by decide +kernel)]; exact ⟨rfl, rfl⟩))
    (fun os started H enc _ => lifted os started H enc)

/-- The statement. -/
theorem proved : Rows.FixLoopsSaid :=
  over
#print axioms proved
end Go.Proofs.YtaaedipojhnjjaaGreat.fixLoops
