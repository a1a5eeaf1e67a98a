/- For every input 'CompRounds' returns true, and its arguments read behind the call as they did before; under no condition. -/
import Derived.Test.YtojhofdndohhdaaGreatCe
import Derived.Test.YtojhofdndohhdaaGreatFw
import Derived.Test.YtojhofdndohhdaaGreatKk
set_option linter.unusedVariables false
namespace Go.Proofs.YtojhofdndohhdaaGreat.compRounds
open Go Go.Sh Go.Va Go.ChangeShapes Go.WideShapes Go.ChangeAt Go.RowKit

set_option maxRecDepth 100000 in
theorem lifted (os : Os) (started : os.Started) (H : Type) (enc : TypeId × Value → H) :
    ReturnsInHanded {} Tryz.checked os 3 .any (Rows.compRoundsSpec.pre6 enc Tryz.prog Tryz.f3 Rows.compRoundsRow.domain false) (Rows.compRoundsSpec.post enc Tryz.prog Tryz.f3 false true false false) := by
  refine returnsInHanded_of_change (C := Tryz.checked) Fw.own started (by kernel_rfl) Tryz.func3
    (ChangeSpec.witness6 (enc := enc) (C := Tryz.checked) false ⟨#[], #[.int .u8 0, .int .u8 0], []⟩ 8 (by kernel_rfl) (by kernel_rfl) (by kernel_rfl) (by kernel_rfl)) ?_
  intro W base args ds gs before hval0 hW hcnd _
  have hval : ∀ (j : Nat) t v, Tryz.f3.params[j]? = some t → args[j]? = some v → Value.okWide Tryz.prog W .any base t v := hval0
  have hW' := hW
  obtain ⟨p, q, hA0, hV, rfl, hfz, hnd⟩ := hW
  have hA : DataW.TrodAll enc Tryz.prog W 0 (fun _ => true) true Tryz.f3.params.toList args.toList ds p := hA0
  rw [Tryz.params3] at hA hval
  obtain ⟨v0, vs0, d0, ds0, p0, q0, hargs, rfl, rfl, hd0, r0⟩ := trodAll_cons hA
  obtain ⟨v1, vs1, d1, ds1, p1, q1, rfl, rfl, rfl, hd1, r1⟩ := trodAll_cons r0
  obtain ⟨rfl, rfl, rfl⟩ := trodAll_nil r1
  obtain rfl : args = #[v0, v1] := by cases args; simp_all
  obtain ⟨rfl, rfl⟩ := trodVars_none hV
  obtain ⟨x0, rfl, w0⟩ := Fw.int_in hd0 Tryz.underlying5 (okWide_int Tryz.underlying5 (hval 0 5 v0 rfl rfl))
  have h0 := bounds_u8 w0
  obtain ⟨x1, rfl, w1⟩ := Fw.int_in hd1 Tryz.underlying5 (okWide_int Tryz.underlying5 (hval 1 5 v1 rfl rfl))
  have h1 := bounds_u8 w1
  have hrun := cr_good x0 x1 h0 h1
  refine (hrun W).mono ?_
  rintro e W' ⟨rfl, hs, hx⟩
  refine ⟨_, rfl, law_post Fw.laidOut Fw.rowed Fw.full ?_ rfl rfl rfl rfl rfl Tryz.underlying4 hW' hs hx⟩
  rw [Tryz.params3]
  decide

theorem k1 : Tryz.pinned.checked.prog.funcNamed Rows.compRoundsRow.func = some 3 := by kernel_rfl

theorem over : Rows.compRoundsRow.holds Tryz.pinned (OpenSpec.ofChange Rows.compRoundsSpec) :=
  OpenClaim.holds_of_wide 3 Tryz.f3 rfl rfl rfl rfl rfl rfl rfl ⟨rfl, rfl, rfl, rfl, rfl⟩ rfl rfl rfl rfl rfl k1 Tryz.func3 k2
    (of_decide_eq_true (by kernel_rfl)) (by unfold Func.isWrapper; first | (rw [if_pos (by decide +kernel)]; kernel_rfl) | (rw [if_neg (by decide +kernel)]; exact ⟨rfl, rfl⟩))
    (fun os started H enc _ => lifted os started H enc)

/-- The statement. -/
theorem proved : Rows.CompRoundsSaid :=
  over
#print axioms proved
end Go.Proofs.YtojhofdndohhdaaGreat.compRounds
