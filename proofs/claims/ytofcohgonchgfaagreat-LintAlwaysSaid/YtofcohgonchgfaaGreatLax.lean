/- For every input 'LintAlways' returns true, and its arguments read behind the call as they did before; under no condition. -/
import Derived.Test.YtofcohgonchgfaaGreatLe
import Derived.Test.YtofcohgonchgfaaGreatFw
set_option linter.unusedVariables false
namespace Go.Proofs.YtofcohgonchgfaaGreat.lintAlways
open Go Go.Sh Go.Va Go.ChangeShapes Go.WideShapes Go.ChangeAt Go.RowKit

set_option maxRecDepth 100000 in
theorem lifted (os : Os) (started : os.Started) (H : Type) (enc : TypeId × Value → H) :
    ReturnsInHanded {} Tryz.checked os 4 .any (Rows.lintAlwaysSpec.pre6 enc Tryz.prog Tryz.f4 Rows.lintAlwaysRow.domain false) (Rows.lintAlwaysSpec.post enc Tryz.prog Tryz.f4 false true false false) := by
  refine returnsInHanded_of_change (C := Tryz.checked) Fw.own started (by kernel_rfl) Tryz.func4
    (ChangeSpec.witness6 (enc := enc) (C := Tryz.checked) false ⟨#[], #[.int .i8 0, .int .i8 0, .int .u8 0, .int .u8 0], []⟩ 8 (by kernel_rfl) (by kernel_rfl) (by kernel_rfl) (by kernel_rfl)) ?_
  intro W base args ds gs before hval0 hW hcnd _
  have hval : ∀ (j : Nat) t v, Tryz.f4.params[j]? = some t → args[j]? = some v → Value.okWide Tryz.prog W .any base t v := hval0
  have hW' := hW
  obtain ⟨p, q, hA0, hV, rfl, hfz, hnd⟩ := hW
  have hA : DataW.TrodAll enc Tryz.prog W 0 (fun _ => true) true Tryz.f4.params.toList args.toList ds p := hA0
  rw [Tryz.params4] at hA hval
  obtain ⟨v0, vs0, d0, ds0, p0, q0, hargs, rfl, rfl, hd0, r0⟩ := trodAll_cons hA
  obtain ⟨v1, vs1, d1, ds1, p1, q1, rfl, rfl, rfl, hd1, r1⟩ := trodAll_cons r0
  obtain ⟨v2, vs2, d2, ds2, p2, q2, rfl, rfl, rfl, hd2, r2⟩ := trodAll_cons r1
  obtain ⟨v3, vs3, d3, ds3, p3, q3, rfl, rfl, rfl, hd3, r3⟩ := trodAll_cons r2
  obtain ⟨rfl, rfl, rfl⟩ := trodAll_nil r3
  obtain rfl : args = #[v0, v1, v2, v3] := by cases args; simp_all
  obtain ⟨rfl, rfl⟩ := trodVars_none hV
  obtain ⟨x0, rfl, w0⟩ := Fw.int_in hd0 Tryz.underlying43 (okWide_int Tryz.underlying43 (hval 0 43 v0 rfl rfl))
  have h0 := bounds_i8 w0
  obtain ⟨x1, rfl, w1⟩ := Fw.int_in hd1 Tryz.underlying43 (okWide_int Tryz.underlying43 (hval 1 43 v1 rfl rfl))
  have h1 := bounds_i8 w1
  obtain ⟨x2, rfl, w2⟩ := Fw.int_in hd2 Tryz.underlying5 (okWide_int Tryz.underlying5 (hval 2 5 v2 rfl rfl))
  have h2 := bounds_u8 w2
  obtain ⟨x3, rfl, w3⟩ := Fw.int_in hd3 Tryz.underlying5 (okWide_int Tryz.underlying5 (hval 3 5 v3 rfl rfl))
  have h3 := bounds_u8 w3
  have hrun := la_good x0 x1 x2 x3 h0 h1 h2 h3
  refine (hrun W).mono ?_
  rintro e W' ⟨rfl, hs, hx⟩
  refine ⟨_, rfl, law_post Fw.laidOut Fw.rowed Fw.full ?_ rfl rfl rfl rfl rfl Tryz.underlying4 hW' hs hx⟩
  rw [Tryz.params4]
  decide

theorem k1 : Tryz.pinned.checked.prog.funcNamed Rows.lintAlwaysRow.func = some 4 := by kernel_rfl
theorem k2 : joinedFacts Tryz.pinned.checked.prog 4 Tryz.f4 Rows.lintAlwaysSpec Rows.lintAlwaysRow = true := by kernel_rfl

theorem over : Rows.lintAlwaysRow.holds Tryz.pinned (OpenSpec.ofChange Rows.lintAlwaysSpec) :=
  OpenClaim.holds_of_wide 4 Tryz.f4 rfl rfl rfl rfl rfl rfl rfl ⟨rfl, rfl, rfl, rfl, rfl⟩ rfl rfl rfl rfl rfl k1 Tryz.func4 k2
    (of_decide_eq_true (by kernel_rfl)) (by unfold Func.isWrapper; first | (rw [if_pos (by decide +kernel)]; kernel_rfl) | (rw [if_neg (by decide +kernel)]; exact ⟨rfl, rfl⟩))
    (fun os started H enc _ => lifted os started H enc)

/-- The statement. -/
theorem proved : Rows.LintAlwaysSaid :=
  over
#print axioms proved
end Go.Proofs.YtofcohgonchgfaaGreat.lintAlways
