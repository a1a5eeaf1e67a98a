/- For every input 'DigestTells' returns true, and its arguments read behind the call as they did before; under no condition. -/
import Derived.Test.YtaibfbakhiainaaGreatMtE
set_option linter.unusedVariables false
namespace Go.Proofs.YtaibfbakhiainaaGreat.digestTells
open Go Go.Sh Go.ChangeShapes Go.WideShapes Go.ChangeAt Go.RowKit

set_option maxRecDepth 100000 in
theorem lifted (os : Os) (started : os.Started) (H : Type) (enc : TypeId × Value → H) :
    ReturnsInHanded {} Tryz.checked os 3 .any (Rows.digestTellsSpec.pre6 enc Tryz.prog Tryz.f3 Rows.digestTellsRow.domain false) (Rows.digestTellsSpec.post enc Tryz.prog Tryz.f3 false true false false) := by
  refine returnsInHanded_of_change (C := Tryz.checked) Fu.own started (by kernel_rfl) Tryz.func3
    (ChangeSpec.witness6 (enc := enc) (C := Tryz.checked) false ⟨#[], #[.agg #[.slice none 0 0, .bool false, .int .i64 0, .int .i64 0, .slice none 0 0], .agg #[.slice none 0 0, .bool false, .int .i64 0, .int .i64 0, .slice none 0 0]], []⟩ 8 (by kernel_rfl) (by kernel_rfl) (by kernel_rfl) (by kernel_rfl)) ?_
  intro W base args ds gs before hval0 hW hcnd _
  have hval : ∀ (j : Nat) t v, Tryz.f3.params[j]? = some t → args[j]? = some v → Value.okWide Tryz.prog W .any base t v := hval0
  have hW' := hW
  obtain ⟨p, q, hA0, hV, rfl, hfz, hnd⟩ := hW
  have hA : DataW.TrodAll enc Tryz.prog W 0 (fun _ => true) true Tryz.f3.params.toList args.toList ds p := hA0
  rw [Tryz.params3] at hA hval
  obtain ⟨v0, vs0, d0, ds0, p0, q0, hargs, rfl, rfl, h0, r0⟩ := trodAll_cons hA
  obtain ⟨v1, vs1, d1, ds1, p1, q1, rfl, rfl, rfl, h1, r1⟩ := trodAll_cons r0
  obtain ⟨rfl, rfl, rfl⟩ := trodAll_nil r1
  obtain rfl : args = #[v0, v1] := by cases args; simp_all
  obtain ⟨rfl, rfl⟩ := trodVars_none hV
  obtain ⟨a0, x0, y0, rfl, rx0, ry0, ok0⟩ := Fu.raw_in (hval 0 25 v0 rfl rfl) h0
  obtain ⟨a1, x1, y1, rfl, rx1, ry1, ok1⟩ := Fu.raw_in (hval 1 25 v1 rfl rfl) h1
  refine (Fu.ended (w_augurlaw19_DigestTells (Sf.start W.heap) rx0 ry0 rx1 ry1 (s_Tells ok0 ok1))).mono ?_
  rintro e W' ⟨v, rfl, hs, F', r, g, s, rfl, rfl⟩
  refine ⟨_, rfl, law_post Fu.laidOut Fu.rowed Fu.full ?_ rfl rfl rfl rfl rfl Tryz.underlying4 hW' hs (fit_ext (s.fit.le g))⟩
  rw [Tryz.params3]
  decide

theorem over : Rows.digestTellsRow.holds Tryz.pinned (OpenSpec.ofChange Rows.digestTellsSpec) :=
  OpenClaim.holds_of_wide 3 Tryz.f3 rfl rfl rfl rfl rfl rfl rfl ⟨rfl, rfl, rfl, rfl, rfl⟩ rfl rfl rfl rfl rfl (by kernel_rfl) Tryz.func3 (by kernel_rfl)
    (of_decide_eq_true (by kernel_rfl)) (by unfold Func.isWrapper; first | (rw [if_pos (by decide +kernel)]; kernel_rfl) | (rw [if_neg (by decide +kernel)]; exact ⟨rfl, rfl⟩))
    (fun os started H enc _ => lifted os started H enc)

/-- The statement. -/
theorem proved : Rows.DigestTellsSaid :=
  over
#print axioms proved
end Go.Proofs.YtaibfbakhiainaaGreat.digestTells
