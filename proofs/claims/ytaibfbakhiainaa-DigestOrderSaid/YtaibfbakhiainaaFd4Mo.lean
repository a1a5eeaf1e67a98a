/- For every input 'DigestOrder' returns true, and its arguments read behind the call as they did before; under no condition. -/
import Derived.Test.YtaibfbakhiainaaMoE
set_option linter.unusedVariables false
namespace Go.Proofs.Ytaibfbakhiainaa.digestOrder
open Go Go.Sh Go.ChangeShapes Go.WideShapes Go.ChangeAt Go.RowKit

set_option maxRecDepth 100000 in
theorem lifted (os : Os) (started : os.Started) (H : Type) (enc : TypeId × Value → H) :
    ReturnsInHanded {} Try.checked os 3 .any (Rows.digestOrderSpec.pre6 enc Try.prog Try.f3 Rows.digestOrderRow.domain false) (Rows.digestOrderSpec.post enc Try.prog Try.f3 false true false false) := by
  refine returnsInHanded_of_change (C := Try.checked) Fu.own started (by kernel_rfl) Try.func3
    (ChangeSpec.witness6 (enc := enc) (C := Try.checked) false ⟨#[], #[.agg #[.slice none 0 0, .bool false, .int .i64 0, .int .i64 0, .slice none 0 0], .agg #[.slice none 0 0, .bool false, .int .i64 0, .int .i64 0, .slice none 0 0], .agg #[.slice none 0 0, .bool false, .int .i64 0, .int .i64 0, .slice none 0 0]], []⟩ 8 (by kernel_rfl) (by kernel_rfl) (by kernel_rfl) (by kernel_rfl)) ?_
  intro W base args ds gs before hval0 hW hcnd _
  have hval : ∀ (j : Nat) t v, Try.f3.params[j]? = some t → args[j]? = some v → Value.okWide Try.prog W .any base t v := hval0
  have hW' := hW
  obtain ⟨p, q, hA0, hV, rfl, hfz, hnd⟩ := hW
  have hA : DataW.TrodAll enc Try.prog W 0 (fun _ => true) true Try.f3.params.toList args.toList ds p := hA0
  rw [Try.params3] at hA hval
  obtain ⟨v0, vs0, d0, ds0, p0, q0, hargs, rfl, rfl, h0, r0⟩ := trodAll_cons hA
  obtain ⟨v1, vs1, d1, ds1, p1, q1, rfl, rfl, rfl, h1, r1⟩ := trodAll_cons r0
  obtain ⟨v2, vs2, d2, ds2, p2, q2, rfl, rfl, rfl, h2, r2⟩ := trodAll_cons r1
  obtain ⟨rfl, rfl, rfl⟩ := trodAll_nil r2
  obtain rfl : args = #[v0, v1, v2] := by cases args; simp_all
  obtain ⟨rfl, rfl⟩ := trodVars_none hV
  obtain ⟨a0, x0, y0, rfl, rx0, ry0, ok0⟩ := Fu.raw_in (hval 0 25 v0 rfl rfl) h0
  obtain ⟨a1, x1, y1, rfl, rx1, ry1, ok1⟩ := Fu.raw_in (hval 1 25 v1 rfl rfl) h1
  obtain ⟨a2, x2, y2, rfl, rx2, ry2, ok2⟩ := Fu.raw_in (hval 2 25 v2 rfl rfl) h2
  refine (Fu.ended (w_augurlaw19_DigestOrder (Sf.start W.heap) rx0 ry0 rx1 ry1 rx2 ry2 (s_Order ok0 ok1 ok2))).mono ?_
  rintro e W' ⟨v, rfl, hs, F', r, g, s, rfl, rfl⟩
  refine ⟨_, rfl, law_post Fu.laidOut Fu.rowed Fu.full ?_ rfl rfl rfl rfl rfl Try.underlying4 hW' hs (fit_ext (s.fit.le g))⟩
  rw [Try.params3]
  decide

theorem over : Rows.digestOrderRow.holds Try.pinned (OpenSpec.ofChange Rows.digestOrderSpec) :=
  OpenClaim.holds_of_wide 3 Try.f3 rfl rfl rfl rfl rfl rfl rfl ⟨rfl, rfl, rfl, rfl, rfl⟩ rfl rfl rfl rfl rfl (by kernel_rfl) Try.func3 (by kernel_rfl)
    (of_decide_eq_true (by kernel_rfl)) (by unfold Func.isWrapper; first | (rw [if_pos (by decide +kernel)]; kernel_rfl) | (rw [if_neg (by decide +kernel)]; exact ⟨rfl, rfl⟩))
    (fun os started H enc _ => lifted os started H enc)

/-- The statement. -/
theorem proved : Rows.DigestOrderSaid :=
  over
#print axioms proved
end Go.Proofs.Ytaibfbakhiainaa.digestOrder
