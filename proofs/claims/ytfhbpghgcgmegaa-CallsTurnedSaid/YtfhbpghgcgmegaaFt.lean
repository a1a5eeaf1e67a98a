/- For every input 'CallsTurned' returns true, and its arguments read behind the call as they did before; under no condition. -/
import Derived.Test.YtfhbpghgcgmegaaC22
import Derived.Test.YtfhbpghgcgmegaaFu
set_option linter.unusedVariables false
namespace Go.Proofs.Ytfhbpghgcgmegaa.callsTurned
open Go Go.Sh Go.ChangeShapes Go.WideShapes Go.ChangeAt Go.RowKit

set_option maxRecDepth 100000 in
theorem lifted (os : Os) (started : os.Started) (H : Type) (enc : TypeId × Value → H) :
    ReturnsInHanded {} Try.checked os 4 .any (Rows.callsTurnedSpec.pre6 enc Try.prog Try.f4 Rows.callsTurnedRow.domain false) (Rows.callsTurnedSpec.post enc Try.prog Try.f4 false true false false) := by
  refine returnsInHanded_of_change (C := Try.checked) Fu.own started (by kernel_rfl) Try.func4
    (ChangeSpec.witness6 (enc := enc) (C := Try.checked) false ⟨#[], #[.int .u8 0, .slice none 0 0, .int .u8 0], []⟩ 8 (by kernel_rfl) (by kernel_rfl) (by kernel_rfl) (by kernel_rfl)) ?_
  intro W base args ds gs before hval0 hW hcnd _
  have hval : ∀ (j : Nat) t v, Try.f4.params[j]? = some t → args[j]? = some v → Value.okWide Try.prog W .any base t v := hval0
  have hW' := hW
  obtain ⟨p, q, hA0, hV, rfl, hfz, hnd⟩ := hW
  have hA : DataW.TrodAll enc Try.prog W 0 (fun _ => true) true Try.f4.params.toList args.toList ds p := hA0
  rw [Try.params4] at hA hval
  obtain ⟨v0, vs0, d0, ds0, p0, q0, hargs, rfl, rfl, h0, r0⟩ := trodAll_cons hA
  obtain ⟨v1, vs1, d1, ds1, p1, q1, rfl, rfl, rfl, h1, r1⟩ := trodAll_cons r0
  obtain ⟨v2, vs2, d2, ds2, p2, q2, rfl, rfl, rfl, h2, r2⟩ := trodAll_cons r1
  obtain ⟨rfl, rfl, rfl⟩ := trodAll_nil r2
  obtain rfl : args = #[v0, v1, v2] := by cases args; simp_all
  obtain ⟨rfl, rfl⟩ := trodVars_none hV
  obtain ⟨a0, rfl, rfl, rfl, w0⟩ := open_int Try.underlying5 (hval 0 5 v0 rfl rfl) h0
  obtain ⟨a2, rfl, rfl, rfl, w2⟩ := open_int Try.underlying5 (hval 2 5 v2 rfl rfl) h2
  obtain ⟨n0, b0, rfl⟩ := Fu.nat_of_u8 w0
  obtain ⟨n2, b2, rfl⟩ := Fu.nat_of_u8 w2
  obtain ⟨l, hx, hr⟩ := Fu.u16s_in (hval 1 22 v1 rfl rfl) h1
  refine (turned_ok hr b0 b2 hx W rfl).mono ?_
  rintro e W' ⟨v, rfl, hs, rfl, hx⟩
  refine ⟨_, rfl, law_post Fu.laidOut Fu.rowed Fu.full ?_ rfl rfl rfl rfl rfl Try.underlying4 hW' hs hx⟩
  rw [Try.params4]
  decide

theorem over : Rows.callsTurnedRow.holds Try.pinned (OpenSpec.ofChange Rows.callsTurnedSpec) :=
  OpenClaim.holds_of_wide 4 Try.f4 rfl rfl rfl rfl rfl rfl rfl ⟨rfl, rfl, rfl, rfl, rfl⟩ rfl rfl rfl rfl rfl (by kernel_rfl) Try.func4 (by kernel_rfl)
    (of_decide_eq_true (by kernel_rfl)) (by unfold Func.isWrapper; first | (rw [if_pos (by decide +kernel)]; kernel_rfl) | (rw [if_neg (by decide +kernel)]; exact ⟨rfl, rfl⟩))
    (fun os started H enc _ => lifted os started H enc)

/-- The statement. -/
theorem proved : Rows.CallsTurnedSaid :=
  over
#print axioms proved
end Go.Proofs.Ytfhbpghgcgmegaa.callsTurned
