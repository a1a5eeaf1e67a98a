/- For every input 'MoveStores' returns true, and its arguments read behind the call as they did before; under no condition. -/
import Derived.Test.YthhgdgdbdogcbaaGreatMs
import Derived.Test.YthhgdgdbdogcbaaGreatFw
set_option linter.unusedVariables false
namespace Go.Proofs.YthhgdgdbdogcbaaGreat.moveStores
open Go Go.Sh Go.Va Go.ChangeShapes Go.WideShapes Go.ChangeAt Go.RowKit

set_option maxRecDepth 100000 in
theorem lifted (os : Os) (started : os.Started) (H : Type) (enc : TypeId × Value → H) :
    ReturnsInHanded {} Tryz.checked os 3 .any (Rows.moveStoresSpec.pre6 enc Tryz.prog Tryz.f3 Rows.moveStoresRow.domain false) (Rows.moveStoresSpec.post enc Tryz.prog Tryz.f3 false true false false) := by
  refine returnsInHanded_of_change (C := Tryz.checked) Fw.own started (by kernel_rfl) Tryz.func3
    (ChangeSpec.witness6 (enc := enc) (C := Tryz.checked) false ⟨#[], #[.int .i64 0, .int .i64 0, .int .i64 0, .bool false, .bool false], []⟩ 8 (by kernel_rfl) (by kernel_rfl) (by kernel_rfl) (by kernel_rfl)) ?_
  intro W base args ds gs before hval0 hW hcnd _
  have hval : ∀ (j : Nat) t v, Tryz.f3.params[j]? = some t → args[j]? = some v → Value.okWide Tryz.prog W .any base t v := hval0
  have hW' := hW
  obtain ⟨p, q, hA0, hV, rfl, hfz, hnd⟩ := hW
  have hA : DataW.TrodAll enc Tryz.prog W 0 (fun _ => true) true Tryz.f3.params.toList args.toList ds p := hA0
  rw [Tryz.params3] at hA hval
  obtain ⟨v0, vs0, d0, ds0, p0, q0, hargs, rfl, rfl, hd0, r0⟩ := trodAll_cons hA
  obtain ⟨v1, vs1, d1, ds1, p1, q1, rfl, rfl, rfl, hd1, r1⟩ := trodAll_cons r0
  obtain ⟨v2, vs2, d2, ds2, p2, q2, rfl, rfl, rfl, hd2, r2⟩ := trodAll_cons r1
  obtain ⟨v3, vs3, d3, ds3, p3, q3, rfl, rfl, rfl, hd3, r3⟩ := trodAll_cons r2
  obtain ⟨v4, vs4, d4, ds4, p4, q4, rfl, rfl, rfl, hd4, r4⟩ := trodAll_cons r3
  obtain ⟨rfl, rfl, rfl⟩ := trodAll_nil r4
  obtain rfl : args = #[v0, v1, v2, v3, v4] := by cases args; simp_all
  obtain ⟨rfl, rfl⟩ := trodVars_none hV
  obtain ⟨x0, rfl, w0⟩ := Fw.int_in hd0 Tryz.underlying2 (okWide_int Tryz.underlying2 (hval 0 2 v0 rfl rfl))
  have h0 := bounds_i64 w0
  obtain ⟨x1, rfl, w1⟩ := Fw.int_in hd1 Tryz.underlying2 (okWide_int Tryz.underlying2 (hval 1 2 v1 rfl rfl))
  have h1 := bounds_i64 w1
  obtain ⟨x2, rfl, w2⟩ := Fw.int_in hd2 Tryz.underlying2 (okWide_int Tryz.underlying2 (hval 2 2 v2 rfl rfl))
  have h2 := bounds_i64 w2
  obtain ⟨x3, rfl⟩ := okWide_bool Tryz.underlying4 (hval 3 4 v3 rfl rfl)
  obtain ⟨x4, rfl⟩ := okWide_bool Tryz.underlying4 (hval 4 4 v4 rfl rfl)
  have hrun := ms_run x0 x1 x2 x3 x4 h0 h1 h2
  refine (runs_ok tab_ok hrun (vs := [.int .i64 x0, .int .i64 x1, .int .i64 x2, .bool x3, .bool x4]) rfl W Tryz.call3).mono ?_
  rintro e W' ⟨rfl, hs, hx⟩
  refine ⟨_, rfl, law_post Fw.laidOut Fw.rowed Fw.full ?_ rfl rfl rfl rfl rfl Tryz.underlying4 hW' hs hx⟩
  rw [Tryz.params3]
  decide

theorem over : Rows.moveStoresRow.holds Tryz.pinned (OpenSpec.ofChange Rows.moveStoresSpec) :=
  OpenClaim.holds_of_wide 3 Tryz.f3 rfl rfl rfl rfl rfl rfl rfl ⟨rfl, rfl, rfl, rfl, rfl⟩ rfl rfl rfl rfl rfl (by kernel_rfl) Tryz.func3 (by kernel_rfl)
    (of_decide_eq_true (by kernel_rfl)) (by unfold Func.isWrapper; first | (rw [if_pos (by decide +kernel)]; kernel_rfl) | (rw [if_neg (by decide +kernel)]; exact ⟨rfl, rfl⟩))
    (fun os started H enc _ => lifted os started H enc)

/-- The statement. -/
theorem proved : Rows.MoveStoresSaid :=
  over
#print axioms proved
end Go.Proofs.YthhgdgdbdogcbaaGreat.moveStores
