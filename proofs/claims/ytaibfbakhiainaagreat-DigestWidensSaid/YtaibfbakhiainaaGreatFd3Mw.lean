/- For every input 'DigestWidens' returns true, and its arguments read behind the call as they did before; under no condition. -/
import Derived.Test.YtaibfbakhiainaaGreatMwE
set_option linter.unusedVariables false
namespace Go.Proofs.YtaibfbakhiainaaGreat.digestWidens
open Go Go.Sh Go.ChangeShapes Go.WideShapes Go.ChangeAt Go.RowKit

set_option maxRecDepth 100000 in
theorem raws_in {H : Type} {enc : TypeId × Value → H} {W : World} {r : Reach} {b0 base : Nat} {sp : Nat → Bool} {held : Bool} {v : Value} {d : DataW H} {ps : List MemPlace}
    (hval : Value.okWide Tryz.prog W r b0 41 v) (hd : DataW.Trod enc Tryz.prog W base sp held 41 v d ps) :
    ∃ l : List T_augurlaw19_Raw, RL e_augurlaw19_Raw (vw W.heap) v l ∧ ∀ a ∈ l, RawOk a := by
  obtain ⟨a0, len, cap, rfl⟩ := okWide_slice Tryz.underlying41 hval
  obtain ⟨fuel, hf⟩ := hd
  obtain ⟨l, ⟨v', he, rl⟩, ok⟩ := (opn_slice (t := 41) (by kernel_rfl) opn_augurlaw19_Raw).run hf
  simp only [Value.cells, List.cons.injEq, and_true] at he
  subst he
  exact ⟨l, rl, fun a ha => Fu.rawOk (ok a ha)⟩
set_option maxRecDepth 100000 in
theorem lifted (os : Os) (started : os.Started) (H : Type) (enc : TypeId × Value → H) :
    ReturnsInHanded {} Tryz.checked os 5 .any (Rows.digestWidensSpec.pre6 enc Tryz.prog Tryz.f5 Rows.digestWidensRow.domain false) (Rows.digestWidensSpec.post enc Tryz.prog Tryz.f5 false true false false) := by
  refine returnsInHanded_of_change (C := Tryz.checked) Fu.own started (by kernel_rfl) Tryz.func5
    (ChangeSpec.witness6 (enc := enc) (C := Tryz.checked) false ⟨#[], #[.slice none 0 0], []⟩ 8 (by kernel_rfl) (by kernel_rfl) (by kernel_rfl) (by kernel_rfl)) ?_
  intro W base args ds gs before hval0 hW hcnd _
  have hval : ∀ (j : Nat) t v, Tryz.f5.params[j]? = some t → args[j]? = some v → Value.okWide Tryz.prog W .any base t v := hval0
  have hW' := hW
  obtain ⟨p, q, hA0, hV, rfl, hfz, hnd⟩ := hW
  have hA : DataW.TrodAll enc Tryz.prog W 0 (fun _ => true) true Tryz.f5.params.toList args.toList ds p := hA0
  rw [Tryz.params5] at hA hval
  obtain ⟨v0, vs0, d0, ds0, p0, q0, hargs, rfl, rfl, h0, r0⟩ := trodAll_cons hA
  obtain ⟨rfl, rfl, rfl⟩ := trodAll_nil r0
  obtain rfl : args = #[v0] := by cases args; simp_all
  obtain ⟨rfl, rfl⟩ := trodVars_none hV
  obtain ⟨a0, rl0, ok0⟩ := raws_in (hval 0 41 v0 rfl rfl) h0
  refine (Fu.ended (w_augurlaw19_DigestWidens (Sf.start W.heap) rl0 (s_Widens ok0))).mono ?_
  rintro e W' ⟨v, rfl, hs, F', r, g, s, rfl, rfl⟩
  refine ⟨_, rfl, law_post Fu.laidOut Fu.rowed Fu.full ?_ rfl rfl rfl rfl rfl Tryz.underlying4 hW' hs (fit_ext (s.fit.le g))⟩
  rw [Tryz.params5]
  decide

theorem over : Rows.digestWidensRow.holds Tryz.pinned (OpenSpec.ofChange Rows.digestWidensSpec) :=
  OpenClaim.holds_of_wide 5 Tryz.f5 rfl rfl rfl rfl rfl rfl rfl ⟨rfl, rfl, rfl, rfl, rfl⟩ rfl rfl rfl rfl rfl (by kernel_rfl) Tryz.func5 (by kernel_rfl)
    (of_decide_eq_true (by kernel_rfl)) (by unfold Func.isWrapper; first | (rw [if_pos (by decide +kernel)]; kernel_rfl) | (rw [if_neg (by decide +kernel)]; exact ⟨rfl, rfl⟩))
    (fun os started H enc _ => lifted os started H enc)

/-- The statement. -/
theorem proved : Rows.DigestWidensSaid :=
  over
#print axioms proved
end Go.Proofs.YtaibfbakhiainaaGreat.digestWidens
