/- What the laws' ends have in common. -/
import Derived.Test.YtfhbpghgcgmegaaC20
import Derived.Test.YtfhbpghgcgmegaaFi
import Derived.WalkKit
set_option linter.unusedVariables false
namespace Go.Proofs.Ytfhbpghgcgmegaa.Fu
open Go Go.Sh Go.ChangeShapes Go.WideShapes Go.ChangeAt Go.RowKit

theorem own : ownKnob Try.prog.godebug = none := by kernel_rfl
theorem laidOut : laidOutB Try.prog = true := by kernel_rfl
theorem rowed : mapsRowed Try.prog = true := by kernel_rfl
theorem full : ∀ t e, t < Try.prog.types.size → Try.prog.underlying t = some (.slice e) → 0 < Try.prog.cellsOf e := slices_full_of Try.prog (by kernel_rfl)
theorem cells35 : Try.prog.cellsOf 35 = 1 := by kernel_rfl
theorem nat_of_u8 {z : Int} (h : (Lit.int .u8 z).wf = true) : ∃ n : Nat, n < 256 ∧ z = (n : Int) := by
  have := bounds_u8 h
  exact ⟨z.toNat, by omega, by omega⟩
theorem u16s_in {H : Type} {enc : TypeId × Value → H} {W : World} {r : Reach} {b0 base : Nat} {sp : Nat → Bool} {held : Bool} {v : Value} {d : DataW H} {ps : List MemPlace}
    (hval : Value.okWide Try.prog W r b0 22 v) (hd : DataW.Trod enc Try.prog W base sp held 22 v d ps) : ∃ l : List Nat, (∀ x ∈ l, x < 65536) ∧ RdL encH W.heap v l := by
  obtain ⟨zs, h1, h2⟩ := ints_in Try.underlying22 Try.underlying35 cells35 hval hd
  have hb : ∀ z ∈ zs, 0 ≤ z ∧ z ≤ 65535 := fun z hz => bounds_u16 (h1 z hz)
  have e : zs.map (fun z : Int => Value.int .u16 z) = (zs.map Int.toNat).map encH := by
    rw [List.map_map]
    refine List.map_congr_left fun z hz => ?_
    have := hb z hz
    simp only [Function.comp, encH]
    congr 1
    omega
  refine ⟨zs.map Int.toNat, fun x hx => ?_, ?_, ?_⟩
  · obtain ⟨z, hz, rfl⟩ := List.mem_map.1 hx
    have := hb z hz
    omega
  · rw [List.length_map]; exact h2.1
  · rw [← e]; exact h2.2
end Go.Proofs.Ytfhbpghgcgmegaa.Fu
