/- A slice of numbers that came in can be read: over any program. -/
import Derived.Test.YtfhbpghgcgmegaaFin
import Derived.Test.YtfhbpghgcgmegaaCol
set_option linter.unusedVariables false
namespace Go.Sh
open Go.ChangeShapes Go.WideShapes Go.ChangeAt Go.RowKit
section
variable {H : Type} {enc : TypeId × Value → H} {P : Program}
theorem ints_in {W : World} {t e : TypeId} {k : IntKind} {r : Reach} {b0 base : Nat} {sp : Nat → Bool} {held : Bool} {v : Value} {d : DataW H} {ps : List MemPlace} (ht : P.underlying t = some (.slice e)) (he : P.underlying e = some (.int k)) (hc : P.cellsOf e = 1)
    (hval : Value.okWide P W r b0 t v) (hd : DataW.Trod enc P W base sp held t v d ps) : ∃ zs : List Int, (∀ z ∈ zs, (Lit.int k z).wf = true) ∧ RdL (fun z : Int => Value.int k z) W.heap v zs := by
  obtain ⟨a0, len, cap, rfl⟩ := okWide_slice ht hval
  obtain ⟨fuel, hf⟩ := hd
  rcases open_ints ht he hc hf with ⟨hcs, _⟩ | ⟨a, len', cap', zs, hcs, _, hl, _, hz, _, hcell, hwz⟩
  · simp only [Value.cells, List.cons.injEq, Value.slice.injEq, and_true] at hcs
    obtain ⟨rfl, rfl, rfl⟩ := hcs
    exact ⟨[], by simp, ⟨_, _, rfl⟩, Rd.nil _ _⟩
  · simp only [Value.cells, List.cons.injEq, Value.slice.injEq, and_true] at hcs
    obtain ⟨rfl, rfl, rfl⟩ := hcs
    have hlz : len ≤ zs.length := by rw [hz]; split <;> omega
    refine ⟨zs.take len, fun z hz' => hwz z (List.mem_of_mem_take hz'), ⟨_, _, by rw [List.length_take, Nat.min_eq_left hlz]⟩, ?_⟩
    rcases Nat.eq_zero_or_pos len with h0 | h0
    · subst h0
      simp only [List.take_zero, List.map_nil]
      exact Rd.nil _ _
    · obtain ⟨b, off, rfl, hc2⟩ := ints_at hcell (by omega)
      refine .inr ⟨b, off, rfl, fun j x hx => ?_⟩
      rw [List.getElem?_map, Option.map_eq_some_iff] at hx
      obtain ⟨z, hz1, rfl⟩ := hx
      rw [List.getElem?_take] at hz1
      split at hz1
      · have h1 := hc2 j (by omega)
        rw [cell?_eq] at h1
        rw [h1, List.getD_eq_getElem?_getD, hz1]
        rfl
      · cases hz1
end
end Go.Sh
