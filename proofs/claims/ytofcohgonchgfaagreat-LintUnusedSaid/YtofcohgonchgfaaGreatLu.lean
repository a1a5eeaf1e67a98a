/- LintUnused: what is reckoned of it. -/
import Derived.Test.YtofcohgonchgfaaGreatLua
import Derived.Test.YtofcohgonchgfaaGreatLub
import Derived.Test.YtofcohgonchgfaaGreatLuc
import Derived.Test.YtofcohgonchgfaaGreatLud
set_option linter.unusedVariables false
set_option maxRecDepth 100000
namespace Go.Proofs.YtofcohgonchgfaaGreat
open Go Go.Sh Go.Va
theorem lu_run (x : Int) (t : Bool) (h : 0 ≤ x ∧ x ≤ 255) : Runs tabt 15 1000 1000 3 [.sym .u8 x, .bool t] := by
  have e : Int.tmod x 16 = x % 16 := Int.tmod_eq_emod_of_nonneg h.1
  have hk : x % 16 = 0 ∨ x % 16 = 1 ∨ x % 16 = 2 ∨ x % 16 = 3 ∨ x % 16 = 4 ∨ x % 16 = 5 ∨ x % 16 = 6 ∨ x % 16 = 7 ∨ x % 16 = 8 ∨ x % 16 = 9 ∨ x % 16 = 10 ∨ x % 16 = 11 ∨ x % 16 = 12 ∨ x % 16 = 13 ∨ x % 16 = 14 ∨ x % 16 = 15 := by omega
  rcases hk with hk | hk | hk | hk | hk | hk | hk | hk | hk | hk | hk | hk | hk | hk | hk | hk
  · rw [hk] at e
    cases t
    · exact ⟨⟨.v 0 (.v 0 .nil), by rw [lu_0f]; exact ⟨e, e, rfl⟩⟩⟩
    · exact ⟨⟨.v 0 (.v 0 .nil), by rw [lu_0t]; exact ⟨e, e, rfl⟩⟩⟩
  · rw [hk] at e
    cases t
    · exact ⟨⟨.v 1 (.v 1 .nil), by rw [lu_1f]; exact ⟨e, e, rfl⟩⟩⟩
    · exact ⟨⟨.v 1 (.v 1 .nil), by rw [lu_1t]; exact ⟨e, e, rfl⟩⟩⟩
  · rw [hk] at e
    cases t
    · exact ⟨⟨.v 2 (.v 2 .nil), by rw [lu_2f]; exact ⟨e, e, rfl⟩⟩⟩
    · exact ⟨⟨.v 2 (.v 2 .nil), by rw [lu_2t]; exact ⟨e, e, rfl⟩⟩⟩
  · rw [hk] at e
    cases t
    · exact ⟨⟨.v 3 (.v 3 .nil), by rw [lu_3f]; exact ⟨e, e, rfl⟩⟩⟩
    · exact ⟨⟨.v 3 (.v 3 .nil), by rw [lu_3t]; exact ⟨e, e, rfl⟩⟩⟩
  · rw [hk] at e
    cases t
    · exact ⟨⟨.v 4 (.v 4 .nil), by rw [lu_4f]; exact ⟨e, e, rfl⟩⟩⟩
    · exact ⟨⟨.v 4 (.v 4 .nil), by rw [lu_4t]; exact ⟨e, e, rfl⟩⟩⟩
  · rw [hk] at e
    cases t
    · exact ⟨⟨.v 5 (.v 5 .nil), by rw [lu_5f]; exact ⟨e, e, rfl⟩⟩⟩
    · exact ⟨⟨.v 5 (.v 5 .nil), by rw [lu_5t]; exact ⟨e, e, rfl⟩⟩⟩
  · rw [hk] at e
    cases t
    · exact ⟨⟨.v 6 (.v 6 .nil), by rw [lu_6f]; exact ⟨e, e, rfl⟩⟩⟩
    · exact ⟨⟨.v 6 (.v 6 .nil), by rw [lu_6t]; exact ⟨e, e, rfl⟩⟩⟩
  · rw [hk] at e
    cases t
    · exact ⟨⟨.v 7 (.v 7 .nil), by rw [lu_7f]; exact ⟨e, e, rfl⟩⟩⟩
    · exact ⟨⟨.v 7 (.v 7 .nil), by rw [lu_7t]; exact ⟨e, e, rfl⟩⟩⟩
  · rw [hk] at e
    cases t
    · exact ⟨⟨.v 8 (.v 8 .nil), by rw [lu_8f]; exact ⟨e, e, rfl⟩⟩⟩
    · exact ⟨⟨.v 8 (.v 8 .nil), by rw [lu_8t]; exact ⟨e, e, rfl⟩⟩⟩
  · rw [hk] at e
    cases t
    · exact ⟨⟨.v 9 (.v 9 .nil), by rw [lu_9f]; exact ⟨e, e, rfl⟩⟩⟩
    · exact ⟨⟨.v 9 (.v 9 .nil), by rw [lu_9t]; exact ⟨e, e, rfl⟩⟩⟩
  · rw [hk] at e
    cases t
    · exact ⟨⟨.v 10 (.v 10 .nil), by rw [lu_10f]; exact ⟨e, e, rfl⟩⟩⟩
    · exact ⟨⟨.v 10 (.v 10 .nil), by rw [lu_10t]; exact ⟨e, e, rfl⟩⟩⟩
  · rw [hk] at e
    cases t
    · exact ⟨⟨.v 11 (.v 11 .nil), by rw [lu_11f]; exact ⟨e, e, rfl⟩⟩⟩
    · exact ⟨⟨.v 11 (.v 11 .nil), by rw [lu_11t]; exact ⟨e, e, rfl⟩⟩⟩
  · rw [hk] at e
    cases t
    · exact ⟨⟨.v 12 (.v 12 .nil), by rw [lu_12f]; exact ⟨e, e, rfl⟩⟩⟩
    · exact ⟨⟨.v 12 (.v 12 .nil), by rw [lu_12t]; exact ⟨e, e, rfl⟩⟩⟩
  · rw [hk] at e
    cases t
    · exact ⟨⟨.v 13 (.v 13 .nil), by rw [lu_13f]; exact ⟨e, e, rfl⟩⟩⟩
    · exact ⟨⟨.v 13 (.v 13 .nil), by rw [lu_13t]; exact ⟨e, e, rfl⟩⟩⟩
  · rw [hk] at e
    cases t
    · exact ⟨⟨.v 14 (.v 14 .nil), by rw [lu_14f]; exact ⟨e, e, rfl⟩⟩⟩
    · exact ⟨⟨.v 14 (.v 14 .nil), by rw [lu_14t]; exact ⟨e, e, rfl⟩⟩⟩
  · rw [hk] at e
    cases t
    · exact ⟨⟨.v 15 (.v 15 .nil), by rw [lu_15f]; exact ⟨e, e, rfl⟩⟩⟩
    · exact ⟨⟨.v 15 (.v 15 .nil), by rw [lu_15t]; exact ⟨e, e, rfl⟩⟩⟩
end Go.Proofs.YtofcohgonchgfaaGreat
