/- Contracts: a row turned round in place; the queue's methods. -/
import Derived.Test.YtfhbpghgcgmegaaC6
set_option linter.unusedVariables false
namespace Go.Proofs.Ytfhbpghgcgmegaa
open Go Go.Sh Go.Proofs

theorem wrap_int (i : Int) (h1 : -9223372036854775808 ≤ i) (h2 : i ≤ 9223372036854775807) : IntKind.i64.wrap i = i := IntWalk.i64_in _ (by omega)

/-- Half turned. -/
def swapped (l : List Nat) (i : Nat) (k : Nat) : Nat := if k < i ∨ l.length ≤ k + i then l.getD (l.length - 1 - k) 0 else l.getD k 0
theorem reverse_ok {h0 h : Heap} {v : Value} {l : List Nat} {L : List HP} (s : St h0 h (Row 1 v l.length (l.map encI) :: L)) (hn : l.length ≤ big) :
    HC Try.prog 24 #[v] h fun u h' => St h0 h' (Row 1 v l.length (l.reverse.map encI) :: L) := by
  unfold big at hn
  refine sh_slices_Reverse_int_int ?_
  unfold g_slices_Reverse_int_int
  have hsl := s.row.1
  rw [oLen_sl hsl, oBin_sub, wrap_int _ (by omega) (by omega)]
  refine ⟨fun m a b h' => ∃ i : Nat, ∃ cs : List Nat, 2 * i ≤ l.length + 1 ∧ m = l.length - i ∧ a = .int .i64 i ∧ b = .int .i64 ((l.length : Int) - 1 - i) ∧ cs.length = l.length ∧ (∀ k, k < l.length → cs[k]? = if k < i ∨ l.length ≤ k + i then l[l.length - 1 - k]? else l[k]?) ∧ St h0 h' (Row 1 v l.length (cs.map encI) :: L),
    l.length, ⟨0, l, by omega, by omega, rfl, by simp, rfl, fun k hk => by rw [if_neg (by omega)], s⟩, ?_⟩
  rintro m a b h1 ⟨i, cs, hi, rfl, rfl, rfl, hcl, hcs, s1⟩
  dsimp only
  rw [oBin_lss]
  by_cases hlt : (i : Int) < (l.length : Int) - 1 - i
  · rw [cond_pos hlt]
    obtain ⟨j, hj⟩ : ∃ j : Nat, j + i + 1 = l.length := ⟨l.length - 1 - i, by omega⟩
    have hj2 : ((l.length : Int) - 1 - i) = (j : Int) := by omega
    rw [hj2]
    obtain ⟨x, hx⟩ : ∃ x, cs[i]? = some x := ⟨_, List.getElem?_eq_getElem (by omega)⟩
    obtain ⟨y, hy⟩ : ∃ y, cs[j]? = some y := ⟨_, List.getElem?_eq_getElem (by omega)⟩
    have hrd : RdL encI h1 v cs := s1.rdL
    refine oGetL hrd hy ?_
    refine oGetL hrd hx ?_
    rw [oIdx_sl hsl (hrd.2.nz (by simp; omega)) (by omega) (by omega)]
    refine oStoreR1 s1 rfl (by simp; omega) fun h2 s2 => ?_
    have e1 : ((i : Int).toNat * 1) = i := by omega
    rw [e1] at s2
    have hrd2 := s2.row
    rw [oIdx_sl hsl (hrd2.2.2.nz (by simp; omega)) (by omega) (by omega)]
    refine oStoreR1 s2 rfl (by simp; omega) fun h3 s3 => ?_
    have e2 : ((j : Int).toNat * 1) = j := by omega
    rw [e2] at s3
    rw [oBin_add, oBin_sub, wrap_int _ (by omega) (by omega), wrap_int _ (by omega) (by omega)]
    refine ⟨l.length - (i + 1), by omega, i + 1, (cs.set i y).set j x, by omega, rfl, by congr 1, by congr 1; omega, by simp [hcl], fun k hk => ?_, ?_⟩
    · have hxl := hcs i (by omega)
      have hyl := hcs j (by omega)
      rw [if_neg (by omega)] at hxl hyl
      by_cases hkj : k = j
      · subst hkj
        rw [List.getElem?_set_self (by simp; omega), if_pos (by omega), ← hx, hxl]
        congr 1; omega
      · rw [List.getElem?_set_ne (fun e => hkj e.symm)]
        by_cases hki : k = i
        · subst hki
          rw [List.getElem?_set_self (by omega), if_pos (by omega), ← hy, hyl]
          congr 1; omega
        · rw [List.getElem?_set_ne (fun e => hki e.symm), hcs k hk]
          by_cases hc : k < i ∨ l.length ≤ k + i
          · rw [if_pos hc, if_pos (by omega)]
          · rw [if_neg hc, if_neg (by omega)]
    · simpa [encI] using s3
  · rw [cond_neg hlt]
    have : cs = l.reverse := by
      apply List.ext_getElem?
      intro k
      by_cases hk : k < l.length
      · rw [hcs k hk, List.getElem?_reverse hk]
        split
        · rfl
        · congr 1; omega
      · rw [List.getElem?_eq_none (by omega), List.getElem?_eq_none (by simp; omega)]
    rw [← this]
    exact s1
end Go.Proofs.Ytfhbpghgcgmegaa
