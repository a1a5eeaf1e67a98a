/- First contracts: lists of strings. -/
import Derived.Test.YtfhbpghgcgmegaaInst
import Derived.Test.YtfhbpghgcgmegaaCm
import Derived.Test.YtfhbpghgcgmegaaG1
import Derived.Test.YtfhbpghgcgmegaaG3
set_option linter.unusedVariables false
namespace Go.Proofs.Ytfhbpghgcgmegaa
open Go Go.Sh

/-- A slice of strings that can be read. -/
abbrev RdS (h : Heap) (v : Value) (l : List Str) : Prop := RdL str h v l

/-- A counted loop: from i0 on up to n. -/
theorem loop1_count {h0 : Heap} {body : Value → Heap → (Value → Heap → Prop) → Prop} (i0 n : Nat) (I : Nat → Heap → Prop) (hi : i0 ≤ n) (hI : I i0 h0)
    (round : ∀ i h (next : Value → Heap → Prop), i ≤ n → I i h → (∀ h', i < n → I (i + 1) h' → next (.int .i64 ((i + 1 : Nat) : Int)) h') → body (.int .i64 i) h next) :
    loop1 (.int .i64 i0) h0 body := by
  refine ⟨fun m a h => ∃ i : Nat, i ≤ n ∧ m = n - i ∧ a = .int .i64 i ∧ I i h, n - i0, ⟨i0, hi, rfl, rfl, hI⟩, ?_⟩
  rintro m _ h ⟨i, hin, rfl, rfl, hI⟩
  refine round i h _ hin hI fun h' hlt hI' => ⟨n - (i + 1), by omega, i + 1, by omega, rfl, rfl, hI'⟩

theorem wrap_succ (i n : Nat) (h : i < n) (hn : n ≤ 9223372036854775807) : IntKind.i64.wrap ((i : Int) + 1) = ((i + 1 : Nat) : Int) := by
  rw [show (i : Int) + 1 = ((i + 1 : Nat) : Int) from by omega]
  exact wrap_nat _ (by omega)

theorem has_ok {h : Heap} {v : Value} {l : List Str} {s : Str} (hv : RdS h v l) (hn : l.length ≤ 9223372036854775807) :
    HC Try.prog 10 #[v, str s] h fun u h' => u = .bool (decide (s ∈ l)) ∧ h' = h := by
  refine sh_augurref10_Has ?_
  unfold g_augurref10_Has
  refine loop1_count 0 l.length (fun i h' => h' = h ∧ ∀ j, j < i → l[j]? ≠ some s) (Nat.zero_le _) ⟨rfl, by omega⟩ ?_
  rintro i _ next hi ⟨rfl, hno⟩ hnext
  rw [oLen_sl hv.1, oBin_lss]
  by_cases hlt : i < l.length
  · obtain ⟨x, hx⟩ : ∃ x, l[i]? = some x := ⟨l[i], List.getElem?_eq_getElem hlt⟩
    rw [cond_pos (by omega), oIdx_sl hv.1 (hv.2.nz (by simp; omega)) (by omega) (by omega)]
    refine oLoad1 (cs := l.map str) (x := str x) (fun _ e => e ▸ hv.2) (by simp [hx]) ?_
    rw [oBin_str_eql]
    by_cases he : x = s
    · subst he
      rw [cond_pos rfl]
      refine ⟨?_, rfl⟩
      rw [show decide (x ∈ l) = true from by simpa using List.mem_of_getElem? hx]
    · rw [cond_neg he, oBin_add, wrap_succ i _ hlt hn]
      refine hnext _ hlt ⟨rfl, fun j hj => ?_⟩
      by_cases hji : j = i
      · subst hji; rw [hx]; simpa using he
      · exact hno j (by omega)
  · rw [cond_neg (by omega)]
    refine ⟨?_, rfl⟩
    rw [show decide (s ∈ l) = false from ?_]
    simp only [decide_eq_false_iff_not]
    intro hm
    obtain ⟨j, hj, he⟩ := List.mem_iff_getElem.1 hm
    exact hno j (by omega) (by rw [List.getElem?_eq_getElem hj, he])

theorem strings_ok {h : Heap} {v w : Value} {l m : List Str} (hv : RdS h v l) (hw : RdS h w m) (hn : l.length ≤ 9223372036854775807) :
    HC Try.prog 13 #[v, w] h fun u h' => u = .bool (decide (l = m)) ∧ h' = h := by
  refine sh_augurhelp_Strings ?_
  unfold g_augurhelp_Strings
  rw [oLen_sl hv.1, oLen_sl hw.1, oBin_neq]
  by_cases hl : l.length = m.length
  · rw [cond_neg (by omega)]
    refine loop1_count 0 l.length (fun i h' => h' = h ∧ ∀ j, j < i → l[j]? = m[j]?) (Nat.zero_le _) ⟨rfl, by omega⟩ ?_
    rintro i _ next hi ⟨rfl, heq⟩ hnext
    rw [oLen_sl hv.1, oBin_lss]
    by_cases hlt : i < l.length
    · obtain ⟨x, hx⟩ : ∃ x, l[i]? = some x := ⟨l[i], List.getElem?_eq_getElem hlt⟩
      obtain ⟨y, hy⟩ : ∃ y, m[i]? = some y := ⟨m[i], List.getElem?_eq_getElem (by omega)⟩
      rw [cond_pos (by omega), oIdx_sl hv.1 (hv.2.nz (by simp; omega)) (by omega) (by omega)]
      refine oLoad1 (cs := l.map str) (x := str x) (fun _ e => e ▸ hv.2) (by simp [hx]) ?_
      rw [oIdx_sl hw.1 (hw.2.nz (by simp; omega)) (by omega) (by omega)]
      refine oLoad1 (cs := m.map str) (x := str y) (fun _ e => e ▸ hw.2) (by simp [hy]) ?_
      rw [oBin_str_neq]
      by_cases he : x = y
      · rw [cond_neg (by simpa using he), oBin_add, wrap_succ i _ hlt hn]
        refine hnext _ hlt ⟨rfl, fun j hj => ?_⟩
        by_cases hji : j = i
        · subst hji; rw [hx, hy, he]
        · exact heq j (by omega)
      · rw [cond_pos he]
        refine ⟨?_, rfl⟩
        rw [show decide (l = m) = false from ?_]
        simp only [decide_eq_false_iff_not]
        rintro rfl
        rw [hx] at hy
        exact he (Option.some.inj hy)
    · rw [cond_neg (by omega)]
      refine ⟨?_, rfl⟩
      rw [show decide (l = m) = true from ?_]
      simp only [decide_eq_true_eq]
      apply List.ext_getElem?
      intro j
      by_cases hj : j < i
      · exact heq j hj
      · rw [List.getElem?_eq_none (by omega), List.getElem?_eq_none (by omega)]
  · rw [cond_pos (by omega)]
    refine ⟨?_, rfl⟩
    rw [show decide (l = m) = false from ?_]
    simp only [decide_eq_false_iff_not]
    rintro rfl
    exact hl rfl
end Go.Proofs.Ytfhbpghgcgmegaa
