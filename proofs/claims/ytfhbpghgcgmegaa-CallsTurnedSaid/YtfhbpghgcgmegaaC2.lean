/- Contracts: lists of lists of strings; heaps of numbers. -/
import Derived.Test.YtfhbpghgcgmegaaC1
set_option linter.unusedVariables false
namespace Go.Proofs.Ytfhbpghgcgmegaa
open Go Go.Sh

/-- A slice of slices of strings that can be read. -/
abbrev RdSS (h : Heap) (v : Value) (ll : List (List Str)) : Prop := RdLL str h v ll

theorem comps_help_ok {h : Heap} {v w : Value} {l m : List (List Str)} (hv : RdSS h v l) (hw : RdSS h w m) (hn : l.length ≤ 9223372036854775807)
    (hn2 : ∀ x ∈ l, x.length ≤ 9223372036854775807) :
    HC Try.prog 12 #[v, w] h fun u h' => u = .bool (decide (l = m)) ∧ h' = h := by
  refine sh_augurhelp_Comps ?_
  unfold g_augurhelp_Comps
  obtain ⟨hvs, vs, hvl, hvr, hve⟩ := hv
  obtain ⟨hws, ws, hwl, hwr, hwe⟩ := hw
  rw [oLen_sl hvs, oLen_sl hws, oBin_neq]
  by_cases hl : l.length = m.length
  · rw [cond_neg (by omega)]
    refine loop1_count 0 l.length (fun i h' => h' = h ∧ ∀ j, j < i → l[j]? = m[j]?) (Nat.zero_le _) ⟨rfl, by omega⟩ ?_
    rintro i _ next hi ⟨rfl, heq⟩ hnext
    rw [oLen_sl hvs, oBin_lss]
    by_cases hlt : i < l.length
    · obtain ⟨x, hx⟩ : ∃ x, l[i]? = some x := ⟨l[i], List.getElem?_eq_getElem hlt⟩
      obtain ⟨y, hy⟩ : ∃ y, m[i]? = some y := ⟨m[i], List.getElem?_eq_getElem (by omega)⟩
      obtain ⟨a, ha⟩ : ∃ a, vs[i]? = some a := ⟨vs[i], List.getElem?_eq_getElem (by omega)⟩
      obtain ⟨b, hb⟩ : ∃ b, ws[i]? = some b := ⟨ws[i], List.getElem?_eq_getElem (by omega)⟩
      rw [cond_pos (by omega)]
      rename_i hh
      refine ⟨Eq hh, rfl, ?_⟩
      dsimp only
      rw [oIdx_sl hvs (hvr.nz (by omega)) (by omega) (by omega)]
      refine oLoad1 (cs := vs) (x := a) (fun _ e => e ▸ hvr) (by simpa using ha) ?_
      rw [oIdx_sl hws (hwr.nz (by omega)) (by omega) (by omega)]
      refine oLoad1 (cs := ws) (x := b) (fun _ e => e ▸ hwr) (by simpa using hb) ?_
      refine oCallQ_func (v := .bool (decide (x = y))) (fun h1 e => e ▸ (strings_ok (hve i a x ha hx) (hwe i b y hb hy) (hn2 x (List.mem_of_getElem? hx))).mono fun u h' hu => ⟨hu.1, hu.2.symm⟩) ?_
      rw [oUn_not]
      rintro _ rfl
      by_cases he : x = y
      · rw [show (!decide (x = y)) = false from by simp [he], cond_f, oBin_add, wrap_succ i _ hlt hn]
        refine hnext _ hlt ⟨rfl, fun j hj => ?_⟩
        by_cases hji : j = i
        · subst hji; rw [hx, hy, he]
        · exact heq j (by omega)
      · rw [show (!decide (x = y)) = true from by simp [he], cond_t]
        refine ⟨?_, rfl⟩
        rw [show decide (l = m) = false from ?_]
        simp only [decide_eq_false_iff_not]
        rintro rfl
        rw [hx] at hy
        exact he (Option.some.inj hy)
    · rw [cond_neg (by omega)]
      refine ⟨?_, rfl⟩
      rw [show decide (l = m) = true from ?_]
      simp only [decide_eq_true_eq]
      apply List.ext_getElem?
      intro j
      by_cases hj : j < i
      · exact heq j hj
      · rw [List.getElem?_eq_none (by omega), List.getElem?_eq_none (by omega)]
  · rw [cond_pos (by omega)]
    refine ⟨?_, rfl⟩
    rw [show decide (l = m) = false from ?_]
    simp only [decide_eq_false_iff_not]
    rintro rfl
    exact hl rfl
end Go.Proofs.Ytfhbpghgcgmegaa
