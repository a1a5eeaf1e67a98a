/- Contract: who uses. -/
import Derived.Test.YtfhbpghgcgmegaaC13
set_option linter.unusedVariables false
namespace Go.Proofs.Ytfhbpghgcgmegaa
open Go Go.Sh Go.Proofs

/-- A step back to a key. -/
def Bk (e : List (Str × List Str)) (a b : Str) : Prop := a ∈ (get e b).getD [] ∧ b ∈ e.map (·.1)
def UsersOf (e : List (Str × List Str)) (nm : Str) (l : List Str) : Prop := (nm ∉ e.map (·.1) ∧ l = []) ∨ (nm ∈ e.map (·.1) ∧ RchOf (Bk e) nm l)
/-- Callers and whom they call. -/
def prs (e : List (Str × List Str)) (K : List Str) : List (Str × Str) := K.flatMap fun k => ((get e k).getD []).map fun c => (k, c)
theorem mem_prs {e : List (Str × List Str)} {K : List Str} {k c : Str} : (k, c) ∈ prs e K ↔ k ∈ K ∧ c ∈ (get e k).getD [] := by
  unfold prs
  simp only [List.mem_flatMap, List.mem_map, Prod.mk.injEq]
  constructor
  · rintro ⟨k', h1, c', h2, rfl, rfl⟩; exact ⟨h1, h2⟩
  · rintro ⟨h1, h2⟩; exact ⟨k, h1, c, h2, rfl, rfl⟩
theorem prs_len {e : List (Str × List Str)} {B : Nat} (hb : ∀ a x, get e a = some x → x.length ≤ B) : ∀ K : List Str, (prs e K).length ≤ K.length * B
  | [] => by simp [prs]
  | k :: K => by
    have ih := prs_len hb K
    have h1 : ((get e k).getD []).length ≤ B := by
      cases hg : get e k with
      | none => simp
      | some x => simpa using hb k x hg
    have e1 : prs e (k :: K) = (((get e k).getD []).map fun c => (k, c)) ++ prs e K := by simp [prs]
    rw [e1, List.length_append, List.length_map, List.length_cons, Nat.add_mul]
    omega
theorem prs_take {e : List (Str × List Str)} {K : List Str} {i : Nat} {k : Str} (h : K[i]? = some k) : prs e (K.take (i + 1)) = prs e (K.take i) ++ ((get e k).getD []).map fun c => (k, c) := by
  rw [List.take_add_one, h]
  simp [prs]
/-- The callers by whom they call. -/
structure Cal (ps : List (Str × Str)) (m : List (Str × List Str)) : Prop where
  mem : ∀ c k, k ∈ (get m c).getD [] ↔ (k, c) ∈ ps
  len : ∀ c, ((get m c).getD []).length ≤ ps.length
theorem Cal.add {ps : List (Str × Str)} {m : List (Str × List Str)} (h : Cal ps m) (k c : Str) : Cal (ps ++ [(k, c)]) (put m c ((get m c).getD [] ++ [k])) := by
  refine ⟨fun d j => ?_, fun d => ?_⟩
  · rw [get_put]
    by_cases e : c = d
    · subst e
      rw [if_pos rfl]
      simp [h.mem]
    · rw [if_neg e]
      have : ¬ d = c := fun h => e h.symm
      simp [h.mem, this]
  · rw [get_put]
    have := h.len d
    by_cases e : c = d
    · subst e
      rw [if_pos rfl]
      simp; omega
    · rw [if_neg e]
      simp; omega

theorem users_ok {h : Heap} {v0 : Value} {e : List (Str × List Str)} {nm : Str} (r : RdE h v0 e) (sm : Sm e) :
    HC Try.prog 14 #[v0, str nm] h fun u h' => Ext h h' ∧ ∃ l, RdS h' u l ∧ UsersOf e nm l := by
  have hle := sm.len
  have hkp := sortS_perm (e.map (·.1))
  have hkl : (keysOf e).length = e.length := by rw [hkp.length_eq, List.length_map]
  refine sh_calls_Users ?_
  unfold g_calls_Users
  refine oLookMp2 (d := []) r (Ext.refl _) (RdL.nil _ _ _) fun t15 _ => ?_
  rw [oExt_two0, oExt_two1, oUn_not]
  have hgs := get_isSome nm e
  by_cases hnm : nm ∈ e.map (·.1)
  · rw [hgs.2 hnm]
    show cond (.bool false) _ _
    rw [cond_f]
    refine oMkMap_own (.inl rfl) (St.nil h) fun t20 h1 s1 => ?_
    refine oCall_func (.mono (keys_ok (r.ext s1.ext) (by unfold big; omega)) ?_)
    intro t22 h2 s2
    have s3 : St h h2 [Row 1 t22 (keysOf e).length ((keysOf e).map str), MapO t20 []] := s1.call s2
    rw [oLen_sl s3.row.1]
    refine loop1_count 0 (keysOf e).length (fun i h' => ∃ m, Cal (prs e ((keysOf e).take i)) m ∧ St h h' [MR str t20 m, Row 1 t22 (keysOf e).length ((keysOf e).map str)]) (Nat.zero_le _)
      ⟨[], ⟨by simp [Sh.get, prs], by simp [Sh.get, prs]⟩, s3.swap.mrNil⟩ ?_
    rintro i h3 nx hi ⟨m, cal, s4⟩ hnx
    have hpl := prs_len sm.row ((keysOf e).take i)
    have hpl2 : ((keysOf e).take i).length * 1000000 ≤ 100000 * 1000000 := Nat.mul_le_mul_right _ (by rw [List.length_take]; omega)
    rw [oBin_lss]
    by_cases hlt : i < (keysOf e).length
    · rw [cond_pos (by omega)]
      obtain ⟨k, hk⟩ : ∃ k, (keysOf e)[i]? = some k := ⟨_, List.getElem?_eq_getElem hlt⟩
      refine oGetL (s4.swap.rdL : RdS h3 t22 (keysOf e)) hk ?_
      refine oLookMp (d := []) r s4.ext (RdL.nil _ _ _) fun t30 ht30 => ?_
      have hll : ((get e k).getD []).length ≤ 1000000 := by
        cases hg : get e k with
        | none => simp
        | some x => simpa using sm.row k x hg
      have hst := prs_take (e := e) hk
      revert ht30 hll hst
      generalize (get e k).getD [] = l
      intro ht30 hll hst
      rw [oLen_sl ht30.1]
      refine loop1_count 0 l.length (fun j h' => ∃ m, Cal (prs e ((keysOf e).take i) ++ (l.take j).map fun c => (k, c)) m ∧ St h h' [MR str t20 m, Row 1 t22 (keysOf e).length ((keysOf e).map str)]) (Nat.zero_le _) ⟨m, by simpa using cal, s4⟩ ?_
      rintro j h4 nx2 hj ⟨m2, cal2, s5⟩ hnx2
      rw [oBin_lss]
      by_cases hjlt : j < l.length
      · rw [cond_pos (by omega)]
        obtain ⟨c, hc⟩ : ∃ c, l[j]? = some c := ⟨_, List.getElem?_eq_getElem hjlt⟩
        refine oGetL (ht30.ext s5.ext) hc ?_
        have hcl := cal2.len c
        rw [List.length_append, List.length_map, List.length_take] at hcl
        refine oAppMR (a := k) s5 rfl rfl (by omega) (by omega) fun h5 s6 => ?_
        rw [oBin_add, wrap_succ j _ hjlt (by omega)]
        refine hnx2 _ hjlt ⟨_, ?_, s6⟩
        have := cal2.add k c
        rw [List.take_add_one, hc]
        simpa [List.append_assoc] using this
      · rw [cond_neg (by omega), oBin_add, wrap_succ i _ hlt (by omega)]
        have hjl : j = l.length := by omega
        subst hjl
        rw [List.take_length] at cal2
        exact hnx _ hlt ⟨m2, by rw [hst]; exact cal2, s5⟩
    · rw [cond_neg (by omega)]
      have hie : i = (keysOf e).length := by omega
      subst hie
      rw [List.take_length] at cal
      have hcb : ∀ a x, get m a = some x → x.length ≤ big := fun a x hx => by
        have := cal.len a
        rw [hx] at this
        simp only [Option.getD_some] at this
        have h1 := prs_len sm.row (keysOf e)
        have h2 : (keysOf e).length * 1000000 ≤ 100000 * 1000000 := Nat.mul_le_mul_right _ (by omega)
        unfold big; omega
      refine oCall_func (.mono (reached_ok (r.ext s4.ext) s4.mr (by unfold big; omega) hcb) ?_)
      rintro u h5 ⟨he, l, hl1, hl2⟩
      refine ⟨s4.ext.trans he, l, hl1, .inr ⟨hnm, hl2.1, hl2.2.1, fun x => ?_⟩⟩
      rw [hl2.2.2]
      have hstp : ∀ a b, Stp e m a b ↔ Bk e a b := fun a b => by
        unfold Stp Bk
        rw [cal.mem, mem_prs, hkp.mem_iff]
        exact ⟨fun h => ⟨h.1.2, h.2⟩, fun h => ⟨⟨h.2, h.1⟩, h.2⟩⟩
      constructor
      · rintro ⟨b, h1, h2⟩
        exact ⟨b, (hstp _ _).1 h1, h2.mono fun a b => (hstp a b).1⟩
      · rintro ⟨b, h1, h2⟩
        exact ⟨b, (hstp _ _).2 h1, h2.mono fun a b => (hstp a b).2⟩
  · have : (get e nm).isSome = false := by
      cases hg : (get e nm).isSome with
      | false => rfl
      | true => exact absurd (hgs.1 hg) hnm
    rw [this]
    show cond (.bool true) _ _
    rw [cond_t]
    exact ⟨Ext.refl _, [], RdL.nil _ _ _, .inl ⟨hnm, rfl⟩⟩
end Go.Proofs.Ytfhbpghgcgmegaa
