/- Contracts: the keys in order; the edges by numbers; the edges turned round. -/
import Derived.Test.YtfhbpghgcgmegaaC3
set_option linter.unusedVariables false
namespace Go.Proofs.Ytfhbpghgcgmegaa
open Go Go.Sh Go.Proofs

/-- Edges that can be read. -/
abbrev RdE (h : Heap) (v : Value) (e : List (Str × List Str)) : Prop := RdMp (RdL str) h v e
theorem RdE.ext {h h' : Heap} {v : Value} {e : List (Str × List Str)} (r : RdE h v e) (he : Ext h h') : RdE h' v e := RdMp.ext r (fun x a hx => RdL.ext hx he) he
abbrev big : Nat := 1000000000000

theorem perm_of_sub {l m : List Str} (hl : l.Nodup) (hm : m.Nodup) (h1 : ∀ k ∈ l, k ∈ m) (h2 : ∀ k ∈ m, k ∈ l) : l.Perm m :=
  (List.perm_ext_iff_of_nodup hl hm).2 fun k => ⟨h1 k, h2 k⟩
theorem len_of_sub {l m : List Str} (hl : l.Nodup) (h1 : ∀ k ∈ l, k ∈ m) : l.length ≤ m.length := hl.length_le_of_subset h1

theorem keys_ok {h : Heap} {v : Value} {e : List (Str × List Str)} (r : RdE h v e) (hn : e.length ≤ big) :
    HC Try.prog 15 #[v] h fun u h' => St h h' [Row 1 u (sortS (e.map (·.1))).length ((sortS (e.map (·.1))).map str)] := by
  unfold big at hn
  refine sh_calls_keys ?_
  unfold g_calls_keys
  refine oLenMp r ?_
  refine oMkSliceR1 (l := 0) (c := e.length) (St.nil h) rfl (Nat.zero_le _) (by omega) (by omega) fun t7 h1 s1 => ?_
  have hnd := r.nodup
  obtain ⟨m, st, c, hm, hk, hv⟩ := r
  refine oRange_map s1 (hm.ext s1.ext) fun it h2 s2 => ?_
  have hkl : m.length = e.length := by simpa using congrArg List.length hk
  refine ⟨fun n a h' => ∃ ks : List Str, n = e.length - ks.length ∧ ks.Nodup ∧ (∀ k ∈ ks, k ∈ m.map (·.1)) ∧ St h h' [IterS it v (m.map (·.1)) st c ks, Row 1 a ks.length (ks.map str)],
    e.length, ⟨[], by simp, by simp, by simp, s2⟩, ?_⟩
  rintro n a h3 ⟨ks, rfl, hks, hsub, s3⟩
  dsimp only
  have hlen : ks.length ≤ e.length := by
    have := len_of_sub hks hsub
    simpa [hkl] using this
  refine oNext_map s3 (hm.ext s3.ext) rfl hsub (fun hall => ?_) fun k x h4 hx hnk s4 _ => ?_
  · rw [oExt_one0, cond_f]
    have p : ks.Perm (e.map (·.1)) := perm_of_sub hks hnd (fun k hk' => hk ▸ hsub k hk') (fun k hk' => hall k (hk ▸ hk'))
    refine oCall_func ((sort_ok s3.drop (by omega)).mono fun u h5 hu => ?_)
    rw [← sortS_congr p]
    exact hu.2
  · rw [oExt_three0, cond_t]
    refine oEntry_map s4 (hm.ext s4.ext) rfl hx ?_
    rw [oExt_two0]
    refine oPush (enc := str) (l := ks) s4.swap rfl rfl (by omega) (by omega) fun a' h6 s6 => ?_
    have hmem : k ∈ m.map (·.1) := (look_isSome k m).1 (by rw [hx]; rfl)
    have hnew : (ks ++ [k]).Nodup := by
      rw [List.nodup_append]
      exact ⟨hks, by simp, fun b hb d hd => by simp only [List.mem_singleton] at hd; subst hd; exact fun e => hnk (e ▸ hb)⟩
    have hsub' : ∀ j ∈ ks ++ [k], j ∈ m.map (·.1) := fun j hj => by
      rcases List.mem_append.1 hj with hj | hj
      · exact hsub j hj
      · simp only [List.mem_singleton] at hj; subst hj; exact hmem
    have hlen2 := len_of_sub hnew hsub'
    simp only [List.length_append, List.length_cons, List.length_nil, List.length_map, hkl] at hlen2
    refine ⟨e.length - (ks ++ [k]).length, by simp; omega, ks ++ [k], rfl, hnew, hsub', ?_⟩
    exact s6.swap
end Go.Proofs.Ytfhbpghgcgmegaa
