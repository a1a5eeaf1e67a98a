/- Contracts: what is reached; who needs, who uses. -/
import Derived.Test.YtfhbpghgcgmegaaC12
import Derived.Test.YtfhbpghgcgmegaaMr
set_option linter.unusedVariables false
namespace Go.Proofs.Ytfhbpghgcgmegaa
open Go Go.Sh Go.Proofs

/-- One step or more. -/
def RP {α : Type} (E : α → α → Prop) (a x : α) : Prop := ∃ b, E a b ∧ Rch E b x
/-- While it is sought. -/
structure Rc (E : Str → Str → Prop) (nm : Str) (r todo ex : List Str) : Prop where
  nd : r.Nodup
  snd : ∀ x ∈ r, RP E nm x
  tod : ∀ x ∈ todo, x = nm ∨ x ∈ r
  exs : ∀ x ∈ ex, x = nm ∨ x ∈ r
  len : todo.length ≤ r.length + 1
  clo : ∀ x, (x = nm ∨ x ∈ r) → x ∈ todo ∨ x ∈ ex ∨ ∀ y, E x y → y ∈ r
theorem Rc.start (E : Str → Str → Prop) (nm : Str) : Rc E nm [] [nm] [] where
  nd := by simp
  snd x h := by simp at h
  tod x h := .inl (by simpa using h)
  exs x h := by simp at h
  len := by simp
  clo x h := by
    rcases h with rfl | h
    · exact .inl (by simp)
    · simp at h
theorem Rc.take {E : Str → Str → Prop} {nm i : Str} {r td : List Str} (p : Rc E nm r (td ++ [i]) []) : Rc E nm r td [i] := by
  refine ⟨p.nd, p.snd, fun x hx => p.tod x (by simp [hx]), fun x hx => p.tod x (by simp at hx; simp [hx]), by have := p.len; simp at this; omega, fun x hx => ?_⟩
  rcases p.clo x hx with h | h | h
  · rcases List.mem_append.1 h with h | h
    · exact .inl h
    · exact .inr (.inl h)
  · simp at h
  · exact .inr (.inr h)
theorem Rc.add {E : Str → Str → Prop} {nm i y : Str} {r td : List Str} (p : Rc E nm r td [i]) (he : E i y) (hy : y ∉ r) : Rc E nm (r ++ [y]) (td ++ [y]) [i] := by
  refine ⟨?_, fun x hx => ?_, fun x hx => ?_, fun x hx => ?_, by have := p.len; simp; omega, fun x hx => ?_⟩
  · rw [List.nodup_append]
    refine ⟨p.nd, by simp, fun a ha b hb => ?_⟩
    simp only [List.mem_singleton] at hb
    subst hb
    exact fun e => hy (e ▸ ha)
  · rcases List.mem_append.1 hx with h | h
    · exact p.snd x h
    · simp only [List.mem_singleton] at h
      subst h
      rcases p.exs i (by simp) with rfl | h
      · exact ⟨x, he, .refl _⟩
      · obtain ⟨b, h1, h2⟩ := p.snd i h
        exact ⟨b, h1, .tail h2 he⟩
  · rcases List.mem_append.1 hx with h | h
    · rcases p.tod x h with h | h
      · exact .inl h
      · exact .inr (by simp [h])
    · exact .inr (by simp at h; simp [h])
  · rcases p.exs x hx with h | h
    · exact .inl h
    · exact .inr (by simp [h])
  · have h1 : (x = nm ∨ x ∈ r) ∨ x = y := by
      rcases hx with h | h
      · exact .inl (.inl h)
      · rcases List.mem_append.1 h with h | h
        · exact .inl (.inr h)
        · exact .inr (by simpa using h)
    rcases h1 with h1 | h1
    · rcases p.clo x h1 with h | h | h
      · exact .inl (by simp [h])
      · exact .inr (.inl h)
      · exact .inr (.inr fun z hz => by simp [h z hz])
    · exact .inl (by simp [h1])
theorem Rc.close {E : Str → Str → Prop} {nm i : Str} {r td : List Str} (p : Rc E nm r td [i]) (h : ∀ y, E i y → y ∈ r) : Rc E nm r td [] := by
  refine ⟨p.nd, p.snd, p.tod, fun x hx => by simp at hx, p.len, fun x hx => ?_⟩
  rcases p.clo x hx with h1 | h1 | h1
  · exact .inl h1
  · simp only [List.mem_singleton] at h1
    subst h1
    exact .inr (.inr h)
  · exact .inr (.inr h1)
theorem Rc.fin {E : Str → Str → Prop} {nm : Str} {r : List Str} (p : Rc E nm r [] []) (x : Str) : x ∈ r ↔ RP E nm x := by
  refine ⟨p.snd x, ?_⟩
  rintro ⟨b, h1, h2⟩
  have hc : ∀ x, (x = nm ∨ x ∈ r) → ∀ y, E x y → y ∈ r := fun x hx => by
    rcases p.clo x hx with h | h | h
    · simp at h
    · simp at h
    · exact h
  have hb := hc nm (.inl rfl) b h1
  clear h1
  induction h2 with
  | refl => exact hb
  | tail _ e ih => exact hc _ (.inr ih) _ e

/-- A step to a key. -/
def Stp (e nx : List (Str × List Str)) (a b : Str) : Prop := b ∈ (get nx a).getD [] ∧ b ∈ e.map (·.1)
/-- The names that are reached, in order. -/
def RchOf (E : Str → Str → Prop) (nm : Str) (l : List Str) : Prop := SortS l ∧ l.Nodup ∧ ∀ x, x ∈ l ↔ RP E nm x
theorem RchOf.unique {E F : Str → Str → Prop} {nm : Str} {l m : List Str} (h : RchOf E nm l) (k : RchOf F nm m) (he : ∀ x, RP E nm x ↔ RP F nm x) : l = m :=
  SortS.unique ((List.perm_ext_iff_of_nodup h.2.1 k.2.1).2 fun x => (h.2.2 x).trans ((he x).trans (k.2.2 x).symm)) h.1 k.1
theorem look_set {r : List Str} {k : Str} : (Sh.look (r.map fun k => (k, Value.agg #[])) k) = if k ∈ r then some (.agg #[]) else none := by
  induction r with
  | nil => rfl
  | cons x r ih =>
    simp only [List.map_cons, Sh.look, List.mem_cons, ih]
    by_cases e : x = k
    · simp [e]
    · have e' : ¬ k = x := fun h => e h.symm
      simp [e, e']

set_option maxRecDepth 4000 in
theorem reached_ok {h : Heap} {v0 v1 : Value} {e nx : List (Str × List Str)} {nm : Str} (r0 : RdE h v0 e) (r1 : RdE h v1 nx) (hn : e.length ≤ big) (hb : ∀ a x, get nx a = some x → x.length ≤ big) :
    HC Try.prog 19 #[v0, v1, str nm] h fun u h' => Ext h h' ∧ ∃ l, RdS h' u l ∧ RchOf (Stp e nx) nm l := by
  unfold big at hn hb
  refine sh_calls_reached ?_
  unfold g_calls_reached
  refine oMkMap_own (.inl rfl) (St.nil h) fun t17 h1 s1 => ?_
  refine oBuild1o s1 rfl rfl fun t19 h2 s2 => ?_
  refine ⟨fun μ a b h' => ∃ (r todo : List Str), μ = 2 * (e.length - r.length) + todo.length ∧ Rc (Stp e nx) nm r todo [] ∧ (∀ x ∈ r, x ∈ e.map (·.1)) ∧
      St h h' [Row 1 a r.length (r.map str), Row 1 b todo.length (todo.map str), MapO t17 (r.map fun k => (k, .agg #[]))],
    _, ⟨[], [nm], rfl, Rc.start _ _, by simp, s2.nilRow⟩, ?_⟩
  rintro μ a b h3 ⟨r, todo, rfl, rc, hre, s3⟩
  dsimp only
  have hrl : r.length ≤ e.length := by
    have := List.Nodup.length_le_of_subset rc.nd hre
    simpa using this
  have htl := rc.len
  have htd : RdS h3 b todo := s3.swap.rdL
  rw [oLen_sl htd.1, oBin_gtr]
  rcases List.eq_nil_or_concat todo with rfl | ⟨td, i, rfl⟩
  · rw [cond_neg (by simp)]
    refine oCall_func (.mono (sort_ok s3 (by omega)) ?_)
    rintro u h4 ⟨_, s4⟩
    refine ⟨s4.ext, sortS r, s4.rdL, sortS_sorted r, (sortS_perm r).nodup_iff.2 rc.nd, fun x => ?_⟩
    rw [(sortS_perm r).mem_iff]
    exact rc.fin x
  · rw [List.concat_eq_append] at *
    simp only [List.length_append, List.length_cons, List.length_nil] at htl
    rw [cond_pos (by simp), oLen_sl htd.1, oBin_sub, wrap_int _ (by omega) (by simp; omega)]
    have e2 : (((td ++ [i]).length : Int) - 1) = (td.length : Int) := by simp
    rw [e2]
    refine oGetL htd (i := td.length) (a := i) (by simp) ?_
    rw [oLen_sl htd.1, oBin_sub, wrap_int _ (by omega) (by simp; omega), e2]
    refine oSliceR s3.swap (by simp) fun t33 s4 => ?_
    have e3 : ((td ++ [i]).map str).take (td.length * 1) = td.map str := by simp
    rw [e3] at s4
    refine oLookMp (d := []) r1 s4.ext (RdL.nil _ _ _) fun t36 ht36 => ?_
    have hnxb : ((get nx i).getD []).length ≤ 1000000000000 := by
      cases hg : get nx i with
      | none => simp
      | some x => simpa using hb i x hg
    have hstp : ∀ y, Stp e nx i y ↔ y ∈ (get nx i).getD [] ∧ y ∈ e.map (·.1) := fun y => Iff.rfl
    revert ht36 hnxb hstp
    generalize (get nx i).getD [] = l
    intro ht36 hnxb hstp
    rw [oLen_sl ht36.1]
    refine ⟨fun μ a b c h' => ∃ (k : Nat) (r' todo : List Str), μ = l.length - k ∧ k ≤ l.length ∧ c = .int .i64 k ∧ Rc (Stp e nx) nm r' todo [i] ∧ (∀ x ∈ r', x ∈ e.map (·.1)) ∧ (∀ q y, q < k → l[q]? = some y → y ∈ e.map (·.1) → y ∈ r') ∧
        2 * (e.length - r'.length) + todo.length ≤ 2 * (e.length - r.length) + td.length ∧
        St h h' [Row 1 a r'.length (r'.map str), Row 1 b todo.length (todo.map str), MapO t17 (r'.map fun k => (k, .agg #[]))],
      l.length, ⟨0, r, td, rfl, Nat.zero_le _, rfl, rc.take, hre, by omega, Nat.le_refl _, s4.swap⟩, ?_⟩
    rintro μ a' b' c' h5 ⟨k, r', todo, rfl, hk, rfl, rc', hre', hdn, hms, s5⟩
    dsimp only
    have hrl' : r'.length ≤ e.length := by
      have := List.Nodup.length_le_of_subset rc'.nd hre'
      simpa using this
    have htl' := rc'.len
    rw [oBin_lss]
    by_cases hklt : k < l.length
    · rw [cond_pos (by omega)]
      obtain ⟨y, hy⟩ : ∃ y, l[k]? = some y := ⟨_, List.getElem?_eq_getElem hklt⟩
      refine join_intro fun k2 hk2 => ?_
      have tail : ∀ (r'' todo' : List Str) a b h', Rc (Stp e nx) nm r'' todo' [i] → (∀ x ∈ r'', x ∈ e.map (·.1)) → (∀ z ∈ r', z ∈ r'') → (y ∈ e.map (·.1) → y ∈ r'') →
          2 * (e.length - r''.length) + todo'.length ≤ 2 * (e.length - r.length) + td.length →
          St h h' [Row 1 a r''.length (r''.map str), Row 1 b todo'.length (todo'.map str), MapO t17 (r''.map fun k => (k, .agg #[]))] → k2 a b h' := fun r'' todo' a b h' x1 x2 x3 x4 x5 x6 => by
        rw [hk2]
        dsimp only
        rw [oBin_add, wrap_succ k _ hklt (by omega)]
        refine ⟨l.length - (k + 1), by omega, k + 1, r'', todo', rfl, by omega, rfl, x1, x2, fun q z hq hz hze => ?_, x5, x6⟩
        by_cases eq : q = k
        · subst eq
          rw [hy] at hz
          simp only [Option.some.injEq] at hz
          subst hz
          exact x4 hze
        · exact x3 z (hdn q z (by omega) hz hze)
      clear hk2
      refine oGetL (ht36.ext s5.ext) hy ?_
      refine oLookMp2 (d := []) r0 s5.ext (RdL.nil _ _ _) fun t45 _ => ?_
      rw [oExt_two0, oExt_two1, oUn_not]
      have hgs := get_isSome y e
      by_cases hye : y ∈ e.map (·.1)
      · rw [hgs.2 hye]
        show cond (.bool false) _ _
        rw [cond_f]
        obtain ⟨st, c, s6⟩ := St.mapO (s5.pick2)
        refine oLook_val (m := r'.map fun k => (k, .agg #[])) (by rintro _ rfl; exact ⟨st, c, s6.mapRd⟩) ?_
        rw [look_set]
        simp only [if_true]
        rw [oExt_two0, oExt_two1]
        refine oAllocC s6 fun t15 h6 hptr s7 => ?_
        have hst : ∀ {vv : Value}, vv = .agg #[] → oStore Try.prog 60 t15 vv h6 fun _ h_6 => cond (.bool ((if y ∈ r' then some (Value.agg #[]) else none).isSome)) (k2 a' b' h_6)
              (oBuild Try.prog 60 #[] fun t59 => oUpd Try.prog 59 t17 (str y) t59 h_6 fun _ h_7 => oBuildSlice Try.prog 29 1 #[(0, str y)] h_7 fun t62 h_8 => oAppend Try.prog #[29, 29] 29 #[a', t62] h_8 fun t63 h_9 =>
                oBuildSlice Try.prog 29 1 #[(0, str y)] h_9 fun t66 h_10 => oAppend Try.prog #[29, 29] 29 #[b', t66] h_10 fun t67 h_11 => k2 t63 t67 h_11) := by
          rintro vv rfl
          have := oStoreC (P := Try.prog) (t := 60) (j := 0) (v := .agg #[]) (K := fun _ h_6 => cond (.bool ((if y ∈ r' then some (Value.agg #[]) else none).isSome)) (k2 a' b' h_6)
              (oBuild Try.prog 60 #[] fun t59 => oUpd Try.prog 59 t17 (str y) t59 h_6 fun _ h_7 => oBuildSlice Try.prog 29 1 #[(0, str y)] h_7 fun t62 h_8 => oAppend Try.prog #[29, 29] 29 #[a', t62] h_8 fun t63 h_9 =>
                oBuildSlice Try.prog 29 1 #[(0, str y)] h_9 fun t66 h_10 => oAppend Try.prog #[29, 29] 29 #[b', t66] h_10 fun t67 h_11 => k2 t63 t67 h_11)) s7 rfl (by simp) (by intro z hz; simp [Value.cells] at hz) (fun h7 s8 => ?_)
          · rwa [padd_zero] at this
          · have s9 := s8.drop
            by_cases hyr : y ∈ r'
            · rw [if_pos hyr]
              show cond (.bool true) _ _
              rw [cond_t]
              exact tail r' todo a' b' h7 rc' hre' (fun z hz => hz) (fun _ => hyr) hms (St.toMapO s9).pick1.pick2.pick1
            · rw [if_neg hyr]
              show cond (.bool false) _ _
              rw [cond_f]
              refine oBuild_own (cells := #[]) (by kernel_rfl) ?_
              refine oUpd_own (k := y) (x := .agg #[]) s9 fun h8 st' c' _ s10 => ?_
              have s11 := St.toMapO s10
              have e5 : ups (r'.map fun k => (k, Value.agg #[])) y (.agg #[]) = (r' ++ [y]).map fun k => (k, Value.agg #[]) := by
                rw [ups_put, put_new (by rw [List.map_map]; simpa using hyr)]
                simp
              rw [e5] at s11
              have hadd := rc'.add ((hstp y).2 ⟨List.mem_of_getElem? hy, hye⟩) hyr
              have hre2 : ∀ x ∈ r' ++ [y], x ∈ e.map (·.1) := fun x hx => by
                rcases List.mem_append.1 hx with hx | hx
                · exact hre' x hx
                · simp only [List.mem_singleton] at hx; rw [hx]; exact hye
              have hrl2 : (r' ++ [y]).length ≤ e.length := by
                have := List.Nodup.length_le_of_subset hadd.nd hre2
                simpa using this
              simp only [List.length_append, List.length_cons, List.length_nil] at hrl2
              refine oPush (enc := str) (x := y) s11.pick1 rfl rfl (by omega) (by omega) fun t63 h9 s12 => ?_
              refine oPush (enc := str) (x := y) s12.pick2 rfl rfl (by omega) (by omega) fun t67 h10 s13 => ?_
              exact tail (r' ++ [y]) (todo ++ [y]) t63 t67 h10 hadd hre2 (fun z hz => by simp [hz]) (fun _ => by simp) (by simp; omega) s13.pick1
        refine hst ?_
        by_cases hyr : y ∈ r' <;> simp [hyr]
      · have : (get e y).isSome = false := by
          cases hg : (get e y).isSome with
          | false => rfl
          | true => exact absurd (hgs.1 hg) hye
        rw [this]
        show cond (.bool true) _ _
        rw [cond_t]
        exact tail r' todo a' b' h5 rc' hre' (fun z hz => hz) (fun h => absurd h hye) hms s5
    · rw [cond_neg (by omega)]
      refine ⟨2 * (e.length - r'.length) + todo.length, by simp; omega, r', todo, rfl, rc'.close fun y hy => ?_, hre', s5⟩
      obtain ⟨h1, h2⟩ := (hstp y).1 hy
      obtain ⟨q, hq⟩ := List.getElem?_of_mem h1
      exact hdn q y (by have := (List.getElem?_eq_some_iff.1 hq).1; omega) hq h2

theorem needs_ok {h : Heap} {v0 : Value} {e : List (Str × List Str)} {nm : Str} (r0 : RdE h v0 e) (sm : Sm e) :
    HC Try.prog 11 #[v0, str nm] h fun u h' => Ext h h' ∧ ∃ l, RdS h' u l ∧ RchOf (Stp e e) nm l := by
  refine sh_calls_Needs ?_
  unfold g_calls_Needs
  refine oCall_func (.mono (reached_ok r0 r0 (by have := sm.len; unfold big; omega) fun a x hx => by have := sm.row a x hx; unfold big; omega) ?_)
  exact fun u h' hk => hk
end Go.Proofs.Ytfhbpghgcgmegaa
