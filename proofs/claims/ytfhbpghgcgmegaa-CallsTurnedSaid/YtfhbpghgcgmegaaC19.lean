/- In plain Lean: what follows of components, of who needs and who uses. -/
import Derived.Test.YtfhbpghgcgmegaaC17
set_option linter.unusedVariables false
namespace Go.Proofs.Ytfhbpghgcgmegaa
open Go Go.Sh Go.Proofs

/-- A call between keys. -/
def Dir (e : List (Str × List Str)) (a b : Str) : Prop := a ∈ e.map (·.1) ∧ b ∈ e.map (·.1) ∧ b ∈ (get e a).getD []
theorem RP.tail {α : Type} {E : α → α → Prop} {a x : α} : RP E a x ↔ ∃ b, Rch E a b ∧ E b x := by
  constructor
  · rintro ⟨b, h1, h2⟩
    induction h2 with
    | refl => exact ⟨a, .refl _, h1⟩
    | tail h e ih => exact ⟨_, .head h1 h, e⟩
  · rintro ⟨b, h1, h2⟩
    rcases h1.cases with rfl | ⟨c, h3, h4⟩
    · exact ⟨x, h2, .refl _⟩
    · exact ⟨c, h3, .tail h4 h2⟩
theorem rch_iff {α : Type} {E : α → α → Prop} {a x : α} : Rch E a x ↔ a = x ∨ RP E a x := by
  constructor
  · exact fun h => h.cases
  · rintro (rfl | ⟨b, h1, h2⟩)
    · exact .refl _
    · exact .head h1 h2
theorem needs_dir {e : List (Str × List Str)} {a : Str} (ha : a ∈ e.map (·.1)) (b : Str) : RP (Stp e e) a b ↔ RP (Dir e) a b := by
  constructor
  · rintro ⟨c, h1, h2⟩
    have hc : c ∈ e.map (·.1) := h1.2
    have key : ∀ x, Rch (Stp e e) c x → x ∈ e.map (·.1) ∧ Rch (Dir e) c x := fun x hx => by
      induction hx with
      | refl => exact ⟨hc, .refl _⟩
      | tail _ e' ih => exact ⟨e'.2, .tail ih.2 ⟨ih.1, e'.2, e'.1⟩⟩
    exact ⟨c, ⟨ha, h1.2, h1.1⟩, (key b h2).2⟩
  · rintro ⟨c, h1, h2⟩
    exact ⟨c, ⟨h1.2.2, h1.2.1⟩, h2.mono fun x y h => ⟨h.2.2, h.2.1⟩⟩
theorem users_dir {e : List (Str × List Str)} {b : Str} (hb : b ∈ e.map (·.1)) (a : Str) : RP (Bk e) b a ↔ RP (Dir e) a b := by
  constructor
  · rintro ⟨c, h1, h2⟩
    have key : ∀ x, Rch (Bk e) c x → x ∈ e.map (·.1) ∧ Rch (Dir e) x c := fun x hx => by
      induction hx with
      | refl => exact ⟨h1.2, .refl _⟩
      | tail _ e' ih => exact ⟨e'.2, .head ⟨e'.2, ih.1, e'.1⟩ ih.2⟩
    exact RP.tail.2 ⟨c, (key a h2).2, h1.2, hb, h1.1⟩
  · intro h
    obtain ⟨c, h1, h2⟩ := RP.tail.1 h
    exact ⟨c, ⟨h2.2.2, h2.1⟩, h1.rev fun x y h => ⟨h.2.2, h.1⟩⟩

/-- Alike: the same keys, the same calls between them. -/
structure Alike (e f : List (Str × List Str)) : Prop where
  keys : e.map (·.1) = f.map (·.1)
  nodup : (e.map (·.1)).Nodup
  mem : ∀ a b, a ∈ e.map (·.1) → b ∈ e.map (·.1) → (b ∈ (get e a).getD [] ↔ b ∈ (get f a).getD [])
theorem Alike.dir {e f : List (Str × List Str)} (h : Alike e f) (a b : Str) : Dir e a b ↔ Dir f a b := by
  unfold Dir
  rw [← h.keys]
  exact ⟨fun ⟨h1, h2, h3⟩ => ⟨h1, h2, (h.mem a b h1 h2).1 h3⟩, fun ⟨h1, h2, h3⟩ => ⟨h1, h2, (h.mem a b h1 h2).2 h3⟩⟩
theorem Alike.rp {e f : List (Str × List Str)} (h : Alike e f) (a b : Str) : RP (Dir e) a b ↔ RP (Dir f) a b := by
  constructor
  · rintro ⟨c, h1, h2⟩; exact ⟨c, (h.dir _ _).1 h1, h2.mono fun x y => (h.dir x y).1⟩
  · rintro ⟨c, h1, h2⟩; exact ⟨c, (h.dir _ _).2 h1, h2.mono fun x y => (h.dir x y).2⟩
theorem Alike.comps {e f : List (Str × List Str)} (h : Alike e f) {cs ds : List (List Str)} (h1 : CompsOf e cs) (h2 : CompsOf f ds) : cs = ds := by
  obtain ⟨of, m, l, o, a, rfl⟩ := h2
  have hK : keysOf e = keysOf f := by unfold keysOf; rw [h.keys]
  have hnd : (keysOf f).Nodup := by rw [← hK]; exact (sortS_perm _).nodup_iff.2 h.nodup
  have hm : ∀ a, a ∈ keysOf f ↔ a ∈ e.map (·.1) := fun a => by rw [← hK]; exact (sortS_perm _).mem_iff
  refine compsOf_eq h1 hK (fun i j => ?_) o a
  rw [edg_nums hnd, edg_nums hnd]
  constructor
  · rintro ⟨x, y, h3, h4, h5⟩
    exact ⟨x, y, h3, h4, (h.mem x y ((hm x).1 (List.mem_of_getElem? h3)) ((hm y).1 (List.mem_of_getElem? h4))).1 h5⟩
  · rintro ⟨x, y, h3, h4, h5⟩
    exact ⟨x, y, h3, h4, (h.mem x y ((hm x).1 (List.mem_of_getElem? h3)) ((hm y).1 (List.mem_of_getElem? h4))).2 h5⟩
theorem Alike.needs {e f : List (Str × List Str)} (h : Alike e f) {a : Str} (ha : a ∈ e.map (·.1)) {l m : List Str} (h1 : RchOf (Stp e e) a l) (h2 : RchOf (Stp f f) a m) : l = m :=
  h1.unique h2 fun x => by rw [needs_dir ha, needs_dir (h.keys ▸ ha), h.rp]
theorem Alike.users {e f : List (Str × List Str)} (h : Alike e f) {a : Str} (ha : a ∈ e.map (·.1)) {l m : List Str} (h1 : UsersOf e a l) (h2 : UsersOf f a m) : l = m := by
  rcases h1 with h1 | ⟨_, h1⟩
  · exact absurd ha h1.1
  · rcases h2 with h2 | ⟨_, h2⟩
    · exact absurd (h.keys ▸ ha) h2.1
    · exact h1.unique h2 fun x => by rw [users_dir ha, users_dir (h.keys ▸ ha), h.rp]
theorem back_same {e : List (Str × List Str)} {a b : Str} (ha : a ∈ e.map (·.1)) (hb : b ∈ e.map (·.1)) {l m : List Str} (h1 : RchOf (Stp e e) a l) (h2 : UsersOf e b m) : b ∈ l ↔ a ∈ m := by
  rcases h2 with h2 | ⟨_, h2⟩
  · exact absurd hb h2.1
  · rw [h1.2.2, h2.2.2, needs_dir ha, users_dir hb]

/-! Components. -/
theorem mem_names {K : List Str} {of : List Nat} {c : Nat} {x : Str} : x ∈ names K of c ↔ ∃ i : Nat, K[i]? = some x ∧ of[i]? = some c := by
  unfold names
  simp only [List.mem_map, List.mem_filter, beq_iff_eq]
  constructor
  · rintro ⟨⟨a, d⟩, ⟨h1, rfl⟩, rfl⟩
    obtain ⟨i, hi⟩ := List.getElem?_of_mem h1
    exact ⟨i, List.getElem?_zip_eq_some.1 hi⟩
  · rintro ⟨i, h1, h2⟩
    have : (K.zip of)[i]? = some (x, c) := List.getElem?_zip_eq_some.2 ⟨h1, h2⟩
    exact ⟨(x, c), ⟨List.mem_of_getElem? this, rfl⟩, rfl⟩
theorem zip_fst_sub {α β : Type} : ∀ (K : List α) (l : List β), ((K.zip l).map Prod.fst).Sublist K
  | [], _ => by simp
  | x :: K, [] => by simp
  | x :: K, y :: l => by
    simp only [List.zip_cons_cons, List.map_cons]
    exact (zip_fst_sub K l).cons_cons x
theorem names_sub (K : List Str) (of : List Nat) (c : Nat) : (names K of c).Sublist K := by
  have h1 : ((K.zip of).filter fun p => p.2 == c).Sublist (K.zip of) := List.filter_sublist
  have h2 := h1.map Prod.fst
  refine h2.trans ?_
  exact zip_fst_sub K of
structure CFacts (e : List (Str × List Str)) (cs : List (List Str)) : Prop where
  nodup : cs.flatten.Nodup
  mem : ∀ x, x ∈ cs.flatten ↔ x ∈ e.map (·.1)
  same : ∀ (r s : Nat) (a b : List Str) (x y : Str), cs[r]? = some a → cs[s]? = some b → x ∈ a → y ∈ b → (r = s ↔ x = y ∨ (RP (Dir e) x y ∧ RP (Dir e) y x))
  ord : ∀ (r s : Nat) (a b : List Str) (x y : Str), cs[r]? = some a → cs[s]? = some b → x ∈ a → y ∈ b → RP (Dir e) x y → s ≤ r
theorem comps_facts {e : List (Str × List Str)} (hn : (e.map (·.1)).Nodup) {cs : List (List Str)} (h : CompsOf e cs) : CFacts e cs := by
  obtain ⟨of, m, l, o, a, rfl⟩ := h
  have hkp := sortS_perm (e.map (·.1))
  have hnd : (keysOf e).Nodup := hkp.nodup_iff.2 hn
  have hmK : ∀ x, x ∈ keysOf e ↔ x ∈ e.map (·.1) := fun x => hkp.mem_iff
  have hinj : ∀ (i j : Nat) x, (keysOf e)[i]? = some x → (keysOf e)[j]? = some x → i = j := fun i j x h1 h2 =>
    (List.getElem?_inj (List.getElem?_eq_some_iff.1 h1).1 hnd).1 (h1.trans h2.symm)
  have linj : ∀ (r s : Nat) c, l[r]? = some c → l[s]? = some c → r = s := fun r s c h1 h2 =>
    (List.getElem?_inj (List.getElem?_eq_some_iff.1 h1).1 a.nodup).1 (h1.trans h2.symm)
  have hg : ∀ (r : Nat) (n : List Str), (l.map (names (keysOf e) of))[r]? = some n → ∃ c, l[r]? = some c ∧ n = names (keysOf e) of c := fun r n hr => by
    rw [List.getElem?_map, Option.map_eq_some_iff] at hr
    obtain ⟨c, h1, rfl⟩ := hr
    exact ⟨c, h1, rfl⟩
  -- edges by names and by numbers
  have hed : ∀ (i j : Nat) x y, (keysOf e)[i]? = some x → (keysOf e)[j]? = some y → (Edg (nums e (keysOf e)) i j ↔ Dir e x y) := fun i j x y hx hy => by
    rw [edg_nums hnd]
    unfold Dir
    constructor
    · rintro ⟨x', y', h1, h2, h3⟩
      rw [hx] at h1; rw [hy] at h2
      simp only [Option.some.injEq] at h1 h2
      subst h1; subst h2
      exact ⟨(hmK _).1 (List.mem_of_getElem? hx), (hmK _).1 (List.mem_of_getElem? hy), h3⟩
    · rintro ⟨_, _, h3⟩
      exact ⟨x, y, hx, hy, h3⟩
  have hto : ∀ (i j : Nat), Rch (Edg (nums e (keysOf e))) i j → ∀ x y, (keysOf e)[i]? = some x → (keysOf e)[j]? = some y → Rch (Dir e) x y := fun i j hr => by
    induction hr with
    | refl =>
      intro x y hx hy
      rw [hx] at hy
      simp only [Option.some.injEq] at hy
      rw [hy]; exact .refl _
    | tail h1 h2 ih =>
      intro x y hx hy
      obtain ⟨x', y', h3, h4, _⟩ := (edg_nums hnd).1 h2
      refine .tail (ih x x' hx h3) ?_
      exact (hed _ _ x' y h3 hy).1 h2
  have hfrom : ∀ x y, Rch (Dir e) x y → ∀ (i j : Nat), (keysOf e)[i]? = some x → (keysOf e)[j]? = some y → Rch (Edg (nums e (keysOf e))) i j := fun x y hr => by
    induction hr with
    | refl =>
      intro i j hi hj
      rw [hinj i j x hi hj]; exact .refl _
    | tail h1 h2 ih =>
      intro i j hi hj
      obtain ⟨q, hq⟩ := List.getElem?_of_mem ((hmK _).2 h2.1)
      exact .tail (ih i q hi hq) ((hed q j _ _ hq hj).2 h2)
  have hpos : ∀ (i c : Nat), of[i]? = some c → ∃ r : Nat, l[r]? = some c := fun i c hi => List.getElem?_of_mem ((a.mem c).2 (o.lt c (List.mem_of_getElem? hi)))
  have hstep : ∀ (i j c d r s : Nat), Edg (nums e (keysOf e)) i j → of[i]? = some c → of[j]? = some d → l[r]? = some c → l[s]? = some d → s ≤ r := fun i j c d r s he hi hj hr hs => by
    by_cases hcd : c = d
    · subst hcd
      rw [linj r s c hr hs]; exact Nat.le_refl _
    · have h1 := a.ready (l.take r) c (l.drop (r + 1)) (by
        have := List.getElem?_eq_some_iff.1 hr
        rw [← this.2, List.getElem_cons_drop, List.take_append_drop]) d ⟨i, j, he, hi, hj, hcd⟩
      obtain ⟨q, hq⟩ := List.getElem?_of_mem h1
      rw [List.getElem?_take] at hq
      split at hq
      · have := linj q s d hq hs
        omega
      · cases hq
  have hord : ∀ (i j : Nat), Rch (Edg (nums e (keysOf e))) i j → ∀ c d r s : Nat, of[i]? = some c → of[j]? = some d → l[r]? = some c → l[s]? = some d → s ≤ r := fun i j hr => by
    induction hr with
    | refl =>
      intro c d r s h1 h2 h3 h4
      rw [h1] at h2
      simp only [Option.some.injEq] at h2
      subst h2
      rw [linj r s c h3 h4]; exact Nat.le_refl _
    | tail h1 h2 ih =>
      rename_i p q
      intro c d r s h3 h4 h5 h6
      have hp : p < (keysOf e).length := by
        obtain ⟨x', _, h7, _⟩ := (edg_nums hnd).1 h2
        exact (List.getElem?_eq_some_iff.1 h7).1
      obtain ⟨f, hf⟩ : ∃ f, of[p]? = some f := ⟨_, List.getElem?_eq_getElem (by rw [o.len]; exact hp)⟩
      obtain ⟨t, ht⟩ := hpos p f hf
      exact Nat.le_trans (hstep p q f d t s h2 hf h4 ht h6) (ih c f r t h3 hf h5 ht)
  refine ⟨?_, fun x => ?_, fun r s n1 n2 x y hr hs hx hy => ?_, fun r s n1 n2 x y hr hs hx hy hxy => ?_⟩
  · rw [List.Nodup, List.pairwise_flatten]
    refine ⟨fun n hn' => ?_, ?_⟩
    · obtain ⟨c, _, rfl⟩ := List.mem_map.1 hn'
      exact hnd.sublist (names_sub _ _ _)
    · rw [List.pairwise_map]
      refine a.nodup.imp ?_
      intro c d hcd x hx y hy hxy
      subst hxy
      obtain ⟨i, h1, h2⟩ := mem_names.1 hx
      obtain ⟨j, h3, h4⟩ := mem_names.1 hy
      rw [hinj i j x h1 h3] at h2
      rw [h2] at h4
      simp only [Option.some.injEq] at h4
      exact hcd h4
  · rw [← hmK]
    simp only [List.mem_flatten, List.mem_map]
    constructor
    · rintro ⟨n, ⟨c, _, rfl⟩, hx⟩
      obtain ⟨i, h1, _⟩ := mem_names.1 hx
      exact List.mem_of_getElem? h1
    · intro hx
      obtain ⟨i, hi⟩ := List.getElem?_of_mem hx
      obtain ⟨c, hc⟩ : ∃ c, of[i]? = some c := ⟨_, List.getElem?_eq_getElem (by rw [o.len]; exact (List.getElem?_eq_some_iff.1 hi).1)⟩
      exact ⟨_, ⟨c, (a.mem c).2 (o.lt c (List.mem_of_getElem? hc)), rfl⟩, mem_names.2 ⟨i, hi, hc⟩⟩
  · obtain ⟨c, hc, rfl⟩ := hg r n1 hr
    obtain ⟨d, hd, rfl⟩ := hg s n2 hs
    obtain ⟨i, h1, h2⟩ := mem_names.1 hx
    obtain ⟨j, h3, h4⟩ := mem_names.1 hy
    have hrs : r = s ↔ c = d := by
      constructor
      · rintro rfl
        rw [hc] at hd
        simpa using hd
      · rintro rfl
        exact linj r s c hc hd
    rw [hrs, o.tog i j c d h2 h4]
    constructor
    · rintro ⟨h5, h6⟩
      rcases rch_iff.1 (hto i j h5 x y h1 h3) with h7 | h7
      · exact .inl h7
      · rcases rch_iff.1 (hto j i h6 y x h3 h1) with h8 | h8
        · exact .inl h8.symm
        · exact .inr ⟨h7, h8⟩
    · rintro (rfl | ⟨h5, h6⟩)
      · rw [hinj i j x h1 h3]; exact Tog.refl _
      · exact ⟨hfrom x y (rch_iff.2 (.inr h5)) i j h1 h3, hfrom y x (rch_iff.2 (.inr h6)) j i h3 h1⟩
  · obtain ⟨c, hc, rfl⟩ := hg r n1 hr
    obtain ⟨d, hd, rfl⟩ := hg s n2 hs
    obtain ⟨i, h1, h2⟩ := mem_names.1 hx
    obtain ⟨j, h3, h4⟩ := mem_names.1 hy
    exact hord i j (hfrom x y (rch_iff.2 (.inr hxy)) i j h1 h3) c d r s h2 h4 hc hd
end Go.Proofs.Ytfhbpghgcgmegaa
