/- Search in depth, in plain Lean: what is finished, in which order. -/
import Derived.Test.YtfhbpghgcgmegaaCol
set_option linter.unusedVariables false
namespace Go.Sh

/-- An edge from a node to a node. -/
def Edg (next : List (List Nat)) (i j : Nat) : Prop := ∃ l, next[i]? = some l ∧ j ∈ l
/-- In any number of steps. -/
inductive Rch {α : Type} (E : α → α → Prop) : α → α → Prop
  | refl (a : α) : Rch E a a
  | tail {a b c : α} : Rch E a b → E b c → Rch E a c
theorem Rch.one {α : Type} {E : α → α → Prop} {a b : α} (h : E a b) : Rch E a b := .tail (.refl a) h
theorem Rch.trans {α : Type} {E : α → α → Prop} {a b c : α} (h : Rch E a b) (k : Rch E b c) : Rch E a c := by
  induction k with
  | refl => exact h
  | tail _ e ih => exact .tail ih e
theorem Rch.head {α : Type} {E : α → α → Prop} {a b c : α} (h : E a b) (k : Rch E b c) : Rch E a c := (Rch.one h).trans k
/-- From the front. -/
theorem Rch.cases {α : Type} {E : α → α → Prop} {a c : α} (h : Rch E a c) : a = c ∨ ∃ b, E a b ∧ Rch E b c := by
  induction h with
  | refl => exact .inl rfl
  | tail h e ih =>
    rcases ih with rfl | ⟨b, h1, h2⟩
    · exact .inr ⟨_, e, .refl _⟩
    · exact .inr ⟨b, h1, .tail h2 e⟩
theorem Rch.mono {α : Type} {E F : α → α → Prop} (hm : ∀ a b, E a b → F a b) {a b : α} (h : Rch E a b) : Rch F a b := by
  induction h with
  | refl => exact .refl _
  | tail _ e ih => exact .tail ih (hm _ _ e)
theorem Rch.rev {α : Type} {E F : α → α → Prop} (hm : ∀ a b, E a b → F b a) {a b : α} (h : Rch E a b) : Rch F b a := by
  induction h with
  | refl => exact .refl _
  | tail _ e ih => exact .head (hm _ _ e) ih
/-- Each reaches the other. -/
def Tog {α : Type} (E : α → α → Prop) (a b : α) : Prop := Rch E a b ∧ Rch E b a
theorem Tog.refl {α : Type} {E : α → α → Prop} (a : α) : Tog E a a := ⟨.refl _, .refl _⟩
theorem Tog.symm {α : Type} {E : α → α → Prop} {a b : α} (h : Tog E a b) : Tog E b a := ⟨h.2, h.1⟩
theorem Tog.trans {α : Type} {E : α → α → Prop} {a b c : α} (h : Tog E a b) (k : Tog E b c) : Tog E a c := ⟨h.1.trans k.1, k.2.trans h.2⟩

/-- The stack is a way. -/
def Way (E : Nat → Nat → Prop) : List (Nat × Nat) → Prop
  | (a, _) :: (b, e) :: l => E a b ∧ Way E ((b, e) :: l)
  | _ => True
theorem Way.snoc {E : Nat → Nat → Prop} {v : Nat} {e : Nat} {x : Nat × Nat} : ∀ {st : List (Nat × Nat)}, Way E (st ++ [(v, e)]) → E v x.1 → ∀ e', Way E (st ++ [(v, e')] ++ [x])
  | [], _, h, e' => ⟨h, trivial⟩
  | [(a, _)], hw, h, e' => ⟨hw.1, h, trivial⟩
  | (a, _) :: (b, f) :: st, hw, h, e' => ⟨hw.1, Way.snoc (st := (b, f) :: st) hw.2 h e'⟩
theorem Way.setTop {E : Nat → Nat → Prop} {v : Nat} {e : Nat} : ∀ {st : List (Nat × Nat)}, Way E (st ++ [(v, e)]) → ∀ e', Way E (st ++ [(v, e')])
  | [], _, e' => trivial
  | [(a, _)], hw, e' => ⟨hw.1, trivial⟩
  | (a, _) :: (b, f) :: st, hw, e' => ⟨hw.1, Way.setTop (st := (b, f) :: st) hw.2 e'⟩
theorem Way.pop {E : Nat → Nat → Prop} {x : Nat × Nat} : ∀ {st : List (Nat × Nat)}, Way E (st ++ [x]) → Way E st
  | [], _ => trivial
  | [_], _ => trivial
  | (a, _) :: (b, f) :: st, hw => ⟨hw.1, Way.pop (st := (b, f) :: st) hw.2⟩
theorem Way.reach {E : Nat → Nat → Prop} {v e : Nat} : ∀ {st : List (Nat × Nat)}, Way E (st ++ [(v, e)]) → ∀ p ∈ st, Rch E p.1 v
  | [], _, p, h => by simp at h
  | [(a, f)], hw, p, h => by
    simp only [List.mem_singleton] at h
    subst h
    exact .one hw.1
  | (a, g) :: (b, f) :: st, hw, p, h => by
    have ih := Way.reach (st := (b, f) :: st) hw.2
    rcases List.mem_cons.1 h with rfl | h
    · exact .head hw.1 (ih (b, f) (by simp))
    · exact ih p h

/-- What holds at any time of the search. -/
structure Dfs (next : List (List Nat)) (seen : List Bool) (r : List Nat) (path : List (Nat × Nat)) : Prop where
  len : seen.length = next.length
  sees : ∀ v, seen[v]? = some true ↔ v ∈ r ∨ v ∈ path.map (·.1)
  nodup : (r ++ path.map (·.1)).Nodup
  way : Way (Edg next) path
  part : ∀ p ∈ path, ∃ l, next[p.1]? = some l ∧ p.2 ≤ l.length ∧ ∀ k j, k < p.2 → l[k]? = some j → seen[j]? = some true
  done : ∀ u ∈ r, ∀ j, Edg next u j → seen[j]? = some true
  ord : ∀ pre u post, r = pre ++ u :: post → ∀ v, Rch (Edg next) u v → v ∈ pre ∨ v = u ∨ ∃ w, (w ∈ post ∨ w ∈ path.map (·.1)) ∧ Tog (Edg next) u w

theorem Dfs.lt {next : List (List Nat)} {seen : List Bool} {r : List Nat} {path : List (Nat × Nat)} (d : Dfs next seen r path) : ∀ v, v ∈ r ++ path.map (·.1) → v < next.length := fun v hv => by
  have h1 := (d.sees v).2 (by simpa using hv)
  rw [← d.len]
  exact (List.getElem?_eq_some_iff.1 h1).1
theorem Dfs.start (next : List (List Nat)) : Dfs next (List.replicate next.length false) [] [] where
  len := by simp
  sees v := by simp [List.getElem?_replicate]
  nodup := by simp
  way := trivial
  part p h := by simp at h
  done u h := by simp at h
  ord pre u post h := by simp at h
/-- A new node on the stack. -/
theorem seen_set {seen : List Bool} {v : Nat} (h : v < seen.length) (j : Nat) : (seen.set v true)[j]? = some true ↔ j = v ∨ seen[j]? = some true := by
  rw [List.getElem?_set]
  by_cases e : v = j
  · subst e; simp [h]
  · rw [if_neg e]
    exact ⟨.inr, fun h => h.resolve_left fun h => e h.symm⟩
theorem Dfs.root {next : List (List Nat)} {seen : List Bool} {r : List Nat} {v : Nat} (d : Dfs next seen r []) (hv : seen[v]? = some false) : Dfs next (seen.set v true) r [(v, 0)] where
  len := by simpa using d.len
  sees j := by
    rw [seen_set (List.getElem?_eq_some_iff.1 hv).1, d.sees]
    simp [or_comm]
  nodup := by
    have h1 := d.nodup
    have : v ∉ r := fun h => by
      have := (d.sees v).2 (.inl h)
      rw [hv] at this; simp at this
    simp only [List.map_nil, List.append_nil] at h1
    rw [List.nodup_append]
    refine ⟨h1, by simp, fun a ha b hb => ?_⟩
    simp only [List.map_cons, List.map_nil, List.mem_singleton] at hb
    subst hb
    exact fun e => this (e ▸ ha)
  way := trivial
  part p h := by
    simp only [List.mem_singleton] at h
    subst h
    have hlt : v < next.length := by rw [← d.len]; exact (List.getElem?_eq_some_iff.1 hv).1
    exact ⟨next[v], List.getElem?_eq_getElem hlt, Nat.zero_le _, fun k j hk => by simp at hk⟩
  done u hu j hj := (seen_set (List.getElem?_eq_some_iff.1 hv).1 j).2 (.inr (d.done u hu j hj))
  ord pre u post h w hw := by
    rcases d.ord pre u post h w hw with h1 | h1 | ⟨x, h1, h2⟩
    · exact .inl h1
    · exact .inr (.inl h1)
    · refine .inr (.inr ⟨x, ?_, h2⟩)
      rcases h1 with h1 | h1
      · exact .inl h1
      · simp at h1
/-- The next edge of the top leads to a node that is seen. -/
theorem Dfs.skip {next : List (List Nat)} {seen : List Bool} {r : List Nat} {st : List (Nat × Nat)} {v e j : Nat} {l : List Nat} (d : Dfs next seen r (st ++ [(v, e)]))
    (hl : next[v]? = some l) (hj : l[e]? = some j) (hs : seen[j]? = some true) : Dfs next seen r (st ++ [(v, e + 1)]) where
  len := d.len
  sees w := by rw [d.sees]; simp
  nodup := by simpa using d.nodup
  way := d.way.setTop _
  part p h := by
    rcases List.mem_append.1 h with h | h
    · exact d.part p (by simp [h])
    · simp only [List.mem_singleton] at h
      subst h
      obtain ⟨l', h1, h2, h3⟩ := d.part (v, e) (by simp)
      simp only at h1
      rw [hl] at h1
      simp only [Option.some.injEq] at h1
      subst h1
      refine ⟨l, hl, (List.getElem?_eq_some_iff.1 hj).1, fun k i hk hi => ?_⟩
      by_cases hke : k = e
      · subst hke
        rw [hj] at hi
        simp only [Option.some.injEq] at hi
        rw [← hi]; exact hs
      · exact h3 k i (by simp only at hk ⊢; omega) hi
  done := d.done
  ord pre u post h w hw := by simpa using d.ord pre u post h w hw
/-- It leads to a new node. -/
theorem Dfs.push {next : List (List Nat)} {seen : List Bool} {r : List Nat} {st : List (Nat × Nat)} {v e j : Nat} {l : List Nat} (d : Dfs next seen r (st ++ [(v, e)]))
    (hl : next[v]? = some l) (hj : l[e]? = some j) (hs : seen[j]? = some false) : Dfs next (seen.set j true) r (st ++ [(v, e + 1)] ++ [(j, 0)]) := by
  have hlt : j < seen.length := (List.getElem?_eq_some_iff.1 hs).1
  have hss := seen_set hlt
  have hnew : ¬ (j ∈ r ∨ j ∈ (st ++ [(v, e)]).map (·.1)) := fun h => by
    have := (d.sees j).2 h
    rw [hs] at this; simp at this
  refine ⟨by simpa using d.len, fun w => ?_, ?_, d.way.snoc ⟨l, hl, List.mem_of_getElem? hj⟩ _, fun p h => ?_, fun u hu w hw => (hss w).2 (.inr (d.done u hu w hw)), fun pre u post h w hw => ?_⟩
  · rw [hss, d.sees]
    simp only [List.map_append, List.map_cons, List.map_nil, List.mem_append, List.mem_singleton]
    constructor
    · rintro (h | h | h | h)
      · exact .inr (.inr h)
      · exact .inl h
      · exact .inr (.inl (.inl h))
      · exact .inr (.inl (.inr h))
    · rintro (h | (h | h) | h)
      · exact .inr (.inl h)
      · exact .inr (.inr (.inl h))
      · exact .inr (.inr (.inr h))
      · exact .inl h
  · have h1 := d.nodup
    have e1 : r ++ (st ++ [(v, e + 1)] ++ [(j, 0)]).map Prod.fst = (r ++ (st ++ [(v, e)]).map Prod.fst) ++ [j] := by simp
    rw [e1, List.nodup_append]
    refine ⟨h1, by simp, fun a ha b hb => ?_⟩
    simp only [List.mem_singleton] at hb
    subst hb
    exact fun e => hnew (by rw [← e]; simpa using ha)
  · rcases List.mem_append.1 h with h | h
    · rcases List.mem_append.1 h with h | h
      · obtain ⟨l', h1, h2, h3⟩ := d.part p (by simp [h])
        exact ⟨l', h1, h2, fun k i hk hi => (hss i).2 (.inr (h3 k i hk hi))⟩
      · simp only [List.mem_singleton] at h
        subst h
        obtain ⟨l', h1, h2, h3⟩ := d.part (v, e) (by simp)
        simp only at h1
        rw [hl] at h1
        simp only [Option.some.injEq] at h1
        subst h1
        refine ⟨l, hl, (List.getElem?_eq_some_iff.1 hj).1, fun k i hk hi => (hss i).2 ?_⟩
        by_cases hke : k = e
        · subst hke
          rw [hj] at hi
          simp only [Option.some.injEq] at hi
          exact .inl hi.symm
        · exact .inr (h3 k i (by simp only at hk ⊢; omega) hi)
    · simp only [List.mem_singleton] at h
      subst h
      have hjn : j < next.length := by rw [← d.len]; exact hlt
      exact ⟨next[j], List.getElem?_eq_getElem hjn, Nat.zero_le _, fun k i hk => by simp at hk⟩
  · rcases d.ord pre u post h w hw with h1 | h1 | ⟨x, h1, h2⟩
    · exact .inl h1
    · exact .inr (.inl h1)
    · refine .inr (.inr ⟨x, ?_, h2⟩)
      rcases h1 with h1 | h1
      · exact .inl h1
      · refine .inr ?_
        simp only [List.map_append, List.map_cons, List.map_nil, List.mem_append, List.mem_singleton] at h1 ⊢
        exact .inl h1
/-- The top has no edges left. -/
theorem Dfs.leave {next : List (List Nat)} {seen : List Bool} {r : List Nat} {st : List (Nat × Nat)} {v e : Nat} {l : List Nat} (d : Dfs next seen r (st ++ [(v, e)]))
    (hl : next[v]? = some l) (he : e = l.length) : Dfs next seen (r ++ [v]) st := by
  have hv : ∀ j, Edg next v j → seen[j]? = some true := by
    rintro j ⟨l', h1, h2⟩
    rw [hl] at h1
    simp only [Option.some.injEq] at h1
    subst h1
    obtain ⟨l', h1, h2', h3⟩ := d.part (v, e) (by simp)
    simp only at h1
    rw [hl] at h1
    simp only [Option.some.injEq] at h1
    subst h1
    obtain ⟨k, hk, rfl⟩ := List.getElem_of_mem h2
    exact h3 k _ (by simp only; omega) (List.getElem?_eq_getElem hk)
  have hnd : (r ++ [v] ++ st.map (·.1)).Nodup := by
    have h1 := d.nodup
    have h2 : (r ++ (st ++ [(v, e)]).map (·.1)).Perm (r ++ [v] ++ st.map (·.1)) := by
      rw [List.map_append, List.append_assoc]
      exact List.Perm.append_left r List.perm_append_comm
    exact h2.nodup_iff.1 h1
  refine ⟨d.len, fun w => ?_, hnd, d.way.pop, fun p h => d.part p (by simp [h]), fun u hu j hj => ?_, fun pre u post h w hw => ?_⟩
  · rw [d.sees]
    simp only [List.map_append, List.map_cons, List.map_nil, List.mem_append, List.mem_singleton]
    constructor
    · rintro (h | h | h)
      · exact .inl (.inl h)
      · exact .inr h
      · exact .inl (.inr h)
    · rintro ((h | h) | h)
      · exact .inl h
      · exact .inr (.inr h)
      · exact .inr (.inl h)
  · rcases List.mem_append.1 hu with hu | hu
    · exact d.done u hu j hj
    · simp only [List.mem_singleton] at hu
      subst hu
      exact hv j hj
  · rcases List.eq_nil_or_concat post with rfl | ⟨post', y, rfl⟩
    · have h1 : r = pre ∧ v = u := by
        have := List.append_inj' h rfl
        exact ⟨this.1, by simpa using this.2⟩
      obtain ⟨rfl, rfl⟩ := h1
      by_cases hex : ∃ x, x ∈ st.map (·.1) ∧ Tog (Edg next) v x
      · obtain ⟨x, h1, h2⟩ := hex
        exact .inr (.inr ⟨x, .inr h1, h2⟩)
      · have key : ∀ w, Rch (Edg next) v w → w ∈ r ∨ w = v := by
          intro w hw
          induction hw with
          | refl => exact .inr rfl
          | tail h1 h2 ih =>
            rename_i b c
            have hc : seen[c]? = some true := by
              rcases ih with ih | ih
              · exact d.done _ ih _ h2
              · exact hv _ (ih ▸ h2)
            rcases (d.sees c).1 hc with h3 | h3
            · exact .inl h3
            · simp only [List.map_append, List.map_cons, List.map_nil, List.mem_append, List.mem_singleton] at h3
              rcases h3 with h3 | h3
              · exfalso
                refine hex ⟨c, h3, h1.trans (.one h2), ?_⟩
                obtain ⟨p, hp, rfl⟩ := List.mem_map.1 h3
                exact d.way.reach p hp
              · exact .inr h3
        rcases key w hw with h1 | h1
        · exact .inl h1
        · exact .inr (.inl h1)
    · have h1 : r = pre ++ u :: post' ∧ v = y := by
        have h2 : r ++ [v] = (pre ++ u :: post') ++ [y] := by rw [h]; simp
        have := List.append_inj' h2 rfl
        exact ⟨this.1, by simpa using this.2⟩
      obtain ⟨h1, rfl⟩ := h1
      rcases d.ord pre u post' h1 w hw with h3 | h3 | ⟨x, h3, h4⟩
      · exact .inl h3
      · exact .inr (.inl h3)
      · refine .inr (.inr ⟨x, ?_, h4⟩)
        simp only [List.map_append, List.map_cons, List.map_nil, List.mem_append, List.mem_singleton] at h3
        rcases h3 with h3 | h3 | h3
        · exact .inl (by simp [h3])
        · exact .inr h3
        · exact .inl (by simp [h3])

theorem count_set_true {seen : List Bool} {j : Nat} (h : seen[j]? = some false) : (seen.set j true).count false + 1 = seen.count false := by
  obtain ⟨hlt, he⟩ := List.getElem?_eq_some_iff.1 h
  have hp : 0 < seen.count false := List.count_pos_iff.2 (he ▸ List.getElem_mem hlt)
  rw [List.count_set hlt, he]
  simp
  omega
/-- How much is still to be done. -/
def dfsM (next : List (List Nat)) (B : Nat) (seen : List Bool) (path : List (Nat × Nat)) : Nat :=
  seen.count false * (B + 3) + (path.map fun p => (next.getD p.1 []).length - p.2 + 1).sum
theorem dfsM_skip {next : List (List Nat)} {B : Nat} {seen : List Bool} {st : List (Nat × Nat)} {v e j : Nat} {l : List Nat} (hl : next[v]? = some l) (hj : l[e]? = some j) :
    dfsM next B seen (st ++ [(v, e + 1)]) < dfsM next B seen (st ++ [(v, e)]) := by
  have he : e < l.length := (List.getElem?_eq_some_iff.1 hj).1
  have hg : next.getD v [] = l := by rw [List.getD_eq_getElem?_getD, hl]; rfl
  simp only [dfsM, List.map_append, List.map_cons, List.map_nil, List.sum_append, List.sum_cons, List.sum_nil, hg]
  omega
theorem dfsM_push {next : List (List Nat)} {B : Nat} {seen : List Bool} {st : List (Nat × Nat)} {v e j : Nat} {l : List Nat} (hB : ∀ l ∈ next, l.length ≤ B) (hl : next[v]? = some l) (hj : l[e]? = some j) (hs : seen[j]? = some false) :
    dfsM next B (seen.set j true) (st ++ [(v, e + 1)] ++ [(j, 0)]) < dfsM next B seen (st ++ [(v, e)]) := by
  have he : e < l.length := (List.getElem?_eq_some_iff.1 hj).1
  have hg : next.getD v [] = l := by rw [List.getD_eq_getElem?_getD, hl]; rfl
  have hc := count_set_true hs
  have hb : (next.getD j []).length ≤ B := by
    rw [List.getD_eq_getElem?_getD]
    rcases h : next[j]? with _ | m
    · simp
    · simpa using hB m (List.mem_of_getElem? h)
  simp only [dfsM, List.map_append, List.map_cons, List.map_nil, List.sum_append, List.sum_cons, List.sum_nil, hg, ← hc, Nat.add_mul]
  omega
theorem dfsM_leave {next : List (List Nat)} {B : Nat} {seen : List Bool} {st : List (Nat × Nat)} {x : Nat × Nat} :
    dfsM next B seen st < dfsM next B seen (st ++ [x]) := by
  simp only [dfsM, List.map_append, List.map_cons, List.map_nil, List.sum_append, List.sum_cons, List.sum_nil]
  omega

/-- All nodes, each once, in the order in which they are left. -/
structure Fin' (next : List (List Nat)) (r : List Nat) : Prop where
  mem : ∀ v, v ∈ r ↔ v < next.length
  nodup : r.Nodup
  ord : ∀ pre u post, r = pre ++ u :: post → ∀ v, Rch (Edg next) u v → v ∈ pre ∨ v = u ∨ ∃ w, w ∈ post ∧ Tog (Edg next) u w
theorem Dfs.fin {next : List (List Nat)} {seen : List Bool} {r : List Nat} (d : Dfs next seen r []) (h : ∀ v, v < next.length → seen[v]? = some true) : Fin' next r where
  mem v := ⟨fun hv => d.lt v (by simpa using hv), fun hv => by simpa using (d.sees v).1 (h v hv)⟩
  nodup := by simpa using d.nodup
  ord pre u post hr v hv := by
    rcases d.ord pre u post hr v hv with h1 | h1 | ⟨w, h1, h2⟩
    · exact .inl h1
    · exact .inr (.inl h1)
    · exact .inr (.inr ⟨w, by simpa using h1, h2⟩)
end Go.Sh
