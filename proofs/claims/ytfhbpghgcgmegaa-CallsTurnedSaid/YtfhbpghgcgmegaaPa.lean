/- What is arranged: whatever is ready, the least first; in plain Lean. -/
import Derived.Test.YtfhbpghgcgmegaaPc
set_option linter.unusedVariables false
namespace Go.Sh

/-- On how many u waits still. -/
def pend (E : List (Nat × Nat)) (D : List Nat) (u : Nat) : Nat := (E.filter fun p => p.1 == u && !D.contains p.2).length
theorem pend_zero {E : List (Nat × Nat)} {D : List Nat} {u : Nat} : pend E D u = 0 ↔ ∀ b, (u, b) ∈ E → b ∈ D := by
  unfold pend
  rw [List.length_eq_zero_iff, List.filter_eq_nil_iff]
  constructor
  · intro h b hb
    have := h (u, b) hb
    simpa using this
  · rintro h ⟨a, b⟩ hab
    simp only [Bool.and_eq_true, beq_iff_eq, Bool.not_eq_true', not_and]
    rintro rfl
    simpa using h b hab
theorem pend_mono {E : List (Nat × Nat)} {D D' : List Nat} {u : Nat} (h : pend E D u = 0) (hs : ∀ b ∈ D, b ∈ D') : pend E D' u = 0 :=
  pend_zero.2 fun b hb => hs b (pend_zero.1 h b hb)
/-- Those that wait on c. -/
def usr (E : List (Nat × Nat)) (c : Nat) : List Nat := (E.filter fun p => p.2 == c).map (·.1)
theorem mem_usr {E : List (Nat × Nat)} {c u : Nat} : u ∈ usr E c ↔ (u, c) ∈ E := by
  unfold usr
  simp only [List.mem_map, List.mem_filter, beq_iff_eq]
  constructor
  · rintro ⟨⟨a, b⟩, ⟨h1, rfl⟩, rfl⟩; exact h1
  · intro h; exact ⟨(u, c), ⟨h, rfl⟩, rfl⟩
theorem pend_split {D : List Nat} {c : Nat} (hc : c ∉ D) (u : Nat) : ∀ E : List (Nat × Nat), pend E D u = pend E (D ++ [c]) u + (usr E c).count u
  | [] => rfl
  | (a, b) :: E => by
    have ih := pend_split hc u E
    unfold pend usr at *
    by_cases hb : b = c
    · subst hb
      by_cases ha : a = u
      · subst ha
        simp [hc] at ih ⊢
        omega
      · simp [ha, hc] at ih ⊢
        omega
    · by_cases ha : a = u
      · subst ha
        by_cases hd : b ∈ D
        · simp [hb, hd] at ih ⊢
          omega
        · simp [hb, hd] at ih ⊢
          omega
      · simp [ha, hb] at ih ⊢
        omega

/-- While it is arranged; 'rest' waits still to be told of r's last. -/
structure Ar (E : List (Nat × Nat)) (m : Nat) (w q r rest : List Nat) : Prop where
  bnd : ∀ a b, (a, b) ∈ E → a < m ∧ b < m
  len : w.length = m
  cnt : ∀ u, u < m → w[u]? = some (pend E r u + rest.count u)
  que : ∀ u, u ∈ q ↔ u < m ∧ u ∉ r ∧ pend E r u + rest.count u = 0
  qnd : q.Nodup
  rlt : ∀ u ∈ r, u < m
  rnd : r.Nodup
  ready : ∀ pre c post, r = pre ++ c :: post → pend E pre c = 0
  least : ∀ pre c post, r = pre ++ c :: post → ∀ d, d < c → d ∉ pre → pend E pre d ≠ 0
theorem Ar.donez {E : List (Nat × Nat)} {m : Nat} {w q r rest : List Nat} (a : Ar E m w q r rest) {u : Nat} (hu : u ∈ r) : pend E r u = 0 := by
  obtain ⟨pre, post, rfl⟩ := List.append_of_mem hu
  exact pend_mono (a.ready pre u post rfl) fun b hb => by simp [hb]
theorem Ar.start {E : List (Nat × Nat)} {m : Nat} {w q : List Nat} (hb : ∀ a b, (a, b) ∈ E → a < m ∧ b < m) (hl : w.length = m) (hw : ∀ u : Nat, u < m → w[u]? = some (pend E [] u))
    (hq : ∀ u, u ∈ q ↔ u < m ∧ pend E [] u = 0) (hnd : q.Nodup) : Ar E m w q [] [] where
  bnd := hb
  len := hl
  cnt u hu := by simpa using hw u hu
  que u := by simpa using hq u
  qnd := hnd
  rlt u h := by simp at h
  rnd := by simp
  ready pre c post h := by simp at h
  least pre c post h := by simp at h
/-- The least is taken. -/
theorem Ar.pop {E : List (Nat × Nat)} {m c : Nat} {w q q' r : List Nat} (a : Ar E m w q r []) (hq : q.Perm (c :: q')) (hmin : ∀ d ∈ q, c ≤ d) : Ar E m w q' (r ++ [c]) (usr E c) := by
  have hcq : c ∈ q := hq.mem_iff.2 (by simp)
  obtain ⟨hcm, hcr, hc0⟩ := (a.que c).1 hcq
  have hcn : (c :: q').Nodup := hq.nodup_iff.1 a.qnd
  have hcq' : c ∉ q' := (List.nodup_cons.1 hcn).1
  refine ⟨a.bnd, a.len, fun u hu => ?_, fun u => ?_, (List.nodup_cons.1 hcn).2, fun u hu => ?_, ?_, fun pre d post h => ?_, fun pre d post h e he hne => ?_⟩
  · rw [← pend_split hcr]
    simpa using a.cnt u hu
  · have h1 := a.que u
    rw [List.count_nil, Nat.add_zero, pend_split hcr] at h1
    have h2 : u ∈ q ↔ u = c ∨ u ∈ q' := by rw [hq.mem_iff]; simp
    constructor
    · intro h
      obtain ⟨h3, h4, h5⟩ := h1.1 (h2.2 (.inr h))
      refine ⟨h3, ?_, h5⟩
      simp only [List.mem_append, List.mem_singleton, not_or]
      exact ⟨h4, fun e => hcq' (e ▸ h)⟩
    · rintro ⟨h3, h4, h5⟩
      simp only [List.mem_append, List.mem_singleton, not_or] at h4
      rcases h2.1 (h1.2 ⟨h3, h4.1, h5⟩) with h6 | h6
      · exact absurd h6 h4.2
      · exact h6
  · rcases List.mem_append.1 hu with h | h
    · exact a.rlt u h
    · simp only [List.mem_singleton] at h
      rw [h]; exact hcm
  · rw [List.nodup_append]
    refine ⟨a.rnd, by simp, fun x hx y hy => ?_⟩
    simp only [List.mem_singleton] at hy
    subst hy
    exact fun e => hcr (e ▸ hx)
  · rcases List.eq_nil_or_concat post with rfl | ⟨post', y, rfl⟩
    · have := List.append_inj' h rfl
      obtain ⟨rfl, h2⟩ := this
      simp only [List.cons.injEq, and_true] at h2
      subst h2
      simpa using hc0
    · have h2 : r ++ [c] = (pre ++ d :: post') ++ [y] := by rw [h]; simp
      exact a.ready pre d post' (List.append_inj' h2 rfl).1
  · rcases List.eq_nil_or_concat post with rfl | ⟨post', y, rfl⟩
    · have := List.append_inj' h rfl
      obtain ⟨rfl, h2⟩ := this
      simp only [List.cons.injEq, and_true] at h2
      subst h2
      intro h0
      have := hmin e ((a.que e).2 ⟨by omega, hne, by simpa using h0⟩)
      omega
    · have h2 : r ++ [c] = (pre ++ d :: post') ++ [y] := by rw [h]; simp
      exact a.least pre d post' (List.append_inj' h2 rfl).1 e he hne
/-- One more is told. -/
theorem Ar.tell {E : List (Nat × Nat)} {m c u : Nat} {w q r rest : List Nat} (a : Ar E m w q (r ++ [c]) (u :: rest)) (huc : (u, c) ∈ E) :
    ∃ x, w[u]? = some (x + 1) ∧ (x ≠ 0 → Ar E m (w.set u x) q (r ++ [c]) rest) ∧ (x = 0 → ∀ q', q'.Perm (u :: q) → Ar E m (w.set u x) q' (r ++ [c]) rest) := by
  have hum := (a.bnd u c huc).1
  have hcr : c ∉ r := by
    have := a.rnd
    rw [List.nodup_append] at this
    exact fun h => this.2.2 c h c (by simp) rfl
  have hur : u ∉ r ++ [c] := by
    intro h
    rcases List.mem_append.1 h with h | h
    · obtain ⟨pre, post, rfl⟩ := List.append_of_mem h
      have := pend_zero.1 (a.ready pre u (post ++ [c]) (by simp)) c huc
      exact hcr (by simp [this])
    · simp only [List.mem_singleton] at h
      subst h
      have := pend_zero.1 (a.ready r u [] rfl) u huc
      exact hcr this
  refine ⟨pend E (r ++ [c]) u + rest.count u, ?_, fun hx => ?_, fun hx q' hq => ?_⟩
  · rw [a.cnt u hum]
    simp
    omega
  all_goals
    have hcnt : ∀ v, v < m → (w.set u (pend E (r ++ [c]) u + rest.count u))[v]? = some (pend E (r ++ [c]) v + rest.count v) := fun v hv => by
      rw [List.getElem?_set]
      by_cases e : u = v
      · subst e
        simp [a.len, hum]
      · rw [if_neg e, a.cnt v hv]
        simp [e]
    have hqn : u ∉ q := fun h => by
      have := ((a.que u).1 h).2.2
      simp at this
    have hqv : ∀ v, v ≠ u → (v ∈ q ↔ v < m ∧ v ∉ r ++ [c] ∧ pend E (r ++ [c]) v + rest.count v = 0) := fun v hv => by
      have h1 := a.que v
      rw [List.count_cons, if_neg (by simpa using fun h : u = v => hv h.symm)] at h1
      simpa using h1
  · refine ⟨a.bnd, by simp [a.len], hcnt, fun v => ?_, a.qnd, a.rlt, a.rnd, a.ready, a.least⟩
    by_cases e : v = u
    · subst e
      exact ⟨fun h => absurd h hqn, fun h => absurd h.2.2 hx⟩
    · exact hqv v e
  · refine ⟨a.bnd, by simp [a.len], hcnt, fun v => ?_, ?_, a.rlt, a.rnd, a.ready, a.least⟩
    · rw [hq.mem_iff, List.mem_cons]
      by_cases e : v = u
      · subst e
        exact ⟨fun _ => ⟨hum, hur, hx⟩, fun _ => .inl rfl⟩
      · rw [← hqv v e]
        exact ⟨fun h => h.resolve_left e, .inr⟩
    · rw [hq.nodup_iff, List.nodup_cons]
      exact ⟨hqn, a.qnd⟩
theorem Ar.rlen {E : List (Nat × Nat)} {m : Nat} {w q r rest : List Nat} (a : Ar E m w q r rest) : r.length ≤ m := by
  have := List.Nodup.length_le_of_subset (l₂ := List.range m) a.rnd fun u hu => List.mem_range.2 (a.rlt u hu)
  simpa using this
theorem Ar.qlen {E : List (Nat × Nat)} {m : Nat} {w q r rest : List Nat} (a : Ar E m w q r rest) : q.length ≤ m := by
  have := List.Nodup.length_le_of_subset (l₂ := List.range m) a.qnd fun u hu => List.mem_range.2 ((a.que u).1 hu).1
  simpa using this

/-- The order in which they are told. -/
structure ArrOk (E : Nat → Nat → Prop) (m : Nat) (r : List Nat) : Prop where
  mem : ∀ v, v ∈ r ↔ v < m
  nodup : r.Nodup
  ready : ∀ pre c post, r = pre ++ c :: post → ∀ d, E c d → d ∈ pre
  least : ∀ pre c post, r = pre ++ c :: post → ∀ d, d < c → d ∉ pre → ∃ e, E d e ∧ e ∉ pre
theorem Ar.fin {E : List (Nat × Nat)} {m : Nat} {w r : List Nat} (a : Ar E m w [] r []) {f : Nat → Nat} (hf : ∀ x y, (x, y) ∈ E → f y < f x) : ArrOk (fun x y => (x, y) ∈ E) m r := by
  have hall : ∀ k u, f u < k → u < m → u ∈ r := by
    intro k
    induction k with
    | zero => intro u h; omega
    | succ k ih =>
      intro u hk hu
      refine Classical.byContradiction fun hn => ?_
      have h0 : pend E r u ≠ 0 := fun h => by
        have := (a.que u).2 ⟨hu, hn, by simpa using h⟩
        simp at this
      refine h0 (pend_zero.2 fun b hb => ih b ?_ (a.bnd u b hb).2)
      have := hf u b hb
      omega
  refine ⟨fun v => ⟨a.rlt v, fun hv => hall _ v (Nat.lt_succ_self _) hv⟩, a.rnd, fun pre c post h d hd => pend_zero.1 (a.ready pre c post h) d hd, fun pre c post h d hd hn => ?_⟩
  refine Classical.byContradiction fun hne => a.least pre c post h d hd hn (pend_zero.2 fun b hb => ?_)
  exact Classical.byContradiction fun hb' => hne ⟨b, hb, hb'⟩
theorem ArrOk.congr {E F : Nat → Nat → Prop} {m : Nat} {r : List Nat} (h : ArrOk E m r) (he : ∀ a b, E a b ↔ F a b) : ArrOk F m r :=
  ⟨h.mem, h.nodup, fun pre c post hr d hd => h.ready pre c post hr d ((he c d).2 hd), fun pre c post hr d hd hn => by
    obtain ⟨e, h1, h2⟩ := h.least pre c post hr d hd hn
    exact ⟨e, (he d e).1 h1, h2⟩⟩
theorem ArrOk.len {E : Nat → Nat → Prop} {m : Nat} {r : List Nat} (h : ArrOk E m r) : r.length = m := by
  have h1 := List.Nodup.length_le_of_subset (l₂ := List.range m) h.nodup fun u hu => List.mem_range.2 ((h.mem u).1 hu)
  have h2 := List.Nodup.length_le_of_subset (l₂ := r) (List.nodup_range (n := m)) fun u hu => (h.mem u).2 (List.mem_range.1 hu)
  simp at h1 h2
  omega
theorem ArrOk.unique {E : Nat → Nat → Prop} {m : Nat} {r r' : List Nat} (h : ArrOk E m r) (h' : ArrOk E m r') : r = r' := by
  have key : ∀ k, r.take k = r'.take k := by
    intro k
    induction k with
    | zero => rfl
    | succ k ih =>
      by_cases hk : k < m
      · have hl : k < r.length := by rw [h.len]; exact hk
        have hl' : k < r'.length := by rw [h'.len]; exact hk
        have e1 : r = r.take k ++ r[k] :: r.drop (k + 1) := by rw [List.getElem_cons_drop, List.take_append_drop]
        have e2 : r' = r.take k ++ r'[k] :: r'.drop (k + 1) := by rw [ih, List.getElem_cons_drop, List.take_append_drop]
        have hn1 : r[k] ∉ r.take k := fun hm => by
          have := h.nodup
          rw [e1, List.nodup_append] at this
          exact this.2.2 _ hm _ (List.mem_cons_self ..) rfl
        have hn2 : r'[k] ∉ r.take k := fun hm => by
          have := h'.nodup
          rw [e2, List.nodup_append] at this
          exact this.2.2 _ hm _ (List.mem_cons_self ..) rfl
        have : r[k] = r'[k] := by
          rcases Nat.lt_trichotomy r[k] r'[k] with hlt | he | hlt
          · obtain ⟨e, h1, h2⟩ := h'.least _ _ _ e2 _ hlt hn1
            exact absurd (h.ready _ _ _ e1 e h1) h2
          · exact he
          · obtain ⟨e, h1, h2⟩ := h.least _ _ _ e1 _ hlt hn2
            exact absurd (h'.ready _ _ _ e2 e h1) h2
        rw [List.take_add_one, List.take_add_one, ih, List.getElem?_eq_getElem hl, List.getElem?_eq_getElem hl', this]
      · rw [List.take_of_length_le (by rw [h.len]; omega), List.take_of_length_le (by rw [h'.len]; omega)] at *
        exact ih
  have := key m
  rwa [List.take_of_length_le (by rw [h.len]; omega), List.take_of_length_le (by rw [h'.len]; omega)] at this

/-- Edges between components. -/
def CEdg (E : Nat → Nat → Prop) (of : List Nat) (a b : Nat) : Prop := ∃ i j : Nat, E i j ∧ of[i]? = some a ∧ of[j]? = some b ∧ a ≠ b
open Classical in
/-- How many a node reaches. -/
noncomputable def rk (E : Nat → Nat → Prop) (n i : Nat) : Nat := ((List.range n).filter fun v => decide (Rch E i v)).length
theorem rk_tog {E : Nat → Nat → Prop} {n i j : Nat} (h : Tog E i j) : rk E n i = rk E n j := by
  unfold rk
  congr 1
  apply List.filter_congr
  intro v _
  rw [decide_eq_decide]
  exact ⟨fun hv => h.2.trans hv, fun hv => h.1.trans hv⟩
theorem length_filter_lt {p q : Nat → Bool} {i : Nat} (hi : p i = true) (hq : q i = false) : ∀ {l : List Nat}, (∀ v, q v = true → p v = true) → i ∈ l → (l.filter q).length < (l.filter p).length
  | [], _, h => by simp at h
  | x :: l, hs, h => by
    have hle : ∀ l : List Nat, (l.filter q).length ≤ (l.filter p).length := by
      intro l
      induction l with
      | nil => exact Nat.le_refl _
      | cons y l ih =>
        rw [List.filter_cons, List.filter_cons]
        by_cases hy : q y = true
        · rw [if_pos hy, if_pos (hs y hy)]; simpa using ih
        · rw [if_neg hy]
          split
          · simp; omega
          · exact ih
    rw [List.filter_cons, List.filter_cons]
    by_cases hx : x = i
    · subst hx
      rw [if_pos hi, if_neg (by simp [hq])]
      have := hle l
      simp; omega
    · have ih := length_filter_lt (l := l) hi hq hs (by
        rcases List.mem_cons.1 h with h | h
        · exact absurd h.symm hx
        · exact h)
      by_cases hy : q x = true
      · rw [if_pos hy, if_pos (hs x hy)]; simpa using ih
      · rw [if_neg hy]
        split
        · simp; omega
        · exact ih
theorem rk_lt {E : Nat → Nat → Prop} {n i j : Nat} (hi : i < n) (he : E i j) (hn : ¬ Tog E i j) : rk E n j < rk E n i := by
  unfold rk
  refine length_filter_lt (i := i) (by simpa using Rch.refl i) (by simpa using fun h => hn ⟨.one he, h⟩) (fun v hv => ?_) (List.mem_range.2 hi)
  simp only [decide_eq_true_eq] at hv ⊢
  exact .head he hv
open Classical in
noncomputable def crk (E : Nat → Nat → Prop) (n : Nat) (of : List Nat) (a : Nat) : Nat := if h : ∃ i : Nat, of[i]? = some a then rk E n h.choose else 0
theorem crk_lt {E : Nat → Nat → Prop} {n m : Nat} {of : List Nat} (o : OfOk E n m of) {a b : Nat} (h : CEdg E of a b) : crk E n of b < crk E n of a := by
  obtain ⟨i, j, he, hi, hj, hab⟩ := h
  have hia : ∃ i : Nat, of[i]? = some a := ⟨i, hi⟩
  have hjb : ∃ i : Nat, of[i]? = some b := ⟨j, hj⟩
  unfold crk
  rw [dif_pos hia, dif_pos hjb]
  have h1 : Tog E hia.choose i := (o.tog _ _ a a hia.choose_spec hi).1 rfl
  have h2 : Tog E hjb.choose j := (o.tog _ _ b b hjb.choose_spec hj).1 rfl
  rw [rk_tog h1, rk_tog h2]
  refine rk_lt ?_ he fun ht => hab ((o.tog i j a b hi hj).2 ht)
  rw [← o.len]
  exact (List.getElem?_eq_some_iff.1 hi).1
end Go.Sh
