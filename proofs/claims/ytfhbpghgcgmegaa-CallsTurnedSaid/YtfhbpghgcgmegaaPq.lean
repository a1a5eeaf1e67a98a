/- Heaps of numbers in a list, in plain Lean. -/
import Derived.Test.YtfhbpghgcgmegaaCol
set_option linter.unusedVariables false
namespace Go.Sh
def par (k : Nat) : Nat := (k - 1) / 2
def atN (l : List Nat) (k : Nat) : Nat := l.getD k 0
theorem atN_some {l : List Nat} {k : Nat} (h : k < l.length) : l[k]? = some (atN l k) := by
  simp [atN, List.getD_eq_getElem?_getD, h]
theorem atN_set {l : List Nat} {i k x : Nat} (h : i < l.length) : atN (l.set i x) k = if k = i then x else atN l k := by
  unfold atN
  rw [List.getD_eq_getElem?_getD, List.getElem?_set]
  by_cases e : i = k
  · subst e; simp [h]
  · rw [if_neg e, if_neg (fun h => e h.symm), List.getD_eq_getElem?_getD]
def swp (l : List Nat) (i j : Nat) : List Nat := (l.set i (atN l j)).set j (atN l i)
@[simp] theorem swp_length (l : List Nat) (i j : Nat) : (swp l i j).length = l.length := by simp [swp]
theorem atN_swp {l : List Nat} {i j k : Nat} (hi : i < l.length) (hj : j < l.length) : atN (swp l i j) k = if k = j then atN l i else if k = i then atN l j else atN l k := by
  unfold swp
  rw [atN_set (by simpa using hj), atN_set hi]
theorem swp_perm {l : List Nat} {i j : Nat} (hi : i < l.length) (hj : j < l.length) : (swp l i j).Perm l := by
  rw [List.perm_iff_count]
  intro a
  have e1 : atN l i = l[i] := by simp [atN, List.getD_eq_getElem?_getD, hi]
  have e2 : atN l j = l[j] := by simp [atN, List.getD_eq_getElem?_getD, hj]
  have hc : ∀ k (hk : k < l.length), (l[k] == a) = true → 0 < l.count a := fun k hk h => by
    rw [List.count_pos_iff]
    have : l[k] = a := by simpa using h
    rw [← this]; exact List.getElem_mem hk
  unfold swp
  rw [List.count_set (by simpa using hj), List.count_set hi, e1, e2, List.getElem_set]
  have h1 := hc i hi
  have h2 := hc j hj
  by_cases hij : i = j
  · subst hij
    simp only [if_true]
    by_cases h : (l[i] == a) = true
    · have := h1 h
      simp only [h, if_true]; omega
    · simp only [h]
      simp
  · rw [if_neg hij]
    by_cases h : (l[i] == a) = true <;> by_cases h' : (l[j] == a) = true
    · have := h1 h
      simp only [h, h', if_true]; omega
    · have := h1 h
      simp only [h, h', if_true]; simp; omega
    · have := h2 h'
      simp only [h, h', if_true]; simp
    · simp only [h, h']
      simp

/-- From the parents a on, among the first n. -/
def HpF (l : List Nat) (a n : Nat) : Prop := ∀ k, 1 ≤ k → k < n → a ≤ par k → atN l (par k) ≤ atN l k
/-- What holds on the way down, at x. -/
def DnI (l : List Nat) (a n x : Nat) : Prop :=
  (∀ k, 1 ≤ k → k < n → a ≤ par k → par k ≠ x → atN l (par k) ≤ atN l k) ∧
  (x = a ∨ (1 ≤ x ∧ a ≤ par x ∧ ∀ k, 1 ≤ k → k < n → par k = x → atN l (par x) ≤ atN l k))
theorem DnI.start {l : List Nat} {a n : Nat} (h : HpF l (a + 1) n) : DnI l a n a :=
  ⟨fun k h1 h2 h3 h4 => h k h1 h2 (by omega), .inl rfl⟩
theorem DnI.stop {l : List Nat} {a n x : Nat} (h : DnI l a n x) (hx : ∀ k, 1 ≤ k → k < n → par k = x → atN l x ≤ atN l k) : HpF l a n := fun k h1 h2 h3 => by
  by_cases e : par k = x
  · rw [e]; exact hx k h1 h2 e
  · exact h.1 k h1 h2 h3 e
theorem DnI.step {l : List Nat} {a n x j : Nat} (h : DnI l a n x) (hn : n ≤ l.length) (hj1 : 1 ≤ j) (hjn : j < n) (hp : par j = x) (hax : a ≤ x)
    (hmin : ∀ k, 1 ≤ k → k < n → par k = x → atN l j ≤ atN l k) (hlt : atN l j ≤ atN l x) : DnI (swp l x j) a n j := by
  have hxj : x < j := by unfold par at hp; omega
  have hw : ∀ k, atN (swp l x j) k = if k = j then atN l x else if k = x then atN l j else atN l k := fun k => atN_swp (by omega) (by omega)
  have hpk : ∀ k, 1 ≤ k → par k < k := fun k hk => by unfold par; omega
  refine ⟨fun k h1 h2 h3 h4 => ?_, .inr ⟨hj1, by omega, fun k h1 h2 h3 => ?_⟩⟩
  · rw [hw, hw, if_neg h4]
    have hk := hpk k h1
    by_cases e : par k = x
    · rw [if_pos e]
      by_cases e2 : k = j
      · rw [if_pos e2]; exact hlt
      · rw [if_neg e2, if_neg (by omega)]
        exact hmin k h1 h2 e
    · rw [if_neg e]
      have hkj : k ≠ j := fun e2 => e (e2 ▸ hp)
      rw [if_neg hkj]
      by_cases e2 : k = x
      · subst e2
        rw [if_pos rfl]
        rcases h.2 with e3 | ⟨_, _, h5⟩
        · omega
        · exact h5 j hj1 hjn hp
      · rw [if_neg e2]; exact h.1 k h1 h2 h3 e
  · rw [hw, hw, hp, if_neg (by omega), if_pos rfl]
    have hk := hpk k h1
    rw [if_neg (by omega), if_neg (by omega)]
    have := h.1 k h1 h2 (by omega) (by omega)
    rw [h3] at this
    exact this
/-- What holds on the way up, at x. -/
def UpI (l : List Nat) (n x : Nat) : Prop :=
  (∀ k, 1 ≤ k → k < n → k ≠ x → atN l (par k) ≤ atN l k) ∧ (1 ≤ x → ∀ k, 1 ≤ k → k < n → par k = x → atN l (par x) ≤ atN l k)
theorem UpI.step {l : List Nat} {n x : Nat} (h : UpI l n x) (hn : n ≤ l.length) (h1 : 1 ≤ x) (hx : x < n) (hlt : atN l x < atN l (par x)) : UpI (swp l (par x) x) n (par x) := by
  have hpx : par x < x := by unfold par; omega
  have hw : ∀ k, atN (swp l (par x) x) k = if k = x then atN l (par x) else if k = par x then atN l x else atN l k := fun k => atN_swp (by omega) (by omega)
  have hpk : ∀ k, 1 ≤ k → par k < k := fun k hk => by unfold par; omega
  refine ⟨fun k hk1 hk2 hk3 => ?_, fun h5 k hk1 hk2 hk3 => ?_⟩
  · have hk := hpk k hk1
    rw [hw, hw]
    by_cases e : k = x
    · subst e
      rw [if_neg (by omega), if_pos rfl, if_pos rfl]
      omega
    · rw [if_neg e, if_neg hk3]
      by_cases e2 : par k = x
      · rw [if_pos e2]; exact h.2 h1 k hk1 hk2 e2
      · rw [if_neg e2]
        have := h.1 k hk1 hk2 e
        by_cases e3 : par k = par x
        · rw [if_pos e3]
          rw [e3] at this
          omega
        · rw [if_neg e3]; exact this
  · have hk := hpk k hk1
    have hpp := hpk (par x) h5
    rw [hw, hw, if_neg (by omega), if_neg (by omega)]
    have h6 := h.1 (par x) h5 (by omega) (by omega)
    by_cases e : k = x
    · rw [if_pos e]; exact h6
    · rw [if_neg e, if_neg (by omega)]
      have := h.1 k hk1 hk2 e
      rw [hk3] at this
      omega
theorem UpI.stop {l : List Nat} {n x : Nat} (h : UpI l n x) (hx : x = 0 ∨ atN l (par x) ≤ atN l x) : HpF l 0 n := fun k h1 h2 _ => by
  by_cases e : k = x
  · rcases hx with hx | hx
    · omega
    · rw [e]; exact hx
  · exact h.1 k h1 h2 e
theorem HpF.push {l : List Nat} {x : Nat} (h : HpF l 0 l.length) : UpI (l ++ [x]) (l.length + 1) l.length := by
  have ha : ∀ k, k < l.length → atN (l ++ [x]) k = atN l k := fun k hk => by
    simp only [atN, List.getD_eq_getElem?_getD]
    rw [List.getElem?_append_left hk]
  refine ⟨fun k h1 h2 h3 => ?_, fun h1 k hk1 hk2 hk3 => ?_⟩
  · have : par k < k := by unfold par; omega
    rw [ha _ (by omega), ha _ (by omega)]
    exact h k h1 (by omega) (Nat.zero_le _)
  · unfold par at hk3; omega
theorem HpF.least {l : List Nat} {n : Nat} (h : HpF l 0 n) : ∀ k, k < n → atN l 0 ≤ atN l k := by
  intro k
  induction k using Nat.strongRecOn with
  | _ k ih =>
    intro hk
    rcases Nat.eq_zero_or_pos k with rfl | hp
    · exact Nat.le_refl _
    · have h1 : par k < k := by unfold par; omega
      exact Nat.le_trans (ih _ h1 (by omega)) (h k hp hk (Nat.zero_le _))
theorem HpF.none {l : List Nat} {a n : Nat} (h : n ≤ 2 * a + 1) : HpF l a n := fun k h1 h2 h3 => by
  unfold par at h3; omega
theorem HpF.congr {l l' : List Nat} {a n : Nat} (h : HpF l a n) (he : ∀ k, k < n → atN l' k = atN l k) : HpF l' a n := fun k h1 h2 h3 => by
  have : par k < k := by unfold par; omega
  rw [he _ (by omega), he _ h2]; exact h k h1 h2 h3
end Go.Sh
