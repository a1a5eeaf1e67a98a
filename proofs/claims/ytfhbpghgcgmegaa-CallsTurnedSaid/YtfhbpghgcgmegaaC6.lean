/- Contract: the edges turned round. -/
import Derived.Test.YtfhbpghgcgmegaaC5
import Derived.Test.YtfhbpghgcgmegaaG2
set_option linter.unusedVariables false
namespace Go.Proofs.Ytfhbpghgcgmegaa
open Go Go.Sh Go.Proofs

/-- What is laid by numbers. -/
def grp {β : Type} (n : Nat) (ps : List (β × Nat)) : List (List β) := (List.range n).map fun j => (ps.filter fun p => p.2 == j).map (·.1)
theorem grp_length {β : Type} (n : Nat) (ps : List (β × Nat)) : (grp n ps).length = n := by simp [grp]
theorem grp_get {β : Type} {n j : Nat} (ps : List (β × Nat)) (hj : j < n) : (grp n ps)[j]? = some ((ps.filter fun p => p.2 == j).map (·.1)) := by
  simp [grp, hj]
theorem grp_snoc {β : Type} {n j : Nat} (ps : List (β × Nat)) (x : β) (hj : j < n) {l : List β} (hl : (grp n ps)[j]? = some l) : (grp n ps).set j (l ++ [x]) = grp n (ps ++ [(x, j)]) := by
  rw [grp_get ps hj] at hl
  simp only [Option.some.injEq] at hl
  subst hl
  apply List.ext_getElem?
  intro i
  by_cases hi : i < n
  · rw [grp_get _ hi]
    by_cases hij : j = i
    · subst hij
      rw [List.getElem?_set_self (by rw [grp_length]; exact hj)]
      simp
    · rw [List.getElem?_set_ne hij, grp_get _ hi]
      simp [hij]
  · rw [List.getElem?_eq_none (by rw [List.length_set, grp_length]; omega), List.getElem?_eq_none (by rw [grp_length]; omega)]
theorem grp_nil {β : Type} (n : Nat) : grp n ([] : List (β × Nat)) = List.replicate n [] := by
  apply List.ext_getElem?
  intro i
  by_cases hi : i < n
  · rw [grp_get _ hi, List.getElem?_replicate_of_lt hi]; rfl
  · rw [List.getElem?_eq_none (by rw [grp_length]; omega), List.getElem?_eq_none (by simp; omega)]
theorem mem_grp {β : Type} {n j : Nat} {ps : List (β × Nat)} {l : List β} (hl : (grp n ps)[j]? = some l) (x : β) : x ∈ l ↔ (x, j) ∈ ps := by
  have hj : j < n := by have := (List.getElem?_eq_some_iff.1 hl).1; rwa [grp_length] at this
  rw [grp_get ps hj] at hl
  simp only [Option.some.injEq] at hl
  subst hl
  simp only [List.mem_map, List.mem_filter, beq_iff_eq]
  constructor
  · rintro ⟨⟨a, b⟩, ⟨h1, rfl⟩, rfl⟩; exact h1
  · intro h; exact ⟨(x, j), ⟨h, rfl⟩, rfl⟩
theorem grp_len_le {β : Type} {n j : Nat} {ps : List (β × Nat)} {l : List β} (hl : (grp n ps)[j]? = some l) : l.length ≤ ps.length := by
  have hj : j < n := by have := (List.getElem?_eq_some_iff.1 hl).1; rwa [grp_length] at this
  rw [grp_get ps hj] at hl
  simp only [Option.some.injEq] at hl
  subst hl
  rw [List.length_map]
  exact List.length_filter_le _ _

/-- The edges as pairs: from, to. -/
def prF (next : List (List Nat)) (i : Nat) : List (Nat × Nat) :=
  match next with
  | [] => []
  | l :: next => l.map (fun j => (i, j)) ++ prF next (i + 1)
theorem prF_append : ∀ (a b : List (List Nat)) (i : Nat), prF (a ++ b) i = prF a i ++ prF b (i + a.length)
  | [], b, i => by simp [prF]
  | l :: a, b, i => by simp [prF, prF_append a b (i + 1), Nat.add_comm, Nat.add_left_comm]
theorem mem_prF {i j : Nat} : ∀ {next : List (List Nat)} {k : Nat}, (i, j) ∈ prF next k ↔ k ≤ i ∧ ∃ l, next[i - k]? = some l ∧ j ∈ l
  | [], k => by simp [prF]
  | l :: next, k => by
    simp only [prF, List.mem_append, List.mem_map, Prod.mk.injEq, mem_prF (next := next)]
    constructor
    · rintro (⟨a, h1, rfl, rfl⟩ | ⟨h1, l', h2, h3⟩)
      · exact ⟨Nat.le_refl _, l, by simp, h1⟩
      · refine ⟨by omega, l', ?_, h3⟩
        rw [show i - k = (i - (k + 1)) + 1 from by omega]; simpa using h2
    · rintro ⟨h1, l', h2, h3⟩
      by_cases hik : i = k
      · subst hik
        simp only [Nat.sub_self, List.getElem?_cons_zero, Option.some.injEq] at h2
        subst h2
        exact .inl ⟨j, h3, rfl, rfl⟩
      · refine .inr ⟨by omega, l', ?_, h3⟩
        rw [show i - k = (i - (k + 1)) + 1 from by omega] at h2; simpa using h2
theorem prF_step {next : List (List Nat)} {i : Nat} {l : List Nat} (h : next[i]? = some l) : prF (next.take (i + 1)) 0 = prF (next.take i) 0 ++ l.map fun j => (i, j) := by
  have hlt : i < next.length := (List.getElem?_eq_some_iff.1 h).1
  rw [List.take_add_one, h, prF_append, List.length_take, Nat.min_eq_left (by omega)]
  simp [prF]
theorem prF_len (next : List (List Nat)) (i : Nat) : (prF (next.take i) 0).length ≤ (prF next 0).length := by
  conv => rhs; rw [← List.take_append_drop i next, prF_append, List.length_append]
  omega
/-- What calls a node. -/
def back (next : List (List Nat)) : List (List Nat) := grp next.length (prF next 0)
theorem mem_back {next : List (List Nat)} {i j : Nat} {l : List Nat} (hl : (back next)[j]? = some l) : i ∈ l ↔ ∃ m, next[i]? = some m ∧ j ∈ m := by
  rw [mem_grp hl, mem_prF]
  simp

/-- Numbers below a bound. -/
def Below (next : List (List Nat)) (n : Nat) : Prop := ∀ l ∈ next, ∀ j ∈ l, j < n

theorem reversed_ok {h : Heap} {v : Value} {next : List (List Nat)} (r : RdLL encI h v next) (hn : next.length ≤ big) (hin : Below next next.length) (hb : (prF next 0).length ≤ big) :
    HC Try.prog 22 #[v] h fun u h' => St h h' [RR encI u (back next)] := by
  unfold big at hn hb
  refine sh_calls_reversed ?_
  unfold g_calls_reversed
  simp only [oLen_sl r.1]
  refine oMkSliceRR (enc := encI) (St.nil h) (by omega) (by omega) fun t10 h1 s1 => ?_
  refine loop1_count 0 next.length (fun i h' => St h h' [RR encI t10 (grp next.length (prF (next.take i) 0))]) (Nat.zero_le _) (by simpa [prF, grp_nil] using s1) ?_
  intro i h2 next1 hi s2 hnext
  rw [oBin_lss]
  by_cases hlt : i < next.length
  · rw [cond_pos (by omega)]
    obtain ⟨l, hl⟩ : ∃ l, next[i]? = some l := ⟨_, List.getElem?_eq_getElem hlt⟩
    refine oGetLLx r s2.ext hl fun t17 ht17 => ?_
    have hstep := prF_step hl
    have hle := prF_len next (i + 1)
    rw [hstep, List.length_append, List.length_map] at hle
    rw [oLen_sl ht17.1]
    refine loop1_count 0 l.length (fun k h' => St h h' [RR encI t10 (grp next.length (prF (next.take i) 0 ++ (l.take k).map fun j => (i, j)))]) (Nat.zero_le _) (by simpa using s2) ?_
    intro k h3 next2 hk s3 hnext2
    rw [oBin_lss]
    by_cases hklt : k < l.length
    · rw [cond_pos (by omega)]
      obtain ⟨j, hj⟩ : ∃ j, l[k]? = some j := ⟨_, List.getElem?_eq_getElem hklt⟩
      refine oGetL (ht17.ext s3.ext) hj ?_
      have hjn : j < next.length := hin l (List.mem_of_getElem? hl) j (List.mem_of_getElem? hj)
      have hg := grp_get (prF (next.take i) 0 ++ (l.take k).map fun j => (i, j)) hjn
      have hgl := grp_len_le hg
      simp only [List.length_append, List.length_map, List.length_take] at hgl
      refine rrAppend (enc := encI) (x := i) s3 hg rfl rfl (by simp only [List.length_map] at hgl ⊢; omega) (by simp only [List.length_map] at hgl ⊢; omega) fun h4 s4 => ?_
      rw [grp_snoc _ i hjn hg] at s4
      rw [oBin_add, wrap_succ k _ hklt (by omega)]
      refine hnext2 _ hklt ?_
      rw [List.take_add_one, hj]
      simpa [List.append_assoc] using s4
    · rw [cond_neg (by omega), oBin_add, wrap_succ i _ hlt (by omega)]
      refine hnext _ hlt ?_
      have hkl : k = l.length := by omega
      subst hkl
      rw [hstep]
      rwa [List.take_length] at s3
  · rw [cond_neg (by omega)]
    have hil : i = next.length := by omega
    subst hil
    rw [List.take_length] at s2
    exact s2
end Go.Proofs.Ytfhbpghgcgmegaa
