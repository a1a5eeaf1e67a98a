/- In plain Lean: calls that go one way alone, and one call back. -/
import Derived.Test.YtfhbpghgcgmegaaC15
set_option linter.unusedVariables false
namespace Go.Proofs.Ytfhbpghgcgmegaa
open Go Go.Sh Go.Proofs

abbrev nmK (k : Nat) : List Str := (List.range k).map nmS
theorem nmK_get {k i : Nat} (h : i < k) : (nmK k)[i]? = some (nmS i) := by simp [h]
theorem nmK_len (k : Nat) : (nmK k).length = k := by simp
theorem nmK_nodup {k : Nat} (hk : k ≤ 100) : (nmK k).Nodup := by
  rw [List.Nodup, List.pairwise_map]
  refine List.Pairwise.imp_of_mem ?_ (List.nodup_range (n := k))
  intro a b ha hb hab he
  have := List.mem_range.1 ha
  have := List.mem_range.1 hb
  exact hab (nmS_inj (by omega) (by omega) he)
theorem nmK_sorted {k : Nat} (hk : k ≤ 100) : SortS (nmK k) := by
  unfold SortS
  rw [List.pairwise_map]
  refine List.Pairwise.imp_of_mem ?_ (List.pairwise_lt_range (n := k))
  intro a b ha hb hab
  have := List.mem_range.1 ha
  have := List.mem_range.1 hb
  have h1 : (UInt8.ofNat (97 + a)).toNat = 97 + a := by simp; omega
  have h2 : (UInt8.ofNat (97 + b)).toNat = 97 + b := by simp; omega
  simp only [nmS, ltS, UInt8.lt_iff_toNat_lt, h1, h2]
  rw [if_neg (by omega), if_pos (by omega)]
theorem keys_nm {e : List (Str × List Str)} {k : Nat} (hk : k ≤ 100) (h : e.map (·.1) = nmK k) : keysOf e = nmK k := by
  unfold keysOf
  rw [h]
  exact (sortS_unique (.refl _) (nmK_sorted hk)).symm
theorem edg_nm {e : List (Str × List Str)} {k : Nat} (hk : k ≤ 100) (i j : Nat) : Edg (nums e (nmK k)) i j ↔ i < k ∧ j < k ∧ nmS j ∈ (get e (nmS i)).getD [] := by
  rw [edg_nums (nmK_nodup hk)]
  constructor
  · rintro ⟨a, b, h1, h2, h3⟩
    have hi := (List.getElem?_eq_some_iff.1 h1).1
    have hj := (List.getElem?_eq_some_iff.1 h2).1
    rw [nmK_len] at hi hj
    rw [nmK_get hi] at h1
    rw [nmK_get hj] at h2
    simp only [Option.some.injEq] at h1 h2
    subst h1; subst h2
    exact ⟨hi, hj, h3⟩
  · rintro ⟨hi, hj, h3⟩
    exact ⟨_, _, nmK_get hi, nmK_get hj, h3⟩
/-- Each calls the next. -/
def chn (k i : Nat) : List (Str × List Str) := (List.range i).map fun j => (nmS j, if j + 1 < k then [nmS (j + 1)] else [])
theorem chn_keys (k i : Nat) : (chn k i).map (·.1) = nmK i := by simp [chn, nmK]
theorem chn_succ (k i : Nat) : chn k (i + 1) = chn k i ++ [(nmS i, if i + 1 < k then [nmS (i + 1)] else [])] := by simp [chn, List.range_succ]
theorem nm_notin {i : Nat} (hi : i < 100) (k : Nat) : nmS i ∉ (chn k i).map (·.1) := by
  rw [chn_keys]
  intro h
  obtain ⟨j, hj, he⟩ := List.mem_map.1 h
  have := List.mem_range.1 hj
  have := nmS_inj (by omega) hi he
  omega
theorem get_map {β : Type} {k : Nat} (hk : k ≤ 100) (f : Nat → β) {i : Nat} (hi : i < k) : get ((List.range k).map fun j => (nmS j, f j)) (nmS i) = some (f i) := by
  have e1 : List.range k = List.range i ++ i :: (List.range (k - i - 1)).map (fun x => i + 1 + x) := by
    have h1 : k = i + (1 + (k - i - 1)) := by omega
    conv => lhs; rw [h1, List.range_add, List.range_add]
    simp [List.range_succ, Nat.add_assoc]
  rw [e1, List.map_append, List.map_cons]
  refine get_mid ?_
  intro h
  rw [List.map_map] at h
  obtain ⟨j, hj, he⟩ := List.mem_map.1 h
  have := List.mem_range.1 hj
  have := nmS_inj (by omega) (by omega) he
  omega
theorem chn_get {k i : Nat} (hk : k ≤ 100) (hi : i < k) : get (chn k k) (nmS i) = some (if i + 1 < k then [nmS (i + 1)] else []) := get_map hk _ hi

theorem arr_chain {E : Nat → Nat → Prop} {m : Nat} (h : ∀ a b, E a b ↔ b = a + 1 ∧ b < m) : ArrOk E m (List.range m).reverse := by
  have hg : ∀ k c : Nat, (List.range m).reverse[k]? = some c → k < m ∧ c = m - 1 - k := fun k c hk => by
    have hl := (List.getElem?_eq_some_iff.1 hk).1
    rw [List.length_reverse, List.length_range] at hl
    rw [List.getElem?_reverse (by simpa using hl), List.length_range, List.getElem?_range (by omega)] at hk
    simp only [Option.some.injEq] at hk
    exact ⟨hl, hk.symm⟩
  have ht : ∀ k v, v ∈ (List.range m).reverse.take k ↔ v < m ∧ m ≤ v + k := fun k v => by
    constructor
    · intro hv
      obtain ⟨j, hj⟩ := List.getElem?_of_mem hv
      rw [List.getElem?_take] at hj
      split at hj
      · have := hg j v hj; omega
      · cases hj
    · rintro ⟨h1, h2⟩
      refine List.mem_of_getElem? (i := m - 1 - v) ?_
      rw [List.getElem?_take, if_pos (by omega), List.getElem?_reverse (by simp; omega), List.length_range, List.getElem?_range (by omega)]
      congr 1; omega
  refine arrOk_of (fun v => by simp) ((List.reverse_perm _).nodup_iff.2 List.nodup_range) fun k c hk => ?_
  obtain ⟨h1, h2⟩ := hg k c hk
  refine ⟨fun d hd => ?_, fun d hd hn => ?_⟩
  · rw [ht]
    have := (h c d).1 hd
    omega
  · rw [ht] at hn
    refine ⟨d + 1, (h _ _).2 ⟨rfl, by omega⟩, ?_⟩
    rw [ht]
    omega

/-! The chain alone. -/
theorem chn_comps {k : Nat} (hk : k ≤ 100) {cs : List (List Str)} (h : CompsOf (chn k k) cs) : cs = (List.range k).reverse.map fun c => [nmS c] := by
  have hE : ∀ i j, Edg (nums (chn k k) (nmK k)) i j ↔ j = i + 1 ∧ j < k := fun i j => by
    rw [edg_nm hk]
    constructor
    · rintro ⟨hi, hj, h3⟩
      rw [chn_get hk hi] at h3
      simp only [Option.getD_some] at h3
      split at h3
      · simp only [List.mem_singleton] at h3
        exact ⟨nmS_inj (by omega) (by omega) h3, hj⟩
      · simp at h3
    · rintro ⟨rfl, hj⟩
      refine ⟨by omega, hj, ?_⟩
      rw [chn_get hk (by omega), if_pos hj]
      simp
  have o : OfOk (fun i j => j = i + 1 ∧ j < k) (nmK k).length k (List.range k) := by
    rw [nmK_len]
    exact ofOk_id (fun i => k - i) fun i j h => .inr (by omega)
  have a : ArrOk (CEdg (fun i j => j = i + 1 ∧ j < k) (List.range k)) k (List.range k).reverse := arr_chain fun a b => by
    have hg : ∀ i a : Nat, (List.range k)[i]? = some a ↔ i = a ∧ a < k := fun i a => by
      by_cases hi : i < k
      · rw [List.getElem?_range hi]
        simp only [Option.some.injEq]
        omega
      · rw [List.getElem?_eq_none (by simp; omega)]
        simp; omega
    unfold CEdg
    simp only [hg]
    constructor
    · rintro ⟨i, j, ⟨rfl, h1⟩, ⟨rfl, h2⟩, ⟨rfl, h3⟩, h4⟩
      exact ⟨rfl, h1⟩
    · rintro ⟨rfl, h1⟩
      exact ⟨a, a + 1, ⟨rfl, h1⟩, ⟨rfl, by omega⟩, ⟨rfl, h1⟩, by omega⟩
  rw [compsOf_eq h (keys_nm hk (chn_keys k k)) hE o a]
  refine List.map_congr_left fun c hc => ?_
  have hck : c < k := by simpa using hc
  have hz : (nmK k).zip (List.range k) = (List.range k).map fun i => (nmS i, i) := by
    apply List.ext_getElem
    · simp
    · intro i h1 h2; simp
  unfold names
  rw [hz, List.filter_map, List.map_map]
  have hf : (List.range k).filter ((fun p : Str × Nat => p.2 == c) ∘ fun i => (nmS i, i)) = [c] := by
    have e1 : List.range k = List.range c ++ c :: (List.range (k - c - 1)).map (fun x => c + 1 + x) := by
      have h1 : k = c + (1 + (k - c - 1)) := by omega
      conv => lhs; rw [h1, List.range_add, List.range_add]
      simp [List.range_succ, Nat.add_assoc]
    rw [e1, List.filter_append, List.filter_cons]
    have h1 : (List.range c).filter ((fun p : Str × Nat => p.2 == c) ∘ fun i => (nmS i, i)) = [] := by
      rw [List.filter_eq_nil_iff]
      intro a ha
      have := List.mem_range.1 ha
      simp; omega
    have h2 : ((List.range (k - c - 1)).map (fun x => c + 1 + x)).filter ((fun p : Str × Nat => p.2 == c) ∘ fun i => (nmS i, i)) = [] := by
      rw [List.filter_eq_nil_iff]
      intro a ha
      obtain ⟨x, _, rfl⟩ := List.mem_map.1 ha
      simp; omega
    rw [h1, h2]
    simp
  rw [hf]
  rfl

/-! With one call back. -/
section back1
variable {k lo hi : Nat}
/-- A node's component. -/
def bk (lo hi i : Nat) : Nat := if i ≤ lo then i else if i ≤ hi then lo else i - (hi - lo)
def bkE (k lo hi i j : Nat) : Prop := i < k ∧ j < k ∧ (j = i + 1 ∨ (i = hi ∧ j = lo))
theorem bk_up {i : Nat} (h : lo ≤ hi) : bk lo hi i ≤ bk lo hi (i + 1) ∧ (bk lo hi i ≠ bk lo hi (i + 1) → bk lo hi (i + 1) = bk lo hi i + 1) := by
  unfold bk
  split <;> split <;> (try split) <;> (try split) <;> omega
theorem bk_eq (h : lo ≤ hi) {i j : Nat} (he : bk lo hi i = bk lo hi j) : i = j ∨ (lo ≤ i ∧ i ≤ hi ∧ lo ≤ j ∧ j ≤ hi) := by
  unfold bk at he
  split at he <;> split at he <;> (try split at he) <;> (try split at he) <;> omega
theorem bk_mid (h : lo ≤ hi) {i : Nat} : bk lo hi i = lo ↔ lo ≤ i ∧ i ≤ hi := by
  unfold bk
  split <;> (try split) <;> omega
theorem bk_of (h : lo ≤ hi) (hk : hi < k) : OfOk (bkE k lo hi) k (k - (hi - lo)) ((List.range k).map (bk lo hi)) := by
  have hg : ∀ i a : Nat, ((List.range k).map (bk lo hi))[i]? = some a ↔ i < k ∧ bk lo hi i = a := fun i a => by
    by_cases hik : i < k
    · rw [List.getElem?_map, List.getElem?_range hik]
      simp [hik]
    · rw [List.getElem?_eq_none (by simp; omega)]
      simp; omega
  have hmono : ∀ i j, Rch (bkE k lo hi) i j → bk lo hi i ≤ bk lo hi j := fun i j hr => by
    induction hr with
    | refl => exact Nat.le_refl _
    | tail h' e ih =>
      refine Nat.le_trans ih ?_
      rcases e.2.2 with h1 | ⟨h1, h2⟩
      · rw [h1]; exact (bk_up h).1
      · rw [h1, h2, (bk_mid h).2 ⟨h, Nat.le_refl _⟩, (bk_mid h).2 ⟨Nat.le_refl _, h⟩]
        exact Nat.le_refl _
  have hup : ∀ d i, i + d < k → Rch (bkE k lo hi) i (i + d) := by
    intro d
    induction d with
    | zero => intro i _; exact .refl _
    | succ d ih => intro i hi'; exact .tail (ih i (by omega)) ⟨by omega, by omega, .inl (by omega)⟩
  have hto : ∀ i j, lo ≤ i → i ≤ hi → lo ≤ j → j ≤ hi → Rch (bkE k lo hi) i j := fun i j h1 h2 h3 h4 => by
    have r1 := hup (hi - i) i (by omega)
    have r2 : Rch (bkE k lo hi) hi lo := .one ⟨hk, by omega, .inr ⟨rfl, rfl⟩⟩
    have r3 := hup (j - lo) lo (by omega)
    rw [show i + (hi - i) = hi from by omega] at r1
    rw [show lo + (j - lo) = j from by omega] at r3
    exact r1.trans (r2.trans r3)
  refine ⟨by simp, fun i j a b hi' hj => ?_, fun a ha => ?_, fun i a hi' c hc => ?_, fun c hc => ?_⟩
  · obtain ⟨h1, rfl⟩ := (hg i a).1 hi'
    obtain ⟨h2, rfl⟩ := (hg j b).1 hj
    constructor
    · intro he
      rcases bk_eq h he with rfl | ⟨h3, h4, h5, h6⟩
      · exact Tog.refl _
      · exact ⟨hto i j h3 h4 h5 h6, hto j i h5 h6 h3 h4⟩
    · intro ht
      have := hmono i j ht.1
      have := hmono j i ht.2
      omega
  · obtain ⟨i, h1, rfl⟩ := List.mem_map.1 ha
    have := List.mem_range.1 h1
    unfold bk
    split <;> (try split) <;> omega
  · obtain ⟨h1, rfl⟩ := (hg i a).1 hi'
    by_cases hcl : c ≤ lo
    · have hb : bk lo hi c = c := by unfold bk; rw [if_pos hcl]
      refine ⟨c, ?_, (hg _ _).2 ⟨?_, hb⟩⟩
      · unfold bk at hc
        split at hc <;> (try split at hc) <;> omega
      · unfold bk at hc
        split at hc <;> (try split at hc) <;> omega
    · have hb : bk lo hi (c + (hi - lo)) = c := by
        unfold bk
        split <;> (try split) <;> omega
      refine ⟨c + (hi - lo), ?_, (hg _ _).2 ⟨?_, hb⟩⟩
      · unfold bk at hc
        split at hc <;> (try split at hc) <;> omega
      · unfold bk at hc
        split at hc <;> (try split at hc) <;> omega
  · by_cases hcl : c ≤ lo
    · exact List.mem_map.2 ⟨c, List.mem_range.2 (by omega), by unfold bk; rw [if_pos hcl]⟩
    · refine List.mem_map.2 ⟨c + (hi - lo), List.mem_range.2 (by omega), ?_⟩
      unfold bk
      split <;> (try split) <;> omega
theorem bk_arr (h : lo ≤ hi) (hk : hi < k) : ArrOk (CEdg (bkE k lo hi) ((List.range k).map (bk lo hi))) (k - (hi - lo)) (List.range (k - (hi - lo))).reverse := by
  have hg : ∀ i a : Nat, ((List.range k).map (bk lo hi))[i]? = some a ↔ i < k ∧ bk lo hi i = a := fun i a => by
    by_cases hik : i < k
    · rw [List.getElem?_map, List.getElem?_range hik]
      simp [hik]
    · rw [List.getElem?_eq_none (by simp; omega)]
      simp; omega
  refine arr_chain fun a b => ?_
  unfold CEdg
  simp only [hg]
  constructor
  · rintro ⟨i, j, ⟨h1, h2, h3⟩, ⟨_, rfl⟩, ⟨_, rfl⟩, hne⟩
    rcases h3 with h3 | ⟨h3, h4⟩
    · subst h3
      refine ⟨(bk_up h).2 hne, ?_⟩
      unfold bk
      split <;> (try split) <;> omega
    · subst h3; subst h4
      rw [(bk_mid h).2 ⟨h, Nat.le_refl _⟩, (bk_mid h).2 ⟨Nat.le_refl _, h⟩] at hne
      exact absurd rfl hne
  · rintro ⟨rfl, h1⟩
    by_cases hal : a < lo
    · refine ⟨a, a + 1, ⟨by omega, by omega, .inl rfl⟩, ⟨by omega, ?_⟩, ⟨by omega, ?_⟩, by omega⟩
      · unfold bk; rw [if_pos (by omega)]
      · unfold bk; rw [if_pos (by omega)]
    · refine ⟨a + (hi - lo), a + (hi - lo) + 1, ⟨by omega, by omega, .inl rfl⟩, ⟨by omega, ?_⟩, ⟨by omega, ?_⟩, by omega⟩
      · unfold bk
        split <;> (try split) <;> omega
      · unfold bk
        split <;> (try split) <;> omega
theorem bk_names (h : lo ≤ hi) (hk : hi < k) (c : Nat) : names (nmK k) ((List.range k).map (bk lo hi)) c = ((List.range k).filter fun i => bk lo hi i == c).map nmS := by
  have hz : (nmK k).zip ((List.range k).map (bk lo hi)) = (List.range k).map fun i => (nmS i, bk lo hi i) := by
    apply List.ext_getElem
    · simp
    · intro i h1 h2; simp
  unfold names
  rw [hz, List.filter_map, List.map_map]
  rfl
theorem bk_names_lo (h : lo ≤ hi) (hk : hi < k) : names (nmK k) ((List.range k).map (bk lo hi)) lo = (List.range (hi - lo + 1)).map fun x => nmS (lo + x) := by
  rw [bk_names h hk]
  have e1 : List.range k = List.range lo ++ ((List.range (hi - lo + 1)).map (fun x => lo + x) ++ (List.range (k - hi - 1)).map (fun x => hi + 1 + x)) := by
    have h1 : k = lo + ((hi - lo + 1) + (k - hi - 1)) := by omega
    conv => lhs; rw [h1, List.range_add, List.range_add]
    rw [List.map_append, List.map_map]
    congr 2
    refine List.map_congr_left fun x _ => ?_
    simp only [Function.comp]
    omega
  rw [e1, List.filter_append, List.filter_append]
  have h1 : (List.range lo).filter (fun i => bk lo hi i == lo) = [] := by
    rw [List.filter_eq_nil_iff]
    intro a ha
    have := List.mem_range.1 ha
    rw [beq_iff_eq, bk_mid h]; omega
  have h2 : ((List.range (k - hi - 1)).map (fun x => hi + 1 + x)).filter (fun i => bk lo hi i == lo) = [] := by
    rw [List.filter_eq_nil_iff]
    intro a ha
    obtain ⟨x, _, rfl⟩ := List.mem_map.1 ha
    rw [beq_iff_eq, bk_mid h]; omega
  have h3 : ((List.range (hi - lo + 1)).map (fun x => lo + x)).filter (fun i => bk lo hi i == lo) = (List.range (hi - lo + 1)).map (fun x => lo + x) := by
    rw [List.filter_eq_self]
    intro a ha
    obtain ⟨x, hx, rfl⟩ := List.mem_map.1 ha
    have := List.mem_range.1 hx
    rw [beq_iff_eq, bk_mid h]; omega
  rw [h1, h2, h3]
  simp [Function.comp_def]
theorem bk_names_ne (h : lo ≤ hi) (hk : hi < k) {c : Nat} (hc : c ≠ lo) : (names (nmK k) ((List.range k).map (bk lo hi)) c).length ≤ 1 := by
  rw [bk_names h hk, List.length_map]
  have hnd : ((List.range k).filter fun i => bk lo hi i == c).Nodup := List.nodup_range.filter _
  have hall : ∀ x ∈ (List.range k).filter (fun i => bk lo hi i == c), ∀ y ∈ (List.range k).filter (fun i => bk lo hi i == c), x = y := fun x hx y hy => by
    simp only [List.mem_filter, beq_iff_eq] at hx hy
    rcases bk_eq h (hx.2.trans hy.2.symm) with h1 | ⟨h1, h2, _⟩
    · exact h1
    · exact absurd (hx.2.symm.trans ((bk_mid h).2 ⟨h1, h2⟩)) hc
  revert hnd hall
  generalize (List.range k).filter (fun i => bk lo hi i == c) = l
  intro hnd hall
  match l with
  | [] => simp
  | [x] => simp
  | x :: y :: l =>
    have := hall x (by simp) y (by simp)
    subst this
    simp at hnd
theorem bk_comps (hk : k ≤ 100) (h : lo ≤ hi) (hhk : hi < k) {cs : List (List Str)} (hc : CompsOf (put (chn k k) (nmS hi) (nmS lo :: (get (chn k k) (nmS hi)).getD [])) cs) :
    cs = (List.range (k - (hi - lo))).reverse.map (names (nmK k) ((List.range k).map (bk lo hi))) := by
  have hkeys : (put (chn k k) (nmS hi) (nmS lo :: (get (chn k k) (nmS hi)).getD [])).map (·.1) = nmK k := by
    rw [put_keys, chn_keys, if_pos (List.mem_map.2 ⟨hi, List.mem_range.2 hhk, rfl⟩)]
  have hE : ∀ i j, Edg (nums (put (chn k k) (nmS hi) (nmS lo :: (get (chn k k) (nmS hi)).getD [])) (nmK k)) i j ↔ bkE k lo hi i j := fun i j => by
    rw [edg_nm hk]
    unfold bkE
    constructor
    · rintro ⟨h1, h2, h3⟩
      refine ⟨h1, h2, ?_⟩
      rw [get_put] at h3
      have hcl : nmS j ∈ (get (chn k k) (nmS i)).getD [] → j = i + 1 := fun h4 => by
        rw [chn_get hk h1] at h4
        simp only [Option.getD_some] at h4
        split at h4
        · simp only [List.mem_singleton] at h4
          exact nmS_inj (by omega) (by omega) h4
        · simp at h4
      split at h3
      · rename_i he
        have := nmS_inj (by omega) (by omega) he
        subst this
        simp only [Option.getD_some, List.mem_cons] at h3
        rcases h3 with h3 | h3
        · exact .inr ⟨rfl, nmS_inj (by omega) (by omega) h3⟩
        · exact .inl (hcl h3)
      · exact .inl (hcl h3)
    · rintro ⟨h1, h2, h3⟩
      refine ⟨h1, h2, ?_⟩
      rw [get_put]
      have hcl : j = i + 1 → nmS j ∈ (get (chn k k) (nmS i)).getD [] := fun h4 => by
        subst h4
        rw [chn_get hk h1, if_pos h2]
        simp
      split
      · rename_i he
        have := nmS_inj (by omega) (by omega) he
        subst this
        simp only [Option.getD_some, List.mem_cons]
        rcases h3 with h3 | ⟨_, h4⟩
        · exact .inr (hcl h3)
        · exact .inl (by rw [h4])
      · rename_i he
        rcases h3 with h3 | ⟨h4, _⟩
        · exact hcl h3
        · exact absurd (by rw [h4]) he
  exact compsOf_eq hc (keys_nm hk hkeys) hE (by rw [nmK_len]; exact bk_of h hhk) (bk_arr h hhk)
end back1
end Go.Proofs.Ytfhbpghgcgmegaa
