/- The order of strings by their bytes; sorted lists. -/
import Derived.Test.YtfhbpghgcgmegaaHp
import Derived.Shelf.SlSortCmp.Insertion
import Derived.Lib.Bytealg
set_option linter.unusedVariables false
namespace Go.Sh
open Go.Proofs Go.Lib Go.Sort

def ltS : Str → Str → Bool
  | _, [] => false
  | [], _ :: _ => true
  | a :: at1, b :: bs => if a < b then true else if b < a then false else ltS at1 bs
theorem ltS_irrefl : ∀ a : Str, ltS a a = false
  | [] => rfl
  | a :: at1 => by simp [ltS, UInt8.lt_irrefl, ltS_irrefl at1]
theorem ltS_trans : ∀ a b c : Str, ltS a b = true → ltS b c = true → ltS a c = true
  | [], [], _, h, _ => by simp [ltS] at h
  | _, _ :: _, [], _, h => by simp [ltS] at h
  | _ :: _, [], _, h, _ => by simp [ltS] at h
  | [], _ :: _, _ :: _, _, _ => rfl
  | a :: at1, b :: bs, c :: cs, h, k => by
    have ih := ltS_trans at1 bs cs
    simp only [ltS, UInt8.lt_iff_toNat_lt] at h k ⊢
    repeat' split at h
    all_goals repeat' split at k
    all_goals first | omega | (exfalso; simp at h; done) | (exfalso; simp at k; done) | skip
    all_goals repeat' split
    all_goals first | rfl | omega | exact ih h k
theorem ltS_tri : ∀ a b : Str, ltS a b = false → ltS b a = false → a = b
  | [], [], _, _ => rfl
  | [], _ :: _, h, _ => by simp [ltS] at h
  | _ :: _, [], _, h => by simp [ltS] at h
  | a :: at1, b :: bs, h, k => by
    have ih := ltS_tri at1 bs
    simp only [ltS, UInt8.lt_iff_toNat_lt] at h k
    repeat' split at h
    all_goals repeat' split at k
    all_goals first | omega | (exfalso; simp at h; done) | (exfalso; simp at k; done) | skip
    rw [ih h k, show a = b from UInt8.toNat_inj.1 (by omega)]
theorem ltS_asymm (a b : Str) (h : ltS a b = true) : ltS b a = false := by
  cases hb : ltS b a with
  | false => rfl
  | true => have := ltS_trans a b a h hb; rw [ltS_irrefl] at this; cases this
theorem ltS_ntrans (a b c : Str) (h : ltS a b = false) (k : ltS b c = false) : ltS a c = false := by
  cases hac : ltS a c with
  | false => rfl
  | true =>
    exfalso
    cases hba : ltS b a with
    | true => rw [ltS_trans b a c hba hac] at k; cases k
    | false =>
      have := ltS_tri a b h hba
      subst this
      rw [hac] at k; cases k
theorem cmp_ltS : ∀ a b : Str, decide (compareBytes a b < 0) = ltS a b
  | [], [] => rfl
  | [], _ :: _ => rfl
  | _ :: _, [] => rfl
  | a :: at1, b :: bs => by
    have ih := cmp_ltS at1 bs
    simp only [compareBytes, ltS]
    split
    · rfl
    · split
      · rfl
      · exact ih
theorem swoS : SWO (ltOf compareBytes) := by
  have e : ltOf compareBytes = ltS := by funext a b; exact cmp_ltS a b
  rw [e]
  exact ⟨ltS_irrefl, ltS_trans, ltS_ntrans⟩

/-- Sorted by insertion. -/
def insS (x : Str) : List Str → List Str
  | [] => [x]
  | y :: l => if ltS y x then y :: insS x l else x :: y :: l
def sortS : List Str → List Str
  | [] => []
  | x :: l => insS x (sortS l)
def SortS (l : List Str) : Prop := l.Pairwise fun a b => ltS b a = false
theorem insS_perm (x : Str) : ∀ l, (insS x l).Perm (x :: l)
  | [] => .refl _
  | y :: l => by
    unfold insS
    split
    · exact (List.Perm.cons y (insS_perm x l)).trans (.swap _ _ _)
    · exact .refl _
theorem sortS_perm : ∀ l, (sortS l).Perm l
  | [] => .refl _
  | x :: l => (insS_perm x _).trans (.cons x (sortS_perm l))
theorem insS_sorted (x : Str) : ∀ l, SortS l → SortS (insS x l)
  | [], _ => by simp [insS, SortS]
  | y :: l, h => by
    unfold insS
    simp only [SortS, List.pairwise_cons] at h
    split
    · rename_i hlt
      simp only [SortS, List.pairwise_cons]
      refine ⟨fun z hz => ?_, insS_sorted x l h.2⟩
      rcases List.mem_cons.1 ((insS_perm x l).mem_iff.1 hz) with rfl | hz
      · exact ltS_asymm _ _ hlt
      · exact h.1 z hz
    · rename_i hlt
      simp only [SortS, List.pairwise_cons]
      refine ⟨fun z hz => ?_, h.1, h.2⟩
      have hlt' : ltS y x = false := by simpa using hlt
      rcases List.mem_cons.1 hz with rfl | hz
      · exact hlt'
      · exact ltS_ntrans z y x (h.1 z hz) hlt'
theorem sortS_sorted : ∀ l, SortS (sortS l)
  | [] => by simp [sortS, SortS]
  | x :: l => insS_sorted x _ (sortS_sorted l)
theorem SortS.unique : ∀ {l m : List Str}, l.Perm m → SortS l → SortS m → l = m
  | [], m, p, _, _ => by simpa using p.symm.eq_nil.symm
  | x :: l, [], p, _, _ => absurd p.length_eq (by simp)
  | x :: l, y :: m, p, hl, hm => by
    simp only [SortS, List.pairwise_cons] at hl hm
    have hxy : x = y := by
      rcases List.mem_cons.1 (p.mem_iff.1 (List.mem_cons_self)) with h | h
      · exact h
      · rcases List.mem_cons.1 (p.mem_iff.2 (List.mem_cons_self (a := y))) with h' | h'
        · exact h'.symm
        · exact ltS_tri x y (hm.1 x h) (hl.1 y h')
    subst hxy
    rw [SortS.unique (p.cons_inv) hl.2 hm.2]
theorem sortS_unique {l m : List Str} (p : m.Perm l) (h : SortS m) : m = sortS l := SortS.unique (p.trans (sortS_perm l).symm) h (sortS_sorted l)
theorem sortS_congr {l m : List Str} (p : l.Perm m) : sortS l = sortS m := sortS_unique ((sortS_perm l).trans p) (sortS_sorted l)
end Go.Sh
