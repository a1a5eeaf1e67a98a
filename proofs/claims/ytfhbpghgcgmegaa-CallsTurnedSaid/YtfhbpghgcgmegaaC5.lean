/- Contracts: the edges by numbers; the edges turned round. -/
import Derived.Test.YtfhbpghgcgmegaaC4
set_option linter.unusedVariables false
namespace Go.Proofs.Ytfhbpghgcgmegaa
open Go Go.Sh Go.Proofs

def encI (n : Nat) : Value := .int .i64 (n : Int)
theorem encI_inj {a b : Nat} (h : encI a = encI b) : a = b := by
  simp only [encI, Value.int.injEq, true_and] at h
  omega

/-- Where a name stands. -/
def posF (l : List Str) (i : Nat) (c : Str) : Option Nat :=
  match l with
  | [] => none
  | x :: l => if x = c then some i else posF l (i + 1) c
abbrev pos (l : List Str) (c : Str) : Option Nat := posF l 0 c
def numF (l : List Str) (i : Nat) : List (Str × Value) :=
  match l with
  | [] => []
  | x :: l => (x, encI i) :: numF l (i + 1)
theorem look_numF (c : Str) : ∀ (l : List Str) (i : Nat), Sh.look (numF l i) c = (posF l i c).map encI
  | [], _ => rfl
  | x :: l, i => by
    unfold numF posF Sh.look
    split
    · rfl
    · exact look_numF c l (i + 1)
theorem look_num0 (c : Str) (l : List Str) : Sh.look (numF l 0) c = (pos l c).map encI := look_numF c l 0
theorem ups_numF (x : Str) : ∀ (l : List Str) (i : Nat), x ∉ l → ups (numF l i) x (encI (i + l.length)) = numF (l ++ [x]) i
  | [], i, _ => by simp [numF, ups]
  | y :: l, i, h => by
    simp only [List.mem_cons, not_or] at h
    simp only [numF, ups, List.cons_append]
    rw [if_neg (fun e => h.1 e.symm), ← ups_numF x l (i + 1) h.2]
    simp [Nat.add_comm, Nat.add_left_comm]
theorem posF_some {c : Str} : ∀ {l : List Str} {i j : Nat}, posF l i c = some j → i ≤ j ∧ l[j - i]? = some c
  | [], _, _, h => by simp [posF] at h
  | x :: l, i, j, h => by
    unfold posF at h
    split at h
    · rename_i e
      simp only [Option.some.injEq] at h
      subst h; subst e
      simp
    · obtain ⟨h1, h2⟩ := posF_some h
      refine ⟨by omega, ?_⟩
      rw [show j - i = (j - (i + 1)) + 1 from by omega]
      simpa using h2
theorem posF_none {c : Str} : ∀ {l : List Str} {i : Nat}, posF l i c = none → c ∉ l
  | [], _, _ => by simp
  | x :: l, i, h => by
    unfold posF at h
    split at h
    · cases h
    · rename_i e
      simp only [List.mem_cons, not_or]
      exact ⟨fun e' => e e'.symm, posF_none h⟩
theorem pos_iff {l : List Str} (hn : l.Nodup) {c : Str} {j : Nat} : pos l c = some j ↔ l[j]? = some c := by
  constructor
  · intro h
    simpa using (posF_some h).2
  · intro h
    cases hp : pos l c with
    | none => exact absurd (List.mem_of_getElem? h) (posF_none hp)
    | some i =>
      have h2 := (posF_some hp).2
      simp only [Nat.sub_zero] at h2
      rw [(List.getElem?_inj (List.getElem?_eq_some_iff.1 h2).1 hn).1 (h2.trans h.symm)]

/-- The edges between the keys, by their numbers. -/
def row (e : List (Str × List Str)) (l : List Str) (a : Str) : List Nat := ((get e a).getD []).filterMap (pos l)
def nums (e : List (Str × List Str)) (l : List Str) : List (List Nat) := l.map (row e l)

theorem set_mid' {β : Type} (pre post : List β) (x y : β) : (pre ++ x :: post).set pre.length y = pre ++ y :: post := by simp

theorem numbered_ok {h : Heap} {v0 v1 : Value} {e : List (Str × List Str)} {l : List Str} (r : RdE h v0 e) (hl : RdS h v1 l) (hnd : l.Nodup) (hn : l.length ≤ big) (hb : ∀ a x, get e a = some x → x.length ≤ big) :
    HC Try.prog 16 #[v0, v1] h fun u h' => St h h' [RR encI u (nums e l)] := by
  unfold big at hn hb
  refine sh_calls_numbered ?_
  unfold g_calls_numbered
  simp only [oLen_sl hl.1]
  refine oMkMap_own (.inr ⟨_, _, rfl⟩) (St.nil h) fun t17 h1 s1 => ?_
  refine loop1_count 0 l.length (fun i h' => St h h' [MapO t17 (numF (l.take i) 0)]) (Nat.zero_le _) s1 ?_
  intro i h2 next hi s2 hnext
  rw [oBin_lss]
  by_cases hlt : i < l.length
  · rw [cond_pos (by omega)]
    obtain ⟨x, hx⟩ : ∃ x, l[i]? = some x := ⟨l[i], List.getElem?_eq_getElem hlt⟩
    refine oGetL (hl.ext s2.ext) hx ?_
    obtain ⟨st, c, s3⟩ := s2.mapO
    refine oUpd_own s3 fun h3 st' c' _ s4 => ?_
    rw [oBin_add, wrap_succ i _ hlt (by omega)]
    refine hnext _ hlt ?_
    have htk : l.take (i + 1) = l.take i ++ [x] := by
      rw [List.take_add_one, hx]; rfl
    have hnin : x ∉ l.take i := by
      have := hnd.sublist (List.take_sublist (i + 1) l)
      rw [htk, List.nodup_append] at this
      exact fun hm => this.2.2 x hm x (by simp) rfl
    have := ups_numF x (l.take i) 0 hnin
    rw [List.length_take, Nat.min_eq_left hi, Nat.zero_add, ← htk] at this
    rw [← this]
    exact s4.toMapO
  · rw [cond_neg (by omega)]
    have hil : i = l.length := by omega
    subst hil
    rw [List.take_length] at s2
    refine oMkSliceRR (enc := encI) s2 (by omega) (by omega) fun t31 h3 s3 => ?_
    refine loop1_count 0 l.length (fun i h' => St h h' [RR encI t31 ((nums e l).take i ++ List.replicate (l.length - i) []), MapO t17 (numF l 0)]) (Nat.zero_le _) (by simpa using s3) ?_
    intro i h4 next hi s4 hnext
    rw [oBin_lss]
    by_cases hlt : i < l.length
    · rw [cond_pos (by omega)]
      obtain ⟨x, hx⟩ : ∃ x, l[i]? = some x := ⟨l[i], List.getElem?_eq_getElem hlt⟩
      refine oGetL (hl.ext s4.ext) hx ?_
      refine oLookMp (d := []) r s4.ext (RdL.nil _ _ _) fun t41 ht41 => ?_
      have hcs : ((get e x).getD []).length ≤ 1000000000000 := by
        cases hg : get e x with
        | none => simp
        | some y => exact hb x y hg
      have hnum : (nums e l)[i]? = some (row e l x) := by simp [nums, hx]
      have hnl : ((nums e l).take i).length = i := by simp [nums]; omega
      have hrep : List.replicate (l.length - i) ([] : List Nat) = [] :: List.replicate (l.length - (i + 1)) [] := by
        rw [show l.length - i = (l.length - (i + 1)) + 1 from by omega, List.replicate_succ]
      rw [oLen_sl ht41.1]
      have hz : (nums e l).take i ++ List.replicate (l.length - i) [] = (nums e l).take i ++ (((get e x).getD []).take 0).filterMap (pos l) :: List.replicate (l.length - (i + 1)) [] := by
        rw [hrep]; simp
      refine loop1_count 0 ((get e x).getD []).length (fun j h' => St h h' [RR encI t31 ((nums e l).take i ++ (((get e x).getD []).take j).filterMap (pos l) :: List.replicate (l.length - (i + 1)) []), MapO t17 (numF l 0)])
        (Nat.zero_le _) (by rw [← hz]; exact s4) ?_
      intro j h5 next2 hj s5 hnext2
      rw [oBin_lss]
      by_cases hjlt : j < ((get e x).getD []).length
      · rw [cond_pos (by omega)]
        obtain ⟨y, hy⟩ : ∃ y, ((get e x).getD [])[j]? = some y := ⟨_, List.getElem?_eq_getElem hjlt⟩
        have ht5 : RdL str h5 t41 ((get e x).getD []) := ht41.ext s5.ext
        refine oGetL ht5 hy ?_
        obtain ⟨st, c, s6⟩ := s5.swap.mapO
        refine oLook_val (m := numF l 0) (by rintro _ rfl; exact ⟨st, c, s6.mapRd⟩) ?_
        rw [if_pos rfl, oExt_two0, oExt_two1, look_num0]
        have htk : (((get e x).getD []).take (j + 1)).filterMap (pos l) = (((get e x).getD []).take j).filterMap (pos l) ++ (pos l y).toList := by
          rw [List.take_add_one, hy, List.filterMap_append]
          cases hp : pos l y with
          | none => simp [hp]
          | some q => simp [hp]
        cases hp : pos l y with
        | none =>
          simp only [Option.map_none, Option.isSome_none]
          rw [cond_f, oBin_add, wrap_succ j _ hjlt (by omega)]
          refine hnext2 _ hjlt ?_
          rw [htk, hp]
          simpa using s5
        | some q =>
          simp only [Option.map_some, Option.isSome_some, Option.getD_some]
          rw [cond_t]
          have hlj : ((nums e l).take i ++ (((get e x).getD []).take j).filterMap (pos l) :: List.replicate (l.length - (i + 1)) [])[i]? = some ((((get e x).getD []).take j).filterMap (pos l)) := by
            rw [List.getElem?_append_right (by omega), hnl, Nat.sub_self]; rfl
          have hfl : ((((get e x).getD []).take j).filterMap (pos l)).length ≤ 1000000000000 :=
            Nat.le_trans (List.length_filterMap_le _ _) (Nat.le_trans (by simp; omega) hcs)
          refine rrAppend (enc := encI) (x := q) s5 hlj rfl rfl (by omega) (by omega) fun h6 s7 => ?_
          rw [oBin_add, wrap_succ j _ hjlt (by omega)]
          refine hnext2 _ hjlt ?_
          rw [htk, hp]
          have := set_mid' ((nums e l).take i) (List.replicate (l.length - (i + 1)) []) ((((get e x).getD []).take j).filterMap (pos l)) ((((get e x).getD []).take j).filterMap (pos l) ++ [q])
          rw [hnl] at this
          rw [this] at s7
          exact s7
      · rw [cond_neg (by omega), oBin_add, wrap_succ i _ hlt (by omega)]
        refine hnext _ hlt ?_
        have hjl : j = ((get e x).getD []).length := by omega
        subst hjl
        rw [List.take_length] at s5
        rw [List.take_add_one, hnum]
        simpa [row] using s5
    · rw [cond_neg (by omega)]
      have hil : i = l.length := by omega
      subst hil
      have : (nums e l).take l.length = nums e l := by
        rw [List.take_of_length_le]; simp [nums]
      rw [this, Nat.sub_self, List.replicate_zero, List.append_nil] at s4
      exact s4.split (L := [_])
end Go.Proofs.Ytfhbpghgcgmegaa
