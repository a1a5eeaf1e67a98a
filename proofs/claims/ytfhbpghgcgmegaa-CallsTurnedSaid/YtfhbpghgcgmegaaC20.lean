/- Contract: edges of numbers; small rules. -/
import Derived.Test.YtfhbpghgcgmegaaC18
import Derived.Test.YtfhbpghgcgmegaaC19
set_option linter.unusedVariables false
namespace Go.Proofs.Ytfhbpghgcgmegaa
open Go Go.Sh Go.Proofs

def encH (n : Nat) : Value := .int .u16 (n : Int)
/-- What 'edges' makes. -/
structure EdgOf (k : Nat) (l : List Nat) (e : List (Str × List Str)) : Prop where
  keys : e.map (·.1) = nmK k
  mem : ∀ a b, b ∈ (get e a).getD [] ↔ ∃ x ∈ l, a = nmS (x % 16 % k) ∧ b = nmS (x / 16 % (k + 1))
  len : ∀ a, ((get e a).getD []).length ≤ l.length
def nils (k : Nat) : List (Str × List Str) := (List.range k).map fun j => (nmS j, [])
theorem nils_keys (k : Nat) : (nils k).map (·.1) = nmK k := by simp [nils, nmK]
theorem nils_get {k : Nat} (a : Str) : (get (nils k) a).getD [] = [] := by
  unfold nils
  induction (List.range k) with
  | nil => rfl
  | cons x l ih =>
    simp only [List.map_cons, Sh.get]
    split
    · rfl
    · exact ih
theorem edgOf_nils (k : Nat) : EdgOf k [] (nils k) := ⟨nils_keys k, fun a b => by rw [nils_get]; simp, fun a => by rw [nils_get]; simp⟩
theorem EdgOf.add {k : Nat} {l : List Nat} {e : List (Str × List Str)} (h : EdgOf k l e) (hk : 0 < k) (x : Nat) :
    EdgOf k (l ++ [x]) (put e (nmS (x % 16 % k)) ((get e (nmS (x % 16 % k))).getD [] ++ [nmS (x / 16 % (k + 1))])) := by
  refine ⟨?_, fun a b => ?_, fun a => ?_⟩
  · rw [put_keys, h.keys, if_pos (List.mem_map.2 ⟨_, List.mem_range.2 (Nat.mod_lt _ hk), rfl⟩)]
  · rw [get_put]
    have hm := h.mem a b
    split
    · rename_i he
      simp only [Option.getD_some, List.mem_append, List.mem_singleton]
      rw [he, hm]
      constructor
      · rintro (⟨y, h1, h2, h3⟩ | h1)
        · exact ⟨y, .inl h1, h2, h3⟩
        · exact ⟨x, .inr rfl, he.symm, h1⟩
      · rintro ⟨y, h1 | h1, h2, h3⟩
        · exact .inl ⟨y, h1, h2, h3⟩
        · subst h1; exact .inr h3
    · rename_i he
      rw [hm]
      simp only [List.mem_append, List.mem_singleton]
      constructor
      · rintro ⟨y, h1, h2⟩; exact ⟨y, .inl h1, h2⟩
      · rintro ⟨y, h1 | h1, h2, h3⟩
        · exact ⟨y, h1, h2, h3⟩
        · subst h1; exact absurd h2.symm he
  · rw [get_put]
    have hl := h.len a
    split
    · rename_i he
      rw [he]
      simp; omega
    · simp; omega
theorem EdgOf.nodup {k : Nat} {l : List Nat} {e : List (Str × List Str)} (h : EdgOf k l e) (hk : k ≤ 100) : (e.map (·.1)).Nodup := by rw [h.keys]; exact nmK_nodup hk
theorem EdgOf.sm {k : Nat} {l : List Nat} {e : List (Str × List Str)} (h : EdgOf k l e) (hk : k ≤ 100) (hl : l.length ≤ 1000) : Sm e := by
  refine ⟨?_, fun a x hx => ?_⟩
  · have := congrArg List.length h.keys
    simp at this
    omega
  · have := h.len a
    rw [hx] at this
    simp only [Option.getD_some] at this
    omega
theorem EdgOf.key {k : Nat} {l : List Nat} {e : List (Str × List Str)} (h : EdgOf k l e) {i : Nat} (hi : i < k) : nmS i ∈ e.map (·.1) := by
  rw [h.keys]
  exact List.mem_map.2 ⟨i, List.mem_range.2 hi, rfl⟩

theorem edges_ok {h0 h : Heap} {L : List HP} {v1 : Value} {n : Nat} {l : List Nat} (s : St h0 h L) (r : RdL encH h v1 l) (hn : n < 256) (hl : l.length ≤ 1000) (hx : ∀ x ∈ l, x < 65536) :
    HC Try.prog 8 #[.int .u8 n, v1] h fun u h' => Ext h h' ∧ ∃ e, EdgOf (n % 9 + 1) l e ∧ St h0 h' (MR str u e :: L) := by
  refine HC.mono (K := fun u h' => ∃ e, EdgOf (n % 9 + 1) l e ∧ St h h' [MR str u e]) ?_ (fun u h' ⟨e, h1, h2⟩ => ⟨h2.ext, e, h1, s.call h2⟩)
  refine sh_augurlaw11_edges ?_
  unfold g_augurlaw11_edges
  refine oMkMap_own (.inl rfl) (St.nil h) fun t11 h1 s1 => ?_
  refine oRem (c := 9) (by omega) hn ?_
  have h9 : n % 9 < 9 := Nat.mod_lt _ (by omega)
  obtain ⟨k, hk⟩ : ∃ k, k = n % 9 + 1 := ⟨_, rfl⟩
  rw [oBin_add, wrap_int _ (by omega) (by omega), show ((n % 9 : Nat) : Int) + 1 = (k : Int) from by omega, ← hk]
  have hk9 : k ≤ 9 := by omega
  have hk1 : 1 ≤ k := by omega
  clear hk h9
  refine loop1_count 0 k (fun i h' => St h h' [MR str t11 (nils i)]) (Nat.zero_le _) s1.mrNil ?_
  intro i h2 nx hi s2 hnx
  rw [oBin_lss]
  by_cases hlt : i < k
  · rw [cond_pos (by omega)]
    refine oChr (by omega) ?_
    refine oName (by omega) s2 fun h3 _ s3 => ?_
    refine oPutMR (enc := str) (l := []) (o := none) (by intro x hx; cases hx) s3.nilRow fun h4 s4 => ?_
    rw [oBin_add, wrap_succ i _ hlt (by omega)]
    refine hnx _ hlt ?_
    have hni : nmS i ∉ (nils i).map (·.1) := by
      rw [nils_keys]
      intro h
      obtain ⟨j, hj, he⟩ := List.mem_map.1 h
      have := List.mem_range.1 hj
      have := nmS_inj (by omega) (by omega) he
      omega
    rw [put_new hni] at s4
    have : nils (i + 1) = nils i ++ [(nmS i, [])] := by simp [nils, List.range_succ]
    rw [this]
    exact s4
  rw [cond_neg (by omega)]
  have hie : i = k := by omega
  subst hie
  refine loop1_count 0 l.length (fun j h' => ∃ e, EdgOf i (l.take j) e ∧ St h h' [MR str t11 e]) (Nat.zero_le _) ⟨nils i, by simpa using edgOf_nils i, s2⟩ ?_
  rintro j h5 nx2 hj ⟨e, he, s5⟩ hnx2
  rw [oLen_sl r.1, oBin_lss]
  by_cases hjlt : j < l.length
  · rw [cond_pos (by omega)]
    obtain ⟨x, hxj⟩ : ∃ x, l[j]? = some x := ⟨_, List.getElem?_eq_getElem hjlt⟩
    have hxb := hx x (List.mem_of_getElem? hxj)
    refine join_intro fun k' hk' => ?_
    have h1616 : x % 16 < 16 := Nat.mod_lt _ (by omega)
    have ha : x % 16 % i < i := Nat.mod_lt _ (by omega)
    have hb : x / 16 % (i + 1) < i + 1 := Nat.mod_lt _ (by omega)
    have tail : ∀ h', St h h' [MR str t11 e] → k' (str (nmS (x % 16 % i))) (str (nmS (x / 16 % (i + 1)))) h' := fun h' s' => by
      rw [hk']
      dsimp only
      have hlen := he.len (nmS (x % 16 % i))
      rw [List.length_take] at hlen
      refine oAppMR (a := nmS (x / 16 % (i + 1))) s' rfl rfl (by omega) (by omega) fun h6 s6 => ?_
      rw [oBin_add, wrap_succ j _ hjlt (by omega)]
      refine hnx2 _ hjlt ⟨_, ?_, s6⟩
      rw [List.take_add_one, hxj]
      exact he.add (by omega) x
    clear hk'
    have hD : ∀ h', Ext h5 h' → Ext h h' := fun h' h'' => s5.ext.trans h''
    refine oGetLd r hD hxj ?_
    unfold encH
    rw [show (16 : Int) = ((16 : Nat) : Int) from rfl, oBin_rem (by omega), ← Int.ofNat_tmod, oConv_int, wrap_int _ (by omega) (by omega), oBin_rem (by omega), ← Int.ofNat_tmod]
    refine oChr (by omega) ?_
    refine oGetLd r hD hxj ?_
    unfold encH
    have hq : IntKind.u16.wrap (((x : Nat) : Int).tdiv ((16 : Nat) : Int)) = ((x / 16 : Nat) : Int) := by
      have h1 : ((x : Nat) : Int).tdiv ((16 : Nat) : Int) = ((x / 16 : Nat) : Int) := rfl
      rw [h1]
      exact IntWalk.u16_in _ (by omega)
    rw [oBin_quo (by omega), hq, oConv_int, wrap_int _ (by omega) (by omega), oBin_add, wrap_int _ (by omega) (by omega), show ((i : Int) + 1) = ((i + 1 : Nat) : Int) from by omega, oBin_rem (by omega), ← Int.ofNat_tmod]
    refine oChr (by omega) ?_
    constructor
    · refine oNameQ (by omega) s5 fun h6 _ s6 => ?_
      refine oNameQ (by omega) s6 fun h7 _ s7 => ?_
      exact tail _ s7
    · refine oNameQ (by omega) s5 fun h6 _ s6 => ?_
      refine oNameQ (by omega) s6 fun h7 _ s7 => ?_
      exact tail _ s7
  · rw [cond_neg (by omega)]
    have hjl : j = l.length := by omega
    subst hjl
    rw [List.take_length] at he
    exact ⟨e, he, s5⟩

theorem back_ok {h : Heap} {v1 : Value} {n : Nat} {l : List Nat} (r : RdL encH h v1 l) (hn : n < 256) (hx : ∀ x ∈ l, x < 65536) :
    HC Try.prog 5 #[.int .u8 n, v1] h fun u h' => u = .bool true ∧ Ext h h' := by
  refine sh_augurlaw11_CallsBack ?_
  unfold g_augurlaw11_CallsBack
  refine oCall_func (.mono known_ok ?_)
  rintro u h0 ⟨rfl, e0⟩
  have s0 : St h h0 [] := ⟨e0, trivial⟩
  rw [oUn_not]
  show cond (.bool false) _ _
  rw [cond_f, oLen_sl r.1, oBin_gtr]
  by_cases hl : (30 : Int) < (l.length : Int)
  · rw [cond_pos hl]
    exact ⟨rfl, e0⟩
  rw [cond_neg hl]
  refine oCall_func (.mono (edges_ok s0 (r.ext e0) hn (by omega) hx) ?_)
  rintro t17 h1 ⟨_, e, he, s1⟩
  have h9 : n % 9 < 9 := Nat.mod_lt _ (by omega)
  obtain ⟨k, hk⟩ : ∃ k, k = n % 9 + 1 := ⟨_, rfl⟩
  rw [← hk] at he
  have hk9 : k ≤ 9 := by omega
  have sm := he.sm (by omega) (by omega)
  have hK : ∀ {K : Value → Prop} {x1 y1 : Operand}, K (.int .i64 k) → oBin Try.prog .rem 5 x1 (.const (.int .u8 9)) (.int .u8 n) (.int .u8 9) fun t20 => oConv Try.prog 5 3 t20 fun t21 => oBin Try.prog .add 3 y1 (.const (.int .i64 1)) t21 (.int .i64 1) K := fun hh => by
    refine oRem (c := 9) (by omega) hn ?_
    rw [oBin_add, wrap_int _ (by omega) (by omega), show ((n % 9 : Nat) : Int) + 1 = (k : Int) from by omega]
    exact hh
  refine loop1_count 0 k (fun i h' => St h h' [MR str t17 e]) (Nat.zero_le _) s1 ?_
  intro i h2 nx hi s2 hnx
  refine hK ?_
  rw [oBin_lss]
  by_cases hlt : i < k
  · rw [cond_pos (by omega)]
    refine loop1_count 0 k (fun i h' => St h h' [MR str t17 e]) (Nat.zero_le _) s2 ?_
    intro j h3 nx2 hj s3 hnx2
    refine hK ?_
    rw [oBin_lss]
    by_cases hjlt : j < k
    · rw [cond_pos (by omega)]
      refine join_intro fun k' hk' => ?_
      have tail : ∀ h', St h h' [MR str t17 e] → k' (str (nmS i)) (str (nmS j)) h' := fun h' s' => by
        rw [hk']
        dsimp only
        refine oCall_func (.mono (needs_ok (nm := nmS i) s'.mr sm) ?_)
        rintro t46 h4 ⟨e4, l1, hl1, hl2⟩
        have hb1 : l1.length ≤ 1000000 := by
          have h1 := List.Nodup.length_le_of_subset (l₂ := e.map (·.1)) hl2.2.1 (fun x hx => by
            obtain ⟨b, _, h3⟩ := RP.tail.1 ((hl2.2.2 x).1 hx)
            exact h3.2)
          have := sm.len
          rw [List.length_map] at h1
          omega
        refine oCall_func (.mono (has_ok (s := nmS j) hl1 (by omega)) ?_)
        rintro u5 h5 ⟨rfl, rfl⟩
        have s4 : St h h5 [MR str t17 e] := s'.call (L' := []) ⟨e4, trivial⟩
        refine oCall_func (.mono (users_ok (nm := nmS j) s4.mr sm) ?_)
        rintro t51 h6 ⟨e6, l2, hl3, hl4⟩
        have hb2 : l2.length ≤ 1000000 := by
          rcases hl4 with ⟨_, rfl⟩ | ⟨_, hl4⟩
          · simp
          · have h1 := List.Nodup.length_le_of_subset (l₂ := e.map (·.1)) hl4.2.1 (fun x hx => by
              obtain ⟨b, _, h3⟩ := RP.tail.1 ((hl4.2.2 x).1 hx)
              exact h3.2)
            have := sm.len
            rw [List.length_map] at h1
            omega
        refine oCall_func (.mono (has_ok (s := nmS i) hl3 (by omega)) ?_)
        rintro u7 h7 ⟨rfl, rfl⟩
        have s5 : St h h7 [MR str t17 e] := s4.call (L' := []) ⟨e6, trivial⟩
        have hsame := back_same (he.key hlt) (he.key hjlt) hl2 hl4
        have hd : decide (nmS j ∈ l1) = decide (nmS i ∈ l2) := by rw [decide_eq_decide]; exact hsame
        rw [hd, oBin_bool_neq]
        simp only [bne_self_eq_false]
        rw [cond_f, oBin_add, wrap_succ j _ hjlt (by omega)]
        exact hnx2 _ hjlt s5
      clear hk'
      refine oChr (by omega) ?_
      refine oChr (by omega) ?_
      constructor
      · refine oNameQ (by omega) s3 fun h6 _ s6 => ?_
        refine oNameQ (by omega) s6 fun h7 _ s7 => ?_
        exact tail _ s7
      · refine oNameQ (by omega) s3 fun h6 _ s6 => ?_
        refine oNameQ (by omega) s6 fun h7 _ s7 => ?_
        exact tail _ s7
    · rw [cond_neg (by omega), oBin_add, wrap_succ i _ hlt (by omega)]
      exact hnx _ hlt s3
  · rw [cond_neg (by omega)]
    exact ⟨rfl, s2.ext⟩
end Go.Proofs.Ytfhbpghgcgmegaa
