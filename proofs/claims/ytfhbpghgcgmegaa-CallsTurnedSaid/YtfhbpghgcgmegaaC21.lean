/- 'CallsOrder' answers true. -/
import Derived.Test.YtfhbpghgcgmegaaC20
set_option linter.unusedVariables false
namespace Go.Proofs.Ytfhbpghgcgmegaa
open Go Go.Sh Go.Proofs

theorem rchOf_len {e nx : List (Str × List Str)} {a : Str} {l : List Str} (h : RchOf (Stp e nx) a l) : l.length ≤ e.length := by
  have h1 := List.Nodup.length_le_of_subset (l₂ := e.map (·.1)) h.2.1 (fun x hx => by
    obtain ⟨b, _, h3⟩ := RP.tail.1 ((h.2.2 x).1 hx)
    exact h3.2)
  rwa [List.length_map] at h1
theorem flat_split {cs : List (List Str)} {p q : Nat} {a : List Str} {x : Str} (hp : cs[p]? = some a) (hq : a[q]? = some x) :
    cs.flatten = (cs.take p).flatten ++ a.take q ++ x :: (a.drop (q + 1) ++ (cs.drop (p + 1)).flatten) := by
  have h1 := List.getElem?_eq_some_iff.1 hp
  have h2 := List.getElem?_eq_some_iff.1 hq
  have e1 : cs = cs.take p ++ a :: cs.drop (p + 1) := by rw [← h1.2, List.getElem_cons_drop, List.take_append_drop]
  have e2 : a = a.take q ++ x :: a.drop (q + 1) := by rw [← h2.2, List.getElem_cons_drop, List.take_append_drop]
  conv => lhs; rw [e1]
  rw [List.flatten_append, List.flatten_cons]
  conv => lhs; rw [e2]
  simp [List.append_assoc]

theorem order_ok {h : Heap} {v1 : Value} {n : Nat} {l : List Nat} (r : RdL encH h v1 l) (hn : n < 256) (hx : ∀ x ∈ l, x < 65536) :
    HC Try.prog 3 #[.int .u8 n, v1] h fun u h' => u = .bool true ∧ Ext h h' := by
  refine sh_augurlaw11_CallsOrder ?_
  unfold g_augurlaw11_CallsOrder
  refine oCall_func (.mono known_ok ?_)
  rintro u h0 ⟨rfl, e0⟩
  have s0 : St h h0 [] := ⟨e0, trivial⟩
  rw [oUn_not]
  show cond (.bool false) _ _
  rw [cond_f, oLen_sl r.1, oBin_gtr]
  by_cases hl : (30 : Int) < (l.length : Int)
  · rw [cond_pos hl]
    exact ⟨rfl, e0⟩
  rw [cond_neg hl]
  refine oCall_func (.mono (edges_ok s0 (r.ext e0) hn (by omega) hx) ?_)
  rintro t26 h1 ⟨_, e, he, s1⟩
  have h9 : n % 9 < 9 := Nat.mod_lt _ (by omega)
  obtain ⟨k, hk⟩ : ∃ k, k = n % 9 + 1 := ⟨_, rfl⟩
  rw [← hk] at he
  have hk9 : k ≤ 9 := by omega
  have sm := he.sm (by omega) (by omega)
  have hel : e.length = k := by
    have := congrArg List.length he.keys
    simpa using this
  refine oCall_func (.mono (comps_ok s1.mr sm) ?_)
  rintro t28 h2 ⟨e2, cs, hcs, hc⟩
  have cf := comps_facts (he.nodup (by omega)) hc
  have s2 : St h h2 [MR str t26 e] := s1.call (L' := []) ⟨e2, trivial⟩
  have hfl : cs.flatten.length = k := by
    have hp : cs.flatten.Perm (e.map (·.1)) := (List.perm_ext_iff_of_nodup cf.nodup (he.nodup (by omega))).2 cf.mem
    rw [hp.length_eq, List.length_map, hel]
  have hclen : ∀ (p : Nat) (a : List Str), cs[p]? = some a → a.length ≤ 9 := fun p a hp => by
    have h1 : a.Sublist cs.flatten := List.sublist_flatten_of_mem (List.mem_of_getElem? hp)
    have := h1.length_le
    omega
  have rE : RdE h2 t26 e := s2.mr
  have e02 : Ext h h2 := s2.ext
  have hcsl : cs.length ≤ 100000 := by
    obtain ⟨of, mm, ll, o, ar, hcseq⟩ := id hc
    rw [hcseq, List.length_map, ar.len]
    have h1 := ofOk_m o
    have h2 : (keysOf e).length = e.length := by rw [(sortS_perm _).length_eq, List.length_map]
    omega
  clear s2 s1 s0 e2 hc
  refine oMkMap_own (.inl rfl) (St.nil h2) fun t29 h3 s3 => ?_
  refine loop1_count 0 cs.length (fun p h' => ∃ m : List (Str × Value), m.map (·.1) = (cs.take p).flatten ∧ (∀ x v, Sh.look m x = some v → ∃ (q : Nat) (a : List Str), cs[q]? = some a ∧ x ∈ a ∧ v = encI q) ∧ St h2 h' [MapO t29 m])
    (Nat.zero_le _) ⟨[], by simp, by simp [Sh.look], s3⟩ ?_
  rintro p h4 nx hp ⟨m, hm1, hm2, s4⟩ hnx
  rw [oLen_sl hcs.1, oBin_lss]
  by_cases hplt : p < cs.length
  · rw [cond_pos (by omega)]
    obtain ⟨a, ha⟩ : ∃ a, cs[p]? = some a := ⟨_, List.getElem?_eq_getElem hplt⟩
    have hal := hclen p a ha
    refine loop1_count 0 a.length (fun q h' => ∃ m : List (Str × Value), m.map (·.1) = (cs.take p).flatten ++ a.take q ∧ (∀ x v, Sh.look m x = some v → ∃ (q : Nat) (a : List Str), cs[q]? = some a ∧ x ∈ a ∧ v = encI q) ∧ St h2 h' [MapO t29 m])
      (Nat.zero_le _) ⟨m, by simpa using hm1, hm2, s4⟩ ?_
    rintro q h5 nx2 hq ⟨m', hm1', hm2', s5⟩ hnx2
    refine oGetLLx hcs s5.ext ha fun t40 ht40 => ?_
    rw [oLen_sl ht40.1, oBin_lss]
    by_cases hqlt : q < a.length
    · rw [cond_pos (by omega)]
      obtain ⟨x, hxq⟩ : ∃ x, a[q]? = some x := ⟨_, List.getElem?_eq_getElem hqlt⟩
      refine oGetLLx hcs s5.ext ha fun t50 ht50 => ?_
      refine oGetL (ht50.ext s5.ext) hxq ?_
      have hnew : x ∉ m'.map (·.1) := by
        rw [hm1']
        have h1 := cf.nodup
        rw [flat_split ha hxq, List.nodup_append] at h1
        exact fun h2 => h1.2.2 x h2 x (by simp) rfl
      obtain ⟨st, c, s6⟩ := St.mapO s5
      refine oLook_val (m := m') (by rintro _ rfl; exact ⟨st, c, s6.mapRd⟩) ?_
      have hno : Sh.look m' x = none := by rw [look_get]; exact get_none hnew
      rw [hno]
      simp only [if_true]
      rw [oExt_two0, oExt_two1]
      show cond (.bool false) _ _
      rw [cond_f]
      refine oGetLLx hcs s5.ext ha fun t62 ht62 => ?_
      refine oGetL (ht62.ext s5.ext) hxq ?_
      refine oUpd_own s6 fun h6 st' c' _ s7 => ?_
      have s8 := St.toMapO s7
      rw [ups_put, put_new hnew] at s8
      rw [oBin_add, wrap_succ q _ hqlt (by omega)]
      refine hnx2 _ hqlt ⟨m' ++ [(x, encI p)], ?_, fun y v hy => ?_, s8⟩
      · rw [List.map_append, hm1', List.take_add_one, hxq]
        simp [List.append_assoc]
      · by_cases hyx : y = x
        · subst hyx
          have h1 : Sh.look (m' ++ [(y, encI p)]) y = some (encI p) := by rw [look_get]; exact get_mid (b := []) hnew
          rw [h1] at hy
          simp only [Option.some.injEq] at hy
          exact ⟨p, a, ha, List.mem_of_getElem? hxq, hy.symm⟩
        · refine hm2' y v ?_
          rw [look_get, ← put_new hnew, get_put, if_neg (fun h => hyx h.symm)] at hy
          rw [look_get]; exact hy
    · rw [cond_neg (by omega), oBin_add, wrap_succ p _ hplt (by omega)]
      have hqe : q = a.length := by omega
      subst hqe
      rw [List.take_length] at hm1'
      refine hnx _ hplt ⟨m', ?_, hm2', s5⟩
      rw [hm1', List.take_add_one, ha]
      simp
  · rw [cond_neg (by omega)]
    have hpe : p = cs.length := by omega
    subst hpe
    rw [List.take_length] at hm1
    clear hnx hplt hp
    refine oRem (c := 9) (by omega) hn ?_
    rw [oBin_add, wrap_int _ (by omega) (by omega), show ((n % 9 : Nat) : Int) + 1 = (k : Int) from by omega]
    have hml : m.length = k := by
      have := congrArg List.length hm1
      rw [List.length_map] at this
      rw [this, hfl]
    obtain ⟨st, c, s6⟩ := St.mapO s4
    have rM := s6.mapRd
    have e24 := s4.ext
    refine oLenM_rd (m := m) (by rintro _ rfl; exact ⟨st, c, rM⟩) ?_
    rw [hml, oBin_neq, cond_neg (by simp)]
    have hpos : ∀ i, i < k → ∃ (q : Nat) (a : List Str), cs[q]? = some a ∧ nmS i ∈ a ∧ Sh.look m (nmS i) = some (encI q) := fun i hi => by
      have h1 : nmS i ∈ m.map (·.1) := by rw [hm1, cf.mem]; exact he.key hi
      obtain ⟨v, hv⟩ := Option.isSome_iff_exists.1 ((look_isSome (nmS i) m).2 h1)
      obtain ⟨q, a, h2, h3, rfl⟩ := hm2 _ v hv
      exact ⟨q, a, h2, h3, hv⟩
    refine loop1_count 0 k (fun i h' => Ext h4 h') (Nat.zero_le _) (Ext.refl _) ?_
    intro i h7 nx hi e7 hnx
    rw [oBin_lss]
    by_cases hilt : i < k
    · rw [cond_pos (by omega)]
      refine oChr (by omega) ?_
      refine oName (by omega) (St.nil h7) fun h8 e8 _ => ?_
      refine loop1_count 0 k (fun j h' => Ext h4 h') (Nat.zero_le _) (e7.trans e8) ?_
      intro j h9 nx2 hj e9 hnx2
      rw [oBin_lss]
      by_cases hjlt : j < k
      · rw [cond_pos (by omega)]
        refine oChr (by omega) ?_
        refine oName (by omega) (St.nil h9) fun h10 e10 _ => ?_
        have r10 : RdE h10 t26 e := RdE.ext rE ((e24.trans e9).trans e10)
        refine oCall_func (.mono (needs_ok (nm := nmS i) r10 sm) ?_)
        rintro t97 h11 ⟨e11, l1, hl1, hl2⟩
        have hb1 := rchOf_len hl2
        refine oCall_func (.mono (has_ok (s := nmS j) hl1 (by omega)) ?_)
        rintro u12 h12 ⟨rfl, rfl⟩
        have r12 : RdE h12 t26 e := RdE.ext r10 e11
        refine oCall_func (.mono (needs_ok (nm := nmS j) r12 sm) ?_)
        rintro t102 h13 ⟨e13, l2, hl3, hl4⟩
        have hb2 := rchOf_len hl4
        refine oCall_func (.mono (has_ok (s := nmS i) hl3 (by omega)) ?_)
        rintro u14 h14 ⟨rfl, rfl⟩
        have eall : Ext h4 h14 := ((e9.trans e10).trans e11).trans e13
        obtain ⟨qa, aa, ha1, ha2, ha3⟩ := hpos i hilt
        obtain ⟨qb, ab, hb3, hb4, hb5⟩ := hpos j hjlt
        have hqa : qa < cs.length := (List.getElem?_eq_some_iff.1 ha1).1
        have hqb : qb < cs.length := (List.getElem?_eq_some_iff.1 hb3).1
        have hsame := cf.same qa qb aa ab _ _ ha1 hb3 ha2 hb4
        have hord := cf.ord qa qb aa ab _ _ ha1 hb3 ha2 hb4
        have hth : nmS j ∈ l1 ↔ RP (Dir e) (nmS i) (nmS j) := by rw [hl2.2.2, needs_dir (he.key hilt)]
        have hbk : nmS i ∈ l2 ↔ RP (Dir e) (nmS j) (nmS i) := by rw [hl4.2.2, needs_dir (he.key hjlt)]
        rw [← hth, ← hbk] at hsame
        rw [← hth] at hord
        have hnm : nmS i = nmS j ↔ i = j := ⟨fun h => nmS_inj (by omega) (by omega) h, fun h => by rw [h]⟩
        rw [hnm] at hsame
        have lkA : ∀ {K : Value → Prop}, K (encI qa) → oLook Try.prog 28 t29 (str (nmS i)) false (Eq h14) K := fun hk => by
          refine oLook_val (m := m) (by rintro _ rfl; exact ⟨st, c, rM.ext eall⟩) ?_
          rw [ha3]; exact hk
        have lkB : ∀ {K : Value → Prop}, K (encI qb) → oLook Try.prog 28 t29 (str (nmS j)) false (Eq h14) K := fun hk => by
          refine oLook_val (m := m) (by rintro _ rfl; exact ⟨st, c, rM.ext eall⟩) ?_
          rw [hb5]; exact hk
        refine join_intro fun k1 hk1 => ?_
        have tail : ∀ x, (nmS j ∈ l1 → x = .bool false) → k1 x := fun x hxx => by
          rw [hk1]
          dsimp only
          rw [oPick_bool]
          have hx0 : (if decide (nmS j ∈ l1) = true then x else Value.bool false) = .bool false := by
            split
            · rename_i hd
              exact hxx (by simpa using hd)
            · rfl
          rw [hx0]
          refine join_intro fun k2 hk2 => ?_
          have tail2 : k2 (.bool false) := by
            rw [hk2]
            dsimp only
            rw [oPick_bool, if_neg (by simp), cond_f, oBin_add, wrap_succ j _ hjlt (by omega)]
            exact hnx2 _ hjlt eall
          clear hk2
          rw [cond_f]
          refine lkA ?_
          refine lkB ?_
          unfold encI
          rw [oBin_eql, oBin_eql]
          refine join_intro fun k3 hk3 => ?_
          have tail3 : ∀ x, (i ≠ j → x = .bool (decide (nmS j ∈ l1 ∧ nmS i ∈ l2))) → k3 x := fun x hx3 => by
            rw [hk3]
            dsimp only
            rw [oPick_bool]
            have h1 : (if decide ((i : Int) = (j : Int)) = true then Value.bool true else x) = .bool (decide (qa = qb)) := by
              by_cases hij : i = j
              · rw [if_pos (by simp [hij]), decide_eq_true (hsame.2 (.inl hij))]
              · rw [if_neg (by simp; omega), hx3 hij]
                congr 1
                rw [decide_eq_decide, hsame]
                simp [hij]
            have h2 : decide ((qa : Int) = (qb : Int)) = decide (qa = qb) := by rw [decide_eq_decide]; omega
            rw [h1, h2, oBin_bool_neq]
            simp only [bne_self_eq_false]
            exact tail2
          clear hk3
          by_cases hij : (i : Int) = (j : Int)
          · rw [cond_pos hij]
            exact tail3 _ fun h => absurd (by omega) h
          · rw [cond_neg hij]
            refine join_intro fun k4 hk4 => ?_
            have tail4 : ∀ x, (nmS j ∈ l1 → x = .bool (decide (nmS i ∈ l2))) → k4 x := fun x hx4 => by
              rw [hk4]
              dsimp only
              rw [oPick_bool]
              refine tail3 _ fun _ => ?_
              by_cases hd : nmS j ∈ l1
              · rw [if_pos (by simpa using hd), hx4 hd]
                congr 1
                rw [decide_eq_decide]
                simp [hd]
              · rw [if_neg (by simpa using hd)]
                simp [hd]
            clear hk4
            by_cases hd : nmS j ∈ l1
            · rw [cond_pos hd]
              exact tail4 _ fun _ => rfl
            · rw [cond_neg hd]
              exact tail4 _ fun h => absurd h hd
        clear hk1
        by_cases hd : nmS j ∈ l1
        · rw [cond_pos hd]
          refine lkB ?_
          refine lkA ?_
          unfold encI
          rw [oBin_gtr]
          refine tail _ fun _ => ?_
          have := hord hd
          rw [decide_eq_false (by omega)]
        · rw [cond_neg hd]
          exact tail _ fun h => absurd h hd
      · rw [cond_neg (by omega), oBin_add, wrap_succ i _ hilt (by omega)]
        exact hnx _ hilt e9
    · rw [cond_neg (by omega)]
      exact ⟨rfl, (e02.trans e24).trans e7⟩
end Go.Proofs.Ytfhbpghgcgmegaa
