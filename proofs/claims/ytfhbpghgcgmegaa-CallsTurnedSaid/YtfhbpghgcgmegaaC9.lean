/- Contract: the nodes in the order in which a search in depth leaves them. -/
import Derived.Test.YtfhbpghgcgmegaaC7
import Derived.Test.YtfhbpghgcgmegaaIfc
import Derived.Test.YtfhbpghgcgmegaaPf
set_option linter.unusedVariables false
namespace Go.Proofs.Ytfhbpghgcgmegaa
open Go Go.Sh Go.Proofs

/-- A visit's two cells. -/
def encV (p : Nat × Nat) : List Value := [encI p.1, encI p.2]
theorem flat_len (l : List (Nat × Nat)) : (l.flatMap encV).length = l.length * 2 := by
  induction l with
  | nil => rfl
  | cons x l ih => rw [List.flatMap_cons, List.length_append, ih]; simp [encV]; omega
theorem flat_snoc (st : List (Nat × Nat)) (v e : Nat) : (st ++ [(v, e)]).flatMap encV = st.flatMap encV ++ [encI v, encI e] := by
  rw [List.flatMap_append]; rfl
abbrev encB (b : Bool) : Value := .bool b
theorem one_row {h0 h : Heap} {k n : Nat} {v : Value} {cs : List Value} {L : List HP} (s : St h0 h (Row k v n cs :: L)) : Sh.one v = true := by
  obtain ⟨⟨a, c, rfl⟩, _⟩ := s.row
  rfl

theorem finished_ok {h : Heap} {v : Value} {next : List (List Nat)} (r : RdLL encI h v next) (hn : next.length ≤ big) (hin : Below next next.length) (hl : ∀ l ∈ next, l.length ≤ big) :
    HC Try.prog 23 #[v] h fun u h' => ∃ l, Fin' next l ∧ St h h' [Row 1 u l.length (l.map encI)] := by
  unfold big at hn hl
  refine sh_calls_finished ?_
  unfold g_calls_finished
  simp only [oLen_sl r.1, join]
  refine oMkSliceR1 (l := next.length) (c := next.length) (St.nil h) rfl (Nat.le_refl _) (by omega) (by omega) fun t11 h1 s1 => ?_
  refine ⟨fun m a b h' => ∃ (i : Nat) (l : List Nat) (seen : List Bool), m = next.length - i ∧ i ≤ next.length ∧ b = .int .i64 i ∧ Dfs next seen l [] ∧ (∀ j, j < i → seen[j]? = some true) ∧
      St h h' [Row 1 t11 next.length (seen.map encB), Row 1 a l.length (l.map encI)],
    next.length, ⟨0, [], List.replicate next.length false, by omega, by omega, rfl, .start next, by omega, ?_⟩, ?_⟩
  · have s2 : St h h1 [Row 1 (.slice none 0 0) 0 [], Row 1 t11 next.length (List.replicate next.length (.bool false))] :=
      ⟨s1.1, fun _ => False, ⟨by simp, .inl ⟨rfl, rfl⟩⟩, fun _ h => h.elim, Sep.mono (fun b hb => ⟨hb, fun h => h⟩) s1.2⟩
    simpa using s2.swap
  rintro m a b h2 ⟨i, l, seen, rfl, hi, rfl, d, hseen, s2⟩
  dsimp only
  rw [oBin_lss]
  by_cases hlt : i < next.length
  · rw [cond_pos (by omega)]
    have hlen : seen.length = next.length := d.len
    obtain ⟨b, hb⟩ : ∃ b, seen[i]? = some b := ⟨_, List.getElem?_eq_getElem (by omega)⟩
    have hrd : RdL encB h2 t11 seen := s2.rdL
    refine oGetL hrd hb ?_
    unfold encB
    cases b with
    | true =>
      rw [cond_t, oBin_add, wrap_succ i _ hlt (by omega)]
      refine ⟨next.length - (i + 1), by omega, i + 1, l, seen, rfl, by omega, rfl, d, fun j hj => ?_, s2⟩
      by_cases e : j = i
      · rw [e]; exact hb
      · exact hseen j (by omega)
    | false =>
      rw [cond_f, oIdx_sl hrd.1 (hrd.2.nz (by simp; omega)) (by omega) (by omega)]
      refine oStoreR1 s2 rfl (by simp; omega) fun h3 s3 => ?_
      refine oBuild_own (cells := #[.int .i64 i, .int .i64 0]) rfl ?_
      refine oBuild1 s3 (by rfl) (by rfl) (by omega) (by omega) fun t26 h4 s4 => ?_
      have e1 : ((i : Int).toNat * 1) = i := by omega
      rw [e1] at s4
      refine ⟨fun m a b h' => ∃ (l : List Nat) (seen : List Bool) (path : List (Nat × Nat)), m = dfsM next 1000000000000 seen path ∧ Dfs next seen l path ∧ (∀ j, j < i + 1 → seen[j]? = some true) ∧
          St h h' [Row 2 b path.length (path.flatMap encV), Row 1 t11 next.length (seen.map encB), Row 1 a l.length (l.map encI)],
        _, ⟨l, seen.set i true, [(i, 0)], rfl, d.root hb, fun j hj => ?_, ?_⟩, ?_⟩
      · rw [seen_set (by omega)]
        by_cases e : j = i
        · exact .inl e
        · exact .inr (hseen j (by omega))
      · rw [List.map_set]
        exact s4
      clear s4 s3 s2 hrd d hb hseen hlen l seen
      rintro m a b h5 ⟨l, seen, path, rfl, d, hseen, s5⟩
      dsimp only
      have hlen : seen.length = next.length := d.len
      obtain ⟨hx6, hx6l, hx6r⟩ := s5.row
      rw [oLen_sl hx6, oBin_gtr]
      rcases List.eq_nil_or_concat path with rfl | ⟨st, ⟨w, e⟩, rfl⟩
      · rw [cond_neg (by simp), oBin_add, wrap_succ i _ hlt (by omega)]
        exact ⟨next.length - (i + 1), by omega, i + 1, l, seen, rfl, by omega, rfl, d, hseen, s5.drop⟩
      · rw [List.concat_eq_append] at *
        rw [cond_pos (by simp), oLen_sl hx6]
        have hnd := d.nodup
        have hwn : ∀ u, u ∈ l ++ (st ++ [(w, e)]).map (·.1) → u < next.length := d.lt
        have htot : (l ++ (st ++ [(w, e)]).map (·.1)).length ≤ next.length := by
          have := List.Nodup.length_le_of_subset (l₂ := List.range next.length) hnd fun u hu => List.mem_range.2 (hwn u hu)
          simpa using this
        simp only [List.length_append, List.length_map, List.length_cons, List.length_nil] at htot
        rw [oBin_sub, wrap_int _ (by omega) (by simp; omega)]
        have e2 : (((st ++ [(w, e)]).length : Int) - 1) = (st.length : Int) := by simp
        rw [e2]
        have hptr : ∃ ad, sbase b = .pointer (some ad) := hx6r.ptr (by rw [flat_len]; simp)
        have hnz : sbase b ≠ .pointer none := by obtain ⟨ad, had⟩ := hptr; rw [had]; simp
        rw [oIdx_sl hx6 hnz (by omega) (by simp; omega)]
        have e3 : ((st.length : Int).toNat * 2) = st.length * 2 := by omega
        rw [e3]
        simp only [oNil_padd hptr]
        have hc0 : ((st ++ [(w, e)]).flatMap encV)[st.length * 2 + 0]? = some (encI w) := by
          rw [flat_snoc, List.getElem?_append_right (by rw [flat_len]; omega), flat_len]
          simp
        have hc1 : ((st ++ [(w, e)]).flatMap encV)[st.length * 2 + 1]? = some (encI e) := by
          rw [flat_snoc, List.getElem?_append_right (by rw [flat_len]; omega), flat_len]
          simp
        have rd1 : ∀ {K : Value → Prop}, K (encI e) → oFieldAddr Try.prog 67 (padd (sbase b) (st.length * 2)) 1 (Eq h5) fun t => oLoad Try.prog 3 t (Eq h5) K :=
          fun hk => oFieldAddr_own hptr (oLoad1 (fun _ ee => ee ▸ hx6r) hc1 hk)
        have rd0 : ∀ {K : Value → Prop}, K (encI w) → oFieldAddr Try.prog 67 (padd (sbase b) (st.length * 2)) 0 (Eq h5) fun t => oLoad Try.prog 3 t (Eq h5) K :=
          fun hk => oFieldAddr_own hptr (oLoad1 (fun _ ee => ee ▸ hx6r) hc0 hk)
        have hwlt : w < next.length := hwn w (by simp)
        obtain ⟨lw, hlw⟩ : ∃ lw, next[w]? = some lw := ⟨_, List.getElem?_eq_getElem hwlt⟩
        have hlwb := hl lw (List.mem_of_getElem? hlw)
        obtain ⟨lw', hp1, hp2, _⟩ := d.part (w, e) (by simp)
        simp only at hp1
        rw [hlw] at hp1
        simp only [Option.some.injEq] at hp1
        subst hp1
        simp only at hp2
        refine rd1 ?_
        refine rd0 ?_
        refine oGetLLx r s5.ext hlw fun t45 ht45 => ?_
        rw [oLen_sl ht45.1]
        unfold encI
        rw [oBin_eql]
        by_cases hee : e = lw.length
        · rw [cond_pos (by omega)]
          refine rd0 ?_
          refine oPush (enc := encI) (x := w) s5.pick2 rfl rfl (by omega) (by omega) fun t54 h7 s7 => ?_
          have s8 := s7.pick1
          rw [oLen_sl hx6, oBin_sub, wrap_int _ (by omega) (by simp; omega), e2]
          refine oSliceR s8 (by simp) fun t59 s9 => ?_
          have e4 : ((st ++ [(w, e)]).flatMap encV).take (st.length * 2) = st.flatMap encV := by
            rw [flat_snoc, List.take_left' (flat_len st)]
          rw [e4] at s9
          exact ⟨_, dfsM_leave, l ++ [w], seen, st, rfl, d.leave hlw hee, hseen, s9.pick2.pick1⟩
        · rw [cond_neg (by omega)]
          refine rd0 ?_
          refine oGetLLx r s5.ext hlw fun t66 ht66 => ?_
          refine rd1 ?_
          obtain ⟨j, hj⟩ : ∃ j, lw[e]? = some j := ⟨_, List.getElem?_eq_getElem (by omega)⟩
          refine oGetL (ht66.ext s5.ext) hj ?_
          refine rd1 ?_
          unfold encI
          rw [oBin_add, wrap_int _ (by omega) (by omega)]
          refine oFieldAddr_own hptr ?_
          refine oStoreR (k := 1) s5 rfl (by rw [flat_len]; simp; omega) (by omega) (by intro y hy; simp [Value.cells] at hy; subst hy; rfl) fun h8 s8 => ?_
          have e5 : setAt ((st ++ [(w, e)]).flatMap encV) (st.length * 2 + 1) (Value.int .i64 ((e : Int) + 1)).cells.toList = (st ++ [(w, e + 1)]).flatMap encV := by
            rw [flat_snoc, flat_snoc]
            show (st.flatMap encV ++ [encI w, encI e]).set (st.length * 2 + 1) (encI (e + 1)) = _
            rw [List.set_append_right _ _ (by rw [flat_len]; omega), flat_len]
            simp
          rw [e5] at s8
          have s8' : St h h8 [Row 2 b (st ++ [(w, e + 1)]).length ((st ++ [(w, e + 1)]).flatMap encV), Row 1 t11 next.length (seen.map encB), Row 1 a l.length (l.map encI)] := by
            simpa using s8
          have hjn : j < next.length := hin lw (List.mem_of_getElem? hlw) j (List.mem_of_getElem? hj)
          obtain ⟨bj, hbj⟩ : ∃ bj, seen[j]? = some bj := ⟨_, List.getElem?_eq_getElem (by omega)⟩
          have hrd : RdL encB h8 t11 seen := s8'.swap.rdL
          refine oGetL hrd hbj ?_
          unfold encB
          rw [oUn_not]
          cases bj with
          | true =>
            show cond (.bool false) _ _
            rw [cond_f]
            exact ⟨_, dfsM_skip hlw hj, l, seen, _, rfl, d.skip hlw hj hbj, hseen, s8'⟩
          | false =>
            show cond (.bool true) _ _
            rw [cond_t, oIdx_sl hrd.1 (hrd.2.nz (by simp; omega)) (by omega) (by omega)]
            refine oStoreR1 s8'.swap rfl (by simp; omega) fun h9 s9 => ?_
            have e6 : ((j : Int).toNat * 1) = j := by omega
            rw [e6] at s9
            refine oBuild_own (cells := #[.int .i64 j, .int .i64 0]) rfl ?_
            refine oBuild1 s9 (by rfl) (by rfl) (by omega) (by omega) fun t91 h10 s10 => ?_
            obtain ⟨hu, _, hur⟩ := s10.row
            refine oAppendR (cs := (st ++ [(w, e + 1)]).flatMap encV) (xs := [encI j, encI 0]) (m := 1) s10.pick2 rfl (by omega) hu rfl hur (by intro y hy; simp at hy; rcases hy with rfl | rfl <;> rfl) (by simp; omega) (by simp; omega) fun t92 h11 s11 => ?_
            have e7 : (st ++ [(w, e + 1)]).flatMap encV ++ [encI j, encI 0] = (st ++ [(w, e + 1)] ++ [(j, 0)]).flatMap encV := by rw [flat_snoc _ j 0]
            rw [e7] at s11
            refine ⟨_, dfsM_push (hl) hlw hj hbj, l, seen.set j true, _, rfl, d.push hlw hj hbj, fun k hk => ?_, ?_⟩
            · rw [seen_set (by omega)]
              exact .inr (hseen k hk)
            · have e8 : (st ++ [(w, e + 1)] ++ [((j : Nat), (0 : Nat))]).length = (st ++ [(w, e + 1)]).length + 1 := by simp
              rw [List.map_set, e8]
              exact s11.swap.drop
  · rw [cond_neg (by omega)]
    exact ⟨l, d.fin fun v hv => hseen v (by omega), s2.drop⟩
end Go.Proofs.Ytfhbpghgcgmegaa
