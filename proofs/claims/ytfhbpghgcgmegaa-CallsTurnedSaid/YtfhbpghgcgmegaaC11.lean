/- Contract: the components' order. -/
import Derived.Test.YtfhbpghgcgmegaaC8
import Derived.Test.YtfhbpghgcgmegaaC10
import Derived.Test.YtfhbpghgcgmegaaPa
set_option linter.unusedVariables false
namespace Go.Proofs.Ytfhbpghgcgmegaa
open Go Go.Sh Go.Proofs

instance : Inhabited HP := ⟨HP.all []⟩
/-- The parts in another order. -/
theorem _root_.Go.Sh.St.sel {h0 h : Heap} {L : List HP} (s : St h0 h L) (n : Nat) (is : List Nat) (hl : L.length = n) (hp : is.Perm (List.range n)) : St h0 h (is.map fun i => L[i]!) := by
  subst hl
  refine s.perm ?_
  have h1 : ((List.range L.length).map fun i => L[i]!) = L := by
    apply List.ext_getElem
    · simp
    · intro i h1 h2
      simp [h2]
  have h2 := hp.map fun i => L[i]!
  rw [h1] at h2
  exact h2.symm
/-- A row of rows of which one row is looked at for a while. -/
theorem rrRead {α : Type} {enc : α → Value} {h0 h : Heap} {v : Value} {ll : List (List α)} {L : List HP} {j : Nat} {l : List α} (s : St h0 h (RR enc v ll :: L)) (hj : ll[j]? = some l) :
    ∃ (F : HP) (x : Value) (vs : List Value), IsSl v ll.length ∧ vs[j]? = some x ∧ Rd h (sbase v) vs ∧ St h0 h (F :: L) ∧ ∀ h0 h' L', St h0 h' (F :: L') → RdL enc h' x l ∧ St h0 h' (RR enc v ll :: L') := by
  obtain ⟨vs, hl, s1⟩ := s.rrOpenAll
  have hlt : j < ll.length := (List.getElem?_eq_some_iff.1 hj).1
  obtain ⟨x, hx⟩ : ∃ x, vs[j]? = some x := ⟨_, List.getElem?_eq_getElem (by omega)⟩
  refine ⟨HP.all (Row 1 v ll.length vs :: rows enc vs ll), x, vs, s1.row.1, hx, s1.row.2.2, s1.shut, fun h0 h' L' s' => ?_⟩
  have s2 := s'.open
  exact ⟨St.rdRows s2.drop j x l hx hj, St.rrShutAll hl s2⟩

/-- Pairs of components. -/
def cprs (of : List Nat) (ps : List (Nat × Nat)) : List (Nat × Nat) := (ps.filter fun p => atN of p.1 != atN of p.2).map fun p => (atN of p.1, atN of p.2)
theorem cprs_append (of : List Nat) (a b : List (Nat × Nat)) : cprs of (a ++ b) = cprs of a ++ cprs of b := by simp [cprs]
theorem mem_cprs {of : List Nat} {ps : List (Nat × Nat)} {a b : Nat} : (a, b) ∈ cprs of ps ↔ ∃ i j, (i, j) ∈ ps ∧ atN of i = a ∧ atN of j = b ∧ a ≠ b := by
  unfold cprs
  simp only [List.mem_map, List.mem_filter, bne_iff_ne, Prod.mk.injEq]
  constructor
  · rintro ⟨⟨i, j⟩, ⟨h1, h2⟩, rfl, rfl⟩; exact ⟨i, j, h1, rfl, rfl, h2⟩
  · rintro ⟨i, j, h1, rfl, rfl, h2⟩; exact ⟨(i, j), ⟨h1, h2⟩, rfl, rfl⟩
theorem cprs_len (of : List Nat) (ps : List (Nat × Nat)) : (cprs of ps).length ≤ ps.length := by
  unfold cprs
  rw [List.length_map]
  exact List.length_filter_le _ _
/-- How many each component waits on. -/
def wts (m : Nat) (E : List (Nat × Nat)) : List Nat := (List.range m).map fun c => pend E [] c
theorem wts_len (m : Nat) (E : List (Nat × Nat)) : (wts m E).length = m := by simp [wts]
theorem wts_get {m c : Nat} (E : List (Nat × Nat)) (hc : c < m) : (wts m E)[c]? = some (pend E [] c) := by simp [wts, hc]
theorem pend_snoc (E : List (Nat × Nat)) (a b c : Nat) : pend (E ++ [(a, b)]) [] c = pend E [] c + if a = c then 1 else 0 := by
  unfold pend
  by_cases h : a = c <;> simp [h]
theorem pend_le (E : List (Nat × Nat)) (D : List Nat) (c : Nat) : pend E D c ≤ E.length := List.length_filter_le _ _
theorem wts_snoc {m a : Nat} (E : List (Nat × Nat)) (b : Nat) (ha : a < m) : (wts m E).set a (pend E [] a + 1) = wts m (E ++ [(a, b)]) := by
  apply List.ext_getElem?
  intro c
  by_cases hc : c < m
  · rw [wts_get _ hc, pend_snoc]
    by_cases e : a = c
    · subst e
      rw [List.getElem?_set_self (by rw [wts_len]; exact hc), if_pos rfl]
    · rw [List.getElem?_set_ne e, wts_get _ hc, if_neg e]
      rfl
  · rw [List.getElem?_eq_none (by rw [List.length_set, wts_len]; omega), List.getElem?_eq_none (by rw [wts_len]; omega)]
theorem ofOk_m {E : Nat → Nat → Prop} {n m : Nat} {of : List Nat} (o : OfOk E n m of) : m ≤ n := by
  have := List.Nodup.length_le_of_subset (l₂ := of) (List.nodup_range (n := m)) fun c hc => o.all c (List.mem_range.1 hc)
  rw [o.len] at this
  simpa using this
theorem atN_of {E : Nat → Nat → Prop} {n m : Nat} {of : List Nat} (o : OfOk E n m of) {i : Nat} (hi : i < n) : of[i]? = some (atN of i) ∧ atN of i < m := by
  have h1 := atN_some (l := of) (k := i) (by rw [o.len]; exact hi)
  exact ⟨h1, o.lt _ (List.mem_of_getElem? h1)⟩

theorem arrange_ok {h : Heap} {v0 v1 : Value} {next : List (List Nat)} {of : List Nat} {m : Nat} (r : RdLL encI h v0 next) (ro : RdL encI h v1 of) (o : OfOk (Edg next) next.length m of) (hn : next.length ≤ big)
    (hin : Below next next.length) (hl : ∀ l ∈ next, l.length ≤ big) (hb : (prF next 0).length ≤ big) :
    HC Try.prog 18 #[v0, v1, .int .i64 m] h fun u h' => ∃ l, ArrOk (CEdg (Edg next) of) m l ∧ St h h' [Row 1 u l.length (l.map encI)] := by
  have hm := ofOk_m o
  unfold big at hn hl hb
  refine sh_calls_arrange ?_
  unfold g_calls_arrange
  refine oMkSliceR1 (l := m) (c := m) (St.nil h) rfl (Nat.le_refl _) (by omega) (by omega) fun t21 h1 s1 => ?_
  refine oMkSliceRR (enc := encI) s1 (by omega) (by omega) fun t23 h2 s2 => ?_
  rw [oLen_sl r.1]
  refine loop1_count 0 next.length (fun i h' => St h h' [RR encI t23 (grp m (cprs of (prF (next.take i) 0))), Row 1 t21 m ((wts m (cprs of (prF (next.take i) 0))).map encI)]) (Nat.zero_le _) ?_ ?_
  · have e1 : wts m [] = List.replicate m 0 := by
      apply List.ext_getElem?
      intro c
      by_cases hc : c < m
      · rw [wts_get _ hc, List.getElem?_replicate_of_lt hc]; rfl
      · rw [List.getElem?_eq_none (by rw [wts_len]; omega), List.getElem?_eq_none (by simp; omega)]
    have e2 : prF (next.take 0) 0 = [] := by simp [prF]
    rw [e2]
    show St h h2 [RR encI t23 (grp m []), Row 1 t21 m ((wts m []).map encI)]
    rw [e1, grp_nil, List.map_replicate]
    exact s2
  intro i h3 nx hi s3 hnx
  rw [oBin_lss]
  by_cases hlt : i < next.length
  · rw [cond_pos (by omega)]
    obtain ⟨l, hll⟩ : ∃ l, next[i]? = some l := ⟨_, List.getElem?_eq_getElem hlt⟩
    refine oGetLLx r s3.ext hll fun t30 ht30 => ?_
    have hstep := prF_step hll
    have hle := prF_len next (i + 1)
    rw [hstep, List.length_append, List.length_map] at hle
    rw [oLen_sl ht30.1]
    obtain ⟨hi1, hi2⟩ := atN_of o hlt
    refine loop1_count 0 l.length (fun k h' => St h h' [RR encI t23 (grp m (cprs of (prF (next.take i) 0 ++ (l.take k).map fun j => (i, j)))), Row 1 t21 m ((wts m (cprs of (prF (next.take i) 0 ++ (l.take k).map fun j => (i, j)))).map encI)]) (Nat.zero_le _) (by simpa using s3) ?_
    intro k h4 nx2 hk s4 hnx2
    rw [oBin_lss]
    by_cases hklt : k < l.length
    · rw [cond_pos (by omega)]
      obtain ⟨j, hj⟩ : ∃ j, l[k]? = some j := ⟨_, List.getElem?_eq_getElem hklt⟩
      have hjn : j < next.length := hin l (List.mem_of_getElem? hll) j (List.mem_of_getElem? hj)
      obtain ⟨hj1, hj2⟩ := atN_of o hjn
      have hps : prF (next.take i) 0 ++ (l.take (k + 1)).map (fun j => (i, j)) = prF (next.take i) 0 ++ (l.take k).map (fun j => (i, j)) ++ [(i, j)] := by
        rw [List.take_add_one, hj]
        simp [List.append_assoc]
      refine join_intro fun k' hk' => ?_
      have tail : ∀ h', St h h' [RR encI t23 (grp m (cprs of (prF (next.take i) 0 ++ (l.take (k + 1)).map fun j => (i, j)))), Row 1 t21 m ((wts m (cprs of (prF (next.take i) 0 ++ (l.take (k + 1)).map fun j => (i, j)))).map encI)] → k' h' := fun h' s' => by
        rw [hk']
        dsimp only
        rw [oBin_add, wrap_succ k _ hklt (by omega)]
        exact hnx2 _ hklt s'
      clear hk'
      rw [hps, cprs_append] at tail
      have hEl := cprs_len of (prF (next.take i) 0 ++ (l.take k).map fun j => (i, j))
      simp only [List.length_append, List.length_map, List.length_take] at hEl
      revert tail s4 hEl
      generalize hE : cprs of (prF (next.take i) 0 ++ (l.take k).map fun j => (i, j)) = E
      intro s4 tail hEl
      refine oGetL (ht30.ext s4.ext) hj ?_
      refine oGetL (ro.ext s4.ext) hi1 ?_
      refine oGetL (ro.ext s4.ext) hj1 ?_
      unfold encI
      rw [oBin_neq]
      by_cases hne : atN of i = atN of j
      · rw [cond_neg (by simp [hne])]
        refine tail h4 ?_
        have : cprs of [(i, j)] = [] := by simp [cprs, hne]
        rw [this, List.append_nil]
        exact s4
      · rw [cond_pos (by omega)]
        have e1 : cprs of [(i, j)] = [(atN of i, atN of j)] := by simp [cprs, hne]
        rw [e1] at tail
        have hpl := pend_le E [] (atN of i)
        refine oGetL (ro.ext s4.ext) hi1 ?_
        refine oGetL (s4.swap.rdL : RdL encI h4 t21 (wts m E)) (wts_get E hi2) ?_
        unfold encI
        rw [oBin_add, wrap_int _ (by omega) (by omega)]
        have w1 := s4.swap.row
        rw [oIdx_sl w1.1 (w1.2.2.nz (by simp [wts_len]; omega)) (by omega) (by omega)]
        refine oStoreR1 s4.swap rfl (by simp [wts_len]; omega) fun h5 s5 => ?_
        have e2 : ((atN of i : Int).toNat * 1) = atN of i := by omega
        have e3 : Value.int .i64 ((pend E [] (atN of i) : Int) + 1) = encI (pend E [] (atN of i) + 1) := rfl
        rw [e2, e3, ← List.map_set, wts_snoc E (atN of j) hi2] at s5
        have hg := grp_get (n := m) E hj2
        have hgl := grp_len_le hg
        obtain ⟨vs, x, M, hvl, hx, s6, close⟩ := s5.swap.rrOpen hg
        have hout := s6.swap.row
        rw [grp_length] at hout hvl
        refine ⟨fun h' => Ext h h' ∧ Rd h' (sbase t23) vs, ⟨s5.ext, hout.2.2⟩, ?_⟩
        have rdO : ∀ h', Ext h h' ∧ Rd h' (sbase t23) vs → Rd h' (sbase v1) (of.map encI) := fun h' hd => (ro.ext hd.1).2
        refine oGet ro.1 ⟨_, ro.2⟩ rdO hj1 ?_
        refine oGet ro.1 ⟨_, ro.2⟩ rdO hj1 ?_
        unfold encI
        rw [oIdx_sl hout.1 (hout.2.2.nz (by omega)) (by omega) (by omega)]
        refine oLoad1 (cs := vs) (x := x) (fun _ hd => hd.2) (by simpa using hx) ?_
        refine oGet ro.1 ⟨_, ro.2⟩ rdO hi1 ?_
        refine oBuild1o s6 rfl rfl fun u h6 s7 => ?_
        refine ⟨⟨s7.ext, s7.pick2.row.2.2⟩, ?_⟩
        obtain ⟨hu, _, hur⟩ := s7.row
        refine oAppendR (m := 1) (xs := [encI (atN of i)]) s7.swap rfl (by omega) hu rfl hur (by intro y hy; simp at hy; subst hy; rfl) (by simp only [List.length_map] at hgl ⊢; omega) (by simp only [List.length_map] at hgl ⊢; omega) fun r2 h7 s8 => ?_
        refine ⟨⟨s8.ext, s8.pick2.row.2.2⟩, ?_⟩
        have hr2 : Sh.one r2 = true := one_row s8
        rw [oIdx_sl hout.1 (hout.2.2.nz (by omega)) (by omega) (by omega)]
        refine oStoreR1 s8.pick2 hr2 (by omega) fun h8 s9 => ?_
        have e4 : ((atN of j : Int).toNat * 1) = atN of j := by omega
        rw [e4] at s9
        refine tail h8 ?_
        rw [← grp_snoc E (atN of i) hj2 hg]
        refine close h8 r2 _ ?_
        have s10 := s9.swap
        have s11 : St h h8 (Row 1 r2 ((E.filter fun p => p.2 == atN of j).map (·.1) ++ [atN of i]).length (((E.filter fun p => p.2 == atN of j).map (·.1) ++ [atN of i]).map encI) :: Row 1 t23 (grp m E).length (vs.set (atN of j) r2) :: M) := by
          have s12 := (s10.pick2.drop).perm (.refl _)
          simp only [List.length_append, List.map_append, List.length_map, List.length_cons, List.length_nil, List.map_cons, List.map_nil, grp_length] at s12 ⊢
          exact s12
        exact s11
    · rw [cond_neg (by omega), oBin_add, wrap_succ i _ hlt (by omega)]
      refine hnx _ hlt ?_
      have hkl : k = l.length := by omega
      subst hkl
      rw [hstep]
      rwa [List.take_length] at s4
  · rw [cond_neg (by omega)]
    have hie : i = next.length := by omega
    subst hie
    rw [List.take_length] at s3
    have hEl := cprs_len of (prF next 0)
    have hmem : ∀ a b, (a, b) ∈ cprs of (prF next 0) ↔ CEdg (Edg next) of a b := fun a b => by
      rw [mem_cprs]
      constructor
      · rintro ⟨i, j, h1, rfl, rfl, hne⟩
        rw [mem_prF] at h1
        obtain ⟨_, l, h2, h3⟩ := h1
        rw [Nat.sub_zero] at h2
        have hin1 : i < next.length := (List.getElem?_eq_some_iff.1 h2).1
        have hjn1 : j < next.length := hin l (List.mem_of_getElem? h2) j h3
        exact ⟨i, j, ⟨l, h2, h3⟩, (atN_of o hin1).1, (atN_of o hjn1).1, hne⟩
      · rintro ⟨i, j, ⟨l, h2, h3⟩, ha, hb', hne⟩
        refine ⟨i, j, mem_prF.2 ⟨Nat.zero_le _, l, by rw [Nat.sub_zero]; exact h2, h3⟩, ?_, ?_, hne⟩
        · simp [atN, List.getD_eq_getElem?_getD, ha]
        · simp [atN, List.getD_eq_getElem?_getD, hb']
    have hbnd : ∀ a b, (a, b) ∈ cprs of (prF next 0) → a < m ∧ b < m := fun a b hab => by
      obtain ⟨i, j, _, h1, h2, _⟩ := (hmem a b).1 hab
      exact ⟨o.lt a (List.mem_of_getElem? h1), o.lt b (List.mem_of_getElem? h2)⟩
    have hrk : ∀ x y, (x, y) ∈ cprs of (prF next 0) → crk (Edg next) next.length of y < crk (Edg next) next.length of x := fun x y hxy => crk_lt o ((hmem x y).1 hxy)
    revert s3 hEl hmem hbnd hrk
    generalize cprs of (prF next 0) = E
    intro s3 hEl hmem hbnd hrk
    clear hnx hlt hi nx
    refine oAllocC s3 fun t13 h4 hptr s4 => ?_
    have s4' : St h h4 [Que t13 [], RR encI t23 (grp m E), Row 1 t21 m ((wts m E).map encI)] := by
      refine Go.Sh.St.toQue (q := .slice none 0 0) ?_
      have s5 : St h h4 (Row 1 (.slice none 0 0) 0 [] :: [Cells t13 [.slice none 0 0], RR encI t23 (grp m E), Row 1 t21 m ((wts m E).map encI)]) :=
        ⟨s4.1, fun _ => False, ⟨by simp, .inl ⟨rfl, rfl⟩⟩, fun _ h => h.elim, Sep.mono (fun b hb => ⟨hb, fun h => h⟩) s4.2⟩
      exact s5.swap
    clear s4
    rw [oLen_sl s4'.pick2.row.1]
    refine loop1_count 0 m (fun i h' => St h h' [Que t13 ((List.range i).filter fun c => pend E [] c == 0), RR encI t23 (grp m E), Row 1 t21 m ((wts m E).map encI)]) (Nat.zero_le _) (by simpa using s4') ?_
    intro i h5 nx hi s5 hnx
    rw [oBin_lss]
    by_cases hlt : i < m
    · rw [cond_pos (by omega)]
      refine join_intro fun k' hk' => ?_
      have tail : ∀ h', St h h' [Que t13 ((List.range (i + 1)).filter fun c => pend E [] c == 0), RR encI t23 (grp m E), Row 1 t21 m ((wts m E).map encI)] → k' h' := fun h' s' => by
        rw [hk']
        dsimp only
        rw [oBin_add, wrap_succ i _ hlt (by omega)]
        exact hnx _ hlt s'
      clear hk'
      rw [List.range_succ, List.filter_append] at tail
      refine oGetL (s5.pick2.rdL : RdL encI h5 t21 (wts m E)) (wts_get E hlt) ?_
      unfold encI
      rw [oBin_eql]
      by_cases h0 : pend E [] i = 0
      · rw [cond_pos (by omega)]
        obtain ⟨q, s6⟩ := s5.que
        have hql : ((List.range i).filter fun c => pend E [] c == 0).length ≤ i := by
          have := List.length_filter_le (fun c => pend E [] c == 0) (List.range i)
          simpa using this
        refine oLoadP s6.rd ?_
        refine oPush (enc := encI) (x := i) s6.swap rfl rfl (by omega) (by omega) fun q' h7 s7 => ?_
        refine oStoreP s7.swap (one_row s7) fun h8 s8 => ?_
        refine tail h8 ?_
        have : [i].filter (fun c => pend E [] c == 0) = [i] := by simp [h0]
        rw [this]
        exact Go.Sh.St.toQue s8
      · rw [cond_neg (by omega)]
        refine tail h5 ?_
        have : [i].filter (fun c => pend E [] c == 0) = [] := by simp [h0]
        rw [this, List.append_nil]
        exact s5
    · rw [cond_neg (by omega)]
      have hie : i = m := by omega
      subst hie
      refine oIface_of (fun ms => by simp) ?_
      have hql : ((List.range i).filter fun c => pend E [] c == 0).length ≤ i := by
        have := List.length_filter_le (fun c => pend E [] c == 0) (List.range i)
        simpa using this
      refine oCall_func (.mono (init_ok s5 (by unfold big; omega)) ?_)
      rintro u1 h6 ⟨q, s6, hqp, hqh⟩
      have hq0 : ∀ u, u ∈ q ↔ u < i ∧ pend E [] u = 0 := fun u => by rw [hqp.mem_iff]; simp
      have ar : Ar E i (wts i E) q [] [] := Ar.start hbnd (wts_len i E) (fun u hu => wts_get E hu) hq0 (hqp.nodup_iff.2 (List.nodup_range.filter _))
      refine ⟨fun μ a h' => ∃ (w q l : List Nat), μ = i - l.length ∧ Ar E i w q l [] ∧ HpF q 0 q.length ∧ St h h' [Que t13 q, RR encI t23 (grp i E), Row 1 t21 i (w.map encI), Row 1 a l.length (l.map encI)],
        _, ⟨wts i E, q, [], rfl, ar, hqh, ?_⟩, ?_⟩
      · have s7 : St h h6 (Row 1 (.slice none 0 0) 0 [] :: [Que t13 q, RR encI t23 (grp i E), Row 1 t21 i ((wts i E).map encI)]) :=
          ⟨s6.1, fun _ => False, ⟨by simp, .inl ⟨rfl, rfl⟩⟩, fun _ h => h.elim, Sep.mono (fun b hb => ⟨hb, fun h => h⟩) s6.2⟩
        exact s7.sel 4 [1, 2, 3, 0] rfl (by decide)
      clear s6 s5 hqp hqh hq0 ar hnx hql hlt nx
      rintro μ a h7 ⟨w, q, l, rfl, ar, hqh, s7⟩
      dsimp only
      obtain ⟨qv, s8⟩ := s7.que
      have hqv : RdL encI h7 qv q := s8.drop.rdL
      have hlm := ar.rlen
      have hqm := ar.qlen
      refine oLoadP s8.rd ?_
      rw [oLen_sl hqv.1, oBin_gtr]
      cases q with
      | nil =>
        rw [cond_neg (by simp)]
        exact ⟨l, (ar.fin hrk).congr hmem, (s7.pick3.split (L := [_]))⟩
      | cons c q =>
        rw [cond_pos (by simp)]
        refine oLoadP s8.rd ?_
        refine oGetL (i := 0) hqv rfl ?_
        refine oIface_of (fun ms => by simp) ?_
        refine oCall_func (.mono (hpop_ok s7 (by simp at hqm; unfold big; omega) hqh) ?_)
        rintro u2 h8 ⟨q', s9, hqp, hqh'⟩
        have hcm : ∀ d ∈ c :: q, c ≤ d := fun d hd => by
          obtain ⟨k, hk, rfl⟩ := List.getElem_of_mem hd
          have h1 := hqh.least k hk
          have e : atN (c :: q) k = (c :: q)[k] := by rw [atN, List.getD_eq_getElem?_getD, List.getElem?_eq_getElem hk]; rfl
          rw [e] at h1
          exact h1
        have ar' := ar.pop (q' := q') (List.Perm.cons c hqp.symm) hcm
        have hlm' := ar'.rlen
        simp only [List.length_append, List.length_cons, List.length_nil] at hlm'
        have hci : c < i := ar'.rlt c (by simp)
        refine oPush (enc := encI) (x := c) s9.pick3 rfl rfl (by omega) (by omega) fun t103 h9 s10 => ?_
        have hg := grp_get (n := i) E hci
        have hgl := grp_len_le hg
        obtain ⟨F, x, vs, f1, f2, f3, s11, close⟩ := rrRead s10.pick2 hg
        unfold encI
        rw [grp_length] at f1
        have hvl : c < vs.length := (List.getElem?_eq_some_iff.1 f2).1
        rw [oIdx_sl f1 (f3.nz (by omega)) (by omega) (by omega)]
        refine oLoad1 (cs := vs) (x := x) (fun _ e => e ▸ f3) (by simpa using f2) ?_
        have hxr := (close _ _ _ s11).1
        change RdL encI h9 x (usr E c) at hxr
        change ∀ h0 h' L', St h0 h' (F :: L') → RdL encI h' x (usr E c) ∧ _ at close
        rw [oLen_sl hxr.1]
        have hus : (usr E c).length ≤ 1000000000000 := by unfold usr; omega
        have s12 : St h h9 [F, Que t13 q', Row 1 t21 i (w.map encI), Row 1 t103 (l ++ [c]).length ((l ++ [c]).map encI)] := s11.sel 4 [0, 2, 3, 1] rfl (by decide)
        refine ⟨fun μ b h' => ∃ (k : Nat) (w q : List Nat), μ = (usr E c).length - k ∧ k ≤ (usr E c).length ∧ b = .int .i64 k ∧ Ar E i w q (l ++ [c]) ((usr E c).drop k) ∧ HpF q 0 q.length ∧
            St h h' [F, Que t13 q, Row 1 t21 i (w.map encI), Row 1 t103 (l ++ [c]).length ((l ++ [c]).map encI)],
          _, ⟨0, w, q', rfl, Nat.zero_le _, rfl, by simpa using ar', hqh', s12⟩, ?_⟩
        clear s12 s11 hxr f3 s10 s9 ar' hqp hqh' s8 hqv s7
        rintro μ b h10 ⟨k, w', q2, rfl, hk, rfl, ar2, hqh2, s13⟩
        dsimp only
        rw [oBin_lss]
        by_cases hklt : k < (usr E c).length
        · rw [cond_pos (by omega)]
          refine join_intro fun k' hk' => ?_
          have tail : ∀ (w' q' : List Nat) h', Ar E i w' q' (l ++ [c]) ((usr E c).drop (k + 1)) → HpF q' 0 q'.length →
              St h h' [F, Que t13 q', Row 1 t21 i (w'.map encI), Row 1 t103 (l ++ [c]).length ((l ++ [c]).map encI)] → k' h' := fun w' q' h' x1 x2 x3 => by
            rw [hk']
            dsimp only
            rw [oBin_add, wrap_succ k _ hklt (by omega)]
            exact ⟨(usr E c).length - (k + 1), by omega, k + 1, w', q', rfl, by omega, rfl, x1, x2, x3⟩
          clear hk'
          obtain ⟨u, hu⟩ : ∃ u, (usr E c)[k]? = some u := ⟨_, List.getElem?_eq_getElem hklt⟩
          have hdk : (usr E c).drop k = u :: (usr E c).drop (k + 1) := by
            have h1 := List.getElem?_eq_some_iff.1 hu
            rw [← h1.2, List.getElem_cons_drop]
          rw [hdk] at ar2
          obtain ⟨y, hy, hy1, hy2⟩ := ar2.tell (mem_usr.1 (List.mem_of_getElem? hu))
          have hwl : w'.length = i := ar2.len
          have hui : u < i := by have := (List.getElem?_eq_some_iff.1 hy).1; omega
          have hyE : y + 1 ≤ 2000000000000 := by
            have h1 := ar2.cnt u hui
            rw [hy] at h1
            simp only [Option.some.injEq] at h1
            have h2 := pend_le E (l ++ [c]) u
            have h3 : (u :: (usr E c).drop (k + 1)).count u ≤ (u :: (usr E c).drop (k + 1)).length := List.count_le_length
            rw [← hdk, List.length_drop] at h3
            rw [← hdk] at h1
            omega
          refine oGetL (close _ _ _ s13).1 hu ?_
          refine oGetL (s13.pick2.rdL : RdL encI h10 t21 w') hy ?_
          unfold encI
          rw [oBin_sub, wrap_int _ (by omega) (by omega)]
          have e1 : (((y + 1 : Nat) : Int) - 1) = (y : Int) := by omega
          rw [e1]
          have w1 := s13.pick2.row
          rw [oIdx_sl w1.1 (w1.2.2.nz (by simp; omega)) (by omega) (by omega)]
          refine oStoreR1 s13.pick2 rfl (by simp; omega) fun h11 s14 => ?_
          have e2 : ((u : Int).toNat * 1) = u := by omega
          have e3 : Value.int .i64 (y : Int) = encI y := rfl
          rw [e2, e3, ← List.map_set] at s14
          refine oGetL (i := u) (a := y) (s14.rdL : RdL encI h11 t21 (w'.set u y)) (by rw [List.getElem?_set_self (by omega)]) ?_
          unfold encI
          rw [oBin_eql]
          by_cases h0 : y = 0
          · rw [cond_pos (by omega)]
            refine oIface_of (fun ms => by simp) ?_
            refine oIface_of (fun ms => by simp) ?_
            have hq2 := ar2.qlen
            have hq3 : q2.length + 1 ≤ i := by
              have := (hy2 h0 (u :: q2) (.refl _)).qlen
              simpa using this
            refine oCall_func (.mono (hpush_ok s14.pick2 (by unfold big; omega) hqh2) ?_)
            rintro u3 h12 ⟨q4, s15, hp4, hh4⟩
            exact tail _ q4 h12 (hy2 h0 q4 hp4) hh4 s15.pick2
          · rw [cond_neg (by omega)]
            exact tail _ q2 h11 (hy1 h0) hqh2 s14.pick2.pick2
        · rw [cond_neg (by omega)]
          have hke : k = (usr E c).length := by omega
          subst hke
          rw [List.drop_length] at ar2
          refine ⟨i - (l ++ [c]).length, by simp; omega, w', q2, l ++ [c], rfl, ar2, hqh2, ?_⟩
          have := (close _ _ _ s13).2
          exact this.swap
end Go.Proofs.Ytfhbpghgcgmegaa
