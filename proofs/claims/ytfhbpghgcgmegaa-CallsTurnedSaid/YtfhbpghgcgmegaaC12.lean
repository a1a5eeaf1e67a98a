/- Contract: the components by names. -/
import Derived.Test.YtfhbpghgcgmegaaC11
set_option linter.unusedVariables false
namespace Go.Proofs.Ytfhbpghgcgmegaa
open Go Go.Sh Go.Proofs

theorem nums_len (e : List (Str × List Str)) (l : List Str) : (nums e l).length = l.length := by simp [nums]
theorem nums_get {e : List (Str × List Str)} {l : List Str} {i : Nat} {a : Str} (h : l[i]? = some a) : (nums e l)[i]? = some (row e l a) := by simp [nums, h]
theorem mem_row {e : List (Str × List Str)} {l : List Str} (hn : l.Nodup) {a : Str} {j : Nat} : j ∈ row e l a ↔ ∃ b, l[j]? = some b ∧ b ∈ (get e a).getD [] := by
  unfold row
  rw [List.mem_filterMap]
  constructor
  · rintro ⟨b, h1, h2⟩; exact ⟨b, (pos_iff hn).1 h2, h1⟩
  · rintro ⟨b, h1, h2⟩; exact ⟨b, h2, (pos_iff hn).2 h1⟩
theorem edg_nums {e : List (Str × List Str)} {l : List Str} (hn : l.Nodup) {i j : Nat} : Edg (nums e l) i j ↔ ∃ a b, l[i]? = some a ∧ l[j]? = some b ∧ b ∈ (get e a).getD [] := by
  constructor
  · rintro ⟨r, h1, h2⟩
    simp only [nums, List.getElem?_map, Option.map_eq_some_iff] at h1
    obtain ⟨a, h3, rfl⟩ := h1
    obtain ⟨b, h4, h5⟩ := (mem_row hn).1 h2
    exact ⟨a, b, h3, h4, h5⟩
  · rintro ⟨a, b, h1, h2, h3⟩
    exact ⟨_, nums_get h1, (mem_row hn).2 ⟨b, h2, h3⟩⟩
theorem below_nums {e : List (Str × List Str)} {l : List Str} (hn : l.Nodup) : Below (nums e l) (nums e l).length := by
  intro r hr j hj
  simp only [nums, List.mem_map] at hr
  obtain ⟨a, _, rfl⟩ := hr
  obtain ⟨b, h1, _⟩ := (mem_row hn).1 hj
  rw [nums_len]
  exact (List.getElem?_eq_some_iff.1 h1).1
theorem row_len {e : List (Str × List Str)} {l : List Str} {a : Str} {B : Nat} (hb : ∀ a x, get e a = some x → x.length ≤ B) : (row e l a).length ≤ B := by
  unfold row
  refine Nat.le_trans (List.length_filterMap_le _ _) ?_
  cases h : get e a with
  | none => simp
  | some x => simpa using hb a x h
theorem prF_bound {B : Nat} : ∀ {next : List (List Nat)} {k : Nat}, (∀ l ∈ next, l.length ≤ B) → (prF next k).length ≤ next.length * B
  | [], _, _ => by simp [prF]
  | l :: next, k, h => by
    have h1 := h l (by simp)
    have h2 := prF_bound (next := next) (k := k + 1) fun l hl => h l (by simp [hl])
    simp only [prF, List.length_append, List.length_map, List.length_cons, Nat.add_mul]
    omega
/-- Not too great. -/
structure Sm (e : List (Str × List Str)) : Prop where
  len : e.length ≤ 100000
  row : ∀ a x, get e a = some x → x.length ≤ 1000000
/-- The names in a component. -/
def names (K : List Str) (of : List Nat) (c : Nat) : List Str := ((K.zip of).filter fun p => p.2 == c).map (·.1)
abbrev keysOf (e : List (Str × List Str)) : List Str := sortS (e.map (·.1))
/-- The components in their order. -/
def CompsOf (e : List (Str × List Str)) (cs : List (List Str)) : Prop := ∃ (of : List Nat) (m : Nat) (l : List Nat),
  OfOk (Edg (nums e (keysOf e))) (keysOf e).length m of ∧ ArrOk (CEdg (Edg (nums e (keysOf e))) of) m l ∧ cs = l.map (names (keysOf e) of)

theorem comps_ok {h : Heap} {v : Value} {e : List (Str × List Str)} (r : RdE h v e) (sm : Sm e) :
    HC Try.prog 9 #[v] h fun u h' => Ext h h' ∧ ∃ cs, RdLL str h' u cs ∧ CompsOf e cs := by
  have hle := sm.len
  have hkp := sortS_perm (e.map (·.1))
  have hkl : (keysOf e).length = e.length := by rw [hkp.length_eq, List.length_map]
  have hnd : (keysOf e).Nodup := hkp.nodup_iff.2 r.nodup
  have hnl := nums_len e (keysOf e)
  have hin := below_nums (e := e) hnd
  have hrl : ∀ l ∈ nums e (keysOf e), l.length ≤ 1000000 := fun l hl => by
    simp only [nums, List.mem_map] at hl
    obtain ⟨a, _, rfl⟩ := hl
    exact row_len sm.row
  have hpb : (prF (nums e (keysOf e)) 0).length ≤ big := by
    have h1 := prF_bound (k := 0) hrl
    have h2 : (nums e (keysOf e)).length * 1000000 ≤ 100000 * 1000000 := Nat.mul_le_mul_right _ (by omega)
    unfold big; omega
  refine sh_calls_Comps ?_
  unfold g_calls_Comps
  refine oCall_func (.mono (keys_ok r (by unfold big; omega)) ?_)
  intro t14 h1 s1
  have rk1 : RdS h1 t14 (keysOf e) := s1.rdL
  refine oCall_func (.mono (numbered_ok (r.ext s1.ext) rk1 hnd (by unfold big; omega) fun a x hx => by have := sm.row a x hx; unfold big; omega) ?_)
  intro t17 h2 s2
  have rn2 : RdLL encI h2 t17 (nums e (keysOf e)) := s2.rr
  refine oCall_func (.mono (components_ok rn2 (by unfold big; omega) hin (fun l hl => by have := hrl l hl; unfold big; omega) hpb) ?_)
  rintro u1 h3 ⟨of, m, t21, rfl, o, s3⟩
  rw [oExt_two0, oExt_two1]
  have ro3 : RdL encI h3 t21 of := s3.rdL
  have rk3 : RdS h3 t14 (keysOf e) := (rk1.ext s2.ext).ext s3.ext
  have rn3 : RdLL encI h3 t17 (nums e (keysOf e)) := rn2.ext s3.ext
  have he3 : Ext h h3 := (s1.ext.trans s2.ext).trans s3.ext
  have hm := ofOk_m o
  have hol := o.len
  clear s1 s2 s3 rk1 rn2
  rw [hnl] at o hol hm
  refine oMkSliceRR (enc := str) (St.nil h3) (by omega) (by omega) fun t24 h4 s4 => ?_
  rw [oLen_sl rk3.1]
  refine loop1_count 0 (keysOf e).length (fun i h' => St h3 h' [RR str t24 (grp m (((keysOf e).zip of).take i))]) (Nat.zero_le _) (by simpa [grp_nil] using s4) ?_
  intro i h5 nx hi s5 hnx
  rw [oBin_lss]
  by_cases hlt : i < (keysOf e).length
  · rw [cond_pos (by omega)]
    obtain ⟨a, ha⟩ : ∃ a, (keysOf e)[i]? = some a := ⟨_, List.getElem?_eq_getElem hlt⟩
    obtain ⟨ho1, ho2⟩ := atN_of o hlt
    refine oGetL (rk3.ext s5.ext) ha ?_
    have hg := grp_get (n := m) (((keysOf e).zip of).take i) ho2
    have hgl := grp_len_le hg
    rw [List.length_take] at hgl
    obtain ⟨vs, x, M, hvl, hx, s6, close⟩ := s5.rrOpen hg
    have hout := s6.swap.row
    rw [grp_length] at hout hvl
    refine ⟨fun h' => Ext h3 h' ∧ Rd h' (sbase t24) vs, ⟨s5.ext, hout.2.2⟩, ?_⟩
    have rdO : ∀ h', Ext h3 h' ∧ Rd h' (sbase t24) vs → Rd h' (sbase t21) (of.map encI) := fun h' hd => (ro3.ext hd.1).2
    refine oGet ro3.1 ⟨_, ro3.2⟩ rdO ho1 ?_
    refine oGet ro3.1 ⟨_, ro3.2⟩ rdO ho1 ?_
    unfold encI
    rw [oIdx_sl hout.1 (hout.2.2.nz (by omega)) (by omega) (by omega)]
    refine oLoad1 (cs := vs) (x := x) (fun _ hd => hd.2) (by simpa using hx) ?_
    refine oBuild1o s6 rfl rfl fun u h6 s7 => ?_
    refine ⟨⟨s7.ext, s7.pick2.row.2.2⟩, ?_⟩
    obtain ⟨hu, _, hur⟩ := s7.row
    refine oAppendR (m := 1) (xs := [str a]) s7.swap rfl (by omega) hu rfl hur (by intro y hy; simp at hy; subst hy; rfl) (by simp only [List.length_map] at hgl ⊢; omega) (by simp only [List.length_map] at hgl ⊢; omega) fun r2 h7 s8 => ?_
    refine ⟨⟨s8.ext, s8.pick2.row.2.2⟩, ?_⟩
    have hr2 : Sh.one r2 = true := one_row s8
    rw [oIdx_sl hout.1 (hout.2.2.nz (by omega)) (by omega) (by omega)]
    refine oStoreR1 s8.pick2 hr2 (by omega) fun h8 s9 => ?_
    have e4 : ((atN of i : Int).toNat * 1) = atN of i := by omega
    rw [e4] at s9
    rw [oBin_add, wrap_succ i _ hlt (by omega)]
    refine hnx _ hlt ?_
    have hz : ((keysOf e).zip of).take (i + 1) = ((keysOf e).zip of).take i ++ [(a, atN of i)] := by
      have hzz : ((keysOf e).zip of)[i]? = some (a, atN of i) := List.getElem?_zip_eq_some.2 ⟨ha, ho1⟩
      rw [List.take_add_one, hzz]
      rfl
    rw [hz, ← grp_snoc _ a ho2 hg]
    refine close h8 r2 _ ?_
    have s12 := s9.swap.pick2.drop
    simp only [List.length_append, List.map_append, List.length_map, List.length_cons, List.length_nil, List.map_cons, List.map_nil, grp_length] at s12 ⊢
    exact s12
  · rw [cond_neg (by omega)]
    have hie : i = (keysOf e).length := by omega
    rw [List.take_of_length_le (by rw [List.length_zip]; omega)] at s5
    refine oCall_func (.mono (arrange_ok (rn3.ext s5.ext) (ro3.ext s5.ext) (by rw [hnl]; exact o) (by unfold big; omega) hin (fun l hl => by have := hrl l hl; unfold big; omega) hpb) ?_)
    rintro t52 h6 ⟨l, ar, s6⟩
    have rg : RdLL str h6 t24 (grp m ((keysOf e).zip of)) := (s5.rr).ext s6.ext
    have rl : RdL encI h6 t52 l := s6.rdL
    have he6 : Ext h h6 := (he3.trans s5.ext).trans s6.ext
    clear s5 s6 s4 hnx
    rw [oLen_sl rl.1]
    have hll := ar.len
    refine ⟨fun μ a b h' => ∃ (k : Nat) (ws : List Value), μ = l.length - k ∧ k ≤ l.length ∧ b = .int .i64 k ∧ ws.length = k ∧ (∀ (j : Nat) (x : Value) (c : Nat), ws[j]? = some x → l[j]? = some c → RdL str h6 x (names (keysOf e) of c)) ∧
        St h6 h' [Row 1 a ws.length (ws.map fun x => x)],
      l.length, ⟨0, [], rfl, Nat.zero_le _, rfl, rfl, by simp, ⟨Ext.refl _, fun _ => False, ⟨by simp, .inl ⟨rfl, rfl⟩⟩, fun _ h => h.elim, trivial⟩⟩, ?_⟩
    rintro μ a b h7 ⟨k, ws, rfl, hk, rfl, hwl, hws, s7⟩
    dsimp only
    rw [oBin_lss]
    by_cases hklt : k < l.length
    · rw [cond_pos (by omega)]
      obtain ⟨c, hc⟩ : ∃ c, l[k]? = some c := ⟨_, List.getElem?_eq_getElem hklt⟩
      have hcm : c < m := (ar.mem c).1 (List.mem_of_getElem? hc)
      refine oGetL (rl.ext s7.ext) hc ?_
      unfold encI
      obtain ⟨q1, vs, q2, q3, q4⟩ := rg
      rw [grp_length] at q1 q2
      obtain ⟨x, hx⟩ : ∃ x, vs[c]? = some x := ⟨_, List.getElem?_eq_getElem (by omega)⟩
      have hxr := q4 c x _ hx (grp_get _ hcm)
      rw [oIdx_sl q1 (q3.nz (by omega)) (by omega) (by omega)]
      refine oLoad1 (cs := vs) (x := x) (fun _ e => e ▸ q3.ext s7.ext) (by simpa using hx) ?_
      have hx1 : Sh.one x = true := by
        obtain ⟨⟨_, _, rfl⟩, _⟩ := hxr
        rfl
      refine oPush (enc := fun x : Value => x) (x := x) s7 hx1 rfl (by omega) (by omega) fun t64 h8 s8 => ?_
      rw [oBin_add, wrap_succ k _ hklt (by omega)]
      refine ⟨l.length - (k + 1), by omega, k + 1, ws ++ [x], rfl, by omega, rfl, by simp [hwl], fun j y d hy hd => ?_, s8⟩
      by_cases hj : j < k
      · rw [List.getElem?_append_left (by omega)] at hy
        exact hws j y d hy hd
      · have hjl := (List.getElem?_eq_some_iff.1 hy).1
        simp at hjl
        have : j = k := by omega
        subst this
        rw [hc] at hd
        simp only [Option.some.injEq] at hd
        subst hd
        rw [List.getElem?_append_right (by omega)] at hy
        simp [hwl] at hy
        subst hy
        exact hxr
    · rw [cond_neg (by omega)]
      have hke : k = l.length := by omega
      subst hke
      obtain ⟨w1, _, w3⟩ := s7.row
      refine ⟨he6.trans s7.ext, l.map (names (keysOf e) of), ⟨by rw [List.length_map, ← hwl]; exact w1, ws, by simp [hwl], by simpa using w3, fun j x y hx hy => ?_⟩, of, m, l, o, ar, rfl⟩
      rw [List.getElem?_map, Option.map_eq_some_iff] at hy
      obtain ⟨c, hc, rfl⟩ := hy
      exact (hws j x c hx hc).ext s7.ext
end Go.Proofs.Ytfhbpghgcgmegaa
