/- 'CallsTurned' answers true. -/
import Derived.Test.YtfhbpghgcgmegaaC21
import Derived.Test.YtfhbpghgcgmegaaMrs
set_option linter.unusedVariables false
namespace Go.Proofs.Ytfhbpghgcgmegaa
open Go Go.Sh Go.Proofs

def nobody : Str := [110, 111, 98, 111, 100, 121]
def zz : Str := [122, 122]
theorem nm_ne {i : Nat} : nmS i ≠ nobody ∧ nmS i ≠ zz := by
  constructor <;> intro h <;> simp [nmS, nobody, zz] at h

/-- While names that nobody has are put in: these keys are done. -/
structure Trn (e f : List (Str × List Str)) (ks : List Str) (B : Nat) : Prop where
  keys : f.map (·.1) = e.map (·.1)
  mem : ∀ a b, b ≠ nobody → b ≠ zz → (b ∈ (get f a).getD [] ↔ b ∈ (get e a).getD [])
  len : ∀ a, ((get f a).getD []).length ≤ B + 2 * ks.length
theorem Trn.add {e f : List (Str × List Str)} {ks : List Str} {B : Nat} (h : Trn e f ks B) {k : Str} (hk : k ∈ f.map (·.1)) : Trn e (put f k ((get f k).getD [] ++ [nobody, zz])) (ks ++ [k]) B := by
  refine ⟨?_, fun a b h1 h2 => ?_, fun a => ?_⟩
  · rw [put_keys, if_pos hk, h.keys]
  · rw [get_put]
    split
    · rename_i he
      subst he
      simp only [Option.getD_some, List.mem_append, List.mem_cons, List.not_mem_nil, or_false]
      rw [h.mem k b h1 h2]
      exact ⟨fun h3 => h3.resolve_right fun h3 => h3.elim h1 h2, .inl⟩
    · exact h.mem a b h1 h2
  · rw [get_put]
    have h1 := h.len a
    split
    · rename_i he
      subst he
      simp only [Option.getD_some, List.length_append, List.length_cons, List.length_nil]
      omega
    · simp only [List.length_append, List.length_cons, List.length_nil]
      omega
theorem usersOf_len {e : List (Str × List Str)} {a : Str} {l : List Str} (h : UsersOf e a l) : l.length ≤ e.length := by
  rcases h with ⟨_, rfl⟩ | ⟨_, h⟩
  · simp
  · have h1 := List.Nodup.length_le_of_subset (l₂ := e.map (·.1)) h.2.1 (fun x hx => by
      obtain ⟨b, _, h3⟩ := RP.tail.1 ((h.2.2 x).1 hx)
      exact h3.2)
    rwa [List.length_map] at h1
theorem compsOf_bound {e : List (Str × List Str)} (hn : (e.map (·.1)).Nodup) {cs : List (List Str)} (h : CompsOf e cs) : cs.length ≤ e.length ∧ ∀ x ∈ cs, x.length ≤ e.length := by
  have cf := comps_facts hn h
  have hfl : cs.flatten.length = e.length := by
    have hp : cs.flatten.Perm (e.map (·.1)) := (List.perm_ext_iff_of_nodup cf.nodup hn).2 cf.mem
    rw [hp.length_eq, List.length_map]
  obtain ⟨of, mm, ll, o, ar, hcseq⟩ := h
  refine ⟨?_, fun x hx => ?_⟩
  · rw [hcseq, List.length_map, ar.len]
    have h1 := ofOk_m o
    have h2 : (keysOf e).length = e.length := by rw [(sortS_perm _).length_eq, List.length_map]
    omega
  · have := (List.sublist_flatten_of_mem hx).length_le
    omega

theorem turned_ok {h : Heap} {v1 : Value} {n t : Nat} {l : List Nat} (r : RdL encH h v1 l) (hn : n < 256) (ht : t < 256) (hx : ∀ x ∈ l, x < 65536) :
    HC Try.prog 4 #[.int .u8 n, v1, .int .u8 t] h fun u h' => u = .bool true ∧ Ext h h' := by
  refine sh_augurlaw11_CallsTurned ?_
  unfold g_augurlaw11_CallsTurned
  refine oCall_func (.mono known_ok ?_)
  rintro u h0 ⟨rfl, e0⟩
  have s0 : St h h0 [] := ⟨e0, trivial⟩
  rw [oUn_not]
  show cond (.bool false) _ _
  rw [cond_f, oLen_sl r.1, oBin_gtr]
  by_cases hl : (20 : Int) < (l.length : Int)
  · rw [cond_pos hl]
    exact ⟨rfl, e0⟩
  rw [cond_neg hl]
  refine ⟨fun μ a b h' => ∃ (i : Nat) (ms : List Nat), μ = l.length - i ∧ i ≤ l.length ∧ b = .int .i64 i ∧ ms.length = 2 * i ∧ (∀ x ∈ ms, x ∈ l) ∧ (∀ (j : Nat) x, j < i → l[j]? = some x → x ∈ ms) ∧ St h h' [Row 1 a ms.length (ms.map encH)],
    l.length, ⟨0, [], rfl, Nat.zero_le _, rfl, rfl, by simp, by omega, s0.nilRow⟩, ?_⟩
  rintro μ x7 b h1 ⟨i, ms, rfl, hi, rfl, hml, hm1, hm2, s1⟩
  dsimp only
  rw [oLen_sl r.1, oBin_lss]
  by_cases hlt : i < l.length
  · rw [cond_pos (by omega)]
    refine ⟨fun h' => Ext h h', s1.ext, ?_⟩
    dsimp only
    rw [oConv_int, wrap_int _ (by omega) (by omega), oBin_add, wrap_int _ (by omega) (by omega), oLen_sl r.1, show ((i : Int) + (t : Int)) = ((i + t : Nat) : Int) from by omega, oBin_rem (by omega), ← Int.ofNat_tmod]
    have hlm : (i + t) % l.length < l.length := Nat.mod_lt _ (by omega)
    obtain ⟨y, hy⟩ : ∃ y, l[(i + t) % l.length]? = some y := ⟨_, List.getElem?_eq_getElem hlm⟩
    obtain ⟨z, hz⟩ : ∃ z, l[i]? = some z := ⟨_, List.getElem?_eq_getElem hlt⟩
    refine oGetLd r (fun _ hd => hd) hy ?_
    refine oGetLd r (fun _ hd => hd) hz ?_
    refine oBuild2o s1 rfl rfl rfl fun t40 h2 s2 => ⟨s2.ext, ?_⟩
    obtain ⟨hu, _, hur⟩ := s2.row
    refine oAppendR (m := 2) (xs := [encH y, encH z]) s2.swap rfl (by omega) hu rfl hur (by intro w hw; simp at hw; rcases hw with rfl | rfl <;> rfl) (by omega) (by omega) fun t41 h3 s3 => ⟨s3.ext, ?_⟩
    rw [oBin_add, wrap_succ i _ hlt (by omega)]
    refine ⟨l.length - (i + 1), by omega, i + 1, ms ++ [y, z], rfl, by omega, rfl, by simp; omega, fun x hx' => ?_, fun j x hj hxj => ?_, ?_⟩
    · rcases List.mem_append.1 hx' with h4 | h4
      · exact hm1 x h4
      · simp only [List.mem_cons, List.not_mem_nil, or_false] at h4
        rcases h4 with rfl | rfl
        · exact List.mem_of_getElem? hy
        · exact List.mem_of_getElem? hz
    · by_cases e : j = i
      · subst e
        rw [hz] at hxj
        simp only [Option.some.injEq] at hxj
        subst hxj
        simp
      · exact List.mem_append_left _ (hm2 j x (by omega) hxj)
    · have := s3.swap.drop
      simpa using this
  rw [cond_neg (by omega)]
  have hie : i = l.length := by omega
  subst hie
  have hms : ∀ x, x ∈ ms ↔ x ∈ l := fun x => ⟨hm1 x, fun hxl => by
    obtain ⟨j, hj⟩ := List.getElem?_of_mem hxl
    exact hm2 j x (List.getElem?_eq_some_iff.1 hj).1 hj⟩
  clear hm1 hm2 hi
  have h9 : n % 9 < 9 := Nat.mod_lt _ (by omega)
  refine oCall_func (.mono (edges_ok s1 (r.ext s1.ext) hn (by omega) hx) ?_)
  rintro t44 h2 ⟨_, e, he, s2⟩
  have rms : RdL encH h2 x7 ms := s2.swap.rdL
  refine oCall_func (.mono (edges_ok s2 rms hn (by omega) (fun x hx' => hx x ((hms x).1 hx'))) ?_)
  rintro t47 h3 ⟨_, f, hf, s3⟩
  obtain ⟨k, hk⟩ : ∃ k, k = n % 9 + 1 := ⟨_, rfl⟩
  rw [← hk] at he hf
  have hk9 : k ≤ 9 := by omega
  have smE := he.sm (by omega) (by omega)
  have hfe : f.map (·.1) = e.map (·.1) := by rw [he.keys, hf.keys]
  have hfl : f.length = k := by
    have := congrArg List.length hf.keys
    simpa using this
  have hfn : (f.map (·.1)).Nodup := hf.nodup (by omega)
  -- the range that stores
  obtain ⟨st, c, s4⟩ := s3.mrToS
  obtain ⟨m, rM, hmk⟩ := s4.mrsRd
  refine oRange_map s4 rM fun it h4 s5 => ?_
  rw [hmk] at s5
  refine ⟨fun μ h' => ∃ (ks : List Str) (f' : List (Str × List Str)), μ = f.length - ks.length ∧ ks.Nodup ∧ (∀ k ∈ ks, k ∈ f.map (·.1)) ∧ Trn f f' ks ms.length ∧
      St h h' [IterS it t47 (f.map (·.1)) st c ks, MRSh str t47 st c f' none, MR str t44 e],
    f.length, ⟨[], f, rfl, by simp, by simp, ⟨rfl, fun _ _ _ _ => Iff.rfl, fun a => by have := hf.len a; simpa using this⟩, s5.perm (List.Perm.cons _ (List.Perm.cons _ (List.Perm.cons _ (List.Perm.refl _)))) |>.split (L := [_, _, _])⟩, ?_⟩
  rintro μ h5 ⟨ks, f', rfl, hks, hsub, trn, s6⟩
  dsimp only
  have hksl : ks.length ≤ f.length := by
    have := List.Nodup.length_le_of_subset hks hsub
    simpa using this
  obtain ⟨m', rM', hmk'⟩ := s6.swap.mrsRd
  have hkeys' : f.map (·.1) = m'.map (·.1) := by rw [hmk', trn.keys]
  refine oNext_map s6 rM' hkeys' hsub (fun hall => ?_) fun y x h6 hyx hny s7 _ => ?_
  · rw [oExt_one0, cond_f]
    have sB : St h h5 [MR str t47 f', MR str t44 e] := s6.drop.mrsToMr
    have hal : Alike e f' := by
      refine ⟨by rw [trn.keys, hfe], he.nodup (by omega), fun a b ha hb => ?_⟩
      rw [he.keys] at ha hb
      obtain ⟨i, hi, rfl⟩ := List.mem_map.1 ha
      obtain ⟨j, hj, rfl⟩ := List.mem_map.1 hb
      rw [trn.mem _ _ nm_ne.1 nm_ne.2, he.mem, hf.mem]
      exact ⟨fun ⟨x, h1, h2⟩ => ⟨x, (hms x).2 h1, h2⟩, fun ⟨x, h1, h2⟩ => ⟨x, (hms x).1 h1, h2⟩⟩
    have hf'l : f'.length = k := by
      have := congrArg List.length trn.keys
      rw [List.length_map, List.length_map] at this
      omega
    have smF : Sm f' := ⟨by omega, fun a x hx' => by
      have h1 := trn.len a
      rw [hx'] at h1
      simp only [Option.getD_some] at h1
      omega⟩
    have rE5 : RdE h5 t44 e := sB.swap.mr
    have rF5 : RdE h5 t47 f' := sB.mr
    have e5 := sB.ext
    have hel : e.length = k := by
      have := congrArg List.length he.keys
      simpa using this
    refine oCall_func (.mono (comps_ok rE5 smE) ?_)
    rintro t62 h7 ⟨e7, cs, hcs, hc⟩
    refine oCall_func (.mono (comps_ok (RdE.ext rF5 e7) smF) ?_)
    rintro t64 h8 ⟨e8, ds, hds, hd⟩
    obtain ⟨hb1, hb2⟩ := compsOf_bound hal.nodup hc
    have hcd := hal.comps hc hd
    subst hcd
    refine oCall_func (.mono (comps_help_ok (hcs.ext e8) hds (by omega) (fun x hx' => by have := hb2 x hx'; omega)) ?_)
    rintro u9 h9' ⟨rfl, rfl⟩
    rw [decide_eq_true rfl, oUn_not]
    show cond (.bool false) _ _
    rw [cond_f]
    have e58 : Ext h5 h9' := e7.trans e8
    clear hcs hds hc hd hb1 hb2
    refine loop1_count 0 k (fun i h' => Ext h5 h') (Nat.zero_le _) e58 ?_
    intro i h10 nx hi e10 hnx
    refine oRem (c := 9) (by omega) hn ?_
    rw [oBin_add, wrap_int _ (by omega) (by omega), show ((n % 9 : Nat) : Int) + 1 = (k : Int) from by omega, oBin_lss]
    by_cases hilt : i < k
    · rw [cond_pos (by omega)]
      refine oChr (by omega) ?_
      refine oName (by omega) (St.nil h10) fun h11 e11 _ => ?_
      have hki : nmS i ∈ e.map (·.1) := he.key hilt
      have e511 := e10.trans e11
      refine oCall_func (.mono (needs_ok (nm := nmS i) (RdE.ext rE5 e511) smE) ?_)
      rintro t82 h12 ⟨e12, l1, hl1, hl2⟩
      have e512 := e511.trans e12
      refine oCall_func (.mono (needs_ok (nm := nmS i) (RdE.ext rF5 e512) smF) ?_)
      rintro t85 h13 ⟨e13, l3, hl3, hl4⟩
      have hq := hal.needs hki hl2 hl4
      subst hq
      have hb3 := rchOf_len hl2
      refine oCall_func (.mono (strings_ok (hl1.ext e13) hl3 (by omega)) ?_)
      rintro u14 h14 ⟨rfl, rfl⟩
      have e514 := e512.trans e13
      rw [decide_eq_true rfl, oUn_not]
      refine join_intro fun k' hk' => ?_
      have tail : ∀ h', Ext h5 h' → k' (.bool false) h' := fun h' e' => by
        rw [hk']
        dsimp only
        rw [oPick_bool]
        show cond (.bool false) _ _
        rw [cond_f, oBin_add, wrap_succ i _ hilt (by omega)]
        exact hnx _ hilt e'
      clear hk'
      show cond (.bool false) _ _
      rw [cond_f]
      refine oCall_func (.mono (users_ok (nm := nmS i) (RdE.ext rE5 e514) smE) ?_)
      rintro t91 h15 ⟨e15, l5, hl5, hl6⟩
      have e515 := e514.trans e15
      refine oCall_func (.mono (users_ok (nm := nmS i) (RdE.ext rF5 e515) smF) ?_)
      rintro t94 h16 ⟨e16, l7, hl7, hl8⟩
      have hq2 := hal.users hki hl6 hl8
      subst hq2
      have hb4 := usersOf_len hl6
      refine oCall_func (.mono (strings_ok (hl5.ext e16) hl7 (by omega)) ?_)
      rintro u17 h17 ⟨rfl, rfl⟩
      rw [decide_eq_true rfl, oUn_not]
      exact tail _ (e515.trans e16)
    · rw [cond_neg (by omega)]
      exact ⟨rfl, e5.trans e10⟩
  · rw [oExt_three0, cond_t]
    have hyk : y ∈ f.map (·.1) := by
      rw [hkeys']
      exact (look_isSome y m').1 (by rw [hyx]; rfl)
    obtain ⟨m2, rM2, hmk2⟩ := s7.swap.mrsRd
    have hkeys2 : f.map (·.1) = m2.map (·.1) := by rw [hmk2, trn.keys]
    obtain ⟨x2, hx2⟩ := Option.isSome_iff_exists.1 ((look_isSome y m2).2 (hkeys2 ▸ hyk))
    refine oEntry_map s7 rM2 hkeys2 hx2 ?_
    rw [oExt_two0]
    obtain ⟨m3, rM3, x3, hx3, s8⟩ := s7.swap.mrsTake y
    refine oLook_val (m := m3) (by rintro _ rfl; exact ⟨st, c, rM3⟩) ?_
    simp only [Bool.false_eq_true, if_false]
    rw [← hx3]
    have hlen := trn.len y
    refine oBuild2o s8 rfl rfl rfl fun t59 h7 s9 => ?_
    obtain ⟨hu, _, hur⟩ := s9.row
    refine oAppendR (m := 2) (xs := [str nobody, str zz]) s9.swap rfl (by omega) hu rfl hur (by intro w hw; simp at hw; rcases hw with rfl | rfl <;> rfl) (by omega) (by omega) fun t60 h8 s10 => ?_
    have s11 := s10.swap.drop
    have s12 : St h h8 (Row 1 t60 ((get f' y).getD [] ++ [nobody, zz]).length (((get f' y).getD [] ++ [nobody, zz]).map str) :: MRSh str t47 st c f' (some y) :: [IterS it t47 (f.map (·.1)) st c (ks ++ [y]), MR str t44 e]) := by
      simpa using s11
    refine oPutMRS (enc := str) (fun x h => by simpa using h.symm) (by rw [trn.keys]; exact hyk) s12 fun h9' s13 => ?_
    have hnew : (ks ++ [y]).Nodup := by
      rw [List.nodup_append]
      exact ⟨hks, by simp, fun b hb d hd => by simp only [List.mem_singleton] at hd; subst hd; exact fun e => hny (e ▸ hb)⟩
    have hsub' : ∀ j ∈ ks ++ [y], j ∈ f.map (·.1) := fun j hj => by
      rcases List.mem_append.1 hj with hj | hj
      · exact hsub j hj
      · simp only [List.mem_singleton] at hj; subst hj; exact hyk
    have hlen2 : (ks ++ [y]).length ≤ f.length := by
      have := List.Nodup.length_le_of_subset hnew hsub'
      simpa using this
    simp only [List.length_append, List.length_cons, List.length_nil] at hlen2
    exact ⟨f.length - (ks ++ [y]).length, by simp; omega, ks ++ [y], _, rfl, hnew, hsub', trn.add (by rw [trn.keys]; exact hyk), s13.swap⟩
end Go.Proofs.Ytfhbpghgcgmegaa
