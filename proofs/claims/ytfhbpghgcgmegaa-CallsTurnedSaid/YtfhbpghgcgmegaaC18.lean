/- 'CallsAlone' answers true. -/
import Derived.Test.YtfhbpghgcgmegaaC16
import Derived.Test.YtfhbpghgcgmegaaC17
set_option linter.unusedVariables false
namespace Go.Proofs.Ytfhbpghgcgmegaa
open Go Go.Sh Go.Proofs

section more
variable {P : Program} {α : Type}
theorem oGetLd {t e : TypeId} [Und P t (.slice e)] [Siz P e 1] [IsA P e false] {enc : α → Value} {v : Value} {l : List α} {i : Nat} {a : α} {ik : IntKind} {h : Heap} {D : Heap → Prop} {K : Value → Prop}
    (hr : RdL enc h v l) (hD : ∀ h', D h' → Ext h h') (hi : l[i]? = some a) (hk : K (enc a)) : oIdx P t v (.int ik i) fun p => oLoad P e p D K :=
  oGet hr.1 ⟨_, hr.2⟩ (fun h' hd => hr.2.ext (hD h' hd)) hi hk
theorem oGetLLd {t e : TypeId} [Und P t (.slice e)] [Siz P e 1] [IsA P e false] {enc : α → Value} {v : Value} {ll : List (List α)} {i : Nat} {l : List α} {ik : IntKind} {h : Heap} {D : Heap → Prop} {K : Value → Prop}
    (hr : RdLL enc h v ll) (hD : ∀ h', D h' → Ext h h') (hi : ll[i]? = some l) (hk : ∀ x, RdL enc h x l → K x) : oIdx P t v (.int ik i) fun p => oLoad P e p D K := by
  obtain ⟨h1, vs, h2, h3, h4⟩ := hr
  have hlt : i < ll.length := (List.getElem?_eq_some_iff.1 hi).1
  obtain ⟨x, hx⟩ : ∃ x, vs[i]? = some x := ⟨vs[i], List.getElem?_eq_getElem (by omega)⟩
  rw [oIdx_sl h1 (h3.nz (by omega)) (by omega) (by omega)]
  exact oLoad1 (cs := vs) (x := x) (fun h' hd => h3.ext (hD h' hd)) (by simpa using hx) (hk x (h4 i x l hx hi))
theorem oMin_int {ats : Array TypeId} {t : TypeId} {k : IntKind} {a b : Int} {K : Value → Prop} : oMin P ats t #[.int k a, .int k b] K ↔ K (.int k (if b < a then b else a)) :=
  Sp.iff fun w => by simp [Builtin.min_, Builtin.min2]
theorem oMax_int {ats : Array TypeId} {t : TypeId} {k : IntKind} {a b : Int} {K : Value → Prop} : oMax P ats t #[.int k a, .int k b] K ↔ K (.int k (if b > a then b else a)) :=
  Sp.iff fun w => by simp [Builtin.max_, Builtin.max2]
end more
theorem oChr {i : Nat} {x y : Operand} {K : Value → Prop} (hi : i < 100) (hk : K (.int .u8 ((97 + i : Nat) : Int))) : oBin Try.prog .add 3 x y (.int .i64 97) (.int .i64 i) fun t => oConv Try.prog 3 5 t K := by
  rw [oBin_add, wrap_int _ (by omega) (by omega), oConv_int, show (97 : Int) + (i : Int) = ((97 + i : Nat) : Int) from by omega, u8_wrap _ (by omega)]
  exact hk
/-- 'n % c', as a number. -/
theorem oRem {n c : Nat} {x y : Operand} {K : Value → Prop} (hc : 0 < c) (hn : n < 256) (hk : K (.int .i64 ((n % c : Nat) : Int))) : oBin Try.prog .rem 5 x y (.int .u8 n) (.int .u8 (c : Int)) fun t => oConv Try.prog 5 3 t K := by
  rw [oBin_rem (by omega), oConv_int, ← Int.ofNat_tmod]
  have := Nat.mod_le n c
  rw [wrap_int _ (by omega) (by omega)]
  exact hk
theorem sm_chn {k : Nat} (hk : k ≤ 100) : Sm (chn k k) := ⟨by simp [chn]; omega, fun a x hx => by
  have h1 := (get_isSome a (chn k k)).1 (by rw [hx]; rfl)
  rw [chn_keys] at h1
  obtain ⟨i, hi, rfl⟩ := List.mem_map.1 h1
  rw [chn_get hk (List.mem_range.1 hi)] at hx
  simp only [Option.some.injEq] at hx
  subst hx
  split <;> simp⟩

theorem alone_ok {h : Heap} {n a b : Nat} (hn : n < 256) (ha : a < 256) (hb : b < 256) :
    HC Try.prog 6 #[.int .u8 n, .int .u8 a, .int .u8 b] h fun u h' => u = .bool true ∧ Ext h h' := by
  refine sh_augurlaw11_CallsAlone ?_
  unfold g_augurlaw11_CallsAlone
  simp only [join]
  refine oCall_func (.mono known_ok ?_)
  rintro u h0 ⟨rfl, e0⟩
  have s0 : St h h0 [] := ⟨e0, trivial⟩
  rw [oUn_not]
  show cond (.bool false) _ _
  rw [cond_f]
  refine oRem (c := 12) (by omega) hn ?_
  have h12 : n % 12 < 12 := Nat.mod_lt _ (by omega)
  obtain ⟨k, hk⟩ : ∃ k, k = n % 12 + 2 := ⟨_, rfl⟩
  have hk13 : k ≤ 13 := by omega
  have hk2 : 2 ≤ k := by omega
  rw [oBin_add, wrap_int _ (by omega) (by omega), show ((n % 12 : Nat) : Int) + 2 = (k : Int) from by omega]
  clear hk h12
  refine oMkMap_own (.inl rfl) s0 fun t24 h1 s1 => ?_
  refine loop1_count 0 k (fun i h' => St h h' [MR str t24 (chn k i)]) (Nat.zero_le _) s1.mrNil ?_
  intro i h2 nx hi s2 hnx
  rw [oBin_lss]
  by_cases hlt : i < k
  · rw [cond_pos (by omega)]
    refine oChr (by omega) ?_
    refine oName (by omega) s2 fun h3 _ s3 => ?_
    refine oPutMR (enc := str) (l := []) (o := none) (by intro x hx; cases hx) s3.nilRow fun h4 s4 => ?_
    rw [put_new (nm_notin (by omega) k)] at s4
    rw [oBin_add, wrap_int _ (by omega) (by omega), oBin_lss]
    by_cases hlt2 : i + 1 < k
    · rw [cond_pos (by omega)]
      refine oChr (by omega) ?_
      refine oName (by omega) s4 fun h5 _ s5 => ?_
      rw [oBin_add, wrap_int _ (by omega) (by omega), oBin_add, wrap_int _ (by omega) (by omega), oConv_int, show (97 : Int) + (i : Int) + 1 = ((97 + (i + 1) : Nat) : Int) from by omega, u8_wrap _ (by omega)]
      refine oName (by omega) s5 fun h6 _ s6 => ?_
      refine oBuild1o s6 rfl rfl fun t52 h7 s7 => ?_
      refine oPutMR (enc := str) (l := [nmS (i + 1)]) (o := none) (by intro x hx; cases hx) s7 fun h8 s8 => ?_
      rw [put_mid (nm_notin (by omega) k)] at s8
      rw [oBin_add, wrap_succ i _ hlt (by omega)]
      refine hnx _ hlt ?_
      rw [chn_succ, if_pos hlt2]
      exact s8
    · rw [cond_neg (by omega)]
      rw [oBin_add, wrap_succ i _ hlt (by omega)]
      refine hnx _ hlt ?_
      rw [chn_succ, if_neg hlt2]
      exact s4
  rw [cond_neg (by omega)]
  have hie : i = k := by omega
  subst hie
  clear hnx hlt hi s1 s0
  have sm := sm_chn (k := i) (by omega)
  refine oCall_func (.mono (comps_ok s2.mr sm) ?_)
  rintro t54 h13 ⟨e13, cs, hcs, hc⟩
  rw [chn_comps (by omega) hc] at hcs
  clear hc cs
  have s13 : St h h13 [MR str t24 (chn i i)] := s2.call (L' := []) ⟨e13, trivial⟩
  rw [oLen_sl hcs.1, oBin_neq, List.length_map, List.length_reverse, List.length_range, cond_neg (by simp)]
  refine loop1_count 0 i (fun j h' => Ext h13 h' ∧ St h h' [MR str t24 (chn i i)]) (Nat.zero_le _) ⟨Ext.refl _, s13⟩ ?_
  rintro j h14 nx2 hj ⟨e14, s14⟩ hnx2
  rw [oBin_lss]
  by_cases hjlt : j < i
  · rw [cond_pos (by omega)]
    refine ⟨fun h' => Ext h14 h', Ext.refl _, ?_⟩
    have hci : ((List.range i).reverse.map fun c => [nmS c])[j]? = some [nmS (i - 1 - j)] := by
      rw [List.getElem?_map, List.getElem?_reverse (by simpa using hjlt), List.length_range, List.getElem?_range (by omega)]
      rfl
    refine oGetLLd hcs (fun h' hd => e14.trans hd) hci fun t67 ht67 => ?_
    rw [oLen_sl ht67.1, oBin_neq, cond_neg (by simp)]
    refine oGetLLd hcs (fun h' hd => e14.trans hd) hci fun t74 ht74 => ?_
    refine oGetLd (i := 0) ht74 (fun h' hd => e14.trans hd) rfl ?_
    rw [oBin_add, wrap_int _ (by omega) (by omega), oBin_sub, wrap_int _ (by omega) (by omega), oBin_sub, wrap_int _ (by omega) (by omega), oConv_int,
      show (97 : Int) + (i : Int) - 1 - (j : Int) = ((97 + (i - 1 - j) : Nat) : Int) from by omega, u8_wrap _ (by omega)]
    refine oBuild1o (St.nil h14) rfl rfl fun t83 h16 s16 => ⟨s16.ext, ?_⟩
    have hr := s16.row
    have e : [Value.int .u8 ((97 + (i - 1 - j) : Nat) : Int)] = bytesV (nmS (i - 1 - j)) := by
      simp only [bytesV, nmS, List.map_cons, List.map_nil, UInt8.toNat_ofNat']
      congr 2
      omega
    refine oConvX_bytes (l := nmS (i - 1 - j)) hr.1 (by rw [← e]; exact hr.2.2) ⟨s16.ext, ?_⟩
    rw [oBin_str_neq, decide_eq_false (by simp), decide_eq_false (by simp), oPick_bool, if_neg (by simp), cond_f, oBin_add, wrap_succ j _ hjlt (by omega)]
    exact hnx2 _ hjlt ⟨e14.trans s16.ext, s14.call s16.dropAll⟩
  rw [cond_neg (by omega)]
  have hji : j = i := by omega
  subst hji
  clear hnx2 hjlt hj hcs s13 e13 s2 nx nx2
  have e1 : IntKind.i64.wrap (a : Int) = a := wrap_int _ (by omega) (by omega)
  have e2 : IntKind.i64.wrap (b : Int) = b := wrap_int _ (by omega) (by omega)
  rw [oConv_int, e1, oBin_rem (by omega), ← Int.ofNat_tmod, oConv_int, e2, oBin_rem (by omega), ← Int.ofNat_tmod, oMin_int, oMax_int]
  have haj : a % j < j := Nat.mod_lt _ (by omega)
  have hbj : b % j < j := Nat.mod_lt _ (by omega)
  obtain ⟨lo, hi, hlo, hhi, hlh, hhk⟩ : ∃ lo hi : Nat, (if ((b % j : Nat) : Int) < ((a % j : Nat) : Int) then ((b % j : Nat) : Int) else ((a % j : Nat) : Int)) = (lo : Int) ∧
      (if ((b % j : Nat) : Int) > ((a % j : Nat) : Int) then ((b % j : Nat) : Int) else ((a % j : Nat) : Int)) = (hi : Int) ∧ lo ≤ hi ∧ hi < j := by
    by_cases h1 : b % j < a % j
    · exact ⟨b % j, a % j, by rw [if_pos (by omega)], by rw [if_neg (by omega)], by omega, haj⟩
    · exact ⟨a % j, b % j, by rw [if_neg (by omega)], by split <;> omega, by omega, hbj⟩
  rw [hlo, hhi]
  clear hlo hhi haj hbj e1 e2
  refine oChr (by omega) ?_
  refine oName (by omega) s14 fun h15 _ s15 => ?_
  refine oChr (by omega) ?_
  refine oName (by omega) s15 fun h16 _ s16 => ?_
  refine oBuild1o s16 rfl rfl fun t113 h17 s17 => ?_
  refine oLookMp (d := []) s17.swap.mr (Ext.refl _) (RdL.nil _ _ _) fun t116 ht116 => ?_
  have hgl : ((get (chn j j) (nmS hi)).getD []).length ≤ 1 := by
    rw [chn_get (by omega) hhk]
    simp only [Option.getD_some]
    split <;> simp
  refine oAppendR (m := ((get (chn j j) (nmS hi)).getD []).length) (xs := ((get (chn j j) (nmS hi)).getD []).map str) s17 rfl (by omega) ht116.1 (by simp) ht116.2 (by intro y hy; obtain ⟨x, _, rfl⟩ := List.mem_map.1 hy; rfl) (by omega) (by omega) fun t117 h18 s18 => ?_
  have s18' : St h h18 [Row 1 t117 (nmS lo :: (get (chn j j) (nmS hi)).getD []).length ((nmS lo :: (get (chn j j) (nmS hi)).getD []).map str), MR str t24 (chn j j)] := by
    have : (nmS lo :: (get (chn j j) (nmS hi)).getD []).length = 1 + ((get (chn j j) (nmS hi)).getD []).length := by simp; omega
    rw [this]
    exact s18
  refine oPutMR (enc := str) (l := nmS lo :: (get (chn j j) (nmS hi)).getD []) (o := none) (by intro x hx; cases hx) s18' fun h19 s19 => ?_
  have sm2 : Sm (put (chn j j) (nmS hi) (nmS lo :: (get (chn j j) (nmS hi)).getD [])) := by
    refine ⟨?_, fun x y hy => ?_⟩
    · have h1 := put_keys (nmS hi) (nmS lo :: (get (chn j j) (nmS hi)).getD []) (chn j j)
      rw [chn_keys, if_pos (List.mem_map.2 ⟨hi, List.mem_range.2 hhk, rfl⟩)] at h1
      have h2 := congrArg List.length h1
      simp at h2
      omega
    · rw [get_put] at hy
      split at hy
      · simp only [Option.some.injEq] at hy
        subst hy
        simp; omega
      · exact sm.row x y hy
  refine oCall_func (.mono (comps_ok s19.mr sm2) ?_)
  rintro t119 h20 ⟨e20, cs, hcs, hc⟩
  rw [bk_comps (by omega) hlh hhk hc] at hcs
  clear hc cs
  rw [oLen_sl hcs.1, List.length_map, List.length_reverse, List.length_range, oBin_sub, wrap_int _ (by omega) (by omega), oBin_sub, wrap_int _ (by omega) (by omega), oBin_neq, cond_neg (by omega)]
  refine loop1_count 0 (j - (hi - lo)) (fun i h' => Ext h20 h' ∧ Ext h h') (Nat.zero_le _) ⟨Ext.refl _, s19.ext.trans e20⟩ ?_
  rintro i h21 nx hi' ⟨e21, e21'⟩ hnx
  rw [oLen_sl hcs.1, List.length_map, List.length_reverse, List.length_range, oBin_lss]
  by_cases hlt : i < j - (hi - lo)
  · rw [cond_pos (by omega)]
    refine ⟨fun h' => Ext h21 h', Ext.refl _, ?_⟩
    obtain ⟨c, hc⟩ : ∃ c, c = j - (hi - lo) - 1 - i := ⟨_, rfl⟩
    have hci : ((List.range (j - (hi - lo))).reverse.map (names (nmK j) ((List.range j).map (bk lo hi))))[i]? = some (names (nmK j) ((List.range j).map (bk lo hi)) c) := by
      rw [List.getElem?_map, List.getElem?_reverse (by simpa using hlt), List.length_range, List.getElem?_range (by omega), hc]
      rfl
    refine oGetLLd hcs (fun h' hd => e21.trans hd) hci fun t137 ht137 => ?_
    rw [oLen_sl ht137.1, oBin_gtr]
    have tail : ∀ h', Ext h21 h' → nx (.int .i64 ((i + 1 : Nat) : Int)) h' := fun h' e' => hnx _ hlt ⟨e21.trans e', e21'.trans e'⟩
    by_cases hclo : c = lo
    · rw [hclo, bk_names_lo hlh hhk] at hci ht137 ⊢
      by_cases h1 : (1 : Int) < (((List.range (hi - lo + 1)).map fun x => nmS (lo + x)).length : Int)
      · rw [cond_pos h1, decide_eq_true h1]
        refine oGetLLd hcs (fun h' hd => e21.trans hd) hci fun t144 ht144 => ?_
        rw [oLen_sl ht144.1, oBin_sub, wrap_int _ (by omega) (by omega), oBin_add, wrap_int _ (by omega) (by omega), oBin_neq]
        have e3 : ¬ ((((List.range (hi - lo + 1)).map fun x => nmS (lo + x)).length : Int) ≠ (hi : Int) - (lo : Int) + 1) := by simp; omega
        rw [cond_neg e3, decide_eq_false e3]
        refine oGetLLd hcs (fun h' hd => e21.trans hd) hci fun t155 ht155 => ?_
        refine oGetLd (i := 0) (a := nmS lo) ht155 (fun h' hd => e21.trans hd) (by rw [List.getElem?_map, List.getElem?_range (by omega)]; rfl) ?_
        refine oChr (by omega) ?_
        refine oBuild1o (St.nil h21) rfl rfl fun t161 h29 s29 => ⟨s29.ext, ?_⟩
        have hr := s29.row
        have e : [Value.int .u8 ((97 + lo : Nat) : Int)] = bytesV (nmS lo) := by
          simp only [bytesV, nmS, List.map_cons, List.map_nil, UInt8.toNat_ofNat']
          congr 2
          omega
        refine oConvX_bytes (l := nmS lo) hr.1 (by rw [← e]; exact hr.2.2) ⟨s29.ext, ?_⟩
        rw [oBin_str_neq, decide_eq_false (by simp), oPick_bool, if_neg (by simp), oPick_bool, if_pos rfl, cond_f, oBin_add, wrap_succ i _ hlt (by omega)]
        exact tail _ s29.ext
      · rw [cond_neg h1, decide_eq_false h1, oPick_bool, if_neg (by simp), cond_f, oBin_add, wrap_succ i _ hlt (by omega)]
        exact tail _ (Ext.refl _)
    · have h2 := bk_names_ne (k := j) hlh hhk hclo
      have h1 : ¬ (1 : Int) < ((names (nmK j) ((List.range j).map (bk lo hi)) c).length : Int) := by omega
      rw [cond_neg h1, decide_eq_false h1, oPick_bool, if_neg (by simp), cond_f, oBin_add, wrap_succ i _ hlt (by omega)]
      exact tail _ (Ext.refl _)
  · rw [cond_neg (by omega)]
    exact ⟨trivial, e21'⟩
end Go.Proofs.Ytfhbpghgcgmegaa
