/- Texts of the claim, one behind the other. -/
import Derived.Laws.IdiomStrings
import Derived.Recover
import Derived.Test.YtaibfbakhiainaaMoC
set_option linter.unusedVariables false
set_option linter.unusedSimpArgs false
set_option linter.unusedSectionVars false
namespace Go.Proofs.Ytaibfbakhiainaa
open Go Go.Sh
variable [Gd]
set_option maxRecDepth 100000
attribute [local irreducible] Go.wpQuiet Go.wpList Go.Sh.mixL Go.Sh.mixF Go.Sh.wpAnyE Go.Code.wp

/-- augur/augurref12.AddAlarms -/
def g_augurref12_AddAlarms (v0 v1 : Value) (h : Heap) (R : Value → Heap → Prop) : Prop :=
 loop2 v0 (.int .i64 0) h fun x0 x5 h next =>
  oLen Try.prog #[28] 3 v1 fun t9 =>
  oBin Try.prog .lss 3 (.tmp 7) (.tmp 9) x5 t9 fun t10 =>
  cond t10
  (join (fun (x0_1 : Value) (h_1 : Heap) =>
   oBin Try.prog .add 3 (.tmp 11) (.const (.int .i64 1)) x5 (.int .i64 1) fun t12 =>
   next x0_1 t12 h_1)
   fun k =>
   loop1 (.int .i64 0) h fun x6 h_2 next_1 =>
   oLen Try.prog #[28] 3 x0 fun t15 =>
   oBin Try.prog .lss 3 (.tmp 13) (.tmp 15) x6 t15 fun t16 =>
   join (fun (x54 : Value)  =>
    oPick Try.prog t16 x54 (.bool false) fun t55 =>
    cond t55
    (oBin Try.prog .add 3 (.tmp 56) (.const (.int .i64 1)) x6 (.int .i64 1) fun t57 =>
    next_1 t57 h_2)
    (oLen Try.prog #[28] 3 x0 fun t60 =>
    oBin Try.prog .eql 3 (.tmp 58) (.tmp 60) x6 t60 fun t61 =>
    join (fun (x71 : Value)  =>
     oPick Try.prog t61 (.bool true) x71 fun t72 =>
     cond t72
     (drawn h_2 fun D =>
     oSlice Try.prog 28 x0 none (some x6) (some x6) fun t76 =>
     oIdx Try.prog 28 v1 x5 fun t79 =>
     oLoad Try.prog 46 t79 D fun t80 =>
     oSlice Try.prog 28 x0 (some x6) none none fun t84 =>
     oBuildSlice Try.prog 28 1 #[(0, t80)] h_2 fun t81 h_3 => D h_3 ∧ 
     oAppend Try.prog #[28, 28] 28 #[t81, t84] h_3 fun t85 h_4 => D h_4 ∧ 
     oAppend Try.prog #[28, 28] 28 #[t76, t85] h_4 fun t86 h_5 => 
     k t86 h_5)
     (k x0 h_2))
     fun k_2 =>
    cond t61
     (k_2 undef)
     (oIdx Try.prog 28 x0 x6 fun t65 =>
     oLoad Try.prog 46 t65 (Eq h_2) fun t66 =>
     oIdx Try.prog 28 v1 x5 fun t69 =>
     oLoad Try.prog 46 t69 (Eq h_2) fun t70 =>
     oBin Try.prog .neq 46 (.tmp 66) (.tmp 70) t66 t70 fun t71 =>
     k_2 t71)))
    fun k_1 =>
   cond t16
    (oIdx Try.prog 28 x0 x6 fun t20 =>
    oFieldAddr Try.prog 46 t20 0 (Eq h_2) fun t21 =>
    oLoad Try.prog 3 t21 (Eq h_2) fun t22 =>
    oIdx Try.prog 28 v1 x5 fun t25 =>
    oFieldAddr Try.prog 46 t25 0 (Eq h_2) fun t26 =>
    oLoad Try.prog 3 t26 (Eq h_2) fun t27 =>
    oBin Try.prog .lss 3 (.tmp 22) (.tmp 27) t22 t27 fun t28 =>
    join (fun (x53 : Value)  =>
    oPick Try.prog t28 (.bool true) x53 fun t54 =>
    k_1 t54)
    fun k_3 =>
    cond t28
    (k_3 undef)
    (oIdx Try.prog 28 x0 x6 fun t32 =>
    oFieldAddr Try.prog 46 t32 0 (Eq h_2) fun t33 =>
    oLoad Try.prog 3 t33 (Eq h_2) fun t34 =>
    oIdx Try.prog 28 v1 x5 fun t37 =>
    oFieldAddr Try.prog 46 t37 0 (Eq h_2) fun t38 =>
    oLoad Try.prog 3 t38 (Eq h_2) fun t39 =>
    oBin Try.prog .eql 3 (.tmp 34) (.tmp 39) t34 t39 fun t40 =>
    join (fun (x52 : Value)  =>
     oPick Try.prog t40 x52 (.bool false) fun t53 =>
     k_3 t53)
     fun k_4 =>
    cond t40
     (oIdx Try.prog 28 x0 x6 fun t44 =>
     oFieldAddr Try.prog 46 t44 1 (Eq h_2) fun t45 =>
     oLoad Try.prog 3 t45 (Eq h_2) fun t46 =>
     oIdx Try.prog 28 v1 x5 fun t49 =>
     oFieldAddr Try.prog 46 t49 1 (Eq h_2) fun t50 =>
     oLoad Try.prog 3 t50 (Eq h_2) fun t51 =>
     oBin Try.prog .lss 3 (.tmp 46) (.tmp 51) t46 t51 fun t52 =>
     k_4 t52)
     (k_4 undef)))
    (k_1 undef))
  (R x0 h)

theorem sh_augurref12_AddAlarms {v0 v1 : Value} {h : Heap} {R : Value → Heap → Prop} (hg : g_augurref12_AddAlarms v0 v1 h R) : HC Try.prog 14 #[v0, v1] h R := hc_shal [(8, .mixo [0, 1, 2, 3, 4, 5, 6, 7, 9, 10, 11, 8, 12])] Try.func14 (by kernel_rfl) hg

set_option maxRecDepth 20000 in
set_option maxHeartbeats 4000000 in
theorem w_augurref12_AddAlarms {F : Vw} {h : Heap} {M : List HP} {a0 : List T_api_Alarm} {v : Value} {a1 : List T_api_Alarm} {v_1 : Value} {R : (List T_api_Alarm) → Prop} (s : Sf F h (M)) (r : RL e_api_Alarm F v a0) (r_1 : RL e_api_Alarm F v_1 a1) (hp : p_augurref12_AddAlarms a0 a1 R) :
  HC Try.prog 14 #[v, v_1] h fun u h' => ∃ (F' : Vw) (r_0 : List T_api_Alarm) (z0_0 : Value), Le F F' ∧ Sf F' h' (M) ∧ z0_0 = u ∧ RL e_api_Alarm F' z0_0 r_0 ∧ R r_0 := by
 refine sh_augurref12_AddAlarms ?_
 unfold g_augurref12_AddAlarms
 unfold p_augurref12_AddAlarms at hp
 have e0 := Le.refl F
 obtain ⟨I, m0, hI, hI_1⟩ := hp
 refine ⟨fun m w w_1 h_2 => ∃ (F_2 : Vw) (l_1 : List T_api_Alarm) (x_1 : Int) (v_3 : Value), Le F F_2 ∧ Sf F_2 h_2 (M) ∧ v_3 = w ∧ (.int .i64 x_1) = w_1 ∧ RL e_api_Alarm F_2 v_3 l_1 ∧ I m l_1 x_1, m0, ⟨F, a0, 0, v, Le.refl _, s, rfl, rfl, r, hI⟩, ?_⟩
 clear hI
 rintro m w w_1 h_2 ⟨F_2, l_1, x_1, v_3, g, s, rfl, rfl, r_3, hi⟩
 have hp := hI_1 m l_1 x_1 hi
 replace r_1 := r_1.le g
 replace e0 := Le.trans e0 g
 have eL := g
 refine (oLen_sl r_1.1).2 ?_
 refine oBin_lss.2 ?_
 by_cases hc : x_1 < (List.length a1 : Int)
 ·refine (cond_pos hc).2 ?_
  replace hp := (Pl.ite_pos hc).1 hp
  obtain ⟨kp, hk_1, hp⟩ := Pl.join_elim hp
  have ej := Le.refl F_2
  refine Sh.join_intro fun k hk => ?_
  have hK : ∀ (F_4 : Vw) (h_3 : Heap) (l_2 : List T_api_Alarm) (v_4 : Value), Le F_2 F_4 → Sf F_4 h_3 (M) → RL e_api_Alarm F_4 v_4 l_2 → kp l_2 → k v_4 h_3 := by
   intro F_4 h_3 l_2 v_4 g_1 s r_4 hp
   rw [hk]
   rw [hk_1] at hp
   replace e0 := Le.trans e0 g_1
   replace eL := Le.trans eL g_1
   replace ej := Le.trans ej g_1
   refine oBin_add.2 ?_
   obtain ⟨m_1, hm, hi_1⟩ := hp
   exact ⟨m_1, hm, F_4, l_2, IntKind.wrap .i64 (x_1 + 1), v_4, eL, s, rfl, rfl, r_4, hi_1⟩
  clear hk hk_1
  obtain ⟨I_1, m0_1, hI_2, hI_3⟩ := hp
  refine ⟨fun m_2 w_2 h_5 => ∃ (F_6 : Vw) (x_3 : Int) , Le F_2 F_6 ∧ Sf F_6 h_5 (M) ∧ (.int .i64 x_3) = w_2 ∧ I_1 m_2 x_3, m0_1, ⟨F_2, 0, Le.refl _, s, rfl, hI_2⟩, ?_⟩
  clear hI_2
  rintro m_2 w_2 h_5 ⟨F_6, x_3, g_2, s, rfl, hi_2⟩
  have hp := hI_3 m_2 x_3 hi_2
  replace r_1 := r_1.le g_2
  replace r_3 := r_3.le g_2
  replace e0 := Le.trans e0 g_2
  replace eL := Le.trans eL g_2
  replace ej := Le.trans ej g_2
  have eL_1 := g_2
  refine (oLen_sl r_3.1).2 ?_
  refine oBin_lss.2 ?_
  obtain ⟨kp_1, hk_3, hp⟩ := Pl.join_elim hp
  refine Sh.join_intro fun k_1 hk_2 => ?_
  have hK_1 : ∀ (x_4 : Bool) (w_3 : Value), (∀ K : Value → Prop, K (.bool x_4) → oPick Try.prog (.bool (decide (x_3 < (List.length l_1 : Int)))) w_3 (.bool false) K) → kp_1 x_4 → k_1 w_3 := by
   intro x_4 w_3 hw hp
   rw [hk_2]
   rw [hk_3] at hp
   refine hw _ ?_
   by_cases hc_1 : x_4 = true
   ·refine (cond_tt hc_1).2 ?_
    replace hp := (Pl.ite_pos hc_1).1 hp
    refine oBin_add.2 ?_
    obtain ⟨m_3, hm_1, hi_3⟩ := hp
    exact ⟨m_3, hm_1, F_6, IntKind.wrap .i64 (x_3 + 1), eL_1, s, rfl, hi_3⟩
   ·refine (cond_ff hc_1).2 ?_
    replace hp := (Pl.ite_neg hc_1).1 hp
    refine (oLen_sl r_3.1).2 ?_
    refine oBin_eql.2 ?_
    obtain ⟨kp_2, hk_5, hp⟩ := Pl.join_elim hp
    refine Sh.join_intro fun k_2 hk_4 => ?_
    have hK_2 : ∀ (x_5 : Bool) (w_4 : Value), (∀ K : Value → Prop, K (.bool x_5) → oPick Try.prog (.bool (decide (x_3 = (List.length l_1 : Int)))) (.bool true) w_4 K) → kp_2 x_5 → k_2 w_4 := by
     intro x_5 w_4 hw_1 hp
     rw [hk_4]
     rw [hk_5] at hp
     refine hw_1 _ ?_
     by_cases hc_2 : x_5 = true
     ·refine (cond_tt hc_2).2 ?_
      replace hp := (Pl.ite_pos hc_2).1 hp
      refine ⟨fun h' => Sf F_6 h' (M), s, ?_⟩
      have ed := Le.refl F_6
      obtain ⟨hz, hz_1, hz_2, l_3, hr, hp⟩ := hp
      refine tCutM rfl r_3 hz hz_1 hz_2 hr (.inl ⟨rfl, rfl⟩) fun v_5 r_5 hcap => ?_
      obtain ⟨hz_3, a, hi_4, hp⟩ := hp
      refine tPlF rfl r_1 hz_3 hi_4 fun q c hc_3 rv => ?_
      obtain rfl : c = [(.int .i64 a.At), (.int .i64 a.Kind)] := hc_3
      refine tLdA (a := q) (cs := [(.int .i64 a.At), (.int .i64 a.Kind)]) (ds := [(.int .i64 a.At), (.int .i64 a.Kind)]) (j := 0) (padd_zero _).symm (rvD rv) (Nat.le_of_ble_eq_true rfl) rfl ?_
      obtain ⟨hz_4, hz_5, hz_6, l_4, hr_1, hp⟩ := hp
      refine tCutL rfl r_3 hz_4 hz_5 hz_6 hr_1 (.inr ⟨_, rfl⟩) (.inl ⟨rfl, rfl⟩) fun v_6 r_6 => ?_
      refine tBuildN s (e := e_api_Alarm) (l := [a]) [(.agg #[(.int .i64 a.At), (.int .i64 a.Kind)])] rfl ⟨rfl, trivial⟩ rfl rfl rfl (Nat.le_of_ble_eq_true rfl) fun v_7 h_6 cs hc_4 s => ?_
      refine ⟨Sf.dropAt 0 rfl s, ?_⟩
      obtain ⟨hb, l_5, hl, hp⟩ := hp
      refine tApp 0 rfl s hc_4 rfl rfl (by decide) (Sf.rlE s r_6) hb hl fun v_8 h_7 cs_1 hc_5 s => ?_
      refine ⟨Sf.dropAt 0 rfl s, ?_⟩
      obtain ⟨hm_2, hb_1, l_6, hl_1, hp⟩ := hp
      refine tAppCap s r_5 hcap rfl rfl (by decide) (Sf.roE 0 rfl s hc_5) hm_2 hb_1 hl_1 fun v_9 h_8 cs_2 hc_6 s => ?_
      obtain ⟨F_8, g_3, s, r_7⟩ := Sf.freezeRL 0 rfl s rfl hc_6
      replace hc_5 := CL.le g_3 hc_5
      replace e0 := Le.trans e0 g_3
      replace eL := Le.trans eL g_3
      replace ej := Le.trans ej g_3
      replace eL_1 := Le.trans eL_1 g_3
      replace ed := Le.trans ed g_3
      replace s := Sf.dropAt 0 rfl s
      exact hK _ _ l_6 v_9 ej s r_7 hp
     ·refine (cond_ff hc_2).2 ?_
      replace hp := (Pl.ite_neg hc_2).1 hp
      exact hK _ _ l_1 v_3 ej s r_3 hp
    clear hk_4 hk_5
    by_cases hc_7 : x_3 = (List.length l_1 : Int)
    ·refine (cond_pos hc_7).2 ?_
     replace hp := (Pl.ite_pos hc_7).1 hp
     exact hK_2 true _ (fun _ h => oPick_dc hc_7 h) hp
    ·refine (cond_neg hc_7).2 ?_
     replace hp := (Pl.ite_neg hc_7).1 hp
     obtain ⟨hz_7, a_1, hi_5, hp⟩ := hp
     refine tPlF rfl r_3 hz_7 hi_5 fun q_1 c_1 hc_8 rv_1 => ?_
     obtain rfl : c_1 = [(.int .i64 a_1.At), (.int .i64 a_1.Kind)] := hc_8
     refine tLdA (a := q_1) (cs := [(.int .i64 a_1.At), (.int .i64 a_1.Kind)]) (ds := [(.int .i64 a_1.At), (.int .i64 a_1.Kind)]) (j := 0) (padd_zero _).symm (Sf.rvE s rv_1) (Nat.le_of_ble_eq_true rfl) rfl ?_
     obtain ⟨hz_8, a_2, hi_6, hp⟩ := hp
     refine tPlF rfl r_1 hz_8 hi_6 fun q_2 c_2 hc_9 rv_2 => ?_
     obtain rfl : c_2 = [(.int .i64 a_2.At), (.int .i64 a_2.Kind)] := hc_9
     refine tLdA (a := q_2) (cs := [(.int .i64 a_2.At), (.int .i64 a_2.Kind)]) (ds := [(.int .i64 a_2.At), (.int .i64 a_2.Kind)]) (j := 0) (padd_zero _).symm (Sf.rvE s rv_2) (Nat.le_of_ble_eq_true rfl) rfl ?_
     refine (q_api_Alarm_neq (a := a_1) (b := a_2)).2 ?_
     exact hK_2 (decide (a_1 ≠ a_2)) _ (fun _ h => oPick_dn hc_7 h) hp
  clear hk_2 hk_3
  by_cases hc_10 : x_3 < (List.length l_1 : Int)
  ·refine (cond_pos hc_10).2 ?_
   replace hp := (Pl.ite_pos hc_10).1 hp
   obtain ⟨hz_9, a_3, hi_7, hp⟩ := hp
   refine tPlF rfl r_3 hz_9 hi_7 fun q_3 c_3 hc_11 rv_3 => ?_
   obtain rfl : c_3 = [(.int .i64 a_3.At), (.int .i64 a_3.Kind)] := hc_11
   refine tFA (a := q_3) (n := 0) (padd_zero _).symm (padd_zero _) ?_
   refine tLd (p := .pointer (some q_3)) (cs := [(.int .i64 a_3.At), (.int .i64 a_3.Kind)]) (j := 0) (padd_zero _).symm (Sf.rvE s rv_3) rfl ?_
   obtain ⟨hz_10, a_4, hi_8, hp⟩ := hp
   refine tPlF rfl r_1 hz_10 hi_8 fun q_4 c_4 hc_12 rv_4 => ?_
   obtain rfl : c_4 = [(.int .i64 a_4.At), (.int .i64 a_4.Kind)] := hc_12
   refine tFA (a := q_4) (n := 0) (padd_zero _).symm (padd_zero _) ?_
   refine tLd (p := .pointer (some q_4)) (cs := [(.int .i64 a_4.At), (.int .i64 a_4.Kind)]) (j := 0) (padd_zero _).symm (Sf.rvE s rv_4) rfl ?_
   refine oBin_lss.2 ?_
   obtain ⟨kp_3, hk_7, hp⟩ := Pl.join_elim hp
   refine Sh.join_intro fun k_3 hk_6 => ?_
   have hK_3 : ∀ (x_6 : Bool) (w_5 : Value), (∀ K : Value → Prop, K (.bool x_6) → oPick Try.prog (.bool (decide (a_3.At < a_4.At))) (.bool true) w_5 K) → kp_3 x_6 → k_3 w_5 := by
    intro x_6 w_5 hw_2 hp
    rw [hk_6]
    rw [hk_7] at hp
    refine hw_2 _ ?_
    exact hK_1 x_6 _ (fun _ h => oPick_dc hc_10 h) hp
   clear hk_6 hk_7
   by_cases hc_13 : a_3.At < a_4.At
   ·refine (cond_pos hc_13).2 ?_
    replace hp := (Pl.ite_pos hc_13).1 hp
    exact hK_3 true _ (fun _ h => oPick_dc hc_13 h) hp
   ·refine (cond_neg hc_13).2 ?_
    replace hp := (Pl.ite_neg hc_13).1 hp
    obtain ⟨hz_11, a_5, hi_9, hp⟩ := hp
    refine tPlF rfl r_3 hz_11 hi_9 fun q_5 c_5 hc_14 rv_5 => ?_
    obtain rfl : c_5 = [(.int .i64 a_5.At), (.int .i64 a_5.Kind)] := hc_14
    refine tFA (a := q_5) (n := 0) (padd_zero _).symm (padd_zero _) ?_
    refine tLd (p := .pointer (some q_5)) (cs := [(.int .i64 a_5.At), (.int .i64 a_5.Kind)]) (j := 0) (padd_zero _).symm (Sf.rvE s rv_5) rfl ?_
    obtain ⟨hz_12, a_6, hi_10, hp⟩ := hp
    refine tPlF rfl r_1 hz_12 hi_10 fun q_6 c_6 hc_15 rv_6 => ?_
    obtain rfl : c_6 = [(.int .i64 a_6.At), (.int .i64 a_6.Kind)] := hc_15
    refine tFA (a := q_6) (n := 0) (padd_zero _).symm (padd_zero _) ?_
    refine tLd (p := .pointer (some q_6)) (cs := [(.int .i64 a_6.At), (.int .i64 a_6.Kind)]) (j := 0) (padd_zero _).symm (Sf.rvE s rv_6) rfl ?_
    refine oBin_eql.2 ?_
    obtain ⟨kp_4, hk_9, hp⟩ := Pl.join_elim hp
    refine Sh.join_intro fun k_4 hk_8 => ?_
    have hK_4 : ∀ (x_7 : Bool) (w_6 : Value), (∀ K : Value → Prop, K (.bool x_7) → oPick Try.prog (.bool (decide (a_5.At = a_6.At))) w_6 (.bool false) K) → kp_4 x_7 → k_4 w_6 := by
     intro x_7 w_6 hw_3 hp
     rw [hk_8]
     rw [hk_9] at hp
     refine hw_3 _ ?_
     exact hK_3 x_7 _ (fun _ h => oPick_dn hc_13 h) hp
    clear hk_8 hk_9
    by_cases hc_16 : a_5.At = a_6.At
    ·refine (cond_pos hc_16).2 ?_
     replace hp := (Pl.ite_pos hc_16).1 hp
     obtain ⟨hz_13, a_7, hi_11, hp⟩ := hp
     refine tPlF rfl r_3 hz_13 hi_11 fun q_7 c_7 hc_17 rv_7 => ?_
     obtain rfl : c_7 = [(.int .i64 a_7.At), (.int .i64 a_7.Kind)] := hc_17
     refine tFA (a := q_7) (n := 0) (padd_zero _).symm rfl ?_
     refine tLd (p := .pointer (some q_7)) (cs := [(.int .i64 a_7.At), (.int .i64 a_7.Kind)]) (j := 1) rfl (Sf.rvE s rv_7) rfl ?_
     obtain ⟨hz_14, a_8, hi_12, hp⟩ := hp
     refine tPlF rfl r_1 hz_14 hi_12 fun q_8 c_8 hc_18 rv_8 => ?_
     obtain rfl : c_8 = [(.int .i64 a_8.At), (.int .i64 a_8.Kind)] := hc_18
     refine tFA (a := q_8) (n := 0) (padd_zero _).symm rfl ?_
     refine tLd (p := .pointer (some q_8)) (cs := [(.int .i64 a_8.At), (.int .i64 a_8.Kind)]) (j := 1) rfl (Sf.rvE s rv_8) rfl ?_
     refine oBin_lss.2 ?_
     exact hK_4 (decide (a_7.Kind < a_8.Kind)) _ (fun _ h => oPick_dc hc_16 h) hp
    ·refine (cond_neg hc_16).2 ?_
     replace hp := (Pl.ite_neg hc_16).1 hp
     exact hK_4 false _ (fun _ h => oPick_dn hc_16 h) hp
  ·refine (cond_neg hc_10).2 ?_
   replace hp := (Pl.ite_neg hc_10).1 hp
   exact hK_1 false _ (fun _ h => oPick_dn hc_10 h) hp
 ·refine (cond_neg hc).2 ?_
  replace hp := (Pl.ite_neg hc).1 hp
  exact ⟨F_2, l_1, v_3, e0, s, rfl, r_3, hp⟩

/-- augur/augurlaw19.made -/
def g_augurlaw19_made (v0 : Value) (h : Heap) (R : Value → Heap → Prop) : Prop :=
 oBox Try.prog 25 v0 h fun t1 h => 
 oAlloc Try.prog 33 h fun t2 h_1 => 
 oAlloc Try.prog 33 h_1 fun t3 h_2 => 
 loop1 (.int .i64 0) h_2 fun x4 h_3 next =>
  oFieldAddr Try.prog 25 t1 0 (Eq h_3) fun t9 =>
  oLoad Try.prog 22 t9 (Eq h_3) fun t10 =>
  oLen Try.prog #[22] 3 t10 fun t11 =>
  oBin Try.prog .lss 3 (.tmp 8) (.tmp 11) x4 t11 fun t12 =>
  cond t12
  (drawn h_3 fun D =>
  oFieldAddr Try.prog 33 t3 0 D fun t15 =>
  oLoad Try.prog 28 t15 D fun t16 =>
  oFieldAddr Try.prog 25 t1 0 D fun t17 =>
  oLoad Try.prog 22 t17 D fun t18 =>
  oIdx Try.prog 22 t18 x4 fun t20 =>
  oLoad Try.prog 5 t20 D fun t21 =>
  oBin Try.prog .quo 5 (.tmp 21) (.const (.int .u8 6)) t21 (.int .u8 6) fun t22 =>
  oConv Try.prog 5 3 t22 fun t23 =>
  oFieldAddr Try.prog 25 t1 0 D fun t24 =>
  oLoad Try.prog 22 t24 D fun t25 =>
  oIdx Try.prog 22 t25 x4 fun t27 =>
  oLoad Try.prog 5 t27 D fun t28 =>
  oBin Try.prog .rem 5 (.tmp 28) (.const (.int .u8 6)) t28 (.int .u8 6) fun t29 =>
  oConv Try.prog 5 3 t29 fun t30 =>
  oBuild Try.prog 46 #[(0, t23), (1, t30)] fun t31 =>
  oBuildSlice Try.prog 28 1 #[(0, t31)] h_3 fun t32 h_4 => D h_4 ∧ 
  oCall Try.prog (.func (.func 14) #[] #[]) #[t16, t32] h_4 fun t33 h_5 => 
  oFieldAddr Try.prog 33 t3 0 (Eq h_5) fun t34 =>
  oStore Try.prog 28 t34 t33 h_5 fun _ h_6 => 
  oBin Try.prog .add 3 (.tmp 13) (.const (.int .i64 1)) x4 (.int .i64 1) fun t14 =>
  next t14 h_6)
  (oFieldAddr Try.prog 25 t1 1 (Eq h_3) fun t35 =>
  oLoad Try.prog 4 t35 (Eq h_3) fun t36 =>
  oUn Try.prog .not t36 fun t37 =>
  cond t37
   (oLoad Try.prog 33 t3 (Eq h_3) fun t38 =>
   oStore Try.prog 33 t2 t38 h_3 fun _ h_7 => 
   oRes Try.prog [(some 33, t2)] h_7 R)
   (oFieldAddr Try.prog 25 t1 2 (Eq h_3) fun t39 =>
   oLoad Try.prog 2 t39 (Eq h_3) fun t40 =>
   oFieldAddr Try.prog 25 t1 3 (Eq h_3) fun t41 =>
   oLoad Try.prog 2 t41 (Eq h_3) fun t42 =>
   oMin Try.prog #[2, 2] 2 #[t40, t42] fun t43 =>
   oFieldAddr Try.prog 25 t1 2 (Eq h_3) fun t44 =>
   oLoad Try.prog 2 t44 (Eq h_3) fun t45 =>
   oFieldAddr Try.prog 25 t1 3 (Eq h_3) fun t46 =>
   oLoad Try.prog 2 t46 (Eq h_3) fun t47 =>
   oMax Try.prog #[2, 2] 2 #[t45, t47] fun t48 =>
   oCall Try.prog (.func (.func 15) #[] #[]) #[t43, t48] h_3 fun t49 h_8 => 
   oFieldAddr Try.prog 33 t3 1 (Eq h_8) fun t50 =>
   oStore Try.prog 4 t50 (.bool true) h_8 fun _ h_9 => 
   oFieldAddr Try.prog 33 t3 2 (Eq h_9) fun t51 =>
   oStore Try.prog 30 t51 t49 h_9 fun _ h_10 => 
   loop2 (.slice none 0 0) (.int .i64 0) h_10 fun x5 x6 h_11 next_1 =>
   oFieldAddr Try.prog 25 t1 4 (Eq h_11) fun t53 =>
   oLoad Try.prog 23 t53 (Eq h_11) fun t54 =>
   oLen Try.prog #[23] 3 t54 fun t55 =>
   oBin Try.prog .lss 3 (.tmp 52) (.tmp 55) x6 t55 fun t56 =>
   cond t56
    (drawn h_11 fun D_1 =>
    oFieldAddr Try.prog 25 t1 4 D_1 fun t60 =>
    oLoad Try.prog 23 t60 D_1 fun t61 =>
    oIdx Try.prog 23 t61 x6 fun t63 =>
    oFieldAddr Try.prog 51 t63 0 D_1 fun t64 =>
    oLoad Try.prog 5 t64 D_1 fun t65 =>
    oBin Try.prog .rem 5 (.tmp 65) (.const (.int .u8 4)) t65 (.int .u8 4) fun t66 =>
    oFieldAddr Try.prog 25 t1 4 D_1 fun t67 =>
    oLoad Try.prog 23 t67 D_1 fun t68 =>
    oIdx Try.prog 23 t68 x6 fun t70 =>
    oFieldAddr Try.prog 51 t70 0 D_1 fun t71 =>
    oLoad Try.prog 5 t71 D_1 fun t72 =>
    oBin Try.prog .rem 5 (.tmp 72) (.const (.int .u8 4)) t72 (.int .u8 4) fun t73 =>
    oBin Try.prog .add 5 (.tmp 73) (.const (.int .u8 1)) t73 (.int .u8 1) fun t74 =>
    oSlice Try.prog 9 (.string ⟨#[97, 98, 99, 100]⟩) (some t66) (some t74) none fun t75 =>
    oCall Try.prog (.func (.func 16) #[] #[]) #[x5, t75] h_11 fun t76 h_12 => 
    oBin Try.prog .add 3 (.tmp 57) (.const (.int .i64 1)) x6 (.int .i64 1) fun t58 =>
    next_1 t76 t58 h_12)
    (loop1 (.int .i64 0) h_11 fun x7 h_13 next_2 =>
    oLen Try.prog #[48] 3 x5 fun t79 =>
    oBin Try.prog .lss 3 (.tmp 77) (.tmp 79) x7 t79 fun t80 =>
    cond t80
     (drawn h_13 fun D_2 =>
     oFieldAddr Try.prog 33 t3 3 D_2 fun t83 =>
     oLoad Try.prog 31 t83 D_2 fun t84 =>
     oIdx Try.prog 48 x5 x7 fun t87 =>
     oLoad Try.prog 9 t87 D_2 fun t88 =>
     oFieldAddr Try.prog 25 t1 4 D_2 fun t89 =>
     oLoad Try.prog 23 t89 D_2 fun t90 =>
     oIdx Try.prog 23 t90 x7 fun t92 =>
     oFieldAddr Try.prog 51 t92 1 D_2 fun t93 =>
     oLoad Try.prog 2 t93 D_2 fun t94 =>
     oFieldAddr Try.prog 25 t1 4 D_2 fun t95 =>
     oLoad Try.prog 23 t95 D_2 fun t96 =>
     oIdx Try.prog 23 t96 x7 fun t98 =>
     oFieldAddr Try.prog 51 t98 2 D_2 fun t99 =>
     oLoad Try.prog 2 t99 D_2 fun t100 =>
     oMin Try.prog #[2, 2] 2 #[t94, t100] fun t101 =>
     oFieldAddr Try.prog 25 t1 4 D_2 fun t102 =>
     oLoad Try.prog 23 t102 D_2 fun t103 =>
     oIdx Try.prog 23 t103 x7 fun t105 =>
     oFieldAddr Try.prog 51 t105 1 D_2 fun t106 =>
     oLoad Try.prog 2 t106 D_2 fun t107 =>
     oFieldAddr Try.prog 25 t1 4 D_2 fun t108 =>
     oLoad Try.prog 23 t108 D_2 fun t109 =>
     oIdx Try.prog 23 t109 x7 fun t111 =>
     oFieldAddr Try.prog 51 t111 2 D_2 fun t112 =>
     oLoad Try.prog 2 t112 D_2 fun t113 =>
     oMax Try.prog #[2, 2] 2 #[t107, t113] fun t114 =>
     oCall Try.prog (.func (.func 15) #[] #[]) #[t101, t114] h_13 fun t115 h_14 => D_2 h_14 ∧ 
     oBuild Try.prog 53 #[(0, t88), (1, t115)] fun t116 =>
     oBuildSlice Try.prog 31 1 #[(0, t116)] h_14 fun t117 h_15 => D_2 h_15 ∧ 
     oAppend Try.prog #[31, 31] 31 #[t84, t117] h_15 fun t118 h_16 => 
     oFieldAddr Try.prog 33 t3 3 (Eq h_16) fun t119 =>
     oStore Try.prog 31 t119 t118 h_16 fun _ h_17 => 
     oBin Try.prog .add 3 (.tmp 81) (.const (.int .i64 1)) x7 (.int .i64 1) fun t82 =>
     next_2 t82 h_17)
     (oLoad Try.prog 33 t3 (Eq h_13) fun t120 =>
     oStore Try.prog 33 t2 t120 h_13 fun _ h_18 => 
     oRes Try.prog [(some 33, t2)] h_18 R))))

theorem sh_augurlaw19_made {v0 : Value} {h : Heap} {R : Value → Heap → Prop} (hg : g_augurlaw19_made v0 h R) : HC Try.prog 6 #[v0] h R := hc_shal [(5, .mix 18), (13, .mix 17), (17, .mix 35)] Try.func6 (by kernel_rfl) hg

set_option maxRecDepth 20000 in
set_option maxHeartbeats 4000000 in
theorem w_augurlaw19_made {F : Vw} {h : Heap} {M : List HP} {a0 : T_augurlaw19_Raw} {v : Value} {v_1 : Value} {R : T_api_Summary → Prop} (s : Sf F h (M)) (r : RL (eI .u8) F v a0.Alarms) (r_1 : RL e_augurlaw19_Cell F v_1 a0.Mod) (hp : p_augurlaw19_made a0 R) :
  HC Try.prog 6 #[(.agg #[v, (.bool a0.Ends), (.int .i64 a0.Lo), (.int .i64 a0.Hi), v_1])] h fun u h' => ∃ (F' : Vw) (r_0 : T_api_Summary) (z0_0 : Value) (z0_5 : Value), Le F F' ∧ Sf F' h' (M) ∧ (.agg #[z0_0, (.bool r_0.Ends), (.bool r_0.Ret.Some), (.int .i64 r_0.Ret.Lo), (.int .i64 r_0.Ret.Hi), z0_5]) = u ∧ RL e_api_Alarm F' z0_0 r_0.Alarms ∧ RL e_api_Named F' z0_5 r_0.Mod ∧ R r_0 := by
 refine sh_augurlaw19_made ?_
 unfold g_augurlaw19_made
 unfold p_augurlaw19_made at hp
 have e0 := Le.refl F
 refine tBx s (vs := [v, (.bool a0.Ends), (.int .i64 a0.Lo), (.int .i64 a0.Hi), v_1]) (by rfl) fun p h_1 s => ?_
 refine tAl s (vs := [(.slice none 0 0), (.bool false), (.bool false), (.int .i64 0), (.int .i64 0), (.slice none 0 0)]) (by rfl) fun p_1 h_2 s => ?_
 refine tAl s (vs := [(.slice none 0 0), (.bool false), (.bool false), (.int .i64 0), (.int .i64 0), (.slice none 0 0)]) (by rfl) fun p_2 h_3 s => ?_
 obtain ⟨I, m0, hI, hI_1⟩ := hp
 refine ⟨fun m w h_6 => ∃ (F_3 : Vw) (x_2 : Int) (l_1 : List T_api_Alarm) (v_3 : Value), Le F F_3 ∧ Sf F_3 h_6 (Ce (Cx.new p_2) [v_3, (.bool false), (.bool false), (.int .i64 0), (.int .i64 0), (.slice none 0 0)] :: Ce (Cx.new p_1) [(.slice none 0 0), (.bool false), (.bool false), (.int .i64 0), (.int .i64 0), (.slice none 0 0)] :: Ce (Cx.new p) [v, (.bool a0.Ends), (.int .i64 a0.Lo), (.int .i64 a0.Hi), v_1] :: M) ∧ (.int .i64 x_2) = w ∧ RL e_api_Alarm F_3 v_3 l_1 ∧ I m x_2 l_1, m0, ⟨F, 0, ([] : List T_api_Alarm), (.slice none 0 0), Le.refl _, s, rfl, (RL.nil _ _ 0), hI⟩, ?_⟩
 clear hI
 rintro m w h_6 ⟨F_3, x_2, l_1, v_3, g, s, rfl, r_3, hi⟩
 have hp := hI_1 m x_2 l_1 hi
 replace r := r.le g
 replace r_1 := r_1.le g
 replace e0 := Le.trans e0 g
 have eL := g
 refine tFA (a := p) (n := 0) (padd_zero _).symm (padd_zero _) ?_
 refine tLd (p := .pointer (some p)) (cs := [v, (.bool a0.Ends), (.int .i64 a0.Lo), (.int .i64 a0.Hi), v_1]) (j := 0) (padd_zero _).symm (Sf.ceE (Cx.new_at p) 2 rfl s) rfl ?_
 refine (oLen_sl r.1).2 ?_
 refine oBin_lss.2 ?_
 by_cases hc : x_2 < (List.length a0.Alarms : Int)
 ·refine (cond_pos hc).2 ?_
  replace hp := (Pl.ite_pos hc).1 hp
  refine ⟨fun h' => Sf F_3 h' (Ce (Cx.new p_2) [v_3, (.bool false), (.bool false), (.int .i64 0), (.int .i64 0), (.slice none 0 0)] :: Ce (Cx.new p_1) [(.slice none 0 0), (.bool false), (.bool false), (.int .i64 0), (.int .i64 0), (.slice none 0 0)] :: Ce (Cx.new p) [v, (.bool a0.Ends), (.int .i64 a0.Lo), (.int .i64 a0.Hi), v_1] :: M), s, ?_⟩
  have ed := Le.refl F_3
  refine tFA (a := p_2) (n := 0) (padd_zero _).symm (padd_zero _) ?_
  refine tLd (p := .pointer (some p_2)) (cs := [v_3, (.bool false), (.bool false), (.int .i64 0), (.int .i64 0), (.slice none 0 0)]) (j := 0) (padd_zero _).symm (Sf.ceD (Cx.new_at p_2) 0 rfl) rfl ?_
  refine tFA (a := p) (n := 0) (padd_zero _).symm (padd_zero _) ?_
  refine tLd (p := .pointer (some p)) (cs := [v, (.bool a0.Ends), (.int .i64 a0.Lo), (.int .i64 a0.Hi), v_1]) (j := 0) (padd_zero _).symm (Sf.ceD (Cx.new_at p) 2 rfl) rfl ?_
  obtain ⟨hz, a, hi_1, hp⟩ := hp
  refine tPlF rfl r hz hi_1 fun q c hc_1 rv => ?_
  obtain rfl : c = [(.int .u8 a)] := hc_1
  refine tLd (p := .pointer (some q)) (cs := [(.int .u8 a)]) (j := 0) (padd_zero _).symm (rvD rv) rfl ?_
  obtain ⟨hz_1, hp⟩ := hp
  refine (oBin_quo hz_1).2 ?_
  refine oConv_int.2 ?_
  refine tFA (a := p) (n := 0) (padd_zero _).symm (padd_zero _) ?_
  refine tLd (p := .pointer (some p)) (cs := [v, (.bool a0.Ends), (.int .i64 a0.Lo), (.int .i64 a0.Hi), v_1]) (j := 0) (padd_zero _).symm (Sf.ceD (Cx.new_at p) 2 rfl) rfl ?_
  obtain ⟨hz_2, a_1, hi_2, hp⟩ := hp
  refine tPlF rfl r hz_2 hi_2 fun q_1 c_1 hc_2 rv_1 => ?_
  obtain rfl : c_1 = [(.int .u8 a_1)] := hc_2
  refine tLd (p := .pointer (some q_1)) (cs := [(.int .u8 a_1)]) (j := 0) (padd_zero _).symm (rvD rv_1) rfl ?_
  obtain ⟨hz_3, hp⟩ := hp
  refine (oBin_rem hz_3).2 ?_
  refine oConv_int.2 ?_
  refine oBuild_own (cells := #[(.int .i64 (IntKind.wrap .i64 (IntKind.wrap .u8 (Int.tdiv a 6)))), (.int .i64 (IntKind.wrap .i64 (Int.tmod a_1 6)))]) rfl ?_
  refine tBuildN s (e := e_api_Alarm) (l := [(⟨IntKind.wrap .i64 (IntKind.wrap .u8 (Int.tdiv a 6)), IntKind.wrap .i64 (Int.tmod a_1 6)⟩ : T_api_Alarm)]) [(.agg #[(.int .i64 (IntKind.wrap .i64 (IntKind.wrap .u8 (Int.tdiv a 6)))), (.int .i64 (IntKind.wrap .i64 (Int.tmod a_1 6)))])] rfl ⟨rfl, trivial⟩ rfl rfl rfl (Nat.le_of_ble_eq_true rfl) fun v_4 h_7 cs hc_3 s => ?_
  refine ⟨Sf.dropAt 0 rfl s, ?_⟩
  obtain ⟨F_5, g_1, s, r_4⟩ := Sf.freezeRL 0 rfl s rfl hc_3
  have r_3_D := r_3
  replace r_3 := r_3.le g_1
  have r_D := r
  replace r := r.le g_1
  have r_1_D := r_1
  replace r_1 := r_1.le g_1
  replace e0 := Le.trans e0 g_1
  replace eL := Le.trans eL g_1
  replace ed := Le.trans ed g_1
  refine oCall_func (HC.mono (w_augurref12_AddAlarms (a0 := l_1) (a1 := [(⟨IntKind.wrap .i64 (IntKind.wrap .u8 (Int.tdiv a 6)), IntKind.wrap .i64 (Int.tmod a_1 6)⟩ : T_api_Alarm)]) s r_3 r_4 hp) ?_)
  rintro u h_8 ⟨F_6, r_5, v_5, g_2, s, rfl, r_6, hp⟩
  replace r_3 := r_3.le g_2
  replace r_4 := r_4.le g_2
  replace r := r.le g_2
  replace r_1 := r_1.le g_2
  replace e0 := Le.trans e0 g_2
  replace eL := Le.trans eL g_2
  replace ed := Le.trans ed g_2
  refine tFA (a := p_2) (n := 0) (padd_zero _).symm (padd_zero _) ?_
  refine tSt (cs := [v_3, (.bool false), (.bool false), (.int .i64 0), (.int .i64 0), (.slice none 0 0)]) (vs := [v_5]) (cs' := [v_5, (.bool false), (.bool false), (.int .i64 0), (.int .i64 0), (.slice none 0 0)]) (j := 0) 0 rfl s (Cx.new_at p_2) (padd_zero _).symm (by rw [r_6.1.cells]) rfl (Nat.le_of_ble_eq_true rfl) (ones_cons r_6.1.one ones_nil) rfl fun h_9 s => ?_
  refine oBin_add.2 ?_
  obtain ⟨m_1, hm, hi_3⟩ := hp
  exact ⟨m_1, hm, F_6, IntKind.wrap .i64 (x_2 + 1), r_5, v_5, eL, s, rfl, r_6, hi_3⟩
 ·refine (cond_neg hc).2 ?_
  replace hp := (Pl.ite_neg hc).1 hp
  refine tFA (a := p) (n := 0) (padd_zero _).symm rfl ?_
  refine tLd (p := .pointer (some p)) (cs := [v, (.bool a0.Ends), (.int .i64 a0.Lo), (.int .i64 a0.Hi), v_1]) (j := 1) rfl (Sf.ceE (Cx.new_at p) 2 rfl s) rfl ?_
  refine oUn_not.2 ?_
  by_cases hc_4 : (!a0.Ends) = true
  ·refine (cond_tt hc_4).2 ?_
   replace hp := (Pl.ite_pos hc_4).1 hp
   refine tLdA (a := p_2) (cs := [v_3, (.bool false), (.bool false), (.int .i64 0), (.int .i64 0), (.slice none 0 0)]) (ds := [v_3, (.bool false), (.bool false), (.int .i64 0), (.int .i64 0), (.slice none 0 0)]) (j := 0) (padd_zero _).symm (Sf.ceE (Cx.new_at p_2) 0 rfl s) (Nat.le_of_ble_eq_true rfl) rfl ?_
   refine tSt (cs := [(.slice none 0 0), (.bool false), (.bool false), (.int .i64 0), (.int .i64 0), (.slice none 0 0)]) (vs := [v_3, (.bool false), (.bool false), (.int .i64 0), (.int .i64 0), (.slice none 0 0)]) (cs' := [v_3, (.bool false), (.bool false), (.int .i64 0), (.int .i64 0), (.slice none 0 0)]) (j := 0) 1 rfl s (Cx.new_at p_1) (padd_zero _).symm (by rfl) rfl (Nat.le_of_ble_eq_true rfl) (ones_cons r_3.1.one (ones_cons rfl (ones_cons rfl (ones_cons rfl (ones_cons rfl (ones_cons rfl ones_nil)))))) rfl fun h_10 s => ?_
   refine oResA (cs := [v_3, (.bool false), (.bool false), (.int .i64 0), (.int .i64 0), (.slice none 0 0)]) (Sf.ceE (Cx.new_at p_1) 1 rfl s _ rfl) ⟨_, rfl⟩ rfl ?_
   replace s := Sf.dropAt 0 rfl s
   replace s := Sf.dropAt 0 rfl s
   replace s := Sf.dropAt 0 rfl s
   exact ⟨F_3, (⟨l_1, false, (⟨false, 0, 0⟩ : T_api_Ival), ([] : List T_api_Named)⟩ : T_api_Summary), v_3, (.slice none 0 0), e0, s, rfl, r_3, (RL.nil _ _ 0), hp⟩
  ·refine (cond_ff hc_4).2 ?_
   replace hp := (Pl.ite_neg hc_4).1 hp
   refine tFA (a := p) (n := 0) (padd_zero _).symm rfl ?_
   refine tLd (p := .pointer (some p)) (cs := [v, (.bool a0.Ends), (.int .i64 a0.Lo), (.int .i64 a0.Hi), v_1]) (j := 2) rfl (Sf.ceE (Cx.new_at p) 2 rfl s) rfl ?_
   refine tFA (a := p) (n := 0) (padd_zero _).symm rfl ?_
   refine tLd (p := .pointer (some p)) (cs := [v, (.bool a0.Ends), (.int .i64 a0.Lo), (.int .i64 a0.Hi), v_1]) (j := 3) rfl (Sf.ceE (Cx.new_at p) 2 rfl s) rfl ?_
   refine oMin_int.2 ?_
   refine tFA (a := p) (n := 0) (padd_zero _).symm rfl ?_
   refine tLd (p := .pointer (some p)) (cs := [v, (.bool a0.Ends), (.int .i64 a0.Lo), (.int .i64 a0.Hi), v_1]) (j := 2) rfl (Sf.ceE (Cx.new_at p) 2 rfl s) rfl ?_
   refine tFA (a := p) (n := 0) (padd_zero _).symm rfl ?_
   refine tLd (p := .pointer (some p)) (cs := [v, (.bool a0.Ends), (.int .i64 a0.Lo), (.int .i64 a0.Hi), v_1]) (j := 3) rfl (Sf.ceE (Cx.new_at p) 2 rfl s) rfl ?_
   refine oMax_int.2 ?_
   refine oCall_func (HC.mono (w_augurref12_Of (a0 := (min a0.Lo a0.Hi)) (a1 := (max a0.Lo a0.Hi)) s  hp) ?_)
   rintro u_1 h_11 ⟨F_7, r_7, g_3, s, rfl, hp⟩
   replace r_3 := r_3.le g_3
   replace r := r.le g_3
   replace r_1 := r_1.le g_3
   replace e0 := Le.trans e0 g_3
   replace eL := Le.trans eL g_3
   refine tFA (a := p_2) (n := 0) (padd_zero _).symm rfl ?_
   refine tSt (cs := [v_3, (.bool false), (.bool false), (.int .i64 0), (.int .i64 0), (.slice none 0 0)]) (vs := [(.bool true)]) (cs' := [v_3, (.bool true), (.bool false), (.int .i64 0), (.int .i64 0), (.slice none 0 0)]) (j := 1) 0 rfl s (Cx.new_at p_2) rfl (by rfl) rfl (Nat.le_of_ble_eq_true rfl) (ones_cons rfl ones_nil) rfl fun h_12 s => ?_
   refine tFA (a := p_2) (n := 0) (padd_zero _).symm rfl ?_
   refine tSt (cs := [v_3, (.bool true), (.bool false), (.int .i64 0), (.int .i64 0), (.slice none 0 0)]) (vs := [(.bool r_7.Some), (.int .i64 r_7.Lo), (.int .i64 r_7.Hi)]) (cs' := [v_3, (.bool true), (.bool r_7.Some), (.int .i64 r_7.Lo), (.int .i64 r_7.Hi), (.slice none 0 0)]) (j := 2) 0 rfl s (Cx.new_at p_2) rfl (by rfl) rfl (Nat.le_of_ble_eq_true rfl) (ones_cons rfl (ones_cons rfl (ones_cons rfl ones_nil))) rfl fun h_13 s => ?_
   obtain ⟨I_1, m0_1, hI_2, hI_3⟩ := hp
   refine ⟨fun m_2 w_1 w_2 h_16 => ∃ (F_10 : Vw) (l_4 : List Str) (x_5 : Int) (v_8 : Value), Le F_7 F_10 ∧ Sf F_10 h_16 (Ce (Cx.new p_2) [v_3, (.bool true), (.bool r_7.Some), (.int .i64 r_7.Lo), (.int .i64 r_7.Hi), (.slice none 0 0)] :: Ce (Cx.new p_1) [(.slice none 0 0), (.bool false), (.bool false), (.int .i64 0), (.int .i64 0), (.slice none 0 0)] :: Ce (Cx.new p) [v, (.bool a0.Ends), (.int .i64 a0.Lo), (.int .i64 a0.Hi), v_1] :: M) ∧ v_8 = w_1 ∧ (.int .i64 x_5) = w_2 ∧ RL eS F_10 v_8 l_4 ∧ I_1 m_2 l_4 x_5, m0_1, ⟨F_7, ([] : List Str), 0, (.slice none 0 0), Le.refl _, s, rfl, rfl, (RL.nil _ _ 0), hI_2⟩, ?_⟩
   clear hI_2
   rintro m_2 w_1 w_2 h_16 ⟨F_10, l_4, x_5, v_8, g_4, s, rfl, rfl, r_10, hi_4⟩
   have hp := hI_3 m_2 l_4 x_5 hi_4
   replace r_3 := r_3.le g_4
   replace r := r.le g_4
   replace r_1 := r_1.le g_4
   replace e0 := Le.trans e0 g_4
   replace eL := Le.trans eL g_4
   have eL_1 := g_4
   refine tFA (a := p) (n := 0) (padd_zero _).symm rfl ?_
   refine tLd (p := .pointer (some p)) (cs := [v, (.bool a0.Ends), (.int .i64 a0.Lo), (.int .i64 a0.Hi), v_1]) (j := 4) rfl (Sf.ceE (Cx.new_at p) 2 rfl s) rfl ?_
   refine (oLen_sl r_1.1).2 ?_
   refine oBin_lss.2 ?_
   by_cases hc_5 : x_5 < (List.length a0.Mod : Int)
   ·refine (cond_pos hc_5).2 ?_
    replace hp := (Pl.ite_pos hc_5).1 hp
    refine ⟨fun h' => Sf F_10 h' (Ce (Cx.new p_2) [v_3, (.bool true), (.bool r_7.Some), (.int .i64 r_7.Lo), (.int .i64 r_7.Hi), (.slice none 0 0)] :: Ce (Cx.new p_1) [(.slice none 0 0), (.bool false), (.bool false), (.int .i64 0), (.int .i64 0), (.slice none 0 0)] :: Ce (Cx.new p) [v, (.bool a0.Ends), (.int .i64 a0.Lo), (.int .i64 a0.Hi), v_1] :: M), s, ?_⟩
    have ed_1 := Le.refl F_10
    refine tFA (a := p) (n := 0) (padd_zero _).symm rfl ?_
    refine tLd (p := .pointer (some p)) (cs := [v, (.bool a0.Ends), (.int .i64 a0.Lo), (.int .i64 a0.Hi), v_1]) (j := 4) rfl (Sf.ceD (Cx.new_at p) 2 rfl) rfl ?_
    obtain ⟨hz_4, a_2, hi_5, hp⟩ := hp
    refine tPlF rfl r_1 hz_4 hi_5 fun q_2 c_2 hc_6 rv_2 => ?_
    obtain rfl : c_2 = [(.int .u8 a_2.N), (.int .i64 a_2.Lo), (.int .i64 a_2.Hi)] := hc_6
    refine tFA (a := q_2) (n := 0) (padd_zero _).symm (padd_zero _) ?_
    refine tLd (p := .pointer (some q_2)) (cs := [(.int .u8 a_2.N), (.int .i64 a_2.Lo), (.int .i64 a_2.Hi)]) (j := 0) (padd_zero _).symm (rvD rv_2) rfl ?_
    obtain ⟨hz_5, hp⟩ := hp
    refine (oBin_rem hz_5).2 ?_
    refine tFA (a := p) (n := 0) (padd_zero _).symm rfl ?_
    refine tLd (p := .pointer (some p)) (cs := [v, (.bool a0.Ends), (.int .i64 a0.Lo), (.int .i64 a0.Hi), v_1]) (j := 4) rfl (Sf.ceD (Cx.new_at p) 2 rfl) rfl ?_
    obtain ⟨hz_6, a_3, hi_6, hp⟩ := hp
    refine tPlF rfl r_1 hz_6 hi_6 fun q_3 c_3 hc_7 rv_3 => ?_
    obtain rfl : c_3 = [(.int .u8 a_3.N), (.int .i64 a_3.Lo), (.int .i64 a_3.Hi)] := hc_7
    refine tFA (a := q_3) (n := 0) (padd_zero _).symm (padd_zero _) ?_
    refine tLd (p := .pointer (some q_3)) (cs := [(.int .u8 a_3.N), (.int .i64 a_3.Lo), (.int .i64 a_3.Hi)]) (j := 0) (padd_zero _).symm (rvD rv_3) rfl ?_
    obtain ⟨hz_7, hp⟩ := hp
    refine (oBin_rem hz_7).2 ?_
    refine oBin_add.2 ?_
    obtain ⟨hz_8, hz_9, hz_10, s_1, hr, hp⟩ := hp
    refine tCutS (s := ([97, 98, 99, 100] : Str)) hz_8 hz_9 hz_10 hr (.inr ⟨_, rfl⟩) (.inr ⟨_, rfl⟩) ?_
    refine oCall_func (HC.mono (w_augurref10_Add (a0 := l_4) (a1 := s_1) s r_10 hp) ?_)
    rintro u_2 h_17 ⟨F_12, r_11, v_9, g_5, s, rfl, r_12, hp⟩
    have r_10_D := r_10
    replace r_10 := r_10.le g_5
    have r_3_D := r_3
    replace r_3 := r_3.le g_5
    have r_D := r
    replace r := r.le g_5
    have r_1_D := r_1
    replace r_1 := r_1.le g_5
    replace e0 := Le.trans e0 g_5
    replace eL := Le.trans eL g_5
    replace eL_1 := Le.trans eL_1 g_5
    replace ed_1 := Le.trans ed_1 g_5
    refine oBin_add.2 ?_
    obtain ⟨m_3, hm_1, hi_7⟩ := hp
    exact ⟨m_3, hm_1, F_12, r_11, IntKind.wrap .i64 (x_5 + 1), v_9, eL_1, s, rfl, rfl, r_12, hi_7⟩
   ·refine (cond_neg hc_5).2 ?_
    replace hp := (Pl.ite_neg hc_5).1 hp
    replace s := Sf.nilRow 4 s
    have hc_10 := CL.nil e_api_Named F_10
    replace s := Sf.front 3 rfl s
    replace s := Sf.front 3 rfl s
    replace s := Sf.front 2 rfl s
    replace s := Sf.front 3 rfl s
    obtain ⟨I_2, m0_2, hI_4, hI_5⟩ := hp
    refine ⟨fun m_4 w_3 h_20 => ∃ (F_15 : Vw) (x_8 : Int) (l_6 : List T_api_Named) (v_11 : Value) (cs_2 : List Value), Le F_10 F_15 ∧ Sf F_15 h_20 (Ce (Cx.new p_2) [v_3, (.bool true), (.bool r_7.Some), (.int .i64 r_7.Lo), (.int .i64 r_7.Hi), v_11] :: Row 4 v_11 (List.length l_6) cs_2 :: Ce (Cx.new p_1) [(.slice none 0 0), (.bool false), (.bool false), (.int .i64 0), (.int .i64 0), (.slice none 0 0)] :: Ce (Cx.new p) [v, (.bool a0.Ends), (.int .i64 a0.Lo), (.int .i64 a0.Hi), v_1] :: M) ∧ (.int .i64 x_8) = w_3 ∧ CL e_api_Named F_15 cs_2 l_6 ∧ I_2 m_4 x_8 l_6, m0_2, ⟨F_10, 0, ([] : List T_api_Named), (.slice none 0 0), [], Le.refl _, s, rfl, hc_10, hI_4⟩, ?_⟩
    clear hI_4
    rintro m_4 w_3 h_20 ⟨F_15, x_8, l_6, v_11, cs_2, g_6, s, rfl, hc_9, hi_8⟩
    have hp := hI_5 m_4 x_8 l_6 hi_8
    replace r_10 := r_10.le g_6
    replace r_3 := r_3.le g_6
    replace r := r.le g_6
    replace r_1 := r_1.le g_6
    replace e0 := Le.trans e0 g_6
    replace eL := Le.trans eL g_6
    replace eL_1 := Le.trans eL_1 g_6
    have eL_2 := g_6
    refine (oLen_sl r_10.1).2 ?_
    refine oBin_lss.2 ?_
    by_cases hc_11 : x_8 < (List.length l_4 : Int)
    ·refine (cond_pos hc_11).2 ?_
     replace hp := (Pl.ite_pos hc_11).1 hp
     refine ⟨fun h' => Sf F_15 h' (Ce (Cx.new p_2) [v_3, (.bool true), (.bool r_7.Some), (.int .i64 r_7.Lo), (.int .i64 r_7.Hi), v_11] :: Ce (Cx.new p_1) [(.slice none 0 0), (.bool false), (.bool false), (.int .i64 0), (.int .i64 0), (.slice none 0 0)] :: Ce (Cx.new p) [v, (.bool a0.Ends), (.int .i64 a0.Lo), (.int .i64 a0.Hi), v_1] :: M), Sf.dropAt 1 rfl s, ?_⟩
     have ed_2 := Le.refl F_15
     refine tFA (a := p_2) (n := 0) (padd_zero _).symm rfl ?_
     refine tLd (p := .pointer (some p_2)) (cs := [v_3, (.bool true), (.bool r_7.Some), (.int .i64 r_7.Lo), (.int .i64 r_7.Hi), v_11]) (j := 5) rfl (Sf.ceD (Cx.new_at p_2) 0 rfl) rfl ?_
     obtain ⟨hz_11, a_4, hi_9, hp⟩ := hp
     refine tPlF rfl r_10 hz_11 hi_9 fun q_4 c_4 hc_12 rv_4 => ?_
     obtain rfl : c_4 = [(str a_4)] := hc_12
     refine tLd (p := .pointer (some q_4)) (cs := [(str a_4)]) (j := 0) (padd_zero _).symm (rvD rv_4) rfl ?_
     refine tFA (a := p) (n := 0) (padd_zero _).symm rfl ?_
     refine tLd (p := .pointer (some p)) (cs := [v, (.bool a0.Ends), (.int .i64 a0.Lo), (.int .i64 a0.Hi), v_1]) (j := 4) rfl (Sf.ceD (Cx.new_at p) 2 rfl) rfl ?_
     obtain ⟨hz_12, a_5, hi_10, hp⟩ := hp
     refine tPlF rfl r_1 hz_12 hi_10 fun q_5 c_5 hc_13 rv_5 => ?_
     obtain rfl : c_5 = [(.int .u8 a_5.N), (.int .i64 a_5.Lo), (.int .i64 a_5.Hi)] := hc_13
     refine tFA (a := q_5) (n := 0) (padd_zero _).symm rfl ?_
     refine tLd (p := .pointer (some q_5)) (cs := [(.int .u8 a_5.N), (.int .i64 a_5.Lo), (.int .i64 a_5.Hi)]) (j := 1) rfl (rvD rv_5) rfl ?_
     refine tFA (a := p) (n := 0) (padd_zero _).symm rfl ?_
     refine tLd (p := .pointer (some p)) (cs := [v, (.bool a0.Ends), (.int .i64 a0.Lo), (.int .i64 a0.Hi), v_1]) (j := 4) rfl (Sf.ceD (Cx.new_at p) 2 rfl) rfl ?_
     obtain ⟨hz_13, a_6, hi_11, hp⟩ := hp
     refine tPlF rfl r_1 hz_13 hi_11 fun q_6 c_6 hc_14 rv_6 => ?_
     obtain rfl : c_6 = [(.int .u8 a_6.N), (.int .i64 a_6.Lo), (.int .i64 a_6.Hi)] := hc_14
     refine tFA (a := q_6) (n := 0) (padd_zero _).symm rfl ?_
     refine tLd (p := .pointer (some q_6)) (cs := [(.int .u8 a_6.N), (.int .i64 a_6.Lo), (.int .i64 a_6.Hi)]) (j := 2) rfl (rvD rv_6) rfl ?_
     refine oMin_int.2 ?_
     refine tFA (a := p) (n := 0) (padd_zero _).symm rfl ?_
     refine tLd (p := .pointer (some p)) (cs := [v, (.bool a0.Ends), (.int .i64 a0.Lo), (.int .i64 a0.Hi), v_1]) (j := 4) rfl (Sf.ceD (Cx.new_at p) 2 rfl) rfl ?_
     obtain ⟨hz_14, a_7, hi_12, hp⟩ := hp
     refine tPlF rfl r_1 hz_14 hi_12 fun q_7 c_7 hc_15 rv_7 => ?_
     obtain rfl : c_7 = [(.int .u8 a_7.N), (.int .i64 a_7.Lo), (.int .i64 a_7.Hi)] := hc_15
     refine tFA (a := q_7) (n := 0) (padd_zero _).symm rfl ?_
     refine tLd (p := .pointer (some q_7)) (cs := [(.int .u8 a_7.N), (.int .i64 a_7.Lo), (.int .i64 a_7.Hi)]) (j := 1) rfl (rvD rv_7) rfl ?_
     refine tFA (a := p) (n := 0) (padd_zero _).symm rfl ?_
     refine tLd (p := .pointer (some p)) (cs := [v, (.bool a0.Ends), (.int .i64 a0.Lo), (.int .i64 a0.Hi), v_1]) (j := 4) rfl (Sf.ceD (Cx.new_at p) 2 rfl) rfl ?_
     obtain ⟨hz_15, a_8, hi_13, hp⟩ := hp
     refine tPlF rfl r_1 hz_15 hi_13 fun q_8 c_8 hc_16 rv_8 => ?_
     obtain rfl : c_8 = [(.int .u8 a_8.N), (.int .i64 a_8.Lo), (.int .i64 a_8.Hi)] := hc_16
     refine tFA (a := q_8) (n := 0) (padd_zero _).symm rfl ?_
     refine tLd (p := .pointer (some q_8)) (cs := [(.int .u8 a_8.N), (.int .i64 a_8.Lo), (.int .i64 a_8.Hi)]) (j := 2) rfl (rvD rv_8) rfl ?_
     refine oMax_int.2 ?_
     refine oCall_func (HC.mono (w_augurref12_Of (a0 := (min a_5.Lo a_6.Hi)) (a1 := (max a_7.Lo a_8.Hi)) s  hp) ?_)
     rintro u_3 h_21 ⟨F_17, r_13, g_7, s, rfl, hp⟩
     have r_3_D := r_3
     replace r_3 := r_3.le g_7
     replace hc_9 := CL.le g_7 hc_9
     have r_D := r
     replace r := r.le g_7
     have r_1_D := r_1
     replace r_1 := r_1.le g_7
     replace e0 := Le.trans e0 g_7
     replace eL := Le.trans eL g_7
     replace eL_1 := Le.trans eL_1 g_7
     replace eL_2 := Le.trans eL_2 g_7
     replace ed_2 := Le.trans ed_2 g_7
     refine ⟨Sf.le (Sf.dropAt 1 rfl s) ed_2, ?_⟩
     refine oBuild_own (cells := #[(str a_4), (.bool r_13.Some), (.int .i64 r_13.Lo), (.int .i64 r_13.Hi)]) rfl ?_
     refine tBuildN s (e := e_api_Named) (l := [(⟨a_4, r_13⟩ : T_api_Named)]) [(.agg #[(str a_4), (.bool r_13.Some), (.int .i64 r_13.Lo), (.int .i64 r_13.Hi)])] rfl ⟨rfl, trivial⟩ rfl rfl rfl (Nat.le_of_ble_eq_true rfl) fun v_12 h_22 cs_3 hc_17 s => ?_
     refine ⟨Sf.le (Sf.dropAt 0 rfl (Sf.dropAt 2 rfl s)) ed_2, ?_⟩
     obtain ⟨hb, l_7, hl, hp⟩ := hp
     refine tApp 2 rfl s hc_9 rfl rfl (by decide) (Sf.roE 0 rfl s hc_17) hb hl fun v_13 h_23 cs_4 hc_18 s => ?_
     replace s := Sf.dropAt 0 rfl s
     refine tFA (a := p_2) (n := 0) (padd_zero _).symm rfl ?_
     refine tSt (cs := [v_3, (.bool true), (.bool r_7.Some), (.int .i64 r_7.Lo), (.int .i64 r_7.Hi), v_11]) (vs := [v_13]) (cs' := [v_3, (.bool true), (.bool r_7.Some), (.int .i64 r_7.Lo), (.int .i64 r_7.Hi), v_13]) (j := 5) 0 rfl s (Cx.new_at p_2) rfl (by rw [(Sf.at 1 rfl s).row.1.cells]) rfl (Nat.le_of_ble_eq_true rfl) (ones_cons (Sf.at 1 rfl s).row.1.one ones_nil) rfl fun h_24 s => ?_
     refine oBin_add.2 ?_
     obtain ⟨m_5, hm_2, hi_14⟩ := hp
     exact ⟨m_5, hm_2, F_17, IntKind.wrap .i64 (x_8 + 1), l_7, v_13, cs_4, eL_2, s, rfl, hc_18, hi_14⟩
    ·refine (cond_neg hc_11).2 ?_
     replace hp := (Pl.ite_neg hc_11).1 hp
     refine tLdA (a := p_2) (cs := [v_3, (.bool true), (.bool r_7.Some), (.int .i64 r_7.Lo), (.int .i64 r_7.Hi), v_11]) (ds := [v_3, (.bool true), (.bool r_7.Some), (.int .i64 r_7.Lo), (.int .i64 r_7.Hi), v_11]) (j := 0) (padd_zero _).symm (Sf.ceE (Cx.new_at p_2) 0 rfl s) (Nat.le_of_ble_eq_true rfl) rfl ?_
     refine tSt (cs := [(.slice none 0 0), (.bool false), (.bool false), (.int .i64 0), (.int .i64 0), (.slice none 0 0)]) (vs := [v_3, (.bool true), (.bool r_7.Some), (.int .i64 r_7.Lo), (.int .i64 r_7.Hi), v_11]) (cs' := [v_3, (.bool true), (.bool r_7.Some), (.int .i64 r_7.Lo), (.int .i64 r_7.Hi), v_11]) (j := 0) 2 rfl s (Cx.new_at p_1) (padd_zero _).symm (by rfl) rfl (Nat.le_of_ble_eq_true rfl) (ones_cons r_3.1.one (ones_cons rfl (ones_cons rfl (ones_cons rfl (ones_cons rfl (ones_cons (Sf.at 1 rfl s).row.1.one ones_nil)))))) rfl fun h_25 s => ?_
     refine oResA (cs := [v_3, (.bool true), (.bool r_7.Some), (.int .i64 r_7.Lo), (.int .i64 r_7.Hi), v_11]) (Sf.ceE (Cx.new_at p_1) 2 rfl s _ rfl) ⟨_, rfl⟩ rfl ?_
     obtain ⟨F_18, g_8, s, r_14⟩ := Sf.freezeRL 1 rfl s rfl hc_9
     replace r_3 := r_3.le g_8
     replace r := r.le g_8
     replace r_1 := r_1.le g_8
     replace e0 := Le.trans e0 g_8
     replace eL := Le.trans eL g_8
     replace eL_1 := Le.trans eL_1 g_8
     replace eL_2 := Le.trans eL_2 g_8
     replace s := Sf.dropAt 0 rfl s
     replace s := Sf.dropAt 0 rfl s
     replace s := Sf.dropAt 0 rfl s
     exact ⟨F_18, (⟨l_1, true, r_7, l_6⟩ : T_api_Summary), v_3, v_11, e0, s, rfl, r_3, r_14, hp⟩

/-- augur/augurhelp.Alarms -/
def g_augurhelp_Alarms (v0 v1 : Value) (h : Heap) (R : Value → Heap → Prop) : Prop :=
 oLen Try.prog #[28] 3 v0 fun t7 =>
 oLen Try.prog #[28] 3 v1 fun t9 =>
 oBin Try.prog .neq 3 (.tmp 7) (.tmp 9) t7 t9 fun t10 =>
 cond t10
  (R (.bool false) h)
  (loop1 (.int .i64 0) h fun x5 h next =>
  oLen Try.prog #[28] 3 v0 fun t13 =>
  oBin Try.prog .lss 3 (.tmp 11) (.tmp 13) x5 t13 fun t14 =>
  cond t14
   (oIdx Try.prog 28 v0 x5 fun t19 =>
   oLoad Try.prog 46 t19 (Eq h) fun t20 =>
   oIdx Try.prog 28 v1 x5 fun t23 =>
   oLoad Try.prog 46 t23 (Eq h) fun t24 =>
   oBin Try.prog .neq 46 (.tmp 20) (.tmp 24) t20 t24 fun t25 =>
   cond t25
   (R (.bool false) h)
   (oBin Try.prog .add 3 (.tmp 15) (.const (.int .i64 1)) x5 (.int .i64 1) fun t16 =>
   next t16 h))
   (R (.bool true) h))

theorem sh_augurhelp_Alarms {v0 v1 : Value} {h : Heap} {R : Value → Heap → Prop} (hg : g_augurhelp_Alarms v0 v1 h R) : HC Try.prog 22 #[v0, v1] h R := hc_shal [] Try.func22 (by kernel_rfl) hg

set_option maxRecDepth 20000 in
set_option maxHeartbeats 4000000 in
theorem w_augurhelp_Alarms {F : Vw} {h : Heap} {M : List HP} {a0 : List T_api_Alarm} {v : Value} {a1 : List T_api_Alarm} {v_1 : Value} {R : Bool → Prop} (s : Sf F h (M)) (r : RL e_api_Alarm F v a0) (r_1 : RL e_api_Alarm F v_1 a1) (hp : p_augurhelp_Alarms a0 a1 R) :
  HC Try.prog 22 #[v, v_1] h fun u h' => ∃ (F' : Vw) (r_0 : Bool), Le F F' ∧ Sf F' h' (M) ∧ (.bool r_0) = u ∧ R r_0 := by
 refine sh_augurhelp_Alarms ?_
 unfold g_augurhelp_Alarms
 unfold p_augurhelp_Alarms at hp
 have e0 := Le.refl F
 refine (oLen_sl r.1).2 ?_
 refine (oLen_sl r_1.1).2 ?_
 refine oBin_neq.2 ?_
 by_cases hc : (List.length a0 : Int) ≠ (List.length a1 : Int)
 ·refine (cond_pos hc).2 ?_
  replace hp := (Pl.ite_pos hc).1 hp
  exact ⟨F, false, e0, s, rfl, hp⟩
 ·refine (cond_neg hc).2 ?_
  replace hp := (Pl.ite_neg hc).1 hp
  obtain ⟨I, m0, hI, hI_1⟩ := hp
  refine ⟨fun m w h_2 => ∃ (F_2 : Vw) (x_1 : Int) , Le F F_2 ∧ Sf F_2 h_2 (M) ∧ (.int .i64 x_1) = w ∧ I m x_1, m0, ⟨F, 0, Le.refl _, s, rfl, hI⟩, ?_⟩
  clear hI
  rintro m w h_2 ⟨F_2, x_1, g, s, rfl, hi⟩
  have hp := hI_1 m x_1 hi
  replace r := r.le g
  replace r_1 := r_1.le g
  replace e0 := Le.trans e0 g
  have eL := g
  refine (oLen_sl r.1).2 ?_
  refine oBin_lss.2 ?_
  by_cases hc_1 : x_1 < (List.length a0 : Int)
  ·refine (cond_pos hc_1).2 ?_
   replace hp := (Pl.ite_pos hc_1).1 hp
   obtain ⟨hz, a, hi_1, hp⟩ := hp
   refine tPlF rfl r hz hi_1 fun q c hc_2 rv => ?_
   obtain rfl : c = [(.int .i64 a.At), (.int .i64 a.Kind)] := hc_2
   refine tLdA (a := q) (cs := [(.int .i64 a.At), (.int .i64 a.Kind)]) (ds := [(.int .i64 a.At), (.int .i64 a.Kind)]) (j := 0) (padd_zero _).symm (Sf.rvE s rv) (Nat.le_of_ble_eq_true rfl) rfl ?_
   obtain ⟨hz_1, a_1, hi_2, hp⟩ := hp
   refine tPlF rfl r_1 hz_1 hi_2 fun q_1 c_1 hc_3 rv_1 => ?_
   obtain rfl : c_1 = [(.int .i64 a_1.At), (.int .i64 a_1.Kind)] := hc_3
   refine tLdA (a := q_1) (cs := [(.int .i64 a_1.At), (.int .i64 a_1.Kind)]) (ds := [(.int .i64 a_1.At), (.int .i64 a_1.Kind)]) (j := 0) (padd_zero _).symm (Sf.rvE s rv_1) (Nat.le_of_ble_eq_true rfl) rfl ?_
   refine (q_api_Alarm_neq (a := a) (b := a_1)).2 ?_
   by_cases hc_4 : a ≠ a_1
   ·refine (cond_pos hc_4).2 ?_
    replace hp := (Pl.ite_pos hc_4).1 hp
    exact ⟨F_2, false, e0, s, rfl, hp⟩
   ·refine (cond_neg hc_4).2 ?_
    replace hp := (Pl.ite_neg hc_4).1 hp
    refine oBin_add.2 ?_
    obtain ⟨m_1, hm, hi_3⟩ := hp
    exact ⟨m_1, hm, F_2, IntKind.wrap .i64 (x_1 + 1), eL, s, rfl, hi_3⟩
  ·refine (cond_neg hc_1).2 ?_
   replace hp := (Pl.ite_neg hc_1).1 hp
   exact ⟨F_2, true, e0, s, rfl, hp⟩

/-- augur/augurhelp.Summary -/
def g_augurhelp_Summary (v0 v1 : Value) (h : Heap) (R : Value → Heap → Prop) : Prop :=
 oBox Try.prog 33 v0 h fun t2 h => 
 oBox Try.prog 33 v1 h fun t3 h_1 => 
 oFieldAddr Try.prog 33 t2 1 (Eq h_1) fun t6 =>
 oLoad Try.prog 4 t6 (Eq h_1) fun t7 =>
 oFieldAddr Try.prog 33 t3 1 (Eq h_1) fun t8 =>
 oLoad Try.prog 4 t8 (Eq h_1) fun t9 =>
 oBin Try.prog .neq 4 (.tmp 7) (.tmp 9) t7 t9 fun t10 =>
 join (fun (x16 : Value)  =>
  oPick Try.prog t10 (.bool true) x16 fun t17 =>
  join (fun (x24 : Value) (h_2 : Heap) =>
  oPick Try.prog t17 (.bool true) x24 fun t25 =>
  join (fun (x33 : Value)  =>
   oPick Try.prog t25 (.bool true) x33 fun t34 =>
   cond t34
   (R (.bool false) h_2)
   (loop1 (.int .i64 0) h_2 fun x5 h_3 next =>
    oFieldAddr Try.prog 33 t2 3 (Eq h_3) fun t36 =>
    oLoad Try.prog 31 t36 (Eq h_3) fun t37 =>
    oLen Try.prog #[31] 3 t37 fun t38 =>
    oBin Try.prog .lss 3 (.tmp 35) (.tmp 38) x5 t38 fun t39 =>
    cond t39
    (oFieldAddr Try.prog 33 t2 3 (Eq h_3) fun t42 =>
    oLoad Try.prog 31 t42 (Eq h_3) fun t43 =>
    oIdx Try.prog 31 t43 x5 fun t45 =>
    oLoad Try.prog 53 t45 (Eq h_3) fun t46 =>
    oFieldAddr Try.prog 33 t3 3 (Eq h_3) fun t47 =>
    oLoad Try.prog 31 t47 (Eq h_3) fun t48 =>
    oIdx Try.prog 31 t48 x5 fun t50 =>
    oLoad Try.prog 53 t50 (Eq h_3) fun t51 =>
    oBin Try.prog .neq 53 (.tmp 46) (.tmp 51) t46 t51 fun t52 =>
    cond t52
     (R (.bool false) h_3)
     (oBin Try.prog .add 3 (.tmp 40) (.const (.int .i64 1)) x5 (.int .i64 1) fun t41 =>
     next t41 h_3))
    (R (.bool true) h_3)))
   fun k_2 =>
  cond t25
   (k_2 undef)
   (oFieldAddr Try.prog 33 t2 3 (Eq h_2) fun t27 =>
   oLoad Try.prog 31 t27 (Eq h_2) fun t28 =>
   oLen Try.prog #[31] 3 t28 fun t29 =>
   oFieldAddr Try.prog 33 t3 3 (Eq h_2) fun t30 =>
   oLoad Try.prog 31 t30 (Eq h_2) fun t31 =>
   oLen Try.prog #[31] 3 t31 fun t32 =>
   oBin Try.prog .neq 3 (.tmp 29) (.tmp 32) t29 t32 fun t33 =>
   k_2 t33))
  fun k_1 =>
  cond t17
  (k_1 undef h_1)
  (oFieldAddr Try.prog 33 t2 0 (Eq h_1) fun t19 =>
  oLoad Try.prog 28 t19 (Eq h_1) fun t20 =>
  oFieldAddr Try.prog 33 t3 0 (Eq h_1) fun t21 =>
  oLoad Try.prog 28 t21 (Eq h_1) fun t22 =>
  oCall Try.prog (.func (.func 22) #[] #[]) #[t20, t22] h_1 fun t23 h_4 => 
  oUn Try.prog .not t23 fun t24 =>
  k_1 t24 h_4))
  fun k =>
 cond t10
  (k undef)
  (oFieldAddr Try.prog 33 t2 2 (Eq h_1) fun t12 =>
  oLoad Try.prog 30 t12 (Eq h_1) fun t13 =>
  oFieldAddr Try.prog 33 t3 2 (Eq h_1) fun t14 =>
  oLoad Try.prog 30 t14 (Eq h_1) fun t15 =>
  oBin Try.prog .neq 30 (.tmp 13) (.tmp 15) t13 t15 fun t16 =>
  k t16)

theorem sh_augurhelp_Summary {v0 v1 : Value} {h : Heap} {R : Value → Heap → Prop} (hg : g_augurhelp_Summary v0 v1 h R) : HC Try.prog 10 #[v0, v1] h R := hc_shal [] Try.func10 (by kernel_rfl) hg

set_option maxRecDepth 20000 in
set_option maxHeartbeats 4000000 in
theorem w_augurhelp_Summary {F : Vw} {h : Heap} {M : List HP} {a0 : T_api_Summary} {v : Value} {v_1 : Value} {a1 : T_api_Summary} {v_2 : Value} {v_3 : Value} {R : Bool → Prop} (s : Sf F h (M)) (r : RL e_api_Alarm F v a0.Alarms) (r_1 : RL e_api_Named F v_1 a0.Mod) (r_2 : RL e_api_Alarm F v_2 a1.Alarms) (r_3 : RL e_api_Named F v_3 a1.Mod) (hp : p_augurhelp_Summary a0 a1 R) :
  HC Try.prog 10 #[(.agg #[v, (.bool a0.Ends), (.bool a0.Ret.Some), (.int .i64 a0.Ret.Lo), (.int .i64 a0.Ret.Hi), v_1]), (.agg #[v_2, (.bool a1.Ends), (.bool a1.Ret.Some), (.int .i64 a1.Ret.Lo), (.int .i64 a1.Ret.Hi), v_3])] h fun u h' => ∃ (F' : Vw) (r_0 : Bool), Le F F' ∧ Sf F' h' (M) ∧ (.bool r_0) = u ∧ R r_0 := by
 refine sh_augurhelp_Summary ?_
 unfold g_augurhelp_Summary
 unfold p_augurhelp_Summary at hp
 have e0 := Le.refl F
 refine tBx s (vs := [v, (.bool a0.Ends), (.bool a0.Ret.Some), (.int .i64 a0.Ret.Lo), (.int .i64 a0.Ret.Hi), v_1]) (by rfl) fun p h_1 s => ?_
 refine tBx s (vs := [v_2, (.bool a1.Ends), (.bool a1.Ret.Some), (.int .i64 a1.Ret.Lo), (.int .i64 a1.Ret.Hi), v_3]) (by rfl) fun p_1 h_2 s => ?_
 refine tFA (a := p) (n := 0) (padd_zero _).symm rfl ?_
 refine tLd (p := .pointer (some p)) (cs := [v, (.bool a0.Ends), (.bool a0.Ret.Some), (.int .i64 a0.Ret.Lo), (.int .i64 a0.Ret.Hi), v_1]) (j := 1) rfl (Sf.ceE (Cx.new_at p) 1 rfl s) rfl ?_
 refine tFA (a := p_1) (n := 0) (padd_zero _).symm rfl ?_
 refine tLd (p := .pointer (some p_1)) (cs := [v_2, (.bool a1.Ends), (.bool a1.Ret.Some), (.int .i64 a1.Ret.Lo), (.int .i64 a1.Ret.Hi), v_3]) (j := 1) rfl (Sf.ceE (Cx.new_at p_1) 0 rfl s) rfl ?_
 refine oBin_bool_neq.2 ?_
 obtain ⟨kp, hk_1, hp⟩ := Pl.join_elim hp
 refine Sh.join_intro fun k hk => ?_
 have hK : ∀ (x : Bool) (w : Value), (∀ K : Value → Prop, K (.bool x) → oPick Try.prog (.bool (a0.Ends != a1.Ends)) (.bool true) w K) → kp x → k w := by
  intro x w hw hp
  rw [hk]
  rw [hk_1] at hp
  refine hw _ ?_
  obtain ⟨kp_1, hk_3, hp⟩ := Pl.join_elim hp
  have ej := Le.refl F
  refine Sh.join_intro fun k_1 hk_2 => ?_
  have hK_1 : ∀ (F_1 : Vw) (h_3 : Heap) (x_1 : Bool) (w_1 : Value), (∀ K : Value → Prop, K (.bool x_1) → oPick Try.prog (.bool x) (.bool true) w_1 K) → Le F F_1 → Sf F_1 h_3 (Ce (Cx.new p_1) [v_2, (.bool a1.Ends), (.bool a1.Ret.Some), (.int .i64 a1.Ret.Lo), (.int .i64 a1.Ret.Hi), v_3] :: Ce (Cx.new p) [v, (.bool a0.Ends), (.bool a0.Ret.Some), (.int .i64 a0.Ret.Lo), (.int .i64 a0.Ret.Hi), v_1] :: M) → kp_1 x_1 → k_1 w_1 h_3 := by
   intro F_1 h_3 x_1 w_1 hw_1 g s  hp
   rw [hk_2]
   rw [hk_3] at hp
   refine hw_1 _ ?_
   replace r_2 := r_2.le g
   replace r_3 := r_3.le g
   replace r := r.le g
   replace r_1 := r_1.le g
   replace e0 := Le.trans e0 g
   replace ej := Le.trans ej g
   obtain ⟨kp_2, hk_5, hp⟩ := Pl.join_elim hp
   refine Sh.join_intro fun k_2 hk_4 => ?_
   have hK_2 : ∀ (x_2 : Bool) (w_2 : Value), (∀ K : Value → Prop, K (.bool x_2) → oPick Try.prog (.bool x_1) (.bool true) w_2 K) → kp_2 x_2 → k_2 w_2 := by
    intro x_2 w_2 hw_2 hp
    rw [hk_4]
    rw [hk_5] at hp
    refine hw_2 _ ?_
    by_cases hc : x_2 = true
    ·refine (cond_tt hc).2 ?_
     replace hp := (Pl.ite_pos hc).1 hp
     replace s := Sf.dropAt 0 rfl s
     replace s := Sf.dropAt 0 rfl s
     exact ⟨F_1, false, e0, s, rfl, hp⟩
    ·refine (cond_ff hc).2 ?_
     replace hp := (Pl.ite_neg hc).1 hp
     obtain ⟨I, m0, hI, hI_1⟩ := hp
     refine ⟨fun m w_3 h_5 => ∃ (F_3 : Vw) (x_4 : Int) , Le F_1 F_3 ∧ Sf F_3 h_5 (Ce (Cx.new p_1) [v_2, (.bool a1.Ends), (.bool a1.Ret.Some), (.int .i64 a1.Ret.Lo), (.int .i64 a1.Ret.Hi), v_3] :: Ce (Cx.new p) [v, (.bool a0.Ends), (.bool a0.Ret.Some), (.int .i64 a0.Ret.Lo), (.int .i64 a0.Ret.Hi), v_1] :: M) ∧ (.int .i64 x_4) = w_3 ∧ I m x_4, m0, ⟨F_1, 0, Le.refl _, s, rfl, hI⟩, ?_⟩
     clear hI
     rintro m w_3 h_5 ⟨F_3, x_4, g_1, s, rfl, hi⟩
     have hp := hI_1 m x_4 hi
     replace r_2 := r_2.le g_1
     replace r_3 := r_3.le g_1
     replace r := r.le g_1
     replace r_1 := r_1.le g_1
     replace e0 := Le.trans e0 g_1
     replace ej := Le.trans ej g_1
     have eL := g_1
     refine tFA (a := p) (n := 0) (padd_zero _).symm rfl ?_
     refine tLd (p := .pointer (some p)) (cs := [v, (.bool a0.Ends), (.bool a0.Ret.Some), (.int .i64 a0.Ret.Lo), (.int .i64 a0.Ret.Hi), v_1]) (j := 5) rfl (Sf.ceE (Cx.new_at p) 1 rfl s) rfl ?_
     refine (oLen_sl r_1.1).2 ?_
     refine oBin_lss.2 ?_
     by_cases hc_1 : x_4 < (List.length a0.Mod : Int)
     ·refine (cond_pos hc_1).2 ?_
      replace hp := (Pl.ite_pos hc_1).1 hp
      refine tFA (a := p) (n := 0) (padd_zero _).symm rfl ?_
      refine tLd (p := .pointer (some p)) (cs := [v, (.bool a0.Ends), (.bool a0.Ret.Some), (.int .i64 a0.Ret.Lo), (.int .i64 a0.Ret.Hi), v_1]) (j := 5) rfl (Sf.ceE (Cx.new_at p) 1 rfl s) rfl ?_
      obtain ⟨hz, a, hi_1, hp⟩ := hp
      refine tPlF rfl r_1 hz hi_1 fun q c hc_2 rv => ?_
      obtain rfl : c = [(str a.Name), (.bool a.V.Some), (.int .i64 a.V.Lo), (.int .i64 a.V.Hi)] := hc_2
      refine tLdA (a := q) (cs := [(str a.Name), (.bool a.V.Some), (.int .i64 a.V.Lo), (.int .i64 a.V.Hi)]) (ds := [(str a.Name), (.bool a.V.Some), (.int .i64 a.V.Lo), (.int .i64 a.V.Hi)]) (j := 0) (padd_zero _).symm (Sf.rvE s rv) (Nat.le_of_ble_eq_true rfl) rfl ?_
      refine tFA (a := p_1) (n := 0) (padd_zero _).symm rfl ?_
      refine tLd (p := .pointer (some p_1)) (cs := [v_2, (.bool a1.Ends), (.bool a1.Ret.Some), (.int .i64 a1.Ret.Lo), (.int .i64 a1.Ret.Hi), v_3]) (j := 5) rfl (Sf.ceE (Cx.new_at p_1) 0 rfl s) rfl ?_
      obtain ⟨hz_1, a_1, hi_2, hp⟩ := hp
      refine tPlF rfl r_3 hz_1 hi_2 fun q_1 c_1 hc_3 rv_1 => ?_
      obtain rfl : c_1 = [(str a_1.Name), (.bool a_1.V.Some), (.int .i64 a_1.V.Lo), (.int .i64 a_1.V.Hi)] := hc_3
      refine tLdA (a := q_1) (cs := [(str a_1.Name), (.bool a_1.V.Some), (.int .i64 a_1.V.Lo), (.int .i64 a_1.V.Hi)]) (ds := [(str a_1.Name), (.bool a_1.V.Some), (.int .i64 a_1.V.Lo), (.int .i64 a_1.V.Hi)]) (j := 0) (padd_zero _).symm (Sf.rvE s rv_1) (Nat.le_of_ble_eq_true rfl) rfl ?_
      refine (q_api_Named_neq (a := a) (b := a_1)).2 ?_
      by_cases hc_4 : a ≠ a_1
      ·refine (cond_pos hc_4).2 ?_
       replace hp := (Pl.ite_pos hc_4).1 hp
       replace s := Sf.dropAt 0 rfl s
       replace s := Sf.dropAt 0 rfl s
       exact ⟨F_3, false, e0, s, rfl, hp⟩
      ·refine (cond_neg hc_4).2 ?_
       replace hp := (Pl.ite_neg hc_4).1 hp
       refine oBin_add.2 ?_
       obtain ⟨m_1, hm, hi_3⟩ := hp
       exact ⟨m_1, hm, F_3, IntKind.wrap .i64 (x_4 + 1), eL, s, rfl, hi_3⟩
     ·refine (cond_neg hc_1).2 ?_
      replace hp := (Pl.ite_neg hc_1).1 hp
      replace s := Sf.dropAt 0 rfl s
      replace s := Sf.dropAt 0 rfl s
      exact ⟨F_3, true, e0, s, rfl, hp⟩
   clear hk_4 hk_5
   by_cases hc_5 : x_1 = true
   ·refine (cond_tt hc_5).2 ?_
    replace hp := (Pl.ite_pos hc_5).1 hp
    exact hK_2 true _ (fun _ h => oPick_hc hc_5 h) hp
   ·refine (cond_ff hc_5).2 ?_
    replace hp := (Pl.ite_neg hc_5).1 hp
    refine tFA (a := p) (n := 0) (padd_zero _).symm rfl ?_
    refine tLd (p := .pointer (some p)) (cs := [v, (.bool a0.Ends), (.bool a0.Ret.Some), (.int .i64 a0.Ret.Lo), (.int .i64 a0.Ret.Hi), v_1]) (j := 5) rfl (Sf.ceE (Cx.new_at p) 1 rfl s) rfl ?_
    refine (oLen_sl r_1.1).2 ?_
    refine tFA (a := p_1) (n := 0) (padd_zero _).symm rfl ?_
    refine tLd (p := .pointer (some p_1)) (cs := [v_2, (.bool a1.Ends), (.bool a1.Ret.Some), (.int .i64 a1.Ret.Lo), (.int .i64 a1.Ret.Hi), v_3]) (j := 5) rfl (Sf.ceE (Cx.new_at p_1) 0 rfl s) rfl ?_
    refine (oLen_sl r_3.1).2 ?_
    refine oBin_neq.2 ?_
    exact hK_2 (decide ((List.length a0.Mod : Int) ≠ (List.length a1.Mod : Int))) _ (fun _ h => oPick_hn hc_5 h) hp
  clear hk_2 hk_3
  by_cases hc_6 : x = true
  ·refine (cond_tt hc_6).2 ?_
   replace hp := (Pl.ite_pos hc_6).1 hp
   exact hK_1 _ _ true _ (fun _ h => oPick_hc hc_6 h) ej s  hp
  ·refine (cond_ff hc_6).2 ?_
   replace hp := (Pl.ite_neg hc_6).1 hp
   refine tFA (a := p) (n := 0) (padd_zero _).symm (padd_zero _) ?_
   refine tLd (p := .pointer (some p)) (cs := [v, (.bool a0.Ends), (.bool a0.Ret.Some), (.int .i64 a0.Ret.Lo), (.int .i64 a0.Ret.Hi), v_1]) (j := 0) (padd_zero _).symm (Sf.ceE (Cx.new_at p) 1 rfl s) rfl ?_
   refine tFA (a := p_1) (n := 0) (padd_zero _).symm (padd_zero _) ?_
   refine tLd (p := .pointer (some p_1)) (cs := [v_2, (.bool a1.Ends), (.bool a1.Ret.Some), (.int .i64 a1.Ret.Lo), (.int .i64 a1.Ret.Hi), v_3]) (j := 0) (padd_zero _).symm (Sf.ceE (Cx.new_at p_1) 0 rfl s) rfl ?_
   refine oCall_func (HC.mono (w_augurhelp_Alarms (a0 := a0.Alarms) (a1 := a1.Alarms) s r r_2 hp) ?_)
   rintro u h_6 ⟨F_5, r_4, g_2, s, rfl, hp⟩
   replace r := r.le g_2
   replace r_2 := r_2.le g_2
   replace r_3 := r_3.le g_2
   replace r_1 := r_1.le g_2
   replace e0 := Le.trans e0 g_2
   replace ej := Le.trans ej g_2
   refine oUn_not.2 ?_
   exact hK_1 _ _ (!r_4) _ (fun _ h => oPick_hn hc_6 h) ej s  hp
 clear hk hk_1
 by_cases hc_7 : (a0.Ends != a1.Ends) = true
 ·refine (cond_tt hc_7).2 ?_
  replace hp := (Pl.ite_pos hc_7).1 hp
  exact hK true _ (fun _ h => oPick_hc hc_7 h) hp
 ·refine (cond_ff hc_7).2 ?_
  replace hp := (Pl.ite_neg hc_7).1 hp
  refine tFA (a := p) (n := 0) (padd_zero _).symm rfl ?_
  refine tLdA (a := p) (cs := [v, (.bool a0.Ends), (.bool a0.Ret.Some), (.int .i64 a0.Ret.Lo), (.int .i64 a0.Ret.Hi), v_1]) (ds := [(.bool a0.Ret.Some), (.int .i64 a0.Ret.Lo), (.int .i64 a0.Ret.Hi)]) (j := 2) rfl (Sf.ceE (Cx.new_at p) 1 rfl s) (Nat.le_of_ble_eq_true rfl) rfl ?_
  refine tFA (a := p_1) (n := 0) (padd_zero _).symm rfl ?_
  refine tLdA (a := p_1) (cs := [v_2, (.bool a1.Ends), (.bool a1.Ret.Some), (.int .i64 a1.Ret.Lo), (.int .i64 a1.Ret.Hi), v_3]) (ds := [(.bool a1.Ret.Some), (.int .i64 a1.Ret.Lo), (.int .i64 a1.Ret.Hi)]) (j := 2) rfl (Sf.ceE (Cx.new_at p_1) 0 rfl s) (Nat.le_of_ble_eq_true rfl) rfl ?_
  refine (q_api_Ival_neq (a := a0.Ret) (b := a1.Ret)).2 ?_
  exact hK (decide (a0.Ret ≠ a1.Ret)) _ (fun _ h => oPick_hn hc_7 h) hp

/-- augur/augurlaw19.light -/
def g_augurlaw19_light (v0 : Value) (h : Heap) (R : Value → Heap → Prop) : Prop :=
 loop1 (.int .i64 0) h fun x3 h next =>
  oLen Try.prog #[43] 3 v0 fun t6 =>
  oBin Try.prog .lss 3 (.tmp 4) (.tmp 6) x3 t6 fun t7 =>
  cond t7
  (oIdx Try.prog 43 v0 x3 fun t12 =>
  oFieldAddr Try.prog 25 t12 0 (Eq h) fun t13 =>
  oLoad Try.prog 22 t13 (Eq h) fun t14 =>
  oLen Try.prog #[22] 3 t14 fun t15 =>
  oBin Try.prog .gtr 3 (.tmp 15) (.const (.int .i64 8)) t15 (.int .i64 8) fun t16 =>
  join (fun (x24 : Value)  =>
   oPick Try.prog t16 (.bool true) x24 fun t25 =>
   cond t25
   (R (.bool false) h)
   (oBin Try.prog .add 3 (.tmp 8) (.const (.int .i64 1)) x3 (.int .i64 1) fun t9 =>
   next t9 h))
   fun k =>
  cond t16
   (k undef)
   (oIdx Try.prog 43 v0 x3 fun t20 =>
   oFieldAddr Try.prog 25 t20 4 (Eq h) fun t21 =>
   oLoad Try.prog 23 t21 (Eq h) fun t22 =>
   oLen Try.prog #[23] 3 t22 fun t23 =>
   oBin Try.prog .gtr 3 (.tmp 23) (.const (.int .i64 6)) t23 (.int .i64 6) fun t24 =>
   k t24))
  (R (.bool true) h)

theorem sh_augurlaw19_light {v0 : Value} {h : Heap} {R : Value → Heap → Prop} (hg : g_augurlaw19_light v0 h R) : HC Try.prog 5 #[v0] h R := hc_shal [] Try.func5 (by kernel_rfl) hg

set_option maxRecDepth 20000 in
set_option maxHeartbeats 4000000 in
theorem w_augurlaw19_light {F : Vw} {h : Heap} {M : List HP} {a0 : List T_augurlaw19_Raw} {v : Value} {R : Bool → Prop} (s : Sf F h (M)) (r : RL e_augurlaw19_Raw F v a0) (hp : p_augurlaw19_light a0 R) :
  HC Try.prog 5 #[v] h fun u h' => ∃ (F' : Vw) (r_0 : Bool), Le F F' ∧ Sf F' h' (M) ∧ (.bool r_0) = u ∧ R r_0 := by
 refine sh_augurlaw19_light ?_
 unfold g_augurlaw19_light
 unfold p_augurlaw19_light at hp
 have e0 := Le.refl F
 obtain ⟨I, m0, hI, hI_1⟩ := hp
 refine ⟨fun m w h_2 => ∃ (F_2 : Vw) (x_1 : Int) , Le F F_2 ∧ Sf F_2 h_2 (M) ∧ (.int .i64 x_1) = w ∧ I m x_1, m0, ⟨F, 0, Le.refl _, s, rfl, hI⟩, ?_⟩
 clear hI
 rintro m w h_2 ⟨F_2, x_1, g, s, rfl, hi⟩
 have hp := hI_1 m x_1 hi
 replace r := r.le g
 replace e0 := Le.trans e0 g
 have eL := g
 refine (oLen_sl r.1).2 ?_
 refine oBin_lss.2 ?_
 by_cases hc : x_1 < (List.length a0 : Int)
 ·refine (cond_pos hc).2 ?_
  replace hp := (Pl.ite_pos hc).1 hp
  obtain ⟨hz, a, hi_1, hp⟩ := hp
  refine tPlF rfl r hz hi_1 fun q c hc_1 rv => ?_
  obtain ⟨v_1, v_2, rfl, r_1, r_2⟩ := hc_1
  refine tFA (a := q) (n := 0) (padd_zero _).symm (padd_zero _) ?_
  refine tLd (p := .pointer (some q)) (cs := [v_1, (.bool a.Ends), (.int .i64 a.Lo), (.int .i64 a.Hi), v_2]) (j := 0) (padd_zero _).symm (Sf.rvE s rv) rfl ?_
  refine (oLen_sl r_1.1).2 ?_
  refine oBin_gtr.2 ?_
  obtain ⟨kp, hk_1, hp⟩ := Pl.join_elim hp
  refine Sh.join_intro fun k hk => ?_
  have hK : ∀ (x_2 : Bool) (w_1 : Value), (∀ K : Value → Prop, K (.bool x_2) → oPick Try.prog (.bool (decide (8 < (List.length a.Alarms : Int)))) (.bool true) w_1 K) → kp x_2 → k w_1 := by
   intro x_2 w_1 hw hp
   rw [hk]
   rw [hk_1] at hp
   refine hw _ ?_
   by_cases hc_2 : x_2 = true
   ·refine (cond_tt hc_2).2 ?_
    replace hp := (Pl.ite_pos hc_2).1 hp
    exact ⟨F_2, false, e0, s, rfl, hp⟩
   ·refine (cond_ff hc_2).2 ?_
    replace hp := (Pl.ite_neg hc_2).1 hp
    refine oBin_add.2 ?_
    obtain ⟨m_1, hm, hi_2⟩ := hp
    exact ⟨m_1, hm, F_2, IntKind.wrap .i64 (x_1 + 1), eL, s, rfl, hi_2⟩
  clear hk hk_1
  by_cases hc_3 : 8 < (List.length a.Alarms : Int)
  ·refine (cond_pos hc_3).2 ?_
   replace hp := (Pl.ite_pos hc_3).1 hp
   exact hK true _ (fun _ h => oPick_dc hc_3 h) hp
  ·refine (cond_neg hc_3).2 ?_
   replace hp := (Pl.ite_neg hc_3).1 hp
   obtain ⟨hz_1, a_1, hi_3, hp⟩ := hp
   refine tPlF rfl r hz_1 hi_3 fun q_1 c_1 hc_4 rv_1 => ?_
   obtain ⟨v_3, v_4, rfl, r_3, r_4⟩ := hc_4
   refine tFA (a := q_1) (n := 0) (padd_zero _).symm rfl ?_
   refine tLd (p := .pointer (some q_1)) (cs := [v_3, (.bool a_1.Ends), (.int .i64 a_1.Lo), (.int .i64 a_1.Hi), v_4]) (j := 4) rfl (Sf.rvE s rv_1) rfl ?_
   refine (oLen_sl r_4.1).2 ?_
   refine oBin_gtr.2 ?_
   exact hK (decide (6 < (List.length a_1.Mod : Int))) _ (fun _ h => oPick_dn hc_3 h) hp
 ·refine (cond_neg hc).2 ?_
  replace hp := (Pl.ite_neg hc).1 hp
  exact ⟨F_2, true, e0, s, rfl, hp⟩

/-- slices.Equal[[]augur/api.Alarm,augur/api.Alarm] -/
def g_slices_Equal_api_Alarm_api_Alarm (v0 v1 : Value) (h : Heap) (R : Value → Heap → Prop) : Prop :=
 oLen Try.prog #[28] 3 v0 fun t7 =>
 oLen Try.prog #[28] 3 v1 fun t9 =>
 oBin Try.prog .neq 3 (.tmp 7) (.tmp 9) t7 t9 fun t10 =>
 cond t10
  (R (.bool false) h)
  (oLen Try.prog #[28] 3 v0 fun t12 =>
  loop1 (.int .i64 0) h fun x13 h next =>
  oBin Try.prog .lss 3 (.tmp 13) (.tmp 12) x13 t12 fun t14 =>
  cond t14
   (oIdx Try.prog 28 v0 x13 fun t18 =>
   oLoad Try.prog 46 t18 (Eq h) fun t19 =>
   oIdx Try.prog 28 v1 x13 fun t22 =>
   oLoad Try.prog 46 t22 (Eq h) fun t23 =>
   oBin Try.prog .neq 46 (.tmp 19) (.tmp 23) t19 t23 fun t24 =>
   cond t24
   (R (.bool false) h)
   (oBin Try.prog .add 3 (.tmp 13) (.const (.int .i64 1)) x13 (.int .i64 1) fun t25 =>
   next t25 h))
   (R (.bool true) h))

theorem sh_slices_Equal_api_Alarm_api_Alarm {v0 v1 : Value} {h : Heap} {R : Value → Heap → Prop} (hg : g_slices_Equal_api_Alarm_api_Alarm v0 v1 h R) : HC Try.prog 20 #[v0, v1] h R := hc_shal [] Try.func20 (by kernel_rfl) hg

set_option maxRecDepth 20000 in
set_option maxHeartbeats 4000000 in
theorem w_slices_Equal_api_Alarm_api_Alarm {F : Vw} {h : Heap} {M : List HP} {a0 : List T_api_Alarm} {v : Value} {a1 : List T_api_Alarm} {v_1 : Value} {R : Bool → Prop} (s : Sf F h (M)) (r : RL e_api_Alarm F v a0) (r_1 : RL e_api_Alarm F v_1 a1) (hp : p_slices_Equal_api_Alarm_api_Alarm a0 a1 R) :
  HC Try.prog 20 #[v, v_1] h fun u h' => ∃ (F' : Vw) (r_0 : Bool), Le F F' ∧ Sf F' h' (M) ∧ (.bool r_0) = u ∧ R r_0 := by
 refine sh_slices_Equal_api_Alarm_api_Alarm ?_
 unfold g_slices_Equal_api_Alarm_api_Alarm
 unfold p_slices_Equal_api_Alarm_api_Alarm at hp
 have e0 := Le.refl F
 refine (oLen_sl r.1).2 ?_
 refine (oLen_sl r_1.1).2 ?_
 refine oBin_neq.2 ?_
 by_cases hc : (List.length a0 : Int) ≠ (List.length a1 : Int)
 ·refine (cond_pos hc).2 ?_
  replace hp := (Pl.ite_pos hc).1 hp
  exact ⟨F, false, e0, s, rfl, hp⟩
 ·refine (cond_neg hc).2 ?_
  replace hp := (Pl.ite_neg hc).1 hp
  refine (oLen_sl r.1).2 ?_
  obtain ⟨I, m0, hI, hI_1⟩ := hp
  refine ⟨fun m w h_2 => ∃ (F_2 : Vw) (x_1 : Int) , Le F F_2 ∧ Sf F_2 h_2 (M) ∧ (.int .i64 x_1) = w ∧ I m x_1, m0, ⟨F, 0, Le.refl _, s, rfl, hI⟩, ?_⟩
  clear hI
  rintro m w h_2 ⟨F_2, x_1, g, s, rfl, hi⟩
  have hp := hI_1 m x_1 hi
  replace r := r.le g
  replace r_1 := r_1.le g
  replace e0 := Le.trans e0 g
  have eL := g
  refine oBin_lss.2 ?_
  by_cases hc_1 : x_1 < (List.length a0 : Int)
  ·refine (cond_pos hc_1).2 ?_
   replace hp := (Pl.ite_pos hc_1).1 hp
   obtain ⟨hz, a, hi_1, hp⟩ := hp
   refine tPlF rfl r hz hi_1 fun q c hc_2 rv => ?_
   obtain rfl : c = [(.int .i64 a.At), (.int .i64 a.Kind)] := hc_2
   refine tLdA (a := q) (cs := [(.int .i64 a.At), (.int .i64 a.Kind)]) (ds := [(.int .i64 a.At), (.int .i64 a.Kind)]) (j := 0) (padd_zero _).symm (Sf.rvE s rv) (Nat.le_of_ble_eq_true rfl) rfl ?_
   obtain ⟨hz_1, a_1, hi_2, hp⟩ := hp
   refine tPlF rfl r_1 hz_1 hi_2 fun q_1 c_1 hc_3 rv_1 => ?_
   obtain rfl : c_1 = [(.int .i64 a_1.At), (.int .i64 a_1.Kind)] := hc_3
   refine tLdA (a := q_1) (cs := [(.int .i64 a_1.At), (.int .i64 a_1.Kind)]) (ds := [(.int .i64 a_1.At), (.int .i64 a_1.Kind)]) (j := 0) (padd_zero _).symm (Sf.rvE s rv_1) (Nat.le_of_ble_eq_true rfl) rfl ?_
   refine (q_api_Alarm_neq (a := a) (b := a_1)).2 ?_
   by_cases hc_4 : a ≠ a_1
   ·refine (cond_pos hc_4).2 ?_
    replace hp := (Pl.ite_pos hc_4).1 hp
    exact ⟨F_2, false, e0, s, rfl, hp⟩
   ·refine (cond_neg hc_4).2 ?_
    replace hp := (Pl.ite_neg hc_4).1 hp
    refine oBin_add.2 ?_
    obtain ⟨m_1, hm, hi_3⟩ := hp
    exact ⟨m_1, hm, F_2, IntKind.wrap .i64 (x_1 + 1), eL, s, rfl, hi_3⟩
  ·refine (cond_neg hc_1).2 ?_
   replace hp := (Pl.ite_neg hc_1).1 hp
   exact ⟨F_2, true, e0, s, rfl, hp⟩

/-- slices.Equal[[]augur/api.Named,augur/api.Named] -/
def g_slices_Equal_api_Named_api_Named (v0 v1 : Value) (h : Heap) (R : Value → Heap → Prop) : Prop :=
 oLen Try.prog #[31] 3 v0 fun t7 =>
 oLen Try.prog #[31] 3 v1 fun t9 =>
 oBin Try.prog .neq 3 (.tmp 7) (.tmp 9) t7 t9 fun t10 =>
 cond t10
  (R (.bool false) h)
  (oLen Try.prog #[31] 3 v0 fun t12 =>
  loop1 (.int .i64 0) h fun x13 h next =>
  oBin Try.prog .lss 3 (.tmp 13) (.tmp 12) x13 t12 fun t14 =>
  cond t14
   (oIdx Try.prog 31 v0 x13 fun t18 =>
   oLoad Try.prog 53 t18 (Eq h) fun t19 =>
   oIdx Try.prog 31 v1 x13 fun t22 =>
   oLoad Try.prog 53 t22 (Eq h) fun t23 =>
   oBin Try.prog .neq 53 (.tmp 19) (.tmp 23) t19 t23 fun t24 =>
   cond t24
   (R (.bool false) h)
   (oBin Try.prog .add 3 (.tmp 13) (.const (.int .i64 1)) x13 (.int .i64 1) fun t25 =>
   next t25 h))
   (R (.bool true) h))

theorem sh_slices_Equal_api_Named_api_Named {v0 v1 : Value} {h : Heap} {R : Value → Heap → Prop} (hg : g_slices_Equal_api_Named_api_Named v0 v1 h R) : HC Try.prog 21 #[v0, v1] h R := hc_shal [] Try.func21 (by kernel_rfl) hg

set_option maxRecDepth 20000 in
set_option maxHeartbeats 4000000 in
theorem w_slices_Equal_api_Named_api_Named {F : Vw} {h : Heap} {M : List HP} {a0 : List T_api_Named} {v : Value} {a1 : List T_api_Named} {v_1 : Value} {R : Bool → Prop} (s : Sf F h (M)) (r : RL e_api_Named F v a0) (r_1 : RL e_api_Named F v_1 a1) (hp : p_slices_Equal_api_Named_api_Named a0 a1 R) :
  HC Try.prog 21 #[v, v_1] h fun u h' => ∃ (F' : Vw) (r_0 : Bool), Le F F' ∧ Sf F' h' (M) ∧ (.bool r_0) = u ∧ R r_0 := by
 refine sh_slices_Equal_api_Named_api_Named ?_
 unfold g_slices_Equal_api_Named_api_Named
 unfold p_slices_Equal_api_Named_api_Named at hp
 have e0 := Le.refl F
 refine (oLen_sl r.1).2 ?_
 refine (oLen_sl r_1.1).2 ?_
 refine oBin_neq.2 ?_
 by_cases hc : (List.length a0 : Int) ≠ (List.length a1 : Int)
 ·refine (cond_pos hc).2 ?_
  replace hp := (Pl.ite_pos hc).1 hp
  exact ⟨F, false, e0, s, rfl, hp⟩
 ·refine (cond_neg hc).2 ?_
  replace hp := (Pl.ite_neg hc).1 hp
  refine (oLen_sl r.1).2 ?_
  obtain ⟨I, m0, hI, hI_1⟩ := hp
  refine ⟨fun m w h_2 => ∃ (F_2 : Vw) (x_1 : Int) , Le F F_2 ∧ Sf F_2 h_2 (M) ∧ (.int .i64 x_1) = w ∧ I m x_1, m0, ⟨F, 0, Le.refl _, s, rfl, hI⟩, ?_⟩
  clear hI
  rintro m w h_2 ⟨F_2, x_1, g, s, rfl, hi⟩
  have hp := hI_1 m x_1 hi
  replace r := r.le g
  replace r_1 := r_1.le g
  replace e0 := Le.trans e0 g
  have eL := g
  refine oBin_lss.2 ?_
  by_cases hc_1 : x_1 < (List.length a0 : Int)
  ·refine (cond_pos hc_1).2 ?_
   replace hp := (Pl.ite_pos hc_1).1 hp
   obtain ⟨hz, a, hi_1, hp⟩ := hp
   refine tPlF rfl r hz hi_1 fun q c hc_2 rv => ?_
   obtain rfl : c = [(str a.Name), (.bool a.V.Some), (.int .i64 a.V.Lo), (.int .i64 a.V.Hi)] := hc_2
   refine tLdA (a := q) (cs := [(str a.Name), (.bool a.V.Some), (.int .i64 a.V.Lo), (.int .i64 a.V.Hi)]) (ds := [(str a.Name), (.bool a.V.Some), (.int .i64 a.V.Lo), (.int .i64 a.V.Hi)]) (j := 0) (padd_zero _).symm (Sf.rvE s rv) (Nat.le_of_ble_eq_true rfl) rfl ?_
   obtain ⟨hz_1, a_1, hi_2, hp⟩ := hp
   refine tPlF rfl r_1 hz_1 hi_2 fun q_1 c_1 hc_3 rv_1 => ?_
   obtain rfl : c_1 = [(str a_1.Name), (.bool a_1.V.Some), (.int .i64 a_1.V.Lo), (.int .i64 a_1.V.Hi)] := hc_3
   refine tLdA (a := q_1) (cs := [(str a_1.Name), (.bool a_1.V.Some), (.int .i64 a_1.V.Lo), (.int .i64 a_1.V.Hi)]) (ds := [(str a_1.Name), (.bool a_1.V.Some), (.int .i64 a_1.V.Lo), (.int .i64 a_1.V.Hi)]) (j := 0) (padd_zero _).symm (Sf.rvE s rv_1) (Nat.le_of_ble_eq_true rfl) rfl ?_
   refine (q_api_Named_neq (a := a) (b := a_1)).2 ?_
   by_cases hc_4 : a ≠ a_1
   ·refine (cond_pos hc_4).2 ?_
    replace hp := (Pl.ite_pos hc_4).1 hp
    exact ⟨F_2, false, e0, s, rfl, hp⟩
   ·refine (cond_neg hc_4).2 ?_
    replace hp := (Pl.ite_neg hc_4).1 hp
    refine oBin_add.2 ?_
    obtain ⟨m_1, hm, hi_3⟩ := hp
    exact ⟨m_1, hm, F_2, IntKind.wrap .i64 (x_1 + 1), eL, s, rfl, hi_3⟩
  ·refine (cond_neg hc_1).2 ?_
   replace hp := (Pl.ite_neg hc_1).1 hp
   exact ⟨F_2, true, e0, s, rfl, hp⟩

/-- augur/digest.Same -/
def g_digest_Same (v0 v1 : Value) (h : Heap) (R : Value → Heap → Prop) : Prop :=
 oBox Try.prog 33 v0 h fun t2 h => 
 oBox Try.prog 33 v1 h fun t3 h_1 => 
 oFieldAddr Try.prog 33 t2 1 (Eq h_1) fun t5 =>
 oLoad Try.prog 4 t5 (Eq h_1) fun t6 =>
 oFieldAddr Try.prog 33 t3 1 (Eq h_1) fun t7 =>
 oLoad Try.prog 4 t7 (Eq h_1) fun t8 =>
 oBin Try.prog .eql 4 (.tmp 6) (.tmp 8) t6 t8 fun t9 =>
 join (fun (x15 : Value)  =>
  oPick Try.prog t9 x15 (.bool false) fun t16 =>
  join (fun (x22 : Value) (h_2 : Heap) =>
  oPick Try.prog t16 x22 (.bool false) fun t23 =>
  join (fun (x29 : Value) (h_3 : Heap) =>
   oPick Try.prog t23 x29 (.bool false) fun t30 =>
   R t30 h_3)
   fun k_2 =>
  cond t23
   (oFieldAddr Try.prog 33 t2 3 (Eq h_2) fun t25 =>
   oLoad Try.prog 31 t25 (Eq h_2) fun t26 =>
   oFieldAddr Try.prog 33 t3 3 (Eq h_2) fun t27 =>
   oLoad Try.prog 31 t27 (Eq h_2) fun t28 =>
   oCall Try.prog (.func (.func 21) #[] #[]) #[t26, t28] h_2 fun t29 h_4 => 
   k_2 t29 h_4)
   (k_2 undef h_2))
  fun k_1 =>
  cond t16
  (oFieldAddr Try.prog 33 t2 0 (Eq h_1) fun t18 =>
  oLoad Try.prog 28 t18 (Eq h_1) fun t19 =>
  oFieldAddr Try.prog 33 t3 0 (Eq h_1) fun t20 =>
  oLoad Try.prog 28 t20 (Eq h_1) fun t21 =>
  oCall Try.prog (.func (.func 20) #[] #[]) #[t19, t21] h_1 fun t22 h_5 => 
  k_1 t22 h_5)
  (k_1 undef h_1))
  fun k =>
 cond t9
  (oFieldAddr Try.prog 33 t2 2 (Eq h_1) fun t11 =>
  oLoad Try.prog 30 t11 (Eq h_1) fun t12 =>
  oFieldAddr Try.prog 33 t3 2 (Eq h_1) fun t13 =>
  oLoad Try.prog 30 t13 (Eq h_1) fun t14 =>
  oBin Try.prog .eql 30 (.tmp 12) (.tmp 14) t12 t14 fun t15 =>
  k t15)
  (k undef)

theorem sh_digest_Same {v0 v1 : Value} {h : Heap} {R : Value → Heap → Prop} (hg : g_digest_Same v0 v1 h R) : HC Try.prog 8 #[v0, v1] h R := hc_shal [] Try.func8 (by kernel_rfl) hg

set_option maxRecDepth 20000 in
set_option maxHeartbeats 4000000 in
theorem w_digest_Same {F : Vw} {h : Heap} {M : List HP} {a0 : T_api_Summary} {v : Value} {v_1 : Value} {a1 : T_api_Summary} {v_2 : Value} {v_3 : Value} {R : Bool → Prop} (s : Sf F h (M)) (r : RL e_api_Alarm F v a0.Alarms) (r_1 : RL e_api_Named F v_1 a0.Mod) (r_2 : RL e_api_Alarm F v_2 a1.Alarms) (r_3 : RL e_api_Named F v_3 a1.Mod) (hp : p_digest_Same a0 a1 R) :
  HC Try.prog 8 #[(.agg #[v, (.bool a0.Ends), (.bool a0.Ret.Some), (.int .i64 a0.Ret.Lo), (.int .i64 a0.Ret.Hi), v_1]), (.agg #[v_2, (.bool a1.Ends), (.bool a1.Ret.Some), (.int .i64 a1.Ret.Lo), (.int .i64 a1.Ret.Hi), v_3])] h fun u h' => ∃ (F' : Vw) (r_0 : Bool), Le F F' ∧ Sf F' h' (M) ∧ (.bool r_0) = u ∧ R r_0 := by
 refine sh_digest_Same ?_
 unfold g_digest_Same
 unfold p_digest_Same at hp
 have e0 := Le.refl F
 refine tBx s (vs := [v, (.bool a0.Ends), (.bool a0.Ret.Some), (.int .i64 a0.Ret.Lo), (.int .i64 a0.Ret.Hi), v_1]) (by rfl) fun p h_1 s => ?_
 refine tBx s (vs := [v_2, (.bool a1.Ends), (.bool a1.Ret.Some), (.int .i64 a1.Ret.Lo), (.int .i64 a1.Ret.Hi), v_3]) (by rfl) fun p_1 h_2 s => ?_
 refine tFA (a := p) (n := 0) (padd_zero _).symm rfl ?_
 refine tLd (p := .pointer (some p)) (cs := [v, (.bool a0.Ends), (.bool a0.Ret.Some), (.int .i64 a0.Ret.Lo), (.int .i64 a0.Ret.Hi), v_1]) (j := 1) rfl (Sf.ceE (Cx.new_at p) 1 rfl s) rfl ?_
 refine tFA (a := p_1) (n := 0) (padd_zero _).symm rfl ?_
 refine tLd (p := .pointer (some p_1)) (cs := [v_2, (.bool a1.Ends), (.bool a1.Ret.Some), (.int .i64 a1.Ret.Lo), (.int .i64 a1.Ret.Hi), v_3]) (j := 1) rfl (Sf.ceE (Cx.new_at p_1) 0 rfl s) rfl ?_
 refine oBin_bool_eql.2 ?_
 obtain ⟨kp, hk_1, hp⟩ := Pl.join_elim hp
 refine Sh.join_intro fun k hk => ?_
 have hK : ∀ (x : Bool) (w : Value), (∀ K : Value → Prop, K (.bool x) → oPick Try.prog (.bool (a0.Ends == a1.Ends)) w (.bool false) K) → kp x → k w := by
  intro x w hw hp
  rw [hk]
  rw [hk_1] at hp
  refine hw _ ?_
  obtain ⟨kp_1, hk_3, hp⟩ := Pl.join_elim hp
  have ej := Le.refl F
  refine Sh.join_intro fun k_1 hk_2 => ?_
  have hK_1 : ∀ (F_1 : Vw) (h_3 : Heap) (x_1 : Bool) (w_1 : Value), (∀ K : Value → Prop, K (.bool x_1) → oPick Try.prog (.bool x) w_1 (.bool false) K) → Le F F_1 → Sf F_1 h_3 (Ce (Cx.new p_1) [v_2, (.bool a1.Ends), (.bool a1.Ret.Some), (.int .i64 a1.Ret.Lo), (.int .i64 a1.Ret.Hi), v_3] :: Ce (Cx.new p) [v, (.bool a0.Ends), (.bool a0.Ret.Some), (.int .i64 a0.Ret.Lo), (.int .i64 a0.Ret.Hi), v_1] :: M) → kp_1 x_1 → k_1 w_1 h_3 := by
   intro F_1 h_3 x_1 w_1 hw_1 g s  hp
   rw [hk_2]
   rw [hk_3] at hp
   refine hw_1 _ ?_
   replace r_2 := r_2.le g
   replace r_3 := r_3.le g
   replace r := r.le g
   replace r_1 := r_1.le g
   replace e0 := Le.trans e0 g
   replace ej := Le.trans ej g
   obtain ⟨kp_2, hk_5, hp⟩ := Pl.join_elim hp
   have ej_1 := Le.refl F_1
   refine Sh.join_intro fun k_2 hk_4 => ?_
   have hK_2 : ∀ (F_2 : Vw) (h_4 : Heap) (x_2 : Bool) (w_2 : Value), (∀ K : Value → Prop, K (.bool x_2) → oPick Try.prog (.bool x_1) w_2 (.bool false) K) → Le F_1 F_2 → Sf F_2 h_4 (Ce (Cx.new p_1) [v_2, (.bool a1.Ends), (.bool a1.Ret.Some), (.int .i64 a1.Ret.Lo), (.int .i64 a1.Ret.Hi), v_3] :: Ce (Cx.new p) [v, (.bool a0.Ends), (.bool a0.Ret.Some), (.int .i64 a0.Ret.Lo), (.int .i64 a0.Ret.Hi), v_1] :: M) → kp_2 x_2 → k_2 w_2 h_4 := by
    intro F_2 h_4 x_2 w_2 hw_2 g_1 s  hp
    rw [hk_4]
    rw [hk_5] at hp
    refine hw_2 _ ?_
    replace r_2 := r_2.le g_1
    replace r_3 := r_3.le g_1
    replace r := r.le g_1
    replace r_1 := r_1.le g_1
    replace e0 := Le.trans e0 g_1
    replace ej := Le.trans ej g_1
    replace ej_1 := Le.trans ej_1 g_1
    replace s := Sf.dropAt 0 rfl s
    replace s := Sf.dropAt 0 rfl s
    exact ⟨F_2, x_2, e0, s, rfl, hp⟩
   clear hk_4 hk_5
   by_cases hc : x_1 = true
   ·refine (cond_tt hc).2 ?_
    replace hp := (Pl.ite_pos hc).1 hp
    refine tFA (a := p) (n := 0) (padd_zero _).symm rfl ?_
    refine tLd (p := .pointer (some p)) (cs := [v, (.bool a0.Ends), (.bool a0.Ret.Some), (.int .i64 a0.Ret.Lo), (.int .i64 a0.Ret.Hi), v_1]) (j := 5) rfl (Sf.ceE (Cx.new_at p) 1 rfl s) rfl ?_
    refine tFA (a := p_1) (n := 0) (padd_zero _).symm rfl ?_
    refine tLd (p := .pointer (some p_1)) (cs := [v_2, (.bool a1.Ends), (.bool a1.Ret.Some), (.int .i64 a1.Ret.Lo), (.int .i64 a1.Ret.Hi), v_3]) (j := 5) rfl (Sf.ceE (Cx.new_at p_1) 0 rfl s) rfl ?_
    refine oCall_func (HC.mono (w_slices_Equal_api_Named_api_Named (a0 := a0.Mod) (a1 := a1.Mod) s r_1 r_3 hp) ?_)
    rintro u h_5 ⟨F_3, r_4, g_2, s, rfl, hp⟩
    replace r_1 := r_1.le g_2
    replace r_3 := r_3.le g_2
    replace r_2 := r_2.le g_2
    replace r := r.le g_2
    replace e0 := Le.trans e0 g_2
    replace ej := Le.trans ej g_2
    replace ej_1 := Le.trans ej_1 g_2
    exact hK_2 _ _ r_4 _ (fun _ h => oPick_hc hc h) ej_1 s  hp
   ·refine (cond_ff hc).2 ?_
    replace hp := (Pl.ite_neg hc).1 hp
    exact hK_2 _ _ false _ (fun _ h => oPick_hn hc h) ej_1 s  hp
  clear hk_2 hk_3
  by_cases hc_1 : x = true
  ·refine (cond_tt hc_1).2 ?_
   replace hp := (Pl.ite_pos hc_1).1 hp
   refine tFA (a := p) (n := 0) (padd_zero _).symm (padd_zero _) ?_
   refine tLd (p := .pointer (some p)) (cs := [v, (.bool a0.Ends), (.bool a0.Ret.Some), (.int .i64 a0.Ret.Lo), (.int .i64 a0.Ret.Hi), v_1]) (j := 0) (padd_zero _).symm (Sf.ceE (Cx.new_at p) 1 rfl s) rfl ?_
   refine tFA (a := p_1) (n := 0) (padd_zero _).symm (padd_zero _) ?_
   refine tLd (p := .pointer (some p_1)) (cs := [v_2, (.bool a1.Ends), (.bool a1.Ret.Some), (.int .i64 a1.Ret.Lo), (.int .i64 a1.Ret.Hi), v_3]) (j := 0) (padd_zero _).symm (Sf.ceE (Cx.new_at p_1) 0 rfl s) rfl ?_
   refine oCall_func (HC.mono (w_slices_Equal_api_Alarm_api_Alarm (a0 := a0.Alarms) (a1 := a1.Alarms) s r r_2 hp) ?_)
   rintro u_1 h_6 ⟨F_4, r_5, g_3, s, rfl, hp⟩
   replace r := r.le g_3
   replace r_2 := r_2.le g_3
   replace r_3 := r_3.le g_3
   replace r_1 := r_1.le g_3
   replace e0 := Le.trans e0 g_3
   replace ej := Le.trans ej g_3
   exact hK_1 _ _ r_5 _ (fun _ h => oPick_hc hc_1 h) ej s  hp
  ·refine (cond_ff hc_1).2 ?_
   replace hp := (Pl.ite_neg hc_1).1 hp
   exact hK_1 _ _ false _ (fun _ h => oPick_hn hc_1 h) ej s  hp
 clear hk hk_1
 by_cases hc_2 : (a0.Ends == a1.Ends) = true
 ·refine (cond_tt hc_2).2 ?_
  replace hp := (Pl.ite_pos hc_2).1 hp
  refine tFA (a := p) (n := 0) (padd_zero _).symm rfl ?_
  refine tLdA (a := p) (cs := [v, (.bool a0.Ends), (.bool a0.Ret.Some), (.int .i64 a0.Ret.Lo), (.int .i64 a0.Ret.Hi), v_1]) (ds := [(.bool a0.Ret.Some), (.int .i64 a0.Ret.Lo), (.int .i64 a0.Ret.Hi)]) (j := 2) rfl (Sf.ceE (Cx.new_at p) 1 rfl s) (Nat.le_of_ble_eq_true rfl) rfl ?_
  refine tFA (a := p_1) (n := 0) (padd_zero _).symm rfl ?_
  refine tLdA (a := p_1) (cs := [v_2, (.bool a1.Ends), (.bool a1.Ret.Some), (.int .i64 a1.Ret.Lo), (.int .i64 a1.Ret.Hi), v_3]) (ds := [(.bool a1.Ret.Some), (.int .i64 a1.Ret.Lo), (.int .i64 a1.Ret.Hi)]) (j := 2) rfl (Sf.ceE (Cx.new_at p_1) 0 rfl s) (Nat.le_of_ble_eq_true rfl) rfl ?_
  refine (q_api_Ival_eql (a := a0.Ret) (b := a1.Ret)).2 ?_
  exact hK (decide (a0.Ret = a1.Ret)) _ (fun _ h => oPick_hc hc_2 h) hp
 ·refine (cond_ff hc_2).2 ?_
  replace hp := (Pl.ite_neg hc_2).1 hp
  exact hK false _ (fun _ h => oPick_hn hc_2 h) hp

end Go.Proofs.Ytaibfbakhiainaa

namespace Go.Proofs.Ytaibfbakhiainaa
open Go Go.Sh Go.Sx

/-- Alarms as pairs. -/
def alP (a : T_api_Alarm) : Int × Int := (a.At, a.Kind)
def alU (p : Int × Int) : T_api_Alarm := ⟨p.1, p.2⟩
theorem alU_alP (a : T_api_Alarm) : alU (alP a) = a := rfl
theorem alP_alU (p : Int × Int) : alP (alU p) = p := rfl
theorem alUP (l : List T_api_Alarm) : (l.map alP).map alU = l := by simp [alU_alP, Function.comp_def]
theorem cl_al {F : Vw} : ∀ {cs : List Value} {l : List T_api_Alarm}, CL e_api_Alarm F cs l → cs = (l.map alP).flatMap Old.cal
  | _, [], h => h
  | _, a :: l, ⟨c, d, h, hc, hd⟩ => by
    rw [h, show c = [.int .i64 a.At, .int .i64 a.Kind] from hc, cl_al hd]; rfl
theorem al_cl (F : Vw) : ∀ l : List (Int × Int), CL e_api_Alarm F (l.flatMap Old.cal) (l.map alU)
  | [] => rfl
  | a :: l => ⟨Old.cal a, _, by simp, rfl, al_cl F l⟩
/-- Intervals. -/
def ivU (a : Iv) : T_api_Ival :=
  match a with
  | none => ⟨false, 0, 0⟩
  | some (l, h) => ⟨true, l, h⟩
theorem ivU_inj {a b : Iv} (h : ivU a = ivU b) : a = b := by
  rcases a with _ | ⟨l, g⟩ <;> rcases b with _ | ⟨k, f⟩ <;> simp_all [ivU]
theorem civ_ivU (a : Iv) : Old.civ a = [.bool (ivU a).Some, .int .i64 (ivU a).Lo, .int .i64 (ivU a).Hi] := by
  rcases a with _ | ⟨l, g⟩ <;> rfl
def nmU' (p : Str × Iv) : T_api_Named := ⟨p.1, ivU p.2⟩
theorem cl_nm {F : Vw} : ∀ {cs : List Value} {l : List (Str × Iv)}, CL e_api_Named F cs (l.map nmU') → cs = l.flatMap Old.cnm
  | _, [], h => h
  | _, a :: l, ⟨c, d, h, hc, hd⟩ => by
    rw [h, show c = [str a.1, .bool (ivU a.2).Some, .int .i64 (ivU a.2).Lo, .int .i64 (ivU a.2).Hi] from hc, cl_nm hd, List.flatMap_cons]
    simp [Old.cnm, civ_ivU]
theorem nm_cl (F : Vw) : ∀ l : List (Str × Iv), CL e_api_Named F (l.flatMap Old.cnm) (l.map nmU')
  | [] => rfl
  | a :: l => ⟨Old.cnm a, _, by simp, by
      show Old.cnm a = _
      simp [Old.cnm, civ_ivU, nmU'], nm_cl F l⟩
theorem rl_al {F : Vw} {h : Heap} {v : Value} {l : List T_api_Alarm} (r : RL e_api_Alarm F v l) (f : Fit F h) : Old.RdA h v (l.map alP) := by
  obtain ⟨hv, _, cs, hr, hc⟩ := r
  rw [cl_al hc] at hr
  exact ⟨by simpa using hv, hr.rd f⟩
theorem rl_nm {F : Vw} {h : Heap} {v : Value} {l : List (Str × Iv)} (r : RL e_api_Named F v (l.map nmU')) (f : Fit F h) : Old.RdN h v l := by
  obtain ⟨hv, _, cs, hr, hc⟩ := r
  rw [cl_nm hc] at hr
  exact ⟨by simpa using hv, hr.rd f⟩
/-- The alarms of two lists. -/
def alsU (a b : List T_api_Alarm) : List T_api_Alarm := (Old.unA (a.map alP) (b.map alP)).map alU

def p_digest_digest_alarms (a0 : T_digest_digest) (a1 a2 : List T_api_Alarm) (R : T_digest_digest → Prop) : Prop :=
  a1.length ≤ 100000 ∧ a2.length ≤ 100000 ∧ R ⟨⟨alsU a1 a2, a0.Summary.Ends, a0.Summary.Ret, a0.Summary.Mod⟩⟩
set_option maxRecDepth 8000 in
theorem w_digest_digest_alarms {F : Vw} {h : Heap} {M : List HP} {a0 : T_digest_digest} {a1 a2 : List T_api_Alarm} {p0 : Addr} {v v_2 v_3 : Value} {R : T_digest_digest → Prop}
    (s : Sf F h (Ce (Cx.new p0) [v, .bool a0.Summary.Ends, .bool a0.Summary.Ret.Some, .int .i64 a0.Summary.Ret.Lo, .int .i64 a0.Summary.Ret.Hi, .slice none 0 0] :: M))
    (r0 : RL e_api_Alarm F v a0.Summary.Alarms) (r2 : RL e_api_Alarm F v_2 a1) (r3 : RL e_api_Alarm F v_3 a2) (hp : p_digest_digest_alarms a0 a1 a2 R) :
    HC Try.prog 36 #[.pointer (some p0), v_2, v_3] h fun u h' => ∃ (F' : Vw) (b0 : T_digest_digest) (u0 : Value), Le F F' ∧
      Sf F' h' (Ce (Cx.new p0) [u0, .bool b0.Summary.Ends, .bool b0.Summary.Ret.Some, .int .i64 b0.Summary.Ret.Lo, .int .i64 b0.Summary.Ret.Hi, .slice none 0 0] :: M) ∧ True ∧ RL e_api_Alarm F' u0 b0.Summary.Alarms ∧ R b0 := by
  obtain ⟨l1, l2, hp⟩ := hp
  have s1 := s.off
  rw [Ce.new] at s1
  refine HC.mono (Old.alarmsD_ok ⟨p0, rfl⟩ s1 rfl (rl_al r2 s.fit) (rl_al r3 s.fit) (by simpa using l1) (by simpa using l2)) ?_
  rintro u h' ⟨x, s2⟩
  have s3 : Sf F h' (Row 2 x (Old.unA (a1.map alP) (a2.map alP)).length ((Old.unA (a1.map alP) (a2.map alP)).flatMap Old.cal) :: Ce (Cx.new p0) [x, .bool a0.Summary.Ends, .bool a0.Summary.Ret.Some, .int .i64 a0.Summary.Ret.Lo, .int .i64 a0.Summary.Ret.Hi, .slice none 0 0] :: M) := by
    rw [Ce.new]
    exact St.perm s2 (by
      refine .trans (.swap _ _ _) ?_
      refine .trans (.cons _ (.swap _ _ _)) ?_
      exact .swap _ _ _)
  obtain ⟨G, g, s4, rr⟩ := Sf.freezeRL (e := e_api_Alarm) (l := alsU a1 a2) 0 rfl s3 (by simp [alsU]) (al_cl F _)
  exact ⟨G, ⟨⟨alsU a1 a2, a0.Summary.Ends, a0.Summary.Ret, a0.Summary.Mod⟩⟩, x, g, s4, trivial, rr, hp⟩

/-- What a list of cells is held to be. -/
structure NmOk (l : List (Str × Iv)) : Prop where
  len : l.length ≤ 100000
  nd : (l.map (·.1)).Nodup
  nm : ∀ x ∈ l, x.1.length ≤ 1000000
  iv : ∀ k, (Old.gt l k).Ok
def p_digest_digest_cells (a0 : T_digest_digest) (a1 a2 : List T_api_Named) (a3 : T_api_Ival → T_api_Ival → (T_api_Ival → Prop) → Prop) (R : T_digest_digest → Prop) : Prop :=
  ∃ (U : Iv → Iv → Iv) (l1 l2 : List (Str × Iv)), (∀ x y : Iv, x.Ok → y.Ok → (U x y).Ok) ∧ (∀ x y : Iv, x.Ok → y.Ok → a3 (ivU x) (ivU y) fun r => r = ivU (U x y)) ∧
    a1 = l1.map nmU' ∧ a2 = l2.map nmU' ∧ NmOk l1 ∧ NmOk l2 ∧ R ⟨⟨a0.Summary.Alarms, a0.Summary.Ends, a0.Summary.Ret, (Old.mdU U l1 l2).map nmU'⟩⟩
set_option maxRecDepth 8000 in
theorem w_digest_digest_cells {F : Vw} {h : Heap} {M : List HP} {a0 : T_digest_digest} {a1 a2 : List T_api_Named} {a3 : T_api_Ival → T_api_Ival → (T_api_Ival → Prop) → Prop} {p0 : Addr} {f3 v v_2 v_3 : Value} {R : T_digest_digest → Prop}
    (s : Sf F h (Ce (Cx.new p0) [v, .bool a0.Summary.Ends, .bool a0.Summary.Ret.Some, .int .i64 a0.Summary.Ret.Lo, .int .i64 a0.Summary.Ret.Hi, .slice none 0 0] :: M))
    (r0 : RL e_api_Alarm F v a0.Summary.Alarms) (r2 : RL e_api_Named F v_2 a1) (r3 : RL e_api_Named F v_3 a2)
    (hf3 : ∀ {F : Vw} {h : Heap} {M : List HP} {x0 x1 : T_api_Ival} {R : T_api_Ival → Prop}, Sf F h M → a3 x0 x1 R → oCall Try.prog f3 #[.agg #[.bool x0.Some, .int .i64 x0.Lo, .int .i64 x0.Hi], .agg #[.bool x1.Some, .int .i64 x1.Lo, .int .i64 x1.Hi]] h
      fun u h' => ∃ (F' : Vw) (r_0 : T_api_Ival), Le F F' ∧ Sf F' h' M ∧ .agg #[.bool r_0.Some, .int .i64 r_0.Lo, .int .i64 r_0.Hi] = u ∧ R r_0)
    (hp : p_digest_digest_cells a0 a1 a2 a3 R) :
    HC Try.prog 37 #[.pointer (some p0), v_2, v_3, f3] h fun u h' => ∃ (F' : Vw) (b0 : T_digest_digest) (u0 u1 : Value), Le F F' ∧
      Sf F' h' (Ce (Cx.new p0) [u0, .bool b0.Summary.Ends, .bool b0.Summary.Ret.Some, .int .i64 b0.Summary.Ret.Lo, .int .i64 b0.Summary.Ret.Hi, u1] :: M) ∧ True ∧ RL e_api_Alarm F' u0 b0.Summary.Alarms ∧ RL e_api_Named F' u1 b0.Summary.Mod ∧ R b0 := by
  obtain ⟨U, l1, l2, hU, h3, rfl, rfl, ok1, ok2, hp⟩ := hp
  have s1 := s.off
  rw [Ce.new] at s1
  have eag : ∀ x : Iv, Old.eiv x = .agg #[.bool (ivU x).Some, .int .i64 (ivU x).Lo, .int .i64 (ivU x).Hi] := fun x => by simp [Old.eiv, civ_ivU]
  refine HC.mono (Old.cellsD_ok U hU (fun {h x y K} hx hy hk => ?_) ⟨p0, rfl⟩ s1 rfl rfl (rl_nm r2 s.fit) (rl_nm r3 s.fit) ok1.len ok2.len ok1.nd ok2.nd ok1.nm ok2.nm ok1.iv ok2.iv) ?_
  · rw [eag, eag]
    refine Sx.mono ?_ (hf3 (Sf.start h) (h3 x y hx hy))
    rintro u h' ⟨F', r, g, s', rfl, rfl⟩
    rw [← eag]
    exact hk h' (fit_ext (s'.fit.le g))
  · rintro u h' ⟨x, s2⟩
    have s3 : Sf F h' (Row 4 x (Old.mdU U l1 l2).length ((Old.mdU U l1 l2).flatMap Old.cnm) :: Ce (Cx.new p0) [v, .bool a0.Summary.Ends, .bool a0.Summary.Ret.Some, .int .i64 a0.Summary.Ret.Lo, .int .i64 a0.Summary.Ret.Hi, x] :: M) := by
      rw [Ce.new]
      exact St.perm s2 (by
        refine .trans (.swap _ _ _) ?_
        refine .trans (.cons _ (.swap _ _ _)) ?_
        exact .swap _ _ _)
    obtain ⟨G, g, s4, rr⟩ := Sf.freezeRL (e := e_api_Named) (l := (Old.mdU U l1 l2).map nmU') 0 rfl s3 (by simp) (nm_cl F _)
    exact ⟨G, ⟨⟨a0.Summary.Alarms, a0.Summary.Ends, a0.Summary.Ret, (Old.mdU U l1 l2).map nmU'⟩⟩, v, x, g, s4, trivial, r0.le g, rr, hp⟩
end Go.Proofs.Ytaibfbakhiainaa
namespace Go.Proofs.Ytaibfbakhiainaa
open Go Go.Sh

/-- augur/digest.both -/
def p_digest_both (a0 : T_api_Summary) (a1 : T_api_Summary) (a2 : (T_api_Ival → T_api_Ival → (T_api_Ival → Prop) → Prop)) (R : T_api_Summary → Prop) : Prop :=
  p_digest_digest_alarms (⟨(⟨([] : List T_api_Alarm), false, (⟨false, 0, 0⟩ : T_api_Ival), ([] : List T_api_Named)⟩ : T_api_Summary)⟩ : T_digest_digest) a0.Alarms a1.Alarms fun b =>
  Pl.join (fun (x : Bool) =>
    a2 a0.Ret a1.Ret fun r_5 =>
    p_digest_digest_cells (⟨(⟨b.Summary.Alarms, x, r_5, ([] : List T_api_Named)⟩ : T_api_Summary)⟩ : T_digest_digest) a0.Mod a1.Mod a2 fun b_1 =>
    R b_1.Summary)
   fun kp =>
  Pl.ite (a0.Ends = true)
   (kp true)
   (kp a1.Ends)

/-- augur/digest.Join -/
def p_digest_Join (a0 : T_api_Summary) (a1 : T_api_Summary) (R : T_api_Summary → Prop) : Prop :=
  p_digest_both a0 a1 p_digest_Join_1 fun r_4 =>
  R r_4

/-- augur/digest.Widen -/
def p_digest_Widen (a0 : T_api_Summary) (a1 : T_api_Summary) (R : T_api_Summary → Prop) : Prop :=
  p_digest_both a0 a1 p_ival_Widen fun r_4 =>
  R r_4

/-- augur/digest.Leq -/
def p_digest_Leq (a0 : T_api_Summary) (a1 : T_api_Summary) (R : Bool → Prop) : Prop :=
  p_digest_Join a0 a1 fun r_4 =>
  p_digest_Same r_4 a1 fun r_7 =>
  R r_7

end Go.Proofs.Ytaibfbakhiainaa

namespace Go.Proofs.Ytaibfbakhiainaa
open Go Go.Sh
set_option maxRecDepth 100000
attribute [local irreducible] Go.wpQuiet Go.wpList Go.Sh.mixL Go.Sh.mixF Go.Sh.wpAnyE Go.Code.wp

/-- augur/digest.both -/
def g_digest_both (v0 v1 v2 : Value) (h : Heap) (R : Value → Heap → Prop) : Prop :=
 oBox Try.prog 33 v0 h fun t3 h => 
 oBox Try.prog 33 v1 h fun t4 h_1 => 
 oAlloc Try.prog 33 h_1 fun t6 h_2 => 
 oAlloc Try.prog 81 h_2 fun t7 h_3 => 
 oFieldAddr Try.prog 33 t3 0 (Eq h_3) fun t8 =>
 oLoad Try.prog 28 t8 (Eq h_3) fun t9 =>
 oFieldAddr Try.prog 33 t4 0 (Eq h_3) fun t10 =>
 oLoad Try.prog 28 t10 (Eq h_3) fun t11 =>
 oCall Try.prog (.func (.func 36) #[] #[]) #[t7, t9, t11] h_3 fun t12 h_4 => 
 oFieldAddr Try.prog 33 t3 1 (Eq h_4) fun t13 =>
 oLoad Try.prog 4 t13 (Eq h_4) fun t14 =>
 join (fun (x17 : Value)  =>
  oPick Try.prog t14 (.bool true) x17 fun t18 =>
  oFieldAddr Try.prog 81 t7 0 (Eq h_4) fun t19 =>
  oFieldAddr Try.prog 33 t19 1 (Eq h_4) fun t20 =>
  oStore Try.prog 4 t20 t18 h_4 fun _ h_5 => 
  oFieldAddr Try.prog 33 t3 2 (Eq h_5) fun t22 =>
  oLoad Try.prog 30 t22 (Eq h_5) fun t23 =>
  oFieldAddr Try.prog 33 t4 2 (Eq h_5) fun t24 =>
  oLoad Try.prog 30 t24 (Eq h_5) fun t25 =>
  oCall Try.prog v2 #[t23, t25] h_5 fun t26 h_6 => 
  oFieldAddr Try.prog 81 t7 0 (Eq h_6) fun t27 =>
  oFieldAddr Try.prog 33 t27 2 (Eq h_6) fun t28 =>
  oStore Try.prog 30 t28 t26 h_6 fun _ h_7 => 
  oFieldAddr Try.prog 33 t3 3 (Eq h_7) fun t29 =>
  oLoad Try.prog 31 t29 (Eq h_7) fun t30 =>
  oFieldAddr Try.prog 33 t4 3 (Eq h_7) fun t31 =>
  oLoad Try.prog 31 t31 (Eq h_7) fun t32 =>
  oCall Try.prog (.func (.func 37) #[] #[]) #[t7, t30, t32, v2] h_7 fun t34 h_8 => 
  oFieldAddr Try.prog 81 t7 0 (Eq h_8) fun t35 =>
  oLoad Try.prog 33 t35 (Eq h_8) fun t36 =>
  oStore Try.prog 33 t6 t36 h_8 fun _ h_9 => 
  oRes Try.prog [(some 33, t6)] h_9 R)
  fun k =>
 cond t14
  (k undef)
  (oFieldAddr Try.prog 33 t4 1 (Eq h_4) fun t16 =>
  oLoad Try.prog 4 t16 (Eq h_4) fun t17 =>
  k t17)

theorem sh_digest_both {v0 v1 v2 : Value} {h : Heap} {R : Value → Heap → Prop} (hg : g_digest_both v0 v1 v2 h R) : HC Try.prog 23 #[v0, v1, v2] h R := hc_shal [] Try.func23 (by kernel_rfl) hg

set_option maxRecDepth 20000 in
set_option maxHeartbeats 4000000 in
theorem w_digest_both {F : Vw} {h : Heap} {M : List HP} {a0 : T_api_Summary} {v : Value} {v_1 : Value} {a1 : T_api_Summary} {v_2 : Value} {v_3 : Value} {a2 : (T_api_Ival → T_api_Ival → (T_api_Ival → Prop) → Prop)} {f2 : Value} {R : T_api_Summary → Prop} (s : Sf F h (M)) (r : RL e_api_Alarm F v a0.Alarms) (r_1 : RL e_api_Named F v_1 a0.Mod) (r_2 : RL e_api_Alarm F v_2 a1.Alarms) (r_3 : RL e_api_Named F v_3 a1.Mod) (hf2 : ∀ {F : Vw} {h : Heap} {M : List HP} {x0 : T_api_Ival} {x1 : T_api_Ival} {R : T_api_Ival → Prop}, Sf F h M → a2 x0 x1 R → oCall Try.prog f2 #[(.agg #[(.bool x0.Some), (.int .i64 x0.Lo), (.int .i64 x0.Hi)]), (.agg #[(.bool x1.Some), (.int .i64 x1.Lo), (.int .i64 x1.Hi)])] h fun u h' => ∃ (F' : Vw) (r_0 : T_api_Ival), Le F F' ∧ Sf F' h' M ∧ (.agg #[(.bool r_0.Some), (.int .i64 r_0.Lo), (.int .i64 r_0.Hi)]) = u ∧ R r_0) (hp : p_digest_both a0 a1 a2 R) :
  HC Try.prog 23 #[(.agg #[v, (.bool a0.Ends), (.bool a0.Ret.Some), (.int .i64 a0.Ret.Lo), (.int .i64 a0.Ret.Hi), v_1]), (.agg #[v_2, (.bool a1.Ends), (.bool a1.Ret.Some), (.int .i64 a1.Ret.Lo), (.int .i64 a1.Ret.Hi), v_3]), f2] h fun u h' => ∃ (F' : Vw) (r_0 : T_api_Summary) (z0_0 : Value) (z0_5 : Value), Le F F' ∧ Sf F' h' (M) ∧ (.agg #[z0_0, (.bool r_0.Ends), (.bool r_0.Ret.Some), (.int .i64 r_0.Ret.Lo), (.int .i64 r_0.Ret.Hi), z0_5]) = u ∧ RL e_api_Alarm F' z0_0 r_0.Alarms ∧ RL e_api_Named F' z0_5 r_0.Mod ∧ R r_0 := by
 refine sh_digest_both ?_
 unfold g_digest_both
 unfold p_digest_both at hp
 have e0 := Le.refl F
 refine tBx s (vs := [v, (.bool a0.Ends), (.bool a0.Ret.Some), (.int .i64 a0.Ret.Lo), (.int .i64 a0.Ret.Hi), v_1]) (by rfl) fun p h_1 s => ?_
 refine tBx s (vs := [v_2, (.bool a1.Ends), (.bool a1.Ret.Some), (.int .i64 a1.Ret.Lo), (.int .i64 a1.Ret.Hi), v_3]) (by rfl) fun p_1 h_2 s => ?_
 refine tAl s (vs := [(.slice none 0 0), (.bool false), (.bool false), (.int .i64 0), (.int .i64 0), (.slice none 0 0)]) (by rfl) fun p_2 h_3 s => ?_
 refine tAl s (vs := [(.slice none 0 0), (.bool false), (.bool false), (.int .i64 0), (.int .i64 0), (.slice none 0 0)]) (by rfl) fun p_3 h_4 s => ?_
 refine tFA (a := p) (n := 0) (padd_zero _).symm (padd_zero _) ?_
 refine tLd (p := .pointer (some p)) (cs := [v, (.bool a0.Ends), (.bool a0.Ret.Some), (.int .i64 a0.Ret.Lo), (.int .i64 a0.Ret.Hi), v_1]) (j := 0) (padd_zero _).symm (Sf.ceE (Cx.new_at p) 3 rfl s) rfl ?_
 refine tFA (a := p_1) (n := 0) (padd_zero _).symm (padd_zero _) ?_
 refine tLd (p := .pointer (some p_1)) (cs := [v_2, (.bool a1.Ends), (.bool a1.Ret.Some), (.int .i64 a1.Ret.Lo), (.int .i64 a1.Ret.Hi), v_3]) (j := 0) (padd_zero _).symm (Sf.ceE (Cx.new_at p_1) 2 rfl s) rfl ?_
 refine oCall_func (HC.mono (w_digest_digest_alarms (a0 := (⟨(⟨([] : List T_api_Alarm), false, (⟨false, 0, 0⟩ : T_api_Ival), ([] : List T_api_Named)⟩ : T_api_Summary)⟩ : T_digest_digest)) (a1 := a0.Alarms) (a2 := a1.Alarms) s (RL.nil _ _ 0) r r_2 hp) ?_)
 rintro u h_5 ⟨F_1, b, v_4, g, s, _, r_4, hp⟩
 replace r := r.le g
 replace r_2 := r_2.le g
 replace r_3 := r_3.le g
 replace r_1 := r_1.le g
 replace e0 := Le.trans e0 g
 refine tFA (a := p) (n := 0) (padd_zero _).symm rfl ?_
 refine tLd (p := .pointer (some p)) (cs := [v, (.bool a0.Ends), (.bool a0.Ret.Some), (.int .i64 a0.Ret.Lo), (.int .i64 a0.Ret.Hi), v_1]) (j := 1) rfl (Sf.ceE (Cx.new_at p) 3 rfl s) rfl ?_
 obtain ⟨kp, hk_1, hp⟩ := Pl.join_elim hp
 refine Sh.join_intro fun k hk => ?_
 have hK : ∀ (x : Bool) (w : Value), (∀ K : Value → Prop, K (.bool x) → oPick Try.prog (.bool a0.Ends) (.bool true) w K) → kp x → k w := by
  intro x w hw hp
  rw [hk]
  rw [hk_1] at hp
  refine hw _ ?_
  refine tFA (a := p_3) (n := 0) (padd_zero _).symm (padd_zero _) ?_
  refine tFA (a := p_3) (n := 0) (padd_zero _).symm rfl ?_
  refine tSt (cs := [v_4, (.bool b.Summary.Ends), (.bool b.Summary.Ret.Some), (.int .i64 b.Summary.Ret.Lo), (.int .i64 b.Summary.Ret.Hi), (.slice none 0 0)]) (vs := [(.bool x)]) (cs' := [v_4, (.bool x), (.bool b.Summary.Ret.Some), (.int .i64 b.Summary.Ret.Lo), (.int .i64 b.Summary.Ret.Hi), (.slice none 0 0)]) (j := 1) 0 rfl s (Cx.new_at p_3) rfl (by rfl) rfl (Nat.le_of_ble_eq_true rfl) (ones_cons rfl ones_nil) rfl fun h_6 s => ?_
  refine tFA (a := p) (n := 0) (padd_zero _).symm rfl ?_
  refine tLdA (a := p) (cs := [v, (.bool a0.Ends), (.bool a0.Ret.Some), (.int .i64 a0.Ret.Lo), (.int .i64 a0.Ret.Hi), v_1]) (ds := [(.bool a0.Ret.Some), (.int .i64 a0.Ret.Lo), (.int .i64 a0.Ret.Hi)]) (j := 2) rfl (Sf.ceE (Cx.new_at p) 3 rfl s) (Nat.le_of_ble_eq_true rfl) rfl ?_
  refine tFA (a := p_1) (n := 0) (padd_zero _).symm rfl ?_
  refine tLdA (a := p_1) (cs := [v_2, (.bool a1.Ends), (.bool a1.Ret.Some), (.int .i64 a1.Ret.Lo), (.int .i64 a1.Ret.Hi), v_3]) (ds := [(.bool a1.Ret.Some), (.int .i64 a1.Ret.Lo), (.int .i64 a1.Ret.Hi)]) (j := 2) rfl (Sf.ceE (Cx.new_at p_1) 2 rfl s) (Nat.le_of_ble_eq_true rfl) rfl ?_
  refine Sx.mono ?_ (hf2 (x0 := a0.Ret) (x1 := a1.Ret) s  hp)
  rintro u_1 h_7 ⟨F_2, r_5, g_1, s, rfl, hp⟩
  replace r_4 := r_4.le g_1
  replace r_2 := r_2.le g_1
  replace r_3 := r_3.le g_1
  replace r := r.le g_1
  replace r_1 := r_1.le g_1
  replace e0 := Le.trans e0 g_1
  refine tFA (a := p_3) (n := 0) (padd_zero _).symm (padd_zero _) ?_
  refine tFA (a := p_3) (n := 0) (padd_zero _).symm rfl ?_
  refine tSt (cs := [v_4, (.bool x), (.bool b.Summary.Ret.Some), (.int .i64 b.Summary.Ret.Lo), (.int .i64 b.Summary.Ret.Hi), (.slice none 0 0)]) (vs := [(.bool r_5.Some), (.int .i64 r_5.Lo), (.int .i64 r_5.Hi)]) (cs' := [v_4, (.bool x), (.bool r_5.Some), (.int .i64 r_5.Lo), (.int .i64 r_5.Hi), (.slice none 0 0)]) (j := 2) 0 rfl s (Cx.new_at p_3) rfl (by rfl) rfl (Nat.le_of_ble_eq_true rfl) (ones_cons rfl (ones_cons rfl (ones_cons rfl ones_nil))) rfl fun h_8 s => ?_
  refine tFA (a := p) (n := 0) (padd_zero _).symm rfl ?_
  refine tLd (p := .pointer (some p)) (cs := [v, (.bool a0.Ends), (.bool a0.Ret.Some), (.int .i64 a0.Ret.Lo), (.int .i64 a0.Ret.Hi), v_1]) (j := 5) rfl (Sf.ceE (Cx.new_at p) 3 rfl s) rfl ?_
  refine tFA (a := p_1) (n := 0) (padd_zero _).symm rfl ?_
  refine tLd (p := .pointer (some p_1)) (cs := [v_2, (.bool a1.Ends), (.bool a1.Ret.Some), (.int .i64 a1.Ret.Lo), (.int .i64 a1.Ret.Hi), v_3]) (j := 5) rfl (Sf.ceE (Cx.new_at p_1) 2 rfl s) rfl ?_
  refine oCall_func (HC.mono (w_digest_digest_cells (a0 := (⟨(⟨b.Summary.Alarms, x, r_5, ([] : List T_api_Named)⟩ : T_api_Summary)⟩ : T_digest_digest)) (a1 := a0.Mod) (a2 := a1.Mod) (a3 := a2) s r_4 r_1 r_3 hf2 hp) ?_)
  rintro u_2 h_9 ⟨F_3, b_1, v_5, v_6, g_2, s, _, r_6, r_7, hp⟩
  replace r_1 := r_1.le g_2
  replace r_3 := r_3.le g_2
  replace r_2 := r_2.le g_2
  replace r := r.le g_2
  replace e0 := Le.trans e0 g_2
  refine tFA (a := p_3) (n := 0) (padd_zero _).symm (padd_zero _) ?_
  refine tLdA (a := p_3) (cs := [v_5, (.bool b_1.Summary.Ends), (.bool b_1.Summary.Ret.Some), (.int .i64 b_1.Summary.Ret.Lo), (.int .i64 b_1.Summary.Ret.Hi), v_6]) (ds := [v_5, (.bool b_1.Summary.Ends), (.bool b_1.Summary.Ret.Some), (.int .i64 b_1.Summary.Ret.Lo), (.int .i64 b_1.Summary.Ret.Hi), v_6]) (j := 0) (padd_zero _).symm (Sf.ceE (Cx.new_at p_3) 0 rfl s) (Nat.le_of_ble_eq_true rfl) rfl ?_
  refine tSt (cs := [(.slice none 0 0), (.bool false), (.bool false), (.int .i64 0), (.int .i64 0), (.slice none 0 0)]) (vs := [v_5, (.bool b_1.Summary.Ends), (.bool b_1.Summary.Ret.Some), (.int .i64 b_1.Summary.Ret.Lo), (.int .i64 b_1.Summary.Ret.Hi), v_6]) (cs' := [v_5, (.bool b_1.Summary.Ends), (.bool b_1.Summary.Ret.Some), (.int .i64 b_1.Summary.Ret.Lo), (.int .i64 b_1.Summary.Ret.Hi), v_6]) (j := 0) 1 rfl s (Cx.new_at p_2) (padd_zero _).symm (by rfl) rfl (Nat.le_of_ble_eq_true rfl) (ones_cons r_6.1.one (ones_cons rfl (ones_cons rfl (ones_cons rfl (ones_cons rfl (ones_cons r_7.1.one ones_nil)))))) rfl fun h_10 s => ?_
  refine oResA (cs := [v_5, (.bool b_1.Summary.Ends), (.bool b_1.Summary.Ret.Some), (.int .i64 b_1.Summary.Ret.Lo), (.int .i64 b_1.Summary.Ret.Hi), v_6]) (Sf.ceE (Cx.new_at p_2) 1 rfl s _ rfl) ⟨_, rfl⟩ rfl ?_
  replace s := Sf.dropAt 0 rfl s
  replace s := Sf.dropAt 0 rfl s
  replace s := Sf.dropAt 0 rfl s
  replace s := Sf.dropAt 0 rfl s
  exact ⟨F_3, b_1.Summary, v_5, v_6, e0, s, rfl, r_6, r_7, hp⟩
 clear hk hk_1
 by_cases hc : a0.Ends = true
 ·refine (cond_tt hc).2 ?_
  replace hp := (Pl.ite_pos hc).1 hp
  exact hK true _ (fun _ h => oPick_hc hc h) hp
 ·refine (cond_ff hc).2 ?_
  replace hp := (Pl.ite_neg hc).1 hp
  refine tFA (a := p_1) (n := 0) (padd_zero _).symm rfl ?_
  refine tLd (p := .pointer (some p_1)) (cs := [v_2, (.bool a1.Ends), (.bool a1.Ret.Some), (.int .i64 a1.Ret.Lo), (.int .i64 a1.Ret.Hi), v_3]) (j := 1) rfl (Sf.ceE (Cx.new_at p_1) 2 rfl s) rfl ?_
  exact hK a1.Ends _ (fun _ h => oPick_hn hc h) hp

/-- augur/digest.Join -/
def g_digest_Join (v0 v1 : Value) (h : Heap) (R : Value → Heap → Prop) : Prop :=
 oBox Try.prog 33 v0 h fun t2 h => 
 oBox Try.prog 33 v1 h fun t3 h_1 => 
 oAlloc Try.prog 33 h_1 fun t4 h_2 => 
 oLoad Try.prog 33 t2 (Eq h_2) fun t5 =>
 oLoad Try.prog 33 t3 (Eq h_2) fun t6 =>
 oCall Try.prog (.func (.func 23) #[] #[]) #[t5, t6, (.func (.func 24) #[] #[])] h_2 fun t7 h_3 => 
 oStore Try.prog 33 t4 t7 h_3 fun _ h_4 => 
 oRes Try.prog [(some 33, t4)] h_4 R

theorem sh_digest_Join {v0 v1 : Value} {h : Heap} {R : Value → Heap → Prop} (hg : g_digest_Join v0 v1 h R) : HC Try.prog 11 #[v0, v1] h R := hc_shal [] Try.func11 (by kernel_rfl) hg

set_option maxRecDepth 20000 in
set_option maxHeartbeats 4000000 in
theorem w_digest_Join {F : Vw} {h : Heap} {M : List HP} {a0 : T_api_Summary} {v : Value} {v_1 : Value} {a1 : T_api_Summary} {v_2 : Value} {v_3 : Value} {R : T_api_Summary → Prop} (s : Sf F h (M)) (r : RL e_api_Alarm F v a0.Alarms) (r_1 : RL e_api_Named F v_1 a0.Mod) (r_2 : RL e_api_Alarm F v_2 a1.Alarms) (r_3 : RL e_api_Named F v_3 a1.Mod) (hp : p_digest_Join a0 a1 R) :
  HC Try.prog 11 #[(.agg #[v, (.bool a0.Ends), (.bool a0.Ret.Some), (.int .i64 a0.Ret.Lo), (.int .i64 a0.Ret.Hi), v_1]), (.agg #[v_2, (.bool a1.Ends), (.bool a1.Ret.Some), (.int .i64 a1.Ret.Lo), (.int .i64 a1.Ret.Hi), v_3])] h fun u h' => ∃ (F' : Vw) (r_0 : T_api_Summary) (z0_0 : Value) (z0_5 : Value), Le F F' ∧ Sf F' h' (M) ∧ (.agg #[z0_0, (.bool r_0.Ends), (.bool r_0.Ret.Some), (.int .i64 r_0.Ret.Lo), (.int .i64 r_0.Ret.Hi), z0_5]) = u ∧ RL e_api_Alarm F' z0_0 r_0.Alarms ∧ RL e_api_Named F' z0_5 r_0.Mod ∧ R r_0 := by
 refine sh_digest_Join ?_
 unfold g_digest_Join
 unfold p_digest_Join at hp
 have e0 := Le.refl F
 refine tBx s (vs := [v, (.bool a0.Ends), (.bool a0.Ret.Some), (.int .i64 a0.Ret.Lo), (.int .i64 a0.Ret.Hi), v_1]) (by rfl) fun p h_1 s => ?_
 refine tBx s (vs := [v_2, (.bool a1.Ends), (.bool a1.Ret.Some), (.int .i64 a1.Ret.Lo), (.int .i64 a1.Ret.Hi), v_3]) (by rfl) fun p_1 h_2 s => ?_
 refine tAl s (vs := [(.slice none 0 0), (.bool false), (.bool false), (.int .i64 0), (.int .i64 0), (.slice none 0 0)]) (by rfl) fun p_2 h_3 s => ?_
 refine tLdA (a := p) (cs := [v, (.bool a0.Ends), (.bool a0.Ret.Some), (.int .i64 a0.Ret.Lo), (.int .i64 a0.Ret.Hi), v_1]) (ds := [v, (.bool a0.Ends), (.bool a0.Ret.Some), (.int .i64 a0.Ret.Lo), (.int .i64 a0.Ret.Hi), v_1]) (j := 0) (padd_zero _).symm (Sf.ceE (Cx.new_at p) 2 rfl s) (Nat.le_of_ble_eq_true rfl) rfl ?_
 refine tLdA (a := p_1) (cs := [v_2, (.bool a1.Ends), (.bool a1.Ret.Some), (.int .i64 a1.Ret.Lo), (.int .i64 a1.Ret.Hi), v_3]) (ds := [v_2, (.bool a1.Ends), (.bool a1.Ret.Some), (.int .i64 a1.Ret.Lo), (.int .i64 a1.Ret.Hi), v_3]) (j := 0) (padd_zero _).symm (Sf.ceE (Cx.new_at p_1) 1 rfl s) (Nat.le_of_ble_eq_true rfl) rfl ?_
 refine oCall_func (HC.mono (w_digest_both (a0 := a0) (a1 := a1) (a2 := p_digest_Join_1) s r r_1 r_2 r_3 (fun s9  h9 => oCall_func (w_digest_Join_1 s9  h9)) hp) ?_)
 rintro u h_4 ⟨F_1, r_4, v_4, v_5, g, s, rfl, r_5, r_6, hp⟩
 replace r := r.le g
 replace r_1 := r_1.le g
 replace r_2 := r_2.le g
 replace r_3 := r_3.le g
 replace e0 := Le.trans e0 g
 refine tSt (cs := [(.slice none 0 0), (.bool false), (.bool false), (.int .i64 0), (.int .i64 0), (.slice none 0 0)]) (vs := [v_4, (.bool r_4.Ends), (.bool r_4.Ret.Some), (.int .i64 r_4.Ret.Lo), (.int .i64 r_4.Ret.Hi), v_5]) (cs' := [v_4, (.bool r_4.Ends), (.bool r_4.Ret.Some), (.int .i64 r_4.Ret.Lo), (.int .i64 r_4.Ret.Hi), v_5]) (j := 0) 0 rfl s (Cx.new_at p_2) (padd_zero _).symm (by rfl) rfl (Nat.le_of_ble_eq_true rfl) (ones_cons r_5.1.one (ones_cons rfl (ones_cons rfl (ones_cons rfl (ones_cons rfl (ones_cons r_6.1.one ones_nil)))))) rfl fun h_5 s => ?_
 refine oResA (cs := [v_4, (.bool r_4.Ends), (.bool r_4.Ret.Some), (.int .i64 r_4.Ret.Lo), (.int .i64 r_4.Ret.Hi), v_5]) (Sf.ceE (Cx.new_at p_2) 0 rfl s _ rfl) ⟨_, rfl⟩ rfl ?_
 replace s := Sf.dropAt 0 rfl s
 replace s := Sf.dropAt 0 rfl s
 replace s := Sf.dropAt 0 rfl s
 exact ⟨F_1, r_4, v_4, v_5, e0, s, rfl, r_5, r_6, hp⟩

/-- augur/digest.Leq -/
def g_digest_Leq (v0 v1 : Value) (h : Heap) (R : Value → Heap → Prop) : Prop :=
 oBox Try.prog 33 v0 h fun t2 h => 
 oBox Try.prog 33 v1 h fun t3 h_1 => 
 drawn h_1 fun D =>
 oLoad Try.prog 33 t2 D fun t5 =>
 oLoad Try.prog 33 t3 D fun t6 =>
 oLoad Try.prog 33 t3 D fun t8 =>
 oCall Try.prog (.func (.func 11) #[] #[]) #[t5, t6] h_1 fun t7 h_2 => D h_2 ∧ 
 oCall Try.prog (.func (.func 8) #[] #[]) #[t7, t8] h_2 fun t9 h_3 => 
 R t9 h_3

theorem sh_digest_Leq {v0 v1 : Value} {h : Heap} {R : Value → Heap → Prop} (hg : g_digest_Leq v0 v1 h R) : HC Try.prog 9 #[v0, v1] h R := hc_shal [(1, .mixo [0, 1, 3, 2])] Try.func9 (by kernel_rfl) hg

set_option maxRecDepth 20000 in
set_option maxHeartbeats 4000000 in
theorem w_digest_Leq {F : Vw} {h : Heap} {M : List HP} {a0 : T_api_Summary} {v : Value} {v_1 : Value} {a1 : T_api_Summary} {v_2 : Value} {v_3 : Value} {R : Bool → Prop} (s : Sf F h (M)) (r : RL e_api_Alarm F v a0.Alarms) (r_1 : RL e_api_Named F v_1 a0.Mod) (r_2 : RL e_api_Alarm F v_2 a1.Alarms) (r_3 : RL e_api_Named F v_3 a1.Mod) (hp : p_digest_Leq a0 a1 R) :
  HC Try.prog 9 #[(.agg #[v, (.bool a0.Ends), (.bool a0.Ret.Some), (.int .i64 a0.Ret.Lo), (.int .i64 a0.Ret.Hi), v_1]), (.agg #[v_2, (.bool a1.Ends), (.bool a1.Ret.Some), (.int .i64 a1.Ret.Lo), (.int .i64 a1.Ret.Hi), v_3])] h fun u h' => ∃ (F' : Vw) (r_0 : Bool), Le F F' ∧ Sf F' h' (M) ∧ (.bool r_0) = u ∧ R r_0 := by
 refine sh_digest_Leq ?_
 unfold g_digest_Leq
 unfold p_digest_Leq at hp
 have e0 := Le.refl F
 refine tBx s (vs := [v, (.bool a0.Ends), (.bool a0.Ret.Some), (.int .i64 a0.Ret.Lo), (.int .i64 a0.Ret.Hi), v_1]) (by rfl) fun p h_1 s => ?_
 refine tBx s (vs := [v_2, (.bool a1.Ends), (.bool a1.Ret.Some), (.int .i64 a1.Ret.Lo), (.int .i64 a1.Ret.Hi), v_3]) (by rfl) fun p_1 h_2 s => ?_
 refine ⟨fun h' => Sf F h' (Ce (Cx.new p_1) [v_2, (.bool a1.Ends), (.bool a1.Ret.Some), (.int .i64 a1.Ret.Lo), (.int .i64 a1.Ret.Hi), v_3] :: Ce (Cx.new p) [v, (.bool a0.Ends), (.bool a0.Ret.Some), (.int .i64 a0.Ret.Lo), (.int .i64 a0.Ret.Hi), v_1] :: M), s, ?_⟩
 have ed := Le.refl F
 refine tLdA (a := p) (cs := [v, (.bool a0.Ends), (.bool a0.Ret.Some), (.int .i64 a0.Ret.Lo), (.int .i64 a0.Ret.Hi), v_1]) (ds := [v, (.bool a0.Ends), (.bool a0.Ret.Some), (.int .i64 a0.Ret.Lo), (.int .i64 a0.Ret.Hi), v_1]) (j := 0) (padd_zero _).symm (Sf.ceD (Cx.new_at p) 1 rfl) (Nat.le_of_ble_eq_true rfl) rfl ?_
 refine tLdA (a := p_1) (cs := [v_2, (.bool a1.Ends), (.bool a1.Ret.Some), (.int .i64 a1.Ret.Lo), (.int .i64 a1.Ret.Hi), v_3]) (ds := [v_2, (.bool a1.Ends), (.bool a1.Ret.Some), (.int .i64 a1.Ret.Lo), (.int .i64 a1.Ret.Hi), v_3]) (j := 0) (padd_zero _).symm (Sf.ceD (Cx.new_at p_1) 0 rfl) (Nat.le_of_ble_eq_true rfl) rfl ?_
 refine tLdA (a := p_1) (cs := [v_2, (.bool a1.Ends), (.bool a1.Ret.Some), (.int .i64 a1.Ret.Lo), (.int .i64 a1.Ret.Hi), v_3]) (ds := [v_2, (.bool a1.Ends), (.bool a1.Ret.Some), (.int .i64 a1.Ret.Lo), (.int .i64 a1.Ret.Hi), v_3]) (j := 0) (padd_zero _).symm (Sf.ceD (Cx.new_at p_1) 0 rfl) (Nat.le_of_ble_eq_true rfl) rfl ?_
 refine oCall_func (HC.mono (w_digest_Join (a0 := a0) (a1 := a1) s r r_1 r_2 r_3 hp) ?_)
 rintro u h_3 ⟨F_1, r_4, v_4, v_5, g, s, rfl, r_5, r_6, hp⟩
 have r_D := r
 replace r := r.le g
 have r_1_D := r_1
 replace r_1 := r_1.le g
 have r_2_D := r_2
 replace r_2 := r_2.le g
 have r_3_D := r_3
 replace r_3 := r_3.le g
 replace e0 := Le.trans e0 g
 replace ed := Le.trans ed g
 refine ⟨Sf.le s ed, ?_⟩
 refine oCall_func (HC.mono (w_digest_Same (a0 := r_4) (a1 := a1) s r_5 r_6 r_2 r_3 hp) ?_)
 rintro u_1 h_4 ⟨F_2, r_7, g_1, s, rfl, hp⟩
 replace r_2 := r_2.le g_1
 replace r_3 := r_3.le g_1
 replace r_5 := r_5.le g_1
 replace r_6 := r_6.le g_1
 replace r := r.le g_1
 replace r_1 := r_1.le g_1
 replace e0 := Le.trans e0 g_1
 replace ed := Le.trans ed g_1
 replace s := Sf.dropAt 0 rfl s
 replace s := Sf.dropAt 0 rfl s
 exact ⟨F_2, r_7, e0, s, rfl, hp⟩

end Go.Proofs.Ytaibfbakhiainaa

namespace Go.Sh
variable [Gd] {P : Program}
theorem tIfc {t : TypeId} {d : TypeDesc} [Und P t d] {x : Value} {K : Value → Prop} (hk : K (.iface t x)) (hd : ∀ ms, d ≠ .interface ms := by intro ms h; cases h) : oIface P t x K := oIface_of hd hk
theorem tPanic {t : TypeId} {v : Value} {h : Heap} {K : Value → Heap → Prop} (hx : Gd.pn (.iface t v) h) : oPanic P (.iface t v) h K := fun w hw => by
  have : (nv (Instr.panic (.iface t v))).run P w = .halt (.panic (.iface t v)) w := rfl
  rw [this]
  exact ⟨.refl _, hw ▸ hx⟩
/-- A block as it is. -/
def Blk (b : Nat) (o : Obj) : HP := ⟨fun h S => S b ∧ h[b]? = some o, fun h h' S hx he => ⟨hx.1, (he b hx.1).trans hx.2⟩⟩
theorem Sf.pushF {F : Vw} {h : Heap} {L : List HP} (s : Sf F h L) (o : Obj) : ∃ G, Le F G ∧ Sf G (h.push o) L ∧ G h.size = some o := by
  have s2 : St #[] (h.push o) (Blk h.size o :: Frz F :: L) := St.new s (by simp) (fun b hb => push_old b hb) ⟨⟨Nat.le_refl _, by simp⟩, by simp⟩
  obtain ⟨G, e, s3, S, hS, hG⟩ := Sf.freeze (Sf.put s2)
  exact ⟨G, e, s3, hG _ hS.1 _ hS.2⟩
/-- '[]byte(s)': a row that is not written. -/
theorem tBytesF {sT dT e : TypeId} [Und P sT .string] [Und P dT (.slice e)] [Und P e (.int .u8)] {F : Vw} {h : Heap} {L : List HP} {s : Str} {K : Value → Heap → Prop}
    (st : Sf F h L) (g : ∀ F' v h', Le F F' → Sf F' h' L → RL (eI .u8) F' v (Pl.bytes s) → K v h') : oConvX P sT dT (str s) h K := fun w hw => by
  have hrun := run_bytes_of_string (P := P) w sT dT e ⟨s.toArray⟩ Und.eq Und.eq Und.eq
  have hz : (⟨s.toArray⟩ : ByteArray).size = s.length := by show s.toArray.size = _; simp
  rw [hz] at hrun
  have hcap := grownCap_ge w s.length 0 e
  generalize grownCap w s.length 0 e = cap at hrun hcap
  generalize hB : bytesRow ⟨s.toArray⟩ cap = B at hrun
  unfold str
  rw [nv_run hrun]
  obtain ⟨G, e1, s1, hG⟩ := Sf.pushF st (.cells B e (B.size, B.size + 1))
  refine ⟨⟨rfl, rfl, rfl, fun _ => Nat.le_succ _⟩, ?_⟩
  show K _ (w.heap.push _)
  rw [hw]
  refine g G _ _ e1 s1 ⟨⟨_, _, by simp [Pl.bytes]; exact ⟨rfl, rfl⟩⟩, by show _ ≤ _; omega, bytesV s, .inr ⟨h.size, 0, rfl, fun j x hx => ?_⟩, by rw [bytes_eq]; exact cl_bytes G _⟩
  simp only [cellV, hG, Option.isSome_none, Bool.false_eq_true, if_false, Nat.zero_add]
  rw [← hB]
  unfold bytesRow
  have hlt := (List.getElem?_eq_some_iff.1 hx).1
  simp only [bytesV, List.length_map] at hlt
  rw [Array.getElem?_append_left (by simpa using hlt)]
  simp only [bytesV, List.getElem?_map] at hx
  simp only [List.map_toArray, List.getElem?_toArray, List.getElem?_map]
  exact hx
end Go.Sh
/-! Several results. -/
namespace Go.Sh
section ress
variable {P : Program}
def RsL (P : Program) (h : Heap) : List (Option TypeId × Value) → List Value → Prop
  | [], vs => vs = []
  | (none, v) :: l, vs => ∃ r, vs = v :: r ∧ RsL P h l r
  | (some t, p) :: l, vs => ∃ x r, vs = x :: r ∧ (∃ a, p = .pointer (some a) ∧ ∀ w : World, w.heap = h → (loadVar t a).run P w = .ok x w) ∧ RsL P h l r
theorem RsL.run {h : Heap} : ∀ {l : List (Option TypeId × Value)} {vs : List Value}, RsL P h l vs → ∀ w : World, w.heap = h → (rsem l).run P w = .ok vs w
  | [], _, e, w, _ => by rw [show _ = [] from e]; rfl
  | (none, v) :: l, _, ⟨r, e, hr⟩, w, hw => by
    rw [e]; simp [rsem, hr.run w hw]
  | (some t, p) :: l, _, ⟨x, r, e, ⟨a, ha, hx⟩, hr⟩, w, hw => by
    rw [e, ha]; simp [rsem, asAddr, hx w hw, hr.run w hw]
theorem rs0 {h : Heap} : RsL P h [] [] := rfl
theorem rsT {h : Heap} {v : Value} {l : List (Option TypeId × Value)} {vs : List Value} (r : RsL P h l vs) : RsL P h ((none, v) :: l) (v :: vs) := ⟨vs, rfl, r⟩
theorem rs1 {t : TypeId} [IsA P t false] {p x : Value} {h : Heap} {l : List (Option TypeId × Value)} {vs : List Value} (r : Rd h p [x]) (q : RsL P h l vs) : RsL P h ((some t, p) :: l) (x :: vs) := by
  obtain ⟨a, ha, hx⟩ := r.at (j := 0) rfl
  rw [padd_zero] at ha
  subst ha
  exact ⟨x, vs, rfl, ⟨a, rfl, fun w hw => run_loadVar1 (by rw [hw]; exact hx)⟩, q⟩
theorem rsA {t : TypeId} {k : Nat} [IsA P t true] [Siz P t k] {a : Addr} {cs : List Value} {h : Heap} {l : List (Option TypeId × Value)} {vs : List Value}
    (r : Rd h (.pointer (some a)) cs) (hl : cs.length = k) (q : RsL P h l vs) : RsL P h ((some t, .pointer (some a)) :: l) (.agg cs.toArray :: vs) := by
  refine ⟨_, vs, rfl, ⟨a, rfl, fun w hw => ?_⟩, q⟩
  have h3 : (loadCells a k).run P w = .ok cs.toArray w := by
    have := run_loadCells (P := P) (w := w) (a := a) cs (fun i x hx => by
      obtain ⟨a', ha', hc⟩ := r.at hx
      simp only [padd, Value.pointer.injEq, Option.some.injEq] at ha'
      rw [ha', hw]; exact hc)
    rwa [hl] at this
  simp [loadVar, IsA.run, Siz.run, h3]
theorem oResN {l : List (Option TypeId × Value)} {vs : List Value} {h : Heap} {K : Value → Heap → Prop} (r : RsL P h l vs) (h2 : vs.length ≠ 1) (hk : K (.tuple vs.toArray) h) : oRes P l h K := by
  refine ⟨.tuple vs.toArray, fun w hw => nv_run ?_, hk⟩
  unfold rval
  rw [Sem.run_bind, r.run w hw.symm]
  simp only [Result.andThen_ok]
  match vs, h2 with
  | [], _ => rfl
  | _ :: _ :: _, _ => rfl
end ress
end Go.Sh
namespace Go.Sh
section dfr
variable {P : Program} {ops : Array Oper} {Q : Exit → Act → World → Prop} {n : Nat} {f : Nat → Value} {w : World} {rest : List Oper} {o : Oper} {ds : List Deferred}

/-- 'defer' of a closure. -/
theorem stepD {g : FuncId} {cap : Array Value} {x : Operand} (hop : o.op = .defer { callee := .value x, args := #[], argTypes := #[] }) (hv : evf n f x = .func (.func g) #[] cap)
    (hg : Region.wanted o (yielded ops (mkD ds n f).tmps) = true) (hd : o.dst = none)
    (k : wpList P ops Q rest (mkD ({ target := .fn (.func g) cap, args := #[] } :: ds) n f) w) : wpList P ops Q (o :: rest) (mkD ds n f) w := by
  refine list_of_upon hg ?_
  have : (execOp (evf n f) o).run P w = .ok (.defer { target := .fn (.func g) cap, args := #[] }) w := by
    simp [execOp, hop, resolve, hv, Deferred.ofValue]
  rw [this, Oper.upon_defer, hd]
  exact k

/-- What a closure that is called at the end does, where nothing panics and where something does. -/
theorem callsD_rec [G : Gd] {g : FuncId} {fn : Func} {c : Code} {id : Nat} {o1 o2 : Oper} {d1 d2 : Nat} {args : Array Value} {K : Heap → Prop} {h : Heap} {x : Value} {b : Bool} {u u' : FrameMode}
    (hf : P.funcs[g]? = some fn) (hb : fn.body = some (.seq (.region id #[o1, o2] false) c)) (hn : fn.ntmps = n) (ha : args ++ Array.replicate (n - args.size) undef = (mk n f).tmps)
    (h1 : o1.op = .call { callee := .builtin .recover, args := #[], argTypes := #[] }) (h1g : o1.guard = none) (h1d : o1.dst = some d1)
    (h2 : ∀ (f : Nat → Value) (w : World), f d1 = x → (execOp (evf n f) o2).run P w = .ok (.value (.bool b)) w) (h2g : o2.guard = none) (h2d : o2.dst = some d2)
    (hr : fn.results = #[])
    (hm : ∀ (c₀ : Frame) (cs : List Frame), c₀.mode = u → (∃ cs', recoverD (c₀ :: cs) = some (x, cs') ∧ cs' = { c₀ with mode := u' } :: cs) ∨ (recoverD (c₀ :: cs) = none ∧ x = .nilIface ∧ u = u'))
    (hd1 : d1 < n)
    (hw : ∀ w, w.heap = h → c.wp P (bodyPost P fn (@EndOk G.no w (fun _ h' => K h'))) (mk n (upd (upd f d1 x) d2 (.bool b))) w) :
    ∀ w, w.heap = h → CallsD P g args u w fun e u'' w' => (∃ v, e = .returned v) ∧ u'' = u' ∧ SameW w w' ∧ K w'.heap := by
  intro w hh
  refine callsD_of_wpS hf hb fun c₀ cs hu => ?_
  have e0 : ({ tmps := args ++ Array.replicate (fn.ntmps - args.size) undef, defers := [] } : Act) = mk n f := by
    rw [hn, ha]; rfl
  rw [e0]
  refine wpS_seq (wpS_region ?_)
  have hrun1 : (execOp (mk n f).eval o1).run P w = .ok .recover w := by
    have : execOp (mk n f).eval o1 = pure .recover := by
      simp [execOp, h1, resolve, invoke, builtin]
    rw [this]; rfl
  have hw1 : Region.wanted o1 (yielded #[o1, o2] (mk n f).tmps) = true := by simp [Region.wanted, h1g]
  have tail : ∀ cs', cs' = { c₀ with mode := u' } :: cs → wpOpsS P #[o1, o2] (Exit.thenS (c.wpS P (bodyPostS P fn c₀ cs fun e u'' w' => (∃ v, e = .returned v) ∧ u'' = u' ∧ SameW w w' ∧ K w'.heap)) (bodyPostS P fn c₀ cs fun e u'' w' => (∃ v, e = .returned v) ∧ u'' = u' ∧ SameW w w' ∧ K w'.heap)) [1] ((mk n f).put o1.dst x) cs' w := by
    rintro cs' rfl
    rw [h1d, mk_put]
    have hw2 : Region.wanted o2 (yielded #[o1, o2] (mk n (upd f d1 x)).tmps) = true := by simp [Region.wanted, h2g]
    have hrun2 : (execOp (mk n (upd f d1 x)).eval o2).run P w = .ok (.value (.bool b)) w := by
      rw [mk_eval]; exact h2 _ w (by simp [upd])
    simp only [wpOpsS, show (#[o1, o2] : Array Oper)[1]? = some o2 from rfl]
    rw [if_pos hw2, hrun2]
    simp only [Oper.upon_value, h2d, mk_put]
    show c.wpS P _ _ _ w
    refine wpS_of_wp ?_
    refine Code.wp_mono (fun e a' w' he => ?_) (hw w hh)
    cases e with
    | normal | ret =>
      obtain ⟨hd, v, hv, he⟩ := he
      refine ⟨hd, u', rfl, v, hv, ?_⟩
      rcases he with ⟨v', he, hs, hk⟩ | ⟨_, he, _⟩
      · exact ⟨⟨v, rfl⟩, rfl, hs, hk⟩
      · cases he
    | panic ch =>
      obtain ⟨hd, he⟩ := he
      rcases he with ⟨v', he, _⟩ | ⟨_, _, _, he⟩
      · cases he
      · exact he.elim
    | outgrown =>
      rcases he with ⟨v', he, _⟩ | ⟨_, he, _⟩ <;> cases he
    | exit _ => exact he.elim
    | goto _ => exact he.elim
  show wpOpsS P #[o1, o2] _ [0, 1] (mk n f) (c₀ :: cs) w
  rw [wpOpsS, show (#[o1, o2] : Array Oper)[0]? = some o1 from rfl]
  simp only []
  rw [if_pos hw1, hrun1]
  rcases hm c₀ cs hu with ⟨cs', he, hc⟩ | ⟨he, hx, huu⟩
  · simp only [he]
    exact tail cs' hc
  · simp only [he]
    subst hx huu
    exact tail (c₀ :: cs) (by subst hu; rfl)

/-- A body that has deferred nothing yet. -/
instance pnOk_baseD [Gd] {fn : Func} {w0 : World} {K : Value → Heap → Prop} : PnOk [] (bodyPostD P fn (EndOk w0 K)) w0 (fun _ _ => True) := ⟨fun x _ _ _ _ hs hp => .inr ⟨x, rfl, hs, hp⟩⟩
theorem res_run [Gd] {fn : Func} {h : Heap} {K : Value → Heap → Prop} {rs : List ResultVar} {l : List (Option TypeId × Value)} (hg : oRes P l h K) (hw : w.heap = h)
    (hr : fn.results = rs.toArray) (hl : rrel n f rs l) : ∃ v, (results fn (mkD ds n f).tmps).run P w = .ok v w ∧ K v h := by
  have := post_res (fn := fn) (w0 := w) hg hw (SameW.refl w) hr hl
  obtain ⟨_, v, hv, he⟩ := this
  rcases he with ⟨v', he, _, hk⟩ | ⟨_, he, _⟩
  · cases he
    rw [hw] at hk
    exact ⟨v, hv, hk⟩
  · cases he
/-- The end ahead of the 'defer'. -/
theorem post_resB [Gd] {fn : Func} {h : Heap} {K : Value → Heap → Prop} {rs : List ResultVar} {l : List (Option TypeId × Value)} {w0 : World} (hg : oRes P l h K) (hw : w.heap = h) (hs : SameW w0 w)
    (hr : fn.results = rs.toArray) (hl : rrel n f rs l) : bodyPostD P fn (EndOk w0 K) .ret (mk n f) w := by
  obtain ⟨v, hv, hk⟩ := res_run (ds := []) hg hw hr hl
  exact ⟨v, hv, .inl ⟨v, rfl, hs, by rw [hw]; exact hk⟩⟩
/-- The Gd behind a 'defer'. -/
@[reducible] def Gd.with (G : Gd) (pn : Value → Heap → Prop) : Gd := ⟨G.g, pn⟩
/-- The end behind a 'defer'. -/
theorem post_resD [G : Gd] {fn : Func} {g : FuncId} {cap : Array Value} {h : Heap} {K : Value → Heap → Prop} {rs : List ResultVar} {l : List (Option TypeId × Value)} {w0 : World} (hg : oRes P l h K) (hw : w.heap = h) (hs : SameW w0 w)
    (hr : fn.results = rs.toArray) (hl : rrel n f rs l) (hi : ∀ w : World, (invoke (.fn (.func g) cap) #[]).run P w = .ok (.enter g cap) w)
    (hc : ∀ w : World, w.heap = h → CallsD P g cap .returning w fun e u' w' => (∃ v, e = .returned v) ∧ u' = .returning ∧ SameW w w' ∧ w'.heap = h) :
    bodyPostD P fn (EndOk w0 K) .ret (mkD [{ target := .fn (.func g) cap, args := #[] }] n f) w := by
  show Leaves P fn _ _ [{ target := .fn (.func g) cap, args := #[] }] .returning w
  refine leaves_cons (f := g) (args := cap) (by simp) (hi w) ((hc w hw).mono ?_)
  rintro e u' w' ⟨⟨v, rfl⟩, rfl, hs1, hh⟩
  obtain ⟨v, hv, hk⟩ := res_run (ds := ([] : List Deferred)) (fn := fn) hg hh hr hl
  exact ⟨v, hv, .inl ⟨v, rfl, hs.trans hs1, by rw [hh]; exact hk⟩⟩
/-- A panic behind a 'defer'. -/
theorem pnOk_D [G : Gd] {fn : Func} {g : FuncId} {cap : Array Value} {K : Value → Heap → Prop} {rs : List ResultVar} {l : List (Option TypeId × Value)} {w0 : World} {pn : Value → Heap → Prop}
    (hr : fn.results = rs.toArray) (hi : ∀ w : World, (invoke (.fn (.func g) cap) #[]).run P w = .ok (.enter g cap) w)
    (hp : ∀ x h, pn x h → ∃ t y, x = .iface t y)
    (hc : ∀ t y (w : World), pn (.iface t y) w.heap → CallsD P g cap (.panicking [{ v := .iface t y, recovered := false }]) w fun e u' w' =>
      (∃ v, e = .returned v) ∧ u' = .panicking [{ v := .iface t y, recovered := true }] ∧ SameW w w' ∧ oRes P l w'.heap K) :
    @PnOk (G.with pn) [{ target := .fn (.func g) cap, args := #[] }] (bodyPostD P fn (@EndOk G w0 K)) w0 (fun n f => rrel n f rs l) := by
  refine @PnOk.mk (G.with pn) _ _ _ _ ?_
  intro x n f w hA hs hpn
  obtain ⟨t, y, rfl⟩ := hp x _ hpn
  show Leaves P fn _ _ [{ target := .fn (.func g) cap, args := #[] }] (.panicking [{ v := .iface t y, recovered := false }]) w
  refine leaves_cons (f := g) (args := cap) (by simp) (hi w) ((hc t y w hpn).mono ?_)
  rintro e u' w' ⟨⟨v, rfl⟩, rfl, hs1, hh⟩
  obtain ⟨v, hv, hk⟩ := res_run (ds := ([] : List Deferred)) (fn := fn) hh rfl hr hA
  exact ⟨v, hv, .inl ⟨v, rfl, SameWg.trans hs hs1, hk⟩⟩
theorem SameWg.cast {g g' : Prop} {a b : World} (h : SameWg g a b) (e : g = g') : SameWg g' a b := e ▸ h
theorem hc_of_wpD [Gd] {g : FuncId} {fn : Func} {c : Code} {args : Array Value} {h : Heap} {K : Value → Heap → Prop} (hf : P.funcs[g]? = some fn) (hb : fn.body = some c)
    (hn : fn.ntmps = n) (ha : args ++ Array.replicate (n - args.size) undef = (mk n f).tmps)
    (hw : ∀ w : World, w.heap = h → c.wp P (bodyPostD P fn (EndOk w K)) (mk n f) w) : HC P g args h K := by
  intro w hh
  refine calls_of_wp_defers hf hb ?_
  rw [hn, ha]
  exact hw w hh
end dfr
end Go.Sh
namespace Go.Proofs.Ytaibfbakhiainaa
open Go Go.Sh
attribute [local irreducible] Go.wpQuiet Go.wpList Go.Sh.mixL Go.Sh.mixF Go.Sh.wpAnyE Go.Code.wp
theorem meth20 : Try.prog.underlying 20 = some (.interface (Try.prog.methodsAt 20)) := by kernel_rfl
theorem neq_nilI (t : TypeId) (y : Value) (o : Oper) (x : Operand) (ho : o.op = .binOp .neq 20 x (.const .nilIface) 20) (ρ : Operand → Value) (hρ : ρ (.const .nilIface) = .nilIface) (hx : ρ x = .iface t y) (w : World) :
    (execOp ρ o).run Try.prog w = .ok (.value (.bool true)) w := by
  simp only [execOp, ho, hx, hρ]
  have u := Try.underlying20
  simp [eqGuard, binOp, go_sem, u, run_equal_held_nil _ _ _ _ meth20]
theorem neq_nilN (o : Oper) (x : Operand) (ho : o.op = .binOp .neq 20 x (.const .nilIface) 20) (ρ : Operand → Value) (hρ : ρ (.const .nilIface) = .nilIface) (hx : ρ x = .nilIface) (w : World) :
    (execOp ρ o).run Try.prog w = .ok (.value (.bool false)) w := by
  simp only [execOp, ho, hx, hρ]
  have u := Try.underlying20
  simp [eqGuard, binOp, go_sem, u, run_equal_nil_nil _ _ meth20]
theorem clo65_idle [G : Gd] (t0 : Value) {h : Heap} : ∀ w : World, w.heap = h → CallsD Try.prog 55 #[t0] .returning w fun e u' w' => (∃ v, e = .returned v) ∧ u' = .returning ∧ SameW w w' ∧ w'.heap = h := by
  refine callsD_rec (n := 6) (f := ovr [(0, t0)] fun _ => undef) (x := .nilIface) (b := false) (h := h) (K := fun h' => h' = h) Try.func55 rfl rfl (by kernel_rfl) rfl rfl rfl
    (fun f w hf => neq_nilN _ _ rfl _ rfl (by exact hf) w) rfl rfl Try.results55 (fun c₀ cs hu => .inr ⟨by simp [recoverD, hu], rfl, rfl⟩) (by decide) (fun w hw => ?_)
  refine codeCond (v := .bool false) (A := False) (B := True) trivial rfl (fun hb _ => by cases hb) (fun _ _ => ?_)
  refine wp_skip ?_
  exact post_end (res_none Try.results55) (.inl ⟨_, rfl, SameW.refl _, hw⟩)
theorem clo65_pan [G : Gd] {t0 : Value} {t : TypeId} {y : Value} {h : Heap} {K : Heap → Prop}
    (hg : oLoad Try.prog 67 t0 (Eq h) fun t3 => oNil Try.prog t3 fun t4 => oFieldAddr Try.prog 90 t4 1 (Eq h) fun t5 => @oStore Try.prog G.no 4 t5 (.bool true) h fun _ h' => K h') :
    ∀ w : World, w.heap = h → CallsD Try.prog 55 #[t0] (.panicking [{ v := .iface t y, recovered := false }]) w fun e u' w' =>
      (∃ v, e = .returned v) ∧ u' = .panicking [{ v := .iface t y, recovered := true }] ∧ SameW w w' ∧ K w'.heap := by
  refine callsD_rec (n := 6) (f := ovr [(0, t0)] fun _ => undef) (x := .iface t y) (b := true) (h := h) (K := K) Try.func55 rfl rfl (by kernel_rfl) rfl rfl rfl
    (fun f w hf => neq_nilI t y _ _ rfl _ rfl (by exact hf) w) rfl rfl Try.results55 (fun c₀ cs hu => .inl ⟨{ c₀ with mode := .panicking [{ v := .iface t y, recovered := true }] } :: cs, by simp [recoverD, hu], rfl⟩) (by decide) (fun w hw => ?_)
  generalize G.no = G2 at hg ⊢
  have hs := SameW.refl w
  refine codeCond (v := .bool true) (A := True) (B := False) trivial rfl (fun _ _ => ?_) (fun hb _ => by cases hb)
  refine region_seq ?_
  refine stepQ rfl (by exact hg) hw (wanted_none rfl) rfl (fun t3 hg => ?_)
  refine stepP rfl (by exact hg) (wanted_none rfl) rfl (fun t4 hg => ?_)
  refine stepQ rfl (by exact hg) hw (wanted_none rfl) rfl (fun t5 hg => ?_)
  refine stepU rfl (by exact hg) hw (wanted_none rfl) rfl (fun _ h_2 w_2 hw hs1 hg => ?_)
  have hs := hs.trans hs1
  refine stepEnd ?_
  exact post_end (res_none Try.results55) (.inl ⟨_, rfl, hs, by rw [hw]; exact hg⟩)
/-- Where a panic may leave the heap: what the closure and the results make of it. -/
def pnA (G : Gd) (t2 t4 : Value) (R : Value → Heap → Prop) (x : Value) (h : Heap) : Prop :=
  (∃ t y, x = .iface t y) ∧ oLoad Try.prog 67 t2 (Eq h) fun t3 => oNil Try.prog t3 fun t4' => oFieldAddr Try.prog 90 t4' 1 (Eq h) fun t5 => @oStore Try.prog G.no 4 t5 (.bool true) h fun _ h' => oRes Try.prog [(some 33, t4)] h' R
def g_code_attempt_api_Summary [G : Gd] (v0 v1 : Value) (h : Heap) (R : Value → Heap → Prop) : Prop :=
  oBox Try.prog 67 v0 h fun t2 h => 
  oAlloc Try.prog 33 h fun t4 h_1 => 
  oLoad Try.prog 67 t2 (Eq h_1) fun t5 =>
  oNil Try.prog t5 fun t6 =>
  oFieldAddr Try.prog 90 t6 1 (Eq h_1) fun t7 =>
  oLoad Try.prog 4 t7 (Eq h_1) fun t8 =>
  cond t8
   (oLoad Try.prog 33 t4 (Eq h_1) fun t9 =>
   oStore Try.prog 33 t4 t9 h_1 fun _ h_2 => 
   oRes Try.prog [(some 33, t4)] h_2 R)
   (oFunc Try.prog (.func 55) #[] #[t2] fun t10 => t10 = .func (.func 55) #[] #[t2] ∧
   @oCall Try.prog (G.with (pnA G t2 t4 R)) v1 #[] h_1 fun t12 h_3 => 
   @oStore Try.prog (G.with (pnA G t2 t4 R)) 33 t4 t12 h_3 fun _ h_4 => 
   oRes Try.prog [(some 33, t4)] h_4 R)

set_option maxRecDepth 100000 in
set_option maxHeartbeats 2000000 in
theorem sh_code_attempt_api_Summary [G : Gd] {v0 v1 : Value} {h : Heap} {R : Value → Heap → Prop} (hg : g_code_attempt_api_Summary v0 v1 h R) : HC Try.prog 41 #[v0, v1] h R := by
  refine hc_of_wpD (n := 13) (f := ovr [(0, v0), (1, v1)] fun _ => undef) Try.func41 rfl rfl (by kernel_rfl) (fun w0 hw => ?_)
  have hs := SameW.refl w0
  unfold g_code_attempt_api_Summary at hg
  refine wp_seq ?_
  refine region_seq ?_
  refine stepX rfl (by exact hg) hw (wanted_none rfl) rfl (fun t2 h wh hw hs1 hg => ?_)
  have hs := hs.trans hs1
  clear hs1
  refine stepX rfl (by exact hg) hw (wanted_none rfl) rfl (fun t4 h_1 wh_1 hw hs1 hg => ?_)
  have hs := hs.trans hs1
  clear hs1
  refine stepEnd ?_
  refine thenN ?_
  refine wp_seq ?_
  refine wp_seq ?_
  refine region_seq ?_
  refine stepQ rfl (by exact hg) hw (wanted_none rfl) rfl (fun t5 hg => ?_)
  refine stepP rfl (by exact hg) (wanted_none rfl) rfl (fun t6 hg => ?_)
  refine stepQ rfl (by exact hg) hw (wanted_none rfl) rfl (fun t7 hg => ?_)
  refine stepQ rfl (by exact hg) hw (wanted_none rfl) rfl (fun t8 hg => ?_)
  refine stepEnd ?_
  refine thenN ?_
  refine codeCond hg rfl (fun hb hg1 => ?_) (fun hb hg1 => ?_)
  · clear hg; subst hb; have hg := hg1; clear hg1
    refine wp_seq ?_
    refine region_seq ?_
    refine stepQ rfl (by exact hg) hw (wanted_none rfl) rfl (fun t9 hg => ?_)
    refine stepU rfl (by exact hg) hw (wanted_none rfl) rfl (fun _ h_2 wh_2 hw hs1 hg => ?_)
    have hs := hs.trans hs1
    clear hs1
    refine stepEnd ?_
    refine thenN ?_
    refine wp_ret ?_
    refine thenR ?_
    exact post_resB hg hw hs Try.results41 ⟨rfl, rfl, rfl, trivial⟩
  · clear hg; subst hb; have hg := hg1; clear hg1
    refine wp_skip ?_
    refine thenN ?_
    refine wp_seq ?_
    refine region_seq ?_
    refine stepP (ex_makeFunc rfl) (by exact hg) (wanted_none rfl) rfl (fun t10 hg => ?_)
    obtain ⟨rfl, hg⟩ := hg
    refine stepD (g := 55) (cap := #[t2]) rfl rfl (wanted_none rfl) rfl ?_
    refine stepEnd ?_
    have hpn : @PnOk (G.with (pnA G t2 t4 R)) [{ target := .fn (.func 55) #[t2], args := #[] }] (bodyPostD Try.prog Try.f41 (@EndOk G w0 R)) w0 (fun n f => rrel n f [.cell 4 33] [(some 33, t4)]) :=
      pnOk_D Try.results41 (fun w => Fnc.run _ w) (fun x h hx => hx.1) (fun t y w hx => clo65_pan (t := t) (y := y) hx.2 w rfl)
    obtain ⟨G2, hG2⟩ : ∃ G2 : Gd, G2 = G.with (pnA G t2 t4 R) := ⟨_, rfl⟩
    have hgg : G2.g = G.g := by subst hG2; rfl
    rw [← hG2] at hg hpn
    have hs := SameWg.cast hs hgg.symm
    refine thenN ?_
    refine wp_seq ?_
    refine region_seq ?_
    refine stepM (v := v1) (by first | exact .inl rfl | exact .inr rfl) (wanted_none rfl) rfl rfl ?_
    refine stepX (ex_call rfl) (by exact hg) hw (wanted_none rfl) rfl (fun t12 h_3 wh_3 hw hs1 hg => ?_)
    have hs := hs.trans hs1
    clear hs1
    refine stepU rfl (by exact hg) hw (wanted_none rfl) rfl (fun _ h_4 wh_4 hw hs1 hg => ?_)
    have hs := hs.trans hs1
    clear hs1
    refine stepEnd ?_
    refine thenN ?_
    refine wp_ret ?_
    have hs := SameWg.cast hs hgg
    exact post_resD (G := G) hg hw hs Try.results41 ⟨rfl, rfl, rfl, trivial⟩ (fun w => Fnc.run _ w) (fun w hw => (clo65_idle (G := G) t2 w hw))

end Go.Proofs.Ytaibfbakhiainaa
namespace Go.Proofs.Ytaibfbakhiainaa
open Go Go.Sh

/-- (*augur/code.source).one -/
def p_code_source_one (a0 : T_code_source) (E : T_code_source → Prop) (R : T_code_source → Int → Prop) : Prop :=
  Pl.join  (Pl.get a0.left 0 fun a =>
    Pl.slc a0.left 1 (List.length a0.left : Int) fun l =>
    R (⟨l⟩ : T_code_source) a)
   fun kp =>
  Pl.ite ((List.length a0.left : Int) = 0)
   (E a0)
   (kp)

/-- (*augur/code.source).num -/
def p_code_source_num (a0 : T_code_source) (E : T_code_source → Prop) (R : T_code_source → Int → Prop) : Prop :=
  Pl.loop4 (0 : Int) (0 : Int) (0 : Int) a0.left fun x_6 x_7 x_8 l_1 next =>
  Pl.ite (x_8 < 10)
   (p_code_source_one (⟨l_1⟩ : T_code_source) (fun b => E b) fun b_1 r_5 =>
    Pl.join  (Pl.ok ((0 : Int) ≤ (IntKind.wrap .i64 (7 * x_8))) <|
      Pl.ite (r_5 < 128)
       (Pl.join  (R b_1 (Pl.bor .u64 x_7 (Pl.shl .u64 (IntKind.wrap .u64 (Pl.band .u8 r_5 127)) (IntKind.wrap .i64 (7 * x_8)))))
         fun kp_1 =>
        Pl.join (fun (x_10 : Bool) =>
          Pl.ite (x_10 = true)
           (E b_1)
           (kp_1))
         fun kp_2 =>
        Pl.ite (r_5 = 0)
         (kp_2 (decide (0 < x_8)))
         (kp_2 false))
       (next x_6 (Pl.bor .u64 x_7 (Pl.shl .u64 (IntKind.wrap .u64 (Pl.band .u8 r_5 127)) (IntKind.wrap .i64 (7 * x_8)))) (IntKind.wrap .i64 (x_8 + 1)) b_1.left))
     fun kp =>
    Pl.join (fun (x_11 : Bool) =>
      Pl.ite (x_11 = true)
       (E b_1)
       (kp))
     fun kp_3 =>
    Pl.ite (x_8 = 9)
     (kp_3 (decide (1 < r_5)))
     (kp_3 false))
   (E (⟨l_1⟩ : T_code_source))

/-- (*augur/code.source).int -/
def p_code_source_int (a0 : T_code_source) (E : T_code_source → Prop) (R : T_code_source → Int → Prop) : Prop :=
  p_code_source_num a0 (fun b => E b) fun b_1 r_3 =>
  Pl.ok ((2 : Int) ≠ 0) <|
  Pl.ite ((Int.tmod r_3 2) = 0)
   (Pl.ok ((2 : Int) ≠ 0) <|
    R b_1 (IntKind.wrap .i64 (IntKind.wrap .u64 (Int.tdiv r_3 2))))
   (Pl.ok ((2 : Int) ≠ 0) <|
    R b_1 (IntKind.wrap .i64 ((IntKind.wrap .i64 (0 - (IntKind.wrap .i64 (IntKind.wrap .u64 (Int.tdiv r_3 2))))) - 1)))

/-- (*augur/code.source).small -/
def p_code_source_small (a0 : T_code_source) (E : T_code_source → Prop) (R : T_code_source → Int → Prop) : Prop :=
  p_code_source_int a0 (fun b => E b) fun b_1 r_3 =>
  Pl.join  (R b_1 r_3)
   fun kp =>
  Pl.join (fun (x_1 : Bool) =>
    Pl.ite (x_1 = true)
     (E b_1)
     (kp))
   fun kp_1 =>
  Pl.ite (r_3 < (-2147483648))
   (kp_1 true)
   (kp_1 (decide (2147483647 < r_3)))

/-- (*augur/code.source).count -/
def p_code_source_count (a0 : T_code_source) (E : T_code_source → Prop) (R : T_code_source → Int → Prop) : Prop :=
  p_code_source_num a0 (fun b => E b) fun b_1 r_3 =>
  Pl.join  (R b_1 (IntKind.wrap .i64 r_3))
   fun kp =>
  Pl.ite ((IntKind.wrap .u64 (List.length b_1.left : Int)) < r_3)
   (E b_1)
   (kp)

/-- (*augur/code.source).bool -/
def p_code_source_bool (a0 : T_code_source) (E : T_code_source → Prop) (R : T_code_source → Bool → Prop) : Prop :=
  p_code_source_one a0 (fun b => E b) fun b_1 r_3 =>
  Pl.join  (R b_1 (decide (r_3 = 1)))
   fun kp =>
  Pl.ite (1 < r_3)
   (E b_1)
   (kp)

/-- (*augur/code.source).interval -/
def p_code_source_interval (a0 : T_code_source) (E : T_code_source → Prop) (R : T_code_source → T_api_Ival → Prop) : Prop :=
  p_code_source_bool a0 (fun b => E b) fun b_1 r_3 =>
  Pl.join (fun (l : List Int) (x_1 : Int) (x_2 : Int) =>
    R (⟨l⟩ : T_code_source) (⟨r_3, x_1, x_2⟩ : T_api_Ival))
   fun kp =>
  Pl.ite (r_3 = true)
   (p_code_source_int b_1 (fun b_2 => E b_2) fun b_3 r_7 =>
    p_code_source_int b_3 (fun b_4 => E b_4) fun b_5 r_10 =>
    kp b_5.left r_7 r_10)
   (kp b_1.left 0 0)

/-- (*augur/code.source).text -/
def p_code_source_text (a0 : T_code_source) (E : T_code_source → Prop) (R : T_code_source → Str → Prop) : Prop :=
  p_code_source_count a0 (fun b => E b) fun b_1 r_3 =>
  Pl.slc b_1.left 0 r_3 fun l =>
  Pl.str l fun s_1 =>
  Pl.slc b_1.left r_3 (List.length b_1.left : Int) fun l_1 =>
  R (⟨l_1⟩ : T_code_source) s_1

/-- (*augur/code.source).summary -/
def p_code_source_summary (a0 : T_code_source) (E : T_code_source → Prop) (R : T_code_source → T_api_Summary → Prop) : Prop :=
  p_code_source_count a0 (fun b => E b) fun b_1 r_3 =>
  Pl.loop3 (0 : Int) b_1.left ([] : List T_api_Alarm) fun x_3 l_2 l_3 next =>
  Pl.ite (x_3 < r_3)
   (p_code_source_small (⟨l_2⟩ : T_code_source) (fun b_2 => E b_2) fun b_3 r_8 =>
    p_code_source_small b_3 (fun b_4 => E b_4) fun b_5 r_11 =>
    Pl.app l_3 [(⟨r_8, r_11⟩ : T_api_Alarm)] fun l_4 =>
    next (IntKind.wrap .i64 (x_3 + 1)) b_5.left l_4)
   (p_code_source_bool (⟨l_2⟩ : T_code_source) (fun b_6 => E b_6) fun b_7 r_14 =>
    p_code_source_interval b_7 (fun b_8 => E b_8) fun b_9 r_17 =>
    p_code_source_count b_9 (fun b_10 => E b_10) fun b_11 r_20 =>
    Pl.loop3 (0 : Int) b_11.left ([] : List T_api_Named) fun x_11 l_7 l_8 next_1 =>
    Pl.ite (x_11 < r_20)
     (p_code_source_text (⟨l_7⟩ : T_code_source) (fun b_12 => E b_12) fun b_13 r_25 =>
      p_code_source_interval b_13 (fun b_14 => E b_14) fun b_15 r_28 =>
      Pl.app l_8 [(⟨r_25, r_28⟩ : T_api_Named)] fun l_9 =>
      next_1 (IntKind.wrap .i64 (x_11 + 1)) b_15.left l_9)
     (R (⟨l_7⟩ : T_code_source) (⟨l_3, r_14, r_17, l_8⟩ : T_api_Summary)))

/-- augur/code.NewReader -/
def p_code_NewReader (a0 : List Int) (R : T_code_Reader → Prop) : Prop :=
  p_slices_Clone_byte_byte a0 fun r_1 =>
  R (⟨(⟨r_1⟩ : T_code_source), false⟩ : T_code_Reader)

/-- (*augur/code.Reader).Done -/
def p_code_Reader_Done (a0 : T_code_Reader) (R : T_code_Reader → Int → Prop) : Prop :=
  Pl.join (fun (x : Bool) =>
    Pl.ite (x = true)
     (R a0 20)
     (R a0 0))
   fun kp =>
  Pl.ite (a0.failed = true)
   (kp true)
   (kp (decide (0 < (List.length a0.from_.left : Int))))

end Go.Proofs.Ytaibfbakhiainaa

namespace Go.Proofs.Ytaibfbakhiainaa
open Go Go.Sh
variable [Gd]
set_option maxRecDepth 100000
attribute [local irreducible] Go.wpQuiet Go.wpList Go.Sh.mixL Go.Sh.mixF Go.Sh.wpAnyE Go.Code.wp

/-- (*augur/code.source).one -/
def g_code_source_one (v0 : Value) (h : Heap) (R : Value → Heap → Prop) : Prop :=
 join (fun (h : Heap) =>
  oNil Try.prog v0 fun t12 =>
  oFieldAddr Try.prog 88 t12 0 (Eq h) fun t13 =>
  oLoad Try.prog 22 t13 (Eq h) fun t14 =>
  oIdx Try.prog 22 t14 (.int .i64 0) fun t15 =>
  oLoad Try.prog 5 t15 (Eq h) fun t16 =>
  oNil Try.prog v0 fun t19 =>
  oFieldAddr Try.prog 88 t19 0 (Eq h) fun t20 =>
  oLoad Try.prog 22 t20 (Eq h) fun t21 =>
  oSlice Try.prog 22 t21 (some (.int .i64 1)) none none fun t22 =>
  oNil Try.prog v0 fun t23 =>
  oFieldAddr Try.prog 88 t23 0 (Eq h) fun t24 =>
  oStore Try.prog 22 t24 t22 h fun _ h_1 => 
  R t16 h_1)
  fun k =>
  oNil Try.prog v0 fun t5 =>
  oFieldAddr Try.prog 88 t5 0 (Eq h) fun t6 =>
  oLoad Try.prog 22 t6 (Eq h) fun t7 =>
  oLen Try.prog #[22] 3 t7 fun t8 =>
  oBin Try.prog .eql 3 (.tmp 8) (.const (.int .i64 0)) t8 (.int .i64 0) fun t9 =>
  cond t9
  (oIface Try.prog 9 (.string ⟨#[110, 111, 32, 98, 121, 116, 101, 32, 105, 115, 32, 108, 101, 102, 116]⟩) fun t10 =>
  oPanic Try.prog t10 h fun _ h_2 => 
  k h_2)
  (k h)

theorem sh_code_source_one {v0 : Value} {h : Heap} {R : Value → Heap → Prop} (hg : g_code_source_one v0 h R) : HC Try.prog 71 #[v0] h R := hc_shal [] Try.func71 (by kernel_rfl) hg

set_option maxRecDepth 20000 in
set_option maxHeartbeats 4000000 in
theorem w_code_source_one {F : Vw} {h : Heap} {M : List HP} {a0 : T_code_source} {y0 : Cx} {p0 : Addr} {v : Value} {E : T_code_source → Prop} {R : T_code_source → Int → Prop} (s : Sf F h (Ce y0 [v] :: M)) (hy0 : y0.at p0) (r : RL (eI .u8) F v a0.left) (hp : p_code_source_one a0 E R) (hE : ∀ (F' : Vw) (h' : Heap) (b0 : T_code_source) (u0_0 : Value) (x : Value), Le F F' → Sf F' h' (Ce y0 [u0_0] :: M) → RL (eI .u8) F' u0_0 b0.left → E b0 → (∃ t v, x = .iface t v) → Gd.pn x h') :
  HC Try.prog 71 #[(.pointer (some p0))] h fun u h' => ∃ (F' : Vw) (b0 : T_code_source) (u0_0 : Value) (r_0 : Int), Le F F' ∧ Sf F' h' (Ce y0 [u0_0] :: M) ∧ (.int .u8 r_0) = u ∧ RL (eI .u8) F' u0_0 b0.left ∧ R b0 r_0 := by
 refine sh_code_source_one ?_
 unfold g_code_source_one
 unfold p_code_source_one at hp
 have e0 := Le.refl F
 obtain ⟨kp, hk_1, hp⟩ := Pl.join_elim hp
 have ej := Le.refl F
 refine Sh.join_intro fun k hk => ?_
 have hK : ∀ (F_1 : Vw) (h_1 : Heap) , Le F F_1 → Sf F_1 h_1 (Ce y0 [v] :: M) → kp → k h_1 := by
  intro F_1 h_1 g s  hp
  rw [hk]
  rw [hk_1] at hp
  replace r := r.le g
  replace e0 := Le.trans e0 g
  replace ej := Le.trans ej g
  refine tNil (a := p0) (j := 0) (padd_zero _).symm ?_
  refine tFA (a := p0) (n := 0) (padd_zero _).symm (padd_zero _) ?_
  refine tLd (p := .pointer (some p0)) (cs := [v]) (j := 0) (padd_zero _).symm (Sf.ceE hy0 0 rfl s) rfl ?_
  obtain ⟨hz, a, hi, hp⟩ := hp
  refine tPlF rfl r hz hi fun q c hc rv => ?_
  obtain rfl : c = [(.int .u8 a)] := hc
  refine tLd (p := .pointer (some q)) (cs := [(.int .u8 a)]) (j := 0) (padd_zero _).symm (Sf.rvE s rv) rfl ?_
  refine tNil (a := p0) (j := 0) (padd_zero _).symm ?_
  refine tFA (a := p0) (n := 0) (padd_zero _).symm (padd_zero _) ?_
  refine tLd (p := .pointer (some p0)) (cs := [v]) (j := 0) (padd_zero _).symm (Sf.ceE hy0 0 rfl s) rfl ?_
  obtain ⟨hz_1, hz_2, hz_3, l, hr, hp⟩ := hp
  refine tCutL rfl r hz_1 hz_2 hz_3 hr (.inr ⟨_, rfl⟩) (.inl ⟨rfl, rfl⟩) fun v_1 r_1 => ?_
  refine tNil (a := p0) (j := 0) (padd_zero _).symm ?_
  refine tFA (a := p0) (n := 0) (padd_zero _).symm (padd_zero _) ?_
  refine tSt (cs := [v]) (vs := [v_1]) (cs' := [v_1]) (j := 0) 0 rfl s hy0 (padd_zero _).symm (by rw [r_1.1.cells]) rfl (Nat.le_of_ble_eq_true rfl) (ones_cons r_1.1.one ones_nil) rfl fun h_2 s => ?_
  exact ⟨F_1, (⟨l⟩ : T_code_source), v_1, a, e0, s, rfl, r_1, hp⟩
 clear hk hk_1
 refine tNil (a := p0) (j := 0) (padd_zero _).symm ?_
 refine tFA (a := p0) (n := 0) (padd_zero _).symm (padd_zero _) ?_
 refine tLd (p := .pointer (some p0)) (cs := [v]) (j := 0) (padd_zero _).symm (Sf.ceE hy0 0 rfl s) rfl ?_
 refine (oLen_sl r.1).2 ?_
 refine oBin_eql.2 ?_
 by_cases hc_1 : (List.length a0.left : Int) = 0
 ·refine (cond_pos hc_1).2 ?_
  replace hp := (Pl.ite_pos hc_1).1 hp
  refine tIfc ?_
  exact tPanic (hE _ _ a0 _ _ e0 s r hp ⟨_, _, rfl⟩)
 ·refine (cond_neg hc_1).2 ?_
  replace hp := (Pl.ite_neg hc_1).1 hp
  exact hK _ _  ej s  hp

/-- (*augur/code.source).num -/
def g_code_source_num (v0 : Value) (h : Heap) (R : Value → Heap → Prop) : Prop :=
 loop3 (.int .u64 0) (.int .u64 0) (.int .i64 0) h fun x2 x3 x6 h next =>
  oBin Try.prog .lss 3 (.tmp 6) (.const (.int .i64 10)) x6 (.int .i64 10) fun t7 =>
  cond t7
  (oCall Try.prog (.func (.func 71) #[] #[]) #[v0] h fun t10 h_1 => 
  join (fun (h_2 : Heap) =>
   oBin Try.prog .and 5 (.tmp 19) (.const (.int .u8 127)) t10 (.int .u8 127) fun t20 =>
   oConv Try.prog 5 73 t20 fun t21 =>
   oBin Try.prog .mul 3 (.const (.int .i64 7)) (.tmp 22) (.int .i64 7) x6 fun t23 =>
   oBin Try.prog .shl 73 (.tmp 21) (.tmp 23) t21 t23 fun t24 =>
   oBin Try.prog .or 73 (.tmp 18) (.tmp 24) x3 t24 fun t25 =>
   oBin Try.prog .lss 5 (.tmp 26) (.const (.int .u8 128)) t10 (.int .u8 128) fun t27 =>
   cond t27
   (join (fun (h_3 : Heap) =>
    R t25 h_3)
    fun k_1 =>
    oBin Try.prog .eql 5 (.tmp 28) (.const (.int .u8 0)) t10 (.int .u8 0) fun t29 =>
    join (fun (x32 : Value)  =>
    oPick Try.prog t29 x32 (.bool false) fun t33 =>
    cond t33
     (oIface Try.prog 9 (.string ⟨#[97, 32, 98, 121, 116, 101, 32, 116, 111, 111, 32, 109, 97, 110, 121]⟩) fun t34 =>
     oPanic Try.prog t34 h_2 fun _ h_4 => 
     k_1 h_4)
     (k_1 h_2))
    fun k_2 =>
    cond t29
    (oBin Try.prog .gtr 3 (.tmp 31) (.const (.int .i64 0)) x6 (.int .i64 0) fun t32 =>
    k_2 t32)
    (k_2 undef))
   (oBin Try.prog .add 3 (.tmp 6) (.const (.int .i64 1)) x6 (.int .i64 1) fun t36 =>
   next x2 t25 t36 h_2))
   fun k =>
   oBin Try.prog .eql 3 (.tmp 11) (.const (.int .i64 9)) x6 (.int .i64 9) fun t12 =>
   join (fun (x15 : Value)  =>
   oPick Try.prog t12 x15 (.bool false) fun t16 =>
   cond t16
    (oIface Try.prog 9 (.string ⟨#[109, 111, 114, 101, 32, 116, 104, 97, 110, 32, 54, 52, 32, 98, 105, 116, 115]⟩) fun t17 =>
    oPanic Try.prog t17 h_1 fun _ h_5 => 
    k h_5)
    (k h_1))
   fun k_3 =>
   cond t12
   (oBin Try.prog .gtr 5 (.tmp 14) (.const (.int .u8 1)) t10 (.int .u8 1) fun t15 =>
   k_3 t15)
   (k_3 undef))
  (oIface Try.prog 9 (.string ⟨#[109, 111, 114, 101, 32, 116, 104, 97, 110, 32, 116, 101, 110, 32, 98, 121, 116, 101, 115]⟩) fun t37 =>
  oPanic Try.prog t37 h fun _ h_6 => 
  R x2 h_6)

theorem sh_code_source_num {v0 : Value} {h : Heap} {R : Value → Heap → Prop} (hg : g_code_source_num v0 h R) : HC Try.prog 69 #[v0] h R := hc_shal [] Try.func69 (by kernel_rfl) hg

set_option maxRecDepth 20000 in
set_option maxHeartbeats 4000000 in
theorem w_code_source_num {F : Vw} {h : Heap} {M : List HP} {a0 : T_code_source} {y0 : Cx} {p0 : Addr} {v : Value} {E : T_code_source → Prop} {R : T_code_source → Int → Prop} (s : Sf F h (Ce y0 [v] :: M)) (hy0 : y0.at p0) (r : RL (eI .u8) F v a0.left) (hp : p_code_source_num a0 E R) (hE : ∀ (F' : Vw) (h' : Heap) (b0 : T_code_source) (u0_0 : Value) (x : Value), Le F F' → Sf F' h' (Ce y0 [u0_0] :: M) → RL (eI .u8) F' u0_0 b0.left → E b0 → (∃ t v, x = .iface t v) → Gd.pn x h') :
  HC Try.prog 69 #[(.pointer (some p0))] h fun u h' => ∃ (F' : Vw) (b0 : T_code_source) (u0_0 : Value) (r_0 : Int), Le F F' ∧ Sf F' h' (Ce y0 [u0_0] :: M) ∧ (.int .u64 r_0) = u ∧ RL (eI .u8) F' u0_0 b0.left ∧ R b0 r_0 := by
 refine sh_code_source_num ?_
 unfold g_code_source_num
 unfold p_code_source_num at hp
 have e0 := Le.refl F
 obtain ⟨I, m0, hI, hI_1⟩ := hp
 refine ⟨fun m w w_1 w_2 h_3 => ∃ (F_3 : Vw) (x_6 : Int) (x_7 : Int) (x_8 : Int) (l_1 : List Int) (v_2 : Value), Le F F_3 ∧ Sf F_3 h_3 (Ce y0 [v_2] :: M) ∧ (.int .u64 x_6) = w ∧ (.int .u64 x_7) = w_1 ∧ (.int .i64 x_8) = w_2 ∧ RL (eI .u8) F_3 v_2 l_1 ∧ I m x_6 x_7 x_8 l_1, m0, ⟨F, 0, 0, 0, a0.left, v, Le.refl _, s, rfl, rfl, rfl, r, hI⟩, ?_⟩
 clear hI
 rintro m w w_1 w_2 h_3 ⟨F_3, x_6, x_7, x_8, l_1, v_2, g, s, rfl, rfl, rfl, r_2, hi⟩
 have hp := hI_1 m x_6 x_7 x_8 l_1 hi
 replace e0 := Le.trans e0 g
 have eL := g
 refine oBin_lss.2 ?_
 by_cases hc : x_8 < 10
 ·refine (cond_pos hc).2 ?_
  replace hp := (Pl.ite_pos hc).1 hp
  refine oCall_func (HC.mono (w_code_source_one (a0 := (⟨l_1⟩ : T_code_source)) s hy0 r_2 hp ?_) ?_)
  ·intro F_5 h_4 b v_3 x_9 g_1 s r_3 hp hx
   replace e0 := Le.trans e0 g_1
   replace eL := Le.trans eL g_1
   exact hE _ _ b _ _ e0 s r_3 hp hx
  rintro u h_5 ⟨F_6, b_1, v_4, r_5, g_2, s, rfl, r_4, hp⟩
  replace e0 := Le.trans e0 g_2
  replace eL := Le.trans eL g_2
  obtain ⟨kp, hk_1, hp⟩ := Pl.join_elim hp
  have ej := Le.refl F_6
  refine Sh.join_intro fun k hk => ?_
  have hK : ∀ (F_7 : Vw) (h_6 : Heap) , Le F_6 F_7 → Sf F_7 h_6 (Ce y0 [v_4] :: M) → kp → k h_6 := by
   intro F_7 h_6 g_3 s  hp
   rw [hk]
   rw [hk_1] at hp
   replace r_4 := r_4.le g_3
   replace e0 := Le.trans e0 g_3
   replace eL := Le.trans eL g_3
   replace ej := Le.trans ej g_3
   refine oBin_and.2 ?_
   refine oConv_int.2 ?_
   refine oBin_mul.2 ?_
   obtain ⟨hz, hp⟩ := hp
   refine (oBin_shl hz).2 ?_
   refine oBin_or.2 ?_
   refine oBin_lss.2 ?_
   by_cases hc_1 : r_5 < 128
   ·refine (cond_pos hc_1).2 ?_
    replace hp := (Pl.ite_pos hc_1).1 hp
    obtain ⟨kp_1, hk_3, hp⟩ := Pl.join_elim hp
    have ej_1 := Le.refl F_7
    refine Sh.join_intro fun k_1 hk_2 => ?_
    have hK_1 : ∀ (F_8 : Vw) (h_7 : Heap) , Le F_7 F_8 → Sf F_8 h_7 (Ce y0 [v_4] :: M) → kp_1 → k_1 h_7 := by
     intro F_8 h_7 g_4 s  hp
     rw [hk_2]
     rw [hk_3] at hp
     replace r_4 := r_4.le g_4
     replace e0 := Le.trans e0 g_4
     replace eL := Le.trans eL g_4
     replace ej := Le.trans ej g_4
     replace ej_1 := Le.trans ej_1 g_4
     exact ⟨F_8, b_1, v_4, Pl.bor .u64 x_7 (Pl.shl .u64 (IntKind.wrap .u64 (Pl.band .u8 r_5 127)) (IntKind.wrap .i64 (7 * x_8))), e0, s, rfl, r_4, hp⟩
    clear hk_2 hk_3
    refine oBin_eql.2 ?_
    obtain ⟨kp_2, hk_5, hp⟩ := Pl.join_elim hp
    refine Sh.join_intro fun k_2 hk_4 => ?_
    have hK_2 : ∀ (x_10 : Bool) (w_3 : Value), (∀ K : Value → Prop, K (.bool x_10) → oPick Try.prog (.bool (decide (r_5 = 0))) w_3 (.bool false) K) → kp_2 x_10 → k_2 w_3 := by
     intro x_10 w_3 hw hp
     rw [hk_4]
     rw [hk_5] at hp
     refine hw _ ?_
     by_cases hc_2 : x_10 = true
     ·refine (cond_tt hc_2).2 ?_
      replace hp := (Pl.ite_pos hc_2).1 hp
      refine tIfc ?_
      exact tPanic (hE _ _ b_1 _ _ e0 s r_4 hp ⟨_, _, rfl⟩)
     ·refine (cond_ff hc_2).2 ?_
      replace hp := (Pl.ite_neg hc_2).1 hp
      exact hK_1 _ _  ej_1 s  hp
    clear hk_4 hk_5
    by_cases hc_3 : r_5 = 0
    ·refine (cond_pos hc_3).2 ?_
     replace hp := (Pl.ite_pos hc_3).1 hp
     refine oBin_gtr.2 ?_
     exact hK_2 (decide (0 < x_8)) _ (fun _ h => oPick_dc hc_3 h) hp
    ·refine (cond_neg hc_3).2 ?_
     replace hp := (Pl.ite_neg hc_3).1 hp
     exact hK_2 false _ (fun _ h => oPick_dn hc_3 h) hp
   ·refine (cond_neg hc_1).2 ?_
    replace hp := (Pl.ite_neg hc_1).1 hp
    refine oBin_add.2 ?_
    obtain ⟨m_1, hm, hi_1⟩ := hp
    exact ⟨m_1, hm, F_7, x_6, Pl.bor .u64 x_7 (Pl.shl .u64 (IntKind.wrap .u64 (Pl.band .u8 r_5 127)) (IntKind.wrap .i64 (7 * x_8))), IntKind.wrap .i64 (x_8 + 1), b_1.left, v_4, eL, s, rfl, rfl, rfl, r_4, hi_1⟩
  clear hk hk_1
  refine oBin_eql.2 ?_
  obtain ⟨kp_3, hk_7, hp⟩ := Pl.join_elim hp
  refine Sh.join_intro fun k_3 hk_6 => ?_
  have hK_3 : ∀ (x_11 : Bool) (w_4 : Value), (∀ K : Value → Prop, K (.bool x_11) → oPick Try.prog (.bool (decide (x_8 = 9))) w_4 (.bool false) K) → kp_3 x_11 → k_3 w_4 := by
   intro x_11 w_4 hw_1 hp
   rw [hk_6]
   rw [hk_7] at hp
   refine hw_1 _ ?_
   by_cases hc_4 : x_11 = true
   ·refine (cond_tt hc_4).2 ?_
    replace hp := (Pl.ite_pos hc_4).1 hp
    refine tIfc ?_
    exact tPanic (hE _ _ b_1 _ _ e0 s r_4 hp ⟨_, _, rfl⟩)
   ·refine (cond_ff hc_4).2 ?_
    replace hp := (Pl.ite_neg hc_4).1 hp
    exact hK _ _  ej s  hp
  clear hk_6 hk_7
  by_cases hc_5 : x_8 = 9
  ·refine (cond_pos hc_5).2 ?_
   replace hp := (Pl.ite_pos hc_5).1 hp
   refine oBin_gtr.2 ?_
   exact hK_3 (decide (1 < r_5)) _ (fun _ h => oPick_dc hc_5 h) hp
  ·refine (cond_neg hc_5).2 ?_
   replace hp := (Pl.ite_neg hc_5).1 hp
   exact hK_3 false _ (fun _ h => oPick_dn hc_5 h) hp
 ·refine (cond_neg hc).2 ?_
  replace hp := (Pl.ite_neg hc).1 hp
  refine tIfc ?_
  exact tPanic (hE _ _ (⟨l_1⟩ : T_code_source) _ _ e0 s r_2 hp ⟨_, _, rfl⟩)

/-- (*augur/code.source).int -/
def g_code_source_int (v0 : Value) (h : Heap) (R : Value → Heap → Prop) : Prop :=
 oCall Try.prog (.func (.func 69) #[] #[]) #[v0] h fun t5 h => 
 oBin Try.prog .rem 73 (.tmp 6) (.const (.int .u64 2)) t5 (.int .u64 2) fun t7 =>
 oBin Try.prog .eql 73 (.tmp 7) (.const (.int .u64 0)) t7 (.int .u64 0) fun t8 =>
 cond t8
  (oBin Try.prog .quo 73 (.tmp 9) (.const (.int .u64 2)) t5 (.int .u64 2) fun t10 =>
  oConv Try.prog 73 2 t10 fun t11 =>
  R t11 h)
  (oBin Try.prog .quo 73 (.tmp 12) (.const (.int .u64 2)) t5 (.int .u64 2) fun t13 =>
  oConv Try.prog 73 2 t13 fun t14 =>
  oUn Try.prog .neg t14 fun t15 =>
  oBin Try.prog .sub 2 (.tmp 15) (.const (.int .i64 1)) t15 (.int .i64 1) fun t16 =>
  R t16 h)

theorem sh_code_source_int {v0 : Value} {h : Heap} {R : Value → Heap → Prop} (hg : g_code_source_int v0 h R) : HC Try.prog 70 #[v0] h R := hc_shal [] Try.func70 (by kernel_rfl) hg

set_option maxRecDepth 20000 in
set_option maxHeartbeats 4000000 in
theorem w_code_source_int {F : Vw} {h : Heap} {M : List HP} {a0 : T_code_source} {y0 : Cx} {p0 : Addr} {v : Value} {E : T_code_source → Prop} {R : T_code_source → Int → Prop} (s : Sf F h (Ce y0 [v] :: M)) (hy0 : y0.at p0) (r : RL (eI .u8) F v a0.left) (hp : p_code_source_int a0 E R) (hE : ∀ (F' : Vw) (h' : Heap) (b0 : T_code_source) (u0_0 : Value) (x : Value), Le F F' → Sf F' h' (Ce y0 [u0_0] :: M) → RL (eI .u8) F' u0_0 b0.left → E b0 → (∃ t v, x = .iface t v) → Gd.pn x h') :
  HC Try.prog 70 #[(.pointer (some p0))] h fun u h' => ∃ (F' : Vw) (b0 : T_code_source) (u0_0 : Value) (r_0 : Int), Le F F' ∧ Sf F' h' (Ce y0 [u0_0] :: M) ∧ (.int .i64 r_0) = u ∧ RL (eI .u8) F' u0_0 b0.left ∧ R b0 r_0 := by
 refine sh_code_source_int ?_
 unfold g_code_source_int
 unfold p_code_source_int at hp
 have e0 := Le.refl F
 refine oCall_func (HC.mono (w_code_source_num (a0 := a0) s hy0 r hp ?_) ?_)
 ·intro F_1 h_1 b v_1 x g s r_1 hp hx
  replace e0 := Le.trans e0 g
  exact hE _ _ b _ _ e0 s r_1 hp hx
 rintro u h_2 ⟨F_2, b_1, v_2, r_3, g_1, s, rfl, r_2, hp⟩
 replace e0 := Le.trans e0 g_1
 obtain ⟨hz, hp⟩ := hp
 refine (oBin_rem hz).2 ?_
 refine oBin_eql.2 ?_
 by_cases hc : (Int.tmod r_3 2) = 0
 ·refine (cond_pos hc).2 ?_
  replace hp := (Pl.ite_pos hc).1 hp
  obtain ⟨hz_1, hp⟩ := hp
  refine (oBin_quo hz_1).2 ?_
  refine oConv_int.2 ?_
  exact ⟨F_2, b_1, v_2, IntKind.wrap .i64 (IntKind.wrap .u64 (Int.tdiv r_3 2)), e0, s, rfl, r_2, hp⟩
 ·refine (cond_neg hc).2 ?_
  replace hp := (Pl.ite_neg hc).1 hp
  obtain ⟨hz_2, hp⟩ := hp
  refine (oBin_quo hz_2).2 ?_
  refine oConv_int.2 ?_
  refine oUn_neg.2 ?_
  refine oBin_sub.2 ?_
  exact ⟨F_2, b_1, v_2, IntKind.wrap .i64 ((IntKind.wrap .i64 (0 - (IntKind.wrap .i64 (IntKind.wrap .u64 (Int.tdiv r_3 2))))) - 1), e0, s, rfl, r_2, hp⟩

/-- (*augur/code.source).small -/
def g_code_source_small (v0 : Value) (h : Heap) (R : Value → Heap → Prop) : Prop :=
 oCall Try.prog (.func (.func 70) #[] #[]) #[v0] h fun t5 h => 
 join (fun (h_1 : Heap) =>
  R t5 h_1)
  fun k =>
  oBin Try.prog .lss 2 (.tmp 6) (.const (.int .i64 (-2147483648))) t5 (.int .i64 (-2147483648)) fun t7 =>
  join (fun (x10 : Value)  =>
  oPick Try.prog t7 (.bool true) x10 fun t11 =>
  cond t11
   (oIface Try.prog 9 (.string ⟨#[109, 111, 114, 101, 32, 116, 104, 97, 110, 32, 51, 50, 32, 98, 105, 116, 115]⟩) fun t12 =>
   oPanic Try.prog t12 h fun _ h_2 => 
   k h_2)
   (k h))
  fun k_1 =>
  cond t7
  (k_1 undef)
  (oBin Try.prog .gtr 2 (.tmp 9) (.const (.int .i64 2147483647)) t5 (.int .i64 2147483647) fun t10 =>
  k_1 t10)

theorem sh_code_source_small {v0 : Value} {h : Heap} {R : Value → Heap → Prop} (hg : g_code_source_small v0 h R) : HC Try.prog 57 #[v0] h R := hc_shal [] Try.func57 (by kernel_rfl) hg

set_option maxRecDepth 20000 in
set_option maxHeartbeats 4000000 in
theorem w_code_source_small {F : Vw} {h : Heap} {M : List HP} {a0 : T_code_source} {y0 : Cx} {p0 : Addr} {v : Value} {E : T_code_source → Prop} {R : T_code_source → Int → Prop} (s : Sf F h (Ce y0 [v] :: M)) (hy0 : y0.at p0) (r : RL (eI .u8) F v a0.left) (hp : p_code_source_small a0 E R) (hE : ∀ (F' : Vw) (h' : Heap) (b0 : T_code_source) (u0_0 : Value) (x : Value), Le F F' → Sf F' h' (Ce y0 [u0_0] :: M) → RL (eI .u8) F' u0_0 b0.left → E b0 → (∃ t v, x = .iface t v) → Gd.pn x h') :
  HC Try.prog 57 #[(.pointer (some p0))] h fun u h' => ∃ (F' : Vw) (b0 : T_code_source) (u0_0 : Value) (r_0 : Int), Le F F' ∧ Sf F' h' (Ce y0 [u0_0] :: M) ∧ (.int .i64 r_0) = u ∧ RL (eI .u8) F' u0_0 b0.left ∧ R b0 r_0 := by
 refine sh_code_source_small ?_
 unfold g_code_source_small
 unfold p_code_source_small at hp
 have e0 := Le.refl F
 refine oCall_func (HC.mono (w_code_source_int (a0 := a0) s hy0 r hp ?_) ?_)
 ·intro F_1 h_1 b v_1 x g s r_1 hp hx
  replace e0 := Le.trans e0 g
  exact hE _ _ b _ _ e0 s r_1 hp hx
 rintro u h_2 ⟨F_2, b_1, v_2, r_3, g_1, s, rfl, r_2, hp⟩
 replace e0 := Le.trans e0 g_1
 obtain ⟨kp, hk_1, hp⟩ := Pl.join_elim hp
 have ej := Le.refl F_2
 refine Sh.join_intro fun k hk => ?_
 have hK : ∀ (F_3 : Vw) (h_3 : Heap) , Le F_2 F_3 → Sf F_3 h_3 (Ce y0 [v_2] :: M) → kp → k h_3 := by
  intro F_3 h_3 g_2 s  hp
  rw [hk]
  rw [hk_1] at hp
  replace r_2 := r_2.le g_2
  replace e0 := Le.trans e0 g_2
  replace ej := Le.trans ej g_2
  exact ⟨F_3, b_1, v_2, r_3, e0, s, rfl, r_2, hp⟩
 clear hk hk_1
 refine oBin_lss.2 ?_
 obtain ⟨kp_1, hk_3, hp⟩ := Pl.join_elim hp
 refine Sh.join_intro fun k_1 hk_2 => ?_
 have hK_1 : ∀ (x_1 : Bool) (w : Value), (∀ K : Value → Prop, K (.bool x_1) → oPick Try.prog (.bool (decide (r_3 < (-2147483648)))) (.bool true) w K) → kp_1 x_1 → k_1 w := by
  intro x_1 w hw hp
  rw [hk_2]
  rw [hk_3] at hp
  refine hw _ ?_
  by_cases hc : x_1 = true
  ·refine (cond_tt hc).2 ?_
   replace hp := (Pl.ite_pos hc).1 hp
   refine tIfc ?_
   exact tPanic (hE _ _ b_1 _ _ e0 s r_2 hp ⟨_, _, rfl⟩)
  ·refine (cond_ff hc).2 ?_
   replace hp := (Pl.ite_neg hc).1 hp
   exact hK _ _  ej s  hp
 clear hk_2 hk_3
 by_cases hc_1 : r_3 < (-2147483648)
 ·refine (cond_pos hc_1).2 ?_
  replace hp := (Pl.ite_pos hc_1).1 hp
  exact hK_1 true _ (fun _ h => oPick_dc hc_1 h) hp
 ·refine (cond_neg hc_1).2 ?_
  replace hp := (Pl.ite_neg hc_1).1 hp
  refine oBin_gtr.2 ?_
  exact hK_1 (decide (2147483647 < r_3)) _ (fun _ h => oPick_dn hc_1 h) hp

/-- (*augur/code.source).count -/
def g_code_source_count (v0 : Value) (h : Heap) (R : Value → Heap → Prop) : Prop :=
 oCall Try.prog (.func (.func 69) #[] #[]) #[v0] h fun t5 h => 
 join (fun (h_1 : Heap) =>
  oConv Try.prog 73 3 t5 fun t16 =>
  R t16 h_1)
  fun k =>
  oNil Try.prog v0 fun t8 =>
  oFieldAddr Try.prog 88 t8 0 (Eq h) fun t9 =>
  oLoad Try.prog 22 t9 (Eq h) fun t10 =>
  oLen Try.prog #[22] 3 t10 fun t11 =>
  oConv Try.prog 3 73 t11 fun t12 =>
  oBin Try.prog .gtr 73 (.tmp 6) (.tmp 12) t5 t12 fun t13 =>
  cond t13
  (oIface Try.prog 9 (.string ⟨#[109, 111, 114, 101, 32, 116, 104, 97, 110, 32, 119, 104, 97, 116, 32, 105, 115, 32, 108, 101, 102, 116]⟩) fun t14 =>
  oPanic Try.prog t14 h fun _ h_2 => 
  k h_2)
  (k h)

theorem sh_code_source_count {v0 : Value} {h : Heap} {R : Value → Heap → Prop} (hg : g_code_source_count v0 h R) : HC Try.prog 56 #[v0] h R := hc_shal [] Try.func56 (by kernel_rfl) hg

set_option maxRecDepth 20000 in
set_option maxHeartbeats 4000000 in
theorem w_code_source_count {F : Vw} {h : Heap} {M : List HP} {a0 : T_code_source} {y0 : Cx} {p0 : Addr} {v : Value} {E : T_code_source → Prop} {R : T_code_source → Int → Prop} (s : Sf F h (Ce y0 [v] :: M)) (hy0 : y0.at p0) (r : RL (eI .u8) F v a0.left) (hp : p_code_source_count a0 E R) (hE : ∀ (F' : Vw) (h' : Heap) (b0 : T_code_source) (u0_0 : Value) (x : Value), Le F F' → Sf F' h' (Ce y0 [u0_0] :: M) → RL (eI .u8) F' u0_0 b0.left → E b0 → (∃ t v, x = .iface t v) → Gd.pn x h') :
  HC Try.prog 56 #[(.pointer (some p0))] h fun u h' => ∃ (F' : Vw) (b0 : T_code_source) (u0_0 : Value) (r_0 : Int), Le F F' ∧ Sf F' h' (Ce y0 [u0_0] :: M) ∧ (.int .i64 r_0) = u ∧ RL (eI .u8) F' u0_0 b0.left ∧ R b0 r_0 := by
 refine sh_code_source_count ?_
 unfold g_code_source_count
 unfold p_code_source_count at hp
 have e0 := Le.refl F
 refine oCall_func (HC.mono (w_code_source_num (a0 := a0) s hy0 r hp ?_) ?_)
 ·intro F_1 h_1 b v_1 x g s r_1 hp hx
  replace e0 := Le.trans e0 g
  exact hE _ _ b _ _ e0 s r_1 hp hx
 rintro u h_2 ⟨F_2, b_1, v_2, r_3, g_1, s, rfl, r_2, hp⟩
 replace e0 := Le.trans e0 g_1
 obtain ⟨kp, hk_1, hp⟩ := Pl.join_elim hp
 have ej := Le.refl F_2
 refine Sh.join_intro fun k hk => ?_
 have hK : ∀ (F_3 : Vw) (h_3 : Heap) , Le F_2 F_3 → Sf F_3 h_3 (Ce y0 [v_2] :: M) → kp → k h_3 := by
  intro F_3 h_3 g_2 s  hp
  rw [hk]
  rw [hk_1] at hp
  replace r_2 := r_2.le g_2
  replace e0 := Le.trans e0 g_2
  replace ej := Le.trans ej g_2
  refine oConv_int.2 ?_
  exact ⟨F_3, b_1, v_2, IntKind.wrap .i64 r_3, e0, s, rfl, r_2, hp⟩
 clear hk hk_1
 refine tNil (a := p0) (j := 0) (padd_zero _).symm ?_
 refine tFA (a := p0) (n := 0) (padd_zero _).symm (padd_zero _) ?_
 refine tLd (p := .pointer (some p0)) (cs := [v_2]) (j := 0) (padd_zero _).symm (Sf.ceE hy0 0 rfl s) rfl ?_
 refine (oLen_sl r_2.1).2 ?_
 refine oConv_int.2 ?_
 refine oBin_gtr.2 ?_
 by_cases hc : (IntKind.wrap .u64 (List.length b_1.left : Int)) < r_3
 ·refine (cond_pos hc).2 ?_
  replace hp := (Pl.ite_pos hc).1 hp
  refine tIfc ?_
  exact tPanic (hE _ _ b_1 _ _ e0 s r_2 hp ⟨_, _, rfl⟩)
 ·refine (cond_neg hc).2 ?_
  replace hp := (Pl.ite_neg hc).1 hp
  exact hK _ _  ej s  hp

/-- (*augur/code.source).bool -/
def g_code_source_bool (v0 : Value) (h : Heap) (R : Value → Heap → Prop) : Prop :=
 oCall Try.prog (.func (.func 71) #[] #[]) #[v0] h fun t5 h => 
 join (fun (h_1 : Heap) =>
  oBin Try.prog .eql 5 (.tmp 9) (.const (.int .u8 1)) t5 (.int .u8 1) fun t10 =>
  R t10 h_1)
  fun k =>
  oBin Try.prog .gtr 5 (.tmp 6) (.const (.int .u8 1)) t5 (.int .u8 1) fun t7 =>
  cond t7
  (oIface Try.prog 9 (.string ⟨#[110, 101, 105, 116, 104, 101, 114, 32, 102, 97, 108, 115, 101, 32, 110, 111, 114, 32, 116, 114, 117, 101]⟩) fun t8 =>
  oPanic Try.prog t8 h fun _ h_2 => 
  k h_2)
  (k h)

theorem sh_code_source_bool {v0 : Value} {h : Heap} {R : Value → Heap → Prop} (hg : g_code_source_bool v0 h R) : HC Try.prog 58 #[v0] h R := hc_shal [] Try.func58 (by kernel_rfl) hg

set_option maxRecDepth 20000 in
set_option maxHeartbeats 4000000 in
theorem w_code_source_bool {F : Vw} {h : Heap} {M : List HP} {a0 : T_code_source} {y0 : Cx} {p0 : Addr} {v : Value} {E : T_code_source → Prop} {R : T_code_source → Bool → Prop} (s : Sf F h (Ce y0 [v] :: M)) (hy0 : y0.at p0) (r : RL (eI .u8) F v a0.left) (hp : p_code_source_bool a0 E R) (hE : ∀ (F' : Vw) (h' : Heap) (b0 : T_code_source) (u0_0 : Value) (x : Value), Le F F' → Sf F' h' (Ce y0 [u0_0] :: M) → RL (eI .u8) F' u0_0 b0.left → E b0 → (∃ t v, x = .iface t v) → Gd.pn x h') :
  HC Try.prog 58 #[(.pointer (some p0))] h fun u h' => ∃ (F' : Vw) (b0 : T_code_source) (u0_0 : Value) (r_0 : Bool), Le F F' ∧ Sf F' h' (Ce y0 [u0_0] :: M) ∧ (.bool r_0) = u ∧ RL (eI .u8) F' u0_0 b0.left ∧ R b0 r_0 := by
 refine sh_code_source_bool ?_
 unfold g_code_source_bool
 unfold p_code_source_bool at hp
 have e0 := Le.refl F
 refine oCall_func (HC.mono (w_code_source_one (a0 := a0) s hy0 r hp ?_) ?_)
 ·intro F_1 h_1 b v_1 x g s r_1 hp hx
  replace e0 := Le.trans e0 g
  exact hE _ _ b _ _ e0 s r_1 hp hx
 rintro u h_2 ⟨F_2, b_1, v_2, r_3, g_1, s, rfl, r_2, hp⟩
 replace e0 := Le.trans e0 g_1
 obtain ⟨kp, hk_1, hp⟩ := Pl.join_elim hp
 have ej := Le.refl F_2
 refine Sh.join_intro fun k hk => ?_
 have hK : ∀ (F_3 : Vw) (h_3 : Heap) , Le F_2 F_3 → Sf F_3 h_3 (Ce y0 [v_2] :: M) → kp → k h_3 := by
  intro F_3 h_3 g_2 s  hp
  rw [hk]
  rw [hk_1] at hp
  replace r_2 := r_2.le g_2
  replace e0 := Le.trans e0 g_2
  replace ej := Le.trans ej g_2
  refine oBin_eql.2 ?_
  exact ⟨F_3, b_1, v_2, decide (r_3 = 1), e0, s, rfl, r_2, hp⟩
 clear hk hk_1
 refine oBin_gtr.2 ?_
 by_cases hc : 1 < r_3
 ·refine (cond_pos hc).2 ?_
  replace hp := (Pl.ite_pos hc).1 hp
  refine tIfc ?_
  exact tPanic (hE _ _ b_1 _ _ e0 s r_2 hp ⟨_, _, rfl⟩)
 ·refine (cond_neg hc).2 ?_
  replace hp := (Pl.ite_neg hc).1 hp
  exact hK _ _  ej s  hp

/-- (*augur/code.source).interval -/
def g_code_source_interval (v0 : Value) (h : Heap) (R : Value → Heap → Prop) : Prop :=
 oAlloc Try.prog 30 h fun t2 h => 
 oAlloc Try.prog 30 h fun t3 h_1 => 
 oCall Try.prog (.func (.func 58) #[] #[]) #[v0] h_1 fun t5 h_2 => 
 oFieldAddr Try.prog 30 t3 0 (Eq h_2) fun t6 =>
 oStore Try.prog 4 t6 t5 h_2 fun _ h_3 => 
 join (fun (h_4 : Heap) =>
  oLoad Try.prog 30 t3 (Eq h_4) fun t15 =>
  oStore Try.prog 30 t2 t15 h_4 fun _ h_5 => 
  oRes Try.prog [(some 30, t2)] h_5 R)
  fun k =>
  oFieldAddr Try.prog 30 t3 0 (Eq h_3) fun t7 =>
  oLoad Try.prog 4 t7 (Eq h_3) fun t8 =>
  cond t8
  (oCall Try.prog (.func (.func 70) #[] #[]) #[v0] h_3 fun t10 h_6 => 
  oFieldAddr Try.prog 30 t3 1 (Eq h_6) fun t11 =>
  oStore Try.prog 2 t11 t10 h_6 fun _ h_7 => 
  oCall Try.prog (.func (.func 70) #[] #[]) #[v0] h_7 fun t13 h_8 => 
  oFieldAddr Try.prog 30 t3 2 (Eq h_8) fun t14 =>
  oStore Try.prog 2 t14 t13 h_8 fun _ h_9 => 
  k h_9)
  (k h_3)

theorem sh_code_source_interval {v0 : Value} {h : Heap} {R : Value → Heap → Prop} (hg : g_code_source_interval v0 h R) : HC Try.prog 59 #[v0] h R := hc_shal [] Try.func59 (by kernel_rfl) hg

set_option maxRecDepth 20000 in
set_option maxHeartbeats 4000000 in
theorem w_code_source_interval {F : Vw} {h : Heap} {M : List HP} {a0 : T_code_source} {y0 : Cx} {p0 : Addr} {v : Value} {E : T_code_source → Prop} {R : T_code_source → T_api_Ival → Prop} (s : Sf F h (Ce y0 [v] :: M)) (hy0 : y0.at p0) (r : RL (eI .u8) F v a0.left) (hp : p_code_source_interval a0 E R) (hE : ∀ (F' : Vw) (h' : Heap) (b0 : T_code_source) (u0_0 : Value) (x : Value), Le F F' → Sf F' h' (Ce y0 [u0_0] :: M) → RL (eI .u8) F' u0_0 b0.left → E b0 → (∃ t v, x = .iface t v) → Gd.pn x h') :
  HC Try.prog 59 #[(.pointer (some p0))] h fun u h' => ∃ (F' : Vw) (b0 : T_code_source) (u0_0 : Value) (r_0 : T_api_Ival), Le F F' ∧ Sf F' h' (Ce y0 [u0_0] :: M) ∧ (.agg #[(.bool r_0.Some), (.int .i64 r_0.Lo), (.int .i64 r_0.Hi)]) = u ∧ RL (eI .u8) F' u0_0 b0.left ∧ R b0 r_0 := by
 refine sh_code_source_interval ?_
 unfold g_code_source_interval
 unfold p_code_source_interval at hp
 have e0 := Le.refl F
 refine tAl s (vs := [(.bool false), (.int .i64 0), (.int .i64 0)]) (by rfl) fun p h_1 s => ?_
 refine tAl s (vs := [(.bool false), (.int .i64 0), (.int .i64 0)]) (by rfl) fun p_1 h_2 s => ?_
 replace s := Sf.front 2 rfl s
 refine oCall_func (HC.mono (w_code_source_bool (a0 := a0) s hy0 r hp ?_) ?_)
 ·intro F_1 h_3 b v_1 x g s r_1 hp hx
  replace e0 := Le.trans e0 g
  replace s := Sf.dropAt 1 rfl s
  replace s := Sf.dropAt 1 rfl s
  exact hE _ _ b _ _ e0 s r_1 hp hx
 rintro u h_4 ⟨F_2, b_1, v_2, r_3, g_1, s, rfl, r_2, hp⟩
 replace e0 := Le.trans e0 g_1
 refine tFA (a := p_1) (n := 0) (padd_zero _).symm (padd_zero _) ?_
 refine tSt (cs := [(.bool false), (.int .i64 0), (.int .i64 0)]) (vs := [(.bool r_3)]) (cs' := [(.bool r_3), (.int .i64 0), (.int .i64 0)]) (j := 0) 1 rfl s (Cx.new_at p_1) (padd_zero _).symm (by rfl) rfl (Nat.le_of_ble_eq_true rfl) (ones_cons rfl ones_nil) rfl fun h_5 s => ?_
 obtain ⟨kp, hk_1, hp⟩ := Pl.join_elim hp
 have ej := Le.refl F_2
 refine Sh.join_intro fun k hk => ?_
 have hK : ∀ (F_3 : Vw) (h_6 : Heap) (l : List Int) (x_1 : Int) (x_2 : Int) (v_3 : Value), Le F_2 F_3 → Sf F_3 h_6 (Ce y0 [v_3] :: Ce (Cx.new p_1) [(.bool r_3), (.int .i64 x_1), (.int .i64 x_2)] :: Ce (Cx.new p) [(.bool false), (.int .i64 0), (.int .i64 0)] :: M) → RL (eI .u8) F_3 v_3 l → kp l x_1 x_2 → k h_6 := by
  intro F_3 h_6 l x_1 x_2 v_3 g_2 s r_4 hp
  rw [hk]
  rw [hk_1] at hp
  replace e0 := Le.trans e0 g_2
  replace ej := Le.trans ej g_2
  refine tLdA (a := p_1) (cs := [(.bool r_3), (.int .i64 x_1), (.int .i64 x_2)]) (ds := [(.bool r_3), (.int .i64 x_1), (.int .i64 x_2)]) (j := 0) (padd_zero _).symm (Sf.ceE (Cx.new_at p_1) 1 rfl s) (Nat.le_of_ble_eq_true rfl) rfl ?_
  refine tSt (cs := [(.bool false), (.int .i64 0), (.int .i64 0)]) (vs := [(.bool r_3), (.int .i64 x_1), (.int .i64 x_2)]) (cs' := [(.bool r_3), (.int .i64 x_1), (.int .i64 x_2)]) (j := 0) 2 rfl s (Cx.new_at p) (padd_zero _).symm (by rfl) rfl (Nat.le_of_ble_eq_true rfl) (ones_cons rfl (ones_cons rfl (ones_cons rfl ones_nil))) rfl fun h_7 s => ?_
  refine oResA (cs := [(.bool r_3), (.int .i64 x_1), (.int .i64 x_2)]) (Sf.ceE (Cx.new_at p) 2 rfl s _ rfl) ⟨_, rfl⟩ rfl ?_
  replace s := Sf.dropAt 1 rfl s
  replace s := Sf.dropAt 1 rfl s
  exact ⟨F_3, (⟨l⟩ : T_code_source), v_3, (⟨r_3, x_1, x_2⟩ : T_api_Ival), e0, s, rfl, r_4, hp⟩
 clear hk hk_1
 refine tFA (a := p_1) (n := 0) (padd_zero _).symm (padd_zero _) ?_
 refine tLd (p := .pointer (some p_1)) (cs := [(.bool r_3), (.int .i64 0), (.int .i64 0)]) (j := 0) (padd_zero _).symm (Sf.ceE (Cx.new_at p_1) 1 rfl s) rfl ?_
 by_cases hc : r_3 = true
 ·refine (cond_tt hc).2 ?_
  replace hp := (Pl.ite_pos hc).1 hp
  refine oCall_func (HC.mono (w_code_source_int (a0 := b_1) s hy0 r_2 hp ?_) ?_)
  ·intro F_4 h_8 b_2 v_4 x_3 g_3 s r_5 hp hx
   replace e0 := Le.trans e0 g_3
   replace ej := Le.trans ej g_3
   replace s := Sf.dropAt 1 rfl s
   replace s := Sf.dropAt 1 rfl s
   exact hE _ _ b_2 _ _ e0 s r_5 hp hx
  rintro u_1 h_9 ⟨F_5, b_3, v_5, r_7, g_4, s, rfl, r_6, hp⟩
  replace e0 := Le.trans e0 g_4
  replace ej := Le.trans ej g_4
  refine tFA (a := p_1) (n := 0) (padd_zero _).symm rfl ?_
  refine tSt (cs := [(.bool r_3), (.int .i64 0), (.int .i64 0)]) (vs := [(.int .i64 r_7)]) (cs' := [(.bool r_3), (.int .i64 r_7), (.int .i64 0)]) (j := 1) 1 rfl s (Cx.new_at p_1) rfl (by rfl) rfl (Nat.le_of_ble_eq_true rfl) (ones_cons rfl ones_nil) rfl fun h_10 s => ?_
  refine oCall_func (HC.mono (w_code_source_int (a0 := b_3) s hy0 r_6 hp ?_) ?_)
  ·intro F_6 h_11 b_4 v_6 x_4 g_5 s r_8 hp hx
   replace e0 := Le.trans e0 g_5
   replace ej := Le.trans ej g_5
   replace s := Sf.dropAt 1 rfl s
   replace s := Sf.dropAt 1 rfl s
   exact hE _ _ b_4 _ _ e0 s r_8 hp hx
  rintro u_2 h_12 ⟨F_7, b_5, v_7, r_10, g_6, s, rfl, r_9, hp⟩
  replace e0 := Le.trans e0 g_6
  replace ej := Le.trans ej g_6
  refine tFA (a := p_1) (n := 0) (padd_zero _).symm rfl ?_
  refine tSt (cs := [(.bool r_3), (.int .i64 r_7), (.int .i64 0)]) (vs := [(.int .i64 r_10)]) (cs' := [(.bool r_3), (.int .i64 r_7), (.int .i64 r_10)]) (j := 2) 1 rfl s (Cx.new_at p_1) rfl (by rfl) rfl (Nat.le_of_ble_eq_true rfl) (ones_cons rfl ones_nil) rfl fun h_13 s => ?_
  exact hK _ _ b_5.left r_7 r_10 v_7 ej s r_9 hp
 ·refine (cond_ff hc).2 ?_
  replace hp := (Pl.ite_neg hc).1 hp
  exact hK _ _ b_1.left 0 0 v_2 ej s r_2 hp

/-- (*augur/code.source).text -/
def g_code_source_text (v0 : Value) (h : Heap) (R : Value → Heap → Prop) : Prop :=
 oCall Try.prog (.func (.func 56) #[] #[]) #[v0] h fun t6 h => 
 oNil Try.prog v0 fun t8 =>
 oFieldAddr Try.prog 88 t8 0 (Eq h) fun t9 =>
 oLoad Try.prog 22 t9 (Eq h) fun t10 =>
 oSlice Try.prog 22 t10 none (some t6) none fun t12 =>
 oConvX Try.prog 22 9 t12 h fun t13 h_1 => 
 oNil Try.prog v0 fun t16 =>
 oFieldAddr Try.prog 88 t16 0 (Eq h_1) fun t17 =>
 oLoad Try.prog 22 t17 (Eq h_1) fun t18 =>
 oSlice Try.prog 22 t18 (some t6) none none fun t20 =>
 oNil Try.prog v0 fun t21 =>
 oFieldAddr Try.prog 88 t21 0 (Eq h_1) fun t22 =>
 oStore Try.prog 22 t22 t20 h_1 fun _ h_2 => 
 R t13 h_2

theorem sh_code_source_text {v0 : Value} {h : Heap} {R : Value → Heap → Prop} (hg : g_code_source_text v0 h R) : HC Try.prog 60 #[v0] h R := hc_shal [] Try.func60 (by kernel_rfl) hg

set_option maxRecDepth 20000 in
set_option maxHeartbeats 4000000 in
theorem w_code_source_text {F : Vw} {h : Heap} {M : List HP} {a0 : T_code_source} {y0 : Cx} {p0 : Addr} {v : Value} {E : T_code_source → Prop} {R : T_code_source → Str → Prop} (s : Sf F h (Ce y0 [v] :: M)) (hy0 : y0.at p0) (r : RL (eI .u8) F v a0.left) (hp : p_code_source_text a0 E R) (hE : ∀ (F' : Vw) (h' : Heap) (b0 : T_code_source) (u0_0 : Value) (x : Value), Le F F' → Sf F' h' (Ce y0 [u0_0] :: M) → RL (eI .u8) F' u0_0 b0.left → E b0 → (∃ t v, x = .iface t v) → Gd.pn x h') :
  HC Try.prog 60 #[(.pointer (some p0))] h fun u h' => ∃ (F' : Vw) (b0 : T_code_source) (u0_0 : Value) (r_0 : Str), Le F F' ∧ Sf F' h' (Ce y0 [u0_0] :: M) ∧ (str r_0) = u ∧ RL (eI .u8) F' u0_0 b0.left ∧ R b0 r_0 := by
 refine sh_code_source_text ?_
 unfold g_code_source_text
 unfold p_code_source_text at hp
 have e0 := Le.refl F
 refine oCall_func (HC.mono (w_code_source_count (a0 := a0) s hy0 r hp ?_) ?_)
 ·intro F_1 h_1 b v_1 x g s r_1 hp hx
  replace e0 := Le.trans e0 g
  exact hE _ _ b _ _ e0 s r_1 hp hx
 rintro u h_2 ⟨F_2, b_1, v_2, r_3, g_1, s, rfl, r_2, hp⟩
 replace e0 := Le.trans e0 g_1
 refine tNil (a := p0) (j := 0) (padd_zero _).symm ?_
 refine tFA (a := p0) (n := 0) (padd_zero _).symm (padd_zero _) ?_
 refine tLd (p := .pointer (some p0)) (cs := [v_2]) (j := 0) (padd_zero _).symm (Sf.ceE hy0 0 rfl s) rfl ?_
 obtain ⟨hz, hz_1, hz_2, l, hr, hp⟩ := hp
 refine tCutL rfl r_2 hz hz_1 hz_2 hr (.inl ⟨rfl, rfl⟩) (.inr ⟨_, rfl⟩) fun v_3 r_4 => ?_
 obtain ⟨s_1, hs, hp⟩ := hp
 refine tStr hs s r_4 ?_
 refine tNil (a := p0) (j := 0) (padd_zero _).symm ?_
 refine tFA (a := p0) (n := 0) (padd_zero _).symm (padd_zero _) ?_
 refine tLd (p := .pointer (some p0)) (cs := [v_2]) (j := 0) (padd_zero _).symm (Sf.ceE hy0 0 rfl s) rfl ?_
 obtain ⟨hz_3, hz_4, hz_5, l_1, hr_1, hp⟩ := hp
 refine tCutL rfl r_2 hz_3 hz_4 hz_5 hr_1 (.inr ⟨_, rfl⟩) (.inl ⟨rfl, rfl⟩) fun v_4 r_5 => ?_
 refine tNil (a := p0) (j := 0) (padd_zero _).symm ?_
 refine tFA (a := p0) (n := 0) (padd_zero _).symm (padd_zero _) ?_
 refine tSt (cs := [v_2]) (vs := [v_4]) (cs' := [v_4]) (j := 0) 0 rfl s hy0 (padd_zero _).symm (by rw [r_5.1.cells]) rfl (Nat.le_of_ble_eq_true rfl) (ones_cons r_5.1.one ones_nil) rfl fun h_3 s => ?_
 exact ⟨F_2, (⟨l_1⟩ : T_code_source), v_4, s_1, e0, s, rfl, r_5, hp⟩

/-- (*augur/code.source).summary -/
def g_code_source_summary (v0 : Value) (h : Heap) (R : Value → Heap → Prop) : Prop :=
 oAlloc Try.prog 33 h fun t2 h => 
 oAlloc Try.prog 33 h fun t3 h_1 => 
 oCall Try.prog (.func (.func 56) #[] #[]) #[v0] h_1 fun t7 h_2 => 
 loop1 (.int .i64 0) h_2 fun x8 h_3 next =>
  oBin Try.prog .lss 3 (.tmp 8) (.tmp 7) x8 t7 fun t9 =>
  cond t9
  (oAlloc Try.prog 46 h_3 fun t4 h_4 => 
  oCall Try.prog (.func (.func 57) #[] #[]) #[v0] h_4 fun t11 h_5 => 
  oFieldAddr Try.prog 46 t4 0 (Eq h_5) fun t12 =>
  oStore Try.prog 3 t12 t11 h_5 fun _ h_6 => 
  oCall Try.prog (.func (.func 57) #[] #[]) #[v0] h_6 fun t14 h_7 => 
  oFieldAddr Try.prog 46 t4 1 (Eq h_7) fun t15 =>
  oStore Try.prog 3 t15 t14 h_7 fun _ h_8 => 
  oFieldAddr Try.prog 33 t3 0 (Eq h_8) fun t16 =>
  oLoad Try.prog 28 t16 (Eq h_8) fun t17 =>
  oLoad Try.prog 46 t4 (Eq h_8) fun t18 =>
  oBuildSlice Try.prog 28 1 #[(0, t18)] h_8 fun t19 h_9 => 
  oAppend Try.prog #[28, 28] 28 #[t17, t19] h_9 fun t20 h_10 => 
  oFieldAddr Try.prog 33 t3 0 (Eq h_10) fun t21 =>
  oStore Try.prog 28 t21 t20 h_10 fun _ h_11 => 
  oBin Try.prog .add 3 (.tmp 8) (.const (.int .i64 1)) x8 (.int .i64 1) fun t22 =>
  next t22 h_11)
  (oCall Try.prog (.func (.func 58) #[] #[]) #[v0] h_3 fun t24 h_12 => 
  oFieldAddr Try.prog 33 t3 1 (Eq h_12) fun t25 =>
  oStore Try.prog 4 t25 t24 h_12 fun _ h_13 => 
  oCall Try.prog (.func (.func 59) #[] #[]) #[v0] h_13 fun t27 h_14 => 
  oFieldAddr Try.prog 33 t3 2 (Eq h_14) fun t28 =>
  oStore Try.prog 30 t28 t27 h_14 fun _ h_15 => 
  oCall Try.prog (.func (.func 56) #[] #[]) #[v0] h_15 fun t30 h_16 => 
  loop1 (.int .i64 0) h_16 fun x31 h_17 next_1 =>
   oBin Try.prog .lss 3 (.tmp 31) (.tmp 30) x31 t30 fun t32 =>
   cond t32
   (oAlloc Try.prog 53 h_17 fun t5 h_18 => 
   oCall Try.prog (.func (.func 60) #[] #[]) #[v0] h_18 fun t34 h_19 => 
   oFieldAddr Try.prog 53 t5 0 (Eq h_19) fun t35 =>
   oStore Try.prog 9 t35 t34 h_19 fun _ h_20 => 
   oCall Try.prog (.func (.func 59) #[] #[]) #[v0] h_20 fun t37 h_21 => 
   oFieldAddr Try.prog 53 t5 1 (Eq h_21) fun t38 =>
   oStore Try.prog 30 t38 t37 h_21 fun _ h_22 => 
   oFieldAddr Try.prog 33 t3 3 (Eq h_22) fun t39 =>
   oLoad Try.prog 31 t39 (Eq h_22) fun t40 =>
   oLoad Try.prog 53 t5 (Eq h_22) fun t41 =>
   oBuildSlice Try.prog 31 1 #[(0, t41)] h_22 fun t42 h_23 => 
   oAppend Try.prog #[31, 31] 31 #[t40, t42] h_23 fun t43 h_24 => 
   oFieldAddr Try.prog 33 t3 3 (Eq h_24) fun t44 =>
   oStore Try.prog 31 t44 t43 h_24 fun _ h_25 => 
   oBin Try.prog .add 3 (.tmp 31) (.const (.int .i64 1)) x31 (.int .i64 1) fun t45 =>
   next_1 t45 h_25)
   (oLoad Try.prog 33 t3 (Eq h_17) fun t46 =>
   oStore Try.prog 33 t2 t46 h_17 fun _ h_26 => 
   oRes Try.prog [(some 33, t2)] h_26 R))

theorem sh_code_source_summary {v0 : Value} {h : Heap} {R : Value → Heap → Prop} (hg : g_code_source_summary v0 h R) : HC Try.prog 42 #[v0] h R := hc_shal [] Try.func42 (by kernel_rfl) hg

set_option maxRecDepth 20000 in
set_option maxHeartbeats 4000000 in
theorem w_code_source_summary {F : Vw} {h : Heap} {M : List HP} {a0 : T_code_source} {y0 : Cx} {p0 : Addr} {v : Value} {E : T_code_source → Prop} {R : T_code_source → T_api_Summary → Prop} (s : Sf F h (Ce y0 [v] :: M)) (hy0 : y0.at p0) (r : RL (eI .u8) F v a0.left) (hp : p_code_source_summary a0 E R) (hE : ∀ (F' : Vw) (h' : Heap) (b0 : T_code_source) (u0_0 : Value) (x : Value), Le F F' → Sf F' h' (Ce y0 [u0_0] :: M) → RL (eI .u8) F' u0_0 b0.left → E b0 → (∃ t v, x = .iface t v) → Gd.pn x h') :
  HC Try.prog 42 #[(.pointer (some p0))] h fun u h' => ∃ (F' : Vw) (b0 : T_code_source) (u0_0 : Value) (r_0 : T_api_Summary) (z0_0 : Value) (z0_5 : Value), Le F F' ∧ Sf F' h' (Ce y0 [u0_0] :: M) ∧ (.agg #[z0_0, (.bool r_0.Ends), (.bool r_0.Ret.Some), (.int .i64 r_0.Ret.Lo), (.int .i64 r_0.Ret.Hi), z0_5]) = u ∧ RL (eI .u8) F' u0_0 b0.left ∧ RL e_api_Alarm F' z0_0 r_0.Alarms ∧ RL e_api_Named F' z0_5 r_0.Mod ∧ R b0 r_0 := by
 refine sh_code_source_summary ?_
 unfold g_code_source_summary
 unfold p_code_source_summary at hp
 have e0 := Le.refl F
 refine tAl s (vs := [(.slice none 0 0), (.bool false), (.bool false), (.int .i64 0), (.int .i64 0), (.slice none 0 0)]) (by rfl) fun p h_1 s => ?_
 refine tAl s (vs := [(.slice none 0 0), (.bool false), (.bool false), (.int .i64 0), (.int .i64 0), (.slice none 0 0)]) (by rfl) fun p_1 h_2 s => ?_
 replace s := Sf.front 2 rfl s
 refine oCall_func (HC.mono (w_code_source_count (a0 := a0) s hy0 r hp ?_) ?_)
 ·intro F_1 h_3 b v_1 x g s r_1 hp hx
  replace e0 := Le.trans e0 g
  replace s := Sf.dropAt 1 rfl s
  replace s := Sf.dropAt 1 rfl s
  exact hE _ _ b _ _ e0 s r_1 hp hx
 rintro u h_4 ⟨F_2, b_1, v_2, r_3, g_1, s, rfl, r_2, hp⟩
 replace e0 := Le.trans e0 g_1
 replace s := Sf.nilRow 2 s
 have hc_2 := CL.nil e_api_Alarm F_2
 replace s := Sf.front 3 rfl s
 replace s := Sf.front 1 rfl s
 replace s := Sf.front 3 rfl s
 replace s := Sf.front 3 rfl s
 obtain ⟨I, m0, hI, hI_1⟩ := hp
 refine ⟨fun m w h_7 => ∃ (F_5 : Vw) (x_3 : Int) (l_2 : List Int) (l_3 : List T_api_Alarm) (v_5 : Value) (v_6 : Value) (cs_1 : List Value), Le F_2 F_5 ∧ Sf F_5 h_7 (Ce y0 [v_5] :: Ce (Cx.new p_1) [v_6, (.bool false), (.bool false), (.int .i64 0), (.int .i64 0), (.slice none 0 0)] :: Row 2 v_6 (List.length l_3) cs_1 :: Ce (Cx.new p) [(.slice none 0 0), (.bool false), (.bool false), (.int .i64 0), (.int .i64 0), (.slice none 0 0)] :: M) ∧ (.int .i64 x_3) = w ∧ RL (eI .u8) F_5 v_5 l_2 ∧ CL e_api_Alarm F_5 cs_1 l_3 ∧ I m x_3 l_2 l_3, m0, ⟨F_2, 0, b_1.left, ([] : List T_api_Alarm), v_2, (.slice none 0 0), [], Le.refl _, s, rfl, r_2, hc_2, hI⟩, ?_⟩
 clear hI
 rintro m w h_7 ⟨F_5, x_3, l_2, l_3, v_5, v_6, cs_1, g_2, s, rfl, r_5, hc_1, hi⟩
 have hp := hI_1 m x_3 l_2 l_3 hi
 replace e0 := Le.trans e0 g_2
 have eL := g_2
 refine oBin_lss.2 ?_
 by_cases hc_3 : x_3 < r_3
 ·refine (cond_pos hc_3).2 ?_
  replace hp := (Pl.ite_pos hc_3).1 hp
  refine tAl s (vs := [(.int .i64 0), (.int .i64 0)]) (by rfl) fun p_2 h_8 s => ?_
  replace s := Sf.front 1 rfl s
  refine oCall_func (HC.mono (w_code_source_small (a0 := (⟨l_2⟩ : T_code_source)) s hy0 r_5 hp ?_) ?_)
  ·intro F_7 h_9 b_2 v_7 x_4 g_3 s r_6 hp hx
   replace hc_1 := CL.le g_3 hc_1
   replace e0 := Le.trans e0 g_3
   replace eL := Le.trans eL g_3
   replace s := Sf.dropAt 1 rfl s
   replace s := Sf.dropAt 1 rfl s
   replace s := Sf.dropAt 1 rfl s
   replace s := Sf.dropAt 1 rfl s
   exact hE _ _ b_2 _ _ e0 s r_6 hp hx
  rintro u_1 h_10 ⟨F_8, b_3, v_8, r_8, g_4, s, rfl, r_7, hp⟩
  replace hc_1 := CL.le g_4 hc_1
  replace e0 := Le.trans e0 g_4
  replace eL := Le.trans eL g_4
  refine tFA (a := p_2) (n := 0) (padd_zero _).symm (padd_zero _) ?_
  refine tSt (cs := [(.int .i64 0), (.int .i64 0)]) (vs := [(.int .i64 r_8)]) (cs' := [(.int .i64 r_8), (.int .i64 0)]) (j := 0) 1 rfl s (Cx.new_at p_2) (padd_zero _).symm (by rfl) rfl (Nat.le_of_ble_eq_true rfl) (ones_cons rfl ones_nil) rfl fun h_11 s => ?_
  refine oCall_func (HC.mono (w_code_source_small (a0 := b_3) s hy0 r_7 hp ?_) ?_)
  ·intro F_9 h_12 b_4 v_9 x_5 g_5 s r_9 hp hx
   replace hc_1 := CL.le g_5 hc_1
   replace e0 := Le.trans e0 g_5
   replace eL := Le.trans eL g_5
   replace s := Sf.dropAt 1 rfl s
   replace s := Sf.dropAt 1 rfl s
   replace s := Sf.dropAt 1 rfl s
   replace s := Sf.dropAt 1 rfl s
   exact hE _ _ b_4 _ _ e0 s r_9 hp hx
  rintro u_2 h_13 ⟨F_10, b_5, v_10, r_11, g_6, s, rfl, r_10, hp⟩
  replace hc_1 := CL.le g_6 hc_1
  replace e0 := Le.trans e0 g_6
  replace eL := Le.trans eL g_6
  refine tFA (a := p_2) (n := 0) (padd_zero _).symm rfl ?_
  refine tSt (cs := [(.int .i64 r_8), (.int .i64 0)]) (vs := [(.int .i64 r_11)]) (cs' := [(.int .i64 r_8), (.int .i64 r_11)]) (j := 1) 1 rfl s (Cx.new_at p_2) rfl (by rfl) rfl (Nat.le_of_ble_eq_true rfl) (ones_cons rfl ones_nil) rfl fun h_14 s => ?_
  refine tFA (a := p_1) (n := 0) (padd_zero _).symm (padd_zero _) ?_
  refine tLd (p := .pointer (some p_1)) (cs := [v_6, (.bool false), (.bool false), (.int .i64 0), (.int .i64 0), (.slice none 0 0)]) (j := 0) (padd_zero _).symm (Sf.ceE (Cx.new_at p_1) 2 rfl s) rfl ?_
  refine tLdA (a := p_2) (cs := [(.int .i64 r_8), (.int .i64 r_11)]) (ds := [(.int .i64 r_8), (.int .i64 r_11)]) (j := 0) (padd_zero _).symm (Sf.ceE (Cx.new_at p_2) 1 rfl s) (Nat.le_of_ble_eq_true rfl) rfl ?_
  refine tBuildN s (e := e_api_Alarm) (l := [(⟨r_8, r_11⟩ : T_api_Alarm)]) [(.agg #[(.int .i64 r_8), (.int .i64 r_11)])] rfl ⟨rfl, trivial⟩ rfl rfl rfl (Nat.le_of_ble_eq_true rfl) fun v_11 h_15 cs_2 hc_4 s => ?_
  obtain ⟨hb, l_4, hl, hp⟩ := hp
  refine tApp 4 rfl s hc_1 rfl rfl (by decide) (Sf.roE 0 rfl s hc_4) hb hl fun v_12 h_16 cs_3 hc_5 s => ?_
  replace s := Sf.dropAt 0 rfl s
  refine tFA (a := p_1) (n := 0) (padd_zero _).symm (padd_zero _) ?_
  refine tSt (cs := [v_6, (.bool false), (.bool false), (.int .i64 0), (.int .i64 0), (.slice none 0 0)]) (vs := [v_12]) (cs' := [v_12, (.bool false), (.bool false), (.int .i64 0), (.int .i64 0), (.slice none 0 0)]) (j := 0) 2 rfl s (Cx.new_at p_1) (padd_zero _).symm (by rw [(Sf.at 3 rfl s).row.1.cells]) rfl (Nat.le_of_ble_eq_true rfl) (ones_cons (Sf.at 3 rfl s).row.1.one ones_nil) rfl fun h_17 s => ?_
  refine oBin_add.2 ?_
  replace s := Sf.dropAt 1 rfl s
  obtain ⟨m_1, hm, hi_1⟩ := hp
  exact ⟨m_1, hm, F_10, IntKind.wrap .i64 (x_3 + 1), b_5.left, l_4, v_10, v_12, cs_3, eL, s, rfl, r_10, hc_5, hi_1⟩
 ·refine (cond_neg hc_3).2 ?_
  replace hp := (Pl.ite_neg hc_3).1 hp
  refine oCall_func (HC.mono (w_code_source_bool (a0 := (⟨l_2⟩ : T_code_source)) s hy0 r_5 hp ?_) ?_)
  ·intro F_11 h_18 b_6 v_13 x_6 g_7 s r_12 hp hx
   replace hc_1 := CL.le g_7 hc_1
   replace e0 := Le.trans e0 g_7
   replace eL := Le.trans eL g_7
   replace s := Sf.dropAt 1 rfl s
   replace s := Sf.dropAt 1 rfl s
   replace s := Sf.dropAt 1 rfl s
   exact hE _ _ b_6 _ _ e0 s r_12 hp hx
  rintro u_3 h_19 ⟨F_12, b_7, v_14, r_14, g_8, s, rfl, r_13, hp⟩
  replace hc_1 := CL.le g_8 hc_1
  replace e0 := Le.trans e0 g_8
  replace eL := Le.trans eL g_8
  refine tFA (a := p_1) (n := 0) (padd_zero _).symm rfl ?_
  refine tSt (cs := [v_6, (.bool false), (.bool false), (.int .i64 0), (.int .i64 0), (.slice none 0 0)]) (vs := [(.bool r_14)]) (cs' := [v_6, (.bool r_14), (.bool false), (.int .i64 0), (.int .i64 0), (.slice none 0 0)]) (j := 1) 1 rfl s (Cx.new_at p_1) rfl (by rfl) rfl (Nat.le_of_ble_eq_true rfl) (ones_cons rfl ones_nil) rfl fun h_20 s => ?_
  refine oCall_func (HC.mono (w_code_source_interval (a0 := b_7) s hy0 r_13 hp ?_) ?_)
  ·intro F_13 h_21 b_8 v_15 x_7 g_9 s r_15 hp hx
   replace hc_1 := CL.le g_9 hc_1
   replace e0 := Le.trans e0 g_9
   replace eL := Le.trans eL g_9
   replace s := Sf.dropAt 1 rfl s
   replace s := Sf.dropAt 1 rfl s
   replace s := Sf.dropAt 1 rfl s
   exact hE _ _ b_8 _ _ e0 s r_15 hp hx
  rintro u_4 h_22 ⟨F_14, b_9, v_16, r_17, g_10, s, rfl, r_16, hp⟩
  replace hc_1 := CL.le g_10 hc_1
  replace e0 := Le.trans e0 g_10
  replace eL := Le.trans eL g_10
  refine tFA (a := p_1) (n := 0) (padd_zero _).symm rfl ?_
  refine tSt (cs := [v_6, (.bool r_14), (.bool false), (.int .i64 0), (.int .i64 0), (.slice none 0 0)]) (vs := [(.bool r_17.Some), (.int .i64 r_17.Lo), (.int .i64 r_17.Hi)]) (cs' := [v_6, (.bool r_14), (.bool r_17.Some), (.int .i64 r_17.Lo), (.int .i64 r_17.Hi), (.slice none 0 0)]) (j := 2) 1 rfl s (Cx.new_at p_1) rfl (by rfl) rfl (Nat.le_of_ble_eq_true rfl) (ones_cons rfl (ones_cons rfl (ones_cons rfl ones_nil))) rfl fun h_23 s => ?_
  refine oCall_func (HC.mono (w_code_source_count (a0 := b_9) s hy0 r_16 hp ?_) ?_)
  ·intro F_15 h_24 b_10 v_17 x_8 g_11 s r_18 hp hx
   replace hc_1 := CL.le g_11 hc_1
   replace e0 := Le.trans e0 g_11
   replace eL := Le.trans eL g_11
   replace s := Sf.dropAt 1 rfl s
   replace s := Sf.dropAt 1 rfl s
   replace s := Sf.dropAt 1 rfl s
   exact hE _ _ b_10 _ _ e0 s r_18 hp hx
  rintro u_5 h_25 ⟨F_16, b_11, v_18, r_20, g_12, s, rfl, r_19, hp⟩
  replace hc_1 := CL.le g_12 hc_1
  replace e0 := Le.trans e0 g_12
  replace eL := Le.trans eL g_12
  replace s := Sf.nilRow 4 s
  have hc_8 := CL.nil e_api_Named F_16
  replace s := Sf.front 3 rfl s
  replace s := Sf.front 4 rfl s
  replace s := Sf.front 2 rfl s
  replace s := Sf.front 4 rfl s
  replace s := Sf.front 4 rfl s
  obtain ⟨I_1, m0_1, hI_2, hI_3⟩ := hp
  refine ⟨fun m_2 w_1 h_28 => ∃ (F_19 : Vw) (x_11 : Int) (l_7 : List Int) (l_8 : List T_api_Named) (v_21 : Value) (v_22 : Value) (cs_5 : List Value), Le F_16 F_19 ∧ Sf F_19 h_28 (Ce y0 [v_21] :: Ce (Cx.new p_1) [v_6, (.bool r_14), (.bool r_17.Some), (.int .i64 r_17.Lo), (.int .i64 r_17.Hi), v_22] :: Row 4 v_22 (List.length l_8) cs_5 :: Ce (Cx.new p) [(.slice none 0 0), (.bool false), (.bool false), (.int .i64 0), (.int .i64 0), (.slice none 0 0)] :: Row 2 v_6 (List.length l_3) cs_1 :: M) ∧ (.int .i64 x_11) = w_1 ∧ RL (eI .u8) F_19 v_21 l_7 ∧ CL e_api_Named F_19 cs_5 l_8 ∧ I_1 m_2 x_11 l_7 l_8, m0_1, ⟨F_16, 0, b_11.left, ([] : List T_api_Named), v_18, (.slice none 0 0), [], Le.refl _, s, rfl, r_19, hc_8, hI_2⟩, ?_⟩
  clear hI_2
  rintro m_2 w_1 h_28 ⟨F_19, x_11, l_7, l_8, v_21, v_22, cs_5, g_13, s, rfl, r_22, hc_7, hi_2⟩
  have hp := hI_3 m_2 x_11 l_7 l_8 hi_2
  replace hc_1 := CL.le g_13 hc_1
  replace e0 := Le.trans e0 g_13
  replace eL := Le.trans eL g_13
  have eL_1 := g_13
  refine oBin_lss.2 ?_
  by_cases hc_9 : x_11 < r_20
  ·refine (cond_pos hc_9).2 ?_
   replace hp := (Pl.ite_pos hc_9).1 hp
   refine tAl s (vs := [(str ([] : Str)), (.bool false), (.int .i64 0), (.int .i64 0)]) (by rfl) fun p_3 h_29 s => ?_
   replace s := Sf.front 1 rfl s
   refine oCall_func (HC.mono (w_code_source_text (a0 := (⟨l_7⟩ : T_code_source)) s hy0 r_22 hp ?_) ?_)
   ·intro F_21 h_30 b_12 v_23 x_12 g_14 s r_23 hp hx
    replace hc_7 := CL.le g_14 hc_7
    replace hc_1 := CL.le g_14 hc_1
    replace e0 := Le.trans e0 g_14
    replace eL := Le.trans eL g_14
    replace eL_1 := Le.trans eL_1 g_14
    replace s := Sf.dropAt 1 rfl s
    replace s := Sf.dropAt 1 rfl s
    replace s := Sf.dropAt 1 rfl s
    replace s := Sf.dropAt 1 rfl s
    replace s := Sf.dropAt 1 rfl s
    exact hE _ _ b_12 _ _ e0 s r_23 hp hx
   rintro u_6 h_31 ⟨F_22, b_13, v_24, r_25, g_15, s, rfl, r_24, hp⟩
   replace hc_7 := CL.le g_15 hc_7
   replace hc_1 := CL.le g_15 hc_1
   replace e0 := Le.trans e0 g_15
   replace eL := Le.trans eL g_15
   replace eL_1 := Le.trans eL_1 g_15
   refine tFA (a := p_3) (n := 0) (padd_zero _).symm (padd_zero _) ?_
   refine tSt (cs := [(str ([] : Str)), (.bool false), (.int .i64 0), (.int .i64 0)]) (vs := [(str r_25)]) (cs' := [(str r_25), (.bool false), (.int .i64 0), (.int .i64 0)]) (j := 0) 1 rfl s (Cx.new_at p_3) (padd_zero _).symm (by rfl) rfl (Nat.le_of_ble_eq_true rfl) (ones_cons rfl ones_nil) rfl fun h_32 s => ?_
   refine oCall_func (HC.mono (w_code_source_interval (a0 := b_13) s hy0 r_24 hp ?_) ?_)
   ·intro F_23 h_33 b_14 v_25 x_13 g_16 s r_26 hp hx
    replace hc_7 := CL.le g_16 hc_7
    replace hc_1 := CL.le g_16 hc_1
    replace e0 := Le.trans e0 g_16
    replace eL := Le.trans eL g_16
    replace eL_1 := Le.trans eL_1 g_16
    replace s := Sf.dropAt 1 rfl s
    replace s := Sf.dropAt 1 rfl s
    replace s := Sf.dropAt 1 rfl s
    replace s := Sf.dropAt 1 rfl s
    replace s := Sf.dropAt 1 rfl s
    exact hE _ _ b_14 _ _ e0 s r_26 hp hx
   rintro u_7 h_34 ⟨F_24, b_15, v_26, r_28, g_17, s, rfl, r_27, hp⟩
   replace hc_7 := CL.le g_17 hc_7
   replace hc_1 := CL.le g_17 hc_1
   replace e0 := Le.trans e0 g_17
   replace eL := Le.trans eL g_17
   replace eL_1 := Le.trans eL_1 g_17
   refine tFA (a := p_3) (n := 0) (padd_zero _).symm rfl ?_
   refine tSt (cs := [(str r_25), (.bool false), (.int .i64 0), (.int .i64 0)]) (vs := [(.bool r_28.Some), (.int .i64 r_28.Lo), (.int .i64 r_28.Hi)]) (cs' := [(str r_25), (.bool r_28.Some), (.int .i64 r_28.Lo), (.int .i64 r_28.Hi)]) (j := 1) 1 rfl s (Cx.new_at p_3) rfl (by rfl) rfl (Nat.le_of_ble_eq_true rfl) (ones_cons rfl (ones_cons rfl (ones_cons rfl ones_nil))) rfl fun h_35 s => ?_
   refine tFA (a := p_1) (n := 0) (padd_zero _).symm rfl ?_
   refine tLd (p := .pointer (some p_1)) (cs := [v_6, (.bool r_14), (.bool r_17.Some), (.int .i64 r_17.Lo), (.int .i64 r_17.Hi), v_22]) (j := 5) rfl (Sf.ceE (Cx.new_at p_1) 2 rfl s) rfl ?_
   refine tLdA (a := p_3) (cs := [(str r_25), (.bool r_28.Some), (.int .i64 r_28.Lo), (.int .i64 r_28.Hi)]) (ds := [(str r_25), (.bool r_28.Some), (.int .i64 r_28.Lo), (.int .i64 r_28.Hi)]) (j := 0) (padd_zero _).symm (Sf.ceE (Cx.new_at p_3) 1 rfl s) (Nat.le_of_ble_eq_true rfl) rfl ?_
   refine tBuildN s (e := e_api_Named) (l := [(⟨r_25, r_28⟩ : T_api_Named)]) [(.agg #[(str r_25), (.bool r_28.Some), (.int .i64 r_28.Lo), (.int .i64 r_28.Hi)])] rfl ⟨rfl, trivial⟩ rfl rfl rfl (Nat.le_of_ble_eq_true rfl) fun v_27 h_36 cs_6 hc_10 s => ?_
   obtain ⟨hb_1, l_9, hl_1, hp⟩ := hp
   refine tApp 4 rfl s hc_7 rfl rfl (by decide) (Sf.roE 0 rfl s hc_10) hb_1 hl_1 fun v_28 h_37 cs_7 hc_11 s => ?_
   replace s := Sf.dropAt 0 rfl s
   refine tFA (a := p_1) (n := 0) (padd_zero _).symm rfl ?_
   refine tSt (cs := [v_6, (.bool r_14), (.bool r_17.Some), (.int .i64 r_17.Lo), (.int .i64 r_17.Hi), v_22]) (vs := [v_28]) (cs' := [v_6, (.bool r_14), (.bool r_17.Some), (.int .i64 r_17.Lo), (.int .i64 r_17.Hi), v_28]) (j := 5) 2 rfl s (Cx.new_at p_1) rfl (by rw [(Sf.at 3 rfl s).row.1.cells]) rfl (Nat.le_of_ble_eq_true rfl) (ones_cons (Sf.at 3 rfl s).row.1.one ones_nil) rfl fun h_38 s => ?_
   refine oBin_add.2 ?_
   replace s := Sf.dropAt 1 rfl s
   obtain ⟨m_3, hm_1, hi_3⟩ := hp
   exact ⟨m_3, hm_1, F_24, IntKind.wrap .i64 (x_11 + 1), b_15.left, l_9, v_26, v_28, cs_7, eL_1, s, rfl, r_27, hc_11, hi_3⟩
  ·refine (cond_neg hc_9).2 ?_
   replace hp := (Pl.ite_neg hc_9).1 hp
   refine tLdA (a := p_1) (cs := [v_6, (.bool r_14), (.bool r_17.Some), (.int .i64 r_17.Lo), (.int .i64 r_17.Hi), v_22]) (ds := [v_6, (.bool r_14), (.bool r_17.Some), (.int .i64 r_17.Lo), (.int .i64 r_17.Hi), v_22]) (j := 0) (padd_zero _).symm (Sf.ceE (Cx.new_at p_1) 1 rfl s) (Nat.le_of_ble_eq_true rfl) rfl ?_
   refine tSt (cs := [(.slice none 0 0), (.bool false), (.bool false), (.int .i64 0), (.int .i64 0), (.slice none 0 0)]) (vs := [v_6, (.bool r_14), (.bool r_17.Some), (.int .i64 r_17.Lo), (.int .i64 r_17.Hi), v_22]) (cs' := [v_6, (.bool r_14), (.bool r_17.Some), (.int .i64 r_17.Lo), (.int .i64 r_17.Hi), v_22]) (j := 0) 3 rfl s (Cx.new_at p) (padd_zero _).symm (by rfl) rfl (Nat.le_of_ble_eq_true rfl) (ones_cons (Sf.at 4 rfl s).row.1.one (ones_cons rfl (ones_cons rfl (ones_cons rfl (ones_cons rfl (ones_cons (Sf.at 2 rfl s).row.1.one ones_nil)))))) rfl fun h_39 s => ?_
   refine oResA (cs := [v_6, (.bool r_14), (.bool r_17.Some), (.int .i64 r_17.Lo), (.int .i64 r_17.Hi), v_22]) (Sf.ceE (Cx.new_at p) 3 rfl s _ rfl) ⟨_, rfl⟩ rfl ?_
   obtain ⟨F_25, g_18, s, r_29⟩ := Sf.freezeRL 4 rfl s rfl hc_1
   replace r_22 := r_22.le g_18
   replace hc_7 := CL.le g_18 hc_7
   replace e0 := Le.trans e0 g_18
   replace eL := Le.trans eL g_18
   replace eL_1 := Le.trans eL_1 g_18
   obtain ⟨F_26, g_19, s, r_30⟩ := Sf.freezeRL 2 rfl s rfl hc_7
   replace r_22 := r_22.le g_19
   replace r_29 := r_29.le g_19
   replace e0 := Le.trans e0 g_19
   replace eL := Le.trans eL g_19
   replace eL_1 := Le.trans eL_1 g_19
   replace s := Sf.dropAt 1 rfl s
   replace s := Sf.dropAt 1 rfl s
   exact ⟨F_26, (⟨l_7⟩ : T_code_source), v_21, (⟨l_3, r_14, r_17, l_8⟩ : T_api_Summary), v_6, v_22, e0, s, rfl, r_22, r_29, r_30, hp⟩

/-- augur/code.NewReader -/
def g_code_NewReader (v0 : Value) (h : Heap) (R : Value → Heap → Prop) : Prop :=
 oCall Try.prog (.func (.func 35) #[] #[]) #[v0] h fun t4 h => 
 oBuild Try.prog 88 #[(0, t4)] fun t5 =>
 oBuild Try.prog 90 #[(0, t5)] fun t6 =>
 oBox Try.prog 90 t6 h fun t7 h_1 => 
 R t7 h_1

theorem sh_code_NewReader {v0 : Value} {h : Heap} {R : Value → Heap → Prop} (hg : g_code_NewReader v0 h R) : HC Try.prog 26 #[v0] h R := hc_shal [] Try.func26 (by kernel_rfl) hg

set_option maxRecDepth 20000 in
set_option maxHeartbeats 4000000 in
theorem w_code_NewReader {F : Vw} {h : Heap} {M : List HP} {a0 : List Int} {v : Value} {R : T_code_Reader → Prop} (s : Sf F h (M)) (r : RL (eI .u8) F v a0) (hp : p_code_NewReader a0 R) :
  HC Try.prog 26 #[v] h fun u h' => ∃ (F' : Vw) (r_0 : T_code_Reader) (q_0 : Addr) (z0_0 : Value), Le F F' ∧ Sf F' h' (Ce (Cx.new q_0) [z0_0, (.bool r_0.failed)] :: M) ∧ (.pointer (some q_0)) = u ∧ RL (eI .u8) F' z0_0 r_0.from_.left ∧ R r_0 := by
 refine sh_code_NewReader ?_
 unfold g_code_NewReader
 unfold p_code_NewReader at hp
 have e0 := Le.refl F
 refine oCall_func (HC.mono (w_slices_Clone_byte_byte (a0 := a0) s r hp) ?_)
 rintro u h_1 ⟨F_1, r_1, v_1, g, s, rfl, r_2, hp⟩
 replace r := r.le g
 replace e0 := Le.trans e0 g
 refine oBuild_own (cells := #[v_1]) (by obtain ⟨_, _, e_b⟩ := r_2.1; (first | subst e_b | rw [e_b]); rfl) ?_
 refine oBuild_own (cells := #[v_1, (.bool false)]) (by obtain ⟨_, _, e_b⟩ := r_2.1; (first | subst e_b | rw [e_b]); rfl) ?_
 refine tBx s (vs := [v_1, (.bool false)]) (by rfl) fun p h_2 s => ?_
 exact ⟨F_1, (⟨(⟨r_1⟩ : T_code_source), false⟩ : T_code_Reader), p, v_1, e0, s, rfl, r_2, hp⟩

/-- (*augur/code.Reader).Done -/
def g_code_Reader_Done (v0 : Value) (h : Heap) (R : Value → Heap → Prop) : Prop :=
 oNil Try.prog v0 fun t4 =>
 oFieldAddr Try.prog 90 t4 1 (Eq h) fun t5 =>
 oLoad Try.prog 4 t5 (Eq h) fun t6 =>
 join (fun (x14 : Value)  =>
  oPick Try.prog t6 (.bool true) x14 fun t15 =>
  cond t15
  (R (.int .i64 20) h)
  (R (.int .i64 0) h))
  fun k =>
 cond t6
  (k undef)
  (oNil Try.prog v0 fun t9 =>
  oFieldAddr Try.prog 90 t9 0 (Eq h) fun t10 =>
  oFieldAddr Try.prog 88 t10 0 (Eq h) fun t11 =>
  oLoad Try.prog 22 t11 (Eq h) fun t12 =>
  oLen Try.prog #[22] 3 t12 fun t13 =>
  oBin Try.prog .gtr 3 (.tmp 13) (.const (.int .i64 0)) t13 (.int .i64 0) fun t14 =>
  k t14)

theorem sh_code_Reader_Done {v0 : Value} {h : Heap} {R : Value → Heap → Prop} (hg : g_code_Reader_Done v0 h R) : HC Try.prog 28 #[v0] h R := hc_shal [] Try.func28 (by kernel_rfl) hg

set_option maxRecDepth 20000 in
set_option maxHeartbeats 4000000 in
theorem w_code_Reader_Done {F : Vw} {h : Heap} {M : List HP} {a0 : T_code_Reader} {y0 : Cx} {p0 : Addr} {v : Value} {R : T_code_Reader → Int → Prop} (s : Sf F h (Ce y0 [v, (.bool a0.failed)] :: M)) (hy0 : y0.at p0) (r : RL (eI .u8) F v a0.from_.left) (hp : p_code_Reader_Done a0 R) :
  HC Try.prog 28 #[(.pointer (some p0))] h fun u h' => ∃ (F' : Vw) (b0 : T_code_Reader) (u0_0 : Value) (r_0 : Int), Le F F' ∧ Sf F' h' (Ce y0 [u0_0, (.bool b0.failed)] :: M) ∧ (.int .i64 r_0) = u ∧ RL (eI .u8) F' u0_0 b0.from_.left ∧ R b0 r_0 := by
 refine sh_code_Reader_Done ?_
 unfold g_code_Reader_Done
 unfold p_code_Reader_Done at hp
 have e0 := Le.refl F
 refine tNil (a := p0) (j := 0) (padd_zero _).symm ?_
 refine tFA (a := p0) (n := 0) (padd_zero _).symm rfl ?_
 refine tLd (p := .pointer (some p0)) (cs := [v, (.bool a0.failed)]) (j := 1) rfl (Sf.ceE hy0 0 rfl s) rfl ?_
 obtain ⟨kp, hk_1, hp⟩ := Pl.join_elim hp
 refine Sh.join_intro fun k hk => ?_
 have hK : ∀ (x : Bool) (w : Value), (∀ K : Value → Prop, K (.bool x) → oPick Try.prog (.bool a0.failed) (.bool true) w K) → kp x → k w := by
  intro x w hw hp
  rw [hk]
  rw [hk_1] at hp
  refine hw _ ?_
  by_cases hc : x = true
  ·refine (cond_tt hc).2 ?_
   replace hp := (Pl.ite_pos hc).1 hp
   exact ⟨F, a0, v, 20, e0, s, rfl, r, hp⟩
  ·refine (cond_ff hc).2 ?_
   replace hp := (Pl.ite_neg hc).1 hp
   exact ⟨F, a0, v, 0, e0, s, rfl, r, hp⟩
 clear hk hk_1
 by_cases hc_1 : a0.failed = true
 ·refine (cond_tt hc_1).2 ?_
  replace hp := (Pl.ite_pos hc_1).1 hp
  exact hK true _ (fun _ h => oPick_hc hc_1 h) hp
 ·refine (cond_ff hc_1).2 ?_
  replace hp := (Pl.ite_neg hc_1).1 hp
  refine tNil (a := p0) (j := 0) (padd_zero _).symm ?_
  refine tFA (a := p0) (n := 0) (padd_zero _).symm (padd_zero _) ?_
  refine tFA (a := p0) (n := 0) (padd_zero _).symm (padd_zero _) ?_
  refine tLd (p := .pointer (some p0)) (cs := [v, (.bool a0.failed)]) (j := 0) (padd_zero _).symm (Sf.ceE hy0 0 rfl s) rfl ?_
  refine (oLen_sl r.1).2 ?_
  refine oBin_gtr.2 ?_
  exact hK (decide (0 < (List.length a0.from_.left : Int))) _ (fun _ h => oPick_hn hc_1 h) hp

end Go.Proofs.Ytaibfbakhiainaa

namespace Go.Sh
theorem oCall_first [Gd] {P : Program} {f : FuncId} [Fnc P f] {first l : Array Value} {h : Heap} {K : Value → Heap → Prop} (hc : HC P f (first ++ l) h K) :
    oCall P (.func (.func f) first #[]) l h K := fun w hw => by
  have : (callSem (.func (.func f) first #[]) l).run P w = .ok (.enter f (first ++ l)) w := by
    simp [callSem, Deferred.ofValue, invoke, Fnc.run]
  rw [this]
  exact ⟨.refl _, by rw [hw]; exact hc⟩
end Go.Sh
namespace Go.Proofs.Ytaibfbakhiainaa
open Go Go.Sh
def zSum : T_api_Summary := ⟨[], false, ⟨false, 0, 0⟩, []⟩
/-- (*augur/code.Reader).Summary -/
def p_code_Reader_Summary (a0 : T_code_Reader) (R : T_code_Reader → T_api_Summary → Prop) : Prop :=
  Pl.ite (a0.failed = true) (R a0 zSum) (p_code_source_summary a0.from_ (fun b => R ⟨b, true⟩ zSum) fun b r => R ⟨b, false⟩ r)

def PR (F : Vw) (M : List HP) (y0 : Cx) (R : T_code_Reader → T_api_Summary → Prop) : Value → Heap → Prop := fun u h' => ∃ (F' : Vw) (b0 : T_code_Reader) (u0_0 : Value) (r_0 : T_api_Summary) (z0_0 : Value) (z0_5 : Value), Le F F' ∧ Sf F' h' (Ce y0 [u0_0, (.bool b0.failed)] :: M) ∧ (Value.agg #[z0_0, (.bool r_0.Ends), (.bool r_0.Ret.Some), (.int .i64 r_0.Ret.Lo), (.int .i64 r_0.Ret.Hi), z0_5]) = u ∧ RL (eI .u8) F' u0_0 b0.from_.left ∧ RL e_api_Alarm F' z0_0 r_0.Alarms ∧ RL e_api_Named F' z0_5 r_0.Mod ∧ R b0 r_0
set_option maxRecDepth 20000 in
set_option maxHeartbeats 1000000 in
theorem w_attempt [G : Gd] {F : Vw} {h : Heap} {M : List HP} {a0 : T_code_Reader} {y0 : Cx} {p0 : Addr} {v : Value} {R : T_code_Reader → T_api_Summary → Prop} (s : Sf F h (Ce y0 [v, (.bool a0.failed)] :: M)) (hy0 : y0.at p0) (r : RL (eI .u8) F v a0.from_.left) (hp : p_code_Reader_Summary a0 R) :
    HC Try.prog 41 #[(.pointer (some p0)), .func (.func 42) #[(.pointer (some p0))] #[]] h (PR F M y0 R) := by
  refine sh_code_attempt_api_Summary ?_
  unfold g_code_attempt_api_Summary
  unfold p_code_Reader_Summary at hp
  refine tBx s (vs := [.pointer (some p0)]) (by rfl) fun p h_1 s => ?_
  refine tAl s (vs := [(.slice none 0 0), (.bool false), (.bool false), (.int .i64 0), (.int .i64 0), (.slice none 0 0)]) (by rfl) fun p_1 h_2 s => ?_
  refine tLd (p := .pointer (some p)) (cs := [.pointer (some p0)]) (j := 0) (padd_zero _).symm (Sf.ceE (Cx.new_at p) 1 rfl s) rfl ?_
  refine tNil (a := p0) (j := 0) (padd_zero _).symm ?_
  refine tFA (a := p0) (n := 0) (padd_zero _).symm rfl ?_
  refine tLd (p := .pointer (some p0)) (cs := [v, (.bool a0.failed)]) (j := 1) rfl (Sf.ceE hy0 2 rfl s) rfl ?_
  by_cases hc : a0.failed = true
  · refine (cond_tt hc).2 ?_
    replace hp := (Pl.ite_pos hc).1 hp
    refine tLdA (a := p_1) (cs := [(.slice none 0 0), (.bool false), (.bool false), (.int .i64 0), (.int .i64 0), (.slice none 0 0)]) (ds := [(.slice none 0 0), (.bool false), (.bool false), (.int .i64 0), (.int .i64 0), (.slice none 0 0)]) (j := 0) (padd_zero _).symm (Sf.ceE (Cx.new_at p_1) 0 rfl s) (Nat.le_of_ble_eq_true rfl) rfl ?_
    refine tSt (cs := [(.slice none 0 0), (.bool false), (.bool false), (.int .i64 0), (.int .i64 0), (.slice none 0 0)]) (vs := [(.slice none 0 0), (.bool false), (.bool false), (.int .i64 0), (.int .i64 0), (.slice none 0 0)]) (cs' := [(.slice none 0 0), (.bool false), (.bool false), (.int .i64 0), (.int .i64 0), (.slice none 0 0)]) (j := 0) 0 rfl s (Cx.new_at p_1) (padd_zero _).symm (by rfl) rfl (Nat.le_of_ble_eq_true rfl) (ones_cons rfl (ones_cons rfl (ones_cons rfl (ones_cons rfl (ones_cons rfl (ones_cons rfl ones_nil)))))) rfl fun h_3 s => ?_
    refine oResA (cs := [(.slice none 0 0), (.bool false), (.bool false), (.int .i64 0), (.int .i64 0), (.slice none 0 0)]) (Sf.ceE (Cx.new_at p_1) 0 rfl s _ rfl) ⟨_, rfl⟩ rfl ?_
    replace s := Sf.dropAt 0 rfl s
    replace s := Sf.dropAt 0 rfl s
    exact ⟨F, a0, v, zSum, _, _, Le.refl F, s, rfl, r, RL.nil _ _ 0, RL.nil _ _ 0, hp⟩
  · refine (cond_ff hc).2 ?_
    replace hp := (Pl.ite_neg hc).1 hp
    refine oFunc_iff.2 ⟨rfl, ?_⟩
    have hb : a0.failed = false := by simpa using hc
    rw [hb] at s
    replace s := Sf.front 2 rfl s
    replace s : Sf F h_2 (Ce y0 ([] ++ [v] ++ [.bool false]) :: Ce (Cx.new p_1) [(.slice none 0 0), (.bool false), (.bool false), (.int .i64 0), (.int .i64 0), (.slice none 0 0)] :: Ce (Cx.new p) [.pointer (some p0)] :: M) := s
    replace s := Sf.toSub (pre := []) (cs := [v]) (post := [.bool false]) s
    generalize hK : PR F M y0 R = K
    have hKi : ∀ u h', PR F M y0 R u h' → K u h' := fun u h' x => by rw [← hK]; exact x
    clear hK
    have key : ∀ (F' : Vw) (h' : Heap) (b0 : T_code_source) (u0_0 : Value) (x : Value), Le F F' → Sf F' h' (Ce (y0.in [] [.bool false]) [u0_0] :: Ce (Cx.new p_1) [(.slice none 0 0), (.bool false), (.bool false), (.int .i64 0), (.int .i64 0), (.slice none 0 0)] :: Ce (Cx.new p) [.pointer (some p0)] :: M) → RL (eI .u8) F' u0_0 b0.left → R ⟨b0, true⟩ zSum → (∃ t v, x = .iface t v) → pnA G (.pointer (some p)) (.pointer (some p_1)) K x h' := by
      intro F' h' b0 u0_0 x g s r hp hx
      refine ⟨hx, ?_⟩
      generalize G.no = G2
      replace s := Sf.offSub s
      replace s : Sf F' h' (Ce y0 [u0_0, .bool false] :: Ce (Cx.new p_1) [(.slice none 0 0), (.bool false), (.bool false), (.int .i64 0), (.int .i64 0), (.slice none 0 0)] :: Ce (Cx.new p) [.pointer (some p0)] :: M) := s
      refine tLd (p := .pointer (some p)) (cs := [.pointer (some p0)]) (j := 0) (padd_zero _).symm (Sf.ceE (Cx.new_at p) 2 rfl s) rfl ?_
      refine tNil (a := p0) (j := 0) (padd_zero _).symm ?_
      refine tFA (a := p0) (n := 0) (padd_zero _).symm rfl ?_
      refine tSt (cs := [u0_0, .bool false]) (vs := [.bool true]) (cs' := [u0_0, .bool true]) (j := 1) 0 rfl s hy0 rfl (by rfl) rfl (Nat.le_of_ble_eq_true rfl) (ones_cons rfl ones_nil) rfl fun h_3 s => ?_
      refine oResA (cs := [(.slice none 0 0), (.bool false), (.bool false), (.int .i64 0), (.int .i64 0), (.slice none 0 0)]) (Sf.ceE (Cx.new_at p_1) 1 rfl s _ rfl) ⟨_, rfl⟩ rfl ?_
      replace s := Sf.dropAt 1 rfl s
      replace s := Sf.dropAt 1 rfl s
      exact hKi _ _ ⟨F', ⟨b0, true⟩, u0_0, zSum, _, _, g, s, rfl, r, RL.nil _ _ 0, RL.nil _ _ 0, hp⟩
    obtain ⟨G2, hG2⟩ : ∃ G2 : Gd, G2 = G.with (pnA G (.pointer (some p)) (.pointer (some p_1)) K) := ⟨_, rfl⟩
    rw [← hG2]
    refine oCall_first (HC.mono (w_code_source_summary (a0 := a0.from_) s (Cx.sub (pre := []) (post := [.bool false]) hy0) r hp ?_) ?_)
    · intro F' h' b0 u0_0 x g s r hp hx
      rw [hG2]
      exact key F' h' b0 u0_0 x g s r hp hx
    rintro u h_3 ⟨F_1, b, v_1, r_1, v_2, v_3, g, s, rfl, r_2, r_3, r_4, hp⟩
    replace s := Sf.offSub s
    replace s : Sf F_1 h_3 (Ce y0 [v_1, .bool false] :: Ce (Cx.new p_1) [(.slice none 0 0), (.bool false), (.bool false), (.int .i64 0), (.int .i64 0), (.slice none 0 0)] :: Ce (Cx.new p) [.pointer (some p0)] :: M) := s
    refine tSt (cs := [(.slice none 0 0), (.bool false), (.bool false), (.int .i64 0), (.int .i64 0), (.slice none 0 0)]) (vs := [v_2, (.bool r_1.Ends), (.bool r_1.Ret.Some), (.int .i64 r_1.Ret.Lo), (.int .i64 r_1.Ret.Hi), v_3]) (cs' := [v_2, (.bool r_1.Ends), (.bool r_1.Ret.Some), (.int .i64 r_1.Ret.Lo), (.int .i64 r_1.Ret.Hi), v_3]) (j := 0) 1 rfl s (Cx.new_at p_1) (padd_zero _).symm (by rfl) rfl (Nat.le_of_ble_eq_true rfl) (ones_cons r_3.1.one (ones_cons rfl (ones_cons rfl (ones_cons rfl (ones_cons rfl (ones_cons r_4.1.one ones_nil)))))) rfl fun h_4 s => ?_
    refine oResA (cs := [v_2, (.bool r_1.Ends), (.bool r_1.Ret.Some), (.int .i64 r_1.Ret.Lo), (.int .i64 r_1.Ret.Hi), v_3]) (Sf.ceE (Cx.new_at p_1) 1 rfl s _ rfl) ⟨_, rfl⟩ rfl ?_
    replace s := Sf.dropAt 1 rfl s
    replace s := Sf.dropAt 1 rfl s
    exact hKi _ _ ⟨F_1, ⟨b, false⟩, v_1, r_1, v_2, v_3, g, s, rfl, r_2, r_3, r_4, hp⟩
section
variable [Gd]
attribute [local irreducible] Go.wpQuiet Go.wpList Go.Sh.mixL Go.Sh.mixF Go.Sh.wpAnyE Go.Code.wp
/-- (*augur/code.Reader).Summary -/
def g_code_Reader_Summary (v0 : Value) (h : Heap) (R : Value → Heap → Prop) : Prop :=
  oAlloc Try.prog 33 h fun t2 h => 
  oNil Try.prog v0 fun t5 =>
  oFieldAddr Try.prog 90 t5 0 (Eq h) fun t6 =>
  oFunc Try.prog (.func 42) #[t6] #[] fun t7 =>
  oCall Try.prog (.func (.func 41) #[] #[]) #[v0, t7] h fun t8 h_1 => 
  oStore Try.prog 33 t2 t8 h_1 fun _ h_2 => 
  oRes Try.prog [(some 33, t2)] h_2 R

set_option maxRecDepth 100000 in
set_option maxHeartbeats 2000000 in
theorem sh_code_Reader_Summary {v0 : Value} {h : Heap} {R : Value → Heap → Prop} (hg : g_code_Reader_Summary v0 h R) : HC Try.prog 27 #[v0] h R := by
  refine hc_of_wp (n := 9) (f := ovr [(0, v0)] fun _ => undef) Try.func27 rfl rfl (by kernel_rfl) (fun w hw => ?_)
  have hs := SameW.refl w
  unfold g_code_Reader_Summary at hg
  refine wp_seq ?_
  refine region_seq ?_
  refine stepX rfl (by exact hg) hw (wanted_none rfl) rfl (fun t2 h wh hw hs1 hg => ?_)
  have hs := hs.trans hs1
  clear hs1
  refine stepEnd ?_
  refine thenN ?_
  refine wp_seq ?_
  refine region_seq ?_
  refine stepM (v := v0) (by first | exact .inl rfl | exact .inr rfl) (wanted_none rfl) rfl rfl ?_
  refine stepM (v := v0) (by first | exact .inl rfl | exact .inr rfl) (wanted_none rfl) rfl rfl ?_
  refine stepP rfl (by exact hg) (wanted_none rfl) rfl (fun t5 hg => ?_)
  refine stepQ rfl (by exact hg) hw (wanted_none rfl) rfl (fun t6 hg => ?_)
  refine stepP (ex_makeFunc rfl) (by exact hg) (wanted_none rfl) rfl (fun t7 hg => ?_)
  refine stepX (ex_call rfl) (by exact hg) hw (wanted_none rfl) rfl (fun t8 h_1 wh_1 hw hs1 hg => ?_)
  have hs := hs.trans hs1
  clear hs1
  refine stepU rfl (by exact hg) hw (wanted_none rfl) rfl (fun _ h_2 wh_2 hw hs1 hg => ?_)
  have hs := hs.trans hs1
  clear hs1
  refine stepEnd ?_
  refine thenN ?_
  refine wp_ret ?_
  exact post_res hg hw hs Try.results27 ⟨rfl, rfl, rfl, trivial⟩


end
set_option maxRecDepth 20000 in
set_option maxHeartbeats 1000000 in
theorem w_code_Reader_Summary [G : Gd] {F : Vw} {h : Heap} {M : List HP} {a0 : T_code_Reader} {y0 : Cx} {p0 : Addr} {v : Value} {R : T_code_Reader → T_api_Summary → Prop} (s : Sf F h (Ce y0 [v, (.bool a0.failed)] :: M)) (hy0 : y0.at p0) (r : RL (eI .u8) F v a0.from_.left) (hp : p_code_Reader_Summary a0 R) :
    HC Try.prog 27 #[(.pointer (some p0))] h fun u h' => ∃ (F' : Vw) (b0 : T_code_Reader) (u0_0 : Value) (r_0 : T_api_Summary) (z0_0 : Value) (z0_5 : Value), Le F F' ∧ Sf F' h' (Ce y0 [u0_0, (.bool b0.failed)] :: M) ∧ (.agg #[z0_0, (.bool r_0.Ends), (.bool r_0.Ret.Some), (.int .i64 r_0.Ret.Lo), (.int .i64 r_0.Ret.Hi), z0_5]) = u ∧ RL (eI .u8) F' u0_0 b0.from_.left ∧ RL e_api_Alarm F' z0_0 r_0.Alarms ∧ RL e_api_Named F' z0_5 r_0.Mod ∧ R b0 r_0 := by
  refine sh_code_Reader_Summary ?_
  unfold g_code_Reader_Summary
  refine tAl s (vs := [(.slice none 0 0), (.bool false), (.bool false), (.int .i64 0), (.int .i64 0), (.slice none 0 0)]) (by rfl) fun p h_1 s => ?_
  refine tNil (a := p0) (j := 0) (padd_zero _).symm ?_
  refine tFA (a := p0) (n := 0) (padd_zero _).symm (padd_zero _) ?_
  refine oFunc_iff.2 ?_
  replace s := Sf.front 1 rfl s
  refine oCall_func (HC.mono (w_attempt (a0 := a0) s hy0 r hp) ?_)
  rintro u h_3 ⟨F_1, b, v_1, r_1, v_2, v_3, g, s, rfl, r_2, r_3, r_4, hp⟩
  refine tSt (cs := [(.slice none 0 0), (.bool false), (.bool false), (.int .i64 0), (.int .i64 0), (.slice none 0 0)]) (vs := [v_2, (.bool r_1.Ends), (.bool r_1.Ret.Some), (.int .i64 r_1.Ret.Lo), (.int .i64 r_1.Ret.Hi), v_3]) (cs' := [v_2, (.bool r_1.Ends), (.bool r_1.Ret.Some), (.int .i64 r_1.Ret.Lo), (.int .i64 r_1.Ret.Hi), v_3]) (j := 0) 1 rfl s (Cx.new_at p) (padd_zero _).symm (by rfl) rfl (Nat.le_of_ble_eq_true rfl) (ones_cons r_3.1.one (ones_cons rfl (ones_cons rfl (ones_cons rfl (ones_cons rfl (ones_cons r_4.1.one ones_nil)))))) rfl fun h_4 s => ?_
  refine oResA (cs := [v_2, (.bool r_1.Ends), (.bool r_1.Ret.Some), (.int .i64 r_1.Ret.Lo), (.int .i64 r_1.Ret.Hi), v_3]) (Sf.ceE (Cx.new_at p) 1 rfl s _ rfl) ⟨_, rfl⟩ rfl ?_
  replace s := Sf.dropAt 1 rfl s
  exact ⟨F_1, b, v_1, r_1, v_2, v_3, g, s, rfl, r_2, r_3, r_4, hp⟩
end Go.Proofs.Ytaibfbakhiainaa
namespace Go.Proofs.Ytaibfbakhiainaa
open Go Go.Sh

/-- augur/digest.Open -/
def p_digest_Open (a0 : Str) (R : T_api_Summary → Int → Prop) : Prop :=
  p_code_NewReader (Pl.bytes a0) fun r_1 =>
  p_code_Reader_Summary r_1 fun b r_4 =>
  p_code_Reader_Done b fun b_1 r_8 =>
  Pl.ite (r_8 ≠ 0)
   (R (⟨([] : List T_api_Alarm), false, (⟨false, 0, 0⟩ : T_api_Ival), ([] : List T_api_Named)⟩ : T_api_Summary) 20)
   (R r_4 0)

/-- augur/augurlaw19.known -/
def p_augurlaw19_known  (R : Bool → Prop) : Prop :=
  p_augurlaw19_made (⟨[9], true, 1, 2, ([] : List T_augurlaw19_Cell)⟩ : T_augurlaw19_Raw) fun r_1 =>
  p_digest_Bytes r_1 fun r_4 =>
  p_digest_Open r_4 fun r_5 r_8 =>
  p_digest_Open ([255] : Str) fun r_9 r_12 =>
  p_digest_Bottom fun r_13 =>
  p_digest_Join r_13 r_1 fun r_16 =>
  p_augurhelp_Summary r_16 r_1 fun r_19 =>
  Pl.join (fun (x : Bool) =>
    Pl.join (fun (x_1 : Bool) =>
      Pl.join (fun (x_2 : Bool) =>
        Pl.join (fun (x_3 : Bool) =>
          Pl.join (fun (x_4 : Bool) =>
            Pl.join (fun (x_5 : T_api_Summary) (x_6 : T_api_Summary) =>
              Pl.join (fun (x_7 : Bool) =>
                R x_7)
               fun kp_6 =>
              Pl.ite (x_4 = true)
               (p_digest_Leq x_5 x_6 fun r_24 =>
                kp_6 r_24)
               (kp_6 false))
             fun kp_5 =>
            Pl.ite (x_4 = true)
             (p_digest_Bottom fun r_25 =>
              kp_5 r_25 r_1)
             (kp_5 (⟨([] : List T_api_Alarm), false, (⟨false, 0, 0⟩ : T_api_Ival), ([] : List T_api_Named)⟩ : T_api_Summary) (⟨([] : List T_api_Alarm), false, (⟨false, 0, 0⟩ : T_api_Ival), ([] : List T_api_Named)⟩ : T_api_Summary)))
           fun kp_4 =>
          Pl.ite (x_3 = true)
           (p_digest_Same r_1 r_5 fun r_28 =>
            kp_4 r_28)
           (kp_4 false))
         fun kp_3 =>
        Pl.ite (x_2 = true)
         (p_digest_Bottom fun r_29 =>
          kp_3 (!r_29.Ends))
         (kp_3 false))
       fun kp_2 =>
      Pl.ite (x_1 = true)
       (kp_2 (decide (r_12 = 20)))
       (kp_2 false))
     fun kp_1 =>
    Pl.ite (x = true)
     (kp_1 (decide (r_8 = 0)))
     (kp_1 false))
   fun kp =>
  Pl.ite (r_19 = true)
   (p_augurhelp_Summary r_5 r_1 fun r_32 =>
    kp r_32)
   (kp false)

/-- augur/augurlaw19.DigestTells -/
def p_augurlaw19_DigestTells (a0 : T_augurlaw19_Raw) (a1 : T_augurlaw19_Raw) (R : Bool → Prop) : Prop :=
  p_augurlaw19_known fun r_4 =>
  Pl.ite ((!r_4) = true)
   (R false)
   (p_augurlaw19_light [a0, a1] fun r_6 =>
    Pl.ite ((!r_6) = true)
     (R true)
     (∃ (R_1 : T_api_Summary → Prop) (R_2 : T_api_Summary → Prop), (p_augurlaw19_made a0 R_1) ∧ (p_augurlaw19_made a1 R_2) ∧
      ∀ r_7, R_1 r_7 → ∀ r_10, R_2 r_10 →
      p_augurref12_Sjoin r_7 r_10 false fun r_13 =>
      p_digest_Join r_7 r_10 fun r_16 =>
      p_augurhelp_Summary r_16 r_13 fun r_19 =>
      Pl.join (fun (x : Bool) =>
        Pl.join (fun (x_1 : Bool) =>
          Pl.join (fun (x_2 : Bool) (x_3 : T_api_Summary) (x_4 : T_api_Summary) =>
            Pl.join (fun (x_5 : Bool) =>
              R x_5)
             fun kp_3 =>
            Pl.ite (x_1 = true)
             (p_augurref12_Ssame x_3 x_4 fun r_24 =>
              kp_3 (x_2 == r_24))
             (kp_3 false))
           fun kp_2 =>
          Pl.ite (x_1 = true)
           (p_digest_Leq r_7 r_10 fun r_25 =>
            kp_2 r_25 r_13 r_10)
           (kp_2 false (⟨([] : List T_api_Alarm), false, (⟨false, 0, 0⟩ : T_api_Ival), ([] : List T_api_Named)⟩ : T_api_Summary) (⟨([] : List T_api_Alarm), false, (⟨false, 0, 0⟩ : T_api_Ival), ([] : List T_api_Named)⟩ : T_api_Summary)))
         fun kp_1 =>
        Pl.ite (x = true)
         (p_digest_Same r_7 r_10 fun r_26 =>
          p_augurref12_Ssame r_7 r_10 fun r_27 =>
          kp_1 (r_26 == r_27))
         (kp_1 false))
       fun kp =>
      Pl.ite (r_19 = true)
       (p_digest_Widen r_7 r_10 fun r_28 =>
        p_augurref12_Sjoin r_7 r_10 true fun r_31 =>
        p_augurhelp_Summary r_28 r_31 fun r_34 =>
        kp r_34)
       (kp false)))

/-- augur/augurlaw19.DigestLattice -/
def p_augurlaw19_DigestLattice (a0 : T_augurlaw19_Raw) (a1 : T_augurlaw19_Raw) (a2 : T_augurlaw19_Raw) (R : Bool → Prop) : Prop :=
  p_augurlaw19_known fun r_6 =>
  Pl.ite ((!r_6) = true)
   (R false)
   (p_augurlaw19_light [a0, a1, a2] fun r_8 =>
    Pl.ite ((!r_8) = true)
     (R true)
     (∃ (R_1 : T_api_Summary → Prop) (R_2 : T_api_Summary → Prop) (R_3 : T_api_Summary → Prop), (p_augurlaw19_made a0 R_1) ∧ (p_augurlaw19_made a1 R_2) ∧ (p_augurlaw19_made a2 R_3) ∧
      ∀ r_9, R_1 r_9 → ∀ r_12, R_2 r_12 → ∀ r_15, R_3 r_15 →
      p_digest_Join r_9 r_12 fun r_18 =>
      p_digest_Join r_12 r_9 fun r_21 =>
      p_digest_Same r_18 r_21 fun r_24 =>
      Pl.join (fun (x : Bool) =>
        Pl.join (fun (x_1 : Bool) =>
          Pl.join (fun (x_2 : Bool) =>
            Pl.join (fun (x_3 : Bool) =>
              Pl.join (fun (x_4 : Bool) =>
                Pl.join (fun (x_5 : Bool) =>
                  Pl.join (fun (x_6 : T_api_Summary) (x_7 : T_api_Summary) =>
                    Pl.join (fun (x_8 : Bool) =>
                      R x_8)
                     fun kp_7 =>
                    Pl.ite (x_5 = true)
                     (p_digest_Same x_6 x_7 fun r_29 =>
                      kp_7 r_29)
                     (kp_7 false))
                   fun kp_6 =>
                  Pl.ite (x_5 = true)
                   (p_digest_Bottom fun r_30 =>
                    p_digest_Join r_9 r_30 fun r_33 =>
                    kp_6 r_33 r_9)
                   (kp_6 (⟨([] : List T_api_Alarm), false, (⟨false, 0, 0⟩ : T_api_Ival), ([] : List T_api_Named)⟩ : T_api_Summary) (⟨([] : List T_api_Alarm), false, (⟨false, 0, 0⟩ : T_api_Ival), ([] : List T_api_Named)⟩ : T_api_Summary)))
                 fun kp_5 =>
                Pl.ite (x_4 = true)
                 (p_digest_Join r_9 r_9 fun r_36 =>
                  p_digest_Same r_36 r_9 fun r_39 =>
                  kp_5 r_39)
                 (kp_5 false))
               fun kp_4 =>
              Pl.ite (x_3 = true)
               (p_digest_Widen r_9 r_12 fun r_40 =>
                p_digest_Leq r_18 r_40 fun r_43 =>
                kp_4 r_43)
               (kp_4 false))
             fun kp_3 =>
            Pl.ite (x_2 = true)
             (p_digest_Leq r_9 r_15 fun r_44 =>
              Pl.join (fun (x_9 : Bool) =>
                Pl.join (fun (x_10 : Bool) =>
                  kp_3 x_10)
                 fun kp_9 =>
                Pl.ite (x_9 = true)
                 (kp_9 true)
                 (p_digest_Leq r_18 r_15 fun r_45 =>
                  kp_9 r_45))
               fun kp_8 =>
              Pl.ite ((!r_44) = true)
               (kp_8 true)
               (p_digest_Leq r_12 r_15 fun r_46 =>
                kp_8 (!r_46)))
             (kp_3 false))
           fun kp_2 =>
          Pl.ite (x_1 = true)
           (p_digest_Leq r_12 r_18 fun r_47 =>
            kp_2 r_47)
           (kp_2 false))
         fun kp_1 =>
        Pl.ite (x = true)
         (p_digest_Leq r_9 r_18 fun r_48 =>
          kp_1 r_48)
         (kp_1 false))
       fun kp =>
      Pl.ite (r_24 = true)
       (p_digest_Join r_18 r_15 fun r_49 =>
        p_digest_Join r_12 r_15 fun r_52 =>
        p_digest_Join r_9 r_52 fun r_55 =>
        p_digest_Same r_49 r_55 fun r_58 =>
        kp r_58)
       (kp false)))

end Go.Proofs.Ytaibfbakhiainaa

namespace Go.Proofs.Ytaibfbakhiainaa
open Go Go.Sh
set_option maxRecDepth 100000
attribute [local irreducible] Go.wpQuiet Go.wpList Go.Sh.mixL Go.Sh.mixF Go.Sh.wpAnyE Go.Code.wp

/-- augur/digest.Open -/
def g_digest_Open (v0 : Value) (h : Heap) (R : Value → Heap → Prop) : Prop :=
 oAlloc Try.prog 33 h fun t2 h => 
 oConvX Try.prog 9 22 v0 h fun t7 h_1 => 
 oCall Try.prog (.func (.func 26) #[] #[]) #[t7] h_1 fun t8 h_2 => 
 oCall Try.prog (.func (.func 27) #[] #[]) #[t8] h_2 fun t10 h_3 => 
 oAlloc Try.prog 33 h_3 fun t5 h_4 => 
 oStore Try.prog 33 t5 t10 h_4 fun _ h_5 => 
 oCall Try.prog (.func (.func 28) #[] #[]) #[t8] h_5 fun t12 h_6 => 
 oBin Try.prog .neq 39 (.tmp 12) (.const (.int .i64 0)) t12 (.int .i64 0) fun t13 =>
 cond t13
  (oBuild Try.prog 33 #[] fun t14 =>
  oStore Try.prog 33 t2 t14 h_6 fun _ h_7 => 
  oRes Try.prog [(some 33, t2), (none, (.int .i64 20))] h_7 R)
  (oLoad Try.prog 33 t5 (Eq h_6) fun t15 =>
  oStore Try.prog 33 t2 t15 h_6 fun _ h_8 => 
  oRes Try.prog [(some 33, t2), (none, (.int .i64 0))] h_8 R)

theorem sh_digest_Open {v0 : Value} {h : Heap} {R : Value → Heap → Prop} (hg : g_digest_Open v0 h R) : HC Try.prog 12 #[v0] h R := hc_shal [] Try.func12 (by kernel_rfl) hg

set_option maxRecDepth 20000 in
set_option maxHeartbeats 4000000 in
theorem w_digest_Open {F : Vw} {h : Heap} {M : List HP} {a0 : Str} {R : T_api_Summary → Int → Prop} (s : Sf F h (M))  (hp : p_digest_Open a0 R) :
  HC Try.prog 12 #[(str a0)] h fun u h' => ∃ (F' : Vw) (r_0 : T_api_Summary) (z0_0 : Value) (z0_5 : Value) (r_1 : Int), Le F F' ∧ Sf F' h' (M) ∧ (.tuple #[(.agg #[z0_0, (.bool r_0.Ends), (.bool r_0.Ret.Some), (.int .i64 r_0.Ret.Lo), (.int .i64 r_0.Ret.Hi), z0_5]), (.int .i64 r_1)]) = u ∧ RL e_api_Alarm F' z0_0 r_0.Alarms ∧ RL e_api_Named F' z0_5 r_0.Mod ∧ R r_0 r_1 := by
 refine sh_digest_Open ?_
 unfold g_digest_Open
 unfold p_digest_Open at hp
 have e0 := Le.refl F
 refine tAl s (vs := [(.slice none 0 0), (.bool false), (.bool false), (.int .i64 0), (.int .i64 0), (.slice none 0 0)]) (by rfl) fun p h_1 s => ?_
 refine tBytesF s fun F_1 v h_2 g s r => ?_
 replace e0 := Le.trans e0 g
 refine oCall_func (HC.mono (w_code_NewReader (a0 := (Pl.bytes a0)) s r hp) ?_)
 rintro u h_3 ⟨F_2, r_1, p_1, v_1, g_1, s, rfl, r_2, hp⟩
 replace r := r.le g_1
 replace e0 := Le.trans e0 g_1
 refine oCall_func (HC.mono (w_code_Reader_Summary (a0 := r_1) s (Cx.new_at p_1) r_2 hp) ?_)
 rintro u_1 h_4 ⟨F_3, b, v_2, r_4, v_3, v_4, g_2, s, rfl, r_3, r_5, r_6, hp⟩
 replace e0 := Le.trans e0 g_2
 refine tAl s (vs := [(.slice none 0 0), (.bool false), (.bool false), (.int .i64 0), (.int .i64 0), (.slice none 0 0)]) (by rfl) fun p_2 h_5 s => ?_
 refine tSt (cs := [(.slice none 0 0), (.bool false), (.bool false), (.int .i64 0), (.int .i64 0), (.slice none 0 0)]) (vs := [v_3, (.bool r_4.Ends), (.bool r_4.Ret.Some), (.int .i64 r_4.Ret.Lo), (.int .i64 r_4.Ret.Hi), v_4]) (cs' := [v_3, (.bool r_4.Ends), (.bool r_4.Ret.Some), (.int .i64 r_4.Ret.Lo), (.int .i64 r_4.Ret.Hi), v_4]) (j := 0) 0 rfl s (Cx.new_at p_2) (padd_zero _).symm (by rfl) rfl (Nat.le_of_ble_eq_true rfl) (ones_cons r_5.1.one (ones_cons rfl (ones_cons rfl (ones_cons rfl (ones_cons rfl (ones_cons r_6.1.one ones_nil)))))) rfl fun h_6 s => ?_
 replace s := Sf.front 1 rfl s
 refine oCall_func (HC.mono (w_code_Reader_Done (a0 := b) s (Cx.new_at p_1) r_3 hp) ?_)
 rintro u_2 h_7 ⟨F_4, b_1, v_5, r_8, g_3, s, rfl, r_7, hp⟩
 replace r_5 := r_5.le g_3
 replace r_6 := r_6.le g_3
 replace e0 := Le.trans e0 g_3
 refine oBin_neq.2 ?_
 by_cases hc : r_8 ≠ 0
 ·refine (cond_pos hc).2 ?_
  replace hp := (Pl.ite_pos hc).1 hp
  refine oBuild_own (cells := #[(.slice none 0 0), (.bool false), (.bool false), (.int .i64 0), (.int .i64 0), (.slice none 0 0)]) rfl ?_
  refine tSt (cs := [(.slice none 0 0), (.bool false), (.bool false), (.int .i64 0), (.int .i64 0), (.slice none 0 0)]) (vs := [(.slice none 0 0), (.bool false), (.bool false), (.int .i64 0), (.int .i64 0), (.slice none 0 0)]) (cs' := [(.slice none 0 0), (.bool false), (.bool false), (.int .i64 0), (.int .i64 0), (.slice none 0 0)]) (j := 0) 2 rfl s (Cx.new_at p) (padd_zero _).symm (by rfl) rfl (Nat.le_of_ble_eq_true rfl) (ones_cons rfl (ones_cons rfl (ones_cons rfl (ones_cons rfl (ones_cons rfl (ones_cons rfl ones_nil)))))) rfl fun h_8 s => ?_
  refine oResN (rsA (cs := [(.slice none 0 0), (.bool false), (.bool false), (.int .i64 0), (.int .i64 0), (.slice none 0 0)]) (Sf.ceE (Cx.new_at p) 2 rfl s _ rfl) rfl (rsT rs0)) (by simp) ?_
  replace s := Sf.dropAt 0 rfl s
  replace s := Sf.dropAt 0 rfl s
  replace s := Sf.dropAt 0 rfl s
  exact ⟨F_4, (⟨([] : List T_api_Alarm), false, (⟨false, 0, 0⟩ : T_api_Ival), ([] : List T_api_Named)⟩ : T_api_Summary), (.slice none 0 0), (.slice none 0 0), 20, e0, s, rfl, (RL.nil _ _ 0), (RL.nil _ _ 0), hp⟩
 ·refine (cond_neg hc).2 ?_
  replace hp := (Pl.ite_neg hc).1 hp
  refine tLdA (a := p_2) (cs := [v_3, (.bool r_4.Ends), (.bool r_4.Ret.Some), (.int .i64 r_4.Ret.Lo), (.int .i64 r_4.Ret.Hi), v_4]) (ds := [v_3, (.bool r_4.Ends), (.bool r_4.Ret.Some), (.int .i64 r_4.Ret.Lo), (.int .i64 r_4.Ret.Hi), v_4]) (j := 0) (padd_zero _).symm (Sf.ceE (Cx.new_at p_2) 1 rfl s) (Nat.le_of_ble_eq_true rfl) rfl ?_
  refine tSt (cs := [(.slice none 0 0), (.bool false), (.bool false), (.int .i64 0), (.int .i64 0), (.slice none 0 0)]) (vs := [v_3, (.bool r_4.Ends), (.bool r_4.Ret.Some), (.int .i64 r_4.Ret.Lo), (.int .i64 r_4.Ret.Hi), v_4]) (cs' := [v_3, (.bool r_4.Ends), (.bool r_4.Ret.Some), (.int .i64 r_4.Ret.Lo), (.int .i64 r_4.Ret.Hi), v_4]) (j := 0) 2 rfl s (Cx.new_at p) (padd_zero _).symm (by rfl) rfl (Nat.le_of_ble_eq_true rfl) (ones_cons r_5.1.one (ones_cons rfl (ones_cons rfl (ones_cons rfl (ones_cons rfl (ones_cons r_6.1.one ones_nil)))))) rfl fun h_9 s => ?_
  refine oResN (rsA (cs := [v_3, (.bool r_4.Ends), (.bool r_4.Ret.Some), (.int .i64 r_4.Ret.Lo), (.int .i64 r_4.Ret.Hi), v_4]) (Sf.ceE (Cx.new_at p) 2 rfl s _ rfl) rfl (rsT rs0)) (by simp) ?_
  replace s := Sf.dropAt 0 rfl s
  replace s := Sf.dropAt 0 rfl s
  replace s := Sf.dropAt 0 rfl s
  exact ⟨F_4, r_4, v_3, v_4, 0, e0, s, rfl, r_5, r_6, hp⟩

/-- augur/augurlaw19.known -/
def g_augurlaw19_known (h : Heap) (R : Value → Heap → Prop) : Prop :=
 oBuildSlice Try.prog 22 1 #[(0, (.int .u8 9))] h fun t7 h => 
 oBuild Try.prog 25 #[(0, t7), (1, (.bool true)), (2, (.int .i64 1)), (3, (.int .i64 2))] fun t8 =>
 oCall Try.prog (.func (.func 6) #[] #[]) #[t8] h fun t9 h_1 => 
 oAlloc Try.prog 33 h_1 fun t1 h_2 => 
 oStore Try.prog 33 t1 t9 h_2 fun _ h_3 => 
 oLoad Try.prog 33 t1 (Eq h_3) fun t10 =>
 oCall Try.prog (.func (.func 7) #[] #[]) #[t10] h_3 fun t11 h_4 => 
 oCall Try.prog (.func (.func 12) #[] #[]) #[t11] h_4 fun t14 h_5 => 
 oExt Try.prog t14 0 fun t15 =>
 oExt Try.prog t14 1 fun t16 =>
 oAlloc Try.prog 33 h_5 fun t3 h_6 => 
 oStore Try.prog 33 t3 t15 h_6 fun _ h_7 => 
 oCall Try.prog (.func (.func 12) #[] #[]) #[(.string ⟨#[255]⟩)] h_7 fun t18 h_8 => 
 oExt Try.prog t18 0 fun t19 =>
 oExt Try.prog t18 1 fun t20 =>
 oAlloc Try.prog 33 h_8 fun t5 h_9 => 
 oStore Try.prog 33 t5 t19 h_9 fun _ h_10 => 
 drawn h_10 fun D =>
 oLoad Try.prog 33 t1 D fun t22 =>
 oLoad Try.prog 33 t1 D fun t24 =>
 oCall Try.prog (.func (.func 13) #[] #[]) #[] h_10 fun t21 h_11 => D h_11 ∧ 
 oCall Try.prog (.func (.func 11) #[] #[]) #[t21, t22] h_11 fun t23 h_12 => D h_12 ∧ 
 oCall Try.prog (.func (.func 10) #[] #[]) #[t23, t24] h_12 fun t25 h_13 => D h_13 ∧ 
 join (fun (x29 : Value) (h_14 : Heap) =>
  oPick Try.prog t25 x29 (.bool false) fun t30 =>
  join (fun (x33 : Value)  =>
  oPick Try.prog t30 x33 (.bool false) fun t34 =>
  join (fun (x37 : Value)  =>
   oPick Try.prog t34 x37 (.bool false) fun t38 =>
   join (fun (x42 : Value) (h_15 : Heap) =>
   oPick Try.prog t38 x42 (.bool false) fun t43 =>
   join (fun (x47 : Value) (h_16 : Heap) =>
    oPick Try.prog t43 x47 (.bool false) fun t48 =>
    join (fun (x50 x51 : Value) (h_17 : Heap) =>
    join (fun (x52 : Value) (h_18 : Heap) =>
     oPick Try.prog t48 x52 (.bool false) fun t53 =>
     R t53 h_18)
     fun k_6 =>
    cond t48
     (oCall Try.prog (.func (.func 9) #[] #[]) #[x50, x51] h_17 fun t52 h_19 => 
     k_6 t52 h_19)
     (k_6 undef h_17))
    fun k_5 =>
    cond t48
    (oLoad Try.prog 33 t1 D fun t51 =>
    oCall Try.prog (.func (.func 13) #[] #[]) #[] h_16 fun t50 h_20 => D h_20 ∧ 
    k_5 t50 t51 h_20)
    (k_5 undef undef h_16))
    fun k_4 =>
   cond t43
    (oLoad Try.prog 33 t1 D fun t45 =>
    oLoad Try.prog 33 t3 D fun t46 =>
    oCall Try.prog (.func (.func 8) #[] #[]) #[t45, t46] h_15 fun t47 h_21 => D h_21 ∧ 
    k_4 t47 h_21)
    (k_4 undef h_15))
   fun k_3 =>
   cond t38
   (oCall Try.prog (.func (.func 13) #[] #[]) #[] h_14 fun t40 h_22 => D h_22 ∧ 
   oField Try.prog 33 t40 1 fun t41 =>
   oUn Try.prog .not t41 fun t42 =>
   k_3 t42 h_22)
   (k_3 undef h_14))
   fun k_2 =>
  cond t34
   (oBin Try.prog .eql 3 (.tmp 36) (.const (.int .i64 20)) t20 (.int .i64 20) fun t37 =>
   k_2 t37)
   (k_2 undef))
  fun k_1 =>
  cond t30
  (oBin Try.prog .eql 3 (.tmp 32) (.const (.int .i64 0)) t16 (.int .i64 0) fun t33 =>
  k_1 t33)
  (k_1 undef))
  fun k =>
 cond t25
  (oLoad Try.prog 33 t3 D fun t27 =>
  oLoad Try.prog 33 t1 D fun t28 =>
  oCall Try.prog (.func (.func 10) #[] #[]) #[t27, t28] h_13 fun t29 h_23 => D h_23 ∧ 
  k t29 h_23)
  (k undef h_13)

theorem sh_augurlaw19_known {h : Heap} {R : Value → Heap → Prop} (hg : g_augurlaw19_known  h R) : HC Try.prog 4 #[] h R := hc_shal [(5, .mixo [1, 3, 0, 2, 4, 5, 6, 7, 8, 9, 10, 11, 12, 13, 14, 15, 16, 17, 18, 19, 20, 21, 22, 23, 24, 25, 26, 27, 28, 30, 29])] Try.func4 (by kernel_rfl) hg

set_option maxRecDepth 20000 in
set_option maxHeartbeats 4000000 in
theorem w_augurlaw19_known {F : Vw} {h : Heap} {M : List HP}  {R : Bool → Prop} (s : Sf F h (M))  (hp : p_augurlaw19_known  R) :
  HC Try.prog 4 #[] h fun u h' => ∃ (F' : Vw) (r_0 : Bool), Le F F' ∧ Sf F' h' (M) ∧ (.bool r_0) = u ∧ R r_0 := by
 refine sh_augurlaw19_known ?_
 unfold g_augurlaw19_known
 unfold p_augurlaw19_known at hp
 have e0 := Le.refl F
 refine tBuildN s (e := (eI .u8)) (l := [9]) [(.int .u8 9)] rfl ⟨rfl, trivial⟩ rfl rfl rfl (Nat.le_of_ble_eq_true rfl) fun v h_1 cs hc s => ?_
 refine oBuild_own (cells := #[v, (.bool true), (.int .i64 1), (.int .i64 2), (.slice none 0 0)]) (by obtain ⟨_, _, e_b⟩ := (Sf.at 0 rfl s).row.1; (first | subst e_b | rw [e_b]); rfl) ?_
 obtain ⟨F_1, g, s, r⟩ := Sf.freezeRL 0 rfl s rfl hc
 replace e0 := Le.trans e0 g
 refine oCall_func (HC.mono (w_augurlaw19_made (a0 := (⟨[9], true, 1, 2, ([] : List T_augurlaw19_Cell)⟩ : T_augurlaw19_Raw)) s r (RL.nil _ _ 0) hp) ?_)
 rintro u h_2 ⟨F_2, r_1, v_1, v_2, g_1, s, rfl, r_2, r_3, hp⟩
 replace r := r.le g_1
 replace e0 := Le.trans e0 g_1
 refine tAl s (vs := [(.slice none 0 0), (.bool false), (.bool false), (.int .i64 0), (.int .i64 0), (.slice none 0 0)]) (by rfl) fun p h_3 s => ?_
 refine tSt (cs := [(.slice none 0 0), (.bool false), (.bool false), (.int .i64 0), (.int .i64 0), (.slice none 0 0)]) (vs := [v_1, (.bool r_1.Ends), (.bool r_1.Ret.Some), (.int .i64 r_1.Ret.Lo), (.int .i64 r_1.Ret.Hi), v_2]) (cs' := [v_1, (.bool r_1.Ends), (.bool r_1.Ret.Some), (.int .i64 r_1.Ret.Lo), (.int .i64 r_1.Ret.Hi), v_2]) (j := 0) 0 rfl s (Cx.new_at p) (padd_zero _).symm (by rfl) rfl (Nat.le_of_ble_eq_true rfl) (ones_cons r_2.1.one (ones_cons rfl (ones_cons rfl (ones_cons rfl (ones_cons rfl (ones_cons r_3.1.one ones_nil)))))) rfl fun h_4 s => ?_
 refine tLdA (a := p) (cs := [v_1, (.bool r_1.Ends), (.bool r_1.Ret.Some), (.int .i64 r_1.Ret.Lo), (.int .i64 r_1.Ret.Hi), v_2]) (ds := [v_1, (.bool r_1.Ends), (.bool r_1.Ret.Some), (.int .i64 r_1.Ret.Lo), (.int .i64 r_1.Ret.Hi), v_2]) (j := 0) (padd_zero _).symm (Sf.ceE (Cx.new_at p) 0 rfl s) (Nat.le_of_ble_eq_true rfl) rfl ?_
 refine oCall_func (HC.mono (w_digest_Bytes (a0 := r_1) s r_2 r_3 hp) ?_)
 rintro u_1 h_5 ⟨F_3, r_4, g_2, s, rfl, hp⟩
 replace r_2 := r_2.le g_2
 replace r_3 := r_3.le g_2
 replace e0 := Le.trans e0 g_2
 refine oCall_func (HC.mono (w_digest_Open (a0 := r_4) s  hp) ?_)
 rintro u_2 h_6 ⟨F_4, r_5, v_3, v_4, r_8, g_3, s, rfl, r_6, r_7, hp⟩
 replace r_2 := r_2.le g_3
 replace r_3 := r_3.le g_3
 replace e0 := Le.trans e0 g_3
 refine oExt_two0.2 ?_
 refine oExt_two1.2 ?_
 refine tAl s (vs := [(.slice none 0 0), (.bool false), (.bool false), (.int .i64 0), (.int .i64 0), (.slice none 0 0)]) (by rfl) fun p_1 h_7 s => ?_
 refine tSt (cs := [(.slice none 0 0), (.bool false), (.bool false), (.int .i64 0), (.int .i64 0), (.slice none 0 0)]) (vs := [v_3, (.bool r_5.Ends), (.bool r_5.Ret.Some), (.int .i64 r_5.Ret.Lo), (.int .i64 r_5.Ret.Hi), v_4]) (cs' := [v_3, (.bool r_5.Ends), (.bool r_5.Ret.Some), (.int .i64 r_5.Ret.Lo), (.int .i64 r_5.Ret.Hi), v_4]) (j := 0) 0 rfl s (Cx.new_at p_1) (padd_zero _).symm (by rfl) rfl (Nat.le_of_ble_eq_true rfl) (ones_cons r_6.1.one (ones_cons rfl (ones_cons rfl (ones_cons rfl (ones_cons rfl (ones_cons r_7.1.one ones_nil)))))) rfl fun h_8 s => ?_
 refine oCall_func (HC.mono (w_digest_Open (a0 := ([255] : Str)) s  hp) ?_)
 rintro u_3 h_9 ⟨F_5, r_9, v_5, v_6, r_12, g_4, s, rfl, r_10, r_11, hp⟩
 replace r_6 := r_6.le g_4
 replace r_7 := r_7.le g_4
 replace r_2 := r_2.le g_4
 replace r_3 := r_3.le g_4
 replace e0 := Le.trans e0 g_4
 refine oExt_two0.2 ?_
 refine oExt_two1.2 ?_
 refine tAl s (vs := [(.slice none 0 0), (.bool false), (.bool false), (.int .i64 0), (.int .i64 0), (.slice none 0 0)]) (by rfl) fun p_2 h_10 s => ?_
 refine tSt (cs := [(.slice none 0 0), (.bool false), (.bool false), (.int .i64 0), (.int .i64 0), (.slice none 0 0)]) (vs := [v_5, (.bool r_9.Ends), (.bool r_9.Ret.Some), (.int .i64 r_9.Ret.Lo), (.int .i64 r_9.Ret.Hi), v_6]) (cs' := [v_5, (.bool r_9.Ends), (.bool r_9.Ret.Some), (.int .i64 r_9.Ret.Lo), (.int .i64 r_9.Ret.Hi), v_6]) (j := 0) 0 rfl s (Cx.new_at p_2) (padd_zero _).symm (by rfl) rfl (Nat.le_of_ble_eq_true rfl) (ones_cons r_10.1.one (ones_cons rfl (ones_cons rfl (ones_cons rfl (ones_cons rfl (ones_cons r_11.1.one ones_nil)))))) rfl fun h_11 s => ?_
 refine ⟨fun h' => Sf F_5 h' (Ce (Cx.new p_2) [v_5, (.bool r_9.Ends), (.bool r_9.Ret.Some), (.int .i64 r_9.Ret.Lo), (.int .i64 r_9.Ret.Hi), v_6] :: Ce (Cx.new p_1) [v_3, (.bool r_5.Ends), (.bool r_5.Ret.Some), (.int .i64 r_5.Ret.Lo), (.int .i64 r_5.Ret.Hi), v_4] :: Ce (Cx.new p) [v_1, (.bool r_1.Ends), (.bool r_1.Ret.Some), (.int .i64 r_1.Ret.Lo), (.int .i64 r_1.Ret.Hi), v_2] :: M), s, ?_⟩
 have ed := Le.refl F_5
 refine tLdA (a := p) (cs := [v_1, (.bool r_1.Ends), (.bool r_1.Ret.Some), (.int .i64 r_1.Ret.Lo), (.int .i64 r_1.Ret.Hi), v_2]) (ds := [v_1, (.bool r_1.Ends), (.bool r_1.Ret.Some), (.int .i64 r_1.Ret.Lo), (.int .i64 r_1.Ret.Hi), v_2]) (j := 0) (padd_zero _).symm (Sf.ceD (Cx.new_at p) 2 rfl) (Nat.le_of_ble_eq_true rfl) rfl ?_
 refine tLdA (a := p) (cs := [v_1, (.bool r_1.Ends), (.bool r_1.Ret.Some), (.int .i64 r_1.Ret.Lo), (.int .i64 r_1.Ret.Hi), v_2]) (ds := [v_1, (.bool r_1.Ends), (.bool r_1.Ret.Some), (.int .i64 r_1.Ret.Lo), (.int .i64 r_1.Ret.Hi), v_2]) (j := 0) (padd_zero _).symm (Sf.ceD (Cx.new_at p) 2 rfl) (Nat.le_of_ble_eq_true rfl) rfl ?_
 refine oCall_func (HC.mono (w_digest_Bottom  s  hp) ?_)
 rintro u_4 h_12 ⟨F_6, r_13, v_7, v_8, g_5, s, rfl, r_14, r_15, hp⟩
 have r_2_D := r_2
 replace r_2 := r_2.le g_5
 have r_3_D := r_3
 replace r_3 := r_3.le g_5
 have r_10_D := r_10
 replace r_10 := r_10.le g_5
 have r_11_D := r_11
 replace r_11 := r_11.le g_5
 have r_6_D := r_6
 replace r_6 := r_6.le g_5
 have r_7_D := r_7
 replace r_7 := r_7.le g_5
 replace e0 := Le.trans e0 g_5
 replace ed := Le.trans ed g_5
 refine ⟨Sf.le s ed, ?_⟩
 refine oCall_func (HC.mono (w_digest_Join (a0 := r_13) (a1 := r_1) s r_14 r_15 r_2 r_3 hp) ?_)
 rintro u_5 h_13 ⟨F_7, r_16, v_9, v_10, g_6, s, rfl, r_17, r_18, hp⟩
 replace r_2 := r_2.le g_6
 replace r_3 := r_3.le g_6
 replace r_14 := r_14.le g_6
 replace r_15 := r_15.le g_6
 replace r_10 := r_10.le g_6
 replace r_11 := r_11.le g_6
 replace r_6 := r_6.le g_6
 replace r_7 := r_7.le g_6
 replace e0 := Le.trans e0 g_6
 replace ed := Le.trans ed g_6
 refine ⟨Sf.le s ed, ?_⟩
 refine oCall_func (HC.mono (w_augurhelp_Summary (a0 := r_16) (a1 := r_1) s r_17 r_18 r_2 r_3 hp) ?_)
 rintro u_6 h_14 ⟨F_8, r_19, g_7, s, rfl, hp⟩
 replace r_2 := r_2.le g_7
 replace r_3 := r_3.le g_7
 replace r_17 := r_17.le g_7
 replace r_18 := r_18.le g_7
 replace r_10 := r_10.le g_7
 replace r_11 := r_11.le g_7
 replace r_6 := r_6.le g_7
 replace r_7 := r_7.le g_7
 replace e0 := Le.trans e0 g_7
 replace ed := Le.trans ed g_7
 refine ⟨Sf.le s ed, ?_⟩
 obtain ⟨kp, hk_1, hp⟩ := Pl.join_elim hp
 have ej := Le.refl F_8
 refine Sh.join_intro fun k hk => ?_
 have hK : ∀ (F_9 : Vw) (h_15 : Heap) (x : Bool) (w : Value), (∀ K : Value → Prop, K (.bool x) → oPick Try.prog (.bool r_19) w (.bool false) K) → Le F_8 F_9 → Sf F_9 h_15 (Ce (Cx.new p_2) [v_5, (.bool r_9.Ends), (.bool r_9.Ret.Some), (.int .i64 r_9.Ret.Lo), (.int .i64 r_9.Ret.Hi), v_6] :: Ce (Cx.new p_1) [v_3, (.bool r_5.Ends), (.bool r_5.Ret.Some), (.int .i64 r_5.Ret.Lo), (.int .i64 r_5.Ret.Hi), v_4] :: Ce (Cx.new p) [v_1, (.bool r_1.Ends), (.bool r_1.Ret.Some), (.int .i64 r_1.Ret.Lo), (.int .i64 r_1.Ret.Hi), v_2] :: M) → kp x → k w h_15 := by
  intro F_9 h_15 x w hw g_8 s  hp
  rw [hk]
  rw [hk_1] at hp
  refine hw _ ?_
  replace r_10 := r_10.le g_8
  replace r_11 := r_11.le g_8
  replace r_6 := r_6.le g_8
  replace r_7 := r_7.le g_8
  replace r_2 := r_2.le g_8
  replace r_3 := r_3.le g_8
  replace e0 := Le.trans e0 g_8
  replace ed := Le.trans ed g_8
  replace ej := Le.trans ej g_8
  obtain ⟨kp_1, hk_3, hp⟩ := Pl.join_elim hp
  refine Sh.join_intro fun k_1 hk_2 => ?_
  have hK_1 : ∀ (x_1 : Bool) (w_1 : Value), (∀ K : Value → Prop, K (.bool x_1) → oPick Try.prog (.bool x) w_1 (.bool false) K) → kp_1 x_1 → k_1 w_1 := by
   intro x_1 w_1 hw_1 hp
   rw [hk_2]
   rw [hk_3] at hp
   refine hw_1 _ ?_
   obtain ⟨kp_2, hk_5, hp⟩ := Pl.join_elim hp
   refine Sh.join_intro fun k_2 hk_4 => ?_
   have hK_2 : ∀ (x_2 : Bool) (w_2 : Value), (∀ K : Value → Prop, K (.bool x_2) → oPick Try.prog (.bool x_1) w_2 (.bool false) K) → kp_2 x_2 → k_2 w_2 := by
    intro x_2 w_2 hw_2 hp
    rw [hk_4]
    rw [hk_5] at hp
    refine hw_2 _ ?_
    obtain ⟨kp_3, hk_7, hp⟩ := Pl.join_elim hp
    have ej_1 := Le.refl F_9
    refine Sh.join_intro fun k_3 hk_6 => ?_
    have hK_3 : ∀ (F_10 : Vw) (h_16 : Heap) (x_3 : Bool) (w_3 : Value), (∀ K : Value → Prop, K (.bool x_3) → oPick Try.prog (.bool x_2) w_3 (.bool false) K) → Le F_9 F_10 → Sf F_10 h_16 (Ce (Cx.new p_2) [v_5, (.bool r_9.Ends), (.bool r_9.Ret.Some), (.int .i64 r_9.Ret.Lo), (.int .i64 r_9.Ret.Hi), v_6] :: Ce (Cx.new p_1) [v_3, (.bool r_5.Ends), (.bool r_5.Ret.Some), (.int .i64 r_5.Ret.Lo), (.int .i64 r_5.Ret.Hi), v_4] :: Ce (Cx.new p) [v_1, (.bool r_1.Ends), (.bool r_1.Ret.Some), (.int .i64 r_1.Ret.Lo), (.int .i64 r_1.Ret.Hi), v_2] :: M) → kp_3 x_3 → k_3 w_3 h_16 := by
     intro F_10 h_16 x_3 w_3 hw_3 g_9 s  hp
     rw [hk_6]
     rw [hk_7] at hp
     refine hw_3 _ ?_
     replace r_10 := r_10.le g_9
     replace r_11 := r_11.le g_9
     replace r_6 := r_6.le g_9
     replace r_7 := r_7.le g_9
     replace r_2 := r_2.le g_9
     replace r_3 := r_3.le g_9
     replace e0 := Le.trans e0 g_9
     replace ed := Le.trans ed g_9
     replace ej := Le.trans ej g_9
     replace ej_1 := Le.trans ej_1 g_9
     obtain ⟨kp_4, hk_9, hp⟩ := Pl.join_elim hp
     have ej_2 := Le.refl F_10
     refine Sh.join_intro fun k_4 hk_8 => ?_
     have hK_4 : ∀ (F_11 : Vw) (h_17 : Heap) (x_4 : Bool) (w_4 : Value), (∀ K : Value → Prop, K (.bool x_4) → oPick Try.prog (.bool x_3) w_4 (.bool false) K) → Le F_10 F_11 → Sf F_11 h_17 (Ce (Cx.new p_2) [v_5, (.bool r_9.Ends), (.bool r_9.Ret.Some), (.int .i64 r_9.Ret.Lo), (.int .i64 r_9.Ret.Hi), v_6] :: Ce (Cx.new p_1) [v_3, (.bool r_5.Ends), (.bool r_5.Ret.Some), (.int .i64 r_5.Ret.Lo), (.int .i64 r_5.Ret.Hi), v_4] :: Ce (Cx.new p) [v_1, (.bool r_1.Ends), (.bool r_1.Ret.Some), (.int .i64 r_1.Ret.Lo), (.int .i64 r_1.Ret.Hi), v_2] :: M) → kp_4 x_4 → k_4 w_4 h_17 := by
      intro F_11 h_17 x_4 w_4 hw_4 g_10 s  hp
      rw [hk_8]
      rw [hk_9] at hp
      refine hw_4 _ ?_
      replace r_10 := r_10.le g_10
      replace r_11 := r_11.le g_10
      replace r_6 := r_6.le g_10
      replace r_7 := r_7.le g_10
      replace r_2 := r_2.le g_10
      replace r_3 := r_3.le g_10
      replace e0 := Le.trans e0 g_10
      replace ed := Le.trans ed g_10
      replace ej := Le.trans ej g_10
      replace ej_1 := Le.trans ej_1 g_10
      replace ej_2 := Le.trans ej_2 g_10
      obtain ⟨kp_5, hk_11, hp⟩ := Pl.join_elim hp
      have ej_3 := Le.refl F_11
      refine Sh.join_intro fun k_5 hk_10 => ?_
      have hK_5 : ∀ (F_12 : Vw) (h_18 : Heap) (x_5 : T_api_Summary) (x_6 : T_api_Summary) (v_11 : Value) (v_12 : Value) (v_13 : Value) (v_14 : Value) (w_5 : Value) (w_6 : Value), (x_4 = true → (.agg #[v_11, (.bool x_5.Ends), (.bool x_5.Ret.Some), (.int .i64 x_5.Ret.Lo), (.int .i64 x_5.Ret.Hi), v_12]) = w_5) → (x_4 = true → (.agg #[v_13, (.bool x_6.Ends), (.bool x_6.Ret.Some), (.int .i64 x_6.Ret.Lo), (.int .i64 x_6.Ret.Hi), v_14]) = w_6) → Le F_11 F_12 → Sf F_12 h_18 (Ce (Cx.new p_2) [v_5, (.bool r_9.Ends), (.bool r_9.Ret.Some), (.int .i64 r_9.Ret.Lo), (.int .i64 r_9.Ret.Hi), v_6] :: Ce (Cx.new p_1) [v_3, (.bool r_5.Ends), (.bool r_5.Ret.Some), (.int .i64 r_5.Ret.Lo), (.int .i64 r_5.Ret.Hi), v_4] :: Ce (Cx.new p) [v_1, (.bool r_1.Ends), (.bool r_1.Ret.Some), (.int .i64 r_1.Ret.Lo), (.int .i64 r_1.Ret.Hi), v_2] :: M) → RL e_api_Alarm F_12 v_11 x_5.Alarms → RL e_api_Named F_12 v_12 x_5.Mod → RL e_api_Alarm F_12 v_13 x_6.Alarms → RL e_api_Named F_12 v_14 x_6.Mod → kp_5 x_5 x_6 → k_5 w_5 w_6 h_18 := by
       intro F_12 h_18 x_5 x_6 v_11 v_12 v_13 v_14 w_5 w_6 hw_5 hw_6 g_11 s r_20 r_21 r_22 r_23 hp
       rw [hk_10]
       rw [hk_11] at hp
       replace r_10 := r_10.le g_11
       replace r_11 := r_11.le g_11
       replace r_6 := r_6.le g_11
       replace r_7 := r_7.le g_11
       replace r_2 := r_2.le g_11
       replace r_3 := r_3.le g_11
       replace e0 := Le.trans e0 g_11
       replace ed := Le.trans ed g_11
       replace ej := Le.trans ej g_11
       replace ej_1 := Le.trans ej_1 g_11
       replace ej_2 := Le.trans ej_2 g_11
       replace ej_3 := Le.trans ej_3 g_11
       obtain ⟨kp_6, hk_13, hp⟩ := Pl.join_elim hp
       have ej_4 := Le.refl F_12
       refine Sh.join_intro fun k_6 hk_12 => ?_
       have hK_6 : ∀ (F_13 : Vw) (h_19 : Heap) (x_7 : Bool) (w_7 : Value), (∀ K : Value → Prop, K (.bool x_7) → oPick Try.prog (.bool x_4) w_7 (.bool false) K) → Le F_12 F_13 → Sf F_13 h_19 (Ce (Cx.new p_2) [v_5, (.bool r_9.Ends), (.bool r_9.Ret.Some), (.int .i64 r_9.Ret.Lo), (.int .i64 r_9.Ret.Hi), v_6] :: Ce (Cx.new p_1) [v_3, (.bool r_5.Ends), (.bool r_5.Ret.Some), (.int .i64 r_5.Ret.Lo), (.int .i64 r_5.Ret.Hi), v_4] :: Ce (Cx.new p) [v_1, (.bool r_1.Ends), (.bool r_1.Ret.Some), (.int .i64 r_1.Ret.Lo), (.int .i64 r_1.Ret.Hi), v_2] :: M) → kp_6 x_7 → k_6 w_7 h_19 := by
        intro F_13 h_19 x_7 w_7 hw_7 g_12 s  hp
        rw [hk_12]
        rw [hk_13] at hp
        refine hw_7 _ ?_
        replace r_10 := r_10.le g_12
        replace r_11 := r_11.le g_12
        replace r_6 := r_6.le g_12
        replace r_7 := r_7.le g_12
        replace r_2 := r_2.le g_12
        replace r_3 := r_3.le g_12
        replace e0 := Le.trans e0 g_12
        replace ed := Le.trans ed g_12
        replace ej := Le.trans ej g_12
        replace ej_1 := Le.trans ej_1 g_12
        replace ej_2 := Le.trans ej_2 g_12
        replace ej_3 := Le.trans ej_3 g_12
        replace ej_4 := Le.trans ej_4 g_12
        replace s := Sf.dropAt 0 rfl s
        replace s := Sf.dropAt 0 rfl s
        replace s := Sf.dropAt 0 rfl s
        exact ⟨F_13, x_7, e0, s, rfl, hp⟩
       clear hk_12 hk_13
       by_cases hc_1 : x_4 = true
       ·refine (cond_tt hc_1).2 ?_
        replace hp := (Pl.ite_pos hc_1).1 hp
        obtain rfl := hw_5 hc_1
        obtain rfl := hw_6 hc_1
        refine oCall_func (HC.mono (w_digest_Leq (a0 := x_5) (a1 := x_6) s r_20 r_21 r_22 r_23 hp) ?_)
        rintro u_7 h_20 ⟨F_14, r_24, g_13, s, rfl, hp⟩
        replace r_20 := r_20.le g_13
        replace r_21 := r_21.le g_13
        replace r_22 := r_22.le g_13
        replace r_23 := r_23.le g_13
        replace r_10 := r_10.le g_13
        replace r_11 := r_11.le g_13
        replace r_6 := r_6.le g_13
        replace r_7 := r_7.le g_13
        replace r_2 := r_2.le g_13
        replace r_3 := r_3.le g_13
        replace e0 := Le.trans e0 g_13
        replace ed := Le.trans ed g_13
        replace ej := Le.trans ej g_13
        replace ej_1 := Le.trans ej_1 g_13
        replace ej_2 := Le.trans ej_2 g_13
        replace ej_3 := Le.trans ej_3 g_13
        replace ej_4 := Le.trans ej_4 g_13
        exact hK_6 _ _ r_24 _ (fun _ h => oPick_hc hc_1 h) ej_4 s  hp
       ·refine (cond_ff hc_1).2 ?_
        replace hp := (Pl.ite_neg hc_1).1 hp
        exact hK_6 _ _ false _ (fun _ h => oPick_hn hc_1 h) ej_4 s  hp
      clear hk_10 hk_11
      by_cases hc_2 : x_4 = true
      ·refine (cond_tt hc_2).2 ?_
       replace hp := (Pl.ite_pos hc_2).1 hp
       refine tLdA (a := p) (cs := [v_1, (.bool r_1.Ends), (.bool r_1.Ret.Some), (.int .i64 r_1.Ret.Lo), (.int .i64 r_1.Ret.Hi), v_2]) (ds := [v_1, (.bool r_1.Ends), (.bool r_1.Ret.Some), (.int .i64 r_1.Ret.Lo), (.int .i64 r_1.Ret.Hi), v_2]) (j := 0) (padd_zero _).symm (Sf.ceD (Cx.new_at p) 2 rfl) (Nat.le_of_ble_eq_true rfl) rfl ?_
       refine oCall_func (HC.mono (w_digest_Bottom  s  hp) ?_)
       rintro u_8 h_21 ⟨F_15, r_25, v_15, v_16, g_14, s, rfl, r_26, r_27, hp⟩
       replace r_2 := r_2.le g_14
       replace r_3 := r_3.le g_14
       replace r_10 := r_10.le g_14
       replace r_11 := r_11.le g_14
       replace r_6 := r_6.le g_14
       replace r_7 := r_7.le g_14
       replace e0 := Le.trans e0 g_14
       replace ed := Le.trans ed g_14
       replace ej := Le.trans ej g_14
       replace ej_1 := Le.trans ej_1 g_14
       replace ej_2 := Le.trans ej_2 g_14
       replace ej_3 := Le.trans ej_3 g_14
       refine ⟨Sf.le s ed, ?_⟩
       exact hK_5 _ _ r_25 r_1 v_15 v_16 v_1 v_2 _ _ (fun _ => rfl) (fun _ => rfl) ej_3 s r_26 r_27 r_2 r_3 hp
      ·refine (cond_ff hc_2).2 ?_
       replace hp := (Pl.ite_neg hc_2).1 hp
       exact hK_5 _ _ (⟨([] : List T_api_Alarm), false, (⟨false, 0, 0⟩ : T_api_Ival), ([] : List T_api_Named)⟩ : T_api_Summary) (⟨([] : List T_api_Alarm), false, (⟨false, 0, 0⟩ : T_api_Ival), ([] : List T_api_Named)⟩ : T_api_Summary) (.slice none 0 0) (.slice none 0 0) (.slice none 0 0) (.slice none 0 0) _ _ (fun h => absurd h hc_2) (fun h => absurd h hc_2) ej_3 s (RL.nil _ _ 0) (RL.nil _ _ 0) (RL.nil _ _ 0) (RL.nil _ _ 0) hp
     clear hk_8 hk_9
     by_cases hc_3 : x_3 = true
     ·refine (cond_tt hc_3).2 ?_
      replace hp := (Pl.ite_pos hc_3).1 hp
      refine tLdA (a := p) (cs := [v_1, (.bool r_1.Ends), (.bool r_1.Ret.Some), (.int .i64 r_1.Ret.Lo), (.int .i64 r_1.Ret.Hi), v_2]) (ds := [v_1, (.bool r_1.Ends), (.bool r_1.Ret.Some), (.int .i64 r_1.Ret.Lo), (.int .i64 r_1.Ret.Hi), v_2]) (j := 0) (padd_zero _).symm (Sf.ceD (Cx.new_at p) 2 rfl) (Nat.le_of_ble_eq_true rfl) rfl ?_
      refine tLdA (a := p_1) (cs := [v_3, (.bool r_5.Ends), (.bool r_5.Ret.Some), (.int .i64 r_5.Ret.Lo), (.int .i64 r_5.Ret.Hi), v_4]) (ds := [v_3, (.bool r_5.Ends), (.bool r_5.Ret.Some), (.int .i64 r_5.Ret.Lo), (.int .i64 r_5.Ret.Hi), v_4]) (j := 0) (padd_zero _).symm (Sf.ceD (Cx.new_at p_1) 1 rfl) (Nat.le_of_ble_eq_true rfl) rfl ?_
      refine oCall_func (HC.mono (w_digest_Same (a0 := r_1) (a1 := r_5) s r_2 r_3 r_6 r_7 hp) ?_)
      rintro u_9 h_22 ⟨F_16, r_28, g_15, s, rfl, hp⟩
      replace r_2 := r_2.le g_15
      replace r_3 := r_3.le g_15
      replace r_6 := r_6.le g_15
      replace r_7 := r_7.le g_15
      replace r_10 := r_10.le g_15
      replace r_11 := r_11.le g_15
      replace e0 := Le.trans e0 g_15
      replace ed := Le.trans ed g_15
      replace ej := Le.trans ej g_15
      replace ej_1 := Le.trans ej_1 g_15
      replace ej_2 := Le.trans ej_2 g_15
      refine ⟨Sf.le s ed, ?_⟩
      exact hK_4 _ _ r_28 _ (fun _ h => oPick_hc hc_3 h) ej_2 s  hp
     ·refine (cond_ff hc_3).2 ?_
      replace hp := (Pl.ite_neg hc_3).1 hp
      exact hK_4 _ _ false _ (fun _ h => oPick_hn hc_3 h) ej_2 s  hp
    clear hk_6 hk_7
    by_cases hc_4 : x_2 = true
    ·refine (cond_tt hc_4).2 ?_
     replace hp := (Pl.ite_pos hc_4).1 hp
     refine oCall_func (HC.mono (w_digest_Bottom  s  hp) ?_)
     rintro u_10 h_23 ⟨F_17, r_29, v_17, v_18, g_16, s, rfl, r_30, r_31, hp⟩
     replace r_10 := r_10.le g_16
     replace r_11 := r_11.le g_16
     replace r_6 := r_6.le g_16
     replace r_7 := r_7.le g_16
     replace r_2 := r_2.le g_16
     replace r_3 := r_3.le g_16
     replace e0 := Le.trans e0 g_16
     replace ed := Le.trans ed g_16
     replace ej := Le.trans ej g_16
     replace ej_1 := Le.trans ej_1 g_16
     refine ⟨Sf.le s ed, ?_⟩
     refine oField_own (x := (.bool r_29.Ends)) (by obtain ⟨_, _, e_b⟩ := r_30.1; (first | subst e_b | rw [e_b]); obtain ⟨_, _, e_b⟩ := r_31.1; (first | subst e_b | rw [e_b]); exact fun w => rfl) ?_
     refine oUn_not.2 ?_
     exact hK_3 _ _ (!r_29.Ends) _ (fun _ h => oPick_hc hc_4 h) ej_1 s  hp
    ·refine (cond_ff hc_4).2 ?_
     replace hp := (Pl.ite_neg hc_4).1 hp
     exact hK_3 _ _ false _ (fun _ h => oPick_hn hc_4 h) ej_1 s  hp
   clear hk_4 hk_5
   by_cases hc_5 : x_1 = true
   ·refine (cond_tt hc_5).2 ?_
    replace hp := (Pl.ite_pos hc_5).1 hp
    refine oBin_eql.2 ?_
    exact hK_2 (decide (r_12 = 20)) _ (fun _ h => oPick_hc hc_5 h) hp
   ·refine (cond_ff hc_5).2 ?_
    replace hp := (Pl.ite_neg hc_5).1 hp
    exact hK_2 false _ (fun _ h => oPick_hn hc_5 h) hp
  clear hk_2 hk_3
  by_cases hc_6 : x = true
  ·refine (cond_tt hc_6).2 ?_
   replace hp := (Pl.ite_pos hc_6).1 hp
   refine oBin_eql.2 ?_
   exact hK_1 (decide (r_8 = 0)) _ (fun _ h => oPick_hc hc_6 h) hp
  ·refine (cond_ff hc_6).2 ?_
   replace hp := (Pl.ite_neg hc_6).1 hp
   exact hK_1 false _ (fun _ h => oPick_hn hc_6 h) hp
 clear hk hk_1
 by_cases hc_7 : r_19 = true
 ·refine (cond_tt hc_7).2 ?_
  replace hp := (Pl.ite_pos hc_7).1 hp
  refine tLdA (a := p_1) (cs := [v_3, (.bool r_5.Ends), (.bool r_5.Ret.Some), (.int .i64 r_5.Ret.Lo), (.int .i64 r_5.Ret.Hi), v_4]) (ds := [v_3, (.bool r_5.Ends), (.bool r_5.Ret.Some), (.int .i64 r_5.Ret.Lo), (.int .i64 r_5.Ret.Hi), v_4]) (j := 0) (padd_zero _).symm (Sf.ceD (Cx.new_at p_1) 1 rfl) (Nat.le_of_ble_eq_true rfl) rfl ?_
  refine tLdA (a := p) (cs := [v_1, (.bool r_1.Ends), (.bool r_1.Ret.Some), (.int .i64 r_1.Ret.Lo), (.int .i64 r_1.Ret.Hi), v_2]) (ds := [v_1, (.bool r_1.Ends), (.bool r_1.Ret.Some), (.int .i64 r_1.Ret.Lo), (.int .i64 r_1.Ret.Hi), v_2]) (j := 0) (padd_zero _).symm (Sf.ceD (Cx.new_at p) 2 rfl) (Nat.le_of_ble_eq_true rfl) rfl ?_
  refine oCall_func (HC.mono (w_augurhelp_Summary (a0 := r_5) (a1 := r_1) s r_6 r_7 r_2 r_3 hp) ?_)
  rintro u_11 h_24 ⟨F_18, r_32, g_17, s, rfl, hp⟩
  replace r_6 := r_6.le g_17
  replace r_7 := r_7.le g_17
  replace r_2 := r_2.le g_17
  replace r_3 := r_3.le g_17
  replace r_10 := r_10.le g_17
  replace r_11 := r_11.le g_17
  replace e0 := Le.trans e0 g_17
  replace ed := Le.trans ed g_17
  replace ej := Le.trans ej g_17
  refine ⟨Sf.le s ed, ?_⟩
  exact hK _ _ r_32 _ (fun _ h => oPick_hc hc_7 h) ej s  hp
 ·refine (cond_ff hc_7).2 ?_
  replace hp := (Pl.ite_neg hc_7).1 hp
  exact hK _ _ false _ (fun _ h => oPick_hn hc_7 h) ej s  hp

end Go.Proofs.Ytaibfbakhiainaa

namespace Go.Sh
variable {α : Type} {P : Program}
/-- The same, told ahead. -/
theorem tPlE (k : Nat) {e : En α} {F : Vw} {v : Value} {l : List α} {i : Int} {a : α} (hk : e.k = k) (r : RL e F v l) (h0 : 0 ≤ i) (hi : l[i.toNat]? = some a) :
    ∃ q c, e.C F c a ∧ RdV F (.pointer (some q)) c ∧ ∀ {P : Program} {t el : TypeId} [Und P t (.slice el)] [Siz P el k] {ik : IntKind} {K : Value → Prop}, K (.pointer (some q)) → oIdx P t v (.int ik i) K := by
  obtain ⟨hv, _, cs, hr, hc⟩ := r
  subst hk
  have hlt := (List.getElem?_eq_some_iff.1 hi).1
  have hlen := hc.len
  have hp := e.pos
  have hcl : 0 < cs.length := by
    rw [hlen]; exact Nat.mul_pos (by omega) hp
  obtain ⟨b, o, hq, hx⟩ := hr.resolve_left (by intro e; rw [e] at hcl; simp at hcl)
  have h2 := (hr.drop (i.toNat * e.k)).take e.k
  rw [hq] at h2
  refine ⟨_, _, hc.get hi, h2, fun {P t el} _ _ {ik K} hK => ?_⟩
  rw [oIdx_sl hv (by rw [hq]; simp) h0 (by omega), hq]
  exact hK
theorem oCallQ_gd [G : Gd] (hn : G.no = G) {f : FuncId} [Fnc P f] {l : Array Value} {D : Heap → Prop} {v : Value} {K : Value → Prop}
    (hc : ∀ h, D h → HC P f l h fun u h' => u = v ∧ D h') (hk : K v) : oCallQ P (.func (.func f) #[] #[]) l D K := ⟨v, fun w hw => by
  have : (callSem (.func (.func f) #[] #[]) l).run P w = .ok (.enter f l) w := by
    simp [callSem, Deferred.ofValue, invoke, Fnc.run]
  refine ⟨f, _, this, ?_⟩
  unfold HCn
  rw [hn]
  exact hc _ hw, hk⟩
end Go.Sh
namespace Go.Proofs.Ytaibfbakhiainaa
open Go Go.Sh

/-- augur/augurlaw19.DigestOrder -/
def p_augurlaw19_DigestOrder (a0 : T_augurlaw19_Raw) (a1 : T_augurlaw19_Raw) (a2 : T_augurlaw19_Raw) (R : Bool → Prop) : Prop :=
  p_augurlaw19_known fun r_6 =>
  Pl.ite ((!r_6) = true)
   (R false)
   (p_augurlaw19_light [a0, a1, a2] fun r_8 =>
    Pl.ite ((!r_8) = true)
     (R true)
     (∃ (R_1 : T_api_Summary → Prop) (R_2 : T_api_Summary → Prop) (R_3 : T_api_Summary → Prop), (p_augurlaw19_made a0 R_1) ∧ (p_augurlaw19_made a1 R_2) ∧ (p_augurlaw19_made a2 R_3) ∧
      ∀ r_9, R_1 r_9 → ∀ r_12, R_2 r_12 → ∀ r_15, R_3 r_15 →
      Pl.det (p_digest_Bytes r_9) fun r_18 =>
      Pl.det (p_digest_Bytes r_12) fun r_19 =>
      Pl.det (p_digest_Same r_9 r_12) fun r_20 =>
      Pl.join (fun (x : Bool) =>
        Pl.ite (x = true)
         (R false)
         (p_digest_Leq r_9 r_12 fun r_21 =>
          Pl.join (fun (x_1 : Bool) =>
            Pl.join (fun (x_2 : Bool) =>
              Pl.join (fun (x_3 : Bool) =>
                Pl.join (fun (x_4 : T_api_Summary) (x_5 : T_api_Summary) (x_6 : T_api_Summary) =>
                  Pl.join (fun (x_7 : Bool) =>
                    R x_7)
                   fun kp_5 =>
                  Pl.ite (x_3 = true)
                   (p_digest_Join x_5 x_6 fun r_28 =>
                    p_augurhelp_Summary x_4 r_28 fun r_31 =>
                    kp_5 r_31)
                   (kp_5 false))
                 fun kp_4 =>
                Pl.ite (x_3 = true)
                 (p_digest_Join r_9 r_12 fun r_32 =>
                  kp_4 r_32 r_12 r_9)
                 (kp_4 (⟨([] : List T_api_Alarm), false, (⟨false, 0, 0⟩ : T_api_Ival), ([] : List T_api_Named)⟩ : T_api_Summary) (⟨([] : List T_api_Alarm), false, (⟨false, 0, 0⟩ : T_api_Ival), ([] : List T_api_Named)⟩ : T_api_Summary) (⟨([] : List T_api_Alarm), false, (⟨false, 0, 0⟩ : T_api_Ival), ([] : List T_api_Named)⟩ : T_api_Summary)))
               fun kp_3 =>
              Pl.ite (x_2 = true)
               (p_digest_Leq r_9 r_12 fun r_35 =>
                Pl.join (fun (x_8 : Bool) =>
                  Pl.join (fun (x_9 : Bool) =>
                    kp_3 x_9)
                   fun kp_7 =>
                  Pl.ite (x_8 = true)
                   (kp_7 true)
                   (p_digest_Leq r_9 r_15 fun r_36 =>
                    kp_7 r_36))
                 fun kp_6 =>
                Pl.ite ((!r_35) = true)
                 (kp_6 true)
                 (p_digest_Leq r_12 r_15 fun r_37 =>
                  kp_6 (!r_37)))
               (kp_3 false))
             fun kp_2 =>
            Pl.ite (x_1 = true)
             (kp_2 true)
             (p_digest_Same r_9 r_12 fun r_38 =>
              kp_2 r_38))
           fun kp_1 =>
          Pl.ite ((!r_21) = true)
           (kp_1 true)
           (p_digest_Leq r_12 r_9 fun r_39 =>
            kp_1 (!r_39))))
       fun kp =>
      Pl.ite (((decide (r_18 = r_19)) != r_20) = true)
       (kp true)
       (Pl.det (p_digest_Leq r_9 r_9) fun r_40 =>
        kp (!r_40))))

end Go.Proofs.Ytaibfbakhiainaa

