/- Texts of the claim, one behind the other. -/
import Derived.ProofKit
import Derived.ReadAgain
import Derived.OpenShut
import Derived.ChangeArms
import Derived.WalkKit
import Derived.Test.YtaibfbakhiainaaMoD
set_option linter.unusedVariables false
set_option linter.unusedSimpArgs false
set_option linter.unusedSectionVars false
namespace Go.Proofs.Ytaibfbakhiainaa
open Go Go.Sh
set_option maxRecDepth 100000
attribute [local irreducible] Go.wpQuiet Go.wpList Go.Sh.mixL Go.Sh.mixF Go.Sh.wpAnyE Go.Code.wp

/-- augur/augurlaw19.DigestOrder -/
def g_augurlaw19_DigestOrder (v0 v1 v2 : Value) (h : Heap) (R : Value → Heap → Prop) : Prop :=
 oBox Try.prog 25 v0 h fun t3 h => 
 oBox Try.prog 25 v1 h fun t4 h_1 => 
 oBox Try.prog 25 v2 h_1 fun t5 h_2 => 
 oCall Try.prog (.func (.func 4) #[] #[]) #[] h_2 fun t10 h_3 => 
 oUn Try.prog .not t10 fun t11 =>
 cond t11
  (R (.bool false) h_3)
  (oLoad Try.prog 25 t3 (Eq h_3) fun t12 =>
  oLoad Try.prog 25 t4 (Eq h_3) fun t13 =>
  oLoad Try.prog 25 t5 (Eq h_3) fun t14 =>
  oBuildSlice Try.prog 43 3 #[(0, t12), (1, t13), (2, t14)] h_3 fun t15 h_4 => 
  oCall Try.prog (.func (.func 5) #[] #[]) #[t15] h_4 fun t16 h_5 => 
  oUn Try.prog .not t16 fun t17 =>
  cond t17
  (R (.bool true) h_5)
  (com h_5 fun A =>
  (cop0 A 0 fun ret h_6 =>
  oLoad Try.prog 25 t3 (Eq h_6) fun v =>
  ret v h_6) ∧
  (cop1 A 1 0 fun ret_1 h_8 t18 =>
  oCall Try.prog (.func (.func 6) #[] #[]) #[t18] h_8 fun v_1 h_9 =>
  ret_1 v_1 h_9) ∧
  (cop0 A 2 fun ret_2 h_10 =>
  oLoad Try.prog 25 t4 (Eq h_10) fun v_2 =>
  ret_2 v_2 h_10) ∧
  (cop1 A 3 2 fun ret_3 h_12 t20 =>
  oCall Try.prog (.func (.func 6) #[] #[]) #[t20] h_12 fun v_3 h_13 =>
  ret_3 v_3 h_13) ∧
  (cop0 A 4 fun ret_4 h_14 =>
  oLoad Try.prog 25 t5 (Eq h_14) fun v_4 =>
  ret_4 v_4 h_14) ∧
  (cop1 A 5 4 fun ret_5 h_16 t22 =>
  oCall Try.prog (.func (.func 6) #[] #[]) #[t22] h_16 fun v_5 h_17 =>
  ret_5 v_5 h_17) ∧
  (cop0 A 6 fun ret_6 h_18 =>
  oAlloc Try.prog 33 h_18 fun v_6 h_19 =>
  ret_6 v_6 h_19) ∧
  (cop0 A 7 fun ret_7 h_20 =>
  oAlloc Try.prog 33 h_20 fun v_7 h_21 =>
  ret_7 v_7 h_21) ∧
  (cop0 A 8 fun ret_8 h_22 =>
  oAlloc Try.prog 33 h_22 fun v_8 h_23 =>
  ret_8 v_8 h_23) ∧
  cend A 9 fun x h_24 =>
  oStore Try.prog 33 (x 6) (x 1) h_24 fun _ h_25 => 
  oStore Try.prog 33 (x 7) (x 3) h_25 fun _ h_26 => 
  oStore Try.prog 33 (x 8) (x 5) h_26 fun _ h_27 => 
  drawn h_27 fun D =>
  oLoad Try.prog 33 (x 6) D fun t24 =>
  oCallQ Try.prog (.func (.func 7) #[] #[]) #[t24] D fun t25 =>
  oLoad Try.prog 33 (x 7) D fun t26 =>
  oCallQ Try.prog (.func (.func 7) #[] #[]) #[t26] D fun t27 =>
  oBin Try.prog .eql 9 (.tmp 25) (.tmp 27) t25 t27 fun t28 =>
  oLoad Try.prog 33 (x 6) D fun t29 =>
  oLoad Try.prog 33 (x 7) D fun t30 =>
  oCallQ Try.prog (.func (.func 8) #[] #[]) #[t29, t30] D fun t31 =>
  oBin Try.prog .neq 4 (.tmp 28) (.tmp 31) t28 t31 fun t32 =>
  join (fun (x37 : Value)  =>
   oPick Try.prog t32 (.bool true) x37 fun t38 =>
   any D fun h_28 =>
   cond t38
   (R (.bool false) h_28)
   (drawn h_28 fun D_1 =>
   oLoad Try.prog 33 (x 6) D_1 fun t39 =>
   oLoad Try.prog 33 (x 7) D_1 fun t40 =>
   oCall Try.prog (.func (.func 9) #[] #[]) #[t39, t40] h_28 fun t41 h_29 => D_1 h_29 ∧ 
   oUn Try.prog .not t41 fun t42 =>
   join (fun (x47 : Value) (h_30 : Heap) =>
    oPick Try.prog t42 (.bool true) x47 fun t48 =>
    join (fun (x52 : Value) (h_31 : Heap) =>
    oPick Try.prog t48 (.bool true) x52 fun t53 =>
    join (fun (x69 : Value) (h_32 : Heap) =>
     oPick Try.prog t53 x69 (.bool false) fun t70 =>
     join (fun (x74 x75 x76 : Value) (h_33 : Heap) =>
     join (fun (x78 : Value) (h_34 : Heap) =>
      oPick Try.prog t70 x78 (.bool false) fun t79 =>
      R t79 h_34)
      fun k_5 =>
     cond t70
      (oCall Try.prog (.func (.func 11) #[] #[]) #[x75, x76] h_33 fun t77 h_35 => 
      oCall Try.prog (.func (.func 10) #[] #[]) #[x74, t77] h_35 fun t78 h_36 => 
      k_5 t78 h_36)
      (k_5 undef h_33))
     fun k_4 =>
     cond t70
     (oLoad Try.prog 33 (x 6) D_1 fun t72 =>
     oLoad Try.prog 33 (x 7) D_1 fun t73 =>
     oLoad Try.prog 33 (x 7) D_1 fun t75 =>
     oLoad Try.prog 33 (x 6) D_1 fun t76 =>
     oCall Try.prog (.func (.func 11) #[] #[]) #[t72, t73] h_32 fun t74 h_37 => D_1 h_37 ∧ 
     k_4 t74 t75 t76 h_37)
     (k_4 undef undef undef h_32))
     fun k_3 =>
    cond t53
     (oLoad Try.prog 33 (x 6) D_1 fun t55 =>
     oLoad Try.prog 33 (x 7) D_1 fun t56 =>
     oCall Try.prog (.func (.func 9) #[] #[]) #[t55, t56] h_31 fun t57 h_38 => D_1 h_38 ∧ 
     oUn Try.prog .not t57 fun t58 =>
     join (fun (x63 : Value) (h_39 : Heap) =>
     oPick Try.prog t58 (.bool true) x63 fun t64 =>
     join (fun (x68 : Value) (h_40 : Heap) =>
      oPick Try.prog t64 (.bool true) x68 fun t69 =>
      k_3 t69 h_40)
      fun k_7 =>
     cond t64
      (k_7 undef h_39)
      (oLoad Try.prog 33 (x 6) D_1 fun t66 =>
      oLoad Try.prog 33 (x 8) D_1 fun t67 =>
      oCall Try.prog (.func (.func 9) #[] #[]) #[t66, t67] h_39 fun t68 h_41 => D_1 h_41 ∧ 
      k_7 t68 h_41))
     fun k_6 =>
     cond t58
     (k_6 undef h_38)
     (oLoad Try.prog 33 (x 7) D_1 fun t60 =>
     oLoad Try.prog 33 (x 8) D_1 fun t61 =>
     oCall Try.prog (.func (.func 9) #[] #[]) #[t60, t61] h_38 fun t62 h_42 => D_1 h_42 ∧ 
     oUn Try.prog .not t62 fun t63 =>
     k_6 t63 h_42))
     (k_3 undef h_31))
    fun k_2 =>
    cond t48
    (k_2 undef h_30)
    (oLoad Try.prog 33 (x 6) D_1 fun t50 =>
    oLoad Try.prog 33 (x 7) D_1 fun t51 =>
    oCall Try.prog (.func (.func 8) #[] #[]) #[t50, t51] h_30 fun t52 h_43 => D_1 h_43 ∧ 
    k_2 t52 h_43))
    fun k_1 =>
   cond t42
    (k_1 undef h_29)
    (oLoad Try.prog 33 (x 7) D_1 fun t44 =>
    oLoad Try.prog 33 (x 6) D_1 fun t45 =>
    oCall Try.prog (.func (.func 9) #[] #[]) #[t44, t45] h_29 fun t46 h_44 => D_1 h_44 ∧ 
    oUn Try.prog .not t46 fun t47 =>
    k_1 t47 h_44)))
   fun k =>
  cond t32
   (k undef)
   (oLoad Try.prog 33 (x 6) D fun t34 =>
   oLoad Try.prog 33 (x 6) D fun t35 =>
   oCallQ Try.prog (.func (.func 9) #[] #[]) #[t34, t35] D fun t36 =>
   oUn Try.prog .not t36 fun t37 =>
   k t37)))

set_option maxRecDepth 100000 in
set_option maxHeartbeats 2000000 in
theorem sh_augurlaw19_DigestOrder {v0 v1 v2 : Value} {h : Heap} {R : Value → Heap → Prop} (hg : g_augurlaw19_DigestOrder v0 v1 v2 h R) : HC Try.prog 3 #[v0, v1, v2] h R := by
 refine hc_of_wp (n := 80) (f := ovr [(0, v0), (1, v1), (2, v2)] fun _ => undef) Try.func3 rfl rfl (by kernel_rfl) (fun w hw => ?_)
 have hs := SameW.refl w
 unfold g_augurlaw19_DigestOrder at hg
 refine wp_seq ?_
 refine region_seq ?_
 refine sX rfl (by exact hg) hw rfl rfl hs fun t3 h wh hw hs hg => ?_
 refine sX rfl (by exact hg) hw rfl rfl hs fun t4 h_1 wh_1 hw hs hg => ?_
 refine sX rfl (by exact hg) hw rfl rfl hs fun t5 h_2 wh_2 hw hs hg => ?_
 refine sA (.bool false) rfl rfl rfl rfl ?_
 refine stepEnd ?_
 refine thenN ?_
 refine wp_seq ?_
 refine wp_seq ?_
 refine region_seq ?_
 refine sX (ex_call rfl) (by exact hg) hw rfl rfl hs fun t10 h_3 wh_3 hw hs hg => ?_
 refine sP rfl (by exact hg) rfl rfl fun t11 hg => ?_
 refine stepEnd ?_
 refine thenN ?_
 refine codeCond hg rfl (fun hb hg1 => ?_) (fun hb hg1 => ?_)
 ·clear hg; subst hb; have hg := hg1; clear hg1
  refine wp_seq ?_
  refine region_seq ?_
  refine sA (.bool false) rfl rfl rfl rfl ?_
  refine stepEnd ?_
  refine thenN ?_
  refine wp_ret ?_
  refine thenR ?_
  exact post_ret (res_tmp Try.results3 rfl rfl) (.inl ⟨_, rfl, hs, by rw [hw]; exact hg⟩)
 ·clear hg; subst hb; have hg := hg1; clear hg1
  refine wp_skip ?_
  refine thenN ?_
  refine wp_seq ?_
  refine wp_seq ?_
  refine region_seq ?_
  refine sQ rfl (by exact hg) hw rfl rfl fun t12 hg => ?_
  refine sQ rfl (by exact hg) hw rfl rfl fun t13 hg => ?_
  refine sQ rfl (by exact hg) hw rfl rfl fun t14 hg => ?_
  refine sX (ex_buildSlice rfl) (by exact hg) hw rfl rfl hs fun t15 h_4 wh_4 hw hs hg => ?_
  refine sX (ex_call rfl) (by exact hg) hw rfl rfl hs fun t16 h_5 wh_5 hw hs hg => ?_
  refine sP rfl (by exact hg) rfl rfl fun t17 hg => ?_
  refine stepEnd ?_
  refine thenN ?_
  refine codeCond hg rfl (fun hb hg1 => ?_) (fun hb hg1 => ?_)
  ·clear hg; subst hb; have hg := hg1; clear hg1
   refine wp_seq ?_
   refine region_seq ?_
   refine sA (.bool true) rfl rfl rfl rfl ?_
   refine stepEnd ?_
   refine thenN ?_
   refine wp_ret ?_
   refine thenR ?_
   exact post_ret (res_tmp Try.results3 rfl rfl) (.inl ⟨_, rfl, hs, by rw [hw]; exact hg⟩)
  ·clear hg; subst hb; have hg := hg1; clear hg1
   refine wp_skip ?_
   refine thenN ?_
   refine wp_seq ?_
   obtain ⟨A, hA0, hg_0, hg_1, hg_2, hg_3, hg_4, hg_5, hg_6, hg_7, hg_8, hgE⟩ := hg
   refine region_com (A := A) 9 (by kernel_rfl) (by kernel_rfl) (by kernel_rfl) (by rw [hw]; exact hA0) (fun i o hi hin m g w2 hag hA hS hn hd => ?_) (fun m g w2 hall hag hA hS => ?_)
   ·obtain rfl | rfl | rfl | rfl | rfl | rfl | rfl | rfl | rfl : i = 0 ∨ i = 1 ∨ i = 2 ∨ i = 3 ∨ i = 4 ∨ i = 5 ∨ i = 6 ∨ i = 7 ∨ i = 8 := by omega
    ·obtain rfl := Option.some.inj hi
     have hag2 : agree [(3, t3)] g := ⟨((hag.keep (by kernel_rfl)).trans rfl), trivial⟩
     rw [mk_ovr1 hag2]
     exact comQ rfl rfl (by exact hg_0 m w2.heap hA hn) rfl rfl hS (fun v hk => hk)
    ·obtain rfl := Option.some.inj hi
     obtain ⟨t18, hj_0⟩ := Option.isSome_iff_exists.1 (hd 0 (by decide))
     have hag2 : agree [(18, t18)] g := ⟨(hag.done 0 _ 18 t18 rfl rfl hj_0), trivial⟩
     rw [mk_ovr1 hag2]
     exact comX rfl (ex_call rfl) (by exact hg_1 m w2.heap t18 hA hn hj_0) rfl rfl hS (fun v h' hk => hk)
    ·obtain rfl := Option.some.inj hi
     have hag2 : agree [(4, t4)] g := ⟨((hag.keep (by kernel_rfl)).trans rfl), trivial⟩
     rw [mk_ovr1 hag2]
     exact comQ rfl rfl (by exact hg_2 m w2.heap hA hn) rfl rfl hS (fun v hk => hk)
    ·obtain rfl := Option.some.inj hi
     obtain ⟨t20, hj_2⟩ := Option.isSome_iff_exists.1 (hd 2 (by decide))
     have hag2 : agree [(20, t20)] g := ⟨(hag.done 2 _ 20 t20 rfl rfl hj_2), trivial⟩
     rw [mk_ovr1 hag2]
     exact comX rfl (ex_call rfl) (by exact hg_3 m w2.heap t20 hA hn hj_2) rfl rfl hS (fun v h' hk => hk)
    ·obtain rfl := Option.some.inj hi
     have hag2 : agree [(5, t5)] g := ⟨((hag.keep (by kernel_rfl)).trans rfl), trivial⟩
     rw [mk_ovr1 hag2]
     exact comQ rfl rfl (by exact hg_4 m w2.heap hA hn) rfl rfl hS (fun v hk => hk)
    ·obtain rfl := Option.some.inj hi
     obtain ⟨t22, hj_4⟩ := Option.isSome_iff_exists.1 (hd 4 (by decide))
     have hag2 : agree [(22, t22)] g := ⟨(hag.done 4 _ 22 t22 rfl rfl hj_4), trivial⟩
     rw [mk_ovr1 hag2]
     exact comX rfl (ex_call rfl) (by exact hg_5 m w2.heap t22 hA hn hj_4) rfl rfl hS (fun v h' hk => hk)
    ·obtain rfl := Option.some.inj hi
     exact comX rfl rfl (by exact hg_6 m w2.heap hA hn) rfl rfl hS (fun v h' hk => hk)
    ·obtain rfl := Option.some.inj hi
     exact comX rfl rfl (by exact hg_7 m w2.heap hA hn) rfl rfl hS (fun v h' hk => hk)
    ·obtain rfl := Option.some.inj hi
     exact comX rfl rfl (by exact hg_8 m w2.heap hA hn) rfl rfl hS (fun v h' hk => hk)
   obtain ⟨x, hx⟩ : ∃ x : Nat → Value, ∀ j, j < 9 → m j = some (x j) := vals_all hall
   have hg := hgE m w2.heap x hA hx
   have hag2 : agree [(19, x 1), (21, x 3), (23, x 5), (7, x 6), (8, x 7), (9, x 8)] g := ⟨(hag.done 1 _ 19 _ rfl rfl (hx 1 (by decide))), (hag.done 3 _ 21 _ rfl rfl (hx 3 (by decide))), (hag.done 5 _ 23 _ rfl rfl (hx 5 (by decide))), (hag.done 6 _ 7 _ rfl rfl (hx 6 (by decide))), (hag.done 7 _ 8 _ rfl rfl (hx 7 (by decide))), (hag.done 8 _ 9 _ rfl rfl (hx 8 (by decide))), trivial⟩
   rw [mk_ovr1 hag2]
   clear hgE hg_0 hg_1 hg_2 hg_3 hg_4 hg_5 hg_6 hg_7 hg_8 hA0 hall hA
   obtain ⟨h_24, hw2⟩ : ∃ h', w2.heap = h' := ⟨_, rfl⟩
   rw [hw2] at hg
   have hw := hw2
   have hs := hs.trans hS
   clear hw2 hS
   refine sU rfl (by exact hg) hw rfl rfl hs fun _ h_25 wh_25 hw hs hg => ?_
   refine sU rfl (by exact hg) hw rfl rfl hs fun _ h_26 wh_26 hw hs hg => ?_
   refine sU rfl (by exact hg) hw rfl rfl hs fun _ h_27 wh_27 hw hs hg => ?_
   refine stepEnd ?_
   refine thenN ?_
   refine wp_seq ?_
   refine wp_seq ?_
   obtain ⟨D, hD, hg⟩ := hg
   refine region_quiet (D := D) (by kernel_rfl) (by kernel_rfl) (by rw [hw]; exact hD) ?_
   refine quietQ rfl (by exact hg) (wanted_none rfl) rfl (fun t24 hg => ?_)
   refine quietC (ex_call rfl) (by exact hg) (wanted_none rfl) rfl (fun t25 hg => ?_)
   refine quietQ rfl (by exact hg) (wanted_none rfl) rfl (fun t26 hg => ?_)
   refine quietC (ex_call rfl) (by exact hg) (wanted_none rfl) rfl (fun t27 hg => ?_)
   refine quietP rfl (by exact hg) (wanted_none rfl) rfl (fun t28 hg => ?_)
   refine quietQ rfl (by exact hg) (wanted_none rfl) rfl (fun t29 hg => ?_)
   refine quietQ rfl (by exact hg) (wanted_none rfl) rfl (fun t30 hg => ?_)
   refine quietC (ex_call rfl) (by exact hg) (wanted_none rfl) rfl (fun t31 hg => ?_)
   refine quietP rfl (by exact hg) (wanted_none rfl) rfl (fun t32 hg => ?_)
   refine quietM (v := t32) (by first | exact .inl rfl | exact .inr rfl) (wanted_none rfl) rfl rfl ?_
   obtain ⟨k, hk, hg⟩ := join_elim hg
   refine quiet_join 4 (fun K_k hK_k => ?_)
   have hj_k : ∀ (x37 : Value) , k x37 → ∀ f, K_k (mk 80 (ovr [(37, x37), (7, (x 6)), (8, (x 7)), (9, (x 8)), (33, t32)] f)) := by
    intro x37 hg f
    rw [hk] at hg
    refine hK_k _ ?_
    refine quietP rfl (by exact hg) (wanted_none rfl) rfl (fun t38 hg => ?_)
    refine quietEnd (fun wq hD1 hs1 => ?_)
    obtain ⟨h_28, hw1⟩ : ∃ h', wq.heap = h' := ⟨_, rfl⟩
    have hg := hg h_28 (hw1 ▸ hD1)
    have hw := hw1
    have hs := hs.trans hs1
    clear hD1 hs1
    refine thenN ?_
    refine codeCond hg rfl (fun hb hg1 => ?_) (fun hb hg1 => ?_)
    ·clear hg; subst hb; have hg := hg1; clear hg1
     refine wp_seq ?_
     refine region_seq ?_
     refine sA (.bool false) rfl rfl rfl rfl ?_
     refine stepEnd ?_
     refine thenN ?_
     refine wp_ret ?_
     refine thenR ?_
     exact post_ret (res_tmp Try.results3 rfl rfl) (.inl ⟨_, rfl, hs, by rw [hw]; exact hg⟩)
    ·clear hg; subst hb; have hg := hg1; clear hg1
     refine wp_skip ?_
     refine thenN ?_
     refine wp_seq ?_
     obtain ⟨D_1, hD, hg⟩ := hg
     refine region_mixo (D := D_1) [(true, 0), (true, 1), (false, 2), (true, 3), (true, 4), (true, 5), (true, 6), (false, 7), (true, 8), (true, 9), (true, 10), (true, 11), (true, 12), (false, 13), (true, 14), (true, 15), (true, 16), (true, 17), (false, 18), (true, 19), (true, 20), (true, 21), (true, 22), (false, 23), (true, 24), (true, 25), (true, 26), (true, 27), (true, 28), (false, 29), (true, 30), (true, 31), (true, 32), (true, 33), (true, 34), (true, 36), (true, 37), (false, 35)] [(true, _), (true, _), (false, _), (true, _), (true, _), (true, _), (true, _), (false, _), (true, _), (true, _), (true, _), (true, _), (true, _), (false, _), (true, _), (true, _), (true, _), (true, _), (false, _), (true, _), (true, _), (true, _), (true, _), (false, _), (true, _), (true, _), (true, _), (true, _), (true, _), (false, _), (true, _), (true, _), (true, _), (true, _), (true, _), (true, _), (true, _), (false, _)] rfl rfl (by kernel_rfl) (by kernel_rfl) (by repeat (first | exact panicOk_base | apply panicOk_then | apply panicOk_blk)) (by rw [hw]; exact hD) (fun wm hs1 hw1 => ?_)
     have hw := hw1.trans hw
     have hs := hs.trans hs1
     clear hs1 hw1
     refine mixQ rfl (by exact hg) (wanted_none rfl) rfl (fun t39 hg => ?_)
     refine mixQ rfl (by exact hg) (wanted_none rfl) rfl (fun t40 hg => ?_)
     refine mixX (ex_call rfl) (by exact hg) hw (wanted_none rfl) rfl (fun t41 h_29 wh_29 hw hs1 hg => ?_)
     have hs := hs.trans hs1
     refine mixP rfl (by exact hg) (wanted_none rfl) rfl (fun t42 hg => ?_)
     refine mixM (v := t42) (by first | exact .inl rfl | exact .inr rfl) (wanted_none rfl) rfl rfl ?_
     obtain ⟨k_1, hk_1, hg⟩ := join_elim hg
     refine mix_join 4 (fun K_k_1 hK_k_1 => ?_)
     have hj_k_1 : ∀ (x47 : Value) (h_30 : Heap) (w' : World), w'.heap = h_30 → SameW w w' → k_1 x47 h_30 → ∀ f, K_k_1 (mk 80 (ovr [(47, x47), (7, (x 6)), (8, (x 7)), (9, (x 8)), (43, t42)] f)) w' := by
      intro x47 h_30 wj hw hs hg f
      rw [hk_1] at hg
      refine hK_k_1 _ _ ?_
      refine mixP rfl (by exact hg) (wanted_none rfl) rfl (fun t48 hg => ?_)
      refine mixM (v := t48) (by first | exact .inl rfl | exact .inr rfl) (wanted_none rfl) rfl rfl ?_
      obtain ⟨k_2, hk_2, hg⟩ := join_elim hg
      refine mix_join 3 (fun K_k_2 hK_k_2 => ?_)
      have hj_k_2 : ∀ (x52 : Value) (h_31 : Heap) (w' : World), w'.heap = h_31 → SameW w w' → k_2 x52 h_31 → ∀ f, K_k_2 (mk 80 (ovr [(52, x52), (7, (x 6)), (8, (x 7)), (9, (x 8)), (49, t48)] f)) w' := by
       intro x52 h_31 wj hw hs hg f
       rw [hk_2] at hg
       refine hK_k_2 _ _ ?_
       refine mixP rfl (by exact hg) (wanted_none rfl) rfl (fun t53 hg => ?_)
       refine mixM (v := t53) (by first | exact .inl rfl | exact .inr rfl) (wanted_none rfl) rfl rfl ?_
       obtain ⟨k_3, hk_3, hg⟩ := join_elim hg
       refine mix_join 15 (fun K_k_3 hK_k_3 => ?_)
       have hj_k_3 : ∀ (x69 : Value) (h_32 : Heap) (w' : World), w'.heap = h_32 → SameW w w' → k_3 x69 h_32 → ∀ f, K_k_3 (mk 80 (ovr [(69, x69), (7, (x 6)), (8, (x 7)), (54, t53)] f)) w' := by
        intro x69 h_32 wj hw hs hg f
        rw [hk_3] at hg
        refine hK_k_3 _ _ ?_
        refine mixP rfl (by exact hg) (wanted_none rfl) rfl (fun t70 hg => ?_)
        refine mixM (v := t70) (by first | exact .inl rfl | exact .inr rfl) (wanted_none rfl) rfl rfl ?_
        obtain ⟨k_4, hk_4, hg⟩ := join_elim hg
        refine mix_join 5 (fun K_k_4 hK_k_4 => ?_)
        have hj_k_4 : ∀ (x74 x75 x76 : Value) (h_33 : Heap) (w' : World), w'.heap = h_33 → SameW w w' → k_4 x74 x75 x76 h_33 → ∀ f, K_k_4 (mk 80 (ovr [(74, x74), (75, x75), (76, x76), (71, t70)] f)) w' := by
         intro x74 x75 x76 h_33 wj hw hs hg f
         rw [hk_4] at hg
         refine hK_k_4 _ _ ?_
         refine mixEnd ?_
         obtain ⟨k_5, hk_5, hg⟩ := join_elim hg
         refine list_join 2 (fun K_k_5 hK_k_5 => ?_)
         have hj_k_5 : ∀ (x78 : Value) (h_34 : Heap) (w' : World), w'.heap = h_34 → SameW w w' → k_5 x78 h_34 → ∀ f, K_k_5 (mk 80 (ovr [(78, x78), (71, t70)] f)) w' := by
          intro x78 h_34 wj hw hs hg f
          rw [hk_5] at hg
          refine hK_k_5 _ _ ?_
          refine sP rfl (by exact hg) rfl rfl fun t79 hg => ?_
          refine sA t79 rfl rfl rfl rfl ?_
          refine stepEnd ?_
          refine thenN ?_
          refine wp_ret ?_
          exact post_ret (res_tmp Try.results3 rfl rfl) (.inl ⟨_, rfl, hs, by rw [hw]; exact hg⟩)
         clear hk_5 hK_k_5
         refine cond_split hg (fun hb hg1 => ?_) (fun hb hg1 => ?_)
         ·clear hg; subst hb; have hg := hg1; clear hg1
          refine stepX (ex_call rfl) (by exact hg) hw (wanted_yes rfl rfl rfl rfl) rfl (fun t77 h_35 wh_35 hw hs1 hg => ?_)
          have hs := hs.trans hs1
          refine stepX (ex_call rfl) (by exact hg) hw (wanted_yes rfl rfl rfl rfl) rfl (fun t78 h_36 wh_36 hw hs1 hg => ?_)
          have hs := hs.trans hs1
          refine stepEnd ?_
          refine thenN ?_
          exact at_ovr (hj_k_5 t78 h_36 _ hw hs hg) ⟨rfl, rfl, trivial⟩
         ·clear hg; subst hb; have hg := hg1; clear hg1
          refine stepSkip (wanted_noT rfl rfl rfl rfl) rfl ?_
          refine stepSkip (wanted_noT rfl rfl rfl rfl) rfl ?_
          refine stepEnd ?_
          refine thenN ?_
          exact at_ovr (hj_k_5 undef h_33 _ hw hs hg) ⟨rfl, rfl, trivial⟩
        clear hk_4 hK_k_4
        refine cond_split hg (fun hb hg1 => ?_) (fun hb hg1 => ?_)
        ·clear hg; subst hb; have hg := hg1; clear hg1
         refine mixQ rfl (by exact hg) (wanted_yes rfl rfl rfl rfl) rfl (fun t72 hg => ?_)
         refine mixQ rfl (by exact hg) (wanted_yes rfl rfl rfl rfl) rfl (fun t73 hg => ?_)
         refine mixQ rfl (by exact hg) (wanted_yes rfl rfl rfl rfl) rfl (fun t75 hg => ?_)
         refine mixQ rfl (by exact hg) (wanted_yes rfl rfl rfl rfl) rfl (fun t76 hg => ?_)
         refine mixX (ex_call rfl) (by exact hg) hw (wanted_yes rfl rfl rfl rfl) rfl (fun t74 h_37 wh_37 hw hs1 hg => ?_)
         have hs := hs.trans hs1
         refine mixEnd ?_
         exact at_ovr (hj_k_4 t74 t75 t76 h_37 _ hw hs hg) ⟨rfl, rfl, rfl, rfl, trivial⟩
        ·clear hg; subst hb; have hg := hg1; clear hg1
         refine mixSkipR (wanted_noT rfl rfl rfl rfl) rfl ?_
         refine mixSkipR (wanted_noT rfl rfl rfl rfl) rfl ?_
         refine mixSkipR (wanted_noT rfl rfl rfl rfl) rfl ?_
         refine mixSkipR (wanted_noT rfl rfl rfl rfl) rfl ?_
         refine mixSkipX (wanted_noT rfl rfl rfl rfl) rfl ?_
         refine mixEnd ?_
         exact at_ovr (hj_k_4 undef undef undef h_32 _ hw hs hg) ⟨rfl, rfl, rfl, rfl, trivial⟩
       clear hk_3 hK_k_3
       refine cond_split hg (fun hb hg1 => ?_) (fun hb hg1 => ?_)
       ·clear hg; subst hb; have hg := hg1; clear hg1
        refine mixQ rfl (by exact hg) (wanted_yes rfl rfl rfl rfl) rfl (fun t55 hg => ?_)
        refine mixQ rfl (by exact hg) (wanted_yes rfl rfl rfl rfl) rfl (fun t56 hg => ?_)
        refine mixX (ex_call rfl) (by exact hg) hw (wanted_yes rfl rfl rfl rfl) rfl (fun t57 h_38 wh_38 hw hs1 hg => ?_)
        have hs := hs.trans hs1
        refine mixP rfl (by exact hg) (wanted_yes rfl rfl rfl rfl) rfl (fun t58 hg => ?_)
        refine mixM (v := t58) (by first | exact .inl rfl | exact .inr rfl) (wanted_yes rfl rfl rfl rfl) rfl rfl ?_
        obtain ⟨k_6, hk_6, hg⟩ := join_elim hg
        refine mix_join 4 (fun K_k_6 hK_k_6 => ?_)
        have hj_k_6 : ∀ (x63 : Value) (h_39 : Heap) (w' : World), w'.heap = h_39 → SameW w w' → k_6 x63 h_39 → ∀ f, K_k_6 (mk 80 (ovr [(63, x63), (7, (x 6)), (8, (x 7)), (9, (x 8)), (54, (.bool true)), (59, t58)] f)) w' := by
         intro x63 h_39 wj hw hs hg f
         rw [hk_6] at hg
         refine hK_k_6 _ _ ?_
         refine mixP rfl (by exact hg) (wanted_yes rfl rfl rfl rfl) rfl (fun t64 hg => ?_)
         refine mixM (v := t64) (by first | exact .inl rfl | exact .inr rfl) (wanted_yes rfl rfl rfl rfl) rfl rfl ?_
         obtain ⟨k_7, hk_7, hg⟩ := join_elim hg
         refine mix_join 3 (fun K_k_7 hK_k_7 => ?_)
         have hj_k_7 : ∀ (x68 : Value) (h_40 : Heap) (w' : World), w'.heap = h_40 → SameW w w' → k_7 x68 h_40 → ∀ f, K_k_7 (mk 80 (ovr [(68, x68), (7, (x 6)), (8, (x 7)), (54, (.bool true)), (65, t64)] f)) w' := by
          intro x68 h_40 wj hw hs hg f
          rw [hk_7] at hg
          refine hK_k_7 _ _ ?_
          refine mixP rfl (by exact hg) (wanted_yes rfl rfl rfl rfl) rfl (fun t69 hg => ?_)
          refine mixEnd ?_
          exact at_ovr (hj_k_3 t69 h_40 _ hw hs hg) ⟨rfl, rfl, rfl, rfl, trivial⟩
         clear hk_7 hK_k_7
         refine cond_split hg (fun hb hg1 => ?_) (fun hb hg1 => ?_)
         ·clear hg; subst hb; have hg := hg1; clear hg1
          refine mixSkipR (wanted_noF rfl rfl rfl rfl) rfl ?_
          refine mixSkipR (wanted_noF rfl rfl rfl rfl) rfl ?_
          refine mixSkipX (wanted_noF rfl rfl rfl rfl) rfl ?_
          refine mixEnd ?_
          exact at_ovr (hj_k_7 undef h_39 _ hw hs hg) ⟨rfl, rfl, rfl, rfl, rfl, trivial⟩
         ·clear hg; subst hb; have hg := hg1; clear hg1
          refine mixQ rfl (by exact hg) (wanted_yes rfl rfl rfl rfl) rfl (fun t66 hg => ?_)
          refine mixQ rfl (by exact hg) (wanted_yes rfl rfl rfl rfl) rfl (fun t67 hg => ?_)
          refine mixX (ex_call rfl) (by exact hg) hw (wanted_yes rfl rfl rfl rfl) rfl (fun t68 h_41 wh_41 hw hs1 hg => ?_)
          have hs := hs.trans hs1
          refine mixEnd ?_
          exact at_ovr (hj_k_7 t68 h_41 _ hw hs hg) ⟨rfl, rfl, rfl, rfl, rfl, trivial⟩
        clear hk_6 hK_k_6
        refine cond_split hg (fun hb hg1 => ?_) (fun hb hg1 => ?_)
        ·clear hg; subst hb; have hg := hg1; clear hg1
         refine mixSkipR (wanted_noF rfl rfl rfl rfl) rfl ?_
         refine mixSkipR (wanted_noF rfl rfl rfl rfl) rfl ?_
         refine mixSkipX (wanted_noF rfl rfl rfl rfl) rfl ?_
         refine mixSkipR (wanted_noF rfl rfl rfl rfl) rfl ?_
         refine mixEnd ?_
         exact at_ovr (hj_k_6 undef h_38 _ hw hs hg) ⟨rfl, rfl, rfl, rfl, rfl, rfl, trivial⟩
        ·clear hg; subst hb; have hg := hg1; clear hg1
         refine mixQ rfl (by exact hg) (wanted_yes rfl rfl rfl rfl) rfl (fun t60 hg => ?_)
         refine mixQ rfl (by exact hg) (wanted_yes rfl rfl rfl rfl) rfl (fun t61 hg => ?_)
         refine mixX (ex_call rfl) (by exact hg) hw (wanted_yes rfl rfl rfl rfl) rfl (fun t62 h_42 wh_42 hw hs1 hg => ?_)
         have hs := hs.trans hs1
         refine mixP rfl (by exact hg) (wanted_yes rfl rfl rfl rfl) rfl (fun t63 hg => ?_)
         refine mixEnd ?_
         exact at_ovr (hj_k_6 t63 h_42 _ hw hs hg) ⟨rfl, rfl, rfl, rfl, rfl, rfl, trivial⟩
       ·clear hg; subst hb; have hg := hg1; clear hg1
        refine mixSkipR (wanted_noT rfl rfl rfl rfl) rfl ?_
        refine mixSkipR (wanted_noT rfl rfl rfl rfl) rfl ?_
        refine mixSkipX (wanted_noT rfl rfl rfl rfl) rfl ?_
        refine mixSkipR (wanted_noT rfl rfl rfl rfl) rfl ?_
        refine mixSkipR (wanted_noT rfl rfl rfl rfl) rfl ?_
        refine mixSkipR (wanted_undef rfl rfl rfl rfl) rfl ?_
        refine mixSkipR (wanted_undef rfl rfl rfl rfl) rfl ?_
        refine mixSkipX (wanted_undef rfl rfl rfl rfl) rfl ?_
        refine mixSkipR (wanted_undef rfl rfl rfl rfl) rfl ?_
        refine mixSkipR (wanted_noT rfl rfl rfl rfl) rfl ?_
        refine mixSkipR (wanted_noT rfl rfl rfl rfl) rfl ?_
        refine mixSkipR (wanted_undef rfl rfl rfl rfl) rfl ?_
        refine mixSkipR (wanted_undef rfl rfl rfl rfl) rfl ?_
        refine mixSkipX (wanted_undef rfl rfl rfl rfl) rfl ?_
        refine mixSkipR (wanted_noT rfl rfl rfl rfl) rfl ?_
        refine mixEnd ?_
        exact at_ovr (hj_k_3 undef h_31 _ hw hs hg) ⟨rfl, rfl, rfl, rfl, trivial⟩
      clear hk_2 hK_k_2
      refine cond_split hg (fun hb hg1 => ?_) (fun hb hg1 => ?_)
      ·clear hg; subst hb; have hg := hg1; clear hg1
       refine mixSkipR (wanted_noF rfl rfl rfl rfl) rfl ?_
       refine mixSkipR (wanted_noF rfl rfl rfl rfl) rfl ?_
       refine mixSkipX (wanted_noF rfl rfl rfl rfl) rfl ?_
       refine mixEnd ?_
       exact at_ovr (hj_k_2 undef h_30 _ hw hs hg) ⟨rfl, rfl, rfl, rfl, rfl, trivial⟩
      ·clear hg; subst hb; have hg := hg1; clear hg1
       refine mixQ rfl (by exact hg) (wanted_yes rfl rfl rfl rfl) rfl (fun t50 hg => ?_)
       refine mixQ rfl (by exact hg) (wanted_yes rfl rfl rfl rfl) rfl (fun t51 hg => ?_)
       refine mixX (ex_call rfl) (by exact hg) hw (wanted_yes rfl rfl rfl rfl) rfl (fun t52 h_43 wh_43 hw hs1 hg => ?_)
       have hs := hs.trans hs1
       refine mixEnd ?_
       exact at_ovr (hj_k_2 t52 h_43 _ hw hs hg) ⟨rfl, rfl, rfl, rfl, rfl, trivial⟩
     clear hk_1 hK_k_1
     refine cond_split hg (fun hb hg1 => ?_) (fun hb hg1 => ?_)
     ·clear hg; subst hb; have hg := hg1; clear hg1
      refine mixSkipR (wanted_noF rfl rfl rfl rfl) rfl ?_
      refine mixSkipR (wanted_noF rfl rfl rfl rfl) rfl ?_
      refine mixSkipX (wanted_noF rfl rfl rfl rfl) rfl ?_
      refine mixSkipR (wanted_noF rfl rfl rfl rfl) rfl ?_
      refine mixEnd ?_
      exact at_ovr (hj_k_1 undef h_29 _ hw hs hg) ⟨rfl, rfl, rfl, rfl, rfl, trivial⟩
     ·clear hg; subst hb; have hg := hg1; clear hg1
      refine mixQ rfl (by exact hg) (wanted_yes rfl rfl rfl rfl) rfl (fun t44 hg => ?_)
      refine mixQ rfl (by exact hg) (wanted_yes rfl rfl rfl rfl) rfl (fun t45 hg => ?_)
      refine mixX (ex_call rfl) (by exact hg) hw (wanted_yes rfl rfl rfl rfl) rfl (fun t46 h_44 wh_44 hw hs1 hg => ?_)
      have hs := hs.trans hs1
      refine mixP rfl (by exact hg) (wanted_yes rfl rfl rfl rfl) rfl (fun t47 hg => ?_)
      refine mixEnd ?_
      exact at_ovr (hj_k_1 t47 h_44 _ hw hs hg) ⟨rfl, rfl, rfl, rfl, rfl, trivial⟩
   clear hk hK_k
   refine cond_split hg (fun hb hg1 => ?_) (fun hb hg1 => ?_)
   ·clear hg; subst hb; have hg := hg1; clear hg1
    refine quietSkip (wanted_noF rfl rfl rfl rfl) rfl ?_
    refine quietSkip (wanted_noF rfl rfl rfl rfl) rfl ?_
    refine quietSkip (wanted_noF rfl rfl rfl rfl) rfl ?_
    refine quietSkip (wanted_noF rfl rfl rfl rfl) rfl ?_
    refine quietEnd ?_
    exact at_ovr1 (hj_k undef hg) ⟨rfl, rfl, rfl, rfl, rfl, trivial⟩
   ·clear hg; subst hb; have hg := hg1; clear hg1
    refine quietQ rfl (by exact hg) (wanted_yes rfl rfl rfl rfl) rfl (fun t34 hg => ?_)
    refine quietQ rfl (by exact hg) (wanted_yes rfl rfl rfl rfl) rfl (fun t35 hg => ?_)
    refine quietC (ex_call rfl) (by exact hg) (wanted_yes rfl rfl rfl rfl) rfl (fun t36 hg => ?_)
    refine quietP rfl (by exact hg) (wanted_yes rfl rfl rfl rfl) rfl (fun t37 hg => ?_)
    refine quietEnd ?_
    exact at_ovr1 (hj_k t37 hg) ⟨rfl, rfl, rfl, rfl, rfl, trivial⟩

set_option maxRecDepth 20000 in
set_option maxHeartbeats 4000000 in
theorem w_augurlaw19_DigestOrder {F : Vw} {h : Heap} {M : List HP} {a0 : T_augurlaw19_Raw} {v : Value} {v_1 : Value} {a1 : T_augurlaw19_Raw} {v_2 : Value} {v_3 : Value} {a2 : T_augurlaw19_Raw} {v_4 : Value} {v_5 : Value} {R : Bool → Prop} (s : Sf F h (M)) (r : RL (eI .u8) F v a0.Alarms) (r_1 : RL e_augurlaw19_Cell F v_1 a0.Mod) (r_2 : RL (eI .u8) F v_2 a1.Alarms) (r_3 : RL e_augurlaw19_Cell F v_3 a1.Mod) (r_4 : RL (eI .u8) F v_4 a2.Alarms) (r_5 : RL e_augurlaw19_Cell F v_5 a2.Mod) (hp : p_augurlaw19_DigestOrder a0 a1 a2 R) :
  HC Try.prog 3 #[(.agg #[v, (.bool a0.Ends), (.int .i64 a0.Lo), (.int .i64 a0.Hi), v_1]), (.agg #[v_2, (.bool a1.Ends), (.int .i64 a1.Lo), (.int .i64 a1.Hi), v_3]), (.agg #[v_4, (.bool a2.Ends), (.int .i64 a2.Lo), (.int .i64 a2.Hi), v_5])] h fun u h' => ∃ (F' : Vw) (r_0 : Bool), Le F F' ∧ Sf F' h' (M) ∧ (.bool r_0) = u ∧ R r_0 := by
 refine sh_augurlaw19_DigestOrder ?_
 unfold g_augurlaw19_DigestOrder
 unfold p_augurlaw19_DigestOrder at hp
 have e0 := Le.refl F
 refine tBx s (vs := [v, (.bool a0.Ends), (.int .i64 a0.Lo), (.int .i64 a0.Hi), v_1]) (by rfl) fun p h_1 s => ?_
 refine tBx s (vs := [v_2, (.bool a1.Ends), (.int .i64 a1.Lo), (.int .i64 a1.Hi), v_3]) (by rfl) fun p_1 h_2 s => ?_
 refine tBx s (vs := [v_4, (.bool a2.Ends), (.int .i64 a2.Lo), (.int .i64 a2.Hi), v_5]) (by rfl) fun p_2 h_3 s => ?_
 refine oCall_func (HC.mono (w_augurlaw19_known  s  hp) ?_)
 rintro u h_4 ⟨F_1, r_6, g, s, rfl, hp⟩
 replace r_4 := r_4.le g
 replace r_5 := r_5.le g
 replace r_2 := r_2.le g
 replace r_3 := r_3.le g
 replace r := r.le g
 replace r_1 := r_1.le g
 replace e0 := Le.trans e0 g
 refine oUn_not.2 ?_
 by_cases hc : (!r_6) = true
 ·refine (cond_tt hc).2 ?_
  replace hp := (Pl.ite_pos hc).1 hp
  replace s := Sf.dropAt 0 rfl s
  replace s := Sf.dropAt 0 rfl s
  replace s := Sf.dropAt 0 rfl s
  exact ⟨F_1, false, e0, s, rfl, hp⟩
 ·refine (cond_ff hc).2 ?_
  replace hp := (Pl.ite_neg hc).1 hp
  refine tLdA (a := p) (cs := [v, (.bool a0.Ends), (.int .i64 a0.Lo), (.int .i64 a0.Hi), v_1]) (ds := [v, (.bool a0.Ends), (.int .i64 a0.Lo), (.int .i64 a0.Hi), v_1]) (j := 0) (padd_zero _).symm (Sf.ceE (Cx.new_at p) 2 rfl s) (Nat.le_of_ble_eq_true rfl) rfl ?_
  refine tLdA (a := p_1) (cs := [v_2, (.bool a1.Ends), (.int .i64 a1.Lo), (.int .i64 a1.Hi), v_3]) (ds := [v_2, (.bool a1.Ends), (.int .i64 a1.Lo), (.int .i64 a1.Hi), v_3]) (j := 0) (padd_zero _).symm (Sf.ceE (Cx.new_at p_1) 1 rfl s) (Nat.le_of_ble_eq_true rfl) rfl ?_
  refine tLdA (a := p_2) (cs := [v_4, (.bool a2.Ends), (.int .i64 a2.Lo), (.int .i64 a2.Hi), v_5]) (ds := [v_4, (.bool a2.Ends), (.int .i64 a2.Lo), (.int .i64 a2.Hi), v_5]) (j := 0) (padd_zero _).symm (Sf.ceE (Cx.new_at p_2) 0 rfl s) (Nat.le_of_ble_eq_true rfl) rfl ?_
  refine tBuildN s (e := e_augurlaw19_Raw) (l := [a0, a1, a2]) [(.agg #[v, (.bool a0.Ends), (.int .i64 a0.Lo), (.int .i64 a0.Hi), v_1]), (.agg #[v_2, (.bool a1.Ends), (.int .i64 a1.Lo), (.int .i64 a1.Hi), v_3]), (.agg #[v_4, (.bool a2.Ends), (.int .i64 a2.Lo), (.int .i64 a2.Hi), v_5])] rfl ⟨⟨_, _, rfl, r, r_1⟩, ⟨⟨_, _, rfl, r_2, r_3⟩, ⟨⟨_, _, rfl, r_4, r_5⟩, trivial⟩⟩⟩ rfl rfl rfl (Nat.le_of_ble_eq_true rfl) fun v_6 h_5 cs hc_1 s => ?_
  obtain ⟨F_2, g_1, s, r_7⟩ := Sf.freezeRL 0 rfl s rfl hc_1
  replace r_4 := r_4.le g_1
  replace r_5 := r_5.le g_1
  replace r_2 := r_2.le g_1
  replace r_3 := r_3.le g_1
  replace r := r.le g_1
  replace r_1 := r_1.le g_1
  replace e0 := Le.trans e0 g_1
  refine oCall_func (HC.mono (w_augurlaw19_light (a0 := [a0, a1, a2]) s r_7 hp) ?_)
  rintro u_1 h_6 ⟨F_3, r_8, g_2, s, rfl, hp⟩
  replace r_7 := r_7.le g_2
  replace r_4 := r_4.le g_2
  replace r_5 := r_5.le g_2
  replace r_2 := r_2.le g_2
  replace r_3 := r_3.le g_2
  replace r := r.le g_2
  replace r_1 := r_1.le g_2
  replace e0 := Le.trans e0 g_2
  refine oUn_not.2 ?_
  by_cases hc_2 : (!r_8) = true
  ·refine (cond_tt hc_2).2 ?_
   replace hp := (Pl.ite_pos hc_2).1 hp
   replace s := Sf.dropAt 0 rfl s
   replace s := Sf.dropAt 0 rfl s
   replace s := Sf.dropAt 0 rfl s
   exact ⟨F_3, true, e0, s, rfl, hp⟩
  ·refine (cond_ff hc_2).2 ?_
   replace hp := (Pl.ite_neg hc_2).1 hp
   obtain ⟨R_1, R_2, R_3, hc_3, hc_4, hc_5, hp⟩ := hp
   have hmono : MonoF [(0, fun _ v9 => (.agg #[v, (.bool a0.Ends), (.int .i64 a0.Lo), (.int .i64 a0.Hi), v_1]) = v9), (1, fun F9 v9 => ∃ (r_9 : T_api_Summary) (v_7 : Value) (v_8 : Value), (.agg #[v_7, (.bool r_9.Ends), (.bool r_9.Ret.Some), (.int .i64 r_9.Ret.Lo), (.int .i64 r_9.Ret.Hi), v_8]) = v9 ∧ RL e_api_Alarm F9 v_7 r_9.Alarms ∧ RL e_api_Named F9 v_8 r_9.Mod ∧ R_1 r_9), (2, fun _ v9 => (.agg #[v_2, (.bool a1.Ends), (.int .i64 a1.Lo), (.int .i64 a1.Hi), v_3]) = v9), (3, fun F9 v9 => ∃ (r_12 : T_api_Summary) (v_9 : Value) (v_10 : Value), (.agg #[v_9, (.bool r_12.Ends), (.bool r_12.Ret.Some), (.int .i64 r_12.Ret.Lo), (.int .i64 r_12.Ret.Hi), v_10]) = v9 ∧ RL e_api_Alarm F9 v_9 r_12.Alarms ∧ RL e_api_Named F9 v_10 r_12.Mod ∧ R_2 r_12), (4, fun _ v9 => (.agg #[v_4, (.bool a2.Ends), (.int .i64 a2.Lo), (.int .i64 a2.Hi), v_5]) = v9), (5, fun F9 v9 => ∃ (r_15 : T_api_Summary) (v_11 : Value) (v_12 : Value), (.agg #[v_11, (.bool r_15.Ends), (.bool r_15.Ret.Some), (.int .i64 r_15.Ret.Lo), (.int .i64 r_15.Ret.Hi), v_12]) = v9 ∧ RL e_api_Alarm F9 v_11 r_15.Alarms ∧ RL e_api_Named F9 v_12 r_15.Mod ∧ R_3 r_15)] := by
    intro p hp9 F8 G8 v g8 h8
    simp only [List.mem_cons, List.not_mem_nil, or_false] at hp9
    rcases hp9 with rfl | rfl | rfl | rfl | rfl | rfl
    ·exact h8
    ·obtain ⟨r_9, v_7, v_8, h9, r_10, r_11, h10⟩ := h8
     exact ⟨r_9, v_7, v_8, h9, RL.le r_10 g8, RL.le r_11 g8, h10⟩
    ·exact h8
    ·obtain ⟨r_12, v_9, v_10, h9, r_13, r_14, h10⟩ := h8
     exact ⟨r_12, v_9, v_10, h9, RL.le r_13 g8, RL.le r_14 g8, h10⟩
    ·exact h8
    ·obtain ⟨r_15, v_11, v_12, h9, r_16, r_17, h10⟩ := h8
     exact ⟨r_15, v_11, v_12, h9, RL.le r_16 g8, RL.le r_17 g8, h10⟩
   refine ⟨comA F_3 [(0, fun _ v9 => (.agg #[v, (.bool a0.Ends), (.int .i64 a0.Lo), (.int .i64 a0.Hi), v_1]) = v9), (1, fun F9 v9 => ∃ (r_9 : T_api_Summary) (v_7 : Value) (v_8 : Value), (.agg #[v_7, (.bool r_9.Ends), (.bool r_9.Ret.Some), (.int .i64 r_9.Ret.Lo), (.int .i64 r_9.Ret.Hi), v_8]) = v9 ∧ RL e_api_Alarm F9 v_7 r_9.Alarms ∧ RL e_api_Named F9 v_8 r_9.Mod ∧ R_1 r_9), (2, fun _ v9 => (.agg #[v_2, (.bool a1.Ends), (.int .i64 a1.Lo), (.int .i64 a1.Hi), v_3]) = v9), (3, fun F9 v9 => ∃ (r_12 : T_api_Summary) (v_9 : Value) (v_10 : Value), (.agg #[v_9, (.bool r_12.Ends), (.bool r_12.Ret.Some), (.int .i64 r_12.Ret.Lo), (.int .i64 r_12.Ret.Hi), v_10]) = v9 ∧ RL e_api_Alarm F9 v_9 r_12.Alarms ∧ RL e_api_Named F9 v_10 r_12.Mod ∧ R_2 r_12), (4, fun _ v9 => (.agg #[v_4, (.bool a2.Ends), (.int .i64 a2.Lo), (.int .i64 a2.Hi), v_5]) = v9), (5, fun F9 v9 => ∃ (r_15 : T_api_Summary) (v_11 : Value) (v_12 : Value), (.agg #[v_11, (.bool r_15.Ends), (.bool r_15.Ret.Some), (.int .i64 r_15.Ret.Lo), (.int .i64 r_15.Ret.Hi), v_12]) = v9 ∧ RL e_api_Alarm F9 v_11 r_15.Alarms ∧ RL e_api_Named F9 v_12 r_15.Mod ∧ R_3 r_15)] [(6, AlP [(.slice none 0 0), (.bool false), (.bool false), (.int .i64 0), (.int .i64 0), (.slice none 0 0)]), (7, AlP [(.slice none 0 0), (.bool false), (.bool false), (.int .i64 0), (.int .i64 0), (.slice none 0 0)]), (8, AlP [(.slice none 0 0), (.bool false), (.bool false), (.int .i64 0), (.int .i64 0), (.slice none 0 0)])] (Ce (Cx.new p_2) [v_4, (.bool a2.Ends), (.int .i64 a2.Lo), (.int .i64 a2.Hi), v_5] :: Ce (Cx.new p_1) [v_2, (.bool a1.Ends), (.int .i64 a1.Lo), (.int .i64 a1.Hi), v_3] :: Ce (Cx.new p) [v, (.bool a0.Ends), (.int .i64 a0.Lo), (.int .i64 a0.Hi), v_1] :: M), comA.init s, ?_, ?_, ?_, ?_, ?_, ?_, ?_, ?_, ?_, ?_⟩
   ·intro m h_7 hA hn
    have hF := hA
    obtain ⟨F_4, g_3, hf, s9⟩ := hF
    have s : Sf F_4 h_7 (Ce (Cx.new p_2) [v_4, (.bool a2.Ends), (.int .i64 a2.Lo), (.int .i64 a2.Hi), v_5] :: Ce (Cx.new p_1) [v_2, (.bool a1.Ends), (.int .i64 a1.Lo), (.int .i64 a1.Hi), v_3] :: Ce (Cx.new p) [v, (.bool a0.Ends), (.int .i64 a0.Lo), (.int .i64 a0.Hi), v_1] :: M) := s9.tailOf
    replace r_4 := r_4.le g_3
    replace r_5 := r_5.le g_3
    replace r_2 := r_2.le g_3
    replace r_3 := r_3.le g_3
    replace r := r.le g_3
    replace r_1 := r_1.le g_3
    refine tLdA (a := p) (cs := [v, (.bool a0.Ends), (.int .i64 a0.Lo), (.int .i64 a0.Hi), v_1]) (ds := [v, (.bool a0.Ends), (.int .i64 a0.Lo), (.int .i64 a0.Hi), v_1]) (j := 0) (padd_zero _).symm (Sf.ceE (Cx.new_at p) 2 rfl s) (Nat.le_of_ble_eq_true rfl) rfl ?_
    exact comA.op (T := fun K => K (.agg #[v, (.bool a0.Ends), (.int .i64 a0.Lo), (.int .i64 a0.Hi), v_1]) h_7) hA hmono (by decide) (fun hk hT => hk _ _ hT) (fun F7 M7 g7 hf7 s7 => ⟨F7, Le.refl F7, s7, fun p hp9 hi9 => by simp only [List.mem_cons, List.not_mem_nil, or_false] at hp9; rcases hp9 with rfl | rfl | rfl | rfl | rfl | rfl <;> first | exact rfl | (exact absurd hi9 (Nat.ne_of_beq_eq_false rfl))⟩)
   ·intro m_1 h_8 w hA_1 hn_1 hj
    refine comA.op (T := fun K => oCall Try.prog (.func (.func 6) #[] #[]) #[w] h_8 K) hA_1 hmono (by decide) (fun hk hT => Sx.mono hk hT) (fun F_5 M_2 g_4 hf_1 s => ?_)
    obtain rfl := hf_1 ((0, fun _ v9 => (.agg #[v, (.bool a0.Ends), (.int .i64 a0.Lo), (.int .i64 a0.Hi), v_1]) = v9)) (List.mem_of_getElem? (i := 0) rfl) _ hj
    have r_4 := r_4.le g_4
    have r_5 := r_5.le g_4
    have r_2 := r_2.le g_4
    have r_3 := r_3.le g_4
    have r := r.le g_4
    have r_1 := r_1.le g_4
    refine oCall_func (HC.mono (w_augurlaw19_made (a0 := a0) s r r_1 hc_3) ?_)
    rintro u9 h9 ⟨F9, r_9, v_7, v_8, g9, s9, hu9, r_10, r_11, hr9⟩
    refine ⟨F9, g9, s9, fun p hp9 hi9 => ?_⟩
    simp only [List.mem_cons, List.not_mem_nil, or_false] at hp9
    rcases hp9 with rfl | rfl | rfl | rfl | rfl | rfl <;> first | exact ⟨r_9, v_7, v_8, hu9, r_10, r_11, hr9⟩ | (exact absurd hi9 (Nat.ne_of_beq_eq_false rfl))
   ·intro m_2 h_9 hA_2 hn_2
    have hF_1 := hA_2
    obtain ⟨F_6, g_5, hf_2, s9⟩ := hF_1
    have s : Sf F_6 h_9 (Ce (Cx.new p_2) [v_4, (.bool a2.Ends), (.int .i64 a2.Lo), (.int .i64 a2.Hi), v_5] :: Ce (Cx.new p_1) [v_2, (.bool a1.Ends), (.int .i64 a1.Lo), (.int .i64 a1.Hi), v_3] :: Ce (Cx.new p) [v, (.bool a0.Ends), (.int .i64 a0.Lo), (.int .i64 a0.Hi), v_1] :: M) := s9.tailOf
    replace r_4 := r_4.le g_5
    replace r_5 := r_5.le g_5
    replace r_2 := r_2.le g_5
    replace r_3 := r_3.le g_5
    replace r := r.le g_5
    replace r_1 := r_1.le g_5
    refine tLdA (a := p_1) (cs := [v_2, (.bool a1.Ends), (.int .i64 a1.Lo), (.int .i64 a1.Hi), v_3]) (ds := [v_2, (.bool a1.Ends), (.int .i64 a1.Lo), (.int .i64 a1.Hi), v_3]) (j := 0) (padd_zero _).symm (Sf.ceE (Cx.new_at p_1) 1 rfl s) (Nat.le_of_ble_eq_true rfl) rfl ?_
    exact comA.op (T := fun K => K (.agg #[v_2, (.bool a1.Ends), (.int .i64 a1.Lo), (.int .i64 a1.Hi), v_3]) h_9) hA_2 hmono (by decide) (fun hk hT => hk _ _ hT) (fun F7 M7 g7 hf7 s7 => ⟨F7, Le.refl F7, s7, fun p hp9 hi9 => by simp only [List.mem_cons, List.not_mem_nil, or_false] at hp9; rcases hp9 with rfl | rfl | rfl | rfl | rfl | rfl <;> first | exact rfl | (exact absurd hi9 (Nat.ne_of_beq_eq_false rfl))⟩)
   ·intro m_3 h_10 w_1 hA_3 hn_3 hj_1
    refine comA.op (T := fun K => oCall Try.prog (.func (.func 6) #[] #[]) #[w_1] h_10 K) hA_3 hmono (by decide) (fun hk hT => Sx.mono hk hT) (fun F_7 M_4 g_6 hf_3 s => ?_)
    obtain rfl := hf_3 ((2, fun _ v9 => (.agg #[v_2, (.bool a1.Ends), (.int .i64 a1.Lo), (.int .i64 a1.Hi), v_3]) = v9)) (List.mem_of_getElem? (i := 2) rfl) _ hj_1
    have r_4 := r_4.le g_6
    have r_5 := r_5.le g_6
    have r_2 := r_2.le g_6
    have r_3 := r_3.le g_6
    have r := r.le g_6
    have r_1 := r_1.le g_6
    refine oCall_func (HC.mono (w_augurlaw19_made (a0 := a1) s r_2 r_3 hc_4) ?_)
    rintro u9 h9 ⟨F9, r_12, v_9, v_10, g9, s9, hu9, r_13, r_14, hr9⟩
    refine ⟨F9, g9, s9, fun p hp9 hi9 => ?_⟩
    simp only [List.mem_cons, List.not_mem_nil, or_false] at hp9
    rcases hp9 with rfl | rfl | rfl | rfl | rfl | rfl <;> first | exact ⟨r_12, v_9, v_10, hu9, r_13, r_14, hr9⟩ | (exact absurd hi9 (Nat.ne_of_beq_eq_false rfl))
   ·intro m_4 h_11 hA_4 hn_4
    have hF_2 := hA_4
    obtain ⟨F_8, g_7, hf_4, s9⟩ := hF_2
    have s : Sf F_8 h_11 (Ce (Cx.new p_2) [v_4, (.bool a2.Ends), (.int .i64 a2.Lo), (.int .i64 a2.Hi), v_5] :: Ce (Cx.new p_1) [v_2, (.bool a1.Ends), (.int .i64 a1.Lo), (.int .i64 a1.Hi), v_3] :: Ce (Cx.new p) [v, (.bool a0.Ends), (.int .i64 a0.Lo), (.int .i64 a0.Hi), v_1] :: M) := s9.tailOf
    replace r_4 := r_4.le g_7
    replace r_5 := r_5.le g_7
    replace r_2 := r_2.le g_7
    replace r_3 := r_3.le g_7
    replace r := r.le g_7
    replace r_1 := r_1.le g_7
    refine tLdA (a := p_2) (cs := [v_4, (.bool a2.Ends), (.int .i64 a2.Lo), (.int .i64 a2.Hi), v_5]) (ds := [v_4, (.bool a2.Ends), (.int .i64 a2.Lo), (.int .i64 a2.Hi), v_5]) (j := 0) (padd_zero _).symm (Sf.ceE (Cx.new_at p_2) 0 rfl s) (Nat.le_of_ble_eq_true rfl) rfl ?_
    exact comA.op (T := fun K => K (.agg #[v_4, (.bool a2.Ends), (.int .i64 a2.Lo), (.int .i64 a2.Hi), v_5]) h_11) hA_4 hmono (by decide) (fun hk hT => hk _ _ hT) (fun F7 M7 g7 hf7 s7 => ⟨F7, Le.refl F7, s7, fun p hp9 hi9 => by simp only [List.mem_cons, List.not_mem_nil, or_false] at hp9; rcases hp9 with rfl | rfl | rfl | rfl | rfl | rfl <;> first | exact rfl | (exact absurd hi9 (Nat.ne_of_beq_eq_false rfl))⟩)
   ·intro m_5 h_12 w_2 hA_5 hn_5 hj_2
    refine comA.op (T := fun K => oCall Try.prog (.func (.func 6) #[] #[]) #[w_2] h_12 K) hA_5 hmono (by decide) (fun hk hT => Sx.mono hk hT) (fun F_9 M_6 g_8 hf_5 s => ?_)
    obtain rfl := hf_5 ((4, fun _ v9 => (.agg #[v_4, (.bool a2.Ends), (.int .i64 a2.Lo), (.int .i64 a2.Hi), v_5]) = v9)) (List.mem_of_getElem? (i := 4) rfl) _ hj_2
    have r_4 := r_4.le g_8
    have r_5 := r_5.le g_8
    have r_2 := r_2.le g_8
    have r_3 := r_3.le g_8
    have r := r.le g_8
    have r_1 := r_1.le g_8
    refine oCall_func (HC.mono (w_augurlaw19_made (a0 := a2) s r_4 r_5 hc_5) ?_)
    rintro u9 h9 ⟨F9, r_15, v_11, v_12, g9, s9, hu9, r_16, r_17, hr9⟩
    refine ⟨F9, g9, s9, fun p hp9 hi9 => ?_⟩
    simp only [List.mem_cons, List.not_mem_nil, or_false] at hp9
    rcases hp9 with rfl | rfl | rfl | rfl | rfl | rfl <;> first | exact ⟨r_15, v_11, v_12, hu9, r_16, r_17, hr9⟩ | (exact absurd hi9 (Nat.ne_of_beq_eq_false rfl))
   ·intro m_6 h_13 hA_6 hn_6
    refine comA.new (T := fun K => oAlloc Try.prog 33 h_13 K) hA_6 (by simp only [List.map_cons, List.map_nil]; decide) (k := 0) rfl (by simp only [List.map_cons, List.map_nil]; decide) hn_6 (fun hk hT => Sx.mono hk hT) (fun F9 M9 s9 => tAl s9 (vs := [(.slice none 0 0), (.bool false), (.bool false), (.int .i64 0), (.int .i64 0), (.slice none 0 0)]) (by rfl) fun a9 h9 s9 => Sf.toAlP s9)
   ·intro m_7 h_14 hA_7 hn_7
    refine comA.new (T := fun K => oAlloc Try.prog 33 h_14 K) hA_7 (by simp only [List.map_cons, List.map_nil]; decide) (k := 1) rfl (by simp only [List.map_cons, List.map_nil]; decide) hn_7 (fun hk hT => Sx.mono hk hT) (fun F9 M9 s9 => tAl s9 (vs := [(.slice none 0 0), (.bool false), (.bool false), (.int .i64 0), (.int .i64 0), (.slice none 0 0)]) (by rfl) fun a9 h9 s9 => Sf.toAlP s9)
   ·intro m_8 h_15 hA_8 hn_8
    refine comA.new (T := fun K => oAlloc Try.prog 33 h_15 K) hA_8 (by simp only [List.map_cons, List.map_nil]; decide) (k := 2) rfl (by simp only [List.map_cons, List.map_nil]; decide) hn_8 (fun hk hT => Sx.mono hk hT) (fun F9 M9 s9 => tAl s9 (vs := [(.slice none 0 0), (.bool false), (.bool false), (.int .i64 0), (.int .i64 0), (.slice none 0 0)]) (by rfl) fun a9 h9 s9 => Sf.toAlP s9)
   ·rintro m_9 h_16 xv ⟨F_13, g_12, hf_9, s⟩ hx_1
    obtain ⟨w_3, hww_3⟩ : ∃ w9, xv 0 = w9 := ⟨_, rfl⟩
    have hmw_3 := hx_1 0 (by decide)
    rw [hww_3] at hmw_3
    obtain ⟨w_4, hww_4⟩ : ∃ w9, xv 1 = w9 := ⟨_, rfl⟩
    have hmw_4 := hx_1 1 (by decide)
    simp only [hww_4] at hmw_4 ⊢
    obtain ⟨w_5, hww_5⟩ : ∃ w9, xv 2 = w9 := ⟨_, rfl⟩
    have hmw_5 := hx_1 2 (by decide)
    rw [hww_5] at hmw_5
    obtain ⟨w_6, hww_6⟩ : ∃ w9, xv 3 = w9 := ⟨_, rfl⟩
    have hmw_6 := hx_1 3 (by decide)
    simp only [hww_6] at hmw_6 ⊢
    obtain ⟨w_7, hww_7⟩ : ∃ w9, xv 4 = w9 := ⟨_, rfl⟩
    have hmw_7 := hx_1 4 (by decide)
    rw [hww_7] at hmw_7
    obtain ⟨w_8, hww_8⟩ : ∃ w9, xv 5 = w9 := ⟨_, rfl⟩
    have hmw_8 := hx_1 5 (by decide)
    simp only [hww_8] at hmw_8 ⊢
    obtain ⟨w_9, hww_9⟩ : ∃ w9, xv 6 = w9 := ⟨_, rfl⟩
    have hmw_9 := hx_1 6 (by decide)
    simp only [hww_9] at hmw_9 ⊢
    obtain ⟨w_10, hww_10⟩ : ∃ w9, xv 7 = w9 := ⟨_, rfl⟩
    have hmw_10 := hx_1 7 (by decide)
    simp only [hww_10] at hmw_10 ⊢
    obtain ⟨w_11, hww_11⟩ : ∃ w9, xv 8 = w9 := ⟨_, rfl⟩
    have hmw_11 := hx_1 8 (by decide)
    simp only [hww_11] at hmw_11 ⊢
    obtain rfl := hf_9 ((0, fun _ v9 => (.agg #[v, (.bool a0.Ends), (.int .i64 a0.Lo), (.int .i64 a0.Hi), v_1]) = v9)) (List.mem_of_getElem? (i := 0) rfl) _ hmw_3
    obtain ⟨r_9, v_7, v_8, rfl, r_10, r_11, hR_1_⟩ := hf_9 ((1, fun F9 v9 => ∃ (r_9 : T_api_Summary) (v_7 : Value) (v_8 : Value), (.agg #[v_7, (.bool r_9.Ends), (.bool r_9.Ret.Some), (.int .i64 r_9.Ret.Lo), (.int .i64 r_9.Ret.Hi), v_8]) = v9 ∧ RL e_api_Alarm F9 v_7 r_9.Alarms ∧ RL e_api_Named F9 v_8 r_9.Mod ∧ R_1 r_9)) (List.mem_of_getElem? (i := 1) rfl) _ hmw_4
    obtain rfl := hf_9 ((2, fun _ v9 => (.agg #[v_2, (.bool a1.Ends), (.int .i64 a1.Lo), (.int .i64 a1.Hi), v_3]) = v9)) (List.mem_of_getElem? (i := 2) rfl) _ hmw_5
    obtain ⟨r_12, v_9, v_10, rfl, r_13, r_14, hR_2_⟩ := hf_9 ((3, fun F9 v9 => ∃ (r_12 : T_api_Summary) (v_9 : Value) (v_10 : Value), (.agg #[v_9, (.bool r_12.Ends), (.bool r_12.Ret.Some), (.int .i64 r_12.Ret.Lo), (.int .i64 r_12.Ret.Hi), v_10]) = v9 ∧ RL e_api_Alarm F9 v_9 r_12.Alarms ∧ RL e_api_Named F9 v_10 r_12.Mod ∧ R_2 r_12)) (List.mem_of_getElem? (i := 3) rfl) _ hmw_6
    obtain rfl := hf_9 ((4, fun _ v9 => (.agg #[v_4, (.bool a2.Ends), (.int .i64 a2.Lo), (.int .i64 a2.Hi), v_5]) = v9)) (List.mem_of_getElem? (i := 4) rfl) _ hmw_7
    obtain ⟨r_15, v_11, v_12, rfl, r_16, r_17, hR_3_⟩ := hf_9 ((5, fun F9 v9 => ∃ (r_15 : T_api_Summary) (v_11 : Value) (v_12 : Value), (.agg #[v_11, (.bool r_15.Ends), (.bool r_15.Ret.Some), (.int .i64 r_15.Ret.Lo), (.int .i64 r_15.Ret.Hi), v_12]) = v9 ∧ RL e_api_Alarm F9 v_11 r_15.Alarms ∧ RL e_api_Named F9 v_12 r_15.Mod ∧ R_3 r_15)) (List.mem_of_getElem? (i := 5) rfl) _ hmw_8
    simp only [List.map_cons, List.map_nil, List.cons_append, List.nil_append, HPo, hmw_9, hmw_10, hmw_11] at s
    obtain ⟨p_3, rfl, s⟩ := Sf.alp 0 rfl s
    obtain ⟨p_4, rfl, s⟩ := Sf.alp 1 rfl s
    obtain ⟨p_5, rfl, s⟩ := Sf.alp 2 rfl s
    replace hp := hp _ hR_1_ _ hR_2_ _ hR_3_
    replace r_4 := r_4.le g_12
    replace r_5 := r_5.le g_12
    replace r_2 := r_2.le g_12
    replace r_3 := r_3.le g_12
    replace r := r.le g_12
    replace r_1 := r_1.le g_12
    replace e0 := Le.trans e0 g_12
    refine tSt (cs := [(.slice none 0 0), (.bool false), (.bool false), (.int .i64 0), (.int .i64 0), (.slice none 0 0)]) (vs := [v_7, (.bool r_9.Ends), (.bool r_9.Ret.Some), (.int .i64 r_9.Ret.Lo), (.int .i64 r_9.Ret.Hi), v_8]) (cs' := [v_7, (.bool r_9.Ends), (.bool r_9.Ret.Some), (.int .i64 r_9.Ret.Lo), (.int .i64 r_9.Ret.Hi), v_8]) (j := 0) 0 rfl s (Cx.new_at p_3) (padd_zero _).symm (by rfl) rfl (Nat.le_of_ble_eq_true rfl) (ones_cons r_10.1.one (ones_cons rfl (ones_cons rfl (ones_cons rfl (ones_cons rfl (ones_cons r_11.1.one ones_nil)))))) rfl fun h_17 s => ?_
    refine tSt (cs := [(.slice none 0 0), (.bool false), (.bool false), (.int .i64 0), (.int .i64 0), (.slice none 0 0)]) (vs := [v_9, (.bool r_12.Ends), (.bool r_12.Ret.Some), (.int .i64 r_12.Ret.Lo), (.int .i64 r_12.Ret.Hi), v_10]) (cs' := [v_9, (.bool r_12.Ends), (.bool r_12.Ret.Some), (.int .i64 r_12.Ret.Lo), (.int .i64 r_12.Ret.Hi), v_10]) (j := 0) 1 rfl s (Cx.new_at p_4) (padd_zero _).symm (by rfl) rfl (Nat.le_of_ble_eq_true rfl) (ones_cons r_13.1.one (ones_cons rfl (ones_cons rfl (ones_cons rfl (ones_cons rfl (ones_cons r_14.1.one ones_nil)))))) rfl fun h_18 s => ?_
    refine tSt (cs := [(.slice none 0 0), (.bool false), (.bool false), (.int .i64 0), (.int .i64 0), (.slice none 0 0)]) (vs := [v_11, (.bool r_15.Ends), (.bool r_15.Ret.Some), (.int .i64 r_15.Ret.Lo), (.int .i64 r_15.Ret.Hi), v_12]) (cs' := [v_11, (.bool r_15.Ends), (.bool r_15.Ret.Some), (.int .i64 r_15.Ret.Lo), (.int .i64 r_15.Ret.Hi), v_12]) (j := 0) 2 rfl s (Cx.new_at p_5) (padd_zero _).symm (by rfl) rfl (Nat.le_of_ble_eq_true rfl) (ones_cons r_16.1.one (ones_cons rfl (ones_cons rfl (ones_cons rfl (ones_cons rfl (ones_cons r_17.1.one ones_nil)))))) rfl fun h_19 s => ?_
    refine ⟨fun h' => Sf F_13 h' (Ce (Cx.new p_3) [v_7, (.bool r_9.Ends), (.bool r_9.Ret.Some), (.int .i64 r_9.Ret.Lo), (.int .i64 r_9.Ret.Hi), v_8] :: Ce (Cx.new p_4) [v_9, (.bool r_12.Ends), (.bool r_12.Ret.Some), (.int .i64 r_12.Ret.Lo), (.int .i64 r_12.Ret.Hi), v_10] :: Ce (Cx.new p_5) [v_11, (.bool r_15.Ends), (.bool r_15.Ret.Some), (.int .i64 r_15.Ret.Lo), (.int .i64 r_15.Ret.Hi), v_12] :: Ce (Cx.new p_2) [v_4, (.bool a2.Ends), (.int .i64 a2.Lo), (.int .i64 a2.Hi), v_5] :: Ce (Cx.new p_1) [v_2, (.bool a1.Ends), (.int .i64 a1.Lo), (.int .i64 a1.Hi), v_3] :: Ce (Cx.new p) [v, (.bool a0.Ends), (.int .i64 a0.Lo), (.int .i64 a0.Hi), v_1] :: M), s, ?_⟩
    have ed := Le.refl F_13
    refine tLdA (a := p_3) (cs := [v_7, (.bool r_9.Ends), (.bool r_9.Ret.Some), (.int .i64 r_9.Ret.Lo), (.int .i64 r_9.Ret.Hi), v_8]) (ds := [v_7, (.bool r_9.Ends), (.bool r_9.Ret.Some), (.int .i64 r_9.Ret.Lo), (.int .i64 r_9.Ret.Hi), v_8]) (j := 0) (padd_zero _).symm (Sf.ceD (Cx.new_at p_3) 0 rfl) (Nat.le_of_ble_eq_true rfl) rfl ?_
    obtain ⟨r_18, hr, hp⟩ := hp
    refine oCallQ_gd rfl (v := (str r_18)) (fun h' hd => HC.mono (w_digest_Bytes (a0 := r_9) hd r_10 r_11 hr) (fun u h2 hu => by obtain ⟨F2, r2, g2, hs2, hu2, hr2⟩ := hu; subst hr2; exact ⟨hu2.symm, Sf.le hs2 g2⟩)) ?_
    refine tLdA (a := p_4) (cs := [v_9, (.bool r_12.Ends), (.bool r_12.Ret.Some), (.int .i64 r_12.Ret.Lo), (.int .i64 r_12.Ret.Hi), v_10]) (ds := [v_9, (.bool r_12.Ends), (.bool r_12.Ret.Some), (.int .i64 r_12.Ret.Lo), (.int .i64 r_12.Ret.Hi), v_10]) (j := 0) (padd_zero _).symm (Sf.ceD (Cx.new_at p_4) 1 rfl) (Nat.le_of_ble_eq_true rfl) rfl ?_
    obtain ⟨r_19, hr_1, hp⟩ := hp
    refine oCallQ_gd rfl (v := (str r_19)) (fun h' hd => HC.mono (w_digest_Bytes (a0 := r_12) hd r_13 r_14 hr_1) (fun u h2 hu => by obtain ⟨F2, r2, g2, hs2, hu2, hr2⟩ := hu; subst hr2; exact ⟨hu2.symm, Sf.le hs2 g2⟩)) ?_
    refine (oBin_str_eql (a := r_18) (b := r_19)).2 ?_
    refine tLdA (a := p_3) (cs := [v_7, (.bool r_9.Ends), (.bool r_9.Ret.Some), (.int .i64 r_9.Ret.Lo), (.int .i64 r_9.Ret.Hi), v_8]) (ds := [v_7, (.bool r_9.Ends), (.bool r_9.Ret.Some), (.int .i64 r_9.Ret.Lo), (.int .i64 r_9.Ret.Hi), v_8]) (j := 0) (padd_zero _).symm (Sf.ceD (Cx.new_at p_3) 0 rfl) (Nat.le_of_ble_eq_true rfl) rfl ?_
    refine tLdA (a := p_4) (cs := [v_9, (.bool r_12.Ends), (.bool r_12.Ret.Some), (.int .i64 r_12.Ret.Lo), (.int .i64 r_12.Ret.Hi), v_10]) (ds := [v_9, (.bool r_12.Ends), (.bool r_12.Ret.Some), (.int .i64 r_12.Ret.Lo), (.int .i64 r_12.Ret.Hi), v_10]) (j := 0) (padd_zero _).symm (Sf.ceD (Cx.new_at p_4) 1 rfl) (Nat.le_of_ble_eq_true rfl) rfl ?_
    obtain ⟨r_20, hr_2, hp⟩ := hp
    refine oCallQ_gd rfl (v := (.bool r_20)) (fun h' hd => HC.mono (w_digest_Same (a0 := r_9) (a1 := r_12) hd r_10 r_11 r_13 r_14 hr_2) (fun u h2 hu => by obtain ⟨F2, r2, g2, hs2, hu2, hr2⟩ := hu; subst hr2; exact ⟨hu2.symm, Sf.le hs2 g2⟩)) ?_
    refine oBin_bool_neq.2 ?_
    obtain ⟨kp, hk_1, hp⟩ := Pl.join_elim hp
    refine Sh.join_intro fun k hk => ?_
    have hK : ∀ (x : Bool) (w_12 : Value), (∀ K : Value → Prop, K (.bool x) → oPick Try.prog (.bool ((decide (r_18 = r_19)) != r_20)) (.bool true) w_12 K) → kp x → k w_12 := by
     intro x w_12 hw hp
     rw [hk]
     rw [hk_1] at hp
     refine hw _ ?_
     intro h_20 s
     by_cases hc_6 : x = true
     ·refine (cond_tt hc_6).2 ?_
      replace hp := (Pl.ite_pos hc_6).1 hp
      replace s := Sf.dropAt 0 rfl s
      replace s := Sf.dropAt 0 rfl s
      replace s := Sf.dropAt 0 rfl s
      replace s := Sf.dropAt 0 rfl s
      replace s := Sf.dropAt 0 rfl s
      replace s := Sf.dropAt 0 rfl s
      exact ⟨F_13, false, e0, s, rfl, hp⟩
     ·refine (cond_ff hc_6).2 ?_
      replace hp := (Pl.ite_neg hc_6).1 hp
      refine ⟨fun h' => Sf F_13 h' (Ce (Cx.new p_3) [v_7, (.bool r_9.Ends), (.bool r_9.Ret.Some), (.int .i64 r_9.Ret.Lo), (.int .i64 r_9.Ret.Hi), v_8] :: Ce (Cx.new p_4) [v_9, (.bool r_12.Ends), (.bool r_12.Ret.Some), (.int .i64 r_12.Ret.Lo), (.int .i64 r_12.Ret.Hi), v_10] :: Ce (Cx.new p_5) [v_11, (.bool r_15.Ends), (.bool r_15.Ret.Some), (.int .i64 r_15.Ret.Lo), (.int .i64 r_15.Ret.Hi), v_12] :: Ce (Cx.new p_2) [v_4, (.bool a2.Ends), (.int .i64 a2.Lo), (.int .i64 a2.Hi), v_5] :: Ce (Cx.new p_1) [v_2, (.bool a1.Ends), (.int .i64 a1.Lo), (.int .i64 a1.Hi), v_3] :: Ce (Cx.new p) [v, (.bool a0.Ends), (.int .i64 a0.Lo), (.int .i64 a0.Hi), v_1] :: M), s, ?_⟩
      have ed_1 := Le.refl F_13
      refine tLdA (a := p_3) (cs := [v_7, (.bool r_9.Ends), (.bool r_9.Ret.Some), (.int .i64 r_9.Ret.Lo), (.int .i64 r_9.Ret.Hi), v_8]) (ds := [v_7, (.bool r_9.Ends), (.bool r_9.Ret.Some), (.int .i64 r_9.Ret.Lo), (.int .i64 r_9.Ret.Hi), v_8]) (j := 0) (padd_zero _).symm (Sf.ceD (Cx.new_at p_3) 0 rfl) (Nat.le_of_ble_eq_true rfl) rfl ?_
      refine tLdA (a := p_4) (cs := [v_9, (.bool r_12.Ends), (.bool r_12.Ret.Some), (.int .i64 r_12.Ret.Lo), (.int .i64 r_12.Ret.Hi), v_10]) (ds := [v_9, (.bool r_12.Ends), (.bool r_12.Ret.Some), (.int .i64 r_12.Ret.Lo), (.int .i64 r_12.Ret.Hi), v_10]) (j := 0) (padd_zero _).symm (Sf.ceD (Cx.new_at p_4) 1 rfl) (Nat.le_of_ble_eq_true rfl) rfl ?_
      refine oCall_func (HC.mono (w_digest_Leq (a0 := r_9) (a1 := r_12) s r_10 r_11 r_13 r_14 hp) ?_)
      rintro u_2 h_21 ⟨F_14, r_21, g_13, s, rfl, hp⟩
      have r_D := r
      replace r := r.le g_13
      have r_1_D := r_1
      replace r_1 := r_1.le g_13
      have r_10_D := r_10
      replace r_10 := r_10.le g_13
      have r_11_D := r_11
      replace r_11 := r_11.le g_13
      have r_2_D := r_2
      replace r_2 := r_2.le g_13
      have r_3_D := r_3
      replace r_3 := r_3.le g_13
      have r_13_D := r_13
      replace r_13 := r_13.le g_13
      have r_14_D := r_14
      replace r_14 := r_14.le g_13
      have r_4_D := r_4
      replace r_4 := r_4.le g_13
      have r_5_D := r_5
      replace r_5 := r_5.le g_13
      have r_16_D := r_16
      replace r_16 := r_16.le g_13
      have r_17_D := r_17
      replace r_17 := r_17.le g_13
      replace e0 := Le.trans e0 g_13
      replace ed := Le.trans ed g_13
      replace ed_1 := Le.trans ed_1 g_13
      refine ⟨Sf.le s ed_1, ?_⟩
      refine oUn_not.2 ?_
      obtain ⟨kp_1, hk_3, hp⟩ := Pl.join_elim hp
      have ej := Le.refl F_14
      refine Sh.join_intro fun k_1 hk_2 => ?_
      have hK_1 : ∀ (F_15 : Vw) (h_22 : Heap) (x_1 : Bool) (w_13 : Value), (∀ K : Value → Prop, K (.bool x_1) → oPick Try.prog (.bool (!r_21)) (.bool true) w_13 K) → Le F_14 F_15 → Sf F_15 h_22 (Ce (Cx.new p_3) [v_7, (.bool r_9.Ends), (.bool r_9.Ret.Some), (.int .i64 r_9.Ret.Lo), (.int .i64 r_9.Ret.Hi), v_8] :: Ce (Cx.new p_4) [v_9, (.bool r_12.Ends), (.bool r_12.Ret.Some), (.int .i64 r_12.Ret.Lo), (.int .i64 r_12.Ret.Hi), v_10] :: Ce (Cx.new p_5) [v_11, (.bool r_15.Ends), (.bool r_15.Ret.Some), (.int .i64 r_15.Ret.Lo), (.int .i64 r_15.Ret.Hi), v_12] :: Ce (Cx.new p_2) [v_4, (.bool a2.Ends), (.int .i64 a2.Lo), (.int .i64 a2.Hi), v_5] :: Ce (Cx.new p_1) [v_2, (.bool a1.Ends), (.int .i64 a1.Lo), (.int .i64 a1.Hi), v_3] :: Ce (Cx.new p) [v, (.bool a0.Ends), (.int .i64 a0.Lo), (.int .i64 a0.Hi), v_1] :: M) → kp_1 x_1 → k_1 w_13 h_22 := by
       intro F_15 h_22 x_1 w_13 hw_1 g_14 s  hp
       rw [hk_2]
       rw [hk_3] at hp
       refine hw_1 _ ?_
       replace r := r.le g_14
       replace r_1 := r_1.le g_14
       replace r_10 := r_10.le g_14
       replace r_11 := r_11.le g_14
       replace r_2 := r_2.le g_14
       replace r_3 := r_3.le g_14
       replace r_13 := r_13.le g_14
       replace r_14 := r_14.le g_14
       replace r_4 := r_4.le g_14
       replace r_5 := r_5.le g_14
       replace r_16 := r_16.le g_14
       replace r_17 := r_17.le g_14
       replace e0 := Le.trans e0 g_14
       replace ed := Le.trans ed g_14
       replace ed_1 := Le.trans ed_1 g_14
       replace ej := Le.trans ej g_14
       obtain ⟨kp_2, hk_5, hp⟩ := Pl.join_elim hp
       have ej_1 := Le.refl F_15
       refine Sh.join_intro fun k_2 hk_4 => ?_
       have hK_2 : ∀ (F_16 : Vw) (h_23 : Heap) (x_2 : Bool) (w_14 : Value), (∀ K : Value → Prop, K (.bool x_2) → oPick Try.prog (.bool x_1) (.bool true) w_14 K) → Le F_15 F_16 → Sf F_16 h_23 (Ce (Cx.new p_3) [v_7, (.bool r_9.Ends), (.bool r_9.Ret.Some), (.int .i64 r_9.Ret.Lo), (.int .i64 r_9.Ret.Hi), v_8] :: Ce (Cx.new p_4) [v_9, (.bool r_12.Ends), (.bool r_12.Ret.Some), (.int .i64 r_12.Ret.Lo), (.int .i64 r_12.Ret.Hi), v_10] :: Ce (Cx.new p_5) [v_11, (.bool r_15.Ends), (.bool r_15.Ret.Some), (.int .i64 r_15.Ret.Lo), (.int .i64 r_15.Ret.Hi), v_12] :: Ce (Cx.new p_2) [v_4, (.bool a2.Ends), (.int .i64 a2.Lo), (.int .i64 a2.Hi), v_5] :: Ce (Cx.new p_1) [v_2, (.bool a1.Ends), (.int .i64 a1.Lo), (.int .i64 a1.Hi), v_3] :: Ce (Cx.new p) [v, (.bool a0.Ends), (.int .i64 a0.Lo), (.int .i64 a0.Hi), v_1] :: M) → kp_2 x_2 → k_2 w_14 h_23 := by
        intro F_16 h_23 x_2 w_14 hw_2 g_15 s  hp
        rw [hk_4]
        rw [hk_5] at hp
        refine hw_2 _ ?_
        replace r := r.le g_15
        replace r_1 := r_1.le g_15
        replace r_10 := r_10.le g_15
        replace r_11 := r_11.le g_15
        replace r_2 := r_2.le g_15
        replace r_3 := r_3.le g_15
        replace r_13 := r_13.le g_15
        replace r_14 := r_14.le g_15
        replace r_4 := r_4.le g_15
        replace r_5 := r_5.le g_15
        replace r_16 := r_16.le g_15
        replace r_17 := r_17.le g_15
        replace e0 := Le.trans e0 g_15
        replace ed := Le.trans ed g_15
        replace ed_1 := Le.trans ed_1 g_15
        replace ej := Le.trans ej g_15
        replace ej_1 := Le.trans ej_1 g_15
        obtain ⟨kp_3, hk_7, hp⟩ := Pl.join_elim hp
        have ej_2 := Le.refl F_16
        refine Sh.join_intro fun k_3 hk_6 => ?_
        have hK_3 : ∀ (F_17 : Vw) (h_24 : Heap) (x_3 : Bool) (w_15 : Value), (∀ K : Value → Prop, K (.bool x_3) → oPick Try.prog (.bool x_2) w_15 (.bool false) K) → Le F_16 F_17 → Sf F_17 h_24 (Ce (Cx.new p_3) [v_7, (.bool r_9.Ends), (.bool r_9.Ret.Some), (.int .i64 r_9.Ret.Lo), (.int .i64 r_9.Ret.Hi), v_8] :: Ce (Cx.new p_4) [v_9, (.bool r_12.Ends), (.bool r_12.Ret.Some), (.int .i64 r_12.Ret.Lo), (.int .i64 r_12.Ret.Hi), v_10] :: Ce (Cx.new p_5) [v_11, (.bool r_15.Ends), (.bool r_15.Ret.Some), (.int .i64 r_15.Ret.Lo), (.int .i64 r_15.Ret.Hi), v_12] :: Ce (Cx.new p_2) [v_4, (.bool a2.Ends), (.int .i64 a2.Lo), (.int .i64 a2.Hi), v_5] :: Ce (Cx.new p_1) [v_2, (.bool a1.Ends), (.int .i64 a1.Lo), (.int .i64 a1.Hi), v_3] :: Ce (Cx.new p) [v, (.bool a0.Ends), (.int .i64 a0.Lo), (.int .i64 a0.Hi), v_1] :: M) → kp_3 x_3 → k_3 w_15 h_24 := by
         intro F_17 h_24 x_3 w_15 hw_3 g_16 s  hp
         rw [hk_6]
         rw [hk_7] at hp
         refine hw_3 _ ?_
         replace r := r.le g_16
         replace r_1 := r_1.le g_16
         replace r_10 := r_10.le g_16
         replace r_11 := r_11.le g_16
         replace r_2 := r_2.le g_16
         replace r_3 := r_3.le g_16
         replace r_13 := r_13.le g_16
         replace r_14 := r_14.le g_16
         replace r_4 := r_4.le g_16
         replace r_5 := r_5.le g_16
         replace r_16 := r_16.le g_16
         replace r_17 := r_17.le g_16
         replace e0 := Le.trans e0 g_16
         replace ed := Le.trans ed g_16
         replace ed_1 := Le.trans ed_1 g_16
         replace ej := Le.trans ej g_16
         replace ej_1 := Le.trans ej_1 g_16
         replace ej_2 := Le.trans ej_2 g_16
         obtain ⟨kp_4, hk_9, hp⟩ := Pl.join_elim hp
         have ej_3 := Le.refl F_17
         refine Sh.join_intro fun k_4 hk_8 => ?_
         have hK_4 : ∀ (F_18 : Vw) (h_25 : Heap) (x_4 : T_api_Summary) (x_5 : T_api_Summary) (x_6 : T_api_Summary) (v_13 : Value) (v_14 : Value) (v_15 : Value) (v_16 : Value) (v_17 : Value) (v_18 : Value) (w_16 : Value) (w_17 : Value) (w_18 : Value), (x_3 = true → (.agg #[v_13, (.bool x_4.Ends), (.bool x_4.Ret.Some), (.int .i64 x_4.Ret.Lo), (.int .i64 x_4.Ret.Hi), v_14]) = w_16) → (x_3 = true → (.agg #[v_15, (.bool x_5.Ends), (.bool x_5.Ret.Some), (.int .i64 x_5.Ret.Lo), (.int .i64 x_5.Ret.Hi), v_16]) = w_17) → (x_3 = true → (.agg #[v_17, (.bool x_6.Ends), (.bool x_6.Ret.Some), (.int .i64 x_6.Ret.Lo), (.int .i64 x_6.Ret.Hi), v_18]) = w_18) → Le F_17 F_18 → Sf F_18 h_25 (Ce (Cx.new p_3) [v_7, (.bool r_9.Ends), (.bool r_9.Ret.Some), (.int .i64 r_9.Ret.Lo), (.int .i64 r_9.Ret.Hi), v_8] :: Ce (Cx.new p_4) [v_9, (.bool r_12.Ends), (.bool r_12.Ret.Some), (.int .i64 r_12.Ret.Lo), (.int .i64 r_12.Ret.Hi), v_10] :: Ce (Cx.new p_5) [v_11, (.bool r_15.Ends), (.bool r_15.Ret.Some), (.int .i64 r_15.Ret.Lo), (.int .i64 r_15.Ret.Hi), v_12] :: Ce (Cx.new p_2) [v_4, (.bool a2.Ends), (.int .i64 a2.Lo), (.int .i64 a2.Hi), v_5] :: Ce (Cx.new p_1) [v_2, (.bool a1.Ends), (.int .i64 a1.Lo), (.int .i64 a1.Hi), v_3] :: Ce (Cx.new p) [v, (.bool a0.Ends), (.int .i64 a0.Lo), (.int .i64 a0.Hi), v_1] :: M) → RL e_api_Alarm F_18 v_13 x_4.Alarms → RL e_api_Named F_18 v_14 x_4.Mod → RL e_api_Alarm F_18 v_15 x_5.Alarms → RL e_api_Named F_18 v_16 x_5.Mod → RL e_api_Alarm F_18 v_17 x_6.Alarms → RL e_api_Named F_18 v_18 x_6.Mod → kp_4 x_4 x_5 x_6 → k_4 w_16 w_17 w_18 h_25 := by
          intro F_18 h_25 x_4 x_5 x_6 v_13 v_14 v_15 v_16 v_17 v_18 w_16 w_17 w_18 hw_4 hw_5 hw_6 g_17 s r_22 r_23 r_24 r_25 r_26 r_27 hp
          rw [hk_8]
          rw [hk_9] at hp
          replace r_10 := r_10.le g_17
          replace r_11 := r_11.le g_17
          replace r_13 := r_13.le g_17
          replace r_14 := r_14.le g_17
          replace r_16 := r_16.le g_17
          replace r_17 := r_17.le g_17
          replace r_4 := r_4.le g_17
          replace r_5 := r_5.le g_17
          replace r_2 := r_2.le g_17
          replace r_3 := r_3.le g_17
          replace r := r.le g_17
          replace r_1 := r_1.le g_17
          replace e0 := Le.trans e0 g_17
          replace ed := Le.trans ed g_17
          replace ed_1 := Le.trans ed_1 g_17
          replace ej := Le.trans ej g_17
          replace ej_1 := Le.trans ej_1 g_17
          replace ej_2 := Le.trans ej_2 g_17
          replace ej_3 := Le.trans ej_3 g_17
          obtain ⟨kp_5, hk_11, hp⟩ := Pl.join_elim hp
          have ej_4 := Le.refl F_18
          refine Sh.join_intro fun k_5 hk_10 => ?_
          have hK_5 : ∀ (F_19 : Vw) (h_26 : Heap) (x_7 : Bool) (w_19 : Value), (∀ K : Value → Prop, K (.bool x_7) → oPick Try.prog (.bool x_3) w_19 (.bool false) K) → Le F_18 F_19 → Sf F_19 h_26 (Ce (Cx.new p_3) [v_7, (.bool r_9.Ends), (.bool r_9.Ret.Some), (.int .i64 r_9.Ret.Lo), (.int .i64 r_9.Ret.Hi), v_8] :: Ce (Cx.new p_4) [v_9, (.bool r_12.Ends), (.bool r_12.Ret.Some), (.int .i64 r_12.Ret.Lo), (.int .i64 r_12.Ret.Hi), v_10] :: Ce (Cx.new p_5) [v_11, (.bool r_15.Ends), (.bool r_15.Ret.Some), (.int .i64 r_15.Ret.Lo), (.int .i64 r_15.Ret.Hi), v_12] :: Ce (Cx.new p_2) [v_4, (.bool a2.Ends), (.int .i64 a2.Lo), (.int .i64 a2.Hi), v_5] :: Ce (Cx.new p_1) [v_2, (.bool a1.Ends), (.int .i64 a1.Lo), (.int .i64 a1.Hi), v_3] :: Ce (Cx.new p) [v, (.bool a0.Ends), (.int .i64 a0.Lo), (.int .i64 a0.Hi), v_1] :: M) → kp_5 x_7 → k_5 w_19 h_26 := by
           intro F_19 h_26 x_7 w_19 hw_7 g_18 s  hp
           rw [hk_10]
           rw [hk_11] at hp
           refine hw_7 _ ?_
           replace r_10 := r_10.le g_18
           replace r_11 := r_11.le g_18
           replace r_13 := r_13.le g_18
           replace r_14 := r_14.le g_18
           replace r_16 := r_16.le g_18
           replace r_17 := r_17.le g_18
           replace r_4 := r_4.le g_18
           replace r_5 := r_5.le g_18
           replace r_2 := r_2.le g_18
           replace r_3 := r_3.le g_18
           replace r := r.le g_18
           replace r_1 := r_1.le g_18
           replace e0 := Le.trans e0 g_18
           replace ed := Le.trans ed g_18
           replace ed_1 := Le.trans ed_1 g_18
           replace ej := Le.trans ej g_18
           replace ej_1 := Le.trans ej_1 g_18
           replace ej_2 := Le.trans ej_2 g_18
           replace ej_3 := Le.trans ej_3 g_18
           replace ej_4 := Le.trans ej_4 g_18
           replace s := Sf.dropAt 0 rfl s
           replace s := Sf.dropAt 0 rfl s
           replace s := Sf.dropAt 0 rfl s
           replace s := Sf.dropAt 0 rfl s
           replace s := Sf.dropAt 0 rfl s
           replace s := Sf.dropAt 0 rfl s
           exact ⟨F_19, x_7, e0, s, rfl, hp⟩
          clear hk_10 hk_11
          by_cases hc_7 : x_3 = true
          ·refine (cond_tt hc_7).2 ?_
           replace hp := (Pl.ite_pos hc_7).1 hp
           obtain rfl := hw_4 hc_7
           obtain rfl := hw_5 hc_7
           obtain rfl := hw_6 hc_7
           refine oCall_func (HC.mono (w_digest_Join (a0 := x_5) (a1 := x_6) s r_24 r_25 r_26 r_27 hp) ?_)
           rintro u_3 h_27 ⟨F_20, r_28, v_19, v_20, g_19, s, rfl, r_29, r_30, hp⟩
           replace r_22 := r_22.le g_19
           replace r_23 := r_23.le g_19
           replace r_24 := r_24.le g_19
           replace r_25 := r_25.le g_19
           replace r_26 := r_26.le g_19
           replace r_27 := r_27.le g_19
           replace r_10 := r_10.le g_19
           replace r_11 := r_11.le g_19
           replace r_13 := r_13.le g_19
           replace r_14 := r_14.le g_19
           replace r_16 := r_16.le g_19
           replace r_17 := r_17.le g_19
           replace r_4 := r_4.le g_19
           replace r_5 := r_5.le g_19
           replace r_2 := r_2.le g_19
           replace r_3 := r_3.le g_19
           replace r := r.le g_19
           replace r_1 := r_1.le g_19
           replace e0 := Le.trans e0 g_19
           replace ed := Le.trans ed g_19
           replace ed_1 := Le.trans ed_1 g_19
           replace ej := Le.trans ej g_19
           replace ej_1 := Le.trans ej_1 g_19
           replace ej_2 := Le.trans ej_2 g_19
           replace ej_3 := Le.trans ej_3 g_19
           replace ej_4 := Le.trans ej_4 g_19
           refine oCall_func (HC.mono (w_augurhelp_Summary (a0 := x_4) (a1 := r_28) s r_22 r_23 r_29 r_30 hp) ?_)
           rintro u_4 h_28 ⟨F_21, r_31, g_20, s, rfl, hp⟩
           replace r_22 := r_22.le g_20
           replace r_23 := r_23.le g_20
           replace r_29 := r_29.le g_20
           replace r_30 := r_30.le g_20
           replace r_10 := r_10.le g_20
           replace r_11 := r_11.le g_20
           replace r_13 := r_13.le g_20
           replace r_14 := r_14.le g_20
           replace r_16 := r_16.le g_20
           replace r_17 := r_17.le g_20
           replace r_4 := r_4.le g_20
           replace r_5 := r_5.le g_20
           replace r_2 := r_2.le g_20
           replace r_3 := r_3.le g_20
           replace r := r.le g_20
           replace r_1 := r_1.le g_20
           replace e0 := Le.trans e0 g_20
           replace ed := Le.trans ed g_20
           replace ed_1 := Le.trans ed_1 g_20
           replace ej := Le.trans ej g_20
           replace ej_1 := Le.trans ej_1 g_20
           replace ej_2 := Le.trans ej_2 g_20
           replace ej_3 := Le.trans ej_3 g_20
           replace ej_4 := Le.trans ej_4 g_20
           exact hK_5 _ _ r_31 _ (fun _ h => oPick_hc hc_7 h) ej_4 s  hp
          ·refine (cond_ff hc_7).2 ?_
           replace hp := (Pl.ite_neg hc_7).1 hp
           exact hK_5 _ _ false _ (fun _ h => oPick_hn hc_7 h) ej_4 s  hp
         clear hk_8 hk_9
         by_cases hc_8 : x_3 = true
         ·refine (cond_tt hc_8).2 ?_
          replace hp := (Pl.ite_pos hc_8).1 hp
          refine tLdA (a := p_3) (cs := [v_7, (.bool r_9.Ends), (.bool r_9.Ret.Some), (.int .i64 r_9.Ret.Lo), (.int .i64 r_9.Ret.Hi), v_8]) (ds := [v_7, (.bool r_9.Ends), (.bool r_9.Ret.Some), (.int .i64 r_9.Ret.Lo), (.int .i64 r_9.Ret.Hi), v_8]) (j := 0) (padd_zero _).symm (Sf.ceD (Cx.new_at p_3) 0 rfl) (Nat.le_of_ble_eq_true rfl) rfl ?_
          refine tLdA (a := p_4) (cs := [v_9, (.bool r_12.Ends), (.bool r_12.Ret.Some), (.int .i64 r_12.Ret.Lo), (.int .i64 r_12.Ret.Hi), v_10]) (ds := [v_9, (.bool r_12.Ends), (.bool r_12.Ret.Some), (.int .i64 r_12.Ret.Lo), (.int .i64 r_12.Ret.Hi), v_10]) (j := 0) (padd_zero _).symm (Sf.ceD (Cx.new_at p_4) 1 rfl) (Nat.le_of_ble_eq_true rfl) rfl ?_
          refine tLdA (a := p_4) (cs := [v_9, (.bool r_12.Ends), (.bool r_12.Ret.Some), (.int .i64 r_12.Ret.Lo), (.int .i64 r_12.Ret.Hi), v_10]) (ds := [v_9, (.bool r_12.Ends), (.bool r_12.Ret.Some), (.int .i64 r_12.Ret.Lo), (.int .i64 r_12.Ret.Hi), v_10]) (j := 0) (padd_zero _).symm (Sf.ceD (Cx.new_at p_4) 1 rfl) (Nat.le_of_ble_eq_true rfl) rfl ?_
          refine tLdA (a := p_3) (cs := [v_7, (.bool r_9.Ends), (.bool r_9.Ret.Some), (.int .i64 r_9.Ret.Lo), (.int .i64 r_9.Ret.Hi), v_8]) (ds := [v_7, (.bool r_9.Ends), (.bool r_9.Ret.Some), (.int .i64 r_9.Ret.Lo), (.int .i64 r_9.Ret.Hi), v_8]) (j := 0) (padd_zero _).symm (Sf.ceD (Cx.new_at p_3) 0 rfl) (Nat.le_of_ble_eq_true rfl) rfl ?_
          refine oCall_func (HC.mono (w_digest_Join (a0 := r_9) (a1 := r_12) s r_10 r_11 r_13 r_14 hp) ?_)
          rintro u_5 h_29 ⟨F_22, r_32, v_21, v_22, g_21, s, rfl, r_33, r_34, hp⟩
          replace r_10 := r_10.le g_21
          replace r_11 := r_11.le g_21
          replace r_13 := r_13.le g_21
          replace r_14 := r_14.le g_21
          replace r_16 := r_16.le g_21
          replace r_17 := r_17.le g_21
          replace r_4 := r_4.le g_21
          replace r_5 := r_5.le g_21
          replace r_2 := r_2.le g_21
          replace r_3 := r_3.le g_21
          replace r := r.le g_21
          replace r_1 := r_1.le g_21
          replace e0 := Le.trans e0 g_21
          replace ed := Le.trans ed g_21
          replace ed_1 := Le.trans ed_1 g_21
          replace ej := Le.trans ej g_21
          replace ej_1 := Le.trans ej_1 g_21
          replace ej_2 := Le.trans ej_2 g_21
          replace ej_3 := Le.trans ej_3 g_21
          refine ⟨Sf.le s ed_1, ?_⟩
          exact hK_4 _ _ r_32 r_12 r_9 v_21 v_22 v_9 v_10 v_7 v_8 _ _ _ (fun _ => rfl) (fun _ => rfl) (fun _ => rfl) ej_3 s r_33 r_34 r_13 r_14 r_10 r_11 hp
         ·refine (cond_ff hc_8).2 ?_
          replace hp := (Pl.ite_neg hc_8).1 hp
          exact hK_4 _ _ (⟨([] : List T_api_Alarm), false, (⟨false, 0, 0⟩ : T_api_Ival), ([] : List T_api_Named)⟩ : T_api_Summary) (⟨([] : List T_api_Alarm), false, (⟨false, 0, 0⟩ : T_api_Ival), ([] : List T_api_Named)⟩ : T_api_Summary) (⟨([] : List T_api_Alarm), false, (⟨false, 0, 0⟩ : T_api_Ival), ([] : List T_api_Named)⟩ : T_api_Summary) (.slice none 0 0) (.slice none 0 0) (.slice none 0 0) (.slice none 0 0) (.slice none 0 0) (.slice none 0 0) _ _ _ (fun h => absurd h hc_8) (fun h => absurd h hc_8) (fun h => absurd h hc_8) ej_3 s (RL.nil _ _ 0) (RL.nil _ _ 0) (RL.nil _ _ 0) (RL.nil _ _ 0) (RL.nil _ _ 0) (RL.nil _ _ 0) hp
        clear hk_6 hk_7
        by_cases hc_9 : x_2 = true
        ·refine (cond_tt hc_9).2 ?_
         replace hp := (Pl.ite_pos hc_9).1 hp
         refine tLdA (a := p_3) (cs := [v_7, (.bool r_9.Ends), (.bool r_9.Ret.Some), (.int .i64 r_9.Ret.Lo), (.int .i64 r_9.Ret.Hi), v_8]) (ds := [v_7, (.bool r_9.Ends), (.bool r_9.Ret.Some), (.int .i64 r_9.Ret.Lo), (.int .i64 r_9.Ret.Hi), v_8]) (j := 0) (padd_zero _).symm (Sf.ceD (Cx.new_at p_3) 0 rfl) (Nat.le_of_ble_eq_true rfl) rfl ?_
         refine tLdA (a := p_4) (cs := [v_9, (.bool r_12.Ends), (.bool r_12.Ret.Some), (.int .i64 r_12.Ret.Lo), (.int .i64 r_12.Ret.Hi), v_10]) (ds := [v_9, (.bool r_12.Ends), (.bool r_12.Ret.Some), (.int .i64 r_12.Ret.Lo), (.int .i64 r_12.Ret.Hi), v_10]) (j := 0) (padd_zero _).symm (Sf.ceD (Cx.new_at p_4) 1 rfl) (Nat.le_of_ble_eq_true rfl) rfl ?_
         refine oCall_func (HC.mono (w_digest_Leq (a0 := r_9) (a1 := r_12) s r_10 r_11 r_13 r_14 hp) ?_)
         rintro u_6 h_30 ⟨F_23, r_35, g_22, s, rfl, hp⟩
         replace r := r.le g_22
         replace r_1 := r_1.le g_22
         replace r_10 := r_10.le g_22
         replace r_11 := r_11.le g_22
         replace r_2 := r_2.le g_22
         replace r_3 := r_3.le g_22
         replace r_13 := r_13.le g_22
         replace r_14 := r_14.le g_22
         replace r_4 := r_4.le g_22
         replace r_5 := r_5.le g_22
         replace r_16 := r_16.le g_22
         replace r_17 := r_17.le g_22
         replace e0 := Le.trans e0 g_22
         replace ed := Le.trans ed g_22
         replace ed_1 := Le.trans ed_1 g_22
         replace ej := Le.trans ej g_22
         replace ej_1 := Le.trans ej_1 g_22
         replace ej_2 := Le.trans ej_2 g_22
         refine ⟨Sf.le s ed_1, ?_⟩
         refine oUn_not.2 ?_
         obtain ⟨kp_6, hk_13, hp⟩ := Pl.join_elim hp
         have ej_5 := Le.refl F_23
         refine Sh.join_intro fun k_6 hk_12 => ?_
         have hK_6 : ∀ (F_24 : Vw) (h_31 : Heap) (x_8 : Bool) (w_20 : Value), (∀ K : Value → Prop, K (.bool x_8) → oPick Try.prog (.bool (!r_35)) (.bool true) w_20 K) → Le F_23 F_24 → Sf F_24 h_31 (Ce (Cx.new p_3) [v_7, (.bool r_9.Ends), (.bool r_9.Ret.Some), (.int .i64 r_9.Ret.Lo), (.int .i64 r_9.Ret.Hi), v_8] :: Ce (Cx.new p_4) [v_9, (.bool r_12.Ends), (.bool r_12.Ret.Some), (.int .i64 r_12.Ret.Lo), (.int .i64 r_12.Ret.Hi), v_10] :: Ce (Cx.new p_5) [v_11, (.bool r_15.Ends), (.bool r_15.Ret.Some), (.int .i64 r_15.Ret.Lo), (.int .i64 r_15.Ret.Hi), v_12] :: Ce (Cx.new p_2) [v_4, (.bool a2.Ends), (.int .i64 a2.Lo), (.int .i64 a2.Hi), v_5] :: Ce (Cx.new p_1) [v_2, (.bool a1.Ends), (.int .i64 a1.Lo), (.int .i64 a1.Hi), v_3] :: Ce (Cx.new p) [v, (.bool a0.Ends), (.int .i64 a0.Lo), (.int .i64 a0.Hi), v_1] :: M) → kp_6 x_8 → k_6 w_20 h_31 := by
          intro F_24 h_31 x_8 w_20 hw_8 g_23 s  hp
          rw [hk_12]
          rw [hk_13] at hp
          refine hw_8 _ ?_
          replace r := r.le g_23
          replace r_1 := r_1.le g_23
          replace r_10 := r_10.le g_23
          replace r_11 := r_11.le g_23
          replace r_2 := r_2.le g_23
          replace r_3 := r_3.le g_23
          replace r_13 := r_13.le g_23
          replace r_14 := r_14.le g_23
          replace r_4 := r_4.le g_23
          replace r_5 := r_5.le g_23
          replace r_16 := r_16.le g_23
          replace r_17 := r_17.le g_23
          replace e0 := Le.trans e0 g_23
          replace ed := Le.trans ed g_23
          replace ed_1 := Le.trans ed_1 g_23
          replace ej := Le.trans ej g_23
          replace ej_1 := Le.trans ej_1 g_23
          replace ej_2 := Le.trans ej_2 g_23
          replace ej_5 := Le.trans ej_5 g_23
          obtain ⟨kp_7, hk_15, hp⟩ := Pl.join_elim hp
          have ej_6 := Le.refl F_24
          refine Sh.join_intro fun k_7 hk_14 => ?_
          have hK_7 : ∀ (F_25 : Vw) (h_32 : Heap) (x_9 : Bool) (w_21 : Value), (∀ K : Value → Prop, K (.bool x_9) → oPick Try.prog (.bool x_8) (.bool true) w_21 K) → Le F_24 F_25 → Sf F_25 h_32 (Ce (Cx.new p_3) [v_7, (.bool r_9.Ends), (.bool r_9.Ret.Some), (.int .i64 r_9.Ret.Lo), (.int .i64 r_9.Ret.Hi), v_8] :: Ce (Cx.new p_4) [v_9, (.bool r_12.Ends), (.bool r_12.Ret.Some), (.int .i64 r_12.Ret.Lo), (.int .i64 r_12.Ret.Hi), v_10] :: Ce (Cx.new p_5) [v_11, (.bool r_15.Ends), (.bool r_15.Ret.Some), (.int .i64 r_15.Ret.Lo), (.int .i64 r_15.Ret.Hi), v_12] :: Ce (Cx.new p_2) [v_4, (.bool a2.Ends), (.int .i64 a2.Lo), (.int .i64 a2.Hi), v_5] :: Ce (Cx.new p_1) [v_2, (.bool a1.Ends), (.int .i64 a1.Lo), (.int .i64 a1.Hi), v_3] :: Ce (Cx.new p) [v, (.bool a0.Ends), (.int .i64 a0.Lo), (.int .i64 a0.Hi), v_1] :: M) → kp_7 x_9 → k_7 w_21 h_32 := by
           intro F_25 h_32 x_9 w_21 hw_9 g_24 s  hp
           rw [hk_14]
           rw [hk_15] at hp
           refine hw_9 _ ?_
           replace r_10 := r_10.le g_24
           replace r_11 := r_11.le g_24
           replace r_13 := r_13.le g_24
           replace r_14 := r_14.le g_24
           replace r_16 := r_16.le g_24
           replace r_17 := r_17.le g_24
           replace r_4 := r_4.le g_24
           replace r_5 := r_5.le g_24
           replace r_2 := r_2.le g_24
           replace r_3 := r_3.le g_24
           replace r := r.le g_24
           replace r_1 := r_1.le g_24
           replace e0 := Le.trans e0 g_24
           replace ed := Le.trans ed g_24
           replace ed_1 := Le.trans ed_1 g_24
           replace ej := Le.trans ej g_24
           replace ej_1 := Le.trans ej_1 g_24
           replace ej_2 := Le.trans ej_2 g_24
           replace ej_5 := Le.trans ej_5 g_24
           replace ej_6 := Le.trans ej_6 g_24
           exact hK_3 _ _ x_9 _ (fun _ h => oPick_hc hc_9 h) ej_2 s  hp
          clear hk_14 hk_15
          by_cases hc_10 : x_8 = true
          ·refine (cond_tt hc_10).2 ?_
           replace hp := (Pl.ite_pos hc_10).1 hp
           exact hK_7 _ _ true _ (fun _ h => oPick_hc hc_10 h) ej_6 s  hp
          ·refine (cond_ff hc_10).2 ?_
           replace hp := (Pl.ite_neg hc_10).1 hp
           refine tLdA (a := p_3) (cs := [v_7, (.bool r_9.Ends), (.bool r_9.Ret.Some), (.int .i64 r_9.Ret.Lo), (.int .i64 r_9.Ret.Hi), v_8]) (ds := [v_7, (.bool r_9.Ends), (.bool r_9.Ret.Some), (.int .i64 r_9.Ret.Lo), (.int .i64 r_9.Ret.Hi), v_8]) (j := 0) (padd_zero _).symm (Sf.ceD (Cx.new_at p_3) 0 rfl) (Nat.le_of_ble_eq_true rfl) rfl ?_
           refine tLdA (a := p_5) (cs := [v_11, (.bool r_15.Ends), (.bool r_15.Ret.Some), (.int .i64 r_15.Ret.Lo), (.int .i64 r_15.Ret.Hi), v_12]) (ds := [v_11, (.bool r_15.Ends), (.bool r_15.Ret.Some), (.int .i64 r_15.Ret.Lo), (.int .i64 r_15.Ret.Hi), v_12]) (j := 0) (padd_zero _).symm (Sf.ceD (Cx.new_at p_5) 2 rfl) (Nat.le_of_ble_eq_true rfl) rfl ?_
           refine oCall_func (HC.mono (w_digest_Leq (a0 := r_9) (a1 := r_15) s r_10 r_11 r_16 r_17 hp) ?_)
           rintro u_7 h_33 ⟨F_26, r_36, g_25, s, rfl, hp⟩
           replace r_10 := r_10.le g_25
           replace r_11 := r_11.le g_25
           replace r_16 := r_16.le g_25
           replace r_17 := r_17.le g_25
           replace r_13 := r_13.le g_25
           replace r_14 := r_14.le g_25
           replace r_4 := r_4.le g_25
           replace r_5 := r_5.le g_25
           replace r_2 := r_2.le g_25
           replace r_3 := r_3.le g_25
           replace r := r.le g_25
           replace r_1 := r_1.le g_25
           replace e0 := Le.trans e0 g_25
           replace ed := Le.trans ed g_25
           replace ed_1 := Le.trans ed_1 g_25
           replace ej := Le.trans ej g_25
           replace ej_1 := Le.trans ej_1 g_25
           replace ej_2 := Le.trans ej_2 g_25
           replace ej_5 := Le.trans ej_5 g_25
           replace ej_6 := Le.trans ej_6 g_25
           refine ⟨Sf.le s ed_1, ?_⟩
           exact hK_7 _ _ r_36 _ (fun _ h => oPick_hn hc_10 h) ej_6 s  hp
         clear hk_12 hk_13
         by_cases hc_11 : (!r_35) = true
         ·refine (cond_tt hc_11).2 ?_
          replace hp := (Pl.ite_pos hc_11).1 hp
          exact hK_6 _ _ true _ (fun _ h => oPick_hc hc_11 h) ej_5 s  hp
         ·refine (cond_ff hc_11).2 ?_
          replace hp := (Pl.ite_neg hc_11).1 hp
          refine tLdA (a := p_4) (cs := [v_9, (.bool r_12.Ends), (.bool r_12.Ret.Some), (.int .i64 r_12.Ret.Lo), (.int .i64 r_12.Ret.Hi), v_10]) (ds := [v_9, (.bool r_12.Ends), (.bool r_12.Ret.Some), (.int .i64 r_12.Ret.Lo), (.int .i64 r_12.Ret.Hi), v_10]) (j := 0) (padd_zero _).symm (Sf.ceD (Cx.new_at p_4) 1 rfl) (Nat.le_of_ble_eq_true rfl) rfl ?_
          refine tLdA (a := p_5) (cs := [v_11, (.bool r_15.Ends), (.bool r_15.Ret.Some), (.int .i64 r_15.Ret.Lo), (.int .i64 r_15.Ret.Hi), v_12]) (ds := [v_11, (.bool r_15.Ends), (.bool r_15.Ret.Some), (.int .i64 r_15.Ret.Lo), (.int .i64 r_15.Ret.Hi), v_12]) (j := 0) (padd_zero _).symm (Sf.ceD (Cx.new_at p_5) 2 rfl) (Nat.le_of_ble_eq_true rfl) rfl ?_
          refine oCall_func (HC.mono (w_digest_Leq (a0 := r_12) (a1 := r_15) s r_13 r_14 r_16 r_17 hp) ?_)
          rintro u_8 h_34 ⟨F_27, r_37, g_26, s, rfl, hp⟩
          replace r_13 := r_13.le g_26
          replace r_14 := r_14.le g_26
          replace r_16 := r_16.le g_26
          replace r_17 := r_17.le g_26
          replace r_10 := r_10.le g_26
          replace r_11 := r_11.le g_26
          replace r_4 := r_4.le g_26
          replace r_5 := r_5.le g_26
          replace r_2 := r_2.le g_26
          replace r_3 := r_3.le g_26
          replace r := r.le g_26
          replace r_1 := r_1.le g_26
          replace e0 := Le.trans e0 g_26
          replace ed := Le.trans ed g_26
          replace ed_1 := Le.trans ed_1 g_26
          replace ej := Le.trans ej g_26
          replace ej_1 := Le.trans ej_1 g_26
          replace ej_2 := Le.trans ej_2 g_26
          replace ej_5 := Le.trans ej_5 g_26
          refine ⟨Sf.le s ed_1, ?_⟩
          refine oUn_not.2 ?_
          exact hK_6 _ _ (!r_37) _ (fun _ h => oPick_hn hc_11 h) ej_5 s  hp
        ·refine (cond_ff hc_9).2 ?_
         replace hp := (Pl.ite_neg hc_9).1 hp
         exact hK_3 _ _ false _ (fun _ h => oPick_hn hc_9 h) ej_2 s  hp
       clear hk_4 hk_5
       by_cases hc_12 : x_1 = true
       ·refine (cond_tt hc_12).2 ?_
        replace hp := (Pl.ite_pos hc_12).1 hp
        exact hK_2 _ _ true _ (fun _ h => oPick_hc hc_12 h) ej_1 s  hp
       ·refine (cond_ff hc_12).2 ?_
        replace hp := (Pl.ite_neg hc_12).1 hp
        refine tLdA (a := p_3) (cs := [v_7, (.bool r_9.Ends), (.bool r_9.Ret.Some), (.int .i64 r_9.Ret.Lo), (.int .i64 r_9.Ret.Hi), v_8]) (ds := [v_7, (.bool r_9.Ends), (.bool r_9.Ret.Some), (.int .i64 r_9.Ret.Lo), (.int .i64 r_9.Ret.Hi), v_8]) (j := 0) (padd_zero _).symm (Sf.ceD (Cx.new_at p_3) 0 rfl) (Nat.le_of_ble_eq_true rfl) rfl ?_
        refine tLdA (a := p_4) (cs := [v_9, (.bool r_12.Ends), (.bool r_12.Ret.Some), (.int .i64 r_12.Ret.Lo), (.int .i64 r_12.Ret.Hi), v_10]) (ds := [v_9, (.bool r_12.Ends), (.bool r_12.Ret.Some), (.int .i64 r_12.Ret.Lo), (.int .i64 r_12.Ret.Hi), v_10]) (j := 0) (padd_zero _).symm (Sf.ceD (Cx.new_at p_4) 1 rfl) (Nat.le_of_ble_eq_true rfl) rfl ?_
        refine oCall_func (HC.mono (w_digest_Same (a0 := r_9) (a1 := r_12) s r_10 r_11 r_13 r_14 hp) ?_)
        rintro u_9 h_35 ⟨F_28, r_38, g_27, s, rfl, hp⟩
        replace r_10 := r_10.le g_27
        replace r_11 := r_11.le g_27
        replace r_13 := r_13.le g_27
        replace r_14 := r_14.le g_27
        replace r_16 := r_16.le g_27
        replace r_17 := r_17.le g_27
        replace r_4 := r_4.le g_27
        replace r_5 := r_5.le g_27
        replace r_2 := r_2.le g_27
        replace r_3 := r_3.le g_27
        replace r := r.le g_27
        replace r_1 := r_1.le g_27
        replace e0 := Le.trans e0 g_27
        replace ed := Le.trans ed g_27
        replace ed_1 := Le.trans ed_1 g_27
        replace ej := Le.trans ej g_27
        replace ej_1 := Le.trans ej_1 g_27
        refine ⟨Sf.le s ed_1, ?_⟩
        exact hK_2 _ _ r_38 _ (fun _ h => oPick_hn hc_12 h) ej_1 s  hp
      clear hk_2 hk_3
      by_cases hc_13 : (!r_21) = true
      ·refine (cond_tt hc_13).2 ?_
       replace hp := (Pl.ite_pos hc_13).1 hp
       exact hK_1 _ _ true _ (fun _ h => oPick_hc hc_13 h) ej s  hp
      ·refine (cond_ff hc_13).2 ?_
       replace hp := (Pl.ite_neg hc_13).1 hp
       refine tLdA (a := p_4) (cs := [v_9, (.bool r_12.Ends), (.bool r_12.Ret.Some), (.int .i64 r_12.Ret.Lo), (.int .i64 r_12.Ret.Hi), v_10]) (ds := [v_9, (.bool r_12.Ends), (.bool r_12.Ret.Some), (.int .i64 r_12.Ret.Lo), (.int .i64 r_12.Ret.Hi), v_10]) (j := 0) (padd_zero _).symm (Sf.ceD (Cx.new_at p_4) 1 rfl) (Nat.le_of_ble_eq_true rfl) rfl ?_
       refine tLdA (a := p_3) (cs := [v_7, (.bool r_9.Ends), (.bool r_9.Ret.Some), (.int .i64 r_9.Ret.Lo), (.int .i64 r_9.Ret.Hi), v_8]) (ds := [v_7, (.bool r_9.Ends), (.bool r_9.Ret.Some), (.int .i64 r_9.Ret.Lo), (.int .i64 r_9.Ret.Hi), v_8]) (j := 0) (padd_zero _).symm (Sf.ceD (Cx.new_at p_3) 0 rfl) (Nat.le_of_ble_eq_true rfl) rfl ?_
       refine oCall_func (HC.mono (w_digest_Leq (a0 := r_12) (a1 := r_9) s r_13 r_14 r_10 r_11 hp) ?_)
       rintro u_10 h_36 ⟨F_29, r_39, g_28, s, rfl, hp⟩
       replace r_13 := r_13.le g_28
       replace r_14 := r_14.le g_28
       replace r_10 := r_10.le g_28
       replace r_11 := r_11.le g_28
       replace r_16 := r_16.le g_28
       replace r_17 := r_17.le g_28
       replace r_4 := r_4.le g_28
       replace r_5 := r_5.le g_28
       replace r_2 := r_2.le g_28
       replace r_3 := r_3.le g_28
       replace r := r.le g_28
       replace r_1 := r_1.le g_28
       replace e0 := Le.trans e0 g_28
       replace ed := Le.trans ed g_28
       replace ed_1 := Le.trans ed_1 g_28
       replace ej := Le.trans ej g_28
       refine ⟨Sf.le s ed_1, ?_⟩
       refine oUn_not.2 ?_
       exact hK_1 _ _ (!r_39) _ (fun _ h => oPick_hn hc_13 h) ej s  hp
    clear hk hk_1
    by_cases hc_14 : ((decide (r_18 = r_19)) != r_20) = true
    ·refine (cond_tt hc_14).2 ?_
     replace hp := (Pl.ite_pos hc_14).1 hp
     exact hK true _ (fun _ h => oPick_hc hc_14 h) hp
    ·refine (cond_ff hc_14).2 ?_
     replace hp := (Pl.ite_neg hc_14).1 hp
     refine tLdA (a := p_3) (cs := [v_7, (.bool r_9.Ends), (.bool r_9.Ret.Some), (.int .i64 r_9.Ret.Lo), (.int .i64 r_9.Ret.Hi), v_8]) (ds := [v_7, (.bool r_9.Ends), (.bool r_9.Ret.Some), (.int .i64 r_9.Ret.Lo), (.int .i64 r_9.Ret.Hi), v_8]) (j := 0) (padd_zero _).symm (Sf.ceD (Cx.new_at p_3) 0 rfl) (Nat.le_of_ble_eq_true rfl) rfl ?_
     refine tLdA (a := p_3) (cs := [v_7, (.bool r_9.Ends), (.bool r_9.Ret.Some), (.int .i64 r_9.Ret.Lo), (.int .i64 r_9.Ret.Hi), v_8]) (ds := [v_7, (.bool r_9.Ends), (.bool r_9.Ret.Some), (.int .i64 r_9.Ret.Lo), (.int .i64 r_9.Ret.Hi), v_8]) (j := 0) (padd_zero _).symm (Sf.ceD (Cx.new_at p_3) 0 rfl) (Nat.le_of_ble_eq_true rfl) rfl ?_
     obtain ⟨r_40, hr_3, hp⟩ := hp
     refine oCallQ_gd rfl (v := (.bool r_40)) (fun h' hd => HC.mono (w_digest_Leq (a0 := r_9) (a1 := r_9) hd r_10 r_11 r_10 r_11 hr_3) (fun u h2 hu => by obtain ⟨F2, r2, g2, hs2, hu2, hr2⟩ := hu; subst hr2; exact ⟨hu2.symm, Sf.le hs2 g2⟩)) ?_
     refine oUn_not.2 ?_
     exact hK (!r_40) _ (fun _ h => oPick_hn hc_14 h) hp

end Go.Proofs.Ytaibfbakhiainaa

namespace Go.Proofs.Ytaibfbakhiainaa
open Go Go.Sh Go.Sx

theorem wrap_i64 {i : Int} (h1 : -9223372036854775808 ≤ i) (h2 : i ≤ 9223372036854775807) : IntKind.wrap .i64 i = i := Sh.wrap_int i h1 h2
theorem wrap_inc {i n : Nat} (h : i < n) (hn : n ≤ 1000000000000) : IntKind.wrap .i64 ((i : Int) + 1) = ((i + 1 : Nat) : Int) := Sh.wrap_succ i n h (by omega)
theorem s_ival_Empty {R : T_api_Ival → Prop} : p_ival_Empty R ↔ R (ivU none) := Iff.rfl
theorem s_ival_empty {a : Iv} (ha : a.Ok) {R : Bool → Prop} (h : R a.isNone) : p_ival_empty (ivU a) R := by
  rcases a with _ | ⟨l, g⟩
  · exact (Pl.ite_pos rfl).2 h
  · refine (Pl.ite_neg (by simp [ivU])).2 ?_
    have : decide (g < l) = false := by simpa using ha.1
    show R (decide (g < l))
    rw [this]; exact h
theorem s_ival_Of {l g : Int} {R : T_api_Ival → Prop} (h : R (ivU (Old.mkI l g))) : p_ival_Of l g R := by
  unfold p_ival_Of
  rw [Pl.ite_def]
  unfold Old.mkI at h
  split
  · rename_i hc; rw [if_pos hc] at h; exact h
  · rename_i hc; rw [if_neg hc] at h; exact h
theorem mkI_ok {l g : Int} (h : l ≤ g) : Old.mkI l g = some (l, g) := by unfold Old.mkI; rw [if_neg (by omega)]
theorem s_ival_Join {l : List Iv} (hl : l.length ≤ 1000000) (ho : ∀ a ∈ l, a.Ok) {R : T_api_Ival → Prop} (h : R (ivU (l.foldl jn none))) : p_ival_Join (l.map ivU) R := by
  unfold p_ival_Join
  refine s_ival_Empty.2 ?_
  refine Pl.loop2_count 0 l.length (fun i r => r = ivU ((l.take i).foldl jn none)) (Nat.zero_le _) rfl ?_
  rintro i r next hi rfl hnx
  have hacc : ((l.take i).foldl jn none).Ok := Old.jnAll_ok (fun a ha => ho a (List.mem_of_mem_take ha)) trivial
  rw [Pl.ite_def]
  split
  · rename_i hc
    have hlt : i < l.length := by simpa using hc
    obtain ⟨a, ha⟩ : ∃ a, l[i]? = some a := ⟨_, List.getElem?_eq_getElem hlt⟩
    have hao := ho a (List.mem_of_getElem? ha)
    have hstep : (l.take (i + 1)).foldl jn none = jn ((l.take i).foldl jn none) a := by
      rw [List.take_add_one, ha, List.foldl_append]; rfl
    have hn : next (IntKind.wrap .i64 ((i : Int) + 1)) (ivU (jn ((l.take i).foldl jn none) a)) := by
      rw [wrap_inc hlt (by omega)]
      exact hnx _ hlt (by rw [hstep])
    refine Pl.join_intro ?_
    refine Pl.get_nat (a := ivU a) (by simp [ha]) ?_
    refine s_ival_empty hao ?_
    generalize (l.take i).foldl jn none = acc at *
    rcases a with _ | ⟨x, y⟩
    · refine (Pl.ite_pos rfl).2 ?_
      rw [jn_none] at hn; exact hn
    · refine (Pl.ite_neg (by simp)).2 ?_
      rcases acc with _ | ⟨u, v⟩
      · refine (Pl.ite_pos rfl).2 (s_ival_Of ?_)
        rw [show (ivU (some (x, y))).Lo = x from rfl, show (ivU (some (x, y))).Hi = y from rfl, mkI_ok hao.1]
        exact hn
      · refine (Pl.ite_neg (by simp [ivU])).2 (s_ival_Of ?_)
        have : min u x ≤ max v y := by
          have h1 := hao.1
          omega
        show next _ (ivU (Old.mkI (min u x) (max v y)))
        rw [mkI_ok this]
        exact hn
  · rename_i hc
    have : i = l.length := by
      have : ¬ i < l.length := by simpa using hc
      omega
    subst this
    rw [List.take_length]; exact h
theorem s_Join1 {x y : Iv} (hx : x.Ok) (hy : y.Ok) {R : T_api_Ival → Prop} (h : R (ivU (jn x y))) : p_digest_Join_1 (ivU x) (ivU y) R := by
  unfold p_digest_Join_1
  refine s_ival_Join (l := [x, y]) (by simp) (by simp [hx, hy]) ?_
  simpa [none_jn] using h
theorem s_ival_Widen {x y : Iv} (hx : x.Ok) (hy : y.Ok) {R : T_api_Ival → Prop} (h : R (ivU (wd x y))) : p_ival_Widen (ivU x) (ivU y) R := by
  unfold p_ival_Widen
  refine s_ival_empty hx ?_
  rcases x with _ | ⟨l, g⟩
  · refine (Pl.ite_pos rfl).2 ?_
    refine s_ival_Join (l := [y]) (by simp) (by simp [hy]) ?_
    simpa [none_jn, wd] using h
  · refine (Pl.ite_neg (by simp)).2 ?_
    refine s_ival_empty hy ?_
    rcases y with _ | ⟨k, f⟩
    · refine (Pl.ite_pos rfl).2 ?_
      refine s_ival_Join (l := [some (l, g)]) (by simp) (by simp [hx]) ?_
      simpa [none_jn, wd] using h
    · refine (Pl.ite_neg (by simp)).2 ?_
      have h1 := hx.1
      have h2 := hy.1
      have a1 : minI ≤ l := hx.2.1
      have a2 : g ≤ maxI := hx.2.2
      have a3 : minI ≤ k := hy.2.1
      have a4 : f ≤ maxI := hy.2.2
      have e1 : (if k < l then minI else l) ≤ (if f > g then maxI else g) := by
        unfold minI maxI at *
        split <;> split <;> omega
      have key : p_ival_Of (if k < l then minI else l) (if f > g then maxI else g) R := s_ival_Of (by rw [mkI_ok e1]; exact h)
      simp only [Pl.join, Pl.ite_def, ivU]
      unfold minI maxI at key
      by_cases c1 : k < l <;> by_cases c2 : g < f <;> simp only [c1, c2, gt_iff_lt, if_true, if_false] at key ⊢ <;> exact key
theorem s_Norm {a : Iv} (ha : a.Ok) {R : T_api_Ival → Prop} (h : R (ivU a)) : p_augurref12_Norm (ivU a) R := by
  unfold p_augurref12_Norm
  refine Pl.join_intro ?_
  rcases a with _ | ⟨l, g⟩
  · refine (Pl.ite_pos rfl).2 ?_
    exact (Pl.ite_pos rfl).2 h
  · refine (Pl.ite_neg (by simp [ivU])).2 ?_
    refine (Pl.ite_neg ?_).2 h
    have h1 : l ≤ g := ha.1
    show ¬ decide (g < l) = true
    simpa using h1
theorem s_refOf {l g : Int} {R : T_api_Ival → Prop} (h : R (ivU (Old.mkI l g))) : p_augurref12_Of l g R := by
  unfold p_augurref12_Of p_augurref12_Norm
  refine Pl.join_intro ?_
  refine (Pl.ite_neg (by simp)).2 ?_
  simp only [Pl.ite_def]
  unfold Old.mkI at h
  by_cases hc : g < l
  · rw [if_pos hc] at h
    rw [if_pos (by simpa using hc)]; exact h
  · rw [if_neg hc] at h
    rw [if_neg (by simpa using hc)]; exact h
theorem s_refJoin {l : List Iv} (hl : l.length ≤ 1000000) (ho : ∀ a ∈ l, a.Ok) {R : T_api_Ival → Prop} (h : R (ivU (l.foldl jn none))) : p_augurref12_Join (l.map ivU) R := by
  unfold p_augurref12_Join
  refine Pl.loop2_count 0 l.length (fun i r => r = ivU ((l.take i).foldl jn none)) (Nat.zero_le _) rfl ?_
  rintro i r next hi rfl hnx
  have hacc : ((l.take i).foldl jn none).Ok := Old.jnAll_ok (fun a ha => ho a (List.mem_of_mem_take ha)) trivial
  rw [Pl.ite_def]
  split
  · rename_i hc
    have hlt : i < l.length := by simpa using hc
    obtain ⟨a, ha⟩ : ∃ a, l[i]? = some a := ⟨_, List.getElem?_eq_getElem hlt⟩
    have hao := ho a (List.mem_of_getElem? ha)
    have hstep : (l.take (i + 1)).foldl jn none = jn ((l.take i).foldl jn none) a := by
      rw [List.take_add_one, ha, List.foldl_append]; rfl
    have hn : next (IntKind.wrap .i64 ((i : Int) + 1)) (ivU (jn ((l.take i).foldl jn none) a)) := by
      rw [wrap_inc hlt (by omega)]
      exact hnx _ hlt (by rw [hstep])
    refine Pl.get_nat (a := ivU a) (by simp [ha]) ?_
    refine s_Norm hao ?_
    refine Pl.join_intro ?_
    generalize (l.take i).foldl jn none = acc at *
    rcases a with _ | ⟨x, y⟩
    · refine (Pl.ite_pos rfl).2 ?_
      rw [jn_none] at hn; exact hn
    · refine (Pl.ite_neg (by simp [ivU])).2 ?_
      rcases acc with _ | ⟨u, v⟩
      · exact (Pl.ite_pos rfl).2 hn
      · refine (Pl.ite_neg (by simp [ivU])).2 (s_refOf ?_)
        have : min u x ≤ max v y := by
          have h1 := hao.1
          omega
        show next _ (ivU (Old.mkI (min u x) (max v y)))
        rw [mkI_ok this]
        exact hn
  · rename_i hc
    have : i = l.length := by
      have : ¬ i < l.length := by simpa using hc
      omega
    subst this
    rw [List.take_length]; exact h
theorem s_refWiden {x y : Iv} (hx : x.Ok) (hy : y.Ok) {R : T_api_Ival → Prop} (h : R (ivU (wd x y))) : p_augurref12_Widen (ivU x) (ivU y) R := by
  unfold p_augurref12_Widen
  refine s_Norm hx (s_Norm hy ?_)
  rcases x with _ | ⟨l, g⟩
  · exact (Pl.ite_pos rfl).2 h
  · refine (Pl.ite_neg (by simp [ivU])).2 ?_
    rcases y with _ | ⟨k, f⟩
    · exact (Pl.ite_pos rfl).2 h
    · refine (Pl.ite_neg (by simp [ivU])).2 ?_
      simp only [Pl.join, Pl.ite_def, ivU]
      unfold wd minI maxI at h
      by_cases c1 : k < l <;> by_cases c2 : g < f <;> simp only [c1, c2, gt_iff_lt, if_true, if_false] at h ⊢ <;> exact h
theorem s_two {x y : Iv} (hx : x.Ok) (hy : y.Ok) {w : Bool} {R : T_api_Ival → Prop} (h : R (ivU (if w then wd x y else jn x y))) : p_augurref12_two (ivU x) (ivU y) w R := by
  unfold p_augurref12_two
  cases w
  · refine (Pl.ite_neg (by simp)).2 ?_
    refine s_refJoin (l := [x, y]) (by simp) (by simp [hx, hy]) ?_
    simpa [none_jn] using h
  · refine (Pl.ite_pos rfl).2 (s_refWiden hx hy ?_)
    simpa using h
/-- What a list of cells has for a name. -/
theorem s_mod {al : List T_api_Alarm} {e : Bool} {r : T_api_Ival} {l : List (Str × Iv)} {k : Str} (hl : l.length ≤ 1000000) {R : T_api_Ival → Prop} (h : R (ivU (Old.gt l k))) :
    p_augurref12_mod ⟨al, e, r, l.map nmU'⟩ k R := by
  unfold p_augurref12_mod
  refine Pl.loop1_count 0 l.length (fun i => Old.gt l k = Old.gt (l.drop i) k) (Nat.zero_le _) rfl ?_
  rintro i next hi hI hnx
  rw [Pl.ite_def]
  split
  · rename_i hc
    have hlt : i < l.length := by simpa using hc
    obtain ⟨a, ha⟩ : ∃ a, l[i]? = some a := ⟨_, List.getElem?_eq_getElem hlt⟩
    have hd : l.drop i = a :: l.drop (i + 1) := by
      rw [List.drop_eq_getElem_cons hlt]
      congr 1
      exact (List.getElem?_eq_some_iff.1 ha).2
    refine Pl.get_nat (a := nmU' a) (by simp [ha]) ?_
    rw [Pl.ite_def]
    split
    · rename_i he
      refine Pl.get_nat (a := nmU' a) (by simp [ha]) ?_
      have : Old.gt l k = a.2 := by
        rw [hI, hd]
        show (Sh.get (a :: l.drop (i + 1)) k).getD none = a.2
        obtain ⟨n, v⟩ := a
        have : n = k := he
        simp [Sh.get, this]
      rw [this] at h
      exact h
    · rename_i he
      rw [wrap_inc hlt (by omega)]
      refine hnx hlt ?_
      rw [hI, hd]
      show (Sh.get (a :: l.drop (i + 1)) k).getD none = (Sh.get (l.drop (i + 1)) k).getD none
      obtain ⟨n, v⟩ := a
      have : ¬ n = k := he
      simp [Sh.get, this]
  · rename_i hc
    have : i = l.length := by
      have : ¬ i < l.length := by simpa using hc
      omega
    subst this
    rw [List.drop_length] at hI
    have : Old.gt l k = none := hI
    rw [this] at h
    exact h
end Go.Proofs.Ytaibfbakhiainaa
namespace Go.Proofs.Ytaibfbakhiainaa
open Go Go.Sh Go.Sx

theorem slss_ltS : ∀ a b : Str, Pl.slss a b = ltS a b
  | [], [] => rfl
  | [], _ :: _ => rfl
  | _ :: _, [] => rfl
  | a :: x, b :: y => by
    have ih := slss_ltS x y
    unfold Pl.slss at ih ⊢
    simp only [Op.bytesLess, ltS, ih]
    by_cases h1 : a < b
    · simp [h1]
    · by_cases h2 : b < a
      · have : ¬ a = b := fun e => UInt8.lt_irrefl _ (e ▸ h2)
        simp [h1, h2, this]
      · have : a = b := UInt8.le_antisymm (UInt8.not_lt.1 h2) (UInt8.not_lt.1 h1)
        simp [h1, this]
section ins
variable {α : Type} (O : Sx.Ord α) [DecidableEq α]
omit [DecidableEq α] in
theorem lt_asymm {a b : α} (h : O.lt a b = true) : O.lt b a = false := by
  cases h2 : O.lt b a with
  | false => rfl
  | true => have := O.trans _ _ _ h h2; rw [O.irrefl] at this; cases this
theorem ins_at (s : α) : ∀ (i : Nat) (l : List α), i ≤ l.length → (∀ j, j < i → ∀ a, l[j]? = some a → O.lt a s = true) → (∀ a, l[i]? = some a → O.lt a s = false) →
    ins O s l = if l[i]? = some s then l else l.take i ++ s :: l.drop i
  | 0, [], _, _, _ => by simp [ins]
  | 0, y :: l, _, _, h2 => by
    have hy := h2 y rfl
    unfold ins
    by_cases h : O.lt s y = true
    · have hne : y ≠ s := fun e => by rw [e, O.irrefl] at h; cases h
      simp [h, hne]
    · have h' : O.lt s y = false := by simpa using h
      have := O.tri _ _ h' hy
      simp [this, O.irrefl]
  | i + 1, [], h, _, _ => by simp at h
  | i + 1, y :: l, hi, h1, h2 => by
    have hy := h1 0 (by omega) y rfl
    have ih := ins_at s i l (by simpa using hi) (fun j hj a ha => h1 (j + 1) (by omega) a (by simpa using ha)) (fun a ha => h2 a (by simpa using ha))
    unfold ins
    rw [lt_asymm O hy, hy]
    simp only [Bool.false_eq_true, if_false, if_true, ih, List.getElem?_cons_succ]
    split <;> simp
end ins
theorem int_lt {i n : Nat} : ((i : Int) < (n : Int)) ↔ i < n := by omega
theorem s_Add {l : List Str} {s : Str} (hl : l.length ≤ 1000000) {R : List Str → Prop} (h : R (ins ordS s l)) : p_augurref10_Add l s R := by
  unfold p_augurref10_Add
  refine Pl.loop1_count 0 l.length (fun i => ∀ j, j < i → ∀ a, l[j]? = some a → ltS a s = true) (Nat.zero_le _) (fun j hj => absurd hj (by omega)) ?_
  intro i next hi hI hnx
  have fin : (∀ a, l[i]? = some a → ltS a s = false) → Pl.join (fun x_3 : Bool => Pl.ite (x_3 = true) (R l) (Pl.slc l 0 (i : Int) fun l_1 => Pl.slc l (i : Int) (List.length l : Int) fun l_2 => Pl.app [s] l_2 fun l_3 => Pl.appc l_1 l_3 fun l_4 => R l_4))
      fun kp_1 => Pl.ite ((i : Int) < (List.length l : Int)) (Pl.get l (i : Int) fun a => kp_1 (decide (a = s))) (kp_1 false) := by
    intro hno
    have hins := ins_at ordS s i l hi hI hno
    have put : l[i]? ≠ some s → Pl.slc l 0 (i : Int) fun l_1 => Pl.slc l (i : Int) (List.length l : Int) fun l_2 => Pl.app [s] l_2 fun l_3 => Pl.appc l_1 l_3 fun l_4 => R l_4 := by
      intro hne
      rw [if_neg hne] at hins
      refine Pl.slc_nat (a := 0) (by omega) hi ?_
      refine Pl.slc_nat hi (Nat.le_refl _) ?_
      refine Pl.app_intro (by simp; omega) ?_
      refine Pl.appc_intro (by simp) (by simp; omega) ?_
      simpa [hins] using h
    refine Pl.join_intro ?_
    by_cases hlt : i < l.length
    · refine (Pl.ite_pos (int_lt.2 hlt)).2 ?_
      obtain ⟨a, ha⟩ : ∃ a, l[i]? = some a := ⟨_, List.getElem?_eq_getElem hlt⟩
      refine Pl.get_nat ha ?_
      by_cases e : a = s
      · subst e
        refine (Pl.ite_pos (by simp)).2 ?_
        rw [if_pos ha] at hins
        rw [hins] at h; exact h
      · refine (Pl.ite_neg (by simpa using e)).2 (put ?_)
        rw [ha]; simpa using e
    · refine (Pl.ite_neg (fun h => hlt (int_lt.1 h))).2 ?_
      refine (Pl.ite_neg (by simp)).2 (put ?_)
      rw [List.getElem?_eq_none (by omega)]; simp
  refine Pl.join_intro ?_
  by_cases hlt : i < l.length
  · refine (Pl.ite_pos (int_lt.2 hlt)).2 ?_
    obtain ⟨a, ha⟩ : ∃ a, l[i]? = some a := ⟨_, List.getElem?_eq_getElem hlt⟩
    refine Pl.get_nat ha ?_
    rw [slss_ltS]
    by_cases c : ltS a s = true
    · refine (Pl.ite_pos c).2 ?_
      rw [wrap_inc hlt (by omega)]
      refine hnx hlt fun j hj b hb => ?_
      rcases Nat.lt_or_ge j i with h1 | h1
      · exact hI j h1 b hb
      · have : j = i := by omega
        subst this
        rw [ha] at hb; cases hb; exact c
    · refine (Pl.ite_neg c).2 (fin fun b hb => ?_)
      rw [ha] at hb; cases hb
      simpa using c
  · refine (Pl.ite_neg (fun h => hlt (int_lt.1 h))).2 ?_
    refine (Pl.ite_neg (by simp)).2 (fin fun b hb => ?_)
    rw [List.getElem?_eq_none (by omega)] at hb; cases hb
/-- Alarms put in order, each once. -/
def insA (d m : List (Int × Int)) : List (Int × Int) := m.foldl (fun l a => ins Old.ordA a l) d
theorem alU_inj {a b : Int × Int} : alU a = alU b ↔ a = b := by
  constructor
  · intro h; rw [← alP_alU a, h, alP_alU]
  · rintro rfl; rfl
theorem ordA_lt (a b : Int × Int) : Old.ordA.lt a b = true ↔ a.1 < b.1 ∨ (a.1 = b.1 ∧ a.2 < b.2) := by
  show decide (Old.cmpA a b < 0) = true ↔ _
  rw [decide_eq_true_eq, Old.cmpA_lt]
theorem ins_len {α : Type} (O : Sx.Ord α) (x : α) : ∀ l : List α, (ins O x l).length ≤ l.length + 1
  | [] => by simp [ins]
  | y :: l => by
    unfold ins
    have := ins_len O x l
    split
    · simp
    · split <;> simp_all
theorem insA_len (d : List (Int × Int)) : ∀ m : List (Int × Int), (insA d m).length ≤ d.length + m.length := by
  intro m
  induction m generalizing d with
  | nil => simp [insA]
  | cons a m ih =>
    have h1 := ih (ins Old.ordA a d)
    have h2 := ins_len Old.ordA a d
    simp only [insA, List.foldl_cons, List.length_cons] at h1 ⊢
    omega
theorem s_AddAlarms {d m : List (Int × Int)} (hd : d.length ≤ 1000000) (hm : m.length ≤ 1000000) {R : List T_api_Alarm → Prop} (h : R ((insA d m).map alU)) : p_augurref12_AddAlarms (d.map alU) (m.map alU) R := by
  unfold p_augurref12_AddAlarms
  suffices hs : ∀ k, k = 0 → Pl.loop2 (d.map alU) (k : Int) _ from hs 0 rfl
  rintro k rfl
  refine ⟨fun n l x => ∃ i : Nat, x = i ∧ i ≤ m.length ∧ n = m.length - i ∧ l = (insA d (m.take i)).map alU, m.length, ⟨0, rfl, Nat.zero_le _, rfl, rfl⟩, ?_⟩
  rintro n l x ⟨i, rfl, hi, rfl, rfl⟩
  have hbl : (insA d (m.take i)).length ≤ 2000000 := by
    have := insA_len d (m.take i)
    rw [List.length_take] at this
    omega
  by_cases hlt : i < m.length
  · refine (Pl.ite_pos (by simpa using hlt)).2 ?_
    obtain ⟨a, ha⟩ : ∃ a, m[i]? = some a := ⟨_, List.getElem?_eq_getElem hlt⟩
    have hma : (m.map alU)[i]? = some (alU a) := by simp [ha]
    have hstep : insA d (m.take (i + 1)) = ins Old.ordA a (insA d (m.take i)) := by
      rw [List.take_add_one, ha]; simp [insA]
    refine Pl.join_intro ?_
    generalize insA d (m.take i) = l at *
    have hnx : ∃ m', m' < m.length - i ∧ ∃ i' : Nat, (IntKind.wrap .i64 ((i : Int) + 1)) = i' ∧ i' ≤ m.length ∧ m' = m.length - i' ∧ (ins Old.ordA a l).map alU = (insA d (m.take i')).map alU :=
      ⟨m.length - (i + 1), by omega, i + 1, wrap_inc hlt (by omega), by omega, rfl, by rw [hstep]⟩
    refine Pl.loop1_count 0 l.length (fun j => ∀ q, q < j → ∀ b, l[q]? = some b → Old.ordA.lt b a = true) (Nat.zero_le _) (fun j hj => absurd hj (by omega)) ?_
    intro j next hj hI hn
    have fin : (∀ b, l[j]? = some b → Old.ordA.lt b a = false) → _ := fun hno => ins_at Old.ordA a j l hj hI hno
    have hget : ∀ {q : Nat} {b : Int × Int}, l[q]? = some b → (l.map alU)[q]? = some (alU b) := fun hb => by simp [hb]
    -- the way out
    have out : (∀ b, l[j]? = some b → Old.ordA.lt b a = false) →
        Pl.join (fun x_5 : Bool => Pl.ite (x_5 = true) (Pl.slc (l.map alU) 0 (j : Int) fun l_3 => Pl.get (m.map alU) (i : Int) fun a_1 => Pl.slc (l.map alU) (j : Int) (List.length (l.map alU) : Int) fun l_4 => Pl.app [a_1] l_4 fun l_5 => Pl.appc l_3 l_5 fun l_6 =>
          ∃ m', m' < m.length - i ∧ ∃ i' : Nat, (IntKind.wrap .i64 ((i : Int) + 1)) = i' ∧ i' ≤ m.length ∧ m' = m.length - i' ∧ l_6 = (insA d (m.take i')).map alU)
          (∃ m', m' < m.length - i ∧ ∃ i' : Nat, (IntKind.wrap .i64 ((i : Int) + 1)) = i' ∧ i' ≤ m.length ∧ m' = m.length - i' ∧ l.map alU = (insA d (m.take i')).map alU))
        fun kp_2 => Pl.ite ((j : Int) = (List.length (l.map alU) : Int)) (kp_2 true) (Pl.get (l.map alU) (j : Int) fun a_1 => Pl.get (m.map alU) (i : Int) fun a_2 => kp_2 (decide (a_1 ≠ a_2))) := by
      intro hno
      have hins := fin hno
      have put : l[j]? ≠ some a → Pl.slc (l.map alU) 0 (j : Int) fun l_3 => Pl.get (m.map alU) (i : Int) fun a_1 => Pl.slc (l.map alU) (j : Int) (List.length (l.map alU) : Int) fun l_4 => Pl.app [a_1] l_4 fun l_5 => Pl.appc l_3 l_5 fun l_6 =>
          ∃ m', m' < m.length - i ∧ ∃ i' : Nat, (IntKind.wrap .i64 ((i : Int) + 1)) = i' ∧ i' ≤ m.length ∧ m' = m.length - i' ∧ l_6 = (insA d (m.take i')).map alU := by
        intro hne
        rw [if_neg hne] at hins
        refine Pl.slc_nat (a := 0) (by omega) (by simpa using hj) ?_
        refine Pl.get_nat hma ?_
        refine Pl.slc_nat (by simpa using hj) (Nat.le_refl _) ?_
        refine Pl.app_intro (by simp; omega) ?_
        refine Pl.appc_intro (by simp) (by simp; omega) ?_
        rw [hins] at hnx
        have e1 : (l.map alU).take l.length = l.map alU := List.take_of_length_le (by simp)
        simpa [List.map_take, List.map_drop, e1] using hnx
      refine Pl.join_intro ?_
      by_cases hjl : j = l.length
      · refine (Pl.ite_pos (by simp [hjl])).2 ?_
        refine (Pl.ite_pos rfl).2 (put ?_)
        rw [List.getElem?_eq_none (by omega)]; simp
      · have hjlt : j < l.length := by omega
        refine (Pl.ite_neg (by simp; omega)).2 ?_
        obtain ⟨b, hb⟩ : ∃ b, l[j]? = some b := ⟨_, List.getElem?_eq_getElem hjlt⟩
        refine Pl.get_nat (hget hb) (Pl.get_nat hma ?_)
        by_cases e : b = a
        · subst e
          refine (Pl.ite_neg (by simp)).2 ?_
          rw [if_pos hb] at hins
          rw [hins] at hnx; exact hnx
        · refine (Pl.ite_pos (by simpa [alU_inj] using e)).2 (put ?_)
          rw [hb]; simpa using e
    refine Pl.join_intro ?_
    by_cases hjlt : j < l.length
    · refine (Pl.ite_pos (by simpa using hjlt)).2 ?_
      obtain ⟨b, hb⟩ : ∃ b, l[j]? = some b := ⟨_, List.getElem?_eq_getElem hjlt⟩
      have go : Old.ordA.lt b a = true → next (IntKind.wrap .i64 ((j : Int) + 1)) := fun hc => by
        rw [wrap_inc hjlt (by omega)]
        refine hn hjlt fun q hq c hcq => ?_
        rcases Nat.lt_or_ge q j with h1 | h1
        · exact hI q h1 c hcq
        · have : q = j := by omega
          subst this
          rw [hb] at hcq; cases hcq; exact hc
      have stop : ¬ Old.ordA.lt b a = true → (∀ b, l[j]? = some b → Old.ordA.lt b a = false) := fun hc c hcq => by
        rw [hb] at hcq; cases hcq
        simpa using hc
      refine Pl.get_nat (hget hb) (Pl.get_nat hma ?_)
      refine Pl.join_intro ?_
      by_cases c1 : b.1 < a.1
      · exact (Pl.ite_pos c1).2 ((Pl.ite_pos rfl).2 (go ((ordA_lt b a).2 (.inl c1))))
      · refine (Pl.ite_neg c1).2 ?_
        refine Pl.get_nat (hget hb) (Pl.get_nat hma ?_)
        refine Pl.join_intro ?_
        by_cases c2 : b.1 = a.1
        · refine (Pl.ite_pos c2).2 ?_
          refine Pl.get_nat (hget hb) (Pl.get_nat hma ?_)
          by_cases c3 : b.2 < a.2
          · exact (Pl.ite_pos (decide_eq_true (show (alU b).Kind < (alU a).Kind from c3))).2 (go ((ordA_lt b a).2 (.inr ⟨c2, c3⟩)))
          · refine (Pl.ite_neg (fun h => c3 (of_decide_eq_true h))).2 (out (stop ?_))
            rw [ordA_lt]; omega
        · refine (Pl.ite_neg c2).2 ?_
          refine (Pl.ite_neg (by simp)).2 (out (stop ?_))
          rw [ordA_lt]; omega
    · refine (Pl.ite_neg (by simpa using hjlt)).2 ?_
      refine (Pl.ite_neg (by simp)).2 (out fun b hb => ?_)
      rw [List.getElem?_eq_none (by omega)] at hb; cases hb
  · have : i = m.length := by omega
    subst this
    refine (Pl.ite_neg (by simp)).2 ?_
    rw [List.take_length]; exact h
end Go.Proofs.Ytaibfbakhiainaa
namespace Go.Proofs.Ytaibfbakhiainaa
open Go Go.Sh Go.Sx

def smU (s : Old.Sm) : T_api_Summary := ⟨s.al.map alU, s.ends, ivU s.ret, s.mod.map nmU'⟩
theorem ivU_eq {a b : Iv} : ivU a = ivU b ↔ a = b := ⟨ivU_inj, fun h => h ▸ rfl⟩
theorem nmU_eq {a b : Str × Iv} : nmU' a = nmU' b ↔ a = b := by
  obtain ⟨n, v⟩ := a
  obtain ⟨m, w⟩ := b
  simp only [nmU', T_api_Named.ext_iff', Prod.mk.injEq, ivU_eq]
theorem alsU_eq {a b : List (Int × Int)} : a.map alU = b.map alU ↔ a = b := List.map_inj_right fun x y h => alU_inj.1 h
theorem nmsU_eq {a b : List (Str × Iv)} : a.map nmU' = b.map nmU' ↔ a = b := List.map_inj_right fun x y h => nmU_eq.1 h
theorem smU_eq {a b : Old.Sm} : smU a = smU b ↔ a = b := by
  obtain ⟨a1, a2, a3, a4⟩ := a
  obtain ⟨b1, b2, b3, b4⟩ := b
  simp only [smU, T_api_Summary.ext_iff', Old.Sm.mk.injEq, ivU_eq, alsU_eq, nmsU_eq]
instance : DecidableEq Old.Sm := fun a b => decidable_of_iff _ smU_eq
section eq
variable {α : Type} [DecidableEq α]
omit [DecidableEq α] in
theorem eq_take {a b : List α} (hl : a.length = b.length) (h : ∀ j, j < a.length → a[j]? = b[j]?) : a = b := by
  apply List.ext_getElem? 
  intro i
  rcases Nat.lt_or_ge i a.length with h1 | h1
  · exact h i h1
  · rw [List.getElem?_eq_none h1, List.getElem?_eq_none (by omega)]
/-- A loop that holds two lists of one length against one another. -/
theorem eq_loop {a b : List α} (hl : a.length = b.length) (hb : a.length ≤ 1000000) {R : Bool → Prop} (h : R (decide (a = b))) :
    Pl.loop1 0 fun x next => Pl.ite (x < (List.length a : Int)) (Pl.get a x fun u => Pl.get b x fun v => Pl.ite (u ≠ v) (R false) (next (IntKind.wrap .i64 (x + 1)))) (R true) := by
  refine Pl.loop1_count 0 a.length (fun i => ∀ j, j < i → a[j]? = b[j]?) (Nat.zero_le _) (fun j hj => absurd hj (by omega)) ?_
  intro i next hi hI hnx
  by_cases hlt : i < a.length
  · refine (Pl.ite_pos (int_lt.2 hlt)).2 ?_
    obtain ⟨u, hu⟩ : ∃ u, a[i]? = some u := ⟨_, List.getElem?_eq_getElem hlt⟩
    obtain ⟨v, hv⟩ : ∃ v, b[i]? = some v := ⟨_, List.getElem?_eq_getElem (by omega)⟩
    refine Pl.get_nat hu (Pl.get_nat hv ?_)
    by_cases e : u = v
    · refine (Pl.ite_neg (by simpa using e)).2 ?_
      rw [wrap_inc hlt (by omega)]
      refine hnx hlt fun j hj => ?_
      rcases Nat.lt_or_ge j i with h1 | h1
      · exact hI j h1
      · have : j = i := by omega
        subst this
        rw [hu, hv, e]
    · refine (Pl.ite_pos e).2 ?_
      have : ¬ a = b := fun hab => e (by rw [hab, hv] at hu; exact (Option.some.inj hu).symm)
      simpa [this] using h
  · refine (Pl.ite_neg (fun h => hlt (int_lt.1 h))).2 ?_
    have : a = b := eq_take hl fun j hj => hI j (by omega)
    simpa [this] using h
end eq
theorem len_ne {α β : Type} {a : List α} {b : List β} : ((List.length a : Int) ≠ (List.length b : Int)) ↔ a.length ≠ b.length := by omega
theorem s_hAlarms {a b : List T_api_Alarm} (ha : a.length ≤ 1000000) {R : Bool → Prop} (h : R (decide (a = b))) : p_augurhelp_Alarms a b R := by
  unfold p_augurhelp_Alarms
  by_cases hl : a.length = b.length
  · refine (Pl.ite_neg (fun h => len_ne.1 h hl)).2 (eq_loop hl ha h)
  · refine (Pl.ite_pos (len_ne.2 hl)).2 ?_
    have : ¬ a = b := fun e => hl (e ▸ rfl)
    simpa [this] using h
theorem bne_dec (a b : Bool) : (a != b) = decide (a ≠ b) := by cases a <;> cases b <;> rfl
theorem beq_dec (a b : Bool) : (a == b) = decide (a = b) := by cases a <;> cases b <;> rfl
theorem s_hSummary {a b : T_api_Summary} (ha : a.Alarms.length ≤ 1000000) (hm : a.Mod.length ≤ 1000000) {R : Bool → Prop} (h : R (decide (a = b))) : p_augurhelp_Summary a b R := by
  have no : ¬ a = b → R false := fun e => by simpa [e] using h
  unfold p_augurhelp_Summary
  refine Pl.join_intro ?_
  have go1 : a.Ends = b.Ends → a.Ret = b.Ret → Pl.join (fun x_3 : Bool => Pl.join (fun x_4 : Bool => Pl.ite (x_4 = true) (R false)
      (Pl.loop1 0 fun x_6 next => Pl.ite (x_6 < (List.length a.Mod : Int)) (Pl.get a.Mod x_6 fun u => Pl.get b.Mod x_6 fun v => Pl.ite (u ≠ v) (R false) (next (IntKind.wrap .i64 (x_6 + 1)))) (R true)))
      fun kp_2 => Pl.ite (x_3 = true) (kp_2 true) (kp_2 (decide ((List.length a.Mod : Int) ≠ (List.length b.Mod : Int)))))
      fun kp_1 => Pl.ite (false = true) (kp_1 true) (p_augurhelp_Alarms a.Alarms b.Alarms fun r_4 => kp_1 (!r_4)) := by
    intro he hr
    refine Pl.join_intro ?_
    refine (Pl.ite_neg (by simp)).2 ?_
    refine s_hAlarms ha ?_
    refine Pl.join_intro ?_
    by_cases hal : a.Alarms = b.Alarms
    · refine (Pl.ite_neg (by simp [hal])).2 ?_
      by_cases hl : a.Mod.length = b.Mod.length
      · refine (Pl.ite_neg (by simp [hl])).2 (eq_loop hl hm ?_)
        have : decide (a.Mod = b.Mod) = decide (a = b) := by
          rw [Bool.eq_iff_iff]; simp [T_api_Summary.ext_iff', hal, he, hr]
        rw [this]; exact h
      · refine (Pl.ite_pos (by simp; omega)).2 (no fun e => hl (e ▸ rfl))
    · refine (Pl.ite_pos (by simp [hal])).2 ?_
      exact (Pl.ite_pos rfl).2 (no fun e => hal (e ▸ rfl))
  by_cases he : a.Ends = b.Ends
  · refine (Pl.ite_neg (by simp [he])).2 ?_
    by_cases hr : a.Ret = b.Ret
    · have := go1 he hr
      simpa [hr] using this
    · refine Pl.join_intro ?_
      refine (Pl.ite_pos (by simp [hr])).2 ?_
      refine Pl.join_intro ?_
      exact (Pl.ite_pos rfl).2 ((Pl.ite_pos rfl).2 (no fun e => hr (e ▸ rfl)))
  · refine (Pl.ite_pos (by simpa using he)).2 ?_
    refine Pl.join_intro ?_
    refine (Pl.ite_pos rfl).2 ?_
    refine Pl.join_intro ?_
    exact (Pl.ite_pos rfl).2 ((Pl.ite_pos rfl).2 (no fun e => he (e ▸ rfl)))
theorem s_eqAl {a b : List T_api_Alarm} (ha : a.length ≤ 1000000) {R : Bool → Prop} (h : R (decide (a = b))) : p_slices_Equal_api_Alarm_api_Alarm a b R := s_hAlarms ha h
theorem s_eqNm {a b : List T_api_Named} (ha : a.length ≤ 1000000) {R : Bool → Prop} (h : R (decide (a = b))) : p_slices_Equal_api_Named_api_Named a b R := by
  unfold p_slices_Equal_api_Named_api_Named
  by_cases hl : a.length = b.length
  · refine (Pl.ite_neg (fun h => len_ne.1 h hl)).2 (eq_loop hl ha h)
  · refine (Pl.ite_pos (len_ne.2 hl)).2 ?_
    have : ¬ a = b := fun e => hl (e ▸ rfl)
    simpa [this] using h
theorem s_Same {a b : T_api_Summary} (ha : a.Alarms.length ≤ 1000000) (hm : a.Mod.length ≤ 1000000) {R : Bool → Prop} (h : R (decide (a = b))) : p_digest_Same a b R := by
  have no : ¬ a = b → R false := fun e => by simpa [e] using h
  unfold p_digest_Same
  refine Pl.join_intro ?_
  have f1 : ∀ {c : Bool}, c = false → ¬ a = b → Pl.join (fun x_3 : Bool => Pl.join (fun x_4 : Bool => R x_4) fun kp_2 => Pl.ite (x_3 = true) (p_slices_Equal_api_Named_api_Named a.Mod b.Mod fun r_4 => kp_2 r_4) (kp_2 false))
      fun kp_1 => Pl.ite (c = true) (p_slices_Equal_api_Alarm_api_Alarm a.Alarms b.Alarms fun r_5 => kp_1 r_5) (kp_1 false) := by
    rintro c rfl hne
    refine Pl.join_intro ((Pl.ite_neg (by simp)).2 ?_)
    exact Pl.join_intro ((Pl.ite_neg (by simp)).2 (no hne))
  by_cases he : a.Ends = b.Ends
  · refine (Pl.ite_pos (by simp [he])).2 ?_
    by_cases hr : a.Ret = b.Ret
    · refine Pl.join_intro ((Pl.ite_pos (by simp [hr])).2 ?_)
      refine s_eqAl ha ?_
      refine Pl.join_intro ?_
      by_cases hal : a.Alarms = b.Alarms
      · refine (Pl.ite_pos (by simp [hal])).2 (s_eqNm hm ?_)
        have : decide (a.Mod = b.Mod) = decide (a = b) := by
          rw [Bool.eq_iff_iff]; simp [T_api_Summary.ext_iff', hal, he, hr]
        show R _
        rw [this]; exact h
      · exact (Pl.ite_neg (by simp [hal])).2 (no fun e => hal (e ▸ rfl))
    · exact f1 (by simp [hr]) fun e => hr (e ▸ rfl)
  · exact (Pl.ite_neg (by simpa using he)).2 (f1 rfl fun e => he (e ▸ rfl))
theorem s_Ssame {a b : Old.Sm} (ha : a.al.length ≤ 1000000) (hm : a.mod.length ≤ 1000000) (hra : a.ret.Ok) (hrb : b.ret.Ok) (hva : ∀ p ∈ a.mod, p.2.Ok) (hvb : ∀ p ∈ b.mod, p.2.Ok) {R : Bool → Prop} (h : R (decide (a = b))) :
    p_augurref12_Ssame (smU a) (smU b) R := by
  have no : ¬ a = b → R false := fun e => by simpa [e] using h
  unfold p_augurref12_Ssame
  refine Pl.join_intro ?_
  by_cases he : a.ends = b.ends
  · refine (Pl.ite_neg (by simp [smU, he])).2 ?_
    refine ⟨ivU a.ret, s_Norm hra rfl, ivU b.ret, s_Norm hrb rfl, ?_⟩
    refine Pl.join_intro ?_
    by_cases hr : a.ret = b.ret
    · refine (Pl.ite_neg (by simp [hr])).2 ?_
      refine Pl.join_intro ?_
      by_cases hl : a.al.length = b.al.length
      · refine (Pl.ite_neg (by simp [smU, hl])).2 ?_
        by_cases hml : a.mod.length = b.mod.length
        · refine Pl.join_intro ((Pl.ite_neg (by simp [smU, hml])).2 ?_)
          -- the alarms
          refine Pl.loop1_count 0 a.al.length (fun i => ∀ j, j < i → a.al[j]? = b.al[j]?) (Nat.zero_le _) (fun j hj => absurd hj (by omega)) ?_
          intro i next hi hI hnx
          by_cases hlt : i < a.al.length
          · refine (Pl.ite_pos (by simpa [smU] using hlt)).2 ?_
            obtain ⟨u, hu⟩ : ∃ u, a.al[i]? = some u := ⟨_, List.getElem?_eq_getElem hlt⟩
            obtain ⟨v, hv⟩ : ∃ v, b.al[i]? = some v := ⟨_, List.getElem?_eq_getElem (by omega)⟩
            refine Pl.get_nat (a := alU u) (by simp [smU, hu]) (Pl.get_nat (a := alU v) (by simp [smU, hv]) ?_)
            by_cases e : u = v
            · refine (Pl.ite_neg (by simp [e])).2 ?_
              rw [wrap_inc hlt (by omega)]
              refine hnx hlt fun j hj => ?_
              rcases Nat.lt_or_ge j i with h1 | h1
              · exact hI j h1
              · have : j = i := by omega
                subst this
                rw [hu, hv, e]
            · refine (Pl.ite_pos (fun h => e (alU_inj.1 h))).2 (no fun hab => e ?_)
              rw [hab, hv] at hu; exact (Option.some.inj hu).symm
          · refine (Pl.ite_neg (by simpa [smU] using hlt)).2 ?_
            have hal : a.al = b.al := eq_take hl fun j hj => hI j (by omega)
            -- the cells
            refine Pl.loop1_count 0 a.mod.length (fun i => ∀ j, j < i → a.mod[j]? = b.mod[j]?) (Nat.zero_le _) (fun j hj => absurd hj (by omega)) ?_
            intro i next hi hI hnx
            by_cases hlt : i < a.mod.length
            · refine (Pl.ite_pos (by simpa [smU] using hlt)).2 ?_
              obtain ⟨u, hu⟩ : ∃ u, a.mod[i]? = some u := ⟨_, List.getElem?_eq_getElem hlt⟩
              obtain ⟨v, hv⟩ : ∃ v, b.mod[i]? = some v := ⟨_, List.getElem?_eq_getElem (by omega)⟩
              have gu : (smU a).Mod[i]? = some (nmU' u) := by simp [smU, hu]
              have gv : (smU b).Mod[i]? = some (nmU' v) := by simp [smU, hv]
              refine Pl.get_nat gu (Pl.get_nat gv ?_)
              refine Pl.join_intro ?_
              have hne : ¬ u = v → R false := fun e => no fun hab => e (by rw [hab, hv] at hu; exact (Option.some.inj hu).symm)
              by_cases e : u.1 = v.1
              · refine (Pl.ite_neg (by simpa [nmU'] using e)).2 ?_
                refine Pl.get_nat gu ⟨ivU u.2, s_Norm (hva u (List.mem_of_getElem? hu)) rfl, Pl.get_nat gv ⟨ivU v.2, s_Norm (hvb v (List.mem_of_getElem? hv)) rfl, ?_⟩⟩
                by_cases e2 : u.2 = v.2
                · refine (Pl.ite_neg (by simp [e2])).2 ?_
                  rw [wrap_inc hlt (by omega)]
                  refine hnx hlt fun j hj => ?_
                  rcases Nat.lt_or_ge j i with h1 | h1
                  · exact hI j h1
                  · have : j = i := by omega
                    subst this
                    rw [hu, hv, Prod.ext e e2]
                · refine (Pl.ite_pos (by simpa [ivU_eq] using e2)).2 (hne fun h => e2 (h ▸ rfl))
              · refine (Pl.ite_pos (by simpa [nmU'] using e)).2 ((Pl.ite_pos rfl).2 (hne fun h => e (h ▸ rfl)))
            · refine (Pl.ite_neg (by simpa [smU] using hlt)).2 ?_
              have hmd : a.mod = b.mod := eq_take hml fun j hj => hI j (by omega)
              have : a = b := by
                obtain ⟨a1, a2, a3, a4⟩ := a
                obtain ⟨b1, b2, b3, b4⟩ := b
                simp_all
              simpa [this] using h
        · exact Pl.join_intro ((Pl.ite_pos (by simp [smU]; omega)).2 (no fun e => hml (e ▸ rfl)))
      · refine (Pl.ite_pos (by simp [smU]; omega)).2 ?_
        exact Pl.join_intro ((Pl.ite_pos rfl).2 (no fun e => hl (e ▸ rfl)))
    · refine (Pl.ite_pos (by simp [ivU_eq, hr])).2 ?_
      refine Pl.join_intro ((Pl.ite_pos rfl).2 ?_)
      exact Pl.join_intro ((Pl.ite_pos rfl).2 (no fun e => hr (e ▸ rfl)))
  · refine (Pl.ite_pos (by simpa [smU] using he)).2 ?_
    refine Pl.join_intro ((Pl.ite_pos rfl).2 ?_)
    refine Pl.join_intro ((Pl.ite_pos rfl).2 ?_)
    exact Pl.join_intro ((Pl.ite_pos rfl).2 (no fun e => he (e ▸ rfl)))
end Go.Proofs.Ytaibfbakhiainaa
namespace Go.Proofs.Ytaibfbakhiainaa
open Go Go.Sh Go.Sx

/-- The names that there are. -/
def nms : List Str := [[97], [98], [99], [100]]
/-- A summary such as these laws make. -/
structure Vd (s : Old.Sm) : Prop where
  al : Srt Old.ordA s.al
  ac : ∀ p ∈ s.al, 0 ≤ p.1 ∧ 0 ≤ p.2 ∧ p.2 ≤ 5 ∧ p.1 * 6 + p.2 ≤ 255
  ret : s.ret.Ok
  nd : Srt ordS (s.mod.map (·.1))
  nm : ∀ p ∈ s.mod, p.1 ∈ nms
  iv : ∀ p ∈ s.mod, p.2.Ok
theorem up_len {n : Nat} : ∀ (l : List Nat) (b : Nat), l.Pairwise (· < ·) → (∀ x ∈ l, b ≤ x ∧ x < n) → l.length ≤ n - b
  | [], _, _, _ => by simp
  | x :: l, b, hp, hb => by
    rw [List.pairwise_cons] at hp
    have h1 := hb x (by simp)
    have := up_len l (x + 1) hp.2 fun y hy => ⟨hp.1 y hy, (hb y (List.mem_cons_of_mem _ hy)).2⟩
    simp only [List.length_cons]
    omega
theorem al_len {l : List (Int × Int)} (hs : Srt Old.ordA l) (hc : ∀ p ∈ l, 0 ≤ p.1 ∧ 0 ≤ p.2 ∧ p.2 ≤ 5 ∧ p.1 * 6 + p.2 ≤ 255) : l.length ≤ 256 := by
  have h1 : (l.map fun p => (p.1 * 6 + p.2).toNat).Pairwise (· < ·) := by
    rw [List.pairwise_map]
    refine List.Pairwise.imp_of_mem ?_ hs
    intro a b ha hb hab
    have h2 := hc a ha
    have h3 := hc b hb
    have := (ordA_lt a b).1 hab
    omega
  have := up_len (n := 256) _ 0 h1 fun x hx => by
    obtain ⟨p, hp, rfl⟩ := List.mem_map.1 hx
    have := hc p hp
    omega
  simpa using this
theorem Vd.alen {s : Old.Sm} (v : Vd s) : s.al.length ≤ 256 := al_len v.al v.ac
theorem nms_len {l : List Str} (hs : Srt ordS l) (hc : ∀ k ∈ l, k ∈ nms) : l.length ≤ 4 := by
  let code : Str → Nat := fun k => (k.headD 0).toNat - 97
  have h1 : (l.map code).Pairwise (· < ·) := by
    rw [List.pairwise_map]
    refine List.Pairwise.imp_of_mem ?_ hs
    intro a b ha hb hab
    have h2 := hc a ha
    have h3 := hc b hb
    simp only [nms, List.mem_cons, List.not_mem_nil, or_false] at h2 h3
    have hab : ltS a b = true := hab
    rcases h2 with rfl | rfl | rfl | rfl <;> rcases h3 with rfl | rfl | rfl | rfl <;> revert hab <;> decide
  have := up_len (n := 4) _ 0 h1 fun x hx => by
    obtain ⟨p, hp, rfl⟩ := List.mem_map.1 hx
    have := hc p hp
    simp only [nms, List.mem_cons, List.not_mem_nil, or_false] at this
    rcases this with rfl | rfl | rfl | rfl <;> decide
  simpa using this
theorem Vd.mlen {s : Old.Sm} (v : Vd s) : s.mod.length ≤ 4 := by
  have := nms_len v.nd fun k hk => by
    obtain ⟨p, hp, rfl⟩ := List.mem_map.1 hk
    exact v.nm p hp
  simpa using this
theorem nms_short {k : Str} (h : k ∈ nms) : k.length = 1 := by
  simp only [nms, List.mem_cons, List.not_mem_nil, or_false] at h
  rcases h with rfl | rfl | rfl | rfl <;> rfl
theorem get_mem {β : Type} {l : List (Str × β)} {k : Str} {v : β} (h : Sh.get l k = some v) : (k, v) ∈ l := by
  induction l with
  | nil => cases h
  | cons p l ih =>
    obtain ⟨n, x⟩ := p
    unfold Sh.get at h
    by_cases e : n = k
    · rw [if_pos e] at h; cases h; subst e; simp
    · rw [if_neg e] at h; exact List.mem_cons_of_mem _ (ih h)
theorem gt_ok {l : List (Str × Iv)} (h : ∀ p ∈ l, p.2.Ok) (k : Str) : (Old.gt l k).Ok := by
  unfold Old.gt
  cases e : Sh.get l k with
  | none => trivial
  | some v => exact h _ (get_mem e)
theorem Vd.nmOk {s : Old.Sm} (v : Vd s) : NmOk s.mod :=
  ⟨by have := v.mlen; omega, v.nd.nodup, fun p hp => by have := nms_short (v.nm p hp); omega, gt_ok v.iv⟩

/-! ### Join, Widen -/
def sjn (U : Iv → Iv → Iv) (a b : Old.Sm) : Old.Sm := ⟨Old.unA a.al b.al, a.ends || b.ends, U a.ret b.ret, Old.mdU U a.mod b.mod⟩
theorem mdU_names (U : Iv → Iv → Iv) (a b : List (Str × Iv)) : (Old.mdU U a b).map (·.1) = Old.nmU a b := by simp [Old.mdU, Function.comp_def]
theorem sjn_vd {U : Iv → Iv → Iv} (hU : ∀ x y : Iv, x.Ok → y.Ok → (U x y).Ok) {a b : Old.Sm} (ha : Vd a) (hb : Vd b) : Vd (sjn U a b) where
  al := Old.srt_unA _ _
  ac := fun p hp => ((Old.mem_unA p _ _).1 hp).elim (ha.ac p) (hb.ac p)
  ret := hU _ _ ha.ret hb.ret
  nd := by
    show Srt ordS ((Old.mdU U a.mod b.mod).map (·.1))
    rw [mdU_names]; exact Old.srt_nmU _ _
  nm := fun p hp => by
    have : p.1 ∈ (Old.mdU U a.mod b.mod).map (·.1) := List.mem_map.2 ⟨p, hp, rfl⟩
    rw [mdU_names, Old.mem_nmU] at this
    rcases this with h | h
    · obtain ⟨q, hq, e⟩ := List.mem_map.1 h
      rw [← e]; exact ha.nm q hq
    · obtain ⟨q, hq, e⟩ := List.mem_map.1 h
      rw [← e]; exact hb.nm q hq
  iv := fun p hp => by
    obtain ⟨k, _, rfl⟩ := List.mem_map.1 hp
    exact hU _ _ (gt_ok ha.iv k) (gt_ok hb.iv k)
theorem s_both {U : Iv → Iv → Iv} {pf : T_api_Ival → T_api_Ival → (T_api_Ival → Prop) → Prop} (hU : ∀ x y : Iv, x.Ok → y.Ok → (U x y).Ok) (hpf : ∀ x y : Iv, x.Ok → y.Ok → ∀ R : T_api_Ival → Prop, R (ivU (U x y)) → pf (ivU x) (ivU y) R)
    {a b : Old.Sm} (ha : Vd a) (hb : Vd b) {R : T_api_Summary → Prop} (h : R (smU (sjn U a b))) : p_digest_both (smU a) (smU b) pf R := by
  unfold p_digest_both
  have l1 := ha.alen
  have l2 := hb.alen
  refine ⟨by simp [smU]; omega, by simp [smU]; omega, ?_⟩
  refine Pl.join_intro ?_
  have key : ∀ e : Bool, e = (a.ends || b.ends) → pf (smU a).Ret (smU b).Ret fun r_6 => p_digest_digest_cells ⟨⟨alsU (smU a).Alarms (smU b).Alarms, e, r_6, []⟩⟩ (smU a).Mod (smU b).Mod pf fun b_1 => R b_1.Summary := by
    rintro e rfl
    refine hpf _ _ ha.ret hb.ret _ ?_
    refine ⟨U, a.mod, b.mod, hU, fun x y hx hy => hpf x y hx hy _ rfl, rfl, rfl, ha.nmOk, hb.nmOk, ?_⟩
    have : alsU (smU a).Alarms (smU b).Alarms = (Old.unA a.al b.al).map alU := by
      simp [alsU, smU, Function.comp_def, alP_alU]
    show R ⟨alsU (smU a).Alarms (smU b).Alarms, _, _, _⟩
    rw [this]; exact h
  by_cases he : a.ends = true
  · refine (Pl.ite_pos he).2 (key true (by simp [he]))
  · refine (Pl.ite_neg he).2 (key b.ends (by simp at he; simp [he]))
theorem s_Join {a b : Old.Sm} (ha : Vd a) (hb : Vd b) {R : T_api_Summary → Prop} (h : R (smU (sjn jn a b))) : p_digest_Join (smU a) (smU b) R :=
  s_both (fun x y => jn_ok) (fun x y hx hy R h => s_Join1 hx hy h) ha hb h
theorem s_Widen {a b : Old.Sm} (ha : Vd a) (hb : Vd b) {R : T_api_Summary → Prop} (h : R (smU (sjn wd a b))) : p_digest_Widen (smU a) (smU b) R :=
  s_both (fun x y => wd_ok) (fun x y hx hy R h => s_ival_Widen hx hy h) ha hb h
theorem jnOk (x y : Iv) : x.Ok → y.Ok → (jn x y).Ok := jn_ok
theorem wdOk (x y : Iv) : x.Ok → y.Ok → (wd x y).Ok := wd_ok
theorem s_Sm {a b : Old.Sm} (ha : Vd a) {R : Bool → Prop} (h : R (decide (a = b))) : p_digest_Same (smU a) (smU b) R := by
  have l1 := ha.alen
  have l2 := ha.mlen
  refine s_Same (by simp [smU]; omega) (by simp [smU]; omega) ?_
  have : decide (smU a = smU b) = decide (a = b) := by rw [Bool.eq_iff_iff]; simp [smU_eq]
  rw [this]; exact h
theorem s_hSm {a b : Old.Sm} (ha : Vd a) {R : Bool → Prop} (h : R (decide (a = b))) : p_augurhelp_Summary (smU a) (smU b) R := by
  have l1 := ha.alen
  have l2 := ha.mlen
  refine s_hSummary (by simp [smU]; omega) (by simp [smU]; omega) ?_
  have : decide (smU a = smU b) = decide (a = b) := by rw [Bool.eq_iff_iff]; simp [smU_eq]
  rw [this]; exact h
theorem s_Leq {a b : Old.Sm} (ha : Vd a) (hb : Vd b) {R : Bool → Prop} (h : R (decide (sjn jn a b = b))) : p_digest_Leq (smU a) (smU b) R :=
  s_Join ha hb (s_Sm (sjn_vd jnOk ha hb) h)
end Go.Proofs.Ytaibfbakhiainaa
namespace Go.Proofs.Ytaibfbakhiainaa
open Go Go.Sh Go.Sx

/-- Numbers that came in. -/
structure RawOk (r : T_augurlaw19_Raw) : Prop where
  al : ∀ a ∈ r.Alarms, 0 ≤ a ∧ a ≤ 255
  lo : minI ≤ r.Lo ∧ r.Lo ≤ maxI
  hi : minI ≤ r.Hi ∧ r.Hi ≤ maxI
  md : ∀ c ∈ r.Mod, (0 ≤ c.N ∧ c.N ≤ 255) ∧ (minI ≤ c.Lo ∧ c.Lo ≤ maxI) ∧ (minI ≤ c.Hi ∧ c.Hi ≤ maxI)
def alOf (a : Int) : Int × Int := (Int.tdiv a 6, Int.tmod a 6)
def nmOf (n : Int) : Str := (([97, 98, 99, 100] : Str).take ((Int.tmod n 4).toNat + 1)).drop (Int.tmod n 4).toNat
def nsOf (l : List T_augurlaw19_Cell) : List Str := l.foldl (fun a c => ins ordS (nmOf c.N) a) []
def madeS (r : T_augurlaw19_Raw) : Old.Sm :=
  if r.Ends then ⟨insA [] (r.Alarms.map alOf), true, some (min r.Lo r.Hi, max r.Lo r.Hi), ((nsOf r.Mod).zip r.Mod).map fun x => (x.1, some (min x.2.Lo x.2.Hi, max x.2.Lo x.2.Hi))⟩
  else ⟨insA [] (r.Alarms.map alOf), false, none, []⟩
theorem tm4 {n : Int} (h : 0 ≤ n) : 0 ≤ Int.tmod n 4 ∧ Int.tmod n 4 ≤ 3 := by
  have h1 := Int.tmod_nonneg 4 h
  have h2 := Int.tmod_lt_of_pos n (show (0 : Int) < 4 by decide)
  omega
theorem tm6 {n : Int} (h : 0 ≤ n) : 0 ≤ Int.tmod n 6 ∧ Int.tmod n 6 ≤ 5 := by
  have h1 := Int.tmod_nonneg 6 h
  have h2 := Int.tmod_lt_of_pos n (show (0 : Int) < 6 by decide)
  omega
theorem nmOf_mem {n : Int} (h : 0 ≤ n) : nmOf n ∈ nms := by
  obtain ⟨h1, h2⟩ := tm4 h
  unfold nmOf
  generalize Int.tmod n 4 = k at *
  obtain rfl | rfl | rfl | rfl : k = 0 ∨ k = 1 ∨ k = 2 ∨ k = 3 := by omega
  all_goals decide
theorem wrap_u8 {i : Int} (h1 : 0 ≤ i) (h2 : i ≤ 255) : IntKind.wrap .u8 i = i := IntWalk.u8_in i ⟨h1, h2⟩
theorem srt_insA {d : List (Int × Int)} (hd : Srt Old.ordA d) : ∀ m, Srt Old.ordA (insA d m) := by
  intro m
  induction m generalizing d with
  | nil => exact hd
  | cons a m ih => exact ih (srt_ins Old.ordA a d hd)
theorem mem_insA (x : Int × Int) : ∀ (m d : List (Int × Int)), x ∈ insA d m ↔ x ∈ d ∨ x ∈ m
  | [], d => by simp [insA]
  | a :: m, d => by
    have := mem_insA x m (ins Old.ordA a d)
    simp only [insA, List.foldl_cons] at this ⊢
    rw [this, mem_ins]
    simp only [List.mem_cons]
    constructor
    · rintro ((h | h) | h)
      · exact .inr (.inl h)
      · exact .inl h
      · exact .inr (.inr h)
    · rintro (h | h | h)
      · exact .inl (.inr h)
      · exact .inl (.inl h)
      · exact .inr h
theorem nsOf_fold (l : List T_augurlaw19_Cell) (d : List Str) (hd : Srt ordS d) (hm : ∀ k ∈ d, k ∈ nms) (hl : ∀ c ∈ l, 0 ≤ c.N) :
    Srt ordS (l.foldl (fun a c => ins ordS (nmOf c.N) a) d) ∧ ∀ k ∈ l.foldl (fun a c => ins ordS (nmOf c.N) a) d, k ∈ nms := by
  induction l generalizing d with
  | nil => exact ⟨hd, hm⟩
  | cons c l ih =>
    refine ih _ (srt_ins ordS _ _ hd) (fun k hk => ?_) fun c hc => hl c (List.mem_cons_of_mem _ hc)
    rcases (mem_ins ordS _ _ _).1 hk with rfl | h
    · exact nmOf_mem (hl c (by simp))
    · exact hm k h
theorem nsOf_len (l : List T_augurlaw19_Cell) (d : List Str) : (l.foldl (fun a c => ins ordS (nmOf c.N) a) d).length ≤ d.length + l.length := by
  induction l generalizing d with
  | nil => simp
  | cons c l ih =>
    have := ih (ins ordS (nmOf c.N) d)
    have h2 := ins_len ordS (nmOf c.N) d
    simp only [List.foldl_cons, List.length_cons]
    omega
theorem mm_ok {a b : Int} (ha : minI ≤ a ∧ a ≤ maxI) (hb : minI ≤ b ∧ b ≤ maxI) : Iv.Ok (some (min a b, max a b)) := by
  refine ⟨?_, ?_, ?_⟩ <;> unfold minI maxI at * <;> omega
theorem madeS_vd {r : T_augurlaw19_Raw} (h : RawOk r) : Vd (madeS r) := by
  have ha : Srt Old.ordA (insA [] (r.Alarms.map alOf)) := srt_insA List.Pairwise.nil _
  have hc : ∀ p ∈ insA [] (r.Alarms.map alOf), 0 ≤ p.1 ∧ 0 ≤ p.2 ∧ p.2 ≤ 5 ∧ p.1 * 6 + p.2 ≤ 255 := by
    intro p hp
    rw [mem_insA] at hp
    rcases hp with hp | hp
    · cases hp
    · obtain ⟨a, haa, rfl⟩ := List.mem_map.1 hp
      have h1 := h.al a haa
      have h2 := tm6 h1.1
      have h3 := Int.tmod_add_mul_tdiv a 6
      have h4 := Int.tdiv_nonneg h1.1 (show (0 : Int) ≤ 6 by decide)
      simp only [alOf]
      omega
  unfold madeS
  split
  · obtain ⟨n1, n2⟩ := nsOf_fold r.Mod [] List.Pairwise.nil (by simp) fun c hc => (h.md c hc).1.1
    have hz : (((nsOf r.Mod).zip r.Mod).map fun x => (x.1, (some (min x.2.Lo x.2.Hi, max x.2.Lo x.2.Hi) : Iv))).map (·.1) = nsOf r.Mod := by
      rw [List.map_map]
      show ((nsOf r.Mod).zip r.Mod).map Prod.fst = _
      rw [List.map_fst_zip]
      have := nsOf_len r.Mod []
      simpa [nsOf] using this
    refine ⟨ha, hc, mm_ok h.lo h.hi, ?_, ?_, ?_⟩
    · show Srt ordS (List.map _ _)
      rw [hz]; exact n1
    · intro p hp
      have : p.1 ∈ (((nsOf r.Mod).zip r.Mod).map fun x => (x.1, (some (min x.2.Lo x.2.Hi, max x.2.Lo x.2.Hi) : Iv))).map (·.1) := List.mem_map.2 ⟨p, hp, rfl⟩
      rw [hz] at this
      exact n2 _ this
    · intro p hp
      obtain ⟨x, hx, rfl⟩ := List.mem_map.1 hp
      have := h.md x.2 (List.of_mem_zip hx).2
      exact mm_ok this.2.1 this.2.2
  · exact ⟨ha, hc, trivial, List.Pairwise.nil, by simp, by simp⟩
theorem s_made {r : T_augurlaw19_Raw} (h : RawOk r) (hl : r.Alarms.length ≤ 1000) (hm : r.Mod.length ≤ 1000) {R : T_api_Summary → Prop} (hR : R (smU (madeS r))) : p_augurlaw19_made r R := by
  unfold p_augurlaw19_made
  refine Pl.loop2_count 0 r.Alarms.length (fun i l => l = (insA [] ((r.Alarms.take i).map alOf)).map alU) (Nat.zero_le _) rfl ?_
  rintro i l next hi rfl hnx
  by_cases hlt : i < r.Alarms.length
  · refine (Pl.ite_pos (int_lt.2 hlt)).2 ?_
    obtain ⟨a, ha⟩ : ∃ a, r.Alarms[i]? = some a := ⟨_, List.getElem?_eq_getElem hlt⟩
    have h1 := h.al a (List.mem_of_getElem? ha)
    refine Pl.get_nat ha ⟨by decide, Pl.get_nat ha ⟨by decide, ?_⟩⟩
    have h2 := tm6 h1.1
    have h3 := Int.tmod_add_mul_tdiv a 6
    have h4 := Int.tdiv_nonneg h1.1 (show (0 : Int) ≤ 6 by decide)
    rw [wrap_u8 h4 (by omega), wrap_i64 (by omega) (by omega), wrap_i64 (by omega) (by omega)]
    have hlen := insA_len [] ((r.Alarms.take i).map alOf)
    rw [List.length_map, List.length_take] at hlen
    refine s_AddAlarms (d := insA [] ((r.Alarms.take i).map alOf)) (m := [alOf a]) (by simp only [List.length_nil] at hlen; omega) (by simp) ?_
    show next _ _
    rw [wrap_inc hlt (by omega)]
    refine hnx _ hlt ?_
    rw [List.take_add_one, ha]
    simp [insA]
  · have : i = r.Alarms.length := by omega
    subst this
    rw [List.take_length] at *
    refine (Pl.ite_neg (by simp)).2 ?_
    by_cases he : r.Ends = true
    · refine (Pl.ite_neg (by simp [he])).2 ?_
      refine s_refOf ?_
      have hle : min r.Lo r.Hi ≤ max r.Lo r.Hi := by omega
      rw [mkI_ok hle]
      suffices hs : ∀ k, k = 0 → Pl.loop2 ([] : List Str) (k : Int) _ from hs 0 rfl
      rintro k rfl
      refine ⟨fun n l x => ∃ i : Nat, x = i ∧ i ≤ r.Mod.length ∧ n = r.Mod.length - i ∧ l = nsOf (r.Mod.take i), r.Mod.length, ⟨0, rfl, Nat.zero_le _, rfl, rfl⟩, ?_⟩
      rintro n l x ⟨i, rfl, hi, rfl, rfl⟩
      by_cases hlt : i < r.Mod.length
      · refine (Pl.ite_pos (int_lt.2 hlt)).2 ?_
        obtain ⟨c, hc⟩ : ∃ c, r.Mod[i]? = some c := ⟨_, List.getElem?_eq_getElem hlt⟩
        have hn := (h.md c (List.mem_of_getElem? hc)).1
        obtain ⟨t1, t2⟩ := tm4 hn.1
        refine Pl.get_nat hc ⟨by decide, Pl.get_nat hc ⟨by decide, ?_⟩⟩
        rw [wrap_u8 (by omega) (by omega)]
        refine ⟨t1, by omega, by simp; omega, _, rfl, ?_⟩
        have hs : (([97, 98, 99, 100] : Str).take (Int.tmod c.N 4 + 1).toNat).drop (Int.tmod c.N 4).toNat = nmOf c.N := by
          unfold nmOf
          rw [show (Int.tmod c.N 4 + 1).toNat = (Int.tmod c.N 4).toNat + 1 by omega]
        rw [hs]
        have hnl := nsOf_len (r.Mod.take i) []
        rw [List.length_take] at hnl
        refine s_Add (by unfold nsOf; simp at hnl; omega) ?_
        refine ⟨r.Mod.length - (i + 1), by omega, i + 1, wrap_inc hlt (by omega), by omega, rfl, ?_⟩
        unfold nsOf
        rw [List.take_add_one, hc]
        simp
      · have : i = r.Mod.length := by omega
        subst this
        rw [List.take_length] at *
        refine (Pl.ite_neg (by simp)).2 ?_
        have hnl := nsOf_len r.Mod []
        have hns : (nsOf r.Mod).length ≤ r.Mod.length := by simpa [nsOf] using hnl
        generalize hN : nsOf r.Mod = ns at *
        let ml : List (Str × Iv) := (ns.zip r.Mod).map fun x => (x.1, some (min x.2.Lo x.2.Hi, max x.2.Lo x.2.Hi))
        have hml : ml.length = ns.length := by simp [ml]; omega
        refine Pl.loop2_count 0 ns.length (fun i l => l = (ml.take i).map nmU') (Nat.zero_le _) (by simp) ?_
        rintro i l next hi rfl hnx
        by_cases hlt : i < ns.length
        · refine (Pl.ite_pos (int_lt.2 hlt)).2 ?_
          obtain ⟨s, hs⟩ : ∃ s, ns[i]? = some s := ⟨_, List.getElem?_eq_getElem hlt⟩
          obtain ⟨c, hc⟩ : ∃ c, r.Mod[i]? = some c := ⟨_, List.getElem?_eq_getElem (by omega)⟩
          refine Pl.get_nat hs (Pl.get_nat hc (Pl.get_nat hc (Pl.get_nat hc (Pl.get_nat hc ?_))))
          refine s_refOf ?_
          have hle : min c.Lo c.Hi ≤ max c.Lo c.Hi := by omega
          rw [mkI_ok hle]
          refine Pl.app_intro (by simp; omega) ?_
          rw [wrap_inc hlt (by omega)]
          refine hnx _ hlt ?_
          have hx : ml[i]? = some (s, some (min c.Lo c.Hi, max c.Lo c.Hi)) := by
            have hz : (ns.zip r.Mod)[i]? = some (s, c) := List.getElem?_zip_eq_some.2 ⟨hs, hc⟩
            simp [ml, hz]
          rw [List.take_add_one, hx]
          simp [nmU']
        · have : i = ns.length := by omega
          subst this
          refine (Pl.ite_neg (by simp)).2 ?_
          rw [List.take_of_length_le (by omega)]
          have : smU (madeS r) = ⟨(insA [] (r.Alarms.map alOf)).map alU, true, ivU (some (min r.Lo r.Hi, max r.Lo r.Hi)), ml.map nmU'⟩ := by
            unfold madeS smU
            rw [if_pos he, hN]
          rw [this] at hR
          exact hR
    · refine (Pl.ite_pos (by simpa using he)).2 ?_
      have : smU (madeS r) = ⟨(insA [] (r.Alarms.map alOf)).map alU, false, ⟨false, 0, 0⟩, []⟩ := by
        unfold madeS smU
        rw [if_neg he]; rfl
      rw [this] at hR
      exact hR
/-! ### The document's join -/
theorem insA_unA {a b : List (Int × Int)} (ha : Srt Old.ordA a) : insA a b = Old.unA a b :=
  Srt.unique Old.ordA (srt_insA ha b) (Old.srt_unA a b) fun x => by rw [mem_insA, Old.mem_unA]
def insS (d : List Str) (m : List Str) : List Str := m.foldl (fun a k => ins ordS k a) d
theorem insS_len (d m : List Str) : (insS d m).length ≤ d.length + m.length := by
  induction m generalizing d with
  | nil => simp [insS]
  | cons c l ih =>
    have := ih (ins ordS c d)
    have h2 := ins_len ordS c d
    simp only [insS, List.foldl_cons, List.length_cons] at this ⊢
    omega
theorem srt_insS {d : List Str} (hd : Srt ordS d) : ∀ m, Srt ordS (insS d m) := by
  intro m
  induction m generalizing d with
  | nil => exact hd
  | cons a m ih => exact ih (srt_ins ordS a d hd)
theorem mem_insS (x : Str) : ∀ (m d : List Str), x ∈ insS d m ↔ x ∈ d ∨ x ∈ m
  | [], d => by simp [insS]
  | a :: m, d => by
    have := mem_insS x m (ins ordS a d)
    simp only [insS, List.foldl_cons] at this ⊢
    rw [this, mem_ins]
    simp only [List.mem_cons]
    constructor
    · rintro ((h | h) | h)
      · exact .inr (.inl h)
      · exact .inl h
      · exact .inr (.inr h)
    · rintro (h | h | h)
      · exact .inl (.inr h)
      · exact .inl (.inl h)
      · exact .inr h
/-- A loop that adds the names of a list of cells. -/
theorem names_loop {d : List Str} {m : List (Str × Iv)} (hd : d.length ≤ 1000) (hm : m.length ≤ 1000) {E : List Str → Prop} (h : E (insS d (m.map (·.1)))) :
    Pl.loop2 d 0 fun l x next => Pl.ite (x < (List.length (m.map nmU') : Int)) (Pl.get (m.map nmU') x fun a => p_augurref10_Add l a.Name fun r => next r (IntKind.wrap .i64 (x + 1))) (E l) := by
  suffices hs : ∀ k, k = 0 → Pl.loop2 d (k : Int) _ from hs 0 rfl
  rintro k rfl
  refine ⟨fun n l x => ∃ i : Nat, x = i ∧ i ≤ m.length ∧ n = m.length - i ∧ l = insS d ((m.take i).map (·.1)), m.length, ⟨0, rfl, Nat.zero_le _, rfl, rfl⟩, ?_⟩
  rintro n l x ⟨i, rfl, hi, rfl, rfl⟩
  by_cases hlt : i < m.length
  · refine (Pl.ite_pos (by simpa using hlt)).2 ?_
    obtain ⟨c, hc⟩ : ∃ c, m[i]? = some c := ⟨_, List.getElem?_eq_getElem hlt⟩
    refine Pl.get_nat (a := nmU' c) (by simp [hc]) ?_
    have hl := insS_len d ((m.take i).map (·.1))
    rw [List.length_map, List.length_take] at hl
    refine s_Add (by omega) ?_
    refine ⟨m.length - (i + 1), by omega, i + 1, wrap_inc hlt (by omega), by omega, rfl, ?_⟩
    rw [List.take_add_one, hc]
    simp [insS, nmU']
  · have : i = m.length := by omega
    subst this
    refine (Pl.ite_neg (by simp)).2 ?_
    rw [List.take_length]; exact h
theorem s_Sjoin {a b : Old.Sm} (ha : Vd a) (hb : Vd b) {w : Bool} {R : T_api_Summary → Prop} (h : R (smU (sjn (if w then wd else jn) a b))) : p_augurref12_Sjoin (smU a) (smU b) w R := by
  have la := ha.alen
  have lb := hb.alen
  have ma := ha.mlen
  have mb := hb.mlen
  unfold p_augurref12_Sjoin
  refine Pl.app_intro (by simp [smU]; omega) ?_
  refine s_AddAlarms (d := a.al) (m := b.al) (by omega) (by omega) ?_
  rw [insA_unA ha.al]
  refine Pl.join_intro ?_
  have key : ∀ e : Bool, e = (a.ends || b.ends) → p_augurref12_two (smU a).Ret (smU b).Ret w fun r_7 => Pl.loop2 ([] : List Str) 0 fun l_3 x_7 next =>
      Pl.ite (x_7 < (List.length (smU a).Mod : Int)) (Pl.get (smU a).Mod x_7 fun c => p_augurref10_Add l_3 c.Name fun r_11 => next r_11 (IntKind.wrap .i64 (x_7 + 1)))
       (Pl.loop2 l_3 0 fun l_5 x_9 next_1 => Pl.ite (x_9 < (List.length (smU b).Mod : Int)) (Pl.get (smU b).Mod x_9 fun c => p_augurref10_Add l_5 c.Name fun r_15 => next_1 r_15 (IntKind.wrap .i64 (x_9 + 1)))
         (Pl.loop2 0 ([] : List T_api_Named) fun x_12 l_7 next_2 => Pl.ite (x_12 < (List.length l_5 : Int))
           (Pl.get l_5 x_12 fun a_2 => Pl.get l_5 x_12 fun a_3 => Pl.get l_5 x_12 fun a_4 => p_augurref12_mod (smU a) a_3 fun r_17 => p_augurref12_mod (smU b) a_4 fun r_18 => p_augurref12_two r_17 r_18 w fun r_19 =>
            Pl.app l_7 [(⟨a_2, r_19⟩ : T_api_Named)] fun l_8 => next_2 (IntKind.wrap .i64 (x_12 + 1)) l_8)
           (R ⟨(Old.unA a.al b.al).map alU, e, r_7, l_7⟩))) := by
    rintro e rfl
    refine s_two ha.ret hb.ret ?_
    refine names_loop (d := []) (m := a.mod) (by simp) (by omega) ?_
    have hl1 := insS_len [] (a.mod.map (·.1))
    rw [List.length_map] at hl1
    refine names_loop (m := b.mod) (by simp at hl1; omega) (by omega) ?_
    have hns : insS (insS [] (a.mod.map (·.1))) (b.mod.map (·.1)) = Old.nmU a.mod b.mod :=
      Srt.unique ordS (srt_insS (srt_insS List.Pairwise.nil _) _) (Old.srt_nmU _ _) fun x => by
        rw [mem_insS, mem_insS, Old.mem_nmU]; simp
    rw [hns]
    have hnl := Old.nmU_len a.mod b.mod
    generalize hU : (if w then wd else jn) = U at h
    have hmd : (Old.mdU U a.mod b.mod).length = (Old.nmU a.mod b.mod).length := by simp [Old.mdU]
    refine Pl.loop2_count 0 (Old.nmU a.mod b.mod).length (fun i l => l = ((Old.mdU U a.mod b.mod).take i).map nmU') (Nat.zero_le _) (by simp) ?_
    rintro i l next hi rfl hnx
    by_cases hlt : i < (Old.nmU a.mod b.mod).length
    · refine (Pl.ite_pos (int_lt.2 hlt)).2 ?_
      obtain ⟨s, hs⟩ : ∃ s, (Old.nmU a.mod b.mod)[i]? = some s := ⟨_, List.getElem?_eq_getElem hlt⟩
      refine Pl.get_nat hs (Pl.get_nat hs (Pl.get_nat hs ?_))
      refine s_mod (by omega) (s_mod (by omega) (s_two (gt_ok ha.iv s) (gt_ok hb.iv s) ?_))
      refine Pl.app_intro (by simp; omega) ?_
      rw [wrap_inc hlt (by omega)]
      refine hnx _ hlt ?_
      have hx : (Old.mdU U a.mod b.mod)[i]? = some (s, U (Old.gt a.mod s) (Old.gt b.mod s)) := by simp [Old.mdU, hs]
      rw [List.take_add_one, hx, ← hU]
      cases w <;> simp [nmU']
    · have : i = (Old.nmU a.mod b.mod).length := by omega
      subst this
      refine (Pl.ite_neg (by simp)).2 ?_
      rw [List.take_of_length_le (by omega)]
      have : (if w = true then wd a.ret b.ret else jn a.ret b.ret) = U a.ret b.ret := by rw [← hU]; cases w <;> rfl
      rw [this]
      exact h
  by_cases he : a.ends = true
  · exact (Pl.ite_pos he).2 (key true (by simp [he]))
  · exact (Pl.ite_neg he).2 (key b.ends (by simp at he; simp [he]))
theorem s_light {l : List T_augurlaw19_Raw} (hl : l.length ≤ 1000) {R : Bool → Prop} (h : R (decide (∀ r ∈ l, r.Alarms.length ≤ 8 ∧ r.Mod.length ≤ 6))) : p_augurlaw19_light l R := by
  unfold p_augurlaw19_light
  refine Pl.loop1_count 0 l.length (fun i => ∀ r ∈ l.take i, r.Alarms.length ≤ 8 ∧ r.Mod.length ≤ 6) (Nat.zero_le _) (by simp) ?_
  intro i next hi hI hnx
  by_cases hlt : i < l.length
  · refine (Pl.ite_pos (int_lt.2 hlt)).2 ?_
    obtain ⟨r, hr⟩ : ∃ r, l[i]? = some r := ⟨_, List.getElem?_eq_getElem hlt⟩
    refine Pl.get_nat hr ?_
    have bad : ¬ (r.Alarms.length ≤ 8 ∧ r.Mod.length ≤ 6) → R false := fun hb => by
      have : ¬ ∀ r ∈ l, r.Alarms.length ≤ 8 ∧ r.Mod.length ≤ 6 := fun h => hb (h r (List.mem_of_getElem? hr))
      rw [decide_eq_false this] at h; exact h
    refine Pl.join_intro ?_
    by_cases c1 : r.Alarms.length ≤ 8
    · refine (Pl.ite_neg (by omega)).2 (Pl.get_nat hr ?_)
      by_cases c2 : r.Mod.length ≤ 6
      · refine (Pl.ite_neg (by simp; omega)).2 ?_
        rw [wrap_inc hlt (by omega)]
        refine hnx hlt fun q hq => ?_
        rw [List.take_add_one, hr] at hq
        simp only [Option.toList_some, List.mem_append, List.mem_singleton] at hq
        rcases hq with hq | rfl
        · exact hI q hq
        · exact ⟨c1, c2⟩
      · exact (Pl.ite_pos (by simp; omega)).2 (bad fun h => c2 h.2)
    · exact (Pl.ite_pos (by omega)).2 ((Pl.ite_pos rfl).2 (bad fun h => c1 h.1))
  · have : i = l.length := by omega
    subst this
    refine (Pl.ite_neg (by simp)).2 ?_
    rw [List.take_length] at hI
    have : (∀ r ∈ l, r.Alarms.length ≤ 8 ∧ r.Mod.length ≤ 6) := hI
    rw [decide_eq_true this] at h; exact h
end Go.Proofs.Ytaibfbakhiainaa
namespace Go.Proofs.Ytaibfbakhiainaa
open Go Go.Sh Go.Sx
theorem gt_none {l : List (Str × Iv)} {k : Str} (h : k ∉ l.map (·.1)) : Old.gt l k = none := by
  unfold Old.gt
  cases e : Sh.get l k with
  | none => rfl
  | some v => exact absurd (List.mem_map.2 ⟨_, get_mem e, rfl⟩) h
theorem gt_cons (k k' : Str) (v : Iv) (l : List (Str × Iv)) : Old.gt ((k', v) :: l) k = if k' = k then v else Old.gt l k := by
  unfold Old.gt
  by_cases h : k' = k
  · simp [Sh.get, h]
  · simp [Sh.get, h]
theorem gt_map (f : Str → Iv) (k : Str) : ∀ l : List Str, Old.gt (l.map fun k => (k, f k)) k = if k ∈ l then f k else none
  | [] => rfl
  | k' :: l => by
    rw [List.map_cons, gt_cons, gt_map f k l]
    by_cases e : k' = k
    · subst e; simp
    · rw [if_neg e]
      have : k ≠ k' := fun h => e h.symm
      simp [this]
theorem mod_eq : ∀ {l : List (Str × Iv)}, (l.map (·.1)).Nodup → l = (l.map (·.1)).map fun k => (k, Old.gt l k)
  | [], _ => rfl
  | (k, v) :: l, h => by
    rw [List.map_cons, List.nodup_cons] at h
    have ih := mod_eq h.2
    rw [List.map_cons, List.map_cons, gt_cons, if_pos rfl]
    congr 1
    conv => lhs; rw [ih]
    refine List.map_congr_left fun k' hk' => ?_
    rw [gt_cons, if_neg]
    rintro rfl
    exact h.1 hk'
theorem gt_mdU {U : Iv → Iv → Iv} (hU : U none none = none) (a b : List (Str × Iv)) (k : Str) : Old.gt (Old.mdU U a b) k = U (Old.gt a k) (Old.gt b k) := by
  unfold Old.mdU
  rw [gt_map fun k => U (Old.gt a k) (Old.gt b k)]
  split
  · rfl
  · rename_i h
    rw [Old.mem_nmU, not_or] at h
    rw [gt_none h.1, gt_none h.2, hU]
theorem sm_ext {a b : Old.Sm} (ha : Vd a) (hb : Vd b) (h1 : ∀ x, x ∈ a.al ↔ x ∈ b.al) (h2 : a.ends = b.ends) (h3 : a.ret = b.ret) (h4 : ∀ k, k ∈ a.mod.map (·.1) ↔ k ∈ b.mod.map (·.1))
    (h5 : ∀ k, Old.gt a.mod k = Old.gt b.mod k) : a = b := by
  have e1 : a.al = b.al := Srt.unique Old.ordA ha.al hb.al h1
  have e4 : a.mod.map (·.1) = b.mod.map (·.1) := Srt.unique ordS ha.nd hb.nd h4
  have e5 : a.mod = b.mod := by
    rw [mod_eq ha.nd.nodup, mod_eq hb.nd.nodup, e4]
    exact List.map_congr_left fun k _ => by rw [h5]
  cases a; cases b
  simp only at e1 h2 h3 e5
  rw [e1, h2, h3, e5]
abbrev J (a b : Old.Sm) : Old.Sm := sjn jn a b
abbrev W (a b : Old.Sm) : Old.Sm := sjn wd a b
def bot : Old.Sm := ⟨[], false, none, []⟩
theorem bot_vd : Vd bot := ⟨List.Pairwise.nil, by simp [bot], trivial, List.Pairwise.nil, by simp [bot], by simp [bot]⟩
theorem J_vd {a b : Old.Sm} (ha : Vd a) (hb : Vd b) : Vd (J a b) := sjn_vd jnOk ha hb
theorem W_vd {a b : Old.Sm} (ha : Vd a) (hb : Vd b) : Vd (W a b) := sjn_vd wdOk ha hb
theorem mem_al (U : Iv → Iv → Iv) (a b : Old.Sm) (x : Int × Int) : x ∈ (sjn U a b).al ↔ x ∈ a.al ∨ x ∈ b.al := Old.mem_unA x _ _
theorem mem_nm (U : Iv → Iv → Iv) (a b : Old.Sm) (k : Str) : k ∈ (sjn U a b).mod.map (·.1) ↔ k ∈ a.mod.map (·.1) ∨ k ∈ b.mod.map (·.1) := by
  show k ∈ (Old.mdU U a.mod b.mod).map (·.1) ↔ _
  rw [mdU_names, Old.mem_nmU]
theorem gt_J (a b : Old.Sm) (k : Str) : Old.gt (J a b).mod k = jn (Old.gt a.mod k) (Old.gt b.mod k) := gt_mdU rfl _ _ _
theorem gt_W (a b : Old.Sm) (k : Str) : Old.gt (W a b).mod k = wd (Old.gt a.mod k) (Old.gt b.mod k) := gt_mdU rfl _ _ _
theorem J_comm {a b : Old.Sm} (ha : Vd a) (hb : Vd b) : J a b = J b a :=
  sm_ext (J_vd ha hb) (J_vd hb ha) (fun x => by rw [mem_al, mem_al, or_comm]) (Bool.or_comm _ _) (jn_comm _ _) (fun k => by rw [mem_nm, mem_nm, or_comm]) (fun k => by rw [gt_J, gt_J, jn_comm])
theorem J_assoc {a b c : Old.Sm} (ha : Vd a) (hb : Vd b) (hc : Vd c) : J (J a b) c = J a (J b c) :=
  sm_ext (J_vd (J_vd ha hb) hc) (J_vd ha (J_vd hb hc)) (fun x => by rw [mem_al, mem_al, mem_al, mem_al, or_assoc]) (Bool.or_assoc _ _ _) (jn_assoc _ _ _)
    (fun k => by rw [mem_nm, mem_nm, mem_nm, mem_nm, or_assoc]) (fun k => by rw [gt_J, gt_J, gt_J, gt_J, jn_assoc])
theorem J_self {a : Old.Sm} (ha : Vd a) : J a a = a :=
  sm_ext (J_vd ha ha) ha (fun x => by rw [mem_al, or_self]) (Bool.or_self _) (jn_self _) (fun k => by rw [mem_nm, or_self]) (fun k => by rw [gt_J, jn_self])
theorem J_bot {a : Old.Sm} (ha : Vd a) : J a bot = a :=
  sm_ext (J_vd ha bot_vd) ha (fun x => by rw [mem_al]; simp [bot]) (Bool.or_false _) (jn_none _) (fun k => by rw [mem_nm]; simp [bot]) (fun k => by rw [gt_J]; exact jn_none _)
theorem bot_J {a : Old.Sm} (ha : Vd a) : J bot a = a := by rw [J_comm bot_vd ha, J_bot ha]
theorem J_left {a b : Old.Sm} (ha : Vd a) (hb : Vd b) : J a (J a b) = J a b := by rw [← J_assoc ha ha hb, J_self ha]
theorem J_right {a b : Old.Sm} (ha : Vd a) (hb : Vd b) : J b (J a b) = J a b := by rw [J_comm ha hb, J_left hb ha]
theorem J_least {a b c : Old.Sm} (ha : Vd a) (hb : Vd b) (hc : Vd c) (h1 : J a c = c) (h2 : J b c = c) : J (J a b) c = c := by rw [J_assoc ha hb hc, h2, h1]
theorem J_W {a b : Old.Sm} (ha : Vd a) (hb : Vd b) : J (J a b) (W a b) = W a b :=
  sm_ext (J_vd (J_vd ha hb) (W_vd ha hb)) (W_vd ha hb) (fun x => by rw [mem_al, mem_al, mem_al, or_self]) (Bool.or_self _) (jn_wd ha.ret hb.ret)
    (fun k => by rw [mem_nm, mem_nm, mem_nm, or_self]) (fun k => by rw [gt_J, gt_J, gt_W, jn_wd (gt_ok ha.iv k) (gt_ok hb.iv k)])
end Go.Proofs.Ytaibfbakhiainaa
namespace Go.Proofs.Ytaibfbakhiainaa
open Go Go.Sh Go.Sx
/-- A number's bytes. -/
def encN (v : Nat) : List Int := if h : v < 128 then [(v : Int)] else ((v % 128 + 128 : Nat) : Int) :: encN (v / 128)
termination_by v
theorem encN_lt {v : Nat} (h : v < 128) : encN v = [(v : Int)] := by rw [encN, dif_pos h]
theorem encN_ge {v : Nat} (h : ¬ v < 128) : encN v = ((v % 128 + 128 : Nat) : Int) :: encN (v / 128) := by rw [encN, dif_neg h]
theorem bor128 : ∀ k : Fin 256, Pl.bor .u8 (k.val : Int) 128 = ((k.val % 128 + 128 : Nat) : Int) := by decide +kernel
theorem wrap_u8n (v : Nat) : IntKind.wrap .u8 (v : Int) = ((v % 256 : Nat) : Int) := by
  unfold IntKind.wrap
  have : IntKind.signed .u8 = false := rfl
  simp only [this, Bool.false_and, Bool.false_eq_true, if_false]
  show (v : Int) % 2 ^ 8 = _
  omega
theorem wrap_u64n {v : Nat} (h : v < 18446744073709551616) : IntKind.wrap .u64 (v : Int) = v := by
  unfold IntKind.wrap
  have : IntKind.signed .u64 = false := rfl
  simp only [this, Bool.false_and, Bool.false_eq_true, if_false]
  show (v : Int) % 2 ^ 64 = _
  omega
theorem s_Num {b : List Int} {l : List Nat} (hl : ∀ v ∈ l, v < 18446744073709551616) {R : T_code_plain → Prop} (hb : b.length + (l.flatMap encN).length ≤ 100000000) (hn : l.length ≤ 1000000)
    (h : R ⟨b ++ l.flatMap encN⟩) : p_code_plain_Num ⟨b⟩ (l.map fun v : Nat => (v : Int)) R := by
  unfold p_code_plain_Num
  refine Pl.loop2_count 0 l.length (fun i c => c = b ++ (l.take i).flatMap encN) (Nat.zero_le _) (by simp) ?_
  rintro i c next hi rfl hnx
  by_cases hlt : i < l.length
  · refine (Pl.ite_pos (by simpa using hlt)).2 ?_
    obtain ⟨v, hv⟩ : ∃ v, l[i]? = some v := ⟨_, List.getElem?_eq_getElem hlt⟩
    refine Pl.get_nat (a := (v : Int)) (by simp [hv]) ?_
    have hv2 := hl v (List.mem_of_getElem? hv)
    have e1 : b ++ (l.take (i + 1)).flatMap encN = b ++ (l.take i).flatMap encN ++ encN v := by
      rw [List.take_add_one, hv, List.flatMap_append]; simp
    have hlen : (b ++ (l.take (i + 1)).flatMap encN).length ≤ 100000000 := by
      have : (l.flatMap encN).length = ((l.take (i + 1)).flatMap encN).length + ((l.drop (i + 1)).flatMap encN).length := by
        rw [← List.length_append, ← List.flatMap_append, List.take_append_drop]
      rw [List.length_append]; omega
    have hnx' := hnx _ hlt rfl
    rw [e1] at hlen hnx'
    generalize b ++ (l.take i).flatMap encN = c at *
    refine ⟨fun m x d => ∃ u : Nat, x = u ∧ m = u ∧ u < 18446744073709551616 ∧ d ++ encN u = c ++ encN v, v, ⟨v, rfl, rfl, hv2, rfl⟩, ?_⟩
    rintro m x d ⟨u, rfl, rfl, hu, he⟩
    have hlen2 : d.length + (encN m).length ≤ 100000000 := by
      rw [← List.length_append, he]; exact hlen
    by_cases h128 : m < 128
    · refine (Pl.ite_neg (by omega)).2 ?_
      rw [encN_lt h128] at he hlen2
      refine Pl.app_intro (by simp at hlen2 ⊢; omega) ?_
      rw [wrap_u8n, wrap_inc hlt (by omega), show m % 256 = m by omega, he]
      exact hnx'
    · refine (Pl.ite_pos (by omega)).2 ?_
      rw [encN_ge h128] at he hlen2
      refine Pl.app_intro (by simp at hlen2 ⊢; omega) ⟨by decide, m / 128, by omega, m / 128, ?_, rfl, by omega, ?_⟩
      · show (m : Int).fdiv (2 ^ 7) = _
        rw [Int.fdiv_eq_ediv_of_nonneg _ (by decide)]
        omega
      · rw [wrap_u8n, bor128 ⟨m % 256, by omega⟩]
        rw [show m % 256 % 128 = m % 128 by omega, List.append_assoc]
        exact he
  · have : i = l.length := by omega
    subst this
    refine (Pl.ite_neg (by simp)).2 ?_
    rw [List.take_length]; exact h
end Go.Proofs.Ytaibfbakhiainaa
namespace Go.Proofs.Ytaibfbakhiainaa
open Go Go.Sh Go.Sx
def zig (z : Int) : Nat := if 0 ≤ z then (2 * z).toNat else (2 * -(z + 1) + 1).toNat
theorem zig_lt {z : Int} (h : minI ≤ z ∧ z ≤ maxI) : zig z < 18446744073709551616 := by
  unfold zig minI maxI at *
  split <;> omega
theorem wrap_u64 {i : Int} (h1 : 0 ≤ i) (h2 : i < 18446744073709551616) : IntKind.wrap .u64 i = i := by
  have := wrap_u64n (v := i.toNat) (by omega)
  rwa [show ((i.toNat : Nat) : Int) = i by omega] at this
theorem zig_pos {a : Int} (h : minI ≤ a ∧ a ≤ maxI) (h0 : 0 ≤ a) : IntKind.wrap .u64 ((IntKind.wrap .u64 a) * 2) = (zig a : Int) := by
  unfold minI maxI at h
  rw [wrap_u64 h0 (by omega), wrap_u64 (by omega) (by omega)]
  unfold zig; rw [if_pos h0]; omega
theorem zig_neg {a : Int} (h : minI ≤ a ∧ a ≤ maxI) (h0 : ¬ 0 ≤ a) :
    IntKind.wrap .u64 ((IntKind.wrap .u64 ((IntKind.wrap .u64 (IntKind.wrap .i64 (0 - (IntKind.wrap .i64 (a + 1))))) * 2)) + 1) = (zig a : Int) := by
  unfold minI maxI at h
  rw [wrap_i64 (i := a + 1) (by omega) (by omega), wrap_i64 (by omega) (by omega), wrap_u64 (i := 0 - (a + 1)) (by omega) (by omega), wrap_u64 (i := (0 - (a + 1)) * 2) (by omega) (by omega), wrap_u64 (by omega) (by omega)]
  unfold zig; rw [if_neg h0]; omega
theorem encN_len : ∀ (k v : Nat), v < 128 ^ (k + 1) → (encN v).length ≤ k + 1
  | 0, v, h => by rw [encN_lt (by simpa using h)]; simp
  | k + 1, v, h => by
    by_cases h1 : v < 128
    · rw [encN_lt h1]; simp
    · rw [encN_ge h1]
      have := encN_len k (v / 128) (by
        rw [Nat.div_lt_iff_lt_mul (by decide)]
        rwa [Nat.pow_succ] at h)
      simp only [List.length_cons]; omega
theorem encN_10 {v : Nat} (h : v < 18446744073709551616) : (encN v).length ≤ 10 := encN_len 9 v (Nat.lt_of_lt_of_le h (by decide))
theorem encN_byte (v : Nat) : ∀ x ∈ encN v, 0 ≤ x ∧ x < 256 := by
  induction v using Nat.strongRecOn with
  | _ v ih =>
    intro x hx
    by_cases h : v < 128
    · rw [encN_lt h, List.mem_singleton] at hx; omega
    · rw [encN_ge h, List.mem_cons] at hx
      rcases hx with rfl | hx
      · omega
      · exact ih (v / 128) (by omega) x hx
theorem flat_len {l : List Nat} (hl : ∀ v ∈ l, v < 18446744073709551616) : (l.flatMap encN).length ≤ 10 * l.length := by
  induction l with
  | nil => simp
  | cons v l ih =>
    have := ih fun u hu => hl u (List.mem_cons_of_mem _ hu)
    have h2 := encN_10 (hl v (by simp))
    rw [List.flatMap_cons, List.length_append, List.length_cons]; omega
theorem s_Num1 {b : List Int} {v : Nat} (hv : v < 18446744073709551616) (hb : b.length ≤ 10000000) {R : T_code_plain → Prop} (h : R ⟨b ++ encN v⟩) : p_code_plain_Num ⟨b⟩ [(v : Int)] R := by
  have := s_Num (b := b) (l := [v]) (by simpa using hv) (R := R) (by have := encN_10 hv; simp; omega) (by simp) (by simpa using h)
  simpa using this
theorem s_Int {b : List Int} {l : List Int} (hl : ∀ v ∈ l, minI ≤ v ∧ v ≤ maxI) {R : T_code_plain → Prop} (hb : b.length ≤ 1000000) (hn : l.length ≤ 1000)
    (h : R ⟨b ++ (l.map zig).flatMap encN⟩) : p_code_plain_Int ⟨b⟩ l R := by
  unfold p_code_plain_Int
  refine Pl.loop2_count 0 l.length (fun i c => c = b ++ ((l.take i).map zig).flatMap encN) (Nat.zero_le _) (by simp) ?_
  rintro i c next hi rfl hnx
  by_cases hlt : i < l.length
  · refine (Pl.ite_pos (int_lt.2 hlt)).2 ?_
    obtain ⟨v, hv⟩ : ∃ v, l[i]? = some v := ⟨_, List.getElem?_eq_getElem hlt⟩
    refine Pl.join_intro (Pl.get_nat hv ?_)
    have hv2 := hl v (List.mem_of_getElem? hv)
    have e1 : b ++ ((l.take (i + 1)).map zig).flatMap encN = b ++ ((l.take i).map zig).flatMap encN ++ encN (zig v) := by
      rw [List.take_add_one, hv, List.map_append, List.flatMap_append]; simp
    have hlen : (b ++ ((l.take i).map zig).flatMap encN).length ≤ 10000000 := by
      have := flat_len (l := (l.take i).map zig) fun v hv => by
        obtain ⟨u, hu, rfl⟩ := List.mem_map.1 hv
        exact zig_lt (hl u (List.mem_of_mem_take hu))
      rw [List.length_map, List.length_take] at this
      rw [List.length_append]; omega
    have hnx' := hnx _ hlt rfl
    rw [e1] at hnx'
    rw [wrap_inc hlt (by omega)]
    by_cases h0 : 0 ≤ v
    · refine (Pl.ite_pos h0).2 ?_
      rw [zig_pos hv2 h0]
      exact s_Num1 (zig_lt hv2) hlen hnx'
    · refine (Pl.ite_neg h0).2 ?_
      rw [zig_neg hv2 h0]
      exact s_Num1 (zig_lt hv2) hlen hnx'
  · have : i = l.length := by omega
    subst this
    refine (Pl.ite_neg (by simp)).2 ?_
    rw [List.take_length]; exact h
def encB (x : Bool) : Int := if x then 1 else 0
theorem s_Bool1 {b : List Int} {x : Bool} (hb : b.length ≤ 10000000) {R : T_code_plain → Prop} (h : R ⟨b ++ [encB x]⟩) : p_code_plain_Bool ⟨b⟩ [x] R := by
  unfold p_code_plain_Bool
  refine Pl.loop2_count 0 1 (fun i c => c = if i = 0 then b else b ++ [encB x]) (Nat.zero_le _) (by simp) ?_
  rintro i c next hi rfl hnx
  by_cases hlt : i < 1
  · have : i = 0 := by omega
    subst this
    refine (Pl.ite_pos (by simp)).2 (Pl.join_intro (Pl.get_nat (i := 0) (a := x) rfl ?_))
    rw [wrap_inc (n := 1) hlt (by omega)]
    rw [if_pos rfl]
    cases x with
    | true => exact (Pl.ite_pos rfl).2 (Pl.app_intro (by simp; omega) (hnx _ hlt rfl))
    | false => exact (Pl.ite_neg (by simp)).2 (Pl.app_intro (by simp; omega) (hnx _ hlt rfl))
  · have : i = 1 := by omega
    subst this
    exact (Pl.ite_neg (by simp)).2 h
def encIv : Iv → List Int
  | none => [0]
  | some (l, h) => 1 :: (encN (zig l) ++ encN (zig h))
theorem encIv_len {v : Iv} (hv : v.Ok) : (encIv v).length ≤ 21 := by
  rcases v with _ | ⟨l, g⟩
  · simp [encIv]
  · have h1 := encN_10 (zig_lt (z := l) (by simp only [Iv.Ok] at hv; unfold minI maxI at *; omega))
    have h2 := encN_10 (zig_lt (z := g) (by simp only [Iv.Ok] at hv; unfold minI maxI at *; omega))
    simp only [encIv, List.length_cons, List.length_append]; omega
theorem s_wIv {b : List Int} {v : Iv} (hv : v.Ok) (hb : b.length ≤ 100000) {R : T_code_Writer → Prop} (h : R ⟨⟨b ++ encIv v⟩⟩) : p_code_Writer_interval ⟨⟨b⟩⟩ (ivU v) R := by
  unfold p_code_Writer_interval
  rcases v with _ | ⟨l, g⟩
  · refine s_Bool1 (x := false) (by omega) ((Pl.ite_neg (by simp [ivU])).2 h)
  · refine s_Bool1 (x := true) (by omega) ((Pl.ite_pos rfl).2 ?_)
    simp only [Iv.Ok] at hv
    refine s_Int (l := [l, g]) (by
      intro v hv'
      simp only [List.mem_cons, List.not_mem_nil, or_false] at hv'
      unfold minI maxI at *
      rcases hv' with rfl | rfl <;> omega) (by simp; omega) (by simp) ?_
    simpa [encIv, encB] using h
theorem s_Text1 {b : List Int} {s : Str} (hs : s.length ≤ 1000) (hb : b.length ≤ 100000) {R : T_code_plain → Prop} (h : R ⟨b ++ (encN s.length ++ Pl.bytes s)⟩) : p_code_plain_Text ⟨b⟩ [s] R := by
  unfold p_code_plain_Text
  refine Pl.loop2_count 0 1 (fun i c => c = if i = 0 then b else b ++ (encN s.length ++ Pl.bytes s)) (Nat.zero_le _) (by simp) ?_
  rintro i c next hi rfl hnx
  by_cases hlt : i < 1
  · have : i = 0 := by omega
    subst this
    refine (Pl.ite_pos (by simp)).2 (Pl.get_nat (i := 0) (a := s) rfl ?_)
    rw [wrap_inc (n := 1) hlt (by omega), wrap_u64n (by omega), if_pos rfl]
    refine s_Num1 (by omega) (by omega) ?_
    have := encN_10 (v := s.length) (by omega)
    refine Pl.app_intro (by simp [Pl.bytes]; omega) (hnx _ hlt ?_)
    simp
  · have : i = 1 := by omega
    subst this
    exact (Pl.ite_neg (by simp)).2 h
end Go.Proofs.Ytaibfbakhiainaa
namespace Go.Proofs.Ytaibfbakhiainaa
open Go Go.Sh Go.Sx
def encAl (p : Int × Int) : List Int := encN (zig p.1) ++ encN (zig p.2)
def encNm (p : Str × Iv) : List Int := encN p.1.length ++ Pl.bytes p.1 ++ encIv p.2
def encSm (a : Old.Sm) : List Int := encN a.al.length ++ a.al.flatMap encAl ++ [encB a.ends] ++ encIv a.ret ++ encN a.mod.length ++ a.mod.flatMap encNm
theorem fl_len {α : Type} {f : α → List Int} {n : Nat} {l : List α} (h : ∀ x ∈ l, (f x).length ≤ n) : (l.flatMap f).length ≤ n * l.length := by
  induction l with
  | nil => simp
  | cons x l ih =>
    have := ih fun y hy => h y (List.mem_cons_of_mem _ hy)
    have h2 := h x (by simp)
    rw [List.flatMap_cons, List.length_append, List.length_cons, Nat.mul_add]; omega
theorem Vd.ai {a : Old.Sm} (ha : Vd a) : ∀ p ∈ a.al, (minI ≤ p.1 ∧ p.1 ≤ maxI) ∧ (minI ≤ p.2 ∧ p.2 ≤ maxI) := fun p hp => by
  have := ha.ac p hp
  unfold minI maxI; omega
theorem encAl_len {a : Old.Sm} (ha : Vd a) : ∀ p ∈ a.al, (encAl p).length ≤ 20 := fun p hp => by
  have h := ha.ai p hp
  have h1 := encN_10 (zig_lt h.1)
  have h2 := encN_10 (zig_lt h.2)
  simp only [encAl, List.length_append]; omega
theorem encNm_len {a : Old.Sm} (ha : Vd a) : ∀ p ∈ a.mod, (encNm p).length ≤ 40 := fun p hp => by
  have h1 := nms_short (ha.nm p hp)
  have h2 := encIv_len (ha.iv p hp)
  have h3 := encN_10 (v := p.1.length) (by omega)
  simp only [encNm, List.length_append, Pl.bytes, List.length_map]; omega
theorem s_wSm {a : Old.Sm} (ha : Vd a) {R : T_code_Writer → Prop} (h : R ⟨⟨encSm a⟩⟩) : p_code_Writer_Summary ⟨⟨[]⟩⟩ [smU a] R := by
  have la := ha.alen
  have lm := ha.mlen
  have fa := fl_len (encAl_len ha)
  have fm := fl_len (encNm_len ha)
  have n1 := encN_10 (v := a.al.length) (by omega)
  have n2 := encN_10 (v := a.mod.length) (by omega)
  have ri := encIv_len ha.ret
  unfold p_code_Writer_Summary
  refine Pl.loop2_count 0 1 (fun i c => c = if i = 0 then [] else encSm a) (Nat.zero_le _) (by simp) ?_
  rintro i c next hi rfl hnx
  by_cases hlt : i < 1
  · have : i = 0 := by omega
    subst this
    refine (Pl.ite_pos (by simp)).2 (Pl.get_nat (i := 0) (a := smU a) rfl ?_)
    have hnx' := hnx _ hlt rfl
    rw [wrap_inc (n := 1) hlt (by omega), if_pos rfl]
    have e1 : (List.length (smU a).Alarms : Int) = ((a.al.length : Nat) : Int) := by simp [smU]
    have e2 : (List.length (smU a).Mod : Int) = ((a.mod.length : Nat) : Int) := by simp [smU]
    rw [e1, e2, wrap_u64n (by omega), wrap_u64n (by omega)]
    refine s_Num1 (by omega) (by simp) ?_
    rw [List.nil_append]
    refine Pl.loop2_count 0 a.al.length (fun i c => c = encN a.al.length ++ (a.al.take i).flatMap encAl) (Nat.zero_le _) (by simp) ?_
    rintro i c next2 hi rfl hnx2
    by_cases hlt2 : i < a.al.length
    · refine (Pl.ite_pos (by omega)).2 ?_
      obtain ⟨p, hp⟩ : ∃ p, a.al[i]? = some p := ⟨_, List.getElem?_eq_getElem hlt2⟩
      refine Pl.get_nat (a := alU p) (by simp [smU, hp]) ?_
      have hpi := ha.ai p (List.mem_of_getElem? hp)
      have hf : ((a.al.take i).flatMap encAl).length ≤ 20 * a.al.length := by
        have := fl_len (f := encAl) (n := 20) (l := a.al.take i) fun q hq => encAl_len ha q (List.mem_of_mem_take hq)
        rw [List.length_take] at this; omega
      refine s_Int (l := [p.1, p.2]) (by
        intro v hv
        simp only [List.mem_cons, List.not_mem_nil, or_false] at hv
        rcases hv with rfl | rfl
        · exact hpi.1
        · exact hpi.2) (by rw [List.length_append]; omega) (by simp) ?_
      rw [wrap_inc hlt2 (by omega)]
      refine hnx2 _ hlt2 ?_
      rw [List.take_add_one, hp, List.flatMap_append]
      simp [encAl]
    · have : i = a.al.length := by omega
      subst this
      refine (Pl.ite_neg (by omega)).2 ?_
      rw [List.take_length]
      refine s_Bool1 (x := a.ends) (by rw [List.length_append]; omega) ?_
      refine s_wIv ha.ret (by simp only [List.length_append, List.length_cons, List.length_nil]; omega) ?_
      refine s_Num1 (by omega) (by simp only [List.length_append, List.length_cons, List.length_nil]; omega) ?_
      generalize hB : encN a.al.length ++ a.al.flatMap encAl ++ [encB a.ends] ++ encIv a.ret ++ encN a.mod.length = B
      have hBl : B.length ≤ 10000 := by
        rw [← hB]; simp only [List.length_append, List.length_cons, List.length_nil]; omega
      refine Pl.loop2_count 0 a.mod.length (fun i c => c = B ++ (a.mod.take i).flatMap encNm) (Nat.zero_le _) (by simp) ?_
      rintro i c next3 hi rfl hnx3
      by_cases hlt3 : i < a.mod.length
      · refine (Pl.ite_pos (by omega)).2 ?_
        obtain ⟨p, hp⟩ : ∃ p, a.mod[i]? = some p := ⟨_, List.getElem?_eq_getElem hlt3⟩
        refine Pl.get_nat (a := nmU' p) (by simp [smU, hp]) ?_
        have hm := List.mem_of_getElem? hp
        have hk := nms_short (ha.nm p hm)
        have hf : ((a.mod.take i).flatMap encNm).length ≤ 40 * a.mod.length := by
          have := fl_len (f := encNm) (n := 40) (l := a.mod.take i) fun q hq => encNm_len ha q (List.mem_of_mem_take hq)
          rw [List.length_take] at this; omega
        have h3 := encN_10 (v := p.1.length) (by omega)
        refine s_Text1 (s := p.1) (by omega) (by rw [List.length_append]; omega) ?_
        refine s_wIv (ha.iv p hm) (by simp only [List.length_append, Pl.bytes, List.length_map]; omega) ?_
        rw [wrap_inc hlt3 (by omega)]
        refine hnx3 _ hlt3 ?_
        rw [List.take_add_one, hp, List.flatMap_append]
        simp [encNm]
      · have : i = a.mod.length := by omega
        subst this
        refine (Pl.ite_neg (by omega)).2 ?_
        rw [List.take_length, ← hB]
        exact hnx'
  · have : i = 1 := by omega
    subst this
    exact (Pl.ite_neg (by simp)).2 h
theorem bytes_of {l : List Int} (h : ∀ x ∈ l, 0 ≤ x ∧ x < 256) : Pl.bytes (l.map fun x => UInt8.ofNat x.toNat) = l := by
  unfold Pl.bytes
  rw [List.map_map]
  conv => rhs; rw [← List.map_id l]
  refine List.map_congr_left fun x hx => ?_
  have := h x hx
  simp only [Function.comp, id, UInt8.toNat_ofNat']
  omega
theorem encIv_byte (v : Iv) : ∀ x ∈ encIv v, 0 ≤ x ∧ x < 256 := by
  rcases v with _ | ⟨l, h⟩
  · simp [encIv]
  · intro x hx
    simp only [encIv, List.mem_cons, List.mem_append] at hx
    rcases hx with rfl | hx | hx
    · omega
    · exact encN_byte _ x hx
    · exact encN_byte _ x hx
theorem bytes_byte (s : Str) : ∀ x ∈ Pl.bytes s, 0 ≤ x ∧ x < 256 := by
  intro x hx
  obtain ⟨c, _, rfl⟩ := List.mem_map.1 hx
  have := c.toNat_lt
  omega
theorem encSm_byte (a : Old.Sm) : ∀ x ∈ encSm a, 0 ≤ x ∧ x < 256 := by
  intro x hx
  simp only [encSm, encAl, encNm, List.mem_append, List.mem_flatMap, List.mem_singleton] at hx
  rcases hx with ((((hx | ⟨p, _, hx | hx⟩) | rfl) | hx) | hx) | ⟨p, _, (hx | hx) | hx⟩
  · exact encN_byte _ x hx
  · exact encN_byte _ x hx
  · exact encN_byte _ x hx
  · unfold encB; split <;> omega
  · exact encIv_byte _ x hx
  · exact encN_byte _ x hx
  · exact encN_byte _ x hx
  · exact bytes_byte _ x hx
  · exact encIv_byte _ x hx
theorem encSm_len {a : Old.Sm} (ha : Vd a) : (encSm a).length ≤ 10000 := by
  have la := ha.alen
  have lm := ha.mlen
  have fa := fl_len (encAl_len ha)
  have fm := fl_len (encNm_len ha)
  have n1 := encN_10 (v := a.al.length) (by omega)
  have n2 := encN_10 (v := a.mod.length) (by omega)
  have ri := encIv_len ha.ret
  simp only [encSm, List.length_append, List.length_cons, List.length_nil]; omega
theorem s_Clone {l : List Int} (hl : l.length ≤ 100000000) {R : List Int → Prop} (h : R l) : p_slices_Clone_byte_byte l R := by
  intro b hb
  by_cases e : b = true
  · refine (Pl.ite_pos e).2 ?_
    rw [← hb e]; exact h
  · exact (Pl.ite_neg e).2 (Pl.app_intro (by simp; omega) (by simpa using h))
/-- A summary's text. -/
def txt (a : Old.Sm) : Str := (encSm a).map fun x => UInt8.ofNat x.toNat
theorem bytes_txt (a : Old.Sm) : Pl.bytes (txt a) = encSm a := bytes_of (encSm_byte a)
theorem s_Bytes {a : Old.Sm} (ha : Vd a) {R : Str → Prop} (h : R (txt a)) : p_digest_Bytes (smU a) R := by
  unfold p_digest_Bytes p_code_NewWriter
  refine s_wSm ha ?_
  unfold p_code_plain_Bytes
  refine s_Clone (by have := encSm_len ha; show (encSm a).length ≤ _; omega) ?_
  exact ⟨txt a, bytes_txt a, h⟩
end Go.Proofs.Ytaibfbakhiainaa
namespace Go.Proofs.Ytaibfbakhiainaa
open Go Go.Sh Go.Sx
theorem r_one {b : Int} {t : List Int} {E : T_code_source → Prop} {R : T_code_source → Int → Prop} (h : R ⟨t⟩ b) : p_code_source_one ⟨b :: t⟩ E R := by
  unfold p_code_source_one
  refine Pl.join_intro ((Pl.ite_neg (by simp; omega)).2 ⟨by decide, b, rfl, by decide, by simp; omega, by simp, _, rfl, ?_⟩)
  simpa using h
theorem r_oneE {E : T_code_source → Prop} {R : T_code_source → Int → Prop} (h : E ⟨[]⟩) : p_code_source_one ⟨[]⟩ E R := by
  unfold p_code_source_one
  exact Pl.join_intro ((Pl.ite_pos (by simp)).2 h)
theorem band127 : ∀ k : Fin 128, Pl.bor .u64 0 (Pl.shl .u64 (IntKind.wrap .u64 (Pl.band .u8 (k.val : Int) 127)) (IntKind.wrap .i64 (7 * 0))) = (k.val : Int) := by decide +kernel
/-- A number of one byte. -/
theorem r_num {b : Nat} (hb : b < 128) {t : List Int} {E : T_code_source → Prop} {R : T_code_source → Int → Prop} (h : R ⟨t⟩ b) : p_code_source_num ⟨(b : Int) :: t⟩ E R := by
  unfold p_code_source_num
  refine ⟨fun m x y i l => m = 0 ∧ x = 0 ∧ y = 0 ∧ i = 0 ∧ l = (b : Int) :: t, 0, ⟨rfl, rfl, rfl, rfl, rfl⟩, ?_⟩
  rintro m x y i l ⟨rfl, rfl, rfl, rfl, rfl⟩
  refine (Pl.ite_pos (by decide)).2 (r_one (Pl.join_intro (Pl.join_intro ((Pl.ite_neg (by decide)).2 ((Pl.ite_neg (by simp)).2 ⟨by decide, (Pl.ite_pos (by omega)).2 (Pl.join_intro (Pl.join_intro ?_))⟩)))))
  rw [band127 ⟨b, hb⟩]
  by_cases h0 : (b : Int) = 0
  · refine (Pl.ite_pos h0).2 ((Pl.ite_neg (by simp)).2 ?_)
    exact h
  · exact (Pl.ite_neg h0).2 ((Pl.ite_neg (by simp)).2 h)
/-- A byte that is not the last, and none behind it. -/
theorem r_numE {E : T_code_source → Prop} {R : T_code_source → Int → Prop} (h : E ⟨[]⟩) : p_code_source_num ⟨[255]⟩ E R := by
  unfold p_code_source_num
  refine ⟨fun m x y i l => (m = 1 ∧ i = 0 ∧ l = [255]) ∨ (m = 0 ∧ i = 1 ∧ l = []), 1, .inl ⟨rfl, rfl, rfl⟩, ?_⟩
  rintro m x y i l (⟨rfl, rfl, rfl⟩ | ⟨rfl, rfl, rfl⟩)
  · refine (Pl.ite_pos (by decide)).2 (r_one (Pl.join_intro (Pl.join_intro ((Pl.ite_neg (by decide)).2 ((Pl.ite_neg (by simp)).2 ⟨by decide, (Pl.ite_neg (by decide)).2 ?_⟩)))))
    exact ⟨0, by omega, .inr ⟨rfl, rfl, rfl⟩⟩
  · exact (Pl.ite_pos (by decide)).2 (r_oneE h)
theorem r_int {b : Nat} (hb : 2 * b < 128) {t : List Int} {E : T_code_source → Prop} {R : T_code_source → Int → Prop} (h : R ⟨t⟩ b) : p_code_source_int ⟨((2 * b : Nat) : Int) :: t⟩ E R := by
  unfold p_code_source_int
  have e1 : Int.tmod ((2 * b : Nat) : Int) 2 = 0 := by rw [Int.tmod_eq_emod_of_nonneg (by omega)]; omega
  have e2 : Int.tdiv ((2 * b : Nat) : Int) 2 = (b : Int) := by rw [Int.tdiv_eq_ediv_of_nonneg (by omega)]; omega
  refine r_num hb ⟨by decide, (Pl.ite_pos e1).2 ⟨by decide, ?_⟩⟩
  rw [e2, wrap_u64n (by omega), wrap_i64 (by omega) (by omega)]
  exact h
theorem r_small {b : Nat} (hb : 2 * b < 128) {t : List Int} {E : T_code_source → Prop} {R : T_code_source → Int → Prop} (h : R ⟨t⟩ b) : p_code_source_small ⟨((2 * b : Nat) : Int) :: t⟩ E R := by
  unfold p_code_source_small
  refine r_int hb (Pl.join_intro (Pl.join_intro ((Pl.ite_neg (by omega)).2 ?_)))
  rw [show decide ((2147483647 : Int) < (b : Int)) = false by simp; omega]
  exact (Pl.ite_neg (by simp)).2 h
theorem r_count {b : Nat} (hb : b < 128) {t : List Int} (ht : b ≤ t.length) (hl : t.length ≤ 1000000) {E : T_code_source → Prop} {R : T_code_source → Int → Prop} (h : R ⟨t⟩ b) : p_code_source_count ⟨(b : Int) :: t⟩ E R := by
  unfold p_code_source_count
  refine r_num hb (Pl.join_intro ?_)
  rw [wrap_u64n (by show t.length < _; omega), wrap_i64 (by omega) (by omega)]
  exact (Pl.ite_neg (by show ¬ ((t.length : Int) < _); omega)).2 h
theorem r_bool {x : Bool} {t : List Int} {E : T_code_source → Prop} {R : T_code_source → Bool → Prop} (h : R ⟨t⟩ x) : p_code_source_bool ⟨encB x :: t⟩ E R := by
  unfold p_code_source_bool
  refine r_one (Pl.join_intro ?_)
  cases x with
  | true => exact (Pl.ite_neg (by decide)).2 h
  | false => exact (Pl.ite_neg (by decide)).2 h
theorem r_sum {R : T_code_Reader → T_api_Summary → Prop} (h : R ⟨⟨[]⟩, false⟩ ⟨[⟨1, 3⟩], true, ⟨true, 1, 2⟩, []⟩) : p_code_Reader_Summary ⟨⟨[1, 2, 6, 1, 1, 2, 4, 0]⟩, false⟩ R := by
  unfold p_code_Reader_Summary
  refine (Pl.ite_neg (by simp)).2 ?_
  unfold p_code_source_summary
  refine r_count (b := 1) (by decide) (by decide) (by decide) ?_
  refine ⟨fun m i l a => (m = 1 ∧ i = 0 ∧ l = [2, 6, 1, 1, 2, 4, 0] ∧ a = []) ∨ (m = 0 ∧ i = 1 ∧ l = [1, 1, 2, 4, 0] ∧ a = [⟨1, 3⟩]), 1, .inl ⟨rfl, rfl, rfl, rfl⟩, ?_⟩
  rintro m i l a (⟨rfl, rfl, rfl, rfl⟩ | ⟨rfl, rfl, rfl, rfl⟩)
  · refine (Pl.ite_pos (by decide)).2 (r_small (b := 1) (by decide) (r_small (b := 3) (by decide) (Pl.app_intro (by decide) ?_)))
    exact ⟨0, by omega, .inr ⟨rfl, rfl, rfl, rfl⟩⟩
  · refine (Pl.ite_neg (by decide)).2 (r_bool (x := true) ?_)
    unfold p_code_source_interval
    refine r_bool (x := true) (Pl.join_intro ((Pl.ite_pos rfl).2 (r_int (b := 1) (by decide) (r_int (b := 2) (by decide) ?_))))
    refine r_count (b := 0) (by decide) (by decide) (by decide) ?_
    refine ⟨fun m i l a => i = 0 ∧ l = [] ∧ a = [], 0, ⟨rfl, rfl, rfl⟩, ?_⟩
    rintro m i l a ⟨rfl, rfl, rfl⟩
    exact (Pl.ite_neg (by decide)).2 h
theorem r_sumE {R : T_code_Reader → T_api_Summary → Prop} (h : R ⟨⟨[]⟩, true⟩ zSum) : p_code_Reader_Summary ⟨⟨[255]⟩, false⟩ R := by
  unfold p_code_Reader_Summary
  refine (Pl.ite_neg (by simp)).2 ?_
  unfold p_code_source_summary p_code_source_count
  exact r_numE h
def exR : T_augurlaw19_Raw := ⟨[9], true, 1, 2, []⟩
def exS : Old.Sm := ⟨[(1, 3)], true, some (1, 2), []⟩
theorem made_ex : madeS exR = exS := by rfl
theorem exR_ok : RawOk exR := ⟨by simp [exR], by unfold minI maxI exR; simp, by unfold minI maxI exR; simp, by simp [exR]⟩
theorem exS_vd : Vd exS := made_ex ▸ madeS_vd exR_ok
theorem enc_ex : encSm exS = [1, 2, 6, 1, 1, 2, 4, 0] := by
  simp [encSm, exS, encAl, encIv, encB, zig, encN_lt]
theorem s_Open_ex {R : T_api_Summary → Int → Prop} (h : R (smU exS) 0) : p_digest_Open (txt exS) R := by
  unfold p_digest_Open p_code_NewReader
  rw [bytes_txt, enc_ex]
  refine s_Clone (by decide) (r_sum ?_)
  unfold p_code_Reader_Done
  exact Pl.join_intro ((Pl.ite_neg (by simp)).2 ((Pl.ite_neg (by simp)).2 ((Pl.ite_neg (by simp)).2 h)))
theorem s_Open_ff {R : T_api_Summary → Int → Prop} (h : R ⟨[], false, ⟨false, 0, 0⟩, []⟩ 20) : p_digest_Open ([255] : Str) R := by
  unfold p_digest_Open p_code_NewReader
  refine s_Clone (by decide) ?_
  refine r_sumE ?_
  unfold p_code_Reader_Done
  exact Pl.join_intro ((Pl.ite_pos rfl).2 ((Pl.ite_pos rfl).2 ((Pl.ite_pos (by decide)).2 h)))
theorem smU_bot : smU bot = ⟨[], false, ⟨false, 0, 0⟩, []⟩ := rfl
theorem s_known {R : Bool → Prop} (h : R true) : p_augurlaw19_known R := by
  unfold p_augurlaw19_known p_digest_Bottom
  have hv := exS_vd
  refine s_made (r := exR) exR_ok (by decide) (by decide) ?_
  rw [made_ex]
  refine s_Bytes hv (s_Open_ex (s_Open_ff ?_))
  rw [← smU_bot]
  refine s_Join bot_vd hv ?_
  rw [show sjn jn bot exS = exS from bot_J hv]
  have e : decide (exS = exS) = true := decide_eq_true rfl
  refine s_hSm hv (Pl.join_intro ((Pl.ite_pos e).2 (s_hSm hv ?_)))
  refine Pl.join_intro ((Pl.ite_pos e).2 ?_)
  refine Pl.join_intro ((Pl.ite_pos (decide_eq_true rfl)).2 ?_)
  refine Pl.join_intro ((Pl.ite_pos (decide_eq_true rfl)).2 ?_)
  refine Pl.join_intro ((Pl.ite_pos rfl).2 (s_Sm hv ?_))
  refine Pl.join_intro ((Pl.ite_pos e).2 ?_)
  refine Pl.join_intro ((Pl.ite_pos e).2 (s_Leq bot_vd hv ?_))
  rw [show sjn jn bot exS = exS from bot_J hv]
  show R (decide (exS = exS))
  rw [e]; exact h
end Go.Proofs.Ytaibfbakhiainaa
namespace Go.Proofs.Ytaibfbakhiainaa
open Go Go.Sh Go.Sx
theorem dt {p : Prop} [Decidable p] (h : p) : decide p = true := decide_eq_true h
theorem s_Tells {a0 a1 : T_augurlaw19_Raw} (h0 : RawOk a0) (h1 : RawOk a1) : p_augurlaw19_DigestTells a0 a1 fun b => b = true := by
  unfold p_augurlaw19_DigestTells
  refine s_known ((Pl.ite_neg (by simp)).2 (s_light (by simp) ?_))
  by_cases hL : ∀ r ∈ [a0, a1], r.Alarms.length ≤ 8 ∧ r.Mod.length ≤ 6
  · rw [dt hL]
    have l0 := hL a0 (by simp)
    have l1 := hL a1 (by simp)
    refine (Pl.ite_neg (by simp)).2 ⟨fun x => x = smU (madeS a0), fun x => x = smU (madeS a1), s_made h0 (by omega) (by omega) rfl, s_made h1 (by omega) (by omega) rfl, ?_⟩
    rintro _ rfl _ rfl
    have v0 := madeS_vd h0
    have v1 := madeS_vd h1
    generalize madeS a0 = x at *
    generalize madeS a1 = y at *
    have vj := J_vd v0 v1
    have vw := W_vd v0 v1
    refine s_Sjoin v0 v1 (w := false) (s_Join v0 v1 ?_)
    refine s_hSm vj (Pl.join_intro ((Pl.ite_pos (dt rfl)).2 (s_Widen v0 v1 (s_Sjoin v0 v1 (w := true) (s_hSm vw ?_)))))
    refine Pl.join_intro ((Pl.ite_pos (dt rfl)).2 (s_Sm v0 ?_))
    refine s_Ssame (by have := v0.alen; omega) (by have := v0.mlen; omega) v0.ret v1.ret v0.iv v1.iv ?_
    refine Pl.join_intro ((Pl.ite_pos (by simp)).2 (s_Leq v0 v1 ?_))
    refine Pl.join_intro ((Pl.ite_pos (by simp)).2 ?_)
    refine s_Ssame (by have := vj.alen; show (J x y).al.length ≤ _; omega) (by have := vj.mlen; show (J x y).mod.length ≤ _; omega) vj.ret v1.ret vj.iv v1.iv ?_
    simp
  · rw [decide_eq_false hL]
    exact (Pl.ite_pos rfl).2 rfl
theorem s_Lattice {a0 a1 a2 : T_augurlaw19_Raw} (h0 : RawOk a0) (h1 : RawOk a1) (h2 : RawOk a2) : p_augurlaw19_DigestLattice a0 a1 a2 fun b => b = true := by
  unfold p_augurlaw19_DigestLattice p_digest_Bottom
  refine s_known ((Pl.ite_neg (by simp)).2 (s_light (by simp) ?_))
  by_cases hL : ∀ r ∈ [a0, a1, a2], r.Alarms.length ≤ 8 ∧ r.Mod.length ≤ 6
  · rw [dt hL]
    have l0 := hL a0 (by simp)
    have l1 := hL a1 (by simp)
    have l2 := hL a2 (by simp)
    refine (Pl.ite_neg (by simp)).2 ⟨fun x => x = smU (madeS a0), fun x => x = smU (madeS a1), fun x => x = smU (madeS a2), s_made h0 (by omega) (by omega) rfl, s_made h1 (by omega) (by omega) rfl, s_made h2 (by omega) (by omega) rfl, ?_⟩
    rintro _ rfl _ rfl _ rfl
    have vx := madeS_vd h0
    have vy := madeS_vd h1
    have vz := madeS_vd h2
    generalize madeS a0 = x at *
    generalize madeS a1 = y at *
    generalize madeS a2 = z at *
    have vj := J_vd vx vy
    rw [← smU_bot]
    refine s_Join vx vy (s_Join vy vx (s_Sm vj ?_))
    have key : ∀ K : Bool → Prop, K true → p_digest_Leq (smU x) (smU z) fun r_44 =>
        Pl.join (fun x_9 => Pl.join (fun x_10 => K x_10) fun kp_9 => Pl.ite (x_9 = true) (kp_9 true) (p_digest_Leq (smU (sjn jn x y)) (smU z) fun r_45 => kp_9 r_45)) fun kp_8 =>
          Pl.ite ((!r_44) = true) (kp_8 true) (p_digest_Leq (smU y) (smU z) fun r_46 => kp_8 !r_46) := by
      intro K hK
      refine s_Leq vx vz (Pl.join_intro ?_)
      by_cases c1 : J x z = z
      · refine (Pl.ite_neg (by simp [c1])).2 (s_Leq vy vz ?_)
        by_cases c2 : J y z = z
        · refine Pl.join_intro ((Pl.ite_neg (by simp [c2])).2 (s_Leq vj vz ?_))
          show K (decide (J (J x y) z = z))
          rw [dt (J_least vx vy vz c1 c2)]
          exact hK
        · exact Pl.join_intro ((Pl.ite_pos (by simp [c2])).2 hK)
      · exact (Pl.ite_pos (by simp [c1])).2 (Pl.join_intro ((Pl.ite_pos rfl).2 hK))
    refine Pl.join_intro ((Pl.ite_pos (dt (J_comm vx vy))).2 (s_Join vj vz (s_Join vy vz (s_Join vx (J_vd vy vz) (s_Sm (J_vd vj vz) ?_)))))
    refine Pl.join_intro ((Pl.ite_pos (dt (J_assoc vx vy vz))).2 (s_Leq vx vj ?_))
    refine Pl.join_intro ((Pl.ite_pos (dt (J_left vx vy))).2 (s_Leq vy vj ?_))
    refine Pl.join_intro ((Pl.ite_pos (dt (J_right vx vy))).2 (key _ ?_))
    refine Pl.join_intro ((Pl.ite_pos rfl).2 (s_Widen vx vy (s_Leq vj (W_vd vx vy) ?_)))
    refine Pl.join_intro ((Pl.ite_pos (dt (J_W vx vy))).2 (s_Join vx vx (s_Sm (J_vd vx vx) ?_)))
    refine Pl.join_intro ((Pl.ite_pos (dt (J_self vx))).2 (s_Join vx bot_vd ?_))
    refine Pl.join_intro (Pl.join_intro ((Pl.ite_pos (dt (J_self vx))).2 (s_Sm (J_vd vx bot_vd) ?_)))
    exact dt (J_bot vx)
  · rw [decide_eq_false hL]
    exact (Pl.ite_pos rfl).2 rfl
end Go.Proofs.Ytaibfbakhiainaa
namespace Go.Sh
open Go.ChangeShapes Go.WideShapes Go.ChangeAt Go.RowKit

theorem kept_of [Gd] {w w' : World} (hs : SameW w w') (hx : Ext w.heap w'.heap) (may : MemPlace → Prop) : w.keptBut w' may := by
  refine ⟨hs.os, hs.output, fun i hi => ?_⟩
  rw [hx.2 i hi]
  cases h : w.heap[i]? with
  | none => trivial
  | some o =>
    cases o with
    | cells c t fr => exact ⟨rfl, rfl, rfl, fun _ _ => rfl⟩
    | map es c => exact .inr ⟨rfl, rfl⟩
    | _ => rfl
section
variable {H : Type} {enc : TypeId × Value → H} {P : Program}
theorem same_at {w w' : World} (hx : Ext w.heap w'.heap) {p : MemPlace} (hp : p.block < w.heap.size) : w.sameAt w' p := by
  cases p with
  | cell b off =>
    show w'.cell? _ = w.cell? _
    simp only [World.cell?]
    rw [hx.2 b hp]
  | map b => exact hx.2 b hp
theorem trodAll_ext {w w' : World} {base : Nat} {sp : Nat → Bool} {held : Bool} : ∀ {ts : List TypeId} {vs : List Value} {ds : List (DataW H)} {ps : List MemPlace}, DataW.TrodAll enc P w base sp held ts vs ds ps → (∀ p ∈ ps, w.sameAt w' p) →
    DataW.TrodAll enc P w' base sp held ts vs ds ps
  | [], [], [], _, h, _ => h
  | _ :: _, _ :: _, _ :: _, _, ⟨p, q, ⟨n, h1⟩, h2, e⟩, hs =>
    ⟨p, q, ⟨n, DataW.trod_carry n _ _ _ h1 fun x hx => hs x (by rw [e]; exact List.mem_append_left _ hx)⟩, trodAll_ext h2 fun x hx => hs x (by rw [e]; exact List.mem_append_right _ hx), e⟩
/-- A law that answers true and leaves all that there was. -/
theorem law_post [Gd] {f : Func} {s : ChangeSpec} {apart fresh handsOn again : Bool} {W W' : World} {args : Array Value} {ds gs : List (DataW H)} {before : List MemPlace} {b : TypeId}
    (hl : laidOutB P = true) (hm : mapsRowed P = true) (hz : ∀ t e, t < P.types.size → P.underlying t = some (.slice e) → 0 < P.cellsOf e) (hts : ∀ t ∈ f.params.toList, t < P.types.size)
    (hv : s.vars = []) (hr : (s.fn H (ds ++ gs)).results = [.lit (.bool true)]) (ha : (s.fn H (ds ++ gs)).args = ds) (hvv : (s.fn H (ds ++ gs)).vars = []) (hrt : f.resultTypes = #[b]) (hb : P.underlying b = some .bool)
    (hW : DataW.Whole enc P f.params.toList s.vars apart W args.toList ds gs before) (hs : SameW W W') (hx : Ext W.heap W'.heap) : s.post enc P f apart fresh handsOn again W args (.bool true) W' := by
  have hlt := hW.lt
  obtain ⟨p, q, hA, hV, he, hfz, hnd⟩ := id hW
  rw [hv] at hV
  obtain ⟨hq1, hq2⟩ := trodVars_none hV
  subst hq1; subst hq2
  rw [List.append_nil] at he
  subst he
  have hA' : DataW.TrodAll enc P W' 0 (fun _ => true) true f.params.toList args.toList ds before := trodAll_ext hA fun x hx' => same_at hx (hlt x hx')
  have hA2 : ∀ sp : Nat → Bool, (∀ p ∈ before, sp p.block = true) → DataW.TrodAll enc P W' 0 sp true f.params.toList args.toList ds before := fun sp hsp =>
    DataW.TrodAll.respare (kids_rows hl hm) hz hts hA' hsp
  have hres : ∀ (b' : Nat) (sp : Nat → Bool) (hd : Bool), DataW.TrodAll enc P W' b' sp hd f.resultTypes.toList ((Value.bool true).resultList f.resultTypes.size) [.lit (.bool true)] [] := fun b' sp hd => by
    rw [hrt]
    exact trodAll_cons_mk (shut_bool hb _) trodAll_mk0
  refine ⟨ds, [], before, [], before, [], hW, ?_, ?_, ?_, kept_of hs hx _, fun _ => ⟨?_, [.lit (.bool true)] ++ ds, [], before, ⟨before, [], ?_, ?_, by simp, fun b' off hp => ?_, fun h => hnd h⟩, fun x hx' _ => hx'⟩⟩
  · rw [hr]; exact hres _ _ _
  · rw [ha]
    exact hA2 _ fun x hx' => by simpa using hlt x hx'
  · rw [hv, hvv]; exact rfl
  · exact ok_one hrt rfl (okWide_bool_mk hb _)
  · have := trodAll_append (H := H) (enc := enc) (P := P) hA' (hres 0 (fun _ => true) true)
    exact this
  · rw [hv]; exact rfl
  · have := hfz b' off hp
    have hl2 := hlt _ hp
    have e := hx.2 b' hl2
    simp only [World.frozen?] at this ⊢
    rw [e]; exact this
end
end Go.Sh
namespace Go.Sh
open Go.ChangeShapes Go.WideShapes Go.ChangeAt Go.RowKit
structure Opn (P : Program) (t : TypeId) {α : Type} (e : En α) (ok : α → Prop) : Prop where
  run : ∀ {H : Type} {enc : TypeId × Value → H} {w : World} {base : Nat} {sp : Nat → Bool} {held : Bool} {fuel : Nat} {cs : List Value} {x : DataW H × List MemPlace},
    DataW.trod enc P w base sp held fuel t cs = some x → ∃ a, e.C (vw w.heap) cs a ∧ ok a
variable {P : Program} {t : TypeId} {α : Type}
theorem opn_int {k : IntKind} [u : Und P t (.int k)] : Opn P t (eI k) (fun z => (Lit.int k z).wf = true) := ⟨fun h => by
  obtain ⟨n, rfl, rfl, hw⟩ := DataW.trod_int u.eq h
  exact ⟨n, rfl, hw⟩⟩
theorem opn_bool [u : Und P t .bool] : Opn P t eB (fun _ => True) := ⟨fun h => by
  obtain ⟨n, rfl, rfl⟩ := DataW.trod_bool u.eq h
  exact ⟨n, rfl, trivial⟩⟩
theorem opn_str [u : Und P t .string] : Opn P t eS (fun s => s.length ≤ maxLen) := ⟨fun h => by
  obtain ⟨⟨⟨n⟩⟩, rfl, rfl, hw⟩ := DataW.trod_string u.eq h
  exact ⟨n, rfl, by simpa [ByteArray.size] using hw⟩⟩
theorem cl_of {e : En α} {F : Vw} {ι : Type} {f : ι → List Value} {g : ι → α} (h : ∀ i, e.C F (f i) (g i)) : ∀ l : List ι, CL e F (l.flatMap f) (l.map g)
  | [] => rfl
  | i :: l => ⟨f i, l.flatMap f, rfl, h i, cl_of h l⟩
theorem opn_slice {e' : TypeId} {e : En α} {ok : α → Prop} [u : Und P t (.slice e')] (hc : P.cellsOf e' = e.k) (o : Opn P e' e ok) : Opn P t (eL e) (fun l => ∀ a ∈ l, ok a) := ⟨fun {H enc w base sp held fuel cs x} h => by
  rcases DataW.trod_slice u.eq h with ⟨rfl, rfl⟩ | ⟨a, len, cap, elems, rest, n, _, rfl, rfl, hb, hl, hm, hlen, hel, _⟩
  · exact ⟨[], ⟨_, rfl, RL.nil _ _ 0⟩, by simp⟩
  have each : ∀ i : Fin len, ∃ p : List Value × α, p.1.length = e.k ∧ (∀ j, j < e.k → w.cell? ((a.add (i.val * e.k)).add j) = p.1[j]?) ∧ e.C (vw w.heap) p.1 p.2 ∧ ok p.2 := by
    intro i
    have hi := hel i.val i.isLt
    rw [hc, List.getElem?_eq_getElem (by rw [hlen]; exact i.isLt), Option.bind_eq_some_iff] at hi
    obtain ⟨ci, h1, h2⟩ := hi
    obtain ⟨_, h3, h4⟩ := World.cells?_some h1
    obtain ⟨y, h5, h6⟩ := o.run h2
    exact ⟨(ci, y), h3, h4, h5, h6⟩
  obtain ⟨f, hf⟩ := Classical.axiomOfChoice each
  have hk : ∀ i : Fin len, (f i).1.length = e.k := fun i => (hf i).1
  refine ⟨(List.finRange len).map fun i => (f i).2, ⟨_, rfl, ⟨some a, cap, ?_⟩, hl, (List.finRange len).flatMap fun i => (f i).1, ?_, cl_of (fun i => (hf i).2.2.1) _⟩, fun y hy => ?_⟩
  · rw [List.length_map, List.length_finRange]
  · rcases Nat.eq_zero_or_pos len with h0 | h0
    · subst h0; exact .inl (by simp [List.finRange])
    have hpos := e.pos
    have hsp : a.spot = none := by
      have h1 := (hf ⟨0, h0⟩).2.1 0 hpos
      have h2 : ((f ⟨0, h0⟩).1)[0]? = some ((f ⟨0, h0⟩).1[0]'(by rw [hk]; exact hpos)) := List.getElem?_eq_getElem _
      rw [h2] at h1
      simp only [Nat.zero_mul, Addr.add] at h1
      simpa using World.cell?_spot h1
    obtain ⟨b, off, spot⟩ := a
    simp only at hsp
    subst hsp
    refine .inr ⟨b, off, rfl, fun j x hx => ?_⟩
    have hjl := (List.getElem?_eq_some_iff.1 hx).1
    rw [Sh.flatK_len (enc := fun i : Fin len => (f i).1) hk, List.length_finRange] at hjl
    have hq : j / e.k < len := (Nat.div_lt_iff_lt_mul hpos).2 hjl
    have hr : j % e.k < e.k := Nat.mod_lt _ hpos
    have hcell := (hf ⟨j / e.k, hq⟩).2.1 (j % e.k) hr
    have hsome : ((f ⟨j / e.k, hq⟩).1)[j % e.k]? = some ((f ⟨j / e.k, hq⟩).1[j % e.k]'(by rw [hk]; exact hr)) := List.getElem?_eq_getElem _
    have hget := Sh.flatK_get (enc := fun i : Fin len => (f i).1) hk (l := List.finRange len) (i := j / e.k) (a := ⟨j / e.k, hq⟩) (by simp [List.finRange, hq]) hsome
    rw [Nat.div_add_mod' j e.k] at hget
    rw [hget] at hx
    rw [hsome, hx] at hcell
    rw [WideShapes.add_plain, WideShapes.add_plain] at hcell
    rw [show off + j / e.k * e.k + j % e.k = off + j by rw [Nat.add_assoc, Nat.div_add_mod']] at hcell
    exact hcell
  · obtain ⟨i, _, rfl⟩ := List.mem_map.1 hy
    exact (hf i).2.2.2⟩
/-- A field of a struct. -/
theorem opn_field {H : Type} {enc : TypeId × Value → H} {w : World} {base : Nat} {sp : Nat → Bool} {held : Bool} {n : Nat} {cs : List Value} {xs : List (DataW H × List MemPlace)} {fs : Array Field} {i : Nat} {f : Field} {e : En α} {ok : α → Prop}
    {ft off sz : Nat} (hl : xs.length = fs.size) (h : ∀ (i : Nat) (f : Field), fs[i]? = some f → DataW.trod enc P w base sp held n f.type ((cs.drop f.offset).take (P.cellsOf f.type)) = xs[i]?) (hf : fs[i]? = some f)
    (h1 : f.type = ft) (h2 : f.offset = off) (h3 : P.cellsOf ft = sz) (o : Opn P ft e ok) : ∃ a, e.C (vw w.heap) ((cs.drop off).take sz) a ∧ ok a := by
  subst h1 h2 h3
  have h1 := h i f hf
  have hi : i < xs.length := by rw [hl]; exact (Array.getElem?_eq_some_iff.1 hf).1
  rw [List.getElem?_eq_getElem hi] at h1
  exact o.run h1
end Go.Sh
namespace Go.Proofs.Ytaibfbakhiainaa
open Go Go.Sh Go.ChangeShapes Go.WideShapes Go.ChangeAt Go.RowKit

def ok_augurlaw19_Cell (a : T_augurlaw19_Cell) : Prop := ((Lit.int .u8 a.N).wf = true) ∧ ((Lit.int .i64 a.Lo).wf = true) ∧ ((Lit.int .i64 a.Hi).wf = true)
set_option maxRecDepth 20000 in
theorem opn_augurlaw19_Cell : Opn Try.prog 51 e_augurlaw19_Cell ok_augurlaw19_Cell := ⟨fun {H enc w base sp held fuel cs x} h => by
  obtain ⟨xs, n, _, _, hl, hx, hf⟩ := DataW.trod_struct Try.underlying51 h
  have hl : cs.length = 3 := hl.trans (by kernel_rfl)
  obtain ⟨a0, c0, o0⟩ := opn_field (ft := 5) (off := 0) (sz := 1) hx hf (i := 0) rfl rfl rfl (by kernel_rfl) opn_int
  obtain ⟨a1, c1, o1⟩ := opn_field (ft := 2) (off := 1) (sz := 1) hx hf (i := 1) rfl rfl rfl (by kernel_rfl) opn_int
  obtain ⟨a2, c2, o2⟩ := opn_field (ft := 2) (off := 2) (sz := 1) hx hf (i := 2) rfl rfl rfl (by kernel_rfl) opn_int
  match cs, hl with
  | [x0, x1, x2], _ =>
    simp only [List.drop_succ_cons, List.drop_zero, List.take_succ_cons, List.take_zero] at c0
    obtain rfl := List.head_eq_of_cons_eq c0
    simp only [List.drop_succ_cons, List.drop_zero, List.take_succ_cons, List.take_zero] at c1
    obtain rfl := List.head_eq_of_cons_eq c1
    simp only [List.drop_succ_cons, List.drop_zero, List.take_succ_cons, List.take_zero] at c2
    obtain rfl := List.head_eq_of_cons_eq c2
    exact ⟨(⟨a0, a1, a2⟩ : T_augurlaw19_Cell), rfl, o0, o1, o2⟩⟩
def ok_augurlaw19_Raw (a : T_augurlaw19_Raw) : Prop := (∀ y ∈ a.Alarms, (Lit.int .u8 y).wf = true) ∧ (True) ∧ ((Lit.int .i64 a.Lo).wf = true) ∧ ((Lit.int .i64 a.Hi).wf = true) ∧ (∀ y ∈ a.Mod, ok_augurlaw19_Cell y)
set_option maxRecDepth 20000 in
theorem opn_augurlaw19_Raw : Opn Try.prog 25 e_augurlaw19_Raw ok_augurlaw19_Raw := ⟨fun {H enc w base sp held fuel cs x} h => by
  obtain ⟨xs, n, _, _, hl, hx, hf⟩ := DataW.trod_struct Try.underlying25 h
  have hl : cs.length = 5 := hl.trans (by kernel_rfl)
  obtain ⟨a0, c0, o0⟩ := opn_field (ft := 22) (off := 0) (sz := 1) hx hf (i := 0) rfl rfl rfl (by kernel_rfl) (opn_slice (by kernel_rfl) opn_int)
  obtain ⟨a1, c1, o1⟩ := opn_field (ft := 4) (off := 1) (sz := 1) hx hf (i := 1) rfl rfl rfl (by kernel_rfl) opn_bool
  obtain ⟨a2, c2, o2⟩ := opn_field (ft := 2) (off := 2) (sz := 1) hx hf (i := 2) rfl rfl rfl (by kernel_rfl) opn_int
  obtain ⟨a3, c3, o3⟩ := opn_field (ft := 2) (off := 3) (sz := 1) hx hf (i := 3) rfl rfl rfl (by kernel_rfl) opn_int
  obtain ⟨a4, c4, o4⟩ := opn_field (ft := 23) (off := 4) (sz := 1) hx hf (i := 4) rfl rfl rfl (by kernel_rfl) (opn_slice (by kernel_rfl) opn_augurlaw19_Cell)
  match cs, hl with
  | [x0, x1, x2, x3, x4], _ =>
    simp only [List.drop_succ_cons, List.drop_zero, List.take_succ_cons, List.take_zero] at c0
    obtain ⟨v0, h0, r0⟩ := c0
    obtain rfl := List.head_eq_of_cons_eq h0
    simp only [List.drop_succ_cons, List.drop_zero, List.take_succ_cons, List.take_zero] at c1
    obtain rfl := List.head_eq_of_cons_eq c1
    simp only [List.drop_succ_cons, List.drop_zero, List.take_succ_cons, List.take_zero] at c2
    obtain rfl := List.head_eq_of_cons_eq c2
    simp only [List.drop_succ_cons, List.drop_zero, List.take_succ_cons, List.take_zero] at c3
    obtain rfl := List.head_eq_of_cons_eq c3
    simp only [List.drop_succ_cons, List.drop_zero, List.take_succ_cons, List.take_zero] at c4
    obtain ⟨v4, h4, r4⟩ := c4
    obtain rfl := List.head_eq_of_cons_eq h4
    exact ⟨(⟨a0, a1, a2, a3, a4⟩ : T_augurlaw19_Raw), ⟨_, _, rfl, r0, r4⟩, o0, o1, o2, o3, o4⟩⟩
end Go.Proofs.Ytaibfbakhiainaa

namespace Go.Proofs.Ytaibfbakhiainaa.Fu
open Go Go.Sh Go.ChangeShapes Go.WideShapes Go.ChangeAt Go.RowKit
theorem own : ownKnob Try.prog.godebug = none := by kernel_rfl
theorem laidOut : laidOutB Try.prog = true := by kernel_rfl
theorem rowed : mapsRowed Try.prog = true := by kernel_rfl
theorem full : ∀ t e, t < Try.prog.types.size → Try.prog.underlying t = some (.slice e) → 0 < Try.prog.cellsOf e := slices_full_of Try.prog (by kernel_rfl)
theorem rawOk {a : T_augurlaw19_Raw} (h : ok_augurlaw19_Raw a) : RawOk a := by
  obtain ⟨h1, _, h2, h3, h4⟩ := h
  have i64 : ∀ {z : Int}, (Lit.int .i64 z).wf = true → Sx.minI ≤ z ∧ z ≤ Sx.maxI := fun h => by
    have := bounds_i64 h
    unfold Sx.minI Sx.maxI; omega
  exact ⟨fun z hz => bounds_u8 (h1 z hz), i64 h2, i64 h3, fun c hc => ⟨bounds_u8 (h4 c hc).1, i64 (h4 c hc).2.1, i64 (h4 c hc).2.2⟩⟩
set_option maxRecDepth 100000 in
/-- A number that came in. -/
theorem raw_in {H : Type} {enc : TypeId × Value → H} {W : World} {r : Reach} {b0 base : Nat} {sp : Nat → Bool} {held : Bool} {v : Value} {d : DataW H} {ps : List MemPlace}
    (hval : Value.okWide Try.prog W r b0 25 v) (hd : DataW.Trod enc Try.prog W base sp held 25 v d ps) :
    ∃ (a : T_augurlaw19_Raw) (v0 v4 : Value), v = .agg #[v0, .bool a.Ends, .int .i64 a.Lo, .int .i64 a.Hi, v4] ∧ RL (eI .u8) (vw W.heap) v0 a.Alarms ∧ RL e_augurlaw19_Cell (vw W.heap) v4 a.Mod ∧ RawOk a := by
  obtain ⟨cs, rfl, _⟩ := okWide_struct Try.underlying25 hval
  obtain ⟨fuel, hf⟩ := hd
  obtain ⟨a, ⟨v0, v4, he, r0, r4⟩, ok⟩ := opn_augurlaw19_Raw.run hf
  refine ⟨a, v0, v4, ?_, r0, r4, rawOk ok⟩
  have : cs.toList = [v0, .bool a.Ends, .int .i64 a.Lo, .int .i64 a.Hi, v4] := he
  rw [← Array.toArray_toList (xs := cs), this]
theorem ended {W : World} {f : FuncId} {args : Array Value} {K : Value → Heap → Prop} (h : @HC Old.gdF Try.prog f args W.heap K) :
    Calls Try.prog f args W fun e w' => ∃ v, e = .returned v ∧ @SameW Old.gdF W w' ∧ K v w'.heap := HC.calls (fun _ _ h => h) h W rfl
end Go.Proofs.Ytaibfbakhiainaa.Fu
namespace Go.Proofs.Ytaibfbakhiainaa
open Go Go.Sh Go.Sx
theorem encN_inj : ∀ (v w : Nat) {r s : List Int}, encN v ++ r = encN w ++ s → v = w ∧ r = s := by
  intro v
  induction v using Nat.strongRecOn with
  | _ v ih =>
    intro w r s h
    by_cases hv : v < 128
    · rw [encN_lt hv] at h
      by_cases hw : w < 128
      · rw [encN_lt hw] at h
        simp only [List.cons_append, List.nil_append, List.cons.injEq] at h
        exact ⟨by omega, h.2⟩
      · rw [encN_ge hw] at h
        simp only [List.cons_append, List.nil_append, List.cons.injEq] at h
        omega
    · rw [encN_ge hv] at h
      by_cases hw : w < 128
      · rw [encN_lt hw] at h
        simp only [List.cons_append, List.nil_append, List.cons.injEq] at h
        omega
      · rw [encN_ge hw] at h
        simp only [List.cons_append, List.cons.injEq] at h
        obtain ⟨h1, h2⟩ := ih (v / 128) (by omega) (w / 128) h.2
        exact ⟨by omega, h2⟩
theorem zig_inj {a b : Int} (h : zig a = zig b) : a = b := by
  unfold zig at h
  split at h <;> split at h <;> omega
theorem encAl_inj {p q : Int × Int} {r s : List Int} (h : encAl p ++ r = encAl q ++ s) : p = q ∧ r = s := by
  unfold encAl at h
  rw [List.append_assoc, List.append_assoc] at h
  obtain ⟨h1, h⟩ := encN_inj _ _ h
  obtain ⟨h2, h⟩ := encN_inj _ _ h
  exact ⟨Prod.ext (zig_inj h1) (zig_inj h2), h⟩
theorem encIv_inj {p q : Iv} {r s : List Int} (h : encIv p ++ r = encIv q ++ s) : p = q ∧ r = s := by
  rcases p with _ | ⟨l, g⟩ <;> rcases q with _ | ⟨l', g'⟩ <;> simp only [encIv, List.cons_append, List.nil_append, List.cons.injEq, List.append_assoc] at h
  · exact ⟨rfl, h.2⟩
  · omega
  · omega
  · obtain ⟨h1, h⟩ := encN_inj _ _ h.2
    obtain ⟨h2, h⟩ := encN_inj _ _ h
    rw [zig_inj h1, zig_inj h2]
    exact ⟨rfl, h⟩
theorem bytes_inj {a b : Str} (h : Pl.bytes a = Pl.bytes b) : a = b := by
  refine (List.map_inj_right fun x y h => ?_).1 h
  exact UInt8.toNat_inj.1 (by omega)
theorem encNm_inj {p q : Str × Iv} {r s : List Int} (h : encNm p ++ r = encNm q ++ s) : p = q ∧ r = s := by
  unfold encNm at h
  rw [List.append_assoc, List.append_assoc, List.append_assoc, List.append_assoc] at h
  obtain ⟨h1, h⟩ := encN_inj _ _ h
  obtain ⟨h2, h⟩ := List.append_inj h (by simp [Pl.bytes, h1])
  obtain ⟨h3, h⟩ := encIv_inj h
  exact ⟨Prod.ext (bytes_inj h2) h3, h⟩
theorem fl_inj {α : Type} {f : α → List Int} (hf : ∀ (a b : α) (r s : List Int), f a ++ r = f b ++ s → a = b ∧ r = s) : ∀ {l m : List α} {r s : List Int}, l.length = m.length → l.flatMap f ++ r = m.flatMap f ++ s → l = m ∧ r = s
  | [], [], _, _, _, h => ⟨rfl, by simpa using h⟩
  | [], _ :: _, _, _, h, _ => by simp at h
  | _ :: _, [], _, _, h, _ => by simp at h
  | a :: l, b :: m, r, s, hl, h => by
    rw [List.flatMap_cons, List.flatMap_cons, List.append_assoc, List.append_assoc] at h
    obtain ⟨rfl, h2⟩ := hf _ _ _ _ h
    obtain ⟨rfl, h3⟩ := fl_inj hf (by simpa using hl) h2
    exact ⟨rfl, h3⟩
theorem encSm_inj {a b : Old.Sm} (h : encSm a = encSm b) : a = b := by
  have h : encSm a ++ [] = encSm b ++ [] := by rw [h]
  unfold encSm at h
  simp only [List.append_assoc] at h
  obtain ⟨h1, h⟩ := encN_inj _ _ h
  obtain ⟨e1, h⟩ := fl_inj (fun _ _ _ _ => encAl_inj) h1 h
  simp only [List.cons_append, List.nil_append, List.cons.injEq] at h
  obtain ⟨h2, h⟩ := h
  have e2 : a.ends = b.ends := by
    revert h2
    cases a.ends <;> cases b.ends <;> simp [encB]
  obtain ⟨e3, h⟩ := encIv_inj h
  obtain ⟨h4, h⟩ := encN_inj _ _ h
  obtain ⟨e4, h⟩ := fl_inj (fun _ _ _ _ => encNm_inj) h4 h
  cases a; cases b
  simp only at e1 e2 e3 e4
  rw [e1, e2, e3, e4]
theorem txt_inj {a b : Old.Sm} : txt a = txt b ↔ a = b :=
  ⟨fun h => encSm_inj (by rw [← bytes_txt, ← bytes_txt, h]), fun h => h ▸ rfl⟩
end Go.Proofs.Ytaibfbakhiainaa
namespace Go.Proofs.Ytaibfbakhiainaa
open Go Go.Sh Go.Sx
theorem join_when {κ : Type} {k : κ} {B : κ → Prop} (C : κ → Prop) (hk : C k) (hB : ∀ k, C k → B k) : Pl.join k B := hB k hk
theorem s_Order {a0 a1 a2 : T_augurlaw19_Raw} (h0 : RawOk a0) (h1 : RawOk a1) (h2 : RawOk a2) : p_augurlaw19_DigestOrder a0 a1 a2 fun b => b = true := by
  unfold p_augurlaw19_DigestOrder
  refine s_known ((Pl.ite_neg (by simp)).2 (s_light (by simp) ?_))
  by_cases hL : ∀ r ∈ [a0, a1, a2], r.Alarms.length ≤ 8 ∧ r.Mod.length ≤ 6
  case neg =>
    rw [decide_eq_false hL]
    exact (Pl.ite_pos rfl).2 rfl
  rw [dt hL]
  have l0 := hL a0 (by simp)
  have l1 := hL a1 (by simp)
  have l2 := hL a2 (by simp)
  refine (Pl.ite_neg (by simp)).2 ⟨fun x => x = smU (madeS a0), fun x => x = smU (madeS a1), fun x => x = smU (madeS a2), s_made h0 (by omega) (by omega) rfl, s_made h1 (by omega) (by omega) rfl, s_made h2 (by omega) (by omega) rfl, ?_⟩
  rintro _ rfl _ rfl _ rfl
  have vx := madeS_vd h0
  have vy := madeS_vd h1
  have vz := madeS_vd h2
  generalize madeS a0 = x at *
  generalize madeS a1 = y at *
  generalize madeS a2 = z at *
  have vj := J_vd vx vy
  refine ⟨txt x, s_Bytes vx rfl, txt y, s_Bytes vy rfl, decide (x = y), s_Sm vx rfl, Pl.join_intro ?_⟩
  refine (Pl.ite_neg (by simp [txt_inj])).2 ⟨true, s_Leq vx vx (dt (J_self vx)), ?_⟩
  refine (Pl.ite_neg (by simp)).2 (s_Leq vx vy ?_)
  refine join_when (fun kp : Bool → Prop => ∀ b, (b = false → x = y) → kp b) (fun b hb => ?_) fun kp hkp => ?_
  case refine_2 =>
    by_cases c1 : J x y = y
    · rw [dt (show sjn jn x y = y from c1)]
      refine (Pl.ite_neg (by simp)).2 (s_Leq vy vx ?_)
      by_cases c2 : J y x = x
      · rw [dt (show sjn jn y x = x from c2)]
        exact hkp false fun _ => by rw [← c1, J_comm vx vy, c2]
      · rw [decide_eq_false (show ¬ sjn jn y x = x from c2)]
        exact hkp true (by simp)
    · rw [decide_eq_false (show ¬ sjn jn x y = y from c1)]
      exact (Pl.ite_pos rfl).2 (hkp true (by simp))
  refine join_when (fun kp2 : Bool → Prop => kp2 true) ?_ fun kp2 h2 => ?_
  case refine_2 =>
    cases b with
    | true => exact (Pl.ite_pos rfl).2 h2
    | false =>
      refine (Pl.ite_neg (by simp)).2 (s_Sm vx ?_)
      rw [dt (hb rfl)]; exact h2
  refine join_when (fun kp3 : Bool → Prop => kp3 true) ?_ fun kp3 h3 => (Pl.ite_pos rfl).2 (s_Leq vx vy ?_)
  case refine_2 =>
    refine join_when (fun kp6 : Bool → Prop => ∀ b, (b = false → J x z = z) → kp6 b) (fun b hb => Pl.join_intro ?_) fun kp6 h6 => ?_
    · cases b with
      | true => exact (Pl.ite_pos rfl).2 h3
      | false =>
        refine (Pl.ite_neg (by simp)).2 (s_Leq vx vz ?_)
        rw [dt (show sjn jn x z = z from hb rfl)]; exact h3
    · by_cases c1 : J x y = y
      · rw [dt (show sjn jn x y = y from c1)]
        refine (Pl.ite_neg (by simp)).2 (s_Leq vy vz ?_)
        by_cases c2 : J y z = z
        · rw [dt (show sjn jn y z = z from c2)]
          exact h6 false fun _ => by rw [← c2, ← J_assoc vx vy vz, c1]
        · rw [decide_eq_false (show ¬ sjn jn y z = z from c2)]
          exact h6 true (by simp)
      · rw [decide_eq_false (show ¬ sjn jn x y = y from c1)]
        exact (Pl.ite_pos rfl).2 (h6 true (by simp))
  refine Pl.join_intro ((Pl.ite_pos rfl).2 (s_Join vx vy (Pl.join_intro ((Pl.ite_pos rfl).2 (s_Join vy vx (s_hSm vj ?_))))))
  exact dt (J_comm vx vy)
end Go.Proofs.Ytaibfbakhiainaa
