/- Shallow forms of functions and their certificates, printed by gen.py. -/
import Derived.Test.YtfhbpghgcgmegaaRows
import Derived.Test.YtfhbpghgcgmegaaSh
set_option linter.unusedVariables false
set_option linter.unusedSimpArgs false
namespace Go.Proofs.Ytfhbpghgcgmegaa
open Go Go.Sh
attribute [local irreducible] Go.wpQuiet Go.wpList Go.Sh.mixL Go.Sh.mixF Go.Sh.wpAnyE Go.Code.wp

/-- augur/calls.Comps -/
def g_calls_Comps (v0 : Value) (h : Heap) (R : Value → Heap → Prop) : Prop :=
  oCall Try.prog (.func (.func 15) #[] #[]) #[v0] h fun t14 h => 
  oCall Try.prog (.func (.func 16) #[] #[]) #[v0, t14] h fun t17 h_1 => 
  oCall Try.prog (.func (.func 17) #[] #[]) #[t17] h_1 fun t20 h_2 => 
  oExt Try.prog t20 0 fun t21 =>
  oExt Try.prog t20 1 fun t22 =>
  oMkSlice Try.prog 26 t22 t22 h_2 fun t24 h_3 => 
  oLen Try.prog #[29] 3 t14 fun t26 =>
  loop1 (.int .i64 0) h_3 fun x27 h_4 next =>
   oBin Try.prog .lss 3 (.tmp 27) (.tmp 26) x27 t26 fun t28 =>
   cond t28
    (oIdx Try.prog 29 t14 x27 fun t30 =>
    oLoad Try.prog 9 t30 (Eq h_4) fun t31 =>
    drawn h_4 fun D =>
    oIdx Try.prog 43 t21 x27 fun t35 =>
    oLoad Try.prog 3 t35 D fun t36 =>
    oIdx Try.prog 43 t21 x27 fun t40 =>
    oLoad Try.prog 3 t40 D fun t41 =>
    oIdx Try.prog 26 t24 t41 fun t42 =>
    oLoad Try.prog 29 t42 D fun t43 =>
    oBuildSlice Try.prog 29 1 #[(0, t31)] h_4 fun t45 h_5 => D h_5 ∧ 
    oAppend Try.prog #[29, 29] 29 #[t43, t45] h_5 fun t46 h_6 => D h_6 ∧ 
    oIdx Try.prog 26 t24 t36 fun t47 =>
    oStore Try.prog 29 t47 t46 h_6 fun _ h_7 => 
    oBin Try.prog .add 3 (.tmp 27) (.const (.int .i64 1)) x27 (.int .i64 1) fun t48 =>
    next t48 h_7)
    (oCall Try.prog (.func (.func 18) #[] #[]) #[t17, t21, t22] h_4 fun t52 h_8 => 
    oLen Try.prog #[43] 3 t52 fun t53 =>
    loop2 (.slice none 0 0) (.int .i64 0) h_8 fun x10 x54 h_9 next_1 =>
     oBin Try.prog .lss 3 (.tmp 54) (.tmp 53) x54 t53 fun t55 =>
     cond t55
      (oIdx Try.prog 43 t52 x54 fun t56 =>
      oLoad Try.prog 3 t56 (Eq h_9) fun t57 =>
      oIdx Try.prog 26 t24 t57 fun t61 =>
      oLoad Try.prog 29 t61 (Eq h_9) fun t62 =>
      oBuildSlice Try.prog 26 1 #[(0, t62)] h_9 fun t63 h_10 => 
      oAppend Try.prog #[26, 26] 26 #[x10, t63] h_10 fun t64 h_11 => 
      oBin Try.prog .add 3 (.tmp 54) (.const (.int .i64 1)) x54 (.int .i64 1) fun t65 =>
      next_1 t64 t65 h_11)
      (R x10 h_9))

set_option maxRecDepth 100000 in
set_option maxHeartbeats 2000000 in
theorem sh_calls_Comps {v0 : Value} {h : Heap} {R : Value → Heap → Prop} (hg : g_calls_Comps v0 h R) : HC Try.prog 9 #[v0] h R := by
  refine hc_of_wp (n := 67) (f := ovr [(0, v0)] fun _ => undef) Try.func9 rfl rfl (by kernel_rfl) (fun w hw => ?_)
  have hs := SameW.refl w
  unfold g_calls_Comps at hg
  refine wp_seq ?_
  refine region_seq ?_
  refine stepM (v := (.slice none 0 0)) (by first | exact .inl rfl | exact .inr rfl) (wanted_none rfl) rfl rfl ?_
  refine stepEnd ?_
  refine thenN ?_
  refine wp_seq ?_
  refine region_seq ?_
  refine stepM (v := v0) (by first | exact .inl rfl | exact .inr rfl) (wanted_none rfl) rfl rfl ?_
  refine stepX (ex_call rfl) (by exact hg) hw (wanted_none rfl) rfl (fun t14 h wh hw hs1 hg => ?_)
  have hs := hs.trans hs1
  clear hs1
  refine stepM (v := t14) (by first | exact .inl rfl | exact .inr rfl) (wanted_none rfl) rfl rfl ?_
  refine stepEnd ?_
  refine thenN ?_
  refine wp_seq ?_
  refine region_seq ?_
  refine stepM (v := v0) (by first | exact .inl rfl | exact .inr rfl) (wanted_none rfl) rfl rfl ?_
  refine stepM (v := t14) (by first | exact .inl rfl | exact .inr rfl) (wanted_none rfl) rfl rfl ?_
  refine stepX (ex_call rfl) (by exact hg) hw (wanted_none rfl) rfl (fun t17 h_1 wh_1 hw hs1 hg => ?_)
  have hs := hs.trans hs1
  clear hs1
  refine stepM (v := t17) (by first | exact .inl rfl | exact .inr rfl) (wanted_none rfl) rfl rfl ?_
  refine stepEnd ?_
  refine thenN ?_
  refine wp_seq ?_
  refine region_seq ?_
  refine stepM (v := t17) (by first | exact .inl rfl | exact .inr rfl) (wanted_none rfl) rfl rfl ?_
  refine stepX (ex_call rfl) (by exact hg) hw (wanted_none rfl) rfl (fun t20 h_2 wh_2 hw hs1 hg => ?_)
  have hs := hs.trans hs1
  clear hs1
  refine stepM (v := t20) (by first | exact .inl rfl | exact .inr rfl) (wanted_none rfl) rfl rfl ?_
  refine stepP rfl (by exact hg) (wanted_none rfl) rfl (fun t21 hg => ?_)
  refine stepP rfl (by exact hg) (wanted_none rfl) rfl (fun t22 hg => ?_)
  refine stepM (v := t21) (by first | exact .inl rfl | exact .inr rfl) (wanted_none rfl) rfl rfl ?_
  refine stepM (v := t22) (by first | exact .inl rfl | exact .inr rfl) (wanted_none rfl) rfl rfl ?_
  refine stepEnd ?_
  refine thenN ?_
  refine wp_seq ?_
  refine region_seq ?_
  refine stepM (v := t22) (by first | exact .inl rfl | exact .inr rfl) (wanted_none rfl) rfl rfl ?_
  refine stepX rfl (by exact hg) hw (wanted_none rfl) rfl (fun t24 h_3 wh_3 hw hs1 hg => ?_)
  have hs := hs.trans hs1
  clear hs1
  refine stepM (v := t24) (by first | exact .inl rfl | exact .inr rfl) (wanted_none rfl) rfl rfl ?_
  refine stepEnd ?_
  refine thenN ?_
  refine wp_seq ?_
  refine wp_seq ?_
  refine region_seq ?_
  refine stepM (v := t14) (by first | exact .inl rfl | exact .inr rfl) (wanted_none rfl) rfl rfl ?_
  refine stepP (ex_blt rfl) (by exact hg) (wanted_none rfl) rfl (fun t26 hg => ?_)
  refine stepM (v := (.int .i64 0)) (by first | exact .inl rfl | exact .inr rfl) (wanted_none rfl) rfl rfl ?_
  refine stepEnd ?_
  refine thenN ?_
  refine wp_block ?_
  obtain ⟨I, m0, hI0, hround⟩ := hg
  refine wp_loop_m (fun m a w' => ∃ (x27 : Value) (f : Nat → Value), a = mk 67 (ovr [(27, x27), (4, t17), (5, t21), (6, t22), (7, t24), (25, t14), (26, t26)] f) ∧ SameW w w' ∧ I m x27 w'.heap) m0 ⟨(.int .i64 0), _, mk_ovr ⟨rfl, rfl, rfl, rfl, rfl, rfl, rfl, trivial⟩, hs, by rw [hw]; exact hI0⟩ ?_
  rintro m _ wl ⟨x27, f, rfl, hs, hI⟩
  obtain ⟨h_4, hw⟩ : ∃ h', wl.heap = h' := ⟨_, rfl⟩
  rw [hw] at hI
  have hg := hround m _ _ hI
  clear hround hI hI0
  refine wp_seq ?_
  refine region_seq ?_
  refine stepP rfl (by exact hg) (wanted_none rfl) rfl (fun t28 hg => ?_)
  refine stepEnd ?_
  refine thenN ?_
  refine wp_seq ?_
  refine codeCond hg rfl (fun hb hg1 => ?_) (fun hb hg1 => ?_)
  · clear hg; subst hb; have hg := hg1; clear hg1
    refine wp_skip ?_
    refine thenN ?_
    refine wp_seq ?_
    refine wp_block ?_
    refine wp_seq ?_
    refine region_seq ?_
    refine stepM (v := x27) (by first | exact .inl rfl | exact .inr rfl) (wanted_none rfl) rfl rfl ?_
    refine stepP rfl (by exact hg) (wanted_none rfl) rfl (fun t30 hg => ?_)
    refine stepQ rfl (by exact hg) hw (wanted_none rfl) rfl (fun t31 hg => ?_)
    refine stepM (v := x27) (by first | exact .inl rfl | exact .inr rfl) (wanted_none rfl) rfl rfl ?_
    refine stepM (v := t31) (by first | exact .inl rfl | exact .inr rfl) (wanted_none rfl) rfl rfl ?_
    refine stepEnd ?_
    refine thenN ?_
    obtain ⟨D, hD, hg⟩ := hg
    refine region_mix (D := D) [true, true, true, true, true, true, true, true, true, true, true, true, true, false, false, true] (by kernel_rfl) (by kernel_rfl) (by repeat (first | exact panicOk_base | apply panicOk_then | apply panicOk_blk)) (by rw [hw]; exact hD) (fun wm hs1 hw1 => ?_)
    have hw := hw1.trans hw
    have hs := hs.trans hs1
    clear hs1 hw1
    refine mixM (v := t24) (by first | exact .inl rfl | exact .inr rfl) (wanted_none rfl) rfl rfl ?_
    refine mixM (v := t21) (by first | exact .inl rfl | exact .inr rfl) (wanted_none rfl) rfl rfl ?_
    refine mixM (v := x27) (by first | exact .inl rfl | exact .inr rfl) (wanted_none rfl) rfl rfl ?_
    refine mixP rfl (by exact hg) (wanted_none rfl) rfl (fun t35 hg => ?_)
    refine mixQ rfl (by exact hg) (wanted_none rfl) rfl (fun t36 hg => ?_)
    refine mixM (v := t24) (by first | exact .inl rfl | exact .inr rfl) (wanted_none rfl) rfl rfl ?_
    refine mixM (v := t21) (by first | exact .inl rfl | exact .inr rfl) (wanted_none rfl) rfl rfl ?_
    refine mixM (v := x27) (by first | exact .inl rfl | exact .inr rfl) (wanted_none rfl) rfl rfl ?_
    refine mixP rfl (by exact hg) (wanted_none rfl) rfl (fun t40 hg => ?_)
    refine mixQ rfl (by exact hg) (wanted_none rfl) rfl (fun t41 hg => ?_)
    refine mixP rfl (by exact hg) (wanted_none rfl) rfl (fun t42 hg => ?_)
    refine mixQ rfl (by exact hg) (wanted_none rfl) rfl (fun t43 hg => ?_)
    refine mixM (v := t31) (by first | exact .inl rfl | exact .inr rfl) (wanted_none rfl) rfl rfl ?_
    refine mixX (ex_buildSlice rfl) (by exact hg) hw (wanted_none rfl) rfl (fun t45 h_5 wh_5 hw hs1 hg => ?_)
    have hs := hs.trans hs1
    clear hs1
    refine mixX (ex_blt rfl) (by exact hg) hw (wanted_none rfl) rfl (fun t46 h_6 wh_6 hw hs1 hg => ?_)
    have hs := hs.trans hs1
    clear hs1
    refine mixP rfl (by exact hg) (wanted_none rfl) rfl (fun t47 hg => ?_)
    refine mixEnd ?_
    refine stepU rfl (by exact hg) hw (wanted_none rfl) rfl (fun _ h_7 wh_7 hw hs1 hg => ?_)
    have hs := hs.trans hs1
    clear hs1
    refine stepEnd ?_
    refine blkN ?_
    refine thenN ?_
    refine region_seq ?_
    refine stepP rfl (by exact hg) (wanted_none rfl) rfl (fun t48 hg => ?_)
    refine stepM (v := t48) (by first | exact .inl rfl | exact .inr rfl) (wanted_none rfl) rfl rfl ?_
    refine stepEnd ?_
    obtain ⟨m', hlt, hI⟩ := hg
    exact thenN ⟨m', hlt, t48, _, mk_ovr ⟨rfl, rfl, rfl, rfl, rfl, rfl, rfl, trivial⟩, hs, by rw [hw]; exact hI⟩
  · clear hg; subst hb; have hg := hg1; clear hg1
    refine wp_exit ?_
    refine thenE ?_
    refine thenE ?_
    refine blkE ?_
    refine thenN ?_
    refine wp_seq ?_
    refine region_seq ?_
    refine stepM (v := (.slice none 0 0)) (by first | exact .inl rfl | exact .inr rfl) (wanted_none rfl) rfl rfl ?_
    refine stepEnd ?_
    refine thenN ?_
    refine wp_seq ?_
    refine wp_seq ?_
    refine region_seq ?_
    refine stepM (v := t17) (by first | exact .inl rfl | exact .inr rfl) (wanted_none rfl) rfl rfl ?_
    refine stepM (v := t21) (by first | exact .inl rfl | exact .inr rfl) (wanted_none rfl) rfl rfl ?_
    refine stepM (v := t22) (by first | exact .inl rfl | exact .inr rfl) (wanted_none rfl) rfl rfl ?_
    refine stepX (ex_call rfl) (by exact hg) hw (wanted_none rfl) rfl (fun t52 h_8 wh_8 hw hs1 hg => ?_)
    have hs := hs.trans hs1
    clear hs1
    refine stepP (ex_blt rfl) (by exact hg) (wanted_none rfl) rfl (fun t53 hg => ?_)
    refine stepM (v := (.int .i64 0)) (by first | exact .inl rfl | exact .inr rfl) (wanted_none rfl) rfl rfl ?_
    refine stepEnd ?_
    refine thenN ?_
    refine wp_block ?_
    obtain ⟨I, m0, hI0, hround⟩ := hg
    refine wp_loop_m (fun m a w' => ∃ (x10 : Value) (x54 : Value) (f : Nat → Value), a = mk 67 (ovr [(10, x10), (54, x54), (7, t24), (52, t52), (53, t53)] f) ∧ SameW w w' ∧ I m x10 x54 w'.heap) m0 ⟨(.slice none 0 0), (.int .i64 0), _, mk_ovr ⟨rfl, rfl, rfl, rfl, rfl, trivial⟩, hs, by rw [hw]; exact hI0⟩ ?_
    rintro m _ wl ⟨x10, x54, f, rfl, hs, hI⟩
    obtain ⟨h_9, hw⟩ : ∃ h', wl.heap = h' := ⟨_, rfl⟩
    rw [hw] at hI
    have hg := hround m _ _ _ hI
    clear hround hI hI0
    refine wp_seq ?_
    refine region_seq ?_
    refine stepP rfl (by exact hg) (wanted_none rfl) rfl (fun t55 hg => ?_)
    refine stepEnd ?_
    refine thenN ?_
    refine wp_seq ?_
    refine codeCond hg rfl (fun hb hg1 => ?_) (fun hb hg1 => ?_)
    · clear hg; subst hb; have hg := hg1; clear hg1
      refine wp_skip ?_
      refine thenN ?_
      refine wp_seq ?_
      refine wp_block ?_
      refine wp_seq ?_
      refine region_seq ?_
      refine stepP rfl (by exact hg) (wanted_none rfl) rfl (fun t56 hg => ?_)
      refine stepQ rfl (by exact hg) hw (wanted_none rfl) rfl (fun t57 hg => ?_)
      refine stepM (v := t57) (by first | exact .inl rfl | exact .inr rfl) (wanted_none rfl) rfl rfl ?_
      refine stepEnd ?_
      refine thenN ?_
      refine region_seq ?_
      refine stepM (v := x10) (by first | exact .inl rfl | exact .inr rfl) (wanted_none rfl) rfl rfl ?_
      refine stepM (v := t24) (by first | exact .inl rfl | exact .inr rfl) (wanted_none rfl) rfl rfl ?_
      refine stepM (v := t57) (by first | exact .inl rfl | exact .inr rfl) (wanted_none rfl) rfl rfl ?_
      refine stepP rfl (by exact hg) (wanted_none rfl) rfl (fun t61 hg => ?_)
      refine stepQ rfl (by exact hg) hw (wanted_none rfl) rfl (fun t62 hg => ?_)
      refine stepX (ex_buildSlice rfl) (by exact hg) hw (wanted_none rfl) rfl (fun t63 h_10 wh_10 hw hs1 hg => ?_)
      have hs := hs.trans hs1
      clear hs1
      refine stepX (ex_blt rfl) (by exact hg) hw (wanted_none rfl) rfl (fun t64 h_11 wh_11 hw hs1 hg => ?_)
      have hs := hs.trans hs1
      clear hs1
      refine stepM (v := t64) (by first | exact .inl rfl | exact .inr rfl) (wanted_none rfl) rfl rfl ?_
      refine stepEnd ?_
      refine blkN ?_
      refine thenN ?_
      refine region_seq ?_
      refine stepP rfl (by exact hg) (wanted_none rfl) rfl (fun t65 hg => ?_)
      refine stepM (v := t65) (by first | exact .inl rfl | exact .inr rfl) (wanted_none rfl) rfl rfl ?_
      refine stepEnd ?_
      obtain ⟨m', hlt, hI⟩ := hg
      exact thenN ⟨m', hlt, t64, t65, _, mk_ovr ⟨rfl, rfl, rfl, rfl, rfl, trivial⟩, hs, by rw [hw]; exact hI⟩
    · clear hg; subst hb; have hg := hg1; clear hg1
      refine wp_exit ?_
      refine thenE ?_
      refine thenE ?_
      refine blkE ?_
      refine thenN ?_
      refine wp_seq ?_
      refine region_seq ?_
      refine stepM (v := x10) (by first | exact .inl rfl | exact .inr rfl) (wanted_none rfl) rfl rfl ?_
      refine stepM (v := x10) (by first | exact .inl rfl | exact .inr rfl) (wanted_none rfl) rfl rfl ?_
      refine stepEnd ?_
      refine thenN ?_
      refine wp_ret ?_
      exact post_ret (res_tmp Try.results9 rfl rfl) ⟨_, rfl, hs, by rw [hw]; exact hg⟩

/-- augur/augurref10.Has -/
def g_augurref10_Has (v0 v1 : Value) (h : Heap) (R : Value → Heap → Prop) : Prop :=
  loop1 (.int .i64 0) h fun x5 h next =>
   oLen Try.prog #[29] 3 v0 fun t8 =>
   oBin Try.prog .lss 3 (.tmp 6) (.tmp 8) x5 t8 fun t9 =>
   cond t9
    (oIdx Try.prog 29 v0 x5 fun t14 =>
    oLoad Try.prog 9 t14 (Eq h) fun t15 =>
    oBin Try.prog .eql 9 (.tmp 15) (.tmp 16) t15 v1 fun t17 =>
    cond t17
     (R (.bool true) h)
     (oBin Try.prog .add 3 (.tmp 10) (.const (.int .i64 1)) x5 (.int .i64 1) fun t11 =>
     next t11 h))
    (R (.bool false) h)

set_option maxRecDepth 100000 in
set_option maxHeartbeats 2000000 in
theorem sh_augurref10_Has {v0 v1 : Value} {h : Heap} {R : Value → Heap → Prop} (hg : g_augurref10_Has v0 v1 h R) : HC Try.prog 10 #[v0, v1] h R := by
  refine hc_of_wp (n := 18) (f := ovr [(0, v0), (1, v1)] fun _ => undef) Try.func10 rfl rfl (by kernel_rfl) (fun w hw => ?_)
  have hs := SameW.refl w
  unfold g_augurref10_Has at hg
  refine wp_seq ?_
  refine region_seq ?_
  refine stepM (v := (.bool false)) (by first | exact .inl rfl | exact .inr rfl) (wanted_none rfl) rfl rfl ?_
  refine stepEnd ?_
  refine thenN ?_
  refine wp_seq ?_
  refine wp_seq ?_
  refine region_seq ?_
  refine stepM (v := (.int .i64 0)) (by first | exact .inl rfl | exact .inr rfl) (wanted_none rfl) rfl rfl ?_
  refine stepEnd ?_
  refine thenN ?_
  refine wp_block ?_
  obtain ⟨I, m0, hI0, hround⟩ := hg
  refine wp_loop_m (fun m a w' => ∃ (x5 : Value) (f : Nat → Value), a = mk 18 (ovr [(5, x5), (0, v0), (1, v1)] f) ∧ SameW w w' ∧ I m x5 w'.heap) m0 ⟨(.int .i64 0), _, mk_ovr ⟨rfl, rfl, rfl, trivial⟩, hs, by rw [hw]; exact hI0⟩ ?_
  rintro m _ wl ⟨x5, f, rfl, hs, hI⟩
  obtain ⟨h, hw⟩ : ∃ h', wl.heap = h' := ⟨_, rfl⟩
  rw [hw] at hI
  have hg := hround m _ _ hI
  clear hround hI hI0
  refine wp_seq ?_
  refine wp_seq ?_
  refine region_seq ?_
  refine stepM (v := x5) (by first | exact .inl rfl | exact .inr rfl) (wanted_none rfl) rfl rfl ?_
  refine stepM (v := v0) (by first | exact .inl rfl | exact .inr rfl) (wanted_none rfl) rfl rfl ?_
  refine stepP (ex_blt rfl) (by exact hg) (wanted_none rfl) rfl (fun t8 hg => ?_)
  refine stepP rfl (by exact hg) (wanted_none rfl) rfl (fun t9 hg => ?_)
  refine stepEnd ?_
  refine thenN ?_
  refine codeCond hg rfl (fun hb hg1 => ?_) (fun hb hg1 => ?_)
  · clear hg; subst hb; have hg := hg1; clear hg1
    refine wp_skip ?_
    refine thenN ?_
    refine wp_seq ?_
    refine wp_block ?_
    refine wp_seq ?_
    refine region_seq ?_
    refine stepM (v := v0) (by first | exact .inl rfl | exact .inr rfl) (wanted_none rfl) rfl rfl ?_
    refine stepM (v := x5) (by first | exact .inl rfl | exact .inr rfl) (wanted_none rfl) rfl rfl ?_
    refine stepP rfl (by exact hg) (wanted_none rfl) rfl (fun t14 hg => ?_)
    refine stepQ rfl (by exact hg) hw (wanted_none rfl) rfl (fun t15 hg => ?_)
    refine stepM (v := v1) (by first | exact .inl rfl | exact .inr rfl) (wanted_none rfl) rfl rfl ?_
    refine stepP rfl (by exact hg) (wanted_none rfl) rfl (fun t17 hg => ?_)
    refine stepEnd ?_
    refine thenN ?_
    refine codeCond hg rfl (fun hb hg1 => ?_) (fun hb hg1 => ?_)
    · clear hg; subst hb; have hg := hg1; clear hg1
      refine wp_seq ?_
      refine region_seq ?_
      refine stepM (v := (.bool true)) (by first | exact .inl rfl | exact .inr rfl) (wanted_none rfl) rfl rfl ?_
      refine stepEnd ?_
      refine thenN ?_
      refine wp_ret ?_
      refine blkR ?_
      refine thenR ?_
      refine thenR ?_
      refine blkR ?_
      refine thenR ?_
      exact post_ret (res_tmp Try.results10 rfl rfl) ⟨_, rfl, hs, by rw [hw]; exact hg⟩
    · clear hg; subst hb; have hg := hg1; clear hg1
      refine wp_skip ?_
      refine blkN ?_
      refine thenN ?_
      refine region_seq ?_
      refine stepM (v := x5) (by first | exact .inl rfl | exact .inr rfl) (wanted_none rfl) rfl rfl ?_
      refine stepP rfl (by exact hg) (wanted_none rfl) rfl (fun t11 hg => ?_)
      refine stepM (v := t11) (by first | exact .inl rfl | exact .inr rfl) (wanted_none rfl) rfl rfl ?_
      refine stepEnd ?_
      obtain ⟨m', hlt, hI⟩ := hg
      exact thenN ⟨m', hlt, t11, _, mk_ovr ⟨rfl, rfl, rfl, trivial⟩, hs, by rw [hw]; exact hI⟩
  · clear hg; subst hb; have hg := hg1; clear hg1
    refine wp_exit ?_
    refine thenE ?_
    refine thenE ?_
    refine blkE ?_
    refine thenN ?_
    refine wp_seq ?_
    refine region_seq ?_
    refine stepM (v := (.bool false)) (by first | exact .inl rfl | exact .inr rfl) (wanted_none rfl) rfl rfl ?_
    refine stepEnd ?_
    refine thenN ?_
    refine wp_ret ?_
    exact post_ret (res_tmp Try.results10 rfl rfl) ⟨_, rfl, hs, by rw [hw]; exact hg⟩

/-- augur/calls.Needs -/
def g_calls_Needs (v0 v1 : Value) (h : Heap) (R : Value → Heap → Prop) : Prop :=
  oCall Try.prog (.func (.func 19) #[] #[]) #[v0, v0, v1] h fun t8 h => 
  R t8 h

set_option maxRecDepth 100000 in
set_option maxHeartbeats 2000000 in
theorem sh_calls_Needs {v0 v1 : Value} {h : Heap} {R : Value → Heap → Prop} (hg : g_calls_Needs v0 v1 h R) : HC Try.prog 11 #[v0, v1] h R := by
  refine hc_of_wp (n := 9) (f := ovr [(0, v0), (1, v1)] fun _ => undef) Try.func11 rfl rfl (by kernel_rfl) (fun w hw => ?_)
  have hs := SameW.refl w
  unfold g_calls_Needs at hg
  refine wp_seq ?_
  refine region_seq ?_
  refine stepM (v := (.slice none 0 0)) (by first | exact .inl rfl | exact .inr rfl) (wanted_none rfl) rfl rfl ?_
  refine stepEnd ?_
  refine thenN ?_
  refine wp_seq ?_
  refine region_seq ?_
  refine stepM (v := v0) (by first | exact .inl rfl | exact .inr rfl) (wanted_none rfl) rfl rfl ?_
  refine stepM (v := v0) (by first | exact .inl rfl | exact .inr rfl) (wanted_none rfl) rfl rfl ?_
  refine stepM (v := v1) (by first | exact .inl rfl | exact .inr rfl) (wanted_none rfl) rfl rfl ?_
  refine stepX (ex_call rfl) (by exact hg) hw (wanted_none rfl) rfl (fun t8 h wh hw hs1 hg => ?_)
  have hs := hs.trans hs1
  clear hs1
  refine stepM (v := t8) (by first | exact .inl rfl | exact .inr rfl) (wanted_none rfl) rfl rfl ?_
  refine stepEnd ?_
  refine thenN ?_
  refine wp_ret ?_
  exact post_ret (res_tmp Try.results11 rfl rfl) ⟨_, rfl, hs, by rw [hw]; exact hg⟩

/-- augur/augurhelp.Comps -/
def g_augurhelp_Comps (v0 v1 : Value) (h : Heap) (R : Value → Heap → Prop) : Prop :=
  oLen Try.prog #[26] 3 v0 fun t7 =>
  oLen Try.prog #[26] 3 v1 fun t9 =>
  oBin Try.prog .neq 3 (.tmp 7) (.tmp 9) t7 t9 fun t10 =>
  cond t10
   (R (.bool false) h)
   (loop1 (.int .i64 0) h fun x5 h next =>
    oLen Try.prog #[26] 3 v0 fun t13 =>
    oBin Try.prog .lss 3 (.tmp 11) (.tmp 13) x5 t13 fun t14 =>
    cond t14
     (drawn h fun D =>
     oIdx Try.prog 26 v0 x5 fun t19 =>
     oLoad Try.prog 29 t19 D fun t20 =>
     oIdx Try.prog 26 v1 x5 fun t23 =>
     oLoad Try.prog 29 t23 D fun t24 =>
     oCallQ Try.prog (.func (.func 13) #[] #[]) #[t20, t24] D fun t25 =>
     oUn Try.prog .not t25 fun t26 =>
     any D fun h_1 =>
     cond t26
      (R (.bool false) h_1)
      (oBin Try.prog .add 3 (.tmp 15) (.const (.int .i64 1)) x5 (.int .i64 1) fun t16 =>
      next t16 h_1))
     (R (.bool true) h))

set_option maxRecDepth 100000 in
set_option maxHeartbeats 2000000 in
theorem sh_augurhelp_Comps {v0 v1 : Value} {h : Heap} {R : Value → Heap → Prop} (hg : g_augurhelp_Comps v0 v1 h R) : HC Try.prog 12 #[v0, v1] h R := by
  refine hc_of_wp (n := 27) (f := ovr [(0, v0), (1, v1)] fun _ => undef) Try.func12 rfl rfl (by kernel_rfl) (fun w hw => ?_)
  have hs := SameW.refl w
  unfold g_augurhelp_Comps at hg
  refine wp_seq ?_
  refine region_seq ?_
  refine stepM (v := (.bool false)) (by first | exact .inl rfl | exact .inr rfl) (wanted_none rfl) rfl rfl ?_
  refine stepEnd ?_
  refine thenN ?_
  refine wp_seq ?_
  refine wp_seq ?_
  refine region_seq ?_
  refine stepM (v := v0) (by first | exact .inl rfl | exact .inr rfl) (wanted_none rfl) rfl rfl ?_
  refine stepP (ex_blt rfl) (by exact hg) (wanted_none rfl) rfl (fun t7 hg => ?_)
  refine stepM (v := v1) (by first | exact .inl rfl | exact .inr rfl) (wanted_none rfl) rfl rfl ?_
  refine stepP (ex_blt rfl) (by exact hg) (wanted_none rfl) rfl (fun t9 hg => ?_)
  refine stepP rfl (by exact hg) (wanted_none rfl) rfl (fun t10 hg => ?_)
  refine stepEnd ?_
  refine thenN ?_
  refine codeCond hg rfl (fun hb hg1 => ?_) (fun hb hg1 => ?_)
  · clear hg; subst hb; have hg := hg1; clear hg1
    refine wp_seq ?_
    refine region_seq ?_
    refine stepM (v := (.bool false)) (by first | exact .inl rfl | exact .inr rfl) (wanted_none rfl) rfl rfl ?_
    refine stepEnd ?_
    refine thenN ?_
    refine wp_ret ?_
    refine thenR ?_
    exact post_ret (res_tmp Try.results12 rfl rfl) ⟨_, rfl, hs, by rw [hw]; exact hg⟩
  · clear hg; subst hb; have hg := hg1; clear hg1
    refine wp_skip ?_
    refine thenN ?_
    refine wp_seq ?_
    refine wp_seq ?_
    refine region_seq ?_
    refine stepM (v := (.int .i64 0)) (by first | exact .inl rfl | exact .inr rfl) (wanted_none rfl) rfl rfl ?_
    refine stepEnd ?_
    refine thenN ?_
    refine wp_block ?_
    obtain ⟨I, m0, hI0, hround⟩ := hg
    refine wp_loop_m (fun m a w' => ∃ (x5 : Value) (f : Nat → Value), a = mk 27 (ovr [(5, x5), (0, v0), (1, v1)] f) ∧ SameW w w' ∧ I m x5 w'.heap) m0 ⟨(.int .i64 0), _, mk_ovr ⟨rfl, rfl, rfl, trivial⟩, hs, by rw [hw]; exact hI0⟩ ?_
    rintro m _ wl ⟨x5, f, rfl, hs, hI⟩
    obtain ⟨h, hw⟩ : ∃ h', wl.heap = h' := ⟨_, rfl⟩
    rw [hw] at hI
    have hg := hround m _ _ hI
    clear hround hI hI0
    refine wp_seq ?_
    refine wp_seq ?_
    refine region_seq ?_
    refine stepM (v := x5) (by first | exact .inl rfl | exact .inr rfl) (wanted_none rfl) rfl rfl ?_
    refine stepM (v := v0) (by first | exact .inl rfl | exact .inr rfl) (wanted_none rfl) rfl rfl ?_
    refine stepP (ex_blt rfl) (by exact hg) (wanted_none rfl) rfl (fun t13 hg => ?_)
    refine stepP rfl (by exact hg) (wanted_none rfl) rfl (fun t14 hg => ?_)
    refine stepEnd ?_
    refine thenN ?_
    refine codeCond hg rfl (fun hb hg1 => ?_) (fun hb hg1 => ?_)
    · clear hg; subst hb; have hg := hg1; clear hg1
      refine wp_skip ?_
      refine thenN ?_
      refine wp_seq ?_
      refine wp_block ?_
      refine wp_seq ?_
      obtain ⟨D, hD, hg⟩ := hg
      refine region_quiet (D := D) (by kernel_rfl) (by kernel_rfl) (by rw [hw]; exact hD) ?_
      refine quietM (v := v0) (by first | exact .inl rfl | exact .inr rfl) (wanted_none rfl) rfl rfl ?_
      refine quietM (v := x5) (by first | exact .inl rfl | exact .inr rfl) (wanted_none rfl) rfl rfl ?_
      refine quietP rfl (by exact hg) (wanted_none rfl) rfl (fun t19 hg => ?_)
      refine quietQ rfl (by exact hg) (wanted_none rfl) rfl (fun t20 hg => ?_)
      refine quietM (v := v1) (by first | exact .inl rfl | exact .inr rfl) (wanted_none rfl) rfl rfl ?_
      refine quietM (v := x5) (by first | exact .inl rfl | exact .inr rfl) (wanted_none rfl) rfl rfl ?_
      refine quietP rfl (by exact hg) (wanted_none rfl) rfl (fun t23 hg => ?_)
      refine quietQ rfl (by exact hg) (wanted_none rfl) rfl (fun t24 hg => ?_)
      refine quietC (ex_call rfl) (by exact hg) (wanted_none rfl) rfl (fun t25 hg => ?_)
      refine quietP rfl (by exact hg) (wanted_none rfl) rfl (fun t26 hg => ?_)
      refine quietEnd (fun wq hD1 hs1 => ?_)
      obtain ⟨h_1, hw1⟩ : ∃ h', wq.heap = h' := ⟨_, rfl⟩
      have hg := hg h_1 (hw1 ▸ hD1)
      have hw := hw1
      have hs := hs.trans hs1
      clear hD1 hs1
      refine thenN ?_
      refine codeCond hg rfl (fun hb hg1 => ?_) (fun hb hg1 => ?_)
      · clear hg; subst hb; have hg := hg1; clear hg1
        refine wp_seq ?_
        refine region_seq ?_
        refine stepM (v := (.bool false)) (by first | exact .inl rfl | exact .inr rfl) (wanted_none rfl) rfl rfl ?_
        refine stepEnd ?_
        refine thenN ?_
        refine wp_ret ?_
        refine blkR ?_
        refine thenR ?_
        refine thenR ?_
        refine blkR ?_
        refine thenR ?_
        exact post_ret (res_tmp Try.results12 rfl rfl) ⟨_, rfl, hs, by rw [hw]; exact hg⟩
      · clear hg; subst hb; have hg := hg1; clear hg1
        refine wp_skip ?_
        refine blkN ?_
        refine thenN ?_
        refine region_seq ?_
        refine stepM (v := x5) (by first | exact .inl rfl | exact .inr rfl) (wanted_none rfl) rfl rfl ?_
        refine stepP rfl (by exact hg) (wanted_none rfl) rfl (fun t16 hg => ?_)
        refine stepM (v := t16) (by first | exact .inl rfl | exact .inr rfl) (wanted_none rfl) rfl rfl ?_
        refine stepEnd ?_
        obtain ⟨m', hlt, hI⟩ := hg
        exact thenN ⟨m', hlt, t16, _, mk_ovr ⟨rfl, rfl, rfl, trivial⟩, hs, by rw [hw]; exact hI⟩
    · clear hg; subst hb; have hg := hg1; clear hg1
      refine wp_exit ?_
      refine thenE ?_
      refine thenE ?_
      refine blkE ?_
      refine thenN ?_
      refine wp_seq ?_
      refine region_seq ?_
      refine stepM (v := (.bool true)) (by first | exact .inl rfl | exact .inr rfl) (wanted_none rfl) rfl rfl ?_
      refine stepEnd ?_
      refine thenN ?_
      refine wp_ret ?_
      exact post_ret (res_tmp Try.results12 rfl rfl) ⟨_, rfl, hs, by rw [hw]; exact hg⟩

/-- augur/augurhelp.Strings -/
def g_augurhelp_Strings (v0 v1 : Value) (h : Heap) (R : Value → Heap → Prop) : Prop :=
  oLen Try.prog #[29] 3 v0 fun t7 =>
  oLen Try.prog #[29] 3 v1 fun t9 =>
  oBin Try.prog .neq 3 (.tmp 7) (.tmp 9) t7 t9 fun t10 =>
  cond t10
   (R (.bool false) h)
   (loop1 (.int .i64 0) h fun x5 h next =>
    oLen Try.prog #[29] 3 v0 fun t13 =>
    oBin Try.prog .lss 3 (.tmp 11) (.tmp 13) x5 t13 fun t14 =>
    cond t14
     (oIdx Try.prog 29 v0 x5 fun t19 =>
     oLoad Try.prog 9 t19 (Eq h) fun t20 =>
     oIdx Try.prog 29 v1 x5 fun t23 =>
     oLoad Try.prog 9 t23 (Eq h) fun t24 =>
     oBin Try.prog .neq 9 (.tmp 20) (.tmp 24) t20 t24 fun t25 =>
     cond t25
      (R (.bool false) h)
      (oBin Try.prog .add 3 (.tmp 15) (.const (.int .i64 1)) x5 (.int .i64 1) fun t16 =>
      next t16 h))
     (R (.bool true) h))

set_option maxRecDepth 100000 in
set_option maxHeartbeats 2000000 in
theorem sh_augurhelp_Strings {v0 v1 : Value} {h : Heap} {R : Value → Heap → Prop} (hg : g_augurhelp_Strings v0 v1 h R) : HC Try.prog 13 #[v0, v1] h R := by
  refine hc_of_wp (n := 26) (f := ovr [(0, v0), (1, v1)] fun _ => undef) Try.func13 rfl rfl (by kernel_rfl) (fun w hw => ?_)
  have hs := SameW.refl w
  unfold g_augurhelp_Strings at hg
  refine wp_seq ?_
  refine region_seq ?_
  refine stepM (v := (.bool false)) (by first | exact .inl rfl | exact .inr rfl) (wanted_none rfl) rfl rfl ?_
  refine stepEnd ?_
  refine thenN ?_
  refine wp_seq ?_
  refine wp_seq ?_
  refine region_seq ?_
  refine stepM (v := v0) (by first | exact .inl rfl | exact .inr rfl) (wanted_none rfl) rfl rfl ?_
  refine stepP (ex_blt rfl) (by exact hg) (wanted_none rfl) rfl (fun t7 hg => ?_)
  refine stepM (v := v1) (by first | exact .inl rfl | exact .inr rfl) (wanted_none rfl) rfl rfl ?_
  refine stepP (ex_blt rfl) (by exact hg) (wanted_none rfl) rfl (fun t9 hg => ?_)
  refine stepP rfl (by exact hg) (wanted_none rfl) rfl (fun t10 hg => ?_)
  refine stepEnd ?_
  refine thenN ?_
  refine codeCond hg rfl (fun hb hg1 => ?_) (fun hb hg1 => ?_)
  · clear hg; subst hb; have hg := hg1; clear hg1
    refine wp_seq ?_
    refine region_seq ?_
    refine stepM (v := (.bool false)) (by first | exact .inl rfl | exact .inr rfl) (wanted_none rfl) rfl rfl ?_
    refine stepEnd ?_
    refine thenN ?_
    refine wp_ret ?_
    refine thenR ?_
    exact post_ret (res_tmp Try.results13 rfl rfl) ⟨_, rfl, hs, by rw [hw]; exact hg⟩
  · clear hg; subst hb; have hg := hg1; clear hg1
    refine wp_skip ?_
    refine thenN ?_
    refine wp_seq ?_
    refine wp_seq ?_
    refine region_seq ?_
    refine stepM (v := (.int .i64 0)) (by first | exact .inl rfl | exact .inr rfl) (wanted_none rfl) rfl rfl ?_
    refine stepEnd ?_
    refine thenN ?_
    refine wp_block ?_
    obtain ⟨I, m0, hI0, hround⟩ := hg
    refine wp_loop_m (fun m a w' => ∃ (x5 : Value) (f : Nat → Value), a = mk 26 (ovr [(5, x5), (0, v0), (1, v1)] f) ∧ SameW w w' ∧ I m x5 w'.heap) m0 ⟨(.int .i64 0), _, mk_ovr ⟨rfl, rfl, rfl, trivial⟩, hs, by rw [hw]; exact hI0⟩ ?_
    rintro m _ wl ⟨x5, f, rfl, hs, hI⟩
    obtain ⟨h, hw⟩ : ∃ h', wl.heap = h' := ⟨_, rfl⟩
    rw [hw] at hI
    have hg := hround m _ _ hI
    clear hround hI hI0
    refine wp_seq ?_
    refine wp_seq ?_
    refine region_seq ?_
    refine stepM (v := x5) (by first | exact .inl rfl | exact .inr rfl) (wanted_none rfl) rfl rfl ?_
    refine stepM (v := v0) (by first | exact .inl rfl | exact .inr rfl) (wanted_none rfl) rfl rfl ?_
    refine stepP (ex_blt rfl) (by exact hg) (wanted_none rfl) rfl (fun t13 hg => ?_)
    refine stepP rfl (by exact hg) (wanted_none rfl) rfl (fun t14 hg => ?_)
    refine stepEnd ?_
    refine thenN ?_
    refine codeCond hg rfl (fun hb hg1 => ?_) (fun hb hg1 => ?_)
    · clear hg; subst hb; have hg := hg1; clear hg1
      refine wp_skip ?_
      refine thenN ?_
      refine wp_seq ?_
      refine wp_block ?_
      refine wp_seq ?_
      refine region_quiet (D := Eq h) (by kernel_rfl) (by kernel_rfl) hw.symm ?_
      refine quietM (v := v0) (by first | exact .inl rfl | exact .inr rfl) (wanted_none rfl) rfl rfl ?_
      refine quietM (v := x5) (by first | exact .inl rfl | exact .inr rfl) (wanted_none rfl) rfl rfl ?_
      refine quietP rfl (by exact hg) (wanted_none rfl) rfl (fun t19 hg => ?_)
      refine quietQ rfl (by exact hg) (wanted_none rfl) rfl (fun t20 hg => ?_)
      refine quietM (v := v1) (by first | exact .inl rfl | exact .inr rfl) (wanted_none rfl) rfl rfl ?_
      refine quietM (v := x5) (by first | exact .inl rfl | exact .inr rfl) (wanted_none rfl) rfl rfl ?_
      refine quietP rfl (by exact hg) (wanted_none rfl) rfl (fun t23 hg => ?_)
      refine quietQ rfl (by exact hg) (wanted_none rfl) rfl (fun t24 hg => ?_)
      refine quietP rfl (by exact hg) (wanted_none rfl) rfl (fun t25 hg => ?_)
      refine quietEnd (fun wq hD hs1 => ?_)
      have hw := hD.symm
      have hs := hs.trans hs1
      clear hD hs1
      refine thenN ?_
      refine codeCond hg rfl (fun hb hg1 => ?_) (fun hb hg1 => ?_)
      · clear hg; subst hb; have hg := hg1; clear hg1
        refine wp_seq ?_
        refine region_seq ?_
        refine stepM (v := (.bool false)) (by first | exact .inl rfl | exact .inr rfl) (wanted_none rfl) rfl rfl ?_
        refine stepEnd ?_
        refine thenN ?_
        refine wp_ret ?_
        refine blkR ?_
        refine thenR ?_
        refine thenR ?_
        refine blkR ?_
        refine thenR ?_
        exact post_ret (res_tmp Try.results13 rfl rfl) ⟨_, rfl, hs, by rw [hw]; exact hg⟩
      · clear hg; subst hb; have hg := hg1; clear hg1
        refine wp_skip ?_
        refine blkN ?_
        refine thenN ?_
        refine region_seq ?_
        refine stepM (v := x5) (by first | exact .inl rfl | exact .inr rfl) (wanted_none rfl) rfl rfl ?_
        refine stepP rfl (by exact hg) (wanted_none rfl) rfl (fun t16 hg => ?_)
        refine stepM (v := t16) (by first | exact .inl rfl | exact .inr rfl) (wanted_none rfl) rfl rfl ?_
        refine stepEnd ?_
        obtain ⟨m', hlt, hI⟩ := hg
        exact thenN ⟨m', hlt, t16, _, mk_ovr ⟨rfl, rfl, rfl, trivial⟩, hs, by rw [hw]; exact hI⟩
    · clear hg; subst hb; have hg := hg1; clear hg1
      refine wp_exit ?_
      refine thenE ?_
      refine thenE ?_
      refine blkE ?_
      refine thenN ?_
      refine wp_seq ?_
      refine region_seq ?_
      refine stepM (v := (.bool true)) (by first | exact .inl rfl | exact .inr rfl) (wanted_none rfl) rfl rfl ?_
      refine stepEnd ?_
      refine thenN ?_
      refine wp_ret ?_
      exact post_ret (res_tmp Try.results13 rfl rfl) ⟨_, rfl, hs, by rw [hw]; exact hg⟩

/-- augur/calls.Users -/
def g_calls_Users (v0 v1 : Value) (h : Heap) (R : Value → Heap → Prop) : Prop :=
  oLook Try.prog 24 v0 v1 true (Eq h) fun t15 =>
  oExt Try.prog t15 0 fun t16 =>
  oExt Try.prog t15 1 fun t17 =>
  oUn Try.prog .not t17 fun t19 =>
  cond t19
   (R (.slice none 0 0) h)
   (oMkMap Try.prog 24 none h fun t20 h => 
   oCall Try.prog (.func (.func 15) #[] #[]) #[v0] h fun t22 h_1 => 
   oLen Try.prog #[29] 3 t22 fun t23 =>
   loop1 (.int .i64 0) h_1 fun x24 h_2 next =>
    oBin Try.prog .lss 3 (.tmp 24) (.tmp 23) x24 t23 fun t25 =>
    cond t25
     (oIdx Try.prog 29 t22 x24 fun t26 =>
     oLoad Try.prog 9 t26 (Eq h_2) fun t27 =>
     oLook Try.prog 24 v0 t27 false (Eq h_2) fun t30 =>
     oLen Try.prog #[29] 3 t30 fun t31 =>
     loop1 (.int .i64 0) h_2 fun x32 h_3 next_1 =>
      oBin Try.prog .lss 3 (.tmp 32) (.tmp 31) x32 t31 fun t33 =>
      cond t33
       (oIdx Try.prog 29 t30 x32 fun t34 =>
       oLoad Try.prog 9 t34 (Eq h_3) fun t35 =>
       oLook Try.prog 24 t20 t35 false (Eq h_3) fun t40 =>
       oBuildSlice Try.prog 29 1 #[(0, t27)] h_3 fun t42 h_4 => 
       oAppend Try.prog #[29, 29] 29 #[t40, t42] h_4 fun t43 h_5 => 
       oUpd Try.prog 24 t20 t35 t43 h_5 fun _ h_6 => 
       oBin Try.prog .add 3 (.tmp 32) (.const (.int .i64 1)) x32 (.int .i64 1) fun t44 =>
       next_1 t44 h_6)
       (oBin Try.prog .add 3 (.tmp 24) (.const (.int .i64 1)) x24 (.int .i64 1) fun t45 =>
       next t45 h_3))
     (oCall Try.prog (.func (.func 19) #[] #[]) #[v0, t20, v1] h_2 fun t49 h_7 => 
     R t49 h_7))

set_option maxRecDepth 100000 in
set_option maxHeartbeats 2000000 in
theorem sh_calls_Users {v0 v1 : Value} {h : Heap} {R : Value → Heap → Prop} (hg : g_calls_Users v0 v1 h R) : HC Try.prog 14 #[v0, v1] h R := by
  refine hc_of_wp (n := 50) (f := ovr [(0, v0), (1, v1)] fun _ => undef) Try.func14 rfl rfl (by kernel_rfl) (fun w hw => ?_)
  have hs := SameW.refl w
  unfold g_calls_Users at hg
  refine wp_seq ?_
  refine region_seq ?_
  refine stepM (v := (.slice none 0 0)) (by first | exact .inl rfl | exact .inr rfl) (wanted_none rfl) rfl rfl ?_
  refine stepEnd ?_
  refine thenN ?_
  refine wp_seq ?_
  refine wp_seq ?_
  refine region_seq ?_
  refine stepM (v := v0) (by first | exact .inl rfl | exact .inr rfl) (wanted_none rfl) rfl rfl ?_
  refine stepM (v := v1) (by first | exact .inl rfl | exact .inr rfl) (wanted_none rfl) rfl rfl ?_
  refine stepQ rfl (by exact hg) hw (wanted_none rfl) rfl (fun t15 hg => ?_)
  refine stepM (v := t15) (by first | exact .inl rfl | exact .inr rfl) (wanted_none rfl) rfl rfl ?_
  refine stepP rfl (by exact hg) (wanted_none rfl) rfl (fun t16 hg => ?_)
  refine stepP rfl (by exact hg) (wanted_none rfl) rfl (fun t17 hg => ?_)
  refine stepM (v := t16) (by first | exact .inl rfl | exact .inr rfl) (wanted_none rfl) rfl rfl ?_
  refine stepM (v := t17) (by first | exact .inl rfl | exact .inr rfl) (wanted_none rfl) rfl rfl ?_
  refine stepEnd ?_
  refine thenN ?_
  refine wp_seq ?_
  refine region_seq ?_
  refine stepM (v := t17) (by first | exact .inl rfl | exact .inr rfl) (wanted_none rfl) rfl rfl ?_
  refine stepP rfl (by exact hg) (wanted_none rfl) rfl (fun t19 hg => ?_)
  refine stepEnd ?_
  refine thenN ?_
  refine codeCond hg rfl (fun hb hg1 => ?_) (fun hb hg1 => ?_)
  · clear hg; subst hb; have hg := hg1; clear hg1
    refine wp_seq ?_
    refine region_seq ?_
    refine stepM (v := (.slice none 0 0)) (by first | exact .inl rfl | exact .inr rfl) (wanted_none rfl) rfl rfl ?_
    refine stepEnd ?_
    refine thenN ?_
    refine wp_ret ?_
    refine thenR ?_
    exact post_ret (res_tmp Try.results14 rfl rfl) ⟨_, rfl, hs, by rw [hw]; exact hg⟩
  · clear hg; subst hb; have hg := hg1; clear hg1
    refine wp_skip ?_
    refine thenN ?_
    refine wp_seq ?_
    refine region_seq ?_
    refine stepX rfl (by exact hg) hw (wanted_none rfl) rfl (fun t20 h wh hw hs1 hg => ?_)
    have hs := hs.trans hs1
    clear hs1
    refine stepM (v := t20) (by first | exact .inl rfl | exact .inr rfl) (wanted_none rfl) rfl rfl ?_
    refine stepEnd ?_
    refine thenN ?_
    refine wp_seq ?_
    refine wp_seq ?_
    refine region_seq ?_
    refine stepM (v := v0) (by first | exact .inl rfl | exact .inr rfl) (wanted_none rfl) rfl rfl ?_
    refine stepX (ex_call rfl) (by exact hg) hw (wanted_none rfl) rfl (fun t22 h_1 wh_1 hw hs1 hg => ?_)
    have hs := hs.trans hs1
    clear hs1
    refine stepP (ex_blt rfl) (by exact hg) (wanted_none rfl) rfl (fun t23 hg => ?_)
    refine stepM (v := (.int .i64 0)) (by first | exact .inl rfl | exact .inr rfl) (wanted_none rfl) rfl rfl ?_
    refine stepEnd ?_
    refine thenN ?_
    refine wp_block ?_
    obtain ⟨I, m0, hI0, hround⟩ := hg
    refine wp_loop_m (fun m a w' => ∃ (x24 : Value) (f : Nat → Value), a = mk 50 (ovr [(24, x24), (0, v0), (1, v1), (7, t20), (22, t22), (23, t23)] f) ∧ SameW w w' ∧ I m x24 w'.heap) m0 ⟨(.int .i64 0), _, mk_ovr ⟨rfl, rfl, rfl, rfl, rfl, rfl, trivial⟩, hs, by rw [hw]; exact hI0⟩ ?_
    rintro m _ wl ⟨x24, f, rfl, hs, hI⟩
    obtain ⟨h_2, hw⟩ : ∃ h', wl.heap = h' := ⟨_, rfl⟩
    rw [hw] at hI
    have hg := hround m _ _ hI
    clear hround hI hI0
    refine wp_seq ?_
    refine region_seq ?_
    refine stepP rfl (by exact hg) (wanted_none rfl) rfl (fun t25 hg => ?_)
    refine stepEnd ?_
    refine thenN ?_
    refine wp_seq ?_
    refine codeCond hg rfl (fun hb hg1 => ?_) (fun hb hg1 => ?_)
    · clear hg; subst hb; have hg := hg1; clear hg1
      refine wp_skip ?_
      refine thenN ?_
      refine wp_seq ?_
      refine wp_block ?_
      refine wp_seq ?_
      refine region_seq ?_
      refine stepP rfl (by exact hg) (wanted_none rfl) rfl (fun t26 hg => ?_)
      refine stepQ rfl (by exact hg) hw (wanted_none rfl) rfl (fun t27 hg => ?_)
      refine stepM (v := t27) (by first | exact .inl rfl | exact .inr rfl) (wanted_none rfl) rfl rfl ?_
      refine stepEnd ?_
      refine thenN ?_
      refine wp_seq ?_
      refine region_seq ?_
      refine stepM (v := v0) (by first | exact .inl rfl | exact .inr rfl) (wanted_none rfl) rfl rfl ?_
      refine stepM (v := t27) (by first | exact .inl rfl | exact .inr rfl) (wanted_none rfl) rfl rfl ?_
      refine stepQ rfl (by exact hg) hw (wanted_none rfl) rfl (fun t30 hg => ?_)
      refine stepP (ex_blt rfl) (by exact hg) (wanted_none rfl) rfl (fun t31 hg => ?_)
      refine stepM (v := (.int .i64 0)) (by first | exact .inl rfl | exact .inr rfl) (wanted_none rfl) rfl rfl ?_
      refine stepEnd ?_
      refine thenN ?_
      refine wp_block ?_
      obtain ⟨I, m0, hI0, hround⟩ := hg
      refine wp_loop_m (fun m a w' => ∃ (x32 : Value) (f : Nat → Value), a = mk 50 (ovr [(32, x32), (0, v0), (1, v1), (7, t20), (9, t27), (22, t22), (23, t23), (24, x24), (30, t30), (31, t31)] f) ∧ SameW w w' ∧ I m x32 w'.heap) m0 ⟨(.int .i64 0), _, mk_ovr ⟨rfl, rfl, rfl, rfl, rfl, rfl, rfl, rfl, rfl, rfl, trivial⟩, hs, by rw [hw]; exact hI0⟩ ?_
      rintro m _ wl ⟨x32, f, rfl, hs, hI⟩
      obtain ⟨h_3, hw⟩ : ∃ h', wl.heap = h' := ⟨_, rfl⟩
      rw [hw] at hI
      have hg := hround m _ _ hI
      clear hround hI hI0
      refine wp_seq ?_
      refine region_seq ?_
      refine stepP rfl (by exact hg) (wanted_none rfl) rfl (fun t33 hg => ?_)
      refine stepEnd ?_
      refine thenN ?_
      refine wp_seq ?_
      refine codeCond hg rfl (fun hb hg1 => ?_) (fun hb hg1 => ?_)
      · clear hg; subst hb; have hg := hg1; clear hg1
        refine wp_skip ?_
        refine thenN ?_
        refine wp_seq ?_
        refine wp_block ?_
        refine wp_seq ?_
        refine region_seq ?_
        refine stepP rfl (by exact hg) (wanted_none rfl) rfl (fun t34 hg => ?_)
        refine stepQ rfl (by exact hg) hw (wanted_none rfl) rfl (fun t35 hg => ?_)
        refine stepM (v := t35) (by first | exact .inl rfl | exact .inr rfl) (wanted_none rfl) rfl rfl ?_
        refine stepEnd ?_
        refine thenN ?_
        refine region_seq ?_
        refine stepM (v := t20) (by first | exact .inl rfl | exact .inr rfl) (wanted_none rfl) rfl rfl ?_
        refine stepM (v := t35) (by first | exact .inl rfl | exact .inr rfl) (wanted_none rfl) rfl rfl ?_
        refine stepM (v := t20) (by first | exact .inl rfl | exact .inr rfl) (wanted_none rfl) rfl rfl ?_
        refine stepM (v := t35) (by first | exact .inl rfl | exact .inr rfl) (wanted_none rfl) rfl rfl ?_
        refine stepQ rfl (by exact hg) hw (wanted_none rfl) rfl (fun t40 hg => ?_)
        refine stepM (v := t27) (by first | exact .inl rfl | exact .inr rfl) (wanted_none rfl) rfl rfl ?_
        refine stepX (ex_buildSlice rfl) (by exact hg) hw (wanted_none rfl) rfl (fun t42 h_4 wh_4 hw hs1 hg => ?_)
        have hs := hs.trans hs1
        clear hs1
        refine stepX (ex_blt rfl) (by exact hg) hw (wanted_none rfl) rfl (fun t43 h_5 wh_5 hw hs1 hg => ?_)
        have hs := hs.trans hs1
        clear hs1
        refine stepU rfl (by exact hg) hw (wanted_none rfl) rfl (fun _ h_6 wh_6 hw hs1 hg => ?_)
        have hs := hs.trans hs1
        clear hs1
        refine stepEnd ?_
        refine blkN ?_
        refine thenN ?_
        refine region_seq ?_
        refine stepP rfl (by exact hg) (wanted_none rfl) rfl (fun t44 hg => ?_)
        refine stepM (v := t44) (by first | exact .inl rfl | exact .inr rfl) (wanted_none rfl) rfl rfl ?_
        refine stepEnd ?_
        obtain ⟨m', hlt, hI⟩ := hg
        exact thenN ⟨m', hlt, t44, _, mk_ovr ⟨rfl, rfl, rfl, rfl, rfl, rfl, rfl, rfl, rfl, rfl, trivial⟩, hs, by rw [hw]; exact hI⟩
      · clear hg; subst hb; have hg := hg1; clear hg1
        refine wp_exit ?_
        refine thenE ?_
        refine thenE ?_
        refine blkE ?_
        refine blkN ?_
        refine thenN ?_
        refine region_seq ?_
        refine stepP rfl (by exact hg) (wanted_none rfl) rfl (fun t45 hg => ?_)
        refine stepM (v := t45) (by first | exact .inl rfl | exact .inr rfl) (wanted_none rfl) rfl rfl ?_
        refine stepEnd ?_
        obtain ⟨m', hlt, hI⟩ := hg
        exact thenN ⟨m', hlt, t45, _, mk_ovr ⟨rfl, rfl, rfl, rfl, rfl, rfl, trivial⟩, hs, by rw [hw]; exact hI⟩
    · clear hg; subst hb; have hg := hg1; clear hg1
      refine wp_exit ?_
      refine thenE ?_
      refine thenE ?_
      refine blkE ?_
      refine thenN ?_
      refine wp_seq ?_
      refine region_seq ?_
      refine stepM (v := v0) (by first | exact .inl rfl | exact .inr rfl) (wanted_none rfl) rfl rfl ?_
      refine stepM (v := t20) (by first | exact .inl rfl | exact .inr rfl) (wanted_none rfl) rfl rfl ?_
      refine stepM (v := v1) (by first | exact .inl rfl | exact .inr rfl) (wanted_none rfl) rfl rfl ?_
      refine stepX (ex_call rfl) (by exact hg) hw (wanted_none rfl) rfl (fun t49 h_7 wh_7 hw hs1 hg => ?_)
      have hs := hs.trans hs1
      clear hs1
      refine stepM (v := t49) (by first | exact .inl rfl | exact .inr rfl) (wanted_none rfl) rfl rfl ?_
      refine stepEnd ?_
      refine thenN ?_
      refine wp_ret ?_
      exact post_ret (res_tmp Try.results14 rfl rfl) ⟨_, rfl, hs, by rw [hw]; exact hg⟩

/-- augur/calls.keys -/
def g_calls_keys (v0 : Value) (h : Heap) (R : Value → Heap → Prop) : Prop :=
  oLenM Try.prog #[24] 3 v0 (Eq h) fun t6 =>
  oMkSlice Try.prog 29 (.int .i64 0) t6 h fun t7 h => 
  oRange Try.prog 24 v0 h fun t9 h_1 => 
  loop1 t7 h_1 fun x3 h_2 next =>
   oNext Try.prog t9 false 0 h_2 fun t10 h_3 => 
   oExt Try.prog t10 0 fun t11 =>
   cond t11
    (oEntry Try.prog t9 (Eq h_3) fun t12 =>
    oExt Try.prog t12 0 fun t13 =>
    oBuildSlice Try.prog 29 1 #[(0, t13)] h_3 fun t16 h_4 => 
    oAppend Try.prog #[29, 29] 29 #[x3, t16] h_4 fun t17 h_5 => 
    next t17 h_5)
    (oCall Try.prog (.func (.func 20) #[] #[]) #[x3, (.func (.func 21) #[] #[])] h_3 fun t19 h_6 => 
    R x3 h_6)

set_option maxRecDepth 100000 in
set_option maxHeartbeats 2000000 in
theorem sh_calls_keys {v0 : Value} {h : Heap} {R : Value → Heap → Prop} (hg : g_calls_keys v0 h R) : HC Try.prog 15 #[v0] h R := by
  refine hc_of_wp (n := 21) (f := ovr [(0, v0)] fun _ => undef) Try.func15 rfl rfl (by kernel_rfl) (fun w hw => ?_)
  have hs := SameW.refl w
  unfold g_calls_keys at hg
  refine wp_seq ?_
  refine region_seq ?_
  refine stepM (v := (.slice none 0 0)) (by first | exact .inl rfl | exact .inr rfl) (wanted_none rfl) rfl rfl ?_
  refine stepEnd ?_
  refine thenN ?_
  refine wp_seq ?_
  refine region_seq ?_
  refine stepM (v := v0) (by first | exact .inl rfl | exact .inr rfl) (wanted_none rfl) rfl rfl ?_
  refine stepQ (ex_blt rfl) (by exact hg) hw (wanted_none rfl) rfl (fun t6 hg => ?_)
  refine stepX rfl (by exact hg) hw (wanted_none rfl) rfl (fun t7 h wh hw hs1 hg => ?_)
  have hs := hs.trans hs1
  clear hs1
  refine stepM (v := t7) (by first | exact .inl rfl | exact .inr rfl) (wanted_none rfl) rfl rfl ?_
  refine stepEnd ?_
  refine thenN ?_
  refine wp_seq ?_
  refine wp_seq ?_
  refine region_seq ?_
  refine stepM (v := v0) (by first | exact .inl rfl | exact .inr rfl) (wanted_none rfl) rfl rfl ?_
  refine stepX rfl (by exact hg) hw (wanted_none rfl) rfl (fun t9 h_1 wh_1 hw hs1 hg => ?_)
  have hs := hs.trans hs1
  clear hs1
  refine stepEnd ?_
  refine thenN ?_
  refine wp_block ?_
  obtain ⟨I, m0, hI0, hround⟩ := hg
  refine wp_loop_m (fun m a w' => ∃ (x3 : Value) (f : Nat → Value), a = mk 21 (ovr [(3, x3), (9, t9)] f) ∧ SameW w w' ∧ I m x3 w'.heap) m0 ⟨t7, _, mk_ovr ⟨rfl, rfl, trivial⟩, hs, by rw [hw]; exact hI0⟩ ?_
  rintro m _ wl ⟨x3, f, rfl, hs, hI⟩
  obtain ⟨h_2, hw⟩ : ∃ h', wl.heap = h' := ⟨_, rfl⟩
  rw [hw] at hI
  have hg := hround m _ _ hI
  clear hround hI hI0
  refine wp_seq ?_
  refine region_seq ?_
  refine stepX rfl (by exact hg) hw (wanted_none rfl) rfl (fun t10 h_3 wh_3 hw hs1 hg => ?_)
  have hs := hs.trans hs1
  clear hs1
  refine stepP rfl (by exact hg) (wanted_none rfl) rfl (fun t11 hg => ?_)
  refine stepEnd ?_
  refine thenN ?_
  refine wp_seq ?_
  refine codeCond hg rfl (fun hb hg1 => ?_) (fun hb hg1 => ?_)
  · clear hg; subst hb; have hg := hg1; clear hg1
    refine wp_skip ?_
    refine thenN ?_
    refine wp_block ?_
    refine wp_seq ?_
    refine region_seq ?_
    refine stepQ rfl (by exact hg) hw (wanted_none rfl) rfl (fun t12 hg => ?_)
    refine stepP rfl (by exact hg) (wanted_none rfl) rfl (fun t13 hg => ?_)
    refine stepM (v := t13) (by first | exact .inl rfl | exact .inr rfl) (wanted_none rfl) rfl rfl ?_
    refine stepEnd ?_
    refine thenN ?_
    refine region_seq ?_
    refine stepM (v := x3) (by first | exact .inl rfl | exact .inr rfl) (wanted_none rfl) rfl rfl ?_
    refine stepM (v := t13) (by first | exact .inl rfl | exact .inr rfl) (wanted_none rfl) rfl rfl ?_
    refine stepX (ex_buildSlice rfl) (by exact hg) hw (wanted_none rfl) rfl (fun t16 h_4 wh_4 hw hs1 hg => ?_)
    have hs := hs.trans hs1
    clear hs1
    refine stepX (ex_blt rfl) (by exact hg) hw (wanted_none rfl) rfl (fun t17 h_5 wh_5 hw hs1 hg => ?_)
    have hs := hs.trans hs1
    clear hs1
    refine stepM (v := t17) (by first | exact .inl rfl | exact .inr rfl) (wanted_none rfl) rfl rfl ?_
    refine stepEnd ?_
    refine blkN ?_
    obtain ⟨m', hlt, hI⟩ := hg
    exact thenN ⟨m', hlt, t17, _, mk_ovr ⟨rfl, rfl, trivial⟩, hs, by rw [hw]; exact hI⟩
  · clear hg; subst hb; have hg := hg1; clear hg1
    refine wp_exit ?_
    refine thenE ?_
    refine thenE ?_
    refine blkE ?_
    refine thenN ?_
    refine wp_seq ?_
    refine region_seq ?_
    refine stepM (v := x3) (by first | exact .inl rfl | exact .inr rfl) (wanted_none rfl) rfl rfl ?_
    refine stepX (ex_call rfl) (by exact hg) hw (wanted_none rfl) rfl (fun t19 h_6 wh_6 hw hs1 hg => ?_)
    have hs := hs.trans hs1
    clear hs1
    refine stepEnd ?_
    refine thenN ?_
    refine wp_seq ?_
    refine region_seq ?_
    refine stepM (v := x3) (by first | exact .inl rfl | exact .inr rfl) (wanted_none rfl) rfl rfl ?_
    refine stepM (v := x3) (by first | exact .inl rfl | exact .inr rfl) (wanted_none rfl) rfl rfl ?_
    refine stepEnd ?_
    refine thenN ?_
    refine wp_ret ?_
    exact post_ret (res_tmp Try.results15 rfl rfl) ⟨_, rfl, hs, by rw [hw]; exact hg⟩

/-- augur/calls.numbered -/
def g_calls_numbered (v0 v1 : Value) (h : Heap) (R : Value → Heap → Prop) : Prop :=
  oLen Try.prog #[29] 3 v1 fun t16 =>
  oMkMap Try.prog 28 (some t16) h fun t17 h => 
  oLen Try.prog #[29] 3 v1 fun t19 =>
  loop1 (.int .i64 0) h fun x20 h_1 next =>
   oBin Try.prog .lss 3 (.tmp 20) (.tmp 19) x20 t19 fun t21 =>
   cond t21
    (oIdx Try.prog 29 v1 x20 fun t23 =>
    oLoad Try.prog 9 t23 (Eq h_1) fun t24 =>
    oUpd Try.prog 28 t17 t24 x20 h_1 fun _ h_2 => 
    oBin Try.prog .add 3 (.tmp 20) (.const (.int .i64 1)) x20 (.int .i64 1) fun t28 =>
    next t28 h_2)
    (oLen Try.prog #[29] 3 v1 fun t30 =>
    oMkSlice Try.prog 41 t30 t30 h_1 fun t31 h_3 => 
    oLen Try.prog #[29] 3 v1 fun t33 =>
    loop1 (.int .i64 0) h_3 fun x34 h_4 next_1 =>
     oBin Try.prog .lss 3 (.tmp 34) (.tmp 33) x34 t33 fun t35 =>
     cond t35
      (oIdx Try.prog 29 v1 x34 fun t37 =>
      oLoad Try.prog 9 t37 (Eq h_4) fun t38 =>
      oLook Try.prog 24 v0 t38 false (Eq h_4) fun t41 =>
      oLen Try.prog #[29] 3 t41 fun t42 =>
      loop1 (.int .i64 0) h_4 fun x43 h_5 next_2 =>
       oBin Try.prog .lss 3 (.tmp 43) (.tmp 42) x43 t42 fun t44 =>
       cond t44
        (join (fun (h_6 : Heap) =>
         oBin Try.prog .add 3 (.tmp 43) (.const (.int .i64 1)) x43 (.int .i64 1) fun t64 =>
         next_2 t64 h_6)
         fun k =>
         oIdx Try.prog 29 t41 x43 fun t45 =>
         oLoad Try.prog 9 t45 (Eq h_5) fun t46 =>
         oLook Try.prog 28 t17 t46 true (Eq h_5) fun t50 =>
         oExt Try.prog t50 0 fun t51 =>
         oExt Try.prog t50 1 fun t52 =>
         cond t52
          (oIdx Try.prog 41 t31 x34 fun t58 =>
          oLoad Try.prog 43 t58 (Eq h_5) fun t59 =>
          oBuildSlice Try.prog 43 1 #[(0, t51)] h_5 fun t61 h_7 => 
          oAppend Try.prog #[43, 43] 43 #[t59, t61] h_7 fun t62 h_8 => 
          oIdx Try.prog 41 t31 x34 fun t63 =>
          oStore Try.prog 43 t63 t62 h_8 fun _ h_9 => 
          k h_9)
          (k h_5))
        (oBin Try.prog .add 3 (.tmp 34) (.const (.int .i64 1)) x34 (.int .i64 1) fun t65 =>
        next_1 t65 h_5))
      (R t31 h_4))

set_option maxRecDepth 100000 in
set_option maxHeartbeats 2000000 in
theorem sh_calls_numbered {v0 v1 : Value} {h : Heap} {R : Value → Heap → Prop} (hg : g_calls_numbered v0 v1 h R) : HC Try.prog 16 #[v0, v1] h R := by
  refine hc_of_wp (n := 67) (f := ovr [(0, v0), (1, v1)] fun _ => undef) Try.func16 rfl rfl (by kernel_rfl) (fun w hw => ?_)
  have hs := SameW.refl w
  unfold g_calls_numbered at hg
  refine wp_seq ?_
  refine region_seq ?_
  refine stepM (v := (.slice none 0 0)) (by first | exact .inl rfl | exact .inr rfl) (wanted_none rfl) rfl rfl ?_
  refine stepEnd ?_
  refine thenN ?_
  refine wp_seq ?_
  refine region_seq ?_
  refine stepM (v := v1) (by first | exact .inl rfl | exact .inr rfl) (wanted_none rfl) rfl rfl ?_
  refine stepP (ex_blt rfl) (by exact hg) (wanted_none rfl) rfl (fun t16 hg => ?_)
  refine stepX rfl (by exact hg) hw (wanted_none rfl) rfl (fun t17 h wh hw hs1 hg => ?_)
  have hs := hs.trans hs1
  clear hs1
  refine stepM (v := t17) (by first | exact .inl rfl | exact .inr rfl) (wanted_none rfl) rfl rfl ?_
  refine stepEnd ?_
  refine thenN ?_
  refine wp_seq ?_
  refine wp_seq ?_
  refine region_seq ?_
  refine stepM (v := v1) (by first | exact .inl rfl | exact .inr rfl) (wanted_none rfl) rfl rfl ?_
  refine stepP (ex_blt rfl) (by exact hg) (wanted_none rfl) rfl (fun t19 hg => ?_)
  refine stepM (v := (.int .i64 0)) (by first | exact .inl rfl | exact .inr rfl) (wanted_none rfl) rfl rfl ?_
  refine stepEnd ?_
  refine thenN ?_
  refine wp_block ?_
  obtain ⟨I, m0, hI0, hround⟩ := hg
  refine wp_loop_m (fun m a w' => ∃ (x20 : Value) (f : Nat → Value), a = mk 67 (ovr [(20, x20), (0, v0), (1, v1), (5, t17), (18, v1), (19, t19)] f) ∧ SameW w w' ∧ I m x20 w'.heap) m0 ⟨(.int .i64 0), _, mk_ovr ⟨rfl, rfl, rfl, rfl, rfl, rfl, trivial⟩, hs, by rw [hw]; exact hI0⟩ ?_
  rintro m _ wl ⟨x20, f, rfl, hs, hI⟩
  obtain ⟨h_1, hw⟩ : ∃ h', wl.heap = h' := ⟨_, rfl⟩
  rw [hw] at hI
  have hg := hround m _ _ hI
  clear hround hI hI0
  refine wp_seq ?_
  refine region_seq ?_
  refine stepP rfl (by exact hg) (wanted_none rfl) rfl (fun t21 hg => ?_)
  refine stepEnd ?_
  refine thenN ?_
  refine wp_seq ?_
  refine codeCond hg rfl (fun hb hg1 => ?_) (fun hb hg1 => ?_)
  · clear hg; subst hb; have hg := hg1; clear hg1
    refine wp_skip ?_
    refine thenN ?_
    refine wp_seq ?_
    refine wp_block ?_
    refine wp_seq ?_
    refine region_seq ?_
    refine stepM (v := x20) (by first | exact .inl rfl | exact .inr rfl) (wanted_none rfl) rfl rfl ?_
    refine stepP rfl (by exact hg) (wanted_none rfl) rfl (fun t23 hg => ?_)
    refine stepQ rfl (by exact hg) hw (wanted_none rfl) rfl (fun t24 hg => ?_)
    refine stepM (v := x20) (by first | exact .inl rfl | exact .inr rfl) (wanted_none rfl) rfl rfl ?_
    refine stepM (v := t24) (by first | exact .inl rfl | exact .inr rfl) (wanted_none rfl) rfl rfl ?_
    refine stepEnd ?_
    refine thenN ?_
    refine region_seq ?_
    refine stepM (v := t17) (by first | exact .inl rfl | exact .inr rfl) (wanted_none rfl) rfl rfl ?_
    refine stepM (v := t24) (by first | exact .inl rfl | exact .inr rfl) (wanted_none rfl) rfl rfl ?_
    refine stepM (v := x20) (by first | exact .inl rfl | exact .inr rfl) (wanted_none rfl) rfl rfl ?_
    refine stepU rfl (by exact hg) hw (wanted_none rfl) rfl (fun _ h_2 wh_2 hw hs1 hg => ?_)
    have hs := hs.trans hs1
    clear hs1
    refine stepEnd ?_
    refine blkN ?_
    refine thenN ?_
    refine region_seq ?_
    refine stepP rfl (by exact hg) (wanted_none rfl) rfl (fun t28 hg => ?_)
    refine stepM (v := t28) (by first | exact .inl rfl | exact .inr rfl) (wanted_none rfl) rfl rfl ?_
    refine stepEnd ?_
    obtain ⟨m', hlt, hI⟩ := hg
    exact thenN ⟨m', hlt, t28, _, mk_ovr ⟨rfl, rfl, rfl, rfl, rfl, rfl, trivial⟩, hs, by rw [hw]; exact hI⟩
  · clear hg; subst hb; have hg := hg1; clear hg1
    refine wp_exit ?_
    refine thenE ?_
    refine thenE ?_
    refine blkE ?_
    refine thenN ?_
    refine wp_seq ?_
    refine region_seq ?_
    refine stepM (v := v1) (by first | exact .inl rfl | exact .inr rfl) (wanted_none rfl) rfl rfl ?_
    refine stepP (ex_blt rfl) (by exact hg) (wanted_none rfl) rfl (fun t30 hg => ?_)
    refine stepX rfl (by exact hg) hw (wanted_none rfl) rfl (fun t31 h_3 wh_3 hw hs1 hg => ?_)
    have hs := hs.trans hs1
    clear hs1
    refine stepM (v := t31) (by first | exact .inl rfl | exact .inr rfl) (wanted_none rfl) rfl rfl ?_
    refine stepEnd ?_
    refine thenN ?_
    refine wp_seq ?_
    refine wp_seq ?_
    refine region_seq ?_
    refine stepM (v := v1) (by first | exact .inl rfl | exact .inr rfl) (wanted_none rfl) rfl rfl ?_
    refine stepP (ex_blt rfl) (by exact hg) (wanted_none rfl) rfl (fun t33 hg => ?_)
    refine stepM (v := (.int .i64 0)) (by first | exact .inl rfl | exact .inr rfl) (wanted_none rfl) rfl rfl ?_
    refine stepEnd ?_
    refine thenN ?_
    refine wp_block ?_
    obtain ⟨I, m0, hI0, hround⟩ := hg
    refine wp_loop_m (fun m a w' => ∃ (x34 : Value) (f : Nat → Value), a = mk 67 (ovr [(34, x34), (0, v0), (5, t17), (8, t31), (32, v1), (33, t33)] f) ∧ SameW w w' ∧ I m x34 w'.heap) m0 ⟨(.int .i64 0), _, mk_ovr ⟨rfl, rfl, rfl, rfl, rfl, rfl, trivial⟩, hs, by rw [hw]; exact hI0⟩ ?_
    rintro m _ wl ⟨x34, f, rfl, hs, hI⟩
    obtain ⟨h_4, hw⟩ : ∃ h', wl.heap = h' := ⟨_, rfl⟩
    rw [hw] at hI
    have hg := hround m _ _ hI
    clear hround hI hI0
    refine wp_seq ?_
    refine region_seq ?_
    refine stepP rfl (by exact hg) (wanted_none rfl) rfl (fun t35 hg => ?_)
    refine stepEnd ?_
    refine thenN ?_
    refine wp_seq ?_
    refine codeCond hg rfl (fun hb hg1 => ?_) (fun hb hg1 => ?_)
    · clear hg; subst hb; have hg := hg1; clear hg1
      refine wp_skip ?_
      refine thenN ?_
      refine wp_seq ?_
      refine wp_block ?_
      refine wp_seq ?_
      refine region_seq ?_
      refine stepM (v := x34) (by first | exact .inl rfl | exact .inr rfl) (wanted_none rfl) rfl rfl ?_
      refine stepP rfl (by exact hg) (wanted_none rfl) rfl (fun t37 hg => ?_)
      refine stepQ rfl (by exact hg) hw (wanted_none rfl) rfl (fun t38 hg => ?_)
      refine stepM (v := x34) (by first | exact .inl rfl | exact .inr rfl) (wanted_none rfl) rfl rfl ?_
      refine stepM (v := t38) (by first | exact .inl rfl | exact .inr rfl) (wanted_none rfl) rfl rfl ?_
      refine stepEnd ?_
      refine thenN ?_
      refine wp_seq ?_
      refine region_seq ?_
      refine stepM (v := v0) (by first | exact .inl rfl | exact .inr rfl) (wanted_none rfl) rfl rfl ?_
      refine stepM (v := t38) (by first | exact .inl rfl | exact .inr rfl) (wanted_none rfl) rfl rfl ?_
      refine stepQ rfl (by exact hg) hw (wanted_none rfl) rfl (fun t41 hg => ?_)
      refine stepP (ex_blt rfl) (by exact hg) (wanted_none rfl) rfl (fun t42 hg => ?_)
      refine stepM (v := (.int .i64 0)) (by first | exact .inl rfl | exact .inr rfl) (wanted_none rfl) rfl rfl ?_
      refine stepEnd ?_
      refine thenN ?_
      refine wp_block ?_
      obtain ⟨I, m0, hI0, hround⟩ := hg
      refine wp_loop_m (fun m a w' => ∃ (x43 : Value) (f : Nat → Value), a = mk 67 (ovr [(43, x43), (0, v0), (5, t17), (8, t31), (9, x34), (32, v1), (33, t33), (34, x34), (41, t41), (42, t42)] f) ∧ SameW w w' ∧ I m x43 w'.heap) m0 ⟨(.int .i64 0), _, mk_ovr ⟨rfl, rfl, rfl, rfl, rfl, rfl, rfl, rfl, rfl, rfl, trivial⟩, hs, by rw [hw]; exact hI0⟩ ?_
      rintro m _ wl ⟨x43, f, rfl, hs, hI⟩
      obtain ⟨h_5, hw⟩ : ∃ h', wl.heap = h' := ⟨_, rfl⟩
      rw [hw] at hI
      have hg := hround m _ _ hI
      clear hround hI hI0
      refine wp_seq ?_
      refine region_seq ?_
      refine stepP rfl (by exact hg) (wanted_none rfl) rfl (fun t44 hg => ?_)
      refine stepEnd ?_
      refine thenN ?_
      refine wp_seq ?_
      refine codeCond hg rfl (fun hb hg1 => ?_) (fun hb hg1 => ?_)
      · clear hg; subst hb; have hg := hg1; clear hg1
        refine wp_skip ?_
        refine thenN ?_
        refine wp_seq_k (fun K_k hK_k => ?_)
        obtain ⟨k, hk, hg⟩ := join_elim hg
        have hj_k : ∀ (h_6 : Heap) (w' : World), w'.heap = h_6 → SameW w w' → k h_6 → ∀ f, K_k (mk 67 (ovr [(0, v0), (5, t17), (8, t31), (9, x34), (32, v1), (33, t33), (34, x34), (41, t41), (42, t42), (43, x43)] f)) w' := by
          intro h_6 wj hw hs hg f
          rw [hk] at hg
          refine hK_k _ _ ?_
          refine region_seq ?_
          refine stepP rfl (by exact hg) (wanted_none rfl) rfl (fun t64 hg => ?_)
          refine stepM (v := t64) (by first | exact .inl rfl | exact .inr rfl) (wanted_none rfl) rfl rfl ?_
          refine stepEnd ?_
          obtain ⟨m', hlt, hI⟩ := hg
          exact thenN ⟨m', hlt, t64, _, mk_ovr ⟨rfl, rfl, rfl, rfl, rfl, rfl, rfl, rfl, rfl, rfl, trivial⟩, hs, by rw [hw]; exact hI⟩
        clear hk hK_k
        refine wp_block ?_
        refine wp_seq ?_
        refine region_seq ?_
        refine stepP rfl (by exact hg) (wanted_none rfl) rfl (fun t45 hg => ?_)
        refine stepQ rfl (by exact hg) hw (wanted_none rfl) rfl (fun t46 hg => ?_)
        refine stepM (v := t46) (by first | exact .inl rfl | exact .inr rfl) (wanted_none rfl) rfl rfl ?_
        refine stepEnd ?_
        refine thenN ?_
        refine wp_seq ?_
        refine region_seq ?_
        refine stepM (v := t17) (by first | exact .inl rfl | exact .inr rfl) (wanted_none rfl) rfl rfl ?_
        refine stepM (v := t46) (by first | exact .inl rfl | exact .inr rfl) (wanted_none rfl) rfl rfl ?_
        refine stepQ rfl (by exact hg) hw (wanted_none rfl) rfl (fun t50 hg => ?_)
        refine stepM (v := t50) (by first | exact .inl rfl | exact .inr rfl) (wanted_none rfl) rfl rfl ?_
        refine stepP rfl (by exact hg) (wanted_none rfl) rfl (fun t51 hg => ?_)
        refine stepP rfl (by exact hg) (wanted_none rfl) rfl (fun t52 hg => ?_)
        refine stepM (v := t51) (by first | exact .inl rfl | exact .inr rfl) (wanted_none rfl) rfl rfl ?_
        refine stepM (v := t52) (by first | exact .inl rfl | exact .inr rfl) (wanted_none rfl) rfl rfl ?_
        refine stepEnd ?_
        refine thenN ?_
        refine wp_seq ?_
        refine region_seq ?_
        refine stepM (v := t52) (by first | exact .inl rfl | exact .inr rfl) (wanted_none rfl) rfl rfl ?_
        refine stepEnd ?_
        refine thenN ?_
        refine codeCond hg rfl (fun hb hg1 => ?_) (fun hb hg1 => ?_)
        · clear hg; subst hb; have hg := hg1; clear hg1
          refine region_seq ?_
          refine stepM (v := t31) (by first | exact .inl rfl | exact .inr rfl) (wanted_none rfl) rfl rfl ?_
          refine stepM (v := x34) (by first | exact .inl rfl | exact .inr rfl) (wanted_none rfl) rfl rfl ?_
          refine stepM (v := t31) (by first | exact .inl rfl | exact .inr rfl) (wanted_none rfl) rfl rfl ?_
          refine stepM (v := x34) (by first | exact .inl rfl | exact .inr rfl) (wanted_none rfl) rfl rfl ?_
          refine stepP rfl (by exact hg) (wanted_none rfl) rfl (fun t58 hg => ?_)
          refine stepQ rfl (by exact hg) hw (wanted_none rfl) rfl (fun t59 hg => ?_)
          refine stepM (v := t51) (by first | exact .inl rfl | exact .inr rfl) (wanted_none rfl) rfl rfl ?_
          refine stepX (ex_buildSlice rfl) (by exact hg) hw (wanted_none rfl) rfl (fun t61 h_7 wh_7 hw hs1 hg => ?_)
          have hs := hs.trans hs1
          clear hs1
          refine stepX (ex_blt rfl) (by exact hg) hw (wanted_none rfl) rfl (fun t62 h_8 wh_8 hw hs1 hg => ?_)
          have hs := hs.trans hs1
          clear hs1
          refine stepP rfl (by exact hg) (wanted_none rfl) rfl (fun t63 hg => ?_)
          refine stepU rfl (by exact hg) hw (wanted_none rfl) rfl (fun _ h_9 wh_9 hw hs1 hg => ?_)
          have hs := hs.trans hs1
          clear hs1
          refine stepEnd ?_
          refine blkN ?_
          refine thenN ?_
          exact at_ovr (hj_k h_9 _ hw hs hg) ⟨rfl, rfl, rfl, rfl, rfl, rfl, rfl, rfl, rfl, rfl, trivial⟩
        · clear hg; subst hb; have hg := hg1; clear hg1
          refine wp_skip ?_
          refine blkN ?_
          refine thenN ?_
          exact at_ovr (hj_k h_5 _ hw hs hg) ⟨rfl, rfl, rfl, rfl, rfl, rfl, rfl, rfl, rfl, rfl, trivial⟩
      · clear hg; subst hb; have hg := hg1; clear hg1
        refine wp_exit ?_
        refine thenE ?_
        refine thenE ?_
        refine blkE ?_
        refine blkN ?_
        refine thenN ?_
        refine region_seq ?_
        refine stepP rfl (by exact hg) (wanted_none rfl) rfl (fun t65 hg => ?_)
        refine stepM (v := t65) (by first | exact .inl rfl | exact .inr rfl) (wanted_none rfl) rfl rfl ?_
        refine stepEnd ?_
        obtain ⟨m', hlt, hI⟩ := hg
        exact thenN ⟨m', hlt, t65, _, mk_ovr ⟨rfl, rfl, rfl, rfl, rfl, rfl, trivial⟩, hs, by rw [hw]; exact hI⟩
    · clear hg; subst hb; have hg := hg1; clear hg1
      refine wp_exit ?_
      refine thenE ?_
      refine thenE ?_
      refine blkE ?_
      refine thenN ?_
      refine wp_seq ?_
      refine region_seq ?_
      refine stepM (v := t31) (by first | exact .inl rfl | exact .inr rfl) (wanted_none rfl) rfl rfl ?_
      refine stepM (v := t31) (by first | exact .inl rfl | exact .inr rfl) (wanted_none rfl) rfl rfl ?_
      refine stepEnd ?_
      refine thenN ?_
      refine wp_ret ?_
      exact post_ret (res_tmp Try.results16 rfl rfl) ⟨_, rfl, hs, by rw [hw]; exact hg⟩

/-- augur/calls.components -/
def g_calls_components (v0 : Value) (h : Heap) (R : Value → Heap → Prop) : Prop :=
  oCall Try.prog (.func (.func 22) #[] #[]) #[v0] h fun t20 h => 
  oCall Try.prog (.func (.func 23) #[] #[]) #[v0] h fun t22 h_1 => 
  oCall Try.prog (.func (.func 24) #[] #[]) #[t22] h_1 fun t24 h_2 => 
  oLen Try.prog #[41] 3 v0 fun t26 =>
  oMkSlice Try.prog 43 t26 t26 h_2 fun t27 h_3 => 
  oLen Try.prog #[43] 3 t27 fun t29 =>
  loop1 (.int .i64 0) h_3 fun x30 h_4 next =>
   oBin Try.prog .lss 3 (.tmp 30) (.tmp 29) x30 t29 fun t31 =>
   cond t31
    (oIdx Try.prog 43 t27 x30 fun t35 =>
    oStore Try.prog 3 t35 (.int .i64 (-1)) h_4 fun _ h_5 => 
    oBin Try.prog .add 3 (.tmp 30) (.const (.int .i64 1)) x30 (.int .i64 1) fun t36 =>
    next t36 h_5)
    (oLen Try.prog #[43] 3 t22 fun t38 =>
    loop1 (.int .i64 0) h_4 fun x39 h_6 next_1 =>
     oBin Try.prog .lss 3 (.tmp 39) (.tmp 38) x39 t38 fun t40 =>
     cond t40
      (join (fun (h_7 : Heap) =>
       oBin Try.prog .add 3 (.tmp 39) (.const (.int .i64 1)) x39 (.int .i64 1) fun t91 =>
       next_1 t91 h_7)
       fun k =>
       oIdx Try.prog 43 t22 x39 fun t41 =>
       oLoad Try.prog 3 t41 (Eq h_6) fun t42 =>
       oIdx Try.prog 43 t27 t42 fun t45 =>
       oLoad Try.prog 3 t45 (Eq h_6) fun t46 =>
       oBin Try.prog .geq 3 (.tmp 46) (.const (.int .i64 0)) t46 (.int .i64 0) fun t47 =>
       cond t47
        (k h_6)
        (oIdx Try.prog 43 t27 t42 fun t51 =>
        oStore Try.prog 3 t51 t42 h_6 fun _ h_8 => 
        oBuildSlice Try.prog 43 1 #[(0, t42)] h_8 fun t53 h_9 => 
        loop1 t53 h_9 fun x10 h_10 next_2 =>
         oLen Try.prog #[43] 3 x10 fun t55 =>
         oBin Try.prog .gtr 3 (.tmp 55) (.const (.int .i64 0)) t55 (.int .i64 0) fun t56 =>
         cond t56
          (oLen Try.prog #[43] 3 x10 fun t59 =>
          oBin Try.prog .sub 3 (.tmp 59) (.const (.int .i64 1)) t59 (.int .i64 1) fun t60 =>
          oIdx Try.prog 43 x10 t60 fun t61 =>
          oLoad Try.prog 3 t61 (Eq h_10) fun t62 =>
          oLen Try.prog #[43] 3 x10 fun t65 =>
          oBin Try.prog .sub 3 (.tmp 65) (.const (.int .i64 1)) t65 (.int .i64 1) fun t66 =>
          oSlice Try.prog 43 x10 none (some t66) none fun t67 =>
          oIdx Try.prog 41 t20 t62 fun t70 =>
          oLoad Try.prog 43 t70 (Eq h_10) fun t71 =>
          oLen Try.prog #[43] 3 t71 fun t72 =>
          loop2 t67 (.int .i64 0) h_10 fun x10_1 x73 h_11 next_3 =>
           oBin Try.prog .lss 3 (.tmp 73) (.tmp 72) x73 t72 fun t74 =>
           cond t74
            (join (fun (x10_2 : Value) (h_12 : Heap) =>
             oBin Try.prog .add 3 (.tmp 73) (.const (.int .i64 1)) x73 (.int .i64 1) fun t90 =>
             next_3 x10_2 t90 h_12)
             fun k_1 =>
             oIdx Try.prog 43 t71 x73 fun t75 =>
             oLoad Try.prog 3 t75 (Eq h_11) fun t76 =>
             oIdx Try.prog 43 t27 t76 fun t79 =>
             oLoad Try.prog 3 t79 (Eq h_11) fun t80 =>
             oBin Try.prog .lss 3 (.tmp 80) (.const (.int .i64 0)) t80 (.int .i64 0) fun t81 =>
             cond t81
              (oIdx Try.prog 43 t27 t76 fun t85 =>
              oStore Try.prog 3 t85 t42 h_11 fun _ h_13 => 
              oBuildSlice Try.prog 43 1 #[(0, t76)] h_13 fun t88 h_14 => 
              oAppend Try.prog #[43, 43] 43 #[x10_1, t88] h_14 fun t89 h_15 => 
              k_1 t89 h_15)
              (k_1 x10_1 h_11))
            (next_2 x10_1 h_11))
          (k h_10)))
      (oLen Try.prog #[41] 3 v0 fun t93 =>
      oMkSlice Try.prog 43 t93 t93 h_6 fun t94 h_16 => 
      oLen Try.prog #[41] 3 v0 fun t96 =>
      oMkSlice Try.prog 43 t96 t96 h_16 fun t97 h_17 => 
      oLen Try.prog #[43] 3 t27 fun t99 =>
      loop2 (.int .i64 0) (.int .i64 0) h_17 fun x16 x100 h_18 next_4 =>
       oBin Try.prog .lss 3 (.tmp 100) (.tmp 99) x100 t99 fun t101 =>
       cond t101
        (oIdx Try.prog 43 t27 x100 fun t103 =>
        oLoad Try.prog 3 t103 (Eq h_18) fun t104 =>
        join (fun (x16_1 : Value) (h_19 : Heap) =>
         oIdx Try.prog 43 t94 t104 fun t120 =>
         oLoad Try.prog 3 t120 (Eq h_19) fun t121 =>
         oBin Try.prog .sub 3 (.tmp 121) (.const (.int .i64 1)) t121 (.int .i64 1) fun t122 =>
         oIdx Try.prog 43 t97 x100 fun t123 =>
         oStore Try.prog 3 t123 t122 h_19 fun _ h_20 => 
         oBin Try.prog .add 3 (.tmp 100) (.const (.int .i64 1)) x100 (.int .i64 1) fun t124 =>
         next_4 x16_1 t124 h_20)
         fun k_2 =>
         oIdx Try.prog 43 t94 t104 fun t107 =>
         oLoad Try.prog 3 t107 (Eq h_18) fun t108 =>
         oBin Try.prog .eql 3 (.tmp 108) (.const (.int .i64 0)) t108 (.int .i64 0) fun t109 =>
         cond t109
          (oBin Try.prog .add 3 (.tmp 110) (.const (.int .i64 1)) x16 (.int .i64 1) fun t111 =>
          oIdx Try.prog 43 t94 t104 fun t115 =>
          oStore Try.prog 3 t115 t111 h_18 fun _ h_21 => 
          k_2 t111 h_21)
          (k_2 x16 h_18))
        (R (.tuple #[t97, x16]) h_18)))

set_option maxRecDepth 100000 in
set_option maxHeartbeats 2000000 in
theorem sh_calls_components {v0 : Value} {h : Heap} {R : Value → Heap → Prop} (hg : g_calls_components v0 h R) : HC Try.prog 17 #[v0] h R := by
  refine hc_of_wp (n := 127) (f := ovr [(0, v0)] fun _ => undef) Try.func17 rfl rfl (by kernel_rfl) (fun w hw => ?_)
  have hs := SameW.refl w
  unfold g_calls_components at hg
  refine wp_seq ?_
  refine region_seq ?_
  refine stepM (v := (.slice none 0 0)) (by first | exact .inl rfl | exact .inr rfl) (wanted_none rfl) rfl rfl ?_
  refine stepM (v := (.int .i64 0)) (by first | exact .inl rfl | exact .inr rfl) (wanted_none rfl) rfl rfl ?_
  refine stepEnd ?_
  refine thenN ?_
  refine wp_seq ?_
  refine region_seq ?_
  refine stepM (v := v0) (by first | exact .inl rfl | exact .inr rfl) (wanted_none rfl) rfl rfl ?_
  refine stepX (ex_call rfl) (by exact hg) hw (wanted_none rfl) rfl (fun t20 h wh hw hs1 hg => ?_)
  have hs := hs.trans hs1
  clear hs1
  refine stepM (v := t20) (by first | exact .inl rfl | exact .inr rfl) (wanted_none rfl) rfl rfl ?_
  refine stepEnd ?_
  refine thenN ?_
  refine wp_seq ?_
  refine region_seq ?_
  refine stepM (v := v0) (by first | exact .inl rfl | exact .inr rfl) (wanted_none rfl) rfl rfl ?_
  refine stepX (ex_call rfl) (by exact hg) hw (wanted_none rfl) rfl (fun t22 h_1 wh_1 hw hs1 hg => ?_)
  have hs := hs.trans hs1
  clear hs1
  refine stepM (v := t22) (by first | exact .inl rfl | exact .inr rfl) (wanted_none rfl) rfl rfl ?_
  refine stepEnd ?_
  refine thenN ?_
  refine wp_seq ?_
  refine region_seq ?_
  refine stepM (v := t22) (by first | exact .inl rfl | exact .inr rfl) (wanted_none rfl) rfl rfl ?_
  refine stepX (ex_call rfl) (by exact hg) hw (wanted_none rfl) rfl (fun t24 h_2 wh_2 hw hs1 hg => ?_)
  have hs := hs.trans hs1
  clear hs1
  refine stepEnd ?_
  refine thenN ?_
  refine wp_seq ?_
  refine region_seq ?_
  refine stepM (v := v0) (by first | exact .inl rfl | exact .inr rfl) (wanted_none rfl) rfl rfl ?_
  refine stepP (ex_blt rfl) (by exact hg) (wanted_none rfl) rfl (fun t26 hg => ?_)
  refine stepX rfl (by exact hg) hw (wanted_none rfl) rfl (fun t27 h_3 wh_3 hw hs1 hg => ?_)
  have hs := hs.trans hs1
  clear hs1
  refine stepM (v := t27) (by first | exact .inl rfl | exact .inr rfl) (wanted_none rfl) rfl rfl ?_
  refine stepEnd ?_
  refine thenN ?_
  refine wp_seq ?_
  refine wp_seq ?_
  refine region_seq ?_
  refine stepM (v := t27) (by first | exact .inl rfl | exact .inr rfl) (wanted_none rfl) rfl rfl ?_
  refine stepP (ex_blt rfl) (by exact hg) (wanted_none rfl) rfl (fun t29 hg => ?_)
  refine stepM (v := (.int .i64 0)) (by first | exact .inl rfl | exact .inr rfl) (wanted_none rfl) rfl rfl ?_
  refine stepEnd ?_
  refine thenN ?_
  refine wp_block ?_
  obtain ⟨I, m0, hI0, hround⟩ := hg
  refine wp_loop_m (fun m a w' => ∃ (x30 : Value) (f : Nat → Value), a = mk 127 (ovr [(30, x30), (0, v0), (4, t20), (5, t22), (6, t27), (29, t29)] f) ∧ SameW w w' ∧ I m x30 w'.heap) m0 ⟨(.int .i64 0), _, mk_ovr ⟨rfl, rfl, rfl, rfl, rfl, rfl, trivial⟩, hs, by rw [hw]; exact hI0⟩ ?_
  rintro m _ wl ⟨x30, f, rfl, hs, hI⟩
  obtain ⟨h_4, hw⟩ : ∃ h', wl.heap = h' := ⟨_, rfl⟩
  rw [hw] at hI
  have hg := hround m _ _ hI
  clear hround hI hI0
  refine wp_seq ?_
  refine region_seq ?_
  refine stepP rfl (by exact hg) (wanted_none rfl) rfl (fun t31 hg => ?_)
  refine stepEnd ?_
  refine thenN ?_
  refine wp_seq ?_
  refine codeCond hg rfl (fun hb hg1 => ?_) (fun hb hg1 => ?_)
  · clear hg; subst hb; have hg := hg1; clear hg1
    refine wp_skip ?_
    refine thenN ?_
    refine wp_seq ?_
    refine wp_block ?_
    refine wp_seq ?_
    refine region_seq ?_
    refine stepM (v := x30) (by first | exact .inl rfl | exact .inr rfl) (wanted_none rfl) rfl rfl ?_
    refine stepM (v := x30) (by first | exact .inl rfl | exact .inr rfl) (wanted_none rfl) rfl rfl ?_
    refine stepEnd ?_
    refine thenN ?_
    refine region_seq ?_
    refine stepM (v := t27) (by first | exact .inl rfl | exact .inr rfl) (wanted_none rfl) rfl rfl ?_
    refine stepM (v := x30) (by first | exact .inl rfl | exact .inr rfl) (wanted_none rfl) rfl rfl ?_
    refine stepP rfl (by exact hg) (wanted_none rfl) rfl (fun t35 hg => ?_)
    refine stepU rfl (by exact hg) hw (wanted_none rfl) rfl (fun _ h_5 wh_5 hw hs1 hg => ?_)
    have hs := hs.trans hs1
    clear hs1
    refine stepEnd ?_
    refine blkN ?_
    refine thenN ?_
    refine region_seq ?_
    refine stepP rfl (by exact hg) (wanted_none rfl) rfl (fun t36 hg => ?_)
    refine stepM (v := t36) (by first | exact .inl rfl | exact .inr rfl) (wanted_none rfl) rfl rfl ?_
    refine stepEnd ?_
    obtain ⟨m', hlt, hI⟩ := hg
    exact thenN ⟨m', hlt, t36, _, mk_ovr ⟨rfl, rfl, rfl, rfl, rfl, rfl, trivial⟩, hs, by rw [hw]; exact hI⟩
  · clear hg; subst hb; have hg := hg1; clear hg1
    refine wp_exit ?_
    refine thenE ?_
    refine thenE ?_
    refine blkE ?_
    refine thenN ?_
    refine wp_seq ?_
    refine wp_seq ?_
    refine region_seq ?_
    refine stepM (v := t22) (by first | exact .inl rfl | exact .inr rfl) (wanted_none rfl) rfl rfl ?_
    refine stepP (ex_blt rfl) (by exact hg) (wanted_none rfl) rfl (fun t38 hg => ?_)
    refine stepM (v := (.int .i64 0)) (by first | exact .inl rfl | exact .inr rfl) (wanted_none rfl) rfl rfl ?_
    refine stepEnd ?_
    refine thenN ?_
    refine wp_block ?_
    obtain ⟨I, m0, hI0, hround⟩ := hg
    refine wp_loop_m (fun m a w' => ∃ (x39 : Value) (f : Nat → Value), a = mk 127 (ovr [(39, x39), (0, v0), (4, t20), (6, t27), (37, t22), (38, t38)] f) ∧ SameW w w' ∧ I m x39 w'.heap) m0 ⟨(.int .i64 0), _, mk_ovr ⟨rfl, rfl, rfl, rfl, rfl, rfl, trivial⟩, hs, by rw [hw]; exact hI0⟩ ?_
    rintro m _ wl ⟨x39, f, rfl, hs, hI⟩
    obtain ⟨h_6, hw⟩ : ∃ h', wl.heap = h' := ⟨_, rfl⟩
    rw [hw] at hI
    have hg := hround m _ _ hI
    clear hround hI hI0
    refine wp_seq ?_
    refine region_seq ?_
    refine stepP rfl (by exact hg) (wanted_none rfl) rfl (fun t40 hg => ?_)
    refine stepEnd ?_
    refine thenN ?_
    refine wp_seq ?_
    refine codeCond hg rfl (fun hb hg1 => ?_) (fun hb hg1 => ?_)
    · clear hg; subst hb; have hg := hg1; clear hg1
      refine wp_skip ?_
      refine thenN ?_
      refine wp_seq_k (fun K_k hK_k => ?_)
      obtain ⟨k, hk, hg⟩ := join_elim hg
      have hj_k : ∀ (h_7 : Heap) (w' : World), w'.heap = h_7 → SameW w w' → k h_7 → ∀ f, K_k (mk 127 (ovr [(0, v0), (4, t20), (6, t27), (37, t22), (38, t38), (39, x39)] f)) w' := by
        intro h_7 wj hw hs hg f
        rw [hk] at hg
        refine hK_k _ _ ?_
        refine region_seq ?_
        refine stepP rfl (by exact hg) (wanted_none rfl) rfl (fun t91 hg => ?_)
        refine stepM (v := t91) (by first | exact .inl rfl | exact .inr rfl) (wanted_none rfl) rfl rfl ?_
        refine stepEnd ?_
        obtain ⟨m', hlt, hI⟩ := hg
        exact thenN ⟨m', hlt, t91, _, mk_ovr ⟨rfl, rfl, rfl, rfl, rfl, rfl, trivial⟩, hs, by rw [hw]; exact hI⟩
      clear hk hK_k
      refine wp_block ?_
      refine wp_seq ?_
      refine region_seq ?_
      refine stepP rfl (by exact hg) (wanted_none rfl) rfl (fun t41 hg => ?_)
      refine stepQ rfl (by exact hg) hw (wanted_none rfl) rfl (fun t42 hg => ?_)
      refine stepM (v := t42) (by first | exact .inl rfl | exact .inr rfl) (wanted_none rfl) rfl rfl ?_
      refine stepEnd ?_
      refine thenN ?_
      refine wp_seq ?_
      refine wp_seq ?_
      refine region_seq ?_
      refine stepM (v := t27) (by first | exact .inl rfl | exact .inr rfl) (wanted_none rfl) rfl rfl ?_
      refine stepM (v := t42) (by first | exact .inl rfl | exact .inr rfl) (wanted_none rfl) rfl rfl ?_
      refine stepP rfl (by exact hg) (wanted_none rfl) rfl (fun t45 hg => ?_)
      refine stepQ rfl (by exact hg) hw (wanted_none rfl) rfl (fun t46 hg => ?_)
      refine stepP rfl (by exact hg) (wanted_none rfl) rfl (fun t47 hg => ?_)
      refine stepEnd ?_
      refine thenN ?_
      refine codeCond hg rfl (fun hb hg1 => ?_) (fun hb hg1 => ?_)
      · clear hg; subst hb; have hg := hg1; clear hg1
        refine wp_exit ?_
        refine thenE ?_
        refine blkE ?_
        refine thenN ?_
        exact at_ovr (hj_k h_6 _ hw hs hg) ⟨rfl, rfl, rfl, rfl, rfl, rfl, trivial⟩
      · clear hg; subst hb; have hg := hg1; clear hg1
        refine wp_skip ?_
        refine thenN ?_
        refine wp_seq ?_
        refine region_seq ?_
        refine stepM (v := t27) (by first | exact .inl rfl | exact .inr rfl) (wanted_none rfl) rfl rfl ?_
        refine stepM (v := t42) (by first | exact .inl rfl | exact .inr rfl) (wanted_none rfl) rfl rfl ?_
        refine stepM (v := t42) (by first | exact .inl rfl | exact .inr rfl) (wanted_none rfl) rfl rfl ?_
        refine stepP rfl (by exact hg) (wanted_none rfl) rfl (fun t51 hg => ?_)
        refine stepU rfl (by exact hg) hw (wanted_none rfl) rfl (fun _ h_8 wh_8 hw hs1 hg => ?_)
        have hs := hs.trans hs1
        clear hs1
        refine stepEnd ?_
        refine thenN ?_
        refine wp_seq ?_
        refine region_seq ?_
        refine stepM (v := t42) (by first | exact .inl rfl | exact .inr rfl) (wanted_none rfl) rfl rfl ?_
        refine stepX (ex_buildSlice rfl) (by exact hg) hw (wanted_none rfl) rfl (fun t53 h_9 wh_9 hw hs1 hg => ?_)
        have hs := hs.trans hs1
        clear hs1
        refine stepM (v := t53) (by first | exact .inl rfl | exact .inr rfl) (wanted_none rfl) rfl rfl ?_
        refine stepEnd ?_
        refine thenN ?_
        refine wp_block ?_
        obtain ⟨I, m0, hI0, hround⟩ := hg
        refine wp_loop_m (fun m a w' => ∃ (x10 : Value) (f : Nat → Value), a = mk 127 (ovr [(10, x10), (0, v0), (4, t20), (6, t27), (9, t42), (37, t22), (38, t38), (39, x39)] f) ∧ SameW w w' ∧ I m x10 w'.heap) m0 ⟨t53, _, mk_ovr ⟨rfl, rfl, rfl, rfl, rfl, rfl, rfl, rfl, trivial⟩, hs, by rw [hw]; exact hI0⟩ ?_
        rintro m _ wl ⟨x10, f, rfl, hs, hI⟩
        obtain ⟨h_10, hw⟩ : ∃ h', wl.heap = h' := ⟨_, rfl⟩
        rw [hw] at hI
        have hg := hround m _ _ hI
        clear hround hI hI0
        refine wp_seq ?_
        refine wp_seq ?_
        refine region_seq ?_
        refine stepM (v := x10) (by first | exact .inl rfl | exact .inr rfl) (wanted_none rfl) rfl rfl ?_
        refine stepP (ex_blt rfl) (by exact hg) (wanted_none rfl) rfl (fun t55 hg => ?_)
        refine stepP rfl (by exact hg) (wanted_none rfl) rfl (fun t56 hg => ?_)
        refine stepEnd ?_
        refine thenN ?_
        refine codeCond hg rfl (fun hb hg1 => ?_) (fun hb hg1 => ?_)
        · clear hg; subst hb; have hg := hg1; clear hg1
          refine wp_skip ?_
          refine thenN ?_
          refine wp_block ?_
          refine wp_seq ?_
          refine region_seq ?_
          refine stepM (v := x10) (by first | exact .inl rfl | exact .inr rfl) (wanted_none rfl) rfl rfl ?_
          refine stepM (v := x10) (by first | exact .inl rfl | exact .inr rfl) (wanted_none rfl) rfl rfl ?_
          refine stepP (ex_blt rfl) (by exact hg) (wanted_none rfl) rfl (fun t59 hg => ?_)
          refine stepP rfl (by exact hg) (wanted_none rfl) rfl (fun t60 hg => ?_)
          refine stepP rfl (by exact hg) (wanted_none rfl) rfl (fun t61 hg => ?_)
          refine stepQ rfl (by exact hg) hw (wanted_none rfl) rfl (fun t62 hg => ?_)
          refine stepM (v := t62) (by first | exact .inl rfl | exact .inr rfl) (wanted_none rfl) rfl rfl ?_
          refine stepEnd ?_
          refine thenN ?_
          refine wp_seq ?_
          refine region_seq ?_
          refine stepM (v := x10) (by first | exact .inl rfl | exact .inr rfl) (wanted_none rfl) rfl rfl ?_
          refine stepM (v := x10) (by first | exact .inl rfl | exact .inr rfl) (wanted_none rfl) rfl rfl ?_
          refine stepP (ex_blt rfl) (by exact hg) (wanted_none rfl) rfl (fun t65 hg => ?_)
          refine stepP rfl (by exact hg) (wanted_none rfl) rfl (fun t66 hg => ?_)
          refine stepP rfl (by exact hg) (wanted_none rfl) rfl (fun t67 hg => ?_)
          refine stepM (v := t67) (by first | exact .inl rfl | exact .inr rfl) (wanted_none rfl) rfl rfl ?_
          refine stepEnd ?_
          refine thenN ?_
          refine wp_seq ?_
          refine region_seq ?_
          refine stepM (v := t20) (by first | exact .inl rfl | exact .inr rfl) (wanted_none rfl) rfl rfl ?_
          refine stepM (v := t62) (by first | exact .inl rfl | exact .inr rfl) (wanted_none rfl) rfl rfl ?_
          refine stepP rfl (by exact hg) (wanted_none rfl) rfl (fun t70 hg => ?_)
          refine stepQ rfl (by exact hg) hw (wanted_none rfl) rfl (fun t71 hg => ?_)
          refine stepP (ex_blt rfl) (by exact hg) (wanted_none rfl) rfl (fun t72 hg => ?_)
          refine stepM (v := (.int .i64 0)) (by first | exact .inl rfl | exact .inr rfl) (wanted_none rfl) rfl rfl ?_
          refine stepEnd ?_
          refine thenN ?_
          refine wp_block ?_
          obtain ⟨I, m0, hI0, hround⟩ := hg
          refine wp_loop_m (fun m a w' => ∃ (x10_1 : Value) (x73 : Value) (f : Nat → Value), a = mk 127 (ovr [(10, x10_1), (73, x73), (0, v0), (4, t20), (6, t27), (9, t42), (37, t22), (38, t38), (39, x39), (71, t71), (72, t72)] f) ∧ SameW w w' ∧ I m x10_1 x73 w'.heap) m0 ⟨t67, (.int .i64 0), _, mk_ovr ⟨rfl, rfl, rfl, rfl, rfl, rfl, rfl, rfl, rfl, rfl, rfl, trivial⟩, hs, by rw [hw]; exact hI0⟩ ?_
          rintro m _ wl ⟨x10_1, x73, f, rfl, hs, hI⟩
          obtain ⟨h_11, hw⟩ : ∃ h', wl.heap = h' := ⟨_, rfl⟩
          rw [hw] at hI
          have hg := hround m _ _ _ hI
          clear hround hI hI0
          refine wp_seq ?_
          refine region_seq ?_
          refine stepP rfl (by exact hg) (wanted_none rfl) rfl (fun t74 hg => ?_)
          refine stepEnd ?_
          refine thenN ?_
          refine wp_seq ?_
          refine codeCond hg rfl (fun hb hg1 => ?_) (fun hb hg1 => ?_)
          · clear hg; subst hb; have hg := hg1; clear hg1
            refine wp_skip ?_
            refine thenN ?_
            refine wp_seq_k (fun K_k_1 hK_k_1 => ?_)
            obtain ⟨k_1, hk_1, hg⟩ := join_elim hg
            have hj_k_1 : ∀ (x10_2 : Value) (h_12 : Heap) (w' : World), w'.heap = h_12 → SameW w w' → k_1 x10_2 h_12 → ∀ f, K_k_1 (mk 127 (ovr [(10, x10_2), (0, v0), (4, t20), (6, t27), (9, t42), (37, t22), (38, t38), (39, x39), (71, t71), (72, t72), (73, x73)] f)) w' := by
              intro x10_2 h_12 wj hw hs hg f
              rw [hk_1] at hg
              refine hK_k_1 _ _ ?_
              refine region_seq ?_
              refine stepP rfl (by exact hg) (wanted_none rfl) rfl (fun t90 hg => ?_)
              refine stepM (v := t90) (by first | exact .inl rfl | exact .inr rfl) (wanted_none rfl) rfl rfl ?_
              refine stepEnd ?_
              obtain ⟨m', hlt, hI⟩ := hg
              exact thenN ⟨m', hlt, x10_2, t90, _, mk_ovr ⟨rfl, rfl, rfl, rfl, rfl, rfl, rfl, rfl, rfl, rfl, rfl, trivial⟩, hs, by rw [hw]; exact hI⟩
            clear hk_1 hK_k_1
            refine wp_block ?_
            refine wp_seq ?_
            refine region_seq ?_
            refine stepP rfl (by exact hg) (wanted_none rfl) rfl (fun t75 hg => ?_)
            refine stepQ rfl (by exact hg) hw (wanted_none rfl) rfl (fun t76 hg => ?_)
            refine stepM (v := t76) (by first | exact .inl rfl | exact .inr rfl) (wanted_none rfl) rfl rfl ?_
            refine stepEnd ?_
            refine thenN ?_
            refine wp_seq ?_
            refine region_seq ?_
            refine stepM (v := t27) (by first | exact .inl rfl | exact .inr rfl) (wanted_none rfl) rfl rfl ?_
            refine stepM (v := t76) (by first | exact .inl rfl | exact .inr rfl) (wanted_none rfl) rfl rfl ?_
            refine stepP rfl (by exact hg) (wanted_none rfl) rfl (fun t79 hg => ?_)
            refine stepQ rfl (by exact hg) hw (wanted_none rfl) rfl (fun t80 hg => ?_)
            refine stepP rfl (by exact hg) (wanted_none rfl) rfl (fun t81 hg => ?_)
            refine stepEnd ?_
            refine thenN ?_
            refine codeCond hg rfl (fun hb hg1 => ?_) (fun hb hg1 => ?_)
            · clear hg; subst hb; have hg := hg1; clear hg1
              refine wp_seq ?_
              refine region_seq ?_
              refine stepM (v := t27) (by first | exact .inl rfl | exact .inr rfl) (wanted_none rfl) rfl rfl ?_
              refine stepM (v := t76) (by first | exact .inl rfl | exact .inr rfl) (wanted_none rfl) rfl rfl ?_
              refine stepM (v := t42) (by first | exact .inl rfl | exact .inr rfl) (wanted_none rfl) rfl rfl ?_
              refine stepP rfl (by exact hg) (wanted_none rfl) rfl (fun t85 hg => ?_)
              refine stepU rfl (by exact hg) hw (wanted_none rfl) rfl (fun _ h_13 wh_13 hw hs1 hg => ?_)
              have hs := hs.trans hs1
              clear hs1
              refine stepEnd ?_
              refine thenN ?_
              refine region_seq ?_
              refine stepM (v := x10_1) (by first | exact .inl rfl | exact .inr rfl) (wanted_none rfl) rfl rfl ?_
              refine stepM (v := t76) (by first | exact .inl rfl | exact .inr rfl) (wanted_none rfl) rfl rfl ?_
              refine stepX (ex_buildSlice rfl) (by exact hg) hw (wanted_none rfl) rfl (fun t88 h_14 wh_14 hw hs1 hg => ?_)
              have hs := hs.trans hs1
              clear hs1
              refine stepX (ex_blt rfl) (by exact hg) hw (wanted_none rfl) rfl (fun t89 h_15 wh_15 hw hs1 hg => ?_)
              have hs := hs.trans hs1
              clear hs1
              refine stepM (v := t89) (by first | exact .inl rfl | exact .inr rfl) (wanted_none rfl) rfl rfl ?_
              refine stepEnd ?_
              refine blkN ?_
              refine thenN ?_
              exact at_ovr (hj_k_1 t89 h_15 _ hw hs hg) ⟨rfl, rfl, rfl, rfl, rfl, rfl, rfl, rfl, rfl, rfl, rfl, trivial⟩
            · clear hg; subst hb; have hg := hg1; clear hg1
              refine wp_skip ?_
              refine blkN ?_
              refine thenN ?_
              exact at_ovr (hj_k_1 x10_1 h_11 _ hw hs hg) ⟨rfl, rfl, rfl, rfl, rfl, rfl, rfl, rfl, rfl, rfl, rfl, trivial⟩
          · clear hg; subst hb; have hg := hg1; clear hg1
            refine wp_exit ?_
            refine thenE ?_
            refine thenE ?_
            refine blkE ?_
            refine blkN ?_
            obtain ⟨m', hlt, hI⟩ := hg
            exact thenN ⟨m', hlt, x10_1, _, mk_ovr ⟨rfl, rfl, rfl, rfl, rfl, rfl, rfl, rfl, trivial⟩, hs, by rw [hw]; exact hI⟩
        · clear hg; subst hb; have hg := hg1; clear hg1
          refine wp_exit ?_
          refine thenE ?_
          refine thenE ?_
          refine blkE ?_
          refine blkN ?_
          refine thenN ?_
          exact at_ovr (hj_k h_10 _ hw hs hg) ⟨rfl, rfl, rfl, rfl, rfl, rfl, trivial⟩
    · clear hg; subst hb; have hg := hg1; clear hg1
      refine wp_exit ?_
      refine thenE ?_
      refine thenE ?_
      refine blkE ?_
      refine thenN ?_
      refine wp_seq ?_
      refine region_seq ?_
      refine stepM (v := v0) (by first | exact .inl rfl | exact .inr rfl) (wanted_none rfl) rfl rfl ?_
      refine stepP (ex_blt rfl) (by exact hg) (wanted_none rfl) rfl (fun t93 hg => ?_)
      refine stepX rfl (by exact hg) hw (wanted_none rfl) rfl (fun t94 h_16 wh_16 hw hs1 hg => ?_)
      have hs := hs.trans hs1
      clear hs1
      refine stepM (v := t94) (by first | exact .inl rfl | exact .inr rfl) (wanted_none rfl) rfl rfl ?_
      refine stepEnd ?_
      refine thenN ?_
      refine wp_seq ?_
      refine region_seq ?_
      refine stepM (v := v0) (by first | exact .inl rfl | exact .inr rfl) (wanted_none rfl) rfl rfl ?_
      refine stepP (ex_blt rfl) (by exact hg) (wanted_none rfl) rfl (fun t96 hg => ?_)
      refine stepX rfl (by exact hg) hw (wanted_none rfl) rfl (fun t97 h_17 wh_17 hw hs1 hg => ?_)
      have hs := hs.trans hs1
      clear hs1
      refine stepM (v := t97) (by first | exact .inl rfl | exact .inr rfl) (wanted_none rfl) rfl rfl ?_
      refine stepEnd ?_
      refine thenN ?_
      refine wp_seq ?_
      refine region_seq ?_
      refine stepM (v := (.int .i64 0)) (by first | exact .inl rfl | exact .inr rfl) (wanted_none rfl) rfl rfl ?_
      refine stepEnd ?_
      refine thenN ?_
      refine wp_seq ?_
      refine wp_seq ?_
      refine region_seq ?_
      refine stepM (v := t27) (by first | exact .inl rfl | exact .inr rfl) (wanted_none rfl) rfl rfl ?_
      refine stepP (ex_blt rfl) (by exact hg) (wanted_none rfl) rfl (fun t99 hg => ?_)
      refine stepM (v := (.int .i64 0)) (by first | exact .inl rfl | exact .inr rfl) (wanted_none rfl) rfl rfl ?_
      refine stepEnd ?_
      refine thenN ?_
      refine wp_block ?_
      obtain ⟨I, m0, hI0, hround⟩ := hg
      refine wp_loop_m (fun m a w' => ∃ (x16 : Value) (x100 : Value) (f : Nat → Value), a = mk 127 (ovr [(16, x16), (100, x100), (14, t94), (15, t97), (98, t27), (99, t99)] f) ∧ SameW w w' ∧ I m x16 x100 w'.heap) m0 ⟨(.int .i64 0), (.int .i64 0), _, mk_ovr ⟨rfl, rfl, rfl, rfl, rfl, rfl, trivial⟩, hs, by rw [hw]; exact hI0⟩ ?_
      rintro m _ wl ⟨x16, x100, f, rfl, hs, hI⟩
      obtain ⟨h_18, hw⟩ : ∃ h', wl.heap = h' := ⟨_, rfl⟩
      rw [hw] at hI
      have hg := hround m _ _ _ hI
      clear hround hI hI0
      refine wp_seq ?_
      refine region_seq ?_
      refine stepP rfl (by exact hg) (wanted_none rfl) rfl (fun t101 hg => ?_)
      refine stepEnd ?_
      refine thenN ?_
      refine wp_seq ?_
      refine codeCond hg rfl (fun hb hg1 => ?_) (fun hb hg1 => ?_)
      · clear hg; subst hb; have hg := hg1; clear hg1
        refine wp_skip ?_
        refine thenN ?_
        refine wp_seq ?_
        refine wp_block ?_
        refine wp_seq ?_
        refine region_seq ?_
        refine stepM (v := x100) (by first | exact .inl rfl | exact .inr rfl) (wanted_none rfl) rfl rfl ?_
        refine stepP rfl (by exact hg) (wanted_none rfl) rfl (fun t103 hg => ?_)
        refine stepQ rfl (by exact hg) hw (wanted_none rfl) rfl (fun t104 hg => ?_)
        refine stepM (v := x100) (by first | exact .inl rfl | exact .inr rfl) (wanted_none rfl) rfl rfl ?_
        refine stepM (v := t104) (by first | exact .inl rfl | exact .inr rfl) (wanted_none rfl) rfl rfl ?_
        refine stepEnd ?_
        refine thenN ?_
        refine wp_seq_k (fun K_k_2 hK_k_2 => ?_)
        obtain ⟨k_2, hk_2, hg⟩ := join_elim hg
        have hj_k_2 : ∀ (x16_1 : Value) (h_19 : Heap) (w' : World), w'.heap = h_19 → SameW w w' → k_2 x16_1 h_19 → ∀ f, K_k_2 (mk 127 (ovr [(16, x16_1), (14, t94), (15, t97), (17, x100), (18, t104), (98, t27), (99, t99), (100, x100)] f)) w' := by
          intro x16_1 h_19 wj hw hs hg f
          rw [hk_2] at hg
          refine hK_k_2 _ _ ?_
          refine region_seq ?_
          refine stepM (v := t97) (by first | exact .inl rfl | exact .inr rfl) (wanted_none rfl) rfl rfl ?_
          refine stepM (v := x100) (by first | exact .inl rfl | exact .inr rfl) (wanted_none rfl) rfl rfl ?_
          refine stepM (v := t94) (by first | exact .inl rfl | exact .inr rfl) (wanted_none rfl) rfl rfl ?_
          refine stepM (v := t104) (by first | exact .inl rfl | exact .inr rfl) (wanted_none rfl) rfl rfl ?_
          refine stepP rfl (by exact hg) (wanted_none rfl) rfl (fun t120 hg => ?_)
          refine stepQ rfl (by exact hg) hw (wanted_none rfl) rfl (fun t121 hg => ?_)
          refine stepP rfl (by exact hg) (wanted_none rfl) rfl (fun t122 hg => ?_)
          refine stepP rfl (by exact hg) (wanted_none rfl) rfl (fun t123 hg => ?_)
          refine stepU rfl (by exact hg) hw (wanted_none rfl) rfl (fun _ h_20 wh_20 hw hs1 hg => ?_)
          have hs := hs.trans hs1
          clear hs1
          refine stepEnd ?_
          refine blkN ?_
          refine thenN ?_
          refine region_seq ?_
          refine stepP rfl (by exact hg) (wanted_none rfl) rfl (fun t124 hg => ?_)
          refine stepM (v := t124) (by first | exact .inl rfl | exact .inr rfl) (wanted_none rfl) rfl rfl ?_
          refine stepEnd ?_
          obtain ⟨m', hlt, hI⟩ := hg
          exact thenN ⟨m', hlt, x16_1, t124, _, mk_ovr ⟨rfl, rfl, rfl, rfl, rfl, rfl, trivial⟩, hs, by rw [hw]; exact hI⟩
        clear hk_2 hK_k_2
        refine wp_seq ?_
        refine region_seq ?_
        refine stepM (v := t94) (by first | exact .inl rfl | exact .inr rfl) (wanted_none rfl) rfl rfl ?_
        refine stepM (v := t104) (by first | exact .inl rfl | exact .inr rfl) (wanted_none rfl) rfl rfl ?_
        refine stepP rfl (by exact hg) (wanted_none rfl) rfl (fun t107 hg => ?_)
        refine stepQ rfl (by exact hg) hw (wanted_none rfl) rfl (fun t108 hg => ?_)
        refine stepP rfl (by exact hg) (wanted_none rfl) rfl (fun t109 hg => ?_)
        refine stepEnd ?_
        refine thenN ?_
        refine codeCond hg rfl (fun hb hg1 => ?_) (fun hb hg1 => ?_)
        · clear hg; subst hb; have hg := hg1; clear hg1
          refine wp_seq ?_
          refine region_seq ?_
          refine stepM (v := x16) (by first | exact .inl rfl | exact .inr rfl) (wanted_none rfl) rfl rfl ?_
          refine stepP rfl (by exact hg) (wanted_none rfl) rfl (fun t111 hg => ?_)
          refine stepM (v := t111) (by first | exact .inl rfl | exact .inr rfl) (wanted_none rfl) rfl rfl ?_
          refine stepEnd ?_
          refine thenN ?_
          refine region_seq ?_
          refine stepM (v := t94) (by first | exact .inl rfl | exact .inr rfl) (wanted_none rfl) rfl rfl ?_
          refine stepM (v := t104) (by first | exact .inl rfl | exact .inr rfl) (wanted_none rfl) rfl rfl ?_
          refine stepM (v := t111) (by first | exact .inl rfl | exact .inr rfl) (wanted_none rfl) rfl rfl ?_
          refine stepP rfl (by exact hg) (wanted_none rfl) rfl (fun t115 hg => ?_)
          refine stepU rfl (by exact hg) hw (wanted_none rfl) rfl (fun _ h_21 wh_21 hw hs1 hg => ?_)
          have hs := hs.trans hs1
          clear hs1
          refine stepEnd ?_
          refine thenN ?_
          exact at_ovr (hj_k_2 t111 h_21 _ hw hs hg) ⟨rfl, rfl, rfl, rfl, rfl, rfl, rfl, rfl, trivial⟩
        · clear hg; subst hb; have hg := hg1; clear hg1
          refine wp_skip ?_
          refine thenN ?_
          exact at_ovr (hj_k_2 x16 h_18 _ hw hs hg) ⟨rfl, rfl, rfl, rfl, rfl, rfl, rfl, rfl, trivial⟩
      · clear hg; subst hb; have hg := hg1; clear hg1
        refine wp_exit ?_
        refine thenE ?_
        refine thenE ?_
        refine blkE ?_
        refine thenN ?_
        refine wp_seq ?_
        refine region_seq ?_
        refine stepM (v := t97) (by first | exact .inl rfl | exact .inr rfl) (wanted_none rfl) rfl rfl ?_
        refine stepM (v := x16) (by first | exact .inl rfl | exact .inr rfl) (wanted_none rfl) rfl rfl ?_
        refine stepM (v := t97) (by first | exact .inl rfl | exact .inr rfl) (wanted_none rfl) rfl rfl ?_
        refine stepM (v := x16) (by first | exact .inl rfl | exact .inr rfl) (wanted_none rfl) rfl rfl ?_
        refine stepEnd ?_
        refine thenN ?_
        refine wp_ret ?_
        exact post_ret (res_tmp2 Try.results17 rfl rfl rfl rfl) ⟨_, rfl, hs, by rw [hw]; exact hg⟩

/-- augur/calls.arrange -/
def g_calls_arrange (v0 v1 v2 : Value) (h : Heap) (R : Value → Heap → Prop) : Prop :=
  oMkSlice Try.prog 43 v2 v2 h fun t21 h => 
  oMkSlice Try.prog 41 v2 v2 h fun t23 h_1 => 
  oLen Try.prog #[41] 3 v0 fun t25 =>
  loop1 (.int .i64 0) h_1 fun x26 h_2 next =>
   oBin Try.prog .lss 3 (.tmp 26) (.tmp 25) x26 t25 fun t27 =>
   cond t27
    (oIdx Try.prog 41 v0 x26 fun t29 =>
    oLoad Try.prog 43 t29 (Eq h_2) fun t30 =>
    oLen Try.prog #[43] 3 t30 fun t32 =>
    loop1 (.int .i64 0) h_2 fun x33 h_3 next_1 =>
     oBin Try.prog .lss 3 (.tmp 33) (.tmp 32) x33 t32 fun t34 =>
     cond t34
      (join (fun (h_4 : Heap) =>
       oBin Try.prog .add 3 (.tmp 33) (.const (.int .i64 1)) x33 (.int .i64 1) fun t74 =>
       next_1 t74 h_4)
       fun k =>
       oIdx Try.prog 43 t30 x33 fun t35 =>
       oLoad Try.prog 3 t35 (Eq h_3) fun t36 =>
       oIdx Try.prog 43 v1 x26 fun t39 =>
       oLoad Try.prog 3 t39 (Eq h_3) fun t40 =>
       oIdx Try.prog 43 v1 t36 fun t43 =>
       oLoad Try.prog 3 t43 (Eq h_3) fun t44 =>
       oBin Try.prog .neq 3 (.tmp 40) (.tmp 44) t40 t44 fun t45 =>
       cond t45
        (oIdx Try.prog 43 v1 x26 fun t49 =>
        oLoad Try.prog 3 t49 (Eq h_3) fun t50 =>
        oIdx Try.prog 43 t21 t50 fun t51 =>
        oLoad Try.prog 3 t51 (Eq h_3) fun t52 =>
        oBin Try.prog .add 3 (.tmp 52) (.const (.int .i64 1)) t52 (.int .i64 1) fun t53 =>
        oIdx Try.prog 43 t21 t50 fun t54 =>
        oStore Try.prog 3 t54 t53 h_3 fun _ h_5 => 
        drawn h_5 fun D =>
        oIdx Try.prog 43 v1 t36 fun t58 =>
        oLoad Try.prog 3 t58 D fun t59 =>
        oIdx Try.prog 43 v1 t36 fun t63 =>
        oLoad Try.prog 3 t63 D fun t64 =>
        oIdx Try.prog 41 t23 t64 fun t65 =>
        oLoad Try.prog 43 t65 D fun t66 =>
        oIdx Try.prog 43 v1 x26 fun t69 =>
        oLoad Try.prog 3 t69 D fun t70 =>
        oBuildSlice Try.prog 43 1 #[(0, t70)] h_5 fun t71 h_6 => D h_6 ∧ 
        oAppend Try.prog #[43, 43] 43 #[t66, t71] h_6 fun t72 h_7 => D h_7 ∧ 
        oIdx Try.prog 41 t23 t59 fun t73 =>
        oStore Try.prog 43 t73 t72 h_7 fun _ h_8 => 
        k h_8)
        (k h_3))
      (oBin Try.prog .add 3 (.tmp 26) (.const (.int .i64 1)) x26 (.int .i64 1) fun t75 =>
      next t75 h_3))
    (oAlloc Try.prog 54 h_2 fun t13 h_9 => 
    oLen Try.prog #[43] 3 t21 fun t77 =>
    loop1 (.int .i64 0) h_9 fun x78 h_10 next_2 =>
     oBin Try.prog .lss 3 (.tmp 78) (.tmp 77) x78 t77 fun t79 =>
     cond t79
      (join (fun (h_11 : Heap) =>
       oBin Try.prog .add 3 (.tmp 78) (.const (.int .i64 1)) x78 (.int .i64 1) fun t89 =>
       next_2 t89 h_11)
       fun k_1 =>
       oIdx Try.prog 43 t21 x78 fun t81 =>
       oLoad Try.prog 3 t81 (Eq h_10) fun t82 =>
       oBin Try.prog .eql 3 (.tmp 83) (.const (.int .i64 0)) t82 (.int .i64 0) fun t84 =>
       cond t84
        (oLoad Try.prog 54 t13 (Eq h_10) fun t85 =>
        oBuildSlice Try.prog 54 1 #[(0, x78)] h_10 fun t87 h_12 => 
        oAppend Try.prog #[54, 54] 54 #[t85, t87] h_12 fun t88 h_13 => 
        oStore Try.prog 54 t13 t88 h_13 fun _ h_14 => 
        k_1 h_14)
        (k_1 h_10))
      (oIface Try.prog 56 t13 fun t90 =>
      oCall Try.prog (.func (.func 25) #[] #[]) #[t90] h_10 fun t91 h_15 => 
      loop1 (.slice none 0 0) h_15 fun x16 h_16 next_3 =>
       oLoad Try.prog 54 t13 (Eq h_16) fun t92 =>
       oLen Try.prog #[54] 3 t92 fun t93 =>
       oBin Try.prog .gtr 3 (.tmp 93) (.const (.int .i64 0)) t93 (.int .i64 0) fun t94 =>
       cond t94
        (oLoad Try.prog 54 t13 (Eq h_16) fun t95 =>
        oIdx Try.prog 54 t95 (.int .i64 0) fun t96 =>
        oLoad Try.prog 3 t96 (Eq h_16) fun t97 =>
        oIface Try.prog 56 t13 fun t98 =>
        oCall Try.prog (.func (.func 26) #[] #[]) #[t98] h_16 fun t99 h_17 => 
        oBuildSlice Try.prog 43 1 #[(0, t97)] h_17 fun t102 h_18 => 
        oAppend Try.prog #[43, 43] 43 #[x16, t102] h_18 fun t103 h_19 => 
        oIdx Try.prog 41 t23 t97 fun t106 =>
        oLoad Try.prog 43 t106 (Eq h_19) fun t107 =>
        oLen Try.prog #[43] 3 t107 fun t108 =>
        loop1 (.int .i64 0) h_19 fun x109 h_20 next_4 =>
         oBin Try.prog .lss 3 (.tmp 109) (.tmp 108) x109 t108 fun t110 =>
         cond t110
          (join (fun (h_21 : Heap) =>
           oBin Try.prog .add 3 (.tmp 109) (.const (.int .i64 1)) x109 (.int .i64 1) fun t128 =>
           next_4 t128 h_21)
           fun k_2 =>
           oIdx Try.prog 43 t107 x109 fun t111 =>
           oLoad Try.prog 3 t111 (Eq h_20) fun t112 =>
           oIdx Try.prog 43 t21 t112 fun t115 =>
           oLoad Try.prog 3 t115 (Eq h_20) fun t116 =>
           oBin Try.prog .sub 3 (.tmp 116) (.const (.int .i64 1)) t116 (.int .i64 1) fun t117 =>
           oIdx Try.prog 43 t21 t112 fun t118 =>
           oStore Try.prog 3 t118 t117 h_20 fun _ h_22 => 
           oIdx Try.prog 43 t21 t112 fun t121 =>
           oLoad Try.prog 3 t121 (Eq h_22) fun t122 =>
           oBin Try.prog .eql 3 (.tmp 122) (.const (.int .i64 0)) t122 (.int .i64 0) fun t123 =>
           cond t123
            (oIface Try.prog 56 t13 fun t124 =>
            oIface Try.prog 3 t112 fun t126 =>
            oCall Try.prog (.func (.func 27) #[] #[]) #[t124, t126] h_22 fun t127 h_23 => 
            k_2 h_23)
            (k_2 h_22))
          (next_3 t103 h_20))
        (R x16 h_16)))

set_option maxRecDepth 100000 in
set_option maxHeartbeats 2000000 in
theorem sh_calls_arrange {v0 v1 v2 : Value} {h : Heap} {R : Value → Heap → Prop} (hg : g_calls_arrange v0 v1 v2 h R) : HC Try.prog 18 #[v0, v1, v2] h R := by
  refine hc_of_wp (n := 130) (f := ovr [(0, v0), (1, v1), (2, v2)] fun _ => undef) Try.func18 rfl rfl (by kernel_rfl) (fun w hw => ?_)
  have hs := SameW.refl w
  unfold g_calls_arrange at hg
  refine wp_seq ?_
  refine region_seq ?_
  refine stepM (v := (.slice none 0 0)) (by first | exact .inl rfl | exact .inr rfl) (wanted_none rfl) rfl rfl ?_
  refine stepEnd ?_
  refine thenN ?_
  refine wp_seq ?_
  refine region_seq ?_
  refine stepM (v := v2) (by first | exact .inl rfl | exact .inr rfl) (wanted_none rfl) rfl rfl ?_
  refine stepX rfl (by exact hg) hw (wanted_none rfl) rfl (fun t21 h wh hw hs1 hg => ?_)
  have hs := hs.trans hs1
  clear hs1
  refine stepM (v := t21) (by first | exact .inl rfl | exact .inr rfl) (wanted_none rfl) rfl rfl ?_
  refine stepEnd ?_
  refine thenN ?_
  refine wp_seq ?_
  refine region_seq ?_
  refine stepM (v := v2) (by first | exact .inl rfl | exact .inr rfl) (wanted_none rfl) rfl rfl ?_
  refine stepX rfl (by exact hg) hw (wanted_none rfl) rfl (fun t23 h_1 wh_1 hw hs1 hg => ?_)
  have hs := hs.trans hs1
  clear hs1
  refine stepM (v := t23) (by first | exact .inl rfl | exact .inr rfl) (wanted_none rfl) rfl rfl ?_
  refine stepEnd ?_
  refine thenN ?_
  refine wp_seq ?_
  refine wp_seq ?_
  refine region_seq ?_
  refine stepM (v := v0) (by first | exact .inl rfl | exact .inr rfl) (wanted_none rfl) rfl rfl ?_
  refine stepP (ex_blt rfl) (by exact hg) (wanted_none rfl) rfl (fun t25 hg => ?_)
  refine stepM (v := (.int .i64 0)) (by first | exact .inl rfl | exact .inr rfl) (wanted_none rfl) rfl rfl ?_
  refine stepEnd ?_
  refine thenN ?_
  refine wp_block ?_
  obtain ⟨I, m0, hI0, hround⟩ := hg
  refine wp_loop_m (fun m a w' => ∃ (x26 : Value) (f : Nat → Value), a = mk 130 (ovr [(26, x26), (1, v1), (7, t21), (8, t23), (24, v0), (25, t25)] f) ∧ SameW w w' ∧ I m x26 w'.heap) m0 ⟨(.int .i64 0), _, mk_ovr ⟨rfl, rfl, rfl, rfl, rfl, rfl, trivial⟩, hs, by rw [hw]; exact hI0⟩ ?_
  rintro m _ wl ⟨x26, f, rfl, hs, hI⟩
  obtain ⟨h_2, hw⟩ : ∃ h', wl.heap = h' := ⟨_, rfl⟩
  rw [hw] at hI
  have hg := hround m _ _ hI
  clear hround hI hI0
  refine wp_seq ?_
  refine region_seq ?_
  refine stepP rfl (by exact hg) (wanted_none rfl) rfl (fun t27 hg => ?_)
  refine stepEnd ?_
  refine thenN ?_
  refine wp_seq ?_
  refine codeCond hg rfl (fun hb hg1 => ?_) (fun hb hg1 => ?_)
  · clear hg; subst hb; have hg := hg1; clear hg1
    refine wp_skip ?_
    refine thenN ?_
    refine wp_seq ?_
    refine wp_block ?_
    refine wp_seq ?_
    refine region_seq ?_
    refine stepM (v := x26) (by first | exact .inl rfl | exact .inr rfl) (wanted_none rfl) rfl rfl ?_
    refine stepP rfl (by exact hg) (wanted_none rfl) rfl (fun t29 hg => ?_)
    refine stepQ rfl (by exact hg) hw (wanted_none rfl) rfl (fun t30 hg => ?_)
    refine stepM (v := x26) (by first | exact .inl rfl | exact .inr rfl) (wanted_none rfl) rfl rfl ?_
    refine stepM (v := t30) (by first | exact .inl rfl | exact .inr rfl) (wanted_none rfl) rfl rfl ?_
    refine stepEnd ?_
    refine thenN ?_
    refine wp_seq ?_
    refine region_seq ?_
    refine stepM (v := t30) (by first | exact .inl rfl | exact .inr rfl) (wanted_none rfl) rfl rfl ?_
    refine stepP (ex_blt rfl) (by exact hg) (wanted_none rfl) rfl (fun t32 hg => ?_)
    refine stepM (v := (.int .i64 0)) (by first | exact .inl rfl | exact .inr rfl) (wanted_none rfl) rfl rfl ?_
    refine stepEnd ?_
    refine thenN ?_
    refine wp_block ?_
    obtain ⟨I, m0, hI0, hround⟩ := hg
    refine wp_loop_m (fun m a w' => ∃ (x33 : Value) (f : Nat → Value), a = mk 130 (ovr [(33, x33), (1, v1), (7, t21), (8, t23), (9, x26), (24, v0), (25, t25), (26, x26), (31, t30), (32, t32)] f) ∧ SameW w w' ∧ I m x33 w'.heap) m0 ⟨(.int .i64 0), _, mk_ovr ⟨rfl, rfl, rfl, rfl, rfl, rfl, rfl, rfl, rfl, rfl, trivial⟩, hs, by rw [hw]; exact hI0⟩ ?_
    rintro m _ wl ⟨x33, f, rfl, hs, hI⟩
    obtain ⟨h_3, hw⟩ : ∃ h', wl.heap = h' := ⟨_, rfl⟩
    rw [hw] at hI
    have hg := hround m _ _ hI
    clear hround hI hI0
    refine wp_seq ?_
    refine region_seq ?_
    refine stepP rfl (by exact hg) (wanted_none rfl) rfl (fun t34 hg => ?_)
    refine stepEnd ?_
    refine thenN ?_
    refine wp_seq ?_
    refine codeCond hg rfl (fun hb hg1 => ?_) (fun hb hg1 => ?_)
    · clear hg; subst hb; have hg := hg1; clear hg1
      refine wp_skip ?_
      refine thenN ?_
      refine wp_seq_k (fun K_k hK_k => ?_)
      obtain ⟨k, hk, hg⟩ := join_elim hg
      have hj_k : ∀ (h_4 : Heap) (w' : World), w'.heap = h_4 → SameW w w' → k h_4 → ∀ f, K_k (mk 130 (ovr [(1, v1), (7, t21), (8, t23), (9, x26), (24, v0), (25, t25), (26, x26), (31, t30), (32, t32), (33, x33)] f)) w' := by
        intro h_4 wj hw hs hg f
        rw [hk] at hg
        refine hK_k _ _ ?_
        refine region_seq ?_
        refine stepP rfl (by exact hg) (wanted_none rfl) rfl (fun t74 hg => ?_)
        refine stepM (v := t74) (by first | exact .inl rfl | exact .inr rfl) (wanted_none rfl) rfl rfl ?_
        refine stepEnd ?_
        obtain ⟨m', hlt, hI⟩ := hg
        exact thenN ⟨m', hlt, t74, _, mk_ovr ⟨rfl, rfl, rfl, rfl, rfl, rfl, rfl, rfl, rfl, rfl, trivial⟩, hs, by rw [hw]; exact hI⟩
      clear hk hK_k
      refine wp_block ?_
      refine wp_seq ?_
      refine region_seq ?_
      refine stepP rfl (by exact hg) (wanted_none rfl) rfl (fun t35 hg => ?_)
      refine stepQ rfl (by exact hg) hw (wanted_none rfl) rfl (fun t36 hg => ?_)
      refine stepM (v := t36) (by first | exact .inl rfl | exact .inr rfl) (wanted_none rfl) rfl rfl ?_
      refine stepEnd ?_
      refine thenN ?_
      refine wp_seq ?_
      refine region_quiet (D := Eq h_3) (by kernel_rfl) (by kernel_rfl) hw.symm ?_
      refine quietM (v := v1) (by first | exact .inl rfl | exact .inr rfl) (wanted_none rfl) rfl rfl ?_
      refine quietM (v := x26) (by first | exact .inl rfl | exact .inr rfl) (wanted_none rfl) rfl rfl ?_
      refine quietP rfl (by exact hg) (wanted_none rfl) rfl (fun t39 hg => ?_)
      refine quietQ rfl (by exact hg) (wanted_none rfl) rfl (fun t40 hg => ?_)
      refine quietM (v := v1) (by first | exact .inl rfl | exact .inr rfl) (wanted_none rfl) rfl rfl ?_
      refine quietM (v := t36) (by first | exact .inl rfl | exact .inr rfl) (wanted_none rfl) rfl rfl ?_
      refine quietP rfl (by exact hg) (wanted_none rfl) rfl (fun t43 hg => ?_)
      refine quietQ rfl (by exact hg) (wanted_none rfl) rfl (fun t44 hg => ?_)
      refine quietP rfl (by exact hg) (wanted_none rfl) rfl (fun t45 hg => ?_)
      refine quietEnd (fun wq hD hs1 => ?_)
      have hw := hD.symm
      have hs := hs.trans hs1
      clear hD hs1
      refine thenN ?_
      refine codeCond hg rfl (fun hb hg1 => ?_) (fun hb hg1 => ?_)
      · clear hg; subst hb; have hg := hg1; clear hg1
        refine wp_seq ?_
        refine region_seq ?_
        refine stepM (v := t21) (by first | exact .inl rfl | exact .inr rfl) (wanted_none rfl) rfl rfl ?_
        refine stepM (v := v1) (by first | exact .inl rfl | exact .inr rfl) (wanted_none rfl) rfl rfl ?_
        refine stepM (v := x26) (by first | exact .inl rfl | exact .inr rfl) (wanted_none rfl) rfl rfl ?_
        refine stepP rfl (by exact hg) (wanted_none rfl) rfl (fun t49 hg => ?_)
        refine stepQ rfl (by exact hg) hw (wanted_none rfl) rfl (fun t50 hg => ?_)
        refine stepP rfl (by exact hg) (wanted_none rfl) rfl (fun t51 hg => ?_)
        refine stepQ rfl (by exact hg) hw (wanted_none rfl) rfl (fun t52 hg => ?_)
        refine stepP rfl (by exact hg) (wanted_none rfl) rfl (fun t53 hg => ?_)
        refine stepP rfl (by exact hg) (wanted_none rfl) rfl (fun t54 hg => ?_)
        refine stepU rfl (by exact hg) hw (wanted_none rfl) rfl (fun _ h_5 wh_5 hw hs1 hg => ?_)
        have hs := hs.trans hs1
        clear hs1
        refine stepEnd ?_
        refine thenN ?_
        obtain ⟨D, hD, hg⟩ := hg
        refine region_mix (D := D) [true, true, true, true, true, true, true, true, true, true, true, true, true, true, true, true, false, false, true] (by kernel_rfl) (by kernel_rfl) (by repeat (first | exact panicOk_base | apply panicOk_then | apply panicOk_blk)) (by rw [hw]; exact hD) (fun wm hs1 hw1 => ?_)
        have hw := hw1.trans hw
        have hs := hs.trans hs1
        clear hs1 hw1
        refine mixM (v := t23) (by first | exact .inl rfl | exact .inr rfl) (wanted_none rfl) rfl rfl ?_
        refine mixM (v := v1) (by first | exact .inl rfl | exact .inr rfl) (wanted_none rfl) rfl rfl ?_
        refine mixM (v := t36) (by first | exact .inl rfl | exact .inr rfl) (wanted_none rfl) rfl rfl ?_
        refine mixP rfl (by exact hg) (wanted_none rfl) rfl (fun t58 hg => ?_)
        refine mixQ rfl (by exact hg) (wanted_none rfl) rfl (fun t59 hg => ?_)
        refine mixM (v := t23) (by first | exact .inl rfl | exact .inr rfl) (wanted_none rfl) rfl rfl ?_
        refine mixM (v := v1) (by first | exact .inl rfl | exact .inr rfl) (wanted_none rfl) rfl rfl ?_
        refine mixM (v := t36) (by first | exact .inl rfl | exact .inr rfl) (wanted_none rfl) rfl rfl ?_
        refine mixP rfl (by exact hg) (wanted_none rfl) rfl (fun t63 hg => ?_)
        refine mixQ rfl (by exact hg) (wanted_none rfl) rfl (fun t64 hg => ?_)
        refine mixP rfl (by exact hg) (wanted_none rfl) rfl (fun t65 hg => ?_)
        refine mixQ rfl (by exact hg) (wanted_none rfl) rfl (fun t66 hg => ?_)
        refine mixM (v := v1) (by first | exact .inl rfl | exact .inr rfl) (wanted_none rfl) rfl rfl ?_
        refine mixM (v := x26) (by first | exact .inl rfl | exact .inr rfl) (wanted_none rfl) rfl rfl ?_
        refine mixP rfl (by exact hg) (wanted_none rfl) rfl (fun t69 hg => ?_)
        refine mixQ rfl (by exact hg) (wanted_none rfl) rfl (fun t70 hg => ?_)
        refine mixX (ex_buildSlice rfl) (by exact hg) hw (wanted_none rfl) rfl (fun t71 h_6 wh_6 hw hs1 hg => ?_)
        have hs := hs.trans hs1
        clear hs1
        refine mixX (ex_blt rfl) (by exact hg) hw (wanted_none rfl) rfl (fun t72 h_7 wh_7 hw hs1 hg => ?_)
        have hs := hs.trans hs1
        clear hs1
        refine mixP rfl (by exact hg) (wanted_none rfl) rfl (fun t73 hg => ?_)
        refine mixEnd ?_
        refine stepU rfl (by exact hg) hw (wanted_none rfl) rfl (fun _ h_8 wh_8 hw hs1 hg => ?_)
        have hs := hs.trans hs1
        clear hs1
        refine stepEnd ?_
        refine blkN ?_
        refine thenN ?_
        exact at_ovr (hj_k h_8 _ hw hs hg) ⟨rfl, rfl, rfl, rfl, rfl, rfl, rfl, rfl, rfl, rfl, trivial⟩
      · clear hg; subst hb; have hg := hg1; clear hg1
        refine wp_skip ?_
        refine blkN ?_
        refine thenN ?_
        exact at_ovr (hj_k h_3 _ hw hs hg) ⟨rfl, rfl, rfl, rfl, rfl, rfl, rfl, rfl, rfl, rfl, trivial⟩
    · clear hg; subst hb; have hg := hg1; clear hg1
      refine wp_exit ?_
      refine thenE ?_
      refine thenE ?_
      refine blkE ?_
      refine blkN ?_
      refine thenN ?_
      refine region_seq ?_
      refine stepP rfl (by exact hg) (wanted_none rfl) rfl (fun t75 hg => ?_)
      refine stepM (v := t75) (by first | exact .inl rfl | exact .inr rfl) (wanted_none rfl) rfl rfl ?_
      refine stepEnd ?_
      obtain ⟨m', hlt, hI⟩ := hg
      exact thenN ⟨m', hlt, t75, _, mk_ovr ⟨rfl, rfl, rfl, rfl, rfl, rfl, trivial⟩, hs, by rw [hw]; exact hI⟩
  · clear hg; subst hb; have hg := hg1; clear hg1
    refine wp_exit ?_
    refine thenE ?_
    refine thenE ?_
    refine blkE ?_
    refine thenN ?_
    refine wp_seq ?_
    refine region_seq ?_
    refine stepX rfl (by exact hg) hw (wanted_none rfl) rfl (fun t13 h_9 wh_9 hw hs1 hg => ?_)
    have hs := hs.trans hs1
    clear hs1
    refine stepEnd ?_
    refine thenN ?_
    refine wp_seq ?_
    refine wp_seq ?_
    refine region_seq ?_
    refine stepM (v := t21) (by first | exact .inl rfl | exact .inr rfl) (wanted_none rfl) rfl rfl ?_
    refine stepP (ex_blt rfl) (by exact hg) (wanted_none rfl) rfl (fun t77 hg => ?_)
    refine stepM (v := (.int .i64 0)) (by first | exact .inl rfl | exact .inr rfl) (wanted_none rfl) rfl rfl ?_
    refine stepEnd ?_
    refine thenN ?_
    refine wp_block ?_
    obtain ⟨I, m0, hI0, hround⟩ := hg
    refine wp_loop_m (fun m a w' => ∃ (x78 : Value) (f : Nat → Value), a = mk 130 (ovr [(78, x78), (7, t21), (8, t23), (13, t13), (76, t21), (77, t77)] f) ∧ SameW w w' ∧ I m x78 w'.heap) m0 ⟨(.int .i64 0), _, mk_ovr ⟨rfl, rfl, rfl, rfl, rfl, rfl, trivial⟩, hs, by rw [hw]; exact hI0⟩ ?_
    rintro m _ wl ⟨x78, f, rfl, hs, hI⟩
    obtain ⟨h_10, hw⟩ : ∃ h', wl.heap = h' := ⟨_, rfl⟩
    rw [hw] at hI
    have hg := hround m _ _ hI
    clear hround hI hI0
    refine wp_seq ?_
    refine region_seq ?_
    refine stepP rfl (by exact hg) (wanted_none rfl) rfl (fun t79 hg => ?_)
    refine stepEnd ?_
    refine thenN ?_
    refine wp_seq ?_
    refine codeCond hg rfl (fun hb hg1 => ?_) (fun hb hg1 => ?_)
    · clear hg; subst hb; have hg := hg1; clear hg1
      refine wp_skip ?_
      refine thenN ?_
      refine wp_seq_k (fun K_k_1 hK_k_1 => ?_)
      obtain ⟨k_1, hk_1, hg⟩ := join_elim hg
      have hj_k_1 : ∀ (h_11 : Heap) (w' : World), w'.heap = h_11 → SameW w w' → k_1 h_11 → ∀ f, K_k_1 (mk 130 (ovr [(7, t21), (8, t23), (13, t13), (76, t21), (77, t77), (78, x78)] f)) w' := by
        intro h_11 wj hw hs hg f
        rw [hk_1] at hg
        refine hK_k_1 _ _ ?_
        refine region_seq ?_
        refine stepP rfl (by exact hg) (wanted_none rfl) rfl (fun t89 hg => ?_)
        refine stepM (v := t89) (by first | exact .inl rfl | exact .inr rfl) (wanted_none rfl) rfl rfl ?_
        refine stepEnd ?_
        obtain ⟨m', hlt, hI⟩ := hg
        exact thenN ⟨m', hlt, t89, _, mk_ovr ⟨rfl, rfl, rfl, rfl, rfl, rfl, trivial⟩, hs, by rw [hw]; exact hI⟩
      clear hk_1 hK_k_1
      refine wp_block ?_
      refine wp_seq ?_
      refine region_seq ?_
      refine stepM (v := x78) (by first | exact .inl rfl | exact .inr rfl) (wanted_none rfl) rfl rfl ?_
      refine stepP rfl (by exact hg) (wanted_none rfl) rfl (fun t81 hg => ?_)
      refine stepQ rfl (by exact hg) hw (wanted_none rfl) rfl (fun t82 hg => ?_)
      refine stepM (v := x78) (by first | exact .inl rfl | exact .inr rfl) (wanted_none rfl) rfl rfl ?_
      refine stepM (v := t82) (by first | exact .inl rfl | exact .inr rfl) (wanted_none rfl) rfl rfl ?_
      refine stepEnd ?_
      refine thenN ?_
      refine wp_seq ?_
      refine region_seq ?_
      refine stepM (v := t82) (by first | exact .inl rfl | exact .inr rfl) (wanted_none rfl) rfl rfl ?_
      refine stepP rfl (by exact hg) (wanted_none rfl) rfl (fun t84 hg => ?_)
      refine stepEnd ?_
      refine thenN ?_
      refine codeCond hg rfl (fun hb hg1 => ?_) (fun hb hg1 => ?_)
      · clear hg; subst hb; have hg := hg1; clear hg1
        refine region_seq ?_
        refine stepQ rfl (by exact hg) hw (wanted_none rfl) rfl (fun t85 hg => ?_)
        refine stepM (v := x78) (by first | exact .inl rfl | exact .inr rfl) (wanted_none rfl) rfl rfl ?_
        refine stepX (ex_buildSlice rfl) (by exact hg) hw (wanted_none rfl) rfl (fun t87 h_12 wh_12 hw hs1 hg => ?_)
        have hs := hs.trans hs1
        clear hs1
        refine stepX (ex_blt rfl) (by exact hg) hw (wanted_none rfl) rfl (fun t88 h_13 wh_13 hw hs1 hg => ?_)
        have hs := hs.trans hs1
        clear hs1
        refine stepU rfl (by exact hg) hw (wanted_none rfl) rfl (fun _ h_14 wh_14 hw hs1 hg => ?_)
        have hs := hs.trans hs1
        clear hs1
        refine stepEnd ?_
        refine blkN ?_
        refine thenN ?_
        exact at_ovr (hj_k_1 h_14 _ hw hs hg) ⟨rfl, rfl, rfl, rfl, rfl, rfl, trivial⟩
      · clear hg; subst hb; have hg := hg1; clear hg1
        refine wp_skip ?_
        refine blkN ?_
        refine thenN ?_
        exact at_ovr (hj_k_1 h_10 _ hw hs hg) ⟨rfl, rfl, rfl, rfl, rfl, rfl, trivial⟩
    · clear hg; subst hb; have hg := hg1; clear hg1
      refine wp_exit ?_
      refine thenE ?_
      refine thenE ?_
      refine blkE ?_
      refine thenN ?_
      refine wp_seq ?_
      refine region_seq ?_
      refine stepP rfl (by exact hg) (wanted_none rfl) rfl (fun t90 hg => ?_)
      refine stepX (ex_call rfl) (by exact hg) hw (wanted_none rfl) rfl (fun t91 h_15 wh_15 hw hs1 hg => ?_)
      have hs := hs.trans hs1
      clear hs1
      refine stepEnd ?_
      refine thenN ?_
      refine wp_seq ?_
      refine region_seq ?_
      refine stepM (v := (.slice none 0 0)) (by first | exact .inl rfl | exact .inr rfl) (wanted_none rfl) rfl rfl ?_
      refine stepEnd ?_
      refine thenN ?_
      refine wp_seq ?_
      refine wp_block ?_
      obtain ⟨I, m0, hI0, hround⟩ := hg
      refine wp_loop_m (fun m a w' => ∃ (x16 : Value) (f : Nat → Value), a = mk 130 (ovr [(16, x16), (7, t21), (8, t23), (13, t13)] f) ∧ SameW w w' ∧ I m x16 w'.heap) m0 ⟨(.slice none 0 0), _, mk_ovr ⟨rfl, rfl, rfl, rfl, trivial⟩, hs, by rw [hw]; exact hI0⟩ ?_
      rintro m _ wl ⟨x16, f, rfl, hs, hI⟩
      obtain ⟨h_16, hw⟩ : ∃ h', wl.heap = h' := ⟨_, rfl⟩
      rw [hw] at hI
      have hg := hround m _ _ hI
      clear hround hI hI0
      refine wp_seq ?_
      refine wp_seq ?_
      refine region_seq ?_
      refine stepQ rfl (by exact hg) hw (wanted_none rfl) rfl (fun t92 hg => ?_)
      refine stepP (ex_blt rfl) (by exact hg) (wanted_none rfl) rfl (fun t93 hg => ?_)
      refine stepP rfl (by exact hg) (wanted_none rfl) rfl (fun t94 hg => ?_)
      refine stepEnd ?_
      refine thenN ?_
      refine codeCond hg rfl (fun hb hg1 => ?_) (fun hb hg1 => ?_)
      · clear hg; subst hb; have hg := hg1; clear hg1
        refine wp_skip ?_
        refine thenN ?_
        refine wp_block ?_
        refine wp_seq ?_
        refine region_seq ?_
        refine stepQ rfl (by exact hg) hw (wanted_none rfl) rfl (fun t95 hg => ?_)
        refine stepP rfl (by exact hg) (wanted_none rfl) rfl (fun t96 hg => ?_)
        refine stepQ rfl (by exact hg) hw (wanted_none rfl) rfl (fun t97 hg => ?_)
        refine stepM (v := t97) (by first | exact .inl rfl | exact .inr rfl) (wanted_none rfl) rfl rfl ?_
        refine stepEnd ?_
        refine thenN ?_
        refine wp_seq ?_
        refine region_seq ?_
        refine stepP rfl (by exact hg) (wanted_none rfl) rfl (fun t98 hg => ?_)
        refine stepX (ex_call rfl) (by exact hg) hw (wanted_none rfl) rfl (fun t99 h_17 wh_17 hw hs1 hg => ?_)
        have hs := hs.trans hs1
        clear hs1
        refine stepEnd ?_
        refine thenN ?_
        refine wp_seq ?_
        refine region_seq ?_
        refine stepM (v := x16) (by first | exact .inl rfl | exact .inr rfl) (wanted_none rfl) rfl rfl ?_
        refine stepM (v := t97) (by first | exact .inl rfl | exact .inr rfl) (wanted_none rfl) rfl rfl ?_
        refine stepX (ex_buildSlice rfl) (by exact hg) hw (wanted_none rfl) rfl (fun t102 h_18 wh_18 hw hs1 hg => ?_)
        have hs := hs.trans hs1
        clear hs1
        refine stepX (ex_blt rfl) (by exact hg) hw (wanted_none rfl) rfl (fun t103 h_19 wh_19 hw hs1 hg => ?_)
        have hs := hs.trans hs1
        clear hs1
        refine stepM (v := t103) (by first | exact .inl rfl | exact .inr rfl) (wanted_none rfl) rfl rfl ?_
        refine stepEnd ?_
        refine thenN ?_
        refine wp_seq ?_
        refine region_seq ?_
        refine stepM (v := t23) (by first | exact .inl rfl | exact .inr rfl) (wanted_none rfl) rfl rfl ?_
        refine stepM (v := t97) (by first | exact .inl rfl | exact .inr rfl) (wanted_none rfl) rfl rfl ?_
        refine stepP rfl (by exact hg) (wanted_none rfl) rfl (fun t106 hg => ?_)
        refine stepQ rfl (by exact hg) hw (wanted_none rfl) rfl (fun t107 hg => ?_)
        refine stepP (ex_blt rfl) (by exact hg) (wanted_none rfl) rfl (fun t108 hg => ?_)
        refine stepM (v := (.int .i64 0)) (by first | exact .inl rfl | exact .inr rfl) (wanted_none rfl) rfl rfl ?_
        refine stepEnd ?_
        refine thenN ?_
        refine wp_block ?_
        obtain ⟨I, m0, hI0, hround⟩ := hg
        refine wp_loop_m (fun m a w' => ∃ (x109 : Value) (f : Nat → Value), a = mk 130 (ovr [(109, x109), (7, t21), (8, t23), (13, t13), (16, t103), (107, t107), (108, t108)] f) ∧ SameW w w' ∧ I m x109 w'.heap) m0 ⟨(.int .i64 0), _, mk_ovr ⟨rfl, rfl, rfl, rfl, rfl, rfl, rfl, trivial⟩, hs, by rw [hw]; exact hI0⟩ ?_
        rintro m _ wl ⟨x109, f, rfl, hs, hI⟩
        obtain ⟨h_20, hw⟩ : ∃ h', wl.heap = h' := ⟨_, rfl⟩
        rw [hw] at hI
        have hg := hround m _ _ hI
        clear hround hI hI0
        refine wp_seq ?_
        refine region_seq ?_
        refine stepP rfl (by exact hg) (wanted_none rfl) rfl (fun t110 hg => ?_)
        refine stepEnd ?_
        refine thenN ?_
        refine wp_seq ?_
        refine codeCond hg rfl (fun hb hg1 => ?_) (fun hb hg1 => ?_)
        · clear hg; subst hb; have hg := hg1; clear hg1
          refine wp_skip ?_
          refine thenN ?_
          refine wp_seq_k (fun K_k_2 hK_k_2 => ?_)
          obtain ⟨k_2, hk_2, hg⟩ := join_elim hg
          have hj_k_2 : ∀ (h_21 : Heap) (w' : World), w'.heap = h_21 → SameW w w' → k_2 h_21 → ∀ f, K_k_2 (mk 130 (ovr [(7, t21), (8, t23), (13, t13), (16, t103), (107, t107), (108, t108), (109, x109)] f)) w' := by
            intro h_21 wj hw hs hg f
            rw [hk_2] at hg
            refine hK_k_2 _ _ ?_
            refine region_seq ?_
            refine stepP rfl (by exact hg) (wanted_none rfl) rfl (fun t128 hg => ?_)
            refine stepM (v := t128) (by first | exact .inl rfl | exact .inr rfl) (wanted_none rfl) rfl rfl ?_
            refine stepEnd ?_
            obtain ⟨m', hlt, hI⟩ := hg
            exact thenN ⟨m', hlt, t128, _, mk_ovr ⟨rfl, rfl, rfl, rfl, rfl, rfl, rfl, trivial⟩, hs, by rw [hw]; exact hI⟩
          clear hk_2 hK_k_2
          refine wp_block ?_
          refine wp_seq ?_
          refine region_seq ?_
          refine stepP rfl (by exact hg) (wanted_none rfl) rfl (fun t111 hg => ?_)
          refine stepQ rfl (by exact hg) hw (wanted_none rfl) rfl (fun t112 hg => ?_)
          refine stepM (v := t112) (by first | exact .inl rfl | exact .inr rfl) (wanted_none rfl) rfl rfl ?_
          refine stepEnd ?_
          refine thenN ?_
          refine wp_seq ?_
          refine region_seq ?_
          refine stepM (v := t21) (by first | exact .inl rfl | exact .inr rfl) (wanted_none rfl) rfl rfl ?_
          refine stepM (v := t112) (by first | exact .inl rfl | exact .inr rfl) (wanted_none rfl) rfl rfl ?_
          refine stepP rfl (by exact hg) (wanted_none rfl) rfl (fun t115 hg => ?_)
          refine stepQ rfl (by exact hg) hw (wanted_none rfl) rfl (fun t116 hg => ?_)
          refine stepP rfl (by exact hg) (wanted_none rfl) rfl (fun t117 hg => ?_)
          refine stepP rfl (by exact hg) (wanted_none rfl) rfl (fun t118 hg => ?_)
          refine stepU rfl (by exact hg) hw (wanted_none rfl) rfl (fun _ h_22 wh_22 hw hs1 hg => ?_)
          have hs := hs.trans hs1
          clear hs1
          refine stepEnd ?_
          refine thenN ?_
          refine wp_seq ?_
          refine region_seq ?_
          refine stepM (v := t21) (by first | exact .inl rfl | exact .inr rfl) (wanted_none rfl) rfl rfl ?_
          refine stepM (v := t112) (by first | exact .inl rfl | exact .inr rfl) (wanted_none rfl) rfl rfl ?_
          refine stepP rfl (by exact hg) (wanted_none rfl) rfl (fun t121 hg => ?_)
          refine stepQ rfl (by exact hg) hw (wanted_none rfl) rfl (fun t122 hg => ?_)
          refine stepP rfl (by exact hg) (wanted_none rfl) rfl (fun t123 hg => ?_)
          refine stepEnd ?_
          refine thenN ?_
          refine codeCond hg rfl (fun hb hg1 => ?_) (fun hb hg1 => ?_)
          · clear hg; subst hb; have hg := hg1; clear hg1
            refine region_seq ?_
            refine stepP rfl (by exact hg) (wanted_none rfl) rfl (fun t124 hg => ?_)
            refine stepM (v := t112) (by first | exact .inl rfl | exact .inr rfl) (wanted_none rfl) rfl rfl ?_
            refine stepP rfl (by exact hg) (wanted_none rfl) rfl (fun t126 hg => ?_)
            refine stepX (ex_call rfl) (by exact hg) hw (wanted_none rfl) rfl (fun t127 h_23 wh_23 hw hs1 hg => ?_)
            have hs := hs.trans hs1
            clear hs1
            refine stepEnd ?_
            refine blkN ?_
            refine thenN ?_
            exact at_ovr (hj_k_2 h_23 _ hw hs hg) ⟨rfl, rfl, rfl, rfl, rfl, rfl, rfl, trivial⟩
          · clear hg; subst hb; have hg := hg1; clear hg1
            refine wp_skip ?_
            refine blkN ?_
            refine thenN ?_
            exact at_ovr (hj_k_2 h_22 _ hw hs hg) ⟨rfl, rfl, rfl, rfl, rfl, rfl, rfl, trivial⟩
        · clear hg; subst hb; have hg := hg1; clear hg1
          refine wp_exit ?_
          refine thenE ?_
          refine thenE ?_
          refine blkE ?_
          refine blkN ?_
          obtain ⟨m', hlt, hI⟩ := hg
          exact thenN ⟨m', hlt, t103, _, mk_ovr ⟨rfl, rfl, rfl, rfl, trivial⟩, hs, by rw [hw]; exact hI⟩
      · clear hg; subst hb; have hg := hg1; clear hg1
        refine wp_exit ?_
        refine thenE ?_
        refine thenE ?_
        refine blkE ?_
        refine thenN ?_
        refine wp_seq ?_
        refine region_seq ?_
        refine stepM (v := x16) (by first | exact .inl rfl | exact .inr rfl) (wanted_none rfl) rfl rfl ?_
        refine stepM (v := x16) (by first | exact .inl rfl | exact .inr rfl) (wanted_none rfl) rfl rfl ?_
        refine stepEnd ?_
        refine thenN ?_
        refine wp_ret ?_
        exact post_ret (res_tmp Try.results18 rfl rfl) ⟨_, rfl, hs, by rw [hw]; exact hg⟩

/-- augur/calls.reached -/
def g_calls_reached (v0 v1 v2 : Value) (h : Heap) (R : Value → Heap → Prop) : Prop :=
  oMkMap Try.prog 59 none h fun t17 h => 
  oBuildSlice Try.prog 29 1 #[(0, v2)] h fun t19 h_1 => 
  loop2 (.slice none 0 0) t19 h_1 fun x8 x9 h_2 next =>
   oLen Try.prog #[29] 3 x9 fun t21 =>
   oBin Try.prog .gtr 3 (.tmp 21) (.const (.int .i64 0)) t21 (.int .i64 0) fun t22 =>
   cond t22
    (oLen Try.prog #[29] 3 x9 fun t25 =>
    oBin Try.prog .sub 3 (.tmp 25) (.const (.int .i64 1)) t25 (.int .i64 1) fun t26 =>
    oIdx Try.prog 29 x9 t26 fun t27 =>
    oLoad Try.prog 9 t27 (Eq h_2) fun t28 =>
    oLen Try.prog #[29] 3 x9 fun t31 =>
    oBin Try.prog .sub 3 (.tmp 31) (.const (.int .i64 1)) t31 (.int .i64 1) fun t32 =>
    oSlice Try.prog 29 x9 none (some t32) none fun t33 =>
    oLook Try.prog 24 v1 t28 false (Eq h_2) fun t36 =>
    oLen Try.prog #[29] 3 t36 fun t37 =>
    loop3 x8 t33 (.int .i64 0) h_2 fun x8_1 x9_1 x38 h_3 next_1 =>
     oBin Try.prog .lss 3 (.tmp 38) (.tmp 37) x38 t37 fun t39 =>
     cond t39
      (join (fun (x8_2 x9_2 : Value) (h_4 : Heap) =>
       oBin Try.prog .add 3 (.tmp 38) (.const (.int .i64 1)) x38 (.int .i64 1) fun t68 =>
       next_1 x8_2 x9_2 t68 h_4)
       fun k =>
       oIdx Try.prog 29 t36 x38 fun t40 =>
       oLoad Try.prog 9 t40 (Eq h_3) fun t41 =>
       oLook Try.prog 24 v0 t41 true (Eq h_3) fun t45 =>
       oExt Try.prog t45 0 fun t46 =>
       oExt Try.prog t45 1 fun t47 =>
       oUn Try.prog .not t47 fun t49 =>
       cond t49
        (k x8_1 x9_1 h_3)
        (oLook Try.prog 59 t17 t41 true (Eq h_3) fun t53 =>
        oExt Try.prog t53 0 fun t54 =>
        oExt Try.prog t53 1 fun t55 =>
        oAlloc Try.prog 60 h_3 fun t15 h_5 => 
        oStore Try.prog 60 t15 t54 h_5 fun _ h_6 => 
        cond t55
         (k x8_1 x9_1 h_6)
         (oBuild Try.prog 60 #[] fun t59 =>
         oUpd Try.prog 59 t17 t41 t59 h_6 fun _ h_7 => 
         oBuildSlice Try.prog 29 1 #[(0, t41)] h_7 fun t62 h_8 => 
         oAppend Try.prog #[29, 29] 29 #[x8_1, t62] h_8 fun t63 h_9 => 
         oBuildSlice Try.prog 29 1 #[(0, t41)] h_9 fun t66 h_10 => 
         oAppend Try.prog #[29, 29] 29 #[x9_1, t66] h_10 fun t67 h_11 => 
         k t63 t67 h_11)))
      (next x8_1 x9_1 h_3))
    (oCall Try.prog (.func (.func 20) #[] #[]) #[x8, (.func (.func 21) #[] #[])] h_2 fun t70 h_12 => 
    R x8 h_12)

set_option maxRecDepth 100000 in
set_option maxHeartbeats 2000000 in
theorem sh_calls_reached {v0 v1 v2 : Value} {h : Heap} {R : Value → Heap → Prop} (hg : g_calls_reached v0 v1 v2 h R) : HC Try.prog 19 #[v0, v1, v2] h R := by
  refine hc_of_wp (n := 72) (f := ovr [(0, v0), (1, v1), (2, v2)] fun _ => undef) Try.func19 rfl rfl (by kernel_rfl) (fun w hw => ?_)
  have hs := SameW.refl w
  unfold g_calls_reached at hg
  refine wp_seq ?_
  refine region_seq ?_
  refine stepM (v := (.slice none 0 0)) (by first | exact .inl rfl | exact .inr rfl) (wanted_none rfl) rfl rfl ?_
  refine stepEnd ?_
  refine thenN ?_
  refine wp_seq ?_
  refine region_seq ?_
  refine stepX rfl (by exact hg) hw (wanted_none rfl) rfl (fun t17 h wh hw hs1 hg => ?_)
  have hs := hs.trans hs1
  clear hs1
  refine stepM (v := t17) (by first | exact .inl rfl | exact .inr rfl) (wanted_none rfl) rfl rfl ?_
  refine stepEnd ?_
  refine thenN ?_
  refine wp_seq ?_
  refine region_seq ?_
  refine stepM (v := (.slice none 0 0)) (by first | exact .inl rfl | exact .inr rfl) (wanted_none rfl) rfl rfl ?_
  refine stepEnd ?_
  refine thenN ?_
  refine wp_seq ?_
  refine region_seq ?_
  refine stepM (v := v2) (by first | exact .inl rfl | exact .inr rfl) (wanted_none rfl) rfl rfl ?_
  refine stepX (ex_buildSlice rfl) (by exact hg) hw (wanted_none rfl) rfl (fun t19 h_1 wh_1 hw hs1 hg => ?_)
  have hs := hs.trans hs1
  clear hs1
  refine stepM (v := t19) (by first | exact .inl rfl | exact .inr rfl) (wanted_none rfl) rfl rfl ?_
  refine stepEnd ?_
  refine thenN ?_
  refine wp_seq ?_
  refine wp_block ?_
  obtain ⟨I, m0, hI0, hround⟩ := hg
  refine wp_loop_m (fun m a w' => ∃ (x8 : Value) (x9 : Value) (f : Nat → Value), a = mk 72 (ovr [(8, x8), (9, x9), (0, v0), (1, v1), (7, t17)] f) ∧ SameW w w' ∧ I m x8 x9 w'.heap) m0 ⟨(.slice none 0 0), t19, _, mk_ovr ⟨rfl, rfl, rfl, rfl, rfl, trivial⟩, hs, by rw [hw]; exact hI0⟩ ?_
  rintro m _ wl ⟨x8, x9, f, rfl, hs, hI⟩
  obtain ⟨h_2, hw⟩ : ∃ h', wl.heap = h' := ⟨_, rfl⟩
  rw [hw] at hI
  have hg := hround m _ _ _ hI
  clear hround hI hI0
  refine wp_seq ?_
  refine wp_seq ?_
  refine region_seq ?_
  refine stepM (v := x9) (by first | exact .inl rfl | exact .inr rfl) (wanted_none rfl) rfl rfl ?_
  refine stepP (ex_blt rfl) (by exact hg) (wanted_none rfl) rfl (fun t21 hg => ?_)
  refine stepP rfl (by exact hg) (wanted_none rfl) rfl (fun t22 hg => ?_)
  refine stepEnd ?_
  refine thenN ?_
  refine codeCond hg rfl (fun hb hg1 => ?_) (fun hb hg1 => ?_)
  · clear hg; subst hb; have hg := hg1; clear hg1
    refine wp_skip ?_
    refine thenN ?_
    refine wp_block ?_
    refine wp_seq ?_
    refine region_seq ?_
    refine stepM (v := x9) (by first | exact .inl rfl | exact .inr rfl) (wanted_none rfl) rfl rfl ?_
    refine stepM (v := x9) (by first | exact .inl rfl | exact .inr rfl) (wanted_none rfl) rfl rfl ?_
    refine stepP (ex_blt rfl) (by exact hg) (wanted_none rfl) rfl (fun t25 hg => ?_)
    refine stepP rfl (by exact hg) (wanted_none rfl) rfl (fun t26 hg => ?_)
    refine stepP rfl (by exact hg) (wanted_none rfl) rfl (fun t27 hg => ?_)
    refine stepQ rfl (by exact hg) hw (wanted_none rfl) rfl (fun t28 hg => ?_)
    refine stepM (v := t28) (by first | exact .inl rfl | exact .inr rfl) (wanted_none rfl) rfl rfl ?_
    refine stepEnd ?_
    refine thenN ?_
    refine wp_seq ?_
    refine region_seq ?_
    refine stepM (v := x9) (by first | exact .inl rfl | exact .inr rfl) (wanted_none rfl) rfl rfl ?_
    refine stepM (v := x9) (by first | exact .inl rfl | exact .inr rfl) (wanted_none rfl) rfl rfl ?_
    refine stepP (ex_blt rfl) (by exact hg) (wanted_none rfl) rfl (fun t31 hg => ?_)
    refine stepP rfl (by exact hg) (wanted_none rfl) rfl (fun t32 hg => ?_)
    refine stepP rfl (by exact hg) (wanted_none rfl) rfl (fun t33 hg => ?_)
    refine stepM (v := t33) (by first | exact .inl rfl | exact .inr rfl) (wanted_none rfl) rfl rfl ?_
    refine stepEnd ?_
    refine thenN ?_
    refine wp_seq ?_
    refine region_seq ?_
    refine stepM (v := v1) (by first | exact .inl rfl | exact .inr rfl) (wanted_none rfl) rfl rfl ?_
    refine stepM (v := t28) (by first | exact .inl rfl | exact .inr rfl) (wanted_none rfl) rfl rfl ?_
    refine stepQ rfl (by exact hg) hw (wanted_none rfl) rfl (fun t36 hg => ?_)
    refine stepP (ex_blt rfl) (by exact hg) (wanted_none rfl) rfl (fun t37 hg => ?_)
    refine stepM (v := (.int .i64 0)) (by first | exact .inl rfl | exact .inr rfl) (wanted_none rfl) rfl rfl ?_
    refine stepEnd ?_
    refine thenN ?_
    refine wp_block ?_
    obtain ⟨I, m0, hI0, hround⟩ := hg
    refine wp_loop_m (fun m a w' => ∃ (x8_1 : Value) (x9_1 : Value) (x38 : Value) (f : Nat → Value), a = mk 72 (ovr [(8, x8_1), (9, x9_1), (38, x38), (0, v0), (1, v1), (7, t17), (36, t36), (37, t37)] f) ∧ SameW w w' ∧ I m x8_1 x9_1 x38 w'.heap) m0 ⟨x8, t33, (.int .i64 0), _, mk_ovr ⟨rfl, rfl, rfl, rfl, rfl, rfl, rfl, rfl, trivial⟩, hs, by rw [hw]; exact hI0⟩ ?_
    rintro m _ wl ⟨x8_1, x9_1, x38, f, rfl, hs, hI⟩
    obtain ⟨h_3, hw⟩ : ∃ h', wl.heap = h' := ⟨_, rfl⟩
    rw [hw] at hI
    have hg := hround m _ _ _ _ hI
    clear hround hI hI0
    refine wp_seq ?_
    refine region_seq ?_
    refine stepP rfl (by exact hg) (wanted_none rfl) rfl (fun t39 hg => ?_)
    refine stepEnd ?_
    refine thenN ?_
    refine wp_seq ?_
    refine codeCond hg rfl (fun hb hg1 => ?_) (fun hb hg1 => ?_)
    · clear hg; subst hb; have hg := hg1; clear hg1
      refine wp_skip ?_
      refine thenN ?_
      refine wp_seq_k (fun K_k hK_k => ?_)
      obtain ⟨k, hk, hg⟩ := join_elim hg
      have hj_k : ∀ (x8_2 x9_2 : Value) (h_4 : Heap) (w' : World), w'.heap = h_4 → SameW w w' → k x8_2 x9_2 h_4 → ∀ f, K_k (mk 72 (ovr [(8, x8_2), (9, x9_2), (0, v0), (1, v1), (7, t17), (36, t36), (37, t37), (38, x38)] f)) w' := by
        intro x8_2 x9_2 h_4 wj hw hs hg f
        rw [hk] at hg
        refine hK_k _ _ ?_
        refine region_seq ?_
        refine stepP rfl (by exact hg) (wanted_none rfl) rfl (fun t68 hg => ?_)
        refine stepM (v := t68) (by first | exact .inl rfl | exact .inr rfl) (wanted_none rfl) rfl rfl ?_
        refine stepEnd ?_
        obtain ⟨m', hlt, hI⟩ := hg
        exact thenN ⟨m', hlt, x8_2, x9_2, t68, _, mk_ovr ⟨rfl, rfl, rfl, rfl, rfl, rfl, rfl, rfl, trivial⟩, hs, by rw [hw]; exact hI⟩
      clear hk hK_k
      refine wp_block ?_
      refine wp_seq ?_
      refine region_seq ?_
      refine stepP rfl (by exact hg) (wanted_none rfl) rfl (fun t40 hg => ?_)
      refine stepQ rfl (by exact hg) hw (wanted_none rfl) rfl (fun t41 hg => ?_)
      refine stepM (v := t41) (by first | exact .inl rfl | exact .inr rfl) (wanted_none rfl) rfl rfl ?_
      refine stepEnd ?_
      refine thenN ?_
      refine wp_seq ?_
      refine wp_seq ?_
      refine region_seq ?_
      refine stepM (v := v0) (by first | exact .inl rfl | exact .inr rfl) (wanted_none rfl) rfl rfl ?_
      refine stepM (v := t41) (by first | exact .inl rfl | exact .inr rfl) (wanted_none rfl) rfl rfl ?_
      refine stepQ rfl (by exact hg) hw (wanted_none rfl) rfl (fun t45 hg => ?_)
      refine stepM (v := t45) (by first | exact .inl rfl | exact .inr rfl) (wanted_none rfl) rfl rfl ?_
      refine stepP rfl (by exact hg) (wanted_none rfl) rfl (fun t46 hg => ?_)
      refine stepP rfl (by exact hg) (wanted_none rfl) rfl (fun t47 hg => ?_)
      refine stepM (v := t46) (by first | exact .inl rfl | exact .inr rfl) (wanted_none rfl) rfl rfl ?_
      refine stepM (v := t47) (by first | exact .inl rfl | exact .inr rfl) (wanted_none rfl) rfl rfl ?_
      refine stepEnd ?_
      refine thenN ?_
      refine wp_seq ?_
      refine region_seq ?_
      refine stepM (v := t47) (by first | exact .inl rfl | exact .inr rfl) (wanted_none rfl) rfl rfl ?_
      refine stepP rfl (by exact hg) (wanted_none rfl) rfl (fun t49 hg => ?_)
      refine stepEnd ?_
      refine thenN ?_
      refine codeCond hg rfl (fun hb hg1 => ?_) (fun hb hg1 => ?_)
      · clear hg; subst hb; have hg := hg1; clear hg1
        refine wp_exit ?_
        refine thenE ?_
        refine blkE ?_
        refine thenN ?_
        exact at_ovr (hj_k x8_1 x9_1 h_3 _ hw hs hg) ⟨rfl, rfl, rfl, rfl, rfl, rfl, rfl, rfl, trivial⟩
      · clear hg; subst hb; have hg := hg1; clear hg1
        refine wp_skip ?_
        refine thenN ?_
        refine wp_seq ?_
        refine wp_seq ?_
        refine region_seq ?_
        refine stepM (v := t17) (by first | exact .inl rfl | exact .inr rfl) (wanted_none rfl) rfl rfl ?_
        refine stepM (v := t41) (by first | exact .inl rfl | exact .inr rfl) (wanted_none rfl) rfl rfl ?_
        refine stepQ rfl (by exact hg) hw (wanted_none rfl) rfl (fun t53 hg => ?_)
        refine stepM (v := t53) (by first | exact .inl rfl | exact .inr rfl) (wanted_none rfl) rfl rfl ?_
        refine stepP rfl (by exact hg) (wanted_none rfl) rfl (fun t54 hg => ?_)
        refine stepP rfl (by exact hg) (wanted_none rfl) rfl (fun t55 hg => ?_)
        refine stepX rfl (by exact hg) hw (wanted_none rfl) rfl (fun t15 h_5 wh_5 hw hs1 hg => ?_)
        have hs := hs.trans hs1
        clear hs1
        refine stepU rfl (by exact hg) hw (wanted_none rfl) rfl (fun _ h_6 wh_6 hw hs1 hg => ?_)
        have hs := hs.trans hs1
        clear hs1
        refine stepM (v := t55) (by first | exact .inl rfl | exact .inr rfl) (wanted_none rfl) rfl rfl ?_
        refine stepEnd ?_
        refine thenN ?_
        refine wp_seq ?_
        refine region_seq ?_
        refine stepM (v := t55) (by first | exact .inl rfl | exact .inr rfl) (wanted_none rfl) rfl rfl ?_
        refine stepEnd ?_
        refine thenN ?_
        refine codeCond hg rfl (fun hb hg1 => ?_) (fun hb hg1 => ?_)
        · clear hg; subst hb; have hg := hg1; clear hg1
          refine wp_exit ?_
          refine thenE ?_
          refine blkE ?_
          refine thenN ?_
          exact at_ovr (hj_k x8_1 x9_1 h_6 _ hw hs hg) ⟨rfl, rfl, rfl, rfl, rfl, rfl, rfl, rfl, trivial⟩
        · clear hg; subst hb; have hg := hg1; clear hg1
          refine wp_skip ?_
          refine thenN ?_
          refine wp_seq ?_
          refine region_seq ?_
          refine stepM (v := t17) (by first | exact .inl rfl | exact .inr rfl) (wanted_none rfl) rfl rfl ?_
          refine stepM (v := t41) (by first | exact .inl rfl | exact .inr rfl) (wanted_none rfl) rfl rfl ?_
          refine stepP (ex_build rfl) (by exact hg) (wanted_none rfl) rfl (fun t59 hg => ?_)
          refine stepU rfl (by exact hg) hw (wanted_none rfl) rfl (fun _ h_7 wh_7 hw hs1 hg => ?_)
          have hs := hs.trans hs1
          clear hs1
          refine stepEnd ?_
          refine thenN ?_
          refine wp_seq ?_
          refine region_seq ?_
          refine stepM (v := x8_1) (by first | exact .inl rfl | exact .inr rfl) (wanted_none rfl) rfl rfl ?_
          refine stepM (v := t41) (by first | exact .inl rfl | exact .inr rfl) (wanted_none rfl) rfl rfl ?_
          refine stepX (ex_buildSlice rfl) (by exact hg) hw (wanted_none rfl) rfl (fun t62 h_8 wh_8 hw hs1 hg => ?_)
          have hs := hs.trans hs1
          clear hs1
          refine stepX (ex_blt rfl) (by exact hg) hw (wanted_none rfl) rfl (fun t63 h_9 wh_9 hw hs1 hg => ?_)
          have hs := hs.trans hs1
          clear hs1
          refine stepM (v := t63) (by first | exact .inl rfl | exact .inr rfl) (wanted_none rfl) rfl rfl ?_
          refine stepEnd ?_
          refine thenN ?_
          refine region_seq ?_
          refine stepM (v := x9_1) (by first | exact .inl rfl | exact .inr rfl) (wanted_none rfl) rfl rfl ?_
          refine stepM (v := t41) (by first | exact .inl rfl | exact .inr rfl) (wanted_none rfl) rfl rfl ?_
          refine stepX (ex_buildSlice rfl) (by exact hg) hw (wanted_none rfl) rfl (fun t66 h_10 wh_10 hw hs1 hg => ?_)
          have hs := hs.trans hs1
          clear hs1
          refine stepX (ex_blt rfl) (by exact hg) hw (wanted_none rfl) rfl (fun t67 h_11 wh_11 hw hs1 hg => ?_)
          have hs := hs.trans hs1
          clear hs1
          refine stepM (v := t67) (by first | exact .inl rfl | exact .inr rfl) (wanted_none rfl) rfl rfl ?_
          refine stepEnd ?_
          refine blkN ?_
          refine thenN ?_
          exact at_ovr (hj_k t63 t67 h_11 _ hw hs hg) ⟨rfl, rfl, rfl, rfl, rfl, rfl, rfl, rfl, trivial⟩
    · clear hg; subst hb; have hg := hg1; clear hg1
      refine wp_exit ?_
      refine thenE ?_
      refine thenE ?_
      refine blkE ?_
      refine blkN ?_
      obtain ⟨m', hlt, hI⟩ := hg
      exact thenN ⟨m', hlt, x8_1, x9_1, _, mk_ovr ⟨rfl, rfl, rfl, rfl, rfl, trivial⟩, hs, by rw [hw]; exact hI⟩
  · clear hg; subst hb; have hg := hg1; clear hg1
    refine wp_exit ?_
    refine thenE ?_
    refine thenE ?_
    refine blkE ?_
    refine thenN ?_
    refine wp_seq ?_
    refine region_seq ?_
    refine stepM (v := x8) (by first | exact .inl rfl | exact .inr rfl) (wanted_none rfl) rfl rfl ?_
    refine stepX (ex_call rfl) (by exact hg) hw (wanted_none rfl) rfl (fun t70 h_12 wh_12 hw hs1 hg => ?_)
    have hs := hs.trans hs1
    clear hs1
    refine stepEnd ?_
    refine thenN ?_
    refine wp_seq ?_
    refine region_seq ?_
    refine stepM (v := x8) (by first | exact .inl rfl | exact .inr rfl) (wanted_none rfl) rfl rfl ?_
    refine stepM (v := x8) (by first | exact .inl rfl | exact .inr rfl) (wanted_none rfl) rfl rfl ?_
    refine stepEnd ?_
    refine thenN ?_
    refine wp_ret ?_
    exact post_ret (res_tmp Try.results19 rfl rfl) ⟨_, rfl, hs, by rw [hw]; exact hg⟩

end Go.Proofs.Ytfhbpghgcgmegaa
