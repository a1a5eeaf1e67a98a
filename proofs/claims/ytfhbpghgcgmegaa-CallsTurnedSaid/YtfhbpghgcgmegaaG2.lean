/- Shallow forms of functions and their certificates, printed by gen.py. -/
import Derived.Test.YtfhbpghgcgmegaaRows
import Derived.Test.YtfhbpghgcgmegaaSh
set_option linter.unusedVariables false
set_option linter.unusedSimpArgs false
namespace Go.Proofs.Ytfhbpghgcgmegaa
open Go Go.Sh
attribute [local irreducible] Go.wpQuiet Go.wpList Go.Sh.mixL Go.Sh.mixF Go.Sh.wpAnyE Go.Code.wp

/-- augur/calls.reversed -/
def g_calls_reversed (v0 : Value) (h : Heap) (R : Value → Heap → Prop) : Prop :=
  oLen Try.prog #[41] 3 v0 fun t9 =>
  oMkSlice Try.prog 41 t9 t9 h fun t10 h => 
  oLen Try.prog #[41] 3 v0 fun t12 =>
  loop1 (.int .i64 0) h fun x13 h_1 next =>
   oBin Try.prog .lss 3 (.tmp 13) (.tmp 12) x13 t12 fun t14 =>
   cond t14
    (oIdx Try.prog 41 v0 x13 fun t16 =>
    oLoad Try.prog 43 t16 (Eq h_1) fun t17 =>
    oLen Try.prog #[43] 3 t17 fun t19 =>
    loop1 (.int .i64 0) h_1 fun x20 h_2 next_1 =>
     oBin Try.prog .lss 3 (.tmp 20) (.tmp 19) x20 t19 fun t21 =>
     cond t21
      (oIdx Try.prog 43 t17 x20 fun t22 =>
      oLoad Try.prog 3 t22 (Eq h_2) fun t23 =>
      oIdx Try.prog 41 t10 t23 fun t28 =>
      oLoad Try.prog 43 t28 (Eq h_2) fun t29 =>
      oBuildSlice Try.prog 43 1 #[(0, x13)] h_2 fun t31 h_3 => 
      oAppend Try.prog #[43, 43] 43 #[t29, t31] h_3 fun t32 h_4 => 
      oIdx Try.prog 41 t10 t23 fun t33 =>
      oStore Try.prog 43 t33 t32 h_4 fun _ h_5 => 
      oBin Try.prog .add 3 (.tmp 20) (.const (.int .i64 1)) x20 (.int .i64 1) fun t34 =>
      next_1 t34 h_5)
      (oBin Try.prog .add 3 (.tmp 13) (.const (.int .i64 1)) x13 (.int .i64 1) fun t35 =>
      next t35 h_2))
    (R t10 h_1)

set_option maxRecDepth 100000 in
set_option maxHeartbeats 2000000 in
theorem sh_calls_reversed {v0 : Value} {h : Heap} {R : Value → Heap → Prop} (hg : g_calls_reversed v0 h R) : HC Try.prog 22 #[v0] h R := by
  refine hc_of_wp (n := 37) (f := ovr [(0, v0)] fun _ => undef) Try.func22 rfl rfl (by kernel_rfl) (fun w hw => ?_)
  have hs := SameW.refl w
  unfold g_calls_reversed at hg
  refine wp_seq ?_
  refine region_seq ?_
  refine stepM (v := (.slice none 0 0)) (by first | exact .inl rfl | exact .inr rfl) (wanted_none rfl) rfl rfl ?_
  refine stepEnd ?_
  refine thenN ?_
  refine wp_seq ?_
  refine region_seq ?_
  refine stepM (v := v0) (by first | exact .inl rfl | exact .inr rfl) (wanted_none rfl) rfl rfl ?_
  refine stepP (ex_blt rfl) (by exact hg) (wanted_none rfl) rfl (fun t9 hg => ?_)
  refine stepX rfl (by exact hg) hw (wanted_none rfl) rfl (fun t10 h wh hw hs1 hg => ?_)
  have hs := hs.trans hs1
  clear hs1
  refine stepM (v := t10) (by first | exact .inl rfl | exact .inr rfl) (wanted_none rfl) rfl rfl ?_
  refine stepEnd ?_
  refine thenN ?_
  refine wp_seq ?_
  refine wp_seq ?_
  refine region_seq ?_
  refine stepM (v := v0) (by first | exact .inl rfl | exact .inr rfl) (wanted_none rfl) rfl rfl ?_
  refine stepP (ex_blt rfl) (by exact hg) (wanted_none rfl) rfl (fun t12 hg => ?_)
  refine stepM (v := (.int .i64 0)) (by first | exact .inl rfl | exact .inr rfl) (wanted_none rfl) rfl rfl ?_
  refine stepEnd ?_
  refine thenN ?_
  refine wp_block ?_
  obtain ⟨I, m0, hI0, hround⟩ := hg
  refine wp_loop_m (fun m a w' => ∃ (x13 : Value) (f : Nat → Value), a = mk 37 (ovr [(13, x13), (3, t10), (11, v0), (12, t12)] f) ∧ SameW w w' ∧ I m x13 w'.heap) m0 ⟨(.int .i64 0), _, mk_ovr ⟨rfl, rfl, rfl, rfl, trivial⟩, hs, by rw [hw]; exact hI0⟩ ?_
  rintro m _ wl ⟨x13, f, rfl, hs, hI⟩
  obtain ⟨h_1, hw⟩ : ∃ h', wl.heap = h' := ⟨_, rfl⟩
  rw [hw] at hI
  have hg := hround m _ _ hI
  clear hround hI hI0
  refine wp_seq ?_
  refine region_seq ?_
  refine stepP rfl (by exact hg) (wanted_none rfl) rfl (fun t14 hg => ?_)
  refine stepEnd ?_
  refine thenN ?_
  refine wp_seq ?_
  refine codeCond hg rfl (fun hb hg1 => ?_) (fun hb hg1 => ?_)
  · clear hg; subst hb; have hg := hg1; clear hg1
    refine wp_skip ?_
    refine thenN ?_
    refine wp_seq ?_
    refine wp_block ?_
    refine wp_seq ?_
    refine region_seq ?_
    refine stepM (v := x13) (by first | exact .inl rfl | exact .inr rfl) (wanted_none rfl) rfl rfl ?_
    refine stepP rfl (by exact hg) (wanted_none rfl) rfl (fun t16 hg => ?_)
    refine stepQ rfl (by exact hg) hw (wanted_none rfl) rfl (fun t17 hg => ?_)
    refine stepM (v := x13) (by first | exact .inl rfl | exact .inr rfl) (wanted_none rfl) rfl rfl ?_
    refine stepM (v := t17) (by first | exact .inl rfl | exact .inr rfl) (wanted_none rfl) rfl rfl ?_
    refine stepEnd ?_
    refine thenN ?_
    refine wp_seq ?_
    refine region_seq ?_
    refine stepM (v := t17) (by first | exact .inl rfl | exact .inr rfl) (wanted_none rfl) rfl rfl ?_
    refine stepP (ex_blt rfl) (by exact hg) (wanted_none rfl) rfl (fun t19 hg => ?_)
    refine stepM (v := (.int .i64 0)) (by first | exact .inl rfl | exact .inr rfl) (wanted_none rfl) rfl rfl ?_
    refine stepEnd ?_
    refine thenN ?_
    refine wp_block ?_
    obtain ⟨I, m0, hI0, hround⟩ := hg
    refine wp_loop_m (fun m a w' => ∃ (x20 : Value) (f : Nat → Value), a = mk 37 (ovr [(20, x20), (3, t10), (4, x13), (11, v0), (12, t12), (13, x13), (18, t17), (19, t19)] f) ∧ SameW w w' ∧ I m x20 w'.heap) m0 ⟨(.int .i64 0), _, mk_ovr ⟨rfl, rfl, rfl, rfl, rfl, rfl, rfl, rfl, trivial⟩, hs, by rw [hw]; exact hI0⟩ ?_
    rintro m _ wl ⟨x20, f, rfl, hs, hI⟩
    obtain ⟨h_2, hw⟩ : ∃ h', wl.heap = h' := ⟨_, rfl⟩
    rw [hw] at hI
    have hg := hround m _ _ hI
    clear hround hI hI0
    refine wp_seq ?_
    refine region_seq ?_
    refine stepP rfl (by exact hg) (wanted_none rfl) rfl (fun t21 hg => ?_)
    refine stepEnd ?_
    refine thenN ?_
    refine wp_seq ?_
    refine codeCond hg rfl (fun hb hg1 => ?_) (fun hb hg1 => ?_)
    · clear hg; subst hb; have hg := hg1; clear hg1
      refine wp_skip ?_
      refine thenN ?_
      refine wp_seq ?_
      refine wp_block ?_
      refine wp_seq ?_
      refine region_seq ?_
      refine stepP rfl (by exact hg) (wanted_none rfl) rfl (fun t22 hg => ?_)
      refine stepQ rfl (by exact hg) hw (wanted_none rfl) rfl (fun t23 hg => ?_)
      refine stepM (v := t23) (by first | exact .inl rfl | exact .inr rfl) (wanted_none rfl) rfl rfl ?_
      refine stepEnd ?_
      refine thenN ?_
      refine region_seq ?_
      refine stepM (v := t10) (by first | exact .inl rfl | exact .inr rfl) (wanted_none rfl) rfl rfl ?_
      refine stepM (v := t23) (by first | exact .inl rfl | exact .inr rfl) (wanted_none rfl) rfl rfl ?_
      refine stepM (v := t10) (by first | exact .inl rfl | exact .inr rfl) (wanted_none rfl) rfl rfl ?_
      refine stepM (v := t23) (by first | exact .inl rfl | exact .inr rfl) (wanted_none rfl) rfl rfl ?_
      refine stepP rfl (by exact hg) (wanted_none rfl) rfl (fun t28 hg => ?_)
      refine stepQ rfl (by exact hg) hw (wanted_none rfl) rfl (fun t29 hg => ?_)
      refine stepM (v := x13) (by first | exact .inl rfl | exact .inr rfl) (wanted_none rfl) rfl rfl ?_
      refine stepX (ex_buildSlice rfl) (by exact hg) hw (wanted_none rfl) rfl (fun t31 h_3 wh_3 hw hs1 hg => ?_)
      have hs := hs.trans hs1
      clear hs1
      refine stepX (ex_blt rfl) (by exact hg) hw (wanted_none rfl) rfl (fun t32 h_4 wh_4 hw hs1 hg => ?_)
      have hs := hs.trans hs1
      clear hs1
      refine stepP rfl (by exact hg) (wanted_none rfl) rfl (fun t33 hg => ?_)
      refine stepU rfl (by exact hg) hw (wanted_none rfl) rfl (fun _ h_5 wh_5 hw hs1 hg => ?_)
      have hs := hs.trans hs1
      clear hs1
      refine stepEnd ?_
      refine blkN ?_
      refine thenN ?_
      refine region_seq ?_
      refine stepP rfl (by exact hg) (wanted_none rfl) rfl (fun t34 hg => ?_)
      refine stepM (v := t34) (by first | exact .inl rfl | exact .inr rfl) (wanted_none rfl) rfl rfl ?_
      refine stepEnd ?_
      obtain ⟨m', hlt, hI⟩ := hg
      exact thenN ⟨m', hlt, t34, _, mk_ovr ⟨rfl, rfl, rfl, rfl, rfl, rfl, rfl, rfl, trivial⟩, hs, by rw [hw]; exact hI⟩
    · clear hg; subst hb; have hg := hg1; clear hg1
      refine wp_exit ?_
      refine thenE ?_
      refine thenE ?_
      refine blkE ?_
      refine blkN ?_
      refine thenN ?_
      refine region_seq ?_
      refine stepP rfl (by exact hg) (wanted_none rfl) rfl (fun t35 hg => ?_)
      refine stepM (v := t35) (by first | exact .inl rfl | exact .inr rfl) (wanted_none rfl) rfl rfl ?_
      refine stepEnd ?_
      obtain ⟨m', hlt, hI⟩ := hg
      exact thenN ⟨m', hlt, t35, _, mk_ovr ⟨rfl, rfl, rfl, rfl, trivial⟩, hs, by rw [hw]; exact hI⟩
  · clear hg; subst hb; have hg := hg1; clear hg1
    refine wp_exit ?_
    refine thenE ?_
    refine thenE ?_
    refine blkE ?_
    refine thenN ?_
    refine wp_seq ?_
    refine region_seq ?_
    refine stepM (v := t10) (by first | exact .inl rfl | exact .inr rfl) (wanted_none rfl) rfl rfl ?_
    refine stepM (v := t10) (by first | exact .inl rfl | exact .inr rfl) (wanted_none rfl) rfl rfl ?_
    refine stepEnd ?_
    refine thenN ?_
    refine wp_ret ?_
    exact post_ret (res_tmp Try.results22 rfl rfl) ⟨_, rfl, hs, by rw [hw]; exact hg⟩

/-- augur/calls.finished -/
def g_calls_finished (v0 : Value) (h : Heap) (R : Value → Heap → Prop) : Prop :=
  oLen Try.prog #[41] 3 v0 fun t10 =>
  oMkSlice Try.prog 65 t10 t10 h fun t11 h => 
  oLen Try.prog #[41] 3 v0 fun t13 =>
  loop2 (.slice none 0 0) (.int .i64 0) h fun x4 x14 h_1 next =>
   oBin Try.prog .lss 3 (.tmp 14) (.tmp 13) x14 t13 fun t15 =>
   cond t15
    (join (fun (x4_1 : Value) (h_2 : Heap) =>
     oBin Try.prog .add 3 (.tmp 14) (.const (.int .i64 1)) x14 (.int .i64 1) fun t93 =>
     next x4_1 t93 h_2)
     fun k =>
     oIdx Try.prog 65 t11 x14 fun t19 =>
     oLoad Try.prog 4 t19 (Eq h_1) fun t20 =>
     cond t20
      (k x4 h_1)
      (oIdx Try.prog 65 t11 x14 fun t23 =>
      oStore Try.prog 4 t23 (.bool true) h_1 fun _ h_3 => 
      oBuild Try.prog 67 #[(0, x14), (1, (.int .i64 0))] fun t25 =>
      oBuildSlice Try.prog 68 1 #[(0, t25)] h_3 fun t26 h_4 => 
      loop2 x4 t26 h_4 fun x4_2 x6 h_5 next_1 =>
       oLen Try.prog #[68] 3 x6 fun t28 =>
       oBin Try.prog .gtr 3 (.tmp 28) (.const (.int .i64 0)) t28 (.int .i64 0) fun t29 =>
       cond t29
        (oLen Try.prog #[68] 3 x6 fun t32 =>
        oBin Try.prog .sub 3 (.tmp 32) (.const (.int .i64 1)) t32 (.int .i64 1) fun t33 =>
        oIdx Try.prog 68 x6 t33 fun t34 =>
        oNil Try.prog t34 fun t36 =>
        oFieldAddr Try.prog 67 t36 1 (Eq h_5) fun t37 =>
        oLoad Try.prog 3 t37 (Eq h_5) fun t38 =>
        oNil Try.prog t34 fun t41 =>
        oFieldAddr Try.prog 67 t41 0 (Eq h_5) fun t42 =>
        oLoad Try.prog 3 t42 (Eq h_5) fun t43 =>
        oIdx Try.prog 41 v0 t43 fun t44 =>
        oLoad Try.prog 43 t44 (Eq h_5) fun t45 =>
        oLen Try.prog #[43] 3 t45 fun t46 =>
        oBin Try.prog .eql 3 (.tmp 38) (.tmp 46) t38 t46 fun t47 =>
        cond t47
         (oNil Try.prog t34 fun t50 =>
         oFieldAddr Try.prog 67 t50 0 (Eq h_5) fun t51 =>
         oLoad Try.prog 3 t51 (Eq h_5) fun t52 =>
         oBuildSlice Try.prog 43 1 #[(0, t52)] h_5 fun t53 h_6 => 
         oAppend Try.prog #[43, 43] 43 #[x4_2, t53] h_6 fun t54 h_7 => 
         oLen Try.prog #[68] 3 x6 fun t57 =>
         oBin Try.prog .sub 3 (.tmp 57) (.const (.int .i64 1)) t57 (.int .i64 1) fun t58 =>
         oSlice Try.prog 68 x6 none (some t58) none fun t59 =>
         next_1 t54 t59 h_7)
         (oNil Try.prog t34 fun t62 =>
         oFieldAddr Try.prog 67 t62 0 (Eq h_5) fun t63 =>
         oLoad Try.prog 3 t63 (Eq h_5) fun t64 =>
         oIdx Try.prog 41 v0 t64 fun t65 =>
         oLoad Try.prog 43 t65 (Eq h_5) fun t66 =>
         oNil Try.prog t34 fun t68 =>
         oFieldAddr Try.prog 67 t68 1 (Eq h_5) fun t69 =>
         oLoad Try.prog 3 t69 (Eq h_5) fun t70 =>
         oIdx Try.prog 43 t66 t70 fun t71 =>
         oLoad Try.prog 3 t71 (Eq h_5) fun t72 =>
         oNil Try.prog t34 fun t74 =>
         oFieldAddr Try.prog 67 t74 1 (Eq h_5) fun t75 =>
         oLoad Try.prog 3 t75 (Eq h_5) fun t76 =>
         oBin Try.prog .add 3 (.tmp 76) (.const (.int .i64 1)) t76 (.int .i64 1) fun t77 =>
         oNil Try.prog t34 fun t78 =>
         oFieldAddr Try.prog 67 t78 1 (Eq h_5) fun t79 =>
         oStore Try.prog 3 t79 t77 h_5 fun _ h_8 => 
         oIdx Try.prog 65 t11 t72 fun t82 =>
         oLoad Try.prog 4 t82 (Eq h_8) fun t83 =>
         oUn Try.prog .not t83 fun t84 =>
         cond t84
          (oIdx Try.prog 65 t11 t72 fun t87 =>
          oStore Try.prog 4 t87 (.bool true) h_8 fun _ h_9 => 
          oBuild Try.prog 67 #[(0, t72), (1, (.int .i64 0))] fun t90 =>
          oBuildSlice Try.prog 68 1 #[(0, t90)] h_9 fun t91 h_10 => 
          oAppend Try.prog #[68, 68] 68 #[x6, t91] h_10 fun t92 h_11 => 
          next_1 x4_2 t92 h_11)
          (next_1 x4_2 x6 h_8)))
        (k x4_2 h_5)))
    (R x4 h_1)

set_option maxRecDepth 100000 in
set_option maxHeartbeats 2000000 in
theorem sh_calls_finished {v0 : Value} {h : Heap} {R : Value → Heap → Prop} (hg : g_calls_finished v0 h R) : HC Try.prog 23 #[v0] h R := by
  refine hc_of_wp (n := 95) (f := ovr [(0, v0)] fun _ => undef) Try.func23 rfl rfl (by kernel_rfl) (fun w hw => ?_)
  have hs := SameW.refl w
  unfold g_calls_finished at hg
  refine wp_seq ?_
  refine region_seq ?_
  refine stepM (v := (.slice none 0 0)) (by first | exact .inl rfl | exact .inr rfl) (wanted_none rfl) rfl rfl ?_
  refine stepEnd ?_
  refine thenN ?_
  refine wp_seq ?_
  refine region_seq ?_
  refine stepM (v := v0) (by first | exact .inl rfl | exact .inr rfl) (wanted_none rfl) rfl rfl ?_
  refine stepP (ex_blt rfl) (by exact hg) (wanted_none rfl) rfl (fun t10 hg => ?_)
  refine stepX rfl (by exact hg) hw (wanted_none rfl) rfl (fun t11 h wh hw hs1 hg => ?_)
  have hs := hs.trans hs1
  clear hs1
  refine stepM (v := t11) (by first | exact .inl rfl | exact .inr rfl) (wanted_none rfl) rfl rfl ?_
  refine stepEnd ?_
  refine thenN ?_
  refine wp_seq ?_
  refine region_seq ?_
  refine stepM (v := (.slice none 0 0)) (by first | exact .inl rfl | exact .inr rfl) (wanted_none rfl) rfl rfl ?_
  refine stepEnd ?_
  refine thenN ?_
  refine wp_seq ?_
  refine wp_seq ?_
  refine region_seq ?_
  refine stepM (v := v0) (by first | exact .inl rfl | exact .inr rfl) (wanted_none rfl) rfl rfl ?_
  refine stepP (ex_blt rfl) (by exact hg) (wanted_none rfl) rfl (fun t13 hg => ?_)
  refine stepM (v := (.int .i64 0)) (by first | exact .inl rfl | exact .inr rfl) (wanted_none rfl) rfl rfl ?_
  refine stepEnd ?_
  refine thenN ?_
  refine wp_block ?_
  obtain ⟨I, m0, hI0, hround⟩ := hg
  refine wp_loop_m (fun m a w' => ∃ (x4 : Value) (x14 : Value) (f : Nat → Value), a = mk 95 (ovr [(4, x4), (14, x14), (0, v0), (3, t11), (13, t13)] f) ∧ SameW w w' ∧ I m x4 x14 w'.heap) m0 ⟨(.slice none 0 0), (.int .i64 0), _, mk_ovr ⟨rfl, rfl, rfl, rfl, rfl, trivial⟩, hs, by rw [hw]; exact hI0⟩ ?_
  rintro m _ wl ⟨x4, x14, f, rfl, hs, hI⟩
  obtain ⟨h_1, hw⟩ : ∃ h', wl.heap = h' := ⟨_, rfl⟩
  rw [hw] at hI
  have hg := hround m _ _ _ hI
  clear hround hI hI0
  refine wp_seq ?_
  refine region_seq ?_
  refine stepP rfl (by exact hg) (wanted_none rfl) rfl (fun t15 hg => ?_)
  refine stepEnd ?_
  refine thenN ?_
  refine wp_seq ?_
  refine codeCond hg rfl (fun hb hg1 => ?_) (fun hb hg1 => ?_)
  · clear hg; subst hb; have hg := hg1; clear hg1
    refine wp_skip ?_
    refine thenN ?_
    refine wp_seq_k (fun K_k hK_k => ?_)
    obtain ⟨k, hk, hg⟩ := join_elim hg
    have hj_k : ∀ (x4_1 : Value) (h_2 : Heap) (w' : World), w'.heap = h_2 → SameW w w' → k x4_1 h_2 → ∀ f, K_k (mk 95 (ovr [(4, x4_1), (0, v0), (3, t11), (13, t13), (14, x14)] f)) w' := by
      intro x4_1 h_2 wj hw hs hg f
      rw [hk] at hg
      refine hK_k _ _ ?_
      refine region_seq ?_
      refine stepP rfl (by exact hg) (wanted_none rfl) rfl (fun t93 hg => ?_)
      refine stepM (v := t93) (by first | exact .inl rfl | exact .inr rfl) (wanted_none rfl) rfl rfl ?_
      refine stepEnd ?_
      obtain ⟨m', hlt, hI⟩ := hg
      exact thenN ⟨m', hlt, x4_1, t93, _, mk_ovr ⟨rfl, rfl, rfl, rfl, rfl, trivial⟩, hs, by rw [hw]; exact hI⟩
    clear hk hK_k
    refine wp_block ?_
    refine wp_seq ?_
    refine region_seq ?_
    refine stepM (v := x14) (by first | exact .inl rfl | exact .inr rfl) (wanted_none rfl) rfl rfl ?_
    refine stepM (v := x14) (by first | exact .inl rfl | exact .inr rfl) (wanted_none rfl) rfl rfl ?_
    refine stepEnd ?_
    refine thenN ?_
    refine wp_seq ?_
    refine wp_seq ?_
    refine region_seq ?_
    refine stepM (v := t11) (by first | exact .inl rfl | exact .inr rfl) (wanted_none rfl) rfl rfl ?_
    refine stepM (v := x14) (by first | exact .inl rfl | exact .inr rfl) (wanted_none rfl) rfl rfl ?_
    refine stepP rfl (by exact hg) (wanted_none rfl) rfl (fun t19 hg => ?_)
    refine stepQ rfl (by exact hg) hw (wanted_none rfl) rfl (fun t20 hg => ?_)
    refine stepEnd ?_
    refine thenN ?_
    refine codeCond hg rfl (fun hb hg1 => ?_) (fun hb hg1 => ?_)
    · clear hg; subst hb; have hg := hg1; clear hg1
      refine wp_exit ?_
      refine thenE ?_
      refine blkE ?_
      refine thenN ?_
      exact at_ovr (hj_k x4 h_1 _ hw hs hg) ⟨rfl, rfl, rfl, rfl, rfl, trivial⟩
    · clear hg; subst hb; have hg := hg1; clear hg1
      refine wp_skip ?_
      refine thenN ?_
      refine wp_seq ?_
      refine region_seq ?_
      refine stepM (v := t11) (by first | exact .inl rfl | exact .inr rfl) (wanted_none rfl) rfl rfl ?_
      refine stepM (v := x14) (by first | exact .inl rfl | exact .inr rfl) (wanted_none rfl) rfl rfl ?_
      refine stepP rfl (by exact hg) (wanted_none rfl) rfl (fun t23 hg => ?_)
      refine stepU rfl (by exact hg) hw (wanted_none rfl) rfl (fun _ h_3 wh_3 hw hs1 hg => ?_)
      have hs := hs.trans hs1
      clear hs1
      refine stepEnd ?_
      refine thenN ?_
      refine wp_seq ?_
      refine region_seq ?_
      refine stepM (v := x14) (by first | exact .inl rfl | exact .inr rfl) (wanted_none rfl) rfl rfl ?_
      refine stepP (ex_build rfl) (by exact hg) (wanted_none rfl) rfl (fun t25 hg => ?_)
      refine stepX (ex_buildSlice rfl) (by exact hg) hw (wanted_none rfl) rfl (fun t26 h_4 wh_4 hw hs1 hg => ?_)
      have hs := hs.trans hs1
      clear hs1
      refine stepM (v := t26) (by first | exact .inl rfl | exact .inr rfl) (wanted_none rfl) rfl rfl ?_
      refine stepEnd ?_
      refine thenN ?_
      refine wp_block ?_
      obtain ⟨I, m0, hI0, hround⟩ := hg
      refine wp_loop_m (fun m a w' => ∃ (x4_2 : Value) (x6 : Value) (f : Nat → Value), a = mk 95 (ovr [(4, x4_2), (6, x6), (0, v0), (3, t11), (13, t13), (14, x14)] f) ∧ SameW w w' ∧ I m x4_2 x6 w'.heap) m0 ⟨x4, t26, _, mk_ovr ⟨rfl, rfl, rfl, rfl, rfl, rfl, trivial⟩, hs, by rw [hw]; exact hI0⟩ ?_
      rintro m _ wl ⟨x4_2, x6, f, rfl, hs, hI⟩
      obtain ⟨h_5, hw⟩ : ∃ h', wl.heap = h' := ⟨_, rfl⟩
      rw [hw] at hI
      have hg := hround m _ _ _ hI
      clear hround hI hI0
      refine wp_seq ?_
      refine wp_seq ?_
      refine region_seq ?_
      refine stepM (v := x6) (by first | exact .inl rfl | exact .inr rfl) (wanted_none rfl) rfl rfl ?_
      refine stepP (ex_blt rfl) (by exact hg) (wanted_none rfl) rfl (fun t28 hg => ?_)
      refine stepP rfl (by exact hg) (wanted_none rfl) rfl (fun t29 hg => ?_)
      refine stepEnd ?_
      refine thenN ?_
      refine codeCond hg rfl (fun hb hg1 => ?_) (fun hb hg1 => ?_)
      · clear hg; subst hb; have hg := hg1; clear hg1
        refine wp_skip ?_
        refine thenN ?_
        refine wp_block ?_
        refine wp_seq ?_
        refine region_seq ?_
        refine stepM (v := x6) (by first | exact .inl rfl | exact .inr rfl) (wanted_none rfl) rfl rfl ?_
        refine stepM (v := x6) (by first | exact .inl rfl | exact .inr rfl) (wanted_none rfl) rfl rfl ?_
        refine stepP (ex_blt rfl) (by exact hg) (wanted_none rfl) rfl (fun t32 hg => ?_)
        refine stepP rfl (by exact hg) (wanted_none rfl) rfl (fun t33 hg => ?_)
        refine stepP rfl (by exact hg) (wanted_none rfl) rfl (fun t34 hg => ?_)
        refine stepM (v := t34) (by first | exact .inl rfl | exact .inr rfl) (wanted_none rfl) rfl rfl ?_
        refine stepEnd ?_
        refine thenN ?_
        refine wp_seq ?_
        refine wp_seq ?_
        refine region_quiet (D := Eq h_5) (by kernel_rfl) (by kernel_rfl) hw.symm ?_
        refine quietM (v := t34) (by first | exact .inl rfl | exact .inr rfl) (wanted_none rfl) rfl rfl ?_
        refine quietP rfl (by exact hg) (wanted_none rfl) rfl (fun t36 hg => ?_)
        refine quietQ rfl (by exact hg) (wanted_none rfl) rfl (fun t37 hg => ?_)
        refine quietQ rfl (by exact hg) (wanted_none rfl) rfl (fun t38 hg => ?_)
        refine quietM (v := v0) (by first | exact .inl rfl | exact .inr rfl) (wanted_none rfl) rfl rfl ?_
        refine quietM (v := t34) (by first | exact .inl rfl | exact .inr rfl) (wanted_none rfl) rfl rfl ?_
        refine quietP rfl (by exact hg) (wanted_none rfl) rfl (fun t41 hg => ?_)
        refine quietQ rfl (by exact hg) (wanted_none rfl) rfl (fun t42 hg => ?_)
        refine quietQ rfl (by exact hg) (wanted_none rfl) rfl (fun t43 hg => ?_)
        refine quietP rfl (by exact hg) (wanted_none rfl) rfl (fun t44 hg => ?_)
        refine quietQ rfl (by exact hg) (wanted_none rfl) rfl (fun t45 hg => ?_)
        refine quietP (ex_blt rfl) (by exact hg) (wanted_none rfl) rfl (fun t46 hg => ?_)
        refine quietP rfl (by exact hg) (wanted_none rfl) rfl (fun t47 hg => ?_)
        refine quietEnd (fun wq hD hs1 => ?_)
        have hw := hD.symm
        have hs := hs.trans hs1
        clear hD hs1
        refine thenN ?_
        refine codeCond hg rfl (fun hb hg1 => ?_) (fun hb hg1 => ?_)
        · clear hg; subst hb; have hg := hg1; clear hg1
          refine wp_seq ?_
          refine region_seq ?_
          refine stepM (v := x4_2) (by first | exact .inl rfl | exact .inr rfl) (wanted_none rfl) rfl rfl ?_
          refine stepM (v := t34) (by first | exact .inl rfl | exact .inr rfl) (wanted_none rfl) rfl rfl ?_
          refine stepP rfl (by exact hg) (wanted_none rfl) rfl (fun t50 hg => ?_)
          refine stepQ rfl (by exact hg) hw (wanted_none rfl) rfl (fun t51 hg => ?_)
          refine stepQ rfl (by exact hg) hw (wanted_none rfl) rfl (fun t52 hg => ?_)
          refine stepX (ex_buildSlice rfl) (by exact hg) hw (wanted_none rfl) rfl (fun t53 h_6 wh_6 hw hs1 hg => ?_)
          have hs := hs.trans hs1
          clear hs1
          refine stepX (ex_blt rfl) (by exact hg) hw (wanted_none rfl) rfl (fun t54 h_7 wh_7 hw hs1 hg => ?_)
          have hs := hs.trans hs1
          clear hs1
          refine stepM (v := t54) (by first | exact .inl rfl | exact .inr rfl) (wanted_none rfl) rfl rfl ?_
          refine stepEnd ?_
          refine thenN ?_
          refine wp_seq ?_
          refine region_seq ?_
          refine stepM (v := x6) (by first | exact .inl rfl | exact .inr rfl) (wanted_none rfl) rfl rfl ?_
          refine stepM (v := x6) (by first | exact .inl rfl | exact .inr rfl) (wanted_none rfl) rfl rfl ?_
          refine stepP (ex_blt rfl) (by exact hg) (wanted_none rfl) rfl (fun t57 hg => ?_)
          refine stepP rfl (by exact hg) (wanted_none rfl) rfl (fun t58 hg => ?_)
          refine stepP rfl (by exact hg) (wanted_none rfl) rfl (fun t59 hg => ?_)
          refine stepM (v := t59) (by first | exact .inl rfl | exact .inr rfl) (wanted_none rfl) rfl rfl ?_
          refine stepEnd ?_
          refine thenN ?_
          refine wp_exit ?_
          refine thenE ?_
          refine blkE ?_
          obtain ⟨m', hlt, hI⟩ := hg
          exact thenN ⟨m', hlt, t54, t59, _, mk_ovr ⟨rfl, rfl, rfl, rfl, rfl, rfl, trivial⟩, hs, by rw [hw]; exact hI⟩
        · clear hg; subst hb; have hg := hg1; clear hg1
          refine wp_skip ?_
          refine thenN ?_
          refine wp_seq ?_
          refine region_quiet (D := Eq h_5) (by kernel_rfl) (by kernel_rfl) hw.symm ?_
          refine quietM (v := v0) (by first | exact .inl rfl | exact .inr rfl) (wanted_none rfl) rfl rfl ?_
          refine quietM (v := t34) (by first | exact .inl rfl | exact .inr rfl) (wanted_none rfl) rfl rfl ?_
          refine quietP rfl (by exact hg) (wanted_none rfl) rfl (fun t62 hg => ?_)
          refine quietQ rfl (by exact hg) (wanted_none rfl) rfl (fun t63 hg => ?_)
          refine quietQ rfl (by exact hg) (wanted_none rfl) rfl (fun t64 hg => ?_)
          refine quietP rfl (by exact hg) (wanted_none rfl) rfl (fun t65 hg => ?_)
          refine quietQ rfl (by exact hg) (wanted_none rfl) rfl (fun t66 hg => ?_)
          refine quietM (v := t34) (by first | exact .inl rfl | exact .inr rfl) (wanted_none rfl) rfl rfl ?_
          refine quietP rfl (by exact hg) (wanted_none rfl) rfl (fun t68 hg => ?_)
          refine quietQ rfl (by exact hg) (wanted_none rfl) rfl (fun t69 hg => ?_)
          refine quietQ rfl (by exact hg) (wanted_none rfl) rfl (fun t70 hg => ?_)
          refine quietP rfl (by exact hg) (wanted_none rfl) rfl (fun t71 hg => ?_)
          refine quietQ rfl (by exact hg) (wanted_none rfl) rfl (fun t72 hg => ?_)
          refine quietM (v := t72) (by first | exact .inl rfl | exact .inr rfl) (wanted_none rfl) rfl rfl ?_
          refine quietEnd (fun wq hD hs1 => ?_)
          have hw := hD.symm
          have hs := hs.trans hs1
          clear hD hs1
          refine thenN ?_
          refine wp_seq ?_
          refine region_seq ?_
          refine stepM (v := t34) (by first | exact .inl rfl | exact .inr rfl) (wanted_none rfl) rfl rfl ?_
          refine stepP rfl (by exact hg) (wanted_none rfl) rfl (fun t74 hg => ?_)
          refine stepQ rfl (by exact hg) hw (wanted_none rfl) rfl (fun t75 hg => ?_)
          refine stepQ rfl (by exact hg) hw (wanted_none rfl) rfl (fun t76 hg => ?_)
          refine stepP rfl (by exact hg) (wanted_none rfl) rfl (fun t77 hg => ?_)
          refine stepP rfl (by exact hg) (wanted_none rfl) rfl (fun t78 hg => ?_)
          refine stepQ rfl (by exact hg) hw (wanted_none rfl) rfl (fun t79 hg => ?_)
          refine stepU rfl (by exact hg) hw (wanted_none rfl) rfl (fun _ h_8 wh_8 hw hs1 hg => ?_)
          have hs := hs.trans hs1
          clear hs1
          refine stepEnd ?_
          refine thenN ?_
          refine wp_seq ?_
          refine region_seq ?_
          refine stepM (v := t11) (by first | exact .inl rfl | exact .inr rfl) (wanted_none rfl) rfl rfl ?_
          refine stepM (v := t72) (by first | exact .inl rfl | exact .inr rfl) (wanted_none rfl) rfl rfl ?_
          refine stepP rfl (by exact hg) (wanted_none rfl) rfl (fun t82 hg => ?_)
          refine stepQ rfl (by exact hg) hw (wanted_none rfl) rfl (fun t83 hg => ?_)
          refine stepP rfl (by exact hg) (wanted_none rfl) rfl (fun t84 hg => ?_)
          refine stepEnd ?_
          refine thenN ?_
          refine codeCond hg rfl (fun hb hg1 => ?_) (fun hb hg1 => ?_)
          · clear hg; subst hb; have hg := hg1; clear hg1
            refine wp_seq ?_
            refine region_seq ?_
            refine stepM (v := t11) (by first | exact .inl rfl | exact .inr rfl) (wanted_none rfl) rfl rfl ?_
            refine stepM (v := t72) (by first | exact .inl rfl | exact .inr rfl) (wanted_none rfl) rfl rfl ?_
            refine stepP rfl (by exact hg) (wanted_none rfl) rfl (fun t87 hg => ?_)
            refine stepU rfl (by exact hg) hw (wanted_none rfl) rfl (fun _ h_9 wh_9 hw hs1 hg => ?_)
            have hs := hs.trans hs1
            clear hs1
            refine stepEnd ?_
            refine thenN ?_
            refine region_seq ?_
            refine stepM (v := x6) (by first | exact .inl rfl | exact .inr rfl) (wanted_none rfl) rfl rfl ?_
            refine stepM (v := t72) (by first | exact .inl rfl | exact .inr rfl) (wanted_none rfl) rfl rfl ?_
            refine stepP (ex_build rfl) (by exact hg) (wanted_none rfl) rfl (fun t90 hg => ?_)
            refine stepX (ex_buildSlice rfl) (by exact hg) hw (wanted_none rfl) rfl (fun t91 h_10 wh_10 hw hs1 hg => ?_)
            have hs := hs.trans hs1
            clear hs1
            refine stepX (ex_blt rfl) (by exact hg) hw (wanted_none rfl) rfl (fun t92 h_11 wh_11 hw hs1 hg => ?_)
            have hs := hs.trans hs1
            clear hs1
            refine stepM (v := t92) (by first | exact .inl rfl | exact .inr rfl) (wanted_none rfl) rfl rfl ?_
            refine stepEnd ?_
            refine blkN ?_
            obtain ⟨m', hlt, hI⟩ := hg
            exact thenN ⟨m', hlt, x4_2, t92, _, mk_ovr ⟨rfl, rfl, rfl, rfl, rfl, rfl, trivial⟩, hs, by rw [hw]; exact hI⟩
          · clear hg; subst hb; have hg := hg1; clear hg1
            refine wp_skip ?_
            refine blkN ?_
            obtain ⟨m', hlt, hI⟩ := hg
            exact thenN ⟨m', hlt, x4_2, x6, _, mk_ovr ⟨rfl, rfl, rfl, rfl, rfl, rfl, trivial⟩, hs, by rw [hw]; exact hI⟩
      · clear hg; subst hb; have hg := hg1; clear hg1
        refine wp_exit ?_
        refine thenE ?_
        refine thenE ?_
        refine blkE ?_
        refine blkN ?_
        refine thenN ?_
        exact at_ovr (hj_k x4_2 h_5 _ hw hs hg) ⟨rfl, rfl, rfl, rfl, rfl, trivial⟩
  · clear hg; subst hb; have hg := hg1; clear hg1
    refine wp_exit ?_
    refine thenE ?_
    refine thenE ?_
    refine blkE ?_
    refine thenN ?_
    refine wp_seq ?_
    refine region_seq ?_
    refine stepM (v := x4) (by first | exact .inl rfl | exact .inr rfl) (wanted_none rfl) rfl rfl ?_
    refine stepM (v := x4) (by first | exact .inl rfl | exact .inr rfl) (wanted_none rfl) rfl rfl ?_
    refine stepEnd ?_
    refine thenN ?_
    refine wp_ret ?_
    exact post_ret (res_tmp Try.results23 rfl rfl) ⟨_, rfl, hs, by rw [hw]; exact hg⟩

/-- slices.Reverse[[]int,int] -/
def g_slices_Reverse_int_int (v0 : Value) (h : Heap) (R : Value → Heap → Prop) : Prop :=
  oLen Try.prog #[43] 3 v0 fun t5 =>
  oBin Try.prog .sub 3 (.tmp 5) (.const (.int .i64 1)) t5 (.int .i64 1) fun t6 =>
  loop2 (.int .i64 0) t6 h fun x2 x3 h next =>
   oBin Try.prog .lss 3 (.tmp 7) (.tmp 8) x2 x3 fun t9 =>
   cond t9
    (oIdx Try.prog 43 v0 x3 fun t20 =>
    oLoad Try.prog 3 t20 (Eq h) fun t21 =>
    oIdx Try.prog 43 v0 x2 fun t24 =>
    oLoad Try.prog 3 t24 (Eq h) fun t25 =>
    oIdx Try.prog 43 v0 x2 fun t26 =>
    oStore Try.prog 3 t26 t21 h fun _ h_1 => 
    oIdx Try.prog 43 v0 x3 fun t27 =>
    oStore Try.prog 3 t27 t25 h_1 fun _ h_2 => 
    oBin Try.prog .add 3 (.tmp 10) (.const (.int .i64 1)) x2 (.int .i64 1) fun t11 =>
    oBin Try.prog .sub 3 (.tmp 12) (.const (.int .i64 1)) x3 (.int .i64 1) fun t13 =>
    next t11 t13 h_2)
    (R (.tuple #[]) h)

set_option maxRecDepth 100000 in
set_option maxHeartbeats 2000000 in
theorem sh_slices_Reverse_int_int {v0 : Value} {h : Heap} {R : Value → Heap → Prop} (hg : g_slices_Reverse_int_int v0 h R) : HC Try.prog 24 #[v0] h R := by
  refine hc_of_wp (n := 28) (f := ovr [(0, v0)] fun _ => undef) Try.func24 rfl rfl (by kernel_rfl) (fun w hw => ?_)
  have hs := SameW.refl w
  unfold g_slices_Reverse_int_int at hg
  refine wp_seq ?_
  refine region_seq ?_
  refine stepM (v := v0) (by first | exact .inl rfl | exact .inr rfl) (wanted_none rfl) rfl rfl ?_
  refine stepP (ex_blt rfl) (by exact hg) (wanted_none rfl) rfl (fun t5 hg => ?_)
  refine stepP rfl (by exact hg) (wanted_none rfl) rfl (fun t6 hg => ?_)
  refine stepM (v := (.int .i64 0)) (by first | exact .inl rfl | exact .inr rfl) (wanted_none rfl) rfl rfl ?_
  refine stepM (v := t6) (by first | exact .inl rfl | exact .inr rfl) (wanted_none rfl) rfl rfl ?_
  refine stepEnd ?_
  refine thenN ?_
  refine wp_block ?_
  obtain ⟨I, m0, hI0, hround⟩ := hg
  refine wp_loop_m (fun m a w' => ∃ (x2 : Value) (x3 : Value) (f : Nat → Value), a = mk 28 (ovr [(2, x2), (3, x3), (0, v0)] f) ∧ SameW w w' ∧ I m x2 x3 w'.heap) m0 ⟨(.int .i64 0), t6, _, mk_ovr ⟨rfl, rfl, rfl, trivial⟩, hs, by rw [hw]; exact hI0⟩ ?_
  rintro m _ wl ⟨x2, x3, f, rfl, hs, hI⟩
  obtain ⟨h, hw⟩ : ∃ h', wl.heap = h' := ⟨_, rfl⟩
  rw [hw] at hI
  have hg := hround m _ _ _ hI
  clear hround hI hI0
  refine wp_seq ?_
  refine wp_seq ?_
  refine region_seq ?_
  refine stepM (v := x2) (by first | exact .inl rfl | exact .inr rfl) (wanted_none rfl) rfl rfl ?_
  refine stepM (v := x3) (by first | exact .inl rfl | exact .inr rfl) (wanted_none rfl) rfl rfl ?_
  refine stepP rfl (by exact hg) (wanted_none rfl) rfl (fun t9 hg => ?_)
  refine stepEnd ?_
  refine thenN ?_
  refine codeCond hg rfl (fun hb hg1 => ?_) (fun hb hg1 => ?_)
  · clear hg; subst hb; have hg := hg1; clear hg1
    refine wp_skip ?_
    refine thenN ?_
    refine wp_seq ?_
    refine wp_block ?_
    refine region_fst (h0 := h) [0, 0, 0, 0, 0, 0, 0, 1, 0, 0, 0, 1, 0, 2, 0] (by kernel_rfl) (by kernel_rfl) (by repeat (first | exact panicOk_base | apply panicOk_then | apply panicOk_blk)) hw (fun wm hs1 hw1 => ?_)
    have hw := hw1.trans hw
    have hs := hs.trans hs1
    clear hs1 hw1
    refine fstM (v := v0) (by first | exact .inl rfl | exact .inr rfl) (wanted_none rfl) rfl rfl ?_
    refine fstM (v := x2) (by first | exact .inl rfl | exact .inr rfl) (wanted_none rfl) rfl rfl ?_
    refine fstM (v := v0) (by first | exact .inl rfl | exact .inr rfl) (wanted_none rfl) rfl rfl ?_
    refine fstM (v := x3) (by first | exact .inl rfl | exact .inr rfl) (wanted_none rfl) rfl rfl ?_
    refine fstM (v := v0) (by first | exact .inl rfl | exact .inr rfl) (wanted_none rfl) rfl rfl ?_
    refine fstM (v := x3) (by first | exact .inl rfl | exact .inr rfl) (wanted_none rfl) rfl rfl ?_
    refine fstP rfl (by exact hg) (wanted_none rfl) rfl (fun t20 hg => ?_)
    refine fstQ rfl (by exact hg) (wanted_none rfl) rfl (fun t21 hg => ?_)
    refine fstM (v := v0) (by first | exact .inl rfl | exact .inr rfl) (wanted_none rfl) rfl rfl ?_
    refine fstM (v := x2) (by first | exact .inl rfl | exact .inr rfl) (wanted_none rfl) rfl rfl ?_
    refine fstP rfl (by exact hg) (wanted_none rfl) rfl (fun t24 hg => ?_)
    refine fstQ rfl (by exact hg) (wanted_none rfl) rfl (fun t25 hg => ?_)
    refine fstP rfl (by exact hg) (wanted_none rfl) rfl (fun t26 hg => ?_)
    refine fstU rfl (by exact hg) hw (wanted_none rfl) rfl (fun _ h_1 wh_1 hw hs1 hg => ?_)
    have hs := hs.trans hs1
    clear hs1
    refine fstP rfl (by exact hg) (wanted_none rfl) rfl (fun t27 hg => ?_)
    refine fstEnd ?_
    refine stepU rfl (by exact hg) hw (wanted_none rfl) rfl (fun _ h_2 wh_2 hw hs1 hg => ?_)
    have hs := hs.trans hs1
    clear hs1
    refine stepEnd ?_
    refine blkN ?_
    refine thenN ?_
    refine region_seq ?_
    refine stepM (v := x2) (by first | exact .inl rfl | exact .inr rfl) (wanted_none rfl) rfl rfl ?_
    refine stepP rfl (by exact hg) (wanted_none rfl) rfl (fun t11 hg => ?_)
    refine stepM (v := x3) (by first | exact .inl rfl | exact .inr rfl) (wanted_none rfl) rfl rfl ?_
    refine stepP rfl (by exact hg) (wanted_none rfl) rfl (fun t13 hg => ?_)
    refine stepM (v := t11) (by first | exact .inl rfl | exact .inr rfl) (wanted_none rfl) rfl rfl ?_
    refine stepM (v := t13) (by first | exact .inl rfl | exact .inr rfl) (wanted_none rfl) rfl rfl ?_
    refine stepEnd ?_
    obtain ⟨m', hlt, hI⟩ := hg
    exact thenN ⟨m', hlt, t11, t13, _, mk_ovr ⟨rfl, rfl, rfl, trivial⟩, hs, by rw [hw]; exact hI⟩
  · clear hg; subst hb; have hg := hg1; clear hg1
    refine wp_exit ?_
    refine thenE ?_
    refine thenE ?_
    refine blkE ?_
    exact post_end (res_none Try.results24) ⟨_, rfl, hs, by rw [hw]; exact hg⟩

/-- container/heap.Init -/
def g_container_heap_Init (v0 : Value) (h : Heap) (R : Value → Heap → Prop) : Prop :=
  oInvoke Try.prog v0 "Len" #[] h fun t5 h => 
  oBin Try.prog .quo 3 (.tmp 6) (.const (.int .i64 2)) t5 (.int .i64 2) fun t7 =>
  oBin Try.prog .sub 3 (.tmp 7) (.const (.int .i64 1)) t7 (.int .i64 1) fun t8 =>
  loop1 t8 h fun x3 h_1 next =>
   oBin Try.prog .geq 3 (.tmp 9) (.const (.int .i64 0)) x3 (.int .i64 0) fun t10 =>
   cond t10
    (oCall Try.prog (.func (.func 31) #[] #[]) #[v0, x3, t5] h_1 fun t16 h_2 => 
    oBin Try.prog .sub 3 (.tmp 11) (.const (.int .i64 1)) x3 (.int .i64 1) fun t12 =>
    next t12 h_2)
    (R (.tuple #[]) h_1)

set_option maxRecDepth 100000 in
set_option maxHeartbeats 2000000 in
theorem sh_container_heap_Init {v0 : Value} {h : Heap} {R : Value → Heap → Prop} (hg : g_container_heap_Init v0 h R) : HC Try.prog 25 #[v0] h R := by
  refine hc_of_wp (n := 17) (f := ovr [(0, v0)] fun _ => undef) Try.func25 rfl rfl (by kernel_rfl) (fun w hw => ?_)
  have hs := SameW.refl w
  unfold g_container_heap_Init at hg
  refine wp_seq ?_
  refine region_seq ?_
  refine stepM (v := v0) (by first | exact .inl rfl | exact .inr rfl) (wanted_none rfl) rfl rfl ?_
  refine stepX (ex_invoke rfl) (by exact hg) hw (wanted_none rfl) rfl (fun t5 h wh hw hs1 hg => ?_)
  have hs := hs.trans hs1
  clear hs1
  refine stepM (v := t5) (by first | exact .inl rfl | exact .inr rfl) (wanted_none rfl) rfl rfl ?_
  refine stepEnd ?_
  refine thenN ?_
  refine wp_seq ?_
  refine region_seq ?_
  refine stepM (v := t5) (by first | exact .inl rfl | exact .inr rfl) (wanted_none rfl) rfl rfl ?_
  refine stepP rfl (by exact hg) (wanted_none rfl) rfl (fun t7 hg => ?_)
  refine stepP rfl (by exact hg) (wanted_none rfl) rfl (fun t8 hg => ?_)
  refine stepM (v := t8) (by first | exact .inl rfl | exact .inr rfl) (wanted_none rfl) rfl rfl ?_
  refine stepEnd ?_
  refine thenN ?_
  refine wp_block ?_
  obtain ⟨I, m0, hI0, hround⟩ := hg
  refine wp_loop_m (fun m a w' => ∃ (x3 : Value) (f : Nat → Value), a = mk 17 (ovr [(3, x3), (0, v0), (2, t5)] f) ∧ SameW w w' ∧ I m x3 w'.heap) m0 ⟨t8, _, mk_ovr ⟨rfl, rfl, rfl, trivial⟩, hs, by rw [hw]; exact hI0⟩ ?_
  rintro m _ wl ⟨x3, f, rfl, hs, hI⟩
  obtain ⟨h_1, hw⟩ : ∃ h', wl.heap = h' := ⟨_, rfl⟩
  rw [hw] at hI
  have hg := hround m _ _ hI
  clear hround hI hI0
  refine wp_seq ?_
  refine wp_seq ?_
  refine region_seq ?_
  refine stepM (v := x3) (by first | exact .inl rfl | exact .inr rfl) (wanted_none rfl) rfl rfl ?_
  refine stepP rfl (by exact hg) (wanted_none rfl) rfl (fun t10 hg => ?_)
  refine stepEnd ?_
  refine thenN ?_
  refine codeCond hg rfl (fun hb hg1 => ?_) (fun hb hg1 => ?_)
  · clear hg; subst hb; have hg := hg1; clear hg1
    refine wp_skip ?_
    refine thenN ?_
    refine wp_seq ?_
    refine wp_block ?_
    refine region_seq ?_
    refine stepM (v := v0) (by first | exact .inl rfl | exact .inr rfl) (wanted_none rfl) rfl rfl ?_
    refine stepM (v := x3) (by first | exact .inl rfl | exact .inr rfl) (wanted_none rfl) rfl rfl ?_
    refine stepM (v := t5) (by first | exact .inl rfl | exact .inr rfl) (wanted_none rfl) rfl rfl ?_
    refine stepX (ex_call rfl) (by exact hg) hw (wanted_none rfl) rfl (fun t16 h_2 wh_2 hw hs1 hg => ?_)
    have hs := hs.trans hs1
    clear hs1
    refine stepEnd ?_
    refine blkN ?_
    refine thenN ?_
    refine region_seq ?_
    refine stepM (v := x3) (by first | exact .inl rfl | exact .inr rfl) (wanted_none rfl) rfl rfl ?_
    refine stepP rfl (by exact hg) (wanted_none rfl) rfl (fun t12 hg => ?_)
    refine stepM (v := t12) (by first | exact .inl rfl | exact .inr rfl) (wanted_none rfl) rfl rfl ?_
    refine stepEnd ?_
    obtain ⟨m', hlt, hI⟩ := hg
    exact thenN ⟨m', hlt, t12, _, mk_ovr ⟨rfl, rfl, rfl, trivial⟩, hs, by rw [hw]; exact hI⟩
  · clear hg; subst hb; have hg := hg1; clear hg1
    refine wp_exit ?_
    refine thenE ?_
    refine thenE ?_
    refine blkE ?_
    exact post_end (res_none Try.results25) ⟨_, rfl, hs, by rw [hw]; exact hg⟩

/-- container/heap.Pop -/
def g_container_heap_Pop (v0 : Value) (h : Heap) (R : Value → Heap → Prop) : Prop :=
  oInvoke Try.prog v0 "Len" #[] h fun t5 h => 
  oBin Try.prog .sub 3 (.tmp 5) (.const (.int .i64 1)) t5 (.int .i64 1) fun t6 =>
  oInvoke Try.prog v0 "Swap" #[(.int .i64 0), t6] h fun t9 h_1 => 
  oCall Try.prog (.func (.func 31) #[] #[]) #[v0, (.int .i64 0), t6] h_1 fun t12 h_2 => 
  oInvoke Try.prog v0 "Pop" #[] h_2 fun t14 h_3 => 
  R t14 h_3

set_option maxRecDepth 100000 in
set_option maxHeartbeats 2000000 in
theorem sh_container_heap_Pop {v0 : Value} {h : Heap} {R : Value → Heap → Prop} (hg : g_container_heap_Pop v0 h R) : HC Try.prog 26 #[v0] h R := by
  refine hc_of_wp (n := 15) (f := ovr [(0, v0)] fun _ => undef) Try.func26 rfl rfl (by kernel_rfl) (fun w hw => ?_)
  have hs := SameW.refl w
  unfold g_container_heap_Pop at hg
  refine wp_seq ?_
  refine region_seq ?_
  refine stepM (v := .nilIface) (by first | exact .inl rfl | exact .inr rfl) (wanted_none rfl) rfl rfl ?_
  refine stepEnd ?_
  refine thenN ?_
  refine wp_seq ?_
  refine region_seq ?_
  refine stepM (v := v0) (by first | exact .inl rfl | exact .inr rfl) (wanted_none rfl) rfl rfl ?_
  refine stepX (ex_invoke rfl) (by exact hg) hw (wanted_none rfl) rfl (fun t5 h wh hw hs1 hg => ?_)
  have hs := hs.trans hs1
  clear hs1
  refine stepP rfl (by exact hg) (wanted_none rfl) rfl (fun t6 hg => ?_)
  refine stepM (v := t6) (by first | exact .inl rfl | exact .inr rfl) (wanted_none rfl) rfl rfl ?_
  refine stepEnd ?_
  refine thenN ?_
  refine wp_seq ?_
  refine region_seq ?_
  refine stepM (v := v0) (by first | exact .inl rfl | exact .inr rfl) (wanted_none rfl) rfl rfl ?_
  refine stepM (v := t6) (by first | exact .inl rfl | exact .inr rfl) (wanted_none rfl) rfl rfl ?_
  refine stepX (ex_invoke rfl) (by exact hg) hw (wanted_none rfl) rfl (fun t9 h_1 wh_1 hw hs1 hg => ?_)
  have hs := hs.trans hs1
  clear hs1
  refine stepEnd ?_
  refine thenN ?_
  refine wp_seq ?_
  refine region_seq ?_
  refine stepM (v := v0) (by first | exact .inl rfl | exact .inr rfl) (wanted_none rfl) rfl rfl ?_
  refine stepM (v := t6) (by first | exact .inl rfl | exact .inr rfl) (wanted_none rfl) rfl rfl ?_
  refine stepX (ex_call rfl) (by exact hg) hw (wanted_none rfl) rfl (fun t12 h_2 wh_2 hw hs1 hg => ?_)
  have hs := hs.trans hs1
  clear hs1
  refine stepEnd ?_
  refine thenN ?_
  refine wp_seq ?_
  refine region_seq ?_
  refine stepM (v := v0) (by first | exact .inl rfl | exact .inr rfl) (wanted_none rfl) rfl rfl ?_
  refine stepX (ex_invoke rfl) (by exact hg) hw (wanted_none rfl) rfl (fun t14 h_3 wh_3 hw hs1 hg => ?_)
  have hs := hs.trans hs1
  clear hs1
  refine stepM (v := t14) (by first | exact .inl rfl | exact .inr rfl) (wanted_none rfl) rfl rfl ?_
  refine stepEnd ?_
  refine thenN ?_
  refine wp_ret ?_
  exact post_ret (res_tmp Try.results26 rfl rfl) ⟨_, rfl, hs, by rw [hw]; exact hg⟩

/-- container/heap.Push -/
def g_container_heap_Push (v0 v1 : Value) (h : Heap) (R : Value → Heap → Prop) : Prop :=
  oInvoke Try.prog v0 "Push" #[v1] h fun t6 h => 
  oInvoke Try.prog v0 "Len" #[] h fun t9 h_1 => 
  oBin Try.prog .sub 3 (.tmp 9) (.const (.int .i64 1)) t9 (.int .i64 1) fun t10 =>
  oCall Try.prog (.func (.func 32) #[] #[]) #[v0, t10] h_1 fun t11 h_2 => 
  R (.tuple #[]) h_2

set_option maxRecDepth 100000 in
set_option maxHeartbeats 2000000 in
theorem sh_container_heap_Push {v0 v1 : Value} {h : Heap} {R : Value → Heap → Prop} (hg : g_container_heap_Push v0 v1 h R) : HC Try.prog 27 #[v0, v1] h R := by
  refine hc_of_wp (n := 12) (f := ovr [(0, v0), (1, v1)] fun _ => undef) Try.func27 rfl rfl (by kernel_rfl) (fun w hw => ?_)
  have hs := SameW.refl w
  unfold g_container_heap_Push at hg
  refine wp_seq ?_
  refine region_seq ?_
  refine stepM (v := v0) (by first | exact .inl rfl | exact .inr rfl) (wanted_none rfl) rfl rfl ?_
  refine stepM (v := v1) (by first | exact .inl rfl | exact .inr rfl) (wanted_none rfl) rfl rfl ?_
  refine stepX (ex_invoke rfl) (by exact hg) hw (wanted_none rfl) rfl (fun t6 h wh hw hs1 hg => ?_)
  have hs := hs.trans hs1
  clear hs1
  refine stepEnd ?_
  refine thenN ?_
  refine region_seq ?_
  refine stepM (v := v0) (by first | exact .inl rfl | exact .inr rfl) (wanted_none rfl) rfl rfl ?_
  refine stepM (v := v0) (by first | exact .inl rfl | exact .inr rfl) (wanted_none rfl) rfl rfl ?_
  refine stepX (ex_invoke rfl) (by exact hg) hw (wanted_none rfl) rfl (fun t9 h_1 wh_1 hw hs1 hg => ?_)
  have hs := hs.trans hs1
  clear hs1
  refine stepP rfl (by exact hg) (wanted_none rfl) rfl (fun t10 hg => ?_)
  refine stepX (ex_call rfl) (by exact hg) hw (wanted_none rfl) rfl (fun t11 h_2 wh_2 hw hs1 hg => ?_)
  have hs := hs.trans hs1
  clear hs1
  refine stepEnd ?_
  exact post_end (res_none Try.results27) ⟨_, rfl, hs, by rw [hw]; exact hg⟩

/-- container/heap.down -/
def g_container_heap_down (v0 v1 v2 : Value) (h : Heap) (R : Value → Heap → Prop) : Prop :=
  join (fun (x7 : Value) (h : Heap) =>
   oBin Try.prog .gtr 3 (.tmp 45) (.tmp 46) x7 v1 fun t47 =>
   R t47 h)
   fun k =>
   loop1 v1 h fun x7_1 h_1 next =>
    oBin Try.prog .mul 3 (.const (.int .i64 2)) (.tmp 12) (.int .i64 2) x7_1 fun t13 =>
    oBin Try.prog .add 3 (.tmp 13) (.const (.int .i64 1)) t13 (.int .i64 1) fun t14 =>
    oBin Try.prog .geq 3 (.tmp 15) (.tmp 16) t14 v2 fun t17 =>
    join (fun (x20 : Value)  =>
     oPick Try.prog t17 (.bool true) x20 fun t21 =>
     cond t21
      (k x7_1 h_1)
      (join (fun (x9 : Value) (h_2 : Heap) =>
       oInvoke Try.prog v0 "Less" #[x9, x7_1] h_2 fun t38 h_3 => 
       oUn Try.prog .not t38 fun t39 =>
       cond t39
        (k x7_1 h_3)
        (oInvoke Try.prog v0 "Swap" #[x7_1, x9] h_3 fun t43 h_4 => 
        next x9 h_4))
       fun k_2 =>
       oBin Try.prog .add 3 (.tmp 23) (.const (.int .i64 1)) t14 (.int .i64 1) fun t24 =>
       oBin Try.prog .lss 3 (.tmp 25) (.tmp 26) t24 v2 fun t27 =>
       join (fun (x32 : Value) (h_5 : Heap) =>
        oPick Try.prog t27 x32 (.bool false) fun t33 =>
        cond t33
         (k_2 t24 h_5)
         (k_2 t14 h_5))
        fun k_3 =>
       cond t27
        (oInvoke Try.prog v0 "Less" #[t24, t14] h_1 fun t32 h_6 => 
        k_3 t32 h_6)
        (k_3 undef h_1)))
     fun k_1 =>
    cond t17
     (k_1 undef)
     (oBin Try.prog .lss 3 (.tmp 19) (.const (.int .i64 0)) t14 (.int .i64 0) fun t20 =>
     k_1 t20)

set_option maxRecDepth 100000 in
set_option maxHeartbeats 2000000 in
theorem sh_container_heap_down {v0 v1 v2 : Value} {h : Heap} {R : Value → Heap → Prop} (hg : g_container_heap_down v0 v1 v2 h R) : HC Try.prog 31 #[v0, v1, v2] h R := by
  refine hc_of_wp (n := 48) (f := ovr [(0, v0), (1, v1), (2, v2)] fun _ => undef) Try.func31 rfl rfl (by kernel_rfl) (fun w hw => ?_)
  have hs := SameW.refl w
  unfold g_container_heap_down at hg
  refine wp_seq ?_
  refine region_seq ?_
  refine stepM (v := (.bool false)) (by first | exact .inl rfl | exact .inr rfl) (wanted_none rfl) rfl rfl ?_
  refine stepEnd ?_
  refine thenN ?_
  refine wp_seq ?_
  refine region_seq ?_
  refine stepM (v := v1) (by first | exact .inl rfl | exact .inr rfl) (wanted_none rfl) rfl rfl ?_
  refine stepM (v := v1) (by first | exact .inl rfl | exact .inr rfl) (wanted_none rfl) rfl rfl ?_
  refine stepEnd ?_
  refine thenN ?_
  refine wp_seq_k (fun K_k hK_k => ?_)
  obtain ⟨k, hk, hg⟩ := join_elim hg
  have hj_k : ∀ (x7 : Value) (h : Heap) (w' : World), w'.heap = h → SameW w w' → k x7 h → ∀ f, K_k (mk 48 (ovr [(7, x7), (1, v1)] f)) w' := by
    intro x7 h wj hw hs hg f
    rw [hk] at hg
    refine hK_k _ _ ?_
    refine wp_seq ?_
    refine region_seq ?_
    refine stepM (v := x7) (by first | exact .inl rfl | exact .inr rfl) (wanted_none rfl) rfl rfl ?_
    refine stepM (v := v1) (by first | exact .inl rfl | exact .inr rfl) (wanted_none rfl) rfl rfl ?_
    refine stepP rfl (by exact hg) (wanted_none rfl) rfl (fun t47 hg => ?_)
    refine stepM (v := t47) (by first | exact .inl rfl | exact .inr rfl) (wanted_none rfl) rfl rfl ?_
    refine stepEnd ?_
    refine thenN ?_
    refine wp_ret ?_
    exact post_ret (res_tmp Try.results31 rfl rfl) ⟨_, rfl, hs, by rw [hw]; exact hg⟩
  clear hk hK_k
  refine wp_block ?_
  obtain ⟨I, m0, hI0, hround⟩ := hg
  refine wp_loop_m (fun m a w' => ∃ (x7_1 : Value) (f : Nat → Value), a = mk 48 (ovr [(7, x7_1), (0, v0), (1, v1), (2, v2)] f) ∧ SameW w w' ∧ I m x7_1 w'.heap) m0 ⟨v1, _, mk_ovr ⟨rfl, rfl, rfl, rfl, trivial⟩, hs, by rw [hw]; exact hI0⟩ ?_
  rintro m _ wl ⟨x7_1, f, rfl, hs, hI⟩
  obtain ⟨h_1, hw⟩ : ∃ h', wl.heap = h' := ⟨_, rfl⟩
  rw [hw] at hI
  have hg := hround m _ _ hI
  clear hround hI hI0
  refine wp_block ?_
  refine wp_seq ?_
  refine region_seq ?_
  refine stepM (v := x7_1) (by first | exact .inl rfl | exact .inr rfl) (wanted_none rfl) rfl rfl ?_
  refine stepP rfl (by exact hg) (wanted_none rfl) rfl (fun t13 hg => ?_)
  refine stepP rfl (by exact hg) (wanted_none rfl) rfl (fun t14 hg => ?_)
  refine stepM (v := t14) (by first | exact .inl rfl | exact .inr rfl) (wanted_none rfl) rfl rfl ?_
  refine stepEnd ?_
  refine thenN ?_
  refine wp_seq ?_
  refine wp_seq ?_
  refine region_seq ?_
  refine stepM (v := t14) (by first | exact .inl rfl | exact .inr rfl) (wanted_none rfl) rfl rfl ?_
  refine stepM (v := v2) (by first | exact .inl rfl | exact .inr rfl) (wanted_none rfl) rfl rfl ?_
  refine stepP rfl (by exact hg) (wanted_none rfl) rfl (fun t17 hg => ?_)
  refine stepM (v := t17) (by first | exact .inl rfl | exact .inr rfl) (wanted_none rfl) rfl rfl ?_
  obtain ⟨k_1, hk_1, hg⟩ := join_elim hg
  refine list_join 2 (fun K_k_1 hK_k_1 => ?_)
  have hj_k_1 : ∀ (x20 : Value) (w' : World), w'.heap = h_1 → SameW w w' → k_1 x20 → ∀ f, K_k_1 (mk 48 (ovr [(20, x20), (0, v0), (1, v1), (2, v2), (7, x7_1), (8, t14), (18, t17)] f)) w' := by
    intro x20 wj hw hs hg f
    rw [hk_1] at hg
    refine hK_k_1 _ _ ?_
    refine stepP rfl (by exact hg) (wanted_none rfl) rfl (fun t21 hg => ?_)
    refine stepEnd ?_
    refine thenN ?_
    refine codeCond hg rfl (fun hb hg1 => ?_) (fun hb hg1 => ?_)
    · clear hg; subst hb; have hg := hg1; clear hg1
      refine wp_exit ?_
      refine thenE ?_
      refine blkX rfl ?_
      refine thenE ?_
      refine blkE ?_
      refine thenN ?_
      exact at_ovr (hj_k x7_1 h_1 _ hw hs hg) ⟨rfl, rfl, trivial⟩
    · clear hg; subst hb; have hg := hg1; clear hg1
      refine wp_skip ?_
      refine thenN ?_
      refine wp_seq ?_
      refine region_seq ?_
      refine stepM (v := t14) (by first | exact .inl rfl | exact .inr rfl) (wanted_none rfl) rfl rfl ?_
      refine stepM (v := t14) (by first | exact .inl rfl | exact .inr rfl) (wanted_none rfl) rfl rfl ?_
      refine stepEnd ?_
      refine thenN ?_
      refine wp_seq_k (fun K_k_2 hK_k_2 => ?_)
      obtain ⟨k_2, hk_2, hg⟩ := join_elim hg
      have hj_k_2 : ∀ (x9 : Value) (h_2 : Heap) (w' : World), w'.heap = h_2 → SameW w w' → k_2 x9 h_2 → ∀ f, K_k_2 (mk 48 (ovr [(9, x9), (0, v0), (1, v1), (2, v2), (7, x7_1)] f)) w' := by
        intro x9 h_2 wj hw hs hg f
        rw [hk_2] at hg
        refine hK_k_2 _ _ ?_
        refine wp_seq ?_
        refine wp_seq ?_
        refine region_seq ?_
        refine stepM (v := v0) (by first | exact .inl rfl | exact .inr rfl) (wanted_none rfl) rfl rfl ?_
        refine stepM (v := x9) (by first | exact .inl rfl | exact .inr rfl) (wanted_none rfl) rfl rfl ?_
        refine stepM (v := x7_1) (by first | exact .inl rfl | exact .inr rfl) (wanted_none rfl) rfl rfl ?_
        refine stepX (ex_invoke rfl) (by exact hg) hw (wanted_none rfl) rfl (fun t38 h_3 wh_3 hw hs1 hg => ?_)
        have hs := hs.trans hs1
        clear hs1
        refine stepP rfl (by exact hg) (wanted_none rfl) rfl (fun t39 hg => ?_)
        refine stepEnd ?_
        refine thenN ?_
        refine codeCond hg rfl (fun hb hg1 => ?_) (fun hb hg1 => ?_)
        · clear hg; subst hb; have hg := hg1; clear hg1
          refine wp_exit ?_
          refine thenE ?_
          refine blkX rfl ?_
          refine thenE ?_
          refine blkE ?_
          refine thenN ?_
          exact at_ovr (hj_k x7_1 h_3 _ hw hs hg) ⟨rfl, rfl, trivial⟩
        · clear hg; subst hb; have hg := hg1; clear hg1
          refine wp_skip ?_
          refine thenN ?_
          refine wp_seq ?_
          refine region_seq ?_
          refine stepM (v := v0) (by first | exact .inl rfl | exact .inr rfl) (wanted_none rfl) rfl rfl ?_
          refine stepM (v := x7_1) (by first | exact .inl rfl | exact .inr rfl) (wanted_none rfl) rfl rfl ?_
          refine stepM (v := x9) (by first | exact .inl rfl | exact .inr rfl) (wanted_none rfl) rfl rfl ?_
          refine stepX (ex_invoke rfl) (by exact hg) hw (wanted_none rfl) rfl (fun t43 h_4 wh_4 hw hs1 hg => ?_)
          have hs := hs.trans hs1
          clear hs1
          refine stepEnd ?_
          refine thenN ?_
          refine region_seq ?_
          refine stepM (v := x9) (by first | exact .inl rfl | exact .inr rfl) (wanted_none rfl) rfl rfl ?_
          refine stepM (v := x9) (by first | exact .inl rfl | exact .inr rfl) (wanted_none rfl) rfl rfl ?_
          refine stepEnd ?_
          refine blkN ?_
          obtain ⟨m', hlt, hI⟩ := hg
          exact thenN ⟨m', hlt, x9, _, mk_ovr ⟨rfl, rfl, rfl, rfl, trivial⟩, hs, by rw [hw]; exact hI⟩
      clear hk_2 hK_k_2
      refine wp_seq ?_
      refine region_seq ?_
      refine stepM (v := t14) (by first | exact .inl rfl | exact .inr rfl) (wanted_none rfl) rfl rfl ?_
      refine stepP rfl (by exact hg) (wanted_none rfl) rfl (fun t24 hg => ?_)
      refine stepM (v := t24) (by first | exact .inl rfl | exact .inr rfl) (wanted_none rfl) rfl rfl ?_
      refine stepEnd ?_
      refine thenN ?_
      refine wp_seq ?_
      refine region_seq ?_
      refine stepM (v := t24) (by first | exact .inl rfl | exact .inr rfl) (wanted_none rfl) rfl rfl ?_
      refine stepM (v := v2) (by first | exact .inl rfl | exact .inr rfl) (wanted_none rfl) rfl rfl ?_
      refine stepP rfl (by exact hg) (wanted_none rfl) rfl (fun t27 hg => ?_)
      refine stepM (v := t27) (by first | exact .inl rfl | exact .inr rfl) (wanted_none rfl) rfl rfl ?_
      obtain ⟨k_3, hk_3, hg⟩ := join_elim hg
      refine list_join 4 (fun K_k_3 hK_k_3 => ?_)
      have hj_k_3 : ∀ (x32 : Value) (h_5 : Heap) (w' : World), w'.heap = h_5 → SameW w w' → k_3 x32 h_5 → ∀ f, K_k_3 (mk 48 (ovr [(32, x32), (0, v0), (1, v1), (2, v2), (7, x7_1), (9, t14), (10, t24), (28, t27)] f)) w' := by
        intro x32 h_5 wj hw hs hg f
        rw [hk_3] at hg
        refine hK_k_3 _ _ ?_
        refine stepP rfl (by exact hg) (wanted_none rfl) rfl (fun t33 hg => ?_)
        refine stepEnd ?_
        refine thenN ?_
        refine codeCond hg rfl (fun hb hg1 => ?_) (fun hb hg1 => ?_)
        · clear hg; subst hb; have hg := hg1; clear hg1
          refine region_seq ?_
          refine stepM (v := t24) (by first | exact .inl rfl | exact .inr rfl) (wanted_none rfl) rfl rfl ?_
          refine stepM (v := t24) (by first | exact .inl rfl | exact .inr rfl) (wanted_none rfl) rfl rfl ?_
          refine stepEnd ?_
          refine thenN ?_
          exact at_ovr (hj_k_2 t24 h_5 _ hw hs hg) ⟨rfl, rfl, rfl, rfl, rfl, trivial⟩
        · clear hg; subst hb; have hg := hg1; clear hg1
          refine wp_skip ?_
          refine thenN ?_
          exact at_ovr (hj_k_2 t14 h_5 _ hw hs hg) ⟨rfl, rfl, rfl, rfl, rfl, trivial⟩
      clear hk_3 hK_k_3
      refine cond_split hg (fun hb hg1 => ?_) (fun hb hg1 => ?_)
      · clear hg; subst hb; have hg := hg1; clear hg1
        refine stepM (v := v0) (by first | exact .inl rfl | exact .inr rfl) (wanted_yes rfl rfl rfl rfl) rfl rfl ?_
        refine stepM (v := t24) (by first | exact .inl rfl | exact .inr rfl) (wanted_yes rfl rfl rfl rfl) rfl rfl ?_
        refine stepM (v := t14) (by first | exact .inl rfl | exact .inr rfl) (wanted_yes rfl rfl rfl rfl) rfl rfl ?_
        refine stepX (ex_invoke rfl) (by exact hg) hw (wanted_yes rfl rfl rfl rfl) rfl (fun t32 h_6 wh_6 hw hs1 hg => ?_)
        have hs := hs.trans hs1
        clear hs1
        refine stepEnd ?_
        refine thenN ?_
        exact at_ovr (hj_k_3 t32 h_6 _ hw hs hg) ⟨rfl, rfl, rfl, rfl, rfl, rfl, rfl, rfl, trivial⟩
      · clear hg; subst hb; have hg := hg1; clear hg1
        refine stepSkip (wanted_noT rfl rfl rfl rfl) rfl ?_
        refine stepSkip (wanted_noT rfl rfl rfl rfl) rfl ?_
        refine stepSkip (wanted_noT rfl rfl rfl rfl) rfl ?_
        refine stepSkip (wanted_noT rfl rfl rfl rfl) rfl ?_
        refine stepEnd ?_
        refine thenN ?_
        exact at_ovr (hj_k_3 undef h_1 _ hw hs hg) ⟨rfl, rfl, rfl, rfl, rfl, rfl, rfl, rfl, trivial⟩
  clear hk_1 hK_k_1
  refine cond_split hg (fun hb hg1 => ?_) (fun hb hg1 => ?_)
  · clear hg; subst hb; have hg := hg1; clear hg1
    refine stepSkip (wanted_noF rfl rfl rfl rfl) rfl ?_
    refine stepSkip (wanted_noF rfl rfl rfl rfl) rfl ?_
    refine stepEnd ?_
    refine thenN ?_
    exact at_ovr (hj_k_1 undef _ hw hs hg) ⟨rfl, rfl, rfl, rfl, rfl, rfl, rfl, trivial⟩
  · clear hg; subst hb; have hg := hg1; clear hg1
    refine stepM (v := t14) (by first | exact .inl rfl | exact .inr rfl) (wanted_yes rfl rfl rfl rfl) rfl rfl ?_
    refine stepP rfl (by exact hg) (wanted_yes rfl rfl rfl rfl) rfl (fun t20 hg => ?_)
    refine stepEnd ?_
    refine thenN ?_
    exact at_ovr (hj_k_1 t20 _ hw hs hg) ⟨rfl, rfl, rfl, rfl, rfl, rfl, rfl, trivial⟩

/-- container/heap.up -/
def g_container_heap_up (v0 v1 : Value) (h : Heap) (R : Value → Heap → Prop) : Prop :=
  loop1 v1 h fun x1 h next =>
   oBin Try.prog .sub 3 (.tmp 5) (.const (.int .i64 1)) x1 (.int .i64 1) fun t6 =>
   oBin Try.prog .quo 3 (.tmp 6) (.const (.int .i64 2)) t6 (.int .i64 2) fun t7 =>
   oBin Try.prog .eql 3 (.tmp 8) (.tmp 9) t7 x1 fun t10 =>
   join (fun (x16 : Value) (h_1 : Heap) =>
    oPick Try.prog t10 (.bool true) x16 fun t17 =>
    cond t17
     (R (.tuple #[]) h_1)
     (oInvoke Try.prog v0 "Swap" #[t7, x1] h_1 fun t21 h_2 => 
     next t7 h_2))
    fun k =>
   cond t10
    (k undef h)
    (oInvoke Try.prog v0 "Less" #[x1, t7] h fun t15 h_3 => 
    oUn Try.prog .not t15 fun t16 =>
    k t16 h_3)

set_option maxRecDepth 100000 in
set_option maxHeartbeats 2000000 in
theorem sh_container_heap_up {v0 v1 : Value} {h : Heap} {R : Value → Heap → Prop} (hg : g_container_heap_up v0 v1 h R) : HC Try.prog 32 #[v0, v1] h R := by
  refine hc_of_wp (n := 23) (f := ovr [(0, v0), (1, v1)] fun _ => undef) Try.func32 rfl rfl (by kernel_rfl) (fun w hw => ?_)
  have hs := SameW.refl w
  unfold g_container_heap_up at hg
  refine wp_block ?_
  obtain ⟨I, m0, hI0, hround⟩ := hg
  refine wp_loop_m (fun m a w' => ∃ (x1 : Value) (f : Nat → Value), a = mk 23 (ovr [(1, x1), (0, v0)] f) ∧ SameW w w' ∧ I m x1 w'.heap) m0 ⟨v1, _, mk_ovr ⟨rfl, rfl, trivial⟩, hs, by rw [hw]; exact hI0⟩ ?_
  rintro m _ wl ⟨x1, f, rfl, hs, hI⟩
  obtain ⟨h, hw⟩ : ∃ h', wl.heap = h' := ⟨_, rfl⟩
  rw [hw] at hI
  have hg := hround m _ _ hI
  clear hround hI hI0
  refine wp_block ?_
  refine wp_seq ?_
  refine region_seq ?_
  refine stepM (v := x1) (by first | exact .inl rfl | exact .inr rfl) (wanted_none rfl) rfl rfl ?_
  refine stepP rfl (by exact hg) (wanted_none rfl) rfl (fun t6 hg => ?_)
  refine stepP rfl (by exact hg) (wanted_none rfl) rfl (fun t7 hg => ?_)
  refine stepM (v := t7) (by first | exact .inl rfl | exact .inr rfl) (wanted_none rfl) rfl rfl ?_
  refine stepEnd ?_
  refine thenN ?_
  refine wp_seq ?_
  refine wp_seq ?_
  refine region_seq ?_
  refine stepM (v := t7) (by first | exact .inl rfl | exact .inr rfl) (wanted_none rfl) rfl rfl ?_
  refine stepM (v := x1) (by first | exact .inl rfl | exact .inr rfl) (wanted_none rfl) rfl rfl ?_
  refine stepP rfl (by exact hg) (wanted_none rfl) rfl (fun t10 hg => ?_)
  refine stepM (v := t10) (by first | exact .inl rfl | exact .inr rfl) (wanted_none rfl) rfl rfl ?_
  obtain ⟨k, hk, hg⟩ := join_elim hg
  refine list_join 5 (fun K_k hK_k => ?_)
  have hj_k : ∀ (x16 : Value) (h_1 : Heap) (w' : World), w'.heap = h_1 → SameW w w' → k x16 h_1 → ∀ f, K_k (mk 23 (ovr [(16, x16), (0, v0), (1, x1), (4, t7), (11, t10)] f)) w' := by
    intro x16 h_1 wj hw hs hg f
    rw [hk] at hg
    refine hK_k _ _ ?_
    refine stepP rfl (by exact hg) (wanted_none rfl) rfl (fun t17 hg => ?_)
    refine stepEnd ?_
    refine thenN ?_
    refine codeCond hg rfl (fun hb hg1 => ?_) (fun hb hg1 => ?_)
    · clear hg; subst hb; have hg := hg1; clear hg1
      refine wp_exit ?_
      refine thenE ?_
      refine blkX rfl ?_
      refine thenE ?_
      refine blkE ?_
      exact post_end (res_none Try.results32) ⟨_, rfl, hs, by rw [hw]; exact hg⟩
    · clear hg; subst hb; have hg := hg1; clear hg1
      refine wp_skip ?_
      refine thenN ?_
      refine wp_seq ?_
      refine region_seq ?_
      refine stepM (v := v0) (by first | exact .inl rfl | exact .inr rfl) (wanted_none rfl) rfl rfl ?_
      refine stepM (v := t7) (by first | exact .inl rfl | exact .inr rfl) (wanted_none rfl) rfl rfl ?_
      refine stepM (v := x1) (by first | exact .inl rfl | exact .inr rfl) (wanted_none rfl) rfl rfl ?_
      refine stepX (ex_invoke rfl) (by exact hg) hw (wanted_none rfl) rfl (fun t21 h_2 wh_2 hw hs1 hg => ?_)
      have hs := hs.trans hs1
      clear hs1
      refine stepEnd ?_
      refine thenN ?_
      refine region_seq ?_
      refine stepM (v := t7) (by first | exact .inl rfl | exact .inr rfl) (wanted_none rfl) rfl rfl ?_
      refine stepM (v := t7) (by first | exact .inl rfl | exact .inr rfl) (wanted_none rfl) rfl rfl ?_
      refine stepEnd ?_
      refine blkN ?_
      obtain ⟨m', hlt, hI⟩ := hg
      exact thenN ⟨m', hlt, t7, _, mk_ovr ⟨rfl, rfl, trivial⟩, hs, by rw [hw]; exact hI⟩
  clear hk hK_k
  refine cond_split hg (fun hb hg1 => ?_) (fun hb hg1 => ?_)
  · clear hg; subst hb; have hg := hg1; clear hg1
    refine stepSkip (wanted_noF rfl rfl rfl rfl) rfl ?_
    refine stepSkip (wanted_noF rfl rfl rfl rfl) rfl ?_
    refine stepSkip (wanted_noF rfl rfl rfl rfl) rfl ?_
    refine stepSkip (wanted_noF rfl rfl rfl rfl) rfl ?_
    refine stepSkip (wanted_noF rfl rfl rfl rfl) rfl ?_
    refine stepEnd ?_
    refine thenN ?_
    exact at_ovr (hj_k undef h _ hw hs hg) ⟨rfl, rfl, rfl, rfl, rfl, trivial⟩
  · clear hg; subst hb; have hg := hg1; clear hg1
    refine stepM (v := v0) (by first | exact .inl rfl | exact .inr rfl) (wanted_yes rfl rfl rfl rfl) rfl rfl ?_
    refine stepM (v := x1) (by first | exact .inl rfl | exact .inr rfl) (wanted_yes rfl rfl rfl rfl) rfl rfl ?_
    refine stepM (v := t7) (by first | exact .inl rfl | exact .inr rfl) (wanted_yes rfl rfl rfl rfl) rfl rfl ?_
    refine stepX (ex_invoke rfl) (by exact hg) hw (wanted_yes rfl rfl rfl rfl) rfl (fun t15 h_3 wh_3 hw hs1 hg => ?_)
    have hs := hs.trans hs1
    clear hs1
    refine stepP rfl (by exact hg) (wanted_yes rfl rfl rfl rfl) rfl (fun t16 hg => ?_)
    refine stepEnd ?_
    refine thenN ?_
    exact at_ovr (hj_k t16 h_3 _ hw hs hg) ⟨rfl, rfl, rfl, rfl, rfl, trivial⟩

/-- (augur/calls.queue).Len -/
def g_calls_queue_Len (v0 : Value) (h : Heap) (R : Value → Heap → Prop) : Prop :=
  oLen Try.prog #[54] 3 v0 fun t4 =>
  R t4 h

set_option maxRecDepth 100000 in
set_option maxHeartbeats 2000000 in
theorem sh_calls_queue_Len {v0 : Value} {h : Heap} {R : Value → Heap → Prop} (hg : g_calls_queue_Len v0 h R) : HC Try.prog 66 #[v0] h R := by
  refine hc_of_wp (n := 5) (f := ovr [(0, v0)] fun _ => undef) Try.func66 rfl rfl (by kernel_rfl) (fun w hw => ?_)
  have hs := SameW.refl w
  unfold g_calls_queue_Len at hg
  refine wp_seq ?_
  refine region_seq ?_
  refine stepM (v := (.int .i64 0)) (by first | exact .inl rfl | exact .inr rfl) (wanted_none rfl) rfl rfl ?_
  refine stepEnd ?_
  refine thenN ?_
  refine wp_seq ?_
  refine region_seq ?_
  refine stepM (v := v0) (by first | exact .inl rfl | exact .inr rfl) (wanted_none rfl) rfl rfl ?_
  refine stepP (ex_blt rfl) (by exact hg) (wanted_none rfl) rfl (fun t4 hg => ?_)
  refine stepM (v := t4) (by first | exact .inl rfl | exact .inr rfl) (wanted_none rfl) rfl rfl ?_
  refine stepEnd ?_
  refine thenN ?_
  refine wp_ret ?_
  exact post_ret (res_tmp Try.results66 rfl rfl) ⟨_, rfl, hs, by rw [hw]; exact hg⟩

/-- (augur/calls.queue).Less -/
def g_calls_queue_Less (v0 v1 v2 : Value) (h : Heap) (R : Value → Heap → Prop) : Prop :=
  oIdx Try.prog 54 v0 v1 fun t9 =>
  oLoad Try.prog 3 t9 (Eq h) fun t10 =>
  oIdx Try.prog 54 v0 v2 fun t13 =>
  oLoad Try.prog 3 t13 (Eq h) fun t14 =>
  oBin Try.prog .lss 3 (.tmp 10) (.tmp 14) t10 t14 fun t15 =>
  R t15 h

set_option maxRecDepth 100000 in
set_option maxHeartbeats 2000000 in
theorem sh_calls_queue_Less {v0 v1 v2 : Value} {h : Heap} {R : Value → Heap → Prop} (hg : g_calls_queue_Less v0 v1 v2 h R) : HC Try.prog 67 #[v0, v1, v2] h R := by
  refine hc_of_wp (n := 16) (f := ovr [(0, v0), (1, v1), (2, v2)] fun _ => undef) Try.func67 rfl rfl (by kernel_rfl) (fun w hw => ?_)
  have hs := SameW.refl w
  unfold g_calls_queue_Less at hg
  refine wp_seq ?_
  refine region_seq ?_
  refine stepM (v := (.bool false)) (by first | exact .inl rfl | exact .inr rfl) (wanted_none rfl) rfl rfl ?_
  refine stepEnd ?_
  refine thenN ?_
  refine wp_seq ?_
  refine region_quiet (D := Eq h) (by kernel_rfl) (by kernel_rfl) hw.symm ?_
  refine quietM (v := v0) (by first | exact .inl rfl | exact .inr rfl) (wanted_none rfl) rfl rfl ?_
  refine quietM (v := v1) (by first | exact .inl rfl | exact .inr rfl) (wanted_none rfl) rfl rfl ?_
  refine quietP rfl (by exact hg) (wanted_none rfl) rfl (fun t9 hg => ?_)
  refine quietQ rfl (by exact hg) (wanted_none rfl) rfl (fun t10 hg => ?_)
  refine quietM (v := v0) (by first | exact .inl rfl | exact .inr rfl) (wanted_none rfl) rfl rfl ?_
  refine quietM (v := v2) (by first | exact .inl rfl | exact .inr rfl) (wanted_none rfl) rfl rfl ?_
  refine quietP rfl (by exact hg) (wanted_none rfl) rfl (fun t13 hg => ?_)
  refine quietQ rfl (by exact hg) (wanted_none rfl) rfl (fun t14 hg => ?_)
  refine quietP rfl (by exact hg) (wanted_none rfl) rfl (fun t15 hg => ?_)
  refine quietM (v := t15) (by first | exact .inl rfl | exact .inr rfl) (wanted_none rfl) rfl rfl ?_
  refine quietEnd (fun wq hD hs1 => ?_)
  have hw := hD.symm
  have hs := hs.trans hs1
  clear hD hs1
  refine thenN ?_
  refine wp_ret ?_
  exact post_ret (res_tmp Try.results67 rfl rfl) ⟨_, rfl, hs, by rw [hw]; exact hg⟩

/-- (augur/calls.queue).Swap -/
def g_calls_queue_Swap (v0 v1 v2 : Value) (h : Heap) (R : Value → Heap → Prop) : Prop :=
  oIdx Try.prog 54 v0 v2 fun t12 =>
  oLoad Try.prog 3 t12 (Eq h) fun t13 =>
  oIdx Try.prog 54 v0 v1 fun t16 =>
  oLoad Try.prog 3 t16 (Eq h) fun t17 =>
  oIdx Try.prog 54 v0 v1 fun t18 =>
  oStore Try.prog 3 t18 t13 h fun _ h => 
  oIdx Try.prog 54 v0 v2 fun t19 =>
  oStore Try.prog 3 t19 t17 h fun _ h_1 => 
  R (.tuple #[]) h_1

set_option maxRecDepth 100000 in
set_option maxHeartbeats 2000000 in
theorem sh_calls_queue_Swap {v0 v1 v2 : Value} {h : Heap} {R : Value → Heap → Prop} (hg : g_calls_queue_Swap v0 v1 v2 h R) : HC Try.prog 68 #[v0, v1, v2] h R := by
  refine hc_of_wp (n := 20) (f := ovr [(0, v0), (1, v1), (2, v2)] fun _ => undef) Try.func68 rfl rfl (by kernel_rfl) (fun w hw => ?_)
  have hs := SameW.refl w
  unfold g_calls_queue_Swap at hg
  refine region_fst (h0 := h) [0, 0, 0, 0, 0, 0, 0, 1, 0, 0, 0, 1, 0, 2, 0] (by kernel_rfl) (by kernel_rfl) (by repeat (first | exact panicOk_base | apply panicOk_then | apply panicOk_blk)) hw (fun wm hs1 hw1 => ?_)
  have hw := hw1.trans hw
  have hs := hs.trans hs1
  clear hs1 hw1
  refine fstM (v := v0) (by first | exact .inl rfl | exact .inr rfl) (wanted_none rfl) rfl rfl ?_
  refine fstM (v := v1) (by first | exact .inl rfl | exact .inr rfl) (wanted_none rfl) rfl rfl ?_
  refine fstM (v := v0) (by first | exact .inl rfl | exact .inr rfl) (wanted_none rfl) rfl rfl ?_
  refine fstM (v := v2) (by first | exact .inl rfl | exact .inr rfl) (wanted_none rfl) rfl rfl ?_
  refine fstM (v := v0) (by first | exact .inl rfl | exact .inr rfl) (wanted_none rfl) rfl rfl ?_
  refine fstM (v := v2) (by first | exact .inl rfl | exact .inr rfl) (wanted_none rfl) rfl rfl ?_
  refine fstP rfl (by exact hg) (wanted_none rfl) rfl (fun t12 hg => ?_)
  refine fstQ rfl (by exact hg) (wanted_none rfl) rfl (fun t13 hg => ?_)
  refine fstM (v := v0) (by first | exact .inl rfl | exact .inr rfl) (wanted_none rfl) rfl rfl ?_
  refine fstM (v := v1) (by first | exact .inl rfl | exact .inr rfl) (wanted_none rfl) rfl rfl ?_
  refine fstP rfl (by exact hg) (wanted_none rfl) rfl (fun t16 hg => ?_)
  refine fstQ rfl (by exact hg) (wanted_none rfl) rfl (fun t17 hg => ?_)
  refine fstP rfl (by exact hg) (wanted_none rfl) rfl (fun t18 hg => ?_)
  refine fstU rfl (by exact hg) hw (wanted_none rfl) rfl (fun _ h wh hw hs1 hg => ?_)
  have hs := hs.trans hs1
  clear hs1
  refine fstP rfl (by exact hg) (wanted_none rfl) rfl (fun t19 hg => ?_)
  refine fstEnd ?_
  refine stepU rfl (by exact hg) hw (wanted_none rfl) rfl (fun _ h_1 wh_1 hw hs1 hg => ?_)
  have hs := hs.trans hs1
  clear hs1
  refine stepEnd ?_
  exact post_end (res_none Try.results68) ⟨_, rfl, hs, by rw [hw]; exact hg⟩

/-- (*augur/calls.queue).Pop -/
def g_calls_queue_Pop (v0 : Value) (h : Heap) (R : Value → Heap → Prop) : Prop :=
  oNil Try.prog v0 fun t6 =>
  oLoad Try.prog 54 t6 (Eq h) fun t7 =>
  oLen Try.prog #[54] 3 t7 fun t10 =>
  oBin Try.prog .sub 3 (.tmp 10) (.const (.int .i64 1)) t10 (.int .i64 1) fun t11 =>
  oIdx Try.prog 54 t7 t11 fun t12 =>
  oLoad Try.prog 3 t12 (Eq h) fun t13 =>
  oLen Try.prog #[54] 3 t7 fun t17 =>
  oBin Try.prog .sub 3 (.tmp 17) (.const (.int .i64 1)) t17 (.int .i64 1) fun t18 =>
  oSlice Try.prog 54 t7 none (some t18) none fun t19 =>
  oNil Try.prog v0 fun t20 =>
  oStore Try.prog 54 t20 t19 h fun _ h => 
  oIface Try.prog 3 t13 fun t22 =>
  R t22 h

set_option maxRecDepth 100000 in
set_option maxHeartbeats 2000000 in
theorem sh_calls_queue_Pop {v0 : Value} {h : Heap} {R : Value → Heap → Prop} (hg : g_calls_queue_Pop v0 h R) : HC Try.prog 69 #[v0] h R := by
  refine hc_of_wp (n := 23) (f := ovr [(0, v0)] fun _ => undef) Try.func69 rfl rfl (by kernel_rfl) (fun w hw => ?_)
  have hs := SameW.refl w
  unfold g_calls_queue_Pop at hg
  refine wp_seq ?_
  refine region_seq ?_
  refine stepM (v := .nilIface) (by first | exact .inl rfl | exact .inr rfl) (wanted_none rfl) rfl rfl ?_
  refine stepEnd ?_
  refine thenN ?_
  refine wp_seq ?_
  refine region_seq ?_
  refine stepM (v := v0) (by first | exact .inl rfl | exact .inr rfl) (wanted_none rfl) rfl rfl ?_
  refine stepP rfl (by exact hg) (wanted_none rfl) rfl (fun t6 hg => ?_)
  refine stepQ rfl (by exact hg) hw (wanted_none rfl) rfl (fun t7 hg => ?_)
  refine stepM (v := t7) (by first | exact .inl rfl | exact .inr rfl) (wanted_none rfl) rfl rfl ?_
  refine stepEnd ?_
  refine thenN ?_
  refine wp_seq ?_
  refine region_seq ?_
  refine stepM (v := t7) (by first | exact .inl rfl | exact .inr rfl) (wanted_none rfl) rfl rfl ?_
  refine stepM (v := t7) (by first | exact .inl rfl | exact .inr rfl) (wanted_none rfl) rfl rfl ?_
  refine stepP (ex_blt rfl) (by exact hg) (wanted_none rfl) rfl (fun t10 hg => ?_)
  refine stepP rfl (by exact hg) (wanted_none rfl) rfl (fun t11 hg => ?_)
  refine stepP rfl (by exact hg) (wanted_none rfl) rfl (fun t12 hg => ?_)
  refine stepQ rfl (by exact hg) hw (wanted_none rfl) rfl (fun t13 hg => ?_)
  refine stepM (v := t13) (by first | exact .inl rfl | exact .inr rfl) (wanted_none rfl) rfl rfl ?_
  refine stepEnd ?_
  refine thenN ?_
  refine wp_seq ?_
  refine region_seq ?_
  refine stepM (v := v0) (by first | exact .inl rfl | exact .inr rfl) (wanted_none rfl) rfl rfl ?_
  refine stepM (v := t7) (by first | exact .inl rfl | exact .inr rfl) (wanted_none rfl) rfl rfl ?_
  refine stepM (v := t7) (by first | exact .inl rfl | exact .inr rfl) (wanted_none rfl) rfl rfl ?_
  refine stepP (ex_blt rfl) (by exact hg) (wanted_none rfl) rfl (fun t17 hg => ?_)
  refine stepP rfl (by exact hg) (wanted_none rfl) rfl (fun t18 hg => ?_)
  refine stepP rfl (by exact hg) (wanted_none rfl) rfl (fun t19 hg => ?_)
  refine stepP rfl (by exact hg) (wanted_none rfl) rfl (fun t20 hg => ?_)
  refine stepU rfl (by exact hg) hw (wanted_none rfl) rfl (fun _ h wh hw hs1 hg => ?_)
  have hs := hs.trans hs1
  clear hs1
  refine stepEnd ?_
  refine thenN ?_
  refine wp_seq ?_
  refine region_seq ?_
  refine stepM (v := t13) (by first | exact .inl rfl | exact .inr rfl) (wanted_none rfl) rfl rfl ?_
  refine stepP rfl (by exact hg) (wanted_none rfl) rfl (fun t22 hg => ?_)
  refine stepM (v := t22) (by first | exact .inl rfl | exact .inr rfl) (wanted_none rfl) rfl rfl ?_
  refine stepEnd ?_
  refine thenN ?_
  refine wp_ret ?_
  exact post_ret (res_tmp Try.results69 rfl rfl) ⟨_, rfl, hs, by rw [hw]; exact hg⟩

/-- (*augur/calls.queue).Push -/
def g_calls_queue_Push (v0 v1 : Value) (h : Heap) (R : Value → Heap → Prop) : Prop :=
  oAssert Try.prog v1 20 3 true fun t8 =>
  oExt Try.prog t8 0 fun t9 =>
  oExt Try.prog t8 1 fun t10 =>
  cond t10
   (oNil Try.prog v0 fun t14 =>
   oLoad Try.prog 54 t14 (Eq h) fun t15 =>
   oBuildSlice Try.prog 54 1 #[(0, t9)] h fun t17 h => 
   oAppend Try.prog #[54, 54] 54 #[t15, t17] h fun t18 h_1 => 
   oNil Try.prog v0 fun t19 =>
   oStore Try.prog 54 t19 t18 h_1 fun _ h_2 => 
   R (.tuple #[]) h_2)
   (R (.tuple #[]) h)

set_option maxRecDepth 100000 in
set_option maxHeartbeats 2000000 in
theorem sh_calls_queue_Push {v0 v1 : Value} {h : Heap} {R : Value → Heap → Prop} (hg : g_calls_queue_Push v0 v1 h R) : HC Try.prog 70 #[v0, v1] h R := by
  refine hc_of_wp (n := 20) (f := ovr [(0, v0), (1, v1)] fun _ => undef) Try.func70 rfl rfl (by kernel_rfl) (fun w hw => ?_)
  have hs := SameW.refl w
  unfold g_calls_queue_Push at hg
  refine wp_seq ?_
  refine region_seq ?_
  refine stepM (v := v1) (by first | exact .inl rfl | exact .inr rfl) (wanted_none rfl) rfl rfl ?_
  refine stepP rfl (by exact hg) (wanted_none rfl) rfl (fun t8 hg => ?_)
  refine stepM (v := t8) (by first | exact .inl rfl | exact .inr rfl) (wanted_none rfl) rfl rfl ?_
  refine stepP rfl (by exact hg) (wanted_none rfl) rfl (fun t9 hg => ?_)
  refine stepP rfl (by exact hg) (wanted_none rfl) rfl (fun t10 hg => ?_)
  refine stepM (v := t9) (by first | exact .inl rfl | exact .inr rfl) (wanted_none rfl) rfl rfl ?_
  refine stepM (v := t10) (by first | exact .inl rfl | exact .inr rfl) (wanted_none rfl) rfl rfl ?_
  refine stepEnd ?_
  refine thenN ?_
  refine wp_seq ?_
  refine region_seq ?_
  refine stepM (v := t10) (by first | exact .inl rfl | exact .inr rfl) (wanted_none rfl) rfl rfl ?_
  refine stepEnd ?_
  refine thenN ?_
  refine codeCond hg rfl (fun hb hg1 => ?_) (fun hb hg1 => ?_)
  · clear hg; subst hb; have hg := hg1; clear hg1
    refine region_seq ?_
    refine stepM (v := v0) (by first | exact .inl rfl | exact .inr rfl) (wanted_none rfl) rfl rfl ?_
    refine stepM (v := v0) (by first | exact .inl rfl | exact .inr rfl) (wanted_none rfl) rfl rfl ?_
    refine stepP rfl (by exact hg) (wanted_none rfl) rfl (fun t14 hg => ?_)
    refine stepQ rfl (by exact hg) hw (wanted_none rfl) rfl (fun t15 hg => ?_)
    refine stepM (v := t9) (by first | exact .inl rfl | exact .inr rfl) (wanted_none rfl) rfl rfl ?_
    refine stepX (ex_buildSlice rfl) (by exact hg) hw (wanted_none rfl) rfl (fun t17 h wh hw hs1 hg => ?_)
    have hs := hs.trans hs1
    clear hs1
    refine stepX (ex_blt rfl) (by exact hg) hw (wanted_none rfl) rfl (fun t18 h_1 wh_1 hw hs1 hg => ?_)
    have hs := hs.trans hs1
    clear hs1
    refine stepP rfl (by exact hg) (wanted_none rfl) rfl (fun t19 hg => ?_)
    refine stepU rfl (by exact hg) hw (wanted_none rfl) rfl (fun _ h_2 wh_2 hw hs1 hg => ?_)
    have hs := hs.trans hs1
    clear hs1
    refine stepEnd ?_
    exact post_end (res_none Try.results70) ⟨_, rfl, hs, by rw [hw]; exact hg⟩
  · clear hg; subst hb; have hg := hg1; clear hg1
    refine wp_skip ?_
    exact post_end (res_none Try.results70) ⟨_, rfl, hs, by rw [hw]; exact hg⟩

end Go.Proofs.Ytfhbpghgcgmegaa
