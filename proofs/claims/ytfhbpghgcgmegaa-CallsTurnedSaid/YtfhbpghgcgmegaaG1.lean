/- Shallow forms of functions and their certificates, printed by gen.py. -/
import Derived.Test.YtfhbpghgcgmegaaRows
import Derived.Test.YtfhbpghgcgmegaaSh
set_option linter.unusedVariables false
set_option linter.unusedSimpArgs false
namespace Go.Proofs.Ytfhbpghgcgmegaa
open Go Go.Sh
attribute [local irreducible] Go.wpQuiet Go.wpList Go.Sh.mixL Go.Sh.mixF Go.Sh.wpAnyE Go.Code.wp

/-- augur/augurlaw11.CallsOrder -/
def g_augurlaw11_CallsOrder (v0 v1 : Value) (h : Heap) (R : Value → Heap → Prop) : Prop :=
  oCall Try.prog (.func (.func 7) #[] #[]) #[] h fun t19 h => 
  oUn Try.prog .not t19 fun t20 =>
  cond t20
   (R (.bool false) h)
   (oLen Try.prog #[22] 3 v1 fun t22 =>
   oBin Try.prog .gtr 3 (.tmp 22) (.const (.int .i64 30)) t22 (.int .i64 30) fun t23 =>
   cond t23
    (R (.bool true) h)
    (oCall Try.prog (.func (.func 8) #[] #[]) #[v0, v1] h fun t26 h_1 => 
    oCall Try.prog (.func (.func 9) #[] #[]) #[t26] h_1 fun t28 h_2 => 
    oMkMap Try.prog 28 none h_2 fun t29 h_3 => 
    loop1 (.int .i64 0) h_3 fun x8 h_4 next =>
     oLen Try.prog #[26] 3 t28 fun t32 =>
     oBin Try.prog .lss 3 (.tmp 30) (.tmp 32) x8 t32 fun t33 =>
     cond t33
      (loop1 (.int .i64 0) h_4 fun x9 h_5 next_1 =>
       oIdx Try.prog 26 t28 x8 fun t39 =>
       oLoad Try.prog 29 t39 (Eq h_5) fun t40 =>
       oLen Try.prog #[29] 3 t40 fun t41 =>
       oBin Try.prog .lss 3 (.tmp 36) (.tmp 41) x9 t41 fun t42 =>
       cond t42
        (oIdx Try.prog 26 t28 x8 fun t49 =>
        oLoad Try.prog 29 t49 (Eq h_5) fun t50 =>
        oIdx Try.prog 29 t50 x9 fun t52 =>
        oLoad Try.prog 9 t52 (Eq h_5) fun t53 =>
        oLook Try.prog 28 t29 t53 true (Eq h_5) fun t54 =>
        oExt Try.prog t54 0 fun t55 =>
        oExt Try.prog t54 1 fun t56 =>
        cond t56
         (R (.bool false) h_5)
         (oIdx Try.prog 26 t28 x8 fun t61 =>
         oLoad Try.prog 29 t61 (Eq h_5) fun t62 =>
         oIdx Try.prog 29 t62 x9 fun t64 =>
         oLoad Try.prog 9 t64 (Eq h_5) fun t65 =>
         oUpd Try.prog 28 t29 t65 x8 h_5 fun _ h_6 => 
         oBin Try.prog .add 3 (.tmp 43) (.const (.int .i64 1)) x9 (.int .i64 1) fun t44 =>
         next_1 t44 h_6))
        (oBin Try.prog .add 3 (.tmp 34) (.const (.int .i64 1)) x8 (.int .i64 1) fun t35 =>
        next t35 h_5))
      (oBin Try.prog .rem 5 (.tmp 67) (.const (.int .u8 9)) v0 (.int .u8 9) fun t68 =>
      oConv Try.prog 5 3 t68 fun t69 =>
      oBin Try.prog .add 3 (.tmp 69) (.const (.int .i64 1)) t69 (.int .i64 1) fun t70 =>
      oLenM Try.prog #[28] 3 t29 (Eq h_4) fun t72 =>
      oBin Try.prog .neq 3 (.tmp 72) (.tmp 73) t72 t70 fun t74 =>
      cond t74
       (R (.bool false) h_4)
       (loop1 (.int .i64 0) h_4 fun x13 h_7 next_2 =>
        oBin Try.prog .lss 3 (.tmp 75) (.tmp 76) x13 t70 fun t77 =>
        cond t77
         (oBin Try.prog .add 3 (.const (.int .i64 97)) (.tmp 80) (.int .i64 97) x13 fun t81 =>
         oConv Try.prog 3 5 t81 fun t82 =>
         oBuildSlice Try.prog 31 1 #[(0, t82)] h_7 fun t83 h_8 => 
         oConvX Try.prog 31 9 t83 h_8 fun t84 h_9 => 
         loop1 (.int .i64 0) h_9 fun x15 h_10 next_3 =>
          oBin Try.prog .lss 3 (.tmp 85) (.tmp 86) x15 t70 fun t87 =>
          cond t87
           (oBin Try.prog .add 3 (.const (.int .i64 97)) (.tmp 90) (.int .i64 97) x15 fun t91 =>
           oConv Try.prog 3 5 t91 fun t92 =>
           oBuildSlice Try.prog 31 1 #[(0, t92)] h_10 fun t93 h_11 => 
           oConvX Try.prog 31 9 t93 h_11 fun t94 h_12 => 
           oCall Try.prog (.func (.func 11) #[] #[]) #[t26, t84] h_12 fun t97 h_13 => 
           oCall Try.prog (.func (.func 10) #[] #[]) #[t97, t94] h_13 fun t99 h_14 => 
           oCall Try.prog (.func (.func 11) #[] #[]) #[t26, t94] h_14 fun t102 h_15 => 
           oCall Try.prog (.func (.func 10) #[] #[]) #[t102, t84] h_15 fun t104 h_16 => 
           join (fun (x113 : Value)  =>
            oPick Try.prog t99 x113 (.bool false) fun t114 =>
            join (fun (x132 : Value)  =>
             oPick Try.prog t114 (.bool true) x132 fun t133 =>
             cond t133
              (R (.bool false) h_16)
              (oBin Try.prog .add 3 (.tmp 88) (.const (.int .i64 1)) x15 (.int .i64 1) fun t89 =>
              next_3 t89 h_16))
             fun k_1 =>
            cond t114
             (k_1 undef)
             (oLook Try.prog 28 t29 t84 false (Eq h_16) fun t118 =>
             oLook Try.prog 28 t29 t94 false (Eq h_16) fun t121 =>
             oBin Try.prog .eql 3 (.tmp 118) (.tmp 121) t118 t121 fun t122 =>
             oBin Try.prog .eql 3 (.tmp 123) (.tmp 124) x13 x15 fun t125 =>
             join (fun (x130 : Value)  =>
              oPick Try.prog t125 (.bool true) x130 fun t131 =>
              oBin Try.prog .neq 4 (.tmp 122) (.tmp 131) t122 t131 fun t132 =>
              k_1 t132)
              fun k_2 =>
             cond t125
              (k_2 undef)
              (join (fun (x129 : Value)  =>
               oPick Try.prog t99 x129 (.bool false) fun t130 =>
               k_2 t130)
               fun k_3 =>
              cond t99
               (k_3 t104)
               (k_3 undef))))
            fun k =>
           cond t99
            (oLook Try.prog 28 t29 t94 false (Eq h_16) fun t109 =>
            oLook Try.prog 28 t29 t84 false (Eq h_16) fun t112 =>
            oBin Try.prog .gtr 3 (.tmp 109) (.tmp 112) t109 t112 fun t113 =>
            k t113)
            (k undef))
           (oBin Try.prog .add 3 (.tmp 78) (.const (.int .i64 1)) x13 (.int .i64 1) fun t79 =>
           next_2 t79 h_10))
         (R (.bool true) h_7)))))

set_option maxRecDepth 100000 in
set_option maxHeartbeats 2000000 in
theorem sh_augurlaw11_CallsOrder {v0 v1 : Value} {h : Heap} {R : Value → Heap → Prop} (hg : g_augurlaw11_CallsOrder v0 v1 h R) : HC Try.prog 3 #[v0, v1] h R := by
  refine hc_of_wp (n := 134) (f := ovr [(0, v0), (1, v1)] fun _ => undef) Try.func3 rfl rfl (by kernel_rfl) (fun w hw => ?_)
  have hs := SameW.refl w
  unfold g_augurlaw11_CallsOrder at hg
  refine wp_seq ?_
  refine region_seq ?_
  refine stepM (v := (.bool false)) (by first | exact .inl rfl | exact .inr rfl) (wanted_none rfl) rfl rfl ?_
  refine stepEnd ?_
  refine thenN ?_
  refine wp_seq ?_
  refine wp_seq ?_
  refine region_seq ?_
  refine stepX (ex_call rfl) (by exact hg) hw (wanted_none rfl) rfl (fun t19 h wh hw hs1 hg => ?_)
  have hs := hs.trans hs1
  clear hs1
  refine stepP rfl (by exact hg) (wanted_none rfl) rfl (fun t20 hg => ?_)
  refine stepEnd ?_
  refine thenN ?_
  refine codeCond hg rfl (fun hb hg1 => ?_) (fun hb hg1 => ?_)
  · clear hg; subst hb; have hg := hg1; clear hg1
    refine wp_seq ?_
    refine region_seq ?_
    refine stepM (v := (.bool false)) (by first | exact .inl rfl | exact .inr rfl) (wanted_none rfl) rfl rfl ?_
    refine stepEnd ?_
    refine thenN ?_
    refine wp_ret ?_
    refine thenR ?_
    exact post_ret (res_tmp Try.results3 rfl rfl) ⟨_, rfl, hs, by rw [hw]; exact hg⟩
  · clear hg; subst hb; have hg := hg1; clear hg1
    refine wp_skip ?_
    refine thenN ?_
    refine wp_seq ?_
    refine wp_seq ?_
    refine region_seq ?_
    refine stepM (v := v1) (by first | exact .inl rfl | exact .inr rfl) (wanted_none rfl) rfl rfl ?_
    refine stepP (ex_blt rfl) (by exact hg) (wanted_none rfl) rfl (fun t22 hg => ?_)
    refine stepP rfl (by exact hg) (wanted_none rfl) rfl (fun t23 hg => ?_)
    refine stepEnd ?_
    refine thenN ?_
    refine codeCond hg rfl (fun hb hg1 => ?_) (fun hb hg1 => ?_)
    · clear hg; subst hb; have hg := hg1; clear hg1
      refine wp_seq ?_
      refine region_seq ?_
      refine stepM (v := (.bool true)) (by first | exact .inl rfl | exact .inr rfl) (wanted_none rfl) rfl rfl ?_
      refine stepEnd ?_
      refine thenN ?_
      refine wp_ret ?_
      refine thenR ?_
      exact post_ret (res_tmp Try.results3 rfl rfl) ⟨_, rfl, hs, by rw [hw]; exact hg⟩
    · clear hg; subst hb; have hg := hg1; clear hg1
      refine wp_skip ?_
      refine thenN ?_
      refine wp_seq ?_
      refine region_seq ?_
      refine stepM (v := v0) (by first | exact .inl rfl | exact .inr rfl) (wanted_none rfl) rfl rfl ?_
      refine stepM (v := v1) (by first | exact .inl rfl | exact .inr rfl) (wanted_none rfl) rfl rfl ?_
      refine stepX (ex_call rfl) (by exact hg) hw (wanted_none rfl) rfl (fun t26 h_1 wh_1 hw hs1 hg => ?_)
      have hs := hs.trans hs1
      clear hs1
      refine stepM (v := t26) (by first | exact .inl rfl | exact .inr rfl) (wanted_none rfl) rfl rfl ?_
      refine stepEnd ?_
      refine thenN ?_
      refine wp_seq ?_
      refine region_seq ?_
      refine stepM (v := t26) (by first | exact .inl rfl | exact .inr rfl) (wanted_none rfl) rfl rfl ?_
      refine stepX (ex_call rfl) (by exact hg) hw (wanted_none rfl) rfl (fun t28 h_2 wh_2 hw hs1 hg => ?_)
      have hs := hs.trans hs1
      clear hs1
      refine stepM (v := t28) (by first | exact .inl rfl | exact .inr rfl) (wanted_none rfl) rfl rfl ?_
      refine stepEnd ?_
      refine thenN ?_
      refine wp_seq ?_
      refine region_seq ?_
      refine stepX rfl (by exact hg) hw (wanted_none rfl) rfl (fun t29 h_3 wh_3 hw hs1 hg => ?_)
      have hs := hs.trans hs1
      clear hs1
      refine stepM (v := t29) (by first | exact .inl rfl | exact .inr rfl) (wanted_none rfl) rfl rfl ?_
      refine stepEnd ?_
      refine thenN ?_
      refine wp_seq ?_
      refine wp_seq ?_
      refine region_seq ?_
      refine stepM (v := (.int .i64 0)) (by first | exact .inl rfl | exact .inr rfl) (wanted_none rfl) rfl rfl ?_
      refine stepEnd ?_
      refine thenN ?_
      refine wp_block ?_
      obtain ⟨I, m0, hI0, hround⟩ := hg
      refine wp_loop_m (fun m a w' => ∃ (x8 : Value) (f : Nat → Value), a = mk 134 (ovr [(8, x8), (0, v0), (5, t26), (6, t28), (7, t29)] f) ∧ SameW w w' ∧ I m x8 w'.heap) m0 ⟨(.int .i64 0), _, mk_ovr ⟨rfl, rfl, rfl, rfl, rfl, trivial⟩, hs, by rw [hw]; exact hI0⟩ ?_
      rintro m _ wl ⟨x8, f, rfl, hs, hI⟩
      obtain ⟨h_4, hw⟩ : ∃ h', wl.heap = h' := ⟨_, rfl⟩
      rw [hw] at hI
      have hg := hround m _ _ hI
      clear hround hI hI0
      refine wp_seq ?_
      refine wp_seq ?_
      refine region_seq ?_
      refine stepM (v := x8) (by first | exact .inl rfl | exact .inr rfl) (wanted_none rfl) rfl rfl ?_
      refine stepM (v := t28) (by first | exact .inl rfl | exact .inr rfl) (wanted_none rfl) rfl rfl ?_
      refine stepP (ex_blt rfl) (by exact hg) (wanted_none rfl) rfl (fun t32 hg => ?_)
      refine stepP rfl (by exact hg) (wanted_none rfl) rfl (fun t33 hg => ?_)
      refine stepEnd ?_
      refine thenN ?_
      refine codeCond hg rfl (fun hb hg1 => ?_) (fun hb hg1 => ?_)
      · clear hg; subst hb; have hg := hg1; clear hg1
        refine wp_skip ?_
        refine thenN ?_
        refine wp_seq ?_
        refine wp_block ?_
        refine wp_seq ?_
        refine region_seq ?_
        refine stepM (v := (.int .i64 0)) (by first | exact .inl rfl | exact .inr rfl) (wanted_none rfl) rfl rfl ?_
        refine stepEnd ?_
        refine thenN ?_
        refine wp_block ?_
        obtain ⟨I, m0, hI0, hround⟩ := hg
        refine wp_loop_m (fun m a w' => ∃ (x9 : Value) (f : Nat → Value), a = mk 134 (ovr [(9, x9), (0, v0), (5, t26), (6, t28), (7, t29), (8, x8)] f) ∧ SameW w w' ∧ I m x9 w'.heap) m0 ⟨(.int .i64 0), _, mk_ovr ⟨rfl, rfl, rfl, rfl, rfl, rfl, trivial⟩, hs, by rw [hw]; exact hI0⟩ ?_
        rintro m _ wl ⟨x9, f, rfl, hs, hI⟩
        obtain ⟨h_5, hw⟩ : ∃ h', wl.heap = h' := ⟨_, rfl⟩
        rw [hw] at hI
        have hg := hround m _ _ hI
        clear hround hI hI0
        refine wp_seq ?_
        refine wp_seq ?_
        refine region_seq ?_
        refine stepM (v := x9) (by first | exact .inl rfl | exact .inr rfl) (wanted_none rfl) rfl rfl ?_
        refine stepM (v := t28) (by first | exact .inl rfl | exact .inr rfl) (wanted_none rfl) rfl rfl ?_
        refine stepM (v := x8) (by first | exact .inl rfl | exact .inr rfl) (wanted_none rfl) rfl rfl ?_
        refine stepP rfl (by exact hg) (wanted_none rfl) rfl (fun t39 hg => ?_)
        refine stepQ rfl (by exact hg) hw (wanted_none rfl) rfl (fun t40 hg => ?_)
        refine stepP (ex_blt rfl) (by exact hg) (wanted_none rfl) rfl (fun t41 hg => ?_)
        refine stepP rfl (by exact hg) (wanted_none rfl) rfl (fun t42 hg => ?_)
        refine stepEnd ?_
        refine thenN ?_
        refine codeCond hg rfl (fun hb hg1 => ?_) (fun hb hg1 => ?_)
        · clear hg; subst hb; have hg := hg1; clear hg1
          refine wp_skip ?_
          refine thenN ?_
          refine wp_seq ?_
          refine wp_block ?_
          refine wp_seq ?_
          refine wp_seq ?_
          refine region_seq ?_
          refine stepM (v := t29) (by first | exact .inl rfl | exact .inr rfl) (wanted_none rfl) rfl rfl ?_
          refine stepM (v := t28) (by first | exact .inl rfl | exact .inr rfl) (wanted_none rfl) rfl rfl ?_
          refine stepM (v := x8) (by first | exact .inl rfl | exact .inr rfl) (wanted_none rfl) rfl rfl ?_
          refine stepP rfl (by exact hg) (wanted_none rfl) rfl (fun t49 hg => ?_)
          refine stepQ rfl (by exact hg) hw (wanted_none rfl) rfl (fun t50 hg => ?_)
          refine stepM (v := x9) (by first | exact .inl rfl | exact .inr rfl) (wanted_none rfl) rfl rfl ?_
          refine stepP rfl (by exact hg) (wanted_none rfl) rfl (fun t52 hg => ?_)
          refine stepQ rfl (by exact hg) hw (wanted_none rfl) rfl (fun t53 hg => ?_)
          refine stepQ rfl (by exact hg) hw (wanted_none rfl) rfl (fun t54 hg => ?_)
          refine stepM (v := t54) (by first | exact .inl rfl | exact .inr rfl) (wanted_none rfl) rfl rfl ?_
          refine stepP rfl (by exact hg) (wanted_none rfl) rfl (fun t55 hg => ?_)
          refine stepP rfl (by exact hg) (wanted_none rfl) rfl (fun t56 hg => ?_)
          refine stepM (v := t55) (by first | exact .inl rfl | exact .inr rfl) (wanted_none rfl) rfl rfl ?_
          refine stepM (v := t56) (by first | exact .inl rfl | exact .inr rfl) (wanted_none rfl) rfl rfl ?_
          refine stepEnd ?_
          refine thenN ?_
          refine wp_seq ?_
          refine region_seq ?_
          refine stepM (v := t56) (by first | exact .inl rfl | exact .inr rfl) (wanted_none rfl) rfl rfl ?_
          refine stepEnd ?_
          refine thenN ?_
          refine codeCond hg rfl (fun hb hg1 => ?_) (fun hb hg1 => ?_)
          · clear hg; subst hb; have hg := hg1; clear hg1
            refine wp_seq ?_
            refine region_seq ?_
            refine stepM (v := (.bool false)) (by first | exact .inl rfl | exact .inr rfl) (wanted_none rfl) rfl rfl ?_
            refine stepEnd ?_
            refine thenN ?_
            refine wp_ret ?_
            refine thenR ?_
            refine blkR ?_
            refine thenR ?_
            refine thenR ?_
            refine blkR ?_
            refine blkR ?_
            refine thenR ?_
            refine thenR ?_
            refine blkR ?_
            refine thenR ?_
            exact post_ret (res_tmp Try.results3 rfl rfl) ⟨_, rfl, hs, by rw [hw]; exact hg⟩
          · clear hg; subst hb; have hg := hg1; clear hg1
            refine wp_skip ?_
            refine thenN ?_
            refine region_seq ?_
            refine stepM (v := t29) (by first | exact .inl rfl | exact .inr rfl) (wanted_none rfl) rfl rfl ?_
            refine stepM (v := t28) (by first | exact .inl rfl | exact .inr rfl) (wanted_none rfl) rfl rfl ?_
            refine stepM (v := x8) (by first | exact .inl rfl | exact .inr rfl) (wanted_none rfl) rfl rfl ?_
            refine stepP rfl (by exact hg) (wanted_none rfl) rfl (fun t61 hg => ?_)
            refine stepQ rfl (by exact hg) hw (wanted_none rfl) rfl (fun t62 hg => ?_)
            refine stepM (v := x9) (by first | exact .inl rfl | exact .inr rfl) (wanted_none rfl) rfl rfl ?_
            refine stepP rfl (by exact hg) (wanted_none rfl) rfl (fun t64 hg => ?_)
            refine stepQ rfl (by exact hg) hw (wanted_none rfl) rfl (fun t65 hg => ?_)
            refine stepM (v := x8) (by first | exact .inl rfl | exact .inr rfl) (wanted_none rfl) rfl rfl ?_
            refine stepU rfl (by exact hg) hw (wanted_none rfl) rfl (fun _ h_6 wh_6 hw hs1 hg => ?_)
            have hs := hs.trans hs1
            clear hs1
            refine stepEnd ?_
            refine blkN ?_
            refine thenN ?_
            refine region_seq ?_
            refine stepM (v := x9) (by first | exact .inl rfl | exact .inr rfl) (wanted_none rfl) rfl rfl ?_
            refine stepP rfl (by exact hg) (wanted_none rfl) rfl (fun t44 hg => ?_)
            refine stepM (v := t44) (by first | exact .inl rfl | exact .inr rfl) (wanted_none rfl) rfl rfl ?_
            refine stepEnd ?_
            obtain ⟨m', hlt, hI⟩ := hg
            exact thenN ⟨m', hlt, t44, _, mk_ovr ⟨rfl, rfl, rfl, rfl, rfl, rfl, trivial⟩, hs, by rw [hw]; exact hI⟩
        · clear hg; subst hb; have hg := hg1; clear hg1
          refine wp_exit ?_
          refine thenE ?_
          refine thenE ?_
          refine blkE ?_
          refine blkN ?_
          refine thenN ?_
          refine region_seq ?_
          refine stepM (v := x8) (by first | exact .inl rfl | exact .inr rfl) (wanted_none rfl) rfl rfl ?_
          refine stepP rfl (by exact hg) (wanted_none rfl) rfl (fun t35 hg => ?_)
          refine stepM (v := t35) (by first | exact .inl rfl | exact .inr rfl) (wanted_none rfl) rfl rfl ?_
          refine stepEnd ?_
          obtain ⟨m', hlt, hI⟩ := hg
          exact thenN ⟨m', hlt, t35, _, mk_ovr ⟨rfl, rfl, rfl, rfl, rfl, trivial⟩, hs, by rw [hw]; exact hI⟩
      · clear hg; subst hb; have hg := hg1; clear hg1
        refine wp_exit ?_
        refine thenE ?_
        refine thenE ?_
        refine blkE ?_
        refine thenN ?_
        refine wp_seq ?_
        refine region_seq ?_
        refine stepM (v := v0) (by first | exact .inl rfl | exact .inr rfl) (wanted_none rfl) rfl rfl ?_
        refine stepP rfl (by exact hg) (wanted_none rfl) rfl (fun t68 hg => ?_)
        refine stepP rfl (by exact hg) (wanted_none rfl) rfl (fun t69 hg => ?_)
        refine stepP rfl (by exact hg) (wanted_none rfl) rfl (fun t70 hg => ?_)
        refine stepM (v := t70) (by first | exact .inl rfl | exact .inr rfl) (wanted_none rfl) rfl rfl ?_
        refine stepEnd ?_
        refine thenN ?_
        refine wp_seq ?_
        refine wp_seq ?_
        refine region_seq ?_
        refine stepM (v := t29) (by first | exact .inl rfl | exact .inr rfl) (wanted_none rfl) rfl rfl ?_
        refine stepQ (ex_blt rfl) (by exact hg) hw (wanted_none rfl) rfl (fun t72 hg => ?_)
        refine stepM (v := t70) (by first | exact .inl rfl | exact .inr rfl) (wanted_none rfl) rfl rfl ?_
        refine stepP rfl (by exact hg) (wanted_none rfl) rfl (fun t74 hg => ?_)
        refine stepEnd ?_
        refine thenN ?_
        refine codeCond hg rfl (fun hb hg1 => ?_) (fun hb hg1 => ?_)
        · clear hg; subst hb; have hg := hg1; clear hg1
          refine wp_seq ?_
          refine region_seq ?_
          refine stepM (v := (.bool false)) (by first | exact .inl rfl | exact .inr rfl) (wanted_none rfl) rfl rfl ?_
          refine stepEnd ?_
          refine thenN ?_
          refine wp_ret ?_
          refine thenR ?_
          exact post_ret (res_tmp Try.results3 rfl rfl) ⟨_, rfl, hs, by rw [hw]; exact hg⟩
        · clear hg; subst hb; have hg := hg1; clear hg1
          refine wp_skip ?_
          refine thenN ?_
          refine wp_seq ?_
          refine wp_seq ?_
          refine region_seq ?_
          refine stepM (v := (.int .i64 0)) (by first | exact .inl rfl | exact .inr rfl) (wanted_none rfl) rfl rfl ?_
          refine stepEnd ?_
          refine thenN ?_
          refine wp_block ?_
          obtain ⟨I, m0, hI0, hround⟩ := hg
          refine wp_loop_m (fun m a w' => ∃ (x13 : Value) (f : Nat → Value), a = mk 134 (ovr [(13, x13), (5, t26), (7, t29), (12, t70)] f) ∧ SameW w w' ∧ I m x13 w'.heap) m0 ⟨(.int .i64 0), _, mk_ovr ⟨rfl, rfl, rfl, rfl, trivial⟩, hs, by rw [hw]; exact hI0⟩ ?_
          rintro m _ wl ⟨x13, f, rfl, hs, hI⟩
          obtain ⟨h_7, hw⟩ : ∃ h', wl.heap = h' := ⟨_, rfl⟩
          rw [hw] at hI
          have hg := hround m _ _ hI
          clear hround hI hI0
          refine wp_seq ?_
          refine wp_seq ?_
          refine region_seq ?_
          refine stepM (v := x13) (by first | exact .inl rfl | exact .inr rfl) (wanted_none rfl) rfl rfl ?_
          refine stepM (v := t70) (by first | exact .inl rfl | exact .inr rfl) (wanted_none rfl) rfl rfl ?_
          refine stepP rfl (by exact hg) (wanted_none rfl) rfl (fun t77 hg => ?_)
          refine stepEnd ?_
          refine thenN ?_
          refine codeCond hg rfl (fun hb hg1 => ?_) (fun hb hg1 => ?_)
          · clear hg; subst hb; have hg := hg1; clear hg1
            refine wp_skip ?_
            refine thenN ?_
            refine wp_seq ?_
            refine wp_block ?_
            refine wp_seq ?_
            refine region_seq ?_
            refine stepM (v := x13) (by first | exact .inl rfl | exact .inr rfl) (wanted_none rfl) rfl rfl ?_
            refine stepP rfl (by exact hg) (wanted_none rfl) rfl (fun t81 hg => ?_)
            refine stepP rfl (by exact hg) (wanted_none rfl) rfl (fun t82 hg => ?_)
            refine stepX (ex_buildSlice rfl) (by exact hg) hw (wanted_none rfl) rfl (fun t83 h_8 wh_8 hw hs1 hg => ?_)
            have hs := hs.trans hs1
            clear hs1
            refine stepX rfl (by exact hg) hw (wanted_none rfl) rfl (fun t84 h_9 wh_9 hw hs1 hg => ?_)
            have hs := hs.trans hs1
            clear hs1
            refine stepM (v := t84) (by first | exact .inl rfl | exact .inr rfl) (wanted_none rfl) rfl rfl ?_
            refine stepEnd ?_
            refine thenN ?_
            refine wp_seq ?_
            refine region_seq ?_
            refine stepM (v := (.int .i64 0)) (by first | exact .inl rfl | exact .inr rfl) (wanted_none rfl) rfl rfl ?_
            refine stepEnd ?_
            refine thenN ?_
            refine wp_block ?_
            obtain ⟨I, m0, hI0, hround⟩ := hg
            refine wp_loop_m (fun m a w' => ∃ (x15 : Value) (f : Nat → Value), a = mk 134 (ovr [(15, x15), (5, t26), (7, t29), (12, t70), (13, x13), (14, t84)] f) ∧ SameW w w' ∧ I m x15 w'.heap) m0 ⟨(.int .i64 0), _, mk_ovr ⟨rfl, rfl, rfl, rfl, rfl, rfl, trivial⟩, hs, by rw [hw]; exact hI0⟩ ?_
            rintro m _ wl ⟨x15, f, rfl, hs, hI⟩
            obtain ⟨h_10, hw⟩ : ∃ h', wl.heap = h' := ⟨_, rfl⟩
            rw [hw] at hI
            have hg := hround m _ _ hI
            clear hround hI hI0
            refine wp_seq ?_
            refine wp_seq ?_
            refine region_seq ?_
            refine stepM (v := x15) (by first | exact .inl rfl | exact .inr rfl) (wanted_none rfl) rfl rfl ?_
            refine stepM (v := t70) (by first | exact .inl rfl | exact .inr rfl) (wanted_none rfl) rfl rfl ?_
            refine stepP rfl (by exact hg) (wanted_none rfl) rfl (fun t87 hg => ?_)
            refine stepEnd ?_
            refine thenN ?_
            refine codeCond hg rfl (fun hb hg1 => ?_) (fun hb hg1 => ?_)
            · clear hg; subst hb; have hg := hg1; clear hg1
              refine wp_skip ?_
              refine thenN ?_
              refine wp_seq ?_
              refine wp_block ?_
              refine wp_seq ?_
              refine region_seq ?_
              refine stepM (v := x15) (by first | exact .inl rfl | exact .inr rfl) (wanted_none rfl) rfl rfl ?_
              refine stepP rfl (by exact hg) (wanted_none rfl) rfl (fun t91 hg => ?_)
              refine stepP rfl (by exact hg) (wanted_none rfl) rfl (fun t92 hg => ?_)
              refine stepX (ex_buildSlice rfl) (by exact hg) hw (wanted_none rfl) rfl (fun t93 h_11 wh_11 hw hs1 hg => ?_)
              have hs := hs.trans hs1
              clear hs1
              refine stepX rfl (by exact hg) hw (wanted_none rfl) rfl (fun t94 h_12 wh_12 hw hs1 hg => ?_)
              have hs := hs.trans hs1
              clear hs1
              refine stepM (v := t94) (by first | exact .inl rfl | exact .inr rfl) (wanted_none rfl) rfl rfl ?_
              refine stepEnd ?_
              refine thenN ?_
              refine wp_seq ?_
              refine region_seq ?_
              refine stepM (v := t26) (by first | exact .inl rfl | exact .inr rfl) (wanted_none rfl) rfl rfl ?_
              refine stepM (v := t84) (by first | exact .inl rfl | exact .inr rfl) (wanted_none rfl) rfl rfl ?_
              refine stepX (ex_call rfl) (by exact hg) hw (wanted_none rfl) rfl (fun t97 h_13 wh_13 hw hs1 hg => ?_)
              have hs := hs.trans hs1
              clear hs1
              refine stepM (v := t94) (by first | exact .inl rfl | exact .inr rfl) (wanted_none rfl) rfl rfl ?_
              refine stepX (ex_call rfl) (by exact hg) hw (wanted_none rfl) rfl (fun t99 h_14 wh_14 hw hs1 hg => ?_)
              have hs := hs.trans hs1
              clear hs1
              refine stepM (v := t26) (by first | exact .inl rfl | exact .inr rfl) (wanted_none rfl) rfl rfl ?_
              refine stepM (v := t94) (by first | exact .inl rfl | exact .inr rfl) (wanted_none rfl) rfl rfl ?_
              refine stepX (ex_call rfl) (by exact hg) hw (wanted_none rfl) rfl (fun t102 h_15 wh_15 hw hs1 hg => ?_)
              have hs := hs.trans hs1
              clear hs1
              refine stepM (v := t84) (by first | exact .inl rfl | exact .inr rfl) (wanted_none rfl) rfl rfl ?_
              refine stepX (ex_call rfl) (by exact hg) hw (wanted_none rfl) rfl (fun t104 h_16 wh_16 hw hs1 hg => ?_)
              have hs := hs.trans hs1
              clear hs1
              refine stepM (v := t99) (by first | exact .inl rfl | exact .inr rfl) (wanted_none rfl) rfl rfl ?_
              refine stepM (v := t104) (by first | exact .inl rfl | exact .inr rfl) (wanted_none rfl) rfl rfl ?_
              refine stepEnd ?_
              refine thenN ?_
              refine wp_seq ?_
              refine region_seq ?_
              refine stepM (v := t99) (by first | exact .inl rfl | exact .inr rfl) (wanted_none rfl) rfl rfl ?_
              refine stepM (v := t99) (by first | exact .inl rfl | exact .inr rfl) (wanted_none rfl) rfl rfl ?_
              obtain ⟨k, hk, hg⟩ := join_elim hg
              refine list_join 7 (fun K_k hK_k => ?_)
              have hj_k : ∀ (x113 : Value) (w' : World), w'.heap = h_16 → SameW w w' → k x113 → ∀ f, K_k (mk 134 (ovr [(113, x113), (5, t26), (7, t29), (12, t70), (13, x13), (14, t84), (15, x15), (16, t94), (17, t99), (18, t104), (106, t99)] f)) w' := by
                intro x113 wj hw hs hg f
                rw [hk] at hg
                refine hK_k _ _ ?_
                refine stepP rfl (by exact hg) (wanted_none rfl) rfl (fun t114 hg => ?_)
                refine stepM (v := t114) (by first | exact .inl rfl | exact .inr rfl) (wanted_none rfl) rfl rfl ?_
                obtain ⟨k_1, hk_1, hg⟩ := join_elim hg
                refine list_join 17 (fun K_k_1 hK_k_1 => ?_)
                have hj_k_1 : ∀ (x132 : Value) (w' : World), w'.heap = h_16 → SameW w w' → k_1 x132 → ∀ f, K_k_1 (mk 134 (ovr [(132, x132), (5, t26), (7, t29), (12, t70), (13, x13), (14, t84), (15, x15), (115, t114)] f)) w' := by
                  intro x132 wj hw hs hg f
                  rw [hk_1] at hg
                  refine hK_k_1 _ _ ?_
                  refine stepP rfl (by exact hg) (wanted_none rfl) rfl (fun t133 hg => ?_)
                  refine stepEnd ?_
                  refine thenN ?_
                  refine codeCond hg rfl (fun hb hg1 => ?_) (fun hb hg1 => ?_)
                  · clear hg; subst hb; have hg := hg1; clear hg1
                    refine wp_seq ?_
                    refine region_seq ?_
                    refine stepM (v := (.bool false)) (by first | exact .inl rfl | exact .inr rfl) (wanted_none rfl) rfl rfl ?_
                    refine stepEnd ?_
                    refine thenN ?_
                    refine wp_ret ?_
                    refine blkR ?_
                    refine thenR ?_
                    refine thenR ?_
                    refine blkR ?_
                    refine blkR ?_
                    refine thenR ?_
                    refine thenR ?_
                    refine blkR ?_
                    refine thenR ?_
                    exact post_ret (res_tmp Try.results3 rfl rfl) ⟨_, rfl, hs, by rw [hw]; exact hg⟩
                  · clear hg; subst hb; have hg := hg1; clear hg1
                    refine wp_skip ?_
                    refine blkN ?_
                    refine thenN ?_
                    refine region_seq ?_
                    refine stepM (v := x15) (by first | exact .inl rfl | exact .inr rfl) (wanted_none rfl) rfl rfl ?_
                    refine stepP rfl (by exact hg) (wanted_none rfl) rfl (fun t89 hg => ?_)
                    refine stepM (v := t89) (by first | exact .inl rfl | exact .inr rfl) (wanted_none rfl) rfl rfl ?_
                    refine stepEnd ?_
                    obtain ⟨m', hlt, hI⟩ := hg
                    exact thenN ⟨m', hlt, t89, _, mk_ovr ⟨rfl, rfl, rfl, rfl, rfl, rfl, trivial⟩, hs, by rw [hw]; exact hI⟩
                clear hk_1 hK_k_1
                refine cond_split hg (fun hb hg1 => ?_) (fun hb hg1 => ?_)
                · clear hg; subst hb; have hg := hg1; clear hg1
                  refine stepSkip (wanted_noF rfl rfl rfl rfl) rfl ?_
                  refine stepSkip (wanted_noF rfl rfl rfl rfl) rfl ?_
                  refine stepSkip (wanted_noF rfl rfl rfl rfl) rfl ?_
                  refine stepSkip (wanted_noF rfl rfl rfl rfl) rfl ?_
                  refine stepSkip (wanted_noF rfl rfl rfl rfl) rfl ?_
                  refine stepSkip (wanted_noF rfl rfl rfl rfl) rfl ?_
                  refine stepSkip (wanted_noF rfl rfl rfl rfl) rfl ?_
                  refine stepSkip (wanted_noF rfl rfl rfl rfl) rfl ?_
                  refine stepSkip (wanted_noF rfl rfl rfl rfl) rfl ?_
                  refine stepSkip (wanted_noF rfl rfl rfl rfl) rfl ?_
                  refine stepSkip (wanted_noF rfl rfl rfl rfl) rfl ?_
                  refine stepSkip (wanted_undef rfl rfl rfl rfl) rfl ?_
                  refine stepSkip (wanted_undef rfl rfl rfl rfl) rfl ?_
                  refine stepSkip (wanted_undef rfl rfl rfl rfl) rfl ?_
                  refine stepSkip (wanted_undef rfl rfl rfl rfl) rfl ?_
                  refine stepSkip (wanted_noF rfl rfl rfl rfl) rfl ?_
                  refine stepSkip (wanted_noF rfl rfl rfl rfl) rfl ?_
                  refine stepEnd ?_
                  refine thenN ?_
                  exact at_ovr (hj_k_1 undef _ hw hs hg) ⟨rfl, rfl, rfl, rfl, rfl, rfl, rfl, rfl, trivial⟩
                · clear hg; subst hb; have hg := hg1; clear hg1
                  refine stepM (v := t29) (by first | exact .inl rfl | exact .inr rfl) (wanted_yes rfl rfl rfl rfl) rfl rfl ?_
                  refine stepM (v := t84) (by first | exact .inl rfl | exact .inr rfl) (wanted_yes rfl rfl rfl rfl) rfl rfl ?_
                  refine stepQ rfl (by exact hg) hw (wanted_yes rfl rfl rfl rfl) rfl (fun t118 hg => ?_)
                  refine stepM (v := t29) (by first | exact .inl rfl | exact .inr rfl) (wanted_yes rfl rfl rfl rfl) rfl rfl ?_
                  refine stepM (v := t94) (by first | exact .inl rfl | exact .inr rfl) (wanted_yes rfl rfl rfl rfl) rfl rfl ?_
                  refine stepQ rfl (by exact hg) hw (wanted_yes rfl rfl rfl rfl) rfl (fun t121 hg => ?_)
                  refine stepP rfl (by exact hg) (wanted_yes rfl rfl rfl rfl) rfl (fun t122 hg => ?_)
                  refine stepM (v := x13) (by first | exact .inl rfl | exact .inr rfl) (wanted_yes rfl rfl rfl rfl) rfl rfl ?_
                  refine stepM (v := x15) (by first | exact .inl rfl | exact .inr rfl) (wanted_yes rfl rfl rfl rfl) rfl rfl ?_
                  refine stepP rfl (by exact hg) (wanted_yes rfl rfl rfl rfl) rfl (fun t125 hg => ?_)
                  refine stepM (v := t125) (by first | exact .inl rfl | exact .inr rfl) (wanted_yes rfl rfl rfl rfl) rfl rfl ?_
                  obtain ⟨k_2, hk_2, hg⟩ := join_elim hg
                  refine list_join 4 (fun K_k_2 hK_k_2 => ?_)
                  have hj_k_2 : ∀ (x130 : Value) (w' : World), w'.heap = h_16 → SameW w w' → k_2 x130 → ∀ f, K_k_2 (mk 134 (ovr [(130, x130), (5, t26), (7, t29), (12, t70), (13, x13), (14, t84), (15, x15), (115, (.bool false)), (122, t122), (126, t125)] f)) w' := by
                    intro x130 wj hw hs hg f
                    rw [hk_2] at hg
                    refine hK_k_2 _ _ ?_
                    refine stepP rfl (by exact hg) (wanted_yes rfl rfl rfl rfl) rfl (fun t131 hg => ?_)
                    refine stepP rfl (by exact hg) (wanted_yes rfl rfl rfl rfl) rfl (fun t132 hg => ?_)
                    refine stepEnd ?_
                    refine thenN ?_
                    exact at_ovr (hj_k_1 t132 _ hw hs hg) ⟨rfl, rfl, rfl, rfl, rfl, rfl, rfl, rfl, trivial⟩
                  clear hk_2 hK_k_2
                  refine cond_split hg (fun hb hg1 => ?_) (fun hb hg1 => ?_)
                  · clear hg; subst hb; have hg := hg1; clear hg1
                    refine stepSkip (wanted_noF rfl rfl rfl rfl) rfl ?_
                    refine stepSkip (wanted_noF rfl rfl rfl rfl) rfl ?_
                    refine stepSkip (wanted_undef rfl rfl rfl rfl) rfl ?_
                    refine stepSkip (wanted_noF rfl rfl rfl rfl) rfl ?_
                    refine stepEnd ?_
                    refine thenN ?_
                    exact at_ovr (hj_k_2 undef _ hw hs hg) ⟨rfl, rfl, rfl, rfl, rfl, rfl, rfl, rfl, rfl, rfl, trivial⟩
                  · clear hg; subst hb; have hg := hg1; clear hg1
                    refine stepM (v := t99) (by first | exact .inl rfl | exact .inr rfl) (wanted_yes rfl rfl rfl rfl) rfl rfl ?_
                    refine stepM (v := t99) (by first | exact .inl rfl | exact .inr rfl) (wanted_yes rfl rfl rfl rfl) rfl rfl ?_
                    obtain ⟨k_3, hk_3, hg⟩ := join_elim hg
                    refine list_join 1 (fun K_k_3 hK_k_3 => ?_)
                    have hj_k_3 : ∀ (x129 : Value) (w' : World), w'.heap = h_16 → SameW w w' → k_3 x129 → ∀ f, K_k_3 (mk 134 (ovr [(129, x129), (5, t26), (7, t29), (12, t70), (13, x13), (14, t84), (15, x15), (115, (.bool false)), (122, t122), (126, (.bool false)), (128, t99)] f)) w' := by
                      intro x129 wj hw hs hg f
                      rw [hk_3] at hg
                      refine hK_k_3 _ _ ?_
                      refine stepP rfl (by exact hg) (wanted_yes rfl rfl rfl rfl) rfl (fun t130 hg => ?_)
                      refine stepEnd ?_
                      refine thenN ?_
                      exact at_ovr (hj_k_2 t130 _ hw hs hg) ⟨rfl, rfl, rfl, rfl, rfl, rfl, rfl, rfl, rfl, rfl, trivial⟩
                    clear hk_3 hK_k_3
                    refine cond_split hg (fun hb hg1 => ?_) (fun hb hg1 => ?_)
                    · clear hg; subst hb; have hg := hg1; clear hg1
                      refine stepM (v := t104) (by first | exact .inl rfl | exact .inr rfl) (wanted_yes rfl rfl rfl rfl) rfl rfl ?_
                      refine stepEnd ?_
                      refine thenN ?_
                      exact at_ovr (hj_k_3 t104 _ hw hs hg) ⟨rfl, rfl, rfl, rfl, rfl, rfl, rfl, rfl, rfl, rfl, rfl, trivial⟩
                    · clear hg; subst hb; have hg := hg1; clear hg1
                      refine stepSkip (wanted_noT rfl rfl rfl rfl) rfl ?_
                      refine stepEnd ?_
                      refine thenN ?_
                      exact at_ovr (hj_k_3 undef _ hw hs hg) ⟨rfl, rfl, rfl, rfl, rfl, rfl, rfl, rfl, rfl, rfl, rfl, trivial⟩
              clear hk hK_k
              refine cond_split hg (fun hb hg1 => ?_) (fun hb hg1 => ?_)
              · clear hg; subst hb; have hg := hg1; clear hg1
                refine stepM (v := t29) (by first | exact .inl rfl | exact .inr rfl) (wanted_yes rfl rfl rfl rfl) rfl rfl ?_
                refine stepM (v := t94) (by first | exact .inl rfl | exact .inr rfl) (wanted_yes rfl rfl rfl rfl) rfl rfl ?_
                refine stepQ rfl (by exact hg) hw (wanted_yes rfl rfl rfl rfl) rfl (fun t109 hg => ?_)
                refine stepM (v := t29) (by first | exact .inl rfl | exact .inr rfl) (wanted_yes rfl rfl rfl rfl) rfl rfl ?_
                refine stepM (v := t84) (by first | exact .inl rfl | exact .inr rfl) (wanted_yes rfl rfl rfl rfl) rfl rfl ?_
                refine stepQ rfl (by exact hg) hw (wanted_yes rfl rfl rfl rfl) rfl (fun t112 hg => ?_)
                refine stepP rfl (by exact hg) (wanted_yes rfl rfl rfl rfl) rfl (fun t113 hg => ?_)
                refine stepEnd ?_
                refine thenN ?_
                exact at_ovr (hj_k t113 _ hw hs hg) ⟨rfl, rfl, rfl, rfl, rfl, rfl, rfl, rfl, rfl, rfl, rfl, trivial⟩
              · clear hg; subst hb; have hg := hg1; clear hg1
                refine stepSkip (wanted_noT rfl rfl rfl rfl) rfl ?_
                refine stepSkip (wanted_noT rfl rfl rfl rfl) rfl ?_
                refine stepSkip (wanted_noT rfl rfl rfl rfl) rfl ?_
                refine stepSkip (wanted_noT rfl rfl rfl rfl) rfl ?_
                refine stepSkip (wanted_noT rfl rfl rfl rfl) rfl ?_
                refine stepSkip (wanted_noT rfl rfl rfl rfl) rfl ?_
                refine stepSkip (wanted_noT rfl rfl rfl rfl) rfl ?_
                refine stepEnd ?_
                refine thenN ?_
                exact at_ovr (hj_k undef _ hw hs hg) ⟨rfl, rfl, rfl, rfl, rfl, rfl, rfl, rfl, rfl, rfl, rfl, trivial⟩
            · clear hg; subst hb; have hg := hg1; clear hg1
              refine wp_exit ?_
              refine thenE ?_
              refine thenE ?_
              refine blkE ?_
              refine blkN ?_
              refine thenN ?_
              refine region_seq ?_
              refine stepM (v := x13) (by first | exact .inl rfl | exact .inr rfl) (wanted_none rfl) rfl rfl ?_
              refine stepP rfl (by exact hg) (wanted_none rfl) rfl (fun t79 hg => ?_)
              refine stepM (v := t79) (by first | exact .inl rfl | exact .inr rfl) (wanted_none rfl) rfl rfl ?_
              refine stepEnd ?_
              obtain ⟨m', hlt, hI⟩ := hg
              exact thenN ⟨m', hlt, t79, _, mk_ovr ⟨rfl, rfl, rfl, rfl, trivial⟩, hs, by rw [hw]; exact hI⟩
          · clear hg; subst hb; have hg := hg1; clear hg1
            refine wp_exit ?_
            refine thenE ?_
            refine thenE ?_
            refine blkE ?_
            refine thenN ?_
            refine wp_seq ?_
            refine region_seq ?_
            refine stepM (v := (.bool true)) (by first | exact .inl rfl | exact .inr rfl) (wanted_none rfl) rfl rfl ?_
            refine stepEnd ?_
            refine thenN ?_
            refine wp_ret ?_
            exact post_ret (res_tmp Try.results3 rfl rfl) ⟨_, rfl, hs, by rw [hw]; exact hg⟩

/-- augur/augurlaw11.CallsTurned -/
def g_augurlaw11_CallsTurned (v0 v1 v2 : Value) (h : Heap) (R : Value → Heap → Prop) : Prop :=
  oCall Try.prog (.func (.func 7) #[] #[]) #[] h fun t14 h => 
  oUn Try.prog .not t14 fun t15 =>
  cond t15
   (R (.bool false) h)
   (oLen Try.prog #[22] 3 v1 fun t17 =>
   oBin Try.prog .gtr 3 (.tmp 17) (.const (.int .i64 20)) t17 (.int .i64 20) fun t18 =>
   cond t18
    (R (.bool true) h)
    (loop2 (.slice none 0 0) (.int .i64 0) h fun x7 x8 h_1 next =>
     oLen Try.prog #[22] 3 v1 fun t21 =>
     oBin Try.prog .lss 3 (.tmp 19) (.tmp 21) x8 t21 fun t22 =>
     cond t22
      (drawn h_1 fun D =>
      oConv Try.prog 5 3 v2 fun t29 =>
      oBin Try.prog .add 3 (.tmp 27) (.tmp 29) x8 t29 fun t30 =>
      oLen Try.prog #[22] 3 v1 fun t32 =>
      oBin Try.prog .rem 3 (.tmp 30) (.tmp 32) t30 t32 fun t33 =>
      oIdx Try.prog 22 v1 t33 fun t34 =>
      oLoad Try.prog 35 t34 D fun t35 =>
      oIdx Try.prog 22 v1 x8 fun t38 =>
      oLoad Try.prog 35 t38 D fun t39 =>
      oBuildSlice Try.prog 22 2 #[(0, t35), (1, t39)] h_1 fun t40 h_2 => D h_2 ∧ 
      oAppend Try.prog #[22, 22] 22 #[x7, t40] h_2 fun t41 h_3 => D h_3 ∧ 
      oBin Try.prog .add 3 (.tmp 23) (.const (.int .i64 1)) x8 (.int .i64 1) fun t24 =>
      next t41 t24 h_3)
      (oCall Try.prog (.func (.func 8) #[] #[]) #[v0, v1] h_1 fun t44 h_4 => 
      oCall Try.prog (.func (.func 8) #[] #[]) #[v0, x7] h_4 fun t47 h_5 => 
      oRange Try.prog 24 t47 h_5 fun t49 h_6 => 
      loop0 h_6 fun h_7 next_1 =>
       oNext Try.prog t49 false 0 h_7 fun t50 h_8 => 
       oExt Try.prog t50 0 fun t51 =>
       cond t51
        (oEntry Try.prog t49 (Eq h_8) fun t52 =>
        oExt Try.prog t52 0 fun t53 =>
        oLook Try.prog 24 t47 t53 false (Eq h_8) fun t58 =>
        oBuildSlice Try.prog 29 2 #[(0, (.string ⟨#[110, 111, 98, 111, 100, 121]⟩)), (1, (.string ⟨#[122, 122]⟩))] h_8 fun t59 h_9 => 
        oAppend Try.prog #[29, 29] 29 #[t58, t59] h_9 fun t60 h_10 => 
        oUpd Try.prog 24 t47 t53 t60 h_10 fun _ h_11 => 
        next_1 h_11)
        (oCall Try.prog (.func (.func 9) #[] #[]) #[t44] h_8 fun t62 h_12 => 
        oCall Try.prog (.func (.func 9) #[] #[]) #[t47] h_12 fun t64 h_13 => 
        oCall Try.prog (.func (.func 12) #[] #[]) #[t62, t64] h_13 fun t65 h_14 => 
        oUn Try.prog .not t65 fun t66 =>
        cond t66
         (R (.bool false) h_14)
         (loop1 (.int .i64 0) h_14 fun x12 h_15 next_2 =>
          oBin Try.prog .rem 5 (.tmp 68) (.const (.int .u8 9)) v0 (.int .u8 9) fun t69 =>
          oConv Try.prog 5 3 t69 fun t70 =>
          oBin Try.prog .add 3 (.tmp 70) (.const (.int .i64 1)) t70 (.int .i64 1) fun t71 =>
          oBin Try.prog .lss 3 (.tmp 67) (.tmp 71) x12 t71 fun t72 =>
          cond t72
           (oBin Try.prog .add 3 (.const (.int .i64 97)) (.tmp 75) (.int .i64 97) x12 fun t76 =>
           oConv Try.prog 3 5 t76 fun t77 =>
           oBuildSlice Try.prog 31 1 #[(0, t77)] h_15 fun t78 h_16 => 
           oConvX Try.prog 31 9 t78 h_16 fun t79 h_17 => 
           oCall Try.prog (.func (.func 11) #[] #[]) #[t44, t79] h_17 fun t82 h_18 => 
           oCall Try.prog (.func (.func 11) #[] #[]) #[t47, t79] h_18 fun t85 h_19 => 
           oCall Try.prog (.func (.func 13) #[] #[]) #[t82, t85] h_19 fun t86 h_20 => 
           oUn Try.prog .not t86 fun t87 =>
           join (fun (x96 : Value) (h_21 : Heap) =>
            oPick Try.prog t87 (.bool true) x96 fun t97 =>
            cond t97
             (R (.bool false) h_21)
             (oBin Try.prog .add 3 (.tmp 73) (.const (.int .i64 1)) x12 (.int .i64 1) fun t74 =>
             next_2 t74 h_21))
            fun k =>
           cond t87
            (k undef h_20)
            (oCall Try.prog (.func (.func 14) #[] #[]) #[t44, t79] h_20 fun t91 h_22 => 
            oCall Try.prog (.func (.func 14) #[] #[]) #[t47, t79] h_22 fun t94 h_23 => 
            oCall Try.prog (.func (.func 13) #[] #[]) #[t91, t94] h_23 fun t95 h_24 => 
            oUn Try.prog .not t95 fun t96 =>
            k t96 h_24))
           (R (.bool true) h_15))))))

set_option maxRecDepth 100000 in
set_option maxHeartbeats 2000000 in
theorem sh_augurlaw11_CallsTurned {v0 v1 v2 : Value} {h : Heap} {R : Value → Heap → Prop} (hg : g_augurlaw11_CallsTurned v0 v1 v2 h R) : HC Try.prog 4 #[v0, v1, v2] h R := by
  refine hc_of_wp (n := 98) (f := ovr [(0, v0), (1, v1), (2, v2)] fun _ => undef) Try.func4 rfl rfl (by kernel_rfl) (fun w hw => ?_)
  have hs := SameW.refl w
  unfold g_augurlaw11_CallsTurned at hg
  refine wp_seq ?_
  refine region_seq ?_
  refine stepM (v := (.bool false)) (by first | exact .inl rfl | exact .inr rfl) (wanted_none rfl) rfl rfl ?_
  refine stepEnd ?_
  refine thenN ?_
  refine wp_seq ?_
  refine wp_seq ?_
  refine region_seq ?_
  refine stepX (ex_call rfl) (by exact hg) hw (wanted_none rfl) rfl (fun t14 h wh hw hs1 hg => ?_)
  have hs := hs.trans hs1
  clear hs1
  refine stepP rfl (by exact hg) (wanted_none rfl) rfl (fun t15 hg => ?_)
  refine stepEnd ?_
  refine thenN ?_
  refine codeCond hg rfl (fun hb hg1 => ?_) (fun hb hg1 => ?_)
  · clear hg; subst hb; have hg := hg1; clear hg1
    refine wp_seq ?_
    refine region_seq ?_
    refine stepM (v := (.bool false)) (by first | exact .inl rfl | exact .inr rfl) (wanted_none rfl) rfl rfl ?_
    refine stepEnd ?_
    refine thenN ?_
    refine wp_ret ?_
    refine thenR ?_
    exact post_ret (res_tmp Try.results4 rfl rfl) ⟨_, rfl, hs, by rw [hw]; exact hg⟩
  · clear hg; subst hb; have hg := hg1; clear hg1
    refine wp_skip ?_
    refine thenN ?_
    refine wp_seq ?_
    refine wp_seq ?_
    refine region_seq ?_
    refine stepM (v := v1) (by first | exact .inl rfl | exact .inr rfl) (wanted_none rfl) rfl rfl ?_
    refine stepP (ex_blt rfl) (by exact hg) (wanted_none rfl) rfl (fun t17 hg => ?_)
    refine stepP rfl (by exact hg) (wanted_none rfl) rfl (fun t18 hg => ?_)
    refine stepEnd ?_
    refine thenN ?_
    refine codeCond hg rfl (fun hb hg1 => ?_) (fun hb hg1 => ?_)
    · clear hg; subst hb; have hg := hg1; clear hg1
      refine wp_seq ?_
      refine region_seq ?_
      refine stepM (v := (.bool true)) (by first | exact .inl rfl | exact .inr rfl) (wanted_none rfl) rfl rfl ?_
      refine stepEnd ?_
      refine thenN ?_
      refine wp_ret ?_
      refine thenR ?_
      exact post_ret (res_tmp Try.results4 rfl rfl) ⟨_, rfl, hs, by rw [hw]; exact hg⟩
    · clear hg; subst hb; have hg := hg1; clear hg1
      refine wp_skip ?_
      refine thenN ?_
      refine wp_seq ?_
      refine region_seq ?_
      refine stepM (v := (.slice none 0 0)) (by first | exact .inl rfl | exact .inr rfl) (wanted_none rfl) rfl rfl ?_
      refine stepEnd ?_
      refine thenN ?_
      refine wp_seq ?_
      refine wp_seq ?_
      refine region_seq ?_
      refine stepM (v := (.int .i64 0)) (by first | exact .inl rfl | exact .inr rfl) (wanted_none rfl) rfl rfl ?_
      refine stepEnd ?_
      refine thenN ?_
      refine wp_block ?_
      obtain ⟨I, m0, hI0, hround⟩ := hg
      refine wp_loop_m (fun m a w' => ∃ (x7 : Value) (x8 : Value) (f : Nat → Value), a = mk 98 (ovr [(7, x7), (8, x8), (0, v0), (1, v1), (2, v2)] f) ∧ SameW w w' ∧ I m x7 x8 w'.heap) m0 ⟨(.slice none 0 0), (.int .i64 0), _, mk_ovr ⟨rfl, rfl, rfl, rfl, rfl, trivial⟩, hs, by rw [hw]; exact hI0⟩ ?_
      rintro m _ wl ⟨x7, x8, f, rfl, hs, hI⟩
      obtain ⟨h_1, hw⟩ : ∃ h', wl.heap = h' := ⟨_, rfl⟩
      rw [hw] at hI
      have hg := hround m _ _ _ hI
      clear hround hI hI0
      refine wp_seq ?_
      refine wp_seq ?_
      refine region_seq ?_
      refine stepM (v := x8) (by first | exact .inl rfl | exact .inr rfl) (wanted_none rfl) rfl rfl ?_
      refine stepM (v := v1) (by first | exact .inl rfl | exact .inr rfl) (wanted_none rfl) rfl rfl ?_
      refine stepP (ex_blt rfl) (by exact hg) (wanted_none rfl) rfl (fun t21 hg => ?_)
      refine stepP rfl (by exact hg) (wanted_none rfl) rfl (fun t22 hg => ?_)
      refine stepEnd ?_
      refine thenN ?_
      refine codeCond hg rfl (fun hb hg1 => ?_) (fun hb hg1 => ?_)
      · clear hg; subst hb; have hg := hg1; clear hg1
        refine wp_skip ?_
        refine thenN ?_
        refine wp_seq ?_
        refine wp_block ?_
        obtain ⟨D, hD, hg⟩ := hg
        refine region_mix (D := D) [true, true, true, true, true, true, true, true, true, true, true, true, true, true, true, false, false] (by kernel_rfl) (by kernel_rfl) (by repeat (first | exact panicOk_base | apply panicOk_then | apply panicOk_blk)) (by rw [hw]; exact hD) (fun wm hs1 hw1 => ?_)
        have hw := hw1.trans hw
        have hs := hs.trans hs1
        clear hs1 hw1
        refine mixM (v := x7) (by first | exact .inl rfl | exact .inr rfl) (wanted_none rfl) rfl rfl ?_
        refine mixM (v := v1) (by first | exact .inl rfl | exact .inr rfl) (wanted_none rfl) rfl rfl ?_
        refine mixM (v := x8) (by first | exact .inl rfl | exact .inr rfl) (wanted_none rfl) rfl rfl ?_
        refine mixM (v := v2) (by first | exact .inl rfl | exact .inr rfl) (wanted_none rfl) rfl rfl ?_
        refine mixP rfl (by exact hg) (wanted_none rfl) rfl (fun t29 hg => ?_)
        refine mixP rfl (by exact hg) (wanted_none rfl) rfl (fun t30 hg => ?_)
        refine mixM (v := v1) (by first | exact .inl rfl | exact .inr rfl) (wanted_none rfl) rfl rfl ?_
        refine mixP (ex_blt rfl) (by exact hg) (wanted_none rfl) rfl (fun t32 hg => ?_)
        refine mixP rfl (by exact hg) (wanted_none rfl) rfl (fun t33 hg => ?_)
        refine mixP rfl (by exact hg) (wanted_none rfl) rfl (fun t34 hg => ?_)
        refine mixQ rfl (by exact hg) (wanted_none rfl) rfl (fun t35 hg => ?_)
        refine mixM (v := v1) (by first | exact .inl rfl | exact .inr rfl) (wanted_none rfl) rfl rfl ?_
        refine mixM (v := x8) (by first | exact .inl rfl | exact .inr rfl) (wanted_none rfl) rfl rfl ?_
        refine mixP rfl (by exact hg) (wanted_none rfl) rfl (fun t38 hg => ?_)
        refine mixQ rfl (by exact hg) (wanted_none rfl) rfl (fun t39 hg => ?_)
        refine mixX (ex_buildSlice rfl) (by exact hg) hw (wanted_none rfl) rfl (fun t40 h_2 wh_2 hw hs1 hg => ?_)
        have hs := hs.trans hs1
        clear hs1
        refine mixX (ex_blt rfl) (by exact hg) hw (wanted_none rfl) rfl (fun t41 h_3 wh_3 hw hs1 hg => ?_)
        have hs := hs.trans hs1
        clear hs1
        refine mixEnd ?_
        refine stepM (v := t41) (by first | exact .inl rfl | exact .inr rfl) (wanted_none rfl) rfl rfl ?_
        refine stepEnd ?_
        refine blkN ?_
        refine thenN ?_
        refine region_seq ?_
        refine stepM (v := x8) (by first | exact .inl rfl | exact .inr rfl) (wanted_none rfl) rfl rfl ?_
        refine stepP rfl (by exact hg) (wanted_none rfl) rfl (fun t24 hg => ?_)
        refine stepM (v := t24) (by first | exact .inl rfl | exact .inr rfl) (wanted_none rfl) rfl rfl ?_
        refine stepEnd ?_
        obtain ⟨m', hlt, hI⟩ := hg
        exact thenN ⟨m', hlt, t41, t24, _, mk_ovr ⟨rfl, rfl, rfl, rfl, rfl, trivial⟩, hs, by rw [hw]; exact hI⟩
      · clear hg; subst hb; have hg := hg1; clear hg1
        refine wp_exit ?_
        refine thenE ?_
        refine thenE ?_
        refine blkE ?_
        refine thenN ?_
        refine wp_seq ?_
        refine region_seq ?_
        refine stepM (v := v0) (by first | exact .inl rfl | exact .inr rfl) (wanted_none rfl) rfl rfl ?_
        refine stepM (v := v1) (by first | exact .inl rfl | exact .inr rfl) (wanted_none rfl) rfl rfl ?_
        refine stepX (ex_call rfl) (by exact hg) hw (wanted_none rfl) rfl (fun t44 h_4 wh_4 hw hs1 hg => ?_)
        have hs := hs.trans hs1
        clear hs1
        refine stepM (v := v0) (by first | exact .inl rfl | exact .inr rfl) (wanted_none rfl) rfl rfl ?_
        refine stepM (v := x7) (by first | exact .inl rfl | exact .inr rfl) (wanted_none rfl) rfl rfl ?_
        refine stepX (ex_call rfl) (by exact hg) hw (wanted_none rfl) rfl (fun t47 h_5 wh_5 hw hs1 hg => ?_)
        have hs := hs.trans hs1
        clear hs1
        refine stepM (v := t44) (by first | exact .inl rfl | exact .inr rfl) (wanted_none rfl) rfl rfl ?_
        refine stepM (v := t47) (by first | exact .inl rfl | exact .inr rfl) (wanted_none rfl) rfl rfl ?_
        refine stepEnd ?_
        refine thenN ?_
        refine wp_seq ?_
        refine wp_seq ?_
        refine region_seq ?_
        refine stepM (v := t47) (by first | exact .inl rfl | exact .inr rfl) (wanted_none rfl) rfl rfl ?_
        refine stepX rfl (by exact hg) hw (wanted_none rfl) rfl (fun t49 h_6 wh_6 hw hs1 hg => ?_)
        have hs := hs.trans hs1
        clear hs1
        refine stepEnd ?_
        refine thenN ?_
        refine wp_block ?_
        obtain ⟨I, m0, hI0, hround⟩ := hg
        refine wp_loop_m (fun m a w' => ∃  (f : Nat → Value), a = mk 98 (ovr [(0, v0), (9, t44), (10, t47), (49, t49)] f) ∧ SameW w w' ∧ I m w'.heap) m0 ⟨_, mk_ovr ⟨rfl, rfl, rfl, rfl, trivial⟩, hs, by rw [hw]; exact hI0⟩ ?_
        rintro m _ wl ⟨f, rfl, hs, hI⟩
        obtain ⟨h_7, hw⟩ : ∃ h', wl.heap = h' := ⟨_, rfl⟩
        rw [hw] at hI
        have hg := hround m _ hI
        clear hround hI hI0
        refine wp_seq ?_
        refine region_seq ?_
        refine stepX rfl (by exact hg) hw (wanted_none rfl) rfl (fun t50 h_8 wh_8 hw hs1 hg => ?_)
        have hs := hs.trans hs1
        clear hs1
        refine stepP rfl (by exact hg) (wanted_none rfl) rfl (fun t51 hg => ?_)
        refine stepEnd ?_
        refine thenN ?_
        refine wp_seq ?_
        refine codeCond hg rfl (fun hb hg1 => ?_) (fun hb hg1 => ?_)
        · clear hg; subst hb; have hg := hg1; clear hg1
          refine wp_skip ?_
          refine thenN ?_
          refine wp_block ?_
          refine wp_seq ?_
          refine region_seq ?_
          refine stepQ rfl (by exact hg) hw (wanted_none rfl) rfl (fun t52 hg => ?_)
          refine stepP rfl (by exact hg) (wanted_none rfl) rfl (fun t53 hg => ?_)
          refine stepM (v := t53) (by first | exact .inl rfl | exact .inr rfl) (wanted_none rfl) rfl rfl ?_
          refine stepEnd ?_
          refine thenN ?_
          refine region_seq ?_
          refine stepM (v := t47) (by first | exact .inl rfl | exact .inr rfl) (wanted_none rfl) rfl rfl ?_
          refine stepM (v := t53) (by first | exact .inl rfl | exact .inr rfl) (wanted_none rfl) rfl rfl ?_
          refine stepM (v := t47) (by first | exact .inl rfl | exact .inr rfl) (wanted_none rfl) rfl rfl ?_
          refine stepM (v := t53) (by first | exact .inl rfl | exact .inr rfl) (wanted_none rfl) rfl rfl ?_
          refine stepQ rfl (by exact hg) hw (wanted_none rfl) rfl (fun t58 hg => ?_)
          refine stepX (ex_buildSlice rfl) (by exact hg) hw (wanted_none rfl) rfl (fun t59 h_9 wh_9 hw hs1 hg => ?_)
          have hs := hs.trans hs1
          clear hs1
          refine stepX (ex_blt rfl) (by exact hg) hw (wanted_none rfl) rfl (fun t60 h_10 wh_10 hw hs1 hg => ?_)
          have hs := hs.trans hs1
          clear hs1
          refine stepU rfl (by exact hg) hw (wanted_none rfl) rfl (fun _ h_11 wh_11 hw hs1 hg => ?_)
          have hs := hs.trans hs1
          clear hs1
          refine stepEnd ?_
          refine blkN ?_
          obtain ⟨m', hlt, hI⟩ := hg
          exact thenN ⟨m', hlt, _, mk_ovr ⟨rfl, rfl, rfl, rfl, trivial⟩, hs, by rw [hw]; exact hI⟩
        · clear hg; subst hb; have hg := hg1; clear hg1
          refine wp_exit ?_
          refine thenE ?_
          refine thenE ?_
          refine blkE ?_
          refine thenN ?_
          refine wp_seq ?_
          refine wp_seq ?_
          refine region_seq ?_
          refine stepM (v := t44) (by first | exact .inl rfl | exact .inr rfl) (wanted_none rfl) rfl rfl ?_
          refine stepX (ex_call rfl) (by exact hg) hw (wanted_none rfl) rfl (fun t62 h_12 wh_12 hw hs1 hg => ?_)
          have hs := hs.trans hs1
          clear hs1
          refine stepM (v := t47) (by first | exact .inl rfl | exact .inr rfl) (wanted_none rfl) rfl rfl ?_
          refine stepX (ex_call rfl) (by exact hg) hw (wanted_none rfl) rfl (fun t64 h_13 wh_13 hw hs1 hg => ?_)
          have hs := hs.trans hs1
          clear hs1
          refine stepX (ex_call rfl) (by exact hg) hw (wanted_none rfl) rfl (fun t65 h_14 wh_14 hw hs1 hg => ?_)
          have hs := hs.trans hs1
          clear hs1
          refine stepP rfl (by exact hg) (wanted_none rfl) rfl (fun t66 hg => ?_)
          refine stepEnd ?_
          refine thenN ?_
          refine codeCond hg rfl (fun hb hg1 => ?_) (fun hb hg1 => ?_)
          · clear hg; subst hb; have hg := hg1; clear hg1
            refine wp_seq ?_
            refine region_seq ?_
            refine stepM (v := (.bool false)) (by first | exact .inl rfl | exact .inr rfl) (wanted_none rfl) rfl rfl ?_
            refine stepEnd ?_
            refine thenN ?_
            refine wp_ret ?_
            refine thenR ?_
            exact post_ret (res_tmp Try.results4 rfl rfl) ⟨_, rfl, hs, by rw [hw]; exact hg⟩
          · clear hg; subst hb; have hg := hg1; clear hg1
            refine wp_skip ?_
            refine thenN ?_
            refine wp_seq ?_
            refine wp_seq ?_
            refine region_seq ?_
            refine stepM (v := (.int .i64 0)) (by first | exact .inl rfl | exact .inr rfl) (wanted_none rfl) rfl rfl ?_
            refine stepEnd ?_
            refine thenN ?_
            refine wp_block ?_
            obtain ⟨I, m0, hI0, hround⟩ := hg
            refine wp_loop_m (fun m a w' => ∃ (x12 : Value) (f : Nat → Value), a = mk 98 (ovr [(12, x12), (0, v0), (9, t44), (10, t47)] f) ∧ SameW w w' ∧ I m x12 w'.heap) m0 ⟨(.int .i64 0), _, mk_ovr ⟨rfl, rfl, rfl, rfl, trivial⟩, hs, by rw [hw]; exact hI0⟩ ?_
            rintro m _ wl ⟨x12, f, rfl, hs, hI⟩
            obtain ⟨h_15, hw⟩ : ∃ h', wl.heap = h' := ⟨_, rfl⟩
            rw [hw] at hI
            have hg := hround m _ _ hI
            clear hround hI hI0
            refine wp_seq ?_
            refine wp_seq ?_
            refine region_seq ?_
            refine stepM (v := x12) (by first | exact .inl rfl | exact .inr rfl) (wanted_none rfl) rfl rfl ?_
            refine stepM (v := v0) (by first | exact .inl rfl | exact .inr rfl) (wanted_none rfl) rfl rfl ?_
            refine stepP rfl (by exact hg) (wanted_none rfl) rfl (fun t69 hg => ?_)
            refine stepP rfl (by exact hg) (wanted_none rfl) rfl (fun t70 hg => ?_)
            refine stepP rfl (by exact hg) (wanted_none rfl) rfl (fun t71 hg => ?_)
            refine stepP rfl (by exact hg) (wanted_none rfl) rfl (fun t72 hg => ?_)
            refine stepEnd ?_
            refine thenN ?_
            refine codeCond hg rfl (fun hb hg1 => ?_) (fun hb hg1 => ?_)
            · clear hg; subst hb; have hg := hg1; clear hg1
              refine wp_skip ?_
              refine thenN ?_
              refine wp_seq ?_
              refine wp_block ?_
              refine wp_seq ?_
              refine region_seq ?_
              refine stepM (v := x12) (by first | exact .inl rfl | exact .inr rfl) (wanted_none rfl) rfl rfl ?_
              refine stepP rfl (by exact hg) (wanted_none rfl) rfl (fun t76 hg => ?_)
              refine stepP rfl (by exact hg) (wanted_none rfl) rfl (fun t77 hg => ?_)
              refine stepX (ex_buildSlice rfl) (by exact hg) hw (wanted_none rfl) rfl (fun t78 h_16 wh_16 hw hs1 hg => ?_)
              have hs := hs.trans hs1
              clear hs1
              refine stepX rfl (by exact hg) hw (wanted_none rfl) rfl (fun t79 h_17 wh_17 hw hs1 hg => ?_)
              have hs := hs.trans hs1
              clear hs1
              refine stepM (v := t79) (by first | exact .inl rfl | exact .inr rfl) (wanted_none rfl) rfl rfl ?_
              refine stepEnd ?_
              refine thenN ?_
              refine wp_seq ?_
              refine region_seq ?_
              refine stepM (v := t44) (by first | exact .inl rfl | exact .inr rfl) (wanted_none rfl) rfl rfl ?_
              refine stepM (v := t79) (by first | exact .inl rfl | exact .inr rfl) (wanted_none rfl) rfl rfl ?_
              refine stepX (ex_call rfl) (by exact hg) hw (wanted_none rfl) rfl (fun t82 h_18 wh_18 hw hs1 hg => ?_)
              have hs := hs.trans hs1
              clear hs1
              refine stepM (v := t47) (by first | exact .inl rfl | exact .inr rfl) (wanted_none rfl) rfl rfl ?_
              refine stepM (v := t79) (by first | exact .inl rfl | exact .inr rfl) (wanted_none rfl) rfl rfl ?_
              refine stepX (ex_call rfl) (by exact hg) hw (wanted_none rfl) rfl (fun t85 h_19 wh_19 hw hs1 hg => ?_)
              have hs := hs.trans hs1
              clear hs1
              refine stepX (ex_call rfl) (by exact hg) hw (wanted_none rfl) rfl (fun t86 h_20 wh_20 hw hs1 hg => ?_)
              have hs := hs.trans hs1
              clear hs1
              refine stepP rfl (by exact hg) (wanted_none rfl) rfl (fun t87 hg => ?_)
              refine stepM (v := t87) (by first | exact .inl rfl | exact .inr rfl) (wanted_none rfl) rfl rfl ?_
              obtain ⟨k, hk, hg⟩ := join_elim hg
              refine list_join 8 (fun K_k hK_k => ?_)
              have hj_k : ∀ (x96 : Value) (h_21 : Heap) (w' : World), w'.heap = h_21 → SameW w w' → k x96 h_21 → ∀ f, K_k (mk 98 (ovr [(96, x96), (0, v0), (9, t44), (10, t47), (12, x12), (88, t87)] f)) w' := by
                intro x96 h_21 wj hw hs hg f
                rw [hk] at hg
                refine hK_k _ _ ?_
                refine stepP rfl (by exact hg) (wanted_none rfl) rfl (fun t97 hg => ?_)
                refine stepEnd ?_
                refine thenN ?_
                refine codeCond hg rfl (fun hb hg1 => ?_) (fun hb hg1 => ?_)
                · clear hg; subst hb; have hg := hg1; clear hg1
                  refine wp_seq ?_
                  refine region_seq ?_
                  refine stepM (v := (.bool false)) (by first | exact .inl rfl | exact .inr rfl) (wanted_none rfl) rfl rfl ?_
                  refine stepEnd ?_
                  refine thenN ?_
                  refine wp_ret ?_
                  refine blkR ?_
                  refine thenR ?_
                  refine thenR ?_
                  refine blkR ?_
                  refine thenR ?_
                  exact post_ret (res_tmp Try.results4 rfl rfl) ⟨_, rfl, hs, by rw [hw]; exact hg⟩
                · clear hg; subst hb; have hg := hg1; clear hg1
                  refine wp_skip ?_
                  refine blkN ?_
                  refine thenN ?_
                  refine region_seq ?_
                  refine stepM (v := x12) (by first | exact .inl rfl | exact .inr rfl) (wanted_none rfl) rfl rfl ?_
                  refine stepP rfl (by exact hg) (wanted_none rfl) rfl (fun t74 hg => ?_)
                  refine stepM (v := t74) (by first | exact .inl rfl | exact .inr rfl) (wanted_none rfl) rfl rfl ?_
                  refine stepEnd ?_
                  obtain ⟨m', hlt, hI⟩ := hg
                  exact thenN ⟨m', hlt, t74, _, mk_ovr ⟨rfl, rfl, rfl, rfl, trivial⟩, hs, by rw [hw]; exact hI⟩
              clear hk hK_k
              refine cond_split hg (fun hb hg1 => ?_) (fun hb hg1 => ?_)
              · clear hg; subst hb; have hg := hg1; clear hg1
                refine stepSkip (wanted_noF rfl rfl rfl rfl) rfl ?_
                refine stepSkip (wanted_noF rfl rfl rfl rfl) rfl ?_
                refine stepSkip (wanted_noF rfl rfl rfl rfl) rfl ?_
                refine stepSkip (wanted_noF rfl rfl rfl rfl) rfl ?_
                refine stepSkip (wanted_noF rfl rfl rfl rfl) rfl ?_
                refine stepSkip (wanted_noF rfl rfl rfl rfl) rfl ?_
                refine stepSkip (wanted_noF rfl rfl rfl rfl) rfl ?_
                refine stepSkip (wanted_noF rfl rfl rfl rfl) rfl ?_
                refine stepEnd ?_
                refine thenN ?_
                exact at_ovr (hj_k undef h_20 _ hw hs hg) ⟨rfl, rfl, rfl, rfl, rfl, rfl, trivial⟩
              · clear hg; subst hb; have hg := hg1; clear hg1
                refine stepM (v := t44) (by first | exact .inl rfl | exact .inr rfl) (wanted_yes rfl rfl rfl rfl) rfl rfl ?_
                refine stepM (v := t79) (by first | exact .inl rfl | exact .inr rfl) (wanted_yes rfl rfl rfl rfl) rfl rfl ?_
                refine stepX (ex_call rfl) (by exact hg) hw (wanted_yes rfl rfl rfl rfl) rfl (fun t91 h_22 wh_22 hw hs1 hg => ?_)
                have hs := hs.trans hs1
                clear hs1
                refine stepM (v := t47) (by first | exact .inl rfl | exact .inr rfl) (wanted_yes rfl rfl rfl rfl) rfl rfl ?_
                refine stepM (v := t79) (by first | exact .inl rfl | exact .inr rfl) (wanted_yes rfl rfl rfl rfl) rfl rfl ?_
                refine stepX (ex_call rfl) (by exact hg) hw (wanted_yes rfl rfl rfl rfl) rfl (fun t94 h_23 wh_23 hw hs1 hg => ?_)
                have hs := hs.trans hs1
                clear hs1
                refine stepX (ex_call rfl) (by exact hg) hw (wanted_yes rfl rfl rfl rfl) rfl (fun t95 h_24 wh_24 hw hs1 hg => ?_)
                have hs := hs.trans hs1
                clear hs1
                refine stepP rfl (by exact hg) (wanted_yes rfl rfl rfl rfl) rfl (fun t96 hg => ?_)
                refine stepEnd ?_
                refine thenN ?_
                exact at_ovr (hj_k t96 h_24 _ hw hs hg) ⟨rfl, rfl, rfl, rfl, rfl, rfl, trivial⟩
            · clear hg; subst hb; have hg := hg1; clear hg1
              refine wp_exit ?_
              refine thenE ?_
              refine thenE ?_
              refine blkE ?_
              refine thenN ?_
              refine wp_seq ?_
              refine region_seq ?_
              refine stepM (v := (.bool true)) (by first | exact .inl rfl | exact .inr rfl) (wanted_none rfl) rfl rfl ?_
              refine stepEnd ?_
              refine thenN ?_
              refine wp_ret ?_
              exact post_ret (res_tmp Try.results4 rfl rfl) ⟨_, rfl, hs, by rw [hw]; exact hg⟩

/-- augur/augurlaw11.CallsBack -/
def g_augurlaw11_CallsBack (v0 v1 : Value) (h : Heap) (R : Value → Heap → Prop) : Prop :=
  oCall Try.prog (.func (.func 7) #[] #[]) #[] h fun t10 h => 
  oUn Try.prog .not t10 fun t11 =>
  cond t11
   (R (.bool false) h)
   (oLen Try.prog #[22] 3 v1 fun t13 =>
   oBin Try.prog .gtr 3 (.tmp 13) (.const (.int .i64 30)) t13 (.int .i64 30) fun t14 =>
   cond t14
    (R (.bool true) h)
    (oCall Try.prog (.func (.func 8) #[] #[]) #[v0, v1] h fun t17 h_1 => 
    loop1 (.int .i64 0) h_1 fun x6 h_2 next =>
     oBin Try.prog .rem 5 (.tmp 19) (.const (.int .u8 9)) v0 (.int .u8 9) fun t20 =>
     oConv Try.prog 5 3 t20 fun t21 =>
     oBin Try.prog .add 3 (.tmp 21) (.const (.int .i64 1)) t21 (.int .i64 1) fun t22 =>
     oBin Try.prog .lss 3 (.tmp 18) (.tmp 22) x6 t22 fun t23 =>
     cond t23
      (loop1 (.int .i64 0) h_2 fun x7 h_3 next_1 =>
       oBin Try.prog .rem 5 (.tmp 27) (.const (.int .u8 9)) v0 (.int .u8 9) fun t28 =>
       oConv Try.prog 5 3 t28 fun t29 =>
       oBin Try.prog .add 3 (.tmp 29) (.const (.int .i64 1)) t29 (.int .i64 1) fun t30 =>
       oBin Try.prog .lss 3 (.tmp 26) (.tmp 30) x7 t30 fun t31 =>
       cond t31
        (join (fun (x8 x9 : Value) (h_4 : Heap) =>
         oCall Try.prog (.func (.func 11) #[] #[]) #[t17, x8] h_4 fun t46 h_5 => 
         oCall Try.prog (.func (.func 10) #[] #[]) #[t46, x9] h_5 fun t48 h_6 => 
         oCall Try.prog (.func (.func 14) #[] #[]) #[t17, x9] h_6 fun t51 h_7 => 
         oCall Try.prog (.func (.func 10) #[] #[]) #[t51, x8] h_7 fun t53 h_8 => 
         oBin Try.prog .neq 4 (.tmp 48) (.tmp 53) t48 t53 fun t54 =>
         cond t54
          (R (.bool false) h_8)
          (oBin Try.prog .add 3 (.tmp 32) (.const (.int .i64 1)) x7 (.int .i64 1) fun t33 =>
          next_1 t33 h_8))
         fun k =>
         oBin Try.prog .add 3 (.const (.int .i64 97)) (.tmp 34) (.int .i64 97) x6 fun t35 =>
         oConv Try.prog 3 5 t35 fun t36 =>
         oBin Try.prog .add 3 (.const (.int .i64 97)) (.tmp 39) (.int .i64 97) x7 fun t40 =>
         oConv Try.prog 3 5 t40 fun t41 =>
          (oBuildSlice Try.prog 31 1 #[(0, t36)] h_3 fun t37 h_9 => Ext h_3 h_9 ∧
          oConvQ Try.prog 31 9 t37 (Ext h_9) fun t38 =>
          oBuildSlice Try.prog 31 1 #[(0, t41)] h_9 fun t42 h_10 => Ext h_9 h_10 ∧
          oConvQ Try.prog 31 9 t42 (Ext h_10) fun t43 =>
          k t38 t43 h_10) ∧
          (oBuildSlice Try.prog 31 1 #[(0, t41)] h_3 fun t42_1 h_11 => Ext h_3 h_11 ∧
          oConvQ Try.prog 31 9 t42_1 (Ext h_11) fun t43_1 =>
          oBuildSlice Try.prog 31 1 #[(0, t36)] h_11 fun t37_1 h_12 => Ext h_11 h_12 ∧
          oConvQ Try.prog 31 9 t37_1 (Ext h_12) fun t38_1 =>
          k t38_1 t43_1 h_12))
        (oBin Try.prog .add 3 (.tmp 24) (.const (.int .i64 1)) x6 (.int .i64 1) fun t25 =>
        next t25 h_3))
      (R (.bool true) h_2)))

set_option maxRecDepth 100000 in
set_option maxHeartbeats 2000000 in
theorem sh_augurlaw11_CallsBack {v0 v1 : Value} {h : Heap} {R : Value → Heap → Prop} (hg : g_augurlaw11_CallsBack v0 v1 h R) : HC Try.prog 5 #[v0, v1] h R := by
  refine hc_of_wp (n := 55) (f := ovr [(0, v0), (1, v1)] fun _ => undef) Try.func5 rfl rfl (by kernel_rfl) (fun w hw => ?_)
  have hs := SameW.refl w
  unfold g_augurlaw11_CallsBack at hg
  refine wp_seq ?_
  refine region_seq ?_
  refine stepM (v := (.bool false)) (by first | exact .inl rfl | exact .inr rfl) (wanted_none rfl) rfl rfl ?_
  refine stepEnd ?_
  refine thenN ?_
  refine wp_seq ?_
  refine wp_seq ?_
  refine region_seq ?_
  refine stepX (ex_call rfl) (by exact hg) hw (wanted_none rfl) rfl (fun t10 h wh hw hs1 hg => ?_)
  have hs := hs.trans hs1
  clear hs1
  refine stepP rfl (by exact hg) (wanted_none rfl) rfl (fun t11 hg => ?_)
  refine stepEnd ?_
  refine thenN ?_
  refine codeCond hg rfl (fun hb hg1 => ?_) (fun hb hg1 => ?_)
  · clear hg; subst hb; have hg := hg1; clear hg1
    refine wp_seq ?_
    refine region_seq ?_
    refine stepM (v := (.bool false)) (by first | exact .inl rfl | exact .inr rfl) (wanted_none rfl) rfl rfl ?_
    refine stepEnd ?_
    refine thenN ?_
    refine wp_ret ?_
    refine thenR ?_
    exact post_ret (res_tmp Try.results5 rfl rfl) ⟨_, rfl, hs, by rw [hw]; exact hg⟩
  · clear hg; subst hb; have hg := hg1; clear hg1
    refine wp_skip ?_
    refine thenN ?_
    refine wp_seq ?_
    refine wp_seq ?_
    refine region_seq ?_
    refine stepM (v := v1) (by first | exact .inl rfl | exact .inr rfl) (wanted_none rfl) rfl rfl ?_
    refine stepP (ex_blt rfl) (by exact hg) (wanted_none rfl) rfl (fun t13 hg => ?_)
    refine stepP rfl (by exact hg) (wanted_none rfl) rfl (fun t14 hg => ?_)
    refine stepEnd ?_
    refine thenN ?_
    refine codeCond hg rfl (fun hb hg1 => ?_) (fun hb hg1 => ?_)
    · clear hg; subst hb; have hg := hg1; clear hg1
      refine wp_seq ?_
      refine region_seq ?_
      refine stepM (v := (.bool true)) (by first | exact .inl rfl | exact .inr rfl) (wanted_none rfl) rfl rfl ?_
      refine stepEnd ?_
      refine thenN ?_
      refine wp_ret ?_
      refine thenR ?_
      exact post_ret (res_tmp Try.results5 rfl rfl) ⟨_, rfl, hs, by rw [hw]; exact hg⟩
    · clear hg; subst hb; have hg := hg1; clear hg1
      refine wp_skip ?_
      refine thenN ?_
      refine wp_seq ?_
      refine region_seq ?_
      refine stepM (v := v0) (by first | exact .inl rfl | exact .inr rfl) (wanted_none rfl) rfl rfl ?_
      refine stepM (v := v1) (by first | exact .inl rfl | exact .inr rfl) (wanted_none rfl) rfl rfl ?_
      refine stepX (ex_call rfl) (by exact hg) hw (wanted_none rfl) rfl (fun t17 h_1 wh_1 hw hs1 hg => ?_)
      have hs := hs.trans hs1
      clear hs1
      refine stepM (v := t17) (by first | exact .inl rfl | exact .inr rfl) (wanted_none rfl) rfl rfl ?_
      refine stepEnd ?_
      refine thenN ?_
      refine wp_seq ?_
      refine wp_seq ?_
      refine region_seq ?_
      refine stepM (v := (.int .i64 0)) (by first | exact .inl rfl | exact .inr rfl) (wanted_none rfl) rfl rfl ?_
      refine stepEnd ?_
      refine thenN ?_
      refine wp_block ?_
      obtain ⟨I, m0, hI0, hround⟩ := hg
      refine wp_loop_m (fun m a w' => ∃ (x6 : Value) (f : Nat → Value), a = mk 55 (ovr [(6, x6), (0, v0), (5, t17)] f) ∧ SameW w w' ∧ I m x6 w'.heap) m0 ⟨(.int .i64 0), _, mk_ovr ⟨rfl, rfl, rfl, trivial⟩, hs, by rw [hw]; exact hI0⟩ ?_
      rintro m _ wl ⟨x6, f, rfl, hs, hI⟩
      obtain ⟨h_2, hw⟩ : ∃ h', wl.heap = h' := ⟨_, rfl⟩
      rw [hw] at hI
      have hg := hround m _ _ hI
      clear hround hI hI0
      refine wp_seq ?_
      refine wp_seq ?_
      refine region_seq ?_
      refine stepM (v := x6) (by first | exact .inl rfl | exact .inr rfl) (wanted_none rfl) rfl rfl ?_
      refine stepM (v := v0) (by first | exact .inl rfl | exact .inr rfl) (wanted_none rfl) rfl rfl ?_
      refine stepP rfl (by exact hg) (wanted_none rfl) rfl (fun t20 hg => ?_)
      refine stepP rfl (by exact hg) (wanted_none rfl) rfl (fun t21 hg => ?_)
      refine stepP rfl (by exact hg) (wanted_none rfl) rfl (fun t22 hg => ?_)
      refine stepP rfl (by exact hg) (wanted_none rfl) rfl (fun t23 hg => ?_)
      refine stepEnd ?_
      refine thenN ?_
      refine codeCond hg rfl (fun hb hg1 => ?_) (fun hb hg1 => ?_)
      · clear hg; subst hb; have hg := hg1; clear hg1
        refine wp_skip ?_
        refine thenN ?_
        refine wp_seq ?_
        refine wp_block ?_
        refine wp_seq ?_
        refine region_seq ?_
        refine stepM (v := (.int .i64 0)) (by first | exact .inl rfl | exact .inr rfl) (wanted_none rfl) rfl rfl ?_
        refine stepEnd ?_
        refine thenN ?_
        refine wp_block ?_
        obtain ⟨I, m0, hI0, hround⟩ := hg
        refine wp_loop_m (fun m a w' => ∃ (x7 : Value) (f : Nat → Value), a = mk 55 (ovr [(7, x7), (0, v0), (5, t17), (6, x6)] f) ∧ SameW w w' ∧ I m x7 w'.heap) m0 ⟨(.int .i64 0), _, mk_ovr ⟨rfl, rfl, rfl, rfl, trivial⟩, hs, by rw [hw]; exact hI0⟩ ?_
        rintro m _ wl ⟨x7, f, rfl, hs, hI⟩
        obtain ⟨h_3, hw⟩ : ∃ h', wl.heap = h' := ⟨_, rfl⟩
        rw [hw] at hI
        have hg := hround m _ _ hI
        clear hround hI hI0
        refine wp_seq ?_
        refine wp_seq ?_
        refine region_seq ?_
        refine stepM (v := x7) (by first | exact .inl rfl | exact .inr rfl) (wanted_none rfl) rfl rfl ?_
        refine stepM (v := v0) (by first | exact .inl rfl | exact .inr rfl) (wanted_none rfl) rfl rfl ?_
        refine stepP rfl (by exact hg) (wanted_none rfl) rfl (fun t28 hg => ?_)
        refine stepP rfl (by exact hg) (wanted_none rfl) rfl (fun t29 hg => ?_)
        refine stepP rfl (by exact hg) (wanted_none rfl) rfl (fun t30 hg => ?_)
        refine stepP rfl (by exact hg) (wanted_none rfl) rfl (fun t31 hg => ?_)
        refine stepEnd ?_
        refine thenN ?_
        refine codeCond hg rfl (fun hb hg1 => ?_) (fun hb hg1 => ?_)
        · clear hg; subst hb; have hg := hg1; clear hg1
          refine wp_skip ?_
          refine thenN ?_
          refine wp_seq ?_
          refine wp_block ?_
          refine wp_seq ?_
          obtain ⟨k, hk, hg⟩ := join_elim hg
          refine region_exp_k (by kernel_rfl) (by repeat (first | exact panicOk_base | apply panicOk_then | apply panicOk_blk)) (fun K_k hK_k hpok wm hs1 hw1 => ?_)
          have hj_k : ∀ (x8 x9 : Value) (h_4 : Heap) (w' : World), w'.heap = h_4 → SameW w w' → k x8 x9 h_4 → ∀ f, K_k .normal (mk 55 (ovr [(8, x8), (9, x9), (0, v0), (5, t17), (6, x6), (7, x7)] f)) w' := by
            intro x8 x9 h_4 wj hw hs hg f
            rw [hk] at hg
            refine hK_k _ _ ?_
            refine thenN ?_
            refine wp_seq ?_
            refine region_seq ?_
            refine stepM (v := t17) (by first | exact .inl rfl | exact .inr rfl) (wanted_none rfl) rfl rfl ?_
            refine stepM (v := x8) (by first | exact .inl rfl | exact .inr rfl) (wanted_none rfl) rfl rfl ?_
            refine stepX (ex_call rfl) (by exact hg) hw (wanted_none rfl) rfl (fun t46 h_5 wh_5 hw hs1 hg => ?_)
            have hs := hs.trans hs1
            clear hs1
            refine stepM (v := x9) (by first | exact .inl rfl | exact .inr rfl) (wanted_none rfl) rfl rfl ?_
            refine stepX (ex_call rfl) (by exact hg) hw (wanted_none rfl) rfl (fun t48 h_6 wh_6 hw hs1 hg => ?_)
            have hs := hs.trans hs1
            clear hs1
            refine stepM (v := t17) (by first | exact .inl rfl | exact .inr rfl) (wanted_none rfl) rfl rfl ?_
            refine stepM (v := x9) (by first | exact .inl rfl | exact .inr rfl) (wanted_none rfl) rfl rfl ?_
            refine stepX (ex_call rfl) (by exact hg) hw (wanted_none rfl) rfl (fun t51 h_7 wh_7 hw hs1 hg => ?_)
            have hs := hs.trans hs1
            clear hs1
            refine stepM (v := x8) (by first | exact .inl rfl | exact .inr rfl) (wanted_none rfl) rfl rfl ?_
            refine stepX (ex_call rfl) (by exact hg) hw (wanted_none rfl) rfl (fun t53 h_8 wh_8 hw hs1 hg => ?_)
            have hs := hs.trans hs1
            clear hs1
            refine stepP rfl (by exact hg) (wanted_none rfl) rfl (fun t54 hg => ?_)
            refine stepEnd ?_
            refine thenN ?_
            refine codeCond hg rfl (fun hb hg1 => ?_) (fun hb hg1 => ?_)
            · clear hg; subst hb; have hg := hg1; clear hg1
              refine wp_seq ?_
              refine region_seq ?_
              refine stepM (v := (.bool false)) (by first | exact .inl rfl | exact .inr rfl) (wanted_none rfl) rfl rfl ?_
              refine stepEnd ?_
              refine thenN ?_
              refine wp_ret ?_
              refine blkR ?_
              refine thenR ?_
              refine thenR ?_
              refine blkR ?_
              refine blkR ?_
              refine thenR ?_
              refine thenR ?_
              refine blkR ?_
              refine thenR ?_
              exact post_ret (res_tmp Try.results5 rfl rfl) ⟨_, rfl, hs, by rw [hw]; exact hg⟩
            · clear hg; subst hb; have hg := hg1; clear hg1
              refine wp_skip ?_
              refine blkN ?_
              refine thenN ?_
              refine region_seq ?_
              refine stepM (v := x7) (by first | exact .inl rfl | exact .inr rfl) (wanted_none rfl) rfl rfl ?_
              refine stepP rfl (by exact hg) (wanted_none rfl) rfl (fun t33 hg => ?_)
              refine stepM (v := t33) (by first | exact .inl rfl | exact .inr rfl) (wanted_none rfl) rfl rfl ?_
              refine stepEnd ?_
              obtain ⟨m', hlt, hI⟩ := hg
              exact thenN ⟨m', hlt, t33, _, mk_ovr ⟨rfl, rfl, rfl, rfl, trivial⟩, hs, by rw [hw]; exact hI⟩
          have hw := hw1.trans hw
          have hs := hs.trans hs1
          clear hs1 hw1 hk hK_k
          refine expM (v := x6) (i := 0) rfl (by kernel_rfl) (show _ = #[true, false, false, false, false, false, false, false, false, false, false, false] from rfl) hpok (by first | exact .inl rfl | exact .inr rfl) (wanted_none rfl) rfl rfl ?_
          refine expP (i := 1) rfl (by kernel_rfl) (show _ = #[true, true, false, false, false, false, false, false, false, false, false, false] from rfl) hpok rfl (by exact hg) (wanted_none rfl) rfl (fun t35 hg => ?_)
          refine expP (i := 2) rfl (by kernel_rfl) (show _ = #[true, true, true, false, false, false, false, false, false, false, false, false] from rfl) hpok rfl (by exact hg) (wanted_none rfl) rfl (fun t36 hg => ?_)
          refine expM (v := x7) (i := 5) rfl (by kernel_rfl) (show _ = #[true, true, true, false, false, true, false, false, false, false, false, false] from rfl) hpok (by first | exact .inl rfl | exact .inr rfl) (wanted_none rfl) rfl rfl ?_
          refine expP (i := 6) rfl (by kernel_rfl) (show _ = #[true, true, true, false, false, true, true, false, false, false, false, false] from rfl) hpok rfl (by exact hg) (wanted_none rfl) rfl (fun t40 hg => ?_)
          refine expP (i := 7) rfl (by kernel_rfl) (show _ = #[true, true, true, false, false, true, true, true, false, false, false, false] from rfl) hpok rfl (by exact hg) (wanted_none rfl) rfl (fun t41 hg => ?_)
          obtain ⟨hg0, hg1⟩ := hg
          refine expAll2 3 8 (by kernel_rfl) ?_ ?_
          · have hg := hg0
            clear hg0 hg1
            refine expX (i := 3) rfl (show _ = #[true, true, true, true, false, true, true, true, false, false, false, false] from rfl) (ex_buildSlice rfl) (by exact hg) hw (wanted_none rfl) rfl (fun t37 h_9 wh_9 hw hs1 hg => ?_)
            have hs := hs.trans hs1
            clear hs1
            refine expQ (i := 4) rfl (by kernel_rfl) (show _ = #[true, true, true, true, true, true, true, true, false, false, false, false] from rfl) hpok rfl (by exact hg) hw (wanted_none rfl) rfl (fun t38 hg => ?_)
            refine expM (v := t38) (i := 10) rfl (by kernel_rfl) (show _ = #[true, true, true, true, true, true, true, true, false, false, true, false] from rfl) hpok (by first | exact .inl rfl | exact .inr rfl) (wanted_none rfl) rfl rfl ?_
            refine expAll1 8 (by kernel_rfl) ?_
            refine expX (i := 8) rfl (show _ = #[true, true, true, true, true, true, true, true, true, false, true, false] from rfl) (ex_buildSlice rfl) (by exact hg) hw (wanted_none rfl) rfl (fun t42 h_10 wh_10 hw hs1 hg => ?_)
            have hs := hs.trans hs1
            clear hs1
            refine expQ (i := 9) rfl (by kernel_rfl) (show _ = #[true, true, true, true, true, true, true, true, true, true, true, false] from rfl) hpok rfl (by exact hg) hw (wanted_none rfl) rfl (fun t43 hg => ?_)
            refine expM (v := t43) (i := 11) rfl (by kernel_rfl) (show _ = #[true, true, true, true, true, true, true, true, true, true, true, true] from rfl) hpok (by first | exact .inl rfl | exact .inr rfl) (wanted_none rfl) rfl rfl ?_
            refine expEnd (by kernel_rfl) ?_
            exact at_ovrN (hj_k t38 t43 h_10 _ hw hs hg) ⟨rfl, rfl, rfl, rfl, rfl, rfl, trivial⟩
          · have hg := hg1
            clear hg0 hg1
            refine expX (i := 8) rfl (show _ = #[true, true, true, false, false, true, true, true, true, false, false, false] from rfl) (ex_buildSlice rfl) (by exact hg) hw (wanted_none rfl) rfl (fun t42_1 h_11 wh_11 hw hs1 hg => ?_)
            have hs := hs.trans hs1
            clear hs1
            refine expQ (i := 9) rfl (by kernel_rfl) (show _ = #[true, true, true, false, false, true, true, true, true, true, false, false] from rfl) hpok rfl (by exact hg) hw (wanted_none rfl) rfl (fun t43_1 hg => ?_)
            refine expAll1 3 (by kernel_rfl) ?_
            refine expX (i := 3) rfl (show _ = #[true, true, true, true, false, true, true, true, true, true, false, false] from rfl) (ex_buildSlice rfl) (by exact hg) hw (wanted_none rfl) rfl (fun t37_1 h_12 wh_12 hw hs1 hg => ?_)
            have hs := hs.trans hs1
            clear hs1
            refine expQ (i := 4) rfl (by kernel_rfl) (show _ = #[true, true, true, true, true, true, true, true, true, true, false, false] from rfl) hpok rfl (by exact hg) hw (wanted_none rfl) rfl (fun t38_1 hg => ?_)
            refine expM (v := t38_1) (i := 10) rfl (by kernel_rfl) (show _ = #[true, true, true, true, true, true, true, true, true, true, true, false] from rfl) hpok (by first | exact .inl rfl | exact .inr rfl) (wanted_none rfl) rfl rfl ?_
            refine expM (v := t43_1) (i := 11) rfl (by kernel_rfl) (show _ = #[true, true, true, true, true, true, true, true, true, true, true, true] from rfl) hpok (by first | exact .inl rfl | exact .inr rfl) (wanted_none rfl) rfl rfl ?_
            refine expEnd (by kernel_rfl) ?_
            exact at_ovrN (hj_k t38_1 t43_1 h_12 _ hw hs hg) ⟨rfl, rfl, rfl, rfl, rfl, rfl, trivial⟩
        · clear hg; subst hb; have hg := hg1; clear hg1
          refine wp_exit ?_
          refine thenE ?_
          refine thenE ?_
          refine blkE ?_
          refine blkN ?_
          refine thenN ?_
          refine region_seq ?_
          refine stepM (v := x6) (by first | exact .inl rfl | exact .inr rfl) (wanted_none rfl) rfl rfl ?_
          refine stepP rfl (by exact hg) (wanted_none rfl) rfl (fun t25 hg => ?_)
          refine stepM (v := t25) (by first | exact .inl rfl | exact .inr rfl) (wanted_none rfl) rfl rfl ?_
          refine stepEnd ?_
          obtain ⟨m', hlt, hI⟩ := hg
          exact thenN ⟨m', hlt, t25, _, mk_ovr ⟨rfl, rfl, rfl, trivial⟩, hs, by rw [hw]; exact hI⟩
      · clear hg; subst hb; have hg := hg1; clear hg1
        refine wp_exit ?_
        refine thenE ?_
        refine thenE ?_
        refine blkE ?_
        refine thenN ?_
        refine wp_seq ?_
        refine region_seq ?_
        refine stepM (v := (.bool true)) (by first | exact .inl rfl | exact .inr rfl) (wanted_none rfl) rfl rfl ?_
        refine stepEnd ?_
        refine thenN ?_
        refine wp_ret ?_
        exact post_ret (res_tmp Try.results5 rfl rfl) ⟨_, rfl, hs, by rw [hw]; exact hg⟩

/-- augur/augurlaw11.CallsAlone -/
def g_augurlaw11_CallsAlone (v0 v1 v2 : Value) (h : Heap) (R : Value → Heap → Prop) : Prop :=
  oCall Try.prog (.func (.func 7) #[] #[]) #[] h fun t18 h => 
  oUn Try.prog .not t18 fun t19 =>
  cond t19
   (R (.bool false) h)
   (oBin Try.prog .rem 5 (.tmp 20) (.const (.int .u8 12)) v0 (.int .u8 12) fun t21 =>
   oConv Try.prog 5 3 t21 fun t22 =>
   oBin Try.prog .add 3 (.tmp 22) (.const (.int .i64 2)) t22 (.int .i64 2) fun t23 =>
   oMkMap Try.prog 24 none h fun t24 h_1 => 
   loop1 (.int .i64 0) h_1 fun x9 h_2 next =>
    oBin Try.prog .lss 3 (.tmp 25) (.tmp 26) x9 t23 fun t27 =>
    cond t27
     (join (fun (h_3 : Heap) =>
      oBin Try.prog .add 3 (.tmp 28) (.const (.int .i64 1)) x9 (.int .i64 1) fun t29 =>
      next t29 h_3)
      fun k =>
      oBin Try.prog .add 3 (.const (.int .i64 97)) (.tmp 31) (.int .i64 97) x9 fun t32 =>
      oConv Try.prog 3 5 t32 fun t33 =>
      oBuildSlice Try.prog 31 1 #[(0, t33)] h_2 fun t34 h_4 => 
      oConvX Try.prog 31 9 t34 h_4 fun t35 h_5 => 
      oUpd Try.prog 24 t24 t35 (.slice none 0 0) h_5 fun _ h_6 => 
      oBin Try.prog .add 3 (.tmp 36) (.const (.int .i64 1)) x9 (.int .i64 1) fun t37 =>
      oBin Try.prog .lss 3 (.tmp 37) (.tmp 38) t37 t23 fun t39 =>
      cond t39
       (oBin Try.prog .add 3 (.const (.int .i64 97)) (.tmp 41) (.int .i64 97) x9 fun t42 =>
       oConv Try.prog 3 5 t42 fun t43 =>
       oBuildSlice Try.prog 31 1 #[(0, t43)] h_6 fun t44 h_7 => 
       oConvX Try.prog 31 9 t44 h_7 fun t45 h_8 => 
       oBin Try.prog .add 3 (.const (.int .i64 97)) (.tmp 46) (.int .i64 97) x9 fun t47 =>
       oBin Try.prog .add 3 (.tmp 47) (.const (.int .i64 1)) t47 (.int .i64 1) fun t48 =>
       oConv Try.prog 3 5 t48 fun t49 =>
       oBuildSlice Try.prog 31 1 #[(0, t49)] h_8 fun t50 h_9 => 
       oConvX Try.prog 31 9 t50 h_9 fun t51 h_10 => 
       oBuildSlice Try.prog 29 1 #[(0, t51)] h_10 fun t52 h_11 => 
       oUpd Try.prog 24 t24 t45 t52 h_11 fun _ h_12 => 
       k h_12)
       (k h_6))
     (oCall Try.prog (.func (.func 9) #[] #[]) #[t24] h_2 fun t54 h_13 => 
     oLen Try.prog #[26] 3 t54 fun t56 =>
     oBin Try.prog .neq 3 (.tmp 56) (.tmp 57) t56 t23 fun t58 =>
     cond t58
      (R (.bool false) h_13)
      (loop1 (.int .i64 0) h_13 fun x11 h_14 next_1 =>
       oBin Try.prog .lss 3 (.tmp 59) (.tmp 60) x11 t23 fun t61 =>
       cond t61
        (drawn h_14 fun D =>
        oIdx Try.prog 26 t54 x11 fun t66 =>
        oLoad Try.prog 29 t66 D fun t67 =>
        oLen Try.prog #[29] 3 t67 fun t68 =>
        oBin Try.prog .neq 3 (.tmp 68) (.const (.int .i64 1)) t68 (.int .i64 1) fun t69 =>
        join (fun (x85 : Value) (h_15 : Heap) =>
         oPick Try.prog t69 (.bool true) x85 fun t86 =>
         cond t86
          (R (.bool false) h_15)
          (oBin Try.prog .add 3 (.tmp 62) (.const (.int .i64 1)) x11 (.int .i64 1) fun t63 =>
          next_1 t63 h_15))
         fun k_1 =>
        cond t69
         (k_1 undef h_14)
         (oIdx Try.prog 26 t54 x11 fun t73 =>
         oLoad Try.prog 29 t73 D fun t74 =>
         oIdx Try.prog 29 t74 (.int .i64 0) fun t75 =>
         oLoad Try.prog 9 t75 D fun t76 =>
         oBin Try.prog .add 3 (.const (.int .i64 97)) (.tmp 77) (.int .i64 97) t23 fun t78 =>
         oBin Try.prog .sub 3 (.tmp 78) (.const (.int .i64 1)) t78 (.int .i64 1) fun t79 =>
         oBin Try.prog .sub 3 (.tmp 79) (.tmp 80) t79 x11 fun t81 =>
         oConv Try.prog 3 5 t81 fun t82 =>
         oBuildSlice Try.prog 31 1 #[(0, t82)] h_14 fun t83 h_16 => D h_16 ∧ 
         oConvX Try.prog 31 9 t83 h_16 fun t84 h_17 => D h_17 ∧ 
         oBin Try.prog .neq 9 (.tmp 76) (.tmp 84) t76 t84 fun t85 =>
         k_1 t85 h_17))
        (oConv Try.prog 5 3 v1 fun t88 =>
        oBin Try.prog .rem 3 (.tmp 88) (.tmp 89) t88 t23 fun t90 =>
        oConv Try.prog 5 3 v2 fun t92 =>
        oBin Try.prog .rem 3 (.tmp 92) (.tmp 93) t92 t23 fun t94 =>
        oMin Try.prog #[3, 3] 3 #[t90, t94] fun t97 =>
        oMax Try.prog #[3, 3] 3 #[t90, t94] fun t100 =>
        oBin Try.prog .add 3 (.const (.int .i64 97)) (.tmp 101) (.int .i64 97) t100 fun t102 =>
        oConv Try.prog 3 5 t102 fun t103 =>
        oBuildSlice Try.prog 31 1 #[(0, t103)] h_14 fun t104 h_18 => 
        oConvX Try.prog 31 9 t104 h_18 fun t105 h_19 => 
        oBin Try.prog .add 3 (.const (.int .i64 97)) (.tmp 108) (.int .i64 97) t97 fun t109 =>
        oConv Try.prog 3 5 t109 fun t110 =>
        oBuildSlice Try.prog 31 1 #[(0, t110)] h_19 fun t111 h_20 => 
        oConvX Try.prog 31 9 t111 h_20 fun t112 h_21 => 
        oBuildSlice Try.prog 29 1 #[(0, t112)] h_21 fun t113 h_22 => 
        oLook Try.prog 24 t24 t105 false (Eq h_22) fun t116 =>
        oAppend Try.prog #[29, 29] 29 #[t113, t116] h_22 fun t117 h_23 => 
        oUpd Try.prog 24 t24 t105 t117 h_23 fun _ h_24 => 
        oCall Try.prog (.func (.func 9) #[] #[]) #[t24] h_24 fun t119 h_25 => 
        oLen Try.prog #[26] 3 t119 fun t121 =>
        oBin Try.prog .sub 3 (.tmp 123) (.tmp 124) t100 t97 fun t125 =>
        oBin Try.prog .sub 3 (.tmp 122) (.tmp 125) t23 t125 fun t126 =>
        oBin Try.prog .neq 3 (.tmp 121) (.tmp 126) t121 t126 fun t127 =>
        cond t127
         (R (.bool false) h_25)
         (loop1 (.int .i64 0) h_25 fun x17 h_26 next_2 =>
          oLen Try.prog #[26] 3 t119 fun t130 =>
          oBin Try.prog .lss 3 (.tmp 128) (.tmp 130) x17 t130 fun t131 =>
          cond t131
           (drawn h_26 fun D_1 =>
           oIdx Try.prog 26 t119 x17 fun t136 =>
           oLoad Try.prog 29 t136 D_1 fun t137 =>
           oLen Try.prog #[29] 3 t137 fun t138 =>
           oBin Try.prog .gtr 3 (.tmp 138) (.const (.int .i64 1)) t138 (.int .i64 1) fun t139 =>
           join (fun (x164 : Value) (h_27 : Heap) =>
            oPick Try.prog t139 x164 (.bool false) fun t165 =>
            cond t165
             (R (.bool false) h_27)
             (oBin Try.prog .add 3 (.tmp 132) (.const (.int .i64 1)) x17 (.int .i64 1) fun t133 =>
             next_2 t133 h_27))
            fun k_2 =>
           cond t139
            (oIdx Try.prog 26 t119 x17 fun t143 =>
            oLoad Try.prog 29 t143 D_1 fun t144 =>
            oLen Try.prog #[29] 3 t144 fun t145 =>
            oBin Try.prog .sub 3 (.tmp 146) (.tmp 147) t100 t97 fun t148 =>
            oBin Try.prog .add 3 (.tmp 148) (.const (.int .i64 1)) t148 (.int .i64 1) fun t149 =>
            oBin Try.prog .neq 3 (.tmp 145) (.tmp 149) t145 t149 fun t150 =>
            join (fun (x163 : Value) (h_28 : Heap) =>
             oPick Try.prog t150 (.bool true) x163 fun t164 =>
             k_2 t164 h_28)
             fun k_3 =>
            cond t150
             (k_3 undef h_26)
             (oIdx Try.prog 26 t119 x17 fun t154 =>
             oLoad Try.prog 29 t154 D_1 fun t155 =>
             oIdx Try.prog 29 t155 (.int .i64 0) fun t156 =>
             oLoad Try.prog 9 t156 D_1 fun t157 =>
             oBin Try.prog .add 3 (.const (.int .i64 97)) (.tmp 158) (.int .i64 97) t97 fun t159 =>
             oConv Try.prog 3 5 t159 fun t160 =>
             oBuildSlice Try.prog 31 1 #[(0, t160)] h_26 fun t161 h_29 => D_1 h_29 ∧ 
             oConvX Try.prog 31 9 t161 h_29 fun t162 h_30 => D_1 h_30 ∧ 
             oBin Try.prog .neq 9 (.tmp 157) (.tmp 162) t157 t162 fun t163 =>
             k_3 t163 h_30))
            (k_2 undef h_26))
           (R (.bool true) h_26))))))

set_option maxRecDepth 100000 in
set_option maxHeartbeats 2000000 in
theorem sh_augurlaw11_CallsAlone {v0 v1 v2 : Value} {h : Heap} {R : Value → Heap → Prop} (hg : g_augurlaw11_CallsAlone v0 v1 v2 h R) : HC Try.prog 6 #[v0, v1, v2] h R := by
  refine hc_of_wp (n := 166) (f := ovr [(0, v0), (1, v1), (2, v2)] fun _ => undef) Try.func6 rfl rfl (by kernel_rfl) (fun w hw => ?_)
  have hs := SameW.refl w
  unfold g_augurlaw11_CallsAlone at hg
  refine wp_seq ?_
  refine region_seq ?_
  refine stepM (v := (.bool false)) (by first | exact .inl rfl | exact .inr rfl) (wanted_none rfl) rfl rfl ?_
  refine stepEnd ?_
  refine thenN ?_
  refine wp_seq ?_
  refine wp_seq ?_
  refine region_seq ?_
  refine stepX (ex_call rfl) (by exact hg) hw (wanted_none rfl) rfl (fun t18 h wh hw hs1 hg => ?_)
  have hs := hs.trans hs1
  clear hs1
  refine stepP rfl (by exact hg) (wanted_none rfl) rfl (fun t19 hg => ?_)
  refine stepEnd ?_
  refine thenN ?_
  refine codeCond hg rfl (fun hb hg1 => ?_) (fun hb hg1 => ?_)
  · clear hg; subst hb; have hg := hg1; clear hg1
    refine wp_seq ?_
    refine region_seq ?_
    refine stepM (v := (.bool false)) (by first | exact .inl rfl | exact .inr rfl) (wanted_none rfl) rfl rfl ?_
    refine stepEnd ?_
    refine thenN ?_
    refine wp_ret ?_
    refine thenR ?_
    exact post_ret (res_tmp Try.results6 rfl rfl) ⟨_, rfl, hs, by rw [hw]; exact hg⟩
  · clear hg; subst hb; have hg := hg1; clear hg1
    refine wp_skip ?_
    refine thenN ?_
    refine wp_seq ?_
    refine region_seq ?_
    refine stepM (v := v0) (by first | exact .inl rfl | exact .inr rfl) (wanted_none rfl) rfl rfl ?_
    refine stepP rfl (by exact hg) (wanted_none rfl) rfl (fun t21 hg => ?_)
    refine stepP rfl (by exact hg) (wanted_none rfl) rfl (fun t22 hg => ?_)
    refine stepP rfl (by exact hg) (wanted_none rfl) rfl (fun t23 hg => ?_)
    refine stepM (v := t23) (by first | exact .inl rfl | exact .inr rfl) (wanted_none rfl) rfl rfl ?_
    refine stepEnd ?_
    refine thenN ?_
    refine wp_seq ?_
    refine region_seq ?_
    refine stepX rfl (by exact hg) hw (wanted_none rfl) rfl (fun t24 h_1 wh_1 hw hs1 hg => ?_)
    have hs := hs.trans hs1
    clear hs1
    refine stepM (v := t24) (by first | exact .inl rfl | exact .inr rfl) (wanted_none rfl) rfl rfl ?_
    refine stepEnd ?_
    refine thenN ?_
    refine wp_seq ?_
    refine wp_seq ?_
    refine region_seq ?_
    refine stepM (v := (.int .i64 0)) (by first | exact .inl rfl | exact .inr rfl) (wanted_none rfl) rfl rfl ?_
    refine stepEnd ?_
    refine thenN ?_
    refine wp_block ?_
    obtain ⟨I, m0, hI0, hround⟩ := hg
    refine wp_loop_m (fun m a w' => ∃ (x9 : Value) (f : Nat → Value), a = mk 166 (ovr [(9, x9), (1, v1), (2, v2), (7, t23), (8, t24)] f) ∧ SameW w w' ∧ I m x9 w'.heap) m0 ⟨(.int .i64 0), _, mk_ovr ⟨rfl, rfl, rfl, rfl, rfl, trivial⟩, hs, by rw [hw]; exact hI0⟩ ?_
    rintro m _ wl ⟨x9, f, rfl, hs, hI⟩
    obtain ⟨h_2, hw⟩ : ∃ h', wl.heap = h' := ⟨_, rfl⟩
    rw [hw] at hI
    have hg := hround m _ _ hI
    clear hround hI hI0
    refine wp_seq ?_
    refine wp_seq ?_
    refine region_seq ?_
    refine stepM (v := x9) (by first | exact .inl rfl | exact .inr rfl) (wanted_none rfl) rfl rfl ?_
    refine stepM (v := t23) (by first | exact .inl rfl | exact .inr rfl) (wanted_none rfl) rfl rfl ?_
    refine stepP rfl (by exact hg) (wanted_none rfl) rfl (fun t27 hg => ?_)
    refine stepEnd ?_
    refine thenN ?_
    refine codeCond hg rfl (fun hb hg1 => ?_) (fun hb hg1 => ?_)
    · clear hg; subst hb; have hg := hg1; clear hg1
      refine wp_skip ?_
      refine thenN ?_
      refine wp_seq_k (fun K_k hK_k => ?_)
      obtain ⟨k, hk, hg⟩ := join_elim hg
      have hj_k : ∀ (h_3 : Heap) (w' : World), w'.heap = h_3 → SameW w w' → k h_3 → ∀ f, K_k (mk 166 (ovr [(1, v1), (2, v2), (7, t23), (8, t24), (9, x9)] f)) w' := by
        intro h_3 wj hw hs hg f
        rw [hk] at hg
        refine hK_k _ _ ?_
        refine region_seq ?_
        refine stepM (v := x9) (by first | exact .inl rfl | exact .inr rfl) (wanted_none rfl) rfl rfl ?_
        refine stepP rfl (by exact hg) (wanted_none rfl) rfl (fun t29 hg => ?_)
        refine stepM (v := t29) (by first | exact .inl rfl | exact .inr rfl) (wanted_none rfl) rfl rfl ?_
        refine stepEnd ?_
        obtain ⟨m', hlt, hI⟩ := hg
        exact thenN ⟨m', hlt, t29, _, mk_ovr ⟨rfl, rfl, rfl, rfl, rfl, trivial⟩, hs, by rw [hw]; exact hI⟩
      clear hk hK_k
      refine wp_block ?_
      refine wp_seq ?_
      refine region_seq ?_
      refine stepM (v := t24) (by first | exact .inl rfl | exact .inr rfl) (wanted_none rfl) rfl rfl ?_
      refine stepM (v := x9) (by first | exact .inl rfl | exact .inr rfl) (wanted_none rfl) rfl rfl ?_
      refine stepP rfl (by exact hg) (wanted_none rfl) rfl (fun t32 hg => ?_)
      refine stepP rfl (by exact hg) (wanted_none rfl) rfl (fun t33 hg => ?_)
      refine stepX (ex_buildSlice rfl) (by exact hg) hw (wanted_none rfl) rfl (fun t34 h_4 wh_4 hw hs1 hg => ?_)
      have hs := hs.trans hs1
      clear hs1
      refine stepX rfl (by exact hg) hw (wanted_none rfl) rfl (fun t35 h_5 wh_5 hw hs1 hg => ?_)
      have hs := hs.trans hs1
      clear hs1
      refine stepU rfl (by exact hg) hw (wanted_none rfl) rfl (fun _ h_6 wh_6 hw hs1 hg => ?_)
      have hs := hs.trans hs1
      clear hs1
      refine stepEnd ?_
      refine thenN ?_
      refine wp_seq ?_
      refine region_seq ?_
      refine stepM (v := x9) (by first | exact .inl rfl | exact .inr rfl) (wanted_none rfl) rfl rfl ?_
      refine stepP rfl (by exact hg) (wanted_none rfl) rfl (fun t37 hg => ?_)
      refine stepM (v := t23) (by first | exact .inl rfl | exact .inr rfl) (wanted_none rfl) rfl rfl ?_
      refine stepP rfl (by exact hg) (wanted_none rfl) rfl (fun t39 hg => ?_)
      refine stepEnd ?_
      refine thenN ?_
      refine codeCond hg rfl (fun hb hg1 => ?_) (fun hb hg1 => ?_)
      · clear hg; subst hb; have hg := hg1; clear hg1
        refine region_seq ?_
        refine stepM (v := t24) (by first | exact .inl rfl | exact .inr rfl) (wanted_none rfl) rfl rfl ?_
        refine stepM (v := x9) (by first | exact .inl rfl | exact .inr rfl) (wanted_none rfl) rfl rfl ?_
        refine stepP rfl (by exact hg) (wanted_none rfl) rfl (fun t42 hg => ?_)
        refine stepP rfl (by exact hg) (wanted_none rfl) rfl (fun t43 hg => ?_)
        refine stepX (ex_buildSlice rfl) (by exact hg) hw (wanted_none rfl) rfl (fun t44 h_7 wh_7 hw hs1 hg => ?_)
        have hs := hs.trans hs1
        clear hs1
        refine stepX rfl (by exact hg) hw (wanted_none rfl) rfl (fun t45 h_8 wh_8 hw hs1 hg => ?_)
        have hs := hs.trans hs1
        clear hs1
        refine stepM (v := x9) (by first | exact .inl rfl | exact .inr rfl) (wanted_none rfl) rfl rfl ?_
        refine stepP rfl (by exact hg) (wanted_none rfl) rfl (fun t47 hg => ?_)
        refine stepP rfl (by exact hg) (wanted_none rfl) rfl (fun t48 hg => ?_)
        refine stepP rfl (by exact hg) (wanted_none rfl) rfl (fun t49 hg => ?_)
        refine stepX (ex_buildSlice rfl) (by exact hg) hw (wanted_none rfl) rfl (fun t50 h_9 wh_9 hw hs1 hg => ?_)
        have hs := hs.trans hs1
        clear hs1
        refine stepX rfl (by exact hg) hw (wanted_none rfl) rfl (fun t51 h_10 wh_10 hw hs1 hg => ?_)
        have hs := hs.trans hs1
        clear hs1
        refine stepX (ex_buildSlice rfl) (by exact hg) hw (wanted_none rfl) rfl (fun t52 h_11 wh_11 hw hs1 hg => ?_)
        have hs := hs.trans hs1
        clear hs1
        refine stepU rfl (by exact hg) hw (wanted_none rfl) rfl (fun _ h_12 wh_12 hw hs1 hg => ?_)
        have hs := hs.trans hs1
        clear hs1
        refine stepEnd ?_
        refine blkN ?_
        refine thenN ?_
        exact at_ovr (hj_k h_12 _ hw hs hg) ⟨rfl, rfl, rfl, rfl, rfl, trivial⟩
      · clear hg; subst hb; have hg := hg1; clear hg1
        refine wp_skip ?_
        refine blkN ?_
        refine thenN ?_
        exact at_ovr (hj_k h_6 _ hw hs hg) ⟨rfl, rfl, rfl, rfl, rfl, trivial⟩
    · clear hg; subst hb; have hg := hg1; clear hg1
      refine wp_exit ?_
      refine thenE ?_
      refine thenE ?_
      refine blkE ?_
      refine thenN ?_
      refine wp_seq ?_
      refine region_seq ?_
      refine stepM (v := t24) (by first | exact .inl rfl | exact .inr rfl) (wanted_none rfl) rfl rfl ?_
      refine stepX (ex_call rfl) (by exact hg) hw (wanted_none rfl) rfl (fun t54 h_13 wh_13 hw hs1 hg => ?_)
      have hs := hs.trans hs1
      clear hs1
      refine stepM (v := t54) (by first | exact .inl rfl | exact .inr rfl) (wanted_none rfl) rfl rfl ?_
      refine stepEnd ?_
      refine thenN ?_
      refine wp_seq ?_
      refine wp_seq ?_
      refine region_seq ?_
      refine stepM (v := t54) (by first | exact .inl rfl | exact .inr rfl) (wanted_none rfl) rfl rfl ?_
      refine stepP (ex_blt rfl) (by exact hg) (wanted_none rfl) rfl (fun t56 hg => ?_)
      refine stepM (v := t23) (by first | exact .inl rfl | exact .inr rfl) (wanted_none rfl) rfl rfl ?_
      refine stepP rfl (by exact hg) (wanted_none rfl) rfl (fun t58 hg => ?_)
      refine stepEnd ?_
      refine thenN ?_
      refine codeCond hg rfl (fun hb hg1 => ?_) (fun hb hg1 => ?_)
      · clear hg; subst hb; have hg := hg1; clear hg1
        refine wp_seq ?_
        refine region_seq ?_
        refine stepM (v := (.bool false)) (by first | exact .inl rfl | exact .inr rfl) (wanted_none rfl) rfl rfl ?_
        refine stepEnd ?_
        refine thenN ?_
        refine wp_ret ?_
        refine thenR ?_
        exact post_ret (res_tmp Try.results6 rfl rfl) ⟨_, rfl, hs, by rw [hw]; exact hg⟩
      · clear hg; subst hb; have hg := hg1; clear hg1
        refine wp_skip ?_
        refine thenN ?_
        refine wp_seq ?_
        refine wp_seq ?_
        refine region_seq ?_
        refine stepM (v := (.int .i64 0)) (by first | exact .inl rfl | exact .inr rfl) (wanted_none rfl) rfl rfl ?_
        refine stepEnd ?_
        refine thenN ?_
        refine wp_block ?_
        obtain ⟨I, m0, hI0, hround⟩ := hg
        refine wp_loop_m (fun m a w' => ∃ (x11 : Value) (f : Nat → Value), a = mk 166 (ovr [(11, x11), (1, v1), (2, v2), (7, t23), (8, t24), (10, t54)] f) ∧ SameW w w' ∧ I m x11 w'.heap) m0 ⟨(.int .i64 0), _, mk_ovr ⟨rfl, rfl, rfl, rfl, rfl, rfl, trivial⟩, hs, by rw [hw]; exact hI0⟩ ?_
        rintro m _ wl ⟨x11, f, rfl, hs, hI⟩
        obtain ⟨h_14, hw⟩ : ∃ h', wl.heap = h' := ⟨_, rfl⟩
        rw [hw] at hI
        have hg := hround m _ _ hI
        clear hround hI hI0
        refine wp_seq ?_
        refine wp_seq ?_
        refine region_seq ?_
        refine stepM (v := x11) (by first | exact .inl rfl | exact .inr rfl) (wanted_none rfl) rfl rfl ?_
        refine stepM (v := t23) (by first | exact .inl rfl | exact .inr rfl) (wanted_none rfl) rfl rfl ?_
        refine stepP rfl (by exact hg) (wanted_none rfl) rfl (fun t61 hg => ?_)
        refine stepEnd ?_
        refine thenN ?_
        refine codeCond hg rfl (fun hb hg1 => ?_) (fun hb hg1 => ?_)
        · clear hg; subst hb; have hg := hg1; clear hg1
          refine wp_skip ?_
          refine thenN ?_
          refine wp_seq ?_
          refine wp_block ?_
          refine wp_seq ?_
          obtain ⟨D, hD, hg⟩ := hg
          refine region_mix (D := D) [true, true, true, true, true, true, true, true, true, true, true, true, true, true, true, true, true, true, true, false, false, true] (by kernel_rfl) (by kernel_rfl) (by repeat (first | exact panicOk_base | apply panicOk_then | apply panicOk_blk)) (by rw [hw]; exact hD) (fun wm hs1 hw1 => ?_)
          have hw := hw1.trans hw
          have hs := hs.trans hs1
          clear hs1 hw1
          refine mixM (v := t54) (by first | exact .inl rfl | exact .inr rfl) (wanted_none rfl) rfl rfl ?_
          refine mixM (v := x11) (by first | exact .inl rfl | exact .inr rfl) (wanted_none rfl) rfl rfl ?_
          refine mixP rfl (by exact hg) (wanted_none rfl) rfl (fun t66 hg => ?_)
          refine mixQ rfl (by exact hg) (wanted_none rfl) rfl (fun t67 hg => ?_)
          refine mixP (ex_blt rfl) (by exact hg) (wanted_none rfl) rfl (fun t68 hg => ?_)
          refine mixP rfl (by exact hg) (wanted_none rfl) rfl (fun t69 hg => ?_)
          refine mixM (v := t69) (by first | exact .inl rfl | exact .inr rfl) (wanted_none rfl) rfl rfl ?_
          obtain ⟨k_1, hk_1, hg⟩ := join_elim hg
          refine mix_join 15 (fun K_k_1 hK_k_1 => ?_)
          have hj_k_1 : ∀ (x85 : Value) (h_15 : Heap) (w' : World), w'.heap = h_15 → SameW w w' → k_1 x85 h_15 → ∀ f, K_k_1 (mk 166 (ovr [(85, x85), (1, v1), (2, v2), (7, t23), (8, t24), (10, t54), (11, x11), (70, t69)] f)) w' := by
            intro x85 h_15 wj hw hs hg f
            rw [hk_1] at hg
            refine hK_k_1 _ _ ?_
            refine mixEnd ?_
            refine stepP rfl (by exact hg) (wanted_none rfl) rfl (fun t86 hg => ?_)
            refine stepEnd ?_
            refine thenN ?_
            refine codeCond hg rfl (fun hb hg1 => ?_) (fun hb hg1 => ?_)
            · clear hg; subst hb; have hg := hg1; clear hg1
              refine wp_seq ?_
              refine region_seq ?_
              refine stepM (v := (.bool false)) (by first | exact .inl rfl | exact .inr rfl) (wanted_none rfl) rfl rfl ?_
              refine stepEnd ?_
              refine thenN ?_
              refine wp_ret ?_
              refine blkR ?_
              refine thenR ?_
              refine thenR ?_
              refine blkR ?_
              refine thenR ?_
              exact post_ret (res_tmp Try.results6 rfl rfl) ⟨_, rfl, hs, by rw [hw]; exact hg⟩
            · clear hg; subst hb; have hg := hg1; clear hg1
              refine wp_skip ?_
              refine blkN ?_
              refine thenN ?_
              refine region_seq ?_
              refine stepM (v := x11) (by first | exact .inl rfl | exact .inr rfl) (wanted_none rfl) rfl rfl ?_
              refine stepP rfl (by exact hg) (wanted_none rfl) rfl (fun t63 hg => ?_)
              refine stepM (v := t63) (by first | exact .inl rfl | exact .inr rfl) (wanted_none rfl) rfl rfl ?_
              refine stepEnd ?_
              obtain ⟨m', hlt, hI⟩ := hg
              exact thenN ⟨m', hlt, t63, _, mk_ovr ⟨rfl, rfl, rfl, rfl, rfl, rfl, trivial⟩, hs, by rw [hw]; exact hI⟩
          clear hk_1 hK_k_1
          refine cond_split hg (fun hb hg1 => ?_) (fun hb hg1 => ?_)
          · clear hg; subst hb; have hg := hg1; clear hg1
            refine mixSkipR (wanted_noF rfl rfl rfl rfl) rfl ?_
            refine mixSkipR (wanted_noF rfl rfl rfl rfl) rfl ?_
            refine mixSkipR (wanted_noF rfl rfl rfl rfl) rfl ?_
            refine mixSkipR (wanted_noF rfl rfl rfl rfl) rfl ?_
            refine mixSkipR (wanted_noF rfl rfl rfl rfl) rfl ?_
            refine mixSkipR (wanted_noF rfl rfl rfl rfl) rfl ?_
            refine mixSkipR (wanted_noF rfl rfl rfl rfl) rfl ?_
            refine mixSkipR (wanted_noF rfl rfl rfl rfl) rfl ?_
            refine mixSkipR (wanted_noF rfl rfl rfl rfl) rfl ?_
            refine mixSkipR (wanted_noF rfl rfl rfl rfl) rfl ?_
            refine mixSkipR (wanted_noF rfl rfl rfl rfl) rfl ?_
            refine mixSkipR (wanted_noF rfl rfl rfl rfl) rfl ?_
            refine mixSkipX (wanted_noF rfl rfl rfl rfl) rfl ?_
            refine mixSkipX (wanted_noF rfl rfl rfl rfl) rfl ?_
            refine mixSkipR (wanted_noF rfl rfl rfl rfl) rfl ?_
            refine mixEnd ?_
            exact at_ovr (hj_k_1 undef h_14 _ hw hs hg) ⟨rfl, rfl, rfl, rfl, rfl, rfl, rfl, rfl, trivial⟩
          · clear hg; subst hb; have hg := hg1; clear hg1
            refine mixM (v := t54) (by first | exact .inl rfl | exact .inr rfl) (wanted_yes rfl rfl rfl rfl) rfl rfl ?_
            refine mixM (v := x11) (by first | exact .inl rfl | exact .inr rfl) (wanted_yes rfl rfl rfl rfl) rfl rfl ?_
            refine mixP rfl (by exact hg) (wanted_yes rfl rfl rfl rfl) rfl (fun t73 hg => ?_)
            refine mixQ rfl (by exact hg) (wanted_yes rfl rfl rfl rfl) rfl (fun t74 hg => ?_)
            refine mixP rfl (by exact hg) (wanted_yes rfl rfl rfl rfl) rfl (fun t75 hg => ?_)
            refine mixQ rfl (by exact hg) (wanted_yes rfl rfl rfl rfl) rfl (fun t76 hg => ?_)
            refine mixM (v := t23) (by first | exact .inl rfl | exact .inr rfl) (wanted_yes rfl rfl rfl rfl) rfl rfl ?_
            refine mixP rfl (by exact hg) (wanted_yes rfl rfl rfl rfl) rfl (fun t78 hg => ?_)
            refine mixP rfl (by exact hg) (wanted_yes rfl rfl rfl rfl) rfl (fun t79 hg => ?_)
            refine mixM (v := x11) (by first | exact .inl rfl | exact .inr rfl) (wanted_yes rfl rfl rfl rfl) rfl rfl ?_
            refine mixP rfl (by exact hg) (wanted_yes rfl rfl rfl rfl) rfl (fun t81 hg => ?_)
            refine mixP rfl (by exact hg) (wanted_yes rfl rfl rfl rfl) rfl (fun t82 hg => ?_)
            refine mixX (ex_buildSlice rfl) (by exact hg) hw (wanted_yes rfl rfl rfl rfl) rfl (fun t83 h_16 wh_16 hw hs1 hg => ?_)
            have hs := hs.trans hs1
            clear hs1
            refine mixX rfl (by exact hg) hw (wanted_yes rfl rfl rfl rfl) rfl (fun t84 h_17 wh_17 hw hs1 hg => ?_)
            have hs := hs.trans hs1
            clear hs1
            refine mixP rfl (by exact hg) (wanted_yes rfl rfl rfl rfl) rfl (fun t85 hg => ?_)
            refine mixEnd ?_
            exact at_ovr (hj_k_1 t85 h_17 _ hw hs hg) ⟨rfl, rfl, rfl, rfl, rfl, rfl, rfl, rfl, trivial⟩
        · clear hg; subst hb; have hg := hg1; clear hg1
          refine wp_exit ?_
          refine thenE ?_
          refine thenE ?_
          refine blkE ?_
          refine thenN ?_
          refine wp_seq ?_
          refine region_quiet (D := Eq h_14) (by kernel_rfl) (by kernel_rfl) hw.symm ?_
          refine quietM (v := v1) (by first | exact .inl rfl | exact .inr rfl) (wanted_none rfl) rfl rfl ?_
          refine quietP rfl (by exact hg) (wanted_none rfl) rfl (fun t88 hg => ?_)
          refine quietM (v := t23) (by first | exact .inl rfl | exact .inr rfl) (wanted_none rfl) rfl rfl ?_
          refine quietP rfl (by exact hg) (wanted_none rfl) rfl (fun t90 hg => ?_)
          refine quietM (v := v2) (by first | exact .inl rfl | exact .inr rfl) (wanted_none rfl) rfl rfl ?_
          refine quietP rfl (by exact hg) (wanted_none rfl) rfl (fun t92 hg => ?_)
          refine quietM (v := t23) (by first | exact .inl rfl | exact .inr rfl) (wanted_none rfl) rfl rfl ?_
          refine quietP rfl (by exact hg) (wanted_none rfl) rfl (fun t94 hg => ?_)
          refine quietM (v := t90) (by first | exact .inl rfl | exact .inr rfl) (wanted_none rfl) rfl rfl ?_
          refine quietM (v := t94) (by first | exact .inl rfl | exact .inr rfl) (wanted_none rfl) rfl rfl ?_
          refine quietEnd (fun wq hD hs1 => ?_)
          have hw := hD.symm
          have hs := hs.trans hs1
          clear hD hs1
          refine thenN ?_
          refine wp_seq ?_
          refine region_seq ?_
          refine stepM (v := t90) (by first | exact .inl rfl | exact .inr rfl) (wanted_none rfl) rfl rfl ?_
          refine stepM (v := t94) (by first | exact .inl rfl | exact .inr rfl) (wanted_none rfl) rfl rfl ?_
          refine stepP (ex_blt rfl) (by exact hg) (wanted_none rfl) rfl (fun t97 hg => ?_)
          refine stepM (v := t90) (by first | exact .inl rfl | exact .inr rfl) (wanted_none rfl) rfl rfl ?_
          refine stepM (v := t94) (by first | exact .inl rfl | exact .inr rfl) (wanted_none rfl) rfl rfl ?_
          refine stepP (ex_blt rfl) (by exact hg) (wanted_none rfl) rfl (fun t100 hg => ?_)
          refine stepM (v := t97) (by first | exact .inl rfl | exact .inr rfl) (wanted_none rfl) rfl rfl ?_
          refine stepM (v := t100) (by first | exact .inl rfl | exact .inr rfl) (wanted_none rfl) rfl rfl ?_
          refine stepEnd ?_
          refine thenN ?_
          refine wp_seq ?_
          refine region_seq ?_
          refine stepM (v := t100) (by first | exact .inl rfl | exact .inr rfl) (wanted_none rfl) rfl rfl ?_
          refine stepP rfl (by exact hg) (wanted_none rfl) rfl (fun t102 hg => ?_)
          refine stepP rfl (by exact hg) (wanted_none rfl) rfl (fun t103 hg => ?_)
          refine stepX (ex_buildSlice rfl) (by exact hg) hw (wanted_none rfl) rfl (fun t104 h_18 wh_18 hw hs1 hg => ?_)
          have hs := hs.trans hs1
          clear hs1
          refine stepX rfl (by exact hg) hw (wanted_none rfl) rfl (fun t105 h_19 wh_19 hw hs1 hg => ?_)
          have hs := hs.trans hs1
          clear hs1
          refine stepM (v := t105) (by first | exact .inl rfl | exact .inr rfl) (wanted_none rfl) rfl rfl ?_
          refine stepEnd ?_
          refine thenN ?_
          refine wp_seq ?_
          refine region_seq ?_
          refine stepM (v := t24) (by first | exact .inl rfl | exact .inr rfl) (wanted_none rfl) rfl rfl ?_
          refine stepM (v := t105) (by first | exact .inl rfl | exact .inr rfl) (wanted_none rfl) rfl rfl ?_
          refine stepM (v := t97) (by first | exact .inl rfl | exact .inr rfl) (wanted_none rfl) rfl rfl ?_
          refine stepP rfl (by exact hg) (wanted_none rfl) rfl (fun t109 hg => ?_)
          refine stepP rfl (by exact hg) (wanted_none rfl) rfl (fun t110 hg => ?_)
          refine stepX (ex_buildSlice rfl) (by exact hg) hw (wanted_none rfl) rfl (fun t111 h_20 wh_20 hw hs1 hg => ?_)
          have hs := hs.trans hs1
          clear hs1
          refine stepX rfl (by exact hg) hw (wanted_none rfl) rfl (fun t112 h_21 wh_21 hw hs1 hg => ?_)
          have hs := hs.trans hs1
          clear hs1
          refine stepX (ex_buildSlice rfl) (by exact hg) hw (wanted_none rfl) rfl (fun t113 h_22 wh_22 hw hs1 hg => ?_)
          have hs := hs.trans hs1
          clear hs1
          refine stepM (v := t24) (by first | exact .inl rfl | exact .inr rfl) (wanted_none rfl) rfl rfl ?_
          refine stepM (v := t105) (by first | exact .inl rfl | exact .inr rfl) (wanted_none rfl) rfl rfl ?_
          refine stepQ rfl (by exact hg) hw (wanted_none rfl) rfl (fun t116 hg => ?_)
          refine stepX (ex_blt rfl) (by exact hg) hw (wanted_none rfl) rfl (fun t117 h_23 wh_23 hw hs1 hg => ?_)
          have hs := hs.trans hs1
          clear hs1
          refine stepU rfl (by exact hg) hw (wanted_none rfl) rfl (fun _ h_24 wh_24 hw hs1 hg => ?_)
          have hs := hs.trans hs1
          clear hs1
          refine stepEnd ?_
          refine thenN ?_
          refine wp_seq ?_
          refine region_seq ?_
          refine stepM (v := t24) (by first | exact .inl rfl | exact .inr rfl) (wanted_none rfl) rfl rfl ?_
          refine stepX (ex_call rfl) (by exact hg) hw (wanted_none rfl) rfl (fun t119 h_25 wh_25 hw hs1 hg => ?_)
          have hs := hs.trans hs1
          clear hs1
          refine stepM (v := t119) (by first | exact .inl rfl | exact .inr rfl) (wanted_none rfl) rfl rfl ?_
          refine stepEnd ?_
          refine thenN ?_
          refine wp_seq ?_
          refine wp_seq ?_
          refine region_seq ?_
          refine stepM (v := t119) (by first | exact .inl rfl | exact .inr rfl) (wanted_none rfl) rfl rfl ?_
          refine stepP (ex_blt rfl) (by exact hg) (wanted_none rfl) rfl (fun t121 hg => ?_)
          refine stepM (v := t23) (by first | exact .inl rfl | exact .inr rfl) (wanted_none rfl) rfl rfl ?_
          refine stepM (v := t100) (by first | exact .inl rfl | exact .inr rfl) (wanted_none rfl) rfl rfl ?_
          refine stepM (v := t97) (by first | exact .inl rfl | exact .inr rfl) (wanted_none rfl) rfl rfl ?_
          refine stepP rfl (by exact hg) (wanted_none rfl) rfl (fun t125 hg => ?_)
          refine stepP rfl (by exact hg) (wanted_none rfl) rfl (fun t126 hg => ?_)
          refine stepP rfl (by exact hg) (wanted_none rfl) rfl (fun t127 hg => ?_)
          refine stepEnd ?_
          refine thenN ?_
          refine codeCond hg rfl (fun hb hg1 => ?_) (fun hb hg1 => ?_)
          · clear hg; subst hb; have hg := hg1; clear hg1
            refine wp_seq ?_
            refine region_seq ?_
            refine stepM (v := (.bool false)) (by first | exact .inl rfl | exact .inr rfl) (wanted_none rfl) rfl rfl ?_
            refine stepEnd ?_
            refine thenN ?_
            refine wp_ret ?_
            refine thenR ?_
            exact post_ret (res_tmp Try.results6 rfl rfl) ⟨_, rfl, hs, by rw [hw]; exact hg⟩
          · clear hg; subst hb; have hg := hg1; clear hg1
            refine wp_skip ?_
            refine thenN ?_
            refine wp_seq ?_
            refine wp_seq ?_
            refine region_seq ?_
            refine stepM (v := (.int .i64 0)) (by first | exact .inl rfl | exact .inr rfl) (wanted_none rfl) rfl rfl ?_
            refine stepEnd ?_
            refine thenN ?_
            refine wp_block ?_
            obtain ⟨I, m0, hI0, hround⟩ := hg
            refine wp_loop_m (fun m a w' => ∃ (x17 : Value) (f : Nat → Value), a = mk 166 (ovr [(17, x17), (10, t119), (14, t97), (15, t100)] f) ∧ SameW w w' ∧ I m x17 w'.heap) m0 ⟨(.int .i64 0), _, mk_ovr ⟨rfl, rfl, rfl, rfl, trivial⟩, hs, by rw [hw]; exact hI0⟩ ?_
            rintro m _ wl ⟨x17, f, rfl, hs, hI⟩
            obtain ⟨h_26, hw⟩ : ∃ h', wl.heap = h' := ⟨_, rfl⟩
            rw [hw] at hI
            have hg := hround m _ _ hI
            clear hround hI hI0
            refine wp_seq ?_
            refine wp_seq ?_
            refine region_seq ?_
            refine stepM (v := x17) (by first | exact .inl rfl | exact .inr rfl) (wanted_none rfl) rfl rfl ?_
            refine stepM (v := t119) (by first | exact .inl rfl | exact .inr rfl) (wanted_none rfl) rfl rfl ?_
            refine stepP (ex_blt rfl) (by exact hg) (wanted_none rfl) rfl (fun t130 hg => ?_)
            refine stepP rfl (by exact hg) (wanted_none rfl) rfl (fun t131 hg => ?_)
            refine stepEnd ?_
            refine thenN ?_
            refine codeCond hg rfl (fun hb hg1 => ?_) (fun hb hg1 => ?_)
            · clear hg; subst hb; have hg := hg1; clear hg1
              refine wp_skip ?_
              refine thenN ?_
              refine wp_seq ?_
              refine wp_block ?_
              refine wp_seq ?_
              obtain ⟨D_1, hD, hg⟩ := hg
              refine region_mix (D := D_1) [true, true, true, true, true, true, true, true, true, true, true, true, true, true, true, true, true, true, true, true, true, true, true, true, true, true, true, false, false, true, true] (by kernel_rfl) (by kernel_rfl) (by repeat (first | exact panicOk_base | apply panicOk_then | apply panicOk_blk)) (by rw [hw]; exact hD) (fun wm hs1 hw1 => ?_)
              have hw := hw1.trans hw
              have hs := hs.trans hs1
              clear hs1 hw1
              refine mixM (v := t119) (by first | exact .inl rfl | exact .inr rfl) (wanted_none rfl) rfl rfl ?_
              refine mixM (v := x17) (by first | exact .inl rfl | exact .inr rfl) (wanted_none rfl) rfl rfl ?_
              refine mixP rfl (by exact hg) (wanted_none rfl) rfl (fun t136 hg => ?_)
              refine mixQ rfl (by exact hg) (wanted_none rfl) rfl (fun t137 hg => ?_)
              refine mixP (ex_blt rfl) (by exact hg) (wanted_none rfl) rfl (fun t138 hg => ?_)
              refine mixP rfl (by exact hg) (wanted_none rfl) rfl (fun t139 hg => ?_)
              refine mixM (v := t139) (by first | exact .inl rfl | exact .inr rfl) (wanted_none rfl) rfl rfl ?_
              obtain ⟨k_2, hk_2, hg⟩ := join_elim hg
              refine mix_join 24 (fun K_k_2 hK_k_2 => ?_)
              have hj_k_2 : ∀ (x164 : Value) (h_27 : Heap) (w' : World), w'.heap = h_27 → SameW w w' → k_2 x164 h_27 → ∀ f, K_k_2 (mk 166 (ovr [(164, x164), (10, t119), (14, t97), (15, t100), (17, x17), (140, t139)] f)) w' := by
                intro x164 h_27 wj hw hs hg f
                rw [hk_2] at hg
                refine hK_k_2 _ _ ?_
                refine mixEnd ?_
                refine stepP rfl (by exact hg) (wanted_none rfl) rfl (fun t165 hg => ?_)
                refine stepEnd ?_
                refine thenN ?_
                refine codeCond hg rfl (fun hb hg1 => ?_) (fun hb hg1 => ?_)
                · clear hg; subst hb; have hg := hg1; clear hg1
                  refine wp_seq ?_
                  refine region_seq ?_
                  refine stepM (v := (.bool false)) (by first | exact .inl rfl | exact .inr rfl) (wanted_none rfl) rfl rfl ?_
                  refine stepEnd ?_
                  refine thenN ?_
                  refine wp_ret ?_
                  refine blkR ?_
                  refine thenR ?_
                  refine thenR ?_
                  refine blkR ?_
                  refine thenR ?_
                  exact post_ret (res_tmp Try.results6 rfl rfl) ⟨_, rfl, hs, by rw [hw]; exact hg⟩
                · clear hg; subst hb; have hg := hg1; clear hg1
                  refine wp_skip ?_
                  refine blkN ?_
                  refine thenN ?_
                  refine region_seq ?_
                  refine stepM (v := x17) (by first | exact .inl rfl | exact .inr rfl) (wanted_none rfl) rfl rfl ?_
                  refine stepP rfl (by exact hg) (wanted_none rfl) rfl (fun t133 hg => ?_)
                  refine stepM (v := t133) (by first | exact .inl rfl | exact .inr rfl) (wanted_none rfl) rfl rfl ?_
                  refine stepEnd ?_
                  obtain ⟨m', hlt, hI⟩ := hg
                  exact thenN ⟨m', hlt, t133, _, mk_ovr ⟨rfl, rfl, rfl, rfl, trivial⟩, hs, by rw [hw]; exact hI⟩
              clear hk_2 hK_k_2
              refine cond_split hg (fun hb hg1 => ?_) (fun hb hg1 => ?_)
              · clear hg; subst hb; have hg := hg1; clear hg1
                refine mixM (v := t119) (by first | exact .inl rfl | exact .inr rfl) (wanted_yes rfl rfl rfl rfl) rfl rfl ?_
                refine mixM (v := x17) (by first | exact .inl rfl | exact .inr rfl) (wanted_yes rfl rfl rfl rfl) rfl rfl ?_
                refine mixP rfl (by exact hg) (wanted_yes rfl rfl rfl rfl) rfl (fun t143 hg => ?_)
                refine mixQ rfl (by exact hg) (wanted_yes rfl rfl rfl rfl) rfl (fun t144 hg => ?_)
                refine mixP (ex_blt rfl) (by exact hg) (wanted_yes rfl rfl rfl rfl) rfl (fun t145 hg => ?_)
                refine mixM (v := t100) (by first | exact .inl rfl | exact .inr rfl) (wanted_yes rfl rfl rfl rfl) rfl rfl ?_
                refine mixM (v := t97) (by first | exact .inl rfl | exact .inr rfl) (wanted_yes rfl rfl rfl rfl) rfl rfl ?_
                refine mixP rfl (by exact hg) (wanted_yes rfl rfl rfl rfl) rfl (fun t148 hg => ?_)
                refine mixP rfl (by exact hg) (wanted_yes rfl rfl rfl rfl) rfl (fun t149 hg => ?_)
                refine mixP rfl (by exact hg) (wanted_yes rfl rfl rfl rfl) rfl (fun t150 hg => ?_)
                refine mixM (v := t150) (by first | exact .inl rfl | exact .inr rfl) (wanted_yes rfl rfl rfl rfl) rfl rfl ?_
                obtain ⟨k_3, hk_3, hg⟩ := join_elim hg
                refine mix_join 12 (fun K_k_3 hK_k_3 => ?_)
                have hj_k_3 : ∀ (x163 : Value) (h_28 : Heap) (w' : World), w'.heap = h_28 → SameW w w' → k_3 x163 h_28 → ∀ f, K_k_3 (mk 166 (ovr [(163, x163), (10, t119), (14, t97), (15, t100), (17, x17), (140, (.bool true)), (151, t150)] f)) w' := by
                  intro x163 h_28 wj hw hs hg f
                  rw [hk_3] at hg
                  refine hK_k_3 _ _ ?_
                  refine mixP rfl (by exact hg) (wanted_yes rfl rfl rfl rfl) rfl (fun t164 hg => ?_)
                  refine mixEnd ?_
                  exact at_ovr (hj_k_2 t164 h_28 _ hw hs hg) ⟨rfl, rfl, rfl, rfl, rfl, rfl, trivial⟩
                clear hk_3 hK_k_3
                refine cond_split hg (fun hb hg1 => ?_) (fun hb hg1 => ?_)
                · clear hg; subst hb; have hg := hg1; clear hg1
                  refine mixSkipR (wanted_noF rfl rfl rfl rfl) rfl ?_
                  refine mixSkipR (wanted_noF rfl rfl rfl rfl) rfl ?_
                  refine mixSkipR (wanted_noF rfl rfl rfl rfl) rfl ?_
                  refine mixSkipR (wanted_noF rfl rfl rfl rfl) rfl ?_
                  refine mixSkipR (wanted_noF rfl rfl rfl rfl) rfl ?_
                  refine mixSkipR (wanted_noF rfl rfl rfl rfl) rfl ?_
                  refine mixSkipR (wanted_noF rfl rfl rfl rfl) rfl ?_
                  refine mixSkipR (wanted_noF rfl rfl rfl rfl) rfl ?_
                  refine mixSkipR (wanted_noF rfl rfl rfl rfl) rfl ?_
                  refine mixSkipX (wanted_noF rfl rfl rfl rfl) rfl ?_
                  refine mixSkipX (wanted_noF rfl rfl rfl rfl) rfl ?_
                  refine mixSkipR (wanted_noF rfl rfl rfl rfl) rfl ?_
                  refine mixEnd ?_
                  exact at_ovr (hj_k_3 undef h_26 _ hw hs hg) ⟨rfl, rfl, rfl, rfl, rfl, rfl, rfl, trivial⟩
                · clear hg; subst hb; have hg := hg1; clear hg1
                  refine mixM (v := t119) (by first | exact .inl rfl | exact .inr rfl) (wanted_yes rfl rfl rfl rfl) rfl rfl ?_
                  refine mixM (v := x17) (by first | exact .inl rfl | exact .inr rfl) (wanted_yes rfl rfl rfl rfl) rfl rfl ?_
                  refine mixP rfl (by exact hg) (wanted_yes rfl rfl rfl rfl) rfl (fun t154 hg => ?_)
                  refine mixQ rfl (by exact hg) (wanted_yes rfl rfl rfl rfl) rfl (fun t155 hg => ?_)
                  refine mixP rfl (by exact hg) (wanted_yes rfl rfl rfl rfl) rfl (fun t156 hg => ?_)
                  refine mixQ rfl (by exact hg) (wanted_yes rfl rfl rfl rfl) rfl (fun t157 hg => ?_)
                  refine mixM (v := t97) (by first | exact .inl rfl | exact .inr rfl) (wanted_yes rfl rfl rfl rfl) rfl rfl ?_
                  refine mixP rfl (by exact hg) (wanted_yes rfl rfl rfl rfl) rfl (fun t159 hg => ?_)
                  refine mixP rfl (by exact hg) (wanted_yes rfl rfl rfl rfl) rfl (fun t160 hg => ?_)
                  refine mixX (ex_buildSlice rfl) (by exact hg) hw (wanted_yes rfl rfl rfl rfl) rfl (fun t161 h_29 wh_29 hw hs1 hg => ?_)
                  have hs := hs.trans hs1
                  clear hs1
                  refine mixX rfl (by exact hg) hw (wanted_yes rfl rfl rfl rfl) rfl (fun t162 h_30 wh_30 hw hs1 hg => ?_)
                  have hs := hs.trans hs1
                  clear hs1
                  refine mixP rfl (by exact hg) (wanted_yes rfl rfl rfl rfl) rfl (fun t163 hg => ?_)
                  refine mixEnd ?_
                  exact at_ovr (hj_k_3 t163 h_30 _ hw hs hg) ⟨rfl, rfl, rfl, rfl, rfl, rfl, rfl, trivial⟩
              · clear hg; subst hb; have hg := hg1; clear hg1
                refine mixSkipR (wanted_noT rfl rfl rfl rfl) rfl ?_
                refine mixSkipR (wanted_noT rfl rfl rfl rfl) rfl ?_
                refine mixSkipR (wanted_noT rfl rfl rfl rfl) rfl ?_
                refine mixSkipR (wanted_noT rfl rfl rfl rfl) rfl ?_
                refine mixSkipR (wanted_noT rfl rfl rfl rfl) rfl ?_
                refine mixSkipR (wanted_noT rfl rfl rfl rfl) rfl ?_
                refine mixSkipR (wanted_noT rfl rfl rfl rfl) rfl ?_
                refine mixSkipR (wanted_noT rfl rfl rfl rfl) rfl ?_
                refine mixSkipR (wanted_noT rfl rfl rfl rfl) rfl ?_
                refine mixSkipR (wanted_noT rfl rfl rfl rfl) rfl ?_
                refine mixSkipR (wanted_noT rfl rfl rfl rfl) rfl ?_
                refine mixSkipR (wanted_undef rfl rfl rfl rfl) rfl ?_
                refine mixSkipR (wanted_undef rfl rfl rfl rfl) rfl ?_
                refine mixSkipR (wanted_undef rfl rfl rfl rfl) rfl ?_
                refine mixSkipR (wanted_undef rfl rfl rfl rfl) rfl ?_
                refine mixSkipR (wanted_undef rfl rfl rfl rfl) rfl ?_
                refine mixSkipR (wanted_undef rfl rfl rfl rfl) rfl ?_
                refine mixSkipR (wanted_undef rfl rfl rfl rfl) rfl ?_
                refine mixSkipR (wanted_undef rfl rfl rfl rfl) rfl ?_
                refine mixSkipR (wanted_undef rfl rfl rfl rfl) rfl ?_
                refine mixSkipX (wanted_undef rfl rfl rfl rfl) rfl ?_
                refine mixSkipX (wanted_undef rfl rfl rfl rfl) rfl ?_
                refine mixSkipR (wanted_undef rfl rfl rfl rfl) rfl ?_
                refine mixSkipR (wanted_noT rfl rfl rfl rfl) rfl ?_
                refine mixEnd ?_
                exact at_ovr (hj_k_2 undef h_26 _ hw hs hg) ⟨rfl, rfl, rfl, rfl, rfl, rfl, trivial⟩
            · clear hg; subst hb; have hg := hg1; clear hg1
              refine wp_exit ?_
              refine thenE ?_
              refine thenE ?_
              refine blkE ?_
              refine thenN ?_
              refine wp_seq ?_
              refine region_seq ?_
              refine stepM (v := (.bool true)) (by first | exact .inl rfl | exact .inr rfl) (wanted_none rfl) rfl rfl ?_
              refine stepEnd ?_
              refine thenN ?_
              refine wp_ret ?_
              exact post_ret (res_tmp Try.results6 rfl rfl) ⟨_, rfl, hs, by rw [hw]; exact hg⟩

/-- augur/augurlaw11.known -/
def g_augurlaw11_known (h : Heap) (R : Value → Heap → Prop) : Prop :=
  oMkMap Try.prog 24 none h fun t3 h => 
  oBuildSlice Try.prog 29 1 #[(0, (.string ⟨#[103]⟩))] h fun t4 h_1 => 
  oUpd Try.prog 24 t3 (.string ⟨#[102]⟩) t4 h_1 fun _ h_2 => 
  oBuildSlice Try.prog 29 1 #[(0, (.string ⟨#[103]⟩))] h_2 fun t5 h_3 => 
  oUpd Try.prog 24 t3 (.string ⟨#[103]⟩) t5 h_3 fun _ h_4 => 
  oUpd Try.prog 24 t3 (.string ⟨#[104]⟩) (.slice none 0 0) h_4 fun _ h_5 => 
  oCall Try.prog (.func (.func 9) #[] #[]) #[t3] h_5 fun t8 h_6 => 
  oLen Try.prog #[26] 3 t8 fun t10 =>
  oBin Try.prog .eql 3 (.tmp 10) (.const (.int .i64 3)) t10 (.int .i64 3) fun t11 =>
  join (fun (x18 : Value)  =>
   oPick Try.prog t11 x18 (.bool false) fun t19 =>
   join (fun (x26 : Value)  =>
    oPick Try.prog t19 x26 (.bool false) fun t27 =>
    join (fun (x34 : Value)  =>
     oPick Try.prog t27 x34 (.bool false) fun t35 =>
     join (fun (x40 : Value) (h_7 : Heap) =>
      oPick Try.prog t35 x40 (.bool false) fun t41 =>
      join (fun (x46 : Value) (h_8 : Heap) =>
       oPick Try.prog t41 x46 (.bool false) fun t47 =>
       R t47 h_8)
       fun k_4 =>
      cond t41
       (oCall Try.prog (.func (.func 14) #[] #[]) #[t3, (.string ⟨#[103]⟩)] h_7 fun t44 h_9 => 
       oBuildSlice Try.prog 29 2 #[(0, (.string ⟨#[102]⟩)), (1, (.string ⟨#[103]⟩))] h_9 fun t45 h_10 => 
       oCall Try.prog (.func (.func 13) #[] #[]) #[t44, t45] h_10 fun t46 h_11 => 
       k_4 t46 h_11)
       (k_4 undef h_7))
      fun k_3 =>
     cond t35
      (oCall Try.prog (.func (.func 11) #[] #[]) #[t3, (.string ⟨#[102]⟩)] h_6 fun t38 h_12 => 
      oBuildSlice Try.prog 29 1 #[(0, (.string ⟨#[103]⟩))] h_12 fun t39 h_13 => 
      oCall Try.prog (.func (.func 13) #[] #[]) #[t38, t39] h_13 fun t40 h_14 => 
      k_3 t40 h_14)
      (k_3 undef h_6))
     fun k_2 =>
    cond t27
     (oIdx Try.prog 26 t8 (.int .i64 2) fun t30 =>
     oLoad Try.prog 29 t30 (Eq h_6) fun t31 =>
     oIdx Try.prog 29 t31 (.int .i64 0) fun t32 =>
     oLoad Try.prog 9 t32 (Eq h_6) fun t33 =>
     oBin Try.prog .eql 9 (.tmp 33) (.const (.string ⟨#[104]⟩)) t33 (.string ⟨#[104]⟩) fun t34 =>
     k_2 t34)
     (k_2 undef))
    fun k_1 =>
   cond t19
    (oIdx Try.prog 26 t8 (.int .i64 1) fun t22 =>
    oLoad Try.prog 29 t22 (Eq h_6) fun t23 =>
    oIdx Try.prog 29 t23 (.int .i64 0) fun t24 =>
    oLoad Try.prog 9 t24 (Eq h_6) fun t25 =>
    oBin Try.prog .eql 9 (.tmp 25) (.const (.string ⟨#[102]⟩)) t25 (.string ⟨#[102]⟩) fun t26 =>
    k_1 t26)
    (k_1 undef))
   fun k =>
  cond t11
   (oIdx Try.prog 26 t8 (.int .i64 0) fun t14 =>
   oLoad Try.prog 29 t14 (Eq h_6) fun t15 =>
   oIdx Try.prog 29 t15 (.int .i64 0) fun t16 =>
   oLoad Try.prog 9 t16 (Eq h_6) fun t17 =>
   oBin Try.prog .eql 9 (.tmp 17) (.const (.string ⟨#[103]⟩)) t17 (.string ⟨#[103]⟩) fun t18 =>
   k t18)
   (k undef)

set_option maxRecDepth 100000 in
set_option maxHeartbeats 2000000 in
theorem sh_augurlaw11_known {h : Heap} {R : Value → Heap → Prop} (hg : g_augurlaw11_known  h R) : HC Try.prog 7 #[] h R := by
  refine hc_of_wp (n := 48) (f := ovr [] fun _ => undef) Try.func7 rfl rfl (by kernel_rfl) (fun w hw => ?_)
  have hs := SameW.refl w
  unfold g_augurlaw11_known at hg
  refine wp_seq ?_
  refine region_seq ?_
  refine stepM (v := (.bool false)) (by first | exact .inl rfl | exact .inr rfl) (wanted_none rfl) rfl rfl ?_
  refine stepEnd ?_
  refine thenN ?_
  refine wp_seq ?_
  refine region_seq ?_
  refine stepX rfl (by exact hg) hw (wanted_none rfl) rfl (fun t3 h wh hw hs1 hg => ?_)
  have hs := hs.trans hs1
  clear hs1
  refine stepX (ex_buildSlice rfl) (by exact hg) hw (wanted_none rfl) rfl (fun t4 h_1 wh_1 hw hs1 hg => ?_)
  have hs := hs.trans hs1
  clear hs1
  refine stepU rfl (by exact hg) hw (wanted_none rfl) rfl (fun _ h_2 wh_2 hw hs1 hg => ?_)
  have hs := hs.trans hs1
  clear hs1
  refine stepX (ex_buildSlice rfl) (by exact hg) hw (wanted_none rfl) rfl (fun t5 h_3 wh_3 hw hs1 hg => ?_)
  have hs := hs.trans hs1
  clear hs1
  refine stepU rfl (by exact hg) hw (wanted_none rfl) rfl (fun _ h_4 wh_4 hw hs1 hg => ?_)
  have hs := hs.trans hs1
  clear hs1
  refine stepU rfl (by exact hg) hw (wanted_none rfl) rfl (fun _ h_5 wh_5 hw hs1 hg => ?_)
  have hs := hs.trans hs1
  clear hs1
  refine stepM (v := t3) (by first | exact .inl rfl | exact .inr rfl) (wanted_none rfl) rfl rfl ?_
  refine stepM (v := t3) (by first | exact .inl rfl | exact .inr rfl) (wanted_none rfl) rfl rfl ?_
  refine stepEnd ?_
  refine thenN ?_
  refine wp_seq ?_
  refine region_seq ?_
  refine stepM (v := t3) (by first | exact .inl rfl | exact .inr rfl) (wanted_none rfl) rfl rfl ?_
  refine stepX (ex_call rfl) (by exact hg) hw (wanted_none rfl) rfl (fun t8 h_6 wh_6 hw hs1 hg => ?_)
  have hs := hs.trans hs1
  clear hs1
  refine stepM (v := t8) (by first | exact .inl rfl | exact .inr rfl) (wanted_none rfl) rfl rfl ?_
  refine stepEnd ?_
  refine thenN ?_
  refine wp_seq ?_
  refine region_seq ?_
  refine stepM (v := t8) (by first | exact .inl rfl | exact .inr rfl) (wanted_none rfl) rfl rfl ?_
  refine stepP (ex_blt rfl) (by exact hg) (wanted_none rfl) rfl (fun t10 hg => ?_)
  refine stepP rfl (by exact hg) (wanted_none rfl) rfl (fun t11 hg => ?_)
  refine stepM (v := t11) (by first | exact .inl rfl | exact .inr rfl) (wanted_none rfl) rfl rfl ?_
  obtain ⟨k, hk, hg⟩ := join_elim hg
  refine list_join 6 (fun K_k hK_k => ?_)
  have hj_k : ∀ (x18 : Value) (w' : World), w'.heap = h_6 → SameW w w' → k x18 → ∀ f, K_k (mk 48 (ovr [(18, x18), (1, t3), (2, t8), (12, t11)] f)) w' := by
    intro x18 wj hw hs hg f
    rw [hk] at hg
    refine hK_k _ _ ?_
    refine stepP rfl (by exact hg) (wanted_none rfl) rfl (fun t19 hg => ?_)
    refine stepM (v := t19) (by first | exact .inl rfl | exact .inr rfl) (wanted_none rfl) rfl rfl ?_
    obtain ⟨k_1, hk_1, hg⟩ := join_elim hg
    refine list_join 6 (fun K_k_1 hK_k_1 => ?_)
    have hj_k_1 : ∀ (x26 : Value) (w' : World), w'.heap = h_6 → SameW w w' → k_1 x26 → ∀ f, K_k_1 (mk 48 (ovr [(26, x26), (1, t3), (2, t8), (20, t19)] f)) w' := by
      intro x26 wj hw hs hg f
      rw [hk_1] at hg
      refine hK_k_1 _ _ ?_
      refine stepP rfl (by exact hg) (wanted_none rfl) rfl (fun t27 hg => ?_)
      refine stepM (v := t27) (by first | exact .inl rfl | exact .inr rfl) (wanted_none rfl) rfl rfl ?_
      obtain ⟨k_2, hk_2, hg⟩ := join_elim hg
      refine list_join 6 (fun K_k_2 hK_k_2 => ?_)
      have hj_k_2 : ∀ (x34 : Value) (w' : World), w'.heap = h_6 → SameW w w' → k_2 x34 → ∀ f, K_k_2 (mk 48 (ovr [(34, x34), (1, t3), (28, t27)] f)) w' := by
        intro x34 wj hw hs hg f
        rw [hk_2] at hg
        refine hK_k_2 _ _ ?_
        refine stepP rfl (by exact hg) (wanted_none rfl) rfl (fun t35 hg => ?_)
        refine stepM (v := t35) (by first | exact .inl rfl | exact .inr rfl) (wanted_none rfl) rfl rfl ?_
        obtain ⟨k_3, hk_3, hg⟩ := join_elim hg
        refine list_join 4 (fun K_k_3 hK_k_3 => ?_)
        have hj_k_3 : ∀ (x40 : Value) (h_7 : Heap) (w' : World), w'.heap = h_7 → SameW w w' → k_3 x40 h_7 → ∀ f, K_k_3 (mk 48 (ovr [(40, x40), (1, t3), (36, t35)] f)) w' := by
          intro x40 h_7 wj hw hs hg f
          rw [hk_3] at hg
          refine hK_k_3 _ _ ?_
          refine stepP rfl (by exact hg) (wanted_none rfl) rfl (fun t41 hg => ?_)
          refine stepM (v := t41) (by first | exact .inl rfl | exact .inr rfl) (wanted_none rfl) rfl rfl ?_
          obtain ⟨k_4, hk_4, hg⟩ := join_elim hg
          refine list_join 4 (fun K_k_4 hK_k_4 => ?_)
          have hj_k_4 : ∀ (x46 : Value) (h_8 : Heap) (w' : World), w'.heap = h_8 → SameW w w' → k_4 x46 h_8 → ∀ f, K_k_4 (mk 48 (ovr [(46, x46), (42, t41)] f)) w' := by
            intro x46 h_8 wj hw hs hg f
            rw [hk_4] at hg
            refine hK_k_4 _ _ ?_
            refine stepP rfl (by exact hg) (wanted_none rfl) rfl (fun t47 hg => ?_)
            refine stepM (v := t47) (by first | exact .inl rfl | exact .inr rfl) (wanted_none rfl) rfl rfl ?_
            refine stepEnd ?_
            refine thenN ?_
            refine wp_ret ?_
            exact post_ret (res_tmp Try.results7 rfl rfl) ⟨_, rfl, hs, by rw [hw]; exact hg⟩
          clear hk_4 hK_k_4
          refine cond_split hg (fun hb hg1 => ?_) (fun hb hg1 => ?_)
          · clear hg; subst hb; have hg := hg1; clear hg1
            refine stepM (v := t3) (by first | exact .inl rfl | exact .inr rfl) (wanted_yes rfl rfl rfl rfl) rfl rfl ?_
            refine stepX (ex_call rfl) (by exact hg) hw (wanted_yes rfl rfl rfl rfl) rfl (fun t44 h_9 wh_9 hw hs1 hg => ?_)
            have hs := hs.trans hs1
            clear hs1
            refine stepX (ex_buildSlice rfl) (by exact hg) hw (wanted_yes rfl rfl rfl rfl) rfl (fun t45 h_10 wh_10 hw hs1 hg => ?_)
            have hs := hs.trans hs1
            clear hs1
            refine stepX (ex_call rfl) (by exact hg) hw (wanted_yes rfl rfl rfl rfl) rfl (fun t46 h_11 wh_11 hw hs1 hg => ?_)
            have hs := hs.trans hs1
            clear hs1
            refine stepEnd ?_
            refine thenN ?_
            exact at_ovr (hj_k_4 t46 h_11 _ hw hs hg) ⟨rfl, rfl, trivial⟩
          · clear hg; subst hb; have hg := hg1; clear hg1
            refine stepSkip (wanted_noT rfl rfl rfl rfl) rfl ?_
            refine stepSkip (wanted_noT rfl rfl rfl rfl) rfl ?_
            refine stepSkip (wanted_noT rfl rfl rfl rfl) rfl ?_
            refine stepSkip (wanted_noT rfl rfl rfl rfl) rfl ?_
            refine stepEnd ?_
            refine thenN ?_
            exact at_ovr (hj_k_4 undef h_7 _ hw hs hg) ⟨rfl, rfl, trivial⟩
        clear hk_3 hK_k_3
        refine cond_split hg (fun hb hg1 => ?_) (fun hb hg1 => ?_)
        · clear hg; subst hb; have hg := hg1; clear hg1
          refine stepM (v := t3) (by first | exact .inl rfl | exact .inr rfl) (wanted_yes rfl rfl rfl rfl) rfl rfl ?_
          refine stepX (ex_call rfl) (by exact hg) hw (wanted_yes rfl rfl rfl rfl) rfl (fun t38 h_12 wh_12 hw hs1 hg => ?_)
          have hs := hs.trans hs1
          clear hs1
          refine stepX (ex_buildSlice rfl) (by exact hg) hw (wanted_yes rfl rfl rfl rfl) rfl (fun t39 h_13 wh_13 hw hs1 hg => ?_)
          have hs := hs.trans hs1
          clear hs1
          refine stepX (ex_call rfl) (by exact hg) hw (wanted_yes rfl rfl rfl rfl) rfl (fun t40 h_14 wh_14 hw hs1 hg => ?_)
          have hs := hs.trans hs1
          clear hs1
          refine stepEnd ?_
          refine thenN ?_
          exact at_ovr (hj_k_3 t40 h_14 _ hw hs hg) ⟨rfl, rfl, rfl, trivial⟩
        · clear hg; subst hb; have hg := hg1; clear hg1
          refine stepSkip (wanted_noT rfl rfl rfl rfl) rfl ?_
          refine stepSkip (wanted_noT rfl rfl rfl rfl) rfl ?_
          refine stepSkip (wanted_noT rfl rfl rfl rfl) rfl ?_
          refine stepSkip (wanted_noT rfl rfl rfl rfl) rfl ?_
          refine stepEnd ?_
          refine thenN ?_
          exact at_ovr (hj_k_3 undef h_6 _ hw hs hg) ⟨rfl, rfl, rfl, trivial⟩
      clear hk_2 hK_k_2
      refine cond_split hg (fun hb hg1 => ?_) (fun hb hg1 => ?_)
      · clear hg; subst hb; have hg := hg1; clear hg1
        refine stepM (v := t8) (by first | exact .inl rfl | exact .inr rfl) (wanted_yes rfl rfl rfl rfl) rfl rfl ?_
        refine stepP rfl (by exact hg) (wanted_yes rfl rfl rfl rfl) rfl (fun t30 hg => ?_)
        refine stepQ rfl (by exact hg) hw (wanted_yes rfl rfl rfl rfl) rfl (fun t31 hg => ?_)
        refine stepP rfl (by exact hg) (wanted_yes rfl rfl rfl rfl) rfl (fun t32 hg => ?_)
        refine stepQ rfl (by exact hg) hw (wanted_yes rfl rfl rfl rfl) rfl (fun t33 hg => ?_)
        refine stepP rfl (by exact hg) (wanted_yes rfl rfl rfl rfl) rfl (fun t34 hg => ?_)
        refine stepEnd ?_
        refine thenN ?_
        exact at_ovr (hj_k_2 t34 _ hw hs hg) ⟨rfl, rfl, rfl, trivial⟩
      · clear hg; subst hb; have hg := hg1; clear hg1
        refine stepSkip (wanted_noT rfl rfl rfl rfl) rfl ?_
        refine stepSkip (wanted_noT rfl rfl rfl rfl) rfl ?_
        refine stepSkip (wanted_noT rfl rfl rfl rfl) rfl ?_
        refine stepSkip (wanted_noT rfl rfl rfl rfl) rfl ?_
        refine stepSkip (wanted_noT rfl rfl rfl rfl) rfl ?_
        refine stepSkip (wanted_noT rfl rfl rfl rfl) rfl ?_
        refine stepEnd ?_
        refine thenN ?_
        exact at_ovr (hj_k_2 undef _ hw hs hg) ⟨rfl, rfl, rfl, trivial⟩
    clear hk_1 hK_k_1
    refine cond_split hg (fun hb hg1 => ?_) (fun hb hg1 => ?_)
    · clear hg; subst hb; have hg := hg1; clear hg1
      refine stepM (v := t8) (by first | exact .inl rfl | exact .inr rfl) (wanted_yes rfl rfl rfl rfl) rfl rfl ?_
      refine stepP rfl (by exact hg) (wanted_yes rfl rfl rfl rfl) rfl (fun t22 hg => ?_)
      refine stepQ rfl (by exact hg) hw (wanted_yes rfl rfl rfl rfl) rfl (fun t23 hg => ?_)
      refine stepP rfl (by exact hg) (wanted_yes rfl rfl rfl rfl) rfl (fun t24 hg => ?_)
      refine stepQ rfl (by exact hg) hw (wanted_yes rfl rfl rfl rfl) rfl (fun t25 hg => ?_)
      refine stepP rfl (by exact hg) (wanted_yes rfl rfl rfl rfl) rfl (fun t26 hg => ?_)
      refine stepEnd ?_
      refine thenN ?_
      exact at_ovr (hj_k_1 t26 _ hw hs hg) ⟨rfl, rfl, rfl, rfl, trivial⟩
    · clear hg; subst hb; have hg := hg1; clear hg1
      refine stepSkip (wanted_noT rfl rfl rfl rfl) rfl ?_
      refine stepSkip (wanted_noT rfl rfl rfl rfl) rfl ?_
      refine stepSkip (wanted_noT rfl rfl rfl rfl) rfl ?_
      refine stepSkip (wanted_noT rfl rfl rfl rfl) rfl ?_
      refine stepSkip (wanted_noT rfl rfl rfl rfl) rfl ?_
      refine stepSkip (wanted_noT rfl rfl rfl rfl) rfl ?_
      refine stepEnd ?_
      refine thenN ?_
      exact at_ovr (hj_k_1 undef _ hw hs hg) ⟨rfl, rfl, rfl, rfl, trivial⟩
  clear hk hK_k
  refine cond_split hg (fun hb hg1 => ?_) (fun hb hg1 => ?_)
  · clear hg; subst hb; have hg := hg1; clear hg1
    refine stepM (v := t8) (by first | exact .inl rfl | exact .inr rfl) (wanted_yes rfl rfl rfl rfl) rfl rfl ?_
    refine stepP rfl (by exact hg) (wanted_yes rfl rfl rfl rfl) rfl (fun t14 hg => ?_)
    refine stepQ rfl (by exact hg) hw (wanted_yes rfl rfl rfl rfl) rfl (fun t15 hg => ?_)
    refine stepP rfl (by exact hg) (wanted_yes rfl rfl rfl rfl) rfl (fun t16 hg => ?_)
    refine stepQ rfl (by exact hg) hw (wanted_yes rfl rfl rfl rfl) rfl (fun t17 hg => ?_)
    refine stepP rfl (by exact hg) (wanted_yes rfl rfl rfl rfl) rfl (fun t18 hg => ?_)
    refine stepEnd ?_
    refine thenN ?_
    exact at_ovr (hj_k t18 _ hw hs hg) ⟨rfl, rfl, rfl, rfl, trivial⟩
  · clear hg; subst hb; have hg := hg1; clear hg1
    refine stepSkip (wanted_noT rfl rfl rfl rfl) rfl ?_
    refine stepSkip (wanted_noT rfl rfl rfl rfl) rfl ?_
    refine stepSkip (wanted_noT rfl rfl rfl rfl) rfl ?_
    refine stepSkip (wanted_noT rfl rfl rfl rfl) rfl ?_
    refine stepSkip (wanted_noT rfl rfl rfl rfl) rfl ?_
    refine stepSkip (wanted_noT rfl rfl rfl rfl) rfl ?_
    refine stepEnd ?_
    refine thenN ?_
    exact at_ovr (hj_k undef _ hw hs hg) ⟨rfl, rfl, rfl, rfl, trivial⟩

/-- augur/augurlaw11.edges -/
def g_augurlaw11_edges (v0 v1 : Value) (h : Heap) (R : Value → Heap → Prop) : Prop :=
  oMkMap Try.prog 24 none h fun t11 h => 
  oBin Try.prog .rem 5 (.tmp 12) (.const (.int .u8 9)) v0 (.int .u8 9) fun t13 =>
  oConv Try.prog 5 3 t13 fun t14 =>
  oBin Try.prog .add 3 (.tmp 14) (.const (.int .i64 1)) t14 (.int .i64 1) fun t15 =>
  loop1 (.int .i64 0) h fun x7 h_1 next =>
   oBin Try.prog .lss 3 (.tmp 16) (.tmp 17) x7 t15 fun t18 =>
   cond t18
    (oBin Try.prog .add 3 (.const (.int .i64 97)) (.tmp 22) (.int .i64 97) x7 fun t23 =>
    oConv Try.prog 3 5 t23 fun t24 =>
    oBuildSlice Try.prog 31 1 #[(0, t24)] h_1 fun t25 h_2 => 
    oConvX Try.prog 31 9 t25 h_2 fun t26 h_3 => 
    oUpd Try.prog 24 t11 t26 (.slice none 0 0) h_3 fun _ h_4 => 
    oBin Try.prog .add 3 (.tmp 19) (.const (.int .i64 1)) x7 (.int .i64 1) fun t20 =>
    next t20 h_4)
    (loop1 (.int .i64 0) h_1 fun x8 h_5 next_1 =>
     oLen Try.prog #[22] 3 v1 fun t29 =>
     oBin Try.prog .lss 3 (.tmp 27) (.tmp 29) x8 t29 fun t30 =>
     cond t30
      (join (fun (x9 x10 : Value) (h_6 : Heap) =>
       oLook Try.prog 24 t11 x9 false (Eq h_6) fun t62 =>
       oBuildSlice Try.prog 29 1 #[(0, x10)] h_6 fun t64 h_7 => 
       oAppend Try.prog #[29, 29] 29 #[t62, t64] h_7 fun t65 h_8 => 
       oUpd Try.prog 24 t11 x9 t65 h_8 fun _ h_9 => 
       oBin Try.prog .add 3 (.tmp 31) (.const (.int .i64 1)) x8 (.int .i64 1) fun t32 =>
       next_1 t32 h_9)
       fun k =>
       oIdx Try.prog 22 v1 x8 fun t35 =>
       oLoad Try.prog 35 t35 (Ext h_5) fun t36 =>
       oBin Try.prog .rem 35 (.tmp 36) (.const (.int .u16 16)) t36 (.int .u16 16) fun t37 =>
       oConv Try.prog 35 3 t37 fun t38 =>
       oBin Try.prog .rem 3 (.tmp 38) (.tmp 39) t38 t15 fun t40 =>
       oBin Try.prog .add 3 (.const (.int .i64 97)) (.tmp 40) (.int .i64 97) t40 fun t41 =>
       oConv Try.prog 3 5 t41 fun t42 =>
       oIdx Try.prog 22 v1 x8 fun t47 =>
       oLoad Try.prog 35 t47 (Ext h_5) fun t48 =>
       oBin Try.prog .quo 35 (.tmp 48) (.const (.int .u16 16)) t48 (.int .u16 16) fun t49 =>
       oConv Try.prog 35 3 t49 fun t50 =>
       oBin Try.prog .add 3 (.tmp 51) (.const (.int .i64 1)) t15 (.int .i64 1) fun t52 =>
       oBin Try.prog .rem 3 (.tmp 50) (.tmp 52) t50 t52 fun t53 =>
       oBin Try.prog .add 3 (.const (.int .i64 97)) (.tmp 53) (.int .i64 97) t53 fun t54 =>
       oConv Try.prog 3 5 t54 fun t55 =>
        (oBuildSlice Try.prog 31 1 #[(0, t42)] h_5 fun t43 h_10 => Ext h_5 h_10 ∧
        oConvQ Try.prog 31 9 t43 (Ext h_10) fun t44 =>
        oBuildSlice Try.prog 31 1 #[(0, t55)] h_10 fun t56 h_11 => Ext h_10 h_11 ∧
        oConvQ Try.prog 31 9 t56 (Ext h_11) fun t57 =>
        k t44 t57 h_11) ∧
        (oBuildSlice Try.prog 31 1 #[(0, t55)] h_5 fun t56_1 h_12 => Ext h_5 h_12 ∧
        oConvQ Try.prog 31 9 t56_1 (Ext h_12) fun t57_1 =>
        oBuildSlice Try.prog 31 1 #[(0, t42)] h_12 fun t43_1 h_13 => Ext h_12 h_13 ∧
        oConvQ Try.prog 31 9 t43_1 (Ext h_13) fun t44_1 =>
        k t44_1 t57_1 h_13))
      (R t11 h_5))

set_option maxRecDepth 100000 in
set_option maxHeartbeats 2000000 in
theorem sh_augurlaw11_edges {v0 v1 : Value} {h : Heap} {R : Value → Heap → Prop} (hg : g_augurlaw11_edges v0 v1 h R) : HC Try.prog 8 #[v0, v1] h R := by
  refine hc_of_wp (n := 67) (f := ovr [(0, v0), (1, v1)] fun _ => undef) Try.func8 rfl rfl (by kernel_rfl) (fun w hw => ?_)
  have hs := SameW.refl w
  unfold g_augurlaw11_edges at hg
  refine wp_seq ?_
  refine region_seq ?_
  refine stepM (v := (.map none)) (by first | exact .inl rfl | exact .inr rfl) (wanted_none rfl) rfl rfl ?_
  refine stepEnd ?_
  refine thenN ?_
  refine wp_seq ?_
  refine region_seq ?_
  refine stepX rfl (by exact hg) hw (wanted_none rfl) rfl (fun t11 h wh hw hs1 hg => ?_)
  have hs := hs.trans hs1
  clear hs1
  refine stepM (v := t11) (by first | exact .inl rfl | exact .inr rfl) (wanted_none rfl) rfl rfl ?_
  refine stepEnd ?_
  refine thenN ?_
  refine wp_seq ?_
  refine region_seq ?_
  refine stepM (v := v0) (by first | exact .inl rfl | exact .inr rfl) (wanted_none rfl) rfl rfl ?_
  refine stepP rfl (by exact hg) (wanted_none rfl) rfl (fun t13 hg => ?_)
  refine stepP rfl (by exact hg) (wanted_none rfl) rfl (fun t14 hg => ?_)
  refine stepP rfl (by exact hg) (wanted_none rfl) rfl (fun t15 hg => ?_)
  refine stepM (v := t15) (by first | exact .inl rfl | exact .inr rfl) (wanted_none rfl) rfl rfl ?_
  refine stepEnd ?_
  refine thenN ?_
  refine wp_seq ?_
  refine wp_seq ?_
  refine region_seq ?_
  refine stepM (v := (.int .i64 0)) (by first | exact .inl rfl | exact .inr rfl) (wanted_none rfl) rfl rfl ?_
  refine stepEnd ?_
  refine thenN ?_
  refine wp_block ?_
  obtain ⟨I, m0, hI0, hround⟩ := hg
  refine wp_loop_m (fun m a w' => ∃ (x7 : Value) (f : Nat → Value), a = mk 67 (ovr [(7, x7), (1, v1), (5, t11), (6, t15)] f) ∧ SameW w w' ∧ I m x7 w'.heap) m0 ⟨(.int .i64 0), _, mk_ovr ⟨rfl, rfl, rfl, rfl, trivial⟩, hs, by rw [hw]; exact hI0⟩ ?_
  rintro m _ wl ⟨x7, f, rfl, hs, hI⟩
  obtain ⟨h_1, hw⟩ : ∃ h', wl.heap = h' := ⟨_, rfl⟩
  rw [hw] at hI
  have hg := hround m _ _ hI
  clear hround hI hI0
  refine wp_seq ?_
  refine wp_seq ?_
  refine region_seq ?_
  refine stepM (v := x7) (by first | exact .inl rfl | exact .inr rfl) (wanted_none rfl) rfl rfl ?_
  refine stepM (v := t15) (by first | exact .inl rfl | exact .inr rfl) (wanted_none rfl) rfl rfl ?_
  refine stepP rfl (by exact hg) (wanted_none rfl) rfl (fun t18 hg => ?_)
  refine stepEnd ?_
  refine thenN ?_
  refine codeCond hg rfl (fun hb hg1 => ?_) (fun hb hg1 => ?_)
  · clear hg; subst hb; have hg := hg1; clear hg1
    refine wp_skip ?_
    refine thenN ?_
    refine wp_seq ?_
    refine wp_block ?_
    refine region_seq ?_
    refine stepM (v := t11) (by first | exact .inl rfl | exact .inr rfl) (wanted_none rfl) rfl rfl ?_
    refine stepM (v := x7) (by first | exact .inl rfl | exact .inr rfl) (wanted_none rfl) rfl rfl ?_
    refine stepP rfl (by exact hg) (wanted_none rfl) rfl (fun t23 hg => ?_)
    refine stepP rfl (by exact hg) (wanted_none rfl) rfl (fun t24 hg => ?_)
    refine stepX (ex_buildSlice rfl) (by exact hg) hw (wanted_none rfl) rfl (fun t25 h_2 wh_2 hw hs1 hg => ?_)
    have hs := hs.trans hs1
    clear hs1
    refine stepX rfl (by exact hg) hw (wanted_none rfl) rfl (fun t26 h_3 wh_3 hw hs1 hg => ?_)
    have hs := hs.trans hs1
    clear hs1
    refine stepU rfl (by exact hg) hw (wanted_none rfl) rfl (fun _ h_4 wh_4 hw hs1 hg => ?_)
    have hs := hs.trans hs1
    clear hs1
    refine stepEnd ?_
    refine blkN ?_
    refine thenN ?_
    refine region_seq ?_
    refine stepM (v := x7) (by first | exact .inl rfl | exact .inr rfl) (wanted_none rfl) rfl rfl ?_
    refine stepP rfl (by exact hg) (wanted_none rfl) rfl (fun t20 hg => ?_)
    refine stepM (v := t20) (by first | exact .inl rfl | exact .inr rfl) (wanted_none rfl) rfl rfl ?_
    refine stepEnd ?_
    obtain ⟨m', hlt, hI⟩ := hg
    exact thenN ⟨m', hlt, t20, _, mk_ovr ⟨rfl, rfl, rfl, rfl, trivial⟩, hs, by rw [hw]; exact hI⟩
  · clear hg; subst hb; have hg := hg1; clear hg1
    refine wp_exit ?_
    refine thenE ?_
    refine thenE ?_
    refine blkE ?_
    refine thenN ?_
    refine wp_seq ?_
    refine wp_seq ?_
    refine region_seq ?_
    refine stepM (v := (.int .i64 0)) (by first | exact .inl rfl | exact .inr rfl) (wanted_none rfl) rfl rfl ?_
    refine stepEnd ?_
    refine thenN ?_
    refine wp_block ?_
    obtain ⟨I, m0, hI0, hround⟩ := hg
    refine wp_loop_m (fun m a w' => ∃ (x8 : Value) (f : Nat → Value), a = mk 67 (ovr [(8, x8), (1, v1), (5, t11), (6, t15)] f) ∧ SameW w w' ∧ I m x8 w'.heap) m0 ⟨(.int .i64 0), _, mk_ovr ⟨rfl, rfl, rfl, rfl, trivial⟩, hs, by rw [hw]; exact hI0⟩ ?_
    rintro m _ wl ⟨x8, f, rfl, hs, hI⟩
    obtain ⟨h_5, hw⟩ : ∃ h', wl.heap = h' := ⟨_, rfl⟩
    rw [hw] at hI
    have hg := hround m _ _ hI
    clear hround hI hI0
    refine wp_seq ?_
    refine wp_seq ?_
    refine region_seq ?_
    refine stepM (v := x8) (by first | exact .inl rfl | exact .inr rfl) (wanted_none rfl) rfl rfl ?_
    refine stepM (v := v1) (by first | exact .inl rfl | exact .inr rfl) (wanted_none rfl) rfl rfl ?_
    refine stepP (ex_blt rfl) (by exact hg) (wanted_none rfl) rfl (fun t29 hg => ?_)
    refine stepP rfl (by exact hg) (wanted_none rfl) rfl (fun t30 hg => ?_)
    refine stepEnd ?_
    refine thenN ?_
    refine codeCond hg rfl (fun hb hg1 => ?_) (fun hb hg1 => ?_)
    · clear hg; subst hb; have hg := hg1; clear hg1
      refine wp_skip ?_
      refine thenN ?_
      refine wp_seq ?_
      refine wp_block ?_
      refine wp_seq ?_
      obtain ⟨k, hk, hg⟩ := join_elim hg
      refine region_exp_k (by kernel_rfl) (by repeat (first | exact panicOk_base | apply panicOk_then | apply panicOk_blk)) (fun K_k hK_k hpok wm hs1 hw1 => ?_)
      have hj_k : ∀ (x9 x10 : Value) (h_6 : Heap) (w' : World), w'.heap = h_6 → SameW w w' → k x9 x10 h_6 → ∀ f, K_k .normal (mk 67 (ovr [(9, x9), (10, x10), (1, v1), (5, t11), (6, t15), (8, x8)] f)) w' := by
        intro x9 x10 h_6 wj hw hs hg f
        rw [hk] at hg
        refine hK_k _ _ ?_
        refine thenN ?_
        refine region_seq ?_
        refine stepM (v := t11) (by first | exact .inl rfl | exact .inr rfl) (wanted_none rfl) rfl rfl ?_
        refine stepM (v := x9) (by first | exact .inl rfl | exact .inr rfl) (wanted_none rfl) rfl rfl ?_
        refine stepM (v := t11) (by first | exact .inl rfl | exact .inr rfl) (wanted_none rfl) rfl rfl ?_
        refine stepM (v := x9) (by first | exact .inl rfl | exact .inr rfl) (wanted_none rfl) rfl rfl ?_
        refine stepQ rfl (by exact hg) hw (wanted_none rfl) rfl (fun t62 hg => ?_)
        refine stepM (v := x10) (by first | exact .inl rfl | exact .inr rfl) (wanted_none rfl) rfl rfl ?_
        refine stepX (ex_buildSlice rfl) (by exact hg) hw (wanted_none rfl) rfl (fun t64 h_7 wh_7 hw hs1 hg => ?_)
        have hs := hs.trans hs1
        clear hs1
        refine stepX (ex_blt rfl) (by exact hg) hw (wanted_none rfl) rfl (fun t65 h_8 wh_8 hw hs1 hg => ?_)
        have hs := hs.trans hs1
        clear hs1
        refine stepU rfl (by exact hg) hw (wanted_none rfl) rfl (fun _ h_9 wh_9 hw hs1 hg => ?_)
        have hs := hs.trans hs1
        clear hs1
        refine stepEnd ?_
        refine blkN ?_
        refine thenN ?_
        refine region_seq ?_
        refine stepM (v := x8) (by first | exact .inl rfl | exact .inr rfl) (wanted_none rfl) rfl rfl ?_
        refine stepP rfl (by exact hg) (wanted_none rfl) rfl (fun t32 hg => ?_)
        refine stepM (v := t32) (by first | exact .inl rfl | exact .inr rfl) (wanted_none rfl) rfl rfl ?_
        refine stepEnd ?_
        obtain ⟨m', hlt, hI⟩ := hg
        exact thenN ⟨m', hlt, t32, _, mk_ovr ⟨rfl, rfl, rfl, rfl, trivial⟩, hs, by rw [hw]; exact hI⟩
      have hw := hw1.trans hw
      have hs := hs.trans hs1
      clear hs1 hw1 hk hK_k
      refine expM (v := v1) (i := 0) rfl (by kernel_rfl) (show _ = #[true, false, false, false, false, false, false, false, false, false, false, false, false, false, false, false, false, false, false, false, false, false, false, false, false, false, false] from rfl) hpok (by first | exact .inl rfl | exact .inr rfl) (wanted_none rfl) rfl rfl ?_
      refine expM (v := x8) (i := 1) rfl (by kernel_rfl) (show _ = #[true, true, false, false, false, false, false, false, false, false, false, false, false, false, false, false, false, false, false, false, false, false, false, false, false, false, false] from rfl) hpok (by first | exact .inl rfl | exact .inr rfl) (wanted_none rfl) rfl rfl ?_
      refine expP (i := 2) rfl (by kernel_rfl) (show _ = #[true, true, true, false, false, false, false, false, false, false, false, false, false, false, false, false, false, false, false, false, false, false, false, false, false, false, false] from rfl) hpok rfl (by exact hg) (wanted_none rfl) rfl (fun t35 hg => ?_)
      refine expQ (i := 3) rfl (by kernel_rfl) (show _ = #[true, true, true, true, false, false, false, false, false, false, false, false, false, false, false, false, false, false, false, false, false, false, false, false, false, false, false] from rfl) hpok rfl (by exact hg) hw (wanted_none rfl) rfl (fun t36 hg => ?_)
      refine expP (i := 4) rfl (by kernel_rfl) (show _ = #[true, true, true, true, true, false, false, false, false, false, false, false, false, false, false, false, false, false, false, false, false, false, false, false, false, false, false] from rfl) hpok rfl (by exact hg) (wanted_none rfl) rfl (fun t37 hg => ?_)
      refine expP (i := 5) rfl (by kernel_rfl) (show _ = #[true, true, true, true, true, true, false, false, false, false, false, false, false, false, false, false, false, false, false, false, false, false, false, false, false, false, false] from rfl) hpok rfl (by exact hg) (wanted_none rfl) rfl (fun t38 hg => ?_)
      refine expM (v := t15) (i := 6) rfl (by kernel_rfl) (show _ = #[true, true, true, true, true, true, true, false, false, false, false, false, false, false, false, false, false, false, false, false, false, false, false, false, false, false, false] from rfl) hpok (by first | exact .inl rfl | exact .inr rfl) (wanted_none rfl) rfl rfl ?_
      refine expP (i := 7) rfl (by kernel_rfl) (show _ = #[true, true, true, true, true, true, true, true, false, false, false, false, false, false, false, false, false, false, false, false, false, false, false, false, false, false, false] from rfl) hpok rfl (by exact hg) (wanted_none rfl) rfl (fun t40 hg => ?_)
      refine expP (i := 8) rfl (by kernel_rfl) (show _ = #[true, true, true, true, true, true, true, true, true, false, false, false, false, false, false, false, false, false, false, false, false, false, false, false, false, false, false] from rfl) hpok rfl (by exact hg) (wanted_none rfl) rfl (fun t41 hg => ?_)
      refine expP (i := 9) rfl (by kernel_rfl) (show _ = #[true, true, true, true, true, true, true, true, true, true, false, false, false, false, false, false, false, false, false, false, false, false, false, false, false, false, false] from rfl) hpok rfl (by exact hg) (wanted_none rfl) rfl (fun t42 hg => ?_)
      refine expM (v := v1) (i := 12) rfl (by kernel_rfl) (show _ = #[true, true, true, true, true, true, true, true, true, true, false, false, true, false, false, false, false, false, false, false, false, false, false, false, false, false, false] from rfl) hpok (by first | exact .inl rfl | exact .inr rfl) (wanted_none rfl) rfl rfl ?_
      refine expM (v := x8) (i := 13) rfl (by kernel_rfl) (show _ = #[true, true, true, true, true, true, true, true, true, true, false, false, true, true, false, false, false, false, false, false, false, false, false, false, false, false, false] from rfl) hpok (by first | exact .inl rfl | exact .inr rfl) (wanted_none rfl) rfl rfl ?_
      refine expP (i := 14) rfl (by kernel_rfl) (show _ = #[true, true, true, true, true, true, true, true, true, true, false, false, true, true, true, false, false, false, false, false, false, false, false, false, false, false, false] from rfl) hpok rfl (by exact hg) (wanted_none rfl) rfl (fun t47 hg => ?_)
      refine expQ (i := 15) rfl (by kernel_rfl) (show _ = #[true, true, true, true, true, true, true, true, true, true, false, false, true, true, true, true, false, false, false, false, false, false, false, false, false, false, false] from rfl) hpok rfl (by exact hg) hw (wanted_none rfl) rfl (fun t48 hg => ?_)
      refine expP (i := 16) rfl (by kernel_rfl) (show _ = #[true, true, true, true, true, true, true, true, true, true, false, false, true, true, true, true, true, false, false, false, false, false, false, false, false, false, false] from rfl) hpok rfl (by exact hg) (wanted_none rfl) rfl (fun t49 hg => ?_)
      refine expP (i := 17) rfl (by kernel_rfl) (show _ = #[true, true, true, true, true, true, true, true, true, true, false, false, true, true, true, true, true, true, false, false, false, false, false, false, false, false, false] from rfl) hpok rfl (by exact hg) (wanted_none rfl) rfl (fun t50 hg => ?_)
      refine expM (v := t15) (i := 18) rfl (by kernel_rfl) (show _ = #[true, true, true, true, true, true, true, true, true, true, false, false, true, true, true, true, true, true, true, false, false, false, false, false, false, false, false] from rfl) hpok (by first | exact .inl rfl | exact .inr rfl) (wanted_none rfl) rfl rfl ?_
      refine expP (i := 19) rfl (by kernel_rfl) (show _ = #[true, true, true, true, true, true, true, true, true, true, false, false, true, true, true, true, true, true, true, true, false, false, false, false, false, false, false] from rfl) hpok rfl (by exact hg) (wanted_none rfl) rfl (fun t52 hg => ?_)
      refine expP (i := 20) rfl (by kernel_rfl) (show _ = #[true, true, true, true, true, true, true, true, true, true, false, false, true, true, true, true, true, true, true, true, true, false, false, false, false, false, false] from rfl) hpok rfl (by exact hg) (wanted_none rfl) rfl (fun t53 hg => ?_)
      refine expP (i := 21) rfl (by kernel_rfl) (show _ = #[true, true, true, true, true, true, true, true, true, true, false, false, true, true, true, true, true, true, true, true, true, true, false, false, false, false, false] from rfl) hpok rfl (by exact hg) (wanted_none rfl) rfl (fun t54 hg => ?_)
      refine expP (i := 22) rfl (by kernel_rfl) (show _ = #[true, true, true, true, true, true, true, true, true, true, false, false, true, true, true, true, true, true, true, true, true, true, true, false, false, false, false] from rfl) hpok rfl (by exact hg) (wanted_none rfl) rfl (fun t55 hg => ?_)
      obtain ⟨hg0, hg1⟩ := hg
      refine expAll2 10 23 (by kernel_rfl) ?_ ?_
      · have hg := hg0
        clear hg0 hg1
        refine expX (i := 10) rfl (show _ = #[true, true, true, true, true, true, true, true, true, true, true, false, true, true, true, true, true, true, true, true, true, true, true, false, false, false, false] from rfl) (ex_buildSlice rfl) (by exact hg) hw (wanted_none rfl) rfl (fun t43 h_10 wh_10 hw hs1 hg => ?_)
        have hs := hs.trans hs1
        clear hs1
        refine expQ (i := 11) rfl (by kernel_rfl) (show _ = #[true, true, true, true, true, true, true, true, true, true, true, true, true, true, true, true, true, true, true, true, true, true, true, false, false, false, false] from rfl) hpok rfl (by exact hg) hw (wanted_none rfl) rfl (fun t44 hg => ?_)
        refine expM (v := t44) (i := 25) rfl (by kernel_rfl) (show _ = #[true, true, true, true, true, true, true, true, true, true, true, true, true, true, true, true, true, true, true, true, true, true, true, false, false, true, false] from rfl) hpok (by first | exact .inl rfl | exact .inr rfl) (wanted_none rfl) rfl rfl ?_
        refine expAll1 23 (by kernel_rfl) ?_
        refine expX (i := 23) rfl (show _ = #[true, true, true, true, true, true, true, true, true, true, true, true, true, true, true, true, true, true, true, true, true, true, true, true, false, true, false] from rfl) (ex_buildSlice rfl) (by exact hg) hw (wanted_none rfl) rfl (fun t56 h_11 wh_11 hw hs1 hg => ?_)
        have hs := hs.trans hs1
        clear hs1
        refine expQ (i := 24) rfl (by kernel_rfl) (show _ = #[true, true, true, true, true, true, true, true, true, true, true, true, true, true, true, true, true, true, true, true, true, true, true, true, true, true, false] from rfl) hpok rfl (by exact hg) hw (wanted_none rfl) rfl (fun t57 hg => ?_)
        refine expM (v := t57) (i := 26) rfl (by kernel_rfl) (show _ = #[true, true, true, true, true, true, true, true, true, true, true, true, true, true, true, true, true, true, true, true, true, true, true, true, true, true, true] from rfl) hpok (by first | exact .inl rfl | exact .inr rfl) (wanted_none rfl) rfl rfl ?_
        refine expEnd (by kernel_rfl) ?_
        exact at_ovrN (hj_k t44 t57 h_11 _ hw hs hg) ⟨rfl, rfl, rfl, rfl, rfl, rfl, trivial⟩
      · have hg := hg1
        clear hg0 hg1
        refine expX (i := 23) rfl (show _ = #[true, true, true, true, true, true, true, true, true, true, false, false, true, true, true, true, true, true, true, true, true, true, true, true, false, false, false] from rfl) (ex_buildSlice rfl) (by exact hg) hw (wanted_none rfl) rfl (fun t56_1 h_12 wh_12 hw hs1 hg => ?_)
        have hs := hs.trans hs1
        clear hs1
        refine expQ (i := 24) rfl (by kernel_rfl) (show _ = #[true, true, true, true, true, true, true, true, true, true, false, false, true, true, true, true, true, true, true, true, true, true, true, true, true, false, false] from rfl) hpok rfl (by exact hg) hw (wanted_none rfl) rfl (fun t57_1 hg => ?_)
        refine expAll1 10 (by kernel_rfl) ?_
        refine expX (i := 10) rfl (show _ = #[true, true, true, true, true, true, true, true, true, true, true, false, true, true, true, true, true, true, true, true, true, true, true, true, true, false, false] from rfl) (ex_buildSlice rfl) (by exact hg) hw (wanted_none rfl) rfl (fun t43_1 h_13 wh_13 hw hs1 hg => ?_)
        have hs := hs.trans hs1
        clear hs1
        refine expQ (i := 11) rfl (by kernel_rfl) (show _ = #[true, true, true, true, true, true, true, true, true, true, true, true, true, true, true, true, true, true, true, true, true, true, true, true, true, false, false] from rfl) hpok rfl (by exact hg) hw (wanted_none rfl) rfl (fun t44_1 hg => ?_)
        refine expM (v := t44_1) (i := 25) rfl (by kernel_rfl) (show _ = #[true, true, true, true, true, true, true, true, true, true, true, true, true, true, true, true, true, true, true, true, true, true, true, true, true, true, false] from rfl) hpok (by first | exact .inl rfl | exact .inr rfl) (wanted_none rfl) rfl rfl ?_
        refine expM (v := t57_1) (i := 26) rfl (by kernel_rfl) (show _ = #[true, true, true, true, true, true, true, true, true, true, true, true, true, true, true, true, true, true, true, true, true, true, true, true, true, true, true] from rfl) hpok (by first | exact .inl rfl | exact .inr rfl) (wanted_none rfl) rfl rfl ?_
        refine expEnd (by kernel_rfl) ?_
        exact at_ovrN (hj_k t44_1 t57_1 h_13 _ hw hs hg) ⟨rfl, rfl, rfl, rfl, rfl, rfl, trivial⟩
    · clear hg; subst hb; have hg := hg1; clear hg1
      refine wp_exit ?_
      refine thenE ?_
      refine thenE ?_
      refine blkE ?_
      refine thenN ?_
      refine wp_seq ?_
      refine region_seq ?_
      refine stepM (v := t11) (by first | exact .inl rfl | exact .inr rfl) (wanted_none rfl) rfl rfl ?_
      refine stepM (v := t11) (by first | exact .inl rfl | exact .inr rfl) (wanted_none rfl) rfl rfl ?_
      refine stepEnd ?_
      refine thenN ?_
      refine wp_ret ?_
      exact post_ret (res_tmp Try.results8 rfl rfl) ⟨_, rfl, hs, by rw [hw]; exact hg⟩

end Go.Proofs.Ytfhbpghgcgmegaa
