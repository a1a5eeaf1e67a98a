/- Contract: the chapter's example. -/
import Derived.Test.YtfhbpghgcgmegaaC15
set_option linter.unusedVariables false
namespace Go.Proofs.Ytfhbpghgcgmegaa
open Go Go.Sh Go.Proofs

theorem oLenRR {h : Heap} {v : Value} {ll : List (List Str)} {K : Value → Prop} (r : RdSS h v ll) (hk : K (.int .i64 ll.length)) : oLen Try.prog #[26] 3 v K := (oLen_sl r.1).2 hk
/-- One name in a row of rows. -/
theorem oNm {h : Heap} {v : Value} {ll : List (List Str)} {i j : Nat} {l : List Str} {a : Str} {K : Value → Prop} (r : RdSS h v ll) (hi : ll[i]? = some l) (hj : l[j]? = some a) (hk : K (str a)) :
    oIdx Try.prog 26 v (.int .i64 i) fun p => oLoad Try.prog 29 p (Eq h) fun x => oIdx Try.prog 29 x (.int .i64 j) fun q => oLoad Try.prog 9 q (Eq h) K :=
  oGetLL r hi fun x hx => oGetL hx hj hk
theorem known_ok {h : Heap} : HC Try.prog 7 #[] h fun u h' => u = .bool true ∧ Ext h h' := by
  refine sh_augurlaw11_known ?_
  unfold g_augurlaw11_known
  simp only [join]
  refine oMkMap_own (.inl rfl) (St.nil h) fun t3 h1 s1 => ?_
  have m1 : St h h1 [MR str t3 []] := s1.mrNil
  refine oBuild1o m1 rfl rfl fun t4 h2 s2 => ?_
  refine oPutMR (enc := str) (k := [102]) (l := [[103]]) (o := none) (by intro x hx; cases hx) s2 fun h3 s3 => ?_
  refine oBuild1o s3 rfl rfl fun t5 h4 s4 => ?_
  refine oPutMR (enc := str) (k := [103]) (l := [[103]]) (o := none) (by intro x hx; cases hx) s4 fun h5 s5 => ?_
  refine oPutMR (enc := str) (k := [104]) (l := []) (o := none) (by intro x hx; cases hx) s5.nilRow fun h6 s6 => ?_
  have he : put (put (put [] [102] [[103]]) [103] [[103]]) [104] [] = exm := by decide
  rw [he] at s6
  have hr := s6.mr
  have sm : Sm exm := ⟨by decide, fun a x hx => by
    have : ∀ a, ((get exm a).getD []).length ≤ 1 := fun a => by
      unfold exm Sh.get Sh.get Sh.get Sh.get
      repeat' split
      all_goals simp
    have h1 := this a
    rw [hx] at h1
    simp only [Option.getD_some] at h1
    omega⟩
  refine oCall_func (.mono (comps_ok hr sm) ?_)
  rintro t8 h7 ⟨he7, cs, hcs, hc⟩
  rw [exm_comps hc] at hcs
  clear hc cs
  have hr7 : RdE h7 t3 exm := RdE.ext hr he7
  have e0 : Ext h h7 := s6.ext.trans he7
  refine oLenRR hcs ?_
  have d1 : decide ((([[[103]], [[102]], [[104]]] : List (List Str)).length : Int) = 3) = true := by decide
  rw [oBin_eql, d1, cond_t]
  refine oNm (i := 0) (j := 0) (l := [[103]]) (a := [103]) hcs rfl rfl ?_
  refine (oBin_str_eql (a := [103]) (b := [103])).2 ?_
  rw [decide_eq_true rfl, oPick_bool, if_pos rfl, cond_t]
  refine oNm (i := 1) (j := 0) (l := [[102]]) (a := [102]) hcs rfl rfl ?_
  refine (oBin_str_eql (a := [102]) (b := [102])).2 ?_
  rw [decide_eq_true rfl, oPick_bool, if_pos rfl, cond_t]
  refine oNm (i := 2) (j := 0) (l := [[104]]) (a := [104]) hcs rfl rfl ?_
  refine (oBin_str_eql (a := [104]) (b := [104])).2 ?_
  rw [decide_eq_true rfl, oPick_bool, if_pos rfl, cond_t]
  refine oCall_func (.mono (needs_ok (nm := [102]) hr7 sm) ?_)
  rintro t38 h8 ⟨he8, l, hl, hn⟩
  rw [exm_needs hn] at hl
  refine oBuild1o (St.nil h8) rfl rfl fun t39 h9 s9 => ?_
  have hl2 : RdS h9 t39 [[103]] := St.rdL (n := 1) s9
  refine oCall_func (.mono (strings_ok (hl.ext s9.ext) hl2 (by decide)) ?_)
  rintro u h10 ⟨rfl, rfl⟩
  rw [decide_eq_true rfl, oPick_bool, if_pos rfl, cond_t]
  have hr9 : RdE h10 t3 exm := RdE.ext (RdE.ext hr7 he8) s9.ext
  refine oCall_func (.mono (users_ok (nm := [103]) hr9 sm) ?_)
  rintro t44 h11 ⟨he11, l2, hl2, hn2⟩
  rw [exm_users hn2] at hl2
  refine oBuild2o (St.nil h11) rfl rfl rfl fun t45 h12 s12 => ?_
  have hl3 : RdS h12 t45 [[102], [103]] := St.rdL (n := 2) s12
  refine oCall_func (.mono (strings_ok (hl2.ext s12.ext) hl3 (by decide)) ?_)
  rintro u h13 ⟨rfl, rfl⟩
  rw [decide_eq_true rfl, oPick_bool, if_pos rfl]
  exact ⟨rfl, (((e0.trans he8).trans s9.ext).trans he11).trans s12.ext⟩
end Go.Proofs.Ytfhbpghgcgmegaa
