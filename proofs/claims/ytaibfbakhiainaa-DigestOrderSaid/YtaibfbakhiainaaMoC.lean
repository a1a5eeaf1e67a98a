/- Texts of the claim, one behind the other. -/
import Derived.Shelf.SlicesE.Kit
import Derived.Shelf.SlSortCmp.NoneTotal
import Derived.Shelf.SlLaysF0
import Derived.Test.YtaibfbakhiainaaRows
import Derived.Shelf.SlSortCmp.Insertion
import Derived.Lib.Bytealg
import Derived.Shelf.SortM.Plain
import Derived.Shelf.SortM.SortNone
import Derived.Shelf.SlIter.Collect
import Derived.Shelf.SlLaysM
import Derived.Shelf.SlLaysZ
import Derived.Test.YtaibfbakhiainaaMoB
set_option linter.unusedVariables false
set_option linter.unusedSimpArgs false
set_option linter.unusedSectionVars false
namespace Go.Proofs.Ytaibfbakhiainaa
open Go Go.Sh
variable [Gd]
set_option maxRecDepth 100000
attribute [local irreducible] Go.wpQuiet Go.wpList Go.Sh.mixL Go.Sh.mixF Go.Sh.wpAnyE Go.Code.wp

/-- augur/ival.Empty -/
def g_ival_Empty (h : Heap) (R : Value → Heap → Prop) : Prop :=
 oAlloc Try.prog 30 h fun t0 h => 
 oBuild Try.prog 30 #[] fun t1 =>
 oStore Try.prog 30 t0 t1 h fun _ h_1 => 
 oRes Try.prog [(some 30, t0)] h_1 R

theorem sh_ival_Empty {h : Heap} {R : Value → Heap → Prop} (hg : g_ival_Empty  h R) : HC Try.prog 38 #[] h R := hc_shal [] Try.func38 (by kernel_rfl) hg

set_option maxRecDepth 20000 in
set_option maxHeartbeats 4000000 in
theorem w_ival_Empty {F : Vw} {h : Heap} {M : List HP}  {R : T_api_Ival → Prop} (s : Sf F h (M))  (hp : p_ival_Empty  R) :
  HC Try.prog 38 #[] h fun u h' => ∃ (F' : Vw) (r_0 : T_api_Ival), Le F F' ∧ Sf F' h' (M) ∧ (.agg #[(.bool r_0.Some), (.int .i64 r_0.Lo), (.int .i64 r_0.Hi)]) = u ∧ R r_0 := by
 refine sh_ival_Empty ?_
 unfold g_ival_Empty
 unfold p_ival_Empty at hp
 have e0 := Le.refl F
 refine tAl s (vs := [(.bool false), (.int .i64 0), (.int .i64 0)]) (by rfl) fun p h_1 s => ?_
 refine oBuild_own (cells := #[(.bool false), (.int .i64 0), (.int .i64 0)]) rfl ?_
 refine tSt (cs := [(.bool false), (.int .i64 0), (.int .i64 0)]) (vs := [(.bool false), (.int .i64 0), (.int .i64 0)]) (cs' := [(.bool false), (.int .i64 0), (.int .i64 0)]) (j := 0) 0 rfl s (Cx.new_at p) (padd_zero _).symm (by rfl) rfl (Nat.le_of_ble_eq_true rfl) (ones_cons rfl (ones_cons rfl (ones_cons rfl ones_nil))) rfl fun h_2 s => ?_
 refine oResA (cs := [(.bool false), (.int .i64 0), (.int .i64 0)]) (Sf.ceE (Cx.new_at p) 0 rfl s _ rfl) ⟨_, rfl⟩ rfl ?_
 replace s := Sf.dropAt 0 rfl s
 exact ⟨F, (⟨false, 0, 0⟩ : T_api_Ival), e0, s, rfl, hp⟩

/-- augur/ival.empty -/
def g_ival_empty (v0 : Value) (h : Heap) (R : Value → Heap → Prop) : Prop :=
 oBox Try.prog 30 v0 h fun t1 h => 
 oFieldAddr Try.prog 30 t1 0 (Eq h) fun t3 =>
 oLoad Try.prog 4 t3 (Eq h) fun t4 =>
 oUn Try.prog .not t4 fun t5 =>
 join (fun (x11 : Value)  =>
  oPick Try.prog t5 (.bool true) x11 fun t12 =>
  R t12 h)
  fun k =>
 cond t5
  (k undef)
  (oFieldAddr Try.prog 30 t1 1 (Eq h) fun t7 =>
  oLoad Try.prog 2 t7 (Eq h) fun t8 =>
  oFieldAddr Try.prog 30 t1 2 (Eq h) fun t9 =>
  oLoad Try.prog 2 t9 (Eq h) fun t10 =>
  oBin Try.prog .gtr 2 (.tmp 8) (.tmp 10) t8 t10 fun t11 =>
  k t11)

theorem sh_ival_empty {v0 : Value} {h : Heap} {R : Value → Heap → Prop} (hg : g_ival_empty v0 h R) : HC Try.prog 39 #[v0] h R := hc_shal [] Try.func39 (by kernel_rfl) hg

set_option maxRecDepth 20000 in
set_option maxHeartbeats 4000000 in
theorem w_ival_empty {F : Vw} {h : Heap} {M : List HP} {a0 : T_api_Ival} {R : Bool → Prop} (s : Sf F h (M))  (hp : p_ival_empty a0 R) :
  HC Try.prog 39 #[(.agg #[(.bool a0.Some), (.int .i64 a0.Lo), (.int .i64 a0.Hi)])] h fun u h' => ∃ (F' : Vw) (r_0 : Bool), Le F F' ∧ Sf F' h' (M) ∧ (.bool r_0) = u ∧ R r_0 := by
 refine sh_ival_empty ?_
 unfold g_ival_empty
 unfold p_ival_empty at hp
 have e0 := Le.refl F
 refine tBx s (vs := [(.bool a0.Some), (.int .i64 a0.Lo), (.int .i64 a0.Hi)]) (by rfl) fun p h_1 s => ?_
 refine tFA (a := p) (n := 0) (padd_zero _).symm (padd_zero _) ?_
 refine tLd (p := .pointer (some p)) (cs := [(.bool a0.Some), (.int .i64 a0.Lo), (.int .i64 a0.Hi)]) (j := 0) (padd_zero _).symm (Sf.ceE (Cx.new_at p) 0 rfl s) rfl ?_
 refine oUn_not.2 ?_
 obtain ⟨kp, hk_1, hp⟩ := Pl.join_elim hp
 refine Sh.join_intro fun k hk => ?_
 have hK : ∀ (x : Bool) (w : Value), (∀ K : Value → Prop, K (.bool x) → oPick Try.prog (.bool (!a0.Some)) (.bool true) w K) → kp x → k w := by
  intro x w hw hp
  rw [hk]
  rw [hk_1] at hp
  refine hw _ ?_
  replace s := Sf.dropAt 0 rfl s
  exact ⟨F, x, e0, s, rfl, hp⟩
 clear hk hk_1
 by_cases hc : (!a0.Some) = true
 ·refine (cond_tt hc).2 ?_
  replace hp := (Pl.ite_pos hc).1 hp
  exact hK true _ (fun _ h => oPick_hc hc h) hp
 ·refine (cond_ff hc).2 ?_
  replace hp := (Pl.ite_neg hc).1 hp
  refine tFA (a := p) (n := 0) (padd_zero _).symm rfl ?_
  refine tLd (p := .pointer (some p)) (cs := [(.bool a0.Some), (.int .i64 a0.Lo), (.int .i64 a0.Hi)]) (j := 1) rfl (Sf.ceE (Cx.new_at p) 0 rfl s) rfl ?_
  refine tFA (a := p) (n := 0) (padd_zero _).symm rfl ?_
  refine tLd (p := .pointer (some p)) (cs := [(.bool a0.Some), (.int .i64 a0.Lo), (.int .i64 a0.Hi)]) (j := 2) rfl (Sf.ceE (Cx.new_at p) 0 rfl s) rfl ?_
  refine oBin_gtr.2 ?_
  exact hK (decide (a0.Hi < a0.Lo)) _ (fun _ h => oPick_hn hc h) hp

/-- augur/ival.Of -/
def g_ival_Of (v0 v1 : Value) (h : Heap) (R : Value → Heap → Prop) : Prop :=
 oAlloc Try.prog 30 h fun t4 h => 
 oBin Try.prog .gtr 2 (.tmp 5) (.tmp 6) v0 v1 fun t7 =>
 cond t7
  (oCall Try.prog (.func (.func 38) #[] #[]) #[] h fun t8 h_1 => 
  oStore Try.prog 30 t4 t8 h_1 fun _ h_2 => 
  oRes Try.prog [(some 30, t4)] h_2 R)
  (oBuild Try.prog 30 #[(0, (.bool true)), (1, v0), (2, v1)] fun t11 =>
  oStore Try.prog 30 t4 t11 h fun _ h_3 => 
  oRes Try.prog [(some 30, t4)] h_3 R)

theorem sh_ival_Of {v0 v1 : Value} {h : Heap} {R : Value → Heap → Prop} (hg : g_ival_Of v0 v1 h R) : HC Try.prog 40 #[v0, v1] h R := hc_shal [] Try.func40 (by kernel_rfl) hg

set_option maxRecDepth 20000 in
set_option maxHeartbeats 4000000 in
theorem w_ival_Of {F : Vw} {h : Heap} {M : List HP} {a0 : Int} {a1 : Int} {R : T_api_Ival → Prop} (s : Sf F h (M))  (hp : p_ival_Of a0 a1 R) :
  HC Try.prog 40 #[(.int .i64 a0), (.int .i64 a1)] h fun u h' => ∃ (F' : Vw) (r_0 : T_api_Ival), Le F F' ∧ Sf F' h' (M) ∧ (.agg #[(.bool r_0.Some), (.int .i64 r_0.Lo), (.int .i64 r_0.Hi)]) = u ∧ R r_0 := by
 refine sh_ival_Of ?_
 unfold g_ival_Of
 unfold p_ival_Of at hp
 have e0 := Le.refl F
 refine tAl s (vs := [(.bool false), (.int .i64 0), (.int .i64 0)]) (by rfl) fun p h_1 s => ?_
 refine oBin_gtr.2 ?_
 by_cases hc : a1 < a0
 ·refine (cond_pos hc).2 ?_
  replace hp := (Pl.ite_pos hc).1 hp
  refine oCall_func (HC.mono (w_ival_Empty  s  hp) ?_)
  rintro u h_2 ⟨F_1, r, g, s, rfl, hp⟩
  replace e0 := Le.trans e0 g
  refine tSt (cs := [(.bool false), (.int .i64 0), (.int .i64 0)]) (vs := [(.bool r.Some), (.int .i64 r.Lo), (.int .i64 r.Hi)]) (cs' := [(.bool r.Some), (.int .i64 r.Lo), (.int .i64 r.Hi)]) (j := 0) 0 rfl s (Cx.new_at p) (padd_zero _).symm (by rfl) rfl (Nat.le_of_ble_eq_true rfl) (ones_cons rfl (ones_cons rfl (ones_cons rfl ones_nil))) rfl fun h_3 s => ?_
  refine oResA (cs := [(.bool r.Some), (.int .i64 r.Lo), (.int .i64 r.Hi)]) (Sf.ceE (Cx.new_at p) 0 rfl s _ rfl) ⟨_, rfl⟩ rfl ?_
  replace s := Sf.dropAt 0 rfl s
  exact ⟨F_1, r, e0, s, rfl, hp⟩
 ·refine (cond_neg hc).2 ?_
  replace hp := (Pl.ite_neg hc).1 hp
  refine oBuild_own (cells := #[(.bool true), (.int .i64 a0), (.int .i64 a1)]) rfl ?_
  refine tSt (cs := [(.bool false), (.int .i64 0), (.int .i64 0)]) (vs := [(.bool true), (.int .i64 a0), (.int .i64 a1)]) (cs' := [(.bool true), (.int .i64 a0), (.int .i64 a1)]) (j := 0) 0 rfl s (Cx.new_at p) (padd_zero _).symm (by rfl) rfl (Nat.le_of_ble_eq_true rfl) (ones_cons rfl (ones_cons rfl (ones_cons rfl ones_nil))) rfl fun h_4 s => ?_
  refine oResA (cs := [(.bool true), (.int .i64 a0), (.int .i64 a1)]) (Sf.ceE (Cx.new_at p) 0 rfl s _ rfl) ⟨_, rfl⟩ rfl ?_
  replace s := Sf.dropAt 0 rfl s
  exact ⟨F, (⟨true, a0, a1⟩ : T_api_Ival), e0, s, rfl, hp⟩

/-- augur/ival.Join -/
def g_ival_Join (v0 : Value) (h : Heap) (R : Value → Heap → Prop) : Prop :=
 oAlloc Try.prog 30 h fun t2 h => 
 oCall Try.prog (.func (.func 38) #[] #[]) #[] h fun t6 h_1 => 
 oAlloc Try.prog 30 h_1 fun t3 h_2 => 
 oStore Try.prog 30 t3 t6 h_2 fun _ h_3 => 
 oLen Try.prog #[84] 3 v0 fun t8 =>
 loop1 (.int .i64 0) h_3 fun x9 h_4 next =>
  oBin Try.prog .lss 3 (.tmp 9) (.tmp 8) x9 t8 fun t10 =>
  cond t10
  (join (fun (h_5 : Heap) =>
   oBin Try.prog .add 3 (.tmp 9) (.const (.int .i64 1)) x9 (.int .i64 1) fun t36 =>
   next t36 h_5)
   fun k =>
   oIdx Try.prog 84 v0 x9 fun t11 =>
   oLoad Try.prog 30 t11 (Eq h_4) fun t12 =>
   oAlloc Try.prog 30 h_4 fun t5 h_6 => 
   oStore Try.prog 30 t5 t12 h_6 fun _ h_7 => 
   oLoad Try.prog 30 t5 (Eq h_7) fun t25 =>
   oCall Try.prog (.func (.func 39) #[] #[]) #[t25] h_7 fun t26 h_8 => 
   cond t26
   (k h_8)
   (oFieldAddr Try.prog 30 t3 0 (Eq h_8) fun t28 =>
   oLoad Try.prog 4 t28 (Eq h_8) fun t29 =>
   oUn Try.prog .not t29 fun t30 =>
   cond t30
    (oFieldAddr Try.prog 30 t5 1 (Eq h_8) fun t31 =>
    oLoad Try.prog 2 t31 (Eq h_8) fun t32 =>
    oFieldAddr Try.prog 30 t5 2 (Eq h_8) fun t33 =>
    oLoad Try.prog 2 t33 (Eq h_8) fun t34 =>
    oCall Try.prog (.func (.func 40) #[] #[]) #[t32, t34] h_8 fun t35 h_9 => 
    oStore Try.prog 30 t3 t35 h_9 fun _ h_10 => 
    k h_10)
    (oFieldAddr Try.prog 30 t3 1 (Eq h_8) fun t13 =>
    oLoad Try.prog 2 t13 (Eq h_8) fun t14 =>
    oFieldAddr Try.prog 30 t5 1 (Eq h_8) fun t15 =>
    oLoad Try.prog 2 t15 (Eq h_8) fun t16 =>
    oMin Try.prog #[2, 2] 2 #[t14, t16] fun t17 =>
    oFieldAddr Try.prog 30 t3 2 (Eq h_8) fun t18 =>
    oLoad Try.prog 2 t18 (Eq h_8) fun t19 =>
    oFieldAddr Try.prog 30 t5 2 (Eq h_8) fun t20 =>
    oLoad Try.prog 2 t20 (Eq h_8) fun t21 =>
    oMax Try.prog #[2, 2] 2 #[t19, t21] fun t22 =>
    oCall Try.prog (.func (.func 40) #[] #[]) #[t17, t22] h_8 fun t23 h_11 => 
    oStore Try.prog 30 t3 t23 h_11 fun _ h_12 => 
    k h_12)))
  (oLoad Try.prog 30 t3 (Eq h_4) fun t37 =>
  oStore Try.prog 30 t2 t37 h_4 fun _ h_13 => 
  oRes Try.prog [(some 30, t2)] h_13 R)

theorem sh_ival_Join {v0 : Value} {h : Heap} {R : Value → Heap → Prop} (hg : g_ival_Join v0 h R) : HC Try.prog 25 #[v0] h R := hc_shal [] Try.func25 (by kernel_rfl) hg

set_option maxRecDepth 20000 in
set_option maxHeartbeats 4000000 in
theorem w_ival_Join {F : Vw} {h : Heap} {M : List HP} {a0 : List T_api_Ival} {v : Value} {R : T_api_Ival → Prop} (s : Sf F h (M)) (r : RL e_api_Ival F v a0) (hp : p_ival_Join a0 R) :
  HC Try.prog 25 #[v] h fun u h' => ∃ (F' : Vw) (r_0 : T_api_Ival), Le F F' ∧ Sf F' h' (M) ∧ (.agg #[(.bool r_0.Some), (.int .i64 r_0.Lo), (.int .i64 r_0.Hi)]) = u ∧ R r_0 := by
 refine sh_ival_Join ?_
 unfold g_ival_Join
 unfold p_ival_Join at hp
 have e0 := Le.refl F
 refine tAl s (vs := [(.bool false), (.int .i64 0), (.int .i64 0)]) (by rfl) fun p h_1 s => ?_
 refine oCall_func (HC.mono (w_ival_Empty  s  hp) ?_)
 rintro u h_2 ⟨F_1, r_1, g, s, rfl, hp⟩
 replace r := r.le g
 replace e0 := Le.trans e0 g
 refine tAl s (vs := [(.bool false), (.int .i64 0), (.int .i64 0)]) (by rfl) fun p_1 h_3 s => ?_
 refine tSt (cs := [(.bool false), (.int .i64 0), (.int .i64 0)]) (vs := [(.bool r_1.Some), (.int .i64 r_1.Lo), (.int .i64 r_1.Hi)]) (cs' := [(.bool r_1.Some), (.int .i64 r_1.Lo), (.int .i64 r_1.Hi)]) (j := 0) 0 rfl s (Cx.new_at p_1) (padd_zero _).symm (by rfl) rfl (Nat.le_of_ble_eq_true rfl) (ones_cons rfl (ones_cons rfl (ones_cons rfl ones_nil))) rfl fun h_4 s => ?_
 refine (oLen_sl r.1).2 ?_
 obtain ⟨I, m0, hI, hI_1⟩ := hp
 refine ⟨fun m w h_7 => ∃ (F_4 : Vw) (x_3 : Int) (x_4 : T_api_Ival) , Le F_1 F_4 ∧ Sf F_4 h_7 (Ce (Cx.new p_1) [(.bool x_4.Some), (.int .i64 x_4.Lo), (.int .i64 x_4.Hi)] :: Ce (Cx.new p) [(.bool false), (.int .i64 0), (.int .i64 0)] :: M) ∧ (.int .i64 x_3) = w ∧ I m x_3 x_4, m0, ⟨F_1, 0, r_1, Le.refl _, s, rfl, hI⟩, ?_⟩
 clear hI
 rintro m w h_7 ⟨F_4, x_3, x_4, g_1, s, rfl, hi⟩
 have hp := hI_1 m x_3 x_4 hi
 replace r := r.le g_1
 replace e0 := Le.trans e0 g_1
 have eL := g_1
 refine oBin_lss.2 ?_
 by_cases hc : x_3 < (List.length a0 : Int)
 ·refine (cond_pos hc).2 ?_
  replace hp := (Pl.ite_pos hc).1 hp
  obtain ⟨kp, hk_1, hp⟩ := Pl.join_elim hp
  have ej := Le.refl F_4
  refine Sh.join_intro fun k hk => ?_
  have hK : ∀ (F_6 : Vw) (h_8 : Heap) (x_5 : T_api_Ival), Le F_4 F_6 → Sf F_6 h_8 (Ce (Cx.new p_1) [(.bool x_5.Some), (.int .i64 x_5.Lo), (.int .i64 x_5.Hi)] :: Ce (Cx.new p) [(.bool false), (.int .i64 0), (.int .i64 0)] :: M) → kp x_5 → k h_8 := by
   intro F_6 h_8 x_5 g_2 s  hp
   rw [hk]
   rw [hk_1] at hp
   replace e0 := Le.trans e0 g_2
   replace eL := Le.trans eL g_2
   replace ej := Le.trans ej g_2
   refine oBin_add.2 ?_
   obtain ⟨m_1, hm, hi_1⟩ := hp
   exact ⟨m_1, hm, F_6, IntKind.wrap .i64 (x_3 + 1), x_5, eL, s, rfl, hi_1⟩
  clear hk hk_1
  obtain ⟨hz, a, hi_2, hp⟩ := hp
  refine tPlF rfl r hz hi_2 fun q c hc_1 rv => ?_
  obtain rfl : c = [(.bool a.Some), (.int .i64 a.Lo), (.int .i64 a.Hi)] := hc_1
  refine tLdA (a := q) (cs := [(.bool a.Some), (.int .i64 a.Lo), (.int .i64 a.Hi)]) (ds := [(.bool a.Some), (.int .i64 a.Lo), (.int .i64 a.Hi)]) (j := 0) (padd_zero _).symm (Sf.rvE s rv) (Nat.le_of_ble_eq_true rfl) rfl ?_
  refine tAl s (vs := [(.bool false), (.int .i64 0), (.int .i64 0)]) (by rfl) fun p_2 h_9 s => ?_
  refine tSt (cs := [(.bool false), (.int .i64 0), (.int .i64 0)]) (vs := [(.bool a.Some), (.int .i64 a.Lo), (.int .i64 a.Hi)]) (cs' := [(.bool a.Some), (.int .i64 a.Lo), (.int .i64 a.Hi)]) (j := 0) 0 rfl s (Cx.new_at p_2) (padd_zero _).symm (by rfl) rfl (Nat.le_of_ble_eq_true rfl) (ones_cons rfl (ones_cons rfl (ones_cons rfl ones_nil))) rfl fun h_10 s => ?_
  refine tLdA (a := p_2) (cs := [(.bool a.Some), (.int .i64 a.Lo), (.int .i64 a.Hi)]) (ds := [(.bool a.Some), (.int .i64 a.Lo), (.int .i64 a.Hi)]) (j := 0) (padd_zero _).symm (Sf.ceE (Cx.new_at p_2) 0 rfl s) (Nat.le_of_ble_eq_true rfl) rfl ?_
  refine oCall_func (HC.mono (w_ival_empty (a0 := a) s  hp) ?_)
  rintro u_1 h_11 ⟨F_7, r_2, g_3, s, rfl, hp⟩
  replace e0 := Le.trans e0 g_3
  replace eL := Le.trans eL g_3
  replace ej := Le.trans ej g_3
  by_cases hc_2 : r_2 = true
  ·refine (cond_tt hc_2).2 ?_
   replace hp := (Pl.ite_pos hc_2).1 hp
   replace s := Sf.dropAt 0 rfl s
   exact hK _ _ x_4 ej s  hp
  ·refine (cond_ff hc_2).2 ?_
   replace hp := (Pl.ite_neg hc_2).1 hp
   refine tFA (a := p_1) (n := 0) (padd_zero _).symm (padd_zero _) ?_
   refine tLd (p := .pointer (some p_1)) (cs := [(.bool x_4.Some), (.int .i64 x_4.Lo), (.int .i64 x_4.Hi)]) (j := 0) (padd_zero _).symm (Sf.ceE (Cx.new_at p_1) 1 rfl s) rfl ?_
   refine oUn_not.2 ?_
   by_cases hc_3 : (!x_4.Some) = true
   ·refine (cond_tt hc_3).2 ?_
    replace hp := (Pl.ite_pos hc_3).1 hp
    refine tFA (a := p_2) (n := 0) (padd_zero _).symm rfl ?_
    refine tLd (p := .pointer (some p_2)) (cs := [(.bool a.Some), (.int .i64 a.Lo), (.int .i64 a.Hi)]) (j := 1) rfl (Sf.ceE (Cx.new_at p_2) 0 rfl s) rfl ?_
    refine tFA (a := p_2) (n := 0) (padd_zero _).symm rfl ?_
    refine tLd (p := .pointer (some p_2)) (cs := [(.bool a.Some), (.int .i64 a.Lo), (.int .i64 a.Hi)]) (j := 2) rfl (Sf.ceE (Cx.new_at p_2) 0 rfl s) rfl ?_
    refine oCall_func (HC.mono (w_ival_Of (a0 := a.Lo) (a1 := a.Hi) s  hp) ?_)
    rintro u_2 h_12 ⟨F_8, r_3, g_4, s, rfl, hp⟩
    replace e0 := Le.trans e0 g_4
    replace eL := Le.trans eL g_4
    replace ej := Le.trans ej g_4
    refine tSt (cs := [(.bool x_4.Some), (.int .i64 x_4.Lo), (.int .i64 x_4.Hi)]) (vs := [(.bool r_3.Some), (.int .i64 r_3.Lo), (.int .i64 r_3.Hi)]) (cs' := [(.bool r_3.Some), (.int .i64 r_3.Lo), (.int .i64 r_3.Hi)]) (j := 0) 1 rfl s (Cx.new_at p_1) (padd_zero _).symm (by rfl) rfl (Nat.le_of_ble_eq_true rfl) (ones_cons rfl (ones_cons rfl (ones_cons rfl ones_nil))) rfl fun h_13 s => ?_
    replace s := Sf.dropAt 0 rfl s
    exact hK _ _ r_3 ej s  hp
   ·refine (cond_ff hc_3).2 ?_
    replace hp := (Pl.ite_neg hc_3).1 hp
    refine tFA (a := p_1) (n := 0) (padd_zero _).symm rfl ?_
    refine tLd (p := .pointer (some p_1)) (cs := [(.bool x_4.Some), (.int .i64 x_4.Lo), (.int .i64 x_4.Hi)]) (j := 1) rfl (Sf.ceE (Cx.new_at p_1) 1 rfl s) rfl ?_
    refine tFA (a := p_2) (n := 0) (padd_zero _).symm rfl ?_
    refine tLd (p := .pointer (some p_2)) (cs := [(.bool a.Some), (.int .i64 a.Lo), (.int .i64 a.Hi)]) (j := 1) rfl (Sf.ceE (Cx.new_at p_2) 0 rfl s) rfl ?_
    refine oMin_int.2 ?_
    refine tFA (a := p_1) (n := 0) (padd_zero _).symm rfl ?_
    refine tLd (p := .pointer (some p_1)) (cs := [(.bool x_4.Some), (.int .i64 x_4.Lo), (.int .i64 x_4.Hi)]) (j := 2) rfl (Sf.ceE (Cx.new_at p_1) 1 rfl s) rfl ?_
    refine tFA (a := p_2) (n := 0) (padd_zero _).symm rfl ?_
    refine tLd (p := .pointer (some p_2)) (cs := [(.bool a.Some), (.int .i64 a.Lo), (.int .i64 a.Hi)]) (j := 2) rfl (Sf.ceE (Cx.new_at p_2) 0 rfl s) rfl ?_
    refine oMax_int.2 ?_
    refine oCall_func (HC.mono (w_ival_Of (a0 := (min x_4.Lo a.Lo)) (a1 := (max x_4.Hi a.Hi)) s  hp) ?_)
    rintro u_3 h_14 ⟨F_9, r_4, g_5, s, rfl, hp⟩
    replace e0 := Le.trans e0 g_5
    replace eL := Le.trans eL g_5
    replace ej := Le.trans ej g_5
    refine tSt (cs := [(.bool x_4.Some), (.int .i64 x_4.Lo), (.int .i64 x_4.Hi)]) (vs := [(.bool r_4.Some), (.int .i64 r_4.Lo), (.int .i64 r_4.Hi)]) (cs' := [(.bool r_4.Some), (.int .i64 r_4.Lo), (.int .i64 r_4.Hi)]) (j := 0) 1 rfl s (Cx.new_at p_1) (padd_zero _).symm (by rfl) rfl (Nat.le_of_ble_eq_true rfl) (ones_cons rfl (ones_cons rfl (ones_cons rfl ones_nil))) rfl fun h_15 s => ?_
    replace s := Sf.dropAt 0 rfl s
    exact hK _ _ r_4 ej s  hp
 ·refine (cond_neg hc).2 ?_
  replace hp := (Pl.ite_neg hc).1 hp
  refine tLdA (a := p_1) (cs := [(.bool x_4.Some), (.int .i64 x_4.Lo), (.int .i64 x_4.Hi)]) (ds := [(.bool x_4.Some), (.int .i64 x_4.Lo), (.int .i64 x_4.Hi)]) (j := 0) (padd_zero _).symm (Sf.ceE (Cx.new_at p_1) 0 rfl s) (Nat.le_of_ble_eq_true rfl) rfl ?_
  refine tSt (cs := [(.bool false), (.int .i64 0), (.int .i64 0)]) (vs := [(.bool x_4.Some), (.int .i64 x_4.Lo), (.int .i64 x_4.Hi)]) (cs' := [(.bool x_4.Some), (.int .i64 x_4.Lo), (.int .i64 x_4.Hi)]) (j := 0) 1 rfl s (Cx.new_at p) (padd_zero _).symm (by rfl) rfl (Nat.le_of_ble_eq_true rfl) (ones_cons rfl (ones_cons rfl (ones_cons rfl ones_nil))) rfl fun h_16 s => ?_
  refine oResA (cs := [(.bool x_4.Some), (.int .i64 x_4.Lo), (.int .i64 x_4.Hi)]) (Sf.ceE (Cx.new_at p) 1 rfl s _ rfl) ⟨_, rfl⟩ rfl ?_
  replace s := Sf.dropAt 0 rfl s
  replace s := Sf.dropAt 0 rfl s
  exact ⟨F_4, x_4, e0, s, rfl, hp⟩

/-- augur/augurref12.Norm -/
def g_augurref12_Norm (v0 : Value) (h : Heap) (R : Value → Heap → Prop) : Prop :=
 oBox Try.prog 30 v0 h fun t1 h => 
 oAlloc Try.prog 30 h fun t2 h_1 => 
 oFieldAddr Try.prog 30 t1 0 (Eq h_1) fun t3 =>
 oLoad Try.prog 4 t3 (Eq h_1) fun t4 =>
 oUn Try.prog .not t4 fun t5 =>
 join (fun (x11 : Value)  =>
  oPick Try.prog t5 (.bool true) x11 fun t12 =>
  cond t12
  (oBuild Try.prog 30 #[] fun t13 =>
  oStore Try.prog 30 t2 t13 h_1 fun _ h_2 => 
  oRes Try.prog [(some 30, t2)] h_2 R)
  (oLoad Try.prog 30 t1 (Eq h_1) fun t14 =>
  oStore Try.prog 30 t2 t14 h_1 fun _ h_3 => 
  oRes Try.prog [(some 30, t2)] h_3 R))
  fun k =>
 cond t5
  (k undef)
  (oFieldAddr Try.prog 30 t1 1 (Eq h_1) fun t7 =>
  oLoad Try.prog 2 t7 (Eq h_1) fun t8 =>
  oFieldAddr Try.prog 30 t1 2 (Eq h_1) fun t9 =>
  oLoad Try.prog 2 t9 (Eq h_1) fun t10 =>
  oBin Try.prog .gtr 2 (.tmp 8) (.tmp 10) t8 t10 fun t11 =>
  k t11)

theorem sh_augurref12_Norm {v0 : Value} {h : Heap} {R : Value → Heap → Prop} (hg : g_augurref12_Norm v0 h R) : HC Try.prog 29 #[v0] h R := hc_shal [] Try.func29 (by kernel_rfl) hg

set_option maxRecDepth 20000 in
set_option maxHeartbeats 4000000 in
theorem w_augurref12_Norm {F : Vw} {h : Heap} {M : List HP} {a0 : T_api_Ival} {R : T_api_Ival → Prop} (s : Sf F h (M))  (hp : p_augurref12_Norm a0 R) :
  HC Try.prog 29 #[(.agg #[(.bool a0.Some), (.int .i64 a0.Lo), (.int .i64 a0.Hi)])] h fun u h' => ∃ (F' : Vw) (r_0 : T_api_Ival), Le F F' ∧ Sf F' h' (M) ∧ (.agg #[(.bool r_0.Some), (.int .i64 r_0.Lo), (.int .i64 r_0.Hi)]) = u ∧ R r_0 := by
 refine sh_augurref12_Norm ?_
 unfold g_augurref12_Norm
 unfold p_augurref12_Norm at hp
 have e0 := Le.refl F
 refine tBx s (vs := [(.bool a0.Some), (.int .i64 a0.Lo), (.int .i64 a0.Hi)]) (by rfl) fun p h_1 s => ?_
 refine tAl s (vs := [(.bool false), (.int .i64 0), (.int .i64 0)]) (by rfl) fun p_1 h_2 s => ?_
 refine tFA (a := p) (n := 0) (padd_zero _).symm (padd_zero _) ?_
 refine tLd (p := .pointer (some p)) (cs := [(.bool a0.Some), (.int .i64 a0.Lo), (.int .i64 a0.Hi)]) (j := 0) (padd_zero _).symm (Sf.ceE (Cx.new_at p) 1 rfl s) rfl ?_
 refine oUn_not.2 ?_
 obtain ⟨kp, hk_1, hp⟩ := Pl.join_elim hp
 refine Sh.join_intro fun k hk => ?_
 have hK : ∀ (x : Bool) (w : Value), (∀ K : Value → Prop, K (.bool x) → oPick Try.prog (.bool (!a0.Some)) (.bool true) w K) → kp x → k w := by
  intro x w hw hp
  rw [hk]
  rw [hk_1] at hp
  refine hw _ ?_
  by_cases hc : x = true
  ·refine (cond_tt hc).2 ?_
   replace hp := (Pl.ite_pos hc).1 hp
   refine oBuild_own (cells := #[(.bool false), (.int .i64 0), (.int .i64 0)]) rfl ?_
   refine tSt (cs := [(.bool false), (.int .i64 0), (.int .i64 0)]) (vs := [(.bool false), (.int .i64 0), (.int .i64 0)]) (cs' := [(.bool false), (.int .i64 0), (.int .i64 0)]) (j := 0) 0 rfl s (Cx.new_at p_1) (padd_zero _).symm (by rfl) rfl (Nat.le_of_ble_eq_true rfl) (ones_cons rfl (ones_cons rfl (ones_cons rfl ones_nil))) rfl fun h_3 s => ?_
   refine oResA (cs := [(.bool false), (.int .i64 0), (.int .i64 0)]) (Sf.ceE (Cx.new_at p_1) 0 rfl s _ rfl) ⟨_, rfl⟩ rfl ?_
   replace s := Sf.dropAt 0 rfl s
   replace s := Sf.dropAt 0 rfl s
   exact ⟨F, (⟨false, 0, 0⟩ : T_api_Ival), e0, s, rfl, hp⟩
  ·refine (cond_ff hc).2 ?_
   replace hp := (Pl.ite_neg hc).1 hp
   refine tLdA (a := p) (cs := [(.bool a0.Some), (.int .i64 a0.Lo), (.int .i64 a0.Hi)]) (ds := [(.bool a0.Some), (.int .i64 a0.Lo), (.int .i64 a0.Hi)]) (j := 0) (padd_zero _).symm (Sf.ceE (Cx.new_at p) 1 rfl s) (Nat.le_of_ble_eq_true rfl) rfl ?_
   refine tSt (cs := [(.bool false), (.int .i64 0), (.int .i64 0)]) (vs := [(.bool a0.Some), (.int .i64 a0.Lo), (.int .i64 a0.Hi)]) (cs' := [(.bool a0.Some), (.int .i64 a0.Lo), (.int .i64 a0.Hi)]) (j := 0) 0 rfl s (Cx.new_at p_1) (padd_zero _).symm (by rfl) rfl (Nat.le_of_ble_eq_true rfl) (ones_cons rfl (ones_cons rfl (ones_cons rfl ones_nil))) rfl fun h_4 s => ?_
   refine oResA (cs := [(.bool a0.Some), (.int .i64 a0.Lo), (.int .i64 a0.Hi)]) (Sf.ceE (Cx.new_at p_1) 0 rfl s _ rfl) ⟨_, rfl⟩ rfl ?_
   replace s := Sf.dropAt 0 rfl s
   replace s := Sf.dropAt 0 rfl s
   exact ⟨F, a0, e0, s, rfl, hp⟩
 clear hk hk_1
 by_cases hc_1 : (!a0.Some) = true
 ·refine (cond_tt hc_1).2 ?_
  replace hp := (Pl.ite_pos hc_1).1 hp
  exact hK true _ (fun _ h => oPick_hc hc_1 h) hp
 ·refine (cond_ff hc_1).2 ?_
  replace hp := (Pl.ite_neg hc_1).1 hp
  refine tFA (a := p) (n := 0) (padd_zero _).symm rfl ?_
  refine tLd (p := .pointer (some p)) (cs := [(.bool a0.Some), (.int .i64 a0.Lo), (.int .i64 a0.Hi)]) (j := 1) rfl (Sf.ceE (Cx.new_at p) 1 rfl s) rfl ?_
  refine tFA (a := p) (n := 0) (padd_zero _).symm rfl ?_
  refine tLd (p := .pointer (some p)) (cs := [(.bool a0.Some), (.int .i64 a0.Lo), (.int .i64 a0.Hi)]) (j := 2) rfl (Sf.ceE (Cx.new_at p) 1 rfl s) rfl ?_
  refine oBin_gtr.2 ?_
  exact hK (decide (a0.Hi < a0.Lo)) _ (fun _ h => oPick_hn hc_1 h) hp

/-- augur/augurref12.Of -/
def g_augurref12_Of (v0 v1 : Value) (h : Heap) (R : Value → Heap → Prop) : Prop :=
 oAlloc Try.prog 30 h fun t4 h => 
 oBuild Try.prog 30 #[(0, (.bool true)), (1, v0), (2, v1)] fun t7 =>
 oCall Try.prog (.func (.func 29) #[] #[]) #[t7] h fun t8 h_1 => 
 oStore Try.prog 30 t4 t8 h_1 fun _ h_2 => 
 oRes Try.prog [(some 30, t4)] h_2 R

theorem sh_augurref12_Of {v0 v1 : Value} {h : Heap} {R : Value → Heap → Prop} (hg : g_augurref12_Of v0 v1 h R) : HC Try.prog 15 #[v0, v1] h R := hc_shal [] Try.func15 (by kernel_rfl) hg

set_option maxRecDepth 20000 in
set_option maxHeartbeats 4000000 in
theorem w_augurref12_Of {F : Vw} {h : Heap} {M : List HP} {a0 : Int} {a1 : Int} {R : T_api_Ival → Prop} (s : Sf F h (M))  (hp : p_augurref12_Of a0 a1 R) :
  HC Try.prog 15 #[(.int .i64 a0), (.int .i64 a1)] h fun u h' => ∃ (F' : Vw) (r_0 : T_api_Ival), Le F F' ∧ Sf F' h' (M) ∧ (.agg #[(.bool r_0.Some), (.int .i64 r_0.Lo), (.int .i64 r_0.Hi)]) = u ∧ R r_0 := by
 refine sh_augurref12_Of ?_
 unfold g_augurref12_Of
 unfold p_augurref12_Of at hp
 have e0 := Le.refl F
 refine tAl s (vs := [(.bool false), (.int .i64 0), (.int .i64 0)]) (by rfl) fun p h_1 s => ?_
 refine oBuild_own (cells := #[(.bool true), (.int .i64 a0), (.int .i64 a1)]) rfl ?_
 refine oCall_func (HC.mono (w_augurref12_Norm (a0 := (⟨true, a0, a1⟩ : T_api_Ival)) s  hp) ?_)
 rintro u h_2 ⟨F_1, r, g, s, rfl, hp⟩
 replace e0 := Le.trans e0 g
 refine tSt (cs := [(.bool false), (.int .i64 0), (.int .i64 0)]) (vs := [(.bool r.Some), (.int .i64 r.Lo), (.int .i64 r.Hi)]) (cs' := [(.bool r.Some), (.int .i64 r.Lo), (.int .i64 r.Hi)]) (j := 0) 0 rfl s (Cx.new_at p) (padd_zero _).symm (by rfl) rfl (Nat.le_of_ble_eq_true rfl) (ones_cons rfl (ones_cons rfl (ones_cons rfl ones_nil))) rfl fun h_3 s => ?_
 refine oResA (cs := [(.bool r.Some), (.int .i64 r.Lo), (.int .i64 r.Hi)]) (Sf.ceE (Cx.new_at p) 0 rfl s _ rfl) ⟨_, rfl⟩ rfl ?_
 replace s := Sf.dropAt 0 rfl s
 exact ⟨F_1, r, e0, s, rfl, hp⟩

/-- augur/augurref10.Add -/
def g_augurref10_Add (v0 v1 : Value) (h : Heap) (R : Value → Heap → Prop) : Prop :=
 loop1 (.int .i64 0) h fun x5 h next =>
  oLen Try.prog #[48] 3 v0 fun t8 =>
  oBin Try.prog .lss 3 (.tmp 6) (.tmp 8) x5 t8 fun t9 =>
  join (fun (x16 : Value)  =>
  oPick Try.prog t9 x16 (.bool false) fun t17 =>
  cond t17
   (oBin Try.prog .add 3 (.tmp 18) (.const (.int .i64 1)) x5 (.int .i64 1) fun t19 =>
   next t19 h)
   (oLen Try.prog #[48] 3 v0 fun t22 =>
   oBin Try.prog .lss 3 (.tmp 20) (.tmp 22) x5 t22 fun t23 =>
   join (fun (x30 : Value)  =>
   oPick Try.prog t23 x30 (.bool false) fun t31 =>
   cond t31
    (R v0 h)
    (drawn h fun D =>
    oSlice Try.prog 48 v0 none (some x5) (some x5) fun t36 =>
    oSlice Try.prog 48 v0 (some x5) none none fun t41 =>
    oBuildSlice Try.prog 48 1 #[(0, v1)] h fun t38 h_1 => D h_1 ∧ 
    oAppend Try.prog #[48, 48] 48 #[t38, t41] h_1 fun t42 h_2 => D h_2 ∧ 
    oAppend Try.prog #[48, 48] 48 #[t36, t42] h_2 fun t43 h_3 => 
    R t43 h_3))
   fun k_1 =>
   cond t23
   (oIdx Try.prog 48 v0 x5 fun t27 =>
   oLoad Try.prog 9 t27 (Eq h) fun t28 =>
   oBin Try.prog .eql 9 (.tmp 28) (.tmp 29) t28 v1 fun t30 =>
   k_1 t30)
   (k_1 undef)))
  fun k =>
  cond t9
  (oIdx Try.prog 48 v0 x5 fun t13 =>
  oLoad Try.prog 9 t13 (Eq h) fun t14 =>
  oBin Try.prog .lss 9 (.tmp 14) (.tmp 15) t14 v1 fun t16 =>
  k t16)
  (k undef)

theorem sh_augurref10_Add {v0 v1 : Value} {h : Heap} {R : Value → Heap → Prop} (hg : g_augurref10_Add v0 v1 h R) : HC Try.prog 16 #[v0, v1] h R := hc_shal [(6, .mixo [0, 1, 2, 3, 4, 6, 7, 8, 5, 9])] Try.func16 (by kernel_rfl) hg

set_option maxRecDepth 20000 in
set_option maxHeartbeats 4000000 in
theorem w_augurref10_Add {F : Vw} {h : Heap} {M : List HP} {a0 : List Str} {v : Value} {a1 : Str} {R : (List Str) → Prop} (s : Sf F h (M)) (r : RL eS F v a0) (hp : p_augurref10_Add a0 a1 R) :
  HC Try.prog 16 #[v, (str a1)] h fun u h' => ∃ (F' : Vw) (r_0 : List Str) (z0_0 : Value), Le F F' ∧ Sf F' h' (M) ∧ z0_0 = u ∧ RL eS F' z0_0 r_0 ∧ R r_0 := by
 refine sh_augurref10_Add ?_
 unfold g_augurref10_Add
 unfold p_augurref10_Add at hp
 have e0 := Le.refl F
 obtain ⟨I, m0, hI, hI_1⟩ := hp
 refine ⟨fun m w h_2 => ∃ (F_2 : Vw) (x_1 : Int) , Le F F_2 ∧ Sf F_2 h_2 (M) ∧ (.int .i64 x_1) = w ∧ I m x_1, m0, ⟨F, 0, Le.refl _, s, rfl, hI⟩, ?_⟩
 clear hI
 rintro m w h_2 ⟨F_2, x_1, g, s, rfl, hi⟩
 have hp := hI_1 m x_1 hi
 replace r := r.le g
 replace e0 := Le.trans e0 g
 have eL := g
 refine (oLen_sl r.1).2 ?_
 refine oBin_lss.2 ?_
 obtain ⟨kp, hk_1, hp⟩ := Pl.join_elim hp
 refine Sh.join_intro fun k hk => ?_
 have hK : ∀ (x_2 : Bool) (w_1 : Value), (∀ K : Value → Prop, K (.bool x_2) → oPick Try.prog (.bool (decide (x_1 < (List.length a0 : Int)))) w_1 (.bool false) K) → kp x_2 → k w_1 := by
  intro x_2 w_1 hw hp
  rw [hk]
  rw [hk_1] at hp
  refine hw _ ?_
  by_cases hc : x_2 = true
  ·refine (cond_tt hc).2 ?_
   replace hp := (Pl.ite_pos hc).1 hp
   refine oBin_add.2 ?_
   obtain ⟨m_1, hm, hi_1⟩ := hp
   exact ⟨m_1, hm, F_2, IntKind.wrap .i64 (x_1 + 1), eL, s, rfl, hi_1⟩
  ·refine (cond_ff hc).2 ?_
   replace hp := (Pl.ite_neg hc).1 hp
   refine (oLen_sl r.1).2 ?_
   refine oBin_lss.2 ?_
   obtain ⟨kp_1, hk_3, hp⟩ := Pl.join_elim hp
   refine Sh.join_intro fun k_1 hk_2 => ?_
   have hK_1 : ∀ (x_3 : Bool) (w_2 : Value), (∀ K : Value → Prop, K (.bool x_3) → oPick Try.prog (.bool (decide (x_1 < (List.length a0 : Int)))) w_2 (.bool false) K) → kp_1 x_3 → k_1 w_2 := by
    intro x_3 w_2 hw_1 hp
    rw [hk_2]
    rw [hk_3] at hp
    refine hw_1 _ ?_
    by_cases hc_1 : x_3 = true
    ·refine (cond_tt hc_1).2 ?_
     replace hp := (Pl.ite_pos hc_1).1 hp
     exact ⟨F_2, a0, v, e0, s, rfl, r, hp⟩
    ·refine (cond_ff hc_1).2 ?_
     replace hp := (Pl.ite_neg hc_1).1 hp
     refine ⟨fun h' => Sf F_2 h' (M), s, ?_⟩
     have ed := Le.refl F_2
     obtain ⟨hz, hz_1, hz_2, l, hr, hp⟩ := hp
     refine tCutM rfl r hz hz_1 hz_2 hr (.inl ⟨rfl, rfl⟩) fun v_1 r_1 hcap => ?_
     obtain ⟨hz_3, hz_4, hz_5, l_1, hr_1, hp⟩ := hp
     refine tCutL rfl r hz_3 hz_4 hz_5 hr_1 (.inr ⟨_, rfl⟩) (.inl ⟨rfl, rfl⟩) fun v_2 r_2 => ?_
     refine tBuildN s (e := eS) (l := [a1]) [(str a1)] rfl ⟨rfl, trivial⟩ rfl rfl rfl (Nat.le_of_ble_eq_true rfl) fun v_3 h_3 cs hc_2 s => ?_
     refine ⟨Sf.dropAt 0 rfl s, ?_⟩
     obtain ⟨hb, l_2, hl, hp⟩ := hp
     refine tApp 0 rfl s hc_2 rfl rfl (by decide) (Sf.rlE s r_2) hb hl fun v_4 h_4 cs_1 hc_3 s => ?_
     refine ⟨Sf.dropAt 0 rfl s, ?_⟩
     obtain ⟨hm_1, hb_1, l_3, hl_1, hp⟩ := hp
     refine tAppCap s r_1 hcap rfl rfl (by decide) (Sf.roE 0 rfl s hc_3) hm_1 hb_1 hl_1 fun v_5 h_5 cs_2 hc_4 s => ?_
     obtain ⟨F_4, g_1, s, r_3⟩ := Sf.freezeRL 0 rfl s rfl hc_4
     replace hc_3 := CL.le g_1 hc_3
     replace e0 := Le.trans e0 g_1
     replace eL := Le.trans eL g_1
     replace ed := Le.trans ed g_1
     replace s := Sf.dropAt 0 rfl s
     exact ⟨F_4, l_3, v_5, e0, s, rfl, r_3, hp⟩
   clear hk_2 hk_3
   by_cases hc_5 : x_1 < (List.length a0 : Int)
   ·refine (cond_pos hc_5).2 ?_
    replace hp := (Pl.ite_pos hc_5).1 hp
    obtain ⟨hz_6, a, hi_2, hp⟩ := hp
    refine tPlF rfl r hz_6 hi_2 fun q c hc_6 rv => ?_
    obtain rfl : c = [(str a)] := hc_6
    refine tLd (p := .pointer (some q)) (cs := [(str a)]) (j := 0) (padd_zero _).symm (Sf.rvE s rv) rfl ?_
    refine (oBin_str_eql (a := a) (b := a1)).2 ?_
    exact hK_1 (decide (a = a1)) _ (fun _ h => oPick_dc hc_5 h) hp
   ·refine (cond_neg hc_5).2 ?_
    replace hp := (Pl.ite_neg hc_5).1 hp
    exact hK_1 false _ (fun _ h => oPick_dn hc_5 h) hp
 clear hk hk_1
 by_cases hc_7 : x_1 < (List.length a0 : Int)
 ·refine (cond_pos hc_7).2 ?_
  replace hp := (Pl.ite_pos hc_7).1 hp
  obtain ⟨hz_7, a_1, hi_3, hp⟩ := hp
  refine tPlF rfl r hz_7 hi_3 fun q_1 c_1 hc_8 rv_1 => ?_
  obtain rfl : c_1 = [(str a_1)] := hc_8
  refine tLd (p := .pointer (some q_1)) (cs := [(str a_1)]) (j := 0) (padd_zero _).symm (Sf.rvE s rv_1) rfl ?_
  refine (oBin_str_lss (a := a_1) (b := a1)).2 ?_
  exact hK (Pl.slss a_1 a1) _ (fun _ h => oPick_dc hc_7 h) hp
 ·refine (cond_neg hc_7).2 ?_
  replace hp := (Pl.ite_neg hc_7).1 hp
  exact hK false _ (fun _ h => oPick_dn hc_7 h) hp

/-- augur/digest.Join$1 -/
def g_digest_Join_1 (v0 v1 : Value) (h : Heap) (R : Value → Heap → Prop) : Prop :=
 oBox Try.prog 30 v0 h fun t2 h => 
 oBox Try.prog 30 v1 h fun t3 h_1 => 
 oAlloc Try.prog 30 h_1 fun t4 h_2 => 
 oLoad Try.prog 30 t2 (Eq h_2) fun t5 =>
 oLoad Try.prog 30 t3 (Eq h_2) fun t6 =>
 oBuildSlice Try.prog 84 2 #[(0, t5), (1, t6)] h_2 fun t7 h_3 => 
 oCall Try.prog (.func (.func 25) #[] #[]) #[t7] h_3 fun t8 h_4 => 
 oStore Try.prog 30 t4 t8 h_4 fun _ h_5 => 
 oRes Try.prog [(some 30, t4)] h_5 R

theorem sh_digest_Join_1 {v0 v1 : Value} {h : Heap} {R : Value → Heap → Prop} (hg : g_digest_Join_1 v0 v1 h R) : HC Try.prog 24 #[v0, v1] h R := hc_shal [] Try.func24 (by kernel_rfl) hg

set_option maxRecDepth 20000 in
set_option maxHeartbeats 4000000 in
theorem w_digest_Join_1 {F : Vw} {h : Heap} {M : List HP} {a0 : T_api_Ival} {a1 : T_api_Ival} {R : T_api_Ival → Prop} (s : Sf F h (M))  (hp : p_digest_Join_1 a0 a1 R) :
  HC Try.prog 24 #[(.agg #[(.bool a0.Some), (.int .i64 a0.Lo), (.int .i64 a0.Hi)]), (.agg #[(.bool a1.Some), (.int .i64 a1.Lo), (.int .i64 a1.Hi)])] h fun u h' => ∃ (F' : Vw) (r_0 : T_api_Ival), Le F F' ∧ Sf F' h' (M) ∧ (.agg #[(.bool r_0.Some), (.int .i64 r_0.Lo), (.int .i64 r_0.Hi)]) = u ∧ R r_0 := by
 refine sh_digest_Join_1 ?_
 unfold g_digest_Join_1
 unfold p_digest_Join_1 at hp
 have e0 := Le.refl F
 refine tBx s (vs := [(.bool a0.Some), (.int .i64 a0.Lo), (.int .i64 a0.Hi)]) (by rfl) fun p h_1 s => ?_
 refine tBx s (vs := [(.bool a1.Some), (.int .i64 a1.Lo), (.int .i64 a1.Hi)]) (by rfl) fun p_1 h_2 s => ?_
 refine tAl s (vs := [(.bool false), (.int .i64 0), (.int .i64 0)]) (by rfl) fun p_2 h_3 s => ?_
 refine tLdA (a := p) (cs := [(.bool a0.Some), (.int .i64 a0.Lo), (.int .i64 a0.Hi)]) (ds := [(.bool a0.Some), (.int .i64 a0.Lo), (.int .i64 a0.Hi)]) (j := 0) (padd_zero _).symm (Sf.ceE (Cx.new_at p) 2 rfl s) (Nat.le_of_ble_eq_true rfl) rfl ?_
 refine tLdA (a := p_1) (cs := [(.bool a1.Some), (.int .i64 a1.Lo), (.int .i64 a1.Hi)]) (ds := [(.bool a1.Some), (.int .i64 a1.Lo), (.int .i64 a1.Hi)]) (j := 0) (padd_zero _).symm (Sf.ceE (Cx.new_at p_1) 1 rfl s) (Nat.le_of_ble_eq_true rfl) rfl ?_
 refine tBuildN s (e := e_api_Ival) (l := [a0, a1]) [(.agg #[(.bool a0.Some), (.int .i64 a0.Lo), (.int .i64 a0.Hi)]), (.agg #[(.bool a1.Some), (.int .i64 a1.Lo), (.int .i64 a1.Hi)])] rfl ⟨rfl, ⟨rfl, trivial⟩⟩ rfl rfl rfl (Nat.le_of_ble_eq_true rfl) fun v h_4 cs hc s => ?_
 obtain ⟨F_1, g, s, r⟩ := Sf.freezeRL 0 rfl s rfl hc
 replace e0 := Le.trans e0 g
 refine oCall_func (HC.mono (w_ival_Join (a0 := [a0, a1]) s r hp) ?_)
 rintro u h_5 ⟨F_2, r_1, g_1, s, rfl, hp⟩
 replace r := r.le g_1
 replace e0 := Le.trans e0 g_1
 refine tSt (cs := [(.bool false), (.int .i64 0), (.int .i64 0)]) (vs := [(.bool r_1.Some), (.int .i64 r_1.Lo), (.int .i64 r_1.Hi)]) (cs' := [(.bool r_1.Some), (.int .i64 r_1.Lo), (.int .i64 r_1.Hi)]) (j := 0) 0 rfl s (Cx.new_at p_2) (padd_zero _).symm (by rfl) rfl (Nat.le_of_ble_eq_true rfl) (ones_cons rfl (ones_cons rfl (ones_cons rfl ones_nil))) rfl fun h_6 s => ?_
 refine oResA (cs := [(.bool r_1.Some), (.int .i64 r_1.Lo), (.int .i64 r_1.Hi)]) (Sf.ceE (Cx.new_at p_2) 0 rfl s _ rfl) ⟨_, rfl⟩ rfl ?_
 replace s := Sf.dropAt 0 rfl s
 replace s := Sf.dropAt 0 rfl s
 replace s := Sf.dropAt 0 rfl s
 exact ⟨F_2, r_1, e0, s, rfl, hp⟩

end Go.Proofs.Ytaibfbakhiainaa

namespace Go.Proofs.Ytaibfbakhiainaa
open Go Go.Sh
variable [Gd]
set_option maxRecDepth 100000
attribute [local irreducible] Go.wpQuiet Go.wpList Go.Sh.mixL Go.Sh.mixF Go.Sh.wpAnyE Go.Code.wp

/-- (*augur/code.plain).Num -/
def g_code_plain_Num (v0 v1 : Value) (h : Heap) (R : Value → Heap → Prop) : Prop :=
 oLen Try.prog #[92] 3 v1 fun t7 =>
 loop1 (.int .i64 0) h fun x8 h next =>
  oBin Try.prog .lss 3 (.tmp 8) (.tmp 7) x8 t7 fun t9 =>
  cond t9
  (oIdx Try.prog 92 v1 x8 fun t10 =>
  oLoad Try.prog 73 t10 (Eq h) fun t11 =>
  loop1 t11 h fun x5 h_1 next_1 =>
   oBin Try.prog .geq 73 (.tmp 12) (.const (.int .u64 128)) x5 (.int .u64 128) fun t13 =>
   cond t13
   (oNil Try.prog v0 fun t16 =>
   oFieldAddr Try.prog 59 t16 0 (Eq h_1) fun t17 =>
   oLoad Try.prog 22 t17 (Eq h_1) fun t18 =>
   oConv Try.prog 73 5 x5 fun t20 =>
   oBin Try.prog .or 5 (.tmp 20) (.const (.int .u8 128)) t20 (.int .u8 128) fun t21 =>
   oBuildSlice Try.prog 22 1 #[(0, t21)] h_1 fun t22 h_2 => 
   oAppend Try.prog #[22, 22] 22 #[t18, t22] h_2 fun t23 h_3 => 
   oNil Try.prog v0 fun t24 =>
   oFieldAddr Try.prog 59 t24 0 (Eq h_3) fun t25 =>
   oStore Try.prog 22 t25 t23 h_3 fun _ h_4 => 
   oBin Try.prog .shr 73 (.tmp 26) (.const (.int .u64 7)) x5 (.int .u64 7) fun t27 =>
   next_1 t27 h_4)
   (oNil Try.prog v0 fun t30 =>
   oFieldAddr Try.prog 59 t30 0 (Eq h_1) fun t31 =>
   oLoad Try.prog 22 t31 (Eq h_1) fun t32 =>
   oConv Try.prog 73 5 x5 fun t34 =>
   oBuildSlice Try.prog 22 1 #[(0, t34)] h_1 fun t35 h_5 => 
   oAppend Try.prog #[22, 22] 22 #[t32, t35] h_5 fun t36 h_6 => 
   oNil Try.prog v0 fun t37 =>
   oFieldAddr Try.prog 59 t37 0 (Eq h_6) fun t38 =>
   oStore Try.prog 22 t38 t36 h_6 fun _ h_7 => 
   oBin Try.prog .add 3 (.tmp 8) (.const (.int .i64 1)) x8 (.int .i64 1) fun t39 =>
   next t39 h_7))
  (R (.tuple #[]) h)

theorem sh_code_plain_Num {v0 v1 : Value} {h : Heap} {R : Value → Heap → Prop} (hg : g_code_plain_Num v0 v1 h R) : HC Try.prog 30 #[v0, v1] h R := hc_shal [] Try.func30 (by kernel_rfl) hg

set_option maxRecDepth 20000 in
set_option maxHeartbeats 4000000 in
theorem w_code_plain_Num {F : Vw} {h : Heap} {M : List HP} {a0 : T_code_plain} {y0 : Cx} {p0 : Addr} {v : Value} {cs : List Value} {a1 : List Int} {v_1 : Value} {R : T_code_plain → Prop} (s : Sf F h (Ce y0 [v] :: Row 1 v (List.length a0.b) cs :: M)) (hy0 : y0.at p0) (hc : CL (eI .u8) F cs a0.b) (r : RL (eI .u64) F v_1 a1) (hp : p_code_plain_Num a0 a1 R) :
  HC Try.prog 30 #[(.pointer (some p0)), v_1] h fun u h' => ∃ (F' : Vw) (b0 : T_code_plain) (u0_0 : Value) (d0_0 : List Value), Le F F' ∧ Sf F' h' (Ce y0 [u0_0] :: Row 1 u0_0 (List.length b0.b) d0_0 :: M) ∧ True ∧ CL (eI .u8) F' d0_0 b0.b ∧ R b0 := by
 refine sh_code_plain_Num ?_
 unfold g_code_plain_Num
 unfold p_code_plain_Num at hp
 have e0 := Le.refl F
 refine (oLen_sl r.1).2 ?_
 obtain ⟨I, m0, hI, hI_1⟩ := hp
 refine ⟨fun m w h_4 => ∃ (F_4 : Vw) (x_3 : Int) (l_2 : List Int) (v_4 : Value) (cs_3 : List Value), Le F F_4 ∧ Sf F_4 h_4 (Ce y0 [v_4] :: Row 1 v_4 (List.length l_2) cs_3 :: M) ∧ (.int .i64 x_3) = w ∧ CL (eI .u8) F_4 cs_3 l_2 ∧ I m x_3 l_2, m0, ⟨F, 0, a0.b, v, cs, Le.refl _, s, rfl, hc, hI⟩, ?_⟩
 clear hI
 rintro m w h_4 ⟨F_4, x_3, l_2, v_4, cs_3, g, s, rfl, hc_3, hi⟩
 have hp := hI_1 m x_3 l_2 hi
 replace r := r.le g
 replace e0 := Le.trans e0 g
 have eL := g
 refine oBin_lss.2 ?_
 by_cases hc_4 : x_3 < (List.length a1 : Int)
 ·refine (cond_pos hc_4).2 ?_
  replace hp := (Pl.ite_pos hc_4).1 hp
  obtain ⟨hz, a, hi_1, hp⟩ := hp
  refine tPlF rfl r hz hi_1 fun q c hc_5 rv => ?_
  obtain rfl : c = [(.int .u64 a)] := hc_5
  refine tLd (p := .pointer (some q)) (cs := [(.int .u64 a)]) (j := 0) (padd_zero _).symm (Sf.rvE s rv) rfl ?_
  obtain ⟨I_1, m0_1, hI_2, hI_3⟩ := hp
  refine ⟨fun m_1 w_1 h_8 => ∃ (F_9 : Vw) (x_7 : Int) (l_5 : List Int) (v_7 : Value) (cs_6 : List Value), Le F_4 F_9 ∧ Sf F_9 h_8 (Ce y0 [v_7] :: Row 1 v_7 (List.length l_5) cs_6 :: M) ∧ (.int .u64 x_7) = w_1 ∧ CL (eI .u8) F_9 cs_6 l_5 ∧ I_1 m_1 x_7 l_5, m0_1, ⟨F_4, a, l_2, v_4, cs_3, Le.refl _, s, rfl, hc_3, hI_2⟩, ?_⟩
  clear hI_2
  rintro m_1 w_1 h_8 ⟨F_9, x_7, l_5, v_7, cs_6, g_1, s, rfl, hc_8, hi_2⟩
  have hp := hI_3 m_1 x_7 l_5 hi_2
  replace e0 := Le.trans e0 g_1
  replace eL := Le.trans eL g_1
  have eL_1 := g_1
  refine oBin_geq.2 ?_
  by_cases hc_9 : 128 ≤ x_7
  ·refine (cond_pos hc_9).2 ?_
   replace hp := (Pl.ite_pos hc_9).1 hp
   refine tNil (a := p0) (j := 0) (padd_zero _).symm ?_
   refine tFA (a := p0) (n := 0) (padd_zero _).symm (padd_zero _) ?_
   refine tLd (p := .pointer (some p0)) (cs := [v_7]) (j := 0) (padd_zero _).symm (Sf.ceE hy0 0 rfl s) rfl ?_
   refine oConv_int.2 ?_
   refine oBin_or.2 ?_
   refine tBuildN s (e := (eI .u8)) (l := [Pl.bor .u8 (IntKind.wrap .u8 x_7) 128]) [(.int .u8 (Pl.bor .u8 (IntKind.wrap .u8 x_7) 128))] rfl ⟨rfl, trivial⟩ rfl rfl rfl (Nat.le_of_ble_eq_true rfl) fun v_8 h_9 cs_7 hc_10 s => ?_
   obtain ⟨hb, l_6, hl, hp⟩ := hp
   refine tApp 2 rfl s hc_8 rfl rfl (by decide) (Sf.roE 0 rfl s hc_10) hb hl fun v_9 h_10 cs_8 hc_11 s => ?_
   replace s := Sf.dropAt 0 rfl s
   refine tNil (a := p0) (j := 0) (padd_zero _).symm ?_
   refine tFA (a := p0) (n := 0) (padd_zero _).symm (padd_zero _) ?_
   refine tSt (cs := [v_7]) (vs := [v_9]) (cs' := [v_9]) (j := 0) 0 rfl s hy0 (padd_zero _).symm (by rw [(Sf.at 1 rfl s).row.1.cells]) rfl (Nat.le_of_ble_eq_true rfl) (ones_cons (Sf.at 1 rfl s).row.1.one ones_nil) rfl fun h_11 s => ?_
   obtain ⟨hz_1, hp⟩ := hp
   refine (oBin_shr hz_1).2 ?_
   obtain ⟨m_2, hm, hi_3⟩ := hp
   exact ⟨m_2, hm, F_9, Pl.shr .u64 x_7 7, l_6, v_9, cs_8, eL_1, s, rfl, hc_11, hi_3⟩
  ·refine (cond_neg hc_9).2 ?_
   replace hp := (Pl.ite_neg hc_9).1 hp
   refine tNil (a := p0) (j := 0) (padd_zero _).symm ?_
   refine tFA (a := p0) (n := 0) (padd_zero _).symm (padd_zero _) ?_
   refine tLd (p := .pointer (some p0)) (cs := [v_7]) (j := 0) (padd_zero _).symm (Sf.ceE hy0 0 rfl s) rfl ?_
   refine oConv_int.2 ?_
   refine tBuildN s (e := (eI .u8)) (l := [IntKind.wrap .u8 x_7]) [(.int .u8 (IntKind.wrap .u8 x_7))] rfl ⟨rfl, trivial⟩ rfl rfl rfl (Nat.le_of_ble_eq_true rfl) fun v_10 h_12 cs_9 hc_12 s => ?_
   obtain ⟨hb_1, l_7, hl_1, hp⟩ := hp
   refine tApp 2 rfl s hc_8 rfl rfl (by decide) (Sf.roE 0 rfl s hc_12) hb_1 hl_1 fun v_11 h_13 cs_10 hc_13 s => ?_
   replace s := Sf.dropAt 0 rfl s
   refine tNil (a := p0) (j := 0) (padd_zero _).symm ?_
   refine tFA (a := p0) (n := 0) (padd_zero _).symm (padd_zero _) ?_
   refine tSt (cs := [v_7]) (vs := [v_11]) (cs' := [v_11]) (j := 0) 0 rfl s hy0 (padd_zero _).symm (by rw [(Sf.at 1 rfl s).row.1.cells]) rfl (Nat.le_of_ble_eq_true rfl) (ones_cons (Sf.at 1 rfl s).row.1.one ones_nil) rfl fun h_14 s => ?_
   refine oBin_add.2 ?_
   obtain ⟨m_3, hm_1, hi_4⟩ := hp
   exact ⟨m_3, hm_1, F_9, IntKind.wrap .i64 (x_3 + 1), l_7, v_11, cs_10, eL, s, rfl, hc_13, hi_4⟩
 ·refine (cond_neg hc_4).2 ?_
  replace hp := (Pl.ite_neg hc_4).1 hp
  exact ⟨F_4, (⟨l_2⟩ : T_code_plain), v_4, cs_3, e0, s, trivial, hc_3, hp⟩

/-- (*augur/code.plain).Int -/
def g_code_plain_Int (v0 v1 : Value) (h : Heap) (R : Value → Heap → Prop) : Prop :=
 oLen Try.prog #[94] 3 v1 fun t7 =>
 loop1 (.int .i64 0) h fun x8 h next =>
  oBin Try.prog .lss 3 (.tmp 8) (.tmp 7) x8 t7 fun t9 =>
  cond t9
  (join (fun (h_1 : Heap) =>
   oBin Try.prog .add 3 (.tmp 8) (.const (.int .i64 1)) x8 (.int .i64 1) fun t29 =>
   next t29 h_1)
   fun k =>
   oIdx Try.prog 94 v1 x8 fun t10 =>
   oLoad Try.prog 2 t10 (Eq h) fun t11 =>
   oBin Try.prog .geq 2 (.tmp 12) (.const (.int .i64 0)) t11 (.int .i64 0) fun t13 =>
   cond t13
   (oConv Try.prog 2 73 t11 fun t16 =>
   oBin Try.prog .mul 73 (.tmp 16) (.const (.int .u64 2)) t16 (.int .u64 2) fun t17 =>
   oBuildSlice Try.prog 92 1 #[(0, t17)] h fun t18 h_2 => 
   oCall Try.prog (.func (.func 30) #[] #[]) #[v0, t18] h_2 fun t19 h_3 => 
   k h_3)
   (oBin Try.prog .add 2 (.tmp 21) (.const (.int .i64 1)) t11 (.int .i64 1) fun t22 =>
   oUn Try.prog .neg t22 fun t23 =>
   oConv Try.prog 2 73 t23 fun t24 =>
   oBin Try.prog .mul 73 (.tmp 24) (.const (.int .u64 2)) t24 (.int .u64 2) fun t25 =>
   oBin Try.prog .add 73 (.tmp 25) (.const (.int .u64 1)) t25 (.int .u64 1) fun t26 =>
   oBuildSlice Try.prog 92 1 #[(0, t26)] h fun t27 h_4 => 
   oCall Try.prog (.func (.func 30) #[] #[]) #[v0, t27] h_4 fun t28 h_5 => 
   k h_5))
  (R (.tuple #[]) h)

theorem sh_code_plain_Int {v0 v1 : Value} {h : Heap} {R : Value → Heap → Prop} (hg : g_code_plain_Int v0 v1 h R) : HC Try.prog 31 #[v0, v1] h R := hc_shal [] Try.func31 (by kernel_rfl) hg

set_option maxRecDepth 20000 in
set_option maxHeartbeats 4000000 in
theorem w_code_plain_Int {F : Vw} {h : Heap} {M : List HP} {a0 : T_code_plain} {y0 : Cx} {p0 : Addr} {v : Value} {cs : List Value} {a1 : List Int} {v_1 : Value} {R : T_code_plain → Prop} (s : Sf F h (Ce y0 [v] :: Row 1 v (List.length a0.b) cs :: M)) (hy0 : y0.at p0) (hc : CL (eI .u8) F cs a0.b) (r : RL (eI .i64) F v_1 a1) (hp : p_code_plain_Int a0 a1 R) :
  HC Try.prog 31 #[(.pointer (some p0)), v_1] h fun u h' => ∃ (F' : Vw) (b0 : T_code_plain) (u0_0 : Value) (d0_0 : List Value), Le F F' ∧ Sf F' h' (Ce y0 [u0_0] :: Row 1 u0_0 (List.length b0.b) d0_0 :: M) ∧ True ∧ CL (eI .u8) F' d0_0 b0.b ∧ R b0 := by
 refine sh_code_plain_Int ?_
 unfold g_code_plain_Int
 unfold p_code_plain_Int at hp
 have e0 := Le.refl F
 refine (oLen_sl r.1).2 ?_
 obtain ⟨I, m0, hI, hI_1⟩ := hp
 refine ⟨fun m w h_3 => ∃ (F_3 : Vw) (x_2 : Int) (l_1 : List Int) (v_3 : Value) (cs_2 : List Value), Le F F_3 ∧ Sf F_3 h_3 (Ce y0 [v_3] :: Row 1 v_3 (List.length l_1) cs_2 :: M) ∧ (.int .i64 x_2) = w ∧ CL (eI .u8) F_3 cs_2 l_1 ∧ I m x_2 l_1, m0, ⟨F, 0, a0.b, v, cs, Le.refl _, s, rfl, hc, hI⟩, ?_⟩
 clear hI
 rintro m w h_3 ⟨F_3, x_2, l_1, v_3, cs_2, g, s, rfl, hc_2, hi⟩
 have hp := hI_1 m x_2 l_1 hi
 replace r := r.le g
 replace e0 := Le.trans e0 g
 have eL := g
 refine oBin_lss.2 ?_
 by_cases hc_3 : x_2 < (List.length a1 : Int)
 ·refine (cond_pos hc_3).2 ?_
  replace hp := (Pl.ite_pos hc_3).1 hp
  obtain ⟨kp, hk_1, hp⟩ := Pl.join_elim hp
  have ej := Le.refl F_3
  refine Sh.join_intro fun k hk => ?_
  have hK : ∀ (F_5 : Vw) (h_4 : Heap) (l_2 : List Int) (v_4 : Value) (cs_3 : List Value), Le F_3 F_5 → Sf F_5 h_4 (Ce y0 [v_4] :: Row 1 v_4 (List.length l_2) cs_3 :: M) → CL (eI .u8) F_5 cs_3 l_2 → kp l_2 → k h_4 := by
   intro F_5 h_4 l_2 v_4 cs_3 g_1 s hc_4 hp
   rw [hk]
   rw [hk_1] at hp
   replace e0 := Le.trans e0 g_1
   replace eL := Le.trans eL g_1
   replace ej := Le.trans ej g_1
   refine oBin_add.2 ?_
   obtain ⟨m_1, hm, hi_1⟩ := hp
   exact ⟨m_1, hm, F_5, IntKind.wrap .i64 (x_2 + 1), l_2, v_4, cs_3, eL, s, rfl, hc_4, hi_1⟩
  clear hk hk_1
  obtain ⟨hz, a, hi_2, hp⟩ := hp
  refine tPlF rfl r hz hi_2 fun q c hc_5 rv => ?_
  obtain rfl : c = [(.int .i64 a)] := hc_5
  refine tLd (p := .pointer (some q)) (cs := [(.int .i64 a)]) (j := 0) (padd_zero _).symm (Sf.rvE s rv) rfl ?_
  refine oBin_geq.2 ?_
  by_cases hc_6 : 0 ≤ a
  ·refine (cond_pos hc_6).2 ?_
   replace hp := (Pl.ite_pos hc_6).1 hp
   refine oConv_int.2 ?_
   refine oBin_mul.2 ?_
   refine tBuildN s (e := (eI .u64)) (l := [IntKind.wrap .u64 ((IntKind.wrap .u64 a) * 2)]) [(.int .u64 (IntKind.wrap .u64 ((IntKind.wrap .u64 a) * 2)))] rfl ⟨rfl, trivial⟩ rfl rfl rfl (Nat.le_of_ble_eq_true rfl) fun v_5 h_5 cs_4 hc_7 s => ?_
   obtain ⟨F_6, g_2, s, r_1⟩ := Sf.freezeRL 0 rfl s rfl hc_7
   replace hc_2 := CL.le g_2 hc_2
   replace e0 := Le.trans e0 g_2
   replace eL := Le.trans eL g_2
   replace ej := Le.trans ej g_2
   refine oCall_func (HC.mono (w_code_plain_Num (a0 := (⟨l_1⟩ : T_code_plain)) (a1 := [IntKind.wrap .u64 ((IntKind.wrap .u64 a) * 2)]) s hy0 hc_2 r_1 hp) ?_)
   rintro u h_6 ⟨F_7, b, v_6, cs_5, g_3, s, _, hc_8, hp⟩
   replace r_1 := r_1.le g_3
   replace e0 := Le.trans e0 g_3
   replace eL := Le.trans eL g_3
   replace ej := Le.trans ej g_3
   exact hK _ _ b.b v_6 cs_5 ej s hc_8 hp
  ·refine (cond_neg hc_6).2 ?_
   replace hp := (Pl.ite_neg hc_6).1 hp
   refine oBin_add.2 ?_
   refine oUn_neg.2 ?_
   refine oConv_int.2 ?_
   refine oBin_mul.2 ?_
   refine oBin_add.2 ?_
   refine tBuildN s (e := (eI .u64)) (l := [IntKind.wrap .u64 ((IntKind.wrap .u64 ((IntKind.wrap .u64 (IntKind.wrap .i64 (0 - (IntKind.wrap .i64 (a + 1))))) * 2)) + 1)]) [(.int .u64 (IntKind.wrap .u64 ((IntKind.wrap .u64 ((IntKind.wrap .u64 (IntKind.wrap .i64 (0 - (IntKind.wrap .i64 (a + 1))))) * 2)) + 1)))] rfl ⟨rfl, trivial⟩ rfl rfl rfl (Nat.le_of_ble_eq_true rfl) fun v_7 h_7 cs_6 hc_9 s => ?_
   obtain ⟨F_8, g_4, s, r_2⟩ := Sf.freezeRL 0 rfl s rfl hc_9
   replace hc_2 := CL.le g_4 hc_2
   replace e0 := Le.trans e0 g_4
   replace eL := Le.trans eL g_4
   replace ej := Le.trans ej g_4
   refine oCall_func (HC.mono (w_code_plain_Num (a0 := (⟨l_1⟩ : T_code_plain)) (a1 := [IntKind.wrap .u64 ((IntKind.wrap .u64 ((IntKind.wrap .u64 (IntKind.wrap .i64 (0 - (IntKind.wrap .i64 (a + 1))))) * 2)) + 1)]) s hy0 hc_2 r_2 hp) ?_)
   rintro u_1 h_8 ⟨F_9, b_1, v_8, cs_7, g_5, s, _, hc_10, hp⟩
   replace r_2 := r_2.le g_5
   replace e0 := Le.trans e0 g_5
   replace eL := Le.trans eL g_5
   replace ej := Le.trans ej g_5
   exact hK _ _ b_1.b v_8 cs_7 ej s hc_10 hp
 ·refine (cond_neg hc_3).2 ?_
  replace hp := (Pl.ite_neg hc_3).1 hp
  exact ⟨F_3, (⟨l_1⟩ : T_code_plain), v_3, cs_2, e0, s, trivial, hc_2, hp⟩

/-- (*augur/code.plain).Bool -/
def g_code_plain_Bool (v0 v1 : Value) (h : Heap) (R : Value → Heap → Prop) : Prop :=
 oLen Try.prog #[95] 3 v1 fun t7 =>
 loop1 (.int .i64 0) h fun x8 h next =>
  oBin Try.prog .lss 3 (.tmp 8) (.tmp 7) x8 t7 fun t9 =>
  cond t9
  (join (fun (h_1 : Heap) =>
   oBin Try.prog .add 3 (.tmp 8) (.const (.int .i64 1)) x8 (.int .i64 1) fun t31 =>
   next t31 h_1)
   fun k =>
   oIdx Try.prog 95 v1 x8 fun t10 =>
   oLoad Try.prog 4 t10 (Eq h) fun t11 =>
   cond t11
   (oNil Try.prog v0 fun t15 =>
   oFieldAddr Try.prog 59 t15 0 (Eq h) fun t16 =>
   oLoad Try.prog 22 t16 (Eq h) fun t17 =>
   oBuildSlice Try.prog 22 1 #[(0, (.int .u8 1))] h fun t18 h_2 => 
   oAppend Try.prog #[22, 22] 22 #[t17, t18] h_2 fun t19 h_3 => 
   oNil Try.prog v0 fun t20 =>
   oFieldAddr Try.prog 59 t20 0 (Eq h_3) fun t21 =>
   oStore Try.prog 22 t21 t19 h_3 fun _ h_4 => 
   k h_4)
   (oNil Try.prog v0 fun t24 =>
   oFieldAddr Try.prog 59 t24 0 (Eq h) fun t25 =>
   oLoad Try.prog 22 t25 (Eq h) fun t26 =>
   oBuildSlice Try.prog 22 1 #[(0, (.int .u8 0))] h fun t27 h_5 => 
   oAppend Try.prog #[22, 22] 22 #[t26, t27] h_5 fun t28 h_6 => 
   oNil Try.prog v0 fun t29 =>
   oFieldAddr Try.prog 59 t29 0 (Eq h_6) fun t30 =>
   oStore Try.prog 22 t30 t28 h_6 fun _ h_7 => 
   k h_7))
  (R (.tuple #[]) h)

theorem sh_code_plain_Bool {v0 v1 : Value} {h : Heap} {R : Value → Heap → Prop} (hg : g_code_plain_Bool v0 v1 h R) : HC Try.prog 32 #[v0, v1] h R := hc_shal [] Try.func32 (by kernel_rfl) hg

set_option maxRecDepth 20000 in
set_option maxHeartbeats 4000000 in
theorem w_code_plain_Bool {F : Vw} {h : Heap} {M : List HP} {a0 : T_code_plain} {y0 : Cx} {p0 : Addr} {v : Value} {cs : List Value} {a1 : List Bool} {v_1 : Value} {R : T_code_plain → Prop} (s : Sf F h (Ce y0 [v] :: Row 1 v (List.length a0.b) cs :: M)) (hy0 : y0.at p0) (hc : CL (eI .u8) F cs a0.b) (r : RL eB F v_1 a1) (hp : p_code_plain_Bool a0 a1 R) :
  HC Try.prog 32 #[(.pointer (some p0)), v_1] h fun u h' => ∃ (F' : Vw) (b0 : T_code_plain) (u0_0 : Value) (d0_0 : List Value), Le F F' ∧ Sf F' h' (Ce y0 [u0_0] :: Row 1 u0_0 (List.length b0.b) d0_0 :: M) ∧ True ∧ CL (eI .u8) F' d0_0 b0.b ∧ R b0 := by
 refine sh_code_plain_Bool ?_
 unfold g_code_plain_Bool
 unfold p_code_plain_Bool at hp
 have e0 := Le.refl F
 refine (oLen_sl r.1).2 ?_
 obtain ⟨I, m0, hI, hI_1⟩ := hp
 refine ⟨fun m w h_3 => ∃ (F_3 : Vw) (x_2 : Int) (l_1 : List Int) (v_3 : Value) (cs_2 : List Value), Le F F_3 ∧ Sf F_3 h_3 (Ce y0 [v_3] :: Row 1 v_3 (List.length l_1) cs_2 :: M) ∧ (.int .i64 x_2) = w ∧ CL (eI .u8) F_3 cs_2 l_1 ∧ I m x_2 l_1, m0, ⟨F, 0, a0.b, v, cs, Le.refl _, s, rfl, hc, hI⟩, ?_⟩
 clear hI
 rintro m w h_3 ⟨F_3, x_2, l_1, v_3, cs_2, g, s, rfl, hc_2, hi⟩
 have hp := hI_1 m x_2 l_1 hi
 replace r := r.le g
 replace e0 := Le.trans e0 g
 have eL := g
 refine oBin_lss.2 ?_
 by_cases hc_3 : x_2 < (List.length a1 : Int)
 ·refine (cond_pos hc_3).2 ?_
  replace hp := (Pl.ite_pos hc_3).1 hp
  obtain ⟨kp, hk_1, hp⟩ := Pl.join_elim hp
  have ej := Le.refl F_3
  refine Sh.join_intro fun k hk => ?_
  have hK : ∀ (F_5 : Vw) (h_4 : Heap) (l_2 : List Int) (v_4 : Value) (cs_3 : List Value), Le F_3 F_5 → Sf F_5 h_4 (Ce y0 [v_4] :: Row 1 v_4 (List.length l_2) cs_3 :: M) → CL (eI .u8) F_5 cs_3 l_2 → kp l_2 → k h_4 := by
   intro F_5 h_4 l_2 v_4 cs_3 g_1 s hc_4 hp
   rw [hk]
   rw [hk_1] at hp
   replace e0 := Le.trans e0 g_1
   replace eL := Le.trans eL g_1
   replace ej := Le.trans ej g_1
   refine oBin_add.2 ?_
   obtain ⟨m_1, hm, hi_1⟩ := hp
   exact ⟨m_1, hm, F_5, IntKind.wrap .i64 (x_2 + 1), l_2, v_4, cs_3, eL, s, rfl, hc_4, hi_1⟩
  clear hk hk_1
  obtain ⟨hz, a, hi_2, hp⟩ := hp
  refine tPlF rfl r hz hi_2 fun q c hc_5 rv => ?_
  obtain rfl : c = [(.bool a)] := hc_5
  refine tLd (p := .pointer (some q)) (cs := [(.bool a)]) (j := 0) (padd_zero _).symm (Sf.rvE s rv) rfl ?_
  by_cases hc_6 : a = true
  ·refine (cond_tt hc_6).2 ?_
   replace hp := (Pl.ite_pos hc_6).1 hp
   refine tNil (a := p0) (j := 0) (padd_zero _).symm ?_
   refine tFA (a := p0) (n := 0) (padd_zero _).symm (padd_zero _) ?_
   refine tLd (p := .pointer (some p0)) (cs := [v_3]) (j := 0) (padd_zero _).symm (Sf.ceE hy0 0 rfl s) rfl ?_
   refine tBuildN s (e := (eI .u8)) (l := [1]) [(.int .u8 1)] rfl ⟨rfl, trivial⟩ rfl rfl rfl (Nat.le_of_ble_eq_true rfl) fun v_5 h_5 cs_4 hc_7 s => ?_
   obtain ⟨hb, l_3, hl, hp⟩ := hp
   refine tApp 2 rfl s hc_2 rfl rfl (by decide) (Sf.roE 0 rfl s hc_7) hb hl fun v_6 h_6 cs_5 hc_8 s => ?_
   replace s := Sf.dropAt 0 rfl s
   refine tNil (a := p0) (j := 0) (padd_zero _).symm ?_
   refine tFA (a := p0) (n := 0) (padd_zero _).symm (padd_zero _) ?_
   refine tSt (cs := [v_3]) (vs := [v_6]) (cs' := [v_6]) (j := 0) 0 rfl s hy0 (padd_zero _).symm (by rw [(Sf.at 1 rfl s).row.1.cells]) rfl (Nat.le_of_ble_eq_true rfl) (ones_cons (Sf.at 1 rfl s).row.1.one ones_nil) rfl fun h_7 s => ?_
   exact hK _ _ l_3 v_6 cs_5 ej s hc_8 hp
  ·refine (cond_ff hc_6).2 ?_
   replace hp := (Pl.ite_neg hc_6).1 hp
   refine tNil (a := p0) (j := 0) (padd_zero _).symm ?_
   refine tFA (a := p0) (n := 0) (padd_zero _).symm (padd_zero _) ?_
   refine tLd (p := .pointer (some p0)) (cs := [v_3]) (j := 0) (padd_zero _).symm (Sf.ceE hy0 0 rfl s) rfl ?_
   refine tBuildN s (e := (eI .u8)) (l := [0]) [(.int .u8 0)] rfl ⟨rfl, trivial⟩ rfl rfl rfl (Nat.le_of_ble_eq_true rfl) fun v_7 h_8 cs_6 hc_9 s => ?_
   obtain ⟨hb_1, l_4, hl_1, hp⟩ := hp
   refine tApp 2 rfl s hc_2 rfl rfl (by decide) (Sf.roE 0 rfl s hc_9) hb_1 hl_1 fun v_8 h_9 cs_7 hc_10 s => ?_
   replace s := Sf.dropAt 0 rfl s
   refine tNil (a := p0) (j := 0) (padd_zero _).symm ?_
   refine tFA (a := p0) (n := 0) (padd_zero _).symm (padd_zero _) ?_
   refine tSt (cs := [v_3]) (vs := [v_8]) (cs' := [v_8]) (j := 0) 0 rfl s hy0 (padd_zero _).symm (by rw [(Sf.at 1 rfl s).row.1.cells]) rfl (Nat.le_of_ble_eq_true rfl) (ones_cons (Sf.at 1 rfl s).row.1.one ones_nil) rfl fun h_10 s => ?_
   exact hK _ _ l_4 v_8 cs_7 ej s hc_10 hp
 ·refine (cond_neg hc_3).2 ?_
  replace hp := (Pl.ite_neg hc_3).1 hp
  exact ⟨F_3, (⟨l_1⟩ : T_code_plain), v_3, cs_2, e0, s, trivial, hc_2, hp⟩

/-- (*augur/code.plain).Text -/
def g_code_plain_Text (v0 v1 : Value) (h : Heap) (R : Value → Heap → Prop) : Prop :=
 oLen Try.prog #[48] 3 v1 fun t7 =>
 loop1 (.int .i64 0) h fun x8 h next =>
  oBin Try.prog .lss 3 (.tmp 8) (.tmp 7) x8 t7 fun t9 =>
  cond t9
  (oIdx Try.prog 48 v1 x8 fun t10 =>
  oLoad Try.prog 9 t10 (Eq h) fun t11 =>
  oLen Try.prog #[9] 3 t11 fun t14 =>
  oConv Try.prog 3 73 t14 fun t15 =>
  oBuildSlice Try.prog 92 1 #[(0, t15)] h fun t16 h_1 => 
  oCall Try.prog (.func (.func 30) #[] #[]) #[v0, t16] h_1 fun t17 h_2 => 
  oNil Try.prog v0 fun t20 =>
  oFieldAddr Try.prog 59 t20 0 (Eq h_2) fun t21 =>
  oLoad Try.prog 22 t21 (Eq h_2) fun t22 =>
  oAppend Try.prog #[22, 9] 22 #[t22, t11] h_2 fun t24 h_3 => 
  oNil Try.prog v0 fun t25 =>
  oFieldAddr Try.prog 59 t25 0 (Eq h_3) fun t26 =>
  oStore Try.prog 22 t26 t24 h_3 fun _ h_4 => 
  oBin Try.prog .add 3 (.tmp 8) (.const (.int .i64 1)) x8 (.int .i64 1) fun t27 =>
  next t27 h_4)
  (R (.tuple #[]) h)

theorem sh_code_plain_Text {v0 v1 : Value} {h : Heap} {R : Value → Heap → Prop} (hg : g_code_plain_Text v0 v1 h R) : HC Try.prog 34 #[v0, v1] h R := hc_shal [] Try.func34 (by kernel_rfl) hg

set_option maxRecDepth 20000 in
set_option maxHeartbeats 4000000 in
theorem w_code_plain_Text {F : Vw} {h : Heap} {M : List HP} {a0 : T_code_plain} {y0 : Cx} {p0 : Addr} {v : Value} {cs : List Value} {a1 : List Str} {v_1 : Value} {R : T_code_plain → Prop} (s : Sf F h (Ce y0 [v] :: Row 1 v (List.length a0.b) cs :: M)) (hy0 : y0.at p0) (hc : CL (eI .u8) F cs a0.b) (r : RL eS F v_1 a1) (hp : p_code_plain_Text a0 a1 R) :
  HC Try.prog 34 #[(.pointer (some p0)), v_1] h fun u h' => ∃ (F' : Vw) (b0 : T_code_plain) (u0_0 : Value) (d0_0 : List Value), Le F F' ∧ Sf F' h' (Ce y0 [u0_0] :: Row 1 u0_0 (List.length b0.b) d0_0 :: M) ∧ True ∧ CL (eI .u8) F' d0_0 b0.b ∧ R b0 := by
 refine sh_code_plain_Text ?_
 unfold g_code_plain_Text
 unfold p_code_plain_Text at hp
 have e0 := Le.refl F
 refine (oLen_sl r.1).2 ?_
 obtain ⟨I, m0, hI, hI_1⟩ := hp
 refine ⟨fun m w h_3 => ∃ (F_3 : Vw) (x_2 : Int) (l_1 : List Int) (v_3 : Value) (cs_2 : List Value), Le F F_3 ∧ Sf F_3 h_3 (Ce y0 [v_3] :: Row 1 v_3 (List.length l_1) cs_2 :: M) ∧ (.int .i64 x_2) = w ∧ CL (eI .u8) F_3 cs_2 l_1 ∧ I m x_2 l_1, m0, ⟨F, 0, a0.b, v, cs, Le.refl _, s, rfl, hc, hI⟩, ?_⟩
 clear hI
 rintro m w h_3 ⟨F_3, x_2, l_1, v_3, cs_2, g, s, rfl, hc_2, hi⟩
 have hp := hI_1 m x_2 l_1 hi
 replace r := r.le g
 replace e0 := Le.trans e0 g
 have eL := g
 refine oBin_lss.2 ?_
 by_cases hc_3 : x_2 < (List.length a1 : Int)
 ·refine (cond_pos hc_3).2 ?_
  replace hp := (Pl.ite_pos hc_3).1 hp
  obtain ⟨hz, a, hi_1, hp⟩ := hp
  refine tPlF rfl r hz hi_1 fun q c hc_4 rv => ?_
  obtain rfl : c = [(str a)] := hc_4
  refine tLd (p := .pointer (some q)) (cs := [(str a)]) (j := 0) (padd_zero _).symm (Sf.rvE s rv) rfl ?_
  refine (oLen_str (s := a)).2 ?_
  refine oConv_int.2 ?_
  refine tBuildN s (e := (eI .u64)) (l := [IntKind.wrap .u64 (List.length a : Int)]) [(.int .u64 (IntKind.wrap .u64 (List.length a : Int)))] rfl ⟨rfl, trivial⟩ rfl rfl rfl (Nat.le_of_ble_eq_true rfl) fun v_4 h_4 cs_3 hc_5 s => ?_
  obtain ⟨F_5, g_1, s, r_1⟩ := Sf.freezeRL 0 rfl s rfl hc_5
  replace hc_2 := CL.le g_1 hc_2
  replace e0 := Le.trans e0 g_1
  replace eL := Le.trans eL g_1
  refine oCall_func (HC.mono (w_code_plain_Num (a0 := (⟨l_1⟩ : T_code_plain)) (a1 := [IntKind.wrap .u64 (List.length a : Int)]) s hy0 hc_2 r_1 hp) ?_)
  rintro u h_5 ⟨F_6, b, v_5, cs_4, g_2, s, _, hc_6, hp⟩
  replace r_1 := r_1.le g_2
  replace e0 := Le.trans e0 g_2
  replace eL := Le.trans eL g_2
  refine tNil (a := p0) (j := 0) (padd_zero _).symm ?_
  refine tFA (a := p0) (n := 0) (padd_zero _).symm (padd_zero _) ?_
  refine tLd (p := .pointer (some p0)) (cs := [v_5]) (j := 0) (padd_zero _).symm (Sf.ceE hy0 0 rfl s) rfl ?_
  obtain ⟨hb, l_2, hl, hp⟩ := hp
  refine tAppStr 1 rfl s hc_6 (x := a) rfl (by decide) hb hl fun v_6 h_6 cs_5 hc_7 s => ?_
  refine tNil (a := p0) (j := 0) (padd_zero _).symm ?_
  refine tFA (a := p0) (n := 0) (padd_zero _).symm (padd_zero _) ?_
  refine tSt (cs := [v_5]) (vs := [v_6]) (cs' := [v_6]) (j := 0) 0 rfl s hy0 (padd_zero _).symm (by rw [(Sf.at 1 rfl s).row.1.cells]) rfl (Nat.le_of_ble_eq_true rfl) (ones_cons (Sf.at 1 rfl s).row.1.one ones_nil) rfl fun h_7 s => ?_
  refine oBin_add.2 ?_
  obtain ⟨m_1, hm, hi_2⟩ := hp
  exact ⟨m_1, hm, F_6, IntKind.wrap .i64 (x_2 + 1), l_2, v_6, cs_5, eL, s, rfl, hc_7, hi_2⟩
 ·refine (cond_neg hc_3).2 ?_
  replace hp := (Pl.ite_neg hc_3).1 hp
  exact ⟨F_3, (⟨l_1⟩ : T_code_plain), v_3, cs_2, e0, s, trivial, hc_2, hp⟩

/-- (*augur/code.Writer).interval -/
def g_code_Writer_interval (v0 v1 : Value) (h : Heap) (R : Value → Heap → Prop) : Prop :=
 oBox Try.prog 30 v1 h fun t3 h => 
 drawn h fun D =>
 oNil Try.prog v0 fun t5 =>
 oFieldAddr Try.prog 61 t5 0 D fun t6 =>
 oFieldAddr Try.prog 30 t3 0 D fun t7 =>
 oLoad Try.prog 4 t7 D fun t8 =>
 oBuildSlice Try.prog 95 1 #[(0, t8)] h fun t9 h_1 => D h_1 ∧ 
 oCall Try.prog (.func (.func 32) #[] #[]) #[t6, t9] h_1 fun t10 h_2 => 
 oFieldAddr Try.prog 30 t3 0 (Eq h_2) fun t11 =>
 oLoad Try.prog 4 t11 (Eq h_2) fun t12 =>
 cond t12
  (drawn h_2 fun D_1 =>
  oNil Try.prog v0 fun t14 =>
  oFieldAddr Try.prog 61 t14 0 D_1 fun t15 =>
  oFieldAddr Try.prog 30 t3 1 D_1 fun t16 =>
  oLoad Try.prog 2 t16 D_1 fun t17 =>
  oFieldAddr Try.prog 30 t3 2 D_1 fun t18 =>
  oLoad Try.prog 2 t18 D_1 fun t19 =>
  oBuildSlice Try.prog 94 2 #[(0, t17), (1, t19)] h_2 fun t20 h_3 => D_1 h_3 ∧ 
  oCall Try.prog (.func (.func 31) #[] #[]) #[t15, t20] h_3 fun t21 h_4 => 
  R (.tuple #[]) h_4)
  (R (.tuple #[]) h_2)

theorem sh_code_Writer_interval {v0 v1 : Value} {h : Heap} {R : Value → Heap → Prop} (hg : g_code_Writer_interval v0 v1 h R) : HC Try.prog 33 #[v0, v1] h R := hc_shal [(1, .mix 6), (3, .mix 8)] Try.func33 (by kernel_rfl) hg

set_option maxRecDepth 20000 in
set_option maxHeartbeats 4000000 in
theorem w_code_Writer_interval {F : Vw} {h : Heap} {M : List HP} {a0 : T_code_Writer} {y0 : Cx} {p0 : Addr} {v : Value} {cs : List Value} {a1 : T_api_Ival} {R : T_code_Writer → Prop} (s : Sf F h (Ce y0 [v] :: Row 1 v (List.length a0.plain.b) cs :: M)) (hy0 : y0.at p0) (hc : CL (eI .u8) F cs a0.plain.b) (hp : p_code_Writer_interval a0 a1 R) :
  HC Try.prog 33 #[(.pointer (some p0)), (.agg #[(.bool a1.Some), (.int .i64 a1.Lo), (.int .i64 a1.Hi)])] h fun u h' => ∃ (F' : Vw) (b0 : T_code_Writer) (u0_0 : Value) (d0_0 : List Value), Le F F' ∧ Sf F' h' (Ce y0 [u0_0] :: Row 1 u0_0 (List.length b0.plain.b) d0_0 :: M) ∧ True ∧ CL (eI .u8) F' d0_0 b0.plain.b ∧ R b0 := by
 refine sh_code_Writer_interval ?_
 unfold g_code_Writer_interval
 unfold p_code_Writer_interval at hp
 have e0 := Le.refl F
 refine tBx s (vs := [(.bool a1.Some), (.int .i64 a1.Lo), (.int .i64 a1.Hi)]) (by rfl) fun p h_1 s => ?_
 refine ⟨fun h' => Sf F h' (Ce (Cx.new p) [(.bool a1.Some), (.int .i64 a1.Lo), (.int .i64 a1.Hi)] :: Ce y0 [v] :: M), Sf.dropAt 2 rfl s, ?_⟩
 have ed := Le.refl F
 refine tNil (a := p0) (j := 0) (padd_zero _).symm ?_
 refine tFA (a := p0) (n := 0) (padd_zero _).symm (padd_zero _) ?_
 refine tFA (a := p) (n := 0) (padd_zero _).symm (padd_zero _) ?_
 refine tLd (p := .pointer (some p)) (cs := [(.bool a1.Some), (.int .i64 a1.Lo), (.int .i64 a1.Hi)]) (j := 0) (padd_zero _).symm (Sf.ceD (Cx.new_at p) 0 rfl) rfl ?_
 refine tBuildN s (e := eB) (l := [a1.Some]) [(.bool a1.Some)] rfl ⟨rfl, trivial⟩ rfl rfl rfl (Nat.le_of_ble_eq_true rfl) fun v_1 h_2 cs_1 hc_1 s => ?_
 refine ⟨Sf.dropAt 0 rfl (Sf.dropAt 3 rfl s), ?_⟩
 obtain ⟨F_1, g, s, r⟩ := Sf.freezeRL 0 rfl s rfl hc_1
 replace hc := CL.le g hc
 replace e0 := Le.trans e0 g
 replace ed := Le.trans ed g
 replace s := Sf.front 2 rfl s
 replace s := Sf.front 2 rfl s
 refine oCall_func (HC.mono (w_code_plain_Bool (a0 := a0.plain) (a1 := [a1.Some]) s hy0 hc r hp) ?_)
 rintro u h_3 ⟨F_2, b, v_2, cs_2, g_1, s, _, hc_2, hp⟩
 replace r := r.le g_1
 replace e0 := Le.trans e0 g_1
 replace ed := Le.trans ed g_1
 refine tFA (a := p) (n := 0) (padd_zero _).symm (padd_zero _) ?_
 refine tLd (p := .pointer (some p)) (cs := [(.bool a1.Some), (.int .i64 a1.Lo), (.int .i64 a1.Hi)]) (j := 0) (padd_zero _).symm (Sf.ceE (Cx.new_at p) 2 rfl s) rfl ?_
 by_cases hc_3 : a1.Some = true
 ·refine (cond_tt hc_3).2 ?_
  replace hp := (Pl.ite_pos hc_3).1 hp
  refine ⟨fun h' => Sf F_2 h' (Ce y0 [v_2] :: Ce (Cx.new p) [(.bool a1.Some), (.int .i64 a1.Lo), (.int .i64 a1.Hi)] :: M), Sf.dropAt 1 rfl s, ?_⟩
  have ed_1 := Le.refl F_2
  refine tNil (a := p0) (j := 0) (padd_zero _).symm ?_
  refine tFA (a := p0) (n := 0) (padd_zero _).symm (padd_zero _) ?_
  refine tFA (a := p) (n := 0) (padd_zero _).symm rfl ?_
  refine tLd (p := .pointer (some p)) (cs := [(.bool a1.Some), (.int .i64 a1.Lo), (.int .i64 a1.Hi)]) (j := 1) rfl (Sf.ceD (Cx.new_at p) 1 rfl) rfl ?_
  refine tFA (a := p) (n := 0) (padd_zero _).symm rfl ?_
  refine tLd (p := .pointer (some p)) (cs := [(.bool a1.Some), (.int .i64 a1.Lo), (.int .i64 a1.Hi)]) (j := 2) rfl (Sf.ceD (Cx.new_at p) 1 rfl) rfl ?_
  refine tBuildN s (e := (eI .i64)) (l := [a1.Lo, a1.Hi]) [(.int .i64 a1.Lo), (.int .i64 a1.Hi)] rfl ⟨rfl, ⟨rfl, trivial⟩⟩ rfl rfl rfl (Nat.le_of_ble_eq_true rfl) fun v_3 h_4 cs_3 hc_4 s => ?_
  refine ⟨Sf.dropAt 0 rfl (Sf.dropAt 2 rfl s), ?_⟩
  obtain ⟨F_3, g_2, s, r_1⟩ := Sf.freezeRL 0 rfl s rfl hc_4
  replace hc_2 := CL.le g_2 hc_2
  replace e0 := Le.trans e0 g_2
  replace ed := Le.trans ed g_2
  replace ed_1 := Le.trans ed_1 g_2
  refine oCall_func (HC.mono (w_code_plain_Int (a0 := b) (a1 := [a1.Lo, a1.Hi]) s hy0 hc_2 r_1 hp) ?_)
  rintro u_1 h_5 ⟨F_4, b_1, v_4, cs_4, g_3, s, _, hc_5, hp⟩
  replace r_1 := r_1.le g_3
  replace e0 := Le.trans e0 g_3
  replace ed := Le.trans ed g_3
  replace ed_1 := Le.trans ed_1 g_3
  replace s := Sf.dropAt 2 rfl s
  exact ⟨F_4, (⟨b_1⟩ : T_code_Writer), v_4, cs_4, e0, s, trivial, hc_5, hp⟩
 ·refine (cond_ff hc_3).2 ?_
  replace hp := (Pl.ite_neg hc_3).1 hp
  replace s := Sf.dropAt 2 rfl s
  exact ⟨F_2, (⟨b⟩ : T_code_Writer), v_2, cs_2, e0, s, trivial, hc_2, hp⟩

/-- (*augur/code.Writer).Summary -/
def g_code_Writer_Summary (v0 v1 : Value) (h : Heap) (R : Value → Heap → Prop) : Prop :=
 oLen Try.prog #[71] 3 v1 fun t11 =>
 loop1 (.int .i64 0) h fun x12 h next =>
  oBin Try.prog .lss 3 (.tmp 12) (.tmp 11) x12 t11 fun t13 =>
  cond t13
  (oIdx Try.prog 71 v1 x12 fun t14 =>
  oLoad Try.prog 33 t14 (Eq h) fun t15 =>
  oAlloc Try.prog 33 h fun t5 h_1 => 
  oStore Try.prog 33 t5 t15 h_1 fun _ h_2 => 
  drawn h_2 fun D =>
  oNil Try.prog v0 fun t17 =>
  oFieldAddr Try.prog 61 t17 0 D fun t18 =>
  oFieldAddr Try.prog 33 t5 0 D fun t19 =>
  oLoad Try.prog 28 t19 D fun t20 =>
  oLen Try.prog #[28] 3 t20 fun t21 =>
  oConv Try.prog 3 73 t21 fun t22 =>
  oBuildSlice Try.prog 92 1 #[(0, t22)] h_2 fun t23 h_3 => D h_3 ∧ 
  oCall Try.prog (.func (.func 30) #[] #[]) #[t18, t23] h_3 fun t24 h_4 => 
  oFieldAddr Try.prog 33 t5 0 (Eq h_4) fun t25 =>
  oLoad Try.prog 28 t25 (Eq h_4) fun t26 =>
  oLen Try.prog #[28] 3 t26 fun t27 =>
  loop1 (.int .i64 0) h_4 fun x28 h_5 next_1 =>
   oBin Try.prog .lss 3 (.tmp 28) (.tmp 27) x28 t27 fun t29 =>
   cond t29
   (oIdx Try.prog 28 t26 x28 fun t30 =>
   oLoad Try.prog 46 t30 (Eq h_5) fun t31 =>
   oAlloc Try.prog 46 h_5 fun t7 h_6 => 
   oStore Try.prog 46 t7 t31 h_6 fun _ h_7 => 
   drawn h_7 fun D_1 =>
   oNil Try.prog v0 fun t33 =>
   oFieldAddr Try.prog 61 t33 0 D_1 fun t34 =>
   oFieldAddr Try.prog 46 t7 0 D_1 fun t35 =>
   oLoad Try.prog 3 t35 D_1 fun t36 =>
   oFieldAddr Try.prog 46 t7 1 D_1 fun t37 =>
   oLoad Try.prog 3 t37 D_1 fun t38 =>
   oBuildSlice Try.prog 94 2 #[(0, t36), (1, t38)] h_7 fun t39 h_8 => D_1 h_8 ∧ 
   oCall Try.prog (.func (.func 31) #[] #[]) #[t34, t39] h_8 fun t40 h_9 => 
   oBin Try.prog .add 3 (.tmp 28) (.const (.int .i64 1)) x28 (.int .i64 1) fun t41 =>
   next_1 t41 h_9)
   (drawn h_5 fun D_2 =>
   oNil Try.prog v0 fun t43 =>
   oFieldAddr Try.prog 61 t43 0 D_2 fun t44 =>
   oFieldAddr Try.prog 33 t5 1 D_2 fun t45 =>
   oLoad Try.prog 4 t45 D_2 fun t46 =>
   oBuildSlice Try.prog 95 1 #[(0, t46)] h_5 fun t47 h_10 => D_2 h_10 ∧ 
   oCall Try.prog (.func (.func 32) #[] #[]) #[t44, t47] h_10 fun t48 h_11 => 
   oFieldAddr Try.prog 33 t5 2 (Eq h_11) fun t50 =>
   oLoad Try.prog 30 t50 (Eq h_11) fun t51 =>
   oCall Try.prog (.func (.func 33) #[] #[]) #[v0, t51] h_11 fun t52 h_12 => 
   drawn h_12 fun D_3 =>
   oNil Try.prog v0 fun t54 =>
   oFieldAddr Try.prog 61 t54 0 D_3 fun t55 =>
   oFieldAddr Try.prog 33 t5 3 D_3 fun t56 =>
   oLoad Try.prog 31 t56 D_3 fun t57 =>
   oLen Try.prog #[31] 3 t57 fun t58 =>
   oConv Try.prog 3 73 t58 fun t59 =>
   oBuildSlice Try.prog 92 1 #[(0, t59)] h_12 fun t60 h_13 => D_3 h_13 ∧ 
   oCall Try.prog (.func (.func 30) #[] #[]) #[t55, t60] h_13 fun t61 h_14 => 
   oFieldAddr Try.prog 33 t5 3 (Eq h_14) fun t62 =>
   oLoad Try.prog 31 t62 (Eq h_14) fun t63 =>
   oLen Try.prog #[31] 3 t63 fun t64 =>
   loop1 (.int .i64 0) h_14 fun x65 h_15 next_2 =>
    oBin Try.prog .lss 3 (.tmp 65) (.tmp 64) x65 t64 fun t66 =>
    cond t66
    (oIdx Try.prog 31 t63 x65 fun t67 =>
    oLoad Try.prog 53 t67 (Eq h_15) fun t68 =>
    oAlloc Try.prog 53 h_15 fun t9 h_16 => 
    oStore Try.prog 53 t9 t68 h_16 fun _ h_17 => 
    drawn h_17 fun D_4 =>
    oNil Try.prog v0 fun t70 =>
    oFieldAddr Try.prog 61 t70 0 D_4 fun t71 =>
    oFieldAddr Try.prog 53 t9 0 D_4 fun t72 =>
    oLoad Try.prog 9 t72 D_4 fun t73 =>
    oBuildSlice Try.prog 48 1 #[(0, t73)] h_17 fun t74 h_18 => D_4 h_18 ∧ 
    oCall Try.prog (.func (.func 34) #[] #[]) #[t71, t74] h_18 fun t75 h_19 => 
    oFieldAddr Try.prog 53 t9 1 (Eq h_19) fun t77 =>
    oLoad Try.prog 30 t77 (Eq h_19) fun t78 =>
    oCall Try.prog (.func (.func 33) #[] #[]) #[v0, t78] h_19 fun t79 h_20 => 
    oBin Try.prog .add 3 (.tmp 65) (.const (.int .i64 1)) x65 (.int .i64 1) fun t80 =>
    next_2 t80 h_20)
    (oBin Try.prog .add 3 (.tmp 12) (.const (.int .i64 1)) x12 (.int .i64 1) fun t81 =>
    next t81 h_15)))
  (R (.tuple #[]) h)

theorem sh_code_Writer_Summary {v0 v1 : Value} {h : Heap} {R : Value → Heap → Prop} (hg : g_code_Writer_Summary v0 v1 h R) : HC Try.prog 18 #[v0, v1] h R := hc_shal [(3, .mix 8), (7, .mix 8), (9, .mix 6), (11, .mix 8), (15, .mix 6)] Try.func18 (by kernel_rfl) hg

set_option maxRecDepth 20000 in
set_option maxHeartbeats 4000000 in
theorem w_code_Writer_Summary {F : Vw} {h : Heap} {M : List HP} {a0 : T_code_Writer} {y0 : Cx} {p0 : Addr} {v : Value} {cs : List Value} {a1 : List T_api_Summary} {v_1 : Value} {R : T_code_Writer → Prop} (s : Sf F h (Ce y0 [v] :: Row 1 v (List.length a0.plain.b) cs :: M)) (hy0 : y0.at p0) (hc : CL (eI .u8) F cs a0.plain.b) (r : RL e_api_Summary F v_1 a1) (hp : p_code_Writer_Summary a0 a1 R) :
  HC Try.prog 18 #[(.pointer (some p0)), v_1] h fun u h' => ∃ (F' : Vw) (b0 : T_code_Writer) (u0_0 : Value) (d0_0 : List Value), Le F F' ∧ Sf F' h' (Ce y0 [u0_0] :: Row 1 u0_0 (List.length b0.plain.b) d0_0 :: M) ∧ True ∧ CL (eI .u8) F' d0_0 b0.plain.b ∧ R b0 := by
 refine sh_code_Writer_Summary ?_
 unfold g_code_Writer_Summary
 unfold p_code_Writer_Summary at hp
 have e0 := Le.refl F
 refine (oLen_sl r.1).2 ?_
 obtain ⟨I, m0, hI, hI_1⟩ := hp
 refine ⟨fun m w h_3 => ∃ (F_3 : Vw) (x_2 : Int) (l_1 : List Int) (v_3 : Value) (cs_2 : List Value), Le F F_3 ∧ Sf F_3 h_3 (Ce y0 [v_3] :: Row 1 v_3 (List.length l_1) cs_2 :: M) ∧ (.int .i64 x_2) = w ∧ CL (eI .u8) F_3 cs_2 l_1 ∧ I m x_2 l_1, m0, ⟨F, 0, a0.plain.b, v, cs, Le.refl _, s, rfl, hc, hI⟩, ?_⟩
 clear hI
 rintro m w h_3 ⟨F_3, x_2, l_1, v_3, cs_2, g, s, rfl, hc_2, hi⟩
 have hp := hI_1 m x_2 l_1 hi
 replace r := r.le g
 replace e0 := Le.trans e0 g
 have eL := g
 refine oBin_lss.2 ?_
 by_cases hc_3 : x_2 < (List.length a1 : Int)
 ·refine (cond_pos hc_3).2 ?_
  replace hp := (Pl.ite_pos hc_3).1 hp
  obtain ⟨hz, a, hi_1, hp⟩ := hp
  refine tPlF rfl r hz hi_1 fun q c hc_4 rv => ?_
  obtain ⟨v_4, v_5, rfl, r_1, r_2⟩ := hc_4
  refine tLdA (a := q) (cs := [v_4, (.bool a.Ends), (.bool a.Ret.Some), (.int .i64 a.Ret.Lo), (.int .i64 a.Ret.Hi), v_5]) (ds := [v_4, (.bool a.Ends), (.bool a.Ret.Some), (.int .i64 a.Ret.Lo), (.int .i64 a.Ret.Hi), v_5]) (j := 0) (padd_zero _).symm (Sf.rvE s rv) (Nat.le_of_ble_eq_true rfl) rfl ?_
  refine tAl s (vs := [(.slice none 0 0), (.bool false), (.bool false), (.int .i64 0), (.int .i64 0), (.slice none 0 0)]) (by rfl) fun p h_4 s => ?_
  refine tSt (cs := [(.slice none 0 0), (.bool false), (.bool false), (.int .i64 0), (.int .i64 0), (.slice none 0 0)]) (vs := [v_4, (.bool a.Ends), (.bool a.Ret.Some), (.int .i64 a.Ret.Lo), (.int .i64 a.Ret.Hi), v_5]) (cs' := [v_4, (.bool a.Ends), (.bool a.Ret.Some), (.int .i64 a.Ret.Lo), (.int .i64 a.Ret.Hi), v_5]) (j := 0) 0 rfl s (Cx.new_at p) (padd_zero _).symm (by rfl) rfl (Nat.le_of_ble_eq_true rfl) (ones_cons r_1.1.one (ones_cons rfl (ones_cons rfl (ones_cons rfl (ones_cons rfl (ones_cons r_2.1.one ones_nil)))))) rfl fun h_5 s => ?_
  refine ⟨fun h' => Sf F_3 h' (Ce (Cx.new p) [v_4, (.bool a.Ends), (.bool a.Ret.Some), (.int .i64 a.Ret.Lo), (.int .i64 a.Ret.Hi), v_5] :: Ce y0 [v_3] :: M), Sf.dropAt 2 rfl s, ?_⟩
  have ed := Le.refl F_3
  refine tNil (a := p0) (j := 0) (padd_zero _).symm ?_
  refine tFA (a := p0) (n := 0) (padd_zero _).symm (padd_zero _) ?_
  refine tFA (a := p) (n := 0) (padd_zero _).symm (padd_zero _) ?_
  refine tLd (p := .pointer (some p)) (cs := [v_4, (.bool a.Ends), (.bool a.Ret.Some), (.int .i64 a.Ret.Lo), (.int .i64 a.Ret.Hi), v_5]) (j := 0) (padd_zero _).symm (Sf.ceD (Cx.new_at p) 0 rfl) rfl ?_
  refine (oLen_sl r_1.1).2 ?_
  refine oConv_int.2 ?_
  refine tBuildN s (e := (eI .u64)) (l := [IntKind.wrap .u64 (List.length a.Alarms : Int)]) [(.int .u64 (IntKind.wrap .u64 (List.length a.Alarms : Int)))] rfl ⟨rfl, trivial⟩ rfl rfl rfl (Nat.le_of_ble_eq_true rfl) fun v_6 h_6 cs_3 hc_5 s => ?_
  refine ⟨Sf.dropAt 0 rfl (Sf.dropAt 3 rfl s), ?_⟩
  obtain ⟨F_5, g_1, s, r_3⟩ := Sf.freezeRL 0 rfl s rfl hc_5
  have r_1_D := r_1
  replace r_1 := r_1.le g_1
  have r_2_D := r_2
  replace r_2 := r_2.le g_1
  replace hc_2 := CL.le g_1 hc_2
  replace e0 := Le.trans e0 g_1
  replace eL := Le.trans eL g_1
  replace ed := Le.trans ed g_1
  replace s := Sf.front 2 rfl s
  replace s := Sf.front 2 rfl s
  refine oCall_func (HC.mono (w_code_plain_Num (a0 := (⟨l_1⟩ : T_code_plain)) (a1 := [IntKind.wrap .u64 (List.length a.Alarms : Int)]) s hy0 hc_2 r_3 hp) ?_)
  rintro u h_7 ⟨F_6, b, v_7, cs_4, g_2, s, _, hc_6, hp⟩
  replace r_3 := r_3.le g_2
  replace r_1 := r_1.le g_2
  replace r_2 := r_2.le g_2
  replace e0 := Le.trans e0 g_2
  replace eL := Le.trans eL g_2
  replace ed := Le.trans ed g_2
  refine tFA (a := p) (n := 0) (padd_zero _).symm (padd_zero _) ?_
  refine tLd (p := .pointer (some p)) (cs := [v_4, (.bool a.Ends), (.bool a.Ret.Some), (.int .i64 a.Ret.Lo), (.int .i64 a.Ret.Hi), v_5]) (j := 0) (padd_zero _).symm (Sf.ceE (Cx.new_at p) 2 rfl s) rfl ?_
  refine (oLen_sl r_1.1).2 ?_
  obtain ⟨I_1, m0_1, hI_2, hI_3⟩ := hp
  refine ⟨fun m_1 w_1 h_10 => ∃ (F_9 : Vw) (x_5 : Int) (l_3 : List Int) (v_9 : Value) (cs_6 : List Value), Le F_6 F_9 ∧ Sf F_9 h_10 (Ce y0 [v_9] :: Row 1 v_9 (List.length l_3) cs_6 :: Ce (Cx.new p) [v_4, (.bool a.Ends), (.bool a.Ret.Some), (.int .i64 a.Ret.Lo), (.int .i64 a.Ret.Hi), v_5] :: M) ∧ (.int .i64 x_5) = w_1 ∧ CL (eI .u8) F_9 cs_6 l_3 ∧ I_1 m_1 x_5 l_3, m0_1, ⟨F_6, 0, b.b, v_7, cs_4, Le.refl _, s, rfl, hc_6, hI_2⟩, ?_⟩
  clear hI_2
  rintro m_1 w_1 h_10 ⟨F_9, x_5, l_3, v_9, cs_6, g_3, s, rfl, hc_8, hi_2⟩
  have hp := hI_3 m_1 x_5 l_3 hi_2
  replace r_1 := r_1.le g_3
  replace r_2 := r_2.le g_3
  replace e0 := Le.trans e0 g_3
  replace eL := Le.trans eL g_3
  replace ed := Le.trans ed g_3
  have eL_1 := g_3
  refine oBin_lss.2 ?_
  by_cases hc_9 : x_5 < (List.length a.Alarms : Int)
  ·refine (cond_pos hc_9).2 ?_
   replace hp := (Pl.ite_pos hc_9).1 hp
   obtain ⟨hz_1, a_1, hi_3, hp⟩ := hp
   refine tPlF rfl r_1 hz_1 hi_3 fun q_1 c_1 hc_10 rv_1 => ?_
   obtain rfl : c_1 = [(.int .i64 a_1.At), (.int .i64 a_1.Kind)] := hc_10
   refine tLdA (a := q_1) (cs := [(.int .i64 a_1.At), (.int .i64 a_1.Kind)]) (ds := [(.int .i64 a_1.At), (.int .i64 a_1.Kind)]) (j := 0) (padd_zero _).symm (Sf.rvE s rv_1) (Nat.le_of_ble_eq_true rfl) rfl ?_
   refine tAl s (vs := [(.int .i64 0), (.int .i64 0)]) (by rfl) fun p_1 h_11 s => ?_
   refine tSt (cs := [(.int .i64 0), (.int .i64 0)]) (vs := [(.int .i64 a_1.At), (.int .i64 a_1.Kind)]) (cs' := [(.int .i64 a_1.At), (.int .i64 a_1.Kind)]) (j := 0) 0 rfl s (Cx.new_at p_1) (padd_zero _).symm (by rfl) rfl (Nat.le_of_ble_eq_true rfl) (ones_cons rfl (ones_cons rfl ones_nil)) rfl fun h_12 s => ?_
   refine ⟨fun h' => Sf F_9 h' (Ce (Cx.new p_1) [(.int .i64 a_1.At), (.int .i64 a_1.Kind)] :: Ce y0 [v_9] :: Ce (Cx.new p) [v_4, (.bool a.Ends), (.bool a.Ret.Some), (.int .i64 a.Ret.Lo), (.int .i64 a.Ret.Hi), v_5] :: M), Sf.dropAt 2 rfl s, ?_⟩
   have ed_1 := Le.refl F_9
   refine tNil (a := p0) (j := 0) (padd_zero _).symm ?_
   refine tFA (a := p0) (n := 0) (padd_zero _).symm (padd_zero _) ?_
   refine tFA (a := p_1) (n := 0) (padd_zero _).symm (padd_zero _) ?_
   refine tLd (p := .pointer (some p_1)) (cs := [(.int .i64 a_1.At), (.int .i64 a_1.Kind)]) (j := 0) (padd_zero _).symm (Sf.ceD (Cx.new_at p_1) 0 rfl) rfl ?_
   refine tFA (a := p_1) (n := 0) (padd_zero _).symm rfl ?_
   refine tLd (p := .pointer (some p_1)) (cs := [(.int .i64 a_1.At), (.int .i64 a_1.Kind)]) (j := 1) rfl (Sf.ceD (Cx.new_at p_1) 0 rfl) rfl ?_
   refine tBuildN s (e := (eI .i64)) (l := [a_1.At, a_1.Kind]) [(.int .i64 a_1.At), (.int .i64 a_1.Kind)] rfl ⟨rfl, ⟨rfl, trivial⟩⟩ rfl rfl rfl (Nat.le_of_ble_eq_true rfl) fun v_10 h_13 cs_7 hc_11 s => ?_
   refine ⟨Sf.dropAt 0 rfl (Sf.dropAt 3 rfl s), ?_⟩
   obtain ⟨F_11, g_4, s, r_4⟩ := Sf.freezeRL 0 rfl s rfl hc_11
   replace hc_8 := CL.le g_4 hc_8
   have r_1_D := r_1
   replace r_1 := r_1.le g_4
   have r_2_D := r_2
   replace r_2 := r_2.le g_4
   replace e0 := Le.trans e0 g_4
   replace eL := Le.trans eL g_4
   replace ed := Le.trans ed g_4
   replace eL_1 := Le.trans eL_1 g_4
   replace ed_1 := Le.trans ed_1 g_4
   replace s := Sf.front 2 rfl s
   replace s := Sf.front 2 rfl s
   refine oCall_func (HC.mono (w_code_plain_Int (a0 := (⟨l_3⟩ : T_code_plain)) (a1 := [a_1.At, a_1.Kind]) s hy0 hc_8 r_4 hp) ?_)
   rintro u_1 h_14 ⟨F_12, b_1, v_11, cs_8, g_5, s, _, hc_12, hp⟩
   replace r_4 := r_4.le g_5
   replace r_1 := r_1.le g_5
   replace r_2 := r_2.le g_5
   replace e0 := Le.trans e0 g_5
   replace eL := Le.trans eL g_5
   replace ed := Le.trans ed g_5
   replace eL_1 := Le.trans eL_1 g_5
   replace ed_1 := Le.trans ed_1 g_5
   refine oBin_add.2 ?_
   replace s := Sf.dropAt 2 rfl s
   obtain ⟨m_2, hm, hi_4⟩ := hp
   exact ⟨m_2, hm, F_12, IntKind.wrap .i64 (x_5 + 1), b_1.b, v_11, cs_8, eL_1, s, rfl, hc_12, hi_4⟩
  ·refine (cond_neg hc_9).2 ?_
   replace hp := (Pl.ite_neg hc_9).1 hp
   refine ⟨fun h' => Sf F_9 h' (Ce y0 [v_9] :: Ce (Cx.new p) [v_4, (.bool a.Ends), (.bool a.Ret.Some), (.int .i64 a.Ret.Lo), (.int .i64 a.Ret.Hi), v_5] :: M), Sf.dropAt 1 rfl s, ?_⟩
   have ed_2 := Le.refl F_9
   refine tNil (a := p0) (j := 0) (padd_zero _).symm ?_
   refine tFA (a := p0) (n := 0) (padd_zero _).symm (padd_zero _) ?_
   refine tFA (a := p) (n := 0) (padd_zero _).symm rfl ?_
   refine tLd (p := .pointer (some p)) (cs := [v_4, (.bool a.Ends), (.bool a.Ret.Some), (.int .i64 a.Ret.Lo), (.int .i64 a.Ret.Hi), v_5]) (j := 1) rfl (Sf.ceD (Cx.new_at p) 1 rfl) rfl ?_
   refine tBuildN s (e := eB) (l := [a.Ends]) [(.bool a.Ends)] rfl ⟨rfl, trivial⟩ rfl rfl rfl (Nat.le_of_ble_eq_true rfl) fun v_12 h_15 cs_9 hc_13 s => ?_
   refine ⟨Sf.dropAt 0 rfl (Sf.dropAt 2 rfl s), ?_⟩
   obtain ⟨F_13, g_6, s, r_5⟩ := Sf.freezeRL 0 rfl s rfl hc_13
   replace hc_8 := CL.le g_6 hc_8
   have r_1_D := r_1
   replace r_1 := r_1.le g_6
   have r_2_D := r_2
   replace r_2 := r_2.le g_6
   replace e0 := Le.trans e0 g_6
   replace eL := Le.trans eL g_6
   replace ed := Le.trans ed g_6
   replace eL_1 := Le.trans eL_1 g_6
   replace ed_2 := Le.trans ed_2 g_6
   refine oCall_func (HC.mono (w_code_plain_Bool (a0 := (⟨l_3⟩ : T_code_plain)) (a1 := [a.Ends]) s hy0 hc_8 r_5 hp) ?_)
   rintro u_2 h_16 ⟨F_14, b_2, v_13, cs_10, g_7, s, _, hc_14, hp⟩
   replace r_5 := r_5.le g_7
   replace r_1 := r_1.le g_7
   replace r_2 := r_2.le g_7
   replace e0 := Le.trans e0 g_7
   replace eL := Le.trans eL g_7
   replace ed := Le.trans ed g_7
   replace eL_1 := Le.trans eL_1 g_7
   replace ed_2 := Le.trans ed_2 g_7
   refine tFA (a := p) (n := 0) (padd_zero _).symm rfl ?_
   refine tLdA (a := p) (cs := [v_4, (.bool a.Ends), (.bool a.Ret.Some), (.int .i64 a.Ret.Lo), (.int .i64 a.Ret.Hi), v_5]) (ds := [(.bool a.Ret.Some), (.int .i64 a.Ret.Lo), (.int .i64 a.Ret.Hi)]) (j := 2) rfl (Sf.ceE (Cx.new_at p) 2 rfl s) (Nat.le_of_ble_eq_true rfl) rfl ?_
   refine oCall_func (HC.mono (w_code_Writer_interval (a0 := (⟨b_2⟩ : T_code_Writer)) (a1 := a.Ret) s hy0 hc_14 hp) ?_)
   rintro u_3 h_17 ⟨F_15, b_3, v_14, cs_11, g_8, s, _, hc_15, hp⟩
   replace r_1 := r_1.le g_8
   replace r_2 := r_2.le g_8
   replace e0 := Le.trans e0 g_8
   replace eL := Le.trans eL g_8
   replace ed := Le.trans ed g_8
   replace eL_1 := Le.trans eL_1 g_8
   replace ed_2 := Le.trans ed_2 g_8
   refine ⟨fun h' => Sf F_15 h' (Ce y0 [v_14] :: Ce (Cx.new p) [v_4, (.bool a.Ends), (.bool a.Ret.Some), (.int .i64 a.Ret.Lo), (.int .i64 a.Ret.Hi), v_5] :: M), Sf.dropAt 1 rfl s, ?_⟩
   have ed_3 := Le.refl F_15
   refine tNil (a := p0) (j := 0) (padd_zero _).symm ?_
   refine tFA (a := p0) (n := 0) (padd_zero _).symm (padd_zero _) ?_
   refine tFA (a := p) (n := 0) (padd_zero _).symm rfl ?_
   refine tLd (p := .pointer (some p)) (cs := [v_4, (.bool a.Ends), (.bool a.Ret.Some), (.int .i64 a.Ret.Lo), (.int .i64 a.Ret.Hi), v_5]) (j := 5) rfl (Sf.ceD (Cx.new_at p) 1 rfl) rfl ?_
   refine (oLen_sl r_2.1).2 ?_
   refine oConv_int.2 ?_
   refine tBuildN s (e := (eI .u64)) (l := [IntKind.wrap .u64 (List.length a.Mod : Int)]) [(.int .u64 (IntKind.wrap .u64 (List.length a.Mod : Int)))] rfl ⟨rfl, trivial⟩ rfl rfl rfl (Nat.le_of_ble_eq_true rfl) fun v_15 h_18 cs_12 hc_16 s => ?_
   refine ⟨Sf.dropAt 0 rfl (Sf.dropAt 2 rfl s), ?_⟩
   obtain ⟨F_16, g_9, s, r_6⟩ := Sf.freezeRL 0 rfl s rfl hc_16
   replace hc_15 := CL.le g_9 hc_15
   have r_1_D := r_1
   replace r_1 := r_1.le g_9
   have r_2_D := r_2
   replace r_2 := r_2.le g_9
   replace e0 := Le.trans e0 g_9
   replace eL := Le.trans eL g_9
   replace ed := Le.trans ed g_9
   replace eL_1 := Le.trans eL_1 g_9
   replace ed_2 := Le.trans ed_2 g_9
   replace ed_3 := Le.trans ed_3 g_9
   refine oCall_func (HC.mono (w_code_plain_Num (a0 := b_3.plain) (a1 := [IntKind.wrap .u64 (List.length a.Mod : Int)]) s hy0 hc_15 r_6 hp) ?_)
   rintro u_4 h_19 ⟨F_17, b_4, v_16, cs_13, g_10, s, _, hc_17, hp⟩
   replace r_6 := r_6.le g_10
   replace r_1 := r_1.le g_10
   replace r_2 := r_2.le g_10
   replace e0 := Le.trans e0 g_10
   replace eL := Le.trans eL g_10
   replace ed := Le.trans ed g_10
   replace eL_1 := Le.trans eL_1 g_10
   replace ed_2 := Le.trans ed_2 g_10
   replace ed_3 := Le.trans ed_3 g_10
   refine tFA (a := p) (n := 0) (padd_zero _).symm rfl ?_
   refine tLd (p := .pointer (some p)) (cs := [v_4, (.bool a.Ends), (.bool a.Ret.Some), (.int .i64 a.Ret.Lo), (.int .i64 a.Ret.Hi), v_5]) (j := 5) rfl (Sf.ceE (Cx.new_at p) 2 rfl s) rfl ?_
   refine (oLen_sl r_2.1).2 ?_
   obtain ⟨I_2, m0_2, hI_4, hI_5⟩ := hp
   refine ⟨fun m_3 w_2 h_22 => ∃ (F_20 : Vw) (x_8 : Int) (l_5 : List Int) (v_18 : Value) (cs_15 : List Value), Le F_17 F_20 ∧ Sf F_20 h_22 (Ce y0 [v_18] :: Row 1 v_18 (List.length l_5) cs_15 :: Ce (Cx.new p) [v_4, (.bool a.Ends), (.bool a.Ret.Some), (.int .i64 a.Ret.Lo), (.int .i64 a.Ret.Hi), v_5] :: M) ∧ (.int .i64 x_8) = w_2 ∧ CL (eI .u8) F_20 cs_15 l_5 ∧ I_2 m_3 x_8 l_5, m0_2, ⟨F_17, 0, b_4.b, v_16, cs_13, Le.refl _, s, rfl, hc_17, hI_4⟩, ?_⟩
   clear hI_4
   rintro m_3 w_2 h_22 ⟨F_20, x_8, l_5, v_18, cs_15, g_11, s, rfl, hc_19, hi_5⟩
   have hp := hI_5 m_3 x_8 l_5 hi_5
   replace r_2 := r_2.le g_11
   replace r_1 := r_1.le g_11
   replace e0 := Le.trans e0 g_11
   replace eL := Le.trans eL g_11
   replace ed := Le.trans ed g_11
   replace eL_1 := Le.trans eL_1 g_11
   replace ed_2 := Le.trans ed_2 g_11
   replace ed_3 := Le.trans ed_3 g_11
   have eL_2 := g_11
   refine oBin_lss.2 ?_
   by_cases hc_20 : x_8 < (List.length a.Mod : Int)
   ·refine (cond_pos hc_20).2 ?_
    replace hp := (Pl.ite_pos hc_20).1 hp
    obtain ⟨hz_2, a_2, hi_6, hp⟩ := hp
    refine tPlF rfl r_2 hz_2 hi_6 fun q_2 c_2 hc_21 rv_2 => ?_
    obtain rfl : c_2 = [(str a_2.Name), (.bool a_2.V.Some), (.int .i64 a_2.V.Lo), (.int .i64 a_2.V.Hi)] := hc_21
    refine tLdA (a := q_2) (cs := [(str a_2.Name), (.bool a_2.V.Some), (.int .i64 a_2.V.Lo), (.int .i64 a_2.V.Hi)]) (ds := [(str a_2.Name), (.bool a_2.V.Some), (.int .i64 a_2.V.Lo), (.int .i64 a_2.V.Hi)]) (j := 0) (padd_zero _).symm (Sf.rvE s rv_2) (Nat.le_of_ble_eq_true rfl) rfl ?_
    refine tAl s (vs := [(str ([] : Str)), (.bool false), (.int .i64 0), (.int .i64 0)]) (by rfl) fun p_2 h_23 s => ?_
    refine tSt (cs := [(str ([] : Str)), (.bool false), (.int .i64 0), (.int .i64 0)]) (vs := [(str a_2.Name), (.bool a_2.V.Some), (.int .i64 a_2.V.Lo), (.int .i64 a_2.V.Hi)]) (cs' := [(str a_2.Name), (.bool a_2.V.Some), (.int .i64 a_2.V.Lo), (.int .i64 a_2.V.Hi)]) (j := 0) 0 rfl s (Cx.new_at p_2) (padd_zero _).symm (by rfl) rfl (Nat.le_of_ble_eq_true rfl) (ones_cons rfl (ones_cons rfl (ones_cons rfl (ones_cons rfl ones_nil)))) rfl fun h_24 s => ?_
    refine ⟨fun h' => Sf F_20 h' (Ce (Cx.new p_2) [(str a_2.Name), (.bool a_2.V.Some), (.int .i64 a_2.V.Lo), (.int .i64 a_2.V.Hi)] :: Ce y0 [v_18] :: Ce (Cx.new p) [v_4, (.bool a.Ends), (.bool a.Ret.Some), (.int .i64 a.Ret.Lo), (.int .i64 a.Ret.Hi), v_5] :: M), Sf.dropAt 2 rfl s, ?_⟩
    have ed_4 := Le.refl F_20
    refine tNil (a := p0) (j := 0) (padd_zero _).symm ?_
    refine tFA (a := p0) (n := 0) (padd_zero _).symm (padd_zero _) ?_
    refine tFA (a := p_2) (n := 0) (padd_zero _).symm (padd_zero _) ?_
    refine tLd (p := .pointer (some p_2)) (cs := [(str a_2.Name), (.bool a_2.V.Some), (.int .i64 a_2.V.Lo), (.int .i64 a_2.V.Hi)]) (j := 0) (padd_zero _).symm (Sf.ceD (Cx.new_at p_2) 0 rfl) rfl ?_
    refine tBuildN s (e := eS) (l := [a_2.Name]) [(str a_2.Name)] rfl ⟨rfl, trivial⟩ rfl rfl rfl (Nat.le_of_ble_eq_true rfl) fun v_19 h_25 cs_16 hc_22 s => ?_
    refine ⟨Sf.dropAt 0 rfl (Sf.dropAt 3 rfl s), ?_⟩
    obtain ⟨F_22, g_12, s, r_7⟩ := Sf.freezeRL 0 rfl s rfl hc_22
    replace hc_19 := CL.le g_12 hc_19
    have r_1_D := r_1
    replace r_1 := r_1.le g_12
    have r_2_D := r_2
    replace r_2 := r_2.le g_12
    replace e0 := Le.trans e0 g_12
    replace eL := Le.trans eL g_12
    replace ed := Le.trans ed g_12
    replace eL_1 := Le.trans eL_1 g_12
    replace ed_2 := Le.trans ed_2 g_12
    replace ed_3 := Le.trans ed_3 g_12
    replace eL_2 := Le.trans eL_2 g_12
    replace ed_4 := Le.trans ed_4 g_12
    replace s := Sf.front 2 rfl s
    replace s := Sf.front 2 rfl s
    refine oCall_func (HC.mono (w_code_plain_Text (a0 := (⟨l_5⟩ : T_code_plain)) (a1 := [a_2.Name]) s hy0 hc_19 r_7 hp) ?_)
    rintro u_5 h_26 ⟨F_23, b_5, v_20, cs_17, g_13, s, _, hc_23, hp⟩
    replace r_7 := r_7.le g_13
    replace r_1 := r_1.le g_13
    replace r_2 := r_2.le g_13
    replace e0 := Le.trans e0 g_13
    replace eL := Le.trans eL g_13
    replace ed := Le.trans ed g_13
    replace eL_1 := Le.trans eL_1 g_13
    replace ed_2 := Le.trans ed_2 g_13
    replace ed_3 := Le.trans ed_3 g_13
    replace eL_2 := Le.trans eL_2 g_13
    replace ed_4 := Le.trans ed_4 g_13
    refine tFA (a := p_2) (n := 0) (padd_zero _).symm rfl ?_
    refine tLdA (a := p_2) (cs := [(str a_2.Name), (.bool a_2.V.Some), (.int .i64 a_2.V.Lo), (.int .i64 a_2.V.Hi)]) (ds := [(.bool a_2.V.Some), (.int .i64 a_2.V.Lo), (.int .i64 a_2.V.Hi)]) (j := 1) rfl (Sf.ceE (Cx.new_at p_2) 2 rfl s) (Nat.le_of_ble_eq_true rfl) rfl ?_
    refine oCall_func (HC.mono (w_code_Writer_interval (a0 := (⟨b_5⟩ : T_code_Writer)) (a1 := a_2.V) s hy0 hc_23 hp) ?_)
    rintro u_6 h_27 ⟨F_24, b_6, v_21, cs_18, g_14, s, _, hc_24, hp⟩
    replace r_1 := r_1.le g_14
    replace r_2 := r_2.le g_14
    replace e0 := Le.trans e0 g_14
    replace eL := Le.trans eL g_14
    replace ed := Le.trans ed g_14
    replace eL_1 := Le.trans eL_1 g_14
    replace ed_2 := Le.trans ed_2 g_14
    replace ed_3 := Le.trans ed_3 g_14
    replace eL_2 := Le.trans eL_2 g_14
    replace ed_4 := Le.trans ed_4 g_14
    refine oBin_add.2 ?_
    replace s := Sf.dropAt 2 rfl s
    obtain ⟨m_4, hm_1, hi_7⟩ := hp
    exact ⟨m_4, hm_1, F_24, IntKind.wrap .i64 (x_8 + 1), b_6.plain.b, v_21, cs_18, eL_2, s, rfl, hc_24, hi_7⟩
   ·refine (cond_neg hc_20).2 ?_
    replace hp := (Pl.ite_neg hc_20).1 hp
    refine oBin_add.2 ?_
    replace s := Sf.dropAt 2 rfl s
    obtain ⟨m_5, hm_2, hi_8⟩ := hp
    exact ⟨m_5, hm_2, F_20, IntKind.wrap .i64 (x_2 + 1), l_5, v_18, cs_15, eL, s, rfl, hc_19, hi_8⟩
 ·refine (cond_neg hc_3).2 ?_
  replace hp := (Pl.ite_neg hc_3).1 hp
  exact ⟨F_3, (⟨(⟨l_1⟩ : T_code_plain)⟩ : T_code_Writer), v_3, cs_2, e0, s, trivial, hc_2, hp⟩

/-- slices.Clone[[]byte,byte] -/
def g_slices_Clone_byte_byte (v0 : Value) (h : Heap) (R : Value → Heap → Prop) : Prop :=
 oBin Try.prog .eql 22 (.tmp 3) (.const (.slice none 0 0)) v0 (.slice none 0 0) fun t4 =>
 cond t4
  (R (.slice none 0 0) h)
  (oBuildSlice Try.prog 22 0 #[] h fun t5 h => 
  oAppend Try.prog #[22, 22] 22 #[t5, v0] h fun t7 h_1 => 
  R t7 h_1)

theorem sh_slices_Clone_byte_byte {v0 : Value} {h : Heap} {R : Value → Heap → Prop} (hg : g_slices_Clone_byte_byte v0 h R) : HC Try.prog 35 #[v0] h R := hc_shal [] Try.func35 (by kernel_rfl) hg

set_option maxRecDepth 20000 in
set_option maxHeartbeats 4000000 in
theorem w_slices_Clone_byte_byte {F : Vw} {h : Heap} {M : List HP} {a0 : List Int} {v : Value} {R : (List Int) → Prop} (s : Sf F h (M)) (r : RL (eI .u8) F v a0) (hp : p_slices_Clone_byte_byte a0 R) :
  HC Try.prog 35 #[v] h fun u h' => ∃ (F' : Vw) (r_0 : List Int) (z0_0 : Value), Le F F' ∧ Sf F' h' (M) ∧ z0_0 = u ∧ RL (eI .u8) F' z0_0 r_0 ∧ R r_0 := by
 refine sh_slices_Clone_byte_byte ?_
 unfold g_slices_Clone_byte_byte
 unfold p_slices_Clone_byte_byte at hp
 have e0 := Le.refl F
 obtain ⟨b, hb, hK⟩ := oNilSl_eqlR (P := Try.prog) (t := 22) (l := a0) r.nilLen rfl
 refine hK ?_
 replace hp := hp b hb
 by_cases hc : b = true
 ·refine (cond_tt hc).2 ?_
  replace hp := (Pl.ite_pos hc).1 hp
  exact ⟨F, ([] : List Int), (.slice none 0 0), e0, s, rfl, (RL.nil _ _ 0), hp⟩
 ·refine (cond_ff hc).2 ?_
  replace hp := (Pl.ite_neg hc).1 hp
  refine tBuildN s (e := (eI .u8)) (l := ([] : List Int)) [] rfl trivial rfl rfl rfl (Nat.le_of_ble_eq_true rfl) fun v_1 h_1 cs hc_1 s => ?_
  obtain ⟨hb_1, l, hl, hp⟩ := hp
  refine tApp 0 rfl s hc_1 rfl rfl (by decide) (Sf.rlE s r) hb_1 hl fun v_2 h_2 cs_1 hc_2 s => ?_
  obtain ⟨F_1, g, s, r_1⟩ := Sf.freezeRL 0 rfl s rfl hc_2
  replace e0 := Le.trans e0 g
  exact ⟨F_1, l, v_2, e0, s, rfl, r_1, hp⟩

/-- augur/code.NewWriter -/
def g_code_NewWriter (h : Heap) (R : Value → Heap → Prop) : Prop :=
 oBuild Try.prog 61 #[] fun t1 =>
 oBox Try.prog 61 t1 h fun t2 h => 
 R t2 h

theorem sh_code_NewWriter {h : Heap} {R : Value → Heap → Prop} (hg : g_code_NewWriter  h R) : HC Try.prog 17 #[] h R := hc_shal [] Try.func17 (by kernel_rfl) hg

set_option maxRecDepth 20000 in
set_option maxHeartbeats 4000000 in
theorem w_code_NewWriter {F : Vw} {h : Heap} {M : List HP}  {R : T_code_Writer → Prop} (s : Sf F h (M))  (hp : p_code_NewWriter  R) :
  HC Try.prog 17 #[] h fun u h' => ∃ (F' : Vw) (r_0 : T_code_Writer) (q_0 : Addr) (z0_0 : Value) (y0_0 : List Value), Le F F' ∧ Sf F' h' (Ce (Cx.new q_0) [z0_0] :: Row 1 z0_0 (List.length r_0.plain.b) y0_0 :: M) ∧ (.pointer (some q_0)) = u ∧ CL (eI .u8) F' y0_0 r_0.plain.b ∧ R r_0 := by
 refine sh_code_NewWriter ?_
 unfold g_code_NewWriter
 unfold p_code_NewWriter at hp
 have e0 := Le.refl F
 refine oBuild_own (cells := #[(.slice none 0 0)]) rfl ?_
 refine tBx s (vs := [(.slice none 0 0)]) (by rfl) fun p h_1 s => ?_
 replace s := Sf.nilRow 1 s
 have hc := CL.nil (eI .u8) F
 replace s := Sf.front 0 rfl s
 replace s := Sf.front 1 rfl s
 exact ⟨F, (⟨(⟨([] : List Int)⟩ : T_code_plain)⟩ : T_code_Writer), p, (.slice none 0 0), [], e0, s, rfl, hc, hp⟩

/-- (*augur/code.plain).Bytes -/
def g_code_plain_Bytes (v0 : Value) (h : Heap) (R : Value → Heap → Prop) : Prop :=
 oNil Try.prog v0 fun t4 =>
 oFieldAddr Try.prog 59 t4 0 (Eq h) fun t5 =>
 oLoad Try.prog 22 t5 (Eq h) fun t6 =>
 oCall Try.prog (.func (.func 35) #[] #[]) #[t6] h fun t7 h => 
 R t7 h

theorem sh_code_plain_Bytes {v0 : Value} {h : Heap} {R : Value → Heap → Prop} (hg : g_code_plain_Bytes v0 h R) : HC Try.prog 19 #[v0] h R := hc_shal [] Try.func19 (by kernel_rfl) hg

set_option maxRecDepth 20000 in
set_option maxHeartbeats 4000000 in
theorem w_code_plain_Bytes {F : Vw} {h : Heap} {M : List HP} {a0 : T_code_plain} {y0 : Cx} {p0 : Addr} {v : Value} {cs : List Value} {R : (List Int) → Prop} (s : Sf F h (Ce y0 [v] :: Row 1 v (List.length a0.b) cs :: M)) (hy0 : y0.at p0) (hc : CL (eI .u8) F cs a0.b) (hp : p_code_plain_Bytes a0 R) :
  HC Try.prog 19 #[(.pointer (some p0))] h fun u h' => ∃ (F' : Vw) (r_0 : List Int) (z0_0 : Value), Le F F' ∧ Sf F' h' (M) ∧ z0_0 = u ∧ RL (eI .u8) F' z0_0 r_0 ∧ R r_0 := by
 refine sh_code_plain_Bytes ?_
 unfold g_code_plain_Bytes
 unfold p_code_plain_Bytes at hp
 have e0 := Le.refl F
 refine tNil (a := p0) (j := 0) (padd_zero _).symm ?_
 refine tFA (a := p0) (n := 0) (padd_zero _).symm (padd_zero _) ?_
 refine tLd (p := .pointer (some p0)) (cs := [v]) (j := 0) (padd_zero _).symm (Sf.ceE hy0 0 rfl s) rfl ?_
 obtain ⟨F_1, g, s, r⟩ := Sf.freezeRL 1 rfl s rfl hc
 replace e0 := Le.trans e0 g
 refine oCall_func (HC.mono (w_slices_Clone_byte_byte (a0 := a0.b) s r hp) ?_)
 rintro u h_1 ⟨F_2, r_1, v_1, g_1, s, rfl, r_2, hp⟩
 replace r := r.le g_1
 replace e0 := Le.trans e0 g_1
 replace s := Sf.dropAt 0 rfl s
 exact ⟨F_2, r_1, v_1, e0, s, rfl, r_2, hp⟩

/-- augur/digest.Bytes -/
def g_digest_Bytes (v0 : Value) (h : Heap) (R : Value → Heap → Prop) : Prop :=
 oBox Try.prog 33 v0 h fun t1 h => 
 oCall Try.prog (.func (.func 17) #[] #[]) #[] h fun t4 h_1 => 
 oLoad Try.prog 33 t1 (Eq h_1) fun t6 =>
 oBuildSlice Try.prog 71 1 #[(0, t6)] h_1 fun t7 h_2 => 
 oCall Try.prog (.func (.func 18) #[] #[]) #[t4, t7] h_2 fun t8 h_3 => 
 oNil Try.prog t4 fun t10 =>
 oFieldAddr Try.prog 61 t10 0 (Eq h_3) fun t11 =>
 oCall Try.prog (.func (.func 19) #[] #[]) #[t11] h_3 fun t12 h_4 => 
 oConvX Try.prog 22 9 t12 h_4 fun t13 h_5 => 
 R t13 h_5

theorem sh_digest_Bytes {v0 : Value} {h : Heap} {R : Value → Heap → Prop} (hg : g_digest_Bytes v0 h R) : HC Try.prog 7 #[v0] h R := hc_shal [] Try.func7 (by kernel_rfl) hg

set_option maxRecDepth 20000 in
set_option maxHeartbeats 4000000 in
theorem w_digest_Bytes {F : Vw} {h : Heap} {M : List HP} {a0 : T_api_Summary} {v : Value} {v_1 : Value} {R : Str → Prop} (s : Sf F h (M)) (r : RL e_api_Alarm F v a0.Alarms) (r_1 : RL e_api_Named F v_1 a0.Mod) (hp : p_digest_Bytes a0 R) :
  HC Try.prog 7 #[(.agg #[v, (.bool a0.Ends), (.bool a0.Ret.Some), (.int .i64 a0.Ret.Lo), (.int .i64 a0.Ret.Hi), v_1])] h fun u h' => ∃ (F' : Vw) (r_0 : Str), Le F F' ∧ Sf F' h' (M) ∧ (str r_0) = u ∧ R r_0 := by
 refine sh_digest_Bytes ?_
 unfold g_digest_Bytes
 unfold p_digest_Bytes at hp
 have e0 := Le.refl F
 refine tBx s (vs := [v, (.bool a0.Ends), (.bool a0.Ret.Some), (.int .i64 a0.Ret.Lo), (.int .i64 a0.Ret.Hi), v_1]) (by rfl) fun p h_1 s => ?_
 refine oCall_func (HC.mono (w_code_NewWriter  s  hp) ?_)
 rintro u h_2 ⟨F_1, r_2, p_1, v_2, cs, g, s, rfl, hc, hp⟩
 replace r := r.le g
 replace r_1 := r_1.le g
 replace e0 := Le.trans e0 g
 refine tLdA (a := p) (cs := [v, (.bool a0.Ends), (.bool a0.Ret.Some), (.int .i64 a0.Ret.Lo), (.int .i64 a0.Ret.Hi), v_1]) (ds := [v, (.bool a0.Ends), (.bool a0.Ret.Some), (.int .i64 a0.Ret.Lo), (.int .i64 a0.Ret.Hi), v_1]) (j := 0) (padd_zero _).symm (Sf.ceE (Cx.new_at p) 2 rfl s) (Nat.le_of_ble_eq_true rfl) rfl ?_
 refine tBuildN s (e := e_api_Summary) (l := [a0]) [(.agg #[v, (.bool a0.Ends), (.bool a0.Ret.Some), (.int .i64 a0.Ret.Lo), (.int .i64 a0.Ret.Hi), v_1])] rfl ⟨⟨_, _, rfl, r, r_1⟩, trivial⟩ rfl rfl rfl (Nat.le_of_ble_eq_true rfl) fun v_3 h_3 cs_1 hc_1 s => ?_
 obtain ⟨F_2, g_1, s, r_3⟩ := Sf.freezeRL 0 rfl s rfl hc_1
 replace hc := CL.le g_1 hc
 replace r := r.le g_1
 replace r_1 := r_1.le g_1
 replace e0 := Le.trans e0 g_1
 refine oCall_func (HC.mono (w_code_Writer_Summary (a0 := r_2) (a1 := [a0]) s (Cx.new_at p_1) hc r_3 hp) ?_)
 rintro u_1 h_4 ⟨F_3, b, v_4, cs_2, g_2, s, _, hc_2, hp⟩
 replace r_3 := r_3.le g_2
 replace r := r.le g_2
 replace r_1 := r_1.le g_2
 replace e0 := Le.trans e0 g_2
 refine tNil (a := p_1) (j := 0) (padd_zero _).symm ?_
 refine tFA (a := p_1) (n := 0) (padd_zero _).symm (padd_zero _) ?_
 refine oCall_func (HC.mono (w_code_plain_Bytes (a0 := b.plain) s (Cx.new_at p_1) hc_2 hp) ?_)
 rintro u_2 h_5 ⟨F_4, r_4, v_5, g_3, s, rfl, r_5, hp⟩
 replace r := r.le g_3
 replace r_1 := r_1.le g_3
 replace e0 := Le.trans e0 g_3
 obtain ⟨s_1, hs, hp⟩ := hp
 refine tStr hs s r_5 ?_
 replace s := Sf.dropAt 0 rfl s
 exact ⟨F_4, s_1, e0, s, rfl, hp⟩

/-- augur/digest.Bottom -/
def g_digest_Bottom (h : Heap) (R : Value → Heap → Prop) : Prop :=
 oAlloc Try.prog 33 h fun t0 h => 
 oBuild Try.prog 33 #[] fun t1 =>
 oStore Try.prog 33 t0 t1 h fun _ h_1 => 
 oRes Try.prog [(some 33, t0)] h_1 R

theorem sh_digest_Bottom {h : Heap} {R : Value → Heap → Prop} (hg : g_digest_Bottom  h R) : HC Try.prog 13 #[] h R := hc_shal [] Try.func13 (by kernel_rfl) hg

set_option maxRecDepth 20000 in
set_option maxHeartbeats 4000000 in
theorem w_digest_Bottom {F : Vw} {h : Heap} {M : List HP}  {R : T_api_Summary → Prop} (s : Sf F h (M))  (hp : p_digest_Bottom  R) :
  HC Try.prog 13 #[] h fun u h' => ∃ (F' : Vw) (r_0 : T_api_Summary) (z0_0 : Value) (z0_5 : Value), Le F F' ∧ Sf F' h' (M) ∧ (.agg #[z0_0, (.bool r_0.Ends), (.bool r_0.Ret.Some), (.int .i64 r_0.Ret.Lo), (.int .i64 r_0.Ret.Hi), z0_5]) = u ∧ RL e_api_Alarm F' z0_0 r_0.Alarms ∧ RL e_api_Named F' z0_5 r_0.Mod ∧ R r_0 := by
 refine sh_digest_Bottom ?_
 unfold g_digest_Bottom
 unfold p_digest_Bottom at hp
 have e0 := Le.refl F
 refine tAl s (vs := [(.slice none 0 0), (.bool false), (.bool false), (.int .i64 0), (.int .i64 0), (.slice none 0 0)]) (by rfl) fun p h_1 s => ?_
 refine oBuild_own (cells := #[(.slice none 0 0), (.bool false), (.bool false), (.int .i64 0), (.int .i64 0), (.slice none 0 0)]) rfl ?_
 refine tSt (cs := [(.slice none 0 0), (.bool false), (.bool false), (.int .i64 0), (.int .i64 0), (.slice none 0 0)]) (vs := [(.slice none 0 0), (.bool false), (.bool false), (.int .i64 0), (.int .i64 0), (.slice none 0 0)]) (cs' := [(.slice none 0 0), (.bool false), (.bool false), (.int .i64 0), (.int .i64 0), (.slice none 0 0)]) (j := 0) 0 rfl s (Cx.new_at p) (padd_zero _).symm (by rfl) rfl (Nat.le_of_ble_eq_true rfl) (ones_cons rfl (ones_cons rfl (ones_cons rfl (ones_cons rfl (ones_cons rfl (ones_cons rfl ones_nil)))))) rfl fun h_2 s => ?_
 refine oResA (cs := [(.slice none 0 0), (.bool false), (.bool false), (.int .i64 0), (.int .i64 0), (.slice none 0 0)]) (Sf.ceE (Cx.new_at p) 0 rfl s _ rfl) ⟨_, rfl⟩ rfl ?_
 replace s := Sf.dropAt 0 rfl s
 exact ⟨F, (⟨([] : List T_api_Alarm), false, (⟨false, 0, 0⟩ : T_api_Ival), ([] : List T_api_Named)⟩ : T_api_Summary), (.slice none 0 0), (.slice none 0 0), e0, s, rfl, (RL.nil _ _ 0), (RL.nil _ _ 0), hp⟩

end Go.Proofs.Ytaibfbakhiainaa

namespace Go.Proofs.Ytaibfbakhiainaa.Old
open Go Go.Sh
variable [Gd]
set_option maxRecDepth 100000
attribute [local irreducible] Go.wpQuiet Go.wpList Go.Sh.mixL Go.Sh.mixF Go.Sh.wpAnyE Go.Code.wp

/-- augur/augurhelp.Alarms -/
def g_augurhelp_Alarms (v0 v1 : Value) (h : Heap) (R : Value → Heap → Prop) : Prop :=
 oLen Try.prog #[28] 3 v0 fun t7 =>
 oLen Try.prog #[28] 3 v1 fun t9 =>
 oBin Try.prog .neq 3 (.tmp 7) (.tmp 9) t7 t9 fun t10 =>
 cond t10
  (R (.bool false) h)
  (loop1 (.int .i64 0) h fun x5 h next =>
  oLen Try.prog #[28] 3 v0 fun t13 =>
  oBin Try.prog .lss 3 (.tmp 11) (.tmp 13) x5 t13 fun t14 =>
  cond t14
   (oIdx Try.prog 28 v0 x5 fun t19 =>
   oLoad Try.prog 46 t19 (Eq h) fun t20 =>
   oIdx Try.prog 28 v1 x5 fun t23 =>
   oLoad Try.prog 46 t23 (Eq h) fun t24 =>
   oBin Try.prog .neq 46 (.tmp 20) (.tmp 24) t20 t24 fun t25 =>
   cond t25
   (R (.bool false) h)
   (oBin Try.prog .add 3 (.tmp 15) (.const (.int .i64 1)) x5 (.int .i64 1) fun t16 =>
   next t16 h))
   (R (.bool true) h))

theorem sh_augurhelp_Alarms {v0 v1 : Value} {h : Heap} {R : Value → Heap → Prop} (hg : g_augurhelp_Alarms v0 v1 h R) : HC Try.prog 22 #[v0, v1] h R := hc_shal [] Try.func22 (by kernel_rfl) hg

/-- augur/augurref12.Norm -/
def g_augurref12_Norm (v0 : Value) (h : Heap) (R : Value → Heap → Prop) : Prop :=
 oBox Try.prog 30 v0 h fun t1 h => 
 oAlloc Try.prog 30 h fun t2 h_1 => 
 oFieldAddr Try.prog 30 t1 0 (Eq h_1) fun t3 =>
 oLoad Try.prog 4 t3 (Eq h_1) fun t4 =>
 oUn Try.prog .not t4 fun t5 =>
 join (fun (x11 : Value)  =>
  oPick Try.prog t5 (.bool true) x11 fun t12 =>
  cond t12
  (oBuild Try.prog 30 #[] fun t13 =>
  oStore Try.prog 30 t2 t13 h_1 fun _ h_2 => 
  oRes Try.prog [(some 30, t2)] h_2 R)
  (oLoad Try.prog 30 t1 (Eq h_1) fun t14 =>
  oStore Try.prog 30 t2 t14 h_1 fun _ h_3 => 
  oRes Try.prog [(some 30, t2)] h_3 R))
  fun k =>
 cond t5
  (k undef)
  (oFieldAddr Try.prog 30 t1 1 (Eq h_1) fun t7 =>
  oLoad Try.prog 2 t7 (Eq h_1) fun t8 =>
  oFieldAddr Try.prog 30 t1 2 (Eq h_1) fun t9 =>
  oLoad Try.prog 2 t9 (Eq h_1) fun t10 =>
  oBin Try.prog .gtr 2 (.tmp 8) (.tmp 10) t8 t10 fun t11 =>
  k t11)

theorem sh_augurref12_Norm {v0 : Value} {h : Heap} {R : Value → Heap → Prop} (hg : g_augurref12_Norm v0 h R) : HC Try.prog 29 #[v0] h R := hc_shal [] Try.func29 (by kernel_rfl) hg

/-- augur/augurref12.Of -/
def g_augurref12_Of (v0 v1 : Value) (h : Heap) (R : Value → Heap → Prop) : Prop :=
 oAlloc Try.prog 30 h fun t4 h => 
 oBuild Try.prog 30 #[(0, (.bool true)), (1, v0), (2, v1)] fun t7 =>
 oCall Try.prog (.func (.func 29) #[] #[]) #[t7] h fun t8 h_1 => 
 oStore Try.prog 30 t4 t8 h_1 fun _ h_2 => 
 oRes Try.prog [(some 30, t4)] h_2 R

theorem sh_augurref12_Of {v0 v1 : Value} {h : Heap} {R : Value → Heap → Prop} (hg : g_augurref12_Of v0 v1 h R) : HC Try.prog 15 #[v0, v1] h R := hc_shal [] Try.func15 (by kernel_rfl) hg

/-- cmp.Compare[int] -/
def g_cmp_Compare_int (v0 v1 : Value) (h : Heap) (R : Value → Heap → Prop) : Prop :=
 oCall Try.prog (.func (.func 64) #[] #[]) #[v0] h fun t8 h => 
 oCall Try.prog (.func (.func 64) #[] #[]) #[v1] h fun t10 h_1 => 
 cond t8
  (cond t10
  (R (.int .i64 0) h_1)
  (R (.int .i64 (-1)) h_1))
  (cond t10
  (R (.int .i64 1) h_1)
  (oBin Try.prog .lss 3 (.tmp 14) (.tmp 15) v0 v1 fun t16 =>
  cond t16
   (R (.int .i64 (-1)) h_1)
   (oBin Try.prog .gtr 3 (.tmp 17) (.tmp 18) v0 v1 fun t19 =>
   cond t19
   (R (.int .i64 1) h_1)
   (R (.int .i64 0) h_1))))

theorem sh_cmp_Compare_int {v0 v1 : Value} {h : Heap} {R : Value → Heap → Prop} (hg : g_cmp_Compare_int v0 v1 h R) : HC Try.prog 47 #[v0, v1] h R := hc_shal [] Try.func47 (by kernel_rfl) hg

/-- cmp.Or[int] -/
def g_cmp_Or_int (v0 : Value) (h : Heap) (R : Value → Heap → Prop) : Prop :=
 oLen Try.prog #[119] 3 v0 fun t7 =>
 loop1 (.int .i64 0) h fun x8 h next =>
  oBin Try.prog .lss 3 (.tmp 8) (.tmp 7) x8 t7 fun t9 =>
  cond t9
  (oIdx Try.prog 119 v0 x8 fun t10 =>
  oLoad Try.prog 3 t10 (Eq h) fun t11 =>
  oBin Try.prog .neq 3 (.tmp 12) (.tmp 13) t11 (.int .i64 0) fun t14 =>
  cond t14
   (R t11 h)
   (oBin Try.prog .add 3 (.tmp 8) (.const (.int .i64 1)) x8 (.int .i64 1) fun t16 =>
   next t16 h))
  (R (.int .i64 0) h)

theorem sh_cmp_Or_int {v0 : Value} {h : Heap} {R : Value → Heap → Prop} (hg : g_cmp_Or_int v0 h R) : HC Try.prog 46 #[v0] h R := hc_shal [] Try.func46 (by kernel_rfl) hg

/-- cmp.isNaN[int] -/
def g_cmp_isNaN_int (v0 : Value) (h : Heap) (R : Value → Heap → Prop) : Prop :=
 oBin Try.prog .neq 3 (.tmp 3) (.tmp 4) v0 v0 fun t5 =>
 R t5 h

theorem sh_cmp_isNaN_int {v0 : Value} {h : Heap} {R : Value → Heap → Prop} (hg : g_cmp_isNaN_int v0 h R) : HC Try.prog 64 #[v0] h R := hc_shal [] Try.func64 (by kernel_rfl) hg

/-- augur/digest.Join$1 -/
def g_digest_Join_1 (v0 v1 : Value) (h : Heap) (R : Value → Heap → Prop) : Prop :=
 oBox Try.prog 30 v0 h fun t2 h => 
 oBox Try.prog 30 v1 h fun t3 h_1 => 
 oAlloc Try.prog 30 h_1 fun t4 h_2 => 
 oLoad Try.prog 30 t2 (Eq h_2) fun t5 =>
 oLoad Try.prog 30 t3 (Eq h_2) fun t6 =>
 oBuildSlice Try.prog 84 2 #[(0, t5), (1, t6)] h_2 fun t7 h_3 => 
 oCall Try.prog (.func (.func 25) #[] #[]) #[t7] h_3 fun t8 h_4 => 
 oStore Try.prog 30 t4 t8 h_4 fun _ h_5 => 
 oRes Try.prog [(some 30, t4)] h_5 R

theorem sh_digest_Join_1 {v0 v1 : Value} {h : Heap} {R : Value → Heap → Prop} (hg : g_digest_Join_1 v0 v1 h R) : HC Try.prog 24 #[v0, v1] h R := hc_shal [] Try.func24 (by kernel_rfl) hg

/-- augur/digest.Same -/
def g_digest_Same (v0 v1 : Value) (h : Heap) (R : Value → Heap → Prop) : Prop :=
 oBox Try.prog 33 v0 h fun t2 h => 
 oBox Try.prog 33 v1 h fun t3 h_1 => 
 oFieldAddr Try.prog 33 t2 1 (Eq h_1) fun t5 =>
 oLoad Try.prog 4 t5 (Eq h_1) fun t6 =>
 oFieldAddr Try.prog 33 t3 1 (Eq h_1) fun t7 =>
 oLoad Try.prog 4 t7 (Eq h_1) fun t8 =>
 oBin Try.prog .eql 4 (.tmp 6) (.tmp 8) t6 t8 fun t9 =>
 join (fun (x15 : Value)  =>
  oPick Try.prog t9 x15 (.bool false) fun t16 =>
  join (fun (x22 : Value) (h_2 : Heap) =>
  oPick Try.prog t16 x22 (.bool false) fun t23 =>
  join (fun (x29 : Value) (h_3 : Heap) =>
   oPick Try.prog t23 x29 (.bool false) fun t30 =>
   R t30 h_3)
   fun k_2 =>
  cond t23
   (oFieldAddr Try.prog 33 t2 3 (Eq h_2) fun t25 =>
   oLoad Try.prog 31 t25 (Eq h_2) fun t26 =>
   oFieldAddr Try.prog 33 t3 3 (Eq h_2) fun t27 =>
   oLoad Try.prog 31 t27 (Eq h_2) fun t28 =>
   oCall Try.prog (.func (.func 21) #[] #[]) #[t26, t28] h_2 fun t29 h_4 => 
   k_2 t29 h_4)
   (k_2 undef h_2))
  fun k_1 =>
  cond t16
  (oFieldAddr Try.prog 33 t2 0 (Eq h_1) fun t18 =>
  oLoad Try.prog 28 t18 (Eq h_1) fun t19 =>
  oFieldAddr Try.prog 33 t3 0 (Eq h_1) fun t20 =>
  oLoad Try.prog 28 t20 (Eq h_1) fun t21 =>
  oCall Try.prog (.func (.func 20) #[] #[]) #[t19, t21] h_1 fun t22 h_5 => 
  k_1 t22 h_5)
  (k_1 undef h_1))
  fun k =>
 cond t9
  (oFieldAddr Try.prog 33 t2 2 (Eq h_1) fun t11 =>
  oLoad Try.prog 30 t11 (Eq h_1) fun t12 =>
  oFieldAddr Try.prog 33 t3 2 (Eq h_1) fun t13 =>
  oLoad Try.prog 30 t13 (Eq h_1) fun t14 =>
  oBin Try.prog .eql 30 (.tmp 12) (.tmp 14) t12 t14 fun t15 =>
  k t15)
  (k undef)

theorem sh_digest_Same {v0 v1 : Value} {h : Heap} {R : Value → Heap → Prop} (hg : g_digest_Same v0 v1 h R) : HC Try.prog 8 #[v0, v1] h R := hc_shal [] Try.func8 (by kernel_rfl) hg

/-- (*augur/digest.digest).alarms -/
def g_digest_digest_alarms (v0 v1 v2 : Value) (h : Heap) (R : Value → Heap → Prop) : Prop :=
 oBuildSlice Try.prog 115 2 #[(0, v1), (1, v2)] h fun t9 h => 
 oCall Try.prog (.func (.func 43) #[] #[]) #[t9] h fun t10 h_1 => 
 oCall Try.prog (.func (.func 44) #[] #[]) #[t10, (.func (.func 45) #[] #[])] h_1 fun t12 h_2 => 
 oCall Try.prog (.func (.func 48) #[] #[]) #[t10] h_2 fun t15 h_3 => 
 oNil Try.prog v0 fun t16 =>
 oFieldAddr Try.prog 81 t16 0 (Eq h_3) fun t17 =>
 oFieldAddr Try.prog 33 t17 0 (Eq h_3) fun t18 =>
 oStore Try.prog 28 t18 t15 h_3 fun _ h_4 => 
 R (.tuple #[]) h_4

theorem sh_digest_digest_alarms {v0 v1 v2 : Value} {h : Heap} {R : Value → Heap → Prop} (hg : g_digest_digest_alarms v0 v1 v2 h R) : HC Try.prog 36 #[v0, v1, v2] h R := hc_shal [] Try.func36 (by kernel_rfl) hg

/-- (*augur/digest.digest).alarms$1 -/
def g_digest_digest_alarms_1 (v0 v1 : Value) (h : Heap) (R : Value → Heap → Prop) : Prop :=
 oBox Try.prog 46 v0 h fun t2 h => 
 oBox Try.prog 46 v1 h fun t3 h_1 => 
 join (fun (x4 : Value) (h_2 : Heap) =>
  R x4 h_2)
  fun k =>
  oFieldAddr Try.prog 46 t2 0 (Ext h_1) fun t5 =>
  oLoad Try.prog 3 t5 (Ext h_1) fun t6 =>
  oFieldAddr Try.prog 46 t3 0 (Ext h_1) fun t7 =>
  oLoad Try.prog 3 t7 (Ext h_1) fun t8 =>
  oFieldAddr Try.prog 46 t2 1 (Ext h_1) fun t10 =>
  oLoad Try.prog 3 t10 (Ext h_1) fun t11 =>
  oFieldAddr Try.prog 46 t3 1 (Ext h_1) fun t12 =>
  oLoad Try.prog 3 t12 (Ext h_1) fun t13 =>
  oCall Try.prog (.func (.func 47) #[] #[]) #[t6, t8] h_1 fun t9 h_3 => Ext h_1 h_3 ∧
  oCall Try.prog (.func (.func 47) #[] #[]) #[t11, t13] h_3 fun t14 h_4 => Ext h_3 h_4 ∧
  oBuildSlice Try.prog 119 2 #[(0, t9), (1, t14)] h_4 fun t15 h_5 => Ext h_4 h_5 ∧
  oCall Try.prog (.func (.func 46) #[] #[]) #[t15] h_5 fun t16 h_6 => Ext h_5 h_6 ∧
  k t16 h_6

set_option maxRecDepth 100000 in
set_option maxHeartbeats 2000000 in
theorem sh_digest_digest_alarms_1 {v0 v1 : Value} {h : Heap} {R : Value → Heap → Prop} (hg : g_digest_digest_alarms_1 v0 v1 h R) : HC Try.prog 45 #[v0, v1] h R := by
 refine hc_of_wp (n := 17) (f := ovr [(0, v0), (1, v1)] fun _ => undef) Try.func45 rfl rfl (by kernel_rfl) (fun w hw => ?_)
 have hs := SameW.refl w
 unfold g_digest_digest_alarms_1 at hg
 refine wp_seq ?_
 refine region_seq ?_
 refine sX rfl (by exact hg) hw rfl rfl hs fun t2 h wh hw hs hg => ?_
 refine sX rfl (by exact hg) hw rfl rfl hs fun t3 h_1 wh_1 hw hs hg => ?_
 refine sA (.int .i64 0) rfl rfl rfl rfl ?_
 refine stepEnd ?_
 refine thenN ?_
 refine wp_seq ?_
 obtain ⟨k, hk, hg⟩ := join_elim hg
 refine region_exp_k (by kernel_rfl) (by repeat (first | exact panicOk_base | apply panicOk_then | apply panicOk_blk)) (fun K_k hK_k hpok hpn wm hs1 hw1 => ?_)
 have hj_k : ∀ (x4 : Value) (h_2 : Heap) (w' : World), w'.heap = h_2 → SameW w w' → k x4 h_2 → ∀ f, K_k .normal (mk 17 (ovr [(4, x4)] f)) w' := by
  intro x4 h_2 wj hw hs hg f
  rw [hk] at hg
  refine hK_k _ _ ?_
  refine thenN ?_
  refine wp_ret ?_
  exact post_ret (res_tmp Try.results45 rfl rfl) (.inl ⟨_, rfl, hs, by rw [hw]; exact hg⟩)
 have hw := hw1.trans hw
 have hs := hs.trans hs1
 clear hs1 hw1 hk hK_k
 refine expQ (i := 0) rfl (by kernel_rfl) (show _ = #[true, false, false, false, false, false, false, false, false, false, false, false, false] from rfl) hpok rfl (by exact hg) hw (wanted_none rfl) rfl (fun t5 hg => ?_)
 refine expQ (i := 1) rfl (by kernel_rfl) (show _ = #[true, true, false, false, false, false, false, false, false, false, false, false, false] from rfl) hpok rfl (by exact hg) hw (wanted_none rfl) rfl (fun t6 hg => ?_)
 refine expQ (i := 2) rfl (by kernel_rfl) (show _ = #[true, true, true, false, false, false, false, false, false, false, false, false, false] from rfl) hpok rfl (by exact hg) hw (wanted_none rfl) rfl (fun t7 hg => ?_)
 refine expQ (i := 3) rfl (by kernel_rfl) (show _ = #[true, true, true, true, false, false, false, false, false, false, false, false, false] from rfl) hpok rfl (by exact hg) hw (wanted_none rfl) rfl (fun t8 hg => ?_)
 refine expQ (i := 5) rfl (by kernel_rfl) (show _ = #[true, true, true, true, false, true, false, false, false, false, false, false, false] from rfl) hpok rfl (by exact hg) hw (wanted_none rfl) rfl (fun t10 hg => ?_)
 refine expQ (i := 6) rfl (by kernel_rfl) (show _ = #[true, true, true, true, false, true, true, false, false, false, false, false, false] from rfl) hpok rfl (by exact hg) hw (wanted_none rfl) rfl (fun t11 hg => ?_)
 refine expQ (i := 7) rfl (by kernel_rfl) (show _ = #[true, true, true, true, false, true, true, true, false, false, false, false, false] from rfl) hpok rfl (by exact hg) hw (wanted_none rfl) rfl (fun t12 hg => ?_)
 refine expQ (i := 8) rfl (by kernel_rfl) (show _ = #[true, true, true, true, false, true, true, true, true, false, false, false, false] from rfl) hpok rfl (by exact hg) hw (wanted_none rfl) rfl (fun t13 hg => ?_)
 refine expAll1 4 (by kernel_rfl) ?_
 refine expX (i := 4) rfl (show _ = #[true, true, true, true, true, true, true, true, true, false, false, false, false] from rfl) (ex_call rfl) (by exact hg) hw (wanted_none rfl) rfl (fun t9 h_3 wh_3 hw hs1 hg => ?_)
 have hs := hs.trans hs1
 refine expAll1 9 (by kernel_rfl) ?_
 refine expX (i := 9) rfl (show _ = #[true, true, true, true, true, true, true, true, true, true, false, false, false] from rfl) (ex_call rfl) (by exact hg) hw (wanted_none rfl) rfl (fun t14 h_4 wh_4 hw hs1 hg => ?_)
 have hs := hs.trans hs1
 refine expAll1 10 (by kernel_rfl) ?_
 refine expX (i := 10) rfl (show _ = #[true, true, true, true, true, true, true, true, true, true, true, false, false] from rfl) (ex_buildSlice rfl) (by exact hg) hw (wanted_none rfl) rfl (fun t15 h_5 wh_5 hw hs1 hg => ?_)
 have hs := hs.trans hs1
 refine expAll1 11 (by kernel_rfl) ?_
 refine expX (i := 11) rfl (show _ = #[true, true, true, true, true, true, true, true, true, true, true, true, false] from rfl) (ex_call rfl) (by exact hg) hw (wanted_none rfl) rfl (fun t16 h_6 wh_6 hw hs1 hg => ?_)
 have hs := hs.trans hs1
 refine expM (v := t16) (i := 12) rfl (by kernel_rfl) (show _ = #[true, true, true, true, true, true, true, true, true, true, true, true, true] from rfl) hpok (by first | exact .inl rfl | exact .inr rfl) (wanted_none rfl) rfl rfl ?_
 refine expEnd (by kernel_rfl) ?_
 exact at_ovrN (hj_k t16 h_6 _ hw hs hg) ⟨rfl, trivial⟩

/-- (*augur/digest.digest).cells -/
def g_digest_digest_cells (v0 v1 v2 v3 : Value) (h : Heap) (R : Value → Heap → Prop) : Prop :=
 oCall Try.prog (.func (.func 49) #[] #[]) #[v1] h fun t14 h => 
 oCall Try.prog (.func (.func 49) #[] #[]) #[v2] h fun t16 h_1 => 
 oCall Try.prog (.func (.func 52) #[] #[]) #[t14] h_1 fun t18 h_2 => 
 oCall Try.prog (.func (.func 51) #[] #[]) #[t18] h_2 fun t19 h_3 => 
 oCall Try.prog (.func (.func 52) #[] #[]) #[t16] h_3 fun t21 h_4 => 
 oCall Try.prog (.func (.func 51) #[] #[]) #[t21] h_4 fun t22 h_5 => 
 oBuildSlice Try.prog 122 2 #[(0, t19), (1, t22)] h_5 fun t23 h_6 => 
 oCall Try.prog (.func (.func 50) #[] #[]) #[t23] h_6 fun t24 h_7 => 
 oCall Try.prog (.func (.func 53) #[] #[]) #[t24] h_7 fun t26 h_8 => 
 oCall Try.prog (.func (.func 54) #[] #[]) #[t24] h_8 fun t28 h_9 => 
 oLen Try.prog #[48] 3 t28 fun t29 =>
 loop1 (.int .i64 0) h_9 fun x30 h_10 next =>
  oBin Try.prog .lss 3 (.tmp 30) (.tmp 29) x30 t29 fun t31 =>
  cond t31
  (oIdx Try.prog 48 t28 x30 fun t32 =>
  oLoad Try.prog 9 t32 (Eq h_10) fun t33 =>
  drawn h_10 fun D =>
  oNil Try.prog v0 fun t36 =>
  oFieldAddr Try.prog 81 t36 0 D fun t37 =>
  oFieldAddr Try.prog 33 t37 3 D fun t38 =>
  oLoad Try.prog 31 t38 D fun t39 =>
  oLook Try.prog 103 t14 t33 false D fun t44 =>
  oLook Try.prog 103 t16 t33 false D fun t47 =>
  oCall Try.prog v3 #[t44, t47] h_10 fun t48 h_11 => D h_11 ∧ 
  oBuild Try.prog 53 #[(0, t33), (1, t48)] fun t49 =>
  oBuildSlice Try.prog 31 1 #[(0, t49)] h_11 fun t50 h_12 => D h_12 ∧ 
  oAppend Try.prog #[31, 31] 31 #[t39, t50] h_12 fun t51 h_13 => D h_13 ∧ 
  oNil Try.prog v0 fun t52 =>
  oFieldAddr Try.prog 81 t52 0 D fun t53 =>
  oFieldAddr Try.prog 33 t53 3 D fun t54 =>
  oStore Try.prog 31 t54 t51 h_13 fun _ h_14 => 
  oBin Try.prog .add 3 (.tmp 30) (.const (.int .i64 1)) x30 (.int .i64 1) fun t55 =>
  next t55 h_14)
  (R (.tuple #[]) h_10)

theorem sh_digest_digest_cells {v0 v1 v2 v3 : Value} {h : Heap} {R : Value → Heap → Prop} (hg : g_digest_digest_cells v0 v1 v2 v3 h R) : HC Try.prog 37 #[v0, v1, v2, v3] h R := hc_shal [(6, .mix 21)] Try.func37 (by kernel_rfl) hg

/-- augur/digest.index -/
def g_digest_index (v0 : Value) (h : Heap) (R : Value → Heap → Prop) : Prop :=
 oMkMap Try.prog 103 none h fun t8 h => 
 oLen Try.prog #[31] 3 v0 fun t10 =>
 loop1 (.int .i64 0) h fun x11 h_1 next =>
  oBin Try.prog .lss 3 (.tmp 11) (.tmp 10) x11 t10 fun t12 =>
  cond t12
  (join (fun (h_2 : Heap) =>
   oBin Try.prog .add 3 (.tmp 11) (.const (.int .i64 1)) x11 (.int .i64 1) fun t29 =>
   next t29 h_2)
   fun k =>
   oIdx Try.prog 31 v0 x11 fun t13 =>
   oLoad Try.prog 53 t13 (Eq h_1) fun t14 =>
   oAlloc Try.prog 53 h_1 fun t5 h_3 => 
   oStore Try.prog 53 t5 t14 h_3 fun _ h_4 => 
   oFieldAddr Try.prog 53 t5 0 (Eq h_4) fun t17 =>
   oLoad Try.prog 9 t17 (Eq h_4) fun t18 =>
   oLook Try.prog 103 t8 t18 true (Eq h_4) fun t19 =>
   oExt Try.prog t19 0 fun t20 =>
   oExt Try.prog t19 1 fun t21 =>
   oAlloc Try.prog 30 h_4 fun t6 h_5 => 
   oStore Try.prog 30 t6 t20 h_5 fun _ h_6 => 
   oUn Try.prog .not t21 fun t23 =>
   cond t23
   (oFieldAddr Try.prog 53 t5 0 (Eq h_6) fun t25 =>
   oLoad Try.prog 9 t25 (Eq h_6) fun t26 =>
   oFieldAddr Try.prog 53 t5 1 (Eq h_6) fun t27 =>
   oLoad Try.prog 30 t27 (Eq h_6) fun t28 =>
   oUpd Try.prog 103 t8 t26 t28 h_6 fun _ h_7 => 
   k h_7)
   (k h_6))
  (R t8 h_1)

theorem sh_digest_index {v0 : Value} {h : Heap} {R : Value → Heap → Prop} (hg : g_digest_index v0 h R) : HC Try.prog 49 #[v0] h R := hc_shal [] Try.func49 (by kernel_rfl) hg

/-- augur/ival.Empty -/
def g_ival_Empty (h : Heap) (R : Value → Heap → Prop) : Prop :=
 oAlloc Try.prog 30 h fun t0 h => 
 oBuild Try.prog 30 #[] fun t1 =>
 oStore Try.prog 30 t0 t1 h fun _ h_1 => 
 oRes Try.prog [(some 30, t0)] h_1 R

theorem sh_ival_Empty {h : Heap} {R : Value → Heap → Prop} (hg : g_ival_Empty  h R) : HC Try.prog 38 #[] h R := hc_shal [] Try.func38 (by kernel_rfl) hg

/-- augur/ival.Join -/
def g_ival_Join (v0 : Value) (h : Heap) (R : Value → Heap → Prop) : Prop :=
 oAlloc Try.prog 30 h fun t2 h => 
 oCall Try.prog (.func (.func 38) #[] #[]) #[] h fun t6 h_1 => 
 oAlloc Try.prog 30 h_1 fun t3 h_2 => 
 oStore Try.prog 30 t3 t6 h_2 fun _ h_3 => 
 oLen Try.prog #[84] 3 v0 fun t8 =>
 loop1 (.int .i64 0) h_3 fun x9 h_4 next =>
  oBin Try.prog .lss 3 (.tmp 9) (.tmp 8) x9 t8 fun t10 =>
  cond t10
  (join (fun (h_5 : Heap) =>
   oBin Try.prog .add 3 (.tmp 9) (.const (.int .i64 1)) x9 (.int .i64 1) fun t36 =>
   next t36 h_5)
   fun k =>
   oIdx Try.prog 84 v0 x9 fun t11 =>
   oLoad Try.prog 30 t11 (Eq h_4) fun t12 =>
   oAlloc Try.prog 30 h_4 fun t5 h_6 => 
   oStore Try.prog 30 t5 t12 h_6 fun _ h_7 => 
   oLoad Try.prog 30 t5 (Eq h_7) fun t25 =>
   oCall Try.prog (.func (.func 39) #[] #[]) #[t25] h_7 fun t26 h_8 => 
   cond t26
   (k h_8)
   (oFieldAddr Try.prog 30 t3 0 (Eq h_8) fun t28 =>
   oLoad Try.prog 4 t28 (Eq h_8) fun t29 =>
   oUn Try.prog .not t29 fun t30 =>
   cond t30
    (oFieldAddr Try.prog 30 t5 1 (Eq h_8) fun t31 =>
    oLoad Try.prog 2 t31 (Eq h_8) fun t32 =>
    oFieldAddr Try.prog 30 t5 2 (Eq h_8) fun t33 =>
    oLoad Try.prog 2 t33 (Eq h_8) fun t34 =>
    oCall Try.prog (.func (.func 40) #[] #[]) #[t32, t34] h_8 fun t35 h_9 => 
    oStore Try.prog 30 t3 t35 h_9 fun _ h_10 => 
    k h_10)
    (oFieldAddr Try.prog 30 t3 1 (Eq h_8) fun t13 =>
    oLoad Try.prog 2 t13 (Eq h_8) fun t14 =>
    oFieldAddr Try.prog 30 t5 1 (Eq h_8) fun t15 =>
    oLoad Try.prog 2 t15 (Eq h_8) fun t16 =>
    oMin Try.prog #[2, 2] 2 #[t14, t16] fun t17 =>
    oFieldAddr Try.prog 30 t3 2 (Eq h_8) fun t18 =>
    oLoad Try.prog 2 t18 (Eq h_8) fun t19 =>
    oFieldAddr Try.prog 30 t5 2 (Eq h_8) fun t20 =>
    oLoad Try.prog 2 t20 (Eq h_8) fun t21 =>
    oMax Try.prog #[2, 2] 2 #[t19, t21] fun t22 =>
    oCall Try.prog (.func (.func 40) #[] #[]) #[t17, t22] h_8 fun t23 h_11 => 
    oStore Try.prog 30 t3 t23 h_11 fun _ h_12 => 
    k h_12)))
  (oLoad Try.prog 30 t3 (Eq h_4) fun t37 =>
  oStore Try.prog 30 t2 t37 h_4 fun _ h_13 => 
  oRes Try.prog [(some 30, t2)] h_13 R)

theorem sh_ival_Join {v0 : Value} {h : Heap} {R : Value → Heap → Prop} (hg : g_ival_Join v0 h R) : HC Try.prog 25 #[v0] h R := hc_shal [] Try.func25 (by kernel_rfl) hg

/-- augur/ival.Of -/
def g_ival_Of (v0 v1 : Value) (h : Heap) (R : Value → Heap → Prop) : Prop :=
 oAlloc Try.prog 30 h fun t4 h => 
 oBin Try.prog .gtr 2 (.tmp 5) (.tmp 6) v0 v1 fun t7 =>
 cond t7
  (oCall Try.prog (.func (.func 38) #[] #[]) #[] h fun t8 h_1 => 
  oStore Try.prog 30 t4 t8 h_1 fun _ h_2 => 
  oRes Try.prog [(some 30, t4)] h_2 R)
  (oBuild Try.prog 30 #[(0, (.bool true)), (1, v0), (2, v1)] fun t11 =>
  oStore Try.prog 30 t4 t11 h fun _ h_3 => 
  oRes Try.prog [(some 30, t4)] h_3 R)

theorem sh_ival_Of {v0 v1 : Value} {h : Heap} {R : Value → Heap → Prop} (hg : g_ival_Of v0 v1 h R) : HC Try.prog 40 #[v0, v1] h R := hc_shal [] Try.func40 (by kernel_rfl) hg

/-- augur/ival.empty -/
def g_ival_empty (v0 : Value) (h : Heap) (R : Value → Heap → Prop) : Prop :=
 oBox Try.prog 30 v0 h fun t1 h => 
 oFieldAddr Try.prog 30 t1 0 (Eq h) fun t3 =>
 oLoad Try.prog 4 t3 (Eq h) fun t4 =>
 oUn Try.prog .not t4 fun t5 =>
 join (fun (x11 : Value)  =>
  oPick Try.prog t5 (.bool true) x11 fun t12 =>
  R t12 h)
  fun k =>
 cond t5
  (k undef)
  (oFieldAddr Try.prog 30 t1 1 (Eq h) fun t7 =>
  oLoad Try.prog 2 t7 (Eq h) fun t8 =>
  oFieldAddr Try.prog 30 t1 2 (Eq h) fun t9 =>
  oLoad Try.prog 2 t9 (Eq h) fun t10 =>
  oBin Try.prog .gtr 2 (.tmp 8) (.tmp 10) t8 t10 fun t11 =>
  k t11)

theorem sh_ival_empty {v0 : Value} {h : Heap} {R : Value → Heap → Prop} (hg : g_ival_empty v0 h R) : HC Try.prog 39 #[v0] h R := hc_shal [] Try.func39 (by kernel_rfl) hg

/-- maps.Keys[map[string]augur/api.Ival,string,augur/api.Ival] -/
def g_maps_Keys_map_string_api_Ival_string_api_Ival (v0 : Value) (h : Heap) (R : Value → Heap → Prop) : Prop :=
 oBox Try.prog 103 v0 h fun t1 h => 
 oFunc Try.prog (.func 67) #[] #[t1] fun t3 =>
 R t3 h

theorem sh_maps_Keys_map_string_api_Ival_string_api_Ival {v0 : Value} {h : Heap} {R : Value → Heap → Prop} (hg : g_maps_Keys_map_string_api_Ival_string_api_Ival v0 h R) : HC Try.prog 52 #[v0] h R := hc_shal [] Try.func52 (by kernel_rfl) hg

/-- slices.Compact[[]augur/api.Alarm,augur/api.Alarm] -/
def g_slices_Compact_api_Alarm_api_Alarm (v0 : Value) (h : Heap) (R : Value → Heap → Prop) : Prop :=
 oLen Try.prog #[28] 3 v0 fun t7 =>
 oBin Try.prog .lss 3 (.tmp 7) (.const (.int .i64 2)) t7 (.int .i64 2) fun t8 =>
 cond t8
  (R v0 h)
  (loop1 (.int .i64 1) h fun x3 h next =>
  oLen Try.prog #[28] 3 v0 fun t12 =>
  oBin Try.prog .lss 3 (.tmp 10) (.tmp 12) x3 t12 fun t13 =>
  cond t13
   (oIdx Try.prog 28 v0 x3 fun t18 =>
   oLoad Try.prog 46 t18 (Eq h) fun t19 =>
   oBin Try.prog .sub 3 (.tmp 21) (.const (.int .i64 1)) x3 (.int .i64 1) fun t22 =>
   oIdx Try.prog 28 v0 t22 fun t23 =>
   oLoad Try.prog 46 t23 (Eq h) fun t24 =>
   oBin Try.prog .eql 46 (.tmp 19) (.tmp 24) t19 t24 fun t25 =>
   cond t25
   (oSlice Try.prog 28 v0 (some x3) none none fun t28 =>
   loop2 x3 (.int .i64 1) h fun x3_1 x5 h_1 next_1 =>
    oLen Try.prog #[28] 3 t28 fun t31 =>
    oBin Try.prog .lss 3 (.tmp 29) (.tmp 31) x5 t31 fun t32 =>
    cond t32
    (join (fun (x3_2 : Value) (h_2 : Heap) =>
     oBin Try.prog .add 3 (.tmp 33) (.const (.int .i64 1)) x5 (.int .i64 1) fun t34 =>
     next_1 x3_2 t34 h_2)
     fun k =>
     oIdx Try.prog 28 t28 x5 fun t37 =>
     oLoad Try.prog 46 t37 (Eq h_1) fun t38 =>
     oBin Try.prog .sub 3 (.tmp 40) (.const (.int .i64 1)) x5 (.int .i64 1) fun t41 =>
     oIdx Try.prog 28 t28 t41 fun t42 =>
     oLoad Try.prog 46 t42 (Eq h_1) fun t43 =>
     oBin Try.prog .neq 46 (.tmp 38) (.tmp 43) t38 t43 fun t44 =>
     cond t44
     (oIdx Try.prog 28 t28 x5 fun t49 =>
     oLoad Try.prog 46 t49 (Eq h_1) fun t50 =>
     oIdx Try.prog 28 v0 x3_1 fun t51 =>
     oStore Try.prog 46 t51 t50 h_1 fun _ h_3 => 
     oBin Try.prog .add 3 (.tmp 52) (.const (.int .i64 1)) x3_1 (.int .i64 1) fun t53 =>
     k t53 h_3)
     (k x3_1 h_1))
    (oSlice Try.prog 28 v0 (some x3_1) none none fun t56 =>
    oClear Try.prog #[28] 0 #[t56] h_1 fun _ h_4 => 
    oSlice Try.prog 28 v0 none (some x3_1) none fun t59 =>
    R t59 h_4))
   (oBin Try.prog .add 3 (.tmp 14) (.const (.int .i64 1)) x3 (.int .i64 1) fun t15 =>
   next t15 h))
   (R v0 h))

theorem sh_slices_Compact_api_Alarm_api_Alarm {v0 : Value} {h : Heap} {R : Value → Heap → Prop} (hg : g_slices_Compact_api_Alarm_api_Alarm v0 h R) : HC Try.prog 48 #[v0] h R := hc_shal [] Try.func48 (by kernel_rfl) hg

/-- slices.Compact[[]string,string] -/
def g_slices_Compact_string_string (v0 : Value) (h : Heap) (R : Value → Heap → Prop) : Prop :=
 oLen Try.prog #[48] 3 v0 fun t7 =>
 oBin Try.prog .lss 3 (.tmp 7) (.const (.int .i64 2)) t7 (.int .i64 2) fun t8 =>
 cond t8
  (R v0 h)
  (loop1 (.int .i64 1) h fun x3 h next =>
  oLen Try.prog #[48] 3 v0 fun t12 =>
  oBin Try.prog .lss 3 (.tmp 10) (.tmp 12) x3 t12 fun t13 =>
  cond t13
   (oIdx Try.prog 48 v0 x3 fun t18 =>
   oLoad Try.prog 9 t18 (Eq h) fun t19 =>
   oBin Try.prog .sub 3 (.tmp 21) (.const (.int .i64 1)) x3 (.int .i64 1) fun t22 =>
   oIdx Try.prog 48 v0 t22 fun t23 =>
   oLoad Try.prog 9 t23 (Eq h) fun t24 =>
   oBin Try.prog .eql 9 (.tmp 19) (.tmp 24) t19 t24 fun t25 =>
   cond t25
   (oSlice Try.prog 48 v0 (some x3) none none fun t28 =>
   loop2 x3 (.int .i64 1) h fun x3_1 x5 h_1 next_1 =>
    oLen Try.prog #[48] 3 t28 fun t31 =>
    oBin Try.prog .lss 3 (.tmp 29) (.tmp 31) x5 t31 fun t32 =>
    cond t32
    (join (fun (x3_2 : Value) (h_2 : Heap) =>
     oBin Try.prog .add 3 (.tmp 33) (.const (.int .i64 1)) x5 (.int .i64 1) fun t34 =>
     next_1 x3_2 t34 h_2)
     fun k =>
     oIdx Try.prog 48 t28 x5 fun t37 =>
     oLoad Try.prog 9 t37 (Eq h_1) fun t38 =>
     oBin Try.prog .sub 3 (.tmp 40) (.const (.int .i64 1)) x5 (.int .i64 1) fun t41 =>
     oIdx Try.prog 48 t28 t41 fun t42 =>
     oLoad Try.prog 9 t42 (Eq h_1) fun t43 =>
     oBin Try.prog .neq 9 (.tmp 38) (.tmp 43) t38 t43 fun t44 =>
     cond t44
     (oIdx Try.prog 48 t28 x5 fun t49 =>
     oLoad Try.prog 9 t49 (Eq h_1) fun t50 =>
     oIdx Try.prog 48 v0 x3_1 fun t51 =>
     oStore Try.prog 9 t51 t50 h_1 fun _ h_3 => 
     oBin Try.prog .add 3 (.tmp 52) (.const (.int .i64 1)) x3_1 (.int .i64 1) fun t53 =>
     k t53 h_3)
     (k x3_1 h_1))
    (oSlice Try.prog 48 v0 (some x3_1) none none fun t56 =>
    oClear Try.prog #[48] 0 #[t56] h_1 fun _ h_4 => 
    oSlice Try.prog 48 v0 none (some x3_1) none fun t59 =>
    R t59 h_4))
   (oBin Try.prog .add 3 (.tmp 14) (.const (.int .i64 1)) x3 (.int .i64 1) fun t15 =>
   next t15 h))
   (R v0 h))

theorem sh_slices_Compact_string_string {v0 : Value} {h : Heap} {R : Value → Heap → Prop} (hg : g_slices_Compact_string_string v0 h R) : HC Try.prog 54 #[v0] h R := hc_shal [] Try.func54 (by kernel_rfl) hg

/-- slices.Concat[[]augur/api.Alarm,augur/api.Alarm] -/
def g_slices_Concat_api_Alarm_api_Alarm (v0 : Value) (h : Heap) (R : Value → Heap → Prop) : Prop :=
 oLen Try.prog #[115] 3 v0 fun t10 =>
 loop2 (.int .i64 0) (.int .i64 0) h fun x3 x11 h next =>
  oBin Try.prog .lss 3 (.tmp 11) (.tmp 10) x11 t10 fun t12 =>
  cond t12
  (join (fun (x3_1 : Value) (h_1 : Heap) =>
   oBin Try.prog .add 3 (.tmp 11) (.const (.int .i64 1)) x11 (.int .i64 1) fun t22 =>
   next x3_1 t22 h_1)
   fun k =>
   oIdx Try.prog 115 v0 x11 fun t13 =>
   oLoad Try.prog 28 t13 (Eq h) fun t14 =>
   oLen Try.prog #[28] 3 t14 fun t17 =>
   oBin Try.prog .add 3 (.tmp 15) (.tmp 17) x3 t17 fun t18 =>
   oBin Try.prog .lss 3 (.tmp 19) (.const (.int .i64 0)) t18 (.int .i64 0) fun t20 =>
   cond t20
   (oIface Try.prog 9 (.string ⟨#[108, 101, 110, 32, 111, 117, 116, 32, 111, 102, 32, 114, 97, 110, 103, 101]⟩) fun t21 =>
   oPanic Try.prog t21 h fun _ h_2 => 
   k t18 h_2)
   (k t18 h))
  (oCall Try.prog (.func (.func 61) #[] #[]) #[(.slice none 0 0), x3] h fun t24 h_3 => 
  oLen Try.prog #[115] 3 v0 fun t26 =>
  loop2 t24 (.int .i64 0) h_3 fun x6 x27 h_4 next_1 =>
   oBin Try.prog .lss 3 (.tmp 27) (.tmp 26) x27 t26 fun t28 =>
   cond t28
   (oIdx Try.prog 115 v0 x27 fun t29 =>
   oLoad Try.prog 28 t29 (Eq h_4) fun t30 =>
   oAppend Try.prog #[28, 28] 28 #[x6, t30] h_4 fun t33 h_5 => 
   oBin Try.prog .add 3 (.tmp 27) (.const (.int .i64 1)) x27 (.int .i64 1) fun t34 =>
   next_1 t33 t34 h_5)
   (R x6 h_4))

theorem sh_slices_Concat_api_Alarm_api_Alarm {v0 : Value} {h : Heap} {R : Value → Heap → Prop} (hg : g_slices_Concat_api_Alarm_api_Alarm v0 h R) : HC Try.prog 43 #[v0] h R := hc_shal [] Try.func43 (by kernel_rfl) hg

/-- slices.Concat[[]string,string] -/
def g_slices_Concat_string_string (v0 : Value) (h : Heap) (R : Value → Heap → Prop) : Prop :=
 oLen Try.prog #[122] 3 v0 fun t10 =>
 loop2 (.int .i64 0) (.int .i64 0) h fun x3 x11 h next =>
  oBin Try.prog .lss 3 (.tmp 11) (.tmp 10) x11 t10 fun t12 =>
  cond t12
  (join (fun (x3_1 : Value) (h_1 : Heap) =>
   oBin Try.prog .add 3 (.tmp 11) (.const (.int .i64 1)) x11 (.int .i64 1) fun t22 =>
   next x3_1 t22 h_1)
   fun k =>
   oIdx Try.prog 122 v0 x11 fun t13 =>
   oLoad Try.prog 48 t13 (Eq h) fun t14 =>
   oLen Try.prog #[48] 3 t14 fun t17 =>
   oBin Try.prog .add 3 (.tmp 15) (.tmp 17) x3 t17 fun t18 =>
   oBin Try.prog .lss 3 (.tmp 19) (.const (.int .i64 0)) t18 (.int .i64 0) fun t20 =>
   cond t20
   (oIface Try.prog 9 (.string ⟨#[108, 101, 110, 32, 111, 117, 116, 32, 111, 102, 32, 114, 97, 110, 103, 101]⟩) fun t21 =>
   oPanic Try.prog t21 h fun _ h_2 => 
   k t18 h_2)
   (k t18 h))
  (oCall Try.prog (.func (.func 65) #[] #[]) #[(.slice none 0 0), x3] h fun t24 h_3 => 
  oLen Try.prog #[122] 3 v0 fun t26 =>
  loop2 t24 (.int .i64 0) h_3 fun x6 x27 h_4 next_1 =>
   oBin Try.prog .lss 3 (.tmp 27) (.tmp 26) x27 t26 fun t28 =>
   cond t28
   (oIdx Try.prog 122 v0 x27 fun t29 =>
   oLoad Try.prog 48 t29 (Eq h_4) fun t30 =>
   oAppend Try.prog #[48, 48] 48 #[x6, t30] h_4 fun t33 h_5 => 
   oBin Try.prog .add 3 (.tmp 27) (.const (.int .i64 1)) x27 (.int .i64 1) fun t34 =>
   next_1 t33 t34 h_5)
   (R x6 h_4))

theorem sh_slices_Concat_string_string {v0 : Value} {h : Heap} {R : Value → Heap → Prop} (hg : g_slices_Concat_string_string v0 h R) : HC Try.prog 50 #[v0] h R := hc_shal [] Try.func50 (by kernel_rfl) hg

/-- slices.Equal[[]augur/api.Alarm,augur/api.Alarm] -/
def g_slices_Equal_api_Alarm_api_Alarm (v0 v1 : Value) (h : Heap) (R : Value → Heap → Prop) : Prop :=
 oLen Try.prog #[28] 3 v0 fun t7 =>
 oLen Try.prog #[28] 3 v1 fun t9 =>
 oBin Try.prog .neq 3 (.tmp 7) (.tmp 9) t7 t9 fun t10 =>
 cond t10
  (R (.bool false) h)
  (oLen Try.prog #[28] 3 v0 fun t12 =>
  loop1 (.int .i64 0) h fun x13 h next =>
  oBin Try.prog .lss 3 (.tmp 13) (.tmp 12) x13 t12 fun t14 =>
  cond t14
   (oIdx Try.prog 28 v0 x13 fun t18 =>
   oLoad Try.prog 46 t18 (Eq h) fun t19 =>
   oIdx Try.prog 28 v1 x13 fun t22 =>
   oLoad Try.prog 46 t22 (Eq h) fun t23 =>
   oBin Try.prog .neq 46 (.tmp 19) (.tmp 23) t19 t23 fun t24 =>
   cond t24
   (R (.bool false) h)
   (oBin Try.prog .add 3 (.tmp 13) (.const (.int .i64 1)) x13 (.int .i64 1) fun t25 =>
   next t25 h))
   (R (.bool true) h))

theorem sh_slices_Equal_api_Alarm_api_Alarm {v0 v1 : Value} {h : Heap} {R : Value → Heap → Prop} (hg : g_slices_Equal_api_Alarm_api_Alarm v0 v1 h R) : HC Try.prog 20 #[v0, v1] h R := hc_shal [] Try.func20 (by kernel_rfl) hg

/-- slices.Equal[[]augur/api.Named,augur/api.Named] -/
def g_slices_Equal_api_Named_api_Named (v0 v1 : Value) (h : Heap) (R : Value → Heap → Prop) : Prop :=
 oLen Try.prog #[31] 3 v0 fun t7 =>
 oLen Try.prog #[31] 3 v1 fun t9 =>
 oBin Try.prog .neq 3 (.tmp 7) (.tmp 9) t7 t9 fun t10 =>
 cond t10
  (R (.bool false) h)
  (oLen Try.prog #[31] 3 v0 fun t12 =>
  loop1 (.int .i64 0) h fun x13 h next =>
  oBin Try.prog .lss 3 (.tmp 13) (.tmp 12) x13 t12 fun t14 =>
  cond t14
   (oIdx Try.prog 31 v0 x13 fun t18 =>
   oLoad Try.prog 53 t18 (Eq h) fun t19 =>
   oIdx Try.prog 31 v1 x13 fun t22 =>
   oLoad Try.prog 53 t22 (Eq h) fun t23 =>
   oBin Try.prog .neq 53 (.tmp 19) (.tmp 23) t19 t23 fun t24 =>
   cond t24
   (R (.bool false) h)
   (oBin Try.prog .add 3 (.tmp 13) (.const (.int .i64 1)) x13 (.int .i64 1) fun t25 =>
   next t25 h))
   (R (.bool true) h))

theorem sh_slices_Equal_api_Named_api_Named {v0 v1 : Value} {h : Heap} {R : Value → Heap → Prop} (hg : g_slices_Equal_api_Named_api_Named v0 v1 h R) : HC Try.prog 21 #[v0, v1] h R := hc_shal [] Try.func21 (by kernel_rfl) hg

/-- slices.Grow[[]augur/api.Alarm,augur/api.Alarm] -/
def g_slices_Grow_api_Alarm_api_Alarm (v0 v1 : Value) (h : Heap) (R : Value → Heap → Prop) : Prop :=
 join (fun (h : Heap) =>
  join (fun (x0 : Value) (h_1 : Heap) =>
  R x0 h_1)
  fun k_1 =>
  oCap Try.prog #[28] 3 v0 fun t10 =>
  oLen Try.prog #[28] 3 v0 fun t12 =>
  oBin Try.prog .sub 3 (.tmp 10) (.tmp 12) t10 t12 fun t13 =>
  oBin Try.prog .sub 3 (.tmp 8) (.tmp 13) v1 t13 fun t14 =>
  oBin Try.prog .gtr 3 (.tmp 15) (.const (.int .i64 0)) t14 (.int .i64 0) fun t16 =>
  cond t16
   (oCap Try.prog #[28] 3 v0 fun t19 =>
   oSlice Try.prog 28 v0 none (some t19) none fun t20 =>
   oAppend Try.prog #[28, 3] 28 #[t20, t14] h fun t22 h_2 => 
   oLen Try.prog #[28] 3 v0 fun t24 =>
   oSlice Try.prog 28 t22 none (some t24) none fun t25 =>
   k_1 t25 h_2)
   (k_1 v0 h))
  fun k =>
  oBin Try.prog .lss 3 (.tmp 5) (.const (.int .i64 0)) v1 (.int .i64 0) fun t6 =>
  cond t6
  (oIface Try.prog 9 (.string ⟨#[99, 97, 110, 110, 111, 116, 32, 98, 101, 32, 110, 101, 103, 97, 116, 105, 118, 101]⟩) fun t7 =>
  oPanic Try.prog t7 h fun _ h_3 => 
  k h_3)
  (k h)

theorem sh_slices_Grow_api_Alarm_api_Alarm {v0 v1 : Value} {h : Heap} {R : Value → Heap → Prop} (hg : g_slices_Grow_api_Alarm_api_Alarm v0 v1 h R) : HC Try.prog 61 #[v0, v1] h R := hc_shal [] Try.func61 (by kernel_rfl) hg

/-- slices.Grow[[]string,string] -/
def g_slices_Grow_string_string (v0 v1 : Value) (h : Heap) (R : Value → Heap → Prop) : Prop :=
 join (fun (h : Heap) =>
  join (fun (x0 : Value) (h_1 : Heap) =>
  R x0 h_1)
  fun k_1 =>
  oCap Try.prog #[48] 3 v0 fun t10 =>
  oLen Try.prog #[48] 3 v0 fun t12 =>
  oBin Try.prog .sub 3 (.tmp 10) (.tmp 12) t10 t12 fun t13 =>
  oBin Try.prog .sub 3 (.tmp 8) (.tmp 13) v1 t13 fun t14 =>
  oBin Try.prog .gtr 3 (.tmp 15) (.const (.int .i64 0)) t14 (.int .i64 0) fun t16 =>
  cond t16
   (oCap Try.prog #[48] 3 v0 fun t19 =>
   oSlice Try.prog 48 v0 none (some t19) none fun t20 =>
   oAppend Try.prog #[48, 3] 48 #[t20, t14] h fun t22 h_2 => 
   oLen Try.prog #[48] 3 v0 fun t24 =>
   oSlice Try.prog 48 t22 none (some t24) none fun t25 =>
   k_1 t25 h_2)
   (k_1 v0 h))
  fun k =>
  oBin Try.prog .lss 3 (.tmp 5) (.const (.int .i64 0)) v1 (.int .i64 0) fun t6 =>
  cond t6
  (oIface Try.prog 9 (.string ⟨#[99, 97, 110, 110, 111, 116, 32, 98, 101, 32, 110, 101, 103, 97, 116, 105, 118, 101]⟩) fun t7 =>
  oPanic Try.prog t7 h fun _ h_3 => 
  k h_3)
  (k h)

theorem sh_slices_Grow_string_string {v0 v1 : Value} {h : Heap} {R : Value → Heap → Prop} (hg : g_slices_Grow_string_string v0 v1 h R) : HC Try.prog 65 #[v0, v1] h R := hc_shal [] Try.func65 (by kernel_rfl) hg

end Go.Proofs.Ytaibfbakhiainaa.Old
namespace Go.Proofs.Ytaibfbakhiainaa.Old
open Go Go.Sh Go.Sx Go.Proofs

/-- An interval's three cells. -/
def civ : Iv → List Value
  | none => [.bool false, .int .i64 0, .int .i64 0]
  | some (l, h) => [.bool true, .int .i64 l, .int .i64 h]
def eiv (a : Iv) : Value := .agg (civ a).toArray
theorem civ_len (a : Iv) : (civ a).length = 3 := by cases a <;> rfl
theorem civ_one (a : Iv) : ∀ y ∈ civ a, Sh.one y = true := by
  intro y hy
  cases a <;> simp [civ] at hy <;> rcases hy with rfl | rfl | rfl <;> rfl
/-- Of two numbers. -/
def mkI (l h : Int) : Iv := if h < l then none else some (l, h)
set_option maxRecDepth 8000 in
theorem empty_ok [Gd] {h : Heap} : HC Try.prog 38 #[] h fun u h' => u = eiv none ∧ Ext h h' := by
  refine sh_ival_Empty ?_
  unfold g_ival_Empty
  refine oAllocC (St.nil h) fun t0 h1 hp s1 => ?_
  refine oBuild_own (cells := #[.bool false, .int .i64 0, .int .i64 0]) (by kernel_rfl) ?_
  refine oStoreAll s1 rfl rfl (civ_one none) fun h2 s2 => ?_
  refine oResA s2.rd hp rfl ⟨rfl, s2.ext⟩
set_option maxRecDepth 8000 in
theorem isEmpty_ok [Gd] {h : Heap} {a : Iv} (ha : a.Ok) : HC Try.prog 39 #[eiv a] h fun u h' => u = .bool a.isNone ∧ Ext h h' := by
  refine sh_ival_empty ?_
  unfold g_ival_empty
  simp only [join]
  refine oBoxAll (St.nil h) fun t1 h1 hp s1 => ?_
  have r : ∀ h', Eq h1 h' → Rd h' t1 (civ a) := fun h' e => e ▸ s1.rd
  cases a with
  | none =>
    refine oFld r hp (x := .bool false) rfl ?_
    rw [oUn_not]
    show cond (.bool true) _ _
    rw [cond_t, oPick_bool, if_pos (by rfl)]
    exact ⟨rfl, s1.ext⟩
  | some p =>
    obtain ⟨l, g⟩ := p
    refine oFld r hp (x := .bool true) rfl ?_
    rw [oUn_not]
    show cond (.bool false) _ _
    rw [cond_f]
    refine oFld r hp (x := .int .i64 l) rfl ?_
    refine oFld r hp (x := .int .i64 g) rfl ?_
    rw [oBin_gtr, oPick_bool, if_neg (by simp), decide_eq_false (by have := ha.1; omega)]
    exact ⟨rfl, s1.ext⟩
set_option maxRecDepth 8000 in
theorem of_ok [Gd] {h : Heap} {l g : Int} : HC Try.prog 40 #[.int .i64 l, .int .i64 g] h fun u h' => u = eiv (mkI l g) ∧ Ext h h' := by
  refine sh_ival_Of ?_
  unfold g_ival_Of
  refine oAllocC (St.nil h) fun t4 h1 hp s1 => ?_
  rw [oBin_gtr]
  by_cases hlt : g < l
  · rw [cond_pos hlt]
    refine oCall_func (.mono empty_ok ?_)
    rintro t8 h2 ⟨rfl, e2⟩
    have s2 : St h h2 [Cells t4 _] := s1.call (L' := []) ⟨e2, trivial⟩
    refine oStoreAll s2 rfl rfl (civ_one none) fun h3 s3 => ?_
    refine oResA s3.rd hp rfl ⟨?_, s3.ext⟩
    unfold mkI
    rw [if_pos hlt]; rfl
  · rw [cond_neg hlt]
    refine oBuild_own (cells := #[.bool true, .int .i64 l, .int .i64 g]) rfl ?_
    refine oStoreAll s1 rfl rfl (civ_one (some (l, g))) fun h3 s3 => ?_
    refine oResA s3.rd hp rfl ⟨?_, s3.ext⟩
    unfold mkI
    rw [if_neg hlt]; rfl
set_option maxRecDepth 8000 in
theorem norm_ok [Gd] {h : Heap} {l g : Int} : HC Try.prog 29 #[.agg #[.bool true, .int .i64 l, .int .i64 g]] h fun u h' => u = eiv (mkI l g) ∧ Ext h h' := by
  refine sh_augurref12_Norm ?_
  unfold g_augurref12_Norm
  simp only [join]
  refine oBoxAll (St.nil h) fun t1 h1 hp1 s1 => ?_
  refine oAllocC s1 fun t2 h2 hp2 s2 => ?_
  have r : ∀ h', Eq h2 h' → Rd h' t1 [.bool true, .int .i64 l, .int .i64 g] := fun h' e => e ▸ s2.swap.rd
  refine oFld r hp1 (x := .bool true) rfl ?_
  rw [oUn_not]
  show cond (.bool false) _ _
  rw [cond_f]
  refine oFld r hp1 (x := .int .i64 l) rfl ?_
  refine oFld r hp1 (x := .int .i64 g) rfl ?_
  rw [oBin_gtr, oPick_bool, if_neg (by simp)]
  unfold mkI
  by_cases hlt : g < l
  · rw [cond_pos hlt, if_pos hlt]
    refine oBuild_own (cells := #[.bool false, .int .i64 0, .int .i64 0]) (by kernel_rfl) ?_
    refine oStoreAll s2 rfl rfl (civ_one none) fun h3 s3 => ?_
    exact oResA s3.rd hp2 rfl ⟨rfl, s3.ext⟩
  · rw [cond_neg hlt, if_neg hlt]
    refine oLoadAll r hp1 rfl ?_
    refine oStoreAll s2 rfl rfl (civ_one (some (l, g))) fun h3 s3 => ?_
    exact oResA s3.rd hp2 rfl ⟨rfl, s3.ext⟩
set_option maxRecDepth 8000 in
theorem refOf_ok [Gd] {h : Heap} {l g : Int} : HC Try.prog 15 #[.int .i64 l, .int .i64 g] h fun u h' => u = eiv (mkI l g) ∧ Ext h h' := by
  refine sh_augurref12_Of ?_
  unfold g_augurref12_Of
  refine oAllocC (St.nil h) fun t4 h1 hp s1 => ?_
  refine oBuild_own (cells := #[.bool true, .int .i64 l, .int .i64 g]) rfl ?_
  refine oCall_func (.mono norm_ok ?_)
  rintro t8 h2 ⟨rfl, e2⟩
  have s2 : St h h2 [Cells t4 _] := s1.call (L' := []) ⟨e2, trivial⟩
  refine oStoreAll s2 (civ_len _) rfl (civ_one _) fun h3 s3 => ?_
  exact oResA s3.rd hp (civ_len _) ⟨rfl, s3.ext⟩
end Go.Proofs.Ytaibfbakhiainaa.Old
namespace Go.Proofs.Ytaibfbakhiainaa.Old
open Go Go.Sh Go.Sx Go.Proofs

theorem wrap_int (i : Int) (h1 : -9223372036854775808 ≤ i) (h2 : i ≤ 9223372036854775807) : IntKind.i64.wrap i = i := IntWalk.i64_in _ (by omega)
theorem wrap_succ (i n : Nat) (h : i < n) (hn : n ≤ 9223372036854775807) : IntKind.i64.wrap ((i : Int) + 1) = ((i + 1 : Nat) : Int) := by
  rw [show (i : Int) + 1 = ((i + 1 : Nat) : Int) from by omega]
  exact wrap_nat _ (by omega)
theorem join_intro {κ : Type} {k : κ} {B : κ → Prop} (h : ∀ k', k' = k → B k') : join k B := h k rfl
theorem loop1_count {h0 : Heap} {body : Value → Heap → (Value → Heap → Prop) → Prop} (i0 n : Nat) (I : Nat → Heap → Prop) (hi : i0 ≤ n) (hI : I i0 h0)
    (round : ∀ i h (next : Value → Heap → Prop), i ≤ n → I i h → (∀ h', i < n → I (i + 1) h' → next (.int .i64 ((i + 1 : Nat) : Int)) h') → body (.int .i64 i) h next) :
    loop1 (.int .i64 i0) h0 body := by
  refine ⟨fun m a h => ∃ i : Nat, i ≤ n ∧ m = n - i ∧ a = .int .i64 i ∧ I i h, n - i0, ⟨i0, hi, rfl, rfl, hI⟩, ?_⟩
  rintro m _ h ⟨i, hin, rfl, rfl, hI⟩
  refine round i h _ hin hI fun h' hlt hI' => ⟨n - (i + 1), by omega, i + 1, by omega, rfl, rfl, hI'⟩
theorem oMin_int {P : Program} {ats : Array TypeId} {t : TypeId} {k : IntKind} {a b : Int} {K : Value → Prop} : oMin P ats t #[.int k a, .int k b] K ↔ K (.int k (min a b)) := by
  have e : (if b < a then b else a) = min a b := by rw [Int.min_def]; split <;> split <;> omega
  rw [← e]
  exact Sp.iff fun w => by simp [Builtin.min_, Builtin.min2]
theorem oMax_int {P : Program} {ats : Array TypeId} {t : TypeId} {k : IntKind} {a b : Int} {K : Value → Prop} : oMax P ats t #[.int k a, .int k b] K ↔ K (.int k (max a b)) := by
  have e : (if b > a then b else a) = max a b := by rw [Int.max_def]; split <;> split <;> omega
  rw [← e]
  exact Sp.iff fun w => by simp [Builtin.max_, Builtin.max2]

theorem jnAll_ok {l : List Iv} (h : ∀ a ∈ l, Iv.Ok a) : ∀ {r : Iv}, r.Ok → (l.foldl jn r).Ok := by
  induction l with
  | nil => intro r hr; exact hr
  | cons a l ih => intro r hr; exact ih (fun b hb => h b (by simp [hb])) (jn_ok hr (h a (by simp)))
set_option maxRecDepth 8000 in
theorem ivJoin_ok [Gd] {h : Heap} {v : Value} {l : List Iv} (r : RdK civ h v l) (hl : l.length ≤ 1000000) (ho : ∀ a ∈ l, Iv.Ok a) :
    HC Try.prog 25 #[v] h fun u h' => u = eiv (l.foldl jn none) ∧ Ext h h' := by
  refine sh_ival_Join ?_
  unfold g_ival_Join
  refine oAllocC (St.nil h) fun t2 h1 hp2 s1 => ?_
  refine oCall_func (.mono empty_ok ?_)
  rintro t6 h2 ⟨rfl, e2⟩
  have s2 : St h h2 [Cells t2 _] := s1.call (L' := []) ⟨e2, trivial⟩
  refine oAllocC s2 fun t3 h3 hp3 s3 => ?_
  refine oStoreAll s3 rfl rfl (civ_one none) fun h4 s4 => ?_
  rw [oLen_sl r.1]
  refine loop1_count 0 l.length (fun i h' => St h h' [Cells t3 (civ ((l.take i).foldl jn none)), Cells t2 _]) (Nat.zero_le _) s4 ?_
  intro i h5 nx hi s5 hnx
  rw [oBin_lss]
  by_cases hlt : i < l.length
  · rw [cond_pos (by omega)]
    obtain ⟨a, ha⟩ : ∃ a, l[i]? = some a := ⟨_, List.getElem?_eq_getElem hlt⟩
    have hao := ho a (List.mem_of_getElem? ha)
    have hst : (l.take (i + 1)).foldl jn none = jn ((l.take i).foldl jn none) a := by
      rw [List.take_add_one, ha, List.foldl_append]; rfl
    have hro : ((l.take i).foldl jn none).Ok := jnAll_ok (fun b hb => ho b (List.mem_of_mem_take hb)) trivial
    refine join_intro fun k' hk' => ?_
    have tail : ∀ h', St h h' [Cells t3 (civ (jn ((l.take i).foldl jn none) a)), Cells t2 _] → k' h' := fun h' s' => by
      rw [hk']
      dsimp only
      rw [oBin_add, wrap_succ i _ hlt (by omega)]
      refine hnx _ hlt ?_
      rw [hst]; exact s'
    clear hk'
    revert s5 tail hro
    generalize (l.take i).foldl jn none = b
    intro s5 hro tail
    refine oGetK civ_len (by omega) r (fun h' hd => hd ▸ s5.ext) ha ?_
    refine oAllocC s5 fun t5 h6 hp5 s6 => ?_
    refine oStoreAll s6 (civ_len a) rfl (civ_one a) fun h7 s7 => ?_
    refine oLoadAll (fun h' e => e ▸ s7.rd) hp5 (civ_len a) ?_
    refine oCall_func (.mono (isEmpty_ok hao) ?_)
    rintro t26 h8 ⟨rfl, e8⟩
    have s8 : St h h8 _ := s7.call (L' := []) ⟨e8, trivial⟩
    have r5 : ∀ h', Eq h8 h' → Rd h' t5 (civ a) := fun h' e => e ▸ s8.rd
    have r3 : ∀ h', Eq h8 h' → Rd h' t3 (civ b) := fun h' e => e ▸ s8.swap.rd
    have s9 : St h h8 [Cells t3 (civ b), Cells t2 _] := s8.drop
    cases a with
    | none =>
      show cond (.bool true) _ _
      rw [cond_t]
      refine tail h8 ?_
      rw [jn_none]; exact s9
    | some p =>
      obtain ⟨al, ag⟩ := p
      show cond (.bool false) _ _
      rw [cond_f]
      cases b with
      | none =>
        refine oFld r3 hp3 (x := .bool false) rfl ?_
        rw [oUn_not]
        show cond (.bool true) _ _
        rw [cond_t]
        refine oFld r5 hp5 (x := .int .i64 al) rfl ?_
        refine oFld r5 hp5 (x := .int .i64 ag) rfl ?_
        refine oCall_func (.mono of_ok ?_)
        rintro t35 h9 ⟨rfl, e9⟩
        have s10 : St h h9 [Cells t3 (civ none), Cells t2 _] := s9.call (L' := []) ⟨e9, trivial⟩
        refine oStoreAll s10 (civ_len _) rfl (civ_one _) fun h10 s11 => ?_
        refine tail h10 ?_
        have e : mkI al ag = jn none (some (al, ag)) := by unfold mkI; rw [if_neg (by have := hao.1; omega)]; rfl
        rw [← e]; exact s11
      | some q =>
        obtain ⟨bl, bg⟩ := q
        refine oFld r3 hp3 (x := .bool true) rfl ?_
        rw [oUn_not]
        show cond (.bool false) _ _
        rw [cond_f]
        refine oFld r3 hp3 (x := .int .i64 bl) rfl ?_
        refine oFld r5 hp5 (x := .int .i64 al) rfl ?_
        rw [oMin_int]
        refine oFld r3 hp3 (x := .int .i64 bg) rfl ?_
        refine oFld r5 hp5 (x := .int .i64 ag) rfl ?_
        rw [oMax_int]
        refine oCall_func (.mono of_ok ?_)
        rintro t23 h9 ⟨rfl, e9⟩
        have s10 : St h h9 [Cells t3 (civ (some (bl, bg))), Cells t2 _] := s9.call (L' := []) ⟨e9, trivial⟩
        refine oStoreAll s10 (civ_len _) rfl (civ_one _) fun h10 s11 => ?_
        refine tail h10 ?_
        have e : mkI (min bl al) (max bg ag) = jn (some (bl, bg)) (some (al, ag)) := by
          unfold mkI
          have h1 := hao.1
          have h2 := hro.1
          rw [if_neg (by omega)]; rfl
        rw [← e]; exact s11
  · rw [cond_neg (by omega)]
    have hie : i = l.length := by omega
    subst hie
    rw [List.take_length] at s5
    refine oLoadAll (fun h' e => e ▸ s5.rd) hp3 (civ_len _) ?_
    refine oStoreAll s5.swap (civ_len _) rfl (civ_one _) fun h6 s6 => ?_
    exact oResA s6.rd hp2 (civ_len _) ⟨rfl, s6.ext⟩
end Go.Proofs.Ytaibfbakhiainaa.Old
namespace Go.Proofs.Ytaibfbakhiainaa.Old
open Go Go.Sh Go.Sx Go.Proofs

section eq
variable {P : Program}
theorem oEqlS {t : TypeId} {x y : Operand} {xs ys : Array Value} {b : Bool} {K : Value → Prop} (hm : P.eqGuardType P.depth t = false) (h : ∀ w, (Op.equalIn 10000 t (.agg xs) (.agg ys)).run P w = .ok b w) :
    oBin P .eql t x y (.agg xs) (.agg ys) K ↔ K (.bool b) := by
  refine Sp.iff fun w => ?_
  have h1 : (eqGuard .eql t x y (.agg xs) (.agg ys)).run P w = .ok () w := run_eqGuard_agg w .eql t x y xs ys hm
  simp [h1, run_eql_struct, h w]
theorem oNeqS {t : TypeId} {x y : Operand} {xs ys : Array Value} {b : Bool} {K : Value → Prop} (hm : P.eqGuardType P.depth t = false) (h : ∀ w, (Op.equalIn 10000 t (.agg xs) (.agg ys)).run P w = .ok b w) :
    oBin P .neq t x y (.agg xs) (.agg ys) K ↔ K (.bool !b) := by
  refine Sp.iff fun w => ?_
  have h1 : (eqGuard .neq t x y (.agg xs) (.agg ys)).run P w = .ok () w := run_eqGuard_agg w .neq t x y xs ys hm
  simp [h1, run_neq_struct, h w]
end eq
/-- An alarm's cells. -/
def cal (a : Int × Int) : List Value := [.int .i64 a.1, .int .i64 a.2]
/-- A named interval's cells. -/
def cnm (a : Str × Iv) : List Value := str a.1 :: civ a.2
theorem cal_len (a : Int × Int) : (cal a).length = 2 := rfl
theorem cnm_len (a : Str × Iv) : (cnm a).length = 4 := by simp [cnm, civ_len]
theorem cal_one (a : Int × Int) : ∀ y ∈ cal a, Sh.one y = true := by
  intro y hy
  simp [cal] at hy
  rcases hy with rfl | rfl <;> rfl
theorem cnm_one (a : Str × Iv) : ∀ y ∈ cnm a, Sh.one y = true := by
  intro y hy
  rcases List.mem_cons.1 hy with rfl | hy
  · rfl
  · exact civ_one a.2 y hy
set_option maxRecDepth 8000 in
theorem eqAl (a b : Int × Int) (w : World) : (Op.equalIn 10000 46 (.agg (cal a).toArray) (.agg (cal b).toArray)).run Try.prog w = .ok (decide (a = b)) w := by
  have u3 := Try.underlying3
  have a3 := Try.isAgg3
  have z3 := Try.sizeOf3
  have hS : Try.prog.underlying 46 = some (.struct (Try.prog.fieldsOf 46)) := by kernel_rfl
  have hp : Try.prog.stoodInHeld 46 = false := by kernel_rfl
  obtain ⟨a1, a2⟩ := a
  obtain ⟨b1, b2⟩ := b
  simp only [cal]
  rw [show (10000 : Nat) = 9999 + 1 from rfl, run_equalIn_struct w 9999 46 _ _ hS hp]
  simp only [Program.fieldsOf, Try.underlying46]
  go_simp
  by_cases h1 : a1 = b1 <;> by_cases h2 : a2 = b2 <;> simp [h1, h2]
set_option maxRecDepth 8000 in
theorem eqIvD (d : Nat) (a b : Iv) (w : World) : (Op.equalIn (d + 2) 30 (.agg (civ a).toArray) (.agg (civ b).toArray)).run Try.prog w = .ok (decide (a = b)) w := by
  have u2 := Try.underlying2
  have a2 := Try.isAgg2
  have z2 := Try.sizeOf2
  have u4 := Try.underlying4
  have a4 := Try.isAgg4
  have z4 := Try.sizeOf4
  have hS : Try.prog.underlying 30 = some (.struct (Try.prog.fieldsOf 30)) := by kernel_rfl
  have hp : Try.prog.stoodInHeld 30 = false := by kernel_rfl
  rw [run_equalIn_struct w (d + 1) 30 _ _ hS hp]
  simp only [Program.fieldsOf, Try.underlying30]
  rcases a with _ | ⟨l, g⟩ <;> rcases b with _ | ⟨k, f⟩
  · simp only [civ]
    go_simp
  · simp only [civ]
    go_simp
  · simp only [civ]
    go_simp
  · simp only [civ]
    go_simp
    by_cases h1 : l = k <;> by_cases h2 : g = f <;> simp [h1, h2]
theorem eqIv (a b : Iv) (w : World) : (Op.equalIn 10000 30 (.agg (civ a).toArray) (.agg (civ b).toArray)).run Try.prog w = .ok (decide (a = b)) w := eqIvD 9998 a b w
set_option maxRecDepth 8000 in
theorem eqNm (a b : Str × Iv) (w : World) : (Op.equalIn 10000 53 (.agg (cnm a).toArray) (.agg (cnm b).toArray)).run Try.prog w = .ok (decide (a = b)) w := by
  have u9 := Try.underlying9
  have a9 := Try.isAgg9
  have z9 := Try.sizeOf9
  have a30 := Try.isAgg30
  have z30 := Try.sizeOf30
  have hS : Try.prog.underlying 53 = some (.struct (Try.prog.fieldsOf 53)) := by kernel_rfl
  have hp : Try.prog.stoodInHeld 53 = false := by kernel_rfl
  obtain ⟨n, v⟩ := a
  obtain ⟨n', v'⟩ := b
  rw [show (10000 : Nat) = 9999 + 1 from rfl, run_equalIn_struct w 9999 53 _ _ hS hp]
  simp only [Program.fieldsOf, Try.underlying53]
  have hI := eqIvD 9997 v v' w
  rcases v with _ | ⟨l, g⟩ <;> rcases v' with _ | ⟨k, f⟩ <;> simp only [civ] at hI <;> simp only [cnm, civ, str] <;> go_simp <;> (try rw [show (9999 : Nat) = 9997 + 2 from rfl]) <;> (try simp only [hI]) <;> by_cases h1 : n = n' <;> simp [h1, toList_mk] <;> (repeat' split) <;> simp_all
end Go.Proofs.Ytaibfbakhiainaa.Old
namespace Go.Proofs.Ytaibfbakhiainaa.Old
open Go Go.Sh Go.Sx Go.Proofs

abbrev RdA (h : Heap) (v : Value) (l : List (Int × Int)) : Prop := RdK cal h v l
abbrev RdN (h : Heap) (v : Value) (l : List (Str × Iv)) : Prop := RdK cnm h v l
set_option maxRecDepth 8000 in
theorem eqAls_ok [Gd] {h : Heap} {v w : Value} {l m : List (Int × Int)} (hv : RdA h v l) (hw : RdA h w m) (hl : l.length ≤ 1000000) (hm : m.length ≤ 1000000) :
    HC Try.prog 20 #[v, w] h fun u h' => u = .bool (decide (l = m)) ∧ h' = h := by
  refine sh_slices_Equal_api_Alarm_api_Alarm ?_
  unfold g_slices_Equal_api_Alarm_api_Alarm
  rw [oLen_sl hv.1, oLen_sl hw.1, oBin_neq]
  by_cases hlm : l.length = m.length
  · rw [cond_neg (by omega)]
    rw [oLen_sl hv.1]
    refine loop1_count 0 l.length (fun i h' => h' = h ∧ ∀ j, j < i → l[j]? = m[j]?) (Nat.zero_le _) ⟨rfl, by omega⟩ ?_
    rintro i _ nx hi ⟨rfl, hj⟩ hnx
    dsimp only
    rw [oBin_lss]
    by_cases hlt : i < l.length
    · rw [cond_pos (by omega)]
      obtain ⟨a, ha⟩ : ∃ a, l[i]? = some a := ⟨_, List.getElem?_eq_getElem hlt⟩
      obtain ⟨b, hb⟩ : ∃ b, m[i]? = some b := ⟨_, List.getElem?_eq_getElem (by omega)⟩
      refine oGetK cal_len (by omega) hv (fun h' hd => hd ▸ Ext.refl _) ha ?_
      refine oGetK cal_len (by omega) hw (fun h' hd => hd ▸ Ext.refl _) hb ?_
      refine (oNeqS (by kernel_rfl) (eqAl a b)).2 ?_
      by_cases hab : a = b
      · rw [decide_eq_true hab]
        show cond (.bool false) _ _
        rw [cond_f, oBin_add, wrap_succ i _ hlt (by omega)]
        refine hnx _ hlt ⟨rfl, fun j hj' => ?_⟩
        by_cases e : j = i
        · subst e; rw [ha, hb, hab]
        · exact hj j (by omega)
      · rw [decide_eq_false hab]
        show cond (.bool true) _ _
        rw [cond_t]
        refine ⟨?_, rfl⟩
        rw [decide_eq_false]
        rintro rfl
        rw [ha] at hb
        exact hab (by simpa using hb)
    · rw [cond_neg (by omega)]
      refine ⟨?_, rfl⟩
      rw [decide_eq_true]
      apply List.ext_getElem?
      intro j
      by_cases h1 : j < l.length
      · exact hj j (by omega)
      · rw [List.getElem?_eq_none (by omega), List.getElem?_eq_none (by omega)]
  · rw [cond_pos (by omega)]
    refine ⟨?_, rfl⟩
    rw [decide_eq_false]
    rintro rfl
    exact hlm rfl
set_option maxRecDepth 8000 in
theorem eqNms_ok [Gd] {h : Heap} {v w : Value} {l m : List (Str × Iv)} (hv : RdN h v l) (hw : RdN h w m) (hl : l.length ≤ 1000000) (hm : m.length ≤ 1000000) :
    HC Try.prog 21 #[v, w] h fun u h' => u = .bool (decide (l = m)) ∧ h' = h := by
  refine sh_slices_Equal_api_Named_api_Named ?_
  unfold g_slices_Equal_api_Named_api_Named
  rw [oLen_sl hv.1, oLen_sl hw.1, oBin_neq]
  by_cases hlm : l.length = m.length
  · rw [cond_neg (by omega)]
    rw [oLen_sl hv.1]
    refine loop1_count 0 l.length (fun i h' => h' = h ∧ ∀ j, j < i → l[j]? = m[j]?) (Nat.zero_le _) ⟨rfl, by omega⟩ ?_
    rintro i _ nx hi ⟨rfl, hj⟩ hnx
    dsimp only
    rw [oBin_lss]
    by_cases hlt : i < l.length
    · rw [cond_pos (by omega)]
      obtain ⟨a, ha⟩ : ∃ a, l[i]? = some a := ⟨_, List.getElem?_eq_getElem hlt⟩
      obtain ⟨b, hb⟩ : ∃ b, m[i]? = some b := ⟨_, List.getElem?_eq_getElem (by omega)⟩
      refine oGetK cnm_len (by omega) hv (fun h' hd => hd ▸ Ext.refl _) ha ?_
      refine oGetK cnm_len (by omega) hw (fun h' hd => hd ▸ Ext.refl _) hb ?_
      refine (oNeqS (by kernel_rfl) (eqNm a b)).2 ?_
      by_cases hab : a = b
      · rw [decide_eq_true hab]
        show cond (.bool false) _ _
        rw [cond_f, oBin_add, wrap_succ i _ hlt (by omega)]
        refine hnx _ hlt ⟨rfl, fun j hj' => ?_⟩
        by_cases e : j = i
        · subst e; rw [ha, hb, hab]
        · exact hj j (by omega)
      · rw [decide_eq_false hab]
        show cond (.bool true) _ _
        rw [cond_t]
        refine ⟨?_, rfl⟩
        rw [decide_eq_false]
        rintro rfl
        rw [ha] at hb
        exact hab (by simpa using hb)
    · rw [cond_neg (by omega)]
      refine ⟨?_, rfl⟩
      rw [decide_eq_true]
      apply List.ext_getElem?
      intro j
      by_cases h1 : j < l.length
      · exact hj j (by omega)
      · rw [List.getElem?_eq_none (by omega), List.getElem?_eq_none (by omega)]
  · rw [cond_pos (by omega)]
    refine ⟨?_, rfl⟩
    rw [decide_eq_false]
    rintro rfl
    exact hlm rfl
set_option maxRecDepth 8000 in
theorem refAls_ok [Gd] {h : Heap} {v w : Value} {l m : List (Int × Int)} (hv : RdA h v l) (hw : RdA h w m) (hl : l.length ≤ 1000000) (hm : m.length ≤ 1000000) :
    HC Try.prog 22 #[v, w] h fun u h' => u = .bool (decide (l = m)) ∧ h' = h := by
  refine sh_augurhelp_Alarms ?_
  unfold g_augurhelp_Alarms
  rw [oLen_sl hv.1, oLen_sl hw.1, oBin_neq]
  by_cases hlm : l.length = m.length
  · rw [cond_neg (by omega)]
    refine loop1_count 0 l.length (fun i h' => h' = h ∧ ∀ j, j < i → l[j]? = m[j]?) (Nat.zero_le _) ⟨rfl, by omega⟩ ?_
    rintro i _ nx hi ⟨rfl, hj⟩ hnx
    dsimp only
    rw [oLen_sl hv.1]
    rw [oBin_lss]
    by_cases hlt : i < l.length
    · rw [cond_pos (by omega)]
      obtain ⟨a, ha⟩ : ∃ a, l[i]? = some a := ⟨_, List.getElem?_eq_getElem hlt⟩
      obtain ⟨b, hb⟩ : ∃ b, m[i]? = some b := ⟨_, List.getElem?_eq_getElem (by omega)⟩
      refine oGetK cal_len (by omega) hv (fun h' hd => hd ▸ Ext.refl _) ha ?_
      refine oGetK cal_len (by omega) hw (fun h' hd => hd ▸ Ext.refl _) hb ?_
      refine (oNeqS (by kernel_rfl) (eqAl a b)).2 ?_
      by_cases hab : a = b
      · rw [decide_eq_true hab]
        show cond (.bool false) _ _
        rw [cond_f, oBin_add, wrap_succ i _ hlt (by omega)]
        refine hnx _ hlt ⟨rfl, fun j hj' => ?_⟩
        by_cases e : j = i
        · subst e; rw [ha, hb, hab]
        · exact hj j (by omega)
      · rw [decide_eq_false hab]
        show cond (.bool true) _ _
        rw [cond_t]
        refine ⟨?_, rfl⟩
        rw [decide_eq_false]
        rintro rfl
        rw [ha] at hb
        exact hab (by simpa using hb)
    · rw [cond_neg (by omega)]
      refine ⟨?_, rfl⟩
      rw [decide_eq_true]
      apply List.ext_getElem?
      intro j
      by_cases h1 : j < l.length
      · exact hj j (by omega)
      · rw [List.getElem?_eq_none (by omega), List.getElem?_eq_none (by omega)]
  · rw [cond_pos (by omega)]
    refine ⟨?_, rfl⟩
    rw [decide_eq_false]
    rintro rfl
    exact hlm rfl

/-- A summary. -/
structure Sm where
  al : List (Int × Int)
  ends : Bool
  ret : Iv
  mod : List (Str × Iv)
/-- Its six cells. -/
def csm (va vm : Value) (s : Sm) : List Value := va :: .bool s.ends :: (civ s.ret ++ [vm])
theorem csm_len (va vm : Value) (s : Sm) : (csm va vm s).length = 6 := by simp [csm, civ_len]
/-- A value that is a summary. -/
def IsSm (h : Heap) (v : Value) (s : Sm) : Prop := ∃ va vm, v = .agg (csm va vm s).toArray ∧ RdA h va s.al ∧ RdN h vm s.mod
theorem IsSm.ext {h h' : Heap} {v : Value} {s : Sm} (i : IsSm h v s) (he : Ext h h') : IsSm h' v s := by
  obtain ⟨va, vm, h1, h2, h3⟩ := i
  exact ⟨va, vm, h1, h2.ext he, h3.ext he⟩
theorem sl_one {v : Value} {n : Nat} (h : IsSl v n) : Sh.one v = true := by
  obtain ⟨a, c, rfl⟩ := h
  rfl
theorem csm_one {va vm : Value} {s : Sm} {n m : Nat} (h1 : IsSl va n) (h2 : IsSl vm m) : ∀ y ∈ csm va vm s, Sh.one y = true := by
  intro y hy
  simp only [csm, List.mem_cons, List.mem_append, List.not_mem_nil, or_false] at hy
  rcases hy with rfl | rfl | hy | rfl
  · exact sl_one h1
  · rfl
  · exact civ_one _ y hy
  · exact sl_one h2
theorem csm_0 {va vm : Value} {s : Sm} : (csm va vm s)[0]? = some va := rfl
theorem csm_1 {va vm : Value} {s : Sm} : (csm va vm s)[1]? = some (.bool s.ends) := rfl
theorem csm_2 {va vm : Value} {s : Sm} : ((csm va vm s).drop 2).take 3 = civ s.ret := by
  simp only [csm, List.drop_succ_cons, List.drop_zero]
  exact List.take_left' (civ_len _)
theorem csm_5 {va vm : Value} {s : Sm} : (csm va vm s)[5]? = some vm := by
  simp only [csm, List.getElem?_cons_succ]
  rw [List.getElem?_append_right (by rw [civ_len]; omega), civ_len]
  rfl
def Sm.eqB (a b : Sm) : Bool := a.ends == b.ends && (decide (a.ret = b.ret) && (decide (a.al = b.al) && decide (a.mod = b.mod)))
theorem Sm.eqB_iff {a b : Sm} : a.eqB b = true ↔ a = b := by
  obtain ⟨a1, a2, a3, a4⟩ := a
  obtain ⟨b1, b2, b3, b4⟩ := b
  simp only [Sm.eqB, Bool.and_eq_true, beq_iff_eq, decide_eq_true_eq, Sm.mk.injEq]
  exact ⟨fun ⟨h1, h2, h3, h4⟩ => ⟨h3, h1, h2, h4⟩, fun ⟨h1, h2, h3, h4⟩ => ⟨h2, h3, h1, h4⟩⟩
/-- Not too great. -/
def Sm.Lit (s : Sm) : Prop := s.al.length ≤ 1000000 ∧ s.mod.length ≤ 1000000
set_option maxRecDepth 8000 in
theorem same_ok [Gd] {h : Heap} {v w : Value} {a b : Sm} (ha : IsSm h v a) (hb : IsSm h w b) (la : a.Lit) (lb : b.Lit) :
    HC Try.prog 8 #[v, w] h fun u h' => u = .bool (a.eqB b) ∧ Ext h h' := by
  obtain ⟨va, vm, rfl, ha1, ha2⟩ := ha
  obtain ⟨wa, wm, rfl, hb1, hb2⟩ := hb
  refine sh_digest_Same ?_
  unfold g_digest_Same
  refine oBoxAll (St.nil h) fun t2 h1 hp2 s1 => ?_
  refine oBoxAll s1 fun t3 h2 hp3 s2 => ?_
  have e2 := s2.ext
  have r3 : ∀ h', Eq h2 h' → Rd h' t3 (csm wa wm b) := fun h' e => e ▸ s2.rd
  have r2 : ∀ h', Eq h2 h' → Rd h' t2 (csm va vm a) := fun h' e => e ▸ s2.swap.rd
  refine oFld r2 hp2 csm_1 ?_
  refine oFld r3 hp3 csm_1 ?_
  rw [oBin_bool_eql]
  refine join_intro fun k1 hk1 => ?_
  have tail : ∀ x, (a.ends = b.ends → x = .bool (decide (a.ret = b.ret))) → k1 x := fun x hx => by
    rw [hk1]
    dsimp only
    rw [oPick_bool]
    have e : (if (a.ends == b.ends) = true then x else Value.bool false) = .bool (a.ends == b.ends && decide (a.ret = b.ret)) := by
      by_cases hh : a.ends = b.ends
      · rw [if_pos (by simpa using hh), hx hh]; simp [hh]
      · rw [if_neg (by simpa using hh)]; simp [hh]
    rw [e]
    refine join_intro fun k2 hk2 => ?_
    have tail2 : ∀ x, ((a.ends == b.ends && decide (a.ret = b.ret)) = true → x = .bool (decide (a.al = b.al))) → k2 x h2 := fun x hx => by
      rw [hk2]
      dsimp only
      rw [oPick_bool]
      have e : (if (a.ends == b.ends && decide (a.ret = b.ret)) = true then x else Value.bool false) = .bool (a.ends == b.ends && decide (a.ret = b.ret) && decide (a.al = b.al)) := by
        by_cases hh : (a.ends == b.ends && decide (a.ret = b.ret)) = true
        · rw [if_pos hh, hx hh, hh]; simp
        · rw [if_neg hh]; simp only [Bool.not_eq_true] at hh; rw [hh]; simp
      rw [e]
      refine join_intro fun k3 hk3 => ?_
      have tail3 : ∀ x, ((a.ends == b.ends && decide (a.ret = b.ret) && decide (a.al = b.al)) = true → x = .bool (decide (a.mod = b.mod))) → k3 x h2 := fun x hx => by
        rw [hk3]
        dsimp only
        rw [oPick_bool]
        refine ⟨?_, e2⟩
        unfold Sm.eqB
        by_cases hh : (a.ends == b.ends && decide (a.ret = b.ret) && decide (a.al = b.al)) = true
        · rw [if_pos hh, hx hh]
          simp only [Bool.and_eq_true] at hh
          rw [hh.1.1, hh.1.2, hh.2]; simp
        · rw [if_neg hh]
          simp only [Bool.not_eq_true] at hh
          rw [← Bool.and_assoc, ← Bool.and_assoc, hh]; simp
      clear hk3
      by_cases hh : (a.ends == b.ends && decide (a.ret = b.ret) && decide (a.al = b.al)) = true
      · rw [hh, cond_t]
        refine oFld r2 hp2 csm_5 ?_
        refine oFld r3 hp3 csm_5 ?_
        refine oCall_func (.mono (eqNms_ok (ha2.ext e2) (hb2.ext e2) la.2 lb.2) ?_)
        rintro u h5 ⟨rfl, rfl⟩
        exact tail3 _ fun _ => rfl
      · simp only [Bool.not_eq_true] at hh
        rw [hh, cond_f]
        exact tail3 _ fun h => absurd h (by rw [hh]; simp)
    clear hk2
    by_cases hh : (a.ends == b.ends && decide (a.ret = b.ret)) = true
    · rw [hh, cond_t]
      refine oFld r2 hp2 csm_0 ?_
      refine oFld r3 hp3 csm_0 ?_
      refine oCall_func (.mono (eqAls_ok (ha1.ext e2) (hb1.ext e2) la.1 lb.1) ?_)
      rintro u h5 ⟨rfl, rfl⟩
      exact tail2 _ fun _ => rfl
    · simp only [Bool.not_eq_true] at hh
      rw [hh, cond_f]
      exact tail2 _ fun h => absurd h (by rw [hh]; simp)
  clear hk1
  by_cases hh : a.ends = b.ends
  · rw [show (a.ends == b.ends) = true from by simpa using hh, cond_t]
    refine oFldA r2 hp2 (by rw [csm_len]; omega) ?_
    refine oFldA r3 hp3 (by rw [csm_len]; omega) ?_
    rw [csm_2, csm_2]
    refine (oEqlS (by kernel_rfl) (eqIv a.ret b.ret)).2 ?_
    exact tail _ fun _ => rfl
  · rw [show (a.ends == b.ends) = false from by simpa using hh, cond_f]
    exact tail _ fun h => absurd h hh
end Go.Proofs.Ytaibfbakhiainaa.Old
namespace Go.Sh
open Go.Proofs Go.Lib Go.Sort Go.Shelf
variable {P : Program} {ρ : Ren} {α : Type} [Inhabited α]

/-- Draws are counted, nothing panics. -/
@[reducible] def gdT : Gd := ⟨True, fun _ _ => False⟩
/-- What a call by heaps comes to, in the sort's words. -/
theorem HC.grown [Gd] (hg : Gd.g) (hn : ∀ x h, ¬ Gd.pn x h) {f : FuncId} {args : Array Value} {h : Heap} {K : Value → Heap → Prop} (hc : HC P f args h fun u h' => K u h' ∧ Ext h h') {w : World} (hw : w.heap = h) :
    Calls P f args w fun e w' => ∃ v, e = .returned v ∧ K v w'.heap ∧ ∃ q os, w' = grow (w.drewN q) os := by
  refine (hc.calls hn w hw).mono ?_
  rintro e w' ⟨v, rfl, hs, hk, hx⟩
  refine ⟨v, rfl, hk, w'.drawn - w.drawn, w'.heap.extract h.size w'.heap.size, ?_⟩
  have hheap : w'.heap = w.heap ++ w'.heap.extract h.size w'.heap.size := by
    rw [hw]
    apply Array.ext_getElem?
    intro i
    rcases Nat.lt_or_ge i h.size with hi | hi
    · rw [Array.getElem?_append_left hi, hx.2 i hi]
    · rw [Array.getElem?_append_right hi, Array.getElem?_extract]
      split
      · congr 1; omega
      · rw [Array.getElem?_eq_none (by omega)]
  obtain ⟨hp, tp, dr, os, ou⟩ := w
  obtain ⟨hp', tp', dr', os', ou'⟩ := w'
  obtain ⟨h1, h2, h3, h4⟩ := hs
  have h4 := h4 hg
  simp only at h1 h2 h3 h4 hheap
  subst h1; subst h2; subst h3
  simp only [grow, World.drewN, World.mk.injEq, true_and, and_true]
  exact ⟨hheap, by omega⟩
theorem flatK_list (enc : α → List Value) (k : Nat) (hk : ∀ x, (enc x).length = k) (k0 : 0 < k) (d : List α) : flatK enc k d.toArray = (d.flatMap enc).toArray := by
  apply Array.ext
  · simp [Sh.flatK_len hk]
  · intro t h1 h2
    have ht : t < d.length * k := by simpa using h1
    have h3 := get_flatK enc k d.toArray t (by simpa using ht)
    rw [getElem!_pos _ t h1] at h3
    rw [h3]
    have hq : t / k < d.length := Nat.div_lt_of_lt_mul (by rw [Nat.mul_comm]; exact ht)
    have hr : t % k < k := Nat.mod_lt _ k0
    rw [getElem!_pos d.toArray _ (by simpa using hq)]
    have hx : (enc d[t / k])[t % k]? = some (enc d[t / k])[t % k]! := by
      rw [getElem!_pos _ _ (by rw [hk]; exact hr), List.getElem?_eq_getElem (by rw [hk]; exact hr)]
    have h4 := Sh.flatK_get (k := k) hk (l := d) (i := t / k) (off := t % k) (a := d[t / k]) (List.getElem?_eq_getElem hq) hx
    rw [Nat.mul_comm, Nat.div_add_mod] at h4
    have h5 : (d.flatMap enc)[t]? = some (d.flatMap enc)[t] := List.getElem?_eq_getElem (by simpa using h2)
    rw [h5] at h4
    simp only [Option.some.injEq] at h4
    simp only [List.getElem_toArray]
    exact h4.symm
theorem putCells_id (pre post l l' : List Value) (hl : l'.length = l.length) : putCells id pre.length l'.toArray (pre ++ l ++ post).toArray = (pre ++ l' ++ post).toArray := by
  apply Array.ext_getElem?
  intro j
  simp only [putCells, Array.getElem?_mapIdx, List.getElem?_toArray, List.size_toArray, hl]
  rcases Nat.lt_or_ge j pre.length with h1 | h1
  · rw [List.append_assoc, List.append_assoc, List.getElem?_append_left h1, List.getElem?_append_left h1, List.getElem?_eq_getElem h1]
    simp only [Option.map_some]
    rw [if_neg (by omega)]
  · rw [List.append_assoc, List.append_assoc, List.getElem?_append_right h1, List.getElem?_append_right h1]
    rcases Nat.lt_or_ge (j - pre.length) l.length with h2 | h2
    · rw [List.getElem?_append_left h2, List.getElem?_append_left (by omega)]
      rw [List.getElem?_eq_getElem h2, List.getElem?_eq_getElem (by omega : j - pre.length < l'.length)]
      simp only [Option.map_some]
      rw [if_pos (by omega)]
      congr 1
      rw [getElem!_pos _ _ (by simp; omega)]
      simp
    · rw [List.getElem?_append_right h2, List.getElem?_append_right (by omega)]
      simp only [hl]
      cases hx : post[j - pre.length - l.length]? with
      | none => rfl
      | some x =>
        simp only [Option.map_some]
        rw [if_neg (by omega)]

theorem sort_rowK [Gd] (L : SlLaysF0.n6 P ρ) (k : Nat) (k0 : 0 < k) (aE : ∀ w, (isAgg (ρ.t 24)).run P w = .ok true w) (zE : ∀ w, (Go.sizeOf (ρ.t 24)).run P w = .ok k w) (enc : α → List Value) (hk : ∀ x, (enc x).length = k) (h1 : ∀ x, ∀ v ∈ enc x, v.oneCell' = true)
    (cf : α → α → Int) (hO : SWO (ltOf cf)) (hT : ∀ x y, (ltOf cf) x y = false → (ltOf cf) y x = false → x = y) (g : Nat) (cb : Array Value)
    (eg : ∀ args w, (callFunc g args).run P w = .ok (.enter g args) w) (hc : ∀ h x y, @HC gdT P g (#[.agg (enc x).toArray, .agg (enc y).toArray] ++ cb) h fun u h' => u = .int .i64 (cf x y) ∧ Ext h h')
    {h0 h : Heap} {v : Value} {d : List α} {M : List HP} (s : St h0 h (Row k v d.length (d.flatMap enc) :: M)) (hsz : d.length < 4611686018427387904) :
    HC P (ρ.f 6) #[v, .func (.func g) #[] cb] h fun u h' => u = .tuple #[] ∧ St h0 h' (Row k v d.length ((d.mergeSort fun x y => !(ltOf cf) y x).flatMap enc) :: M) := by
  refine HC.of_ret fun w hw => ?_
  have hml : (d.mergeSort fun x y => !(ltOf cf) y x).length = d.length := List.length_mergeSort d
  have hfl : ((d.mergeSort fun x y => !(ltOf cf) y x).flatMap enc).length = (d.flatMap enc).length := by rw [Sh.flatK_len hk, Sh.flatK_len hk, hml]
  obtain ⟨_, S0, ⟨_, hown⟩, _, _⟩ := id s
  rcases hown with ⟨rfl, hn⟩ | ⟨a, cap, post, rfl, hcap, hpost, hcells⟩
  · have hd : d = [] := by simpa using hn
    subst hd
    refine (AnyF.slices_SortFunc_none L none 0 (.func (.func g) #[] cb) w).mono ?_
    rintro e w' ⟨rfl, rfl⟩
    exact ⟨_, rfl, .refl _, rfl, by rw [hw]; simpa using s⟩
  · obtain ⟨b, o, T, pre, post', hp, hSb, hb, rfl⟩ := hcells
    simp only [Value.pointer.injEq, Option.some.injEq] at hp
    subst hp
    have hblk : b < w.heap.size := by rw [hw]; exact lt_of_some hb
    have hH : HoldsK enc k w b pre.length d.toArray := by
      unfold HoldsK
      rw [flatK_list enc k hk k0]
      intro j hj
      simp only [List.size_toArray] at hj
      constructor
      · rw [cell?_eq, hw]
        simp only [cellAt, hb, Option.isSome_none, Bool.false_eq_true, if_false, List.getElem?_toArray]
        rw [List.append_assoc, List.append_assoc, List.getElem?_append_right (by omega), Nat.add_sub_cancel_left, List.getElem?_append_left hj, List.getElem?_eq_getElem hj,
          getElem!_pos _ _ (by simpa using hj)]
        simp
      · rw [frozen?_eq, hw]
        simp [frozenAt, hb]
    have hcmp : CmpLays P g cb enc k cf b pre.length d.toArray.size w := fun m os dk hs x y => by
      refine (@HC.grown P gdT trivial (fun _ _ h => h) _ _ _ _ (hc _ x y) _ rfl).mono ?_
      rintro e w' ⟨v, rfl, rfl, q, os', hw'⟩
      exact ⟨rfl, q, os', hw'⟩
    have hcall := AnyQ.slices_SortFunc_total L k aE zE enc hk h1 cf hO g cb b pre.length cap d.toArray w eg hcmp hH hblk (by simpa using hsz) hT
    simp only [List.size_toArray] at hcall
    refine hcall.mono ?_
    rintro e w' ⟨rfl, n, os, rfl⟩
    refine ⟨_, rfl, ⟨rfl, rfl, rfl, fun _ => by first | exact Nat.le_refl _ | exact Nat.le_succ _ | exact Nat.le_add_right _ _⟩, rfl, ?_⟩
    refine St.step s fun S hA hS => ?_
    obtain ⟨hl, hown⟩ := hA
    have hheap : (sortWorldK enc k w b pre.length n (d.mergeSort fun x y => !(ltOf cf) y x).toArray os).heap = (setB h b (.cells (pre ++ (d.mergeSort fun x y => !(ltOf cf) y x).flatMap enc ++ (post ++ post')).toArray T (0, 0))) ++ os := by
      unfold sortWorldK putRowK
      rw [flatK_list enc k hk k0]
      show (w.heap.modify b _) ++ os = _
      congr 1
      rw [hw]
      apply Array.ext_getElem?
      intro i
      rw [Array.getElem?_modify]
      by_cases hi : b = i
      · subst hi
        rw [setB_eq (lt_of_some hb), if_pos rfl, hb]
        simp only [Option.map_some, onCells]
        congr 2
        have := putCells_id pre (post ++ post') (d.flatMap enc) ((d.mergeSort fun x y => !(ltOf cf) y x).flatMap enc) hfl
        simpa using this
      · rw [if_neg hi, setB_ne (fun e => hi e.symm)]
    rw [hheap]
    have hb2 : ∀ i, i < h.size → (setB h b (.cells (pre ++ (d.mergeSort fun x y => !(ltOf cf) y x).flatMap enc ++ (post ++ post')).toArray T (0, 0)) ++ os)[i]? = (setB h b (.cells (pre ++ (d.mergeSort fun x y => !(ltOf cf) y x).flatMap enc ++ (post ++ post')).toArray T (0, 0)))[i]? := fun i hi => by
      rw [Array.getElem?_append_left (by rw [setB_size]; exact hi)]
    rcases hown with ⟨hv, _⟩ | ⟨a', cap', post1, hv, h2, h3, h4⟩
    · cases hv
    · simp only [Value.slice.injEq, Option.some.injEq, true_and] at hv
      obtain ⟨rfl, rfl⟩ := hv
      obtain ⟨b', o', T', pre1, post2, hp, hS1, hb1, ho1⟩ := h4
      simp only [Value.pointer.injEq, Option.some.injEq, Addr.mk.injEq, and_true] at hp
      obtain ⟨rfl, rfl⟩ := hp
      refine ⟨by rw [Array.size_append, setB_size]; omega, fun i hi hni => ?_, S, ⟨?_, .inr ⟨_, cap, post, rfl, hcap, hpost, b, pre.length, T, pre, post', rfl, hS1, ?_, rfl⟩⟩, fun i hi => .inl hi⟩
      · rw [hb2 i hi, setB_ne (fun e : i = b => hni (by rw [e]; exact hS1))]
      · rw [Sh.flatK_len hk, hml]
      · rw [hb2 b (lt_of_some hb), setB_eq (lt_of_some hb)]
        simp
end Go.Sh
namespace Go.Proofs.Ytaibfbakhiainaa.Old
open Go Go.Proofs Go.Shelf

def sortAl_ren : Go.Shelf.Ren := ⟨fun | 6 => 44 | 15 => 63 | 14 => 62 | 28 => 80 | 29 => 81 | 20 => 72 | 21 => 73 | 22 => 74 | 23 => 75 | 24 => 76 | 25 => 77 | 26 => 78 | 27 => 79 | 46 => 91 | 47 => 92 | 48 => 93 | 49 => 94 | 50 => 95 | 57 => 100 | n => n, fun | 22 => 28 | 24 => 46 | 25 => 101 | 3 => 3 | 39 => 93 | 0 => 0 | 53 => 139 | 55 => 73 | 4 => 4 | 46 => 132 | 45 => 131 | 50 => 136 | 5 => 5 | 9 => 9 | 66 => 147 | 70 => 150 | 76 => 154 | 77 => 155 | n => n, fun | n => n⟩
theorem sortAl : Go.Proofs.SlLaysF0.n6 Try.prog sortAl_ren where
  mixed := by kernel_rfl
  f6 := ⟨ "slices.SortFunc[[]augur/api.Alarm,augur/api.Alarm]", by decide, Try.func44.trans (congrArg some (by kernel_rfl))⟩
  f14 := ⟨ "slices.pdqsortCmpFunc[augur/api.Alarm]", by decide, Try.func62.trans (congrArg some (by kernel_rfl))⟩
  f15 := Try.func63.trans (congrArg some (by kernel_rfl))
  f20 := ⟨ "slices.insertionSortCmpFunc[augur/api.Alarm]", by decide, Try.func72.trans (congrArg some (by kernel_rfl))⟩
  f21 := ⟨ "slices.heapSortCmpFunc[augur/api.Alarm]", by decide, Try.func73.trans (congrArg some (by kernel_rfl))⟩
  f22 := ⟨ "slices.breakPatternsCmpFunc[augur/api.Alarm]", by decide, Try.func74.trans (congrArg some (by kernel_rfl))⟩
  f23 := ⟨ "slices.choosePivotCmpFunc[augur/api.Alarm]", by decide, Try.func75.trans (congrArg some (by kernel_rfl))⟩
  f24 := ⟨ "slices.reverseRangeCmpFunc[augur/api.Alarm]", by decide, Try.func76.trans (congrArg some (by kernel_rfl))⟩
  f25 := ⟨ "slices.partialInsertionSortCmpFunc[augur/api.Alarm]", by decide, Try.func77.trans (congrArg some (by kernel_rfl))⟩
  f26 := ⟨ "slices.partitionEqualCmpFunc[augur/api.Alarm]", by decide, Try.func78.trans (congrArg some (by kernel_rfl))⟩
  f27 := ⟨ "slices.partitionCmpFunc[augur/api.Alarm]", by decide, Try.func79.trans (congrArg some (by kernel_rfl))⟩
  f28 := Try.func80.trans (congrArg some (by kernel_rfl))
  f29 := Try.func81.trans (congrArg some (by kernel_rfl))
  f46 := ⟨ "slices.siftDownCmpFunc[augur/api.Alarm]", by decide, Try.func91.trans (congrArg some (by kernel_rfl))⟩
  f47 := Try.func92.trans (congrArg some (by kernel_rfl))
  f48 := Try.func93.trans (congrArg some (by kernel_rfl))
  f49 := ⟨ "slices.medianAdjacentCmpFunc[augur/api.Alarm]", by decide, Try.func94.trans (congrArg some (by kernel_rfl))⟩
  f50 := ⟨ "slices.medianCmpFunc[augur/api.Alarm]", by decide, Try.func95.trans (congrArg some (by kernel_rfl))⟩
  f57 := ⟨ "slices.order2CmpFunc[augur/api.Alarm]", by decide, Try.func100.trans (congrArg some (by kernel_rfl))⟩
  t0 := Try.underlying0
  a0 := Try.isAgg0
  z0 := Try.sizeOf0
  v0 := Try.zeroValue0
  t3 := Try.underlying3
  a3 := Try.isAgg3
  z3 := Try.sizeOf3
  v3 := Try.zeroValue3
  t4 := Try.underlying4
  a4 := Try.isAgg4
  z4 := Try.sizeOf4
  v4 := Try.zeroValue4
  t5 := Try.underlying5
  a5 := Try.isAgg5
  z5 := Try.sizeOf5
  v5 := Try.zeroValue5
  t9 := Try.underlying9
  a9 := Try.isAgg9
  z9 := Try.sizeOf9
  v9 := Try.zeroValue9
  t22 := Try.underlying28
  a22 := Try.isAgg28
  z22 := Try.sizeOf28
  v22 := Try.zeroValue28
  t25 := Try.underlying101
  a25 := Try.isAgg101
  z25 := Try.sizeOf101
  v25 := Try.zeroValue101
  t39 := Try.underlying93
  a39 := Try.isAgg93
  z39 := Try.sizeOf93
  v39 := Try.zeroValue93
  t45 := Try.underlying131
  a45 := Try.isAgg131
  z45 := Try.sizeOf131
  v45 := Try.zeroValue131
  t46 := Try.underlying132
  a46 := Try.isAgg132
  z46 := Try.sizeOf132
  v46 := Try.zeroValue132
  t50 := Try.underlying136
  a50 := Try.isAgg136
  z50 := Try.sizeOf136
  v50 := Try.zeroValue136
  t53 := Try.underlying139
  a53 := Try.isAgg139
  z53 := Try.sizeOf139
  v53 := Try.zeroValue139
  t55 := Try.underlying73
  a55 := Try.isAgg73
  z55 := Try.sizeOf73
  v55 := Try.zeroValue73
  t66 := Try.underlying147
  a66 := Try.isAgg147
  z66 := Try.sizeOf147
  v66 := Try.zeroValue147
  t70 := Try.underlying150
  a70 := Try.isAgg150
  z70 := Try.sizeOf150
  v70 := Try.zeroValue150
  t76 := Try.underlying154
  a76 := Try.isAgg154
  z76 := Try.sizeOf154
  v76 := Try.zeroValue154
  t77 := Try.underlying155
  a77 := Try.isAgg155
  z77 := Try.sizeOf155
  v77 := Try.zeroValue155
end Go.Proofs.Ytaibfbakhiainaa.Old
namespace Go.Proofs.Ytaibfbakhiainaa.Old
open Go Go.Sh Go.Sx Go.Proofs

/-- Which of two numbers is first. -/
def cmpI (a b : Int) : Int := if a < b then -1 else if b < a then 1 else 0
set_option maxRecDepth 8000 in
theorem compare_ok [Gd] {h : Heap} {a b : Int} : HC Try.prog 47 #[.int .i64 a, .int .i64 b] h fun u h' => u = .int .i64 (cmpI a b) ∧ Ext h h' := by
  refine sh_cmp_Compare_int ?_
  unfold g_cmp_Compare_int
  have nan : ∀ (h : Heap) (x : Int), HC Try.prog 64 #[.int .i64 x] h fun u h' => u = .bool false ∧ h' = h := fun h x => by
    refine sh_cmp_isNaN_int ?_
    unfold g_cmp_isNaN_int
    rw [oBin_neq, decide_eq_false (by simp)]
    exact ⟨rfl, rfl⟩
  refine oCall_func (.mono (nan h a) ?_)
  rintro u h1 ⟨rfl, rfl⟩
  refine oCall_func (.mono (nan h1 b) ?_)
  rintro u h2 ⟨rfl, rfl⟩
  rw [cond_f, cond_f, oBin_lss]
  unfold cmpI
  by_cases h1 : a < b
  · rw [cond_pos h1, if_pos h1]
    exact ⟨rfl, Ext.refl _⟩
  · rw [cond_neg h1, if_neg h1, oBin_gtr]
    by_cases h2 : b < a
    · rw [cond_pos h2, if_pos h2]
      exact ⟨rfl, Ext.refl _⟩
    · rw [cond_neg h2, if_neg h2]
      exact ⟨rfl, Ext.refl _⟩
set_option maxRecDepth 8000 in
theorem or_ok [Gd] {h : Heap} {v : Value} {a b : Int} (hv : RdL (fun z : Int => Value.int .i64 z) h v [a, b]) : HC Try.prog 46 #[v] h fun u h' => u = .int .i64 (if a ≠ 0 then a else b) ∧ h' = h := by
  refine sh_cmp_Or_int ?_
  unfold g_cmp_Or_int
  rw [oLen_sl hv.1]
  refine loop1_count 0 2 (fun i h' => h' = h ∧ ∀ j, j < i → ([a, b] : List Int)[j]? = some 0) (Nat.zero_le _) ⟨rfl, by omega⟩ ?_
  rintro i h' nx hi ⟨rfl, hz⟩ hnx
  rw [oBin_lss]
  by_cases hlt : i < 2
  · rw [cond_pos (by simp; omega)]
    obtain ⟨x, hx⟩ : ∃ x, ([a, b] : List Int)[i]? = some x := ⟨_, List.getElem?_eq_getElem (by simpa using hlt)⟩
    refine oGetL hv hx ?_
    rw [oBin_neq]
    by_cases h0 : x = 0
    · rw [cond_neg (by simpa using h0), oBin_add, wrap_succ i _ hlt (by omega)]
      refine hnx _ hlt ⟨rfl, fun j hj => ?_⟩
      by_cases e : j = i
      · subst e; rw [hx, h0]
      · exact hz j (by omega)
    · rw [cond_pos h0]
      refine ⟨?_, rfl⟩
      match i, hx with
      | 0, hx =>
        simp at hx; subst hx
        rw [if_pos h0]
      | 1, hx =>
        have := hz 0 (by omega)
        simp at hx this
        subst hx; subst this
        simp
      | i + 2, hx => omega
  · rw [cond_neg (by simp; omega)]
    have h1 := hz 0 (by omega)
    have h2 := hz 1 (by omega)
    simp at h1 h2
    refine ⟨?_, rfl⟩
    simp [h1, h2]
/-- Which of two alarms is first. -/
def cmpA (a b : Int × Int) : Int := if cmpI a.1 b.1 ≠ 0 then cmpI a.1 b.1 else cmpI a.2 b.2
set_option maxRecDepth 8000 in
theorem cmpA_ok [Gd] (h : Heap) (a b : Int × Int) : HC Try.prog 45 (#[.agg (cal a).toArray, .agg (cal b).toArray] ++ #[]) h fun u h' => u = .int .i64 (cmpA a b) ∧ Ext h h' := by
  refine sh_digest_digest_alarms_1 (v0 := .agg (cal a).toArray) (v1 := .agg (cal b).toArray) ?_
  unfold g_digest_digest_alarms_1
  simp only [join]
  refine oBoxAll (St.nil h) fun t2 h1 hp2 s1 => ?_
  refine oBoxAll s1 fun t3 h2 hp3 s2 => ?_
  have r3 : ∀ h', Ext h2 h' → Rd h' t3 (cal b) := fun h' e => s2.rd.ext e
  have r2 : ∀ h', Ext h2 h' → Rd h' t2 (cal a) := fun h' e => s2.swap.rd.ext e
  refine oFld r2 hp2 (x := .int .i64 a.1) rfl ?_
  refine oFld r3 hp3 (x := .int .i64 b.1) rfl ?_
  refine oFld r2 hp2 (x := .int .i64 a.2) rfl ?_
  refine oFld r3 hp3 (x := .int .i64 b.2) rfl ?_
  refine oCall_func (.mono compare_ok ?_)
  rintro t9 h3 ⟨rfl, e3⟩
  refine ⟨e3, ?_⟩
  refine oCall_func (.mono compare_ok ?_)
  rintro t14 h4 ⟨rfl, e4⟩
  refine ⟨e4, ?_⟩
  refine oBuild2o (St.nil h4) rfl rfl rfl fun t15 h5 s5 => ⟨s5.ext, ?_⟩
  refine oCall_func (.mono (or_ok (a := cmpI a.1 b.1) (b := cmpI a.2 b.2) (St.rdL (enc := fun z : Int => Value.int .i64 z) (n := 2) s5)) ?_)
  rintro t16 h6 ⟨rfl, rfl⟩
  refine ⟨Ext.refl _, rfl, (((s2.ext.trans e3).trans e4).trans s5.ext)⟩
theorem cmpA_lt (a b : Int × Int) : cmpA a b < 0 ↔ a.1 < b.1 ∨ (a.1 = b.1 ∧ a.2 < b.2) := by
  unfold cmpA cmpI
  repeat' split
  all_goals omega
/-- The order of alarms. -/
def ordA : Sx.Ord (Int × Int) where
  lt a b := decide (cmpA a b < 0)
  irrefl a := by rw [decide_eq_false]; rw [cmpA_lt]; omega
  trans a b c := by simp only [decide_eq_true_eq, cmpA_lt]; omega
  tri a b := by
    simp only [decide_eq_false_iff_not, cmpA_lt]
    intro h1 h2
    have : a.1 = b.1 ∧ a.2 = b.2 := by omega
    exact Prod.ext this.1 this.2
theorem swoA : Go.Sort.SWO (Go.Proofs.ltOf cmpA) := by
  constructor
  all_goals
    intros
    simp only [Go.Proofs.ltOf, decide_eq_true_eq, decide_eq_false_iff_not, cmpA_lt] at *
    omega
/-- The alarms sorted. -/
def sortA (d : List (Int × Int)) : List (Int × Int) := d.mergeSort fun x y => !(Go.Proofs.ltOf cmpA) y x
theorem sortAl_ok [Gd] {h0 h : Heap} {v : Value} {d : List (Int × Int)} {M : List HP} (s : St h0 h (Row 2 v d.length (d.flatMap cal) :: M)) (hsz : d.length < 4611686018427387904) :
    HC Try.prog 44 #[v, .func (.func 45) #[] #[]] h fun u h' => u = .tuple #[] ∧ St h0 h' (Row 2 v d.length ((sortA d).flatMap cal) :: M) := by
  have hT : ∀ x y, (Go.Proofs.ltOf cmpA) x y = false → (Go.Proofs.ltOf cmpA) y x = false → x = y := fun x y h1 h2 => ordA.tri x y h1 h2
  exact sort_rowK sortAl 2 (by omega) Try.isAgg46 Try.sizeOf46 cal cal_len (fun x v hv => by
    simp [cal] at hv
    rcases hv with rfl | rfl <;> rfl) cmpA swoA hT 45 #[] (fun args w => Fnc.run args w) (@cmpA_ok gdT) s hsz
theorem sortA_perm (d : List (Int × Int)) : (sortA d).Perm d := List.mergeSort_perm _ _
theorem sortA_len (d : List (Int × Int)) : (sortA d).length = d.length := (sortA_perm d).length_eq
theorem sortA_sorted (d : List (Int × Int)) : (sortA d).Pairwise fun a b => ordA.lt b a = false := by
  have h := List.pairwise_mergeSort (le := fun x y => !(Go.Proofs.ltOf cmpA) y x) (fun a b c h1 h2 => by
    simp only [Bool.not_eq_true'] at *
    exact swoA.ntrans _ _ _ h2 h1) (fun a b => by
    by_cases h : Go.Proofs.ltOf cmpA b a = true
    · have := swoA.irrefl a
      have h2 : Go.Proofs.ltOf cmpA a b = false := by
        cases h3 : Go.Proofs.ltOf cmpA a b with
        | false => rfl
        | true => have := swoA.trans _ _ _ h3 h; rw [swoA.irrefl] at this; cases this
      simp [h2]
    · simp only [Bool.not_eq_true] at h
      simp [h]) d
  refine h.imp ?_
  intro a b hab
  have h2 : Go.Proofs.ltOf cmpA b a = false := by simpa using hab
  exact h2
end Go.Proofs.Ytaibfbakhiainaa.Old
namespace Go.Proofs.Ytaibfbakhiainaa.Old
open Go Go.Sh Go.Sx Go.Proofs

set_option maxRecDepth 8000 in
theorem growA_ok [Gd] {h : Heap} {n : Nat} (hn : n ≤ 1000000000) : HC Try.prog 61 #[.slice none 0 0, .int .i64 n] h fun u h' => St h h' [Row 2 u 0 (([] : List (Int × Int)).flatMap cal)] := by
  refine sh_slices_Grow_api_Alarm_api_Alarm ?_
  unfold g_slices_Grow_api_Alarm_api_Alarm
  simp only [join]
  rw [oBin_lss, cond_neg (by omega), oCap_sl, oLen_sl ⟨_, _, rfl⟩, oBin_sub, wrap_int _ (by omega) (by omega), oBin_sub, wrap_int _ (by omega) (by omega), oBin_gtr]
  by_cases h0 : n = 0
  · subst h0
    rw [cond_neg (by simp)]
    exact (St.nil h).nilRowK 2
  · rw [cond_pos (by omega), oCap_sl]
    refine oSliceR (m := 0) ((St.nil h).nilRowK 2) (Nat.le_refl _) fun v' s' => ?_
    obtain ⟨a, c, rfl⟩ := s'.row.1
    have hv : (Value.slice a 0 c) = .slice none 0 0 := by
      obtain ⟨S, ⟨_, hc⟩, hS⟩ := s'.get
      rcases hc with ⟨h1, _⟩ | ⟨a', cap, post, h1, _, _, h4⟩
      · exact h1
      · obtain ⟨b, o, T, pre, post2, _, hSb, _, _⟩ := h4
        have := hS b hSb
        omega
    rw [hv]
    have e1 : ((n : Int) - (((0 : Nat) : Int) - ((0 : Nat) : Int))) = (n : Int) := by omega
    rw [e1]
    refine oAppMk (St.nil h) (by rfl) (by omega) (by omega) (by omega) (by omega) fun t22 h2 s2 => ?_
    rw [oLen_sl ⟨_, _, rfl⟩]
    refine oSliceR (m := 0) s2 (Nat.zero_le _) fun v2 s3 => ?_
    simpa using s3
theorem flat_le {α : Type} {B : Nat} {ll : List (List α)} (hb : ∀ l ∈ ll, l.length ≤ B) : ∀ i, (ll.take i).flatten.length ≤ i * B := by
  intro i
  induction i with
  | zero => simp
  | succ i ih =>
    rw [List.take_add_one, List.flatten_append, List.length_append, Nat.add_mul, Nat.one_mul]
    refine Nat.add_le_add ih ?_
    cases hg : ll[i]? with
    | none => simp
    | some l => simpa using hb l (List.mem_of_getElem? hg)
/-- A slice of slices of structs that can be read. -/
def RdKK (h : Heap) (v : Value) (ll : List (List (Int × Int))) : Prop :=
  ∃ vs : List Value, vs.length = ll.length ∧ RdL (fun x : Value => x) h v vs ∧ ∀ (i : Nat) (x : Value) (l : List (Int × Int)), vs[i]? = some x → ll[i]? = some l → RdA h x l
set_option maxRecDepth 8000 in
theorem concatA_ok [Gd] {h : Heap} {v : Value} {ll : List (List (Int × Int))} (r : RdKK h v ll) (hl : ll.length ≤ 1000) (hb : ∀ l ∈ ll, l.length ≤ 100000) :
    HC Try.prog 43 #[v] h fun u h' => St h h' [Row 2 u ll.flatten.length (ll.flatten.flatMap cal)] := by
  obtain ⟨vs, hvl, rv, re⟩ := r
  have hfl : ∀ i, (ll.take i).flatten.length ≤ i * 100000 := fun i => flat_le hb i
  refine sh_slices_Concat_api_Alarm_api_Alarm ?_
  unfold g_slices_Concat_api_Alarm_api_Alarm
  rw [oLen_sl rv.1, hvl]
  refine ⟨fun μ a b h' => ∃ i : Nat, μ = ll.length - i ∧ i ≤ ll.length ∧ a = .int .i64 ((ll.take i).flatten.length : Nat) ∧ b = .int .i64 i ∧ h' = h, ll.length, ⟨0, rfl, Nat.zero_le _, by simp, rfl, rfl⟩, ?_⟩
  rintro μ a b h' ⟨i, rfl, hi, rfl, rfl, rfl⟩
  dsimp only
  rw [oBin_lss]
  have hfi := hfl i
  by_cases hlt : i < ll.length
  · rw [cond_pos (by omega)]
    refine join_intro fun k hk => ?_
    obtain ⟨x, hx⟩ : ∃ x, vs[i]? = some x := ⟨_, List.getElem?_eq_getElem (by omega)⟩
    obtain ⟨l, hll⟩ : ∃ l, ll[i]? = some l := ⟨_, List.getElem?_eq_getElem hlt⟩
    have hxl := re i x l hx hll
    have hlb := hb l (List.mem_of_getElem? hll)
    refine oGetL rv hx ?_
    rw [oLen_sl hxl.1, oBin_add, wrap_int _ (by omega) (by omega), oBin_lss, cond_neg (by omega), hk]
    dsimp only
    rw [oBin_add, wrap_succ i _ hlt (by omega)]
    refine ⟨ll.length - (i + 1), by omega, i + 1, rfl, by omega, ?_, rfl, rfl⟩
    rw [List.take_add_one, hll, List.flatten_append, List.length_append]
    simp
  · rw [cond_neg (by omega)]
    have hie : i = ll.length := by omega
    subst hie
    have hfe := hfl ll.length
    rw [List.take_length] at hfe ⊢
    refine oCall_func (.mono (growA_ok (by omega)) ?_)
    intro t24 h1 s1
    rw [oLen_sl rv.1, hvl]
    refine ⟨fun μ a b h2 => ∃ i : Nat, μ = ll.length - i ∧ i ≤ ll.length ∧ b = .int .i64 i ∧ St h' h2 [Row 2 a (ll.take i).flatten.length ((ll.take i).flatten.flatMap cal)], ll.length, ⟨0, rfl, Nat.zero_le _, rfl, by simpa using s1⟩, ?_⟩
    rintro μ a b h2 ⟨i, rfl, hi, rfl, s2⟩
    dsimp only
    rw [oBin_lss]
    by_cases hlt : i < ll.length
    · rw [cond_pos (by omega)]
      obtain ⟨x, hx⟩ : ∃ x, vs[i]? = some x := ⟨_, List.getElem?_eq_getElem (by omega)⟩
      obtain ⟨l, hll⟩ : ∃ l, ll[i]? = some l := ⟨_, List.getElem?_eq_getElem hlt⟩
      have hxl := (re i x l hx hll).ext s2.ext
      have hlb := hb l (List.mem_of_getElem? hll)
      have hfi := hfl i
      refine oGetL (rv.ext s2.ext) hx ?_
      refine oAppendR (m := l.length) (xs := l.flatMap cal) s2 rfl (by omega) hxl.1 (flatK_len cal_len l) hxl.2 (fun y hy => by
        obtain ⟨z, _, hz⟩ := List.mem_flatMap.1 hy
        exact cal_one z y hz) (by omega) (by omega) fun t33 h5 s5 => ?_
      rw [oBin_add, wrap_succ i _ hlt (by omega)]
      refine ⟨ll.length - (i + 1), by omega, i + 1, rfl, by omega, rfl, ?_⟩
      rw [List.take_add_one, hll, List.flatten_append, List.length_append, List.flatMap_append]
      simpa using s5
    · rw [cond_neg (by omega)]
      have hie2 : i = ll.length := by omega
      subst hie2
      rw [List.take_length] at s2
      exact s2
end Go.Proofs.Ytaibfbakhiainaa.Old
namespace Go.Proofs.Ytaibfbakhiainaa.Old
open Go Go.Sh Go.Sx Go.Proofs

theorem oFA {P : Program} {t : TypeId} {i off : Nat} [Fld P t i off] {p : Value} {D : Heap → Prop} {K : Value → Prop} (hp : ∃ a, p = .pointer (some a)) (hk : K (padd p off)) : oFieldAddr P t p i D K := by
  have := oFieldAddr_own (P := P) (t := t) (i := i) (off := off) (p := p) (n := 0) (D := D) (K := K) hp (by rw [Nat.zero_add]; exact hk)
  rwa [padd_zero] at this
theorem cells_sl {v : Value} {n : Nat} (h : IsSl v n) : v.cells = #[v] := by
  obtain ⟨a, c, rfl⟩ := h
  rfl
theorem padd_ptr {p : Value} (hp : ∃ a, p = .pointer (some a)) (n : Nat) : ∃ a, padd p n = .pointer (some a) := by
  obtain ⟨a, rfl⟩ := hp
  exact ⟨_, rfl⟩
set_option maxRecDepth 8000 in
theorem compactA_ok [Gd] {h0 h : Heap} {v : Value} {l : List (Int × Int)} {L : List HP} (s : St h0 h (Row 2 v l.length (l.flatMap cal) :: L)) (hl : l.length ≤ 4611686018427387904) :
    HC Try.prog 48 #[v] h fun u h' => St h0 h' (Row 2 u (dd l).length ((dd l).flatMap cal) :: L) := by
  refine sh_slices_Compact_api_Alarm_api_Alarm ?_
  have eq1 : g_slices_Compact_api_Alarm_api_Alarm = gCompact Try.prog 28 46 := by
    unfold g_slices_Compact_api_Alarm_api_Alarm gCompact
    rfl
  rw [eq1]
  refine gCompact_ok (val := fun a => .agg (cal a).toArray) cal_len (by omega) (fun _ => rfl) cal_one (z := .agg #[.int .i64 0, .int .i64 0]) rfl (fun y hy => by simp [Value.cells] at hy; rcases hy with rfl | rfl <;> rfl) ?_ ?_ ?_ hl s fun u h' s' => s'
  · intro h v l i a K r hi hK
    exact oGetK cal_len (by omega) r (fun h' e => e ▸ Ext.refl _) hi hK
  · intro a b x y K hK
    exact (oEqlS (by kernel_rfl) (eqAl a b)).2 hK
  · intro a b x y K hK
    exact (oNeqS (by kernel_rfl) (eqAl a b)).2 hK
/-- The alarms of two lists, in order, each once. -/
def unA (a b : List (Int × Int)) : List (Int × Int) := dd (sortA (a ++ b))
theorem srt_unA (a b : List (Int × Int)) : Srt ordA (unA a b) := dd_srt ordA _ (sortA_sorted _)
theorem mem_unA (x : Int × Int) (a b : List (Int × Int)) : x ∈ unA a b ↔ x ∈ a ∨ x ∈ b := by
  unfold unA
  rw [mem_dd, (sortA_perm _).mem_iff, List.mem_append]
theorem unA_len (a b : List (Int × Int)) : (unA a b).length ≤ a.length + b.length := by
  have := dd_len (sortA (a ++ b))
  rw [sortA_len, List.length_append] at this
  exact this
set_option maxRecDepth 8000 in
theorem alarmsD_ok [Gd] {h0 h : Heap} {p va vb : Value} {cs : List Value} {L : List HP} {a b : List (Int × Int)} (hp : ∃ q, p = .pointer (some q)) (s : St h0 h (Cells p cs :: L)) (hc : cs.length = 6)
    (ra : RdA h va a) (rb : RdA h vb b) (la : a.length ≤ 100000) (lb : b.length ≤ 100000) :
    HC Try.prog 36 #[p, va, vb] h fun u h' => ∃ x, St h0 h' (Cells p (cs.set 0 x) :: Row 2 x (unA a b).length ((unA a b).flatMap cal) :: L) := by
  refine sh_digest_digest_alarms ?_
  unfold g_digest_digest_alarms
  refine oBuild2o (St.nil h) (sl_one ra.1) (sl_one rb.1) rfl fun t9 h1 s0 => ?_
  have hex := s0.ext
  have s1 := s.call s0
  have rr : RdKK h1 t9 [a, b] := by
    refine ⟨[va, vb], rfl, St.rdL (enc := fun x : Value => x) (l := [va, vb]) (n := 2) s1, ?_⟩
    intro i x l hx hl
    match i, hx, hl with
    | 0, hx, hl =>
      simp at hx hl; subst hx; subst hl
      exact ra.ext hex
    | 1, hx, hl =>
      simp at hx hl; subst hx; subst hl
      exact rb.ext hex
    | i + 2, hx, hl => simp at hx
  refine oCall_func (.mono (concatA_ok rr (by simp) (fun l hl => by simp at hl; rcases hl with rfl | rfl <;> assumption)) ?_)
  intro t10 h2 s2
  have s3 := s1.call s2
  have ef : ([a, b] : List (List (Int × Int))).flatten = a ++ b := by simp
  rw [ef] at s3
  refine oCall_func (.mono (sortAl_ok s3 (by rw [List.length_append]; omega)) ?_)
  rintro t12 h3 ⟨rfl, s4⟩
  rw [← sortA_len (a ++ b)] at s4
  refine oCall_func (.mono (compactA_ok s4 (by rw [sortA_len, List.length_append]; omega)) ?_)
  intro t15 h4 s5
  obtain ⟨q, rfl⟩ := hp
  rw [oNil_ptr]
  refine oFA ⟨_, rfl⟩ (oFA (padd_ptr ⟨_, rfl⟩ _) ?_)
  have r5 := s5.row.1
  rw [padd_padd]
  refine oStoreC s5.pick2 (by rw [cells_sl r5]; rfl) (by omega) (by rw [cells_sl r5]; exact one1 (sl_one r5)) fun h5 s6 => ⟨t15, ?_⟩
  rw [cells_sl r5] at s6
  exact s6.pick2.drop
end Go.Proofs.Ytaibfbakhiainaa.Old
namespace Go.Proofs.Ytaibfbakhiainaa.Old
open Go Go.Sh Go.Sx Go.Proofs

/-- A map's entries. -/
def ivm (l : List (Str × Iv)) : List (Str × Value) := l.map fun p => (p.1, eiv p.2)
theorem ivm_keys (l : List (Str × Iv)) : (ivm l).map (·.1) = l.map (·.1) := by simp [ivm]
theorem look_none {m : List (Str × Value)} {k : Str} (h : k ∉ m.map (·.1)) : Sh.look m k = none := by
  cases e : Sh.look m k with
  | none => rfl
  | some x => exact absurd ((look_isSome k m).1 (by rw [e]; rfl)) h
theorem ups_new {k : Str} {x : Value} : ∀ {m : List (Str × Value)}, k ∉ m.map (·.1) → Sh.ups m k x = m ++ [(k, x)]
  | [], _ => rfl
  | (k', y) :: m, h => by
    simp only [List.map_cons, List.mem_cons, not_or] at h
    have : ¬ k' = k := fun e => h.1 e.symm
    simp only [Sh.ups]
    rw [ups_new h.2]
    simp [this]
set_option maxRecDepth 8000 in
theorem index_ok [Gd] {h0 h : Heap} {v : Value} {l : List (Str × Iv)} {L : List HP} (s : St h0 h L) (r : RdN h v l) (hl : l.length ≤ 1000000) (hn : (l.map (·.1)).Nodup) :
    HC Try.prog 49 #[v] h fun u h' => St h h' [MapO u (ivm l)] := by
  refine sh_digest_index ?_
  unfold g_digest_index
  refine oMkMap_own (.inl rfl) (St.nil h) fun t8 h1 s1 => ?_
  rw [oLen_sl r.1]
  refine loop1_count 0 l.length (fun i h' => St h h' [MapO t8 (ivm (l.take i))]) (Nat.zero_le _) s1 ?_
  rintro i h2 nx hi s2 hnx
  rw [oBin_lss]
  by_cases hlt : i < l.length
  · rw [cond_pos (by omega)]
    refine join_intro fun kk hkk => ?_
    obtain ⟨⟨nm, iv⟩, ha⟩ : ∃ a, l[i]? = some a := ⟨_, List.getElem?_eq_getElem hlt⟩
    have r2 := r.ext s2.ext
    refine oGetK cnm_len (by omega) r2 (fun h' e => e ▸ Ext.refl _) ha ?_
    obtain ⟨st, c, s2⟩ := s2.mapO
    refine oAllocC s2 fun t5 h3 hp5 s3 => ?_
    refine oStoreAll (k := 4) s3 (by show (cnm (nm, iv)).length = 4; exact cnm_len _) rfl (cnm_one (nm, iv)) fun h4 s4 => ?_
    have rd5 : ∀ h', Eq h4 h' → Rd h' t5 (cnm (nm, iv)) := fun h' e => e ▸ s4.rd
    refine oFld rd5 hp5 (x := str nm) rfl ?_
    have hnot : nm ∉ (ivm (l.take i)).map (·.1) := by
      rw [ivm_keys]
      intro hmem
      have e : l.map (·.1) = (l.take i).map (·.1) ++ nm :: (l.drop (i + 1)).map (·.1) := by
        rw [← List.map_cons (f := (·.1)) (a := (nm, iv)), ← List.map_append]
        congr 1
        obtain ⟨h1, h2⟩ := List.getElem?_eq_some_iff.1 ha
        rw [← h2, ← List.drop_eq_getElem_cons hlt, List.take_append_drop]
      rw [e, List.nodup_append] at hn
      exact hn.2.2 nm hmem nm (by simp) rfl
    have hlk := look_none hnot
    refine oLook_val (m := ivm (l.take i)) (fun h' e => ⟨st, c, e ▸ s4.swap.mapRd⟩) ?_
    rw [hlk]
    simp only [if_true, Option.getD_none, Option.isSome_none]
    rw [oExt_two0, oExt_two1]
    refine oAllocC s4 fun t6 h5 hp6 s5 => ?_
    refine oStoreAll s5 rfl rfl (civ_one none) fun h6 s6 => ?_
    rw [oUn_not]
    show cond (.bool true) _ _
    rw [cond_t]
    have rd5' : ∀ h', Eq h6 h' → Rd h' t5 (cnm (nm, iv)) := fun h' e => e ▸ s6.swap.rd
    refine oFld rd5' hp5 (x := str nm) rfl ?_
    refine oFldA rd5' hp5 (by rw [cnm_len]; omega) ?_
    have ecell : (((cnm (nm, iv)).drop 1).take 3) = civ iv := by
      show (civ iv).take 3 = civ iv
      rw [List.take_of_length_le (by rw [civ_len]; omega)]
    rw [ecell]
    refine oUpd_own s6.pick2 fun h7 st' c' _ s7 => ?_
    rw [hkk]
    dsimp only
    rw [oBin_add, wrap_succ i _ hlt (by omega)]
    refine hnx _ hlt ?_
    have s8 := (s7.toMapO).swap.drop.swap.drop
    rw [ups_new hnot] at s8
    have : ivm (l.take (i + 1)) = ivm (l.take i) ++ [(nm, eiv iv)] := by
      unfold ivm
      rw [List.take_add_one, ha, List.map_append]
      rfl
    rw [this]
    exact s8
  · rw [cond_neg (by omega)]
    have : i = l.length := by omega
    subst this
    rw [List.take_length] at s2
    exact s2
set_option maxRecDepth 8000 in
theorem joinOne_ok [Gd] {h : Heap} {a b : Iv} (ha : a.Ok) (hb : b.Ok) : HC Try.prog 24 #[eiv a, eiv b] h fun u h' => u = eiv (jn a b) ∧ Ext h h' := by
  refine sh_digest_Join_1 ?_
  unfold g_digest_Join_1
  refine oBoxAll (St.nil h) fun t2 h1 hp2 s1 => ?_
  refine oBoxAll s1 fun t3 h2 hp3 s2 => ?_
  refine oAllocC s2 fun t4 h3 hp4 s3 => ?_
  have rd2 : ∀ h', Eq h3 h' → Rd h' t2 (civ a) := fun h' e => e ▸ s3.pick2.rd
  have rd3 : ∀ h', Eq h3 h' → Rd h' t3 (civ b) := fun h' e => e ▸ s3.swap.rd
  refine oLoadAll rd2 hp2 (civ_len a) ?_
  refine oLoadAll rd3 hp3 (civ_len b) ?_
  refine oBuild2K (k := 3) s3 (by show (civ a).length = 3; exact civ_len a) (by show (civ b).length = 3; exact civ_len b) (by omega) (by omega) fun t7 h4 s4 => ?_
  have r7 : RdK civ h4 t7 [a, b] := St.rdK (k := 3) civ_len (by omega) (n := 2) (by simpa [Value.cells] using s4)
  refine oCall_func (.mono (ivJoin_ok r7 (by simp) (fun x hx => by simp at hx; rcases hx with rfl | rfl <;> assumption)) ?_)
  rintro t8 h5 ⟨rfl, e5⟩
  have s5 := (s4.call (L' := []) ⟨e5, trivial⟩).drop
  refine oStoreAll (k := 3) s5 (by show (civ _).length = 3; exact civ_len _) rfl (civ_one _) fun h6 s6 => ?_
  refine oResA (k := 3) s6.rd hp4 (civ_len _) ⟨?_, s6.ext⟩
  show eiv (jn (jn none a) b) = _
  rw [none_jn]
end Go.Proofs.Ytaibfbakhiainaa.Old
namespace Go.Proofs.Ytaibfbakhiainaa.Old
open Go Go.Sh Go.Sx Go.Proofs

/-- A string's cell. -/
def cst (a : Str) : List Value := [str a]
theorem cst_len (a : Str) : (cst a).length = 1 := rfl
theorem cst_one (a : Str) : ∀ y ∈ cst a, Sh.one y = true := by
  intro y hy
  simp [cst] at hy
  subst hy; rfl
theorem cst_map (l : List Str) : l.flatMap cst = l.map str := by
  induction l with
  | nil => rfl
  | cons x l ih => rw [List.flatMap_cons, ih]; rfl
abbrev RdS (h : Heap) (v : Value) (l : List Str) : Prop := RdK cst h v l
theorem RdS.rdL {h : Heap} {v : Value} {l : List Str} (r : RdS h v l) : RdL str h v l := ⟨r.1, by rw [← cst_map]; exact r.2⟩
set_option maxRecDepth 8000 in
theorem growS_ok [Gd] {h : Heap} {n : Nat} (hn : n ≤ 1000000000) : HC Try.prog 65 #[.slice none 0 0, .int .i64 n] h fun u h' => St h h' [Row 1 u 0 (([] : List Str).flatMap cst)] := by
  refine sh_slices_Grow_string_string ?_
  unfold g_slices_Grow_string_string
  simp only [join]
  rw [oBin_lss, cond_neg (by omega), oCap_sl, oLen_sl ⟨_, _, rfl⟩, oBin_sub, wrap_int _ (by omega) (by omega), oBin_sub, wrap_int _ (by omega) (by omega), oBin_gtr]
  by_cases h0 : n = 0
  · subst h0
    rw [cond_neg (by simp)]
    exact (St.nil h).nilRowK 1
  · rw [cond_pos (by omega), oCap_sl]
    refine oSliceR (m := 0) ((St.nil h).nilRowK 1) (Nat.le_refl _) fun v' s' => ?_
    obtain ⟨a, c, rfl⟩ := s'.row.1
    have hv : (Value.slice a 0 c) = .slice none 0 0 := by
      obtain ⟨S, ⟨_, hc⟩, hS⟩ := s'.get
      rcases hc with ⟨h1, _⟩ | ⟨a', cap, post, h1, _, _, h4⟩
      · exact h1
      · obtain ⟨b, o, T, pre, post2, _, hSb, _, _⟩ := h4
        have := hS b hSb
        omega
    rw [hv]
    have e1 : ((n : Int) - (((0 : Nat) : Int) - ((0 : Nat) : Int))) = (n : Int) := by omega
    rw [e1]
    refine oAppMk (St.nil h) (by rfl) (by omega) (by omega) (by omega) (by omega) fun t22 h2 s2 => ?_
    rw [oLen_sl ⟨_, _, rfl⟩]
    refine oSliceR (m := 0) s2 (Nat.zero_le _) fun v2 s3 => ?_
    simpa using s3
/-- A slice of slices of strings that can be read. -/
def RdKS (h : Heap) (v : Value) (ll : List (List Str)) : Prop :=
  ∃ vs : List Value, vs.length = ll.length ∧ RdL (fun x : Value => x) h v vs ∧ ∀ (i : Nat) (x : Value) (l : List Str), vs[i]? = some x → ll[i]? = some l → RdS h x l
set_option maxRecDepth 8000 in
theorem concatS_ok [Gd] {h : Heap} {v : Value} {ll : List (List Str)} (r : RdKS h v ll) (hl : ll.length ≤ 1000) (hb : ∀ l ∈ ll, l.length ≤ 100000) :
    HC Try.prog 50 #[v] h fun u h' => St h h' [Row 1 u ll.flatten.length (ll.flatten.flatMap cst)] := by
  obtain ⟨vs, hvl, rv, re⟩ := r
  have hfl : ∀ i, (ll.take i).flatten.length ≤ i * 100000 := fun i => flat_le hb i
  refine sh_slices_Concat_string_string ?_
  unfold g_slices_Concat_string_string
  rw [oLen_sl rv.1, hvl]
  refine ⟨fun μ a b h' => ∃ i : Nat, μ = ll.length - i ∧ i ≤ ll.length ∧ a = .int .i64 ((ll.take i).flatten.length : Nat) ∧ b = .int .i64 i ∧ h' = h, ll.length, ⟨0, rfl, Nat.zero_le _, by simp, rfl, rfl⟩, ?_⟩
  rintro μ a b h' ⟨i, rfl, hi, rfl, rfl, rfl⟩
  dsimp only
  rw [oBin_lss]
  have hfi := hfl i
  by_cases hlt : i < ll.length
  · rw [cond_pos (by omega)]
    refine join_intro fun k hk => ?_
    obtain ⟨x, hx⟩ : ∃ x, vs[i]? = some x := ⟨_, List.getElem?_eq_getElem (by omega)⟩
    obtain ⟨l, hll⟩ : ∃ l, ll[i]? = some l := ⟨_, List.getElem?_eq_getElem hlt⟩
    have hxl := re i x l hx hll
    have hlb := hb l (List.mem_of_getElem? hll)
    refine oGetL rv hx ?_
    rw [oLen_sl hxl.1, oBin_add, wrap_int _ (by omega) (by omega), oBin_lss, cond_neg (by omega), hk]
    dsimp only
    rw [oBin_add, wrap_succ i _ hlt (by omega)]
    refine ⟨ll.length - (i + 1), by omega, i + 1, rfl, by omega, ?_, rfl, rfl⟩
    rw [List.take_add_one, hll, List.flatten_append, List.length_append]
    simp
  · rw [cond_neg (by omega)]
    have hie : i = ll.length := by omega
    subst hie
    have hfe := hfl ll.length
    rw [List.take_length] at hfe ⊢
    refine oCall_func (.mono (growS_ok (by omega)) ?_)
    intro t24 h1 s1
    rw [oLen_sl rv.1, hvl]
    refine ⟨fun μ a b h2 => ∃ i : Nat, μ = ll.length - i ∧ i ≤ ll.length ∧ b = .int .i64 i ∧ St h' h2 [Row 1 a (ll.take i).flatten.length ((ll.take i).flatten.flatMap cst)], ll.length, ⟨0, rfl, Nat.zero_le _, rfl, by simpa using s1⟩, ?_⟩
    rintro μ a b h2 ⟨i, rfl, hi, rfl, s2⟩
    dsimp only
    rw [oBin_lss]
    by_cases hlt : i < ll.length
    · rw [cond_pos (by omega)]
      obtain ⟨x, hx⟩ : ∃ x, vs[i]? = some x := ⟨_, List.getElem?_eq_getElem (by omega)⟩
      obtain ⟨l, hll⟩ : ∃ l, ll[i]? = some l := ⟨_, List.getElem?_eq_getElem hlt⟩
      have hxl := (re i x l hx hll).ext s2.ext
      have hlb := hb l (List.mem_of_getElem? hll)
      have hfi := hfl i
      refine oGetL (rv.ext s2.ext) hx ?_
      refine oAppendR (m := l.length) (xs := l.flatMap cst) s2 rfl (by omega) hxl.1 (flatK_len cst_len l) hxl.2 (fun y hy => by
        obtain ⟨z, _, hz⟩ := List.mem_flatMap.1 hy
        exact cst_one z y hz) (by omega) (by omega) fun t33 h5 s5 => ?_
      rw [oBin_add, wrap_succ i _ hlt (by omega)]
      refine ⟨ll.length - (i + 1), by omega, i + 1, rfl, by omega, rfl, ?_⟩
      rw [List.take_add_one, hll, List.flatten_append, List.length_append, List.flatMap_append]
      simpa using s5
    · rw [cond_neg (by omega)]
      have hie2 : i = ll.length := by omega
      subst hie2
      rw [List.take_length] at s2
      exact s2
set_option maxRecDepth 8000 in
theorem compactS_ok [Gd] {h0 h : Heap} {v : Value} {l : List Str} {L : List HP} (s : St h0 h (Row 1 v l.length (l.flatMap cst) :: L)) (hl : l.length ≤ 4611686018427387904) :
    HC Try.prog 54 #[v] h fun u h' => St h0 h' (Row 1 u (dd l).length ((dd l).flatMap cst) :: L) := by
  refine sh_slices_Compact_string_string ?_
  have eq1 : g_slices_Compact_string_string = gCompact Try.prog 48 9 := by
    unfold g_slices_Compact_string_string gCompact
    rfl
  rw [eq1]
  refine gCompact_ok (val := str) cst_len (by omega) (fun _ => rfl) cst_one (z := .string ⟨#[]⟩) rfl (fun y hy => by simp [Value.cells] at hy; subst hy; rfl) ?_ ?_ ?_ hl s fun u h' s' => s'
  · intro h v l i a K r hi hK
    exact oGetL (RdS.rdL r) hi hK
  · intro a b x y K hK
    rw [oBin_str_eql]; exact hK
  · intro a b x y K hK
    rw [oBin_str_neq]; simpa using hK
end Go.Proofs.Ytaibfbakhiainaa.Old
namespace Go.Sh
open Go.Proofs Go.Lib Go.Sort

def ltS : Str → Str → Bool
  | _, [] => false
  | [], _ :: _ => true
  | a :: at1, b :: bs => if a < b then true else if b < a then false else ltS at1 bs
theorem ltS_irrefl : ∀ a : Str, ltS a a = false
  | [] => rfl
  | a :: at1 => by simp [ltS, UInt8.lt_irrefl, ltS_irrefl at1]
theorem ltS_trans : ∀ a b c : Str, ltS a b = true → ltS b c = true → ltS a c = true
  | [], [], _, h, _ => by simp [ltS] at h
  | _, _ :: _, [], _, h => by simp [ltS] at h
  | _ :: _, [], _, h, _ => by simp [ltS] at h
  | [], _ :: _, _ :: _, _, _ => rfl
  | a :: at1, b :: bs, c :: cs, h, k => by
    have ih := ltS_trans at1 bs cs
    simp only [ltS, UInt8.lt_iff_toNat_lt] at h k ⊢
    repeat' split at h
    all_goals repeat' split at k
    all_goals first | omega | (exfalso; simp at h; done) | (exfalso; simp at k; done) | skip
    all_goals repeat' split
    all_goals first | rfl | omega | exact ih h k
theorem ltS_tri : ∀ a b : Str, ltS a b = false → ltS b a = false → a = b
  | [], [], _, _ => rfl
  | [], _ :: _, h, _ => by simp [ltS] at h
  | _ :: _, [], _, h => by simp [ltS] at h
  | a :: at1, b :: bs, h, k => by
    have ih := ltS_tri at1 bs
    simp only [ltS, UInt8.lt_iff_toNat_lt] at h k
    repeat' split at h
    all_goals repeat' split at k
    all_goals first | omega | (exfalso; simp at h; done) | (exfalso; simp at k; done) | skip
    rw [ih h k, show a = b from UInt8.toNat_inj.1 (by omega)]
theorem ltS_asymm (a b : Str) (h : ltS a b = true) : ltS b a = false := by
  cases hb : ltS b a with
  | false => rfl
  | true => have := ltS_trans a b a h hb; rw [ltS_irrefl] at this; cases this
theorem ltS_ntrans (a b c : Str) (h : ltS a b = false) (k : ltS b c = false) : ltS a c = false := by
  cases hac : ltS a c with
  | false => rfl
  | true =>
    exfalso
    cases hba : ltS b a with
    | true => rw [ltS_trans b a c hba hac] at k; cases k
    | false =>
      have := ltS_tri a b h hba
      subst this
      rw [hac] at k; cases k
theorem cmp_ltS : ∀ a b : Str, decide (compareBytes a b < 0) = ltS a b
  | [], [] => rfl
  | [], _ :: _ => rfl
  | _ :: _, [] => rfl
  | a :: at1, b :: bs => by
    have ih := cmp_ltS at1 bs
    simp only [compareBytes, ltS]
    split
    · rfl
    · split
      · rfl
      · exact ih
theorem swoS : SWO (ltOf compareBytes) := by
  have e : ltOf compareBytes = ltS := by funext a b; exact cmp_ltS a b
  rw [e]
  exact ⟨ltS_irrefl, ltS_trans, ltS_ntrans⟩

/-- Sorted by insertion. -/
def insS (x : Str) : List Str → List Str
  | [] => [x]
  | y :: l => if ltS y x then y :: insS x l else x :: y :: l
def sortS : List Str → List Str
  | [] => []
  | x :: l => insS x (sortS l)
def SortS (l : List Str) : Prop := l.Pairwise fun a b => ltS b a = false
theorem insS_perm (x : Str) : ∀ l, (insS x l).Perm (x :: l)
  | [] => .refl _
  | y :: l => by
    unfold insS
    split
    · exact (List.Perm.cons y (insS_perm x l)).trans (.swap _ _ _)
    · exact .refl _
theorem sortS_perm : ∀ l, (sortS l).Perm l
  | [] => .refl _
  | x :: l => (insS_perm x _).trans (.cons x (sortS_perm l))
theorem insS_sorted (x : Str) : ∀ l, SortS l → SortS (insS x l)
  | [], _ => by simp [insS, SortS]
  | y :: l, h => by
    unfold insS
    simp only [SortS, List.pairwise_cons] at h
    split
    · rename_i hlt
      simp only [SortS, List.pairwise_cons]
      refine ⟨fun z hz => ?_, insS_sorted x l h.2⟩
      rcases List.mem_cons.1 ((insS_perm x l).mem_iff.1 hz) with rfl | hz
      · exact ltS_asymm _ _ hlt
      · exact h.1 z hz
    · rename_i hlt
      simp only [SortS, List.pairwise_cons]
      refine ⟨fun z hz => ?_, h.1, h.2⟩
      have hlt' : ltS y x = false := by simpa using hlt
      rcases List.mem_cons.1 hz with rfl | hz
      · exact hlt'
      · exact ltS_ntrans z y x (h.1 z hz) hlt'
theorem sortS_sorted : ∀ l, SortS (sortS l)
  | [] => by simp [sortS, SortS]
  | x :: l => insS_sorted x _ (sortS_sorted l)
theorem SortS.unique : ∀ {l m : List Str}, l.Perm m → SortS l → SortS m → l = m
  | [], m, p, _, _ => by simpa using p.symm.eq_nil.symm
  | x :: l, [], p, _, _ => absurd p.length_eq (by simp)
  | x :: l, y :: m, p, hl, hm => by
    simp only [SortS, List.pairwise_cons] at hl hm
    have hxy : x = y := by
      rcases List.mem_cons.1 (p.mem_iff.1 (List.mem_cons_self)) with h | h
      · exact h
      · rcases List.mem_cons.1 (p.mem_iff.2 (List.mem_cons_self (a := y))) with h' | h'
        · exact h'.symm
        · exact ltS_tri x y (hm.1 x h) (hl.1 y h')
    subst hxy
    rw [SortS.unique (p.cons_inv) hl.2 hm.2]
theorem sortS_unique {l m : List Str} (p : m.Perm l) (h : SortS m) : m = sortS l := SortS.unique (p.trans (sortS_perm l).symm) h (sortS_sorted l)
theorem sortS_congr {l m : List Str} (p : l.Perm m) : sortS l = sortS m := sortS_unique ((sortS_perm l).trans p) (sortS_sorted l)
end Go.Sh
namespace Go.Sh
open Go.Proofs Go.Lib Go.Sort Go.Shelf
variable {P : Program} {ρ : Ren}

theorem ltS_iff : ∀ a b : Str, ltS a b = true ↔ a < b
  | [], [] => by simp [ltS]
  | [], b :: bs => by simp [ltS]
  | a :: l, [] => by simp [ltS]
  | a :: l, b :: m => by
    have ih := ltS_iff l m
    rw [List.cons_lt_cons_iff, ← ih]
    simp only [ltS, UInt8.lt_iff_toNat_lt, ← UInt8.toNat_inj]
    by_cases h1 : a.toNat < b.toNat
    · simp [h1]
    · by_cases h2 : b.toNat < a.toNat
      · rw [if_neg h1, if_pos h2]
        constructor
        · intro h; cases h
        · rintro (h | ⟨h, _⟩) <;> omega
      · rw [if_neg h1, if_neg h2]
        have : a.toNat = b.toNat := by omega
        simp [this]
theorem ltS_le (a b : Str) : ltS b a = false ↔ a ≤ b := by
  rw [← Bool.not_eq_true, ltS_iff]
  exact List.not_lt
/-- The order of strings. -/
def ordS : Sx.Ord Str where
  lt := ltS
  irrefl := ltS_irrefl
  trans := ltS_trans
  tri := ltS_tri
/-- Strings sorted. -/
def sortStr (d : List Str) : List Str := d.mergeSort fun x y => decide (x ≤ y)
theorem sortStr_perm (d : List Str) : (sortStr d).Perm d := List.mergeSort_perm _ _
theorem sortStr_len (d : List Str) : (sortStr d).length = d.length := (sortStr_perm d).length_eq
theorem sortStr_sorted (d : List Str) : (sortStr d).Pairwise fun a b => ordS.lt b a = false := by
  have h := List.pairwise_mergeSort (le := fun x y : Str => decide (x ≤ y)) (fun a b c h1 h2 => by
    simp only [decide_eq_true_eq] at *
    exact List.le_trans h1 h2) (fun a b => by
    simp only [Bool.or_eq_true, decide_eq_true_eq]
    exact List.le_total a b) d
  refine h.imp ?_
  intro a b hab
  exact (ltS_le a b).2 (by simpa using hab)
theorem putCells_str (pre post : List Value) (d d' : List Str) (hl : d'.length = d.length) :
    putCells encStr pre.length d'.toArray (pre ++ d.map str ++ post).toArray = (pre ++ d'.map str ++ post).toArray := by
  apply Array.ext_getElem?
  intro j
  simp only [putCells, Array.getElem?_mapIdx, List.getElem?_toArray, List.size_toArray, hl]
  rcases Nat.lt_or_ge j pre.length with h1 | h1
  · rw [List.append_assoc, List.append_assoc, List.getElem?_append_left h1, List.getElem?_append_left h1, List.getElem?_eq_getElem h1]
    simp only [Option.map_some]
    rw [if_neg (by omega)]
  · rw [List.append_assoc, List.append_assoc, List.getElem?_append_right h1, List.getElem?_append_right h1]
    rcases Nat.lt_or_ge (j - pre.length) d.length with h2 | h2
    · rw [List.getElem?_append_left (by simpa using h2), List.getElem?_append_left (by simp; omega)]
      rw [List.getElem?_map, List.getElem?_map, List.getElem?_eq_getElem h2, List.getElem?_eq_getElem (by omega : j - pre.length < d'.length)]
      simp only [Option.map_some]
      rw [if_pos (by omega)]
      congr 1
      rw [getElem!_pos _ _ (by simp; omega)]
      simp only [List.getElem_toArray]
      rfl
    · rw [List.getElem?_append_right (by simpa using h2), List.getElem?_append_right (by simp; omega)]
      simp only [List.length_map, hl]
      cases hx : post[j - pre.length - d.length]? with
      | none => rfl
      | some x =>
        simp only [Option.map_some]
        rw [if_neg (by omega)]

theorem sort_strs [Gd] (L : SlLaysM.n6 P ρ) {h0 h : Heap} {v : Value} {d : List Str} {M : List HP} (s : St h0 h (Row 1 v d.length (d.map str) :: M)) (hsz : d.length < 4611686018427387904) :
    HC P (ρ.f 6) #[v] h fun u h' => u = .tuple #[] ∧ St h0 h' (Row 1 v d.length ((sortStr d).map str) :: M) := by
  refine HC.of_ret fun w hw => ?_
  have hml : (sortStr d).length = d.length := sortStr_len d
  obtain ⟨_, S0, ⟨_, hown⟩, _, _⟩ := id s
  rcases hown with ⟨rfl, hn⟩ | ⟨a, cap, post, rfl, hcap, hpost, hcells⟩
  · have hd : d = [] := by simpa using hn
    subst hd
    refine (AnyM.slices_Sort_string_none L none 0 w).mono ?_
    rintro e w' ⟨rfl, rfl⟩
    refine ⟨_, rfl, .refl _, rfl, ?_⟩
    have e : sortStr [] = [] := List.eq_nil_of_length_eq_zero (sortStr_len [])
    rw [hw, e]
    exact s
  · obtain ⟨b, o, T, pre, post', hp, hSb, hb, rfl⟩ := hcells
    simp only [Value.pointer.injEq, Option.some.injEq] at hp
    subst hp
    have hblk : b < w.heap.size := by rw [hw]; exact lt_of_some hb
    have hH : Holds encStr w b pre.length d.toArray := by
      intro j hj
      simp only [List.size_toArray] at hj
      constructor
      · rw [cell?_eq, hw]
        simp only [cellAt, hb, Option.isSome_none, Bool.false_eq_true, if_false, List.getElem?_toArray]
        rw [List.append_assoc, List.append_assoc, List.getElem?_append_right (by omega), Nat.add_sub_cancel_left, List.getElem?_append_left (by simpa using hj), List.getElem?_map, List.getElem?_eq_getElem hj,
          getElem!_pos _ _ (by simpa using hj)]
        simp only [List.getElem_toArray]
        rfl
      · rw [frozen?_eq, hw]
        simp [frozenAt, hb]
    have hcall := AnyM.slices_Sort_string L b pre.length cap d w hH hblk hsz
    refine hcall.mono ?_
    rintro e w' ⟨rfl, n, os, rfl⟩
    refine ⟨_, rfl, ⟨rfl, rfl, rfl, fun _ => by first | exact Nat.le_refl _ | exact Nat.le_succ _ | exact Nat.le_add_right _ _⟩, rfl, ?_⟩
    refine St.step s fun S hA hS => ?_
    obtain ⟨hl, hown⟩ := hA
    have hheap : (grow (putRow encStr (Sort.ahead w n) b pre.length (sortStr d).toArray) os).heap = (setB h b (.cells (pre ++ (sortStr d).map str ++ (post ++ post')).toArray T (0, 0))) ++ os := by
      show (w.heap.modify b _) ++ os = _
      congr 1
      rw [hw]
      apply Array.ext_getElem?
      intro i
      rw [Array.getElem?_modify]
      by_cases hi : b = i
      · subst hi
        rw [setB_eq (lt_of_some hb), if_pos rfl, hb]
        simp only [Option.map_some, onCells]
        congr 2
        have := putCells_str pre (post ++ post') d (sortStr d) hml
        simpa using this
      · rw [if_neg hi, setB_ne (fun e => hi e.symm)]
    have hheap' : (grow (putRow encStr (Sort.ahead w n) b pre.length (d.mergeSort fun x y => decide (x ≤ y)).toArray) os).heap = (setB h b (.cells (pre ++ (sortStr d).map str ++ (post ++ post')).toArray T (0, 0))) ++ os := hheap
    rw [hheap']
    have hb2 : ∀ i, i < h.size → (setB h b (.cells (pre ++ (sortStr d).map str ++ (post ++ post')).toArray T (0, 0)) ++ os)[i]? = (setB h b (.cells (pre ++ (sortStr d).map str ++ (post ++ post')).toArray T (0, 0)))[i]? := fun i hi => by
      rw [Array.getElem?_append_left (by rw [setB_size]; exact hi)]
    rcases hown with ⟨hv, _⟩ | ⟨a', cap', post1, hv, h2, h3, h4⟩
    · cases hv
    · simp only [Value.slice.injEq, Option.some.injEq, true_and] at hv
      obtain ⟨rfl, rfl⟩ := hv
      obtain ⟨b', o', T', pre1, post2, hp, hS1, hb1, ho1⟩ := h4
      simp only [Value.pointer.injEq, Option.some.injEq, Addr.mk.injEq, and_true] at hp
      obtain ⟨rfl, rfl⟩ := hp
      refine ⟨by rw [Array.size_append, setB_size]; omega, fun i hi hni => ?_, S, ⟨?_, .inr ⟨_, cap, post, rfl, hcap, hpost, b, pre.length, T, pre, post', rfl, hS1, ?_, rfl⟩⟩, fun i hi => .inl hi⟩
      · rw [hb2 i hi, setB_ne (fun e : i = b => hni (by rw [e]; exact hS1))]
      · simp [hml]
      · rw [hb2 b (lt_of_some hb), setB_eq (lt_of_some hb)]
        simp
end Go.Sh
namespace Go.Sh
open Go.Proofs Go.Shelf Go.Sort
variable {P : Program} {ρ ρ' : Ren}

/-- An element of a map, not looked at. -/
def anyE : Value → Option (DataW Unit × List MemPlace) := fun _ => some (.nil, [])
theorem ents_rg {k : TypeId} (hk : P.underlying k = some .string) : ∀ (m : List (Str × Value)) (st : List Nat), m.length = st.length → (∀ p ∈ m, p.1.length ≤ maxLen) →
    (ents m st).map (Go.WideElems.rg P k anyE) = m.map fun p => ((.string p.1 : Lit), (.nil : DataW Unit))
  | [], st, _, _ => by simp [ents]
  | p :: m, [], h, _ => by simp at h
  | p :: m, s :: st, h, hl => by
    have ih := ents_rg hk m st (by simpa using h) (fun q hq => hl q (by simp [hq]))
    unfold ents at ih ⊢
    simp only [List.zip_cons_cons, List.map_cons, ih]
    congr 1
    have h1 : keyOf P k (str p.1) = some (.string p.1) := by
      have := Go.WideMaps.keyOf_string_mk (P := P) (k := k) hk (s := ⟨p.1.toArray⟩) (by show p.1.toArray.size ≤ maxLen; rw [List.size_toArray]; exact hl p (by simp))
      simpa [str] using this
    simp [Go.WideElems.rg, Go.WideElems.rd, h1, anyE]
theorem ents_rd {k : TypeId} (hk : P.underlying k = some .string) : ∀ (m : List (Str × Value)) (st : List Nat), (∀ p ∈ m, p.1.length ≤ maxLen) →
    ∀ x ∈ ents m st, ∃ y, Go.WideElems.rd P k anyE x = some y
  | [], st, _ => by simp [ents]
  | p :: m, [], _ => by simp [ents]
  | p :: m, s :: st, hl => by
    have ih := ents_rd hk m st (fun q hq => hl q (by simp [hq]))
    unfold ents at ih ⊢
    simp only [List.zip_cons_cons, List.map_cons, List.mem_cons, forall_eq_or_imp]
    refine ⟨?_, ih⟩
    have h1 : keyOf P k (str p.1) = some (.string p.1) := by
      have := Go.WideMaps.keyOf_string_mk (P := P) (k := k) hk (s := ⟨p.1.toArray⟩) (by show p.1.toArray.size ≤ maxLen; rw [List.size_toArray]; exact hl p (by simp))
      simpa [str] using this
    exact ⟨(.string p.1, .nil), by simp [Go.WideElems.rd, h1, anyE]⟩
theorem ents_born : ∀ (m : List (Str × Value)) (st : List Nat), m.length = st.length → (ents m st).map (·.born) = st
  | [], [], _ => by simp [ents]
  | [], _ :: _, h => by simp at h
  | p :: m, [], h => by simp at h
  | p :: m, s :: st, h => by
    have ih := ents_born m st (by simpa using h)
    unfold ents at ih ⊢
    simp only [List.zip_cons_cons, List.map_cons, ih]
theorem ents_key : ∀ (m : List (Str × Value)) (st : List Nat), m.length = st.length → (ents m st).map (·.key) = m.map fun p => str p.1
  | [], [], _ => by simp [ents]
  | [], _ :: _, h => by simp at h
  | p :: m, [], h => by simp at h
  | p :: m, s :: st, h => by
    have ih := ents_key m st (by simpa using h)
    unfold ents at ih ⊢
    simp only [List.zip_cons_cons, List.map_cons, ih]
theorem ents_len (m : List (Str × Value)) (st : List Nat) (h : m.length = st.length) : (ents m st).length = m.length := by
  simp [ents, h]
theorem ownsMap_of {k : TypeId} (hk : P.underlying k = some .string) {w : World} {r : Nat} {m : List (Str × Value)} {st : List Nat} {c : Nat} (ok : MapOk m st c) (hb : w.heap[r]? = some (.map (ents m st).toArray c))
    (hl : ∀ p ∈ m, p.1.length ≤ maxLen) (hm : m.length ≤ maxLen) :
    w.ownsMap P k anyE r m.length (.map ((m.map fun p => ((.string p.1 : Lit), (.nil : DataW Unit))).foldr DataW.insert [])) := by
  refine ⟨_, c, hb, ⟨?_, ⟨?_, ?_, ?_⟩, ?_⟩, ?_, ?_⟩
  · rw [List.size_toArray, ents_len m st ok.len]; exact hm
  · intro x hx
    have : x.born ∈ (ents m st).map (·.born) := List.mem_map.2 ⟨x, by simpa using hx, rfl⟩
    rw [ents_born m st ok.len] at this
    exact ok.lt _ this
  · show ((ents m st).map (·.born)).Nodup
    rw [ents_born m st ok.len]
    exact ok.born
  · show ((ents m st).map (·.key)).Nodup
    rw [ents_key m st ok.len]
    have := ok.keys
    rw [List.Nodup, List.pairwise_map] at this ⊢
    exact this.imp fun h e => h (str_inj e)
  · exact ents_rd hk m st hl
  · rw [List.size_toArray, ents_len m st ok.len]; exact Nat.le_refl _
  · show _ = DataW.map (((ents m st).map (Go.WideElems.rg P k anyE)).foldr DataW.insert [])
    rw [ents_rg hk m st ok.len hl]
theorem strKeys_perm (m : List (Str × Value)) : (strKeys (.map ((m.map fun p => ((.string p.1 : Lit), (.nil : DataW Unit))).foldr DataW.insert []))).Perm (m.map (·.1)) := by
  have h := (Go.WideShapes.sorted_perm (m.map fun p => ((.string p.1 : Lit), (.nil : DataW Unit)))).map (fun p : Lit × DataW Unit => strOf p.1)
  show (List.map (fun p : Lit × DataW Unit => strOf p.1) _).Perm _
  refine h.trans ?_
  rw [List.map_map]
  exact .of_eq (List.map_congr_left fun p _ => rfl)
theorem collect_ok [Gd] (hg : ¬ Gd.g) (L8 : SlLaysZ.n8 P ρ) (L10 : SlLaysZ.n10 P ρ') (eg : ∀ args w, (callFunc (ρ'.f 10) args).run P w = .ok (.enter (ρ'.f 10) args) w)
    {h : Heap} {Bm r : Nat} {m : List (Str × Value)} {st : List Nat} {c : Nat} (hbox : cellAt h ⟨Bm, 0, none⟩ = some (.map (some r))) (ok : MapOk m st c) (hb : h[r]? = some (.map (ents m st).toArray c))
    (hl : ∀ p ∈ m, p.1.length ≤ maxLen) (hm : m.length ≤ 1000000) :
    HC P (ρ.f 8) #[.func (.func (ρ'.f 10)) #[] #[.pointer (some ⟨Bm, 0, none⟩)]] h fun u h' => ∃ ks : List Str, ks.Perm (m.map (·.1)) ∧ St h h' [Row 1 u ks.length (ks.map str)] := by
  refine HC.of_ret fun w hw => ?_
  have hsz : Maps.size (.map ((m.map fun p => ((.string p.1 : Lit), (.nil : DataW Unit))).foldr DataW.insert [])) ≤ 1000000 := by
    have := (Go.WideShapes.sorted_perm (m.map fun p => ((.string p.1 : Lit), (.nil : DataW Unit)))).length_eq
    simp only [Maps.size]
    rw [this]
    simpa using hm
  have hmx : (1000000 : Nat) ≤ maxLen := by decide
  have hown := ownsMap_of (P := P) (k := ρ'.t 26) L10.t26 (w := w) ok (by rw [hw]; exact hb) hl (by omega)
  have hBm : Bm < w.heap.size := by rw [hw]; exact cellAt_lt hbox
  have hseq := AnyZ.keys_gives L10 Fence.wide 3 trivial rfl (by omega) Bm r m.length _ w hBm (by rw [cell?_eq, hw]; exact hbox) hown
  have hcol := AnyZ.collect_in L8 Fence.wide 5 trivial trivial rfl (by omega) (ρ'.f 10) #[.pointer (some ⟨Bm, 0, none⟩)] trivial eg _ _ (by omega) (by omega) w hseq
  refine (callsIn_wide.1 hcol).mono ?_
  rintro e w' ⟨v, ss, rfl, hS, hrow, _, hbl⟩
  refine ⟨v, rfl, ⟨hbl.os, hbl.tape, hbl.output, fun g => absurd g hg⟩, ss, List.Perm.trans hS (strKeys_perm m), ?_⟩
  obtain ⟨hlen, hrow⟩ := hrow
  have e1 : ss.map encStr = ss.map str := rfl
  have hbk : ∀ b, b < h.size → w'.heap[b]? = h[b]? := fun b hb => by
    rw [← hw] at hb ⊢
    exact hbl.block b hb
  have hsize : h.size ≤ w'.heap.size := by rw [← hw]; exact hbl.size
  rcases hrow with ⟨rfl, hn⟩ | ⟨g, cap, cur, rfl, hbase, hcell, hcap, _, hcur, htake⟩
  · have : ss = [] := by simpa using hn
    subst this
    exact (show St h w'.heap [] from ⟨⟨hsize, hbk⟩, trivial⟩).nilRowK 1
  · refine (St.nil h).new hsize hbk ⟨by simp, .inr ⟨⟨g, 0, none⟩, cap, cur.toList.drop ss.length, rfl, hcap, ?_, ?_⟩⟩
    · rw [List.length_drop, Array.length_toList, hcur]; omega
    · refine ⟨g, 0, ρ.t 26, [], [], rfl, ⟨by rw [← hw]; exact hbase, lt_of_some hcell⟩, ?_, rfl⟩
      rw [hcell]
      congr 2
      rw [Nat.mul_one] at htake
      rw [List.nil_append, List.append_nil, ← e1, ← htake, List.take_append_drop]
end Go.Sh
namespace Go.Proofs.Ytaibfbakhiainaa.Old
open Go Go.Proofs Go.Shelf

def sortSs_ren : Go.Shelf.Ren := ⟨fun | 6 => 53 | 8 => 63 | 9 => 68 | 19 => 80 | 20 => 81 | 21 => 82 | 22 => 83 | 23 => 84 | 24 => 85 | 25 => 86 | 26 => 87 | 27 => 88 | 28 => 89 | 29 => 90 | 36 => 96 | 31 => 92 | 32 => 93 | 37 => 97 | 38 => 98 | 39 => 99 | 41 => 101 | n => n, fun | 27 => 48 | 29 => 9 | 3 => 3 | 32 => 93 | 26 => 48 | 0 => 0 | 44 => 139 | 46 => 73 | 4 => 4 | 36 => 132 | 35 => 131 | 41 => 136 | 5 => 5 | 9 => 9 | 53 => 147 | 57 => 150 | 63 => 154 | 64 => 155 | n => n, fun | n => n⟩
theorem sortSs : Go.Proofs.SlLaysM.n6 Try.prog sortSs_ren where
  mixed := by kernel_rfl
  f6 := ⟨ "slices.Sort[[]string,string]", by decide, Try.func53.trans (congrArg some (by kernel_rfl))⟩
  f8 := Try.func63.trans (congrArg some (by kernel_rfl))
  f9 := ⟨ "slices.pdqsortOrdered[string]", by decide, Try.func68.trans (congrArg some (by kernel_rfl))⟩
  f19 := Try.func80.trans (congrArg some (by kernel_rfl))
  f20 := Try.func81.trans (congrArg some (by kernel_rfl))
  f21 := ⟨ "slices.insertionSortOrdered[string]", by decide, Try.func82.trans (congrArg some (by kernel_rfl))⟩
  f22 := ⟨ "slices.heapSortOrdered[string]", by decide, Try.func83.trans (congrArg some (by kernel_rfl))⟩
  f23 := ⟨ "slices.breakPatternsOrdered[string]", by decide, Try.func84.trans (congrArg some (by kernel_rfl))⟩
  f24 := ⟨ "slices.choosePivotOrdered[string]", by decide, Try.func85.trans (congrArg some (by kernel_rfl))⟩
  f25 := ⟨ "slices.reverseRangeOrdered[string]", by decide, Try.func86.trans (congrArg some (by kernel_rfl))⟩
  f26 := ⟨ "slices.partialInsertionSortOrdered[string]", by decide, Try.func87.trans (congrArg some (by kernel_rfl))⟩
  f27 := ⟨ "cmp.Less[string]", by decide, Try.func88.trans (congrArg some (by kernel_rfl))⟩
  f28 := ⟨ "slices.partitionEqualOrdered[string]", by decide, Try.func89.trans (congrArg some (by kernel_rfl))⟩
  f29 := ⟨ "slices.partitionOrdered[string]", by decide, Try.func90.trans (congrArg some (by kernel_rfl))⟩
  f31 := Try.func92.trans (congrArg some (by kernel_rfl))
  f32 := Try.func93.trans (congrArg some (by kernel_rfl))
  f36 := ⟨ "slices.siftDownOrdered[string]", by decide, Try.func96.trans (congrArg some (by kernel_rfl))⟩
  f37 := ⟨ "slices.medianAdjacentOrdered[string]", by decide, Try.func97.trans (congrArg some (by kernel_rfl))⟩
  f38 := ⟨ "slices.medianOrdered[string]", by decide, Try.func98.trans (congrArg some (by kernel_rfl))⟩
  f39 := ⟨ "cmp.isNaN[string]", by decide, Try.func99.trans (congrArg some (by kernel_rfl))⟩
  f41 := ⟨ "slices.order2Ordered[string]", by decide, Try.func101.trans (congrArg some (by kernel_rfl))⟩
  t0 := Try.underlying0
  a0 := Try.isAgg0
  z0 := Try.sizeOf0
  v0 := Try.zeroValue0
  t3 := Try.underlying3
  a3 := Try.isAgg3
  z3 := Try.sizeOf3
  v3 := Try.zeroValue3
  t4 := Try.underlying4
  a4 := Try.isAgg4
  z4 := Try.sizeOf4
  v4 := Try.zeroValue4
  t5 := Try.underlying5
  a5 := Try.isAgg5
  z5 := Try.sizeOf5
  v5 := Try.zeroValue5
  t9 := Try.underlying9
  a9 := Try.isAgg9
  z9 := Try.sizeOf9
  v9 := Try.zeroValue9
  t26 := Try.underlying48
  a26 := Try.isAgg48
  z26 := Try.sizeOf48
  v26 := Try.zeroValue48
  t27 := Try.underlying48
  a27 := Try.isAgg48
  z27 := Try.sizeOf48
  v27 := Try.zeroValue48
  t29 := Try.underlying9
  a29 := Try.isAgg9
  z29 := Try.sizeOf9
  v29 := Try.zeroValue9
  t32 := Try.underlying93
  a32 := Try.isAgg93
  z32 := Try.sizeOf93
  v32 := Try.zeroValue93
  t35 := Try.underlying131
  a35 := Try.isAgg131
  z35 := Try.sizeOf131
  v35 := Try.zeroValue131
  t36 := Try.underlying132
  a36 := Try.isAgg132
  z36 := Try.sizeOf132
  v36 := Try.zeroValue132
  t41 := Try.underlying136
  a41 := Try.isAgg136
  z41 := Try.sizeOf136
  v41 := Try.zeroValue136
  t44 := Try.underlying139
  a44 := Try.isAgg139
  z44 := Try.sizeOf139
  v44 := Try.zeroValue139
  t46 := Try.underlying73
  a46 := Try.isAgg73
  z46 := Try.sizeOf73
  v46 := Try.zeroValue73
  t53 := Try.underlying147
  a53 := Try.isAgg147
  z53 := Try.sizeOf147
  v53 := Try.zeroValue147
  t57 := Try.underlying150
  a57 := Try.isAgg150
  z57 := Try.sizeOf150
  v57 := Try.zeroValue150
  t63 := Try.underlying154
  a63 := Try.isAgg154
  z63 := Try.sizeOf154
  v63 := Try.zeroValue154
  t64 := Try.underlying155
  a64 := Try.isAgg155
  z64 := Try.sizeOf155
  v64 := Try.zeroValue155

def collS_ren : Go.Shelf.Ren := ⟨fun | 8 => 51 | 11 => 66 | n => n, fun | 26 => 9 | 28 => 108 | 24 => 48 | 0 => 0 | 33 => 125 | 4 => 4 | n => n, fun | n => n⟩
theorem collS : Go.Proofs.SlLaysZ.n8 Try.prog collS_ren where
  mixed := by kernel_rfl
  f8 := ⟨ "slices.Collect[string]", by decide, Try.func51.trans (congrArg some (by kernel_rfl))⟩
  f11 := ⟨ "slices.AppendSeq[[]string,string]", by decide, Try.func66.trans (congrArg some (by kernel_rfl))⟩
  t0 := Try.underlying0
  a0 := Try.isAgg0
  z0 := Try.sizeOf0
  v0 := Try.zeroValue0
  t24 := Try.underlying48
  a24 := Try.isAgg48
  z24 := Try.sizeOf48
  v24 := Try.zeroValue48
  t26 := Try.underlying9
  a26 := Try.isAgg9
  z26 := Try.sizeOf9
  v26 := Try.zeroValue9
  t28 := Try.underlying108
  a28 := Try.isAgg108
  z28 := Try.sizeOf108
  v28 := Try.zeroValue108
  i26 := by kernel_rfl

def keysIt_ren : Go.Shelf.Ren := ⟨fun | 10 => 67 | n => n, fun | 33 => 125 | 23 => 103 | 0 => 0 | 4 => 4 | 26 => 9 | 3 => 30 | n => n, fun | n => n⟩
theorem keysIt : Go.Proofs.SlLaysZ.n10 Try.prog keysIt_ren where
  mixed := by kernel_rfl
  f10 := ⟨ "maps.Keys[map[string]augur/api.Ival,string,augur/api.Ival]$1", by decide, Try.func67.trans (congrArg some (by kernel_rfl))⟩
  t0 := Try.underlying0
  a0 := Try.isAgg0
  z0 := Try.sizeOf0
  v0 := Try.zeroValue0
  t4 := Try.underlying4
  a4 := Try.isAgg4
  z4 := Try.sizeOf4
  v4 := Try.zeroValue4
  t23 := Try.underlying103
  a23 := Try.isAgg103
  z23 := Try.sizeOf103
  v23 := Try.zeroValue103
  t26 := Try.underlying9
  a26 := Try.isAgg9
  z26 := Try.sizeOf9
  v26 := Try.zeroValue9
  t33 := Try.underlying125
  a33 := Try.isAgg125
  z33 := Try.sizeOf125
  v33 := Try.zeroValue125

end Go.Proofs.Ytaibfbakhiainaa.Old
namespace Go.Proofs.Ytaibfbakhiainaa.Old
open Go Go.Sh Go.Sx Go.Proofs

/-- From here on draws are not told. -/
instance gdF : Gd := ⟨False, fun _ _ => False⟩
theorem noG : ¬ Gd.g := fun h => h
/-- A box of one cell, its place told. -/
theorem oBoxAt {P : Program} {t : TypeId} {h : Heap} {v : Value} {K : Value → Heap → Prop} (h1 : v.cells = #[v])
    (g : ∀ h', cellAt h' ⟨h.size, 0, none⟩ = some v → Ext h h' → K (.pointer (some ⟨h.size, 0, none⟩)) h') : oBox P t v h K := by
  intro w hw
  have : (nv (Instr.box t v)).run P w = .ok (.value (.pointer (some ⟨w.heap.size, 0, none⟩))) { w with heap := w.heap.push (.cells v.cells t) } :=
    nv_run (by simp [Instr.box, newVar, newRow, newObj, Sem.run])
  rw [this]
  refine ⟨⟨rfl, rfl, rfl, fun _ => Nat.le_refl _⟩, ?_⟩
  rw [hw]
  refine g _ ?_ ⟨by simp, fun b hb => push_old b hb⟩
  simp [cellAt, h1]
theorem keysS_ok {h : Heap} {m : Value} (h1 : m.cells = #[m]) : HC Try.prog 52 #[m] h fun u h' => ∃ B, u = .func (.func 67) #[] #[.pointer (some ⟨B, 0, none⟩)] ∧ cellAt h' ⟨B, 0, none⟩ = some m ∧ Ext h h' := by
  refine sh_maps_Keys_map_string_api_Ival_string_api_Ival ?_
  unfold g_maps_Keys_map_string_api_Ival_string_api_Ival
  refine oBoxAt h1 fun h' hc he => ?_
  exact ⟨_, fun w => rfl, ⟨_, rfl, hc, he⟩⟩
theorem collS_ok {h : Heap} {B : Nat} {v : Value} {m : List (Str × Value)} {st : List Nat} {c : Nat} (hc : cellAt h ⟨B, 0, none⟩ = some v) (r : RdM h v m st c) (hl : ∀ p ∈ m, p.1.length ≤ 1000000) (hm : m.length ≤ 1000000) :
    HC Try.prog 51 #[.func (.func 67) #[] #[.pointer (some ⟨B, 0, none⟩)]] h fun u h' => ∃ ks : List Str, ks.Perm (m.map (·.1)) ∧ St h h' [Row 1 u ks.length (ks.flatMap cst)] := by
  obtain ⟨ok, b, rfl, hb⟩ := r
  have hmx : (1000000 : Nat) ≤ maxLen := by decide
  refine HC.mono (collect_ok noG collS keysIt (fun args w => Fnc.run (P := Try.prog) (f := 67) args w) hc ok hb (fun p hp => Nat.le_trans (hl p hp) hmx) hm) ?_
  rintro u h' ⟨ks, hp, s⟩
  exact ⟨ks, hp, by rw [cst_map]; exact s⟩
theorem sortSt_ok {h0 h : Heap} {v : Value} {d : List Str} {M : List HP} (s : St h0 h (Row 1 v d.length (d.flatMap cst) :: M)) (hsz : d.length < 4611686018427387904) :
    HC Try.prog 53 #[v] h fun u h' => u = .tuple #[] ∧ St h0 h' (Row 1 v (sortStr d).length ((sortStr d).flatMap cst) :: M) := by
  rw [cst_map] at s
  refine HC.mono (sort_strs sortSs s hsz) ?_
  rintro u h' ⟨rfl, s'⟩
  rw [cst_map, sortStr_len]
  exact ⟨rfl, s'⟩
/-- The names of two lists, in order, each once. -/
def nmU (a b : List (Str × Iv)) : List Str := dd (sortStr (a.map (·.1) ++ b.map (·.1)))
theorem srt_nmU (a b : List (Str × Iv)) : Srt ordS (nmU a b) := dd_srt ordS _ (sortStr_sorted _)
theorem mem_nmU (x : Str) (a b : List (Str × Iv)) : x ∈ nmU a b ↔ x ∈ a.map (·.1) ∨ x ∈ b.map (·.1) := by
  unfold nmU
  rw [mem_dd, (sortStr_perm _).mem_iff, List.mem_append]
theorem nmU_len (a b : List (Str × Iv)) : (nmU a b).length ≤ a.length + b.length := by
  have := dd_len (sortStr (a.map (·.1) ++ b.map (·.1)))
  rw [sortStr_len, List.length_append, List.length_map, List.length_map] at this
  exact this
theorem nmU_perm {a b : List (Str × Iv)} {ka kb : List Str} (ha : ka.Perm (a.map (·.1))) (hb : kb.Perm (b.map (·.1))) : dd (sortStr (ka ++ kb)) = nmU a b := by
  refine Srt.unique ordS (dd_srt ordS _ (sortStr_sorted _)) (srt_nmU a b) fun x => ?_
  rw [mem_dd, (sortStr_perm _).mem_iff, List.mem_append, mem_nmU, ha.mem_iff, hb.mem_iff]
/-- A name's interval in a list. -/
def gt (a : List (Str × Iv)) (k : Str) : Iv := (Sh.get a k).getD none
theorem look_ivm (k : Str) : ∀ l : List (Str × Iv), (Sh.look (ivm l) k).getD (eiv none) = eiv (gt l k)
  | [] => rfl
  | (k', x) :: l => by
    have ih := look_ivm k l
    unfold ivm gt at ih ⊢
    simp only [List.map_cons, Sh.look, Sh.get]
    by_cases h : k' = k
    · simp [h]
    · simpa [h] using ih
/-- The cells of two lists. -/
def mdU (U : Iv → Iv → Iv) (a b : List (Str × Iv)) : List (Str × Iv) := (nmU a b).map fun k => (k, U (gt a k) (gt b k))
set_option maxRecDepth 20000 in
theorem built53 (k : Str) (v : Iv) : Try.prog.built 53 [(0, str k), (1, eiv v)] = some (cnm (k, v)).toArray := by
  cases v <;> rfl
set_option maxRecDepth 8000 in
set_option maxHeartbeats 1000000 in
theorem cellsD_ok {h0 h : Heap} {p va vb f : Value} {cs : List Value} {L : List HP} {a b : List (Str × Iv)} (U : Iv → Iv → Iv) (hU : ∀ x y : Iv, x.Ok → y.Ok → (U x y).Ok)
    (hf : ∀ {h : Heap} {x y : Iv} {K : Value → Heap → Prop}, x.Ok → y.Ok → (∀ h', Ext h h' → K (eiv (U x y)) h') → oCall Try.prog f #[eiv x, eiv y] h K)
    (hp : ∃ q, p = .pointer (some q)) (s : St h0 h (Cells p cs :: L)) (hc : cs.length = 6) (hc5 : cs[5]? = some (.slice none 0 0))
    (ra : RdN h va a) (rb : RdN h vb b) (la : a.length ≤ 100000) (lb : b.length ≤ 100000) (na : (a.map (·.1)).Nodup) (nb : (b.map (·.1)).Nodup)
    (ka : ∀ x ∈ a, x.1.length ≤ 1000000) (kb : ∀ x ∈ b, x.1.length ≤ 1000000) (oa : ∀ k, (gt a k).Ok) (ob : ∀ k, (gt b k).Ok) :
    HC Try.prog 37 #[p, va, vb, f] h fun u h' => ∃ x, St h0 h' (Cells p (cs.set 5 x) :: Row 4 x (mdU U a b).length ((mdU U a b).flatMap cnm) :: L) := by
  obtain ⟨q, rfl⟩ := hp
  refine sh_digest_digest_cells ?_
  unfold g_digest_digest_cells
  refine oCall_func (.mono (index_ok (St.nil h) ra (by omega) na) fun t14 h1 s1 => ?_)
  have hex := s1.ext
  have s1 := s.call s1
  refine oCall_func (.mono (index_ok (St.nil h1) (rb.ext hex) (by omega) nb) fun t16 h2 s2 => ?_)
  have s2 := s1.call s2
  have hlk : ∀ {l : List (Str × Iv)}, (∀ x ∈ l, x.1.length ≤ 1000000) → ∀ p ∈ ivm l, p.1.length ≤ 1000000 := fun hl p hp => by
    obtain ⟨x, hx, rfl⟩ := List.mem_map.1 hp
    exact hl x hx
  have hil : ∀ l : List (Str × Iv), (ivm l).length = l.length := fun l => by simp [ivm]
  obtain ⟨st1, c1, s2'⟩ := s2.pick1.mapO
  obtain ⟨r1, b1, hr1, hb1⟩ := s2'.mapRd
  refine oCall_func (.mono (keysS_ok (by subst hr1; rfl)) ?_)
  rintro t18 h3 ⟨B1, rfl, hB1, e3⟩
  have m3 : RdM h3 t14 (ivm a) st1 c1 := s2'.mapRd.ext e3
  have s3 := s2.call (L' := []) ⟨e3, trivial⟩
  refine oCall_func (.mono (collS_ok hB1 m3 (hlk ka) (by rw [hil]; omega)) ?_)
  rintro t19 h4 ⟨k1, hk1, s4⟩
  have s4 := s3.call s4
  obtain ⟨st2, c2, s4'⟩ := s4.pick1.mapO
  obtain ⟨r2, b2, hr2, hb2⟩ := s4'.mapRd
  refine oCall_func (.mono (keysS_ok (by subst hr2; rfl)) ?_)
  rintro t21 h5 ⟨B2, rfl, hB2, e5⟩
  have m5 : RdM h5 t16 (ivm b) st2 c2 := s4'.mapRd.ext e5
  have s5 := s4.call (L' := []) ⟨e5, trivial⟩
  refine oCall_func (.mono (collS_ok hB2 m5 (hlk kb) (by rw [hil]; omega)) ?_)
  rintro t22 h6 ⟨k2, hk2, s6⟩
  have s6 := s5.call s6
  rw [ivm_keys] at hk1 hk2
  have lk1 : k1.length = a.length := by rw [hk1.length_eq, List.length_map]
  have lk2 : k2.length = b.length := by rw [hk2.length_eq, List.length_map]
  refine oBuild2o s6 (sl_one s6.pick1.row.1) (sl_one s6.row.1) rfl fun t23 h7 s7 => ?_
  have rr : RdKS h7 t23 [k1, k2] := by
    refine ⟨[t19, t22], rfl, St.rdL (enc := fun x : Value => x) (l := [t19, t22]) (n := 2) s7, ?_⟩
    intro i x l hx hl
    match i, hx, hl with
    | 0, hx, hl =>
      simp at hx hl; subst hx; subst hl
      exact s7.pick2.rdK cst_len (by omega)
    | 1, hx, hl =>
      simp at hx hl; subst hx; subst hl
      exact s7.pick1.rdK cst_len (by omega)
    | i + 2, hx, hl => simp at hx
  refine oCall_func (.mono (concatS_ok rr (by simp) (fun l hl => by simp at hl; rcases hl with rfl | rfl <;> omega)) ?_)
  intro t24 h8 s8
  have s8 := s7.call s8
  have ef : ([k1, k2] : List (List Str)).flatten = k1 ++ k2 := by simp
  rw [ef] at s8
  refine oCall_func (.mono (sortSt_ok s8 (by rw [List.length_append]; omega)) ?_)
  rintro t26 h9 ⟨rfl, s9⟩
  refine oCall_func (.mono (compactS_ok s9 (by rw [sortStr_len, List.length_append]; omega)) ?_)
  intro t28 h10 s10
  rw [nmU_perm hk1 hk2] at s10
  have hnl := nmU_len a b
  have s10 : St h0 h10 (Row 1 t28 (nmU a b).length ((nmU a b).flatMap cst) :: MapO t16 (ivm b) :: MapO t14 (ivm a) :: Cells (.pointer (some q)) cs :: L) := by
    exact s10.swap.drop.swap.drop.swap.drop
  have s11 := s10.pick3.nilRowK 4
  have e5 : cs.set 5 (.slice none 0 0) = cs := by
    rw [← List.getElem?_eq_some_iff.1 hc5 |>.2]
    exact List.set_getElem_self _
  rw [← e5] at s11
  rw [oLen_sl s10.row.1]
  refine loop1_count 0 (nmU a b).length (fun i h' => ∃ x, St h0 h' (Row 4 x ((mdU U a b).take i).length (((mdU U a b).take i).flatMap cnm) :: Cells (.pointer (some q)) (cs.set 5 x) :: Row 1 t28 (nmU a b).length ((nmU a b).flatMap cst) :: MapO t16 (ivm b) :: MapO t14 (ivm a) :: L)) (Nat.zero_le _) ⟨_, s11⟩ ?_
  rintro i h11 nx hi ⟨x, s12⟩ hnx
  rw [oBin_lss]
  by_cases hlt : i < (nmU a b).length
  · rw [cond_pos (by omega)]
    obtain ⟨k, hk⟩ : ∃ k, (nmU a b)[i]? = some k := ⟨_, List.getElem?_eq_getElem hlt⟩
    have rnm : RdS h11 t28 (nmU a b) := s12.pick2.rdK cst_len (by omega)
    refine oGetL rnm.rdL hk ?_
    let D : Heap → Prop := fun h' => Rd h' (.pointer (some q)) (cs.set 5 x) ∧ (∃ st c, RdM h' t14 (ivm a) st c) ∧ (∃ st c, RdM h' t16 (ivm b) st c)
    have hD : ∀ {h' : Heap} {A B : HP}, St h0 h' (A :: Cells (.pointer (some q)) (cs.set 5 x) :: B :: MapO t16 (ivm b) :: MapO t14 (ivm a) :: L) → D h' := fun s => by
      refine ⟨s.pick1.rd, ?_, ?_⟩
      · obtain ⟨st, c, s'⟩ := s.pick4.mapO
        exact ⟨st, c, s'.mapRd⟩
      · obtain ⟨st, c, s'⟩ := s.pick3.mapO
        exact ⟨st, c, s'.mapRd⟩
    refine ⟨D, hD s12, ?_⟩
    dsimp only
    rw [oNil_ptr]
    refine oFA ⟨_, rfl⟩ ?_
    rw [padd_zero]
    refine oFld (cs := cs.set 5 x) (x := x) (fun h' hd => hd.1) ⟨_, rfl⟩ (by rw [List.getElem?_set_self (by omega)]) ?_
    refine oLook_val (m := ivm a) (fun h' hd => hd.2.1) ?_
    refine oLook_val (m := ivm b) (fun h' hd => hd.2.2) ?_
    have hz : (Value.agg #[(.bool false), (.int .i64 0), (.int .i64 0)]) = eiv none := rfl
    simp only [Bool.false_eq_true, if_false]
    rw [hz, look_ivm, look_ivm]
    refine hf (oa k) (ob k) fun h12 e12 => ?_
    have s13 := s12.call (L' := []) ⟨e12, trivial⟩
    refine ⟨hD s13, ?_⟩
    refine oBuild_own (built53 k _) ?_
    have hkl : (cnm (k, U (gt a k) (gt b k))).length = 4 := cnm_len _
    refine oBuild1 s13 (k := 4) hkl rfl (by omega) (by omega) fun t50 h13 s14 => ⟨hD s14.drop, ?_⟩
    obtain ⟨hu, _, hur⟩ := s14.row
    have e0 : (Value.agg (cnm (k, U (gt a k) (gt b k))).toArray).cells.toList = cnm (k, U (gt a k) (gt b k)) := by simp [Value.cells]
    rw [e0] at hur
    have hml : ((mdU U a b).take i).length = i := by
      rw [List.length_take, mdU, List.length_map]; omega
    refine oAppendR (m := 1) (xs := cnm (k, U (gt a k) (gt b k))) s14.swap rfl (by omega) hu (by rw [hkl]) hur (cnm_one _) (by rw [hml]; omega) (by rw [hml]; omega) fun v' h14 s15 => ⟨hD s15.swap.drop, ?_⟩
    have s16 := s15.swap.drop
    rw [oNil_ptr]
    refine oFA ⟨_, rfl⟩ ?_
    rw [padd_zero]
    refine oFA ⟨_, rfl⟩ ?_
    have hv' := s16.row.1
    refine oStoreC s16.swap (by rw [cells_sl hv']; rfl) (by rw [List.length_set]; omega) (by rw [cells_sl hv']; exact one1 (sl_one hv')) fun h15 s17 => ?_
    rw [cells_sl hv'] at s17
    rw [oBin_add, wrap_succ i _ hlt (by omega)]
    refine hnx _ hlt ⟨v', ?_⟩
    have e1 : setAt (cs.set 5 x) 5 #[v'].toList = cs.set 5 v' := by
      show (cs.set 5 x).set 5 v' = _
      rw [List.set_set]
    rw [e1] at s17
    have e2 : (mdU U a b).take (i + 1) = (mdU U a b).take i ++ [(k, U (gt a k) (gt b k))] := by
      rw [List.take_add_one]
      congr 1
      rw [mdU, List.getElem?_map, hk]
      rfl
    have s18 := s17.swap
    rw [e2, List.length_append, List.flatMap_append]
    simpa using s18
  · rw [cond_neg (by omega)]
    have hie : i = (nmU a b).length := by omega
    have hml : (mdU U a b).length = (nmU a b).length := by rw [mdU, List.length_map]
    rw [List.take_of_length_le (by omega)] at s12
    exact ⟨x, s12.swap.pick2.drop.pick2.drop.pick2.drop⟩
end Go.Proofs.Ytaibfbakhiainaa.Old
namespace Go.Sh
variable {P : Program}
theorem oEqlS {t : TypeId} {x y : Operand} {xs ys : Array Value} {b : Bool} {K : Value → Prop} (hm : P.eqGuardType P.depth t = false) (h : ∀ w, (Op.equalIn 10000 t (.agg xs) (.agg ys)).run P w = .ok b w) :
    oBin P .eql t x y (.agg xs) (.agg ys) K ↔ K (.bool b) := by
  refine Sp.iff fun w => ?_
  have h1 : (eqGuard .eql t x y (.agg xs) (.agg ys)).run P w = .ok () w := run_eqGuard_agg w .eql t x y xs ys hm
  simp [h1, run_eql_struct, h w]
theorem oNeqS {t : TypeId} {x y : Operand} {xs ys : Array Value} {b : Bool} {K : Value → Prop} (hm : P.eqGuardType P.depth t = false) (h : ∀ w, (Op.equalIn 10000 t (.agg xs) (.agg ys)).run P w = .ok b w) :
    oBin P .neq t x y (.agg xs) (.agg ys) K ↔ K (.bool !b) := by
  refine Sp.iff fun w => ?_
  have h1 : (eqGuard .neq t x y (.agg xs) (.agg ys)).run P w = .ok () w := run_eqGuard_agg w .neq t x y xs ys hm
  simp [h1, run_neq_struct, h w]
theorem equalIn_str {t : TypeId} [Und P t .string] (d : Nat) (a b : Str) (w : World) : (Op.equalIn (d + 1) t (str a) (str b)).run P w = .ok (decide (a = b)) w := by
  simp [Op.equalIn, Und.run, str, str_eq]
end Go.Sh
namespace Go.Proofs.Ytaibfbakhiainaa
open Go Go.Sh

set_option maxRecDepth 20000 in
set_option maxHeartbeats 1000000 in
theorem q_api_Alarm_eqD (d : Nat) (a b : T_api_Alarm) (w : World) : (Op.equalIn (d + 2) 46 (.agg #[.int .i64 a.At, .int .i64 a.Kind]) (.agg #[.int .i64 b.At, .int .i64 b.Kind])).run Try.prog w = .ok (decide (a = b)) w := by
  have u3 := Try.underlying3
  have i3 := Try.isAgg3
  have z3 := Try.sizeOf3
  have hS : Try.prog.underlying 46 = some (.struct (Try.prog.fieldsOf 46)) := by kernel_rfl
  have hp : Try.prog.stoodInHeld 46 = false := by kernel_rfl
  rw [run_equalIn_struct w (d + 1) 46 _ _ hS hp]
  simp only [Program.fieldsOf, Try.underlying46]
  go_simp
  by_cases h0 : a.At = b.At <;> by_cases h1 : a.Kind = b.Kind <;> simp [T_api_Alarm.ext_iff', h0, h1]
set_option maxRecDepth 20000 in
theorem q_api_Alarm_eql {x y : Operand} {a b : T_api_Alarm} {K : Value → Prop} : oBin Try.prog .eql 46 x y (.agg #[.int .i64 a.At, .int .i64 a.Kind]) (.agg #[.int .i64 b.At, .int .i64 b.Kind]) K ↔ K (.bool (decide (a = b))) := by
  exact oEqlS (by kernel_rfl) fun w => q_api_Alarm_eqD 9998 a b w
set_option maxRecDepth 20000 in
theorem q_api_Alarm_neq {x y : Operand} {a b : T_api_Alarm} {K : Value → Prop} : oBin Try.prog .neq 46 x y (.agg #[.int .i64 a.At, .int .i64 a.Kind]) (.agg #[.int .i64 b.At, .int .i64 b.Kind]) K ↔ K (.bool (decide (a ≠ b))) := by
  rw [show decide (a ≠ b) = !decide (a = b) by by_cases h : a = b <;> simp [h]]
  exact oNeqS (by kernel_rfl) fun w => q_api_Alarm_eqD 9998 a b w
set_option maxRecDepth 20000 in
set_option maxHeartbeats 1000000 in
theorem q_api_Ival_eqD (d : Nat) (a b : T_api_Ival) (w : World) : (Op.equalIn (d + 2) 30 (.agg #[.bool a.Some, .int .i64 a.Lo, .int .i64 a.Hi]) (.agg #[.bool b.Some, .int .i64 b.Lo, .int .i64 b.Hi])).run Try.prog w = .ok (decide (a = b)) w := by
  have u4 := Try.underlying4
  have i4 := Try.isAgg4
  have z4 := Try.sizeOf4
  have u2 := Try.underlying2
  have i2 := Try.isAgg2
  have z2 := Try.sizeOf2
  have hS : Try.prog.underlying 30 = some (.struct (Try.prog.fieldsOf 30)) := by kernel_rfl
  have hp : Try.prog.stoodInHeld 30 = false := by kernel_rfl
  rw [run_equalIn_struct w (d + 1) 30 _ _ hS hp]
  simp only [Program.fieldsOf, Try.underlying30]
  go_simp
  by_cases h0 : a.Some = b.Some <;> by_cases h1 : a.Lo = b.Lo <;> by_cases h2 : a.Hi = b.Hi <;> simp [T_api_Ival.ext_iff', h0, h1, h2]
set_option maxRecDepth 20000 in
theorem q_api_Ival_eql {x y : Operand} {a b : T_api_Ival} {K : Value → Prop} : oBin Try.prog .eql 30 x y (.agg #[.bool a.Some, .int .i64 a.Lo, .int .i64 a.Hi]) (.agg #[.bool b.Some, .int .i64 b.Lo, .int .i64 b.Hi]) K ↔ K (.bool (decide (a = b))) := by
  exact oEqlS (by kernel_rfl) fun w => q_api_Ival_eqD 9998 a b w
set_option maxRecDepth 20000 in
theorem q_api_Ival_neq {x y : Operand} {a b : T_api_Ival} {K : Value → Prop} : oBin Try.prog .neq 30 x y (.agg #[.bool a.Some, .int .i64 a.Lo, .int .i64 a.Hi]) (.agg #[.bool b.Some, .int .i64 b.Lo, .int .i64 b.Hi]) K ↔ K (.bool (decide (a ≠ b))) := by
  rw [show decide (a ≠ b) = !decide (a = b) by by_cases h : a = b <;> simp [h]]
  exact oNeqS (by kernel_rfl) fun w => q_api_Ival_eqD 9998 a b w
set_option maxRecDepth 20000 in
set_option maxHeartbeats 1000000 in
theorem q_api_Named_eqD (d : Nat) (a b : T_api_Named) (w : World) : (Op.equalIn (d + 3) 53 (.agg #[str a.Name, .bool a.V.Some, .int .i64 a.V.Lo, .int .i64 a.V.Hi]) (.agg #[str b.Name, .bool b.V.Some, .int .i64 b.V.Lo, .int .i64 b.V.Hi])).run Try.prog w = .ok (decide (a = b)) w := by
  have u9 := Try.underlying9
  have i9 := Try.isAgg9
  have z9 := Try.sizeOf9
  have i30 := Try.isAgg30
  have z30 := Try.sizeOf30
  have hS : Try.prog.underlying 53 = some (.struct (Try.prog.fieldsOf 53)) := by kernel_rfl
  have hp : Try.prog.stoodInHeld 53 = false := by kernel_rfl
  rw [run_equalIn_struct w (d + 2) 53 _ _ hS hp]
  simp only [Program.fieldsOf, Try.underlying53]
  have u2 := Try.underlying2
  have i2 := Try.isAgg2
  have z2 := Try.sizeOf2
  have u4 := Try.underlying4
  have i4 := Try.isAgg4
  have z4 := Try.sizeOf4
  have q9 : ∀ (n : Nat) (x y : Str) (w : World), (Op.equalIn (n + 1) 9 (str x) (str y)).run Try.prog w = .ok (decide (x = y)) w := fun n x y w => equalIn_str n x y w
  have hq1 := q_api_Ival_eqD (d + 0) a.V b.V w
  go_simp
  try simp only [q9, hq1]
  by_cases h0 : a.Name = b.Name <;> by_cases h1 : a.V.Some = b.V.Some <;> by_cases h2 : a.V.Lo = b.V.Lo <;> by_cases h3 : a.V.Hi = b.V.Hi <;> simp [T_api_Ival.ext_iff', T_api_Named.ext_iff', h0, h1, h2, h3]
set_option maxRecDepth 20000 in
theorem q_api_Named_eql {x y : Operand} {a b : T_api_Named} {K : Value → Prop} : oBin Try.prog .eql 53 x y (.agg #[str a.Name, .bool a.V.Some, .int .i64 a.V.Lo, .int .i64 a.V.Hi]) (.agg #[str b.Name, .bool b.V.Some, .int .i64 b.V.Lo, .int .i64 b.V.Hi]) K ↔ K (.bool (decide (a = b))) := by
  exact oEqlS (by kernel_rfl) fun w => q_api_Named_eqD 9997 a b w
set_option maxRecDepth 20000 in
theorem q_api_Named_neq {x y : Operand} {a b : T_api_Named} {K : Value → Prop} : oBin Try.prog .neq 53 x y (.agg #[str a.Name, .bool a.V.Some, .int .i64 a.V.Lo, .int .i64 a.V.Hi]) (.agg #[str b.Name, .bool b.V.Some, .int .i64 b.V.Lo, .int .i64 b.V.Hi]) K ↔ K (.bool (decide (a ≠ b))) := by
  rw [show decide (a ≠ b) = !decide (a = b) by by_cases h : a = b <;> simp [h]]
  exact oNeqS (by kernel_rfl) fun w => q_api_Named_eqD 9997 a b w
end Go.Proofs.Ytaibfbakhiainaa

