/- Texts of the claim, one behind the other. -/
import Derived.ProofKit
import Derived.ReadAgain
import Derived.OpenShut
import Derived.ChangeArms
import Derived.WalkKit
import Derived.Test.YtaibfbakhiainaaGreatMwD
set_option linter.unusedVariables false
set_option linter.unusedSimpArgs false
set_option linter.unusedSectionVars false
namespace Go.Proofs.YtaibfbakhiainaaGreat
open Go Go.Sh

/-- augur/digest.Open -/
def p_digest_Open (a0 : Str) (R : T_api_Summary → Int → Prop) : Prop :=
  p_code_NewReader (Pl.bytes a0) fun r_1 =>
  p_code_Reader_Summary r_1 fun b r_4 =>
  p_code_Reader_Done b fun b_1 r_8 =>
  Pl.ite (r_8 ≠ 0)
   (R (⟨([] : List T_api_Alarm), false, (⟨false, 0, 0⟩ : T_api_Ival), ([] : List T_api_Named)⟩ : T_api_Summary) 20)
   (R r_4 0)

/-- augur/augurlaw19.known -/
def p_augurlaw19_known  (R : Bool → Prop) : Prop :=
  p_augurlaw19_made (⟨[9], true, 1, 2, ([] : List T_augurlaw19_Cell)⟩ : T_augurlaw19_Raw) fun r_1 =>
  p_digest_Bytes r_1 fun r_4 =>
  p_digest_Open r_4 fun r_5 r_8 =>
  p_digest_Open ([255] : Str) fun r_9 r_12 =>
  p_digest_Bottom fun r_13 =>
  p_digest_Join r_13 r_1 fun r_16 =>
  p_augurhelp_Summary r_16 r_1 fun r_19 =>
  Pl.join (fun (x : Bool) =>
    Pl.join (fun (x_1 : Bool) =>
      Pl.join (fun (x_2 : Bool) =>
        Pl.join (fun (x_3 : Bool) =>
          Pl.join (fun (x_4 : Bool) =>
            Pl.join (fun (x_5 : T_api_Summary) (x_6 : T_api_Summary) =>
              Pl.join (fun (x_7 : Bool) =>
                R x_7)
               fun kp_6 =>
              Pl.ite (x_4 = true)
               (p_digest_Leq x_5 x_6 fun r_24 =>
                kp_6 r_24)
               (kp_6 false))
             fun kp_5 =>
            Pl.ite (x_4 = true)
             (p_digest_Bottom fun r_25 =>
              kp_5 r_25 r_1)
             (kp_5 (⟨([] : List T_api_Alarm), false, (⟨false, 0, 0⟩ : T_api_Ival), ([] : List T_api_Named)⟩ : T_api_Summary) (⟨([] : List T_api_Alarm), false, (⟨false, 0, 0⟩ : T_api_Ival), ([] : List T_api_Named)⟩ : T_api_Summary)))
           fun kp_4 =>
          Pl.ite (x_3 = true)
           (p_digest_Same r_1 r_5 fun r_28 =>
            kp_4 r_28)
           (kp_4 false))
         fun kp_3 =>
        Pl.ite (x_2 = true)
         (p_digest_Bottom fun r_29 =>
          kp_3 (!r_29.Ends))
         (kp_3 false))
       fun kp_2 =>
      Pl.ite (x_1 = true)
       (kp_2 (decide (r_12 = 20)))
       (kp_2 false))
     fun kp_1 =>
    Pl.ite (x = true)
     (kp_1 (decide (r_8 = 0)))
     (kp_1 false))
   fun kp =>
  Pl.ite (r_19 = true)
   (p_augurhelp_Summary r_5 r_1 fun r_32 =>
    kp r_32)
   (kp false)

/-- augur/augurlaw19.DigestTells -/
def p_augurlaw19_DigestTells (a0 : T_augurlaw19_Raw) (a1 : T_augurlaw19_Raw) (R : Bool → Prop) : Prop :=
  p_augurlaw19_known fun r_4 =>
  Pl.ite ((!r_4) = true)
   (R false)
   (p_augurlaw19_light [a0, a1] fun r_6 =>
    Pl.ite ((!r_6) = true)
     (R true)
     (∃ (R_1 : T_api_Summary → Prop) (R_2 : T_api_Summary → Prop), (p_augurlaw19_made a0 R_1) ∧ (p_augurlaw19_made a1 R_2) ∧
      ∀ r_7, R_1 r_7 → ∀ r_10, R_2 r_10 →
      p_augurref12_Sjoin r_7 r_10 false fun r_13 =>
      p_digest_Join r_7 r_10 fun r_16 =>
      p_augurhelp_Summary r_16 r_13 fun r_19 =>
      Pl.join (fun (x : Bool) =>
        Pl.join (fun (x_1 : Bool) =>
          Pl.join (fun (x_2 : Bool) (x_3 : T_api_Summary) (x_4 : T_api_Summary) =>
            Pl.join (fun (x_5 : Bool) =>
              R x_5)
             fun kp_3 =>
            Pl.ite (x_1 = true)
             (p_augurref12_Ssame x_3 x_4 fun r_24 =>
              kp_3 (x_2 == r_24))
             (kp_3 false))
           fun kp_2 =>
          Pl.ite (x_1 = true)
           (p_digest_Leq r_7 r_10 fun r_25 =>
            kp_2 r_25 r_13 r_10)
           (kp_2 false (⟨([] : List T_api_Alarm), false, (⟨false, 0, 0⟩ : T_api_Ival), ([] : List T_api_Named)⟩ : T_api_Summary) (⟨([] : List T_api_Alarm), false, (⟨false, 0, 0⟩ : T_api_Ival), ([] : List T_api_Named)⟩ : T_api_Summary)))
         fun kp_1 =>
        Pl.ite (x = true)
         (p_digest_Same r_7 r_10 fun r_26 =>
          p_augurref12_Ssame r_7 r_10 fun r_27 =>
          kp_1 (r_26 == r_27))
         (kp_1 false))
       fun kp =>
      Pl.ite (r_19 = true)
       (p_digest_Widen r_7 r_10 fun r_28 =>
        p_augurref12_Sjoin r_7 r_10 true fun r_31 =>
        p_augurhelp_Summary r_28 r_31 fun r_34 =>
        kp r_34)
       (kp false)))

/-- augur/augurlaw19.DigestLattice -/
def p_augurlaw19_DigestLattice (a0 : T_augurlaw19_Raw) (a1 : T_augurlaw19_Raw) (a2 : T_augurlaw19_Raw) (R : Bool → Prop) : Prop :=
  p_augurlaw19_known fun r_6 =>
  Pl.ite ((!r_6) = true)
   (R false)
   (p_augurlaw19_light [a0, a1, a2] fun r_8 =>
    Pl.ite ((!r_8) = true)
     (R true)
     (∃ (R_1 : T_api_Summary → Prop) (R_2 : T_api_Summary → Prop) (R_3 : T_api_Summary → Prop), (p_augurlaw19_made a0 R_1) ∧ (p_augurlaw19_made a1 R_2) ∧ (p_augurlaw19_made a2 R_3) ∧
      ∀ r_9, R_1 r_9 → ∀ r_12, R_2 r_12 → ∀ r_15, R_3 r_15 →
      p_digest_Join r_9 r_12 fun r_18 =>
      p_digest_Join r_12 r_9 fun r_21 =>
      p_digest_Same r_18 r_21 fun r_24 =>
      Pl.join (fun (x : Bool) =>
        Pl.join (fun (x_1 : Bool) =>
          Pl.join (fun (x_2 : Bool) =>
            Pl.join (fun (x_3 : Bool) =>
              Pl.join (fun (x_4 : Bool) =>
                Pl.join (fun (x_5 : Bool) =>
                  Pl.join (fun (x_6 : T_api_Summary) (x_7 : T_api_Summary) =>
                    Pl.join (fun (x_8 : Bool) =>
                      R x_8)
                     fun kp_7 =>
                    Pl.ite (x_5 = true)
                     (p_digest_Same x_6 x_7 fun r_29 =>
                      kp_7 r_29)
                     (kp_7 false))
                   fun kp_6 =>
                  Pl.ite (x_5 = true)
                   (p_digest_Bottom fun r_30 =>
                    p_digest_Join r_9 r_30 fun r_33 =>
                    kp_6 r_33 r_9)
                   (kp_6 (⟨([] : List T_api_Alarm), false, (⟨false, 0, 0⟩ : T_api_Ival), ([] : List T_api_Named)⟩ : T_api_Summary) (⟨([] : List T_api_Alarm), false, (⟨false, 0, 0⟩ : T_api_Ival), ([] : List T_api_Named)⟩ : T_api_Summary)))
                 fun kp_5 =>
                Pl.ite (x_4 = true)
                 (p_digest_Join r_9 r_9 fun r_36 =>
                  p_digest_Same r_36 r_9 fun r_39 =>
                  kp_5 r_39)
                 (kp_5 false))
               fun kp_4 =>
              Pl.ite (x_3 = true)
               (p_digest_Widen r_9 r_12 fun r_40 =>
                p_digest_Leq r_18 r_40 fun r_43 =>
                kp_4 r_43)
               (kp_4 false))
             fun kp_3 =>
            Pl.ite (x_2 = true)
             (p_digest_Leq r_9 r_15 fun r_44 =>
              Pl.join (fun (x_9 : Bool) =>
                Pl.join (fun (x_10 : Bool) =>
                  kp_3 x_10)
                 fun kp_9 =>
                Pl.ite (x_9 = true)
                 (kp_9 true)
                 (p_digest_Leq r_18 r_15 fun r_45 =>
                  kp_9 r_45))
               fun kp_8 =>
              Pl.ite ((!r_44) = true)
               (kp_8 true)
               (p_digest_Leq r_12 r_15 fun r_46 =>
                kp_8 (!r_46)))
             (kp_3 false))
           fun kp_2 =>
          Pl.ite (x_1 = true)
           (p_digest_Leq r_12 r_18 fun r_47 =>
            kp_2 r_47)
           (kp_2 false))
         fun kp_1 =>
        Pl.ite (x = true)
         (p_digest_Leq r_9 r_18 fun r_48 =>
          kp_1 r_48)
         (kp_1 false))
       fun kp =>
      Pl.ite (r_24 = true)
       (p_digest_Join r_18 r_15 fun r_49 =>
        p_digest_Join r_12 r_15 fun r_52 =>
        p_digest_Join r_9 r_52 fun r_55 =>
        p_digest_Same r_49 r_55 fun r_58 =>
        kp r_58)
       (kp false)))

end Go.Proofs.YtaibfbakhiainaaGreat

namespace Go.Proofs.YtaibfbakhiainaaGreat
open Go Go.Sh
set_option maxRecDepth 100000
attribute [local irreducible] Go.wpQuiet Go.wpList Go.Sh.mixL Go.Sh.mixF Go.Sh.wpAnyE Go.Code.wp

/-- augur/digest.Open -/
def g_digest_Open (v0 : Value) (h : Heap) (R : Value → Heap → Prop) : Prop :=
 oAlloc Tryz.prog 33 h fun t2 h => 
 oConvX Tryz.prog 9 22 v0 h fun t7 h_1 => 
 oCall Tryz.prog (.func (.func 35) #[] #[]) #[t7] h_1 fun t8 h_2 => 
 oCall Tryz.prog (.func (.func 36) #[] #[]) #[t8] h_2 fun t10 h_3 => 
 oAlloc Tryz.prog 33 h_3 fun t5 h_4 => 
 oStore Tryz.prog 33 t5 t10 h_4 fun _ h_5 => 
 oCall Tryz.prog (.func (.func 37) #[] #[]) #[t8] h_5 fun t12 h_6 => 
 oBin Tryz.prog .neq 44 (.tmp 12) (.const (.int .i64 0)) t12 (.int .i64 0) fun t13 =>
 cond t13
  (oBuild Tryz.prog 33 #[] fun t14 =>
  oStore Tryz.prog 33 t2 t14 h_6 fun _ h_7 => 
  oRes Tryz.prog [(some 33, t2), (none, (.int .i64 20))] h_7 R)
  (oLoad Tryz.prog 33 t5 (Eq h_6) fun t15 =>
  oStore Tryz.prog 33 t2 t15 h_6 fun _ h_8 => 
  oRes Tryz.prog [(some 33, t2), (none, (.int .i64 0))] h_8 R)

theorem sh_digest_Open {v0 : Value} {h : Heap} {R : Value → Heap → Prop} (hg : g_digest_Open v0 h R) : HC Tryz.prog 18 #[v0] h R := hc_shal [] Tryz.func18 (by kernel_rfl) hg

set_option maxRecDepth 20000 in
set_option maxHeartbeats 4000000 in
theorem w_digest_Open {F : Vw} {h : Heap} {M : List HP} {a0 : Str} {R : T_api_Summary → Int → Prop} (s : Sf F h (M))  (hp : p_digest_Open a0 R) :
  HC Tryz.prog 18 #[(str a0)] h fun u h' => ∃ (F' : Vw) (r_0 : T_api_Summary) (z0_0 : Value) (z0_5 : Value) (r_1 : Int), Le F F' ∧ Sf F' h' (M) ∧ (.tuple #[(.agg #[z0_0, (.bool r_0.Ends), (.bool r_0.Ret.Some), (.int .i64 r_0.Ret.Lo), (.int .i64 r_0.Ret.Hi), z0_5]), (.int .i64 r_1)]) = u ∧ RL e_api_Alarm F' z0_0 r_0.Alarms ∧ RL e_api_Named F' z0_5 r_0.Mod ∧ R r_0 r_1 := by
 refine sh_digest_Open ?_
 unfold g_digest_Open
 unfold p_digest_Open at hp
 have e0 := Le.refl F
 refine tAl s (vs := [(.slice none 0 0), (.bool false), (.bool false), (.int .i64 0), (.int .i64 0), (.slice none 0 0)]) (by rfl) fun p h_1 s => ?_
 refine tBytesF s fun F_1 v h_2 g s r => ?_
 replace e0 := Le.trans e0 g
 refine oCall_func (HC.mono (w_code_NewReader (a0 := (Pl.bytes a0)) s r hp) ?_)
 rintro u h_3 ⟨F_2, r_1, p_1, v_1, g_1, s, rfl, r_2, hp⟩
 replace r := r.le g_1
 replace e0 := Le.trans e0 g_1
 refine oCall_func (HC.mono (w_code_Reader_Summary (a0 := r_1) s (Cx.new_at p_1) r_2 hp) ?_)
 rintro u_1 h_4 ⟨F_3, b, v_2, r_4, v_3, v_4, g_2, s, rfl, r_3, r_5, r_6, hp⟩
 replace e0 := Le.trans e0 g_2
 refine tAl s (vs := [(.slice none 0 0), (.bool false), (.bool false), (.int .i64 0), (.int .i64 0), (.slice none 0 0)]) (by rfl) fun p_2 h_5 s => ?_
 refine tSt (cs := [(.slice none 0 0), (.bool false), (.bool false), (.int .i64 0), (.int .i64 0), (.slice none 0 0)]) (vs := [v_3, (.bool r_4.Ends), (.bool r_4.Ret.Some), (.int .i64 r_4.Ret.Lo), (.int .i64 r_4.Ret.Hi), v_4]) (cs' := [v_3, (.bool r_4.Ends), (.bool r_4.Ret.Some), (.int .i64 r_4.Ret.Lo), (.int .i64 r_4.Ret.Hi), v_4]) (j := 0) 0 rfl s (Cx.new_at p_2) (padd_zero _).symm (by rfl) rfl (Nat.le_of_ble_eq_true rfl) (ones_cons r_5.1.one (ones_cons rfl (ones_cons rfl (ones_cons rfl (ones_cons rfl (ones_cons r_6.1.one ones_nil)))))) rfl fun h_6 s => ?_
 replace s := Sf.front 1 rfl s
 refine oCall_func (HC.mono (w_code_Reader_Done (a0 := b) s (Cx.new_at p_1) r_3 hp) ?_)
 rintro u_2 h_7 ⟨F_4, b_1, v_5, r_8, g_3, s, rfl, r_7, hp⟩
 replace r_5 := r_5.le g_3
 replace r_6 := r_6.le g_3
 replace e0 := Le.trans e0 g_3
 refine oBin_neq.2 ?_
 by_cases hc : r_8 ≠ 0
 ·refine (cond_pos hc).2 ?_
  replace hp := (Pl.ite_pos hc).1 hp
  refine oBuild_own (cells := #[(.slice none 0 0), (.bool false), (.bool false), (.int .i64 0), (.int .i64 0), (.slice none 0 0)]) rfl ?_
  refine tSt (cs := [(.slice none 0 0), (.bool false), (.bool false), (.int .i64 0), (.int .i64 0), (.slice none 0 0)]) (vs := [(.slice none 0 0), (.bool false), (.bool false), (.int .i64 0), (.int .i64 0), (.slice none 0 0)]) (cs' := [(.slice none 0 0), (.bool false), (.bool false), (.int .i64 0), (.int .i64 0), (.slice none 0 0)]) (j := 0) 2 rfl s (Cx.new_at p) (padd_zero _).symm (by rfl) rfl (Nat.le_of_ble_eq_true rfl) (ones_cons rfl (ones_cons rfl (ones_cons rfl (ones_cons rfl (ones_cons rfl (ones_cons rfl ones_nil)))))) rfl fun h_8 s => ?_
  refine oResN (rsA (cs := [(.slice none 0 0), (.bool false), (.bool false), (.int .i64 0), (.int .i64 0), (.slice none 0 0)]) (Sf.ceE (Cx.new_at p) 2 rfl s _ rfl) rfl (rsT rs0)) (by simp) ?_
  replace s := Sf.dropAt 0 rfl s
  replace s := Sf.dropAt 0 rfl s
  replace s := Sf.dropAt 0 rfl s
  exact ⟨F_4, (⟨([] : List T_api_Alarm), false, (⟨false, 0, 0⟩ : T_api_Ival), ([] : List T_api_Named)⟩ : T_api_Summary), (.slice none 0 0), (.slice none 0 0), 20, e0, s, rfl, (RL.nil _ _ 0), (RL.nil _ _ 0), hp⟩
 ·refine (cond_neg hc).2 ?_
  replace hp := (Pl.ite_neg hc).1 hp
  refine tLdA (a := p_2) (cs := [v_3, (.bool r_4.Ends), (.bool r_4.Ret.Some), (.int .i64 r_4.Ret.Lo), (.int .i64 r_4.Ret.Hi), v_4]) (ds := [v_3, (.bool r_4.Ends), (.bool r_4.Ret.Some), (.int .i64 r_4.Ret.Lo), (.int .i64 r_4.Ret.Hi), v_4]) (j := 0) (padd_zero _).symm (Sf.ceE (Cx.new_at p_2) 1 rfl s) (Nat.le_of_ble_eq_true rfl) rfl ?_
  refine tSt (cs := [(.slice none 0 0), (.bool false), (.bool false), (.int .i64 0), (.int .i64 0), (.slice none 0 0)]) (vs := [v_3, (.bool r_4.Ends), (.bool r_4.Ret.Some), (.int .i64 r_4.Ret.Lo), (.int .i64 r_4.Ret.Hi), v_4]) (cs' := [v_3, (.bool r_4.Ends), (.bool r_4.Ret.Some), (.int .i64 r_4.Ret.Lo), (.int .i64 r_4.Ret.Hi), v_4]) (j := 0) 2 rfl s (Cx.new_at p) (padd_zero _).symm (by rfl) rfl (Nat.le_of_ble_eq_true rfl) (ones_cons r_5.1.one (ones_cons rfl (ones_cons rfl (ones_cons rfl (ones_cons rfl (ones_cons r_6.1.one ones_nil)))))) rfl fun h_9 s => ?_
  refine oResN (rsA (cs := [v_3, (.bool r_4.Ends), (.bool r_4.Ret.Some), (.int .i64 r_4.Ret.Lo), (.int .i64 r_4.Ret.Hi), v_4]) (Sf.ceE (Cx.new_at p) 2 rfl s _ rfl) rfl (rsT rs0)) (by simp) ?_
  replace s := Sf.dropAt 0 rfl s
  replace s := Sf.dropAt 0 rfl s
  replace s := Sf.dropAt 0 rfl s
  exact ⟨F_4, r_4, v_3, v_4, 0, e0, s, rfl, r_5, r_6, hp⟩

/-- augur/augurlaw19.known -/
def g_augurlaw19_known (h : Heap) (R : Value → Heap → Prop) : Prop :=
 oBuildSlice Tryz.prog 22 1 #[(0, (.int .u8 9))] h fun t7 h => 
 oBuild Tryz.prog 25 #[(0, t7), (1, (.bool true)), (2, (.int .i64 1)), (3, (.int .i64 2))] fun t8 =>
 oCall Tryz.prog (.func (.func 8) #[] #[]) #[t8] h fun t9 h_1 => 
 oAlloc Tryz.prog 33 h_1 fun t1 h_2 => 
 oStore Tryz.prog 33 t1 t9 h_2 fun _ h_3 => 
 oLoad Tryz.prog 33 t1 (Eq h_3) fun t10 =>
 oCall Tryz.prog (.func (.func 17) #[] #[]) #[t10] h_3 fun t11 h_4 => 
 oCall Tryz.prog (.func (.func 18) #[] #[]) #[t11] h_4 fun t14 h_5 => 
 oExt Tryz.prog t14 0 fun t15 =>
 oExt Tryz.prog t14 1 fun t16 =>
 oAlloc Tryz.prog 33 h_5 fun t3 h_6 => 
 oStore Tryz.prog 33 t3 t15 h_6 fun _ h_7 => 
 oCall Tryz.prog (.func (.func 18) #[] #[]) #[(.string ⟨#[255]⟩)] h_7 fun t18 h_8 => 
 oExt Tryz.prog t18 0 fun t19 =>
 oExt Tryz.prog t18 1 fun t20 =>
 oAlloc Tryz.prog 33 h_8 fun t5 h_9 => 
 oStore Tryz.prog 33 t5 t19 h_9 fun _ h_10 => 
 drawn h_10 fun D =>
 oLoad Tryz.prog 33 t1 D fun t22 =>
 oLoad Tryz.prog 33 t1 D fun t24 =>
 oCall Tryz.prog (.func (.func 16) #[] #[]) #[] h_10 fun t21 h_11 => D h_11 ∧ 
 oCall Tryz.prog (.func (.func 11) #[] #[]) #[t21, t22] h_11 fun t23 h_12 => D h_12 ∧ 
 oCall Tryz.prog (.func (.func 10) #[] #[]) #[t23, t24] h_12 fun t25 h_13 => D h_13 ∧ 
 join (fun (x29 : Value) (h_14 : Heap) =>
  oPick Tryz.prog t25 x29 (.bool false) fun t30 =>
  join (fun (x33 : Value)  =>
  oPick Tryz.prog t30 x33 (.bool false) fun t34 =>
  join (fun (x37 : Value)  =>
   oPick Tryz.prog t34 x37 (.bool false) fun t38 =>
   join (fun (x42 : Value) (h_15 : Heap) =>
   oPick Tryz.prog t38 x42 (.bool false) fun t43 =>
   join (fun (x47 : Value) (h_16 : Heap) =>
    oPick Tryz.prog t43 x47 (.bool false) fun t48 =>
    join (fun (x50 x51 : Value) (h_17 : Heap) =>
    join (fun (x52 : Value) (h_18 : Heap) =>
     oPick Tryz.prog t48 x52 (.bool false) fun t53 =>
     R t53 h_18)
     fun k_6 =>
    cond t48
     (oCall Tryz.prog (.func (.func 15) #[] #[]) #[x50, x51] h_17 fun t52 h_19 => 
     k_6 t52 h_19)
     (k_6 undef h_17))
    fun k_5 =>
    cond t48
    (oLoad Tryz.prog 33 t1 D fun t51 =>
    oCall Tryz.prog (.func (.func 16) #[] #[]) #[] h_16 fun t50 h_20 => D h_20 ∧ 
    k_5 t50 t51 h_20)
    (k_5 undef undef h_16))
    fun k_4 =>
   cond t43
    (oLoad Tryz.prog 33 t1 D fun t45 =>
    oLoad Tryz.prog 33 t3 D fun t46 =>
    oCall Tryz.prog (.func (.func 13) #[] #[]) #[t45, t46] h_15 fun t47 h_21 => D h_21 ∧ 
    k_4 t47 h_21)
    (k_4 undef h_15))
   fun k_3 =>
   cond t38
   (oCall Tryz.prog (.func (.func 16) #[] #[]) #[] h_14 fun t40 h_22 => D h_22 ∧ 
   oField Tryz.prog 33 t40 1 fun t41 =>
   oUn Tryz.prog .not t41 fun t42 =>
   k_3 t42 h_22)
   (k_3 undef h_14))
   fun k_2 =>
  cond t34
   (oBin Tryz.prog .eql 3 (.tmp 36) (.const (.int .i64 20)) t20 (.int .i64 20) fun t37 =>
   k_2 t37)
   (k_2 undef))
  fun k_1 =>
  cond t30
  (oBin Tryz.prog .eql 3 (.tmp 32) (.const (.int .i64 0)) t16 (.int .i64 0) fun t33 =>
  k_1 t33)
  (k_1 undef))
  fun k =>
 cond t25
  (oLoad Tryz.prog 33 t3 D fun t27 =>
  oLoad Tryz.prog 33 t1 D fun t28 =>
  oCall Tryz.prog (.func (.func 10) #[] #[]) #[t27, t28] h_13 fun t29 h_23 => D h_23 ∧ 
  k t29 h_23)
  (k undef h_13)

theorem sh_augurlaw19_known {h : Heap} {R : Value → Heap → Prop} (hg : g_augurlaw19_known  h R) : HC Tryz.prog 6 #[] h R := hc_shal [(5, .mixo [1, 3, 0, 2, 4, 5, 6, 7, 8, 9, 10, 11, 12, 13, 14, 15, 16, 17, 18, 19, 20, 21, 22, 23, 24, 25, 26, 27, 28, 30, 29])] Tryz.func6 (by kernel_rfl) hg

set_option maxRecDepth 20000 in
set_option maxHeartbeats 4000000 in
theorem w_augurlaw19_known {F : Vw} {h : Heap} {M : List HP}  {R : Bool → Prop} (s : Sf F h (M))  (hp : p_augurlaw19_known  R) :
  HC Tryz.prog 6 #[] h fun u h' => ∃ (F' : Vw) (r_0 : Bool), Le F F' ∧ Sf F' h' (M) ∧ (.bool r_0) = u ∧ R r_0 := by
 refine sh_augurlaw19_known ?_
 unfold g_augurlaw19_known
 unfold p_augurlaw19_known at hp
 have e0 := Le.refl F
 refine tBuildN s (e := (eI .u8)) (l := [9]) [(.int .u8 9)] rfl ⟨rfl, trivial⟩ rfl rfl rfl (Nat.le_of_ble_eq_true rfl) fun v h_1 cs hc s => ?_
 refine oBuild_own (cells := #[v, (.bool true), (.int .i64 1), (.int .i64 2), (.slice none 0 0)]) (by obtain ⟨_, _, e_b⟩ := (Sf.at 0 rfl s).row.1; (first | subst e_b | rw [e_b]); rfl) ?_
 obtain ⟨F_1, g, s, r⟩ := Sf.freezeRL 0 rfl s rfl hc
 replace e0 := Le.trans e0 g
 refine oCall_func (HC.mono (w_augurlaw19_made (a0 := (⟨[9], true, 1, 2, ([] : List T_augurlaw19_Cell)⟩ : T_augurlaw19_Raw)) s r (RL.nil _ _ 0) hp) ?_)
 rintro u h_2 ⟨F_2, r_1, v_1, v_2, g_1, s, rfl, r_2, r_3, hp⟩
 replace r := r.le g_1
 replace e0 := Le.trans e0 g_1
 refine tAl s (vs := [(.slice none 0 0), (.bool false), (.bool false), (.int .i64 0), (.int .i64 0), (.slice none 0 0)]) (by rfl) fun p h_3 s => ?_
 refine tSt (cs := [(.slice none 0 0), (.bool false), (.bool false), (.int .i64 0), (.int .i64 0), (.slice none 0 0)]) (vs := [v_1, (.bool r_1.Ends), (.bool r_1.Ret.Some), (.int .i64 r_1.Ret.Lo), (.int .i64 r_1.Ret.Hi), v_2]) (cs' := [v_1, (.bool r_1.Ends), (.bool r_1.Ret.Some), (.int .i64 r_1.Ret.Lo), (.int .i64 r_1.Ret.Hi), v_2]) (j := 0) 0 rfl s (Cx.new_at p) (padd_zero _).symm (by rfl) rfl (Nat.le_of_ble_eq_true rfl) (ones_cons r_2.1.one (ones_cons rfl (ones_cons rfl (ones_cons rfl (ones_cons rfl (ones_cons r_3.1.one ones_nil)))))) rfl fun h_4 s => ?_
 refine tLdA (a := p) (cs := [v_1, (.bool r_1.Ends), (.bool r_1.Ret.Some), (.int .i64 r_1.Ret.Lo), (.int .i64 r_1.Ret.Hi), v_2]) (ds := [v_1, (.bool r_1.Ends), (.bool r_1.Ret.Some), (.int .i64 r_1.Ret.Lo), (.int .i64 r_1.Ret.Hi), v_2]) (j := 0) (padd_zero _).symm (Sf.ceE (Cx.new_at p) 0 rfl s) (Nat.le_of_ble_eq_true rfl) rfl ?_
 refine oCall_func (HC.mono (w_digest_Bytes (a0 := r_1) s r_2 r_3 hp) ?_)
 rintro u_1 h_5 ⟨F_3, r_4, g_2, s, rfl, hp⟩
 replace r_2 := r_2.le g_2
 replace r_3 := r_3.le g_2
 replace e0 := Le.trans e0 g_2
 refine oCall_func (HC.mono (w_digest_Open (a0 := r_4) s  hp) ?_)
 rintro u_2 h_6 ⟨F_4, r_5, v_3, v_4, r_8, g_3, s, rfl, r_6, r_7, hp⟩
 replace r_2 := r_2.le g_3
 replace r_3 := r_3.le g_3
 replace e0 := Le.trans e0 g_3
 refine oExt_two0.2 ?_
 refine oExt_two1.2 ?_
 refine tAl s (vs := [(.slice none 0 0), (.bool false), (.bool false), (.int .i64 0), (.int .i64 0), (.slice none 0 0)]) (by rfl) fun p_1 h_7 s => ?_
 refine tSt (cs := [(.slice none 0 0), (.bool false), (.bool false), (.int .i64 0), (.int .i64 0), (.slice none 0 0)]) (vs := [v_3, (.bool r_5.Ends), (.bool r_5.Ret.Some), (.int .i64 r_5.Ret.Lo), (.int .i64 r_5.Ret.Hi), v_4]) (cs' := [v_3, (.bool r_5.Ends), (.bool r_5.Ret.Some), (.int .i64 r_5.Ret.Lo), (.int .i64 r_5.Ret.Hi), v_4]) (j := 0) 0 rfl s (Cx.new_at p_1) (padd_zero _).symm (by rfl) rfl (Nat.le_of_ble_eq_true rfl) (ones_cons r_6.1.one (ones_cons rfl (ones_cons rfl (ones_cons rfl (ones_cons rfl (ones_cons r_7.1.one ones_nil)))))) rfl fun h_8 s => ?_
 refine oCall_func (HC.mono (w_digest_Open (a0 := ([255] : Str)) s  hp) ?_)
 rintro u_3 h_9 ⟨F_5, r_9, v_5, v_6, r_12, g_4, s, rfl, r_10, r_11, hp⟩
 replace r_6 := r_6.le g_4
 replace r_7 := r_7.le g_4
 replace r_2 := r_2.le g_4
 replace r_3 := r_3.le g_4
 replace e0 := Le.trans e0 g_4
 refine oExt_two0.2 ?_
 refine oExt_two1.2 ?_
 refine tAl s (vs := [(.slice none 0 0), (.bool false), (.bool false), (.int .i64 0), (.int .i64 0), (.slice none 0 0)]) (by rfl) fun p_2 h_10 s => ?_
 refine tSt (cs := [(.slice none 0 0), (.bool false), (.bool false), (.int .i64 0), (.int .i64 0), (.slice none 0 0)]) (vs := [v_5, (.bool r_9.Ends), (.bool r_9.Ret.Some), (.int .i64 r_9.Ret.Lo), (.int .i64 r_9.Ret.Hi), v_6]) (cs' := [v_5, (.bool r_9.Ends), (.bool r_9.Ret.Some), (.int .i64 r_9.Ret.Lo), (.int .i64 r_9.Ret.Hi), v_6]) (j := 0) 0 rfl s (Cx.new_at p_2) (padd_zero _).symm (by rfl) rfl (Nat.le_of_ble_eq_true rfl) (ones_cons r_10.1.one (ones_cons rfl (ones_cons rfl (ones_cons rfl (ones_cons rfl (ones_cons r_11.1.one ones_nil)))))) rfl fun h_11 s => ?_
 refine ⟨fun h' => Sf F_5 h' (Ce (Cx.new p_2) [v_5, (.bool r_9.Ends), (.bool r_9.Ret.Some), (.int .i64 r_9.Ret.Lo), (.int .i64 r_9.Ret.Hi), v_6] :: Ce (Cx.new p_1) [v_3, (.bool r_5.Ends), (.bool r_5.Ret.Some), (.int .i64 r_5.Ret.Lo), (.int .i64 r_5.Ret.Hi), v_4] :: Ce (Cx.new p) [v_1, (.bool r_1.Ends), (.bool r_1.Ret.Some), (.int .i64 r_1.Ret.Lo), (.int .i64 r_1.Ret.Hi), v_2] :: M), s, ?_⟩
 have ed := Le.refl F_5
 refine tLdA (a := p) (cs := [v_1, (.bool r_1.Ends), (.bool r_1.Ret.Some), (.int .i64 r_1.Ret.Lo), (.int .i64 r_1.Ret.Hi), v_2]) (ds := [v_1, (.bool r_1.Ends), (.bool r_1.Ret.Some), (.int .i64 r_1.Ret.Lo), (.int .i64 r_1.Ret.Hi), v_2]) (j := 0) (padd_zero _).symm (Sf.ceD (Cx.new_at p) 2 rfl) (Nat.le_of_ble_eq_true rfl) rfl ?_
 refine tLdA (a := p) (cs := [v_1, (.bool r_1.Ends), (.bool r_1.Ret.Some), (.int .i64 r_1.Ret.Lo), (.int .i64 r_1.Ret.Hi), v_2]) (ds := [v_1, (.bool r_1.Ends), (.bool r_1.Ret.Some), (.int .i64 r_1.Ret.Lo), (.int .i64 r_1.Ret.Hi), v_2]) (j := 0) (padd_zero _).symm (Sf.ceD (Cx.new_at p) 2 rfl) (Nat.le_of_ble_eq_true rfl) rfl ?_
 refine oCall_func (HC.mono (w_digest_Bottom  s  hp) ?_)
 rintro u_4 h_12 ⟨F_6, r_13, v_7, v_8, g_5, s, rfl, r_14, r_15, hp⟩
 replace r_2 := r_2.le g_5
 replace r_3 := r_3.le g_5
 replace r_10 := r_10.le g_5
 replace r_11 := r_11.le g_5
 replace r_6 := r_6.le g_5
 replace r_7 := r_7.le g_5
 replace e0 := Le.trans e0 g_5
 replace ed := Le.trans ed g_5
 refine ⟨Sf.le s ed, ?_⟩
 refine oCall_func (HC.mono (w_digest_Join (a0 := r_13) (a1 := r_1) s r_14 r_15 r_2 r_3 hp) ?_)
 rintro u_5 h_13 ⟨F_7, r_16, v_9, v_10, g_6, s, rfl, r_17, r_18, hp⟩
 replace r_2 := r_2.le g_6
 replace r_3 := r_3.le g_6
 replace r_14 := r_14.le g_6
 replace r_15 := r_15.le g_6
 replace r_10 := r_10.le g_6
 replace r_11 := r_11.le g_6
 replace r_6 := r_6.le g_6
 replace r_7 := r_7.le g_6
 replace e0 := Le.trans e0 g_6
 replace ed := Le.trans ed g_6
 refine ⟨Sf.le s ed, ?_⟩
 refine oCall_func (HC.mono (w_augurhelp_Summary (a0 := r_16) (a1 := r_1) s r_17 r_18 r_2 r_3 hp) ?_)
 rintro u_6 h_14 ⟨F_8, r_19, g_7, s, rfl, hp⟩
 replace r_2 := r_2.le g_7
 replace r_3 := r_3.le g_7
 replace r_17 := r_17.le g_7
 replace r_18 := r_18.le g_7
 replace r_10 := r_10.le g_7
 replace r_11 := r_11.le g_7
 replace r_6 := r_6.le g_7
 replace r_7 := r_7.le g_7
 replace e0 := Le.trans e0 g_7
 replace ed := Le.trans ed g_7
 refine ⟨Sf.le s ed, ?_⟩
 obtain ⟨kp, hk_1, hp⟩ := Pl.join_elim hp
 have ej := Le.refl F_8
 refine Sh.join_intro fun k hk => ?_
 have hK : ∀ (F_9 : Vw) (h_15 : Heap) (x : Bool) (w : Value), (∀ K : Value → Prop, K (.bool x) → oPick Tryz.prog (.bool r_19) w (.bool false) K) → Le F_8 F_9 → Sf F_9 h_15 (Ce (Cx.new p_2) [v_5, (.bool r_9.Ends), (.bool r_9.Ret.Some), (.int .i64 r_9.Ret.Lo), (.int .i64 r_9.Ret.Hi), v_6] :: Ce (Cx.new p_1) [v_3, (.bool r_5.Ends), (.bool r_5.Ret.Some), (.int .i64 r_5.Ret.Lo), (.int .i64 r_5.Ret.Hi), v_4] :: Ce (Cx.new p) [v_1, (.bool r_1.Ends), (.bool r_1.Ret.Some), (.int .i64 r_1.Ret.Lo), (.int .i64 r_1.Ret.Hi), v_2] :: M) → kp x → k w h_15 := by
  intro F_9 h_15 x w hw g_8 s  hp
  rw [hk]
  rw [hk_1] at hp
  refine hw _ ?_
  replace r_10 := r_10.le g_8
  replace r_11 := r_11.le g_8
  replace r_6 := r_6.le g_8
  replace r_7 := r_7.le g_8
  replace r_2 := r_2.le g_8
  replace r_3 := r_3.le g_8
  replace e0 := Le.trans e0 g_8
  replace ed := Le.trans ed g_8
  replace ej := Le.trans ej g_8
  obtain ⟨kp_1, hk_3, hp⟩ := Pl.join_elim hp
  refine Sh.join_intro fun k_1 hk_2 => ?_
  have hK_1 : ∀ (x_1 : Bool) (w_1 : Value), (∀ K : Value → Prop, K (.bool x_1) → oPick Tryz.prog (.bool x) w_1 (.bool false) K) → kp_1 x_1 → k_1 w_1 := by
   intro x_1 w_1 hw_1 hp
   rw [hk_2]
   rw [hk_3] at hp
   refine hw_1 _ ?_
   obtain ⟨kp_2, hk_5, hp⟩ := Pl.join_elim hp
   refine Sh.join_intro fun k_2 hk_4 => ?_
   have hK_2 : ∀ (x_2 : Bool) (w_2 : Value), (∀ K : Value → Prop, K (.bool x_2) → oPick Tryz.prog (.bool x_1) w_2 (.bool false) K) → kp_2 x_2 → k_2 w_2 := by
    intro x_2 w_2 hw_2 hp
    rw [hk_4]
    rw [hk_5] at hp
    refine hw_2 _ ?_
    obtain ⟨kp_3, hk_7, hp⟩ := Pl.join_elim hp
    have ej_1 := Le.refl F_9
    refine Sh.join_intro fun k_3 hk_6 => ?_
    have hK_3 : ∀ (F_10 : Vw) (h_16 : Heap) (x_3 : Bool) (w_3 : Value), (∀ K : Value → Prop, K (.bool x_3) → oPick Tryz.prog (.bool x_2) w_3 (.bool false) K) → Le F_9 F_10 → Sf F_10 h_16 (Ce (Cx.new p_2) [v_5, (.bool r_9.Ends), (.bool r_9.Ret.Some), (.int .i64 r_9.Ret.Lo), (.int .i64 r_9.Ret.Hi), v_6] :: Ce (Cx.new p_1) [v_3, (.bool r_5.Ends), (.bool r_5.Ret.Some), (.int .i64 r_5.Ret.Lo), (.int .i64 r_5.Ret.Hi), v_4] :: Ce (Cx.new p) [v_1, (.bool r_1.Ends), (.bool r_1.Ret.Some), (.int .i64 r_1.Ret.Lo), (.int .i64 r_1.Ret.Hi), v_2] :: M) → kp_3 x_3 → k_3 w_3 h_16 := by
     intro F_10 h_16 x_3 w_3 hw_3 g_9 s  hp
     rw [hk_6]
     rw [hk_7] at hp
     refine hw_3 _ ?_
     replace r_10 := r_10.le g_9
     replace r_11 := r_11.le g_9
     replace r_6 := r_6.le g_9
     replace r_7 := r_7.le g_9
     replace r_2 := r_2.le g_9
     replace r_3 := r_3.le g_9
     replace e0 := Le.trans e0 g_9
     replace ed := Le.trans ed g_9
     replace ej := Le.trans ej g_9
     replace ej_1 := Le.trans ej_1 g_9
     obtain ⟨kp_4, hk_9, hp⟩ := Pl.join_elim hp
     have ej_2 := Le.refl F_10
     refine Sh.join_intro fun k_4 hk_8 => ?_
     have hK_4 : ∀ (F_11 : Vw) (h_17 : Heap) (x_4 : Bool) (w_4 : Value), (∀ K : Value → Prop, K (.bool x_4) → oPick Tryz.prog (.bool x_3) w_4 (.bool false) K) → Le F_10 F_11 → Sf F_11 h_17 (Ce (Cx.new p_2) [v_5, (.bool r_9.Ends), (.bool r_9.Ret.Some), (.int .i64 r_9.Ret.Lo), (.int .i64 r_9.Ret.Hi), v_6] :: Ce (Cx.new p_1) [v_3, (.bool r_5.Ends), (.bool r_5.Ret.Some), (.int .i64 r_5.Ret.Lo), (.int .i64 r_5.Ret.Hi), v_4] :: Ce (Cx.new p) [v_1, (.bool r_1.Ends), (.bool r_1.Ret.Some), (.int .i64 r_1.Ret.Lo), (.int .i64 r_1.Ret.Hi), v_2] :: M) → kp_4 x_4 → k_4 w_4 h_17 := by
      intro F_11 h_17 x_4 w_4 hw_4 g_10 s  hp
      rw [hk_8]
      rw [hk_9] at hp
      refine hw_4 _ ?_
      replace r_10 := r_10.le g_10
      replace r_11 := r_11.le g_10
      replace r_6 := r_6.le g_10
      replace r_7 := r_7.le g_10
      replace r_2 := r_2.le g_10
      replace r_3 := r_3.le g_10
      replace e0 := Le.trans e0 g_10
      replace ed := Le.trans ed g_10
      replace ej := Le.trans ej g_10
      replace ej_1 := Le.trans ej_1 g_10
      replace ej_2 := Le.trans ej_2 g_10
      obtain ⟨kp_5, hk_11, hp⟩ := Pl.join_elim hp
      have ej_3 := Le.refl F_11
      refine Sh.join_intro fun k_5 hk_10 => ?_
      have hK_5 : ∀ (F_12 : Vw) (h_18 : Heap) (x_5 : T_api_Summary) (x_6 : T_api_Summary) (v_11 : Value) (v_12 : Value) (v_13 : Value) (v_14 : Value) (w_5 : Value) (w_6 : Value), (x_4 = true → (.agg #[v_11, (.bool x_5.Ends), (.bool x_5.Ret.Some), (.int .i64 x_5.Ret.Lo), (.int .i64 x_5.Ret.Hi), v_12]) = w_5) → (x_4 = true → (.agg #[v_13, (.bool x_6.Ends), (.bool x_6.Ret.Some), (.int .i64 x_6.Ret.Lo), (.int .i64 x_6.Ret.Hi), v_14]) = w_6) → Le F_11 F_12 → Sf F_12 h_18 (Ce (Cx.new p_2) [v_5, (.bool r_9.Ends), (.bool r_9.Ret.Some), (.int .i64 r_9.Ret.Lo), (.int .i64 r_9.Ret.Hi), v_6] :: Ce (Cx.new p_1) [v_3, (.bool r_5.Ends), (.bool r_5.Ret.Some), (.int .i64 r_5.Ret.Lo), (.int .i64 r_5.Ret.Hi), v_4] :: Ce (Cx.new p) [v_1, (.bool r_1.Ends), (.bool r_1.Ret.Some), (.int .i64 r_1.Ret.Lo), (.int .i64 r_1.Ret.Hi), v_2] :: M) → RL e_api_Alarm F_12 v_11 x_5.Alarms → RL e_api_Named F_12 v_12 x_5.Mod → RL e_api_Alarm F_12 v_13 x_6.Alarms → RL e_api_Named F_12 v_14 x_6.Mod → kp_5 x_5 x_6 → k_5 w_5 w_6 h_18 := by
       intro F_12 h_18 x_5 x_6 v_11 v_12 v_13 v_14 w_5 w_6 hw_5 hw_6 g_11 s r_20 r_21 r_22 r_23 hp
       rw [hk_10]
       rw [hk_11] at hp
       replace r_10 := r_10.le g_11
       replace r_11 := r_11.le g_11
       replace r_6 := r_6.le g_11
       replace r_7 := r_7.le g_11
       replace r_2 := r_2.le g_11
       replace r_3 := r_3.le g_11
       replace e0 := Le.trans e0 g_11
       replace ed := Le.trans ed g_11
       replace ej := Le.trans ej g_11
       replace ej_1 := Le.trans ej_1 g_11
       replace ej_2 := Le.trans ej_2 g_11
       replace ej_3 := Le.trans ej_3 g_11
       obtain ⟨kp_6, hk_13, hp⟩ := Pl.join_elim hp
       have ej_4 := Le.refl F_12
       refine Sh.join_intro fun k_6 hk_12 => ?_
       have hK_6 : ∀ (F_13 : Vw) (h_19 : Heap) (x_7 : Bool) (w_7 : Value), (∀ K : Value → Prop, K (.bool x_7) → oPick Tryz.prog (.bool x_4) w_7 (.bool false) K) → Le F_12 F_13 → Sf F_13 h_19 (Ce (Cx.new p_2) [v_5, (.bool r_9.Ends), (.bool r_9.Ret.Some), (.int .i64 r_9.Ret.Lo), (.int .i64 r_9.Ret.Hi), v_6] :: Ce (Cx.new p_1) [v_3, (.bool r_5.Ends), (.bool r_5.Ret.Some), (.int .i64 r_5.Ret.Lo), (.int .i64 r_5.Ret.Hi), v_4] :: Ce (Cx.new p) [v_1, (.bool r_1.Ends), (.bool r_1.Ret.Some), (.int .i64 r_1.Ret.Lo), (.int .i64 r_1.Ret.Hi), v_2] :: M) → kp_6 x_7 → k_6 w_7 h_19 := by
        intro F_13 h_19 x_7 w_7 hw_7 g_12 s  hp
        rw [hk_12]
        rw [hk_13] at hp
        refine hw_7 _ ?_
        replace r_10 := r_10.le g_12
        replace r_11 := r_11.le g_12
        replace r_6 := r_6.le g_12
        replace r_7 := r_7.le g_12
        replace r_2 := r_2.le g_12
        replace r_3 := r_3.le g_12
        replace e0 := Le.trans e0 g_12
        replace ed := Le.trans ed g_12
        replace ej := Le.trans ej g_12
        replace ej_1 := Le.trans ej_1 g_12
        replace ej_2 := Le.trans ej_2 g_12
        replace ej_3 := Le.trans ej_3 g_12
        replace ej_4 := Le.trans ej_4 g_12
        replace s := Sf.dropAt 0 rfl s
        replace s := Sf.dropAt 0 rfl s
        replace s := Sf.dropAt 0 rfl s
        exact ⟨F_13, x_7, e0, s, rfl, hp⟩
       clear hk_12 hk_13
       by_cases hc_1 : x_4 = true
       ·refine (cond_tt hc_1).2 ?_
        replace hp := (Pl.ite_pos hc_1).1 hp
        obtain rfl := hw_5 hc_1
        obtain rfl := hw_6 hc_1
        refine oCall_func (HC.mono (w_digest_Leq (a0 := x_5) (a1 := x_6) s r_20 r_21 r_22 r_23 hp) ?_)
        rintro u_7 h_20 ⟨F_14, r_24, g_13, s, rfl, hp⟩
        replace r_20 := r_20.le g_13
        replace r_21 := r_21.le g_13
        replace r_22 := r_22.le g_13
        replace r_23 := r_23.le g_13
        replace r_10 := r_10.le g_13
        replace r_11 := r_11.le g_13
        replace r_6 := r_6.le g_13
        replace r_7 := r_7.le g_13
        replace r_2 := r_2.le g_13
        replace r_3 := r_3.le g_13
        replace e0 := Le.trans e0 g_13
        replace ed := Le.trans ed g_13
        replace ej := Le.trans ej g_13
        replace ej_1 := Le.trans ej_1 g_13
        replace ej_2 := Le.trans ej_2 g_13
        replace ej_3 := Le.trans ej_3 g_13
        replace ej_4 := Le.trans ej_4 g_13
        exact hK_6 _ _ r_24 _ (fun _ h => oPick_hc hc_1 h) ej_4 s  hp
       ·refine (cond_ff hc_1).2 ?_
        replace hp := (Pl.ite_neg hc_1).1 hp
        exact hK_6 _ _ false _ (fun _ h => oPick_hn hc_1 h) ej_4 s  hp
      clear hk_10 hk_11
      by_cases hc_2 : x_4 = true
      ·refine (cond_tt hc_2).2 ?_
       replace hp := (Pl.ite_pos hc_2).1 hp
       refine tLdA (a := p) (cs := [v_1, (.bool r_1.Ends), (.bool r_1.Ret.Some), (.int .i64 r_1.Ret.Lo), (.int .i64 r_1.Ret.Hi), v_2]) (ds := [v_1, (.bool r_1.Ends), (.bool r_1.Ret.Some), (.int .i64 r_1.Ret.Lo), (.int .i64 r_1.Ret.Hi), v_2]) (j := 0) (padd_zero _).symm (Sf.ceD (Cx.new_at p) 2 rfl) (Nat.le_of_ble_eq_true rfl) rfl ?_
       refine oCall_func (HC.mono (w_digest_Bottom  s  hp) ?_)
       rintro u_8 h_21 ⟨F_15, r_25, v_15, v_16, g_14, s, rfl, r_26, r_27, hp⟩
       replace r_2 := r_2.le g_14
       replace r_3 := r_3.le g_14
       replace r_10 := r_10.le g_14
       replace r_11 := r_11.le g_14
       replace r_6 := r_6.le g_14
       replace r_7 := r_7.le g_14
       replace e0 := Le.trans e0 g_14
       replace ed := Le.trans ed g_14
       replace ej := Le.trans ej g_14
       replace ej_1 := Le.trans ej_1 g_14
       replace ej_2 := Le.trans ej_2 g_14
       replace ej_3 := Le.trans ej_3 g_14
       refine ⟨Sf.le s ed, ?_⟩
       exact hK_5 _ _ r_25 r_1 v_15 v_16 v_1 v_2 _ _ (fun _ => rfl) (fun _ => rfl) ej_3 s r_26 r_27 r_2 r_3 hp
      ·refine (cond_ff hc_2).2 ?_
       replace hp := (Pl.ite_neg hc_2).1 hp
       exact hK_5 _ _ (⟨([] : List T_api_Alarm), false, (⟨false, 0, 0⟩ : T_api_Ival), ([] : List T_api_Named)⟩ : T_api_Summary) (⟨([] : List T_api_Alarm), false, (⟨false, 0, 0⟩ : T_api_Ival), ([] : List T_api_Named)⟩ : T_api_Summary) (.slice none 0 0) (.slice none 0 0) (.slice none 0 0) (.slice none 0 0) _ _ (fun h => absurd h hc_2) (fun h => absurd h hc_2) ej_3 s (RL.nil _ _ 0) (RL.nil _ _ 0) (RL.nil _ _ 0) (RL.nil _ _ 0) hp
     clear hk_8 hk_9
     by_cases hc_3 : x_3 = true
     ·refine (cond_tt hc_3).2 ?_
      replace hp := (Pl.ite_pos hc_3).1 hp
      refine tLdA (a := p) (cs := [v_1, (.bool r_1.Ends), (.bool r_1.Ret.Some), (.int .i64 r_1.Ret.Lo), (.int .i64 r_1.Ret.Hi), v_2]) (ds := [v_1, (.bool r_1.Ends), (.bool r_1.Ret.Some), (.int .i64 r_1.Ret.Lo), (.int .i64 r_1.Ret.Hi), v_2]) (j := 0) (padd_zero _).symm (Sf.ceD (Cx.new_at p) 2 rfl) (Nat.le_of_ble_eq_true rfl) rfl ?_
      refine tLdA (a := p_1) (cs := [v_3, (.bool r_5.Ends), (.bool r_5.Ret.Some), (.int .i64 r_5.Ret.Lo), (.int .i64 r_5.Ret.Hi), v_4]) (ds := [v_3, (.bool r_5.Ends), (.bool r_5.Ret.Some), (.int .i64 r_5.Ret.Lo), (.int .i64 r_5.Ret.Hi), v_4]) (j := 0) (padd_zero _).symm (Sf.ceD (Cx.new_at p_1) 1 rfl) (Nat.le_of_ble_eq_true rfl) rfl ?_
      refine oCall_func (HC.mono (w_digest_Same (a0 := r_1) (a1 := r_5) s r_2 r_3 r_6 r_7 hp) ?_)
      rintro u_9 h_22 ⟨F_16, r_28, g_15, s, rfl, hp⟩
      replace r_2 := r_2.le g_15
      replace r_3 := r_3.le g_15
      replace r_6 := r_6.le g_15
      replace r_7 := r_7.le g_15
      replace r_10 := r_10.le g_15
      replace r_11 := r_11.le g_15
      replace e0 := Le.trans e0 g_15
      replace ed := Le.trans ed g_15
      replace ej := Le.trans ej g_15
      replace ej_1 := Le.trans ej_1 g_15
      replace ej_2 := Le.trans ej_2 g_15
      refine ⟨Sf.le s ed, ?_⟩
      exact hK_4 _ _ r_28 _ (fun _ h => oPick_hc hc_3 h) ej_2 s  hp
     ·refine (cond_ff hc_3).2 ?_
      replace hp := (Pl.ite_neg hc_3).1 hp
      exact hK_4 _ _ false _ (fun _ h => oPick_hn hc_3 h) ej_2 s  hp
    clear hk_6 hk_7
    by_cases hc_4 : x_2 = true
    ·refine (cond_tt hc_4).2 ?_
     replace hp := (Pl.ite_pos hc_4).1 hp
     refine oCall_func (HC.mono (w_digest_Bottom  s  hp) ?_)
     rintro u_10 h_23 ⟨F_17, r_29, v_17, v_18, g_16, s, rfl, r_30, r_31, hp⟩
     replace r_10 := r_10.le g_16
     replace r_11 := r_11.le g_16
     replace r_6 := r_6.le g_16
     replace r_7 := r_7.le g_16
     replace r_2 := r_2.le g_16
     replace r_3 := r_3.le g_16
     replace e0 := Le.trans e0 g_16
     replace ed := Le.trans ed g_16
     replace ej := Le.trans ej g_16
     replace ej_1 := Le.trans ej_1 g_16
     refine ⟨Sf.le s ed, ?_⟩
     refine oField_own (x := (.bool r_29.Ends)) (by obtain ⟨_, _, e_b⟩ := r_30.1; (first | subst e_b | rw [e_b]); obtain ⟨_, _, e_b⟩ := r_31.1; (first | subst e_b | rw [e_b]); exact fun w => rfl) ?_
     refine oUn_not.2 ?_
     exact hK_3 _ _ (!r_29.Ends) _ (fun _ h => oPick_hc hc_4 h) ej_1 s  hp
    ·refine (cond_ff hc_4).2 ?_
     replace hp := (Pl.ite_neg hc_4).1 hp
     exact hK_3 _ _ false _ (fun _ h => oPick_hn hc_4 h) ej_1 s  hp
   clear hk_4 hk_5
   by_cases hc_5 : x_1 = true
   ·refine (cond_tt hc_5).2 ?_
    replace hp := (Pl.ite_pos hc_5).1 hp
    refine oBin_eql.2 ?_
    exact hK_2 (decide (r_12 = 20)) _ (fun _ h => oPick_hc hc_5 h) hp
   ·refine (cond_ff hc_5).2 ?_
    replace hp := (Pl.ite_neg hc_5).1 hp
    exact hK_2 false _ (fun _ h => oPick_hn hc_5 h) hp
  clear hk_2 hk_3
  by_cases hc_6 : x = true
  ·refine (cond_tt hc_6).2 ?_
   replace hp := (Pl.ite_pos hc_6).1 hp
   refine oBin_eql.2 ?_
   exact hK_1 (decide (r_8 = 0)) _ (fun _ h => oPick_hc hc_6 h) hp
  ·refine (cond_ff hc_6).2 ?_
   replace hp := (Pl.ite_neg hc_6).1 hp
   exact hK_1 false _ (fun _ h => oPick_hn hc_6 h) hp
 clear hk hk_1
 by_cases hc_7 : r_19 = true
 ·refine (cond_tt hc_7).2 ?_
  replace hp := (Pl.ite_pos hc_7).1 hp
  refine tLdA (a := p_1) (cs := [v_3, (.bool r_5.Ends), (.bool r_5.Ret.Some), (.int .i64 r_5.Ret.Lo), (.int .i64 r_5.Ret.Hi), v_4]) (ds := [v_3, (.bool r_5.Ends), (.bool r_5.Ret.Some), (.int .i64 r_5.Ret.Lo), (.int .i64 r_5.Ret.Hi), v_4]) (j := 0) (padd_zero _).symm (Sf.ceD (Cx.new_at p_1) 1 rfl) (Nat.le_of_ble_eq_true rfl) rfl ?_
  refine tLdA (a := p) (cs := [v_1, (.bool r_1.Ends), (.bool r_1.Ret.Some), (.int .i64 r_1.Ret.Lo), (.int .i64 r_1.Ret.Hi), v_2]) (ds := [v_1, (.bool r_1.Ends), (.bool r_1.Ret.Some), (.int .i64 r_1.Ret.Lo), (.int .i64 r_1.Ret.Hi), v_2]) (j := 0) (padd_zero _).symm (Sf.ceD (Cx.new_at p) 2 rfl) (Nat.le_of_ble_eq_true rfl) rfl ?_
  refine oCall_func (HC.mono (w_augurhelp_Summary (a0 := r_5) (a1 := r_1) s r_6 r_7 r_2 r_3 hp) ?_)
  rintro u_11 h_24 ⟨F_18, r_32, g_17, s, rfl, hp⟩
  replace r_6 := r_6.le g_17
  replace r_7 := r_7.le g_17
  replace r_2 := r_2.le g_17
  replace r_3 := r_3.le g_17
  replace r_10 := r_10.le g_17
  replace r_11 := r_11.le g_17
  replace e0 := Le.trans e0 g_17
  replace ed := Le.trans ed g_17
  replace ej := Le.trans ej g_17
  refine ⟨Sf.le s ed, ?_⟩
  exact hK _ _ r_32 _ (fun _ h => oPick_hc hc_7 h) ej s  hp
 ·refine (cond_ff hc_7).2 ?_
  replace hp := (Pl.ite_neg hc_7).1 hp
  exact hK _ _ false _ (fun _ h => oPick_hn hc_7 h) ej s  hp

end Go.Proofs.YtaibfbakhiainaaGreat

namespace Go.Sh
variable {α : Type} {P : Program}
/-- The same, told ahead. -/
theorem tPlE (k : Nat) {e : En α} {F : Vw} {v : Value} {l : List α} {i : Int} {a : α} (hk : e.k = k) (r : RL e F v l) (h0 : 0 ≤ i) (hi : l[i.toNat]? = some a) :
    ∃ q c, e.C F c a ∧ RdV F (.pointer (some q)) c ∧ ∀ {P : Program} {t el : TypeId} [Und P t (.slice el)] [Siz P el k] {ik : IntKind} {K : Value → Prop}, K (.pointer (some q)) → oIdx P t v (.int ik i) K := by
  obtain ⟨hv, _, cs, hr, hc⟩ := r
  subst hk
  have hlt := (List.getElem?_eq_some_iff.1 hi).1
  have hlen := hc.len
  have hp := e.pos
  have hcl : 0 < cs.length := by
    rw [hlen]; exact Nat.mul_pos (by omega) hp
  obtain ⟨b, o, hq, hx⟩ := hr.resolve_left (by intro e; rw [e] at hcl; simp at hcl)
  have h2 := (hr.drop (i.toNat * e.k)).take e.k
  rw [hq] at h2
  refine ⟨_, _, hc.get hi, h2, fun {P t el} _ _ {ik K} hK => ?_⟩
  rw [oIdx_sl hv (by rw [hq]; simp) h0 (by omega), hq]
  exact hK
end Go.Sh
namespace Go.Proofs.YtaibfbakhiainaaGreat
open Go Go.Sh

/-- augur/augurlaw19.DigestWidens -/
def p_augurlaw19_DigestWidens (a0 : List T_augurlaw19_Raw) (R : Bool → Prop) : Prop :=
  p_augurlaw19_known fun r_1 =>
  Pl.ite ((!r_1) = true)
   (R false)
   (Pl.join (fun (x : Bool) =>
      Pl.ite (x = true)
       (R true)
       (p_digest_Bottom fun r_2 =>
        Pl.loop3 (0 : Int) (0 : Int) r_2 fun x_6 x_7 x_8 next =>
        Pl.ite (x_7 < (List.length a0 : Int))
         (Pl.get a0 x_7 fun a =>
          ∃ (R_1 : T_api_Summary → Prop) (R_2 : T_api_Summary → Prop) (R_3 : T_api_Summary → Prop), (p_augurlaw19_made a R_1) ∧ (∀ r_11, R_1 r_11 → p_digest_Join x_8 r_11 R_2) ∧ (∀ r_14, R_2 r_14 → p_digest_Widen x_8 r_14 R_3) ∧
          ∀ r_11, R_1 r_11 → ∀ r_14, R_2 r_14 → ∀ r_17, R_3 r_17 →
          Pl.join (fun (x_9 : Int) =>
            p_digest_Leq x_8 r_17 fun r_20 =>
            Pl.join (fun (x_10 : T_api_Summary) (x_11 : T_api_Summary) =>
              Pl.join (fun (x_12 : Bool) =>
                Pl.ite (x_12 = true)
                 (R false)
                 (next x_9 (IntKind.wrap .i64 (x_7 + 1)) r_17))
               fun kp_3 =>
              Pl.ite ((!r_20) = true)
               (kp_3 true)
               (p_digest_Leq x_10 x_11 fun r_25 =>
                kp_3 (!r_25)))
             fun kp_2 =>
            Pl.ite ((!r_20) = true)
             (kp_2 (⟨([] : List T_api_Alarm), false, (⟨false, 0, 0⟩ : T_api_Ival), ([] : List T_api_Named)⟩ : T_api_Summary) (⟨([] : List T_api_Alarm), false, (⟨false, 0, 0⟩ : T_api_Ival), ([] : List T_api_Named)⟩ : T_api_Summary))
             (Pl.get a0 x_7 fun a_1 =>
              p_augurlaw19_made a_1 fun r_28 =>
              kp_2 r_28 r_17))
           fun kp_1 =>
          p_digest_Same r_17 x_8 fun r_31 =>
          Pl.ite ((!r_31) = true)
           (kp_1 (IntKind.wrap .i64 (x_6 + 1)))
           (kp_1 x_6))
         (R (decide (x_6 ≤ 271)))))
     fun kp =>
    Pl.ite (40 < (List.length a0 : Int))
     (kp true)
     (p_augurlaw19_light a0 fun r_32 =>
      kp (!r_32)))

end Go.Proofs.YtaibfbakhiainaaGreat

namespace Go.Proofs.YtaibfbakhiainaaGreat
open Go Go.Sh
set_option maxRecDepth 100000
attribute [local irreducible] Go.wpQuiet Go.wpList Go.Sh.mixL Go.Sh.mixF Go.Sh.wpAnyE Go.Code.wp

/-- augur/augurlaw19.DigestWidens -/
def g_augurlaw19_DigestWidens (v0 : Value) (h : Heap) (R : Value → Heap → Prop) : Prop :=
 oCall Tryz.prog (.func (.func 6) #[] #[]) #[] h fun t7 h => 
 oUn Tryz.prog .not t7 fun t8 =>
 cond t8
  (R (.bool false) h)
  (oLen Tryz.prog #[41] 3 v0 fun t10 =>
  oBin Tryz.prog .gtr 3 (.tmp 10) (.const (.int .i64 40)) t10 (.int .i64 40) fun t11 =>
  join (fun (x15 : Value) (h_1 : Heap) =>
  oPick Tryz.prog t11 (.bool true) x15 fun t16 =>
  cond t16
   (R (.bool true) h_1)
   (oCall Tryz.prog (.func (.func 16) #[] #[]) #[] h_1 fun t17 h_2 => 
   oAlloc Tryz.prog 33 h_2 fun t3 h_3 => 
   oStore Tryz.prog 33 t3 t17 h_3 fun _ h_4 => 
   loop2 (.int .i64 0) (.int .i64 0) h_4 fun x4 x5 h_5 next =>
   oLen Tryz.prog #[41] 3 v0 fun t20 =>
   oBin Tryz.prog .lss 3 (.tmp 18) (.tmp 20) x5 t20 fun t21 =>
   cond t21
    (com h_5 fun A =>
    (cop0 A 0 fun ret h_6 =>
    oLoad Tryz.prog 33 t3 (Eq h_6) fun v =>
    ret v h_6) ∧
    (cop0 A 1 fun ret_1 h_8 =>
    oLoad Tryz.prog 33 t3 (Eq h_8) fun v_1 =>
    ret_1 v_1 h_8) ∧
    (cop0 A 2 fun ret_2 h_10 =>
    ret_2 v0 h_10) ∧
    (cop0 A 3 fun ret_3 h_12 =>
    ret_3 x5 h_12) ∧
    (cop2 A 4 2 3 fun ret_4 h_14 t26 t27 =>
    oIdx Tryz.prog 41 t26 t27 fun v_4 =>
    ret_4 v_4 h_14) ∧
    (cop1 A 5 4 fun ret_5 h_16 t28 =>
    oLoad Tryz.prog 25 t28 (Eq h_16) fun v_5 =>
    ret_5 v_5 h_16) ∧
    (cop1 A 6 5 fun ret_6 h_18 t29 =>
    oCall Tryz.prog (.func (.func 8) #[] #[]) #[t29] h_18 fun v_6 h_19 =>
    ret_6 v_6 h_19) ∧
    (cop2 A 7 1 6 fun ret_7 h_20 t25 t30 =>
    oCall Tryz.prog (.func (.func 11) #[] #[]) #[t25, t30] h_20 fun v_7 h_21 =>
    ret_7 v_7 h_21) ∧
    (cop2 A 8 0 7 fun ret_8 h_22 t24 t31 =>
    oCall Tryz.prog (.func (.func 12) #[] #[]) #[t24, t31] h_22 fun v_8 h_23 =>
    ret_8 v_8 h_23) ∧
    (cop0 A 9 fun ret_9 h_24 =>
    oAlloc Tryz.prog 33 h_24 fun v_9 h_25 =>
    ret_9 v_9 h_25) ∧
    cend A 10 fun x h_26 =>
    oStore Tryz.prog 33 (x 9) (x 8) h_26 fun _ h_27 => 
    join (fun (x4_1 : Value) (h_28 : Heap) =>
    drawn h_28 fun D =>
    oLoad Tryz.prog 33 t3 D fun t39 =>
    oLoad Tryz.prog 33 (x 9) D fun t40 =>
    oCall Tryz.prog (.func (.func 15) #[] #[]) #[t39, t40] h_28 fun t41 h_29 => D h_29 ∧ 
    oUn Tryz.prog .not t41 fun t42 =>
    join (fun (x48 x49 : Value) (h_30 : Heap) =>
     join (fun (x51 : Value) (h_31 : Heap) =>
     oPick Tryz.prog t42 (.bool true) x51 fun t52 =>
     cond t52
      (R (.bool false) h_31)
      (oLoad Tryz.prog 33 (x 9) (Eq h_31) fun t53 =>
      oStore Tryz.prog 33 t3 t53 h_31 fun _ h_32 => 
      oBin Tryz.prog .add 3 (.tmp 22) (.const (.int .i64 1)) x5 (.int .i64 1) fun t23 =>
      next x4_1 t23 h_32))
     fun k_3 =>
     cond t42
     (k_3 undef h_30)
     (oCall Tryz.prog (.func (.func 15) #[] #[]) #[x48, x49] h_30 fun t50 h_33 => 
     oUn Tryz.prog .not t50 fun t51 =>
     k_3 t51 h_33))
     fun k_2 =>
    cond t42
     (k_2 undef undef h_29)
     (oIdx Tryz.prog 41 v0 x5 fun t46 =>
     oLoad Tryz.prog 25 t46 D fun t47 =>
     oLoad Tryz.prog 33 (x 9) D fun t49 =>
     oCall Tryz.prog (.func (.func 8) #[] #[]) #[t47] h_29 fun t48 h_34 => D h_34 ∧ 
     k_2 t48 t49 h_34))
    fun k_1 =>
    oLoad Tryz.prog 33 (x 9) (Eq h_27) fun t33 =>
    oLoad Tryz.prog 33 t3 (Eq h_27) fun t34 =>
    oCall Tryz.prog (.func (.func 13) #[] #[]) #[t33, t34] h_27 fun t35 h_35 => 
    oUn Tryz.prog .not t35 fun t36 =>
    cond t36
     (oBin Tryz.prog .add 3 (.tmp 37) (.const (.int .i64 1)) x4 (.int .i64 1) fun t38 =>
     k_1 t38 h_35)
     (k_1 x4 h_35))
    (oBin Tryz.prog .leq 3 (.tmp 54) (.const (.int .i64 271)) x4 (.int .i64 271) fun t55 =>
    R t55 h_5)))
  fun k =>
  cond t11
  (k undef h)
  (oCall Tryz.prog (.func (.func 7) #[] #[]) #[v0] h fun t14 h_36 => 
  oUn Tryz.prog .not t14 fun t15 =>
  k t15 h_36))

set_option maxRecDepth 100000 in
set_option maxHeartbeats 2000000 in
theorem sh_augurlaw19_DigestWidens {v0 : Value} {h : Heap} {R : Value → Heap → Prop} (hg : g_augurlaw19_DigestWidens v0 h R) : HC Tryz.prog 5 #[v0] h R := by
 refine hc_of_wp (n := 56) (f := ovr [(0, v0)] fun _ => undef) Tryz.func5 rfl rfl (by kernel_rfl) (fun w hw => ?_)
 have hs := SameW.refl w
 unfold g_augurlaw19_DigestWidens at hg
 refine wp_seq ?_
 refine region_seq ?_
 refine sA (.bool false) rfl rfl rfl rfl ?_
 refine stepEnd ?_
 refine thenN ?_
 refine wp_seq ?_
 refine wp_seq ?_
 refine region_seq ?_
 refine sX (ex_call rfl) (by exact hg) hw rfl rfl hs fun t7 h wh hw hs hg => ?_
 refine sP rfl (by exact hg) rfl rfl fun t8 hg => ?_
 refine stepEnd ?_
 refine thenN ?_
 refine codeCond hg rfl (fun hb hg1 => ?_) (fun hb hg1 => ?_)
 ·clear hg; subst hb; have hg := hg1; clear hg1
  refine wp_seq ?_
  refine region_seq ?_
  refine sA (.bool false) rfl rfl rfl rfl ?_
  refine stepEnd ?_
  refine thenN ?_
  refine wp_ret ?_
  refine thenR ?_
  exact post_ret (res_tmp Tryz.results5 rfl rfl) (.inl ⟨_, rfl, hs, by rw [hw]; exact hg⟩)
 ·clear hg; subst hb; have hg := hg1; clear hg1
  refine wp_skip ?_
  refine thenN ?_
  refine wp_seq ?_
  refine wp_seq ?_
  refine region_seq ?_
  refine sM v0 rfl rfl rfl rfl ?_
  refine sP (ex_blt rfl) (by exact hg) rfl rfl fun t10 hg => ?_
  refine sP rfl (by exact hg) rfl rfl fun t11 hg => ?_
  refine sM t11 rfl rfl rfl rfl ?_
  obtain ⟨k, hk, hg⟩ := join_elim hg
  refine list_join 3 (fun K_k hK_k => ?_)
  have hj_k : ∀ (x15 : Value) (h_1 : Heap) (w' : World), w'.heap = h_1 → SameW w w' → k x15 h_1 → ∀ f, K_k (mk 56 (ovr [(15, x15), (0, v0), (12, t11)] f)) w' := by
   intro x15 h_1 wj hw hs hg f
   rw [hk] at hg
   refine hK_k _ _ ?_
   refine sP rfl (by exact hg) rfl rfl fun t16 hg => ?_
   refine stepEnd ?_
   refine thenN ?_
   refine codeCond hg rfl (fun hb hg1 => ?_) (fun hb hg1 => ?_)
   ·clear hg; subst hb; have hg := hg1; clear hg1
    refine wp_seq ?_
    refine region_seq ?_
    refine sA (.bool true) rfl rfl rfl rfl ?_
    refine stepEnd ?_
    refine thenN ?_
    refine wp_ret ?_
    refine thenR ?_
    exact post_ret (res_tmp Tryz.results5 rfl rfl) (.inl ⟨_, rfl, hs, by rw [hw]; exact hg⟩)
   ·clear hg; subst hb; have hg := hg1; clear hg1
    refine wp_skip ?_
    refine thenN ?_
    refine wp_seq ?_
    refine region_seq ?_
    refine sX (ex_call rfl) (by exact hg) hw rfl rfl hs fun t17 h_2 wh_2 hw hs hg => ?_
    refine sX rfl (by exact hg) hw rfl rfl hs fun t3 h_3 wh_3 hw hs hg => ?_
    refine sU rfl (by exact hg) hw rfl rfl hs fun _ h_4 wh_4 hw hs hg => ?_
    refine stepEnd ?_
    refine thenN ?_
    refine wp_seq ?_
    refine region_seq ?_
    refine sA (.int .i64 0) rfl rfl rfl rfl ?_
    refine stepEnd ?_
    refine thenN ?_
    refine wp_seq ?_
    refine wp_seq ?_
    refine region_seq ?_
    refine sA (.int .i64 0) rfl rfl rfl rfl ?_
    refine stepEnd ?_
    refine thenN ?_
    refine wp_block ?_
    obtain ⟨I, m0, hI0, hround⟩ := hg
    refine wp_loop_m (fun m a w' => ∃ (x4 : Value) (x5 : Value) (f : Nat → Value), a = mk 56 (ovr [(4, x4), (5, x5), (0, v0), (3, t3)] f) ∧ SameW w w' ∧ I m x4 x5 w'.heap) m0 ⟨(.int .i64 0), (.int .i64 0), _, mk_ovr ⟨rfl, rfl, rfl, rfl, trivial⟩, hs, by rw [hw]; exact hI0⟩ ?_
    rintro m _ wl ⟨x4, x5, f, rfl, hs, hI⟩
    obtain ⟨h_5, hw⟩ : ∃ h', wl.heap = h' := ⟨_, rfl⟩
    rw [hw] at hI
    have hg := hround m _ _ _ hI
    clear hround hI hI0
    refine wp_seq ?_
    refine wp_seq ?_
    refine region_seq ?_
    refine sM x5 rfl rfl rfl rfl ?_
    refine sM v0 rfl rfl rfl rfl ?_
    refine sP (ex_blt rfl) (by exact hg) rfl rfl fun t20 hg => ?_
    refine sP rfl (by exact hg) rfl rfl fun t21 hg => ?_
    refine stepEnd ?_
    refine thenN ?_
    refine codeCond hg rfl (fun hb hg1 => ?_) (fun hb hg1 => ?_)
    ·clear hg; subst hb; have hg := hg1; clear hg1
     refine wp_skip ?_
     refine thenN ?_
     refine wp_seq ?_
     refine wp_block ?_
     refine wp_seq ?_
     obtain ⟨A, hA0, hg_0, hg_1, hg_2, hg_3, hg_4, hg_5, hg_6, hg_7, hg_8, hg_9, hgE⟩ := hg
     refine region_com (A := A) 10 (by kernel_rfl) (by kernel_rfl) (by kernel_rfl) (by rw [hw]; exact hA0) (fun i o hi hin m g w2 hag hA hS hn hd => ?_) (fun m g w2 hall hag hA hS => ?_)
     ·obtain rfl | rfl | rfl | rfl | rfl | rfl | rfl | rfl | rfl | rfl : i = 0 ∨ i = 1 ∨ i = 2 ∨ i = 3 ∨ i = 4 ∨ i = 5 ∨ i = 6 ∨ i = 7 ∨ i = 8 ∨ i = 9 := by omega
      ·obtain rfl := Option.some.inj hi
       have hag2 : agree [(3, t3)] g := ⟨((hag.keep (by kernel_rfl)).trans rfl), trivial⟩
       rw [mk_ovr1 hag2]
       exact comQ rfl rfl (by exact hg_0 m w2.heap hA hn) rfl rfl hS (fun v hk => hk)
      ·obtain rfl := Option.some.inj hi
       have hag2 : agree [(3, t3)] g := ⟨((hag.keep (by kernel_rfl)).trans rfl), trivial⟩
       rw [mk_ovr1 hag2]
       exact comQ rfl rfl (by exact hg_1 m w2.heap hA hn) rfl rfl hS (fun v hk => hk)
      ·obtain rfl := Option.some.inj hi
       have hag2 : agree [(0, v0)] g := ⟨((hag.keep (by kernel_rfl)).trans rfl), trivial⟩
       rw [mk_ovr1 hag2]
       exact comM rfl (by first | exact .inl rfl | exact .inr rfl) rfl rfl rfl hS (by exact hg_2 m w2.heap hA hn)
      ·obtain rfl := Option.some.inj hi
       have hag2 : agree [(5, x5)] g := ⟨((hag.keep (by kernel_rfl)).trans rfl), trivial⟩
       rw [mk_ovr1 hag2]
       exact comM rfl (by first | exact .inl rfl | exact .inr rfl) rfl rfl rfl hS (by exact hg_3 m w2.heap hA hn)
      ·obtain rfl := Option.some.inj hi
       obtain ⟨t26, hj_2⟩ := Option.isSome_iff_exists.1 (hd 2 (by decide))
       obtain ⟨t27, hj_3⟩ := Option.isSome_iff_exists.1 (hd 3 (by decide))
       have hag2 : agree [(26, t26), (27, t27)] g := ⟨(hag.done 2 _ 26 t26 rfl rfl hj_2), (hag.done 3 _ 27 t27 rfl rfl hj_3), trivial⟩
       rw [mk_ovr1 hag2]
       exact comP rfl rfl (by exact hg_4 m w2.heap t26 t27 hA hn hj_2 hj_3) rfl rfl hS (fun v hk => hk)
      ·obtain rfl := Option.some.inj hi
       obtain ⟨t28, hj_4⟩ := Option.isSome_iff_exists.1 (hd 4 (by decide))
       have hag2 : agree [(28, t28)] g := ⟨(hag.done 4 _ 28 t28 rfl rfl hj_4), trivial⟩
       rw [mk_ovr1 hag2]
       exact comQ rfl rfl (by exact hg_5 m w2.heap t28 hA hn hj_4) rfl rfl hS (fun v hk => hk)
      ·obtain rfl := Option.some.inj hi
       obtain ⟨t29, hj_5⟩ := Option.isSome_iff_exists.1 (hd 5 (by decide))
       have hag2 : agree [(29, t29)] g := ⟨(hag.done 5 _ 29 t29 rfl rfl hj_5), trivial⟩
       rw [mk_ovr1 hag2]
       exact comX rfl (ex_call rfl) (by exact hg_6 m w2.heap t29 hA hn hj_5) rfl rfl hS (fun v h' hk => hk)
      ·obtain rfl := Option.some.inj hi
       obtain ⟨t25, hj_1⟩ := Option.isSome_iff_exists.1 (hd 1 (by decide))
       obtain ⟨t30, hj_6⟩ := Option.isSome_iff_exists.1 (hd 6 (by decide))
       have hag2 : agree [(25, t25), (30, t30)] g := ⟨(hag.done 1 _ 25 t25 rfl rfl hj_1), (hag.done 6 _ 30 t30 rfl rfl hj_6), trivial⟩
       rw [mk_ovr1 hag2]
       exact comX rfl (ex_call rfl) (by exact hg_7 m w2.heap t25 t30 hA hn hj_1 hj_6) rfl rfl hS (fun v h' hk => hk)
      ·obtain rfl := Option.some.inj hi
       obtain ⟨t24, hj_0⟩ := Option.isSome_iff_exists.1 (hd 0 (by decide))
       obtain ⟨t31, hj_7⟩ := Option.isSome_iff_exists.1 (hd 7 (by decide))
       have hag2 : agree [(24, t24), (31, t31)] g := ⟨(hag.done 0 _ 24 t24 rfl rfl hj_0), (hag.done 7 _ 31 t31 rfl rfl hj_7), trivial⟩
       rw [mk_ovr1 hag2]
       exact comX rfl (ex_call rfl) (by exact hg_8 m w2.heap t24 t31 hA hn hj_0 hj_7) rfl rfl hS (fun v h' hk => hk)
      ·obtain rfl := Option.some.inj hi
       exact comX rfl rfl (by exact hg_9 m w2.heap hA hn) rfl rfl hS (fun v h' hk => hk)
     obtain ⟨x, hx⟩ : ∃ x : Nat → Value, ∀ j, j < 10 → m j = some (x j) := vals_all hall
     have hg := hgE m w2.heap x hA hx
     have hag2 : agree [(32, x 8), (6, x 9), (0, v0), (3, t3), (4, x4), (5, x5)] g := ⟨(hag.done 8 _ 32 _ rfl rfl (hx 8 (by decide))), (hag.done 9 _ 6 _ rfl rfl (hx 9 (by decide))), ((hag.keep (by kernel_rfl)).trans rfl), ((hag.keep (by kernel_rfl)).trans rfl), ((hag.keep (by kernel_rfl)).trans rfl), ((hag.keep (by kernel_rfl)).trans rfl), trivial⟩
     rw [mk_ovr1 hag2]
     clear hgE hg_0 hg_1 hg_2 hg_3 hg_4 hg_5 hg_6 hg_7 hg_8 hg_9 hA0 hall hA
     obtain ⟨h_26, hw2⟩ : ∃ h', w2.heap = h' := ⟨_, rfl⟩
     rw [hw2] at hg
     have hw := hw2
     have hs := hs.trans hS
     clear hw2 hS
     refine sU rfl (by exact hg) hw rfl rfl hs fun _ h_27 wh_27 hw hs hg => ?_
     refine stepEnd ?_
     refine thenN ?_
     refine wp_seq_k (fun K_k_1 hK_k_1 => ?_)
     obtain ⟨k_1, hk_1, hg⟩ := join_elim hg
     have hj_k_1 : ∀ (x4_1 : Value) (h_28 : Heap) (w' : World), w'.heap = h_28 → SameW w w' → k_1 x4_1 h_28 → ∀ f, K_k_1 (mk 56 (ovr [(4, x4_1), (0, v0), (3, t3), (5, x5), (6, (x 9))] f)) w' := by
      intro x4_1 h_28 wj hw hs hg f
      rw [hk_1] at hg
      refine hK_k_1 _ _ ?_
      refine wp_seq ?_
      refine wp_seq ?_
      obtain ⟨D, hD, hg⟩ := hg
      refine region_mixo (D := D) [(true, 0), (true, 1), (false, 2), (true, 3), (true, 4), (true, 5), (true, 6), (true, 7), (true, 8), (true, 10), (false, 9)] [(true, _), (true, _), (false, _), (true, _), (true, _), (true, _), (true, _), (true, _), (true, _), (true, _), (false, _)] rfl rfl (by kernel_rfl) (by kernel_rfl) (by repeat (first | exact panicOk_base | apply panicOk_then | apply panicOk_blk)) (by rw [hw]; exact hD) (fun wm hs1 hw1 => ?_)
      have hw := hw1.trans hw
      have hs := hs.trans hs1
      clear hs1 hw1
      refine mixQ rfl (by exact hg) (wanted_none rfl) rfl (fun t39 hg => ?_)
      refine mixQ rfl (by exact hg) (wanted_none rfl) rfl (fun t40 hg => ?_)
      refine mixX (ex_call rfl) (by exact hg) hw (wanted_none rfl) rfl (fun t41 h_29 wh_29 hw hs1 hg => ?_)
      have hs := hs.trans hs1
      refine mixP rfl (by exact hg) (wanted_none rfl) rfl (fun t42 hg => ?_)
      refine mixM (v := t42) (by first | exact .inl rfl | exact .inr rfl) (wanted_none rfl) rfl rfl ?_
      obtain ⟨k_2, hk_2, hg⟩ := join_elim hg
      refine mix_join 6 (fun K_k_2 hK_k_2 => ?_)
      have hj_k_2 : ∀ (x48 x49 : Value) (h_30 : Heap) (w' : World), w'.heap = h_30 → SameW w w' → k_2 x48 x49 h_30 → ∀ f, K_k_2 (mk 56 (ovr [(48, x48), (49, x49), (0, v0), (3, t3), (4, x4_1), (5, x5), (6, (x 9)), (43, t42)] f)) w' := by
       intro x48 x49 h_30 wj hw hs hg f
       rw [hk_2] at hg
       refine hK_k_2 _ _ ?_
       refine mixEnd ?_
       obtain ⟨k_3, hk_3, hg⟩ := join_elim hg
       refine list_join 2 (fun K_k_3 hK_k_3 => ?_)
       have hj_k_3 : ∀ (x51 : Value) (h_31 : Heap) (w' : World), w'.heap = h_31 → SameW w w' → k_3 x51 h_31 → ∀ f, K_k_3 (mk 56 (ovr [(51, x51), (0, v0), (3, t3), (4, x4_1), (5, x5), (6, (x 9)), (43, t42)] f)) w' := by
        intro x51 h_31 wj hw hs hg f
        rw [hk_3] at hg
        refine hK_k_3 _ _ ?_
        refine sP rfl (by exact hg) rfl rfl fun t52 hg => ?_
        refine stepEnd ?_
        refine thenN ?_
        refine codeCond hg rfl (fun hb hg1 => ?_) (fun hb hg1 => ?_)
        ·clear hg; subst hb; have hg := hg1; clear hg1
         refine wp_seq ?_
         refine region_seq ?_
         refine sA (.bool false) rfl rfl rfl rfl ?_
         refine stepEnd ?_
         refine thenN ?_
         refine wp_ret ?_
         refine thenR ?_
         refine blkR ?_
         refine thenR ?_
         refine thenR ?_
         refine blkR ?_
         refine thenR ?_
         exact post_ret (res_tmp Tryz.results5 rfl rfl) (.inl ⟨_, rfl, hs, by rw [hw]; exact hg⟩)
        ·clear hg; subst hb; have hg := hg1; clear hg1
         refine wp_skip ?_
         refine thenN ?_
         refine region_seq ?_
         refine sQ rfl (by exact hg) hw rfl rfl fun t53 hg => ?_
         refine sU rfl (by exact hg) hw rfl rfl hs fun _ h_32 wh_32 hw hs hg => ?_
         refine stepEnd ?_
         refine blkN ?_
         refine thenN ?_
         refine region_seq ?_
         refine sM x5 rfl rfl rfl rfl ?_
         refine sP rfl (by exact hg) rfl rfl fun t23 hg => ?_
         refine sA t23 rfl rfl rfl rfl ?_
         refine stepEnd ?_
         obtain ⟨m', hlt, hI⟩ := hg
         exact thenN ⟨m', hlt, x4_1, t23, _, mk_ovr ⟨rfl, rfl, rfl, rfl, trivial⟩, hs, by rw [hw]; exact hI⟩
       clear hk_3 hK_k_3
       refine cond_split hg (fun hb hg1 => ?_) (fun hb hg1 => ?_)
       ·clear hg; subst hb; have hg := hg1; clear hg1
        refine stepSkip (wanted_noF rfl rfl rfl rfl) rfl ?_
        refine stepSkip (wanted_noF rfl rfl rfl rfl) rfl ?_
        refine stepEnd ?_
        refine thenN ?_
        exact at_ovr (hj_k_3 undef h_30 _ hw hs hg) ⟨rfl, rfl, rfl, rfl, rfl, rfl, rfl, trivial⟩
       ·clear hg; subst hb; have hg := hg1; clear hg1
        refine stepX (ex_call rfl) (by exact hg) hw (wanted_yes rfl rfl rfl rfl) rfl (fun t50 h_33 wh_33 hw hs1 hg => ?_)
        have hs := hs.trans hs1
        refine stepP rfl (by exact hg) (wanted_yes rfl rfl rfl rfl) rfl (fun t51 hg => ?_)
        refine stepEnd ?_
        refine thenN ?_
        exact at_ovr (hj_k_3 t51 h_33 _ hw hs hg) ⟨rfl, rfl, rfl, rfl, rfl, rfl, rfl, trivial⟩
      clear hk_2 hK_k_2
      refine cond_split hg (fun hb hg1 => ?_) (fun hb hg1 => ?_)
      ·clear hg; subst hb; have hg := hg1; clear hg1
       refine mixSkipR (wanted_noF rfl rfl rfl rfl) rfl ?_
       refine mixSkipR (wanted_noF rfl rfl rfl rfl) rfl ?_
       refine mixSkipR (wanted_noF rfl rfl rfl rfl) rfl ?_
       refine mixSkipR (wanted_noF rfl rfl rfl rfl) rfl ?_
       refine mixSkipR (wanted_noF rfl rfl rfl rfl) rfl ?_
       refine mixSkipX (wanted_noF rfl rfl rfl rfl) rfl ?_
       refine mixEnd ?_
       exact at_ovr (hj_k_2 undef undef h_29 _ hw hs hg) ⟨rfl, rfl, rfl, rfl, rfl, rfl, rfl, rfl, trivial⟩
      ·clear hg; subst hb; have hg := hg1; clear hg1
       refine mixM (v := v0) (by first | exact .inl rfl | exact .inr rfl) (wanted_yes rfl rfl rfl rfl) rfl rfl ?_
       refine mixM (v := x5) (by first | exact .inl rfl | exact .inr rfl) (wanted_yes rfl rfl rfl rfl) rfl rfl ?_
       refine mixP rfl (by exact hg) (wanted_yes rfl rfl rfl rfl) rfl (fun t46 hg => ?_)
       refine mixQ rfl (by exact hg) (wanted_yes rfl rfl rfl rfl) rfl (fun t47 hg => ?_)
       refine mixQ rfl (by exact hg) (wanted_yes rfl rfl rfl rfl) rfl (fun t49 hg => ?_)
       refine mixX (ex_call rfl) (by exact hg) hw (wanted_yes rfl rfl rfl rfl) rfl (fun t48 h_34 wh_34 hw hs1 hg => ?_)
       have hs := hs.trans hs1
       refine mixEnd ?_
       exact at_ovr (hj_k_2 t48 t49 h_34 _ hw hs hg) ⟨rfl, rfl, rfl, rfl, rfl, rfl, rfl, rfl, trivial⟩
     clear hk_1 hK_k_1
     refine wp_seq ?_
     refine region_seq ?_
     refine sQ rfl (by exact hg) hw rfl rfl fun t33 hg => ?_
     refine sQ rfl (by exact hg) hw rfl rfl fun t34 hg => ?_
     refine sX (ex_call rfl) (by exact hg) hw rfl rfl hs fun t35 h_35 wh_35 hw hs hg => ?_
     refine sP rfl (by exact hg) rfl rfl fun t36 hg => ?_
     refine stepEnd ?_
     refine thenN ?_
     refine codeCond hg rfl (fun hb hg1 => ?_) (fun hb hg1 => ?_)
     ·clear hg; subst hb; have hg := hg1; clear hg1
      refine region_seq ?_
      refine sM x4 rfl rfl rfl rfl ?_
      refine sP rfl (by exact hg) rfl rfl fun t38 hg => ?_
      refine sA t38 rfl rfl rfl rfl ?_
      refine stepEnd ?_
      refine thenN ?_
      exact at_ovr (hj_k_1 t38 h_35 _ hw hs hg) ⟨rfl, rfl, rfl, rfl, rfl, trivial⟩
     ·clear hg; subst hb; have hg := hg1; clear hg1
      refine wp_skip ?_
      refine thenN ?_
      exact at_ovr (hj_k_1 x4 h_35 _ hw hs hg) ⟨rfl, rfl, rfl, rfl, rfl, trivial⟩
    ·clear hg; subst hb; have hg := hg1; clear hg1
     refine wp_exit ?_
     refine thenE ?_
     refine thenE ?_
     refine blkE ?_
     refine thenN ?_
     refine wp_seq ?_
     refine region_seq ?_
     refine sM x4 rfl rfl rfl rfl ?_
     refine sP rfl (by exact hg) rfl rfl fun t55 hg => ?_
     refine sA t55 rfl rfl rfl rfl ?_
     refine stepEnd ?_
     refine thenN ?_
     refine wp_ret ?_
     exact post_ret (res_tmp Tryz.results5 rfl rfl) (.inl ⟨_, rfl, hs, by rw [hw]; exact hg⟩)
  clear hk hK_k
  refine cond_split hg (fun hb hg1 => ?_) (fun hb hg1 => ?_)
  ·clear hg; subst hb; have hg := hg1; clear hg1
   refine stepSkip (wanted_noF rfl rfl rfl rfl) rfl ?_
   refine stepSkip (wanted_noF rfl rfl rfl rfl) rfl ?_
   refine stepSkip (wanted_noF rfl rfl rfl rfl) rfl ?_
   refine stepEnd ?_
   refine thenN ?_
   exact at_ovr (hj_k undef h _ hw hs hg) ⟨rfl, rfl, rfl, trivial⟩
  ·clear hg; subst hb; have hg := hg1; clear hg1
   refine stepM (v := v0) (by first | exact .inl rfl | exact .inr rfl) (wanted_yes rfl rfl rfl rfl) rfl rfl ?_
   refine stepX (ex_call rfl) (by exact hg) hw (wanted_yes rfl rfl rfl rfl) rfl (fun t14 h_36 wh_36 hw hs1 hg => ?_)
   have hs := hs.trans hs1
   refine stepP rfl (by exact hg) (wanted_yes rfl rfl rfl rfl) rfl (fun t15 hg => ?_)
   refine stepEnd ?_
   refine thenN ?_
   exact at_ovr (hj_k t15 h_36 _ hw hs hg) ⟨rfl, rfl, rfl, trivial⟩

set_option maxRecDepth 20000 in
set_option maxHeartbeats 4000000 in
theorem w_augurlaw19_DigestWidens {F : Vw} {h : Heap} {M : List HP} {a0 : List T_augurlaw19_Raw} {v : Value} {R : Bool → Prop} (s : Sf F h (M)) (r : RL e_augurlaw19_Raw F v a0) (hp : p_augurlaw19_DigestWidens a0 R) :
  HC Tryz.prog 5 #[v] h fun u h' => ∃ (F' : Vw) (r_0 : Bool), Le F F' ∧ Sf F' h' (M) ∧ (.bool r_0) = u ∧ R r_0 := by
 refine sh_augurlaw19_DigestWidens ?_
 unfold g_augurlaw19_DigestWidens
 unfold p_augurlaw19_DigestWidens at hp
 have e0 := Le.refl F
 refine oCall_func (HC.mono (w_augurlaw19_known  s  hp) ?_)
 rintro u h_1 ⟨F_1, r_1, g, s, rfl, hp⟩
 replace r := r.le g
 replace e0 := Le.trans e0 g
 refine oUn_not.2 ?_
 by_cases hc : (!r_1) = true
 ·refine (cond_tt hc).2 ?_
  replace hp := (Pl.ite_pos hc).1 hp
  exact ⟨F_1, false, e0, s, rfl, hp⟩
 ·refine (cond_ff hc).2 ?_
  replace hp := (Pl.ite_neg hc).1 hp
  refine (oLen_sl r.1).2 ?_
  refine oBin_gtr.2 ?_
  obtain ⟨kp, hk_1, hp⟩ := Pl.join_elim hp
  have ej := Le.refl F_1
  refine Sh.join_intro fun k hk => ?_
  have hK : ∀ (F_2 : Vw) (h_2 : Heap) (x : Bool) (w : Value), (∀ K : Value → Prop, K (.bool x) → oPick Tryz.prog (.bool (decide (40 < (List.length a0 : Int)))) (.bool true) w K) → Le F_1 F_2 → Sf F_2 h_2 (M) → kp x → k w h_2 := by
   intro F_2 h_2 x w hw g_1 s  hp
   rw [hk]
   rw [hk_1] at hp
   refine hw _ ?_
   replace r := r.le g_1
   replace e0 := Le.trans e0 g_1
   replace ej := Le.trans ej g_1
   by_cases hc_1 : x = true
   ·refine (cond_tt hc_1).2 ?_
    replace hp := (Pl.ite_pos hc_1).1 hp
    exact ⟨F_2, true, e0, s, rfl, hp⟩
   ·refine (cond_ff hc_1).2 ?_
    replace hp := (Pl.ite_neg hc_1).1 hp
    refine oCall_func (HC.mono (w_digest_Bottom  s  hp) ?_)
    rintro u_1 h_3 ⟨F_3, r_2, v_1, v_2, g_2, s, rfl, r_3, r_4, hp⟩
    replace r := r.le g_2
    replace e0 := Le.trans e0 g_2
    replace ej := Le.trans ej g_2
    refine tAl s (vs := [(.slice none 0 0), (.bool false), (.bool false), (.int .i64 0), (.int .i64 0), (.slice none 0 0)]) (by rfl) fun p h_4 s => ?_
    refine tSt (cs := [(.slice none 0 0), (.bool false), (.bool false), (.int .i64 0), (.int .i64 0), (.slice none 0 0)]) (vs := [v_1, (.bool r_2.Ends), (.bool r_2.Ret.Some), (.int .i64 r_2.Ret.Lo), (.int .i64 r_2.Ret.Hi), v_2]) (cs' := [v_1, (.bool r_2.Ends), (.bool r_2.Ret.Some), (.int .i64 r_2.Ret.Lo), (.int .i64 r_2.Ret.Hi), v_2]) (j := 0) 0 rfl s (Cx.new_at p) (padd_zero _).symm (by rfl) rfl (Nat.le_of_ble_eq_true rfl) (ones_cons r_3.1.one (ones_cons rfl (ones_cons rfl (ones_cons rfl (ones_cons rfl (ones_cons r_4.1.one ones_nil)))))) rfl fun h_5 s => ?_
    obtain ⟨I, m0, hI, hI_1⟩ := hp
    refine ⟨fun m w_1 w_2 h_8 => ∃ (F_6 : Vw) (x_6 : Int) (x_7 : Int) (x_8 : T_api_Summary) (v_5 : Value) (v_6 : Value), Le F_3 F_6 ∧ Sf F_6 h_8 (Ce (Cx.new p) [v_5, (.bool x_8.Ends), (.bool x_8.Ret.Some), (.int .i64 x_8.Ret.Lo), (.int .i64 x_8.Ret.Hi), v_6] :: M) ∧ (.int .i64 x_6) = w_1 ∧ (.int .i64 x_7) = w_2 ∧ RL e_api_Alarm F_6 v_5 x_8.Alarms ∧ RL e_api_Named F_6 v_6 x_8.Mod ∧ I m x_6 x_7 x_8, m0, ⟨F_3, 0, 0, r_2, v_1, v_2, Le.refl _, s, rfl, rfl, r_3, r_4, hI⟩, ?_⟩
    clear hI
    rintro m w_1 w_2 h_8 ⟨F_6, x_6, x_7, x_8, v_5, v_6, g_3, s, rfl, rfl, r_7, r_8, hi⟩
    have hp := hI_1 m x_6 x_7 x_8 hi
    replace r := r.le g_3
    replace e0 := Le.trans e0 g_3
    replace ej := Le.trans ej g_3
    have eL := g_3
    refine (oLen_sl r.1).2 ?_
    refine oBin_lss.2 ?_
    by_cases hc_2 : x_7 < (List.length a0 : Int)
    ·refine (cond_pos hc_2).2 ?_
     replace hp := (Pl.ite_pos hc_2).1 hp
     obtain ⟨hz, a, hi_1, hp⟩ := hp
     obtain ⟨q, c, hc_3, rv, hx_1⟩ := tPlE 5 rfl r hz hi_1
     obtain ⟨v_7, v_8, rfl, r_9, r_10⟩ := hc_3
     obtain ⟨R_1, R_2, R_3, hc_4, hc_5, hc_6, hp⟩ := hp
     have hmono : MonoF [(0, fun _ v9 => (.agg #[v_5, (.bool x_8.Ends), (.bool x_8.Ret.Some), (.int .i64 x_8.Ret.Lo), (.int .i64 x_8.Ret.Hi), v_6]) = v9), (1, fun _ v9 => (.agg #[v_5, (.bool x_8.Ends), (.bool x_8.Ret.Some), (.int .i64 x_8.Ret.Lo), (.int .i64 x_8.Ret.Hi), v_6]) = v9), (2, fun _ v9 => v = v9), (3, fun _ v9 => (.int .i64 x_7) = v9), (4, fun _ v9 => (.pointer (some q)) = v9), (5, fun _ v9 => (.agg #[v_7, (.bool a.Ends), (.int .i64 a.Lo), (.int .i64 a.Hi), v_8]) = v9), (6, fun F9 v9 => ∃ (r_11 : T_api_Summary) (v_9 : Value) (v_10 : Value), (.agg #[v_9, (.bool r_11.Ends), (.bool r_11.Ret.Some), (.int .i64 r_11.Ret.Lo), (.int .i64 r_11.Ret.Hi), v_10]) = v9 ∧ RL e_api_Alarm F9 v_9 r_11.Alarms ∧ RL e_api_Named F9 v_10 r_11.Mod ∧ R_1 r_11), (7, fun F9 v9 => ∃ (r_14 : T_api_Summary) (v_11 : Value) (v_12 : Value), (.agg #[v_11, (.bool r_14.Ends), (.bool r_14.Ret.Some), (.int .i64 r_14.Ret.Lo), (.int .i64 r_14.Ret.Hi), v_12]) = v9 ∧ RL e_api_Alarm F9 v_11 r_14.Alarms ∧ RL e_api_Named F9 v_12 r_14.Mod ∧ R_2 r_14), (8, fun F9 v9 => ∃ (r_17 : T_api_Summary) (v_13 : Value) (v_14 : Value), (.agg #[v_13, (.bool r_17.Ends), (.bool r_17.Ret.Some), (.int .i64 r_17.Ret.Lo), (.int .i64 r_17.Ret.Hi), v_14]) = v9 ∧ RL e_api_Alarm F9 v_13 r_17.Alarms ∧ RL e_api_Named F9 v_14 r_17.Mod ∧ R_3 r_17)] := by
      intro p hp9 F8 G8 v g8 h8
      simp only [List.mem_cons, List.not_mem_nil, or_false] at hp9
      rcases hp9 with rfl | rfl | rfl | rfl | rfl | rfl | rfl | rfl | rfl
      ·exact h8
      ·exact h8
      ·exact h8
      ·exact h8
      ·exact h8
      ·exact h8
      ·obtain ⟨r_11, v_9, v_10, h9, r_12, r_13, h10⟩ := h8
       exact ⟨r_11, v_9, v_10, h9, RL.le r_12 g8, RL.le r_13 g8, h10⟩
      ·obtain ⟨r_14, v_11, v_12, h9, r_15, r_16, h10⟩ := h8
       exact ⟨r_14, v_11, v_12, h9, RL.le r_15 g8, RL.le r_16 g8, h10⟩
      ·obtain ⟨r_17, v_13, v_14, h9, r_18, r_19, h10⟩ := h8
       exact ⟨r_17, v_13, v_14, h9, RL.le r_18 g8, RL.le r_19 g8, h10⟩
     refine ⟨comA F_6 [(0, fun _ v9 => (.agg #[v_5, (.bool x_8.Ends), (.bool x_8.Ret.Some), (.int .i64 x_8.Ret.Lo), (.int .i64 x_8.Ret.Hi), v_6]) = v9), (1, fun _ v9 => (.agg #[v_5, (.bool x_8.Ends), (.bool x_8.Ret.Some), (.int .i64 x_8.Ret.Lo), (.int .i64 x_8.Ret.Hi), v_6]) = v9), (2, fun _ v9 => v = v9), (3, fun _ v9 => (.int .i64 x_7) = v9), (4, fun _ v9 => (.pointer (some q)) = v9), (5, fun _ v9 => (.agg #[v_7, (.bool a.Ends), (.int .i64 a.Lo), (.int .i64 a.Hi), v_8]) = v9), (6, fun F9 v9 => ∃ (r_11 : T_api_Summary) (v_9 : Value) (v_10 : Value), (.agg #[v_9, (.bool r_11.Ends), (.bool r_11.Ret.Some), (.int .i64 r_11.Ret.Lo), (.int .i64 r_11.Ret.Hi), v_10]) = v9 ∧ RL e_api_Alarm F9 v_9 r_11.Alarms ∧ RL e_api_Named F9 v_10 r_11.Mod ∧ R_1 r_11), (7, fun F9 v9 => ∃ (r_14 : T_api_Summary) (v_11 : Value) (v_12 : Value), (.agg #[v_11, (.bool r_14.Ends), (.bool r_14.Ret.Some), (.int .i64 r_14.Ret.Lo), (.int .i64 r_14.Ret.Hi), v_12]) = v9 ∧ RL e_api_Alarm F9 v_11 r_14.Alarms ∧ RL e_api_Named F9 v_12 r_14.Mod ∧ R_2 r_14), (8, fun F9 v9 => ∃ (r_17 : T_api_Summary) (v_13 : Value) (v_14 : Value), (.agg #[v_13, (.bool r_17.Ends), (.bool r_17.Ret.Some), (.int .i64 r_17.Ret.Lo), (.int .i64 r_17.Ret.Hi), v_14]) = v9 ∧ RL e_api_Alarm F9 v_13 r_17.Alarms ∧ RL e_api_Named F9 v_14 r_17.Mod ∧ R_3 r_17)] [(9, AlP [(.slice none 0 0), (.bool false), (.bool false), (.int .i64 0), (.int .i64 0), (.slice none 0 0)])] (Ce (Cx.new p) [v_5, (.bool x_8.Ends), (.bool x_8.Ret.Some), (.int .i64 x_8.Ret.Lo), (.int .i64 x_8.Ret.Hi), v_6] :: M), comA.init s, ?_, ?_, ?_, ?_, ?_, ?_, ?_, ?_, ?_, ?_, ?_⟩
     ·intro m_1 h_9 hA hn
      have hF := hA
      obtain ⟨F_8, g_4, hf, s9⟩ := hF
      have s : Sf F_8 h_9 (Ce (Cx.new p) [v_5, (.bool x_8.Ends), (.bool x_8.Ret.Some), (.int .i64 x_8.Ret.Lo), (.int .i64 x_8.Ret.Hi), v_6] :: M) := s9.tailOf
      replace r := r.le g_4
      replace rv := rv.le g_4
      replace r_9 := r_9.le g_4
      replace r_10 := r_10.le g_4
      replace r_7 := r_7.le g_4
      replace r_8 := r_8.le g_4
      refine tLdA (a := p) (cs := [v_5, (.bool x_8.Ends), (.bool x_8.Ret.Some), (.int .i64 x_8.Ret.Lo), (.int .i64 x_8.Ret.Hi), v_6]) (ds := [v_5, (.bool x_8.Ends), (.bool x_8.Ret.Some), (.int .i64 x_8.Ret.Lo), (.int .i64 x_8.Ret.Hi), v_6]) (j := 0) (padd_zero _).symm (Sf.ceE (Cx.new_at p) 0 rfl s) (Nat.le_of_ble_eq_true rfl) rfl ?_
      exact comA.op (T := fun K => K (.agg #[v_5, (.bool x_8.Ends), (.bool x_8.Ret.Some), (.int .i64 x_8.Ret.Lo), (.int .i64 x_8.Ret.Hi), v_6]) h_9) hA hmono (by decide) (fun hk hT => hk _ _ hT) (fun F7 M7 g7 hf7 s7 => ⟨F7, Le.refl F7, s7, fun p hp9 hi9 => by simp only [List.mem_cons, List.not_mem_nil, or_false] at hp9; rcases hp9 with rfl | rfl | rfl | rfl | rfl | rfl | rfl | rfl | rfl <;> first | exact rfl | (exact absurd hi9 (Nat.ne_of_beq_eq_false rfl))⟩)
     ·intro m_2 h_10 hA_1 hn_1
      have hF_1 := hA_1
      obtain ⟨F_9, g_5, hf_1, s9⟩ := hF_1
      have s : Sf F_9 h_10 (Ce (Cx.new p) [v_5, (.bool x_8.Ends), (.bool x_8.Ret.Some), (.int .i64 x_8.Ret.Lo), (.int .i64 x_8.Ret.Hi), v_6] :: M) := s9.tailOf
      replace r := r.le g_5
      replace rv := rv.le g_5
      replace r_9 := r_9.le g_5
      replace r_10 := r_10.le g_5
      replace r_7 := r_7.le g_5
      replace r_8 := r_8.le g_5
      refine tLdA (a := p) (cs := [v_5, (.bool x_8.Ends), (.bool x_8.Ret.Some), (.int .i64 x_8.Ret.Lo), (.int .i64 x_8.Ret.Hi), v_6]) (ds := [v_5, (.bool x_8.Ends), (.bool x_8.Ret.Some), (.int .i64 x_8.Ret.Lo), (.int .i64 x_8.Ret.Hi), v_6]) (j := 0) (padd_zero _).symm (Sf.ceE (Cx.new_at p) 0 rfl s) (Nat.le_of_ble_eq_true rfl) rfl ?_
      exact comA.op (T := fun K => K (.agg #[v_5, (.bool x_8.Ends), (.bool x_8.Ret.Some), (.int .i64 x_8.Ret.Lo), (.int .i64 x_8.Ret.Hi), v_6]) h_10) hA_1 hmono (by decide) (fun hk hT => hk _ _ hT) (fun F7 M7 g7 hf7 s7 => ⟨F7, Le.refl F7, s7, fun p hp9 hi9 => by simp only [List.mem_cons, List.not_mem_nil, or_false] at hp9; rcases hp9 with rfl | rfl | rfl | rfl | rfl | rfl | rfl | rfl | rfl <;> first | exact rfl | (exact absurd hi9 (Nat.ne_of_beq_eq_false rfl))⟩)
     ·intro m_3 h_11 hA_2 hn_2
      have hF_2 := hA_2
      obtain ⟨F_10, g_6, hf_2, s9⟩ := hF_2
      have s : Sf F_10 h_11 (Ce (Cx.new p) [v_5, (.bool x_8.Ends), (.bool x_8.Ret.Some), (.int .i64 x_8.Ret.Lo), (.int .i64 x_8.Ret.Hi), v_6] :: M) := s9.tailOf
      replace r := r.le g_6
      replace rv := rv.le g_6
      replace r_9 := r_9.le g_6
      replace r_10 := r_10.le g_6
      replace r_7 := r_7.le g_6
      replace r_8 := r_8.le g_6
      exact comA.op (T := fun K => K v h_11) hA_2 hmono (by decide) (fun hk hT => hk _ _ hT) (fun F7 M7 g7 hf7 s7 => ⟨F7, Le.refl F7, s7, fun p hp9 hi9 => by simp only [List.mem_cons, List.not_mem_nil, or_false] at hp9; rcases hp9 with rfl | rfl | rfl | rfl | rfl | rfl | rfl | rfl | rfl <;> first | exact rfl | (exact absurd hi9 (Nat.ne_of_beq_eq_false rfl))⟩)
     ·intro m_4 h_12 hA_3 hn_3
      have hF_3 := hA_3
      obtain ⟨F_11, g_7, hf_3, s9⟩ := hF_3
      have s : Sf F_11 h_12 (Ce (Cx.new p) [v_5, (.bool x_8.Ends), (.bool x_8.Ret.Some), (.int .i64 x_8.Ret.Lo), (.int .i64 x_8.Ret.Hi), v_6] :: M) := s9.tailOf
      replace r := r.le g_7
      replace rv := rv.le g_7
      replace r_9 := r_9.le g_7
      replace r_10 := r_10.le g_7
      replace r_7 := r_7.le g_7
      replace r_8 := r_8.le g_7
      exact comA.op (T := fun K => K (.int .i64 x_7) h_12) hA_3 hmono (by decide) (fun hk hT => hk _ _ hT) (fun F7 M7 g7 hf7 s7 => ⟨F7, Le.refl F7, s7, fun p hp9 hi9 => by simp only [List.mem_cons, List.not_mem_nil, or_false] at hp9; rcases hp9 with rfl | rfl | rfl | rfl | rfl | rfl | rfl | rfl | rfl <;> first | exact rfl | (exact absurd hi9 (Nat.ne_of_beq_eq_false rfl))⟩)
     ·intro m_5 h_13 w_3 w_4 hA_4 hn_4 hj hj_1
      have hF_4 := hA_4
      obtain ⟨F_12, g_8, hf_4, s9⟩ := hF_4
      obtain rfl := hf_4 ((2, fun _ v9 => v = v9)) (List.mem_of_getElem? (i := 2) rfl) _ hj
      obtain rfl := hf_4 ((3, fun _ v9 => (.int .i64 x_7) = v9)) (List.mem_of_getElem? (i := 3) rfl) _ hj_1
      have s : Sf F_12 h_13 (Ce (Cx.new p) [v_5, (.bool x_8.Ends), (.bool x_8.Ret.Some), (.int .i64 x_8.Ret.Lo), (.int .i64 x_8.Ret.Hi), v_6] :: M) := s9.tailOf
      replace r := r.le g_8
      replace rv := rv.le g_8
      replace r_9 := r_9.le g_8
      replace r_10 := r_10.le g_8
      replace r_7 := r_7.le g_8
      replace r_8 := r_8.le g_8
      refine hx_1 ?_
      exact comA.op (T := fun K => K (.pointer (some q)) h_13) hA_4 hmono (by decide) (fun hk hT => hk _ _ hT) (fun F7 M7 g7 hf7 s7 => ⟨F7, Le.refl F7, s7, fun p hp9 hi9 => by simp only [List.mem_cons, List.not_mem_nil, or_false] at hp9; rcases hp9 with rfl | rfl | rfl | rfl | rfl | rfl | rfl | rfl | rfl <;> first | exact rfl | (exact absurd hi9 (Nat.ne_of_beq_eq_false rfl))⟩)
     ·intro m_6 h_14 w_5 hA_5 hn_5 hj_2
      have hF_5 := hA_5
      obtain ⟨F_13, g_9, hf_5, s9⟩ := hF_5
      obtain rfl := hf_5 ((4, fun _ v9 => (.pointer (some q)) = v9)) (List.mem_of_getElem? (i := 4) rfl) _ hj_2
      have s : Sf F_13 h_14 (Ce (Cx.new p) [v_5, (.bool x_8.Ends), (.bool x_8.Ret.Some), (.int .i64 x_8.Ret.Lo), (.int .i64 x_8.Ret.Hi), v_6] :: M) := s9.tailOf
      replace r := r.le g_9
      replace rv := rv.le g_9
      replace r_9 := r_9.le g_9
      replace r_10 := r_10.le g_9
      replace r_7 := r_7.le g_9
      replace r_8 := r_8.le g_9
      refine tLdA (a := q) (cs := [v_7, (.bool a.Ends), (.int .i64 a.Lo), (.int .i64 a.Hi), v_8]) (ds := [v_7, (.bool a.Ends), (.int .i64 a.Lo), (.int .i64 a.Hi), v_8]) (j := 0) (padd_zero _).symm (Sf.rvE s rv) (Nat.le_of_ble_eq_true rfl) rfl ?_
      exact comA.op (T := fun K => K (.agg #[v_7, (.bool a.Ends), (.int .i64 a.Lo), (.int .i64 a.Hi), v_8]) h_14) hA_5 hmono (by decide) (fun hk hT => hk _ _ hT) (fun F7 M7 g7 hf7 s7 => ⟨F7, Le.refl F7, s7, fun p hp9 hi9 => by simp only [List.mem_cons, List.not_mem_nil, or_false] at hp9; rcases hp9 with rfl | rfl | rfl | rfl | rfl | rfl | rfl | rfl | rfl <;> first | exact rfl | (exact absurd hi9 (Nat.ne_of_beq_eq_false rfl))⟩)
     ·intro m_7 h_15 w_6 hA_6 hn_6 hj_3
      refine comA.op (T := fun K => oCall Tryz.prog (.func (.func 8) #[] #[]) #[w_6] h_15 K) hA_6 hmono (by decide) (fun hk hT => Sx.mono hk hT) (fun F_14 M_7 g_10 hf_6 s => ?_)
      obtain rfl := hf_6 ((5, fun _ v9 => (.agg #[v_7, (.bool a.Ends), (.int .i64 a.Lo), (.int .i64 a.Hi), v_8]) = v9)) (List.mem_of_getElem? (i := 5) rfl) _ hj_3
      have rv := rv.le g_10
      have r_9 := r_9.le g_10
      have r_10 := r_10.le g_10
      have r_7 := r_7.le g_10
      have r_8 := r_8.le g_10
      refine oCall_func (HC.mono (w_augurlaw19_made (a0 := a) s r_9 r_10 hc_4) ?_)
      rintro u9 h9 ⟨F9, r_11, v_9, v_10, g9, s9, hu9, r_12, r_13, hr9⟩
      refine ⟨F9, g9, s9, fun p hp9 hi9 => ?_⟩
      simp only [List.mem_cons, List.not_mem_nil, or_false] at hp9
      rcases hp9 with rfl | rfl | rfl | rfl | rfl | rfl | rfl | rfl | rfl <;> first | exact ⟨r_11, v_9, v_10, hu9, r_12, r_13, hr9⟩ | (exact absurd hi9 (Nat.ne_of_beq_eq_false rfl))
     ·intro m_8 h_16 w_7 w_8 hA_7 hn_7 hj_4 hj_5
      refine comA.op (T := fun K => oCall Tryz.prog (.func (.func 11) #[] #[]) #[w_7, w_8] h_16 K) hA_7 hmono (by decide) (fun hk hT => Sx.mono hk hT) (fun F_15 M_8 g_11 hf_7 s => ?_)
      obtain rfl := hf_7 ((1, fun _ v9 => (.agg #[v_5, (.bool x_8.Ends), (.bool x_8.Ret.Some), (.int .i64 x_8.Ret.Lo), (.int .i64 x_8.Ret.Hi), v_6]) = v9)) (List.mem_of_getElem? (i := 1) rfl) _ hj_4
      obtain ⟨r_11, v_9, v_10, rfl, r_12, r_13, hR_1_⟩ := hf_7 ((6, fun F9 v9 => ∃ (r_11 : T_api_Summary) (v_9 : Value) (v_10 : Value), (.agg #[v_9, (.bool r_11.Ends), (.bool r_11.Ret.Some), (.int .i64 r_11.Ret.Lo), (.int .i64 r_11.Ret.Hi), v_10]) = v9 ∧ RL e_api_Alarm F9 v_9 r_11.Alarms ∧ RL e_api_Named F9 v_10 r_11.Mod ∧ R_1 r_11)) (List.mem_of_getElem? (i := 6) rfl) _ hj_5
      have rv := rv.le g_11
      have r_9 := r_9.le g_11
      have r_10 := r_10.le g_11
      have r_7 := r_7.le g_11
      have r_8 := r_8.le g_11
      refine oCall_func (HC.mono (w_digest_Join (a0 := x_8) (a1 := r_11) s r_7 r_8 r_12 r_13 (hc_5 _ hR_1_)) ?_)
      rintro u9 h9 ⟨F9, r_14, v_11, v_12, g9, s9, hu9, r_15, r_16, hr9⟩
      refine ⟨F9, g9, s9, fun p hp9 hi9 => ?_⟩
      simp only [List.mem_cons, List.not_mem_nil, or_false] at hp9
      rcases hp9 with rfl | rfl | rfl | rfl | rfl | rfl | rfl | rfl | rfl <;> first | exact ⟨r_14, v_11, v_12, hu9, r_15, r_16, hr9⟩ | (exact absurd hi9 (Nat.ne_of_beq_eq_false rfl))
     ·intro m_9 h_17 w_9 w_10 hA_8 hn_8 hj_6 hj_7
      refine comA.op (T := fun K => oCall Tryz.prog (.func (.func 12) #[] #[]) #[w_9, w_10] h_17 K) hA_8 hmono (by decide) (fun hk hT => Sx.mono hk hT) (fun F_16 M_9 g_12 hf_8 s => ?_)
      obtain rfl := hf_8 ((0, fun _ v9 => (.agg #[v_5, (.bool x_8.Ends), (.bool x_8.Ret.Some), (.int .i64 x_8.Ret.Lo), (.int .i64 x_8.Ret.Hi), v_6]) = v9)) (List.mem_of_getElem? (i := 0) rfl) _ hj_6
      obtain ⟨r_14, v_11, v_12, rfl, r_15, r_16, hR_2_⟩ := hf_8 ((7, fun F9 v9 => ∃ (r_14 : T_api_Summary) (v_11 : Value) (v_12 : Value), (.agg #[v_11, (.bool r_14.Ends), (.bool r_14.Ret.Some), (.int .i64 r_14.Ret.Lo), (.int .i64 r_14.Ret.Hi), v_12]) = v9 ∧ RL e_api_Alarm F9 v_11 r_14.Alarms ∧ RL e_api_Named F9 v_12 r_14.Mod ∧ R_2 r_14)) (List.mem_of_getElem? (i := 7) rfl) _ hj_7
      have rv := rv.le g_12
      have r_9 := r_9.le g_12
      have r_10 := r_10.le g_12
      have r_7 := r_7.le g_12
      have r_8 := r_8.le g_12
      refine oCall_func (HC.mono (w_digest_Widen (a0 := x_8) (a1 := r_14) s r_7 r_8 r_15 r_16 (hc_6 _ hR_2_)) ?_)
      rintro u9 h9 ⟨F9, r_17, v_13, v_14, g9, s9, hu9, r_18, r_19, hr9⟩
      refine ⟨F9, g9, s9, fun p hp9 hi9 => ?_⟩
      simp only [List.mem_cons, List.not_mem_nil, or_false] at hp9
      rcases hp9 with rfl | rfl | rfl | rfl | rfl | rfl | rfl | rfl | rfl <;> first | exact ⟨r_17, v_13, v_14, hu9, r_18, r_19, hr9⟩ | (exact absurd hi9 (Nat.ne_of_beq_eq_false rfl))
     ·intro m_10 h_18 hA_9 hn_9
      refine comA.new (T := fun K => oAlloc Tryz.prog 33 h_18 K) hA_9 (by simp only [List.map_cons, List.map_nil]; decide) (k := 0) rfl (by simp only [List.map_cons, List.map_nil]; decide) hn_9 (fun hk hT => Sx.mono hk hT) (fun F9 M9 s9 => tAl s9 (vs := [(.slice none 0 0), (.bool false), (.bool false), (.int .i64 0), (.int .i64 0), (.slice none 0 0)]) (by rfl) fun a9 h9 s9 => Sf.toAlP s9)
     ·rintro m_11 h_19 xv ⟨F_18, g_14, hf_10, s⟩ hx_2
      obtain ⟨w_11, hww_11⟩ : ∃ w9, xv 0 = w9 := ⟨_, rfl⟩
      have hmw_11 := hx_2 0 (by decide)
      rw [hww_11] at hmw_11
      obtain ⟨w_12, hww_12⟩ : ∃ w9, xv 1 = w9 := ⟨_, rfl⟩
      have hmw_12 := hx_2 1 (by decide)
      rw [hww_12] at hmw_12
      obtain ⟨w_13, hww_13⟩ : ∃ w9, xv 2 = w9 := ⟨_, rfl⟩
      have hmw_13 := hx_2 2 (by decide)
      rw [hww_13] at hmw_13
      obtain ⟨w_14, hww_14⟩ : ∃ w9, xv 3 = w9 := ⟨_, rfl⟩
      have hmw_14 := hx_2 3 (by decide)
      rw [hww_14] at hmw_14
      obtain ⟨w_15, hww_15⟩ : ∃ w9, xv 4 = w9 := ⟨_, rfl⟩
      have hmw_15 := hx_2 4 (by decide)
      rw [hww_15] at hmw_15
      obtain ⟨w_16, hww_16⟩ : ∃ w9, xv 5 = w9 := ⟨_, rfl⟩
      have hmw_16 := hx_2 5 (by decide)
      rw [hww_16] at hmw_16
      obtain ⟨w_17, hww_17⟩ : ∃ w9, xv 6 = w9 := ⟨_, rfl⟩
      have hmw_17 := hx_2 6 (by decide)
      rw [hww_17] at hmw_17
      obtain ⟨w_18, hww_18⟩ : ∃ w9, xv 7 = w9 := ⟨_, rfl⟩
      have hmw_18 := hx_2 7 (by decide)
      rw [hww_18] at hmw_18
      obtain ⟨w_19, hww_19⟩ : ∃ w9, xv 8 = w9 := ⟨_, rfl⟩
      have hmw_19 := hx_2 8 (by decide)
      simp only [hww_19] at hmw_19 ⊢
      obtain ⟨w_20, hww_20⟩ : ∃ w9, xv 9 = w9 := ⟨_, rfl⟩
      have hmw_20 := hx_2 9 (by decide)
      simp only [hww_20] at hmw_20 ⊢
      obtain rfl := hf_10 ((0, fun _ v9 => (.agg #[v_5, (.bool x_8.Ends), (.bool x_8.Ret.Some), (.int .i64 x_8.Ret.Lo), (.int .i64 x_8.Ret.Hi), v_6]) = v9)) (List.mem_of_getElem? (i := 0) rfl) _ hmw_11
      obtain rfl := hf_10 ((1, fun _ v9 => (.agg #[v_5, (.bool x_8.Ends), (.bool x_8.Ret.Some), (.int .i64 x_8.Ret.Lo), (.int .i64 x_8.Ret.Hi), v_6]) = v9)) (List.mem_of_getElem? (i := 1) rfl) _ hmw_12
      obtain rfl := hf_10 ((2, fun _ v9 => v = v9)) (List.mem_of_getElem? (i := 2) rfl) _ hmw_13
      obtain rfl := hf_10 ((3, fun _ v9 => (.int .i64 x_7) = v9)) (List.mem_of_getElem? (i := 3) rfl) _ hmw_14
      obtain rfl := hf_10 ((4, fun _ v9 => (.pointer (some q)) = v9)) (List.mem_of_getElem? (i := 4) rfl) _ hmw_15
      obtain rfl := hf_10 ((5, fun _ v9 => (.agg #[v_7, (.bool a.Ends), (.int .i64 a.Lo), (.int .i64 a.Hi), v_8]) = v9)) (List.mem_of_getElem? (i := 5) rfl) _ hmw_16
      obtain ⟨r_11, v_9, v_10, rfl, r_12, r_13, hR_1_⟩ := hf_10 ((6, fun F9 v9 => ∃ (r_11 : T_api_Summary) (v_9 : Value) (v_10 : Value), (.agg #[v_9, (.bool r_11.Ends), (.bool r_11.Ret.Some), (.int .i64 r_11.Ret.Lo), (.int .i64 r_11.Ret.Hi), v_10]) = v9 ∧ RL e_api_Alarm F9 v_9 r_11.Alarms ∧ RL e_api_Named F9 v_10 r_11.Mod ∧ R_1 r_11)) (List.mem_of_getElem? (i := 6) rfl) _ hmw_17
      obtain ⟨r_14, v_11, v_12, rfl, r_15, r_16, hR_2_⟩ := hf_10 ((7, fun F9 v9 => ∃ (r_14 : T_api_Summary) (v_11 : Value) (v_12 : Value), (.agg #[v_11, (.bool r_14.Ends), (.bool r_14.Ret.Some), (.int .i64 r_14.Ret.Lo), (.int .i64 r_14.Ret.Hi), v_12]) = v9 ∧ RL e_api_Alarm F9 v_11 r_14.Alarms ∧ RL e_api_Named F9 v_12 r_14.Mod ∧ R_2 r_14)) (List.mem_of_getElem? (i := 7) rfl) _ hmw_18
      obtain ⟨r_17, v_13, v_14, rfl, r_18, r_19, hR_3_⟩ := hf_10 ((8, fun F9 v9 => ∃ (r_17 : T_api_Summary) (v_13 : Value) (v_14 : Value), (.agg #[v_13, (.bool r_17.Ends), (.bool r_17.Ret.Some), (.int .i64 r_17.Ret.Lo), (.int .i64 r_17.Ret.Hi), v_14]) = v9 ∧ RL e_api_Alarm F9 v_13 r_17.Alarms ∧ RL e_api_Named F9 v_14 r_17.Mod ∧ R_3 r_17)) (List.mem_of_getElem? (i := 8) rfl) _ hmw_19
      simp only [List.map_cons, List.map_nil, List.cons_append, List.nil_append, HPo, hmw_20] at s
      obtain ⟨p_1, rfl, s⟩ := Sf.alp 0 rfl s
      replace hp := hp _ hR_1_ _ hR_2_ _ hR_3_
      replace r := r.le g_14
      replace rv := rv.le g_14
      replace r_9 := r_9.le g_14
      replace r_10 := r_10.le g_14
      replace r_7 := r_7.le g_14
      replace r_8 := r_8.le g_14
      replace e0 := Le.trans e0 g_14
      replace ej := Le.trans ej g_14
      replace eL := Le.trans eL g_14
      refine tSt (cs := [(.slice none 0 0), (.bool false), (.bool false), (.int .i64 0), (.int .i64 0), (.slice none 0 0)]) (vs := [v_13, (.bool r_17.Ends), (.bool r_17.Ret.Some), (.int .i64 r_17.Ret.Lo), (.int .i64 r_17.Ret.Hi), v_14]) (cs' := [v_13, (.bool r_17.Ends), (.bool r_17.Ret.Some), (.int .i64 r_17.Ret.Lo), (.int .i64 r_17.Ret.Hi), v_14]) (j := 0) 0 rfl s (Cx.new_at p_1) (padd_zero _).symm (by rfl) rfl (Nat.le_of_ble_eq_true rfl) (ones_cons r_18.1.one (ones_cons rfl (ones_cons rfl (ones_cons rfl (ones_cons rfl (ones_cons r_19.1.one ones_nil)))))) rfl fun h_20 s => ?_
      obtain ⟨kp_1, hk_3, hp⟩ := Pl.join_elim hp
      have ej_1 := Le.refl F_18
      refine Sh.join_intro fun k_1 hk_2 => ?_
      have hK_1 : ∀ (F_19 : Vw) (h_21 : Heap) (x_9 : Int), Le F_18 F_19 → Sf F_19 h_21 (Ce (Cx.new p_1) [v_13, (.bool r_17.Ends), (.bool r_17.Ret.Some), (.int .i64 r_17.Ret.Lo), (.int .i64 r_17.Ret.Hi), v_14] :: Ce (Cx.new p) [v_5, (.bool x_8.Ends), (.bool x_8.Ret.Some), (.int .i64 x_8.Ret.Lo), (.int .i64 x_8.Ret.Hi), v_6] :: M) → kp_1 x_9 → k_1 (.int .i64 x_9) h_21 := by
       intro F_19 h_21 x_9 g_15 s  hp
       rw [hk_2]
       rw [hk_3] at hp
       replace r := r.le g_15
       replace r_7 := r_7.le g_15
       replace r_8 := r_8.le g_15
       replace rv := rv.le g_15
       replace r_9 := r_9.le g_15
       replace r_10 := r_10.le g_15
       replace r_12 := r_12.le g_15
       replace r_13 := r_13.le g_15
       replace r_15 := r_15.le g_15
       replace r_16 := r_16.le g_15
       replace r_18 := r_18.le g_15
       replace r_19 := r_19.le g_15
       replace e0 := Le.trans e0 g_15
       replace ej := Le.trans ej g_15
       replace eL := Le.trans eL g_15
       replace ej_1 := Le.trans ej_1 g_15
       refine ⟨fun h' => Sf F_19 h' (Ce (Cx.new p_1) [v_13, (.bool r_17.Ends), (.bool r_17.Ret.Some), (.int .i64 r_17.Ret.Lo), (.int .i64 r_17.Ret.Hi), v_14] :: Ce (Cx.new p) [v_5, (.bool x_8.Ends), (.bool x_8.Ret.Some), (.int .i64 x_8.Ret.Lo), (.int .i64 x_8.Ret.Hi), v_6] :: M), s, ?_⟩
       have ed := Le.refl F_19
       refine tLdA (a := p) (cs := [v_5, (.bool x_8.Ends), (.bool x_8.Ret.Some), (.int .i64 x_8.Ret.Lo), (.int .i64 x_8.Ret.Hi), v_6]) (ds := [v_5, (.bool x_8.Ends), (.bool x_8.Ret.Some), (.int .i64 x_8.Ret.Lo), (.int .i64 x_8.Ret.Hi), v_6]) (j := 0) (padd_zero _).symm (Sf.ceD (Cx.new_at p) 1 rfl) (Nat.le_of_ble_eq_true rfl) rfl ?_
       refine tLdA (a := p_1) (cs := [v_13, (.bool r_17.Ends), (.bool r_17.Ret.Some), (.int .i64 r_17.Ret.Lo), (.int .i64 r_17.Ret.Hi), v_14]) (ds := [v_13, (.bool r_17.Ends), (.bool r_17.Ret.Some), (.int .i64 r_17.Ret.Lo), (.int .i64 r_17.Ret.Hi), v_14]) (j := 0) (padd_zero _).symm (Sf.ceD (Cx.new_at p_1) 0 rfl) (Nat.le_of_ble_eq_true rfl) rfl ?_
       refine oCall_func (HC.mono (w_digest_Leq (a0 := x_8) (a1 := r_17) s r_7 r_8 r_18 r_19 hp) ?_)
       rintro u_2 h_22 ⟨F_20, r_20, g_16, s, rfl, hp⟩
       have r_D := r
       replace r := r.le g_16
       have r_7_D := r_7
       replace r_7 := r_7.le g_16
       have r_8_D := r_8
       replace r_8 := r_8.le g_16
       have rv_D := rv
       replace rv := rv.le g_16
       have r_9_D := r_9
       replace r_9 := r_9.le g_16
       have r_10_D := r_10
       replace r_10 := r_10.le g_16
       have r_12_D := r_12
       replace r_12 := r_12.le g_16
       have r_13_D := r_13
       replace r_13 := r_13.le g_16
       have r_15_D := r_15
       replace r_15 := r_15.le g_16
       have r_16_D := r_16
       replace r_16 := r_16.le g_16
       have r_18_D := r_18
       replace r_18 := r_18.le g_16
       have r_19_D := r_19
       replace r_19 := r_19.le g_16
       replace e0 := Le.trans e0 g_16
       replace ej := Le.trans ej g_16
       replace eL := Le.trans eL g_16
       replace ej_1 := Le.trans ej_1 g_16
       replace ed := Le.trans ed g_16
       refine ⟨Sf.le s ed, ?_⟩
       refine oUn_not.2 ?_
       obtain ⟨kp_2, hk_5, hp⟩ := Pl.join_elim hp
       have ej_2 := Le.refl F_20
       refine Sh.join_intro fun k_2 hk_4 => ?_
       have hK_2 : ∀ (F_21 : Vw) (h_23 : Heap) (x_10 : T_api_Summary) (x_11 : T_api_Summary) (v_15 : Value) (v_16 : Value) (v_17 : Value) (v_18 : Value) (w_21 : Value) (w_22 : Value), (¬ ((!r_20) = true) → (.agg #[v_15, (.bool x_10.Ends), (.bool x_10.Ret.Some), (.int .i64 x_10.Ret.Lo), (.int .i64 x_10.Ret.Hi), v_16]) = w_21) → (¬ ((!r_20) = true) → (.agg #[v_17, (.bool x_11.Ends), (.bool x_11.Ret.Some), (.int .i64 x_11.Ret.Lo), (.int .i64 x_11.Ret.Hi), v_18]) = w_22) → Le F_20 F_21 → Sf F_21 h_23 (Ce (Cx.new p_1) [v_13, (.bool r_17.Ends), (.bool r_17.Ret.Some), (.int .i64 r_17.Ret.Lo), (.int .i64 r_17.Ret.Hi), v_14] :: Ce (Cx.new p) [v_5, (.bool x_8.Ends), (.bool x_8.Ret.Some), (.int .i64 x_8.Ret.Lo), (.int .i64 x_8.Ret.Hi), v_6] :: M) → RL e_api_Alarm F_21 v_15 x_10.Alarms → RL e_api_Named F_21 v_16 x_10.Mod → RL e_api_Alarm F_21 v_17 x_11.Alarms → RL e_api_Named F_21 v_18 x_11.Mod → kp_2 x_10 x_11 → k_2 w_21 w_22 h_23 := by
        intro F_21 h_23 x_10 x_11 v_15 v_16 v_17 v_18 w_21 w_22 hw_1 hw_2 g_17 s r_21 r_22 r_23 r_24 hp
        rw [hk_4]
        rw [hk_5] at hp
        replace r_7 := r_7.le g_17
        replace r_8 := r_8.le g_17
        replace r := r.le g_17
        replace rv := rv.le g_17
        replace r_9 := r_9.le g_17
        replace r_10 := r_10.le g_17
        replace r_12 := r_12.le g_17
        replace r_13 := r_13.le g_17
        replace r_15 := r_15.le g_17
        replace r_16 := r_16.le g_17
        replace r_18 := r_18.le g_17
        replace r_19 := r_19.le g_17
        replace e0 := Le.trans e0 g_17
        replace ej := Le.trans ej g_17
        replace eL := Le.trans eL g_17
        replace ej_1 := Le.trans ej_1 g_17
        replace ed := Le.trans ed g_17
        replace ej_2 := Le.trans ej_2 g_17
        obtain ⟨kp_3, hk_7, hp⟩ := Pl.join_elim hp
        have ej_3 := Le.refl F_21
        refine Sh.join_intro fun k_3 hk_6 => ?_
        have hK_3 : ∀ (F_22 : Vw) (h_24 : Heap) (x_12 : Bool) (w_23 : Value), (∀ K : Value → Prop, K (.bool x_12) → oPick Tryz.prog (.bool (!r_20)) (.bool true) w_23 K) → Le F_21 F_22 → Sf F_22 h_24 (Ce (Cx.new p_1) [v_13, (.bool r_17.Ends), (.bool r_17.Ret.Some), (.int .i64 r_17.Ret.Lo), (.int .i64 r_17.Ret.Hi), v_14] :: Ce (Cx.new p) [v_5, (.bool x_8.Ends), (.bool x_8.Ret.Some), (.int .i64 x_8.Ret.Lo), (.int .i64 x_8.Ret.Hi), v_6] :: M) → kp_3 x_12 → k_3 w_23 h_24 := by
         intro F_22 h_24 x_12 w_23 hw_3 g_18 s  hp
         rw [hk_6]
         rw [hk_7] at hp
         refine hw_3 _ ?_
         replace r_7 := r_7.le g_18
         replace r_8 := r_8.le g_18
         replace r := r.le g_18
         replace rv := rv.le g_18
         replace r_9 := r_9.le g_18
         replace r_10 := r_10.le g_18
         replace r_12 := r_12.le g_18
         replace r_13 := r_13.le g_18
         replace r_15 := r_15.le g_18
         replace r_16 := r_16.le g_18
         replace r_18 := r_18.le g_18
         replace r_19 := r_19.le g_18
         replace e0 := Le.trans e0 g_18
         replace ej := Le.trans ej g_18
         replace eL := Le.trans eL g_18
         replace ej_1 := Le.trans ej_1 g_18
         replace ed := Le.trans ed g_18
         replace ej_2 := Le.trans ej_2 g_18
         replace ej_3 := Le.trans ej_3 g_18
         by_cases hc_7 : x_12 = true
         ·refine (cond_tt hc_7).2 ?_
          replace hp := (Pl.ite_pos hc_7).1 hp
          replace s := Sf.dropAt 0 rfl s
          replace s := Sf.dropAt 0 rfl s
          exact ⟨F_22, false, e0, s, rfl, hp⟩
         ·refine (cond_ff hc_7).2 ?_
          replace hp := (Pl.ite_neg hc_7).1 hp
          refine tLdA (a := p_1) (cs := [v_13, (.bool r_17.Ends), (.bool r_17.Ret.Some), (.int .i64 r_17.Ret.Lo), (.int .i64 r_17.Ret.Hi), v_14]) (ds := [v_13, (.bool r_17.Ends), (.bool r_17.Ret.Some), (.int .i64 r_17.Ret.Lo), (.int .i64 r_17.Ret.Hi), v_14]) (j := 0) (padd_zero _).symm (Sf.ceE (Cx.new_at p_1) 0 rfl s) (Nat.le_of_ble_eq_true rfl) rfl ?_
          refine tSt (cs := [v_5, (.bool x_8.Ends), (.bool x_8.Ret.Some), (.int .i64 x_8.Ret.Lo), (.int .i64 x_8.Ret.Hi), v_6]) (vs := [v_13, (.bool r_17.Ends), (.bool r_17.Ret.Some), (.int .i64 r_17.Ret.Lo), (.int .i64 r_17.Ret.Hi), v_14]) (cs' := [v_13, (.bool r_17.Ends), (.bool r_17.Ret.Some), (.int .i64 r_17.Ret.Lo), (.int .i64 r_17.Ret.Hi), v_14]) (j := 0) 1 rfl s (Cx.new_at p) (padd_zero _).symm (by rfl) rfl (Nat.le_of_ble_eq_true rfl) (ones_cons r_18.1.one (ones_cons rfl (ones_cons rfl (ones_cons rfl (ones_cons rfl (ones_cons r_19.1.one ones_nil)))))) rfl fun h_25 s => ?_
          refine oBin_add.2 ?_
          replace s := Sf.dropAt 0 rfl s
          obtain ⟨m_12, hm, hi_2⟩ := hp
          exact ⟨m_12, hm, F_22, x_9, IntKind.wrap .i64 (x_7 + 1), r_17, v_13, v_14, eL, s, rfl, rfl, r_18, r_19, hi_2⟩
        clear hk_6 hk_7
        by_cases hc_8 : (!r_20) = true
        ·refine (cond_tt hc_8).2 ?_
         replace hp := (Pl.ite_pos hc_8).1 hp
         exact hK_3 _ _ true _ (fun _ h => oPick_hc hc_8 h) ej_3 s  hp
        ·refine (cond_ff hc_8).2 ?_
         replace hp := (Pl.ite_neg hc_8).1 hp
         obtain rfl := hw_1 hc_8
         obtain rfl := hw_2 hc_8
         refine oCall_func (HC.mono (w_digest_Leq (a0 := x_10) (a1 := x_11) s r_21 r_22 r_23 r_24 hp) ?_)
         rintro u_3 h_26 ⟨F_23, r_25, g_19, s, rfl, hp⟩
         replace r_21 := r_21.le g_19
         replace r_22 := r_22.le g_19
         replace r_23 := r_23.le g_19
         replace r_24 := r_24.le g_19
         replace rv := rv.le g_19
         replace r_9 := r_9.le g_19
         replace r_10 := r_10.le g_19
         replace r_18 := r_18.le g_19
         replace r_19 := r_19.le g_19
         replace r_7 := r_7.le g_19
         replace r_8 := r_8.le g_19
         replace e0 := Le.trans e0 g_19
         replace ej := Le.trans ej g_19
         replace eL := Le.trans eL g_19
         replace ej_1 := Le.trans ej_1 g_19
         replace ed := Le.trans ed g_19
         replace ej_2 := Le.trans ej_2 g_19
         replace ej_3 := Le.trans ej_3 g_19
         refine oUn_not.2 ?_
         exact hK_3 _ _ (!r_25) _ (fun _ h => oPick_hn hc_8 h) ej_3 s  hp
       clear hk_4 hk_5
       by_cases hc_9 : (!r_20) = true
       ·refine (cond_tt hc_9).2 ?_
        replace hp := (Pl.ite_pos hc_9).1 hp
        exact hK_2 _ _ (⟨([] : List T_api_Alarm), false, (⟨false, 0, 0⟩ : T_api_Ival), ([] : List T_api_Named)⟩ : T_api_Summary) (⟨([] : List T_api_Alarm), false, (⟨false, 0, 0⟩ : T_api_Ival), ([] : List T_api_Named)⟩ : T_api_Summary) (.slice none 0 0) (.slice none 0 0) (.slice none 0 0) (.slice none 0 0) _ _ (fun h => absurd hc_9 h) (fun h => absurd hc_9 h) ej_2 s (RL.nil _ _ 0) (RL.nil _ _ 0) (RL.nil _ _ 0) (RL.nil _ _ 0) hp
       ·refine (cond_ff hc_9).2 ?_
        replace hp := (Pl.ite_neg hc_9).1 hp
        obtain ⟨hz_1, a_1, hi_3, hp⟩ := hp
        refine tPlF rfl r_D hz_1 hi_3 fun q_1 c_1 hc_10 rv_1 => ?_
        obtain ⟨v_19, v_20, rfl, r_26, r_27⟩ := hc_10
        have rv_1_D := rv_1
        replace rv_1 := rv_1.le ed
        replace r_26 := r_26.le ed
        replace r_27 := r_27.le ed
        refine tLdA (a := q_1) (cs := [v_19, (.bool a_1.Ends), (.int .i64 a_1.Lo), (.int .i64 a_1.Hi), v_20]) (ds := [v_19, (.bool a_1.Ends), (.int .i64 a_1.Lo), (.int .i64 a_1.Hi), v_20]) (j := 0) (padd_zero _).symm (rvD rv_1_D) (Nat.le_of_ble_eq_true rfl) rfl ?_
        refine tLdA (a := p_1) (cs := [v_13, (.bool r_17.Ends), (.bool r_17.Ret.Some), (.int .i64 r_17.Ret.Lo), (.int .i64 r_17.Ret.Hi), v_14]) (ds := [v_13, (.bool r_17.Ends), (.bool r_17.Ret.Some), (.int .i64 r_17.Ret.Lo), (.int .i64 r_17.Ret.Hi), v_14]) (j := 0) (padd_zero _).symm (Sf.ceD (Cx.new_at p_1) 0 rfl) (Nat.le_of_ble_eq_true rfl) rfl ?_
        refine oCall_func (HC.mono (w_augurlaw19_made (a0 := a_1) s r_26 r_27 hp) ?_)
        rintro u_4 h_27 ⟨F_24, r_28, v_21, v_22, g_20, s, rfl, r_29, r_30, hp⟩
        replace r_26 := r_26.le g_20
        replace r_27 := r_27.le g_20
        replace r_18 := r_18.le g_20
        replace r_19 := r_19.le g_20
        replace rv := rv.le g_20
        replace r_9 := r_9.le g_20
        replace r_10 := r_10.le g_20
        replace r_7 := r_7.le g_20
        replace r_8 := r_8.le g_20
        replace e0 := Le.trans e0 g_20
        replace ej := Le.trans ej g_20
        replace eL := Le.trans eL g_20
        replace ej_1 := Le.trans ej_1 g_20
        replace ed := Le.trans ed g_20
        replace ej_2 := Le.trans ej_2 g_20
        refine ⟨Sf.le s ed, ?_⟩
        exact hK_2 _ _ r_28 r_17 v_21 v_22 v_13 v_14 _ _ (fun _ => rfl) (fun _ => rfl) ej_2 s r_29 r_30 r_18 r_19 hp
      clear hk_2 hk_3
      refine tLdA (a := p_1) (cs := [v_13, (.bool r_17.Ends), (.bool r_17.Ret.Some), (.int .i64 r_17.Ret.Lo), (.int .i64 r_17.Ret.Hi), v_14]) (ds := [v_13, (.bool r_17.Ends), (.bool r_17.Ret.Some), (.int .i64 r_17.Ret.Lo), (.int .i64 r_17.Ret.Hi), v_14]) (j := 0) (padd_zero _).symm (Sf.ceE (Cx.new_at p_1) 0 rfl s) (Nat.le_of_ble_eq_true rfl) rfl ?_
      refine tLdA (a := p) (cs := [v_5, (.bool x_8.Ends), (.bool x_8.Ret.Some), (.int .i64 x_8.Ret.Lo), (.int .i64 x_8.Ret.Hi), v_6]) (ds := [v_5, (.bool x_8.Ends), (.bool x_8.Ret.Some), (.int .i64 x_8.Ret.Lo), (.int .i64 x_8.Ret.Hi), v_6]) (j := 0) (padd_zero _).symm (Sf.ceE (Cx.new_at p) 1 rfl s) (Nat.le_of_ble_eq_true rfl) rfl ?_
      refine oCall_func (HC.mono (w_digest_Same (a0 := r_17) (a1 := x_8) s r_18 r_19 r_7 r_8 hp) ?_)
      rintro u_5 h_28 ⟨F_25, r_31, g_21, s, rfl, hp⟩
      replace r_18 := r_18.le g_21
      replace r_19 := r_19.le g_21
      replace r_7 := r_7.le g_21
      replace r_8 := r_8.le g_21
      replace rv := rv.le g_21
      replace r_9 := r_9.le g_21
      replace r_10 := r_10.le g_21
      replace e0 := Le.trans e0 g_21
      replace ej := Le.trans ej g_21
      replace eL := Le.trans eL g_21
      replace ej_1 := Le.trans ej_1 g_21
      refine oUn_not.2 ?_
      by_cases hc_11 : (!r_31) = true
      ·refine (cond_tt hc_11).2 ?_
       replace hp := (Pl.ite_pos hc_11).1 hp
       refine oBin_add.2 ?_
       exact hK_1 _ _ (IntKind.wrap .i64 (x_6 + 1)) ej_1 s  hp
      ·refine (cond_ff hc_11).2 ?_
       replace hp := (Pl.ite_neg hc_11).1 hp
       exact hK_1 _ _ x_6 ej_1 s  hp
    ·refine (cond_neg hc_2).2 ?_
     replace hp := (Pl.ite_neg hc_2).1 hp
     refine oBin_leq.2 ?_
     replace s := Sf.dropAt 0 rfl s
     exact ⟨F_6, decide (x_6 ≤ 271), e0, s, rfl, hp⟩
  clear hk hk_1
  by_cases hc_12 : 40 < (List.length a0 : Int)
  ·refine (cond_pos hc_12).2 ?_
   replace hp := (Pl.ite_pos hc_12).1 hp
   exact hK _ _ true _ (fun _ h => oPick_dc hc_12 h) ej s  hp
  ·refine (cond_neg hc_12).2 ?_
   replace hp := (Pl.ite_neg hc_12).1 hp
   refine oCall_func (HC.mono (w_augurlaw19_light (a0 := a0) s r hp) ?_)
   rintro u_6 h_29 ⟨F_26, r_32, g_22, s, rfl, hp⟩
   replace r := r.le g_22
   replace e0 := Le.trans e0 g_22
   replace ej := Le.trans ej g_22
   refine oUn_not.2 ?_
   exact hK _ _ (!r_32) _ (fun _ h => oPick_dn hc_12 h) ej s  hp

end Go.Proofs.YtaibfbakhiainaaGreat

namespace Go.Proofs.YtaibfbakhiainaaGreat
open Go Go.Sh Go.Sx

theorem wrap_i64 {i : Int} (h1 : -9223372036854775808 ≤ i) (h2 : i ≤ 9223372036854775807) : IntKind.wrap .i64 i = i := Sh.wrap_int i h1 h2
theorem wrap_inc {i n : Nat} (h : i < n) (hn : n ≤ 1000000000000) : IntKind.wrap .i64 ((i : Int) + 1) = ((i + 1 : Nat) : Int) := Sh.wrap_succ i n h (by omega)
theorem s_ival_Empty {R : T_api_Ival → Prop} : p_ival_Empty R ↔ R (ivU none) := Iff.rfl
theorem s_ival_empty {a : Iv} (ha : a.Ok) {R : Bool → Prop} (h : R a.isNone) : p_ival_empty (ivU a) R := by
  rcases a with _ | ⟨l, g⟩
  · exact (Pl.ite_pos rfl).2 h
  · refine (Pl.ite_neg (by simp [ivU])).2 ?_
    have : decide (g < l) = false := by simpa using ha.1
    show R (decide (g < l))
    rw [this]; exact h
theorem s_ival_Of {l g : Int} {R : T_api_Ival → Prop} (h : R (ivU (Old.mkI l g))) : p_ival_Of l g R := by
  unfold p_ival_Of
  rw [Pl.ite_def]
  unfold Old.mkI at h
  split
  · rename_i hc; rw [if_pos hc] at h; exact h
  · rename_i hc; rw [if_neg hc] at h; exact h
theorem mkI_ok {l g : Int} (h : l ≤ g) : Old.mkI l g = some (l, g) := by unfold Old.mkI; rw [if_neg (by omega)]
theorem s_ival_Join {l : List Iv} (hl : l.length ≤ 1000000) (ho : ∀ a ∈ l, a.Ok) {R : T_api_Ival → Prop} (h : R (ivU (l.foldl jn none))) : p_ival_Join (l.map ivU) R := by
  unfold p_ival_Join
  refine s_ival_Empty.2 ?_
  refine Pl.loop2_count 0 l.length (fun i r => r = ivU ((l.take i).foldl jn none)) (Nat.zero_le _) rfl ?_
  rintro i r next hi rfl hnx
  have hacc : ((l.take i).foldl jn none).Ok := Old.jnAll_ok (fun a ha => ho a (List.mem_of_mem_take ha)) trivial
  rw [Pl.ite_def]
  split
  · rename_i hc
    have hlt : i < l.length := by simpa using hc
    obtain ⟨a, ha⟩ : ∃ a, l[i]? = some a := ⟨_, List.getElem?_eq_getElem hlt⟩
    have hao := ho a (List.mem_of_getElem? ha)
    have hstep : (l.take (i + 1)).foldl jn none = jn ((l.take i).foldl jn none) a := by
      rw [List.take_add_one, ha, List.foldl_append]; rfl
    have hn : next (IntKind.wrap .i64 ((i : Int) + 1)) (ivU (jn ((l.take i).foldl jn none) a)) := by
      rw [wrap_inc hlt (by omega)]
      exact hnx _ hlt (by rw [hstep])
    refine Pl.join_intro ?_
    refine Pl.get_nat (a := ivU a) (by simp [ha]) ?_
    refine s_ival_empty hao ?_
    generalize (l.take i).foldl jn none = acc at *
    rcases a with _ | ⟨x, y⟩
    · refine (Pl.ite_pos rfl).2 ?_
      rw [jn_none] at hn; exact hn
    · refine (Pl.ite_neg (by simp)).2 ?_
      rcases acc with _ | ⟨u, v⟩
      · refine (Pl.ite_pos rfl).2 (s_ival_Of ?_)
        rw [show (ivU (some (x, y))).Lo = x from rfl, show (ivU (some (x, y))).Hi = y from rfl, mkI_ok hao.1]
        exact hn
      · refine (Pl.ite_neg (by simp [ivU])).2 (s_ival_Of ?_)
        have : min u x ≤ max v y := by
          have h1 := hao.1
          omega
        show next _ (ivU (Old.mkI (min u x) (max v y)))
        rw [mkI_ok this]
        exact hn
  · rename_i hc
    have : i = l.length := by
      have : ¬ i < l.length := by simpa using hc
      omega
    subst this
    rw [List.take_length]; exact h
theorem s_Join1 {x y : Iv} (hx : x.Ok) (hy : y.Ok) {R : T_api_Ival → Prop} (h : R (ivU (jn x y))) : p_digest_Join_1 (ivU x) (ivU y) R := by
  unfold p_digest_Join_1
  refine s_ival_Join (l := [x, y]) (by simp) (by simp [hx, hy]) ?_
  simpa [none_jn] using h
theorem s_ival_Widen {x y : Iv} (hx : x.Ok) (hy : y.Ok) {R : T_api_Ival → Prop} (h : R (ivU (wd x y))) : p_ival_Widen (ivU x) (ivU y) R := by
  unfold p_ival_Widen
  refine s_ival_empty hx ?_
  rcases x with _ | ⟨l, g⟩
  · refine (Pl.ite_pos rfl).2 ?_
    refine s_ival_Join (l := [y]) (by simp) (by simp [hy]) ?_
    simpa [none_jn, wd] using h
  · refine (Pl.ite_neg (by simp)).2 ?_
    refine s_ival_empty hy ?_
    rcases y with _ | ⟨k, f⟩
    · refine (Pl.ite_pos rfl).2 ?_
      refine s_ival_Join (l := [some (l, g)]) (by simp) (by simp [hx]) ?_
      simpa [none_jn, wd] using h
    · refine (Pl.ite_neg (by simp)).2 ?_
      have h1 := hx.1
      have h2 := hy.1
      have a1 : minI ≤ l := hx.2.1
      have a2 : g ≤ maxI := hx.2.2
      have a3 : minI ≤ k := hy.2.1
      have a4 : f ≤ maxI := hy.2.2
      have e1 : (if k < l then minI else l) ≤ (if f > g then maxI else g) := by
        unfold minI maxI at *
        split <;> split <;> omega
      have key : p_ival_Of (if k < l then minI else l) (if f > g then maxI else g) R := s_ival_Of (by rw [mkI_ok e1]; exact h)
      simp only [Pl.join, Pl.ite_def, ivU]
      unfold minI maxI at key
      by_cases c1 : k < l <;> by_cases c2 : g < f <;> simp only [c1, c2, gt_iff_lt, if_true, if_false] at key ⊢ <;> exact key
theorem s_Norm {a : Iv} (ha : a.Ok) {R : T_api_Ival → Prop} (h : R (ivU a)) : p_augurref12_Norm (ivU a) R := by
  unfold p_augurref12_Norm
  refine Pl.join_intro ?_
  rcases a with _ | ⟨l, g⟩
  · refine (Pl.ite_pos rfl).2 ?_
    exact (Pl.ite_pos rfl).2 h
  · refine (Pl.ite_neg (by simp [ivU])).2 ?_
    refine (Pl.ite_neg ?_).2 h
    have h1 : l ≤ g := ha.1
    show ¬ decide (g < l) = true
    simpa using h1
theorem s_refOf {l g : Int} {R : T_api_Ival → Prop} (h : R (ivU (Old.mkI l g))) : p_augurref12_Of l g R := by
  unfold p_augurref12_Of p_augurref12_Norm
  refine Pl.join_intro ?_
  refine (Pl.ite_neg (by simp)).2 ?_
  simp only [Pl.ite_def]
  unfold Old.mkI at h
  by_cases hc : g < l
  · rw [if_pos hc] at h
    rw [if_pos (by simpa using hc)]; exact h
  · rw [if_neg hc] at h
    rw [if_neg (by simpa using hc)]; exact h
theorem s_refJoin {l : List Iv} (hl : l.length ≤ 1000000) (ho : ∀ a ∈ l, a.Ok) {R : T_api_Ival → Prop} (h : R (ivU (l.foldl jn none))) : p_augurref12_Join (l.map ivU) R := by
  unfold p_augurref12_Join
  refine Pl.loop2_count 0 l.length (fun i r => r = ivU ((l.take i).foldl jn none)) (Nat.zero_le _) rfl ?_
  rintro i r next hi rfl hnx
  have hacc : ((l.take i).foldl jn none).Ok := Old.jnAll_ok (fun a ha => ho a (List.mem_of_mem_take ha)) trivial
  rw [Pl.ite_def]
  split
  · rename_i hc
    have hlt : i < l.length := by simpa using hc
    obtain ⟨a, ha⟩ : ∃ a, l[i]? = some a := ⟨_, List.getElem?_eq_getElem hlt⟩
    have hao := ho a (List.mem_of_getElem? ha)
    have hstep : (l.take (i + 1)).foldl jn none = jn ((l.take i).foldl jn none) a := by
      rw [List.take_add_one, ha, List.foldl_append]; rfl
    have hn : next (IntKind.wrap .i64 ((i : Int) + 1)) (ivU (jn ((l.take i).foldl jn none) a)) := by
      rw [wrap_inc hlt (by omega)]
      exact hnx _ hlt (by rw [hstep])
    refine Pl.get_nat (a := ivU a) (by simp [ha]) ?_
    refine s_Norm hao ?_
    refine Pl.join_intro ?_
    generalize (l.take i).foldl jn none = acc at *
    rcases a with _ | ⟨x, y⟩
    · refine (Pl.ite_pos rfl).2 ?_
      rw [jn_none] at hn; exact hn
    · refine (Pl.ite_neg (by simp [ivU])).2 ?_
      rcases acc with _ | ⟨u, v⟩
      · exact (Pl.ite_pos rfl).2 hn
      · refine (Pl.ite_neg (by simp [ivU])).2 (s_refOf ?_)
        have : min u x ≤ max v y := by
          have h1 := hao.1
          omega
        show next _ (ivU (Old.mkI (min u x) (max v y)))
        rw [mkI_ok this]
        exact hn
  · rename_i hc
    have : i = l.length := by
      have : ¬ i < l.length := by simpa using hc
      omega
    subst this
    rw [List.take_length]; exact h
theorem s_refWiden {x y : Iv} (hx : x.Ok) (hy : y.Ok) {R : T_api_Ival → Prop} (h : R (ivU (wd x y))) : p_augurref12_Widen (ivU x) (ivU y) R := by
  unfold p_augurref12_Widen
  refine s_Norm hx (s_Norm hy ?_)
  rcases x with _ | ⟨l, g⟩
  · exact (Pl.ite_pos rfl).2 h
  · refine (Pl.ite_neg (by simp [ivU])).2 ?_
    rcases y with _ | ⟨k, f⟩
    · exact (Pl.ite_pos rfl).2 h
    · refine (Pl.ite_neg (by simp [ivU])).2 ?_
      simp only [Pl.join, Pl.ite_def, ivU]
      unfold wd minI maxI at h
      by_cases c1 : k < l <;> by_cases c2 : g < f <;> simp only [c1, c2, gt_iff_lt, if_true, if_false] at h ⊢ <;> exact h
theorem s_two {x y : Iv} (hx : x.Ok) (hy : y.Ok) {w : Bool} {R : T_api_Ival → Prop} (h : R (ivU (if w then wd x y else jn x y))) : p_augurref12_two (ivU x) (ivU y) w R := by
  unfold p_augurref12_two
  cases w
  · refine (Pl.ite_neg (by simp)).2 ?_
    refine s_refJoin (l := [x, y]) (by simp) (by simp [hx, hy]) ?_
    simpa [none_jn] using h
  · refine (Pl.ite_pos rfl).2 (s_refWiden hx hy ?_)
    simpa using h
/-- What a list of cells has for a name. -/
theorem s_mod {al : List T_api_Alarm} {e : Bool} {r : T_api_Ival} {l : List (Str × Iv)} {k : Str} (hl : l.length ≤ 1000000) {R : T_api_Ival → Prop} (h : R (ivU (Old.gt l k))) :
    p_augurref12_mod ⟨al, e, r, l.map nmU'⟩ k R := by
  unfold p_augurref12_mod
  refine Pl.loop1_count 0 l.length (fun i => Old.gt l k = Old.gt (l.drop i) k) (Nat.zero_le _) rfl ?_
  rintro i next hi hI hnx
  rw [Pl.ite_def]
  split
  · rename_i hc
    have hlt : i < l.length := by simpa using hc
    obtain ⟨a, ha⟩ : ∃ a, l[i]? = some a := ⟨_, List.getElem?_eq_getElem hlt⟩
    have hd : l.drop i = a :: l.drop (i + 1) := by
      rw [List.drop_eq_getElem_cons hlt]
      congr 1
      exact (List.getElem?_eq_some_iff.1 ha).2
    refine Pl.get_nat (a := nmU' a) (by simp [ha]) ?_
    rw [Pl.ite_def]
    split
    · rename_i he
      refine Pl.get_nat (a := nmU' a) (by simp [ha]) ?_
      have : Old.gt l k = a.2 := by
        rw [hI, hd]
        show (Sh.get (a :: l.drop (i + 1)) k).getD none = a.2
        obtain ⟨n, v⟩ := a
        have : n = k := he
        simp [Sh.get, this]
      rw [this] at h
      exact h
    · rename_i he
      rw [wrap_inc hlt (by omega)]
      refine hnx hlt ?_
      rw [hI, hd]
      show (Sh.get (a :: l.drop (i + 1)) k).getD none = (Sh.get (l.drop (i + 1)) k).getD none
      obtain ⟨n, v⟩ := a
      have : ¬ n = k := he
      simp [Sh.get, this]
  · rename_i hc
    have : i = l.length := by
      have : ¬ i < l.length := by simpa using hc
      omega
    subst this
    rw [List.drop_length] at hI
    have : Old.gt l k = none := hI
    rw [this] at h
    exact h
end Go.Proofs.YtaibfbakhiainaaGreat
namespace Go.Proofs.YtaibfbakhiainaaGreat
open Go Go.Sh Go.Sx

theorem slss_ltS : ∀ a b : Str, Pl.slss a b = ltS a b
  | [], [] => rfl
  | [], _ :: _ => rfl
  | _ :: _, [] => rfl
  | a :: x, b :: y => by
    have ih := slss_ltS x y
    unfold Pl.slss at ih ⊢
    simp only [Op.bytesLess, ltS, ih]
    by_cases h1 : a < b
    · simp [h1]
    · by_cases h2 : b < a
      · have : ¬ a = b := fun e => UInt8.lt_irrefl _ (e ▸ h2)
        simp [h1, h2, this]
      · have : a = b := UInt8.le_antisymm (UInt8.not_lt.1 h2) (UInt8.not_lt.1 h1)
        simp [h1, this]
section ins
variable {α : Type} (O : Sx.Ord α) [DecidableEq α]
omit [DecidableEq α] in
theorem lt_asymm {a b : α} (h : O.lt a b = true) : O.lt b a = false := by
  cases h2 : O.lt b a with
  | false => rfl
  | true => have := O.trans _ _ _ h h2; rw [O.irrefl] at this; cases this
theorem ins_at (s : α) : ∀ (i : Nat) (l : List α), i ≤ l.length → (∀ j, j < i → ∀ a, l[j]? = some a → O.lt a s = true) → (∀ a, l[i]? = some a → O.lt a s = false) →
    ins O s l = if l[i]? = some s then l else l.take i ++ s :: l.drop i
  | 0, [], _, _, _ => by simp [ins]
  | 0, y :: l, _, _, h2 => by
    have hy := h2 y rfl
    unfold ins
    by_cases h : O.lt s y = true
    · have hne : y ≠ s := fun e => by rw [e, O.irrefl] at h; cases h
      simp [h, hne]
    · have h' : O.lt s y = false := by simpa using h
      have := O.tri _ _ h' hy
      simp [this, O.irrefl]
  | i + 1, [], h, _, _ => by simp at h
  | i + 1, y :: l, hi, h1, h2 => by
    have hy := h1 0 (by omega) y rfl
    have ih := ins_at s i l (by simpa using hi) (fun j hj a ha => h1 (j + 1) (by omega) a (by simpa using ha)) (fun a ha => h2 a (by simpa using ha))
    unfold ins
    rw [lt_asymm O hy, hy]
    simp only [Bool.false_eq_true, if_false, if_true, ih, List.getElem?_cons_succ]
    split <;> simp
end ins
theorem int_lt {i n : Nat} : ((i : Int) < (n : Int)) ↔ i < n := by omega
theorem s_Add {l : List Str} {s : Str} (hl : l.length ≤ 1000000) {R : List Str → Prop} (h : R (ins ordS s l)) : p_augurref10_Add l s R := by
  unfold p_augurref10_Add
  refine Pl.loop1_count 0 l.length (fun i => ∀ j, j < i → ∀ a, l[j]? = some a → ltS a s = true) (Nat.zero_le _) (fun j hj => absurd hj (by omega)) ?_
  intro i next hi hI hnx
  have fin : (∀ a, l[i]? = some a → ltS a s = false) → Pl.join (fun x_3 : Bool => Pl.ite (x_3 = true) (R l) (Pl.slc l 0 (i : Int) fun l_1 => Pl.slc l (i : Int) (List.length l : Int) fun l_2 => Pl.app [s] l_2 fun l_3 => Pl.appc l_1 l_3 fun l_4 => R l_4))
      fun kp_1 => Pl.ite ((i : Int) < (List.length l : Int)) (Pl.get l (i : Int) fun a => kp_1 (decide (a = s))) (kp_1 false) := by
    intro hno
    have hins := ins_at ordS s i l hi hI hno
    have put : l[i]? ≠ some s → Pl.slc l 0 (i : Int) fun l_1 => Pl.slc l (i : Int) (List.length l : Int) fun l_2 => Pl.app [s] l_2 fun l_3 => Pl.appc l_1 l_3 fun l_4 => R l_4 := by
      intro hne
      rw [if_neg hne] at hins
      refine Pl.slc_nat (a := 0) (by omega) hi ?_
      refine Pl.slc_nat hi (Nat.le_refl _) ?_
      refine Pl.app_intro (by simp; omega) ?_
      refine Pl.appc_intro (by simp) (by simp; omega) ?_
      simpa [hins] using h
    refine Pl.join_intro ?_
    by_cases hlt : i < l.length
    · refine (Pl.ite_pos (int_lt.2 hlt)).2 ?_
      obtain ⟨a, ha⟩ : ∃ a, l[i]? = some a := ⟨_, List.getElem?_eq_getElem hlt⟩
      refine Pl.get_nat ha ?_
      by_cases e : a = s
      · subst e
        refine (Pl.ite_pos (by simp)).2 ?_
        rw [if_pos ha] at hins
        rw [hins] at h; exact h
      · refine (Pl.ite_neg (by simpa using e)).2 (put ?_)
        rw [ha]; simpa using e
    · refine (Pl.ite_neg (fun h => hlt (int_lt.1 h))).2 ?_
      refine (Pl.ite_neg (by simp)).2 (put ?_)
      rw [List.getElem?_eq_none (by omega)]; simp
  refine Pl.join_intro ?_
  by_cases hlt : i < l.length
  · refine (Pl.ite_pos (int_lt.2 hlt)).2 ?_
    obtain ⟨a, ha⟩ : ∃ a, l[i]? = some a := ⟨_, List.getElem?_eq_getElem hlt⟩
    refine Pl.get_nat ha ?_
    rw [slss_ltS]
    by_cases c : ltS a s = true
    · refine (Pl.ite_pos c).2 ?_
      rw [wrap_inc hlt (by omega)]
      refine hnx hlt fun j hj b hb => ?_
      rcases Nat.lt_or_ge j i with h1 | h1
      · exact hI j h1 b hb
      · have : j = i := by omega
        subst this
        rw [ha] at hb; cases hb; exact c
    · refine (Pl.ite_neg c).2 (fin fun b hb => ?_)
      rw [ha] at hb; cases hb
      simpa using c
  · refine (Pl.ite_neg (fun h => hlt (int_lt.1 h))).2 ?_
    refine (Pl.ite_neg (by simp)).2 (fin fun b hb => ?_)
    rw [List.getElem?_eq_none (by omega)] at hb; cases hb
/-- Alarms put in order, each once. -/
def insA (d m : List (Int × Int)) : List (Int × Int) := m.foldl (fun l a => ins Old.ordA a l) d
theorem alU_inj {a b : Int × Int} : alU a = alU b ↔ a = b := by
  constructor
  · intro h; rw [← alP_alU a, h, alP_alU]
  · rintro rfl; rfl
theorem ordA_lt (a b : Int × Int) : Old.ordA.lt a b = true ↔ a.1 < b.1 ∨ (a.1 = b.1 ∧ a.2 < b.2) := by
  show decide (Old.cmpA a b < 0) = true ↔ _
  rw [decide_eq_true_eq, Old.cmpA_lt]
theorem ins_len {α : Type} (O : Sx.Ord α) (x : α) : ∀ l : List α, (ins O x l).length ≤ l.length + 1
  | [] => by simp [ins]
  | y :: l => by
    unfold ins
    have := ins_len O x l
    split
    · simp
    · split <;> simp_all
theorem insA_len (d : List (Int × Int)) : ∀ m : List (Int × Int), (insA d m).length ≤ d.length + m.length := by
  intro m
  induction m generalizing d with
  | nil => simp [insA]
  | cons a m ih =>
    have h1 := ih (ins Old.ordA a d)
    have h2 := ins_len Old.ordA a d
    simp only [insA, List.foldl_cons, List.length_cons] at h1 ⊢
    omega
theorem s_AddAlarms {d m : List (Int × Int)} (hd : d.length ≤ 1000000) (hm : m.length ≤ 1000000) {R : List T_api_Alarm → Prop} (h : R ((insA d m).map alU)) : p_augurref12_AddAlarms (d.map alU) (m.map alU) R := by
  unfold p_augurref12_AddAlarms
  suffices hs : ∀ k, k = 0 → Pl.loop2 (d.map alU) (k : Int) _ from hs 0 rfl
  rintro k rfl
  refine ⟨fun n l x => ∃ i : Nat, x = i ∧ i ≤ m.length ∧ n = m.length - i ∧ l = (insA d (m.take i)).map alU, m.length, ⟨0, rfl, Nat.zero_le _, rfl, rfl⟩, ?_⟩
  rintro n l x ⟨i, rfl, hi, rfl, rfl⟩
  have hbl : (insA d (m.take i)).length ≤ 2000000 := by
    have := insA_len d (m.take i)
    rw [List.length_take] at this
    omega
  by_cases hlt : i < m.length
  · refine (Pl.ite_pos (by simpa using hlt)).2 ?_
    obtain ⟨a, ha⟩ : ∃ a, m[i]? = some a := ⟨_, List.getElem?_eq_getElem hlt⟩
    have hma : (m.map alU)[i]? = some (alU a) := by simp [ha]
    have hstep : insA d (m.take (i + 1)) = ins Old.ordA a (insA d (m.take i)) := by
      rw [List.take_add_one, ha]; simp [insA]
    refine Pl.join_intro ?_
    generalize insA d (m.take i) = l at *
    have hnx : ∃ m', m' < m.length - i ∧ ∃ i' : Nat, (IntKind.wrap .i64 ((i : Int) + 1)) = i' ∧ i' ≤ m.length ∧ m' = m.length - i' ∧ (ins Old.ordA a l).map alU = (insA d (m.take i')).map alU :=
      ⟨m.length - (i + 1), by omega, i + 1, wrap_inc hlt (by omega), by omega, rfl, by rw [hstep]⟩
    refine Pl.loop1_count 0 l.length (fun j => ∀ q, q < j → ∀ b, l[q]? = some b → Old.ordA.lt b a = true) (Nat.zero_le _) (fun j hj => absurd hj (by omega)) ?_
    intro j next hj hI hn
    have fin : (∀ b, l[j]? = some b → Old.ordA.lt b a = false) → _ := fun hno => ins_at Old.ordA a j l hj hI hno
    have hget : ∀ {q : Nat} {b : Int × Int}, l[q]? = some b → (l.map alU)[q]? = some (alU b) := fun hb => by simp [hb]
    -- the way out
    have out : (∀ b, l[j]? = some b → Old.ordA.lt b a = false) →
        Pl.join (fun x_5 : Bool => Pl.ite (x_5 = true) (Pl.slc (l.map alU) 0 (j : Int) fun l_3 => Pl.get (m.map alU) (i : Int) fun a_1 => Pl.slc (l.map alU) (j : Int) (List.length (l.map alU) : Int) fun l_4 => Pl.app [a_1] l_4 fun l_5 => Pl.appc l_3 l_5 fun l_6 =>
          ∃ m', m' < m.length - i ∧ ∃ i' : Nat, (IntKind.wrap .i64 ((i : Int) + 1)) = i' ∧ i' ≤ m.length ∧ m' = m.length - i' ∧ l_6 = (insA d (m.take i')).map alU)
          (∃ m', m' < m.length - i ∧ ∃ i' : Nat, (IntKind.wrap .i64 ((i : Int) + 1)) = i' ∧ i' ≤ m.length ∧ m' = m.length - i' ∧ l.map alU = (insA d (m.take i')).map alU))
        fun kp_2 => Pl.ite ((j : Int) = (List.length (l.map alU) : Int)) (kp_2 true) (Pl.get (l.map alU) (j : Int) fun a_1 => Pl.get (m.map alU) (i : Int) fun a_2 => kp_2 (decide (a_1 ≠ a_2))) := by
      intro hno
      have hins := fin hno
      have put : l[j]? ≠ some a → Pl.slc (l.map alU) 0 (j : Int) fun l_3 => Pl.get (m.map alU) (i : Int) fun a_1 => Pl.slc (l.map alU) (j : Int) (List.length (l.map alU) : Int) fun l_4 => Pl.app [a_1] l_4 fun l_5 => Pl.appc l_3 l_5 fun l_6 =>
          ∃ m', m' < m.length - i ∧ ∃ i' : Nat, (IntKind.wrap .i64 ((i : Int) + 1)) = i' ∧ i' ≤ m.length ∧ m' = m.length - i' ∧ l_6 = (insA d (m.take i')).map alU := by
        intro hne
        rw [if_neg hne] at hins
        refine Pl.slc_nat (a := 0) (by omega) (by simpa using hj) ?_
        refine Pl.get_nat hma ?_
        refine Pl.slc_nat (by simpa using hj) (Nat.le_refl _) ?_
        refine Pl.app_intro (by simp; omega) ?_
        refine Pl.appc_intro (by simp) (by simp; omega) ?_
        rw [hins] at hnx
        have e1 : (l.map alU).take l.length = l.map alU := List.take_of_length_le (by simp)
        simpa [List.map_take, List.map_drop, e1] using hnx
      refine Pl.join_intro ?_
      by_cases hjl : j = l.length
      · refine (Pl.ite_pos (by simp [hjl])).2 ?_
        refine (Pl.ite_pos rfl).2 (put ?_)
        rw [List.getElem?_eq_none (by omega)]; simp
      · have hjlt : j < l.length := by omega
        refine (Pl.ite_neg (by simp; omega)).2 ?_
        obtain ⟨b, hb⟩ : ∃ b, l[j]? = some b := ⟨_, List.getElem?_eq_getElem hjlt⟩
        refine Pl.get_nat (hget hb) (Pl.get_nat hma ?_)
        by_cases e : b = a
        · subst e
          refine (Pl.ite_neg (by simp)).2 ?_
          rw [if_pos hb] at hins
          rw [hins] at hnx; exact hnx
        · refine (Pl.ite_pos (by simpa [alU_inj] using e)).2 (put ?_)
          rw [hb]; simpa using e
    refine Pl.join_intro ?_
    by_cases hjlt : j < l.length
    · refine (Pl.ite_pos (by simpa using hjlt)).2 ?_
      obtain ⟨b, hb⟩ : ∃ b, l[j]? = some b := ⟨_, List.getElem?_eq_getElem hjlt⟩
      have go : Old.ordA.lt b a = true → next (IntKind.wrap .i64 ((j : Int) + 1)) := fun hc => by
        rw [wrap_inc hjlt (by omega)]
        refine hn hjlt fun q hq c hcq => ?_
        rcases Nat.lt_or_ge q j with h1 | h1
        · exact hI q h1 c hcq
        · have : q = j := by omega
          subst this
          rw [hb] at hcq; cases hcq; exact hc
      have stop : ¬ Old.ordA.lt b a = true → (∀ b, l[j]? = some b → Old.ordA.lt b a = false) := fun hc c hcq => by
        rw [hb] at hcq; cases hcq
        simpa using hc
      refine Pl.get_nat (hget hb) (Pl.get_nat hma ?_)
      refine Pl.join_intro ?_
      by_cases c1 : b.1 < a.1
      · exact (Pl.ite_pos c1).2 ((Pl.ite_pos rfl).2 (go ((ordA_lt b a).2 (.inl c1))))
      · refine (Pl.ite_neg c1).2 ?_
        refine Pl.get_nat (hget hb) (Pl.get_nat hma ?_)
        refine Pl.join_intro ?_
        by_cases c2 : b.1 = a.1
        · refine (Pl.ite_pos c2).2 ?_
          refine Pl.get_nat (hget hb) (Pl.get_nat hma ?_)
          by_cases c3 : b.2 < a.2
          · exact (Pl.ite_pos (decide_eq_true (show (alU b).Kind < (alU a).Kind from c3))).2 (go ((ordA_lt b a).2 (.inr ⟨c2, c3⟩)))
          · refine (Pl.ite_neg (fun h => c3 (of_decide_eq_true h))).2 (out (stop ?_))
            rw [ordA_lt]; omega
        · refine (Pl.ite_neg c2).2 ?_
          refine (Pl.ite_neg (by simp)).2 (out (stop ?_))
          rw [ordA_lt]; omega
    · refine (Pl.ite_neg (by simpa using hjlt)).2 ?_
      refine (Pl.ite_neg (by simp)).2 (out fun b hb => ?_)
      rw [List.getElem?_eq_none (by omega)] at hb; cases hb
  · have : i = m.length := by omega
    subst this
    refine (Pl.ite_neg (by simp)).2 ?_
    rw [List.take_length]; exact h
end Go.Proofs.YtaibfbakhiainaaGreat
namespace Go.Proofs.YtaibfbakhiainaaGreat
open Go Go.Sh Go.Sx

def smU (s : Old.Sm) : T_api_Summary := ⟨s.al.map alU, s.ends, ivU s.ret, s.mod.map nmU'⟩
theorem ivU_eq {a b : Iv} : ivU a = ivU b ↔ a = b := ⟨ivU_inj, fun h => h ▸ rfl⟩
theorem nmU_eq {a b : Str × Iv} : nmU' a = nmU' b ↔ a = b := by
  obtain ⟨n, v⟩ := a
  obtain ⟨m, w⟩ := b
  simp only [nmU', T_api_Named.ext_iff', Prod.mk.injEq, ivU_eq]
theorem alsU_eq {a b : List (Int × Int)} : a.map alU = b.map alU ↔ a = b := List.map_inj_right fun x y h => alU_inj.1 h
theorem nmsU_eq {a b : List (Str × Iv)} : a.map nmU' = b.map nmU' ↔ a = b := List.map_inj_right fun x y h => nmU_eq.1 h
theorem smU_eq {a b : Old.Sm} : smU a = smU b ↔ a = b := by
  obtain ⟨a1, a2, a3, a4⟩ := a
  obtain ⟨b1, b2, b3, b4⟩ := b
  simp only [smU, T_api_Summary.ext_iff', Old.Sm.mk.injEq, ivU_eq, alsU_eq, nmsU_eq]
instance : DecidableEq Old.Sm := fun a b => decidable_of_iff _ smU_eq
section eq
variable {α : Type} [DecidableEq α]
omit [DecidableEq α] in
theorem eq_take {a b : List α} (hl : a.length = b.length) (h : ∀ j, j < a.length → a[j]? = b[j]?) : a = b := by
  apply List.ext_getElem? 
  intro i
  rcases Nat.lt_or_ge i a.length with h1 | h1
  · exact h i h1
  · rw [List.getElem?_eq_none h1, List.getElem?_eq_none (by omega)]
/-- A loop that holds two lists of one length against one another. -/
theorem eq_loop {a b : List α} (hl : a.length = b.length) (hb : a.length ≤ 1000000) {R : Bool → Prop} (h : R (decide (a = b))) :
    Pl.loop1 0 fun x next => Pl.ite (x < (List.length a : Int)) (Pl.get a x fun u => Pl.get b x fun v => Pl.ite (u ≠ v) (R false) (next (IntKind.wrap .i64 (x + 1)))) (R true) := by
  refine Pl.loop1_count 0 a.length (fun i => ∀ j, j < i → a[j]? = b[j]?) (Nat.zero_le _) (fun j hj => absurd hj (by omega)) ?_
  intro i next hi hI hnx
  by_cases hlt : i < a.length
  · refine (Pl.ite_pos (int_lt.2 hlt)).2 ?_
    obtain ⟨u, hu⟩ : ∃ u, a[i]? = some u := ⟨_, List.getElem?_eq_getElem hlt⟩
    obtain ⟨v, hv⟩ : ∃ v, b[i]? = some v := ⟨_, List.getElem?_eq_getElem (by omega)⟩
    refine Pl.get_nat hu (Pl.get_nat hv ?_)
    by_cases e : u = v
    · refine (Pl.ite_neg (by simpa using e)).2 ?_
      rw [wrap_inc hlt (by omega)]
      refine hnx hlt fun j hj => ?_
      rcases Nat.lt_or_ge j i with h1 | h1
      · exact hI j h1
      · have : j = i := by omega
        subst this
        rw [hu, hv, e]
    · refine (Pl.ite_pos e).2 ?_
      have : ¬ a = b := fun hab => e (by rw [hab, hv] at hu; exact (Option.some.inj hu).symm)
      simpa [this] using h
  · refine (Pl.ite_neg (fun h => hlt (int_lt.1 h))).2 ?_
    have : a = b := eq_take hl fun j hj => hI j (by omega)
    simpa [this] using h
end eq
theorem len_ne {α β : Type} {a : List α} {b : List β} : ((List.length a : Int) ≠ (List.length b : Int)) ↔ a.length ≠ b.length := by omega
theorem s_hAlarms {a b : List T_api_Alarm} (ha : a.length ≤ 1000000) {R : Bool → Prop} (h : R (decide (a = b))) : p_augurhelp_Alarms a b R := by
  unfold p_augurhelp_Alarms
  by_cases hl : a.length = b.length
  · refine (Pl.ite_neg (fun h => len_ne.1 h hl)).2 (eq_loop hl ha h)
  · refine (Pl.ite_pos (len_ne.2 hl)).2 ?_
    have : ¬ a = b := fun e => hl (e ▸ rfl)
    simpa [this] using h
theorem bne_dec (a b : Bool) : (a != b) = decide (a ≠ b) := by cases a <;> cases b <;> rfl
theorem beq_dec (a b : Bool) : (a == b) = decide (a = b) := by cases a <;> cases b <;> rfl
theorem s_hSummary {a b : T_api_Summary} (ha : a.Alarms.length ≤ 1000000) (hm : a.Mod.length ≤ 1000000) {R : Bool → Prop} (h : R (decide (a = b))) : p_augurhelp_Summary a b R := by
  have no : ¬ a = b → R false := fun e => by simpa [e] using h
  unfold p_augurhelp_Summary
  refine Pl.join_intro ?_
  have go1 : a.Ends = b.Ends → a.Ret = b.Ret → Pl.join (fun x_3 : Bool => Pl.join (fun x_4 : Bool => Pl.ite (x_4 = true) (R false)
      (Pl.loop1 0 fun x_6 next => Pl.ite (x_6 < (List.length a.Mod : Int)) (Pl.get a.Mod x_6 fun u => Pl.get b.Mod x_6 fun v => Pl.ite (u ≠ v) (R false) (next (IntKind.wrap .i64 (x_6 + 1)))) (R true)))
      fun kp_2 => Pl.ite (x_3 = true) (kp_2 true) (kp_2 (decide ((List.length a.Mod : Int) ≠ (List.length b.Mod : Int)))))
      fun kp_1 => Pl.ite (false = true) (kp_1 true) (p_augurhelp_Alarms a.Alarms b.Alarms fun r_4 => kp_1 (!r_4)) := by
    intro he hr
    refine Pl.join_intro ?_
    refine (Pl.ite_neg (by simp)).2 ?_
    refine s_hAlarms ha ?_
    refine Pl.join_intro ?_
    by_cases hal : a.Alarms = b.Alarms
    · refine (Pl.ite_neg (by simp [hal])).2 ?_
      by_cases hl : a.Mod.length = b.Mod.length
      · refine (Pl.ite_neg (by simp [hl])).2 (eq_loop hl hm ?_)
        have : decide (a.Mod = b.Mod) = decide (a = b) := by
          rw [Bool.eq_iff_iff]; simp [T_api_Summary.ext_iff', hal, he, hr]
        rw [this]; exact h
      · refine (Pl.ite_pos (by simp; omega)).2 (no fun e => hl (e ▸ rfl))
    · refine (Pl.ite_pos (by simp [hal])).2 ?_
      exact (Pl.ite_pos rfl).2 (no fun e => hal (e ▸ rfl))
  by_cases he : a.Ends = b.Ends
  · refine (Pl.ite_neg (by simp [he])).2 ?_
    by_cases hr : a.Ret = b.Ret
    · have := go1 he hr
      simpa [hr] using this
    · refine Pl.join_intro ?_
      refine (Pl.ite_pos (by simp [hr])).2 ?_
      refine Pl.join_intro ?_
      exact (Pl.ite_pos rfl).2 ((Pl.ite_pos rfl).2 (no fun e => hr (e ▸ rfl)))
  · refine (Pl.ite_pos (by simpa using he)).2 ?_
    refine Pl.join_intro ?_
    refine (Pl.ite_pos rfl).2 ?_
    refine Pl.join_intro ?_
    exact (Pl.ite_pos rfl).2 ((Pl.ite_pos rfl).2 (no fun e => he (e ▸ rfl)))
theorem s_eqAl {a b : List T_api_Alarm} (ha : a.length ≤ 1000000) {R : Bool → Prop} (h : R (decide (a = b))) : p_slices_Equal_api_Alarm_api_Alarm a b R := s_hAlarms ha h
theorem s_eqNm {a b : List T_api_Named} (ha : a.length ≤ 1000000) {R : Bool → Prop} (h : R (decide (a = b))) : p_slices_Equal_api_Named_api_Named a b R := by
  unfold p_slices_Equal_api_Named_api_Named
  by_cases hl : a.length = b.length
  · refine (Pl.ite_neg (fun h => len_ne.1 h hl)).2 (eq_loop hl ha h)
  · refine (Pl.ite_pos (len_ne.2 hl)).2 ?_
    have : ¬ a = b := fun e => hl (e ▸ rfl)
    simpa [this] using h
theorem s_Same {a b : T_api_Summary} (ha : a.Alarms.length ≤ 1000000) (hm : a.Mod.length ≤ 1000000) {R : Bool → Prop} (h : R (decide (a = b))) : p_digest_Same a b R := by
  have no : ¬ a = b → R false := fun e => by simpa [e] using h
  unfold p_digest_Same
  refine Pl.join_intro ?_
  have f1 : ∀ {c : Bool}, c = false → ¬ a = b → Pl.join (fun x_3 : Bool => Pl.join (fun x_4 : Bool => R x_4) fun kp_2 => Pl.ite (x_3 = true) (p_slices_Equal_api_Named_api_Named a.Mod b.Mod fun r_4 => kp_2 r_4) (kp_2 false))
      fun kp_1 => Pl.ite (c = true) (p_slices_Equal_api_Alarm_api_Alarm a.Alarms b.Alarms fun r_5 => kp_1 r_5) (kp_1 false) := by
    rintro c rfl hne
    refine Pl.join_intro ((Pl.ite_neg (by simp)).2 ?_)
    exact Pl.join_intro ((Pl.ite_neg (by simp)).2 (no hne))
  by_cases he : a.Ends = b.Ends
  · refine (Pl.ite_pos (by simp [he])).2 ?_
    by_cases hr : a.Ret = b.Ret
    · refine Pl.join_intro ((Pl.ite_pos (by simp [hr])).2 ?_)
      refine s_eqAl ha ?_
      refine Pl.join_intro ?_
      by_cases hal : a.Alarms = b.Alarms
      · refine (Pl.ite_pos (by simp [hal])).2 (s_eqNm hm ?_)
        have : decide (a.Mod = b.Mod) = decide (a = b) := by
          rw [Bool.eq_iff_iff]; simp [T_api_Summary.ext_iff', hal, he, hr]
        show R _
        rw [this]; exact h
      · exact (Pl.ite_neg (by simp [hal])).2 (no fun e => hal (e ▸ rfl))
    · exact f1 (by simp [hr]) fun e => hr (e ▸ rfl)
  · exact (Pl.ite_neg (by simpa using he)).2 (f1 rfl fun e => he (e ▸ rfl))
theorem s_Ssame {a b : Old.Sm} (ha : a.al.length ≤ 1000000) (hm : a.mod.length ≤ 1000000) (hra : a.ret.Ok) (hrb : b.ret.Ok) (hva : ∀ p ∈ a.mod, p.2.Ok) (hvb : ∀ p ∈ b.mod, p.2.Ok) {R : Bool → Prop} (h : R (decide (a = b))) :
    p_augurref12_Ssame (smU a) (smU b) R := by
  have no : ¬ a = b → R false := fun e => by simpa [e] using h
  unfold p_augurref12_Ssame
  refine Pl.join_intro ?_
  by_cases he : a.ends = b.ends
  · refine (Pl.ite_neg (by simp [smU, he])).2 ?_
    refine ⟨ivU a.ret, s_Norm hra rfl, ivU b.ret, s_Norm hrb rfl, ?_⟩
    refine Pl.join_intro ?_
    by_cases hr : a.ret = b.ret
    · refine (Pl.ite_neg (by simp [hr])).2 ?_
      refine Pl.join_intro ?_
      by_cases hl : a.al.length = b.al.length
      · refine (Pl.ite_neg (by simp [smU, hl])).2 ?_
        by_cases hml : a.mod.length = b.mod.length
        · refine Pl.join_intro ((Pl.ite_neg (by simp [smU, hml])).2 ?_)
          -- the alarms
          refine Pl.loop1_count 0 a.al.length (fun i => ∀ j, j < i → a.al[j]? = b.al[j]?) (Nat.zero_le _) (fun j hj => absurd hj (by omega)) ?_
          intro i next hi hI hnx
          by_cases hlt : i < a.al.length
          · refine (Pl.ite_pos (by simpa [smU] using hlt)).2 ?_
            obtain ⟨u, hu⟩ : ∃ u, a.al[i]? = some u := ⟨_, List.getElem?_eq_getElem hlt⟩
            obtain ⟨v, hv⟩ : ∃ v, b.al[i]? = some v := ⟨_, List.getElem?_eq_getElem (by omega)⟩
            refine Pl.get_nat (a := alU u) (by simp [smU, hu]) (Pl.get_nat (a := alU v) (by simp [smU, hv]) ?_)
            by_cases e : u = v
            · refine (Pl.ite_neg (by simp [e])).2 ?_
              rw [wrap_inc hlt (by omega)]
              refine hnx hlt fun j hj => ?_
              rcases Nat.lt_or_ge j i with h1 | h1
              · exact hI j h1
              · have : j = i := by omega
                subst this
                rw [hu, hv, e]
            · refine (Pl.ite_pos (fun h => e (alU_inj.1 h))).2 (no fun hab => e ?_)
              rw [hab, hv] at hu; exact (Option.some.inj hu).symm
          · refine (Pl.ite_neg (by simpa [smU] using hlt)).2 ?_
            have hal : a.al = b.al := eq_take hl fun j hj => hI j (by omega)
            -- the cells
            refine Pl.loop1_count 0 a.mod.length (fun i => ∀ j, j < i → a.mod[j]? = b.mod[j]?) (Nat.zero_le _) (fun j hj => absurd hj (by omega)) ?_
            intro i next hi hI hnx
            by_cases hlt : i < a.mod.length
            · refine (Pl.ite_pos (by simpa [smU] using hlt)).2 ?_
              obtain ⟨u, hu⟩ : ∃ u, a.mod[i]? = some u := ⟨_, List.getElem?_eq_getElem hlt⟩
              obtain ⟨v, hv⟩ : ∃ v, b.mod[i]? = some v := ⟨_, List.getElem?_eq_getElem (by omega)⟩
              have gu : (smU a).Mod[i]? = some (nmU' u) := by simp [smU, hu]
              have gv : (smU b).Mod[i]? = some (nmU' v) := by simp [smU, hv]
              refine Pl.get_nat gu (Pl.get_nat gv ?_)
              refine Pl.join_intro ?_
              have hne : ¬ u = v → R false := fun e => no fun hab => e (by rw [hab, hv] at hu; exact (Option.some.inj hu).symm)
              by_cases e : u.1 = v.1
              · refine (Pl.ite_neg (by simpa [nmU'] using e)).2 ?_
                refine Pl.get_nat gu ⟨ivU u.2, s_Norm (hva u (List.mem_of_getElem? hu)) rfl, Pl.get_nat gv ⟨ivU v.2, s_Norm (hvb v (List.mem_of_getElem? hv)) rfl, ?_⟩⟩
                by_cases e2 : u.2 = v.2
                · refine (Pl.ite_neg (by simp [e2])).2 ?_
                  rw [wrap_inc hlt (by omega)]
                  refine hnx hlt fun j hj => ?_
                  rcases Nat.lt_or_ge j i with h1 | h1
                  · exact hI j h1
                  · have : j = i := by omega
                    subst this
                    rw [hu, hv, Prod.ext e e2]
                · refine (Pl.ite_pos (by simpa [ivU_eq] using e2)).2 (hne fun h => e2 (h ▸ rfl))
              · refine (Pl.ite_pos (by simpa [nmU'] using e)).2 ((Pl.ite_pos rfl).2 (hne fun h => e (h ▸ rfl)))
            · refine (Pl.ite_neg (by simpa [smU] using hlt)).2 ?_
              have hmd : a.mod = b.mod := eq_take hml fun j hj => hI j (by omega)
              have : a = b := by
                obtain ⟨a1, a2, a3, a4⟩ := a
                obtain ⟨b1, b2, b3, b4⟩ := b
                simp_all
              simpa [this] using h
        · exact Pl.join_intro ((Pl.ite_pos (by simp [smU]; omega)).2 (no fun e => hml (e ▸ rfl)))
      · refine (Pl.ite_pos (by simp [smU]; omega)).2 ?_
        exact Pl.join_intro ((Pl.ite_pos rfl).2 (no fun e => hl (e ▸ rfl)))
    · refine (Pl.ite_pos (by simp [ivU_eq, hr])).2 ?_
      refine Pl.join_intro ((Pl.ite_pos rfl).2 ?_)
      exact Pl.join_intro ((Pl.ite_pos rfl).2 (no fun e => hr (e ▸ rfl)))
  · refine (Pl.ite_pos (by simpa [smU] using he)).2 ?_
    refine Pl.join_intro ((Pl.ite_pos rfl).2 ?_)
    refine Pl.join_intro ((Pl.ite_pos rfl).2 ?_)
    exact Pl.join_intro ((Pl.ite_pos rfl).2 (no fun e => he (e ▸ rfl)))
end Go.Proofs.YtaibfbakhiainaaGreat
namespace Go.Proofs.YtaibfbakhiainaaGreat
open Go Go.Sh Go.Sx

/-- The names that there are. -/
def nms : List Str := [[97], [98], [99], [100]]
/-- A summary such as these laws make. -/
structure Vd (s : Old.Sm) : Prop where
  al : Srt Old.ordA s.al
  ac : ∀ p ∈ s.al, 0 ≤ p.1 ∧ 0 ≤ p.2 ∧ p.2 ≤ 5 ∧ p.1 * 6 + p.2 ≤ 255
  ret : s.ret.Ok
  nd : Srt ordS (s.mod.map (·.1))
  nm : ∀ p ∈ s.mod, p.1 ∈ nms
  iv : ∀ p ∈ s.mod, p.2.Ok
theorem up_len {n : Nat} : ∀ (l : List Nat) (b : Nat), l.Pairwise (· < ·) → (∀ x ∈ l, b ≤ x ∧ x < n) → l.length ≤ n - b
  | [], _, _, _ => by simp
  | x :: l, b, hp, hb => by
    rw [List.pairwise_cons] at hp
    have h1 := hb x (by simp)
    have := up_len l (x + 1) hp.2 fun y hy => ⟨hp.1 y hy, (hb y (List.mem_cons_of_mem _ hy)).2⟩
    simp only [List.length_cons]
    omega
theorem al_len {l : List (Int × Int)} (hs : Srt Old.ordA l) (hc : ∀ p ∈ l, 0 ≤ p.1 ∧ 0 ≤ p.2 ∧ p.2 ≤ 5 ∧ p.1 * 6 + p.2 ≤ 255) : l.length ≤ 256 := by
  have h1 : (l.map fun p => (p.1 * 6 + p.2).toNat).Pairwise (· < ·) := by
    rw [List.pairwise_map]
    refine List.Pairwise.imp_of_mem ?_ hs
    intro a b ha hb hab
    have h2 := hc a ha
    have h3 := hc b hb
    have := (ordA_lt a b).1 hab
    omega
  have := up_len (n := 256) _ 0 h1 fun x hx => by
    obtain ⟨p, hp, rfl⟩ := List.mem_map.1 hx
    have := hc p hp
    omega
  simpa using this
theorem Vd.alen {s : Old.Sm} (v : Vd s) : s.al.length ≤ 256 := al_len v.al v.ac
theorem nms_len {l : List Str} (hs : Srt ordS l) (hc : ∀ k ∈ l, k ∈ nms) : l.length ≤ 4 := by
  let code : Str → Nat := fun k => (k.headD 0).toNat - 97
  have h1 : (l.map code).Pairwise (· < ·) := by
    rw [List.pairwise_map]
    refine List.Pairwise.imp_of_mem ?_ hs
    intro a b ha hb hab
    have h2 := hc a ha
    have h3 := hc b hb
    simp only [nms, List.mem_cons, List.not_mem_nil, or_false] at h2 h3
    have hab : ltS a b = true := hab
    rcases h2 with rfl | rfl | rfl | rfl <;> rcases h3 with rfl | rfl | rfl | rfl <;> revert hab <;> decide
  have := up_len (n := 4) _ 0 h1 fun x hx => by
    obtain ⟨p, hp, rfl⟩ := List.mem_map.1 hx
    have := hc p hp
    simp only [nms, List.mem_cons, List.not_mem_nil, or_false] at this
    rcases this with rfl | rfl | rfl | rfl <;> decide
  simpa using this
theorem Vd.mlen {s : Old.Sm} (v : Vd s) : s.mod.length ≤ 4 := by
  have := nms_len v.nd fun k hk => by
    obtain ⟨p, hp, rfl⟩ := List.mem_map.1 hk
    exact v.nm p hp
  simpa using this
theorem nms_short {k : Str} (h : k ∈ nms) : k.length = 1 := by
  simp only [nms, List.mem_cons, List.not_mem_nil, or_false] at h
  rcases h with rfl | rfl | rfl | rfl <;> rfl
theorem get_mem {β : Type} {l : List (Str × β)} {k : Str} {v : β} (h : Sh.get l k = some v) : (k, v) ∈ l := by
  induction l with
  | nil => cases h
  | cons p l ih =>
    obtain ⟨n, x⟩ := p
    unfold Sh.get at h
    by_cases e : n = k
    · rw [if_pos e] at h; cases h; subst e; simp
    · rw [if_neg e] at h; exact List.mem_cons_of_mem _ (ih h)
theorem gt_ok {l : List (Str × Iv)} (h : ∀ p ∈ l, p.2.Ok) (k : Str) : (Old.gt l k).Ok := by
  unfold Old.gt
  cases e : Sh.get l k with
  | none => trivial
  | some v => exact h _ (get_mem e)
theorem Vd.nmOk {s : Old.Sm} (v : Vd s) : NmOk s.mod :=
  ⟨by have := v.mlen; omega, v.nd.nodup, fun p hp => by have := nms_short (v.nm p hp); omega, gt_ok v.iv⟩

/-! ### Join, Widen -/
def sjn (U : Iv → Iv → Iv) (a b : Old.Sm) : Old.Sm := ⟨Old.unA a.al b.al, a.ends || b.ends, U a.ret b.ret, Old.mdU U a.mod b.mod⟩
theorem mdU_names (U : Iv → Iv → Iv) (a b : List (Str × Iv)) : (Old.mdU U a b).map (·.1) = Old.nmU a b := by simp [Old.mdU, Function.comp_def]
theorem sjn_vd {U : Iv → Iv → Iv} (hU : ∀ x y : Iv, x.Ok → y.Ok → (U x y).Ok) {a b : Old.Sm} (ha : Vd a) (hb : Vd b) : Vd (sjn U a b) where
  al := Old.srt_unA _ _
  ac := fun p hp => ((Old.mem_unA p _ _).1 hp).elim (ha.ac p) (hb.ac p)
  ret := hU _ _ ha.ret hb.ret
  nd := by
    show Srt ordS ((Old.mdU U a.mod b.mod).map (·.1))
    rw [mdU_names]; exact Old.srt_nmU _ _
  nm := fun p hp => by
    have : p.1 ∈ (Old.mdU U a.mod b.mod).map (·.1) := List.mem_map.2 ⟨p, hp, rfl⟩
    rw [mdU_names, Old.mem_nmU] at this
    rcases this with h | h
    · obtain ⟨q, hq, e⟩ := List.mem_map.1 h
      rw [← e]; exact ha.nm q hq
    · obtain ⟨q, hq, e⟩ := List.mem_map.1 h
      rw [← e]; exact hb.nm q hq
  iv := fun p hp => by
    obtain ⟨k, _, rfl⟩ := List.mem_map.1 hp
    exact hU _ _ (gt_ok ha.iv k) (gt_ok hb.iv k)
theorem s_both {U : Iv → Iv → Iv} {pf : T_api_Ival → T_api_Ival → (T_api_Ival → Prop) → Prop} (hU : ∀ x y : Iv, x.Ok → y.Ok → (U x y).Ok) (hpf : ∀ x y : Iv, x.Ok → y.Ok → ∀ R : T_api_Ival → Prop, R (ivU (U x y)) → pf (ivU x) (ivU y) R)
    {a b : Old.Sm} (ha : Vd a) (hb : Vd b) {R : T_api_Summary → Prop} (h : R (smU (sjn U a b))) : p_digest_both (smU a) (smU b) pf R := by
  unfold p_digest_both
  have l1 := ha.alen
  have l2 := hb.alen
  refine ⟨by simp [smU]; omega, by simp [smU]; omega, ?_⟩
  refine Pl.join_intro ?_
  have key : ∀ e : Bool, e = (a.ends || b.ends) → pf (smU a).Ret (smU b).Ret fun r_6 => p_digest_digest_cells ⟨⟨alsU (smU a).Alarms (smU b).Alarms, e, r_6, []⟩⟩ (smU a).Mod (smU b).Mod pf fun b_1 => R b_1.Summary := by
    rintro e rfl
    refine hpf _ _ ha.ret hb.ret _ ?_
    refine ⟨U, a.mod, b.mod, hU, fun x y hx hy => hpf x y hx hy _ rfl, rfl, rfl, ha.nmOk, hb.nmOk, ?_⟩
    have : alsU (smU a).Alarms (smU b).Alarms = (Old.unA a.al b.al).map alU := by
      simp [alsU, smU, Function.comp_def, alP_alU]
    show R ⟨alsU (smU a).Alarms (smU b).Alarms, _, _, _⟩
    rw [this]; exact h
  by_cases he : a.ends = true
  · refine (Pl.ite_pos he).2 (key true (by simp [he]))
  · refine (Pl.ite_neg he).2 (key b.ends (by simp at he; simp [he]))
theorem s_Join {a b : Old.Sm} (ha : Vd a) (hb : Vd b) {R : T_api_Summary → Prop} (h : R (smU (sjn jn a b))) : p_digest_Join (smU a) (smU b) R :=
  s_both (fun x y => jn_ok) (fun x y hx hy R h => s_Join1 hx hy h) ha hb h
theorem s_Widen {a b : Old.Sm} (ha : Vd a) (hb : Vd b) {R : T_api_Summary → Prop} (h : R (smU (sjn wd a b))) : p_digest_Widen (smU a) (smU b) R :=
  s_both (fun x y => wd_ok) (fun x y hx hy R h => s_ival_Widen hx hy h) ha hb h
theorem jnOk (x y : Iv) : x.Ok → y.Ok → (jn x y).Ok := jn_ok
theorem wdOk (x y : Iv) : x.Ok → y.Ok → (wd x y).Ok := wd_ok
theorem s_Sm {a b : Old.Sm} (ha : Vd a) {R : Bool → Prop} (h : R (decide (a = b))) : p_digest_Same (smU a) (smU b) R := by
  have l1 := ha.alen
  have l2 := ha.mlen
  refine s_Same (by simp [smU]; omega) (by simp [smU]; omega) ?_
  have : decide (smU a = smU b) = decide (a = b) := by rw [Bool.eq_iff_iff]; simp [smU_eq]
  rw [this]; exact h
theorem s_hSm {a b : Old.Sm} (ha : Vd a) {R : Bool → Prop} (h : R (decide (a = b))) : p_augurhelp_Summary (smU a) (smU b) R := by
  have l1 := ha.alen
  have l2 := ha.mlen
  refine s_hSummary (by simp [smU]; omega) (by simp [smU]; omega) ?_
  have : decide (smU a = smU b) = decide (a = b) := by rw [Bool.eq_iff_iff]; simp [smU_eq]
  rw [this]; exact h
theorem s_Leq {a b : Old.Sm} (ha : Vd a) (hb : Vd b) {R : Bool → Prop} (h : R (decide (sjn jn a b = b))) : p_digest_Leq (smU a) (smU b) R :=
  s_Join ha hb (s_Sm (sjn_vd jnOk ha hb) h)
end Go.Proofs.YtaibfbakhiainaaGreat
namespace Go.Proofs.YtaibfbakhiainaaGreat
open Go Go.Sh Go.Sx

/-- Numbers that came in. -/
structure RawOk (r : T_augurlaw19_Raw) : Prop where
  al : ∀ a ∈ r.Alarms, 0 ≤ a ∧ a ≤ 255
  lo : minI ≤ r.Lo ∧ r.Lo ≤ maxI
  hi : minI ≤ r.Hi ∧ r.Hi ≤ maxI
  md : ∀ c ∈ r.Mod, (0 ≤ c.N ∧ c.N ≤ 255) ∧ (minI ≤ c.Lo ∧ c.Lo ≤ maxI) ∧ (minI ≤ c.Hi ∧ c.Hi ≤ maxI)
def alOf (a : Int) : Int × Int := (Int.tdiv a 6, Int.tmod a 6)
def nmOf (n : Int) : Str := (([97, 98, 99, 100] : Str).take ((Int.tmod n 4).toNat + 1)).drop (Int.tmod n 4).toNat
def nsOf (l : List T_augurlaw19_Cell) : List Str := l.foldl (fun a c => ins ordS (nmOf c.N) a) []
def madeS (r : T_augurlaw19_Raw) : Old.Sm :=
  if r.Ends then ⟨insA [] (r.Alarms.map alOf), true, some (min r.Lo r.Hi, max r.Lo r.Hi), ((nsOf r.Mod).zip r.Mod).map fun x => (x.1, some (min x.2.Lo x.2.Hi, max x.2.Lo x.2.Hi))⟩
  else ⟨insA [] (r.Alarms.map alOf), false, none, []⟩
theorem tm4 {n : Int} (h : 0 ≤ n) : 0 ≤ Int.tmod n 4 ∧ Int.tmod n 4 ≤ 3 := by
  have h1 := Int.tmod_nonneg 4 h
  have h2 := Int.tmod_lt_of_pos n (show (0 : Int) < 4 by decide)
  omega
theorem tm6 {n : Int} (h : 0 ≤ n) : 0 ≤ Int.tmod n 6 ∧ Int.tmod n 6 ≤ 5 := by
  have h1 := Int.tmod_nonneg 6 h
  have h2 := Int.tmod_lt_of_pos n (show (0 : Int) < 6 by decide)
  omega
theorem nmOf_mem {n : Int} (h : 0 ≤ n) : nmOf n ∈ nms := by
  obtain ⟨h1, h2⟩ := tm4 h
  unfold nmOf
  generalize Int.tmod n 4 = k at *
  obtain rfl | rfl | rfl | rfl : k = 0 ∨ k = 1 ∨ k = 2 ∨ k = 3 := by omega
  all_goals decide
theorem wrap_u8 {i : Int} (h1 : 0 ≤ i) (h2 : i ≤ 255) : IntKind.wrap .u8 i = i := IntWalk.u8_in i ⟨h1, h2⟩
theorem srt_insA {d : List (Int × Int)} (hd : Srt Old.ordA d) : ∀ m, Srt Old.ordA (insA d m) := by
  intro m
  induction m generalizing d with
  | nil => exact hd
  | cons a m ih => exact ih (srt_ins Old.ordA a d hd)
theorem mem_insA (x : Int × Int) : ∀ (m d : List (Int × Int)), x ∈ insA d m ↔ x ∈ d ∨ x ∈ m
  | [], d => by simp [insA]
  | a :: m, d => by
    have := mem_insA x m (ins Old.ordA a d)
    simp only [insA, List.foldl_cons] at this ⊢
    rw [this, mem_ins]
    simp only [List.mem_cons]
    constructor
    · rintro ((h | h) | h)
      · exact .inr (.inl h)
      · exact .inl h
      · exact .inr (.inr h)
    · rintro (h | h | h)
      · exact .inl (.inr h)
      · exact .inl (.inl h)
      · exact .inr h
theorem nsOf_fold (l : List T_augurlaw19_Cell) (d : List Str) (hd : Srt ordS d) (hm : ∀ k ∈ d, k ∈ nms) (hl : ∀ c ∈ l, 0 ≤ c.N) :
    Srt ordS (l.foldl (fun a c => ins ordS (nmOf c.N) a) d) ∧ ∀ k ∈ l.foldl (fun a c => ins ordS (nmOf c.N) a) d, k ∈ nms := by
  induction l generalizing d with
  | nil => exact ⟨hd, hm⟩
  | cons c l ih =>
    refine ih _ (srt_ins ordS _ _ hd) (fun k hk => ?_) fun c hc => hl c (List.mem_cons_of_mem _ hc)
    rcases (mem_ins ordS _ _ _).1 hk with rfl | h
    · exact nmOf_mem (hl c (by simp))
    · exact hm k h
theorem nsOf_len (l : List T_augurlaw19_Cell) (d : List Str) : (l.foldl (fun a c => ins ordS (nmOf c.N) a) d).length ≤ d.length + l.length := by
  induction l generalizing d with
  | nil => simp
  | cons c l ih =>
    have := ih (ins ordS (nmOf c.N) d)
    have h2 := ins_len ordS (nmOf c.N) d
    simp only [List.foldl_cons, List.length_cons]
    omega
theorem mm_ok {a b : Int} (ha : minI ≤ a ∧ a ≤ maxI) (hb : minI ≤ b ∧ b ≤ maxI) : Iv.Ok (some (min a b, max a b)) := by
  refine ⟨?_, ?_, ?_⟩ <;> unfold minI maxI at * <;> omega
theorem madeS_vd {r : T_augurlaw19_Raw} (h : RawOk r) : Vd (madeS r) := by
  have ha : Srt Old.ordA (insA [] (r.Alarms.map alOf)) := srt_insA List.Pairwise.nil _
  have hc : ∀ p ∈ insA [] (r.Alarms.map alOf), 0 ≤ p.1 ∧ 0 ≤ p.2 ∧ p.2 ≤ 5 ∧ p.1 * 6 + p.2 ≤ 255 := by
    intro p hp
    rw [mem_insA] at hp
    rcases hp with hp | hp
    · cases hp
    · obtain ⟨a, haa, rfl⟩ := List.mem_map.1 hp
      have h1 := h.al a haa
      have h2 := tm6 h1.1
      have h3 := Int.tmod_add_mul_tdiv a 6
      have h4 := Int.tdiv_nonneg h1.1 (show (0 : Int) ≤ 6 by decide)
      simp only [alOf]
      omega
  unfold madeS
  split
  · obtain ⟨n1, n2⟩ := nsOf_fold r.Mod [] List.Pairwise.nil (by simp) fun c hc => (h.md c hc).1.1
    have hz : (((nsOf r.Mod).zip r.Mod).map fun x => (x.1, (some (min x.2.Lo x.2.Hi, max x.2.Lo x.2.Hi) : Iv))).map (·.1) = nsOf r.Mod := by
      rw [List.map_map]
      show ((nsOf r.Mod).zip r.Mod).map Prod.fst = _
      rw [List.map_fst_zip]
      have := nsOf_len r.Mod []
      simpa [nsOf] using this
    refine ⟨ha, hc, mm_ok h.lo h.hi, ?_, ?_, ?_⟩
    · show Srt ordS (List.map _ _)
      rw [hz]; exact n1
    · intro p hp
      have : p.1 ∈ (((nsOf r.Mod).zip r.Mod).map fun x => (x.1, (some (min x.2.Lo x.2.Hi, max x.2.Lo x.2.Hi) : Iv))).map (·.1) := List.mem_map.2 ⟨p, hp, rfl⟩
      rw [hz] at this
      exact n2 _ this
    · intro p hp
      obtain ⟨x, hx, rfl⟩ := List.mem_map.1 hp
      have := h.md x.2 (List.of_mem_zip hx).2
      exact mm_ok this.2.1 this.2.2
  · exact ⟨ha, hc, trivial, List.Pairwise.nil, by simp, by simp⟩
theorem s_made {r : T_augurlaw19_Raw} (h : RawOk r) (hl : r.Alarms.length ≤ 1000) (hm : r.Mod.length ≤ 1000) {R : T_api_Summary → Prop} (hR : R (smU (madeS r))) : p_augurlaw19_made r R := by
  unfold p_augurlaw19_made
  refine Pl.loop2_count 0 r.Alarms.length (fun i l => l = (insA [] ((r.Alarms.take i).map alOf)).map alU) (Nat.zero_le _) rfl ?_
  rintro i l next hi rfl hnx
  by_cases hlt : i < r.Alarms.length
  · refine (Pl.ite_pos (int_lt.2 hlt)).2 ?_
    obtain ⟨a, ha⟩ : ∃ a, r.Alarms[i]? = some a := ⟨_, List.getElem?_eq_getElem hlt⟩
    have h1 := h.al a (List.mem_of_getElem? ha)
    refine Pl.get_nat ha ⟨by decide, Pl.get_nat ha ⟨by decide, ?_⟩⟩
    have h2 := tm6 h1.1
    have h3 := Int.tmod_add_mul_tdiv a 6
    have h4 := Int.tdiv_nonneg h1.1 (show (0 : Int) ≤ 6 by decide)
    rw [wrap_u8 h4 (by omega), wrap_i64 (by omega) (by omega), wrap_i64 (by omega) (by omega)]
    have hlen := insA_len [] ((r.Alarms.take i).map alOf)
    rw [List.length_map, List.length_take] at hlen
    refine s_AddAlarms (d := insA [] ((r.Alarms.take i).map alOf)) (m := [alOf a]) (by simp only [List.length_nil] at hlen; omega) (by simp) ?_
    show next _ _
    rw [wrap_inc hlt (by omega)]
    refine hnx _ hlt ?_
    rw [List.take_add_one, ha]
    simp [insA]
  · have : i = r.Alarms.length := by omega
    subst this
    rw [List.take_length] at *
    refine (Pl.ite_neg (by simp)).2 ?_
    by_cases he : r.Ends = true
    · refine (Pl.ite_neg (by simp [he])).2 ?_
      refine s_refOf ?_
      have hle : min r.Lo r.Hi ≤ max r.Lo r.Hi := by omega
      rw [mkI_ok hle]
      suffices hs : ∀ k, k = 0 → Pl.loop2 ([] : List Str) (k : Int) _ from hs 0 rfl
      rintro k rfl
      refine ⟨fun n l x => ∃ i : Nat, x = i ∧ i ≤ r.Mod.length ∧ n = r.Mod.length - i ∧ l = nsOf (r.Mod.take i), r.Mod.length, ⟨0, rfl, Nat.zero_le _, rfl, rfl⟩, ?_⟩
      rintro n l x ⟨i, rfl, hi, rfl, rfl⟩
      by_cases hlt : i < r.Mod.length
      · refine (Pl.ite_pos (int_lt.2 hlt)).2 ?_
        obtain ⟨c, hc⟩ : ∃ c, r.Mod[i]? = some c := ⟨_, List.getElem?_eq_getElem hlt⟩
        have hn := (h.md c (List.mem_of_getElem? hc)).1
        obtain ⟨t1, t2⟩ := tm4 hn.1
        refine Pl.get_nat hc ⟨by decide, Pl.get_nat hc ⟨by decide, ?_⟩⟩
        rw [wrap_u8 (by omega) (by omega)]
        refine ⟨t1, by omega, by simp; omega, _, rfl, ?_⟩
        have hs : (([97, 98, 99, 100] : Str).take (Int.tmod c.N 4 + 1).toNat).drop (Int.tmod c.N 4).toNat = nmOf c.N := by
          unfold nmOf
          rw [show (Int.tmod c.N 4 + 1).toNat = (Int.tmod c.N 4).toNat + 1 by omega]
        rw [hs]
        have hnl := nsOf_len (r.Mod.take i) []
        rw [List.length_take] at hnl
        refine s_Add (by unfold nsOf; simp at hnl; omega) ?_
        refine ⟨r.Mod.length - (i + 1), by omega, i + 1, wrap_inc hlt (by omega), by omega, rfl, ?_⟩
        unfold nsOf
        rw [List.take_add_one, hc]
        simp
      · have : i = r.Mod.length := by omega
        subst this
        rw [List.take_length] at *
        refine (Pl.ite_neg (by simp)).2 ?_
        have hnl := nsOf_len r.Mod []
        have hns : (nsOf r.Mod).length ≤ r.Mod.length := by simpa [nsOf] using hnl
        generalize hN : nsOf r.Mod = ns at *
        let ml : List (Str × Iv) := (ns.zip r.Mod).map fun x => (x.1, some (min x.2.Lo x.2.Hi, max x.2.Lo x.2.Hi))
        have hml : ml.length = ns.length := by simp [ml]; omega
        refine Pl.loop2_count 0 ns.length (fun i l => l = (ml.take i).map nmU') (Nat.zero_le _) (by simp) ?_
        rintro i l next hi rfl hnx
        by_cases hlt : i < ns.length
        · refine (Pl.ite_pos (int_lt.2 hlt)).2 ?_
          obtain ⟨s, hs⟩ : ∃ s, ns[i]? = some s := ⟨_, List.getElem?_eq_getElem hlt⟩
          obtain ⟨c, hc⟩ : ∃ c, r.Mod[i]? = some c := ⟨_, List.getElem?_eq_getElem (by omega)⟩
          refine Pl.get_nat hs (Pl.get_nat hc (Pl.get_nat hc (Pl.get_nat hc (Pl.get_nat hc ?_))))
          refine s_refOf ?_
          have hle : min c.Lo c.Hi ≤ max c.Lo c.Hi := by omega
          rw [mkI_ok hle]
          refine Pl.app_intro (by simp; omega) ?_
          rw [wrap_inc hlt (by omega)]
          refine hnx _ hlt ?_
          have hx : ml[i]? = some (s, some (min c.Lo c.Hi, max c.Lo c.Hi)) := by
            have hz : (ns.zip r.Mod)[i]? = some (s, c) := List.getElem?_zip_eq_some.2 ⟨hs, hc⟩
            simp [ml, hz]
          rw [List.take_add_one, hx]
          simp [nmU']
        · have : i = ns.length := by omega
          subst this
          refine (Pl.ite_neg (by simp)).2 ?_
          rw [List.take_of_length_le (by omega)]
          have : smU (madeS r) = ⟨(insA [] (r.Alarms.map alOf)).map alU, true, ivU (some (min r.Lo r.Hi, max r.Lo r.Hi)), ml.map nmU'⟩ := by
            unfold madeS smU
            rw [if_pos he, hN]
          rw [this] at hR
          exact hR
    · refine (Pl.ite_pos (by simpa using he)).2 ?_
      have : smU (madeS r) = ⟨(insA [] (r.Alarms.map alOf)).map alU, false, ⟨false, 0, 0⟩, []⟩ := by
        unfold madeS smU
        rw [if_neg he]; rfl
      rw [this] at hR
      exact hR
/-! ### The document's join -/
theorem insA_unA {a b : List (Int × Int)} (ha : Srt Old.ordA a) : insA a b = Old.unA a b :=
  Srt.unique Old.ordA (srt_insA ha b) (Old.srt_unA a b) fun x => by rw [mem_insA, Old.mem_unA]
def insS (d : List Str) (m : List Str) : List Str := m.foldl (fun a k => ins ordS k a) d
theorem insS_len (d m : List Str) : (insS d m).length ≤ d.length + m.length := by
  induction m generalizing d with
  | nil => simp [insS]
  | cons c l ih =>
    have := ih (ins ordS c d)
    have h2 := ins_len ordS c d
    simp only [insS, List.foldl_cons, List.length_cons] at this ⊢
    omega
theorem srt_insS {d : List Str} (hd : Srt ordS d) : ∀ m, Srt ordS (insS d m) := by
  intro m
  induction m generalizing d with
  | nil => exact hd
  | cons a m ih => exact ih (srt_ins ordS a d hd)
theorem mem_insS (x : Str) : ∀ (m d : List Str), x ∈ insS d m ↔ x ∈ d ∨ x ∈ m
  | [], d => by simp [insS]
  | a :: m, d => by
    have := mem_insS x m (ins ordS a d)
    simp only [insS, List.foldl_cons] at this ⊢
    rw [this, mem_ins]
    simp only [List.mem_cons]
    constructor
    · rintro ((h | h) | h)
      · exact .inr (.inl h)
      · exact .inl h
      · exact .inr (.inr h)
    · rintro (h | h | h)
      · exact .inl (.inr h)
      · exact .inl (.inl h)
      · exact .inr h
/-- A loop that adds the names of a list of cells. -/
theorem names_loop {d : List Str} {m : List (Str × Iv)} (hd : d.length ≤ 1000) (hm : m.length ≤ 1000) {E : List Str → Prop} (h : E (insS d (m.map (·.1)))) :
    Pl.loop2 d 0 fun l x next => Pl.ite (x < (List.length (m.map nmU') : Int)) (Pl.get (m.map nmU') x fun a => p_augurref10_Add l a.Name fun r => next r (IntKind.wrap .i64 (x + 1))) (E l) := by
  suffices hs : ∀ k, k = 0 → Pl.loop2 d (k : Int) _ from hs 0 rfl
  rintro k rfl
  refine ⟨fun n l x => ∃ i : Nat, x = i ∧ i ≤ m.length ∧ n = m.length - i ∧ l = insS d ((m.take i).map (·.1)), m.length, ⟨0, rfl, Nat.zero_le _, rfl, rfl⟩, ?_⟩
  rintro n l x ⟨i, rfl, hi, rfl, rfl⟩
  by_cases hlt : i < m.length
  · refine (Pl.ite_pos (by simpa using hlt)).2 ?_
    obtain ⟨c, hc⟩ : ∃ c, m[i]? = some c := ⟨_, List.getElem?_eq_getElem hlt⟩
    refine Pl.get_nat (a := nmU' c) (by simp [hc]) ?_
    have hl := insS_len d ((m.take i).map (·.1))
    rw [List.length_map, List.length_take] at hl
    refine s_Add (by omega) ?_
    refine ⟨m.length - (i + 1), by omega, i + 1, wrap_inc hlt (by omega), by omega, rfl, ?_⟩
    rw [List.take_add_one, hc]
    simp [insS, nmU']
  · have : i = m.length := by omega
    subst this
    refine (Pl.ite_neg (by simp)).2 ?_
    rw [List.take_length]; exact h
theorem s_Sjoin {a b : Old.Sm} (ha : Vd a) (hb : Vd b) {w : Bool} {R : T_api_Summary → Prop} (h : R (smU (sjn (if w then wd else jn) a b))) : p_augurref12_Sjoin (smU a) (smU b) w R := by
  have la := ha.alen
  have lb := hb.alen
  have ma := ha.mlen
  have mb := hb.mlen
  unfold p_augurref12_Sjoin
  refine Pl.app_intro (by simp [smU]; omega) ?_
  refine s_AddAlarms (d := a.al) (m := b.al) (by omega) (by omega) ?_
  rw [insA_unA ha.al]
  refine Pl.join_intro ?_
  have key : ∀ e : Bool, e = (a.ends || b.ends) → p_augurref12_two (smU a).Ret (smU b).Ret w fun r_7 => Pl.loop2 ([] : List Str) 0 fun l_3 x_7 next =>
      Pl.ite (x_7 < (List.length (smU a).Mod : Int)) (Pl.get (smU a).Mod x_7 fun c => p_augurref10_Add l_3 c.Name fun r_11 => next r_11 (IntKind.wrap .i64 (x_7 + 1)))
       (Pl.loop2 l_3 0 fun l_5 x_9 next_1 => Pl.ite (x_9 < (List.length (smU b).Mod : Int)) (Pl.get (smU b).Mod x_9 fun c => p_augurref10_Add l_5 c.Name fun r_15 => next_1 r_15 (IntKind.wrap .i64 (x_9 + 1)))
         (Pl.loop2 0 ([] : List T_api_Named) fun x_12 l_7 next_2 => Pl.ite (x_12 < (List.length l_5 : Int))
           (Pl.get l_5 x_12 fun a_2 => Pl.get l_5 x_12 fun a_3 => Pl.get l_5 x_12 fun a_4 => p_augurref12_mod (smU a) a_3 fun r_17 => p_augurref12_mod (smU b) a_4 fun r_18 => p_augurref12_two r_17 r_18 w fun r_19 =>
            Pl.app l_7 [(⟨a_2, r_19⟩ : T_api_Named)] fun l_8 => next_2 (IntKind.wrap .i64 (x_12 + 1)) l_8)
           (R ⟨(Old.unA a.al b.al).map alU, e, r_7, l_7⟩))) := by
    rintro e rfl
    refine s_two ha.ret hb.ret ?_
    refine names_loop (d := []) (m := a.mod) (by simp) (by omega) ?_
    have hl1 := insS_len [] (a.mod.map (·.1))
    rw [List.length_map] at hl1
    refine names_loop (m := b.mod) (by simp at hl1; omega) (by omega) ?_
    have hns : insS (insS [] (a.mod.map (·.1))) (b.mod.map (·.1)) = Old.nmU a.mod b.mod :=
      Srt.unique ordS (srt_insS (srt_insS List.Pairwise.nil _) _) (Old.srt_nmU _ _) fun x => by
        rw [mem_insS, mem_insS, Old.mem_nmU]; simp
    rw [hns]
    have hnl := Old.nmU_len a.mod b.mod
    generalize hU : (if w then wd else jn) = U at h
    have hmd : (Old.mdU U a.mod b.mod).length = (Old.nmU a.mod b.mod).length := by simp [Old.mdU]
    refine Pl.loop2_count 0 (Old.nmU a.mod b.mod).length (fun i l => l = ((Old.mdU U a.mod b.mod).take i).map nmU') (Nat.zero_le _) (by simp) ?_
    rintro i l next hi rfl hnx
    by_cases hlt : i < (Old.nmU a.mod b.mod).length
    · refine (Pl.ite_pos (int_lt.2 hlt)).2 ?_
      obtain ⟨s, hs⟩ : ∃ s, (Old.nmU a.mod b.mod)[i]? = some s := ⟨_, List.getElem?_eq_getElem hlt⟩
      refine Pl.get_nat hs (Pl.get_nat hs (Pl.get_nat hs ?_))
      refine s_mod (by omega) (s_mod (by omega) (s_two (gt_ok ha.iv s) (gt_ok hb.iv s) ?_))
      refine Pl.app_intro (by simp; omega) ?_
      rw [wrap_inc hlt (by omega)]
      refine hnx _ hlt ?_
      have hx : (Old.mdU U a.mod b.mod)[i]? = some (s, U (Old.gt a.mod s) (Old.gt b.mod s)) := by simp [Old.mdU, hs]
      rw [List.take_add_one, hx, ← hU]
      cases w <;> simp [nmU']
    · have : i = (Old.nmU a.mod b.mod).length := by omega
      subst this
      refine (Pl.ite_neg (by simp)).2 ?_
      rw [List.take_of_length_le (by omega)]
      have : (if w = true then wd a.ret b.ret else jn a.ret b.ret) = U a.ret b.ret := by rw [← hU]; cases w <;> rfl
      rw [this]
      exact h
  by_cases he : a.ends = true
  · exact (Pl.ite_pos he).2 (key true (by simp [he]))
  · exact (Pl.ite_neg he).2 (key b.ends (by simp at he; simp [he]))
theorem s_light {l : List T_augurlaw19_Raw} (hl : l.length ≤ 1000) {R : Bool → Prop} (h : R (decide (∀ r ∈ l, r.Alarms.length ≤ 8 ∧ r.Mod.length ≤ 6))) : p_augurlaw19_light l R := by
  unfold p_augurlaw19_light
  refine Pl.loop1_count 0 l.length (fun i => ∀ r ∈ l.take i, r.Alarms.length ≤ 8 ∧ r.Mod.length ≤ 6) (Nat.zero_le _) (by simp) ?_
  intro i next hi hI hnx
  by_cases hlt : i < l.length
  · refine (Pl.ite_pos (int_lt.2 hlt)).2 ?_
    obtain ⟨r, hr⟩ : ∃ r, l[i]? = some r := ⟨_, List.getElem?_eq_getElem hlt⟩
    refine Pl.get_nat hr ?_
    have bad : ¬ (r.Alarms.length ≤ 8 ∧ r.Mod.length ≤ 6) → R false := fun hb => by
      have : ¬ ∀ r ∈ l, r.Alarms.length ≤ 8 ∧ r.Mod.length ≤ 6 := fun h => hb (h r (List.mem_of_getElem? hr))
      rw [decide_eq_false this] at h; exact h
    refine Pl.join_intro ?_
    by_cases c1 : r.Alarms.length ≤ 8
    · refine (Pl.ite_neg (by omega)).2 (Pl.get_nat hr ?_)
      by_cases c2 : r.Mod.length ≤ 6
      · refine (Pl.ite_neg (by simp; omega)).2 ?_
        rw [wrap_inc hlt (by omega)]
        refine hnx hlt fun q hq => ?_
        rw [List.take_add_one, hr] at hq
        simp only [Option.toList_some, List.mem_append, List.mem_singleton] at hq
        rcases hq with hq | rfl
        · exact hI q hq
        · exact ⟨c1, c2⟩
      · exact (Pl.ite_pos (by simp; omega)).2 (bad fun h => c2 h.2)
    · exact (Pl.ite_pos (by omega)).2 ((Pl.ite_pos rfl).2 (bad fun h => c1 h.1))
  · have : i = l.length := by omega
    subst this
    refine (Pl.ite_neg (by simp)).2 ?_
    rw [List.take_length] at hI
    have : (∀ r ∈ l, r.Alarms.length ≤ 8 ∧ r.Mod.length ≤ 6) := hI
    rw [decide_eq_true this] at h; exact h
end Go.Proofs.YtaibfbakhiainaaGreat
namespace Go.Proofs.YtaibfbakhiainaaGreat
open Go Go.Sh Go.Sx
theorem gt_none {l : List (Str × Iv)} {k : Str} (h : k ∉ l.map (·.1)) : Old.gt l k = none := by
  unfold Old.gt
  cases e : Sh.get l k with
  | none => rfl
  | some v => exact absurd (List.mem_map.2 ⟨_, get_mem e, rfl⟩) h
theorem gt_cons (k k' : Str) (v : Iv) (l : List (Str × Iv)) : Old.gt ((k', v) :: l) k = if k' = k then v else Old.gt l k := by
  unfold Old.gt
  by_cases h : k' = k
  · simp [Sh.get, h]
  · simp [Sh.get, h]
theorem gt_map (f : Str → Iv) (k : Str) : ∀ l : List Str, Old.gt (l.map fun k => (k, f k)) k = if k ∈ l then f k else none
  | [] => rfl
  | k' :: l => by
    rw [List.map_cons, gt_cons, gt_map f k l]
    by_cases e : k' = k
    · subst e; simp
    · rw [if_neg e]
      have : k ≠ k' := fun h => e h.symm
      simp [this]
theorem mod_eq : ∀ {l : List (Str × Iv)}, (l.map (·.1)).Nodup → l = (l.map (·.1)).map fun k => (k, Old.gt l k)
  | [], _ => rfl
  | (k, v) :: l, h => by
    rw [List.map_cons, List.nodup_cons] at h
    have ih := mod_eq h.2
    rw [List.map_cons, List.map_cons, gt_cons, if_pos rfl]
    congr 1
    conv => lhs; rw [ih]
    refine List.map_congr_left fun k' hk' => ?_
    rw [gt_cons, if_neg]
    rintro rfl
    exact h.1 hk'
theorem gt_mdU {U : Iv → Iv → Iv} (hU : U none none = none) (a b : List (Str × Iv)) (k : Str) : Old.gt (Old.mdU U a b) k = U (Old.gt a k) (Old.gt b k) := by
  unfold Old.mdU
  rw [gt_map fun k => U (Old.gt a k) (Old.gt b k)]
  split
  · rfl
  · rename_i h
    rw [Old.mem_nmU, not_or] at h
    rw [gt_none h.1, gt_none h.2, hU]
theorem sm_ext {a b : Old.Sm} (ha : Vd a) (hb : Vd b) (h1 : ∀ x, x ∈ a.al ↔ x ∈ b.al) (h2 : a.ends = b.ends) (h3 : a.ret = b.ret) (h4 : ∀ k, k ∈ a.mod.map (·.1) ↔ k ∈ b.mod.map (·.1))
    (h5 : ∀ k, Old.gt a.mod k = Old.gt b.mod k) : a = b := by
  have e1 : a.al = b.al := Srt.unique Old.ordA ha.al hb.al h1
  have e4 : a.mod.map (·.1) = b.mod.map (·.1) := Srt.unique ordS ha.nd hb.nd h4
  have e5 : a.mod = b.mod := by
    rw [mod_eq ha.nd.nodup, mod_eq hb.nd.nodup, e4]
    exact List.map_congr_left fun k _ => by rw [h5]
  cases a; cases b
  simp only at e1 h2 h3 e5
  rw [e1, h2, h3, e5]
abbrev J (a b : Old.Sm) : Old.Sm := sjn jn a b
abbrev W (a b : Old.Sm) : Old.Sm := sjn wd a b
def bot : Old.Sm := ⟨[], false, none, []⟩
theorem bot_vd : Vd bot := ⟨List.Pairwise.nil, by simp [bot], trivial, List.Pairwise.nil, by simp [bot], by simp [bot]⟩
theorem J_vd {a b : Old.Sm} (ha : Vd a) (hb : Vd b) : Vd (J a b) := sjn_vd jnOk ha hb
theorem W_vd {a b : Old.Sm} (ha : Vd a) (hb : Vd b) : Vd (W a b) := sjn_vd wdOk ha hb
theorem mem_al (U : Iv → Iv → Iv) (a b : Old.Sm) (x : Int × Int) : x ∈ (sjn U a b).al ↔ x ∈ a.al ∨ x ∈ b.al := Old.mem_unA x _ _
theorem mem_nm (U : Iv → Iv → Iv) (a b : Old.Sm) (k : Str) : k ∈ (sjn U a b).mod.map (·.1) ↔ k ∈ a.mod.map (·.1) ∨ k ∈ b.mod.map (·.1) := by
  show k ∈ (Old.mdU U a.mod b.mod).map (·.1) ↔ _
  rw [mdU_names, Old.mem_nmU]
theorem gt_J (a b : Old.Sm) (k : Str) : Old.gt (J a b).mod k = jn (Old.gt a.mod k) (Old.gt b.mod k) := gt_mdU rfl _ _ _
theorem gt_W (a b : Old.Sm) (k : Str) : Old.gt (W a b).mod k = wd (Old.gt a.mod k) (Old.gt b.mod k) := gt_mdU rfl _ _ _
theorem J_comm {a b : Old.Sm} (ha : Vd a) (hb : Vd b) : J a b = J b a :=
  sm_ext (J_vd ha hb) (J_vd hb ha) (fun x => by rw [mem_al, mem_al, or_comm]) (Bool.or_comm _ _) (jn_comm _ _) (fun k => by rw [mem_nm, mem_nm, or_comm]) (fun k => by rw [gt_J, gt_J, jn_comm])
theorem J_assoc {a b c : Old.Sm} (ha : Vd a) (hb : Vd b) (hc : Vd c) : J (J a b) c = J a (J b c) :=
  sm_ext (J_vd (J_vd ha hb) hc) (J_vd ha (J_vd hb hc)) (fun x => by rw [mem_al, mem_al, mem_al, mem_al, or_assoc]) (Bool.or_assoc _ _ _) (jn_assoc _ _ _)
    (fun k => by rw [mem_nm, mem_nm, mem_nm, mem_nm, or_assoc]) (fun k => by rw [gt_J, gt_J, gt_J, gt_J, jn_assoc])
theorem J_self {a : Old.Sm} (ha : Vd a) : J a a = a :=
  sm_ext (J_vd ha ha) ha (fun x => by rw [mem_al, or_self]) (Bool.or_self _) (jn_self _) (fun k => by rw [mem_nm, or_self]) (fun k => by rw [gt_J, jn_self])
theorem J_bot {a : Old.Sm} (ha : Vd a) : J a bot = a :=
  sm_ext (J_vd ha bot_vd) ha (fun x => by rw [mem_al]; simp [bot]) (Bool.or_false _) (jn_none _) (fun k => by rw [mem_nm]; simp [bot]) (fun k => by rw [gt_J]; exact jn_none _)
theorem bot_J {a : Old.Sm} (ha : Vd a) : J bot a = a := by rw [J_comm bot_vd ha, J_bot ha]
theorem J_left {a b : Old.Sm} (ha : Vd a) (hb : Vd b) : J a (J a b) = J a b := by rw [← J_assoc ha ha hb, J_self ha]
theorem J_right {a b : Old.Sm} (ha : Vd a) (hb : Vd b) : J b (J a b) = J a b := by rw [J_comm ha hb, J_left hb ha]
theorem J_least {a b c : Old.Sm} (ha : Vd a) (hb : Vd b) (hc : Vd c) (h1 : J a c = c) (h2 : J b c = c) : J (J a b) c = c := by rw [J_assoc ha hb hc, h2, h1]
theorem J_W {a b : Old.Sm} (ha : Vd a) (hb : Vd b) : J (J a b) (W a b) = W a b :=
  sm_ext (J_vd (J_vd ha hb) (W_vd ha hb)) (W_vd ha hb) (fun x => by rw [mem_al, mem_al, mem_al, or_self]) (Bool.or_self _) (jn_wd ha.ret hb.ret)
    (fun k => by rw [mem_nm, mem_nm, mem_nm, or_self]) (fun k => by rw [gt_J, gt_J, gt_W, jn_wd (gt_ok ha.iv k) (gt_ok hb.iv k)])
end Go.Proofs.YtaibfbakhiainaaGreat
namespace Go.Proofs.YtaibfbakhiainaaGreat
open Go Go.Sh Go.Sx
/-- A number's bytes. -/
def encN (v : Nat) : List Int := if h : v < 128 then [(v : Int)] else ((v % 128 + 128 : Nat) : Int) :: encN (v / 128)
termination_by v
theorem encN_lt {v : Nat} (h : v < 128) : encN v = [(v : Int)] := by rw [encN, dif_pos h]
theorem encN_ge {v : Nat} (h : ¬ v < 128) : encN v = ((v % 128 + 128 : Nat) : Int) :: encN (v / 128) := by rw [encN, dif_neg h]
theorem bor128 : ∀ k : Fin 256, Pl.bor .u8 (k.val : Int) 128 = ((k.val % 128 + 128 : Nat) : Int) := by decide +kernel
theorem wrap_u8n (v : Nat) : IntKind.wrap .u8 (v : Int) = ((v % 256 : Nat) : Int) := by
  unfold IntKind.wrap
  have : IntKind.signed .u8 = false := rfl
  simp only [this, Bool.false_and, Bool.false_eq_true, if_false]
  show (v : Int) % 2 ^ 8 = _
  omega
theorem wrap_u64n {v : Nat} (h : v < 18446744073709551616) : IntKind.wrap .u64 (v : Int) = v := by
  unfold IntKind.wrap
  have : IntKind.signed .u64 = false := rfl
  simp only [this, Bool.false_and, Bool.false_eq_true, if_false]
  show (v : Int) % 2 ^ 64 = _
  omega
theorem s_Num {b : List Int} {l : List Nat} (hl : ∀ v ∈ l, v < 18446744073709551616) {R : T_code_plain → Prop} (hb : b.length + (l.flatMap encN).length ≤ 100000000) (hn : l.length ≤ 1000000)
    (h : R ⟨b ++ l.flatMap encN⟩) : p_code_plain_Num ⟨b⟩ (l.map fun v : Nat => (v : Int)) R := by
  unfold p_code_plain_Num
  refine Pl.loop2_count 0 l.length (fun i c => c = b ++ (l.take i).flatMap encN) (Nat.zero_le _) (by simp) ?_
  rintro i c next hi rfl hnx
  by_cases hlt : i < l.length
  · refine (Pl.ite_pos (by simpa using hlt)).2 ?_
    obtain ⟨v, hv⟩ : ∃ v, l[i]? = some v := ⟨_, List.getElem?_eq_getElem hlt⟩
    refine Pl.get_nat (a := (v : Int)) (by simp [hv]) ?_
    have hv2 := hl v (List.mem_of_getElem? hv)
    have e1 : b ++ (l.take (i + 1)).flatMap encN = b ++ (l.take i).flatMap encN ++ encN v := by
      rw [List.take_add_one, hv, List.flatMap_append]; simp
    have hlen : (b ++ (l.take (i + 1)).flatMap encN).length ≤ 100000000 := by
      have : (l.flatMap encN).length = ((l.take (i + 1)).flatMap encN).length + ((l.drop (i + 1)).flatMap encN).length := by
        rw [← List.length_append, ← List.flatMap_append, List.take_append_drop]
      rw [List.length_append]; omega
    have hnx' := hnx _ hlt rfl
    rw [e1] at hlen hnx'
    generalize b ++ (l.take i).flatMap encN = c at *
    refine ⟨fun m x d => ∃ u : Nat, x = u ∧ m = u ∧ u < 18446744073709551616 ∧ d ++ encN u = c ++ encN v, v, ⟨v, rfl, rfl, hv2, rfl⟩, ?_⟩
    rintro m x d ⟨u, rfl, rfl, hu, he⟩
    have hlen2 : d.length + (encN m).length ≤ 100000000 := by
      rw [← List.length_append, he]; exact hlen
    by_cases h128 : m < 128
    · refine (Pl.ite_neg (by omega)).2 ?_
      rw [encN_lt h128] at he hlen2
      refine Pl.app_intro (by simp at hlen2 ⊢; omega) ?_
      rw [wrap_u8n, wrap_inc hlt (by omega), show m % 256 = m by omega, he]
      exact hnx'
    · refine (Pl.ite_pos (by omega)).2 ?_
      rw [encN_ge h128] at he hlen2
      refine Pl.app_intro (by simp at hlen2 ⊢; omega) ⟨by decide, m / 128, by omega, m / 128, ?_, rfl, by omega, ?_⟩
      · show (m : Int).fdiv (2 ^ 7) = _
        rw [Int.fdiv_eq_ediv_of_nonneg _ (by decide)]
        omega
      · rw [wrap_u8n, bor128 ⟨m % 256, by omega⟩]
        rw [show m % 256 % 128 = m % 128 by omega, List.append_assoc]
        exact he
  · have : i = l.length := by omega
    subst this
    refine (Pl.ite_neg (by simp)).2 ?_
    rw [List.take_length]; exact h
end Go.Proofs.YtaibfbakhiainaaGreat
namespace Go.Proofs.YtaibfbakhiainaaGreat
open Go Go.Sh Go.Sx
def zig (z : Int) : Nat := if 0 ≤ z then (2 * z).toNat else (2 * -(z + 1) + 1).toNat
theorem zig_lt {z : Int} (h : minI ≤ z ∧ z ≤ maxI) : zig z < 18446744073709551616 := by
  unfold zig minI maxI at *
  split <;> omega
theorem wrap_u64 {i : Int} (h1 : 0 ≤ i) (h2 : i < 18446744073709551616) : IntKind.wrap .u64 i = i := by
  have := wrap_u64n (v := i.toNat) (by omega)
  rwa [show ((i.toNat : Nat) : Int) = i by omega] at this
theorem zig_pos {a : Int} (h : minI ≤ a ∧ a ≤ maxI) (h0 : 0 ≤ a) : IntKind.wrap .u64 ((IntKind.wrap .u64 a) * 2) = (zig a : Int) := by
  unfold minI maxI at h
  rw [wrap_u64 h0 (by omega), wrap_u64 (by omega) (by omega)]
  unfold zig; rw [if_pos h0]; omega
theorem zig_neg {a : Int} (h : minI ≤ a ∧ a ≤ maxI) (h0 : ¬ 0 ≤ a) :
    IntKind.wrap .u64 ((IntKind.wrap .u64 ((IntKind.wrap .u64 (IntKind.wrap .i64 (0 - (IntKind.wrap .i64 (a + 1))))) * 2)) + 1) = (zig a : Int) := by
  unfold minI maxI at h
  rw [wrap_i64 (i := a + 1) (by omega) (by omega), wrap_i64 (by omega) (by omega), wrap_u64 (i := 0 - (a + 1)) (by omega) (by omega), wrap_u64 (i := (0 - (a + 1)) * 2) (by omega) (by omega), wrap_u64 (by omega) (by omega)]
  unfold zig; rw [if_neg h0]; omega
theorem encN_len : ∀ (k v : Nat), v < 128 ^ (k + 1) → (encN v).length ≤ k + 1
  | 0, v, h => by rw [encN_lt (by simpa using h)]; simp
  | k + 1, v, h => by
    by_cases h1 : v < 128
    · rw [encN_lt h1]; simp
    · rw [encN_ge h1]
      have := encN_len k (v / 128) (by
        rw [Nat.div_lt_iff_lt_mul (by decide)]
        rwa [Nat.pow_succ] at h)
      simp only [List.length_cons]; omega
theorem encN_10 {v : Nat} (h : v < 18446744073709551616) : (encN v).length ≤ 10 := encN_len 9 v (Nat.lt_of_lt_of_le h (by decide))
theorem encN_byte (v : Nat) : ∀ x ∈ encN v, 0 ≤ x ∧ x < 256 := by
  induction v using Nat.strongRecOn with
  | _ v ih =>
    intro x hx
    by_cases h : v < 128
    · rw [encN_lt h, List.mem_singleton] at hx; omega
    · rw [encN_ge h, List.mem_cons] at hx
      rcases hx with rfl | hx
      · omega
      · exact ih (v / 128) (by omega) x hx
theorem flat_len {l : List Nat} (hl : ∀ v ∈ l, v < 18446744073709551616) : (l.flatMap encN).length ≤ 10 * l.length := by
  induction l with
  | nil => simp
  | cons v l ih =>
    have := ih fun u hu => hl u (List.mem_cons_of_mem _ hu)
    have h2 := encN_10 (hl v (by simp))
    rw [List.flatMap_cons, List.length_append, List.length_cons]; omega
theorem s_Num1 {b : List Int} {v : Nat} (hv : v < 18446744073709551616) (hb : b.length ≤ 10000000) {R : T_code_plain → Prop} (h : R ⟨b ++ encN v⟩) : p_code_plain_Num ⟨b⟩ [(v : Int)] R := by
  have := s_Num (b := b) (l := [v]) (by simpa using hv) (R := R) (by have := encN_10 hv; simp; omega) (by simp) (by simpa using h)
  simpa using this
theorem s_Int {b : List Int} {l : List Int} (hl : ∀ v ∈ l, minI ≤ v ∧ v ≤ maxI) {R : T_code_plain → Prop} (hb : b.length ≤ 1000000) (hn : l.length ≤ 1000)
    (h : R ⟨b ++ (l.map zig).flatMap encN⟩) : p_code_plain_Int ⟨b⟩ l R := by
  unfold p_code_plain_Int
  refine Pl.loop2_count 0 l.length (fun i c => c = b ++ ((l.take i).map zig).flatMap encN) (Nat.zero_le _) (by simp) ?_
  rintro i c next hi rfl hnx
  by_cases hlt : i < l.length
  · refine (Pl.ite_pos (int_lt.2 hlt)).2 ?_
    obtain ⟨v, hv⟩ : ∃ v, l[i]? = some v := ⟨_, List.getElem?_eq_getElem hlt⟩
    refine Pl.join_intro (Pl.get_nat hv ?_)
    have hv2 := hl v (List.mem_of_getElem? hv)
    have e1 : b ++ ((l.take (i + 1)).map zig).flatMap encN = b ++ ((l.take i).map zig).flatMap encN ++ encN (zig v) := by
      rw [List.take_add_one, hv, List.map_append, List.flatMap_append]; simp
    have hlen : (b ++ ((l.take i).map zig).flatMap encN).length ≤ 10000000 := by
      have := flat_len (l := (l.take i).map zig) fun v hv => by
        obtain ⟨u, hu, rfl⟩ := List.mem_map.1 hv
        exact zig_lt (hl u (List.mem_of_mem_take hu))
      rw [List.length_map, List.length_take] at this
      rw [List.length_append]; omega
    have hnx' := hnx _ hlt rfl
    rw [e1] at hnx'
    rw [wrap_inc hlt (by omega)]
    by_cases h0 : 0 ≤ v
    · refine (Pl.ite_pos h0).2 ?_
      rw [zig_pos hv2 h0]
      exact s_Num1 (zig_lt hv2) hlen hnx'
    · refine (Pl.ite_neg h0).2 ?_
      rw [zig_neg hv2 h0]
      exact s_Num1 (zig_lt hv2) hlen hnx'
  · have : i = l.length := by omega
    subst this
    refine (Pl.ite_neg (by simp)).2 ?_
    rw [List.take_length]; exact h
def encB (x : Bool) : Int := if x then 1 else 0
theorem s_Bool1 {b : List Int} {x : Bool} (hb : b.length ≤ 10000000) {R : T_code_plain → Prop} (h : R ⟨b ++ [encB x]⟩) : p_code_plain_Bool ⟨b⟩ [x] R := by
  unfold p_code_plain_Bool
  refine Pl.loop2_count 0 1 (fun i c => c = if i = 0 then b else b ++ [encB x]) (Nat.zero_le _) (by simp) ?_
  rintro i c next hi rfl hnx
  by_cases hlt : i < 1
  · have : i = 0 := by omega
    subst this
    refine (Pl.ite_pos (by simp)).2 (Pl.join_intro (Pl.get_nat (i := 0) (a := x) rfl ?_))
    rw [wrap_inc (n := 1) hlt (by omega)]
    rw [if_pos rfl]
    cases x with
    | true => exact (Pl.ite_pos rfl).2 (Pl.app_intro (by simp; omega) (hnx _ hlt rfl))
    | false => exact (Pl.ite_neg (by simp)).2 (Pl.app_intro (by simp; omega) (hnx _ hlt rfl))
  · have : i = 1 := by omega
    subst this
    exact (Pl.ite_neg (by simp)).2 h
def encIv : Iv → List Int
  | none => [0]
  | some (l, h) => 1 :: (encN (zig l) ++ encN (zig h))
theorem encIv_len {v : Iv} (hv : v.Ok) : (encIv v).length ≤ 21 := by
  rcases v with _ | ⟨l, g⟩
  · simp [encIv]
  · have h1 := encN_10 (zig_lt (z := l) (by simp only [Iv.Ok] at hv; unfold minI maxI at *; omega))
    have h2 := encN_10 (zig_lt (z := g) (by simp only [Iv.Ok] at hv; unfold minI maxI at *; omega))
    simp only [encIv, List.length_cons, List.length_append]; omega
theorem s_wIv {b : List Int} {v : Iv} (hv : v.Ok) (hb : b.length ≤ 100000) {R : T_code_Writer → Prop} (h : R ⟨⟨b ++ encIv v⟩⟩) : p_code_Writer_interval ⟨⟨b⟩⟩ (ivU v) R := by
  unfold p_code_Writer_interval
  rcases v with _ | ⟨l, g⟩
  · refine s_Bool1 (x := false) (by omega) ((Pl.ite_neg (by simp [ivU])).2 h)
  · refine s_Bool1 (x := true) (by omega) ((Pl.ite_pos rfl).2 ?_)
    simp only [Iv.Ok] at hv
    refine s_Int (l := [l, g]) (by
      intro v hv'
      simp only [List.mem_cons, List.not_mem_nil, or_false] at hv'
      unfold minI maxI at *
      rcases hv' with rfl | rfl <;> omega) (by simp; omega) (by simp) ?_
    simpa [encIv, encB] using h
theorem s_Text1 {b : List Int} {s : Str} (hs : s.length ≤ 1000) (hb : b.length ≤ 100000) {R : T_code_plain → Prop} (h : R ⟨b ++ (encN s.length ++ Pl.bytes s)⟩) : p_code_plain_Text ⟨b⟩ [s] R := by
  unfold p_code_plain_Text
  refine Pl.loop2_count 0 1 (fun i c => c = if i = 0 then b else b ++ (encN s.length ++ Pl.bytes s)) (Nat.zero_le _) (by simp) ?_
  rintro i c next hi rfl hnx
  by_cases hlt : i < 1
  · have : i = 0 := by omega
    subst this
    refine (Pl.ite_pos (by simp)).2 (Pl.get_nat (i := 0) (a := s) rfl ?_)
    rw [wrap_inc (n := 1) hlt (by omega), wrap_u64n (by omega), if_pos rfl]
    refine s_Num1 (by omega) (by omega) ?_
    have := encN_10 (v := s.length) (by omega)
    refine Pl.app_intro (by simp [Pl.bytes]; omega) (hnx _ hlt ?_)
    simp
  · have : i = 1 := by omega
    subst this
    exact (Pl.ite_neg (by simp)).2 h
end Go.Proofs.YtaibfbakhiainaaGreat
namespace Go.Proofs.YtaibfbakhiainaaGreat
open Go Go.Sh Go.Sx
def encAl (p : Int × Int) : List Int := encN (zig p.1) ++ encN (zig p.2)
def encNm (p : Str × Iv) : List Int := encN p.1.length ++ Pl.bytes p.1 ++ encIv p.2
def encSm (a : Old.Sm) : List Int := encN a.al.length ++ a.al.flatMap encAl ++ [encB a.ends] ++ encIv a.ret ++ encN a.mod.length ++ a.mod.flatMap encNm
theorem fl_len {α : Type} {f : α → List Int} {n : Nat} {l : List α} (h : ∀ x ∈ l, (f x).length ≤ n) : (l.flatMap f).length ≤ n * l.length := by
  induction l with
  | nil => simp
  | cons x l ih =>
    have := ih fun y hy => h y (List.mem_cons_of_mem _ hy)
    have h2 := h x (by simp)
    rw [List.flatMap_cons, List.length_append, List.length_cons, Nat.mul_add]; omega
theorem Vd.ai {a : Old.Sm} (ha : Vd a) : ∀ p ∈ a.al, (minI ≤ p.1 ∧ p.1 ≤ maxI) ∧ (minI ≤ p.2 ∧ p.2 ≤ maxI) := fun p hp => by
  have := ha.ac p hp
  unfold minI maxI; omega
theorem encAl_len {a : Old.Sm} (ha : Vd a) : ∀ p ∈ a.al, (encAl p).length ≤ 20 := fun p hp => by
  have h := ha.ai p hp
  have h1 := encN_10 (zig_lt h.1)
  have h2 := encN_10 (zig_lt h.2)
  simp only [encAl, List.length_append]; omega
theorem encNm_len {a : Old.Sm} (ha : Vd a) : ∀ p ∈ a.mod, (encNm p).length ≤ 40 := fun p hp => by
  have h1 := nms_short (ha.nm p hp)
  have h2 := encIv_len (ha.iv p hp)
  have h3 := encN_10 (v := p.1.length) (by omega)
  simp only [encNm, List.length_append, Pl.bytes, List.length_map]; omega
theorem s_wSm {a : Old.Sm} (ha : Vd a) {R : T_code_Writer → Prop} (h : R ⟨⟨encSm a⟩⟩) : p_code_Writer_Summary ⟨⟨[]⟩⟩ [smU a] R := by
  have la := ha.alen
  have lm := ha.mlen
  have fa := fl_len (encAl_len ha)
  have fm := fl_len (encNm_len ha)
  have n1 := encN_10 (v := a.al.length) (by omega)
  have n2 := encN_10 (v := a.mod.length) (by omega)
  have ri := encIv_len ha.ret
  unfold p_code_Writer_Summary
  refine Pl.loop2_count 0 1 (fun i c => c = if i = 0 then [] else encSm a) (Nat.zero_le _) (by simp) ?_
  rintro i c next hi rfl hnx
  by_cases hlt : i < 1
  · have : i = 0 := by omega
    subst this
    refine (Pl.ite_pos (by simp)).2 (Pl.get_nat (i := 0) (a := smU a) rfl ?_)
    have hnx' := hnx _ hlt rfl
    rw [wrap_inc (n := 1) hlt (by omega), if_pos rfl]
    have e1 : (List.length (smU a).Alarms : Int) = ((a.al.length : Nat) : Int) := by simp [smU]
    have e2 : (List.length (smU a).Mod : Int) = ((a.mod.length : Nat) : Int) := by simp [smU]
    rw [e1, e2, wrap_u64n (by omega), wrap_u64n (by omega)]
    refine s_Num1 (by omega) (by simp) ?_
    rw [List.nil_append]
    refine Pl.loop2_count 0 a.al.length (fun i c => c = encN a.al.length ++ (a.al.take i).flatMap encAl) (Nat.zero_le _) (by simp) ?_
    rintro i c next2 hi rfl hnx2
    by_cases hlt2 : i < a.al.length
    · refine (Pl.ite_pos (by omega)).2 ?_
      obtain ⟨p, hp⟩ : ∃ p, a.al[i]? = some p := ⟨_, List.getElem?_eq_getElem hlt2⟩
      refine Pl.get_nat (a := alU p) (by simp [smU, hp]) ?_
      have hpi := ha.ai p (List.mem_of_getElem? hp)
      have hf : ((a.al.take i).flatMap encAl).length ≤ 20 * a.al.length := by
        have := fl_len (f := encAl) (n := 20) (l := a.al.take i) fun q hq => encAl_len ha q (List.mem_of_mem_take hq)
        rw [List.length_take] at this; omega
      refine s_Int (l := [p.1, p.2]) (by
        intro v hv
        simp only [List.mem_cons, List.not_mem_nil, or_false] at hv
        rcases hv with rfl | rfl
        · exact hpi.1
        · exact hpi.2) (by rw [List.length_append]; omega) (by simp) ?_
      rw [wrap_inc hlt2 (by omega)]
      refine hnx2 _ hlt2 ?_
      rw [List.take_add_one, hp, List.flatMap_append]
      simp [encAl]
    · have : i = a.al.length := by omega
      subst this
      refine (Pl.ite_neg (by omega)).2 ?_
      rw [List.take_length]
      refine s_Bool1 (x := a.ends) (by rw [List.length_append]; omega) ?_
      refine s_wIv ha.ret (by simp only [List.length_append, List.length_cons, List.length_nil]; omega) ?_
      refine s_Num1 (by omega) (by simp only [List.length_append, List.length_cons, List.length_nil]; omega) ?_
      generalize hB : encN a.al.length ++ a.al.flatMap encAl ++ [encB a.ends] ++ encIv a.ret ++ encN a.mod.length = B
      have hBl : B.length ≤ 10000 := by
        rw [← hB]; simp only [List.length_append, List.length_cons, List.length_nil]; omega
      refine Pl.loop2_count 0 a.mod.length (fun i c => c = B ++ (a.mod.take i).flatMap encNm) (Nat.zero_le _) (by simp) ?_
      rintro i c next3 hi rfl hnx3
      by_cases hlt3 : i < a.mod.length
      · refine (Pl.ite_pos (by omega)).2 ?_
        obtain ⟨p, hp⟩ : ∃ p, a.mod[i]? = some p := ⟨_, List.getElem?_eq_getElem hlt3⟩
        refine Pl.get_nat (a := nmU' p) (by simp [smU, hp]) ?_
        have hm := List.mem_of_getElem? hp
        have hk := nms_short (ha.nm p hm)
        have hf : ((a.mod.take i).flatMap encNm).length ≤ 40 * a.mod.length := by
          have := fl_len (f := encNm) (n := 40) (l := a.mod.take i) fun q hq => encNm_len ha q (List.mem_of_mem_take hq)
          rw [List.length_take] at this; omega
        have h3 := encN_10 (v := p.1.length) (by omega)
        refine s_Text1 (s := p.1) (by omega) (by rw [List.length_append]; omega) ?_
        refine s_wIv (ha.iv p hm) (by simp only [List.length_append, Pl.bytes, List.length_map]; omega) ?_
        rw [wrap_inc hlt3 (by omega)]
        refine hnx3 _ hlt3 ?_
        rw [List.take_add_one, hp, List.flatMap_append]
        simp [encNm]
      · have : i = a.mod.length := by omega
        subst this
        refine (Pl.ite_neg (by omega)).2 ?_
        rw [List.take_length, ← hB]
        exact hnx'
  · have : i = 1 := by omega
    subst this
    exact (Pl.ite_neg (by simp)).2 h
theorem bytes_of {l : List Int} (h : ∀ x ∈ l, 0 ≤ x ∧ x < 256) : Pl.bytes (l.map fun x => UInt8.ofNat x.toNat) = l := by
  unfold Pl.bytes
  rw [List.map_map]
  conv => rhs; rw [← List.map_id l]
  refine List.map_congr_left fun x hx => ?_
  have := h x hx
  simp only [Function.comp, id, UInt8.toNat_ofNat']
  omega
theorem encIv_byte (v : Iv) : ∀ x ∈ encIv v, 0 ≤ x ∧ x < 256 := by
  rcases v with _ | ⟨l, h⟩
  · simp [encIv]
  · intro x hx
    simp only [encIv, List.mem_cons, List.mem_append] at hx
    rcases hx with rfl | hx | hx
    · omega
    · exact encN_byte _ x hx
    · exact encN_byte _ x hx
theorem bytes_byte (s : Str) : ∀ x ∈ Pl.bytes s, 0 ≤ x ∧ x < 256 := by
  intro x hx
  obtain ⟨c, _, rfl⟩ := List.mem_map.1 hx
  have := c.toNat_lt
  omega
theorem encSm_byte (a : Old.Sm) : ∀ x ∈ encSm a, 0 ≤ x ∧ x < 256 := by
  intro x hx
  simp only [encSm, encAl, encNm, List.mem_append, List.mem_flatMap, List.mem_singleton] at hx
  rcases hx with ((((hx | ⟨p, _, hx | hx⟩) | rfl) | hx) | hx) | ⟨p, _, (hx | hx) | hx⟩
  · exact encN_byte _ x hx
  · exact encN_byte _ x hx
  · exact encN_byte _ x hx
  · unfold encB; split <;> omega
  · exact encIv_byte _ x hx
  · exact encN_byte _ x hx
  · exact encN_byte _ x hx
  · exact bytes_byte _ x hx
  · exact encIv_byte _ x hx
theorem encSm_len {a : Old.Sm} (ha : Vd a) : (encSm a).length ≤ 10000 := by
  have la := ha.alen
  have lm := ha.mlen
  have fa := fl_len (encAl_len ha)
  have fm := fl_len (encNm_len ha)
  have n1 := encN_10 (v := a.al.length) (by omega)
  have n2 := encN_10 (v := a.mod.length) (by omega)
  have ri := encIv_len ha.ret
  simp only [encSm, List.length_append, List.length_cons, List.length_nil]; omega
theorem s_Clone {l : List Int} (hl : l.length ≤ 100000000) {R : List Int → Prop} (h : R l) : p_slices_Clone_byte_byte l R := by
  intro b hb
  by_cases e : b = true
  · refine (Pl.ite_pos e).2 ?_
    rw [← hb e]; exact h
  · exact (Pl.ite_neg e).2 (Pl.app_intro (by simp; omega) (by simpa using h))
/-- A summary's text. -/
def txt (a : Old.Sm) : Str := (encSm a).map fun x => UInt8.ofNat x.toNat
theorem bytes_txt (a : Old.Sm) : Pl.bytes (txt a) = encSm a := bytes_of (encSm_byte a)
theorem s_Bytes {a : Old.Sm} (ha : Vd a) {R : Str → Prop} (h : R (txt a)) : p_digest_Bytes (smU a) R := by
  unfold p_digest_Bytes p_code_NewWriter
  refine s_wSm ha ?_
  unfold p_code_plain_Bytes
  refine s_Clone (by have := encSm_len ha; show (encSm a).length ≤ _; omega) ?_
  exact ⟨txt a, bytes_txt a, h⟩
end Go.Proofs.YtaibfbakhiainaaGreat
namespace Go.Proofs.YtaibfbakhiainaaGreat
open Go Go.Sh Go.Sx
theorem r_one {b : Int} {t : List Int} {E : T_code_source → Prop} {R : T_code_source → Int → Prop} (h : R ⟨t⟩ b) : p_code_source_one ⟨b :: t⟩ E R := by
  unfold p_code_source_one
  refine Pl.join_intro ((Pl.ite_neg (by simp; omega)).2 ⟨by decide, b, rfl, by decide, by simp; omega, by simp, _, rfl, ?_⟩)
  simpa using h
theorem r_oneE {E : T_code_source → Prop} {R : T_code_source → Int → Prop} (h : E ⟨[]⟩) : p_code_source_one ⟨[]⟩ E R := by
  unfold p_code_source_one
  exact Pl.join_intro ((Pl.ite_pos (by simp)).2 h)
theorem band127 : ∀ k : Fin 128, Pl.bor .u64 0 (Pl.shl .u64 (IntKind.wrap .u64 (Pl.band .u8 (k.val : Int) 127)) (IntKind.wrap .i64 (7 * 0))) = (k.val : Int) := by decide +kernel
/-- A number of one byte. -/
theorem r_num {b : Nat} (hb : b < 128) {t : List Int} {E : T_code_source → Prop} {R : T_code_source → Int → Prop} (h : R ⟨t⟩ b) : p_code_source_num ⟨(b : Int) :: t⟩ E R := by
  unfold p_code_source_num
  refine ⟨fun m x y i l => m = 0 ∧ x = 0 ∧ y = 0 ∧ i = 0 ∧ l = (b : Int) :: t, 0, ⟨rfl, rfl, rfl, rfl, rfl⟩, ?_⟩
  rintro m x y i l ⟨rfl, rfl, rfl, rfl, rfl⟩
  refine (Pl.ite_pos (by decide)).2 (r_one (Pl.join_intro (Pl.join_intro ((Pl.ite_neg (by decide)).2 ((Pl.ite_neg (by simp)).2 ⟨by decide, (Pl.ite_pos (by omega)).2 (Pl.join_intro (Pl.join_intro ?_))⟩)))))
  rw [band127 ⟨b, hb⟩]
  by_cases h0 : (b : Int) = 0
  · refine (Pl.ite_pos h0).2 ((Pl.ite_neg (by simp)).2 ?_)
    exact h
  · exact (Pl.ite_neg h0).2 ((Pl.ite_neg (by simp)).2 h)
/-- A byte that is not the last, and none behind it. -/
theorem r_numE {E : T_code_source → Prop} {R : T_code_source → Int → Prop} (h : E ⟨[]⟩) : p_code_source_num ⟨[255]⟩ E R := by
  unfold p_code_source_num
  refine ⟨fun m x y i l => (m = 1 ∧ i = 0 ∧ l = [255]) ∨ (m = 0 ∧ i = 1 ∧ l = []), 1, .inl ⟨rfl, rfl, rfl⟩, ?_⟩
  rintro m x y i l (⟨rfl, rfl, rfl⟩ | ⟨rfl, rfl, rfl⟩)
  · refine (Pl.ite_pos (by decide)).2 (r_one (Pl.join_intro (Pl.join_intro ((Pl.ite_neg (by decide)).2 ((Pl.ite_neg (by simp)).2 ⟨by decide, (Pl.ite_neg (by decide)).2 ?_⟩)))))
    exact ⟨0, by omega, .inr ⟨rfl, rfl, rfl⟩⟩
  · exact (Pl.ite_pos (by decide)).2 (r_oneE h)
theorem r_int {b : Nat} (hb : 2 * b < 128) {t : List Int} {E : T_code_source → Prop} {R : T_code_source → Int → Prop} (h : R ⟨t⟩ b) : p_code_source_int ⟨((2 * b : Nat) : Int) :: t⟩ E R := by
  unfold p_code_source_int
  have e1 : Int.tmod ((2 * b : Nat) : Int) 2 = 0 := by rw [Int.tmod_eq_emod_of_nonneg (by omega)]; omega
  have e2 : Int.tdiv ((2 * b : Nat) : Int) 2 = (b : Int) := by rw [Int.tdiv_eq_ediv_of_nonneg (by omega)]; omega
  refine r_num hb ⟨by decide, (Pl.ite_pos e1).2 ⟨by decide, ?_⟩⟩
  rw [e2, wrap_u64n (by omega), wrap_i64 (by omega) (by omega)]
  exact h
theorem r_small {b : Nat} (hb : 2 * b < 128) {t : List Int} {E : T_code_source → Prop} {R : T_code_source → Int → Prop} (h : R ⟨t⟩ b) : p_code_source_small ⟨((2 * b : Nat) : Int) :: t⟩ E R := by
  unfold p_code_source_small
  refine r_int hb (Pl.join_intro (Pl.join_intro ((Pl.ite_neg (by omega)).2 ?_)))
  rw [show decide ((2147483647 : Int) < (b : Int)) = false by simp; omega]
  exact (Pl.ite_neg (by simp)).2 h
theorem r_count {b : Nat} (hb : b < 128) {t : List Int} (ht : b ≤ t.length) (hl : t.length ≤ 1000000) {E : T_code_source → Prop} {R : T_code_source → Int → Prop} (h : R ⟨t⟩ b) : p_code_source_count ⟨(b : Int) :: t⟩ E R := by
  unfold p_code_source_count
  refine r_num hb (Pl.join_intro ?_)
  rw [wrap_u64n (by show t.length < _; omega), wrap_i64 (by omega) (by omega)]
  exact (Pl.ite_neg (by show ¬ ((t.length : Int) < _); omega)).2 h
theorem r_bool {x : Bool} {t : List Int} {E : T_code_source → Prop} {R : T_code_source → Bool → Prop} (h : R ⟨t⟩ x) : p_code_source_bool ⟨encB x :: t⟩ E R := by
  unfold p_code_source_bool
  refine r_one (Pl.join_intro ?_)
  cases x with
  | true => exact (Pl.ite_neg (by decide)).2 h
  | false => exact (Pl.ite_neg (by decide)).2 h
theorem r_sum {R : T_code_Reader → T_api_Summary → Prop} (h : R ⟨⟨[]⟩, false⟩ ⟨[⟨1, 3⟩], true, ⟨true, 1, 2⟩, []⟩) : p_code_Reader_Summary ⟨⟨[1, 2, 6, 1, 1, 2, 4, 0]⟩, false⟩ R := by
  unfold p_code_Reader_Summary
  refine (Pl.ite_neg (by simp)).2 ?_
  unfold p_code_source_summary
  refine r_count (b := 1) (by decide) (by decide) (by decide) ?_
  refine ⟨fun m i l a => (m = 1 ∧ i = 0 ∧ l = [2, 6, 1, 1, 2, 4, 0] ∧ a = []) ∨ (m = 0 ∧ i = 1 ∧ l = [1, 1, 2, 4, 0] ∧ a = [⟨1, 3⟩]), 1, .inl ⟨rfl, rfl, rfl, rfl⟩, ?_⟩
  rintro m i l a (⟨rfl, rfl, rfl, rfl⟩ | ⟨rfl, rfl, rfl, rfl⟩)
  · refine (Pl.ite_pos (by decide)).2 (r_small (b := 1) (by decide) (r_small (b := 3) (by decide) (Pl.app_intro (by decide) ?_)))
    exact ⟨0, by omega, .inr ⟨rfl, rfl, rfl, rfl⟩⟩
  · refine (Pl.ite_neg (by decide)).2 (r_bool (x := true) ?_)
    unfold p_code_source_interval
    refine r_bool (x := true) (Pl.join_intro ((Pl.ite_pos rfl).2 (r_int (b := 1) (by decide) (r_int (b := 2) (by decide) ?_))))
    refine r_count (b := 0) (by decide) (by decide) (by decide) ?_
    refine ⟨fun m i l a => i = 0 ∧ l = [] ∧ a = [], 0, ⟨rfl, rfl, rfl⟩, ?_⟩
    rintro m i l a ⟨rfl, rfl, rfl⟩
    exact (Pl.ite_neg (by decide)).2 h
theorem r_sumE {R : T_code_Reader → T_api_Summary → Prop} (h : R ⟨⟨[]⟩, true⟩ zSum) : p_code_Reader_Summary ⟨⟨[255]⟩, false⟩ R := by
  unfold p_code_Reader_Summary
  refine (Pl.ite_neg (by simp)).2 ?_
  unfold p_code_source_summary p_code_source_count
  exact r_numE h
def exR : T_augurlaw19_Raw := ⟨[9], true, 1, 2, []⟩
def exS : Old.Sm := ⟨[(1, 3)], true, some (1, 2), []⟩
theorem made_ex : madeS exR = exS := by rfl
theorem exR_ok : RawOk exR := ⟨by simp [exR], by unfold minI maxI exR; simp, by unfold minI maxI exR; simp, by simp [exR]⟩
theorem exS_vd : Vd exS := made_ex ▸ madeS_vd exR_ok
theorem enc_ex : encSm exS = [1, 2, 6, 1, 1, 2, 4, 0] := by
  simp [encSm, exS, encAl, encIv, encB, zig, encN_lt]
theorem s_Open_ex {R : T_api_Summary → Int → Prop} (h : R (smU exS) 0) : p_digest_Open (txt exS) R := by
  unfold p_digest_Open p_code_NewReader
  rw [bytes_txt, enc_ex]
  refine s_Clone (by decide) (r_sum ?_)
  unfold p_code_Reader_Done
  exact Pl.join_intro ((Pl.ite_neg (by simp)).2 ((Pl.ite_neg (by simp)).2 ((Pl.ite_neg (by simp)).2 h)))
theorem s_Open_ff {R : T_api_Summary → Int → Prop} (h : R ⟨[], false, ⟨false, 0, 0⟩, []⟩ 20) : p_digest_Open ([255] : Str) R := by
  unfold p_digest_Open p_code_NewReader
  refine s_Clone (by decide) ?_
  refine r_sumE ?_
  unfold p_code_Reader_Done
  exact Pl.join_intro ((Pl.ite_pos rfl).2 ((Pl.ite_pos rfl).2 ((Pl.ite_pos (by decide)).2 h)))
theorem smU_bot : smU bot = ⟨[], false, ⟨false, 0, 0⟩, []⟩ := rfl
theorem s_known {R : Bool → Prop} (h : R true) : p_augurlaw19_known R := by
  unfold p_augurlaw19_known p_digest_Bottom
  have hv := exS_vd
  refine s_made (r := exR) exR_ok (by decide) (by decide) ?_
  rw [made_ex]
  refine s_Bytes hv (s_Open_ex (s_Open_ff ?_))
  rw [← smU_bot]
  refine s_Join bot_vd hv ?_
  rw [show sjn jn bot exS = exS from bot_J hv]
  have e : decide (exS = exS) = true := decide_eq_true rfl
  refine s_hSm hv (Pl.join_intro ((Pl.ite_pos e).2 (s_hSm hv ?_)))
  refine Pl.join_intro ((Pl.ite_pos e).2 ?_)
  refine Pl.join_intro ((Pl.ite_pos (decide_eq_true rfl)).2 ?_)
  refine Pl.join_intro ((Pl.ite_pos (decide_eq_true rfl)).2 ?_)
  refine Pl.join_intro ((Pl.ite_pos rfl).2 (s_Sm hv ?_))
  refine Pl.join_intro ((Pl.ite_pos e).2 ?_)
  refine Pl.join_intro ((Pl.ite_pos e).2 (s_Leq bot_vd hv ?_))
  rw [show sjn jn bot exS = exS from bot_J hv]
  show R (decide (exS = exS))
  rw [e]; exact h
end Go.Proofs.YtaibfbakhiainaaGreat
namespace Go.Proofs.YtaibfbakhiainaaGreat
open Go Go.Sh Go.Sx
theorem dt {p : Prop} [Decidable p] (h : p) : decide p = true := decide_eq_true h
theorem s_Tells {a0 a1 : T_augurlaw19_Raw} (h0 : RawOk a0) (h1 : RawOk a1) : p_augurlaw19_DigestTells a0 a1 fun b => b = true := by
  unfold p_augurlaw19_DigestTells
  refine s_known ((Pl.ite_neg (by simp)).2 (s_light (by simp) ?_))
  by_cases hL : ∀ r ∈ [a0, a1], r.Alarms.length ≤ 8 ∧ r.Mod.length ≤ 6
  · rw [dt hL]
    have l0 := hL a0 (by simp)
    have l1 := hL a1 (by simp)
    refine (Pl.ite_neg (by simp)).2 ⟨fun x => x = smU (madeS a0), fun x => x = smU (madeS a1), s_made h0 (by omega) (by omega) rfl, s_made h1 (by omega) (by omega) rfl, ?_⟩
    rintro _ rfl _ rfl
    have v0 := madeS_vd h0
    have v1 := madeS_vd h1
    generalize madeS a0 = x at *
    generalize madeS a1 = y at *
    have vj := J_vd v0 v1
    have vw := W_vd v0 v1
    refine s_Sjoin v0 v1 (w := false) (s_Join v0 v1 ?_)
    refine s_hSm vj (Pl.join_intro ((Pl.ite_pos (dt rfl)).2 (s_Widen v0 v1 (s_Sjoin v0 v1 (w := true) (s_hSm vw ?_)))))
    refine Pl.join_intro ((Pl.ite_pos (dt rfl)).2 (s_Sm v0 ?_))
    refine s_Ssame (by have := v0.alen; omega) (by have := v0.mlen; omega) v0.ret v1.ret v0.iv v1.iv ?_
    refine Pl.join_intro ((Pl.ite_pos (by simp)).2 (s_Leq v0 v1 ?_))
    refine Pl.join_intro ((Pl.ite_pos (by simp)).2 ?_)
    refine s_Ssame (by have := vj.alen; show (J x y).al.length ≤ _; omega) (by have := vj.mlen; show (J x y).mod.length ≤ _; omega) vj.ret v1.ret vj.iv v1.iv ?_
    simp
  · rw [decide_eq_false hL]
    exact (Pl.ite_pos rfl).2 rfl
theorem s_Lattice {a0 a1 a2 : T_augurlaw19_Raw} (h0 : RawOk a0) (h1 : RawOk a1) (h2 : RawOk a2) : p_augurlaw19_DigestLattice a0 a1 a2 fun b => b = true := by
  unfold p_augurlaw19_DigestLattice p_digest_Bottom
  refine s_known ((Pl.ite_neg (by simp)).2 (s_light (by simp) ?_))
  by_cases hL : ∀ r ∈ [a0, a1, a2], r.Alarms.length ≤ 8 ∧ r.Mod.length ≤ 6
  · rw [dt hL]
    have l0 := hL a0 (by simp)
    have l1 := hL a1 (by simp)
    have l2 := hL a2 (by simp)
    refine (Pl.ite_neg (by simp)).2 ⟨fun x => x = smU (madeS a0), fun x => x = smU (madeS a1), fun x => x = smU (madeS a2), s_made h0 (by omega) (by omega) rfl, s_made h1 (by omega) (by omega) rfl, s_made h2 (by omega) (by omega) rfl, ?_⟩
    rintro _ rfl _ rfl _ rfl
    have vx := madeS_vd h0
    have vy := madeS_vd h1
    have vz := madeS_vd h2
    generalize madeS a0 = x at *
    generalize madeS a1 = y at *
    generalize madeS a2 = z at *
    have vj := J_vd vx vy
    rw [← smU_bot]
    refine s_Join vx vy (s_Join vy vx (s_Sm vj ?_))
    have key : ∀ K : Bool → Prop, K true → p_digest_Leq (smU x) (smU z) fun r_44 =>
        Pl.join (fun x_9 => Pl.join (fun x_10 => K x_10) fun kp_9 => Pl.ite (x_9 = true) (kp_9 true) (p_digest_Leq (smU (sjn jn x y)) (smU z) fun r_45 => kp_9 r_45)) fun kp_8 =>
          Pl.ite ((!r_44) = true) (kp_8 true) (p_digest_Leq (smU y) (smU z) fun r_46 => kp_8 !r_46) := by
      intro K hK
      refine s_Leq vx vz (Pl.join_intro ?_)
      by_cases c1 : J x z = z
      · refine (Pl.ite_neg (by simp [c1])).2 (s_Leq vy vz ?_)
        by_cases c2 : J y z = z
        · refine Pl.join_intro ((Pl.ite_neg (by simp [c2])).2 (s_Leq vj vz ?_))
          show K (decide (J (J x y) z = z))
          rw [dt (J_least vx vy vz c1 c2)]
          exact hK
        · exact Pl.join_intro ((Pl.ite_pos (by simp [c2])).2 hK)
      · exact (Pl.ite_pos (by simp [c1])).2 (Pl.join_intro ((Pl.ite_pos rfl).2 hK))
    refine Pl.join_intro ((Pl.ite_pos (dt (J_comm vx vy))).2 (s_Join vj vz (s_Join vy vz (s_Join vx (J_vd vy vz) (s_Sm (J_vd vj vz) ?_)))))
    refine Pl.join_intro ((Pl.ite_pos (dt (J_assoc vx vy vz))).2 (s_Leq vx vj ?_))
    refine Pl.join_intro ((Pl.ite_pos (dt (J_left vx vy))).2 (s_Leq vy vj ?_))
    refine Pl.join_intro ((Pl.ite_pos (dt (J_right vx vy))).2 (key _ ?_))
    refine Pl.join_intro ((Pl.ite_pos rfl).2 (s_Widen vx vy (s_Leq vj (W_vd vx vy) ?_)))
    refine Pl.join_intro ((Pl.ite_pos (dt (J_W vx vy))).2 (s_Join vx vx (s_Sm (J_vd vx vx) ?_)))
    refine Pl.join_intro ((Pl.ite_pos (dt (J_self vx))).2 (s_Join vx bot_vd ?_))
    refine Pl.join_intro (Pl.join_intro ((Pl.ite_pos (dt (J_self vx))).2 (s_Sm (J_vd vx bot_vd) ?_)))
    exact dt (J_bot vx)
  · rw [decide_eq_false hL]
    exact (Pl.ite_pos rfl).2 rfl
end Go.Proofs.YtaibfbakhiainaaGreat
namespace Go.Sh
open Go.ChangeShapes Go.WideShapes Go.ChangeAt Go.RowKit

theorem kept_of [Gd] {w w' : World} (hs : SameW w w') (hx : Ext w.heap w'.heap) (may : MemPlace → Prop) : w.keptBut w' may := by
  refine ⟨hs.os, hs.output, fun i hi => ?_⟩
  rw [hx.2 i hi]
  cases h : w.heap[i]? with
  | none => trivial
  | some o =>
    cases o with
    | cells c t fr => exact ⟨rfl, rfl, rfl, fun _ _ => rfl⟩
    | map es c => exact .inr ⟨rfl, rfl⟩
    | _ => rfl
section
variable {H : Type} {enc : TypeId × Value → H} {P : Program}
theorem same_at {w w' : World} (hx : Ext w.heap w'.heap) {p : MemPlace} (hp : p.block < w.heap.size) : w.sameAt w' p := by
  cases p with
  | cell b off =>
    show w'.cell? _ = w.cell? _
    simp only [World.cell?]
    rw [hx.2 b hp]
  | map b => exact hx.2 b hp
theorem trodAll_ext {w w' : World} {base : Nat} {sp : Nat → Bool} {held : Bool} : ∀ {ts : List TypeId} {vs : List Value} {ds : List (DataW H)} {ps : List MemPlace}, DataW.TrodAll enc P w base sp held ts vs ds ps → (∀ p ∈ ps, w.sameAt w' p) →
    DataW.TrodAll enc P w' base sp held ts vs ds ps
  | [], [], [], _, h, _ => h
  | _ :: _, _ :: _, _ :: _, _, ⟨p, q, ⟨n, h1⟩, h2, e⟩, hs =>
    ⟨p, q, ⟨n, DataW.trod_carry n _ _ _ h1 fun x hx => hs x (by rw [e]; exact List.mem_append_left _ hx)⟩, trodAll_ext h2 fun x hx => hs x (by rw [e]; exact List.mem_append_right _ hx), e⟩
/-- A law that answers true and leaves all that there was. -/
theorem law_post [Gd] {f : Func} {s : ChangeSpec} {apart fresh handsOn again : Bool} {W W' : World} {args : Array Value} {ds gs : List (DataW H)} {before : List MemPlace} {b : TypeId}
    (hl : laidOutB P = true) (hm : mapsRowed P = true) (hz : ∀ t e, t < P.types.size → P.underlying t = some (.slice e) → 0 < P.cellsOf e) (hts : ∀ t ∈ f.params.toList, t < P.types.size)
    (hv : s.vars = []) (hr : (s.fn H (ds ++ gs)).results = [.lit (.bool true)]) (ha : (s.fn H (ds ++ gs)).args = ds) (hvv : (s.fn H (ds ++ gs)).vars = []) (hrt : f.resultTypes = #[b]) (hb : P.underlying b = some .bool)
    (hW : DataW.Whole enc P f.params.toList s.vars apart W args.toList ds gs before) (hs : SameW W W') (hx : Ext W.heap W'.heap) : s.post enc P f apart fresh handsOn again W args (.bool true) W' := by
  have hlt := hW.lt
  obtain ⟨p, q, hA, hV, he, hfz, hnd⟩ := id hW
  rw [hv] at hV
  obtain ⟨hq1, hq2⟩ := trodVars_none hV
  subst hq1; subst hq2
  rw [List.append_nil] at he
  subst he
  have hA' : DataW.TrodAll enc P W' 0 (fun _ => true) true f.params.toList args.toList ds before := trodAll_ext hA fun x hx' => same_at hx (hlt x hx')
  have hA2 : ∀ sp : Nat → Bool, (∀ p ∈ before, sp p.block = true) → DataW.TrodAll enc P W' 0 sp true f.params.toList args.toList ds before := fun sp hsp =>
    DataW.TrodAll.respare (kids_rows hl hm) hz hts hA' hsp
  have hres : ∀ (b' : Nat) (sp : Nat → Bool) (hd : Bool), DataW.TrodAll enc P W' b' sp hd f.resultTypes.toList ((Value.bool true).resultList f.resultTypes.size) [.lit (.bool true)] [] := fun b' sp hd => by
    rw [hrt]
    exact trodAll_cons_mk (shut_bool hb _) trodAll_mk0
  refine ⟨ds, [], before, [], before, [], hW, ?_, ?_, ?_, kept_of hs hx _, fun _ => ⟨?_, [.lit (.bool true)] ++ ds, [], before, ⟨before, [], ?_, ?_, by simp, fun b' off hp => ?_, fun h => hnd h⟩, fun x hx' _ => hx'⟩⟩
  · rw [hr]; exact hres _ _ _
  · rw [ha]
    exact hA2 _ fun x hx' => by simpa using hlt x hx'
  · rw [hv, hvv]; exact rfl
  · exact ok_one hrt rfl (okWide_bool_mk hb _)
  · have := trodAll_append (H := H) (enc := enc) (P := P) hA' (hres 0 (fun _ => true) true)
    exact this
  · rw [hv]; exact rfl
  · have := hfz b' off hp
    have hl2 := hlt _ hp
    have e := hx.2 b' hl2
    simp only [World.frozen?] at this ⊢
    rw [e]; exact this
end
end Go.Sh
namespace Go.Sh
open Go.ChangeShapes Go.WideShapes Go.ChangeAt Go.RowKit
structure Opn (P : Program) (t : TypeId) {α : Type} (e : En α) (ok : α → Prop) : Prop where
  run : ∀ {H : Type} {enc : TypeId × Value → H} {w : World} {base : Nat} {sp : Nat → Bool} {held : Bool} {fuel : Nat} {cs : List Value} {x : DataW H × List MemPlace},
    DataW.trod enc P w base sp held fuel t cs = some x → ∃ a, e.C (vw w.heap) cs a ∧ ok a
variable {P : Program} {t : TypeId} {α : Type}
theorem opn_int {k : IntKind} [u : Und P t (.int k)] : Opn P t (eI k) (fun z => (Lit.int k z).wf = true) := ⟨fun h => by
  obtain ⟨n, rfl, rfl, hw⟩ := DataW.trod_int u.eq h
  exact ⟨n, rfl, hw⟩⟩
theorem opn_bool [u : Und P t .bool] : Opn P t eB (fun _ => True) := ⟨fun h => by
  obtain ⟨n, rfl, rfl⟩ := DataW.trod_bool u.eq h
  exact ⟨n, rfl, trivial⟩⟩
theorem opn_str [u : Und P t .string] : Opn P t eS (fun s => s.length ≤ maxLen) := ⟨fun h => by
  obtain ⟨⟨⟨n⟩⟩, rfl, rfl, hw⟩ := DataW.trod_string u.eq h
  exact ⟨n, rfl, by simpa [ByteArray.size] using hw⟩⟩
theorem cl_of {e : En α} {F : Vw} {ι : Type} {f : ι → List Value} {g : ι → α} (h : ∀ i, e.C F (f i) (g i)) : ∀ l : List ι, CL e F (l.flatMap f) (l.map g)
  | [] => rfl
  | i :: l => ⟨f i, l.flatMap f, rfl, h i, cl_of h l⟩
theorem opn_slice {e' : TypeId} {e : En α} {ok : α → Prop} [u : Und P t (.slice e')] (hc : P.cellsOf e' = e.k) (o : Opn P e' e ok) : Opn P t (eL e) (fun l => ∀ a ∈ l, ok a) := ⟨fun {H enc w base sp held fuel cs x} h => by
  rcases DataW.trod_slice u.eq h with ⟨rfl, rfl⟩ | ⟨a, len, cap, elems, rest, n, _, rfl, rfl, hb, hl, hm, hlen, hel, _⟩
  · exact ⟨[], ⟨_, rfl, RL.nil _ _ 0⟩, by simp⟩
  have each : ∀ i : Fin len, ∃ p : List Value × α, p.1.length = e.k ∧ (∀ j, j < e.k → w.cell? ((a.add (i.val * e.k)).add j) = p.1[j]?) ∧ e.C (vw w.heap) p.1 p.2 ∧ ok p.2 := by
    intro i
    have hi := hel i.val i.isLt
    rw [hc, List.getElem?_eq_getElem (by rw [hlen]; exact i.isLt), Option.bind_eq_some_iff] at hi
    obtain ⟨ci, h1, h2⟩ := hi
    obtain ⟨_, h3, h4⟩ := World.cells?_some h1
    obtain ⟨y, h5, h6⟩ := o.run h2
    exact ⟨(ci, y), h3, h4, h5, h6⟩
  obtain ⟨f, hf⟩ := Classical.axiomOfChoice each
  have hk : ∀ i : Fin len, (f i).1.length = e.k := fun i => (hf i).1
  refine ⟨(List.finRange len).map fun i => (f i).2, ⟨_, rfl, ⟨some a, cap, ?_⟩, hl, (List.finRange len).flatMap fun i => (f i).1, ?_, cl_of (fun i => (hf i).2.2.1) _⟩, fun y hy => ?_⟩
  · rw [List.length_map, List.length_finRange]
  · rcases Nat.eq_zero_or_pos len with h0 | h0
    · subst h0; exact .inl (by simp [List.finRange])
    have hpos := e.pos
    have hsp : a.spot = none := by
      have h1 := (hf ⟨0, h0⟩).2.1 0 hpos
      have h2 : ((f ⟨0, h0⟩).1)[0]? = some ((f ⟨0, h0⟩).1[0]'(by rw [hk]; exact hpos)) := List.getElem?_eq_getElem _
      rw [h2] at h1
      simp only [Nat.zero_mul, Addr.add] at h1
      simpa using World.cell?_spot h1
    obtain ⟨b, off, spot⟩ := a
    simp only at hsp
    subst hsp
    refine .inr ⟨b, off, rfl, fun j x hx => ?_⟩
    have hjl := (List.getElem?_eq_some_iff.1 hx).1
    rw [Sh.flatK_len (enc := fun i : Fin len => (f i).1) hk, List.length_finRange] at hjl
    have hq : j / e.k < len := (Nat.div_lt_iff_lt_mul hpos).2 hjl
    have hr : j % e.k < e.k := Nat.mod_lt _ hpos
    have hcell := (hf ⟨j / e.k, hq⟩).2.1 (j % e.k) hr
    have hsome : ((f ⟨j / e.k, hq⟩).1)[j % e.k]? = some ((f ⟨j / e.k, hq⟩).1[j % e.k]'(by rw [hk]; exact hr)) := List.getElem?_eq_getElem _
    have hget := Sh.flatK_get (enc := fun i : Fin len => (f i).1) hk (l := List.finRange len) (i := j / e.k) (a := ⟨j / e.k, hq⟩) (by simp [List.finRange, hq]) hsome
    rw [Nat.div_add_mod' j e.k] at hget
    rw [hget] at hx
    rw [hsome, hx] at hcell
    rw [WideShapes.add_plain, WideShapes.add_plain] at hcell
    rw [show off + j / e.k * e.k + j % e.k = off + j by rw [Nat.add_assoc, Nat.div_add_mod']] at hcell
    exact hcell
  · obtain ⟨i, _, rfl⟩ := List.mem_map.1 hy
    exact (hf i).2.2.2⟩
/-- A field of a struct. -/
theorem opn_field {H : Type} {enc : TypeId × Value → H} {w : World} {base : Nat} {sp : Nat → Bool} {held : Bool} {n : Nat} {cs : List Value} {xs : List (DataW H × List MemPlace)} {fs : Array Field} {i : Nat} {f : Field} {e : En α} {ok : α → Prop}
    {ft off sz : Nat} (hl : xs.length = fs.size) (h : ∀ (i : Nat) (f : Field), fs[i]? = some f → DataW.trod enc P w base sp held n f.type ((cs.drop f.offset).take (P.cellsOf f.type)) = xs[i]?) (hf : fs[i]? = some f)
    (h1 : f.type = ft) (h2 : f.offset = off) (h3 : P.cellsOf ft = sz) (o : Opn P ft e ok) : ∃ a, e.C (vw w.heap) ((cs.drop off).take sz) a ∧ ok a := by
  subst h1 h2 h3
  have h1 := h i f hf
  have hi : i < xs.length := by rw [hl]; exact (Array.getElem?_eq_some_iff.1 hf).1
  rw [List.getElem?_eq_getElem hi] at h1
  exact o.run h1
end Go.Sh
namespace Go.Proofs.YtaibfbakhiainaaGreat
open Go Go.Sh Go.ChangeShapes Go.WideShapes Go.ChangeAt Go.RowKit

def ok_augurlaw19_Cell (a : T_augurlaw19_Cell) : Prop := ((Lit.int .u8 a.N).wf = true) ∧ ((Lit.int .i64 a.Lo).wf = true) ∧ ((Lit.int .i64 a.Hi).wf = true)
set_option maxRecDepth 20000 in
theorem opn_augurlaw19_Cell : Opn Tryz.prog 54 e_augurlaw19_Cell ok_augurlaw19_Cell := ⟨fun {H enc w base sp held fuel cs x} h => by
  obtain ⟨xs, n, _, _, hl, hx, hf⟩ := DataW.trod_struct Tryz.underlying54 h
  have hl : cs.length = 3 := hl.trans (by kernel_rfl)
  obtain ⟨a0, c0, o0⟩ := opn_field (ft := 5) (off := 0) (sz := 1) hx hf (i := 0) rfl rfl rfl (by kernel_rfl) opn_int
  obtain ⟨a1, c1, o1⟩ := opn_field (ft := 2) (off := 1) (sz := 1) hx hf (i := 1) rfl rfl rfl (by kernel_rfl) opn_int
  obtain ⟨a2, c2, o2⟩ := opn_field (ft := 2) (off := 2) (sz := 1) hx hf (i := 2) rfl rfl rfl (by kernel_rfl) opn_int
  match cs, hl with
  | [x0, x1, x2], _ =>
    simp only [List.drop_succ_cons, List.drop_zero, List.take_succ_cons, List.take_zero] at c0
    obtain rfl := List.head_eq_of_cons_eq c0
    simp only [List.drop_succ_cons, List.drop_zero, List.take_succ_cons, List.take_zero] at c1
    obtain rfl := List.head_eq_of_cons_eq c1
    simp only [List.drop_succ_cons, List.drop_zero, List.take_succ_cons, List.take_zero] at c2
    obtain rfl := List.head_eq_of_cons_eq c2
    exact ⟨(⟨a0, a1, a2⟩ : T_augurlaw19_Cell), rfl, o0, o1, o2⟩⟩
def ok_augurlaw19_Raw (a : T_augurlaw19_Raw) : Prop := (∀ y ∈ a.Alarms, (Lit.int .u8 y).wf = true) ∧ (True) ∧ ((Lit.int .i64 a.Lo).wf = true) ∧ ((Lit.int .i64 a.Hi).wf = true) ∧ (∀ y ∈ a.Mod, ok_augurlaw19_Cell y)
set_option maxRecDepth 20000 in
theorem opn_augurlaw19_Raw : Opn Tryz.prog 25 e_augurlaw19_Raw ok_augurlaw19_Raw := ⟨fun {H enc w base sp held fuel cs x} h => by
  obtain ⟨xs, n, _, _, hl, hx, hf⟩ := DataW.trod_struct Tryz.underlying25 h
  have hl : cs.length = 5 := hl.trans (by kernel_rfl)
  obtain ⟨a0, c0, o0⟩ := opn_field (ft := 22) (off := 0) (sz := 1) hx hf (i := 0) rfl rfl rfl (by kernel_rfl) (opn_slice (by kernel_rfl) opn_int)
  obtain ⟨a1, c1, o1⟩ := opn_field (ft := 4) (off := 1) (sz := 1) hx hf (i := 1) rfl rfl rfl (by kernel_rfl) opn_bool
  obtain ⟨a2, c2, o2⟩ := opn_field (ft := 2) (off := 2) (sz := 1) hx hf (i := 2) rfl rfl rfl (by kernel_rfl) opn_int
  obtain ⟨a3, c3, o3⟩ := opn_field (ft := 2) (off := 3) (sz := 1) hx hf (i := 3) rfl rfl rfl (by kernel_rfl) opn_int
  obtain ⟨a4, c4, o4⟩ := opn_field (ft := 23) (off := 4) (sz := 1) hx hf (i := 4) rfl rfl rfl (by kernel_rfl) (opn_slice (by kernel_rfl) opn_augurlaw19_Cell)
  match cs, hl with
  | [x0, x1, x2, x3, x4], _ =>
    simp only [List.drop_succ_cons, List.drop_zero, List.take_succ_cons, List.take_zero] at c0
    obtain ⟨v0, h0, r0⟩ := c0
    obtain rfl := List.head_eq_of_cons_eq h0
    simp only [List.drop_succ_cons, List.drop_zero, List.take_succ_cons, List.take_zero] at c1
    obtain rfl := List.head_eq_of_cons_eq c1
    simp only [List.drop_succ_cons, List.drop_zero, List.take_succ_cons, List.take_zero] at c2
    obtain rfl := List.head_eq_of_cons_eq c2
    simp only [List.drop_succ_cons, List.drop_zero, List.take_succ_cons, List.take_zero] at c3
    obtain rfl := List.head_eq_of_cons_eq c3
    simp only [List.drop_succ_cons, List.drop_zero, List.take_succ_cons, List.take_zero] at c4
    obtain ⟨v4, h4, r4⟩ := c4
    obtain rfl := List.head_eq_of_cons_eq h4
    exact ⟨(⟨a0, a1, a2, a3, a4⟩ : T_augurlaw19_Raw), ⟨_, _, rfl, r0, r4⟩, o0, o1, o2, o3, o4⟩⟩
end Go.Proofs.YtaibfbakhiainaaGreat

namespace Go.Proofs.YtaibfbakhiainaaGreat.Fu
open Go Go.Sh Go.ChangeShapes Go.WideShapes Go.ChangeAt Go.RowKit
theorem own : ownKnob Tryz.prog.godebug = none := by kernel_rfl
theorem laidOut : laidOutB Tryz.prog = true := by kernel_rfl
theorem rowed : mapsRowed Tryz.prog = true := by kernel_rfl
theorem full : ∀ t e, t < Tryz.prog.types.size → Tryz.prog.underlying t = some (.slice e) → 0 < Tryz.prog.cellsOf e := slices_full_of Tryz.prog (by kernel_rfl)
theorem rawOk {a : T_augurlaw19_Raw} (h : ok_augurlaw19_Raw a) : RawOk a := by
  obtain ⟨h1, _, h2, h3, h4⟩ := h
  have i64 : ∀ {z : Int}, (Lit.int .i64 z).wf = true → Sx.minI ≤ z ∧ z ≤ Sx.maxI := fun h => by
    have := bounds_i64 h
    unfold Sx.minI Sx.maxI; omega
  exact ⟨fun z hz => bounds_u8 (h1 z hz), i64 h2, i64 h3, fun c hc => ⟨bounds_u8 (h4 c hc).1, i64 (h4 c hc).2.1, i64 (h4 c hc).2.2⟩⟩
set_option maxRecDepth 100000 in
/-- A number that came in. -/
theorem raw_in {H : Type} {enc : TypeId × Value → H} {W : World} {r : Reach} {b0 base : Nat} {sp : Nat → Bool} {held : Bool} {v : Value} {d : DataW H} {ps : List MemPlace}
    (hval : Value.okWide Tryz.prog W r b0 25 v) (hd : DataW.Trod enc Tryz.prog W base sp held 25 v d ps) :
    ∃ (a : T_augurlaw19_Raw) (v0 v4 : Value), v = .agg #[v0, .bool a.Ends, .int .i64 a.Lo, .int .i64 a.Hi, v4] ∧ RL (eI .u8) (vw W.heap) v0 a.Alarms ∧ RL e_augurlaw19_Cell (vw W.heap) v4 a.Mod ∧ RawOk a := by
  obtain ⟨cs, rfl, _⟩ := okWide_struct Tryz.underlying25 hval
  obtain ⟨fuel, hf⟩ := hd
  obtain ⟨a, ⟨v0, v4, he, r0, r4⟩, ok⟩ := opn_augurlaw19_Raw.run hf
  refine ⟨a, v0, v4, ?_, r0, r4, rawOk ok⟩
  have : cs.toList = [v0, .bool a.Ends, .int .i64 a.Lo, .int .i64 a.Hi, v4] := he
  rw [← Array.toArray_toList (xs := cs), this]
theorem ended {W : World} {f : FuncId} {args : Array Value} {K : Value → Heap → Prop} (h : @HC Old.gdF Tryz.prog f args W.heap K) :
    Calls Tryz.prog f args W fun e w' => ∃ v, e = .returned v ∧ @SameW Old.gdF W w' ∧ K v w'.heap := HC.calls (fun _ _ h => h) h W rfl
end Go.Proofs.YtaibfbakhiainaaGreat.Fu
namespace Go.Proofs.YtaibfbakhiainaaGreat
open Go Go.Sh Go.Sx
theorem srt_len {α : Type} {O : Sx.Ord α} : ∀ {b a : List α}, Srt O a → Srt O b → (∀ x ∈ a, x ∈ b) → a.length ≤ b.length ∧ (a.length = b.length → a = b)
  | _, [], _, _, _ => ⟨by simp, fun h => (List.length_eq_zero_iff.1 h.symm).symm⟩
  | [], x :: a, _, _, h => by simpa using h x (by simp)
  | y :: b, x :: a, ha, hb, h => by
    have ha' := List.pairwise_cons.1 ha
    have hb' := List.pairwise_cons.1 hb
    have ne : ∀ {u v : α}, O.lt u v = true → v ≠ u := fun h e => by subst e; rw [O.irrefl] at h; cases h
    rcases List.mem_cons.1 (h x (by simp)) with rfl | hx
    · have ih := srt_len ha'.2 hb'.2 fun z hz => (List.mem_cons.1 (h z (by simp [hz]))).resolve_left (ne (ha'.1 z hz))
      exact ⟨by simpa using ih.1, fun e => by rw [ih.2 (by simpa using e)]⟩
    · have hy := hb'.1 x hx
      have ih := srt_len (b := b) (a := x :: a) ha hb'.2 fun z hz => (List.mem_cons.1 (h z hz)).resolve_left (ne (by
        rcases List.mem_cons.1 hz with rfl | hz
        · exact hy
        · exact O.trans _ _ _ hy (ha'.1 z hz)))
      have := ih.1
      simp only [List.length_cons] at this ⊢
      exact ⟨by omega, fun e => by omega⟩
/-- How far an interval has given way. -/
def rank : Iv → Nat
  | none => 0
  | some (l, h) => 1 + (if l = minI then 1 else 0) + (if h = maxI then 1 else 0)
theorem rank_le (a : Iv) : rank a ≤ 3 := by
  rcases a with _ | ⟨l, h⟩
  · simp [rank]
  · simp only [rank]; split <;> split <;> omega
theorem rank_wd {a b : Iv} (ha : a.Ok) (hb : b.Ok) : rank a ≤ rank (wd a (jn a b)) ∧ (rank a = rank (wd a (jn a b)) → wd a (jn a b) = a) := by
  rcases a with _ | ⟨l, h⟩
  · rcases b with _ | ⟨k, g⟩
    · exact ⟨Nat.le_refl _, fun _ => rfl⟩
    · refine ⟨Nat.zero_le _, fun e => ?_⟩
      simp only [jn, wd, rank] at e
      omega
  · rcases b with _ | ⟨k, g⟩
    · have e : wd (some (l, h)) (jn (some (l, h)) none) = some (l, h) := by simp [jn, wd]
      rw [e]; exact ⟨Nat.le_refl _, fun _ => rfl⟩
    · simp only [Iv.Ok] at ha hb
      simp only [jn, wd, rank, Option.some.injEq, Prod.mk.injEq]
      unfold minI maxI at *
      repeat' split
      all_goals omega
theorem isSome_wd {a b : Iv} : (wd a (jn a b)).isSome = (a.isSome || b.isSome) := by
  rcases a with _ | ⟨l, h⟩ <;> rcases b with _ | ⟨k, g⟩ <;> rfl
/-- A summary such as these laws make, with what it has said in full. -/
structure Vk (s : Old.Sm) : Prop where
  vd : Vd s
  er : s.ends = s.ret.isSome
  mv : ∀ k ∈ s.mod.map (·.1), (Old.gt s.mod k).isSome = true
def pot (s : Old.Sm) : Nat := s.al.length + rank s.ret + (nms.map fun k => rank (Old.gt s.mod k)).sum
theorem pot_le {s : Old.Sm} (v : Vk s) : pot s ≤ 271 := by
  have h1 := v.vd.alen
  have h2 := rank_le s.ret
  have h3 := fun k => rank_le (Old.gt s.mod k)
  have a := h3 [97]
  have b := h3 [98]
  have c := h3 [99]
  have d := h3 [100]
  simp only [pot, nms, List.map_cons, List.map_nil, List.sum_cons, List.sum_nil]
  omega
abbrev up (s m : Old.Sm) : Old.Sm := W s (J s m)
theorem gt_up (s m : Old.Sm) (k : Str) : Old.gt (up s m).mod k = wd (Old.gt s.mod k) (jn (Old.gt s.mod k) (Old.gt m.mod k)) := by rw [gt_W, gt_J]
theorem up_vk {s m : Old.Sm} (vs : Vk s) (vm : Vk m) : Vk (up s m) where
  vd := W_vd vs.vd (J_vd vs.vd vm.vd)
  er := by
    show (s.ends || (s.ends || m.ends)) = (wd s.ret (jn s.ret m.ret)).isSome
    rw [isSome_wd, vs.er, vm.er]
    cases s.ret.isSome <;> rfl
  mv := fun k hk => by
    rw [gt_up, isSome_wd]
    rw [mem_nm, mem_nm] at hk
    rcases hk with hk | hk | hk
    · rw [vs.mv k hk]; rfl
    · rw [vs.mv k hk]; rfl
    · rw [vm.mv k hk, Bool.or_true]
theorem mem_up (s m : Old.Sm) (x : Int × Int) : x ∈ (up s m).al ↔ x ∈ s.al ∨ x ∈ m.al := by
  rw [mem_al, mem_al, ← or_assoc, or_self]
theorem pot_up {s m : Old.Sm} (vs : Vk s) (vm : Vk m) : pot s ≤ pot (up s m) ∧ (up s m ≠ s → pot s < pot (up s m)) := by
  have vu := up_vk vs vm
  have h1 := srt_len vs.vd.al vu.vd.al fun x hx => (mem_up s m x).2 (.inl hx)
  have h2 := rank_wd vs.vd.ret vm.vd.ret
  have h3 := fun k => rank_wd (gt_ok vs.vd.iv k) (gt_ok vm.vd.iv k)
  have hr : (up s m).ret = wd s.ret (jn s.ret m.ret) := rfl
  have a := h3 [97]
  have b := h3 [98]
  have c := h3 [99]
  have d := h3 [100]
  have hp : pot (up s m) = (up s m).al.length + rank (wd s.ret (jn s.ret m.ret)) + (nms.map fun k => rank (wd (Old.gt s.mod k) (jn (Old.gt s.mod k) (Old.gt m.mod k)))).sum := by
    unfold pot
    rw [hr]
    simp only [gt_up]
  rw [hp]
  simp only [pot, nms, List.map_cons, List.map_nil, List.sum_cons, List.sum_nil]
  refine ⟨by omega, fun hne => ?_⟩
  rcases Nat.lt_or_ge (s.al.length + rank s.ret + (rank (Old.gt s.mod [97]) + (rank (Old.gt s.mod [98]) + (rank (Old.gt s.mod [99]) + (rank (Old.gt s.mod [100]) + 0)))))
    ((up s m).al.length + rank (wd s.ret (jn s.ret m.ret)) + (rank (wd (Old.gt s.mod [97]) (jn (Old.gt s.mod [97]) (Old.gt m.mod [97]))) + (rank (wd (Old.gt s.mod [98]) (jn (Old.gt s.mod [98]) (Old.gt m.mod [98]))) + (rank (wd (Old.gt s.mod [99]) (jn (Old.gt s.mod [99]) (Old.gt m.mod [99]))) + (rank (wd (Old.gt s.mod [100]) (jn (Old.gt s.mod [100]) (Old.gt m.mod [100]))) + 0))))) with hlt | hge
  · exact hlt
  · exfalso
    refine hne ?_
    have e1 := h1.2 (by omega)
    have e2 := h2.2 (by omega)
    have ea := a.2 (by omega)
    have eb := b.2 (by omega)
    have ec := c.2 (by omega)
    have ed := d.2 (by omega)
    have hg : ∀ k, Old.gt (up s m).mod k = Old.gt s.mod k := fun k => by
      rw [gt_up]
      by_cases hk : k ∈ nms
      · simp only [nms, List.mem_cons, List.not_mem_nil, or_false] at hk
        rcases hk with rfl | rfl | rfl | rfl
        · exact ea
        · exact eb
        · exact ec
        · exact ed
      · have no : ∀ {z : Old.Sm}, Vd z → Old.gt z.mod k = none := fun v => gt_none fun h => by
          obtain ⟨p, hp, rfl⟩ := List.mem_map.1 h
          exact hk (v.nm p hp)
        rw [no vs.vd, no vm.vd]; rfl
    have hn : ∀ {z : Old.Sm}, Vk z → ∀ k, k ∈ z.mod.map (·.1) ↔ (Old.gt z.mod k).isSome = true := fun v k =>
      ⟨v.mv k, fun h => by
        refine Classical.byContradiction fun hk => ?_
        rw [gt_none hk] at h; cases h⟩
    refine sm_ext vu.vd vs.vd (fun x => by rw [e1]) ?_ (hr.trans e2) (fun k => by rw [hn vu, hn vs, hg]) hg
    rw [vu.er, vs.er, hr, e2]
end Go.Proofs.YtaibfbakhiainaaGreat
namespace Go.Proofs.YtaibfbakhiainaaGreat
open Go Go.Sh Go.Sx
theorem gt_some : ∀ {l : List (Str × Iv)} {k : Str}, (∀ p ∈ l, p.2.isSome = true) → k ∈ l.map (·.1) → (Old.gt l k).isSome = true
  | [], _, _, h => by simp at h
  | (k', v) :: l, k, hv, h => by
    rw [gt_cons]
    by_cases e : k' = k
    · rw [if_pos e]; exact hv (k', v) (by simp)
    · rw [if_neg e]
      refine gt_some (fun p hp => hv p (by simp [hp])) ?_
      rw [List.map_cons, List.mem_cons] at h
      exact h.resolve_left fun h => e h.symm
theorem madeS_vk {r : T_augurlaw19_Raw} (h : RawOk r) : Vk (madeS r) := by
  refine ⟨madeS_vd h, ?_, fun k hk => gt_some (fun p hp => ?_) hk⟩
  · unfold madeS; split <;> rfl
  · unfold madeS at hp
    split at hp
    · obtain ⟨x, _, rfl⟩ := List.mem_map.1 hp
      rfl
    · simp at hp
theorem bot_vk : Vk bot := ⟨bot_vd, rfl, by simp [bot]⟩
theorem J_Wl {a b : Old.Sm} (ha : Vd a) (hb : Vd b) : J a (W a b) = W a b := by
  have vw := W_vd ha hb
  have vj := J_vd ha hb
  rw [← J_W ha hb, ← J_assoc ha vj vw, J_left ha hb]
theorem J_up {s m : Old.Sm} (hs : Vd s) (hm : Vd m) : J m (up s m) = up s m := by
  have vy := J_vd hs hm
  have vw := W_vd hs vy
  have h1 : J (J s m) (up s m) = up s m := by
    have := J_W hs vy
    rwa [J_left hs hm] at this
  calc J m (up s m) = J m (J (J s m) (up s m)) := by rw [h1]
    _ = J (J m (J s m)) (up s m) := (J_assoc hm vy vw).symm
    _ = up s m := by rw [J_right hs hm, h1]
theorem join_when {κ : Type} {k : κ} {B : κ → Prop} (C : κ → Prop) (hk : C k) (hB : ∀ k, C k → B k) : Pl.join k B := hB k hk
theorem s_Widens {a0 : List T_augurlaw19_Raw} (h0 : ∀ r ∈ a0, RawOk r) : p_augurlaw19_DigestWidens a0 fun b => b = true := by
  unfold p_augurlaw19_DigestWidens p_digest_Bottom
  refine s_known ((Pl.ite_neg (by simp)).2 (Pl.join_intro ?_))
  by_cases h40 : 40 < (List.length a0 : Int)
  · exact (Pl.ite_pos h40).2 ((Pl.ite_pos rfl).2 rfl)
  refine (Pl.ite_neg h40).2 (s_light (by omega) ?_)
  by_cases hL : ∀ r ∈ a0, r.Alarms.length ≤ 8 ∧ r.Mod.length ≤ 6
  case neg =>
    rw [decide_eq_false hL]
    exact (Pl.ite_pos rfl).2 rfl
  rw [dt hL]
  refine (Pl.ite_neg (by simp)).2 ?_
  rw [← smU_bot]
  refine ⟨fun m x6 x7 x8 => ∃ (i c : Nat) (s : Old.Sm), x6 = c ∧ x7 = i ∧ x8 = smU s ∧ i ≤ a0.length ∧ m = a0.length - i ∧ Vk s ∧ c ≤ pot s, a0.length, ⟨0, 0, bot, rfl, rfl, rfl, Nat.zero_le _, rfl, bot_vk, Nat.zero_le _⟩, ?_⟩
  rintro m x6 x7 x8 ⟨i, c, s, rfl, rfl, rfl, hi, rfl, vs, hc⟩
  have hp := pot_le vs
  by_cases hlt : i < a0.length
  · refine (Pl.ite_pos (by omega)).2 ?_
    obtain ⟨a, ha⟩ : ∃ a, a0[i]? = some a := ⟨_, List.getElem?_eq_getElem hlt⟩
    have hin := List.mem_of_getElem? ha
    have hok := h0 a hin
    have hl := hL a hin
    refine Pl.get_nat ha ?_
    have vm := madeS_vk hok
    have mk : ∀ {R : T_api_Summary → Prop}, R (smU (madeS a)) → p_augurlaw19_made a R := fun h => s_made hok (by omega) (by omega) h
    generalize madeS a = m at *
    have vy := J_vd vs.vd vm.vd
    have vu := up_vk vs vm
    have hpu := pot_le vu
    obtain ⟨p1, p2⟩ := pot_up vs vm
    refine ⟨fun x => x = smU m, fun x => x = smU (J s m), fun x => x = smU (up s m), mk rfl, ?_, ?_, ?_⟩
    · rintro _ rfl; exact s_Join vs.vd vm.vd rfl
    · rintro _ rfl; exact s_Widen vs.vd vy rfl
    rintro _ rfl _ rfl _ rfl
    refine join_when (fun kp : Int → Prop => ∀ d : Nat, d ≤ pot (up s m) → kp (d : Int)) (fun d hd => ?_) fun kp hkp => ?_
    · refine s_Leq vs.vd vu.vd ?_
      rw [dt (show sjn jn s (up s m) = up s m from J_Wl vs.vd vy)]
      refine Pl.join_intro ((Pl.ite_neg (by simp)).2 (Pl.get_nat ha (mk (Pl.join_intro ((Pl.ite_neg (by simp)).2 (s_Leq vm.vd vu.vd ?_))))))
      rw [dt (show sjn jn m (up s m) = up s m from J_up vs.vd vm.vd)]
      refine (Pl.ite_neg (by simp)).2 ?_
      rw [wrap_inc (n := a0.length) hlt (by omega)]
      exact ⟨a0.length - (i + 1), by omega, i + 1, d, up s m, rfl, rfl, rfl, hlt, rfl, vu, hd⟩
    · refine s_Sm vu.vd ?_
      by_cases he : up s m = s
      · rw [dt he]
        exact (Pl.ite_neg (by simp)).2 (hkp c (by omega))
      · rw [decide_eq_false he]
        have := p2 he
        rw [wrap_inc (n := 272) (by omega) (by omega)]
        exact (Pl.ite_pos rfl).2 (hkp (c + 1) (by omega))
  · refine (Pl.ite_neg (by omega)).2 ?_
    exact dt (by omega)
end Go.Proofs.YtaibfbakhiainaaGreat
