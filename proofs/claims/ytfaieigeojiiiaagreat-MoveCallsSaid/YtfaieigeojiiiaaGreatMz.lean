/- Functions keep to their contracts. -/
import Derived.Test.YtfaieigeojiiiaaGreatMj
import Derived.Test.YtfaieigeojiiiaaGreatMv5
import Derived.Test.YtfaieigeojiiiaaGreatMx
set_option linter.unusedVariables false
set_option maxRecDepth 100000
noncomputable section
namespace Go.Proofs.YtfaieigeojiiiaaGreat
open Go Go.Sh Go.Va
theorem bodyQ_q {tab : Tr FFn} {ls : List LCt} {k : FFn} {c c' : Ctr} (hi : c.i = c'.i) (ho : c.o = c'.o) {xs : List LD} {Ks : Nat → List LD → Prop} (h : bodyQ tab ls k c xs Ks) : bodyQ tab ls k c' xs Ks := by
  obtain ⟨i, o, q⟩ := c; obtain ⟨i', o', q'⟩ := c'
  simp only at hi ho; subst hi ho
  unfold bodyQ retQ outQ at *; exact h
def tabK : Tr FFn := (.node 115 (.node 43 (.node 21 (.node 11 (.node 7 (.node 5 (.node 4 (.leaf 3 k3) (.leaf 4 k4)) (.node 6 (.leaf 5 k5) (.leaf 6 k6))) (.node 9 (.node 8 (.leaf 7 k7) (.leaf 8 k8)) (.node 10 (.leaf 9 k9) (.leaf 10 k10)))) (.node 15 (.node 13 (.node 12 (.leaf 11 k11) (.leaf 12 k12)) (.node 14 (.leaf 13 k13) (.leaf 14 k14))) (.node 17 (.node 16 (.leaf 15 k15) (.leaf 16 k16)) (.node 18 (.leaf 17 k17) (.node 19 (.leaf 18 k18) (.leaf 19 k19)))))) (.node 33 (.node 29 (.node 25 (.node 24 (.leaf 21 k21) (.leaf 24 k24)) (.node 28 (.leaf 25 k25) (.leaf 28 k28))) (.node 31 (.node 30 (.leaf 29 k29) (.leaf 30 k30)) (.node 32 (.leaf 31 k31) (.leaf 32 k32)))) (.node 38 (.node 35 (.node 34 (.leaf 33 k33) (.leaf 34 k34)) (.node 36 (.leaf 35 k35) (.leaf 36 k36))) (.node 40 (.node 39 (.leaf 38 k38) (.leaf 39 k39)) (.node 41 (.leaf 40 k40) (.node 42 (.leaf 41 k41) (.leaf 42 k42))))))) (.node 87 (.node 76 (.node 50 (.node 48 (.node 44 (.leaf 43 k43) (.leaf 44 k44)) (.node 49 (.leaf 48 k48) (.leaf 49 k49))) (.node 52 (.node 51 (.leaf 50 k50) (.leaf 51 k51)) (.node 73 (.leaf 52 k52) (.leaf 73 k73)))) (.node 81 (.node 79 (.node 78 (.leaf 76 k76) (.leaf 78 k78)) (.node 80 (.leaf 79 k79) (.leaf 80 k80))) (.node 83 (.node 82 (.leaf 81 k81) (.leaf 82 k82)) (.node 85 (.leaf 83 k83) (.node 86 (.leaf 85 k85) (.leaf 86 k86)))))) (.node 100 (.node 96 (.node 92 (.node 88 (.leaf 87 k87) (.leaf 88 k88)) (.node 94 (.leaf 92 k92) (.leaf 94 k94))) (.node 98 (.node 97 (.leaf 96 k96) (.leaf 97 k97)) (.node 99 (.leaf 98 k98) (.leaf 99 k99)))) (.node 105 (.node 102 (.node 101 (.leaf 100 k100) (.leaf 101 k101)) (.node 103 (.leaf 102 k102) (.leaf 103 k103))) (.node 112 (.node 111 (.leaf 105 k105) (.leaf 111 k111)) (.node 113 (.leaf 112 k112) (.node 114 (.leaf 113 k113) (.leaf 114 k114)))))))) (.node 171 (.node 142 (.node 133 (.node 129 (.node 123 (.node 116 (.leaf 115 k115) (.leaf 116 k116)) (.node 126 (.leaf 123 k123) (.leaf 126 k126))) (.node 131 (.node 130 (.leaf 129 k129) (.leaf 130 k130)) (.node 132 (.leaf 131 k131) (.leaf 132 k132)))) (.node 137 (.node 135 (.node 134 (.leaf 133 k133) (.leaf 134 k134)) (.node 136 (.leaf 135 k135) (.leaf 136 k136))) (.node 139 (.node 138 (.leaf 137 k137) (.leaf 138 k138)) (.node 140 (.leaf 139 k139) (.node 141 (.leaf 140 k140) (.leaf 141 k141)))))) (.node 159 (.node 154 (.node 144 (.node 143 (.leaf 142 k142) (.leaf 143 k143)) (.node 153 (.leaf 144 k144) (.leaf 153 k153))) (.node 157 (.node 155 (.leaf 154 k154) (.leaf 155 k155)) (.node 158 (.leaf 157 k157) (.leaf 158 k158)))) (.node 163 (.node 161 (.node 160 (.leaf 159 k159) (.leaf 160 k160)) (.node 162 (.leaf 161 k161) (.leaf 162 k162))) (.node 168 (.node 166 (.leaf 163 k163) (.leaf 166 k166)) (.node 169 (.leaf 168 k168) (.node 170 (.leaf 169 k169) (.leaf 170 k170))))))) (.node 208 (.node 181 (.node 175 (.node 173 (.node 172 (.leaf 171 k171) (.leaf 172 k172)) (.node 174 (.leaf 173 k173) (.leaf 174 k174))) (.node 177 (.node 176 (.leaf 175 k175) (.leaf 176 k176)) (.node 178 (.leaf 177 k177) (.leaf 178 k178)))) (.node 192 (.node 190 (.node 187 (.leaf 181 k181) (.leaf 187 k187)) (.node 191 (.leaf 190 k190) (.leaf 191 k191))) (.node 194 (.node 193 (.leaf 192 k192) (.leaf 193 k193)) (.node 195 (.leaf 194 k194) (.node 207 (.leaf 195 k195) (.leaf 207 k207)))))) (.node 224 (.node 213 (.node 211 (.node 210 (.leaf 208 k208) (.leaf 210 k210)) (.node 212 (.leaf 211 k211) (.leaf 212 k212))) (.node 218 (.node 214 (.leaf 213 k213) (.leaf 214 k214)) (.node 220 (.leaf 218 k218) (.leaf 220 k220)))) (.node 236 (.node 231 (.node 230 (.leaf 224 k224) (.leaf 230 k230)) (.node 232 (.leaf 231 k231) (.leaf 232 k232))) (.node 238 (.node 237 (.leaf 236 k236) (.leaf 237 k237)) (.node 240 (.leaf 238 k238) (.node 243 (.leaf 240 k240) (.leaf 243 k243)))))))))
theorem tabK_ok : TabOk Tryz.prog tabK := ⟨⟨⟨⟨⟨⟨⟨j3, j4⟩, ⟨j5, j6⟩⟩, ⟨⟨j7, j8⟩, ⟨j9, j10⟩⟩⟩, ⟨⟨⟨j11, j12⟩, ⟨j13, j14⟩⟩, ⟨⟨j15, j16⟩, ⟨j17, ⟨j18, j19⟩⟩⟩⟩⟩, ⟨⟨⟨⟨j21, j24⟩, ⟨j25, j28⟩⟩, ⟨⟨j29, j30⟩, ⟨j31, j32⟩⟩⟩, ⟨⟨⟨j33, j34⟩, ⟨j35, j36⟩⟩, ⟨⟨j38, j39⟩, ⟨j40, ⟨j41, j42⟩⟩⟩⟩⟩⟩, ⟨⟨⟨⟨⟨j43, j44⟩, ⟨j48, j49⟩⟩, ⟨⟨j50, j51⟩, ⟨j52, j73⟩⟩⟩, ⟨⟨⟨j76, j78⟩, ⟨j79, j80⟩⟩, ⟨⟨j81, j82⟩, ⟨j83, ⟨j85, j86⟩⟩⟩⟩⟩, ⟨⟨⟨⟨j87, j88⟩, ⟨j92, j94⟩⟩, ⟨⟨j96, j97⟩, ⟨j98, j99⟩⟩⟩, ⟨⟨⟨j100, j101⟩, ⟨j102, j103⟩⟩, ⟨⟨j105, j111⟩, ⟨j112, ⟨j113, j114⟩⟩⟩⟩⟩⟩⟩, ⟨⟨⟨⟨⟨⟨j115, j116⟩, ⟨j123, j126⟩⟩, ⟨⟨j129, j130⟩, ⟨j131, j132⟩⟩⟩, ⟨⟨⟨j133, j134⟩, ⟨j135, j136⟩⟩, ⟨⟨j137, j138⟩, ⟨j139, ⟨j140, j141⟩⟩⟩⟩⟩, ⟨⟨⟨⟨j142, j143⟩, ⟨j144, j153⟩⟩, ⟨⟨j154, j155⟩, ⟨j157, j158⟩⟩⟩, ⟨⟨⟨j159, j160⟩, ⟨j161, j162⟩⟩, ⟨⟨j163, j166⟩, ⟨j168, ⟨j169, j170⟩⟩⟩⟩⟩⟩, ⟨⟨⟨⟨⟨j171, j172⟩, ⟨j173, j174⟩⟩, ⟨⟨j175, j176⟩, ⟨j177, j178⟩⟩⟩, ⟨⟨⟨j181, j187⟩, ⟨j190, j191⟩⟩, ⟨⟨j192, j193⟩, ⟨j194, ⟨j195, j207⟩⟩⟩⟩⟩, ⟨⟨⟨⟨j208, j210⟩, ⟨j211, j212⟩⟩, ⟨⟨j213, j214⟩, ⟨j218, j220⟩⟩⟩, ⟨⟨⟨j224, j230⟩, ⟨j231, j232⟩⟩, ⟨⟨j236, j237⟩, ⟨j238, ⟨j240, j243⟩⟩⟩⟩⟩⟩⟩⟩
theorem known_run : runs tabK 13 1000 1000 4 [] .nil = (FV.bool true = FV.bool true) := by kernel_rfl
theorem j4t : KOk Tryz.prog 4 .t := kok_t (tab := tabK) (b := 13) (lf := 1000) (n := 1000) (fun _ _ h => TabOk.get tabK_ok h) ⟨.nil, by rw [known_run]⟩ Tryz.call4
theorem tabC_ok : TabOk Tryz.prog tabC := ⟨⟨⟨⟨⟨⟨⟨j3, j4t⟩, ⟨j5, j6⟩⟩, ⟨⟨j7, j8⟩, ⟨j9, j10⟩⟩⟩, ⟨⟨⟨j11, j12⟩, ⟨j13, j14⟩⟩, ⟨⟨j15, j16⟩, ⟨j17, ⟨j18, j19⟩⟩⟩⟩⟩, ⟨⟨⟨⟨j21, j24⟩, ⟨j25, j28⟩⟩, ⟨⟨j29, j30⟩, ⟨j31, j32⟩⟩⟩, ⟨⟨⟨j33, j34⟩, ⟨j35, j36⟩⟩, ⟨⟨j38, j39⟩, ⟨j40, ⟨j41, j42⟩⟩⟩⟩⟩⟩, ⟨⟨⟨⟨⟨j43, j44⟩, ⟨j48, j49⟩⟩, ⟨⟨j50, j51⟩, ⟨j52, j73⟩⟩⟩, ⟨⟨⟨j76, j78⟩, ⟨j79, j80⟩⟩, ⟨⟨j81, j82⟩, ⟨j83, ⟨j85, j86⟩⟩⟩⟩⟩, ⟨⟨⟨⟨j87, j88⟩, ⟨j92, j94⟩⟩, ⟨⟨j96, j97⟩, ⟨j98, j99⟩⟩⟩, ⟨⟨⟨j100, j101⟩, ⟨j102, j103⟩⟩, ⟨⟨j105, j111⟩, ⟨j112, ⟨j113, j114⟩⟩⟩⟩⟩⟩⟩, ⟨⟨⟨⟨⟨⟨j115, j116⟩, ⟨j123, j126⟩⟩, ⟨⟨j129, j130⟩, ⟨j131, j132⟩⟩⟩, ⟨⟨⟨j133, j134⟩, ⟨j135, j136⟩⟩, ⟨⟨j137, j138⟩, ⟨j139, ⟨j140, j141⟩⟩⟩⟩⟩, ⟨⟨⟨⟨j142, j143⟩, ⟨j144, j153⟩⟩, ⟨⟨j154, j155⟩, ⟨j157, j158⟩⟩⟩, ⟨⟨⟨j159, j160⟩, ⟨j161, j162⟩⟩, ⟨⟨j163, j166⟩, ⟨j168, ⟨j169, j170⟩⟩⟩⟩⟩⟩, ⟨⟨⟨⟨⟨j171, j172⟩, ⟨j173, j174⟩⟩, ⟨⟨j175, j176⟩, ⟨j177, j178⟩⟩⟩, ⟨⟨⟨j181, j187⟩, ⟨j190, j191⟩⟩, ⟨⟨j192, j193⟩, ⟨j194, ⟨j195, j207⟩⟩⟩⟩⟩, ⟨⟨⟨⟨j208, j210⟩, ⟨j211, j212⟩⟩, ⟨⟨j213, j214⟩, ⟨j218, j220⟩⟩⟩, ⟨⟨⟨j224, j230⟩, ⟨j231, j232⟩⟩, ⟨⟨j236, j237⟩, ⟨j238, ⟨j240, j243⟩⟩⟩⟩⟩⟩⟩⟩
theorem tC : ∀ i f, tabC.get i = some f → KOk Tryz.prog i f := fun _ _ h => TabOk.get tabC_ok h
theorem ok5 : KOk Tryz.prog 5 (.q (ct5 q5)) := kq rfl (q_of tC j5 (ls := []) (fun _ h => nomatch h) rfl fun xs Ks _ h => by
  obtain ⟨so, l, h, rfl, hk⟩ := h
  exact bodyQ_q rfl rfl (t5 (Ks := nthK Ks) hk))
theorem ok16 : KOk Tryz.prog 16 (.q (ct16 q16)) := kq rfl (q_of tC j16 (ls := []) (fun _ h => nomatch h) rfl fun xs Ks _ h => by
  obtain ⟨_, _, _, _, _, _, _, _, _, _, _, _, rfl, hk⟩ := h
  exact bodyQ_q rfl rfl (t16 (Ks := nthK Ks) hk))
theorem ok114 : KOk Tryz.prog 114 (.q (ct114 q114)) := kq rfl (q_of tC j114 (ls := []) (fun _ h => nomatch h) rfl fun xs Ks _ h => by
  obtain ⟨_, _, _, _, _, _, _, _, _, _, _, _, rfl, hk⟩ := h
  exact bodyQ_q rfl rfl (t114 (Ks := nthK Ks) hk))
theorem ok8 : KOk Tryz.prog 8 (.q (ct8 q8)) := kq rfl (q_of tC j8 (ls := []) (fun _ h => nomatch h) rfl fun xs Ks _ h => by
  obtain ⟨_, _, _, _, _, _, _, _, _, _, _, _, _, _, rfl, hl, ⟨rfl, hk⟩ | ⟨rfl, hk⟩⟩ := h
  · exact bodyQ_q rfl rfl (t8c (Ks := nthK Ks) hl hk)
  · exact bodyQ_q rfl rfl (t8d (Ks := nthK Ks) hl hk))
theorem ok76 : KOk Tryz.prog 76 (.q (ct76 q76)) := kq rfl (q_of tC j76 (ls := []) (fun _ h => nomatch h) rfl fun xs Ks _ h => by
  obtain ⟨_, _, _, _, _, _, _, _, _, _, _, _, _, _, rfl, rfl | ⟨ap, cp, rfl⟩, hl, ⟨rfl, hk⟩ | ⟨rfl, hk⟩⟩ := h
  · exact bodyQ_q rfl rfl (t76cn (Ks := nthK Ks) hl hk)
  · exact bodyQ_q rfl rfl (t76dn (Ks := nthK Ks) hl hk)
  · exact bodyQ_q rfl rfl (t76cl (Ks := nthK Ks) hl hk)
  · exact bodyQ_q rfl rfl (t76dl (Ks := nthK Ks) hl hk))
theorem lp92 : LpOk Tryz.prog 92 44 m92 2 b92 := lp_of (pls := ([pq 6 11 [0, 3, 6, 9, 12, 18, 21, 24, 17, 29, 32]] ++ nf [0, 1, 3, 4, 5])) Tryz.func92 rfl (by kernel_rfl)
theorem l92 : LsI Tryz.prog 92 (lc92 fun xs Ks => ∃ k, ql92 k xs Ks) := lc_of (tab := tabC) (S := lc92 fun _ _ => False) (fun _ _ h => TabOk.get tabC_ok h) lp92 (ls := []) (fun _ h => nomatch h) rfl (q := ql92) (fun xs Ks h => by
  obtain ⟨_, _, _, rfl, _, _, _, hk, _⟩ := h
  exact absurd hk (Nat.not_lt_zero _)) (fun k xs Ks hw h => by
  obtain ⟨_, _, _, rfl, _⟩ := id h
  exact t92l h)
theorem ok92 : KOk Tryz.prog 92 (.q (ct92 q92)) := kq rfl (q_of tC j92 (ls := [lc92 fun xs Ks => ∃ k, ql92 k xs Ks]) (fun S hS => by rw [List.mem_singleton.1 hS]; exact l92) rfl fun xs Ks _ h => by
  obtain ⟨_, _, rfl, hl, hk⟩ := h
  exact bodyQ_q rfl rfl (t92 (Ks := nthK Ks) hl hk))
theorem ok52 : KOk Tryz.prog 52 (.q (ct52 q52)) := kq rfl (q_of tC j52 (ls := []) (fun _ h => nomatch h) rfl fun xs Ks _ h => by
  obtain ⟨_, _, _, _, _, _, _, _, _, _, _, _, _, _, _, _, _, _, _, _, rfl, rfl | ⟨ap, cp, rfl⟩, k0, k1⟩ := h
  · exact bodyQ_q rfl rfl (t52n (Ks := nthK Ks) k0 k1)
  · exact bodyQ_q rfl rfl (t52l (Ks := nthK Ks) k0 k1))
theorem ok85 : KOk Tryz.prog 85 (.q (ct85 q85)) := kq rfl (q_of tC j85 (ls := []) (fun _ h => nomatch h) rfl fun xs Ks _ h => by
  obtain ⟨_, _, _, _, _, _, _, _, _, _, _, _, _, _, _, _, _, _, _, _, rfl, k0, k1⟩ := h
  exact bodyQ_q rfl rfl (t85 (Ks := nthK Ks) k0 k1))
theorem ok79 : KOk Tryz.prog 79 (.q (ct79 q79)) := kq rfl (q_of tC j79 (ls := []) (fun _ h => nomatch h) rfl fun xs Ks _ h => by
  obtain ⟨_, _, _, _, _, _, _, _, _, _, _, rfl, rfl | ⟨ap, cp, rfl⟩, k1⟩ := h
  · exact bodyQ_q rfl rfl (t79n (Ks := nthK Ks) k1)
  · exact bodyQ_q rfl rfl (t79l (Ks := nthK Ks) k1))
theorem ok12 : KOk Tryz.prog 12 (.q (ct12 q12)) := kq rfl (q_of tC j12 (ls := []) (fun _ h => nomatch h) rfl fun xs Ks _ h => by
  obtain ⟨x, y, rfl, hl, hk⟩ := h
  cases hl with
  | f => exact bodyQ_q rfl rfl (t12f (Ks := nthK Ks) hk)
  | t _ _ _ _ _ _ _ _ _ _ _ _ _ _ _ _ _ _ hp hp2 =>
    rcases hp with rfl | ⟨_, _, rfl⟩ <;> rcases hp2 with rfl | ⟨_, _, rfl⟩
    · exact bodyQ_q rfl rfl (t12nn (Ks := nthK Ks) hk)
    · exact bodyQ_q rfl rfl (t12nl (Ks := nthK Ks) hk)
    · exact bodyQ_q rfl rfl (t12ln (Ks := nthK Ks) hk)
    · exact bodyQ_q rfl rfl (t12ll (Ks := nthK Ks) hk))
theorem ok13 : KOk Tryz.prog 13 (.q (ct13 q13)) := kq rfl (q_of tC j13 (ls := []) (fun _ h => nomatch h) rfl fun xs Ks _ h => by
  obtain ⟨x, y, rfl, hl, hk⟩ := h
  cases hl with
  | n => exact bodyQ_q rfl rfl (t13n (Ks := nthK Ks) hk)
  | e => exact bodyQ_q rfl rfl (t13e (Ks := nthK Ks) hk)
  | l => exact bodyQ_q rfl rfl (t13l (Ks := nthK Ks) hk))
theorem tabR_ok : TabOk Tryz.prog (tabR q5 q8 q16 q92) := ⟨⟨⟨⟨⟨⟨⟨j3, j4t⟩, ⟨ok5, j6⟩⟩, ⟨⟨j7, ok8⟩, ⟨j9, j10⟩⟩⟩, ⟨⟨⟨j11, j12⟩, ⟨j13, j14⟩⟩, ⟨⟨j15, ok16⟩, ⟨j17, ⟨j18, j19⟩⟩⟩⟩⟩, ⟨⟨⟨⟨j21, j24⟩, ⟨j25, j28⟩⟩, ⟨⟨j29, j30⟩, ⟨j31, j32⟩⟩⟩, ⟨⟨⟨j33, j34⟩, ⟨j35, j36⟩⟩, ⟨⟨j38, j39⟩, ⟨j40, ⟨j41, j42⟩⟩⟩⟩⟩⟩, ⟨⟨⟨⟨⟨j43, j44⟩, ⟨j48, j49⟩⟩, ⟨⟨j50, j51⟩, ⟨j52, j73⟩⟩⟩, ⟨⟨⟨j76, j78⟩, ⟨j79, j80⟩⟩, ⟨⟨j81, j82⟩, ⟨j83, ⟨j85, j86⟩⟩⟩⟩⟩, ⟨⟨⟨⟨j87, j88⟩, ⟨ok92, j94⟩⟩, ⟨⟨j96, j97⟩, ⟨j98, j99⟩⟩⟩, ⟨⟨⟨j100, j101⟩, ⟨j102, j103⟩⟩, ⟨⟨j105, j111⟩, ⟨j112, ⟨j113, j114⟩⟩⟩⟩⟩⟩⟩, ⟨⟨⟨⟨⟨⟨j115, j116⟩, ⟨j123, j126⟩⟩, ⟨⟨j129, j130⟩, ⟨j131, j132⟩⟩⟩, ⟨⟨⟨j133, j134⟩, ⟨j135, j136⟩⟩, ⟨⟨j137, j138⟩, ⟨j139, ⟨j140, j141⟩⟩⟩⟩⟩, ⟨⟨⟨⟨j142, j143⟩, ⟨j144, j153⟩⟩, ⟨⟨j154, j155⟩, ⟨j157, j158⟩⟩⟩, ⟨⟨⟨j159, j160⟩, ⟨j161, j162⟩⟩, ⟨⟨j163, j166⟩, ⟨j168, ⟨j169, j170⟩⟩⟩⟩⟩⟩, ⟨⟨⟨⟨⟨j171, j172⟩, ⟨j173, j174⟩⟩, ⟨⟨j175, j176⟩, ⟨j177, j178⟩⟩⟩, ⟨⟨⟨j181, j187⟩, ⟨j190, j191⟩⟩, ⟨⟨j192, j193⟩, ⟨j194, ⟨j195, j207⟩⟩⟩⟩⟩, ⟨⟨⟨⟨j208, j210⟩, ⟨j211, j212⟩⟩, ⟨⟨j213, j214⟩, ⟨j218, j220⟩⟩⟩, ⟨⟨⟨j224, j230⟩, ⟨j231, j232⟩⟩, ⟨⟨j236, j237⟩, ⟨j238, ⟨j240, j243⟩⟩⟩⟩⟩⟩⟩⟩
theorem tabP_ok : TabOk Tryz.prog (tabP q76 q114) := ⟨⟨⟨⟨⟨⟨⟨j3, j4t⟩, ⟨j5, j6⟩⟩, ⟨⟨j7, j8⟩, ⟨j9, j10⟩⟩⟩, ⟨⟨⟨j11, j12⟩, ⟨j13, j14⟩⟩, ⟨⟨j15, j16⟩, ⟨j17, ⟨j18, j19⟩⟩⟩⟩⟩, ⟨⟨⟨⟨j21, j24⟩, ⟨j25, j28⟩⟩, ⟨⟨j29, j30⟩, ⟨j31, j32⟩⟩⟩, ⟨⟨⟨j33, j34⟩, ⟨j35, j36⟩⟩, ⟨⟨j38, j39⟩, ⟨j40, ⟨j41, j42⟩⟩⟩⟩⟩⟩, ⟨⟨⟨⟨⟨j43, j44⟩, ⟨j48, j49⟩⟩, ⟨⟨j50, j51⟩, ⟨j52, j73⟩⟩⟩, ⟨⟨⟨ok76, j78⟩, ⟨j79, j80⟩⟩, ⟨⟨j81, j82⟩, ⟨j83, ⟨j85, j86⟩⟩⟩⟩⟩, ⟨⟨⟨⟨j87, j88⟩, ⟨j92, j94⟩⟩, ⟨⟨j96, j97⟩, ⟨j98, j99⟩⟩⟩, ⟨⟨⟨j100, j101⟩, ⟨j102, j103⟩⟩, ⟨⟨j105, j111⟩, ⟨j112, ⟨j113, ok114⟩⟩⟩⟩⟩⟩⟩, ⟨⟨⟨⟨⟨⟨j115, j116⟩, ⟨j123, j126⟩⟩, ⟨⟨j129, j130⟩, ⟨j131, j132⟩⟩⟩, ⟨⟨⟨j133, j134⟩, ⟨j135, j136⟩⟩, ⟨⟨j137, j138⟩, ⟨j139, ⟨j140, j141⟩⟩⟩⟩⟩, ⟨⟨⟨⟨j142, j143⟩, ⟨j144, j153⟩⟩, ⟨⟨j154, j155⟩, ⟨j157, j158⟩⟩⟩, ⟨⟨⟨j159, j160⟩, ⟨j161, j162⟩⟩, ⟨⟨j163, j166⟩, ⟨j168, ⟨j169, j170⟩⟩⟩⟩⟩⟩, ⟨⟨⟨⟨⟨j171, j172⟩, ⟨j173, j174⟩⟩, ⟨⟨j175, j176⟩, ⟨j177, j178⟩⟩⟩, ⟨⟨⟨j181, j187⟩, ⟨j190, j191⟩⟩, ⟨⟨j192, j193⟩, ⟨j194, ⟨j195, j207⟩⟩⟩⟩⟩, ⟨⟨⟨⟨j208, j210⟩, ⟨j211, j212⟩⟩, ⟨⟨j213, j214⟩, ⟨j218, j220⟩⟩⟩, ⟨⟨⟨j224, j230⟩, ⟨j231, j232⟩⟩, ⟨⟨j236, j237⟩, ⟨j238, ⟨j240, j243⟩⟩⟩⟩⟩⟩⟩⟩
theorem lp135 : LpOk Tryz.prog 135 41 m135 1 b135 := lp_of (pls := ([pq 4 11 [0, 3, 6, 9, 12, 15, 18, 23, 26, 27, 30], pq 5 13 [0, 3, 6, 9, 12, 15, 18, 24, 27, 23, 32, 33, 36]] ++ nf [0, 2, 3, 6])) Tryz.func135 rfl (by kernel_rfl)
theorem lp94 : LpOk Tryz.prog 94 148 m94 17 b94 := lp_of (pls := ([pq 7 11 [0, 3, 6, 9, 12, 15, 20, 21, 24, 27, 30], pq 11 8 [0, 3, 6, 9, 12, 15, 22, 20], pq 23 16 [0, 3, 6, 9, 12, 15, 18, 21, 24, 27, 30, 33, 36, 41, 42, 45]] ++ nf [0, 1, 4, 5, 3, 6, 8, 9, 10, 12, 13, 14, 15, 16, 19, 20, 21, 22, 18, 24, 25])) Tryz.func94 rfl (by kernel_rfl)
theorem lp11 : LpOk Tryz.prog 11 114 m11 24 b11 := lp_of (pls := ([pq 26 14 [0, 3, 6, 9, 12, 15, 18, 21, 24, 27, 30, 33, 38, 41], pq 27 8 [0, 3, 6, 9, 12, 15, 18, 21]] ++ nf [1, 2, 3, 5, 10, 11, 12, 15, 14, 16, 17, 18, 21, 20, 6, 9, 8, 22, 23, 25])) Tryz.func11 rfl (by kernel_rfl)
theorem lp3 : LpOk Tryz.prog 3 191 m3 6 b3 := lp_of (pls := ([pq 11 12 [0, 3, 6, 9, 12, 15, 18, 21, 24, 29, 30, 33], pq 18 9 [0, 3, 6, 9, 12, 15, 18, 23, 26]] ++ nf [0, 1, 2, 3, 8, 9, 10, 7, 12, 13, 14, 15, 16, 19, 20, 21, 24, 25])) Tryz.func3 rfl (by kernel_rfl)
theorem l135 : LsI Tryz.prog 135 (lc135 fun xs Ks => ∃ k, ql135 k xs Ks) := lc_of (tab := tabP q76 q114) (S := lc135 fun _ _ => False) (fun _ _ h => TabOk.get tabP_ok h) lp135 (ls := []) (fun _ h => nomatch h) rfl (q := ql135) (fun xs Ks h => by
  obtain ⟨_, _, _, _, _, _, _, _, _, _, _, _, _, _, _, _, _, _, _, _, rfl, _, _, _, _, _, hk, _, _, _⟩ := h
  exact absurd hk (Nat.not_lt_zero _)) (fun k xs Ks hw h => by
  obtain ⟨_, _, _, _, _, _, _, _, _, _, _, _, _, _, _, _, _, _, _, _, rfl, _⟩ := id h
  exact t135 h)
theorem l94 : LsI Tryz.prog 94 (lc94 fun xs Ks => ∃ k, ql94 k xs Ks) := lc_of (tab := tabR q5 q8 q16 q92) (S := lc94 fun _ _ => False) (fun _ _ h => TabOk.get tabR_ok h) lp94 (ls := []) (fun _ h => nomatch h) rfl (q := ql94) (fun xs Ks h => by
  obtain ⟨_, _, _, _, _, _, _, _, _, _, _, _, _, _, _, _, _, _, _, _, _, _, _, _, _, _, _, _, _, rfl, _, _, _, _, hk, _, _⟩ := h
  exact absurd hk (Nat.not_lt_zero _)) (fun k xs Ks hw h => by
  obtain ⟨_, _, _, _, _, _, _, _, _, _, _, _, _, _, _, _, _, _, _, _, _, _, _, _, _, _, _, _, _, rfl, _⟩ := id h
  exact t94 h)
theorem l11 : LsI Tryz.prog 11 (lc24 fun xs Ks => ∃ k, ql24 k xs Ks) := lc_of (tab := tabC) (S := lc24 fun _ _ => False) (fun _ _ h => TabOk.get tabC_ok h) lp11 (ls := []) (fun _ h => nomatch h) rfl (q := ql24) (fun xs Ks h => by
  obtain ⟨_, _, _, _, _, _, _, _, _, _, _, _, _, _, _, _, _, _, _, _, rfl, _, _, hk, _⟩ := h
  exact absurd hk (Nat.not_lt_zero _)) (fun k xs Ks hw h => by
  obtain ⟨_, _, _, _, _, _, _, _, _, _, _, _, _, _, _, _, _, _, _, _, rfl, _⟩ := id h
  exact t24 h)
theorem l3 : LsI Tryz.prog 3 (lc3 fun xs Ks => ∃ k, ql3 k xs Ks) := lc_of (tab := tabR q5 q8 q16 q92) (S := lc3 fun _ _ => False) (fun _ _ h => TabOk.get tabR_ok h) lp3 (ls := []) (fun _ h => nomatch h) rfl (q := ql3) (fun xs Ks h => by
  obtain ⟨_, _, _, _, _, _, _, _, _, _, rfl, _, _, _, _, hk, _⟩ := h
  exact absurd hk (Nat.not_lt_zero _)) (fun k xs Ks hw h => by
  obtain ⟨_, _, _, _, _, _, _, _, _, _, rfl, _⟩ := id h
  simp only [lc3, SPt.ks, ksPL, ksP, ksOL, ksO, wtL, List.nil_append, List.cons_append, hi, lawP] at hw
  exact t3 hw.2.2.2.2.2.2.2.2.2.1 h)
theorem tabW_ok : TabOk Tryz.prog (tabW q52 q85 q79 q12 q13 qq24 qq94 qq135 qq3) := ⟨⟨⟨⟨⟨⟨⟨(kok_l j3 (ls := [lc3 qq3]) fun S hS => by rw [List.mem_singleton.1 hS]; exact l3), j4t⟩, ⟨j5, j6⟩⟩, ⟨⟨j7, j8⟩, ⟨j9, j10⟩⟩⟩, ⟨⟨⟨(kok_l j11 (ls := [lc24 qq24]) fun S hS => by rw [List.mem_singleton.1 hS]; exact l11), ok12⟩, ⟨ok13, j14⟩⟩, ⟨⟨j15, j16⟩, ⟨j17, ⟨j18, j19⟩⟩⟩⟩⟩, ⟨⟨⟨⟨j21, j24⟩, ⟨j25, j28⟩⟩, ⟨⟨j29, j30⟩, ⟨j31, j32⟩⟩⟩, ⟨⟨⟨j33, j34⟩, ⟨j35, j36⟩⟩, ⟨⟨j38, j39⟩, ⟨j40, ⟨j41, j42⟩⟩⟩⟩⟩⟩, ⟨⟨⟨⟨⟨j43, j44⟩, ⟨j48, j49⟩⟩, ⟨⟨j50, j51⟩, ⟨ok52, j73⟩⟩⟩, ⟨⟨⟨j76, j78⟩, ⟨ok79, j80⟩⟩, ⟨⟨j81, j82⟩, ⟨j83, ⟨ok85, j86⟩⟩⟩⟩⟩, ⟨⟨⟨⟨j87, j88⟩, ⟨j92, (kok_l j94 (ls := [lc94 qq94]) fun S hS => by rw [List.mem_singleton.1 hS]; exact l94)⟩⟩, ⟨⟨j96, j97⟩, ⟨j98, j99⟩⟩⟩, ⟨⟨⟨j100, j101⟩, ⟨j102, j103⟩⟩, ⟨⟨j105, j111⟩, ⟨j112, ⟨j113, j114⟩⟩⟩⟩⟩⟩⟩, ⟨⟨⟨⟨⟨⟨j115, j116⟩, ⟨j123, j126⟩⟩, ⟨⟨j129, j130⟩, ⟨j131, j132⟩⟩⟩, ⟨⟨⟨j133, j134⟩, ⟨(kok_l j135 (ls := [lc135 qq135]) fun S hS => by rw [List.mem_singleton.1 hS]; exact l135), j136⟩⟩, ⟨⟨j137, j138⟩, ⟨j139, ⟨j140, j141⟩⟩⟩⟩⟩, ⟨⟨⟨⟨j142, j143⟩, ⟨j144, j153⟩⟩, ⟨⟨j154, j155⟩, ⟨j157, j158⟩⟩⟩, ⟨⟨⟨j159, j160⟩, ⟨j161, j162⟩⟩, ⟨⟨j163, j166⟩, ⟨j168, ⟨j169, j170⟩⟩⟩⟩⟩⟩, ⟨⟨⟨⟨⟨j171, j172⟩, ⟨j173, j174⟩⟩, ⟨⟨j175, j176⟩, ⟨j177, j178⟩⟩⟩, ⟨⟨⟨j181, j187⟩, ⟨j190, j191⟩⟩, ⟨⟨j192, j193⟩, ⟨j194, ⟨j195, j207⟩⟩⟩⟩⟩, ⟨⟨⟨⟨j208, j210⟩, ⟨j211, j212⟩⟩, ⟨⟨j213, j214⟩, ⟨j218, j220⟩⟩⟩, ⟨⟨⟨j224, j230⟩, ⟨j231, j232⟩⟩, ⟨⟨j236, j237⟩, ⟨j238, ⟨j240, j243⟩⟩⟩⟩⟩⟩⟩⟩
end Go.Proofs.YtfaieigeojiiiaaGreat
