/- Code, functions: what is reckoned holds of the model's run. No program. -/
import Derived.Test.YtofcohgonchgfaaGreatVx
set_option linter.unusedVariables false
set_option linter.unusedSectionVars false
set_option linter.unusedSimpArgs false
namespace Go.Va
open Go Go.Sh
variable [Vl]
variable {P : Program}

section code
variable [Gd] {cl : Cl} {n : Nat} {h0 : Heap} {L : List HP} {w0 : World}
theorem KT.mono {m : Nat} {E F : Env} {k : KF} {T : Act → World → Prop} (h : KT m n h0 L w0 E k T) (he : E.Le F) : KT m n h0 L w0 F k T := fun G fr th f w a b b' c d e => h G fr th f w (he.trans a) b b' c d e
theorem evC_ok (hcl : ClOk P cl) {m : Nat} {pls : List (Nat × RP)} : ∀ (c : Code) (fc : FC), cC P n m pls c = some fc → ∀ (lf : Nat) (fr : Fr) (th : TH) (kN : KF) (kE : Nat → KF) (kR : KF) (E : Env) (f : Nat → Value) (w : World) (Q : Exit → Act → World → Prop),
    evC fc cl lf fr th kN kE kR → AgF E n fr f → Clean m fr → Rep E th h0 w.heap L → SameW w0 w → PnOk [] Q w0 (fun _ _ => True) → PanicOk Q →
    KT m n h0 L w0 E kN (Q .normal) → (∀ i, KT m n h0 L w0 E (kE i) (Q (.exit i))) → KT m n h0 L w0 E kR (Q .ret) → c.wp P Q (mk n f) w
  | .skip, fc, hc, lf, fr, th, kN, kE, kR, E, f, w, Q, hx, ha, hcn, r, hs, hp, hpk, hN, hE, hR => by
    simp only [cC, Option.some.injEq] at hc; subst hc
    exact wp_skip (hN E fr th f w (Env.Le.refl E) ha hcn r hs hx)
  | .label _, fc, hc, lf, fr, th, kN, kE, kR, E, f, w, Q, hx, ha, hcn, r, hs, hp, hpk, hN, hE, hR => by
    simp only [cC, Option.some.injEq] at hc; subst hc
    exact wp_label (hN E fr th f w (Env.Le.refl E) ha hcn r hs hx)
  | .ret, fc, hc, lf, fr, th, kN, kE, kR, E, f, w, Q, hx, ha, hcn, r, hs, hp, hpk, hN, hE, hR => by
    simp only [cC, Option.some.injEq] at hc; subst hc
    exact wp_ret (hR E fr th f w (Env.Le.refl E) ha hcn r hs hx)
  | .exit i, fc, hc, lf, fr, th, kN, kE, kR, E, f, w, Q, hx, ha, hcn, r, hs, hp, hpk, hN, hE, hR => by
    simp only [cC, Option.some.injEq] at hc; subst hc
    exact wp_exit (hE i E fr th f w (Env.Le.refl E) ha hcn r hs hx)
  | .seq x y, fc, hc, lf, fr, th, kN, kE, kR, E, f, w, Q, hx, ha, hcn, r, hs, hp, hpk, hN, hE, hR => by
    simp only [cC] at hc
    cases h1 : cC P n m pls x with
    | none => rw [h1] at hc; cases hc
    | some a =>
      cases h2 : cC P n m pls y with
      | none => rw [h1, h2] at hc; cases hc
      | some b =>
        rw [h1, h2] at hc; simp only [Option.some.injEq] at hc; subst hc
        haveI := hp
        refine wp_seq ?_
        refine evC_ok hcl x a h1 lf fr th _ kE kR E f w (Exit.then (y.wp P Q) Q) hx ha hcn r hs pnOk_then (panicOk_then hpk) (fun F fr' th' f' w' a1 a2 a2' a3 a4 a5 => ?_) (fun i => hE i) hR
        exact evC_ok hcl y b h2 lf fr' th' kN kE kR F f' w' Q a5 a2 a2' a3 a4 hp hpk (hN.mono a1) (fun i => (hE i).mono a1) (hR.mono a1)
  | .cond c x y, fc, hc, lf, fr, th, kN, kE, kR, E, f, w, Q, hx, ha, hcn, r, hs, hp, hpk, hN, hE, hR => by
    simp only [cC] at hc
    cases h0' : c1 c with
    | none => rw [h0'] at hc; simp only [Option.some.injEq] at hc; subst hc; exact hx.elim
    | some z =>
      cases h1 : cC P n m pls x with
      | none => rw [h0', h1] at hc; cases hc
      | some a =>
        cases h2 : cC P n m pls y with
        | none => rw [h0', h1, h2] at hc; cases hc
        | some b =>
          rw [h0', h1, h2] at hc; simp only [Option.some.injEq] at hc; subst hc
          simp only [evC, cIf] at hx
          cases hv : evO fr z with
          | none => rw [hv] at hx; exact hx.elim
          | some v =>
            rw [hv] at hx
            have hd := ha.ago c z v h0' hv
            cases v <;> try (exact hx.elim)
            rename_i t
            simp only [den, Option.some.injEq] at hd
            have he : (mk n f).eval c = .bool t := by rw [mk_eval]; exact hd.symm
            cases t with
            | true => exact wp_cond_true he (evC_ok hcl x a h1 lf fr th kN kE kR E f w Q hx ha hcn r hs hp hpk hN hE hR)
            | false => exact wp_cond_false he (evC_ok hcl y b h2 lf fr th kN kE kR E f w Q hx ha hcn r hs hp hpk hN hE hR)
  | .block i x, fc, hc, lf, fr, th, kN, kE, kR, E, f, w, Q, hx, ha, hcn, r, hs, hp, hpk, hN, hE, hR => by
    simp only [cC] at hc
    cases h1 : cC P n m pls x with
    | none => rw [h1] at hc; cases hc
    | some a =>
      rw [h1] at hc; simp only [Option.some.injEq] at hc; subst hc
      haveI := hp
      refine wp_block (evC_ok hcl x a h1 lf fr th kN _ kR E f w _ hx ha hcn r hs pnOk_blk (panicOk_blk hpk) (fun F fr' th' f' w' a1 a2 a2' a3 a4 a5 => blkN (hN F fr' th' f' w' a1 a2 a2' a3 a4 a5)) (fun j F fr' th' f' w' a1 a2 a2' a3 a4 a5 => ?_) (fun F fr' th' f' w' a1 a2 a2' a3 a4 a5 => blkR (hR F fr' th' f' w' a1 a2 a2' a3 a4 a5)))
      cases hb : Nat.beq j i with
      | true =>
        rw [hb] at a5
        have := beq_t hb; subst this
        exact blkE (hN F fr' th' f' w' a1 a2 a2' a3 a4 a5)
      | false =>
        rw [hb] at a5
        exact blkX hb (hE j F fr' th' f' w' a1 a2 a2' a3 a4 a5)
  | .loop x, fc, hc, lf, fr, th, kN, kE, kR, E, f, w, Q, hx, ha, hcn, r, hs, hp, hpk, hN, hE, hR => by
    simp only [cC] at hc
    cases h1 : cC P n m pls x with
    | none => rw [h1] at hc; cases hc
    | some a =>
      rw [h1] at hc; simp only [Option.some.injEq] at hc; subst hc
      haveI := hp
      refine wp_loop_rounds lf ?_
      have hx : lpN cl (evC a) lf fr th kN kE kR := hx
      have key : ∀ (q : Nat) (F : Env) (fr : Fr) (th : TH) (f : Nat → Value) (w : World), E.Le F → lpN cl (evC a) q fr th kN kE kR → AgF F n fr f → Clean m fr → Rep F th h0 w.heap L → SameW w0 w → Code.rounds P x Q q (mk n f) w := by
        intro q
        induction q with
        | zero => intro F fr th f w _ hx; exact hx.elim
        | succ q ih =>
          intro F fr th f w hle hx ha hcn r hs
          refine evC_ok hcl x a h1 q fr th _ kE kR F f w (Exit.then (Code.rounds P x Q q) Q) hx ha hcn r hs pnOk_then (panicOk_then hpk) (fun G fr' th' f' w' a1 a2 a2' a3 a4 a5 => ?_) (fun i => (hE i).mono hle) (hR.mono hle)
          exact ih G fr' th' f' w' (hle.trans a1) a5 a2 a2' a3 a4
      exact key lf E fr th f w (Env.Le.refl E) hx ha hcn r hs
  | .region id ops draw, fc, hc, lf, fr, th, kN, kE, kR, E, f, w, Q, hx, ha, hcn, r, hs, hp, hpk, hN, hE, hR => by
    simp only [cC] at hc
    cases draw with
    | false =>
      simp only at hc
      cases h1 : cOL P n ops ops.toList with
      | none => rw [h1] at hc; cases hc
      | some l =>
        rw [h1] at hc; simp only [Option.some.injEq] at hc; subst hc
        have e : ops = ops.toList.toArray := by simp
        rw [e]
        refine region_seq ?_
        rw [← e]
        have hd : ∀ c ∈ l, ∀ d, c.dst = some d → bitN m d = false → d ∈ outsOf m l := fun c hc d hcd hb => outsOf_mem hb hc hcd
        have hk : KeysIn ([] : HEnv) m (outsOf m l) := fun k v h => by cases h
        cases hfl : lkP pls id with
        | some _ =>
          rw [hfl] at hx
          exact evH_ok hcl hp (fun d hd => outsOf_mask hd) hcn ops.toList l [] th E f w h1 hx ha hk hd r hs fun F fr' th' f' w' a1 a2 a2' a3 a4 a5 => hN F fr' th' f' w' a1 a2 a2' a3 a4 a5
        | none =>
          rw [hfl] at hx
          exact evH_ok hcl hp (fun d hd => outsOf_mask hd) hcn ops.toList l [] th E f w h1 hx ha hk hd r hs fun F fr' th' f' w' a1 a2 a2' a3 a4 a5 => hN F (fr'.fl m) th' f' w' a1 (a2.fl m) (Clean.fl m fr') a3 a4 a5
    | true =>
      simp only at hc
      cases hl : lkP pls id with
      | none => rw [hl] at hc; simp only [Option.some.injEq] at hc; subst hc; exact hx.elim
      | some p =>
        rw [hl] at hc
        simp only at hc
        cases hok : P.follows .mixedOrders && okPlan ops p with
        | false => rw [hok] at hc; cases hc
        | true =>
          rw [hok] at hc
          simp only [cond_true] at hc
          simp only [Bool.and_eq_true] at hok
          cases h1 : cREL P n ops p.ord with
          | none => rw [h1] at hc; cases hc
          | some l =>
            cases h2 : cOL P n ops (ops.toList.drop p.hd) with
            | none => rw [h1, h2] at hc; cases hc
            | some r2 =>
              rw [h1, h2] at hc; simp only [Option.some.injEq] at hc; subst hc
              exact com_ok hcl hok.1 hok.2 h1 h2 (kN := fun fr th => kN (fr.fl m) th) hx ha r hs hp hpk fun F fr' th' f' w' a1 a2 a3 a4 a5 => hN F (fr'.fl m) th' f' w' a1 (a2.fl m) (Clean.fl m fr') a3 a4 a5
  | .rangeFunc .., fc, hc, lf, fr, th, kN, kE, kR, E, f, w, Q, hx, ha, hcn, r, hs, hp, hpk, hN, hE, hR => by simp only [cC, Option.some.injEq] at hc; subst hc; exact hx.elim
  | .scope .., fc, hc, lf, fr, th, kN, kE, kR, E, f, w, Q, hx, ha, hcn, r, hs, hp, hpk, hN, hE, hR => by simp only [cC, Option.some.injEq] at hc; subst hc; exact hx.elim
  | .goto .., fc, hc, lf, fr, th, kN, kE, kR, E, f, w, Q, hx, ha, hcn, r, hs, hp, hpk, hN, hE, hR => by simp only [cC, Option.some.injEq] at hc; subst hc; exact hx.elim
  | .refuse .., fc, hc, lf, fr, th, kN, kE, kR, E, f, w, Q, hx, ha, hcn, r, hs, hp, hpk, hN, hE, hR => by simp only [cC, Option.some.injEq] at hc; subst hc; exact hx.elim
end code
end Go.Va
