/- Code, functions: what is reckoned holds of the model's run. No program. -/
import Derived.Test.YtojhofdndohhdaaGreatVse
set_option linter.unusedVariables false
set_option linter.unusedSectionVars false
set_option linter.unusedSimpArgs false
namespace Go.Va
open Go Go.Sh
variable [Vl]
variable {P : Program}

section code
variable [Gd] {cl : Cl} {n : Nat} {h0 : Heap} {L : List HP} {w0 : World}
theorem KT.mono {m : Nat} {E F : Env} {k : KF} {T : Act → World → Prop} (h : KT m n h0 L w0 E k T) (he : E.Le F) : KT m n h0 L w0 F k T := fun G fr th f w a b b' c d e => h G fr th f w (he.trans a) b b' c d e
/-- A loop at its head, or behind a turn. -/
def Tn (P : Program) (c : Code) (Q : Exit → Act → World → Prop) (a : Act) (w : World) : Prop := ∀ b k cs, ∃ e a' w', Q e a' w' ∧ Arrives P (lone (b.at a (.code c :: .inLoop c :: k)) cs w) b k cs e a' w'
theorem Tn_loop {c : Code} {Q : Exit → Act → World → Prop} {a : Act} {w : World} (h : Tn P c Q a w) : (Code.loop c).wp P Q a w := fun b k cs => by
  obtain ⟨e, a', w', hq, harr⟩ := h b k cs
  exact ⟨e, a', w', hq, .of_steps (.one step_loop) harr⟩
theorem Tn_step {c : Code} {Q : Exit → Act → World → Prop} {a : Act} {w : World} (h : c.wp P (Exit.then (Tn P c Q) Q) a w) : Tn P c Q a w := fun b k cs => by
  obtain ⟨e, a₁, w₁, hq, harr⟩ := h b (.inLoop c :: k) cs
  cases e with
  | normal =>
    obtain ⟨e₂, a₂, w₂, hq₂, harr₂⟩ := hq b k cs
    exact ⟨e₂, a₂, w₂, hq₂, .of_steps (Steps.trans harr (.one step_inLoop)) harr₂⟩
  | exit id => exact ⟨_, a₁, w₁, hq, .pass (x := .inLoop c) rfl (fun _ _ => .inl (by simp)) harr⟩
  | goto l => exact ⟨_, a₁, w₁, hq, .pass (x := .inLoop c) rfl (fun _ _ => .inl (by simp)) harr⟩
  | ret => exact ⟨_, a₁, w₁, hq, .pass (x := .inLoop c) rfl (fun _ _ => .inl (by simp)) harr⟩
  | panic ch => exact ⟨_, a₁, w₁, hq, .pass (x := .inLoop c) rfl (fun _ _ => .inl (by simp)) harr⟩
  | outgrown => exact ⟨_, a₁, w₁, hq, .pass (x := .inLoop c) rfl (fun _ _ => .inl (by simp)) harr⟩
def loopsOf : Code → List Code
  | .seq a b => loopsOf a ++ loopsOf b
  | .cond _ a b => loopsOf a ++ loopsOf b
  | .block _ a => loopsOf a
  | .loop a => a :: loopsOf a
  | _ => []
theorem loops_sub : ∀ {c y z : Code}, y ∈ loopsOf c → z ∈ loopsOf y → z ∈ loopsOf c
  | .seq a b, y, z, h, hz => by
    rcases List.mem_append.1 h with h | h
    · exact List.mem_append_left _ (loops_sub h hz)
    · exact List.mem_append_right _ (loops_sub h hz)
  | .cond _ a b, y, z, h, hz => by
    rcases List.mem_append.1 h with h | h
    · exact List.mem_append_left _ (loops_sub h hz)
    · exact List.mem_append_right _ (loops_sub h hz)
  | .block _ a, y, z, h, hz => loops_sub (c := a) h hz
  | .loop a, y, z, h, hz => by
    have h : y ∈ a :: loopsOf a := h
    rcases List.mem_cons.1 h with rfl | h
    · exact .tail _ hz
    · exact .tail _ (loops_sub h hz)
  | .skip, _, _, h, _ => by cases h
  | .label _, _, _, h, _ => by cases h
  | .ret, _, _, h, _ => by cases h
  | .exit _, _, _, h, _ => by cases h
  | .region .., _, _, h, _ => by cases h
  | .rangeFunc .., _, _, h, _ => by cases h
  | .scope .., _, _, h, _ => by cases h
  | .goto .., _, _, h, _ => by cases h
  | .refuse .., _, _, h, _ => by cases h
/-- What temporaries hold. -/
def agr (n : Nat) : List Nat → List Value → (Nat → Value) → Prop
  | [], [], _ => True
  | i :: is, v :: vs, f => (i < n ∧ f i = v) ∧ agr n is vs f
  | _, _, _ => False
end code
section
variable [Vb]
/-- A loop comes to what its summary says. -/
def LsOk [Gd] (P : Program) (n : Nat) (x : Code) (S : LS) : Prop := ∀ E h0 L vs w0 w f Q, St h0 w.heap (S.s.t0.map (part E) ++ L) → (∀ j, S.s.nx0 ≤ j → E.p j = none ∧ E.r j = false) → denL E S.s.l0 = some vs → SameW w0 w → agr n S.i0 vs f → PnOk [] Q w0 (fun _ _ => True) → PanicOk Q →
  (∀ f' w' us F, E.Le F → den F S.s.x1 = some (.tuple us) → St h0 w'.heap (S.s.t1.map (part F) ++ L) → SameW w0 w' → agr n S.i1 us.toList f' → Q (.exit S.e) (mk n f') w') → Tn P x Q (mk n f) w
end
section code
variable [Gd] {cl : Cl} {n : Nat} {h0 : Heap} {L : List HP} {w0 : World}
theorem getL_agr {E : Env} {fr : Fr} {f : Nat → Value} (ha : AgF E n fr f) : ∀ {is : List Nat} {l : List FV}, getL fr is = some l → ∃ vs, denL E l = some vs ∧ agr n is vs f
  | [], l, h => by simp only [getL, Option.some.injEq] at h; subst h; exact ⟨[], rfl, trivial⟩
  | i :: is, l, h => by
    simp only [getL] at h
    cases h1 : fr.get i with
    | none => rw [h1] at h; cases h
    | some x =>
      cases h2 : getL fr is with
      | none => rw [h1, h2] at h; cases h
      | some r =>
        rw [h1, h2] at h; simp only [Option.some.injEq] at h; subst h
        obtain ⟨vs, g1, g2⟩ := getL_agr ha h2
        exact ⟨_, denL_of (ha i x h1).2 g1, ⟨(ha i x h1).1, rfl⟩, g2⟩
theorem putL_ok {m : Nat} {E : Env} {f : Nat → Value} : ∀ {is : List Nat} {xs : List FV} {fr fr' : Fr} {vs : List Value}, putL m fr is xs = some fr' → AgF E n fr f → Clean m fr → denL E xs = some vs → agr n is vs f → AgF E n fr' f ∧ Clean m fr'
  | [], [], fr, fr', vs, h, ha, hc, _, _ => by simp only [putL, Option.some.injEq] at h; subst h; exact ⟨ha, hc⟩
  | [], _ :: _, fr, fr', vs, h, _, _, _, _ => by simp [putL] at h
  | _ :: _, [], fr, fr', vs, h, _, _, _, _ => by simp [putL] at h
  | i :: is, x :: xs, fr, fr', vs, h, ha, hc, hd, hg => by
    simp only [putL] at h
    cases hb : bitN m i with
    | true => rw [hb] at h; cases h
    | false =>
      rw [hb, cond_false] at h
      obtain ⟨v, vs', h1, h2, rfl⟩ := denL_cons hd
      obtain ⟨⟨g1, g2⟩, g3⟩ := hg
      refine putL_ok h (fun t y hy => ?_) (fun k hk => ?_) h2 g3
      · by_cases ht : t = i
        · subst ht
          rw [Fr.get_eq] at hy; simp only [Option.some.injEq] at hy; subst hy
          exact ⟨g1, by rw [h1, g2]⟩
        · rw [Fr.get_ne _ _ ht] at hy; exact ha t y hy
      · have : k ≠ i := fun e => by rw [e, hb] at hk; cases hk
        rw [Fr.get_ne _ _ this]; exact hc k hk
theorem runL_ok {m : Nat} {x : Code} {S : LS} (hS : LsOk P n x S) {q : Scr} {fr : Fr} {th : TH} {kE : Nat → KF} {E : Env} {f : Nat → Value} {w : World} {Q : Exit → Act → World → Prop} (hx : runL m S q fr th kE) (ha : AgF E n fr f) (r : Rep E th h0 w.heap L) (hs : SameW w0 w) (hp : PnOk [] Q w0 (fun _ _ => True)) (hpk : PanicOk Q)
    (hE : ∀ i, KT m n h0 L w0 E (kE i) (Q (.exit i))) : Tn P x Q (mk n f) w := by
  unfold runL at hx
  cases hl : getL fr S.i0 with
  | none => rw [hl] at hx; exact hx.elim
  | some l =>
    rw [hl] at hx
    obtain ⟨vs, hd, hg⟩ := getL_agr ha hl
    refine sm_useX hx (r.scrp q) hd (Y := fun K => (∀ f' w' us, SameW w0 w' → K (.tuple us) w'.heap → agr n S.i1 us.toList f' → Q (.exit S.e) (mk n f') w') → Tn P x Q (mk n f) w) (fun a b c => a fun f' w' us g1 g2 g3 => c f' w' us g1 (b _ _ g2) g3) (fun E0 L' st hn hd => fun hk => ?_) ?_
    · refine hS E0 h0 L' vs w0 w f Q st hn hd hs hg hp hpk fun f' w' us F g1 g2 g3 g4 g5 => hk f' w' us g4 ⟨F, g1, g2, g3⟩ g5
    · rintro f' w' us hs' ⟨F, y, th', hle, hy, r', hk⟩ hg'
      cases y <;> try (exact hk.elim)
      rename_i ys
      simp only at hk
      cases hpl : putL m (.base m .nil) S.i1 ys with
      | none => rw [hpl] at hk; exact hk.elim
      | some fr' =>
        rw [hpl] at hk
        simp only [den] at hy
        cases hys : denL F ys with
        | none => rw [hys] at hy; cases hy
        | some zs =>
          rw [hys] at hy
          simp only [Option.some.injEq, Value.tuple.injEq] at hy
          subst hy
          obtain ⟨g1, g2⟩ := putL_ok (E := F) (n := n) (f := f') hpl (fun t y hy => by rw [Fr.get_nil] at hy; cases hy) (fun k hk => Fr.get_nil k m) hys hg'
          exact hE S.e F fr' th' f' w' hle g1 g2 r' hs' hk
theorem hook_or {m i : Nat} {ls : List LS} {fr : Fr} {th : TH} {kE : Nat → KF} {B : TH → Prop} (h : hookL m i ls fr th kE B) : (∃ s, B (th.scrp s)) ∨ ∃ S q, S ∈ ls ∧ S.l = i ∧ runL m S q fr th kE := by
  have same : B th → (∃ s, B (th.scrp s)) ∨ ∃ S q, S ∈ ls ∧ S.l = i ∧ runL m S q fr th kE := fun h => .inl ⟨th.scr, h⟩
  have take : ∀ {k : Nat} {q : Scr}, (match nthL ls k with
      | some S => bif Nat.beq S.l i then runL m S q fr th kE else B th
      | none => B th) → (∃ s, B (th.scrp s)) ∨ ∃ S q, S ∈ ls ∧ S.l = i ∧ runL m S q fr th kE := fun {k q} h => by
    cases hn : nthL ls k with
    | none => rw [hn] at h; exact same h
    | some S =>
      rw [hn] at h
      simp only at h
      cases hb : Nat.beq S.l i with
      | false => rw [hb] at h; exact same h
      | true => rw [hb] at h; exact .inr ⟨S, q, List.mem_of_getElem? (hd?_some hn), beq_t hb, h⟩
  have pass : ∀ {q : Scr}, (bif anyL i ls then B ⟨th.t, th.nx, q⟩ else B th) → (∃ s, B (th.scrp s)) ∨ ∃ S q, S ∈ ls ∧ S.l = i ∧ runL m S q fr th kE := fun {q} h => by
    cases hb : anyL i ls with
    | false => rw [hb] at h; exact same h
    | true => rw [hb] at h; exact .inl ⟨q, h⟩
  unfold hookL at h
  cases ls with
  | nil => exact same h
  | cons S0 r =>
    simp only at h
    cases hs : th.scr with
    | u k q => rw [hs] at h; exact take h
    | f b q => rw [hs] at h; exact pass h
    | auto p l =>
      rw [hs] at h
      cases p with
      | u k q => exact take h
      | f b q => exact pass h
      | _ => exact same h
    | _ => rw [hs] at h; exact same h
theorem evC_ok (hcl : ClOk P cl) {m : Nat} {pls : List (Nat × RP)} : ∀ (c : Code) (fc : FC), cC P n m pls c = some fc → ∀ (lf : LF) (fr : Fr) (th : TH) (kN : KF) (kE : Nat → KF) (kR : KF) (E : Env) (f : Nat → Value) (w : World) (Q : Exit → Act → World → Prop),
    evC fc cl lf fr th kN kE kR → AgF E n fr f → Clean m fr → Rep E th h0 w.heap L → SameW w0 w → PnOk [] Q w0 (fun _ _ => True) → PanicOk Q →
    (∀ y ∈ loopsOf c, ∀ S ∈ lf.ls, fidN y = S.l → LsOk P n y S) → KT m n h0 L w0 E kN (Q .normal) → (∀ i, KT m n h0 L w0 E (kE i) (Q (.exit i))) → KT m n h0 L w0 E kR (Q .ret) → c.wp P Q (mk n f) w
  | .skip, fc, hc, lf, fr, th, kN, kE, kR, E, f, w, Q, hx, ha, hcn, r, hs, hp, hpk, hlp, hN, hE, hR => by
    simp only [cC, Option.some.injEq] at hc; subst hc
    exact wp_skip (hN E fr th f w (Env.Le.refl E) ha hcn r hs hx)
  | .label _, fc, hc, lf, fr, th, kN, kE, kR, E, f, w, Q, hx, ha, hcn, r, hs, hp, hpk, hlp, hN, hE, hR => by
    simp only [cC, Option.some.injEq] at hc; subst hc
    exact wp_label (hN E fr th f w (Env.Le.refl E) ha hcn r hs hx)
  | .ret, fc, hc, lf, fr, th, kN, kE, kR, E, f, w, Q, hx, ha, hcn, r, hs, hp, hpk, hlp, hN, hE, hR => by
    simp only [cC, Option.some.injEq] at hc; subst hc
    exact wp_ret (hR E fr th f w (Env.Le.refl E) ha hcn r hs hx)
  | .exit i, fc, hc, lf, fr, th, kN, kE, kR, E, f, w, Q, hx, ha, hcn, r, hs, hp, hpk, hlp, hN, hE, hR => by
    simp only [cC, Option.some.injEq] at hc; subst hc
    exact wp_exit (hE i E fr th f w (Env.Le.refl E) ha hcn r hs hx)
  | .seq x y, fc, hc, lf, fr, th, kN, kE, kR, E, f, w, Q, hx, ha, hcn, r, hs, hp, hpk, hlp, hN, hE, hR => by
    simp only [cC] at hc
    cases h1 : cC P n m pls x with
    | none => rw [h1] at hc; cases hc
    | some a =>
      rw [h1] at hc
      simp only at hc
      cases hbd : isBad a with
      | true => rw [hbd, cond_true, Option.some.injEq] at hc; subst hc; exact hx.elim
      | false =>
      rw [hbd, cond_false] at hc
      cases h2 : cC P n m pls y with
      | none => rw [h2] at hc; cases hc
      | some b =>
        rw [h2] at hc; simp only [Option.some.injEq] at hc; subst hc
        haveI := hp
        refine wp_seq ?_
        refine evC_ok hcl x a h1 lf fr th _ kE kR E f w (Exit.then (y.wp P Q) Q) hx ha hcn r hs pnOk_then (panicOk_then hpk) (fun y hy => hlp y (List.mem_append_left _ hy)) (fun F fr' th' f' w' a1 a2 a2' a3 a4 a5 => ?_) (fun i => hE i) hR
        exact evC_ok hcl y b h2 lf fr' th' kN kE kR F f' w' Q a5 a2 a2' a3 a4 hp hpk (fun y hy => hlp y (List.mem_append_right _ hy)) (hN.mono a1) (fun i => (hE i).mono a1) (hR.mono a1)
  | .cond c x y, fc, hc, lf, fr, th, kN, kE, kR, E, f, w, Q, hx, ha, hcn, r, hs, hp, hpk, hlp, hN, hE, hR => by
    simp only [cC] at hc
    cases h0' : c1 c with
    | none => rw [h0'] at hc; simp only [Option.some.injEq] at hc; subst hc; exact hx.elim
    | some z =>
      cases h1 : cC P n m pls x with
      | none => rw [h0', h1] at hc; cases hc
      | some a =>
        cases h2 : cC P n m pls y with
        | none => rw [h0', h1, h2] at hc; cases hc
        | some b =>
          rw [h0', h1, h2] at hc; simp only [Option.some.injEq] at hc; subst hc
          simp only [evC, cIf] at hx
          cases hv : evO fr z with
          | none => rw [hv] at hx; exact hx.elim
          | some v =>
            rw [hv] at hx
            have hd := ha.ago c z v h0' hv
            cases v <;> try (exact hx.elim)
            rename_i t
            simp only [den, Option.some.injEq] at hd
            have he : (mk n f).eval c = .bool t := by rw [mk_eval]; exact hd.symm
            cases t with
            | true => exact wp_cond_true he (evC_ok hcl x a h1 lf fr th kN kE kR E f w Q hx ha hcn r hs hp hpk (fun y hy => hlp y (List.mem_append_left _ hy)) hN hE hR)
            | false => exact wp_cond_false he (evC_ok hcl y b h2 lf fr th kN kE kR E f w Q hx ha hcn r hs hp hpk (fun z hz => hlp z (List.mem_append_right _ hz)) hN hE hR)
  | .block i x, fc, hc, lf, fr, th, kN, kE, kR, E, f, w, Q, hx, ha, hcn, r, hs, hp, hpk, hlp, hN, hE, hR => by
    simp only [cC] at hc
    cases h1 : cC P n m pls x with
    | none => rw [h1] at hc; cases hc
    | some a =>
      rw [h1] at hc
      simp only at hc
      cases hbd : isBad a with
      | true => rw [hbd, cond_true, Option.some.injEq] at hc; subst hc; exact hx.elim
      | false =>
      rw [hbd, cond_false, Option.some.injEq] at hc; subst hc
      haveI := hp
      refine wp_block (evC_ok hcl x a h1 lf fr th kN _ kR E f w _ hx ha hcn r hs pnOk_blk (panicOk_blk hpk) hlp (fun F fr' th' f' w' a1 a2 a2' a3 a4 a5 => blkN (hN F fr' th' f' w' a1 a2 a2' a3 a4 a5)) (fun j F fr' th' f' w' a1 a2 a2' a3 a4 a5 => ?_) (fun F fr' th' f' w' a1 a2 a2' a3 a4 a5 => blkR (hR F fr' th' f' w' a1 a2 a2' a3 a4 a5)))
      cases hb : Nat.beq j i with
      | true =>
        rw [hb] at a5
        have := beq_t hb; subst this
        exact blkE (hN F fr' th' f' w' a1 a2 a2' a3 a4 a5)
      | false =>
        rw [hb] at a5
        exact blkX hb (hE j F fr' th' f' w' a1 a2 a2' a3 a4 a5)
  | .loop x, fc, hc, lf, fr, th, kN, kE, kR, E, f, w, Q, hx, ha, hcn, r, hs, hp, hpk, hlp, hN, hE, hR => by
    simp only [cC] at hc
    cases h1 : cC P n m pls x with
    | none => rw [h1] at hc; cases hc
    | some a =>
      rw [h1] at hc
      simp only at hc
      cases hbd : isBad a with
      | true => rw [hbd, cond_true, Option.some.injEq] at hc; subst hc; exact hx.elim
      | false =>
      rw [hbd, cond_false, Option.some.injEq] at hc; subst hc
      haveI := hp
      refine Tn_loop ?_
      have hx : lpN m (fidN x) cl (evC a) lf.ls lf.n fr th kN kE kR := hx
      have key : ∀ (q : Nat) (F : Env) (fr : Fr) (th : TH) (f : Nat → Value) (w : World), E.Le F → lpN m (fidN x) cl (evC a) lf.ls q fr th kN kE kR → AgF F n fr f → Clean m fr → Rep F th h0 w.heap L → SameW w0 w → Tn P x Q (mk n f) w := by
        intro q
        induction q with
        | zero => intro F fr th f w _ hx; exact hx.elim
        | succ q ih =>
          intro F fr th f w hle hx ha hcn r hs
          simp only [lpN] at hx
          rcases hook_or hx with ⟨sc, hx⟩ | ⟨S, k, hS, hSl, hx⟩
          · refine Tn_step ?_
            refine evC_ok hcl x a h1 ⟨q, lf.ls⟩ fr (th.scrp sc) _ kE kR F f w (Exit.then (Tn P x Q) Q) hx ha hcn (r.scrp sc) hs pnOk_then (panicOk_then hpk) (fun y hy => hlp y (.tail _ hy)) (fun G fr' th' f' w' a1 a2 a2' a3 a4 a5 => ?_) (fun i => (hE i).mono hle) (hR.mono hle)
            exact ih G fr' th' f' w' (hle.trans a1) a5 a2 a2' a3 a4
          · exact runL_ok (hlp x (.head _) S hS hSl.symm) hx ha r hs hp hpk fun i => (hE i).mono hle
      exact key lf.n E fr th f w (Env.Le.refl E) hx ha hcn r hs
  | .region id ops draw, fc, hc, lf, fr, th, kN, kE, kR, E, f, w, Q, hx, ha, hcn, r, hs, hp, hpk, hlp, hN, hE, hR => by
    simp only [cC] at hc
    cases hdd : deadP pls id with
    | true => rw [hdd, cond_true, Option.some.injEq] at hc; subst hc; exact hx.elim
    | false =>
    rw [hdd, cond_false] at hc
    cases draw with
    | false =>
      simp only at hc
      cases h1 : cOL P n ops ops.toList with
      | none => rw [h1] at hc; cases hc
      | some l =>
        rw [h1] at hc; simp only [Option.some.injEq] at hc; subst hc
        have e : ops = ops.toList.toArray := by simp
        rw [e]
        refine region_seq ?_
        rw [← e]
        have hd : ∀ c ∈ l, ∀ d, c.dst = some d → bitN m d = false → d ∈ outsOf m l := fun c hc d hcd hb => outsOf_mem hb hc hcd
        have hk : KeysIn ([] : HEnv) m (outsOf m l) := fun k v h => by cases h
        cases hfl : lkP pls id with
        | some _ =>
          rw [hfl] at hx
          exact evH_ok hcl hp (fun d hd => outsOf_mask hd) hcn ops.toList l [] th E f w h1 hx ha hk hd r hs fun F fr' th' f' w' a1 a2 a2' a3 a4 a5 => hN F fr' th' f' w' a1 a2 a2' a3 a4 a5
        | none =>
          rw [hfl] at hx
          exact evH_ok hcl hp (fun d hd => outsOf_mask hd) hcn ops.toList l [] th E f w h1 hx ha hk hd r hs fun F fr' th' f' w' a1 a2 a2' a3 a4 a5 => hN F (fr'.fl m) th' f' w' a1 (a2.fl m) (Clean.fl m fr') a3 a4 a5
    | true =>
      simp only at hc
      cases hl : lkP pls id with
      | none => rw [hl] at hc; simp only [Option.some.injEq] at hc; subst hc; exact hx.elim
      | some p =>
        rw [hl] at hc
        simp only at hc
        cases hok : P.follows .mixedOrders && okPlan ops p with
        | false => rw [hok] at hc; cases hc
        | true =>
          rw [hok] at hc
          simp only [cond_true] at hc
          simp only [Bool.and_eq_true] at hok
          cases h1 : cREL P n ops p.ord with
          | none => rw [h1] at hc; cases hc
          | some l =>
            cases h2 : cOL P n ops (ops.toList.drop p.hd) with
            | none => rw [h1, h2] at hc; cases hc
            | some r2 =>
              rw [h1, h2] at hc; simp only [Option.some.injEq] at hc; subst hc
              exact com_ok hcl hok.1 hok.2 h1 h2 (kN := fun fr th => kN (fr.fl m) th) hx ha r hs hp hpk fun F fr' th' f' w' a1 a2 a3 a4 a5 => hN F (fr'.fl m) th' f' w' a1 (a2.fl m) (Clean.fl m fr') a3 a4 a5
  | .rangeFunc .., fc, hc, lf, fr, th, kN, kE, kR, E, f, w, Q, hx, ha, hcn, r, hs, hp, hpk, hlp, hN, hE, hR => by simp only [cC, Option.some.injEq] at hc; subst hc; exact hx.elim
  | .scope .., fc, hc, lf, fr, th, kN, kE, kR, E, f, w, Q, hx, ha, hcn, r, hs, hp, hpk, hlp, hN, hE, hR => by simp only [cC, Option.some.injEq] at hc; subst hc; exact hx.elim
  | .goto .., fc, hc, lf, fr, th, kN, kE, kR, E, f, w, Q, hx, ha, hcn, r, hs, hp, hpk, hlp, hN, hE, hR => by simp only [cC, Option.some.injEq] at hc; subst hc; exact hx.elim
  | .refuse .., fc, hc, lf, fr, th, kN, kE, kR, E, f, w, Q, hx, ha, hcn, r, hs, hp, hpk, hlp, hN, hE, hR => by simp only [cC, Option.some.injEq] at hc; subst hc; exact hx.elim
theorem lp_ok (hcl : ClOk P cl) {m : Nat} {pls : List (Nat × RP)} {x : Code} {a : FC} (h1 : cC P n m pls x = some a) {ls : List LS} (hl : ∀ y ∈ loopsOf (.loop x), ∀ S ∈ ls, fidN y = S.l → LsOk P n y S) {kN : KF} {kE : Nat → KF} {kR : KF} {E : Env} {Q : Exit → Act → World → Prop} (hp : PnOk [] Q w0 (fun _ _ => True)) (hpk : PanicOk Q)
    (hE : ∀ i, KT m n h0 L w0 E (kE i) (Q (.exit i))) (hR : KT m n h0 L w0 E kR (Q .ret)) : ∀ (q : Nat) (F : Env) (fr : Fr) (th : TH) (f : Nat → Value) (w : World), E.Le F → lpN m (fidN x) cl (evC a) ls q fr th kN kE kR → AgF F n fr f → Clean m fr → Rep F th h0 w.heap L → SameW w0 w → Tn P x Q (mk n f) w := by
  haveI := hp
  intro q
  induction q with
  | zero => intro F fr th f w _ hx; exact hx.elim
  | succ q ih =>
    intro F fr th f w hle hx ha hcn r hs
    simp only [lpN] at hx
    rcases hook_or hx with ⟨sc, hx⟩ | ⟨S, k, hS, hSl, hx⟩
    · refine Tn_step ?_
      refine evC_ok hcl x a h1 ⟨q, ls⟩ fr (th.scrp sc) _ kE kR F f w (Exit.then (Tn P x Q) Q) hx ha hcn (r.scrp sc) hs pnOk_then (panicOk_then hpk) (fun y hy => hl y (.tail _ hy)) (fun G fr' th' f' w' a1 a2 a2' a3 a4 a5 => ?_) (fun i => (hE i).mono hle) (hR.mono hle)
      exact ih G fr' th' f' w' (hle.trans a1) a5 a2 a2' a3 a4
    · exact runL_ok (hl x (.head _) S hS hSl.symm) hx ha r hs hp hpk fun i => (hE i).mono hle
end code
end Go.Va
