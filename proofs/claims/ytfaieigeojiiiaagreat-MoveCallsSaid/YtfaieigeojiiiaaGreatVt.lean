/- Code, functions: what is reckoned holds of the model's run. No program. -/
import Derived.Test.YtfaieigeojiiiaaGreatVcc
set_option linter.unusedVariables false
set_option linter.unusedSectionVars false
set_option linter.unusedSimpArgs false
namespace Go.Va
open Go Go.Sh
variable [Vb]
variable {P : Program}

section code
variable [Gd] {cl : Cl} {n : Nat} {h0 : Heap} {L : List HP} {w0 : World}
theorem KT.mono {m : Nat} {E F : Env} {k : KF} {T : Act → World → Prop} (h : KT m n h0 L w0 E k T) (he : E.Le F) : KT m n h0 L w0 F k T := fun G fr th f w a b b' c d e => h G fr th f w (he.trans a) b b' c d e
/-- A loop at its head, or behind a turn. -/
def Tn (P : Program) (c : Code) (Q : Exit → Act → World → Prop) (a : Act) (w : World) : Prop := ∀ b k cs, ∃ e a' w', Q e a' w' ∧ Arrives P (lone (b.at a (.code c :: .inLoop c :: k)) cs w) b k cs e a' w'
theorem Tn_loop {c : Code} {Q : Exit → Act → World → Prop} {a : Act} {w : World} (h : Tn P c Q a w) : (Code.loop c).wp P Q a w := fun b k cs => by
  obtain ⟨e, a', w', hq, harr⟩ := h b k cs
  exact ⟨e, a', w', hq, .of_steps (.one step_loop) harr⟩
theorem Tn_step {c : Code} {Q : Exit → Act → World → Prop} {a : Act} {w : World} (h : c.wp P (Exit.then (Tn P c Q) Q) a w) : Tn P c Q a w := fun b k cs => by
  obtain ⟨e, a₁, w₁, hq, harr⟩ := h b (.inLoop c :: k) cs
  cases e with
  | normal =>
    obtain ⟨e₂, a₂, w₂, hq₂, harr₂⟩ := hq b k cs
    exact ⟨e₂, a₂, w₂, hq₂, .of_steps (Steps.trans harr (.one step_inLoop)) harr₂⟩
  | exit id => exact ⟨_, a₁, w₁, hq, .pass (x := .inLoop c) rfl (fun _ _ => .inl (by simp)) harr⟩
  | goto l => exact ⟨_, a₁, w₁, hq, .pass (x := .inLoop c) rfl (fun _ _ => .inl (by simp)) harr⟩
  | ret => exact ⟨_, a₁, w₁, hq, .pass (x := .inLoop c) rfl (fun _ _ => .inl (by simp)) harr⟩
  | panic ch => exact ⟨_, a₁, w₁, hq, .pass (x := .inLoop c) rfl (fun _ _ => .inl (by simp)) harr⟩
  | outgrown => exact ⟨_, a₁, w₁, hq, .pass (x := .inLoop c) rfl (fun _ _ => .inl (by simp)) harr⟩
def loopsOf : Code → List Code
  | .seq a b => loopsOf a ++ loopsOf b
  | .cond _ a b => loopsOf a ++ loopsOf b
  | .block _ a => loopsOf a
  | .loop a => a :: loopsOf a
  | _ => []
theorem loops_sub : ∀ {c y z : Code}, y ∈ loopsOf c → z ∈ loopsOf y → z ∈ loopsOf c
  | .seq a b, y, z, h, hz => by
    rcases List.mem_append.1 h with h | h
    · exact List.mem_append_left _ (loops_sub h hz)
    · exact List.mem_append_right _ (loops_sub h hz)
  | .cond _ a b, y, z, h, hz => by
    rcases List.mem_append.1 h with h | h
    · exact List.mem_append_left _ (loops_sub h hz)
    · exact List.mem_append_right _ (loops_sub h hz)
  | .block _ a, y, z, h, hz => loops_sub (c := a) h hz
  | .loop a, y, z, h, hz => by
    have h : y ∈ a :: loopsOf a := h
    rcases List.mem_cons.1 h with rfl | h
    · exact .tail _ hz
    · exact .tail _ (loops_sub h hz)
  | .skip, _, _, h, _ => by cases h
  | .label _, _, _, h, _ => by cases h
  | .ret, _, _, h, _ => by cases h
  | .exit _, _, _, h, _ => by cases h
  | .region .., _, _, h, _ => by cases h
  | .rangeFunc .., _, _, h, _ => by cases h
  | .scope .., _, _, h, _ => by cases h
  | .goto .., _, _, h, _ => by cases h
  | .refuse .., _, _, h, _ => by cases h
/-- What temporaries hold. -/
def agr (n : Nat) : List Nat → List Value → (Nat → Value) → Prop
  | [], [], _ => True
  | i :: is, v :: vs, f => (i < n ∧ f i = v) ∧ agr n is vs f
  | _, _, _ => False
def okC (c : Ctr) : Bool := okSP c.i && c.o.all fun s => okSP s && Nat.ble (kLast c.i.os) s.os.length
theorem okC_o {c : Ctr} (h : okC c = true) {e : Nat} {s : SPt} (hs : c.o[e]? = some s) : okSP s = true ∧ kLast c.i.os ≤ s.os.length := by
  simp only [okC, Bool.and_eq_true, List.all_eq_true] at h
  have := h.2 s (List.mem_of_getElem? hs)
  exact ⟨this.1, ble_t this.2⟩
/-- A loop keeps to its contract. -/
def LcOk [Gd] (P : Program) (n : Nat) (x : Code) (S : LCt) : Prop := okC S.c = true ∧ ∀ xs (Ks : List (List LD → Prop)), wtL xs S.c.i.ks → S.c.q xs Ks → ∀ E h0 L vs w0 w f Q, Rep E (thS S.c.i xs) h0 w.heap L → denL E (fvPL id (nthD xs) S.c.i.ps 0) = some vs → SameW w0 w → agr n S.i0 vs f → PnOk [] Q w0 (fun _ _ => True) → PanicOk Q →
  (∀ e s q ys G us f' w', S.c.o[e]? = some s → S.es[e]? = some q → wtL ys s.ks → nthK Ks e ys → Env.LeK S.c.i.os E G → Rep G (thS s ys) h0 w'.heap L → denL G (fvPL id (nthD ys) s.ps 0) = some us → SameW w0 w' → agr n q.2 us f' → Q (match q.1 with
    | some i => .exit i
    | none => .ret) (mk n f') w') → Tn P x Q (mk n f) w
theorem getL_agr {E : Env} {fr : Fr} {f : Nat → Value} (ha : AgF E n fr f) : ∀ {is : List Nat} {l : List FV}, getL fr is = some l → ∃ vs, denL E l = some vs ∧ agr n is vs f
  | [], l, h => by simp only [getL, Option.some.injEq] at h; subst h; exact ⟨[], rfl, trivial⟩
  | i :: is, l, h => by
    simp only [getL] at h
    cases h1 : fr.get i with
    | none => rw [h1] at h; cases h
    | some x =>
      cases h2 : getL fr is with
      | none => rw [h1, h2] at h; cases h
      | some r =>
        rw [h1, h2] at h; simp only [Option.some.injEq] at h; subst h
        obtain ⟨vs, g1, g2⟩ := getL_agr ha h2
        exact ⟨_, denL_of (ha i x h1).2 g1, ⟨(ha i x h1).1, rfl⟩, g2⟩
theorem putL_ok {m : Nat} {E : Env} {f : Nat → Value} : ∀ {is : List Nat} {xs : List FV} {fr fr' : Fr} {vs : List Value}, putL m fr is xs = some fr' → AgF E n fr f → Clean m fr → denL E xs = some vs → agr n is vs f → AgF E n fr' f ∧ Clean m fr'
  | [], [], fr, fr', vs, h, ha, hc, _, _ => by simp only [putL, Option.some.injEq] at h; subst h; exact ⟨ha, hc⟩
  | [], _ :: _, fr, fr', vs, h, _, _, _, _ => by simp [putL] at h
  | _ :: _, [], fr, fr', vs, h, _, _, _, _ => by simp [putL] at h
  | i :: is, x :: xs, fr, fr', vs, h, ha, hc, hd, hg => by
    simp only [putL] at h
    cases hb : bitN m i with
    | true => rw [hb] at h; cases h
    | false =>
      rw [hb, cond_false] at h
      obtain ⟨v, vs', h1, h2, rfl⟩ := denL_cons hd
      obtain ⟨⟨g1, g2⟩, g3⟩ := hg
      refine putL_ok h (fun t y hy => ?_) (fun k hk => ?_) h2 g3
      · by_cases ht : t = i
        · subst ht
          rw [Fr.get_eq] at hy; simp only [Option.some.injEq] at hy; subst hy
          exact ⟨g1, by rw [h1, g2]⟩
        · rw [Fr.get_ne _ _ ht] at hy; exact ha t y hy
      · have : k ≠ i := fun e => by rw [e, hb] at hk; cases hk
        rw [Fr.get_ne _ _ this]; exact hc k hk
theorem runLC_ok {m : Nat} {x : Code} {S : LCt} (hS : LcOk P n x S) {fr : Fr} {th : TH} {kE : Nat → KF} {kR : KF} {E : Env} {f : Nat → Value} {w : World} {Q : Exit → Act → World → Prop} (hx : runLC m S fr th kE kR) (ha : AgF E n fr f) (r : Rep E th h0 w.heap L) (hs : SameW w0 w) (hp : PnOk [] Q w0 (fun _ _ => True)) (hpk : PanicOk Q)
    (hE : ∀ i, KT m n h0 L w0 E (kE i) (Q (.exit i))) (hR : KT m n h0 L w0 E kR (Q .ret)) : Tn P x Q (mk n f) w := by
  unfold runLC at hx
  cases hl : getL fr S.i0 with
  | none => rw [hl] at hx; exact hx.elim
  | some l =>
    rw [hl] at hx
    obtain ⟨vs, hd, hg⟩ := getL_agr ha hl
    simp only [runQ] at hx
    obtain ⟨F1, xs, prs, th', Ps, g1, g3, g4, g5, _, g6, g7, g8, g9⟩ := mtS_ok hx r hd
    refine hS.2 xs _ g4 g3 _ h0 _ vs w0 w f Q g8 g9 hs hg hp hpk fun e s q ys G us f' w' h1 h2 h3 h4 h5 h6 h7 h8 h9 => ?_
    have h4 := outsK_nth h1 h4 h3
    simp only [outK, h2] at h4
    obtain ⟨k1, k2⟩ := okC_o hS.1 h1
    obtain ⟨F, f1, f2, f3⟩ := gl_ok (E := F1) (th := th') k1 k2 g5 g6 g7 h5 h6
    have f3 := f3 us h7
    cases hpl : putL m (.base m .nil) q.2 (fvPL (fun j => bif keptB S.c.i.os j then idsA prs j else th'.nx + j) (nthD ys) s.ps 0) with
    | none => rw [hpl] at h4; exact h4.elim
    | some fr' =>
      rw [hpl] at h4
      simp only at h4
      obtain ⟨p1, p2⟩ := putL_ok (E := F) (n := n) (f := f') hpl (fun t y hy => by rw [Fr.get_nil] at hy; cases hy) (fun k hk => Fr.get_nil k m) f3 h9
      have le := g1.trans f1
      obtain ⟨q1, q2⟩ := q
      cases q1 with
      | some i => exact hE i F fr' _ f' w' le p1 p2 f2 h8 h4
      | none => exact hR F fr' _ f' w' le p1 p2 f2 h8 h4
theorem lkLC_mem {i : Nat} : ∀ {ls : List LCt} {S : LCt}, lkLC i ls = some S → S ∈ ls ∧ S.l = i
  | T :: r, S, h => by
    simp only [lkLC] at h
    cases hb : Nat.beq T.l i with
    | true => rw [hb] at h; simp only [cond_true, Option.some.injEq] at h; subst h; exact ⟨.head _, beq_t hb⟩
    | false => rw [hb] at h; obtain ⟨a, b⟩ := lkLC_mem h; exact ⟨.tail _ a, b⟩
theorem evC_ok (hcl : ClOk P cl) {m : Nat} {pls : List (Nat × RP)} : ∀ (c : Code) (fc : FC), cC P n m pls c = some fc → ∀ (lf : LF) (fr : Fr) (th : TH) (kN : KF) (kE : Nat → KF) (kR : KF) (E : Env) (f : Nat → Value) (w : World) (Q : Exit → Act → World → Prop),
    evC fc cl lf fr th kN kE kR → AgF E n fr f → Clean m fr → Rep E th h0 w.heap L → SameW w0 w → PnOk [] Q w0 (fun _ _ => True) → PanicOk Q →
    (∀ y ∈ loopsOf c, ∀ S ∈ lf.ls, fidN y = S.l → LcOk P n y S) → KT m n h0 L w0 E kN (Q .normal) → (∀ i, KT m n h0 L w0 E (kE i) (Q (.exit i))) → KT m n h0 L w0 E kR (Q .ret) → c.wp P Q (mk n f) w
  | .skip, fc, hc, lf, fr, th, kN, kE, kR, E, f, w, Q, hx, ha, hcn, r, hs, hp, hpk, hlp, hN, hE, hR => by
    simp only [cC, Option.some.injEq] at hc; subst hc
    exact wp_skip (hN E fr th f w (Env.Le.refl E) ha hcn r hs hx)
  | .label _, fc, hc, lf, fr, th, kN, kE, kR, E, f, w, Q, hx, ha, hcn, r, hs, hp, hpk, hlp, hN, hE, hR => by
    simp only [cC, Option.some.injEq] at hc; subst hc
    exact wp_label (hN E fr th f w (Env.Le.refl E) ha hcn r hs hx)
  | .ret, fc, hc, lf, fr, th, kN, kE, kR, E, f, w, Q, hx, ha, hcn, r, hs, hp, hpk, hlp, hN, hE, hR => by
    simp only [cC, Option.some.injEq] at hc; subst hc
    exact wp_ret (hR E fr th f w (Env.Le.refl E) ha hcn r hs hx)
  | .exit i, fc, hc, lf, fr, th, kN, kE, kR, E, f, w, Q, hx, ha, hcn, r, hs, hp, hpk, hlp, hN, hE, hR => by
    simp only [cC, Option.some.injEq] at hc; subst hc
    exact wp_exit (hE i E fr th f w (Env.Le.refl E) ha hcn r hs hx)
  | .seq x y, fc, hc, lf, fr, th, kN, kE, kR, E, f, w, Q, hx, ha, hcn, r, hs, hp, hpk, hlp, hN, hE, hR => by
    simp only [cC] at hc
    cases h1 : cC P n m pls x with
    | none => rw [h1] at hc; cases hc
    | some a =>
      rw [h1] at hc
      simp only at hc
      cases hbd : isBad a with
      | true => rw [hbd, cond_true, Option.some.injEq] at hc; subst hc; exact hx.elim
      | false =>
      rw [hbd, cond_false] at hc
      cases h2 : cC P n m pls y with
      | none => rw [h2] at hc; cases hc
      | some b =>
        rw [h2] at hc; simp only [Option.some.injEq] at hc; subst hc
        haveI := hp
        refine wp_seq ?_
        refine evC_ok hcl x a h1 lf fr th _ kE kR E f w (Exit.then (y.wp P Q) Q) hx ha hcn r hs pnOk_then (panicOk_then hpk) (fun y hy => hlp y (List.mem_append_left _ hy)) (fun F fr' th' f' w' a1 a2 a2' a3 a4 a5 => ?_) (fun i => hE i) hR
        exact evC_ok hcl y b h2 lf fr' th' kN kE kR F f' w' Q a5 a2 a2' a3 a4 hp hpk (fun y hy => hlp y (List.mem_append_right _ hy)) (hN.mono a1) (fun i => (hE i).mono a1) (hR.mono a1)
  | .cond c x y, fc, hc, lf, fr, th, kN, kE, kR, E, f, w, Q, hx, ha, hcn, r, hs, hp, hpk, hlp, hN, hE, hR => by
    simp only [cC] at hc
    cases h0' : c1 c with
    | none => rw [h0'] at hc; simp only [Option.some.injEq] at hc; subst hc; exact hx.elim
    | some z =>
      cases h1 : cC P n m pls x with
      | none => rw [h0', h1] at hc; cases hc
      | some a =>
        cases h2 : cC P n m pls y with
        | none => rw [h0', h1, h2] at hc; cases hc
        | some b =>
          rw [h0', h1, h2] at hc; simp only [Option.some.injEq] at hc; subst hc
          simp only [evC, cIf] at hx
          cases hv : evO fr z with
          | none => rw [hv] at hx; exact hx.elim
          | some v =>
            rw [hv] at hx
            have hd := ha.ago c z v h0' hv
            have op : ∀ t : SC, den E (.sb t) = some (evf n f c) → (bif t.ev then evC a cl lf fr th kN kE kR else evC b cl lf fr th kN kE kR) → (Code.cond c x y).wp P Q (mk n f) w := fun t hd hx => by
              simp only [den, Option.some.injEq] at hd
              have he : (mk n f).eval c = .bool t.ev := by rw [mk_eval]; exact hd.symm
              cases ht : t.ev with
              | true => rw [ht] at he hx; exact wp_cond_true he (evC_ok hcl x a h1 lf fr th kN kE kR E f w Q hx ha hcn r hs hp hpk (fun y hy => hlp y (List.mem_append_left _ hy)) hN hE hR)
              | false => rw [ht] at he hx; exact wp_cond_false he (evC_ok hcl y b h2 lf fr th kN kE kR E f w Q hx ha hcn r hs hp hpk (fun z hz => hlp z (List.mem_append_right _ hz)) hN hE hR)
            cases v <;> try (exact hx.elim)
            case sb t => exact op t hd hx
            rename_i t
            simp only [den, Option.some.injEq] at hd
            have he : (mk n f).eval c = .bool t := by rw [mk_eval]; exact hd.symm
            cases t with
            | true => exact wp_cond_true he (evC_ok hcl x a h1 lf fr th kN kE kR E f w Q hx ha hcn r hs hp hpk (fun y hy => hlp y (List.mem_append_left _ hy)) hN hE hR)
            | false => exact wp_cond_false he (evC_ok hcl y b h2 lf fr th kN kE kR E f w Q hx ha hcn r hs hp hpk (fun z hz => hlp z (List.mem_append_right _ hz)) hN hE hR)
  | .block i x, fc, hc, lf, fr, th, kN, kE, kR, E, f, w, Q, hx, ha, hcn, r, hs, hp, hpk, hlp, hN, hE, hR => by
    simp only [cC] at hc
    cases h1 : cC P n m pls x with
    | none => rw [h1] at hc; cases hc
    | some a =>
      rw [h1] at hc
      simp only at hc
      cases hbd : isBad a with
      | true => rw [hbd, cond_true, Option.some.injEq] at hc; subst hc; exact hx.elim
      | false =>
      rw [hbd, cond_false, Option.some.injEq] at hc; subst hc
      haveI := hp
      refine wp_block (evC_ok hcl x a h1 lf fr th kN _ kR E f w _ hx ha hcn r hs pnOk_blk (panicOk_blk hpk) hlp (fun F fr' th' f' w' a1 a2 a2' a3 a4 a5 => blkN (hN F fr' th' f' w' a1 a2 a2' a3 a4 a5)) (fun j F fr' th' f' w' a1 a2 a2' a3 a4 a5 => ?_) (fun F fr' th' f' w' a1 a2 a2' a3 a4 a5 => blkR (hR F fr' th' f' w' a1 a2 a2' a3 a4 a5)))
      cases hb : Nat.beq j i with
      | true =>
        rw [hb] at a5
        have := beq_t hb; subst this
        exact blkE (hN F fr' th' f' w' a1 a2 a2' a3 a4 a5)
      | false =>
        rw [hb] at a5
        exact blkX hb (hE j F fr' th' f' w' a1 a2 a2' a3 a4 a5)
  | .loop x, fc, hc, lf, fr, th, kN, kE, kR, E, f, w, Q, hx, ha, hcn, r, hs, hp, hpk, hlp, hN, hE, hR => by
    simp only [cC] at hc
    cases h1 : cC P n m pls x with
    | none => rw [h1] at hc; cases hc
    | some a =>
      rw [h1] at hc
      simp only at hc
      cases hbd : isBad a with
      | true => rw [hbd, cond_true, Option.some.injEq] at hc; subst hc; exact hx.elim
      | false =>
      rw [hbd, cond_false, Option.some.injEq] at hc; subst hc
      haveI := hp
      refine Tn_loop ?_
      have hx : lpN m (fidN x) cl (evC a) lf.ls lf.n fr th kN kE kR := hx
      have key : ∀ (q : Nat) (F : Env) (fr : Fr) (th : TH) (f : Nat → Value) (w : World), E.Le F → lpN m (fidN x) cl (evC a) lf.ls q fr th kN kE kR → AgF F n fr f → Clean m fr → Rep F th h0 w.heap L → SameW w0 w → Tn P x Q (mk n f) w := by
        intro q
        induction q with
        | zero => intro F fr th f w _ hx; exact hx.elim
        | succ q ih =>
          intro F fr th f w hle hx ha hcn r hs
          simp only [lpN, hookL] at hx
          cases hk : lkLC (fidN x) lf.ls with
          | none =>
            rw [hk] at hx
            refine Tn_step ?_
            refine evC_ok hcl x a h1 ⟨q, lf.ls⟩ fr th _ kE kR F f w (Exit.then (Tn P x Q) Q) hx ha hcn r hs pnOk_then (panicOk_then hpk) (fun y hy => hlp y (.tail _ hy)) (fun G fr' th' f' w' a1 a2 a2' a3 a4 a5 => ?_) (fun i => (hE i).mono hle) (hR.mono hle)
            exact ih G fr' th' f' w' (hle.trans a1) a5 a2 a2' a3 a4
          | some S =>
            rw [hk] at hx
            obtain ⟨hS, hSl⟩ := lkLC_mem hk
            exact runLC_ok (hlp x (.head _) S hS hSl.symm) hx ha r hs hp hpk (fun i => (hE i).mono hle) (hR.mono hle)
      exact key lf.n E fr th f w (Env.Le.refl E) hx ha hcn r hs
  | .region id ops draw, fc, hc, lf, fr, th, kN, kE, kR, E, f, w, Q, hx, ha, hcn, r, hs, hp, hpk, hlp, hN, hE, hR => by
    simp only [cC] at hc
    cases hdd : deadP pls id with
    | true => rw [hdd, cond_true, Option.some.injEq] at hc; subst hc; exact hx.elim
    | false =>
    rw [hdd, cond_false] at hc
    cases draw with
    | false =>
      simp only at hc
      cases h1 : cOL P n ops ops.toList with
      | none => rw [h1] at hc; cases hc
      | some l =>
        rw [h1] at hc; simp only [Option.some.injEq] at hc; subst hc
        have e : ops = ops.toList.toArray := by simp
        rw [e]
        refine region_seq ?_
        rw [← e]
        have hd : ∀ c ∈ l, ∀ d, c.dst = some d → bitN m d = false → d ∈ outsOf m l := fun c hc d hcd hb => outsOf_mem hb hc hcd
        have hk : KeysIn ([] : HEnv) m (outsOf m l) := fun k v h => by cases h
        cases hfl : lkP pls id with
        | some _ =>
          rw [hfl] at hx
          exact evH_ok hcl hp (fun d hd => outsOf_mask hd) hcn ops.toList l [] th E f w h1 hx ha hk hd r hs fun F fr' th' f' w' a1 a2 a2' a3 a4 a5 => hN F fr' th' f' w' a1 a2 a2' a3 a4 a5
        | none =>
          rw [hfl] at hx
          exact evH_ok hcl hp (fun d hd => outsOf_mask hd) hcn ops.toList l [] th E f w h1 hx ha hk hd r hs fun F fr' th' f' w' a1 a2 a2' a3 a4 a5 => hN F (fr'.fl m) th' f' w' a1 (a2.fl m) (Clean.fl m fr') a3 a4 a5
    | true =>
      simp only at hc
      cases hl : lkP pls id with
      | none => rw [hl] at hc; simp only [Option.some.injEq] at hc; subst hc; exact hx.elim
      | some p =>
        rw [hl] at hc
        simp only at hc
        cases hok : P.follows .mixedOrders && okPlan ops p with
        | false => rw [hok] at hc; cases hc
        | true =>
          rw [hok] at hc
          simp only [cond_true] at hc
          simp only [Bool.and_eq_true] at hok
          cases h1 : cREL P n ops p.ord with
          | none => rw [h1] at hc; cases hc
          | some l =>
            cases h2 : cOL P n ops (ops.toList.drop p.hd) with
            | none => rw [h1, h2] at hc; cases hc
            | some r2 =>
              rw [h1, h2] at hc; simp only [Option.some.injEq] at hc; subst hc
              exact com_ok hcl hok.1 hok.2 h1 h2 (kN := fun fr th => kN (fr.fl m) th) hx ha r hs hp hpk fun F fr' th' f' w' a1 a2 a3 a4 a5 => hN F (fr'.fl m) th' f' w' a1 (a2.fl m) (Clean.fl m fr') a3 a4 a5
  | .rangeFunc .., fc, hc, lf, fr, th, kN, kE, kR, E, f, w, Q, hx, ha, hcn, r, hs, hp, hpk, hlp, hN, hE, hR => by simp only [cC, Option.some.injEq] at hc; subst hc; exact hx.elim
  | .scope .., fc, hc, lf, fr, th, kN, kE, kR, E, f, w, Q, hx, ha, hcn, r, hs, hp, hpk, hlp, hN, hE, hR => by simp only [cC, Option.some.injEq] at hc; subst hc; exact hx.elim
  | .goto .., fc, hc, lf, fr, th, kN, kE, kR, E, f, w, Q, hx, ha, hcn, r, hs, hp, hpk, hlp, hN, hE, hR => by simp only [cC, Option.some.injEq] at hc; subst hc; exact hx.elim
  | .refuse .., fc, hc, lf, fr, th, kN, kE, kR, E, f, w, Q, hx, ha, hcn, r, hs, hp, hpk, hlp, hN, hE, hR => by simp only [cC, Option.some.injEq] at hc; subst hc; exact hx.elim
end code
end Go.Va
