/- What fits a pattern, and what a pattern stands for elsewhere. No program. -/
import Derived.Test.YtfaieigeojiiiaaGreatVx
set_option linter.unusedVariables false
set_option linter.unusedSectionVars false
set_option linter.unusedSimpArgs false
namespace Go.Va
open Go Go.Sh
variable [Vb]

/-- One world's things stand for another's. -/
structure RnE (F E : Env) (prs : Prs) : Prop where
  hh : F.h = E.h
  hz : ∀ q ∈ E.z, q ∈ F.z
  hp : ∀ q ∈ prs, F.p q.1 = E.p q.2 ∧ F.c q.1 = E.c q.2 ∧ F.s q.1 = E.s q.2
theorem rd_of {F E : Env} (hh : F.h = E.h) (hz : ∀ q ∈ E.z, q ∈ F.z) {a : Addr} {l : List Value} (r : E.rd a l) : F.rd a l := fun g hg => r g ⟨fun b o hb => hg.1 b o (by rw [hh]; exact hb), fun q hq => hg.2 q (hz q hq)⟩
theorem fz_of {F E : Env} (hh : F.h = E.h) (hz : ∀ q ∈ E.z, q ∈ F.z) {d : LD} {k : CK} (f : Fz E d k) : Fz F d k := ⟨f.1, lies_mono (fun _ _ => rd_of hh hz) f.2⟩
theorem RnE.sub {F E : Env} {p q : Prs} (r : RnE F E q) (h : ∀ x ∈ p, x ∈ q) : RnE F E p := ⟨r.hh, r.hz, fun x hx => r.hp x (h x hx)⟩
theorem cst_same (E F : Env) {x : FV} (h : cst x = true) : den E x = den F x := by
  cases x <;> simp only [cst] at h <;> try (cases h; done)
  all_goals try rfl
  rename_i f a b
  cases a with
  | nil => cases b with
    | nil => rfl
    | cons _ _ => cases h
  | cons _ _ => cases h
theorem mtP_one {p : Pt} {v : FV} {q : List LD × Prs} (h : mtP p v = some q) (ho : oneF v = true) (ids : Nat → Nat) (ys : Nat → LD) (n : Nat) : oneF (fvP ids ys p n) = true := by
  cases p with
  | h k => exact leaf_one _ _
  | x u =>
    simp only [mtP] at h
    cases hb : eqV u v && cst u with
    | false => rw [hb] at h; cases h
    | true =>
      simp only [Bool.and_eq_true] at hb
      rw [← eqV_t hb.1] at ho
      exact ho
  | p j o => rfl
  | m j => rfl
  | s j t => rfl
  | f g a b => rfl
  | a l =>
    simp only [mtP] at h
    cases v <;> try (cases h; done)
    cases ho
  | i t p => rfl
theorem off_agree {ys : Nat → LD} {n : Nat} {a b : List LD} (h : ∀ j d, (a ++ b)[j]? = some d → ys (n + j) = d) : (∀ j d, a[j]? = some d → ys (n + j) = d) ∧ ∀ j d, b[j]? = some d → ys (n + a.length + j) = d := by
  refine ⟨fun j d hj => h j d ?_, fun j d hj => ?_⟩
  · rw [List.getElem?_append_left (List.getElem?_eq_some_iff.1 hj).1]; exact hj
  · have := h (a.length + j) d (by rw [List.getElem?_append_right (by omega)]; simpa using hj)
    rw [← this]; congr 1; omega
mutual
theorem mtP_ok {E : Env} : ∀ {p : Pt} {v : FV} {q : List LD × Prs} {u : Value}, mtP p v = some q → den E v = some u →
    wtL q.1 (ksP p) ∧ ∀ F, RnE F E q.2 → ∀ ys n, (∀ j d, q.1[j]? = some d → ys (n + j) = d) → den F (fvP id ys p n) = some u
  | .h k, v, q, u, h, hd => by
    simp only [mtP] at h
    cases ht : toLD k v with
    | none => rw [ht] at h; cases h
    | some d =>
      rw [ht] at h; simp only [Option.some.injEq] at h; subst h
      obtain ⟨f1, f2⟩ := toLD_ok ht hd
      refine ⟨by simp only [ksP, wtL]; exact ⟨f1.1, trivial⟩, fun F r ys n ha => ?_⟩
      have := ha 0 d rfl
      simp only [fvP]
      rw [show ys n = d from this, leaf_den (fz_of r.hh r.hz f1), f2]
  | .x w, v, q, u, h, hd => by
    simp only [mtP] at h
    cases hb : eqV w v && cst w with
    | false => rw [hb] at h; cases h
    | true =>
      rw [hb] at h; simp only [cond_true, Option.some.injEq] at h; subst h
      simp only [Bool.and_eq_true] at hb
      refine ⟨by simp only [ksP, wtL], fun F r ys n ha => ?_⟩
      simp only [fvP]
      rw [cst_same F E hb.2, eqV_t hb.1]; exact hd
  | .p j o, v, q, u, h, hd => by
    simp only [mtP] at h
    cases v <;> try (cases h; done)
    rename_i i o'
    simp only at h
    cases hb : Nat.beq o o' with
    | false => rw [hb] at h; cases h
    | true =>
      rw [hb] at h; simp only [cond_true, Option.some.injEq] at h; subst h
      have e := beq_t hb
      subst e
      refine ⟨by simp only [ksP, wtL], fun F r ys n ha => ?_⟩
      obtain ⟨a, h1, h2⟩ := den_ptr hd
      have h3 := (r.hp (j, i) (.head _)).1
      simp only [fvP, den, id]
      rw [show F.p j = E.p i from h3, h1, h2]
  | .m j, v, q, u, h, hd => by
    simp only [mtP] at h
    cases v <;> try (cases h; done)
    rename_i i
    simp only [Option.some.injEq] at h; subst h
    refine ⟨by simp only [ksP, wtL], fun F r ys n ha => ?_⟩
    have h3 := (r.hp (j, i) (.head _)).1
    simp only [fvP, den, id] at hd ⊢
    rw [show F.p j = E.p i from h3]; exact hd
  | .s j t, v, q, u, h, hd => by
    simp only [mtP] at h
    cases v <;> try (cases h; done)
    rename_i t' i
    simp only at h
    cases hb : Nat.beq t t' with
    | false => rw [hb] at h; cases h
    | true =>
      rw [hb] at h; simp only [cond_true, Option.some.injEq] at h; subst h
      have e := beq_t hb
      subst e
      refine ⟨by simp only [ksP, wtL], fun F r ys n ha => ?_⟩
      obtain ⟨⟨a, h1⟩, h2, a', n', c', hv⟩ := den_os hd
      have h3 := r.hp (j, i) (.head _)
      simp only [fvP, den, id]
      rw [show F.p j = E.p i from h3.1, h1, show F.s j = E.s i from h3.2.2, h2, hv]
  | .f g a b, v, q, u, h, hd => by
    simp only [mtP] at h
    cases v <;> try (cases h; done)
    rename_i g' a' b'
    simp only at h
    cases hb : keqF g g' with
    | false => rw [hb] at h; cases h
    | true =>
      rw [hb] at h
      simp only [cond_true] at h
      have e := keqF_t hb
      subst e
      obtain ⟨x, y, h1, h2, rfl⟩ := den_fn hd
      cases ha : mtL a a' with
      | none => rw [ha] at h; cases h
      | some q1 =>
        cases hb' : mtL b b' with
        | none => rw [ha, hb'] at h; cases h
        | some q2 =>
          rw [ha, hb'] at h; simp only [Option.some.injEq] at h; subst h
          obtain ⟨w1, f1⟩ := mtL_ok ha h1
          obtain ⟨w2, f2⟩ := mtL_ok hb' h2
          refine ⟨by simp only [ksP]; exact wtL_append w1 w2, fun F r ys n hag => ?_⟩
          obtain ⟨g1, g2⟩ := off_agree hag
          have r1 := f1 F (r.sub fun x hx => List.mem_append_left _ hx) ys n g1
          have r2 := f2 F (r.sub fun x hx => List.mem_append_right _ hx) ys (n + (ksPL a).length) (by rw [← (vs_len w1).2]; exact g2)
          simp only [fvP, den, r1, r2]
  | .a l, v, q, u, h, hd => by
    simp only [mtP] at h
    cases v <;> try (cases h; done)
    rename_i l'
    simp only at h
    simp only [den] at hd
    cases hl : denL E l' with
    | none => rw [hl] at hd; cases hd
    | some x =>
      rw [hl] at hd
      simp only at hd
      by_cases ho : l'.all oneF = true
      · rw [if_pos ho] at hd; simp only [Option.some.injEq] at hd; subst hd
        obtain ⟨w1, f1⟩ := mtL_ok h hl
        refine ⟨by simp only [ksP]; exact w1, fun F r ys n hag => ?_⟩
        simp only [fvP, den, f1 F r ys n hag]
        rw [if_pos (mtL_one h ho id ys n)]
      · rw [if_neg ho] at hd; cases hd
  | .i t p, v, q, u, h, hd => by
    simp only [mtP] at h
    cases v <;> try (cases h; done)
    rename_i t' v
    simp only at h
    cases hb : Nat.beq t t' with
    | false => rw [hb] at h; cases h
    | true =>
      rw [hb] at h
      simp only [cond_true] at h
      have e := beq_t hb
      subst e
      simp only [den] at hd
      cases hv : den E v with
      | none => rw [hv] at hd; cases hd
      | some x =>
        rw [hv] at hd
        obtain ⟨w1, f1⟩ := mtP_ok h hv
        refine ⟨by simp only [ksP]; exact w1, fun F r ys n hag => ?_⟩
        simp only [fvP, den, f1 F r ys n hag]; exact hd
theorem mtL_ok {E : Env} : ∀ {l : List Pt} {vs : List FV} {q : List LD × Prs} {us : List Value}, mtL l vs = some q → denL E vs = some us →
    wtL q.1 (ksPL l) ∧ ∀ F, RnE F E q.2 → ∀ ys n, (∀ j d, q.1[j]? = some d → ys (n + j) = d) → denL F (fvPL id ys l n) = some us
  | [], vs, q, us, h, hd => by
    cases vs with
    | cons _ _ => simp [mtL] at h
    | nil =>
      simp only [mtL, Option.some.injEq] at h; subst h
      simp only [denL, Option.some.injEq] at hd; subst hd
      exact ⟨by simp only [ksPL, wtL], fun F r ys n ha => rfl⟩
  | p :: l, vs, q, us, h, hd => by
    cases vs with
    | nil => simp [mtL] at h
    | cons v vs =>
      simp only [mtL] at h
      obtain ⟨u, us', h1, h2, rfl⟩ := denL_cons hd
      cases ha : mtP p v with
      | none => rw [ha] at h; cases h
      | some q1 =>
        cases hb' : mtL l vs with
        | none => rw [ha, hb'] at h; cases h
        | some q2 =>
          rw [ha, hb'] at h; simp only [Option.some.injEq] at h; subst h
          obtain ⟨w1, f1⟩ := mtP_ok ha h1
          obtain ⟨w2, f2⟩ := mtL_ok hb' h2
          refine ⟨by simp only [ksPL]; exact wtL_append w1 w2, fun F r ys n hag => ?_⟩
          obtain ⟨g1, g2⟩ := off_agree hag
          have r1 := f1 F (r.sub fun x hx => List.mem_append_left _ hx) ys n g1
          have r2 := f2 F (r.sub fun x hx => List.mem_append_right _ hx) ys (n + (ksP p).length) (by rw [← (vs_len w1).2]; exact g2)
          simp only [fvPL]
          exact denL_of r1 r2
theorem mtL_one : ∀ {l : List Pt} {vs : List FV} {q : List LD × Prs}, mtL l vs = some q → vs.all oneF = true → ∀ (ids : Nat → Nat) (ys : Nat → LD) (n : Nat), (fvPL ids ys l n).all oneF = true
  | [], vs, q, h, _, ids, ys, n => rfl
  | p :: l, vs, q, h, ho, ids, ys, n => by
    cases vs with
    | nil => simp [mtL] at h
    | cons v vs =>
      simp only [mtL] at h
      simp only [List.all_cons, Bool.and_eq_true] at ho
      cases ha : mtP p v with
      | none => rw [ha] at h; cases h
      | some q1 =>
        cases hb' : mtL l vs with
        | none => rw [ha, hb'] at h; cases h
        | some q2 =>
          simp only [fvPL, List.all_cons, Bool.and_eq_true]
          exact ⟨mtP_one ha ho.1 ids ys n, mtL_one hb' ho.2 ids ys _⟩
end
def Fit (E : Env) (ps : List Pt) (us : List Value) (ds : List LD) (prs : Prs) : Prop :=
  wtL ds (ksPL ps) ∧ ∀ F, E.Le F → ∀ G, RnE G F prs → ∀ ys n, (∀ j d, ds[j]? = some d → ys (n + j) = d) → denL G (fvPL id ys ps n) = some us
/-- What becomes of one value. -/
def AgOk (ag : Pt → FV → TH → (List LD → Prs → TH → Prop) → Prop) : Prop := ∀ p v th K, ag p v th K → ∀ E h0 h L u, Rep E th h0 h L → den E v = some u →
    ∃ F ds prs th', E.Le F ∧ Rep F th' h0 h L ∧ Fit F [p] [u] ds prs ∧ (oneF v = true → ∀ ids ys n, oneF (fvP ids ys p n) = true) ∧ K ds prs th'
theorem Fit.one {E : Env} {p : Pt} {u : Value} {ds : List LD} {prs : Prs} (f : Fit E [p] [u] ds prs) : wtL ds (ksP p) ∧ ∀ F, E.Le F → ∀ G, RnE G F prs → ∀ ys n, (∀ j d, ds[j]? = some d → ys (n + j) = d) → den G (fvP id ys p n) = some u := by
  refine ⟨by have := f.1; simpa only [ksPL, List.append_nil] using this, fun F hF G rG ys n hag => ?_⟩
  have := f.2 F hF G rG ys n hag
  simp only [fvPL] at this
  obtain ⟨u1, us, h1, _, h3⟩ := denL_cons this
  simp only [List.cons.injEq] at h3
  rw [h1, h3.1]
theorem Fit.cons {E F : Env} {p : Pt} {l : List Pt} {u : Value} {us : List Value} {ds ds' : List LD} {prs prs' : Prs} (f : Fit E [p] [u] ds prs) (le : E.Le F) (g : Fit F l us ds' prs') : Fit F (p :: l) (u :: us) (ds ++ ds') (prs ++ prs') := by
  obtain ⟨w1, f1⟩ := f.one
  refine ⟨by simp only [ksPL]; exact wtL_append w1 g.1, fun F2 hF G rF ys n hag => ?_⟩
  obtain ⟨a1, a2⟩ := off_agree hag
  have r1 := f1 F2 (le.trans hF) G (rF.sub fun x hx => List.mem_append_left _ hx) ys n a1
  have r2 := g.2 F2 hF G (rF.sub fun x hx => List.mem_append_right _ hx) ys (n + (ksP p).length) (by rw [← (vs_len w1).2]; exact a2)
  simp only [fvPL]
  exact denL_of r1 r2
theorem ag0_ok : AgOk ag0 := fun p v th K hx E h0 h L u r hd => by
  unfold ag0 at hx
  cases hq : mtP p v with
  | none => rw [hq] at hx; exact hx.elim
  | some q =>
    rw [hq] at hx
    obtain ⟨w1, _⟩ := mtP_ok hq hd
    refine ⟨E, q.1, q.2, th, Env.Le.refl E, r, ⟨by simpa only [ksPL, List.append_nil] using w1, fun F2 hF G rF ys n hag => ?_⟩, fun ho ids ys n => mtP_one hq ho ids ys n, hx⟩
    have r1 := (mtP_ok hq (den_mono hF hd)).2 G rF ys n hag
    simp only [fvPL]
    exact denL_of r1 rfl
theorem mtG_ok {ag : Pt → FV → TH → (List LD → Prs → TH → Prop) → Prop} (hag0 : AgOk ag) : ∀ ps vs th K, mtG ag ps vs th K → ∀ E h0 h L us, Rep E th h0 h L → denL E vs = some us →
    ∃ F ds prs th', E.Le F ∧ Rep F th' h0 h L ∧ Fit F ps us ds prs ∧ (vs.all oneF = true → ∀ ids ys n, (fvPL ids ys ps n).all oneF = true) ∧ K ds prs th'
  | [], vs, th, K, hx, E, h0, h, L, us, r, hd => by
    cases vs with
    | cons _ _ => exact hx.elim
    | nil =>
      simp only [denL, Option.some.injEq] at hd; subst hd
      exact ⟨E, [], [], th, Env.Le.refl E, r, ⟨by simp only [ksPL, wtL], fun F _ G _ ys n _ => rfl⟩, fun _ _ _ _ => rfl, hx⟩
  | p :: l, vs, th, K, hx, E, h0, h, L, us, r, hd => by
    cases vs with
    | nil => exact hx.elim
    | cons v vs =>
      obtain ⟨u, us', h1, h2, rfl⟩ := denL_cons hd
      have other : ag p v th (fun ds' prs' th => mtG ag l vs th fun ds prs th => K (ds' ++ ds) (prs' ++ prs) th) → ∃ F ds prs th', E.Le F ∧ Rep F th' h0 h L ∧ Fit F (p :: l) (u :: us') ds prs ∧ ((v :: vs).all oneF = true → ∀ ids ys n, (fvPL ids ys (p :: l) n).all oneF = true) ∧ K ds prs th' := fun hk => by
        obtain ⟨F1, ds1, prs1, th1, b1, b2, b3, b4, b5⟩ := hag0 p v th _ hk E h0 h L u r h1
        obtain ⟨F, ds, prs, th', g1, g3, g4, g5, g6⟩ := mtG_ok hag0 l vs th1 _ b5 F1 h0 h L us' b2 (denL_mono b1 h2)
        refine ⟨F, ds1 ++ ds, prs1 ++ prs, th', b1.trans g1, g3, b3.cons g1 g4, fun ho ids ys n => ?_, g6⟩
        simp only [List.all_cons, Bool.and_eq_true] at ho
        simp only [fvPL, List.all_cons, Bool.and_eq_true]
        exact ⟨b4 ho.1 ids ys n, g5 ho.2 ids ys _⟩
      cases p with
      | h k =>
        simp only [mtG] at hx
        obtain ⟨z, d, th', g1, g2, g3, g4, g5, g6⟩ := frz_ok fzD k v th _ hx E h0 h L u r h1
        obtain ⟨F, ds, prs, th2, e1, e3, e4, e5, e6⟩ := mtG_ok hag0 l vs th' _ g6 (E.wz z) h0 h L us' g3 (denL_mono (Env.le_wz g1) h2)
        refine ⟨F, d :: ds, prs, th2, (Env.le_wz g1).trans e1, e3, ⟨by simp only [ksPL, ksP, List.singleton_append, wtL]; exact ⟨g4.1, e4.1⟩, fun F2 hF G rF ys n hag => ?_⟩, fun ho ids ys n => ?_, e6⟩
        · obtain ⟨a1, a2⟩ := off_agree (a := [d]) hag
          have := a1 0 d rfl
          have f := fz_of (F := G) (E := F2) rF.hh rF.hz (g4.mono (e1.trans hF).p)
          simp only [fvPL, fvP]
          refine denL_of ?_ (e4.2 F2 hF G rF ys _ a2)
          rw [show ys n = d from this, leaf_den f, g5]
        · simp only [List.all_cons, Bool.and_eq_true] at ho
          simp only [fvPL, List.all_cons, Bool.and_eq_true]
          exact ⟨leaf_one _ _, e5 ho.2 ids ys _⟩
      | s j t =>
        cases v <;> try (exact hx.elim)
        · simp only [mtG] at hx
          cases hl : lyG t with
          | none => rw [hl] at hx; exact hx.elim
          | some ks =>
            rw [hl] at hx
            obtain ⟨hb, hx⟩ := bif_el hx
            simp only [den, Option.some.injEq] at h1
            have ne : ks ≠ [] := fun e => by rw [e] at hb; cases hb
            obtain ⟨a1, a2, a3⟩ := Rep.addW (E := E) (th := th) (t := t) (ks := ks) (es := []) r.fr r.eh r.nx (lyG_eq hl) ne (by simp only [wtE]) (by simp only [liesE]) (by simp) (St.rowNil r.st ks.length)
            obtain ⟨F, ds, prs, th2, e1, e3, e4, e5, e6⟩ := mtG_ok hag0 l vs _ _ hx _ h0 h L us' a2 (denL_mono a1 h2)
            refine ⟨F, ds, (j, th.nx) :: prs, th2, a1.trans e1, e3, ⟨by simp only [ksPL, ksP, List.nil_append]; exact e4.1, fun F2 hF G rF ys n hag => ?_⟩, fun ho ids ys n => ?_, e6⟩
            · simp only [fvPL, fvP, ksP, List.length_nil, Nat.add_zero]
              refine denL_of ?_ (e4.2 F2 hF G (rF.sub fun x hx => .tail _ hx) ys n hag)
              obtain ⟨⟨a, q1⟩, q2, _⟩ := den_os (den_mono (e1.trans hF) a3)
              have q3 := rF.hp _ (.head _)
              simp only [den, id]
              rw [show G.p j = F2.p th.nx from q3.1, q1, show G.s j = F2.s th.nx from q3.2.2, q2, ← h1]
            · simp only [List.all_cons, Bool.and_eq_true] at ho
              simp only [fvPL, List.all_cons, Bool.and_eq_true]
              exact ⟨rfl, e5 ho.2 ids ys _⟩
        · rename_i t' i
          simp only [mtG] at hx
          cases hb : Nat.beq t t' with
          | false => rw [hb] at hx; exact hx.elim
          | true =>
            rw [hb] at hx
            obtain ⟨F, ds, prs, th', g1, g3, g4, g5, g6⟩ := mtG_ok hag0 l vs th _ hx E h0 h L us' r h2
            have hq : mtP (.s j t) (.os t' i) = some ([], [(j, i)]) := by simp only [mtP, hb, cond_true]
            have w1 := mtP_ok hq h1
            refine ⟨F, ds, (j, i) :: prs, th', g1, g3, ⟨by simp only [ksPL]; exact wtL_append w1.1 g4.1, fun F2 hF G rF ys n hag => ?_⟩, fun ho ids ys n => ?_, g6⟩
            · have r1 := (mtP_ok hq (den_mono (g1.trans hF) h1)).2 G (rF.sub fun x hx => by simp only [List.mem_singleton] at hx; subst hx; exact .head _) ys n (fun _ _ h => by cases h)
              have r2 := g4.2 F2 hF G (rF.sub fun x hx => .tail _ hx) ys (n + (ksP (.s j t)).length) hag
              simp only [fvPL]
              exact denL_of r1 r2
            · simp only [List.all_cons, Bool.and_eq_true] at ho
              simp only [fvPL, List.all_cons, Bool.and_eq_true]
              exact ⟨mtP_one hq ho.1 ids ys n, g5 ho.2 ids ys _⟩
      | _ =>
        simp only [mtG] at hx
        exact other hx
theorem ag1_ok : AgOk ag1 := fun p v th K hx E h0 h L u r hd => by
  cases p with
  | a l =>
    cases v <;> try (exact hx.elim)
    rename_i l'
    simp only [den] at hd
    cases hl : denL E l' with
    | none => rw [hl] at hd; cases hd
    | some x =>
      rw [hl] at hd
      simp only at hd
      by_cases ho : l'.all oneF = true
      · rw [if_pos ho] at hd; simp only [Option.some.injEq] at hd; subst hd
        obtain ⟨F, ds, prs, th', g1, g3, g4, g5, g6⟩ := mtG_ok ag0_ok l l' th _ hx E h0 h L x r hl
        refine ⟨F, ds, prs, th', g1, g3, ⟨by have := g4.1; simpa only [ksPL, ksP, List.append_nil] using this, fun F2 hF G rF ys n hag => ?_⟩, fun h => (by cases h), g6⟩
        have := g4.2 F2 hF G rF ys n hag
        simp only [fvPL, fvP]
        refine denL_of ?_ rfl
        simp only [den, this]
        rw [if_pos (g5 ho id ys n)]
      · rw [if_neg ho] at hd; cases hd
  | _ => exact ag0_ok _ v th K hx E h0 h L u r hd
theorem mtA_ok : ∀ ps vs th K, mtA ps vs th K → ∀ E h0 h L us, Rep E th h0 h L → denL E vs = some us →
    ∃ F ds prs th', E.Le F ∧ Rep F th' h0 h L ∧ Fit F ps us ds prs ∧ (vs.all oneF = true → ∀ ids ys n, (fvPL ids ys ps n).all oneF = true) ∧ K ds prs th' := mtG_ok ag1_ok
theorem lkA_mem {j i : Nat} : ∀ {prs : Prs}, lkA j prs = some i → (j, i) ∈ prs
  | q :: r, h => by
    simp only [lkA] at h
    cases hb : Nat.beq q.1 j with
    | true =>
      rw [hb] at h; simp only [cond_true, Option.some.injEq] at h
      have e := beq_t hb
      subst h; subst e; exact .head _
    | false => rw [hb] at h; exact .tail _ (lkA_mem h)
theorem mtO_ok : ∀ os j prs th K, mtO os j prs th K → ∀ E h0 h L, Rep E th h0 h L →
    ∃ F ds prs' Ps th', E.Le F ∧ Rep F th' h0 h (Ps ++ L) ∧ wtL ds (ksOL os) ∧ (∀ q ∈ prs, q ∈ prs') ∧ (∀ i, i < os.length → ∃ i' a, (j + i, i') ∈ prs' ∧ F.p i' = some a) ∧
      (∀ G, RnE G F prs' → ∀ ys n, (∀ i d, ds[i]? = some d → ys (n + i) = d) → ∀ M U, Sep h (Ps ++ M) U → Sep h ((tosO id ys os j n).map (part G) ++ M) U) ∧ K ds prs' th'
  | [], j, prs, th, K, hx, E, h0, h, L, r => ⟨E, [], prs, [], th, Env.Le.refl E, r, by simp only [ksOL, wtL], fun _ h => h, fun i hi => by simp at hi, fun F _ ys n _ M U s => s, hx⟩
  | .r t :: os, j, prs, th, K, hx, E, h0, h, L, r => by
    simp only [mtO] at hx
    cases hl : lkA j prs with
    | none => rw [hl] at hx; exact hx.elim
    | some i =>
      rw [hl] at hx
      simp only at hx
      cases hg : th.t.get i with
      | none => rw [hg] at hx; exact hx.elim
      | some ob =>
        rw [hg] at hx
        cases ob <;> try (exact hx.elim)
        rename_i t' es
        simp only at hx
        obtain ⟨hb, hx2⟩ := bif_el hx
        have e := beq_t hb
        subst e
        obtain ⟨a, v, ks, hw, _⟩ := r.toldW hg
        obtain ⟨F, ds', prs', Ps, th2, e1, e3, e4, e5, e6, e7, e8⟩ := mtO_ok os j.succ prs (th.del i) _ hx2 E h0 h _ (r.out hg)
        have hm : (j, i) ∈ prs' := e5 _ (lkA_mem hl)
        refine ⟨F, .t es :: ds', prs', part E (i, .row _ es) :: Ps, th2, e1, e3.permL List.perm_middle, ?_, e5, fun q hq => ?_, fun G rG ys n hag M U s => ?_, e8⟩
        · simp only [ksOL, ksO, List.singleton_append, wtL, wt]
          rw [hw.ly]
          exact ⟨⟨hw.len, hw.ne, hw.wt⟩, e4⟩
        · cases q with
          | zero => exact ⟨i, a, hm, (e1.p.a i a hw.p).1⟩
          | succ q =>
            obtain ⟨i', a', h1, h2⟩ := e6 q (by simpa using hq)
            exact ⟨i', a', by rw [show j + (q + 1) = j.succ + q by omega]; exact h1, h2⟩
        · obtain ⟨a1, a2⟩ := off_agree (a := [.t es]) hag
          have h0' := a1 0 _ rfl
          obtain ⟨S, o1, o2, o3⟩ := s
          refine ⟨S, ?_, o2, ?_⟩
          · obtain ⟨x, hx, ho⟩ := o1
            have rp := rG.hp _ hm
            have hx2 := hx.mono e1.p
            have ey : (ys n).cs = es := by rw [show ys n = .t es from h0']; rfl
            refine ⟨x, ?_, ?_⟩
            · show RowIs G j _ (ys n).cs x.1 x.2.1 x.2.2
              rw [ey]
              exact ⟨rp.1.trans hx2.p, rp.2.2.trans hx2.s, hx2.ly, hx2.ne, hx2.wt, liesE_mono (fun _ _ => rd_of rG.hh rG.hz) hx2.li, hx2.len⟩
            · show (Row x.2.2.length x.2.1 (ys n).cs.length (LD.vsE x.2.2 (ys n).cs)).own h S
              rw [ey]; exact ho
          · exact e7 G rG ys (n + 1) a2 M _ o3
  | .c l k :: os, j, prs, th, K, hx, E, h0, h, L, r => by
    simp only [mtO] at hx
    cases hl : lkA j prs with
    | none => rw [hl] at hx; exact hx.elim
    | some i =>
      rw [hl] at hx
      simp only at hx
      cases hg : th.t.get i with
      | none => rw [hg] at hx; exact hx.elim
      | some ob =>
        rw [hg] at hx
        cases ob <;> try (exact hx.elim)
        rename_i cs kk
        simp only at hx
        cases hb : Nat.beq kk k with
        | false => rw [hb] at hx; exact hx.elim
        | true =>
          rw [hb] at hx
          simp only [cond_true] at hx
          have e := beq_t hb
          subst e
          obtain ⟨a, vs, post, hc, _⟩ := r.told hg
          obtain ⟨F1, ds, prs1, th1, g1, g3, g4, g5, g6⟩ := mtA_ok l cs (th.del i) _ hx E h0 h _ vs (r.out hg) hc.2.1
          obtain ⟨F, ds', prs', Ps, th2, e1, e3, e4, e5, e6, e7, e8⟩ := mtO_ok os j.succ (prs ++ prs1) th1 _ g6 F1 h0 h _ g3
          have hm : (j, i) ∈ prs' := e5 _ (List.mem_append_left _ (lkA_mem hl))
          have le := g1.trans e1
          refine ⟨F, ds ++ ds', prs', part E (i, .cells cs kk) :: Ps, th2, le, e3.permL List.perm_middle, by simp only [ksOL, ksO]; exact wtL_append g4.1 e4, fun q hq => e5 q (List.mem_append_left _ hq), fun q hq => ?_, fun G rG ys n hag M U s => ?_, e8⟩
          · cases q with
            | zero => exact ⟨i, a, hm, (le.p.a i a hc.1).1⟩
            | succ q =>
              obtain ⟨i', a', h1, h2⟩ := e6 q (by simpa using hq)
              exact ⟨i', a', by rw [show j + (q + 1) = j.succ + q by omega]; exact h1, h2⟩
          · obtain ⟨a1, a2⟩ := off_agree hag
            obtain ⟨S, o1, o2, o3⟩ := s
            refine ⟨S, ?_, o2, ?_⟩
            · obtain ⟨x, hx, ho⟩ := o1
              have rp := rG.hp _ hm
              have ev : x.2.1 = vs := by have := hx.2.1; rw [hc.2.1] at this; simpa using this.symm
              have xa : x.1 = a := by have := hx.1; rw [hc.1] at this; simpa using this.symm
              obtain ⟨la, lc⟩ := le.p.a i a hc.1
              refine ⟨x, ⟨rp.1.trans (by rw [xa]; exact la), ?_, g5 hx.2.2.1 id ys n, hx.2.2.2.1, fun hk => ?_⟩, ho⟩
              · have := g4.2 F e1 G (rG.sub fun q hq => e5 q (List.mem_append_right _ hq)) ys n a1
                rw [ev]; exact this
              · have := hx.2.2.2.2 hk
                rw [this]
                show E.c i * kk = G.c j * kk
                rw [rp.2.1]; show _ = F.c i * kk; rw [lc]
            · have := e7 G rG ys (n + (ksO (.c l kk)).length) (by
                have : (ksO (.c l kk)).length = ds.length := (vs_len g4.1).2.symm
                rw [this]; exact a2) M _ o3
              exact this
end Go.Va
set_option linter.unusedVariables false
set_option linter.unusedSectionVars false
set_option linter.unusedSimpArgs false
namespace Go.Va
open Go Go.Sh
variable [Vb]

/-- The things of a state by itself. -/
noncomputable def thS (s : SPt) (ys : List LD) : TH := ⟨putOs (tosO id (nthD ys) s.os 0 (ksPL s.ps).length) .nil, s.os.length, .nil⟩
theorem okA_ok {n : Nat} {prs : Prs} : ∀ {r : Prs}, okA n prs r = true → ∀ q ∈ r, q.1 < n ∧ lkA q.1 prs = some q.2
  | [], _, q, hq => by cases hq
  | p :: r, h, q, hq => by
    simp only [okA, Bool.and_eq_true] at h
    rcases List.mem_cons.1 hq with rfl | hq
    · refine ⟨blt_t h.1.1, ?_⟩
      have := h.1.2
      cases hl : lkA q.1 prs with
      | none => rw [hl] at this; cases this
      | some i => rw [hl] at this; rw [beq_t this]
    · exact okA_ok h.2 q hq
noncomputable def locE (E : Env) (prs : Prs) (n : Nat) : Env := ⟨fun j => if j < n then (match lkA j prs with
  | some i => E.p i
  | none => none) else none, fun j => E.c (idsA prs j), fun _ => false, E.h, E.z, fun j => E.s (idsA prs j)⟩
theorem loc_rn {E : Env} {prs : Prs} {n : Nat} (h : okA n prs prs = true) : RnE (locE E prs n) E prs := ⟨rfl, fun _ h => h, fun q hq => by
  obtain ⟨h1, h2⟩ := okA_ok h q hq
  simp [locE, h1, h2, idsA]⟩
theorem putOs_all : ∀ (l : List (Nat × TO)) (t : Tr TO), (∀ p ∈ l, t.get p.1 = none) → (l.map (·.1)).Nodup → (putOs l t).all.Perm (l ++ t.all)
  | [], t, _, _ => .refl _
  | p :: l, t, h, nd => by
    simp only [List.map_cons, List.nodup_cons] at nd
    have := putOs_all l (t.put p.1 p.2) (fun q hq => by
      have hne : q.1 ≠ p.1 := fun e => nd.1 (List.mem_map.2 ⟨q, hq, e⟩)
      rw [Tr.get_ne _ _ hne]; exact h q (.tail _ hq)) nd.2
    refine this.trans ?_
    exact ((Tr.perm_new p.2 (h p (.head _))).append_left l).trans List.perm_middle
theorem tosO_keys (ids : Nat → Nat) (ys : Nat → LD) : ∀ (os : List OP) (j n : Nat), (tosO ids ys os j n).map (·.1) = (List.range' j os.length).map ids
  | [], _, _ => rfl
  | o :: r, j, n => by simp [tosO, tosO_keys ids ys r, List.range'_succ]
theorem tos_all (ys : Nat → LD) (os : List OP) (n : Nat) : (putOs (tosO id ys os 0 n) .nil).all.Perm (tosO id ys os 0 n) := by
  have := putOs_all (tosO id ys os 0 n) .nil (fun _ _ => Tr.get_nil _) (by rw [tosO_keys]; simp [List.nodup_range'])
  simpa [Tr.all] using this
theorem nthD_agree {a b : List LD} {n : Nat} (h : a.length = n) : ∀ j d, b[j]? = some d → nthD (a ++ b) (n + j) = d := fun j d hd => by
  subst h
  simp only [nthD, List.getD]
  rw [List.getElem?_append_right (by omega)]
  simp [hd]
theorem nthD_agree0 {a b : List LD} : ∀ j d, a[j]? = some d → nthD (a ++ b) (0 + j) = d := fun j d hd => by
  simp only [nthD, List.getD, Nat.zero_add]
  rw [List.getElem?_append_left (List.getElem?_eq_some_iff.1 hd).1]
  simp [hd]
/-- What fits is a state by itself; the rest stands beside. -/
theorem mtS_ok {s : SPt} {prs0 : Prs} {l : List FV} {th : TH} {K : List LD → Prs → TH → Prop} (hx : mtS s prs0 l th K) {E : Env} {h0 h : Heap} {L : List HP} {us : List Value} (r : Rep E th h0 h L) (hd : denL E l = some us) :
    ∃ F xs prs th' Ps, E.Le F ∧ K xs prs th' ∧ wtL xs s.ks ∧ okA s.os.length prs prs = true ∧ (∀ q ∈ prs0, q ∈ prs) ∧ (∀ j, j < s.os.length → ∃ i a, (j, i) ∈ prs ∧ F.p i = some a) ∧ Rep F th' h0 h (Ps ++ L) ∧
      Rep (locE F prs s.os.length) (thS s xs) h0 h (th'.t.all.map (part F) ++ L) ∧ denL (locE F prs s.os.length) (fvPL id (nthD xs) s.ps 0) = some us := by
  unfold mtS at hx
  obtain ⟨F1, ds, prs1, th1, g1, g3, g4, _, g6⟩ := mtA_ok s.ps l th _ hx E h0 h L us r hd
  obtain ⟨F, ds', prs, Ps, th2, e1, e3, e4, e5, e6, e7, e8⟩ := mtO_ok s.os 0 (prs0 ++ prs1) th1 _ g6 F1 h0 h L g3
  cases hb : okA s.os.length prs prs with
  | false => rw [hb] at e8; exact e8.elim
  | true =>
    rw [hb] at e8
    simp only [cond_true] at e8
    have rn := loc_rn (E := F) hb
    have hlen := (vs_len g4.1).2
    refine ⟨F, ds ++ ds', prs, th2, Ps, g1.trans e1, e8, wtL_append g4.1 e4, hb, fun q hq => e5 q (List.mem_append_left _ hq), fun j hj => by
      obtain ⟨i, a, h1, h2⟩ := e6 j hj
      exact ⟨i, a, by simpa using h1, h2⟩, e3, ⟨?_, fun i hi => ?_, e3.eh⟩, ?_⟩
    · have st := e3.st.perm (show (th2.t.all.map (part F) ++ (FzP F.z :: (Ps ++ L))).Perm (Ps ++ (FzP F.z :: (th2.t.all.map (part F) ++ L))) by
        refine (List.Perm.append_left _ List.perm_middle.symm).trans ?_
        refine (List.perm_append_comm_assoc _ _ _).trans ?_
        exact List.Perm.append_left _ List.perm_middle)
      refine St.perm ⟨st.1, e7 (locE F prs s.os.length) rn (nthD (ds ++ ds')) (ksPL s.ps).length (nthD_agree hlen) _ _ st.2⟩ ?_
      exact ((tos_all _ _ _).map _).symm.append_right _
    · have : ¬ i < s.os.length := Nat.not_lt.2 hi
      exact ⟨by simp [locE, this], rfl⟩
    · exact g4.2 F e1 _ (rn.sub fun q hq => e5 q (List.mem_append_right _ hq)) _ 0 nthD_agree0

/-! ### Back -/
mutual
/-- What is told by itself is. -/
def okPt : Pt → Bool
  | .h _ => true
  | .x v => cst v
  | .p _ _ => true
  | .m _ => true
  | .s _ _ => true
  | .f _ a b => okPtL a && okPtL b
  | .a l => okPtL l
  | .i _ p => okPt p
def okPtL : List Pt → Bool
  | [] => true
  | p :: r => okPt p && okPtL r
end
def okOP : List OP → Bool
  | [] => true
  | .c l _ :: r => okPtL l && okOP r
  | .r _ :: r => okOP r
def okSP (s : SPt) : Bool := okPtL s.ps && okOP s.os
theorem one_ids (ids : Nat → Nat) (ys : Nat → LD) (p : Pt) (n : Nat) : oneF (fvP ids ys p n) = oneF (fvP id ys p n) := by cases p <;> rfl
theorem all_ids (ids : Nat → Nat) (ys : Nat → LD) : ∀ (l : List Pt) (n : Nat), (fvPL ids ys l n).all oneF = (fvPL id ys l n).all oneF
  | [], _ => rfl
  | p :: l, n => by simp only [fvPL, List.all_cons, one_ids ids ys p n, all_ids ids ys l]
structure GlE (F E : Env) (ids : Nat → Nat) : Prop where
  p : ∀ j a, F.p j = some a → E.p (ids j) = some a ∧ E.c (ids j) = F.c j ∧ E.s (ids j) = F.s j
  h : E.h = F.h
  z : ∀ q ∈ F.z, q ∈ E.z
theorem leaf_gl {F E : Env} {ids : Nat → Nat} (g : GlE F E ids) {k : CK} {d : LD} {u : Value} (h : den F (leaf k d) = some u) : den E (leaf k d) = some u := by
  cases k with
  | i k => exact h
  | b => exact h
  | s => exact h
  | p t => obtain ⟨f, e⟩ := den_dp h; rw [leaf_den (fz_of g.h g.z f), e]
  | l t => obtain ⟨f, e⟩ := den_ds h; rw [leaf_den (fz_of g.h g.z f), e]
  | r t => exact h
mutual
theorem gl_den {F E : Env} {ids : Nat → Nat} (g : GlE F E ids) (ys : Nat → LD) : ∀ (p : Pt) (n : Nat) (u : Value), okPt p = true → den F (fvP id ys p n) = some u → den E (fvP ids ys p n) = some u
  | .h k, n, u, _, h => leaf_gl g h
  | .x v, n, u, ok, h => by
    simp only [okPt] at ok
    simp only [fvP] at h ⊢
    rw [cst_same E F ok]; exact h
  | .p j o, n, u, _, h => by
    simp only [fvP] at h ⊢
    obtain ⟨a, h1, h2⟩ := den_ptr h
    have := (g.p j a h1).1
    simp only [den, this, h2]
  | .m j, n, u, _, h => by
    simp only [fvP, den, id] at h ⊢
    cases hp : F.p j with
    | none => rw [hp] at h; cases h
    | some a => rw [hp] at h; rw [(g.p j a hp).1]; exact h
  | .s j t, n, u, _, h => by
    simp only [fvP] at h ⊢
    obtain ⟨⟨a, h1⟩, h2, a', n', c', hv⟩ := den_os h
    have := g.p j a h1
    simp only [den]
    rw [this.1, this.2.2]
    show (match F.s j with | .slice a n c => some (Value.slice a n c) | _ => none) = some u
    have h2 : F.s j = u := h2
    rw [h2, hv]
  | .f f a b, n, u, ok, h => by
    simp only [okPt, Bool.and_eq_true] at ok
    simp only [fvP] at h ⊢
    obtain ⟨x, y, h1, h2, rfl⟩ := den_fn h
    simp only [den, gl_denL g ys a n x ok.1 h1, gl_denL g ys b _ y ok.2 h2]
  | .a l, n, u, ok, h => by
    simp only [okPt] at ok
    simp only [fvP, den] at h ⊢
    cases hl : denL F (fvPL id ys l n) with
    | none => rw [hl] at h; cases h
    | some x =>
      rw [hl] at h
      simp only at h
      rw [gl_denL g ys l n x ok hl, all_ids]
      exact h
  | .i t p, n, u, ok, h => by
    simp only [okPt] at ok
    simp only [fvP, den] at h ⊢
    cases hl : den F (fvP id ys p n) with
    | none => rw [hl] at h; cases h
    | some x => rw [hl] at h; rw [gl_den g ys p n x ok hl]; exact h
theorem gl_denL {F E : Env} {ids : Nat → Nat} (g : GlE F E ids) (ys : Nat → LD) : ∀ (l : List Pt) (n : Nat) (us : List Value), okPtL l = true → denL F (fvPL id ys l n) = some us → denL E (fvPL ids ys l n) = some us
  | [], n, us, _, h => h
  | p :: l, n, us, ok, h => by
    simp only [okPtL, Bool.and_eq_true] at ok
    simp only [fvPL] at h ⊢
    obtain ⟨u, us', h1, h2, rfl⟩ := denL_cons h
    exact denL_of (gl_den g ys p n u ok.1 h1) (gl_denL g ys l _ us' ok.2 h2)
end
theorem gl_tos {F E : Env} {ids : Nat → Nat} (g : GlE F E ids) (ys : Nat → LD) {h : Heap} {M : List HP} : ∀ (os : List OP) (j n : Nat) (U : Nat → Prop), okOP os = true → Sep h ((tosO id ys os j n).map (part F) ++ M) U → Sep h ((tosO ids ys os j n).map (part E) ++ M) U
  | [], j, n, U, _, s => s
  | .r t :: os, j, n, U, ok, s => by
    simp only [okOP] at ok
    obtain ⟨S, o1, o2, o3⟩ := s
    refine ⟨S, ?_, o2, gl_tos g ys os j.succ _ _ ok o3⟩
    obtain ⟨x, hx, ho⟩ := o1
    have hx : RowIs F j t (ys n).cs x.1 x.2.1 x.2.2 := hx
    have gp := g.p j x.1 hx.p
    exact ⟨x, ⟨gp.1, gp.2.2.trans hx.s, hx.ly, hx.ne, hx.wt, liesE_mono (fun _ _ => rd_of g.h g.z) hx.li, hx.len⟩, ho⟩
  | .c l k :: os, j, n, U, ok, s => by
    simp only [okOP, Bool.and_eq_true] at ok
    obtain ⟨S, o1, o2, o3⟩ := s
    refine ⟨S, ?_, o2, gl_tos g ys os j.succ _ _ ok.2 o3⟩
    obtain ⟨x, hx, ho⟩ := o1
    obtain ⟨g1, g2, _⟩ := g.p j x.1 hx.1
    exact ⟨x, ⟨g1, gl_denL g ys l n _ ok.1 hx.2.1, by rw [all_ids]; exact hx.2.2.1, hx.2.2.2.1, fun hk => by
      have := hx.2.2.2.2 hk
      rw [this]
      show F.c j * k = E.c (ids j) * k
      rw [g2]⟩, ho⟩
theorem takes_ok {E : Env} {h0 h : Heap} {L : List HP} : ∀ (l : List (Nat × TO)) (th : TH), Rep E th h0 h (l.map (part E) ++ L) → Rep E ⟨putOs l th.t, th.nx, th.scr⟩ h0 h L
  | [], th, r => r
  | p :: l, th, r => takes_ok l ⟨th.t.put p.1 p.2, th.nx, th.scr⟩ (Rep.take r)
/-- One world grows into another; rows may be others. -/
structure Env.LeK (I : List OP) (F G : Env) : Prop where
  a : ∀ j a, keptB I j = true → F.p j = some a → G.p j = some a ∧ G.c j = F.c j ∧ G.s j = F.s j
  h : G.h = F.h
  z : ∀ q ∈ F.z, q ∈ G.z
theorem Env.LeK.trans {I : List OP} {E F G : Env} (x : Env.LeK I E F) (y : Env.LeK I F G) : Env.LeK I E G :=
  ⟨fun j a hk hp => by
    obtain ⟨h1, h2, h3⟩ := x.a j a hk hp
    obtain ⟨g1, g2, g3⟩ := y.a j a hk h1
    exact ⟨g1, g2.trans h2, g3.trans h3⟩, y.h.trans x.h, fun q hq => y.z q (x.z q hq)⟩
/-- A state by itself, put back to what it was taken from. -/
theorem gl_ok {E G : Env} {prs : Prs} {s : SPt} {I : List OP} {th : TH} {h0 h hh : Heap} {L Ps : List HP} {ys : List LD} (ok : okSP s = true) (hn : kLast I ≤ s.os.length) (hb : okA I.length prs prs = true) (hall : ∀ j, j < I.length → ∃ i a, (j, i) ∈ prs ∧ E.p i = some a) (r : Rep E th h0 hh (Ps ++ L))
    (le : Env.LeK I (locE E prs I.length) G) (rG : Rep G (thS s ys) h0 h (th.t.all.map (part E) ++ L)) : let ids := fun j => bif keptB I j then idsA prs j else th.nx + j
    ∃ F, E.Le F ∧ Rep F ⟨putOs (tosO ids (nthD ys) s.os 0 (ksPL s.ps).length) th.t, th.nx + s.os.length, th.scr⟩ h0 h L ∧ ∀ us, denL G (fvPL id (nthD ys) s.ps 0) = some us → denL F (fvPL ids (nthD ys) s.ps 0) = some us := by
  intro ids
  simp only [okSP, Bool.and_eq_true] at ok
  have hlt : ∀ {i a}, E.p i = some a → i < th.nx := fun {i a} hp => by
    rcases Nat.lt_or_ge i th.nx with h | h
    · exact h
    · rw [(r.fr i h).1] at hp; cases hp
  let F : Env := ⟨fun i => if th.nx ≤ i ∧ i < th.nx + s.os.length then G.p (i - th.nx) else E.p i, fun i => if th.nx ≤ i ∧ i < th.nx + s.os.length then G.c (i - th.nx) else E.c i, E.r, E.h, G.z, fun i => if th.nx ≤ i ∧ i < th.nx + s.os.length then G.s (i - th.nx) else E.s i⟩
  have hle : E.Le F := ⟨⟨fun i a hp => by
      have := hlt hp
      simp [F, hp, show ¬ th.nx ≤ i by omega], rfl, le.z, fun i a hp => by
      have := hlt hp
      simp [F, show ¬ th.nx ≤ i by omega]⟩, fun i hr => by
    have : i < th.nx := by
      rcases Nat.lt_or_ge i th.nx with h | h
      · exact h
      · rw [(r.fr i h).2] at hr; cases hr
    exact ⟨by simp [F, show ¬ th.nx ≤ i by omega], hr⟩⟩
  have g : GlE G F ids := by
    refine ⟨fun j a hp => ?_, le.h.symm, fun _ h => h⟩
    by_cases hk : keptB I j = true
    · have hj := keptB_lt hk
      obtain ⟨i, a0, h1, h2⟩ := hall j hj
      obtain ⟨_, h3⟩ := okA_ok hb _ h1
      have e1 : ids j = i := by simp [ids, hk, idsA, h3]
      have e2 : (locE E prs I.length).p j = some a0 := by simp [locE, hj, h3, h2]
      obtain ⟨e3, e4, e5⟩ := le.a j a0 hk e2
      rw [hp] at e3; simp only [Option.some.injEq] at e3; subst e3
      have := hlt h2
      rw [e1]
      refine ⟨by simp [F, show ¬ th.nx ≤ i by omega, h2], ?_, ?_⟩
      · rw [e4]
        simp [F, show ¬ th.nx ≤ i by omega, locE, idsA, h3]
      · rw [e5]
        simp [F, show ¬ th.nx ≤ i by omega, locE, idsA, h3]
    · have hj2 : j < s.os.length := by
        rcases Nat.lt_or_ge j s.os.length with h | h
        · exact h
        · rw [(rG.fr j h).1] at hp; cases hp
      have e1 : ids j = th.nx + j := by simp [ids, hk]
      rw [e1]
      have e2 : th.nx + j - th.nx = j := by omega
      refine ⟨?_, ?_, ?_⟩
      · simp only [F]
        rw [if_pos ⟨by omega, by omega⟩, e2]; exact hp
      · simp only [F]
        rw [if_pos ⟨by omega, by omega⟩, e2]
      · simp only [F]
        rw [if_pos ⟨by omega, by omega⟩, e2]
  refine ⟨F, hle, ?_, fun us hd => gl_denL g _ _ _ _ ok.1 hd⟩
  refine takes_ok _ ⟨th.t, th.nx + s.os.length, th.scr⟩ ⟨?_, fun i hi => ?_, r.eh⟩
  · have st := rG.st.perm (((tos_all (nthD ys) s.os (ksPL s.ps).length).map (part G)).append_right _)
    have s2 := gl_tos g (nthD ys) s.os 0 (ksPL s.ps).length _ ok.2 st.2
    have s3 := (Sep.perm (show (((tosO ids (nthD ys) s.os 0 (ksPL s.ps).length).map (part F)) ++ (FzP G.z :: (th.t.all.map (part E) ++ L))).Perm (th.t.all.map (part E) ++ (FzP F.z :: ((tosO ids (nthD ys) s.os 0 (ksPL s.ps).length).map (part F) ++ L))) by
      refine (List.Perm.append_left _ List.perm_middle.symm).trans ?_
      refine (List.perm_append_comm_assoc _ _ _).trans ?_
      exact List.Perm.append_left _ List.perm_middle)) s2
    exact ⟨rG.st.1, Sep.imps (fun x S => part_mono hle.p) s3⟩
  · have hi : th.nx + s.os.length ≤ i := hi
    obtain ⟨a, b⟩ := r.fr i (by omega)
    exact ⟨by simp [F, a, show ¬ i < th.nx + s.os.length by omega], b⟩
end Go.Va
