/- Told values held against a summary's. No program. -/
import Derived.Test.YtojhofdndohhdaaGreatVsa
import Derived.Test.YtojhofdndohhdaaGreatVx
set_option linter.unusedVariables false
set_option linter.unusedSectionVars false
set_option linter.unusedSimpArgs false
namespace Go.Va
open Go Go.Sh
variable [Vl]
variable {P : Program}

/-! ### Held against what is there -/
theorem bLo_ok {l l' : Int} {b : SE} (h : bLo l l' b = true) (hb : l' ≤ b.ev) : l ≤ b.ev := by
  unfold bLo at h
  cases hi : ile l l' with
  | true => have := ile_t hi; omega
  | false =>
    rw [hi, cond_false] at h
    cases hk : lkC Vl.f (.le (.c l) b) with
    | none => rw [hk] at h; cases h
    | some t =>
      rw [hk] at h
      have h : t = true := h
      subst h
      exact of_decide_eq_true (lkC_ok Vl.ok hk)
theorem bHi_ok {l l' : Int} {b : SE} (h : bHi l l' b = true) (hb : b.ev ≤ l') : b.ev ≤ l := by
  unfold bHi at h
  cases hi : ile l' l with
  | true => have := ile_t hi; omega
  | false =>
    rw [hi, cond_false] at h
    cases hk : lkC Vl.f (.le b (.c l)) with
    | none => rw [hk] at h; cases h
    | some t =>
      rw [hk] at h
      have h : t = true := h
      subst h
      exact of_decide_eq_true (lkC_ok Vl.ok hk)
theorem leN_den {E : Env} {k : IntKind} {a : SE} {l h : Int} {y : FV} {v : Value} (hl : leN k a l h y = true) (hd : den E y = some v) : den E (.sy k a l h) = some v := by
  cases y <;> simp only [leN] at hl <;> try (cases hl; done)
  case int k' c =>
    simp only [Bool.and_eq_true] at hl
    obtain ⟨⟨⟨h1, h2⟩, h3⟩, h4⟩ := hl
    simp only [den, Option.some.injEq] at hd
    have h3 := ile_t h3; have h4 := ile_t h4
    have e : a.ev = c := by
      rcases (Bool.or_eq_true _ _).mp h2 with h2 | h2
      · rw [eqE_t h2]; rfl
      · cases hk : lkC Vl.f (.eq a (.c c)) with
        | none => rw [hk] at h2; cases h2
        | some t =>
          rw [hk] at h2
          have h2 : t = true := h2
          subst h2
          exact of_decide_eq_true (lkC_ok Vl.ok hk)
    have hb : l ≤ a.ev ∧ a.ev ≤ h := by rw [e]; exact ⟨h3, h4⟩
    rw [← hd, ← keq_t h1, ← e]
    simp only [den]
    exact if_pos hb
  case sy k' b l' h' =>
    simp only [Bool.and_eq_true] at hl
    obtain ⟨⟨⟨h1, h2⟩, h3⟩, h4⟩ := hl
    obtain ⟨g1, g2⟩ := den_sy hd
    have h3 := bLo_ok h3 g1.1; have h4 := bHi_ok h4 g1.2
    have h2 := eqE_t h2
    subst h2
    rw [g2, ← keq_t h1]
    simp only [den]
    exact if_pos ⟨h3, h4⟩
theorem leB_ok : ∀ {x y : List SB}, leB x y = true → sbsOk y = true → sbsOk x = true ∧ x.map sbU = y.map sbU
  | [], [], _, _ => ⟨rfl, rfl⟩
  | [], _ :: _, h, _ => by simp [leB] at h
  | .k _ :: _, [], h, _ => by simp [leB] at h
  | .v _ _ _ :: _, [], h, _ => by simp [leB] at h
  | .k _ :: _, .v _ _ _ :: _, h, _ => by simp [leB] at h
  | .v _ _ _ :: _, .k _ :: _, h, _ => by simp [leB] at h
  | .k a :: x, .k b :: y, h, hy => by
    simp only [leB] at h
    cases hb : Nat.beq a b with
    | false => rw [hb] at h; cases h
    | true =>
      rw [hb] at h
      obtain ⟨h1, h2⟩ := sbsOk_cons hy
      obtain ⟨h3, h4⟩ := leB_ok (x := x) (y := y) h h2
      have := beq_t hb; subst this
      exact ⟨by simp only [sbsOk, List.all_cons, Bool.and_eq_true]; exact ⟨h1, h3⟩, by simp only [List.map_cons, h4]⟩
  | .v a l u :: x, .v b l' u' :: y, h, hy => by
    simp only [leB] at h
    cases hb : eqE a b && ile l l' && ile u' u && (ile (.ofNat 0) l && ilt u (.ofNat 256)) with
    | false => rw [hb] at h; cases h
    | true =>
      rw [hb] at h
      obtain ⟨h1, h2⟩ := sbsOk_cons hy
      obtain ⟨h3, h4⟩ := leB_ok (x := x) (y := y) h h2
      simp only [Bool.and_eq_true] at hb
      have e := eqE_t hb.1.1.1
      have e1 := ile_t hb.1.1.2; have e2 := ile_t hb.1.2; have e3 := ile_t hb.2.1; have e4 := ilt_t hb.2.2
      subst e
      simp only [sbOk, decide_eq_true_eq] at h1
      have e0 : Int.ofNat 0 = (0 : Int) := rfl
      have e5 : Int.ofNat 256 = (256 : Int) := rfl
      have h5 : sbOk (.v a l u) = true := by simp only [sbOk, decide_eq_true_eq]; omega
      exact ⟨by simp only [sbsOk, List.all_cons, Bool.and_eq_true]; exact ⟨h5, h3⟩, by simp only [List.map_cons, h4]; rfl⟩
theorem leV_same {x y : FV} (h : eqV x y = true) {E : Env} {v : Value} (hd : den E y = some v) : den E x = some v := by rw [eqV_t h]; exact hd
mutual
theorem leV_den : ∀ {x y : FV}, leV x y = true → ∀ {E : Env} {v : Value}, den E y = some v → den E x = some v
  | .sy k a l h, y, hl, E, v, hd => leN_den (by simp only [leV] at hl; exact hl) hd
  | .sx a, y, hl, E, v, hd => by
    cases y <;> simp only [leV] at hl <;> try (cases hl; done)
    obtain ⟨h1, h2⟩ := den_sx hd
    obtain ⟨h3, h4⟩ := leB_ok hl h1
    simp only [den]
    rw [if_pos h3, h4, h2]
  | .agg a, y, hl, E, v, hd => by
    cases y <;> simp only [leV] at hl <;> try (cases hl; done)
    rename_i b
    simp only [den] at hd ⊢
    cases hb : denL E b with
    | none => rw [hb] at hd; cases hd
    | some l =>
      rw [hb] at hd
      obtain ⟨h1, h2⟩ := leVL_den hl hb
      rw [h1, h2]; exact hd
  | .tup a, y, hl, E, v, hd => by
    cases y <;> simp only [leV] at hl <;> try (cases hl; done)
    rename_i b
    simp only [den] at hd ⊢
    cases hb : denL E b with
    | none => rw [hb] at hd; cases hd
    | some l =>
      rw [hb] at hd
      obtain ⟨h1, h2⟩ := leVL_den hl hb
      rw [h1]; exact hd
  | .bool a, y, hl, E, v, hd => leV_same (by simp only [leV] at hl; exact hl) hd
  | .int _ _, y, hl, E, v, hd => leV_same (by simp only [leV] at hl; exact hl) hd
  | .str _, y, hl, E, v, hd => leV_same (by simp only [leV] at hl; exact hl) hd
  | .nilp, y, hl, E, v, hd => leV_same (by simp only [leV] at hl; exact hl) hd
  | .nsl, y, hl, E, v, hd => leV_same (by simp only [leV] at hl; exact hl) hd
  | .nilf, y, hl, E, v, hd => leV_same (by simp only [leV] at hl; exact hl) hd
  | .nili, y, hl, E, v, hd => leV_same (by simp only [leV] at hl; exact hl) hd
  | .nilm, y, hl, E, v, hd => leV_same (by simp only [leV] at hl; exact hl) hd
  | .ptr _ _, y, hl, E, v, hd => leV_same (by simp only [leV] at hl; exact hl) hd
  | .sl _ _ _ _ _, y, hl, E, v, hd => leV_same (by simp only [leV] at hl; exact hl) hd
  | .map _, y, hl, E, v, hd => leV_same (by simp only [leV] at hl; exact hl) hd
  | .fn _ _ _, y, hl, E, v, hd => leV_same (by simp only [leV] at hl; exact hl) hd
  | .sb _, y, hl, E, v, hd => leV_same (by simp only [leV] at hl; exact hl) hd
  | .sstr _, y, hl, E, v, hd => leV_same (by simp only [leV] at hl; exact hl) hd
  | .ifc _ _, y, hl, E, v, hd => leV_same (by simp only [leV] at hl; exact hl) hd
theorem leVL_den : ∀ {x y : List FV}, leVL x y = true → ∀ {E : Env} {l : List Value}, denL E y = some l → denL E x = some l ∧ x.all oneF = y.all oneF
  | [], [], _, E, l, hd => ⟨hd, rfl⟩
  | [], _ :: _, h, _, _, _ => by simp [leVL] at h
  | _ :: _, [], h, _, _, _ => by simp [leVL] at h
  | a :: x, b :: y, h, E, l, hd => by
    simp only [leVL] at h
    cases hv : leV a b with
    | false => rw [hv] at h; cases h
    | true =>
      rw [hv] at h
      obtain ⟨v, l', h1, h2, rfl⟩ := denL_cons hd
      obtain ⟨h3, h4⟩ := leVL_den (x := x) (y := y) h h2
      refine ⟨denL_of (leV_den hv h1) h3, ?_⟩
      simp only [List.all_cons, h4]
      congr 1
      have e : oneF a = oneF b := by
        cases a with
        | agg _ => cases b <;> simp only [leV] at hv <;> first | rfl | cases hv
        | tup _ => cases b <;> simp only [leV] at hv <;> first | rfl | cases hv
        | sy _ _ _ _ => cases b <;> simp only [leV, leN] at hv <;> first | rfl | cases hv
        | sx _ => cases b <;> simp only [leV] at hv <;> first | rfl | cases hv
        | _ => simp only [leV] at hv; rw [eqV_t hv]
      exact e
end
theorem leM_den {E : Env} {d : KD} : ∀ {x y : List (FV × FV)}, leM x y = true → ∀ {l : List (Mk.MK × Value)}, denM E d y = some l → denM E d x = some l
  | [], [], _, l, hd => hd
  | [], _ :: _, h, _, _ => by simp [leM] at h
  | _ :: _, [], h, _, _ => by simp [leM] at h
  | p :: x, q :: y, h, l, hd => by
    simp only [leM] at h
    cases hv : eqV p.1 q.1 && leV p.2 q.2 with
    | false => rw [hv] at h; cases h
    | true =>
      rw [hv] at h
      simp only [Bool.and_eq_true] at hv
      obtain ⟨k, v, l', h1, h2, h3, rfl⟩ := denM_cons hd
      exact denM_of (by rw [eqV_t hv.1]; exact h1) (leV_den hv.2 h2) (leM_den (x := x) (y := y) h h3)
theorem leO_own {E : Env} {j : Nat} {a b : TO} (h : leO a b = true) {hp : Heap} {S : Nat → Prop} (o : (part E (j, b)).own hp S) : (part E (j, a)).own hp S := by
  cases a with
  | cells x k =>
    cases b with
    | cells y k' =>
      simp only [leO, Bool.and_eq_true] at h
      have := beq_t h.1; subst this
      obtain ⟨z, ⟨a1, a2, a3, a4, a5⟩, hc⟩ := o
      obtain ⟨g1, g2⟩ := leVL_den h.2 a2
      exact ⟨z, ⟨a1, g1, by rw [g2]; exact a3, a4, a5⟩, hc⟩
    | map _ _ => simp [leO] at h
    | it _ _ _ => simp [leO] at h
    | ro _ => simp [leO] at h
  | it _ _ _ => simp [leO] at h
  | ro _ => simp [leO] at h
  | map d m =>
    cases b with
    | cells _ _ => simp [leO] at h
    | it _ _ _ => simp [leO] at h
    | ro _ => simp [leO] at h
    | map d' m' =>
      simp only [leO, Bool.and_eq_true] at h
      have := kdq_t h.1; subst this
      obtain ⟨z, ⟨a1, a2⟩, hc⟩ := o
      exact ⟨z, ⟨a1, leM_den h.2 a2⟩, hc⟩
/-- A block under its other name. -/
def rp (s : Nat → Option Nat) (E : Env) (q : Nat × TO) : HP := match s q.1 with
  | some j => match rnO s q.2 with
    | some o => part E (j, o)
    | none => part E q
  | none => part E q
theorem chk_ok {s : Nat → Option Nat} {E : Env} {R : Tr TO → Prop} : ∀ {l : List (Nat × TO)} {t : Tr TO}, chk s l t R → ∃ rest, R rest ∧ (∀ h0 h L, St h0 h (t.all.map (part E) ++ L) → St h0 h (l.map (rp s E) ++ (rest.all.map (part E) ++ L))) ∧ ∀ q ∈ l, ∃ j o, s q.1 = some j ∧ rnO s q.2 = some o
  | [], t, h => ⟨t, h, fun _ _ _ st => st, fun q hq => by cases hq⟩
  | p :: r, t, h => by
    simp only [chk] at h
    cases hs : s p.1 with
    | none => rw [hs] at h; exact h.elim
    | some j =>
      rw [hs] at h; simp only at h
      cases hg : t.get j with
      | none => rw [hg] at h; exact h.elim
      | some o =>
        rw [hg] at h; simp only at h
        cases ho : rnO s p.2 with
        | none => rw [ho] at h; exact h.elim
        | some o' =>
          rw [ho] at h
          obtain ⟨he, hk⟩ := bif_p h
          obtain ⟨rest, h1, h2, h3⟩ := chk_ok (E := E) hk
          refine ⟨rest, h1, fun h0 hh L st => ?_, fun q hq => ?_⟩
          · have e : rp s E p = part E (j, o') := by simp only [rp, hs, ho]
            have pm := (Tr.perm hg).1.map (part E)
            rw [List.map_cons] at pm
            have st1 : St h0 hh (part E (j, o) :: ((t.del j).all.map (part E) ++ L)) := st.perm (pm.append_right L)
            have st2 : St h0 hh (part E (j, o') :: ((t.del j).all.map (part E) ++ L)) := st1.imp fun S ho' => leO_own he ho'
            have st3 : St h0 hh ((t.del j).all.map (part E) ++ (part E (j, o') :: L)) := st2.perm List.perm_middle.symm
            have st4 := h2 h0 hh (part E (j, o') :: L) st3
            rw [List.map_cons, e]
            refine st4.perm ?_
            rw [← List.append_assoc, List.cons_append, ← List.append_assoc]
            exact List.perm_middle
          · rcases List.mem_cons.1 hq with rfl | hq
            · exact ⟨j, o', hs, ho⟩
            · exact h3 q hq
theorem putT_ok {s : Nat → Option Nat} {E : Env} {nx : Nat} {sc : Scr} {h0 h : Heap} {L : List HP} {R : Tr TO → Prop} : ∀ {l : List (Nat × TO)} {t : Tr TO}, putT s l t R → Rep E ⟨t, nx, sc⟩ h0 h (l.map (rp s E) ++ L) → ∃ t', R t' ∧ Rep E ⟨t', nx, sc⟩ h0 h L
  | [], t, h, r => ⟨t, h, r⟩
  | p :: l, t, h, r => by
    simp only [putT] at h
    cases hs : s p.1 with
    | none => rw [hs] at h; exact h.elim
    | some j =>
      rw [hs] at h; simp only at h
      cases ho : rnO s p.2 with
      | none => rw [ho] at h; exact h.elim
      | some o =>
        rw [ho] at h; simp only at h
        have e : rp s E p = part E (j, o) := by simp only [rp, hs, ho]
        rw [List.map_cons, e] at r
        exact putT_ok h (Rep.take (th := ⟨t, nx, sc⟩) r)
theorem putT_all {s : Nat → Option Nat} {R : Tr TO → Prop} : ∀ {l : List (Nat × TO)} {t : Tr TO}, putT s l t R → ∀ q ∈ l, ∃ j o, s q.1 = some j ∧ rnO s q.2 = some o
  | [], t, h, q, hq => by cases hq
  | p :: l, t, h, q, hq => by
    simp only [putT] at h
    cases hs : s p.1 with
    | none => rw [hs] at h; exact h.elim
    | some j =>
      rw [hs] at h; simp only at h
      cases ho : rnO s p.2 with
      | none => rw [ho] at h; exact h.elim
      | some o =>
        rw [ho] at h; simp only at h
        rcases List.mem_cons.1 hq with rfl | hq
        · exact ⟨j, o, hs, ho⟩
        · exact putT_all h q hq
theorem sep_rp {s : Nat → Option Nat} {E0 E : Env} (hs : Rn s E0 E) {l : List (Nat × TO)} (hl : ∀ q ∈ l, ∃ j o, s q.1 = some j ∧ rnO s q.2 = some o) : ∀ q ∈ l, ∀ h S, (rp s E q).own h S ↔ (part E0 q).own h S := fun q hq h S => by
  obtain ⟨j, o, h1, h2⟩ := hl q hq
  have e : rp s E q = part E (j, o) := by simp only [rp, h1, h2]
  rw [e]
  exact part_rn hs h1 h2
theorem mem_part {E : Env} {h0 h : Heap} {L : List HP} {A : HP} (s : St h0 h L) (hA : A ∈ L) : ∃ S, A.own h S := by
  obtain ⟨l1, l2, rfl⟩ := List.append_of_mem hA
  obtain ⟨S, hS, _⟩ := (s.perm List.perm_middle).get
  exact ⟨S, hS⟩
theorem sm_useX {S : Sm} {s : Nat → Option Nat} {l : List FV} {th : TH} {K : FV → TH → Prop} (hx : runS S s l th K) {E : Env} {h0 h : Heap} {L : List HP} {vs : List Value} (r : Rep E th h0 h L) (hd : denL E l = some vs)
    {Y : (Value → Heap → Prop) → Prop} (hm : ∀ {K K' : Value → Heap → Prop}, Y K → (∀ v h', K v h' → K' v h') → Y K')
    (hS : ∀ E L', St h0 h (S.t0.map (part E) ++ L') → (∀ j, S.nx0 ≤ j → E.p j = none ∧ E.r j = false) → denL E S.l0 = some vs → Y (fun v h' => ∃ F, E.Le F ∧ den F S.x1 = some v ∧ St h0 h' (S.t1.map (part F) ++ L'))) : Y (Post E h0 L K) := by
  unfold runS at hx
  cases hl : rnL (sIn S s) S.l0 with
  | none => rw [hl] at hx; exact hx.elim
  | some l' =>
    rw [hl] at hx
    obtain ⟨he, hk⟩ := bif_p hx
    have hd := (leVL_den he hd).1
    clear hx
    obtain ⟨rest, hx, hp, hq⟩ := chk_ok (E := E) hk
    -- what the ids stand for
    let E0 : Env := ⟨fun i => match sIn S s i with | some j => E.p j | none => none, fun i => match sIn S s i with | some j => E.c j | none => 0, fun _ => false⟩
    have hR : Rn (sIn S s) E0 E := fun i j e => by simp only [E0, e]; exact ⟨trivial, trivial⟩
    have st1 : St h0 h (S.t0.map (rp (sIn S s) E) ++ (rest.all.map (part E) ++ L)) := hp h0 h L r.st
    have st2 : St h0 h (S.t0.map (part E0) ++ (rest.all.map (part E) ++ L)) := ⟨st1.1, sep_imps_mem (fun q hq' S' ho => (sep_rp hR hq q hq' h S').1 ho) st1.2⟩
    have hnew : ∀ j, S.nx0 ≤ j → E0.p j = none ∧ E0.r j = false := fun j hj => by
      have : sIn S s j = none := by
        unfold sIn
        rw [blt_not hj]; rfl
      simp only [E0, this]; exact ⟨trivial, trivial⟩
    have hd0 : denL E0 S.l0 = some vs := by rw [← denL_rn hR hl]; exact hd
    have hdom : ∀ i j, sIn S s i = some j → ∃ a, E.p j = some a := fun i j e => by
      have hm : i ∈ S.t0.map (·.1) := by
        unfold sIn at e
        cases hb : Nat.blt i S.nx0 && memN i (S.t0.map (·.1)) with
        | false => rw [hb] at e; cases e
        | true => simp only [Bool.and_eq_true] at hb; exact memN_iff.1 hb.2
      obtain ⟨q, hq1, rfl⟩ := List.mem_map.1 hm
      obtain ⟨S', hS'⟩ := mem_part (E := E) st1 (A := rp (sIn S s) E q) (List.mem_append_left _ (List.mem_map.2 ⟨q, hq1, rfl⟩))
      obtain ⟨j', o, g1, g2⟩ := hq q hq1
      rw [e] at g1; simp only [Option.some.injEq] at g1; subst g1
      have e2 : rp (sIn S s) E q = part E (j, o) := by simp only [rp, e, g2]
      rw [e2] at hS'
      obtain ⟨a, ha, _⟩ := part_at hS'
      exact ⟨a, ha⟩
    have hlt : ∀ j a, E.p j = some a → j < th.nx := fun j a ha => by
      rcases Nat.lt_or_ge j th.nx with h | h
      · exact h
      · rw [(r.fr j h).1] at ha; cases ha
    refine hm (hS E0 _ st2 hnew hd0) fun v h' => ?_
    rintro ⟨F0, hle0, hv, st3⟩
    let F : Env := ⟨fun j => bif Nat.blt j th.nx then E.p j else bif Nat.blt (j - th.nx) (S.nx1 - S.nx0) then F0.p (S.nx0 + (j - th.nx)) else none,
      fun j => bif Nat.blt j th.nx then E.c j else F0.c (S.nx0 + (j - th.nx)), E.r⟩
    have hF : ∀ j, j < th.nx → F.p j = E.p j ∧ F.c j = E.c j := fun j hj => by simp only [F, blt_of hj, cond_true]; exact ⟨trivial, trivial⟩
    have hle : E.Le F := ⟨fun j a ha => by
      obtain ⟨g1, g2⟩ := hF j (hlt j a ha)
      exact ⟨by rw [g1]; exact ha, g2⟩, fun j hj => by
      have : j < th.nx := by
        rcases Nat.lt_or_ge j th.nx with h | h
        · exact h
        · rw [(r.fr j h).2] at hj; cases hj
      exact ⟨(hF j this).1, hj⟩⟩
    have hR1 : Rn (sOut S s th.nx) F0 F := fun i j e => by
      unfold sOut at e
      cases hb : Nat.blt i S.nx0 with
      | true =>
        rw [hb, cond_true] at e
        obtain ⟨a, ha⟩ := hdom i j e
        obtain ⟨g1, g2⟩ := hF j (hlt j a ha)
        have e0 : E0.p i = some a := by simp only [E0, e]; exact ha
        obtain ⟨g3, g4⟩ := hle0.p i a e0
        have e1 : E0.c i = E.c j := by simp only [E0, e]
        exact ⟨by rw [g3, g1, ha], by rw [g4, g2, e1]⟩
      | false =>
        rw [hb, cond_false] at e
        cases hc : Nat.blt i S.nx1 with
        | false => rw [hc] at e; cases e
        | true =>
          rw [hc] at e; simp only [cond_true, Option.some.injEq] at e; subst e
          have hb := blt_f hb
          have hc := blt_t hc
          have n1 : Nat.blt (th.nx + (i - S.nx0)) th.nx = false := blt_not (by omega)
          have n2 : Nat.blt (th.nx + (i - S.nx0) - th.nx) (S.nx1 - S.nx0) = true := blt_of (by omega)
          have n3 : S.nx0 + (th.nx + (i - S.nx0) - th.nx) = i := by omega
          simp only [F, n1, n2, n3, cond_false, cond_true]
          exact ⟨trivial, trivial⟩
    have hq1 := putT_all hx
    have st4 : St h0 h' (S.t1.map (rp (sOut S s th.nx) F) ++ (rest.all.map (part E) ++ L)) := ⟨st3.1, sep_imps_mem (fun q hq' S' ho => (sep_rp hR1 hq1 q hq' h' S').2 ho) st3.2⟩
    have st5 : St h0 h' (rest.all.map (part E) ++ (S.t1.map (rp (sOut S s th.nx) F) ++ L)) := st4.perm (by
      rw [← List.append_assoc, ← List.append_assoc]
      exact List.perm_append_comm.append_right L)
    have rp1 : Rep F ⟨rest, th.nx + (S.nx1 - S.nx0), th.scr⟩ h0 h' (S.t1.map (rp (sOut S s th.nx) F) ++ L) := ⟨⟨st5.1, Sep.imps (fun x S => part_mono hle.p) st5.2⟩, fun j hj => by
      have hj : th.nx + (S.nx1 - S.nx0) ≤ j := hj
      have n1 : Nat.blt j th.nx = false := blt_not (by omega)
      have n2 : Nat.blt (j - th.nx) (S.nx1 - S.nx0) = false := blt_not (by omega)
      simp only [F, n1, n2, cond_false]
      exact ⟨trivial, (r.fr j (by omega)).2⟩⟩
    obtain ⟨t', hx, rp2⟩ := putT_ok hx rp1
    cases hy : rnV (sOut S s th.nx) S.x1 with
    | none => rw [hy] at hx; exact hx.elim
    | some y =>
      rw [hy] at hx
      exact ⟨F, y, _, hle, by rw [den_rn hR1 hy]; exact hv, rp2, hx⟩
end Go.Va
