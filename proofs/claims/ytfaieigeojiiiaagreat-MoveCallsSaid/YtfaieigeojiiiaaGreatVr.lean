/- Helps for regions that draw their order. No program. -/
import Derived.Test.YtfaieigeojiiiaaGreatVp
set_option linter.unusedVariables false
set_option linter.unusedSectionVars false
set_option linter.unusedSimpArgs false
namespace Go.Va
open Go Go.Sh
variable [Vb]
variable {P : Program}

theorem memN_iff {i : Nat} : ∀ {l : List Nat}, memN i l = true ↔ i ∈ l
  | [] => by simp [memN]
  | j :: r => by
    simp only [memN]
    cases h : Nat.beq i j with
    | true => have := beq_t h; subst this; simp
    | false => have := beq_f h; simp [this, memN_iff]
theorem memN_not {i : Nat} {l : List Nat} (h : memN i l = false) : i ∉ l := fun hm => by rw [memN_iff.2 hm] at h; cases h
theorem ieq_t {a b : Int} (h : ieq a b = true) : a = b := by rw [ieq_eq] at h; simpa using h
theorem leq_t : ∀ {a b : List Nat}, leq a b = true → a = b
  | [], [], _ => rfl
  | [], _ :: _, h => by rw [leq_nc] at h; cases h
  | _ :: _, [], h => by rw [leq_cn] at h; cases h
  | a :: x, b :: y, h => by
    rw [leq_cc] at h
    cases hb : Nat.beq a b with
    | true => rw [hb] at h; have := beq_t hb; subst this; rw [leq_t (a := x) (b := y) h]
    | false => rw [hb] at h; cases h
theorem keqF_t {a b : Fn} (h : keqF a b = true) : a = b := by
  cases a <;> cases b <;> simp only [keqF] at h <;> try (cases h; done)
  rw [beq_t h]
theorem eqXB_t : ∀ {x y : List SB}, eqXB x y = true → x = y
  | [], [], _ => rfl
  | [], _ :: _, h => by simp [eqXB] at h
  | .k _ :: _, [], h => by simp [eqXB] at h
  | .v _ _ _ :: _, [], h => by simp [eqXB] at h
  | .k a :: x, .k b :: y, h => by
    simp only [eqXB] at h
    cases hb : Nat.beq a b with
    | false => rw [hb] at h; cases h
    | true => rw [hb] at h; rw [beq_t hb, eqXB_t h]
  | .v a l u :: x, .v b l' u' :: y, h => by
    simp only [eqXB] at h
    cases hb : eqE a b && ieq l l' && ieq u u' with
    | false => rw [hb] at h; cases h
    | true =>
      rw [hb] at h
      simp only [Bool.and_eq_true] at hb
      rw [eqE_t hb.1.1, ieq_t hb.1.2, ieq_t hb.2, eqXB_t h]
  | .k _ :: _, .v _ _ _ :: _, h => by simp [eqXB] at h
  | .v _ _ _ :: _, .k _ :: _, h => by simp [eqXB] at h
mutual
theorem eqV_t : ∀ {a b : FV}, eqV a b = true → a = b
  | .bool a, b, h => by
    cases b <;> simp only [eqV] at h <;> try (cases h; done)
    rename_i b
    cases a <;> cases b <;> first | rfl | cases h
  | .int k a, b, h => by
    cases b <;> simp only [eqV] at h <;> try (cases h; done)
    rename_i k' b
    cases hk : keq k k' with
    | true => rw [hk] at h; rw [keq_t hk, ieq_t h]
    | false => rw [hk] at h; cases h
  | .str a, b, h => by
    cases b <;> simp only [eqV] at h <;> try (cases h; done)
    rw [leq_t h]
  | .nilp, b, h => by cases b <;> simp only [eqV] at h <;> first | rfl | cases h
  | .nsl, b, h => by cases b <;> simp only [eqV] at h <;> first | rfl | cases h
  | .nilf, b, h => by cases b <;> simp only [eqV] at h <;> first | rfl | cases h
  | .nili, b, h => by cases b <;> simp only [eqV] at h <;> first | rfl | cases h
  | .nilm, b, h => by cases b <;> simp only [eqV] at h <;> first | rfl | cases h
  | .ptr x y, b, h => by
    cases b <;> simp only [eqV] at h <;> try (cases h; done)
    rename_i z w
    cases hb : Nat.beq x z with
    | true => rw [hb] at h; rw [beq_t hb, beq_t h]
    | false => rw [hb] at h; cases h
  | .sl x y z w c, b, h => by
    cases b <;> simp only [eqV] at h <;> try (cases h; done)
    rename_i x' y' z' w' c'
    simp only [Bool.and_eq_true] at h
    obtain ⟨⟨⟨⟨h1, h2⟩, h3⟩, h4⟩, h5⟩ := h
    have hc : c = c' := by
      cases c <;> cases c' <;> simp only at h5 <;> first | (rw [beq_t h5]) | cases h5
    rw [beq_t h1, beq_t h2, beq_t h3, beq_t h4, hc]
  | .map x, b, h => by
    cases b <;> simp only [eqV] at h <;> try (cases h; done)
    rw [beq_t h]
  | .fn f x y, b, h => by
    cases b <;> simp only [eqV] at h <;> try (cases h; done)
    simp only [Bool.and_eq_true] at h
    rw [keqF_t h.1.1, eqVL_t h.1.2, eqVL_t h.2]
  | .agg x, b, h => by
    cases b <;> simp only [eqV] at h <;> try (cases h; done)
    rw [eqVL_t h]
  | .tup x, b, h => by
    cases b <;> simp only [eqV] at h <;> try (cases h; done)
    rw [eqVL_t h]
  | .sy k a l u, b, h => by
    cases b <;> simp only [eqV] at h <;> try (cases h; done)
    simp only [Bool.and_eq_true] at h
    rw [keq_t h.1.1.1, eqE_t h.1.1.2, ieq_t h.1.2, ieq_t h.2]
  | .sb _, b, h => by simp [eqV] at h
  | .sstr _, b, h => by simp [eqV] at h
  | .dp _ _, b, h => by simp [eqV] at h
  | .dn _ _ _, b, h => by simp [eqV] at h
  | .ds _ _, b, h => by simp [eqV] at h
  | .obl _ _, b, h => by simp [eqV] at h
  | .alt _ _, b, h => by simp [eqV] at h
  | .os _ _, b, h => by
    cases b <;> simp only [eqV] at h <;> try (cases h; done)
    simp only [Bool.and_eq_true] at h
    rw [beq_t h.1, beq_t h.2]
  | .oe _ _ _ _, b, h => by simp [eqV] at h
  | .sx _, b, h => by
    cases b <;> simp only [eqV] at h <;> try (cases h; done)
    rw [eqXB_t h]
  | .ifc _ _, b, h => by simp [eqV] at h
theorem eqVL_t : ∀ {a b : List FV}, eqVL a b = true → a = b
  | [], [], _ => rfl
  | [], _ :: _, h => by simp [eqVL] at h
  | _ :: _, [], h => by simp [eqVL] at h
  | a :: x, b :: y, h => by
    simp only [eqVL] at h
    cases hv : eqV a b with
    | true => rw [hv] at h; rw [eqV_t hv, eqVL_t h]
    | false => rw [hv] at h; cases h
end
theorem bif_p {c : Bool} {R : Prop} (h : bif c then R else False) : c = true ∧ R := by
  cases c with
  | true => exact ⟨rfl, h⟩
  | false => exact h.elim
theorem bif_pp {c : Bool} {p q : Prop} (h : bif c then p else q) : (c = true ∧ p) ∨ (c = false ∧ q) := by
  cases c with
  | true => exact .inl ⟨rfl, h⟩
  | false => exact .inr ⟨rfl, h⟩
theorem eqSP_t : ∀ {a b : SE}, eqSP a b → a = b := by
  have dflt : ∀ {a b : SE}, (bif eqE a b then True else a = b) → a = b := fun {a b} h => by
    rcases bif_pp h with ⟨h, _⟩ | ⟨_, h⟩
    · exact eqE_t h
    · exact h
  intro a
  induction a with
  | o x => intro b h; cases b <;> first | exact congrArg SE.o h | exact dflt h
  | add a b iha ihb => intro c h; cases c <;> first | (obtain ⟨h1, h2⟩ := h; rw [iha h1, ihb h2]) | exact dflt h
  | sub a b iha ihb => intro c h; cases c <;> first | (obtain ⟨h1, h2⟩ := h; rw [iha h1, ihb h2]) | exact dflt h
  | wrap k a iha =>
    intro c h
    cases c
    case wrap k' b =>
      obtain ⟨h1, h2⟩ := bif_p h
      rw [keq_t h1, iha h2]
    all_goals exact dflt h
  | _ => intro b h; cases b <;> exact dflt h
theorem eqCP_t : ∀ {a b : SC}, eqCP a b → a = b := by
  intro a
  induction a with
  | o x => intro b h; cases b <;> first | exact congrArg SC.o h | exact h
  | no a ih => intro b h; cases b <;> first | (rw [ih h]) | exact h
  | lt a b => intro c h; cases c <;> first | (obtain ⟨h1, h2⟩ := h; rw [eqSP_t h1, eqSP_t h2]) | exact h
  | le a b => intro c h; cases c <;> first | (obtain ⟨h1, h2⟩ := h; rw [eqSP_t h1, eqSP_t h2]) | exact h
  | eq a b => intro c h; cases c <;> first | (obtain ⟨h1, h2⟩ := h; rw [eqSP_t h1, eqSP_t h2]) | exact h
  | _ => intro b h; cases b <;> exact h
theorem eqVP_d {a b : FV} (h : bif eqV a b then True else a = b) : a = b := by
  rcases bif_pp h with ⟨h, _⟩ | ⟨_, h⟩
  · exact eqV_t h
  · exact h
mutual
theorem eqVP_t : ∀ {a b : FV}, eqVP a b → a = b
  | .sy k a l u, b, h => by
    cases b
    case sy k' b l' u' =>
      simp only [eqVP] at h
      obtain ⟨h1, h2⟩ := bif_p h
      simp only [Bool.and_eq_true] at h1
      rw [keq_t h1.1, ieq_t h1.2.1, ieq_t h1.2.2, eqSP_t h2]
    all_goals (simp only [eqVP] at h; exact eqVP_d h)
  | .sb c, b, h => by
    cases b
    case sb d => simp only [eqVP] at h; rw [eqCP_t h]
    all_goals (simp only [eqVP] at h; exact eqVP_d h)
  | .sstr s, b, h => by
    cases b
    case sstr d => simp only [eqVP] at h; rw [h]
    all_goals (simp only [eqVP] at h; exact eqVP_d h)
  | .dp t d, b, h => by
    cases b
    case dp t' d' =>
      simp only [eqVP] at h
      obtain ⟨h1, h2⟩ := bif_p h
      rw [beq_t h1, h2]
    all_goals (simp only [eqVP] at h; exact eqVP_d h)
  | .dn t d o, b, h => by
    cases b
    case dn t' d' o' =>
      simp only [eqVP] at h
      obtain ⟨h1, h2⟩ := bif_p h
      simp only [Bool.and_eq_true] at h1
      rw [beq_t h1.1, beq_t h1.2, h2]
    all_goals (simp only [eqVP] at h; exact eqVP_d h)
  | .ds t d, b, h => by
    cases b
    case ds t' d' =>
      simp only [eqVP] at h
      obtain ⟨h1, h2⟩ := bif_p h
      rw [beq_t h1, h2]
    all_goals (simp only [eqVP] at h; exact eqVP_d h)
  | .agg x, b, h => by
    cases b
    case agg y => simp only [eqVP] at h; rw [eqVPL_t h]
    all_goals (simp only [eqVP] at h; exact eqVP_d h)
  | .tup x, b, h => by
    cases b
    case tup y => simp only [eqVP] at h; rw [eqVPL_t h]
    all_goals (simp only [eqVP] at h; exact eqVP_d h)
  | .obl c x, b, h => by
    cases b
    case obl d y => simp only [eqVP] at h; rw [eqCP_t h.1, eqVP_t h.2]
    all_goals (simp only [eqVP] at h; exact eqVP_d h)
  | .bool _, b, h => by simp only [eqVP] at h; exact eqVP_d h
  | .int _ _, b, h => by simp only [eqVP] at h; exact eqVP_d h
  | .sx _, b, h => by simp only [eqVP] at h; exact eqVP_d h
  | .str _, b, h => by simp only [eqVP] at h; exact eqVP_d h
  | .nilp, b, h => by simp only [eqVP] at h; exact eqVP_d h
  | .ptr _ _, b, h => by simp only [eqVP] at h; exact eqVP_d h
  | .nsl, b, h => by simp only [eqVP] at h; exact eqVP_d h
  | .sl _ _ _ _ _, b, h => by simp only [eqVP] at h; exact eqVP_d h
  | .nilm, b, h => by simp only [eqVP] at h; exact eqVP_d h
  | .map _, b, h => by simp only [eqVP] at h; exact eqVP_d h
  | .nilf, b, h => by simp only [eqVP] at h; exact eqVP_d h
  | .fn _ _ _, b, h => by simp only [eqVP] at h; exact eqVP_d h
  | .nili, b, h => by simp only [eqVP] at h; exact eqVP_d h
  | .ifc _ _, b, h => by simp only [eqVP] at h; exact eqVP_d h
  | .alt _ _, b, h => by simp only [eqVP] at h; exact eqVP_d h
  | .os _ _, b, h => by simp only [eqVP] at h; exact eqVP_d h
  | .oe _ _ _ _, b, h => by simp only [eqVP] at h; exact eqVP_d h
theorem eqVPL_t : ∀ {a b : List FV}, eqVPL a b → a = b
  | [], [], _ => rfl
  | [], _ :: _, h => by simp [eqVPL] at h
  | _ :: _, [], h => by simp [eqVPL] at h
  | a :: x, b :: y, h => by
    simp only [eqVPL] at h
    rw [eqVP_t h.1, eqVPL_t h.2]
end
theorem eqK_t {x y : FV} {R : Prop} (h : eqK x y R) : x = y ∧ R := by
  unfold eqK at h
  rcases bif_pp h with ⟨h1, h⟩ | ⟨_, h1, h⟩
  · exact ⟨eqV_t h1, h⟩
  · exact ⟨eqVP_t h1, h⟩
theorem recheck_ok {th : Tr TO} {hs : List HE} : ∀ {ps : List PE} {R : Prop}, recheck th hs ps R → (∀ p ∈ ps, rdT p.fr p.c.m = true → gst p.fr p.c.g = .go → evQ p.fr (relH p.dq th hs) p.c.m = some p.x) ∧ R
  | [], R, h => ⟨fun p hp => (by cases hp), h⟩
  | q :: r, R, h => by
    simp only [recheck] at h
    have skip : recheck th hs r R → (rdT q.fr q.c.m = true → gst q.fr q.c.g = .go → evQ q.fr (relH q.dq th hs) q.c.m = some q.x) → (∀ p ∈ q :: r, rdT p.fr p.c.m = true → gst p.fr p.c.g = .go → evQ p.fr (relH p.dq th hs) p.c.m = some p.x) ∧ R := fun h hq => by
      obtain ⟨h1, h2⟩ := recheck_ok h
      refine ⟨fun p hp => ?_, h2⟩
      rcases List.mem_cons.1 hp with rfl | hp
      · exact hq
      · exact h1 p hp
    cases hl : rdT q.fr q.c.m with
    | false => rw [hl] at h; exact skip h fun e => by rw [hl] at e; cases e
    | true =>
      rw [hl] at h
      simp only [cond_true] at h
      cases hg : gst q.fr q.c.g with
      | skip => rw [hg] at h; exact skip h fun _ e => by rw [hg] at e; cases e
      | bad => rw [hg] at h; exact skip h fun _ e => by rw [hg] at e; cases e
      | go =>
        rw [hg] at h
        simp only at h
        cases he : evQ q.fr (relH q.dq th hs) q.c.m with
        | none => rw [he] at h; exact h.elim
        | some y =>
          rw [he] at h
          obtain ⟨h1, h2⟩ := eqK_t h
          exact skip h2 fun _ _ => by rw [he, h1]
theorem evQ_th {fr : Fr} {th th' : Tr TO} {m : MOp} (h : isLd m = false) : evQ fr th m = evQ fr th' m := by
  cases m <;> first | rfl | (simp [isLd] at h)
theorem evQ_rd {fr : Fr} {th th' : Tr TO} {m : MOp} (h : rdT fr m = false) : evQ fr th m = evQ fr th' m := by
  cases m <;> first | exact evQ_th h | skip
  case iadr k x i =>
    simp only [rdT] at h
    simp only [evQ, evQ0, evZ, qIadr, o2]
    cases hx : evO fr x with
    | none => rfl
    | some v =>
      rw [hx] at h
      cases v <;> first | (cases h; done) | rfl
  case lenS x =>
    simp only [rdT] at h
    simp only [evQ, evQ0, evZ, qLenS, o1]
    cases hx : evO fr x with
    | none => rfl
    | some v =>
      rw [hx] at h
      cases v <;> first | (cases h; done) | rfl
  case ld k b x =>
    simp only [rdT] at h
    simp only [evQ, evQ0, evZ, qLd, o1]
    cases hx : evO fr x with
    | none => rfl
    | some v =>
      rw [hx] at h
      cases v <;> first | (cases h; done) | rfl
theorem dropP_mem {dp : List Nat} : ∀ {ps : List PE} {p : PE}, p ∈ dropP dp ps ↔ p ∈ ps ∧ memN p.i dp = false
  | [], p => by simp [dropP]
  | q :: r, p => by
    simp only [dropP]
    cases h : memN q.i dp with
    | true =>
      simp only [cond_true, dropP_mem, List.mem_cons]
      constructor
      · exact fun ⟨a, b⟩ => ⟨.inr a, b⟩
      · rintro ⟨rfl | a, b⟩
        · rw [h] at b; cases b
        · exact ⟨a, b⟩
    | false =>
      simp only [cond_false, List.mem_cons, dropP_mem]
      constructor
      · rintro (rfl | ⟨a, b⟩)
        · exact ⟨.inl rfl, h⟩
        · exact ⟨.inr a, b⟩
      · rintro ⟨rfl | a, b⟩
        · exact .inl rfl
        · exact .inr ⟨a, b⟩
theorem keepH_mem {dp : List Nat} : ∀ {hs : List HE} {p : HE}, p ∈ keepH dp hs ↔ p ∈ hs ∧ memN p.i dp = false
  | [], p => by simp [keepH]
  | q :: r, p => by
    simp only [keepH]
    cases h : memN q.i dp with
    | true =>
      simp only [cond_true, keepH_mem, List.mem_cons]
      constructor
      · exact fun ⟨a, b⟩ => ⟨.inr a, b⟩
      · rintro ⟨rfl | a, b⟩
        · rw [h] at b; cases b
        · exact ⟨a, b⟩
    | false =>
      simp only [cond_false, List.mem_cons, keepH_mem]
      constructor
      · rintro (rfl | ⟨a, b⟩)
        · exact ⟨.inl rfl, h⟩
        · exact ⟨.inr a, b⟩
      · rintro ⟨rfl | a, b⟩
        · exact .inl rfl
        · exact .inr ⟨a, b⟩
theorem pickF_get {fr : Fr} : ∀ {ts : List Nat} {t : Nat} {x : FV}, (pickF fr ts).get t = some x → t ∈ ts ∧ fr.get t = some x
  | [], t, x, h => by rw [pickF, Fr.get_nil] at h; cases h
  | u :: ts, t, x, h => by
    simp only [pickF] at h
    cases hu : fr.get u with
    | none => rw [hu] at h; obtain ⟨a, b⟩ := pickF_get h; exact ⟨.tail _ a, b⟩
    | some y =>
      rw [hu] at h
      simp only at h
      by_cases ht : t = u
      · subst ht
        rw [Fr.get_eq] at h; simp only [Option.some.injEq] at h; subst h
        exact ⟨.head _, hu⟩
      · rw [Fr.get_ne _ _ ht] at h; obtain ⟨a, b⟩ := pickF_get h; exact ⟨.tail _ a, b⟩

/-! ### Parts -/
/-- What is told of a part is known. -/
def Kn (E : Env) (x : Nat × TO) : Prop := match x.2 with
  | .cells cs _ => ∃ a vs, E.p x.1 = some a ∧ denL E cs = some vs
  | .map d m => ∃ a l, E.p x.1 = some a ∧ denM E d m = some l
  | .it j _ _ => ∃ a m, E.p x.1 = some a ∧ E.p j = some m
  | .row t es => ∃ a v ks, RowIs E x.1 t es a v ks
  | .ro cs => ∃ a vs, E.p x.1 = some a ∧ denL E cs = some vs ∧ E.rd a vs
theorem part_back {E F : Env} (hle : E.Le0 F) {x : Nat × TO} (hx : Kn E x) {h : Heap} {S : Nat → Prop} (o : (part F x).own h S) : (part E x).own h S := by
  obtain ⟨i, o'⟩ := x
  cases o' with
  | cells cs k =>
    obtain ⟨z, hz, hc⟩ := o
    obtain ⟨a, vs, h1, h2⟩ := hx
    obtain ⟨g1, g2⟩ := hle.a i a h1
    have e1 : z.1 = a := by have := hz.1; rw [g1] at this; simpa using this.symm
    have e2 : z.2.1 = vs := by have := hz.2.1; rw [denL_mono0 hle h2] at this; simpa using this.symm
    refine ⟨z, ⟨by rw [e1]; exact h1, by rw [e2]; exact h2, hz.2.2.1, hz.2.2.2.1, fun hk => ?_⟩, hc⟩
    rw [← g2]; exact hz.2.2.2.2 hk
  | map d m =>
    obtain ⟨z, hz, hc⟩ := o
    obtain ⟨a, l, h1, h2⟩ := hx
    obtain ⟨g1, g2⟩ := hle.a i a h1
    have e1 : z.1 = a := by have := hz.1; rw [g1] at this; simpa using this.symm
    have e2 : z.2 = l := by have := hz.2; rw [denM_mono0 hle h2] at this; simpa using this.symm
    exact ⟨z, ⟨by rw [e1]; exact h1, by rw [e2]; exact h2⟩, hc⟩
  | row t es =>
    obtain ⟨z, hz, hc⟩ := o
    obtain ⟨a, v, ks, hw⟩ := hx
    have e1 : z.1 = a := by have := hz.p; rw [(hle.a i a hw.p).1] at this; simpa using this.symm
    have e2 : z.2.1 = v := hz.s.symm.trans ((hle.s i a hw.p).trans hw.s)
    have e3 : z.2.2 = ks := by have := hz.ly; rw [hw.ly] at this; simpa using this.symm
    refine ⟨z, ?_, hc⟩
    rw [e1, e2, e3]; exact hw
  | it j c b =>
    obtain ⟨z, hz, hc⟩ := o
    obtain ⟨a, m, h1, h2⟩ := hx
    have g1 := (hle.a i a h1).1
    have g2 := (hle.a j m h2).1
    have e1 : z.1 = a := by have := hz.1; rw [g1] at this; simpa using this.symm
    have e2 : z.2 = m := by have := hz.2; rw [g2] at this; simpa using this.symm
    exact ⟨z, ⟨by rw [e1]; exact h1, by rw [e2]; exact h2⟩, hc⟩
  | ro cs =>
    obtain ⟨z, hz, hc⟩ := o
    obtain ⟨a, vs, h1, h2, h3⟩ := hx
    obtain ⟨g1, g2⟩ := hle.a i a h1
    have e1 : z.1 = a := by have := hz.1; rw [g1] at this; simpa using this.symm
    have e2 : z.2 = vs := by have := hz.2.1; rw [denL_mono0 hle h2] at this; simpa using this.symm
    exact ⟨z, ⟨by rw [e1]; exact h1, by rw [e2]; exact h2, hz.2.2.1, by rw [e1, e2]; exact h3⟩, hc⟩
theorem Rep.known {E : Env} {th : TH} {h0 h : Heap} {L : List HP} (r : Rep E th h0 h L) : ∀ x ∈ th.t.all.map (fun x => x), Kn E x := by
  intro x hx
  simp only [List.map_id'] at hx
  obtain ⟨l1, l2, hl⟩ := List.append_of_mem hx
  have s := r.st
  rw [hl] at s
  have s2 : St h0 h (part E x :: ((l1 ++ l2).map (part E) ++ (FzP E.z :: L))) := s.perm (by
    rw [List.map_append, List.map_append, List.map_cons]
    refine ((List.perm_middle).append_right _).trans ?_
    simp)
  obtain ⟨S, hA, _⟩ := s2.get
  obtain ⟨i, o⟩ := x
  cases o with
  | cells cs k =>
    obtain ⟨z, hz, _⟩ := hA
    exact ⟨z.1, z.2.1, hz.1, hz.2.1⟩
  | map d m =>
    obtain ⟨z, hz, _⟩ := hA
    exact ⟨z.1, z.2, hz.1, hz.2⟩
  | row t es =>
    obtain ⟨z, hz, _⟩ := hA
    exact ⟨z.1, z.2.1, z.2.2, hz⟩
  | it j c b =>
    obtain ⟨z, hz, _⟩ := hA
    exact ⟨z.1, z.2, hz.1, hz.2⟩
  | ro cs =>
    obtain ⟨z, hz, _⟩ := hA
    exact ⟨z.1, z.2, hz.1, hz.2.1, hz.2.2.2⟩
/-- A part that stood beside comes in. -/
theorem Rep.take {E : Env} {th : TH} {h0 h : Heap} {L : List HP} {i : Nat} {o : TO} (r : Rep E th h0 h (part E (i, o) :: L)) : Rep E ⟨th.t.put i o, th.nx, th.scr⟩ h0 h L := by
  refine ⟨?_, r.fr, r.eh⟩
  cases hg : th.t.get i with
  | none =>
    refine r.st.perm ?_
    have := ((Tr.perm_new o hg).map (part E)).append_right (FzP E.z :: L)
    refine List.Perm.trans ?_ this.symm
    exact (List.Perm.append_left _ (.swap _ _ _)).trans List.perm_middle
  | some o' =>
    have s := (r.pick hg).drop
    refine s.perm ?_
    have := (((Tr.perm hg).2 o).map (part E)).append_right (FzP E.z :: L)
    refine List.Perm.trans ?_ this.symm
    exact (List.Perm.append_left _ (.swap _ _ _)).trans List.perm_middle
end Go.Va
