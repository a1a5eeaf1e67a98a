/- A region that draws its order. No program. -/
import Derived.Test.YtfaieigeojiiiaaGreatVr
set_option linter.unusedVariables false
set_option linter.unusedSectionVars false
set_option linter.unusedSimpArgs false
namespace Go.Va
open Go Go.Sh
variable [Vb]
variable {P : Program}
def KT0 [Gd] (n : Nat) (h0 : Heap) (L : List HP) (w0 : World) (E : Env) (k : KF) (T : Act → World → Prop) : Prop := ∀ F fr th f w, E.Le F → AgF F n fr f → Rep F th h0 w.heap L → SameW w0 w → k fr th → T (mk n f) w
def KT [Gd] (m n : Nat) (h0 : Heap) (L : List HP) (w0 : World) (E : Env) (k : KF) (T : Act → World → Prop) : Prop := ∀ F fr th f w, E.Le F → AgF F n fr f → Clean m fr → Rep F th h0 w.heap L → SameW w0 w → k fr th → T (mk n f) w

theorem cst_den (E : Env) {x : FV} (h : cst x = true) : ∃ v, den E x = some v := by
  cases x <;> simp only [cst] at h <;> first
    | (cases h; done)
    | exact ⟨_, rfl⟩
    | exact ⟨_, by simp only [den]; rw [if_pos h]⟩
    | (rename_i f a b
       cases a with
       | nil => cases b with
         | nil => exact ⟨_, rfl⟩
         | cons _ _ => cases h
       | cons _ _ => cases h)
theorem cstL_den (E : Env) : ∀ {l : List FV}, cstL l = true → ∃ v, denL E l = some v
  | [], _ => ⟨[], rfl⟩
  | x :: r, h => by
    simp only [cstL] at h
    cases hx : cst x with
    | false => rw [hx] at h; cases h
    | true =>
      rw [hx] at h
      obtain ⟨v, h1⟩ := cst_den E hx
      obtain ⟨vs, h2⟩ := cstL_den E h
      exact ⟨_, denL_of h1 h2⟩
theorem cstO_den {E : Env} {n : Nat} {fr : Fr} {f : Nat → Value} (ha : AgF E n fr f) {x : Opd} {v : FV} (h : cstO x = true) (hv : evO fr x = some v) : ∃ u, den E v = some u := by
  cases x with
  | t i => exact ⟨_, (ha i v hv).2⟩
  | c w => simp only [evO, Option.some.injEq] at hv; subst hv; exact cst_den E h
theorem cstP_den {E : Env} {n : Nat} {fr : Fr} {f : Nat → Value} (ha : AgF E n fr f) : ∀ {ps : List (Nat × Opd)} {l : List (Nat × FV)}, cstP ps = true → evP fr ps = some l → ∃ us, denL E (l.map (·.2)) = some us
  | [], l, _, hl => by simp only [evP, Option.some.injEq] at hl; subst hl; exact ⟨[], rfl⟩
  | (i, x) :: r, l, h, hl => by
    simp only [cstP] at h
    cases hx : cstO x with
    | false => rw [hx] at h; cases h
    | true =>
      rw [hx] at h
      simp only [evP] at hl
      cases h1 : evO fr x with
      | none => rw [h1] at hl; cases hl
      | some a =>
        cases h2 : evP fr r with
        | none => rw [h1, h2] at hl; cases hl
        | some l' =>
          rw [h1, h2] at hl; simp only [Option.some.injEq] at hl; subst hl
          obtain ⟨u, g1⟩ := cstO_den ha hx h1
          obtain ⟨us, g2⟩ := cstP_den ha h h2
          exact ⟨_, denL_of g1 g2⟩
theorem fillF_den {E : Env} : ∀ {ps : List (Nat × FV)} {pl : List (Nat × Nat)} {cs r : List FV} {vs us : List Value}, fillF cs pl ps = some r → denL E cs = some vs → denL E (ps.map (·.2)) = some us → ∃ ws, denL E r = some ws
  | [], [], cs, r, vs, us, h, hd, _ => by simp only [fillF, Option.some.injEq] at h; subst h; exact ⟨vs, hd⟩
  | [], _ :: _, _, _, _, _, h, _, _ => by simp [fillF] at h
  | _ :: _, [], _, _, _, _, h, _, _ => by simp [fillF] at h
  | (i, v) :: ps, (off, sz) :: pl, cs, r, vs, us, h, hd, hu => by
    simp only [fillF] at h
    cases hb : (Nat.beq (cellsV v).length sz && notTup v) with
    | false => rw [hb] at h; cases h
    | true =>
      rw [hb] at h
      simp only [cond_true] at h
      obtain ⟨u, us', h1, h2, rfl⟩ := denL_cons hu
      cases hs : splO (cellsV v) off cs with
      | none => rw [hs] at h; cases h
      | some cs' =>
        rw [hs] at h
        obtain ⟨h3, h4⟩ := splO_some hs
        exact fillF_den h (by rw [h3]; exact denL_setF off hd (den_cells h1)) h2
/-- What floats bears values that are told. -/
theorem alF_den {E : Env} {n : Nat} {fr : Fr} {f : Nat → Value} {m : MOp} {x : FV} {o : TO} (ha : AgF E n fr f) (hx : alF fr m = some (x, o)) :
    ∃ cs, o = .cells cs 0 ∧ (∃ vs, denL E cs = some vs) ∧ (x = .ptr 0 0 ∨ ∃ k, x = .sl 0 0 0 k (.lit k)) ∧ ∀ (cl : Cl) (th : TH) (K : FV → TH → Prop), K (reid th.nx x) (th.new o) → evX cl fr th m K := by
  cases m <;> simp only [alF] at hx <;> try (cases hx; done)
  case alc z =>
    cases hb : cstL z && z.all oneF with
    | false => rw [hb] at hx; cases hx
    | true =>
      rw [hb] at hx; simp only [cond_true, Option.some.injEq, Prod.mk.injEq] at hx
      obtain ⟨rfl, rfl⟩ := hx
      simp only [Bool.and_eq_true] at hb
      exact ⟨z, rfl, cstL_den E hb.1, .inl rfl, fun cl th K h => h⟩
  case box y =>
    cases hb : cstO y with
    | false => rw [hb] at hx; cases hx
    | true =>
      rw [hb] at hx
      simp only [cond_true] at hx
      cases hv : evO fr y with
      | none => rw [hv] at hx; cases hx
      | some v =>
        rw [hv] at hx
        simp only at hx
        cases hn : notTup v with
        | false => rw [hn] at hx; cases hx
        | true =>
          rw [hn] at hx; simp only [cond_true, Option.some.injEq, Prod.mk.injEq] at hx
          obtain ⟨rfl, rfl⟩ := hx
          obtain ⟨u, hu⟩ := cstO_den ha hb hv
          refine ⟨_, rfl, ⟨_, den_cells hu⟩, .inl rfl, fun cl th K h => ?_⟩
          simp only [evX, evX0, xBox, hv, hn]
          exact h
  case mks kq b z l c =>
    cases hb : cstL z && z.all oneF with
    | false => rw [hb] at hx; cases hx
    | true =>
      rw [hb] at hx
      simp only [cond_true] at hx
      simp only [Bool.and_eq_true] at hb
      cases hl : evN fr l with
      | none => rw [hl] at hx; cases hx
      | some ln =>
        cases hcn : evN fr c with
        | none => rw [hl, hcn] at hx; cases hx
        | some cn =>
          rw [hl, hcn] at hx
          simp only at hx
          cases hq : Nat.beq ln cn && (Nat.ble ln cn && Nat.ble (b * cn) 140737488355328 && Nat.ble cn 4611686018427387904) with
          | false => rw [hq] at hx; cases hx
          | true =>
            rw [hq] at hx; simp only [cond_true, Option.some.injEq, Prod.mk.injEq] at hx
            obtain ⟨rfl, rfl⟩ := hx
            simp only [Bool.and_eq_true] at hq
            have e := beq_t hq.1
            subst e
            obtain ⟨vz, h1⟩ := cstL_den E hb.1
            have rep : ∀ m, ∃ vs, denL E (repF z m) = some vs := fun m => by
              induction m with
              | zero => exact ⟨[], rfl⟩
              | succ m ih => obtain ⟨vs, h⟩ := ih; exact ⟨_, denL_append h1 h⟩
            refine ⟨_, rfl, rep ln, .inr ⟨ln, rfl⟩, fun cl th K h => ?_⟩
            have hq2 : (Nat.ble ln ln && Nat.ble (b * ln) 140737488355328 && Nat.ble ln 4611686018427387904) = true := by simp only [Bool.and_eq_true]; exact hq.2
            simp only [evX, evX0, xMks, hl, hcn, hq2, cond_true]
            exact h
  case bsl k nn z pl ps =>
    cases hb : cstL z && z.all oneF && cstP ps with
    | false => rw [hb] at hx; cases hx
    | true =>
      rw [hb] at hx
      simp only [cond_true] at hx
      simp only [Bool.and_eq_true] at hb
      cases hl : evP fr ps with
      | none => rw [hl] at hx; cases hx
      | some l =>
        rw [hl] at hx
        simp only at hx
        cases hf : fillF z pl l with
        | none => rw [hf] at hx; cases hx
        | some cs =>
          rw [hf] at hx; simp only [Option.some.injEq, Prod.mk.injEq] at hx
          obtain ⟨rfl, rfl⟩ := hx
          obtain ⟨vz, h1⟩ := cstL_den E hb.1.1
          obtain ⟨us, h2⟩ := cstP_den ha hb.2 hl
          refine ⟨cs, rfl, fillF_den hf h1 h2, .inr ⟨nn, rfl⟩, fun cl th K h => ?_⟩
          simp only [evX, evX0, xBsl, hl, hf]
          exact h
theorem sx_mono [Gd] {s : Sem Next} {h : Heap} {K K' : Value → Heap → Prop} (hs : Sx P s h K) (hk : ∀ v h', K v h' → K' v h') : Sx P s h K' := by
  intro w hw
  have := hs w hw
  generalize s.run P w = r at this ⊢
  match r, this with
  | .ok (.value v) w', ⟨a, b⟩ => exact ⟨a, hk _ _ b⟩
  | .ok .skip w', ⟨a, b⟩ => exact ⟨a, hk _ _ b⟩
  | .ok (.enter f args) w', ⟨a, b⟩ => exact ⟨a, b.mono hk⟩
  | .halt (.panic x) w', hh => exact hh
theorem sep_imps_mem {h : Heap} {α : Type} {f g : α → HP} {L : List HP} : ∀ {l : List α} {U : Nat → Prop}, (∀ x ∈ l, ∀ S, (f x).own h S → (g x).own h S) → Sep h (l.map f ++ L) U → Sep h (l.map g ++ L) U
  | [], _, _, s => s
  | x :: l, _, hf, ⟨S, a, b, c⟩ => ⟨S, hf x (.head _) S a, b, sep_imps_mem (fun y hy => hf y (.tail _ hy)) c⟩
/-- What floats is made: whatever its id. -/
theorem al_ok [Gd] {cl : Cl} (hcl : ClOk P cl) {E : Env} {th : TH} {h0 h : Heap} {L : List HP} {n : Nat} {fr : Fr} {f : Nat → Value} {o : Oper} {m : MOp} {x : FV} {ob : TO} (r : Rep E th h0 h L) (ha : AgF E n fr f) (hc : cop P o = some m) (hx : alF fr m = some (x, ob)) :
    Sx P (execOp (evf n f) o) h fun v h' => ∃ a c z, ∀ (id : Nat), E.p id = none → (∀ i, th.nx ≤ i → i ≠ id) → (let E' : Env := ⟨fun j => if j = id then some a else E.p j, fun j => if j = id then c else E.c j, fun j => if j = id then false else E.r j, E.h, z, E.s⟩
      E.Le0 E' ∧ den E' (reid id x) = some v ∧ Rep E' th h0 h' (part E' (id, ob) :: L)) := by
  obtain ⟨cs, rfl, ⟨vs, hvs⟩, hsh, hev⟩ := alF_den ha hx
  have sx := evX_ok hcl (K := fun y th' => y = reid th.nx x ∧ th' = th.new (.cells cs 0)) r ha.ago hc (hev cl th _ ⟨rfl, rfl⟩)
  refine sx_mono sx fun v h' hpost => ?_
  obtain ⟨F, y, th', hle, hd, rF, e1, e2⟩ := hpost
  subst e1 e2
  -- the new block's part
  have hg : (th.new (.cells cs 0)).t.get th.nx = some (.cells cs 0) := Tr.get_eq _ _ _
  have hkn := r.known
  have hnx := r.nx
  have s1 : St h0 h' (part F (th.nx, .cells cs 0) :: (th.t.all.map (part F) ++ (FzP F.z :: L))) :=
    rF.st.perm (((Tr.perm_new (TO.cells cs 0) hnx).map (part F)).append_right _)
  obtain ⟨z, s2⟩ := s1.ex
  obtain ⟨hz, s3⟩ := s2.pure
  have hzv : z.2.1 = vs := by have := hz.2.1; rw [denL_mono hle hvs] at this; simpa using this.symm
  refine ⟨z.1, F.c th.nx, F.z, fun id hid hidn => ?_⟩
  have hidnx : id ≠ th.nx := fun e => hidn th.nx (Nat.le_refl _) e.symm
  have le0 : E.Le0 ⟨fun j => if j = id then some z.1 else E.p j, fun j => if j = id then F.c th.nx else E.c j, fun j => if j = id then false else E.r j, E.h, F.z, E.s⟩ := ⟨fun j b hb => by
    have : j ≠ id := fun e => by rw [e, hid] at hb; cases hb
    simp [this, hb], rfl, hle.p.z, fun _ _ _ => rfl⟩
  refine ⟨le0, ?_, ⟨?_, fun i hi => ?_, r.eh⟩⟩
  · rcases hsh with rfl | ⟨k, rfl⟩
    · simp only [reid, den, hz.1] at hd ⊢
      simpa using hd
    · simp only [reid, den, hz.1] at hd ⊢
      simpa using hd
  · have s4 : St h0 h' (part ⟨fun j => if j = id then some z.1 else E.p j, fun j => if j = id then F.c th.nx else E.c j, fun j => if j = id then false else E.r j, E.h, F.z, E.s⟩ (id, .cells cs 0) :: (th.t.all.map (part F) ++ (FzP F.z :: L))) :=
      s3.imp fun S ho => ⟨z, ⟨by simp, by rw [hzv]; exact denL_mono0 le0 hvs, hz.2.2.1, hz.2.2.2.1, fun h => absurd rfl h⟩, ho⟩
    obtain ⟨he, S, hA, hS, rest⟩ := s4
    have rest2 : Sep h' (th.t.all.map (part ⟨fun j => if j = id then some z.1 else E.p j, fun j => if j = id then F.c th.nx else E.c j, fun j => if j = id then false else E.r j, E.h, F.z, E.s⟩) ++ (FzP F.z :: L)) (fun b => (h0.size ≤ b ∧ b < h'.size) ∧ ¬ S b) :=
      sep_imps_mem (fun x hx S ho => part_mono le0 (part_back hle.p (hkn x (by simpa using hx)) ho)) rest
    exact St.perm (L := part _ (id, .cells cs 0) :: (th.t.all.map (part _) ++ (FzP F.z :: L))) ⟨he, S, hA, hS, rest2⟩ (List.perm_middle.symm.trans (List.Perm.append_left _ (.swap _ _ _)))
  · have : i ≠ id := hidn i hi
    have := r.fr i hi
    simp [*]
end Go.Va
