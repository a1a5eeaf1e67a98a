/- Summaries: reckoned by the engine. No program. -/
import Derived.Test.YtojhofdndohhdaaGreatVu
set_option linter.unusedVariables false
set_option linter.unusedSectionVars false
set_option linter.unusedSimpArgs false
noncomputable section
namespace Go.Va
open Go Go.Sh
variable [Vl]
variable {P : Program}

theorem Tr.get_del_ne {α : Type} {i k : Nat} (hne : i ≠ k) : ∀ t : Tr α, (t.del k).get i = t.get i
  | .nil => by rw [Tr.del_nil]
  | .leaf j v => by
    rw [Tr.del_leaf, Tr.get_leaf]
    cases h : Nat.beq j k with
    | true =>
      have := beq_t h; subst this
      rw [cond_true, Tr.get_nil, beq_of_ne (Ne.symm hne)]; rfl
    | false => rw [cond_false, Tr.get_leaf]
  | .node m l r => by
    rw [Tr.del_node, Tr.get_node]
    cases h : Nat.blt k m with
    | true =>
      rw [cond_true, Tr.get_node, Tr.get_del_ne hne l]
    | false => rw [cond_false, Tr.get_node, Tr.get_del_ne hne r]
def bldT (b : Nat) (l : List (Nat × TO)) : Tr TO := List.rec (motive := fun _ => Tr TO) (skel b 0) (fun p _ ih => ih.put p.1 p.2) l
theorem bldT_get {b i : Nat} : ∀ {l : List (Nat × TO)}, i ∉ l.map (·.1) → (bldT b l).get i = none
  | [], _ => skel_get _ _ _
  | p :: r, h => by
    simp only [List.map_cons, List.mem_cons, not_or] at h
    show ((bldT b r).put p.1 p.2).get i = none
    rw [Tr.get_ne _ _ h.1, bldT_get h.2]
theorem bldT_perm {b : Nat} : ∀ {l : List (Nat × TO)}, (l.map (·.1)).Nodup → (bldT b l).all.Perm l
  | [], _ => by
    show (skel b 0 : Tr TO).all.Perm []
    rw [skel_all]
  | p :: r, h => by
    simp only [List.map_cons, List.nodup_cons] at h
    exact (Tr.perm_new p.2 (bldT_get h.1)).trans ((bldT_perm h.2).cons _)
def subT (l : List (Nat × TO)) (t : Tr TO) : Prop := List.rec (motive := fun _ => Prop) True (fun p _ ih => t.get p.1 = some p.2 ∧ ih) l
theorem subT_mem {t : Tr TO} : ∀ {l : List (Nat × TO)}, subT l t → ∀ q ∈ l, t.get q.1 = some q.2
  | [], _, q, hq => by cases hq
  | p :: r, h, q, hq => by
    have h : t.get p.1 = some p.2 ∧ subT r t := h
    rcases List.mem_cons.1 hq with rfl | hq
    · exact h.1
    · exact subT_mem h.2 q hq
theorem sub_perm : ∀ {l : List (Nat × TO)} {t : Tr TO}, (l.map (·.1)).Nodup → (∀ q ∈ l, t.get q.1 = some q.2) → ∃ rest, t.all.Perm (l ++ rest)
  | [], t, _, _ => ⟨t.all, .refl _⟩
  | p :: r, t, hn, h => by
    simp only [List.map_cons, List.nodup_cons] at hn
    obtain ⟨rest, hp⟩ := sub_perm (t := t.del p.1) hn.2 fun q hq => by
      have : q.1 ≠ p.1 := fun e => hn.1 (by rw [← e]; exact List.mem_map.2 ⟨q, hq, rfl⟩)
      rw [Tr.get_del_ne this]; exact h q (.tail _ hq)
    exact ⟨rest, ((Tr.perm (h p (.head _))).1).trans (hp.cons _)⟩
theorem nodupN_iff : ∀ {l : List Nat}, nodupN l = true → l.Nodup
  | [], _ => List.nodup_nil
  | i :: r, h => by
    simp only [nodupN, Bool.and_eq_true] at h
    refine List.nodup_cons.2 ⟨fun hm => ?_, nodupN_iff h.2⟩
    have := memN_iff.2 hm
    rw [this] at h
    cases h.1
/-- What is reckoned of told arguments is a summary. -/
theorem sm_of [Gd] (hgd : ¬ Gd.g) {tab : Tr FFn} {lf n b i : Nat} {sc : Scr} {S : Sm} (ht : ∀ i f, tab.get i = some f → KOk P i f) (n0 : nodupN (S.t0.map (·.1)) = true) (n1 : nodupN (S.t1.map (·.1)) = true)
    (hx : engF tab lf n i S.l0 ⟨bldT b S.t0, S.nx0, sc⟩ fun x th => x = S.x1 ∧ subT S.t1 th.t) : SmOk P i S := fun E h0 h L vs st hfr hd w hw => by
  rw [engF_eq] at hx
  have r : Rep E ⟨bldT b S.t0, S.nx0, sc⟩ h0 h L := ⟨st.perm (((bldT_perm (nodupN_iff n0)).map (part E)).append_right L).symm, hfr⟩
  refine nextOk_mono (eng_ok (P := P) hgd ht n i S.l0 _ _ hx E h0 h L vs r hd w hw) fun v h' => ?_
  rintro ⟨F, x, th', hle, hv, r', rfl, hsub⟩
  obtain ⟨rest, hp⟩ := sub_perm (nodupN_iff n1) (subT_mem hsub)
  refine ⟨F, hle, hv, ?_⟩
  have s1 := r'.st.perm ((hp.map (part F)).append_right L)
  rw [List.map_append, List.append_assoc] at s1
  have s2 : St h0 h' ((S.t1.map (part F) ++ L) ++ rest.map (part F)) := s1.perm (by
    rw [List.append_assoc]
    exact List.perm_append_comm.append_left _)
  exact s2.split
def reflT (l : List (Nat × TO)) : Prop := List.rec (motive := fun _ => Prop) True (fun p _ ih => some p.2 = some p.2 ∧ ih) l
theorem reflT_ok : ∀ l, reflT l
  | [] => trivial
  | p :: r => ⟨rfl, reflT_ok r⟩
/-- What a summary's run is to be reckoned to. -/
def smRun (tab : Tr FFn) (b lf n i : Nat) (sc : Scr) (S : Sm) : Prop := engF tab lf n i S.l0 ⟨bldT b S.t0, S.nx0, sc⟩ fun x th => x = S.x1 ∧ subT S.t1 th.t
theorem sm_ok {tab : Tr FFn} {lf n b i : Nat} {sc : Scr} {S : Sm} (ht : ∀ i f, tab.get i = some f → KOk P i f) (n0 : nodupN (S.t0.map (·.1)) = true) (n1 : nodupN (S.t1.map (·.1)) = true)
    (hx : smRun tab b lf n i sc S = (S.x1 = S.x1 ∧ reflT S.t1)) (G : Gd) (hgd : ¬ G.g) : @SmOk _ G P i S := by
  have hx : smRun tab b lf n i sc S := by rw [hx]; exact ⟨rfl, reflT_ok _⟩
  exact @sm_of _ P G hgd tab lf n b i sc S ht n0 n1 hx
end Go.Va
