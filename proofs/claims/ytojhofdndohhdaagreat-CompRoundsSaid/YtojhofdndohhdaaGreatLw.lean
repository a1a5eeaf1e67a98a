/- A law's run by the engine: what is reckoned true ends the law. No program. -/
import Derived.Test.YtojhofdndohhdaaGreatVu
import Derived.Test.YtojhofdndohhdaaGreatFin
set_option linter.unusedVariables false
set_option linter.unusedSectionVars false
set_option linter.unusedSimpArgs false
namespace Go.Va
open Go Go.Sh
variable [Vl]
instance gdW : Gd := ⟨False, fun _ _ => False⟩
variable {P : Program}
def TabOk (P : Program) : Tr FFn → Prop
  | .nil => True
  | .leaf k v => KOk P k v
  | .node _ l r => TabOk P l ∧ TabOk P r
theorem TabOk.get {i : Nat} {f : FFn} : ∀ {t : Tr FFn}, TabOk P t → t.get i = some f → KOk P i f
  | .nil, _, h => by rw [Tr.get_nil] at h; cases h
  | .leaf k v, o, h => by
    rw [Tr.get_leaf] at h
    cases hb : Nat.beq k i with
    | false => rw [hb] at h; cases h
    | true => rw [hb] at h; simp only [cond_true, Option.some.injEq] at h; subst h; rw [← beq_t hb]; exact o
  | .node m l r, o, h => by
    rw [Tr.get_node] at h
    cases hb : Nat.blt i m with
    | true => rw [hb] at h; exact TabOk.get o.1 h
    | false => rw [hb] at h; exact TabOk.get o.2 h
theorem TabOk.put {k : Nat} {v : FFn} (hv : KOk P k v) : ∀ {t : Tr FFn}, TabOk P t → TabOk P (t.put k v)
  | .nil, _ => hv
  | .leaf j u, o => by
    rw [Tr.put_leaf]
    cases Nat.beq j k with
    | true => exact hv
    | false =>
      cases Nat.blt j k with
      | true => exact ⟨o, hv⟩
      | false => exact ⟨hv, o⟩
  | .node m l r, o => by
    rw [Tr.put_node]
    cases Nat.blt k m with
    | true => exact ⟨TabOk.put hv o.1, o.2⟩
    | false => exact ⟨o.1, TabOk.put hv o.2⟩
/-- Variables that stand for these numbers; nothing more is known of them. -/
abbrev ofB (l : List Int) : Vb := ⟨fun i => l.getD i 0, fun _ => [], fun _ => by simp, .pending #[] 0⟩
abbrev ofL (l : List Int) : Vl := @Vl.mk (ofB l) [] trivial
def env0 : Env := ⟨fun _ => none, fun _ => 0, fun _ => false⟩
theorem rep0 (h : Heap) (b : Nat) (s : Scr) : Rep env0 ⟨skel b 0, 0, s⟩ h h [] := ⟨by
  show St h h ((skel b 0 : Tr TO).all.map (part env0) ++ [])
  rw [skel_all]; exact St.nil h, fun _ _ => ⟨rfl, rfl⟩⟩
/-- What a law that answers true is reckoned to. -/
def runs (tab : Tr FFn) (b lf n i : Nat) (l : List FV) (s : Scr) : Prop := engF tab lf n i l ⟨skel b 0, 0, s⟩ fun x _ => x = .bool true
/-- The same, shut. -/
structure Runs (tab : Tr FFn) (b lf n i : Nat) (l : List FV) : Prop where
  run : ∃ s, runs tab b lf n i l s
theorem runs_ok {tab : Tr FFn} (ht : ∀ i f, tab.get i = some f → KOk P i f) {b lf n i : Nat} {l : List FV} {vs : List Value} (hx : Runs tab b lf n i l) (hd : denL env0 l = some vs) (w : World)
    (hc : ∀ args w, (callFunc i args).run P w = .ok (.enter i args) w) : Calls P i vs.toArray w fun e w' => e = .returned (.bool true) ∧ SameW w w' ∧ Ext w.heap w'.heap := by
  obtain ⟨s, hx⟩ := hx.run
  unfold runs at hx
  rw [engF_eq] at hx
  have h := eng_ok (P := P) id ht n i l _ _ hx env0 w.heap w.heap [] vs (rep0 w.heap b s) hd w rfl
  rw [hc] at h
  refine (HC.calls (fun _ _ h => h) h.2 w rfl).mono ?_
  rintro e w' ⟨v, rfl, hs, F, x, th', hle, hv, r, rfl⟩
  simp only [den, Option.some.injEq] at hv
  subst hv
  exact ⟨rfl, hs, r.st.ext⟩
/-- Rows that leave the frame as it is. -/
def nf (l : List Nat) : List (Nat × RP) := l.map fun i => (i, ⟨0, []⟩)
/-- Regions that are never run. -/
def dd (l : List Nat) : List (Nat × RP) := l.map fun i => (i, ⟨999, []⟩)
/-- From every world it answers true, and leaves all that there was. -/
def Good (P : Program) (i : Nat) (vs : List Value) : Prop := ∀ w, Calls P i vs.toArray w fun e w' => e = .returned (.bool true) ∧ SameW w w' ∧ Ext w.heap w'.heap
theorem good_of {tab : Tr FFn} (ht : ∀ i f, tab.get i = some f → KOk P i f) {b lf n i : Nat} {l : List FV} {vs : List Value} (hx : Runs tab b lf n i l) (hc : ∀ args w, (callFunc i args).run P w = .ok (.enter i args) w) (hd : denL env0 l = some vs) : Good P i vs :=
  fun w => runs_ok ht hx hd w hc
theorem den_by {E : Env} {k : IntKind} {e : SE} {lo hi n : Int} (h : e.ev = n) (h1 : lo ≤ n) (h2 : n ≤ hi) : den E (.sy k e lo hi) = some (.int k n) := by
  simp only [den]; rw [h]; exact if_pos ⟨h1, h2⟩
theorem den_int {E : Env} {k : IntKind} {c n : Int} (h : c = n) : den E (.int k c) = some (.int k n) := by rw [h]; rfl
theorem den_bool {E : Env} {b : Bool} : den E (.bool b) = some (.bool b) := rfl
/-- What is reckoned true once need not be reckoned again. -/
theorem kok_t {tab : Tr FFn} (ht : ∀ i f, tab.get i = some f → KOk P i f) {b lf n i : Nat} (hx : Runs tab b lf n i []) (hc : ∀ args w, (callFunc i args).run P w = .ok (.enter i args) w) : KOk P i .t :=
  .t hc fun w => runs_ok ht hx (vs := []) rfl w hc
end Go.Va
