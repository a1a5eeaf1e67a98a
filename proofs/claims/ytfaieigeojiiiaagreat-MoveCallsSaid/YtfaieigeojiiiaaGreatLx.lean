/- A law's run by the engine: what is reckoned true ends the law. No program. -/
import Derived.Test.YtfaieigeojiiiaaGreatVv
import Derived.Test.YtfaieigeojiiiaaGreatFin
set_option linter.unusedVariables false
set_option linter.unusedSectionVars false
set_option linter.unusedSimpArgs false
namespace Go.Va
open Go Go.Sh
variable [Vb]
instance gdW : Gd := ⟨False, fun _ _ => False⟩
variable {P : Program}
def TabOk (P : Program) : Tr FFn → Prop
  | .nil => True
  | .leaf k v => KOk P k v
  | .node _ l r => TabOk P l ∧ TabOk P r
theorem TabOk.get {i : Nat} {f : FFn} : ∀ {t : Tr FFn}, TabOk P t → t.get i = some f → KOk P i f
  | .nil, _, h => by rw [Tr.get_nil] at h; cases h
  | .leaf k v, o, h => by
    rw [Tr.get_leaf] at h
    cases hb : Nat.beq k i with
    | false => rw [hb] at h; cases h
    | true => rw [hb] at h; simp only [cond_true, Option.some.injEq] at h; subst h; rw [← beq_t hb]; exact o
  | .node m l r, o, h => by
    rw [Tr.get_node] at h
    cases hb : Nat.blt i m with
    | true => rw [hb] at h; exact TabOk.get o.1 h
    | false => rw [hb] at h; exact TabOk.get o.2 h
theorem TabOk.put {k : Nat} {v : FFn} (hv : KOk P k v) : ∀ {t : Tr FFn}, TabOk P t → TabOk P (t.put k v)
  | .nil, _ => hv
  | .leaf j u, o => by
    rw [Tr.put_leaf]
    cases Nat.beq j k with
    | true => exact hv
    | false =>
      cases Nat.blt j k with
      | true => exact ⟨o, hv⟩
      | false => exact ⟨hv, o⟩
  | .node m l r, o => by
    rw [Tr.put_node]
    cases Nat.blt k m with
    | true => exact ⟨TabOk.put hv o.1, o.2⟩
    | false => exact ⟨o.1, TabOk.put hv o.2⟩
def env0 (h : Heap) : Env := ⟨fun _ => none, fun _ => 0, fun _ => false, h, [], fun _ => .pointer none⟩
theorem rep0 (h : Heap) (b : Nat) (s : Scr) : Rep (env0 h) ⟨skel b 0, 0, s⟩ h h [] := ⟨by
  show St h h ((skel b 0 : Tr TO).all.map (part (env0 h)) ++ [FzP []])
  rw [skel_all]
  exact ⟨Ext.refl h, fun _ => False, fun q hq => (by cases hq), fun _ h => h.elim, trivial⟩, fun _ _ => ⟨rfl, rfl⟩, rfl⟩
/-- What a law that answers true is reckoned to. -/
def runs (tab : Tr FFn) (b lf n i : Nat) (l : List FV) (s : Scr) : Prop := eng tab lf n i l ⟨skel b 0, 0, s⟩ fun x _ => x = .bool true
/-- The same, shut. -/
structure Runs (tab : Tr FFn) (b lf n i : Nat) (l : List FV) : Prop where
  run : ∃ s, runs tab b lf n i l s
theorem runs_ok {tab : Tr FFn} (ht : ∀ i f, tab.get i = some f → KOk P i f) {b lf n i : Nat} {l : List FV} {vs : List Value} (hx : Runs tab b lf n i l) (w : World) (hd : denL (env0 w.heap) l = some vs)
    (hc : ∀ args w, (callFunc i args).run P w = .ok (.enter i args) w) : Calls P i vs.toArray w fun e w' => e = .returned (.bool true) ∧ SameW w w' ∧ Ext w.heap w'.heap := by
  obtain ⟨s, hx⟩ := hx.run
  unfold runs at hx
  have h := eng_ok (P := P) id ht n i l _ _ hx (env0 w.heap) w.heap w.heap [] vs (rep0 w.heap b s) hd w rfl
  rw [hc] at h
  refine (HC.calls (fun _ _ h => h) h.2 w rfl).mono ?_
  rintro e w' ⟨v, rfl, hs, F, x, th', hle, hv, r, rfl⟩
  simp only [den, Option.some.injEq] at hv
  subst hv
  exact ⟨rfl, hs, r.st.ext⟩
/-- Rows that leave the frame as it is. -/
def nf (l : List Nat) : List (Nat × RP) := l.map fun i => (i, ⟨0, []⟩)
/-- Regions that are never run. -/
def dd (l : List Nat) : List (Nat × RP) := l.map fun i => (i, ⟨999, []⟩)
/-- From every world it answers true, and leaves all that there was. -/
def Good (P : Program) (i : Nat) (vs : List Value) : Prop := ∀ w, Calls P i vs.toArray w fun e w' => e = .returned (.bool true) ∧ SameW w w' ∧ Ext w.heap w'.heap
theorem good_of {tab : Tr FFn} (ht : ∀ i f, tab.get i = some f → KOk P i f) {b lf n i : Nat} {l : List FV} {vs : List Value} (hx : Runs tab b lf n i l) (hc : ∀ args w, (callFunc i args).run P w = .ok (.enter i args) w) (hd : ∀ h, denL (env0 h) l = some vs) : Good P i vs :=
  fun w => runs_ok ht hx w (hd _) hc
theorem den_by {E : Env} {k : IntKind} {e : SE} {lo hi n : Int} (h : e.ev = n) (h1 : lo ≤ n) (h2 : n ≤ hi) : den E (.sy k e lo hi) = some (.int k n) := by
  simp only [den]; rw [h]; exact if_pos ⟨h1, h2⟩
theorem den_int {E : Env} {k : IntKind} {c n : Int} (h : c = n) : den E (.int k c) = some (.int k n) := by rw [h]; rfl
theorem den_bool {E : Env} {b : Bool} : den E (.bool b) = some (.bool b) := rfl
/-- What is reckoned true once need not be reckoned again. -/
theorem kok_t {tab : Tr FFn} (ht : ∀ i f, tab.get i = some f → KOk P i f) {b lf n i : Nat} (hx : Runs tab b lf n i []) (hc : ∀ args w, (callFunc i args).run P w = .ok (.enter i args) w) : KOk P i .t :=
  .t hc fun w => runs_ok ht hx (vs := []) w rfl hc
end Go.Va
set_option linter.unusedVariables false
set_option linter.unusedSectionVars false
set_option linter.unusedSimpArgs false
noncomputable section
namespace Go.Va
open Go Go.Sh
variable [Vb]
variable {P : Program}

/-- Data by their kinds, as they stand in what is printed. -/
def CTy : CK → Type
  | .i _ => Int
  | .b => Bool
  | .s => Str
  | .p _ => LD
  | .l _ => LD
  | .r _ => List LD
def pj : (k : CK) → LD → CTy k
  | .i _, d => d.i
  | .b, d => d.bo
  | .s, d => d.st
  | .p _, d => d
  | .l _, d => d
  | .r _, d => d.cs
def TelK : List CK → Type
  | [] => Prop
  | k :: ks => CTy k → TelK ks
def cuK (ks0 : List CK) : (ks : List CK) → TelK ks → (List LD → List LD) → Tel ks.length
  | [], f, g => wtL (g []) ks0 → f
  | k :: ks, f, g => fun y => cuK ks0 ks (f (pj k y)) fun r => g (y :: r)
def apK (ks : List CK) (f : TelK ks) : List LD → Prop := apT ks.length (cuK ks ks f fun r => r)
/-- What a function's body comes to. -/
def bodyQ (tab : Tr FFn) (ls : List LCt) (k : FFn) (c : Ctr) (xs : List LD) (Ks : Nat → List LD → Prop) : Prop := runF ⟨100, ls⟩ (callF (eng tab 100 100)) k (fvPL id (nthD xs) c.i.ps 0) (thS c.i xs) (retQ c (fun _ _ => 0) Ks)
/-- What a loop's turn comes to. -/
def loopQ (tab : Tr FFn) (ls : List LCt) (m : Nat) (fc : FC) (S : LCt) (xs : List LD) (R : List LD → Prop) (Ks : Nat → List LD → Prop) : Prop := match headF m S xs with
  | some fr => evC fc (callF (eng tab 100 100)) ⟨100, ls⟩ fr (thS S.c.i xs) (headQ S R) (fun i => exitQ S Ks (some i)) (exitQ S Ks none)
  | none => False
theorem kok_inv {i np m b : Nat} {rs : List RV} {code : CF} (h : KOk P i (.f np m b rs code)) : ∃ fn pls np' m', P.funcs[i]? = some fn ∧ (∀ args w, (callFunc i args).run P w = .ok (.enter i args) w) ∧ (match cF P pls np' m' fn with | some s => some s.fn | none => none) = some (.f np m b rs code) := by
  cases h with
  | f fn pls np' m' k h1 h2 h3 => exact ⟨fn, pls, np', m', h1, h2, h3⟩
/-- All loops of that name keep to it. -/
def LsI (P : Program) (i : Nat) (S : LCt) : Prop := ∀ fn, P.funcs[i]? = some fn → ∀ c, fn.body = some c → ∀ y ∈ loopsOf c, fidN y = S.l → ∀ G : Gd, ¬ G.g → @LcOk _ G P fn.ntmps y S
theorem kok_l {i np m b : Nat} {rs : List RV} {code : CF} (h : KOk P i (.f np m b rs code)) {ls : List LCt} (hl : ∀ S ∈ ls, LsI P i S) : KOk P i (.l ls (.f np m b rs code)) := by
  obtain ⟨fn, pls, np', m', h1, h2, h3⟩ := kok_inv h
  exact .l fn pls np' m' _ ls h1 h2 h3 fun c hc y hy S hS hf => hl S hS fn h1 c hc y hy hf
theorem q_of {tab : Tr FFn} (ht : ∀ i f, tab.get i = some f → KOk P i f) {ls : List LCt} {i np m b : Nat} {rs : List RV} {code : CF} (h : KOk P i (.f np m b rs code)) (hl : ∀ S ∈ ls, LsI P i S) {c : Ctr} (hc : okC c = true)
    (hb : ∀ xs (Ks : List (List LD → Prop)), wtL xs c.i.ks → c.q xs Ks → bodyQ tab ls (.f np m b rs code) c xs (nthK Ks)) : ∀ G : Gd, ¬ G.g → @QOk _ G P i c := fun G hg => by
  obtain ⟨fn, pls, np', m', h1, h2, h3⟩ := kok_inv h
  exact q_of_body hc (callF_ok (eng_ok hg ht 100)) h1 h2 h3 (fun c hc y hy S hS hf => hl S hS fn h1 c hc y hy hf G hg) (fun _ _ => 0) hb
/-- A function that keeps to its contract stands for it. -/
theorem kq {i : Nat} {c : Ctr} (hc : okC c = true) (h : ∀ G : Gd, ¬ G.g → @QOk _ G P i c) : KOk P i (.q c) := .q c hc h
/-- A function's loop of this name, and its small code. -/
structure LpOk (P : Program) (i n m l : Nat) (a : FC) : Prop where
  h : ∃ fn : Func, P.funcs[i]? = some fn ∧ fn.ntmps = n ∧ ∀ c, fn.body = some c → ∀ y ∈ loopsOf c, fidN y = l → ∃ pls, cC P n m pls y = some a
theorem lp_of {fn : Func} {i n m l : Nat} {pls : List (Nat × RP)} {a : FC} (hf : P.funcs[i]? = some fn) (hn : fn.ntmps = n)
    (h : (match fn.body with | some c => ((loopsOf c).filter (fun y => Nat.beq (fidN y) l)).map (fun y => cC P n m pls y) | none => []) = [some a]) : LpOk P i n m l a := ⟨fn, hf, hn, fun c hc y hy hl => by
  rw [hc] at h
  simp only at h
  have hy' : y ∈ (loopsOf c).filter (fun y => Nat.beq (fidN y) l) := List.mem_filter.2 ⟨hy, by simp [hl]⟩
  have h1 := List.mem_map_of_mem (f := fun y => cC P n m pls y) hy'
  rw [h] at h1
  exact ⟨pls, List.mem_singleton.1 h1⟩⟩
theorem lc_of {tab : Tr FFn} (ht : ∀ i f, tab.get i = some f → KOk P i f) {ls : List LCt} {i n m : Nat} {fc : FC} {S : LCt} (hp : LpOk P i n m S.l fc) (hl : ∀ T ∈ ls, LsI P i T) (hc : okC S.c = true) {q : Nat → QF} (h0 : ∀ xs Ks, ¬ q 0 xs Ks)
    (hb : ∀ k xs (Ks : List (List LD → Prop)), wtL xs S.c.i.ks → q (k + 1) xs Ks → loopQ tab ls m fc S xs (fun ys => q k ys Ks) (nthK Ks)) : LsI P i (S.at fun xs Ks => ∃ k, q k xs Ks) := by
  intro fn hf c hcb y hy hfy G hg
  obtain ⟨fn', hf', hn, hh⟩ := hp.h
  rw [hf] at hf'; simp only [Option.some.injEq] at hf'; subst hf'
  obtain ⟨pls, hcc⟩ := hh c hcb y hy hfy
  refine lc_lim fun k => ?_
  rw [hn]
  exact lc_ind hc h0 (callF_ok (eng_ok hg ht 100)) hcc (lf := ⟨100, ls⟩) (fun z hz T hT hzT => by
    have := hl T hT fn hf c hcb z (loops_sub hy hz) hzT G hg
    rw [hn] at this; exact this) (fun k xs Ks hw hq => hb k xs Ks hw hq) k
/-- By a limit. -/
theorem q_rec {ι : Type} {idx : ι → Nat} {ct : Nat → ι → Ctr} (h0 : ∀ j, ∀ xs Ks, ¬ (ct 0 j).q xs Ks) (hs : ∀ k, (∀ j, ∀ G : Gd, ¬ G.g → @QOk _ G P (idx j) (ct k j)) → ∀ j, ∀ G : Gd, ¬ G.g → @QOk _ G P (idx j) (ct (k + 1) j)) : ∀ k j, ∀ G : Gd, ¬ G.g → @QOk _ G P (idx j) (ct k j)
  | 0, j => fun G hg xs Ks _ hq => absurd hq (h0 j xs Ks)
  | k + 1, j => hs k (q_rec h0 hs k) j
end Go.Va
