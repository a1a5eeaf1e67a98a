/- From what a body comes to, to its contract: functions, loops, by limits. No program. -/
import Derived.Test.YtfaieigeojiiiaaGreatVu
set_option linter.unusedVariables false
set_option linter.unusedSectionVars false
set_option linter.unusedSimpArgs false
namespace Go.Va
open Go Go.Sh
variable [Vb]
variable {P : Program}

def idPrs : List OP → Nat → Prs
  | [], _ => []
  | o :: r, j => match o with
    | .c _ _ => (j, j) :: idPrs r j.succ
    | .r _ => idPrs r j.succ
theorem idPrs_mem : ∀ {I : List OP} {j n : Nat}, keptB I j = true → (n + j, n + j) ∈ idPrs I n
  | [], _, _, h => by simp only [keptB] at h; cases h
  | .c _ _ :: r, 0, n, _ => .head _
  | .r _ :: r, 0, n, h => by simp only [keptB] at h; cases h
  | .c _ _ :: r, j + 1, n, h => by
    have := idPrs_mem (I := r) (n := n.succ) h
    rw [show n.succ + j = n + (j + 1) by omega] at this
    exact .tail _ this
  | .r _ :: r, j + 1, n, h => by
    have := idPrs_mem (I := r) (n := n.succ) h
    rw [show n.succ + j = n + (j + 1) by omega] at this
    exact this
theorem idPrs_mem0 {I : List OP} {j : Nat} (h : keptB I j = true) : (j, j) ∈ idPrs I 0 := by
  have := idPrs_mem (n := 0) h
  rwa [Nat.zero_add] at this
/-- An answer's values. -/
def unone : FV → Option (List FV)
  | .tup l => match l with
    | [_] => none
    | l => some l
  | x => some [x]
theorem unone_ok {E : Env} {x : FV} {l : List FV} {v : Value} (h : unone x = some l) (hd : den E x = some v) : ∃ us, denL E l = some us ∧ v = oneV us := by
  have one : unone x = some [x] → ∃ us, denL E l = some us ∧ v = oneV us := fun e => by
    rw [h] at e; simp only [Option.some.injEq] at e; subst e
    exact ⟨[v], denL_of hd rfl, rfl⟩
  cases x <;> try (exact one rfl)
  rename_i l'
  simp only [den] at hd
  cases hl : denL E l' with
  | none => rw [hl] at hd; cases hd
  | some us =>
    rw [hl] at hd; simp only [Option.some.injEq] at hd; subst hd
    match l', h with
    | [], h => simp only [unone, Option.some.injEq] at h; subst h; exact ⟨us, hl, by
        simp only [denL, Option.some.injEq] at hl; subst hl; rfl⟩
    | [_], h => simp [unone] at h
    | a :: b :: r, h =>
      simp only [unone, Option.some.injEq] at h; subst h
      refine ⟨us, hl, ?_⟩
      have := denL_length hl
      match us, this with
      | _ :: _ :: _, _ => rfl
/-- A state at a way out. -/
def outQ (c : Ctr) (Ks : Nat → List LD → Prop) (e : Nat) (l : List FV) (th : TH) : Prop := match c.o[e]? with
  | some s => mtS s (idPrs c.i.os 0) l th fun ys _ _ => Ks e ys
  | none => False
/-- A function's end, by its contract: the way that is chosen by what is answered. -/
def retQ (c : Ctr) (sel : FV → TH → Nat) (Ks : Nat → List LD → Prop) : FV → TH → Prop := fun r th => match unone r with
  | some l => outQ c Ks (sel r th) l th
  | none => False
theorem Rep.rest {E : Env} {th : TH} {h0 h : Heap} {L : List HP} : ∀ {A : List HP}, Rep E th h0 h (A ++ L) → Rep E th h0 h L
  | [], r => r
  | a :: A, r => Rep.rest (A := A) ⟨(r.st.perm ((List.Perm.append_left _ (.swap _ _ _)).trans List.perm_middle)).drop, r.fr, r.eh⟩
theorem outQ_ok [Gd] {c : Ctr} (hc : okC c = true) {Ks : Nat → List LD → Prop} {e : Nat} {l : List FV} {th : TH} {xs : List LD} (hx : outQ c Ks e l th) {F E : Env} {h0 h hh : Heap} {L L' : List HP} {us : List Value} (r : Rep E th h0 h L) (hd : denL E l = some us) (rF : Rep F (thS c.i xs) h0 hh L') (hle : F.Le0 E) :
    ∃ s ys G, c.o[e]? = some s ∧ wtL ys s.ks ∧ Ks e ys ∧ Env.LeK c.i.os F G ∧ Rep G (thS s ys) h0 h L ∧ denL G (fvPL id (nthD ys) s.ps 0) = some us := by
  unfold outQ at hx
  cases hs : c.o[e]? with
  | none => rw [hs] at hx; exact hx.elim
  | some s =>
    rw [hs] at hx
    simp only at hx
    obtain ⟨k1, k2⟩ := okC_o hc hs
    obtain ⟨F1, ys, prs, th', Ps, g1, g3, g4, g5, g6, g7, g8, g9, g10⟩ := mtS_ok hx r hd
    have hle := hle.trans g1.p
    refine ⟨s, ys, locE F1 prs s.os.length, rfl, g4, g3, ⟨fun j a hk hp => ?_, hle.h, hle.z⟩, Rep.rest g9, g10⟩
    obtain ⟨_, h2⟩ := okA_ok g5 _ (g6 _ (idPrs_mem0 hk))
    obtain ⟨e1, e2⟩ := hle.a j a hp
    have e3 := hle.s j a hp
    have hj2 : j < s.os.length := Nat.lt_of_lt_of_le (keptB_last hk) k2
    exact ⟨by simp [locE, hj2, h2, e1], by simp [locE, idsA, h2, e2], by simp [locE, idsA, h2, e3]⟩
/-- A function keeps to its contract where its body does. -/
theorem q_of_body [Gd] {c : Ctr} (hc : okC c = true) {cl : Cl} (hcl : ClOk P cl) {lf : LF} {i : Nat} {fn : Func} {pls : List (Nat × RP)} {np m : Nat} {k : FFn} (hfn : P.funcs[i]? = some fn) (hcall : ∀ args w, (callFunc i args).run P w = .ok (.enter i args) w) (hk : (match cF P pls np m fn with | some s => some s.fn | none => none) = some k)
    (hlp : ∀ c, fn.body = some c → ∀ y ∈ loopsOf c, ∀ S ∈ lf.ls, fidN y = S.l → LcOk P fn.ntmps y S) (sel : FV → TH → Nat) (hb : ∀ xs (Ks : List (List LD → Prop)), wtL xs c.i.ks → c.q xs Ks → runF lf cl k (fvPL id (nthD xs) c.i.ps 0) (thS c.i xs) (retQ c sel (nthK Ks))) : QOk P i c := by
  intro xs Ks hw hq F h0 h L us r hd w hw'
  refine next_mono (fn_ok hcl hfn hcall hk hlp (hb xs Ks hw hq) r hd w hw') fun v h' => ?_
  rintro ⟨F1, x, th', hle, hv, rF1, hx⟩
  unfold retQ at hx
  cases hu : unone x with
  | none => rw [hu] at hx; exact hx.elim
  | some l =>
    rw [hu] at hx
    simp only at hx
    obtain ⟨us', g1, rfl⟩ := unone_ok hu hv
    obtain ⟨s, ys, G, h1, h2, h3, h4, h5, h6⟩ := outQ_ok hc hx rF1 g1 r hle.p
    exact ⟨_, s, ys, G, us', h1, h2, h3, h4, h5, h6, rfl⟩

/-! ### Loops -/
/-- At the head again. -/
def headQ (S : LCt) (q : List LD → Prop) : KF := fun fr th => match getL fr S.i0 with
  | some l => mtS S.c.i (idPrs S.c.i.os 0) l th fun ys _ _ => q ys
  | none => False
/-- Which way out an exit is, from the n-th on. -/
def wayL (x : Option Nat) : List (Option Nat × List Nat) → Nat → Option (Nat × List Nat)
  | [], _ => none
  | q :: r, n => bif (match x with
    | some i => (match q.1 with
      | some j => Nat.beq i j
      | none => false)
    | none => (match q.1 with
      | some _ => false
      | none => true)) then some (n, q.2) else wayL x r n.succ
def exitQ (S : LCt) (Ks : Nat → List LD → Prop) (x : Option Nat) : KF := fun fr th => match wayL x S.es 0 with
  | some q => match getL fr q.2 with
    | some l => outQ S.c Ks q.1 l th
    | none => False
  | none => False
theorem wayL_ok {x : Option Nat} {p : Nat × List Nat} : ∀ {es : List (Option Nat × List Nat)} {n : Nat}, wayL x es n = some p → n ≤ p.1 ∧ es[p.1 - n]? = some (x, p.2)
  | q :: r, n, h => by
    simp only [wayL] at h
    cases hb : (match x with
    | some i => (match q.1 with
      | some j => Nat.beq i j
      | none => false)
    | none => (match q.1 with
      | some _ => false
      | none => true)) with
    | true =>
      rw [hb] at h; simp only [cond_true, Option.some.injEq] at h; subst h
      refine ⟨Nat.le_refl _, ?_⟩
      obtain ⟨q1, q2⟩ := q
      have : x = q1 := by
        cases x <;> cases q1 <;> simp only at hb <;> first | rfl | (cases hb; done) | rw [beq_t hb]
      subst this
      simp
    | false =>
      rw [hb] at h
      obtain ⟨h1, h2⟩ := wayL_ok (es := r) h
      refine ⟨by omega, ?_⟩
      have : p.1 - n = (p.1 - n.succ) + 1 := by omega
      rw [this, List.getElem?_cons_succ]; exact h2
/-- The frame at the head. -/
def headF (m : Nat) (S : LCt) (xs : List LD) : Option Fr := putL m (.base m .nil) S.i0 (fvPL id (nthD xs) S.c.i.ps 0)
def LCt.at (S : LCt) (q : QF) : LCt := ⟨S.l, S.i0, S.es, ⟨S.c.i, S.c.o, q⟩⟩
/-- A loop keeps to its contract where each turn does, by a limit. -/
theorem lc_ind [Gd] {S : LCt} (hc : okC S.c = true) {q : Nat → QF} (h0 : ∀ xs Ks, ¬ q 0 xs Ks) {cl : Cl} (hcl : ClOk P cl) {n m : Nat} {pls : List (Nat × RP)} {x : Code} {fc : FC} (hx : cC P n m pls x = some fc) {lf : LF} (hlp : ∀ y ∈ loopsOf x, ∀ T ∈ lf.ls, fidN y = T.l → LcOk P n y T)
    (hb : ∀ k xs (Ks : List (List LD → Prop)), wtL xs S.c.i.ks → q (k + 1) xs Ks → match headF m S xs with
      | some fr => evC fc cl lf fr (thS S.c.i xs) (headQ S fun ys => q k ys Ks) (fun i => exitQ S (nthK Ks) (some i)) (exitQ S (nthK Ks) none)
      | none => False) : ∀ k, LcOk P n x (S.at (q k))
  | 0 => ⟨hc, fun xs Ks _ hq => absurd hq (h0 xs Ks)⟩
  | k + 1 => ⟨hc, fun xs Ks hw hq E h0' L vs w0 w f Q r hd hs hg hp hpk hout => by
    have hbody := hb k xs Ks hw hq
    cases hf : headF m S xs with
    | none => rw [hf] at hbody; exact hbody.elim
    | some fr =>
      rw [hf] at hbody
      simp only at hbody
      obtain ⟨p1, p2⟩ := putL_ok (E := E) (n := n) (f := f) hf (fun t y hy => by rw [Fr.get_nil] at hy; cases hy) (fun k hk => Fr.get_nil k m) hd hg
      haveI := hp
      have out : ∀ (y : Option Nat) (F : Env) (fr' : Fr) (th' : TH) (f' : Nat → Value) (w' : World), E.Le F → AgF F n fr' f' → Rep F th' h0' w'.heap L → SameW w0 w' → exitQ S (nthK Ks) y fr' th' → Q (match y with
          | some i => .exit i
          | none => .ret) (mk n f') w' := fun y F fr' th' f' w' a1 a2 a3 a4 a5 => by
        unfold exitQ at a5
        cases hy : wayL y S.es 0 with
        | none => rw [hy] at a5; exact a5.elim
        | some p =>
          rw [hy] at a5
          simp only at a5
          cases hl : getL fr' p.2 with
          | none => rw [hl] at a5; exact a5.elim
          | some l =>
            rw [hl] at a5
            simp only at a5
            obtain ⟨us, g1, g2⟩ := getL_agr a2 hl
            obtain ⟨s, ys, G, e1, e2, e3, e4, e5, e6⟩ := outQ_ok hc a5 a3 g1 r a1.p
            obtain ⟨_, hes⟩ := wayL_ok hy
            exact hout p.1 s (y, p.2) ys G us f' w' e1 (by simpa [LCt.at] using hes) e2 e3 e4 e5 e6 a4 g2
      refine Tn_step ?_
      refine evC_ok hcl x fc hx lf fr _ _ _ _ E f w (Exit.then (Tn P x Q) Q) hbody p1 p2 r hs pnOk_then (panicOk_then hpk) hlp (fun F fr' th' f' w' a1 a2 a2' a3 a4 a5 => ?_) (fun i F fr' th' f' w' a1 a2 _ a3 a4 a5 => ?_) (fun F fr' th' f' w' a1 a2 _ a3 a4 a5 => ?_)
      · show Tn P x Q (mk n f') w'
        unfold headQ at a5
        cases hl : getL fr' S.i0 with
        | none => rw [hl] at a5; exact a5.elim
        | some l =>
          rw [hl] at a5
          simp only at a5
          obtain ⟨us, g1, g2⟩ := getL_agr a2 hl
          have hmt : outQ ⟨S.c.i, [S.c.i], S.c.q⟩ (fun _ ys => q k ys Ks) 0 l th' := a5
          have hc2 : okC ⟨S.c.i, [S.c.i], S.c.q⟩ = true := by
            simp only [okC, Bool.and_eq_true] at hc
            simp [okC, hc.1, Nat.ble_eq, kLast_le]
          obtain ⟨s, ys, G, e1, e2, e3, e4, e5, e6⟩ := outQ_ok hc2 hmt a3 g1 r a1.p
          simp only [List.getElem?_cons_zero, Option.some.injEq] at e1
          subst e1
          exact (lc_ind hc h0 hcl hx hlp hb k).2 ys Ks e2 e3 G h0' L us w0 w' f' Q e5 e6 a4 g2 hp hpk fun e s q' ys' G' us' f'' w'' b1 b2 b3 b4 b5 b6 b7 b8 b9 => hout e s q' ys' G' us' f'' w'' b1 b2 b3 b4 (e4.trans b5) b6 b7 b8 b9
      · exact out (some i) F fr' th' f' w' a1 a2 a3 a4 a5
      · exact out none F fr' th' f' w' a1 a2 a3 a4 a5⟩
/-- Some limit does. -/
theorem lc_lim [Gd] {n : Nat} {x : Code} {S : LCt} {q : Nat → QF} (h : ∀ k, LcOk P n x (S.at (q k))) : LcOk P n x (S.at fun xs Ks => ∃ k, q k xs Ks) :=
  ⟨(h 0).1, fun xs Ks hw ⟨k, hq⟩ => (h k).2 xs Ks hw hq⟩
theorem q_lim [Gd] {i : Nat} {I : SPt} {O : List SPt} {q : Nat → QF} (h : ∀ k, QOk P i ⟨I, O, q k⟩) : QOk P i ⟨I, O, fun xs Ks => ∃ k, q k xs Ks⟩ := fun xs Ks hw ⟨k, hq⟩ => h k xs Ks hw hq
end Go.Va
