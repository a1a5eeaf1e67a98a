/- Rows of operations. No program. -/
import Derived.Test.YtojhofdndohhdaaGreatVm
import Derived.LoopN
set_option linter.unusedVariables false
set_option linter.unusedSectionVars false
set_option linter.unusedSimpArgs false
noncomputable section
namespace Go.Va
open Go Go.Sh
variable [Vl]
variable {P : Program}

/-! ### Ways -/
def beqB (a b : Bool) : Bool := match a with
  | true => b
  | false => b.not
theorem beqB_t {a b : Bool} (h : beqB a b = true) : a = b := by cases a <;> cases b <;> first | rfl | cases h
/-- The lesser or greater of two: what decides which it is. -/
def mxC (a : SE) : Option (SC × SE × SE) := match a with
  | .mn x y => some (.le x y, x, y)
  | .mx x y => some (.le x y, y, x)
  | _ => none
theorem mxC_ok {a : SE} {p : SC × SE × SE} (h : mxC a = some p) : a.ev = (bif p.1.ev then p.2.1 else p.2.2).ev := by
  cases a <;> simp only [mxC] at h <;> try (cases h; done)
  case mn x y =>
    simp only [Option.some.injEq] at h; subst h
    simp only [SC.ev, SE.ev]
    by_cases hxy : x.ev ≤ y.ev
    · simp only [hxy, decide_true, cond_true]; exact Int.min_eq_left hxy
    · simp only [hxy, decide_false, cond_false]; exact Int.min_eq_right (by omega)
  case mx x y =>
    simp only [Option.some.injEq] at h; subst h
    simp only [SC.ev, SE.ev]
    by_cases hxy : x.ev ≤ y.ev
    · simp only [hxy, decide_true, cond_true]; exact Int.max_eq_right hxy
    · simp only [hxy, decide_false, cond_false]; exact Int.max_eq_left (by omega)
def nrmK (k : IntKind) (x : SE) (l h : Int) : FV := match x with
  | .c n => .int k n
  | x => .sy k x l h
theorem nrmK_den {E : Env} {k : IntKind} {a x : SE} {l h : Int} {v : Value} (e : a.ev = x.ev) (hd : den E (.sy k a l h) = some v) : den E (nrmK k x l h) = some v := by
  obtain ⟨h1, h2⟩ := den_sy hd
  subst h2
  have : den E (.sy k x l h) = some (.int k a.ev) := by simp only [den]; rw [e]; rw [e] at h1; exact if_pos h1
  cases x with
  | c n => simp only [nrmK, den]; rw [e]; rfl
  | _ => exact this
def rsl (x : FV) (th : TH) (K : FV → TH → Prop) : Prop := match x with
  | .sb b => match lkC Vl.f b with
   | some t => K (.bool t) th
   | none => match th.scr with
    | .f c r => b.ev = c ∧ K (.bool c) (th.scrp r)
    | .s l r => (b.ev = true → K (.bool true) (th.scrp l)) ∧ (b.ev = false → K (.bool false) (th.scrp r))
    | .auto q l => match q with
      | .f c r => bif beqB b.ev c then K (.bool c) (th.scrp (.auto r (b :: l))) else False
      | q => K (.bool b.ev) (th.scrp (.auto q (b :: l)))
    | _ => False
  | .sy k a l h => match mxC a with
   | some p => match lkC Vl.f p.1 with
    | some t => K (nrmK k (bif t then p.2.1 else p.2.2) l h) th
    | none => match th.scr with
      | .auto q m => K (nrmK k (bif p.1.ev then p.2.1 else p.2.2) l h) (th.scrp (.auto q (p.1 :: m)))
      | _ => K (.sy k a l h) th
   | none => match th.scr with
    | .v c r => a.ev = c ∧ K (.int k c) (th.scrp r)
    | .w c lo hi r => a.ev = c.ev ∧ lo ≤ c.ev ∧ c.ev ≤ hi ∧ K (.sy k c lo hi) (th.scrp r)
    | .n r => K (.sy k a l h) (th.scrp r)
    | .auto q m => match q with
      | .v c r => bif ieq a.ev c then K (.int k c) (th.scrp (.auto r (.eq a (.c c) :: m))) else False
      | .w c lo hi r => bif ieq a.ev c.ev && ile lo c.ev && ile c.ev hi then K (.sy k c lo hi) (th.scrp (.auto r (.le (.c lo) c :: .le c (.c hi) :: .eq a c :: m))) else False
      | .n r => K (.sy k a l h) (th.scrp (.auto r m))
      | _ => K (.sy k a l h) th
    | _ => K (.sy k a l h) th
  | x => K x th
theorem rsl_any {x : FV} {th : TH} {K : FV → TH → Prop} (hx : rsl x th K) : ∃ y s, (∀ E v, den E x = some v → den E y = some v) ∧ K y (th.scrp s) := by
  have bk : ∀ {c : Bool} {R : Prop}, (bif c then R else False) → c = true ∧ R := fun {c R} h => by cases c with | true => exact ⟨rfl, h⟩ | false => exact h.elim
  have same : ∀ s, K x (th.scrp s) → ∃ y s, (∀ E v, den E x = some v → den E y = some v) ∧ K y (th.scrp s) := fun s hk => ⟨x, s, fun _ _ h => h, hk⟩
  cases x <;> try (exact same th.scr hx)
  case sy k a l u =>
    have known : ∀ {c : Int} {q : Scr}, a.ev = c → K (.int k c) (th.scrp q) → ∃ y s, (∀ E v, den E (.sy k a l u) = some v → den E y = some v) ∧ K y (th.scrp s) := fun {c q} e hk => by
      subst e
      exact ⟨.int k a.ev, q, fun F u' h => by rw [(den_sy h).2]; rfl, hk⟩
    have named : ∀ {c : SE} {lo hi : Int} {q : Scr}, a.ev = c.ev → lo ≤ c.ev → c.ev ≤ hi → K (.sy k c lo hi) (th.scrp q) → ∃ y s, (∀ E v, den E (.sy k a l u) = some v → den E y = some v) ∧ K y (th.scrp s) := fun {c lo hi q} e h1 h2 hk => by
      refine ⟨.sy k c lo hi, q, fun F u' h => ?_, hk⟩
      rw [(den_sy h).2, e]
      simp only [den]; exact if_pos ⟨h1, h2⟩
    simp only [rsl] at hx
    cases hm : mxC a with
    | some p =>
      rw [hm] at hx
      simp only at hx
      have hp := mxC_ok hm
      cases hl : lkC Vl.f p.1 with
      | some t =>
        rw [hl] at hx
        have := lkC_ok Vl.ok hl
        subst this
        exact ⟨_, th.scr, fun F u' h => nrmK_den hp h, hx⟩
      | none =>
        rw [hl] at hx
        simp only at hx
        cases hs : th.scr with
        | auto q m => rw [hs] at hx; exact ⟨_, _, fun F u' h => nrmK_den hp h, hx⟩
        | nil => rw [hs] at hx; exact same th.scr hx
        | f _ _ => rw [hs] at hx; exact same th.scr hx
        | s _ _ => rw [hs] at hx; exact same th.scr hx
        | u _ _ => rw [hs] at hx; exact same th.scr hx
        | v _ _ => rw [hs] at hx; exact same th.scr hx
        | w _ _ _ _ => rw [hs] at hx; exact same th.scr hx
        | n _ => rw [hs] at hx; exact same th.scr hx
    | none =>
    rw [hm] at hx
    simp only at hx
    cases hs : th.scr with
    | v c q => rw [hs] at hx; exact known hx.1 hx.2
    | w c lo hi q => rw [hs] at hx; exact named hx.1 hx.2.1 hx.2.2.1 hx.2.2.2
    | n q => rw [hs] at hx; exact same q hx
    | auto q m =>
      rw [hs] at hx
      cases q with
      | v c q => obtain ⟨h1, hk⟩ := bk hx; exact known (ieq_t' h1) hk
      | w c lo hi q =>
        obtain ⟨h1, hk⟩ := bk hx
        simp only [Bool.and_eq_true] at h1
        exact named (ieq_t' h1.1.1) (ile_t h1.1.2) (ile_t h1.2) hk
      | n q => exact same _ hx
      | nil => exact same th.scr hx
      | f _ _ => exact same th.scr hx
      | s _ _ => exact same th.scr hx
      | auto _ _ => exact same th.scr hx
      | u _ _ => exact same th.scr hx
    | nil => rw [hs] at hx; exact same th.scr hx
    | f _ _ => rw [hs] at hx; exact same th.scr hx
    | s _ _ => rw [hs] at hx; exact same th.scr hx
    | u _ _ => rw [hs] at hx; exact same th.scr hx
  rename_i b
  have tell : ∀ {c : Bool} {q : Scr}, b.ev = c → K (.bool c) (th.scrp q) → ∃ y s, (∀ E v, den E (.sb b) = some v → den E y = some v) ∧ K y (th.scrp s) := fun {c q} e hk => by
    subst e
    exact ⟨.bool b.ev, q, fun F u h => h, hk⟩
  simp only [rsl] at hx
  cases hl : lkC Vl.f b with
  | some t =>
    rw [hl] at hx
    have := lkC_ok Vl.ok hl
    subst this
    exact ⟨.bool b.ev, th.scr, fun F u h => h, hx⟩
  | none =>
  rw [hl] at hx
  cases hs : th.scr with
  | nil => rw [hs] at hx; exact hx.elim
  | v _ _ => rw [hs] at hx; exact hx.elim
  | w _ _ _ _ => rw [hs] at hx; exact hx.elim
  | n _ => rw [hs] at hx; exact hx.elim
  | u _ _ => rw [hs] at hx; exact hx.elim
  | auto q l =>
    rw [hs] at hx
    cases q with
    | f c q => obtain ⟨h1, hk⟩ := bk hx; exact tell (beqB_t h1) hk
    | nil => exact tell rfl hx
    | v _ _ => exact tell rfl hx
    | w _ _ _ _ => exact tell rfl hx
    | n _ => exact tell rfl hx
    | s _ _ => exact tell rfl hx
    | auto _ _ => exact tell rfl hx
    | u _ _ => exact tell rfl hx
  | f c q => rw [hs] at hx; exact tell hx.1 hx.2
  | s l q =>
    rw [hs] at hx
    cases hb : b.ev with
    | true => exact tell hb (hx.1 hb)
    | false => exact tell hb (hx.2 hb)
theorem rsl_ok {E : Env} {th : TH} {h0 h : Heap} {L : List HP} (r : Rep E th h0 h L) {x : FV} {v : Value} (hd : den E x = some v) {K : FV → TH → Prop} (hx : rsl x th K) : ∃ y th', den E y = some v ∧ Rep E th' h0 h L ∧ K y th' := by
  obtain ⟨y, s, h1, h2⟩ := rsl_any hx
  exact ⟨y, _, h1 E v hd, r.scrp s, h2⟩

/-! ### Frames -/
def AgF (E : Env) (n : Nat) (fr : Fr) (f : Nat → Value) : Prop := ∀ t x, fr.get t = some x → t < n ∧ den E x = some (f t)
theorem AgF.mono {E F : Env} {n : Nat} {fr : Fr} {f : Nat → Value} (h : AgF E n fr f) (he : E.Le F) : AgF F n fr f := fun t x hx => ⟨(h t x hx).1, den_mono he (h t x hx).2⟩
theorem AgF.fl (m : Nat) {E : Env} {n : Nat} {fr : Fr} {f : Nat → Value} (h : AgF E n fr f) : AgF E n (fr.fl m) f := fun t x hx => h t x (Fr.fl_get hx)
theorem AgF.put {E : Env} {n : Nat} {fr : Fr} {f : Nat → Value} (h : AgF E n fr f) {d : Nat} {x : FV} {v : Value} (hd : d < n) (hx : den E x = some v) : AgF E n (fr.put d x) (upd f d v) := fun t y hy => by
  by_cases ht : t = d
  · subst ht
    rw [Fr.get_eq] at hy; simp only [Option.some.injEq] at hy; subst hy
    exact ⟨hd, by simp [upd, hx]⟩
  · rw [Fr.get_ne _ _ ht] at hy
    refine ⟨(h t y hy).1, ?_⟩
    have : Nat.beq t d = false := beq_of_ne ht
    simp only [upd, this, cond_false]
    exact (h t y hy).2
theorem AgF.ago {E : Env} {n : Nat} {fr : Fr} {f : Nat → Value} (h : AgF E n fr f) : AgO E fr (evf n f) := fun y z v hc hv => by
  cases y with
  | tmp t =>
    simp only [c1, Option.some.injEq] at hc; subst hc
    obtain ⟨h1, h2⟩ := h t v hv
    simp only [evf, blt_of h1, cond_true]; exact h2
  | const u =>
    simp only [c1] at hc
    cases ho : ofV u with
    | none => rw [ho] at hc; cases hc
    | some x =>
      rw [ho] at hc; simp only [Option.some.injEq] at hc; subst hc
      simp only [evO, Option.some.injEq] at hv; subst hv
      exact ofV_den E ho
  | func g =>
    simp only [c1, Option.some.injEq] at hc; subst hc
    simp only [evO, Option.some.injEq] at hv; subst hv
    rfl
  | global g => cases hc

/-! ### A row in the order of the text -/
structure CO where
  dst : Option Nat
  m : MOp
  g : Option (Nat × Bool)
inductive G3 where
  | go
  | skip
  | bad
def gst (fr : Fr) : Option (Nat × Bool) → G3
  | none => .go
  | some p => match fr.get p.1 with
    | some v => match v with
      | .bool b => match b with
        | true => (match p.2 with
          | true => .go
          | false => .skip)
        | false => (match p.2 with
          | true => .skip
          | false => .go)
      | .tup l => match l with
        | [] => .skip
        | _ => .bad
      | _ => .bad
    | none => .bad
def putO (fr : Fr) (d : Option Nat) (x : FV) : Fr := match d with
  | some d => fr.put d x
  | none => fr
def dOk (n : Nat) : Option Nat → Bool
  | some d => Nat.blt d n
  | none => true
def copN (P : Program) (o : Oper) : MOp := match cop P o with
  | some m => m
  | none => .no
def cO (P : Program) (n : Nat) (ops : Array Oper) (o : Oper) : Option CO := bif dOk n o.dst then match o.guard with
    | none => some ⟨o.dst, copN P o, none⟩
    | some (j, want) => match (ops[j]?).bind (·.dst) with
      | some d => bif Nat.blt d n then some ⟨o.dst, copN P o, some (d, want)⟩ else none
      | none => none
  else none
def cOL (P : Program) (n : Nat) (ops : Array Oper) : List Oper → Option (List CO)
  | [] => some []
  | o :: r => match cO P n ops o, cOL P n ops r with
    | some c, some l => some (c :: l)
    | _, _ => none
abbrev KF := Fr → TH → Prop
abbrev SF := Cl → Fr → TH → KF → Prop
def sN : SF := fun _ fr th K => K fr th
def sBad : SF := fun _ _ _ _ => False
def sQ (d : Option Nat) (q : Fr → Tr TO → Option FV) (r : SF) : SF := fun cl fr th K => match q fr th.t with
  | some x => r cl (putO fr d x) th K
  | none => False
def sC (d : Option Nat) (q : Fr → Tr TO → Option FV) (r : SF) : SF := fun cl fr th K => match q fr th.t with
  | some x => rsl x th fun y th => r cl (putO fr d y) th K
  | none => False
def sX (d : Option Nat) (x : Fr → TH → (FV → TH → Prop) → Prop) (r : SF) : SF := fun cl fr th K => x fr th fun v th => r cl (putO fr d v) th K
def sK (d : Option Nat) (f : Opd) (l : List Opd) (r : SF) : SF := fun cl fr th K => xCall cl f l fr th fun v th => r cl (putO fr d v) th K
/-- A slice of a string: of bounds that are known, or of variables. -/
def sS (d : Option Nat) (x : Opd) (lo hi : Option Opd) (r : SF) : SF := fun cl fr th K => match qSlcS x lo hi fr th.t with
  | some v => r cl (putO fr d v) th K
  | none => xSlcS x lo hi fr th fun v th => r cl (putO fr d v) th K
def sG (g : Nat) (w : Bool) (d : Option Nat) (s : SF → SF) (r : SF) : SF := fun cl fr th K => match gst fr (some (g, w)) with
  | .go => s r cl fr th K
  | .skip => r cl (putO fr d undF) th K
  | .bad => False
def mstep (d : Option Nat) (m : MOp) (r : SF) : SF := match m with
  | .mov x => sQ d (qMov x) r
  | .pick c a b => sQ d (qPick c a b) r
  | .nilc x => sQ d (qNilc x) r
  | .bin op x y => sC d (qBin op x y) r
  | .eqb kd neg x y => sQ d (qEqb kd neg x y) r
  | .eqs neg e x y => sC d (qEqs neg e x y) r
  | .not x => sC d (qNot x) r
  | .neg x => sQ d (qNeg x) r
  | .conv k x => sQ d (qConv k x) r
  | .mkf f a b => sQ d (qMkf f a b) r
  | .slc k x lo hi mx => sQ d (qSlc k x lo hi mx) r
  | .slcS x lo hi => sS d x lo hi r
  | .slcA n k x lo hi mx => sQ d (qSlcA n k x lo hi mx) r
  | .fadr off x => sQ d (qFadr off x) r
  | .fld off k agg x => sQ d (qFld off k agg x) r
  | .iadr k x i => sQ d (qIadr k x i) r
  | .iadrA n k x i => sQ d (qIadrA n k x i) r
  | .idxS x i => sQ d (qIdxS x i) r
  | .idxA n k agg x i => sQ d (qIdxA n k agg x i) r
  | .ext x i => sQ d (qExt x i) r
  | .ifc t x => sQ d (qIfc t x) r
  | .bld z pl ps => sQ d (qBld z pl ps) r
  | .ld k agg x => sQ d (qLd k agg x) r
  | .lenS x => sQ d (qLenS x) r
  | .lenT x => sQ d (qLenT x) r
  | .mn x y => sC d (qMn x y) r
  | .mx x y => sC d (qMx x y) r
  | .alc z => sX d (xAlc z) r
  | .box x => sX d (xBox x) r
  | .st k a v => sX d (xSt k a v) r
  | .bsl _ n z pl ps => sX d (xBsl n z pl ps) r
  | .mks _ b z l c => sX d (xMks b z l c) r
  | .app k b s x => sX d (xApp k b s x) r
  | .call f l => sK d f l r
  | .mkm k x => sX d (xMkm k x) r
  | .mup k x i v => sX d (xMup k x i v) r
  | .lkp k z ok x i => sC d (qLkp k z ok x i) r
  | .lenM x => sQ d (qLenM x) r
  | .bs0 => sX d (fun _ th K => xBs0 th K) r
  | .capS x => sQ d (qCapS x) r
  | .ent x => sQ d (qEnt x) r
  | .rng x => sX d (xRng x) r
  | .nxt x => sX d (xNxt x) r
  | .apc k b z s n => sX d (xApc k b z s n) r
  | _ => sBad
def cstep (c : CO) (r : SF) : SF := match c.g with
  | none => mstep c.dst c.m r
  | some p => sG p.1 p.2 c.dst (mstep c.dst c.m) r
def evS : List CO → SF
  | [] => sN
  | c :: r => cstep c (evS r)
theorem sQ_go {d : Option Nat} {q : Fr → Tr TO → Option FV} {r : SF} {cl : Cl} {fr : Fr} {th : TH} {K : KF} (h : sQ d q r cl fr th K) : ∃ x, q fr th.t = some x ∧ r cl (putO fr d x) th K := by
  unfold sQ at h
  cases hq : q fr th.t with
  | none => rw [hq] at h; exact h.elim
  | some x => rw [hq] at h; exact ⟨x, rfl, h⟩
theorem sC_go {d : Option Nat} {q : Fr → Tr TO → Option FV} {r : SF} {cl : Cl} {fr : Fr} {th : TH} {K : KF} (h : sC d q r cl fr th K) : ∃ x, q fr th.t = some x ∧ rsl x th fun y th => r cl (putO fr d y) th K := by
  unfold sC at h
  cases hq : q fr th.t with
  | none => rw [hq] at h; exact h.elim
  | some x => rw [hq] at h; exact ⟨x, rfl, h⟩
theorem sS_go {d : Option Nat} {x : Opd} {lo hi : Option Opd} {r : SF} {cl : Cl} {fr : Fr} {th : TH} {K : KF} (h : sS d x lo hi r cl fr th K) :
    (∃ v, evQ fr th.t (.slcS x lo hi) = some v ∧ (r cl (putO fr d v) th K ∨ rsl v th fun y th => r cl (putO fr d y) th K)) ∨ evX cl fr th (.slcS x lo hi) fun v th => r cl (putO fr d v) th K := by
  unfold sS at h
  cases hq : qSlcS x lo hi fr th.t with
  | none => rw [hq] at h; exact .inr h
  | some v => rw [hq] at h; exact .inl ⟨v, hq, .inl h⟩
theorem mstep_go {d : Option Nat} {m : MOp} {r : SF} {cl : Cl} {fr : Fr} {th : TH} {K : KF} (h : mstep d m r cl fr th K) :
    (∃ x, evQ fr th.t m = some x ∧ (r cl (putO fr d x) th K ∨ rsl x th fun y th => r cl (putO fr d y) th K)) ∨ evX cl fr th m fun v th => r cl (putO fr d v) th K := by
  cases m <;> first
    | (obtain ⟨x, h1, h2⟩ := sQ_go h; exact .inl ⟨x, h1, .inl h2⟩)
    | (obtain ⟨x, h1, h2⟩ := sC_go h; exact .inl ⟨x, h1, .inr h2⟩)
    | exact sS_go h
    | exact .inr h
    | exact h.elim
theorem cstep_go {c : CO} {r : SF} {cl : Cl} {fr : Fr} {th : TH} {K : KF} (h : cstep c r cl fr th K) : match gst fr c.g with
    | .go => mstep c.dst c.m r cl fr th K
    | .skip => r cl (putO fr c.dst undF) th K
    | .bad => False := by
  unfold cstep at h
  cases hg : c.g with
  | none => rw [hg] at h; exact h
  | some p => rw [hg] at h; exact h
structure COk (P : Program) (n : Nat) (ops : Array Oper) (o : Oper) (c : CO) : Prop where
  m : c.m ≠ .no → cop P o = some c.m
  d : c.dst = o.dst
  lt : ∀ d, o.dst = some d → d < n
  g : (o.guard = none ∧ c.g = none) ∨ ∃ j want d, o.guard = some (j, want) ∧ (ops[j]?).bind (·.dst) = some d ∧ d < n ∧ c.g = some (d, want)
theorem copN_ok {o : Oper} (h : copN P o ≠ .no) : cop P o = some (copN P o) := by
  unfold copN at *
  cases hm : cop P o with
  | none => rw [hm] at h; exact absurd rfl h
  | some m => rfl
theorem cO_ok {n : Nat} {ops : Array Oper} {o : Oper} {c : CO} (h : cO P n ops o = some c) : COk P n ops o c := by
  unfold cO at h
  cases hd : dOk n o.dst with
  | false => rw [hd] at h; cases h
  | true =>
    rw [hd] at h
    simp only [cond_true] at h
    have hlt : ∀ d, o.dst = some d → d < n := fun d e => by rw [e] at hd; exact blt_t hd
    cases hg : o.guard with
    | none => rw [hg] at h; simp only [Option.some.injEq] at h; subst h; exact ⟨copN_ok, rfl, hlt, .inl ⟨hg, rfl⟩⟩
    | some p =>
      obtain ⟨j, want⟩ := p
      rw [hg] at h
      simp only at h
      cases hj : (ops[j]?).bind (·.dst) with
      | none => rw [hj] at h; cases h
      | some d =>
        rw [hj] at h
        simp only at h
        cases hb : Nat.blt d n with
        | false => rw [hb] at h; cases h
        | true => rw [hb] at h; simp only [cond_true, Option.some.injEq] at h; subst h; exact ⟨copN_ok, rfl, hlt, .inr ⟨j, want, d, hg, hj, blt_t hb, rfl⟩⟩
theorem evQ_no {fr : Fr} {th : Tr TO} {m : MOp} {x : FV} (h : evQ fr th m = some x) : m ≠ .no := fun e => by subst e; cases h
theorem evX_no {cl : Cl} {fr : Fr} {th : TH} {m : MOp} {K : FV → TH → Prop} (h : evX cl fr th m K) : m ≠ .no := fun e => by subst e; exact h
theorem cOL_cons {n : Nat} {ops : Array Oper} {o : Oper} {r : List Oper} {l : List CO} (h : cOL P n ops (o :: r) = some l) : ∃ c l', cO P n ops o = some c ∧ cOL P n ops r = some l' ∧ l = c :: l' := by
  simp only [cOL] at h
  cases h1 : cO P n ops o with
  | none => rw [h1] at h; cases h
  | some c =>
    cases h2 : cOL P n ops r with
    | none => rw [h1, h2] at h; cases h
    | some l' => rw [h1, h2] at h; simp only [Option.some.injEq] at h; exact ⟨c, l', rfl, rfl, h.symm⟩
/-- What the guard says. -/
theorem gst_go {E : Env} {n : Nat} {ops : Array Oper} {o : Oper} {c : CO} {fr : Fr} {f : Nat → Value} (hc : COk P n ops o c) (ha : AgF E n fr f) (h : gst fr c.g = .go) : Region.wanted o (yielded ops (mk n f).tmps) = true := by
  rcases hc.g with ⟨h1, h2⟩ | ⟨j, want, d, h1, h2, h3, h4⟩
  · exact wanted_none h1
  · rw [h4] at h
    simp only [gst] at h
    cases hv : fr.get d with
    | none => rw [hv] at h; cases h
    | some v =>
      rw [hv] at h
      obtain ⟨_, h5⟩ := ha d v hv
      cases v <;> try (cases h; done)
      case bool b =>
        simp only [den, Option.some.injEq] at h5
        refine wanted_yes h1 h2 (blt_of h3) ?_
        rw [← h5]
        cases b <;> cases want <;> first | rfl | cases h
      case tup l => cases l <;> cases h
theorem gst_skip {E : Env} {n : Nat} {ops : Array Oper} {o : Oper} {c : CO} {fr : Fr} {f : Nat → Value} (hc : COk P n ops o c) (ha : AgF E n fr f) (h : gst fr c.g = .skip) : Region.wanted o (yielded ops (mk n f).tmps) = false := by
  rcases hc.g with ⟨h1, h2⟩ | ⟨j, want, d, h1, h2, h3, h4⟩
  · rw [h2] at h; cases h
  · rw [h4] at h
    simp only [gst] at h
    cases hv : fr.get d with
    | none => rw [hv] at h; cases h
    | some v =>
      rw [hv] at h
      obtain ⟨_, h5⟩ := ha d v hv
      cases v <;> try (cases h; done)
      case bool b =>
        simp only [den, Option.some.injEq] at h5
        refine wanted_no h1 h2 (blt_of h3) ?_
        rw [← h5]
        cases b <;> cases want <;> first | rfl | cases h
      case tup l =>
        cases l with
        | nil =>
          simp only [den, denL, Option.some.injEq] at h5
          exact wanted_undef h1 h2 (blt_of h3) (by rw [← h5]; rfl)
        | cons a r => cases h
theorem quiet_sq {E : Env} {th : TH} {h0 h : Heap} {L : List HP} {n : Nat} {fr : Fr} {f : Nat → Value} {o : Oper} {c : CO} {ops : Array Oper} {x : FV} (r : Rep E th h0 h L) (ha : AgF E n fr f) (hc : COk P n ops o c) (hx : evQ fr th.t c.m = some x) :
    Sq P (Eq h) (execOp (evf n f) o) fun v => den E x = some v := evQ_ok r ha.ago (hc.m (evQ_no hx)) hx
theorem evS_ok [Gd] {cl : Cl} (hcl : ClOk P cl) {n : Nat} {ops : Array Oper} {h0 : Heap} {L : List HP} {w0 : World} {Q : Exit → Act → World → Prop} (hp : PnOk [] Q w0 (fun _ _ => True)) : ∀ (l : List Oper) (cs : List CO) (fr : Fr) (th : TH) (K : Fr → TH → Prop) (E : Env) (f : Nat → Value) (w : World),
    cOL P n ops l = some cs → evS cs cl fr th K → AgF E n fr f → Rep E th h0 w.heap L → SameW w0 w →
    (∀ F fr' th' f' w', E.Le F → AgF F n fr' f' → Rep F th' h0 w'.heap L → SameW w0 w' → K fr' th' → Q .normal (mk n f') w') → wpList P ops Q l (mk n f) w
  | [], cs, fr, th, K, E, f, w, hc, hx, ha, r, hs, fin => by
    simp only [cOL, Option.some.injEq] at hc; subst hc
    exact stepEnd (fin E fr th f w (Env.Le.refl E) ha r hs hx)
  | o :: l, cs, fr, th, K, E, f, w, hc, hx, ha, r, hs, fin => by
    obtain ⟨c, cs', h1, h2, rfl⟩ := cOL_cons hc
    have ok := cO_ok h1
    have hx := cstep_go hx
    have next : ∀ (F : Env) (x : FV) (th' : TH) (v : Value) (w' : World), E.Le F → den F x = some v → Rep F th' h0 w'.heap L → SameW w0 w' → evS cs' cl (putO fr c.dst x) th' K →
        (∀ d, o.dst = some d → wpList P ops Q l (mk n (upd f d v)) w') ∧ (o.dst = none → wpList P ops Q l (mk n f) w') := fun F x th' v w' hle hd hr hs' hx' => by
      constructor
      · intro d hd'
        rw [ok.d, hd'] at hx'
        exact evS_ok hcl hp l cs' _ th' K F _ w' h2 hx' ((ha.mono hle).put (ok.lt d hd') hd) hr hs' fun F' fr' th2 f' w2 a b c' d' e => fin F' fr' th2 f' w2 (hle.trans a) b c' d' e
      · intro hd'
        rw [ok.d, hd'] at hx'
        exact evS_ok hcl hp l cs' _ th' K F _ w' h2 hx' (ha.mono hle) hr hs' fun F' fr' th2 f' w2 a b c' d' e => fin F' fr' th2 f' w2 (hle.trans a) b c' d' e
    cases hg : gst fr c.g with
    | bad => rw [hg] at hx; exact hx.elim
    | skip =>
      rw [hg] at hx
      have hw := gst_skip ok ha hg
      obtain ⟨n1, n2⟩ := next E undF th undef w (Env.Le.refl E) (den_und E) r hs hx
      cases hd : o.dst with
      | none => exact stepSkip0 hw hd (n2 hd)
      | some d => exact stepSkip hw hd (n1 d hd)
    | go =>
      rw [hg] at hx
      have hw := gst_go ok ha hg
      simp only at hx
      rcases mstep_go hx with ⟨x, hq, hx⟩ | hx
      · have sq := quiet_sq r ha ok hq
        obtain ⟨v, hv1, hv2⟩ := sq
        obtain ⟨y, th', g1, g2, g3⟩ : ∃ y th', den E y = some v ∧ Rep E th' h0 w.heap L ∧ evS cs' cl (putO fr c.dst y) th' K := by
          rcases hx with hx | hx
          · exact ⟨x, th, hv2, r, hx⟩
          · exact rsl_ok r hv2 hx
        obtain ⟨n1, n2⟩ := next E y th' v w (Env.Le.refl E) g1 g2 hs g3
        have sq' : Sq P (Eq w.heap) (execOp (evf n f) o) (fun u => u = v) := ⟨v, hv1, rfl⟩
        cases hd : o.dst with
        | none =>
          refine list_of_upon hw ?_
          rw [hv1 w rfl, Oper.upon_value, hd, mk_put_none]
          exact n2 hd
        | some d => exact stepQ rfl sq' rfl hw hd fun u hu => by rw [hu]; exact n1 d hd
      · have sx := evX_ok hcl r ha.ago (ok.m (evX_no hx)) hx
        cases hd : o.dst with
        | none =>
          refine stepU rfl sx rfl hw hd (fun v h' w' e1 e2 ⟨F, x, th', g1, g2, g3, g4⟩ => ?_) hs trivial
          subst e1
          exact (next F x th' v w' g1 g2 g3 (hs.trans e2) g4).2 hd
        | some d =>
          refine stepX rfl sx rfl hw hd (fun v h' w' e1 e2 ⟨F, x, th', g1, g2, g3, g4⟩ => ?_) hs trivial
          subst e1
          exact (next F x th' v w' g1 g2 g3 (hs.trans e2) g4).1 d hd
end Go.Va
