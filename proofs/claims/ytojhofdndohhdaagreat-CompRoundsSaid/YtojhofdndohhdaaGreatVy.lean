/- Fast forms of rows, regions, code, functions. No program. -/
import Derived.Test.YtojhofdndohhdaaGreatVz
set_option linter.unusedVariables false
set_option linter.unusedSectionVars false
set_option linter.unusedSimpArgs false
noncomputable section
namespace Go.Va
open Go Go.Sh
variable [Vl]

/-! ### Rows -/
abbrev XF := Cl → Fr → TH → (FV → TH → Prop) → Prop
def fX (d : Nat) (x : Fr → TH → (FV → TH → Prop) → Prop) (r : SF) : SF := fun cl fr th K => x fr th fun v th => r cl (.cons d v fr) th K
def fX0 (x : Fr → TH → (FV → TH → Prop) → Prop) (r : SF) : SF := fun cl fr th K => x fr th fun _ th => r cl fr th K
def xCallF (f : Opd) (l : List Opd) : XF := fun cl fr th K => oF False (fun f => Option.rec (motive := fun _ => Prop) False (fun l => cl f l th K) (evLF fr l)) fr f
theorem xCallF_eq (f : Opd) (l : List Opd) (cl : Cl) (fr : Fr) (th : TH) (K : FV → TH → Prop) : xCallF f l cl fr th K = xCall cl f l fr th K := by
  unfold xCallF xCall
  rw [oF_eq]
  cases evO fr f with
  | none => rfl
  | some f => simp only [evLF_eq]; cases evL fr l <;> rfl
def fK (d : Nat) (f : Opd) (l : List Opd) (r : SF) : SF := fun cl fr th K => xCallF f l cl fr th fun v th => r cl (.cons d v fr) th K
def fK0 (f : Opd) (l : List Opd) (r : SF) : SF := fun cl fr th K => xCallF f l cl fr th fun _ th => r cl fr th K
theorem fK_eq (d : Nat) (f : Opd) (l : List Opd) (r : SF) : fK d f l r = sK (some d) f l r := by
  funext cl fr th K; exact xCallF_eq _ _ _ _ _ _
theorem fK0_eq (f : Opd) (l : List Opd) (r : SF) : fK0 f l r = sK none f l r := by
  funext cl fr th K; exact xCallF_eq _ _ _ _ _ _
def xStF (k : Nat) (a v : Opd) (fr : Fr) (th : TH) (K : FV → TH → Prop) : Prop := oF False (fun a => oF False (fun v => elP False (fun i o => stF k i o v th K) a) fr v) fr a
theorem xStF_eq (k : Nat) (a v : Opd) : xStF k a v = xSt k a v := by
  funext fr th K
  unfold xStF xSt
  rw [oF_eq]
  cases evO fr a with
  | none => rfl
  | some a =>
    simp only
    rw [oF_eq]
    cases evO fr v with
    | none => rfl
    | some v => simp only; rw [elP_eq]; cases a <;> rfl
def gateF (fr : Fr) (g : Nat) (w : Bool) (go skip : Prop) : Prop := Option.rec (motive := fun _ => Prop) False (fun v => elB (match gst fr (some (g, w)) with
  | .go => go
  | .skip => skip
  | .bad => False) (fun b => Bool.rec (motive := fun _ => Prop) (Bool.rec (motive := fun _ => Prop) go skip w) (Bool.rec (motive := fun _ => Prop) skip go w) b) v) (fr.get g)
theorem gateF_eq (fr : Fr) (g : Nat) (w : Bool) (go skip : Prop) : gateF fr g w go skip = match gst fr (some (g, w)) with
  | .go => go
  | .skip => skip
  | .bad => False := by
  unfold gateF
  simp only [gst]
  cases fr.get g with
  | none => rfl
  | some v =>
    simp only
    rw [elB_eq]
    cases v <;> try rfl
    rename_i b
    cases b <;> cases w <;> rfl
def fG (g : Nat) (w : Bool) (d : Option Nat) (s : SF → SF) (r : SF) : SF := fun cl fr th K => gateF fr g w (s r cl fr th K) (r cl (putO fr d undF) th K)
theorem fG_eq (g : Nat) (w : Bool) (d : Option Nat) (s : SF → SF) (r : SF) : fG g w d s r = sG g w d s r := by
  funext cl fr th K; exact gateF_eq _ _ _ _ _
def ms1 (d : Nat) (m : MOp) (r : SF) : SF := match m with
  | .mov x => fMov d x r
  | .bin op x y => fBin d op (opF op) x y r
  | .ld k agg x => fLd d k agg x r
  | .not x => fC d (qNotF x) r
  | .eqs neg e x y => fC d (qEqs neg e x y) r
  | .pick c a b => fQ d (qPickF c a b) r
  | .nilc x => fQ d (qNilcF x) r
  | .fadr off x => fQ d (qFadrF off x) r
  | .fld off k agg x => fQ d (qFldF off k agg x) r
  | .iadr k x i => fQ d (qIadrF k x i) r
  | .ext x i => fQ d (qExtF x i) r
  | .lenS x => fQ d (qLenSF x) r
  | .alc z => fX d (xAlc z) r
  | .box x => fX d (xBox x) r
  | .st k a v => fX d (xStF k a v) r
  | .bsl _ n z pl ps => fX d (xBsl n z pl ps) r
  | .mks _ b z l c => fX d (xMks b z l c) r
  | .app k b s x => fX d (xApp k b s x) r
  | .call f l => fK d f l r
  | m => mstep (some d) m r
theorem ms1_eq (d : Nat) (m : MOp) (r : SF) : ms1 d m r = mstep (some d) m r := by
  cases m <;> simp only [ms1, mstep, fMov_eq, fBin_eq, fLd_eq, fC_eq, fQ_eq, qNotF_eq, qPickF_eq, qNilcF_eq, qFadrF_eq, qFldF_eq, qIadrF_eq, qExtF_eq, qLenSF_eq, fK_eq, xStF_eq] <;> rfl
def ms0 (m : MOp) (r : SF) : SF := match m with
  | .st k a v => fX0 (xStF k a v) r
  | .call f l => fK0 f l r
  | m => mstep none m r
theorem ms0_eq (m : MOp) (r : SF) : ms0 m r = mstep none m r := by
  cases m <;> simp only [ms0, mstep, fK0_eq, xStF_eq] <;> rfl
def ms (d : Option Nat) (m : MOp) (r : SF) : SF := match d with
  | some d => ms1 d m r
  | none => ms0 m r
theorem ms_eq (d : Option Nat) (m : MOp) : ms d m = mstep d m := by
  funext r
  cases d with
  | none => exact ms0_eq m r
  | some d => exact ms1_eq d m r
def csF (c : CO) (r : SF) : SF := match c.g with
  | none => ms c.dst c.m r
  | some p => fG p.1 p.2 c.dst (ms c.dst c.m) r
def evSF : List CO → SF
  | [] => sN
  | c :: r => csF c (evSF r)
theorem evSF_eq : ∀ l, evSF l = evS l
  | [] => rfl
  | c :: r => by
    rw [evSF, evS, evSF_eq r, csF, cstep]
    cases c.g with
    | none => simp only [ms_eq]
    | some p => simp only [fG_eq, ms_eq]

/-! ### Rows whose temporaries are bound -/
def hT (i : Nat) (k : HK) : SF := fun cl fr th K => Option.rec (motive := fun _ => Prop) False (fun v => k v cl fr th K) (fr.get i)
def hB (op : BinOp) (f : OpI) (a b : FV) (k : HK) : SF := fun cl fr th K => bK op f a b th fun v th => k v cl fr th K
def hB2 (op : BinOp) (f : OpI) (x y : Opd) (k : HK) : SF := fun cl fr th K => oF False (fun a => oF False (fun b => bK op f a b th fun v th => k v cl fr th K) fr y) fr x
def hL (n : Nat) (agg : Bool) (a : FV) (k : HK) : SF := fun cl fr th K => ldK False (fun v => k v cl fr th K) n agg th.t a
def hL2 (n : Nat) (agg : Bool) (x : Opd) (k : HK) : SF := fun cl fr th K => oF False (ldK False (fun v => k v cl fr th K) n agg th.t) fr x
def hF (off : Nat) (a : FV) (k : HK) : SF := fun cl fr th K => elP False (fun i o => k (.ptr i (Nat.add o off)) cl fr th K) a
def hE (i : Nat) (a : FV) (k : HK) : SF := fun cl fr th K => elT False (fun l => Option.rec (motive := fun _ => Prop) False (fun v => k v cl fr th K) (hdF (dropF i l))) a
def hI (n : Nat) (a b : FV) (k : HK) : SF := fun cl fr th K => Option.rec (motive := fun _ => Prop) False (fun v => k v cl fr th K) (iadrK n a b)
def hN (a : FV) (k : HK) : SF := fun cl fr th K => Option.rec (motive := fun _ => Prop) False (fun v => rslF v th fun y th => k y cl fr th K) (elB (notF a) (fun b => some (.bool (notB b))) a)
def hW (n : Nat) (a v : FV) (k : HK) : SF := fun cl fr th K => elP False (fun i o => stF n i o v th fun x th => k x cl fr th K) a
def hW2 (n : Nat) (a v : Opd) (k : HK) : SF := fun cl fr th K => xStF n a v fr th fun x th => k x cl fr th K
def hJ (f : FV) (l : List FV) (k : HK) : SF := fun cl fr th K => cl f l th fun v th => k v cl fr th K
def hJ2 (f : Opd) (l : List Opd) (k : HK) : SF := fun cl fr th K => xCallF f l cl fr th fun v th => k v cl fr th K
def hQF (q : QF) (k : HK) : SF := fun cl fr th K => Option.rec (motive := fun _ => Prop) False (fun v => k v cl fr th K) (q fr th.t)
def hCF (q : QF) (k : HK) : SF := fun cl fr th K => Option.rec (motive := fun _ => Prop) False (fun v => rslF v th fun y th => k y cl fr th K) (q fr th.t)
theorem hT_eq (i : Nat) (k : HK) : hT i k = hQ (fun fr th => evQ fr th (.mov (.t i))) k := by
  funext cl fr th K
  show Option.rec (motive := fun _ => Prop) False (fun v => k v cl fr th K) (fr.get i) = _
  unfold hQ
  show _ = match fr.get i with
    | some x => k x cl fr th K
    | none => False
  cases fr.get i <;> rfl
theorem hB2_eq (op : BinOp) (x y : Opd) (k : HK) : hB2 op (opF op) x y k = hC (qBin op x y) k := by
  funext cl fr th K
  unfold hB2 hC qBin o2
  rw [oF_eq]
  cases evO fr x with
  | none => rfl
  | some a =>
    simp only
    rw [oF_eq]
    cases evO fr y with
    | none => rfl
    | some b => simp only [bK_eq]; cases binF op a b <;> rfl
theorem hB_eq (op : BinOp) (a b : FV) (k : HK) : hB op (opF op) a b k = hC (qBin op (.c a) (.c b)) k := by
  rw [← hB2_eq]; rfl
theorem hL2_eq (n : Nat) (agg : Bool) (x : Opd) (k : HK) : hL2 n agg x k = hQ (fun fr th => evQ fr th (.ld n agg x)) k := by
  funext cl fr th K
  unfold hL2 hQ
  show _ = match o1 fr x (ldF th.t n agg) with
    | some x => k x cl fr th K
    | none => False
  unfold o1
  rw [oF_eq]
  cases evO fr x with
  | none => rfl
  | some v => simp only [ldK_eq]; cases ldF th.t n agg v <;> rfl
theorem hL_eq (n : Nat) (agg : Bool) (a : FV) (k : HK) : hL n agg a k = hQ (fun fr th => evQ fr th (.ld n agg (.c a))) k := by
  rw [← hL2_eq]; rfl
theorem hQF_eq (m : MOp) (k : HK) : hQF (qf m) k = hQ (fun fr th => evQ fr th m) k := by
  funext cl fr th K
  show Option.rec (motive := fun _ => Prop) False (fun v => k v cl fr th K) (qf m fr th.t) = _
  unfold hQ
  rw [qf_eq]
  show _ = match evQ fr th.t m with
    | some x => k x cl fr th K
    | none => False
  cases evQ fr th.t m <;> rfl
theorem hF_eq (off : Nat) (a : FV) (k : HK) : hF off a k = hQ (fun fr th => evQ fr th (.fadr off (.c a))) k := by
  funext cl fr th K
  unfold hF hQ
  rw [elP_eq]
  cases a <;> rfl
theorem hE_eq (i : Nat) (a : FV) (k : HK) : hE i a k = hQ (fun fr th => evQ fr th (.ext (.c a) i)) k := by
  funext cl fr th K
  unfold hE hQ
  rw [elT_eq]
  cases a <;> try rfl
  rename_i l
  show Option.rec (motive := fun _ => Prop) False (fun v => k v cl fr th K) (hdF (dropF i l)) = match hd? (dropF i l) with
    | some x => k x cl fr th K
    | none => False
  rw [hdF_eq]
  cases hd? (dropF i l) <;> rfl
theorem hI_eq (n : Nat) (a b : FV) (k : HK) : hI n a b k = hQ (fun fr th => evQ fr th (.iadr n (.c a) (.c b))) k := by
  funext cl fr th K
  unfold hI hQ
  rw [iadrK_eq]
  show Option.rec (motive := fun _ => Prop) False (fun v => k v cl fr th K) (iadrF n a b) = match iadrF n a b with
    | some x => k x cl fr th K
    | none => False
  cases iadrF n a b <;> rfl
theorem hN_eq (a : FV) (k : HK) : hN a k = hC (qNot (.c a)) k := by
  funext cl fr th K
  unfold hN hC
  rw [elB_eq]
  cases a <;> try rfl
  rename_i b
  cases b <;> rfl
theorem hCF_eq (q : QF) (k : HK) : hCF q k = hC q k := by
  funext cl fr th K
  show Option.rec (motive := fun _ => Prop) False (fun v => rslF v th fun y th => k y cl fr th K) (q fr th.t) = _
  unfold hC
  cases q fr th.t with
  | none => rfl
  | some x => exact rslF_eq _ _ _
theorem hW2_eq (n : Nat) (a v : Opd) (k : HK) : hW2 n a v k = hX (fun cl fr th K => evX cl fr th (.st n a v) K) k := by
  funext cl fr th K
  unfold hW2 hX
  simp only [evX, xStF_eq]
theorem hW_eq (n : Nat) (a v : FV) (k : HK) : hW n a v k = hX (fun cl fr th K => evX cl fr th (.st n (.c a) (.c v)) K) k := by
  rw [← hW2_eq]; rfl
theorem hJ2_eq (f : Opd) (l : List Opd) (k : HK) : hJ2 f l k = hX (fun cl fr th K => evX cl fr th (.call f l) K) k := by
  funext cl fr th K
  unfold hJ2 hX
  simp only [evX, xCallF_eq]
def allC : List Opd → Option (List FV)
  | [] => some []
  | x :: r => match x with
    | .c v => match allC r with
      | some l => some (v :: l)
      | none => none
    | .t _ => none
theorem allC_ok (fr : Fr) : ∀ {l : List Opd} {vs : List FV}, allC l = some vs → evL fr l = some vs
  | [], vs, h => by simp only [allC, Option.some.injEq] at h; subst h; rfl
  | x :: r, vs, h => by
    cases x with
    | t i => cases h
    | c v =>
      simp only [allC] at h
      cases hr : allC r with
      | none => rw [hr] at h; cases h
      | some l =>
        rw [hr] at h; simp only [Option.some.injEq] at h; subst h
        simp only [evL, evO, allC_ok fr hr]
theorem hJ_eq {f : FV} {l : List Opd} {vs : List FV} (h : allC l = some vs) (k : HK) : hJ f vs k = hX (fun cl fr th K => evX cl fr th (.call (.c f) l) K) k := by
  funext cl fr th K
  unfold hJ hX
  simp only [evX, xCall, evO, allC_ok fr h]
def hstepF (m : MOp) (k : HK) : SF := match m with
  | .mov x => match x with
    | .c v => k v
    | .t i => hT i k
  | .bin op x y => match x with
    | .c a => match y with
      | .c b => hB op (opF op) a b k
      | .t j => hB2 op (opF op) (.c a) (.t j) k
    | .t i => hB2 op (opF op) (.t i) y k
  | .ld n agg x => match x with
    | .c a => hL n agg a k
    | .t i => hL2 n agg (.t i) k
  | .fadr off x => match x with
    | .c a => hF off a k
    | .t i => hQF (qFadrF off (.t i)) k
  | .ext x i => match x with
    | .c a => hE i a k
    | .t j => hQF (qExtF (.t j) i) k
  | .iadr n x i => match x with
    | .c a => match i with
      | .c b => hI n a b k
      | .t j => hQF (qIadrF n (.c a) (.t j)) k
    | .t j => hQF (qIadrF n (.t j) i) k
  | .not x => match x with
    | .c a => hN a k
    | .t i => hCF (qNotF (.t i)) k
  | .eqs neg e x y => hCF (qEqs neg e x y) k
  | .lkp d z ok x i => hCF (qLkp d z ok x i) k
  | .mn x y => hCF (qMn x y) k
  | .mx x y => hCF (qMx x y) k
  | .st n a v => match a with
    | .c a => match v with
      | .c v => hW n a v k
      | .t j => hW2 n (.c a) (.t j) k
    | .t i => hW2 n (.t i) v k
  | .call f l => match f with
    | .c f => match allC l with
      | some vs => hJ f vs k
      | none => hJ2 (.c f) l k
    | .t i => hJ2 (.t i) l k
  | .pick c a b => hQF (qPickF c a b) k
  | .nilc x => hQF (qNilcF x) k
  | .fld off n agg x => hQF (qFldF off n agg x) k
  | .lenS x => hQF (qLenSF x) k
  | .slcS x lo hi => hS x lo hi k
  | .alc z => hX (fun _ fr th K => xAlc z fr th K) k
  | .box x => hX (fun _ fr th K => xBox x fr th K) k
  | .bsl _ n z pl ps => hX (fun _ fr th K => xBsl n z pl ps fr th K) k
  | .mks _ b z l c => hX (fun _ fr th K => xMks b z l c fr th K) k
  | .app a b s x => hX (fun _ fr th K => xApp a b s x fr th K) k
  | .mkm d r => hX (fun _ fr th K => xMkm d r fr th K) k
  | .mup d x i v => hX (fun _ fr th K => xMup d x i v fr th K) k
  | .bs0 => hX (fun _ _ th K => xBs0 th K) k
  | .rng x => hX (fun _ fr th K => xRng x fr th K) k
  | .nxt x => hX (fun _ fr th K => xNxt x fr th K) k
  | .inv tb x l => hX (fun cl fr th K => xInv cl tb x l fr th K) k
  | .apc a b z s n => hX (fun _ fr th K => xApc a b z s n fr th K) k
  | .no => sBad
  | .cpy .. => sBad
  | .clr .. => sBad
  | m => hQF (fun fr th => evQ fr th m) k
theorem hstepF_eq (m : MOp) (k : HK) : hstepF m k = hstep m k := by
  have hq : ∀ (m : MOp), hQF (fun fr th => evQ fr th m) k = hQ (fun fr th => evQ fr th m) k := fun m => by
    funext cl fr th K
    show Option.rec (motive := fun _ => Prop) False (fun v => k v cl fr th K) (evQ fr th.t m) = _
    unfold hQ
    show _ = match evQ fr th.t m with
      | some x => k x cl fr th K
      | none => False
    cases evQ fr th.t m <;> rfl
  cases m <;> try (first | rfl | exact hq _ | exact hCF_eq _ _)
  case mov x => cases x with
    | c v => rfl
    | t i => exact hT_eq i k
  case bin op x y => cases x with
    | c a => cases y with
      | c b => exact hB_eq op a b k
      | t j => exact hB2_eq op _ _ k
    | t i => exact hB2_eq op _ _ k
  case ld n agg x => cases x with
    | c a => exact hL_eq n agg a k
    | t i => exact hL2_eq n agg _ k
  case fadr off x => cases x with
    | c a => exact hF_eq off a k
    | t i => exact hQF_eq (.fadr off (.t i)) k
  case ext x i => cases x with
    | c a => exact hE_eq i a k
    | t j => exact hQF_eq (.ext (.t j) i) k
  case iadr n x i => cases x with
    | c a => cases i with
      | c b => exact hI_eq n a b k
      | t j => exact hQF_eq (.iadr n (.c a) (.t j)) k
    | t j => exact hQF_eq (.iadr n (.t j) i) k
  case not x => cases x with
    | c a => exact hN_eq a k
    | t i =>
      show hCF (qNotF (.t i)) k = hC (qNot (.t i)) k
      rw [hCF_eq, qNotF_eq]
  case st n a v => cases a with
    | c a => cases v with
      | c v => exact hW_eq n a v k
      | t j => exact hW2_eq n _ _ k
    | t i => exact hW2_eq n _ _ k
  case call f l => cases f with
    | c f =>
      show (match allC l with
        | some vs => hJ f vs k
        | none => hJ2 (.c f) l k) = _
      cases h : allC l with
      | none => exact hJ2_eq _ _ k
      | some vs => exact hJ_eq h k
    | t i => exact hJ2_eq _ _ k
  case pick c a b => exact hQF_eq (.pick c a b) k
  case nilc x => exact hQF_eq (.nilc x) k
  case fld off n agg x => exact hQF_eq (.fld off n agg x) k
  case lenS x => exact hQF_eq (.lenS x) k
def gateV (v : FV) (w : Bool) (go skip : Prop) : Prop := elB (match gstV (some v) w with
  | .go => go
  | .skip => skip
  | .bad => False) (fun b => Bool.rec (motive := fun _ => Prop) (Bool.rec (motive := fun _ => Prop) go skip w) (Bool.rec (motive := fun _ => Prop) skip go w) b) v
theorem gateV_eq (v : FV) (w : Bool) (go skip : Prop) : gateV v w go skip = match gstV (some v) w with
  | .go => go
  | .skip => skip
  | .bad => False := by
  unfold gateV
  rw [elB_eq]
  cases v <;> try rfl
  rename_i b
  cases b <;> cases w <;> rfl
def hGV (v : FV) (w : Bool) (s : HK → SF) (k : HK) : SF := fun cl fr th K => gateV v w (s k cl fr th K) (k undF cl fr th K)
def hGF (g : Opd) (w : Bool) (s : HK → SF) (k : HK) : SF := match g with
  | .c v => hGV v w s k
  | .t i => hG (.t i) w s k
theorem hGF_eq (g : Opd) (w : Bool) (s : HK → SF) (k : HK) : hGF g w s k = hG g w s k := by
  cases g with
  | t i => rfl
  | c v => funext cl fr th K; exact gateV_eq _ _ _ _
def hcstepF (c : CO) (e : HEnv) (k : HK) : SF := match c.g with
  | none => hstepF (subM e c.m) k
  | some p => hGF (subO e (.t p.1)) p.2 (hstepF (subM e c.m)) k
theorem hcstepF_eq (c : CO) (e : HEnv) (k : HK) : hcstepF c e k = hcstep c e k := by
  unfold hcstepF hcstep
  cases c.g with
  | none => exact hstepF_eq _ _
  | some p =>
    simp only [hGF_eq]
    congr 1
    funext k; exact hstepF_eq _ _
def hP (d : Nat) (v : FV) (r : SF) : SF := fun cl fr th K => r cl (.cons d v fr) th K
def hEndF (e : HEnv) : List Nat → SF
  | [] => sN
  | d :: r => match lkE d e with
    | some v => hP d v (hEndF e r)
    | none => hEndF e r
theorem hEndF_eq (e : HEnv) : ∀ l, hEndF e l = hEnd e l
  | [] => rfl
  | d :: r => by
    simp only [hEndF, hEnd]
    cases lkE d e with
    | none => exact hEndF_eq e r
    | some v =>
      simp only [hP, hEndF_eq e r]
      rfl
def evHF : List CO → HEnv → List Nat → SF
  | [], e, outs => hEndF e outs
  | c :: r, e, outs => hcstepF c e fun v => evHF r (bindE c.dst v e) outs
theorem evHF_eq : ∀ (l : List CO) (e : HEnv) (outs : List Nat), evHF l e outs = evH l e outs
  | [], e, outs => hEndF_eq e outs
  | c :: r, e, outs => by
    rw [evHF, evH, hcstepF_eq]
    congr 1
    funext v; exact evHF_eq r _ outs

/-! ### Regions -/
abbrev RF := Cl → Fr → TH → List HE → List PE → KF → Prop
def rN : RF := fun _ fr th hs _ K => K fr ⟨allHF th.t hs, th.nx, th.scr⟩
def rQ1 (i : Nat) (ts : List Nat) (c : CO) (d : Nat) (q : QF) (r : RF) : RF := fun cl fr th hs ps K => (fun fp => Option.rec (motive := fun _ => Prop) False (fun x => rslF x th fun y th => r cl (.cons d y fr) th hs (⟨i, fp, c, x⟩ :: ps) K) (q fp th.t)) (pickFF fr ts)
def gate3 (fr : Fr) (g : Option (Nat × Bool)) (go skip : Prop) : Prop := Option.rec (motive := fun _ => Prop) go (fun p => gateF fr p.1 p.2 go skip) g
theorem gate3_eq (fr : Fr) (g : Option (Nat × Bool)) (go skip : Prop) : gate3 fr g go skip = match gst fr g with
  | .go => go
  | .skip => skip
  | .bad => False := by
  cases g with
  | none => rfl
  | some p => exact gateF_eq fr p.1 p.2 go skip
def rQ (i : Nat) (ts : List Nat) (c : CO) (q : QF) (r : RF) : RF := fun cl fr th hs ps K => (fun fp => gate3 fp c.g (Option.rec (motive := fun _ => Prop) False (fun x => rslF x th fun y th => r cl (putO fr c.dst y) th hs (⟨i, fp, c, x⟩ :: ps) K) (q fp th.t)) (r cl (putO fr c.dst undF) th hs (⟨i, fp, c, undF⟩ :: ps) K)) (pickFF fr ts)
def rA (i : Nat) (ts : List Nat) (c : CO) (r : RF) : RF := fun cl fr th hs ps K => (fun fp => gate3 fp c.g (match alF fp c.m with
      | some p => r cl (putO fr c.dst (reid th.nx p.1)) ⟨th.t, th.nx.succ, th.scr⟩ (⟨i, th.nx, p.2⟩ :: hs) (⟨i, fp, c, undF⟩ :: ps) K
      | none => False) (r cl (putO fr c.dst undF) th hs (⟨i, fp, c, undF⟩ :: ps) K)) (pickFF fr ts)
def rE (ts : List Nat) (c : CO) (dp : List Nat) (x : XF) (r : RF) : RF := fun cl fr th hs ps K => (fun fp => gate3 fp c.g
    (x cl fp ⟨relHF dp th.t hs, th.nx, th.scr⟩ fun x th' => rechF th'.t (dropPF dp ps) (r cl (putO fr c.dst x) th' (keepHF dp hs) (dropPF dp ps) K))
    (rechF (relHF dp th.t hs) (dropPF dp ps) (r cl (putO fr c.dst undF) ⟨relHF dp th.t hs, th.nx, th.scr⟩ (keepHF dp hs) (dropPF dp ps) K))) (pickFF fr ts)
def xf : MOp → XF
  | .call f l => xCallF f l
  | .st k a v => fun _ fr th K => xStF k a v fr th K
  | .app k b s x => fun _ fr th K => xApp k b s x fr th K
  | m => fun cl fr th K => evX cl fr th m K
theorem xf_eq (m : MOp) (cl : Cl) (fr : Fr) (th : TH) (K : FV → TH → Prop) : xf m cl fr th K = evX cl fr th m K := by
  cases m <;> simp only [xf, evX, xCallF_eq, xStF_eq]
def rs (e : RE) (r : RF) : RF := match e with
  | .q i ts c => match c.g with
    | none => match c.dst with
      | some d => rQ1 i ts c d (qf c.m) r
      | none => rQ i ts c (qf c.m) r
    | some _ => rQ i ts c (qf c.m) r
  | .a i ts c => rA i ts c r
  | .e i ts c dp => rE ts c dp (xf c.m) r
def evRF : List RE → RF
  | [] => rN
  | e :: r => rs e (evRF r)
theorem rQ_eq {i : Nat} {ts : List Nat} {c : CO} {r : RF} {l : List RE} (h : ∀ cl fr th hs ps K, r cl fr th hs ps K = evR cl l fr th hs ps K) (cl : Cl) (fr : Fr) (th : TH) (hs : List HE) (ps : List PE) (K : KF) :
    rQ i ts c (qf c.m) r cl fr th hs ps K = evR cl (.q i ts c :: l) fr th hs ps K := by
  unfold rQ
  simp only [gate3_eq, qf_eq, pickFF_eq, h, evR, rslF_fun]
  cases gst (pickF fr ts) c.g with
  | go => simp only; cases evQ (pickF fr ts) th.t c.m <;> rfl
  | skip => rfl
  | bad => rfl
theorem evRF_eq (cl : Cl) : ∀ (l : List RE) (fr : Fr) (th : TH) (hs : List HE) (ps : List PE) (K : KF), evRF l cl fr th hs ps K = evR cl l fr th hs ps K
  | [], fr, th, hs, ps, K => by
    show K fr ⟨allHF th.t hs, th.nx, th.scr⟩ = _
    rw [allHF_eq]; rfl
  | .q i ts c :: l, fr, th, hs, ps, K => by
    have ih : ∀ cl fr th hs ps K, evRF l cl fr th hs ps K = evR cl l fr th hs ps K := fun cl => evRF_eq cl l
    rw [evRF, rs]
    cases hg : c.g with
    | some p => simp only; exact rQ_eq ih cl fr th hs ps K
    | none =>
      simp only
      cases hd : c.dst with
      | none => simp only; exact rQ_eq ih cl fr th hs ps K
      | some d =>
        simp only
        unfold rQ1
        simp only [qf_eq, pickFF_eq, ih, evR, rslF_fun, hg, hd, gst]
        cases evQ (pickF fr ts) th.t c.m <;> rfl
  | .a i ts c :: l, fr, th, hs, ps, K => by
    have ih : ∀ cl fr th hs ps K, evRF l cl fr th hs ps K = evR cl l fr th hs ps K := fun cl => evRF_eq cl l
    rw [evRF, rs]
    unfold rA
    simp only [gate3_eq, pickFF_eq, ih, evR]
    cases gst (pickF fr ts) c.g with
    | go => simp only; cases alF (pickF fr ts) c.m <;> rfl
    | skip => rfl
    | bad => rfl
  | .e i ts c dp :: l, fr, th, hs, ps, K => by
    have ih : ∀ cl fr th hs ps K, evRF l cl fr th hs ps K = evR cl l fr th hs ps K := fun cl => evRF_eq cl l
    rw [evRF, rs]
    unfold rE
    simp only [gate3_eq, pickFF_eq, ih, evR, xf_eq, relHF_eq, keepHF_eq, dropPF_eq, rechF_eq]
    cases gst (pickF fr ts) c.g <;> rfl

/-! ### Code -/
def cComF (m : Nat) (a : RF) (s : SF) : CF := fun g n fr th kN _ _ => a g fr th [] [] fun fr th => s g fr th fun fr th => kN (fr.fl m) th
def cIfF (c : Opd) (a b : CF) : CF := fun g n fr th kN kE kR => oF False (elB False fun t => Bool.rec (motive := fun _ => Prop) (b g n fr th kN kE kR) (a g n fr th kN kE kR) t) fr c
theorem cIfF_eq (c : Opd) (a b : CF) : cIfF c a b = cIf c a b := by
  funext g n fr th kN kE kR
  unfold cIfF cIf
  rw [oF_eq]
  cases evO fr c with
  | none => rfl
  | some v =>
    simp only
    rw [elB_eq]
    cases v <;> try rfl
    rename_i t
    cases t <;> rfl
def cBlkF (i : Nat) (a : CF) : CF := fun g n fr th kN kE kR => a g n fr th kN (fun j => Bool.rec (motive := fun _ => KF) (kE j) kN (Nat.beq j i)) kR
theorem cBlkF_eq (i : Nat) (a : CF) : cBlkF i a = cBlk i a := by
  funext g n fr th kN kE kR
  unfold cBlkF cBlk
  simp only [brec]
def lpF (m i : Nat) (g : Cl) (a : CF) (ls : List LS) (n : Nat) : BF := Nat.rec (motive := fun _ => BF) (fun _ _ _ _ _ => False) (fun n ih fr th kN kE kR => hookL m i ls fr th kE fun th => a g ⟨n, ls⟩ fr th (fun fr th => ih fr th kN kE kR) kE kR) n
theorem lpF_eq (m i : Nat) (g : Cl) (a : CF) (ls : List LS) : ∀ n, lpF m i g a ls n = lpN m i g a ls n
  | 0 => rfl
  | n + 1 => by
    funext fr th kN kE kR
    show (hookL m i ls fr th kE fun th => a g ⟨n, ls⟩ fr th (fun fr th => lpF m i g a ls n fr th kN kE kR) kE kR) = _
    rw [lpF_eq m i g a ls n]; rfl
def cLoopF (m i : Nat) (a : CF) : CF := fun g n => lpF m i g a n.ls n.n
theorem cLoopF_eq (m i : Nat) (a : CF) : cLoopF m i a = cLoop m i a := by
  funext g n fr th kN kE kR
  show lpF m i g a n.ls n.n fr th kN kE kR = _
  rw [lpF_eq]; rfl
def evCF : FC → CF
  | .skip => cSkip
  | .seqr fl m l => match fl with
    | true => cRow m (evHF l [] (outsOf m l))
    | false => cRowN (evHF l [] (outsOf m l))
  | .com m l r => cComF m (evRF l) (evSF r)
  | .seq a b => cSeq (evCF a) (evCF b)
  | .cond c a b => cIfF c (evCF a) (evCF b)
  | .block i a => cBlkF i (evCF a)
  | .loop m i a => cLoopF m i (evCF a)
  | .exit i => cExit i
  | .ret => cRet
  | .bad => cBad
theorem evCF_eq : ∀ c, evCF c = evC c
  | .skip => rfl
  | .seqr fl m l => by cases fl <;> simp only [evCF, evC, evHF_eq]
  | .com m l r => by
    rw [evCF, evC, evSF_eq]
    funext g n fr th kN kE kR
    unfold cComF cCom
    exact evRF_eq g l fr th [] [] _
  | .seq a b => by rw [evCF, evC, evCF_eq a, evCF_eq b]
  | .cond c a b => by rw [evCF, evC, evCF_eq a, evCF_eq b, cIfF_eq]
  | .block i a => by rw [evCF, evC, evCF_eq a, cBlkF_eq]
  | .loop m i a => by rw [evCF, evC, evCF_eq a, cLoopF_eq]
  | .exit i => rfl
  | .ret => rfl
  | .bad => rfl

/-! ### Functions -/
def evRVF (fr : Fr) (th : Tr TO) (l : List RV) : Option (List FV) := List.rec (motive := fun _ => Option (List FV)) (some []) (fun v _ ih => RV.rec (motive := fun _ => Option (List FV))
  (fun i => Option.rec (motive := fun _ => Option (List FV)) none (fun x => Option.rec (motive := fun _ => Option (List FV)) none (fun l => some (x :: l)) ih) (fr.get i))
  (fun i k agg => Option.rec (motive := fun _ => Option (List FV)) none (fun x => ldK none (fun y => Option.rec (motive := fun _ => Option (List FV)) none (fun l => some (y :: l)) ih) k agg th x) (fr.get i)) v) l
theorem evRVF_eq (fr : Fr) (th : Tr TO) : ∀ l, evRVF fr th l = evRV fr th l
  | [] => rfl
  | .t i :: r => by
    show Option.rec (motive := fun _ => Option (List FV)) none (fun x => Option.rec (motive := fun _ => Option (List FV)) none (fun l => some (x :: l)) (evRVF fr th r)) (fr.get i) = _
    rw [evRVF_eq fr th r, evRV]
    cases fr.get i with
    | none => rfl
    | some x => cases evRV fr th r <;> rfl
  | .c i k agg :: r => by
    show Option.rec (motive := fun _ => Option (List FV)) none (fun x => ldK none (fun y => Option.rec (motive := fun _ => Option (List FV)) none (fun l => some (y :: l)) (evRVF fr th r)) k agg th x) (fr.get i) = _
    rw [evRVF_eq fr th r, evRV]
    cases fr.get i with
    | none => rfl
    | some x =>
      simp only
      rw [ldK_eq]
      cases ldF th k agg x with
      | none => rfl
      | some y => cases evRV fr th r <;> rfl
def one1F (l : List FV) : FV := List.rec (motive := fun _ => FV) (.tup []) (fun x r _ => List.rec (motive := fun _ => FV) x (fun y s _ => .tup (x :: y :: s)) r) l
theorem one1F_eq (l : List FV) : one1F l = one1 l := by
  cases l with
  | nil => rfl
  | cons x r => cases r <;> rfl
def retKF (rs : List RV) (K : FV → TH → Prop) : KF := fun fr th => Option.rec (motive := fun _ => Prop) False (fun l => K (one1F l) th) (evRVF fr th.t rs)
theorem retKF_eq (rs : List RV) (K : FV → TH → Prop) : retKF rs K = retK rs K := by
  funext fr th
  unfold retKF retK
  rw [evRVF_eq]
  cases evRV fr th.t rs with
  | none => rfl
  | some l => simp only [one1F_eq]
def appF (a l b : List FV) : List FV := List.rec (motive := fun _ => List FV) (List.rec (motive := fun _ => List FV) l (fun _ _ _ => l ++ b) b) (fun _ _ _ => a ++ (l ++ b)) a
theorem appF_eq (a l b : List FV) : appF a l b = a ++ (l ++ b) := by
  cases a with
  | nil => cases b with
    | nil => simp [appF]
    | cons _ _ => rfl
  | cons _ _ => rfl
def callFF (fn : Fn1) : Cl := fun f l th K => elF False (fun g a b => match g with
    | .func i => fn i (appF a l b) th K
    | _ => False) f
theorem callFF_eq (fn : Fn1) : callFF fn = callF fn := by
  funext f l th K
  unfold callFF callF
  rw [elF_eq]
  cases f <;> try rfl
  rename_i g a b
  cases g <;> try rfl
  simp only [appF_eq]
def runFF (lf : LF) (g : Cl) (f : FFn) (l : List FV) (th : TH) (K : FV → TH → Prop) : Prop := FFn.rec (motive := fun _ => LF → Prop) (fun np m b rs code lf => Bool.rec (motive := fun _ => Prop) False (code g lf (frameF l 0 (.base m (skel b 0))) th (retKF rs K) (fun _ _ _ => False) (retKF rs K)) (Nat.beq l.length np)) (fun k _ => match evE k l with
    | some v => K v th
    | none => False) (fun _ => match l with
    | [] => K (.bool true) th
    | _ => False) (fun ss _ ih lf => match th.scr with
    | .u n r => match nthS ss n with
      | some S => runS S (bnd S l th.t) l ⟨th.t, th.nx, r⟩ K
      | none => False
    | .auto q m => match q with
      | .u n r => match nthS ss n with
        | some S => runS S (bnd S l th.t) l ⟨th.t, th.nx, .auto r m⟩ K
        | none => False
      | _ => ih lf
    | _ => ih lf) (fun ls _ ih lf => ih ⟨lf.n, ls⟩) (fun q _ => q l th) (fun ks _ => colF ks l th K) f lf
theorem runFF_eq (g : Cl) (l : List FV) (th : TH) (K : FV → TH → Prop) : ∀ (f : FFn) (lf : LF), runFF lf g f l th K = runF lf g f l th K
  | .f np m b rs code, lf => by
    show (Bool.rec (motive := fun _ => Prop) False (code g lf (frameF l 0 (.base m (skel b 0))) th (retKF rs K) (fun _ _ _ => False) (retKF rs K)) (Nat.beq l.length np) : Prop) = _
    rw [brec, frameF_eq, retKF_eq]; rfl
  | .x k, _ => rfl
  | .t, _ => rfl
  | .p q, _ => rfl
  | .col _, _ => rfl
  | .l ls f, lf => runFF_eq g l th K f ⟨lf.n, ls⟩
  | .s ss f, lf => by
    have ih := runFF_eq g l th K f lf
    show (match th.scr with
    | .u n r => match nthS ss n with
      | some S => runS S (bnd S l th.t) l ⟨th.t, th.nx, r⟩ K
      | none => False
    | .auto q m => match q with
      | .u n r => match nthS ss n with
        | some S => runS S (bnd S l th.t) l ⟨th.t, th.nx, .auto r m⟩ K
        | none => False
      | _ => runFF lf g f l th K
    | _ => runFF lf g f l th K) = _
    rw [ih]
    simp only [runF]
    cases th.scr with
    | u n r => simp only; cases nthS ss n <;> rfl
    | auto q m => cases q with
      | u n r => simp only; cases nthS ss n <;> rfl
      | _ => rfl
    | _ => rfl
def engF (tab : Tr FFn) (lf n : Nat) : Fn1 := Nat.rec (motive := fun _ => Fn1) (fun _ _ _ _ => False) (fun _ ih i l th K => Option.rec (motive := fun _ => Prop) False (fun f => runFF ⟨lf, []⟩ (callFF ih) f l th K) (tab.get i)) n
theorem engF_eq (tab : Tr FFn) (lf : Nat) : ∀ n, engF tab lf n = eng tab lf n
  | 0 => rfl
  | n + 1 => by
    funext i l th K
    show Option.rec (motive := fun _ => Prop) False (fun f => runFF ⟨lf, []⟩ (callFF (engF tab lf n)) f l th K) (tab.get i) = _
    rw [engF_eq tab lf n, callFF_eq]
    simp only [eng]
    cases tab.get i with
    | none => rfl
    | some f => exact runFF_eq _ _ _ _ _ _
end Go.Va
