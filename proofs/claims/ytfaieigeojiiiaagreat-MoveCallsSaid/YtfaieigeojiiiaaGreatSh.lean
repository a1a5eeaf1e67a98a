/- The walking layer: from a shallow form of a function (a term over values and heaps) to the model's own run: definitions, rules, no program. -/
import Derived.WalkKit
import Derived.Deep.Quiet
import Derived.StillTail
namespace Go.Sh

abbrev Heap := Array Obj

/-- Is it told that draws are counted upwards? -/
class Gd where
  g : Prop
  /-- Where a panic may leave the heap. -/
  pn : Value → Heap → Prop := fun _ _ => False

/-- What a walk never turns. -/
structure SameWg (g : Prop) (w w' : World) : Prop where
  os : w'.os = w.os
  tape : w'.tape = w.tape
  output : w'.output = w.output
  drawn : g → w.drawn ≤ w'.drawn
abbrev SameW [Gd] (w w' : World) : Prop := SameWg Gd.g w w'
theorem SameW.refl [Gd] (w : World) : SameW w w := ⟨rfl, rfl, rfl, fun _ => Nat.le_refl _⟩
theorem SameW.trans [Gd] {a b c : World} (h : SameW a b) (k : SameW b c) : SameW a c :=
  ⟨k.os.trans h.os, k.tape.trans h.tape, k.output.trans h.output, fun g => Nat.le_trans (h.drawn g) (k.drawn g)⟩

/-- How a call may end. -/
def EndOk [Gd] (w : World) (K : Value → Heap → Prop) (e : Ending) (w' : World) : Prop :=
  (∃ v, e = .returned v ∧ SameW w w' ∧ K v w'.heap) ∨ ∃ x, e = .panicked [{ v := x, recovered := false }] ∧ SameW w w' ∧ Gd.pn x w'.heap
/-- The call of a function by heaps alone. -/
def HC [Gd] (P : Program) (f : FuncId) (args : Array Value) (h : Heap) (K : Value → Heap → Prop) : Prop :=
  ∀ w : World, w.heap = h → Calls P f args w (EndOk w K)
/-- The same where nothing panics. -/
@[reducible] def Gd.no (G : Gd) : Gd := ⟨G.g, fun _ _ => False⟩
def HCn [G : Gd] (P : Program) (f : FuncId) (args : Array Value) (h : Heap) (K : Value → Heap → Prop) : Prop := @HC G.no P f args h K
theorem HC.calls [Gd] (hn : ∀ x h, ¬ Gd.pn x h) {P : Program} {f : FuncId} {args : Array Value} {h : Heap} {K : Value → Heap → Prop} (hc : HC P f args h K) :
    ∀ w : World, w.heap = h → Calls P f args w fun e w' => ∃ v, e = .returned v ∧ SameW w w' ∧ K v w'.heap :=
  fun w hw => (hc w hw).mono fun _ _ h => h.elim id fun ⟨_, _, _, h⟩ => (hn _ _ h).elim
theorem HC.mono [Gd] {P : Program} {f : FuncId} {args : Array Value} {h : Heap} {K K' : Value → Heap → Prop}
    (hc : HC P f args h K) (hk : ∀ v h', K v h' → K' v h') : HC P f args h K' :=
  fun w hw => (hc w hw).mono fun _ _ h => h.imp (fun ⟨v, he, hs, hv⟩ => ⟨v, he, hs, hk _ _ hv⟩) id

/-- What an operation may come to. -/
def NextOk [Gd] (P : Program) (K : Value → Heap → Prop) (w : World) : Result Next → Prop
  | .ok (.value v) w' => SameW w w' ∧ K v w'.heap
  | .ok .skip w' => SameW w w' ∧ K undef w'.heap
  | .ok (.enter f args) w' => SameW w w' ∧ HC P f args w'.heap K
  | .halt (.panic x) w' => SameW w w' ∧ Gd.pn x w'.heap
  | _ => False

/-- An operation that may turn the heap. -/
def Sx [Gd] (P : Program) (s : Sem Next) (h : Heap) (K : Value → Heap → Prop) : Prop :=
  ∀ w : World, w.heap = h → NextOk P K w (s.run P w)

/-- An operation that looks at nothing but its operands. -/
def Sp (P : Program) (s : Sem Next) (K : Value → Prop) : Prop :=
  ∃ v, (∀ w, s.run P w = .ok (.value v) w) ∧ K v

/-- An operation that reads, the same in each heap of a class. -/
def Sq (P : Program) (D : Heap → Prop) (s : Sem Next) (K : Value → Prop) : Prop :=
  ∃ v, (∀ w : World, D w.heap → s.run P w = .ok (.value v) w) ∧ K v

/-- A call that answers the same in each heap of a class, and leaves a heap of the class. -/
def Sc [Gd] (P : Program) (D : Heap → Prop) (s : Sem Next) (K : Value → Prop) : Prop :=
  ∃ v, (∀ w : World, D w.heap → ∃ f args, s.run P w = .ok (.enter f args) w ∧ HCn P f args w.heap fun u h' => u = v ∧ D h') ∧ K v

/-- A value as an operation's outcome. -/
def nv (s : Sem Value) : Sem Next := do pure (.value (← s))
/-- An operation without a value. -/
def nu (s : Sem Unit) : Sem Next := do s; pure .skip

def cond (v : Value) (A B : Prop) : Prop :=
  match v with
  | .bool true => A
  | .bool false => B
  | _ => False

/-- A place where ways meet: what is asked there, under a name. -/
def join {κ : Type} (k : κ) (B : κ → Prop) : Prop := B k

/-- The frame. -/
def upd (f : Nat → Value) (i : Nat) (v : Value) : Nat → Value := fun j => bif Nat.beq j i then v else f j
def mkD (ds : List Deferred) (n : Nat) (f : Nat → Value) : Act := ⟨((List.range n).map f).toArray, ds⟩
abbrev mk (n : Nat) (f : Nat → Value) : Act := mkD [] n f
/-- What stands behind a step takes panics. -/
class PnOk [Gd] (ds : List Deferred) (Q : Exit → Act → World → Prop) (w0 : outParam World) (A : outParam (Nat → (Nat → Value) → Prop)) : Prop where
  pn : ∀ x n f w, A n f → SameW w0 w → Gd.pn x w.heap → Q (.panic [{ v := x, recovered := false }]) (mkD ds n f) w
variable {ds : List Deferred}
def evf (n : Nat) (f : Nat → Value) : Operand → Value
  | .tmp t => bif Nat.blt t n then f t else undef
  | .const v => v
  | .global g => .pointer (some ⟨g, 0, none⟩)
  | .func f => .func (.func f) #[] #[]

theorem mk_eval (n : Nat) (f : Nat → Value) : (mkD ds n f).eval = evf n f := by
  funext x
  cases x with
  | tmp t =>
    simp only [Act.eval, evf, mkD]
    by_cases h : t < n
    · have : Nat.blt t n = true := by simpa [Nat.blt_eq] using h
      simp [h, this]
    · have : Nat.blt t n = false := by simpa [← Bool.not_eq_true, Nat.blt_eq] using h
      simp [h, this]
  | const v => rfl
  | global g => rfl
  | func f => rfl

theorem mk_put (n : Nat) (f : Nat → Value) (d : Nat) (v : Value) : (mkD ds n f).put (some d) v = mkD ds n (upd f d v) := by
  simp only [Act.put, mkD]
  congr 1
  apply Array.ext
  · simp
  · intro i h1 h2
    simp at h1
    simp only [List.getElem_toArray, List.getElem_map, List.getElem_range, upd]
    by_cases hd : d = i
    · subst hd; simp
    · have : Nat.beq i d = false := by simpa [← Bool.not_eq_true, Nat.beq_eq] using fun h => hd h.symm
      simp [hd, this]

theorem mk_put_none (n : Nat) (f : Nat → Value) (v : Value) : (mkD ds n f).put none v = mkD ds n f := rfl

theorem mk_get (n : Nat) (f : Nat → Value) (d : Nat) (h : d < n) : (mkD ds n f).tmps[d]? = some (f d) := by
  simp [mkD, h]

theorem mk_getD (n : Nat) (f : Nat → Value) (d : Nat) (h : Nat.blt d n = true) : (mkD ds n f).tmps.getD d undef = f d := by
  have h' : d < n := by simpa [Nat.blt_eq] using h
  simp [mkD, h']

/-! ### Operations in the order of the text -/
section list
variable {P : Program} {ops : Array Oper} {Q : Exit → Act → World → Prop} {n : Nat} {f : Nat → Value} {w : World} {rest : List Oper} {o : Oper} {h : Heap}

theorem list_of_upon (hg : Region.wanted o (yielded ops (mkD ds n f).tmps) = true)
    (h : o.upon P (mkD ds n f) (wpList P ops Q rest) Q ((execOp (evf n f) o).run P w)) : wpList P ops Q (o :: rest) (mkD ds n f) w := by
  unfold wpList
  rw [if_pos hg]
  refine .inl ?_
  unfold Oper.wp
  rw [mk_eval]
  exact h

theorem wanted_none {a : Act} (hg : o.guard = none) : Region.wanted o (yielded ops a.tmps) = true := by simp [Region.wanted, hg]

theorem wanted_of {j d : Nat} {b want : Bool} (hg : o.guard = some (j, want)) (hd : (ops[j]?).bind (·.dst) = some d) (hn : Nat.blt d n = true) (hv : f d = .bool b) :
    Region.wanted o (yielded ops (mkD ds n f).tmps) = (b == want) := by
  have hn' : d < n := by simpa [Nat.blt_eq] using hn
  simp [Region.wanted, hg, yielded, hd, mk_get n f d hn', hv]
theorem wanted_yes {j d : Nat} {want : Bool} (hg : o.guard = some (j, want)) (hd : (ops[j]?).bind (·.dst) = some d) (hn : Nat.blt d n = true) (hv : f d = .bool want) :
    Region.wanted o (yielded ops (mkD ds n f).tmps) = true := by rw [wanted_of hg hd hn hv]; simp
theorem wanted_no {j d : Nat} {want : Bool} (hg : o.guard = some (j, want)) (hd : (ops[j]?).bind (·.dst) = some d) (hn : Nat.blt d n = true) (hv : f d = .bool (!want)) :
    Region.wanted o (yielded ops (mkD ds n f).tmps) = false := by rw [wanted_of hg hd hn hv]; cases want <;> rfl
theorem wanted_undef {j d : Nat} {want : Bool} (hg : o.guard = some (j, want)) (hd : (ops[j]?).bind (·.dst) = some d) (hn : Nat.blt d n = true) (hv : f d = undef) :
    Region.wanted o (yielded ops (mkD ds n f).tmps) = false := by
  have hn' : d < n := by simpa [Nat.blt_eq] using hn
  simp [Region.wanted, hg, yielded, hd, mk_get n f d hn', hv, undef]

theorem stepQ {d : Nat} {K : Value → Prop} {s : Sem Next} (he : execOp (evf n f) o = s) (hs : Sq P (Eq h) s K) (hw : w.heap = h) (hg : Region.wanted o (yielded ops (mkD ds n f).tmps) = true) (hd : o.dst = some d)
    (k : ∀ v, K v → wpList P ops Q rest (mkD ds n (upd f d v)) w) : wpList P ops Q (o :: rest) (mkD ds n f) w := by
  subst he
  obtain ⟨v, hr, hk⟩ := hs
  refine list_of_upon hg ?_
  rw [hr w hw.symm, Oper.upon_value, hd, mk_put]
  exact k v hk

theorem upon_of_next [Gd] {a : Act} {next : Act → World → Prop} {K : Value → Heap → Prop} {r : Result Next} (hs : NextOk P K w r)
    (k : ∀ v w', SameW w w' → K v w'.heap → next (a.put o.dst v) w') {w0 : World} {A : Nat → (Nat → Value) → Prop} {n : Nat} {f : Nat → Value} (ha : a = mkD ds n f) (hp : PnOk ds Q w0 A) (h0 : SameW w0 w) (hA : A n f) : o.upon P a next Q r := by
  match r, hs with
  | .ok (.value v) w', hs => exact k v w' hs.1 hs.2
  | .ok .skip w', hs => exact k undef w' hs.1 hs.2
  | .ok (.enter f args) w', hs =>
    show Calls P f args w' _
    refine (hs.2 w' rfl).mono fun e w'' he => ?_
    rcases he with ⟨v, rfl, hs', hv⟩ | ⟨x, rfl, hs', hx⟩
    · exact k v w'' (hs.1.trans hs') hv
    · subst ha; exact hp.pn x n _ w'' hA (h0.trans (hs.1.trans hs')) hx
  | .halt (.panic x) w', hs => subst ha; exact hp.pn x n _ w' hA (h0.trans hs.1) hs.2

theorem stepX [Gd] {d : Nat} {K : Value → Heap → Prop} {s : Sem Next} (he : execOp (evf n f) o = s) (hs : Sx P s h K) (hw : w.heap = h) (hg : Region.wanted o (yielded ops (mkD ds n f).tmps) = true) (hd : o.dst = some d)
    (k : ∀ v h' w', w'.heap = h' → SameW w w' → K v h' → wpList P ops Q rest (mkD ds n (upd f d v)) w') {w0 : World} {A : Nat → (Nat → Value) → Prop} [hpn : PnOk ds Q w0 A] (hs0 : SameW w0 w := by assumption) (hA0 : A n f := by first | exact True.intro | exact ⟨rfl, rfl, rfl, trivial⟩ | exact ⟨rfl, rfl, rfl, rfl, rfl, rfl, rfl, rfl, rfl, trivial⟩) : wpList P ops Q (o :: rest) (mkD ds n f) w := by
  subst he
  refine list_of_upon hg (upon_of_next (hs w hw) (fun v w' h1 h2 => ?_) rfl hpn hs0 hA0)
  rw [hd, mk_put]
  exact k v _ w' rfl h1 h2

theorem stepU [Gd] {K : Value → Heap → Prop} {s : Sem Next} (he : execOp (evf n f) o = s) (hs : Sx P s h K) (hw : w.heap = h) (hg : Region.wanted o (yielded ops (mkD ds n f).tmps) = true) (hd : o.dst = none)
    (k : ∀ v h' w', w'.heap = h' → SameW w w' → K v h' → wpList P ops Q rest (mkD ds n f) w') {w0 : World} {A : Nat → (Nat → Value) → Prop} [hpn : PnOk ds Q w0 A] (hs0 : SameW w0 w := by assumption) (hA0 : A n f := by first | exact True.intro | exact ⟨rfl, rfl, rfl, trivial⟩ | exact ⟨rfl, rfl, rfl, rfl, rfl, rfl, rfl, rfl, rfl, trivial⟩) : wpList P ops Q (o :: rest) (mkD ds n f) w := by
  subst he
  refine list_of_upon hg (upon_of_next (hs w hw) (fun v w' h1 h2 => ?_) rfl hpn hs0 hA0)
  rw [hd]
  exact k v _ w' rfl h1 h2

/-- An operation that its guard shuts out. -/
theorem stepSkip {d : Nat} (hg : Region.wanted o (yielded ops (mkD ds n f).tmps) = false) (hd : o.dst = some d)
    (k : wpList P ops Q rest (mkD ds n (upd f d undef)) w) : wpList P ops Q (o :: rest) (mkD ds n f) w := by
  unfold wpList
  rw [if_neg (by simp [hg]), hd, mk_put]
  exact k
theorem stepSkip0 (hg : Region.wanted o (yielded ops (mkD ds n f).tmps) = false) (hd : o.dst = none)
    (k : wpList P ops Q rest (mkD ds n f) w) : wpList P ops Q (o :: rest) (mkD ds n f) w := by
  unfold wpList
  rw [if_neg (by simp [hg]), hd]
  exact k
theorem stepEnd {a : Act} (k : Q .normal a w) : wpList P ops Q [] a w := k
end list

/-! ### A region that draws its order, each operation quiet in a class -/
section quiet
variable {P : Program} {ops : Array Oper} {Q : Act → Prop} {n : Nat} {f : Nat → Value} {w0 : World} {rest : List Oper} {o : Oper} {D : Heap → Prop}

def Cls [Gd] (D : Heap → Prop) (w0 w : World) : Prop := D w.heap ∧ SameW w0 w

end quiet

structure PanicOk (Q : Exit → Act → World → Prop) : Prop where
  ok : ∀ c d v a w, Q (.panic c) (Act.put a d v) w → Q (.panic c) a w

/-! ### A region that draws its order: a head of reads and effects in one forced row, then a tail in one forced row -/
section mix
variable {P : Program} {ops : Array Oper} {Q : Exit → Act → World → Prop} {md : Region.Mode} {C : World → Prop}

def wpAnyM (P : Program) (md : Region.Mode) (ops : Array Oper) (Q : Exit → Act → World → Prop) (C : World → Prop) (n : Nat) (L : Array Bool → Act → World → Prop) : Nat → Array Bool → Act → World → Prop
  | 0, listed, a, w => L listed a w
  | fuel + 1, listed, a, w => Region.ready md ops listed ≠ [] ∧
    ∀ i ∈ Region.ready md ops listed, i < n ∧ wpOp P ops Q i (fun a' w' => C w' ∧ wpAnyM P md ops Q C n L fuel (listed.setIfInBounds i true) a' w') a w

variable {L : Array Bool → Act → World → Prop} {n : Nat}

theorem wpAny_of_M {g : Nat} (hL : ∀ listed a w, L listed a w → wpAny P md ops Q g listed a w) : ∀ (fuel : Nat) (listed : Array Bool) (a : Act) (w : World),
    wpAnyM P md ops Q C n L fuel listed a w → wpAny P md ops Q (fuel + g) listed a w
  | 0, _, _, _, h => by rw [Nat.zero_add]; exact hL _ _ _ h
  | fuel + 1, listed, a, w, h => by
    rw [show fuel + 1 + g = (fuel + g) + 1 from by omega]
    exact ⟨fun h0 => absurd h0 h.1, fun i hi => wpOp_mono (fun a' w' h' => wpAny_of_M hL fuel _ a' w' h'.2) (h.2 i hi).2⟩

def YieldsD (P : Program) (ops : Array Oper) (C : World → Prop) (o : Oper) (v : Value) (a : Act) : Prop :=
  (Region.wanted o (yielded ops a.tmps) = true ∧ ∀ w, C w → (execOp a.eval o).run P w = .ok (.value v) w) ∨
  (Region.wanted o (yielded ops a.tmps) = false ∧ v = undef)

/-- The head in the order of the text; true: a read, false: an effect. -/
def mixL (P : Program) (ops : Array Oper) (Q : Exit → Act → World → Prop) (C : World → Prop) (T : Act → World → Prop) : List (Bool × Oper) → Act → World → Prop
  | [], a, w => T a w
  | (q, o) :: rest, a, w =>
    if q then ∃ v, YieldsD P ops C o v a ∧ mixL P ops Q C T rest (a.put o.dst v) w
    else if Region.wanted o (yielded ops a.tmps) then o.wp P a w (fun a' w' => C w' ∧ mixL P ops Q C T rest a' w') Q
    else mixL P ops Q C T rest (a.put o.dst undef) w

def lexMix (md : Region.Mode) (ops : Array Oper) (g : Nat) : List Bool → Nat → Array Bool → Bool
  | [], k, listed => Region.seqB md ops g k listed
  | q :: qs, k, listed => (if q then (Region.ready md ops listed).contains k && Region.free md ops listed k else decide (Region.ready md ops listed = [k])) && lexMix md ops g qs (k + 1) (listed.setIfInBounds k true)

def lexMixB (ops : Array Oper) (qs : List Bool) : Bool :=
  Region.noSelect ops && decide (qs.length < ops.size) && Region.sinkB .any ops qs.length && Region.chainB .any ops qs.length && lexMix .any ops (ops.size - qs.length) qs 0 (Array.replicate ops.size false)

/-- The head in an order of one's own choice. -/
def lexMixO (md : Region.Mode) (ops : Array Oper) (g n : Nat) : List (Bool × Nat) → Array Bool → Bool
  | [], listed => Region.seqB md ops g n listed
  | (q, k) :: qs, listed => (if q then (Region.ready md ops listed).contains k && Region.free md ops listed k else decide (Region.ready md ops listed = [k])) && decide (k < n) && lexMixO md ops g n qs (listed.setIfInBounds k true)
def lexMixOB (ops : Array Oper) (qs : List (Bool × Nat)) : Bool :=
  Region.noSelect ops && decide (qs.length < ops.size) && Region.sinkB .any ops qs.length && Region.chainB .any ops qs.length && lexMixO .any ops (ops.size - qs.length) qs.length qs (Array.replicate ops.size false)

/-! Whatever order: each effect keeps what was there. -/
def Ext (h h' : Heap) : Prop := h.size ≤ h'.size ∧ ∀ b, b < h.size → h'[b]? = h[b]?
theorem Ext.refl (h : Heap) : Ext h h := ⟨Nat.le_refl _, fun _ _ => rfl⟩
theorem Ext.trans {a b c : Heap} (h : Ext a b) (k : Ext b c) : Ext a c :=
  ⟨Nat.le_trans h.1 k.1, fun i hi => (k.2 i (Nat.lt_of_lt_of_le hi h.1)).trans (h.2 i hi)⟩

def wpAnyE (P : Program) (md : Region.Mode) (ops : Array Oper) (Q : Exit → Act → World → Prop) : Nat → Array Bool → Act → World → Prop
  | 0, listed, a, w => Region.ready md ops listed = [] ∧ Q .normal a w
  | fuel + 1, listed, a, w => (Region.ready md ops listed = [] → Q .normal a w) ∧
    ∀ i ∈ Region.ready md ops listed, wpOp P ops Q i (fun a' w' => Ext w.heap w'.heap ∧ wpAnyE P md ops Q fuel (listed.setIfInBounds i true) a' w') a w

section exp
variable {f : Nat → Value} {w : World} {o : Oper} {h : Heap} {m i fuel : Nat} {listed listed' : Array Bool}
/-- One effect of those that may come up now. -/
def expAt (P : Program) (ops : Array Oper) (Q : Exit → Act → World → Prop) (fuel : Nat) (listed : Array Bool) (a : Act) (w : World) (i : Nat) : Prop :=
  wpOp P ops Q i (fun a' w' => Ext w.heap w'.heap ∧ wpAnyE P .any ops Q fuel (listed.setIfInBounds i true) a' w') a w
end exp

variable {D : Heap → Prop} {T : Act → World → Prop} {f : Nat → Value} {w : World} {rest : List (Bool × Oper)} {o : Oper} {h : Heap} {m : Nat}

end mix

/-! ### A region that draws its order, in which what reads memory stands, by its edges, ahead of every effect -/
section mixf
variable {P : Program} {ops : Array Oper} {Q : Exit → Act → World → Prop} {md : Region.Mode} {C : Array Bool → World → Prop}

def wpAnyF (P : Program) (md : Region.Mode) (ops : Array Oper) (Q : Exit → Act → World → Prop) (C : Array Bool → World → Prop) (n : Nat) (L : Array Bool → Act → World → Prop) : Nat → Array Bool → Act → World → Prop
  | 0, listed, a, w => L listed a w
  | fuel + 1, listed, a, w => Region.ready md ops listed ≠ [] ∧
    ∀ i ∈ Region.ready md ops listed, i < n ∧ wpOp P ops Q i (fun a' w' => C (listed.setIfInBounds i true) w' ∧ wpAnyF P md ops Q C n L fuel (listed.setIfInBounds i true) a' w') a w

variable {L : Array Bool → Act → World → Prop} {n : Nat}

/-- 0: what reads no memory; 1: what reads; else: an effect. -/
def mixF (P : Program) (ops : Array Oper) (Q : Exit → Act → World → Prop) (h : Heap) (T : Act → World → Prop) : List (Nat × Oper) → Act → World → Prop
  | [], a, w => T a w
  | (q, o) :: rest, a, w =>
    if q = 0 then ∃ v, YieldsD P ops (fun _ => True) o v a ∧ mixF P ops Q h T rest (a.put o.dst v) w
    else if q = 1 then ∃ v, YieldsD P ops (fun w => w.heap = h) o v a ∧ mixF P ops Q h T rest (a.put o.dst v) w
    else if Region.wanted o (yielded ops a.tmps) then o.wp P a w (fun a' w' => mixF P ops Q h T rest a' w') Q
    else mixF P ops Q h T rest (a.put o.dst undef) w

/-- What reads binds every effect. -/
def readsFirst (md : Region.Mode) (ops : Array Oper) (qs : List Nat) : Bool :=
  (List.range qs.length).all fun k => match qs[k]?, ops[k]? with
    | some q, some o => decide (q < 2) || ((List.range qs.length).all fun i => match qs[i]? with
      | some 1 => o.after.any fun e => Region.binds md e && e.on == i
      | _ => true)
    | _, _ => true
def CF (qs : List Nat) (h : Heap) (listed : Array Bool) (w : World) : Prop := (∀ (k q : Nat), qs[k]? = some q → 2 ≤ q → listed.getD k false = false) → w.heap = h
variable {T : Act → World → Prop} {f : Nat → Value} {w : World} {rest : List (Nat × Oper)} {o : Oper} {h h0 : Heap} {m : Nat}
end mixf

/-! ### Code -/
section code
variable {P : Program} {Q : Exit → Act → World → Prop} {n : Nat} {f : Nat → Value} {w : World}

theorem region_seq {id : Nat} {l : List Oper} {a : Act} (h : wpList P l.toArray Q l a w) : (Code.region id l.toArray false).wp P Q a w := wp_region_lit h

/-- A loop's shallow form: x0: what it begins with; 'body x h next'. -/
def loop {α : Type} (x0 : α) (h0 : Heap) (body : α → Heap → (α → Heap → Prop) → Prop) : Prop :=
  ∃ (I : Nat → α → Heap → Prop) (m0 : Nat), I m0 x0 h0 ∧ ∀ m x h, I m x h → body x h fun x' h' => ∃ m', m' < m ∧ I m' x' h'

theorem hc_of_wp [Gd] {g : FuncId} {fn : Func} {c : Code} {args : Array Value} {h : Heap} {K : Value → Heap → Prop} (hf : P.funcs[g]? = some fn) (hb : fn.body = some c)
    (hn : fn.ntmps = n) (ha : args ++ Array.replicate (n - args.size) undef = (mk n f).tmps)
    (hw : ∀ w : World, w.heap = h → c.wp P (bodyPost P fn (EndOk w K)) (mk n f) w) : HC P g args h K := by
  intro w hh
  refine calls_of_wp hf hb ?_
  rw [hn, ha]
  exact hw w hh

theorem post_ret {fn : Func} {R : Ending → World → Prop} {v : Value} (hr : (results fn (mk n f).tmps).run P w = .ok v w) (hR : R (.returned v) w) :
    bodyPost P fn R .ret (mk n f) w := ⟨rfl, v, hr, hR⟩
theorem post_end {fn : Func} {R : Ending → World → Prop} {v : Value} (hr : (results fn (mk n f).tmps).run P w = .ok v w) (hR : R (.returned v) w) :
    bodyPost P fn R .normal (mk n f) w := ⟨rfl, v, hr, hR⟩

/-- Results of which some lie in memory. -/
def rsem : List (Option TypeId × Value) → Sem (List Value)
  | [] => pure []
  | (none, v) :: r => do
    let l ← rsem r
    pure (v :: l)
  | (some t, x) :: r => do
    let v ← loadVar t (← asAddr x)
    let l ← rsem r
    pure (v :: l)
def rval (l : List (Option TypeId × Value)) : Sem Value := do
  let vs ← rsem l
  pure (match vs with | [v] => v | vs => .tuple vs.toArray)
def rrel (n : Nat) (f : Nat → Value) : List ResultVar → List (Option TypeId × Value) → Prop
  | [], [] => True
  | .tmp t :: rs, (none, v) :: l => Nat.blt t n = true ∧ f t = v ∧ rrel n f rs l
  | .cell t ty :: rs, (some ty', v) :: l => Nat.blt t n = true ∧ f t = v ∧ ty = ty' ∧ rrel n f rs l
  | _, _ => False
def rone (tmps : Array Value) : ResultVar → Sem Value
  | .tmp t => pure (tmps.getD t undef)
  | .cell a t => do loadVar t (← asAddr (tmps.getD a undef))
theorem results_list {fn : Func} {rs : List ResultVar} (h : fn.results = rs.toArray) (tmps : Array Value) :
    results fn tmps = (do let vs ← rs.mapM (rone tmps); pure (match vs with | [v] => v | vs => .tuple vs.toArray)) := by
  have e : results fn tmps = (do let vs ← fn.results.mapM (rone tmps); pure (if h : vs.size = 1 then vs[0] else .tuple vs)) := by
    unfold results
    congr 1
  rw [e, h, List.mapM_toArray, map_eq_pure_bind, bind_assoc]
  congr 1
  funext vs
  simp only [pure_bind]
  congr 1
  match vs with
  | [] => rfl
  | [v] => rfl
  | _ :: _ :: _ => rfl
def oRes (P : Program) (l : List (Option TypeId × Value)) (h : Heap) (K : Value → Heap → Prop) : Prop := Sq P (Eq h) (nv (rval l)) fun v => K v h
/-! ### Frames by what is known of them -/
def ovr : List (Nat × Value) → (Nat → Value) → Nat → Value
  | [], f, j => f j
  | (i, v) :: r, f, j => bif Nat.beq j i then v else ovr r f j
def agree : List (Nat × Value) → (Nat → Value) → Prop
  | [], _ => True
  | (i, v) :: r, f => f i = v ∧ agree r f
theorem blkN {id : Nat} {a : Act} (h : Q .normal a w) : Exit.inBlock id Q .normal a w := h
theorem blkR {id : Nat} {a : Act} (h : Q .ret a w) : Exit.inBlock id Q .ret a w := h
theorem blkE {id : Nat} {a : Act} (h : Q .normal a w) : Exit.inBlock id Q (.exit id) a w := by simpa [Exit.inBlock] using h
theorem blkX {id id' : Nat} {a : Act} (hne : Nat.beq id' id = false) (h : Q (.exit id') a w) : Exit.inBlock id Q (.exit id') a w := by
  have : id' ≠ id := fun e => by subst e; simp at hne
  simpa [Exit.inBlock, this] using h

instance pnOk_base [Gd] {fn : Func} {w0 : World} {K : Value → Heap → Prop} : PnOk [] (bodyPost P fn (EndOk w0 K)) w0 (fun _ _ => True) := ⟨fun x _ _ _ _ hs hp => ⟨rfl, .inr ⟨x, rfl, hs, hp⟩⟩⟩
instance pnOk_then [Gd] {y : Act → World → Prop} {w0 : World} {A : Nat → (Nat → Value) → Prop} [h : PnOk ds Q w0 A] : PnOk ds (Exit.then y Q) w0 A := ⟨fun x n f w h1 h2 h3 => h.pn x n f w h1 h2 h3⟩
instance pnOk_blk [Gd] {id : Nat} {w0 : World} {A : Nat → (Nat → Value) → Prop} [h : PnOk ds Q w0 A] : PnOk ds (Exit.inBlock id Q) w0 A := ⟨fun x n f w h1 h2 h3 => h.pn x n f w h1 h2 h3⟩
theorem panicOk_then {y : Act → World → Prop} (h : PanicOk Q) : PanicOk (Exit.then y Q) := ⟨h.ok⟩
theorem panicOk_blk {id : Nat} (h : PanicOk Q) : PanicOk (Exit.inBlock id Q) := ⟨h.ok⟩
theorem panicOk_base {fn : Func} {R : Ending → World → Prop} : PanicOk (bodyPost P fn R) := ⟨fun _ d _ _ _ h => by
  cases d <;> exact h⟩

/-! Where ways meet inside a region. -/
end code

/-! ### Loops -/
def loop0 (h0 : Heap) (body : Heap → (Heap → Prop) → Prop) : Prop :=
  ∃ (I : Nat → Heap → Prop) (m0 : Nat), I m0 h0 ∧ ∀ m h, I m h → body h fun h' => ∃ m', m' < m ∧ I m' h'
def loop1 (a0 : Value) (h0 : Heap) (body : Value → Heap → (Value → Heap → Prop) → Prop) : Prop :=
  ∃ (I : Nat → Value → Heap → Prop) (m0 : Nat), I m0 a0 h0 ∧ ∀ m a h, I m a h → body a h fun a' h' => ∃ m', m' < m ∧ I m' a' h'
def loop2 (a0 b0 : Value) (h0 : Heap) (body : Value → Value → Heap → (Value → Value → Heap → Prop) → Prop) : Prop :=
  ∃ (I : Nat → Value → Value → Heap → Prop) (m0 : Nat), I m0 a0 b0 h0 ∧ ∀ m a b h, I m a b h → body a b h fun a' b' h' => ∃ m', m' < m ∧ I m' a' b' h'
def loop3 (a0 b0 c0 : Value) (h0 : Heap) (body : Value → Value → Value → Heap → (Value → Value → Value → Heap → Prop) → Prop) : Prop :=
  ∃ (I : Nat → Value → Value → Value → Heap → Prop) (m0 : Nat), I m0 a0 b0 c0 h0 ∧ ∀ m a b c h, I m a b c h → body a b c h fun a' b' c' h' => ∃ m', m' < m ∧ I m' a' b' c' h'
def loop4 (a0 b0 c0 d0 : Value) (h0 : Heap) (body : Value → Value → Value → Value → Heap → (Value → Value → Value → Value → Heap → Prop) → Prop) : Prop :=
  ∃ (I : Nat → Value → Value → Value → Value → Heap → Prop) (m0 : Nat), I m0 a0 b0 c0 d0 h0 ∧ ∀ m a b c d h, I m a b c d h → body a b c d h fun a' b' c' d' h' => ∃ m', m' < m ∧ I m' a' b' c' d' h'
def loop5 (a0 b0 c0 d0 e0 : Value) (h0 : Heap) (body : Value → Value → Value → Value → Value → Heap → (Value → Value → Value → Value → Value → Heap → Prop) → Prop) : Prop :=
  ∃ (I : Nat → Value → Value → Value → Value → Value → Heap → Prop) (m0 : Nat), I m0 a0 b0 c0 d0 e0 h0 ∧ ∀ m a b c d e h, I m a b c d e h → body a b c d e h fun a' b' c' d' e' h' => ∃ m', m' < m ∧ I m' a' b' c' d' e' h'
def loop6 (a0 b0 c0 d0 e0 g0 : Value) (h0 : Heap) (body : Value → Value → Value → Value → Value → Value → Heap → (Value → Value → Value → Value → Value → Value → Heap → Prop) → Prop) : Prop :=
  ∃ (I : Nat → Value → Value → Value → Value → Value → Value → Heap → Prop) (m0 : Nat), I m0 a0 b0 c0 d0 e0 g0 h0 ∧ ∀ m a b c d e g h, I m a b c d e g h → body a b c d e g h fun a' b' c' d' e' g' h' => ∃ m', m' < m ∧ I m' a' b' c' d' e' g' h'

/-! ### The operations -/
section ops
variable (P : Program)
def drawn (h : Heap) (B : (Heap → Prop) → Prop) : Prop := ∃ D : Heap → Prop, D h ∧ B D
def any (D : Heap → Prop) (K : Heap → Prop) : Prop := ∀ h, D h → K h

def callSem (f : Value) (args : Array Value) : Sem Next := do let d ← Deferred.ofValue f args; invoke d.target d.args
def invokeSem (recv : Value) (name : String) (args : Array Value) : Sem Next := invoke (.fn (.method name) #[]) (#[recv] ++ args)
def pickSem (c a b : Value) : Sem Next := do pure (.value (if ← asBool c then a else b))
def nilSem (x : Value) : Sem Next :=
  match x with
  | .pointer none | .nilIface | .nilFunc => runtimePanic .nilDeref
  | .func (.method name) first captured =>
    match (first[0]? : Option Value) with
    | some .nilIface => runtimePanic .nilDeref
    | some (.iface t w) => do
      if (← nilAhead ((← program).types.size + Made.depth) t w name) != some false then
        unsupported (.noEntry "op/nilCheck.the method's receiver behind this interface value is a nil pointer, or cannot be seen to be none, and the arguments act or may panic (ledger 612)")
      pure (.value (.func (.method name) first captured))
    | _ => pure (.value (.func (.method name) first captured))
  | x => pure (.value x)

theorem ex_call {ρ : Operand → Value} {o : Oper} {f : Operand} {l : List Operand} {ats : Array TypeId} (h : o.op = .call { callee := .value f, args := l.toArray, argTypes := ats }) :
    execOp ρ o = callSem (ρ f) (l.map ρ).toArray := by
  simp [execOp, h, resolve, callSem]
theorem ex_invoke {ρ : Operand → Value} {o : Oper} {f : Operand} {m : String} {l : List Operand} {ats : Array TypeId} (h : o.op = .call { callee := .invoke f m, args := l.toArray, argTypes := ats }) :
    execOp ρ o = invokeSem (ρ f) m (l.map ρ).toArray := by
  simp [execOp, h, resolve, invokeSem]
def isConstOpd : Operand → Bool
  | .const _ => true
  | _ => false
theorem ex_blt {ρ : Operand → Value} {o : Oper} {b : Builtin} {l : List Operand} {ats : Array TypeId} (h : o.op = .call { callee := .builtin b, args := l.toArray, argTypes := ats }) :
    execOp ρ o = builtin b ats o.type (l.map isConstOpd).toArray (l.map ρ).toArray := by
  simp only [execOp, h, resolve, pure_bind, invoke, List.map_toArray]
  congr 2
def oPick (c a b : Value) (K : Value → Prop) : Prop := Sp P (pickSem c a b) K
def oNil (x : Value) (K : Value → Prop) : Prop := Sp P (nilSem x) K
def oBin (op : BinOp) (t : TypeId) (x y : Operand) (a b : Value) (K : Value → Prop) : Prop := Sp P (nv (do eqGuard op t x y a b; binOp op t a b)) K
def oUn (op : UnOp) (a : Value) (K : Value → Prop) : Prop := Sp P (nv (Op.unary op a)) K
def oConv (s d : TypeId) (a : Value) (K : Value → Prop) : Prop := Sp P (nv (convert s d a)) K
def oConvX [Gd] (s d : TypeId) (a : Value) (h : Heap) (K : Value → Heap → Prop) : Prop := Sx P (nv (convert s d a)) h K
def oConvQ (s d : TypeId) (a : Value) (D : Heap → Prop) (K : Value → Prop) : Prop := Sq P D (nv (convert s d a)) K
/-- A panic: no walk that answers goes there. -/
def oPanic [Gd] (a : Value) (h : Heap) (K : Value → Heap → Prop) : Prop := Sx P (nv (Instr.panic a)) h K
def oIface (t : TypeId) (a : Value) (K : Value → Prop) : Prop := Sp P (nv (Instr.makeInterface t a)) K
def oFunc (fn : Fn) (l r : Array Value) (K : Value → Prop) : Prop := Sp P (nv (Instr.makeFunc fn l r)) K
def oSlice (t : TypeId) (a : Value) (lo hi mx : Option Value) (K : Value → Prop) : Prop := Sp P (nv (Instr.sliceAt t a lo hi mx)) K
def oFieldAddr (t : TypeId) (a : Value) (f : Nat) (D : Heap → Prop) (K : Value → Prop) : Prop := Sq P D (nv (Instr.fieldAt t a f)) K
def oField (t : TypeId) (a : Value) (f : Nat) (K : Value → Prop) : Prop := Sp P (nv (Instr.field t a f)) K
def oIdx (t : TypeId) (a i : Value) (K : Value → Prop) : Prop := Sp P (nv (Instr.indexAt t a i)) K
def oIndex (t : TypeId) (a i : Value) (K : Value → Prop) : Prop := Sp P (nv (Instr.index t a i)) K
def oExt (a : Value) (i : Nat) (K : Value → Prop) : Prop := Sp P (nv (Instr.extract a i)) K
def oAssert (x : Value) (t asserted : TypeId) (ok : Bool) (K : Value → Prop) : Prop := Sp P (nv (Instr.typeAssert x t asserted ok)) K
def oBuild (t : TypeId) (l : Array (Nat × Value)) (K : Value → Prop) : Prop := Sp P (nv (Instr.build t l)) K
def oLoad (t : TypeId) (a : Value) (D : Heap → Prop) (K : Value → Prop) : Prop := Sq P D (nv (Instr.loadAt t a)) K
def oLook (t : TypeId) (m k : Value) (ok : Bool) (D : Heap → Prop) (K : Value → Prop) : Prop := Sq P D (nv (Instr.lookup t m k ok)) K
def oEntry (i : Value) (D : Heap → Prop) (K : Value → Prop) : Prop := Sq P D (nv (Instr.entry i)) K
def oLen (ats : Array TypeId) (t : TypeId) (a : Value) (K : Value → Prop) : Prop := Sp P (nv (Builtin.len_ ats t #[a])) K
def oLenM (ats : Array TypeId) (t : TypeId) (a : Value) (D : Heap → Prop) (K : Value → Prop) : Prop := Sq P D (nv (Builtin.len_ ats t #[a])) K
def oCap (ats : Array TypeId) (t : TypeId) (a : Value) (K : Value → Prop) : Prop := Sp P (nv (Builtin.cap_ ats t #[a])) K
def oMin (ats : Array TypeId) (t : TypeId) (l : Array Value) (K : Value → Prop) : Prop := Sp P (nv (Builtin.min_ ats t l)) K
def oMax (ats : Array TypeId) (t : TypeId) (l : Array Value) (K : Value → Prop) : Prop := Sp P (nv (Builtin.max_ ats t l)) K
def oAlloc [Gd] (t : TypeId) (h : Heap) (K : Value → Heap → Prop) : Prop := Sx P (nv (Instr.alloc t true (.tuple #[]))) h K
def oBox [Gd] (t : TypeId) (a : Value) (h : Heap) (K : Value → Heap → Prop) : Prop := Sx P (nv (Instr.box t a)) h K
def oBuildSlice [Gd] (t : TypeId) (k : Nat) (l : Array (Nat × Value)) (h : Heap) (K : Value → Heap → Prop) : Prop := Sx P (nv (Instr.buildSlice t k l)) h K
def oStore [Gd] (t : TypeId) (a v : Value) (h : Heap) (K : Value → Heap → Prop) : Prop := Sx P (nu (Instr.storeAt t a v)) h K
def oMkMap [Gd] (t : TypeId) (r : Option Value) (h : Heap) (K : Value → Heap → Prop) : Prop := Sx P (nv (Instr.makeMap t r)) h K
def oMkSlice [Gd] (t : TypeId) (l c : Value) (h : Heap) (K : Value → Heap → Prop) : Prop := Sx P (nv (Instr.makeSlice t l c)) h K
def oUpd [Gd] (t : TypeId) (m k v : Value) (h : Heap) (K : Value → Heap → Prop) : Prop := Sx P (nu (Instr.mapUpdate t m k v)) h K
def oMapEntry [Gd] (t : TypeId) (m k : Value) (h : Heap) (K : Value → Heap → Prop) : Prop := Sx P (nv (Instr.mapEntry t m k)) h K
def oEntryStore [Gd] (t : TypeId) (m s v : Value) (h : Heap) (K : Value → Heap → Prop) : Prop := Sx P (nu (Instr.entryStore t m s v)) h K
def oRange [Gd] (t : TypeId) (a : Value) (h : Heap) (K : Value → Heap → Prop) : Prop := Sx P (nv (Instr.range t a)) h K
def oNext [Gd] (i : Value) (s : Bool) (t : TypeId) (h : Heap) (K : Value → Heap → Prop) : Prop := Sx P (nv (Instr.next i s t)) h K
def oAppend [Gd] (ats : Array TypeId) (t : TypeId) (l : Array Value) (h : Heap) (K : Value → Heap → Prop) : Prop := Sx P (nv (Builtin.append_ ats t l)) h K
def oCopy [Gd] (ats : Array TypeId) (t : TypeId) (l : Array Value) (h : Heap) (K : Value → Heap → Prop) : Prop := Sx P (nv (Builtin.copy_ ats t l)) h K
def oDelete [Gd] (ats : Array TypeId) (t : TypeId) (l : Array Value) (h : Heap) (K : Value → Heap → Prop) : Prop := Sx P (nv (Builtin.delete_ ats t l)) h K
def oClear [Gd] (ats : Array TypeId) (t : TypeId) (l : Array Value) (h : Heap) (K : Value → Heap → Prop) : Prop := Sx P (nv (Builtin.clear_ ats t l)) h K
def oCall [Gd] (f : Value) (l : Array Value) (h : Heap) (K : Value → Heap → Prop) : Prop := Sx P (callSem f l) h K
def oInvoke [Gd] (r : Value) (m : String) (l : Array Value) (h : Heap) (K : Value → Heap → Prop) : Prop := Sx P (invokeSem r m l) h K
def oCallQ [Gd] (f : Value) (l : Array Value) (D : Heap → Prop) (K : Value → Prop) : Prop := Sc P D (callSem f l) K
def oInvokeQ [Gd] (r : Value) (m : String) (l : Array Value) (D : Heap → Prop) (K : Value → Prop) : Prop := Sc P D (invokeSem r m l) K
end ops

/-! ### Short forms of the steps -/
section short
variable {P : Program} {ops : Array Oper} {Q : Exit → Act → World → Prop} {n : Nat} {f : Nat → Value} {w : World} {rest : List Oper} {o : Oper} {h : Heap}
end short
end Go.Sh
