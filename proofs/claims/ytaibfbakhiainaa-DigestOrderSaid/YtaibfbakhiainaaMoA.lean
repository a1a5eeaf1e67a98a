/- Texts of the claim, one behind the other. -/
import Derived.WalkKit
import Derived.Deep.Quiet
import Derived.StillTail
import Derived.WalkSpells
import Derived.WalkLawsBesides
import Derived.Test.YtaibfbakhiainaaRows
set_option linter.unusedVariables false
set_option linter.unusedSimpArgs false
set_option linter.unusedSectionVars false
namespace Go.Sh

abbrev Heap := Array Obj

/-- Is it told that draws are counted upwards? -/
class Gd where
  g : Prop
  /-- Where a panic may leave the heap. -/
  pn : Value → Heap → Prop := fun _ _ => False

/-- What a walk never turns. -/
structure SameWg (g : Prop) (w w' : World) : Prop where
  os : w'.os = w.os
  tape : w'.tape = w.tape
  output : w'.output = w.output
  drawn : g → w.drawn ≤ w'.drawn
abbrev SameW [Gd] (w w' : World) : Prop := SameWg Gd.g w w'
theorem SameWg.trans {g : Prop} {a b c : World} (h : SameWg g a b) (k : SameWg g b c) : SameWg g a c :=
  ⟨k.os.trans h.os, k.tape.trans h.tape, k.output.trans h.output, fun x => Nat.le_trans (h.drawn x) (k.drawn x)⟩

theorem SameW.refl [Gd] (w : World) : SameW w w := ⟨rfl, rfl, rfl, fun _ => Nat.le_refl _⟩
theorem SameW.trans [Gd] {a b c : World} (h : SameW a b) (k : SameW b c) : SameW a c :=
  ⟨k.os.trans h.os, k.tape.trans h.tape, k.output.trans h.output, fun g => Nat.le_trans (h.drawn g) (k.drawn g)⟩

/-- How a call may end. -/
def EndOk [Gd] (w : World) (K : Value → Heap → Prop) (e : Ending) (w' : World) : Prop :=
  (∃ v, e = .returned v ∧ SameW w w' ∧ K v w'.heap) ∨ ∃ x, e = .panicked [{ v := x, recovered := false }] ∧ SameW w w' ∧ Gd.pn x w'.heap
/-- The call of a function by heaps alone. -/
def HC [Gd] (P : Program) (f : FuncId) (args : Array Value) (h : Heap) (K : Value → Heap → Prop) : Prop :=
  ∀ w : World, w.heap = h → Calls P f args w (EndOk w K)
/-- The same where nothing panics. -/
@[reducible] def Gd.no (G : Gd) : Gd := ⟨G.g, fun _ _ => False⟩
def HCn [G : Gd] (P : Program) (f : FuncId) (args : Array Value) (h : Heap) (K : Value → Heap → Prop) : Prop := @HC G.no P f args h K
theorem SameW.no [G : Gd] {w w' : World} (h : @SameW G.no w w') : SameW w w' := h
theorem SameW.toNo [G : Gd] {w w' : World} (h : SameW w w') : @SameW G.no w w' := h
theorem EndOk.ret [Gd] {w w' : World} {K : Value → Heap → Prop} {v : Value} (hs : SameW w w') (hk : K v w'.heap) : EndOk w K (.returned v) w' := .inl ⟨v, rfl, hs, hk⟩
theorem HC.of_ret [Gd] {P : Program} {f : FuncId} {args : Array Value} {h : Heap} {K : Value → Heap → Prop}
    (hc : ∀ w : World, w.heap = h → Calls P f args w fun e w' => ∃ v, e = .returned v ∧ SameW w w' ∧ K v w'.heap) : HC P f args h K :=
  fun w hw => (hc w hw).mono fun _ _ h => .inl h
theorem HCn.calls [Gd] {P : Program} {f : FuncId} {args : Array Value} {h : Heap} {K : Value → Heap → Prop} (hc : HCn P f args h K) :
    ∀ w : World, w.heap = h → Calls P f args w fun e w' => ∃ v, e = .returned v ∧ SameW w w' ∧ K v w'.heap :=
  fun w hw => (hc w hw).mono fun _ _ h => h.elim (fun ⟨v, he, hs, hv⟩ => ⟨v, he, hs.no, hv⟩) fun ⟨_, _, _, h⟩ => h.elim
theorem HC.calls [Gd] (hn : ∀ x h, ¬ Gd.pn x h) {P : Program} {f : FuncId} {args : Array Value} {h : Heap} {K : Value → Heap → Prop} (hc : HC P f args h K) :
    ∀ w : World, w.heap = h → Calls P f args w fun e w' => ∃ v, e = .returned v ∧ SameW w w' ∧ K v w'.heap :=
  fun w hw => (hc w hw).mono fun _ _ h => h.elim id fun ⟨_, _, _, h⟩ => (hn _ _ h).elim
theorem HCn.hc [Gd] {P : Program} {f : FuncId} {args : Array Value} {h : Heap} {K : Value → Heap → Prop} (hc : HCn P f args h K) : HC P f args h K :=
  HC.of_ret hc.calls


theorem HC.mono [Gd] {P : Program} {f : FuncId} {args : Array Value} {h : Heap} {K K' : Value → Heap → Prop}
    (hc : HC P f args h K) (hk : ∀ v h', K v h' → K' v h') : HC P f args h K' :=
  fun w hw => (hc w hw).mono fun _ _ h => h.imp (fun ⟨v, he, hs, hv⟩ => ⟨v, he, hs, hk _ _ hv⟩) id

/-- What an operation may come to. -/
def NextOk [Gd] (P : Program) (K : Value → Heap → Prop) (w : World) : Result Next → Prop
  | .ok (.value v) w' => SameW w w' ∧ K v w'.heap
  | .ok .skip w' => SameW w w' ∧ K undef w'.heap
  | .ok (.enter f args) w' => SameW w w' ∧ HC P f args w'.heap K
  | .halt (.panic x) w' => SameW w w' ∧ Gd.pn x w'.heap
  | _ => False

/-- An operation that may turn the heap. -/
def Sx [Gd] (P : Program) (s : Sem Next) (h : Heap) (K : Value → Heap → Prop) : Prop :=
  ∀ w : World, w.heap = h → NextOk P K w (s.run P w)

/-- An operation that looks at nothing but its operands. -/
def Sp (P : Program) (s : Sem Next) (K : Value → Prop) : Prop :=
  ∃ v, (∀ w, s.run P w = .ok (.value v) w) ∧ K v

/-- An operation that reads, the same in each heap of a class. -/
def Sq (P : Program) (D : Heap → Prop) (s : Sem Next) (K : Value → Prop) : Prop :=
  ∃ v, (∀ w : World, D w.heap → s.run P w = .ok (.value v) w) ∧ K v

/-- A call that answers the same in each heap of a class, and leaves a heap of the class. -/
def Sc [Gd] (P : Program) (D : Heap → Prop) (s : Sem Next) (K : Value → Prop) : Prop :=
  ∃ v, (∀ w : World, D w.heap → ∃ f args, s.run P w = .ok (.enter f args) w ∧ HCn P f args w.heap fun u h' => u = v ∧ D h') ∧ K v

/-- A value as an operation's outcome. -/
def nv (s : Sem Value) : Sem Next := do pure (.value (← s))
/-- An operation without a value. -/
def nu (s : Sem Unit) : Sem Next := do s; pure .skip

def cond (v : Value) (A B : Prop) : Prop :=
  match v with
  | .bool true => A
  | .bool false => B
  | _ => False

/-- A place where ways meet: what is asked there, under a name. -/
def join {κ : Type} (k : κ) (B : κ → Prop) : Prop := B k

/-- The frame. -/
def upd (f : Nat → Value) (i : Nat) (v : Value) : Nat → Value := fun j => bif Nat.beq j i then v else f j
def mkD (ds : List Deferred) (n : Nat) (f : Nat → Value) : Act := ⟨((List.range n).map f).toArray, ds⟩
abbrev mk (n : Nat) (f : Nat → Value) : Act := mkD [] n f
/-- What stands behind a step takes panics. -/
class PnOk [Gd] (ds : List Deferred) (Q : Exit → Act → World → Prop) (w0 : outParam World) (A : outParam (Nat → (Nat → Value) → Prop)) : Prop where
  pn : ∀ x n f w, A n f → SameW w0 w → Gd.pn x w.heap → Q (.panic [{ v := x, recovered := false }]) (mkD ds n f) w
variable {ds : List Deferred}
def evf (n : Nat) (f : Nat → Value) : Operand → Value
  | .tmp t => bif Nat.blt t n then f t else undef
  | .const v => v
  | .global g => .pointer (some ⟨g, 0, none⟩)
  | .func f => .func (.func f) #[] #[]

theorem mk_eval (n : Nat) (f : Nat → Value) : (mkD ds n f).eval = evf n f := by
  funext x
  cases x with
  | tmp t =>
    simp only [Act.eval, evf, mkD]
    by_cases h : t < n
    · have : Nat.blt t n = true := by simpa [Nat.blt_eq] using h
      simp [h, this]
    · have : Nat.blt t n = false := by simpa [← Bool.not_eq_true, Nat.blt_eq] using h
      simp [h, this]
  | const v => rfl
  | global g => rfl
  | func f => rfl

theorem mk_put (n : Nat) (f : Nat → Value) (d : Nat) (v : Value) : (mkD ds n f).put (some d) v = mkD ds n (upd f d v) := by
  simp only [Act.put, mkD]
  congr 1
  apply Array.ext
  · simp
  · intro i h1 h2
    simp at h1
    simp only [List.getElem_toArray, List.getElem_map, List.getElem_range, upd]
    by_cases hd : d = i
    · subst hd; simp
    · have : Nat.beq i d = false := by simpa [← Bool.not_eq_true, Nat.beq_eq] using fun h => hd h.symm
      simp [hd, this]

theorem mk_put_none (n : Nat) (f : Nat → Value) (v : Value) : (mkD ds n f).put none v = mkD ds n f := rfl

theorem mk_get (n : Nat) (f : Nat → Value) (d : Nat) (h : d < n) : (mkD ds n f).tmps[d]? = some (f d) := by
  simp [mkD, h]

theorem mk_getD (n : Nat) (f : Nat → Value) (d : Nat) (h : Nat.blt d n = true) : (mkD ds n f).tmps.getD d undef = f d := by
  have h' : d < n := by simpa [Nat.blt_eq] using h
  simp [mkD, h']

/-! ### Operations in the order of the text -/
section list
variable {P : Program} {ops : Array Oper} {Q : Exit → Act → World → Prop} {n : Nat} {f : Nat → Value} {w : World} {rest : List Oper} {o : Oper} {h : Heap}

theorem list_of_upon (hg : Region.wanted o (yielded ops (mkD ds n f).tmps) = true)
    (h : o.upon P (mkD ds n f) (wpList P ops Q rest) Q ((execOp (evf n f) o).run P w)) : wpList P ops Q (o :: rest) (mkD ds n f) w := by
  unfold wpList
  rw [if_pos hg]
  refine .inl ?_
  unfold Oper.wp
  rw [mk_eval]
  exact h

theorem wanted_none {a : Act} (hg : o.guard = none) : Region.wanted o (yielded ops a.tmps) = true := by simp [Region.wanted, hg]

theorem wanted_of {j d : Nat} {b want : Bool} (hg : o.guard = some (j, want)) (hd : (ops[j]?).bind (·.dst) = some d) (hn : Nat.blt d n = true) (hv : f d = .bool b) :
    Region.wanted o (yielded ops (mkD ds n f).tmps) = (b == want) := by
  have hn' : d < n := by simpa [Nat.blt_eq] using hn
  simp [Region.wanted, hg, yielded, hd, mk_get n f d hn', hv]
theorem wanted_yes {j d : Nat} {want : Bool} (hg : o.guard = some (j, want)) (hd : (ops[j]?).bind (·.dst) = some d) (hn : Nat.blt d n = true) (hv : f d = .bool want) :
    Region.wanted o (yielded ops (mkD ds n f).tmps) = true := by rw [wanted_of hg hd hn hv]; simp
theorem wanted_no {j d : Nat} {want : Bool} (hg : o.guard = some (j, want)) (hd : (ops[j]?).bind (·.dst) = some d) (hn : Nat.blt d n = true) (hv : f d = .bool (!want)) :
    Region.wanted o (yielded ops (mkD ds n f).tmps) = false := by rw [wanted_of hg hd hn hv]; cases want <;> rfl
theorem wanted_noT {j d : Nat} (hg : o.guard = some (j, true)) (hd : (ops[j]?).bind (·.dst) = some d) (hn : Nat.blt d n = true) (hv : f d = .bool false) :
    Region.wanted o (yielded ops (mkD ds n f).tmps) = false := by rw [wanted_of hg hd hn hv]; rfl
theorem wanted_noF {j d : Nat} (hg : o.guard = some (j, false)) (hd : (ops[j]?).bind (·.dst) = some d) (hn : Nat.blt d n = true) (hv : f d = .bool true) :
    Region.wanted o (yielded ops (mkD ds n f).tmps) = false := by rw [wanted_of hg hd hn hv]; rfl
theorem wanted_undef {j d : Nat} {want : Bool} (hg : o.guard = some (j, want)) (hd : (ops[j]?).bind (·.dst) = some d) (hn : Nat.blt d n = true) (hv : f d = undef) :
    Region.wanted o (yielded ops (mkD ds n f).tmps) = false := by
  have hn' : d < n := by simpa [Nat.blt_eq] using hn
  simp [Region.wanted, hg, yielded, hd, mk_get n f d hn', hv, undef]

/-- A move. -/
theorem stepM {d : Nat} {x : Operand} {v : Value} (hop : o.op = .move x ∨ o.op = .assign x) (hg : Region.wanted o (yielded ops (mkD ds n f).tmps) = true) (hd : o.dst = some d)
    (hv : evf n f x = v) (k : wpList P ops Q rest (mkD ds n (upd f d v)) w) : wpList P ops Q (o :: rest) (mkD ds n f) w := by
  refine list_of_upon hg ?_
  have : (execOp (evf n f) o).run P w = .ok (.value v) w := by
    rcases hop with h | h <;> simp [execOp, h, hv]
  rw [this, Oper.upon_value, hd, mk_put]
  exact k

theorem stepP {d : Nat} {K : Value → Prop} {s : Sem Next} (he : execOp (evf n f) o = s) (hs : Sp P s K) (hg : Region.wanted o (yielded ops (mkD ds n f).tmps) = true) (hd : o.dst = some d)
    (k : ∀ v, K v → wpList P ops Q rest (mkD ds n (upd f d v)) w) : wpList P ops Q (o :: rest) (mkD ds n f) w := by
  subst he
  obtain ⟨v, hr, hk⟩ := hs
  refine list_of_upon hg ?_
  rw [hr w, Oper.upon_value, hd, mk_put]
  exact k v hk

theorem stepQ {d : Nat} {K : Value → Prop} {s : Sem Next} (he : execOp (evf n f) o = s) (hs : Sq P (Eq h) s K) (hw : w.heap = h) (hg : Region.wanted o (yielded ops (mkD ds n f).tmps) = true) (hd : o.dst = some d)
    (k : ∀ v, K v → wpList P ops Q rest (mkD ds n (upd f d v)) w) : wpList P ops Q (o :: rest) (mkD ds n f) w := by
  subst he
  obtain ⟨v, hr, hk⟩ := hs
  refine list_of_upon hg ?_
  rw [hr w hw.symm, Oper.upon_value, hd, mk_put]
  exact k v hk

theorem upon_of_next [Gd] {a : Act} {next : Act → World → Prop} {K : Value → Heap → Prop} {r : Result Next} (hs : NextOk P K w r)
    (k : ∀ v w', SameW w w' → K v w'.heap → next (a.put o.dst v) w') {w0 : World} {A : Nat → (Nat → Value) → Prop} {n : Nat} {f : Nat → Value} (ha : a = mkD ds n f) (hp : PnOk ds Q w0 A) (h0 : SameW w0 w) (hA : A n f) : o.upon P a next Q r := by
  match r, hs with
  | .ok (.value v) w', hs => exact k v w' hs.1 hs.2
  | .ok .skip w', hs => exact k undef w' hs.1 hs.2
  | .ok (.enter f args) w', hs =>
    show Calls P f args w' _
    refine (hs.2 w' rfl).mono fun e w'' he => ?_
    rcases he with ⟨v, rfl, hs', hv⟩ | ⟨x, rfl, hs', hx⟩
    · exact k v w'' (hs.1.trans hs') hv
    · subst ha; exact hp.pn x n _ w'' hA (h0.trans (hs.1.trans hs')) hx
  | .halt (.panic x) w', hs => subst ha; exact hp.pn x n _ w' hA (h0.trans hs.1) hs.2

theorem stepX [Gd] {d : Nat} {K : Value → Heap → Prop} {s : Sem Next} (he : execOp (evf n f) o = s) (hs : Sx P s h K) (hw : w.heap = h) (hg : Region.wanted o (yielded ops (mkD ds n f).tmps) = true) (hd : o.dst = some d)
    (k : ∀ v h' w', w'.heap = h' → SameW w w' → K v h' → wpList P ops Q rest (mkD ds n (upd f d v)) w') {w0 : World} {A : Nat → (Nat → Value) → Prop} [hpn : PnOk ds Q w0 A] (hs0 : SameW w0 w := by assumption) (hA0 : A n f := by first | exact True.intro | exact ⟨rfl, rfl, rfl, trivial⟩ | exact ⟨rfl, rfl, rfl, rfl, rfl, rfl, rfl, rfl, rfl, trivial⟩) : wpList P ops Q (o :: rest) (mkD ds n f) w := by
  subst he
  refine list_of_upon hg (upon_of_next (hs w hw) (fun v w' h1 h2 => ?_) rfl hpn hs0 hA0)
  rw [hd, mk_put]
  exact k v _ w' rfl h1 h2

theorem stepU [Gd] {K : Value → Heap → Prop} {s : Sem Next} (he : execOp (evf n f) o = s) (hs : Sx P s h K) (hw : w.heap = h) (hg : Region.wanted o (yielded ops (mkD ds n f).tmps) = true) (hd : o.dst = none)
    (k : ∀ v h' w', w'.heap = h' → SameW w w' → K v h' → wpList P ops Q rest (mkD ds n f) w') {w0 : World} {A : Nat → (Nat → Value) → Prop} [hpn : PnOk ds Q w0 A] (hs0 : SameW w0 w := by assumption) (hA0 : A n f := by first | exact True.intro | exact ⟨rfl, rfl, rfl, trivial⟩ | exact ⟨rfl, rfl, rfl, rfl, rfl, rfl, rfl, rfl, rfl, trivial⟩) : wpList P ops Q (o :: rest) (mkD ds n f) w := by
  subst he
  refine list_of_upon hg (upon_of_next (hs w hw) (fun v w' h1 h2 => ?_) rfl hpn hs0 hA0)
  rw [hd]
  exact k v _ w' rfl h1 h2

/-- An operation that its guard shuts out. -/
theorem stepSkip {d : Nat} (hg : Region.wanted o (yielded ops (mkD ds n f).tmps) = false) (hd : o.dst = some d)
    (k : wpList P ops Q rest (mkD ds n (upd f d undef)) w) : wpList P ops Q (o :: rest) (mkD ds n f) w := by
  unfold wpList
  rw [if_neg (by simp [hg]), hd, mk_put]
  exact k
theorem stepSkip0 (hg : Region.wanted o (yielded ops (mkD ds n f).tmps) = false) (hd : o.dst = none)
    (k : wpList P ops Q rest (mkD ds n f) w) : wpList P ops Q (o :: rest) (mkD ds n f) w := by
  unfold wpList
  rw [if_neg (by simp [hg]), hd]
  exact k
theorem stepEnd {a : Act} (k : Q .normal a w) : wpList P ops Q [] a w := k
end list

/-! ### A region that draws its order, each operation quiet in a class -/
section quiet
variable {P : Program} {ops : Array Oper} {Q : Act → Prop} {n : Nat} {f : Nat → Value} {w0 : World} {rest : List Oper} {o : Oper} {D : Heap → Prop}

def Cls [Gd] (D : Heap → Prop) (w0 w : World) : Prop := D w.heap ∧ SameW w0 w

theorem region_quiet [Gd] {id : Nat} {QQ : Exit → Act → World → Prop} {a : Act} {w : World} {l : List Oper} (hm : P.follows .mixedOrders = true) (hB : Region.lexB .any l.toArray = true)
    (hD : D w.heap) (h : wpQuiet P l.toArray (Cls D w) (fun a' => ∀ w', D w'.heap → SameW w w' → QQ .normal a' w') l a) : (Code.region id l.toArray true).wp P QQ a w := by
  refine wp_region_quiet (C := Cls D w) hm hB ⟨hD, ⟨rfl, rfl, rfl, fun _ => by first | exact Nat.le_refl _ | exact Nat.le_succ _ | exact Nat.le_add_right _ _⟩⟩ ?_
  have e : (fun a' => ∀ w', Cls D w w' → QQ .normal a' w') = (fun a' => ∀ w', D w'.heap → SameW w w' → QQ .normal a' w') := by
    funext a'; exact propext ⟨fun h w' h1 h2 => h w' ⟨h1, h2⟩, fun h w' ⟨h1, h2⟩ => h w' h1 h2⟩
  rw [e]
  simpa using h

theorem quiet_of [Gd] {d : Nat} {v : Value} (hg : Region.wanted o (yielded ops (mkD ds n f).tmps) = true) (hd : o.dst = some d)
    (hv : ∀ w, Cls D w0 w → Oper.quietUpon P (Cls D w0) w v ((execOp (evf n f) o).run P w))
    (k : wpQuiet P ops (Cls D w0) Q rest (mkD ds n (upd f d v))) : wpQuiet P ops (Cls D w0) Q (o :: rest) (mkD ds n f) := by
  unfold wpQuiet
  rw [if_pos hg]
  refine ⟨v, fun w hw => ?_, ?_⟩
  · unfold Oper.quietAt
    rw [mk_eval]
    exact hv w hw
  · rw [hd, mk_put]; exact k

theorem quietM [Gd] {d : Nat} {x : Operand} {v : Value} (hop : o.op = .move x ∨ o.op = .assign x) (hg : Region.wanted o (yielded ops (mkD ds n f).tmps) = true) (hd : o.dst = some d)
    (hv : evf n f x = v) (k : wpQuiet P ops (Cls D w0) Q rest (mkD ds n (upd f d v))) : wpQuiet P ops (Cls D w0) Q (o :: rest) (mkD ds n f) := by
  refine quiet_of (v := v) hg hd (fun w hw => ?_) k
  have : (execOp (evf n f) o).run P w = .ok (.value v) w := by
    rcases hop with h | h <;> simp [execOp, h, hv]
  rw [this]
  exact ⟨rfl, rfl⟩

theorem quietP [Gd] {d : Nat} {K : Value → Prop} {s : Sem Next} (he : execOp (evf n f) o = s) (hs : Sp P s K) (hg : Region.wanted o (yielded ops (mkD ds n f).tmps) = true) (hd : o.dst = some d)
    (k : ∀ v, K v → wpQuiet P ops (Cls D w0) Q rest (mkD ds n (upd f d v))) : wpQuiet P ops (Cls D w0) Q (o :: rest) (mkD ds n f) := by
  subst he
  obtain ⟨v, hr, hk⟩ := hs
  refine quiet_of (v := v) hg hd (fun w hw => ?_) (k v hk)
  rw [hr w]
  exact ⟨rfl, rfl⟩

theorem quietQ [Gd] {d : Nat} {K : Value → Prop} {s : Sem Next} (he : execOp (evf n f) o = s) (hs : Sq P D s K) (hg : Region.wanted o (yielded ops (mkD ds n f).tmps) = true) (hd : o.dst = some d)
    (k : ∀ v, K v → wpQuiet P ops (Cls D w0) Q rest (mkD ds n (upd f d v))) : wpQuiet P ops (Cls D w0) Q (o :: rest) (mkD ds n f) := by
  subst he
  obtain ⟨v, hr, hk⟩ := hs
  refine quiet_of (v := v) hg hd (fun w hw => ?_) (k v hk)
  rw [hr w hw.1]
  exact ⟨rfl, rfl⟩

theorem quietC [Gd] {d : Nat} {K : Value → Prop} {s : Sem Next} (he : execOp (evf n f) o = s) (hs : Sc P D s K) (hg : Region.wanted o (yielded ops (mkD ds n f).tmps) = true) (hd : o.dst = some d)
    (k : ∀ v, K v → wpQuiet P ops (Cls D w0) Q rest (mkD ds n (upd f d v))) : wpQuiet P ops (Cls D w0) Q (o :: rest) (mkD ds n f) := by
  subst he
  obtain ⟨v, hr, hk⟩ := hs
  refine quiet_of (v := v) hg hd (fun w hw => ?_) (k v hk)
  obtain ⟨g, args, hrun, hc⟩ := hr w hw.1
  rw [hrun]
  refine ⟨rfl, (hc.calls w rfl).mono fun e w'' ⟨u, he, hsame, hu, hD⟩ => ⟨?_, hD, hw.2.trans hsame⟩⟩
  rw [he, hu]

theorem quietSkip [Gd] {d : Nat} (hg : Region.wanted o (yielded ops (mkD ds n f).tmps) = false) (hd : o.dst = some d)
    (k : wpQuiet P ops (Cls D w0) Q rest (mkD ds n (upd f d undef))) : wpQuiet P ops (Cls D w0) Q (o :: rest) (mkD ds n f) := by
  unfold wpQuiet
  rw [if_neg (by simp [hg]), hd, mk_put]
  exact k
end quiet

structure PanicOk (Q : Exit → Act → World → Prop) : Prop where
  ok : ∀ c d v a w, Q (.panic c) (Act.put a d v) w → Q (.panic c) a w

/-! ### A region that draws its order: a head of reads and effects in one forced row, then a tail in one forced row -/
section mix
variable {P : Program} {ops : Array Oper} {Q : Exit → Act → World → Prop} {md : Region.Mode} {C : World → Prop}

def wpAnyM (P : Program) (md : Region.Mode) (ops : Array Oper) (Q : Exit → Act → World → Prop) (C : World → Prop) (n : Nat) (L : Array Bool → Act → World → Prop) : Nat → Array Bool → Act → World → Prop
  | 0, listed, a, w => L listed a w
  | fuel + 1, listed, a, w => Region.ready md ops listed ≠ [] ∧
    ∀ i ∈ Region.ready md ops listed, i < n ∧ wpOp P ops Q i (fun a' w' => C w' ∧ wpAnyM P md ops Q C n L fuel (listed.setIfInBounds i true) a' w') a w

variable {L : Array Bool → Act → World → Prop} {n : Nat}

theorem wpAny_of_M {g : Nat} (hL : ∀ listed a w, L listed a w → wpAny P md ops Q g listed a w) : ∀ (fuel : Nat) (listed : Array Bool) (a : Act) (w : World),
    wpAnyM P md ops Q C n L fuel listed a w → wpAny P md ops Q (fuel + g) listed a w
  | 0, _, _, _, h => by rw [Nat.zero_add]; exact hL _ _ _ h
  | fuel + 1, listed, a, w, h => by
    rw [show fuel + 1 + g = (fuel + g) + 1 from by omega]
    exact ⟨fun h0 => absurd h0 h.1, fun i hi => wpOp_mono (fun a' w' h' => wpAny_of_M hL fuel _ a' w' h'.2) (h.2 i hi).2⟩

def YieldsD (P : Program) (ops : Array Oper) (C : World → Prop) (o : Oper) (v : Value) (a : Act) : Prop :=
  (Region.wanted o (yielded ops a.tmps) = true ∧ ∀ w, C w → (execOp a.eval o).run P w = .ok (.value v) w) ∨
  (Region.wanted o (yielded ops a.tmps) = false ∧ v = undef)

theorem YieldsD.wpOp {i : Nat} {o : Oper} {v : Value} {a : Act} (hi : ops[i]? = some o) (hy : YieldsD P ops C o v a)
    {K : Act → World → Prop} {w : World} (hC : C w) (h : K (a.put o.dst v) w) : wpOp P ops Q i K a w := by
  unfold Go.wpOp
  simp only [hi]
  rcases hy with ⟨hw, hv⟩ | ⟨hw, rfl⟩
  · simp only [hw, if_true, Oper.wp, hv w hC, Oper.upon]; exact .inl h
  · simp only [hw, Bool.false_eq_true, if_false]; exact h

theorem YieldsD.of_same {o : Oper} {v : Value} {a a' : Act} (hy : YieldsD P ops C o v a) (he : execOp a'.eval o = execOp a.eval o)
    (hw : Region.wanted o (yielded ops a'.tmps) = Region.wanted o (yielded ops a.tmps)) : YieldsD P ops C o v a' := by
  unfold YieldsD at *
  rw [he, hw]
  exact hy

theorem wpOp_putD {j : Nat} {oi oj : Oper} {v : Value} (hj : ops[j]? = some oj) (hap : oi.apart ops oj = true)
    (hsi : ∀ cs b, oi.op ≠ .select cs b) (hsj : ∀ cs b, oj.op ≠ .select cs b)
    (hQ : ∀ c a w, Q (.panic c) (a.put oi.dst v) w → Q (.panic c) a w) {K : Act → World → Prop} {a : Act} {w : World}
    (hy : YieldsD P ops C oi v a) (h : wpOp P ops Q j K (a.put oi.dst v) w) :
    wpOp P ops Q j (fun a' w' => YieldsD P ops C oi v a' ∧ K (a'.put oi.dst v) w') a w := by
  obtain ⟨h1, h2, h3⟩ := Oper.apart_spec hap
  have keep : ∀ (a : Act), YieldsD P ops C oi v a → ∀ u, YieldsD P ops C oi v (a.put oj.dst u) := fun a hy u =>
    hy.of_same (execOp_put oi hsi a oj.dst u h3) (wanted_put oi a oj.dst u h3)
  have keepD : ∀ d, YieldsD P ops C oi v { a with defers := d :: a.defers } := fun d => hy.of_same rfl rfl
  unfold wpOp at *
  simp only [hj] at *
  rw [wanted_put oj a oi.dst v h1] at h
  split
  · rename_i hw
    simp only [hw, if_true] at h
    rcases h with h | ⟨hasks, hlets⟩
    case inr => exact .inr ⟨by unfold Oper.asks at *; rw [execOp_put oj hsj a oi.dst v h1] at hasks; exact hasks, hlets⟩
    refine .inl ?_
    unfold Oper.wp at *
    rw [execOp_put oj hsj a oi.dst v h1] at h
    generalize (execOp a.eval oj).run P w = r at *
    cases r with
    | ok n w' =>
      cases n <;> simp only [Oper.upon] at h ⊢
      case value u => exact ⟨keep a hy u, by rw [← Act.put_comm a v u h2]; exact h⟩
      case skip => exact ⟨keep a hy _, by rw [← Act.put_comm a v undef h2]; exact h⟩
      case defer d =>
        refine ⟨keep _ (keepD d) _, ?_⟩
        rw [← Act.put_comm _ v undef h2, ← Act.put_defers]
        exact h
      case enter f args =>
        refine Calls.mono h fun e w'' he => ?_
        cases e with
        | returned u => exact ⟨keep a hy u, by rw [← Act.put_comm a v u h2]; exact he⟩
        | panicked c => exact hQ _ _ _ he
        | outgrown => exact he
      case row row args => exact Rows.mono h fun u w'' he => ⟨keep a hy u, by rw [← Act.put_comm a v u h2]; exact he⟩
    | halt x w' =>
      cases x <;> simp only [Oper.upon] at h ⊢
      case panic u => exact hQ _ _ _ h
  · rename_i hw
    simp only [hw] at h
    exact ⟨keep a hy _, by rw [← Act.put_comm a v undef h2]; exact h⟩

theorem wpAnyM_first {i : Nat} {oi : Oper} {v : Value} (hi : ops[i]? = some oi) (hsel : ∀ (j : Nat) (o : Oper) cs b, ops[j]? = some o → o.op ≠ .select cs b)
    (hQ : ∀ c a w, Q (.panic c) (a.put oi.dst v) w → Q (.panic c) a w)
    (hs : Region.sinkB md ops n = true) (hc : Region.chainB md ops n = true) (hn : n < ops.size) (hin : i < n)
    (hdone : ∀ listed a w, L listed a w → ∀ j ∈ Region.ready md ops listed, n ≤ j) :
    ∀ (fuel : Nat) (listed : Array Bool) (a : Act) (w : World), HeadInv md ops n listed →
      (∀ j oj, ops[j]? = some oj → j ≠ i → listed.getD j true = false → (∀ e ∈ oj.after, Region.binds md e = true → e.on ≠ i) → oi.apart ops oj = true) →
      i ∈ Region.ready md ops listed → YieldsD P ops C oi v a → C w →
      wpAnyM P md ops Q C n L fuel (listed.setIfInBounds i true) (a.put oi.dst v) w → wpAnyM P md ops Q C n L (fuel + 1) listed a w := by
  intro fuel
  induction fuel with
  | zero =>
    intro listed a w inv _ hr hy hC H
    have hun := (mem_ready.1 hr).1
    refine ⟨fun h => (by rw [h] at hr; cases hr), fun j hj => ?_⟩
    have hjn : j < n := by
      rcases Nat.lt_or_ge j n with h | h
      · exact h
      · exact absurd hj (tail_waits hs hc hn inv _ i rfl hin hun j h)
    refine ⟨hjn, ?_⟩
    by_cases hji : j = i
    · subst hji; exact hy.wpOp hi hC ⟨hC, H⟩
    · have := hdone _ _ _ H j (ready_mono hj hji)
      omega
  | succ fuel ih =>
    intro listed a w inv hfree hr hy hC H
    have hun := (mem_ready.1 hr).1
    refine ⟨fun h => (by rw [h] at hr; cases hr), fun j hj => ?_⟩
    have hjn : j < n := by
      rcases Nat.lt_or_ge j n with h | h
      · exact h
      · exact absurd hj (tail_waits hs hc hn inv _ i rfl hin hun j h)
    refine ⟨hjn, ?_⟩
    by_cases hji : j = i
    · subst hji; exact hy.wpOp hi hC ⟨hC, H⟩
    · have h1 := (H.2 j (ready_mono hj hji)).2
      obtain ⟨hjun, oj, hoj, hall⟩ := mem_ready.1 hj
      have hnot : ∀ e ∈ oj.after, Region.binds md e = true → e.on ≠ i := fun e he hb heq => by
        have h1 := hall e he hb
        rw [heq, getD_both hun] at h1
        cases h1
      have h2 := wpOp_putD hoj (hfree j oj hoj hji hjun hnot) (fun cs b => hsel i oi cs b hi) (fun cs b => hsel j oj cs b hoj) hQ hy h1
      have hfree' : ∀ k ok, ops[k]? = some ok → k ≠ i → (listed.setIfInBounds j true).getD k true = false →
          (∀ e ∈ ok.after, Region.binds md e = true → e.on ≠ i) → oi.apart ops ok = true := fun k ok hk hki hun hno => by
        refine hfree k ok hk hki ?_ hno
        by_cases hjk : j = k
        · subst hjk; exact hjun
        · rw [getD_set_ne true hjk] at hun; exact hun
      refine wpOp_mono (fun a' w' h3 => ⟨h3.2.1, ih (listed.setIfInBounds j true) a' w' (inv.set hj hjn) hfree' (ready_mono hr (Ne.symm hji)) h3.1 h3.2.1 ?_⟩) h2
      rw [Array.setIfInBounds_comm _ _ hji]
      exact h3.2.2

/-- The head in the order of the text; true: a read, false: an effect. -/
def mixL (P : Program) (ops : Array Oper) (Q : Exit → Act → World → Prop) (C : World → Prop) (T : Act → World → Prop) : List (Bool × Oper) → Act → World → Prop
  | [], a, w => T a w
  | (q, o) :: rest, a, w =>
    if q then ∃ v, YieldsD P ops C o v a ∧ mixL P ops Q C T rest (a.put o.dst v) w
    else if Region.wanted o (yielded ops a.tmps) then o.wp P a w (fun a' w' => C w' ∧ mixL P ops Q C T rest a' w') Q
    else mixL P ops Q C T rest (a.put o.dst undef) w

def lexMix (md : Region.Mode) (ops : Array Oper) (g : Nat) : List Bool → Nat → Array Bool → Bool
  | [], k, listed => Region.seqB md ops g k listed
  | q :: qs, k, listed => (if q then (Region.ready md ops listed).contains k && Region.free md ops listed k else decide (Region.ready md ops listed = [k])) && lexMix md ops g qs (k + 1) (listed.setIfInBounds k true)

def lexMixB (ops : Array Oper) (qs : List Bool) : Bool :=
  Region.noSelect ops && decide (qs.length < ops.size) && Region.sinkB .any ops qs.length && Region.chainB .any ops qs.length && lexMix .any ops (ops.size - qs.length) qs 0 (Array.replicate ops.size false)

theorem wpAnyM_lex {g : Nat} {T : Act → World → Prop} (hsel : Region.noSelect ops = true) (hs : Region.sinkB md ops n = true) (hc : Region.chainB md ops n = true) (hn : n < ops.size)
    (hQ : ∀ c d v a w, Q (.panic c) (Act.put a d v) w → Q (.panic c) a w) :
    ∀ (l : List (Bool × Oper)) (k : Nat) (listed : Array Bool) (a : Act) (w : World), (∀ j x, l[j]? = some x → ops[k + j]? = some x.2) → k + l.length = n → HeadInv md ops n listed →
    lexMix md ops g (l.map (·.1)) k listed = true → C w → mixL P ops Q C T l a w →
    wpAnyM P md ops Q C n (fun listed' a' w' => Region.seqB md ops g n listed' = true ∧ T a' w') l.length listed a w
  | [], k, listed, a, w, _, hk, _, hB, _, h => by
    have : k = n := by simpa using hk
    subst this
    exact ⟨by simpa [lexMix] using hB, h⟩
  | (q, o) :: l, k, listed, a, w, hl, hk, inv, hB, hC, h => by
    have h0 : ops[k]? = some o := by simpa using hl 0 (q, o) (by simp)
    simp only [List.map_cons, lexMix, Bool.and_eq_true] at hB
    obtain ⟨hq, hB'⟩ := hB
    have hkn : k < n := by simp only [List.length_cons] at hk; omega
    have hl' : ∀ j x, l[j]? = some x → ops[k + 1 + j]? = some x.2 := fun j x hx => by
      have := hl (j + 1) x (by simpa using hx)
      rwa [show k + (j + 1) = k + 1 + j from by omega] at this
    have hk' : k + 1 + l.length = n := by simp only [List.length_cons] at hk; omega
    cases q with
    | true =>
      simp only [if_true, Bool.and_eq_true] at hq
      have hr' : k ∈ Region.ready md ops listed := by simpa using hq.1
      simp only [mixL, if_true] at h
      obtain ⟨v, hy, hK⟩ := h
      exact wpAnyM_first h0 (Region.noSelect_spec hsel) (fun c a w => hQ c o.dst v a w) hs hc hn hkn (fun listed' a' w' hL => seqB_ready hL.1) l.length listed a w inv (Region.free_spec h0 hq.2) hr' hy hC
        (wpAnyM_lex hsel hs hc hn hQ l (k + 1) _ _ w hl' hk' (inv.set hr' hkn) hB' hC hK)
    | false =>
      simp only [Bool.false_eq_true, if_false, decide_eq_true_eq] at hq
      have hr' : k ∈ Region.ready md ops listed := by rw [hq]; simp
      simp only [mixL, Bool.false_eq_true, if_false] at h
      refine ⟨fun h1 => (by rw [hq] at h1; cases h1), fun i hi => ?_⟩
      rw [hq, List.mem_singleton] at hi
      subst hi
      refine ⟨hkn, ?_⟩
      unfold wpOp
      simp only [h0]
      split
      · rename_i hw
        rw [if_pos hw] at h
        exact .inl (Oper.wp_mono (fun a' w' h' => ⟨h'.1, wpAnyM_lex hsel hs hc hn hQ l (i + 1) _ a' w' hl' hk' (inv.set hr' hkn) hB' h'.1 h'.2⟩) h)
      · rename_i hw
        rw [if_neg hw] at h
        exact ⟨hC, wpAnyM_lex hsel hs hc hn hQ l (i + 1) _ _ w hl' hk' (inv.set hr' hkn) hB' hC h⟩

theorem region_mix [Gd] {id : Nat} {a : Act} {w : World} {l : List Oper} (qs : List Bool) (hm : P.follows .mixedOrders = true) (hB : lexMixB l.toArray qs = true)
    (hQ : PanicOk Q) {D : Heap → Prop} (hD : D w.heap)
    (h : ∀ w', SameW w w' → w'.heap = w.heap → mixL P l.toArray Q (fun w => D w.heap) (fun a' w' => wpList P l.toArray Q (l.drop qs.length) a' w') (qs.zip l) a w') : (Code.region id l.toArray true).wp P Q a w := by
  simp only [lexMixB, Bool.and_eq_true, decide_eq_true_eq] at hB
  obtain ⟨⟨⟨⟨hsel, hn⟩, hs⟩, hc⟩, hlex⟩ := hB
  have hn' : qs.length < l.length := by simpa using hn
  have hzl : (qs.zip l).length = qs.length := by simp; omega
  have hdl : (l.drop qs.length).length = l.toArray.size - qs.length := by simp
  have inv0 : HeadInv .any l.toArray qs.length (Array.replicate l.toArray.size false) :=
    ⟨by simp, fun j oj _ hl => (by rw [getD_replicate_false] at hl; cases hl), fun t _ ht => getD_in (by simpa using ht) (getD_replicate_false _ _)⟩
  have H := wpAnyM_lex (md := .any) (g := l.toArray.size - qs.length) hsel hs hc hn hQ.ok (qs.zip l) 0 _ a { w with drawn := w.drawn + 1 } (fun j x hj => by
    rw [List.getElem?_zip_eq_some] at hj
    simpa using hj.2) (by simpa using hzl) inv0 (by rw [List.map_fst_zip (by omega)]; exact hlex) hD (h { w with drawn := w.drawn + 1 } ⟨rfl, rfl, rfl, fun _ => by first | exact Nat.le_refl _ | exact Nat.le_succ _ | exact Nat.le_add_right _ _⟩ rfl)
  refine wp_region_any hm ?_
  have := wpAny_of_M (Q := Q) (g := l.toArray.size - qs.length) (fun listed a' w' hL => by
    have := wpAny_of_seq (md := .any) (Q' := Q) (l.drop qs.length) qs.length listed a' w' (fun j => by simp [List.getElem?_drop]) (by rw [hdl]; exact hL.1) hL.2
    rwa [hdl] at this) _ _ _ _ H
  rw [hzl, show qs.length + (l.toArray.size - qs.length) = l.toArray.size by omega] at this
  exact this

/-- The head in an order of one's own choice. -/
def lexMixO (md : Region.Mode) (ops : Array Oper) (g n : Nat) : List (Bool × Nat) → Array Bool → Bool
  | [], listed => Region.seqB md ops g n listed
  | (q, k) :: qs, listed => (if q then (Region.ready md ops listed).contains k && Region.free md ops listed k else decide (Region.ready md ops listed = [k])) && decide (k < n) && lexMixO md ops g n qs (listed.setIfInBounds k true)
def lexMixOB (ops : Array Oper) (qs : List (Bool × Nat)) : Bool :=
  Region.noSelect ops && decide (qs.length < ops.size) && Region.sinkB .any ops qs.length && Region.chainB .any ops qs.length && lexMixO .any ops (ops.size - qs.length) qs.length qs (Array.replicate ops.size false)

theorem wpAnyM_lexO {g : Nat} {T : Act → World → Prop} (hsel : Region.noSelect ops = true) (hs : Region.sinkB md ops n = true) (hc : Region.chainB md ops n = true) (hn : n < ops.size)
    (hQ : ∀ c d v a w, Q (.panic c) (Act.put a d v) w → Q (.panic c) a w) :
    ∀ (l : List (Bool × Oper)) (qs : List (Bool × Nat)) (listed : Array Bool) (a : Act) (w : World), l.map (·.1) = qs.map (·.1) → (l.map fun x => some x.2) = qs.map (fun x => ops[x.2]?) → HeadInv md ops n listed →
    lexMixO md ops g n qs listed = true → C w → mixL P ops Q C T l a w →
    wpAnyM P md ops Q C n (fun listed' a' w' => Region.seqB md ops g n listed' = true ∧ T a' w') l.length listed a w
  | [], [], listed, a, w, _, _, _, hB, _, h => ⟨by simpa [lexMixO] using hB, h⟩
  | [], _ :: _, _, _, _, h, _, _, _, _, _ => by simp at h
  | _ :: _, [], _, _, _, h, _, _, _, _, _ => by simp at h
  | (q, o) :: l, (q', k) :: qs, listed, a, w, h1, h2, inv, hB, hC, h => by
    simp only [List.map_cons, List.cons.injEq] at h1 h2
    obtain ⟨rfl, h1'⟩ := h1
    obtain ⟨h0, h2'⟩ := h2
    have h0 := h0.symm
    simp only [lexMixO, Bool.and_eq_true, decide_eq_true_eq] at hB
    obtain ⟨⟨hq, hkn⟩, hB'⟩ := hB
    cases q with
    | true =>
      simp only [if_true, Bool.and_eq_true] at hq
      have hr' : k ∈ Region.ready md ops listed := by simpa using hq.1
      simp only [mixL, if_true] at h
      obtain ⟨v, hy, hK⟩ := h
      exact wpAnyM_first h0 (Region.noSelect_spec hsel) (fun c a w => hQ c o.dst v a w) hs hc hn hkn (fun listed' a' w' hL => seqB_ready hL.1) l.length listed a w inv (Region.free_spec h0 hq.2) hr' hy hC
        (wpAnyM_lexO hsel hs hc hn hQ l qs _ _ w h1' h2' (inv.set hr' hkn) hB' hC hK)
    | false =>
      simp only [Bool.false_eq_true, if_false, decide_eq_true_eq] at hq
      have hr' : k ∈ Region.ready md ops listed := by rw [hq]; simp
      simp only [mixL, Bool.false_eq_true, if_false] at h
      refine ⟨fun h1 => (by rw [hq] at h1; cases h1), fun i hi => ?_⟩
      rw [hq, List.mem_singleton] at hi
      subst hi
      refine ⟨hkn, ?_⟩
      unfold wpOp
      simp only [h0]
      split
      · rename_i hw
        rw [if_pos hw] at h
        exact .inl (Oper.wp_mono (fun a' w' h' => ⟨h'.1, wpAnyM_lexO hsel hs hc hn hQ l qs _ a' w' h1' h2' (inv.set hr' hkn) hB' h'.1 h'.2⟩) h)
      · rename_i hw
        rw [if_neg hw] at h
        exact ⟨hC, wpAnyM_lexO hsel hs hc hn hQ l qs _ _ w h1' h2' (inv.set hr' hkn) hB' hC h⟩

theorem region_mixo [Gd] {id : Nat} {a : Act} {w : World} {l : List Oper} (qs : List (Bool × Nat)) (ls : List (Bool × Oper)) (hls : ls.map (·.1) = qs.map (·.1)) (hls2 : (ls.map fun x => some x.2) = qs.map (fun x => l.toArray[x.2]?)) (hm : P.follows .mixedOrders = true) (hB : lexMixOB l.toArray qs = true)
    (hQ : PanicOk Q) {D : Heap → Prop} (hD : D w.heap)
    (h : ∀ w', SameW w w' → w'.heap = w.heap → mixL P l.toArray Q (fun w => D w.heap) (fun a' w' => wpList P l.toArray Q (l.drop qs.length) a' w') ls a w') : (Code.region id l.toArray true).wp P Q a w := by
  simp only [lexMixOB, Bool.and_eq_true, decide_eq_true_eq] at hB
  obtain ⟨⟨⟨⟨hsel, hn⟩, hs⟩, hc⟩, hlex⟩ := hB
  have hn' : qs.length < l.length := by simpa using hn
  have hzl : ls.length = qs.length := by simpa using congrArg List.length hls
  have hdl : (l.drop qs.length).length = l.toArray.size - qs.length := by simp
  have inv0 : HeadInv .any l.toArray qs.length (Array.replicate l.toArray.size false) :=
    ⟨by simp, fun j oj _ hl => (by rw [getD_replicate_false] at hl; cases hl), fun t _ ht => getD_in (by simpa using ht) (getD_replicate_false _ _)⟩
  have H := wpAnyM_lexO (md := .any) (g := l.toArray.size - qs.length) hsel hs hc hn hQ.ok ls qs _ a { w with drawn := w.drawn + 1 } hls hls2 inv0 hlex hD (h { w with drawn := w.drawn + 1 } ⟨rfl, rfl, rfl, fun _ => by first | exact Nat.le_refl _ | exact Nat.le_succ _ | exact Nat.le_add_right _ _⟩ rfl)
  refine wp_region_any hm ?_
  have := wpAny_of_M (Q := Q) (g := l.toArray.size - qs.length) (fun listed a' w' hL => by
    have := wpAny_of_seq (md := .any) (Q' := Q) (l.drop qs.length) qs.length listed a' w' (fun j => by simp [List.getElem?_drop]) (by rw [hdl]; exact hL.1) hL.2
    rwa [hdl] at this) _ _ _ _ H
  rw [hzl, show qs.length + (l.toArray.size - qs.length) = l.toArray.size by omega] at this
  exact this

/-! Whatever order: each effect keeps what was there. -/
def Ext (h h' : Heap) : Prop := h.size ≤ h'.size ∧ ∀ b, b < h.size → h'[b]? = h[b]?
theorem Ext.refl (h : Heap) : Ext h h := ⟨Nat.le_refl _, fun _ _ => rfl⟩
theorem Ext.trans {a b c : Heap} (h : Ext a b) (k : Ext b c) : Ext a c :=
  ⟨Nat.le_trans h.1 k.1, fun i hi => (k.2 i (Nat.lt_of_lt_of_le hi h.1)).trans (h.2 i hi)⟩

def wpAnyE (P : Program) (md : Region.Mode) (ops : Array Oper) (Q : Exit → Act → World → Prop) : Nat → Array Bool → Act → World → Prop
  | 0, listed, a, w => Region.ready md ops listed = [] ∧ Q .normal a w
  | fuel + 1, listed, a, w => (Region.ready md ops listed = [] → Q .normal a w) ∧
    ∀ i ∈ Region.ready md ops listed, wpOp P ops Q i (fun a' w' => Ext w.heap w'.heap ∧ wpAnyE P md ops Q fuel (listed.setIfInBounds i true) a' w') a w

theorem wpAny_of_E : ∀ (fuel : Nat) (listed : Array Bool) (a : Act) (w : World), wpAnyE P md ops Q fuel listed a w → wpAny P md ops Q fuel listed a w
  | 0, _, _, _, h => h
  | fuel + 1, _, _, _, h => ⟨h.1, fun i hi => wpOp_mono (fun a' w' h' => wpAny_of_E fuel _ a' w' h'.2) (h.2 i hi)⟩

theorem YieldsD.anti {C C' : World → Prop} {o : Oper} {v : Value} {a : Act} (hy : YieldsD P ops C o v a) (h : ∀ w, C' w → C w) : YieldsD P ops C' o v a :=
  hy.imp (fun h1 => ⟨h1.1, fun w hw => h1.2 w (h w hw)⟩) id

theorem wpAnyE_first {i : Nat} {oi : Oper} {v : Value} (hi : ops[i]? = some oi) (hsel : ∀ (j : Nat) (o : Oper) cs b, ops[j]? = some o → o.op ≠ .select cs b)
    (hQ : ∀ c a w, Q (.panic c) (a.put oi.dst v) w → Q (.panic c) a w) :
    ∀ (fuel : Nat) (listed : Array Bool) (a : Act) (w : World),
      (∀ j oj, ops[j]? = some oj → j ≠ i → listed.getD j true = false → (∀ e ∈ oj.after, Region.binds md e = true → e.on ≠ i) → oi.apart ops oj = true) →
      i ∈ Region.ready md ops listed → YieldsD P ops (fun w' => Ext w.heap w'.heap) oi v a →
      wpAnyE P md ops Q fuel (listed.setIfInBounds i true) (a.put oi.dst v) w → wpAnyE P md ops Q (fuel + 1) listed a w := by
  intro fuel
  induction fuel with
  | zero =>
    intro listed a w _ hr hy H
    refine ⟨fun h => (by rw [h] at hr; cases hr), fun j hj => ?_⟩
    by_cases hji : j = i
    · subst hji; exact hy.wpOp (K := fun a' w' => Ext w.heap w'.heap ∧ wpAnyE P md ops Q 0 (listed.setIfInBounds j true) a' w') hi (Ext.refl _) ⟨Ext.refl _, H⟩
    · have := ready_mono hj hji
      rw [H.1] at this
      cases this
  | succ fuel ih =>
    intro listed a w hfree hr hy H
    refine ⟨fun h => (by rw [h] at hr; cases hr), fun j hj => ?_⟩
    by_cases hji : j = i
    · subst hji; exact hy.wpOp (K := fun a' w' => Ext w.heap w'.heap ∧ wpAnyE P md ops Q (fuel + 1) (listed.setIfInBounds j true) a' w') hi (Ext.refl _) ⟨Ext.refl _, H⟩
    · have h1 := H.2 j (ready_mono hj hji)
      obtain ⟨hjun, oj, hoj, hall⟩ := mem_ready.1 hj
      have hun := (mem_ready.1 hr).1
      have hnot : ∀ e ∈ oj.after, Region.binds md e = true → e.on ≠ i := fun e he hb heq => by
        have h1 := hall e he hb
        rw [heq, getD_both hun] at h1
        cases h1
      have h2 := wpOp_putD hoj (hfree j oj hoj hji hjun hnot) (fun cs b => hsel i oi cs b hi) (fun cs b => hsel j oj cs b hoj) hQ hy h1
      have hfree' : ∀ k ok, ops[k]? = some ok → k ≠ i → (listed.setIfInBounds j true).getD k true = false →
          (∀ e ∈ ok.after, Region.binds md e = true → e.on ≠ i) → oi.apart ops ok = true := fun k ok hk hki hun hno => by
        refine hfree k ok hk hki ?_ hno
        by_cases hjk : j = k
        · subst hjk; exact hjun
        · rw [getD_set_ne true hjk] at hun; exact hun
      refine wpOp_mono (fun a' w' h3 => ⟨h3.2.1, ih (listed.setIfInBounds j true) a' w' hfree' (ready_mono hr (Ne.symm hji)) (h3.1.anti fun _ he => h3.2.1.trans he) ?_⟩) h2
      rw [Array.setIfInBounds_comm _ _ hji]
      exact h3.2.2

theorem region_exp [Gd] {id : Nat} {a : Act} {w : World} {l : List Oper} (hm : P.follows .mixedOrders = true)
    (h : ∀ w', SameW w w' → w'.heap = w.heap → wpAnyE P .any l.toArray Q l.length (Array.replicate l.length false) a w') : (Code.region id l.toArray true).wp P Q a w := by
  refine wp_region_any hm ?_
  have := wpAny_of_E _ _ _ _ (h { w with drawn := w.drawn + 1 } ⟨rfl, rfl, rfl, fun _ => by first | exact Nat.le_refl _ | exact Nat.le_succ _ | exact Nat.le_add_right _ _⟩ rfl)
  simpa using this

/-- What stands behind the region, under a name. -/
theorem region_exp_k [Gd] {id : Nat} {a : Act} {w : World} {l : List Oper} (hm : P.follows .mixedOrders = true) (hQ : PanicOk Q) {w0 : World} {A : Nat → (Nat → Value) → Prop} [hpn : PnOk [] Q w0 A]
    (h : ∀ K : Exit → Act → World → Prop, (∀ a w, Q .normal a w → K .normal a w) → PanicOk K → PnOk [] K w0 A → ∀ w', SameW w w' → w'.heap = w.heap → wpAnyE P .any l.toArray K l.length (Array.replicate l.length false) a w') : (Code.region id l.toArray true).wp P Q a w :=
  region_exp hm fun w' h1 h2 => h Q (fun _ _ h => h) hQ hpn w' h1 h2

section exp
variable {f : Nat → Value} {w : World} {o : Oper} {h : Heap} {m i fuel : Nat} {listed listed' : Array Bool}
theorem expR {d : Nat} {v : Value} (hi : ops[i]? = some o) (hok : (Region.noSelect ops && (Region.ready .any ops listed).contains i && Region.free .any ops listed i) = true)
    (hl : listed.setIfInBounds i true = listed') (hQ : PanicOk Q) (hd : o.dst = some d)
    (hy : YieldsD P ops (fun w' => Ext w.heap w'.heap) o v (mkD ds m f))
    (k : wpAnyE P .any ops Q fuel listed' (mkD ds m (upd f d v)) w) : wpAnyE P .any ops Q (fuel + 1) listed (mkD ds m f) w := by
  simp only [Bool.and_eq_true] at hok
  subst hl
  refine wpAnyE_first hi (Region.noSelect_spec hok.1.1) (fun c a w => hQ.ok c o.dst v a w) fuel listed _ w (Region.free_spec hi hok.2) (by simpa using hok.1.2) hy ?_
  rw [hd, mk_put]
  exact k
theorem expM {d : Nat} {x : Operand} {v : Value} (hi : ops[i]? = some o) (hok : (Region.noSelect ops && (Region.ready .any ops listed).contains i && Region.free .any ops listed i) = true)
    (hl : listed.setIfInBounds i true = listed') (hQ : PanicOk Q) (hop : o.op = .move x ∨ o.op = .assign x) (hg : Region.wanted o (yielded ops (mkD ds m f).tmps) = true) (hd : o.dst = some d)
    (hv : evf m f x = v) (k : wpAnyE P .any ops Q fuel listed' (mkD ds m (upd f d v)) w) : wpAnyE P .any ops Q (fuel + 1) listed (mkD ds m f) w := by
  refine expR hi hok hl hQ hd (.inl ⟨hg, fun w _ => ?_⟩) k
  rw [mk_eval]
  rcases hop with h | h <;> simp [execOp, h, hv]
theorem expP {d : Nat} {K : Value → Prop} {s : Sem Next} (hi : ops[i]? = some o) (hok : (Region.noSelect ops && (Region.ready .any ops listed).contains i && Region.free .any ops listed i) = true)
    (hl : listed.setIfInBounds i true = listed') (hQ : PanicOk Q) (he : execOp (evf m f) o = s) (hs : Sp P s K) (hg : Region.wanted o (yielded ops (mkD ds m f).tmps) = true) (hd : o.dst = some d)
    (k : ∀ v, K v → wpAnyE P .any ops Q fuel listed' (mkD ds m (upd f d v)) w) : wpAnyE P .any ops Q (fuel + 1) listed (mkD ds m f) w := by
  subst he
  obtain ⟨v, hr, hk⟩ := hs
  refine expR hi hok hl hQ hd (.inl ⟨hg, fun w _ => ?_⟩) (k v hk)
  rw [mk_eval]
  exact hr w
theorem expQ {d : Nat} {K : Value → Prop} {s : Sem Next} (hi : ops[i]? = some o) (hok : (Region.noSelect ops && (Region.ready .any ops listed).contains i && Region.free .any ops listed i) = true)
    (hl : listed.setIfInBounds i true = listed') (hQ : PanicOk Q) (he : execOp (evf m f) o = s) (hs : Sq P (Ext h) s K) (hw : w.heap = h) (hg : Region.wanted o (yielded ops (mkD ds m f).tmps) = true) (hd : o.dst = some d)
    (k : ∀ v, K v → wpAnyE P .any ops Q fuel listed' (mkD ds m (upd f d v)) w) : wpAnyE P .any ops Q (fuel + 1) listed (mkD ds m f) w := by
  subst he
  obtain ⟨v, hr, hk⟩ := hs
  refine expR hi hok hl hQ hd (.inl ⟨hg, fun w' hx => ?_⟩) (k v hk)
  rw [mk_eval]
  exact hr w' (hw ▸ hx)
theorem expSkip {d : Nat} (hi : ops[i]? = some o) (hok : (Region.noSelect ops && (Region.ready .any ops listed).contains i && Region.free .any ops listed i) = true)
    (hl : listed.setIfInBounds i true = listed') (hQ : PanicOk Q) (hg : Region.wanted o (yielded ops (mkD ds m f).tmps) = false) (hd : o.dst = some d)
    (k : wpAnyE P .any ops Q fuel listed' (mkD ds m (upd f d undef)) w) : wpAnyE P .any ops Q (fuel + 1) listed (mkD ds m f) w :=
  expR hi hok hl hQ hd (.inr ⟨hg, rfl⟩) k
/-- One effect of those that may come up now. -/
def expAt (P : Program) (ops : Array Oper) (Q : Exit → Act → World → Prop) (fuel : Nat) (listed : Array Bool) (a : Act) (w : World) (i : Nat) : Prop :=
  wpOp P ops Q i (fun a' w' => Ext w.heap w'.heap ∧ wpAnyE P .any ops Q fuel (listed.setIfInBounds i true) a' w') a w
theorem expAll1 (i : Nat) (hr : Region.ready .any ops listed = [i]) (h1 : expAt P ops Q fuel listed (mkD ds m f) w i) : wpAnyE P .any ops Q (fuel + 1) listed (mkD ds m f) w := by
  refine ⟨fun h0 => (by rw [hr] at h0; cases h0), fun j hj => ?_⟩
  rw [hr, List.mem_singleton] at hj
  subst hj; exact h1
theorem expAll2 (i j : Nat) (hr : Region.ready .any ops listed = [i, j]) (h1 : expAt P ops Q fuel listed (mkD ds m f) w i) (h2 : expAt P ops Q fuel listed (mkD ds m f) w j) : wpAnyE P .any ops Q (fuel + 1) listed (mkD ds m f) w := by
  refine ⟨fun h0 => (by rw [hr] at h0; cases h0), fun k hk => ?_⟩
  rw [hr] at hk
  rcases List.mem_cons.1 hk with rfl | hk
  · exact h1
  · rw [List.mem_singleton] at hk; subst hk; exact h2
theorem expAll3 (i j l : Nat) (hr : Region.ready .any ops listed = [i, j, l]) (h1 : expAt P ops Q fuel listed (mkD ds m f) w i) (h2 : expAt P ops Q fuel listed (mkD ds m f) w j) (h3 : expAt P ops Q fuel listed (mkD ds m f) w l) : wpAnyE P .any ops Q (fuel + 1) listed (mkD ds m f) w := by
  refine ⟨fun h0 => (by rw [hr] at h0; cases h0), fun k hk => ?_⟩
  rw [hr] at hk
  rcases List.mem_cons.1 hk with rfl | hk
  · exact h1
  · rcases List.mem_cons.1 hk with rfl | hk
    · exact h2
    · rw [List.mem_singleton] at hk; subst hk; exact h3
theorem expX [Gd] {d : Nat} {K : Value → Heap → Prop} {s : Sem Next} (hi : ops[i]? = some o) (hl : listed.setIfInBounds i true = listed')
    (he : execOp (evf m f) o = s) (hs : Sx P s h fun v h' => Ext h h' ∧ K v h') (hw : w.heap = h) (hg : Region.wanted o (yielded ops (mkD ds m f).tmps) = true) (hd : o.dst = some d)
    (k : ∀ v h' w', w'.heap = h' → SameW w w' → K v h' → wpAnyE P .any ops Q fuel listed' (mkD ds m (upd f d v)) w') {w0 : World} {A : Nat → (Nat → Value) → Prop} [hpn : PnOk ds Q w0 A] (hs0 : SameW w0 w := by assumption) (hA0 : A m f := by first | exact True.intro | exact ⟨rfl, rfl, rfl, trivial⟩ | exact ⟨rfl, rfl, rfl, rfl, rfl, rfl, rfl, rfl, rfl, trivial⟩) : expAt P ops Q fuel listed (mkD ds m f) w i := by
  subst he hl
  unfold expAt wpOp
  simp only [hi]
  rw [if_pos hg]
  refine .inl ?_
  unfold Oper.wp
  rw [mk_eval]
  refine upon_of_next (hs w hw) (fun v w' h1 h2 => ?_) rfl hpn hs0 hA0
  rw [hd, mk_put]
  exact ⟨hw ▸ h2.1, k v _ w' rfl h1 h2.2⟩
theorem expU [Gd] {K : Value → Heap → Prop} {s : Sem Next} (hi : ops[i]? = some o) (hl : listed.setIfInBounds i true = listed')
    (he : execOp (evf m f) o = s) (hs : Sx P s h fun v h' => Ext h h' ∧ K v h') (hw : w.heap = h) (hg : Region.wanted o (yielded ops (mkD ds m f).tmps) = true) (hd : o.dst = none)
    (k : ∀ v h' w', w'.heap = h' → SameW w w' → K v h' → wpAnyE P .any ops Q fuel listed' (mkD ds m f) w') {w0 : World} {A : Nat → (Nat → Value) → Prop} [hpn : PnOk ds Q w0 A] (hs0 : SameW w0 w := by assumption) (hA0 : A m f := by first | exact True.intro | exact ⟨rfl, rfl, rfl, trivial⟩ | exact ⟨rfl, rfl, rfl, rfl, rfl, rfl, rfl, rfl, rfl, trivial⟩) : expAt P ops Q fuel listed (mkD ds m f) w i := by
  subst he hl
  unfold expAt wpOp
  simp only [hi]
  rw [if_pos hg]
  refine .inl ?_
  unfold Oper.wp
  rw [mk_eval]
  refine upon_of_next (hs w hw) (fun v w' h1 h2 => ?_) rfl hpn hs0 hA0
  rw [hd]
  exact ⟨hw ▸ h2.1, k v _ w' rfl h1 h2.2⟩
theorem expEnd (hr : Region.ready .any ops listed = []) {a : Act} (h : Q .normal a w) : wpAnyE P .any ops Q 0 listed a w := ⟨hr, h⟩
end exp

variable {D : Heap → Prop} {T : Act → World → Prop} {f : Nat → Value} {w : World} {rest : List (Bool × Oper)} {o : Oper} {h : Heap} {m : Nat}

theorem mixR {d : Nat} {v : Value} (hg : Region.wanted o (yielded ops (mkD ds m f).tmps) = true) (hd : o.dst = some d)
    (hv : ∀ w : World, D w.heap → (execOp (evf m f) o).run P w = .ok (.value v) w)
    (k : mixL P ops Q (fun w => D w.heap) T rest (mkD ds m (upd f d v)) w) : mixL P ops Q (fun w => D w.heap) T ((true, o) :: rest) (mkD ds m f) w := by
  unfold mixL
  rw [if_pos rfl]
  refine ⟨v, .inl ⟨hg, fun w hw => ?_⟩, ?_⟩
  · rw [mk_eval]; exact hv w hw
  · rw [hd, mk_put]; exact k

theorem mixM {d : Nat} {x : Operand} {v : Value} (hop : o.op = .move x ∨ o.op = .assign x) (hg : Region.wanted o (yielded ops (mkD ds m f).tmps) = true) (hd : o.dst = some d)
    (hv : evf m f x = v) (k : mixL P ops Q (fun w => D w.heap) T rest (mkD ds m (upd f d v)) w) : mixL P ops Q (fun w => D w.heap) T ((true, o) :: rest) (mkD ds m f) w := by
  refine mixR (v := v) hg hd (fun w _ => ?_) k
  rcases hop with h | h <;> simp [execOp, h, hv]

theorem mixP {d : Nat} {K : Value → Prop} {s : Sem Next} (he : execOp (evf m f) o = s) (hs : Sp P s K) (hg : Region.wanted o (yielded ops (mkD ds m f).tmps) = true) (hd : o.dst = some d)
    (k : ∀ v, K v → mixL P ops Q (fun w => D w.heap) T rest (mkD ds m (upd f d v)) w) : mixL P ops Q (fun w => D w.heap) T ((true, o) :: rest) (mkD ds m f) w := by
  subst he
  obtain ⟨v, hr, hk⟩ := hs
  exact mixR (v := v) hg hd (fun w _ => hr w) (k v hk)

theorem mixQ {d : Nat} {K : Value → Prop} {s : Sem Next} (he : execOp (evf m f) o = s) (hs : Sq P D s K) (hg : Region.wanted o (yielded ops (mkD ds m f).tmps) = true) (hd : o.dst = some d)
    (k : ∀ v, K v → mixL P ops Q (fun w => D w.heap) T rest (mkD ds m (upd f d v)) w) : mixL P ops Q (fun w => D w.heap) T ((true, o) :: rest) (mkD ds m f) w := by
  subst he
  obtain ⟨v, hr, hk⟩ := hs
  exact mixR (v := v) hg hd hr (k v hk)

theorem mixX [Gd] {d : Nat} {K : Value → Heap → Prop} {s : Sem Next} (he : execOp (evf m f) o = s) (hs : Sx P s h fun v h' => D h' ∧ K v h') (hw : w.heap = h) (hg : Region.wanted o (yielded ops (mkD ds m f).tmps) = true) (hd : o.dst = some d)
    (k : ∀ v h' w', w'.heap = h' → SameW w w' → K v h' → mixL P ops Q (fun w => D w.heap) T rest (mkD ds m (upd f d v)) w') {w0 : World} {A : Nat → (Nat → Value) → Prop} [hpn : PnOk ds Q w0 A] (hs0 : SameW w0 w := by assumption) (hA0 : A m f := by first | exact True.intro | exact ⟨rfl, rfl, rfl, trivial⟩ | exact ⟨rfl, rfl, rfl, rfl, rfl, rfl, rfl, rfl, rfl, trivial⟩) : mixL P ops Q (fun w => D w.heap) T ((false, o) :: rest) (mkD ds m f) w := by
  subst he
  unfold mixL
  rw [if_neg (by simp), if_pos hg]
  unfold Oper.wp
  rw [mk_eval]
  refine upon_of_next (hs w hw) (fun v w' h1 h2 => ?_) rfl hpn hs0 hA0
  rw [hd, mk_put]
  exact ⟨h2.1, k v _ w' rfl h1 h2.2⟩

theorem mixU [Gd] {K : Value → Heap → Prop} {s : Sem Next} (he : execOp (evf m f) o = s) (hs : Sx P s h fun v h' => D h' ∧ K v h') (hw : w.heap = h) (hg : Region.wanted o (yielded ops (mkD ds m f).tmps) = true) (hd : o.dst = none)
    (k : ∀ v h' w', w'.heap = h' → SameW w w' → K v h' → mixL P ops Q (fun w => D w.heap) T rest (mkD ds m f) w') {w0 : World} {A : Nat → (Nat → Value) → Prop} [hpn : PnOk ds Q w0 A] (hs0 : SameW w0 w := by assumption) (hA0 : A m f := by first | exact True.intro | exact ⟨rfl, rfl, rfl, trivial⟩ | exact ⟨rfl, rfl, rfl, rfl, rfl, rfl, rfl, rfl, rfl, trivial⟩) : mixL P ops Q (fun w => D w.heap) T ((false, o) :: rest) (mkD ds m f) w := by
  subst he
  unfold mixL
  rw [if_neg (by simp), if_pos hg]
  unfold Oper.wp
  rw [mk_eval]
  refine upon_of_next (hs w hw) (fun v w' h1 h2 => ?_) rfl hpn hs0 hA0
  rw [hd]
  exact ⟨h2.1, k v _ w' rfl h1 h2.2⟩

theorem mixSkipR {d : Nat} (hg : Region.wanted o (yielded ops (mkD ds m f).tmps) = false) (hd : o.dst = some d)
    (k : mixL P ops Q (fun w => D w.heap) T rest (mkD ds m (upd f d undef)) w) : mixL P ops Q (fun w => D w.heap) T ((true, o) :: rest) (mkD ds m f) w := by
  unfold mixL
  rw [if_pos rfl]
  exact ⟨undef, .inr ⟨hg, rfl⟩, by rw [hd, mk_put]; exact k⟩
theorem mixSkipX {d : Nat} (hg : Region.wanted o (yielded ops (mkD ds m f).tmps) = false) (hd : o.dst = some d)
    (k : mixL P ops Q (fun w => D w.heap) T rest (mkD ds m (upd f d undef)) w) : mixL P ops Q (fun w => D w.heap) T ((false, o) :: rest) (mkD ds m f) w := by
  unfold mixL
  rw [if_neg (by simp), if_neg (by simp [hg]), hd, mk_put]
  exact k
end mix

/-! ### A region that draws its order, in which what reads memory stands, by its edges, ahead of every effect -/
section mixf
variable {P : Program} {ops : Array Oper} {Q : Exit → Act → World → Prop} {md : Region.Mode} {C : Array Bool → World → Prop}

def wpAnyF (P : Program) (md : Region.Mode) (ops : Array Oper) (Q : Exit → Act → World → Prop) (C : Array Bool → World → Prop) (n : Nat) (L : Array Bool → Act → World → Prop) : Nat → Array Bool → Act → World → Prop
  | 0, listed, a, w => L listed a w
  | fuel + 1, listed, a, w => Region.ready md ops listed ≠ [] ∧
    ∀ i ∈ Region.ready md ops listed, i < n ∧ wpOp P ops Q i (fun a' w' => C (listed.setIfInBounds i true) w' ∧ wpAnyF P md ops Q C n L fuel (listed.setIfInBounds i true) a' w') a w

variable {L : Array Bool → Act → World → Prop} {n : Nat}

theorem wpAny_of_F {g : Nat} (hL : ∀ listed a w, L listed a w → wpAny P md ops Q g listed a w) : ∀ (fuel : Nat) (listed : Array Bool) (a : Act) (w : World),
    wpAnyF P md ops Q C n L fuel listed a w → wpAny P md ops Q (fuel + g) listed a w
  | 0, _, _, _, h => by rw [Nat.zero_add]; exact hL _ _ _ h
  | fuel + 1, listed, a, w, h => by
    rw [show fuel + 1 + g = (fuel + g) + 1 from by omega]
    exact ⟨fun h0 => absurd h0 h.1, fun i hi => wpOp_mono (fun a' w' h' => wpAny_of_F hL fuel _ a' w' h'.2) (h.2 i hi).2⟩

theorem wpAnyF_first {i : Nat} {oi : Oper} {v : Value} {U : World → Prop} (hi : ops[i]? = some oi) (hsel : ∀ (j : Nat) (o : Oper) cs b, ops[j]? = some o → o.op ≠ .select cs b)
    (hQ : ∀ c a w, Q (.panic c) (a.put oi.dst v) w → Q (.panic c) a w)
    (hs : Region.sinkB md ops n = true) (hc : Region.chainB md ops n = true) (hn : n < ops.size) (hin : i < n)
    (hdone : ∀ listed a w, L listed a w → ∀ j ∈ Region.ready md ops listed, n ≤ j)
    (hU : ∀ listed w, HeadInv md ops n listed → listed.getD i true = false → C listed w → U w) (hCi : ∀ listed w, C (listed.setIfInBounds i true) w ↔ C listed w) :
    ∀ (fuel : Nat) (listed : Array Bool) (a : Act) (w : World), HeadInv md ops n listed →
      (∀ j oj, ops[j]? = some oj → j ≠ i → listed.getD j true = false → (∀ e ∈ oj.after, Region.binds md e = true → e.on ≠ i) → oi.apart ops oj = true) →
      i ∈ Region.ready md ops listed → YieldsD P ops U oi v a → C listed w →
      wpAnyF P md ops Q C n L fuel (listed.setIfInBounds i true) (a.put oi.dst v) w → wpAnyF P md ops Q C n L (fuel + 1) listed a w := by
  intro fuel
  induction fuel with
  | zero =>
    intro listed a w inv _ hr hy hC H
    have hun := (mem_ready.1 hr).1
    refine ⟨fun h => (by rw [h] at hr; cases hr), fun j hj => ?_⟩
    have hjn : j < n := by
      rcases Nat.lt_or_ge j n with h | h
      · exact h
      · exact absurd hj (tail_waits hs hc hn inv _ i rfl hin hun j h)
    refine ⟨hjn, ?_⟩
    by_cases hji : j = i
    · subst hji; exact hy.wpOp hi (hU _ _ inv hun hC) ⟨(hCi _ _).2 hC, H⟩
    · have := hdone _ _ _ H j (ready_mono hj hji)
      omega
  | succ fuel ih =>
    intro listed a w inv hfree hr hy hC H
    have hun := (mem_ready.1 hr).1
    refine ⟨fun h => (by rw [h] at hr; cases hr), fun j hj => ?_⟩
    have hjn : j < n := by
      rcases Nat.lt_or_ge j n with h | h
      · exact h
      · exact absurd hj (tail_waits hs hc hn inv _ i rfl hin hun j h)
    refine ⟨hjn, ?_⟩
    by_cases hji : j = i
    · subst hji; exact hy.wpOp hi (hU _ _ inv hun hC) ⟨(hCi _ _).2 hC, H⟩
    · have h1 := (H.2 j (ready_mono hj hji)).2
      obtain ⟨hjun, oj, hoj, hall⟩ := mem_ready.1 hj
      have hnot : ∀ e ∈ oj.after, Region.binds md e = true → e.on ≠ i := fun e he hb heq => by
        have h1 := hall e he hb
        rw [heq, getD_both hun] at h1
        cases h1
      have h2 := wpOp_putD hoj (hfree j oj hoj hji hjun hnot) (fun cs b => hsel i oi cs b hi) (fun cs b => hsel j oj cs b hoj) hQ hy h1
      have hfree' : ∀ k ok, ops[k]? = some ok → k ≠ i → (listed.setIfInBounds j true).getD k true = false →
          (∀ e ∈ ok.after, Region.binds md e = true → e.on ≠ i) → oi.apart ops ok = true := fun k ok hk hki hun hno => by
        refine hfree k ok hk hki ?_ hno
        by_cases hjk : j = k
        · subst hjk; exact hjun
        · rw [getD_set_ne true hjk] at hun; exact hun
      refine wpOp_mono (fun a' w' h3 => ?_) h2
      have hC' : C (listed.setIfInBounds j true) w' := by
        have := h3.2.1
        rw [Array.setIfInBounds_comm _ _ (Ne.symm hji)] at this
        exact (hCi _ _).1 this
      refine ⟨hC', ih (listed.setIfInBounds j true) a' w' (inv.set hj hjn) hfree' (ready_mono hr (Ne.symm hji)) h3.1 hC' ?_⟩
      rw [Array.setIfInBounds_comm _ _ hji]
      exact h3.2.2

/-- 0: what reads no memory; 1: what reads; else: an effect. -/
def mixF (P : Program) (ops : Array Oper) (Q : Exit → Act → World → Prop) (h : Heap) (T : Act → World → Prop) : List (Nat × Oper) → Act → World → Prop
  | [], a, w => T a w
  | (q, o) :: rest, a, w =>
    if q = 0 then ∃ v, YieldsD P ops (fun _ => True) o v a ∧ mixF P ops Q h T rest (a.put o.dst v) w
    else if q = 1 then ∃ v, YieldsD P ops (fun w => w.heap = h) o v a ∧ mixF P ops Q h T rest (a.put o.dst v) w
    else if Region.wanted o (yielded ops a.tmps) then o.wp P a w (fun a' w' => mixF P ops Q h T rest a' w') Q
    else mixF P ops Q h T rest (a.put o.dst undef) w

/-- What reads binds every effect. -/
def readsFirst (md : Region.Mode) (ops : Array Oper) (qs : List Nat) : Bool :=
  (List.range qs.length).all fun k => match qs[k]?, ops[k]? with
    | some q, some o => decide (q < 2) || ((List.range qs.length).all fun i => match qs[i]? with
      | some 1 => o.after.any fun e => Region.binds md e && e.on == i
      | _ => true)
    | _, _ => true
def CF (qs : List Nat) (h : Heap) (listed : Array Bool) (w : World) : Prop := (∀ (k q : Nat), qs[k]? = some q → 2 ≤ q → listed.getD k false = false) → w.heap = h
theorem CF.read {qs : List Nat} {h : Heap} {i q : Nat} (hq : qs[i]? = some q) (hlt : q < 2) (listed : Array Bool) (w : World) : CF qs h (listed.setIfInBounds i true) w ↔ CF qs h listed w := by
  unfold CF
  have key : ∀ (k q' : Nat), qs[k]? = some q' → 2 ≤ q' → (listed.setIfInBounds i true).getD k false = listed.getD k false := fun k q' hk hq' => by
    refine getD_set_ne false (fun e => ?_)
    subst e
    rw [hq] at hk
    simp only [Option.some.injEq] at hk
    omega
  constructor
  · exact fun hc hall => hc fun k q' hk hq' => by rw [key k q' hk hq']; exact hall k q' hk hq'
  · exact fun hc hall => hc fun k q' hk hq' => by have := hall k q' hk hq'; rwa [key k q' hk hq'] at this
theorem readsFirst_spec {qs : List Nat} (h : readsFirst md ops qs = true) {k q i : Nat} {o : Oper} (hk : qs[k]? = some q) (hq : 2 ≤ q) (ho : ops[k]? = some o) (hi : qs[i]? = some 1) :
    ∃ e ∈ o.after, Region.binds md e = true ∧ e.on = i := by
  have hkl : k < qs.length := (List.getElem?_eq_some_iff.1 hk).1
  have hil : i < qs.length := (List.getElem?_eq_some_iff.1 hi).1
  have h1 := List.all_eq_true.1 h k (List.mem_range.2 hkl)
  rw [hk, ho] at h1
  simp only [Bool.or_eq_true, decide_eq_true_eq] at h1
  rcases h1 with h1 | h1
  · omega
  · have h2 := List.all_eq_true.1 h1 i (List.mem_range.2 hil)
    rw [hi] at h2
    simp only [Array.any_eq_true, Bool.and_eq_true, beq_iff_eq] at h2
    first
      | (obtain ⟨e, he, hb, hon⟩ := h2; exact ⟨e, he, hb, hon⟩)
      | (obtain ⟨j, hj, hb, hon⟩ := h2; exact ⟨o.after[j], Array.getElem_mem hj, hb, hon⟩)

theorem wpAnyF_lex {g : Nat} {T : Act → World → Prop} {qs : List Nat} {h0 : Heap} (hsel : Region.noSelect ops = true) (hs : Region.sinkB md ops n = true) (hc : Region.chainB md ops n = true) (hn : n < ops.size)
    (hQ : ∀ c d v a w, Q (.panic c) (Act.put a d v) w → Q (.panic c) a w) (hrf : readsFirst md ops qs = true) :
    ∀ (l : List (Nat × Oper)) (k : Nat) (listed : Array Bool) (a : Act) (w : World), (∀ j x, l[j]? = some x → ops[k + j]? = some x.2 ∧ qs[k + j]? = some x.1) → k + l.length = n → HeadInv md ops n listed →
    lexMix md ops g (l.map fun x => decide (x.1 < 2)) k listed = true → CF qs h0 listed w → mixF P ops Q h0 T l a w →
    wpAnyF P md ops Q (CF qs h0) n (fun listed' a' w' => Region.seqB md ops g n listed' = true ∧ T a' w') l.length listed a w
  | [], k, listed, a, w, _, hk, _, hB, _, h => by
    have : k = n := by simpa using hk
    subst this
    exact ⟨by simpa [lexMix] using hB, h⟩
  | (q, o) :: l, k, listed, a, w, hl, hk, inv, hB, hC, h => by
    obtain ⟨h0', hq0⟩ : ops[k]? = some o ∧ qs[k]? = some q := by simpa using hl 0 (q, o) (by simp)
    simp only [List.map_cons, lexMix, Bool.and_eq_true] at hB
    obtain ⟨hq, hB'⟩ := hB
    have hkn : k < n := by simp only [List.length_cons] at hk; omega
    have hl' : ∀ j x, l[j]? = some x → ops[k + 1 + j]? = some x.2 ∧ qs[k + 1 + j]? = some x.1 := fun j x hx => by
      have := hl (j + 1) x (by simpa using hx)
      rwa [show k + (j + 1) = k + 1 + j from by omega] at this
    have hk' : k + 1 + l.length = n := by simp only [List.length_cons] at hk; omega
    by_cases hlt : q < 2
    · rw [if_pos (by simpa using hlt)] at hq
      simp only [Bool.and_eq_true] at hq
      have hr' : k ∈ Region.ready md ops listed := by simpa using hq.1
      have hC2 : ∀ listed w, CF qs h0 (listed.setIfInBounds k true) w ↔ CF qs h0 listed w := CF.read hq0 hlt
      have next : ∀ v, mixF P ops Q h0 T l (a.put o.dst v) w → wpAnyF P md ops Q (CF qs h0) n (fun listed' a' w' => Region.seqB md ops g n listed' = true ∧ T a' w') l.length (listed.setIfInBounds k true) (a.put o.dst v) w :=
        fun v hK => wpAnyF_lex hsel hs hc hn hQ hrf l (k + 1) _ _ w hl' hk' (inv.set hr' hkn) hB' ((hC2 _ _).2 hC) hK
      unfold mixF at h
      by_cases hz : q = 0
      · rw [if_pos hz] at h
        obtain ⟨v, hy, hK⟩ := h
        exact wpAnyF_first (U := fun _ => True) h0' (Region.noSelect_spec hsel) (fun c a w => hQ c o.dst v a w) hs hc hn hkn (fun listed' a' w' hL => seqB_ready hL.1) (fun _ _ _ _ _ => trivial) hC2 l.length listed a w inv (Region.free_spec h0' hq.2) hr' hy hC (next v hK)
      · have h1 : q = 1 := by omega
        subst h1
        rw [if_neg (by omega), if_pos rfl] at h
        obtain ⟨v, hy, hK⟩ := h
        refine wpAnyF_first (U := fun w => w.heap = h0) h0' (Region.noSelect_spec hsel) (fun c a w => hQ c o.dst v a w) hs hc hn hkn (fun listed' a' w' hL => seqB_ready hL.1) (fun listed w inv' hun hcf => hcf fun j q' hj hq' => ?_) hC2 l.length listed a w inv (Region.free_spec h0' hq.2) hr' hy hC (next v hK)
        cases hlj : listed.getD j false with
        | false => rfl
        | true =>
          exfalso
          have hjs : j < listed.size := by
            rcases Nat.lt_or_ge j listed.size with h | h
            · exact h
            · simp [Array.getElem?_eq_none h] at hlj
          obtain ⟨oj, hoj⟩ : ∃ oj, ops[j]? = some oj := ⟨ops[j]'(by rw [← inv'.size]; exact hjs), Array.getElem?_eq_getElem _⟩
          obtain ⟨e, he, hb, hon⟩ := readsFirst_spec hrf hj hq' hoj hq0
          have := inv'.closed j oj hoj hlj e he hb
          rw [hon, getD_both hun] at this
          cases this
    · rw [if_neg (by simpa using hlt)] at hq
      simp only [decide_eq_true_eq] at hq
      have hr' : k ∈ Region.ready md ops listed := by rw [hq]; simp
      have hCv : ∀ w', CF qs h0 (listed.setIfInBounds k true) w' := fun w' hall => by
        have h1 := hall k q hq0 (by omega)
        have h2 : k < listed.size := by
          have := (Array.getElem?_eq_some_iff.1 h0').1
          rw [inv.size]; exact this
        simp [h2] at h1
      unfold mixF at h
      rw [if_neg (by omega), if_neg (by omega)] at h
      refine ⟨fun h1 => (by rw [hq] at h1; cases h1), fun i hi => ?_⟩
      rw [hq, List.mem_singleton] at hi
      subst hi
      refine ⟨hkn, ?_⟩
      unfold wpOp
      simp only [h0']
      split
      · rename_i hw
        rw [if_pos hw] at h
        exact .inl (Oper.wp_mono (fun a' w' h' => ⟨hCv w', wpAnyF_lex hsel hs hc hn hQ hrf l (i + 1) _ a' w' hl' hk' (inv.set hr' hkn) hB' (hCv w') h'⟩) h)
      · rename_i hw
        rw [if_neg hw] at h
        exact ⟨hCv w, wpAnyF_lex hsel hs hc hn hQ hrf l (i + 1) _ _ w hl' hk' (inv.set hr' hkn) hB' (hCv w) h⟩

theorem region_fst [Gd] {id : Nat} {a : Act} {w : World} {l : List Oper} {h0 : Heap} (qs : List Nat) (hm : P.follows .mixedOrders = true) (hB : (lexMixB l.toArray (qs.map fun q => decide (q < 2)) && readsFirst .any l.toArray qs) = true)
    (hQ : PanicOk Q) (hw : w.heap = h0)
    (h : ∀ w', SameW w w' → w'.heap = w.heap → mixF P l.toArray Q h0 (fun a' w' => wpList P l.toArray Q (l.drop qs.length) a' w') (qs.zip l) a w') : (Code.region id l.toArray true).wp P Q a w := by
  simp only [lexMixB, Bool.and_eq_true, decide_eq_true_eq, List.length_map] at hB
  obtain ⟨⟨⟨⟨⟨hsel, hn⟩, hs⟩, hc⟩, hlex⟩, hrf⟩ := hB
  have hn' : qs.length < l.length := by simpa using hn
  have hzl : (qs.zip l).length = qs.length := by simp; omega
  have hdl : (l.drop qs.length).length = l.toArray.size - qs.length := by simp
  have inv0 : HeadInv .any l.toArray qs.length (Array.replicate l.toArray.size false) :=
    ⟨by simp, fun j oj _ hl => (by rw [getD_replicate_false] at hl; cases hl), fun t _ ht => getD_in (by simpa using ht) (getD_replicate_false _ _)⟩
  have H := wpAnyF_lex (md := .any) (g := l.toArray.size - qs.length) (h0 := h0) hsel hs hc hn hQ.ok hrf (qs.zip l) 0 _ a { w with drawn := w.drawn + 1 } (fun j x hj => by
    rw [List.getElem?_zip_eq_some] at hj
    simpa using hj.symm) (by simpa using hzl) inv0 (by
      have : ((qs.zip l).map fun x => decide (x.1 < 2)) = qs.map fun q => decide (q < 2) := by
        rw [show (fun x : Nat × Oper => decide (x.1 < 2)) = (fun q => decide (q < 2)) ∘ Prod.fst from rfl, ← List.map_map, List.map_fst_zip (by omega)]
      rw [this]; exact hlex) (fun _ => hw) (h { w with drawn := w.drawn + 1 } ⟨rfl, rfl, rfl, fun _ => by first | exact Nat.le_refl _ | exact Nat.le_succ _ | exact Nat.le_add_right _ _⟩ rfl)
  refine wp_region_any hm ?_
  have := wpAny_of_F (Q := Q) (g := l.toArray.size - qs.length) (fun listed a' w' hL => by
    have := wpAny_of_seq (md := .any) (Q' := Q) (l.drop qs.length) qs.length listed a' w' (fun j => by simp [List.getElem?_drop]) (by rw [hdl]; exact hL.1) hL.2
    rwa [hdl] at this) _ _ _ _ H
  rwa [hzl, show qs.length + (l.toArray.size - qs.length) = l.toArray.size from by omega] at this

variable {T : Act → World → Prop} {f : Nat → Value} {w : World} {rest : List (Nat × Oper)} {o : Oper} {h h0 : Heap} {m : Nat}
theorem fstM {d : Nat} {x : Operand} {v : Value} (hop : o.op = .move x ∨ o.op = .assign x) (hg : Region.wanted o (yielded ops (mkD ds m f).tmps) = true) (hd : o.dst = some d)
    (hv : evf m f x = v) (k : mixF P ops Q h0 T rest (mkD ds m (upd f d v)) w) : mixF P ops Q h0 T ((0, o) :: rest) (mkD ds m f) w := by
  unfold mixF
  rw [if_pos rfl]
  refine ⟨v, .inl ⟨hg, fun w _ => ?_⟩, ?_⟩
  · rw [mk_eval]
    rcases hop with h | h <;> simp [execOp, h, hv]
  · rw [hd, mk_put]; exact k
theorem fstP {d : Nat} {K : Value → Prop} {s : Sem Next} (he : execOp (evf m f) o = s) (hs : Sp P s K) (hg : Region.wanted o (yielded ops (mkD ds m f).tmps) = true) (hd : o.dst = some d)
    (k : ∀ v, K v → mixF P ops Q h0 T rest (mkD ds m (upd f d v)) w) : mixF P ops Q h0 T ((0, o) :: rest) (mkD ds m f) w := by
  subst he
  obtain ⟨v, hr, hk⟩ := hs
  unfold mixF
  rw [if_pos rfl]
  refine ⟨v, .inl ⟨hg, fun w _ => ?_⟩, ?_⟩
  · rw [mk_eval]; exact hr w
  · rw [hd, mk_put]; exact k v hk
theorem fstQ {d : Nat} {K : Value → Prop} {s : Sem Next} (he : execOp (evf m f) o = s) (hs : Sq P (Eq h0) s K) (hg : Region.wanted o (yielded ops (mkD ds m f).tmps) = true) (hd : o.dst = some d)
    (k : ∀ v, K v → mixF P ops Q h0 T rest (mkD ds m (upd f d v)) w) : mixF P ops Q h0 T ((1, o) :: rest) (mkD ds m f) w := by
  subst he
  obtain ⟨v, hr, hk⟩ := hs
  unfold mixF
  rw [if_neg (by omega), if_pos rfl]
  refine ⟨v, .inl ⟨hg, fun w hw => ?_⟩, ?_⟩
  · rw [mk_eval]; exact hr w hw.symm
  · rw [hd, mk_put]; exact k v hk
theorem fstX [Gd] {d : Nat} {K : Value → Heap → Prop} {s : Sem Next} (he : execOp (evf m f) o = s) (hs : Sx P s h K) (hw : w.heap = h) (hg : Region.wanted o (yielded ops (mkD ds m f).tmps) = true) (hd : o.dst = some d)
    (k : ∀ v h' w', w'.heap = h' → SameW w w' → K v h' → mixF P ops Q h0 T rest (mkD ds m (upd f d v)) w') {w0 : World} {A : Nat → (Nat → Value) → Prop} [hpn : PnOk ds Q w0 A] (hs0 : SameW w0 w := by assumption) (hA0 : A m f := by first | exact True.intro | exact ⟨rfl, rfl, rfl, trivial⟩ | exact ⟨rfl, rfl, rfl, rfl, rfl, rfl, rfl, rfl, rfl, trivial⟩) : mixF P ops Q h0 T ((2, o) :: rest) (mkD ds m f) w := by
  subst he
  unfold mixF
  rw [if_neg (by omega), if_neg (by omega), if_pos hg]
  unfold Oper.wp
  rw [mk_eval]
  refine upon_of_next (hs w hw) (fun v w' h1 h2 => ?_) rfl hpn hs0 hA0
  rw [hd, mk_put]
  exact k v _ w' rfl h1 h2
theorem fstU [Gd] {K : Value → Heap → Prop} {s : Sem Next} (he : execOp (evf m f) o = s) (hs : Sx P s h K) (hw : w.heap = h) (hg : Region.wanted o (yielded ops (mkD ds m f).tmps) = true) (hd : o.dst = none)
    (k : ∀ v h' w', w'.heap = h' → SameW w w' → K v h' → mixF P ops Q h0 T rest (mkD ds m f) w') {w0 : World} {A : Nat → (Nat → Value) → Prop} [hpn : PnOk ds Q w0 A] (hs0 : SameW w0 w := by assumption) (hA0 : A m f := by first | exact True.intro | exact ⟨rfl, rfl, rfl, trivial⟩ | exact ⟨rfl, rfl, rfl, rfl, rfl, rfl, rfl, rfl, rfl, trivial⟩) : mixF P ops Q h0 T ((2, o) :: rest) (mkD ds m f) w := by
  subst he
  unfold mixF
  rw [if_neg (by omega), if_neg (by omega), if_pos hg]
  unfold Oper.wp
  rw [mk_eval]
  refine upon_of_next (hs w hw) (fun v w' h1 h2 => ?_) rfl hpn hs0 hA0
  rw [hd]
  exact k v _ w' rfl h1 h2
theorem fstEnd {a : Act} (h : T a w) : mixF P ops Q h0 T [] a w := h
end mixf

/-! ### Code -/
section code
variable {P : Program} {Q : Exit → Act → World → Prop} {n : Nat} {f : Nat → Value} {w : World}

theorem region_seq {id : Nat} {l : List Oper} {a : Act} (h : wpList P l.toArray Q l a w) : (Code.region id l.toArray false).wp P Q a w := wp_region_lit h

theorem codeCond {c : Operand} {x y : Code} {v : Value} {A B : Prop} (hg : cond v A B) (hv : evf n f c = v)
    (hA : v = .bool true → A → x.wp P Q (mkD ds n f) w) (hB : v = .bool false → B → y.wp P Q (mkD ds n f) w) : (Code.cond c x y).wp P Q (mkD ds n f) w := by
  have he : (mkD ds n f).eval c = v := by rw [mk_eval]; exact hv
  cases v with
  | bool b =>
    cases b with
    | true => exact wp_cond_true he (hA rfl hg)
    | false => exact wp_cond_false he (hB rfl hg)
  | _ => exact hg.elim

theorem wp_loop_m {c : Code} {a : Act} (J : Nat → Act → World → Prop) (m0 : Nat) (h0 : J m0 a w)
    (round : ∀ m a w, J m a w → c.wp P (Exit.then (fun a' w' => ∃ m', m' < m ∧ J m' a' w') Q) a w) : (Code.loop c).wp P Q a w := by
  intro b k cs
  have key : ∀ m a w, J m a w →
      ∃ e a' w', Q e a' w' ∧ Arrives P (lone (b.at a (.code c :: .inLoop c :: k)) cs w) b k cs e a' w' := by
    intro m
    induction m using Nat.strongRecOn with
    | _ m ih =>
      intro a w hI
      obtain ⟨e, a₁, w₁, hq, harr⟩ := round m a w hI b (.inLoop c :: k) cs
      cases e with
      | normal =>
        obtain ⟨m', hlt, hI₁⟩ := hq
        obtain ⟨e₂, a₂, w₂, hq₂, harr₂⟩ := ih m' hlt a₁ w₁ hI₁
        exact ⟨e₂, a₂, w₂, hq₂, .of_steps (Steps.trans harr (.one step_inLoop)) harr₂⟩
      | exit id => exact ⟨_, a₁, w₁, hq, .pass (x := .inLoop c) rfl (fun _ _ => .inl (by simp)) harr⟩
      | goto l => exact ⟨_, a₁, w₁, hq, .pass (x := .inLoop c) rfl (fun _ _ => .inl (by simp)) harr⟩
      | ret => exact ⟨_, a₁, w₁, hq, .pass (x := .inLoop c) rfl (fun _ _ => .inl (by simp)) harr⟩
      | panic ch => exact ⟨_, a₁, w₁, hq, .pass (x := .inLoop c) rfl (fun _ _ => .inl (by simp)) harr⟩
      | outgrown => exact ⟨_, a₁, w₁, hq, .pass (x := .inLoop c) rfl (fun _ _ => .inl (by simp)) harr⟩
  obtain ⟨e, a', w', hq, harr⟩ := key m0 a w h0
  exact ⟨e, a', w', hq, .of_steps (.one step_loop) harr⟩

/-- Where a way ends at a name: the frame may be spelt otherwise. -/
theorem cast {K : Act → Prop} {n : Nat} {f g : Nat → Value} (he : mkD ds n f = mkD ds n g) (h : K (mkD ds n g)) : K (mkD ds n f) := by rw [he]; exact h

/-- A loop's shallow form: x0: what it begins with; 'body x h next'. -/
def loop {α : Type} (x0 : α) (h0 : Heap) (body : α → Heap → (α → Heap → Prop) → Prop) : Prop :=
  ∃ (I : Nat → α → Heap → Prop) (m0 : Nat), I m0 x0 h0 ∧ ∀ m x h, I m x h → body x h fun x' h' => ∃ m', m' < m ∧ I m' x' h'

theorem hc_of_wp [Gd] {g : FuncId} {fn : Func} {c : Code} {args : Array Value} {h : Heap} {K : Value → Heap → Prop} (hf : P.funcs[g]? = some fn) (hb : fn.body = some c)
    (hn : fn.ntmps = n) (ha : args ++ Array.replicate (n - args.size) undef = (mk n f).tmps)
    (hw : ∀ w : World, w.heap = h → c.wp P (bodyPost P fn (EndOk w K)) (mk n f) w) : HC P g args h K := by
  intro w hh
  refine calls_of_wp hf hb ?_
  rw [hn, ha]
  exact hw w hh

theorem post_ret {fn : Func} {R : Ending → World → Prop} {v : Value} (hr : (results fn (mk n f).tmps).run P w = .ok v w) (hR : R (.returned v) w) :
    bodyPost P fn R .ret (mk n f) w := ⟨rfl, v, hr, hR⟩
theorem post_end {fn : Func} {R : Ending → World → Prop} {v : Value} (hr : (results fn (mk n f).tmps).run P w = .ok v w) (hR : R (.returned v) w) :
    bodyPost P fn R .normal (mk n f) w := ⟨rfl, v, hr, hR⟩

theorem res_tmp {fn : Func} {t : Tmp} {v : Value} (h : fn.results = #[.tmp t]) (hn : Nat.blt t n = true) (hv : f t = v) :
    (results fn (mk n f).tmps).run P w = .ok v w := by
  rw [results_tmp h, mk_getD n f t hn, hv]
theorem res_tmp2 {fn : Func} {t u : Tmp} {v v' : Value} (h : fn.results = #[.tmp t, .tmp u]) (hn : Nat.blt t n = true) (hn' : Nat.blt u n = true) (hv : f t = v) (hv' : f u = v') :
    (results fn (mk n f).tmps).run P w = .ok (.tuple #[v, v']) w := by
  rw [results_tmp2 h, mk_getD n f t hn, mk_getD n f u hn', hv, hv']
/-- Results of which some lie in memory. -/
def rsem : List (Option TypeId × Value) → Sem (List Value)
  | [] => pure []
  | (none, v) :: r => do
    let l ← rsem r
    pure (v :: l)
  | (some t, x) :: r => do
    let v ← loadVar t (← asAddr x)
    let l ← rsem r
    pure (v :: l)
def rval (l : List (Option TypeId × Value)) : Sem Value := do
  let vs ← rsem l
  pure (match vs with | [v] => v | vs => .tuple vs.toArray)
def rrel (n : Nat) (f : Nat → Value) : List ResultVar → List (Option TypeId × Value) → Prop
  | [], [] => True
  | .tmp t :: rs, (none, v) :: l => Nat.blt t n = true ∧ f t = v ∧ rrel n f rs l
  | .cell t ty :: rs, (some ty', v) :: l => Nat.blt t n = true ∧ f t = v ∧ ty = ty' ∧ rrel n f rs l
  | _, _ => False
def rone (tmps : Array Value) : ResultVar → Sem Value
  | .tmp t => pure (tmps.getD t undef)
  | .cell a t => do loadVar t (← asAddr (tmps.getD a undef))
theorem rsem_eq : ∀ (rs : List ResultVar) (l : List (Option TypeId × Value)), rrel n f rs l → rs.mapM (rone (mk n f).tmps) = rsem l
  | [], [], _ => rfl
  | .tmp t :: rs, (none, v) :: l, h => by
    rw [List.mapM_cons, rsem_eq rs l h.2.2, rsem]
    simp only [rone, mk_getD n f t h.1, h.2.1]
    rfl
  | .cell t ty :: rs, (some ty', v) :: l, h => by
    obtain ⟨h1, h2, rfl, h4⟩ := h
    rw [List.mapM_cons, rsem_eq rs l h4, rsem]
    simp only [rone, mk_getD n f t h1, h2]
    simp
  | [], _ :: _, h => h.elim
  | .tmp _ :: _, [], h => h.elim
  | .cell _ _ :: _, [], h => h.elim
  | .tmp _ :: _, (some _, _) :: _, h => h.elim
  | .cell _ _ :: _, (none, _) :: _, h => h.elim
theorem results_list {fn : Func} {rs : List ResultVar} (h : fn.results = rs.toArray) (tmps : Array Value) :
    results fn tmps = (do let vs ← rs.mapM (rone tmps); pure (match vs with | [v] => v | vs => .tuple vs.toArray)) := by
  have e : results fn tmps = (do let vs ← fn.results.mapM (rone tmps); pure (if h : vs.size = 1 then vs[0] else .tuple vs)) := by
    unfold results
    congr 1
  rw [e, h, List.mapM_toArray, map_eq_pure_bind, bind_assoc]
  congr 1
  funext vs
  simp only [pure_bind]
  congr 1
  match vs with
  | [] => rfl
  | [v] => rfl
  | _ :: _ :: _ => rfl
def oRes (P : Program) (l : List (Option TypeId × Value)) (h : Heap) (K : Value → Heap → Prop) : Prop := Sq P (Eq h) (nv (rval l)) fun v => K v h
theorem post_res [Gd] {fn : Func} {h : Heap} {K : Value → Heap → Prop} {rs : List ResultVar} {l : List (Option TypeId × Value)} {w0 : World} (hg : oRes P l h K) (hw : w.heap = h) (hs : SameW w0 w)
    (hr : fn.results = rs.toArray) (hl : rrel n f rs l) : bodyPost P fn (EndOk w0 K) .ret (mk n f) w := by
  obtain ⟨v, hv, hk⟩ := hg
  have h1 := hv w hw.symm
  refine ⟨rfl, v, ?_, .inl ⟨v, rfl, hs, by rw [hw]; exact hk⟩⟩
  rw [results_list hr, rsem_eq rs l hl]
  have h2 : (nv (rval l)).run P w = .ok (.value v) w := h1
  unfold nv at h2
  rw [Sem.run_bind] at h2
  unfold rval at h2
  generalize (rsem l >>= fun vs => pure (match vs with | [v] => v | vs => Value.tuple vs.toArray)).run P w = r at h2 ⊢
  cases r with
  | ok x w' =>
    simp only [Result.andThen, pure, Sem.run] at h2
    injection h2 with h3 h4
    injection h3 with h5
    rw [h5, h4]
  | halt x w' => simp [Result.andThen] at h2
theorem res_none {fn : Func} (h : fn.results = #[]) : (results fn (mk n f).tmps).run P w = .ok (.tuple #[]) w := results_none h _ _ _

/-! ### Frames by what is known of them -/
def ovr : List (Nat × Value) → (Nat → Value) → Nat → Value
  | [], f, j => f j
  | (i, v) :: r, f, j => bif Nat.beq j i then v else ovr r f j
def agree : List (Nat × Value) → (Nat → Value) → Prop
  | [], _ => True
  | (i, v) :: r, f => f i = v ∧ agree r f
theorem ovr_self : ∀ {l : List (Nat × Value)} {f : Nat → Value}, agree l f → ovr l f = f
  | [], _, _ => rfl
  | (i, v) :: r, f, h => by
    funext j
    show (bif Nat.beq j i then v else ovr r f j) = f j
    rw [ovr_self h.2]
    by_cases hj : j = i
    · subst hj; simp [h.1]
    · have : Nat.beq j i = false := by simpa [← Bool.not_eq_true, Nat.beq_eq] using hj
      simp [this]
theorem at_ovr {K : Act → World → Prop} {l : List (Nat × Value)} (h : ∀ f, K (mkD ds n (ovr l f)) w) (ha : agree l f) : K (mkD ds n f) w := by
  have := h f
  rwa [ovr_self ha] at this
theorem at_ovr1 {K : Act → Prop} {l : List (Nat × Value)} (h : ∀ f, K (mkD ds n (ovr l f))) (ha : agree l f) : K (mkD ds n f) := by
  have := h f
  rwa [ovr_self ha] at this
theorem at_ovrN {K : Exit → Act → World → Prop} {l : List (Nat × Value)} (h : ∀ f, K .normal (mkD ds n (ovr l f)) w) (ha : agree l f) : K .normal (mkD ds n f) w := by
  have := h f
  rwa [ovr_self ha] at this
theorem mk_ovr {l : List (Nat × Value)} (ha : agree l f) : mkD ds n f = mkD ds n (ovr l f) := by rw [ovr_self ha]

theorem join_elim {κ : Type} {k : κ} {B : κ → Prop} (h : join k B) : ∃ k', k' = k ∧ B k' := ⟨k, rfl, h⟩

theorem thenN {y : Act → World → Prop} {a : Act} (h : y a w) : Exit.then y Q .normal a w := h
theorem thenE {y : Act → World → Prop} {a : Act} {id : Nat} (h : Q (.exit id) a w) : Exit.then y Q (.exit id) a w := h
theorem thenR {y : Act → World → Prop} {a : Act} (h : Q .ret a w) : Exit.then y Q .ret a w := h
theorem blkN {id : Nat} {a : Act} (h : Q .normal a w) : Exit.inBlock id Q .normal a w := h
theorem blkR {id : Nat} {a : Act} (h : Q .ret a w) : Exit.inBlock id Q .ret a w := h
theorem blkE {id : Nat} {a : Act} (h : Q .normal a w) : Exit.inBlock id Q (.exit id) a w := by simpa [Exit.inBlock] using h
theorem blkX {id id' : Nat} {a : Act} (hne : Nat.beq id' id = false) (h : Q (.exit id') a w) : Exit.inBlock id Q (.exit id') a w := by
  have : id' ≠ id := fun e => by subst e; simp at hne
  simpa [Exit.inBlock, this] using h

instance pnOk_base [Gd] {fn : Func} {w0 : World} {K : Value → Heap → Prop} : PnOk [] (bodyPost P fn (EndOk w0 K)) w0 (fun _ _ => True) := ⟨fun x _ _ _ _ hs hp => ⟨rfl, .inr ⟨x, rfl, hs, hp⟩⟩⟩
instance pnOk_then [Gd] {y : Act → World → Prop} {w0 : World} {A : Nat → (Nat → Value) → Prop} [h : PnOk ds Q w0 A] : PnOk ds (Exit.then y Q) w0 A := ⟨fun x n f w h1 h2 h3 => h.pn x n f w h1 h2 h3⟩
instance pnOk_blk [Gd] {id : Nat} {w0 : World} {A : Nat → (Nat → Value) → Prop} [h : PnOk ds Q w0 A] : PnOk ds (Exit.inBlock id Q) w0 A := ⟨fun x n f w h1 h2 h3 => h.pn x n f w h1 h2 h3⟩
theorem panicOk_then {y : Act → World → Prop} (h : PanicOk Q) : PanicOk (Exit.then y Q) := ⟨h.ok⟩
theorem panicOk_blk {id : Nat} (h : PanicOk Q) : PanicOk (Exit.inBlock id Q) := ⟨h.ok⟩
theorem panicOk_base {fn : Func} {R : Ending → World → Prop} : PanicOk (bodyPost P fn R) := ⟨fun _ d _ _ _ h => by
  cases d <;> exact h⟩

/-! Where ways meet inside a region. -/
theorem wpList_append {ops : Array Oper} : ∀ (l r : List Oper) (a : Act) (w : World), wpList P ops (Exit.then (wpList P ops Q r) Q) l a w → wpList P ops Q (l ++ r) a w
  | [], _, _, _, h => h
  | o :: l, r, a, w, h => by
    unfold wpList at h
    show wpList P ops Q (o :: (l ++ r)) a w
    unfold wpList
    split
    · rename_i hw
      rw [if_pos hw] at h
      refine h.imp (fun h => ?_) (fun h => ⟨h.1, ?_⟩)
      · have : ∀ {K K' : Act → World → Prop}, (∀ a w, K a w → K' a w) → o.wp P a w K (Exit.then (wpList P ops Q r) Q) → o.wp P a w K' Q := by
          intro K K' hK hh
          unfold Oper.wp at *
          generalize (execOp a.eval o).run P w = rr at *
          cases rr with
          | ok n w' =>
            cases n <;> simp only [Oper.upon] at hh ⊢ <;>
              first
                | exact hK _ _ hh
                | exact Calls.mono hh (fun e w'' he => by cases e <;> first | exact hK _ _ he | exact he)
                | exact Rows.mono hh (fun _ _ he => hK _ _ he)
          | halt x w' => cases x <;> simp only [Oper.upon] at hh ⊢ <;> exact hh
        exact this (fun a w => wpList_append l r a w) h
      · obtain ⟨a', w', h'⟩ := h.2
        exact ⟨a', w', h'⟩
    · rename_i hw
      rw [if_neg hw] at h
      exact wpList_append l r _ w h
theorem list_join {ops : Array Oper} {l : List Oper} {a : Act} (k : Nat)
    (h : ∀ K : Act → World → Prop, (∀ a w, wpList P ops Q (l.drop k) a w → K a w) → wpList P ops (Exit.then K Q) (l.take k) a w) : wpList P ops Q l a w := by
  have := wpList_append (P := P) (Q := Q) (ops := ops) (l.take k) (l.drop k) a w (h _ fun _ _ h => h)
  rwa [List.take_append_drop] at this
theorem wpQuiet_append {ops : Array Oper} {C : World → Prop} {Q : Act → Prop} : ∀ (l r : List Oper) (a : Act), wpQuiet P ops C (wpQuiet P ops C Q r) l a → wpQuiet P ops C Q (l ++ r) a
  | [], _, _, h => h
  | o :: l, r, a, h => by
    unfold wpQuiet at h
    show wpQuiet P ops C Q (o :: (l ++ r)) a
    unfold wpQuiet
    split
    · rename_i hw
      rw [if_pos hw] at h
      exact Oper.quiet_mono (fun a => wpQuiet_append l r a) h
    · rename_i hw
      rw [if_neg hw] at h
      exact wpQuiet_append l r _ h
theorem quiet_join {ops : Array Oper} {C : World → Prop} {Q : Act → Prop} {l : List Oper} {a : Act} (k : Nat)
    (h : ∀ K : Act → Prop, (∀ a, wpQuiet P ops C Q (l.drop k) a → K a) → wpQuiet P ops C K (l.take k) a) : wpQuiet P ops C Q l a := by
  have := wpQuiet_append (P := P) (Q := Q) (ops := ops) (C := C) (l.take k) (l.drop k) a (h _ fun _ h => h)
  rwa [List.take_append_drop] at this
theorem mixL_append {ops : Array Oper} {C : World → Prop} {T : Act → World → Prop} : ∀ (l r : List (Bool × Oper)) (a : Act) (w : World), mixL P ops Q C (mixL P ops Q C T r) l a w → mixL P ops Q C T (l ++ r) a w
  | [], _, _, _, h => h
  | (q, o) :: l, r, a, w, h => by
    unfold mixL at h
    show mixL P ops Q C T ((q, o) :: (l ++ r)) a w
    unfold mixL
    split
    · rename_i hq
      rw [if_pos hq] at h
      obtain ⟨v, hv, h⟩ := h
      exact ⟨v, hv, mixL_append l r _ w h⟩
    · rename_i hq
      rw [if_neg hq] at h
      split
      · rename_i hw
        rw [if_pos hw] at h
        exact Oper.wp_mono (fun a w h => ⟨h.1, mixL_append l r a w h.2⟩) h
      · rename_i hw
        rw [if_neg hw] at h
        exact mixL_append l r _ w h
theorem mix_join {ops : Array Oper} {C : World → Prop} {T : Act → World → Prop} {l : List (Bool × Oper)} {a : Act} (k : Nat)
    (h : ∀ K : Act → World → Prop, (∀ a w, mixL P ops Q C T (l.drop k) a w → K a w) → mixL P ops Q C K (l.take k) a w) : mixL P ops Q C T l a w := by
  have := mixL_append (P := P) (Q := Q) (ops := ops) (C := C) (T := T) (l.take k) (l.drop k) a w (h _ fun _ _ h => h)
  rwa [List.take_append_drop] at this
theorem quietEnd {ops : Array Oper} {C : World → Prop} {Q : Act → Prop} {a : Act} (h : Q a) : wpQuiet P ops C Q [] a := h
theorem mixEnd {ops : Array Oper} {C : World → Prop} {T : Act → World → Prop} {a : Act} (h : T a w) : mixL P ops Q C T [] a w := h
theorem cond_split {v : Value} {A B G : Prop} (hg : cond v A B) (hA : v = .bool true → A → G) (hB : v = .bool false → B → G) : G := by
  cases v with
  | bool b => cases b with
    | true => exact hA rfl hg
    | false => exact hB rfl hg
  | _ => exact hg.elim
end code

/-! ### Loops -/
def loop0 (h0 : Heap) (body : Heap → (Heap → Prop) → Prop) : Prop :=
  ∃ (I : Nat → Heap → Prop) (m0 : Nat), I m0 h0 ∧ ∀ m h, I m h → body h fun h' => ∃ m', m' < m ∧ I m' h'
def loop1 (a0 : Value) (h0 : Heap) (body : Value → Heap → (Value → Heap → Prop) → Prop) : Prop :=
  ∃ (I : Nat → Value → Heap → Prop) (m0 : Nat), I m0 a0 h0 ∧ ∀ m a h, I m a h → body a h fun a' h' => ∃ m', m' < m ∧ I m' a' h'
def loop2 (a0 b0 : Value) (h0 : Heap) (body : Value → Value → Heap → (Value → Value → Heap → Prop) → Prop) : Prop :=
  ∃ (I : Nat → Value → Value → Heap → Prop) (m0 : Nat), I m0 a0 b0 h0 ∧ ∀ m a b h, I m a b h → body a b h fun a' b' h' => ∃ m', m' < m ∧ I m' a' b' h'
def loop3 (a0 b0 c0 : Value) (h0 : Heap) (body : Value → Value → Value → Heap → (Value → Value → Value → Heap → Prop) → Prop) : Prop :=
  ∃ (I : Nat → Value → Value → Value → Heap → Prop) (m0 : Nat), I m0 a0 b0 c0 h0 ∧ ∀ m a b c h, I m a b c h → body a b c h fun a' b' c' h' => ∃ m', m' < m ∧ I m' a' b' c' h'
def loop4 (a0 b0 c0 d0 : Value) (h0 : Heap) (body : Value → Value → Value → Value → Heap → (Value → Value → Value → Value → Heap → Prop) → Prop) : Prop :=
  ∃ (I : Nat → Value → Value → Value → Value → Heap → Prop) (m0 : Nat), I m0 a0 b0 c0 d0 h0 ∧ ∀ m a b c d h, I m a b c d h → body a b c d h fun a' b' c' d' h' => ∃ m', m' < m ∧ I m' a' b' c' d' h'
def loop5 (a0 b0 c0 d0 e0 : Value) (h0 : Heap) (body : Value → Value → Value → Value → Value → Heap → (Value → Value → Value → Value → Value → Heap → Prop) → Prop) : Prop :=
  ∃ (I : Nat → Value → Value → Value → Value → Value → Heap → Prop) (m0 : Nat), I m0 a0 b0 c0 d0 e0 h0 ∧ ∀ m a b c d e h, I m a b c d e h → body a b c d e h fun a' b' c' d' e' h' => ∃ m', m' < m ∧ I m' a' b' c' d' e' h'
def loop6 (a0 b0 c0 d0 e0 g0 : Value) (h0 : Heap) (body : Value → Value → Value → Value → Value → Value → Heap → (Value → Value → Value → Value → Value → Value → Heap → Prop) → Prop) : Prop :=
  ∃ (I : Nat → Value → Value → Value → Value → Value → Value → Heap → Prop) (m0 : Nat), I m0 a0 b0 c0 d0 e0 g0 h0 ∧ ∀ m a b c d e g h, I m a b c d e g h → body a b c d e g h fun a' b' c' d' e' g' h' => ∃ m', m' < m ∧ I m' a' b' c' d' e' g' h'

/-! ### The operations -/
section ops
variable (P : Program)
def drawn (h : Heap) (B : (Heap → Prop) → Prop) : Prop := ∃ D : Heap → Prop, D h ∧ B D
def any (D : Heap → Prop) (K : Heap → Prop) : Prop := ∀ h, D h → K h

def callSem (f : Value) (args : Array Value) : Sem Next := do let d ← Deferred.ofValue f args; invoke d.target d.args
def invokeSem (recv : Value) (name : String) (args : Array Value) : Sem Next := invoke (.fn (.method name) #[]) (#[recv] ++ args)
def pickSem (c a b : Value) : Sem Next := do pure (.value (if ← asBool c then a else b))
def nilSem (x : Value) : Sem Next :=
  match x with
  | .pointer none | .nilIface | .nilFunc => runtimePanic .nilDeref
  | .func (.method name) first captured =>
    match (first[0]? : Option Value) with
    | some .nilIface => runtimePanic .nilDeref
    | some (.iface t w) => do
      if (← nilAhead ((← program).types.size + Made.depth) t w name) != some false then
        unsupported (.noEntry "op/nilCheck.the method's receiver behind this interface value is a nil pointer, or cannot be seen to be none, and the arguments act or may panic (ledger 612)")
      pure (.value (.func (.method name) first captured))
    | _ => pure (.value (.func (.method name) first captured))
  | x => pure (.value x)

theorem ex_call {ρ : Operand → Value} {o : Oper} {f : Operand} {l : List Operand} {ats : Array TypeId} (h : o.op = .call { callee := .value f, args := l.toArray, argTypes := ats }) :
    execOp ρ o = callSem (ρ f) (l.map ρ).toArray := by
  simp [execOp, h, resolve, callSem]
theorem ex_invoke {ρ : Operand → Value} {o : Oper} {f : Operand} {m : String} {l : List Operand} {ats : Array TypeId} (h : o.op = .call { callee := .invoke f m, args := l.toArray, argTypes := ats }) :
    execOp ρ o = invokeSem (ρ f) m (l.map ρ).toArray := by
  simp [execOp, h, resolve, invokeSem]
def isConstOpd : Operand → Bool
  | .const _ => true
  | _ => false
theorem ex_blt {ρ : Operand → Value} {o : Oper} {b : Builtin} {l : List Operand} {ats : Array TypeId} (h : o.op = .call { callee := .builtin b, args := l.toArray, argTypes := ats }) :
    execOp ρ o = builtin b ats o.type (l.map isConstOpd).toArray (l.map ρ).toArray := by
  simp only [execOp, h, resolve, pure_bind, invoke, List.map_toArray]
  congr 2
theorem ex_build {ρ : Operand → Value} {o : Oper} {t : TypeId} {l : List (Nat × Operand)} (h : o.op = .build t l.toArray) :
    execOp ρ o = nv (Instr.build t (l.map fun p => (p.1, ρ p.2)).toArray) := by
  simp [execOp, h, nv]
theorem ex_buildSlice {ρ : Operand → Value} {o : Oper} {t : TypeId} {k : Nat} {l : List (Nat × Operand)} (h : o.op = .buildSlice t k l.toArray) :
    execOp ρ o = nv (Instr.buildSlice t k (l.map fun p => (p.1, ρ p.2)).toArray) := by
  simp [execOp, h, nv]
theorem ex_makeFunc {ρ : Operand → Value} {o : Oper} {fn : Fn} {l r : List Operand} (h : o.op = .makeFunc fn l.toArray r.toArray) :
    execOp ρ o = nv (Instr.makeFunc fn (l.map ρ).toArray (r.map ρ).toArray) := by
  simp [execOp, h, nv]

def oPick (c a b : Value) (K : Value → Prop) : Prop := Sp P (pickSem c a b) K
def oNil (x : Value) (K : Value → Prop) : Prop := Sp P (nilSem x) K
def oBin (op : BinOp) (t : TypeId) (x y : Operand) (a b : Value) (K : Value → Prop) : Prop := Sp P (nv (do eqGuard op t x y a b; binOp op t a b)) K
def oUn (op : UnOp) (a : Value) (K : Value → Prop) : Prop := Sp P (nv (Op.unary op a)) K
def oConv (s d : TypeId) (a : Value) (K : Value → Prop) : Prop := Sp P (nv (convert s d a)) K
def oConvX [Gd] (s d : TypeId) (a : Value) (h : Heap) (K : Value → Heap → Prop) : Prop := Sx P (nv (convert s d a)) h K
def oConvQ (s d : TypeId) (a : Value) (D : Heap → Prop) (K : Value → Prop) : Prop := Sq P D (nv (convert s d a)) K
/-- A panic: no walk that answers goes there. -/
def oPanic [Gd] (a : Value) (h : Heap) (K : Value → Heap → Prop) : Prop := Sx P (nv (Instr.panic a)) h K
def oIface (t : TypeId) (a : Value) (K : Value → Prop) : Prop := Sp P (nv (Instr.makeInterface t a)) K
def oFunc (fn : Fn) (l r : Array Value) (K : Value → Prop) : Prop := Sp P (nv (Instr.makeFunc fn l r)) K
def oSlice (t : TypeId) (a : Value) (lo hi mx : Option Value) (K : Value → Prop) : Prop := Sp P (nv (Instr.sliceAt t a lo hi mx)) K
def oFieldAddr (t : TypeId) (a : Value) (f : Nat) (D : Heap → Prop) (K : Value → Prop) : Prop := Sq P D (nv (Instr.fieldAt t a f)) K
def oField (t : TypeId) (a : Value) (f : Nat) (K : Value → Prop) : Prop := Sp P (nv (Instr.field t a f)) K
def oIdx (t : TypeId) (a i : Value) (K : Value → Prop) : Prop := Sp P (nv (Instr.indexAt t a i)) K
def oIndex (t : TypeId) (a i : Value) (K : Value → Prop) : Prop := Sp P (nv (Instr.index t a i)) K
def oExt (a : Value) (i : Nat) (K : Value → Prop) : Prop := Sp P (nv (Instr.extract a i)) K
def oAssert (x : Value) (t asserted : TypeId) (ok : Bool) (K : Value → Prop) : Prop := Sp P (nv (Instr.typeAssert x t asserted ok)) K
def oBuild (t : TypeId) (l : Array (Nat × Value)) (K : Value → Prop) : Prop := Sp P (nv (Instr.build t l)) K
def oLoad (t : TypeId) (a : Value) (D : Heap → Prop) (K : Value → Prop) : Prop := Sq P D (nv (Instr.loadAt t a)) K
def oLook (t : TypeId) (m k : Value) (ok : Bool) (D : Heap → Prop) (K : Value → Prop) : Prop := Sq P D (nv (Instr.lookup t m k ok)) K
def oEntry (i : Value) (D : Heap → Prop) (K : Value → Prop) : Prop := Sq P D (nv (Instr.entry i)) K
def oLen (ats : Array TypeId) (t : TypeId) (a : Value) (K : Value → Prop) : Prop := Sp P (nv (Builtin.len_ ats t #[a])) K
def oLenM (ats : Array TypeId) (t : TypeId) (a : Value) (D : Heap → Prop) (K : Value → Prop) : Prop := Sq P D (nv (Builtin.len_ ats t #[a])) K
def oCap (ats : Array TypeId) (t : TypeId) (a : Value) (K : Value → Prop) : Prop := Sp P (nv (Builtin.cap_ ats t #[a])) K
def oMin (ats : Array TypeId) (t : TypeId) (l : Array Value) (K : Value → Prop) : Prop := Sp P (nv (Builtin.min_ ats t l)) K
def oMax (ats : Array TypeId) (t : TypeId) (l : Array Value) (K : Value → Prop) : Prop := Sp P (nv (Builtin.max_ ats t l)) K
def oAlloc [Gd] (t : TypeId) (h : Heap) (K : Value → Heap → Prop) : Prop := Sx P (nv (Instr.alloc t true (.tuple #[]))) h K
def oBox [Gd] (t : TypeId) (a : Value) (h : Heap) (K : Value → Heap → Prop) : Prop := Sx P (nv (Instr.box t a)) h K
def oBuildSlice [Gd] (t : TypeId) (k : Nat) (l : Array (Nat × Value)) (h : Heap) (K : Value → Heap → Prop) : Prop := Sx P (nv (Instr.buildSlice t k l)) h K
def oStore [Gd] (t : TypeId) (a v : Value) (h : Heap) (K : Value → Heap → Prop) : Prop := Sx P (nu (Instr.storeAt t a v)) h K
def oMkMap [Gd] (t : TypeId) (r : Option Value) (h : Heap) (K : Value → Heap → Prop) : Prop := Sx P (nv (Instr.makeMap t r)) h K
def oMkSlice [Gd] (t : TypeId) (l c : Value) (h : Heap) (K : Value → Heap → Prop) : Prop := Sx P (nv (Instr.makeSlice t l c)) h K
def oUpd [Gd] (t : TypeId) (m k v : Value) (h : Heap) (K : Value → Heap → Prop) : Prop := Sx P (nu (Instr.mapUpdate t m k v)) h K
def oMapEntry [Gd] (t : TypeId) (m k : Value) (h : Heap) (K : Value → Heap → Prop) : Prop := Sx P (nv (Instr.mapEntry t m k)) h K
def oEntryStore [Gd] (t : TypeId) (m s v : Value) (h : Heap) (K : Value → Heap → Prop) : Prop := Sx P (nu (Instr.entryStore t m s v)) h K
def oRange [Gd] (t : TypeId) (a : Value) (h : Heap) (K : Value → Heap → Prop) : Prop := Sx P (nv (Instr.range t a)) h K
def oNext [Gd] (i : Value) (s : Bool) (t : TypeId) (h : Heap) (K : Value → Heap → Prop) : Prop := Sx P (nv (Instr.next i s t)) h K
def oAppend [Gd] (ats : Array TypeId) (t : TypeId) (l : Array Value) (h : Heap) (K : Value → Heap → Prop) : Prop := Sx P (nv (Builtin.append_ ats t l)) h K
def oCopy [Gd] (ats : Array TypeId) (t : TypeId) (l : Array Value) (h : Heap) (K : Value → Heap → Prop) : Prop := Sx P (nv (Builtin.copy_ ats t l)) h K
def oDelete [Gd] (ats : Array TypeId) (t : TypeId) (l : Array Value) (h : Heap) (K : Value → Heap → Prop) : Prop := Sx P (nv (Builtin.delete_ ats t l)) h K
def oClear [Gd] (ats : Array TypeId) (t : TypeId) (l : Array Value) (h : Heap) (K : Value → Heap → Prop) : Prop := Sx P (nv (Builtin.clear_ ats t l)) h K
def oCall [Gd] (f : Value) (l : Array Value) (h : Heap) (K : Value → Heap → Prop) : Prop := Sx P (callSem f l) h K
def oInvoke [Gd] (r : Value) (m : String) (l : Array Value) (h : Heap) (K : Value → Heap → Prop) : Prop := Sx P (invokeSem r m l) h K
def oCallQ [Gd] (f : Value) (l : Array Value) (D : Heap → Prop) (K : Value → Prop) : Prop := Sc P D (callSem f l) K
def oInvokeQ [Gd] (r : Value) (m : String) (l : Array Value) (D : Heap → Prop) (K : Value → Prop) : Prop := Sc P D (invokeSem r m l) K
end ops

/-! ### Short forms of the steps -/
section short
variable {P : Program} {ops : Array Oper} {Q : Exit → Act → World → Prop} {n : Nat} {f : Nat → Value} {w : World} {rest : List Oper} {o : Oper} {h : Heap}
theorem sP {d : Nat} {K : Value → Prop} {s : Sem Next} (he : execOp (evf n f) o = s) (hs : Sp P s K) (hg : o.guard = none) (hd : o.dst = some d)
    (k : ∀ v, K v → wpList P ops Q rest (mkD ds n (upd f d v)) w) : wpList P ops Q (o :: rest) (mkD ds n f) w := stepP he hs (wanted_none hg) hd k
theorem sQ {d : Nat} {K : Value → Prop} {s : Sem Next} (he : execOp (evf n f) o = s) (hs : Sq P (Eq h) s K) (hw : w.heap = h) (hg : o.guard = none) (hd : o.dst = some d)
    (k : ∀ v, K v → wpList P ops Q rest (mkD ds n (upd f d v)) w) : wpList P ops Q (o :: rest) (mkD ds n f) w := stepQ he hs hw (wanted_none hg) hd k
theorem sM (v : Value) {d : Nat} {x : Operand} (hop : o.op = .move x) (hg : o.guard = none) (hd : o.dst = some d) (hv : evf n f x = v) (k : wpList P ops Q rest (mkD ds n (upd f d v)) w) :
    wpList P ops Q (o :: rest) (mkD ds n f) w := stepM (.inl hop) (wanted_none hg) hd hv k
theorem sA (v : Value) {d : Nat} {x : Operand} (hop : o.op = .assign x) (hg : o.guard = none) (hd : o.dst = some d) (hv : evf n f x = v) (k : wpList P ops Q rest (mkD ds n (upd f d v)) w) :
    wpList P ops Q (o :: rest) (mkD ds n f) w := stepM (.inr hop) (wanted_none hg) hd hv k
theorem sX [Gd] {d : Nat} {K : Value → Heap → Prop} {s : Sem Next} (he : execOp (evf n f) o = s) (hs : Sx P s h K) (hw : w.heap = h) (hg : o.guard = none) (hd : o.dst = some d) {w0 : World} {A : Nat → (Nat → Value) → Prop} [hpn : PnOk ds Q w0 A] (hs0 : SameW w0 w)
    (k : ∀ v h' w', w'.heap = h' → SameW w0 w' → K v h' → wpList P ops Q rest (mkD ds n (upd f d v)) w')
    (hA0 : A n f := by first | exact True.intro | exact ⟨rfl, rfl, rfl, trivial⟩ | exact ⟨rfl, rfl, rfl, rfl, rfl, rfl, rfl, rfl, rfl, trivial⟩) : wpList P ops Q (o :: rest) (mkD ds n f) w :=
  stepX he hs hw (wanted_none hg) hd (fun v h' w' h1 h2 h3 => k v h' w' h1 (hs0.trans h2) h3) hs0 hA0
theorem sU [Gd] {K : Value → Heap → Prop} {s : Sem Next} (he : execOp (evf n f) o = s) (hs : Sx P s h K) (hw : w.heap = h) (hg : o.guard = none) (hd : o.dst = none) {w0 : World} {A : Nat → (Nat → Value) → Prop} [hpn : PnOk ds Q w0 A] (hs0 : SameW w0 w)
    (k : ∀ v h' w', w'.heap = h' → SameW w0 w' → K v h' → wpList P ops Q rest (mkD ds n f) w')
    (hA0 : A n f := by first | exact True.intro | exact ⟨rfl, rfl, rfl, trivial⟩ | exact ⟨rfl, rfl, rfl, rfl, rfl, rfl, rfl, rfl, rfl, trivial⟩) : wpList P ops Q (o :: rest) (mkD ds n f) w :=
  stepU he hs hw (wanted_none hg) hd (fun v h' w' h1 h2 h3 => k v h' w' h1 (hs0.trans h2) h3) hs0 hA0
end short
end Go.Sh
namespace Go.Sh

/-! ### Cells -/
def cellAt (h : Heap) (a : Addr) : Option Value :=
  match h[a.block]? with
  | some (.cells c _ _) => if a.spot.isSome then none else c[a.off]?
  | _ => none
def frozenAt (h : Heap) (a : Addr) : Bool :=
  match h[a.block]? with
  | some (.cells _ _ (lo, hi)) => lo ≤ a.off && a.off < hi
  | _ => false
theorem cell?_eq (w : World) (a : Addr) : w.cell? a = cellAt w.heap a := rfl
theorem frozen?_eq (w : World) (a : Addr) : w.frozen? a = frozenAt w.heap a := rfl
theorem cellAt_ext {h h' : Heap} (he : Ext h h') {a : Addr} {v : Value} (hv : cellAt h a = some v) : cellAt h' a = some v := by
  unfold cellAt at *
  rcases Nat.lt_or_ge a.block h.size with hb | hb
  · rw [he.2 _ hb]; exact hv
  · simp [Array.getElem?_eq_none hb] at hv
theorem cellAt_same {h h' : Heap} {a : Addr} (he : h'[a.block]? = h[a.block]?) : cellAt h' a = cellAt h a := by
  unfold cellAt; rw [he]
theorem cellAt_lt {h : Heap} {a : Addr} {v : Value} (hv : cellAt h a = some v) : a.block < h.size := by
  rcases Nat.lt_or_ge a.block h.size with hb | hb
  · exact hb
  · simp [cellAt, Array.getElem?_eq_none hb] at hv

/-! ### Parts -/
structure HP where
  own : Heap → (Nat → Prop) → Prop
  loc : ∀ h h' S, own h S → (∀ b, S b → h'[b]? = h[b]?) → own h' S

def Sep (h : Heap) : List HP → (Nat → Prop) → Prop
  | [], _ => True
  | A :: L, U => ∃ S : Nat → Prop, A.own h S ∧ (∀ b, S b → U b) ∧ Sep h L (fun b => U b ∧ ¬ S b)

theorem Sep.mono {h : Heap} : ∀ {L : List HP} {U U' : Nat → Prop}, (∀ b, U b → U' b) → Sep h L U → Sep h L U'
  | [], _, _, _, _ => trivial
  | _ :: _, _, _, hu, ⟨S, hA, hS, hL⟩ => ⟨S, hA, fun b hb => hu b (hS b hb), Sep.mono (fun b hb => ⟨hu b hb.1, hb.2⟩) hL⟩
theorem Sep.loc {h h' : Heap} : ∀ {L : List HP} {U : Nat → Prop}, Sep h L U → (∀ b, U b → h'[b]? = h[b]?) → Sep h' L U
  | [], _, _, _ => trivial
  | A :: _, _, ⟨S, hA, hS, hL⟩, he => ⟨S, A.loc _ _ _ hA fun b hb => he b (hS b hb), hS, Sep.loc hL fun b hb => he b hb.1⟩
theorem Sep.swap {h : Heap} {A B : HP} {L : List HP} {U : Nat → Prop} : Sep h (A :: B :: L) U → Sep h (B :: A :: L) U := by
  rintro ⟨S, hA, hS, T, hB, hT, hL⟩
  refine ⟨T, hB, fun b hb => (hT b hb).1, S, hA, fun b hb => ⟨hS b hb, fun ht => (hT b ht).2 hb⟩, Sep.mono (fun b hb => ⟨⟨hb.1.1, hb.2⟩, hb.1.2⟩) hL⟩
theorem Sep.perm {h : Heap} {L L' : List HP} (p : L.Perm L') : ∀ {U : Nat → Prop}, Sep h L U → Sep h L' U := by
  induction p with
  | nil => exact fun h => h
  | cons x _ ih => rintro U ⟨S, hA, hS, hL⟩; exact ⟨S, hA, hS, ih hL⟩
  | swap x y l => exact fun h => Sep.swap h
  | trans _ _ ih1 ih2 => exact fun h => ih2 (ih1 h)
theorem Sep.append {h : Heap} : ∀ {L L' : List HP} {U V : Nat → Prop}, Sep h L U → Sep h L' V → (∀ b, U b → ¬ V b) → Sep h (L ++ L') (fun b => U b ∨ V b)
  | [], _, _, _, _, h', _ => Sep.mono (fun _ hb => .inr hb) h'
  | _ :: _, _, _, _, ⟨S, hA, hS, hL⟩, h', hd => ⟨S, hA, fun b hb => .inl (hS b hb),
      Sep.mono (fun b hb => hb.elim (fun hu => ⟨.inl hu.1, hu.2⟩) (fun hv => ⟨.inr hv, fun hs => hd b (hS b hs) hv⟩)) (Sep.append hL h' fun b hb => hd b hb.1)⟩
theorem Sep.split {h : Heap} : ∀ {L L' : List HP} {U : Nat → Prop}, Sep h (L ++ L') U → ∃ V : Nat → Prop, (∀ b, V b → U b) ∧ Sep h L V ∧ Sep h L' (fun b => U b ∧ ¬ V b)
  | [], _, U, hs => ⟨fun _ => False, fun _ h => h.elim, trivial, Sep.mono (fun _ hb => ⟨hb, fun h => h⟩) hs⟩
  | A :: L, L', U, ⟨S, hA, hS, hL⟩ => by
    obtain ⟨V, hV, h1, h2⟩ := Sep.split (L := L) (L' := L') hL
    refine ⟨fun b => S b ∨ V b, fun b hb => hb.elim (hS b) fun h => (hV b h).1, ⟨S, hA, fun b hb => .inl hb, ?_⟩, Sep.mono (fun b hb => ⟨hb.1.1, fun h => h.elim hb.1.2 hb.2⟩) h2⟩
    exact Sep.mono (fun b hb => ⟨.inr hb, (hV b hb).2⟩) h1

/-- What was there at the beginning is as it was; beside it there are these parts. -/
def St (h0 h : Heap) (L : List HP) : Prop := Ext h0 h ∧ Sep h L (fun b => h0.size ≤ b ∧ b < h.size)

theorem St.ext {h0 h : Heap} {L : List HP} (s : St h0 h L) : Ext h0 h := s.1
theorem St.nil (h : Heap) : St h h [] := ⟨Ext.refl h, trivial⟩
theorem St.perm {h0 h : Heap} {L L' : List HP} (s : St h0 h L) (p : L.Perm L') : St h0 h L' := ⟨s.1, Sep.perm p s.2⟩
theorem St.imp {h0 h : Heap} {A A' : HP} {L : List HP} (s : St h0 h (A :: L)) (f : ∀ S, A.own h S → A'.own h S) : St h0 h (A' :: L) := by
  obtain ⟨he, S, hA, r⟩ := s
  exact ⟨he, S, f S hA, r⟩
theorem St.drop {h0 h : Heap} {A : HP} {L : List HP} (s : St h0 h (A :: L)) : St h0 h L := by
  obtain ⟨he, S, _, _, r⟩ := s
  exact ⟨he, Sep.mono (fun b hb => hb.1) r⟩
theorem St.dropAll {h0 h : Heap} {L : List HP} (s : St h0 h L) : St h0 h [] := ⟨s.1, trivial⟩
theorem St.swap {h0 h : Heap} {A B : HP} {L : List HP} (s : St h0 h (A :: B :: L)) : St h0 h (B :: A :: L) := ⟨s.1, Sep.swap s.2⟩
/-- The i-th part to the front. -/
theorem St.pick {h0 h : Heap} {L : List HP} (i : Nat) (hi : i < L.length) (s : St h0 h L) : St h0 h (L[i] :: L.eraseIdx i) :=
  s.perm (by
    have : ∀ (L : List HP) (i : Nat) (hi : i < L.length), L.Perm (L[i] :: L.eraseIdx i) := by
      intro L
      induction L with
      | nil => intro i hi; cases hi
      | cons x l ih =>
        intro i hi
        cases i with
        | zero => exact .refl _
        | succ i => exact (List.Perm.cons x (ih i (by simpa using hi))).trans (.swap _ _ _)
    exact this L i hi)
theorem St.pick1 {h0 h : Heap} {A B : HP} {L : List HP} (s : St h0 h (A :: B :: L)) : St h0 h (B :: A :: L) := s.swap
theorem St.pick2 {h0 h : Heap} {A B C : HP} {L : List HP} (s : St h0 h (A :: B :: C :: L)) : St h0 h (C :: A :: B :: L) := s.pick 2 (by simp)
theorem St.pick3 {h0 h : Heap} {A B C D : HP} {L : List HP} (s : St h0 h (A :: B :: C :: D :: L)) : St h0 h (D :: A :: B :: C :: L) := s.pick 3 (by simp)
theorem St.pick4 {h0 h : Heap} {A B C D E : HP} {L : List HP} (s : St h0 h (A :: B :: C :: D :: E :: L)) : St h0 h (E :: A :: B :: C :: D :: L) := s.pick 4 (by simp)
theorem St.pick5 {h0 h : Heap} {A B C D E F : HP} {L : List HP} (s : St h0 h (A :: B :: C :: D :: E :: F :: L)) : St h0 h (F :: A :: B :: C :: D :: E :: L) := s.pick 5 (by simp)
theorem St.split {h0 h : Heap} {L L' : List HP} (s : St h0 h (L ++ L')) : St h0 h L := ⟨s.1, by
  obtain ⟨V, hV, h1, _⟩ := Sep.split s.2
  exact Sep.mono hV h1⟩
theorem St.get {h0 h : Heap} {A : HP} {L : List HP} (s : St h0 h (A :: L)) : ∃ S, A.own h S ∧ ∀ b, S b → h0.size ≤ b ∧ b < h.size := by
  obtain ⟨_, S, hA, hS, _⟩ := s
  exact ⟨S, hA, hS⟩
/-- What a call makes comes to what there was. -/
theorem St.call {h0 h h' : Heap} {L L' : List HP} (s : St h0 h L) (t : St h h' L') : St h0 h' (L' ++ L) := by
  refine ⟨s.1.trans t.1, ?_⟩
  have h1 : Sep h' L (fun b => h0.size ≤ b ∧ b < h.size) := Sep.loc s.2 fun b hb => t.1.2 b hb.2
  exact Sep.mono (fun b hb => hb.elim (fun hb => ⟨Nat.le_trans s.1.1 hb.1, hb.2⟩) (fun hb => ⟨hb.1, Nat.lt_of_lt_of_le hb.2 t.1.1⟩))
    (Sep.append t.2 h1 fun b hb hb' => by omega)
/-- An operation on the first part alone: what else there is stays. -/
theorem St.step {h0 h h' : Heap} {A A' : HP} {L : List HP} (s : St h0 h (A :: L))
    (f : ∀ S, A.own h S → (∀ b, S b → h0.size ≤ b ∧ b < h.size) → h.size ≤ h'.size ∧ (∀ b, b < h.size → ¬ S b → h'[b]? = h[b]?) ∧ ∃ S', A'.own h' S' ∧ ∀ b, S' b → S b ∨ (h.size ≤ b ∧ b < h'.size)) :
    St h0 h' (A' :: L) := by
  obtain ⟨he, S, hA, hS, hL⟩ := s
  obtain ⟨hsz, hk, S', hA', hS'⟩ := f S hA hS
  refine ⟨⟨Nat.le_trans he.1 hsz, fun b hb => ?_⟩, S', hA', fun b hb => ?_, ?_⟩
  · rw [hk b (Nat.lt_of_lt_of_le hb he.1) fun h => by have := (hS b h).1; omega]
    exact he.2 b hb
  · rcases hS' b hb with h1 | h1
    · exact ⟨(hS b h1).1, Nat.lt_of_lt_of_le (hS b h1).2 hsz⟩
    · exact ⟨Nat.le_trans he.1 h1.1, h1.2⟩
  · have h1 := Sep.loc (h' := h') hL fun b hb => hk b hb.1.2 hb.2
    refine Sep.mono (fun b hb => ⟨⟨hb.1.1, Nat.lt_of_lt_of_le hb.1.2 hsz⟩, fun h => ?_⟩) h1
    rcases hS' b h with h2 | h2
    · exact hb.2 h2
    · omega
/-- A part for a new block. -/
theorem St.new {h0 h h' : Heap} {A' : HP} {L : List HP} (s : St h0 h L) (hsz : h.size ≤ h'.size) (hk : ∀ b, b < h.size → h'[b]? = h[b]?)
    (hA : A'.own h' (fun b => h.size ≤ b ∧ b < h'.size)) : St h0 h' (A' :: L) :=
  St.call (L' := [A']) s ⟨⟨hsz, hk⟩, fun b => h.size ≤ b ∧ b < h'.size, hA, fun _ h => h, trivial⟩

/-- Some x. -/
def HP.ex {α : Type} (A : α → HP) : HP := ⟨fun h S => ∃ x, (A x).own h S, fun h h' S ⟨x, hx⟩ he => ⟨x, (A x).loc h h' S hx he⟩⟩
set_option linter.unusedVariables false in
def HP.pure (p : Prop) (A : HP) : HP := ⟨fun h S => p ∧ A.own h S, fun h h' S hx he => ⟨hx.1, A.loc h h' S hx.2 he⟩⟩
theorem St.ex {α : Type} {h0 h : Heap} {A : α → HP} {L : List HP} (s : St h0 h (HP.ex A :: L)) : ∃ x, St h0 h (A x :: L) := by
  obtain ⟨he, S, ⟨x, hx⟩, r⟩ := s
  exact ⟨x, he, S, hx, r⟩
theorem St.toEx {α : Type} {h0 h : Heap} {A : α → HP} {L : List HP} (x : α) (s : St h0 h (A x :: L)) : St h0 h (HP.ex A :: L) := s.imp fun _ h => ⟨x, h⟩
theorem St.pure {p : Prop} {h0 h : Heap} {A : HP} {L : List HP} (s : St h0 h (HP.pure p A :: L)) : p ∧ St h0 h (A :: L) := by
  obtain ⟨he, S, ⟨hp, hx⟩, r⟩ := s
  exact ⟨hp, he, S, hx, r⟩
theorem St.toPure {p : Prop} {h0 h : Heap} {A : HP} {L : List HP} (hp : p) (s : St h0 h (A :: L)) : St h0 h (HP.pure p A :: L) := s.imp fun _ h => ⟨hp, h⟩
/-- Several parts as one. -/
def HP.all (L : List HP) : HP := ⟨fun h S => Sep h L S, fun _ _ _ hs he => Sep.loc hs he⟩
theorem Sep.open {h : Heap} {M L : List HP} {U : Nat → Prop} (s : Sep h (HP.all M :: L) U) : Sep h (M ++ L) U := by
  obtain ⟨S, hM, hS, hL⟩ := s
  exact Sep.mono (fun b hb => hb.elim (fun h => hS b h) (fun h => h.1)) (Sep.append hM hL fun b hb hb' => hb'.2 hb)
theorem Sep.shut {h : Heap} {M L : List HP} {U : Nat → Prop} (s : Sep h (M ++ L) U) : Sep h (HP.all M :: L) U := by
  obtain ⟨V, hV, h1, h2⟩ := Sep.split s
  exact ⟨V, h1, hV, h2⟩
theorem St.open {h0 h : Heap} {M L : List HP} (s : St h0 h (HP.all M :: L)) : St h0 h (M ++ L) := ⟨s.1, Sep.open s.2⟩
theorem St.shut {h0 h : Heap} {M L : List HP} (s : St h0 h (M ++ L)) : St h0 h (HP.all M :: L) := ⟨s.1, Sep.shut s.2⟩

/-! ### Cells behind a pointer -/
def padd (p : Value) (n : Nat) : Value :=
  match p with
  | .pointer (some a) => .pointer (some (a.add n))
  | p => p
def sbase : Value → Value
  | .slice a _ _ => .pointer a
  | v => v
theorem Addr.add_none (b o n : Nat) : (⟨b, o, none⟩ : Addr).add n = ⟨b, o + n, none⟩ := by
  unfold Addr.add; split <;> simp_all
theorem padd_zero (p : Value) : padd p 0 = p := by
  unfold padd; split <;> simp [Addr.add]
theorem padd_padd (p : Value) (m n : Nat) : padd (padd p m) n = padd p (m + n) := by
  unfold padd
  cases p with
  | pointer a =>
    cases a with
    | none => rfl
    | some a =>
      simp only [Addr.add]
      by_cases hm : m = 0
      · subst hm; simp
      · by_cases hn : n = 0
        · subst hn; simp [hm]
        · simp [hm, hn, Nat.add_assoc]
  | _ => rfl

/-- From p on these cells can be read. -/
def Rd (h : Heap) (p : Value) (cs : List Value) : Prop :=
  cs = [] ∨ ∃ b o, p = .pointer (some ⟨b, o, none⟩) ∧ ∀ (j : Nat) (x : Value), cs[j]? = some x → cellAt h ⟨b, o + j, none⟩ = some x
theorem Rd.nil (h : Heap) (p : Value) : Rd h p [] := .inl rfl
theorem Rd.ext {h h' : Heap} {p : Value} {cs : List Value} (r : Rd h p cs) (he : Ext h h') : Rd h' p cs :=
  r.imp id fun ⟨b, o, hp, hc⟩ => ⟨b, o, hp, fun j x hx => cellAt_ext he (hc j x hx)⟩
theorem Rd.at {h : Heap} {p : Value} {cs : List Value} (r : Rd h p cs) {j : Nat} {x : Value} (hx : cs[j]? = some x) :
    ∃ a, padd p j = .pointer (some a) ∧ cellAt h a = some x := by
  rcases r with rfl | ⟨b, o, rfl, hc⟩
  · simp at hx
  · exact ⟨⟨b, o + j, none⟩, by simp [padd, Addr.add_none], hc j x hx⟩
theorem Rd.drop {h : Heap} {p : Value} {cs : List Value} (r : Rd h p cs) (n : Nat) : Rd h (padd p n) (cs.drop n) := by
  rcases r with rfl | ⟨b, o, rfl, hc⟩
  · simp [Rd]
  · refine .inr ⟨b, o + n, by simp [padd, Addr.add_none], fun j x hx => ?_⟩
    rw [List.getElem?_drop] at hx
    simpa [Nat.add_assoc] using hc _ _ hx
theorem Rd.take {h : Heap} {p : Value} {cs : List Value} (r : Rd h p cs) (n : Nat) : Rd h p (cs.take n) := by
  rcases r with rfl | ⟨b, o, rfl, hc⟩
  · simp [Rd]
  · refine .inr ⟨b, o, rfl, fun j x hx => ?_⟩
    rw [List.getElem?_take] at hx
    split at hx
    · exact hc _ _ hx
    · cases hx
theorem Rd.block {h : Heap} {p : Value} {cs : List Value} (r : Rd h p cs) (hne : cs ≠ []) : ∃ b o, p = .pointer (some ⟨b, o, none⟩) ∧ b < h.size := by
  rcases r with rfl | ⟨b, o, rfl, hc⟩
  · exact absurd rfl hne
  · cases cs with
    | nil => exact absurd rfl hne
    | cons x l => exact ⟨b, o, rfl, cellAt_lt (hc 0 x rfl)⟩

/-- The cells from p on, owned (with all their block). -/
def Cells (p : Value) (cs : List Value) : HP :=
  ⟨fun h S => ∃ b o T pre post, p = .pointer (some ⟨b, o, none⟩) ∧ S b ∧ h[b]? = some (.cells (pre ++ cs ++ post).toArray T (0, 0)) ∧ o = pre.length,
   fun h h' S ⟨b, o, T, pre, post, hp, hS, hb, ho⟩ he => ⟨b, o, T, pre, post, hp, hS, (he b hS).trans hb, ho⟩⟩

theorem Cells.rd {h : Heap} {p : Value} {cs : List Value} {S : Nat → Prop} (hc : (Cells p cs).own h S) : Rd h p cs := by
  obtain ⟨b, o, T, pre, post, rfl, _, hb, rfl⟩ := hc
  refine .inr ⟨b, _, rfl, fun j x hx => ?_⟩
  have hj : j < cs.length := (List.getElem?_eq_some_iff.1 hx).1
  simp only [cellAt, hb, Option.isSome_none, Bool.false_eq_true, if_false, List.getElem?_toArray]
  rw [List.append_assoc, List.getElem?_append_right (by omega), Nat.add_sub_cancel_left, List.getElem?_append_left hj]
  exact hx
theorem St.rd {h0 h : Heap} {p : Value} {cs : List Value} {L : List HP} (s : St h0 h (Cells p cs :: L)) : Rd h p cs := by
  obtain ⟨S, hA, _⟩ := s.get
  exact Cells.rd hA

/-! ### What is known of types -/
class Und (P : Program) (t : TypeId) (d : outParam TypeDesc) : Prop where
  eq : P.underlying t = some d
theorem Und.run {P : Program} {t : TypeId} {d : TypeDesc} [u : Und P t d] (w : World) : (underlying t).run P w = .ok d w := run_underlying u.eq w
/-- A type's size in cells and in bytes, and its zero value. -/
class Inf (P : Program) (t : TypeId) (k b : outParam Nat) (z : outParam Value) : Prop where
  info : ∃ i, P.info? t = some i ∧ i.size = k ∧ i.bytes = b ∧ i.zero = some z
theorem Inf.siz {P : Program} {t : TypeId} {k b : Nat} {z : Value} [u : Inf P t k b z] (w : World) : (sizeOf t).run P w = .ok k w := by
  obtain ⟨i, hi, hk, _, _⟩ := u.info
  simp [sizeOf, typeInfo, hi, hk]
theorem Inf.zer {P : Program} {t : TypeId} {k b : Nat} {z : Value} [u : Inf P t k b z] (w : World) : (zeroValue t).run P w = .ok z w := by
  obtain ⟨i, hi, _, _, hz⟩ := u.info
  simp [zeroValue, typeInfo, hi, hz]
class Siz (P : Program) (t : TypeId) (k : outParam Nat) : Prop where
  run : ∀ w, (sizeOf t).run P w = .ok k w
class IsA (P : Program) (t : TypeId) (b : outParam Bool) : Prop where
  run : ∀ w, (isAgg t).run P w = .ok b w

/-! ### Operations without memory -/
section pure
variable {P : Program}
theorem Sp.of {s : Sem Next} {K : Value → Prop} {v : Value} (hr : ∀ w, s.run P w = .ok (.value v) w) (hk : K v) : Sp P s K := ⟨v, hr, hk⟩
theorem nv_run {s : Sem Value} {w w' : World} {v : Value} (h : s.run P w = .ok v w') : (nv s).run P w = .ok (.value v) w' := by
  simp [nv, h]
theorem Sp.iff {s : Sem Value} {K : Value → Prop} {v : Value} (hr : ∀ w, s.run P w = .ok v w) : Sp P (nv s) K ↔ K v := by
  constructor
  · rintro ⟨u, hu, hk⟩
    have h1 := hu default
    rw [nv_run (hr default)] at h1
    injection h1 with h2 _
    injection h2 with h3
    rw [h3]; exact hk
  · exact fun hk => ⟨v, fun w => nv_run (hr w), hk⟩

theorem oBin_int {op : BinOp} {t : TypeId} {x y : Operand} {k : IntKind} {a b : Int} {v : Value} {K : Value → Prop}
    (hr : ∀ w, (binOp op t (.int k a) (.int k b)).run P w = .ok v w) : oBin P op t x y (.int k a) (.int k b) K ↔ K v := by
  refine Sp.iff fun w => ?_
  have : (eqGuard op t x y (.int k a) (.int k b)).run P w = .ok () w := by cases op <;> simp [eqGuard]
  simp [this, hr]
@[simp] theorem oBin_lss {t : TypeId} {x y : Operand} {k : IntKind} {a b : Int} {K : Value → Prop} : oBin P .lss t x y (.int k a) (.int k b) K ↔ K (.bool (decide (a < b))) :=
  oBin_int fun w => by simp [binOp, Op.intCmp]
@[simp] theorem oBin_leq {t : TypeId} {x y : Operand} {k : IntKind} {a b : Int} {K : Value → Prop} : oBin P .leq t x y (.int k a) (.int k b) K ↔ K (.bool (decide (a ≤ b))) :=
  oBin_int fun w => by simp [binOp, Op.intCmp]
@[simp] theorem oBin_gtr {t : TypeId} {x y : Operand} {k : IntKind} {a b : Int} {K : Value → Prop} : oBin P .gtr t x y (.int k a) (.int k b) K ↔ K (.bool (decide (b < a))) :=
  oBin_int fun w => by simp [binOp, Op.intCmp]
@[simp] theorem oBin_geq {t : TypeId} {x y : Operand} {k : IntKind} {a b : Int} {K : Value → Prop} : oBin P .geq t x y (.int k a) (.int k b) K ↔ K (.bool (decide (b ≤ a))) :=
  oBin_int fun w => by simp [binOp, Op.intCmp]
@[simp] theorem oBin_eql {t : TypeId} {x y : Operand} {k : IntKind} {a b : Int} {K : Value → Prop} : oBin P .eql t x y (.int k a) (.int k b) K ↔ K (.bool (decide (a = b))) :=
  oBin_int fun w => by simp [binOp, Op.intCmp]; rfl
@[simp] theorem oBin_neq {t : TypeId} {x y : Operand} {k : IntKind} {a b : Int} {K : Value → Prop} : oBin P .neq t x y (.int k a) (.int k b) K ↔ K (.bool (decide (a ≠ b))) :=
  oBin_int fun w => by simp [binOp, Op.intCmp, bne]; rfl
@[simp] theorem oBin_add {t : TypeId} {x y : Operand} {k : IntKind} {a b : Int} {K : Value → Prop} : oBin P .add t x y (.int k a) (.int k b) K ↔ K (.int k (k.wrap (a + b))) :=
  oBin_int fun w => by simp [binOp, Op.intArith]
@[simp] theorem oBin_sub {t : TypeId} {x y : Operand} {k : IntKind} {a b : Int} {K : Value → Prop} : oBin P .sub t x y (.int k a) (.int k b) K ↔ K (.int k (k.wrap (a - b))) :=
  oBin_int fun w => by simp [binOp, Op.intArith]
@[simp] theorem oBin_mul {t : TypeId} {x y : Operand} {k : IntKind} {a b : Int} {K : Value → Prop} : oBin P .mul t x y (.int k a) (.int k b) K ↔ K (.int k (k.wrap (a * b))) :=
  oBin_int fun w => by simp [binOp, Op.intArith]
theorem oBin_rem {t : TypeId} {x y : Operand} {k : IntKind} {a b : Int} {K : Value → Prop} (hb : b ≠ 0) : oBin P .rem t x y (.int k a) (.int k b) K ↔ K (.int k (a.tmod b)) :=
  oBin_int fun w => by simp [binOp, Op.intDiv, hb]
theorem oBin_quo {t : TypeId} {x y : Operand} {k : IntKind} {a b : Int} {K : Value → Prop} (hb : b ≠ 0) : oBin P .quo t x y (.int k a) (.int k b) K ↔ K (.int k (k.wrap (a.tdiv b))) :=
  oBin_int fun w => by simp [binOp, Op.intDiv, hb]
theorem oBin_str {op : BinOp} {t : TypeId} {x y : Operand} {a b : ByteArray} {v : Value} {K : Value → Prop}
    (hr : ∀ w, (Op.stringOp op a b).run P w = .ok v w) : oBin P op t x y (.string a) (.string b) K ↔ K v := by
  refine Sp.iff fun w => ?_
  have : (eqGuard op t x y (.string a) (.string b)).run P w = .ok () w := by cases op <;> simp [eqGuard]
  have h2 : binOp op t (.string a) (.string b) = Op.stringOp op a b := by cases op <;> rfl
  simp [this, h2, hr]
/-- A string by its bytes. -/
abbrev Str := List UInt8
def str (l : Str) : Value := .string ⟨l.toArray⟩
theorem str_inj {a b : Str} (h : str a = str b) : a = b := by simpa [str] using h
theorem toList_mk (l : Str) : (⟨l.toArray⟩ : ByteArray).toList = l := by rw [ByteArray.toList_eq]
@[simp] theorem oBin_str_eql {t : TypeId} {x y : Operand} {a b : Str} {K : Value → Prop} : oBin P .eql t x y (str a) (str b) K ↔ K (.bool (decide (a = b))) :=
  oBin_str fun w => by
    have : (a == b) = decide (a = b) := by rw [Bool.eq_iff_iff]; simp
    simp [Op.stringOp, this]
@[simp] theorem oBin_str_neq {t : TypeId} {x y : Operand} {a b : Str} {K : Value → Prop} : oBin P .neq t x y (str a) (str b) K ↔ K (.bool (decide (a ≠ b))) :=
  oBin_str fun w => by
    have : (!(a == b)) = decide (a ≠ b) := by rw [Bool.eq_iff_iff]; simp
    simp [Op.stringOp, this]
theorem oBin_bool {op : BinOp} {t : TypeId} {x y : Operand} {a b : Bool} {v : Value} {K : Value → Prop}
    (hr : ∀ w, (binOp op t (.bool a) (.bool b)).run P w = .ok v w) : oBin P op t x y (.bool a) (.bool b) K ↔ K v := by
  refine Sp.iff fun w => ?_
  have : (eqGuard op t x y (.bool a) (.bool b)).run P w = .ok () w := by cases op <;> simp [eqGuard]
  simp [this, hr]
theorem equalIn_bool {t : TypeId} [Und P t .bool] (d : Nat) (a b : Bool) (w : World) : (Op.equalIn (d + 1) t (.bool a) (.bool b)).run P w = .ok (a == b) w := by
  simp [Op.equalIn, Und.run]
theorem oBin_bool_eql {t : TypeId} [Und P t .bool] {x y : Operand} {a b : Bool} {K : Value → Prop} : oBin P .eql t x y (.bool a) (.bool b) K ↔ K (.bool (a == b)) :=
  oBin_bool fun w => by
    have := equalIn_bool (P := P) (t := t) 9999 a b w
    simp only [binOp, Op.equal, Op.maxDepth]
    simp [this]
theorem oBin_bool_neq {t : TypeId} [Und P t .bool] {x y : Operand} {a b : Bool} {K : Value → Prop} : oBin P .neq t x y (.bool a) (.bool b) K ↔ K (.bool (a != b)) :=
  oBin_bool fun w => by
    have := equalIn_bool (P := P) (t := t) 9999 a b w
    simp only [binOp, Op.equal, Op.maxDepth]
    simp [this, bne]
@[simp] theorem oUn_not {a : Bool} {K : Value → Prop} : oUn P .not (.bool a) K ↔ K (.bool !a) := Sp.iff fun w => by simp [Op.unary]
@[simp] theorem oUn_neg {k : IntKind} {a : Int} {K : Value → Prop} : oUn P .neg (.int k a) K ↔ K (.int k (k.wrap (0 - a))) := Sp.iff fun w => by simp [Op.unary, Op.intArith]
@[simp] theorem oPick_bool {c : Bool} {a b : Value} {K : Value → Prop} : oPick P (.bool c) a b K ↔ K (if c then a else b) := by
  constructor
  · rintro ⟨u, hu, hk⟩
    have h1 := hu default
    simp only [pickSem, asBool] at h1
    rw [Sem.run_bind] at h1
    simp at h1
    rw [h1]; exact hk
  · exact fun hk => ⟨_, fun w => by simp [pickSem, asBool], hk⟩
theorem oConv_int {s d : TypeId} {ds : TypeDesc} {k k' : IntKind} [Und P s ds] [Und P d (.int k)] {a : Int} {K : Value → Prop} : oConv P s d (.int k' a) K ↔ K (.int k (k.wrap a)) :=
  Sp.iff fun w => by simp [convert, Und.run, Conv.intToInt]
@[simp] theorem oExt_two0 {a b : Value} {K : Value → Prop} : oExt P (.tuple #[a, b]) 0 K ↔ K a := Sp.iff fun w => by simp [Instr.extract]
@[simp] theorem oExt_two1 {a b : Value} {K : Value → Prop} : oExt P (.tuple #[a, b]) 1 K ↔ K b := Sp.iff fun w => by simp [Instr.extract]
@[simp] theorem oExt_three0 {a b c : Value} {K : Value → Prop} : oExt P (.tuple #[a, b, c]) 0 K ↔ K a := Sp.iff fun w => by simp [Instr.extract]
@[simp] theorem oExt_three1 {a b c : Value} {K : Value → Prop} : oExt P (.tuple #[a, b, c]) 1 K ↔ K b := Sp.iff fun w => by simp [Instr.extract]
@[simp] theorem oExt_three2 {a b c : Value} {K : Value → Prop} : oExt P (.tuple #[a, b, c]) 2 K ↔ K c := Sp.iff fun w => by simp [Instr.extract]
@[simp] theorem oExt_one0 {a : Value} {K : Value → Prop} : oExt P (.tuple #[a]) 0 K ↔ K a := Sp.iff fun w => by simp [Instr.extract]
@[simp] theorem oFunc_iff {fn : Fn} {l r : Array Value} {K : Value → Prop} : oFunc P fn l r K ↔ K (.func fn l r) := Sp.iff fun w => by simp [Instr.makeFunc]
@[simp] theorem oNil_ptr {a : Addr} {K : Value → Prop} : oNil P (.pointer (some a)) K ↔ K (.pointer (some a)) := by
  constructor
  · rintro ⟨u, hu, hk⟩
    have h1 := hu default
    simp [nilSem] at h1
    rw [h1]; exact hk
  · exact fun hk => ⟨_, fun w => by simp [nilSem], hk⟩

theorem cond_t {A B : Prop} : cond (.bool true) A B ↔ A := Iff.rfl
theorem cond_f {A B : Prop} : cond (.bool false) A B ↔ B := Iff.rfl
theorem cond_pos {p : Prop} [Decidable p] {A B : Prop} (hp : p) : cond (.bool (decide p)) A B ↔ A := by rw [decide_eq_true hp]; exact Iff.rfl
theorem cond_neg {p : Prop} [Decidable p] {A B : Prop} (hp : ¬ p) : cond (.bool (decide p)) A B ↔ B := by rw [decide_eq_false hp]; exact Iff.rfl

/-- A slice of n elements. -/
def slen : Value → Nat
  | .slice _ n _ => n
  | .string s => s.size
  | _ => 0
def IsSl (v : Value) (n : Nat) : Prop := ∃ a c, v = .slice a n c
theorem oLen_sl {t ty : TypeId} {e : TypeId} [Und P t (.slice e)] {v : Value} {n : Nat} {K : Value → Prop} (hv : IsSl v n) : oLen P #[t] ty v K ↔ K (.int .i64 n) := by
  obtain ⟨a, c, rfl⟩ := hv
  exact Sp.iff fun w => by simp [Builtin.len_, Und.run, goInt]
theorem oLen_str {t ty : TypeId} [Und P t .string] {s : Str} {K : Value → Prop} : oLen P #[t] ty (str s) K ↔ K (.int .i64 s.length) :=
  Sp.iff fun w => by
    have : (⟨s.toArray⟩ : ByteArray).size = s.length := List.size_toArray
    simp [Builtin.len_, Und.run, goInt, str, this]
theorem oIdx_sl {t e : TypeId} {k : Nat} [Und P t (.slice e)] [Siz P e k] {v : Value} {n : Nat} {ik : IntKind} {i : Int} {K : Value → Prop} (hv : IsSl v n) (hnz : sbase v ≠ .pointer none) (h0 : 0 ≤ i) (h1 : i < n) :
    oIdx P t v (.int ik i) K ↔ K (padd (sbase v) (i.toNat * k)) := by
  obtain ⟨a, c, rfl⟩ := hv
  cases a with
  | none => exact absurd rfl hnz
  | some a => exact Sp.iff fun w => by simp [Instr.indexAt, asIntOf, Und.run, Siz.run, h0, h1, sbase, padd]
theorem oIndex_str {t : TypeId} [Und P t .string] {s : Str} {ik : IntKind} {i : Int} {K : Value → Prop} (h0 : 0 ≤ i) {c : UInt8} (hc : s[i.toNat]? = some c) :
    oIndex P t (str s) (.int ik i) K ↔ K (.int .u8 c.toNat) := by
  refine Sp.iff fun w => ?_
  have h2 : (⟨s.toArray⟩ : ByteArray)[i.toNat]? = some c := by
    have hl : i.toNat < s.length := (List.getElem?_eq_some_iff.1 hc).1
    have h3 : i.toNat < (⟨s.toArray⟩ : ByteArray).size := by
      have : (⟨s.toArray⟩ : ByteArray).size = s.length := List.size_toArray
      omega
    rw [getElem?_pos (c := (⟨s.toArray⟩ : ByteArray)) (i := i.toNat) h3, ← hc, List.getElem?_eq_getElem hl]
    rfl
  simp [Instr.index, asIntOf, Und.run, str, h0, h2]
end pure
end Go.Sh
namespace Go.Sh
section mem
variable {P : Program}

def one : Value → Bool
  | .agg _ | .tuple _ => false
  | _ => true

theorem run_load {w : World} {a : Addr} {v : Value} (hv : cellAt w.heap a = some v) : (load a).run P w = .ok v w := by
  simp only [load, Sem.run, cell?_eq, hv]
theorem run_loadVar1 {t : TypeId} [IsA P t false] {w : World} {a : Addr} {v : Value} (hv : cellAt w.heap a = some v) : (loadVar t a).run P w = .ok v w := by
  unfold loadVar
  rw [Sem.run_bind, IsA.run (P := P) (t := t), Result.andThen_ok, if_neg (by simp)]
  exact run_load hv
theorem run_loadFrom {w : World} {a : Addr} : ∀ (cs : List Value) (i : Nat) (acc : Array Value), (∀ (j : Nat) (x : Value), cs[j]? = some x → cellAt w.heap (a.add (i + j)) = some x) →
    (loadCellsFrom a i cs.length acc).run P w = .ok (acc ++ cs.toArray) w
  | [], _, acc, _ => by simp [loadCellsFrom]
  | x :: cs, i, acc, h => by
    have h0 : (load (a.add i)).run P w = .ok x w := run_load (by simpa using h 0 x rfl)
    have ih := run_loadFrom (w := w) (a := a) cs (i + 1) (acc.push x) (fun j y hy => by
      have := h (j + 1) y (by simpa using hy)
      rwa [show i + (j + 1) = i + 1 + j from by omega] at this)
    simp only [List.length_cons, loadCellsFrom]
    rw [Sem.run_bind, h0, Result.andThen_ok, ih]
    congr 1
    apply Array.ext'
    simp
theorem run_loadCells {w : World} {a : Addr} (cs : List Value) (h : ∀ (j : Nat) (x : Value), cs[j]? = some x → cellAt w.heap (a.add j) = some x) :
    (loadCells a cs.length).run P w = .ok cs.toArray w := by
  have := run_loadFrom (P := P) cs 0 #[] (fun j x hx => by rw [Nat.zero_add]; exact h j x hx)
  simpa [loadCells] using this

theorem nv_map {s : Sem Value} {w w' : World} {v : Value} (h : s.run P w = .ok v w') : (nv s).run P w = .ok (.value v) w' := nv_run h

/-- One cell is read. -/
theorem oLoad1 {t : TypeId} [IsA P t false] {p : Value} {cs : List Value} {j : Nat} {x : Value} {D : Heap → Prop} {K : Value → Prop}
    (hr : ∀ h', D h' → Rd h' p cs) (hx : cs[j]? = some x) (hk : K x) : oLoad P t (padd p j) D K := by
  refine ⟨x, fun w hw => ?_, hk⟩
  obtain ⟨a, ha, hc⟩ := (hr _ hw).at hx
  rw [ha]
  exact nv_run (by simp [Instr.loadAt, Instr.sureAddr, run_loadVar1 hc])
/-- Several cells are read. -/
theorem oLoadA {t : TypeId} {k : Nat} [IsA P t true] [Siz P t k] {p : Value} {cs : List Value} {j : Nat} {D : Heap → Prop} {K : Value → Prop}
    (hr : ∀ h', D h' → Rd h' p cs) (hp : ∃ a, p = .pointer (some a)) (hj : j + k ≤ cs.length) (hk : K (.agg ((cs.drop j).take k).toArray)) : oLoad P t (padd p j) D K := by
  refine ⟨_, fun w hw => ?_, hk⟩
  have h1 := ((hr _ hw).drop j).take k
  have hl : ((cs.drop j).take k).length = k := by simp; omega
  obtain ⟨a, ha⟩ : ∃ a, padd p j = .pointer (some a) := by obtain ⟨a, rfl⟩ := hp; exact ⟨_, rfl⟩
  rw [ha] at h1 ⊢
  refine nv_run ?_
  have h2 : (loadCells a k).run P w = .ok ((cs.drop j).take k).toArray w := by
    have := run_loadCells (P := P) (w := w) (a := a) ((cs.drop j).take k) (fun i x hx => by
      obtain ⟨a', ha', hc⟩ := h1.at hx
      simp only [padd, Value.pointer.injEq, Option.some.injEq] at ha'
      rw [ha']; exact hc)
    rwa [hl] at this
  simp [Instr.loadAt, Instr.sureAddr, loadVar, IsA.run, Siz.run, h2]

/-! Storing. -/
def setAt (cs : List Value) (j : Nat) : List Value → List Value
  | [] => cs
  | x :: xs => setAt (cs.set j x) (j + 1) xs
theorem setAt_length : ∀ (xs cs : List Value) (j : Nat), (setAt cs j xs).length = cs.length
  | [], _, _ => rfl
  | x :: xs, cs, j => by simp [setAt, setAt_length xs]
def setB (h : Heap) (b : Nat) (o : Obj) : Heap := h.setIfInBounds b o
theorem setB_size (h : Heap) (b : Nat) (o : Obj) : (setB h b o).size = h.size := by simp [setB]
theorem setB_ne {h : Heap} {b b' : Nat} {o : Obj} (hne : b' ≠ b) : (setB h b o)[b']? = h[b']? := by
  simp [setB, Array.getElem?_setIfInBounds_ne (Ne.symm hne)]
theorem setB_eq {h : Heap} {b : Nat} {o : Obj} (hb : b < h.size) : (setB h b o)[b]? = some o := by simp [setB, hb]
theorem setB_setB (h : Heap) (b : Nat) (o o' : Obj) : setB (setB h b o) b o' = setB h b o' := by
  apply Array.ext_getElem?
  intro i
  by_cases hi : i = b
  · subst hi
    rcases Nat.lt_or_ge i h.size with hl | hl
    · rw [setB_eq (by rw [setB_size]; exact hl), setB_eq hl]
    · simp [setB, hl]
  · rw [setB_ne hi, setB_ne hi, setB_ne hi]
theorem lt_of_some {h : Heap} {b : Nat} {o : Obj} (hb : h[b]? = some o) : b < h.size := (Array.getElem?_eq_some_iff.1 hb).1

theorem run_store1 {w : World} {b o T : Nat} {c : List Value} {x : Value} (hb : w.heap[b]? = some (.cells c.toArray T (0, 0))) (ho : o < c.length) (hx : one x = true) :
    (store ⟨b, o, none⟩ x).run P w = .ok () { w with heap := setB w.heap b (.cells (c.set o x).toArray T (0, 0)) } := by
  have h1 : w.cell? ⟨b, o, none⟩ = some c[o] := by simp [World.cell?, hb, ho]
  have h2 : w.frozen? ⟨b, o, none⟩ = false := by simp [World.frozen?, hb]
  have hlt := lt_of_some hb
  have h3 : w.setCell ⟨b, o, none⟩ x = { w with heap := setB w.heap b (.cells (c.set o x).toArray T (0, 0)) } := by
    unfold World.setCell
    congr 1
    apply Array.ext_getElem?
    intro i
    rw [Array.getElem?_modify]
    by_cases hi : i = b
    · subst hi
      rw [setB_eq hlt]
      simp [hb]
    · rw [setB_ne hi, if_neg (fun e => hi e.symm)]
  cases x <;> first | (simp [one] at hx; done) | simp only [store, Sem.run, h1, h2, h3, Bool.false_eq_true, if_false]
theorem run_storeCells {b o T : Nat} : ∀ (xs : List Value) (i : Nat) (w : World) (c : List Value), w.heap[b]? = some (.cells c.toArray T (0, 0)) → o + i + xs.length ≤ c.length → (∀ x ∈ xs, one x = true) →
    (storeCells ⟨b, o, none⟩ xs i).run P w = .ok () { w with heap := setB w.heap b (.cells (setAt c (o + i) xs).toArray T (0, 0)) }
  | [], i, w, c, hb, _, _ => by
    have hlt := lt_of_some hb
    have : setB w.heap b (.cells c.toArray T (0, 0)) = w.heap := by
      apply Array.ext_getElem?
      intro j
      by_cases hj : j = b
      · subst hj; rw [setB_eq hlt, hb]
      · rw [setB_ne hj]
    simp only [storeCells, setAt, this]
    rfl
  | x :: xs, i, w, c, hb, hl, hx => by
    simp only [List.length_cons] at hl
    simp only [storeCells]
    rw [Sem.run_bind, Addr.add_none, run_store1 hb (by omega) (hx x (by simp)), Result.andThen_ok,
      run_storeCells xs (i + 1) { w with heap := setB w.heap b (.cells (c.set (o + i) x).toArray T (0, 0)) } (c.set (o + i) x) (setB_eq (lt_of_some hb)) (by simp; omega) (fun y hy => hx y (by simp [hy]))]
    simp only [setB_setB, setAt, Nat.add_assoc]
theorem set_mid (pre cs post : List Value) (j : Nat) (x : Value) (hj : j < cs.length) : (pre ++ cs ++ post).set (pre.length + j) x = pre ++ cs.set j x ++ post := by
  rw [List.append_assoc, List.set_append_right _ _ (by omega), Nat.add_sub_cancel_left, List.set_append_left _ _ hj, List.append_assoc]
theorem setAt_mid (pre post : List Value) : ∀ (xs cs : List Value) (j : Nat), j + xs.length ≤ cs.length → setAt (pre ++ cs ++ post) (pre.length + j) xs = pre ++ setAt cs j xs ++ post
  | [], cs, j, _ => rfl
  | x :: xs, cs, j, h => by
    simp only [List.length_cons] at h
    simp only [setAt]
    rw [set_mid _ _ _ _ _ (by omega), show pre.length + j + 1 = pre.length + (j + 1) from by omega, setAt_mid pre post xs (cs.set j x) (j + 1) (by simp; omega)]

theorem Cells.set {h : Heap} {p : Value} {cs : List Value} {S : Nat → Prop} (hc : (Cells p cs).own h S) (hlt : ∀ b, S b → b < h.size) (j : Nat) (xs : List Value) (hj : j + xs.length ≤ cs.length) (h1 : ∀ x ∈ xs, one x = true) :
    ∃ b o T l, padd p j = .pointer (some ⟨b, o, none⟩) ∧ h[b]? = some (.cells l T (0, 0)) ∧ S b ∧
      (∀ w : World, w.heap = h → (storeCells ⟨b, o, none⟩ xs).run P w = .ok () { w with heap := setB h b (.cells (setAt l.toList o xs).toArray T (0, 0)) }) ∧
      (Cells p (setAt cs j xs)).own (setB h b (.cells (setAt l.toList o xs).toArray T (0, 0))) S := by
  obtain ⟨b, o, T, pre, post, rfl, hS, hb, rfl⟩ := hc
  refine ⟨b, pre.length + j, T, (pre ++ cs ++ post).toArray, by simp [padd, Addr.add_none], hb, hS, fun w hw => ?_, b, pre.length, T, pre, post, rfl, hS, ?_, rfl⟩
  · have := run_storeCells (P := P) (b := b) (o := pre.length + j) (T := T) xs 0 w (pre ++ cs ++ post) (by rw [hw]; exact hb) (by simp; omega) h1
    rw [this, hw]
    rfl
  · rw [setB_eq (lt_of_some hb)]
    simp only
    rw [setAt_mid pre post xs cs j hj]

/-- A store of a value into owned cells. -/
theorem oStoreC [Gd] {t : TypeId} {k : Nat} [Siz P t k] {h0 h : Heap} {p v : Value} {cs : List Value} {L : List HP} {j : Nat} {K : Value → Heap → Prop}
    (s : St h0 h (Cells p cs :: L)) (hk : v.cells.toList.length = k) (hj : j + k ≤ cs.length) (h1 : ∀ x ∈ v.cells.toList, one x = true)
    (g : ∀ h', St h0 h' (Cells p (setAt cs j v.cells.toList) :: L) → K undef h') : oStore P t (padd p j) v h K := by
  intro w hw
  obtain ⟨_, S, hA, hS, _⟩ := id s
  obtain ⟨b, o, T, l, hp, hb, hSb, hrun, hown⟩ := Cells.set (P := P) hA (fun b hb => (hS b hb).2) j v.cells.toList (by omega) h1
  have hst : St h0 (setB h b (.cells (setAt l.toList o v.cells.toList).toArray T (0, 0))) (Cells p (setAt cs j v.cells.toList) :: L) := by
    refine St.step s fun S' hA' hS' => ?_
    obtain ⟨b', o', T', l', hp', hb', hSb', hrun', hown'⟩ := Cells.set (P := P) hA' (fun b hb => (hS' b hb).2) j v.cells.toList (by omega) h1
    rw [hp] at hp'
    simp only [Value.pointer.injEq, Option.some.injEq, Addr.mk.injEq, and_true] at hp'
    obtain ⟨rfl, rfl⟩ := hp'
    rw [hb] at hb'
    simp only [Option.some.injEq, Obj.cells.injEq, and_true] at hb'
    obtain ⟨rfl, rfl⟩ := hb'
    exact ⟨by rw [setB_size]; exact Nat.le_refl _, fun i _ hi => setB_ne (fun e => hi (e ▸ hSb')), S', hown', fun i hi => .inl hi⟩
  have hv : (storeVar t ⟨b, o, none⟩ v).run P w = .ok () { w with heap := setB h b (.cells (setAt l.toList o v.cells.toList).toArray T (0, 0)) } := by
    unfold storeVar
    rw [Sem.run_bind, Siz.run (P := P) (t := t), Result.andThen_ok, if_neg (by simpa using hk)]
    exact hrun w hw
  have : (nu (Instr.storeAt t (padd p j) v)).run P w = .ok .skip { w with heap := setB h b (.cells (setAt l.toList o v.cells.toList).toArray T (0, 0)) } := by
    rw [hp]
    simp only [nu, Instr.storeAt, Instr.sureAddr, pure_bind]
    rw [Sem.run_bind, hv]
    rfl
  rw [this]
  exact ⟨⟨rfl, rfl, rfl, fun _ => by first | exact Nat.le_refl _ | exact Nat.le_succ _ | exact Nat.le_add_right _ _⟩, g _ hst⟩

/-- A value is put into a new block. -/
theorem own_new {h : Heap} (cs : List Value) (T : TypeId) : (Cells (.pointer (some ⟨h.size, 0, none⟩)) cs).own (h.push (.cells cs.toArray T)) (fun b => h.size ≤ b ∧ b < (h.push (.cells cs.toArray T)).size) :=
  ⟨h.size, 0, T, [], [], rfl, ⟨Nat.le_refl _, by simp⟩, by simp, rfl⟩
theorem push_old {h : Heap} {o : Obj} (b : Nat) (hb : b < h.size) : (h.push o)[b]? = h[b]? := by
  rw [Array.getElem?_push_lt hb, Array.getElem?_eq_getElem hb]
theorem St.push {h0 h : Heap} {L : List HP} (s : St h0 h L) (cs : List Value) (T : TypeId) : St h0 (h.push (.cells cs.toArray T)) (Cells (.pointer (some ⟨h.size, 0, none⟩)) cs :: L) :=
  s.new (by simp) (fun b hb => push_old b hb) (own_new cs T)
theorem oBoxC [Gd] {t : TypeId} {h0 h : Heap} {L : List HP} {v : Value} {K : Value → Heap → Prop} (s : St h0 h L)
    (g : ∀ p h', (∃ a, p = .pointer (some a)) → St h0 h' (Cells p v.cells.toList :: L) → K p h') : oBox P t v h K := by
  intro w hw
  have : (nv (Instr.box t v)).run P w = .ok (.value (.pointer (some ⟨w.heap.size, 0, none⟩))) { w with heap := w.heap.push (.cells v.cells t) } :=
    nv_run (by simp [Instr.box, newVar, newRow, newObj, Sem.run])
  rw [this]
  refine ⟨⟨rfl, rfl, rfl, fun _ => by first | exact Nat.le_refl _ | exact Nat.le_succ _ | exact Nat.le_add_right _ _⟩, ?_⟩
  rw [hw]
  exact g _ _ ⟨_, rfl⟩ (by simpa using s.push v.cells.toList t)
theorem oAllocC [Gd] {t : TypeId} {k b : Nat} {z : Value} [Inf P t k b z] {h0 h : Heap} {L : List HP} {K : Value → Heap → Prop} (s : St h0 h L)
    (g : ∀ p h', (∃ a, p = .pointer (some a)) → St h0 h' (Cells p z.cells.toList :: L) → K p h') : oAlloc P t h K := by
  intro w hw
  have : (nv (Instr.alloc t true (.tuple #[]))).run P w = .ok (.value (.pointer (some ⟨w.heap.size, 0, none⟩))) { w with heap := w.heap.push (.cells z.cells t) } :=
    nv_run (by simp [Instr.alloc, Inf.zer, newVar, newRow, newObj, Sem.run])
  rw [this]
  refine ⟨⟨rfl, rfl, rfl, fun _ => by first | exact Nat.le_refl _ | exact Nat.le_succ _ | exact Nat.le_add_right _ _⟩, ?_⟩
  rw [hw]
  exact g _ _ ⟨_, rfl⟩ (by simpa using s.push z.cells.toList t)

/-! ### Slices of one's own -/
def Row (k : Nat) (v : Value) (n : Nat) (cs : List Value) : HP :=
  ⟨fun h S => cs.length = n * k ∧ ((v = .slice none 0 0 ∧ n = 0) ∨ ∃ a cap post, v = .slice (some a) n cap ∧ n ≤ cap ∧ post.length = (cap - n) * k ∧ (Cells (.pointer (some a)) (cs ++ post)).own h S),
   fun h h' S hx he => ⟨hx.1, hx.2.imp id fun ⟨a, cap, post, h1, h2, h3, h4⟩ => ⟨a, cap, post, h1, h2, h3, (Cells _ _).loc h h' S h4 he⟩⟩⟩

theorem St.row {h0 h : Heap} {k n : Nat} {v : Value} {cs : List Value} {L : List HP} (s : St h0 h (Row k v n cs :: L)) : IsSl v n ∧ cs.length = n * k ∧ Rd h (sbase v) cs := by
  obtain ⟨S, ⟨hl, hc⟩, _⟩ := s.get
  rcases hc with ⟨rfl, rfl⟩ | ⟨a, cap, post, rfl, h2, h3, h4⟩
  · refine ⟨⟨_, _, rfl⟩, hl, ?_⟩
    have : cs = [] := by simpa using hl
    subst this
    exact Rd.nil _ _
  · refine ⟨⟨_, _, rfl⟩, hl, ?_⟩
    have := (Cells.rd h4).take cs.length
    rw [List.take_left] at this
    exact this
theorem Rd.nz {h : Heap} {p : Value} {cs : List Value} (r : Rd h p cs) (hne : 0 < cs.length) : p ≠ .pointer none := by
  obtain ⟨b, o, rfl, _⟩ := r.block (by intro e; rw [e] at hne; simp at hne)
  simp
theorem Rd.ptr {h : Heap} {p : Value} {cs : List Value} (r : Rd h p cs) (hne : 0 < cs.length) : ∃ a, p = .pointer (some a) := by
  obtain ⟨b, o, rfl, _⟩ := r.block (by intro e; rw [e] at hne; simp at hne)
  exact ⟨_, rfl⟩
theorem St.rowOpen {h0 h : Heap} {k n : Nat} {v : Value} {cs : List Value} {L : List HP} (s : St h0 h (Row k v n cs :: L)) (hn : 0 < n) :
    ∃ a cap post, v = .slice (some a) n cap ∧ n ≤ cap ∧ post.length = (cap - n) * k ∧ cs.length = n * k ∧ St h0 h (Cells (.pointer (some a)) (cs ++ post) :: L) := by
  obtain ⟨he, S, ⟨hl, hc⟩, r⟩ := s
  rcases hc with ⟨rfl, rfl⟩ | ⟨a, cap, post, h1, h2, h3, h4⟩
  · omega
  · exact ⟨a, cap, post, h1, h2, h3, hl, he, S, h4, r⟩
theorem St.rowShut {h0 h : Heap} {k n cap : Nat} {a : Addr} {cs post : List Value} {L : List HP} (s : St h0 h (Cells (.pointer (some a)) (cs ++ post) :: L)) (h2 : n ≤ cap) (h3 : post.length = (cap - n) * k) (hl : cs.length = n * k) :
    St h0 h (Row k (.slice (some a) n cap) n cs :: L) := s.imp fun S h4 => ⟨hl, .inr ⟨a, cap, post, rfl, h2, h3, h4⟩⟩

theorem oStoreR [Gd] {t : TypeId} {k m : Nat} [Siz P t k] {h0 h : Heap} {v x : Value} {n : Nat} {cs : List Value} {L : List HP} {j : Nat} {K : Value → Heap → Prop}
    (s : St h0 h (Row m v n cs :: L)) (hk : x.cells.toList.length = k) (hj : j + k ≤ cs.length) (hk0 : 0 < k) (h1 : ∀ y ∈ x.cells.toList, one y = true)
    (g : ∀ h', St h0 h' (Row m v n (setAt cs j x.cells.toList) :: L) → K undef h') : oStore P t (padd (sbase v) j) x h K := by
  have hn : 0 < n := by
    have := s.row.2.1
    rcases Nat.eq_zero_or_pos n with rfl | hn
    · rw [Nat.zero_mul] at this; omega
    · exact hn
  obtain ⟨a, cap, post, rfl, h2, h3, hl, s'⟩ := s.rowOpen hn
  refine oStoreC s' hk (by simp; omega) h1 fun h' s'' => g h' ?_
  have : setAt (cs ++ post) j x.cells.toList = setAt cs j x.cells.toList ++ post := by
    have := setAt_mid [] post x.cells.toList cs j (by omega)
    simpa using this
  rw [this] at s''
  exact s''.rowShut h2 h3 (by rw [setAt_length]; exact hl)
/-- One cell of a slice of one-cell elements. -/
theorem oStoreR1 [Gd] {t : TypeId} [Siz P t 1] {h0 h : Heap} {v x : Value} {n : Nat} {cs : List Value} {L : List HP} {j : Nat} {K : Value → Heap → Prop}
    (s : St h0 h (Row 1 v n cs :: L)) (h1 : one x = true) (hj : j < cs.length)
    (g : ∀ h', St h0 h' (Row 1 v n (cs.set j x) :: L) → K undef h') : oStore P t (padd (sbase v) j) x h K := by
  have hc : x.cells.toList = [x] := by cases x <;> first | (simp [one] at h1; done) | rfl
  refine oStoreR s (by rw [hc]; rfl) (by omega) (by omega) (by rw [hc]; simpa using h1) fun h' s' => g h' ?_
  rw [hc] at s'
  exact s'

theorem wrap_nat (n : Nat) (h : n ≤ 9223372036854775807) : IntKind.i64.wrap (n : Int) = n := by
  exact IntWalk.i64_in _ (by omega)

theorem madeCells_list (z : Array Value) (n : Nat) : madeCells z n = ((List.range n).map fun i => z[i % z.size]!).toArray := by
  apply Array.ext'
  simp [madeCells]
/-- 'make([]T, l, c)'. -/
theorem oMkSliceR [Gd] {t e : TypeId} {k b : Nat} {z : Value} [Und P t (.slice e)] [u : Inf P e k b z] {h0 h : Heap} {l c : Nat} {L : List HP} {K : Value → Heap → Prop}
    (s : St h0 h L) (hz : z.cells.size = k) (hlc : l ≤ c) (hc : c * b ≤ 140737488355328) (hc2 : c ≤ 9223372036854775807)
    (g : ∀ v h', St h0 h' (Row k v l ((List.range (l * k)).map fun i => z.cells[i % k]!) :: L) → K v h') : oMkSlice P t (.int .i64 l) (.int .i64 c) h K := by
  intro w hw
  obtain ⟨i, hi, hk, hb, hzz⟩ := u.info
  have hbb : (i.bytes : Int) * (c : Int) ≤ 281474976710656 := by
    have h3 : i.bytes * c ≤ 140737488355328 := by rw [hb, Nat.mul_comm]; exact hc
    have h4 : ((i.bytes * c : Nat) : Int) ≤ 281474976710656 := by omega
    rwa [Int.natCast_mul] at h4
  have hr := run_make (P := P) w t e i z Und.eq hi hzz .i64 .i64 l c (by omega) (by omega) hbb (by omega)
  simp only [Int.toNat_natCast] at hr
  rw [nv_run hr]
  refine ⟨⟨rfl, rfl, rfl, fun _ => by first | exact Nat.le_refl _ | exact Nat.le_succ _ | exact Nat.le_add_right _ _⟩, ?_⟩
  show K _ (w.heap.push _)
  rw [hw, hk, madeCells_list, hz]
  have hsplit : (List.range (c * k)).map (fun i => z.cells[i % k]!) = (List.range (l * k)).map (fun i => z.cells[i % k]!) ++ ((List.range ((c - l) * k)).map fun i => z.cells[(l * k + i) % k]!) := by
    rw [show c * k = l * k + (c - l) * k from by rw [← Nat.add_mul]; congr 1; omega, List.range_add, List.map_append, List.map_map]
    rfl
  refine g _ _ ?_
  have := (s.push ((List.range (c * k)).map fun i => z.cells[i % k]!) e)
  rw [hsplit] at this ⊢
  exact this.rowShut hlc (by simp) (by simp)
theorem map_range_one (z : Value) (h1 : one z = true) (n : Nat) : ((List.range (n * 1)).map fun i => z.cells[i % 1]!) = List.replicate n z := by
  have hc : z.cells = #[z] := by cases z <;> first | (simp [one] at h1; done) | rfl
  rw [hc, Nat.mul_one]
  apply List.ext_getElem
  · simp
  · intro i _ _
    simp [Nat.mod_one]
/-- Elements of one cell. -/
theorem oMkSliceR1 [Gd] {t e : TypeId} {b : Nat} {z : Value} [Und P t (.slice e)] [Inf P e 1 b z] {h0 h : Heap} {l c : Nat} {L : List HP} {K : Value → Heap → Prop}
    (s : St h0 h L) (hz : one z = true) (hlc : l ≤ c) (hc : c * b ≤ 140737488355328) (hc2 : c ≤ 9223372036854775807)
    (g : ∀ v h', St h0 h' (Row 1 v l (List.replicate l z) :: L) → K v h') : oMkSlice P t (.int .i64 l) (.int .i64 c) h K := by
  refine oMkSliceR s ?_ hlc hc hc2 fun v h' s' => g v h' ?_
  · cases z <;> first | (simp [one] at hz; done) | rfl
  · rwa [map_range_one z hz] at s'

/-- A literal of one element. -/
theorem oBuild1 [Gd] {t e : TypeId} {k b : Nat} {z x : Value} [Und P t (.slice e)] [Inf P e k b z] {h0 h : Heap} {L : List HP} {K : Value → Heap → Prop}
    (s : St h0 h L) (hx : x.cells.size = k) (hz : z.cells.size = k) (hk : 0 < k) (hk2 : k ≤ 16777216)
    (g : ∀ v h', St h0 h' (Row k v 1 x.cells.toList :: L) → K v h') : oBuildSlice P t 1 #[(0, x)] h K := by
  intro w hw
  have hfill : Instr.fill (fun i => some (i * k, k)) ((Array.range (1 * k)).map (z.cells[· % z.cells.size]!)) [(0, x)] = some x.cells := by
    simp only [Instr.fill, Nat.zero_mul, hx, ne_eq, not_true_eq_false, Nat.zero_add, Array.size_map, Array.size_range, Nat.one_mul, decide_false, gt_iff_lt, Nat.lt_irrefl, Bool.or_false, Bool.false_eq_true, if_false]
    congr 1
    have key : ∀ (l : List Value) (i : Nat) (c : Array Value), (l.zipIdx i).foldl (fun cs (p : Value × Nat) => cs.setIfInBounds p.2 p.1) c = ⟨setAt c.toList i l⟩ := by
      intro l
      induction l with
      | nil => intro i c; simp [setAt]
      | cons y l ih =>
        intro i c
        simp only [List.zipIdx_cons, List.foldl_cons, setAt]
        rw [ih]
        simp
    have h2 := key x.cells.toList 0 ((Array.range k).map (z.cells[· % z.cells.size]!))
    rw [← Array.foldl_toList, Array.toList_zipIdx]
    rw [h2]
    apply Array.ext'
    have hset : ∀ (l c : List Value), c.length = l.length → setAt c 0 l = l := by
      intro l c hc
      have : ∀ (l pre c : List Value), c.length = l.length → setAt (pre ++ c) pre.length l = pre ++ l := by
        intro l
        induction l with
        | nil => intro pre c hc; have : c = [] := by simpa using hc
                 subst this; simp [setAt]
        | cons y l ih =>
          intro pre c hc
          cases c with
          | nil => simp at hc
          | cons d c =>
            simp only [setAt]
            have := ih (pre ++ [y]) c (by simpa using hc)
            rw [List.set_append_right _ _ (Nat.le_refl _)]
            simp only [Nat.sub_self, List.set_cons_zero]
            simpa using this
      simpa using this l [] c hc
    exact hset _ _ (by simp [hx])
  have hr : (Instr.buildSlice t 1 #[(0, x)]).run P w = .ok (.slice (some ⟨w.heap.size, 0, none⟩) 1 1) { w with heap := w.heap.push (.cells x.cells e) } := by
    unfold Instr.buildSlice
    have h1 : ¬ (1 * k > 2 ^ 24) := by omega
    have h2 : ¬ (1 * k = 0) := by omega
    simp only [Sem.run_bind, Und.run (P := P) (t := t), Result.andThen_ok, Inf.siz (P := P) (t := e), if_neg h1, if_neg h2, pure_bind, Inf.zer (P := P) (t := e)]
    rw [hfill]
    simp [newRow, newObj, Sem.run]
  rw [nv_run hr]
  refine ⟨⟨rfl, rfl, rfl, fun _ => by first | exact Nat.le_refl _ | exact Nat.le_succ _ | exact Nat.le_add_right _ _⟩, ?_⟩
  rw [hw]
  refine g _ _ ?_
  have := s.push x.cells.toList e
  simp only [Array.toArray_toList] at this
  rw [← List.append_nil x.cells.toList] at this
  exact this.rowShut (Nat.le_refl _) (by simp) (by simp [hx])
theorem oBuild1o [Gd] {t e : TypeId} {b : Nat} {z x : Value} [Und P t (.slice e)] [Inf P e 1 b z] {h0 h : Heap} {L : List HP} {K : Value → Heap → Prop}
    (s : St h0 h L) (hx : one x = true) (hz : one z = true)
    (g : ∀ v h', St h0 h' (Row 1 v 1 [x] :: L) → K v h') : oBuildSlice P t 1 #[(0, x)] h K := by
  have hc : x.cells = #[x] := by cases x <;> first | (simp [one] at hx; done) | rfl
  have hc2 : z.cells = #[z] := by cases z <;> first | (simp [one] at hz; done) | rfl
  exact oBuild1 s (by rw [hc]; rfl) (by rw [hc2]; rfl) (by omega) (by omega) (by rw [hc]; exact g)

/-! ### append -/
theorem run_first {w : World} {k m : Nat} {x : Value} {xs : List Value} (hx : IsSl x m) (hl : xs.length = m * k) (hr : Rd w.heap (sbase x) xs) : (Builtin.firstCells k m x).run P w = .ok xs.toArray w := by
  obtain ⟨a, c, rfl⟩ := hx
  cases a with
  | none =>
    have : xs = [] := by
      rcases hr with h | ⟨b, o, hp, _⟩
      · exact h
      · simp [sbase] at hp
    subst this
    simp [Builtin.firstCells]
  | some a =>
    simp only [Builtin.firstCells, ← hl]
    refine run_loadCells xs fun j y hy => ?_
    obtain ⟨a', ha', hc⟩ := hr.at hy
    simp only [sbase, padd, Value.pointer.injEq, Option.some.injEq] at ha'
    rw [ha']; exact hc
theorem setAt_append : ∀ (xs cs post : List Value), xs.length ≤ post.length → setAt (cs ++ post) cs.length xs = cs ++ xs ++ post.drop xs.length
  | [], cs, post, _ => by simp [setAt]
  | x :: xs, cs, post, h => by
    cases post with
    | nil => simp at h
    | cons p post =>
      simp only [setAt]
      rw [List.set_append_right _ _ (Nat.le_refl _)]
      simp only [Nat.sub_self, List.set_cons_zero]
      have := setAt_append xs (cs ++ [x]) post (by simpa using h)
      simpa using this
theorem zeroCells_size (z : Array Value) (n : Nat) : (Builtin.zeroCells z n).size = n * z.size := by simp [Builtin.zeroCells]

theorem oAppendR [Gd] {t e ty : TypeId} {k b : Nat} {z : Value} [Und P t (.slice e)] [u : Inf P e k b z] {h0 h : Heap} {v x : Value} {n m : Nat} {cs xs : List Value} {L : List HP} {K : Value → Heap → Prop}
    (s : St h0 h (Row k v n cs :: L)) (hz : z.cells.size = k) (hk0 : 0 < k) (hx : IsSl x m) (hl : xs.length = m * k) (hr : Rd h (sbase x) xs) (h1 : ∀ y ∈ xs, one y = true)
    (hb : (n + m) * b ≤ 140737488355328) (hb2 : n + m ≤ 4611686018427387904)
    (g : ∀ v' h', St h0 h' (Row k v' (n + m) (cs ++ xs) :: L) → K v' h') : oAppend P #[t, t] ty #[v, x] h K := by
  intro w hw
  obtain ⟨i, hi, hk, hbb, hzz⟩ := u.info
  obtain ⟨xa, xc, rfl⟩ := id hx
  have hf : ∀ w' : World, w'.heap = h → (Builtin.firstCells k m (.slice xa m xc)).run P w' = .ok xs.toArray w' := fun w' hw' => run_first hx hl (hw' ▸ hr)
  have hcs := s.row.2.1
  obtain ⟨he, S, ⟨_, hown⟩, hS, hL⟩ := id s
  by_cases hroom : ∃ a cap post, v = .slice (some a) n cap ∧ n + m ≤ cap ∧ post.length = (cap - n) * k ∧ (Cells (.pointer (some a)) (cs ++ post)).own h S
  · -- there is room
    obtain ⟨a, cap, post, rfl, hfit, hpost, hc⟩ := hroom
    have hxp : xs.length ≤ post.length := by
      rw [hl, hpost]; exact Nat.mul_le_mul_right _ (by omega)
    obtain ⟨bb, o, T, l, hp, hbk, hSb, hrun, hown'⟩ := Cells.set (P := P) hc (fun b hb => (hS b hb).2) cs.length xs (by simp; omega) h1
    have ha : a.add (n * k) = ⟨bb, o, none⟩ := by
      rw [hcs] at hp
      simpa [padd] using hp
    have hr1 : (Builtin.append_ #[t, t] ty #[.slice (some a) n cap, .slice xa m xc]).run P w = .ok (.slice (some a) (n + m) cap) { w with heap := setB h bb (.cells (setAt l.toList o xs).toArray T (0, 0)) } := by
      have := hf w hw
      have h2 := hrun w hw
      simp [Builtin.append_, run_underlying (Und.eq (P := P) (t := t)), sizeOf, typeInfo, hi, hk, Builtin.lenOf, hfit, this, ha, h2]
    rw [nv_run hr1]
    refine ⟨⟨rfl, rfl, rfl, fun _ => by first | exact Nat.le_refl _ | exact Nat.le_succ _ | exact Nat.le_add_right _ _⟩, g _ _ ?_⟩
    have hst : St h0 (setB h bb (.cells (setAt l.toList o xs).toArray T (0, 0))) (Cells (.pointer (some a)) (setAt (cs ++ post) cs.length xs) :: L) := by
      refine St.step (A := Cells (.pointer (some a)) (cs ++ post)) ⟨he, S, hc, hS, hL⟩ fun S' hA' hS' => ?_
      obtain ⟨b', o', T', l', hp', hb', hSb', _, hown2⟩ := Cells.set (P := P) hA' (fun b hb => (hS' b hb).2) cs.length xs (by simp; omega) h1
      rw [hp] at hp'
      simp only [Value.pointer.injEq, Option.some.injEq, Addr.mk.injEq, and_true] at hp'
      obtain ⟨rfl, rfl⟩ := hp'
      rw [hbk] at hb'
      simp only [Option.some.injEq, Obj.cells.injEq, and_true] at hb'
      obtain ⟨rfl, rfl⟩ := hb'
      exact ⟨by rw [setB_size]; exact Nat.le_refl _, fun i _ hi => setB_ne (fun e => hi (e ▸ hSb')), S', hown2, fun i hi => .inl hi⟩
    rw [setAt_append xs cs post hxp] at hst
    exact hst.rowShut hfit (by rw [List.length_drop, hpost, hl, ← Nat.sub_mul]; congr 1; omega) (by rw [List.length_append, hcs, hl, Nat.add_mul])
  · -- nil and nothing to append, or it grows
    have hmain : (v = .slice none 0 0 ∧ n = 0) ∨ ∃ a cap post, v = .slice (some a) n cap ∧ cap < n + m ∧ n ≤ cap ∧ (Cells (.pointer (some a)) (cs ++ post)).own h S := by
      rcases hown with h | ⟨a, cap, post, h1, h2, h3, h4⟩
      · exact .inl h
      · refine .inr ⟨a, cap, post, h1, ?_, h2, h4⟩
        rcases Nat.lt_or_ge cap (n + m) with h | h
        · exact h
        · exact absurd ⟨a, cap, post, h1, h, h3, h4⟩ hroom
    have grown : ∀ w' : World, SameW w w' → ∀ cap, n + m ≤ cap → w'.heap = w.heap.push (.cells ((cs ++ xs).toArray ++ Builtin.zeroCells z.cells (cap - (n + m))) e) →
        (Builtin.append_ #[t, t] ty #[v, .slice xa m xc]).run P w = .ok (.slice (some ⟨w.heap.size, 0, none⟩) (n + m) cap) w' → NextOk P K w ((nv (Builtin.append_ #[t, t] ty #[v, .slice xa m xc])).run P w) := by
      intro w' hs cap hcap hh hrun
      rw [nv_run hrun]
      refine ⟨hs, ?_⟩
      rw [hh, hw]
      refine g _ _ ?_
      have s0 := s.drop.push (cs ++ xs ++ (Builtin.zeroCells z.cells (cap - (n + m))).toList) e
      have e1 : (cs ++ xs ++ (Builtin.zeroCells z.cells (cap - (n + m))).toList).toArray = (cs ++ xs).toArray ++ Builtin.zeroCells z.cells (cap - (n + m)) := by
        apply Array.ext'; simp
      rw [e1] at s0
      exact s0.rowShut hcap (by rw [Array.length_toList, zeroCells_size, hz]) (by rw [List.length_append, hcs, hl, Nat.add_mul])
    rcases hmain with ⟨rfl, rfl⟩ | ⟨a, cap, post, rfl, hgrow, hcap, hc⟩
    · have hcs0 : cs = [] := by simpa using hcs
      subst hcs0
      rcases Nat.eq_zero_or_pos m with rfl | hm
      · have : xs = [] := by simpa using hl
        subst this
        have hr1 : (Builtin.append_ #[t, t] ty #[.slice none 0 0, .slice xa 0 xc]).run P w = .ok (.slice none 0 0) w := by
          have := hf w hw
          simp [Builtin.append_, run_underlying (Und.eq (P := P) (t := t)), sizeOf, typeInfo, hi, hk, Builtin.lenOf, this]
        rw [nv_run hr1]
        exact ⟨⟨rfl, rfl, rfl, fun _ => by first | exact Nat.le_refl _ | exact Nat.le_succ _ | exact Nat.le_add_right _ _⟩, by rw [hw]; exact g _ _ s⟩
      · cases xa with
        | none =>
          have : xs = [] := by
            rcases hr with h | ⟨_, _, hp, _⟩
            · exact h
            · simp [sbase] at hp
          subst this
          rcases Nat.mul_eq_zero.1 hl.symm with h | h <;> omega
        | some a =>
          have hnews : ∀ j y, xs[j]? = some y → w.cell? (a.add j) = some y := fun j y hy => by
            obtain ⟨a', ha', hc⟩ := hr.at hy
            simp only [sbase, padd, Value.pointer.injEq, Option.some.injEq] at ha'
            rw [cell?_eq, hw, ha']; exact hc
          have hr1 := run_append_nil (P := P) w t ty e i z Und.eq hi hzz a m xc xs (by rw [hk]; exact hl) hnews hm (by omega) (by rw [hbb]; rw [Nat.zero_add] at hb; omega)
          refine grown (w.drew.alloc (.cells (xs.toArray ++ Builtin.zeroCells z.cells (grownCap w m 0 e - m)) e)) ⟨rfl, rfl, rfl, fun _ => by first | exact Nat.le_refl _ | exact Nat.le_succ _ | exact Nat.le_add_right _ _⟩ (grownCap w m 0 e) (by rw [Nat.zero_add]; exact grownCap_ge w m 0 e) ?_ (by rw [Nat.zero_add]; exact hr1)
          show w.heap.push _ = _
          congr 2
          rw [Nat.zero_add]
          rfl
    · have hm : 0 < m := by omega
      obtain ⟨xb, hxb⟩ : ∃ xb, xa = some xb := by
        cases xa with
        | some y => exact ⟨y, rfl⟩
        | none =>
          exfalso
          have hxs : xs = [] := by
            rcases hr with h | ⟨_, _, hp, _⟩
            · exact h
            · simp [sbase] at hp
          subst hxs
          rcases Nat.mul_eq_zero.1 hl.symm with h | h <;> omega
      subst hxb
      have hnews : ∀ j y, xs[j]? = some y → w.cell? (xb.add j) = some y := fun j y hy => by
        obtain ⟨a', ha', hc⟩ := hr.at hy
        simp only [sbase, padd, Value.pointer.injEq, Option.some.injEq] at ha'
        rw [cell?_eq, hw, ha']; exact hc
      have holds : ∀ j y, cs[j]? = some y → w.cell? (a.add j) = some y := fun j y hy => by
        have hrd := (Cells.rd hc).take cs.length
        rw [List.take_left] at hrd
        obtain ⟨a', ha', hcc⟩ := hrd.at hy
        simp only [padd, Value.pointer.injEq, Option.some.injEq] at ha'
        rw [cell?_eq, hw, ha']; exact hcc
      have hr1 := run_append_grow (P := P) w t ty e i z Und.eq hi hzz a n cap cs (by rw [hk]; exact hcs) holds xb m xc xs (by rw [hk]; exact hl) hnews hgrow (by omega) (growslice_fits hgrow (by rw [hbb]; exact hb))
      refine grown (w.drew.alloc (.cells (cs.toArray ++ xs.toArray ++ Builtin.zeroCells z.cells (grownCap w (n + m) cap e - (n + m))) e)) ⟨rfl, rfl, rfl, fun _ => by first | exact Nat.le_refl _ | exact Nat.le_succ _ | exact Nat.le_add_right _ _⟩ (grownCap w (n + m) cap e) (grownCap_ge w (n + m) cap e) ?_ hr1
      show w.heap.push _ = _
      congr 2
      simp
end mem
end Go.Sh
namespace Go.Sh
section maps
variable {P : Program}

def ents (m : List (Str × Value)) (st : List Nat) : List MapEntry := (m.zip st).map fun p => ⟨str p.1.1, p.1.2, p.2⟩
def lookI (m : List (Str × Value)) (k : Str) (i : Nat) : Option (Nat × Value) :=
  match m with
  | [] => none
  | (k', x) :: m => if k' = k then some (i, x) else lookI m k (i + 1)
def look (m : List (Str × Value)) (k : Str) : Option Value :=
  match m with
  | [] => none
  | (k', x) :: m => if k' = k then some x else look m k
def ups (m : List (Str × Value)) (k : Str) (x : Value) : List (Str × Value) :=
  match m with
  | [] => [(k, x)]
  | (k', y) :: m => if k' = k then (k, x) :: m else (k', y) :: ups m k x
theorem lookI_look (k : Str) : ∀ (m : List (Str × Value)) (i : Nat), (lookI m k i).map (·.2) = look m k
  | [], _ => rfl
  | (k', x) :: m, i => by
    unfold lookI look
    split
    · rfl
    · exact lookI_look k m (i + 1)
theorem str_eq (a b : Str) : ((⟨a.toArray⟩ : ByteArray) == ⟨b.toArray⟩) = decide (a = b) := by
  rw [show ((⟨a.toArray⟩ : ByteArray) == ⟨b.toArray⟩) = (a.toArray == b.toArray) from rfl, Bool.eq_iff_iff]
  simp
theorem findNow_ents (k : Str) : ∀ (m : List (Str × Value)) (st : List Nat) (i : Nat), m.length = st.length → Instr.findNow .string (str k) (ents m st) i = some (lookI m k i)
  | [], [], _, _ => rfl
  | (k', x) :: m, b :: st, i, h => by
    have h' : m.length = st.length := by simpa using h
    show Instr.findNow .string (str k) (⟨str k', x, b⟩ :: ents m st) i = _
    unfold Instr.findNow lookI
    simp only [Instr.sameNow, str, str_eq]
    by_cases hk : k' = k
    · subst hk; simp
    · rw [show decide (k = k') = false from by simp; exact fun e => hk e.symm, if_neg hk]
      simpa [str] using findNow_ents k m st (i + 1) h'
  | [], _ :: _, _, h => by simp at h
  | _ :: _, [], _, h => by simp at h
theorem run_checkKey_str {kt : TypeId} [Und P kt .string] (e : Bool) (n : Nat) (k : Str) (w : World) : (Instr.checkKey e (n + 1) kt (str k)).run P w = .ok () w := by
  simp [Instr.checkKey, Und.run, str]
theorem run_findKey_str {kt : TypeId} [Und P kt .string] (k : Str) (m : List (Str × Value)) (st : List Nat) (h : m.length = st.length) (w : World) :
    (Instr.findKey kt (str k) (ents m st)).run P w = .ok (lookI m k 0) w := by
  simp [Instr.findKey, Und.run, findNow_ents k m st 0 h]

/-- A map that can be read. -/
structure MapOk (m : List (Str × Value)) (st : List Nat) (c : Nat) : Prop where
  len : m.length = st.length
  keys : (m.map (·.1)).Nodup
  born : st.Nodup
  lt : ∀ b ∈ st, b < c
def RdM (h : Heap) (v : Value) (m : List (Str × Value)) (st : List Nat) (c : Nat) : Prop :=
  MapOk m st c ∧ ∃ r, v = .map (some r) ∧ h[r]? = some (.map (ents m st).toArray c)
def MapS (v : Value) (m : List (Str × Value)) (st : List Nat) (c : Nat) : HP :=
  ⟨fun h S => MapOk m st c ∧ ∃ r, v = .map (some r) ∧ S r ∧ h[r]? = some (.map (ents m st).toArray c),
   fun h h' S ⟨h1, r, h2, h3, h4⟩ he => ⟨h1, r, h2, h3, (he r h3).trans h4⟩⟩
def MapO (v : Value) (m : List (Str × Value)) : HP := HP.ex fun st => HP.ex fun c => MapS v m st c
theorem RdM.ext {h h' : Heap} {v : Value} {m : List (Str × Value)} {st : List Nat} {c : Nat} (r : RdM h v m st c) (he : Ext h h') : RdM h' v m st c := by
  obtain ⟨h1, b, h2, h3⟩ := r
  exact ⟨h1, b, h2, (he.2 b (lt_of_some h3)).trans h3⟩
theorem St.mapRd {h0 h : Heap} {v : Value} {m : List (Str × Value)} {st : List Nat} {c : Nat} {L : List HP} (s : St h0 h (MapS v m st c :: L)) : RdM h v m st c := by
  obtain ⟨S, ⟨h1, r, h2, _, h4⟩, _⟩ := s.get
  exact ⟨h1, r, h2, h4⟩
theorem St.mapO {h0 h : Heap} {v : Value} {m : List (Str × Value)} {L : List HP} (s : St h0 h (MapO v m :: L)) : ∃ st c, St h0 h (MapS v m st c :: L) := by
  obtain ⟨st, s⟩ := s.ex
  obtain ⟨c, s⟩ := s.ex
  exact ⟨st, c, s⟩
theorem St.toMapO {h0 h : Heap} {v : Value} {m : List (Str × Value)} {st : List Nat} {c : Nat} {L : List HP} (s : St h0 h (MapS v m st c :: L)) : St h0 h (MapO v m :: L) :=
  St.toEx st (St.toEx c s)

theorem run_getObj {w : World} {r : Nat} {o : Obj} (h : w.heap[r]? = some o) (hc : ∀ a b d, o ≠ .cells a b d) : (getObj r).run P w = .ok o w := by
  unfold getObj
  simp only [Sem.run, h]
theorem run_setObj {w : World} {r : Nat} {o o' : Obj} (h : w.heap[r]? = some o) (hc : ∀ a b d, o ≠ .cells a b d) : (setObj r o').run P w = .ok () { w with heap := setB w.heap r o' } := by
  unfold setObj
  simp only [Sem.run, h]
  cases o <;> first | rfl | (rename_i a b d; exact absurd rfl (hc a b d))

theorem oLook_val {t kt et : TypeId} {kk bb : Nat} {z : Value} [Und P t (.map kt et)] [Und P kt .string] [Inf P et kk bb z] {v : Value} {m : List (Str × Value)} {k : Str} {ok : Bool} {D : Heap → Prop} {K : Value → Prop}
    (hr : ∀ h', D h' → ∃ st c, RdM h' v m st c) (hk : K (if ok then .tuple #[(look m k).getD z, .bool (look m k).isSome] else (look m k).getD z)) : oLook P t v (str k) ok D K := by
  refine ⟨_, fun w hw => ?_, hk⟩
  obtain ⟨st, c, hok, r, rfl, hb⟩ := hr _ hw
  refine nv_run ?_
  unfold Instr.lookup
  have h1 := run_findKey_str (P := P) (kt := kt) k m st hok.len w
  have h2 := lookI_look k m 0
  simp only [Sem.run_bind, Und.run (P := P) (t := t), Result.andThen_ok, run_getObj (P := P) hb (by simp), pure_bind, run_checkKey_str (P := P) (kt := kt) _ 9999 k, h1]
  cases hl : lookI m k 0 with
  | none =>
    rw [hl] at h2
    simp only [Option.map_none] at h2
    rw [← h2]
    simp [Inf.zer]
  | some p =>
    rw [hl] at h2
    simp only [Option.map_some] at h2
    rw [← h2]
    simp

theorem ents_append (m m' : List (Str × Value)) (st st' : List Nat) (h : m.length = st.length) : ents (m ++ m') (st ++ st') = ents m st ++ ents m' st' := by
  simp [ents, List.zip_append h]
theorem lookI_some (k : Str) : ∀ (m : List (Str × Value)) (st : List Nat) (i : Nat) {j : Nat} {x y : Value}, m.length = st.length → lookI m k i = some (j, x) →
    i ≤ j ∧ (ents m st)[j - i]?.map (·.key) = some (str k) ∧ (ents m st).modify (j - i) (fun e => { e with key := str k, val := y }) = ents (ups m k y) st
  | [], _, _, _, _, _, _, h => by simp [lookI] at h
  | (k', x') :: m, b :: st, i, j, x, y, hl, h => by
    unfold lookI at h
    show i ≤ j ∧ ((⟨str k', x', b⟩ :: ents m st : List MapEntry)[j - i]?).map _ = _ ∧ (⟨str k', x', b⟩ :: ents m st : List MapEntry).modify (j - i) _ = ents (ups ((k', x') :: m) k y) (b :: st)
    split at h
    · rename_i hk
      subst hk
      simp only [Option.some.injEq, Prod.mk.injEq] at h
      obtain ⟨rfl, rfl⟩ := h
      refine ⟨Nat.le_refl _, by simp, ?_⟩
      simp only [Nat.sub_self, List.modify_zero_cons, ups, if_true]
      rfl
    · rename_i hk
      obtain ⟨h1, h2, h3⟩ := lookI_some k m st (i + 1) (y := y) (by simpa using hl) h
      refine ⟨by omega, ?_, ?_⟩
      · rw [show j - i = (j - (i + 1)) + 1 from by omega]; simpa using h2
      · rw [show j - i = (j - (i + 1)) + 1 from by omega]
        simp only [List.modify_succ_cons, h3, ups, if_neg hk]
        rfl
  | _ :: _, [], _, _, _, _, hl, _ => by simp at hl
theorem lookI_none (k : Str) (y : Value) : ∀ (m : List (Str × Value)) (i : Nat), lookI m k i = none → ups m k y = m ++ [(k, y)] ∧ ∀ p ∈ m, p.1 ≠ k
  | [], _, _ => ⟨rfl, by simp⟩
  | (k', x') :: m, i, h => by
    unfold lookI at h
    split at h
    · cases h
    · rename_i hk
      obtain ⟨h1, h2⟩ := lookI_none k y m (i + 1) h
      refine ⟨by simp [ups, hk, h1], fun p hp => ?_⟩
      rcases List.mem_cons.1 hp with rfl | hp
      · exact hk
      · exact h2 p hp
theorem ups_keys_some (k : Str) (y : Value) : ∀ (m : List (Str × Value)) (i : Nat) {r}, lookI m k i = some r → (ups m k y).map (·.1) = m.map (·.1)
  | [], _, _, h => by simp [lookI] at h
  | (k', x') :: m, i, r, h => by
    unfold lookI at h
    split at h
    · rename_i hk; subst hk; simp [ups]
    · rename_i hk; simp [ups, hk, ups_keys_some k y m (i + 1) h]

/-- A store into a map of one's own. -/
theorem oUpd_own [Gd] {t kt et : TypeId} [Und P t (.map kt et)] [Und P kt .string] {h0 h : Heap} {v x : Value} {m : List (Str × Value)} {st : List Nat} {c : Nat} {k : Str} {L : List HP} {K : Value → Heap → Prop}
    (s : St h0 h (MapS v m st c :: L)) (g : ∀ h' st' c', ((look m k).isSome → st' = st ∧ c' = c) → St h0 h' (MapS v (ups m k x) st' c' :: L) → K undef h') : oUpd P t v (str k) x h K := by
  intro w hw
  obtain ⟨_, S0, ⟨hok, r, rfl, hSr, hb⟩, _, _⟩ := id s
  have hbw : w.heap[r]? = some (.map (ents m st).toArray c) := by rw [hw]; exact hb
  have h1 := run_findKey_str (P := P) (kt := kt) k m st hok.len w
  have hl := lookI_look k m 0
  -- the step, whatever the new object
  have stepTo : ∀ m' st' c', MapOk m' st' c' → St h0 (setB h r (.map (ents m' st').toArray c')) (MapS (.map (some r)) m' st' c' :: L) := by
    intro m' st' c' hok'
    refine St.step s fun S' hA' hS' => ?_
    obtain ⟨_, r', hr', hSr', hb'⟩ := hA'
    simp only [Value.map.injEq, Option.some.injEq] at hr'
    subst hr'
    exact ⟨by rw [setB_size]; exact Nat.le_refl _, fun i _ hi => setB_ne (fun e => hi (e ▸ hSr')), S', ⟨hok', r, rfl, hSr', setB_eq (lt_of_some hb')⟩, fun i hi => .inl hi⟩
  cases hf : lookI m k 0 with
  | some p =>
    obtain ⟨j, x0⟩ := p
    obtain ⟨_, hkey, hmod⟩ := lookI_some k m st 0 (y := x) hok.len hf
    simp only [Nat.sub_zero] at hkey hmod
    have hkeys := ups_keys_some k x m 0 hf
    have hok' : MapOk (ups m k x) st c := ⟨by rw [← hok.len, ← List.length_map (f := (·.1)), hkeys, List.length_map], by rw [hkeys]; exact hok.keys, hok.born, hok.lt⟩
    have hrun : (Instr.mapUpdate t (.map (some r)) (str k) x).run P w = .ok () { w with heap := setB h r (.map (ents (ups m k x) st).toArray c) } := by
      unfold Instr.mapUpdate
      have hstay : (Instr.keyThatStays (((ents m st).toArray[j]?.map (·.key)).getD (str k)) (str k)).run P w = .ok (str k) w := by
        have e1 : ((ents m st).toArray[j]?.map (·.key)).getD (str k) = str k := by
          rw [List.getElem?_toArray, hkey]; rfl
        rw [e1]
        have e2 : Instr.sameBits 10000 (str k) (str k) = true := by simp [Instr.sameBits, str, str_eq]
        simp [Instr.keyThatStays, e2]
      have hset := run_setObj (P := P) (o' := .map (ents (ups m k x) st).toArray c) hbw (by simp)
      rw [hw] at hset
      have hmod' : (ents m st).toArray.modify j (fun e => { e with key := str k, val := x }) = (ents (ups m k x) st).toArray := by
        rw [← hmod]; simp
      simp only [Sem.run_bind, Und.run (P := P) (t := t), Result.andThen_ok, run_getObj (P := P) hbw (by simp), run_checkKey_str (P := P) (kt := kt) _ 9999 k, h1, hf, hstay, hmod', hset]
    have : (nu (Instr.mapUpdate t (.map (some r)) (str k) x)).run P w = .ok .skip { w with heap := setB h r (.map (ents (ups m k x) st).toArray c) } := by
      simp only [nu]; rw [Sem.run_bind, hrun]; rfl
    rw [this]
    exact ⟨⟨rfl, rfl, rfl, fun _ => by first | exact Nat.le_refl _ | exact Nat.le_succ _ | exact Nat.le_add_right _ _⟩, g _ st c (fun _ => ⟨rfl, rfl⟩) (stepTo _ _ _ hok')⟩
  | none =>
    obtain ⟨hups, hne⟩ := lookI_none k x m 0 hf
    have hok' : MapOk (ups m k x) (st ++ [c]) (c + 1) := by
      rw [hups]
      refine ⟨by simp [hok.len], ?_, ?_, ?_⟩
      · rw [List.map_append, List.nodup_append]
        refine ⟨hok.keys, by simp, ?_⟩
        intro a ha b hb
        obtain ⟨p, hp, rfl⟩ := List.mem_map.1 ha
        simp only [List.map_cons, List.map_nil, List.mem_singleton] at hb
        rw [hb]; exact hne p hp
      · rw [List.nodup_append]
        refine ⟨hok.born, by simp, ?_⟩
        intro a ha b hb
        simp only [List.mem_singleton] at hb
        subst hb
        have := hok.lt a ha
        omega
      · intro b hb
        rcases List.mem_append.1 hb with hb | hb
        · have := hok.lt b hb; omega
        · simp only [List.mem_singleton] at hb; omega
    have hents : ents (ups m k x) (st ++ [c]) = ents m st ++ [⟨str k, x, c⟩] := by
      rw [hups, ents_append _ _ _ _ hok.len]; rfl
    have hrun : (Instr.mapUpdate t (.map (some r)) (str k) x).run P w = .ok () { w with heap := setB h r (.map (ents (ups m k x) (st ++ [c])).toArray (c + 1)) } := by
      unfold Instr.mapUpdate
      have hset := run_setObj (P := P) (o' := .map (ents (ups m k x) (st ++ [c])).toArray (c + 1)) hbw (by simp)
      rw [hw] at hset
      have hpush : (ents m st).toArray.push { key := str k, val := x, born := c } = (ents (ups m k x) (st ++ [c])).toArray := by rw [hents]; simp
      simp only [Sem.run_bind, Und.run (P := P) (t := t), Result.andThen_ok, run_getObj (P := P) hbw (by simp), run_checkKey_str (P := P) (kt := kt) _ 9999 k, h1, hf, hpush, hset]
    have : (nu (Instr.mapUpdate t (.map (some r)) (str k) x)).run P w = .ok .skip { w with heap := setB h r (.map (ents (ups m k x) (st ++ [c])).toArray (c + 1)) } := by
      simp only [nu]; rw [Sem.run_bind, hrun]; rfl
    rw [this]
    refine ⟨⟨rfl, rfl, rfl, fun _ => by first | exact Nat.le_refl _ | exact Nat.le_succ _ | exact Nat.le_add_right _ _⟩, g _ (st ++ [c]) (c + 1) (fun h => ?_) (stepTo _ _ _ hok')⟩
    rw [hf] at hl
    simp only [Option.map_none] at hl
    rw [← hl] at h
    cases h

/-- A new map. -/
theorem oMkMap_own [Gd] {t kt et : TypeId} [Und P t (.map kt et)] {h0 h : Heap} {L : List HP} {r : Option Value} {K : Value → Heap → Prop} (hr : r = none ∨ ∃ k n, r = some (.int k n)) (s : St h0 h L)
    (g : ∀ v h', St h0 h' (MapO v [] :: L) → K v h') : oMkMap P t r h K := by
  intro w hw
  have hrun : (Instr.makeMap t r).run P w = .ok (.map (some w.heap.size)) { w with heap := w.heap.push (.map #[] 0) } := by
    rcases hr with rfl | ⟨k, n, rfl⟩
    · simp [Instr.makeMap, newObj, Sem.run]
    · simp [Instr.makeMap, newObj, Sem.run, Und.run, asInt, asIntOf]
  rw [nv_run hrun]
  refine ⟨⟨rfl, rfl, rfl, fun _ => by first | exact Nat.le_refl _ | exact Nat.le_succ _ | exact Nat.le_add_right _ _⟩, ?_⟩
  rw [hw]
  refine g _ _ (s.new (by simp) (fun b hb => push_old b hb) ⟨[], 0, ⟨rfl, by simp, by simp, by simp⟩, h.size, rfl, ⟨Nat.le_refl _, by simp⟩, by simp [ents]⟩)
/-- len of a map. -/
theorem oLenM_rd {t ty kt et : TypeId} [Und P t (.map kt et)] {v : Value} {m : List (Str × Value)} {D : Heap → Prop} {K : Value → Prop}
    (hr : ∀ h', D h' → ∃ st c, RdM h' v m st c) (hk : K (.int .i64 m.length)) : oLenM P #[t] ty v D K := by
  refine ⟨_, fun w hw => ?_, hk⟩
  obtain ⟨st, c, hok, r, rfl, hb⟩ := hr _ hw
  refine nv_run ?_
  have hsz : (ents m st).length = m.length := by simp [ents, hok.len]
  have := run_getObj (P := P) hb (by simp)
  unfold Builtin.len_
  simp [Und.run, this, goInt, hsz]

/-! Ranging over a map whose entries stay the same ones (their values may turn). 'ks': the keys that have come. -/
def stampOf (keys : List Str) (st : List Nat) (k : Str) : Nat :=
  match keys, st with
  | k' :: keys, b :: st => if k' = k then b else stampOf keys st k
  | _, _ => 0
def IterS (it v : Value) (keys : List Str) (st : List Nat) (c : Nat) (ks : List Str) : HP :=
  ⟨fun h S => ∃ i r, it = .pointer (some ⟨i, 0, none⟩) ∧ v = .map (some r) ∧ S i ∧ h[i]? = some (.mapIter (some r) c (ks.map (stampOf keys st)).toArray c),
   fun h h' S ⟨i, r, h1, h2, h3, h4⟩ he => ⟨i, r, h1, h2, h3, (he i h3).trans h4⟩⟩
theorem oRange_map [Gd] {t kt et : TypeId} [Und P t (.map kt et)] {h0 h : Heap} {L : List HP} {v : Value} {m : List (Str × Value)} {st : List Nat} {c : Nat} {K : Value → Heap → Prop}
    (s : St h0 h L) (hr : RdM h v m st c) (g : ∀ it h', St h0 h' (IterS it v (m.map (·.1)) st c [] :: L) → K it h') : oRange P t v h K := by
  intro w hw
  obtain ⟨hok, r, rfl, hb⟩ := hr
  have hbw : w.heap[r]? = some (.map (ents m st).toArray c) := by rw [hw]; exact hb
  have hrun : (Instr.range t (.map (some r))).run P w = .ok (.pointer (some ⟨w.heap.size, 0, none⟩)) { w with heap := w.heap.push (.mapIter (some r) c #[] c) } := by
    unfold Instr.range
    simp [Und.run, run_getObj (P := P) hbw (by simp), newObj, Sem.run]
  rw [nv_run hrun]
  refine ⟨⟨rfl, rfl, rfl, fun _ => by first | exact Nat.le_refl _ | exact Nat.le_succ _ | exact Nat.le_add_right _ _⟩, ?_⟩
  rw [hw]
  exact g _ _ (s.new (by simp) (fun b hb => push_old b hb) ⟨h.size, r, rfl, rfl, ⟨Nat.le_refl _, by simp⟩, by simp⟩)

theorem stampOf_mem (k : Str) : ∀ (keys : List Str) (st : List Nat), keys.length = st.length → k ∈ keys → stampOf keys st k ∈ st
  | k' :: keys, b :: st, hl, hk => by
    unfold stampOf
    split
    · simp
    · rename_i hne
      rcases List.mem_cons.1 hk with h | h
      · exact absurd h.symm hne
      · exact List.mem_cons_of_mem _ (stampOf_mem k keys st (by simpa using hl) h)
  | [], _, _, hk => by simp at hk
  | _ :: _, [], hl, _ => by simp at hl
theorem stampOf_inj : ∀ (keys : List Str) (st : List Nat), keys.length = st.length → st.Nodup → ∀ {a b : Str}, a ∈ keys → b ∈ keys → stampOf keys st a = stampOf keys st b → a = b
  | k :: keys, s :: st, hl, hn, a, b, ha, hb, h => by
    have hl' : keys.length = st.length := by simpa using hl
    rw [List.nodup_cons] at hn
    unfold stampOf at h
    rcases List.mem_cons.1 ha with ea | ha2
    · rcases List.mem_cons.1 hb with eb | hb2
      · rw [ea, eb]
      · by_cases he : k = b
        · rw [ea, he]
        · rw [if_pos ea.symm, if_neg he] at h
          exact absurd (h ▸ stampOf_mem b keys st hl' hb2) hn.1
    · rcases List.mem_cons.1 hb with eb | hb2
      · by_cases he : k = a
        · rw [eb, he]
        · rw [if_neg he, if_pos eb.symm] at h
          exact absurd (h.symm ▸ stampOf_mem a keys st hl' ha2) hn.1
      · by_cases h1 : k = a
        · by_cases h2 : k = b
          · rw [← h1, ← h2]
          · rw [if_pos h1, if_neg h2] at h
            exact absurd (h ▸ stampOf_mem b keys st hl' hb2) hn.1
        · by_cases h2 : k = b
          · rw [if_neg h1, if_pos h2] at h
            exact absurd (h.symm ▸ stampOf_mem a keys st hl' ha2) hn.1
          · rw [if_neg h1, if_neg h2] at h
            exact stampOf_inj keys st hl' hn.2 ha2 hb2 h
  | [], _, _, _, _, _, ha, _, _ => by simp at ha
  | _ :: _, [], hl, _, _, _, _, _, _ => by simp at hl
theorem mem_ents {e : MapEntry} : ∀ (m : List (Str × Value)) (st : List Nat), m.length = st.length → (m.map (·.1)).Nodup → e ∈ ents m st →
    ∃ k x, (k, x) ∈ m ∧ look m k = some x ∧ e.key = str k ∧ e.val = x ∧ e.born = stampOf (m.map (·.1)) st k
  | (k, x) :: m, b :: st, hl, hn, he => by
    rw [List.map_cons, List.nodup_cons] at hn
    have he' : e ∈ (⟨str k, x, b⟩ :: ents m st : List MapEntry) := he
    rcases List.mem_cons.1 he' with rfl | he'
    · exact ⟨k, x, by simp, by simp [look], rfl, rfl, by simp [stampOf]⟩
    · obtain ⟨k', x', h1, h2, h3, h4, h5⟩ := mem_ents m st (by simpa using hl) hn.2 he'
      have hne : k ≠ k' := fun e => hn.1 (e ▸ List.mem_map.2 ⟨_, h1, rfl⟩)
      exact ⟨k', x', List.mem_cons_of_mem _ h1, by simp [look, hne, h2], h3, h4, by simp [stampOf, hne, h5]⟩
  | [], _, _, _, he => by simp [ents] at he
  | _ :: _, [], hl, _, _ => by simp at hl
theorem ents_mem (k : Str) (x : Value) : ∀ (m : List (Str × Value)) (st : List Nat), m.length = st.length → look m k = some x →
    (⟨str k, x, stampOf (m.map (·.1)) st k⟩ : MapEntry) ∈ ents m st
  | (k', x') :: m, b :: st, hl, h => by
    show _ ∈ (⟨str k', x', b⟩ :: ents m st : List MapEntry)
    unfold look at h
    split at h
    · rename_i hk
      subst hk
      simp only [Option.some.injEq] at h
      subst h
      simp [stampOf]
    · rename_i hk
      have := ents_mem k x m st (by simpa using hl) h
      simp [stampOf, hk, this]
  | [], _, _, h => by simp [look] at h
  | _ :: _, [], hl, _ => by simp at hl
theorem look_isSome (k : Str) : ∀ (m : List (Str × Value)), (look m k).isSome ↔ k ∈ m.map (·.1)
  | [] => by simp [look]
  | (k', x) :: m => by
    unfold look
    split
    · rename_i h; simp [h]
    · rename_i h
      rw [look_isSome k m, List.map_cons, List.mem_cons]
      constructor
      · exact .inr
      · rintro (e | e)
        · exact absurd e.symm h
        · exact e

theorem oNext_map [Gd] {ty : TypeId} {h0 h : Heap} {L : List HP} {it v : Value} {m : List (Str × Value)} {st : List Nat} {c : Nat} {keys ks : List Str} {K : Value → Heap → Prop}
    (s : St h0 h (IterS it v keys st c ks :: L)) (hr : RdM h v m st c) (hkeys : keys = m.map (·.1)) (hks : ∀ k ∈ ks, k ∈ keys)
    (gdone : (∀ k ∈ keys, k ∈ ks) → K (.tuple #[.bool false]) h)
    (gnext : ∀ k x h', look m k = some x → k ∉ ks → St h0 h' (IterS it v keys st c (ks ++ [k]) :: L) → (∀ b, h'[b]? = h[b]? ∨ it = .pointer (some ⟨b, 0, none⟩)) → K (.tuple #[.bool true, str k, x]) h') : oNext P it false ty h K := by
  intro w hw
  subst hkeys
  obtain ⟨hok, r, rfl, hb⟩ := hr
  obtain ⟨_, S0, ⟨i, r', rfl, hrr, hSi, hi⟩, hS0, _⟩ := id s
  simp only [Value.map.injEq, Option.some.injEq] at hrr
  subst hrr
  have hbw : w.heap[r]? = some (.map (ents m st).toArray c) := by rw [hw]; exact hb
  have hiw : w.heap[i]? = some (.mapIter (some r) c (ks.map (stampOf (m.map (·.1)) st)).toArray c) := by rw [hw]; exact hi
  have hborn : ∀ e ∈ ents m st, e.born < c := by
    intro e he
    obtain ⟨k, x, h1, _, _, _, h5⟩ := mem_ents m st hok.len hok.keys he
    rw [h5]
    exact hok.lt _ (stampOf_mem k _ st (by simpa using hok.len) (List.mem_map.2 ⟨_, h1, rfl⟩))
  generalize hseen : (ks.map (stampOf (m.map (·.1)) st)).toArray = seen at *
  have hlate : (!seen.isEmpty && !(ents m st).toArray.isEmpty && (ents m st).toArray.all (fun e => decide (e.born ≥ c))) = false := by
    cases he : ents m st with
    | nil => simp
    | cons e l =>
      have := hborn e (by rw [he]; simp)
      simp [show ¬ c ≤ e.born from by omega]
  generalize hleft : ((ents m st).toArray.filter fun e => !seen.contains e.born) = left
  have hold : left.filter (fun e => decide (e.born < c)) = left := by
    rw [Array.filter_eq_self]
    intro e he
    rw [← hleft] at he
    have := hborn e (by simpa using (Array.mem_filter.1 he).1)
    simpa using this
  have hnew : left.filter (fun e => decide (e.born ≥ c)) = #[] := by
    rw [Array.filter_eq_empty_iff]
    intro e he
    rw [← hleft] at he
    have := hborn e (by simpa using (Array.mem_filter.1 he).1)
    simp; omega
  have hcand : ∀ e ∈ left, ∃ k x, look m k = some x ∧ k ∉ ks ∧ e.key = str k ∧ e.val = x ∧ e.born = stampOf (m.map (·.1)) st k := by
    intro e he
    rw [← hleft] at he
    obtain ⟨h1, h2⟩ := Array.mem_filter.1 he
    obtain ⟨k, x, h3, h4, h5, h6, h7⟩ := mem_ents m st hok.len hok.keys (by simpa using h1)
    refine ⟨k, x, h4, fun hk => ?_, h5, h6, h7⟩
    have : e.born ∈ seen := by
      rw [← hseen, h7]
      simpa using ⟨k, hk, rfl⟩
    simp [Array.contains_eq_mem, this] at h2
  have hdone : left = #[] → ∀ k ∈ m.map (·.1), k ∈ ks := by
    intro hl k hk
    obtain ⟨x, hx⟩ := Option.isSome_iff_exists.1 ((look_isSome k m).2 hk)
    have hmem := ents_mem k x m st hok.len hx
    by_cases hin : stampOf (m.map (·.1)) st k ∈ seen
    · rw [← hseen] at hin
      simp only [List.mem_toArray, List.mem_map] at hin
      obtain ⟨k', hk', he⟩ := hin
      have := stampOf_inj (m.map (·.1)) st (by simpa using hok.len) hok.born (hks k' hk') hk he
      exact this ▸ hk'
    · exfalso
      have : (⟨str k, x, stampOf (m.map (·.1)) st k⟩ : MapEntry) ∈ left := by
        rw [← hleft, Array.mem_filter]
        exact ⟨by simpa using hmem, by simp [Array.contains_eq_mem, hin]⟩
      rw [hl] at this
      simp at this
  have hgo := run_getObj (P := P) hiw (by simp)
  have hgm := run_getObj (P := P) hbw (by simp)
  generalize hcands : ((if left.isEmpty then #[none] else #[]) ++ left.map some : Array (Option MapEntry)) = cands
  have hrun : ∀ n w', (choose (.mapNext cands.size)).run P w = .ok n w' → (Instr.next (.pointer (some ⟨i, 0, none⟩)) false ty).run P w =
      (match cands[n]? with
       | some (some e) => do
         setObj i (.mapIter (some r) c (seen.push e.born) c)
         pure (.tuple #[.bool true, e.key, e.val])
       | some none => pure (.tuple #[.bool false])
       | none => stuck "Next: no such candidate" : Sem Value).run P w' := by
    intro n w' hch
    unfold Instr.next
    simp only [Sem.run_bind, hgo, Result.andThen_ok, hgm, hlate, Bool.false_eq_true, if_false, hleft, hold, hnew, Array.append_empty, hcands, hch]
    rfl
  -- the choice
  have hsz : 0 < cands.size := by
    rw [← hcands]
    by_cases hl : left = #[]
    · subst hl; simp
    · have : 0 < left.size := by
        rcases Nat.eq_zero_or_pos left.size with h | h
        · exact absurd (Array.eq_empty_of_size_eq_zero h) hl
        · exact h
      simp; omega
  obtain ⟨n, w', hch, hsw, hhw, hn⟩ : ∃ n w', (choose (.mapNext cands.size)).run P w = .ok n w' ∧ SameW w w' ∧ w'.heap = w.heap ∧ n < cands.size := by
    by_cases hf : cands.size ≤ 1
    · exact ⟨0, w, by simp [choose, Sem.run, Question.forced, hf], .refl _, rfl, hsz⟩
    · exact ⟨w.tape w.drawn (.mapNext cands.size) % cands.size, { w with drawn := w.drawn + 1 }, by simp only [choose, Sem.run, Question.forced, hf, Question.cut, decide_false, Bool.false_eq_true, if_false], ⟨rfl, rfl, rfl, fun _ => by first | exact Nat.le_refl _ | exact Nat.le_succ _ | exact Nat.le_add_right _ _⟩, rfl, Nat.mod_lt _ hsz⟩
  have hr2 := hrun n w' hch
  obtain ⟨cand, hcand'⟩ : ∃ cand, cands[n]? = some cand := ⟨_, Array.getElem?_eq_getElem hn⟩
  rw [hcand'] at hr2
  have hmemc : cand ∈ cands := Array.mem_of_getElem? hcand'
  rw [← hcands] at hmemc
  cases cand with
  | none =>
    have hl : left = #[] := by
      by_cases hl : left = #[]
      · exact hl
      · exfalso
        have : left.isEmpty = false := by simpa using hl
        simp [this] at hmemc
    simp only [Sem.run_pure] at hr2
    rw [nv_run hr2]
    exact ⟨hsw, by rw [hhw, hw]; exact gdone (hdone hl)⟩
  | some e =>
    have he : e ∈ left := by
      rcases Array.mem_append.1 hmemc with h | h
      · split at h <;> simp at h
      · simpa using h
    obtain ⟨k, x, h1, h2, h3, h4, h5⟩ := hcand e he
    have hset := run_setObj (P := P) (w := w') (o' := .mapIter (some r) c (seen.push e.born) c) (by rw [hhw]; exact hiw) (by simp)
    rw [Sem.run_bind, hset, Result.andThen_ok, h3, h4] at hr2
    simp only [Sem.run_pure, hhw] at hr2
    rw [nv_run hr2]
    refine ⟨⟨hsw.os, hsw.tape, hsw.output, hsw.drawn⟩, ?_⟩
    show K _ (setB w.heap i _)
    rw [hw]
    refine gnext k x _ h1 h2 (St.step s fun S' hA' hS' => ?_) fun b => ?_
    · obtain ⟨i', r', hi', hrr', hSi', _⟩ := hA'
      simp only [Value.pointer.injEq, Option.some.injEq, Addr.mk.injEq, and_true] at hi'
      subst hi'
      refine ⟨by rw [setB_size]; exact Nat.le_refl _, fun j _ hj => setB_ne (fun e => hj (e ▸ hSi')), S', ⟨i, r, rfl, rfl, hSi', ?_⟩, fun j hj => .inl hj⟩
      rw [setB_eq (lt_of_some hi), h5, ← hseen]
      simp
    · by_cases hbi : b = i
      · right; rw [hbi]
      · left; exact setB_ne hbi

theorem find_born (k : Str) (x : Value) : ∀ (m : List (Str × Value)) (st : List Nat), m.length = st.length → st.Nodup → look m k = some x →
    (ents m st).find? (fun e => e.born == stampOf (m.map (·.1)) st k) = some ⟨str k, x, stampOf (m.map (·.1)) st k⟩
  | (k', x') :: m, b :: st, hl, hn, h => by
    show (⟨str k', x', b⟩ :: ents m st : List MapEntry).find? _ = _
    rw [List.nodup_cons] at hn
    unfold look at h
    split at h
    · rename_i hk
      subst hk
      simp only [Option.some.injEq] at h
      subst h
      simp [stampOf]
    · rename_i hk
      have hmem : k ∈ m.map (·.1) := (look_isSome k m).1 (by rw [h]; rfl)
      have hin := stampOf_mem k (m.map (·.1)) st (by simpa using hl) hmem
      have hne : b ≠ stampOf (m.map (·.1)) st k := fun e => hn.1 (e ▸ hin)
      have := find_born k x m st (by simpa using hl) hn.2 h
      simp [stampOf, hk, hne, this]
  | [], _, _, _, h => by simp [look] at h
  | _ :: _, [], hl, _, _ => by simp at hl
/-- The entry at which the range stands. -/
theorem oEntry_map {h0 h : Heap} {L : List HP} {it v x : Value} {m : List (Str × Value)} {st : List Nat} {c : Nat} {keys ks : List Str} {k : Str} {K : Value → Prop}
    (s : St h0 h (IterS it v keys st c (ks ++ [k]) :: L)) (hr : RdM h v m st c) (hkeys : keys = m.map (·.1)) (hx : look m k = some x)
    (hk : K (.tuple #[str k, x])) : oEntry P it (Eq h) K := by
  subst hkeys
  refine ⟨_, fun w hw => ?_, hk⟩
  obtain ⟨hok, r, rfl, hb⟩ := hr
  obtain ⟨_, S0, ⟨i, r', rfl, hrr, hSi, hi⟩, hS0, _⟩ := id s
  simp only [Value.map.injEq, Option.some.injEq] at hrr
  subst hrr
  have hbw : w.heap[r]? = some (.map (ents m st).toArray c) := by rw [← hw]; exact hb
  have hiw : w.heap[i]? = some (.mapIter (some r) c ((ks ++ [k]).map (stampOf (m.map (·.1)) st)).toArray c) := by rw [← hw]; exact hi
  refine nv_run ?_
  have hf := find_born k x m st hok.len hok.born hx
  unfold Instr.entry
  have hgm := run_getObj (P := P) hbw (by simp)
  simp only [Sem.run_bind, run_getObj (P := P) hiw (by simp), Result.andThen_ok]
  simp [hf, hgm]
end maps

section bytes
variable {P : Program}
def bytesV (l : Str) : List Value := l.map fun c => .int .u8 c.toNat
theorem run_convBytes {sT dT e : TypeId} [Und P sT (.slice e)] [Und P e (.int .u8)] [Und P dT .string] {v : Value} {l : Str} {w : World} (hv : IsSl v l.length) (hr : Rd w.heap (sbase v) (bytesV l)) :
    (convert sT dT v).run P w = .ok (str l) w := by
  obtain ⟨a, c, rfl⟩ := hv
  cases a with
  | none =>
    have : l = [] := by
      rcases hr with h | ⟨_, _, hp, _⟩
      · simpa [bytesV] using h
      · simp [sbase] at hp
    subst this
    rw [List.length_nil, run_convert_bytes_string w sT dT e none 0 c Und.eq Und.eq Und.eq]
    simp [Conv.bytesToString, str]
    rfl
  | some a =>
    refine run_convert_bytes_back w sT dT e a c l Und.eq Und.eq Und.eq fun j hj => ?_
    obtain ⟨a', ha', hc⟩ := hr.at (j := j) (x := .int .u8 (l[j].toNat : Int)) (by simp [bytesV, hj])
    simp only [sbase, padd, Value.pointer.injEq, Option.some.injEq] at ha'
    rw [cell?_eq, ha']; exact hc
theorem oConvQ_bytes {sT dT e : TypeId} [Und P sT (.slice e)] [Und P e (.int .u8)] [Und P dT .string] {v : Value} {l : Str} {D : Heap → Prop} {K : Value → Prop} (hv : IsSl v l.length) (hr : ∀ h', D h' → Rd h' (sbase v) (bytesV l))
    (hk : K (str l)) : oConvQ P sT dT v D K := ⟨_, fun w hw => nv_run (run_convBytes hv (hr _ hw)), hk⟩
theorem oConvX_bytes [Gd] {sT dT e : TypeId} [Und P sT (.slice e)] [Und P e (.int .u8)] [Und P dT .string] {v : Value} {l : Str} {h : Heap} {K : Value → Heap → Prop} (hv : IsSl v l.length) (hr : Rd h (sbase v) (bytesV l))
    (hk : K (str l) h) : oConvX P sT dT v h K := fun w hw => by
  rw [nv_run (run_convBytes hv (by rw [hw]; exact hr))]
  exact ⟨.refl _, by rw [hw]; exact hk⟩

/-! Calls. -/
/-- A function of the program's own text. -/
class Fnc (P : Program) (f : FuncId) : Prop where
  run : ∀ args w, (callFunc f args).run P w = .ok (.enter f args) w
theorem oCall_cap [Gd] {f : FuncId} [Fnc P f] {cap l : Array Value} {h : Heap} {K : Value → Heap → Prop} (hc : HC P f (l ++ cap) h K) :
    oCall P (.func (.func f) #[] cap) l h K := fun w hw => by
  have : (callSem (.func (.func f) #[] cap) l).run P w = .ok (.enter f (l ++ cap)) w := by
    simp [callSem, Deferred.ofValue, invoke, Fnc.run]
  rw [this]
  exact ⟨.refl _, by rw [hw]; exact hc⟩
theorem oCall_func [Gd] {f : FuncId} [Fnc P f] {l : Array Value} {h : Heap} {K : Value → Heap → Prop} (hc : HC P f l h K) :
    oCall P (.func (.func f) #[] #[]) l h K := oCall_cap (by simpa using hc)
theorem oCallQ_cap [G : Gd] {f : FuncId} [Fnc P f] {cap l : Array Value} {D : Heap → Prop} {v : Value} {K : Value → Prop}
    (hc : ∀ [Gd] h, D h → HC P f (l ++ cap) h fun u h' => u = v ∧ D h') (hk : K v) : oCallQ P (.func (.func f) #[] cap) l D K := ⟨v, fun w hw => by
  have : (callSem (.func (.func f) #[] cap) l).run P w = .ok (.enter f (l ++ cap)) w := by
    simp [callSem, Deferred.ofValue, invoke, Fnc.run]
  exact ⟨f, _, this, @hc G.no _ hw⟩, hk⟩
theorem oCallQ_func [Gd] {f : FuncId} [Fnc P f] {l : Array Value} {D : Heap → Prop} {v : Value} {K : Value → Prop}
    (hc : ∀ [Gd] h, D h → HC P f l h fun u h' => u = v ∧ D h') (hk : K v) : oCallQ P (.func (.func f) #[] #[]) l D K := oCallQ_cap (v := v) (by intro G h hd; simpa using @hc G h hd) hk
end bytes
end Go.Sh
namespace Go.Sh
section col
variable {P : Program} {α : Type}

/-- A slice that can be read. -/
def RdL (enc : α → Value) (h : Heap) (v : Value) (l : List α) : Prop := IsSl v l.length ∧ Rd h (sbase v) (l.map enc)
theorem RdL.ext {enc : α → Value} {h h' : Heap} {v : Value} {l : List α} (r : RdL enc h v l) (he : Ext h h') : RdL enc h' v l := ⟨r.1, r.2.ext he⟩
theorem RdL.nil (enc : α → Value) (h : Heap) (c : Nat) : RdL enc h (.slice none 0 c) [] := ⟨⟨_, _, rfl⟩, Rd.nil _ _⟩
theorem St.rdL {enc : α → Value} {h0 h : Heap} {v : Value} {n : Nat} {l : List α} {L : List HP} (s : St h0 h (Row 1 v n (l.map enc) :: L)) : RdL enc h v l := by
  obtain ⟨h1, h2, h3⟩ := s.row
  have : n = l.length := by simpa using h2.symm
  subst this
  exact ⟨h1, h3⟩
/-- A slice of slices that can be read. -/
def RdLL (enc : α → Value) (h : Heap) (v : Value) (ll : List (List α)) : Prop :=
  IsSl v ll.length ∧ ∃ vs : List Value, vs.length = ll.length ∧ Rd h (sbase v) vs ∧ ∀ (i : Nat) (x : Value) (l : List α), vs[i]? = some x → ll[i]? = some l → RdL enc h x l
theorem RdLL.ext {enc : α → Value} {h h' : Heap} {v : Value} {ll : List (List α)} (r : RdLL enc h v ll) (he : Ext h h') : RdLL enc h' v ll := by
  obtain ⟨h1, vs, h2, h3, h4⟩ := r
  exact ⟨h1, vs, h2, h3.ext he, fun i x l hx hl => (h4 i x l hx hl).ext he⟩

/-- One element of a slice is read. -/
theorem oGet {t e : TypeId} [Und P t (.slice e)] [Siz P e 1] [IsA P e false] {enc : α → Value} {v : Value} {l : List α} {i : Nat} {a : α} {ik : IntKind} {D : Heap → Prop} {K : Value → Prop}
    (hv : IsSl v l.length) (hnz : ∃ h, Rd h (sbase v) (l.map enc)) (hr : ∀ h', D h' → Rd h' (sbase v) (l.map enc)) (hi : l[i]? = some a) (hk : K (enc a)) :
    oIdx P t v (.int ik i) fun p => oLoad P e p D K := by
  have hlt : i < l.length := (List.getElem?_eq_some_iff.1 hi).1
  obtain ⟨h, hz⟩ := hnz
  rw [oIdx_sl hv (hz.nz (by simp; omega)) (by omega) (by omega)]
  refine oLoad1 (cs := l.map enc) (x := enc a) hr ?_ hk
  rw [Int.toNat_natCast, Nat.mul_one, List.getElem?_map, hi]
  rfl
theorem oGetL {t e : TypeId} [Und P t (.slice e)] [Siz P e 1] [IsA P e false] {enc : α → Value} {v : Value} {l : List α} {i : Nat} {a : α} {ik : IntKind} {h : Heap} {K : Value → Prop}
    (hr : RdL enc h v l) (hi : l[i]? = some a) (hk : K (enc a)) : oIdx P t v (.int ik i) fun p => oLoad P e p (Eq h) K :=
  oGet hr.1 ⟨_, hr.2⟩ (fun _ e => e ▸ hr.2) hi hk
theorem oGetLLx {t e : TypeId} [Und P t (.slice e)] [Siz P e 1] [IsA P e false] {enc : α → Value} {v : Value} {ll : List (List α)} {i : Nat} {l : List α} {ik : IntKind} {h h' : Heap} {K : Value → Prop}
    (hr : RdLL enc h v ll) (he : Ext h h') (hi : ll[i]? = some l) (hk : ∀ x, RdL enc h x l → K x) : oIdx P t v (.int ik i) fun p => oLoad P e p (Eq h') K := by
  obtain ⟨h1, vs, h2, h3, h4⟩ := hr
  have hlt : i < ll.length := (List.getElem?_eq_some_iff.1 hi).1
  obtain ⟨x, hx⟩ : ∃ x, vs[i]? = some x := ⟨vs[i], List.getElem?_eq_getElem (by omega)⟩
  rw [oIdx_sl h1 (h3.nz (by omega)) (by omega) (by omega)]
  exact oLoad1 (cs := vs) (x := x) (fun _ e => e ▸ h3.ext he) (by simpa using hx) (hk x (h4 i x l hx hi))
theorem oGetLL {t e : TypeId} [Und P t (.slice e)] [Siz P e 1] [IsA P e false] {enc : α → Value} {v : Value} {ll : List (List α)} {i : Nat} {l : List α} {ik : IntKind} {h : Heap} {K : Value → Prop}
    (hr : RdLL enc h v ll) (hi : ll[i]? = some l) (hk : ∀ x, RdL enc h x l → K x) : oIdx P t v (.int ik i) fun p => oLoad P e p (Eq h) K := oGetLLx hr (Ext.refl h) hi hk
theorem one1 {x : Value} (hx : one x = true) : ∀ y ∈ [x], one y = true := fun y hy => by
  rw [List.mem_singleton] at hy
  rw [hy]; exact hx
/-- 'append(v, x)'. -/
theorem oPush [Gd] {t e ty : TypeId} {b : Nat} {z : Value} [Und P t (.slice e)] [Inf P e 1 b z] {enc : α → Value} {h0 h : Heap} {v : Value} {l : List α} {x : α} {L : List HP} {K : Value → Heap → Prop}
    (s : St h0 h (Row 1 v l.length (l.map enc) :: L)) (hx : one (enc x) = true) (hz : one z = true) (hb : (l.length + 1) * b ≤ 140737488355328) (hb2 : l.length + 1 ≤ 4611686018427387904)
    (g : ∀ v' h', St h0 h' (Row 1 v' (l ++ [x]).length ((l ++ [x]).map enc) :: L) → K v' h') : oBuildSlice P t 1 #[(0, enc x)] h fun u h1 => oAppend P #[t, t] ty #[v, u] h1 K := by
  have hcz : z.cells.size = 1 := by cases z <;> first | (simp [one] at hz; done) | rfl
  refine oBuild1o s hx hz fun u h1 s1 => ?_
  obtain ⟨hu, _, hur⟩ := s1.row
  refine oAppendR (cs := l.map enc) (xs := [enc x]) (m := 1) s1.swap hcz (by omega) hu rfl hur (one1 hx) hb hb2 fun v' h2 s2 => g v' h2 ?_
  have := s2.swap.drop
  simpa using this

/-! Owned rows of rows. -/
def rows (enc : α → Value) : List Value → List (List α) → List HP
  | x :: vs, l :: ll => Row 1 x l.length (l.map enc) :: rows enc vs ll
  | _, _ => []
theorem rows_pick (enc : α → Value) : ∀ (vs : List Value) (ll : List (List α)) (j : Nat) (x : Value) (l : List α), vs[j]? = some x → ll[j]? = some l →
    ∃ rest : List HP, (rows enc vs ll).Perm (Row 1 x l.length (l.map enc) :: rest) ∧ ∀ x' l', (Row 1 x' (List.length l') (l'.map enc) :: rest).Perm (rows enc (vs.set j x') (ll.set j l'))
  | [], _, j, x, l, h, _ => by simp at h
  | _ :: _, [], j, x, l, _, h => by simp at h
  | y :: vs, m :: ll, 0, x, l, h, k => by
    simp only [List.getElem?_cons_zero, Option.some.injEq] at h k
    subst h; subst k
    exact ⟨rows enc vs ll, .refl _, fun x' l' => .refl _⟩
  | y :: vs, m :: ll, j + 1, x, l, h, k => by
    simp only [List.getElem?_cons_succ] at h k
    obtain ⟨rest, h1, h2⟩ := rows_pick enc vs ll j x l h k
    refine ⟨Row 1 y m.length (m.map enc) :: rest, ?_, fun x' l' => ?_⟩
    · exact (List.Perm.cons _ h1).trans (.swap _ _ _)
    · exact (List.Perm.swap _ _ _).trans (List.Perm.cons _ (h2 x' l'))
def RR (enc : α → Value) (v : Value) (ll : List (List α)) : HP :=
  HP.ex fun vs : List Value => HP.pure (vs.length = ll.length) (HP.all (Row 1 v ll.length vs :: rows enc vs ll))
theorem St.rrOpenAll {enc : α → Value} {h0 h : Heap} {v : Value} {ll : List (List α)} {L : List HP} (s : St h0 h (RR enc v ll :: L)) :
    ∃ vs : List Value, vs.length = ll.length ∧ St h0 h (Row 1 v ll.length vs :: (rows enc vs ll ++ L)) := by
  obtain ⟨vs, s⟩ := St.ex s
  obtain ⟨hl, s⟩ := St.pure s
  exact ⟨vs, hl, s.open⟩
theorem St.rrShutAll {enc : α → Value} {h0 h : Heap} {v : Value} {ll : List (List α)} {vs : List Value} {L : List HP} (hl : vs.length = ll.length)
    (s : St h0 h (Row 1 v ll.length vs :: (rows enc vs ll ++ L))) : St h0 h (RR enc v ll :: L) := St.toEx vs (St.toPure hl (St.shut (M := Row 1 v ll.length vs :: rows enc vs ll) s))
theorem St.rdRows {enc : α → Value} {h0 h : Heap} : ∀ {vs : List Value} {ll : List (List α)} {L : List HP}, St h0 h (rows enc vs ll ++ L) → ∀ (i : Nat) (x : Value) (l : List α), vs[i]? = some x → ll[i]? = some l → RdL enc h x l := by
  intro vs ll L s i x l hx hl
  obtain ⟨rest, h1, _⟩ := rows_pick enc vs ll i x l hx hl
  exact St.rdL (s.perm (h1.append_right L))
theorem St.rr {enc : α → Value} {h0 h : Heap} {v : Value} {ll : List (List α)} {L : List HP} (s : St h0 h (RR enc v ll :: L)) : RdLL enc h v ll := by
  obtain ⟨vs, hl, s⟩ := s.rrOpenAll
  obtain ⟨h1, _, h3⟩ := s.row
  exact ⟨h1, vs, hl, h3, fun i x l hx hll => St.rdRows s.drop i x l hx hll⟩
theorem St.rrOpen {enc : α → Value} {h0 h : Heap} {v : Value} {ll : List (List α)} {L : List HP} {j : Nat} {l : List α} (s : St h0 h (RR enc v ll :: L)) (hj : ll[j]? = some l) :
    ∃ (vs : List Value) (x : Value) (M : List HP), vs.length = ll.length ∧ vs[j]? = some x ∧ St h0 h (Row 1 x l.length (l.map enc) :: Row 1 v ll.length vs :: M) ∧
      ∀ h' x' l', St h0 h' (Row 1 x' (List.length l') (l'.map enc) :: Row 1 v ll.length (vs.set j x') :: M) → St h0 h' (RR enc v (ll.set j l') :: L) := by
  obtain ⟨vs, hl, s⟩ := s.rrOpenAll
  have hlt : j < ll.length := (List.getElem?_eq_some_iff.1 hj).1
  obtain ⟨x, hx⟩ : ∃ x, vs[j]? = some x := ⟨vs[j], List.getElem?_eq_getElem (by omega)⟩
  obtain ⟨rest, h1, h2⟩ := rows_pick enc vs ll j x l hx hj
  refine ⟨vs, x, rest ++ L, hl, hx, ?_, fun h' x' l' s' => ?_⟩
  · exact (s.perm (List.Perm.cons _ (h1.append_right L))).swap
  · have := s'.swap.perm (List.Perm.cons _ ((h2 x' l').append_right L))
    refine St.rrShutAll (vs := vs.set j x') (by simp [hl]) ?_
    rw [List.length_set]
    exact this

/-- 'make([][]T, n)'. -/
theorem rows_nil (enc : α → Value) (n : Nat) : ∀ {h0 h : Heap} {L : List HP}, St h0 h L → St h0 h (rows enc (List.replicate n (.slice none 0 0)) (List.replicate n []) ++ L) := by
  induction n with
  | zero => intro h0 h L s; exact s
  | succ n ih =>
    intro h0 h L s
    have s' := ih s
    simp only [List.replicate_succ, rows, List.cons_append]
    exact ⟨s'.1, fun _ => False, ⟨by simp, .inl ⟨rfl, rfl⟩⟩, fun _ h => h.elim, Sep.mono (fun b hb => ⟨hb, fun h => h⟩) s'.2⟩
theorem oMkSliceRR [Gd] {t e : TypeId} {b : Nat} [Und P t (.slice e)] [Inf P e 1 b (.slice none 0 0)] {enc : α → Value} {h0 h : Heap} {n : Nat} {L : List HP} {K : Value → Heap → Prop}
    (s : St h0 h L) (hc : n * b ≤ 140737488355328) (hc2 : n ≤ 9223372036854775807)
    (g : ∀ v h', St h0 h' (RR enc v (List.replicate n []) :: L) → K v h') : oMkSlice P t (.int .i64 n) (.int .i64 n) h K := by
  refine oMkSliceR1 s rfl (Nat.le_refl _) hc hc2 fun v h' s' => g v h' ?_
  refine St.rrShutAll (vs := List.replicate n (.slice none 0 0)) (by simp) ?_
  rw [List.length_replicate]
  have := rows_nil enc n s'
  exact this.perm (List.perm_middle)

/-- 'v[j] = append(v[j], x)'. -/
theorem rrAppend [Gd] {tt t e ty : TypeId} {b : Nat} {z : Value} [Und P tt (.slice t)] [Siz P t 1] [IsA P t false] [Und P t (.slice e)] [Inf P e 1 b z] {enc : α → Value} {h0 h : Heap} {v : Value} {ll : List (List α)} {L : List HP} {j : Nat} {l : List α} {x : α} {ik : IntKind} {K : Heap → Prop}
    (s : St h0 h (RR enc v ll :: L)) (hj : ll[j]? = some l) (hx : one (enc x) = true) (hz : one z = true) (hb : (l.length + 1) * b ≤ 140737488355328) (hb2 : l.length + 1 ≤ 4611686018427387904)
    (g : ∀ h', St h0 h' (RR enc v (ll.set j (l ++ [x])) :: L) → K h') :
    oIdx P tt v (.int ik j) fun p => oLoad P t p (Eq h) fun r => oBuildSlice P t 1 #[(0, enc x)] h fun u h1 => oAppend P #[t, t] ty #[r, u] h1 fun r2 h2 => oIdx P tt v (.int ik j) fun q => oStore P t q r2 h2 fun _ h3 => K h3 := by
  have hlt : j < ll.length := (List.getElem?_eq_some_iff.1 hj).1
  obtain ⟨vs, y, M, hl, hy, s1, close⟩ := s.rrOpen hj
  obtain ⟨hv, _, hrd⟩ := s1.swap.row
  have hnz : sbase v ≠ .pointer none := hrd.nz (by omega)
  rw [oIdx_sl hv hnz (by omega) (by omega)]
  refine oLoad1 (cs := vs) (x := y) (fun _ e => e ▸ hrd) (by simpa using hy) ?_
  refine oBuild1o s1 hx hz fun u h1 s2 => ?_
  obtain ⟨hu, _, hur⟩ := s2.row
  have hcz : z.cells.size = 1 := by cases z <;> first | (simp [one] at hz; done) | rfl
  refine oAppendR (cs := l.map enc) (xs := [enc x]) (m := 1) s2.swap hcz (by omega) hu rfl hur (by simpa using hx) (by simpa using hb) (by omega) fun r2 h2 s3 => ?_
  rw [oIdx_sl hv hnz (by omega) (by omega)]
  have s4 := (s3.swap.drop).swap
  have hr2 : one r2 = true := by
    obtain ⟨⟨a, c, rfl⟩, _⟩ := s3.row
    rfl
  refine oStoreR1 s4 hr2 (by omega) fun h3 s5 => g h3 (close h3 r2 (l ++ [x]) ?_)
  have e : ((j : Int).toNat * 1) = j := by omega
  rw [e] at s5
  simpa using s5.swap

/-- 'v[:m]'. -/
theorem oSliceR {t e : TypeId} {k : Nat} [u : Und P t (.slice e)] [Siz P e k] {h0 h : Heap} {v : Value} {n m : Nat} {cs : List Value} {L : List HP} {ik : IntKind} {K : Value → Prop}
    (s : St h0 h (Row k v n cs :: L)) (hm : m ≤ n) (g : ∀ v', St h0 h (Row k v' m (cs.take (m * k)) :: L) → K v') : oSlice P t v none (some (.int ik m)) none K := by
  obtain ⟨he, S, ⟨hl, hown⟩, r⟩ := id s
  have hel : P.underlying t = some (.slice (P.elem t)) := by
    have := u.eq
    rw [this]
    congr 1
    simp [Program.elem, this]
  have hel2 : P.elem t = e := by
    rw [u.eq] at hel
    simpa using hel.symm
  rcases hown with ⟨rfl, rfl⟩ | ⟨a, cap, post, rfl, h2, h3, h4⟩
  · have hm0 : m = 0 := by omega
    subst hm0
    refine ⟨.slice none 0 0, fun w => nv_run ?_, g _ ?_⟩
    · rw [run_sliceAt_slice w t _ _ _ _ hel, show ((0 : Nat) : Int) = 0 from rfl, run_slice_h w t none 0 0 hel ik 0 (by omega) (by omega), hel2, Siz.run]
      rfl
    · have : cs = [] := by simpa using hl
      subst this
      simpa using s
  · refine ⟨.slice (some a) m cap, fun w => nv_run ?_, g _ ?_⟩
    · rw [run_sliceAt_slice w t _ _ _ _ hel, run_slice_h w t (some a) n cap hel ik m (by omega) (by omega), hel2, Siz.run]
      simp only [Result.andThen_ok, sliced, Int.toNat_natCast, Nat.sub_zero, Nat.zero_mul, Option.map_some, Addr.add, if_true]
      split <;> rfl
    · refine ⟨he, S, ⟨?_, .inr ⟨a, cap, cs.drop (m * k) ++ post, rfl, by omega, ?_, ?_⟩⟩, r⟩
      · rw [List.length_take, hl]
        exact Nat.min_eq_left (Nat.mul_le_mul_right _ hm)
      · rw [List.length_append, List.length_drop, hl, h3, ← Nat.sub_mul, ← Nat.add_mul]
        congr 1
        omega
      · rw [← List.append_assoc, List.take_append_drop]
        exact h4
end col
end Go.Sh
namespace Go.Sh
section ifc
variable {P : Program}

/-- A type's method, of its own (not through a field). -/
class Mth (P : Program) (t : TypeId) (name : String) (f : outParam FuncId) (ptr : outParam Bool) : Prop where
  ok : ∃ i m, P.info? t = some i ∧ i.methods.find? (·.name == name) = some m ∧ m.path = #[] ∧ m.func = some (f, ptr)

theorem run_method_own {t : TypeId} {name : String} {f : FuncId} {ptr : Bool} [u : Mth P t name f ptr] {v x : Value} {w : World} {fuel : Nat}
    (hx : ∀ s, (receiverAt t (.val v) ptr (some s)).run P w = .ok x w) : (method (fuel + 1) t v name).run P w = .ok (f, x) w := by
  obtain ⟨i, m, h1, h2, h3, h4⟩ := u.ok
  simp [method, typeInfo, h1, h2, h3, h4, follow, hx]

theorem run_callMethod_own {t : TypeId} {name : String} {f : FuncId} {ptr : Bool} [Mth P t name f ptr] [Fnc P f] {v x : Value} {args : Array Value} {w : World}
    (hx : ∀ s, (receiverAt t (.val v) ptr (some s)).run P w = .ok x w) : (callMethod (.iface t v) name args).run P w = .ok (.enter f (#[x] ++ args)) w := by
  obtain ⟨k, hk⟩ : ∃ k, P.types.size + Made.depth = k + 1 := ⟨P.types.size + Made.depth - 1, by
    have : 0 < Made.depth := by decide
    omega⟩
  simp only [callMethod]
  rw [Sem.run_bind]
  simp only [run_program, Result.andThen_ok]
  rw [hk, Sem.run_bind, run_method_own hx, Result.andThen_ok]
  exact Fnc.run _ _

theorem invokeSem_eq (r : Value) (name : String) (l : Array Value) : invokeSem r name l = callMethod r name l := by
  have h0 : (#[r] ++ l)[0]? = some r := by
    rw [Array.getElem?_append_left (by simp)]; rfl
  have h1 : (#[r] ++ l).extract 1 (#[r] ++ l).size = l := by
    apply Array.ext'
    simp
  simp only [invokeSem, invoke, h0, h1]
theorem run_wrapNil {t : TypeId} {a : Addr} {s : String} {w : World} : (Builtin.ssaWrapNilChk_ #[t] t #[.pointer (some a), strVal "", strVal s]).run P w = .ok (.pointer (some a)) w := rfl
/-- A method of the pointer. -/
theorem oInvokeP [Gd] {t e : TypeId} {name : String} {f : FuncId} [Mth P t name f true] [Und P t (.pointer e)] [Fnc P f] {p : Value} {l : Array Value} {h : Heap} {K : Value → Heap → Prop}
    (hc : HC P f (#[p] ++ l) h K) : oInvoke P (.iface t p) name l h K := fun w hw => by
  have : (invokeSem (.iface t p) name l).run P w = .ok (.enter f (#[p] ++ l)) w := by
    have := run_callMethod_own (P := P) (t := t) (name := name) (f := f) (ptr := true) (v := p) (x := p) (args := l) (w := w) (fun s => by simp [receiverAt, Und.run, Place.get])
    rw [invokeSem_eq]; exact this
  rw [this]
  exact ⟨.refl _, by rw [hw]; exact hc⟩
/-- A method of the value behind the pointer. -/
theorem oInvokeV [Gd] {t e : TypeId} {name : String} {f : FuncId} [Mth P t name f false] [Und P t (.pointer e)] [IsA P e false] [Fnc P f] {p x : Value} {l : Array Value} {h : Heap} {K : Value → Heap → Prop}
    (hr : Rd h p [x]) (hc : HC P f (#[x] ++ l) h K) : oInvoke P (.iface t p) name l h K := fun w hw => by
  obtain ⟨a, ha, hx⟩ := hr.at (j := 0) rfl
  rw [padd_zero] at ha
  subst ha
  have : (invokeSem (.iface t (.pointer (some a))) name l).run P w = .ok (.enter f (#[x] ++ l)) w := by
    have := run_callMethod_own (P := P) (t := t) (name := name) (f := f) (ptr := false) (v := .pointer (some a)) (x := x) (args := l) (w := w) (fun s => by
      have h1 : (loadVar e a).run P w = .ok x w := run_loadVar1 (by rw [hw]; exact hx)
      simp [receiverAt, Und.run, Place.get, run_wrapNil, asAddr, h1])
    rw [invokeSem_eq]; exact this
  rw [this]
  exact ⟨.refl _, by rw [hw]; exact hc⟩

theorem oIface_of {t : TypeId} {d : TypeDesc} [Und P t d] {x : Value} {K : Value → Prop} (hd : ∀ ms, d ≠ .interface ms) (hk : K (.iface t x)) : oIface P t x K := by
  refine Sp.of (v := .iface t x) (fun w => nv_run ?_) hk
  simp only [Instr.makeInterface]
  rw [Sem.run_bind, Und.run, Result.andThen_ok]
  cases hdd : d with
  | interface ms => exact absurd hdd (hd ms)
  | _ => rfl
theorem oAssert_yes {xt t : TypeId} {d : TypeDesc} [Und P t d] {x : Value} {K : Value → Prop} (hd : ∀ ms, d ≠ .interface ms) (hk : K (.tuple #[x, .bool true])) : oAssert P (.iface t x) xt t true K := by
  refine Sp.of (fun w => nv_run ?_) hk
  simp only [Instr.typeAssert]
  rw [Sem.run_bind, Und.run, Result.andThen_ok]
  cases hdd : d with
  | interface ms => exact absurd hdd (hd ms)
  | _ => simp
/-- A field's place in a struct. -/
class Fld (P : Program) (t : TypeId) (i : Nat) (off : outParam Nat) : Prop where
  ok : ∃ fs f inf, P.underlying t = some (.struct fs) ∧ fs[i]? = some f ∧ f.offset = off ∧ P.info? f.type = some inf ∧ 0 < inf.size
theorem run_fieldAt_own {t : TypeId} {i off : Nat} [u : Fld P t i off] {a : Addr} {w : World} : (Instr.fieldAt t (.pointer (some a)) i).run P w = .ok (.pointer (some (a.add off))) w := by
  obtain ⟨fs, f, inf, h1, h2, h3, h4, h5⟩ := u.ok
  have hs : (sizeOf f.type).run P w = .ok inf.size w := by simp [sizeOf, typeInfo, h4]
  simp only [Instr.fieldAt]
  rw [Sem.run_bind, run_underlying h1, Result.andThen_ok]
  simp only [h2, Instr.sureAddr, pure_bind, fieldPlace]
  simp [hs, h3, show inf.size ≠ 0 from by omega]
/-- A field's address. -/
theorem oFieldAddr_own {t : TypeId} {i off : Nat} [Fld P t i off] {p : Value} {n : Nat} {D : Heap → Prop} {K : Value → Prop} (hp : ∃ a, p = .pointer (some a)) (hk : K (padd p (n + off))) : oFieldAddr P t (padd p n) i D K := by
  obtain ⟨a, rfl⟩ := hp
  refine ⟨.pointer (some ((a.add n).add off)), fun w _ => nv_run run_fieldAt_own, ?_⟩
  have : Value.pointer (some ((a.add n).add off)) = padd (.pointer (some a)) (n + off) := by rw [← padd_padd]; rfl
  rw [this]; exact hk
theorem oNil_padd {p : Value} {n : Nat} {K : Value → Prop} (hp : ∃ a, p = .pointer (some a)) : oNil P (padd p n) K ↔ K (padd p n) := by
  obtain ⟨a, rfl⟩ := hp
  exact oNil_ptr
/-- A struct is built. -/
theorem oBuild_own {t : TypeId} {parts : Array (Nat × Value)} {cells : Array Value} {K : Value → Prop} (h : P.built t parts.toList = some cells) (hk : K (.agg cells)) : oBuild P t parts K :=
  Sp.of (fun w => nv_run (run_build w t parts cells h)) hk
end ifc
end Go.Sh
namespace Go.Proofs.Ytaibfbakhiainaa
open Go Go.Sh
instance : Siz Try.prog 1 1 := ⟨Try.sizeOf1⟩
instance : IsA Try.prog 1 false := ⟨Try.isAgg1⟩
instance : Inf Try.prog 1 1 8 .nilFunc := ⟨Try.t1, by kernel_rfl, rfl, rfl, rfl⟩
instance : Und Try.prog 2 (.int .i64) := ⟨Try.underlying2⟩
instance : Siz Try.prog 2 1 := ⟨Try.sizeOf2⟩
instance : IsA Try.prog 2 false := ⟨Try.isAgg2⟩
instance : Inf Try.prog 2 1 8 (.int .i64 0) := ⟨Try.t2, by kernel_rfl, rfl, rfl, rfl⟩
instance : Und Try.prog 3 (.int .i64) := ⟨Try.underlying3⟩
instance : Siz Try.prog 3 1 := ⟨Try.sizeOf3⟩
instance : IsA Try.prog 3 false := ⟨Try.isAgg3⟩
instance : Inf Try.prog 3 1 8 (.int .i64 0) := ⟨Try.t3, by kernel_rfl, rfl, rfl, rfl⟩
instance : Und Try.prog 4 .bool := ⟨Try.underlying4⟩
instance : Siz Try.prog 4 1 := ⟨Try.sizeOf4⟩
instance : IsA Try.prog 4 false := ⟨Try.isAgg4⟩
instance : Inf Try.prog 4 1 1 (.bool false) := ⟨Try.t4, by kernel_rfl, rfl, rfl, rfl⟩
instance : Und Try.prog 5 (.int .u8) := ⟨Try.underlying5⟩
instance : Siz Try.prog 5 1 := ⟨Try.sizeOf5⟩
instance : IsA Try.prog 5 false := ⟨Try.isAgg5⟩
instance : Inf Try.prog 5 1 1 (.int .u8 0) := ⟨Try.t5, by kernel_rfl, rfl, rfl, rfl⟩
instance : Und Try.prog 6 (.int .u8) := ⟨Try.underlying6⟩
instance : Siz Try.prog 6 1 := ⟨Try.sizeOf6⟩
instance : IsA Try.prog 6 false := ⟨Try.isAgg6⟩
instance : Inf Try.prog 6 1 1 (.int .u8 0) := ⟨Try.t6, by kernel_rfl, rfl, rfl, rfl⟩
instance : Siz Try.prog 7 4 := ⟨Try.sizeOf7⟩
instance : IsA Try.prog 7 true := ⟨Try.isAgg7⟩
instance : Inf Try.prog 7 4 24 (.agg #[(.int .i64 0), (.int .i64 0), (.bool false), (.int .u8 0)]) := ⟨Try.t7, by kernel_rfl, rfl, rfl, rfl⟩
instance : Fld Try.prog 7 0 0 := ⟨_, _, Try.t2, Try.underlying7, rfl, rfl, by kernel_rfl, by decide⟩
instance : Fld Try.prog 7 1 1 := ⟨_, _, Try.t3, Try.underlying7, rfl, rfl, by kernel_rfl, by decide⟩
instance : Fld Try.prog 7 2 2 := ⟨_, _, Try.t4, Try.underlying7, rfl, rfl, by kernel_rfl, by decide⟩
instance : Fld Try.prog 7 3 3 := ⟨_, _, Try.t6, Try.underlying7, rfl, rfl, by kernel_rfl, by decide⟩
instance : Siz Try.prog 8 4 := ⟨Try.sizeOf8⟩
instance : IsA Try.prog 8 true := ⟨Try.isAgg8⟩
instance : Inf Try.prog 8 4 24 (.agg #[(.int .i64 0), (.int .i64 0), (.bool false), (.int .u8 0)]) := ⟨Try.t8, by kernel_rfl, rfl, rfl, rfl⟩
instance : Fld Try.prog 8 0 0 := ⟨_, _, Try.t2, Try.underlying8, rfl, rfl, by kernel_rfl, by decide⟩
instance : Fld Try.prog 8 1 1 := ⟨_, _, Try.t3, Try.underlying8, rfl, rfl, by kernel_rfl, by decide⟩
instance : Fld Try.prog 8 2 2 := ⟨_, _, Try.t4, Try.underlying8, rfl, rfl, by kernel_rfl, by decide⟩
instance : Fld Try.prog 8 3 3 := ⟨_, _, Try.t6, Try.underlying8, rfl, rfl, by kernel_rfl, by decide⟩
instance : Und Try.prog 9 .string := ⟨Try.underlying9⟩
instance : Siz Try.prog 9 1 := ⟨Try.sizeOf9⟩
instance : IsA Try.prog 9 false := ⟨Try.isAgg9⟩
instance : Inf Try.prog 9 1 16 (.string ⟨#[]⟩) := ⟨Try.t9, by kernel_rfl, rfl, rfl, rfl⟩
instance : Und Try.prog 10 .string := ⟨Try.underlying10⟩
instance : Siz Try.prog 10 1 := ⟨Try.sizeOf10⟩
instance : IsA Try.prog 10 false := ⟨Try.isAgg10⟩
instance : Inf Try.prog 10 1 16 (.string ⟨#[]⟩) := ⟨Try.t10, by kernel_rfl, rfl, rfl, rfl⟩
instance : Und Try.prog 11 .string := ⟨Try.underlying11⟩
instance : Siz Try.prog 11 1 := ⟨Try.sizeOf11⟩
instance : IsA Try.prog 11 false := ⟨Try.isAgg11⟩
instance : Inf Try.prog 11 1 16 (.string ⟨#[]⟩) := ⟨Try.t11, by kernel_rfl, rfl, rfl, rfl⟩
instance : Und Try.prog 12 (.int .u64) := ⟨Try.underlying12⟩
instance : Siz Try.prog 12 1 := ⟨Try.sizeOf12⟩
instance : IsA Try.prog 12 false := ⟨Try.isAgg12⟩
instance : Inf Try.prog 12 1 8 (.int .u64 0) := ⟨Try.t12, by kernel_rfl, rfl, rfl, rfl⟩
instance : Siz Try.prog 13 2 := ⟨Try.sizeOf13⟩
instance : IsA Try.prog 13 true := ⟨Try.isAgg13⟩
instance : Inf Try.prog 13 2 24 (.agg #[(.string ⟨#[]⟩), (.int .u64 0)]) := ⟨Try.t13, by kernel_rfl, rfl, rfl, rfl⟩
instance : Fld Try.prog 13 0 0 := ⟨_, _, Try.t9, Try.underlying13, rfl, rfl, by kernel_rfl, by decide⟩
instance : Fld Try.prog 13 1 1 := ⟨_, _, Try.t12, Try.underlying13, rfl, rfl, by kernel_rfl, by decide⟩
instance : Siz Try.prog 14 2 := ⟨Try.sizeOf14⟩
instance : IsA Try.prog 14 true := ⟨Try.isAgg14⟩
instance : Inf Try.prog 14 2 24 (.agg #[(.string ⟨#[]⟩), (.int .u64 0)]) := ⟨Try.t14, by kernel_rfl, rfl, rfl, rfl⟩
instance : Fld Try.prog 14 0 0 := ⟨_, _, Try.t9, Try.underlying14, rfl, rfl, by kernel_rfl, by decide⟩
instance : Fld Try.prog 14 1 1 := ⟨_, _, Try.t12, Try.underlying14, rfl, rfl, by kernel_rfl, by decide⟩
instance : Und Try.prog 15 (.pointer 159) := ⟨Try.underlying15⟩
instance : Siz Try.prog 15 1 := ⟨Try.sizeOf15⟩
instance : IsA Try.prog 15 false := ⟨Try.isAgg15⟩
instance : Inf Try.prog 15 1 8 (.pointer none) := ⟨Try.t15, by kernel_rfl, rfl, rfl, rfl⟩
instance : Und Try.prog 16 (.pointer 162) := ⟨Try.underlying16⟩
instance : Siz Try.prog 16 1 := ⟨Try.sizeOf16⟩
instance : IsA Try.prog 16 false := ⟨Try.isAgg16⟩
instance : Inf Try.prog 16 1 8 (.pointer none) := ⟨Try.t16, by kernel_rfl, rfl, rfl, rfl⟩
instance : Und Try.prog 17 (.pointer 170) := ⟨Try.underlying17⟩
instance : Siz Try.prog 17 1 := ⟨Try.sizeOf17⟩
instance : IsA Try.prog 17 false := ⟨Try.isAgg17⟩
instance : Inf Try.prog 17 1 8 (.pointer none) := ⟨Try.t17, by kernel_rfl, rfl, rfl, rfl⟩
instance : Siz Try.prog 18 1 := ⟨Try.sizeOf18⟩
instance : IsA Try.prog 18 true := ⟨Try.isAgg18⟩
instance : Inf Try.prog 18 1 8 (.agg #[(.pointer none)]) := ⟨Try.t18, by kernel_rfl, rfl, rfl, rfl⟩
instance : Fld Try.prog 18 0 0 := ⟨_, _, Try.t17, Try.underlying18, rfl, rfl, by kernel_rfl, by decide⟩
instance : Siz Try.prog 19 1 := ⟨Try.sizeOf19⟩
instance : IsA Try.prog 19 true := ⟨Try.isAgg19⟩
instance : Inf Try.prog 19 1 8 (.agg #[(.pointer none)]) := ⟨Try.t19, by kernel_rfl, rfl, rfl, rfl⟩
instance : Fld Try.prog 19 0 0 := ⟨_, _, Try.t17, Try.underlying19, rfl, rfl, by kernel_rfl, by decide⟩
instance : Siz Try.prog 20 1 := ⟨Try.sizeOf20⟩
instance : IsA Try.prog 20 false := ⟨Try.isAgg20⟩
instance : Inf Try.prog 20 1 16 .nilIface := ⟨Try.t20, by kernel_rfl, rfl, rfl, rfl⟩
instance : Und Try.prog 21 (.int .i32) := ⟨Try.underlying21⟩
instance : Siz Try.prog 21 1 := ⟨Try.sizeOf21⟩
instance : IsA Try.prog 21 false := ⟨Try.isAgg21⟩
instance : Inf Try.prog 21 1 4 (.int .i32 0) := ⟨Try.t21, by kernel_rfl, rfl, rfl, rfl⟩
instance : Und Try.prog 22 (.slice 5) := ⟨Try.underlying22⟩
instance : Siz Try.prog 22 1 := ⟨Try.sizeOf22⟩
instance : IsA Try.prog 22 false := ⟨Try.isAgg22⟩
instance : Inf Try.prog 22 1 24 (.slice none 0 0) := ⟨Try.t22, by kernel_rfl, rfl, rfl, rfl⟩
instance : Und Try.prog 23 (.slice 51) := ⟨Try.underlying23⟩
instance : Siz Try.prog 23 1 := ⟨Try.sizeOf23⟩
instance : IsA Try.prog 23 false := ⟨Try.isAgg23⟩
instance : Inf Try.prog 23 1 24 (.slice none 0 0) := ⟨Try.t23, by kernel_rfl, rfl, rfl, rfl⟩
instance : Siz Try.prog 24 5 := ⟨Try.sizeOf24⟩
instance : IsA Try.prog 24 true := ⟨Try.isAgg24⟩
instance : Inf Try.prog 24 5 72 (.agg #[(.slice none 0 0), (.bool false), (.int .i64 0), (.int .i64 0), (.slice none 0 0)]) := ⟨Try.t24, by kernel_rfl, rfl, rfl, rfl⟩
instance : Fld Try.prog 24 0 0 := ⟨_, _, Try.t22, Try.underlying24, rfl, rfl, by kernel_rfl, by decide⟩
instance : Fld Try.prog 24 1 1 := ⟨_, _, Try.t4, Try.underlying24, rfl, rfl, by kernel_rfl, by decide⟩
instance : Fld Try.prog 24 2 2 := ⟨_, _, Try.t2, Try.underlying24, rfl, rfl, by kernel_rfl, by decide⟩
instance : Fld Try.prog 24 3 3 := ⟨_, _, Try.t2, Try.underlying24, rfl, rfl, by kernel_rfl, by decide⟩
instance : Fld Try.prog 24 4 4 := ⟨_, _, Try.t23, Try.underlying24, rfl, rfl, by kernel_rfl, by decide⟩
instance : Siz Try.prog 25 5 := ⟨Try.sizeOf25⟩
instance : IsA Try.prog 25 true := ⟨Try.isAgg25⟩
instance : Inf Try.prog 25 5 72 (.agg #[(.slice none 0 0), (.bool false), (.int .i64 0), (.int .i64 0), (.slice none 0 0)]) := ⟨Try.t25, by kernel_rfl, rfl, rfl, rfl⟩
instance : Fld Try.prog 25 0 0 := ⟨_, _, Try.t22, Try.underlying25, rfl, rfl, by kernel_rfl, by decide⟩
instance : Fld Try.prog 25 1 1 := ⟨_, _, Try.t4, Try.underlying25, rfl, rfl, by kernel_rfl, by decide⟩
instance : Fld Try.prog 25 2 2 := ⟨_, _, Try.t2, Try.underlying25, rfl, rfl, by kernel_rfl, by decide⟩
instance : Fld Try.prog 25 3 3 := ⟨_, _, Try.t2, Try.underlying25, rfl, rfl, by kernel_rfl, by decide⟩
instance : Fld Try.prog 25 4 4 := ⟨_, _, Try.t23, Try.underlying25, rfl, rfl, by kernel_rfl, by decide⟩
instance : Siz Try.prog 26 1 := ⟨Try.sizeOf26⟩
instance : IsA Try.prog 26 false := ⟨Try.isAgg26⟩
instance : Inf Try.prog 26 1 8 .nilFunc := ⟨Try.t26, by kernel_rfl, rfl, rfl, rfl⟩
instance : Siz Try.prog 27 1 := ⟨Try.sizeOf27⟩
instance : IsA Try.prog 27 false := ⟨Try.isAgg27⟩
instance : Inf Try.prog 27 1 8 .nilFunc := ⟨Try.t27, by kernel_rfl, rfl, rfl, rfl⟩
instance : Und Try.prog 28 (.slice 46) := ⟨Try.underlying28⟩
instance : Siz Try.prog 28 1 := ⟨Try.sizeOf28⟩
instance : IsA Try.prog 28 false := ⟨Try.isAgg28⟩
instance : Inf Try.prog 28 1 24 (.slice none 0 0) := ⟨Try.t28, by kernel_rfl, rfl, rfl, rfl⟩
instance : Siz Try.prog 29 3 := ⟨Try.sizeOf29⟩
instance : IsA Try.prog 29 true := ⟨Try.isAgg29⟩
instance : Inf Try.prog 29 3 24 (.agg #[(.bool false), (.int .i64 0), (.int .i64 0)]) := ⟨Try.t29, by kernel_rfl, rfl, rfl, rfl⟩
instance : Fld Try.prog 29 0 0 := ⟨_, _, Try.t4, Try.underlying29, rfl, rfl, by kernel_rfl, by decide⟩
instance : Fld Try.prog 29 1 1 := ⟨_, _, Try.t2, Try.underlying29, rfl, rfl, by kernel_rfl, by decide⟩
instance : Fld Try.prog 29 2 2 := ⟨_, _, Try.t2, Try.underlying29, rfl, rfl, by kernel_rfl, by decide⟩
instance : Siz Try.prog 30 3 := ⟨Try.sizeOf30⟩
instance : IsA Try.prog 30 true := ⟨Try.isAgg30⟩
instance : Inf Try.prog 30 3 24 (.agg #[(.bool false), (.int .i64 0), (.int .i64 0)]) := ⟨Try.t30, by kernel_rfl, rfl, rfl, rfl⟩
instance : Fld Try.prog 30 0 0 := ⟨_, _, Try.t4, Try.underlying30, rfl, rfl, by kernel_rfl, by decide⟩
instance : Fld Try.prog 30 1 1 := ⟨_, _, Try.t2, Try.underlying30, rfl, rfl, by kernel_rfl, by decide⟩
instance : Fld Try.prog 30 2 2 := ⟨_, _, Try.t2, Try.underlying30, rfl, rfl, by kernel_rfl, by decide⟩
instance : Und Try.prog 31 (.slice 53) := ⟨Try.underlying31⟩
instance : Siz Try.prog 31 1 := ⟨Try.sizeOf31⟩
instance : IsA Try.prog 31 false := ⟨Try.isAgg31⟩
instance : Inf Try.prog 31 1 24 (.slice none 0 0) := ⟨Try.t31, by kernel_rfl, rfl, rfl, rfl⟩
instance : Siz Try.prog 32 6 := ⟨Try.sizeOf32⟩
instance : IsA Try.prog 32 true := ⟨Try.isAgg32⟩
instance : Inf Try.prog 32 6 80 (.agg #[(.slice none 0 0), (.bool false), (.bool false), (.int .i64 0), (.int .i64 0), (.slice none 0 0)]) := ⟨Try.t32, by kernel_rfl, rfl, rfl, rfl⟩
instance : Fld Try.prog 32 0 0 := ⟨_, _, Try.t28, Try.underlying32, rfl, rfl, by kernel_rfl, by decide⟩
instance : Fld Try.prog 32 1 1 := ⟨_, _, Try.t4, Try.underlying32, rfl, rfl, by kernel_rfl, by decide⟩
instance : Fld Try.prog 32 2 2 := ⟨_, _, Try.t30, Try.underlying32, rfl, rfl, by kernel_rfl, by decide⟩
instance : Fld Try.prog 32 3 5 := ⟨_, _, Try.t31, Try.underlying32, rfl, rfl, by kernel_rfl, by decide⟩
instance : Siz Try.prog 33 6 := ⟨Try.sizeOf33⟩
instance : IsA Try.prog 33 true := ⟨Try.isAgg33⟩
instance : Inf Try.prog 33 6 80 (.agg #[(.slice none 0 0), (.bool false), (.bool false), (.int .i64 0), (.int .i64 0), (.slice none 0 0)]) := ⟨Try.t33, by kernel_rfl, rfl, rfl, rfl⟩
instance : Fld Try.prog 33 0 0 := ⟨_, _, Try.t28, Try.underlying33, rfl, rfl, by kernel_rfl, by decide⟩
instance : Fld Try.prog 33 1 1 := ⟨_, _, Try.t4, Try.underlying33, rfl, rfl, by kernel_rfl, by decide⟩
instance : Fld Try.prog 33 2 2 := ⟨_, _, Try.t30, Try.underlying33, rfl, rfl, by kernel_rfl, by decide⟩
instance : Fld Try.prog 33 3 5 := ⟨_, _, Try.t31, Try.underlying33, rfl, rfl, by kernel_rfl, by decide⟩
instance : Siz Try.prog 34 1 := ⟨Try.sizeOf34⟩
instance : IsA Try.prog 34 false := ⟨Try.isAgg34⟩
instance : Inf Try.prog 34 1 8 .nilFunc := ⟨Try.t34, by kernel_rfl, rfl, rfl, rfl⟩
instance : Siz Try.prog 35 1 := ⟨Try.sizeOf35⟩
instance : IsA Try.prog 35 false := ⟨Try.isAgg35⟩
instance : Inf Try.prog 35 1 8 .nilFunc := ⟨Try.t35, by kernel_rfl, rfl, rfl, rfl⟩
instance : Siz Try.prog 36 1 := ⟨Try.sizeOf36⟩
instance : IsA Try.prog 36 false := ⟨Try.isAgg36⟩
instance : Inf Try.prog 36 1 8 .nilFunc := ⟨Try.t36, by kernel_rfl, rfl, rfl, rfl⟩
instance : Siz Try.prog 37 1 := ⟨Try.sizeOf37⟩
instance : IsA Try.prog 37 false := ⟨Try.isAgg37⟩
instance : Inf Try.prog 37 1 8 .nilFunc := ⟨Try.t37, by kernel_rfl, rfl, rfl, rfl⟩
instance : Siz Try.prog 38 1 := ⟨Try.sizeOf38⟩
instance : IsA Try.prog 38 false := ⟨Try.isAgg38⟩
instance : Inf Try.prog 38 1 8 .nilFunc := ⟨Try.t38, by kernel_rfl, rfl, rfl, rfl⟩
instance : Und Try.prog 39 (.int .i64) := ⟨Try.underlying39⟩
instance : Siz Try.prog 39 1 := ⟨Try.sizeOf39⟩
instance : IsA Try.prog 39 false := ⟨Try.isAgg39⟩
instance : Inf Try.prog 39 1 8 (.int .i64 0) := ⟨Try.t39, by kernel_rfl, rfl, rfl, rfl⟩
instance : Siz Try.prog 41 1 := ⟨Try.sizeOf41⟩
instance : IsA Try.prog 41 false := ⟨Try.isAgg41⟩
instance : Inf Try.prog 41 1 8 .nilFunc := ⟨Try.t41, by kernel_rfl, rfl, rfl, rfl⟩
instance : Siz Try.prog 42 1 := ⟨Try.sizeOf42⟩
instance : IsA Try.prog 42 false := ⟨Try.isAgg42⟩
instance : Inf Try.prog 42 1 8 .nilFunc := ⟨Try.t42, by kernel_rfl, rfl, rfl, rfl⟩
instance : Und Try.prog 43 (.slice 25) := ⟨Try.underlying43⟩
instance : Siz Try.prog 43 1 := ⟨Try.sizeOf43⟩
instance : IsA Try.prog 43 false := ⟨Try.isAgg43⟩
instance : Inf Try.prog 43 1 24 (.slice none 0 0) := ⟨Try.t43, by kernel_rfl, rfl, rfl, rfl⟩
instance : Siz Try.prog 44 1 := ⟨Try.sizeOf44⟩
instance : IsA Try.prog 44 false := ⟨Try.isAgg44⟩
instance : Inf Try.prog 44 1 8 .nilFunc := ⟨Try.t44, by kernel_rfl, rfl, rfl, rfl⟩
instance : Siz Try.prog 45 2 := ⟨Try.sizeOf45⟩
instance : IsA Try.prog 45 true := ⟨Try.isAgg45⟩
instance : Inf Try.prog 45 2 16 (.agg #[(.int .i64 0), (.int .i64 0)]) := ⟨Try.t45, by kernel_rfl, rfl, rfl, rfl⟩
instance : Fld Try.prog 45 0 0 := ⟨_, _, Try.t3, Try.underlying45, rfl, rfl, by kernel_rfl, by decide⟩
instance : Fld Try.prog 45 1 1 := ⟨_, _, Try.t3, Try.underlying45, rfl, rfl, by kernel_rfl, by decide⟩
instance : Siz Try.prog 46 2 := ⟨Try.sizeOf46⟩
instance : IsA Try.prog 46 true := ⟨Try.isAgg46⟩
instance : Inf Try.prog 46 2 16 (.agg #[(.int .i64 0), (.int .i64 0)]) := ⟨Try.t46, by kernel_rfl, rfl, rfl, rfl⟩
instance : Fld Try.prog 46 0 0 := ⟨_, _, Try.t3, Try.underlying46, rfl, rfl, by kernel_rfl, by decide⟩
instance : Fld Try.prog 46 1 1 := ⟨_, _, Try.t3, Try.underlying46, rfl, rfl, by kernel_rfl, by decide⟩
instance : Siz Try.prog 47 1 := ⟨Try.sizeOf47⟩
instance : IsA Try.prog 47 false := ⟨Try.isAgg47⟩
instance : Inf Try.prog 47 1 8 .nilFunc := ⟨Try.t47, by kernel_rfl, rfl, rfl, rfl⟩
instance : Und Try.prog 48 (.slice 9) := ⟨Try.underlying48⟩
instance : Siz Try.prog 48 1 := ⟨Try.sizeOf48⟩
instance : IsA Try.prog 48 false := ⟨Try.isAgg48⟩
instance : Inf Try.prog 48 1 24 (.slice none 0 0) := ⟨Try.t48, by kernel_rfl, rfl, rfl, rfl⟩
instance : Siz Try.prog 49 1 := ⟨Try.sizeOf49⟩
instance : IsA Try.prog 49 false := ⟨Try.isAgg49⟩
instance : Inf Try.prog 49 1 8 .nilFunc := ⟨Try.t49, by kernel_rfl, rfl, rfl, rfl⟩
instance : Siz Try.prog 50 3 := ⟨Try.sizeOf50⟩
instance : IsA Try.prog 50 true := ⟨Try.isAgg50⟩
instance : Inf Try.prog 50 3 24 (.agg #[(.int .u8 0), (.int .i64 0), (.int .i64 0)]) := ⟨Try.t50, by kernel_rfl, rfl, rfl, rfl⟩
instance : Fld Try.prog 50 0 0 := ⟨_, _, Try.t5, Try.underlying50, rfl, rfl, by kernel_rfl, by decide⟩
instance : Fld Try.prog 50 1 1 := ⟨_, _, Try.t2, Try.underlying50, rfl, rfl, by kernel_rfl, by decide⟩
instance : Fld Try.prog 50 2 2 := ⟨_, _, Try.t2, Try.underlying50, rfl, rfl, by kernel_rfl, by decide⟩
instance : Siz Try.prog 51 3 := ⟨Try.sizeOf51⟩
instance : IsA Try.prog 51 true := ⟨Try.isAgg51⟩
instance : Inf Try.prog 51 3 24 (.agg #[(.int .u8 0), (.int .i64 0), (.int .i64 0)]) := ⟨Try.t51, by kernel_rfl, rfl, rfl, rfl⟩
instance : Fld Try.prog 51 0 0 := ⟨_, _, Try.t5, Try.underlying51, rfl, rfl, by kernel_rfl, by decide⟩
instance : Fld Try.prog 51 1 1 := ⟨_, _, Try.t2, Try.underlying51, rfl, rfl, by kernel_rfl, by decide⟩
instance : Fld Try.prog 51 2 2 := ⟨_, _, Try.t2, Try.underlying51, rfl, rfl, by kernel_rfl, by decide⟩
instance : Siz Try.prog 52 4 := ⟨Try.sizeOf52⟩
instance : IsA Try.prog 52 true := ⟨Try.isAgg52⟩
instance : Inf Try.prog 52 4 40 (.agg #[(.string ⟨#[]⟩), (.bool false), (.int .i64 0), (.int .i64 0)]) := ⟨Try.t52, by kernel_rfl, rfl, rfl, rfl⟩
instance : Fld Try.prog 52 0 0 := ⟨_, _, Try.t9, Try.underlying52, rfl, rfl, by kernel_rfl, by decide⟩
instance : Fld Try.prog 52 1 1 := ⟨_, _, Try.t30, Try.underlying52, rfl, rfl, by kernel_rfl, by decide⟩
instance : Siz Try.prog 53 4 := ⟨Try.sizeOf53⟩
instance : IsA Try.prog 53 true := ⟨Try.isAgg53⟩
instance : Inf Try.prog 53 4 40 (.agg #[(.string ⟨#[]⟩), (.bool false), (.int .i64 0), (.int .i64 0)]) := ⟨Try.t53, by kernel_rfl, rfl, rfl, rfl⟩
instance : Fld Try.prog 53 0 0 := ⟨_, _, Try.t9, Try.underlying53, rfl, rfl, by kernel_rfl, by decide⟩
instance : Fld Try.prog 53 1 1 := ⟨_, _, Try.t30, Try.underlying53, rfl, rfl, by kernel_rfl, by decide⟩
instance : Und Try.prog 54 (.pointer 61) := ⟨Try.underlying54⟩
instance : Siz Try.prog 54 1 := ⟨Try.sizeOf54⟩
instance : IsA Try.prog 54 false := ⟨Try.isAgg54⟩
instance : Inf Try.prog 54 1 8 (.pointer none) := ⟨Try.t54, by kernel_rfl, rfl, rfl, rfl⟩
instance : Siz Try.prog 55 1 := ⟨Try.sizeOf55⟩
instance : IsA Try.prog 55 false := ⟨Try.isAgg55⟩
instance : Inf Try.prog 55 1 8 .nilFunc := ⟨Try.t55, by kernel_rfl, rfl, rfl, rfl⟩
instance : Siz Try.prog 56 1 := ⟨Try.sizeOf56⟩
instance : IsA Try.prog 56 false := ⟨Try.isAgg56⟩
instance : Inf Try.prog 56 1 8 .nilFunc := ⟨Try.t56, by kernel_rfl, rfl, rfl, rfl⟩
instance : Siz Try.prog 57 1 := ⟨Try.sizeOf57⟩
instance : IsA Try.prog 57 false := ⟨Try.isAgg57⟩
instance : Inf Try.prog 57 1 8 .nilFunc := ⟨Try.t57, by kernel_rfl, rfl, rfl, rfl⟩
instance : Siz Try.prog 58 1 := ⟨Try.sizeOf58⟩
instance : IsA Try.prog 58 true := ⟨Try.isAgg58⟩
instance : Inf Try.prog 58 1 24 (.agg #[(.slice none 0 0)]) := ⟨Try.t58, by kernel_rfl, rfl, rfl, rfl⟩
instance : Fld Try.prog 58 0 0 := ⟨_, _, Try.t22, Try.underlying58, rfl, rfl, by kernel_rfl, by decide⟩
instance : Siz Try.prog 59 1 := ⟨Try.sizeOf59⟩
instance : IsA Try.prog 59 true := ⟨Try.isAgg59⟩
instance : Inf Try.prog 59 1 24 (.agg #[(.slice none 0 0)]) := ⟨Try.t59, by kernel_rfl, rfl, rfl, rfl⟩
instance : Fld Try.prog 59 0 0 := ⟨_, _, Try.t22, Try.underlying59, rfl, rfl, by kernel_rfl, by decide⟩
instance : Siz Try.prog 60 1 := ⟨Try.sizeOf60⟩
instance : IsA Try.prog 60 true := ⟨Try.isAgg60⟩
instance : Inf Try.prog 60 1 24 (.agg #[(.slice none 0 0)]) := ⟨Try.t60, by kernel_rfl, rfl, rfl, rfl⟩
instance : Fld Try.prog 60 0 0 := ⟨_, _, Try.t59, Try.underlying60, rfl, rfl, by kernel_rfl, by decide⟩
instance : Siz Try.prog 61 1 := ⟨Try.sizeOf61⟩
instance : IsA Try.prog 61 true := ⟨Try.isAgg61⟩
instance : Inf Try.prog 61 1 24 (.agg #[(.slice none 0 0)]) := ⟨Try.t61, by kernel_rfl, rfl, rfl, rfl⟩
instance : Fld Try.prog 61 0 0 := ⟨_, _, Try.t59, Try.underlying61, rfl, rfl, by kernel_rfl, by decide⟩
instance : Siz Try.prog 62 1 := ⟨Try.sizeOf62⟩
instance : IsA Try.prog 62 false := ⟨Try.isAgg62⟩
instance : Inf Try.prog 62 1 8 .nilFunc := ⟨Try.t62, by kernel_rfl, rfl, rfl, rfl⟩
instance : Siz Try.prog 63 1 := ⟨Try.sizeOf63⟩
instance : IsA Try.prog 63 false := ⟨Try.isAgg63⟩
instance : Inf Try.prog 63 1 8 .nilFunc := ⟨Try.t63, by kernel_rfl, rfl, rfl, rfl⟩
instance : Siz Try.prog 64 1 := ⟨Try.sizeOf64⟩
instance : IsA Try.prog 64 false := ⟨Try.isAgg64⟩
instance : Inf Try.prog 64 1 8 .nilFunc := ⟨Try.t64, by kernel_rfl, rfl, rfl, rfl⟩
instance : Siz Try.prog 65 1 := ⟨Try.sizeOf65⟩
instance : IsA Try.prog 65 false := ⟨Try.isAgg65⟩
instance : Inf Try.prog 65 1 8 .nilFunc := ⟨Try.t65, by kernel_rfl, rfl, rfl, rfl⟩
instance : Siz Try.prog 66 1 := ⟨Try.sizeOf66⟩
instance : IsA Try.prog 66 false := ⟨Try.isAgg66⟩
instance : Inf Try.prog 66 1 8 .nilFunc := ⟨Try.t66, by kernel_rfl, rfl, rfl, rfl⟩
instance : Und Try.prog 67 (.pointer 90) := ⟨Try.underlying67⟩
instance : Siz Try.prog 67 1 := ⟨Try.sizeOf67⟩
instance : IsA Try.prog 67 false := ⟨Try.isAgg67⟩
instance : Inf Try.prog 67 1 8 (.pointer none) := ⟨Try.t67, by kernel_rfl, rfl, rfl, rfl⟩
instance : Siz Try.prog 68 1 := ⟨Try.sizeOf68⟩
instance : IsA Try.prog 68 false := ⟨Try.isAgg68⟩
instance : Inf Try.prog 68 1 8 .nilFunc := ⟨Try.t68, by kernel_rfl, rfl, rfl, rfl⟩
instance : Siz Try.prog 69 1 := ⟨Try.sizeOf69⟩
instance : IsA Try.prog 69 false := ⟨Try.isAgg69⟩
instance : Inf Try.prog 69 1 8 .nilFunc := ⟨Try.t69, by kernel_rfl, rfl, rfl, rfl⟩
instance : Siz Try.prog 70 1 := ⟨Try.sizeOf70⟩
instance : IsA Try.prog 70 false := ⟨Try.isAgg70⟩
instance : Inf Try.prog 70 1 8 .nilFunc := ⟨Try.t70, by kernel_rfl, rfl, rfl, rfl⟩
instance : Und Try.prog 71 (.slice 33) := ⟨Try.underlying71⟩
instance : Siz Try.prog 71 1 := ⟨Try.sizeOf71⟩
instance : IsA Try.prog 71 false := ⟨Try.isAgg71⟩
instance : Inf Try.prog 71 1 24 (.slice none 0 0) := ⟨Try.t71, by kernel_rfl, rfl, rfl, rfl⟩
instance : Siz Try.prog 72 1 := ⟨Try.sizeOf72⟩
instance : IsA Try.prog 72 false := ⟨Try.isAgg72⟩
instance : Inf Try.prog 72 1 8 .nilFunc := ⟨Try.t72, by kernel_rfl, rfl, rfl, rfl⟩
instance : Und Try.prog 73 (.int .u64) := ⟨Try.underlying73⟩
instance : Siz Try.prog 73 1 := ⟨Try.sizeOf73⟩
instance : IsA Try.prog 73 false := ⟨Try.isAgg73⟩
instance : Inf Try.prog 73 1 8 (.int .u64 0) := ⟨Try.t73, by kernel_rfl, rfl, rfl, rfl⟩
instance : Siz Try.prog 74 1 := ⟨Try.sizeOf74⟩
instance : IsA Try.prog 74 false := ⟨Try.isAgg74⟩
instance : Inf Try.prog 74 1 8 .nilFunc := ⟨Try.t74, by kernel_rfl, rfl, rfl, rfl⟩
instance : Siz Try.prog 75 1 := ⟨Try.sizeOf75⟩
instance : IsA Try.prog 75 false := ⟨Try.isAgg75⟩
instance : Inf Try.prog 75 1 8 .nilFunc := ⟨Try.t75, by kernel_rfl, rfl, rfl, rfl⟩
instance : Siz Try.prog 76 1 := ⟨Try.sizeOf76⟩
instance : IsA Try.prog 76 false := ⟨Try.isAgg76⟩
instance : Inf Try.prog 76 1 8 .nilFunc := ⟨Try.t76, by kernel_rfl, rfl, rfl, rfl⟩
instance : Siz Try.prog 77 1 := ⟨Try.sizeOf77⟩
instance : IsA Try.prog 77 false := ⟨Try.isAgg77⟩
instance : Inf Try.prog 77 1 8 .nilFunc := ⟨Try.t77, by kernel_rfl, rfl, rfl, rfl⟩
instance : Und Try.prog 78 (.pointer 59) := ⟨Try.underlying78⟩
instance : Siz Try.prog 78 1 := ⟨Try.sizeOf78⟩
instance : IsA Try.prog 78 false := ⟨Try.isAgg78⟩
instance : Inf Try.prog 78 1 8 (.pointer none) := ⟨Try.t78, by kernel_rfl, rfl, rfl, rfl⟩
instance : Siz Try.prog 79 1 := ⟨Try.sizeOf79⟩
instance : IsA Try.prog 79 false := ⟨Try.isAgg79⟩
instance : Inf Try.prog 79 1 8 .nilFunc := ⟨Try.t79, by kernel_rfl, rfl, rfl, rfl⟩
instance : Siz Try.prog 80 6 := ⟨Try.sizeOf80⟩
instance : IsA Try.prog 80 true := ⟨Try.isAgg80⟩
instance : Inf Try.prog 80 6 80 (.agg #[(.slice none 0 0), (.bool false), (.bool false), (.int .i64 0), (.int .i64 0), (.slice none 0 0)]) := ⟨Try.t80, by kernel_rfl, rfl, rfl, rfl⟩
instance : Fld Try.prog 80 0 0 := ⟨_, _, Try.t33, Try.underlying80, rfl, rfl, by kernel_rfl, by decide⟩
instance : Siz Try.prog 81 6 := ⟨Try.sizeOf81⟩
instance : IsA Try.prog 81 true := ⟨Try.isAgg81⟩
instance : Inf Try.prog 81 6 80 (.agg #[(.slice none 0 0), (.bool false), (.bool false), (.int .i64 0), (.int .i64 0), (.slice none 0 0)]) := ⟨Try.t81, by kernel_rfl, rfl, rfl, rfl⟩
instance : Fld Try.prog 81 0 0 := ⟨_, _, Try.t33, Try.underlying81, rfl, rfl, by kernel_rfl, by decide⟩
instance : Siz Try.prog 82 1 := ⟨Try.sizeOf82⟩
instance : IsA Try.prog 82 false := ⟨Try.isAgg82⟩
instance : Inf Try.prog 82 1 8 .nilFunc := ⟨Try.t82, by kernel_rfl, rfl, rfl, rfl⟩
instance : Siz Try.prog 83 1 := ⟨Try.sizeOf83⟩
instance : IsA Try.prog 83 false := ⟨Try.isAgg83⟩
instance : Inf Try.prog 83 1 8 .nilFunc := ⟨Try.t83, by kernel_rfl, rfl, rfl, rfl⟩
instance : Und Try.prog 84 (.slice 30) := ⟨Try.underlying84⟩
instance : Siz Try.prog 84 1 := ⟨Try.sizeOf84⟩
instance : IsA Try.prog 84 false := ⟨Try.isAgg84⟩
instance : Inf Try.prog 84 1 24 (.slice none 0 0) := ⟨Try.t84, by kernel_rfl, rfl, rfl, rfl⟩
instance : Siz Try.prog 85 1 := ⟨Try.sizeOf85⟩
instance : IsA Try.prog 85 false := ⟨Try.isAgg85⟩
instance : Inf Try.prog 85 1 8 .nilFunc := ⟨Try.t85, by kernel_rfl, rfl, rfl, rfl⟩
instance : Siz Try.prog 86 1 := ⟨Try.sizeOf86⟩
instance : IsA Try.prog 86 false := ⟨Try.isAgg86⟩
instance : Inf Try.prog 86 1 8 .nilFunc := ⟨Try.t86, by kernel_rfl, rfl, rfl, rfl⟩
instance : Siz Try.prog 87 1 := ⟨Try.sizeOf87⟩
instance : IsA Try.prog 87 true := ⟨Try.isAgg87⟩
instance : Inf Try.prog 87 1 24 (.agg #[(.slice none 0 0)]) := ⟨Try.t87, by kernel_rfl, rfl, rfl, rfl⟩
instance : Fld Try.prog 87 0 0 := ⟨_, _, Try.t22, Try.underlying87, rfl, rfl, by kernel_rfl, by decide⟩
instance : Siz Try.prog 88 1 := ⟨Try.sizeOf88⟩
instance : IsA Try.prog 88 true := ⟨Try.isAgg88⟩
instance : Inf Try.prog 88 1 24 (.agg #[(.slice none 0 0)]) := ⟨Try.t88, by kernel_rfl, rfl, rfl, rfl⟩
instance : Fld Try.prog 88 0 0 := ⟨_, _, Try.t22, Try.underlying88, rfl, rfl, by kernel_rfl, by decide⟩
instance : Siz Try.prog 89 2 := ⟨Try.sizeOf89⟩
instance : IsA Try.prog 89 true := ⟨Try.isAgg89⟩
instance : Inf Try.prog 89 2 32 (.agg #[(.slice none 0 0), (.bool false)]) := ⟨Try.t89, by kernel_rfl, rfl, rfl, rfl⟩
instance : Fld Try.prog 89 0 0 := ⟨_, _, Try.t88, Try.underlying89, rfl, rfl, by kernel_rfl, by decide⟩
instance : Fld Try.prog 89 1 1 := ⟨_, _, Try.t4, Try.underlying89, rfl, rfl, by kernel_rfl, by decide⟩
instance : Siz Try.prog 90 2 := ⟨Try.sizeOf90⟩
instance : IsA Try.prog 90 true := ⟨Try.isAgg90⟩
instance : Inf Try.prog 90 2 32 (.agg #[(.slice none 0 0), (.bool false)]) := ⟨Try.t90, by kernel_rfl, rfl, rfl, rfl⟩
instance : Fld Try.prog 90 0 0 := ⟨_, _, Try.t88, Try.underlying90, rfl, rfl, by kernel_rfl, by decide⟩
instance : Fld Try.prog 90 1 1 := ⟨_, _, Try.t4, Try.underlying90, rfl, rfl, by kernel_rfl, by decide⟩
instance : Siz Try.prog 91 1 := ⟨Try.sizeOf91⟩
instance : IsA Try.prog 91 false := ⟨Try.isAgg91⟩
instance : Inf Try.prog 91 1 8 .nilFunc := ⟨Try.t91, by kernel_rfl, rfl, rfl, rfl⟩
instance : Und Try.prog 92 (.slice 73) := ⟨Try.underlying92⟩
instance : Siz Try.prog 92 1 := ⟨Try.sizeOf92⟩
instance : IsA Try.prog 92 false := ⟨Try.isAgg92⟩
instance : Inf Try.prog 92 1 24 (.slice none 0 0) := ⟨Try.t92, by kernel_rfl, rfl, rfl, rfl⟩
instance : Und Try.prog 93 (.int .u64) := ⟨Try.underlying93⟩
instance : Siz Try.prog 93 1 := ⟨Try.sizeOf93⟩
instance : IsA Try.prog 93 false := ⟨Try.isAgg93⟩
instance : Inf Try.prog 93 1 8 (.int .u64 0) := ⟨Try.t93, by kernel_rfl, rfl, rfl, rfl⟩
instance : Und Try.prog 94 (.slice 2) := ⟨Try.underlying94⟩
instance : Siz Try.prog 94 1 := ⟨Try.sizeOf94⟩
instance : IsA Try.prog 94 false := ⟨Try.isAgg94⟩
instance : Inf Try.prog 94 1 24 (.slice none 0 0) := ⟨Try.t94, by kernel_rfl, rfl, rfl, rfl⟩
instance : Und Try.prog 95 (.slice 4) := ⟨Try.underlying95⟩
instance : Siz Try.prog 95 1 := ⟨Try.sizeOf95⟩
instance : IsA Try.prog 95 false := ⟨Try.isAgg95⟩
instance : Inf Try.prog 95 1 24 (.slice none 0 0) := ⟨Try.t95, by kernel_rfl, rfl, rfl, rfl⟩
instance : Und Try.prog 96 (.pointer 81) := ⟨Try.underlying96⟩
instance : Siz Try.prog 96 1 := ⟨Try.sizeOf96⟩
instance : IsA Try.prog 96 false := ⟨Try.isAgg96⟩
instance : Inf Try.prog 96 1 8 (.pointer none) := ⟨Try.t96, by kernel_rfl, rfl, rfl, rfl⟩
instance : Siz Try.prog 97 1 := ⟨Try.sizeOf97⟩
instance : IsA Try.prog 97 false := ⟨Try.isAgg97⟩
instance : Inf Try.prog 97 1 8 .nilFunc := ⟨Try.t97, by kernel_rfl, rfl, rfl, rfl⟩
instance : Siz Try.prog 98 1 := ⟨Try.sizeOf98⟩
instance : IsA Try.prog 98 false := ⟨Try.isAgg98⟩
instance : Inf Try.prog 98 1 8 .nilFunc := ⟨Try.t98, by kernel_rfl, rfl, rfl, rfl⟩
instance : Siz Try.prog 99 1 := ⟨Try.sizeOf99⟩
instance : IsA Try.prog 99 false := ⟨Try.isAgg99⟩
instance : Inf Try.prog 99 1 8 .nilFunc := ⟨Try.t99, by kernel_rfl, rfl, rfl, rfl⟩
instance : Siz Try.prog 100 1 := ⟨Try.sizeOf100⟩
instance : IsA Try.prog 100 false := ⟨Try.isAgg100⟩
instance : Inf Try.prog 100 1 8 .nilFunc := ⟨Try.t100, by kernel_rfl, rfl, rfl, rfl⟩
instance : Siz Try.prog 101 1 := ⟨Try.sizeOf101⟩
instance : IsA Try.prog 101 false := ⟨Try.isAgg101⟩
instance : Inf Try.prog 101 1 8 .nilFunc := ⟨Try.t101, by kernel_rfl, rfl, rfl, rfl⟩
instance : Siz Try.prog 102 1 := ⟨Try.sizeOf102⟩
instance : IsA Try.prog 102 false := ⟨Try.isAgg102⟩
instance : Inf Try.prog 102 1 8 .nilFunc := ⟨Try.t102, by kernel_rfl, rfl, rfl, rfl⟩
instance : Und Try.prog 103 (.map 9 30) := ⟨Try.underlying103⟩
instance : Siz Try.prog 103 1 := ⟨Try.sizeOf103⟩
instance : IsA Try.prog 103 false := ⟨Try.isAgg103⟩
instance : Inf Try.prog 103 1 8 (.map none) := ⟨Try.t103, by kernel_rfl, rfl, rfl, rfl⟩
instance : Siz Try.prog 104 1 := ⟨Try.sizeOf104⟩
instance : IsA Try.prog 104 false := ⟨Try.isAgg104⟩
instance : Inf Try.prog 104 1 8 .nilFunc := ⟨Try.t104, by kernel_rfl, rfl, rfl, rfl⟩
instance : Siz Try.prog 105 1 := ⟨Try.sizeOf105⟩
instance : IsA Try.prog 105 false := ⟨Try.isAgg105⟩
instance : Inf Try.prog 105 1 8 .nilFunc := ⟨Try.t105, by kernel_rfl, rfl, rfl, rfl⟩
instance : Siz Try.prog 106 1 := ⟨Try.sizeOf106⟩
instance : IsA Try.prog 106 false := ⟨Try.isAgg106⟩
instance : Inf Try.prog 106 1 8 .nilFunc := ⟨Try.t106, by kernel_rfl, rfl, rfl, rfl⟩
instance : Siz Try.prog 107 1 := ⟨Try.sizeOf107⟩
instance : IsA Try.prog 107 false := ⟨Try.isAgg107⟩
instance : Inf Try.prog 107 1 8 .nilFunc := ⟨Try.t107, by kernel_rfl, rfl, rfl, rfl⟩
instance : Siz Try.prog 108 1 := ⟨Try.sizeOf108⟩
instance : IsA Try.prog 108 false := ⟨Try.isAgg108⟩
instance : Inf Try.prog 108 1 8 .nilFunc := ⟨Try.t108, by kernel_rfl, rfl, rfl, rfl⟩
instance : Siz Try.prog 109 1 := ⟨Try.sizeOf109⟩
instance : IsA Try.prog 109 false := ⟨Try.isAgg109⟩
instance : Inf Try.prog 109 1 8 .nilFunc := ⟨Try.t109, by kernel_rfl, rfl, rfl, rfl⟩
instance : Siz Try.prog 110 1 := ⟨Try.sizeOf110⟩
instance : IsA Try.prog 110 false := ⟨Try.isAgg110⟩
instance : Inf Try.prog 110 1 8 .nilFunc := ⟨Try.t110, by kernel_rfl, rfl, rfl, rfl⟩
instance : Siz Try.prog 111 1 := ⟨Try.sizeOf111⟩
instance : IsA Try.prog 111 false := ⟨Try.isAgg111⟩
instance : Inf Try.prog 111 1 8 .nilFunc := ⟨Try.t111, by kernel_rfl, rfl, rfl, rfl⟩
instance : Und Try.prog 112 (.pointer 88) := ⟨Try.underlying112⟩
instance : Siz Try.prog 112 1 := ⟨Try.sizeOf112⟩
instance : IsA Try.prog 112 false := ⟨Try.isAgg112⟩
instance : Inf Try.prog 112 1 8 (.pointer none) := ⟨Try.t112, by kernel_rfl, rfl, rfl, rfl⟩
instance : Siz Try.prog 113 1 := ⟨Try.sizeOf113⟩
instance : IsA Try.prog 113 false := ⟨Try.isAgg113⟩
instance : Inf Try.prog 113 1 8 .nilFunc := ⟨Try.t113, by kernel_rfl, rfl, rfl, rfl⟩
instance : Siz Try.prog 114 1 := ⟨Try.sizeOf114⟩
instance : IsA Try.prog 114 false := ⟨Try.isAgg114⟩
instance : Inf Try.prog 114 1 8 .nilFunc := ⟨Try.t114, by kernel_rfl, rfl, rfl, rfl⟩
instance : Und Try.prog 115 (.slice 28) := ⟨Try.underlying115⟩
instance : Siz Try.prog 115 1 := ⟨Try.sizeOf115⟩
instance : IsA Try.prog 115 false := ⟨Try.isAgg115⟩
instance : Inf Try.prog 115 1 24 (.slice none 0 0) := ⟨Try.t115, by kernel_rfl, rfl, rfl, rfl⟩
instance : Siz Try.prog 116 1 := ⟨Try.sizeOf116⟩
instance : IsA Try.prog 116 false := ⟨Try.isAgg116⟩
instance : Inf Try.prog 116 1 8 .nilFunc := ⟨Try.t116, by kernel_rfl, rfl, rfl, rfl⟩
instance : Siz Try.prog 117 1 := ⟨Try.sizeOf117⟩
instance : IsA Try.prog 117 false := ⟨Try.isAgg117⟩
instance : Inf Try.prog 117 1 8 .nilFunc := ⟨Try.t117, by kernel_rfl, rfl, rfl, rfl⟩
instance : Siz Try.prog 118 1 := ⟨Try.sizeOf118⟩
instance : IsA Try.prog 118 false := ⟨Try.isAgg118⟩
instance : Inf Try.prog 118 1 8 .nilFunc := ⟨Try.t118, by kernel_rfl, rfl, rfl, rfl⟩
instance : Und Try.prog 119 (.slice 3) := ⟨Try.underlying119⟩
instance : Siz Try.prog 119 1 := ⟨Try.sizeOf119⟩
instance : IsA Try.prog 119 false := ⟨Try.isAgg119⟩
instance : Inf Try.prog 119 1 24 (.slice none 0 0) := ⟨Try.t119, by kernel_rfl, rfl, rfl, rfl⟩
instance : Siz Try.prog 120 1 := ⟨Try.sizeOf120⟩
instance : IsA Try.prog 120 false := ⟨Try.isAgg120⟩
instance : Inf Try.prog 120 1 8 .nilFunc := ⟨Try.t120, by kernel_rfl, rfl, rfl, rfl⟩
instance : Und Try.prog 122 (.slice 48) := ⟨Try.underlying122⟩
instance : Siz Try.prog 122 1 := ⟨Try.sizeOf122⟩
instance : IsA Try.prog 122 false := ⟨Try.isAgg122⟩
instance : Inf Try.prog 122 1 24 (.slice none 0 0) := ⟨Try.t122, by kernel_rfl, rfl, rfl, rfl⟩
instance : Siz Try.prog 123 1 := ⟨Try.sizeOf123⟩
instance : IsA Try.prog 123 false := ⟨Try.isAgg123⟩
instance : Inf Try.prog 123 1 8 .nilFunc := ⟨Try.t123, by kernel_rfl, rfl, rfl, rfl⟩
instance : Siz Try.prog 124 1 := ⟨Try.sizeOf124⟩
instance : IsA Try.prog 124 false := ⟨Try.isAgg124⟩
instance : Inf Try.prog 124 1 8 .nilFunc := ⟨Try.t124, by kernel_rfl, rfl, rfl, rfl⟩
instance : Siz Try.prog 125 1 := ⟨Try.sizeOf125⟩
instance : IsA Try.prog 125 false := ⟨Try.isAgg125⟩
instance : Inf Try.prog 125 1 8 .nilFunc := ⟨Try.t125, by kernel_rfl, rfl, rfl, rfl⟩
instance : Siz Try.prog 126 1 := ⟨Try.sizeOf126⟩
instance : IsA Try.prog 126 false := ⟨Try.isAgg126⟩
instance : Inf Try.prog 126 1 8 .nilFunc := ⟨Try.t126, by kernel_rfl, rfl, rfl, rfl⟩
instance : Siz Try.prog 127 1 := ⟨Try.sizeOf127⟩
instance : IsA Try.prog 127 false := ⟨Try.isAgg127⟩
instance : Inf Try.prog 127 1 8 .nilFunc := ⟨Try.t127, by kernel_rfl, rfl, rfl, rfl⟩
instance : Siz Try.prog 128 1 := ⟨Try.sizeOf128⟩
instance : IsA Try.prog 128 false := ⟨Try.isAgg128⟩
instance : Inf Try.prog 128 1 8 .nilFunc := ⟨Try.t128, by kernel_rfl, rfl, rfl, rfl⟩
instance : Siz Try.prog 129 1 := ⟨Try.sizeOf129⟩
instance : IsA Try.prog 129 false := ⟨Try.isAgg129⟩
instance : Inf Try.prog 129 1 8 .nilFunc := ⟨Try.t129, by kernel_rfl, rfl, rfl, rfl⟩
instance : Siz Try.prog 130 1 := ⟨Try.sizeOf130⟩
instance : IsA Try.prog 130 false := ⟨Try.isAgg130⟩
instance : Inf Try.prog 130 1 8 .nilFunc := ⟨Try.t130, by kernel_rfl, rfl, rfl, rfl⟩
instance : Und Try.prog 131 (.int .i64) := ⟨Try.underlying131⟩
instance : Siz Try.prog 131 1 := ⟨Try.sizeOf131⟩
instance : IsA Try.prog 131 false := ⟨Try.isAgg131⟩
instance : Inf Try.prog 131 1 8 (.int .i64 0) := ⟨Try.t131, by kernel_rfl, rfl, rfl, rfl⟩
instance : Siz Try.prog 133 1 := ⟨Try.sizeOf133⟩
instance : IsA Try.prog 133 false := ⟨Try.isAgg133⟩
instance : Inf Try.prog 133 1 8 .nilFunc := ⟨Try.t133, by kernel_rfl, rfl, rfl, rfl⟩
instance : Siz Try.prog 134 1 := ⟨Try.sizeOf134⟩
instance : IsA Try.prog 134 false := ⟨Try.isAgg134⟩
instance : Inf Try.prog 134 1 8 .nilFunc := ⟨Try.t134, by kernel_rfl, rfl, rfl, rfl⟩
instance : Siz Try.prog 135 1 := ⟨Try.sizeOf135⟩
instance : IsA Try.prog 135 false := ⟨Try.isAgg135⟩
instance : Inf Try.prog 135 1 8 .nilFunc := ⟨Try.t135, by kernel_rfl, rfl, rfl, rfl⟩
instance : Siz Try.prog 137 1 := ⟨Try.sizeOf137⟩
instance : IsA Try.prog 137 false := ⟨Try.isAgg137⟩
instance : Inf Try.prog 137 1 8 .nilFunc := ⟨Try.t137, by kernel_rfl, rfl, rfl, rfl⟩
instance : Siz Try.prog 138 1 := ⟨Try.sizeOf138⟩
instance : IsA Try.prog 138 false := ⟨Try.isAgg138⟩
instance : Inf Try.prog 138 1 8 .nilFunc := ⟨Try.t138, by kernel_rfl, rfl, rfl, rfl⟩
instance : Und Try.prog 139 (.int .u32) := ⟨Try.underlying139⟩
instance : Siz Try.prog 139 1 := ⟨Try.sizeOf139⟩
instance : IsA Try.prog 139 false := ⟨Try.isAgg139⟩
instance : Inf Try.prog 139 1 4 (.int .u32 0) := ⟨Try.t139, by kernel_rfl, rfl, rfl, rfl⟩
instance : Siz Try.prog 140 1 := ⟨Try.sizeOf140⟩
instance : IsA Try.prog 140 false := ⟨Try.isAgg140⟩
instance : Inf Try.prog 140 1 8 .nilFunc := ⟨Try.t140, by kernel_rfl, rfl, rfl, rfl⟩
instance : Siz Try.prog 141 1 := ⟨Try.sizeOf141⟩
instance : IsA Try.prog 141 false := ⟨Try.isAgg141⟩
instance : Inf Try.prog 141 1 8 .nilFunc := ⟨Try.t141, by kernel_rfl, rfl, rfl, rfl⟩
instance : Siz Try.prog 142 1 := ⟨Try.sizeOf142⟩
instance : IsA Try.prog 142 false := ⟨Try.isAgg142⟩
instance : Inf Try.prog 142 1 8 .nilFunc := ⟨Try.t142, by kernel_rfl, rfl, rfl, rfl⟩
instance : Siz Try.prog 143 1 := ⟨Try.sizeOf143⟩
instance : IsA Try.prog 143 false := ⟨Try.isAgg143⟩
instance : Inf Try.prog 143 1 8 .nilFunc := ⟨Try.t143, by kernel_rfl, rfl, rfl, rfl⟩
instance : Siz Try.prog 144 1 := ⟨Try.sizeOf144⟩
instance : IsA Try.prog 144 false := ⟨Try.isAgg144⟩
instance : Inf Try.prog 144 1 8 .nilFunc := ⟨Try.t144, by kernel_rfl, rfl, rfl, rfl⟩
instance : Siz Try.prog 145 1 := ⟨Try.sizeOf145⟩
instance : IsA Try.prog 145 false := ⟨Try.isAgg145⟩
instance : Inf Try.prog 145 1 8 .nilFunc := ⟨Try.t145, by kernel_rfl, rfl, rfl, rfl⟩
instance : Siz Try.prog 146 1 := ⟨Try.sizeOf146⟩
instance : IsA Try.prog 146 false := ⟨Try.isAgg146⟩
instance : Inf Try.prog 146 1 8 .nilFunc := ⟨Try.t146, by kernel_rfl, rfl, rfl, rfl⟩
instance : Und Try.prog 147 (.int .u64) := ⟨Try.underlying147⟩
instance : Siz Try.prog 147 1 := ⟨Try.sizeOf147⟩
instance : IsA Try.prog 147 false := ⟨Try.isAgg147⟩
instance : Inf Try.prog 147 1 8 (.int .u64 0) := ⟨Try.t147, by kernel_rfl, rfl, rfl, rfl⟩
instance : Siz Try.prog 148 1 := ⟨Try.sizeOf148⟩
instance : IsA Try.prog 148 false := ⟨Try.isAgg148⟩
instance : Inf Try.prog 148 1 8 .nilFunc := ⟨Try.t148, by kernel_rfl, rfl, rfl, rfl⟩
instance : Siz Try.prog 149 1 := ⟨Try.sizeOf149⟩
instance : IsA Try.prog 149 false := ⟨Try.isAgg149⟩
instance : Inf Try.prog 149 1 8 .nilFunc := ⟨Try.t149, by kernel_rfl, rfl, rfl, rfl⟩
instance : Und Try.prog 150 (.pointer 3) := ⟨Try.underlying150⟩
instance : Siz Try.prog 150 1 := ⟨Try.sizeOf150⟩
instance : IsA Try.prog 150 false := ⟨Try.isAgg150⟩
instance : Inf Try.prog 150 1 8 (.pointer none) := ⟨Try.t150, by kernel_rfl, rfl, rfl, rfl⟩
instance : Siz Try.prog 151 1 := ⟨Try.sizeOf151⟩
instance : IsA Try.prog 151 false := ⟨Try.isAgg151⟩
instance : Inf Try.prog 151 1 8 .nilFunc := ⟨Try.t151, by kernel_rfl, rfl, rfl, rfl⟩
instance : Siz Try.prog 152 1 := ⟨Try.sizeOf152⟩
instance : IsA Try.prog 152 false := ⟨Try.isAgg152⟩
instance : Inf Try.prog 152 1 8 .nilFunc := ⟨Try.t152, by kernel_rfl, rfl, rfl, rfl⟩
instance : Siz Try.prog 153 1 := ⟨Try.sizeOf153⟩
instance : IsA Try.prog 153 false := ⟨Try.isAgg153⟩
instance : Inf Try.prog 153 1 8 .nilFunc := ⟨Try.t153, by kernel_rfl, rfl, rfl, rfl⟩
instance : Und Try.prog 154 (.pointer 147) := ⟨Try.underlying154⟩
instance : Siz Try.prog 154 1 := ⟨Try.sizeOf154⟩
instance : IsA Try.prog 154 false := ⟨Try.isAgg154⟩
instance : Inf Try.prog 154 1 8 (.pointer none) := ⟨Try.t154, by kernel_rfl, rfl, rfl, rfl⟩
instance : Siz Try.prog 156 1 := ⟨Try.sizeOf156⟩
instance : IsA Try.prog 156 false := ⟨Try.isAgg156⟩
instance : Inf Try.prog 156 1 8 .nilFunc := ⟨Try.t156, by kernel_rfl, rfl, rfl, rfl⟩
instance : Siz Try.prog 157 1 := ⟨Try.sizeOf157⟩
instance : IsA Try.prog 157 false := ⟨Try.isAgg157⟩
instance : Inf Try.prog 157 1 8 .nilFunc := ⟨Try.t157, by kernel_rfl, rfl, rfl, rfl⟩
instance : Siz Try.prog 158 4 := ⟨Try.sizeOf158⟩
instance : IsA Try.prog 158 true := ⟨Try.isAgg158⟩
instance : Inf Try.prog 158 4 40 (.agg #[(.pointer none), (.pointer none), (.pointer none), (.string ⟨#[]⟩)]) := ⟨Try.t158, by kernel_rfl, rfl, rfl, rfl⟩
instance : Fld Try.prog 158 0 0 := ⟨_, _, Try.t17, Try.underlying158, rfl, rfl, by kernel_rfl, by decide⟩
instance : Fld Try.prog 158 1 1 := ⟨_, _, Try.t17, Try.underlying158, rfl, rfl, by kernel_rfl, by decide⟩
instance : Fld Try.prog 158 2 2 := ⟨_, _, Try.t17, Try.underlying158, rfl, rfl, by kernel_rfl, by decide⟩
instance : Fld Try.prog 158 3 3 := ⟨_, _, Try.t9, Try.underlying158, rfl, rfl, by kernel_rfl, by decide⟩
instance : Siz Try.prog 159 4 := ⟨Try.sizeOf159⟩
instance : IsA Try.prog 159 true := ⟨Try.isAgg159⟩
instance : Inf Try.prog 159 4 40 (.agg #[(.pointer none), (.pointer none), (.pointer none), (.string ⟨#[]⟩)]) := ⟨Try.t159, by kernel_rfl, rfl, rfl, rfl⟩
instance : Fld Try.prog 159 0 0 := ⟨_, _, Try.t17, Try.underlying159, rfl, rfl, by kernel_rfl, by decide⟩
instance : Fld Try.prog 159 1 1 := ⟨_, _, Try.t17, Try.underlying159, rfl, rfl, by kernel_rfl, by decide⟩
instance : Fld Try.prog 159 2 2 := ⟨_, _, Try.t17, Try.underlying159, rfl, rfl, by kernel_rfl, by decide⟩
instance : Fld Try.prog 159 3 3 := ⟨_, _, Try.t9, Try.underlying159, rfl, rfl, by kernel_rfl, by decide⟩
instance : Und Try.prog 160 (.array 0 16) := ⟨Try.underlying160⟩
instance : Siz Try.prog 160 0 := ⟨Try.sizeOf160⟩
instance : IsA Try.prog 160 true := ⟨Try.isAgg160⟩
instance : Inf Try.prog 160 0 0 (.agg #[]) := ⟨Try.t160, by kernel_rfl, rfl, rfl, rfl⟩
instance : Siz Try.prog 161 0 := ⟨Try.sizeOf161⟩
instance : IsA Try.prog 161 true := ⟨Try.isAgg161⟩
instance : Inf Try.prog 161 0 0 (.agg #[]) := ⟨Try.t161, by kernel_rfl, rfl, rfl, rfl⟩
instance : Siz Try.prog 162 0 := ⟨Try.sizeOf162⟩
instance : IsA Try.prog 162 true := ⟨Try.isAgg162⟩
instance : Inf Try.prog 162 0 0 (.agg #[]) := ⟨Try.t162, by kernel_rfl, rfl, rfl, rfl⟩
instance : Und Try.prog 163 (.int .u8) := ⟨Try.underlying163⟩
instance : Siz Try.prog 163 1 := ⟨Try.sizeOf163⟩
instance : IsA Try.prog 163 false := ⟨Try.isAgg163⟩
instance : Inf Try.prog 163 1 1 (.int .u8 0) := ⟨Try.t163, by kernel_rfl, rfl, rfl, rfl⟩
instance : Und Try.prog 164 (.int .u8) := ⟨Try.underlying164⟩
instance : Siz Try.prog 164 1 := ⟨Try.sizeOf164⟩
instance : IsA Try.prog 164 false := ⟨Try.isAgg164⟩
instance : Inf Try.prog 164 1 1 (.int .u8 0) := ⟨Try.t164, by kernel_rfl, rfl, rfl, rfl⟩
instance : Siz Try.prog 165 1 := ⟨Try.sizeOf165⟩
instance : IsA Try.prog 165 false := ⟨Try.isAgg165⟩
instance : Inf Try.prog 165 1 8 .nilFunc := ⟨Try.t165, by kernel_rfl, rfl, rfl, rfl⟩
instance : Und Try.prog 166 (.pointer 5) := ⟨Try.underlying166⟩
instance : Siz Try.prog 166 1 := ⟨Try.sizeOf166⟩
instance : IsA Try.prog 166 false := ⟨Try.isAgg166⟩
instance : Inf Try.prog 166 1 8 (.pointer none) := ⟨Try.t166, by kernel_rfl, rfl, rfl, rfl⟩
instance : Und Try.prog 167 (.int .i32) := ⟨Try.underlying167⟩
instance : Siz Try.prog 167 1 := ⟨Try.sizeOf167⟩
instance : IsA Try.prog 167 false := ⟨Try.isAgg167⟩
instance : Inf Try.prog 167 1 4 (.int .i32 0) := ⟨Try.t167, by kernel_rfl, rfl, rfl, rfl⟩
instance : Und Try.prog 168 (.int .i32) := ⟨Try.underlying168⟩
instance : Siz Try.prog 168 1 := ⟨Try.sizeOf168⟩
instance : IsA Try.prog 168 false := ⟨Try.isAgg168⟩
instance : Inf Try.prog 168 1 4 (.int .i32 0) := ⟨Try.t168, by kernel_rfl, rfl, rfl, rfl⟩
instance : Siz Try.prog 169 11 := ⟨Try.sizeOf169⟩
instance : IsA Try.prog 169 true := ⟨Try.isAgg169⟩
instance : Inf Try.prog 169 11 48 (.agg #[(.int .u64 0), (.int .u64 0), (.int .u32 0), (.int .u8 0), (.int .u8 0), (.int .u8 0), (.int .u8 0), .nilFunc, (.pointer none), (.int .i32 0), (.int .i32 0)]) := ⟨Try.t169, by kernel_rfl, rfl, rfl, rfl⟩
instance : Fld Try.prog 169 0 0 := ⟨_, _, Try.t12, Try.underlying169, rfl, rfl, by kernel_rfl, by decide⟩
instance : Fld Try.prog 169 1 1 := ⟨_, _, Try.t12, Try.underlying169, rfl, rfl, by kernel_rfl, by decide⟩
instance : Fld Try.prog 169 2 2 := ⟨_, _, Try.t139, Try.underlying169, rfl, rfl, by kernel_rfl, by decide⟩
instance : Fld Try.prog 169 3 3 := ⟨_, _, Try.t163, Try.underlying169, rfl, rfl, by kernel_rfl, by decide⟩
instance : Fld Try.prog 169 4 4 := ⟨_, _, Try.t5, Try.underlying169, rfl, rfl, by kernel_rfl, by decide⟩
instance : Fld Try.prog 169 5 5 := ⟨_, _, Try.t5, Try.underlying169, rfl, rfl, by kernel_rfl, by decide⟩
instance : Fld Try.prog 169 6 6 := ⟨_, _, Try.t164, Try.underlying169, rfl, rfl, by kernel_rfl, by decide⟩
instance : Fld Try.prog 169 7 7 := ⟨_, _, Try.t165, Try.underlying169, rfl, rfl, by kernel_rfl, by decide⟩
instance : Fld Try.prog 169 8 8 := ⟨_, _, Try.t166, Try.underlying169, rfl, rfl, by kernel_rfl, by decide⟩
instance : Fld Try.prog 169 9 9 := ⟨_, _, Try.t167, Try.underlying169, rfl, rfl, by kernel_rfl, by decide⟩
instance : Fld Try.prog 169 10 10 := ⟨_, _, Try.t168, Try.underlying169, rfl, rfl, by kernel_rfl, by decide⟩
instance : Siz Try.prog 170 11 := ⟨Try.sizeOf170⟩
instance : IsA Try.prog 170 true := ⟨Try.isAgg170⟩
instance : Inf Try.prog 170 11 48 (.agg #[(.int .u64 0), (.int .u64 0), (.int .u32 0), (.int .u8 0), (.int .u8 0), (.int .u8 0), (.int .u8 0), .nilFunc, (.pointer none), (.int .i32 0), (.int .i32 0)]) := ⟨Try.t170, by kernel_rfl, rfl, rfl, rfl⟩
instance : Fld Try.prog 170 0 0 := ⟨_, _, Try.t12, Try.underlying170, rfl, rfl, by kernel_rfl, by decide⟩
instance : Fld Try.prog 170 1 1 := ⟨_, _, Try.t12, Try.underlying170, rfl, rfl, by kernel_rfl, by decide⟩
instance : Fld Try.prog 170 2 2 := ⟨_, _, Try.t139, Try.underlying170, rfl, rfl, by kernel_rfl, by decide⟩
instance : Fld Try.prog 170 3 3 := ⟨_, _, Try.t163, Try.underlying170, rfl, rfl, by kernel_rfl, by decide⟩
instance : Fld Try.prog 170 4 4 := ⟨_, _, Try.t5, Try.underlying170, rfl, rfl, by kernel_rfl, by decide⟩
instance : Fld Try.prog 170 5 5 := ⟨_, _, Try.t5, Try.underlying170, rfl, rfl, by kernel_rfl, by decide⟩
instance : Fld Try.prog 170 6 6 := ⟨_, _, Try.t164, Try.underlying170, rfl, rfl, by kernel_rfl, by decide⟩
instance : Fld Try.prog 170 7 7 := ⟨_, _, Try.t165, Try.underlying170, rfl, rfl, by kernel_rfl, by decide⟩
instance : Fld Try.prog 170 8 8 := ⟨_, _, Try.t166, Try.underlying170, rfl, rfl, by kernel_rfl, by decide⟩
instance : Fld Try.prog 170 9 9 := ⟨_, _, Try.t167, Try.underlying170, rfl, rfl, by kernel_rfl, by decide⟩
instance : Fld Try.prog 170 10 10 := ⟨_, _, Try.t168, Try.underlying170, rfl, rfl, by kernel_rfl, by decide⟩
instance : Siz Try.prog 171 1 := ⟨Try.sizeOf171⟩
instance : IsA Try.prog 171 false := ⟨Try.isAgg171⟩
instance : Inf Try.prog 171 1 8 (.pointer none) := ⟨Try.t171, by kernel_rfl, rfl, rfl, rfl⟩
instance : Mth Try.prog 54 "Summary" 18 true := ⟨Try.t54, _, by kernel_rfl, rfl, rfl, rfl⟩
instance : Mth Try.prog 54 "augur/code.interval" 33 true := ⟨Try.t54, _, by kernel_rfl, rfl, rfl, rfl⟩
instance : Mth Try.prog 67 "Done" 28 true := ⟨Try.t67, _, by kernel_rfl, rfl, rfl, rfl⟩
instance : Mth Try.prog 67 "Summary" 27 true := ⟨Try.t67, _, by kernel_rfl, rfl, rfl, rfl⟩
instance : Mth Try.prog 78 "Bool" 32 true := ⟨Try.t78, _, by kernel_rfl, rfl, rfl, rfl⟩
instance : Mth Try.prog 78 "Bytes" 19 true := ⟨Try.t78, _, by kernel_rfl, rfl, rfl, rfl⟩
instance : Mth Try.prog 78 "Int" 31 true := ⟨Try.t78, _, by kernel_rfl, rfl, rfl, rfl⟩
instance : Mth Try.prog 78 "Num" 30 true := ⟨Try.t78, _, by kernel_rfl, rfl, rfl, rfl⟩
instance : Mth Try.prog 78 "Text" 34 true := ⟨Try.t78, _, by kernel_rfl, rfl, rfl, rfl⟩
instance : Mth Try.prog 96 "augur/digest.alarms" 36 true := ⟨Try.t96, _, by kernel_rfl, rfl, rfl, rfl⟩
instance : Mth Try.prog 96 "augur/digest.cells" 37 true := ⟨Try.t96, _, by kernel_rfl, rfl, rfl, rfl⟩
instance : Mth Try.prog 112 "augur/code.bool" 58 true := ⟨Try.t112, _, by kernel_rfl, rfl, rfl, rfl⟩
instance : Mth Try.prog 112 "augur/code.count" 56 true := ⟨Try.t112, _, by kernel_rfl, rfl, rfl, rfl⟩
instance : Mth Try.prog 112 "augur/code.int" 70 true := ⟨Try.t112, _, by kernel_rfl, rfl, rfl, rfl⟩
instance : Mth Try.prog 112 "augur/code.interval" 59 true := ⟨Try.t112, _, by kernel_rfl, rfl, rfl, rfl⟩
instance : Mth Try.prog 112 "augur/code.num" 69 true := ⟨Try.t112, _, by kernel_rfl, rfl, rfl, rfl⟩
instance : Mth Try.prog 112 "augur/code.one" 71 true := ⟨Try.t112, _, by kernel_rfl, rfl, rfl, rfl⟩
instance : Mth Try.prog 112 "augur/code.small" 57 true := ⟨Try.t112, _, by kernel_rfl, rfl, rfl, rfl⟩
instance : Mth Try.prog 112 "augur/code.summary" 42 true := ⟨Try.t112, _, by kernel_rfl, rfl, rfl, rfl⟩
instance : Mth Try.prog 112 "augur/code.text" 60 true := ⟨Try.t112, _, by kernel_rfl, rfl, rfl, rfl⟩
instance : Mth Try.prog 154 "Next" 93 true := ⟨Try.t154, _, by kernel_rfl, rfl, rfl, rfl⟩
instance : Fnc Try.prog 2 := ⟨Try.call2⟩
instance : Fnc Try.prog 3 := ⟨Try.call3⟩
instance : Fnc Try.prog 4 := ⟨Try.call4⟩
instance : Fnc Try.prog 5 := ⟨Try.call5⟩
instance : Fnc Try.prog 6 := ⟨Try.call6⟩
instance : Fnc Try.prog 7 := ⟨Try.call7⟩
instance : Fnc Try.prog 8 := ⟨Try.call8⟩
instance : Fnc Try.prog 9 := ⟨Try.call9⟩
instance : Fnc Try.prog 10 := ⟨Try.call10⟩
instance : Fnc Try.prog 11 := ⟨Try.call11⟩
instance : Fnc Try.prog 12 := ⟨Try.call12⟩
instance : Fnc Try.prog 13 := ⟨Try.call13⟩
instance : Fnc Try.prog 14 := ⟨Try.call14⟩
instance : Fnc Try.prog 15 := ⟨Try.call15⟩
instance : Fnc Try.prog 16 := ⟨Try.call16⟩
instance : Fnc Try.prog 17 := ⟨Try.call17⟩
instance : Fnc Try.prog 18 := ⟨Try.call18⟩
instance : Fnc Try.prog 19 := ⟨Try.call19⟩
instance : Fnc Try.prog 20 := ⟨Try.call20⟩
instance : Fnc Try.prog 21 := ⟨Try.call21⟩
instance : Fnc Try.prog 22 := ⟨Try.call22⟩
instance : Fnc Try.prog 23 := ⟨Try.call23⟩
instance : Fnc Try.prog 24 := ⟨Try.call24⟩
instance : Fnc Try.prog 25 := ⟨Try.call25⟩
instance : Fnc Try.prog 26 := ⟨Try.call26⟩
instance : Fnc Try.prog 27 := ⟨Try.call27⟩
instance : Fnc Try.prog 28 := ⟨Try.call28⟩
instance : Fnc Try.prog 29 := ⟨Try.call29⟩
instance : Fnc Try.prog 30 := ⟨Try.call30⟩
instance : Fnc Try.prog 31 := ⟨Try.call31⟩
instance : Fnc Try.prog 32 := ⟨Try.call32⟩
instance : Fnc Try.prog 33 := ⟨Try.call33⟩
instance : Fnc Try.prog 34 := ⟨Try.call34⟩
instance : Fnc Try.prog 35 := ⟨Try.call35⟩
instance : Fnc Try.prog 36 := ⟨Try.call36⟩
instance : Fnc Try.prog 37 := ⟨Try.call37⟩
instance : Fnc Try.prog 38 := ⟨Try.call38⟩
instance : Fnc Try.prog 39 := ⟨Try.call39⟩
instance : Fnc Try.prog 40 := ⟨Try.call40⟩
instance : Fnc Try.prog 41 := ⟨Try.call41⟩
instance : Fnc Try.prog 42 := ⟨Try.call42⟩
instance : Fnc Try.prog 43 := ⟨Try.call43⟩
instance : Fnc Try.prog 44 := ⟨Try.call44⟩
instance : Fnc Try.prog 45 := ⟨Try.call45⟩
instance : Fnc Try.prog 46 := ⟨Try.call46⟩
instance : Fnc Try.prog 47 := ⟨Try.call47⟩
instance : Fnc Try.prog 48 := ⟨Try.call48⟩
instance : Fnc Try.prog 49 := ⟨Try.call49⟩
instance : Fnc Try.prog 50 := ⟨Try.call50⟩
instance : Fnc Try.prog 51 := ⟨Try.call51⟩
instance : Fnc Try.prog 52 := ⟨Try.call52⟩
instance : Fnc Try.prog 53 := ⟨Try.call53⟩
instance : Fnc Try.prog 54 := ⟨Try.call54⟩
instance : Fnc Try.prog 55 := ⟨Try.call55⟩
instance : Fnc Try.prog 56 := ⟨Try.call56⟩
instance : Fnc Try.prog 57 := ⟨Try.call57⟩
instance : Fnc Try.prog 58 := ⟨Try.call58⟩
instance : Fnc Try.prog 59 := ⟨Try.call59⟩
instance : Fnc Try.prog 60 := ⟨Try.call60⟩
instance : Fnc Try.prog 61 := ⟨Try.call61⟩
instance : Fnc Try.prog 62 := ⟨Try.call62⟩
instance : Fnc Try.prog 63 := ⟨Try.call63⟩
instance : Fnc Try.prog 64 := ⟨Try.call64⟩
instance : Fnc Try.prog 65 := ⟨Try.call65⟩
instance : Fnc Try.prog 66 := ⟨Try.call66⟩
instance : Fnc Try.prog 67 := ⟨Try.call67⟩
instance : Fnc Try.prog 68 := ⟨Try.call68⟩
instance : Fnc Try.prog 69 := ⟨Try.call69⟩
instance : Fnc Try.prog 70 := ⟨Try.call70⟩
instance : Fnc Try.prog 71 := ⟨Try.call71⟩
instance : Fnc Try.prog 72 := ⟨Try.call72⟩
instance : Fnc Try.prog 73 := ⟨Try.call73⟩
instance : Fnc Try.prog 74 := ⟨Try.call74⟩
instance : Fnc Try.prog 75 := ⟨Try.call75⟩
instance : Fnc Try.prog 76 := ⟨Try.call76⟩
instance : Fnc Try.prog 77 := ⟨Try.call77⟩
instance : Fnc Try.prog 78 := ⟨Try.call78⟩
instance : Fnc Try.prog 79 := ⟨Try.call79⟩
instance : Fnc Try.prog 80 := ⟨Try.call80⟩
instance : Fnc Try.prog 81 := ⟨Try.call81⟩
instance : Fnc Try.prog 82 := ⟨Try.call82⟩
instance : Fnc Try.prog 83 := ⟨Try.call83⟩
instance : Fnc Try.prog 84 := ⟨Try.call84⟩
instance : Fnc Try.prog 85 := ⟨Try.call85⟩
instance : Fnc Try.prog 86 := ⟨Try.call86⟩
instance : Fnc Try.prog 87 := ⟨Try.call87⟩
instance : Fnc Try.prog 88 := ⟨Try.call88⟩
instance : Fnc Try.prog 89 := ⟨Try.call89⟩
instance : Fnc Try.prog 90 := ⟨Try.call90⟩
instance : Fnc Try.prog 91 := ⟨Try.call91⟩
instance : Fnc Try.prog 92 := ⟨Try.call92⟩
instance : Fnc Try.prog 93 := ⟨Try.call93⟩
instance : Fnc Try.prog 94 := ⟨Try.call94⟩
instance : Fnc Try.prog 95 := ⟨Try.call95⟩
instance : Fnc Try.prog 96 := ⟨Try.call96⟩
instance : Fnc Try.prog 97 := ⟨Try.call97⟩
instance : Fnc Try.prog 98 := ⟨Try.call98⟩
instance : Fnc Try.prog 99 := ⟨Try.call99⟩
instance : Fnc Try.prog 100 := ⟨Try.call100⟩
instance : Fnc Try.prog 101 := ⟨Try.call101⟩
end Go.Proofs.Ytaibfbakhiainaa

namespace Go.Sh
section stc
variable {P : Program}

/-- A field of one cell is read. -/
theorem oFld {T t : TypeId} {i off : Nat} [Fld P T i off] [IsA P t false] {p x : Value} {cs : List Value} {D : Heap → Prop} {K : Value → Prop}
    (r : ∀ h', D h' → Rd h' p cs) (hp : ∃ a, p = .pointer (some a)) (hx : cs[off]? = some x) (hk : K x) : oFieldAddr P T p i D fun q => oLoad P t q D K := by
  have := oFieldAddr_own (P := P) (t := T) (i := i) (off := off) (p := p) (n := 0) (D := D) (K := fun q => oLoad P t q D K) hp (by rw [Nat.zero_add]; exact oLoad1 r hx hk)
  rwa [padd_zero] at this
/-- A field of several cells. -/
theorem oFldA {T t : TypeId} {i off k : Nat} [Fld P T i off] [IsA P t true] [Siz P t k] {p : Value} {cs : List Value} {D : Heap → Prop} {K : Value → Prop}
    (r : ∀ h', D h' → Rd h' p cs) (hp : ∃ a, p = .pointer (some a)) (hl : off + k ≤ cs.length) (hk : K (.agg ((cs.drop off).take k).toArray)) : oFieldAddr P T p i D fun q => oLoad P t q D K := by
  have := oFieldAddr_own (P := P) (t := T) (i := i) (off := off) (p := p) (n := 0) (D := D) (K := fun q => oLoad P t q D K) hp (by rw [Nat.zero_add]; exact oLoadA r hp hl hk)
  rwa [padd_zero] at this
/-- A whole struct. -/
theorem oLoadAll {t : TypeId} {k : Nat} [IsA P t true] [Siz P t k] {p : Value} {cs : List Value} {D : Heap → Prop} {K : Value → Prop}
    (r : ∀ h', D h' → Rd h' p cs) (hp : ∃ a, p = .pointer (some a)) (hl : cs.length = k) (hk : K (.agg cs.toArray)) : oLoad P t p D K := by
  have := oLoadA (P := P) (t := t) (k := k) (p := p) (cs := cs) (j := 0) (D := D) (K := K) r hp (by omega) (by rw [List.drop_zero, List.take_of_length_le (by omega)]; exact hk)
  rwa [padd_zero] at this
theorem setAt_all : ∀ (pre xs cs : List Value), xs.length = cs.length → setAt (pre ++ cs) pre.length xs = pre ++ xs
  | pre, [], cs, h => by
    have : cs = [] := by simpa using h.symm
    subst this
    rfl
  | pre, x :: xs, [], h => by simp at h
  | pre, x :: xs, c :: cs, h => by
    have h1 := setAt_all (pre ++ [x]) xs cs (by simpa using h)
    simp only [setAt]
    rw [show (pre ++ c :: cs).set pre.length x = (pre ++ [x]) ++ cs from by simp]
    simpa using h1
theorem oStoreAll [Gd] {t : TypeId} {k : Nat} [Siz P t k] {h0 h : Heap} {p : Value} {xs : Array Value} {cs : List Value} {L : List HP} {K : Value → Heap → Prop}
    (s : St h0 h (Cells p cs :: L)) (hl : xs.size = k) (hl2 : cs.length = k) (h1 : ∀ y ∈ xs.toList, one y = true) (g : ∀ h', St h0 h' (Cells p xs.toList :: L) → K undef h') : oStore P t p (.agg xs) h K := by
  have e : setAt cs 0 xs.toList = xs.toList := by
    have := setAt_all [] xs.toList cs (by rw [Array.length_toList]; omega)
    simpa using this
  have := oStoreC (P := P) (t := t) (j := 0) (v := .agg xs) (K := K) s (by simpa [Value.cells] using hl) (by omega) h1 (fun h' s' => g h' (by
    have s2 : St h0 h' (Cells p (setAt cs 0 xs.toList) :: L) := s'
    rwa [e] at s2))
  rwa [padd_zero] at this
theorem oBoxAll [Gd] {t : TypeId} {h0 h : Heap} {L : List HP} {xs : Array Value} {K : Value → Heap → Prop} (s : St h0 h L)
    (g : ∀ p h', (∃ a, p = .pointer (some a)) → St h0 h' (Cells p xs.toList :: L) → K p h') : oBox P t (.agg xs) h K := oBoxC s g
/-- A result in cells. -/
theorem oResA {t : TypeId} {k : Nat} [IsA P t true] [Siz P t k] {p : Value} {cs : List Value} {h : Heap} {K : Value → Heap → Prop}
    (r : Rd h p cs) (hp : ∃ a, p = .pointer (some a)) (hl : cs.length = k) (hk : K (.agg cs.toArray) h) : oRes P [(some t, p)] h K := by
  obtain ⟨a, rfl⟩ := hp
  refine ⟨.agg cs.toArray, fun w hw => nv_run ?_, hk⟩
  have h2 : (loadVar t a).run P w = .ok (.agg cs.toArray) w := by
    have h3 : (loadCells a k).run P w = .ok cs.toArray w := by
      have := run_loadCells (P := P) (w := w) (a := a) cs (fun i x hx => by
        obtain ⟨a', ha', hc⟩ := r.at hx
        simp only [padd, Value.pointer.injEq, Option.some.injEq] at ha'
        rw [ha', ← hw]; exact hc)
      rwa [hl] at this
    simp [loadVar, IsA.run, Siz.run, h3]
  simp [rval, rsem, asAddr, h2]
theorem oRes1 {t : TypeId} [IsA P t false] {p x : Value} {h : Heap} {K : Value → Heap → Prop} (r : Rd h p [x]) (hk : K x h) : oRes P [(some t, p)] h K := by
  obtain ⟨a, ha, hx⟩ := r.at (j := 0) rfl
  rw [padd_zero] at ha
  subst ha
  refine ⟨x, fun w hw => nv_run ?_, hk⟩
  have h2 : (loadVar t a).run P w = .ok x w := run_loadVar1 (by rw [← hw]; exact hx)
  simp [rval, rsem, asAddr, h2]
/-! Slices of structs. -/
section rowk
variable {α : Type} {enc : α → List Value} {k : Nat}
theorem flatK_len (hk : ∀ x, (enc x).length = k) : ∀ l : List α, (l.flatMap enc).length = l.length * k
  | [] => by simp
  | x :: l => by rw [List.flatMap_cons, List.length_append, flatK_len hk l, hk, List.length_cons, Nat.add_mul]; omega
theorem flatK_drop (hk : ∀ x, (enc x).length = k) : ∀ (l : List α) (i : Nat), (l.flatMap enc).drop (i * k) = (l.drop i).flatMap enc
  | l, 0 => by simp
  | [], i + 1 => by simp
  | x :: l, i + 1 => by
    rw [List.flatMap_cons, List.drop_succ_cons, ← flatK_drop hk l i, Nat.add_mul, Nat.one_mul, Nat.add_comm, ← List.drop_drop, List.drop_left' (hk x)]
theorem flatK_take (hk : ∀ x, (enc x).length = k) {l : List α} {i : Nat} {a : α} (hi : l[i]? = some a) : ((l.flatMap enc).drop (i * k)).take k = enc a := by
  obtain ⟨hlt, rfl⟩ := List.getElem?_eq_some_iff.1 hi
  rw [flatK_drop hk, List.drop_eq_getElem_cons hlt, List.flatMap_cons, List.take_left' (hk _)]
theorem flatK_get (hk : ∀ x, (enc x).length = k) {l : List α} {i off : Nat} {a : α} {x : Value} (hi : l[i]? = some a) (hx : (enc a)[off]? = some x) : (l.flatMap enc)[i * k + off]? = some x := by
  have hoff : off < k := by rw [← hk a]; exact (List.getElem?_eq_some_iff.1 hx).1
  rw [← List.getElem?_drop, ← hx, ← flatK_take hk hi, List.getElem?_take, if_pos hoff]
/-- A slice of structs that can be read. -/
def RdK (enc : α → List Value) (h : Heap) (v : Value) (l : List α) : Prop := IsSl v l.length ∧ Rd h (sbase v) (l.flatMap enc)
theorem RdK.ext {h h' : Heap} {v : Value} {l : List α} (r : RdK enc h v l) (he : Ext h h') : RdK enc h' v l := ⟨r.1, r.2.ext he⟩
theorem RdK.nil (enc : α → List Value) (h : Heap) (c : Nat) : RdK enc h (.slice none 0 c) [] := ⟨⟨_, _, rfl⟩, Rd.nil _ _⟩
theorem St.rdK (hk : ∀ x, (enc x).length = k) (h0' : 0 < k) {h0 h : Heap} {v : Value} {n : Nat} {l : List α} {L : List HP} (s : St h0 h (Row k v n (l.flatMap enc) :: L)) : RdK enc h v l := by
  obtain ⟨h1, h2, h3⟩ := s.row
  rw [flatK_len hk] at h2
  have : n = l.length := (Nat.eq_of_mul_eq_mul_right h0' h2).symm
  subst this
  exact ⟨h1, h3⟩
/-- One element, whole. -/
theorem oGetK {t e : TypeId} [Und P t (.slice e)] [Siz P e k] [IsA P e true] {v : Value} {l : List α} {i : Nat} {a : α} {ik : IntKind} {h : Heap} {D : Heap → Prop} {K : Value → Prop} (hk : ∀ x, (enc x).length = k) (h0 : 0 < k)
    (hr : RdK enc h v l) (hD : ∀ h', D h' → Ext h h') (hi : l[i]? = some a) (hK : K (.agg (enc a).toArray)) : oIdx P t v (.int ik i) fun p => oLoad P e p D K := by
  have hlt : i < l.length := (List.getElem?_eq_some_iff.1 hi).1
  have hpos : 0 < (l.flatMap enc).length := by
    rw [flatK_len hk]
    exact Nat.mul_pos (by omega) h0
  rw [oIdx_sl hr.1 (hr.2.nz hpos) (by omega) (by omega), Int.toNat_natCast]
  refine oLoadA (cs := l.flatMap enc) (fun h' hd => hr.2.ext (hD h' hd)) (hr.2.ptr hpos) ?_ ?_
  · rw [flatK_len hk]
    have : (i + 1) * k ≤ l.length * k := Nat.mul_le_mul_right _ (by omega)
    rw [Nat.add_mul] at this
    omega
  · rw [flatK_take hk hi]; exact hK
/-- A field of one element. -/
theorem oGetKF {t e u : TypeId} {f off : Nat} [Und P t (.slice e)] [Siz P e k] [Fld P e f off] [IsA P u false] {v x : Value} {l : List α} {i : Nat} {a : α} {ik : IntKind} {h : Heap} {D : Heap → Prop} {K : Value → Prop} (hk : ∀ x, (enc x).length = k) (h0 : 0 < k)
    (hr : RdK enc h v l) (hD : ∀ h', D h' → Ext h h') (hi : l[i]? = some a) (hx : (enc a)[off]? = some x) (hK : K x) : oIdx P t v (.int ik i) fun p => oFieldAddr P e p f D fun q => oLoad P u q D K := by
  have hlt : i < l.length := (List.getElem?_eq_some_iff.1 hi).1
  have hpos : 0 < (l.flatMap enc).length := by
    rw [flatK_len hk]
    exact Nat.mul_pos (by omega) h0
  rw [oIdx_sl hr.1 (hr.2.nz hpos) (by omega) (by omega), Int.toNat_natCast]
  exact oFieldAddr_own (hr.2.ptr hpos) (oLoad1 (cs := l.flatMap enc) (fun h' hd => hr.2.ext (hD h' hd)) (flatK_get hk hi hx) hK)
/-- 'append(v, x)', a struct. -/
theorem oPushK [Gd] {t e ty : TypeId} {b : Nat} {z : Value} [Und P t (.slice e)] [Inf P e k b z] (hk : ∀ x, (enc x).length = k) (h0' : 0 < k) (hk2 : k ≤ 16777216) {h0 h : Heap} {v : Value} {l : List α} {x : α} {L : List HP} {K : Value → Heap → Prop}
    (s : St h0 h (Row k v l.length (l.flatMap enc) :: L)) (hx : ∀ y ∈ enc x, one y = true) (hz : z.cells.size = k) (hb : (l.length + 1) * b ≤ 140737488355328) (hb2 : l.length + 1 ≤ 4611686018427387904)
    (g : ∀ v' h', St h0 h' (Row k v' (l ++ [x]).length ((l ++ [x]).flatMap enc) :: L) → K v' h') : oBuildSlice P t 1 #[(0, .agg (enc x).toArray)] h fun u h1 => oAppend P #[t, t] ty #[v, u] h1 K := by
  refine oBuild1 s (by simpa [Value.cells] using hk x) hz h0' hk2 fun u h1 s1 => ?_
  obtain ⟨hu, _, hur⟩ := s1.row
  have e0 : (Value.agg (enc x).toArray).cells.toList = enc x := by simp [Value.cells]
  rw [e0] at hur
  refine oAppendR (cs := l.flatMap enc) (xs := enc x) (m := 1) s1.swap hz h0' hu (by rw [hk]; omega) hur hx hb hb2 fun v' h2 s2 => g v' h2 ?_
  have := s2.swap.drop
  simpa using this
end rowk
end stc
end Go.Sh
namespace Go.Sh
section cm
variable {P : Program} {α : Type}

def get {β : Type} (e : List (Str × β)) (k : Str) : Option β :=
  match e with
  | [] => none
  | (k', x) :: e => if k' = k then some x else get e k
def put {β : Type} (e : List (Str × β)) (k : Str) (x : β) : List (Str × β) :=
  match e with
  | [] => [(k, x)]
  | (k', y) :: e => if k' = k then (k, x) :: e else (k', y) :: put e k x
theorem look_get : ∀ (m : List (Str × Value)) (k : Str), look m k = get m k
  | [], _ => rfl
  | (k', x) :: m, k => by
    unfold look get
    split
    · rfl
    · exact look_get m k
theorem ups_put : ∀ (m : List (Str × Value)) (k : Str) (x : Value), ups m k x = put m k x
  | [], _, _ => rfl
  | (k', y) :: m, k, x => by
    unfold ups put
    split
    · rfl
    · rw [ups_put m k x]
theorem get_isSome {β : Type} (k : Str) : ∀ (m : List (Str × β)), (get m k).isSome ↔ k ∈ m.map (·.1)
  | [] => by simp [get]
  | (k', x) :: m => by
    unfold get
    split
    · rename_i h; subst h; simp
    · rename_i h
      rw [get_isSome k m]
      simp only [List.map_cons, List.mem_cons]
      exact ⟨.inr, fun h' => h'.resolve_left fun e => h e.symm⟩
theorem get_put {β : Type} (k : Str) (x : β) (j : Str) : ∀ (m : List (Str × β)), get (put m k x) j = if k = j then some x else get m j
  | [] => by simp [put, get]
  | (k', y) :: m => by
    unfold put
    split
    · rename_i h; subst h
      simp only [get]
      split <;> rfl
    · rename_i h
      simp only [get, get_put k x j m]
      split
      · rename_i h2; subst h2
        rw [if_neg (fun e => h e.symm)]
      · rfl
theorem put_keys {β : Type} (k : Str) (x : β) : ∀ (m : List (Str × β)), (put m k x).map (·.1) = if k ∈ m.map (·.1) then m.map (·.1) else m.map (·.1) ++ [k]
  | [] => by simp [put]
  | (k', y) :: m => by
    unfold put
    split
    · rename_i h; subst h; simp
    · rename_i h
      simp only [List.map_cons, put_keys k x m, List.mem_cons]
      by_cases hm : k ∈ m.map (·.1)
      · rw [if_pos hm, if_pos (.inr hm)]
      · rw [if_neg hm, if_neg (fun h' => h'.elim (fun e => h e.symm) hm)]
        rfl

/-- A map that can be read, each value by E. -/
def RdMp (E : Heap → Value → α → Prop) (h : Heap) (v : Value) (e : List (Str × α)) : Prop :=
  ∃ m st c, RdM h v m st c ∧ m.map (·.1) = e.map (·.1) ∧ ∀ k x, look m k = some x → ∃ a, get e k = some a ∧ E h x a
theorem RdMp.ext {E : Heap → Value → α → Prop} {h h' : Heap} {v : Value} {e : List (Str × α)} (r : RdMp E h v e) (hE : ∀ x a, E h x a → E h' x a) (he : Ext h h') : RdMp E h' v e := by
  obtain ⟨m, st, c, h1, h2, h3⟩ := r
  exact ⟨m, st, c, h1.ext he, h2, fun k x hx => by obtain ⟨a, ha, hE'⟩ := h3 k x hx; exact ⟨a, ha, hE x a hE'⟩⟩
theorem RdMp.nodup {E : Heap → Value → α → Prop} {h : Heap} {v : Value} {e : List (Str × α)} (r : RdMp E h v e) : (e.map (·.1)).Nodup := by
  obtain ⟨m, st, c, ⟨hok, _⟩, h2, _⟩ := r
  rw [← h2]; exact hok.keys
theorem look_none_iff {m : List (Str × Value)} {e : List (Str × α)} (hk : m.map (·.1) = e.map (·.1)) (k : Str) : look m k = none ↔ get e k = none := by
  have h1 := get_isSome k m
  have h2 := get_isSome k e
  rw [hk, ← h2] at h1
  rw [look_get]
  cases h : get m k <;> cases h' : get e k <;> simp_all
/-- 'e[k]'. -/
theorem oLookMp {t kt et : TypeId} {kk bb : Nat} {z : Value} [Und P t (.map kt et)] [Und P kt .string] [Inf P et kk bb z] {E : Heap → Value → α → Prop} {h h' : Heap} {v : Value} {e : List (Str × α)} {k : Str} {K : Value → Prop} {d : α}
    (r : RdMp E h v e) (he : Ext h h') (hz : E h z d) (hk : ∀ x, E h x ((get e k).getD d) → K x) : oLook P t v (str k) false (Eq h') K := by
  obtain ⟨m, st, c, h1, h2, h3⟩ := r
  refine oLook_val (m := m) (by rintro _ rfl; exact ⟨st, c, h1.ext he⟩) (hk _ ?_)
  cases hl : look m k with
  | none => rw [(look_none_iff h2 k).1 hl]; exact hz
  | some x =>
    obtain ⟨a, ha, hE⟩ := h3 k x hl
    rw [ha]; exact hE
/-- 'x, is := e[k]'. -/
theorem oLookMp2 {t kt et : TypeId} {kk bb : Nat} {z : Value} [Und P t (.map kt et)] [Und P kt .string] [Inf P et kk bb z] {E : Heap → Value → α → Prop} {h h' : Heap} {v : Value} {e : List (Str × α)} {k : Str} {K : Value → Prop} {d : α}
    (r : RdMp E h v e) (he : Ext h h') (hz : E h z d) (hk : ∀ x, E h x ((get e k).getD d) → K (.tuple #[x, .bool (get e k).isSome])) : oLook P t v (str k) true (Eq h') K := by
  obtain ⟨m, st, c, h1, h2, h3⟩ := r
  refine oLook_val (m := m) (by rintro _ rfl; exact ⟨st, c, h1.ext he⟩) ?_
  cases hl : look m k with
  | none =>
    have := (look_none_iff h2 k).1 hl
    have h4 := hk z (by rw [this]; exact hz)
    rw [this] at h4; exact h4
  | some x =>
    obtain ⟨a, ha, hE⟩ := h3 k x hl
    have h4 := hk x (by rw [ha]; exact hE)
    rw [ha] at h4; exact h4
/-- 'len(e)'. -/
theorem oLenMp {t ty kt et : TypeId} [Und P t (.map kt et)] {E : Heap → Value → α → Prop} {h : Heap} {v : Value} {e : List (Str × α)} {K : Value → Prop}
    (r : RdMp E h v e) (hk : K (.int .i64 e.length)) : oLenM P #[t] ty v (Eq h) K := by
  obtain ⟨m, st, c, h1, h2, h3⟩ := r
  have hl : m.length = e.length := by simpa using congrArg List.length h2
  exact oLenM_rd (m := m) (by rintro _ rfl; exact ⟨st, c, h1⟩) (by rw [hl]; exact hk)

end cm
end Go.Sh
