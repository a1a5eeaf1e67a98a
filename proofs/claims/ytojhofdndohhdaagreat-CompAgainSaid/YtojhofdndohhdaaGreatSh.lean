/- The walking layer: from a shallow form of a function (a term over values and heaps) to the model's own run: definitions, rules, no program. -/
import Derived.WalkKit
import Derived.Deep.Quiet
import Derived.StillTail
namespace Go.Sh

abbrev Heap := Array Obj

/-- Is it told that draws are counted upwards? -/
class Gd where
  g : Prop
  /-- Where a panic may leave the heap. -/
  pn : Value → Heap → Prop := fun _ _ => False

/-- What a walk never turns. -/
structure SameWg (g : Prop) (w w' : World) : Prop where
  os : w'.os = w.os
  tape : w'.tape = w.tape
  output : w'.output = w.output
  drawn : g → w.drawn ≤ w'.drawn
abbrev SameW [Gd] (w w' : World) : Prop := SameWg Gd.g w w'
theorem SameWg.trans {g : Prop} {a b c : World} (h : SameWg g a b) (k : SameWg g b c) : SameWg g a c :=
  ⟨k.os.trans h.os, k.tape.trans h.tape, k.output.trans h.output, fun x => Nat.le_trans (h.drawn x) (k.drawn x)⟩

theorem SameW.refl [Gd] (w : World) : SameW w w := ⟨rfl, rfl, rfl, fun _ => Nat.le_refl _⟩
theorem SameW.trans [Gd] {a b c : World} (h : SameW a b) (k : SameW b c) : SameW a c :=
  ⟨k.os.trans h.os, k.tape.trans h.tape, k.output.trans h.output, fun g => Nat.le_trans (h.drawn g) (k.drawn g)⟩

/-- How a call may end. -/
def EndOk [Gd] (w : World) (K : Value → Heap → Prop) (e : Ending) (w' : World) : Prop :=
  (∃ v, e = .returned v ∧ SameW w w' ∧ K v w'.heap) ∨ ∃ x, e = .panicked [{ v := x, recovered := false }] ∧ SameW w w' ∧ Gd.pn x w'.heap
/-- The call of a function by heaps alone. -/
def HC [Gd] (P : Program) (f : FuncId) (args : Array Value) (h : Heap) (K : Value → Heap → Prop) : Prop :=
  ∀ w : World, w.heap = h → Calls P f args w (EndOk w K)
/-- The same where nothing panics. -/
@[reducible] def Gd.no (G : Gd) : Gd := ⟨G.g, fun _ _ => False⟩
def HCn [G : Gd] (P : Program) (f : FuncId) (args : Array Value) (h : Heap) (K : Value → Heap → Prop) : Prop := @HC G.no P f args h K
theorem SameW.no [G : Gd] {w w' : World} (h : @SameW G.no w w') : SameW w w' := h
theorem SameW.toNo [G : Gd] {w w' : World} (h : SameW w w') : @SameW G.no w w' := h
theorem EndOk.ret [Gd] {w w' : World} {K : Value → Heap → Prop} {v : Value} (hs : SameW w w') (hk : K v w'.heap) : EndOk w K (.returned v) w' := .inl ⟨v, rfl, hs, hk⟩
theorem HC.of_ret [Gd] {P : Program} {f : FuncId} {args : Array Value} {h : Heap} {K : Value → Heap → Prop}
    (hc : ∀ w : World, w.heap = h → Calls P f args w fun e w' => ∃ v, e = .returned v ∧ SameW w w' ∧ K v w'.heap) : HC P f args h K :=
  fun w hw => (hc w hw).mono fun _ _ h => .inl h
theorem HCn.calls [Gd] {P : Program} {f : FuncId} {args : Array Value} {h : Heap} {K : Value → Heap → Prop} (hc : HCn P f args h K) :
    ∀ w : World, w.heap = h → Calls P f args w fun e w' => ∃ v, e = .returned v ∧ SameW w w' ∧ K v w'.heap :=
  fun w hw => (hc w hw).mono fun _ _ h => h.elim (fun ⟨v, he, hs, hv⟩ => ⟨v, he, hs.no, hv⟩) fun ⟨_, _, _, h⟩ => h.elim
theorem HC.calls [Gd] (hn : ∀ x h, ¬ Gd.pn x h) {P : Program} {f : FuncId} {args : Array Value} {h : Heap} {K : Value → Heap → Prop} (hc : HC P f args h K) :
    ∀ w : World, w.heap = h → Calls P f args w fun e w' => ∃ v, e = .returned v ∧ SameW w w' ∧ K v w'.heap :=
  fun w hw => (hc w hw).mono fun _ _ h => h.elim id fun ⟨_, _, _, h⟩ => (hn _ _ h).elim
theorem HCn.hc [Gd] {P : Program} {f : FuncId} {args : Array Value} {h : Heap} {K : Value → Heap → Prop} (hc : HCn P f args h K) : HC P f args h K :=
  HC.of_ret hc.calls


theorem HC.mono [Gd] {P : Program} {f : FuncId} {args : Array Value} {h : Heap} {K K' : Value → Heap → Prop}
    (hc : HC P f args h K) (hk : ∀ v h', K v h' → K' v h') : HC P f args h K' :=
  fun w hw => (hc w hw).mono fun _ _ h => h.imp (fun ⟨v, he, hs, hv⟩ => ⟨v, he, hs, hk _ _ hv⟩) id

/-- What an operation may come to. -/
def NextOk [Gd] (P : Program) (K : Value → Heap → Prop) (w : World) : Result Next → Prop
  | .ok (.value v) w' => SameW w w' ∧ K v w'.heap
  | .ok .skip w' => SameW w w' ∧ K undef w'.heap
  | .ok (.enter f args) w' => SameW w w' ∧ HC P f args w'.heap K
  | .halt (.panic x) w' => SameW w w' ∧ Gd.pn x w'.heap
  | _ => False

/-- An operation that may turn the heap. -/
def Sx [Gd] (P : Program) (s : Sem Next) (h : Heap) (K : Value → Heap → Prop) : Prop :=
  ∀ w : World, w.heap = h → NextOk P K w (s.run P w)

/-- An operation that looks at nothing but its operands. -/
def Sp (P : Program) (s : Sem Next) (K : Value → Prop) : Prop :=
  ∃ v, (∀ w, s.run P w = .ok (.value v) w) ∧ K v

/-- An operation that reads, the same in each heap of a class. -/
def Sq (P : Program) (D : Heap → Prop) (s : Sem Next) (K : Value → Prop) : Prop :=
  ∃ v, (∀ w : World, D w.heap → s.run P w = .ok (.value v) w) ∧ K v

/-- A call that answers the same in each heap of a class, and leaves a heap of the class. -/
def Sc [Gd] (P : Program) (D : Heap → Prop) (s : Sem Next) (K : Value → Prop) : Prop :=
  ∃ v, (∀ w : World, D w.heap → ∃ f args, s.run P w = .ok (.enter f args) w ∧ HCn P f args w.heap fun u h' => u = v ∧ D h') ∧ K v

/-- A value as an operation's outcome. -/
def nv (s : Sem Value) : Sem Next := do pure (.value (← s))
/-- An operation without a value. -/
def nu (s : Sem Unit) : Sem Next := do s; pure .skip

def cond (v : Value) (A B : Prop) : Prop :=
  match v with
  | .bool true => A
  | .bool false => B
  | _ => False

/-- A place where ways meet: what is asked there, under a name. -/
def join {κ : Type} (k : κ) (B : κ → Prop) : Prop := B k

/-- The frame. -/
def upd (f : Nat → Value) (i : Nat) (v : Value) : Nat → Value := fun j => bif Nat.beq j i then v else f j
def mkD (ds : List Deferred) (n : Nat) (f : Nat → Value) : Act := ⟨((List.range n).map f).toArray, ds⟩
abbrev mk (n : Nat) (f : Nat → Value) : Act := mkD [] n f
/-- What stands behind a step takes panics. -/
class PnOk [Gd] (ds : List Deferred) (Q : Exit → Act → World → Prop) (w0 : outParam World) (A : outParam (Nat → (Nat → Value) → Prop)) : Prop where
  pn : ∀ x n f w, A n f → SameW w0 w → Gd.pn x w.heap → Q (.panic [{ v := x, recovered := false }]) (mkD ds n f) w
variable {ds : List Deferred}
def evf (n : Nat) (f : Nat → Value) : Operand → Value
  | .tmp t => bif Nat.blt t n then f t else undef
  | .const v => v
  | .global g => .pointer (some ⟨g, 0, none⟩)
  | .func f => .func (.func f) #[] #[]

theorem mk_eval (n : Nat) (f : Nat → Value) : (mkD ds n f).eval = evf n f := by
  funext x
  cases x with
  | tmp t =>
    simp only [Act.eval, evf, mkD]
    by_cases h : t < n
    · have : Nat.blt t n = true := by simpa [Nat.blt_eq] using h
      simp [h, this]
    · have : Nat.blt t n = false := by simpa [← Bool.not_eq_true, Nat.blt_eq] using h
      simp [h, this]
  | const v => rfl
  | global g => rfl
  | func f => rfl

theorem mk_put (n : Nat) (f : Nat → Value) (d : Nat) (v : Value) : (mkD ds n f).put (some d) v = mkD ds n (upd f d v) := by
  simp only [Act.put, mkD]
  congr 1
  apply Array.ext
  · simp
  · intro i h1 h2
    simp at h1
    simp only [List.getElem_toArray, List.getElem_map, List.getElem_range, upd]
    by_cases hd : d = i
    · subst hd; simp
    · have : Nat.beq i d = false := by simpa [← Bool.not_eq_true, Nat.beq_eq] using fun h => hd h.symm
      simp [hd, this]

theorem mk_put_none (n : Nat) (f : Nat → Value) (v : Value) : (mkD ds n f).put none v = mkD ds n f := rfl

theorem mk_get (n : Nat) (f : Nat → Value) (d : Nat) (h : d < n) : (mkD ds n f).tmps[d]? = some (f d) := by
  simp [mkD, h]

theorem mk_getD (n : Nat) (f : Nat → Value) (d : Nat) (h : Nat.blt d n = true) : (mkD ds n f).tmps.getD d undef = f d := by
  have h' : d < n := by simpa [Nat.blt_eq] using h
  simp [mkD, h']

/-! ### Operations in the order of the text -/
section list
variable {P : Program} {ops : Array Oper} {Q : Exit → Act → World → Prop} {n : Nat} {f : Nat → Value} {w : World} {rest : List Oper} {o : Oper} {h : Heap}

theorem list_of_upon (hg : Region.wanted o (yielded ops (mkD ds n f).tmps) = true)
    (h : o.upon P (mkD ds n f) (wpList P ops Q rest) Q ((execOp (evf n f) o).run P w)) : wpList P ops Q (o :: rest) (mkD ds n f) w := by
  unfold wpList
  rw [if_pos hg]
  refine .inl ?_
  unfold Oper.wp
  rw [mk_eval]
  exact h

theorem wanted_none {a : Act} (hg : o.guard = none) : Region.wanted o (yielded ops a.tmps) = true := by simp [Region.wanted, hg]

theorem wanted_of {j d : Nat} {b want : Bool} (hg : o.guard = some (j, want)) (hd : (ops[j]?).bind (·.dst) = some d) (hn : Nat.blt d n = true) (hv : f d = .bool b) :
    Region.wanted o (yielded ops (mkD ds n f).tmps) = (b == want) := by
  have hn' : d < n := by simpa [Nat.blt_eq] using hn
  simp [Region.wanted, hg, yielded, hd, mk_get n f d hn', hv]
theorem wanted_yes {j d : Nat} {want : Bool} (hg : o.guard = some (j, want)) (hd : (ops[j]?).bind (·.dst) = some d) (hn : Nat.blt d n = true) (hv : f d = .bool want) :
    Region.wanted o (yielded ops (mkD ds n f).tmps) = true := by rw [wanted_of hg hd hn hv]; simp
theorem wanted_no {j d : Nat} {want : Bool} (hg : o.guard = some (j, want)) (hd : (ops[j]?).bind (·.dst) = some d) (hn : Nat.blt d n = true) (hv : f d = .bool (!want)) :
    Region.wanted o (yielded ops (mkD ds n f).tmps) = false := by rw [wanted_of hg hd hn hv]; cases want <;> rfl
theorem wanted_noT {j d : Nat} (hg : o.guard = some (j, true)) (hd : (ops[j]?).bind (·.dst) = some d) (hn : Nat.blt d n = true) (hv : f d = .bool false) :
    Region.wanted o (yielded ops (mkD ds n f).tmps) = false := by rw [wanted_of hg hd hn hv]; rfl
theorem wanted_noF {j d : Nat} (hg : o.guard = some (j, false)) (hd : (ops[j]?).bind (·.dst) = some d) (hn : Nat.blt d n = true) (hv : f d = .bool true) :
    Region.wanted o (yielded ops (mkD ds n f).tmps) = false := by rw [wanted_of hg hd hn hv]; rfl
theorem wanted_undef {j d : Nat} {want : Bool} (hg : o.guard = some (j, want)) (hd : (ops[j]?).bind (·.dst) = some d) (hn : Nat.blt d n = true) (hv : f d = undef) :
    Region.wanted o (yielded ops (mkD ds n f).tmps) = false := by
  have hn' : d < n := by simpa [Nat.blt_eq] using hn
  simp [Region.wanted, hg, yielded, hd, mk_get n f d hn', hv, undef]

/-- A move. -/
theorem stepM {d : Nat} {x : Operand} {v : Value} (hop : o.op = .move x ∨ o.op = .assign x) (hg : Region.wanted o (yielded ops (mkD ds n f).tmps) = true) (hd : o.dst = some d)
    (hv : evf n f x = v) (k : wpList P ops Q rest (mkD ds n (upd f d v)) w) : wpList P ops Q (o :: rest) (mkD ds n f) w := by
  refine list_of_upon hg ?_
  have : (execOp (evf n f) o).run P w = .ok (.value v) w := by
    rcases hop with h | h <;> simp [execOp, h, hv]
  rw [this, Oper.upon_value, hd, mk_put]
  exact k

theorem stepP {d : Nat} {K : Value → Prop} {s : Sem Next} (he : execOp (evf n f) o = s) (hs : Sp P s K) (hg : Region.wanted o (yielded ops (mkD ds n f).tmps) = true) (hd : o.dst = some d)
    (k : ∀ v, K v → wpList P ops Q rest (mkD ds n (upd f d v)) w) : wpList P ops Q (o :: rest) (mkD ds n f) w := by
  subst he
  obtain ⟨v, hr, hk⟩ := hs
  refine list_of_upon hg ?_
  rw [hr w, Oper.upon_value, hd, mk_put]
  exact k v hk

theorem stepQ {d : Nat} {K : Value → Prop} {s : Sem Next} (he : execOp (evf n f) o = s) (hs : Sq P (Eq h) s K) (hw : w.heap = h) (hg : Region.wanted o (yielded ops (mkD ds n f).tmps) = true) (hd : o.dst = some d)
    (k : ∀ v, K v → wpList P ops Q rest (mkD ds n (upd f d v)) w) : wpList P ops Q (o :: rest) (mkD ds n f) w := by
  subst he
  obtain ⟨v, hr, hk⟩ := hs
  refine list_of_upon hg ?_
  rw [hr w hw.symm, Oper.upon_value, hd, mk_put]
  exact k v hk

theorem upon_of_next [Gd] {a : Act} {next : Act → World → Prop} {K : Value → Heap → Prop} {r : Result Next} (hs : NextOk P K w r)
    (k : ∀ v w', SameW w w' → K v w'.heap → next (a.put o.dst v) w') {w0 : World} {A : Nat → (Nat → Value) → Prop} {n : Nat} {f : Nat → Value} (ha : a = mkD ds n f) (hp : PnOk ds Q w0 A) (h0 : SameW w0 w) (hA : A n f) : o.upon P a next Q r := by
  match r, hs with
  | .ok (.value v) w', hs => exact k v w' hs.1 hs.2
  | .ok .skip w', hs => exact k undef w' hs.1 hs.2
  | .ok (.enter f args) w', hs =>
    show Calls P f args w' _
    refine (hs.2 w' rfl).mono fun e w'' he => ?_
    rcases he with ⟨v, rfl, hs', hv⟩ | ⟨x, rfl, hs', hx⟩
    · exact k v w'' (hs.1.trans hs') hv
    · subst ha; exact hp.pn x n _ w'' hA (h0.trans (hs.1.trans hs')) hx
  | .halt (.panic x) w', hs => subst ha; exact hp.pn x n _ w' hA (h0.trans hs.1) hs.2

theorem stepX [Gd] {d : Nat} {K : Value → Heap → Prop} {s : Sem Next} (he : execOp (evf n f) o = s) (hs : Sx P s h K) (hw : w.heap = h) (hg : Region.wanted o (yielded ops (mkD ds n f).tmps) = true) (hd : o.dst = some d)
    (k : ∀ v h' w', w'.heap = h' → SameW w w' → K v h' → wpList P ops Q rest (mkD ds n (upd f d v)) w') {w0 : World} {A : Nat → (Nat → Value) → Prop} [hpn : PnOk ds Q w0 A] (hs0 : SameW w0 w := by assumption) (hA0 : A n f := by first | exact True.intro | exact ⟨rfl, rfl, rfl, trivial⟩ | exact ⟨rfl, rfl, rfl, rfl, rfl, rfl, rfl, rfl, rfl, trivial⟩) : wpList P ops Q (o :: rest) (mkD ds n f) w := by
  subst he
  refine list_of_upon hg (upon_of_next (hs w hw) (fun v w' h1 h2 => ?_) rfl hpn hs0 hA0)
  rw [hd, mk_put]
  exact k v _ w' rfl h1 h2

theorem stepU [Gd] {K : Value → Heap → Prop} {s : Sem Next} (he : execOp (evf n f) o = s) (hs : Sx P s h K) (hw : w.heap = h) (hg : Region.wanted o (yielded ops (mkD ds n f).tmps) = true) (hd : o.dst = none)
    (k : ∀ v h' w', w'.heap = h' → SameW w w' → K v h' → wpList P ops Q rest (mkD ds n f) w') {w0 : World} {A : Nat → (Nat → Value) → Prop} [hpn : PnOk ds Q w0 A] (hs0 : SameW w0 w := by assumption) (hA0 : A n f := by first | exact True.intro | exact ⟨rfl, rfl, rfl, trivial⟩ | exact ⟨rfl, rfl, rfl, rfl, rfl, rfl, rfl, rfl, rfl, trivial⟩) : wpList P ops Q (o :: rest) (mkD ds n f) w := by
  subst he
  refine list_of_upon hg (upon_of_next (hs w hw) (fun v w' h1 h2 => ?_) rfl hpn hs0 hA0)
  rw [hd]
  exact k v _ w' rfl h1 h2

/-- An operation that its guard shuts out. -/
theorem stepSkip {d : Nat} (hg : Region.wanted o (yielded ops (mkD ds n f).tmps) = false) (hd : o.dst = some d)
    (k : wpList P ops Q rest (mkD ds n (upd f d undef)) w) : wpList P ops Q (o :: rest) (mkD ds n f) w := by
  unfold wpList
  rw [if_neg (by simp [hg]), hd, mk_put]
  exact k
theorem stepSkip0 (hg : Region.wanted o (yielded ops (mkD ds n f).tmps) = false) (hd : o.dst = none)
    (k : wpList P ops Q rest (mkD ds n f) w) : wpList P ops Q (o :: rest) (mkD ds n f) w := by
  unfold wpList
  rw [if_neg (by simp [hg]), hd]
  exact k
theorem stepEnd {a : Act} (k : Q .normal a w) : wpList P ops Q [] a w := k
end list

/-! ### A region that draws its order, each operation quiet in a class -/
section quiet
variable {P : Program} {ops : Array Oper} {Q : Act → Prop} {n : Nat} {f : Nat → Value} {w0 : World} {rest : List Oper} {o : Oper} {D : Heap → Prop}

def Cls [Gd] (D : Heap → Prop) (w0 w : World) : Prop := D w.heap ∧ SameW w0 w

theorem region_quiet [Gd] {id : Nat} {QQ : Exit → Act → World → Prop} {a : Act} {w : World} {l : List Oper} (hm : P.follows .mixedOrders = true) (hB : Region.lexB .any l.toArray = true)
    (hD : D w.heap) (h : wpQuiet P l.toArray (Cls D w) (fun a' => ∀ w', D w'.heap → SameW w w' → QQ .normal a' w') l a) : (Code.region id l.toArray true).wp P QQ a w := by
  refine wp_region_quiet (C := Cls D w) hm hB ⟨hD, ⟨rfl, rfl, rfl, fun _ => by first | exact Nat.le_refl _ | exact Nat.le_succ _ | exact Nat.le_add_right _ _⟩⟩ ?_
  have e : (fun a' => ∀ w', Cls D w w' → QQ .normal a' w') = (fun a' => ∀ w', D w'.heap → SameW w w' → QQ .normal a' w') := by
    funext a'; exact propext ⟨fun h w' h1 h2 => h w' ⟨h1, h2⟩, fun h w' ⟨h1, h2⟩ => h w' h1 h2⟩
  rw [e]
  simpa using h

theorem quiet_of [Gd] {d : Nat} {v : Value} (hg : Region.wanted o (yielded ops (mkD ds n f).tmps) = true) (hd : o.dst = some d)
    (hv : ∀ w, Cls D w0 w → Oper.quietUpon P (Cls D w0) w v ((execOp (evf n f) o).run P w))
    (k : wpQuiet P ops (Cls D w0) Q rest (mkD ds n (upd f d v))) : wpQuiet P ops (Cls D w0) Q (o :: rest) (mkD ds n f) := by
  unfold wpQuiet
  rw [if_pos hg]
  refine ⟨v, fun w hw => ?_, ?_⟩
  · unfold Oper.quietAt
    rw [mk_eval]
    exact hv w hw
  · rw [hd, mk_put]; exact k

theorem quietM [Gd] {d : Nat} {x : Operand} {v : Value} (hop : o.op = .move x ∨ o.op = .assign x) (hg : Region.wanted o (yielded ops (mkD ds n f).tmps) = true) (hd : o.dst = some d)
    (hv : evf n f x = v) (k : wpQuiet P ops (Cls D w0) Q rest (mkD ds n (upd f d v))) : wpQuiet P ops (Cls D w0) Q (o :: rest) (mkD ds n f) := by
  refine quiet_of (v := v) hg hd (fun w hw => ?_) k
  have : (execOp (evf n f) o).run P w = .ok (.value v) w := by
    rcases hop with h | h <;> simp [execOp, h, hv]
  rw [this]
  exact ⟨rfl, rfl⟩

theorem quietP [Gd] {d : Nat} {K : Value → Prop} {s : Sem Next} (he : execOp (evf n f) o = s) (hs : Sp P s K) (hg : Region.wanted o (yielded ops (mkD ds n f).tmps) = true) (hd : o.dst = some d)
    (k : ∀ v, K v → wpQuiet P ops (Cls D w0) Q rest (mkD ds n (upd f d v))) : wpQuiet P ops (Cls D w0) Q (o :: rest) (mkD ds n f) := by
  subst he
  obtain ⟨v, hr, hk⟩ := hs
  refine quiet_of (v := v) hg hd (fun w hw => ?_) (k v hk)
  rw [hr w]
  exact ⟨rfl, rfl⟩

theorem quietQ [Gd] {d : Nat} {K : Value → Prop} {s : Sem Next} (he : execOp (evf n f) o = s) (hs : Sq P D s K) (hg : Region.wanted o (yielded ops (mkD ds n f).tmps) = true) (hd : o.dst = some d)
    (k : ∀ v, K v → wpQuiet P ops (Cls D w0) Q rest (mkD ds n (upd f d v))) : wpQuiet P ops (Cls D w0) Q (o :: rest) (mkD ds n f) := by
  subst he
  obtain ⟨v, hr, hk⟩ := hs
  refine quiet_of (v := v) hg hd (fun w hw => ?_) (k v hk)
  rw [hr w hw.1]
  exact ⟨rfl, rfl⟩

theorem quietC [Gd] {d : Nat} {K : Value → Prop} {s : Sem Next} (he : execOp (evf n f) o = s) (hs : Sc P D s K) (hg : Region.wanted o (yielded ops (mkD ds n f).tmps) = true) (hd : o.dst = some d)
    (k : ∀ v, K v → wpQuiet P ops (Cls D w0) Q rest (mkD ds n (upd f d v))) : wpQuiet P ops (Cls D w0) Q (o :: rest) (mkD ds n f) := by
  subst he
  obtain ⟨v, hr, hk⟩ := hs
  refine quiet_of (v := v) hg hd (fun w hw => ?_) (k v hk)
  obtain ⟨g, args, hrun, hc⟩ := hr w hw.1
  rw [hrun]
  refine ⟨rfl, (hc.calls w rfl).mono fun e w'' ⟨u, he, hsame, hu, hD⟩ => ⟨?_, hD, hw.2.trans hsame⟩⟩
  rw [he, hu]

theorem quietSkip [Gd] {d : Nat} (hg : Region.wanted o (yielded ops (mkD ds n f).tmps) = false) (hd : o.dst = some d)
    (k : wpQuiet P ops (Cls D w0) Q rest (mkD ds n (upd f d undef))) : wpQuiet P ops (Cls D w0) Q (o :: rest) (mkD ds n f) := by
  unfold wpQuiet
  rw [if_neg (by simp [hg]), hd, mk_put]
  exact k
end quiet

structure PanicOk (Q : Exit → Act → World → Prop) : Prop where
  ok : ∀ c d v a w, Q (.panic c) (Act.put a d v) w → Q (.panic c) a w

/-! ### A region that draws its order: a head of reads and effects in one forced row, then a tail in one forced row -/
section mix
variable {P : Program} {ops : Array Oper} {Q : Exit → Act → World → Prop} {md : Region.Mode} {C : World → Prop}

def wpAnyM (P : Program) (md : Region.Mode) (ops : Array Oper) (Q : Exit → Act → World → Prop) (C : World → Prop) (n : Nat) (L : Array Bool → Act → World → Prop) : Nat → Array Bool → Act → World → Prop
  | 0, listed, a, w => L listed a w
  | fuel + 1, listed, a, w => Region.ready md ops listed ≠ [] ∧
    ∀ i ∈ Region.ready md ops listed, i < n ∧ wpOp P ops Q i (fun a' w' => C w' ∧ wpAnyM P md ops Q C n L fuel (listed.setIfInBounds i true) a' w') a w

variable {L : Array Bool → Act → World → Prop} {n : Nat}

theorem wpAny_of_M {g : Nat} (hL : ∀ listed a w, L listed a w → wpAny P md ops Q g listed a w) : ∀ (fuel : Nat) (listed : Array Bool) (a : Act) (w : World),
    wpAnyM P md ops Q C n L fuel listed a w → wpAny P md ops Q (fuel + g) listed a w
  | 0, _, _, _, h => by rw [Nat.zero_add]; exact hL _ _ _ h
  | fuel + 1, listed, a, w, h => by
    rw [show fuel + 1 + g = (fuel + g) + 1 from by omega]
    exact ⟨fun h0 => absurd h0 h.1, fun i hi => wpOp_mono (fun a' w' h' => wpAny_of_M hL fuel _ a' w' h'.2) (h.2 i hi).2⟩

def YieldsD (P : Program) (ops : Array Oper) (C : World → Prop) (o : Oper) (v : Value) (a : Act) : Prop :=
  (Region.wanted o (yielded ops a.tmps) = true ∧ ∀ w, C w → (execOp a.eval o).run P w = .ok (.value v) w) ∨
  (Region.wanted o (yielded ops a.tmps) = false ∧ v = undef)

theorem YieldsD.wpOp {i : Nat} {o : Oper} {v : Value} {a : Act} (hi : ops[i]? = some o) (hy : YieldsD P ops C o v a)
    {K : Act → World → Prop} {w : World} (hC : C w) (h : K (a.put o.dst v) w) : wpOp P ops Q i K a w := by
  unfold Go.wpOp
  simp only [hi]
  rcases hy with ⟨hw, hv⟩ | ⟨hw, rfl⟩
  · simp only [hw, if_true, Oper.wp, hv w hC, Oper.upon]; exact .inl h
  · simp only [hw, Bool.false_eq_true, if_false]; exact h

theorem YieldsD.of_same {o : Oper} {v : Value} {a a' : Act} (hy : YieldsD P ops C o v a) (he : execOp a'.eval o = execOp a.eval o)
    (hw : Region.wanted o (yielded ops a'.tmps) = Region.wanted o (yielded ops a.tmps)) : YieldsD P ops C o v a' := by
  unfold YieldsD at *
  rw [he, hw]
  exact hy

theorem wpOp_putD {j : Nat} {oi oj : Oper} {v : Value} (hj : ops[j]? = some oj) (hap : oi.apart ops oj = true)
    (hsi : ∀ cs b, oi.op ≠ .select cs b) (hsj : ∀ cs b, oj.op ≠ .select cs b)
    (hQ : ∀ c a w, Q (.panic c) (a.put oi.dst v) w → Q (.panic c) a w) {K : Act → World → Prop} {a : Act} {w : World}
    (hy : YieldsD P ops C oi v a) (h : wpOp P ops Q j K (a.put oi.dst v) w) :
    wpOp P ops Q j (fun a' w' => YieldsD P ops C oi v a' ∧ K (a'.put oi.dst v) w') a w := by
  obtain ⟨h1, h2, h3⟩ := Oper.apart_spec hap
  have keep : ∀ (a : Act), YieldsD P ops C oi v a → ∀ u, YieldsD P ops C oi v (a.put oj.dst u) := fun a hy u =>
    hy.of_same (execOp_put oi hsi a oj.dst u h3) (wanted_put oi a oj.dst u h3)
  have keepD : ∀ d, YieldsD P ops C oi v { a with defers := d :: a.defers } := fun d => hy.of_same rfl rfl
  unfold wpOp at *
  simp only [hj] at *
  rw [wanted_put oj a oi.dst v h1] at h
  split
  · rename_i hw
    simp only [hw, if_true] at h
    rcases h with h | ⟨hasks, hlets⟩
    case inr => exact .inr ⟨by unfold Oper.asks at *; rw [execOp_put oj hsj a oi.dst v h1] at hasks; exact hasks, hlets⟩
    refine .inl ?_
    unfold Oper.wp at *
    rw [execOp_put oj hsj a oi.dst v h1] at h
    generalize (execOp a.eval oj).run P w = r at *
    cases r with
    | ok n w' =>
      cases n <;> simp only [Oper.upon] at h ⊢
      case value u => exact ⟨keep a hy u, by rw [← Act.put_comm a v u h2]; exact h⟩
      case skip => exact ⟨keep a hy _, by rw [← Act.put_comm a v undef h2]; exact h⟩
      case defer d =>
        refine ⟨keep _ (keepD d) _, ?_⟩
        rw [← Act.put_comm _ v undef h2, ← Act.put_defers]
        exact h
      case enter f args =>
        refine Calls.mono h fun e w'' he => ?_
        cases e with
        | returned u => exact ⟨keep a hy u, by rw [← Act.put_comm a v u h2]; exact he⟩
        | panicked c => exact hQ _ _ _ he
        | outgrown => exact he
      case row row args => exact Rows.mono h fun u w'' he => ⟨keep a hy u, by rw [← Act.put_comm a v u h2]; exact he⟩
    | halt x w' =>
      cases x <;> simp only [Oper.upon] at h ⊢
      case panic u => exact hQ _ _ _ h
  · rename_i hw
    simp only [hw] at h
    exact ⟨keep a hy _, by rw [← Act.put_comm a v undef h2]; exact h⟩

theorem wpAnyM_first {i : Nat} {oi : Oper} {v : Value} (hi : ops[i]? = some oi) (hsel : ∀ (j : Nat) (o : Oper) cs b, ops[j]? = some o → o.op ≠ .select cs b)
    (hQ : ∀ c a w, Q (.panic c) (a.put oi.dst v) w → Q (.panic c) a w)
    (hs : Region.sinkB md ops n = true) (hc : Region.chainB md ops n = true) (hn : n < ops.size) (hin : i < n)
    (hdone : ∀ listed a w, L listed a w → ∀ j ∈ Region.ready md ops listed, n ≤ j) :
    ∀ (fuel : Nat) (listed : Array Bool) (a : Act) (w : World), HeadInv md ops n listed →
      (∀ j oj, ops[j]? = some oj → j ≠ i → listed.getD j true = false → (∀ e ∈ oj.after, Region.binds md e = true → e.on ≠ i) → oi.apart ops oj = true) →
      i ∈ Region.ready md ops listed → YieldsD P ops C oi v a → C w →
      wpAnyM P md ops Q C n L fuel (listed.setIfInBounds i true) (a.put oi.dst v) w → wpAnyM P md ops Q C n L (fuel + 1) listed a w := by
  intro fuel
  induction fuel with
  | zero =>
    intro listed a w inv _ hr hy hC H
    have hun := (mem_ready.1 hr).1
    refine ⟨fun h => (by rw [h] at hr; cases hr), fun j hj => ?_⟩
    have hjn : j < n := by
      rcases Nat.lt_or_ge j n with h | h
      · exact h
      · exact absurd hj (tail_waits hs hc hn inv _ i rfl hin hun j h)
    refine ⟨hjn, ?_⟩
    by_cases hji : j = i
    · subst hji; exact hy.wpOp hi hC ⟨hC, H⟩
    · have := hdone _ _ _ H j (ready_mono hj hji)
      omega
  | succ fuel ih =>
    intro listed a w inv hfree hr hy hC H
    have hun := (mem_ready.1 hr).1
    refine ⟨fun h => (by rw [h] at hr; cases hr), fun j hj => ?_⟩
    have hjn : j < n := by
      rcases Nat.lt_or_ge j n with h | h
      · exact h
      · exact absurd hj (tail_waits hs hc hn inv _ i rfl hin hun j h)
    refine ⟨hjn, ?_⟩
    by_cases hji : j = i
    · subst hji; exact hy.wpOp hi hC ⟨hC, H⟩
    · have h1 := (H.2 j (ready_mono hj hji)).2
      obtain ⟨hjun, oj, hoj, hall⟩ := mem_ready.1 hj
      have hnot : ∀ e ∈ oj.after, Region.binds md e = true → e.on ≠ i := fun e he hb heq => by
        have h1 := hall e he hb
        rw [heq, getD_both hun] at h1
        cases h1
      have h2 := wpOp_putD hoj (hfree j oj hoj hji hjun hnot) (fun cs b => hsel i oi cs b hi) (fun cs b => hsel j oj cs b hoj) hQ hy h1
      have hfree' : ∀ k ok, ops[k]? = some ok → k ≠ i → (listed.setIfInBounds j true).getD k true = false →
          (∀ e ∈ ok.after, Region.binds md e = true → e.on ≠ i) → oi.apart ops ok = true := fun k ok hk hki hun hno => by
        refine hfree k ok hk hki ?_ hno
        by_cases hjk : j = k
        · subst hjk; exact hjun
        · rw [getD_set_ne true hjk] at hun; exact hun
      refine wpOp_mono (fun a' w' h3 => ⟨h3.2.1, ih (listed.setIfInBounds j true) a' w' (inv.set hj hjn) hfree' (ready_mono hr (Ne.symm hji)) h3.1 h3.2.1 ?_⟩) h2
      rw [Array.setIfInBounds_comm _ _ hji]
      exact h3.2.2

/-- The head in the order of the text; true: a read, false: an effect. -/
def mixL (P : Program) (ops : Array Oper) (Q : Exit → Act → World → Prop) (C : World → Prop) (T : Act → World → Prop) : List (Bool × Oper) → Act → World → Prop
  | [], a, w => T a w
  | (q, o) :: rest, a, w =>
    if q then ∃ v, YieldsD P ops C o v a ∧ mixL P ops Q C T rest (a.put o.dst v) w
    else if Region.wanted o (yielded ops a.tmps) then o.wp P a w (fun a' w' => C w' ∧ mixL P ops Q C T rest a' w') Q
    else mixL P ops Q C T rest (a.put o.dst undef) w

def lexMix (md : Region.Mode) (ops : Array Oper) (g : Nat) : List Bool → Nat → Array Bool → Bool
  | [], k, listed => Region.seqB md ops g k listed
  | q :: qs, k, listed => (if q then (Region.ready md ops listed).contains k && Region.free md ops listed k else decide (Region.ready md ops listed = [k])) && lexMix md ops g qs (k + 1) (listed.setIfInBounds k true)

def lexMixB (ops : Array Oper) (qs : List Bool) : Bool :=
  Region.noSelect ops && decide (qs.length < ops.size) && Region.sinkB .any ops qs.length && Region.chainB .any ops qs.length && lexMix .any ops (ops.size - qs.length) qs 0 (Array.replicate ops.size false)

theorem wpAnyM_lex {g : Nat} {T : Act → World → Prop} (hsel : Region.noSelect ops = true) (hs : Region.sinkB md ops n = true) (hc : Region.chainB md ops n = true) (hn : n < ops.size)
    (hQ : ∀ c d v a w, Q (.panic c) (Act.put a d v) w → Q (.panic c) a w) :
    ∀ (l : List (Bool × Oper)) (k : Nat) (listed : Array Bool) (a : Act) (w : World), (∀ j x, l[j]? = some x → ops[k + j]? = some x.2) → k + l.length = n → HeadInv md ops n listed →
    lexMix md ops g (l.map (·.1)) k listed = true → C w → mixL P ops Q C T l a w →
    wpAnyM P md ops Q C n (fun listed' a' w' => Region.seqB md ops g n listed' = true ∧ T a' w') l.length listed a w
  | [], k, listed, a, w, _, hk, _, hB, _, h => by
    have : k = n := by simpa using hk
    subst this
    exact ⟨by simpa [lexMix] using hB, h⟩
  | (q, o) :: l, k, listed, a, w, hl, hk, inv, hB, hC, h => by
    have h0 : ops[k]? = some o := by simpa using hl 0 (q, o) (by simp)
    simp only [List.map_cons, lexMix, Bool.and_eq_true] at hB
    obtain ⟨hq, hB'⟩ := hB
    have hkn : k < n := by simp only [List.length_cons] at hk; omega
    have hl' : ∀ j x, l[j]? = some x → ops[k + 1 + j]? = some x.2 := fun j x hx => by
      have := hl (j + 1) x (by simpa using hx)
      rwa [show k + (j + 1) = k + 1 + j from by omega] at this
    have hk' : k + 1 + l.length = n := by simp only [List.length_cons] at hk; omega
    cases q with
    | true =>
      simp only [if_true, Bool.and_eq_true] at hq
      have hr' : k ∈ Region.ready md ops listed := by simpa using hq.1
      simp only [mixL, if_true] at h
      obtain ⟨v, hy, hK⟩ := h
      exact wpAnyM_first h0 (Region.noSelect_spec hsel) (fun c a w => hQ c o.dst v a w) hs hc hn hkn (fun listed' a' w' hL => seqB_ready hL.1) l.length listed a w inv (Region.free_spec h0 hq.2) hr' hy hC
        (wpAnyM_lex hsel hs hc hn hQ l (k + 1) _ _ w hl' hk' (inv.set hr' hkn) hB' hC hK)
    | false =>
      simp only [Bool.false_eq_true, if_false, decide_eq_true_eq] at hq
      have hr' : k ∈ Region.ready md ops listed := by rw [hq]; simp
      simp only [mixL, Bool.false_eq_true, if_false] at h
      refine ⟨fun h1 => (by rw [hq] at h1; cases h1), fun i hi => ?_⟩
      rw [hq, List.mem_singleton] at hi
      subst hi
      refine ⟨hkn, ?_⟩
      unfold wpOp
      simp only [h0]
      split
      · rename_i hw
        rw [if_pos hw] at h
        exact .inl (Oper.wp_mono (fun a' w' h' => ⟨h'.1, wpAnyM_lex hsel hs hc hn hQ l (i + 1) _ a' w' hl' hk' (inv.set hr' hkn) hB' h'.1 h'.2⟩) h)
      · rename_i hw
        rw [if_neg hw] at h
        exact ⟨hC, wpAnyM_lex hsel hs hc hn hQ l (i + 1) _ _ w hl' hk' (inv.set hr' hkn) hB' hC h⟩

theorem region_mix [Gd] {id : Nat} {a : Act} {w : World} {l : List Oper} (qs : List Bool) (hm : P.follows .mixedOrders = true) (hB : lexMixB l.toArray qs = true)
    (hQ : PanicOk Q) {D : Heap → Prop} (hD : D w.heap)
    (h : ∀ w', SameW w w' → w'.heap = w.heap → mixL P l.toArray Q (fun w => D w.heap) (fun a' w' => wpList P l.toArray Q (l.drop qs.length) a' w') (qs.zip l) a w') : (Code.region id l.toArray true).wp P Q a w := by
  simp only [lexMixB, Bool.and_eq_true, decide_eq_true_eq] at hB
  obtain ⟨⟨⟨⟨hsel, hn⟩, hs⟩, hc⟩, hlex⟩ := hB
  have hn' : qs.length < l.length := by simpa using hn
  have hzl : (qs.zip l).length = qs.length := by simp; omega
  have hdl : (l.drop qs.length).length = l.toArray.size - qs.length := by simp
  have inv0 : HeadInv .any l.toArray qs.length (Array.replicate l.toArray.size false) :=
    ⟨by simp, fun j oj _ hl => (by rw [getD_replicate_false] at hl; cases hl), fun t _ ht => getD_in (by simpa using ht) (getD_replicate_false _ _)⟩
  have H := wpAnyM_lex (md := .any) (g := l.toArray.size - qs.length) hsel hs hc hn hQ.ok (qs.zip l) 0 _ a { w with drawn := w.drawn + 1 } (fun j x hj => by
    rw [List.getElem?_zip_eq_some] at hj
    simpa using hj.2) (by simpa using hzl) inv0 (by rw [List.map_fst_zip (by omega)]; exact hlex) hD (h { w with drawn := w.drawn + 1 } ⟨rfl, rfl, rfl, fun _ => by first | exact Nat.le_refl _ | exact Nat.le_succ _ | exact Nat.le_add_right _ _⟩ rfl)
  refine wp_region_any hm ?_
  have := wpAny_of_M (Q := Q) (g := l.toArray.size - qs.length) (fun listed a' w' hL => by
    have := wpAny_of_seq (md := .any) (Q' := Q) (l.drop qs.length) qs.length listed a' w' (fun j => by simp [List.getElem?_drop]) (by rw [hdl]; exact hL.1) hL.2
    rwa [hdl] at this) _ _ _ _ H
  rw [hzl, show qs.length + (l.toArray.size - qs.length) = l.toArray.size by omega] at this
  exact this

/-- The head in an order of one's own choice. -/
def lexMixO (md : Region.Mode) (ops : Array Oper) (g n : Nat) : List (Bool × Nat) → Array Bool → Bool
  | [], listed => Region.seqB md ops g n listed
  | (q, k) :: qs, listed => (if q then (Region.ready md ops listed).contains k && Region.free md ops listed k else decide (Region.ready md ops listed = [k])) && decide (k < n) && lexMixO md ops g n qs (listed.setIfInBounds k true)
def lexMixOB (ops : Array Oper) (qs : List (Bool × Nat)) : Bool :=
  Region.noSelect ops && decide (qs.length < ops.size) && Region.sinkB .any ops qs.length && Region.chainB .any ops qs.length && lexMixO .any ops (ops.size - qs.length) qs.length qs (Array.replicate ops.size false)

theorem wpAnyM_lexO {g : Nat} {T : Act → World → Prop} (hsel : Region.noSelect ops = true) (hs : Region.sinkB md ops n = true) (hc : Region.chainB md ops n = true) (hn : n < ops.size)
    (hQ : ∀ c d v a w, Q (.panic c) (Act.put a d v) w → Q (.panic c) a w) :
    ∀ (l : List (Bool × Oper)) (qs : List (Bool × Nat)) (listed : Array Bool) (a : Act) (w : World), l.map (·.1) = qs.map (·.1) → (l.map fun x => some x.2) = qs.map (fun x => ops[x.2]?) → HeadInv md ops n listed →
    lexMixO md ops g n qs listed = true → C w → mixL P ops Q C T l a w →
    wpAnyM P md ops Q C n (fun listed' a' w' => Region.seqB md ops g n listed' = true ∧ T a' w') l.length listed a w
  | [], [], listed, a, w, _, _, _, hB, _, h => ⟨by simpa [lexMixO] using hB, h⟩
  | [], _ :: _, _, _, _, h, _, _, _, _, _ => by simp at h
  | _ :: _, [], _, _, _, h, _, _, _, _, _ => by simp at h
  | (q, o) :: l, (q', k) :: qs, listed, a, w, h1, h2, inv, hB, hC, h => by
    simp only [List.map_cons, List.cons.injEq] at h1 h2
    obtain ⟨rfl, h1'⟩ := h1
    obtain ⟨h0, h2'⟩ := h2
    have h0 := h0.symm
    simp only [lexMixO, Bool.and_eq_true, decide_eq_true_eq] at hB
    obtain ⟨⟨hq, hkn⟩, hB'⟩ := hB
    cases q with
    | true =>
      simp only [if_true, Bool.and_eq_true] at hq
      have hr' : k ∈ Region.ready md ops listed := by simpa using hq.1
      simp only [mixL, if_true] at h
      obtain ⟨v, hy, hK⟩ := h
      exact wpAnyM_first h0 (Region.noSelect_spec hsel) (fun c a w => hQ c o.dst v a w) hs hc hn hkn (fun listed' a' w' hL => seqB_ready hL.1) l.length listed a w inv (Region.free_spec h0 hq.2) hr' hy hC
        (wpAnyM_lexO hsel hs hc hn hQ l qs _ _ w h1' h2' (inv.set hr' hkn) hB' hC hK)
    | false =>
      simp only [Bool.false_eq_true, if_false, decide_eq_true_eq] at hq
      have hr' : k ∈ Region.ready md ops listed := by rw [hq]; simp
      simp only [mixL, Bool.false_eq_true, if_false] at h
      refine ⟨fun h1 => (by rw [hq] at h1; cases h1), fun i hi => ?_⟩
      rw [hq, List.mem_singleton] at hi
      subst hi
      refine ⟨hkn, ?_⟩
      unfold wpOp
      simp only [h0]
      split
      · rename_i hw
        rw [if_pos hw] at h
        exact .inl (Oper.wp_mono (fun a' w' h' => ⟨h'.1, wpAnyM_lexO hsel hs hc hn hQ l qs _ a' w' h1' h2' (inv.set hr' hkn) hB' h'.1 h'.2⟩) h)
      · rename_i hw
        rw [if_neg hw] at h
        exact ⟨hC, wpAnyM_lexO hsel hs hc hn hQ l qs _ _ w h1' h2' (inv.set hr' hkn) hB' hC h⟩

theorem region_mixo [Gd] {id : Nat} {a : Act} {w : World} {l : List Oper} (qs : List (Bool × Nat)) (ls : List (Bool × Oper)) (hls : ls.map (·.1) = qs.map (·.1)) (hls2 : (ls.map fun x => some x.2) = qs.map (fun x => l.toArray[x.2]?)) (hm : P.follows .mixedOrders = true) (hB : lexMixOB l.toArray qs = true)
    (hQ : PanicOk Q) {D : Heap → Prop} (hD : D w.heap)
    (h : ∀ w', SameW w w' → w'.heap = w.heap → mixL P l.toArray Q (fun w => D w.heap) (fun a' w' => wpList P l.toArray Q (l.drop qs.length) a' w') ls a w') : (Code.region id l.toArray true).wp P Q a w := by
  simp only [lexMixOB, Bool.and_eq_true, decide_eq_true_eq] at hB
  obtain ⟨⟨⟨⟨hsel, hn⟩, hs⟩, hc⟩, hlex⟩ := hB
  have hn' : qs.length < l.length := by simpa using hn
  have hzl : ls.length = qs.length := by simpa using congrArg List.length hls
  have hdl : (l.drop qs.length).length = l.toArray.size - qs.length := by simp
  have inv0 : HeadInv .any l.toArray qs.length (Array.replicate l.toArray.size false) :=
    ⟨by simp, fun j oj _ hl => (by rw [getD_replicate_false] at hl; cases hl), fun t _ ht => getD_in (by simpa using ht) (getD_replicate_false _ _)⟩
  have H := wpAnyM_lexO (md := .any) (g := l.toArray.size - qs.length) hsel hs hc hn hQ.ok ls qs _ a { w with drawn := w.drawn + 1 } hls hls2 inv0 hlex hD (h { w with drawn := w.drawn + 1 } ⟨rfl, rfl, rfl, fun _ => by first | exact Nat.le_refl _ | exact Nat.le_succ _ | exact Nat.le_add_right _ _⟩ rfl)
  refine wp_region_any hm ?_
  have := wpAny_of_M (Q := Q) (g := l.toArray.size - qs.length) (fun listed a' w' hL => by
    have := wpAny_of_seq (md := .any) (Q' := Q) (l.drop qs.length) qs.length listed a' w' (fun j => by simp [List.getElem?_drop]) (by rw [hdl]; exact hL.1) hL.2
    rwa [hdl] at this) _ _ _ _ H
  rw [hzl, show qs.length + (l.toArray.size - qs.length) = l.toArray.size by omega] at this
  exact this

/-! Whatever order: each effect keeps what was there. -/
def Ext (h h' : Heap) : Prop := h.size ≤ h'.size ∧ ∀ b, b < h.size → h'[b]? = h[b]?
theorem Ext.refl (h : Heap) : Ext h h := ⟨Nat.le_refl _, fun _ _ => rfl⟩
theorem Ext.trans {a b c : Heap} (h : Ext a b) (k : Ext b c) : Ext a c :=
  ⟨Nat.le_trans h.1 k.1, fun i hi => (k.2 i (Nat.lt_of_lt_of_le hi h.1)).trans (h.2 i hi)⟩

def wpAnyE (P : Program) (md : Region.Mode) (ops : Array Oper) (Q : Exit → Act → World → Prop) : Nat → Array Bool → Act → World → Prop
  | 0, listed, a, w => Region.ready md ops listed = [] ∧ Q .normal a w
  | fuel + 1, listed, a, w => (Region.ready md ops listed = [] → Q .normal a w) ∧
    ∀ i ∈ Region.ready md ops listed, wpOp P ops Q i (fun a' w' => Ext w.heap w'.heap ∧ wpAnyE P md ops Q fuel (listed.setIfInBounds i true) a' w') a w

theorem wpAny_of_E : ∀ (fuel : Nat) (listed : Array Bool) (a : Act) (w : World), wpAnyE P md ops Q fuel listed a w → wpAny P md ops Q fuel listed a w
  | 0, _, _, _, h => h
  | fuel + 1, _, _, _, h => ⟨h.1, fun i hi => wpOp_mono (fun a' w' h' => wpAny_of_E fuel _ a' w' h'.2) (h.2 i hi)⟩

theorem YieldsD.anti {C C' : World → Prop} {o : Oper} {v : Value} {a : Act} (hy : YieldsD P ops C o v a) (h : ∀ w, C' w → C w) : YieldsD P ops C' o v a :=
  hy.imp (fun h1 => ⟨h1.1, fun w hw => h1.2 w (h w hw)⟩) id

theorem wpAnyE_first {i : Nat} {oi : Oper} {v : Value} (hi : ops[i]? = some oi) (hsel : ∀ (j : Nat) (o : Oper) cs b, ops[j]? = some o → o.op ≠ .select cs b)
    (hQ : ∀ c a w, Q (.panic c) (a.put oi.dst v) w → Q (.panic c) a w) :
    ∀ (fuel : Nat) (listed : Array Bool) (a : Act) (w : World),
      (∀ j oj, ops[j]? = some oj → j ≠ i → listed.getD j true = false → (∀ e ∈ oj.after, Region.binds md e = true → e.on ≠ i) → oi.apart ops oj = true) →
      i ∈ Region.ready md ops listed → YieldsD P ops (fun w' => Ext w.heap w'.heap) oi v a →
      wpAnyE P md ops Q fuel (listed.setIfInBounds i true) (a.put oi.dst v) w → wpAnyE P md ops Q (fuel + 1) listed a w := by
  intro fuel
  induction fuel with
  | zero =>
    intro listed a w _ hr hy H
    refine ⟨fun h => (by rw [h] at hr; cases hr), fun j hj => ?_⟩
    by_cases hji : j = i
    · subst hji; exact hy.wpOp (K := fun a' w' => Ext w.heap w'.heap ∧ wpAnyE P md ops Q 0 (listed.setIfInBounds j true) a' w') hi (Ext.refl _) ⟨Ext.refl _, H⟩
    · have := ready_mono hj hji
      rw [H.1] at this
      cases this
  | succ fuel ih =>
    intro listed a w hfree hr hy H
    refine ⟨fun h => (by rw [h] at hr; cases hr), fun j hj => ?_⟩
    by_cases hji : j = i
    · subst hji; exact hy.wpOp (K := fun a' w' => Ext w.heap w'.heap ∧ wpAnyE P md ops Q (fuel + 1) (listed.setIfInBounds j true) a' w') hi (Ext.refl _) ⟨Ext.refl _, H⟩
    · have h1 := H.2 j (ready_mono hj hji)
      obtain ⟨hjun, oj, hoj, hall⟩ := mem_ready.1 hj
      have hun := (mem_ready.1 hr).1
      have hnot : ∀ e ∈ oj.after, Region.binds md e = true → e.on ≠ i := fun e he hb heq => by
        have h1 := hall e he hb
        rw [heq, getD_both hun] at h1
        cases h1
      have h2 := wpOp_putD hoj (hfree j oj hoj hji hjun hnot) (fun cs b => hsel i oi cs b hi) (fun cs b => hsel j oj cs b hoj) hQ hy h1
      have hfree' : ∀ k ok, ops[k]? = some ok → k ≠ i → (listed.setIfInBounds j true).getD k true = false →
          (∀ e ∈ ok.after, Region.binds md e = true → e.on ≠ i) → oi.apart ops ok = true := fun k ok hk hki hun hno => by
        refine hfree k ok hk hki ?_ hno
        by_cases hjk : j = k
        · subst hjk; exact hjun
        · rw [getD_set_ne true hjk] at hun; exact hun
      refine wpOp_mono (fun a' w' h3 => ⟨h3.2.1, ih (listed.setIfInBounds j true) a' w' hfree' (ready_mono hr (Ne.symm hji)) (h3.1.anti fun _ he => h3.2.1.trans he) ?_⟩) h2
      rw [Array.setIfInBounds_comm _ _ hji]
      exact h3.2.2

theorem region_exp [Gd] {id : Nat} {a : Act} {w : World} {l : List Oper} (hm : P.follows .mixedOrders = true)
    (h : ∀ w', SameW w w' → w'.heap = w.heap → wpAnyE P .any l.toArray Q l.length (Array.replicate l.length false) a w') : (Code.region id l.toArray true).wp P Q a w := by
  refine wp_region_any hm ?_
  have := wpAny_of_E _ _ _ _ (h { w with drawn := w.drawn + 1 } ⟨rfl, rfl, rfl, fun _ => by first | exact Nat.le_refl _ | exact Nat.le_succ _ | exact Nat.le_add_right _ _⟩ rfl)
  simpa using this

/-- What stands behind the region, under a name. -/
theorem region_exp_k [Gd] {id : Nat} {a : Act} {w : World} {l : List Oper} (hm : P.follows .mixedOrders = true) (hQ : PanicOk Q) {w0 : World} {A : Nat → (Nat → Value) → Prop} [hpn : PnOk [] Q w0 A]
    (h : ∀ K : Exit → Act → World → Prop, (∀ a w, Q .normal a w → K .normal a w) → PanicOk K → PnOk [] K w0 A → ∀ w', SameW w w' → w'.heap = w.heap → wpAnyE P .any l.toArray K l.length (Array.replicate l.length false) a w') : (Code.region id l.toArray true).wp P Q a w :=
  region_exp hm fun w' h1 h2 => h Q (fun _ _ h => h) hQ hpn w' h1 h2

section exp
variable {f : Nat → Value} {w : World} {o : Oper} {h : Heap} {m i fuel : Nat} {listed listed' : Array Bool}
theorem expR {d : Nat} {v : Value} (hi : ops[i]? = some o) (hok : (Region.noSelect ops && (Region.ready .any ops listed).contains i && Region.free .any ops listed i) = true)
    (hl : listed.setIfInBounds i true = listed') (hQ : PanicOk Q) (hd : o.dst = some d)
    (hy : YieldsD P ops (fun w' => Ext w.heap w'.heap) o v (mkD ds m f))
    (k : wpAnyE P .any ops Q fuel listed' (mkD ds m (upd f d v)) w) : wpAnyE P .any ops Q (fuel + 1) listed (mkD ds m f) w := by
  simp only [Bool.and_eq_true] at hok
  subst hl
  refine wpAnyE_first hi (Region.noSelect_spec hok.1.1) (fun c a w => hQ.ok c o.dst v a w) fuel listed _ w (Region.free_spec hi hok.2) (by simpa using hok.1.2) hy ?_
  rw [hd, mk_put]
  exact k
theorem expM {d : Nat} {x : Operand} {v : Value} (hi : ops[i]? = some o) (hok : (Region.noSelect ops && (Region.ready .any ops listed).contains i && Region.free .any ops listed i) = true)
    (hl : listed.setIfInBounds i true = listed') (hQ : PanicOk Q) (hop : o.op = .move x ∨ o.op = .assign x) (hg : Region.wanted o (yielded ops (mkD ds m f).tmps) = true) (hd : o.dst = some d)
    (hv : evf m f x = v) (k : wpAnyE P .any ops Q fuel listed' (mkD ds m (upd f d v)) w) : wpAnyE P .any ops Q (fuel + 1) listed (mkD ds m f) w := by
  refine expR hi hok hl hQ hd (.inl ⟨hg, fun w _ => ?_⟩) k
  rw [mk_eval]
  rcases hop with h | h <;> simp [execOp, h, hv]
theorem expP {d : Nat} {K : Value → Prop} {s : Sem Next} (hi : ops[i]? = some o) (hok : (Region.noSelect ops && (Region.ready .any ops listed).contains i && Region.free .any ops listed i) = true)
    (hl : listed.setIfInBounds i true = listed') (hQ : PanicOk Q) (he : execOp (evf m f) o = s) (hs : Sp P s K) (hg : Region.wanted o (yielded ops (mkD ds m f).tmps) = true) (hd : o.dst = some d)
    (k : ∀ v, K v → wpAnyE P .any ops Q fuel listed' (mkD ds m (upd f d v)) w) : wpAnyE P .any ops Q (fuel + 1) listed (mkD ds m f) w := by
  subst he
  obtain ⟨v, hr, hk⟩ := hs
  refine expR hi hok hl hQ hd (.inl ⟨hg, fun w _ => ?_⟩) (k v hk)
  rw [mk_eval]
  exact hr w
theorem expQ {d : Nat} {K : Value → Prop} {s : Sem Next} (hi : ops[i]? = some o) (hok : (Region.noSelect ops && (Region.ready .any ops listed).contains i && Region.free .any ops listed i) = true)
    (hl : listed.setIfInBounds i true = listed') (hQ : PanicOk Q) (he : execOp (evf m f) o = s) (hs : Sq P (Ext h) s K) (hw : w.heap = h) (hg : Region.wanted o (yielded ops (mkD ds m f).tmps) = true) (hd : o.dst = some d)
    (k : ∀ v, K v → wpAnyE P .any ops Q fuel listed' (mkD ds m (upd f d v)) w) : wpAnyE P .any ops Q (fuel + 1) listed (mkD ds m f) w := by
  subst he
  obtain ⟨v, hr, hk⟩ := hs
  refine expR hi hok hl hQ hd (.inl ⟨hg, fun w' hx => ?_⟩) (k v hk)
  rw [mk_eval]
  exact hr w' (hw ▸ hx)
theorem expSkip {d : Nat} (hi : ops[i]? = some o) (hok : (Region.noSelect ops && (Region.ready .any ops listed).contains i && Region.free .any ops listed i) = true)
    (hl : listed.setIfInBounds i true = listed') (hQ : PanicOk Q) (hg : Region.wanted o (yielded ops (mkD ds m f).tmps) = false) (hd : o.dst = some d)
    (k : wpAnyE P .any ops Q fuel listed' (mkD ds m (upd f d undef)) w) : wpAnyE P .any ops Q (fuel + 1) listed (mkD ds m f) w :=
  expR hi hok hl hQ hd (.inr ⟨hg, rfl⟩) k
/-- One effect of those that may come up now. -/
def expAt (P : Program) (ops : Array Oper) (Q : Exit → Act → World → Prop) (fuel : Nat) (listed : Array Bool) (a : Act) (w : World) (i : Nat) : Prop :=
  wpOp P ops Q i (fun a' w' => Ext w.heap w'.heap ∧ wpAnyE P .any ops Q fuel (listed.setIfInBounds i true) a' w') a w
theorem expAll1 (i : Nat) (hr : Region.ready .any ops listed = [i]) (h1 : expAt P ops Q fuel listed (mkD ds m f) w i) : wpAnyE P .any ops Q (fuel + 1) listed (mkD ds m f) w := by
  refine ⟨fun h0 => (by rw [hr] at h0; cases h0), fun j hj => ?_⟩
  rw [hr, List.mem_singleton] at hj
  subst hj; exact h1
theorem expAll2 (i j : Nat) (hr : Region.ready .any ops listed = [i, j]) (h1 : expAt P ops Q fuel listed (mkD ds m f) w i) (h2 : expAt P ops Q fuel listed (mkD ds m f) w j) : wpAnyE P .any ops Q (fuel + 1) listed (mkD ds m f) w := by
  refine ⟨fun h0 => (by rw [hr] at h0; cases h0), fun k hk => ?_⟩
  rw [hr] at hk
  rcases List.mem_cons.1 hk with rfl | hk
  · exact h1
  · rw [List.mem_singleton] at hk; subst hk; exact h2
theorem expAll3 (i j l : Nat) (hr : Region.ready .any ops listed = [i, j, l]) (h1 : expAt P ops Q fuel listed (mkD ds m f) w i) (h2 : expAt P ops Q fuel listed (mkD ds m f) w j) (h3 : expAt P ops Q fuel listed (mkD ds m f) w l) : wpAnyE P .any ops Q (fuel + 1) listed (mkD ds m f) w := by
  refine ⟨fun h0 => (by rw [hr] at h0; cases h0), fun k hk => ?_⟩
  rw [hr] at hk
  rcases List.mem_cons.1 hk with rfl | hk
  · exact h1
  · rcases List.mem_cons.1 hk with rfl | hk
    · exact h2
    · rw [List.mem_singleton] at hk; subst hk; exact h3
theorem expX [Gd] {d : Nat} {K : Value → Heap → Prop} {s : Sem Next} (hi : ops[i]? = some o) (hl : listed.setIfInBounds i true = listed')
    (he : execOp (evf m f) o = s) (hs : Sx P s h fun v h' => Ext h h' ∧ K v h') (hw : w.heap = h) (hg : Region.wanted o (yielded ops (mkD ds m f).tmps) = true) (hd : o.dst = some d)
    (k : ∀ v h' w', w'.heap = h' → SameW w w' → K v h' → wpAnyE P .any ops Q fuel listed' (mkD ds m (upd f d v)) w') {w0 : World} {A : Nat → (Nat → Value) → Prop} [hpn : PnOk ds Q w0 A] (hs0 : SameW w0 w := by assumption) (hA0 : A m f := by first | exact True.intro | exact ⟨rfl, rfl, rfl, trivial⟩ | exact ⟨rfl, rfl, rfl, rfl, rfl, rfl, rfl, rfl, rfl, trivial⟩) : expAt P ops Q fuel listed (mkD ds m f) w i := by
  subst he hl
  unfold expAt wpOp
  simp only [hi]
  rw [if_pos hg]
  refine .inl ?_
  unfold Oper.wp
  rw [mk_eval]
  refine upon_of_next (hs w hw) (fun v w' h1 h2 => ?_) rfl hpn hs0 hA0
  rw [hd, mk_put]
  exact ⟨hw ▸ h2.1, k v _ w' rfl h1 h2.2⟩
theorem expU [Gd] {K : Value → Heap → Prop} {s : Sem Next} (hi : ops[i]? = some o) (hl : listed.setIfInBounds i true = listed')
    (he : execOp (evf m f) o = s) (hs : Sx P s h fun v h' => Ext h h' ∧ K v h') (hw : w.heap = h) (hg : Region.wanted o (yielded ops (mkD ds m f).tmps) = true) (hd : o.dst = none)
    (k : ∀ v h' w', w'.heap = h' → SameW w w' → K v h' → wpAnyE P .any ops Q fuel listed' (mkD ds m f) w') {w0 : World} {A : Nat → (Nat → Value) → Prop} [hpn : PnOk ds Q w0 A] (hs0 : SameW w0 w := by assumption) (hA0 : A m f := by first | exact True.intro | exact ⟨rfl, rfl, rfl, trivial⟩ | exact ⟨rfl, rfl, rfl, rfl, rfl, rfl, rfl, rfl, rfl, trivial⟩) : expAt P ops Q fuel listed (mkD ds m f) w i := by
  subst he hl
  unfold expAt wpOp
  simp only [hi]
  rw [if_pos hg]
  refine .inl ?_
  unfold Oper.wp
  rw [mk_eval]
  refine upon_of_next (hs w hw) (fun v w' h1 h2 => ?_) rfl hpn hs0 hA0
  rw [hd]
  exact ⟨hw ▸ h2.1, k v _ w' rfl h1 h2.2⟩
theorem expEnd (hr : Region.ready .any ops listed = []) {a : Act} (h : Q .normal a w) : wpAnyE P .any ops Q 0 listed a w := ⟨hr, h⟩
end exp

variable {D : Heap → Prop} {T : Act → World → Prop} {f : Nat → Value} {w : World} {rest : List (Bool × Oper)} {o : Oper} {h : Heap} {m : Nat}

theorem mixR {d : Nat} {v : Value} (hg : Region.wanted o (yielded ops (mkD ds m f).tmps) = true) (hd : o.dst = some d)
    (hv : ∀ w : World, D w.heap → (execOp (evf m f) o).run P w = .ok (.value v) w)
    (k : mixL P ops Q (fun w => D w.heap) T rest (mkD ds m (upd f d v)) w) : mixL P ops Q (fun w => D w.heap) T ((true, o) :: rest) (mkD ds m f) w := by
  unfold mixL
  rw [if_pos rfl]
  refine ⟨v, .inl ⟨hg, fun w hw => ?_⟩, ?_⟩
  · rw [mk_eval]; exact hv w hw
  · rw [hd, mk_put]; exact k

theorem mixM {d : Nat} {x : Operand} {v : Value} (hop : o.op = .move x ∨ o.op = .assign x) (hg : Region.wanted o (yielded ops (mkD ds m f).tmps) = true) (hd : o.dst = some d)
    (hv : evf m f x = v) (k : mixL P ops Q (fun w => D w.heap) T rest (mkD ds m (upd f d v)) w) : mixL P ops Q (fun w => D w.heap) T ((true, o) :: rest) (mkD ds m f) w := by
  refine mixR (v := v) hg hd (fun w _ => ?_) k
  rcases hop with h | h <;> simp [execOp, h, hv]

theorem mixP {d : Nat} {K : Value → Prop} {s : Sem Next} (he : execOp (evf m f) o = s) (hs : Sp P s K) (hg : Region.wanted o (yielded ops (mkD ds m f).tmps) = true) (hd : o.dst = some d)
    (k : ∀ v, K v → mixL P ops Q (fun w => D w.heap) T rest (mkD ds m (upd f d v)) w) : mixL P ops Q (fun w => D w.heap) T ((true, o) :: rest) (mkD ds m f) w := by
  subst he
  obtain ⟨v, hr, hk⟩ := hs
  exact mixR (v := v) hg hd (fun w _ => hr w) (k v hk)

theorem mixQ {d : Nat} {K : Value → Prop} {s : Sem Next} (he : execOp (evf m f) o = s) (hs : Sq P D s K) (hg : Region.wanted o (yielded ops (mkD ds m f).tmps) = true) (hd : o.dst = some d)
    (k : ∀ v, K v → mixL P ops Q (fun w => D w.heap) T rest (mkD ds m (upd f d v)) w) : mixL P ops Q (fun w => D w.heap) T ((true, o) :: rest) (mkD ds m f) w := by
  subst he
  obtain ⟨v, hr, hk⟩ := hs
  exact mixR (v := v) hg hd hr (k v hk)

theorem mixX [Gd] {d : Nat} {K : Value → Heap → Prop} {s : Sem Next} (he : execOp (evf m f) o = s) (hs : Sx P s h fun v h' => D h' ∧ K v h') (hw : w.heap = h) (hg : Region.wanted o (yielded ops (mkD ds m f).tmps) = true) (hd : o.dst = some d)
    (k : ∀ v h' w', w'.heap = h' → SameW w w' → K v h' → mixL P ops Q (fun w => D w.heap) T rest (mkD ds m (upd f d v)) w') {w0 : World} {A : Nat → (Nat → Value) → Prop} [hpn : PnOk ds Q w0 A] (hs0 : SameW w0 w := by assumption) (hA0 : A m f := by first | exact True.intro | exact ⟨rfl, rfl, rfl, trivial⟩ | exact ⟨rfl, rfl, rfl, rfl, rfl, rfl, rfl, rfl, rfl, trivial⟩) : mixL P ops Q (fun w => D w.heap) T ((false, o) :: rest) (mkD ds m f) w := by
  subst he
  unfold mixL
  rw [if_neg (by simp), if_pos hg]
  unfold Oper.wp
  rw [mk_eval]
  refine upon_of_next (hs w hw) (fun v w' h1 h2 => ?_) rfl hpn hs0 hA0
  rw [hd, mk_put]
  exact ⟨h2.1, k v _ w' rfl h1 h2.2⟩

theorem mixU [Gd] {K : Value → Heap → Prop} {s : Sem Next} (he : execOp (evf m f) o = s) (hs : Sx P s h fun v h' => D h' ∧ K v h') (hw : w.heap = h) (hg : Region.wanted o (yielded ops (mkD ds m f).tmps) = true) (hd : o.dst = none)
    (k : ∀ v h' w', w'.heap = h' → SameW w w' → K v h' → mixL P ops Q (fun w => D w.heap) T rest (mkD ds m f) w') {w0 : World} {A : Nat → (Nat → Value) → Prop} [hpn : PnOk ds Q w0 A] (hs0 : SameW w0 w := by assumption) (hA0 : A m f := by first | exact True.intro | exact ⟨rfl, rfl, rfl, trivial⟩ | exact ⟨rfl, rfl, rfl, rfl, rfl, rfl, rfl, rfl, rfl, trivial⟩) : mixL P ops Q (fun w => D w.heap) T ((false, o) :: rest) (mkD ds m f) w := by
  subst he
  unfold mixL
  rw [if_neg (by simp), if_pos hg]
  unfold Oper.wp
  rw [mk_eval]
  refine upon_of_next (hs w hw) (fun v w' h1 h2 => ?_) rfl hpn hs0 hA0
  rw [hd]
  exact ⟨h2.1, k v _ w' rfl h1 h2.2⟩

theorem mixSkipR {d : Nat} (hg : Region.wanted o (yielded ops (mkD ds m f).tmps) = false) (hd : o.dst = some d)
    (k : mixL P ops Q (fun w => D w.heap) T rest (mkD ds m (upd f d undef)) w) : mixL P ops Q (fun w => D w.heap) T ((true, o) :: rest) (mkD ds m f) w := by
  unfold mixL
  rw [if_pos rfl]
  exact ⟨undef, .inr ⟨hg, rfl⟩, by rw [hd, mk_put]; exact k⟩
theorem mixSkipX {d : Nat} (hg : Region.wanted o (yielded ops (mkD ds m f).tmps) = false) (hd : o.dst = some d)
    (k : mixL P ops Q (fun w => D w.heap) T rest (mkD ds m (upd f d undef)) w) : mixL P ops Q (fun w => D w.heap) T ((false, o) :: rest) (mkD ds m f) w := by
  unfold mixL
  rw [if_neg (by simp), if_neg (by simp [hg]), hd, mk_put]
  exact k
end mix

/-! ### A region that draws its order, in which what reads memory stands, by its edges, ahead of every effect -/
section mixf
variable {P : Program} {ops : Array Oper} {Q : Exit → Act → World → Prop} {md : Region.Mode} {C : Array Bool → World → Prop}

def wpAnyF (P : Program) (md : Region.Mode) (ops : Array Oper) (Q : Exit → Act → World → Prop) (C : Array Bool → World → Prop) (n : Nat) (L : Array Bool → Act → World → Prop) : Nat → Array Bool → Act → World → Prop
  | 0, listed, a, w => L listed a w
  | fuel + 1, listed, a, w => Region.ready md ops listed ≠ [] ∧
    ∀ i ∈ Region.ready md ops listed, i < n ∧ wpOp P ops Q i (fun a' w' => C (listed.setIfInBounds i true) w' ∧ wpAnyF P md ops Q C n L fuel (listed.setIfInBounds i true) a' w') a w

variable {L : Array Bool → Act → World → Prop} {n : Nat}

theorem wpAny_of_F {g : Nat} (hL : ∀ listed a w, L listed a w → wpAny P md ops Q g listed a w) : ∀ (fuel : Nat) (listed : Array Bool) (a : Act) (w : World),
    wpAnyF P md ops Q C n L fuel listed a w → wpAny P md ops Q (fuel + g) listed a w
  | 0, _, _, _, h => by rw [Nat.zero_add]; exact hL _ _ _ h
  | fuel + 1, listed, a, w, h => by
    rw [show fuel + 1 + g = (fuel + g) + 1 from by omega]
    exact ⟨fun h0 => absurd h0 h.1, fun i hi => wpOp_mono (fun a' w' h' => wpAny_of_F hL fuel _ a' w' h'.2) (h.2 i hi).2⟩

theorem wpAnyF_first {i : Nat} {oi : Oper} {v : Value} {U : World → Prop} (hi : ops[i]? = some oi) (hsel : ∀ (j : Nat) (o : Oper) cs b, ops[j]? = some o → o.op ≠ .select cs b)
    (hQ : ∀ c a w, Q (.panic c) (a.put oi.dst v) w → Q (.panic c) a w)
    (hs : Region.sinkB md ops n = true) (hc : Region.chainB md ops n = true) (hn : n < ops.size) (hin : i < n)
    (hdone : ∀ listed a w, L listed a w → ∀ j ∈ Region.ready md ops listed, n ≤ j)
    (hU : ∀ listed w, HeadInv md ops n listed → listed.getD i true = false → C listed w → U w) (hCi : ∀ listed w, C (listed.setIfInBounds i true) w ↔ C listed w) :
    ∀ (fuel : Nat) (listed : Array Bool) (a : Act) (w : World), HeadInv md ops n listed →
      (∀ j oj, ops[j]? = some oj → j ≠ i → listed.getD j true = false → (∀ e ∈ oj.after, Region.binds md e = true → e.on ≠ i) → oi.apart ops oj = true) →
      i ∈ Region.ready md ops listed → YieldsD P ops U oi v a → C listed w →
      wpAnyF P md ops Q C n L fuel (listed.setIfInBounds i true) (a.put oi.dst v) w → wpAnyF P md ops Q C n L (fuel + 1) listed a w := by
  intro fuel
  induction fuel with
  | zero =>
    intro listed a w inv _ hr hy hC H
    have hun := (mem_ready.1 hr).1
    refine ⟨fun h => (by rw [h] at hr; cases hr), fun j hj => ?_⟩
    have hjn : j < n := by
      rcases Nat.lt_or_ge j n with h | h
      · exact h
      · exact absurd hj (tail_waits hs hc hn inv _ i rfl hin hun j h)
    refine ⟨hjn, ?_⟩
    by_cases hji : j = i
    · subst hji; exact hy.wpOp hi (hU _ _ inv hun hC) ⟨(hCi _ _).2 hC, H⟩
    · have := hdone _ _ _ H j (ready_mono hj hji)
      omega
  | succ fuel ih =>
    intro listed a w inv hfree hr hy hC H
    have hun := (mem_ready.1 hr).1
    refine ⟨fun h => (by rw [h] at hr; cases hr), fun j hj => ?_⟩
    have hjn : j < n := by
      rcases Nat.lt_or_ge j n with h | h
      · exact h
      · exact absurd hj (tail_waits hs hc hn inv _ i rfl hin hun j h)
    refine ⟨hjn, ?_⟩
    by_cases hji : j = i
    · subst hji; exact hy.wpOp hi (hU _ _ inv hun hC) ⟨(hCi _ _).2 hC, H⟩
    · have h1 := (H.2 j (ready_mono hj hji)).2
      obtain ⟨hjun, oj, hoj, hall⟩ := mem_ready.1 hj
      have hnot : ∀ e ∈ oj.after, Region.binds md e = true → e.on ≠ i := fun e he hb heq => by
        have h1 := hall e he hb
        rw [heq, getD_both hun] at h1
        cases h1
      have h2 := wpOp_putD hoj (hfree j oj hoj hji hjun hnot) (fun cs b => hsel i oi cs b hi) (fun cs b => hsel j oj cs b hoj) hQ hy h1
      have hfree' : ∀ k ok, ops[k]? = some ok → k ≠ i → (listed.setIfInBounds j true).getD k true = false →
          (∀ e ∈ ok.after, Region.binds md e = true → e.on ≠ i) → oi.apart ops ok = true := fun k ok hk hki hun hno => by
        refine hfree k ok hk hki ?_ hno
        by_cases hjk : j = k
        · subst hjk; exact hjun
        · rw [getD_set_ne true hjk] at hun; exact hun
      refine wpOp_mono (fun a' w' h3 => ?_) h2
      have hC' : C (listed.setIfInBounds j true) w' := by
        have := h3.2.1
        rw [Array.setIfInBounds_comm _ _ (Ne.symm hji)] at this
        exact (hCi _ _).1 this
      refine ⟨hC', ih (listed.setIfInBounds j true) a' w' (inv.set hj hjn) hfree' (ready_mono hr (Ne.symm hji)) h3.1 hC' ?_⟩
      rw [Array.setIfInBounds_comm _ _ hji]
      exact h3.2.2

/-- 0: what reads no memory; 1: what reads; else: an effect. -/
def mixF (P : Program) (ops : Array Oper) (Q : Exit → Act → World → Prop) (h : Heap) (T : Act → World → Prop) : List (Nat × Oper) → Act → World → Prop
  | [], a, w => T a w
  | (q, o) :: rest, a, w =>
    if q = 0 then ∃ v, YieldsD P ops (fun _ => True) o v a ∧ mixF P ops Q h T rest (a.put o.dst v) w
    else if q = 1 then ∃ v, YieldsD P ops (fun w => w.heap = h) o v a ∧ mixF P ops Q h T rest (a.put o.dst v) w
    else if Region.wanted o (yielded ops a.tmps) then o.wp P a w (fun a' w' => mixF P ops Q h T rest a' w') Q
    else mixF P ops Q h T rest (a.put o.dst undef) w

/-- What reads binds every effect. -/
def readsFirst (md : Region.Mode) (ops : Array Oper) (qs : List Nat) : Bool :=
  (List.range qs.length).all fun k => match qs[k]?, ops[k]? with
    | some q, some o => decide (q < 2) || ((List.range qs.length).all fun i => match qs[i]? with
      | some 1 => o.after.any fun e => Region.binds md e && e.on == i
      | _ => true)
    | _, _ => true
def CF (qs : List Nat) (h : Heap) (listed : Array Bool) (w : World) : Prop := (∀ (k q : Nat), qs[k]? = some q → 2 ≤ q → listed.getD k false = false) → w.heap = h
theorem CF.read {qs : List Nat} {h : Heap} {i q : Nat} (hq : qs[i]? = some q) (hlt : q < 2) (listed : Array Bool) (w : World) : CF qs h (listed.setIfInBounds i true) w ↔ CF qs h listed w := by
  unfold CF
  have key : ∀ (k q' : Nat), qs[k]? = some q' → 2 ≤ q' → (listed.setIfInBounds i true).getD k false = listed.getD k false := fun k q' hk hq' => by
    refine getD_set_ne false (fun e => ?_)
    subst e
    rw [hq] at hk
    simp only [Option.some.injEq] at hk
    omega
  constructor
  · exact fun hc hall => hc fun k q' hk hq' => by rw [key k q' hk hq']; exact hall k q' hk hq'
  · exact fun hc hall => hc fun k q' hk hq' => by have := hall k q' hk hq'; rwa [key k q' hk hq'] at this
theorem readsFirst_spec {qs : List Nat} (h : readsFirst md ops qs = true) {k q i : Nat} {o : Oper} (hk : qs[k]? = some q) (hq : 2 ≤ q) (ho : ops[k]? = some o) (hi : qs[i]? = some 1) :
    ∃ e ∈ o.after, Region.binds md e = true ∧ e.on = i := by
  have hkl : k < qs.length := (List.getElem?_eq_some_iff.1 hk).1
  have hil : i < qs.length := (List.getElem?_eq_some_iff.1 hi).1
  have h1 := List.all_eq_true.1 h k (List.mem_range.2 hkl)
  rw [hk, ho] at h1
  simp only [Bool.or_eq_true, decide_eq_true_eq] at h1
  rcases h1 with h1 | h1
  · omega
  · have h2 := List.all_eq_true.1 h1 i (List.mem_range.2 hil)
    rw [hi] at h2
    simp only [Array.any_eq_true, Bool.and_eq_true, beq_iff_eq] at h2
    first
      | (obtain ⟨e, he, hb, hon⟩ := h2; exact ⟨e, he, hb, hon⟩)
      | (obtain ⟨j, hj, hb, hon⟩ := h2; exact ⟨o.after[j], Array.getElem_mem hj, hb, hon⟩)

theorem wpAnyF_lex {g : Nat} {T : Act → World → Prop} {qs : List Nat} {h0 : Heap} (hsel : Region.noSelect ops = true) (hs : Region.sinkB md ops n = true) (hc : Region.chainB md ops n = true) (hn : n < ops.size)
    (hQ : ∀ c d v a w, Q (.panic c) (Act.put a d v) w → Q (.panic c) a w) (hrf : readsFirst md ops qs = true) :
    ∀ (l : List (Nat × Oper)) (k : Nat) (listed : Array Bool) (a : Act) (w : World), (∀ j x, l[j]? = some x → ops[k + j]? = some x.2 ∧ qs[k + j]? = some x.1) → k + l.length = n → HeadInv md ops n listed →
    lexMix md ops g (l.map fun x => decide (x.1 < 2)) k listed = true → CF qs h0 listed w → mixF P ops Q h0 T l a w →
    wpAnyF P md ops Q (CF qs h0) n (fun listed' a' w' => Region.seqB md ops g n listed' = true ∧ T a' w') l.length listed a w
  | [], k, listed, a, w, _, hk, _, hB, _, h => by
    have : k = n := by simpa using hk
    subst this
    exact ⟨by simpa [lexMix] using hB, h⟩
  | (q, o) :: l, k, listed, a, w, hl, hk, inv, hB, hC, h => by
    obtain ⟨h0', hq0⟩ : ops[k]? = some o ∧ qs[k]? = some q := by simpa using hl 0 (q, o) (by simp)
    simp only [List.map_cons, lexMix, Bool.and_eq_true] at hB
    obtain ⟨hq, hB'⟩ := hB
    have hkn : k < n := by simp only [List.length_cons] at hk; omega
    have hl' : ∀ j x, l[j]? = some x → ops[k + 1 + j]? = some x.2 ∧ qs[k + 1 + j]? = some x.1 := fun j x hx => by
      have := hl (j + 1) x (by simpa using hx)
      rwa [show k + (j + 1) = k + 1 + j from by omega] at this
    have hk' : k + 1 + l.length = n := by simp only [List.length_cons] at hk; omega
    by_cases hlt : q < 2
    · rw [if_pos (by simpa using hlt)] at hq
      simp only [Bool.and_eq_true] at hq
      have hr' : k ∈ Region.ready md ops listed := by simpa using hq.1
      have hC2 : ∀ listed w, CF qs h0 (listed.setIfInBounds k true) w ↔ CF qs h0 listed w := CF.read hq0 hlt
      have next : ∀ v, mixF P ops Q h0 T l (a.put o.dst v) w → wpAnyF P md ops Q (CF qs h0) n (fun listed' a' w' => Region.seqB md ops g n listed' = true ∧ T a' w') l.length (listed.setIfInBounds k true) (a.put o.dst v) w :=
        fun v hK => wpAnyF_lex hsel hs hc hn hQ hrf l (k + 1) _ _ w hl' hk' (inv.set hr' hkn) hB' ((hC2 _ _).2 hC) hK
      unfold mixF at h
      by_cases hz : q = 0
      · rw [if_pos hz] at h
        obtain ⟨v, hy, hK⟩ := h
        exact wpAnyF_first (U := fun _ => True) h0' (Region.noSelect_spec hsel) (fun c a w => hQ c o.dst v a w) hs hc hn hkn (fun listed' a' w' hL => seqB_ready hL.1) (fun _ _ _ _ _ => trivial) hC2 l.length listed a w inv (Region.free_spec h0' hq.2) hr' hy hC (next v hK)
      · have h1 : q = 1 := by omega
        subst h1
        rw [if_neg (by omega), if_pos rfl] at h
        obtain ⟨v, hy, hK⟩ := h
        refine wpAnyF_first (U := fun w => w.heap = h0) h0' (Region.noSelect_spec hsel) (fun c a w => hQ c o.dst v a w) hs hc hn hkn (fun listed' a' w' hL => seqB_ready hL.1) (fun listed w inv' hun hcf => hcf fun j q' hj hq' => ?_) hC2 l.length listed a w inv (Region.free_spec h0' hq.2) hr' hy hC (next v hK)
        cases hlj : listed.getD j false with
        | false => rfl
        | true =>
          exfalso
          have hjs : j < listed.size := by
            rcases Nat.lt_or_ge j listed.size with h | h
            · exact h
            · simp [Array.getElem?_eq_none h] at hlj
          obtain ⟨oj, hoj⟩ : ∃ oj, ops[j]? = some oj := ⟨ops[j]'(by rw [← inv'.size]; exact hjs), Array.getElem?_eq_getElem _⟩
          obtain ⟨e, he, hb, hon⟩ := readsFirst_spec hrf hj hq' hoj hq0
          have := inv'.closed j oj hoj hlj e he hb
          rw [hon, getD_both hun] at this
          cases this
    · rw [if_neg (by simpa using hlt)] at hq
      simp only [decide_eq_true_eq] at hq
      have hr' : k ∈ Region.ready md ops listed := by rw [hq]; simp
      have hCv : ∀ w', CF qs h0 (listed.setIfInBounds k true) w' := fun w' hall => by
        have h1 := hall k q hq0 (by omega)
        have h2 : k < listed.size := by
          have := (Array.getElem?_eq_some_iff.1 h0').1
          rw [inv.size]; exact this
        simp [h2] at h1
      unfold mixF at h
      rw [if_neg (by omega), if_neg (by omega)] at h
      refine ⟨fun h1 => (by rw [hq] at h1; cases h1), fun i hi => ?_⟩
      rw [hq, List.mem_singleton] at hi
      subst hi
      refine ⟨hkn, ?_⟩
      unfold wpOp
      simp only [h0']
      split
      · rename_i hw
        rw [if_pos hw] at h
        exact .inl (Oper.wp_mono (fun a' w' h' => ⟨hCv w', wpAnyF_lex hsel hs hc hn hQ hrf l (i + 1) _ a' w' hl' hk' (inv.set hr' hkn) hB' (hCv w') h'⟩) h)
      · rename_i hw
        rw [if_neg hw] at h
        exact ⟨hCv w, wpAnyF_lex hsel hs hc hn hQ hrf l (i + 1) _ _ w hl' hk' (inv.set hr' hkn) hB' (hCv w) h⟩

theorem region_fst [Gd] {id : Nat} {a : Act} {w : World} {l : List Oper} {h0 : Heap} (qs : List Nat) (hm : P.follows .mixedOrders = true) (hB : (lexMixB l.toArray (qs.map fun q => decide (q < 2)) && readsFirst .any l.toArray qs) = true)
    (hQ : PanicOk Q) (hw : w.heap = h0)
    (h : ∀ w', SameW w w' → w'.heap = w.heap → mixF P l.toArray Q h0 (fun a' w' => wpList P l.toArray Q (l.drop qs.length) a' w') (qs.zip l) a w') : (Code.region id l.toArray true).wp P Q a w := by
  simp only [lexMixB, Bool.and_eq_true, decide_eq_true_eq, List.length_map] at hB
  obtain ⟨⟨⟨⟨⟨hsel, hn⟩, hs⟩, hc⟩, hlex⟩, hrf⟩ := hB
  have hn' : qs.length < l.length := by simpa using hn
  have hzl : (qs.zip l).length = qs.length := by simp; omega
  have hdl : (l.drop qs.length).length = l.toArray.size - qs.length := by simp
  have inv0 : HeadInv .any l.toArray qs.length (Array.replicate l.toArray.size false) :=
    ⟨by simp, fun j oj _ hl => (by rw [getD_replicate_false] at hl; cases hl), fun t _ ht => getD_in (by simpa using ht) (getD_replicate_false _ _)⟩
  have H := wpAnyF_lex (md := .any) (g := l.toArray.size - qs.length) (h0 := h0) hsel hs hc hn hQ.ok hrf (qs.zip l) 0 _ a { w with drawn := w.drawn + 1 } (fun j x hj => by
    rw [List.getElem?_zip_eq_some] at hj
    simpa using hj.symm) (by simpa using hzl) inv0 (by
      have : ((qs.zip l).map fun x => decide (x.1 < 2)) = qs.map fun q => decide (q < 2) := by
        rw [show (fun x : Nat × Oper => decide (x.1 < 2)) = (fun q => decide (q < 2)) ∘ Prod.fst from rfl, ← List.map_map, List.map_fst_zip (by omega)]
      rw [this]; exact hlex) (fun _ => hw) (h { w with drawn := w.drawn + 1 } ⟨rfl, rfl, rfl, fun _ => by first | exact Nat.le_refl _ | exact Nat.le_succ _ | exact Nat.le_add_right _ _⟩ rfl)
  refine wp_region_any hm ?_
  have := wpAny_of_F (Q := Q) (g := l.toArray.size - qs.length) (fun listed a' w' hL => by
    have := wpAny_of_seq (md := .any) (Q' := Q) (l.drop qs.length) qs.length listed a' w' (fun j => by simp [List.getElem?_drop]) (by rw [hdl]; exact hL.1) hL.2
    rwa [hdl] at this) _ _ _ _ H
  rwa [hzl, show qs.length + (l.toArray.size - qs.length) = l.toArray.size from by omega] at this

variable {T : Act → World → Prop} {f : Nat → Value} {w : World} {rest : List (Nat × Oper)} {o : Oper} {h h0 : Heap} {m : Nat}
theorem fstM {d : Nat} {x : Operand} {v : Value} (hop : o.op = .move x ∨ o.op = .assign x) (hg : Region.wanted o (yielded ops (mkD ds m f).tmps) = true) (hd : o.dst = some d)
    (hv : evf m f x = v) (k : mixF P ops Q h0 T rest (mkD ds m (upd f d v)) w) : mixF P ops Q h0 T ((0, o) :: rest) (mkD ds m f) w := by
  unfold mixF
  rw [if_pos rfl]
  refine ⟨v, .inl ⟨hg, fun w _ => ?_⟩, ?_⟩
  · rw [mk_eval]
    rcases hop with h | h <;> simp [execOp, h, hv]
  · rw [hd, mk_put]; exact k
theorem fstP {d : Nat} {K : Value → Prop} {s : Sem Next} (he : execOp (evf m f) o = s) (hs : Sp P s K) (hg : Region.wanted o (yielded ops (mkD ds m f).tmps) = true) (hd : o.dst = some d)
    (k : ∀ v, K v → mixF P ops Q h0 T rest (mkD ds m (upd f d v)) w) : mixF P ops Q h0 T ((0, o) :: rest) (mkD ds m f) w := by
  subst he
  obtain ⟨v, hr, hk⟩ := hs
  unfold mixF
  rw [if_pos rfl]
  refine ⟨v, .inl ⟨hg, fun w _ => ?_⟩, ?_⟩
  · rw [mk_eval]; exact hr w
  · rw [hd, mk_put]; exact k v hk
theorem fstQ {d : Nat} {K : Value → Prop} {s : Sem Next} (he : execOp (evf m f) o = s) (hs : Sq P (Eq h0) s K) (hg : Region.wanted o (yielded ops (mkD ds m f).tmps) = true) (hd : o.dst = some d)
    (k : ∀ v, K v → mixF P ops Q h0 T rest (mkD ds m (upd f d v)) w) : mixF P ops Q h0 T ((1, o) :: rest) (mkD ds m f) w := by
  subst he
  obtain ⟨v, hr, hk⟩ := hs
  unfold mixF
  rw [if_neg (by omega), if_pos rfl]
  refine ⟨v, .inl ⟨hg, fun w hw => ?_⟩, ?_⟩
  · rw [mk_eval]; exact hr w hw.symm
  · rw [hd, mk_put]; exact k v hk
theorem fstX [Gd] {d : Nat} {K : Value → Heap → Prop} {s : Sem Next} (he : execOp (evf m f) o = s) (hs : Sx P s h K) (hw : w.heap = h) (hg : Region.wanted o (yielded ops (mkD ds m f).tmps) = true) (hd : o.dst = some d)
    (k : ∀ v h' w', w'.heap = h' → SameW w w' → K v h' → mixF P ops Q h0 T rest (mkD ds m (upd f d v)) w') {w0 : World} {A : Nat → (Nat → Value) → Prop} [hpn : PnOk ds Q w0 A] (hs0 : SameW w0 w := by assumption) (hA0 : A m f := by first | exact True.intro | exact ⟨rfl, rfl, rfl, trivial⟩ | exact ⟨rfl, rfl, rfl, rfl, rfl, rfl, rfl, rfl, rfl, trivial⟩) : mixF P ops Q h0 T ((2, o) :: rest) (mkD ds m f) w := by
  subst he
  unfold mixF
  rw [if_neg (by omega), if_neg (by omega), if_pos hg]
  unfold Oper.wp
  rw [mk_eval]
  refine upon_of_next (hs w hw) (fun v w' h1 h2 => ?_) rfl hpn hs0 hA0
  rw [hd, mk_put]
  exact k v _ w' rfl h1 h2
theorem fstU [Gd] {K : Value → Heap → Prop} {s : Sem Next} (he : execOp (evf m f) o = s) (hs : Sx P s h K) (hw : w.heap = h) (hg : Region.wanted o (yielded ops (mkD ds m f).tmps) = true) (hd : o.dst = none)
    (k : ∀ v h' w', w'.heap = h' → SameW w w' → K v h' → mixF P ops Q h0 T rest (mkD ds m f) w') {w0 : World} {A : Nat → (Nat → Value) → Prop} [hpn : PnOk ds Q w0 A] (hs0 : SameW w0 w := by assumption) (hA0 : A m f := by first | exact True.intro | exact ⟨rfl, rfl, rfl, trivial⟩ | exact ⟨rfl, rfl, rfl, rfl, rfl, rfl, rfl, rfl, rfl, trivial⟩) : mixF P ops Q h0 T ((2, o) :: rest) (mkD ds m f) w := by
  subst he
  unfold mixF
  rw [if_neg (by omega), if_neg (by omega), if_pos hg]
  unfold Oper.wp
  rw [mk_eval]
  refine upon_of_next (hs w hw) (fun v w' h1 h2 => ?_) rfl hpn hs0 hA0
  rw [hd]
  exact k v _ w' rfl h1 h2
theorem fstEnd {a : Act} (h : T a w) : mixF P ops Q h0 T [] a w := h
end mixf

/-! ### Code -/
section code
variable {P : Program} {Q : Exit → Act → World → Prop} {n : Nat} {f : Nat → Value} {w : World}

theorem region_seq {id : Nat} {l : List Oper} {a : Act} (h : wpList P l.toArray Q l a w) : (Code.region id l.toArray false).wp P Q a w := wp_region_lit h

theorem codeCond {c : Operand} {x y : Code} {v : Value} {A B : Prop} (hg : cond v A B) (hv : evf n f c = v)
    (hA : v = .bool true → A → x.wp P Q (mkD ds n f) w) (hB : v = .bool false → B → y.wp P Q (mkD ds n f) w) : (Code.cond c x y).wp P Q (mkD ds n f) w := by
  have he : (mkD ds n f).eval c = v := by rw [mk_eval]; exact hv
  cases v with
  | bool b =>
    cases b with
    | true => exact wp_cond_true he (hA rfl hg)
    | false => exact wp_cond_false he (hB rfl hg)
  | _ => exact hg.elim

theorem wp_loop_m {c : Code} {a : Act} (J : Nat → Act → World → Prop) (m0 : Nat) (h0 : J m0 a w)
    (round : ∀ m a w, J m a w → c.wp P (Exit.then (fun a' w' => ∃ m', m' < m ∧ J m' a' w') Q) a w) : (Code.loop c).wp P Q a w := by
  intro b k cs
  have key : ∀ m a w, J m a w →
      ∃ e a' w', Q e a' w' ∧ Arrives P (lone (b.at a (.code c :: .inLoop c :: k)) cs w) b k cs e a' w' := by
    intro m
    induction m using Nat.strongRecOn with
    | _ m ih =>
      intro a w hI
      obtain ⟨e, a₁, w₁, hq, harr⟩ := round m a w hI b (.inLoop c :: k) cs
      cases e with
      | normal =>
        obtain ⟨m', hlt, hI₁⟩ := hq
        obtain ⟨e₂, a₂, w₂, hq₂, harr₂⟩ := ih m' hlt a₁ w₁ hI₁
        exact ⟨e₂, a₂, w₂, hq₂, .of_steps (Steps.trans harr (.one step_inLoop)) harr₂⟩
      | exit id => exact ⟨_, a₁, w₁, hq, .pass (x := .inLoop c) rfl (fun _ _ => .inl (by simp)) harr⟩
      | goto l => exact ⟨_, a₁, w₁, hq, .pass (x := .inLoop c) rfl (fun _ _ => .inl (by simp)) harr⟩
      | ret => exact ⟨_, a₁, w₁, hq, .pass (x := .inLoop c) rfl (fun _ _ => .inl (by simp)) harr⟩
      | panic ch => exact ⟨_, a₁, w₁, hq, .pass (x := .inLoop c) rfl (fun _ _ => .inl (by simp)) harr⟩
      | outgrown => exact ⟨_, a₁, w₁, hq, .pass (x := .inLoop c) rfl (fun _ _ => .inl (by simp)) harr⟩
  obtain ⟨e, a', w', hq, harr⟩ := key m0 a w h0
  exact ⟨e, a', w', hq, .of_steps (.one step_loop) harr⟩

/-- Where a way ends at a name: the frame may be spelt otherwise. -/
theorem cast {K : Act → Prop} {n : Nat} {f g : Nat → Value} (he : mkD ds n f = mkD ds n g) (h : K (mkD ds n g)) : K (mkD ds n f) := by rw [he]; exact h

/-- A loop's shallow form: x0: what it begins with; 'body x h next'. -/
def loop {α : Type} (x0 : α) (h0 : Heap) (body : α → Heap → (α → Heap → Prop) → Prop) : Prop :=
  ∃ (I : Nat → α → Heap → Prop) (m0 : Nat), I m0 x0 h0 ∧ ∀ m x h, I m x h → body x h fun x' h' => ∃ m', m' < m ∧ I m' x' h'

theorem hc_of_wp [Gd] {g : FuncId} {fn : Func} {c : Code} {args : Array Value} {h : Heap} {K : Value → Heap → Prop} (hf : P.funcs[g]? = some fn) (hb : fn.body = some c)
    (hn : fn.ntmps = n) (ha : args ++ Array.replicate (n - args.size) undef = (mk n f).tmps)
    (hw : ∀ w : World, w.heap = h → c.wp P (bodyPost P fn (EndOk w K)) (mk n f) w) : HC P g args h K := by
  intro w hh
  refine calls_of_wp hf hb ?_
  rw [hn, ha]
  exact hw w hh

theorem post_ret {fn : Func} {R : Ending → World → Prop} {v : Value} (hr : (results fn (mk n f).tmps).run P w = .ok v w) (hR : R (.returned v) w) :
    bodyPost P fn R .ret (mk n f) w := ⟨rfl, v, hr, hR⟩
theorem post_end {fn : Func} {R : Ending → World → Prop} {v : Value} (hr : (results fn (mk n f).tmps).run P w = .ok v w) (hR : R (.returned v) w) :
    bodyPost P fn R .normal (mk n f) w := ⟨rfl, v, hr, hR⟩

theorem res_tmp {fn : Func} {t : Tmp} {v : Value} (h : fn.results = #[.tmp t]) (hn : Nat.blt t n = true) (hv : f t = v) :
    (results fn (mk n f).tmps).run P w = .ok v w := by
  rw [results_tmp h, mk_getD n f t hn, hv]
theorem res_tmp2 {fn : Func} {t u : Tmp} {v v' : Value} (h : fn.results = #[.tmp t, .tmp u]) (hn : Nat.blt t n = true) (hn' : Nat.blt u n = true) (hv : f t = v) (hv' : f u = v') :
    (results fn (mk n f).tmps).run P w = .ok (.tuple #[v, v']) w := by
  rw [results_tmp2 h, mk_getD n f t hn, mk_getD n f u hn', hv, hv']
/-- Results of which some lie in memory. -/
def rsem : List (Option TypeId × Value) → Sem (List Value)
  | [] => pure []
  | (none, v) :: r => do
    let l ← rsem r
    pure (v :: l)
  | (some t, x) :: r => do
    let v ← loadVar t (← asAddr x)
    let l ← rsem r
    pure (v :: l)
def rval (l : List (Option TypeId × Value)) : Sem Value := do
  let vs ← rsem l
  pure (match vs with | [v] => v | vs => .tuple vs.toArray)
def rrel (n : Nat) (f : Nat → Value) : List ResultVar → List (Option TypeId × Value) → Prop
  | [], [] => True
  | .tmp t :: rs, (none, v) :: l => Nat.blt t n = true ∧ f t = v ∧ rrel n f rs l
  | .cell t ty :: rs, (some ty', v) :: l => Nat.blt t n = true ∧ f t = v ∧ ty = ty' ∧ rrel n f rs l
  | _, _ => False
def rone (tmps : Array Value) : ResultVar → Sem Value
  | .tmp t => pure (tmps.getD t undef)
  | .cell a t => do loadVar t (← asAddr (tmps.getD a undef))
theorem rsem_eq : ∀ (rs : List ResultVar) (l : List (Option TypeId × Value)), rrel n f rs l → rs.mapM (rone (mk n f).tmps) = rsem l
  | [], [], _ => rfl
  | .tmp t :: rs, (none, v) :: l, h => by
    rw [List.mapM_cons, rsem_eq rs l h.2.2, rsem]
    simp only [rone, mk_getD n f t h.1, h.2.1]
    rfl
  | .cell t ty :: rs, (some ty', v) :: l, h => by
    obtain ⟨h1, h2, rfl, h4⟩ := h
    rw [List.mapM_cons, rsem_eq rs l h4, rsem]
    simp only [rone, mk_getD n f t h1, h2]
    simp
  | [], _ :: _, h => h.elim
  | .tmp _ :: _, [], h => h.elim
  | .cell _ _ :: _, [], h => h.elim
  | .tmp _ :: _, (some _, _) :: _, h => h.elim
  | .cell _ _ :: _, (none, _) :: _, h => h.elim
theorem results_list {fn : Func} {rs : List ResultVar} (h : fn.results = rs.toArray) (tmps : Array Value) :
    results fn tmps = (do let vs ← rs.mapM (rone tmps); pure (match vs with | [v] => v | vs => .tuple vs.toArray)) := by
  have e : results fn tmps = (do let vs ← fn.results.mapM (rone tmps); pure (if h : vs.size = 1 then vs[0] else .tuple vs)) := by
    unfold results
    congr 1
  rw [e, h, List.mapM_toArray, map_eq_pure_bind, bind_assoc]
  congr 1
  funext vs
  simp only [pure_bind]
  congr 1
  match vs with
  | [] => rfl
  | [v] => rfl
  | _ :: _ :: _ => rfl
def oRes (P : Program) (l : List (Option TypeId × Value)) (h : Heap) (K : Value → Heap → Prop) : Prop := Sq P (Eq h) (nv (rval l)) fun v => K v h
theorem post_res [Gd] {fn : Func} {h : Heap} {K : Value → Heap → Prop} {rs : List ResultVar} {l : List (Option TypeId × Value)} {w0 : World} (hg : oRes P l h K) (hw : w.heap = h) (hs : SameW w0 w)
    (hr : fn.results = rs.toArray) (hl : rrel n f rs l) : bodyPost P fn (EndOk w0 K) .ret (mk n f) w := by
  obtain ⟨v, hv, hk⟩ := hg
  have h1 := hv w hw.symm
  refine ⟨rfl, v, ?_, .inl ⟨v, rfl, hs, by rw [hw]; exact hk⟩⟩
  rw [results_list hr, rsem_eq rs l hl]
  have h2 : (nv (rval l)).run P w = .ok (.value v) w := h1
  unfold nv at h2
  rw [Sem.run_bind] at h2
  unfold rval at h2
  generalize (rsem l >>= fun vs => pure (match vs with | [v] => v | vs => Value.tuple vs.toArray)).run P w = r at h2 ⊢
  cases r with
  | ok x w' =>
    simp only [Result.andThen, pure, Sem.run] at h2
    injection h2 with h3 h4
    injection h3 with h5
    rw [h5, h4]
  | halt x w' => simp [Result.andThen] at h2
theorem res_none {fn : Func} (h : fn.results = #[]) : (results fn (mk n f).tmps).run P w = .ok (.tuple #[]) w := results_none h _ _ _

/-! ### Frames by what is known of them -/
def ovr : List (Nat × Value) → (Nat → Value) → Nat → Value
  | [], f, j => f j
  | (i, v) :: r, f, j => bif Nat.beq j i then v else ovr r f j
def agree : List (Nat × Value) → (Nat → Value) → Prop
  | [], _ => True
  | (i, v) :: r, f => f i = v ∧ agree r f
theorem ovr_self : ∀ {l : List (Nat × Value)} {f : Nat → Value}, agree l f → ovr l f = f
  | [], _, _ => rfl
  | (i, v) :: r, f, h => by
    funext j
    show (bif Nat.beq j i then v else ovr r f j) = f j
    rw [ovr_self h.2]
    by_cases hj : j = i
    · subst hj; simp [h.1]
    · have : Nat.beq j i = false := by simpa [← Bool.not_eq_true, Nat.beq_eq] using hj
      simp [this]
theorem at_ovr {K : Act → World → Prop} {l : List (Nat × Value)} (h : ∀ f, K (mkD ds n (ovr l f)) w) (ha : agree l f) : K (mkD ds n f) w := by
  have := h f
  rwa [ovr_self ha] at this
theorem at_ovr1 {K : Act → Prop} {l : List (Nat × Value)} (h : ∀ f, K (mkD ds n (ovr l f))) (ha : agree l f) : K (mkD ds n f) := by
  have := h f
  rwa [ovr_self ha] at this
theorem at_ovrN {K : Exit → Act → World → Prop} {l : List (Nat × Value)} (h : ∀ f, K .normal (mkD ds n (ovr l f)) w) (ha : agree l f) : K .normal (mkD ds n f) w := by
  have := h f
  rwa [ovr_self ha] at this
theorem mk_ovr {l : List (Nat × Value)} (ha : agree l f) : mkD ds n f = mkD ds n (ovr l f) := by rw [ovr_self ha]

theorem join_elim {κ : Type} {k : κ} {B : κ → Prop} (h : join k B) : ∃ k', k' = k ∧ B k' := ⟨k, rfl, h⟩

theorem thenN {y : Act → World → Prop} {a : Act} (h : y a w) : Exit.then y Q .normal a w := h
theorem thenE {y : Act → World → Prop} {a : Act} {id : Nat} (h : Q (.exit id) a w) : Exit.then y Q (.exit id) a w := h
theorem thenR {y : Act → World → Prop} {a : Act} (h : Q .ret a w) : Exit.then y Q .ret a w := h
theorem blkN {id : Nat} {a : Act} (h : Q .normal a w) : Exit.inBlock id Q .normal a w := h
theorem blkR {id : Nat} {a : Act} (h : Q .ret a w) : Exit.inBlock id Q .ret a w := h
theorem blkE {id : Nat} {a : Act} (h : Q .normal a w) : Exit.inBlock id Q (.exit id) a w := by simpa [Exit.inBlock] using h
theorem blkX {id id' : Nat} {a : Act} (hne : Nat.beq id' id = false) (h : Q (.exit id') a w) : Exit.inBlock id Q (.exit id') a w := by
  have : id' ≠ id := fun e => by subst e; simp at hne
  simpa [Exit.inBlock, this] using h

instance pnOk_base [Gd] {fn : Func} {w0 : World} {K : Value → Heap → Prop} : PnOk [] (bodyPost P fn (EndOk w0 K)) w0 (fun _ _ => True) := ⟨fun x _ _ _ _ hs hp => ⟨rfl, .inr ⟨x, rfl, hs, hp⟩⟩⟩
instance pnOk_then [Gd] {y : Act → World → Prop} {w0 : World} {A : Nat → (Nat → Value) → Prop} [h : PnOk ds Q w0 A] : PnOk ds (Exit.then y Q) w0 A := ⟨fun x n f w h1 h2 h3 => h.pn x n f w h1 h2 h3⟩
instance pnOk_blk [Gd] {id : Nat} {w0 : World} {A : Nat → (Nat → Value) → Prop} [h : PnOk ds Q w0 A] : PnOk ds (Exit.inBlock id Q) w0 A := ⟨fun x n f w h1 h2 h3 => h.pn x n f w h1 h2 h3⟩
theorem panicOk_then {y : Act → World → Prop} (h : PanicOk Q) : PanicOk (Exit.then y Q) := ⟨h.ok⟩
theorem panicOk_blk {id : Nat} (h : PanicOk Q) : PanicOk (Exit.inBlock id Q) := ⟨h.ok⟩
theorem panicOk_base {fn : Func} {R : Ending → World → Prop} : PanicOk (bodyPost P fn R) := ⟨fun _ d _ _ _ h => by
  cases d <;> exact h⟩

/-! Where ways meet inside a region. -/
theorem wpList_append {ops : Array Oper} : ∀ (l r : List Oper) (a : Act) (w : World), wpList P ops (Exit.then (wpList P ops Q r) Q) l a w → wpList P ops Q (l ++ r) a w
  | [], _, _, _, h => h
  | o :: l, r, a, w, h => by
    unfold wpList at h
    show wpList P ops Q (o :: (l ++ r)) a w
    unfold wpList
    split
    · rename_i hw
      rw [if_pos hw] at h
      refine h.imp (fun h => ?_) (fun h => ⟨h.1, ?_⟩)
      · have : ∀ {K K' : Act → World → Prop}, (∀ a w, K a w → K' a w) → o.wp P a w K (Exit.then (wpList P ops Q r) Q) → o.wp P a w K' Q := by
          intro K K' hK hh
          unfold Oper.wp at *
          generalize (execOp a.eval o).run P w = rr at *
          cases rr with
          | ok n w' =>
            cases n <;> simp only [Oper.upon] at hh ⊢ <;>
              first
                | exact hK _ _ hh
                | exact Calls.mono hh (fun e w'' he => by cases e <;> first | exact hK _ _ he | exact he)
                | exact Rows.mono hh (fun _ _ he => hK _ _ he)
          | halt x w' => cases x <;> simp only [Oper.upon] at hh ⊢ <;> exact hh
        exact this (fun a w => wpList_append l r a w) h
      · obtain ⟨a', w', h'⟩ := h.2
        exact ⟨a', w', h'⟩
    · rename_i hw
      rw [if_neg hw] at h
      exact wpList_append l r _ w h
theorem list_join {ops : Array Oper} {l : List Oper} {a : Act} (k : Nat)
    (h : ∀ K : Act → World → Prop, (∀ a w, wpList P ops Q (l.drop k) a w → K a w) → wpList P ops (Exit.then K Q) (l.take k) a w) : wpList P ops Q l a w := by
  have := wpList_append (P := P) (Q := Q) (ops := ops) (l.take k) (l.drop k) a w (h _ fun _ _ h => h)
  rwa [List.take_append_drop] at this
theorem wpQuiet_append {ops : Array Oper} {C : World → Prop} {Q : Act → Prop} : ∀ (l r : List Oper) (a : Act), wpQuiet P ops C (wpQuiet P ops C Q r) l a → wpQuiet P ops C Q (l ++ r) a
  | [], _, _, h => h
  | o :: l, r, a, h => by
    unfold wpQuiet at h
    show wpQuiet P ops C Q (o :: (l ++ r)) a
    unfold wpQuiet
    split
    · rename_i hw
      rw [if_pos hw] at h
      exact Oper.quiet_mono (fun a => wpQuiet_append l r a) h
    · rename_i hw
      rw [if_neg hw] at h
      exact wpQuiet_append l r _ h
theorem quiet_join {ops : Array Oper} {C : World → Prop} {Q : Act → Prop} {l : List Oper} {a : Act} (k : Nat)
    (h : ∀ K : Act → Prop, (∀ a, wpQuiet P ops C Q (l.drop k) a → K a) → wpQuiet P ops C K (l.take k) a) : wpQuiet P ops C Q l a := by
  have := wpQuiet_append (P := P) (Q := Q) (ops := ops) (C := C) (l.take k) (l.drop k) a (h _ fun _ h => h)
  rwa [List.take_append_drop] at this
theorem mixL_append {ops : Array Oper} {C : World → Prop} {T : Act → World → Prop} : ∀ (l r : List (Bool × Oper)) (a : Act) (w : World), mixL P ops Q C (mixL P ops Q C T r) l a w → mixL P ops Q C T (l ++ r) a w
  | [], _, _, _, h => h
  | (q, o) :: l, r, a, w, h => by
    unfold mixL at h
    show mixL P ops Q C T ((q, o) :: (l ++ r)) a w
    unfold mixL
    split
    · rename_i hq
      rw [if_pos hq] at h
      obtain ⟨v, hv, h⟩ := h
      exact ⟨v, hv, mixL_append l r _ w h⟩
    · rename_i hq
      rw [if_neg hq] at h
      split
      · rename_i hw
        rw [if_pos hw] at h
        exact Oper.wp_mono (fun a w h => ⟨h.1, mixL_append l r a w h.2⟩) h
      · rename_i hw
        rw [if_neg hw] at h
        exact mixL_append l r _ w h
theorem mix_join {ops : Array Oper} {C : World → Prop} {T : Act → World → Prop} {l : List (Bool × Oper)} {a : Act} (k : Nat)
    (h : ∀ K : Act → World → Prop, (∀ a w, mixL P ops Q C T (l.drop k) a w → K a w) → mixL P ops Q C K (l.take k) a w) : mixL P ops Q C T l a w := by
  have := mixL_append (P := P) (Q := Q) (ops := ops) (C := C) (T := T) (l.take k) (l.drop k) a w (h _ fun _ _ h => h)
  rwa [List.take_append_drop] at this
theorem quietEnd {ops : Array Oper} {C : World → Prop} {Q : Act → Prop} {a : Act} (h : Q a) : wpQuiet P ops C Q [] a := h
theorem mixEnd {ops : Array Oper} {C : World → Prop} {T : Act → World → Prop} {a : Act} (h : T a w) : mixL P ops Q C T [] a w := h
theorem cond_split {v : Value} {A B G : Prop} (hg : cond v A B) (hA : v = .bool true → A → G) (hB : v = .bool false → B → G) : G := by
  cases v with
  | bool b => cases b with
    | true => exact hA rfl hg
    | false => exact hB rfl hg
  | _ => exact hg.elim
end code

/-! ### Loops -/
def loop0 (h0 : Heap) (body : Heap → (Heap → Prop) → Prop) : Prop :=
  ∃ (I : Nat → Heap → Prop) (m0 : Nat), I m0 h0 ∧ ∀ m h, I m h → body h fun h' => ∃ m', m' < m ∧ I m' h'
def loop1 (a0 : Value) (h0 : Heap) (body : Value → Heap → (Value → Heap → Prop) → Prop) : Prop :=
  ∃ (I : Nat → Value → Heap → Prop) (m0 : Nat), I m0 a0 h0 ∧ ∀ m a h, I m a h → body a h fun a' h' => ∃ m', m' < m ∧ I m' a' h'
def loop2 (a0 b0 : Value) (h0 : Heap) (body : Value → Value → Heap → (Value → Value → Heap → Prop) → Prop) : Prop :=
  ∃ (I : Nat → Value → Value → Heap → Prop) (m0 : Nat), I m0 a0 b0 h0 ∧ ∀ m a b h, I m a b h → body a b h fun a' b' h' => ∃ m', m' < m ∧ I m' a' b' h'
def loop3 (a0 b0 c0 : Value) (h0 : Heap) (body : Value → Value → Value → Heap → (Value → Value → Value → Heap → Prop) → Prop) : Prop :=
  ∃ (I : Nat → Value → Value → Value → Heap → Prop) (m0 : Nat), I m0 a0 b0 c0 h0 ∧ ∀ m a b c h, I m a b c h → body a b c h fun a' b' c' h' => ∃ m', m' < m ∧ I m' a' b' c' h'
def loop4 (a0 b0 c0 d0 : Value) (h0 : Heap) (body : Value → Value → Value → Value → Heap → (Value → Value → Value → Value → Heap → Prop) → Prop) : Prop :=
  ∃ (I : Nat → Value → Value → Value → Value → Heap → Prop) (m0 : Nat), I m0 a0 b0 c0 d0 h0 ∧ ∀ m a b c d h, I m a b c d h → body a b c d h fun a' b' c' d' h' => ∃ m', m' < m ∧ I m' a' b' c' d' h'
def loop5 (a0 b0 c0 d0 e0 : Value) (h0 : Heap) (body : Value → Value → Value → Value → Value → Heap → (Value → Value → Value → Value → Value → Heap → Prop) → Prop) : Prop :=
  ∃ (I : Nat → Value → Value → Value → Value → Value → Heap → Prop) (m0 : Nat), I m0 a0 b0 c0 d0 e0 h0 ∧ ∀ m a b c d e h, I m a b c d e h → body a b c d e h fun a' b' c' d' e' h' => ∃ m', m' < m ∧ I m' a' b' c' d' e' h'
def loop6 (a0 b0 c0 d0 e0 g0 : Value) (h0 : Heap) (body : Value → Value → Value → Value → Value → Value → Heap → (Value → Value → Value → Value → Value → Value → Heap → Prop) → Prop) : Prop :=
  ∃ (I : Nat → Value → Value → Value → Value → Value → Value → Heap → Prop) (m0 : Nat), I m0 a0 b0 c0 d0 e0 g0 h0 ∧ ∀ m a b c d e g h, I m a b c d e g h → body a b c d e g h fun a' b' c' d' e' g' h' => ∃ m', m' < m ∧ I m' a' b' c' d' e' g' h'

/-! ### The operations -/
section ops
variable (P : Program)
def drawn (h : Heap) (B : (Heap → Prop) → Prop) : Prop := ∃ D : Heap → Prop, D h ∧ B D
def any (D : Heap → Prop) (K : Heap → Prop) : Prop := ∀ h, D h → K h

def callSem (f : Value) (args : Array Value) : Sem Next := do let d ← Deferred.ofValue f args; invoke d.target d.args
def invokeSem (recv : Value) (name : String) (args : Array Value) : Sem Next := invoke (.fn (.method name) #[]) (#[recv] ++ args)
def pickSem (c a b : Value) : Sem Next := do pure (.value (if ← asBool c then a else b))
def nilSem (x : Value) : Sem Next :=
  match x with
  | .pointer none | .nilIface | .nilFunc => runtimePanic .nilDeref
  | .func (.method name) first captured =>
    match (first[0]? : Option Value) with
    | some .nilIface => runtimePanic .nilDeref
    | some (.iface t w) => do
      if (← nilAhead ((← program).types.size + Made.depth) t w name) != some false then
        unsupported (.noEntry "op/nilCheck.the method's receiver behind this interface value is a nil pointer, or cannot be seen to be none, and the arguments act or may panic (ledger 612)")
      pure (.value (.func (.method name) first captured))
    | _ => pure (.value (.func (.method name) first captured))
  | x => pure (.value x)

theorem ex_call {ρ : Operand → Value} {o : Oper} {f : Operand} {l : List Operand} {ats : Array TypeId} (h : o.op = .call { callee := .value f, args := l.toArray, argTypes := ats }) :
    execOp ρ o = callSem (ρ f) (l.map ρ).toArray := by
  simp [execOp, h, resolve, callSem]
theorem ex_invoke {ρ : Operand → Value} {o : Oper} {f : Operand} {m : String} {l : List Operand} {ats : Array TypeId} (h : o.op = .call { callee := .invoke f m, args := l.toArray, argTypes := ats }) :
    execOp ρ o = invokeSem (ρ f) m (l.map ρ).toArray := by
  simp [execOp, h, resolve, invokeSem]
def isConstOpd : Operand → Bool
  | .const _ => true
  | _ => false
theorem ex_blt {ρ : Operand → Value} {o : Oper} {b : Builtin} {l : List Operand} {ats : Array TypeId} (h : o.op = .call { callee := .builtin b, args := l.toArray, argTypes := ats }) :
    execOp ρ o = builtin b ats o.type (l.map isConstOpd).toArray (l.map ρ).toArray := by
  simp only [execOp, h, resolve, pure_bind, invoke, List.map_toArray]
  congr 2
theorem ex_build {ρ : Operand → Value} {o : Oper} {t : TypeId} {l : List (Nat × Operand)} (h : o.op = .build t l.toArray) :
    execOp ρ o = nv (Instr.build t (l.map fun p => (p.1, ρ p.2)).toArray) := by
  simp [execOp, h, nv]
theorem ex_buildSlice {ρ : Operand → Value} {o : Oper} {t : TypeId} {k : Nat} {l : List (Nat × Operand)} (h : o.op = .buildSlice t k l.toArray) :
    execOp ρ o = nv (Instr.buildSlice t k (l.map fun p => (p.1, ρ p.2)).toArray) := by
  simp [execOp, h, nv]
theorem ex_makeFunc {ρ : Operand → Value} {o : Oper} {fn : Fn} {l r : List Operand} (h : o.op = .makeFunc fn l.toArray r.toArray) :
    execOp ρ o = nv (Instr.makeFunc fn (l.map ρ).toArray (r.map ρ).toArray) := by
  simp [execOp, h, nv]

def oPick (c a b : Value) (K : Value → Prop) : Prop := Sp P (pickSem c a b) K
def oNil (x : Value) (K : Value → Prop) : Prop := Sp P (nilSem x) K
def oBin (op : BinOp) (t : TypeId) (x y : Operand) (a b : Value) (K : Value → Prop) : Prop := Sp P (nv (do eqGuard op t x y a b; binOp op t a b)) K
def oUn (op : UnOp) (a : Value) (K : Value → Prop) : Prop := Sp P (nv (Op.unary op a)) K
def oConv (s d : TypeId) (a : Value) (K : Value → Prop) : Prop := Sp P (nv (convert s d a)) K
def oConvX [Gd] (s d : TypeId) (a : Value) (h : Heap) (K : Value → Heap → Prop) : Prop := Sx P (nv (convert s d a)) h K
def oConvQ (s d : TypeId) (a : Value) (D : Heap → Prop) (K : Value → Prop) : Prop := Sq P D (nv (convert s d a)) K
/-- A panic: no walk that answers goes there. -/
def oPanic [Gd] (a : Value) (h : Heap) (K : Value → Heap → Prop) : Prop := Sx P (nv (Instr.panic a)) h K
def oIface (t : TypeId) (a : Value) (K : Value → Prop) : Prop := Sp P (nv (Instr.makeInterface t a)) K
def oFunc (fn : Fn) (l r : Array Value) (K : Value → Prop) : Prop := Sp P (nv (Instr.makeFunc fn l r)) K
def oSlice (t : TypeId) (a : Value) (lo hi mx : Option Value) (K : Value → Prop) : Prop := Sp P (nv (Instr.sliceAt t a lo hi mx)) K
def oFieldAddr (t : TypeId) (a : Value) (f : Nat) (D : Heap → Prop) (K : Value → Prop) : Prop := Sq P D (nv (Instr.fieldAt t a f)) K
def oField (t : TypeId) (a : Value) (f : Nat) (K : Value → Prop) : Prop := Sp P (nv (Instr.field t a f)) K
def oIdx (t : TypeId) (a i : Value) (K : Value → Prop) : Prop := Sp P (nv (Instr.indexAt t a i)) K
def oIndex (t : TypeId) (a i : Value) (K : Value → Prop) : Prop := Sp P (nv (Instr.index t a i)) K
def oExt (a : Value) (i : Nat) (K : Value → Prop) : Prop := Sp P (nv (Instr.extract a i)) K
def oAssert (x : Value) (t asserted : TypeId) (ok : Bool) (K : Value → Prop) : Prop := Sp P (nv (Instr.typeAssert x t asserted ok)) K
def oBuild (t : TypeId) (l : Array (Nat × Value)) (K : Value → Prop) : Prop := Sp P (nv (Instr.build t l)) K
def oLoad (t : TypeId) (a : Value) (D : Heap → Prop) (K : Value → Prop) : Prop := Sq P D (nv (Instr.loadAt t a)) K
def oLook (t : TypeId) (m k : Value) (ok : Bool) (D : Heap → Prop) (K : Value → Prop) : Prop := Sq P D (nv (Instr.lookup t m k ok)) K
def oEntry (i : Value) (D : Heap → Prop) (K : Value → Prop) : Prop := Sq P D (nv (Instr.entry i)) K
def oLen (ats : Array TypeId) (t : TypeId) (a : Value) (K : Value → Prop) : Prop := Sp P (nv (Builtin.len_ ats t #[a])) K
def oLenM (ats : Array TypeId) (t : TypeId) (a : Value) (D : Heap → Prop) (K : Value → Prop) : Prop := Sq P D (nv (Builtin.len_ ats t #[a])) K
def oCap (ats : Array TypeId) (t : TypeId) (a : Value) (K : Value → Prop) : Prop := Sp P (nv (Builtin.cap_ ats t #[a])) K
def oMin (ats : Array TypeId) (t : TypeId) (l : Array Value) (K : Value → Prop) : Prop := Sp P (nv (Builtin.min_ ats t l)) K
def oMax (ats : Array TypeId) (t : TypeId) (l : Array Value) (K : Value → Prop) : Prop := Sp P (nv (Builtin.max_ ats t l)) K
def oAlloc [Gd] (t : TypeId) (h : Heap) (K : Value → Heap → Prop) : Prop := Sx P (nv (Instr.alloc t true (.tuple #[]))) h K
def oBox [Gd] (t : TypeId) (a : Value) (h : Heap) (K : Value → Heap → Prop) : Prop := Sx P (nv (Instr.box t a)) h K
def oBuildSlice [Gd] (t : TypeId) (k : Nat) (l : Array (Nat × Value)) (h : Heap) (K : Value → Heap → Prop) : Prop := Sx P (nv (Instr.buildSlice t k l)) h K
def oStore [Gd] (t : TypeId) (a v : Value) (h : Heap) (K : Value → Heap → Prop) : Prop := Sx P (nu (Instr.storeAt t a v)) h K
def oMkMap [Gd] (t : TypeId) (r : Option Value) (h : Heap) (K : Value → Heap → Prop) : Prop := Sx P (nv (Instr.makeMap t r)) h K
def oMkSlice [Gd] (t : TypeId) (l c : Value) (h : Heap) (K : Value → Heap → Prop) : Prop := Sx P (nv (Instr.makeSlice t l c)) h K
def oUpd [Gd] (t : TypeId) (m k v : Value) (h : Heap) (K : Value → Heap → Prop) : Prop := Sx P (nu (Instr.mapUpdate t m k v)) h K
def oMapEntry [Gd] (t : TypeId) (m k : Value) (h : Heap) (K : Value → Heap → Prop) : Prop := Sx P (nv (Instr.mapEntry t m k)) h K
def oEntryStore [Gd] (t : TypeId) (m s v : Value) (h : Heap) (K : Value → Heap → Prop) : Prop := Sx P (nu (Instr.entryStore t m s v)) h K
def oRange [Gd] (t : TypeId) (a : Value) (h : Heap) (K : Value → Heap → Prop) : Prop := Sx P (nv (Instr.range t a)) h K
def oNext [Gd] (i : Value) (s : Bool) (t : TypeId) (h : Heap) (K : Value → Heap → Prop) : Prop := Sx P (nv (Instr.next i s t)) h K
def oAppend [Gd] (ats : Array TypeId) (t : TypeId) (l : Array Value) (h : Heap) (K : Value → Heap → Prop) : Prop := Sx P (nv (Builtin.append_ ats t l)) h K
def oCopy [Gd] (ats : Array TypeId) (t : TypeId) (l : Array Value) (h : Heap) (K : Value → Heap → Prop) : Prop := Sx P (nv (Builtin.copy_ ats t l)) h K
def oDelete [Gd] (ats : Array TypeId) (t : TypeId) (l : Array Value) (h : Heap) (K : Value → Heap → Prop) : Prop := Sx P (nv (Builtin.delete_ ats t l)) h K
def oClear [Gd] (ats : Array TypeId) (t : TypeId) (l : Array Value) (h : Heap) (K : Value → Heap → Prop) : Prop := Sx P (nv (Builtin.clear_ ats t l)) h K
def oCall [Gd] (f : Value) (l : Array Value) (h : Heap) (K : Value → Heap → Prop) : Prop := Sx P (callSem f l) h K
def oInvoke [Gd] (r : Value) (m : String) (l : Array Value) (h : Heap) (K : Value → Heap → Prop) : Prop := Sx P (invokeSem r m l) h K
def oCallQ [Gd] (f : Value) (l : Array Value) (D : Heap → Prop) (K : Value → Prop) : Prop := Sc P D (callSem f l) K
def oInvokeQ [Gd] (r : Value) (m : String) (l : Array Value) (D : Heap → Prop) (K : Value → Prop) : Prop := Sc P D (invokeSem r m l) K
end ops

/-! ### Short forms of the steps -/
section short
variable {P : Program} {ops : Array Oper} {Q : Exit → Act → World → Prop} {n : Nat} {f : Nat → Value} {w : World} {rest : List Oper} {o : Oper} {h : Heap}
theorem sP {d : Nat} {K : Value → Prop} {s : Sem Next} (he : execOp (evf n f) o = s) (hs : Sp P s K) (hg : o.guard = none) (hd : o.dst = some d)
    (k : ∀ v, K v → wpList P ops Q rest (mkD ds n (upd f d v)) w) : wpList P ops Q (o :: rest) (mkD ds n f) w := stepP he hs (wanted_none hg) hd k
theorem sQ {d : Nat} {K : Value → Prop} {s : Sem Next} (he : execOp (evf n f) o = s) (hs : Sq P (Eq h) s K) (hw : w.heap = h) (hg : o.guard = none) (hd : o.dst = some d)
    (k : ∀ v, K v → wpList P ops Q rest (mkD ds n (upd f d v)) w) : wpList P ops Q (o :: rest) (mkD ds n f) w := stepQ he hs hw (wanted_none hg) hd k
theorem sM (v : Value) {d : Nat} {x : Operand} (hop : o.op = .move x) (hg : o.guard = none) (hd : o.dst = some d) (hv : evf n f x = v) (k : wpList P ops Q rest (mkD ds n (upd f d v)) w) :
    wpList P ops Q (o :: rest) (mkD ds n f) w := stepM (.inl hop) (wanted_none hg) hd hv k
theorem sA (v : Value) {d : Nat} {x : Operand} (hop : o.op = .assign x) (hg : o.guard = none) (hd : o.dst = some d) (hv : evf n f x = v) (k : wpList P ops Q rest (mkD ds n (upd f d v)) w) :
    wpList P ops Q (o :: rest) (mkD ds n f) w := stepM (.inr hop) (wanted_none hg) hd hv k
theorem sX [Gd] {d : Nat} {K : Value → Heap → Prop} {s : Sem Next} (he : execOp (evf n f) o = s) (hs : Sx P s h K) (hw : w.heap = h) (hg : o.guard = none) (hd : o.dst = some d) {w0 : World} {A : Nat → (Nat → Value) → Prop} [hpn : PnOk ds Q w0 A] (hs0 : SameW w0 w)
    (k : ∀ v h' w', w'.heap = h' → SameW w0 w' → K v h' → wpList P ops Q rest (mkD ds n (upd f d v)) w')
    (hA0 : A n f := by first | exact True.intro | exact ⟨rfl, rfl, rfl, trivial⟩ | exact ⟨rfl, rfl, rfl, rfl, rfl, rfl, rfl, rfl, rfl, trivial⟩) : wpList P ops Q (o :: rest) (mkD ds n f) w :=
  stepX he hs hw (wanted_none hg) hd (fun v h' w' h1 h2 h3 => k v h' w' h1 (hs0.trans h2) h3) hs0 hA0
theorem sU [Gd] {K : Value → Heap → Prop} {s : Sem Next} (he : execOp (evf n f) o = s) (hs : Sx P s h K) (hw : w.heap = h) (hg : o.guard = none) (hd : o.dst = none) {w0 : World} {A : Nat → (Nat → Value) → Prop} [hpn : PnOk ds Q w0 A] (hs0 : SameW w0 w)
    (k : ∀ v h' w', w'.heap = h' → SameW w0 w' → K v h' → wpList P ops Q rest (mkD ds n f) w')
    (hA0 : A n f := by first | exact True.intro | exact ⟨rfl, rfl, rfl, trivial⟩ | exact ⟨rfl, rfl, rfl, rfl, rfl, rfl, rfl, rfl, rfl, trivial⟩) : wpList P ops Q (o :: rest) (mkD ds n f) w :=
  stepU he hs hw (wanted_none hg) hd (fun v h' w' h1 h2 h3 => k v h' w' h1 (hs0.trans h2) h3) hs0 hA0
end short
end Go.Sh
