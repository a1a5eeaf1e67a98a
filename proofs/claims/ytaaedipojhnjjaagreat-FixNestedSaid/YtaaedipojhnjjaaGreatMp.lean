/- Maps with strings as keys, ranges over them, bytes and strings, calls: the rules, over any program. -/
import Derived.Test.YtaaedipojhnjjaaGreatOp
set_option linter.unusedVariables false
namespace Go.Sh
section maps
variable {P : Program}

def ents (m : List (Str × Value)) (st : List Nat) : List MapEntry := (m.zip st).map fun p => ⟨str p.1.1, p.1.2, p.2⟩
def lookI (m : List (Str × Value)) (k : Str) (i : Nat) : Option (Nat × Value) :=
  match m with
  | [] => none
  | (k', x) :: m => if k' = k then some (i, x) else lookI m k (i + 1)
def look (m : List (Str × Value)) (k : Str) : Option Value :=
  match m with
  | [] => none
  | (k', x) :: m => if k' = k then some x else look m k
def ups (m : List (Str × Value)) (k : Str) (x : Value) : List (Str × Value) :=
  match m with
  | [] => [(k, x)]
  | (k', y) :: m => if k' = k then (k, x) :: m else (k', y) :: ups m k x
theorem str_eq (a b : Str) : ((⟨a.toArray⟩ : ByteArray) == ⟨b.toArray⟩) = decide (a = b) := by
  rw [show ((⟨a.toArray⟩ : ByteArray) == ⟨b.toArray⟩) = (a.toArray == b.toArray) from rfl, Bool.eq_iff_iff]
  simp
/-- A map that can be read. -/
structure MapOk (m : List (Str × Value)) (st : List Nat) (c : Nat) : Prop where
  len : m.length = st.length
  keys : (m.map (·.1)).Nodup
  born : st.Nodup
  lt : ∀ b ∈ st, b < c
def RdM (h : Heap) (v : Value) (m : List (Str × Value)) (st : List Nat) (c : Nat) : Prop :=
  MapOk m st c ∧ ∃ r, v = .map (some r) ∧ h[r]? = some (.map (ents m st).toArray c)
def MapS (v : Value) (m : List (Str × Value)) (st : List Nat) (c : Nat) : HP :=
  ⟨fun h S => MapOk m st c ∧ ∃ r, v = .map (some r) ∧ S r ∧ h[r]? = some (.map (ents m st).toArray c),
   fun h h' S ⟨h1, r, h2, h3, h4⟩ he => ⟨h1, r, h2, h3, (he r h3).trans h4⟩⟩
def MapO (v : Value) (m : List (Str × Value)) : HP := HP.ex fun st => HP.ex fun c => MapS v m st c
theorem run_getObj {w : World} {r : Nat} {o : Obj} (h : w.heap[r]? = some o) (hc : ∀ a b d, o ≠ .cells a b d) : (getObj r).run P w = .ok o w := by
  unfold getObj
  simp only [Sem.run, h]
theorem run_setObj {w : World} {r : Nat} {o o' : Obj} (h : w.heap[r]? = some o) (hc : ∀ a b d, o ≠ .cells a b d) : (setObj r o').run P w = .ok () { w with heap := setB w.heap r o' } := by
  unfold setObj
  simp only [Sem.run, h]
  cases o <;> first | rfl | (rename_i a b d; exact absurd rfl (hc a b d))

/-! Ranging over a map whose entries stay the same ones (their values may turn). 'ks': the keys that have come. -/
def stampOf (keys : List Str) (st : List Nat) (k : Str) : Nat :=
  match keys, st with
  | k' :: keys, b :: st => if k' = k then b else stampOf keys st k
  | _, _ => 0
def IterS (it v : Value) (keys : List Str) (st : List Nat) (c : Nat) (ks : List Str) : HP :=
  ⟨fun h S => ∃ i r, it = .pointer (some ⟨i, 0, none⟩) ∧ v = .map (some r) ∧ S i ∧ h[i]? = some (.mapIter (some r) c (ks.map (stampOf keys st)).toArray c),
   fun h h' S ⟨i, r, h1, h2, h3, h4⟩ he => ⟨i, r, h1, h2, h3, (he i h3).trans h4⟩⟩
end maps

section bytes
variable {P : Program}
def bytesV (l : Str) : List Value := l.map fun c => .int .u8 c.toNat
/-! Calls. -/
/-- A function of the program's own text. -/
class Fnc (P : Program) (f : FuncId) : Prop where
  run : ∀ args w, (callFunc f args).run P w = .ok (.enter f args) w
end bytes
end Go.Sh
