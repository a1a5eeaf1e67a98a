/- Heaps told by parts that own their blocks; and the rules of the operations, over any program. -/
import Derived.Test.YtfaieigeojiiiaaGreatSh
import Derived.WalkSpells
import Derived.WalkLawsBesides
set_option linter.unusedVariables false
namespace Go.Sh

/-! ### Cells -/
def cellAt (h : Heap) (a : Addr) : Option Value :=
  match h[a.block]? with
  | some (.cells c _ _) => if a.spot.isSome then none else c[a.off]?
  | _ => none
def frozenAt (h : Heap) (a : Addr) : Bool :=
  match h[a.block]? with
  | some (.cells _ _ (lo, hi)) => lo ≤ a.off && a.off < hi
  | _ => false
theorem cell?_eq (w : World) (a : Addr) : w.cell? a = cellAt w.heap a := rfl
/-! ### Parts -/
structure HP where
  own : Heap → (Nat → Prop) → Prop
  loc : ∀ h h' S, own h S → (∀ b, S b → h'[b]? = h[b]?) → own h' S

def Sep (h : Heap) : List HP → (Nat → Prop) → Prop
  | [], _ => True
  | A :: L, U => ∃ S : Nat → Prop, A.own h S ∧ (∀ b, S b → U b) ∧ Sep h L (fun b => U b ∧ ¬ S b)

theorem Sep.mono {h : Heap} : ∀ {L : List HP} {U U' : Nat → Prop}, (∀ b, U b → U' b) → Sep h L U → Sep h L U'
  | [], _, _, _, _ => trivial
  | _ :: _, _, _, hu, ⟨S, hA, hS, hL⟩ => ⟨S, hA, fun b hb => hu b (hS b hb), Sep.mono (fun b hb => ⟨hu b hb.1, hb.2⟩) hL⟩
theorem Sep.loc {h h' : Heap} : ∀ {L : List HP} {U : Nat → Prop}, Sep h L U → (∀ b, U b → h'[b]? = h[b]?) → Sep h' L U
  | [], _, _, _ => trivial
  | A :: _, _, ⟨S, hA, hS, hL⟩, he => ⟨S, A.loc _ _ _ hA fun b hb => he b (hS b hb), hS, Sep.loc hL fun b hb => he b hb.1⟩
theorem Sep.swap {h : Heap} {A B : HP} {L : List HP} {U : Nat → Prop} : Sep h (A :: B :: L) U → Sep h (B :: A :: L) U := by
  rintro ⟨S, hA, hS, T, hB, hT, hL⟩
  refine ⟨T, hB, fun b hb => (hT b hb).1, S, hA, fun b hb => ⟨hS b hb, fun ht => (hT b ht).2 hb⟩, Sep.mono (fun b hb => ⟨⟨hb.1.1, hb.2⟩, hb.1.2⟩) hL⟩
theorem Sep.perm {h : Heap} {L L' : List HP} (p : L.Perm L') : ∀ {U : Nat → Prop}, Sep h L U → Sep h L' U := by
  induction p with
  | nil => exact fun h => h
  | cons x _ ih => rintro U ⟨S, hA, hS, hL⟩; exact ⟨S, hA, hS, ih hL⟩
  | swap x y l => exact fun h => Sep.swap h
  | trans _ _ ih1 ih2 => exact fun h => ih2 (ih1 h)
theorem Sep.append {h : Heap} : ∀ {L L' : List HP} {U V : Nat → Prop}, Sep h L U → Sep h L' V → (∀ b, U b → ¬ V b) → Sep h (L ++ L') (fun b => U b ∨ V b)
  | [], _, _, _, _, h', _ => Sep.mono (fun _ hb => .inr hb) h'
  | _ :: _, _, _, _, ⟨S, hA, hS, hL⟩, h', hd => ⟨S, hA, fun b hb => .inl (hS b hb),
      Sep.mono (fun b hb => hb.elim (fun hu => ⟨.inl hu.1, hu.2⟩) (fun hv => ⟨.inr hv, fun hs => hd b (hS b hs) hv⟩)) (Sep.append hL h' fun b hb => hd b hb.1)⟩
/-- What was there at the beginning is as it was; beside it there are these parts. -/
def St (h0 h : Heap) (L : List HP) : Prop := Ext h0 h ∧ Sep h L (fun b => h0.size ≤ b ∧ b < h.size)

theorem St.ext {h0 h : Heap} {L : List HP} (s : St h0 h L) : Ext h0 h := s.1
theorem St.perm {h0 h : Heap} {L L' : List HP} (s : St h0 h L) (p : L.Perm L') : St h0 h L' := ⟨s.1, Sep.perm p s.2⟩
theorem St.imp {h0 h : Heap} {A A' : HP} {L : List HP} (s : St h0 h (A :: L)) (f : ∀ S, A.own h S → A'.own h S) : St h0 h (A' :: L) := by
  obtain ⟨he, S, hA, r⟩ := s
  exact ⟨he, S, f S hA, r⟩
theorem St.drop {h0 h : Heap} {A : HP} {L : List HP} (s : St h0 h (A :: L)) : St h0 h L := by
  obtain ⟨he, S, _, _, r⟩ := s
  exact ⟨he, Sep.mono (fun b hb => hb.1) r⟩
theorem St.get {h0 h : Heap} {A : HP} {L : List HP} (s : St h0 h (A :: L)) : ∃ S, A.own h S ∧ ∀ b, S b → h0.size ≤ b ∧ b < h.size := by
  obtain ⟨_, S, hA, hS, _⟩ := s
  exact ⟨S, hA, hS⟩
/-- What a call makes comes to what there was. -/
theorem St.call {h0 h h' : Heap} {L L' : List HP} (s : St h0 h L) (t : St h h' L') : St h0 h' (L' ++ L) := by
  refine ⟨s.1.trans t.1, ?_⟩
  have h1 : Sep h' L (fun b => h0.size ≤ b ∧ b < h.size) := Sep.loc s.2 fun b hb => t.1.2 b hb.2
  exact Sep.mono (fun b hb => hb.elim (fun hb => ⟨Nat.le_trans s.1.1 hb.1, hb.2⟩) (fun hb => ⟨hb.1, Nat.lt_of_lt_of_le hb.2 t.1.1⟩))
    (Sep.append t.2 h1 fun b hb hb' => by omega)
/-- An operation on the first part alone: what else there is stays. -/
theorem St.step {h0 h h' : Heap} {A A' : HP} {L : List HP} (s : St h0 h (A :: L))
    (f : ∀ S, A.own h S → (∀ b, S b → h0.size ≤ b ∧ b < h.size) → h.size ≤ h'.size ∧ (∀ b, b < h.size → ¬ S b → h'[b]? = h[b]?) ∧ ∃ S', A'.own h' S' ∧ ∀ b, S' b → S b ∨ (h.size ≤ b ∧ b < h'.size)) :
    St h0 h' (A' :: L) := by
  obtain ⟨he, S, hA, hS, hL⟩ := s
  obtain ⟨hsz, hk, S', hA', hS'⟩ := f S hA hS
  refine ⟨⟨Nat.le_trans he.1 hsz, fun b hb => ?_⟩, S', hA', fun b hb => ?_, ?_⟩
  · rw [hk b (Nat.lt_of_lt_of_le hb he.1) fun h => by have := (hS b h).1; omega]
    exact he.2 b hb
  · rcases hS' b hb with h1 | h1
    · exact ⟨(hS b h1).1, Nat.lt_of_lt_of_le (hS b h1).2 hsz⟩
    · exact ⟨Nat.le_trans he.1 h1.1, h1.2⟩
  · have h1 := Sep.loc (h' := h') hL fun b hb => hk b hb.1.2 hb.2
    refine Sep.mono (fun b hb => ⟨⟨hb.1.1, Nat.lt_of_lt_of_le hb.1.2 hsz⟩, fun h => ?_⟩) h1
    rcases hS' b h with h2 | h2
    · exact hb.2 h2
    · omega
/-- A part for a new block. -/
theorem St.new {h0 h h' : Heap} {A' : HP} {L : List HP} (s : St h0 h L) (hsz : h.size ≤ h'.size) (hk : ∀ b, b < h.size → h'[b]? = h[b]?)
    (hA : A'.own h' (fun b => h.size ≤ b ∧ b < h'.size)) : St h0 h' (A' :: L) :=
  St.call (L' := [A']) s ⟨⟨hsz, hk⟩, fun b => h.size ≤ b ∧ b < h'.size, hA, fun _ h => h, trivial⟩

/-- Some x. -/
def HP.ex {α : Type} (A : α → HP) : HP := ⟨fun h S => ∃ x, (A x).own h S, fun h h' S ⟨x, hx⟩ he => ⟨x, (A x).loc h h' S hx he⟩⟩
set_option linter.unusedVariables false in
def HP.pure (p : Prop) (A : HP) : HP := ⟨fun h S => p ∧ A.own h S, fun h h' S hx he => ⟨hx.1, A.loc h h' S hx.2 he⟩⟩
theorem St.ex {α : Type} {h0 h : Heap} {A : α → HP} {L : List HP} (s : St h0 h (HP.ex A :: L)) : ∃ x, St h0 h (A x :: L) := by
  obtain ⟨he, S, ⟨x, hx⟩, r⟩ := s
  exact ⟨x, he, S, hx, r⟩
theorem St.pure {p : Prop} {h0 h : Heap} {A : HP} {L : List HP} (s : St h0 h (HP.pure p A :: L)) : p ∧ St h0 h (A :: L) := by
  obtain ⟨he, S, ⟨hp, hx⟩, r⟩ := s
  exact ⟨hp, he, S, hx, r⟩
/-- Several parts as one. -/
def HP.all (L : List HP) : HP := ⟨fun h S => Sep h L S, fun _ _ _ hs he => Sep.loc hs he⟩
/-! ### Cells behind a pointer -/
def padd (p : Value) (n : Nat) : Value :=
  match p with
  | .pointer (some a) => .pointer (some (a.add n))
  | p => p
def sbase : Value → Value
  | .slice a _ _ => .pointer a
  | v => v
theorem Addr.add_none (b o n : Nat) : (⟨b, o, none⟩ : Addr).add n = ⟨b, o + n, none⟩ := by
  unfold Addr.add; split <;> simp_all
theorem padd_padd (p : Value) (m n : Nat) : padd (padd p m) n = padd p (m + n) := by
  unfold padd
  cases p with
  | pointer a =>
    cases a with
    | none => rfl
    | some a =>
      simp only [Addr.add]
      by_cases hm : m = 0
      · subst hm; simp
      · by_cases hn : n = 0
        · subst hn; simp [hm]
        · simp [hm, hn, Nat.add_assoc]
  | _ => rfl

/-- From p on these cells can be read. -/
def Rd (h : Heap) (p : Value) (cs : List Value) : Prop :=
  cs = [] ∨ ∃ b o, p = .pointer (some ⟨b, o, none⟩) ∧ ∀ (j : Nat) (x : Value), cs[j]? = some x → cellAt h ⟨b, o + j, none⟩ = some x
theorem Rd.nil (h : Heap) (p : Value) : Rd h p [] := .inl rfl
theorem Rd.at {h : Heap} {p : Value} {cs : List Value} (r : Rd h p cs) {j : Nat} {x : Value} (hx : cs[j]? = some x) :
    ∃ a, padd p j = .pointer (some a) ∧ cellAt h a = some x := by
  rcases r with rfl | ⟨b, o, rfl, hc⟩
  · simp at hx
  · exact ⟨⟨b, o + j, none⟩, by simp [padd, Addr.add_none], hc j x hx⟩
theorem Rd.drop {h : Heap} {p : Value} {cs : List Value} (r : Rd h p cs) (n : Nat) : Rd h (padd p n) (cs.drop n) := by
  rcases r with rfl | ⟨b, o, rfl, hc⟩
  · simp [Rd]
  · refine .inr ⟨b, o + n, by simp [padd, Addr.add_none], fun j x hx => ?_⟩
    rw [List.getElem?_drop] at hx
    simpa [Nat.add_assoc] using hc _ _ hx
theorem Rd.take {h : Heap} {p : Value} {cs : List Value} (r : Rd h p cs) (n : Nat) : Rd h p (cs.take n) := by
  rcases r with rfl | ⟨b, o, rfl, hc⟩
  · simp [Rd]
  · refine .inr ⟨b, o, rfl, fun j x hx => ?_⟩
    rw [List.getElem?_take] at hx
    split at hx
    · exact hc _ _ hx
    · cases hx
/-- The cells from p on, owned (with all their block). -/
def Cells (p : Value) (cs : List Value) : HP :=
  ⟨fun h S => ∃ b o T pre post, p = .pointer (some ⟨b, o, none⟩) ∧ S b ∧ h[b]? = some (.cells (pre ++ cs ++ post).toArray T (0, 0)) ∧ o = pre.length,
   fun h h' S ⟨b, o, T, pre, post, hp, hS, hb, ho⟩ he => ⟨b, o, T, pre, post, hp, hS, (he b hS).trans hb, ho⟩⟩

theorem Cells.rd {h : Heap} {p : Value} {cs : List Value} {S : Nat → Prop} (hc : (Cells p cs).own h S) : Rd h p cs := by
  obtain ⟨b, o, T, pre, post, rfl, _, hb, rfl⟩ := hc
  refine .inr ⟨b, _, rfl, fun j x hx => ?_⟩
  have hj : j < cs.length := (List.getElem?_eq_some_iff.1 hx).1
  simp only [cellAt, hb, Option.isSome_none, Bool.false_eq_true, if_false, List.getElem?_toArray]
  rw [List.append_assoc, List.getElem?_append_right (by omega), Nat.add_sub_cancel_left, List.getElem?_append_left hj]
  exact hx
theorem St.rd {h0 h : Heap} {p : Value} {cs : List Value} {L : List HP} (s : St h0 h (Cells p cs :: L)) : Rd h p cs := by
  obtain ⟨S, hA, _⟩ := s.get
  exact Cells.rd hA

/-! ### What is known of types -/
class Und (P : Program) (t : TypeId) (d : outParam TypeDesc) : Prop where
  eq : P.underlying t = some d
theorem Und.run {P : Program} {t : TypeId} {d : TypeDesc} [u : Und P t d] (w : World) : (underlying t).run P w = .ok d w := run_underlying u.eq w
/-- A type's size in cells and in bytes, and its zero value. -/
class Inf (P : Program) (t : TypeId) (k b : outParam Nat) (z : outParam Value) : Prop where
  info : ∃ i, P.info? t = some i ∧ i.size = k ∧ i.bytes = b ∧ i.zero = some z
theorem Inf.zer {P : Program} {t : TypeId} {k b : Nat} {z : Value} [u : Inf P t k b z] (w : World) : (zeroValue t).run P w = .ok z w := by
  obtain ⟨i, hi, _, _, hz⟩ := u.info
  simp [zeroValue, typeInfo, hi, hz]
class Siz (P : Program) (t : TypeId) (k : outParam Nat) : Prop where
  run : ∀ w, (sizeOf t).run P w = .ok k w
class IsA (P : Program) (t : TypeId) (b : outParam Bool) : Prop where
  run : ∀ w, (isAgg t).run P w = .ok b w

/-! ### Operations without memory -/
section pure
variable {P : Program}
theorem Sp.of {s : Sem Next} {K : Value → Prop} {v : Value} (hr : ∀ w, s.run P w = .ok (.value v) w) (hk : K v) : Sp P s K := ⟨v, hr, hk⟩
theorem nv_run {s : Sem Value} {w w' : World} {v : Value} (h : s.run P w = .ok v w') : (nv s).run P w = .ok (.value v) w' := by
  simp [nv, h]
theorem Sp.iff {s : Sem Value} {K : Value → Prop} {v : Value} (hr : ∀ w, s.run P w = .ok v w) : Sp P (nv s) K ↔ K v := by
  constructor
  · rintro ⟨u, hu, hk⟩
    have h1 := hu default
    rw [nv_run (hr default)] at h1
    injection h1 with h2 _
    injection h2 with h3
    rw [h3]; exact hk
  · exact fun hk => ⟨v, fun w => nv_run (hr w), hk⟩

theorem oBin_int {op : BinOp} {t : TypeId} {x y : Operand} {k : IntKind} {a b : Int} {v : Value} {K : Value → Prop}
    (hr : ∀ w, (binOp op t (.int k a) (.int k b)).run P w = .ok v w) : oBin P op t x y (.int k a) (.int k b) K ↔ K v := by
  refine Sp.iff fun w => ?_
  have : (eqGuard op t x y (.int k a) (.int k b)).run P w = .ok () w := by cases op <;> simp [eqGuard]
  simp [this, hr]
@[simp] theorem oBin_lss {t : TypeId} {x y : Operand} {k : IntKind} {a b : Int} {K : Value → Prop} : oBin P .lss t x y (.int k a) (.int k b) K ↔ K (.bool (decide (a < b))) :=
  oBin_int fun w => by simp [binOp, Op.intCmp]
@[simp] theorem oBin_leq {t : TypeId} {x y : Operand} {k : IntKind} {a b : Int} {K : Value → Prop} : oBin P .leq t x y (.int k a) (.int k b) K ↔ K (.bool (decide (a ≤ b))) :=
  oBin_int fun w => by simp [binOp, Op.intCmp]
@[simp] theorem oBin_gtr {t : TypeId} {x y : Operand} {k : IntKind} {a b : Int} {K : Value → Prop} : oBin P .gtr t x y (.int k a) (.int k b) K ↔ K (.bool (decide (b < a))) :=
  oBin_int fun w => by simp [binOp, Op.intCmp]
@[simp] theorem oBin_geq {t : TypeId} {x y : Operand} {k : IntKind} {a b : Int} {K : Value → Prop} : oBin P .geq t x y (.int k a) (.int k b) K ↔ K (.bool (decide (b ≤ a))) :=
  oBin_int fun w => by simp [binOp, Op.intCmp]
@[simp] theorem oBin_eql {t : TypeId} {x y : Operand} {k : IntKind} {a b : Int} {K : Value → Prop} : oBin P .eql t x y (.int k a) (.int k b) K ↔ K (.bool (decide (a = b))) :=
  oBin_int fun w => by simp [binOp, Op.intCmp]; rfl
@[simp] theorem oBin_neq {t : TypeId} {x y : Operand} {k : IntKind} {a b : Int} {K : Value → Prop} : oBin P .neq t x y (.int k a) (.int k b) K ↔ K (.bool (decide (a ≠ b))) :=
  oBin_int fun w => by simp [binOp, Op.intCmp, bne]; rfl
@[simp] theorem oBin_add {t : TypeId} {x y : Operand} {k : IntKind} {a b : Int} {K : Value → Prop} : oBin P .add t x y (.int k a) (.int k b) K ↔ K (.int k (k.wrap (a + b))) :=
  oBin_int fun w => by simp [binOp, Op.intArith]
@[simp] theorem oBin_sub {t : TypeId} {x y : Operand} {k : IntKind} {a b : Int} {K : Value → Prop} : oBin P .sub t x y (.int k a) (.int k b) K ↔ K (.int k (k.wrap (a - b))) :=
  oBin_int fun w => by simp [binOp, Op.intArith]
@[simp] theorem oBin_mul {t : TypeId} {x y : Operand} {k : IntKind} {a b : Int} {K : Value → Prop} : oBin P .mul t x y (.int k a) (.int k b) K ↔ K (.int k (k.wrap (a * b))) :=
  oBin_int fun w => by simp [binOp, Op.intArith]
theorem oBin_rem {t : TypeId} {x y : Operand} {k : IntKind} {a b : Int} {K : Value → Prop} (hb : b ≠ 0) : oBin P .rem t x y (.int k a) (.int k b) K ↔ K (.int k (a.tmod b)) :=
  oBin_int fun w => by simp [binOp, Op.intDiv, hb]
theorem oBin_quo {t : TypeId} {x y : Operand} {k : IntKind} {a b : Int} {K : Value → Prop} (hb : b ≠ 0) : oBin P .quo t x y (.int k a) (.int k b) K ↔ K (.int k (k.wrap (a.tdiv b))) :=
  oBin_int fun w => by simp [binOp, Op.intDiv, hb]
theorem oBin_str {op : BinOp} {t : TypeId} {x y : Operand} {a b : ByteArray} {v : Value} {K : Value → Prop}
    (hr : ∀ w, (Op.stringOp op a b).run P w = .ok v w) : oBin P op t x y (.string a) (.string b) K ↔ K v := by
  refine Sp.iff fun w => ?_
  have : (eqGuard op t x y (.string a) (.string b)).run P w = .ok () w := by cases op <;> simp [eqGuard]
  have h2 : binOp op t (.string a) (.string b) = Op.stringOp op a b := by cases op <;> rfl
  simp [this, h2, hr]
/-- A string by its bytes. -/
abbrev Str := List UInt8
def str (l : Str) : Value := .string ⟨l.toArray⟩
theorem toList_mk (l : Str) : (⟨l.toArray⟩ : ByteArray).toList = l := by rw [ByteArray.toList_eq]
@[simp] theorem oBin_str_eql {t : TypeId} {x y : Operand} {a b : Str} {K : Value → Prop} : oBin P .eql t x y (str a) (str b) K ↔ K (.bool (decide (a = b))) :=
  oBin_str fun w => by
    have : (a == b) = decide (a = b) := by rw [Bool.eq_iff_iff]; simp
    simp [Op.stringOp, this]
@[simp] theorem oBin_str_neq {t : TypeId} {x y : Operand} {a b : Str} {K : Value → Prop} : oBin P .neq t x y (str a) (str b) K ↔ K (.bool (decide (a ≠ b))) :=
  oBin_str fun w => by
    have : (!(a == b)) = decide (a ≠ b) := by rw [Bool.eq_iff_iff]; simp
    simp [Op.stringOp, this]
@[simp] theorem oUn_not {a : Bool} {K : Value → Prop} : oUn P .not (.bool a) K ↔ K (.bool !a) := Sp.iff fun w => by simp [Op.unary]
@[simp] theorem oUn_neg {k : IntKind} {a : Int} {K : Value → Prop} : oUn P .neg (.int k a) K ↔ K (.int k (k.wrap (0 - a))) := Sp.iff fun w => by simp [Op.unary, Op.intArith]
@[simp] theorem oPick_bool {c : Bool} {a b : Value} {K : Value → Prop} : oPick P (.bool c) a b K ↔ K (if c then a else b) := by
  constructor
  · rintro ⟨u, hu, hk⟩
    have h1 := hu default
    simp only [pickSem, asBool] at h1
    rw [Sem.run_bind] at h1
    simp at h1
    rw [h1]; exact hk
  · exact fun hk => ⟨_, fun w => by simp [pickSem, asBool], hk⟩
theorem oConv_int {s d : TypeId} {ds : TypeDesc} {k k' : IntKind} [Und P s ds] [Und P d (.int k)] {a : Int} {K : Value → Prop} : oConv P s d (.int k' a) K ↔ K (.int k (k.wrap a)) :=
  Sp.iff fun w => by simp [convert, Und.run, Conv.intToInt]
@[simp] theorem oExt_two0 {a b : Value} {K : Value → Prop} : oExt P (.tuple #[a, b]) 0 K ↔ K a := Sp.iff fun w => by simp [Instr.extract]
@[simp] theorem oExt_two1 {a b : Value} {K : Value → Prop} : oExt P (.tuple #[a, b]) 1 K ↔ K b := Sp.iff fun w => by simp [Instr.extract]
@[simp] theorem oExt_three0 {a b c : Value} {K : Value → Prop} : oExt P (.tuple #[a, b, c]) 0 K ↔ K a := Sp.iff fun w => by simp [Instr.extract]
@[simp] theorem oExt_three1 {a b c : Value} {K : Value → Prop} : oExt P (.tuple #[a, b, c]) 1 K ↔ K b := Sp.iff fun w => by simp [Instr.extract]
@[simp] theorem oExt_three2 {a b c : Value} {K : Value → Prop} : oExt P (.tuple #[a, b, c]) 2 K ↔ K c := Sp.iff fun w => by simp [Instr.extract]
@[simp] theorem oExt_one0 {a : Value} {K : Value → Prop} : oExt P (.tuple #[a]) 0 K ↔ K a := Sp.iff fun w => by simp [Instr.extract]
@[simp] theorem oFunc_iff {fn : Fn} {l r : Array Value} {K : Value → Prop} : oFunc P fn l r K ↔ K (.func fn l r) := Sp.iff fun w => by simp [Instr.makeFunc]
@[simp] theorem oNil_ptr {a : Addr} {K : Value → Prop} : oNil P (.pointer (some a)) K ↔ K (.pointer (some a)) := by
  constructor
  · rintro ⟨u, hu, hk⟩
    have h1 := hu default
    simp [nilSem] at h1
    rw [h1]; exact hk
  · exact fun hk => ⟨_, fun w => by simp [nilSem], hk⟩

/-- A slice of n elements. -/
def slen : Value → Nat
  | .slice _ n _ => n
  | .string s => s.size
  | _ => 0
def IsSl (v : Value) (n : Nat) : Prop := ∃ a c, v = .slice a n c
theorem oLen_sl {t ty : TypeId} {e : TypeId} [Und P t (.slice e)] {v : Value} {n : Nat} {K : Value → Prop} (hv : IsSl v n) : oLen P #[t] ty v K ↔ K (.int .i64 n) := by
  obtain ⟨a, c, rfl⟩ := hv
  exact Sp.iff fun w => by simp [Builtin.len_, Und.run, goInt]
theorem oLen_str {t ty : TypeId} [Und P t .string] {s : Str} {K : Value → Prop} : oLen P #[t] ty (str s) K ↔ K (.int .i64 s.length) :=
  Sp.iff fun w => by
    have : (⟨s.toArray⟩ : ByteArray).size = s.length := List.size_toArray
    simp [Builtin.len_, Und.run, goInt, str, this]
theorem oIndex_str {t : TypeId} [Und P t .string] {s : Str} {ik : IntKind} {i : Int} {K : Value → Prop} (h0 : 0 ≤ i) {c : UInt8} (hc : s[i.toNat]? = some c) :
    oIndex P t (str s) (.int ik i) K ↔ K (.int .u8 c.toNat) := by
  refine Sp.iff fun w => ?_
  have h2 : (⟨s.toArray⟩ : ByteArray)[i.toNat]? = some c := by
    have hl : i.toNat < s.length := (List.getElem?_eq_some_iff.1 hc).1
    have h3 : i.toNat < (⟨s.toArray⟩ : ByteArray).size := by
      have : (⟨s.toArray⟩ : ByteArray).size = s.length := List.size_toArray
      omega
    rw [getElem?_pos (c := (⟨s.toArray⟩ : ByteArray)) (i := i.toNat) h3, ← hc, List.getElem?_eq_getElem hl]
    rfl
  simp [Instr.index, asIntOf, Und.run, str, h0, h2]
end pure
end Go.Sh
set_option linter.unusedVariables false
namespace Go.Sh
section mem
variable {P : Program}

def one : Value → Bool
  | .agg _ | .tuple _ => false
  | _ => true

theorem run_load {w : World} {a : Addr} {v : Value} (hv : cellAt w.heap a = some v) : (load a).run P w = .ok v w := by
  simp only [load, Sem.run, cell?_eq, hv]
theorem run_loadVar1 {t : TypeId} [IsA P t false] {w : World} {a : Addr} {v : Value} (hv : cellAt w.heap a = some v) : (loadVar t a).run P w = .ok v w := by
  unfold loadVar
  rw [Sem.run_bind, IsA.run (P := P) (t := t), Result.andThen_ok, if_neg (by simp)]
  exact run_load hv
theorem run_loadFrom {w : World} {a : Addr} : ∀ (cs : List Value) (i : Nat) (acc : Array Value), (∀ (j : Nat) (x : Value), cs[j]? = some x → cellAt w.heap (a.add (i + j)) = some x) →
    (loadCellsFrom a i cs.length acc).run P w = .ok (acc ++ cs.toArray) w
  | [], _, acc, _ => by simp [loadCellsFrom]
  | x :: cs, i, acc, h => by
    have h0 : (load (a.add i)).run P w = .ok x w := run_load (by simpa using h 0 x rfl)
    have ih := run_loadFrom (w := w) (a := a) cs (i + 1) (acc.push x) (fun j y hy => by
      have := h (j + 1) y (by simpa using hy)
      rwa [show i + (j + 1) = i + 1 + j from by omega] at this)
    simp only [List.length_cons, loadCellsFrom]
    rw [Sem.run_bind, h0, Result.andThen_ok, ih]
    congr 1
    apply Array.ext'
    simp
theorem run_loadCells {w : World} {a : Addr} (cs : List Value) (h : ∀ (j : Nat) (x : Value), cs[j]? = some x → cellAt w.heap (a.add j) = some x) :
    (loadCells a cs.length).run P w = .ok cs.toArray w := by
  have := run_loadFrom (P := P) cs 0 #[] (fun j x hx => by rw [Nat.zero_add]; exact h j x hx)
  simpa [loadCells] using this

/-- One cell is read. -/
theorem oLoad1 {t : TypeId} [IsA P t false] {p : Value} {cs : List Value} {j : Nat} {x : Value} {D : Heap → Prop} {K : Value → Prop}
    (hr : ∀ h', D h' → Rd h' p cs) (hx : cs[j]? = some x) (hk : K x) : oLoad P t (padd p j) D K := by
  refine ⟨x, fun w hw => ?_, hk⟩
  obtain ⟨a, ha, hc⟩ := (hr _ hw).at hx
  rw [ha]
  exact nv_run (by simp [Instr.loadAt, Instr.sureAddr, run_loadVar1 hc])
/-- Several cells are read. -/
theorem oLoadA {t : TypeId} {k : Nat} [IsA P t true] [Siz P t k] {p : Value} {cs : List Value} {j : Nat} {D : Heap → Prop} {K : Value → Prop}
    (hr : ∀ h', D h' → Rd h' p cs) (hp : ∃ a, p = .pointer (some a)) (hj : j + k ≤ cs.length) (hk : K (.agg ((cs.drop j).take k).toArray)) : oLoad P t (padd p j) D K := by
  refine ⟨_, fun w hw => ?_, hk⟩
  have h1 := ((hr _ hw).drop j).take k
  have hl : ((cs.drop j).take k).length = k := by simp; omega
  obtain ⟨a, ha⟩ : ∃ a, padd p j = .pointer (some a) := by obtain ⟨a, rfl⟩ := hp; exact ⟨_, rfl⟩
  rw [ha] at h1 ⊢
  refine nv_run ?_
  have h2 : (loadCells a k).run P w = .ok ((cs.drop j).take k).toArray w := by
    have := run_loadCells (P := P) (w := w) (a := a) ((cs.drop j).take k) (fun i x hx => by
      obtain ⟨a', ha', hc⟩ := h1.at hx
      simp only [padd, Value.pointer.injEq, Option.some.injEq] at ha'
      rw [ha']; exact hc)
    rwa [hl] at this
  simp [Instr.loadAt, Instr.sureAddr, loadVar, IsA.run, Siz.run, h2]

/-! Storing. -/
def setAt (cs : List Value) (j : Nat) : List Value → List Value
  | [] => cs
  | x :: xs => setAt (cs.set j x) (j + 1) xs
theorem setAt_length : ∀ (xs cs : List Value) (j : Nat), (setAt cs j xs).length = cs.length
  | [], _, _ => rfl
  | x :: xs, cs, j => by simp [setAt, setAt_length xs]
def setB (h : Heap) (b : Nat) (o : Obj) : Heap := h.setIfInBounds b o
theorem setB_size (h : Heap) (b : Nat) (o : Obj) : (setB h b o).size = h.size := by simp [setB]
theorem setB_ne {h : Heap} {b b' : Nat} {o : Obj} (hne : b' ≠ b) : (setB h b o)[b']? = h[b']? := by
  simp [setB, Array.getElem?_setIfInBounds_ne (Ne.symm hne)]
theorem setB_eq {h : Heap} {b : Nat} {o : Obj} (hb : b < h.size) : (setB h b o)[b]? = some o := by simp [setB, hb]
theorem setB_setB (h : Heap) (b : Nat) (o o' : Obj) : setB (setB h b o) b o' = setB h b o' := by
  apply Array.ext_getElem?
  intro i
  by_cases hi : i = b
  · subst hi
    rcases Nat.lt_or_ge i h.size with hl | hl
    · rw [setB_eq (by rw [setB_size]; exact hl), setB_eq hl]
    · simp [setB, hl]
  · rw [setB_ne hi, setB_ne hi, setB_ne hi]
theorem lt_of_some {h : Heap} {b : Nat} {o : Obj} (hb : h[b]? = some o) : b < h.size := (Array.getElem?_eq_some_iff.1 hb).1

theorem run_store1 {w : World} {b o T : Nat} {c : List Value} {x : Value} (hb : w.heap[b]? = some (.cells c.toArray T (0, 0))) (ho : o < c.length) (hx : one x = true) :
    (store ⟨b, o, none⟩ x).run P w = .ok () { w with heap := setB w.heap b (.cells (c.set o x).toArray T (0, 0)) } := by
  have h1 : w.cell? ⟨b, o, none⟩ = some c[o] := by simp [World.cell?, hb, ho]
  have h2 : w.frozen? ⟨b, o, none⟩ = false := by simp [World.frozen?, hb]
  have hlt := lt_of_some hb
  have h3 : w.setCell ⟨b, o, none⟩ x = { w with heap := setB w.heap b (.cells (c.set o x).toArray T (0, 0)) } := by
    unfold World.setCell
    congr 1
    apply Array.ext_getElem?
    intro i
    rw [Array.getElem?_modify]
    by_cases hi : i = b
    · subst hi
      rw [setB_eq hlt]
      simp [hb]
    · rw [setB_ne hi, if_neg (fun e => hi e.symm)]
  cases x <;> first | (simp [one] at hx; done) | simp only [store, Sem.run, h1, h2, h3, Bool.false_eq_true, if_false]
theorem run_storeCells {b o T : Nat} : ∀ (xs : List Value) (i : Nat) (w : World) (c : List Value), w.heap[b]? = some (.cells c.toArray T (0, 0)) → o + i + xs.length ≤ c.length → (∀ x ∈ xs, one x = true) →
    (storeCells ⟨b, o, none⟩ xs i).run P w = .ok () { w with heap := setB w.heap b (.cells (setAt c (o + i) xs).toArray T (0, 0)) }
  | [], i, w, c, hb, _, _ => by
    have hlt := lt_of_some hb
    have : setB w.heap b (.cells c.toArray T (0, 0)) = w.heap := by
      apply Array.ext_getElem?
      intro j
      by_cases hj : j = b
      · subst hj; rw [setB_eq hlt, hb]
      · rw [setB_ne hj]
    simp only [storeCells, setAt, this]
    rfl
  | x :: xs, i, w, c, hb, hl, hx => by
    simp only [List.length_cons] at hl
    simp only [storeCells]
    rw [Sem.run_bind, Addr.add_none, run_store1 hb (by omega) (hx x (by simp)), Result.andThen_ok,
      run_storeCells xs (i + 1) { w with heap := setB w.heap b (.cells (c.set (o + i) x).toArray T (0, 0)) } (c.set (o + i) x) (setB_eq (lt_of_some hb)) (by simp; omega) (fun y hy => hx y (by simp [hy]))]
    simp only [setB_setB, setAt, Nat.add_assoc]
theorem set_mid (pre cs post : List Value) (j : Nat) (x : Value) (hj : j < cs.length) : (pre ++ cs ++ post).set (pre.length + j) x = pre ++ cs.set j x ++ post := by
  rw [List.append_assoc, List.set_append_right _ _ (by omega), Nat.add_sub_cancel_left, List.set_append_left _ _ hj, List.append_assoc]
theorem setAt_mid (pre post : List Value) : ∀ (xs cs : List Value) (j : Nat), j + xs.length ≤ cs.length → setAt (pre ++ cs ++ post) (pre.length + j) xs = pre ++ setAt cs j xs ++ post
  | [], cs, j, _ => rfl
  | x :: xs, cs, j, h => by
    simp only [List.length_cons] at h
    simp only [setAt]
    rw [set_mid _ _ _ _ _ (by omega), show pre.length + j + 1 = pre.length + (j + 1) from by omega, setAt_mid pre post xs (cs.set j x) (j + 1) (by simp; omega)]

theorem Cells.set {h : Heap} {p : Value} {cs : List Value} {S : Nat → Prop} (hc : (Cells p cs).own h S) (hlt : ∀ b, S b → b < h.size) (j : Nat) (xs : List Value) (hj : j + xs.length ≤ cs.length) (h1 : ∀ x ∈ xs, one x = true) :
    ∃ b o T l, padd p j = .pointer (some ⟨b, o, none⟩) ∧ h[b]? = some (.cells l T (0, 0)) ∧ S b ∧
      (∀ w : World, w.heap = h → (storeCells ⟨b, o, none⟩ xs).run P w = .ok () { w with heap := setB h b (.cells (setAt l.toList o xs).toArray T (0, 0)) }) ∧
      (Cells p (setAt cs j xs)).own (setB h b (.cells (setAt l.toList o xs).toArray T (0, 0))) S := by
  obtain ⟨b, o, T, pre, post, rfl, hS, hb, rfl⟩ := hc
  refine ⟨b, pre.length + j, T, (pre ++ cs ++ post).toArray, by simp [padd, Addr.add_none], hb, hS, fun w hw => ?_, b, pre.length, T, pre, post, rfl, hS, ?_, rfl⟩
  · have := run_storeCells (P := P) (b := b) (o := pre.length + j) (T := T) xs 0 w (pre ++ cs ++ post) (by rw [hw]; exact hb) (by simp; omega) h1
    rw [this, hw]
    rfl
  · rw [setB_eq (lt_of_some hb)]
    simp only
    rw [setAt_mid pre post xs cs j hj]

/-- A store of a value into owned cells. -/
theorem oStoreC [Gd] {t : TypeId} {k : Nat} [Siz P t k] {h0 h : Heap} {p v : Value} {cs : List Value} {L : List HP} {j : Nat} {K : Value → Heap → Prop}
    (s : St h0 h (Cells p cs :: L)) (hk : v.cells.toList.length = k) (hj : j + k ≤ cs.length) (h1 : ∀ x ∈ v.cells.toList, one x = true)
    (g : ∀ h', St h0 h' (Cells p (setAt cs j v.cells.toList) :: L) → K undef h') : oStore P t (padd p j) v h K := by
  intro w hw
  obtain ⟨_, S, hA, hS, _⟩ := id s
  obtain ⟨b, o, T, l, hp, hb, hSb, hrun, hown⟩ := Cells.set (P := P) hA (fun b hb => (hS b hb).2) j v.cells.toList (by omega) h1
  have hst : St h0 (setB h b (.cells (setAt l.toList o v.cells.toList).toArray T (0, 0))) (Cells p (setAt cs j v.cells.toList) :: L) := by
    refine St.step s fun S' hA' hS' => ?_
    obtain ⟨b', o', T', l', hp', hb', hSb', hrun', hown'⟩ := Cells.set (P := P) hA' (fun b hb => (hS' b hb).2) j v.cells.toList (by omega) h1
    rw [hp] at hp'
    simp only [Value.pointer.injEq, Option.some.injEq, Addr.mk.injEq, and_true] at hp'
    obtain ⟨rfl, rfl⟩ := hp'
    rw [hb] at hb'
    simp only [Option.some.injEq, Obj.cells.injEq, and_true] at hb'
    obtain ⟨rfl, rfl⟩ := hb'
    exact ⟨by rw [setB_size]; exact Nat.le_refl _, fun i _ hi => setB_ne (fun e => hi (e ▸ hSb')), S', hown', fun i hi => .inl hi⟩
  have hv : (storeVar t ⟨b, o, none⟩ v).run P w = .ok () { w with heap := setB h b (.cells (setAt l.toList o v.cells.toList).toArray T (0, 0)) } := by
    unfold storeVar
    rw [Sem.run_bind, Siz.run (P := P) (t := t), Result.andThen_ok, if_neg (by simpa using hk)]
    exact hrun w hw
  have : (nu (Instr.storeAt t (padd p j) v)).run P w = .ok .skip { w with heap := setB h b (.cells (setAt l.toList o v.cells.toList).toArray T (0, 0)) } := by
    rw [hp]
    simp only [nu, Instr.storeAt, Instr.sureAddr, pure_bind]
    rw [Sem.run_bind, hv]
    rfl
  rw [this]
  exact ⟨⟨rfl, rfl, rfl, fun _ => by first | exact Nat.le_refl _ | exact Nat.le_succ _ | exact Nat.le_add_right _ _⟩, g _ hst⟩

/-- A value is put into a new block. -/
theorem own_new {h : Heap} (cs : List Value) (T : TypeId) : (Cells (.pointer (some ⟨h.size, 0, none⟩)) cs).own (h.push (.cells cs.toArray T)) (fun b => h.size ≤ b ∧ b < (h.push (.cells cs.toArray T)).size) :=
  ⟨h.size, 0, T, [], [], rfl, ⟨Nat.le_refl _, by simp⟩, by simp, rfl⟩
theorem push_old {h : Heap} {o : Obj} (b : Nat) (hb : b < h.size) : (h.push o)[b]? = h[b]? := by
  rw [Array.getElem?_push_lt hb, Array.getElem?_eq_getElem hb]
theorem St.push {h0 h : Heap} {L : List HP} (s : St h0 h L) (cs : List Value) (T : TypeId) : St h0 (h.push (.cells cs.toArray T)) (Cells (.pointer (some ⟨h.size, 0, none⟩)) cs :: L) :=
  s.new (by simp) (fun b hb => push_old b hb) (own_new cs T)
/-! ### Slices of one's own -/
def Row (k : Nat) (v : Value) (n : Nat) (cs : List Value) : HP :=
  ⟨fun h S => cs.length = n * k ∧ ((v = .slice none 0 0 ∧ n = 0) ∨ ∃ a cap post, v = .slice (some a) n cap ∧ n ≤ cap ∧ post.length = (cap - n) * k ∧ (Cells (.pointer (some a)) (cs ++ post)).own h S),
   fun h h' S hx he => ⟨hx.1, hx.2.imp id fun ⟨a, cap, post, h1, h2, h3, h4⟩ => ⟨a, cap, post, h1, h2, h3, (Cells _ _).loc h h' S h4 he⟩⟩⟩

theorem St.row {h0 h : Heap} {k n : Nat} {v : Value} {cs : List Value} {L : List HP} (s : St h0 h (Row k v n cs :: L)) : IsSl v n ∧ cs.length = n * k ∧ Rd h (sbase v) cs := by
  obtain ⟨S, ⟨hl, hc⟩, _⟩ := s.get
  rcases hc with ⟨rfl, rfl⟩ | ⟨a, cap, post, rfl, h2, h3, h4⟩
  · refine ⟨⟨_, _, rfl⟩, hl, ?_⟩
    have : cs = [] := by simpa using hl
    subst this
    exact Rd.nil _ _
  · refine ⟨⟨_, _, rfl⟩, hl, ?_⟩
    have := (Cells.rd h4).take cs.length
    rw [List.take_left] at this
    exact this
theorem St.rowOpen {h0 h : Heap} {k n : Nat} {v : Value} {cs : List Value} {L : List HP} (s : St h0 h (Row k v n cs :: L)) (hn : 0 < n) :
    ∃ a cap post, v = .slice (some a) n cap ∧ n ≤ cap ∧ post.length = (cap - n) * k ∧ cs.length = n * k ∧ St h0 h (Cells (.pointer (some a)) (cs ++ post) :: L) := by
  obtain ⟨he, S, ⟨hl, hc⟩, r⟩ := s
  rcases hc with ⟨rfl, rfl⟩ | ⟨a, cap, post, h1, h2, h3, h4⟩
  · omega
  · exact ⟨a, cap, post, h1, h2, h3, hl, he, S, h4, r⟩
theorem St.rowShut {h0 h : Heap} {k n cap : Nat} {a : Addr} {cs post : List Value} {L : List HP} (s : St h0 h (Cells (.pointer (some a)) (cs ++ post) :: L)) (h2 : n ≤ cap) (h3 : post.length = (cap - n) * k) (hl : cs.length = n * k) :
    St h0 h (Row k (.slice (some a) n cap) n cs :: L) := s.imp fun S h4 => ⟨hl, .inr ⟨a, cap, post, rfl, h2, h3, h4⟩⟩

theorem oStoreR [Gd] {t : TypeId} {k m : Nat} [Siz P t k] {h0 h : Heap} {v x : Value} {n : Nat} {cs : List Value} {L : List HP} {j : Nat} {K : Value → Heap → Prop}
    (s : St h0 h (Row m v n cs :: L)) (hk : x.cells.toList.length = k) (hj : j + k ≤ cs.length) (hk0 : 0 < k) (h1 : ∀ y ∈ x.cells.toList, one y = true)
    (g : ∀ h', St h0 h' (Row m v n (setAt cs j x.cells.toList) :: L) → K undef h') : oStore P t (padd (sbase v) j) x h K := by
  have hn : 0 < n := by
    have := s.row.2.1
    rcases Nat.eq_zero_or_pos n with rfl | hn
    · rw [Nat.zero_mul] at this; omega
    · exact hn
  obtain ⟨a, cap, post, rfl, h2, h3, hl, s'⟩ := s.rowOpen hn
  refine oStoreC s' hk (by simp; omega) h1 fun h' s'' => g h' ?_
  have : setAt (cs ++ post) j x.cells.toList = setAt cs j x.cells.toList ++ post := by
    have := setAt_mid [] post x.cells.toList cs j (by omega)
    simpa using this
  rw [this] at s''
  exact s''.rowShut h2 h3 (by rw [setAt_length]; exact hl)
theorem madeCells_list (z : Array Value) (n : Nat) : madeCells z n = ((List.range n).map fun i => z[i % z.size]!).toArray := by
  apply Array.ext'
  simp [madeCells]
/-! ### append -/
theorem run_first {w : World} {k m : Nat} {x : Value} {xs : List Value} (hx : IsSl x m) (hl : xs.length = m * k) (hr : Rd w.heap (sbase x) xs) : (Builtin.firstCells k m x).run P w = .ok xs.toArray w := by
  obtain ⟨a, c, rfl⟩ := hx
  cases a with
  | none =>
    have : xs = [] := by
      rcases hr with h | ⟨b, o, hp, _⟩
      · exact h
      · simp [sbase] at hp
    subst this
    simp [Builtin.firstCells]
  | some a =>
    simp only [Builtin.firstCells, ← hl]
    refine run_loadCells xs fun j y hy => ?_
    obtain ⟨a', ha', hc⟩ := hr.at hy
    simp only [sbase, padd, Value.pointer.injEq, Option.some.injEq] at ha'
    rw [ha']; exact hc
theorem setAt_append : ∀ (xs cs post : List Value), xs.length ≤ post.length → setAt (cs ++ post) cs.length xs = cs ++ xs ++ post.drop xs.length
  | [], cs, post, _ => by simp [setAt]
  | x :: xs, cs, post, h => by
    cases post with
    | nil => simp at h
    | cons p post =>
      simp only [setAt]
      rw [List.set_append_right _ _ (Nat.le_refl _)]
      simp only [Nat.sub_self, List.set_cons_zero]
      have := setAt_append xs (cs ++ [x]) post (by simpa using h)
      simpa using this
theorem zeroCells_size (z : Array Value) (n : Nat) : (Builtin.zeroCells z n).size = n * z.size := by simp [Builtin.zeroCells]

theorem oAppendR [Gd] {t e ty : TypeId} {k b : Nat} {z : Value} [Und P t (.slice e)] [u : Inf P e k b z] {h0 h : Heap} {v x : Value} {n m : Nat} {cs xs : List Value} {L : List HP} {K : Value → Heap → Prop}
    (s : St h0 h (Row k v n cs :: L)) (hz : z.cells.size = k) (hk0 : 0 < k) (hx : IsSl x m) (hl : xs.length = m * k) (hr : Rd h (sbase x) xs) (h1 : ∀ y ∈ xs, one y = true)
    (hb : (n + m) * b ≤ 140737488355328) (hb2 : n + m ≤ 4611686018427387904)
    (g : ∀ v' h', St h0 h' (Row k v' (n + m) (cs ++ xs) :: L) → K v' h') : oAppend P #[t, t] ty #[v, x] h K := by
  intro w hw
  obtain ⟨i, hi, hk, hbb, hzz⟩ := u.info
  obtain ⟨xa, xc, rfl⟩ := id hx
  have hf : ∀ w' : World, w'.heap = h → (Builtin.firstCells k m (.slice xa m xc)).run P w' = .ok xs.toArray w' := fun w' hw' => run_first hx hl (hw' ▸ hr)
  have hcs := s.row.2.1
  obtain ⟨he, S, ⟨_, hown⟩, hS, hL⟩ := id s
  by_cases hroom : ∃ a cap post, v = .slice (some a) n cap ∧ n + m ≤ cap ∧ post.length = (cap - n) * k ∧ (Cells (.pointer (some a)) (cs ++ post)).own h S
  · -- there is room
    obtain ⟨a, cap, post, rfl, hfit, hpost, hc⟩ := hroom
    have hxp : xs.length ≤ post.length := by
      rw [hl, hpost]; exact Nat.mul_le_mul_right _ (by omega)
    obtain ⟨bb, o, T, l, hp, hbk, hSb, hrun, hown'⟩ := Cells.set (P := P) hc (fun b hb => (hS b hb).2) cs.length xs (by simp; omega) h1
    have ha : a.add (n * k) = ⟨bb, o, none⟩ := by
      rw [hcs] at hp
      simpa [padd] using hp
    have hr1 : (Builtin.append_ #[t, t] ty #[.slice (some a) n cap, .slice xa m xc]).run P w = .ok (.slice (some a) (n + m) cap) { w with heap := setB h bb (.cells (setAt l.toList o xs).toArray T (0, 0)) } := by
      have := hf w hw
      have h2 := hrun w hw
      simp [Builtin.append_, run_underlying (Und.eq (P := P) (t := t)), sizeOf, typeInfo, hi, hk, Builtin.lenOf, hfit, this, ha, h2]
    rw [nv_run hr1]
    refine ⟨⟨rfl, rfl, rfl, fun _ => by first | exact Nat.le_refl _ | exact Nat.le_succ _ | exact Nat.le_add_right _ _⟩, g _ _ ?_⟩
    have hst : St h0 (setB h bb (.cells (setAt l.toList o xs).toArray T (0, 0))) (Cells (.pointer (some a)) (setAt (cs ++ post) cs.length xs) :: L) := by
      refine St.step (A := Cells (.pointer (some a)) (cs ++ post)) ⟨he, S, hc, hS, hL⟩ fun S' hA' hS' => ?_
      obtain ⟨b', o', T', l', hp', hb', hSb', _, hown2⟩ := Cells.set (P := P) hA' (fun b hb => (hS' b hb).2) cs.length xs (by simp; omega) h1
      rw [hp] at hp'
      simp only [Value.pointer.injEq, Option.some.injEq, Addr.mk.injEq, and_true] at hp'
      obtain ⟨rfl, rfl⟩ := hp'
      rw [hbk] at hb'
      simp only [Option.some.injEq, Obj.cells.injEq, and_true] at hb'
      obtain ⟨rfl, rfl⟩ := hb'
      exact ⟨by rw [setB_size]; exact Nat.le_refl _, fun i _ hi => setB_ne (fun e => hi (e ▸ hSb')), S', hown2, fun i hi => .inl hi⟩
    rw [setAt_append xs cs post hxp] at hst
    exact hst.rowShut hfit (by rw [List.length_drop, hpost, hl, ← Nat.sub_mul]; congr 1; omega) (by rw [List.length_append, hcs, hl, Nat.add_mul])
  · -- nil and nothing to append, or it grows
    have hmain : (v = .slice none 0 0 ∧ n = 0) ∨ ∃ a cap post, v = .slice (some a) n cap ∧ cap < n + m ∧ n ≤ cap ∧ (Cells (.pointer (some a)) (cs ++ post)).own h S := by
      rcases hown with h | ⟨a, cap, post, h1, h2, h3, h4⟩
      · exact .inl h
      · refine .inr ⟨a, cap, post, h1, ?_, h2, h4⟩
        rcases Nat.lt_or_ge cap (n + m) with h | h
        · exact h
        · exact absurd ⟨a, cap, post, h1, h, h3, h4⟩ hroom
    have grown : ∀ w' : World, SameW w w' → ∀ cap, n + m ≤ cap → w'.heap = w.heap.push (.cells ((cs ++ xs).toArray ++ Builtin.zeroCells z.cells (cap - (n + m))) e) →
        (Builtin.append_ #[t, t] ty #[v, .slice xa m xc]).run P w = .ok (.slice (some ⟨w.heap.size, 0, none⟩) (n + m) cap) w' → NextOk P K w ((nv (Builtin.append_ #[t, t] ty #[v, .slice xa m xc])).run P w) := by
      intro w' hs cap hcap hh hrun
      rw [nv_run hrun]
      refine ⟨hs, ?_⟩
      rw [hh, hw]
      refine g _ _ ?_
      have s0 := s.drop.push (cs ++ xs ++ (Builtin.zeroCells z.cells (cap - (n + m))).toList) e
      have e1 : (cs ++ xs ++ (Builtin.zeroCells z.cells (cap - (n + m))).toList).toArray = (cs ++ xs).toArray ++ Builtin.zeroCells z.cells (cap - (n + m)) := by
        apply Array.ext'; simp
      rw [e1] at s0
      exact s0.rowShut hcap (by rw [Array.length_toList, zeroCells_size, hz]) (by rw [List.length_append, hcs, hl, Nat.add_mul])
    rcases hmain with ⟨rfl, rfl⟩ | ⟨a, cap, post, rfl, hgrow, hcap, hc⟩
    · have hcs0 : cs = [] := by simpa using hcs
      subst hcs0
      rcases Nat.eq_zero_or_pos m with rfl | hm
      · have : xs = [] := by simpa using hl
        subst this
        have hr1 : (Builtin.append_ #[t, t] ty #[.slice none 0 0, .slice xa 0 xc]).run P w = .ok (.slice none 0 0) w := by
          have := hf w hw
          simp [Builtin.append_, run_underlying (Und.eq (P := P) (t := t)), sizeOf, typeInfo, hi, hk, Builtin.lenOf, this]
        rw [nv_run hr1]
        exact ⟨⟨rfl, rfl, rfl, fun _ => by first | exact Nat.le_refl _ | exact Nat.le_succ _ | exact Nat.le_add_right _ _⟩, by rw [hw]; exact g _ _ s⟩
      · cases xa with
        | none =>
          have : xs = [] := by
            rcases hr with h | ⟨_, _, hp, _⟩
            · exact h
            · simp [sbase] at hp
          subst this
          rcases Nat.mul_eq_zero.1 hl.symm with h | h <;> omega
        | some a =>
          have hnews : ∀ j y, xs[j]? = some y → w.cell? (a.add j) = some y := fun j y hy => by
            obtain ⟨a', ha', hc⟩ := hr.at hy
            simp only [sbase, padd, Value.pointer.injEq, Option.some.injEq] at ha'
            rw [cell?_eq, hw, ha']; exact hc
          have hr1 := run_append_nil (P := P) w t ty e i z Und.eq hi hzz a m xc xs (by rw [hk]; exact hl) hnews hm (by omega) (by rw [hbb]; rw [Nat.zero_add] at hb; omega)
          refine grown (w.drew.alloc (.cells (xs.toArray ++ Builtin.zeroCells z.cells (grownCap w m 0 e - m)) e)) ⟨rfl, rfl, rfl, fun _ => by first | exact Nat.le_refl _ | exact Nat.le_succ _ | exact Nat.le_add_right _ _⟩ (grownCap w m 0 e) (by rw [Nat.zero_add]; exact grownCap_ge w m 0 e) ?_ (by rw [Nat.zero_add]; exact hr1)
          show w.heap.push _ = _
          congr 2
          rw [Nat.zero_add]
          rfl
    · have hm : 0 < m := by omega
      obtain ⟨xb, hxb⟩ : ∃ xb, xa = some xb := by
        cases xa with
        | some y => exact ⟨y, rfl⟩
        | none =>
          exfalso
          have hxs : xs = [] := by
            rcases hr with h | ⟨_, _, hp, _⟩
            · exact h
            · simp [sbase] at hp
          subst hxs
          rcases Nat.mul_eq_zero.1 hl.symm with h | h <;> omega
      subst hxb
      have hnews : ∀ j y, xs[j]? = some y → w.cell? (xb.add j) = some y := fun j y hy => by
        obtain ⟨a', ha', hc⟩ := hr.at hy
        simp only [sbase, padd, Value.pointer.injEq, Option.some.injEq] at ha'
        rw [cell?_eq, hw, ha']; exact hc
      have holds : ∀ j y, cs[j]? = some y → w.cell? (a.add j) = some y := fun j y hy => by
        have hrd := (Cells.rd hc).take cs.length
        rw [List.take_left] at hrd
        obtain ⟨a', ha', hcc⟩ := hrd.at hy
        simp only [padd, Value.pointer.injEq, Option.some.injEq] at ha'
        rw [cell?_eq, hw, ha']; exact hcc
      have hr1 := run_append_grow (P := P) w t ty e i z Und.eq hi hzz a n cap cs (by rw [hk]; exact hcs) holds xb m xc xs (by rw [hk]; exact hl) hnews hgrow (by omega) (growslice_fits hgrow (by rw [hbb]; exact hb))
      refine grown (w.drew.alloc (.cells (cs.toArray ++ xs.toArray ++ Builtin.zeroCells z.cells (grownCap w (n + m) cap e - (n + m))) e)) ⟨rfl, rfl, rfl, fun _ => by first | exact Nat.le_refl _ | exact Nat.le_succ _ | exact Nat.le_add_right _ _⟩ (grownCap w (n + m) cap e) (grownCap_ge w (n + m) cap e) ?_ hr1
      show w.heap.push _ = _
      congr 2
      simp
end mem
end Go.Sh
