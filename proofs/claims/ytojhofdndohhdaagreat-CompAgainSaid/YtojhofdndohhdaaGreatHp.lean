/- Heaps told by parts that own their blocks; and the rules of the operations, over any program. -/
import Derived.Test.YtojhofdndohhdaaGreatSh
import Derived.WalkSpells
import Derived.WalkLawsBesides
set_option linter.unusedVariables false
namespace Go.Sh

/-! ### Cells -/
def cellAt (h : Heap) (a : Addr) : Option Value :=
  match h[a.block]? with
  | some (.cells c _ _) => if a.spot.isSome then none else c[a.off]?
  | _ => none
def frozenAt (h : Heap) (a : Addr) : Bool :=
  match h[a.block]? with
  | some (.cells _ _ (lo, hi)) => lo ≤ a.off && a.off < hi
  | _ => false
theorem cell?_eq (w : World) (a : Addr) : w.cell? a = cellAt w.heap a := rfl
theorem frozen?_eq (w : World) (a : Addr) : w.frozen? a = frozenAt w.heap a := rfl
theorem cellAt_ext {h h' : Heap} (he : Ext h h') {a : Addr} {v : Value} (hv : cellAt h a = some v) : cellAt h' a = some v := by
  unfold cellAt at *
  rcases Nat.lt_or_ge a.block h.size with hb | hb
  · rw [he.2 _ hb]; exact hv
  · simp [Array.getElem?_eq_none hb] at hv
theorem cellAt_same {h h' : Heap} {a : Addr} (he : h'[a.block]? = h[a.block]?) : cellAt h' a = cellAt h a := by
  unfold cellAt; rw [he]
theorem cellAt_lt {h : Heap} {a : Addr} {v : Value} (hv : cellAt h a = some v) : a.block < h.size := by
  rcases Nat.lt_or_ge a.block h.size with hb | hb
  · exact hb
  · simp [cellAt, Array.getElem?_eq_none hb] at hv

/-! ### Parts -/
structure HP where
  own : Heap → (Nat → Prop) → Prop
  loc : ∀ h h' S, own h S → (∀ b, S b → h'[b]? = h[b]?) → own h' S

def Sep (h : Heap) : List HP → (Nat → Prop) → Prop
  | [], _ => True
  | A :: L, U => ∃ S : Nat → Prop, A.own h S ∧ (∀ b, S b → U b) ∧ Sep h L (fun b => U b ∧ ¬ S b)

theorem Sep.mono {h : Heap} : ∀ {L : List HP} {U U' : Nat → Prop}, (∀ b, U b → U' b) → Sep h L U → Sep h L U'
  | [], _, _, _, _ => trivial
  | _ :: _, _, _, hu, ⟨S, hA, hS, hL⟩ => ⟨S, hA, fun b hb => hu b (hS b hb), Sep.mono (fun b hb => ⟨hu b hb.1, hb.2⟩) hL⟩
theorem Sep.loc {h h' : Heap} : ∀ {L : List HP} {U : Nat → Prop}, Sep h L U → (∀ b, U b → h'[b]? = h[b]?) → Sep h' L U
  | [], _, _, _ => trivial
  | A :: _, _, ⟨S, hA, hS, hL⟩, he => ⟨S, A.loc _ _ _ hA fun b hb => he b (hS b hb), hS, Sep.loc hL fun b hb => he b hb.1⟩
theorem Sep.swap {h : Heap} {A B : HP} {L : List HP} {U : Nat → Prop} : Sep h (A :: B :: L) U → Sep h (B :: A :: L) U := by
  rintro ⟨S, hA, hS, T, hB, hT, hL⟩
  refine ⟨T, hB, fun b hb => (hT b hb).1, S, hA, fun b hb => ⟨hS b hb, fun ht => (hT b ht).2 hb⟩, Sep.mono (fun b hb => ⟨⟨hb.1.1, hb.2⟩, hb.1.2⟩) hL⟩
theorem Sep.perm {h : Heap} {L L' : List HP} (p : L.Perm L') : ∀ {U : Nat → Prop}, Sep h L U → Sep h L' U := by
  induction p with
  | nil => exact fun h => h
  | cons x _ ih => rintro U ⟨S, hA, hS, hL⟩; exact ⟨S, hA, hS, ih hL⟩
  | swap x y l => exact fun h => Sep.swap h
  | trans _ _ ih1 ih2 => exact fun h => ih2 (ih1 h)
theorem Sep.append {h : Heap} : ∀ {L L' : List HP} {U V : Nat → Prop}, Sep h L U → Sep h L' V → (∀ b, U b → ¬ V b) → Sep h (L ++ L') (fun b => U b ∨ V b)
  | [], _, _, _, _, h', _ => Sep.mono (fun _ hb => .inr hb) h'
  | _ :: _, _, _, _, ⟨S, hA, hS, hL⟩, h', hd => ⟨S, hA, fun b hb => .inl (hS b hb),
      Sep.mono (fun b hb => hb.elim (fun hu => ⟨.inl hu.1, hu.2⟩) (fun hv => ⟨.inr hv, fun hs => hd b (hS b hs) hv⟩)) (Sep.append hL h' fun b hb => hd b hb.1)⟩
theorem Sep.split {h : Heap} : ∀ {L L' : List HP} {U : Nat → Prop}, Sep h (L ++ L') U → ∃ V : Nat → Prop, (∀ b, V b → U b) ∧ Sep h L V ∧ Sep h L' (fun b => U b ∧ ¬ V b)
  | [], _, U, hs => ⟨fun _ => False, fun _ h => h.elim, trivial, Sep.mono (fun _ hb => ⟨hb, fun h => h⟩) hs⟩
  | A :: L, L', U, ⟨S, hA, hS, hL⟩ => by
    obtain ⟨V, hV, h1, h2⟩ := Sep.split (L := L) (L' := L') hL
    refine ⟨fun b => S b ∨ V b, fun b hb => hb.elim (hS b) fun h => (hV b h).1, ⟨S, hA, fun b hb => .inl hb, ?_⟩, Sep.mono (fun b hb => ⟨hb.1.1, fun h => h.elim hb.1.2 hb.2⟩) h2⟩
    exact Sep.mono (fun b hb => ⟨.inr hb, (hV b hb).2⟩) h1

/-- What was there at the beginning is as it was; beside it there are these parts. -/
def St (h0 h : Heap) (L : List HP) : Prop := Ext h0 h ∧ Sep h L (fun b => h0.size ≤ b ∧ b < h.size)

theorem St.ext {h0 h : Heap} {L : List HP} (s : St h0 h L) : Ext h0 h := s.1
theorem St.nil (h : Heap) : St h h [] := ⟨Ext.refl h, trivial⟩
theorem St.perm {h0 h : Heap} {L L' : List HP} (s : St h0 h L) (p : L.Perm L') : St h0 h L' := ⟨s.1, Sep.perm p s.2⟩
theorem St.imp {h0 h : Heap} {A A' : HP} {L : List HP} (s : St h0 h (A :: L)) (f : ∀ S, A.own h S → A'.own h S) : St h0 h (A' :: L) := by
  obtain ⟨he, S, hA, r⟩ := s
  exact ⟨he, S, f S hA, r⟩
theorem St.drop {h0 h : Heap} {A : HP} {L : List HP} (s : St h0 h (A :: L)) : St h0 h L := by
  obtain ⟨he, S, _, _, r⟩ := s
  exact ⟨he, Sep.mono (fun b hb => hb.1) r⟩
theorem St.dropAll {h0 h : Heap} {L : List HP} (s : St h0 h L) : St h0 h [] := ⟨s.1, trivial⟩
theorem St.swap {h0 h : Heap} {A B : HP} {L : List HP} (s : St h0 h (A :: B :: L)) : St h0 h (B :: A :: L) := ⟨s.1, Sep.swap s.2⟩
/-- The i-th part to the front. -/
theorem St.pick {h0 h : Heap} {L : List HP} (i : Nat) (hi : i < L.length) (s : St h0 h L) : St h0 h (L[i] :: L.eraseIdx i) :=
  s.perm (by
    have : ∀ (L : List HP) (i : Nat) (hi : i < L.length), L.Perm (L[i] :: L.eraseIdx i) := by
      intro L
      induction L with
      | nil => intro i hi; cases hi
      | cons x l ih =>
        intro i hi
        cases i with
        | zero => exact .refl _
        | succ i => exact (List.Perm.cons x (ih i (by simpa using hi))).trans (.swap _ _ _)
    exact this L i hi)
theorem St.pick1 {h0 h : Heap} {A B : HP} {L : List HP} (s : St h0 h (A :: B :: L)) : St h0 h (B :: A :: L) := s.swap
theorem St.pick2 {h0 h : Heap} {A B C : HP} {L : List HP} (s : St h0 h (A :: B :: C :: L)) : St h0 h (C :: A :: B :: L) := s.pick 2 (by simp)
theorem St.pick3 {h0 h : Heap} {A B C D : HP} {L : List HP} (s : St h0 h (A :: B :: C :: D :: L)) : St h0 h (D :: A :: B :: C :: L) := s.pick 3 (by simp)
theorem St.pick4 {h0 h : Heap} {A B C D E : HP} {L : List HP} (s : St h0 h (A :: B :: C :: D :: E :: L)) : St h0 h (E :: A :: B :: C :: D :: L) := s.pick 4 (by simp)
theorem St.pick5 {h0 h : Heap} {A B C D E F : HP} {L : List HP} (s : St h0 h (A :: B :: C :: D :: E :: F :: L)) : St h0 h (F :: A :: B :: C :: D :: E :: L) := s.pick 5 (by simp)
theorem St.split {h0 h : Heap} {L L' : List HP} (s : St h0 h (L ++ L')) : St h0 h L := ⟨s.1, by
  obtain ⟨V, hV, h1, _⟩ := Sep.split s.2
  exact Sep.mono hV h1⟩
theorem St.get {h0 h : Heap} {A : HP} {L : List HP} (s : St h0 h (A :: L)) : ∃ S, A.own h S ∧ ∀ b, S b → h0.size ≤ b ∧ b < h.size := by
  obtain ⟨_, S, hA, hS, _⟩ := s
  exact ⟨S, hA, hS⟩
/-- What a call makes comes to what there was. -/
theorem St.call {h0 h h' : Heap} {L L' : List HP} (s : St h0 h L) (t : St h h' L') : St h0 h' (L' ++ L) := by
  refine ⟨s.1.trans t.1, ?_⟩
  have h1 : Sep h' L (fun b => h0.size ≤ b ∧ b < h.size) := Sep.loc s.2 fun b hb => t.1.2 b hb.2
  exact Sep.mono (fun b hb => hb.elim (fun hb => ⟨Nat.le_trans s.1.1 hb.1, hb.2⟩) (fun hb => ⟨hb.1, Nat.lt_of_lt_of_le hb.2 t.1.1⟩))
    (Sep.append t.2 h1 fun b hb hb' => by omega)
/-- An operation on the first part alone: what else there is stays. -/
theorem St.step {h0 h h' : Heap} {A A' : HP} {L : List HP} (s : St h0 h (A :: L))
    (f : ∀ S, A.own h S → (∀ b, S b → h0.size ≤ b ∧ b < h.size) → h.size ≤ h'.size ∧ (∀ b, b < h.size → ¬ S b → h'[b]? = h[b]?) ∧ ∃ S', A'.own h' S' ∧ ∀ b, S' b → S b ∨ (h.size ≤ b ∧ b < h'.size)) :
    St h0 h' (A' :: L) := by
  obtain ⟨he, S, hA, hS, hL⟩ := s
  obtain ⟨hsz, hk, S', hA', hS'⟩ := f S hA hS
  refine ⟨⟨Nat.le_trans he.1 hsz, fun b hb => ?_⟩, S', hA', fun b hb => ?_, ?_⟩
  · rw [hk b (Nat.lt_of_lt_of_le hb he.1) fun h => by have := (hS b h).1; omega]
    exact he.2 b hb
  · rcases hS' b hb with h1 | h1
    · exact ⟨(hS b h1).1, Nat.lt_of_lt_of_le (hS b h1).2 hsz⟩
    · exact ⟨Nat.le_trans he.1 h1.1, h1.2⟩
  · have h1 := Sep.loc (h' := h') hL fun b hb => hk b hb.1.2 hb.2
    refine Sep.mono (fun b hb => ⟨⟨hb.1.1, Nat.lt_of_lt_of_le hb.1.2 hsz⟩, fun h => ?_⟩) h1
    rcases hS' b h with h2 | h2
    · exact hb.2 h2
    · omega
/-- A part for a new block. -/
theorem St.new {h0 h h' : Heap} {A' : HP} {L : List HP} (s : St h0 h L) (hsz : h.size ≤ h'.size) (hk : ∀ b, b < h.size → h'[b]? = h[b]?)
    (hA : A'.own h' (fun b => h.size ≤ b ∧ b < h'.size)) : St h0 h' (A' :: L) :=
  St.call (L' := [A']) s ⟨⟨hsz, hk⟩, fun b => h.size ≤ b ∧ b < h'.size, hA, fun _ h => h, trivial⟩

/-- Some x. -/
def HP.ex {α : Type} (A : α → HP) : HP := ⟨fun h S => ∃ x, (A x).own h S, fun h h' S ⟨x, hx⟩ he => ⟨x, (A x).loc h h' S hx he⟩⟩
set_option linter.unusedVariables false in
def HP.pure (p : Prop) (A : HP) : HP := ⟨fun h S => p ∧ A.own h S, fun h h' S hx he => ⟨hx.1, A.loc h h' S hx.2 he⟩⟩
theorem St.ex {α : Type} {h0 h : Heap} {A : α → HP} {L : List HP} (s : St h0 h (HP.ex A :: L)) : ∃ x, St h0 h (A x :: L) := by
  obtain ⟨he, S, ⟨x, hx⟩, r⟩ := s
  exact ⟨x, he, S, hx, r⟩
theorem St.toEx {α : Type} {h0 h : Heap} {A : α → HP} {L : List HP} (x : α) (s : St h0 h (A x :: L)) : St h0 h (HP.ex A :: L) := s.imp fun _ h => ⟨x, h⟩
theorem St.pure {p : Prop} {h0 h : Heap} {A : HP} {L : List HP} (s : St h0 h (HP.pure p A :: L)) : p ∧ St h0 h (A :: L) := by
  obtain ⟨he, S, ⟨hp, hx⟩, r⟩ := s
  exact ⟨hp, he, S, hx, r⟩
theorem St.toPure {p : Prop} {h0 h : Heap} {A : HP} {L : List HP} (hp : p) (s : St h0 h (A :: L)) : St h0 h (HP.pure p A :: L) := s.imp fun _ h => ⟨hp, h⟩
/-- Several parts as one. -/
def HP.all (L : List HP) : HP := ⟨fun h S => Sep h L S, fun _ _ _ hs he => Sep.loc hs he⟩
theorem Sep.open {h : Heap} {M L : List HP} {U : Nat → Prop} (s : Sep h (HP.all M :: L) U) : Sep h (M ++ L) U := by
  obtain ⟨S, hM, hS, hL⟩ := s
  exact Sep.mono (fun b hb => hb.elim (fun h => hS b h) (fun h => h.1)) (Sep.append hM hL fun b hb hb' => hb'.2 hb)
theorem Sep.shut {h : Heap} {M L : List HP} {U : Nat → Prop} (s : Sep h (M ++ L) U) : Sep h (HP.all M :: L) U := by
  obtain ⟨V, hV, h1, h2⟩ := Sep.split s
  exact ⟨V, h1, hV, h2⟩
theorem St.open {h0 h : Heap} {M L : List HP} (s : St h0 h (HP.all M :: L)) : St h0 h (M ++ L) := ⟨s.1, Sep.open s.2⟩
theorem St.shut {h0 h : Heap} {M L : List HP} (s : St h0 h (M ++ L)) : St h0 h (HP.all M :: L) := ⟨s.1, Sep.shut s.2⟩

/-! ### Cells behind a pointer -/
def padd (p : Value) (n : Nat) : Value :=
  match p with
  | .pointer (some a) => .pointer (some (a.add n))
  | p => p
def sbase : Value → Value
  | .slice a _ _ => .pointer a
  | v => v
theorem Addr.add_none (b o n : Nat) : (⟨b, o, none⟩ : Addr).add n = ⟨b, o + n, none⟩ := by
  unfold Addr.add; split <;> simp_all
theorem padd_zero (p : Value) : padd p 0 = p := by
  unfold padd; split <;> simp [Addr.add]
theorem padd_padd (p : Value) (m n : Nat) : padd (padd p m) n = padd p (m + n) := by
  unfold padd
  cases p with
  | pointer a =>
    cases a with
    | none => rfl
    | some a =>
      simp only [Addr.add]
      by_cases hm : m = 0
      · subst hm; simp
      · by_cases hn : n = 0
        · subst hn; simp [hm]
        · simp [hm, hn, Nat.add_assoc]
  | _ => rfl

/-- From p on these cells can be read. -/
def Rd (h : Heap) (p : Value) (cs : List Value) : Prop :=
  cs = [] ∨ ∃ b o, p = .pointer (some ⟨b, o, none⟩) ∧ ∀ (j : Nat) (x : Value), cs[j]? = some x → cellAt h ⟨b, o + j, none⟩ = some x
theorem Rd.nil (h : Heap) (p : Value) : Rd h p [] := .inl rfl
theorem Rd.ext {h h' : Heap} {p : Value} {cs : List Value} (r : Rd h p cs) (he : Ext h h') : Rd h' p cs :=
  r.imp id fun ⟨b, o, hp, hc⟩ => ⟨b, o, hp, fun j x hx => cellAt_ext he (hc j x hx)⟩
theorem Rd.at {h : Heap} {p : Value} {cs : List Value} (r : Rd h p cs) {j : Nat} {x : Value} (hx : cs[j]? = some x) :
    ∃ a, padd p j = .pointer (some a) ∧ cellAt h a = some x := by
  rcases r with rfl | ⟨b, o, rfl, hc⟩
  · simp at hx
  · exact ⟨⟨b, o + j, none⟩, by simp [padd, Addr.add_none], hc j x hx⟩
theorem Rd.drop {h : Heap} {p : Value} {cs : List Value} (r : Rd h p cs) (n : Nat) : Rd h (padd p n) (cs.drop n) := by
  rcases r with rfl | ⟨b, o, rfl, hc⟩
  · simp [Rd]
  · refine .inr ⟨b, o + n, by simp [padd, Addr.add_none], fun j x hx => ?_⟩
    rw [List.getElem?_drop] at hx
    simpa [Nat.add_assoc] using hc _ _ hx
theorem Rd.take {h : Heap} {p : Value} {cs : List Value} (r : Rd h p cs) (n : Nat) : Rd h p (cs.take n) := by
  rcases r with rfl | ⟨b, o, rfl, hc⟩
  · simp [Rd]
  · refine .inr ⟨b, o, rfl, fun j x hx => ?_⟩
    rw [List.getElem?_take] at hx
    split at hx
    · exact hc _ _ hx
    · cases hx
theorem Rd.block {h : Heap} {p : Value} {cs : List Value} (r : Rd h p cs) (hne : cs ≠ []) : ∃ b o, p = .pointer (some ⟨b, o, none⟩) ∧ b < h.size := by
  rcases r with rfl | ⟨b, o, rfl, hc⟩
  · exact absurd rfl hne
  · cases cs with
    | nil => exact absurd rfl hne
    | cons x l => exact ⟨b, o, rfl, cellAt_lt (hc 0 x rfl)⟩

/-- The cells from p on, owned (with all their block). -/
def Cells (p : Value) (cs : List Value) : HP :=
  ⟨fun h S => ∃ b o T pre post, p = .pointer (some ⟨b, o, none⟩) ∧ S b ∧ h[b]? = some (.cells (pre ++ cs ++ post).toArray T (0, 0)) ∧ o = pre.length,
   fun h h' S ⟨b, o, T, pre, post, hp, hS, hb, ho⟩ he => ⟨b, o, T, pre, post, hp, hS, (he b hS).trans hb, ho⟩⟩

theorem Cells.rd {h : Heap} {p : Value} {cs : List Value} {S : Nat → Prop} (hc : (Cells p cs).own h S) : Rd h p cs := by
  obtain ⟨b, o, T, pre, post, rfl, _, hb, rfl⟩ := hc
  refine .inr ⟨b, _, rfl, fun j x hx => ?_⟩
  have hj : j < cs.length := (List.getElem?_eq_some_iff.1 hx).1
  simp only [cellAt, hb, Option.isSome_none, Bool.false_eq_true, if_false, List.getElem?_toArray]
  rw [List.append_assoc, List.getElem?_append_right (by omega), Nat.add_sub_cancel_left, List.getElem?_append_left hj]
  exact hx
theorem St.rd {h0 h : Heap} {p : Value} {cs : List Value} {L : List HP} (s : St h0 h (Cells p cs :: L)) : Rd h p cs := by
  obtain ⟨S, hA, _⟩ := s.get
  exact Cells.rd hA

/-! ### What is known of types -/
class Und (P : Program) (t : TypeId) (d : outParam TypeDesc) : Prop where
  eq : P.underlying t = some d
theorem Und.run {P : Program} {t : TypeId} {d : TypeDesc} [u : Und P t d] (w : World) : (underlying t).run P w = .ok d w := run_underlying u.eq w
/-- A type's size in cells and in bytes, and its zero value. -/
class Inf (P : Program) (t : TypeId) (k b : outParam Nat) (z : outParam Value) : Prop where
  info : ∃ i, P.info? t = some i ∧ i.size = k ∧ i.bytes = b ∧ i.zero = some z
theorem Inf.siz {P : Program} {t : TypeId} {k b : Nat} {z : Value} [u : Inf P t k b z] (w : World) : (sizeOf t).run P w = .ok k w := by
  obtain ⟨i, hi, hk, _, _⟩ := u.info
  simp [sizeOf, typeInfo, hi, hk]
theorem Inf.zer {P : Program} {t : TypeId} {k b : Nat} {z : Value} [u : Inf P t k b z] (w : World) : (zeroValue t).run P w = .ok z w := by
  obtain ⟨i, hi, _, _, hz⟩ := u.info
  simp [zeroValue, typeInfo, hi, hz]
class Siz (P : Program) (t : TypeId) (k : outParam Nat) : Prop where
  run : ∀ w, (sizeOf t).run P w = .ok k w
class IsA (P : Program) (t : TypeId) (b : outParam Bool) : Prop where
  run : ∀ w, (isAgg t).run P w = .ok b w

/-! ### Operations without memory -/
section pure
variable {P : Program}
theorem Sp.of {s : Sem Next} {K : Value → Prop} {v : Value} (hr : ∀ w, s.run P w = .ok (.value v) w) (hk : K v) : Sp P s K := ⟨v, hr, hk⟩
theorem nv_run {s : Sem Value} {w w' : World} {v : Value} (h : s.run P w = .ok v w') : (nv s).run P w = .ok (.value v) w' := by
  simp [nv, h]
theorem Sp.iff {s : Sem Value} {K : Value → Prop} {v : Value} (hr : ∀ w, s.run P w = .ok v w) : Sp P (nv s) K ↔ K v := by
  constructor
  · rintro ⟨u, hu, hk⟩
    have h1 := hu default
    rw [nv_run (hr default)] at h1
    injection h1 with h2 _
    injection h2 with h3
    rw [h3]; exact hk
  · exact fun hk => ⟨v, fun w => nv_run (hr w), hk⟩

theorem oBin_int {op : BinOp} {t : TypeId} {x y : Operand} {k : IntKind} {a b : Int} {v : Value} {K : Value → Prop}
    (hr : ∀ w, (binOp op t (.int k a) (.int k b)).run P w = .ok v w) : oBin P op t x y (.int k a) (.int k b) K ↔ K v := by
  refine Sp.iff fun w => ?_
  have : (eqGuard op t x y (.int k a) (.int k b)).run P w = .ok () w := by cases op <;> simp [eqGuard]
  simp [this, hr]
@[simp] theorem oBin_lss {t : TypeId} {x y : Operand} {k : IntKind} {a b : Int} {K : Value → Prop} : oBin P .lss t x y (.int k a) (.int k b) K ↔ K (.bool (decide (a < b))) :=
  oBin_int fun w => by simp [binOp, Op.intCmp]
@[simp] theorem oBin_leq {t : TypeId} {x y : Operand} {k : IntKind} {a b : Int} {K : Value → Prop} : oBin P .leq t x y (.int k a) (.int k b) K ↔ K (.bool (decide (a ≤ b))) :=
  oBin_int fun w => by simp [binOp, Op.intCmp]
@[simp] theorem oBin_gtr {t : TypeId} {x y : Operand} {k : IntKind} {a b : Int} {K : Value → Prop} : oBin P .gtr t x y (.int k a) (.int k b) K ↔ K (.bool (decide (b < a))) :=
  oBin_int fun w => by simp [binOp, Op.intCmp]
@[simp] theorem oBin_geq {t : TypeId} {x y : Operand} {k : IntKind} {a b : Int} {K : Value → Prop} : oBin P .geq t x y (.int k a) (.int k b) K ↔ K (.bool (decide (b ≤ a))) :=
  oBin_int fun w => by simp [binOp, Op.intCmp]
@[simp] theorem oBin_eql {t : TypeId} {x y : Operand} {k : IntKind} {a b : Int} {K : Value → Prop} : oBin P .eql t x y (.int k a) (.int k b) K ↔ K (.bool (decide (a = b))) :=
  oBin_int fun w => by simp [binOp, Op.intCmp]; rfl
@[simp] theorem oBin_neq {t : TypeId} {x y : Operand} {k : IntKind} {a b : Int} {K : Value → Prop} : oBin P .neq t x y (.int k a) (.int k b) K ↔ K (.bool (decide (a ≠ b))) :=
  oBin_int fun w => by simp [binOp, Op.intCmp, bne]; rfl
@[simp] theorem oBin_add {t : TypeId} {x y : Operand} {k : IntKind} {a b : Int} {K : Value → Prop} : oBin P .add t x y (.int k a) (.int k b) K ↔ K (.int k (k.wrap (a + b))) :=
  oBin_int fun w => by simp [binOp, Op.intArith]
@[simp] theorem oBin_sub {t : TypeId} {x y : Operand} {k : IntKind} {a b : Int} {K : Value → Prop} : oBin P .sub t x y (.int k a) (.int k b) K ↔ K (.int k (k.wrap (a - b))) :=
  oBin_int fun w => by simp [binOp, Op.intArith]
@[simp] theorem oBin_mul {t : TypeId} {x y : Operand} {k : IntKind} {a b : Int} {K : Value → Prop} : oBin P .mul t x y (.int k a) (.int k b) K ↔ K (.int k (k.wrap (a * b))) :=
  oBin_int fun w => by simp [binOp, Op.intArith]
theorem oBin_rem {t : TypeId} {x y : Operand} {k : IntKind} {a b : Int} {K : Value → Prop} (hb : b ≠ 0) : oBin P .rem t x y (.int k a) (.int k b) K ↔ K (.int k (a.tmod b)) :=
  oBin_int fun w => by simp [binOp, Op.intDiv, hb]
theorem oBin_quo {t : TypeId} {x y : Operand} {k : IntKind} {a b : Int} {K : Value → Prop} (hb : b ≠ 0) : oBin P .quo t x y (.int k a) (.int k b) K ↔ K (.int k (k.wrap (a.tdiv b))) :=
  oBin_int fun w => by simp [binOp, Op.intDiv, hb]
theorem oBin_str {op : BinOp} {t : TypeId} {x y : Operand} {a b : ByteArray} {v : Value} {K : Value → Prop}
    (hr : ∀ w, (Op.stringOp op a b).run P w = .ok v w) : oBin P op t x y (.string a) (.string b) K ↔ K v := by
  refine Sp.iff fun w => ?_
  have : (eqGuard op t x y (.string a) (.string b)).run P w = .ok () w := by cases op <;> simp [eqGuard]
  have h2 : binOp op t (.string a) (.string b) = Op.stringOp op a b := by cases op <;> rfl
  simp [this, h2, hr]
/-- A string by its bytes. -/
abbrev Str := List UInt8
def str (l : Str) : Value := .string ⟨l.toArray⟩
theorem str_inj {a b : Str} (h : str a = str b) : a = b := by simpa [str] using h
theorem toList_mk (l : Str) : (⟨l.toArray⟩ : ByteArray).toList = l := by rw [ByteArray.toList_eq]
@[simp] theorem oBin_str_eql {t : TypeId} {x y : Operand} {a b : Str} {K : Value → Prop} : oBin P .eql t x y (str a) (str b) K ↔ K (.bool (decide (a = b))) :=
  oBin_str fun w => by
    have : (a == b) = decide (a = b) := by rw [Bool.eq_iff_iff]; simp
    simp [Op.stringOp, this]
@[simp] theorem oBin_str_neq {t : TypeId} {x y : Operand} {a b : Str} {K : Value → Prop} : oBin P .neq t x y (str a) (str b) K ↔ K (.bool (decide (a ≠ b))) :=
  oBin_str fun w => by
    have : (!(a == b)) = decide (a ≠ b) := by rw [Bool.eq_iff_iff]; simp
    simp [Op.stringOp, this]
theorem oBin_bool {op : BinOp} {t : TypeId} {x y : Operand} {a b : Bool} {v : Value} {K : Value → Prop}
    (hr : ∀ w, (binOp op t (.bool a) (.bool b)).run P w = .ok v w) : oBin P op t x y (.bool a) (.bool b) K ↔ K v := by
  refine Sp.iff fun w => ?_
  have : (eqGuard op t x y (.bool a) (.bool b)).run P w = .ok () w := by cases op <;> simp [eqGuard]
  simp [this, hr]
theorem equalIn_bool {t : TypeId} [Und P t .bool] (d : Nat) (a b : Bool) (w : World) : (Op.equalIn (d + 1) t (.bool a) (.bool b)).run P w = .ok (a == b) w := by
  simp [Op.equalIn, Und.run]
theorem oBin_bool_eql {t : TypeId} [Und P t .bool] {x y : Operand} {a b : Bool} {K : Value → Prop} : oBin P .eql t x y (.bool a) (.bool b) K ↔ K (.bool (a == b)) :=
  oBin_bool fun w => by
    have := equalIn_bool (P := P) (t := t) 9999 a b w
    simp only [binOp, Op.equal, Op.maxDepth]
    simp [this]
theorem oBin_bool_neq {t : TypeId} [Und P t .bool] {x y : Operand} {a b : Bool} {K : Value → Prop} : oBin P .neq t x y (.bool a) (.bool b) K ↔ K (.bool (a != b)) :=
  oBin_bool fun w => by
    have := equalIn_bool (P := P) (t := t) 9999 a b w
    simp only [binOp, Op.equal, Op.maxDepth]
    simp [this, bne]
@[simp] theorem oUn_not {a : Bool} {K : Value → Prop} : oUn P .not (.bool a) K ↔ K (.bool !a) := Sp.iff fun w => by simp [Op.unary]
@[simp] theorem oUn_neg {k : IntKind} {a : Int} {K : Value → Prop} : oUn P .neg (.int k a) K ↔ K (.int k (k.wrap (0 - a))) := Sp.iff fun w => by simp [Op.unary, Op.intArith]
@[simp] theorem oPick_bool {c : Bool} {a b : Value} {K : Value → Prop} : oPick P (.bool c) a b K ↔ K (if c then a else b) := by
  constructor
  · rintro ⟨u, hu, hk⟩
    have h1 := hu default
    simp only [pickSem, asBool] at h1
    rw [Sem.run_bind] at h1
    simp at h1
    rw [h1]; exact hk
  · exact fun hk => ⟨_, fun w => by simp [pickSem, asBool], hk⟩
theorem oConv_int {s d : TypeId} {ds : TypeDesc} {k k' : IntKind} [Und P s ds] [Und P d (.int k)] {a : Int} {K : Value → Prop} : oConv P s d (.int k' a) K ↔ K (.int k (k.wrap a)) :=
  Sp.iff fun w => by simp [convert, Und.run, Conv.intToInt]
@[simp] theorem oExt_two0 {a b : Value} {K : Value → Prop} : oExt P (.tuple #[a, b]) 0 K ↔ K a := Sp.iff fun w => by simp [Instr.extract]
@[simp] theorem oExt_two1 {a b : Value} {K : Value → Prop} : oExt P (.tuple #[a, b]) 1 K ↔ K b := Sp.iff fun w => by simp [Instr.extract]
@[simp] theorem oExt_three0 {a b c : Value} {K : Value → Prop} : oExt P (.tuple #[a, b, c]) 0 K ↔ K a := Sp.iff fun w => by simp [Instr.extract]
@[simp] theorem oExt_three1 {a b c : Value} {K : Value → Prop} : oExt P (.tuple #[a, b, c]) 1 K ↔ K b := Sp.iff fun w => by simp [Instr.extract]
@[simp] theorem oExt_three2 {a b c : Value} {K : Value → Prop} : oExt P (.tuple #[a, b, c]) 2 K ↔ K c := Sp.iff fun w => by simp [Instr.extract]
@[simp] theorem oExt_one0 {a : Value} {K : Value → Prop} : oExt P (.tuple #[a]) 0 K ↔ K a := Sp.iff fun w => by simp [Instr.extract]
@[simp] theorem oFunc_iff {fn : Fn} {l r : Array Value} {K : Value → Prop} : oFunc P fn l r K ↔ K (.func fn l r) := Sp.iff fun w => by simp [Instr.makeFunc]
@[simp] theorem oNil_ptr {a : Addr} {K : Value → Prop} : oNil P (.pointer (some a)) K ↔ K (.pointer (some a)) := by
  constructor
  · rintro ⟨u, hu, hk⟩
    have h1 := hu default
    simp [nilSem] at h1
    rw [h1]; exact hk
  · exact fun hk => ⟨_, fun w => by simp [nilSem], hk⟩

theorem cond_t {A B : Prop} : cond (.bool true) A B ↔ A := Iff.rfl
theorem cond_f {A B : Prop} : cond (.bool false) A B ↔ B := Iff.rfl
theorem cond_pos {p : Prop} [Decidable p] {A B : Prop} (hp : p) : cond (.bool (decide p)) A B ↔ A := by rw [decide_eq_true hp]; exact Iff.rfl
theorem cond_neg {p : Prop} [Decidable p] {A B : Prop} (hp : ¬ p) : cond (.bool (decide p)) A B ↔ B := by rw [decide_eq_false hp]; exact Iff.rfl

/-- A slice of n elements. -/
def slen : Value → Nat
  | .slice _ n _ => n
  | .string s => s.size
  | _ => 0
def IsSl (v : Value) (n : Nat) : Prop := ∃ a c, v = .slice a n c
theorem oLen_sl {t ty : TypeId} {e : TypeId} [Und P t (.slice e)] {v : Value} {n : Nat} {K : Value → Prop} (hv : IsSl v n) : oLen P #[t] ty v K ↔ K (.int .i64 n) := by
  obtain ⟨a, c, rfl⟩ := hv
  exact Sp.iff fun w => by simp [Builtin.len_, Und.run, goInt]
theorem oLen_str {t ty : TypeId} [Und P t .string] {s : Str} {K : Value → Prop} : oLen P #[t] ty (str s) K ↔ K (.int .i64 s.length) :=
  Sp.iff fun w => by
    have : (⟨s.toArray⟩ : ByteArray).size = s.length := List.size_toArray
    simp [Builtin.len_, Und.run, goInt, str, this]
theorem oIdx_sl {t e : TypeId} {k : Nat} [Und P t (.slice e)] [Siz P e k] {v : Value} {n : Nat} {ik : IntKind} {i : Int} {K : Value → Prop} (hv : IsSl v n) (hnz : sbase v ≠ .pointer none) (h0 : 0 ≤ i) (h1 : i < n) :
    oIdx P t v (.int ik i) K ↔ K (padd (sbase v) (i.toNat * k)) := by
  obtain ⟨a, c, rfl⟩ := hv
  cases a with
  | none => exact absurd rfl hnz
  | some a => exact Sp.iff fun w => by simp [Instr.indexAt, asIntOf, Und.run, Siz.run, h0, h1, sbase, padd]
theorem oIndex_str {t : TypeId} [Und P t .string] {s : Str} {ik : IntKind} {i : Int} {K : Value → Prop} (h0 : 0 ≤ i) {c : UInt8} (hc : s[i.toNat]? = some c) :
    oIndex P t (str s) (.int ik i) K ↔ K (.int .u8 c.toNat) := by
  refine Sp.iff fun w => ?_
  have h2 : (⟨s.toArray⟩ : ByteArray)[i.toNat]? = some c := by
    have hl : i.toNat < s.length := (List.getElem?_eq_some_iff.1 hc).1
    have h3 : i.toNat < (⟨s.toArray⟩ : ByteArray).size := by
      have : (⟨s.toArray⟩ : ByteArray).size = s.length := List.size_toArray
      omega
    rw [getElem?_pos (c := (⟨s.toArray⟩ : ByteArray)) (i := i.toNat) h3, ← hc, List.getElem?_eq_getElem hl]
    rfl
  simp [Instr.index, asIntOf, Und.run, str, h0, h2]
end pure
end Go.Sh
