/- Maps with strings as keys, ranges over them, bytes and strings, calls: the rules, over any program. -/
import Derived.Test.YtfaieigeojiiiaaGreatOp
set_option linter.unusedVariables false
namespace Go.Sh
section maps
variable {P : Program}

def ents (m : List (Str × Value)) (st : List Nat) : List MapEntry := (m.zip st).map fun p => ⟨str p.1.1, p.1.2, p.2⟩
def lookI (m : List (Str × Value)) (k : Str) (i : Nat) : Option (Nat × Value) :=
  match m with
  | [] => none
  | (k', x) :: m => if k' = k then some (i, x) else lookI m k (i + 1)
def look (m : List (Str × Value)) (k : Str) : Option Value :=
  match m with
  | [] => none
  | (k', x) :: m => if k' = k then some x else look m k
def ups (m : List (Str × Value)) (k : Str) (x : Value) : List (Str × Value) :=
  match m with
  | [] => [(k, x)]
  | (k', y) :: m => if k' = k then (k, x) :: m else (k', y) :: ups m k x
theorem str_eq (a b : Str) : ((⟨a.toArray⟩ : ByteArray) == ⟨b.toArray⟩) = decide (a = b) := by
  rw [show ((⟨a.toArray⟩ : ByteArray) == ⟨b.toArray⟩) = (a.toArray == b.toArray) from rfl, Bool.eq_iff_iff]
  simp
/-- A map that can be read. -/
structure MapOk (m : List (Str × Value)) (st : List Nat) (c : Nat) : Prop where
  len : m.length = st.length
  keys : (m.map (·.1)).Nodup
  born : st.Nodup
  lt : ∀ b ∈ st, b < c
def RdM (h : Heap) (v : Value) (m : List (Str × Value)) (st : List Nat) (c : Nat) : Prop :=
  MapOk m st c ∧ ∃ r, v = .map (some r) ∧ h[r]? = some (.map (ents m st).toArray c)
def MapS (v : Value) (m : List (Str × Value)) (st : List Nat) (c : Nat) : HP :=
  ⟨fun h S => MapOk m st c ∧ ∃ r, v = .map (some r) ∧ S r ∧ h[r]? = some (.map (ents m st).toArray c),
   fun h h' S ⟨h1, r, h2, h3, h4⟩ he => ⟨h1, r, h2, h3, (he r h3).trans h4⟩⟩
def MapO (v : Value) (m : List (Str × Value)) : HP := HP.ex fun st => HP.ex fun c => MapS v m st c
theorem run_getObj {w : World} {r : Nat} {o : Obj} (h : w.heap[r]? = some o) (hc : ∀ a b d, o ≠ .cells a b d) : (getObj r).run P w = .ok o w := by
  unfold getObj
  simp only [Sem.run, h]
theorem run_setObj {w : World} {r : Nat} {o o' : Obj} (h : w.heap[r]? = some o) (hc : ∀ a b d, o ≠ .cells a b d) : (setObj r o').run P w = .ok () { w with heap := setB w.heap r o' } := by
  unfold setObj
  simp only [Sem.run, h]
  cases o <;> first | rfl | (rename_i a b d; exact absurd rfl (hc a b d))

/-! Ranging over a map whose entries stay the same ones (their values may turn). 'ks': the keys that have come. -/
def stampOf (keys : List Str) (st : List Nat) (k : Str) : Nat :=
  match keys, st with
  | k' :: keys, b :: st => if k' = k then b else stampOf keys st k
  | _, _ => 0
def IterS (it v : Value) (keys : List Str) (st : List Nat) (c : Nat) (ks : List Str) : HP :=
  ⟨fun h S => ∃ i r, it = .pointer (some ⟨i, 0, none⟩) ∧ v = .map (some r) ∧ S i ∧ h[i]? = some (.mapIter (some r) c (ks.map (stampOf keys st)).toArray c),
   fun h h' S ⟨i, r, h1, h2, h3, h4⟩ he => ⟨i, r, h1, h2, h3, (he i h3).trans h4⟩⟩
end maps

section bytes
variable {P : Program}
def bytesV (l : Str) : List Value := l.map fun c => .int .u8 c.toNat
/-! Calls. -/
/-- A function of the program's own text. -/
class Fnc (P : Program) (f : FuncId) : Prop where
  run : ∀ args w, (callFunc f args).run P w = .ok (.enter f args) w
end bytes
end Go.Sh
set_option linter.unusedVariables false
namespace Go.Mk
open Go Go.Sh
section maps
variable {P : Program}
/-- A key: a string, or a number. -/
abbrev MK := Str ⊕ (IntKind × Int)
def kV : MK → Value
  | .inl l => str l
  | .inr p => .int p.1 p.2
def kOk (d : TypeDesc) : MK → Prop
  | .inl _ => d = .string
  | .inr p => d = .int p.1
def ents (m : List (MK × Value)) (st : List Nat) : List MapEntry := (m.zip st).map fun p => ⟨kV p.1.1, p.1.2, p.2⟩
def lookI (m : List (MK × Value)) (k : MK) (i : Nat) : Option (Nat × Value) :=
  match m with
  | [] => none
  | (k', x) :: m => if k' = k then some (i, x) else lookI m k (i + 1)
def look (m : List (MK × Value)) (k : MK) : Option Value :=
  match m with
  | [] => none
  | (k', x) :: m => if k' = k then some x else look m k
def ups (m : List (MK × Value)) (k : MK) (x : Value) : List (MK × Value) :=
  match m with
  | [] => [(k, x)]
  | (k', y) :: m => if k' = k then (k, x) :: m else (k', y) :: ups m k x
theorem lookI_look (k : MK) : ∀ (m : List (MK × Value)) (i : Nat), (lookI m k i).map (·.2) = look m k
  | [], _ => rfl
  | (k', x) :: m, i => by
    unfold lookI look
    split
    · rfl
    · exact lookI_look k m (i + 1)
theorem same_k {d : TypeDesc} {k k' : MK} (h : kOk d k) (h' : kOk d k') : Instr.sameNow d (kV k) (kV k') = some (decide (k' = k)) := by
  cases k with
  | inl l =>
    cases k' with
    | inl l' =>
      have e : d = .string := h
      subst e
      show some ((⟨l.toArray⟩ : ByteArray) == ⟨l'.toArray⟩) = _
      rw [Go.Sh.str_eq]
      congr 1
      simp only [decide_eq_decide, Sum.inl.injEq]
      exact eq_comm
    | inr p => have e : d = .string := h; subst e; cases (show TypeDesc.string = .int p.1 from h')
  | inr p =>
    cases k' with
    | inl l => have e : d = .int p.1 := h; subst e; cases (show TypeDesc.int p.1 = .string from h')
    | inr q =>
      obtain ⟨a, x⟩ := p
      obtain ⟨b, y⟩ := q
      have e : d = .int a := h
      subst e
      have e2 : TypeDesc.int a = .int b := h'
      simp only [TypeDesc.int.injEq] at e2
      subst e2
      show (if a = a then some (x == y) else none) = _
      rw [if_pos rfl]
      congr 1
      rw [show (x == y) = decide (x = y) from rfl]
      simp only [decide_eq_decide, Sum.inr.injEq, Prod.mk.injEq, true_and]
      exact eq_comm
theorem findNow_ents {d : TypeDesc} (k : MK) (hk : kOk d k) : ∀ (m : List (MK × Value)) (st : List Nat) (i : Nat), (∀ p ∈ m, kOk d p.1) → m.length = st.length → Instr.findNow d (kV k) (ents m st) i = some (lookI m k i)
  | [], [], _, _, _ => rfl
  | (k', x) :: m, b :: st, i, ho, h => by
    have h' : m.length = st.length := by simpa using h
    show Instr.findNow d (kV k) (⟨kV k', x, b⟩ :: ents m st) i = _
    unfold Instr.findNow lookI
    simp only [same_k hk (ho _ (.head _))]
    by_cases e : k' = k
    · subst e; simp
    · rw [decide_eq_false e, if_neg e]
      exact findNow_ents k hk m st (i + 1) (fun p hp => ho p (.tail _ hp)) h'
  | [], _ :: _, _, _, h => by simp at h
  | _ :: _, [], _, _, h => by simp at h
theorem run_checkKey_k {kt : TypeId} {d : TypeDesc} (hu : P.underlying kt = some d) (e : Bool) (n : Nat) {k : MK} (hk : kOk d k) (w : World) : (Instr.checkKey e (n + 1) kt (kV k)).run P w = .ok () w := by
  haveI : Und P kt d := ⟨hu⟩
  cases k with
  | inl l => have e : d = .string := hk; subst e; simp [Instr.checkKey, Und.run, kV, str]
  | inr p => have e : d = .int p.1 := hk; subst e; simp [Instr.checkKey, Und.run, kV]
theorem run_findKey_k {kt : TypeId} {d : TypeDesc} (hu : P.underlying kt = some d) {k : MK} (hk : kOk d k) (m : List (MK × Value)) (st : List Nat) (ho : ∀ p ∈ m, kOk d p.1) (h : m.length = st.length) (w : World) :
    (Instr.findKey kt (kV k) (ents m st)).run P w = .ok (lookI m k 0) w := by
  haveI : Und P kt d := ⟨hu⟩
  simp [Instr.findKey, Und.run, findNow_ents k hk m st 0 ho h]
theorem sameBits_k (k : MK) : Instr.sameBits 10000 (kV k) (kV k) = true := by
  cases k with
  | inl l => simp [Instr.sameBits, kV, str, Go.Sh.str_eq]
  | inr p => simp [Instr.sameBits, kV]

/-- A map that can be read. -/
structure MapOk (m : List (MK × Value)) (st : List Nat) (c : Nat) : Prop where
  len : m.length = st.length
  keys : (m.map (·.1)).Nodup
  born : st.Nodup
  lt : ∀ b ∈ st, b < c
def RdM (h : Heap) (v : Value) (m : List (MK × Value)) (st : List Nat) (c : Nat) : Prop :=
  MapOk m st c ∧ ∃ r, v = .map (some r) ∧ h[r]? = some (.map (ents m st).toArray c)
def MapS (v : Value) (m : List (MK × Value)) (st : List Nat) (c : Nat) : HP :=
  ⟨fun h S => MapOk m st c ∧ ∃ r, v = .map (some r) ∧ S r ∧ h[r]? = some (.map (ents m st).toArray c),
   fun h h' S ⟨h1, r, h2, h3, h4⟩ he => ⟨h1, r, h2, h3, (he r h3).trans h4⟩⟩
/-- Its entries came one behind the other, and none went. -/
def MapO (v : Value) (m : List (MK × Value)) : HP := MapS v m (List.range m.length) m.length
theorem St.mapRd {h0 h : Heap} {v : Value} {m : List (MK × Value)} {st : List Nat} {c : Nat} {L : List HP} (s : St h0 h (MapS v m st c :: L)) : RdM h v m st c := by
  obtain ⟨S, ⟨h1, r, h2, _, h4⟩, _⟩ := s.get
  exact ⟨h1, r, h2, h4⟩
theorem St.mapO {h0 h : Heap} {v : Value} {m : List (MK × Value)} {L : List HP} (s : St h0 h (MapO v m :: L)) : St h0 h (MapS v m (List.range m.length) m.length :: L) := s

theorem oLook_val {t kt et : TypeId} {kk bb : Nat} {z : Value} {d : TypeDesc} [Und P t (.map kt et)] (hu : P.underlying kt = some d) [Inf P et kk bb z] {v : Value} {m : List (MK × Value)} {k : MK} {ok : Bool} {D : Heap → Prop} {K : Value → Prop}
    (hkk : kOk d k) (ho : ∀ p ∈ m, kOk d p.1) (hr : ∀ h', D h' → ∃ st c, RdM h' v m st c) (hk : K (if ok then .tuple #[(look m k).getD z, .bool (look m k).isSome] else (look m k).getD z)) : oLook P t v (kV k) ok D K := by
  refine ⟨_, fun w hw => ?_, hk⟩
  obtain ⟨st, c, hok, r, rfl, hb⟩ := hr _ hw
  refine nv_run ?_
  unfold Instr.lookup
  have h1 := run_findKey_k hu hkk m st ho hok.len w
  have h2 := lookI_look k m 0
  simp only [Sem.run_bind, Und.run (P := P) (t := t), Result.andThen_ok, run_getObj (P := P) hb (by simp), pure_bind, run_checkKey_k hu _ 9999 hkk, h1]
  cases hl : lookI m k 0 with
  | none =>
    rw [hl] at h2
    simp only [Option.map_none] at h2
    rw [← h2]
    simp [Inf.zer]
  | some p =>
    rw [hl] at h2
    simp only [Option.map_some] at h2
    rw [← h2]
    simp

theorem ents_append (m m' : List (MK × Value)) (st st' : List Nat) (h : m.length = st.length) : ents (m ++ m') (st ++ st') = ents m st ++ ents m' st' := by
  simp [ents, List.zip_append h]
theorem lookI_some (k : MK) : ∀ (m : List (MK × Value)) (st : List Nat) (i : Nat) {j : Nat} {x y : Value}, m.length = st.length → lookI m k i = some (j, x) →
    i ≤ j ∧ (ents m st)[j - i]?.map (·.key) = some (kV k) ∧ (ents m st).modify (j - i) (fun e => { e with key := kV k, val := y }) = ents (ups m k y) st
  | [], _, _, _, _, _, _, h => by simp [lookI] at h
  | (k', x') :: m, b :: st, i, j, x, y, hl, h => by
    unfold lookI at h
    show i ≤ j ∧ ((⟨kV k', x', b⟩ :: ents m st : List MapEntry)[j - i]?).map _ = _ ∧ (⟨kV k', x', b⟩ :: ents m st : List MapEntry).modify (j - i) _ = ents (ups ((k', x') :: m) k y) (b :: st)
    split at h
    · rename_i hk
      subst hk
      simp only [Option.some.injEq, Prod.mk.injEq] at h
      obtain ⟨rfl, rfl⟩ := h
      refine ⟨Nat.le_refl _, by simp, ?_⟩
      simp only [Nat.sub_self, List.modify_zero_cons, ups, if_true]
      rfl
    · rename_i hk
      obtain ⟨h1, h2, h3⟩ := lookI_some k m st (i + 1) (y := y) (by simpa using hl) h
      refine ⟨by omega, ?_, ?_⟩
      · rw [show j - i = (j - (i + 1)) + 1 from by omega]; simpa using h2
      · rw [show j - i = (j - (i + 1)) + 1 from by omega]
        simp only [List.modify_succ_cons, h3, ups, if_neg hk]
        rfl
  | _ :: _, [], _, _, _, _, hl, _ => by simp at hl
theorem lookI_none (k : MK) (y : Value) : ∀ (m : List (MK × Value)) (i : Nat), lookI m k i = none → ups m k y = m ++ [(k, y)] ∧ ∀ p ∈ m, p.1 ≠ k
  | [], _, _ => ⟨rfl, by simp⟩
  | (k', x') :: m, i, h => by
    unfold lookI at h
    split at h
    · cases h
    · rename_i hk
      obtain ⟨h1, h2⟩ := lookI_none k y m (i + 1) h
      refine ⟨by simp [ups, hk, h1], fun p hp => ?_⟩
      rcases List.mem_cons.1 hp with rfl | hp
      · exact hk
      · exact h2 p hp
theorem ups_keys_some (k : MK) (y : Value) : ∀ (m : List (MK × Value)) (i : Nat) {r}, lookI m k i = some r → (ups m k y).map (·.1) = m.map (·.1)
  | [], _, _, h => by simp [lookI] at h
  | (k', x') :: m, i, r, h => by
    unfold lookI at h
    split at h
    · rename_i hk; subst hk; simp [ups]
    · rename_i hk; simp [ups, hk, ups_keys_some k y m (i + 1) h]

/-- A store into a map of one's own. -/
theorem oUpd_own [Gd] {t kt et : TypeId} {d : TypeDesc} [Und P t (.map kt et)] (hu : P.underlying kt = some d) {h0 h : Heap} {v x : Value} {m : List (MK × Value)} {st : List Nat} {c : Nat} {k : MK} {L : List HP} {K : Value → Heap → Prop}
    (hkk : kOk d k) (ho : ∀ p ∈ m, kOk d p.1) (s : St h0 h (MapS v m st c :: L)) (g : ∀ h' st' c', ((look m k).isSome → (ups m k x).length = m.length ∧ st' = st ∧ c' = c) → ((look m k) = none → (ups m k x).length = m.length + 1 ∧ st' = st ++ [c] ∧ c' = c + 1) → St h0 h' (MapS v (ups m k x) st' c' :: L) → K undef h') : oUpd P t v (kV k) x h K := by
  intro w hw
  obtain ⟨_, S0, ⟨hok, r, rfl, hSr, hb⟩, _, _⟩ := id s
  have hbw : w.heap[r]? = some (.map (ents m st).toArray c) := by rw [hw]; exact hb
  have h1 := run_findKey_k hu hkk m st ho hok.len w
  have hl := lookI_look k m 0
  -- the step, whatever the new object
  have stepTo : ∀ m' st' c', MapOk m' st' c' → St h0 (setB h r (.map (ents m' st').toArray c')) (MapS (.map (some r)) m' st' c' :: L) := by
    intro m' st' c' hok'
    refine St.step s fun S' hA' hS' => ?_
    obtain ⟨_, r', hr', hSr', hb'⟩ := hA'
    simp only [Value.map.injEq, Option.some.injEq] at hr'
    subst hr'
    exact ⟨by rw [setB_size]; exact Nat.le_refl _, fun i _ hi => setB_ne (fun e => hi (e ▸ hSr')), S', ⟨hok', r, rfl, hSr', setB_eq (lt_of_some hb')⟩, fun i hi => .inl hi⟩
  cases hf : lookI m k 0 with
  | some p =>
    obtain ⟨j, x0⟩ := p
    obtain ⟨_, hkey, hmod⟩ := lookI_some k m st 0 (y := x) hok.len hf
    simp only [Nat.sub_zero] at hkey hmod
    have hkeys := ups_keys_some k x m 0 hf
    have hok' : MapOk (ups m k x) st c := ⟨by rw [← hok.len, ← List.length_map (f := (·.1)), hkeys, List.length_map], by rw [hkeys]; exact hok.keys, hok.born, hok.lt⟩
    have hrun : (Instr.mapUpdate t (.map (some r)) (kV k) x).run P w = .ok () { w with heap := setB h r (.map (ents (ups m k x) st).toArray c) } := by
      unfold Instr.mapUpdate
      have hstay : (Instr.keyThatStays (((ents m st).toArray[j]?.map (·.key)).getD (kV k)) (kV k)).run P w = .ok (kV k) w := by
        have e1 : ((ents m st).toArray[j]?.map (·.key)).getD (kV k) = kV k := by
          rw [List.getElem?_toArray, hkey]; rfl
        rw [e1]
        have e2 := sameBits_k k
        simp [Instr.keyThatStays, e2]
      have hset := run_setObj (P := P) (o' := .map (ents (ups m k x) st).toArray c) hbw (by simp)
      rw [hw] at hset
      have hmod' : (ents m st).toArray.modify j (fun e => { e with key := kV k, val := x }) = (ents (ups m k x) st).toArray := by
        rw [← hmod]; simp
      simp only [Sem.run_bind, Und.run (P := P) (t := t), Result.andThen_ok, run_getObj (P := P) hbw (by simp), run_checkKey_k hu _ 9999 hkk, h1, hf, hstay, hmod', hset]
    have : (nu (Instr.mapUpdate t (.map (some r)) (kV k) x)).run P w = .ok .skip { w with heap := setB h r (.map (ents (ups m k x) st).toArray c) } := by
      simp only [nu]; rw [Sem.run_bind, hrun]; rfl
    rw [this]
    exact ⟨⟨rfl, rfl, rfl, fun _ => by first | exact Nat.le_refl _ | exact Nat.le_succ _ | exact Nat.le_add_right _ _⟩, g _ st c (fun _ => ⟨by rw [← List.length_map (f := (·.1)), hkeys, List.length_map], rfl, rfl⟩) (fun h => by rw [hf] at hl; simp only [Option.map_some] at hl; rw [← hl] at h; cases h) (stepTo _ _ _ hok')⟩
  | none =>
    obtain ⟨hups, hne⟩ := lookI_none k x m 0 hf
    have hok' : MapOk (ups m k x) (st ++ [c]) (c + 1) := by
      rw [hups]
      refine ⟨by simp [hok.len], ?_, ?_, ?_⟩
      · rw [List.map_append, List.nodup_append]
        refine ⟨hok.keys, by simp, ?_⟩
        intro a ha b hb
        obtain ⟨p, hp, rfl⟩ := List.mem_map.1 ha
        simp only [List.map_cons, List.map_nil, List.mem_singleton] at hb
        rw [hb]; exact hne p hp
      · rw [List.nodup_append]
        refine ⟨hok.born, by simp, ?_⟩
        intro a ha b hb
        simp only [List.mem_singleton] at hb
        subst hb
        have := hok.lt a ha
        omega
      · intro b hb
        rcases List.mem_append.1 hb with hb | hb
        · have := hok.lt b hb; omega
        · simp only [List.mem_singleton] at hb; omega
    have hents : ents (ups m k x) (st ++ [c]) = ents m st ++ [⟨kV k, x, c⟩] := by
      rw [hups, ents_append _ _ _ _ hok.len]; rfl
    have hrun : (Instr.mapUpdate t (.map (some r)) (kV k) x).run P w = .ok () { w with heap := setB h r (.map (ents (ups m k x) (st ++ [c])).toArray (c + 1)) } := by
      unfold Instr.mapUpdate
      have hset := run_setObj (P := P) (o' := .map (ents (ups m k x) (st ++ [c])).toArray (c + 1)) hbw (by simp)
      rw [hw] at hset
      have hpush : (ents m st).toArray.push { key := kV k, val := x, born := c } = (ents (ups m k x) (st ++ [c])).toArray := by rw [hents]; simp
      simp only [Sem.run_bind, Und.run (P := P) (t := t), Result.andThen_ok, run_getObj (P := P) hbw (by simp), run_checkKey_k hu _ 9999 hkk, h1, hf, hpush, hset]
    have : (nu (Instr.mapUpdate t (.map (some r)) (kV k) x)).run P w = .ok .skip { w with heap := setB h r (.map (ents (ups m k x) (st ++ [c])).toArray (c + 1)) } := by
      simp only [nu]; rw [Sem.run_bind, hrun]; rfl
    rw [this]
    refine ⟨⟨rfl, rfl, rfl, fun _ => by first | exact Nat.le_refl _ | exact Nat.le_succ _ | exact Nat.le_add_right _ _⟩, g _ (st ++ [c]) (c + 1) (fun h => ?_) (fun _ => ⟨by rw [hups]; simp, rfl, rfl⟩) (stepTo _ _ _ hok')⟩
    rw [hf] at hl
    simp only [Option.map_none] at hl
    rw [← hl] at h
    cases h

/-- len of a map. -/
theorem oLenM_rd {t ty kt et : TypeId} [Und P t (.map kt et)] {v : Value} {m : List (MK × Value)} {D : Heap → Prop} {K : Value → Prop}
    (hr : ∀ h', D h' → ∃ st c, RdM h' v m st c) (hk : K (.int .i64 m.length)) : oLenM P #[t] ty v D K := by
  refine ⟨_, fun w hw => ?_, hk⟩
  obtain ⟨st, c, hok, r, rfl, hb⟩ := hr _ hw
  refine nv_run ?_
  have hsz : (ents m st).length = m.length := by simp [ents, hok.len]
  have := run_getObj (P := P) hb (by simp)
  unfold Builtin.len_
  simp [Und.run, this, goInt, hsz]


end maps
end Go.Mk
