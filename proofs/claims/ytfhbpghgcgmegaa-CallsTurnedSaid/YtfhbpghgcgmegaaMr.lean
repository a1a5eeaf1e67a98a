/- Maps of rows of one's own: over any program. -/
import Derived.Test.YtfhbpghgcgmegaaCm
set_option linter.unusedVariables false
namespace Go.Sh
section mr
variable {P : Program} {α : Type}

theorem put_mid {β : Type} {k : Str} {x y : β} : ∀ {a b : List (Str × β)}, k ∉ a.map (·.1) → put (a ++ (k, y) :: b) k x = a ++ (k, x) :: b
  | [], _, _ => by simp [put]
  | (k', z) :: a, b, h => by
    simp only [List.map_cons, List.mem_cons, not_or] at h
    simp only [List.cons_append, put]
    rw [if_neg (fun e => h.1 e.symm), put_mid h.2]
theorem put_new {β : Type} {k : Str} {x : β} : ∀ {a : List (Str × β)}, k ∉ a.map (·.1) → put a k x = a ++ [(k, x)]
  | [], _ => rfl
  | (k', z) :: a, h => by
    simp only [List.map_cons, List.mem_cons, not_or] at h
    simp only [List.cons_append, put]
    rw [if_neg (fun e => h.1 e.symm), put_new h.2]
theorem get_mid {β : Type} {k : Str} {y : β} : ∀ {a b : List (Str × β)}, k ∉ a.map (·.1) → get (a ++ (k, y) :: b) k = some y
  | [], _, _ => by simp [get]
  | (k', z) :: a, b, h => by
    simp only [List.map_cons, List.mem_cons, not_or] at h
    simp only [List.cons_append, get]
    rw [if_neg (fun e => h.1 e.symm), get_mid h.2]
theorem get_none {β : Type} {k : Str} {a : List (Str × β)} (h : k ∉ a.map (·.1)) : get a k = none := by
  have := get_isSome k a
  cases hg : get a k with
  | none => rfl
  | some x => rw [hg] at this; exact absurd (this.1 rfl) h
theorem mem_split {β : Type} {k : Str} : ∀ {es : List (Str × β)}, k ∈ es.map (·.1) → ∃ a y b, es = a ++ (k, y) :: b ∧ k ∉ a.map (·.1)
  | [], h => by simp at h
  | (k', y) :: es, h => by
    by_cases e : k' = k
    · subst e
      exact ⟨[], y, es, rfl, by simp⟩
    · simp only [List.map_cons, List.mem_cons] at h
      obtain ⟨a, z, b, h1, h2⟩ := mem_split (h.resolve_left fun h => e h.symm)
      refine ⟨(k', y) :: a, z, b, by rw [h1]; rfl, ?_⟩
      simp only [List.map_cons, List.mem_cons, not_or]
      exact ⟨fun h => e h.symm, h2⟩

/-- An entry: its key, its value, what the value has. -/
abbrev Ent (α : Type) := Str × Value × List α
def cellH (enc : α → Value) (o : Option Str) (t : Ent α) : HP := if o = some t.1 then HP.all [] else Row 1 t.2.1 t.2.2.length (t.2.2.map enc)
/-- A map of rows of one's own; a key may want its row. -/
def MRh (enc : α → Value) (v : Value) (e : List (Str × List α)) (o : Option Str) : HP :=
  HP.ex fun es : List (Ent α) => HP.pure (es.map (fun t => (t.1, t.2.2)) = e) (HP.all (MapO v (es.map fun t => (t.1, t.2.1)) :: es.map (cellH enc o)))
abbrev MR (enc : α → Value) (v : Value) (e : List (Str × List α)) : HP := MRh enc v e none
theorem St.mrOpen {enc : α → Value} {h0 h : Heap} {v : Value} {e : List (Str × List α)} {o : Option Str} {L : List HP} (s : St h0 h (MRh enc v e o :: L)) :
    ∃ es : List (Ent α), e = es.map (fun t => (t.1, t.2.2)) ∧ (es.map (·.1)).Nodup ∧ St h0 h (MapO v (es.map fun t => (t.1, t.2.1)) :: (es.map (cellH enc o) ++ L)) := by
  obtain ⟨es, s⟩ := St.ex s
  obtain ⟨he, s⟩ := St.pure s
  have s1 := s.open
  refine ⟨es, he.symm, ?_, s1⟩
  obtain ⟨st, c, s2⟩ := St.mapO s1
  have := s2.mapRd.1.keys
  rw [List.map_map] at this
  exact this
theorem St.mrShut {enc : α → Value} {h0 h : Heap} {v : Value} {o : Option Str} {es : List (Ent α)} {L : List HP} (s : St h0 h (MapO v (es.map fun t => (t.1, t.2.1)) :: (es.map (cellH enc o) ++ L))) :
    St h0 h (MRh enc v (es.map fun t => (t.1, t.2.2)) o :: L) :=
  St.toEx es (St.toPure rfl (St.shut (M := MapO v (es.map fun t => (t.1, t.2.1)) :: es.map (cellH enc o)) s))
theorem St.addNil {h0 h : Heap} {L : List HP} (s : St h0 h L) : St h0 h (HP.all [] :: L) :=
  ⟨s.1, fun _ => False, trivial, fun _ h => h.elim, Sep.mono (fun b hb => ⟨hb, fun h => h⟩) s.2⟩
theorem St.nilRow {h0 h : Heap} {L : List HP} (s : St h0 h L) : St h0 h (Row 1 (.slice none 0 0) 0 [] :: L) :=
  ⟨s.1, fun _ => False, ⟨by simp, .inl ⟨rfl, rfl⟩⟩, fun _ h => h.elim, Sep.mono (fun b hb => ⟨hb, fun h => h⟩) s.2⟩
theorem cell_ne {enc : α → Value} {o o' : Option Str} {k : Str} (ho : ∀ x, o = some x → x = k) (ho' : ∀ x, o' = some x → x = k) : ∀ {a : List (Ent α)}, k ∉ a.map (·.1) → a.map (cellH enc o) = a.map (cellH enc o')
  | [], _ => rfl
  | t :: a, h => by
    simp only [List.map_cons, List.mem_cons, not_or] at h
    simp only [List.map_cons]
    rw [cell_ne ho ho' h.2]
    congr 1
    unfold cellH
    rw [if_neg (fun e => h.1 (ho _ e).symm), if_neg (fun e => h.1 (ho' _ e).symm)]
theorem mid_perm {β : Type} (a b c : List β) (x : β) : (a ++ x :: b ++ c).Perm (x :: (a ++ b ++ c)) := by
  rw [List.append_assoc, List.append_assoc]
  exact List.perm_middle
theorem St.mr {enc : α → Value} {h0 h : Heap} {v : Value} {e : List (Str × List α)} {L : List HP} (s : St h0 h (MR enc v e :: L)) : RdMp (RdL enc) h v e := by
  obtain ⟨es, rfl, hn, s1⟩ := s.mrOpen
  obtain ⟨st, c, s2⟩ := St.mapO s1
  refine ⟨_, st, c, s2.mapRd, by rw [List.map_map, List.map_map]; rfl, fun k x hx => ?_⟩
  have hk : k ∈ es.map (·.1) := by
    have := (look_isSome k _).1 (by rw [hx]; rfl)
    rw [List.map_map] at this
    exact this
  obtain ⟨a, ⟨y, l⟩, b, rfl, hka⟩ := mem_split hk
  have h1 : look ((a ++ (k, y, l) :: b).map fun t => (t.1, t.2.1)) k = some y := by
    rw [look_get, List.map_append, List.map_cons]
    exact get_mid (by rw [List.map_map]; exact hka)
  rw [h1] at hx
  simp only [Option.some.injEq] at hx
  subst hx
  refine ⟨l, ?_, ?_⟩
  · rw [List.map_append, List.map_cons]
    exact get_mid (by rw [List.map_map]; exact hka)
  · have s3 := s2.drop
    rw [List.map_append, List.map_cons] at s3
    have s4 := s3.perm (mid_perm _ _ _ _)
    have e1 : cellH enc none (k, y, l) = Row 1 y l.length (l.map enc) := by unfold cellH; rw [if_neg (by simp)]
    rw [e1] at s4
    exact s4.rdL
theorem St.mrNil {enc : α → Value} {h0 h : Heap} {v : Value} {L : List HP} (s : St h0 h (MapO v [] :: L)) : St h0 h (MR enc v [] :: L) := St.mrShut (es := []) s
theorem St.mrNodup {enc : α → Value} {h0 h : Heap} {v : Value} {e : List (Str × List α)} {o : Option Str} {L : List HP} (s : St h0 h (MRh enc v e o :: L)) : (e.map (·.1)).Nodup := by
  obtain ⟨es, rfl, hn, _⟩ := s.mrOpen
  rw [List.map_map]
  exact hn
/-- 'e[k] = x': a row of one's own goes into the map. -/
theorem oPutMR {t kt et : TypeId} [Und P t (.map kt et)] [Und P kt .string] {enc : α → Value} {h0 h : Heap} {v x : Value} {e : List (Str × List α)} {k : Str} {l : List α} {o : Option Str} {L : List HP} {K : Value → Heap → Prop}
    (ho : ∀ x, o = some x → x = k) (s : St h0 h (Row 1 x l.length (l.map enc) :: MRh enc v e o :: L)) (g : ∀ h', St h0 h' (MR enc v (put e k l) :: L) → K undef h') : oUpd P t v (str k) x h K := by
  obtain ⟨es, rfl, hn, s1⟩ := s.swap.mrOpen
  have s1' : St h0 h (MapO v (es.map fun t => (t.1, t.2.1)) :: Row 1 x l.length (l.map enc) :: (es.map (cellH enc o) ++ L)) := s1.perm (List.Perm.cons _ List.perm_middle)
  obtain ⟨st, c, s2⟩ := St.mapO s1'
  refine oUpd_own s2 fun h' st' c' _ s3 => g h' ?_
  have s4 := St.toMapO s3
  rw [ups_put] at s4
  have hno : ∀ x, (none : Option Str) = some x → x = k := fun x h => by cases h
  by_cases hk : k ∈ es.map (·.1)
  · obtain ⟨a, ⟨y, l0⟩, b, rfl, hka⟩ := mem_split hk
    have hkb : k ∉ b.map (·.1) := by
      rw [List.map_append, List.map_cons, List.nodup_append, List.nodup_cons] at hn
      exact hn.2.1.1
    rw [List.map_append, List.map_cons, put_mid (by rw [List.map_map]; exact hka)] at s4 ⊢
    have e1 : a.map (fun t : Ent α => (t.1, t.2.2)) ++ (k, l) :: b.map (fun t : Ent α => (t.1, t.2.2)) = (a ++ (k, x, l) :: b).map fun t : Ent α => (t.1, t.2.2) := by simp
    have e2 : a.map (fun t : Ent α => (t.1, t.2.1)) ++ (k, x) :: b.map (fun t : Ent α => (t.1, t.2.1)) = (a ++ (k, x, l) :: b).map fun t : Ent α => (t.1, t.2.1) := by simp
    rw [e1]
    rw [e2] at s4
    refine St.mrShut ?_
    have s5 := s4.perm ((List.Perm.cons _ (List.Perm.cons _ (by rw [List.map_append, List.map_cons]; exact mid_perm _ _ _ _))).trans ((List.Perm.cons _ (List.Perm.swap _ _ _)).trans (List.Perm.swap _ _ _)))
    have s6 := s5.drop
    refine s6.perm (List.Perm.cons _ ?_)
    rw [cell_ne ho hno hka, cell_ne ho hno hkb, List.map_append, List.map_cons]
    have e3 : cellH enc none (k, x, l) = Row 1 x l.length (l.map enc) := by unfold cellH; rw [if_neg (by simp)]
    rw [e3]
    exact (mid_perm _ _ _ _).symm
  · rw [put_new (by rw [List.map_map]; exact hk)] at s4 ⊢
    have e1 : es.map (fun t : Ent α => (t.1, t.2.2)) ++ [(k, l)] = (es ++ [(k, x, l)]).map fun t : Ent α => (t.1, t.2.2) := by simp
    have e2 : es.map (fun t : Ent α => (t.1, t.2.1)) ++ [(k, x)] = (es ++ [(k, x, l)]).map fun t : Ent α => (t.1, t.2.1) := by simp
    rw [e1]
    rw [e2] at s4
    refine St.mrShut (s4.perm (List.Perm.cons _ ?_))
    rw [cell_ne ho hno hk, List.map_append, List.map_cons, List.map_nil]
    have e3 : cellH enc none (k, x, l) = Row 1 x l.length (l.map enc) := by unfold cellH; rw [if_neg (by simp)]
    rw [e3]
    have := mid_perm (es.map (cellH enc none)) [] L (Row 1 x l.length (l.map enc))
    simp only [List.append_nil] at this
    exact this.symm
/-- A row is taken out. -/
theorem St.mrTake {enc : α → Value} {h0 h : Heap} {v : Value} {e : List (Str × List α)} {L : List HP} (k : Str) (s : St h0 h (MR enc v e :: L)) :
    ∃ (m : List (Str × Value)) (st : List Nat) (c : Nat), RdM h v m st c ∧ ∃ x, x = (look m k).getD (.slice none 0 0) ∧ St h0 h (Row 1 x ((Sh.get e k).getD []).length (((Sh.get e k).getD []).map enc) :: MRh enc v e (some k) :: L) := by
  obtain ⟨es, rfl, hn, s1⟩ := s.mrOpen
  obtain ⟨st, c, s2⟩ := St.mapO s1
  refine ⟨_, st, c, s2.mapRd, _, rfl, ?_⟩
  have hno : ∀ x, (none : Option Str) = some x → x = k := fun x h => by cases h
  have hso : ∀ x, some k = some x → x = k := fun x h => by simpa using h.symm
  by_cases hk : k ∈ es.map (·.1)
  · obtain ⟨a, ⟨y, l0⟩, b, rfl, hka⟩ := mem_split hk
    have hkb : k ∉ b.map (·.1) := by
      rw [List.map_append, List.map_cons, List.nodup_append, List.nodup_cons] at hn
      exact hn.2.1.1
    have h1 : look ((a ++ (k, y, l0) :: b).map fun t => (t.1, t.2.1)) k = some y := by
      rw [look_get, List.map_append, List.map_cons]
      exact get_mid (by rw [List.map_map]; exact hka)
    have h2 : Sh.get ((a ++ (k, y, l0) :: b).map fun t => (t.1, t.2.2)) k = some l0 := by
      rw [List.map_append, List.map_cons]
      exact get_mid (by rw [List.map_map]; exact hka)
    rw [h1, h2]
    simp only [Option.getD_some]
    have s3 := s1.perm ((List.Perm.cons _ (by rw [List.map_append, List.map_cons]; exact mid_perm _ _ _ _)).trans (List.Perm.swap _ _ _))
    have e3 : cellH enc none (k, y, l0) = Row 1 y l0.length (l0.map enc) := by unfold cellH; rw [if_neg (by simp)]
    rw [e3] at s3
    have s4 : St h0 h (MapO v ((a ++ (k, y, l0) :: b).map fun t => (t.1, t.2.1)) :: ((a ++ (k, y, l0) :: b).map (cellH enc (some k)) ++ (Row 1 y l0.length (l0.map enc) :: L))) := by
      have e4 : cellH enc (some k) (k, y, l0) = HP.all [] := by unfold cellH; rw [if_pos rfl]
      rw [List.map_append (f := cellH enc (some k)), List.map_cons (f := cellH enc (some k)), e4, ← cell_ne (enc := enc) hno hso hka, ← cell_ne (enc := enc) hno hso hkb]
      refine s3.addNil.perm ?_
      refine (List.Perm.cons _ (List.Perm.swap _ _ _)).trans ((List.Perm.swap _ _ _).trans (List.Perm.cons _ ?_))
      refine List.Perm.trans ?_ (mid_perm _ _ _ _).symm
      exact List.Perm.cons _ List.perm_middle.symm
    exact (St.mrShut s4).swap
  · have h1 : look (es.map fun t => (t.1, t.2.1)) k = none := by
      rw [look_get]
      exact get_none (by rw [List.map_map]; exact hk)
    have h2 : Sh.get (es.map fun t => (t.1, t.2.2)) k = none := get_none (by rw [List.map_map]; exact hk)
    rw [h1, h2]
    refine St.nilRow ?_
    rw [cell_ne hno hso hk] at s1
    exact St.mrShut s1
/-- 'e[k] = append(e[k], a)'. -/
theorem oAppMR {t kt et ee ty : TypeId} {b bb : Nat} {z : Value} [Und P t (.map kt et)] [Und P kt .string] [Inf P et 1 bb (.slice none 0 0)] [Und P et (.slice ee)] [Inf P ee 1 b z] {enc : α → Value} {h0 h : Heap} {v : Value} {e : List (Str × List α)} {k : Str} {a : α} {L : List HP} {K : Heap → Prop}
    (s : St h0 h (MR enc v e :: L)) (hx : one (enc a) = true) (hz : one z = true) (hb : (((get e k).getD []).length + 1) * b ≤ 140737488355328) (hb2 : ((get e k).getD []).length + 1 ≤ 4611686018427387904)
    (g : ∀ h', St h0 h' (MR enc v (put e k ((get e k).getD [] ++ [a])) :: L) → K h') :
    oLook P t v (str k) false (Eq h) fun r => oBuildSlice P et 1 #[(0, enc a)] h fun u h1 => oAppend P #[et, et] ty #[r, u] h1 fun r2 h2 => oUpd P t v (str k) r2 h2 fun _ h3 => K h3 := by
  obtain ⟨m, st, c, hm, x, hxe, s1⟩ := s.mrTake k
  refine oLook_val (m := m) (by rintro _ rfl; exact ⟨st, c, hm⟩) ?_
  simp only [Bool.false_eq_true, if_false]
  rw [← hxe]
  refine oPush (enc := enc) (x := a) s1 hx hz hb hb2 fun r2 h2 s2 => ?_
  exact oPutMR (fun x h => by simpa using h.symm) s2 fun h3 s3 => g h3 s3
theorem fill2 {x y z : Value} (hx : x.cells = #[x]) (hy : y.cells = #[y]) (hz : z.cells = #[z]) :
   Instr.fill (fun i => some (i * 1, 1)) ((Array.range (2 * 1)).map (z.cells[· % z.cells.size]!)) [(0, x), (1, y)] = some #[x, y] := by
  have h1 : (Array.range (2 * 1)).map (fun i => z.cells[i % z.cells.size]!) = #[z, z] := by
    rw [hz]
    apply Array.ext'
    simp [List.range_succ, Nat.mod_one]
  rw [h1]
  simp [Instr.fill, hx, hy]
/-- A literal of two elements. -/
theorem oBuild2o {t e : TypeId} {b : Nat} {z x y : Value} [Und P t (.slice e)] [Inf P e 1 b z] {h0 h : Heap} {L : List HP} {K : Value → Heap → Prop}
    (s : St h0 h L) (hx : one x = true) (hy : one y = true) (hz : one z = true)
    (g : ∀ v h', St h0 h' (Row 1 v 2 [x, y] :: L) → K v h') : oBuildSlice P t 2 #[(0, x), (1, y)] h K := by
  have hc : x.cells = #[x] := by cases x <;> first | (simp [one] at hx; done) | rfl
  have hc1 : y.cells = #[y] := by cases y <;> first | (simp [one] at hy; done) | rfl
  have hc2 : z.cells = #[z] := by cases z <;> first | (simp [one] at hz; done) | rfl
  intro w hw
  have hr : (Instr.buildSlice t 2 #[(0, x), (1, y)]).run P w = .ok (.slice (some ⟨w.heap.size, 0, none⟩) 2 2) { w with heap := w.heap.push (.cells #[x, y] e) } := by
    unfold Instr.buildSlice
    have h1 : ¬ (2 * 1 > 2 ^ 24) := by omega
    have h2 : ¬ (2 * 1 = 0) := by omega
    simp only [Sem.run_bind, Und.run (P := P) (t := t), Result.andThen_ok, Inf.siz (P := P) (t := e), if_neg h1, if_neg h2, pure_bind, Inf.zer (P := P) (t := e)]
    rw [fill2 hc hc1 hc2]
    simp [newRow, newObj, Sem.run]
  rw [nv_run hr]
  refine ⟨⟨rfl, rfl, rfl⟩, ?_⟩
  rw [hw]
  refine g _ _ ?_
  have := s.push [x, y] e
  rw [← List.append_nil [x, y]] at this
  exact this.rowShut (Nat.le_refl _) (by simp) (by simp)
end mr
end Go.Sh
