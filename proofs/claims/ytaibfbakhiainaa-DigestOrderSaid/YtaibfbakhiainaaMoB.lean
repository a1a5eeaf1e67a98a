/- Texts of the claim, one behind the other. -/
import Derived.Test.YtaibfbakhiainaaMoA
set_option linter.unusedVariables false
set_option linter.unusedSimpArgs false
set_option linter.unusedSectionVars false
namespace Go.Sh
section mr
variable {P : Program} {α : Type}

theorem put_mid {β : Type} {k : Str} {x y : β} : ∀ {a b : List (Str × β)}, k ∉ a.map (·.1) → put (a ++ (k, y) :: b) k x = a ++ (k, x) :: b
  | [], _, _ => by simp [put]
  | (k', z) :: a, b, h => by
    simp only [List.map_cons, List.mem_cons, not_or] at h
    simp only [List.cons_append, put]
    rw [if_neg (fun e => h.1 e.symm), put_mid h.2]
theorem put_new {β : Type} {k : Str} {x : β} : ∀ {a : List (Str × β)}, k ∉ a.map (·.1) → put a k x = a ++ [(k, x)]
  | [], _ => rfl
  | (k', z) :: a, h => by
    simp only [List.map_cons, List.mem_cons, not_or] at h
    simp only [List.cons_append, put]
    rw [if_neg (fun e => h.1 e.symm), put_new h.2]
theorem get_mid {β : Type} {k : Str} {y : β} : ∀ {a b : List (Str × β)}, k ∉ a.map (·.1) → get (a ++ (k, y) :: b) k = some y
  | [], _, _ => by simp [get]
  | (k', z) :: a, b, h => by
    simp only [List.map_cons, List.mem_cons, not_or] at h
    simp only [List.cons_append, get]
    rw [if_neg (fun e => h.1 e.symm), get_mid h.2]
theorem get_none {β : Type} {k : Str} {a : List (Str × β)} (h : k ∉ a.map (·.1)) : get a k = none := by
  have := get_isSome k a
  cases hg : get a k with
  | none => rfl
  | some x => rw [hg] at this; exact absurd (this.1 rfl) h
theorem mem_split {β : Type} {k : Str} : ∀ {es : List (Str × β)}, k ∈ es.map (·.1) → ∃ a y b, es = a ++ (k, y) :: b ∧ k ∉ a.map (·.1)
  | [], h => by simp at h
  | (k', y) :: es, h => by
    by_cases e : k' = k
    · subst e
      exact ⟨[], y, es, rfl, by simp⟩
    · simp only [List.map_cons, List.mem_cons] at h
      obtain ⟨a, z, b, h1, h2⟩ := mem_split (h.resolve_left fun h => e h.symm)
      refine ⟨(k', y) :: a, z, b, by rw [h1]; rfl, ?_⟩
      simp only [List.map_cons, List.mem_cons, not_or]
      exact ⟨fun h => e h.symm, h2⟩

/-- An entry: its key, its value, what the value has. -/
abbrev Ent (α : Type) := Str × Value × List α
def cellH (enc : α → Value) (o : Option Str) (t : Ent α) : HP := if o = some t.1 then HP.all [] else Row 1 t.2.1 t.2.2.length (t.2.2.map enc)
/-- A map of rows of one's own; a key may want its row. -/
def MRh (enc : α → Value) (v : Value) (e : List (Str × List α)) (o : Option Str) : HP :=
  HP.ex fun es : List (Ent α) => HP.pure (es.map (fun t => (t.1, t.2.2)) = e) (HP.all (MapO v (es.map fun t => (t.1, t.2.1)) :: es.map (cellH enc o)))
abbrev MR (enc : α → Value) (v : Value) (e : List (Str × List α)) : HP := MRh enc v e none
theorem St.mrOpen {enc : α → Value} {h0 h : Heap} {v : Value} {e : List (Str × List α)} {o : Option Str} {L : List HP} (s : St h0 h (MRh enc v e o :: L)) :
    ∃ es : List (Ent α), e = es.map (fun t => (t.1, t.2.2)) ∧ (es.map (·.1)).Nodup ∧ St h0 h (MapO v (es.map fun t => (t.1, t.2.1)) :: (es.map (cellH enc o) ++ L)) := by
  obtain ⟨es, s⟩ := St.ex s
  obtain ⟨he, s⟩ := St.pure s
  have s1 := s.open
  refine ⟨es, he.symm, ?_, s1⟩
  obtain ⟨st, c, s2⟩ := St.mapO s1
  have := s2.mapRd.1.keys
  rw [List.map_map] at this
  exact this
theorem St.mrShut {enc : α → Value} {h0 h : Heap} {v : Value} {o : Option Str} {es : List (Ent α)} {L : List HP} (s : St h0 h (MapO v (es.map fun t => (t.1, t.2.1)) :: (es.map (cellH enc o) ++ L))) :
    St h0 h (MRh enc v (es.map fun t => (t.1, t.2.2)) o :: L) :=
  St.toEx es (St.toPure rfl (St.shut (M := MapO v (es.map fun t => (t.1, t.2.1)) :: es.map (cellH enc o)) s))
theorem St.addNil {h0 h : Heap} {L : List HP} (s : St h0 h L) : St h0 h (HP.all [] :: L) :=
  ⟨s.1, fun _ => False, trivial, fun _ h => h.elim, Sep.mono (fun b hb => ⟨hb, fun h => h⟩) s.2⟩
theorem St.nilRow {h0 h : Heap} {L : List HP} (s : St h0 h L) : St h0 h (Row 1 (.slice none 0 0) 0 [] :: L) :=
  ⟨s.1, fun _ => False, ⟨by simp, .inl ⟨rfl, rfl⟩⟩, fun _ h => h.elim, Sep.mono (fun b hb => ⟨hb, fun h => h⟩) s.2⟩
theorem cell_ne {enc : α → Value} {o o' : Option Str} {k : Str} (ho : ∀ x, o = some x → x = k) (ho' : ∀ x, o' = some x → x = k) : ∀ {a : List (Ent α)}, k ∉ a.map (·.1) → a.map (cellH enc o) = a.map (cellH enc o')
  | [], _ => rfl
  | t :: a, h => by
    simp only [List.map_cons, List.mem_cons, not_or] at h
    simp only [List.map_cons]
    rw [cell_ne ho ho' h.2]
    congr 1
    unfold cellH
    rw [if_neg (fun e => h.1 (ho _ e).symm), if_neg (fun e => h.1 (ho' _ e).symm)]
theorem mid_perm {β : Type} (a b c : List β) (x : β) : (a ++ x :: b ++ c).Perm (x :: (a ++ b ++ c)) := by
  rw [List.append_assoc, List.append_assoc]
  exact List.perm_middle
theorem St.mr {enc : α → Value} {h0 h : Heap} {v : Value} {e : List (Str × List α)} {L : List HP} (s : St h0 h (MR enc v e :: L)) : RdMp (RdL enc) h v e := by
  obtain ⟨es, rfl, hn, s1⟩ := s.mrOpen
  obtain ⟨st, c, s2⟩ := St.mapO s1
  refine ⟨_, st, c, s2.mapRd, by rw [List.map_map, List.map_map]; rfl, fun k x hx => ?_⟩
  have hk : k ∈ es.map (·.1) := by
    have := (look_isSome k _).1 (by rw [hx]; rfl)
    rw [List.map_map] at this
    exact this
  obtain ⟨a, ⟨y, l⟩, b, rfl, hka⟩ := mem_split hk
  have h1 : look ((a ++ (k, y, l) :: b).map fun t => (t.1, t.2.1)) k = some y := by
    rw [look_get, List.map_append, List.map_cons]
    exact get_mid (by rw [List.map_map]; exact hka)
  rw [h1] at hx
  simp only [Option.some.injEq] at hx
  subst hx
  refine ⟨l, ?_, ?_⟩
  · rw [List.map_append, List.map_cons]
    exact get_mid (by rw [List.map_map]; exact hka)
  · have s3 := s2.drop
    rw [List.map_append, List.map_cons] at s3
    have s4 := s3.perm (mid_perm _ _ _ _)
    have e1 : cellH enc none (k, y, l) = Row 1 y l.length (l.map enc) := by unfold cellH; rw [if_neg (by simp)]
    rw [e1] at s4
    exact s4.rdL
theorem St.mrNil {enc : α → Value} {h0 h : Heap} {v : Value} {L : List HP} (s : St h0 h (MapO v [] :: L)) : St h0 h (MR enc v [] :: L) := St.mrShut (es := []) s
theorem St.mrNodup {enc : α → Value} {h0 h : Heap} {v : Value} {e : List (Str × List α)} {o : Option Str} {L : List HP} (s : St h0 h (MRh enc v e o :: L)) : (e.map (·.1)).Nodup := by
  obtain ⟨es, rfl, hn, _⟩ := s.mrOpen
  rw [List.map_map]
  exact hn
/-- 'e[k] = x': a row of one's own goes into the map. -/
theorem oPutMR [Gd] {t kt et : TypeId} [Und P t (.map kt et)] [Und P kt .string] {enc : α → Value} {h0 h : Heap} {v x : Value} {e : List (Str × List α)} {k : Str} {l : List α} {o : Option Str} {L : List HP} {K : Value → Heap → Prop}
    (ho : ∀ x, o = some x → x = k) (s : St h0 h (Row 1 x l.length (l.map enc) :: MRh enc v e o :: L)) (g : ∀ h', St h0 h' (MR enc v (put e k l) :: L) → K undef h') : oUpd P t v (str k) x h K := by
  obtain ⟨es, rfl, hn, s1⟩ := s.swap.mrOpen
  have s1' : St h0 h (MapO v (es.map fun t => (t.1, t.2.1)) :: Row 1 x l.length (l.map enc) :: (es.map (cellH enc o) ++ L)) := s1.perm (List.Perm.cons _ List.perm_middle)
  obtain ⟨st, c, s2⟩ := St.mapO s1'
  refine oUpd_own s2 fun h' st' c' _ s3 => g h' ?_
  have s4 := St.toMapO s3
  rw [ups_put] at s4
  have hno : ∀ x, (none : Option Str) = some x → x = k := fun x h => by cases h
  by_cases hk : k ∈ es.map (·.1)
  · obtain ⟨a, ⟨y, l0⟩, b, rfl, hka⟩ := mem_split hk
    have hkb : k ∉ b.map (·.1) := by
      rw [List.map_append, List.map_cons, List.nodup_append, List.nodup_cons] at hn
      exact hn.2.1.1
    rw [List.map_append, List.map_cons, put_mid (by rw [List.map_map]; exact hka)] at s4 ⊢
    have e1 : a.map (fun t : Ent α => (t.1, t.2.2)) ++ (k, l) :: b.map (fun t : Ent α => (t.1, t.2.2)) = (a ++ (k, x, l) :: b).map fun t : Ent α => (t.1, t.2.2) := by simp
    have e2 : a.map (fun t : Ent α => (t.1, t.2.1)) ++ (k, x) :: b.map (fun t : Ent α => (t.1, t.2.1)) = (a ++ (k, x, l) :: b).map fun t : Ent α => (t.1, t.2.1) := by simp
    rw [e1]
    rw [e2] at s4
    refine St.mrShut ?_
    have s5 := s4.perm ((List.Perm.cons _ (List.Perm.cons _ (by rw [List.map_append, List.map_cons]; exact mid_perm _ _ _ _))).trans ((List.Perm.cons _ (List.Perm.swap _ _ _)).trans (List.Perm.swap _ _ _)))
    have s6 := s5.drop
    refine s6.perm (List.Perm.cons _ ?_)
    rw [cell_ne ho hno hka, cell_ne ho hno hkb, List.map_append, List.map_cons]
    have e3 : cellH enc none (k, x, l) = Row 1 x l.length (l.map enc) := by unfold cellH; rw [if_neg (by simp)]
    rw [e3]
    exact (mid_perm _ _ _ _).symm
  · rw [put_new (by rw [List.map_map]; exact hk)] at s4 ⊢
    have e1 : es.map (fun t : Ent α => (t.1, t.2.2)) ++ [(k, l)] = (es ++ [(k, x, l)]).map fun t : Ent α => (t.1, t.2.2) := by simp
    have e2 : es.map (fun t : Ent α => (t.1, t.2.1)) ++ [(k, x)] = (es ++ [(k, x, l)]).map fun t : Ent α => (t.1, t.2.1) := by simp
    rw [e1]
    rw [e2] at s4
    refine St.mrShut (s4.perm (List.Perm.cons _ ?_))
    rw [cell_ne ho hno hk, List.map_append, List.map_cons, List.map_nil]
    have e3 : cellH enc none (k, x, l) = Row 1 x l.length (l.map enc) := by unfold cellH; rw [if_neg (by simp)]
    rw [e3]
    have := mid_perm (es.map (cellH enc none)) [] L (Row 1 x l.length (l.map enc))
    simp only [List.append_nil] at this
    exact this.symm
/-- A row is taken out. -/
theorem St.mrTake {enc : α → Value} {h0 h : Heap} {v : Value} {e : List (Str × List α)} {L : List HP} (k : Str) (s : St h0 h (MR enc v e :: L)) :
    ∃ (m : List (Str × Value)) (st : List Nat) (c : Nat), RdM h v m st c ∧ ∃ x, x = (look m k).getD (.slice none 0 0) ∧ St h0 h (Row 1 x ((Sh.get e k).getD []).length (((Sh.get e k).getD []).map enc) :: MRh enc v e (some k) :: L) := by
  obtain ⟨es, rfl, hn, s1⟩ := s.mrOpen
  obtain ⟨st, c, s2⟩ := St.mapO s1
  refine ⟨_, st, c, s2.mapRd, _, rfl, ?_⟩
  have hno : ∀ x, (none : Option Str) = some x → x = k := fun x h => by cases h
  have hso : ∀ x, some k = some x → x = k := fun x h => by simpa using h.symm
  by_cases hk : k ∈ es.map (·.1)
  · obtain ⟨a, ⟨y, l0⟩, b, rfl, hka⟩ := mem_split hk
    have hkb : k ∉ b.map (·.1) := by
      rw [List.map_append, List.map_cons, List.nodup_append, List.nodup_cons] at hn
      exact hn.2.1.1
    have h1 : look ((a ++ (k, y, l0) :: b).map fun t => (t.1, t.2.1)) k = some y := by
      rw [look_get, List.map_append, List.map_cons]
      exact get_mid (by rw [List.map_map]; exact hka)
    have h2 : Sh.get ((a ++ (k, y, l0) :: b).map fun t => (t.1, t.2.2)) k = some l0 := by
      rw [List.map_append, List.map_cons]
      exact get_mid (by rw [List.map_map]; exact hka)
    rw [h1, h2]
    simp only [Option.getD_some]
    have s3 := s1.perm ((List.Perm.cons _ (by rw [List.map_append, List.map_cons]; exact mid_perm _ _ _ _)).trans (List.Perm.swap _ _ _))
    have e3 : cellH enc none (k, y, l0) = Row 1 y l0.length (l0.map enc) := by unfold cellH; rw [if_neg (by simp)]
    rw [e3] at s3
    have s4 : St h0 h (MapO v ((a ++ (k, y, l0) :: b).map fun t => (t.1, t.2.1)) :: ((a ++ (k, y, l0) :: b).map (cellH enc (some k)) ++ (Row 1 y l0.length (l0.map enc) :: L))) := by
      have e4 : cellH enc (some k) (k, y, l0) = HP.all [] := by unfold cellH; rw [if_pos rfl]
      rw [List.map_append (f := cellH enc (some k)), List.map_cons (f := cellH enc (some k)), e4, ← cell_ne (enc := enc) hno hso hka, ← cell_ne (enc := enc) hno hso hkb]
      refine s3.addNil.perm ?_
      refine (List.Perm.cons _ (List.Perm.swap _ _ _)).trans ((List.Perm.swap _ _ _).trans (List.Perm.cons _ ?_))
      refine List.Perm.trans ?_ (mid_perm _ _ _ _).symm
      exact List.Perm.cons _ List.perm_middle.symm
    exact (St.mrShut s4).swap
  · have h1 : look (es.map fun t => (t.1, t.2.1)) k = none := by
      rw [look_get]
      exact get_none (by rw [List.map_map]; exact hk)
    have h2 : Sh.get (es.map fun t => (t.1, t.2.2)) k = none := get_none (by rw [List.map_map]; exact hk)
    rw [h1, h2]
    refine St.nilRow ?_
    rw [cell_ne hno hso hk] at s1
    exact St.mrShut s1
/-- 'e[k] = append(e[k], a)'. -/
theorem oAppMR [Gd] {t kt et ee ty : TypeId} {b bb : Nat} {z : Value} [Und P t (.map kt et)] [Und P kt .string] [Inf P et 1 bb (.slice none 0 0)] [Und P et (.slice ee)] [Inf P ee 1 b z] {enc : α → Value} {h0 h : Heap} {v : Value} {e : List (Str × List α)} {k : Str} {a : α} {L : List HP} {K : Heap → Prop}
    (s : St h0 h (MR enc v e :: L)) (hx : one (enc a) = true) (hz : one z = true) (hb : (((get e k).getD []).length + 1) * b ≤ 140737488355328) (hb2 : ((get e k).getD []).length + 1 ≤ 4611686018427387904)
    (g : ∀ h', St h0 h' (MR enc v (put e k ((get e k).getD [] ++ [a])) :: L) → K h') :
    oLook P t v (str k) false (Eq h) fun r => oBuildSlice P et 1 #[(0, enc a)] h fun u h1 => oAppend P #[et, et] ty #[r, u] h1 fun r2 h2 => oUpd P t v (str k) r2 h2 fun _ h3 => K h3 := by
  obtain ⟨m, st, c, hm, x, hxe, s1⟩ := s.mrTake k
  refine oLook_val (m := m) (by rintro _ rfl; exact ⟨st, c, hm⟩) ?_
  simp only [Bool.false_eq_true, if_false]
  rw [← hxe]
  refine oPush (enc := enc) (x := a) s1 hx hz hb hb2 fun r2 h2 s2 => ?_
  exact oPutMR (fun x h => by simpa using h.symm) s2 fun h3 s3 => g h3 s3
theorem fill2 {x y z : Value} (hx : x.cells = #[x]) (hy : y.cells = #[y]) (hz : z.cells = #[z]) :
   Instr.fill (fun i => some (i * 1, 1)) ((Array.range (2 * 1)).map (z.cells[· % z.cells.size]!)) [(0, x), (1, y)] = some #[x, y] := by
  have h1 : (Array.range (2 * 1)).map (fun i => z.cells[i % z.cells.size]!) = #[z, z] := by
    rw [hz]
    apply Array.ext'
    simp [List.range_succ, Nat.mod_one]
  rw [h1]
  simp [Instr.fill, hx, hy]
/-- A literal of two elements. -/
theorem oBuild2o [Gd] {t e : TypeId} {b : Nat} {z x y : Value} [Und P t (.slice e)] [Inf P e 1 b z] {h0 h : Heap} {L : List HP} {K : Value → Heap → Prop}
    (s : St h0 h L) (hx : one x = true) (hy : one y = true) (hz : one z = true)
    (g : ∀ v h', St h0 h' (Row 1 v 2 [x, y] :: L) → K v h') : oBuildSlice P t 2 #[(0, x), (1, y)] h K := by
  have hc : x.cells = #[x] := by cases x <;> first | (simp [one] at hx; done) | rfl
  have hc1 : y.cells = #[y] := by cases y <;> first | (simp [one] at hy; done) | rfl
  have hc2 : z.cells = #[z] := by cases z <;> first | (simp [one] at hz; done) | rfl
  intro w hw
  have hr : (Instr.buildSlice t 2 #[(0, x), (1, y)]).run P w = .ok (.slice (some ⟨w.heap.size, 0, none⟩) 2 2) { w with heap := w.heap.push (.cells #[x, y] e) } := by
    unfold Instr.buildSlice
    have h1 : ¬ (2 * 1 > 2 ^ 24) := by omega
    have h2 : ¬ (2 * 1 = 0) := by omega
    simp only [Sem.run_bind, Und.run (P := P) (t := t), Result.andThen_ok, Inf.siz (P := P) (t := e), if_neg h1, if_neg h2, pure_bind, Inf.zer (P := P) (t := e)]
    rw [fill2 hc hc1 hc2]
    simp [newRow, newObj, Sem.run]
  rw [nv_run hr]
  refine ⟨⟨rfl, rfl, rfl, fun _ => Nat.le_refl _⟩, ?_⟩
  rw [hw]
  refine g _ _ ?_
  have := s.push [x, y] e
  rw [← List.append_nil [x, y]] at this
  exact this.rowShut (Nat.le_refl _) (by simp) (by simp)
end mr
end Go.Sh
namespace Go.Sh
section grw
variable {P : Program}
theorem run_append_mk {w : World} (t tx ty e : TypeId) (i : TypeInfo) (z : Value) (ik : IntKind) (ht : P.underlying t = some (.slice e)) (hx : P.underlying tx = some (.int ik)) (hi : P.info? e = some i) (hz : i.zero = some z)
    (n : Nat) (hn : 0 < n) (hk : 0 < i.size) (h63 : (n : Int) ≤ 9223372036854775807) (hfit : n * i.bytes ≤ 281474976710656) :
    (Builtin.append_ #[t, tx] ty #[.slice none 0 0, .int .i64 n]).run P w =
      .ok (.slice (some ⟨w.heap.size, 0, none⟩) n (grownCap w n 0 e)) (w.drew.alloc (.cells (Builtin.zeroCells z.cells n ++ Builtin.zeroCells z.cells (grownCap w n 0 e - n)) e)) := by
  have h1 : ¬ ((n : Int) < 0) := by omega
  have h2 : IntKind.i64.wrap (n : Int) = n := wrap_nat n (by omega)
  have h3 : ¬ (281474976710656 < (n : Int) * (i.bytes : Int)) := by
    have : ((n * i.bytes : Nat) : Int) ≤ 281474976710656 := by omega
    rw [Int.natCast_mul] at this; omega
  have h4 : n ≠ 0 := by omega
  have h5 : Builtin.nextslicecap n 0 = n := by unfold Builtin.nextslicecap; rw [if_pos (by omega)]
  have h6 : ¬ (281474976710656 < n * i.bytes) := by omega
  have h7 : ¬ (9223372036854775807 < (n : Int)) := by omega
  have h8 : n * i.size ≠ 0 := by
    have := Nat.mul_pos hn hk
    omega
  have h9 : max (n : Int) 0 = n := by omega
  simp [Builtin.append_, asIntOf, h9, run_underlying ht, run_underlying hx, sizeOf, typeInfo, zeroValue, hi, hz, asInt, h1, h2, h3, h4, h5, h6, h7, h8, Question.forced, Builtin.firstCells, newRow, grownCap]
theorem zeroCells_list (z : Array Value) (n : Nat) : (Builtin.zeroCells z n).toList.length = n * z.size := by simp [Builtin.zeroCells]
theorem St.nilRowK {h0 h : Heap} {L : List HP} (k : Nat) (s : St h0 h L) : St h0 h (Row k (.slice none 0 0) 0 [] :: L) :=
  ⟨s.1, fun _ => False, ⟨by simp, .inl ⟨rfl, rfl⟩⟩, fun _ h => h.elim, Sep.mono (fun b hb => ⟨hb, fun h => h⟩) s.2⟩
theorem oCap_sl {t ty e : TypeId} [Und P t (.slice e)] {a : Option Addr} {n c : Nat} {K : Value → Prop} : oCap P #[t] ty (.slice a n c) K ↔ K (.int .i64 c) :=
  Sp.iff fun w => by simp [Builtin.cap_, Und.run, goInt]
/-- 'append(nil, make([]T, n)...)'. -/
theorem oAppMk [Gd] {t ti ty e : TypeId} {k b : Nat} {z : Value} {ik : IntKind} [Und P t (.slice e)] [Und P ti (.int ik)] [u : Inf P e k b z] {h0 h : Heap} {n : Nat} {L : List HP} {K : Value → Heap → Prop}
    (s : St h0 h L) (hz : z.cells.size = k) (hk0 : 0 < k) (hn : 0 < n) (hb : n * b ≤ 140737488355328) (hb2 : n ≤ 4611686018427387904)
    (g : ∀ v h', St h0 h' (Row k v n (Builtin.zeroCells z.cells n).toList :: L) → K v h') : oAppend P #[t, ti] ty #[.slice none 0 0, .int .i64 n] h K := by
  intro w hw
  obtain ⟨i, hi, hk, hbb, hzz⟩ := u.info
  have hr := run_append_mk (P := P) (w := w) t ti ty e i z ik Und.eq Und.eq hi hzz n hn (by omega) (by omega) (by rw [hbb]; omega)
  rw [nv_run hr]
  refine ⟨⟨rfl, rfl, rfl, fun _ => Nat.le_succ _⟩, ?_⟩
  have hge := grownCap_ge w n 0 e
  have s0 := s.push ((Builtin.zeroCells z.cells n).toList ++ (Builtin.zeroCells z.cells (grownCap w n 0 e - n)).toList) e
  have e1 : ((Builtin.zeroCells z.cells n).toList ++ (Builtin.zeroCells z.cells (grownCap w n 0 e - n)).toList).toArray = Builtin.zeroCells z.cells n ++ Builtin.zeroCells z.cells (grownCap w n 0 e - n) := by
    apply Array.ext'; simp
  rw [e1] at s0
  have s1 := s0.rowShut (k := k) (n := n) (cap := grownCap w n 0 e) (by omega) (by rw [zeroCells_list, hz]) (by rw [zeroCells_list, hz])
  show K _ (w.heap.push _)
  rw [hw]
  exact g _ _ s1
end grw
end Go.Sh
namespace Go.Sh

/-! ### Views -/
abbrev Vw := Nat → Option Obj
def vw (h : Heap) : Vw := fun b => h[b]?
def Le (F G : Vw) : Prop := ∀ b o, F b = some o → G b = some o
theorem Le.refl (F : Vw) : Le F F := fun _ _ h => h
theorem Le.trans {F G H : Vw} (a : Le F G) (b : Le G H) : Le F H := fun x o h => b x o (a x o h)
def Fit (F : Vw) (h : Heap) : Prop := ∀ b o, F b = some o → h[b]? = some o
def Frz (F : Vw) : HP :=
  ⟨fun h S => ∀ b o, F b = some o → S b ∧ h[b]? = some o, fun h h' S hx he b o hb => ⟨(hx b o hb).1, (he b (hx b o hb).1).trans (hx b o hb).2⟩⟩
/-- The state of a walk: a view that stays, and what is owned. -/
def Sf (F : Vw) (h : Heap) (L : List HP) : Prop := St #[] h (Frz F :: L)
theorem Sf.fit {F : Vw} {h : Heap} {L : List HP} (s : Sf F h L) : Fit F h := by
  obtain ⟨_, S, hA, _⟩ := s
  exact fun b o hb => (hA b o hb).2
theorem Sf.le {F G : Vw} {h : Heap} {L : List HP} (s : Sf G h L) (e : Le F G) : Sf F h L :=
  St.imp s fun S hA b o hb => hA b o (e b o hb)
theorem Fit.le {F G : Vw} {h : Heap} (f : Fit G h) (e : Le F G) : Fit F h := fun b o hb => f b o (e b o hb)
theorem ext_nil (h : Heap) : Ext #[] h := ⟨by simp, by simp⟩
theorem fit_vw (h : Heap) : Fit (vw h) h := fun _ _ h => h
theorem fit_ext {h h' : Heap} (f : Fit (vw h) h') : Ext h h' := by
  refine ⟨?_, fun b hb => ?_⟩
  · rcases Nat.lt_or_ge h'.size h.size with hlt | hge
    · have h1 : (vw h) h'.size = some (h[h'.size]'hlt) := by simp [vw, hlt]
      have h2 := f _ _ h1
      simp at h2
    · exact hge
  · have h1 : (vw h) b = some (h[b]'hb) := by simp [vw, hb]
    rw [f _ _ h1]; simp [hb]
theorem Sf.start (h : Heap) : Sf (vw h) h [] :=
  ⟨ext_nil h, fun b => b < h.size, fun b o hb => ⟨by
    rcases Nat.lt_or_ge b h.size with h1 | h1
    · exact h1
    · simp [vw, h1] at hb, hb⟩, fun b hb => ⟨Nat.zero_le _, hb⟩, trivial⟩
/-- From and to a walk that speaks of a heap's extensions alone. -/
theorem Sf.call {F : Vw} {h h' : Heap} {L L' : List HP} (s : Sf F h L) (t : St h h' L') : Sf F h' (L' ++ L) := by
  have := St.call s t
  exact this.perm (List.perm_middle (l₁ := L') (a := Frz F) (l₂ := L))
theorem Sf.ext {F : Vw} {h h' : Heap} {L : List HP} (s : Sf F h L) (e : Ext h h') : Sf F h' L := s.call (L' := []) ⟨e, trivial⟩

theorem St.at {h0 h : Heap} {L : List HP} {A : HP} (i : Nat) (hL : L[i]? = some A) (s : St h0 h L) : St h0 h (A :: L.eraseIdx i) := by
  obtain ⟨hi, rfl⟩ := List.getElem?_eq_some_iff.1 hL
  exact s.pick i hi
theorem set_perm {A A' : HP} : ∀ {L : List HP} {i : Nat}, L[i]? = some A → (A' :: L.eraseIdx i).Perm (L.set i A')
  | [], i, h => by simp at h
  | x :: L, 0, h => .refl _
  | x :: L, i + 1, h => (List.Perm.swap _ _ _).trans (.cons _ (set_perm (L := L) (i := i) (by simpa using h)))
theorem St.back {h0 h : Heap} {L : List HP} {A A' : HP} {i : Nat} (hL : L[i]? = some A) (s : St h0 h (A' :: L.eraseIdx i)) : St h0 h (L.set i A') := s.perm (set_perm hL)
theorem Sf.at {F : Vw} {h : Heap} {L : List HP} {A : HP} (i : Nat) (hL : L[i]? = some A) (s : Sf F h L) : St #[] h (A :: Frz F :: L.eraseIdx i) :=
  (St.at (i + 1) (A := A) (by simpa using hL) s)
theorem Sf.back {F : Vw} {h : Heap} {L : List HP} {A A' : HP} {i : Nat} (hL : L[i]? = some A) (s : St #[] h (A' :: Frz F :: L.eraseIdx i)) : Sf F h (L.set i A') :=
  St.back (L := Frz F :: L) (i := i + 1) (A := A) (by simpa using hL) s
theorem Sf.put {F : Vw} {h : Heap} {L : List HP} {A : HP} (s : St #[] h (A :: Frz F :: L)) : Sf F h (A :: L) := St.swap s
theorem Sf.off {F : Vw} {h : Heap} {L : List HP} {A : HP} (s : Sf F h (A :: L)) : St #[] h (A :: Frz F :: L) := St.swap s
theorem Sf.drop {F : Vw} {h : Heap} {L : List HP} {A : HP} (s : Sf F h (A :: L)) : Sf F h L := St.drop (St.swap s)
theorem Sf.dropAt {F : Vw} {h : Heap} {L : List HP} {A : HP} (i : Nat) (hL : L[i]? = some A) (s : Sf F h L) : Sf F h (L.eraseIdx i) := (s.at i hL).drop
theorem Sf.perm {F : Vw} {h : Heap} {L L' : List HP} (s : Sf F h L) (p : L.Perm L') : Sf F h L' := St.perm s (.cons _ p)
/-- The i-th part to the front. -/
theorem Sf.front {F : Vw} {h : Heap} {L : List HP} {A : HP} (i : Nat) (hL : L[i]? = some A) (s : Sf F h L) : Sf F h (A :: L.eraseIdx i) := Sf.put (s.at i hL)

/-! ### Reading in views -/
def cellV (F : Vw) (a : Addr) : Option Value :=
  match F a.block with
  | some (.cells c _ _) => if a.spot.isSome then none else c[a.off]?
  | _ => none
theorem cellV_le {F G : Vw} (e : Le F G) {a : Addr} {v : Value} (h : cellV F a = some v) : cellV G a = some v := by
  unfold cellV at *
  cases hb : F a.block with
  | none => rw [hb] at h; simp at h
  | some o => rw [e _ _ hb]; rw [hb] at h; exact h
theorem cellV_fit {F : Vw} {h : Heap} (f : Fit F h) {a : Addr} {v : Value} (hv : cellV F a = some v) : cellAt h a = some v := cellV_le (G := vw h) f hv
def RdV (F : Vw) (p : Value) (cs : List Value) : Prop :=
  cs = [] ∨ ∃ b o, p = .pointer (some ⟨b, o, none⟩) ∧ ∀ (j : Nat) (x : Value), cs[j]? = some x → cellV F ⟨b, o + j, none⟩ = some x
theorem RdV.nil (F : Vw) (p : Value) : RdV F p [] := .inl rfl
theorem RdV.le {F G : Vw} {p : Value} {cs : List Value} (r : RdV F p cs) (e : Le F G) : RdV G p cs :=
  r.imp id fun ⟨b, o, h1, h2⟩ => ⟨b, o, h1, fun j x hx => cellV_le e (h2 j x hx)⟩
theorem RdV.rd {F : Vw} {h : Heap} {p : Value} {cs : List Value} (r : RdV F p cs) (f : Fit F h) : Rd h p cs :=
  r.imp id fun ⟨b, o, h1, h2⟩ => ⟨b, o, h1, fun j x hx => cellV_fit f (h2 j x hx)⟩
theorem RdV.of {h : Heap} {p : Value} {cs : List Value} (r : Rd h p cs) : RdV (vw h) p cs := r
theorem RdV.drop {F : Vw} {p : Value} {cs : List Value} (r : RdV F p cs) (n : Nat) : RdV F (padd p n) (cs.drop n) := by
  rcases r with rfl | ⟨b, o, rfl, h2⟩
  · exact .inl (by simp)
  · refine .inr ⟨b, o + n, ?_, fun j x hx => ?_⟩
    · simp [padd, Addr.add]
    · rw [List.getElem?_drop] at hx
      rw [Nat.add_assoc]; exact h2 _ _ hx
theorem RdV.take {F : Vw} {p : Value} {cs : List Value} (r : RdV F p cs) (n : Nat) : RdV F p (cs.take n) := by
  rcases r with rfl | ⟨b, o, rfl, h2⟩
  · exact .inl (by simp)
  · refine .inr ⟨b, o, rfl, fun j x hx => h2 j x ?_⟩
    rw [List.getElem?_take] at hx
    split at hx
    · exact hx
    · cases hx
/-- A part is frozen. -/
theorem Sf.freeze {F : Vw} {h : Heap} {L : List HP} {A : HP} (s : Sf F h (A :: L)) :
    ∃ G, Le F G ∧ Sf G h L ∧ ∃ S, A.own h S ∧ ∀ b, S b → ∀ o, h[b]? = some o → G b = some o := by
  obtain ⟨hx, S, hF, hS, T, hA, hT, hL⟩ := s
  refine ⟨fun b => (F b).or (by classical exact if T b then h[b]? else none), fun b o hb => by simp [hb], ⟨hx, fun b => S b ∨ T b, ?_, ?_, ?_⟩, T, hA, ?_⟩
  · intro b o hb
    cases hf : F b with
    | some o' => 
      simp only [hf, Option.some_or, Option.some.injEq] at hb
      subst hb
      exact ⟨.inl (hF b _ hf).1, (hF b _ hf).2⟩
    | none =>
      simp only [hf, Option.none_or] at hb
      split at hb
      · rename_i ht; exact ⟨.inr ht, hb⟩
      · cases hb
  · rintro b (hb | hb)
    · exact hS b hb
    · exact (hT b hb).1
  · exact Sep.mono (fun b hb => ⟨hb.1.1, fun h' => h'.elim hb.1.2 hb.2⟩) hL
  · intro b hb o ho
    cases hf : F b with
    | some o' =>
      have := (hF b _ hf).2
      rw [ho] at this
      simpa [hf] using this.symm
    | none => simp [hf, hb, ho]
theorem Sf.freezeCells {F : Vw} {h : Heap} {L : List HP} {p : Value} {cs : List Value} (s : Sf F h (Cells p cs :: L)) :
    ∃ G, Le F G ∧ Sf G h L ∧ RdV G p cs := by
  obtain ⟨G, e, s', S, ⟨b, o, T, pre, post, hp, hS, hb, ho⟩, hG⟩ := s.freeze
  refine ⟨G, e, s', .inr ⟨b, o, hp, fun j x hx => ?_⟩⟩
  have hlt := (List.getElem?_eq_some_iff.1 hx).1
  simp only [cellV, hG b hS _ hb, Option.isSome_none, Bool.false_eq_true, if_false, ho, List.getElem?_toArray, List.append_assoc]
  rw [List.getElem?_append_right (by omega), List.getElem?_append_left (by omega)]
  simpa using hx
def CapOk : Value → Prop
  | .slice _ n c => n ≤ c
  | _ => True
theorem St.rowCap {h0 h : Heap} {L : List HP} {k n : Nat} {v : Value} {cs : List Value} (s : St h0 h (Row k v n cs :: L)) : CapOk v := by
  obtain ⟨_, S, ⟨_, hown⟩, _⟩ := s
  rcases hown with ⟨rfl, rfl⟩ | ⟨a, cap, post, rfl, h2, _⟩
  · exact Nat.le_refl _
  · exact h2
theorem Sf.freezeRow {F : Vw} {h : Heap} {L : List HP} {k n : Nat} {v : Value} {cs : List Value} (s : Sf F h (Row k v n cs :: L)) :
    ∃ G, Le F G ∧ Sf G h L ∧ IsSl v n ∧ CapOk v ∧ RdV G (sbase v) cs := by
  have hr := s.off.row
  have hcap := s.off.rowCap
  rcases Nat.eq_zero_or_pos n with h0 | h0
  · refine ⟨F, Le.refl F, s.drop, hr.1, hcap, .inl ?_⟩
    have := hr.2.1
    rw [h0] at this
    simpa using this
  · obtain ⟨a, cap, post, rfl, h1, h2, h3, s'⟩ := s.off.rowOpen h0
    obtain ⟨G, e, s2, r⟩ := (Sf.put s').freezeCells
    refine ⟨G, e, s2, hr.1, hcap, ?_⟩
    have := r.take cs.length
    rw [List.take_left'] at this
    · exact this
    · rfl

/-! ### Encodings -/
structure En (α : Type) where
  k : Nat
  C : Vw → List Value → α → Prop
  pos : 0 < k
  len : ∀ {F cs a}, C F cs a → cs.length = k
  le : ∀ {F G cs a}, Le F G → C F cs a → C G cs a
  ones : ∀ {F cs a}, C F cs a → ∀ y ∈ cs, one y = true
def eI (κ : IntKind) : En Int := ⟨1, fun _ cs a => cs = [.int κ a], by decide, fun h => by rw [h]; rfl, fun _ h => h, fun h y hy => by rw [h, List.mem_singleton] at hy; rw [hy]; rfl⟩
def eB : En Bool := ⟨1, fun _ cs a => cs = [.bool a], by decide, fun h => by rw [h]; rfl, fun _ h => h, fun h y hy => by rw [h, List.mem_singleton] at hy; rw [hy]; rfl⟩
def eS : En Str := ⟨1, fun _ cs a => cs = [str a], by decide, fun h => by rw [h]; rfl, fun _ h => h, fun h y hy => by rw [h, List.mem_singleton] at hy; rw [hy]; rfl⟩
variable {α : Type}
/-- An encoding that looks at no heap. -/
def eF (k : Nat) (f : α → List Value) (pos : 0 < k) (len : ∀ a, (f a).length = k) (ones : ∀ a, ∀ y ∈ f a, one y = true) : En α :=
  ⟨k, fun _ cs a => cs = f a, pos, fun h => by rw [h]; exact len _, fun _ h => h, fun h y hy => ones _ y (h ▸ hy)⟩
def CL (e : En α) (F : Vw) : List Value → List α → Prop
  | cs, [] => cs = []
  | cs, a :: l => ∃ c d, cs = c ++ d ∧ e.C F c a ∧ CL e F d l
theorem CL.len {e : En α} {F : Vw} : ∀ {cs : List Value} {l : List α}, CL e F cs l → cs.length = l.length * e.k
  | _, [], h => by rw [show _ = [] from h]; simp
  | _, _ :: l, ⟨c, d, h, hc, hd⟩ => by rw [h, List.length_append, e.len hc, CL.len hd, List.length_cons, Nat.add_mul]; omega
theorem CL.le {e : En α} {F G : Vw} (g : Le F G) : ∀ {cs : List Value} {l : List α}, CL e F cs l → CL e G cs l
  | _, [], h => h
  | _, _ :: _, ⟨c, d, h, hc, hd⟩ => ⟨c, d, h, e.le g hc, CL.le g hd⟩
theorem CL.ones {e : En α} {F : Vw} : ∀ {cs : List Value} {l : List α}, CL e F cs l → ∀ y ∈ cs, one y = true
  | _, [], h, y, hy => by rw [show _ = [] from h] at hy; cases hy
  | _, _ :: _, ⟨c, d, h, hc, hd⟩, y, hy => by
    rw [h, List.mem_append] at hy
    exact hy.elim (e.ones hc y) (CL.ones hd y)
theorem CL.nil (e : En α) (F : Vw) : CL e F [] [] := rfl
theorem CL.append {e : En α} {F : Vw} : ∀ {cs ds : List Value} {l m : List α}, CL e F cs l → CL e F ds m → CL e F (cs ++ ds) (l ++ m)
  | _, _, [], _, h, h2 => by rw [show _ = [] from h]; exact h2
  | _, _, _ :: _, _, ⟨c, d, h, hc, hd⟩, h2 => ⟨c, _, by rw [h, List.append_assoc], hc, CL.append hd h2⟩
theorem CL.one {e : En α} {F : Vw} {c : List Value} {a : α} (h : e.C F c a) : CL e F c [a] := ⟨c, [], by simp, h, rfl⟩
theorem CL.push {e : En α} {F : Vw} {cs c : List Value} {l : List α} {a : α} (h : CL e F cs l) (hc : e.C F c a) : CL e F (cs ++ c) (l ++ [a]) := h.append (.one hc)
theorem CL.drop {e : En α} {F : Vw} : ∀ {cs : List Value} {l : List α} (i : Nat), CL e F cs l → CL e F (cs.drop (i * e.k)) (l.drop i)
  | _, _, 0, h => by simpa using h
  | _, [], i + 1, h => by rw [show _ = [] from h]; simp [CL]
  | _, _ :: _, i + 1, ⟨c, d, h, hc, hd⟩ => by
    rw [h, List.drop_succ_cons, Nat.add_mul, Nat.one_mul, Nat.add_comm, ← List.drop_drop, List.drop_left' (e.len hc)]
    exact CL.drop i hd
theorem CL.take {e : En α} {F : Vw} : ∀ {cs : List Value} {l : List α} (i : Nat), CL e F cs l → CL e F (cs.take (i * e.k)) (l.take i)
  | _, _, 0, h => by simp [CL]
  | _, [], i + 1, h => by rw [show _ = [] from h]; simp [CL]
  | _, _ :: _, i + 1, ⟨c, d, h, hc, hd⟩ => by
    rw [h, List.take_succ_cons, Nat.add_mul, Nat.one_mul, Nat.add_comm]
    refine ⟨c, d.take (i * e.k), ?_, hc, CL.take i hd⟩
    rw [List.take_append, e.len hc, List.take_of_length_le (by rw [e.len hc]; omega)]
    congr 2; omega
theorem CL.get {e : En α} {F : Vw} {cs : List Value} {l : List α} {i : Nat} {a : α} (h : CL e F cs l) (hi : l[i]? = some a) :
    e.C F ((cs.drop (i * e.k)).take e.k) a := by
  have h1 := h.drop i
  obtain ⟨hlt, ha⟩ := List.getElem?_eq_some_iff.1 hi
  rw [List.drop_eq_getElem_cons hlt, ha] at h1
  obtain ⟨c, d, hcd, hc, _⟩ := h1
  rw [hcd, List.take_left' (e.len hc)]
  exact hc
theorem CL.split {e : En α} {F : Vw} {cs : List Value} {l : List α} {i : Nat} {a : α} (h : CL e F cs l) (hi : l[i]? = some a) :
    ∃ c, cs = cs.take (i * e.k) ++ (c ++ cs.drop ((i + 1) * e.k)) ∧ e.C F c a := by
  refine ⟨_, ?_, h.get hi⟩
  have : (i + 1) * e.k = i * e.k + e.k := by rw [Nat.add_mul, Nat.one_mul]
  rw [this, ← List.drop_drop, List.take_append_drop, List.take_append_drop]
theorem setAt_in : ∀ (xs pre c post : List Value), xs.length = c.length → setAt (pre ++ (c ++ post)) pre.length xs = pre ++ (xs ++ post) := by
  intro xs pre c post h
  have := setAt_mid pre post xs c 0 (by omega)
  rw [Nat.add_zero, List.append_assoc] at this
  rw [this]
  have h2 := setAt_all [] xs c h
  simp only [List.nil_append, List.length_nil] at h2
  rw [h2, List.append_assoc]
theorem CL.set {e : En α} {F : Vw} {cs c : List Value} {l : List α} {i : Nat} {a : α} (h : CL e F cs l) (hi : i < l.length) (hc : e.C F c a) :
    CL e F (setAt cs (i * e.k) c) (l.set i a) := by
  obtain ⟨b, hb⟩ : ∃ b, l[i]? = some b := ⟨_, List.getElem?_eq_getElem hi⟩
  obtain ⟨c0, hcs, hc0⟩ := h.split hb
  have hl : (cs.take (i * e.k)).length = i * e.k := by
    rw [List.length_take, h.len]
    exact Nat.min_eq_left (Nat.mul_le_mul_right _ (by omega))
  have h1 := setAt_in c (cs.take (i * e.k)) c0 (cs.drop ((i + 1) * e.k)) (by rw [e.len hc, e.len hc0])
  rw [← hcs, hl] at h1
  rw [h1, List.set_eq_take_append_cons_drop, if_pos hi]
  exact (h.take i).append ⟨c, _, rfl, hc, h.drop (i + 1)⟩
/-- A slice that is read. -/
def RL (e : En α) (F : Vw) (v : Value) (l : List α) : Prop := IsSl v l.length ∧ CapOk v ∧ ∃ cs, RdV F (sbase v) cs ∧ CL e F cs l
theorem RL.le {e : En α} {F G : Vw} {v : Value} {l : List α} (r : RL e F v l) (g : Le F G) : RL e G v l :=
  ⟨r.1, r.2.1, r.2.2.choose, r.2.2.choose_spec.1.le g, r.2.2.choose_spec.2.le g⟩
theorem RL.nil (e : En α) (F : Vw) (c : Nat) : RL e F (.slice none 0 c) [] := ⟨⟨_, _, rfl⟩, Nat.zero_le _, [], .nil _ _, rfl⟩
def eL (e : En α) : En (List α) :=
  ⟨1, fun F cs l => ∃ v, cs = [v] ∧ RL e F v l, by decide, fun ⟨v, h, _⟩ => by rw [h]; rfl, fun g ⟨v, h, r⟩ => ⟨v, h, r.le g⟩,
    fun ⟨v, h, r⟩ y hy => by rw [h, List.mem_singleton] at hy; obtain ⟨a, c, hv⟩ := r.1; rw [hy, hv]; rfl⟩
/-- A slice that is read in each heap of a class. -/
def RX (e : En α) (F : Vw) (D : Heap → Prop) (v : Value) (l : List α) : Prop := IsSl v l.length ∧ ∃ cs, (∀ h', D h' → Rd h' (sbase v) cs) ∧ CL e F cs l
theorem RL.x {e : En α} {F : Vw} {D : Heap → Prop} {v : Value} {l : List α} (r : RL e F v l) (f : ∀ h', D h' → Fit F h') : RX e F D v l :=
  ⟨r.1, r.2.2.choose, fun h' hd => r.2.2.choose_spec.1.rd (f h' hd), r.2.2.choose_spec.2⟩
theorem RX.of {e : En α} {F : Vw} {D : Heap → Prop} {k n : Nat} {v : Value} {cs : List Value} {l : List α} (hn : n = l.length) (f : ∀ h', D h' → ∃ L, St #[] h' (Row k v n cs :: L)) (hc : CL e F cs l) (hs : IsSl v n) : RX e F D v l :=
  ⟨hn ▸ hs, cs, fun h' hd => (f h' hd).choose_spec.row.2.2, hc⟩
theorem IsSl.one {v : Value} {n : Nat} (h : IsSl v n) : one v = true := by obtain ⟨a, c, rfl⟩ := h; rfl
theorem IsSl.cells {v : Value} {n : Nat} (h : IsSl v n) : v.cells = #[v] := by obtain ⟨a, c, rfl⟩ := h; rfl
/-- A row is frozen: its data. -/
theorem Sf.freezeRL {e : En α} {F : Vw} {h : Heap} {L : List HP} {k n : Nat} {v : Value} {cs : List Value} {l : List α} (i : Nat) (hL : L[i]? = some (Row k v n cs)) (s : Sf F h L) (hn : n = l.length) (hc : CL e F cs l) :
    ∃ G, Le F G ∧ Sf G h (L.eraseIdx i) ∧ RL e G v l := by
  obtain ⟨G, g, s', hv, hp, r⟩ := (s.front i hL).freezeRow
  exact ⟨G, g, s', hn ▸ hv, hp, cs, r, hc.le g⟩

/-! ### Rules -/
variable [Gd] {P : Program}
theorem tGetA {t el : TypeId} {k : Nat} [Und P t (.slice el)] [Siz P el k] [IsA P el true] {e : En α} {F : Vw} {v : Value} {l : List α} {i : Int} {a : α} {ik : IntKind} {D : Heap → Prop} {K : Value → Prop}
    (hk : e.k = k) (r : RX e F D v l) (hd : ∃ h, D h) (h0 : 0 ≤ i) (hi : l[i.toNat]? = some a) (hK : ∀ c, e.C F c a → K (.agg c.toArray)) : oIdx P t v (.int ik i) fun p => oLoad P el p D K := by
  obtain ⟨hv, cs, hr, hc⟩ := r
  subst hk
  have hlt := (List.getElem?_eq_some_iff.1 hi).1
  have hlen := hc.len
  have hp := e.pos
  have hcl : 0 < cs.length := by
    rw [hlen]; exact Nat.mul_pos (by omega) hp
  obtain ⟨h, hdh⟩ := hd
  have hnz := (hr h hdh).nz hcl
  rw [oIdx_sl hv hnz h0 (by omega)]
  have hle : i.toNat * e.k + e.k ≤ cs.length := by
    rw [hlen, ← Nat.succ_mul]; exact Nat.mul_le_mul_right _ hlt
  exact oLoadA hr ((hr h hdh).ptr hcl) hle (hK _ (hc.get hi))
theorem tGet1 {t el : TypeId} [Und P t (.slice el)] [Siz P el 1] [IsA P el false] {e : En α} {F : Vw} {v : Value} {l : List α} {i : Int} {a : α} {ik : IntKind} {D : Heap → Prop} {K : Value → Prop}
    (hk : e.k = 1) (r : RX e F D v l) (hd : ∃ h, D h) (h0 : 0 ≤ i) (hi : l[i.toNat]? = some a) (hK : ∀ x, e.C F [x] a → K x) : oIdx P t v (.int ik i) fun p => oLoad P el p D K := by
  obtain ⟨hv, cs, hr, hc⟩ := r
  have hlt := (List.getElem?_eq_some_iff.1 hi).1
  have hlen := hc.len
  rw [hk, Nat.mul_one] at hlen
  have hcl : 0 < cs.length := by omega
  obtain ⟨h, hdh⟩ := hd
  have hnz := (hr h hdh).nz hcl
  rw [oIdx_sl hv hnz h0 (by omega), Nat.mul_one]
  obtain ⟨x, hx⟩ : ∃ x, cs[i.toNat]? = some x := ⟨_, List.getElem?_eq_getElem (by omega)⟩
  have hg := hc.get hi
  rw [hk, Nat.mul_one] at hg
  obtain ⟨h1, h2⟩ := List.getElem?_eq_some_iff.1 hx
  rw [List.drop_eq_getElem_cons h1, List.take_succ_cons, List.take_zero, h2] at hg
  exact oLoad1 hr hx (hK x hg)
/-- The place of an element that is read: its cells. -/
theorem tPlace {t el : TypeId} {k : Nat} [Und P t (.slice el)] [Siz P el k] {e : En α} {F : Vw} {v : Value} {l : List α} {i : Int} {a : α} {ik : IntKind} {D : Heap → Prop} {K : Value → Prop}
    (hk : e.k = k) (r : RX e F D v l) (hd : ∃ h, D h) (h0 : 0 ≤ i) (hi : l[i.toNat]? = some a) (hK : ∀ p c, e.C F c a → (∃ q, p = .pointer (some q)) → (∀ h', D h' → Rd h' p c) → K p) : oIdx P t v (.int ik i) K := by
  obtain ⟨hv, cs, hr, hc⟩ := r
  subst hk
  have hlt := (List.getElem?_eq_some_iff.1 hi).1
  have hlen := hc.len
  have hp := e.pos
  have hcl : 0 < cs.length := by
    rw [hlen]; exact Nat.mul_pos (by omega) hp
  obtain ⟨h, hdh⟩ := hd
  have hnz := (hr h hdh).nz hcl
  rw [oIdx_sl hv hnz h0 (by omega)]
  obtain ⟨q, hq⟩ := (hr h hdh).ptr hcl
  refine hK _ _ (hc.get hi) ?_ fun h' hd' => ((hr h' hd').drop (i.toNat * e.k)).take e.k
  rw [hq]; exact ⟨_, rfl⟩
theorem tLen {t ty el : TypeId} [Und P t (.slice el)] {e : En α} {F : Vw} {D : Heap → Prop} {v : Value} {l : List α} {K : Value → Prop} (hv : IsSl v l.length) (hK : K (.int .i64 l.length)) : oLen P #[t] ty v K := (oLen_sl hv).2 hK
/-- A store into a part's cells. -/
theorem tStore {t : TypeId} {k : Nat} [Siz P t k] {F : Vw} {h : Heap} {L : List HP} {p v : Value} {cs : List Value} {j : Nat} {K : Value → Heap → Prop} (i : Nat) (hL : L[i]? = some (Cells p cs)) (s : Sf F h L)
    (hk : v.cells.toList.length = k) (hj : j + k ≤ cs.length) (h1 : ∀ x ∈ v.cells.toList, one x = true) (g : ∀ h', Sf F h' (L.set i (Cells p (setAt cs j v.cells.toList))) → K undef h') : oStore P t (padd p j) v h K :=
  oStoreC (s.at i hL) hk hj h1 fun h' s' => g h' (Sf.back hL s')
theorem tBox {t : TypeId} {F : Vw} {h : Heap} {L : List HP} {v : Value} {K : Value → Heap → Prop} (s : Sf F h L) (g : ∀ p h', (∃ a, p = .pointer (some a)) → Sf F h' (Cells p v.cells.toList :: L) → K p h') : oBox P t v h K :=
  oBoxC (St.perm s (.refl _)) fun p h' hp s' => g p h' hp (.put s')
theorem tAlloc {t : TypeId} {k b : Nat} {z : Value} [Inf P t k b z] {F : Vw} {h : Heap} {L : List HP} {K : Value → Heap → Prop} (s : Sf F h L) (g : ∀ p h', (∃ a, p = .pointer (some a)) → Sf F h' (Cells p z.cells.toList :: L) → K p h') : oAlloc P t h K :=
  oAllocC (St.perm s (.refl _)) fun p h' hp s' => g p h' hp (.put s')
theorem Sf.rd {F : Vw} {h : Heap} {L : List HP} {p : Value} {cs : List Value} (i : Nat) (hL : L[i]? = some (Cells p cs)) (s : Sf F h L) : Rd h p cs := (s.at i hL).rd
/-- A slice that the walk makes: nil. -/
theorem Sf.nilRow {F : Vw} {h : Heap} {L : List HP} (k : Nat) (s : Sf F h L) : Sf F h (Row k (.slice none 0 0) 0 [] :: L) := .put (St.nilRowK k s)
/-- A slice literal of one element. -/
theorem tBuild1 {t el : TypeId} {k b : Nat} {z x : Value} [Und P t (.slice el)] [Inf P el k b z] {F : Vw} {h : Heap} {L : List HP} {K : Value → Heap → Prop} (s : Sf F h L) (hx : x.cells.size = k) (hz : z.cells.size = k) (hk : 0 < k) (hk2 : k ≤ 16777216)
    (g : ∀ v h', Sf F h' (Row k v 1 x.cells.toList :: L) → K v h') : oBuildSlice P t 1 #[(0, x)] h K :=
  oBuild1 (St.perm s (.refl _)) hx hz hk hk2 fun v h' s' => g v h' (.put s')
/-- Append what is read to a row of one's own. -/
theorem tAppend {t el ty : TypeId} {k b : Nat} {z : Value} [Und P t (.slice el)] [Inf P el k b z] {e : En α} {F : Vw} {h : Heap} {L : List HP} {v x : Value} {n : Nat} {cs : List Value} {l m : List α} {K : Value → Heap → Prop}
    (i : Nat) (hL : L[i]? = some (Row k v n cs)) (s : Sf F h L) (hn : n = l.length) (hc : CL e F cs l) (hk : e.k = k) (hz : z.cells.size = k) (hb0 : b ≤ 1000) (r : RX e F (Eq h) x m) (hb : l.length + m.length ≤ 100000000000)
    (g : ∀ v' h' cs', CL e F cs' (l ++ m) → Sf F h' (L.set i (Row k v' (l ++ m).length cs')) → K v' h') : oAppend P #[t, t] ty #[v, x] h K := by
  obtain ⟨hv, xs, hr, hm⟩ := r
  subst hk hn
  have hbb : (l.length + m.length) * b ≤ 140737488355328 := Nat.le_trans (Nat.mul_le_mul hb hb0) (by decide)
  refine oAppendR (s.at i hL) hz e.pos hv hm.len (hr h rfl) hm.ones hbb (by omega) fun v' h' s' => ?_
  refine g v' h' _ (hc.append hm) ?_
  rw [List.length_append]
  exact Sf.back hL s'
end Go.Sh
namespace Go.Sx

/-- A strict total order. -/
structure Ord (α : Type) where
  lt : α → α → Bool
  irrefl : ∀ a, lt a a = false
  trans : ∀ a b c, lt a b = true → lt b c = true → lt a c = true
  tri : ∀ a b, lt a b = false → lt b a = false → a = b
section
variable {α : Type} (O : Ord α)
def Srt (l : List α) : Prop := l.Pairwise fun a b => O.lt a b = true
/-- Put in where it isn't. -/
def ins (x : α) : List α → List α
  | [] => [x]
  | y :: l => if O.lt x y then x :: y :: l else if O.lt y x then y :: ins x l else y :: l
theorem mem_ins (x y : α) : ∀ l, y ∈ ins O x l ↔ y = x ∨ y ∈ l
  | [] => by simp [ins]
  | z :: l => by
    unfold ins
    split
    · simp
    · rename_i h1
      split
      · simp only [List.mem_cons, mem_ins x y l]
        exact ⟨fun h => h.elim (fun h => .inr (.inl h)) fun h => h.elim .inl fun h => .inr (.inr h), fun h => h.elim (fun h => .inr (.inl h)) fun h => h.elim .inl fun h => .inr (.inr h)⟩
      · rename_i h2
        have := O.tri x z (by simpa using h1) (by simpa using h2)
        subst this
        simp
theorem srt_ins (x : α) : ∀ l, Srt O l → Srt O (ins O x l)
  | [], _ => by simp [ins, Srt]
  | z :: l, h => by
    have h' := List.pairwise_cons.1 h
    unfold ins
    split
    · rename_i h1
      refine List.pairwise_cons.2 ⟨fun y hy => ?_, h⟩
      rcases List.mem_cons.1 hy with rfl | hy
      · exact h1
      · exact O.trans _ _ _ h1 (h'.1 y hy)
    · split
      · rename_i h1 h2
        refine List.pairwise_cons.2 ⟨fun y hy => ?_, srt_ins x l h'.2⟩
        rcases (mem_ins O x y l).1 hy with rfl | hy
        · exact h2
        · exact h'.1 y hy
      · exact h
theorem Srt.unique : ∀ {l m : List α}, Srt O l → Srt O m → (∀ x, x ∈ l ↔ x ∈ m) → l = m
  | [], [], _, _, _ => rfl
  | [], y :: m, _, _, h => by simpa using (h y).2 (by simp)
  | x :: l, [], _, _, h => by simpa using (h x).1 (by simp)
  | x :: l, y :: m, hl, hm, h => by
    have hl' := List.pairwise_cons.1 hl
    have hm' := List.pairwise_cons.1 hm
    have hxy : x = y := by
      rcases List.mem_cons.1 ((h x).1 (by simp)) with h1 | h1
      · exact h1
      · rcases List.mem_cons.1 ((h y).2 (by simp)) with h2 | h2
        · exact h2.symm
        · have := O.trans _ _ _ (hl'.1 y h2) (hm'.1 x h1)
          rw [O.irrefl] at this
          cases this
    subst hxy
    have hnx : ∀ {k : List α}, (∀ z ∈ k, O.lt x z = true) → x ∉ k := fun hk hx => by
      have := hk x hx
      rw [O.irrefl] at this
      cases this
    rw [Srt.unique hl'.2 hm'.2 fun z => ?_]
    have h1 := h z
    simp only [List.mem_cons] at h1
    constructor
    · intro hz
      rcases h1.1 (.inr hz) with rfl | h2
      · exact absurd hz (hnx hl'.1)
      · exact h2
    · intro hz
      rcases h1.2 (.inr hz) with rfl | h2
      · exact absurd hz (hnx hm'.1)
      · exact h2
theorem Srt.nodup {l : List α} (h : Srt O l) : l.Nodup := by
  refine List.Pairwise.imp ?_ h
  intro a b hab he
  subst he
  rw [O.irrefl] at hab
  cases hab
/-- Both together. -/
def uni (l m : List α) : List α := l.foldr (ins O) m
theorem mem_uni (x : α) : ∀ l m, x ∈ uni O l m ↔ x ∈ l ∨ x ∈ m
  | [], m => by simp [uni]
  | y :: l, m => by
    have ih := mem_uni x l m
    unfold uni at ih ⊢
    simp only [List.foldr_cons, mem_ins, List.mem_cons, ih]
    exact ⟨fun h => h.elim (fun h => .inl (.inl h)) fun h => h.elim (fun h => .inl (.inr h)) .inr, fun h => h.elim (fun h => h.elim .inl fun h => .inr (.inl h)) fun h => .inr (.inr h)⟩
theorem srt_uni : ∀ l m, Srt O m → Srt O (uni O l m)
  | [], m, h => h
  | y :: l, m, h => srt_ins O y _ (srt_uni l m h)
end

/-! Intervals: the least and the greatest number. -/
abbrev Iv := Option (Int × Int)
def minI : Int := -9223372036854775808
def maxI : Int := 9223372036854775807
def Iv.Ok : Iv → Prop
  | none => True
  | some (l, h) => l ≤ h ∧ minI ≤ l ∧ h ≤ maxI
def jn : Iv → Iv → Iv
  | none, b => b
  | a, none => a
  | some (l, h), some (k, g) => some (min l k, max h g)
def wd : Iv → Iv → Iv
  | none, b => b
  | a, none => a
  | some (l, h), some (k, g) => some (if k < l then minI else l, if g > h then maxI else h)
theorem jn_comm (a b : Iv) : jn a b = jn b a := by
  rcases a with _ | ⟨l, h⟩ <;> rcases b with _ | ⟨k, g⟩ <;> simp only [jn, Option.some.injEq, Prod.mk.injEq]
  exact ⟨Int.min_comm _ _, Int.max_comm _ _⟩
theorem jn_assoc (a b c : Iv) : jn (jn a b) c = jn a (jn b c) := by
  rcases a with _ | ⟨l, h⟩ <;> rcases b with _ | ⟨k, g⟩ <;> rcases c with _ | ⟨p, q⟩ <;> simp only [jn, Option.some.injEq, Prod.mk.injEq]
  exact ⟨Int.min_assoc _ _ _, Int.max_assoc _ _ _⟩
theorem jn_self (a : Iv) : jn a a = a := by
  rcases a with _ | ⟨l, h⟩ <;> simp [jn]
theorem jn_none (a : Iv) : jn a none = a := by cases a <;> rfl
theorem none_jn (a : Iv) : jn none a = a := by cases a <;> rfl
theorem jn_ok {a b : Iv} (ha : a.Ok) (hb : b.Ok) : (jn a b).Ok := by
  rcases a with _ | ⟨l, h⟩ <;> rcases b with _ | ⟨k, g⟩ <;> simp only [jn, Iv.Ok] at * <;> try assumption
  omega
theorem wd_ok {a b : Iv} (ha : a.Ok) (hb : b.Ok) : (wd a b).Ok := by
  rcases a with _ | ⟨l, h⟩ <;> rcases b with _ | ⟨k, g⟩ <;> simp only [wd, Iv.Ok] at * <;> try assumption
  unfold minI maxI at *
  split <;> split <;> omega
theorem jn_wd {a b : Iv} (ha : a.Ok) (hb : b.Ok) : jn (jn a b) (wd a b) = wd a b := by
  rcases a with _ | ⟨l, h⟩ <;> rcases b with _ | ⟨k, g⟩ <;> simp only [jn, wd, Iv.Ok, Option.some.injEq, Prod.mk.injEq] at *
  · simp
  · simp
  · unfold minI maxI at *
    split <;> split <;> omega
end Go.Sx
namespace Go.Sh
open Go.Sx
section cpt
variable {P : Program}

theorem wrap_int (i : Int) (h1 : -9223372036854775808 ≤ i) (h2 : i ≤ 9223372036854775807) : IntKind.i64.wrap i = i := IntWalk.i64_in _ (by omega)
theorem wrap_succ (i n : Nat) (h : i < n) (hn : n ≤ 9223372036854775807) : IntKind.i64.wrap ((i : Int) + 1) = ((i + 1 : Nat) : Int) := by
  rw [show (i : Int) + 1 = ((i + 1 : Nat) : Int) from by omega]
  exact wrap_nat _ (by omega)
theorem join_intro {κ : Type} {k : κ} {B : κ → Prop} (h : ∀ k', k' = k → B k') : join k B := h k rfl
/-- 'v[m:]', to be read. -/
theorem oSliceF {t e : TypeId} {k : Nat} [u : Und P t (.slice e)] [Siz P e k] {h0 h : Heap} {v : Value} {n m : Nat} {cs : List Value} {L : List HP} {ik : IntKind} {K : Value → Prop}
    (s : St h0 h (Row k v n cs :: L)) (hm : m < n) (g : ∀ v', IsSl v' (n - m) → sbase v' = padd (sbase v) (m * k) → K v') : oSlice P t v (some (.int ik m)) none none K := by
  have hel : P.underlying t = some (.slice (P.elem t)) := by
    have := u.eq
    rw [this]
    congr 1
    simp [Program.elem, this]
  have hel2 : P.elem t = e := by
    rw [u.eq] at hel
    simpa using hel.symm
  obtain ⟨a, cap, post, rfl, h2, h3, hl, s'⟩ := s.rowOpen (by omega)
  refine ⟨.slice (some (a.add (m * k))) (n - m) (cap - m), fun w => nv_run ?_, g _ ⟨_, _, rfl⟩ rfl⟩
  rw [run_sliceAt_slice w t _ _ _ _ hel, run_slice_l w t (some a) n cap hel ik m (by omega) (by omega), hel2, Siz.run]
  simp only [Result.andThen_ok, sliced, Int.toNat_natCast, Option.map_some]
  rw [if_neg (by omega)]
theorem setAt_take : ∀ (xs cs : List Value) (j : Nat), (setAt cs j xs).take j = cs.take j
  | [], cs, j => rfl
  | x :: xs, cs, j => by
    simp only [setAt]
    have h1 := setAt_take xs (cs.set j x) (j + 1)
    have h2 : ((setAt (cs.set j x) (j + 1) xs).take (j + 1)).take j = ((cs.set j x).take (j + 1)).take j := by rw [h1]
    rw [List.take_take, List.take_take, Nat.min_eq_left (Nat.le_succ j)] at h2
    rw [h2, List.take_set_of_le (Nat.le_refl j)]
/-- 'clear(v[m:])'. -/
theorem oClearR [Gd] {t e ty : TypeId} {k b : Nat} {z : Value} [Und P t (.slice e)] [u : Inf P e k b z] {h0 h : Heap} {v x : Value} {n m : Nat} {cs : List Value} {L : List HP} {K : Value → Heap → Prop}
    (s : St h0 h (Row k v n cs :: L)) (hz : z.cells.size = k) (hz1 : ∀ y ∈ z.cells.toList, one y = true) (hm : m < n) (hx : IsSl x (n - m)) (hb : sbase x = padd (sbase v) (m * k))
    (g : ∀ r h' cs', cs'.length = cs.length → cs'.take (m * k) = cs.take (m * k) → St h0 h' (Row k v n cs' :: L) → K r h') : oClear P #[t] ty #[x] h K := by
  intro w hw
  obtain ⟨a, cap, post, rfl, h2, h3, hl, s'⟩ := s.rowOpen (by omega)
  obtain ⟨a', c', rfl⟩ := hx
  have ha' : a' = some (a.add (m * k)) := by simpa [sbase, padd] using hb
  subst ha'
  have hzl : (Builtin.zeroCells z.cells (n - m)).toList.length = (n - m) * k := by
    rw [Array.length_toList, zeroCells_size, hz]
  have hmn : (n - m) * k + m * k = n * k := by rw [← Nat.add_mul]; congr 1; omega
  have hz1' : ∀ y ∈ (Builtin.zeroCells z.cells (n - m)).toList, one y = true := by
    intro y hy
    simp only [Builtin.zeroCells, Array.toList_map, List.mem_map] at hy
    obtain ⟨i, hi, rfl⟩ := hy
    have h0 : 0 < z.cells.size := by
      rcases Nat.eq_zero_or_pos z.cells.size with h | h
      · rw [h] at hi; simp at hi
      · exact h
    have hlt := Nat.mod_lt i h0
    rw [getElem!_pos z.cells _ hlt]
    exact hz1 _ (by simp)
  obtain ⟨_, S, hA, hS, _⟩ := id s'
  obtain ⟨b1, o, T, l, hp, hb1, hSb, hrun, hown⟩ := Cells.set (P := P) hA (fun b hb => (hS b hb).2) (m * k) (Builtin.zeroCells z.cells (n - m)).toList (by rw [hzl, List.length_append]; omega) hz1'
  have hst : St h0 (setB h b1 (.cells (setAt l.toList o (Builtin.zeroCells z.cells (n - m)).toList).toArray T (0, 0))) (Cells (.pointer (some a)) (setAt (cs ++ post) (m * k) (Builtin.zeroCells z.cells (n - m)).toList) :: L) := by
    refine St.step s' fun S' hA' hS' => ?_
    obtain ⟨b', o', T', l', hp', hb', hSb', hrun', hown'⟩ := Cells.set (P := P) hA' (fun b hb => (hS' b hb).2) (m * k) (Builtin.zeroCells z.cells (n - m)).toList (by rw [hzl, List.length_append]; omega) hz1'
    rw [hp] at hp'
    simp only [Value.pointer.injEq, Option.some.injEq, Addr.mk.injEq, and_true] at hp'
    obtain ⟨rfl, rfl⟩ := hp'
    rw [hb1] at hb'
    simp only [Option.some.injEq, Obj.cells.injEq, and_true] at hb'
    obtain ⟨rfl, rfl⟩ := hb'
    exact ⟨by rw [setB_size]; exact Nat.le_refl _, fun i _ hi => setB_ne (fun e => hi (e ▸ hSb')), S', hown', fun i hi => .inl hi⟩
  have hmid : setAt (cs ++ post) (m * k) (Builtin.zeroCells z.cells (n - m)).toList = setAt cs (m * k) (Builtin.zeroCells z.cells (n - m)).toList ++ post := by
    have := setAt_mid [] post (Builtin.zeroCells z.cells (n - m)).toList cs (m * k) (by rw [hzl, hl]; omega)
    simpa using this
  rw [hmid] at hst
  have hpa : a.add (m * k) = ⟨b1, o, none⟩ := by simpa [padd] using hp
  obtain ⟨j, hj⟩ : ∃ j, n - m = j + 1 := ⟨n - m - 1, by omega⟩
  have hcl : (Builtin.clear_ #[t] ty #[.slice (some (a.add (m * k))) (n - m) c']).run P w = .ok (.tuple #[]) { w with heap := setB h b1 (.cells (setAt l.toList o (Builtin.zeroCells z.cells (n - m)).toList).toArray T (0, 0)) } := by
    have hr := hrun w hw
    rw [← hpa] at hr
    rw [hj] at hr ⊢
    simp only [Builtin.clear_, List.getElem?_toArray, List.getElem?_cons_zero, Und.run, Sem.run_bind, Result.andThen_ok, Inf.zer (P := P) (t := e), hr, Sem.run_pure]
  have : (nv (Builtin.clear_ #[t] ty #[.slice (some (a.add (m * k))) (n - m) c'])).run P w = .ok (.value (.tuple #[])) { w with heap := setB h b1 (.cells (setAt l.toList o (Builtin.zeroCells z.cells (n - m)).toList).toArray T (0, 0)) } := nv_run hcl
  rw [this]
  refine ⟨⟨rfl, rfl, rfl, fun _ => by first | exact Nat.le_refl _ | exact Nat.le_succ _⟩, g _ _ _ (setAt_length _ _ _) (setAt_take _ _ _) (hst.rowShut h2 h3 (by rw [setAt_length]; exact hl))⟩

theorem fillK {cs : List Value} {k : Nat} {x y : Value} (hx : x.cells.size = k) (hy : y.cells.size = k) (hc : cs.length = 2 * k) :
    Instr.fill (fun i => some (i * k, k)) cs.toArray [(0, x), (1, y)] = some (x.cells.toList ++ y.cells.toList).toArray := by
  have key : ∀ (l : List Value) (i : Nat) (c : Array Value), (l.zipIdx i).foldl (fun cs (p : Value × Nat) => cs.setIfInBounds p.2 p.1) c = ⟨setAt c.toList i l⟩ := by
    intro l
    induction l with
    | nil => intro i c; simp [setAt]
    | cons y l ih =>
      intro i c
      simp only [List.zipIdx_cons, List.foldl_cons, setAt]
      rw [ih]
      simp
  have step : ∀ (i : Nat) (v : Value) (c : Array Value) (rest : List (Nat × Value)), v.cells.size = k → i * k + k ≤ c.size → Instr.fill (fun i => some (i * k, k)) c ((i, v) :: rest) = Instr.fill (fun i => some (i * k, k)) (setAt c.toList (i * k) v.cells.toList).toArray rest := by
    intro i v c rest hv hle
    rw [Instr.fill]
    have h1 : ¬ (i * k + k > c.size) := by omega
    simp only [hv, ne_eq, not_true_eq_false, decide_false, h1, Bool.or_false, Bool.false_eq_true, if_false]
    have h2 : (v.cells.zipIdx.foldl (fun cs (p : Value × Nat) => cs.setIfInBounds (i * k + p.2) p.1) c) = (setAt c.toList (i * k) v.cells.toList).toArray := by
      have key2 : ∀ (l : List Value) (j : Nat) (c : Array Value), (l.zipIdx j).foldl (fun cs (p : Value × Nat) => cs.setIfInBounds (i * k + p.2) p.1) c = (setAt c.toList (i * k + j) l).toArray := by
        intro l
        induction l with
        | nil => intro j c; simp [setAt]
        | cons y l ih =>
          intro j c
          simp only [List.zipIdx_cons, List.foldl_cons, setAt]
          rw [ih]
          simp [Nat.add_assoc]
      rw [← Array.foldl_toList, Array.toList_zipIdx]
      exact key2 _ 0 c
    rw [h2]
  have hk1 : (cs.take k).length = k := by rw [List.length_take]; omega
  have hk2 : (cs.drop k).length = k := by rw [List.length_drop]; omega
  rw [step 0 x _ _ hx (by simp; omega), step 1 y _ _ hy (by simp [setAt_length]; omega)]
  simp only [Instr.fill]
  congr 1
  have e1 : setAt cs (0 * k) x.cells.toList = x.cells.toList ++ cs.drop k := by
    have h1 := setAt_mid [] (cs.drop k) x.cells.toList (cs.take k) 0 (by simp [hx, hk1])
    have h2 := setAt_all [] x.cells.toList (cs.take k) (by simp [hx, hk1])
    simp only [List.nil_append, List.length_nil, Nat.add_zero] at h1 h2
    rw [List.take_append_drop] at h1
    rw [Nat.zero_mul, h1, h2]
  rw [e1]
  have h3 := setAt_all x.cells.toList y.cells.toList (cs.drop k) (by simp [hy, hk2])
  rw [Array.length_toList, hx] at h3
  rw [Nat.one_mul, h3]
/-- A literal of two structs. -/
theorem oBuild2K [Gd] {t e : TypeId} {k b : Nat} {z x y : Value} [Und P t (.slice e)] [Inf P e k b z] {h0 h : Heap} {L : List HP} {K : Value → Heap → Prop}
    (s : St h0 h L) (hx : x.cells.size = k) (hy : y.cells.size = k) (hk0 : 0 < k) (hk2 : 2 * k ≤ 16777216)
    (g : ∀ v h', St h0 h' (Row k v 2 (x.cells.toList ++ y.cells.toList) :: L) → K v h') : oBuildSlice P t 2 #[(0, x), (1, y)] h K := by
  intro w hw
  have hr : (Instr.buildSlice t 2 #[(0, x), (1, y)]).run P w = .ok (.slice (some ⟨w.heap.size, 0, none⟩) 2 2) { w with heap := w.heap.push (.cells (x.cells.toList ++ y.cells.toList).toArray e) } := by
    unfold Instr.buildSlice
    have h1 : ¬ (2 * k > 2 ^ 24) := by omega
    have h2 : ¬ (2 * k = 0) := by omega
    simp only [Sem.run_bind, Und.run (P := P) (t := t), Result.andThen_ok, Inf.siz (P := P) (t := e), if_neg h1, if_neg h2, pure_bind, Inf.zer (P := P) (t := e)]
    have h3 := fillK (cs := ((Array.range (2 * k)).map (z.cells[· % z.cells.size]!)).toList) hx hy (by simp)
    rw [Array.toArray_toList] at h3
    rw [h3]
    simp [newRow, newObj, Sem.run]
  rw [nv_run hr]
  refine ⟨⟨rfl, rfl, rfl, fun _ => Nat.le_refl _⟩, ?_⟩
  rw [hw]
  refine g _ _ ?_
  have := s.push (x.cells.toList ++ y.cells.toList) e
  have e9 : Cells (.pointer (some ⟨h.size, 0, none⟩)) (x.cells.toList ++ y.cells.toList) = Cells (.pointer (some ⟨h.size, 0, none⟩)) ((x.cells.toList ++ y.cells.toList) ++ []) := by rw [List.append_nil]
  rw [e9] at this
  exact this.rowShut (k := k) (n := 2) (cap := 2) (Nat.le_refl _) (by simp) (by simp [hx, hy]; omega)

/-! Neighbours that are alike. -/
section plain
variable {α : Type} [DecidableEq α]
def dd : List α → List α
  | [] => []
  | [x] => [x]
  | x :: y :: l => if x = y then dd (y :: l) else x :: dd (y :: l)
theorem dd_snoc (x y : α) : ∀ l : List α, dd (l ++ [x, y]) = if x = y then dd (l ++ [x]) else dd (l ++ [x]) ++ [y]
  | [] => by
    by_cases h : x = y
    · subst h; simp [dd]
    · simp [dd, h]
  | [a] => by
    by_cases h : x = y
    · subst h; by_cases h2 : a = x <;> simp [dd, h2]
    · by_cases h2 : a = x <;> simp [dd, h, h2]
  | a :: b :: l => by
    have ih := dd_snoc x y (b :: l)
    simp only [List.cons_append, dd] at ih ⊢
    rw [ih]
    by_cases h : x = y <;> by_cases h2 : a = b <;> simp [h, h2]
theorem dd_none : ∀ l : List α, (∀ i a, l[i]? = some a → l[i + 1]? = some a → False) → dd l = l
  | [], _ => rfl
  | [x], _ => rfl
  | x :: y :: l, h => by
    have hxy : x ≠ y := fun e => h 0 x rfl (by simp [e])
    rw [dd, if_neg hxy, dd_none (y :: l) fun i a h1 h2 => h (i + 1) a (by simpa using h1) (by simpa using h2)]
theorem mem_dd (z : α) : ∀ l : List α, z ∈ dd l ↔ z ∈ l
  | [] => by simp [dd]
  | [x] => by simp [dd]
  | x :: y :: l => by
    have ih := mem_dd z (y :: l)
    rw [dd]
    by_cases h : x = y
    · subst h
      rw [if_pos rfl, ih]
      simp
    · rw [if_neg h, List.mem_cons, ih, List.mem_cons (a := z) (b := x)]
theorem dd_len : ∀ l : List α, (dd l).length ≤ l.length
  | [] => by simp [dd]
  | [x] => by simp [dd]
  | x :: y :: l => by
    have ih := dd_len (y :: l)
    rw [dd]
    by_cases h : x = y
    · rw [if_pos h]; simp only [List.length_cons] at ih ⊢; omega
    · rw [if_neg h]; simp only [List.length_cons] at ih ⊢; omega
theorem dd_srt (O : Sx.Ord α) : ∀ l : List α, (l.Pairwise fun a b => O.lt b a = false) → Srt O (dd l)
  | [], _ => List.Pairwise.nil
  | [x], _ => List.pairwise_singleton _ _
  | x :: y :: l, h => by
    have ih := dd_srt O (y :: l) h.tail
    rw [dd]
    by_cases hxy : x = y
    · rw [if_pos hxy]; exact ih
    · rw [if_neg hxy]
      refine List.pairwise_cons.2 ⟨fun z hz => ?_, ih⟩
      rw [mem_dd] at hz
      have hx := (List.pairwise_cons.1 h).1
      have hy := (List.pairwise_cons.1 h.tail).1
      have lxy : O.lt x y = true := by
        cases e : O.lt x y with
        | true => rfl
        | false => exact absurd (O.tri x y e (hx y (by simp))) hxy
      rcases List.mem_cons.1 hz with rfl | hz
      · exact lxy
      · by_cases hzy : y = z
        · subst hzy; exact lxy
        · refine O.trans x y z lxy ?_
          cases e : O.lt y z with
          | true => rfl
          | false => exact absurd (O.tri y z e (hy z hz)) hzy
theorem dd_take_eq {l : List α} {i : Nat} {a b : α} (h0 : 0 < i) (ha : l[i]? = some a) (hb : l[i - 1]? = some b) : dd (l.take (i + 1)) = if b = a then dd (l.take i) else dd (l.take i) ++ [a] := by
  obtain ⟨j, rfl⟩ : ∃ j, i = j + 1 := ⟨i - 1, by omega⟩
  rw [Nat.add_sub_cancel] at hb
  have e1 : l.take (j + 1 + 1) = l.take j ++ [b, a] := by
    rw [List.take_add_one (i := j + 1), List.take_add_one (i := j), ha, hb]
    simp
  have e2 : l.take (j + 1) = l.take j ++ [b] := by rw [List.take_add_one, hb]; rfl
  rw [e1, e2, dd_snoc]
end plain

theorem loop1_cnt {h0 : Heap} {body : Value → Heap → (Value → Heap → Prop) → Prop} (i0 n : Nat) (I : Nat → Heap → Prop) (hi : i0 ≤ n) (hI : I i0 h0)
    (round : ∀ i h (next : Value → Heap → Prop), i ≤ n → I i h → (∀ h', i < n → I (i + 1) h' → next (.int .i64 ((i + 1 : Nat) : Int)) h') → body (.int .i64 i) h next) :
    loop1 (.int .i64 i0) h0 body := by
  refine ⟨fun m a h => ∃ i : Nat, i ≤ n ∧ m = n - i ∧ a = .int .i64 i ∧ I i h, n - i0, ⟨i0, hi, rfl, rfl, hI⟩, ?_⟩
  rintro m _ h ⟨i, hin, rfl, rfl, hI⟩
  refine round i h _ hin hI fun h' hlt hI' => ⟨n - (i + 1), by omega, i + 1, by omega, rfl, rfl, hI'⟩
/-! The walk. -/
section walk
variable {α : Type} {val : α → Value} {enc : α → List Value} {k : Nat}
theorem flatK_set (hk : ∀ x, (enc x).length = k) {l : List α} {i : Nat} {x : α} (hi : i < l.length) : setAt (l.flatMap enc) (i * k) (enc x) = (l.set i x).flatMap enc := by
  have e : l = l.take i ++ (l[i] :: l.drop (i + 1)) := by
    rw [← List.drop_eq_getElem_cons hi, List.take_append_drop]
  have hlen : ((l.take i).flatMap enc).length = i * k := by
    rw [flatK_len hk, List.length_take, Nat.min_eq_left (by omega)]
  have e2 : l.set i x = l.take i ++ (x :: l.drop (i + 1)) := by rw [List.set_eq_take_append_cons_drop, if_pos hi]
  rw [e2]
  have e3 : l.flatMap enc = (l.take i).flatMap enc ++ enc l[i] ++ (l.drop (i + 1)).flatMap enc := by
    calc l.flatMap enc = (l.take i ++ (l[i] :: l.drop (i + 1))).flatMap enc := by rw [← e]
      _ = _ := by simp only [List.flatMap_append, List.flatMap_cons, List.append_assoc]
  rw [e3, ← hlen]
  have := setAt_mid ((l.take i).flatMap enc) ((l.drop (i + 1)).flatMap enc) (enc x) (enc l[i]) 0 (by rw [hk, hk]; omega)
  rw [Nat.add_zero ((l.take i).flatMap enc).length] at this
  rw [this]
  have h2 := setAt_all [] (enc x) (enc l[i]) (by rw [hk, hk])
  have h2' : setAt (enc l[i]) 0 (enc x) = enc x := by simpa using h2
  rw [h2']
  simp
/-- An element is put into a row. -/
theorem oPutK [Gd] {t e : TypeId} [Und P t (.slice e)] [Siz P e k] (hk : ∀ x, (enc x).length = k) (hk0 : 0 < k) (hv : ∀ x, (val x).cells.toList = enc x) (h1 : ∀ x, ∀ y ∈ enc x, one y = true) {h0 h : Heap} {v : Value} {l : List α} {i : Nat} {x : α} {ik : IntKind} {L : List HP} {K : Value → Heap → Prop}
    (s : St h0 h (Row k v l.length (l.flatMap enc) :: L)) (hi : i < l.length) (g : ∀ h', St h0 h' (Row k v (l.set i x).length ((l.set i x).flatMap enc) :: L) → K undef h') : oIdx P t v (.int ik i) fun p => oStore P e p (val x) h K := by
  obtain ⟨r1, r2, r3⟩ := s.row
  rw [oIdx_sl r1 (r3.nz (by rw [r2]; exact Nat.mul_pos (by omega) hk0)) (by omega) (by omega), Int.toNat_natCast]
  refine oStoreR s (by rw [hv, hk]) ?_ hk0 (by rw [hv]; exact h1 x) fun h' s' => g h' ?_
  · rw [r2]
    have : (i + 1) * k ≤ l.length * k := Nat.mul_le_mul_right _ (by omega)
    rw [Nat.add_mul] at this
    omega
  · rw [hv, flatK_set hk hi] at s'
    rw [List.length_set]
    exact s'

def gCompact [Gd] (P : Program) (t e : TypeId) (v0 : Value) (h : Heap) (R : Value → Heap → Prop) : Prop :=
  oLen P #[t] 3 v0 fun t7 =>
  oBin P .lss 3 (.tmp 7) (.const (.int .i64 2)) t7 (.int .i64 2) fun t8 =>
  cond t8
   (R v0 h)
   (loop1 (.int .i64 1) h fun x3 h next =>
    oLen P #[t] 3 v0 fun t12 =>
    oBin P .lss 3 (.tmp 10) (.tmp 12) x3 t12 fun t13 =>
    cond t13
     (oIdx P t v0 x3 fun t18 =>
     oLoad P e t18 (Eq h) fun t19 =>
     oBin P .sub 3 (.tmp 21) (.const (.int .i64 1)) x3 (.int .i64 1) fun t22 =>
     oIdx P t v0 t22 fun t23 =>
     oLoad P e t23 (Eq h) fun t24 =>
     oBin P .eql e (.tmp 19) (.tmp 24) t19 t24 fun t25 =>
     cond t25
      (oSlice P t v0 (some x3) none none fun t28 =>
      loop2 x3 (.int .i64 1) h fun x3_1 x5 h_1 next_1 =>
       oLen P #[t] 3 t28 fun t31 =>
       oBin P .lss 3 (.tmp 29) (.tmp 31) x5 t31 fun t32 =>
       cond t32
        (join (fun (x3_2 : Value) (h_2 : Heap) =>
         oBin P .add 3 (.tmp 33) (.const (.int .i64 1)) x5 (.int .i64 1) fun t34 =>
         next_1 x3_2 t34 h_2)
         fun k =>
         oIdx P t t28 x5 fun t37 =>
         oLoad P e t37 (Eq h_1) fun t38 =>
         oBin P .sub 3 (.tmp 40) (.const (.int .i64 1)) x5 (.int .i64 1) fun t41 =>
         oIdx P t t28 t41 fun t42 =>
         oLoad P e t42 (Eq h_1) fun t43 =>
         oBin P .neq e (.tmp 38) (.tmp 43) t38 t43 fun t44 =>
         cond t44
          (oIdx P t t28 x5 fun t49 =>
          oLoad P e t49 (Eq h_1) fun t50 =>
          oIdx P t v0 x3_1 fun t51 =>
          oStore P e t51 t50 h_1 fun _ h_3 => 
          oBin P .add 3 (.tmp 52) (.const (.int .i64 1)) x3_1 (.int .i64 1) fun t53 =>
          k t53 h_3)
          (k x3_1 h_1))
        (oSlice P t v0 (some x3_1) none none fun t56 =>
        oClear P #[t] 0 #[t56] h_1 fun _ h_4 => 
        oSlice P t v0 none (some x3_1) none fun t59 =>
        R t59 h_4))
      (oBin P .add 3 (.tmp 14) (.const (.int .i64 1)) x3 (.int .i64 1) fun t15 =>
      next t15 h))
     (R v0 h))

theorem gCompact_ok [Gd] [DecidableEq α] {t e : TypeId} {b : Nat} {z : Value} [Und P t (.slice e)] [Inf P e k b z] [Siz P e k] (hk : ∀ x, (enc x).length = k) (hk0 : 0 < k) (hv : ∀ x, (val x).cells.toList = enc x) (h1 : ∀ x, ∀ y ∈ enc x, one y = true)
    (hz : z.cells.size = k) (hz1 : ∀ y ∈ z.cells.toList, one y = true)
    (get : ∀ {h : Heap} {v : Value} {l : List α} {i : Nat} {a : α} {K : Value → Prop}, RdK enc h v l → l[i]? = some a → K (val a) → oIdx P t v (.int .i64 i) fun p => oLoad P e p (Eq h) K)
    (eql : ∀ {a b : α} {x y : Operand} {K : Value → Prop}, K (.bool (decide (a = b))) → oBin P .eql e x y (val a) (val b) K)
    (neq : ∀ {a b : α} {x y : Operand} {K : Value → Prop}, K (.bool (!decide (a = b))) → oBin P .neq e x y (val a) (val b) K)
    {h0 h : Heap} {v : Value} {l : List α} {L : List HP} {R : Value → Heap → Prop} (hlen : l.length ≤ 4611686018427387904)
    (s : St h0 h (Row k v l.length (l.flatMap enc) :: L)) (g : ∀ u h', St h0 h' (Row k u (dd l).length ((dd l).flatMap enc) :: L) → R u h') : gCompact P t e v h R := by
  unfold gCompact
  have r := s.rdK hk hk0
  rw [oLen_sl r.1, oBin_lss]
  by_cases h2 : l.length < 2
  · rw [cond_pos (by omega)]
    have e : dd l = l := by
      match l, h2 with
      | [], _ => rfl
      | [x], _ => rfl
    refine g v h ?_
    rw [e]; exact s
  rw [cond_neg (by omega)]
  refine loop1_cnt 1 l.length (fun i h' => h' = h ∧ 1 ≤ i ∧ ∀ j a, j + 1 < i → l[j]? = some a → l[j + 1]? = some a → False) (by omega) ⟨rfl, by omega, fun j a hj => by omega⟩ ?_
  rintro i h' nx hi ⟨rfl, hi1, hno⟩ hnx
  rw [oLen_sl r.1, oBin_lss]
  by_cases hlt : i < l.length
  · rw [cond_pos (by omega)]
    obtain ⟨a, ha⟩ : ∃ a, l[i]? = some a := ⟨_, List.getElem?_eq_getElem hlt⟩
    obtain ⟨c, hc⟩ : ∃ c, l[i - 1]? = some c := ⟨_, List.getElem?_eq_getElem (by omega)⟩
    refine get r ha ?_
    rw [oBin_sub, wrap_int _ (by omega) (by omega), show ((i : Int) - 1) = ((i - 1 : Nat) : Int) from by omega]
    refine get r hc (eql ?_)
    by_cases hac : a = c
    · subst hac
      rw [decide_eq_true rfl, cond_t]
      refine oSliceF s hlt fun v' hv' hb' => ?_
      -- the second loop
      refine ⟨fun μ x3 x5 h2 => ∃ (j m : Nat) (l' : List α), μ = l.length - j ∧ i + 1 ≤ j ∧ j ≤ l.length ∧ x3 = .int .i64 m ∧ x5 = .int .i64 ((j - i : Nat) : Int) ∧ m < j ∧ l'.length = l.length ∧
          l'.take m = dd (l.take j) ∧ l'.drop (j - 1) = l.drop (j - 1) ∧ St h0 h2 (Row k v l'.length (l'.flatMap enc) :: L), l.length - (i + 1), ?_, ?_⟩
      · refine ⟨i + 1, i, l, rfl, by omega, by omega, rfl, by rw [show i + 1 - i = 1 from by omega]; rfl, by omega, rfl, ?_, rfl, s⟩
        rw [dd_take_eq (by omega) ha hc, if_pos rfl, dd_none]
        intro j x hx1 hx2
        have hj : j + 1 < i := by
          have := (List.getElem?_eq_some_iff.1 hx2).1
          rw [List.length_take] at this
          omega
        refine hno j x hj ?_ ?_
        · rw [List.getElem?_take, if_pos (by omega)] at hx1; exact hx1
        · rw [List.getElem?_take, if_pos (by omega)] at hx2; exact hx2
      · rintro μ x3 x5 h2 ⟨j, m, l', rfl, hj1, hj2, rfl, rfl, hm, hl', htk, hdr, s2⟩
        dsimp only
        rw [oLen_sl hv', oBin_lss]
        have r2 := s2.rdK hk hk0
        by_cases hjl : j < l.length
        · rw [cond_pos (by omega)]
          refine join_intro fun kk hkk => ?_
          have hsub : RdK enc h2 v' (l'.drop i) := by
            refine ⟨by rw [List.length_drop, hl']; exact hv', ?_⟩
            rw [hb', ← flatK_drop hk]
            exact r2.2.drop _
          have hat : ∀ q, j - 1 ≤ q → l'[q]? = l[q]? := by
            intro q hq
            have e1 : l'[q]? = (l'.drop (j - 1))[q - (j - 1)]? := by rw [List.getElem?_drop]; congr 1; omega
            have e2 : l[q]? = (l.drop (j - 1))[q - (j - 1)]? := by rw [List.getElem?_drop]; congr 1; omega
            rw [e1, e2, hdr]
          obtain ⟨x, hx⟩ : ∃ x, l[j]? = some x := ⟨_, List.getElem?_eq_getElem hjl⟩
          obtain ⟨y, hy⟩ : ∃ y, l[j - 1]? = some y := ⟨_, List.getElem?_eq_getElem (by omega)⟩
          have hx' : (l'.drop i)[j - i]? = some x := by rw [List.getElem?_drop, show i + (j - i) = j from by omega, hat j (by omega)]; exact hx
          have hy' : (l'.drop i)[j - i - 1]? = some y := by rw [List.getElem?_drop, show i + (j - i - 1) = j - 1 from by omega, hat (j - 1) (by omega)]; exact hy
          refine get hsub hx' ?_
          rw [oBin_sub, wrap_int _ (by omega) (by omega), show (((j - i : Nat) : Int) - 1) = ((j - i - 1 : Nat) : Int) from by omega]
          refine get hsub hy' (neq ?_)
          have hdt := dd_take_eq (by omega) hx hy
          by_cases hxy : x = y
          · subst hxy
            rw [decide_eq_true rfl]
            show cond (.bool false) _ _
            rw [cond_f, hkk]
            dsimp only
            rw [oBin_add, wrap_succ (j - i) (l.length - i) (by omega) (by omega)]
            rw [if_pos rfl] at hdt
            refine ⟨l.length - (j + 1), by omega, j + 1, m, l', rfl, by omega, by omega, rfl, by congr 2; omega, by omega, hl', ?_, ?_, s2⟩
            · rw [hdt]; exact htk
            · rw [show j + 1 - 1 = (j - 1) + 1 from by omega, ← List.drop_drop, hdr, List.drop_drop]
          · rw [decide_eq_false hxy]
            show cond (.bool true) _ _
            rw [cond_t]
            refine get hsub hx' ?_
            refine oPutK hk hk0 hv h1 s2 (by omega) fun h3 s3 => ?_
            rw [oBin_add, wrap_succ m l.length (by omega) (by omega), hkk]
            dsimp only
            rw [oBin_add, wrap_succ (j - i) (l.length - i) (by omega) (by omega)]
            rw [if_neg (fun e => hxy e.symm)] at hdt
            refine ⟨l.length - (j + 1), by omega, j + 1, m + 1, l'.set m x, rfl, by omega, by omega, rfl, by congr 2; omega, by omega, by rw [List.length_set]; exact hl', ?_, ?_, s3⟩
            · rw [hdt, List.take_add_one, List.take_set_of_le (Nat.le_refl m), htk, List.getElem?_set_self (by omega)]
              rfl
            · rw [List.drop_set_of_lt (by omega), show j + 1 - 1 = (j - 1) + 1 from by omega, ← List.drop_drop, hdr, List.drop_drop]
        · rw [cond_neg (by omega)]
          have hje : j = l.length := by omega
          subst hje
          rw [List.take_length] at htk
          have hml : m < l'.length := by omega
          refine oSliceF s2 hml fun t56 h56 hb56 => ?_
          refine oClearR s2 hz hz1 hml h56 hb56 fun rr h4 cs' hcl hct s4 => ?_
          refine oSliceR s4 (by omega) fun t59 s5 => g t59 h4 ?_
          have hdl : (dd l).length = m := by rw [← htk, List.length_take, Nat.min_eq_left (by omega)]
          have hfl : cs'.take (m * k) = (dd l).flatMap enc := by
            rw [hct, ← htk]
            have := flatK_drop hk l' m
            have h3 : (l'.flatMap enc) = (l'.take m).flatMap enc ++ (l'.drop m).flatMap enc := by rw [← List.flatMap_append, List.take_append_drop]
            rw [h3, List.take_left' (by rw [flatK_len hk, List.length_take, Nat.min_eq_left (by omega)])]
          rw [hfl] at s5
          rw [hdl]
          exact s5
    · rw [decide_eq_false hac]
      rw [cond_f, oBin_add, wrap_succ i _ hlt (by omega)]
      refine hnx _ hlt ⟨rfl, by omega, fun j x hj hx1 hx2 => ?_⟩
      by_cases e : j + 1 = i
      · subst e
        rw [Nat.add_sub_cancel] at hc
        rw [hc] at hx1
        rw [ha] at hx2
        exact hac (by simp at hx1 hx2; rw [hx1, hx2])
      · exact hno j x (by omega) hx1 hx2
  · rw [cond_neg (by omega)]
    have e : dd l = l := dd_none l fun j a h1 h2 => hno j a (by have := (List.getElem?_eq_some_iff.1 h2).1; omega) h1 h2
    refine g v h' ?_
    rw [e]; exact s
end walk
end cpt
end Go.Sh
namespace Go.Pl

def ite (p A B : Prop) : Prop := (p → A) ∧ (¬ p → B)
theorem ite_pos {p A B : Prop} (h : p) : ite p A B ↔ A := ⟨fun x => x.1 h, fun x => ⟨fun _ => x, fun n => absurd h n⟩⟩
theorem ite_neg {p A B : Prop} (h : ¬ p) : ite p A B ↔ B := ⟨fun x => x.2 h, fun x => ⟨fun n => absurd n h, fun _ => x⟩⟩
theorem ite_def {p A B : Prop} [Decidable p] : ite p A B ↔ if p then A else B := by
  by_cases h : p
  · rw [ite_pos h, if_pos h]
  · rw [ite_neg h, if_neg h]
section
variable {α β γ δ ε ζ : Type}
def get (l : List α) (i : Int) (K : α → Prop) : Prop := 0 ≤ i ∧ ∃ a, l[i.toNat]? = some a ∧ K a
theorem get_nat {l : List α} {i : Nat} {a : α} {K : α → Prop} (h : l[i]? = some a) (k : K a) : get l (i : Int) K := ⟨Int.natCast_nonneg i, a, by simpa using h, k⟩
def put (l : List α) (i : Int) (a : α) (K : List α → Prop) : Prop := 0 ≤ i ∧ i.toNat < l.length ∧ K (l.set i.toNat a)
def slc (l : List α) (lo hi : Int) (K : List α → Prop) : Prop := 0 ≤ lo ∧ lo ≤ hi ∧ hi ≤ l.length ∧ ∃ r, r = (l.take hi.toNat).drop lo.toNat ∧ K r
def app (l m : List α) (K : List α → Prop) : Prop := l.length + m.length ≤ 100000000000 ∧ ∃ r, r = l ++ m ∧ K r
def appc (l m : List α) (K : List α → Prop) : Prop := m ≠ [] ∧ l.length + m.length ≤ 100000000000 ∧ ∃ r, r = l ++ m ∧ K r
theorem app_intro {l m : List α} {K : List α → Prop} (h : l.length + m.length ≤ 100000000000) (k : K (l ++ m)) : app l m K := ⟨h, _, rfl, k⟩
theorem appc_intro {l m : List α} {K : List α → Prop} (h0 : m ≠ []) (h : l.length + m.length ≤ 100000000000) (k : K (l ++ m)) : appc l m K := ⟨h0, h, _, rfl, k⟩
theorem slc_nat {l : List α} {a b : Nat} {K : List α → Prop} (h1 : a ≤ b) (h2 : b ≤ l.length) (k : K ((l.take b).drop a)) : slc l (a : Int) (b : Int) K := ⟨by omega, by omega, by omega, _, rfl, by simpa using k⟩
def det (p : (α → Prop) → Prop) (K : α → Prop) : Prop := ∃ r, p (fun x => x = r) ∧ K r
def join {κ : Type} (k : κ) (B : κ → Prop) : Prop := B k
theorem join_elim {κ : Type} {k : κ} {B : κ → Prop} (h : join k B) : ∃ k', k' = k ∧ B k' := ⟨k, rfl, h⟩
theorem join_intro {κ : Type} {k : κ} {B : κ → Prop} (h : B k) : join k B := h
def loop0 (body : Prop → Prop) : Prop := ∃ (I : Nat → Prop) (m0 : Nat), I m0 ∧ ∀ m, I m → body (∃ m', m' < m ∧ I m')
def loop1 (a0 : α) (body : α → (α → Prop) → Prop) : Prop :=
  ∃ (I : Nat → α → Prop) (m0 : Nat), I m0 a0 ∧ ∀ m a, I m a → body a fun a' => ∃ m', m' < m ∧ I m' a'
def loop2 (a0 : α) (b0 : β) (body : α → β → (α → β → Prop) → Prop) : Prop :=
  ∃ (I : Nat → α → β → Prop) (m0 : Nat), I m0 a0 b0 ∧ ∀ m a b, I m a b → body a b fun a' b' => ∃ m', m' < m ∧ I m' a' b'
def loop3 (a0 : α) (b0 : β) (c0 : γ) (body : α → β → γ → (α → β → γ → Prop) → Prop) : Prop :=
  ∃ (I : Nat → α → β → γ → Prop) (m0 : Nat), I m0 a0 b0 c0 ∧ ∀ m a b c, I m a b c → body a b c fun a' b' c' => ∃ m', m' < m ∧ I m' a' b' c'
def loop4 (a0 : α) (b0 : β) (c0 : γ) (d0 : δ) (body : α → β → γ → δ → (α → β → γ → δ → Prop) → Prop) : Prop :=
  ∃ (I : Nat → α → β → γ → δ → Prop) (m0 : Nat), I m0 a0 b0 c0 d0 ∧ ∀ m a b c d, I m a b c d → body a b c d fun a' b' c' d' => ∃ m', m' < m ∧ I m' a' b' c' d'
def loop5 (a0 : α) (b0 : β) (c0 : γ) (d0 : δ) (e0 : ε) (body : α → β → γ → δ → ε → (α → β → γ → δ → ε → Prop) → Prop) : Prop :=
  ∃ (I : Nat → α → β → γ → δ → ε → Prop) (m0 : Nat), I m0 a0 b0 c0 d0 e0 ∧ ∀ m a b c d e, I m a b c d e → body a b c d e fun a' b' c' d' e' => ∃ m', m' < m ∧ I m' a' b' c' d' e'
def loop6 (a0 : α) (b0 : β) (c0 : γ) (d0 : δ) (e0 : ε) (f0 : ζ) (body : α → β → γ → δ → ε → ζ → (α → β → γ → δ → ε → ζ → Prop) → Prop) : Prop :=
  ∃ (I : Nat → α → β → γ → δ → ε → ζ → Prop) (m0 : Nat), I m0 a0 b0 c0 d0 e0 f0 ∧ ∀ m a b c d e f, I m a b c d e f → body a b c d e f fun a' b' c' d' e' f' => ∃ m', m' < m ∧ I m' a' b' c' d' e' f'
/-- A loop that counts up to n. -/
theorem loop1_count {body : Int → (Int → Prop) → Prop} (i0 n : Nat) (I : Nat → Prop) (hi : i0 ≤ n) (hI : I i0)
    (round : ∀ i (next : Int → Prop), i ≤ n → I i → (i < n → I (i + 1) → next ((i + 1 : Nat) : Int)) → body i next) : loop1 (i0 : Int) body := by
  refine ⟨fun m a => ∃ i : Nat, a = i ∧ i ≤ n ∧ m = n - i ∧ I i, n - i0, ⟨i0, rfl, hi, rfl, hI⟩, ?_⟩
  rintro m a ⟨i, rfl, hi, rfl, h⟩
  exact round i _ hi h fun hlt h' => ⟨_, by omega, i + 1, rfl, hlt, rfl, h'⟩
theorem loop2_count {body : Int → β → (Int → β → Prop) → Prop} {b0 : β} (i0 n : Nat) (I : Nat → β → Prop) (hi : i0 ≤ n) (hI : I i0 b0)
    (round : ∀ i b (next : Int → β → Prop), i ≤ n → I i b → (∀ b', i < n → I (i + 1) b' → next ((i + 1 : Nat) : Int) b') → body i b next) : loop2 (i0 : Int) b0 body := by
  refine ⟨fun m a b => ∃ i : Nat, a = i ∧ i ≤ n ∧ m = n - i ∧ I i b, n - i0, ⟨i0, rfl, hi, rfl, hI⟩, ?_⟩
  rintro m a b ⟨i, rfl, hi, rfl, h⟩
  exact round i b _ hi h fun b' hlt h' => ⟨_, by omega, i + 1, rfl, hlt, rfl, h'⟩
theorem loop3_count {body : Int → β → γ → (Int → β → γ → Prop) → Prop} {b0 : β} {c0 : γ} (i0 n : Nat) (I : Nat → β → γ → Prop) (hi : i0 ≤ n) (hI : I i0 b0 c0)
    (round : ∀ i b c (next : Int → β → γ → Prop), i ≤ n → I i b c → (∀ b' c', i < n → I (i + 1) b' c' → next ((i + 1 : Nat) : Int) b' c') → body i b c next) : loop3 (i0 : Int) b0 c0 body := by
  refine ⟨fun m a b c => ∃ i : Nat, a = i ∧ i ≤ n ∧ m = n - i ∧ I i b c, n - i0, ⟨i0, rfl, hi, rfl, hI⟩, ?_⟩
  rintro m a b c ⟨i, rfl, hi, rfl, h⟩
  exact round i b c _ hi h fun b' c' hlt h' => ⟨_, by omega, i + 1, rfl, hlt, rfl, h'⟩
end
end Go.Pl
namespace Go.Pl
def ok (p A : Prop) : Prop := p ∧ A
def band (κ : IntKind) (x y : Int) : Int := κ.wrap (BitVec.ofInt κ.bits x &&& BitVec.ofInt κ.bits y).toNat
def bor (κ : IntKind) (x y : Int) : Int := κ.wrap (BitVec.ofInt κ.bits x ||| BitVec.ofInt κ.bits y).toNat
def bxor (κ : IntKind) (x y : Int) : Int := κ.wrap (BitVec.ofInt κ.bits x ^^^ BitVec.ofInt κ.bits y).toNat
def shl (κ : IntKind) (x y : Int) : Int := κ.wrap (x * 2 ^ (min y.toNat κ.bits))
def shr (κ : IntKind) (x y : Int) : Int := x.fdiv (2 ^ (min y.toNat κ.bits))
def slss (a b : Sh.Str) : Bool := Go.Op.bytesLess a b
def sleq (a b : Sh.Str) : Bool := Go.Op.bytesLess a b || decide (a = b)
def sgtr (a b : Sh.Str) : Bool := !(Go.Op.bytesLess a b || decide (a = b))
def sgeq (a b : Sh.Str) : Bool := !Go.Op.bytesLess a b
def pick (c a b : Bool) : Bool := if c then a else b
def bytes (s : Sh.Str) : List Int := s.map fun c => (c.toNat : Int)
theorem lt_of_get {α : Type} {l : List α} {i : Nat} {a : α} (h : l[i]? = some a) : i < l.length := (List.getElem?_eq_some_iff.1 h).1
theorem len_set {α : Type} {l : List α} {i : Nat} {a : α} : (l.set i a).length = l.length := List.length_set
end Go.Pl
namespace Go.Sh
abbrev Ones (xs : List Value) : Prop := ∀ y ∈ xs, one y = true
theorem ones_nil : Ones [] := fun _ h => by cases h
theorem ones_cons {x : Value} {xs : List Value} (h : one x = true) (t : Ones xs) : Ones (x :: xs) := fun y hy => by
  rcases List.mem_cons.1 hy with rfl | hy
  · exact h
  · exact t y hy
variable {α : Type} [Gd] {P : Program}
/-! ### Cells within cells -/
structure Cx where
  P : Value
  pre : List Value
  post : List Value
def Ce (x : Cx) (cs : List Value) : HP := Cells x.P (x.pre ++ (cs ++ x.post))
def Cx.at (x : Cx) (a : Addr) : Prop := padd x.P x.pre.length = .pointer (some a)
def Cx.new (a : Addr) : Cx := ⟨.pointer (some a), [], []⟩
theorem Cx.new_at (a : Addr) : (Cx.new a).at a := padd_zero _
theorem Ce.new (a : Addr) (cs : List Value) : Ce (Cx.new a) cs = Cells (.pointer (some a)) cs := by simp [Ce, Cx.new]
def Cx.in (x : Cx) (pre post : List Value) : Cx := ⟨x.P, x.pre ++ pre, post ++ x.post⟩
theorem Cx.sub {x : Cx} {a : Addr} (h : x.at a) (pre post : List Value) : (x.in pre post).at (a.add pre.length) := by
  unfold Cx.at Cx.in at *
  rw [List.length_append, ← padd_padd, h]; rfl
theorem Ce.in (x : Cx) (pre cs post : List Value) : Ce x (pre ++ cs ++ post) = Ce (x.in pre post) cs := by simp [Ce, Cx.in]
theorem Ce.rd {x : Cx} {a : Addr} (hx : x.at a) {h : Heap} {cs : List Value} {S : Nat → Prop} (o : (Ce x cs).own h S) : Rd h (.pointer (some a)) cs := by
  have h1 := ((Cells.rd o).drop x.pre.length).take cs.length
  rw [show padd x.P x.pre.length = .pointer (some a) from hx, List.drop_left' rfl, List.take_left' rfl] at h1
  exact h1
theorem Sf.ce {F : Vw} {h : Heap} {L : List HP} {x : Cx} {a : Addr} {cs : List Value} (hx : x.at a) (i : Nat) (hL : L[i]? = some (Ce x cs)) (s : Sf F h L) : Rd h (.pointer (some a)) cs := by
  obtain ⟨S, hS, _⟩ := (s.at i hL).get
  exact Ce.rd hx hS
theorem Sf.ceE {F : Vw} {h : Heap} {L : List HP} {x : Cx} {a : Addr} {cs : List Value} (hx : x.at a) (i : Nat) (hL : L[i]? = some (Ce x cs)) (s : Sf F h L) : ∀ h', h = h' → Rd h' (.pointer (some a)) cs := fun _ e => e ▸ s.ce hx i hL
theorem Sf.ceD {F : Vw} {L : List HP} {x : Cx} {a : Addr} {cs : List Value} (hx : x.at a) (i : Nat) (hL : L[i]? = some (Ce x cs)) : ∀ h', Sf F h' L → Rd h' (.pointer (some a)) cs := fun _ s => s.ce hx i hL
theorem Sf.rvE {F : Vw} {h : Heap} {L : List HP} {p : Value} {cs : List Value} (s : Sf F h L) (r : RdV F p cs) : ∀ h', h = h' → Rd h' p cs := fun _ e => e ▸ r.rd s.fit
theorem rvD {F : Vw} {L : List HP} {p : Value} {cs : List Value} (r : RdV F p cs) : ∀ h', Sf F h' L → Rd h' p cs := fun _ s => r.rd s.fit
theorem Sf.rlE {e : En α} {F : Vw} {h : Heap} {L : List HP} {v : Value} {l : List α} (s : Sf F h L) (r : RL e F v l) : RX e F (Eq h) v l := r.x fun _ e => e ▸ s.fit
theorem Sf.rowE {F : Vw} {h : Heap} {L : List HP} {k n : Nat} {v : Value} {cs : List Value} (i : Nat) (hL : L[i]? = some (Row k v n cs)) (s : Sf F h L) : ∀ h', h = h' → ∃ M, St #[] h' (Row k v n cs :: M) := fun _ e => ⟨_, e ▸ s.at i hL⟩
theorem Sf.roE {e : En α} {F : Vw} {h : Heap} {L : List HP} {k : Nat} {v : Value} {cs : List Value} {l : List α} (i : Nat) (hL : L[i]? = some (Row k v l.length cs)) (s : Sf F h L) (hc : CL e F cs l) : RX e F (Eq h) v l :=
  RX.of rfl (Sf.rowE i hL s) hc (s.at i hL).row.1
theorem Sf.toSub {F : Vw} {h : Heap} {L : List HP} {x : Cx} {pre cs post : List Value} (s : Sf F h (Ce x (pre ++ cs ++ post) :: L)) : Sf F h (Ce (x.in pre post) cs :: L) := Ce.in x pre cs post ▸ s
theorem Sf.offSub {F : Vw} {h : Heap} {L : List HP} {x : Cx} {pre cs post : List Value} (s : Sf F h (Ce (x.in pre post) cs :: L)) : Sf F h (Ce x (pre ++ cs ++ post) :: L) := (Ce.in x pre cs post).symm ▸ s
/-! ### Places -/
theorem tNil {q : Value} {a : Addr} {j : Nat} {K : Value → Prop} (hq : q = padd (.pointer (some a)) j) (hK : K q) : oNil P q K := by
  subst hq; exact (oNil_padd ⟨a, rfl⟩).2 hK
theorem tFA {t : TypeId} {i off : Nat} [Fld P t i off] {a : Addr} {q q' : Value} {n : Nat} {D : Heap → Prop} {K : Value → Prop} (hq : q = padd (.pointer (some a)) n)
    (hq' : padd (.pointer (some a)) (n + off) = q') (hK : K q') : oFieldAddr P t q i D K := by
  subst hq hq'
  exact oFieldAddr_own ⟨a, rfl⟩ hK
theorem tLd {t : TypeId} [IsA P t false] {p q x : Value} {cs : List Value} {j : Nat} {D : Heap → Prop} {K : Value → Prop} (hq : q = padd p j) (r : ∀ h', D h' → Rd h' p cs) (hx : cs[j]? = some x) (hK : K x) : oLoad P t q D K := by
  subst hq; exact oLoad1 r hx hK
theorem tLdA {t : TypeId} {k : Nat} [IsA P t true] [Siz P t k] {a : Addr} {q : Value} {cs ds : List Value} {j : Nat} {D : Heap → Prop} {K : Value → Prop} (hq : q = padd (.pointer (some a)) j) (r : ∀ h', D h' → Rd h' (.pointer (some a)) cs)
    (hj : j + k ≤ cs.length) (hx : (cs.drop j).take k = ds) (hK : K (.agg ds.toArray)) : oLoad P t q D K := by
  subst hq hx; exact oLoadA r ⟨a, rfl⟩ hj hK
theorem setAt_ce (x : Cx) (cs vs : List Value) (j : Nat) (hj : j + vs.length ≤ cs.length) : setAt (x.pre ++ (cs ++ x.post)) (x.pre.length + j) vs = x.pre ++ (setAt cs j vs ++ x.post) := by
  have := setAt_mid x.pre x.post vs cs j hj
  simpa [List.append_assoc] using this
theorem tSt {t : TypeId} {k : Nat} [Siz P t k] {F : Vw} {h : Heap} {L : List HP} {x : Cx} {a : Addr} {q v : Value} {cs vs cs' : List Value} {j : Nat} {K : Value → Heap → Prop} (i : Nat) (hL : L[i]? = some (Ce x cs)) (s : Sf F h L) (hx : x.at a) (hq : q = padd (.pointer (some a)) j)
    (hv : v.cells.toList = vs) (hk : vs.length = k) (hj : j + k ≤ cs.length) (h1 : Ones vs) (hc : setAt cs j vs = cs') (g : ∀ h', Sf F h' (L.set i (Ce x cs')) → K undef h') : oStore P t q v h K := by
  subst hq hv hc
  rw [show (Value.pointer (some a)) = padd x.P x.pre.length from Eq.symm hx, padd_padd]
  refine oStoreC (s.at i hL) hk (by simp only [List.length_append]; omega) h1 fun h' s' => g h' ?_
  rw [setAt_ce _ _ _ _ (by omega)] at s'
  exact Sf.back hL s'
theorem tBx {t : TypeId} {F : Vw} {h : Heap} {L : List HP} {v : Value} {vs : List Value} {K : Value → Heap → Prop} (s : Sf F h L) (hv : v.cells.toList = vs) (g : ∀ a h', Sf F h' (Ce (Cx.new a) vs :: L) → K (.pointer (some a)) h') : oBox P t v h K :=
  tBox s fun p h' ⟨a, hp⟩ s' => by subst hp; exact g a h' (by rw [Ce.new]; exact hv ▸ s')
theorem tAl {t : TypeId} {k b : Nat} {z : Value} [Inf P t k b z] {F : Vw} {h : Heap} {L : List HP} {vs : List Value} {K : Value → Heap → Prop} (s : Sf F h L) (hv : z.cells.toList = vs) (g : ∀ a h', Sf F h' (Ce (Cx.new a) vs :: L) → K (.pointer (some a)) h') : oAlloc P t h K :=
  tAlloc s fun p h' ⟨a, hp⟩ s' => by subst hp; exact g a h' (by rw [Ce.new]; exact hv ▸ s')
/-- The place of an element of a slice that is frozen. -/
theorem tPlF {t el : TypeId} {k : Nat} [Und P t (.slice el)] [Siz P el k] {e : En α} {F : Vw} {v : Value} {l : List α} {i : Int} {a : α} {ik : IntKind} {K : Value → Prop}
    (hk : e.k = k) (r : RL e F v l) (h0 : 0 ≤ i) (hi : l[i.toNat]? = some a) (hK : ∀ q c, e.C F c a → RdV F (.pointer (some q)) c → K (.pointer (some q))) : oIdx P t v (.int ik i) K := by
  obtain ⟨hv, _, cs, hr, hc⟩ := r
  subst hk
  have hlt := (List.getElem?_eq_some_iff.1 hi).1
  have hlen := hc.len
  have hp := e.pos
  have hcl : 0 < cs.length := by
    rw [hlen]; exact Nat.mul_pos (by omega) hp
  obtain ⟨b, o, hq, hx⟩ := hr.resolve_left (by intro e; rw [e] at hcl; simp at hcl)
  rw [oIdx_sl hv (by rw [hq]; simp) h0 (by omega)]
  have h2 := (hr.drop (i.toNat * e.k)).take e.k
  rw [hq] at h2 ⊢
  exact hK _ _ (hc.get hi) h2
/-- The place of an element of a row of one's own. -/
theorem tPlR {t el : TypeId} {k : Nat} [Und P t (.slice el)] [Siz P el k] {e : En α} {F : Vw} {h : Heap} {L : List HP} {v : Value} {n : Nat} {cs : List Value} {l : List α} {i : Int} {a : α} {ik : IntKind} {K : Value → Prop}
    (j : Nat) (hL : L[j]? = some (Row k v n cs)) (s : Sf F h L) (hc : CL e F cs l) (hk : e.k = k) (h0 : 0 ≤ i) (hi : l[i.toNat]? = some a) (hK : K (padd (sbase v) (i.toNat * k))) : oIdx P t v (.int ik i) K := by
  obtain ⟨hv, hn, hr⟩ := (s.at j hL).row
  subst hk
  have hlt := (List.getElem?_eq_some_iff.1 hi).1
  have hlen := hc.len
  have hp := e.pos
  have hcl : 0 < cs.length := by
    rw [hlen]; exact Nat.mul_pos (by omega) hp
  have hn' : n = l.length := Nat.eq_of_mul_eq_mul_right hp (hn.symm.trans hlen)
  subst hn'
  exact (oIdx_sl hv (hr.nz hcl) h0 (by omega)).2 hK
/-- An element of a row of one's own is read. -/
theorem tLdR1 {t : TypeId} [IsA P t false] {e : En α} {F : Vw} {v q : Value} {n : Nat} {cs : List Value} {l : List α} {i : Nat} {a : α} {D : Heap → Prop} {K : Value → Prop}
    (hq : q = padd (sbase v) (i * 1)) (hd : ∀ h', D h' → ∃ L, St #[] h' (Row 1 v n cs :: L)) (hc : CL e F cs l) (hk : e.k = 1) (hi : l[i]? = some a) (hK : ∀ x, e.C F [x] a → K x) : oLoad P t q D K := by
  subst hq
  have hg := hc.get hi
  have hlt := (List.getElem?_eq_some_iff.1 hi).1
  have hlen := hc.len
  rw [hk, Nat.mul_one] at hg hlen
  obtain ⟨x, hx⟩ : ∃ x, cs[i]? = some x := ⟨_, List.getElem?_eq_getElem (by omega)⟩
  obtain ⟨h1, h2⟩ := List.getElem?_eq_some_iff.1 hx
  rw [List.drop_eq_getElem_cons h1, List.take_succ_cons, List.take_zero, h2] at hg
  refine oLoad1 (cs := cs) (j := i * 1) (fun h' h => (hd h' h).choose_spec.row.2.2) (by rw [Nat.mul_one]; exact hx) (hK x hg)
theorem tLdRA {t : TypeId} {k : Nat} [IsA P t true] [Siz P t k] {e : En α} {F : Vw} {v q : Value} {n : Nat} {cs : List Value} {l : List α} {i : Nat} {a : α} {D : Heap → Prop} {K : Value → Prop}
    (hq : q = padd (sbase v) (i * k)) (hd : ∀ h', D h' → ∃ L, St #[] h' (Row k v n cs :: L)) (hdd : ∃ h, D h) (hc : CL e F cs l) (hk : e.k = k) (hi : l[i]? = some a) (hK : ∀ c, e.C F c a → K (.agg c.toArray)) : oLoad P t q D K := by
  subst hq hk
  have hlt := (List.getElem?_eq_some_iff.1 hi).1
  have hlen := hc.len
  have hp := e.pos
  obtain ⟨h, hh⟩ := hdd
  have hle : i * e.k + e.k ≤ cs.length := by
    rw [hlen, ← Nat.succ_mul]; exact Nat.mul_le_mul_right _ hlt
  exact oLoadA (fun h' h => (hd h' h).choose_spec.row.2.2) ((hd h hh).choose_spec.row.2.2.ptr (by omega)) hle (hK _ (hc.get hi))
/-- An element of a row of one's own is stored. -/
theorem tStR {t : TypeId} {k : Nat} [Siz P t k] {e : En α} {F : Vw} {h : Heap} {L : List HP} {v q x : Value} {n : Nat} {cs vs : List Value} {l : List α} {i : Nat} {a : α} {K : Value → Heap → Prop}
    (j : Nat) (hL : L[j]? = some (Row k v n cs)) (s : Sf F h L) (hc : CL e F cs l) (hk : e.k = k) (hq : q = padd (sbase v) (i * k)) (hv : x.cells.toList = vs) (hx : e.C F vs a) (hi : i < l.length)
    (g : ∀ h' cs', CL e F cs' (l.set i a) → Sf F h' (L.set j (Row k v n cs')) → K undef h') : oStore P t q x h K := by
  subst hq hv hk
  have hlen := hc.len
  have hle : i * e.k + e.k ≤ cs.length := by
    rw [hlen, ← Nat.succ_mul]; exact Nat.mul_le_mul_right _ hi
  exact oStoreR (s.at j hL) (e.len hx) hle e.pos (e.ones hx) fun h' s' => g h' _ (hc.set hi hx) (Sf.back hL s')
/-- A part of a slice. -/
theorem sl_cut {t e : TypeId} {k : Nat} [u : Und P t (.slice e)] [Siz P e k] {v : Value} {n : Nat} {lo hi : Option Value} {l r : Nat} {K : Value → Prop} (hv : IsSl v n) (hlr : l ≤ r) (hr : r ≤ n)
    (hb : (lo = none ∧ l = 0 ∨ ∃ κ, lo = some (.int κ l)) ∧ (hi = none ∧ r = n ∨ ∃ κ, hi = some (.int κ r)))
    (hn0 : ∀ c, v = .slice none n c → n = 0) (hcap : ∀ a c, v = .slice a n c → n ≤ c)
    (g : ∀ v', IsSl v' (r - l) → CapOk v' → (l < r → sbase v' = padd (sbase v) (l * k)) → K v') : oSlice P t v lo hi none K := by
  have hel : P.underlying t = some (.slice (P.elem t)) := by
    have := u.eq
    rw [this]
    congr 1
    simp [Program.elem, this]
  have hel2 : P.elem t = e := by
    rw [u.eq] at hel
    simpa using hel.symm
  obtain ⟨a, c, rfl⟩ := hv
  have hc := hcap a c rfl
  refine ⟨sliced a l r c k, fun w => nv_run ?_, ?_⟩
  · rw [run_sliceAt_slice w t _ _ _ _ hel]
    obtain ⟨h1 | ⟨κ, h1⟩, h2 | ⟨κ', h2⟩⟩ := hb
    · obtain ⟨rfl, rfl⟩ := h1
      obtain ⟨rfl, rfl⟩ := h2
      rw [run_slice_all w t a r c hel, hel2, Siz.run]
      rfl
    · obtain ⟨rfl, rfl⟩ := h1
      subst h2
      rw [run_slice_h w t a n c hel κ' r (by omega) (by omega), hel2, Siz.run]
      simp
    · obtain ⟨rfl, rfl⟩ := h2
      subst h1
      rw [run_slice_l w t a r c hel κ l (by omega) (by omega), hel2, Siz.run]
      simp
    · subst h1 h2
      rw [run_slice_lh w t a n c hel κ κ' l r (by omega) (by omega) (by omega), hel2, Siz.run]
      simp
  · refine g _ ⟨_, _, rfl⟩ (by show r - l ≤ c - l; omega) fun hlt => ?_
    unfold sliced
    rw [if_neg (by omega)]
    cases a with
    | none => have := hn0 c rfl; omega
    | some a => rfl
/-- A part of a slice that is frozen. -/
theorem tCut {t el : TypeId} {k : Nat} [Und P t (.slice el)] [Siz P el k] {e : En α} {F : Vw} {v : Value} {l : List α} {lo hi : Option Value} {a b : Nat} {K : Value → Prop} (hk : e.k = k) (r : RL e F v l) (hab : a ≤ b) (hb : b ≤ l.length)
    (hlo : lo = none ∧ a = 0 ∨ ∃ κ, lo = some (.int κ a)) (hhi : hi = none ∧ b = l.length ∨ ∃ κ, hi = some (.int κ b)) (g : ∀ v', RL e F v' ((l.take b).drop a) → K v') : oSlice P t v lo hi none K := by
  obtain ⟨hv, hc, cs, hr, hcl⟩ := r
  subst hk
  have hn0 : ∀ c, v = .slice none l.length c → l.length = 0 := by
    rintro c rfl
    rcases hr with h | ⟨b, o, h, _⟩
    · have h2 := hcl.len
      rw [h] at h2
      have := Nat.mul_eq_zero.1 h2.symm
      have hp := e.pos
      omega
    · cases h
  have hll : ((l.take b).drop a).length = b - a := by rw [List.length_drop, List.length_take]; omega
  refine sl_cut (k := e.k) hv hab hb ⟨hlo, hhi⟩ hn0 (by rintro a c rfl; exact hc) fun v' h1 hc' h2 => g v' ⟨hll ▸ h1, hc', ?_⟩
  · have h3 := (hcl.take b).drop a
    refine ⟨_, ?_, h3⟩
    rcases Nat.lt_or_ge a b with hlt | hge
    · rw [h2 hlt]
      exact (hr.take _).drop _
    · have h4 := h3.len
      rw [hll, show b - a = 0 by omega, Nat.zero_mul] at h4
      rw [List.length_eq_zero_iff.1 h4]
      exact .nil _ _
theorem tCutL {t el : TypeId} {k : Nat} [Und P t (.slice el)] [Siz P el k] {e : En α} {F : Vw} {v : Value} {l r : List α} {lo hi : Option Value} {a b : Int} {K : Value → Prop} (hk : e.k = k) (hr : RL e F v l) (h0 : 0 ≤ a) (hab : a ≤ b) (hb : b ≤ l.length) (hrr : r = (l.take b.toNat).drop a.toNat)
    (hlo : lo = none ∧ a = 0 ∨ ∃ κ, lo = some (.int κ a)) (hhi : hi = none ∧ b = l.length ∨ ∃ κ, hi = some (.int κ b)) (g : ∀ v', RL e F v' r → K v') : oSlice P t v lo hi none K := by
  subst hrr
  have ha : (a.toNat : Int) = a := Int.toNat_of_nonneg h0
  have hb' : (b.toNat : Int) = b := Int.toNat_of_nonneg (by omega)
  refine tCut hk hr (by omega) (by omega) ?_ ?_ g
  · exact hlo.imp (fun h => ⟨h.1, by omega⟩) fun ⟨κ, h⟩ => ⟨κ, by rw [ha]; exact h⟩
  · exact hhi.imp (fun h => ⟨h.1, by omega⟩) fun ⟨κ, h⟩ => ⟨κ, by rw [hb']; exact h⟩
/-! ### Append, literals -/
theorem tApp {t el ty : TypeId} {k b : Nat} {z : Value} [Und P t (.slice el)] [Inf P el k b z] {e : En α} {F : Vw} {h : Heap} {L : List HP} {v x : Value} {n : Nat} {cs : List Value} {l m r : List α} {K : Value → Heap → Prop}
    (i : Nat) (hL : L[i]? = some (Row k v n cs)) (s : Sf F h L) (hc : CL e F cs l) (hk : e.k = k) (hz : z.cells.size = k) (hb0 : b ≤ 1000) (rx : RX e F (Eq h) x m) (hb : l.length + m.length ≤ 100000000000) (hr : r = l ++ m)
    (g : ∀ v' h' cs', CL e F cs' r → Sf F h' (L.set i (Row k v' r.length cs')) → K v' h') : oAppend P #[t, t] ty #[v, x] h K := by
  subst hr
  have hn : n = l.length := by
    have h1 := (s.at i hL).row.2.1
    rw [hc.len, ← hk] at h1
    exact (Nat.eq_of_mul_eq_mul_right e.pos h1).symm
  exact tAppend i hL s hn hc hk hz hb0 rx hb g
def prt (i : Nat) : List Value → List (Nat × Value)
  | [] => []
  | x :: xs => (i, x) :: prt (i + 1) xs
def cellsL (xs : List Value) : List Value := xs.flatMap fun x => x.cells.toList
theorem fill_step {k : Nat} {i : Nat} {v : Value} {c : Array Value} {rest : List (Nat × Value)} (hv : v.cells.size = k) (hle : i * k + k ≤ c.size) :
    Instr.fill (fun i => some (i * k, k)) c ((i, v) :: rest) = Instr.fill (fun i => some (i * k, k)) (setAt c.toList (i * k) v.cells.toList).toArray rest := by
  rw [Instr.fill]
  have h1 : ¬ (i * k + k > c.size) := by omega
  simp only [hv, ne_eq, not_true_eq_false, decide_false, h1, Bool.or_false, Bool.false_eq_true, if_false]
  have h2 : (v.cells.zipIdx.foldl (fun cs (p : Value × Nat) => cs.setIfInBounds (i * k + p.2) p.1) c) = (setAt c.toList (i * k) v.cells.toList).toArray := by
    have key2 : ∀ (l : List Value) (j : Nat) (c : Array Value), (l.zipIdx j).foldl (fun cs (p : Value × Nat) => cs.setIfInBounds (i * k + p.2) p.1) c = (setAt c.toList (i * k + j) l).toArray := by
      intro l
      induction l with
      | nil => intro j c; simp [setAt]
      | cons y l ih =>
        intro j c
        simp only [List.zipIdx_cons, List.foldl_cons, setAt]
        rw [ih]
        simp [Nat.add_assoc]
    rw [← Array.foldl_toList, Array.toList_zipIdx]
    exact key2 _ 0 c
  rw [h2]
theorem fill_prt {k : Nat} : ∀ (xs : List Value) (i : Nat) (pre post : List Value), (∀ x ∈ xs, x.cells.size = k) → pre.length = i * k → post.length = xs.length * k →
    Instr.fill (fun i => some (i * k, k)) (pre ++ post).toArray (prt i xs) = some (pre ++ cellsL xs).toArray
  | [], i, pre, post, _, _, h => by
    have : post = [] := by simpa using h
    simp [prt, Instr.fill, this, cellsL]
  | x :: xs, i, pre, post, hx, hp, h => by
    have h1 := hx x (by simp)
    simp only [List.length_cons, Nat.add_mul, Nat.one_mul] at h
    rw [prt, fill_step h1 (by simp; omega)]
    have hl : x.cells.toList.length = (post.take k).length := by rw [List.length_take, Array.length_toList, h1]; omega
    have h2 := setAt_in x.cells.toList pre (post.take k) (post.drop k) hl
    rw [List.take_append_drop, hp] at h2
    have h3 : (pre ++ post).toArray.toList = pre ++ post := by simp
    rw [h3, h2, ← List.append_assoc, fill_prt xs (i + 1) (pre ++ x.cells.toList) (post.drop k) (fun y hy => hx y (List.mem_cons_of_mem _ hy)) (by simp [h1, hp, Nat.add_mul]) (by simp; omega)]
    simp [cellsL]
/-- The values of a literal's elements. -/
def XL (e : En α) (F : Vw) : List Value → List α → Prop
  | [], [] => True
  | x :: xs, a :: l => e.C F x.cells.toList a ∧ XL e F xs l
  | _, _ => False
theorem XL.cl {e : En α} {F : Vw} : ∀ {xs : List Value} {l : List α}, XL e F xs l → CL e F (cellsL xs) l ∧ xs.length = l.length ∧ ∀ x ∈ xs, x.cells.size = e.k
  | [], [], _ => ⟨rfl, rfl, by simp⟩
  | x :: xs, a :: l, ⟨h, t⟩ => by
    obtain ⟨h1, h2, h3⟩ := t.cl
    refine ⟨⟨x.cells.toList, cellsL xs, by simp [cellsL], h, h1⟩, by simp [h2], ?_⟩
    intro y hy
    rcases List.mem_cons.1 hy with rfl | hy
    · have := e.len h
      simpa using this
    · exact h3 y hy
theorem cellsC {e : En α} {F : Vw} {v : Value} {n : Nat} {a : α} (hv : IsSl v n) (h : e.C F [v] a) : e.C F v.cells.toList a := by rw [hv.cells]; exact h
theorem tBuildN {t el : TypeId} {k b n : Nat} {z : Value} [Und P t (.slice el)] [Inf P el k b z] {e : En α} {F : Vw} {h : Heap} {L : List HP} {parts : Array (Nat × Value)} {l : List α} {K : Value → Heap → Prop} (s : Sf F h L) (xs : List Value) (hp : parts.toList = prt 0 xs) (hx : XL e F xs l) (hk : e.k = k) (hz : z.cells.size = k)
    (hn : n = l.length) (hb : l.length * k ≤ 16777216) (g : ∀ v h' cs, CL e F cs l → Sf F h' (Row k v l.length cs :: L) → K v h') : oBuildSlice P t n parts h K := by
  subst hn hk
  obtain ⟨h1, h2, h3⟩ := hx.cl
  intro w hw
  have hr : (Instr.buildSlice t l.length parts).run P w = .ok (.slice (some ⟨w.heap.size, 0, none⟩) l.length l.length) { w with heap := w.heap.push (.cells (cellsL xs).toArray el) } := by
    unfold Instr.buildSlice
    have h4 : ¬ (l.length * e.k > 2 ^ 24) := by omega
    simp only [Sem.run_bind, Und.run (P := P) (t := t), Result.andThen_ok, Inf.siz (P := P) (t := el), if_neg h4, pure_bind, Sem.run_pure]
    rcases Nat.eq_zero_or_pos l.length with h0 | h0
    · have hl : l = [] := List.length_eq_zero_iff.1 h0
      subst hl
      have hxs : xs = [] := List.length_eq_zero_iff.1 (by simpa using h2)
      subst hxs
      have e0 : ∀ f : Nat → Value, (Array.range 0).map f = #[] := fun f => Array.eq_empty_of_size_eq_zero (by simp)
      simp [hp, prt, Instr.fill, cellsL, newRow, newObj, Sem.run, e0]
    · have h5 : ¬ (l.length * e.k = 0) := by
        have := e.pos
        intro h6
        rcases Nat.mul_eq_zero.1 h6 with h | h <;> omega
      simp only [if_neg h5, Sem.run_bind, Inf.zer (P := P) (t := el), Result.andThen_ok, Sem.run_pure]
      have h6 := fill_prt (k := e.k) xs 0 [] ((Array.range (l.length * e.k)).map (z.cells[· % z.cells.size]!)).toList h3 (by simp) (by simp [h2])
      rw [List.nil_append, Array.toArray_toList, List.nil_append] at h6
      rw [hp, h6]
      simp [newRow, newObj, Sem.run]
  rw [nv_run hr]
  refine ⟨⟨rfl, rfl, rfl, fun _ => Nat.le_refl _⟩, ?_⟩
  rw [hw]
  have hcl := h1.len
  refine g _ _ _ h1 (.put ?_)
  have s2 := St.push s (cellsL xs) el
  refine St.imp s2 fun S hS => ⟨hcl, .inr ⟨⟨h.size, 0, none⟩, l.length, [], rfl, Nat.le_refl _, by simp, ?_⟩⟩
  rw [List.append_nil]
  exact hS
/-! ### Ways -/
theorem cond_tt {b : Bool} {A B : Prop} (h : b = true) : cond (.bool b) A B ↔ A := by rw [h]; exact cond_t
theorem cond_ff {b : Bool} {A B : Prop} (h : ¬ b = true) : cond (.bool b) A B ↔ B := by rw [Bool.not_eq_true] at h; rw [h]; exact cond_f
theorem cond_npos {p : Prop} [Decidable p] {A B : Prop} (h : p) : cond (.bool (!decide p)) A B ↔ B := by simp only [h, decide_true, Bool.not_true]; exact cond_f
theorem cond_nneg {p : Prop} [Decidable p] {A B : Prop} (h : ¬ p) : cond (.bool (!decide p)) A B ↔ A := by simp only [h, decide_false, Bool.not_false]; exact cond_t
theorem oPick_hc {b : Bool} {x y : Value} {K : Value → Prop} (h : b = true) (k : K x) : oPick P (.bool b) x y K := by rw [h]; exact oPick_bool.2 k
theorem oPick_hn {b : Bool} {x y : Value} {K : Value → Prop} (h : ¬ b = true) (k : K y) : oPick P (.bool b) x y K := by rw [Bool.not_eq_true] at h; rw [h]; exact oPick_bool.2 k
theorem oPick_dc {p : Prop} [Decidable p] {x y : Value} {K : Value → Prop} (h : p) (k : K x) : oPick P (.bool (decide p)) x y K := oPick_hc (by simpa using h) k
theorem oPick_dn {p : Prop} [Decidable p] {x y : Value} {K : Value → Prop} (h : ¬ p) (k : K y) : oPick P (.bool (decide p)) x y K := oPick_hn (by simpa using h) k
theorem oPick_nc {p : Prop} [Decidable p] {x y : Value} {K : Value → Prop} (h : ¬ p) (k : K x) : oPick P (.bool (!decide p)) x y K := oPick_hc (by simpa using h) k
theorem oPick_nn {p : Prop} [Decidable p] {x y : Value} {K : Value → Prop} (h : p) (k : K y) : oPick P (.bool (!decide p)) x y K := oPick_hn (by simpa using h) k
theorem oPick_bb {c a b : Bool} {K : Value → Prop} (k : K (.bool (Pl.pick c a b))) : oPick P (.bool c) (.bool a) (.bool b) K := by
  refine oPick_bool.2 ?_
  unfold Pl.pick at k
  cases c <;> exact k
/-! ### Numbers -/
theorem oMin_int {ats : Array TypeId} {t : TypeId} {k : IntKind} {a b : Int} {K : Value → Prop} : oMin P ats t #[.int k a, .int k b] K ↔ K (.int k (min a b)) := by
  have e : (if b < a then b else a) = min a b := by rw [Int.min_def]; split <;> split <;> omega
  rw [← e]
  exact Sp.iff fun w => by simp [Builtin.min_, Builtin.min2]
theorem oMax_int {ats : Array TypeId} {t : TypeId} {k : IntKind} {a b : Int} {K : Value → Prop} : oMax P ats t #[.int k a, .int k b] K ↔ K (.int k (max a b)) := by
  have e : (if b > a then b else a) = max a b := by rw [Int.max_def]; split <;> split <;> omega
  rw [← e]
  exact Sp.iff fun w => by simp [Builtin.max_, Builtin.max2]
theorem oBin_and {t : TypeId} {x y : Operand} {k : IntKind} {a b : Int} {K : Value → Prop} : oBin P .and t x y (.int k a) (.int k b) K ↔ K (.int k (Pl.band k a b)) :=
  oBin_int fun w => by simp [binOp, Op.intBits, Pl.band]
theorem oBin_or {t : TypeId} {x y : Operand} {k : IntKind} {a b : Int} {K : Value → Prop} : oBin P .or t x y (.int k a) (.int k b) K ↔ K (.int k (Pl.bor k a b)) :=
  oBin_int fun w => by simp [binOp, Op.intBits, Pl.bor]
theorem oBin_xor {t : TypeId} {x y : Operand} {k : IntKind} {a b : Int} {K : Value → Prop} : oBin P .xor t x y (.int k a) (.int k b) K ↔ K (.int k (Pl.bxor k a b)) :=
  oBin_int fun w => by simp [binOp, Op.intBits, Pl.bxor]
theorem oBin_sh {op : BinOp} {t : TypeId} {x y : Operand} {k k' : IntKind} {a b : Int} {v : Value} {K : Value → Prop} (hop : op = .shl ∨ op = .shr)
    (hr : ∀ w, (Op.shift op k a k' b).run P w = .ok v w) : oBin P op t x y (.int k a) (.int k' b) K ↔ K v := by
  refine Sp.iff fun w => ?_
  have : (eqGuard op t x y (.int k a) (.int k' b)).run P w = .ok () w := by rcases hop with rfl | rfl <;> simp [eqGuard]
  have h2 : (binOp op t (.int k a) (.int k' b)) = Op.shift op k a k' b := by rcases hop with rfl | rfl <;> rfl
  simp [this, h2, hr]
theorem oBin_shl {t : TypeId} {x y : Operand} {k k' : IntKind} {a b : Int} {K : Value → Prop} (hb : 0 ≤ b) : oBin P .shl t x y (.int k a) (.int k' b) K ↔ K (.int k (Pl.shl k a b)) :=
  oBin_sh (.inl rfl) fun w => by simp [Op.shift, Pl.shl, show ¬ b < 0 by omega]
theorem oBin_shr {t : TypeId} {x y : Operand} {k k' : IntKind} {a b : Int} {K : Value → Prop} (hb : 0 ≤ b) : oBin P .shr t x y (.int k a) (.int k' b) K ↔ K (.int k (Pl.shr k a b)) :=
  oBin_sh (.inr rfl) fun w => by simp [Op.shift, Pl.shr, show ¬ b < 0 by omega]
/-! ### Strings -/
theorem oBin_str_lss {t : TypeId} {x y : Operand} {a b : Str} {K : Value → Prop} : oBin P .lss t x y (str a) (str b) K ↔ K (.bool (Pl.slss a b)) :=
  oBin_str fun w => by simp [Op.stringOp, Pl.slss, toList_mk]
theorem oBin_str_leq {t : TypeId} {x y : Operand} {a b : Str} {K : Value → Prop} : oBin P .leq t x y (str a) (str b) K ↔ K (.bool (Pl.sleq a b)) :=
  oBin_str fun w => by
    have : (a == b) = decide (a = b) := by rw [Bool.eq_iff_iff]; simp
    simp [Op.stringOp, Pl.sleq, toList_mk, this]
theorem oBin_str_gtr {t : TypeId} {x y : Operand} {a b : Str} {K : Value → Prop} : oBin P .gtr t x y (str a) (str b) K ↔ K (.bool (Pl.sgtr a b)) :=
  oBin_str fun w => by
    have : (a == b) = decide (a = b) := by rw [Bool.eq_iff_iff]; simp
    simp [Op.stringOp, Pl.sgtr, toList_mk, this]
theorem oBin_str_geq {t : TypeId} {x y : Operand} {a b : Str} {K : Value → Prop} : oBin P .geq t x y (str a) (str b) K ↔ K (.bool (Pl.sgeq a b)) :=
  oBin_str fun w => by simp [Op.stringOp, Pl.sgeq, toList_mk]
theorem oBin_str_add {t : TypeId} {x y : Operand} {a b : Str} {K : Value → Prop} (hb : a.length + b.length ≤ 100000000000) : oBin P .add t x y (str a) (str b) K ↔ K (str (a ++ b)) :=
  oBin_str fun w => by
    have h1 : ¬ (((a.length + b.length : Nat) : Int) > IntKind.i64.max) := by
      have : IntKind.i64.max = 9223372036854775807 := by decide
      omega
    have h2 : (⟨a.toArray⟩ : ByteArray) ++ ⟨b.toArray⟩ = ⟨(a ++ b).toArray⟩ := by
      apply ByteArray.ext; simp
    have h3 : (⟨a.toArray⟩ : ByteArray).size = a.length := by simp [ByteArray.size]
    have h4 : (⟨b.toArray⟩ : ByteArray).size = b.length := by simp [ByteArray.size]
    simp only [Op.stringOp, h3, h4, if_neg h1, h2, str]
    rfl
theorem run_slice_str {t : TypeId} (ht : P.underlying t = some .string) (w : World) (s : Str) {lo hi : Option Value} {a b : Nat} (hab : a ≤ b) (hb : b ≤ s.length)
    (hlo : lo = none ∧ a = 0 ∨ ∃ κ, lo = some (.int κ a)) (hhi : hi = none ∧ b = s.length ∨ ∃ κ, hi = some (.int κ b)) :
    (Instr.slice t (str s) lo hi none).run P w = .ok (str ((s.take b).drop a)) w := by
  have he : ∀ (a b : Nat), a ≤ b → b ≤ s.length → (⟨s.toArray⟩ : ByteArray).extract a b = ⟨((s.take b).drop a).toArray⟩ := by
    intro a b h1 h2
    apply ByteArray.ext
    simp [ByteArray.data_extract, List.extract_eq_take_drop, List.drop_take]
  have hs : (⟨s.toArray⟩ : ByteArray).size = s.length := by simp [ByteArray.size]
  have h1 : ¬ ((a : Int) < 0) := by omega
  rcases hlo with ⟨rfl, rfl⟩ | ⟨κ, rfl⟩ <;> rcases hhi with ⟨rfl, rfl⟩ | ⟨κ', rfl⟩ <;>
    simp [str, Instr.slice, run_underlying ht, Instr.sliceBounds, Instr.sliceBound, asIntOf, hs, he, hab, hb]
theorem tCutS {t : TypeId} [u : Und P t .string] {s r : Str} {lo hi : Option Value} {a b : Int} {K : Value → Prop} (h0 : 0 ≤ a) (hab : a ≤ b) (hb : b ≤ s.length) (hrr : r = (s.take b.toNat).drop a.toNat)
    (hlo : lo = none ∧ a = 0 ∨ ∃ κ, lo = some (.int κ a)) (hhi : hi = none ∧ b = s.length ∨ ∃ κ, hi = some (.int κ b)) (g : K (str r)) : oSlice P t (str s) lo hi none K := by
  subst hrr
  have ha : (a.toNat : Int) = a := Int.toNat_of_nonneg h0
  have hb' : (b.toNat : Int) = b := Int.toNat_of_nonneg (by omega)
  refine ⟨_, fun w => nv_run ?_, g⟩
  rw [run_sliceAt_string w t _ _ _ _ u.eq]
  refine run_slice_str u.eq w s (by omega) (by omega) ?_ ?_
  · exact hlo.imp (fun h => ⟨h.1, by omega⟩) fun ⟨κ, h⟩ => ⟨κ, by rw [ha]; exact h⟩
  · exact hhi.imp (fun h => ⟨h.1, by omega⟩) fun ⟨κ, h⟩ => ⟨κ, by rw [hb']; exact h⟩
theorem bytes_eq (s : Str) : bytesV s = (Pl.bytes s).map fun z => .int .u8 z := by simp [bytesV, Pl.bytes]
theorem cl_bytes (F : Vw) : ∀ s : List Int, CL (eI .u8) F (s.map fun z => .int .u8 z) s
  | [] => rfl
  | z :: s => ⟨[.int .u8 z], _, rfl, rfl, cl_bytes F s⟩
end Go.Sh
namespace Go.Sh
variable {α : Type} [Gd] {P : Program}
def Capd (v : Value) : Prop := ∀ a n c, v = .slice a n c → n = c
/-- Append to what is read, without room. -/
theorem tAppCap {t el ty : TypeId} {k b : Nat} {z : Value} [Und P t (.slice el)] [u : Inf P el k b z] {e : En α} {F : Vw} {h : Heap} {L : List HP} {v x : Value} {l m r : List α} {K : Value → Heap → Prop}
    (s : Sf F h L) (rv : RL e F v l) (hcd : Capd v) (hk : e.k = k) (hz : z.cells.size = k) (hb0 : b ≤ 1000) (rx : RX e F (Eq h) x m) (hm : m ≠ []) (hb : l.length + m.length ≤ 100000000000) (hr : r = l ++ m)
    (g : ∀ v' h' cs', CL e F cs' r → Sf F h' (Row k v' r.length cs' :: L) → K v' h') : oAppend P #[t, t] ty #[v, x] h K := by
  subst hr hk
  obtain ⟨⟨a, c, rfl⟩, hcap, cs, hrd, hcl⟩ := rv
  have hc : l.length = c := hcd _ _ _ rfl
  subst hc
  obtain ⟨hx, xs, hxr, hxc⟩ := rx
  have hml : 0 < m.length := List.length_pos_iff.2 hm
  intro w hw
  obtain ⟨i, hi, hk', hbb, hzz⟩ := u.info
  obtain ⟨xa, xc, rfl⟩ := hx
  have hxl := hxc.len
  have hxn : 0 < xs.length := by rw [hxl]; exact Nat.mul_pos hml e.pos
  obtain ⟨bx, ox, hpx, hxx⟩ := (hxr h rfl).resolve_left (by intro e; rw [e] at hxn; simp at hxn)
  have hxa : xa = some ⟨bx, ox, none⟩ := by simpa [sbase] using hpx
  subst hxa
  have hnews : ∀ j y, xs[j]? = some y → w.cell? ((⟨bx, ox, none⟩ : Addr).add j) = some y := fun j y hy => by
    rw [cell?_eq, hw, Addr.add_none]; exact hxx j y hy
  have hbb' : (l.length + m.length) * b ≤ 140737488355328 := Nat.le_trans (Nat.mul_le_mul hb hb0) (by decide)
  have fin : ∀ (w' : World) (cap : Nat), (Builtin.append_ #[t, t] ty #[.slice a l.length l.length, .slice (some ⟨bx, ox, none⟩) m.length xc]).run P w = .ok (.slice (some ⟨w.heap.size, 0, none⟩) (l.length + m.length) cap) w' →
      SameW w w' → l.length + m.length ≤ cap → w'.heap = w.heap.push (.cells ((cs ++ xs) ++ (Builtin.zeroCells z.cells (cap - (l.length + m.length))).toList).toArray el) →
      NextOk P K w ((nv (Builtin.append_ #[t, t] ty #[.slice a l.length l.length, .slice (some ⟨bx, ox, none⟩) m.length xc])).run P w) := by
    intro w' cap hrun hs hcap hh
    rw [nv_run hrun]
    refine ⟨hs, ?_⟩
    rw [hh, hw]
    have h1 := hcl.append hxc
    refine g _ _ _ h1 (.put ?_)
    have s2 := St.push s ((cs ++ xs) ++ (Builtin.zeroCells z.cells (cap - (l.length + m.length))).toList) el
    rw [List.length_append]
    exact St.rowShut s2 hcap (by rw [Array.length_toList, zeroCells_size, hz]) (by rw [List.length_append, hcl.len, hxl, Nat.add_mul])
  rcases Nat.eq_zero_or_pos l.length with h0 | h0
  · have hl : l = [] := List.length_eq_zero_iff.1 h0
    subst hl
    have hcs : cs = [] := hcl
    subst hcs
    cases a with
    | none =>
      have hr1 := run_append_nil (P := P) w t ty el i z Und.eq hi hzz ⟨bx, ox, none⟩ m.length xc xs (by rw [hk']; exact hxl) hnews hml (by omega) (by rw [hbb]; simp only [List.length_nil, Nat.zero_add] at hbb'; omega)
      refine fin (w.drew.alloc (.cells (xs.toArray ++ Builtin.zeroCells z.cells (grownCap w m.length 0 el - m.length)) el)) (grownCap w m.length 0 el) (by simpa using hr1) ⟨rfl, rfl, rfl, fun _ => Nat.le_succ _⟩ (by simpa using grownCap_ge w m.length 0 el) ?_
      show w.heap.push _ = _
      congr 2
      apply Array.ext'; simp
    | some a =>
      have hr1 := run_append_grow (P := P) w t ty el i z Und.eq hi hzz a 0 0 [] (by simp) (by simp) ⟨bx, ox, none⟩ m.length xc xs (by rw [hk']; exact hxl) hnews (by omega) (by omega) (growslice_fits (by omega) (by rw [hbb]; simpa using hbb'))
      refine fin (w.drew.alloc (.cells (#[] ++ xs.toArray ++ Builtin.zeroCells z.cells (grownCap w (0 + m.length) 0 el - (0 + m.length))) el)) (grownCap w (0 + m.length) 0 el) (by simpa using hr1) ⟨rfl, rfl, rfl, fun _ => Nat.le_succ _⟩ (by simpa using grownCap_ge w (0 + m.length) 0 el) ?_
      show w.heap.push _ = _
      congr 2
      apply Array.ext'; simp
  · obtain ⟨ba, oa, hpa, haa⟩ := hrd.resolve_left (by
      intro e1
      have := hcl.len
      rw [e1] at this
      rcases Nat.mul_eq_zero.1 this.symm with h | h
      · omega
      · have := e.pos; omega)
    have haa' : a = some ⟨ba, oa, none⟩ := by simpa [sbase] using hpa
    subst haa'
    have holds : ∀ j y, cs[j]? = some y → w.cell? ((⟨ba, oa, none⟩ : Addr).add j) = some y := fun j y hy => by
      rw [cell?_eq, hw, Addr.add_none]; exact cellV_fit s.fit (haa j y hy)
    have hr1 := run_append_grow (P := P) w t ty el i z Und.eq hi hzz ⟨ba, oa, none⟩ l.length l.length cs (by rw [hk']; exact hcl.len) holds ⟨bx, ox, none⟩ m.length xc xs (by rw [hk']; exact hxl) hnews (by omega) (by omega) (growslice_fits (by omega) (by rw [hbb]; exact hbb'))
    refine fin _ _ hr1 ⟨rfl, rfl, rfl, fun _ => Nat.le_succ _⟩ (grownCap_ge w _ _ el) ?_
    show w.heap.push _ = _
    congr 2
    apply Array.ext'; simp
/-- A part of a slice with its own end as capacity. -/
theorem tCutM {t el : TypeId} {k : Nat} [u : Und P t (.slice el)] [Siz P el k] {e : En α} {F : Vw} {v : Value} {l r : List α} {lo : Option Value} {κ κ' : IntKind} {a b : Int} {K : Value → Prop} (hk : e.k = k) (hr : RL e F v l) (h0 : 0 ≤ a) (hab : a ≤ b) (hb : b ≤ l.length) (hrr : r = (l.take b.toNat).drop a.toNat)
    (hlo : lo = none ∧ a = 0 ∨ ∃ κ, lo = some (.int κ a)) (g : ∀ v', RL e F v' r → Capd v' → K v') : oSlice P t v lo (some (.int κ b)) (some (.int κ' b)) K := by
  subst hrr hk
  obtain ⟨A, hA⟩ : ∃ n : Nat, a = n := ⟨a.toNat, by omega⟩
  obtain ⟨B, hB⟩ : ∃ n : Nat, b = n := ⟨b.toNat, by omega⟩
  subst hA hB
  simp only [Int.toNat_natCast] at *
  obtain ⟨⟨ba, c, rfl⟩, hc, cs, hrd, hcl⟩ := hr
  have hel : P.underlying t = some (.slice (P.elem t)) := by
    have := u.eq
    rw [this]
    congr 1
    simp [Program.elem, this]
  have hel2 : P.elem t = el := by
    rw [u.eq] at hel
    simpa using hel.symm
  have hc' : l.length ≤ c := hc
  refine ⟨sliced ba A B B e.k, fun w => nv_run ?_, g _ ?_ ?_⟩
  · rw [run_sliceAt_slice w t _ _ _ _ hel, run_slice_any w t ba l.length c hel, hel2]
    have hbd : (Instr.sliceBounds true l.length c lo (some (.int κ B)) (some (.int κ' B))).run P w = .ok (A, B, B) w := by
      rcases hlo with ⟨rfl, h⟩ | ⟨κ2, rfl⟩
      · have : A = 0 := by omega
        subst this
        simp [Instr.sliceBounds, Instr.sliceBound, asIntOf, show B ≤ c by omega]
      · simp [Instr.sliceBounds, Instr.sliceBound, asIntOf, show B ≤ c by omega, show A ≤ B by omega]
    rw [hbd]
    simp only [Result.andThen_ok, Siz.run]
  · have hll : ((l.take B).drop A).length = B - A := by rw [List.length_drop, List.length_take]; omega
    refine ⟨⟨_, _, by rw [hll]; rfl⟩, Nat.le_refl _, _, ?_, (hcl.take B).drop A⟩
    rcases Nat.lt_or_ge A B with hlt | hge
    · unfold sliced
      rw [if_neg (by omega)]
      cases ba with
      | none =>
        rcases hrd with h | ⟨b, o, h, _⟩
        · have h2 := hcl.len
          rw [h] at h2
          have := Nat.mul_eq_zero.1 h2.symm
          have hp := e.pos
          omega
        · cases h
      | some q => exact (hrd.take _).drop _
    · have h4 := ((hcl.take B).drop A).len
      rw [hll, show B - A = 0 by omega, Nat.zero_mul] at h4
      rw [List.length_eq_zero_iff.1 h4]
      exact .nil _ _
  · intro a' n' c' h'
    unfold sliced at h'
    simp only [Value.slice.injEq] at h'
    omega
/-- Append of a string's bytes to a row of one's own. -/
theorem tAppStr {t tx el ty : TypeId} {b : Nat} {z : Value} [Und P t (.slice el)] [Und P tx .string] [u : Inf P el 1 b z] {F : Vw} {h : Heap} {L : List HP} {v : Value} {n : Nat} {cs : List Value} {l r : List Int} {x : Str} {K : Value → Heap → Prop}
    (i : Nat) (hL : L[i]? = some (Row 1 v n cs)) (s : Sf F h L) (hc : CL (eI .u8) F cs l) (hz : z.cells.size = 1) (hb0 : b ≤ 1000) (hb : l.length + (Pl.bytes x).length ≤ 100000000000) (hr : r = l ++ Pl.bytes x)
    (g : ∀ v' h' cs', CL (eI .u8) F cs' r → Sf F h' (L.set i (Row 1 v' r.length cs')) → K v' h') : oAppend P #[t, tx] ty #[v, str x] h K := by
  subst hr
  have hxl : (Pl.bytes x).length = x.length := by simp [Pl.bytes]
  have hrow := (s.at i hL).row
  have hn : n = l.length := by
    have h1 := hrow.2.1
    rw [hc.len] at h1
    exact (Nat.eq_of_mul_eq_mul_right (by decide) h1).symm
  subst hn
  have hbb' : (l.length + x.length) * b ≤ 140737488355328 := by rw [← hxl]; exact Nat.le_trans (Nat.mul_le_mul hb hb0) (by decide)
  have h1 : CL (eI .u8) F (cs ++ bytesV x) (l ++ Pl.bytes x) := hc.append (by rw [bytes_eq]; exact cl_bytes F _)
  have hfst : ∀ w : World, (Builtin.firstCells 1 x.length (str x)).run P w = .ok (bytesV x).toArray w := fun w => by
    have he : (⟨x.toArray⟩ : ByteArray).extract 0 x.length = ⟨x.toArray⟩ := by
      apply ByteArray.ext
      simp [ByteArray.data_extract, List.extract_eq_take_drop]
    simp [Builtin.firstCells, str, he, bytesV]
  have hxs : (⟨x.toArray⟩ : ByteArray).size = x.length := by simp [ByteArray.size]
  intro w hw
  obtain ⟨inf, hi, hk, hbb, hzz⟩ := u.info
  obtain ⟨hE, S, ⟨hcl, hown⟩, hS, hLs⟩ := id (s.at i hL)
  have fin : ∀ v' w', (Builtin.append_ #[t, tx] ty #[v, str x]).run P w = .ok v' w' → SameW w w' → St #[] w'.heap (Row 1 v' (l.length + x.length) (cs ++ bytesV x) :: Frz F :: L.eraseIdx i) → NextOk P K w ((nv (Builtin.append_ #[t, tx] ty #[v, str x])).run P w) := by
    intro v' w' hrun hs hst
    rw [nv_run hrun]
    refine ⟨hs, g _ _ _ h1 ?_⟩
    rw [List.length_append, hxl]
    exact Sf.back hL hst
  have hcs1 : cs.length = l.length := by have := hc.len; simpa [eI] using this
  have hbl : (bytesV x).length = x.length := by simp [bytesV]
  have hones : ∀ y ∈ bytesV x, one y = true := fun y hy => by
    simp only [bytesV, List.mem_map] at hy
    obtain ⟨c, _, rfl⟩ := hy; rfl
  by_cases hroom : ∃ a cap post, v = .slice (some a) l.length cap ∧ l.length + x.length ≤ cap ∧ post.length = (cap - l.length) * 1 ∧ (Cells (.pointer (some a)) (cs ++ post)).own h S
  · obtain ⟨a, cap, post, rfl, hfit, hpost, hcc⟩ := hroom
    obtain ⟨bb, o, T, lc, hp, hbk, hSb, hrun, hown'⟩ := Cells.set (P := P) hcc (fun b hb => (hS b hb).2) cs.length (bytesV x) (by simp [hbl]; omega) hones
    have ha : a.add (l.length * 1) = ⟨bb, o, none⟩ := by
      rw [hcs1] at hp
      simpa [padd] using hp
    have hr1 : (Builtin.append_ #[t, tx] ty #[.slice (some a) l.length cap, str x]).run P w = .ok (.slice (some a) (l.length + x.length) cap) { w with heap := setB h bb (.cells (setAt lc.toList o (bytesV x)).toArray T (0, 0)) } := by
      have h2 := hrun w hw
      have h3 := hfst w
      simp only [str] at h3
      simp [Builtin.append_, str, run_underlying (Und.eq (P := P) (t := t)), run_underlying (Und.eq (P := P) (t := tx)), sizeOf, typeInfo, hi, hk, Builtin.lenOf, hxs, hfit, h3]
      rw [Nat.mul_one] at ha
      rw [ha]
      simp [h2]
    refine fin _ _ hr1 ⟨rfl, rfl, rfl, fun _ => Nat.le_refl _⟩ ?_
    have hst : St #[] (setB h bb (.cells (setAt lc.toList o (bytesV x)).toArray T (0, 0))) (Cells (.pointer (some a)) (setAt (cs ++ post) cs.length (bytesV x)) :: Frz F :: L.eraseIdx i) := by
      refine St.step (A := Cells (.pointer (some a)) (cs ++ post)) ⟨hE, S, hcc, hS, hLs⟩ fun S' hA' hS' => ?_
      obtain ⟨b', o', T', l', hp', hb', hSb', _, hown2⟩ := Cells.set (P := P) hA' (fun b hb => (hS' b hb).2) cs.length (bytesV x) (by simp [hbl]; omega) hones
      rw [hp] at hp'
      simp only [Value.pointer.injEq, Option.some.injEq, Addr.mk.injEq, and_true] at hp'
      obtain ⟨rfl, rfl⟩ := hp'
      rw [hbk] at hb'
      simp only [Option.some.injEq, Obj.cells.injEq, and_true] at hb'
      obtain ⟨rfl, rfl⟩ := hb'
      exact ⟨by rw [setB_size]; exact Nat.le_refl _, fun i _ hi => setB_ne (fun e => hi (e ▸ hSb')), S', hown2, fun i hi => .inl hi⟩
    rw [setAt_append (bytesV x) cs post (by omega)] at hst
    exact hst.rowShut hfit (by rw [List.length_drop, hpost, hbl]; omega) (by rw [List.length_append, hcs1, hbl, Nat.mul_one])
  · rcases Nat.eq_zero_or_pos x.length with h0 | h0
    · have hx0 : x = [] := List.length_eq_zero_iff.1 h0
      subst hx0
      rcases hown with ⟨rfl, hl0⟩ | ⟨a, cap, post, rfl, h2, h3, h4⟩
      · have hr1 : (Builtin.append_ #[t, tx] ty #[.slice none 0 0, str []]).run P w = .ok (.slice none 0 0) w := by
          simp [Builtin.append_, str, run_underlying (Und.eq (P := P) (t := t)), run_underlying (Und.eq (P := P) (t := tx)), sizeOf, typeInfo, hi, hk, Builtin.lenOf, Builtin.firstCells, ByteArray.size]
        refine fin _ _ hr1 ⟨rfl, rfl, rfl, fun _ => Nat.le_refl _⟩ ?_
        rw [hw]
        have hcs0 : cs = [] := by
          rw [hl0] at hcs1; exact List.length_eq_zero_iff.1 hcs1
        subst hcs0
        simpa [bytesV, hl0] using s.at i hL
      · exact absurd ⟨a, cap, post, rfl, by simpa using h2, h3, h4⟩ hroom
    · -- it grows
      have hgrow : ∃ (b0 : Option Addr) (cap : Nat) (olds : List Value), v = .slice b0 l.length cap ∧ olds = cs ∧ cap < l.length + x.length ∧ l.length ≤ cap ∧ (Builtin.firstCells 1 l.length v).run P w.drew = .ok cs.toArray w.drew := by
        rcases hown with ⟨rfl, hl0⟩ | ⟨a, cap, post, rfl, h2, h3, h4⟩
        · refine ⟨none, 0, cs, by rw [hl0], rfl, by omega, by omega, ?_⟩
          have hcs0 : cs = [] := by
            rw [hl0] at hcs1; exact List.length_eq_zero_iff.1 hcs1
          subst hcs0
          simp [Builtin.firstCells]
        · refine ⟨some a, cap, cs, rfl, rfl, ?_, h2, ?_⟩
          · rcases Nat.lt_or_ge cap (l.length + x.length) with h | h
            · exact h
            · exact absurd ⟨a, cap, post, rfl, h, h3, h4⟩ hroom
          · refine run_first (w := w.drew) (x := .slice (some a) l.length cap) ⟨_, _, rfl⟩ (by rw [hcs1, Nat.mul_one]) ?_
            have hrd := (Cells.rd h4).take cs.length
            rw [List.take_left] at hrd
            show Rd w.drew.heap _ _
            rw [show w.drew.heap = h from hw]
            exact hrd
      obtain ⟨b0, cap, olds, rfl, rfl, hlt, hle, hfo⟩ := hgrow
      have hfit := growslice_fits hlt hbb'
      have hr1 : (Builtin.append_ #[t, tx] ty #[.slice b0 l.length cap, str x]).run P w =
          .ok (.slice (some ⟨w.heap.size, 0, none⟩) (l.length + x.length) (grownCap w (l.length + x.length) cap el))
            (w.drew.alloc (.cells (olds ++ bytesV x ++ (Builtin.zeroCells z.cells (grownCap w (l.length + x.length) cap el - (l.length + x.length))).toList).toArray el)) := by
        have hn : ¬ (l.length + x.length ≤ cap) := by omega
        have h63' : ¬ (9223372036854775807 < ((l.length : Int) + (x.length : Int))) := by omega
        have h48' : ¬ (281474976710656 < Builtin.nextslicecap (l.length + x.length) cap * b) := by omega
        have h3 := hfst w.drew
        simp only [str] at h3
        simp [Builtin.append_, str, run_underlying (Und.eq (P := P) (t := t)), run_underlying (Und.eq (P := P) (t := tx)), sizeOf, typeInfo, zeroValue, hi, hk, hbb, hzz, Builtin.lenOf, hxs, hn, h63', h48', Question.forced, h3, hfo, newRow, grownCap]
        congr 2
        apply Array.ext'
        simp [List.append_assoc]
      refine fin _ _ hr1 ⟨rfl, rfl, rfl, fun _ => Nat.le_succ _⟩ ?_
      show St #[] (w.heap.push _) _
      rw [hw]
      have s2 := St.push (s.at i hL).drop (olds ++ bytesV x ++ (Builtin.zeroCells z.cells (grownCap w (l.length + x.length) cap el - (l.length + x.length))).toList) el
      exact s2.rowShut (grownCap_ge w _ _ el) (by rw [Array.length_toList, zeroCells_size, hz]) (by rw [List.length_append, hcs1, hbl, Nat.mul_one])
/-- Is a slice nil? -/
theorem RL.nilLen {e : En α} {F : Vw} {v : Value} {l : List α} (r : RL e F v l) : IsSl v l.length ∧ ∀ c, v = .slice none l.length c → l.length = 0 := by
  refine ⟨r.1, ?_⟩
  rintro c rfl
  obtain ⟨_, hc, cs, hr, hcl⟩ := r
  rcases hr with h | ⟨b, o, h, _⟩
  · have h2 := hcl.len
    rw [h] at h2
    have := Nat.mul_eq_zero.1 h2.symm
    have hp := e.pos
    omega
  · cases h
end Go.Sh
namespace Go.Sh
theorem mk_ovr1 {n : Nat} {f : Nat → Value} {l : List (Nat × Value)} (ha : agree l f) : mk n f = mk n (ovr l f) := mk_ovr ha
abbrev Vals := Nat → Option Value
def setm (m : Vals) (i : Nat) (v : Value) : Vals := fun j => if j = i then some v else m j
theorem setm_eq (m : Vals) (i : Nat) (v : Value) : setm m i v i = some v := by simp [setm]
theorem setm_ne {m : Vals} {i j : Nat} {v : Value} (h : j ≠ i) : setm m i v j = m j := by simp [setm, h]
/-- The frame: of operations that are done their values; else as it was. -/
structure Agr (ops : Array Oper) (f0 : Nat → Value) (m : Vals) (f : Nat → Value) : Prop where
  done : ∀ (j : Nat) (o : Oper) (d : Nat) (v : Value), ops[j]? = some o → o.dst = some d → m j = some v → f d = v
  rest : ∀ t, (∀ (j : Nat) (o : Oper), ops[j]? = some o → o.dst = some t → m j = none) → f t = f0 t
def depsOf (o : Oper) : List Nat := (o.after.toList.filter fun e => Region.binds .any e).map (·.on)
def doneArr (size n : Nat) : Array Bool := ((List.range size).map fun i => decide (i < n)).toArray
def comB (ops : Array Oper) (n : Nat) : Bool :=
  decide (n < ops.size) && Region.sinkB .any ops n && Region.chainB .any ops n && Region.seqB .any ops (ops.size - n) n (doneArr ops.size n) &&
  (List.range ops.size).all (fun i => (List.range ops.size).all fun j => i == j || match (ops[i]?).bind (·.dst), (ops[j]?).bind (·.dst) with | some a, some b => a != b | _, _ => true) &&
  (List.range n).all (fun i => match ops[i]? with | some o => (depsOf o).all fun j => decide (j < i) | none => true)
section com
variable {P : Program} {ops : Array Oper} {Q : Exit → Act → World → Prop}

theorem com_all (s n N : Nat) [Gd] {f0 : Nat → Value} {w0 : World} {A : Vals → Heap → Prop} {L : Array Bool → Act → World → Prop} (hs : Region.sinkB .any ops n = true) (hc : Region.chainB .any ops n = true) (hn : n < ops.size)
    (hdist : ∀ (i j : Nat) (oi oj : Oper) (d : Nat), ops[i]? = some oi → ops[j]? = some oj → oi.dst = some d → oj.dst = some d → i = j)
    (hinc : ∀ (i : Nat) (o : Oper), i < n → ops[i]? = some o → ∀ j ∈ depsOf o, j < i)
    (spec : ∀ (i : Nat) (o : Oper), ops[i]? = some o → i < n → ∀ (m : Vals) (f : Nat → Value) (w : World), Agr ops f0 m f → A m w.heap → SameW w0 w → m i = none → (∀ j ∈ depsOf o, (m j).isSome) →
      wpOp P ops Q i (fun a' w' => ∃ v, a' = (mk N f).put o.dst v ∧ SameW w0 w' ∧ A (setm m i v) w'.heap) (mk N f) w)
    (hdst : ∀ (i : Nat) (o : Oper) (d : Nat), ops[i]? = some o → o.dst = some d → d < N)
    (fin : ∀ (m : Vals) (f : Nat → Value) (w : World), (∀ i, i < n → (m i).isSome) → Agr ops f0 m f → A m w.heap → SameW w0 w → L (doneArr ops.size n) (mk N f) w) :
    ∀ (fuel : Nat) (listed : Array Bool) (m : Vals) (f : Nat → Value) (w : World), HeadInv .any ops n listed → (∀ j, j < n → listed.getD j false = (m j).isSome) → (∀ j, n ≤ j → m j = none) →
      ((List.range n).countP fun j => !(m j).isSome) = fuel → Agr ops f0 m f → A m w.heap → SameW w0 w →
      wpAnyM P .any ops Q (fun _ => True) n L fuel listed (mk N f) w := by
  intro fuel
  induction fuel with
  | zero =>
    intro listed m f w inv hl hm hcnt hag hA hS
    have hall : ∀ i, i < n → (m i).isSome := by
      intro i hi
      have := List.countP_eq_zero.1 hcnt i (by simpa using hi)
      cases h : m i with
      | none => rw [h] at this; simp at this
      | some v => rfl
    have e : listed = doneArr ops.size n := by
      apply Array.ext
      · simp [inv.size, doneArr]
      · intro i h1 h2
        have hi : i < ops.size := by rw [← inv.size]; exact h1
        rcases Nat.lt_or_ge i n with h | h
        · have := hl i h
          rw [hall i h] at this
          simp only [Array.getD_eq_getD_getElem?, Array.getElem?_eq_getElem h1, Option.getD_some] at this
          simp [doneArr, this, h]
        · have := inv.tail i h hi
          simp only [Array.getD_eq_getD_getElem?, Array.getElem?_eq_getElem h1, Option.getD_some] at this
          simp [doneArr, this, Nat.not_lt.2 h]
    subst e
    exact fin m f w hall hag hA hS
  | succ fuel ih =>
    intro listed m f w inv hl hm hcnt hag hA hS
    -- one is not done
    obtain ⟨i0, hi0, hu0⟩ : ∃ i, i < n ∧ m i = none := by
      have h1 : 0 < (List.range n).countP fun j => !(m j).isSome := by omega
      obtain ⟨i, hi, hx⟩ := List.countP_pos_iff.1 h1
      refine ⟨i, by simpa using hi, ?_⟩
      cases h : m i with
      | none => rfl
      | some v => rw [h] at hx; simp at hx
    have hun0 : listed.getD i0 true = false := getD_in (by rw [inv.size]; omega) (by rw [hl i0 hi0, hu0]; rfl)
    -- the least of those that are not done is ready
    have hex : ∃ i, i ∈ Region.ready .any ops listed := by
      have key : ∀ k, k < n → m k = none → ∃ i, i ∈ Region.ready .any ops listed := by
        intro k
        induction k using Nat.strongRecOn with
        | _ k ihk =>
          intro hk hu
          obtain ⟨o, ho⟩ : ∃ o, ops[k]? = some o := ⟨_, Array.getElem?_eq_getElem (by omega)⟩
          by_cases hd : ∀ j ∈ depsOf o, (m j).isSome
          · refine ⟨k, mem_ready.2 ⟨getD_in (by rw [inv.size]; omega) (by rw [hl k hk, hu]; rfl), o, ho, fun e he hb => ?_⟩⟩
            have hj : e.on ∈ depsOf o := by
              unfold depsOf
              exact List.mem_map.2 ⟨e, List.mem_filter.2 ⟨by simpa using he, hb⟩, rfl⟩
            have hlt := hinc k o hk ho _ hj
            rw [hl e.on (by omega)]
            exact hd _ hj
          · simp only [Classical.not_forall] at hd
            obtain ⟨j, hj, hnj⟩ := hd
            have hlt := hinc k o hk ho _ hj
            exact ihk j hlt (by omega) (by
              cases h : m j with
              | none => rfl
              | some v => rw [h] at hnj; simp at hnj)
      exact key i0 hi0 hu0
    refine ⟨fun h => (by obtain ⟨i, hi⟩ := hex; rw [h] at hi; cases hi), fun i hi => ?_⟩
    have hin : i < n := by
      rcases Nat.lt_or_ge i n with h | h
      · exact h
      · exact absurd hi (tail_waits hs hc hn inv _ i0 rfl hi0 hun0 i h)
    obtain ⟨hunl, o, ho, hall⟩ := mem_ready.1 hi
    have hmi : m i = none := by
      have h1 := getD_both hunl
      rw [hl i hin] at h1
      cases h : m i with
      | none => rfl
      | some v => rw [h] at h1; simp at h1
    have hdeps : ∀ j ∈ depsOf o, (m j).isSome := by
      intro j hj
      obtain ⟨e, he, rfl⟩ := List.mem_map.1 hj
      obtain ⟨he1, he2⟩ := List.mem_filter.1 he
      have := hall e (by simpa using he1) he2
      have hlt := hinc i o hin ho _ hj
      rw [hl e.on (by omega)] at this
      exact this
    refine ⟨hin, wpOp_mono (fun a' w' h => ⟨trivial, ?_⟩) (spec i o ho hin m f w hag hA hS hmi hdeps)⟩
    obtain ⟨v, rfl, hS', hA'⟩ := h
    have hag' : ∃ f', (mk N f).put o.dst v = mk N f' ∧ Agr ops f0 (setm m i v) f' := by
      cases hd : o.dst with
      | none =>
        refine ⟨f, mk_put_none N f v, ⟨fun j oj d x hj hdj hx => ?_, fun t ht => hag.rest t fun j oj hj hdj => ?_⟩⟩
        · by_cases hji : j = i
          · subst hji
            rw [ho] at hj
            simp only [Option.some.injEq] at hj
            subst hj
            rw [hd] at hdj; cases hdj
          · rw [setm_ne hji] at hx
            exact hag.done j oj d x hj hdj hx
        · by_cases hji : j = i
          · subst hji; exact hmi
          · have := ht j oj hj hdj
            rwa [setm_ne hji] at this
      | some d =>
        refine ⟨upd f d v, mk_put N f d v, ⟨fun j oj d' x hj hdj hx => ?_, fun t ht => ?_⟩⟩
        · by_cases hji : j = i
          · subst hji
            rw [ho] at hj
            simp only [Option.some.injEq] at hj
            subst hj
            rw [hd] at hdj
            simp only [Option.some.injEq] at hdj
            subst hdj
            rw [setm_eq] at hx
            simp only [Option.some.injEq] at hx
            subst hx
            simp [upd]
          · rw [setm_ne hji] at hx
            have hne : d' ≠ d := fun e => hji (hdist j i oj o d' hj ho hdj (by rw [hd, e]))
            have : Nat.beq d' d = false := by simpa [← Bool.not_eq_true, Nat.beq_eq] using hne
            simp only [upd, this, cond_false]
            exact hag.done j oj d' x hj hdj hx
        · have hne : t ≠ d := by
            intro e
            have := ht i o ho (by rw [hd, e])
            rw [setm_eq] at this; cases this
          have hb : Nat.beq t d = false := by simpa [← Bool.not_eq_true, Nat.beq_eq] using hne
          simp only [upd, hb, cond_false]
          refine hag.rest t fun j oj hj hdj => ?_
          by_cases hji : j = i
          · subst hji; exact hmi
          · have := ht j oj hj hdj
            rwa [setm_ne hji] at this
    obtain ⟨f', hf', hag'⟩ := hag'
    rw [hf']
    refine ih _ (setm m i v) f' w' (inv.set hi hin) ?_ ?_ ?_ hag' hA' hS'
    · intro j hj
      by_cases hji : j = i
      · subst hji
        rw [setm_eq]
        simp [Array.getD_eq_getD_getElem?, inv.size, show j < ops.size by omega]
      · rw [setm_ne hji, getD_set_ne false (Ne.symm hji)]
        exact hl j hj
    · intro j hj
      rw [setm_ne (by omega)]; exact hm j hj
    · have h1 : ∀ l : List Nat, l.Nodup → i ∈ l → (l.countP fun j => !(m j).isSome) = (l.countP fun j => !(setm m i v j).isSome) + 1 := by
        intro l
        induction l with
        | nil => intro _ h; cases h
        | cons x l ihl =>
          intro hnd hmem
          rw [List.nodup_cons] at hnd
          simp only [List.countP_cons]
          by_cases hx : x = i
          · subst hx
            have h2 : (l.countP fun j => !(m j).isSome) = (l.countP fun j => !(setm m x v j).isSome) := by
              apply List.countP_congr
              intro j hj
              have : j ≠ x := fun e => hnd.1 (e ▸ hj)
              rw [setm_ne this]
            rw [h2, setm_eq, hmi]
            simp
          · have := ihl hnd.2 (by
              rcases List.mem_cons.1 hmem with h | h
              · exact absurd h.symm hx
              · exact h)
            rw [this, setm_ne hx]
            omega
      have := h1 (List.range n) List.nodup_range (by simpa using hin)
      omega

theorem region_com [Gd] {id : Nat} {N : Nat} {f : Nat → Value} {w : World} {l : List Oper} (n : Nat) (hm : P.follows .mixedOrders = true) (hB : comB l.toArray n = true)
    (hN : (l.all fun o => match o.dst with | some d => decide (d < N) | none => true) = true) {A : Vals → Heap → Prop} (h0 : A (fun _ => none) w.heap)
    (spec : ∀ (i : Nat) (o : Oper), l[i]? = some o → i < n → ∀ (m : Vals) (g : Nat → Value) (w' : World), Agr l.toArray f m g → A m w'.heap → SameW w w' → m i = none → (∀ j ∈ depsOf o, (m j).isSome) →
      wpOp P l.toArray Q i (fun a' w'' => ∃ v, a' = (mk N g).put o.dst v ∧ SameW w w'' ∧ A (setm m i v) w''.heap) (mk N g) w')
    (fin : ∀ (m : Vals) (g : Nat → Value) (w' : World), (∀ i, i < n → (m i).isSome) → Agr l.toArray f m g → A m w'.heap → SameW w w' → wpList P l.toArray Q (l.drop n) (mk N g) w') :
    (Code.region id l.toArray true).wp P Q (mk N f) w := by
  simp only [comB, Bool.and_eq_true, decide_eq_true_eq] at hB
  obtain ⟨⟨⟨⟨⟨hn, hs⟩, hc⟩, hseq⟩, hd⟩, hi⟩ := hB
  have hdist : ∀ (i j : Nat) (oi oj : Oper) (d : Nat), l.toArray[i]? = some oi → l.toArray[j]? = some oj → oi.dst = some d → oj.dst = some d → i = j := by
    intro i j oi oj d h1 h2 h3 h4
    have hi' := (Array.getElem?_eq_some_iff.1 h1).1
    have hj' := (Array.getElem?_eq_some_iff.1 h2).1
    have := List.all_eq_true.1 (List.all_eq_true.1 hd i (by simpa using hi')) j (by simpa using hj')
    simp only [h1, h2, Option.bind_some, h3, h4, bne_self_eq_false, Bool.or_false, beq_iff_eq] at this
    exact this
  have hinc : ∀ (i : Nat) (o : Oper), i < n → l.toArray[i]? = some o → ∀ j ∈ depsOf o, j < i := by
    intro i o h1 h2 j hj
    have := List.all_eq_true.1 hi i (by simpa using h1)
    simp only [h2] at this
    simpa using List.all_eq_true.1 this j hj
  have hdst : ∀ (i : Nat) (o : Oper) (d : Nat), l.toArray[i]? = some o → o.dst = some d → d < N := by
    intro i o d h1 h2
    have h3 : o ∈ l := List.mem_of_getElem? (by simpa using h1)
    have := List.all_eq_true.1 hN o h3
    simpa [h2] using this
  have inv0 : HeadInv .any l.toArray n (Array.replicate l.toArray.size false) :=
    ⟨by simp, fun j oj _ hl => (by rw [getD_replicate_false] at hl; cases hl), fun t _ ht => getD_in (by simpa using ht) (getD_replicate_false _ _)⟩
  have hdl : (l.drop n).length = l.toArray.size - n := by simp
  let w1 : World := { w with drawn := w.drawn + 1 }
  have hw1 : SameW w w1 := ⟨rfl, rfl, rfl, fun _ => by first | exact Nat.le_refl _ | exact Nat.le_succ _ | exact Nat.le_add_right _ _⟩
  have H := com_all (P := P) (Q := Q) (ops := l.toArray) l.toArray.size n N (f0 := f) (w0 := w) (A := A) (L := fun listed' a' w' => Region.seqB .any l.toArray (l.toArray.size - n) n listed' = true ∧ wpList P l.toArray Q (l.drop n) a' w')
    hs hc hn hdist hinc (fun i o h1 h2 => spec i o (by simpa using h1) h2) hdst (fun m g w' h1 h2 h3 h4 => ⟨hseq, fin m g w' h1 h2 h3 h4⟩)
    n (Array.replicate l.toArray.size false) (fun _ => none) f w1 inv0 (fun j _ => by rw [getD_replicate_false]; rfl) (fun _ _ => rfl) (by simp [List.countP_eq_length]) ⟨fun _ _ _ _ _ _ h => (by cases h), fun _ _ => rfl⟩ h0 hw1
  refine wp_region_any hm ?_
  have := wpAny_of_M (Q := Q) (g := l.toArray.size - n) (fun listed a' w' hL => by
    have := wpAny_of_seq (md := .any) (Q' := Q) (l.drop n) n listed a' w' (fun j => by simp [List.getElem?_drop]) (by rw [hdl]; exact hL.1) hL.2
    rwa [hdl] at this) _ _ _ _ H
  rw [show n + (l.toArray.size - n) = l.toArray.size by omega] at this
  exact this

def noDstB (ops : Array Oper) (t : Nat) : Bool := ops.toList.all fun o => o.dst != some t
theorem Agr.keep {f0 f : Nat → Value} {m : Vals} {t : Nat} (hag : Agr ops f0 m f) (h : noDstB ops t = true) : f t = f0 t :=
  hag.rest t fun j o hj hd => by
    have h1 : o ∈ ops.toList := List.mem_of_getElem? (by simpa using hj)
    have h2 := List.all_eq_true.1 h o h1
    rw [hd] at h2
    simp at h2
theorem vals_all {m : Vals} {n : Nat} (h : ∀ i, i < n → (m i).isSome) : ∃ x : Nat → Value, ∀ j, j < n → m j = some (x j) :=
  ⟨fun j => (m j).getD undef, fun j hj => by
    obtain ⟨v, hv⟩ := Option.isSome_iff_exists.1 (h j hj)
    simp [hv]⟩
variable {A : Vals → Heap → Prop} {N i : Nat} {f : Nat → Value} {w w0 : World} {o : Oper} {m : Vals} {h : Heap}
theorem comX [Gd] {K : Value → Heap → Prop} {s : Sem Next} (hi : ops[i]? = some o) (he : execOp (evf N f) o = s) (hs : Sx P s h K) (hw : w.heap = h) (hg : o.guard = none) (hS : SameW w0 w)
    (k : ∀ v h', K v h' → A (setm m i v) h') {w00 : World} {A00 : Nat → (Nat → Value) → Prop} [hpn : PnOk [] Q w00 A00] (hs0 : SameW w00 w0 := by assumption) (hA0 : A00 N f := by first | exact True.intro) : wpOp P ops Q i (fun a' w' => ∃ v, a' = (mk N f).put o.dst v ∧ SameW w0 w' ∧ A (setm m i v) w'.heap) (mk N f) w := by
  subst he
  unfold wpOp
  simp only [hi]
  rw [if_pos (wanted_none hg)]
  refine .inl ?_
  unfold Oper.wp
  rw [mk_eval]
  exact upon_of_next (hs w hw) (fun v w' h1 h2 => ⟨v, rfl, hS.trans h1, k v _ h2⟩) rfl hpn (hs0.trans hS) hA0
theorem comQ [Gd] {K : Value → Prop} {s : Sem Next} (hi : ops[i]? = some o) (he : execOp (evf N f) o = s) (hs : Sq P (Eq h) s K) (hw : w.heap = h) (hg : o.guard = none) (hS : SameW w0 w)
    (k : ∀ v, K v → A (setm m i v) h) : wpOp P ops Q i (fun a' w' => ∃ v, a' = (mk N f).put o.dst v ∧ SameW w0 w' ∧ A (setm m i v) w'.heap) (mk N f) w := by
  subst he
  obtain ⟨v, hr, hk⟩ := hs
  unfold wpOp
  simp only [hi]
  rw [if_pos (wanted_none hg)]
  refine .inl ?_
  unfold Oper.wp
  rw [mk_eval, hr w hw.symm]
  exact ⟨v, rfl, hS, by rw [hw]; exact k v hk⟩
theorem comP [Gd] {K : Value → Prop} {s : Sem Next} (hi : ops[i]? = some o) (he : execOp (evf N f) o = s) (hs : Sp P s K) (hw : w.heap = h) (hg : o.guard = none) (hS : SameW w0 w)
    (k : ∀ v, K v → A (setm m i v) h) : wpOp P ops Q i (fun a' w' => ∃ v, a' = (mk N f).put o.dst v ∧ SameW w0 w' ∧ A (setm m i v) w'.heap) (mk N f) w := by
  subst he
  obtain ⟨v, hr, hk⟩ := hs
  unfold wpOp
  simp only [hi]
  rw [if_pos (wanted_none hg)]
  refine .inl ?_
  unfold Oper.wp
  rw [mk_eval, hr w]
  exact ⟨v, rfl, hS, by rw [hw]; exact k v hk⟩
theorem comM [Gd] {x : Operand} {v : Value} (hi : ops[i]? = some o) (hop : o.op = .move x ∨ o.op = .assign x) (hv : evf N f x = v) (hw : w.heap = h) (hg : o.guard = none) (hS : SameW w0 w)
    (k : A (setm m i v) h) : wpOp P ops Q i (fun a' w' => ∃ v, a' = (mk N f).put o.dst v ∧ SameW w0 w' ∧ A (setm m i v) w'.heap) (mk N f) w := by
  unfold wpOp
  simp only [hi]
  rw [if_pos (wanted_none hg)]
  refine .inl ?_
  unfold Oper.wp
  rw [mk_eval]
  have : (execOp (evf N f) o).run P w = .ok (.value v) w := by
    rcases hop with h | h <;> simp [execOp, h, hv]
  rw [this]
  exact ⟨v, rfl, hS, by rw [hw]; exact k⟩
end com

/-! ### The shallow form -/
def com (h : Heap) (B : (Vals → Heap → Prop) → Prop) : Prop := ∃ A, A (fun _ => none) h ∧ B A
def cop0 (A : Vals → Heap → Prop) (i : Nat) (B : (Value → Heap → Prop) → Heap → Prop) : Prop := ∀ m h, A m h → m i = none → B (fun v h' => A (setm m i v) h') h
def cop1 (A : Vals → Heap → Prop) (i j1 : Nat) (B : (Value → Heap → Prop) → Heap → Value → Prop) : Prop := ∀ m h x1, A m h → m i = none → m j1 = some x1 → B (fun v h' => A (setm m i v) h') h x1
def cop2 (A : Vals → Heap → Prop) (i j1 j2 : Nat) (B : (Value → Heap → Prop) → Heap → Value → Value → Prop) : Prop :=
  ∀ m h x1 x2, A m h → m i = none → m j1 = some x1 → m j2 = some x2 → B (fun v h' => A (setm m i v) h') h x1 x2
def cop3 (A : Vals → Heap → Prop) (i j1 j2 j3 : Nat) (B : (Value → Heap → Prop) → Heap → Value → Value → Value → Prop) : Prop :=
  ∀ m h x1 x2 x3, A m h → m i = none → m j1 = some x1 → m j2 = some x2 → m j3 = some x3 → B (fun v h' => A (setm m i v) h') h x1 x2 x3
def cop4 (A : Vals → Heap → Prop) (i j1 j2 j3 j4 : Nat) (B : (Value → Heap → Prop) → Heap → Value → Value → Value → Value → Prop) : Prop :=
  ∀ m h x1 x2 x3 x4, A m h → m i = none → m j1 = some x1 → m j2 = some x2 → m j3 = some x3 → m j4 = some x4 → B (fun v h' => A (setm m i v) h') h x1 x2 x3 x4
def cend (A : Vals → Heap → Prop) (n : Nat) (B : (Nat → Value) → Heap → Prop) : Prop := ∀ m h (x : Nat → Value), A m h → (∀ j, j < n → m j = some (x j)) → B x h

/-! ### Its typed side -/
def HPo (o : Option Value) (T : Value → HP) : HP :=
  match o with
  | none => HP.all []
  | some v => T v
def comA (F : Vw) (facts : List (Nat × (Vw → Value → Prop))) (parts : List (Nat × (Value → HP))) (L0 : List HP) : Vals → Heap → Prop :=
  fun m h => ∃ F', Le F F' ∧ (∀ p ∈ facts, ∀ v, m p.1 = some v → p.2 F' v) ∧ Sf F' h (parts.map (fun p => HPo (m p.1) p.2) ++ L0)
def MonoF (facts : List (Nat × (Vw → Value → Prop))) : Prop := ∀ p ∈ facts, ∀ F G v, Le F G → p.2 F v → p.2 G v
theorem Sf.emp {F : Vw} {h : Heap} {L : List HP} (s : Sf F h L) : Sf F h (HP.all [] :: L) := .put (St.addNil s)
theorem Sf.emps {F : Vw} {h : Heap} {L : List HP} (s : Sf F h L) : ∀ parts : List (Nat × (Value → HP)), Sf F h (parts.map (fun p => HPo ((fun _ => none : Vals) p.1) p.2) ++ L)
  | [] => s
  | p :: ps => Sf.emp (Sf.emps s ps)
theorem comA.init {F : Vw} {facts : List (Nat × (Vw → Value → Prop))} {parts : List (Nat × (Value → HP))} {L0 : List HP} {h : Heap} (s : Sf F h L0) : comA F facts parts L0 (fun _ => none) h :=
  ⟨F, Le.refl F, fun _ _ _ h => (by cases h), s.emps parts⟩
theorem parts_set {m : Vals} {i : Nat} {v : Value} : ∀ {parts : List (Nat × (Value → HP))}, i ∉ parts.map (·.1) → parts.map (fun p => HPo (setm m i v p.1) p.2) = parts.map (fun p => HPo (m p.1) p.2)
  | [], _ => rfl
  | p :: ps, h => by
    simp only [List.map_cons, List.mem_cons, not_or] at h
    simp only [List.map_cons]
    rw [parts_set h.2, setm_ne (fun e => h.1 e.symm)]
/-- An operation that leaves no part: whatever it does in a frame. -/
theorem comA.op {F : Vw} {facts : List (Nat × (Vw → Value → Prop))} {parts : List (Nat × (Value → HP))} {L0 : List HP} {m : Vals} {h : Heap} {i : Nat} {T : (Value → Heap → Prop) → Prop}
    (hA : comA F facts parts L0 m h) (hmono : MonoF facts) (hi : i ∉ parts.map (·.1)) (hT : ∀ {K K' : Value → Heap → Prop}, (∀ v h', K v h' → K' v h') → T K → T K')
    (g : ∀ (F' : Vw) (M : List HP), Le F F' → (∀ p ∈ facts, ∀ v, m p.1 = some v → p.2 F' v) → Sf F' h (M ++ L0) → T fun v h' => ∃ F'', Le F' F'' ∧ Sf F'' h' (M ++ L0) ∧ ∀ p ∈ facts, p.1 = i → p.2 F'' v) :
    T fun v h' => comA F facts parts L0 (setm m i v) h' := by
  obtain ⟨F', hl, hf, s⟩ := hA
  refine hT ?_ (g F' _ hl hf s)
  rintro v h' ⟨F'', hl2, s', hv⟩
  refine ⟨F'', hl.trans hl2, fun p hp u hu => ?_, by rw [parts_set hi]; exact s'⟩
  by_cases e : p.1 = i
  · rw [e, setm_eq] at hu
    simp only [Option.some.injEq] at hu
    subst hu
    exact hv p hp e
  · rw [setm_ne e] at hu
    exact hmono p hp _ _ _ hl2 (hf p hp u hu)
/-- An operation that leaves a part of its own. -/
theorem comA.new {F : Vw} {facts : List (Nat × (Vw → Value → Prop))} {parts : List (Nat × (Value → HP))} {L0 : List HP} {m : Vals} {h : Heap} {i k : Nat} {A : Value → HP} {T : (Value → Heap → Prop) → Prop}
    (hA : comA F facts parts L0 m h) (hi : i ∉ facts.map (·.1)) (hk : parts[k]? = some (i, A)) (hnd : (parts.map (·.1)).Nodup) (hm : m i = none) (hT : ∀ {K K' : Value → Heap → Prop}, (∀ v h', K v h' → K' v h') → T K → T K')
    (g : ∀ (F' : Vw) (M : List HP), Sf F' h M → T fun v h' => Sf F' h' (A v :: M)) :
    T fun v h' => comA F facts parts L0 (setm m i v) h' := by
  obtain ⟨F', hl, hf, s⟩ := hA
  obtain ⟨ps, qs, rfl, hk'⟩ : ∃ ps qs, parts = ps ++ (i, A) :: qs ∧ ps.length = k := by
    obtain ⟨h1, h2⟩ := List.getElem?_eq_some_iff.1 hk
    refine ⟨parts.take k, parts.drop (k + 1), ?_, by simp; omega⟩
    rw [← h2, ← List.drop_eq_getElem_cons h1, List.take_append_drop]
  simp only [List.map_append, List.map_cons, List.nodup_append, List.nodup_cons] at hnd
  obtain ⟨_, ⟨hq, _⟩, hpq⟩ := hnd
  have hp : i ∉ ps.map (·.1) := fun hx => hpq i hx i (by simp) rfl
  simp only [List.map_append, List.map_cons, hm, List.append_assoc, List.cons_append] at s
  have s2 : Sf F' h (HP.all [] :: (ps.map (fun p => HPo (m p.1) p.2) ++ (qs.map (fun p => HPo (m p.1) p.2) ++ L0))) := s.perm List.perm_middle
  refine hT ?_ (g F' _ s2.drop)
  intro v h' s3
  refine ⟨F', hl, fun p hp' u hu => ?_, ?_⟩
  · have e : p.1 ≠ i := fun e => hi (List.mem_map.2 ⟨p, hp', e⟩)
    rw [setm_ne e] at hu
    exact hf p hp' u hu
  · simp only [List.map_append, List.map_cons, setm_eq, List.append_assoc, List.cons_append]
    rw [parts_set hp, parts_set hq]
    exact s3.perm List.perm_middle.symm
theorem Sf.tailOf {F : Vw} {h : Heap} {L : List HP} : ∀ {M : List HP}, Sf F h (M ++ L) → Sf F h L
  | [], s => s
  | _ :: M, s => Sf.tailOf (M := M) (Sf.drop s)
/-- What an alloc leaves. -/
def AlP (cs : List Value) (v : Value) : HP := HP.ex fun a : Addr => HP.pure (Value.pointer (some a) = v) (Ce (Cx.new a) cs)
theorem Sf.toAlP {F : Vw} {h : Heap} {L : List HP} {a : Addr} {cs : List Value} (s : Sf F h (Ce (Cx.new a) cs :: L)) : Sf F h (AlP cs (.pointer (some a)) :: L) :=
  .put (St.toEx a (St.toPure rfl s.off))
theorem Sf.alp {F : Vw} {h : Heap} {L : List HP} {cs : List Value} {v : Value} (i : Nat) (hL : L[i]? = some (AlP cs v)) (s : Sf F h L) :
    ∃ a, Value.pointer (some a) = v ∧ Sf F h (L.set i (Ce (Cx.new a) cs)) := by
  obtain ⟨a, s2⟩ := (s.at i hL).ex
  obtain ⟨hv, s3⟩ := s2.pure
  exact ⟨a, hv, Sf.back hL s3⟩
theorem Sx.mono [Gd] {P : Program} {s : Sem Next} {h : Heap} {K K' : Value → Heap → Prop} (hk : ∀ v h', K v h' → K' v h') (hs : Sx P s h K) : Sx P s h K' := by
  intro w hw
  have := hs w hw
  unfold NextOk at *
  split at this
  · exact ⟨this.1, hk _ _ this.2⟩
  · exact ⟨this.1, hk _ _ this.2⟩
  · exact ⟨this.1, this.2.mono hk⟩
  · exact this
  · exact this.elim
end Go.Sh
namespace Go.Pl
def str (l : List Int) (K : Sh.Str → Prop) : Prop := ∃ s, Pl.bytes s = l ∧ K s
theorem bytes_inj {a b : Sh.Str} (h : bytes a = bytes b) : a = b := by
  unfold bytes at h
  have : Function.Injective fun c : UInt8 => (c.toNat : Int) := fun x y hxy => UInt8.toNat_inj.1 (Int.ofNat.inj hxy)
  exact (List.map_inj_right (fun x y h => this h)).1 h
end Go.Pl
namespace Go.Sh
variable {α : Type} [Gd] {P : Program}
theorem cl_u8 {F : Vw} : ∀ {cs : List Value} {l : List Int}, CL (eI .u8) F cs l → cs = l.map fun z => .int .u8 z
  | _, [], h => h
  | _, z :: l, ⟨c, d, h, hc, hd⟩ => by
    rw [h, show c = [.int .u8 z] from hc, cl_u8 hd]; rfl
theorem tStr {sT dT e : TypeId} [Und P sT (.slice e)] [Und P e (.int .u8)] [Und P dT .string] {F : Vw} {h : Heap} {L : List HP} {v : Value} {l : List Int} {s : Str} {K : Value → Heap → Prop}
    (hs : Pl.bytes s = l) (st : Sf F h L) (r : RL (eI .u8) F v l) (hK : K (Sh.str s) h) : oConvX P sT dT v h K := by
  subst hs
  obtain ⟨hv, _, cs, hr, hc⟩ := r
  have e := cl_u8 hc
  rw [← bytes_eq] at e
  subst e
  refine oConvX_bytes ?_ (hr.rd st.fit) hK
  have : (Pl.bytes s).length = s.length := by simp [Pl.bytes]
  rw [← this]; exact hv
theorem oField_own {t : TypeId} {i off : Nat} [Fld P t i off] {a x : Value} {K : Value → Prop} (h : ∀ w, (Instr.field t a i).run P w = .ok x w) (hK : K x) : oField P t a i K := ⟨x, fun w => nv_run (h w), hK⟩
/-! Nil or not. -/
theorem St.nilLen {h0 h : Heap} {L : List HP} {k n : Nat} {v : Value} {cs : List Value} (s : St h0 h (Row k v n cs :: L)) : IsSl v n ∧ ∀ c, v = .slice none n c → n = 0 := by
  obtain ⟨_, S, ⟨_, hown⟩, _⟩ := id s
  refine ⟨s.row.1, ?_⟩
  rintro c rfl
  rcases hown with ⟨_, h⟩ | ⟨a, cap, post, h, _⟩
  · exact h
  · cases h
theorem eqGuard_sl {op : BinOp} {t : TypeId} {x y : Operand} {a b : Value} (ha : ∃ p n c, a = .slice p n c) (hb : ∃ p n c, b = .slice p n c) (w : World) (ho : op = .eql ∨ op = .neq) : (eqGuard op t x y a b).run P w = .ok () w := by
  obtain ⟨p, n, c, rfl⟩ := ha
  obtain ⟨p', n', c', rfl⟩ := hb
  rcases ho with rfl | rfl <;> simp [eqGuard]
theorem oNilSl_eqlL {t e : TypeId} [u : Und P t (.slice e)] {v : Value} {n : Nat} (hv : IsSl v n ∧ ∀ c, v = .slice none n c → n = 0) {l : List α} (hl : l.length = n) :
    ∃ b : Bool, (b = true → l = []) ∧ ∀ {x y : Operand} {K : Value → Prop}, K (.bool b) → oBin P .eql t x y (.slice none 0 0) v K := by
  obtain ⟨⟨a, c, rfl⟩, h⟩ := hv
  refine ⟨a.isNone, fun hb => ?_, fun {x y K} hK => ?_⟩
  · cases a with
    | none => exact List.length_eq_zero_iff.1 (hl.trans (h c rfl))
    | some a => cases hb
  · refine ⟨.bool a.isNone, fun w => nv_run ?_, hK⟩
    simp only [Sem.run_bind, eqGuard_sl ⟨_, _, _, rfl⟩ ⟨_, _, _, rfl⟩ w (.inl rfl), Result.andThen_ok, run_eql_nil_slice w t e a n c 0 0 u.eq]
theorem oNilSl_eqlR {t e : TypeId} [u : Und P t (.slice e)] {v : Value} {n : Nat} (hv : IsSl v n ∧ ∀ c, v = .slice none n c → n = 0) {l : List α} (hl : l.length = n) :
    ∃ b : Bool, (b = true → l = []) ∧ ∀ {x y : Operand} {K : Value → Prop}, K (.bool b) → oBin P .eql t x y v (.slice none 0 0) K := by
  obtain ⟨⟨a, c, rfl⟩, h⟩ := hv
  refine ⟨a.isNone, fun hb => ?_, fun {x y K} hK => ?_⟩
  · cases a with
    | none => exact List.length_eq_zero_iff.1 (hl.trans (h c rfl))
    | some a => cases hb
  · refine ⟨.bool a.isNone, fun w => nv_run ?_, hK⟩
    simp only [Sem.run_bind, eqGuard_sl ⟨_, _, _, rfl⟩ ⟨_, _, _, rfl⟩ w (.inl rfl), Result.andThen_ok, Lib.run_eql_slice_nil w t e a n c 0 0 u.eq]
end Go.Sh
namespace Go.Proofs.Ytaibfbakhiainaa
open Go Go.Sh

structure T_api_Alarm where
  At : Int
  Kind : Int
theorem T_api_Alarm.ext_iff' {a b : T_api_Alarm} : a = b ↔ a.At = b.At ∧ a.Kind = b.Kind := by
  cases a; cases b; simp
instance : DecidableEq T_api_Alarm := fun a b => decidable_of_iff _ T_api_Alarm.ext_iff'.symm
def e_api_Alarm : En T_api_Alarm := eF 2 (fun a => [.int .i64 a.At, .int .i64 a.Kind]) (by decide) (fun _ => rfl) (fun _ => (ones_cons rfl (ones_cons rfl ones_nil)))
structure T_api_Ival where
  Some : Bool
  Lo : Int
  Hi : Int
theorem T_api_Ival.ext_iff' {a b : T_api_Ival} : a = b ↔ a.Some = b.Some ∧ a.Lo = b.Lo ∧ a.Hi = b.Hi := by
  cases a; cases b; simp
instance : DecidableEq T_api_Ival := fun a b => decidable_of_iff _ T_api_Ival.ext_iff'.symm
def e_api_Ival : En T_api_Ival := eF 3 (fun a => [.bool a.Some, .int .i64 a.Lo, .int .i64 a.Hi]) (by decide) (fun _ => rfl) (fun _ => (ones_cons rfl (ones_cons rfl (ones_cons rfl ones_nil))))
structure T_api_Named where
  Name : Str
  V : T_api_Ival
theorem T_api_Named.ext_iff' {a b : T_api_Named} : a = b ↔ a.Name = b.Name ∧ a.V = b.V := by
  cases a; cases b; simp
instance : DecidableEq T_api_Named := fun a b => decidable_of_iff _ T_api_Named.ext_iff'.symm
def e_api_Named : En T_api_Named := eF 4 (fun a => [str a.Name, .bool a.V.Some, .int .i64 a.V.Lo, .int .i64 a.V.Hi]) (by decide) (fun _ => rfl) (fun _ => (ones_cons rfl (ones_cons rfl (ones_cons rfl (ones_cons rfl ones_nil)))))
structure T_api_Summary where
  Alarms : List T_api_Alarm
  Ends : Bool
  Ret : T_api_Ival
  Mod : List T_api_Named
theorem T_api_Summary.ext_iff' {a b : T_api_Summary} : a = b ↔ a.Alarms = b.Alarms ∧ a.Ends = b.Ends ∧ a.Ret = b.Ret ∧ a.Mod = b.Mod := by
  cases a; cases b; simp
instance : DecidableEq T_api_Summary := fun a b => decidable_of_iff _ T_api_Summary.ext_iff'.symm
def e_api_Summary : En T_api_Summary :=
  ⟨6, fun F cs a => ∃ v0 v5, cs = [v0, .bool a.Ends, .bool a.Ret.Some, .int .i64 a.Ret.Lo, .int .i64 a.Ret.Hi, v5] ∧ RL e_api_Alarm F v0 a.Alarms ∧ RL e_api_Named F v5 a.Mod, by decide, fun ⟨v0, v5, h, _⟩ => by rw [h]; rfl,
    fun g ⟨v0, v5, h, r0, r5⟩ => ⟨v0, v5, h, r0.le g, r5.le g⟩, fun ⟨v0, v5, h, r0, r5⟩ => h ▸ (ones_cons r0.1.one (ones_cons rfl (ones_cons rfl (ones_cons rfl (ones_cons rfl (ones_cons r5.1.one ones_nil))))))⟩
structure T_code_plain where
  b : List Int
theorem T_code_plain.ext_iff' {a b : T_code_plain} : a = b ↔ a.b = b.b := by
  cases a; cases b; simp
instance : DecidableEq T_code_plain := fun a b => decidable_of_iff _ T_code_plain.ext_iff'.symm
def e_code_plain : En T_code_plain :=
  ⟨1, fun F cs a => ∃ v0, cs = [v0] ∧ RL (eI .u8) F v0 a.b, by decide, fun ⟨v0, h, _⟩ => by rw [h]; rfl,
    fun g ⟨v0, h, r0⟩ => ⟨v0, h, r0.le g⟩, fun ⟨v0, h, r0⟩ => h ▸ (ones_cons r0.1.one ones_nil)⟩
structure T_code_Writer where
  plain : T_code_plain
theorem T_code_Writer.ext_iff' {a b : T_code_Writer} : a = b ↔ a.plain = b.plain := by
  cases a; cases b; simp
instance : DecidableEq T_code_Writer := fun a b => decidable_of_iff _ T_code_Writer.ext_iff'.symm
def e_code_Writer : En T_code_Writer :=
  ⟨1, fun F cs a => ∃ v0, cs = [v0] ∧ RL (eI .u8) F v0 a.plain.b, by decide, fun ⟨v0, h, _⟩ => by rw [h]; rfl,
    fun g ⟨v0, h, r0⟩ => ⟨v0, h, r0.le g⟩, fun ⟨v0, h, r0⟩ => h ▸ (ones_cons r0.1.one ones_nil)⟩
structure T_augurlaw19_Cell where
  N : Int
  Lo : Int
  Hi : Int
theorem T_augurlaw19_Cell.ext_iff' {a b : T_augurlaw19_Cell} : a = b ↔ a.N = b.N ∧ a.Lo = b.Lo ∧ a.Hi = b.Hi := by
  cases a; cases b; simp
instance : DecidableEq T_augurlaw19_Cell := fun a b => decidable_of_iff _ T_augurlaw19_Cell.ext_iff'.symm
def e_augurlaw19_Cell : En T_augurlaw19_Cell := eF 3 (fun a => [.int .u8 a.N, .int .i64 a.Lo, .int .i64 a.Hi]) (by decide) (fun _ => rfl) (fun _ => (ones_cons rfl (ones_cons rfl (ones_cons rfl ones_nil))))
structure T_augurlaw19_Raw where
  Alarms : List Int
  Ends : Bool
  Lo : Int
  Hi : Int
  Mod : List T_augurlaw19_Cell
theorem T_augurlaw19_Raw.ext_iff' {a b : T_augurlaw19_Raw} : a = b ↔ a.Alarms = b.Alarms ∧ a.Ends = b.Ends ∧ a.Lo = b.Lo ∧ a.Hi = b.Hi ∧ a.Mod = b.Mod := by
  cases a; cases b; simp
instance : DecidableEq T_augurlaw19_Raw := fun a b => decidable_of_iff _ T_augurlaw19_Raw.ext_iff'.symm
def e_augurlaw19_Raw : En T_augurlaw19_Raw :=
  ⟨5, fun F cs a => ∃ v0 v4, cs = [v0, .bool a.Ends, .int .i64 a.Lo, .int .i64 a.Hi, v4] ∧ RL (eI .u8) F v0 a.Alarms ∧ RL e_augurlaw19_Cell F v4 a.Mod, by decide, fun ⟨v0, v4, h, _⟩ => by rw [h]; rfl,
    fun g ⟨v0, v4, h, r0, r4⟩ => ⟨v0, v4, h, r0.le g, r4.le g⟩, fun ⟨v0, v4, h, r0, r4⟩ => h ▸ (ones_cons r0.1.one (ones_cons rfl (ones_cons rfl (ones_cons rfl (ones_cons r4.1.one ones_nil)))))⟩
structure T_code_source where
  left : List Int
theorem T_code_source.ext_iff' {a b : T_code_source} : a = b ↔ a.left = b.left := by
  cases a; cases b; simp
instance : DecidableEq T_code_source := fun a b => decidable_of_iff _ T_code_source.ext_iff'.symm
def e_code_source : En T_code_source :=
  ⟨1, fun F cs a => ∃ v0, cs = [v0] ∧ RL (eI .u8) F v0 a.left, by decide, fun ⟨v0, h, _⟩ => by rw [h]; rfl,
    fun g ⟨v0, h, r0⟩ => ⟨v0, h, r0.le g⟩, fun ⟨v0, h, r0⟩ => h ▸ (ones_cons r0.1.one ones_nil)⟩
structure T_code_Reader where
  from_ : T_code_source
  failed : Bool
theorem T_code_Reader.ext_iff' {a b : T_code_Reader} : a = b ↔ a.from_ = b.from_ ∧ a.failed = b.failed := by
  cases a; cases b; simp
instance : DecidableEq T_code_Reader := fun a b => decidable_of_iff _ T_code_Reader.ext_iff'.symm
def e_code_Reader : En T_code_Reader :=
  ⟨2, fun F cs a => ∃ v0, cs = [v0, .bool a.failed] ∧ RL (eI .u8) F v0 a.from_.left, by decide, fun ⟨v0, h, _⟩ => by rw [h]; rfl,
    fun g ⟨v0, h, r0⟩ => ⟨v0, h, r0.le g⟩, fun ⟨v0, h, r0⟩ => h ▸ (ones_cons r0.1.one (ones_cons rfl ones_nil))⟩
structure T_digest_digest where
  Summary : T_api_Summary
theorem T_digest_digest.ext_iff' {a b : T_digest_digest} : a = b ↔ a.Summary = b.Summary := by
  cases a; cases b; simp
instance : DecidableEq T_digest_digest := fun a b => decidable_of_iff _ T_digest_digest.ext_iff'.symm
def e_digest_digest : En T_digest_digest :=
  ⟨6, fun F cs a => ∃ v0 v5, cs = [v0, .bool a.Summary.Ends, .bool a.Summary.Ret.Some, .int .i64 a.Summary.Ret.Lo, .int .i64 a.Summary.Ret.Hi, v5] ∧ RL e_api_Alarm F v0 a.Summary.Alarms ∧ RL e_api_Named F v5 a.Summary.Mod, by decide, fun ⟨v0, v5, h, _⟩ => by rw [h]; rfl,
    fun g ⟨v0, v5, h, r0, r5⟩ => ⟨v0, v5, h, r0.le g, r5.le g⟩, fun ⟨v0, v5, h, r0, r5⟩ => h ▸ (ones_cons r0.1.one (ones_cons rfl (ones_cons rfl (ones_cons rfl (ones_cons rfl (ones_cons r5.1.one ones_nil))))))⟩
end Go.Proofs.Ytaibfbakhiainaa

namespace Go.Proofs.Ytaibfbakhiainaa
open Go Go.Sh

/-- augur/ival.Empty -/
def p_ival_Empty  (R : T_api_Ival → Prop) : Prop :=
  R (⟨false, 0, 0⟩ : T_api_Ival)

/-- augur/ival.empty -/
def p_ival_empty (a0 : T_api_Ival) (R : Bool → Prop) : Prop :=
  Pl.join (fun (x : Bool) =>
    R x)
   fun kp =>
  Pl.ite ((!a0.Some) = true)
   (kp true)
   (kp (decide (a0.Hi < a0.Lo)))

/-- augur/ival.Of -/
def p_ival_Of (a0 : Int) (a1 : Int) (R : T_api_Ival → Prop) : Prop :=
  Pl.ite (a1 < a0)
   (p_ival_Empty fun r =>
    R r)
   (R (⟨true, a0, a1⟩ : T_api_Ival))

/-- augur/ival.Join -/
def p_ival_Join (a0 : List T_api_Ival) (R : T_api_Ival → Prop) : Prop :=
  p_ival_Empty fun r_1 =>
  Pl.loop2 (0 : Int) r_1 fun x_3 x_4 next =>
  Pl.ite (x_3 < (List.length a0 : Int))
   (Pl.join (fun (x_5 : T_api_Ival) =>
      next (IntKind.wrap .i64 (x_3 + 1)) x_5)
     fun kp =>
    Pl.get a0 x_3 fun a =>
    p_ival_empty a fun r_2 =>
    Pl.ite (r_2 = true)
     (kp x_4)
     (Pl.ite ((!x_4.Some) = true)
       (p_ival_Of a.Lo a.Hi fun r_3 =>
        kp r_3)
       (p_ival_Of (min x_4.Lo a.Lo) (max x_4.Hi a.Hi) fun r_4 =>
        kp r_4)))
   (R x_4)

/-- augur/ival.Widen -/
def p_ival_Widen (a0 : T_api_Ival) (a1 : T_api_Ival) (R : T_api_Ival → Prop) : Prop :=
  p_ival_empty a0 fun r =>
  Pl.ite (r = true)
   (p_ival_Join [a1] fun r_2 =>
    R r_2)
   (p_ival_empty a1 fun r_3 =>
    Pl.ite (r_3 = true)
     (p_ival_Join [a0] fun r_5 =>
      R r_5)
     (Pl.join (fun (x : Int) =>
        Pl.join (fun (x_1 : Int) =>
          p_ival_Of x x_1 fun r_6 =>
          R r_6)
         fun kp_1 =>
        Pl.ite (a0.Hi < a1.Hi)
         (kp_1 9223372036854775807)
         (kp_1 a0.Hi))
       fun kp =>
      Pl.ite (a1.Lo < a0.Lo)
       (kp (-9223372036854775808))
       (kp a0.Lo)))

/-- augur/augurref12.Norm -/
def p_augurref12_Norm (a0 : T_api_Ival) (R : T_api_Ival → Prop) : Prop :=
  Pl.join (fun (x : Bool) =>
    Pl.ite (x = true)
     (R (⟨false, 0, 0⟩ : T_api_Ival))
     (R a0))
   fun kp =>
  Pl.ite ((!a0.Some) = true)
   (kp true)
   (kp (decide (a0.Hi < a0.Lo)))

/-- augur/augurref12.Of -/
def p_augurref12_Of (a0 : Int) (a1 : Int) (R : T_api_Ival → Prop) : Prop :=
  p_augurref12_Norm (⟨true, a0, a1⟩ : T_api_Ival) fun r =>
  R r

/-- augur/augurref12.Join -/
def p_augurref12_Join (a0 : List T_api_Ival) (R : T_api_Ival → Prop) : Prop :=
  Pl.loop2 (0 : Int) (⟨false, 0, 0⟩ : T_api_Ival) fun x_3 x_4 next =>
  Pl.ite (x_3 < (List.length a0 : Int))
   (Pl.join (fun (x_5 : T_api_Ival) =>
      next (IntKind.wrap .i64 (x_3 + 1)) x_5)
     fun kp =>
    Pl.get a0 x_3 fun a =>
    p_augurref12_Norm a fun r_1 =>
    Pl.ite ((!r_1.Some) = true)
     (kp x_4)
     (Pl.ite ((!x_4.Some) = true)
       (kp r_1)
       (p_augurref12_Of (min x_4.Lo r_1.Lo) (max x_4.Hi r_1.Hi) fun r_2 =>
        kp r_2)))
   (R x_4)

/-- augur/augurref12.Widen -/
def p_augurref12_Widen (a0 : T_api_Ival) (a1 : T_api_Ival) (R : T_api_Ival → Prop) : Prop :=
  p_augurref12_Norm a0 fun r =>
  p_augurref12_Norm a1 fun r_1 =>
  Pl.ite ((!r.Some) = true)
   (R r_1)
   (Pl.ite ((!r_1.Some) = true)
     (R r)
     (Pl.join (fun (x : Int) =>
        Pl.join (fun (x_1 : Int) =>
          R (⟨r.Some, x, x_1⟩ : T_api_Ival))
         fun kp_1 =>
        Pl.ite (r.Hi < r_1.Hi)
         (kp_1 9223372036854775807)
         (kp_1 r.Hi))
       fun kp =>
      Pl.ite (r_1.Lo < r.Lo)
       (kp (-9223372036854775808))
       (kp r.Lo)))

/-- augur/augurref12.two -/
def p_augurref12_two (a0 : T_api_Ival) (a1 : T_api_Ival) (a2 : Bool) (R : T_api_Ival → Prop) : Prop :=
  Pl.ite (a2 = true)
   (p_augurref12_Widen a0 a1 fun r =>
    R r)
   (p_augurref12_Join [a0, a1] fun r_2 =>
    R r_2)

/-- augur/augurref12.mod -/
def p_augurref12_mod (a0 : T_api_Summary) (a1 : Str) (R : T_api_Ival → Prop) : Prop :=
  Pl.loop1 (0 : Int) fun x_1 next =>
  Pl.ite (x_1 < (List.length a0.Mod : Int))
   (Pl.get a0.Mod x_1 fun a =>
    Pl.ite (a.Name = a1)
     (Pl.get a0.Mod x_1 fun a_1 =>
      R a_1.V)
     (next (IntKind.wrap .i64 (x_1 + 1))))
   (R (⟨false, 0, 0⟩ : T_api_Ival))

/-- augur/augurref10.Add -/
def p_augurref10_Add (a0 : List Str) (a1 : Str) (R : (List Str) → Prop) : Prop :=
  Pl.loop1 (0 : Int) fun x_1 next =>
  Pl.join (fun (x_2 : Bool) =>
    Pl.ite (x_2 = true)
     (next (IntKind.wrap .i64 (x_1 + 1)))
     (Pl.join (fun (x_3 : Bool) =>
        Pl.ite (x_3 = true)
         (R a0)
         (Pl.slc a0 0 x_1 fun l =>
          Pl.slc a0 x_1 (List.length a0 : Int) fun l_1 =>
          Pl.app [a1] l_1 fun l_2 =>
          Pl.appc l l_2 fun l_3 =>
          R l_3))
       fun kp_1 =>
      Pl.ite (x_1 < (List.length a0 : Int))
       (Pl.get a0 x_1 fun a =>
        kp_1 (decide (a = a1)))
       (kp_1 false)))
   fun kp =>
  Pl.ite (x_1 < (List.length a0 : Int))
   (Pl.get a0 x_1 fun a_1 =>
    kp (Pl.slss a_1 a1))
   (kp false)

/-- augur/digest.Join$1 -/
def p_digest_Join_1 (a0 : T_api_Ival) (a1 : T_api_Ival) (R : T_api_Ival → Prop) : Prop :=
  p_ival_Join [a0, a1] fun r_1 =>
  R r_1

/-- (*augur/code.plain).Num -/
def p_code_plain_Num (a0 : T_code_plain) (a1 : List Int) (R : T_code_plain → Prop) : Prop :=
  Pl.loop2 (0 : Int) a0.b fun x_3 l_2 next =>
  Pl.ite (x_3 < (List.length a1 : Int))
   (Pl.get a1 x_3 fun a =>
    Pl.loop2 a l_2 fun x_7 l_5 next_1 =>
    Pl.ite (128 ≤ x_7)
     (Pl.app l_5 [Pl.bor .u8 (IntKind.wrap .u8 x_7) 128] fun l_6 =>
      Pl.ok ((0 : Int) ≤ 7) <|
      next_1 (Pl.shr .u64 x_7 7) l_6)
     (Pl.app l_5 [IntKind.wrap .u8 x_7] fun l_7 =>
      next (IntKind.wrap .i64 (x_3 + 1)) l_7))
   (R (⟨l_2⟩ : T_code_plain))

/-- (*augur/code.plain).Int -/
def p_code_plain_Int (a0 : T_code_plain) (a1 : List Int) (R : T_code_plain → Prop) : Prop :=
  Pl.loop2 (0 : Int) a0.b fun x_2 l_1 next =>
  Pl.ite (x_2 < (List.length a1 : Int))
   (Pl.join (fun (l_2 : List Int) =>
      next (IntKind.wrap .i64 (x_2 + 1)) l_2)
     fun kp =>
    Pl.get a1 x_2 fun a =>
    Pl.ite (0 ≤ a)
     (p_code_plain_Num (⟨l_1⟩ : T_code_plain) [IntKind.wrap .u64 ((IntKind.wrap .u64 a) * 2)] fun b =>
      kp b.b)
     (p_code_plain_Num (⟨l_1⟩ : T_code_plain) [IntKind.wrap .u64 ((IntKind.wrap .u64 ((IntKind.wrap .u64 (IntKind.wrap .i64 (0 - (IntKind.wrap .i64 (a + 1))))) * 2)) + 1)] fun b_1 =>
      kp b_1.b))
   (R (⟨l_1⟩ : T_code_plain))

/-- (*augur/code.plain).Bool -/
def p_code_plain_Bool (a0 : T_code_plain) (a1 : List Bool) (R : T_code_plain → Prop) : Prop :=
  Pl.loop2 (0 : Int) a0.b fun x_2 l_1 next =>
  Pl.ite (x_2 < (List.length a1 : Int))
   (Pl.join (fun (l_2 : List Int) =>
      next (IntKind.wrap .i64 (x_2 + 1)) l_2)
     fun kp =>
    Pl.get a1 x_2 fun a =>
    Pl.ite (a = true)
     (Pl.app l_1 [1] fun l_3 =>
      kp l_3)
     (Pl.app l_1 [0] fun l_4 =>
      kp l_4))
   (R (⟨l_1⟩ : T_code_plain))

/-- (*augur/code.plain).Text -/
def p_code_plain_Text (a0 : T_code_plain) (a1 : List Str) (R : T_code_plain → Prop) : Prop :=
  Pl.loop2 (0 : Int) a0.b fun x_2 l_1 next =>
  Pl.ite (x_2 < (List.length a1 : Int))
   (Pl.get a1 x_2 fun a =>
    p_code_plain_Num (⟨l_1⟩ : T_code_plain) [IntKind.wrap .u64 (List.length a : Int)] fun b =>
    Pl.app b.b (Pl.bytes a) fun l_2 =>
    next (IntKind.wrap .i64 (x_2 + 1)) l_2)
   (R (⟨l_1⟩ : T_code_plain))

/-- (*augur/code.Writer).interval -/
def p_code_Writer_interval (a0 : T_code_Writer) (a1 : T_api_Ival) (R : T_code_Writer → Prop) : Prop :=
  p_code_plain_Bool a0.plain [a1.Some] fun b =>
  Pl.ite (a1.Some = true)
   (p_code_plain_Int b [a1.Lo, a1.Hi] fun b_1 =>
    R (⟨b_1⟩ : T_code_Writer))
   (R (⟨b⟩ : T_code_Writer))

/-- (*augur/code.Writer).Summary -/
def p_code_Writer_Summary (a0 : T_code_Writer) (a1 : List T_api_Summary) (R : T_code_Writer → Prop) : Prop :=
  Pl.loop2 (0 : Int) a0.plain.b fun x_2 l_1 next =>
  Pl.ite (x_2 < (List.length a1 : Int))
   (Pl.get a1 x_2 fun a =>
    p_code_plain_Num (⟨l_1⟩ : T_code_plain) [IntKind.wrap .u64 (List.length a.Alarms : Int)] fun b =>
    Pl.loop2 (0 : Int) b.b fun x_5 l_3 next_1 =>
    Pl.ite (x_5 < (List.length a.Alarms : Int))
     (Pl.get a.Alarms x_5 fun a_1 =>
      p_code_plain_Int (⟨l_3⟩ : T_code_plain) [a_1.At, a_1.Kind] fun b_1 =>
      next_1 (IntKind.wrap .i64 (x_5 + 1)) b_1.b)
     (p_code_plain_Bool (⟨l_3⟩ : T_code_plain) [a.Ends] fun b_2 =>
      p_code_Writer_interval (⟨b_2⟩ : T_code_Writer) a.Ret fun b_3 =>
      p_code_plain_Num b_3.plain [IntKind.wrap .u64 (List.length a.Mod : Int)] fun b_4 =>
      Pl.loop2 (0 : Int) b_4.b fun x_8 l_5 next_2 =>
      Pl.ite (x_8 < (List.length a.Mod : Int))
       (Pl.get a.Mod x_8 fun a_2 =>
        p_code_plain_Text (⟨l_5⟩ : T_code_plain) [a_2.Name] fun b_5 =>
        p_code_Writer_interval (⟨b_5⟩ : T_code_Writer) a_2.V fun b_6 =>
        next_2 (IntKind.wrap .i64 (x_8 + 1)) b_6.plain.b)
       (next (IntKind.wrap .i64 (x_2 + 1)) l_5)))
   (R (⟨(⟨l_1⟩ : T_code_plain)⟩ : T_code_Writer))

/-- slices.Clone[[]byte,byte] -/
def p_slices_Clone_byte_byte (a0 : List Int) (R : (List Int) → Prop) : Prop :=
  ∀ b : Bool, (b = true → a0 = []) →
  Pl.ite (b = true)
   (R ([] : List Int))
   (Pl.app ([] : List Int) a0 fun l =>
    R l)

/-- augur/code.NewWriter -/
def p_code_NewWriter  (R : T_code_Writer → Prop) : Prop :=
  R (⟨(⟨([] : List Int)⟩ : T_code_plain)⟩ : T_code_Writer)

/-- (*augur/code.plain).Bytes -/
def p_code_plain_Bytes (a0 : T_code_plain) (R : (List Int) → Prop) : Prop :=
  p_slices_Clone_byte_byte a0.b fun r_1 =>
  R r_1

/-- augur/digest.Bytes -/
def p_digest_Bytes (a0 : T_api_Summary) (R : Str → Prop) : Prop :=
  p_code_NewWriter fun r_2 =>
  p_code_Writer_Summary r_2 [a0] fun b =>
  p_code_plain_Bytes b.plain fun r_4 =>
  Pl.str r_4 fun s_1 =>
  R s_1

/-- augur/digest.Bottom -/
def p_digest_Bottom  (R : T_api_Summary → Prop) : Prop :=
  R (⟨([] : List T_api_Alarm), false, (⟨false, 0, 0⟩ : T_api_Ival), ([] : List T_api_Named)⟩ : T_api_Summary)

/-- augur/augurref12.AddAlarms -/
def p_augurref12_AddAlarms (a0 : List T_api_Alarm) (a1 : List T_api_Alarm) (R : (List T_api_Alarm) → Prop) : Prop :=
  Pl.loop2 a0 (0 : Int) fun l_1 x_1 next =>
  Pl.ite (x_1 < (List.length a1 : Int))
   (Pl.join (fun (l_2 : List T_api_Alarm) =>
      next l_2 (IntKind.wrap .i64 (x_1 + 1)))
     fun kp =>
    Pl.loop1 (0 : Int) fun x_3 next_1 =>
    Pl.join (fun (x_4 : Bool) =>
      Pl.ite (x_4 = true)
       (next_1 (IntKind.wrap .i64 (x_3 + 1)))
       (Pl.join (fun (x_5 : Bool) =>
          Pl.ite (x_5 = true)
           (Pl.slc l_1 0 x_3 fun l_3 =>
            Pl.get a1 x_1 fun a =>
            Pl.slc l_1 x_3 (List.length l_1 : Int) fun l_4 =>
            Pl.app [a] l_4 fun l_5 =>
            Pl.appc l_3 l_5 fun l_6 =>
            kp l_6)
           (kp l_1))
         fun kp_2 =>
        Pl.ite (x_3 = (List.length l_1 : Int))
         (kp_2 true)
         (Pl.get l_1 x_3 fun a_1 =>
          Pl.get a1 x_1 fun a_2 =>
          kp_2 (decide (a_1 ≠ a_2)))))
     fun kp_1 =>
    Pl.ite (x_3 < (List.length l_1 : Int))
     (Pl.get l_1 x_3 fun a_3 =>
      Pl.get a1 x_1 fun a_4 =>
      Pl.join (fun (x_6 : Bool) =>
        kp_1 x_6)
       fun kp_3 =>
      Pl.ite (a_3.At < a_4.At)
       (kp_3 true)
       (Pl.get l_1 x_3 fun a_5 =>
        Pl.get a1 x_1 fun a_6 =>
        Pl.join (fun (x_7 : Bool) =>
          kp_3 x_7)
         fun kp_4 =>
        Pl.ite (a_5.At = a_6.At)
         (Pl.get l_1 x_3 fun a_7 =>
          Pl.get a1 x_1 fun a_8 =>
          kp_4 (decide (a_7.Kind < a_8.Kind)))
         (kp_4 false)))
     (kp_1 false))
   (R l_1)

/-- augur/augurref12.Sjoin -/
def p_augurref12_Sjoin (a0 : T_api_Summary) (a1 : T_api_Summary) (a2 : Bool) (R : T_api_Summary → Prop) : Prop :=
  Pl.app ([] : List T_api_Alarm) a0.Alarms fun l =>
  p_augurref12_AddAlarms l a1.Alarms fun r_5 =>
  Pl.join (fun (x : Bool) =>
    p_augurref12_two a0.Ret a1.Ret a2 fun r_7 =>
    Pl.loop2 ([] : List Str) (0 : Int) fun l_3 x_3 next =>
    Pl.ite (x_3 < (List.length a0.Mod : Int))
     (Pl.get a0.Mod x_3 fun a =>
      p_augurref10_Add l_3 a.Name fun r_11 =>
      next r_11 (IntKind.wrap .i64 (x_3 + 1)))
     (Pl.loop2 l_3 (0 : Int) fun l_5 x_5 next_1 =>
      Pl.ite (x_5 < (List.length a1.Mod : Int))
       (Pl.get a1.Mod x_5 fun a_1 =>
        p_augurref10_Add l_5 a_1.Name fun r_15 =>
        next_1 r_15 (IntKind.wrap .i64 (x_5 + 1)))
       (Pl.loop2 (0 : Int) ([] : List T_api_Named) fun x_8 l_7 next_2 =>
        Pl.ite (x_8 < (List.length l_5 : Int))
         (Pl.get l_5 x_8 fun a_2 =>
          Pl.get l_5 x_8 fun a_3 =>
          Pl.get l_5 x_8 fun a_4 =>
          p_augurref12_mod a0 a_3 fun r_17 =>
          p_augurref12_mod a1 a_4 fun r_18 =>
          p_augurref12_two r_17 r_18 a2 fun r_19 =>
          Pl.app l_7 [(⟨a_2, r_19⟩ : T_api_Named)] fun l_8 =>
          next_2 (IntKind.wrap .i64 (x_8 + 1)) l_8)
         (R (⟨r_5, x, r_7, l_7⟩ : T_api_Summary)))))
   fun kp =>
  Pl.ite (a0.Ends = true)
   (kp true)
   (kp a1.Ends)

/-- augur/augurlaw19.made -/
def p_augurlaw19_made (a0 : T_augurlaw19_Raw) (R : T_api_Summary → Prop) : Prop :=
  Pl.loop2 (0 : Int) ([] : List T_api_Alarm) fun x_2 l_1 next =>
  Pl.ite (x_2 < (List.length a0.Alarms : Int))
   (Pl.get a0.Alarms x_2 fun a =>
    Pl.ok ((6 : Int) ≠ 0) <|
    Pl.get a0.Alarms x_2 fun a_1 =>
    Pl.ok ((6 : Int) ≠ 0) <|
    p_augurref12_AddAlarms l_1 [(⟨IntKind.wrap .i64 (IntKind.wrap .u8 (Int.tdiv a 6)), IntKind.wrap .i64 (Int.tmod a_1 6)⟩ : T_api_Alarm)] fun r_5 =>
    next (IntKind.wrap .i64 (x_2 + 1)) r_5)
   (Pl.ite ((!a0.Ends) = true)
     (R (⟨l_1, false, (⟨false, 0, 0⟩ : T_api_Ival), ([] : List T_api_Named)⟩ : T_api_Summary))
     (p_augurref12_Of (min a0.Lo a0.Hi) (max a0.Lo a0.Hi) fun r_7 =>
      Pl.loop2 ([] : List Str) (0 : Int) fun l_4 x_5 next_1 =>
      Pl.ite (x_5 < (List.length a0.Mod : Int))
       (Pl.get a0.Mod x_5 fun a_2 =>
        Pl.ok ((4 : Int) ≠ 0) <|
        Pl.get a0.Mod x_5 fun a_3 =>
        Pl.ok ((4 : Int) ≠ 0) <|
        Pl.slc ([97, 98, 99, 100] : Str) (Int.tmod a_2.N 4) (IntKind.wrap .u8 ((Int.tmod a_3.N 4) + 1)) fun s_1 =>
        p_augurref10_Add l_4 s_1 fun r_11 =>
        next_1 r_11 (IntKind.wrap .i64 (x_5 + 1)))
       (Pl.loop2 (0 : Int) ([] : List T_api_Named) fun x_8 l_6 next_2 =>
        Pl.ite (x_8 < (List.length l_4 : Int))
         (Pl.get l_4 x_8 fun a_4 =>
          Pl.get a0.Mod x_8 fun a_5 =>
          Pl.get a0.Mod x_8 fun a_6 =>
          Pl.get a0.Mod x_8 fun a_7 =>
          Pl.get a0.Mod x_8 fun a_8 =>
          p_augurref12_Of (min a_5.Lo a_6.Hi) (max a_7.Lo a_8.Hi) fun r_13 =>
          Pl.app l_6 [(⟨a_4, r_13⟩ : T_api_Named)] fun l_7 =>
          next_2 (IntKind.wrap .i64 (x_8 + 1)) l_7)
         (R (⟨l_1, true, r_7, l_6⟩ : T_api_Summary)))))

/-- augur/augurhelp.Alarms -/
def p_augurhelp_Alarms (a0 : List T_api_Alarm) (a1 : List T_api_Alarm) (R : Bool → Prop) : Prop :=
  Pl.ite ((List.length a0 : Int) ≠ (List.length a1 : Int))
   (R false)
   (Pl.loop1 (0 : Int) fun x_1 next =>
    Pl.ite (x_1 < (List.length a0 : Int))
     (Pl.get a0 x_1 fun a =>
      Pl.get a1 x_1 fun a_1 =>
      Pl.ite (a ≠ a_1)
       (R false)
       (next (IntKind.wrap .i64 (x_1 + 1))))
     (R true))

/-- augur/augurhelp.Summary -/
def p_augurhelp_Summary (a0 : T_api_Summary) (a1 : T_api_Summary) (R : Bool → Prop) : Prop :=
  Pl.join (fun (x : Bool) =>
    Pl.join (fun (x_1 : Bool) =>
      Pl.join (fun (x_2 : Bool) =>
        Pl.ite (x_2 = true)
         (R false)
         (Pl.loop1 (0 : Int) fun x_4 next =>
          Pl.ite (x_4 < (List.length a0.Mod : Int))
           (Pl.get a0.Mod x_4 fun a =>
            Pl.get a1.Mod x_4 fun a_1 =>
            Pl.ite (a ≠ a_1)
             (R false)
             (next (IntKind.wrap .i64 (x_4 + 1))))
           (R true)))
       fun kp_2 =>
      Pl.ite (x_1 = true)
       (kp_2 true)
       (kp_2 (decide ((List.length a0.Mod : Int) ≠ (List.length a1.Mod : Int)))))
     fun kp_1 =>
    Pl.ite (x = true)
     (kp_1 true)
     (p_augurhelp_Alarms a0.Alarms a1.Alarms fun r_4 =>
      kp_1 (!r_4)))
   fun kp =>
  Pl.ite ((a0.Ends != a1.Ends) = true)
   (kp true)
   (kp (decide (a0.Ret ≠ a1.Ret)))

/-- augur/augurref12.Ssame -/
def p_augurref12_Ssame (a0 : T_api_Summary) (a1 : T_api_Summary) (R : Bool → Prop) : Prop :=
  Pl.join (fun (x : Bool) =>
    Pl.join (fun (x_1 : Bool) =>
      Pl.join (fun (x_2 : Bool) =>
        Pl.ite (x_2 = true)
         (R false)
         (Pl.loop1 (0 : Int) fun x_4 next =>
          Pl.ite (x_4 < (List.length a0.Alarms : Int))
           (Pl.get a0.Alarms x_4 fun a =>
            Pl.get a1.Alarms x_4 fun a_1 =>
            Pl.ite (a ≠ a_1)
             (R false)
             (next (IntKind.wrap .i64 (x_4 + 1))))
           (Pl.loop1 (0 : Int) fun x_6 next_1 =>
            Pl.ite (x_6 < (List.length a0.Mod : Int))
             (Pl.get a0.Mod x_6 fun a_2 =>
              Pl.get a1.Mod x_6 fun a_3 =>
              Pl.join (fun (x_7 : Bool) =>
                Pl.ite (x_7 = true)
                 (R false)
                 (next_1 (IntKind.wrap .i64 (x_6 + 1))))
               fun kp_3 =>
              Pl.ite (a_2.Name ≠ a_3.Name)
               (kp_3 true)
               (Pl.get a0.Mod x_6 fun a_4 =>
                Pl.det (p_augurref12_Norm a_4.V) fun r_4 =>
                Pl.get a1.Mod x_6 fun a_5 =>
                Pl.det (p_augurref12_Norm a_5.V) fun r_5 =>
                kp_3 (decide (r_4 ≠ r_5))))
             (R true))))
       fun kp_2 =>
      Pl.ite (x_1 = true)
       (kp_2 true)
       (kp_2 (decide ((List.length a0.Mod : Int) ≠ (List.length a1.Mod : Int)))))
     fun kp_1 =>
    Pl.ite (x = true)
     (kp_1 true)
     (kp_1 (decide ((List.length a0.Alarms : Int) ≠ (List.length a1.Alarms : Int)))))
   fun kp =>
  Pl.ite ((a0.Ends != a1.Ends) = true)
   (kp true)
   (Pl.det (p_augurref12_Norm a0.Ret) fun r_6 =>
    Pl.det (p_augurref12_Norm a1.Ret) fun r_7 =>
    kp (decide (r_6 ≠ r_7)))

/-- augur/augurlaw19.light -/
def p_augurlaw19_light (a0 : List T_augurlaw19_Raw) (R : Bool → Prop) : Prop :=
  Pl.loop1 (0 : Int) fun x_1 next =>
  Pl.ite (x_1 < (List.length a0 : Int))
   (Pl.get a0 x_1 fun a =>
    Pl.join (fun (x_2 : Bool) =>
      Pl.ite (x_2 = true)
       (R false)
       (next (IntKind.wrap .i64 (x_1 + 1))))
     fun kp =>
    Pl.ite (8 < (List.length a.Alarms : Int))
     (kp true)
     (Pl.get a0 x_1 fun a_1 =>
      kp (decide (6 < (List.length a_1.Mod : Int)))))
   (R true)

/-- slices.Equal[[]augur/api.Alarm,augur/api.Alarm] -/
def p_slices_Equal_api_Alarm_api_Alarm (a0 : List T_api_Alarm) (a1 : List T_api_Alarm) (R : Bool → Prop) : Prop :=
  Pl.ite ((List.length a0 : Int) ≠ (List.length a1 : Int))
   (R false)
   (Pl.loop1 (0 : Int) fun x_1 next =>
    Pl.ite (x_1 < (List.length a0 : Int))
     (Pl.get a0 x_1 fun a =>
      Pl.get a1 x_1 fun a_1 =>
      Pl.ite (a ≠ a_1)
       (R false)
       (next (IntKind.wrap .i64 (x_1 + 1))))
     (R true))

/-- slices.Equal[[]augur/api.Named,augur/api.Named] -/
def p_slices_Equal_api_Named_api_Named (a0 : List T_api_Named) (a1 : List T_api_Named) (R : Bool → Prop) : Prop :=
  Pl.ite ((List.length a0 : Int) ≠ (List.length a1 : Int))
   (R false)
   (Pl.loop1 (0 : Int) fun x_1 next =>
    Pl.ite (x_1 < (List.length a0 : Int))
     (Pl.get a0 x_1 fun a =>
      Pl.get a1 x_1 fun a_1 =>
      Pl.ite (a ≠ a_1)
       (R false)
       (next (IntKind.wrap .i64 (x_1 + 1))))
     (R true))

/-- augur/digest.Same -/
def p_digest_Same (a0 : T_api_Summary) (a1 : T_api_Summary) (R : Bool → Prop) : Prop :=
  Pl.join (fun (x : Bool) =>
    Pl.join (fun (x_1 : Bool) =>
      Pl.join (fun (x_2 : Bool) =>
        R x_2)
       fun kp_2 =>
      Pl.ite (x_1 = true)
       (p_slices_Equal_api_Named_api_Named a0.Mod a1.Mod fun r_4 =>
        kp_2 r_4)
       (kp_2 false))
     fun kp_1 =>
    Pl.ite (x = true)
     (p_slices_Equal_api_Alarm_api_Alarm a0.Alarms a1.Alarms fun r_5 =>
      kp_1 r_5)
     (kp_1 false))
   fun kp =>
  Pl.ite ((a0.Ends == a1.Ends) = true)
   (kp (decide (a0.Ret = a1.Ret)))
   (kp false)

end Go.Proofs.Ytaibfbakhiainaa

namespace Go.Sh

/-! ### Frames that are told -/
inductive SV where
  | lit (b : Bool)
  | un
  | gone
  | c (v : Value)
  | s (i : Nat) (v : Value)
def SV.v : SV → Value
  | .lit b => .bool b
  | .un => undef
  | .gone => undef
  | .c v => v
  | .s _ v => v
def SV.ok : SV → Bool
  | .gone => false
  | _ => true
def getL : List (Nat × SV) → Nat → SV → SV
  | [], _, d => d
  | (j, x) :: r, i, d => bif Nat.beq i j then x else getL r i d
structure Fr where
  l : List (Nat × SV)
  g : Nat
def Fr.get (fr : Fr) (i : Nat) : SV := getL fr.l i (bif fr.g.testBit i then .gone else .un)
def Fr.put (fr : Fr) (d : Nat) (x : SV) : Fr := ⟨(d, x) :: fr.l.filter (fun p => !Nat.beq p.1 d), fr.g⟩
def newL : List (Nat × SV) → Nat
  | [] => 0
  | (_, .s i _) :: r => bif Nat.blt (newL r) (i + 1) then i + 1 else newL r
  | _ :: r => newL r
def Fr.new (fr : Fr) : Nat := newL fr.l
def subV (i : Nat) (b : Bool) : SV → SV
  | .s j v => bif Nat.beq j i then .lit b else .s j v
  | x => x
def Fr.subst (fr : Fr) (i : Nat) (b : Bool) : Fr := ⟨fr.l.map fun p => (p.1, subV i b p.2), fr.g⟩
def syms : Nat → List Nat → List Value → List (Nat × SV)
  | k, p :: ps, v :: vs => (p, .s k v) :: syms (k + 1) ps vs
  | _, _, _ => []
def Fr.meet (fr : Fr) (ms : Nat) (par : List Nat) (vals : List Value) : Fr :=
  ⟨syms fr.new par vals ++ fr.l.filter (fun p => !ms.testBit p.1), fr.g ||| ms⟩
def Fr.oks (fr : Fr) (par : List Nat) : Bool := par.all fun j => (fr.get j).ok
def Fr.vals (fr : Fr) (par : List Nat) : List Value := par.map fun j => (fr.get j).v

structure Ag (fr : Fr) (f : Nat → Value) : Prop where
  val : ∀ j, (fr.get j).ok = true → f j = (fr.get j).v
  id : ∃ ρ : Nat → Value, ∀ p ∈ fr.l, ∀ i v, p.2 = .s i v → v = ρ i

theorem beq_iff {a b : Nat} : Nat.beq a b = true ↔ a = b := by simp [Nat.beq_eq]
theorem getL_filter {q : Nat → Bool} : ∀ (l : List (Nat × SV)) (i : Nat) (d : SV), getL (l.filter fun p => q p.1) i d = bif q i then getL l i d else d
  | [], i, d => by cases q i <;> rfl
  | (j, x) :: r, i, d => by
    by_cases hj : q j = true
    · rw [List.filter_cons_of_pos (by simpa using hj)]
      simp only [getL, getL_filter r i d]
      by_cases h : i = j
      · subst h; simp [hj]
      · have : Nat.beq i j = false := by simpa [← Bool.not_eq_true, Nat.beq_eq] using h
        simp [this]
    · rw [List.filter_cons_of_neg (by simpa using hj)]
      simp only [getL, getL_filter r i d]
      by_cases h : i = j
      · subst h; simp [Bool.eq_false_iff.2 hj]
      · have : Nat.beq i j = false := by simpa [← Bool.not_eq_true, Nat.beq_eq] using h
        simp [this]
theorem getL_del (l : List (Nat × SV)) (i d : Nat) (z : SV) : getL (l.filter fun p => !Nat.beq p.1 d) i z = bif !Nat.beq i d then getL l i z else z := getL_filter (q := fun a => !Nat.beq a d) l i z
theorem getL_out (l : List (Nat × SV)) (i m : Nat) (z : SV) : getL (l.filter fun p => !m.testBit p.1) i z = bif !m.testBit i then getL l i z else z := getL_filter (q := fun a => !m.testBit a) l i z
theorem sv_g {b : Bool} {i : Nat} {v : Value} (h : SV.s i v = bif b then .gone else .un) : False := by cases b <;> cases h
theorem getL_map {g : SV → SV} : ∀ (l : List (Nat × SV)) (i : Nat) (d : SV), g d = d → getL (l.map fun p => (p.1, g p.2)) i d = g (getL l i d)
  | [], _, _, h => h.symm
  | (j, x) :: r, i, d, h => by
    simp only [List.map_cons, getL, getL_map r i d h]
    cases Nat.beq i j <;> rfl
theorem getL_append : ∀ (a b : List (Nat × SV)) (i : Nat) (d : SV), getL (a ++ b) i d = getL a i (getL b i d)
  | [], _, _, _ => rfl
  | (j, x) :: r, b, i, d => by simp only [List.cons_append, getL, getL_append r b i d]
theorem getL_mem : ∀ (l : List (Nat × SV)) (i : Nat) (d : SV), getL l i d = d ∨ ∃ p ∈ l, p.2 = getL l i d
  | [], _, _ => .inl rfl
  | (j, x) :: r, i, d => by
    simp only [getL]
    cases Nat.beq i j with
    | true => exact .inr ⟨(j, x), by simp, rfl⟩
    | false => exact (getL_mem r i d).imp id fun ⟨p, hp, h⟩ => ⟨p, by simp [hp], h⟩
theorem newL_lt : ∀ {l : List (Nat × SV)} {p : Nat × SV} {i : Nat} {v : Value}, p ∈ l → p.2 = .s i v → i < newL l
  | (j, x) :: r, p, i, v, hp, h => by
    rcases List.mem_cons.1 hp with rfl | hp
    · simp only at h; subst h
      simp only [newL]
      cases hb : Nat.blt (newL r) (i + 1) with
      | true => simp
      | false =>
        have : ¬ newL r < i + 1 := fun hc => by rw [(by simpa using hc : Nat.blt (newL r) (i + 1) = true)] at hb; cases hb
        simp; omega
    · have ih := newL_lt hp h
      cases x with
      | s k u =>
        simp only [newL]
        cases hb : Nat.blt (newL r) (k + 1) with
        | true =>
          have : newL r < k + 1 := by simpa using hb
          simp only [cond_true]; omega
        | false => simpa using ih
      | _ => exact ih

theorem Ag.put {fr : Fr} {f : Nat → Value} (h : Ag fr f) (d : Nat) {x : SV} (hx : ∀ i v, x = .s i v → ∃ p ∈ fr.l, p.2 = .s i v) {u : Value} (hu : x.ok = true → u = x.v) : Ag (fr.put d x) (upd f d u) := by
  obtain ⟨hv, ρ, hρ⟩ := h
  refine ⟨fun j hj => ?_, ρ, fun p hp i v e => ?_⟩
  · simp only [Fr.get, Fr.put, getL] at hj ⊢
    by_cases hjd : j = d
    · subst hjd
      simp only [Nat.beq_refl, cond_true] at hj ⊢
      simp only [upd, Nat.beq_refl, cond_true]
      exact hu hj
    · have hb : Nat.beq j d = false := by simpa [← Bool.not_eq_true, Nat.beq_eq] using hjd
      rw [hb] at hj ⊢
      rw [getL_del] at hj ⊢
      simp only [hb, Bool.not_false, cond_true, cond_false] at hj ⊢
      simp only [upd, hb, cond_false]
      exact hv j hj
  · rcases List.mem_cons.1 hp with rfl | hp
    · obtain ⟨p, hp, h2⟩ := hx i v e
      exact hρ p hp i v h2
    · exact hρ p (List.mem_filter.1 hp).1 i v e
theorem Ag.fresh {fr : Fr} {f : Nat → Value} (h : Ag fr f) (d : Nat) (v : Value) : Ag (fr.put d (.s fr.new v)) (upd f d v) := by
  obtain ⟨hv, ρ, hρ⟩ := h
  have h' : Ag ⟨fr.l, fr.g⟩ f := ⟨hv, ρ, hρ⟩
  refine ⟨fun j hj => ?_, fun i => if i = fr.new then v else ρ i, fun p hp i u e => ?_⟩
  · by_cases hjd : j = d
    · subst hjd
      simp [Fr.get, Fr.put, getL, upd, SV.v]
    · have hb : Nat.beq j d = false := by simpa [← Bool.not_eq_true, Nat.beq_eq] using hjd
      simp only [Fr.get, Fr.put, getL, hb] at hj ⊢
      rw [getL_del] at hj ⊢
      simp only [hb, Bool.not_false, cond_true, cond_false] at hj ⊢
      simp only [upd, hb, cond_false]
      exact hv j hj
  · rcases List.mem_cons.1 hp with rfl | hp
    · simp only [SV.s.injEq] at e
      simp [e.1.symm, e.2.symm]
    · have hp' := (List.mem_filter.1 hp).1
      have := newL_lt hp' e
      have hne : i ≠ fr.new := fun hc => by rw [hc] at this; exact Nat.lt_irrefl _ this
      simp only [hne, if_false]
      exact hρ p hp' i u e
theorem Ag.subst {fr : Fr} {f : Nat → Value} (h : Ag fr f) {t i : Nat} {v : Value} {b : Bool} (ht : fr.get t = .s i v) (hv : v = .bool b) : Ag (fr.subst i b) f := by
  obtain ⟨hl, ρ, hρ⟩ := h
  have hi : ρ i = .bool b := by
    rcases getL_mem fr.l t (bif fr.g.testBit t then .gone else .un) with hm | ⟨p, hp, hm⟩
    · rw [← Fr.get, ht] at hm; exact (sv_g hm).elim
    · rw [← Fr.get, ht] at hm
      rw [← hρ p hp i v hm, hv]
  refine ⟨fun j hj => ?_, ρ, fun p hp k u e => ?_⟩
  · have hd : subV i b (bif fr.g.testBit j then .gone else .un) = (bif fr.g.testBit j then .gone else .un) := by cases fr.g.testBit j <;> rfl
    have hg : (fr.subst i b).get j = subV i b (fr.get j) := getL_map (g := subV i b) fr.l j _ hd
    rw [hg] at hj ⊢
    rcases hx : fr.get j with c | _ | _ | c | ⟨k, u⟩
    · rw [hx] at hj; have := hl j (by rw [hx]; rfl); rw [hx] at this; simpa [subV] using this
    · have := hl j (by rw [hx]; rfl); rw [hx] at this; simpa [subV] using this
    · rw [hx] at hj; simp [subV, SV.ok] at hj
    · have := hl j (by rw [hx]; rfl); rw [hx] at this; simpa [subV] using this
    · have h1 := hl j (by rw [hx]; rfl)
      rw [hx] at h1
      simp only [subV]
      by_cases hk : k = i
      · subst hk
        simp only [Nat.beq_refl, cond_true]
        have h2 : u = ρ k := by
          rcases getL_mem fr.l j (bif fr.g.testBit j then .gone else .un) with hm | ⟨p, hp, hm⟩
          · rw [← Fr.get, hx] at hm; exact (sv_g hm).elim
          · rw [← Fr.get, hx] at hm; exact hρ p hp k u hm
        simp only [SV.v] at h1 ⊢
        rw [h1, h2, hi]
      · have hb : Nat.beq k i = false := by simpa [← Bool.not_eq_true, Nat.beq_eq] using hk
        rw [hb]; exact h1
  · obtain ⟨q, hq, rfl⟩ := List.mem_map.1 hp
    simp only at e
    rcases hx : q.2 with c | _ | _ | c | ⟨k', u'⟩ <;> rw [hx] at e <;> simp only [subV] at e
    all_goals first | cases e; done | skip
    by_cases hk : k' = i
    · subst hk; simp at e
    · have hb : Nat.beq k' i = false := by simpa [← Bool.not_eq_true, Nat.beq_eq] using hk
      rw [hb] at e
      simp only [cond_false, SV.s.injEq] at e
      obtain ⟨rfl, rfl⟩ := e
      exact hρ q hq _ _ hx

/-- Slots outside stand. -/
def Same (ms : Nat) (f f' : Nat → Value) : Prop := ∀ j, ms.testBit j = false → f' j = f j
theorem Same.refl (ms : Nat) (f : Nat → Value) : Same ms f f := fun _ _ => rfl
theorem Same.trans {a b : Nat} {f g h : Nat → Value} (h1 : Same a f g) (h2 : Same b g h) : Same (a ||| b) f h := fun j hj => by
  rw [Nat.testBit_or, Bool.or_eq_false_iff] at hj
  rw [h2 j hj.2, h1 j hj.1]
theorem Same.left {a b : Nat} {f g : Nat → Value} (h : Same a f g) : Same (a ||| b) f g := fun j hj => by
  rw [Nat.testBit_or, Bool.or_eq_false_iff] at hj; exact h j hj.1
theorem Same.right {a b : Nat} {f g : Nat → Value} (h : Same b f g) : Same (a ||| b) f g := fun j hj => by
  rw [Nat.testBit_or, Bool.or_eq_false_iff] at hj; exact h j hj.2
theorem Same.twice {a : Nat} {f g h : Nat → Value} (h1 : Same a f g) (h2 : Same a g h) : Same a f h := fun j hj => by rw [h2 j hj, h1 j hj]
theorem Same.upd (f : Nat → Value) (d : Nat) (v : Value) : Same (2 ^ d) f (upd f d v) := fun j hj => by
  rw [Nat.testBit_two_pow] at hj
  have : Nat.beq j d = false := by
    have hne : d ≠ j := by simpa using hj
    simpa [← Bool.not_eq_true, Nat.beq_eq] using fun h => hne h.symm
  simp [Sh.upd, this]

theorem getL_syms (f : Nat → Value) : ∀ (par : List Nat) (k j : Nat) (d : SV), getL (syms k par (par.map f)) j d = d ∨ ∃ i, getL (syms k par (par.map f)) j d = .s i (f j)
  | [], _, _, _ => .inl rfl
  | p :: ps, k, j, d => by
    simp only [List.map_cons, syms, getL]
    by_cases h : j = p
    · subst h; exact .inr ⟨k, by simp⟩
    · have hb : Nat.beq j p = false := by simpa [← Bool.not_eq_true, Nat.beq_eq] using h
      rw [hb]
      exact getL_syms f ps (k + 1) j d
theorem syms_id : ∀ (par : List Nat) (vs : List Value) (k : Nat) (p : Nat × SV), p ∈ syms k par vs → ∀ i v, p.2 = .s i v → k ≤ i ∧ v = vs.getD (i - k) undef
  | p :: ps, v :: vs, k, q, hq, i, u, e => by
    simp only [syms] at hq
    rcases List.mem_cons.1 hq with rfl | hq
    · simp only [SV.s.injEq] at e
      obtain ⟨rfl, rfl⟩ := e
      simp
    · obtain ⟨h1, h2⟩ := syms_id ps vs (k + 1) q hq i u e
      refine ⟨by omega, ?_⟩
      rw [h2, show i - k = (i - (k + 1)) + 1 by omega]
      simp
  | [], _, _, _, hq, _, _, _ => by simp [syms] at hq
  | _ :: _, [], _, _, hq, _, _, _ => by simp [syms] at hq
theorem Ag.meet {fr : Fr} {f f' : Nat → Value} (h : Ag fr f) {ms : Nat} (hs : Same ms f f') (par : List Nat) : Ag (fr.meet ms par (par.map f')) f' := by
  obtain ⟨hl, ρ, hρ⟩ := h
  refine ⟨fun j hj => ?_, fun i => if i < fr.new then ρ i else (par.map f').getD (i - fr.new) undef, fun p hp i v e => ?_⟩
  · simp only [Fr.get, Fr.meet, getL_append] at hj ⊢
    rcases getL_syms f' par fr.new j (getL (fr.l.filter fun p => !ms.testBit p.1) j (bif (fr.g ||| ms).testBit j then .gone else .un)) with h1 | ⟨i, h1⟩
    · rw [h1] at hj ⊢
      rw [getL_out] at hj ⊢
      cases hm : ms.testBit j with
      | true => rw [Nat.testBit_or, hm] at hj; simp [SV.ok] at hj
      | false =>
        rw [Nat.testBit_or, hm] at hj ⊢
        simp only [Bool.not_false, cond_true, Bool.or_false] at hj ⊢
        rw [hs j hm]
        exact hl j hj
    · rw [h1]; rfl
  · rcases List.mem_append.1 hp with hp | hp
    · obtain ⟨h1, h2⟩ := syms_id _ _ _ p hp i v e
      show v = if i < fr.new then ρ i else (par.map f').getD (i - fr.new) undef
      rw [if_neg (by omega)]
      exact h2
    · have hp' := (List.mem_filter.1 hp).1
      have : i < fr.new := newL_lt hp' e
      show v = if i < fr.new then ρ i else (par.map f').getD (i - fr.new) undef
      rw [if_pos this]
      exact hρ p hp' i v e
theorem Ag.vals {fr : Fr} {f : Nat → Value} (h : Ag fr f) {par : List Nat} (hk : fr.oks par = true) : fr.vals par = par.map f := by
  unfold Fr.vals
  refine List.map_congr_left fun j hj => ?_
  exact (h.val j (List.all_eq_true.1 hk j hj)).symm

/-! ### Operands -/
def svc : Value → SV
  | .bool b => .lit b
  | v => .c v
theorem svc_v (v : Value) : (svc v).v = v := by cases v <;> rfl
theorem svc_s (v : Value) (i : Nat) (u : Value) : svc v ≠ .s i u := by cases v <;> simp [svc]
def ev (n : Nat) (fr : Fr) : Operand → SV
  | .tmp t => bif Nat.blt t n then fr.get t else .gone
  | .const v => svc v
  | .global g => .c (.pointer (some ⟨g, 0, none⟩))
  | .func f => .c (.func (.func f) #[] #[])
def rho (n : Nat) (fr : Fr) (x : Operand) : Value := (ev n fr x).v
theorem ev_eq {n : Nat} {fr : Fr} {f : Nat → Value} (h : Ag fr f) {x : Operand} (hk : (ev n fr x).ok = true) : evf n f x = (ev n fr x).v := by
  cases x with
  | tmp t =>
    simp only [ev, evf] at hk ⊢
    cases hb : Nat.blt t n with
    | true => rw [hb] at hk; exact h.val t hk
    | false => rw [hb] at hk; cases hk
  | const v => exact (svc_v v).symm
  | global g => rfl
  | func g => rfl
theorem ev_mem {n : Nat} {fr : Fr} {x : Operand} {i : Nat} {v : Value} (h : ev n fr x = .s i v) : ∃ p ∈ fr.l, p.2 = .s i v := by
  cases x with
  | tmp t =>
    simp only [ev] at h
    cases hb : Nat.blt t n with
    | true =>
      rw [hb] at h
      rcases getL_mem fr.l t (bif fr.g.testBit t then .gone else .un) with hm | ⟨p, hp, hm⟩
      · rw [← Fr.get, show fr.get t = .s i v from h] at hm; exact (sv_g hm).elim
      · rw [← Fr.get, show fr.get t = .s i v from h] at hm; exact ⟨p, hp, hm⟩
    | false => rw [hb] at h; cases h
  | const v => exact absurd h (svc_s v _ _)
  | global g => cases h
  | func g => cases h
def okop (n : Nat) (fr : Fr) (o : Oper) : Bool := o.op.operands.toList.all fun x => (ev n fr x).ok
theorem exec_eq {n : Nat} {fr : Fr} {f : Nat → Value} {o : Oper} (h : Ag fr f) (hk : okop n fr o = true) (hs : ∀ cs b, o.op ≠ .select cs b) : execOp (evf n f) o = execOp (rho n fr) o :=
  execOp_congr o hs fun x hx => ev_eq h (List.all_eq_true.1 hk x (Array.mem_toList_iff.2 hx))

/-! ### Operations -/
inductive Kd where
  | m (x : Operand)
  | q
  | x
  | c
  | no
def Kd.eff : Kd → Bool
  | .x => true
  | .c => true
  | _ => false
def isStr (P : Program) (t : TypeId) : Bool := match P.underlying t with
  | some .string => true
  | _ => false
def isSlc (P : Program) (t : TypeId) : Bool := match P.underlying t with
  | some (.slice _) => true
  | _ => false
def isMap (P : Program) (t : TypeId) : Bool := match P.underlying t with
  | some (.map _ _) => true
  | _ => false
def kd (P : Program) (o : Oper) : Kd := match o.op with
  | .move x => .m x
  | .assign x => .m x
  | .convert s d _ => bif (isStr P s && isSlc P d) || (isSlc P s && isStr P d) then .x else .q
  | .pick .. | .nilCheck .. | .binOp .. | .unOp .. | .makeInterface .. | .makeFunc .. | .slice .. | .fieldAddr .. | .field .. | .indexAddr .. | .index .. | .extract .. | .typeAssert .. | .build .. | .load .. | .lookup .. | .entry .. => .q
  | .panic .. | .alloc .. | .box .. | .buildSlice .. | .store .. | .makeMap .. | .makeSlice .. | .mapUpdate .. | .insert .. | .mapEntry .. | .entryStore .. | .range .. | .next .. => .x
  | .call c => match c.callee with
    | .value _ => .c
    | .invoke _ _ => .c
    | .builtin b => match b with
      | .len | .cap | .min | .max => .q
      | .append | .copy | .delete | .clear => .x
      | _ => .no
  | _ => .no
def arr (ρ : Operand → Value) (l : Array Operand) : Array Value := (l.toList.map ρ).toArray
def oarr (ρ : Operand → Value) : Option Operand → Option Value
  | some x => some (ρ x)
  | none => none
def prs (ρ : Operand → Value) (l : Array (Nat × Operand)) : Array (Nat × Value) := (l.toList.map fun p => (p.1, ρ p.2)).toArray
def opQ (P : Program) (ρ : Operand → Value) (o : Oper) (D : Heap → Prop) (K : Value → Prop) : Prop := match o.op with
  | .pick a b c => oPick P (ρ a) (ρ b) (ρ c) K
  | .nilCheck x => oNil P (ρ x) K
  | .binOp b t x y _ => oBin P b t x y (ρ x) (ρ y) K
  | .unOp b _ x => oUn P b (ρ x) K
  | .convert s d x => oConv P s d (ρ x) K
  | .makeInterface t x => oIface P t (ρ x) K
  | .makeFunc fn l r => oFunc P fn (arr ρ l) (arr ρ r) K
  | .slice t x lo hi mx => oSlice P t (ρ x) (oarr ρ lo) (oarr ρ hi) (oarr ρ mx) K
  | .fieldAddr t x i => oFieldAddr P t (ρ x) i D K
  | .field t x i => oField P t (ρ x) i K
  | .indexAddr t x i => oIdx P t (ρ x) (ρ i) K
  | .index t x i => oIndex P t (ρ x) (ρ i) K
  | .extract x i => oExt P (ρ x) i K
  | .typeAssert x t a ok => oAssert P (ρ x) t a ok K
  | .build t ps => oBuild P t (prs ρ ps) K
  | .load t x => oLoad P t (ρ x) D K
  | .lookup t x i ok => oLook P t (ρ x) (ρ i) ok D K
  | .entry i => oEntry P (ρ i) D K
  | .call c => match c.callee with
    | .builtin .len => match c.args.toList with
      | [x] => bif isMap P (c.argTypes.getD 0 0) then oLenM P c.argTypes o.type (ρ x) D K else oLen P c.argTypes o.type (ρ x) K
      | _ => False
    | .builtin .cap => match c.args.toList with
      | [x] => oCap P c.argTypes o.type (ρ x) K
      | _ => False
    | .builtin .min => oMin P c.argTypes o.type (arr ρ c.args) K
    | .builtin .max => oMax P c.argTypes o.type (arr ρ c.args) K
    | _ => False
  | _ => False
def opX [Gd] (P : Program) (ρ : Operand → Value) (o : Oper) (h : Heap) (K : Value → Heap → Prop) : Prop := match o.op with
  | .convert s d x => oConvX P s d (ρ x) h K
  | .panic x => oPanic P (ρ x) h K
  | .alloc t => oAlloc P t h K
  | .box t x => oBox P t (ρ x) h K
  | .buildSlice t k ps => oBuildSlice P t k (prs ρ ps) h K
  | .store t a v => oStore P t (ρ a) (ρ v) h K
  | .makeMap t r => oMkMap P t (oarr ρ r) h K
  | .makeSlice t l c => oMkSlice P t (ρ l) (ρ c) h K
  | .mapUpdate t m k v => oUpd P t (ρ m) (ρ k) (ρ v) h K
  | .insert t m k v => oUpd P t (ρ m) (ρ k) (ρ v) h K
  | .mapEntry t m k => oMapEntry P t (ρ m) (ρ k) h K
  | .entryStore t m s v => oEntryStore P t (ρ m) (ρ s) (ρ v) h K
  | .range t x => oRange P t (ρ x) h K
  | .next i s => oNext P (ρ i) s o.type h K
  | .call c => match c.callee with
    | .value f => oCall P (ρ f) (arr ρ c.args) h K
    | .invoke r m => oInvoke P (ρ r) m (arr ρ c.args) h K
    | .builtin .append => oAppend P c.argTypes o.type (arr ρ c.args) h K
    | .builtin .copy => oCopy P c.argTypes o.type (arr ρ c.args) h K
    | .builtin .delete => oDelete P c.argTypes o.type (arr ρ c.args) h K
    | .builtin .clear => oClear P c.argTypes o.type (arr ρ c.args) h K
    | _ => False
  | _ => False
def opC [Gd] (P : Program) (ρ : Operand → Value) (o : Oper) (D : Heap → Prop) (K : Value → Prop) : Prop := match o.op with
  | .call c => match c.callee with
    | .value f => oCallQ P (ρ f) (arr ρ c.args) D K
    | .invoke r m => oInvokeQ P (ρ r) m (arr ρ c.args) D K
    | _ => False
  | _ => False

theorem Sp.sq {P : Program} {s : Sem Next} {K : Value → Prop} {D : Heap → Prop} (h : Sp P s K) : Sq P D s K := h.imp fun _ h => ⟨fun w _ => h.1 w, h.2⟩
theorem arr_eq {ρ : Operand → Value} (l : Array Operand) : arr ρ l = l.map ρ := by simp [arr, ← Array.toList_map]
theorem prs_eq {ρ : Operand → Value} (l : Array (Nat × Operand)) : prs ρ l = l.map fun p => (p.1, ρ p.2) := by simp [prs, ← Array.toList_map]
theorem opQ_sound {P : Program} {ρ : Operand → Value} {o : Oper} {D : Heap → Prop} {K : Value → Prop} (h : opQ P ρ o D K) : Sq P D (execOp ρ o) K := by
  obtain ⟨dst, op, type, pos, after, guard⟩ := o
  unfold opQ at h
  cases op <;> simp only at h <;> try exact h.elim
  case pick => exact Sp.sq h
  case nilCheck => exact Sp.sq h
  case binOp => exact Sp.sq h
  case unOp => exact Sp.sq h
  case convert => exact Sp.sq h
  case makeInterface => exact Sp.sq h
  case makeFunc fn l r => rw [arr_eq, arr_eq] at h; simp only [execOp]; exact Sp.sq h
  case slice t x lo hi mx => 
    have : ∀ z : Option Operand, oarr ρ z = z.map ρ := fun z => by cases z <;> rfl
    rw [this, this, this] at h
    simp only [execOp]
    exact Sp.sq h
  case fieldAddr => exact h
  case field => exact Sp.sq h
  case indexAddr => exact Sp.sq h
  case index => exact Sp.sq h
  case extract => exact Sp.sq h
  case typeAssert => exact Sp.sq h
  case build t ps => rw [prs_eq] at h; simp only [execOp]; exact Sp.sq h
  case load => exact h
  case lookup => exact h
  case entry => exact h
  case call c =>
    obtain ⟨cal, args, ats⟩ := c
    have key : ∀ {b : Builtin} {vs : Array Value} {s : Sem Value}, cal = .builtin b → args.map ρ = vs → (builtin b ats type (args.map isConstOpd) vs = nv s) → Sq P D (nv s) K → Sq P D (execOp ρ { dst := dst, op := .call { callee := cal, args := args, argTypes := ats }, type := type, pos := pos, after := after, guard := guard }) K := by
      intro b vs s hc hv hb hk
      subst hc
      have := ex_blt (ρ := ρ) (o := { dst := dst, op := .call { callee := .builtin b, args := args, argTypes := ats }, type := type, pos := pos, after := after, guard := guard }) (b := b) (l := args.toList) (ats := ats) (by simp)
      rw [this]
      simp only [← Array.toList_map, Array.toArray_toList] 
      rw [hv, hb]
      exact hk
    have one : ∀ {x : Operand}, args.toList = [x] → args.map ρ = #[ρ x] := fun {x} hl => by
      have : args = #[x] := by apply Array.ext'; simpa using hl
      subst this; simp
    cases cal with
    | builtin b =>
      cases b <;> simp only at h <;> try exact h.elim
      · split at h
        · rename_i x hl
          exact key (b := .cap) (s := Builtin.cap_ ats type #[ρ x]) rfl (one hl) rfl (Sp.sq h)
        · exact h.elim
      · split at h
        · rename_i x hl
          cases hm : isMap P (ats.getD 0 0) <;> rw [hm] at h
          · exact key (b := .len) (s := Builtin.len_ ats type #[ρ x]) rfl (one hl) rfl (Sp.sq h)
          · exact key (b := .len) (s := Builtin.len_ ats type #[ρ x]) rfl (one hl) rfl h
        · exact h.elim
      · exact key (b := .max) (s := Builtin.max_ ats type (arr ρ args)) rfl (arr_eq args).symm rfl (Sp.sq h)
      · exact key (b := .min) (s := Builtin.min_ ats type (arr ρ args)) rfl (arr_eq args).symm rfl (Sp.sq h)
    | value f => exact h.elim
    | invoke r m => exact h.elim
theorem opX_sound [Gd] {P : Program} {ρ : Operand → Value} {o : Oper} {h : Heap} {K : Value → Heap → Prop} (hx : opX P ρ o h K) : Sx P (execOp ρ o) h K := by
  obtain ⟨dst, op, type, pos, after, guard⟩ := o
  unfold opX at hx
  cases op <;> simp only at hx <;> try exact hx.elim
  case convert => exact hx
  case panic => exact hx
  case alloc => exact hx
  case box => exact hx
  case buildSlice t k ps => rw [prs_eq] at hx; simp only [execOp]; exact hx
  case store => exact hx
  case makeMap t r =>
    cases r <;> exact hx
  case makeSlice => exact hx
  case mapUpdate => exact hx
  case insert => exact hx
  case mapEntry => exact hx
  case entryStore => exact hx
  case range => exact hx
  case next => exact hx
  case call c =>
    obtain ⟨cal, args, ats⟩ := c
    have key : ∀ {b : Builtin} {s : Sem Value}, cal = .builtin b → (builtin b ats type (args.map isConstOpd) (arr ρ args) = nv s) → Sx P (nv s) h K → Sx P (execOp ρ { dst := dst, op := .call { callee := cal, args := args, argTypes := ats }, type := type, pos := pos, after := after, guard := guard }) h K := by
      intro b s hc hb hk
      subst hc
      have := ex_blt (ρ := ρ) (o := { dst := dst, op := .call { callee := .builtin b, args := args, argTypes := ats }, type := type, pos := pos, after := after, guard := guard }) (b := b) (l := args.toList) (ats := ats) (by simp)
      rw [this]
      rw [show (List.map isConstOpd args.toList).toArray = args.map isConstOpd by simp [← Array.toList_map], show (List.map ρ args.toList).toArray = arr ρ args from rfl, hb]
      exact hk
    cases cal with
    | value f =>
      rw [ex_call (f := f) (l := args.toList) (ats := ats) (by simp)]
      exact hx
    | invoke r m =>
      rw [ex_invoke (f := r) (m := m) (l := args.toList) (ats := ats) (by simp)]
      exact hx
    | builtin b =>
      cases b <;> simp only at hx <;> try exact hx.elim
      · exact key (b := .append) (s := Builtin.append_ ats type (arr ρ args)) rfl rfl hx
      · exact key (b := .clear) (s := Builtin.clear_ ats type (arr ρ args)) rfl rfl hx
      · exact key (b := .copy) (s := Builtin.copy_ ats type (arr ρ args)) rfl rfl hx
      · exact key (b := .delete) (s := Builtin.delete_ ats type (arr ρ args)) rfl rfl hx
theorem opC_sound [Gd] {P : Program} {ρ : Operand → Value} {o : Oper} {D : Heap → Prop} {K : Value → Prop} (hx : opC P ρ o D K) : Sc P D (execOp ρ o) K := by
  obtain ⟨dst, op, type, pos, after, guard⟩ := o
  unfold opC at hx
  cases op <;> simp only at hx <;> try exact hx.elim
  case call c =>
    obtain ⟨cal, args, ats⟩ := c
    simp only at hx
    cases cal with
    | value f =>
      rw [ex_call (f := f) (l := args.toList) (ats := ats) (by simp)]
      exact hx
    | invoke r m =>
      rw [ex_invoke (f := r) (m := m) (l := args.toList) (ats := ats) (by simp)]
      exact hx
    | builtin b => exact hx.elim
theorem kd_sel {P : Program} {o : Oper} (h : kd P o ≠ .no) (cs : Array SelectCase) (b : Bool) : o.op ≠ .select cs b := fun e => h (by simp [kd, e])

theorem kd_m {P : Program} {o : Oper} {x : Operand} (h : kd P o = .m x) : o.op = .move x ∨ o.op = .assign x := by
  obtain ⟨dst, op, type, pos, after, guard⟩ := o
  cases op <;> simp only [kd] at h <;> try (first | cases h | skip)
  case move => exact .inl rfl
  case assign => exact .inr rfl
  case convert s d y =>
    generalize (isStr P s && isSlc P d || isSlc P s && isStr P d) = b at h
    cases b <;> cases h
  case call c =>
    split at h
    · cases h
    · cases h
    · split at h <;> cases h

/-! ### Places where ways meet -/
def Cur (hp : Bool) : Nat → Type
  | 0 => match hp with
    | true => Heap → Prop
    | false => Prop
  | m + 1 => Value → Cur hp m
def curry (h0 : Heap) (hp : Bool) : (m : Nat) → (List Value → Heap → Prop) → Cur hp m
  | 0, g => match hp with
    | true => fun h => g [] h
    | false => g [] h0
  | m + 1, g => fun v => curry h0 hp m fun l h => g (v :: l) h
def app (hp : Bool) : (m : Nat) → Cur hp m → List Value → Heap → Prop
  | 0, k, _, h => match hp, k with
    | true, k => k h
    | false, k => k
  | m + 1, k, l, h => match l with
    | v :: l => app hp m (k v) l h
    | [] => False
theorem app_curry (h0 h : Heap) : ∀ (hp : Bool) (m : Nat) (g : List Value → Heap → Prop) (l : List Value), l.length = m → app hp m (curry h0 hp m g) l h = g l (bif hp then h else h0)
  | true, 0, g, [], _ => rfl
  | false, 0, g, [], _ => rfl
  | hp, m + 1, g, v :: l, e => by
    show app hp m (curry h0 hp m fun l h => g (v :: l) h) l h = _
    rw [app_curry h0 h hp m _ l (by simpa using e)]

/-! ### Operations in a row -/
structure It where
  i : Nat
  la : Nat
  o : Oper
inductive Md where
  | seq
  | quiet (D : Heap → Prop)
  | mix (D : Heap → Prop)
def Md.D : Md → Heap → Heap → Prop
  | .seq, h => Eq h
  | .quiet D, _ => D
  | .mix D, _ => D
def Md.loud : Md → Bool
  | .quiet _ => false
  | _ => true
inductive GS where
  | go
  | skip
  | opn (i : Nat) (v : Value)
  | bad
def gst (n : Nat) (ops : List Oper) (fr : Fr) (o : Oper) : GS := match o.guard with
  | none => .go
  | some (j, want) => match (ops.toArray[j]?).bind (·.dst) with
    | none => .bad
    | some d => bif Nat.blt d n then match fr.get d with
        | .lit b => bif b == want then .go else .skip
        | .un => .skip
        | .s i v => .opn i v
        | _ => .bad
      else .bad
def rootg (ops : List Oper) (root : Nat) : Nat → Oper → Bool
  | 0, _ => false
  | k + 1, o => match o.guard with
    | none => false
    | some (j, _) => Nat.beq j root || (match ops[j]? with
      | some o' => rootg ops root k o'
      | none => false)
def span (ops : List Oper) (root : Nat) : List It → Nat
  | [] => 0
  | x :: r => bif rootg ops root 50 x.o then span ops root r + 1 else 0
def groot (o : Oper) : Nat := match o.guard with
  | some (j, _) => j
  | none => 0
def bitO : Option Nat → Nat
  | some d => 2 ^ d
  | none => 0
def dsts : List It → Nat
  | [] => 0
  | x :: r => bitO x.o.dst ||| dsts r
def effs (P : Program) : List It → Bool
  | [] => false
  | x :: r => (kd P x.o).eff || effs P r
def lastLa : List It → Nat → Nat → Nat
  | [], _, la => la
  | x :: r, i, la => bif Nat.blt x.i i then lastLa r i la else lastLa r x.i x.la
def bits (n m : Nat) : List Nat := (List.range n).filter fun j => m.testBit j
def Fr.putO (fr : Fr) (d : Option Nat) (v : Value) : Fr := match d with
  | some d => fr.put d (.s fr.new v)
  | none => fr
def Fr.putU (fr : Fr) (d : Option Nat) : Fr := match d with
  | some d => fr.put d .un
  | none => fr
def stepT [Gd] (P : Program) (n : Nat) (md : Md) (fr : Fr) (o : Oper) (h : Heap) (K : Fr → Heap → Prop) : Prop := match kd P o with
  | .m x => match o.dst with
    | some d => bif (ev n fr x).ok then K (fr.put d (ev n fr x)) h else False
    | none => False
  | .q => match o.dst with
    | some d => bif okop n fr o then opQ P (rho n fr) o (md.D h) fun v => K (fr.put d (.s fr.new v)) h else False
    | none => False
  | .x => bif okop n fr o then match md with
      | .seq => opX P (rho n fr) o h fun v h' => K (fr.putO o.dst v) h'
      | .mix D => opX P (rho n fr) o h fun v h' => D h' ∧ K (fr.putO o.dst v) h'
      | .quiet _ => False
    else False
  | .c => bif okop n fr o then match md with
      | .seq => opX P (rho n fr) o h fun v h' => K (fr.putO o.dst v) h'
      | .mix D => opX P (rho n fr) o h fun v h' => D h' ∧ K (fr.putO o.dst v) h'
      | .quiet D => match o.dst with
        | some d => opC P (rho n fr) o D fun v => K (fr.put d (.s fr.new v)) h
        | none => False
    else False
  | .no => False
def opsT [Gd] (P : Program) (n : Nat) (md : Md) (ops : List Oper) : Nat → List It → Fr → Heap → (Fr → Heap → Prop) → Prop
  | 0, _, _, _, _ => False
  | _ + 1, [], fr, h, K => K fr h
  | k + 1, x :: r, fr, h, K => match gst n ops fr x.o with
    | .bad => False
    | .go => stepT P n md fr x.o h fun fr' h' => opsT P n md ops k r fr' h' K
    | .skip => opsT P n md ops k r (fr.putU x.o.dst) h K
    | .opn i v =>
      (fun (m : Nat) => (fun (he : Bool) (par : List Nat) => (fun (hp : Bool) =>
        join (κ := Cur hp par.length) (curry h hp par.length fun vals h' => opsT P n md ops k ((x :: r).drop m) (fr.meet (dsts ((x :: r).take m)) par vals) (bif he then h' else h) K)
          fun kk => cond v
            (opsT P n md ops k ((x :: r).take m) (fr.subst i true) h fun fr2 h2 => bif fr2.oks par then app hp par.length kk (fr2.vals par) h2 else False)
            (opsT P n md ops k ((x :: r).take m) (fr.subst i false) h fun fr2 h2 => bif fr2.oks par then app hp par.length kk (fr2.vals par) h2 else False))
        (he || par.isEmpty)) (effs P ((x :: r).take m) && md.loud) (bits n (dsts ((x :: r).take m) &&& lastLa ((x :: r).take m) x.i x.la)))
      (span ops (groot x.o) r + 1)

theorem bif_elim {b : Bool} {p : Prop} (h : bif b then p else False) : b = true ∧ p := by cases b with
  | true => exact ⟨rfl, h⟩
  | false => exact h.elim
theorem dsts_append : ∀ (a b : List It), dsts (a ++ b) = dsts a ||| dsts b
  | [], b => by simp [dsts]
  | x :: a, b => by simp [dsts, dsts_append a b, Nat.or_assoc]
theorem effs_append {P : Program} : ∀ (a b : List It), effs P (a ++ b) = (effs P a || effs P b)
  | [], b => by simp [effs]
  | x :: a, b => by simp [effs, effs_append a b, Bool.or_assoc]
def updO (f : Nat → Value) (d : Option Nat) (v : Value) : Nat → Value := match d with
  | some d => upd f d v
  | none => f
theorem Same.updO (f : Nat → Value) (d : Option Nat) (v : Value) : Same (bitO d) f (Sh.updO f d v) := by
  cases d with
  | some d => exact Same.upd f d v
  | none => exact Same.refl _ f
theorem Ag.putO {fr : Fr} {f : Nat → Value} (h : Ag fr f) (d : Option Nat) (v : Value) : Ag (fr.putO d v) (updO f d v) := by
  cases d with
  | some d => exact h.fresh d v
  | none => exact h
theorem Ag.putU {fr : Fr} {f : Nat → Value} (h : Ag fr f) (d : Option Nat) : Ag (fr.putU d) (updO f d undef) := by
  cases d with
  | some d => exact h.put d (by intro i v e; cases e) fun _ => rfl
  | none => exact h
theorem Ag.putE {n : Nat} {fr : Fr} {f : Nat → Value} (h : Ag fr f) (d : Nat) {x : Operand} (hk : (ev n fr x).ok = true) : Ag (fr.put d (ev n fr x)) (upd f d (ev n fr x).v) :=
  h.put d (fun _ _ e => (by obtain ⟨p, hp, h2⟩ := ev_mem e; exact ⟨p, hp, h2⟩)) fun _ => rfl
theorem gst_sound {n : Nat} {ops : List Oper} {fr : Fr} {o : Oper} {f : Nat → Value} (h : Ag fr f) :
    match gst n ops fr o with
    | .go => Region.wanted o (yielded ops.toArray (mk n f).tmps) = true
    | .skip => Region.wanted o (yielded ops.toArray (mk n f).tmps) = false
    | .opn i v => ∃ t, fr.get t = .s i v
    | .bad => True := by
  unfold gst
  cases hg : o.guard with
  | none => exact wanted_none hg
  | some g =>
    obtain ⟨j, want⟩ := g
    simp only
    cases hd : (ops.toArray[j]?).bind (·.dst) with
    | none => trivial
    | some d =>
      simp only
      cases hn : Nat.blt d n with
      | false => trivial
      | true =>
        simp only [cond_true]
        cases hx : fr.get d with
        | lit b =>
          simp only
          have hv := h.val d (by rw [hx]; rfl)
          rw [hx] at hv
          cases hb : b == want with
          | true =>
            have : b = want := by simpa using hb
            subst this
            exact wanted_yes hg hd hn hv
          | false =>
            have : b = !want := by cases b <;> cases want <;> simp at hb ⊢
            subst this
            exact wanted_no hg hd hn hv
        | un =>
          have hv := h.val d (by rw [hx]; rfl)
          rw [hx] at hv
          exact wanted_undef hg hd hn hv
        | s i v => exact ⟨d, hx⟩
        | gone => trivial
        | c v => trivial

theorem seqS [Gd] {P : Program} {n : Nat} {ops : List Oper} {w0 : World} : ∀ (k : Nat) (l : List It) (fr : Fr) (h : Heap) (K : Fr → Heap → Prop) (f : Nat → Value) (w : World) (Q : Exit → Act → World → Prop),
    Ag fr f → w.heap = h → SameW w0 w → PnOk [] Q w0 (fun _ _ => True) →
    (∀ fr' h' f' w', Ag fr' f' → w'.heap = h' → SameW w0 w' → Same (dsts l) f f' → (effs P l = false → h' = h) → K fr' h' → Q .normal (mk n f') w') →
    opsT P n .seq ops k l fr h K → wpList P ops.toArray Q (l.map It.o) (mk n f) w
  | 0, _, _, _, _, _, _, _, _, _, _, _, _, hg => hg.elim
  | _ + 1, [], fr, h, K, f, w, Q, ha, hw, hs, hp, hK, hg => stepEnd (hK fr h f w ha hw hs (Same.refl _ f) (fun _ => rfl) hg)
  | k + 1, x :: r, fr, h, K, f, w, Q, ha, hw, hs, hp, hK, hg => by
    have next : ∀ {fr' : Fr} {h' : Heap} {f' : Nat → Value} {w' : World}, Ag fr' f' → w'.heap = h' → SameW w0 w' → Same (bitO x.o.dst) f f' → ((kd P x.o).eff = false → h' = h) → opsT P n .seq ops k r fr' h' K → wpList P ops.toArray Q (r.map It.o) (mk n f') w' :=
      fun ha' hw' hs' hm' he' hg' => seqS k r _ _ K _ _ Q ha' hw' hs' hp (fun fr'' h'' f'' w'' a b c d e g => hK fr'' h'' f'' w'' a b c (hm'.trans d) (fun e2 => by
        simp only [effs, Bool.or_eq_false_iff] at e2
        rw [e e2.2, he' e2.1]) g) hg'
    have hgs := gst_sound (n := n) (ops := ops) (o := x.o) ha
    unfold opsT at hg
    show wpList P ops.toArray Q (x.o :: r.map It.o) (mk n f) w
    cases hst : gst n ops fr x.o with
    | bad => rw [hst] at hg; exact hg.elim
    | skip =>
      rw [hst] at hg hgs
      have := ha.putU x.o.dst
      have hsm := Same.updO f x.o.dst undef
      cases hd : x.o.dst with
      | some d => rw [hd] at this hg hsm; exact stepSkip hgs hd (next this hw hs (hd ▸ hsm) (fun _ => rfl) hg)
      | none => rw [hd] at this hg hsm; exact stepSkip0 hgs hd (next this hw hs (hd ▸ hsm) (fun _ => rfl) hg)
    | go =>
      rw [hst] at hg hgs
      simp only [stepT] at hg
      have eff : (bif okop n fr x.o then opX P (rho n fr) x.o h fun v h' => opsT P n .seq ops k r (fr.putO x.o.dst v) h' K else False) → (kd P x.o).eff = true → kd P x.o ≠ .no → wpList P ops.toArray Q (x.o :: r.map It.o) (mk n f) w := fun hx he hno => by
        obtain ⟨hok, hx⟩ := bif_elim hx
        have he2 := exec_eq ha hok (kd_sel hno)
        cases hd : x.o.dst with
        | some d =>
          rw [hd] at hx
          exact stepX he2 (opX_sound hx) hw hgs hd (fun v h' w' h1 h2 h3 => next (ha.fresh d v) h1 (hs.trans h2) (by rw [hd]; exact Same.upd f d v) (fun e => by rw [he] at e; cases e) h3) hs
        | none =>
          rw [hd] at hx
          exact stepU he2 (opX_sound hx) hw hgs hd (fun v h' w' h1 h2 h3 => next ha h1 (hs.trans h2) (Same.refl _ f) (fun e => by rw [he] at e; cases e) h3) hs
      cases hkd : kd P x.o with
      | m y =>
        rw [hkd] at hg
        cases hd : x.o.dst with
        | none => rw [hd] at hg; exact hg.elim
        | some d =>
          rw [hd] at hg
          obtain ⟨hok, hg⟩ := bif_elim hg
          exact stepM (v := (ev n fr y).v) (kd_m hkd) hgs hd (ev_eq ha hok) (next (ha.putE d hok) hw hs (by rw [hd]; exact Same.upd f d _) (fun _ => rfl) hg)
      | q =>
        rw [hkd] at hg
        cases hd : x.o.dst with
        | none => rw [hd] at hg; exact hg.elim
        | some d =>
          rw [hd] at hg
          obtain ⟨hok, hg⟩ := bif_elim hg
          exact stepQ (exec_eq ha hok (kd_sel (by rw [hkd]; simp))) (opQ_sound hg) hw hgs hd fun v hv => next (ha.fresh d v) hw hs (by rw [hd]; exact Same.upd f d v) (fun _ => rfl) hv
      | x => rw [hkd] at hg; exact eff hg (by rw [hkd]; rfl) (by rw [hkd]; simp)
      | c => rw [hkd] at hg; exact eff hg (by rw [hkd]; rfl) (by rw [hkd]; simp)
      | no => rw [hkd] at hg; exact hg.elim
    | opn i v =>
      rw [hst] at hg hgs
      obtain ⟨t, ht⟩ := hgs
      simp only at hg
      generalize span ops (groot x.o) r + 1 = m at hg
      generalize hl : (x :: r) = l at hg hK
      generalize bits n (dsts (l.take m) &&& lastLa (l.take m) x.i x.la) = par at hg
      generalize hhe : (effs P (l.take m) && Md.seq.loud) = he at hg
      rw [show x.o :: r.map It.o = l.map It.o by rw [← hl]; rfl]
      refine list_join m fun K_ hK_ => ?_
      rw [← List.map_take]
      rw [← List.map_drop] at hK_
      have fin : ∀ fr2 h2 f2 w2, Ag fr2 f2 → w2.heap = h2 → SameW w0 w2 → Same (dsts (l.take m)) f f2 → (effs P (l.take m) = false → h2 = h) →
          (bif fr2.oks par then app (he || par.isEmpty) par.length (curry h (he || par.isEmpty) par.length fun vals h' => opsT P n .seq ops k (l.drop m) (fr.meet (dsts (l.take m)) par vals) (bif he then h' else h) K) (fr2.vals par) h2 else False) →
          Exit.then K_ Q .normal (mk n f2) w2 := fun fr2 h2 f2 w2 a b c d e g => by
        obtain ⟨hok, g⟩ := bif_elim g
        rw [app_curry _ _ _ _ _ _ (by simp [Fr.vals]), a.vals hok] at g
        have hh : (bif he then (bif (he || par.isEmpty) then h2 else h) else h) = h2 := by
          cases he with
          | true => rfl
          | false => exact (e (by simpa [Md.loud] using hhe)).symm
        rw [hh] at g
        refine hK_ _ _ (seqS k (l.drop m) _ _ K _ _ Q (ha.meet d par) b c hp (fun fr'' h'' f'' w'' a' b' c' d' e' g' => hK fr'' h'' f'' w'' a' b' c' ?_ (fun e2 => ?_) g') g)
        · have := d.trans d'
          rwa [← dsts_append, List.take_append_drop] at this
        · rw [← List.take_append_drop m l, effs_append, Bool.or_eq_false_iff] at e2
          rw [e' e2.2, e e2.1]
      haveI := hp
      refine cond_split hg (fun hv hg1 => ?_) (fun hv hg1 => ?_)
      · exact seqS k (l.take m) _ _ _ _ _ (Exit.then K_ Q) (ha.subst ht hv) hw hs pnOk_then fin hg1
      · exact seqS k (l.take m) _ _ _ _ _ (Exit.then K_ Q) (ha.subst ht hv) hw hs pnOk_then fin hg1

theorem quietSkipO [Gd] {P : Program} {ops : Array Oper} {Q : Act → Prop} {n : Nat} {f : Nat → Value} {w0 : World} {rest : List Oper} {o : Oper} {D : Heap → Prop} (hg : Region.wanted o (yielded ops (mk n f).tmps) = false)
    (k : wpQuiet P ops (Cls D w0) Q rest (mk n (updO f o.dst undef))) : wpQuiet P ops (Cls D w0) Q (o :: rest) (mk n f) := by
  cases hd : o.dst with
  | some d => rw [hd] at k; exact quietSkip hg hd k
  | none =>
    rw [hd] at k
    unfold wpQuiet
    rw [if_neg (by simp [hg]), hd]
    exact k
theorem quietS [Gd] {P : Program} {n : Nat} {ops : List Oper} {w0 : World} {D : Heap → Prop} : ∀ (k : Nat) (l : List It) (fr : Fr) (h : Heap) (K : Fr → Heap → Prop) (f : Nat → Value) (Q : Act → Prop),
    Ag fr f →
    (∀ fr' f', Ag fr' f' → Same (dsts l) f f' → K fr' h → Q (mk n f')) →
    opsT P n (.quiet D) ops k l fr h K → wpQuiet P ops.toArray (Cls D w0) Q (l.map It.o) (mk n f)
  | 0, _, _, _, _, _, _, _, _, hg => hg.elim
  | _ + 1, [], fr, h, K, f, Q, ha, hK, hg => quietEnd (hK fr f ha (Same.refl _ f) hg)
  | k + 1, x :: r, fr, h, K, f, Q, ha, hK, hg => by
    have next : ∀ {fr' : Fr} {f' : Nat → Value}, Ag fr' f' → Same (bitO x.o.dst) f f' → opsT P n (.quiet D) ops k r fr' h K → wpQuiet P ops.toArray (Cls D w0) Q (r.map It.o) (mk n f') :=
      fun ha' hm' hg' => quietS k r _ _ K _ Q ha' (fun fr'' f'' a d g => hK fr'' f'' a (hm'.trans d) g) hg'
    have hgs := gst_sound (n := n) (ops := ops) (o := x.o) ha
    unfold opsT at hg
    show wpQuiet P ops.toArray (Cls D w0) Q (x.o :: r.map It.o) (mk n f)
    cases hst : gst n ops fr x.o with
    | bad => rw [hst] at hg; exact hg.elim
    | skip =>
      rw [hst] at hg hgs
      exact quietSkipO hgs (next (ha.putU x.o.dst) (Same.updO f x.o.dst undef) hg)
    | go =>
      rw [hst] at hg hgs
      simp only [stepT] at hg
      cases hkd : kd P x.o with
      | m y =>
        rw [hkd] at hg
        cases hd : x.o.dst with
        | none => rw [hd] at hg; exact hg.elim
        | some d =>
          rw [hd] at hg
          obtain ⟨hok, hg⟩ := bif_elim hg
          exact quietM (v := (ev n fr y).v) (kd_m hkd) hgs hd (ev_eq ha hok) (next (ha.putE d hok) (by rw [hd]; exact Same.upd f d _) hg)
      | q =>
        rw [hkd] at hg
        cases hd : x.o.dst with
        | none => rw [hd] at hg; exact hg.elim
        | some d =>
          rw [hd] at hg
          obtain ⟨hok, hg⟩ := bif_elim hg
          exact quietQ (exec_eq ha hok (kd_sel (by rw [hkd]; simp))) (opQ_sound hg) hgs hd fun v hv => next (ha.fresh d v) (by rw [hd]; exact Same.upd f d v) hv
      | x => rw [hkd] at hg; obtain ⟨_, hg⟩ := bif_elim hg; exact hg.elim
      | c =>
        rw [hkd] at hg
        obtain ⟨hok, hg⟩ := bif_elim hg
        cases hd : x.o.dst with
        | none => rw [hd] at hg; exact hg.elim
        | some d =>
          rw [hd] at hg
          exact quietC (exec_eq ha hok (kd_sel (by rw [hkd]; simp))) (opC_sound hg) hgs hd fun v hv => next (ha.fresh d v) (by rw [hd]; exact Same.upd f d v) hv
      | no => rw [hkd] at hg; exact hg.elim
    | opn i v =>
      rw [hst] at hg hgs
      obtain ⟨t, ht⟩ := hgs
      simp only at hg
      generalize span ops (groot x.o) r + 1 = m at hg
      generalize hl : (x :: r) = l at hg hK
      generalize bits n (dsts (l.take m) &&& lastLa (l.take m) x.i x.la) = par at hg
      rw [show (effs P (l.take m) && (Md.quiet D).loud) = false by simp [Md.loud]] at hg
      rw [show x.o :: r.map It.o = l.map It.o by rw [← hl]; rfl]
      refine quiet_join m fun K_ hK_ => ?_
      rw [← List.map_take]
      rw [← List.map_drop] at hK_
      have fin : ∀ fr2 f2, Ag fr2 f2 → Same (dsts (l.take m)) f f2 →
          (bif fr2.oks par then app (false || par.isEmpty) par.length (curry h (false || par.isEmpty) par.length fun vals h' => opsT P n (.quiet D) ops k (l.drop m) (fr.meet (dsts (l.take m)) par vals) (bif false then h' else h) K) (fr2.vals par) h else False) →
          K_ (mk n f2) := fun fr2 f2 a d g => by
        obtain ⟨hok, g⟩ := bif_elim g
        rw [app_curry _ _ _ _ _ _ (by simp [Fr.vals]), a.vals hok] at g
        refine hK_ _ (quietS k (l.drop m) _ _ K _ Q (ha.meet d par) (fun fr'' f'' a' d' g' => hK fr'' f'' a' ?_ g') g)
        have := d.trans d'
        rwa [← dsts_append, List.take_append_drop] at this
      refine cond_split hg (fun hv hg1 => ?_) (fun hv hg1 => ?_)
      · exact quietS k (l.take m) _ _ _ _ K_ (ha.subst ht hv) fin hg1
      · exact quietS k (l.take m) _ _ _ _ K_ (ha.subst ht hv) fin hg1

theorem mixSkipO {P : Program} {ops : Array Oper} {Q : Exit → Act → World → Prop} {C : World → Prop} {T : Act → World → Prop} {n : Nat} {f : Nat → Value} {w : World} {rest : List (Bool × Oper)} {q : Bool} {o : Oper} (hg : Region.wanted o (yielded ops (mk n f).tmps) = false)
    (k : mixL P ops Q C T rest (mk n (updO f o.dst undef)) w) : mixL P ops Q C T ((q, o) :: rest) (mk n f) w := by
  have e : (mk n f).put o.dst undef = mk n (updO f o.dst undef) := by
    cases o.dst with
    | some d => exact mk_put n f d undef
    | none => rfl
  unfold mixL
  cases q with
  | true =>
    rw [if_pos rfl]
    exact ⟨undef, .inr ⟨hg, rfl⟩, by rw [e]; exact k⟩
  | false =>
    rw [if_neg (by simp), if_neg (by simp [hg]), e]
    exact k
def flg (P : Program) (x : It) : Bool × Oper := (!(kd P x.o).eff, x.o)
theorem mixS [Gd] {P : Program} {n : Nat} {ops : List Oper} {w0 : World} {D : Heap → Prop} {Q : Exit → Act → World → Prop} (hp : PnOk [] Q w0 (fun _ _ => True)) : ∀ (k : Nat) (l : List It) (fr : Fr) (h : Heap) (K : Fr → Heap → Prop) (f : Nat → Value) (w : World) (T : Act → World → Prop),
    Ag fr f → w.heap = h → SameW w0 w →
    (∀ fr' h' f' w', Ag fr' f' → w'.heap = h' → SameW w0 w' → Same (dsts l) f f' → (effs P l = false → h' = h) → K fr' h' → T (mk n f') w') →
    opsT P n (.mix D) ops k l fr h K → mixL P ops.toArray Q (fun w => D w.heap) T (l.map (flg P)) (mk n f) w
  | 0, _, _, _, _, _, _, _, _, _, _, _, hg => hg.elim
  | _ + 1, [], fr, h, K, f, w, T, ha, hw, hs, hK, hg => mixEnd (hK fr h f w ha hw hs (Same.refl _ f) (fun _ => rfl) hg)
  | k + 1, x :: r, fr, h, K, f, w, T, ha, hw, hs, hK, hg => by
    have next : ∀ {fr' : Fr} {h' : Heap} {f' : Nat → Value} {w' : World}, Ag fr' f' → w'.heap = h' → SameW w0 w' → Same (bitO x.o.dst) f f' → ((kd P x.o).eff = false → h' = h) → opsT P n (.mix D) ops k r fr' h' K → mixL P ops.toArray Q (fun w => D w.heap) T (r.map (flg P)) (mk n f') w' :=
      fun ha' hw' hs' hm' he' hg' => mixS hp k r _ _ K _ _ T ha' hw' hs' (fun fr'' h'' f'' w'' a b c d e g => hK fr'' h'' f'' w'' a b c (hm'.trans d) (fun e2 => by
        simp only [effs, Bool.or_eq_false_iff] at e2
        rw [e e2.2, he' e2.1]) g) hg'
    have hgs := gst_sound (n := n) (ops := ops) (o := x.o) ha
    unfold opsT at hg
    show mixL P ops.toArray Q (fun w => D w.heap) T (flg P x :: r.map (flg P)) (mk n f) w
    cases hst : gst n ops fr x.o with
    | bad => rw [hst] at hg; exact hg.elim
    | skip =>
      rw [hst] at hg hgs
      exact mixSkipO hgs (next (ha.putU x.o.dst) hw hs (Same.updO f x.o.dst undef) (fun _ => rfl) hg)
    | go =>
      rw [hst] at hg hgs
      simp only [stepT] at hg
      have eff : (bif okop n fr x.o then opX P (rho n fr) x.o h fun v h' => D h' ∧ opsT P n (.mix D) ops k r (fr.putO x.o.dst v) h' K else False) → (kd P x.o).eff = true → kd P x.o ≠ .no → mixL P ops.toArray Q (fun w => D w.heap) T (flg P x :: r.map (flg P)) (mk n f) w := fun hx he hno => by
        obtain ⟨hok, hx⟩ := bif_elim hx
        have he2 := exec_eq ha hok (kd_sel hno)
        rw [show flg P x = (false, x.o) by simp [flg, he]]
        cases hd : x.o.dst with
        | some d =>
          rw [hd] at hx
          exact mixX he2 (opX_sound hx) hw hgs hd (fun v h' w' h1 h2 h3 => next (ha.fresh d v) h1 (hs.trans h2) (by rw [hd]; exact Same.upd f d v) (fun e => by rw [he] at e; cases e) h3) hs
        | none =>
          rw [hd] at hx
          exact mixU he2 (opX_sound hx) hw hgs hd (fun v h' w' h1 h2 h3 => next ha h1 (hs.trans h2) (Same.refl _ f) (fun e => by rw [he] at e; cases e) h3) hs
      cases hkd : kd P x.o with
      | m y =>
        rw [hkd] at hg
        rw [show flg P x = (true, x.o) by simp [flg, hkd, Kd.eff]]
        cases hd : x.o.dst with
        | none => rw [hd] at hg; exact hg.elim
        | some d =>
          rw [hd] at hg
          obtain ⟨hok, hg⟩ := bif_elim hg
          exact mixM (v := (ev n fr y).v) (kd_m hkd) hgs hd (ev_eq ha hok) (next (ha.putE d hok) hw hs (by rw [hd]; exact Same.upd f d _) (fun _ => rfl) hg)
      | q =>
        rw [hkd] at hg
        rw [show flg P x = (true, x.o) by simp [flg, hkd, Kd.eff]]
        cases hd : x.o.dst with
        | none => rw [hd] at hg; exact hg.elim
        | some d =>
          rw [hd] at hg
          obtain ⟨hok, hg⟩ := bif_elim hg
          exact mixQ (exec_eq ha hok (kd_sel (by rw [hkd]; simp))) (opQ_sound hg) hgs hd fun v hv => next (ha.fresh d v) hw hs (by rw [hd]; exact Same.upd f d v) (fun _ => rfl) hv
      | x => rw [hkd] at hg; exact eff hg (by rw [hkd]; rfl) (by rw [hkd]; simp)
      | c => rw [hkd] at hg; exact eff hg (by rw [hkd]; rfl) (by rw [hkd]; simp)
      | no => rw [hkd] at hg; exact hg.elim
    | opn i v =>
      rw [hst] at hg hgs
      obtain ⟨t, ht⟩ := hgs
      simp only at hg
      generalize span ops (groot x.o) r + 1 = m at hg
      generalize hl : (x :: r) = l at hg hK
      generalize bits n (dsts (l.take m) &&& lastLa (l.take m) x.i x.la) = par at hg
      generalize hhe : (effs P (l.take m) && (Md.mix D).loud) = he at hg
      rw [show flg P x :: r.map (flg P) = l.map (flg P) by rw [← hl]; rfl]
      refine mix_join m fun K_ hK_ => ?_
      rw [← List.map_take]
      rw [← List.map_drop] at hK_
      have fin : ∀ fr2 h2 f2 w2, Ag fr2 f2 → w2.heap = h2 → SameW w0 w2 → Same (dsts (l.take m)) f f2 → (effs P (l.take m) = false → h2 = h) →
          (bif fr2.oks par then app (he || par.isEmpty) par.length (curry h (he || par.isEmpty) par.length fun vals h' => opsT P n (.mix D) ops k (l.drop m) (fr.meet (dsts (l.take m)) par vals) (bif he then h' else h) K) (fr2.vals par) h2 else False) →
          K_ (mk n f2) w2 := fun fr2 h2 f2 w2 a b c d e g => by
        obtain ⟨hok, g⟩ := bif_elim g
        rw [app_curry _ _ _ _ _ _ (by simp [Fr.vals]), a.vals hok] at g
        have hh : (bif he then (bif (he || par.isEmpty) then h2 else h) else h) = h2 := by
          cases he with
          | true => rfl
          | false => exact (e (by simpa [Md.loud] using hhe)).symm
        rw [hh] at g
        refine hK_ _ _ (mixS hp k (l.drop m) _ _ K _ _ T (ha.meet d par) b c (fun fr'' h'' f'' w'' a' b' c' d' e' g' => hK fr'' h'' f'' w'' a' b' c' ?_ (fun e2 => ?_) g') g)
        · have := d.trans d'
          rwa [← dsts_append, List.take_append_drop] at this
        · rw [← List.take_append_drop m l, effs_append, Bool.or_eq_false_iff] at e2
          rw [e' e2.2, e e2.1]
      refine cond_split hg (fun hv hg1 => ?_) (fun hv hg1 => ?_)
      · exact mixS hp k (l.take m) _ _ _ _ _ K_ (ha.subst ht hv) hw hs fin hg1
      · exact mixS hp k (l.take m) _ _ _ _ _ K_ (ha.subst ht hv) hw hs fin hg1

/-- A head whose reads stand ahead of its effects. -/
def fstT [Gd] (P : Program) (n : Nat) (h0 : Heap) : List (Nat × Oper) → Fr → Heap → (Fr → Heap → Prop) → Prop
  | [], fr, h, K => K fr h
  | (q, o) :: r, fr, h, K => match o.guard with
    | some _ => False
    | none => match kd P o with
      | .m x => match o.dst with
        | some d => bif (ev n fr x).ok && Nat.beq q 0 then fstT P n h0 r (fr.put d (ev n fr x)) h K else False
        | none => False
      | .q => match o.dst with
        | some d => bif okop n fr o then match q with
            | 0 => opQ P (rho n fr) o (fun _ => True) fun v => fstT P n h0 r (fr.put d (.s fr.new v)) h K
            | 1 => opQ P (rho n fr) o (Eq h0) fun v => fstT P n h0 r (fr.put d (.s fr.new v)) h K
            | _ => False
          else False
        | none => False
      | .no => False
      | _ => bif okop n fr o && Nat.beq q 2 then opX P (rho n fr) o h fun v h' => fstT P n h0 r (fr.putO o.dst v) h' K else False
def dstF : List (Nat × Oper) → Nat
  | [] => 0
  | x :: r => bitO x.2.dst ||| dstF r
theorem fstS [Gd] {P : Program} {n : Nat} {ops : List Oper} {w0 : World} {h0 : Heap} {Q : Exit → Act → World → Prop} (hp : PnOk [] Q w0 (fun _ _ => True)) : ∀ (l : List (Nat × Oper)) (fr : Fr) (h : Heap) (K : Fr → Heap → Prop) (f : Nat → Value) (w : World) (T : Act → World → Prop),
    Ag fr f → w.heap = h → SameW w0 w →
    (∀ fr' h' f' w', Ag fr' f' → w'.heap = h' → SameW w0 w' → Same (dstF l) f f' → K fr' h' → T (mk n f') w') →
    fstT P n h0 l fr h K → mixF P ops.toArray Q h0 T l (mk n f) w
  | [], fr, h, K, f, w, T, ha, hw, hs, hK, hg => fstEnd (hK fr h f w ha hw hs (Same.refl _ f) hg)
  | (q, o) :: r, fr, h, K, f, w, T, ha, hw, hs, hK, hg => by
    have next : ∀ {fr' : Fr} {h' : Heap} {f' : Nat → Value} {w' : World}, Ag fr' f' → w'.heap = h' → SameW w0 w' → Same (bitO o.dst) f f' → fstT P n h0 r fr' h' K → mixF P ops.toArray Q h0 T r (mk n f') w' :=
      fun ha' hw' hs' hm' hg' => fstS hp r _ _ K _ _ T ha' hw' hs' (fun fr'' h'' f'' w'' a b c d g => hK fr'' h'' f'' w'' a b c (hm'.trans d) g) hg'
    unfold fstT at hg
    cases hgd : o.guard with
    | some g => rw [hgd] at hg; exact hg.elim
    | none =>
      rw [hgd] at hg
      have hgs : Region.wanted o (yielded ops.toArray (mk n f).tmps) = true := wanted_none hgd
      have eff : (bif okop n fr o && Nat.beq q 2 then opX P (rho n fr) o h fun v h' => fstT P n h0 r (fr.putO o.dst v) h' K else False) → kd P o ≠ .no → mixF P ops.toArray Q h0 T ((q, o) :: r) (mk n f) w := fun hx hno => by
        obtain ⟨hok0, hx2⟩ := bif_elim hx
        simp only [Bool.and_eq_true, Nat.beq_eq] at hok0
        obtain ⟨hok, rfl⟩ := hok0
        have he2 := exec_eq ha hok (kd_sel hno)
        cases hd : o.dst with
        | some d =>
          rw [hd] at hx2
          exact fstX he2 (opX_sound hx2) hw hgs hd (fun v h' w' h1 h2 h3 => next (ha.fresh d v) h1 (hs.trans h2) (by rw [hd]; exact Same.upd f d v) h3) hs
        | none =>
          rw [hd] at hx2
          exact fstU he2 (opX_sound hx2) hw hgs hd (fun v h' w' h1 h2 h3 => next ha h1 (hs.trans h2) (Same.refl _ f) h3) hs
      cases hkd : kd P o with
      | m y =>
        rw [hkd] at hg
        cases hd : o.dst with
        | none => rw [hd] at hg; exact hg.elim
        | some d =>
          rw [hd] at hg
          obtain ⟨hok0, hg2⟩ := bif_elim hg
          simp only [Bool.and_eq_true, Nat.beq_eq] at hok0
          obtain ⟨hok, rfl⟩ := hok0
          exact fstM (v := (ev n fr y).v) (kd_m hkd) hgs hd (ev_eq ha hok) (next (ha.putE d hok) hw hs (by rw [hd]; exact Same.upd f d _) hg2)
      | q =>
        rw [hkd] at hg
        have hno : kd P o ≠ .no := by rw [hkd]; simp
        cases hd : o.dst with
        | none => rw [hd] at hg; exact hg.elim
        | some d =>
          rw [hd] at hg
          obtain ⟨hok, hg⟩ := bif_elim hg
          match q, hg with
          | 0, hg =>
            have h1 := opQ_sound hg
            obtain ⟨v, hv, hk⟩ := h1
            exact fstP (K := fun v => fstT P n h0 r (fr.put d (.s fr.new v)) h K) (exec_eq ha hok (kd_sel hno)) ⟨v, fun w => hv w trivial, hk⟩ hgs hd fun v hv => next (ha.fresh d v) hw hs (by rw [hd]; exact Same.upd f d v) hv
          | 1, hg => exact fstQ (exec_eq ha hok (kd_sel hno)) (opQ_sound hg) hgs hd fun v hv => next (ha.fresh d v) hw hs (by rw [hd]; exact Same.upd f d v) hv
          | _ + 2, hg => exact hg.elim
      | x => rw [hkd] at hg; exact eff hg (by rw [hkd]; simp)
      | c => rw [hkd] at hg; exact eff hg (by rw [hkd]; simp)
      | no => rw [hkd] at hg; exact hg.elim

/-! ### Liveness, by bits -/
def lk {α : Type} : List (Nat × α) → Nat → Option α
  | [], _ => none
  | (j, x) :: r, i => bif Nat.beq i j then some x else lk r i
def rmv (L b : Nat) : Nat := (L ||| b) ^^^ b
def opdBit : Operand → Nat
  | .tmp t => 2 ^ t
  | _ => 0
def usesOp (o : Oper) : Nat := o.op.operands.toList.foldl (fun m x => m ||| opdBit x) 0
def gBit (ops : List Oper) (o : Oper) : Nat := match o.guard with
  | some (j, _) => match ops[j]? with
    | some og => bitO og.dst
    | none => 0
  | none => 0
def mkIts (ops : List Oper) : Nat → List Oper → Nat → Nat × List It
  | _, [], out => (out, [])
  | i, o :: r, out => match mkIts ops (i + 1) r out with
    | (L, l) => (rmv L (bitO o.dst) ||| usesOp o ||| gBit ops o, ⟨i, L, o⟩ :: l)
theorem mkIts_o (ops : List Oper) : ∀ (l : List Oper) (i out : Nat), (mkIts ops i l out).2.map It.o = l
  | [], _, _ => rfl
  | o :: r, i, out => by simp [mkIts, mkIts_o ops r (i + 1) out]
def fixL (f : Nat → Nat) : Nat → Nat → Nat
  | 0, L => L
  | k + 1, L => (fun L2 => bif Nat.beq L2 L then L else fixL f k L2) (L ||| f L)
def live (rs : Nat) : Code → Nat → List (Nat × Nat) → Nat
  | .region _ ops _, out, _ => (mkIts ops.toList 0 ops.toList out).1
  | .seq a b, out, env => live rs a (live rs b out env) env
  | .cond c x y, out, env => live rs x out env ||| live rs y out env ||| opdBit c
  | .block i c, out, env => live rs c out ((i, out) :: env)
  | .loop c, _, env => fixL (fun L => live rs c L env) 20 0
  | .exit i, _, env => (lk env i).getD 0
  | .ret, _, _ => rs
  | _, out, _ => out
def dstO : List Oper → Nat
  | [] => 0
  | o :: r => bitO o.dst ||| dstO r
def mods : Code → Nat
  | .region _ ops _ => dstO ops.toList
  | .seq a b => mods a ||| mods b
  | .cond _ a b => mods a ||| mods b
  | .block _ c => mods c
  | .loop c => mods c
  | _ => 0
def ce (i : Nat) : Code → Nat × Nat
  | .region .. => (1, 0)
  | .skip => (1, 0)
  | .label _ => (1, 0)
  | .seq a b => match ce i a with
    | (0, e) => (0, e)
    | (_, e) => match ce i b with
      | (nb, e') => (nb, e + e')
  | .cond _ a b => match ce i a, ce i b with
    | (na, e), (nb, e') => (na + nb, e + e')
  | .block j c => match ce j c with
    | (nc, e) => (nc + e, (ce i c).2)
  | .loop c => (0, (ce i c).2)
  | .exit j => bif Nat.beq i j then (0, 1) else (0, 0)
  | _ => (0, 0)

def loopT : List Value → Heap → (List Value → Heap → (List Value → Heap → Prop) → Prop) → Prop
  | [], h, body => loop0 h fun h nx => body [] h fun l h' => match l with
    | [] => nx h'
    | _ => False
  | [a], h, body => loop1 a h fun a h nx => body [a] h fun l h' => match l with
    | [a] => nx a h'
    | _ => False
  | [a, b], h, body => loop2 a b h fun a b h nx => body [a, b] h fun l h' => match l with
    | [a, b] => nx a b h'
    | _ => False
  | [a, b, c], h, body => loop3 a b c h fun a b c h nx => body [a, b, c] h fun l h' => match l with
    | [a, b, c] => nx a b c h'
    | _ => False
  | [a, b, c, d], h, body => loop4 a b c d h fun a b c d h nx => body [a, b, c, d] h fun l h' => match l with
    | [a, b, c, d] => nx a b c d h'
    | _ => False
  | [a, b, c, d, e], h, body => loop5 a b c d e h fun a b c d e h nx => body [a, b, c, d, e] h fun l h' => match l with
    | [a, b, c, d, e] => nx a b c d e h'
    | _ => False
  | [a, b, c, d, e, g], h, body => loop6 a b c d e g h fun a b c d e g h nx => body [a, b, c, d, e, g] h fun l h' => match l with
    | [a, b, c, d, e, g] => nx a b c d e g h'
    | _ => False
  | _, _, _ => False
theorem loopT_elim {init : List Value} {h : Heap} {body : List Value → Heap → (List Value → Heap → Prop) → Prop} (hl : loopT init h body) :
    ∃ (I : Nat → List Value → Heap → Prop) (m0 : Nat), I m0 init h ∧ ∀ m xs h, I m xs h → body xs h fun xs' h' => ∃ m', m' < m ∧ I m' xs' h' := by
  unfold loopT at hl
  split at hl
  · obtain ⟨I, m0, h0, hr⟩ := hl
    refine ⟨fun m xs h => match xs with
      | [] => I m h
      | _ => False, m0, h0, fun m xs h hI => ?_⟩
    match xs, hI with
    | [], hI =>
      have heq : (fun (l : List Value) (h' : Heap) => match l with
          | [] => ∃ m', m' < m ∧ I m' h'
          | _ => False) = fun xs' h' => ∃ m', m' < m ∧ (match xs' with
          | [] => I m' h'
          | _ => False) := by
        funext l h'
        split <;> simp
      rw [← heq]
      exact hr m h hI
  · obtain ⟨I, m0, h0, hr⟩ := hl
    refine ⟨fun m xs h => match xs with
      | [a] => I m a h
      | _ => False, m0, h0, fun m xs h hI => ?_⟩
    match xs, hI with
    | [a], hI =>
      have heq : (fun (l : List Value) (h' : Heap) => match l with
          | [a] => ∃ m', m' < m ∧ I m' a h'
          | _ => False) = fun xs' h' => ∃ m', m' < m ∧ (match xs' with
          | [a] => I m' a h'
          | _ => False) := by
        funext l h'
        split <;> simp
      rw [← heq]
      exact hr m a h hI
  · obtain ⟨I, m0, h0, hr⟩ := hl
    refine ⟨fun m xs h => match xs with
      | [a, b] => I m a b h
      | _ => False, m0, h0, fun m xs h hI => ?_⟩
    match xs, hI with
    | [a, b], hI =>
      have heq : (fun (l : List Value) (h' : Heap) => match l with
          | [a, b] => ∃ m', m' < m ∧ I m' a b h'
          | _ => False) = fun xs' h' => ∃ m', m' < m ∧ (match xs' with
          | [a, b] => I m' a b h'
          | _ => False) := by
        funext l h'
        split <;> simp
      rw [← heq]
      exact hr m a b h hI
  · obtain ⟨I, m0, h0, hr⟩ := hl
    refine ⟨fun m xs h => match xs with
      | [a, b, c] => I m a b c h
      | _ => False, m0, h0, fun m xs h hI => ?_⟩
    match xs, hI with
    | [a, b, c], hI =>
      have heq : (fun (l : List Value) (h' : Heap) => match l with
          | [a, b, c] => ∃ m', m' < m ∧ I m' a b c h'
          | _ => False) = fun xs' h' => ∃ m', m' < m ∧ (match xs' with
          | [a, b, c] => I m' a b c h'
          | _ => False) := by
        funext l h'
        split <;> simp
      rw [← heq]
      exact hr m a b c h hI
  · obtain ⟨I, m0, h0, hr⟩ := hl
    refine ⟨fun m xs h => match xs with
      | [a, b, c, d] => I m a b c d h
      | _ => False, m0, h0, fun m xs h hI => ?_⟩
    match xs, hI with
    | [a, b, c, d], hI =>
      have heq : (fun (l : List Value) (h' : Heap) => match l with
          | [a, b, c, d] => ∃ m', m' < m ∧ I m' a b c d h'
          | _ => False) = fun xs' h' => ∃ m', m' < m ∧ (match xs' with
          | [a, b, c, d] => I m' a b c d h'
          | _ => False) := by
        funext l h'
        split <;> simp
      rw [← heq]
      exact hr m a b c d h hI
  · obtain ⟨I, m0, h0, hr⟩ := hl
    refine ⟨fun m xs h => match xs with
      | [a, b, c, d, e] => I m a b c d e h
      | _ => False, m0, h0, fun m xs h hI => ?_⟩
    match xs, hI with
    | [a, b, c, d, e], hI =>
      have heq : (fun (l : List Value) (h' : Heap) => match l with
          | [a, b, c, d, e] => ∃ m', m' < m ∧ I m' a b c d e h'
          | _ => False) = fun xs' h' => ∃ m', m' < m ∧ (match xs' with
          | [a, b, c, d, e] => I m' a b c d e h'
          | _ => False) := by
        funext l h'
        split <;> simp
      rw [← heq]
      exact hr m a b c d e h hI
  · obtain ⟨I, m0, h0, hr⟩ := hl
    refine ⟨fun m xs h => match xs with
      | [a, b, c, d, e, g] => I m a b c d e g h
      | _ => False, m0, h0, fun m xs h hI => ?_⟩
    match xs, hI with
    | [a, b, c, d, e, g], hI =>
      have heq : (fun (l : List Value) (h' : Heap) => match l with
          | [a, b, c, d, e, g] => ∃ m', m' < m ∧ I m' a b c d e g h'
          | _ => False) = fun xs' h' => ∃ m', m' < m ∧ (match xs' with
          | [a, b, c, d, e, g] => I m' a b c d e g h'
          | _ => False) := by
        funext l h'
        split <;> simp
      rw [← heq]
      exact hr m a b c d e g h hI
  · exact hl.elim

/-! ### Regions -/
inductive Pl where
  | quietC
  | mix (m : Nat)
  | mixo (ord : List Nat)
  | fst (qs : List Nat)
def pick (its : List It) : List Nat → Option (List It)
  | [] => some []
  | k :: ks => match its[k]?, pick its ks with
    | some x, some r => some (x :: r)
    | _, _ => none
def regT [Gd] (P : Program) (n : Nat) (pl : Option Pl) (draw : Bool) (ops : List Oper) (its : List It) (k : Nat) (fr : Fr) (h : Heap) (K : Fr → Heap → Prop) : Prop := match draw with
  | false => opsT P n .seq ops k its fr h K
  | true => bif P.follows .mixedOrders then match pl with
      | none => bif Region.lexB .any ops.toArray then opsT P n (.quiet (Eq h)) ops k its fr h K else False
      | some .quietC => bif Region.lexB .any ops.toArray then drawn h fun D => opsT P n (.quiet D) ops k its fr h fun fr' _ => any D fun h' => K fr' h' else False
      | some (.mix m) => bif lexMixB ops.toArray ((its.take m).map fun x => !(kd P x.o).eff) then
          drawn h fun D => opsT P n (.mix D) ops k (its.take m) fr h fun fr' h' => opsT P n .seq ops k (its.drop m) fr' h' K else False
      | some (.mixo ord) => match pick its ord with
        | none => False
        | some pits => bif lexMixOB ops.toArray ((pits.map fun x => !(kd P x.o).eff).zip ord) then
          drawn h fun D => opsT P n (.mix D) ops k pits fr h fun fr' h' => opsT P n .seq ops k (its.drop ord.length) fr' h' K else False
      | some (.fst qs) => bif lexMixB ops.toArray (qs.map fun q => decide (q < 2)) && readsFirst .any ops.toArray qs then
          fstT P n h (qs.zip ops) fr h fun fr' h' => opsT P n .seq ops k (its.drop qs.length) fr' h' K else False
    else False

theorem Same.into {l : List Oper} {m : Nat} {f f' : Nat → Value} (hm : ∀ j, (dstO l).testBit j = false → m.testBit j = false) (h : Same m f f') : Same (dstO l) f f' := fun j hj => h j (hm j hj)
theorem dstO_mem {o : Oper} {j : Nat} (l : List Oper) : o ∈ l → (dstO l).testBit j = false → (bitO o.dst).testBit j = false := by
  induction l with
  | nil => intro ho; cases ho
  | cons a r ih =>
    intro ho hj
    rw [show dstO (a :: r) = bitO a.dst ||| dstO r from rfl, Nat.testBit_or, Bool.or_eq_false_iff] at hj
    rcases List.mem_cons.1 ho with rfl | ho
    · exact hj.1
    · exact ih ho hj.2
theorem dsts_in {l : List Oper} {j : Nat} (hj : (dstO l).testBit j = false) : ∀ {its : List It}, (∀ x ∈ its, x.o ∈ l) → (dsts its).testBit j = false
  | [], _ => by simp [dsts]
  | x :: r, h => by
    simp only [dsts, Nat.testBit_or, Bool.or_eq_false_iff]
    exact ⟨dstO_mem _ (h x (by simp)) hj, dsts_in hj fun y hy => h y (by simp [hy])⟩
theorem dstF_in {l : List Oper} {j : Nat} (hj : (dstO l).testBit j = false) : ∀ {its : List (Nat × Oper)}, (∀ x ∈ its, x.2 ∈ l) → (dstF its).testBit j = false
  | [], _ => by simp [dstF]
  | x :: r, h => by
    simp only [dstF, Nat.testBit_or, Bool.or_eq_false_iff]
    exact ⟨dstO_mem _ (h x (by simp)) hj, dstF_in hj fun y hy => h y (by simp [hy])⟩
theorem zip_flg {P : Program} : ∀ (its : List It) (m : Nat), ((its.take m).map fun x => !(kd P x.o).eff).zip (its.map It.o) = (its.take m).map (flg P)
  | [], m => by simp
  | x :: r, 0 => by simp
  | x :: r, m + 1 => by rw [List.take_succ_cons, List.map_cons, List.map_cons, List.zip_cons_cons, zip_flg r m]; rfl
theorem pick_o {its : List It} : ∀ {ord : List Nat} {p : List It}, pick its ord = some p → (p.map fun x => some x.o) = (ord.map fun k => (its.map It.o).toArray[k]?) ∧ (∀ x ∈ p, x ∈ its) ∧ p.length = ord.length
  | [], p, h => by
    simp only [pick, Option.some.injEq] at h
    subst h; simp
  | k :: ks, p, h => by
    simp only [pick] at h
    cases hx : its[k]? with
    | none => rw [hx] at h; simp at h
    | some x =>
      cases hr : pick its ks with
      | none => rw [hx, hr] at h; simp at h
      | some r =>
        rw [hx, hr] at h
        simp only [Option.some.injEq] at h
        subst h
        obtain ⟨h1, h2, h3⟩ := pick_o hr
        refine ⟨?_, fun y hy => ?_, by simp [h3]⟩
        · simp only [List.map_cons, h1]
          simp [hx]
        · rcases List.mem_cons.1 hy with rfl | hy
          · exact List.mem_of_getElem? hx
          · exact h2 y hy

theorem regS [Gd] {P : Program} {n : Nat} {w0 : World} {id : Nat} {ops : List Oper} {its : List It} (hits : its.map It.o = ops) (pl : Option Pl) (draw : Bool) (k : Nat) (fr : Fr) (h : Heap) (K : Fr → Heap → Prop) (f : Nat → Value) (w : World) (Q : Exit → Act → World → Prop)
    (ha : Ag fr f) (hw : w.heap = h) (hs : SameW w0 w) (hp : PnOk [] Q w0 (fun _ _ => True)) (hpk : PanicOk Q)
    (hK : ∀ fr' h' f' w', Ag fr' f' → w'.heap = h' → SameW w0 w' → Same (dstO ops) f f' → K fr' h' → Q .normal (mk n f') w')
    (hg : regT P n pl draw ops its k fr h K) : (Code.region id ops.toArray draw).wp P Q (mk n f) w := by
  have hin : ∀ {l : List It}, (∀ x ∈ l, x ∈ its) → ∀ j, (dstO ops).testBit j = false → (dsts l).testBit j = false := fun hl j hj => dsts_in hj fun x hx => by
    rw [← hits]; exact List.mem_map_of_mem (hl x hx)
  have tail : ∀ (l : List It), (∀ x ∈ l, x ∈ its) → ∀ {fr' : Fr} {h' : Heap} {f' : Nat → Value} {w' : World}, Ag fr' f' → w'.heap = h' → SameW w0 w' → Same (dstO ops) f f' → opsT P n .seq ops k l fr' h' K → wpList P ops.toArray Q (l.map It.o) (mk n f') w' := fun l hl fr' h' f' w' a b c d e =>
    seqS k l fr' h' K f' w' Q a b c hp (fun fr2 h2 f2 w2 a2 b2 c2 d2 _ g2 => hK fr2 h2 f2 w2 a2 b2 c2 (d.twice (d2.into (hin hl))) g2) e
  cases draw with
  | false =>
    refine region_seq ?_
    have := tail its (fun _ h => h) ha hw hs (Same.refl _ f) hg
    rwa [hits] at this
  | true =>
    simp only [regT] at hg
    obtain ⟨hm, hg⟩ := bif_elim hg
    cases pl with
    | none =>
      obtain ⟨hB, hg⟩ := bif_elim hg
      refine region_quiet (D := Eq h) hm hB hw.symm ?_
      have := quietS (w0 := w) (D := Eq h) k its fr h K f (fun a' => ∀ w', Eq h w'.heap → SameW w w' → Q .normal a' w') ha (fun fr' f' a d g w' h1 h2 => hK fr' h f' w' a h1.symm (hs.trans h2) (d.into (hin fun _ h => h)) g) hg
      rwa [hits] at this
    | some pl =>
      cases pl with
      | quietC =>
        obtain ⟨hB, D, hD, hg⟩ := bif_elim hg
        refine region_quiet (D := D) hm hB (by rw [hw]; exact hD) ?_
        have := quietS (w0 := w) (D := D) k its fr h (fun fr' _ => any D fun h' => K fr' h') f (fun a' => ∀ w', D w'.heap → SameW w w' → Q .normal a' w') ha (fun fr' f' a d g w' h1 h2 => hK fr' _ f' w' a rfl (hs.trans h2) (d.into (hin fun _ h => h)) (g _ h1)) hg
        rwa [hits] at this
      | mix m =>
        obtain ⟨hB, D, hD, hg⟩ := bif_elim hg
        refine region_mix _ hm hB hpk (D := D) (by rw [hw]; exact hD) fun w' h1 h2 => ?_
        have := mixS hp (ops := ops) (D := D) k (its.take m) fr h (fun fr' h' => opsT P n .seq ops k (its.drop m) fr' h' K) f w' (fun a' w' => wpList P ops.toArray Q ((its.drop m).map It.o) a' w') ha (h2.trans hw) (hs.trans h1)
          (fun fr' h' f' w'' a b c d _ g => tail _ (fun x hx => List.mem_of_mem_drop hx) a b c (d.into (hin fun x hx => List.mem_of_mem_take hx)) g) hg
        have hd : ops.drop ((its.take m).map fun x => !(kd P x.o).eff).length = (its.drop m).map It.o := by
          rw [← hits, List.map_drop, List.length_map, List.length_take]
          rcases Nat.le_total m its.length with hle | hle
          · rw [Nat.min_eq_left hle]
          · rw [Nat.min_eq_right hle, List.drop_eq_nil_of_le (by simp), List.drop_eq_nil_of_le (by simpa using hle)]
        rw [hd]
        have hz := zip_flg (P := P) its m
        rw [hits] at hz
        rw [hz]
        exact this
      | mixo ord =>
        simp only at hg
        cases hpi : pick its ord with
        | none => rw [hpi] at hg; exact hg.elim
        | some p =>
          rw [hpi] at hg
          obtain ⟨hB, D, hD, hg⟩ := bif_elim hg
          obtain ⟨hp1, hp2, hp3⟩ := pick_o hpi
          have hl1 : (p.map (flg P)).map (·.1) = ((p.map fun x => !(kd P x.o).eff).zip ord).map (·.1) := by
            rw [List.map_fst_zip (by simp [hp3]), List.map_map]; rfl
          have hl2 : ((p.map (flg P)).map fun x => some x.2) = ((p.map fun x => !(kd P x.o).eff).zip ord).map fun x => ops.toArray[x.2]? := by
            rw [show (fun x : Bool × Nat => ops.toArray[x.2]?) = (fun k => ops.toArray[k]?) ∘ Prod.snd from rfl, ← List.map_map, List.map_snd_zip (by simp [hp3]), List.map_map, ← hits, ← hp1]; rfl
          refine region_mixo _ (p.map (flg P)) hl1 hl2 hm hB hpk (D := D) (by rw [hw]; exact hD) fun w' h1 h2 => ?_
          have := mixS hp (ops := ops) (D := D) k p fr h (fun fr' h' => opsT P n .seq ops k (its.drop ord.length) fr' h' K) f w' (fun a' w' => wpList P ops.toArray Q ((its.drop ord.length).map It.o) a' w') ha (h2.trans hw) (hs.trans h1)
            (fun fr' h' f' w'' a b c d _ g => tail _ (fun x hx => List.mem_of_mem_drop hx) a b c (d.into (hin hp2)) g) hg
          have hd : ops.drop ((p.map fun x => !(kd P x.o).eff).zip ord).length = (its.drop ord.length).map It.o := by
            rw [← hits, List.map_drop, List.length_zip, List.length_map, hp3, Nat.min_self]
          rw [hd]
          exact this
      | fst qs =>
        obtain ⟨hB, hg⟩ := bif_elim hg
        refine region_fst qs hm hB hpk hw fun w' h1 h2 => ?_
        have hd : ops.drop qs.length = (its.drop qs.length).map It.o := by rw [← hits, List.map_drop]
        rw [hd]
        refine fstS hp (qs.zip ops) fr h _ f w' _ ha (h2.trans hw) (hs.trans h1) (fun fr' h' f' w'' a b c d g => tail _ (fun x hx => List.mem_of_mem_drop hx) a b c (d.into fun j hj => dstF_in hj fun x hx => (List.of_mem_zip hx).2) g) hg

/-! ### Code -/
section code
variable [Gd] (P : Program) (n : Nat) (pls : List (Nat × Pl)) (rs : Nat)
def shal : Code → Fr → Heap → Nat → List (Nat × Nat) → (Fr → Heap → Prop) → List (Nat × (Fr → Heap → Prop)) → (Fr → Heap → Prop) → Prop
  | .skip, fr, h, _, _, cN, _, _ => cN fr h
  | .label _, fr, h, _, _, cN, _, _ => cN fr h
  | .ret, fr, h, _, _, _, _, cR => cR fr h
  | .exit i, fr, h, _, _, _, cE, _ => match lk cE i with
    | some k => k fr h
    | none => False
  | .seq x y, fr, h, out, env, cN, cE, cR => match (ce 0 x).1 with
    | _ + 2 => (fun (par : List Nat) => join (κ := Cur true par.length) (curry h true par.length fun vals h' => shal y (fr.meet (mods x) par vals) h' out env cN cE cR) fun kk =>
        shal x fr h (live rs y out env) env (fun fr2 h2 => bif fr2.oks par then app true par.length kk (fr2.vals par) h2 else False) cE cR) (bits n (live rs y out env &&& mods x))
    | _ => shal x fr h (live rs y out env) env (fun fr' h' => shal y fr' h' out env cN cE cR) cE cR
  | .cond c x y, fr, h, out, env, cN, cE, cR => match ev n fr c with
    | .lit true => shal x fr h out env cN cE cR
    | .lit false => shal y fr h out env cN cE cR
    | .s i v => cond v (shal x (fr.subst i true) h out env cN cE cR) (shal y (fr.subst i false) h out env cN cE cR)
    | _ => False
  | .block i c, fr, h, out, env, cN, cE, cR => shal c fr h out ((i, out) :: env) cN ((i, cN) :: cE) cR
  | .loop c, fr, h, out, env, cN, cE, cR => (fun (L : Nat) => (fun (par : List Nat) => bif fr.oks par then loopT (fr.vals par) h fun vals h' nx =>
      shal c (fr.meet (mods c) par vals) h' L env (fun fr2 h2 => bif fr2.oks par then nx (fr2.vals par) h2 else False) cE cR else False) (bits n (L &&& mods c))) (fixL (fun L => live rs c L env) 20 0)
  | .region id ops draw, fr, h, out, _, cN, _, _ => (fun (l : List Oper) => regT P n (lk pls id) draw l (mkIts l 0 l out).2 (l.length + l.length + 5) fr h cN) ops.toList
  | _, _, _, _, _, _, _, _ => False

variable {P n pls rs}
theorem shalS {w0 : World} : ∀ (c : Code) (fr : Fr) (h : Heap) (out : Nat) (env : List (Nat × Nat)) (cN : Fr → Heap → Prop) (cE : List (Nat × (Fr → Heap → Prop))) (cR : Fr → Heap → Prop) (Q : Exit → Act → World → Prop) (f : Nat → Value) (w : World),
    Ag fr f → w.heap = h → SameW w0 w → PnOk [] Q w0 (fun _ _ => True) → PanicOk Q →
    (∀ fr' h' f' w', Ag fr' f' → w'.heap = h' → SameW w0 w' → Same (mods c) f f' → cN fr' h' → Q .normal (mk n f') w') →
    (∀ i k, lk cE i = some k → ∀ fr' h' f' w', Ag fr' f' → w'.heap = h' → SameW w0 w' → Same (mods c) f f' → k fr' h' → Q (.exit i) (mk n f') w') →
    (∀ fr' h' f' w', Ag fr' f' → w'.heap = h' → SameW w0 w' → cR fr' h' → Q .ret (mk n f') w') →
    shal P n pls rs c fr h out env cN cE cR → c.wp P Q (mk n f) w
  | .skip, fr, h, out, env, cN, cE, cR, Q, f, w, ha, hw, hs, hp, hpk, hN, hE, hR, hg => wp_skip (hN fr h f w ha hw hs (Same.refl _ f) hg)
  | .label _, fr, h, out, env, cN, cE, cR, Q, f, w, ha, hw, hs, hp, hpk, hN, hE, hR, hg => wp_label (hN fr h f w ha hw hs (Same.refl _ f) hg)
  | .ret, fr, h, out, env, cN, cE, cR, Q, f, w, ha, hw, hs, hp, hpk, hN, hE, hR, hg => wp_ret (hR fr h f w ha hw hs hg)
  | .exit i, fr, h, out, env, cN, cE, cR, Q, f, w, ha, hw, hs, hp, hpk, hN, hE, hR, hg => by
    simp only [shal] at hg
    cases hk : lk cE i with
    | none => rw [hk] at hg; exact hg.elim
    | some k => rw [hk] at hg; exact wp_exit (hE i k hk fr h f w ha hw hs (Same.refl _ f) hg)
  | .seq x y, fr, h, out, env, cN, cE, cR, Q, f, w, ha, hw, hs, hp, hpk, hN, hE, hR, hg => by
    simp only [shal] at hg
    haveI := hp
    refine wp_seq ?_
    have plain : shal P n pls rs x fr h (live rs y out env) env (fun fr' h' => shal P n pls rs y fr' h' out env cN cE cR) cE cR → x.wp P (Exit.then (y.wp P Q) Q) (mk n f) w := fun hg =>
      shalS x fr h _ env _ cE cR _ f w ha hw hs pnOk_then (panicOk_then hpk)
        (fun fr' h' f' w' a b c d g => shalS y fr' h' out env cN cE cR Q f' w' a b c hp hpk (fun fr2 h2 f2 w2 a2 b2 c2 d2 g2 => hN fr2 h2 f2 w2 a2 b2 c2 (d.trans d2) g2) (fun i k hk fr2 h2 f2 w2 a2 b2 c2 d2 g2 => hE i k hk fr2 h2 f2 w2 a2 b2 c2 (d.trans d2) g2) hR g)
        (fun i k hk fr' h' f' w' a b c d g => hE i k hk fr' h' f' w' a b c d.left g) hR hg
    split at hg
    · generalize bits n (live rs y out env &&& mods x) = par at hg
      exact shalS x fr h _ env _ cE cR _ f w ha hw hs pnOk_then (panicOk_then hpk)
        (fun fr2 h2 f2 w2 a b c d g => by
          obtain ⟨hok, g⟩ := bif_elim g
          rw [app_curry _ _ _ _ _ _ (by simp [Fr.vals]), a.vals hok] at g
          exact shalS y _ _ out env cN cE cR Q f2 w2 (ha.meet d par) b c hp hpk (fun fr2 h2 f2 w2 a2 b2 c2 d2 g2 => hN fr2 h2 f2 w2 a2 b2 c2 (d.trans d2) g2) (fun i k hk fr2 h2 f2 w2 a2 b2 c2 d2 g2 => hE i k hk fr2 h2 f2 w2 a2 b2 c2 (d.trans d2) g2) hR g)
        (fun i k hk fr' h' f' w' a b c d g => hE i k hk fr' h' f' w' a b c d.left g) hR hg
    · exact plain hg
  | .cond c x y, fr, h, out, env, cN, cE, cR, Q, f, w, ha, hw, hs, hp, hpk, hN, hE, hR, hg => by
    simp only [shal] at hg
    have hx : ∀ {fr'}, Ag fr' f → shal P n pls rs x fr' h out env cN cE cR → x.wp P Q (mk n f) w := fun ha hg =>
      shalS x _ h out env cN cE cR Q f w ha hw hs hp hpk (fun fr' h' f' w' a b c d g => hN fr' h' f' w' a b c d.left g) (fun i k hk fr' h' f' w' a b c d g => hE i k hk fr' h' f' w' a b c d.left g) hR hg
    have hy : ∀ {fr'}, Ag fr' f → shal P n pls rs y fr' h out env cN cE cR → y.wp P Q (mk n f) w := fun ha hg =>
      shalS y _ h out env cN cE cR Q f w ha hw hs hp hpk (fun fr' h' f' w' a b c d g => hN fr' h' f' w' a b c d.right g) (fun i k hk fr' h' f' w' a b c d g => hE i k hk fr' h' f' w' a b c d.right g) hR hg
    have he : (ev n fr c).ok = true → (mk n f).eval c = (ev n fr c).v := fun hk => by rw [mk_eval]; exact ev_eq ha hk
    cases hc : ev n fr c with
    | lit b =>
      rw [hc] at hg he
      cases b with
      | true => exact wp_cond_true (he rfl) (hx ha hg)
      | false => exact wp_cond_false (he rfl) (hy ha hg)
    | s i v =>
      rw [hc] at hg
      have h1 := ev_eq ha (x := c) (by rw [hc]; rfl)
      rw [hc] at h1
      have ht : ∃ t, fr.get t = .s i v := by
        cases c with
        | tmp t =>
          simp only [ev] at hc
          cases hb : Nat.blt t n with
          | true => rw [hb] at hc; exact ⟨t, hc⟩
          | false => rw [hb] at hc; cases hc
        | const u => exact absurd hc (svc_s u _ _)
        | global g => cases hc
        | func g => cases hc
      obtain ⟨t, ht⟩ := ht
      exact codeCond hg h1 (fun hv hg => hx (ha.subst ht hv) hg) (fun hv hg => hy (ha.subst ht hv) hg)
    | un => rw [hc] at hg; exact hg.elim
    | gone => rw [hc] at hg; exact hg.elim
    | c v => rw [hc] at hg; exact hg.elim
  | .block i c, fr, h, out, env, cN, cE, cR, Q, f, w, ha, hw, hs, hp, hpk, hN, hE, hR, hg => by
    haveI := hp
    refine wp_block (shalS c fr h out _ cN _ cR _ f w ha hw hs pnOk_blk (panicOk_blk hpk) (fun fr' h' f' w' a b c d g => blkN (hN fr' h' f' w' a b c d g)) (fun j k hk fr' h' f' w' a b c d g => ?_) (fun fr' h' f' w' a b c g => blkR (hR fr' h' f' w' a b c g)) hg)
    simp only [lk] at hk
    by_cases hj : j = i
    · subst hj
      simp only [Nat.beq_refl, cond_true, Option.some.injEq] at hk
      subst hk
      exact blkE (hN fr' h' f' w' a b c d g)
    · have hb : Nat.beq j i = false := by simpa [← Bool.not_eq_true, Nat.beq_eq] using hj
      rw [hb] at hk
      exact blkX hb (hE j k hk fr' h' f' w' a b c d g)
  | .loop c, fr, h, out, env, cN, cE, cR, Q, f, w, ha, hw, hs, hp, hpk, hN, hE, hR, hg => by
    simp only [shal] at hg
    haveI := hp
    generalize fixL (fun L => live rs c L env) 20 0 = L at hg
    generalize bits n (L &&& mods c) = par at hg
    obtain ⟨hok, hg⟩ := bif_elim hg
    obtain ⟨I, m0, h0, hr⟩ := loopT_elim hg
    rw [ha.vals hok] at h0
    refine wp_loop_m (fun m a w' => ∃ f', a = mk n f' ∧ SameW w0 w' ∧ Same (mods c) f f' ∧ I m (par.map f') w'.heap) m0 ⟨f, rfl, hs, Same.refl _ f, by rw [hw]; exact h0⟩ ?_
    rintro m _ wl ⟨f1, rfl, hs1, hm1, hI⟩
    exact shalS c _ _ L env _ cE cR _ f1 wl (ha.meet hm1 par) rfl hs1 pnOk_then (panicOk_then hpk)
      (fun fr2 h2 f2 w2 a b c d g => by
        obtain ⟨hok2, m', hlt, g⟩ := bif_elim g
        rw [a.vals hok2] at g
        exact ⟨m', hlt, f2, rfl, c, hm1.twice d, by rw [b]; exact g⟩)
      (fun i k hk fr' h' f' w' a b c d g => hE i k hk fr' h' f' w' a b c (hm1.twice d) g) hR (hr m _ _ hI)
  | .region id ops draw, fr, h, out, env, cN, cE, cR, Q, f, w, ha, hw, hs, hp, hpk, hN, hE, hR, hg => by
    have := regS (id := id) (mkIts_o ops.toList ops.toList 0 out) (lk pls id) draw _ fr h cN f w Q ha hw hs hp hpk hN hg
    rwa [Array.toArray_toList] at this
  | .rangeFunc .., fr, h, out, env, cN, cE, cR, Q, f, w, ha, hw, hs, hp, hpk, hN, hE, hR, hg => hg.elim
  | .scope .., fr, h, out, env, cN, cE, cR, Q, f, w, ha, hw, hs, hp, hpk, hN, hE, hR, hg => hg.elim
  | .goto .., fr, h, out, env, cN, cE, cR, Q, f, w, ha, hw, hs, hp, hpk, hN, hE, hR, hg => hg.elim
  | .refuse .., fr, h, out, env, cN, cE, cR, Q, f, w, ha, hw, hs, hp, hpk, hN, hE, hR, hg => hg.elim
end code

/-! ### Functions -/
def okT (n : Nat) (fr : Fr) (t : Nat) : Bool := Nat.blt t n && (fr.get t).ok
def okR (n : Nat) (fr : Fr) : ResultVar → Bool
  | .tmp t => okT n fr t
  | .cell a _ => okT n fr a
def resP (fr : Fr) : ResultVar → Option TypeId × Value
  | .tmp t => (none, (fr.get t).v)
  | .cell a t => (some t, (fr.get a).v)
def finR (P : Program) (n : Nat) (q : Bool) (rs : List ResultVar) (fr : Fr) (h : Heap) (R : Value → Heap → Prop) : Prop := match rs with
  | [] => R (.tuple #[]) h
  | [.tmp t] => bif okT n fr t then R (fr.get t).v h else False
  | [.tmp t, .tmp u] => bif okT n fr t && okT n fr u then R (.tuple #[(fr.get t).v, (fr.get u).v]) h else False
  | rs => bif rs.all (okR n fr) && q then oRes P (rs.map (resP fr)) h R else False
def retL : List ResultVar → Nat
  | [] => 0
  | .tmp t :: r => 2 ^ t ||| retL r
  | .cell t _ :: r => 2 ^ t ||| retL r
def argL : Nat → List Value → List (Nat × SV)
  | _, [] => []
  | i, v :: r => (i, .s i v) :: argL (i + 1) r
def shalF [Gd] (P : Program) (pls : List (Nat × Pl)) (fn : Func) (args : List Value) (h : Heap) (R : Value → Heap → Prop) : Prop := match fn.body with
  | some c => bif Nat.ble args.length fn.ntmps then
      (fun (rs : List ResultVar) => shal P fn.ntmps pls (retL rs) c ⟨argL 0 args, 0⟩ h (retL rs) [] (fun fr h => finR P fn.ntmps false rs fr h R) [] (fun fr h => finR P fn.ntmps true rs fr h R)) fn.results.toList
    else False
  | none => False

theorem getL_arg : ∀ (l : List Value) (i j : Nat) (d : SV), getL (argL i l) j d = if h : i ≤ j ∧ j - i < l.length then .s j (l[j - i]'h.2) else d
  | [], i, j, d => by simp [argL, getL]
  | v :: r, i, j, d => by
    simp only [argL, getL]
    by_cases hj : j = i
    · subst hj; simp
    · have hb : Nat.beq j i = false := by simpa [← Bool.not_eq_true, Nat.beq_eq] using hj
      rw [hb, cond_false, getL_arg r (i + 1) j d]
      by_cases h : i + 1 ≤ j ∧ j - (i + 1) < r.length
      · rw [dif_pos h, dif_pos ⟨by omega, by simp only [List.length_cons]; omega⟩]
        have : j - i = (j - (i + 1)) + 1 := by omega
        simp [this]
      · rw [dif_neg h, dif_neg (fun hc => h ⟨by omega, by have := hc.2; simp only [List.length_cons] at this; omega⟩)]
theorem argL_id : ∀ (l : List Value) (i : Nat) (p : Nat × SV), p ∈ argL i l → ∀ k v, p.2 = .s k v → i ≤ k ∧ v = l.getD (k - i) undef
  | [], _, _, hp, _, _, _ => by cases hp
  | u :: r, i, p, hp, k, v, e => by
    rcases List.mem_cons.1 hp with rfl | hp
    · simp only [SV.s.injEq] at e
      obtain ⟨rfl, rfl⟩ := e
      simp
    · obtain ⟨h1, h2⟩ := argL_id r (i + 1) p hp k v e
      refine ⟨by omega, ?_⟩
      rw [h2, show k - i = (k - (i + 1)) + 1 by omega]
      simp
theorem ag_args (l : List Value) : Ag ⟨argL 0 l, 0⟩ fun i => l.getD i undef := by
  refine ⟨fun j hj => ?_, fun i => l.getD i undef, fun p hp i v e => ?_⟩
  · simp only [Fr.get, getL_arg, Nat.zero_testBit, cond_false] at hj ⊢
    by_cases h : 0 ≤ j ∧ j - 0 < l.length
    · rw [dif_pos h]
      have : j < l.length := h.2
      simp [SV.v, this]
    · rw [dif_neg h]
      have : ¬ j < l.length := fun hc => h ⟨Nat.zero_le _, hc⟩
      simp [SV.v, List.getD, Nat.le_of_not_lt this]
  · exact (argL_id l 0 p hp i v e).2
theorem args_mk {n : Nat} {l : List Value} (h : l.length ≤ n) : l.toArray ++ Array.replicate (n - l.toArray.size) undef = (mk n fun i => l.getD i undef).tmps := by
  apply Array.ext
  · simp [mkD]; omega
  · intro i h1 h2
    simp only [mkD, List.getElem_toArray, List.getElem_map, List.getElem_range]
    by_cases hi : i < l.length
    · rw [Array.getElem_append_left (by simpa using hi)]
      simp [hi]
    · rw [Array.getElem_append_right (by simpa using Nat.le_of_not_lt hi)]
      simp [List.getD, Nat.le_of_not_lt hi]
theorem okT_f {n : Nat} {fr : Fr} {f : Nat → Value} (ha : Ag fr f) {t : Nat} (h : okT n fr t = true) : Nat.blt t n = true ∧ f t = (fr.get t).v := by
  simp only [okT, Bool.and_eq_true] at h
  exact ⟨h.1, ha.val t h.2⟩
theorem rrel_of {n : Nat} {fr : Fr} {f : Nat → Value} (ha : Ag fr f) : ∀ {rs : List ResultVar}, rs.all (okR n fr) = true → rrel n f rs (rs.map (resP fr))
  | [], _ => trivial
  | .tmp t :: r, h => by
    simp only [List.all_cons, Bool.and_eq_true] at h
    obtain ⟨h1, h2⟩ := okT_f ha h.1
    exact ⟨h1, h2, rrel_of ha h.2⟩
  | .cell a t :: r, h => by
    simp only [List.all_cons, Bool.and_eq_true] at h
    obtain ⟨h1, h2⟩ := okT_f ha h.1
    exact ⟨h1, h2, rfl, rrel_of ha h.2⟩
theorem finS [Gd] {P : Program} {fn : Func} {n : Nat} {q : Bool} {fr : Fr} {f : Nat → Value} {h : Heap} {R : Value → Heap → Prop} {w0 w : World} (ha : Ag fr f) (hw : w.heap = h) (hs : SameW w0 w)
    (hg : finR P n q fn.results.toList fr h R) : bodyPost P fn (EndOk w0 R) .ret (mk n f) w ∧ (q = false → bodyPost P fn (EndOk w0 R) .normal (mk n f) w) := by
  have two : ∀ {v : Value}, (results fn (mk n f).tmps).run P w = .ok v w → R v h → bodyPost P fn (EndOk w0 R) .ret (mk n f) w ∧ (q = false → bodyPost P fn (EndOk w0 R) .normal (mk n f) w) := fun hr hk =>
    ⟨post_ret hr (.inl ⟨_, rfl, hs, by rw [hw]; exact hk⟩), fun _ => post_end hr (.inl ⟨_, rfl, hs, by rw [hw]; exact hk⟩)⟩
  have hrs : fn.results = fn.results.toList.toArray := by simp
  generalize hl : fn.results.toList = rs at hg hrs
  have gen : (bif rs.all (okR n fr) && q then oRes P (rs.map (resP fr)) h R else False) → bodyPost P fn (EndOk w0 R) .ret (mk n f) w ∧ (q = false → bodyPost P fn (EndOk w0 R) .normal (mk n f) w) := fun hg => by
    obtain ⟨hok, hg⟩ := bif_elim hg
    simp only [Bool.and_eq_true] at hok
    exact ⟨post_res hg hw hs hrs (rrel_of ha hok.1), fun hq => by rw [hok.2] at hq; cases hq⟩
  unfold finR at hg
  split at hg
  · exact two (res_none hrs) hg
  · obtain ⟨hok, hg⟩ := bif_elim hg
    obtain ⟨h1, h2⟩ := okT_f ha hok
    exact two (res_tmp hrs h1 h2) hg
  · obtain ⟨hok, hg⟩ := bif_elim hg
    simp only [Bool.and_eq_true] at hok
    obtain ⟨h1, h2⟩ := okT_f ha hok.1
    obtain ⟨h3, h4⟩ := okT_f ha hok.2
    exact two (res_tmp2 hrs h1 h3 h2 h4) hg
  · exact gen hg
theorem hc_shal [Gd] {P : Program} {g : FuncId} {fn : Func} {args : List Value} {h : Heap} {R : Value → Heap → Prop} {G : Prop} (pls : List (Nat × Pl)) (hf : P.funcs[g]? = some fn)
    (he : shalF P pls fn args h R = G) (hg : G) : HC P g args.toArray h R := by
  rw [← he] at hg
  unfold shalF at hg
  cases hb : fn.body with
  | none => rw [hb] at hg; exact hg.elim
  | some c =>
    rw [hb] at hg
    obtain ⟨hn, hg⟩ := bif_elim hg
    refine hc_of_wp (n := fn.ntmps) hf hb rfl (args_mk (by simpa using hn)) fun w hw => ?_
    exact shalS c _ h _ _ _ _ _ _ _ w (ag_args args) hw (SameW.refl w) pnOk_base panicOk_base (fun fr' h' f' w' a b c' d g' => (finS a b c' g').2 rfl) (fun i k hk => by cases hk) (fun fr' h' f' w' a b c' g' => (finS a b c' g').1) hg
end Go.Sh
