/- Maps of rows of one's own, told with their entries' stamps: for a range that stores: over any program. -/
import Derived.Test.YtfhbpghgcgmegaaMr
set_option linter.unusedVariables false
namespace Go.Sh
section mrs
variable {P : Program} {α : Type}
def MRSh (enc : α → Value) (v : Value) (st : List Nat) (c : Nat) (e : List (Str × List α)) (o : Option Str) : HP :=
  HP.ex fun es : List (Ent α) => HP.pure (es.map (fun t => (t.1, t.2.2)) = e) (HP.all (MapS v (es.map fun t => (t.1, t.2.1)) st c :: es.map (cellH enc o)))
theorem St.mrsOpen {enc : α → Value} {h0 h : Heap} {v : Value} {st : List Nat} {c : Nat} {e : List (Str × List α)} {o : Option Str} {L : List HP} (s : St h0 h (MRSh enc v st c e o :: L)) :
    ∃ es : List (Ent α), e = es.map (fun t => (t.1, t.2.2)) ∧ (es.map (·.1)).Nodup ∧ St h0 h (MapS v (es.map fun t => (t.1, t.2.1)) st c :: (es.map (cellH enc o) ++ L)) := by
  obtain ⟨es, s⟩ := St.ex s
  obtain ⟨he, s⟩ := St.pure s
  have s1 := s.open
  refine ⟨es, he.symm, ?_, s1⟩
  have := s1.mapRd.1.keys
  rw [List.map_map] at this
  exact this
theorem St.mrsShut {enc : α → Value} {h0 h : Heap} {v : Value} {st : List Nat} {c : Nat} {o : Option Str} {es : List (Ent α)} {L : List HP} (s : St h0 h (MapS v (es.map fun t => (t.1, t.2.1)) st c :: (es.map (cellH enc o) ++ L))) :
    St h0 h (MRSh enc v st c (es.map fun t => (t.1, t.2.2)) o :: L) :=
  St.toEx es (St.toPure rfl (St.shut (M := MapS v (es.map fun t => (t.1, t.2.1)) st c :: es.map (cellH enc o)) s))
theorem St.mrToS {enc : α → Value} {h0 h : Heap} {v : Value} {e : List (Str × List α)} {o : Option Str} {L : List HP} (s : St h0 h (MRh enc v e o :: L)) : ∃ st c, St h0 h (MRSh enc v st c e o :: L) := by
  obtain ⟨es, rfl, _, s1⟩ := s.mrOpen
  obtain ⟨st, c, s2⟩ := St.mapO s1
  exact ⟨st, c, s2.mrsShut⟩
theorem St.mrsToMr {enc : α → Value} {h0 h : Heap} {v : Value} {st : List Nat} {c : Nat} {e : List (Str × List α)} {o : Option Str} {L : List HP} (s : St h0 h (MRSh enc v st c e o :: L)) : St h0 h (MRh enc v e o :: L) := by
  obtain ⟨es, rfl, _, s1⟩ := s.mrsOpen
  exact St.mrShut (St.toMapO s1)
theorem St.mrsRd {enc : α → Value} {h0 h : Heap} {v : Value} {st : List Nat} {c : Nat} {e : List (Str × List α)} {o : Option Str} {L : List HP} (s : St h0 h (MRSh enc v st c e o :: L)) :
    ∃ m, RdM h v m st c ∧ m.map (·.1) = e.map (·.1) := by
  obtain ⟨es, rfl, _, s1⟩ := s.mrsOpen
  exact ⟨_, s1.mapRd, by rw [List.map_map, List.map_map]; rfl⟩
/-- 'e[k] = x': a row of one's own goes into the map. -/
theorem oPutMRS {t kt et : TypeId} [Und P t (.map kt et)] [Und P kt .string] {enc : α → Value} {h0 h : Heap} {v x : Value} {st : List Nat} {c : Nat} {e : List (Str × List α)} {k : Str} {l : List α} {o : Option Str} {L : List HP} {K : Value → Heap → Prop}
    (ho : ∀ x, o = some x → x = k) (hk : k ∈ e.map (·.1)) (s : St h0 h (Row 1 x l.length (l.map enc) :: MRSh enc v st c e o :: L)) (g : ∀ h', St h0 h' (MRSh enc v st c (put e k l) none :: L) → K undef h') : oUpd P t v (str k) x h K := by
  obtain ⟨es, rfl, hn, s1⟩ := s.swap.mrsOpen
  have s1' : St h0 h (MapS v (es.map fun t => (t.1, t.2.1)) st c :: Row 1 x l.length (l.map enc) :: (es.map (cellH enc o) ++ L)) := s1.perm (List.Perm.cons _ List.perm_middle)
  rw [List.map_map] at hk
  have hk : k ∈ es.map (·.1) := hk
  refine oUpd_own s1' fun h' st' c' hst s3 => g h' ?_
  obtain ⟨rfl, rfl⟩ := hst ((look_isSome k _).2 (by rw [List.map_map]; exact hk))
  have s4 := s3
  rw [ups_put] at s4
  have hno : ∀ x, (none : Option Str) = some x → x = k := fun x h => by cases h
  obtain ⟨a, ⟨y, l0⟩, b, rfl, hka⟩ := mem_split hk
  have hkb : k ∉ b.map (·.1) := by
    rw [List.map_append, List.map_cons, List.nodup_append, List.nodup_cons] at hn
    exact hn.2.1.1
  rw [List.map_append, List.map_cons, put_mid (by rw [List.map_map]; exact hka)] at s4 ⊢
  have e1 : a.map (fun t : Ent α => (t.1, t.2.2)) ++ (k, l) :: b.map (fun t : Ent α => (t.1, t.2.2)) = (a ++ (k, x, l) :: b).map fun t : Ent α => (t.1, t.2.2) := by simp
  have e2 : a.map (fun t : Ent α => (t.1, t.2.1)) ++ (k, x) :: b.map (fun t : Ent α => (t.1, t.2.1)) = (a ++ (k, x, l) :: b).map fun t : Ent α => (t.1, t.2.1) := by simp
  rw [e1]
  rw [e2] at s4
  refine St.mrsShut ?_
  have s5 := s4.perm ((List.Perm.cons _ (List.Perm.cons _ (by rw [List.map_append, List.map_cons]; exact mid_perm _ _ _ _))).trans ((List.Perm.cons _ (List.Perm.swap _ _ _)).trans (List.Perm.swap _ _ _)))
  have s6 := s5.drop
  refine s6.perm (List.Perm.cons _ ?_)
  rw [cell_ne ho hno hka, cell_ne ho hno hkb, List.map_append, List.map_cons]
  have e3 : cellH enc none (k, x, l) = Row 1 x l.length (l.map enc) := by unfold cellH; rw [if_neg (by simp)]
  rw [e3]
  exact (mid_perm _ _ _ _).symm
/-- A row is taken out. -/
theorem St.mrsTake {enc : α → Value} {h0 h : Heap} {v : Value} {st : List Nat} {c : Nat} {e : List (Str × List α)} {L : List HP} (k : Str) (s : St h0 h (MRSh enc v st c e none :: L)) :
    ∃ m : List (Str × Value), RdM h v m st c ∧ ∃ x, x = (look m k).getD (.slice none 0 0) ∧ St h0 h (Row 1 x ((Sh.get e k).getD []).length (((Sh.get e k).getD []).map enc) :: MRSh enc v st c e (some k) :: L) := by
  obtain ⟨es, rfl, hn, s1⟩ := s.mrsOpen
  refine ⟨_, s1.mapRd, _, rfl, ?_⟩
  have hno : ∀ x, (none : Option Str) = some x → x = k := fun x h => by cases h
  have hso : ∀ x, some k = some x → x = k := fun x h => by simpa using h.symm
  by_cases hk : k ∈ es.map (·.1)
  · obtain ⟨a, ⟨y, l0⟩, b, rfl, hka⟩ := mem_split hk
    have hkb : k ∉ b.map (·.1) := by
      rw [List.map_append, List.map_cons, List.nodup_append, List.nodup_cons] at hn
      exact hn.2.1.1
    have h1 : look ((a ++ (k, y, l0) :: b).map fun t => (t.1, t.2.1)) k = some y := by
      rw [look_get, List.map_append, List.map_cons]
      exact get_mid (by rw [List.map_map]; exact hka)
    have h2 : Sh.get ((a ++ (k, y, l0) :: b).map fun t => (t.1, t.2.2)) k = some l0 := by
      rw [List.map_append, List.map_cons]
      exact get_mid (by rw [List.map_map]; exact hka)
    rw [h1, h2]
    simp only [Option.getD_some]
    have s3 := s1.perm ((List.Perm.cons _ (by rw [List.map_append, List.map_cons]; exact mid_perm _ _ _ _)).trans (List.Perm.swap _ _ _))
    have e3 : cellH enc none (k, y, l0) = Row 1 y l0.length (l0.map enc) := by unfold cellH; rw [if_neg (by simp)]
    rw [e3] at s3
    have s4 : St h0 h (MapS v ((a ++ (k, y, l0) :: b).map fun t => (t.1, t.2.1)) st c :: ((a ++ (k, y, l0) :: b).map (cellH enc (some k)) ++ (Row 1 y l0.length (l0.map enc) :: L))) := by
      have e4 : cellH enc (some k) (k, y, l0) = HP.all [] := by unfold cellH; rw [if_pos rfl]
      rw [List.map_append (f := cellH enc (some k)), List.map_cons (f := cellH enc (some k)), e4, ← cell_ne (enc := enc) hno hso hka, ← cell_ne (enc := enc) hno hso hkb]
      refine s3.addNil.perm ?_
      refine (List.Perm.cons _ (List.Perm.swap _ _ _)).trans ((List.Perm.swap _ _ _).trans (List.Perm.cons _ ?_))
      refine List.Perm.trans ?_ (mid_perm _ _ _ _).symm
      exact List.Perm.cons _ List.perm_middle.symm
    exact (St.mrsShut s4).swap
  · have h1 : look (es.map fun t => (t.1, t.2.1)) k = none := by
      rw [look_get]
      exact get_none (by rw [List.map_map]; exact hk)
    have h2 : Sh.get (es.map fun t => (t.1, t.2.2)) k = none := get_none (by rw [List.map_map]; exact hk)
    rw [h1, h2]
    refine St.nilRow ?_
    rw [cell_ne hno hso hk] at s1
    exact St.mrsShut s1
end mrs
end Go.Sh
