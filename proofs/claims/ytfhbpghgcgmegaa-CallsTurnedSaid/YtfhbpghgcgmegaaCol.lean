/- Rows of rows, maps of rows, popping a row: over any program. -/
import Derived.Test.YtfhbpghgcgmegaaMp
set_option linter.unusedVariables false
namespace Go.Sh
section col
variable {P : Program} {α : Type}

/-- A slice that can be read. -/
def RdL (enc : α → Value) (h : Heap) (v : Value) (l : List α) : Prop := IsSl v l.length ∧ Rd h (sbase v) (l.map enc)
theorem RdL.ext {enc : α → Value} {h h' : Heap} {v : Value} {l : List α} (r : RdL enc h v l) (he : Ext h h') : RdL enc h' v l := ⟨r.1, r.2.ext he⟩
theorem RdL.nil (enc : α → Value) (h : Heap) (c : Nat) : RdL enc h (.slice none 0 c) [] := ⟨⟨_, _, rfl⟩, Rd.nil _ _⟩
theorem St.rdL {enc : α → Value} {h0 h : Heap} {v : Value} {n : Nat} {l : List α} {L : List HP} (s : St h0 h (Row 1 v n (l.map enc) :: L)) : RdL enc h v l := by
  obtain ⟨h1, h2, h3⟩ := s.row
  have : n = l.length := by simpa using h2.symm
  subst this
  exact ⟨h1, h3⟩
/-- A slice of slices that can be read. -/
def RdLL (enc : α → Value) (h : Heap) (v : Value) (ll : List (List α)) : Prop :=
  IsSl v ll.length ∧ ∃ vs : List Value, vs.length = ll.length ∧ Rd h (sbase v) vs ∧ ∀ (i : Nat) (x : Value) (l : List α), vs[i]? = some x → ll[i]? = some l → RdL enc h x l
theorem RdLL.ext {enc : α → Value} {h h' : Heap} {v : Value} {ll : List (List α)} (r : RdLL enc h v ll) (he : Ext h h') : RdLL enc h' v ll := by
  obtain ⟨h1, vs, h2, h3, h4⟩ := r
  exact ⟨h1, vs, h2, h3.ext he, fun i x l hx hl => (h4 i x l hx hl).ext he⟩

/-- One element of a slice is read. -/
theorem oGet {t e : TypeId} [Und P t (.slice e)] [Siz P e 1] [IsA P e false] {enc : α → Value} {v : Value} {l : List α} {i : Nat} {a : α} {ik : IntKind} {D : Heap → Prop} {K : Value → Prop}
    (hv : IsSl v l.length) (hnz : ∃ h, Rd h (sbase v) (l.map enc)) (hr : ∀ h', D h' → Rd h' (sbase v) (l.map enc)) (hi : l[i]? = some a) (hk : K (enc a)) :
    oIdx P t v (.int ik i) fun p => oLoad P e p D K := by
  have hlt : i < l.length := (List.getElem?_eq_some_iff.1 hi).1
  obtain ⟨h, hz⟩ := hnz
  rw [oIdx_sl hv (hz.nz (by simp; omega)) (by omega) (by omega)]
  refine oLoad1 (cs := l.map enc) (x := enc a) hr ?_ hk
  rw [Int.toNat_natCast, Nat.mul_one, List.getElem?_map, hi]
  rfl
theorem oGetL {t e : TypeId} [Und P t (.slice e)] [Siz P e 1] [IsA P e false] {enc : α → Value} {v : Value} {l : List α} {i : Nat} {a : α} {ik : IntKind} {h : Heap} {K : Value → Prop}
    (hr : RdL enc h v l) (hi : l[i]? = some a) (hk : K (enc a)) : oIdx P t v (.int ik i) fun p => oLoad P e p (Eq h) K :=
  oGet hr.1 ⟨_, hr.2⟩ (fun _ e => e ▸ hr.2) hi hk
theorem oGetLLx {t e : TypeId} [Und P t (.slice e)] [Siz P e 1] [IsA P e false] {enc : α → Value} {v : Value} {ll : List (List α)} {i : Nat} {l : List α} {ik : IntKind} {h h' : Heap} {K : Value → Prop}
    (hr : RdLL enc h v ll) (he : Ext h h') (hi : ll[i]? = some l) (hk : ∀ x, RdL enc h x l → K x) : oIdx P t v (.int ik i) fun p => oLoad P e p (Eq h') K := by
  obtain ⟨h1, vs, h2, h3, h4⟩ := hr
  have hlt : i < ll.length := (List.getElem?_eq_some_iff.1 hi).1
  obtain ⟨x, hx⟩ : ∃ x, vs[i]? = some x := ⟨vs[i], List.getElem?_eq_getElem (by omega)⟩
  rw [oIdx_sl h1 (h3.nz (by omega)) (by omega) (by omega)]
  exact oLoad1 (cs := vs) (x := x) (fun _ e => e ▸ h3.ext he) (by simpa using hx) (hk x (h4 i x l hx hi))
theorem oGetLL {t e : TypeId} [Und P t (.slice e)] [Siz P e 1] [IsA P e false] {enc : α → Value} {v : Value} {ll : List (List α)} {i : Nat} {l : List α} {ik : IntKind} {h : Heap} {K : Value → Prop}
    (hr : RdLL enc h v ll) (hi : ll[i]? = some l) (hk : ∀ x, RdL enc h x l → K x) : oIdx P t v (.int ik i) fun p => oLoad P e p (Eq h) K := oGetLLx hr (Ext.refl h) hi hk
theorem one1 {x : Value} (hx : one x = true) : ∀ y ∈ [x], one y = true := fun y hy => by
  rw [List.mem_singleton] at hy
  rw [hy]; exact hx
/-- 'append(v, x)'. -/
theorem oPush {t e ty : TypeId} {b : Nat} {z : Value} [Und P t (.slice e)] [Inf P e 1 b z] {enc : α → Value} {h0 h : Heap} {v : Value} {l : List α} {x : α} {L : List HP} {K : Value → Heap → Prop}
    (s : St h0 h (Row 1 v l.length (l.map enc) :: L)) (hx : one (enc x) = true) (hz : one z = true) (hb : (l.length + 1) * b ≤ 140737488355328) (hb2 : l.length + 1 ≤ 4611686018427387904)
    (g : ∀ v' h', St h0 h' (Row 1 v' (l ++ [x]).length ((l ++ [x]).map enc) :: L) → K v' h') : oBuildSlice P t 1 #[(0, enc x)] h fun u h1 => oAppend P #[t, t] ty #[v, u] h1 K := by
  have hcz : z.cells.size = 1 := by cases z <;> first | (simp [one] at hz; done) | rfl
  refine oBuild1o s hx hz fun u h1 s1 => ?_
  obtain ⟨hu, _, hur⟩ := s1.row
  refine oAppendR (cs := l.map enc) (xs := [enc x]) (m := 1) s1.swap hcz (by omega) hu rfl hur (one1 hx) hb hb2 fun v' h2 s2 => g v' h2 ?_
  have := s2.swap.drop
  simpa using this

/-! Owned rows of rows. -/
def rows (enc : α → Value) : List Value → List (List α) → List HP
  | x :: vs, l :: ll => Row 1 x l.length (l.map enc) :: rows enc vs ll
  | _, _ => []
theorem rows_pick (enc : α → Value) : ∀ (vs : List Value) (ll : List (List α)) (j : Nat) (x : Value) (l : List α), vs[j]? = some x → ll[j]? = some l →
    ∃ rest : List HP, (rows enc vs ll).Perm (Row 1 x l.length (l.map enc) :: rest) ∧ ∀ x' l', (Row 1 x' (List.length l') (l'.map enc) :: rest).Perm (rows enc (vs.set j x') (ll.set j l'))
  | [], _, j, x, l, h, _ => by simp at h
  | _ :: _, [], j, x, l, _, h => by simp at h
  | y :: vs, m :: ll, 0, x, l, h, k => by
    simp only [List.getElem?_cons_zero, Option.some.injEq] at h k
    subst h; subst k
    exact ⟨rows enc vs ll, .refl _, fun x' l' => .refl _⟩
  | y :: vs, m :: ll, j + 1, x, l, h, k => by
    simp only [List.getElem?_cons_succ] at h k
    obtain ⟨rest, h1, h2⟩ := rows_pick enc vs ll j x l h k
    refine ⟨Row 1 y m.length (m.map enc) :: rest, ?_, fun x' l' => ?_⟩
    · exact (List.Perm.cons _ h1).trans (.swap _ _ _)
    · exact (List.Perm.swap _ _ _).trans (List.Perm.cons _ (h2 x' l'))
def RR (enc : α → Value) (v : Value) (ll : List (List α)) : HP :=
  HP.ex fun vs : List Value => HP.pure (vs.length = ll.length) (HP.all (Row 1 v ll.length vs :: rows enc vs ll))
theorem St.rrOpenAll {enc : α → Value} {h0 h : Heap} {v : Value} {ll : List (List α)} {L : List HP} (s : St h0 h (RR enc v ll :: L)) :
    ∃ vs : List Value, vs.length = ll.length ∧ St h0 h (Row 1 v ll.length vs :: (rows enc vs ll ++ L)) := by
  obtain ⟨vs, s⟩ := St.ex s
  obtain ⟨hl, s⟩ := St.pure s
  exact ⟨vs, hl, s.open⟩
theorem St.rrShutAll {enc : α → Value} {h0 h : Heap} {v : Value} {ll : List (List α)} {vs : List Value} {L : List HP} (hl : vs.length = ll.length)
    (s : St h0 h (Row 1 v ll.length vs :: (rows enc vs ll ++ L))) : St h0 h (RR enc v ll :: L) := St.toEx vs (St.toPure hl (St.shut (M := Row 1 v ll.length vs :: rows enc vs ll) s))
theorem St.rdRows {enc : α → Value} {h0 h : Heap} : ∀ {vs : List Value} {ll : List (List α)} {L : List HP}, St h0 h (rows enc vs ll ++ L) → ∀ (i : Nat) (x : Value) (l : List α), vs[i]? = some x → ll[i]? = some l → RdL enc h x l := by
  intro vs ll L s i x l hx hl
  obtain ⟨rest, h1, _⟩ := rows_pick enc vs ll i x l hx hl
  exact St.rdL (s.perm (h1.append_right L))
theorem St.rr {enc : α → Value} {h0 h : Heap} {v : Value} {ll : List (List α)} {L : List HP} (s : St h0 h (RR enc v ll :: L)) : RdLL enc h v ll := by
  obtain ⟨vs, hl, s⟩ := s.rrOpenAll
  obtain ⟨h1, _, h3⟩ := s.row
  exact ⟨h1, vs, hl, h3, fun i x l hx hll => St.rdRows s.drop i x l hx hll⟩
theorem St.rrOpen {enc : α → Value} {h0 h : Heap} {v : Value} {ll : List (List α)} {L : List HP} {j : Nat} {l : List α} (s : St h0 h (RR enc v ll :: L)) (hj : ll[j]? = some l) :
    ∃ (vs : List Value) (x : Value) (M : List HP), vs.length = ll.length ∧ vs[j]? = some x ∧ St h0 h (Row 1 x l.length (l.map enc) :: Row 1 v ll.length vs :: M) ∧
      ∀ h' x' l', St h0 h' (Row 1 x' (List.length l') (l'.map enc) :: Row 1 v ll.length (vs.set j x') :: M) → St h0 h' (RR enc v (ll.set j l') :: L) := by
  obtain ⟨vs, hl, s⟩ := s.rrOpenAll
  have hlt : j < ll.length := (List.getElem?_eq_some_iff.1 hj).1
  obtain ⟨x, hx⟩ : ∃ x, vs[j]? = some x := ⟨vs[j], List.getElem?_eq_getElem (by omega)⟩
  obtain ⟨rest, h1, h2⟩ := rows_pick enc vs ll j x l hx hj
  refine ⟨vs, x, rest ++ L, hl, hx, ?_, fun h' x' l' s' => ?_⟩
  · exact (s.perm (List.Perm.cons _ (h1.append_right L))).swap
  · have := s'.swap.perm (List.Perm.cons _ ((h2 x' l').append_right L))
    refine St.rrShutAll (vs := vs.set j x') (by simp [hl]) ?_
    rw [List.length_set]
    exact this

/-- 'make([][]T, n)'. -/
theorem rows_nil (enc : α → Value) (n : Nat) : ∀ {h0 h : Heap} {L : List HP}, St h0 h L → St h0 h (rows enc (List.replicate n (.slice none 0 0)) (List.replicate n []) ++ L) := by
  induction n with
  | zero => intro h0 h L s; exact s
  | succ n ih =>
    intro h0 h L s
    have s' := ih s
    simp only [List.replicate_succ, rows, List.cons_append]
    exact ⟨s'.1, fun _ => False, ⟨by simp, .inl ⟨rfl, rfl⟩⟩, fun _ h => h.elim, Sep.mono (fun b hb => ⟨hb, fun h => h⟩) s'.2⟩
theorem oMkSliceRR {t e : TypeId} {b : Nat} [Und P t (.slice e)] [Inf P e 1 b (.slice none 0 0)] {enc : α → Value} {h0 h : Heap} {n : Nat} {L : List HP} {K : Value → Heap → Prop}
    (s : St h0 h L) (hc : n * b ≤ 140737488355328) (hc2 : n ≤ 9223372036854775807)
    (g : ∀ v h', St h0 h' (RR enc v (List.replicate n []) :: L) → K v h') : oMkSlice P t (.int .i64 n) (.int .i64 n) h K := by
  refine oMkSliceR1 s rfl (Nat.le_refl _) hc hc2 fun v h' s' => g v h' ?_
  refine St.rrShutAll (vs := List.replicate n (.slice none 0 0)) (by simp) ?_
  rw [List.length_replicate]
  have := rows_nil enc n s'
  exact this.perm (List.perm_middle)

/-- 'v[j] = append(v[j], x)'. -/
theorem rrAppend {tt t e ty : TypeId} {b : Nat} {z : Value} [Und P tt (.slice t)] [Siz P t 1] [IsA P t false] [Und P t (.slice e)] [Inf P e 1 b z] {enc : α → Value} {h0 h : Heap} {v : Value} {ll : List (List α)} {L : List HP} {j : Nat} {l : List α} {x : α} {ik : IntKind} {K : Heap → Prop}
    (s : St h0 h (RR enc v ll :: L)) (hj : ll[j]? = some l) (hx : one (enc x) = true) (hz : one z = true) (hb : (l.length + 1) * b ≤ 140737488355328) (hb2 : l.length + 1 ≤ 4611686018427387904)
    (g : ∀ h', St h0 h' (RR enc v (ll.set j (l ++ [x])) :: L) → K h') :
    oIdx P tt v (.int ik j) fun p => oLoad P t p (Eq h) fun r => oBuildSlice P t 1 #[(0, enc x)] h fun u h1 => oAppend P #[t, t] ty #[r, u] h1 fun r2 h2 => oIdx P tt v (.int ik j) fun q => oStore P t q r2 h2 fun _ h3 => K h3 := by
  have hlt : j < ll.length := (List.getElem?_eq_some_iff.1 hj).1
  obtain ⟨vs, y, M, hl, hy, s1, close⟩ := s.rrOpen hj
  obtain ⟨hv, _, hrd⟩ := s1.swap.row
  have hnz : sbase v ≠ .pointer none := hrd.nz (by omega)
  rw [oIdx_sl hv hnz (by omega) (by omega)]
  refine oLoad1 (cs := vs) (x := y) (fun _ e => e ▸ hrd) (by simpa using hy) ?_
  refine oBuild1o s1 hx hz fun u h1 s2 => ?_
  obtain ⟨hu, _, hur⟩ := s2.row
  have hcz : z.cells.size = 1 := by cases z <;> first | (simp [one] at hz; done) | rfl
  refine oAppendR (cs := l.map enc) (xs := [enc x]) (m := 1) s2.swap hcz (by omega) hu rfl hur (by simpa using hx) (by simpa using hb) (by omega) fun r2 h2 s3 => ?_
  rw [oIdx_sl hv hnz (by omega) (by omega)]
  have s4 := (s3.swap.drop).swap
  have hr2 : one r2 = true := by
    obtain ⟨⟨a, c, rfl⟩, _⟩ := s3.row
    rfl
  refine oStoreR1 s4 hr2 (by omega) fun h3 s5 => g h3 (close h3 r2 (l ++ [x]) ?_)
  have e : ((j : Int).toNat * 1) = j := by omega
  rw [e] at s5
  simpa using s5.swap

/-- 'v[:m]'. -/
theorem oSliceR {t e : TypeId} {k : Nat} [u : Und P t (.slice e)] [Siz P e k] {h0 h : Heap} {v : Value} {n m : Nat} {cs : List Value} {L : List HP} {ik : IntKind} {K : Value → Prop}
    (s : St h0 h (Row k v n cs :: L)) (hm : m ≤ n) (g : ∀ v', St h0 h (Row k v' m (cs.take (m * k)) :: L) → K v') : oSlice P t v none (some (.int ik m)) none K := by
  obtain ⟨he, S, ⟨hl, hown⟩, r⟩ := id s
  have hel : P.underlying t = some (.slice (P.elem t)) := by
    have := u.eq
    rw [this]
    congr 1
    simp [Program.elem, this]
  have hel2 : P.elem t = e := by
    rw [u.eq] at hel
    simpa using hel.symm
  rcases hown with ⟨rfl, rfl⟩ | ⟨a, cap, post, rfl, h2, h3, h4⟩
  · have hm0 : m = 0 := by omega
    subst hm0
    refine ⟨.slice none 0 0, fun w => nv_run ?_, g _ ?_⟩
    · rw [run_sliceAt_slice w t _ _ _ _ hel, show ((0 : Nat) : Int) = 0 from rfl, run_slice_h w t none 0 0 hel ik 0 (by omega) (by omega), hel2, Siz.run]
      rfl
    · have : cs = [] := by simpa using hl
      subst this
      simpa using s
  · refine ⟨.slice (some a) m cap, fun w => nv_run ?_, g _ ?_⟩
    · rw [run_sliceAt_slice w t _ _ _ _ hel, run_slice_h w t (some a) n cap hel ik m (by omega) (by omega), hel2, Siz.run]
      simp only [Result.andThen_ok, sliced, Int.toNat_natCast, Nat.sub_zero, Nat.zero_mul, Option.map_some, Addr.add, if_true]
      split <;> rfl
    · refine ⟨he, S, ⟨?_, .inr ⟨a, cap, cs.drop (m * k) ++ post, rfl, by omega, ?_, ?_⟩⟩, r⟩
      · rw [List.length_take, hl]
        exact Nat.min_eq_left (Nat.mul_le_mul_right _ hm)
      · rw [List.length_append, List.length_drop, hl, h3, ← Nat.sub_mul, ← Nat.add_mul]
        congr 1
        omega
      · rw [← List.append_assoc, List.take_append_drop]
        exact h4
end col
end Go.Sh
