/- The rules of the operations on memory, over any program. -/
import Derived.Test.YtaaedipojhnjjaaGreatHp
set_option linter.unusedVariables false
namespace Go.Sh
section mem
variable {P : Program}

def one : Value → Bool
  | .agg _ | .tuple _ => false
  | _ => true

theorem run_load {w : World} {a : Addr} {v : Value} (hv : cellAt w.heap a = some v) : (load a).run P w = .ok v w := by
  simp only [load, Sem.run, cell?_eq, hv]
theorem run_loadVar1 {t : TypeId} [IsA P t false] {w : World} {a : Addr} {v : Value} (hv : cellAt w.heap a = some v) : (loadVar t a).run P w = .ok v w := by
  unfold loadVar
  rw [Sem.run_bind, IsA.run (P := P) (t := t), Result.andThen_ok, if_neg (by simp)]
  exact run_load hv
theorem run_loadFrom {w : World} {a : Addr} : ∀ (cs : List Value) (i : Nat) (acc : Array Value), (∀ (j : Nat) (x : Value), cs[j]? = some x → cellAt w.heap (a.add (i + j)) = some x) →
    (loadCellsFrom a i cs.length acc).run P w = .ok (acc ++ cs.toArray) w
  | [], _, acc, _ => by simp [loadCellsFrom]
  | x :: cs, i, acc, h => by
    have h0 : (load (a.add i)).run P w = .ok x w := run_load (by simpa using h 0 x rfl)
    have ih := run_loadFrom (w := w) (a := a) cs (i + 1) (acc.push x) (fun j y hy => by
      have := h (j + 1) y (by simpa using hy)
      rwa [show i + (j + 1) = i + 1 + j from by omega] at this)
    simp only [List.length_cons, loadCellsFrom]
    rw [Sem.run_bind, h0, Result.andThen_ok, ih]
    congr 1
    apply Array.ext'
    simp
theorem run_loadCells {w : World} {a : Addr} (cs : List Value) (h : ∀ (j : Nat) (x : Value), cs[j]? = some x → cellAt w.heap (a.add j) = some x) :
    (loadCells a cs.length).run P w = .ok cs.toArray w := by
  have := run_loadFrom (P := P) cs 0 #[] (fun j x hx => by rw [Nat.zero_add]; exact h j x hx)
  simpa [loadCells] using this

/-- One cell is read. -/
theorem oLoad1 {t : TypeId} [IsA P t false] {p : Value} {cs : List Value} {j : Nat} {x : Value} {D : Heap → Prop} {K : Value → Prop}
    (hr : ∀ h', D h' → Rd h' p cs) (hx : cs[j]? = some x) (hk : K x) : oLoad P t (padd p j) D K := by
  refine ⟨x, fun w hw => ?_, hk⟩
  obtain ⟨a, ha, hc⟩ := (hr _ hw).at hx
  rw [ha]
  exact nv_run (by simp [Instr.loadAt, Instr.sureAddr, run_loadVar1 hc])
/-- Several cells are read. -/
theorem oLoadA {t : TypeId} {k : Nat} [IsA P t true] [Siz P t k] {p : Value} {cs : List Value} {j : Nat} {D : Heap → Prop} {K : Value → Prop}
    (hr : ∀ h', D h' → Rd h' p cs) (hp : ∃ a, p = .pointer (some a)) (hj : j + k ≤ cs.length) (hk : K (.agg ((cs.drop j).take k).toArray)) : oLoad P t (padd p j) D K := by
  refine ⟨_, fun w hw => ?_, hk⟩
  have h1 := ((hr _ hw).drop j).take k
  have hl : ((cs.drop j).take k).length = k := by simp; omega
  obtain ⟨a, ha⟩ : ∃ a, padd p j = .pointer (some a) := by obtain ⟨a, rfl⟩ := hp; exact ⟨_, rfl⟩
  rw [ha] at h1 ⊢
  refine nv_run ?_
  have h2 : (loadCells a k).run P w = .ok ((cs.drop j).take k).toArray w := by
    have := run_loadCells (P := P) (w := w) (a := a) ((cs.drop j).take k) (fun i x hx => by
      obtain ⟨a', ha', hc⟩ := h1.at hx
      simp only [padd, Value.pointer.injEq, Option.some.injEq] at ha'
      rw [ha']; exact hc)
    rwa [hl] at this
  simp [Instr.loadAt, Instr.sureAddr, loadVar, IsA.run, Siz.run, h2]

/-! Storing. -/
def setAt (cs : List Value) (j : Nat) : List Value → List Value
  | [] => cs
  | x :: xs => setAt (cs.set j x) (j + 1) xs
theorem setAt_length : ∀ (xs cs : List Value) (j : Nat), (setAt cs j xs).length = cs.length
  | [], _, _ => rfl
  | x :: xs, cs, j => by simp [setAt, setAt_length xs]
def setB (h : Heap) (b : Nat) (o : Obj) : Heap := h.setIfInBounds b o
theorem setB_size (h : Heap) (b : Nat) (o : Obj) : (setB h b o).size = h.size := by simp [setB]
theorem setB_ne {h : Heap} {b b' : Nat} {o : Obj} (hne : b' ≠ b) : (setB h b o)[b']? = h[b']? := by
  simp [setB, Array.getElem?_setIfInBounds_ne (Ne.symm hne)]
theorem setB_eq {h : Heap} {b : Nat} {o : Obj} (hb : b < h.size) : (setB h b o)[b]? = some o := by simp [setB, hb]
theorem setB_setB (h : Heap) (b : Nat) (o o' : Obj) : setB (setB h b o) b o' = setB h b o' := by
  apply Array.ext_getElem?
  intro i
  by_cases hi : i = b
  · subst hi
    rcases Nat.lt_or_ge i h.size with hl | hl
    · rw [setB_eq (by rw [setB_size]; exact hl), setB_eq hl]
    · simp [setB, hl]
  · rw [setB_ne hi, setB_ne hi, setB_ne hi]
theorem lt_of_some {h : Heap} {b : Nat} {o : Obj} (hb : h[b]? = some o) : b < h.size := (Array.getElem?_eq_some_iff.1 hb).1

theorem run_store1 {w : World} {b o T : Nat} {c : List Value} {x : Value} (hb : w.heap[b]? = some (.cells c.toArray T (0, 0))) (ho : o < c.length) (hx : one x = true) :
    (store ⟨b, o, none⟩ x).run P w = .ok () { w with heap := setB w.heap b (.cells (c.set o x).toArray T (0, 0)) } := by
  have h1 : w.cell? ⟨b, o, none⟩ = some c[o] := by simp [World.cell?, hb, ho]
  have h2 : w.frozen? ⟨b, o, none⟩ = false := by simp [World.frozen?, hb]
  have hlt := lt_of_some hb
  have h3 : w.setCell ⟨b, o, none⟩ x = { w with heap := setB w.heap b (.cells (c.set o x).toArray T (0, 0)) } := by
    unfold World.setCell
    congr 1
    apply Array.ext_getElem?
    intro i
    rw [Array.getElem?_modify]
    by_cases hi : i = b
    · subst hi
      rw [setB_eq hlt]
      simp [hb]
    · rw [setB_ne hi, if_neg (fun e => hi e.symm)]
  cases x <;> first | (simp [one] at hx; done) | simp only [store, Sem.run, h1, h2, h3, Bool.false_eq_true, if_false]
theorem run_storeCells {b o T : Nat} : ∀ (xs : List Value) (i : Nat) (w : World) (c : List Value), w.heap[b]? = some (.cells c.toArray T (0, 0)) → o + i + xs.length ≤ c.length → (∀ x ∈ xs, one x = true) →
    (storeCells ⟨b, o, none⟩ xs i).run P w = .ok () { w with heap := setB w.heap b (.cells (setAt c (o + i) xs).toArray T (0, 0)) }
  | [], i, w, c, hb, _, _ => by
    have hlt := lt_of_some hb
    have : setB w.heap b (.cells c.toArray T (0, 0)) = w.heap := by
      apply Array.ext_getElem?
      intro j
      by_cases hj : j = b
      · subst hj; rw [setB_eq hlt, hb]
      · rw [setB_ne hj]
    simp only [storeCells, setAt, this]
    rfl
  | x :: xs, i, w, c, hb, hl, hx => by
    simp only [List.length_cons] at hl
    simp only [storeCells]
    rw [Sem.run_bind, Addr.add_none, run_store1 hb (by omega) (hx x (by simp)), Result.andThen_ok,
      run_storeCells xs (i + 1) { w with heap := setB w.heap b (.cells (c.set (o + i) x).toArray T (0, 0)) } (c.set (o + i) x) (setB_eq (lt_of_some hb)) (by simp; omega) (fun y hy => hx y (by simp [hy]))]
    simp only [setB_setB, setAt, Nat.add_assoc]
theorem set_mid (pre cs post : List Value) (j : Nat) (x : Value) (hj : j < cs.length) : (pre ++ cs ++ post).set (pre.length + j) x = pre ++ cs.set j x ++ post := by
  rw [List.append_assoc, List.set_append_right _ _ (by omega), Nat.add_sub_cancel_left, List.set_append_left _ _ hj, List.append_assoc]
theorem setAt_mid (pre post : List Value) : ∀ (xs cs : List Value) (j : Nat), j + xs.length ≤ cs.length → setAt (pre ++ cs ++ post) (pre.length + j) xs = pre ++ setAt cs j xs ++ post
  | [], cs, j, _ => rfl
  | x :: xs, cs, j, h => by
    simp only [List.length_cons] at h
    simp only [setAt]
    rw [set_mid _ _ _ _ _ (by omega), show pre.length + j + 1 = pre.length + (j + 1) from by omega, setAt_mid pre post xs (cs.set j x) (j + 1) (by simp; omega)]

theorem Cells.set {h : Heap} {p : Value} {cs : List Value} {S : Nat → Prop} (hc : (Cells p cs).own h S) (hlt : ∀ b, S b → b < h.size) (j : Nat) (xs : List Value) (hj : j + xs.length ≤ cs.length) (h1 : ∀ x ∈ xs, one x = true) :
    ∃ b o T l, padd p j = .pointer (some ⟨b, o, none⟩) ∧ h[b]? = some (.cells l T (0, 0)) ∧ S b ∧
      (∀ w : World, w.heap = h → (storeCells ⟨b, o, none⟩ xs).run P w = .ok () { w with heap := setB h b (.cells (setAt l.toList o xs).toArray T (0, 0)) }) ∧
      (Cells p (setAt cs j xs)).own (setB h b (.cells (setAt l.toList o xs).toArray T (0, 0))) S := by
  obtain ⟨b, o, T, pre, post, rfl, hS, hb, rfl⟩ := hc
  refine ⟨b, pre.length + j, T, (pre ++ cs ++ post).toArray, by simp [padd, Addr.add_none], hb, hS, fun w hw => ?_, b, pre.length, T, pre, post, rfl, hS, ?_, rfl⟩
  · have := run_storeCells (P := P) (b := b) (o := pre.length + j) (T := T) xs 0 w (pre ++ cs ++ post) (by rw [hw]; exact hb) (by simp; omega) h1
    rw [this, hw]
    rfl
  · rw [setB_eq (lt_of_some hb)]
    simp only
    rw [setAt_mid pre post xs cs j hj]

/-- A store of a value into owned cells. -/
theorem oStoreC [Gd] {t : TypeId} {k : Nat} [Siz P t k] {h0 h : Heap} {p v : Value} {cs : List Value} {L : List HP} {j : Nat} {K : Value → Heap → Prop}
    (s : St h0 h (Cells p cs :: L)) (hk : v.cells.toList.length = k) (hj : j + k ≤ cs.length) (h1 : ∀ x ∈ v.cells.toList, one x = true)
    (g : ∀ h', St h0 h' (Cells p (setAt cs j v.cells.toList) :: L) → K undef h') : oStore P t (padd p j) v h K := by
  intro w hw
  obtain ⟨_, S, hA, hS, _⟩ := id s
  obtain ⟨b, o, T, l, hp, hb, hSb, hrun, hown⟩ := Cells.set (P := P) hA (fun b hb => (hS b hb).2) j v.cells.toList (by omega) h1
  have hst : St h0 (setB h b (.cells (setAt l.toList o v.cells.toList).toArray T (0, 0))) (Cells p (setAt cs j v.cells.toList) :: L) := by
    refine St.step s fun S' hA' hS' => ?_
    obtain ⟨b', o', T', l', hp', hb', hSb', hrun', hown'⟩ := Cells.set (P := P) hA' (fun b hb => (hS' b hb).2) j v.cells.toList (by omega) h1
    rw [hp] at hp'
    simp only [Value.pointer.injEq, Option.some.injEq, Addr.mk.injEq, and_true] at hp'
    obtain ⟨rfl, rfl⟩ := hp'
    rw [hb] at hb'
    simp only [Option.some.injEq, Obj.cells.injEq, and_true] at hb'
    obtain ⟨rfl, rfl⟩ := hb'
    exact ⟨by rw [setB_size]; exact Nat.le_refl _, fun i _ hi => setB_ne (fun e => hi (e ▸ hSb')), S', hown', fun i hi => .inl hi⟩
  have hv : (storeVar t ⟨b, o, none⟩ v).run P w = .ok () { w with heap := setB h b (.cells (setAt l.toList o v.cells.toList).toArray T (0, 0)) } := by
    unfold storeVar
    rw [Sem.run_bind, Siz.run (P := P) (t := t), Result.andThen_ok, if_neg (by simpa using hk)]
    exact hrun w hw
  have : (nu (Instr.storeAt t (padd p j) v)).run P w = .ok .skip { w with heap := setB h b (.cells (setAt l.toList o v.cells.toList).toArray T (0, 0)) } := by
    rw [hp]
    simp only [nu, Instr.storeAt, Instr.sureAddr, pure_bind]
    rw [Sem.run_bind, hv]
    rfl
  rw [this]
  exact ⟨⟨rfl, rfl, rfl, fun _ => by first | exact Nat.le_refl _ | exact Nat.le_succ _ | exact Nat.le_add_right _ _⟩, g _ hst⟩

/-- A value is put into a new block. -/
theorem own_new {h : Heap} (cs : List Value) (T : TypeId) : (Cells (.pointer (some ⟨h.size, 0, none⟩)) cs).own (h.push (.cells cs.toArray T)) (fun b => h.size ≤ b ∧ b < (h.push (.cells cs.toArray T)).size) :=
  ⟨h.size, 0, T, [], [], rfl, ⟨Nat.le_refl _, by simp⟩, by simp, rfl⟩
theorem push_old {h : Heap} {o : Obj} (b : Nat) (hb : b < h.size) : (h.push o)[b]? = h[b]? := by
  rw [Array.getElem?_push_lt hb, Array.getElem?_eq_getElem hb]
theorem St.push {h0 h : Heap} {L : List HP} (s : St h0 h L) (cs : List Value) (T : TypeId) : St h0 (h.push (.cells cs.toArray T)) (Cells (.pointer (some ⟨h.size, 0, none⟩)) cs :: L) :=
  s.new (by simp) (fun b hb => push_old b hb) (own_new cs T)
/-! ### Slices of one's own -/
def Row (k : Nat) (v : Value) (n : Nat) (cs : List Value) : HP :=
  ⟨fun h S => cs.length = n * k ∧ ((v = .slice none 0 0 ∧ n = 0) ∨ ∃ a cap post, v = .slice (some a) n cap ∧ n ≤ cap ∧ post.length = (cap - n) * k ∧ (Cells (.pointer (some a)) (cs ++ post)).own h S),
   fun h h' S hx he => ⟨hx.1, hx.2.imp id fun ⟨a, cap, post, h1, h2, h3, h4⟩ => ⟨a, cap, post, h1, h2, h3, (Cells _ _).loc h h' S h4 he⟩⟩⟩

theorem madeCells_list (z : Array Value) (n : Nat) : madeCells z n = ((List.range n).map fun i => z[i % z.size]!).toArray := by
  apply Array.ext'
  simp [madeCells]
/-! ### append -/
theorem run_first {w : World} {k m : Nat} {x : Value} {xs : List Value} (hx : IsSl x m) (hl : xs.length = m * k) (hr : Rd w.heap (sbase x) xs) : (Builtin.firstCells k m x).run P w = .ok xs.toArray w := by
  obtain ⟨a, c, rfl⟩ := hx
  cases a with
  | none =>
    have : xs = [] := by
      rcases hr with h | ⟨b, o, hp, _⟩
      · exact h
      · simp [sbase] at hp
    subst this
    simp [Builtin.firstCells]
  | some a =>
    simp only [Builtin.firstCells, ← hl]
    refine run_loadCells xs fun j y hy => ?_
    obtain ⟨a', ha', hc⟩ := hr.at hy
    simp only [sbase, padd, Value.pointer.injEq, Option.some.injEq] at ha'
    rw [ha']; exact hc
theorem setAt_append : ∀ (xs cs post : List Value), xs.length ≤ post.length → setAt (cs ++ post) cs.length xs = cs ++ xs ++ post.drop xs.length
  | [], cs, post, _ => by simp [setAt]
  | x :: xs, cs, post, h => by
    cases post with
    | nil => simp at h
    | cons p post =>
      simp only [setAt]
      rw [List.set_append_right _ _ (Nat.le_refl _)]
      simp only [Nat.sub_self, List.set_cons_zero]
      have := setAt_append xs (cs ++ [x]) post (by simpa using h)
      simpa using this
theorem zeroCells_size (z : Array Value) (n : Nat) : (Builtin.zeroCells z n).size = n * z.size := by simp [Builtin.zeroCells]

end mem
end Go.Sh
