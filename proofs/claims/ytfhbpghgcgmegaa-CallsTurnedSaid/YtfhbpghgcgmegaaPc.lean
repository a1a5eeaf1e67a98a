/- Components, in plain Lean: who reaches one another has one number, in the order of the least. -/
import Derived.Test.YtfhbpghgcgmegaaPf
set_option linter.unusedVariables false
namespace Go.Sh

/-- Whoever has a root, and those behind s alone. -/
structure Cmp (next : List (List Nat)) (root : List (Option Nat)) (pr : List Nat) : Prop where
  len : root.length = next.length
  tog : ∀ x s : Nat, root[x]? = some (some s) → Tog (Edg next) x s
  same : ∀ x y s : Nat, root[x]? = some (some s) → Tog (Edg next) x y → y < next.length → root[y]? = some (some s)
  all : ∀ x ∈ pr, ∃ t : Nat, root[x]? = some (some t)
theorem Cmp.start (next : List (List Nat)) : Cmp next (List.replicate next.length none) [] where
  len := by simp
  tog x s h := by simp [List.getElem?_replicate] at h
  same x y s h := by simp [List.getElem?_replicate] at h
  all x h := by simp at h
theorem Cmp.skip {next : List (List Nat)} {root : List (Option Nat)} {pr : List Nat} {s t : Nat} (c : Cmp next root pr) (h : root[s]? = some (some t)) : Cmp next root (s :: pr) :=
  ⟨c.len, c.tog, c.same, fun x hx => by
    rcases List.mem_cons.1 hx with rfl | hx
    · exact ⟨t, h⟩
    · exact c.all x hx⟩

/-- While those that reach s are sought. -/
structure Ph (E : Nat → Nat → Prop) (ro root : List (Option Nat)) (s : Nat) (todo ex : List Nat) : Prop where
  len : root.length = ro.length
  st : root[s]? = some (some s)
  fresh : ∀ x : Nat, ro[x]? ≠ some (some s)
  new : ∀ x t : Nat, root[x]? = some (some t) → (t = s ∧ ro[x]? = some none ∧ Rch E x s) ∨ ro[x]? = some (some t)
  keep : ∀ x t : Nat, ro[x]? = some (some t) → root[x]? = some (some t)
  tod : ∀ x ∈ todo, root[x]? = some (some s)
  exs : ∀ x ∈ ex, root[x]? = some (some s)
  clo : ∀ x : Nat, root[x]? = some (some s) → x ∈ todo ∨ x ∈ ex ∨ ∀ y, E y x → ∃ t : Nat, root[y]? = some (some t)
theorem set_root {root : List (Option Nat)} {y s : Nat} (hy : root[y]? = some none) (x t : Nat) : (root.set y (some s))[x]? = some (some t) ↔ (x = y ∧ t = s) ∨ root[x]? = some (some t) := by
  have hlt := (List.getElem?_eq_some_iff.1 hy).1
  rw [List.getElem?_set]
  by_cases e : y = x
  · subst e
    rw [if_pos rfl, if_pos hlt, hy]
    simp [eq_comm]
  · rw [if_neg e]
    exact ⟨.inr, fun h => h.resolve_left fun h => e h.1.symm⟩
theorem Ph.start {E : Nat → Nat → Prop} {ro : List (Option Nat)} {s : Nat} (h : ro[s]? = some none) (hf : ∀ x : Nat, ro[x]? ≠ some (some s)) : Ph E ro (ro.set s (some s)) s [s] [] where
  len := by simp
  st := (set_root h s s).2 (.inl ⟨rfl, rfl⟩)
  fresh := hf
  new x t hx := by
    rcases (set_root h x t).1 hx with ⟨rfl, rfl⟩ | h1
    · exact .inl ⟨rfl, h, .refl _⟩
    · exact .inr h1
  keep x t hx := (set_root h x t).2 (.inr hx)
  tod x hx := by
    simp only [List.mem_singleton] at hx
    subst hx
    exact (set_root h x x).2 (.inl ⟨rfl, rfl⟩)
  exs x hx := by simp at hx
  clo x hx := by
    rcases (set_root h x s).1 hx with ⟨rfl, _⟩ | h1
    · exact .inl (by simp)
    · exact absurd h1 (hf x)
theorem Ph.take {E : Nat → Nat → Prop} {ro root : List (Option Nat)} {s i : Nat} {td : List Nat} (p : Ph E ro root s (td ++ [i]) []) : Ph E ro root s td [i] :=
  ⟨p.len, p.st, p.fresh, p.new, p.keep, fun x hx => p.tod x (by simp [hx]), fun x hx => p.tod x (by simp at hx; simp [hx]), fun x hx => by
    rcases p.clo x hx with h | h | h
    · rcases List.mem_append.1 h with h | h
      · exact .inl h
      · exact .inr (.inl h)
    · simp at h
    · exact .inr (.inr h)⟩
theorem Ph.add {E : Nat → Nat → Prop} {ro root : List (Option Nat)} {s i y : Nat} {td ex : List Nat} (p : Ph E ro root s td ex) (hi : i ∈ ex) (he : E y i) (hy : root[y]? = some none) :
    Ph E ro (root.set y (some s)) s (td ++ [y]) ex where
  len := by simpa using p.len
  st := (set_root hy s s).2 (.inr p.st)
  fresh := p.fresh
  new x t hx := by
    rcases (set_root hy x t).1 hx with ⟨rfl, rfl⟩ | h1
    · refine .inl ⟨rfl, ?_, ?_⟩
      · have hlt : x < ro.length := by rw [← p.len]; exact (List.getElem?_eq_some_iff.1 hy).1
        obtain ⟨o, ho⟩ : ∃ o, ro[x]? = some o := ⟨_, List.getElem?_eq_getElem hlt⟩
        cases o with
        | none => exact ho
        | some t =>
          have := p.keep x t ho
          rw [hy] at this; simp at this
      · have := p.exs i hi
        rcases p.new i t this with h2 | h2
        · exact .head he h2.2.2
        · exact absurd h2 (p.fresh i)
    · exact p.new x t h1
  keep x t hx := (set_root hy x t).2 (.inr (p.keep x t hx))
  tod x hx := by
    rw [set_root hy]
    rcases List.mem_append.1 hx with h | h
    · exact .inr (p.tod x h)
    · simp only [List.mem_singleton] at h
      exact .inl ⟨h, rfl⟩
  exs x hx := (set_root hy x s).2 (.inr (p.exs x hx))
  clo x hx := by
    rcases (set_root hy x s).1 hx with ⟨rfl, _⟩ | h1
    · exact .inl (by simp)
    · rcases p.clo x h1 with h | h | h
      · exact .inl (by simp [h])
      · exact .inr (.inl h)
      · refine .inr (.inr fun z hz => ?_)
        obtain ⟨t, ht⟩ := h z hz
        exact ⟨t, (set_root hy z t).2 (.inr ht)⟩
theorem Ph.close {E : Nat → Nat → Prop} {ro root : List (Option Nat)} {s i : Nat} {td : List Nat} (p : Ph E ro root s td [i]) (h : ∀ y, E y i → ∃ t : Nat, root[y]? = some (some t)) : Ph E ro root s td [] :=
  ⟨p.len, p.st, p.fresh, p.new, p.keep, p.tod, fun x hx => by simp at hx, fun x hx => by
    rcases p.clo x hx with h1 | h1 | h1
    · exact .inl h1
    · simp only [List.mem_singleton] at h1
      subst h1
      exact .inr (.inr h)
    · exact .inr (.inr h1)⟩
theorem kos {next : List (List Nat)} {r : List Nat} (f : Fin' next r) {s : Nat} {post : List Nat} : ∀ (m : Nat) (p1 : List Nat) (x : Nat) (mid : List Nat), mid.length ≤ m → r = p1 ++ x :: (mid ++ s :: post) →
    Rch (Edg next) x s → (∀ y ∈ post, ¬ Tog (Edg next) x y) → Tog (Edg next) x s := by
  intro m
  induction m with
  | zero =>
    intro p1 x mid hm hr hxs hno
    have : mid = [] := by simpa using hm
    subst this
    have hnd := f.nodup
    rcases f.ord p1 x ([] ++ s :: post) hr s hxs with h | h | ⟨w, h, ht⟩
    · exfalso
      rw [hr, List.nodup_append] at hnd
      exact hnd.2.2 s h s (by simp) rfl
    · rw [h]; exact .refl _
    · simp only [List.nil_append, List.mem_cons] at h
      rcases h with rfl | h
      · exact ht
      · exact absurd ht (hno w h)
  | succ m ih =>
    intro p1 x mid hm hr hxs hno
    have hnd := f.nodup
    rcases f.ord p1 x (mid ++ s :: post) hr s hxs with h | h | ⟨w, h, ht⟩
    · exfalso
      rw [hr, List.nodup_append] at hnd
      exact hnd.2.2 s h s (by simp) rfl
    · rw [h]; exact .refl _
    · simp only [List.mem_append, List.mem_cons] at h
      rcases h with h | rfl | h
      · obtain ⟨a, b, rfl⟩ := List.append_of_mem h
        refine ht.trans (ih (p1 ++ x :: a) w b ?_ ?_ (ht.2.trans hxs) fun y hy hw => hno y hy (ht.trans hw))
        · simp at hm; omega
        · rw [hr]; simp
      · exact ht
      · exact absurd ht (hno w h)
theorem Ph.fin {next : List (List Nat)} {r : List Nat} (f : Fin' next r) {pre : List Nat} {s : Nat} {post : List Nat} (hr : r = pre ++ s :: post) {ro root : List (Option Nat)} (c : Cmp next ro post) (hs : ro[s]? = some none)
    (p : Ph (Edg next) ro root s [] []) : Cmp next root (s :: post) := by
  have hsn : s < next.length := (f.mem s).1 (by rw [hr]; simp)
  have hnon : ∀ x t : Nat, Tog (Edg next) x s → ro[x]? ≠ some (some t) := fun x t h h1 => by
    have := c.same x s t h1 h hsn
    rw [hs] at this; simp at this
  have fwd : ∀ x : Nat, root[x]? = some (some s) → Tog (Edg next) x s := fun x hx => by
    rcases p.new x s hx with ⟨_, h1, h2⟩ | h1
    · have hxn : x < next.length := by rw [← c.len]; exact (List.getElem?_eq_some_iff.1 h1).1
      have hxr : x ∈ r := (f.mem x).2 hxn
      have hno : ∀ y ∈ post, ¬ Tog (Edg next) x y := fun y hy ht => by
        obtain ⟨t, ht'⟩ := c.all y hy
        have := c.same y x t ht' ht.symm hxn
        rw [h1] at this; simp at this
      rw [hr] at hxr
      rcases List.mem_append.1 hxr with h | h
      · obtain ⟨a, b, rfl⟩ := List.append_of_mem h
        exact kos f b.length a x b (Nat.le_refl _) (by rw [hr]; simp) h2 hno
      · rcases List.mem_cons.1 h with rfl | h
        · exact .refl _
        · exact absurd (.refl x) (hno x h)
    · exact absurd h1 (p.fresh x)
  have bwd : ∀ x : Nat, x < next.length → Tog (Edg next) x s → root[x]? = some (some s) := fun x hxn hx => by
    have key : ∀ z : Nat, Rch (Edg next) x z → Rch (Edg next) z s → root[z]? = some (some s) → root[x]? = some (some s) := by
      intro z hz
      induction hz with
      | refl => exact fun _ h => h
      | tail h1 h2 ih =>
        rename_i b d
        intro hds hd
        have hbs : Rch (Edg next) b s := .head h2 hds
        have hTb : Tog (Edg next) b s := ⟨hbs, hx.2.trans h1⟩
        rcases p.clo d hd with h3 | h3 | h3
        · simp at h3
        · simp at h3
        · obtain ⟨t, ht⟩ := h3 b h2
          rcases p.new b t ht with ⟨rfl, _⟩ | h4
          · exact ih hbs ht
          · exact absurd h4 (hnon b t hTb)
    exact key s hx.1 (.refl _) p.st
  refine ⟨p.len.trans c.len, fun x t hx => ?_, fun x y t hx ht hy => ?_, fun x hx => ?_⟩
  · rcases p.new x t hx with ⟨rfl, _⟩ | h1
    · exact fwd x hx
    · exact c.tog x t h1
  · rcases p.new x t hx with ⟨rfl, _⟩ | h1
    · exact bwd y hy (ht.symm.trans (fwd x hx))
    · exact p.keep y t (c.same x y t h1 ht hy)
  · rcases List.mem_cons.1 hx with rfl | hx
    · exact ⟨x, p.st⟩
    · obtain ⟨t, ht⟩ := c.all x hx
      exact ⟨t, p.keep x t ht⟩

/-- Each node's component by number. -/
structure OfOk (E : Nat → Nat → Prop) (n m : Nat) (of : List Nat) : Prop where
  len : of.length = n
  tog : ∀ i j a b : Nat, of[i]? = some a → of[j]? = some b → (a = b ↔ Tog E i j)
  lt : ∀ a ∈ of, a < m
  rg : ∀ i a : Nat, of[i]? = some a → ∀ c, c < a → ∃ j, j < i ∧ of[j]? = some c
  all : ∀ c : Nat, c < m → c ∈ of
/-- While they are numbered. -/
structure Num (root : List (Option Nat)) (i m : Nat) (number ofs : List Nat) : Prop where
  len : ofs.length = i
  mi : m ≤ i
  same : ∀ a b x y s t : Nat, ofs[a]? = some x → ofs[b]? = some y → root[a]? = some (some s) → root[b]? = some (some t) → (x = y ↔ s = t)
  lt : ∀ x ∈ ofs, x < m
  rg : ∀ a x : Nat, ofs[a]? = some x → ∀ c, c < x → ∃ j, j < a ∧ ofs[j]? = some c
  all : ∀ c : Nat, c < m → c ∈ ofs
  num : ∀ s : Nat, s < number.length → (number[s]? = some 0 ∧ ∀ a : Nat, a < i → root[a]? ≠ some (some s)) ∨ ∃ a x : Nat, a < i ∧ root[a]? = some (some s) ∧ ofs[a]? = some x ∧ number[s]? = some (x + 1)
theorem Num.start (root : List (Option Nat)) (n : Nat) : Num root 0 0 (List.replicate n 0) [] where
  len := rfl
  mi := Nat.le_refl _
  same a b x y s t h := by simp at h
  lt x h := by simp at h
  rg a x h := by simp at h
  all c h := by omega
  num s hs := .inl ⟨by rw [List.getElem?_replicate, if_pos (by simpa using hs)], fun a h => by omega⟩
theorem get_snoc {ofs : List Nat} {x : Nat} {a y : Nat} : (ofs ++ [x])[a]? = some y ↔ ofs[a]? = some y ∨ (a = ofs.length ∧ y = x) := by
  rcases Nat.lt_trichotomy a ofs.length with h | h | h
  · rw [List.getElem?_append_left h]
    exact ⟨.inl, fun h1 => h1.resolve_right fun h2 => by omega⟩
  · subst h
    simp [eq_comm]
  · rw [List.getElem?_append_right (by omega), List.getElem?_eq_none (by simp; omega), List.getElem?_eq_none (by omega)]
    simp; omega
theorem Num.old {root : List (Option Nat)} {i m s x : Nat} {number ofs : List Nat} (q : Num root i m number ofs) (hr : root[i]? = some (some s)) (hs : s < number.length) (hx : number[s]? = some (x + 1)) :
    Num root (i + 1) m number (ofs ++ [x]) := by
  obtain ⟨a0, x0, h1, h2, h3, h4⟩ : ∃ a x : Nat, a < i ∧ root[a]? = some (some s) ∧ ofs[a]? = some x ∧ number[s]? = some (x + 1) := by
    rcases q.num s hs with ⟨h, _⟩ | h
    · rw [hx] at h; simp at h
    · exact h
  have : x0 = x := by rw [hx] at h4; simpa using h4.symm
  subst this
  refine ⟨by simp [q.len], Nat.le_succ_of_le q.mi, fun a b x y t u ha hb hta hub => ?_, fun y hy => ?_, fun a y ha c hc => ?_, fun c hc => by simp [q.all c hc], fun t ht => ?_⟩
  · rw [get_snoc] at ha hb
    rcases ha with ha | ⟨rfl, rfl⟩ <;> rcases hb with hb | ⟨rfl, rfl⟩
    · exact q.same a b x y t u ha hb hta hub
    · rw [q.len, hr] at hub
      simp only [Option.some.injEq] at hub
      subst hub
      exact q.same a a0 x _ t s ha h3 hta h2
    · rw [q.len, hr] at hta
      simp only [Option.some.injEq] at hta
      subst hta
      exact q.same a0 b _ y s u h3 hb h2 hub
    · rw [q.len, hr] at hta hub
      simp only [Option.some.injEq] at hta hub
      subst hta; subst hub
      simp
  · rcases List.mem_append.1 hy with h | h
    · exact q.lt y h
    · simp only [List.mem_singleton] at h
      rw [h]; exact q.lt _ (List.mem_of_getElem? h3)
  · rw [get_snoc] at ha
    rcases ha with ha | ⟨rfl, rfl⟩
    · obtain ⟨j, hj, h5⟩ := q.rg a y ha c hc
      exact ⟨j, hj, get_snoc.2 (.inl h5)⟩
    · obtain ⟨j, hj, h5⟩ := q.rg a0 _ h3 c hc
      exact ⟨j, by rw [q.len]; omega, get_snoc.2 (.inl h5)⟩
  · rcases q.num t ht with ⟨h5, h6⟩ | ⟨a, y, h5, h6, h7, h8⟩
    · by_cases e : t = s
      · subst e; exact absurd h2 (h6 a0 h1)
      · refine .inl ⟨h5, fun a ha => ?_⟩
        by_cases e2 : a = i
        · subst e2; rw [hr]; simpa using fun e3 => e e3.symm
        · exact h6 a (by omega)
    · exact .inr ⟨a, y, by omega, h6, get_snoc.2 (.inl h7), h8⟩
theorem Num.new {root : List (Option Nat)} {i m s : Nat} {number ofs : List Nat} (q : Num root i m number ofs) (hr : root[i]? = some (some s)) (hs : s < number.length) (hx : number[s]? = some 0) :
    Num root (i + 1) (m + 1) (number.set s (m + 1)) (ofs ++ [m]) := by
  have hno : ∀ a : Nat, a < i → root[a]? ≠ some (some s) := by
    rcases q.num s hs with ⟨_, h⟩ | ⟨a, x, _, _, _, h⟩
    · exact h
    · rw [hx] at h; simp at h
  have hlt : ∀ {a y : Nat}, ofs[a]? = some y → a < i ∧ y < m := fun {a y} h => ⟨by rw [← q.len]; exact (List.getElem?_eq_some_iff.1 h).1, q.lt y (List.mem_of_getElem? h)⟩
  refine ⟨by simp [q.len], Nat.succ_le_succ q.mi, fun a b x y t u ha hb hta hub => ?_, fun y hy => ?_, fun a y ha c hc => ?_, fun c hc => ?_, fun t ht => ?_⟩
  · rw [get_snoc] at ha hb
    rcases ha with ha | ⟨rfl, rfl⟩ <;> rcases hb with hb | ⟨rfl, rfl⟩
    · exact q.same a b x y t u ha hb hta hub
    · rw [q.len, hr] at hub
      simp only [Option.some.injEq] at hub
      subst hub
      have h1 := hlt ha
      exact ⟨fun e => by omega, fun e => absurd hta (e ▸ hno a h1.1)⟩
    · rw [q.len, hr] at hta
      simp only [Option.some.injEq] at hta
      subst hta
      have h1 := hlt hb
      exact ⟨fun e => by omega, fun e => absurd hub (e ▸ hno b h1.1)⟩
    · rw [q.len, hr] at hta hub
      simp only [Option.some.injEq] at hta hub
      subst hta; subst hub
      simp
  · rcases List.mem_append.1 hy with h | h
    · have := q.lt y h; omega
    · simp only [List.mem_singleton] at h; omega
  · rw [get_snoc] at ha
    rcases ha with ha | ⟨rfl, rfl⟩
    · obtain ⟨j, hj, h5⟩ := q.rg a y ha c hc
      exact ⟨j, hj, get_snoc.2 (.inl h5)⟩
    · obtain ⟨j, hj⟩ := List.getElem?_of_mem (q.all c hc)
      exact ⟨j, (List.getElem?_eq_some_iff.1 hj).1, get_snoc.2 (.inl hj)⟩
  · by_cases e : c = m
    · simp [e]
    · have := q.all c (by omega)
      simp [this]
  · rw [List.length_set] at ht
    by_cases e : t = s
    · subst e
      exact .inr ⟨i, m, Nat.lt_succ_self _, hr, get_snoc.2 (.inr ⟨q.len.symm, rfl⟩), by rw [List.getElem?_set, if_pos rfl, if_pos hs]⟩
    · rw [List.getElem?_set_ne (fun h => e h.symm)]
      rcases q.num t ht with ⟨h5, h6⟩ | ⟨a, y, h5, h6, h7, h8⟩
      · refine .inl ⟨h5, fun a ha => ?_⟩
        by_cases e2 : a = i
        · subst e2; rw [hr]; simpa using fun e3 => e e3.symm
        · exact h6 a (by omega)
      · exact .inr ⟨a, y, by omega, h6, get_snoc.2 (.inl h7), h8⟩
theorem Num.fin {next : List (List Nat)} {root : List (Option Nat)} {m : Nat} {number ofs pr : List Nat} (q : Num root next.length m number ofs) (c : Cmp next root pr) (ha : ∀ x, x < next.length → x ∈ pr) :
    OfOk (Edg next) next.length m ofs := by
  refine ⟨q.len, fun i j a b hi hj => ?_, q.lt, q.rg, q.all⟩
  have hil : i < next.length := by rw [← q.len]; exact (List.getElem?_eq_some_iff.1 hi).1
  have hjl : j < next.length := by rw [← q.len]; exact (List.getElem?_eq_some_iff.1 hj).1
  obtain ⟨s, hs⟩ := c.all i (ha i hil)
  obtain ⟨t, ht⟩ := c.all j (ha j hjl)
  rw [q.same i j a b s t hi hj hs ht]
  constructor
  · rintro rfl
    exact (c.tog i s hs).trans (c.tog j s ht).symm
  · intro h
    have := c.same i j s hs h hjl
    rw [ht] at this
    simpa using this.symm
/-- There is just one such numbering. -/
theorem OfOk.unique {E F : Nat → Nat → Prop} {n m m' : Nat} {of of' : List Nat} (h : OfOk E n m of) (h' : OfOk F n m' of') (hEF : ∀ i j, i < n → j < n → (Tog E i j ↔ Tog F i j)) : of = of' ∧ m = m' := by
  have key : ∀ i : Nat, i < n → of[i]? = of'[i]? := by
    intro i
    induction i using Nat.strongRecOn with
    | _ i ih =>
      intro hi
      obtain ⟨a, ha⟩ : ∃ a, of[i]? = some a := ⟨_, List.getElem?_eq_getElem (by rw [h.len]; exact hi)⟩
      obtain ⟨b, hb⟩ : ∃ b, of'[i]? = some b := ⟨_, List.getElem?_eq_getElem (by rw [h'.len]; exact hi)⟩
      rw [ha, hb]
      congr 1
      rcases Nat.lt_trichotomy a b with hlt | he | hlt
      · obtain ⟨j, hj, h1⟩ := h'.rg i b hb a hlt
        have h2 := ih j hj (by omega)
        rw [h1] at h2
        have := (h'.tog i j b a hb h1).2 ((hEF i j hi (by omega)).1 ((h.tog i j a a ha h2).1 rfl))
        omega
      · exact he
      · obtain ⟨j, hj, h1⟩ := h.rg i a ha b hlt
        have h2 := ih j hj (by omega)
        rw [h1] at h2
        have := (h.tog i j a b ha h1).2 ((hEF i j hi (by omega)).2 ((h'.tog i j b b hb h2.symm).1 rfl))
        omega
  have hof : of = of' := by
    apply List.ext_getElem?
    intro i
    by_cases hi : i < n
    · exact key i hi
    · rw [List.getElem?_eq_none (by rw [h.len]; omega), List.getElem?_eq_none (by rw [h'.len]; omega)]
  refine ⟨hof, ?_⟩
  subst hof
  rcases Nat.lt_trichotomy m m' with hlt | he | hlt
  · have := h.lt m (h'.all m hlt); omega
  · exact he
  · have := h'.lt m' (h.all m' hlt); omega
end Go.Sh
