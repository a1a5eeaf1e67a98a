/- Maps whose values can be read; maps of rows of one's own: over any program. -/
import Derived.Test.YtfhbpghgcgmegaaCol
set_option linter.unusedVariables false
namespace Go.Sh
section cm
variable {P : Program} {α : Type}

def get {β : Type} (e : List (Str × β)) (k : Str) : Option β :=
  match e with
  | [] => none
  | (k', x) :: e => if k' = k then some x else get e k
def put {β : Type} (e : List (Str × β)) (k : Str) (x : β) : List (Str × β) :=
  match e with
  | [] => [(k, x)]
  | (k', y) :: e => if k' = k then (k, x) :: e else (k', y) :: put e k x
theorem look_get : ∀ (m : List (Str × Value)) (k : Str), look m k = get m k
  | [], _ => rfl
  | (k', x) :: m, k => by
    unfold look get
    split
    · rfl
    · exact look_get m k
theorem ups_put : ∀ (m : List (Str × Value)) (k : Str) (x : Value), ups m k x = put m k x
  | [], _, _ => rfl
  | (k', y) :: m, k, x => by
    unfold ups put
    split
    · rfl
    · rw [ups_put m k x]
theorem get_isSome {β : Type} (k : Str) : ∀ (m : List (Str × β)), (get m k).isSome ↔ k ∈ m.map (·.1)
  | [] => by simp [get]
  | (k', x) :: m => by
    unfold get
    split
    · rename_i h; subst h; simp
    · rename_i h
      rw [get_isSome k m]
      simp only [List.map_cons, List.mem_cons]
      exact ⟨.inr, fun h' => h'.resolve_left fun e => h e.symm⟩
theorem get_put {β : Type} (k : Str) (x : β) (j : Str) : ∀ (m : List (Str × β)), get (put m k x) j = if k = j then some x else get m j
  | [] => by simp [put, get]
  | (k', y) :: m => by
    unfold put
    split
    · rename_i h; subst h
      simp only [get]
      split <;> rfl
    · rename_i h
      simp only [get, get_put k x j m]
      split
      · rename_i h2; subst h2
        rw [if_neg (fun e => h e.symm)]
      · rfl
theorem put_keys {β : Type} (k : Str) (x : β) : ∀ (m : List (Str × β)), (put m k x).map (·.1) = if k ∈ m.map (·.1) then m.map (·.1) else m.map (·.1) ++ [k]
  | [] => by simp [put]
  | (k', y) :: m => by
    unfold put
    split
    · rename_i h; subst h; simp
    · rename_i h
      simp only [List.map_cons, put_keys k x m, List.mem_cons]
      by_cases hm : k ∈ m.map (·.1)
      · rw [if_pos hm, if_pos (.inr hm)]
      · rw [if_neg hm, if_neg (fun h' => h'.elim (fun e => h e.symm) hm)]
        rfl

/-- A map that can be read, each value by E. -/
def RdMp (E : Heap → Value → α → Prop) (h : Heap) (v : Value) (e : List (Str × α)) : Prop :=
  ∃ m st c, RdM h v m st c ∧ m.map (·.1) = e.map (·.1) ∧ ∀ k x, look m k = some x → ∃ a, get e k = some a ∧ E h x a
theorem RdMp.ext {E : Heap → Value → α → Prop} {h h' : Heap} {v : Value} {e : List (Str × α)} (r : RdMp E h v e) (hE : ∀ x a, E h x a → E h' x a) (he : Ext h h') : RdMp E h' v e := by
  obtain ⟨m, st, c, h1, h2, h3⟩ := r
  exact ⟨m, st, c, h1.ext he, h2, fun k x hx => by obtain ⟨a, ha, hE'⟩ := h3 k x hx; exact ⟨a, ha, hE x a hE'⟩⟩
theorem RdMp.nodup {E : Heap → Value → α → Prop} {h : Heap} {v : Value} {e : List (Str × α)} (r : RdMp E h v e) : (e.map (·.1)).Nodup := by
  obtain ⟨m, st, c, ⟨hok, _⟩, h2, _⟩ := r
  rw [← h2]; exact hok.keys
theorem look_none_iff {m : List (Str × Value)} {e : List (Str × α)} (hk : m.map (·.1) = e.map (·.1)) (k : Str) : look m k = none ↔ get e k = none := by
  have h1 := get_isSome k m
  have h2 := get_isSome k e
  rw [hk, ← h2] at h1
  rw [look_get]
  cases h : get m k <;> cases h' : get e k <;> simp_all
/-- 'e[k]'. -/
theorem oLookMp {t kt et : TypeId} {kk bb : Nat} {z : Value} [Und P t (.map kt et)] [Und P kt .string] [Inf P et kk bb z] {E : Heap → Value → α → Prop} {h h' : Heap} {v : Value} {e : List (Str × α)} {k : Str} {K : Value → Prop} {d : α}
    (r : RdMp E h v e) (he : Ext h h') (hz : E h z d) (hk : ∀ x, E h x ((get e k).getD d) → K x) : oLook P t v (str k) false (Eq h') K := by
  obtain ⟨m, st, c, h1, h2, h3⟩ := r
  refine oLook_val (m := m) (by rintro _ rfl; exact ⟨st, c, h1.ext he⟩) (hk _ ?_)
  cases hl : look m k with
  | none => rw [(look_none_iff h2 k).1 hl]; exact hz
  | some x =>
    obtain ⟨a, ha, hE⟩ := h3 k x hl
    rw [ha]; exact hE
/-- 'x, is := e[k]'. -/
theorem oLookMp2 {t kt et : TypeId} {kk bb : Nat} {z : Value} [Und P t (.map kt et)] [Und P kt .string] [Inf P et kk bb z] {E : Heap → Value → α → Prop} {h h' : Heap} {v : Value} {e : List (Str × α)} {k : Str} {K : Value → Prop} {d : α}
    (r : RdMp E h v e) (he : Ext h h') (hz : E h z d) (hk : ∀ x, E h x ((get e k).getD d) → K (.tuple #[x, .bool (get e k).isSome])) : oLook P t v (str k) true (Eq h') K := by
  obtain ⟨m, st, c, h1, h2, h3⟩ := r
  refine oLook_val (m := m) (by rintro _ rfl; exact ⟨st, c, h1.ext he⟩) ?_
  cases hl : look m k with
  | none =>
    have := (look_none_iff h2 k).1 hl
    have h4 := hk z (by rw [this]; exact hz)
    rw [this] at h4; exact h4
  | some x =>
    obtain ⟨a, ha, hE⟩ := h3 k x hl
    have h4 := hk x (by rw [ha]; exact hE)
    rw [ha] at h4; exact h4
/-- 'len(e)'. -/
theorem oLenMp {t ty kt et : TypeId} [Und P t (.map kt et)] {E : Heap → Value → α → Prop} {h : Heap} {v : Value} {e : List (Str × α)} {K : Value → Prop}
    (r : RdMp E h v e) (hk : K (.int .i64 e.length)) : oLenM P #[t] ty v (Eq h) K := by
  obtain ⟨m, st, c, h1, h2, h3⟩ := r
  have hl : m.length = e.length := by simpa using congrArg List.length h2
  exact oLenM_rd (m := m) (by rintro _ rfl; exact ⟨st, c, h1⟩) (by rw [hl]; exact hk)

end cm
end Go.Sh
