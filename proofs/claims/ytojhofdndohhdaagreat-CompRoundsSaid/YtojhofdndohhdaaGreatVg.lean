/- What turns no memory comes to what the model's operations come to. No program. -/
import Derived.Test.YtojhofdndohhdaaGreatVf
set_option linter.unusedVariables false
set_option linter.unusedSectionVars false
set_option linter.unusedSimpArgs false
namespace Go.Va
open Go Go.Sh
variable [Vb]
variable {P : Program}

theorem bind_some {α β : Type} {x : Option α} {f : α → Option β} {r : β} (h : x.bind f = some r) : ∃ a, x = some a ∧ f a = some r := by
  cases x with
  | none => cases h
  | some a => exact ⟨a, rfl, h⟩
theorem add_add (a : Addr) (m n : Nat) : (a.add m).add n = a.add (m + n) := by
  have := padd_padd (.pointer (some a)) m n
  simpa [padd] using this
theorem Rep.read {E : Env} {th : TH} {h0 h : Heap} {L : List HP} (r : Rep E th h0 h L) {i : Nat} {cs : List FV} {k : Nat} (hg : th.t.get i = some (.cells cs k)) :
    ∃ a vs, E.p i = some a ∧ denL E cs = some vs ∧ cs.all oneF = true ∧ Rd h (.pointer (some a)) vs := by
  obtain ⟨a, vs, post, hc, s⟩ := r.told hg
  refine ⟨a, vs, hc.1, hc.2.1, hc.2.2.1, ?_⟩
  have := s.rd.take vs.length
  rwa [List.take_left] at this
theorem Rep.readR {E : Env} {th : TH} {h0 h : Heap} {L : List HP} (r : Rep E th h0 h L) {i : Nat} {cs : List FV} (hg : th.t.get i = some (.ro cs)) :
    ∃ a vs, E.p i = some a ∧ denL E cs = some vs ∧ cs.all oneF = true ∧ Rd h (.pointer (some a)) vs := by
  obtain ⟨a, vs, hc, s⟩ := r.toldR hg
  obtain ⟨S, ⟨_, hb⟩, _⟩ := s.get
  exact ⟨a, vs, hc.1, hc.2.1, hc.2.2.1, hc.2.2.2 h hb⟩
theorem all_take {cs : List FV} (h : cs.all oneF = true) (n m : Nat) : ((cs.drop n).take m).all oneF = true := by
  rw [List.all_eq_true] at *
  intro x hx
  exact h x (List.mem_of_mem_drop (List.mem_of_mem_take hx))
theorem ld_ok {E : Env} {th : TH} {h0 h : Heap} {L : List HP} (r : Rep E th h0 h L) {t : TypeId} {k : Nat} {b : Bool} (hk : szO P t = some k) (hb : agO P t = some b) (hk0 : 0 < k) {x y : FV} {v : Value} (hv : den E x = some v)
    (hx : ldF th.t k b x = some y) : oLoad P t v (Eq h) fun v => den E y = some v := by
  cases x <;> try (simp [ldF] at hx; done)
  rename_i i o
  simp only [ldF] at hx
  obtain ⟨a', ha', rfl⟩ := den_ptr hv
  have key : ∀ cs : List FV, (∃ a vs, E.p i = some a ∧ denL E cs = some vs ∧ cs.all oneF = true ∧ Rd h (.pointer (some a)) vs) → ldG k b o cs = some y → oLoad P t (.pointer (some (a'.add o))) (Eq h) fun v => den E y = some v := by
    intro cs hr hx
    unfold ldG at hx
    obtain ⟨a, vs, h1, h2, h3, h4⟩ := hr
    rw [h1] at ha'
    simp only [Option.some.injEq] at ha'
    subst ha'
    have hp : Value.pointer (some (a.add o)) = padd (.pointer (some a)) o := rfl
    rw [hp]
    cases b with
    | true =>
      simp only at hx
      cases ht : takeF k (dropF o cs) with
      | none => rw [ht] at hx; cases hx
      | some l =>
        rw [ht] at hx
        simp only [Option.some.injEq] at hx
        subst hx
        obtain ⟨h5, h6⟩ := takeF_some ht
        rw [dropF_eq] at h5 h6
        haveI := agO_run hb
        haveI := szO_run hk
        have hl := denL_length h2
        refine oLoadA (fun h' e => e ▸ h4) ⟨a, rfl⟩ (by rw [List.length_drop] at h6; omega) ?_
        have h7 := denL_take k (denL_drop o h2)
        rw [← h5] at h7
        simp only [den, h7]
        rw [if_pos (by rw [h5]; exact all_take h3 o k)]
    | false =>
      simp only at hx
      haveI := agO_run hb
      obtain ⟨u, h5, h6⟩ := denL_get h2 (hd?_some hx)
      exact oLoad1 (fun h' e => e ▸ h4) h5 h6
  cases hg : th.t.get i with
  | none => rw [hg] at hx; cases hx
  | some ob =>
    rw [hg] at hx
    rcases ob with ⟨cs, kk⟩ | ⟨dd, mm⟩ | ⟨ii, cc, bb⟩ | ⟨rr⟩
    · exact key cs (r.read hg) hx
    · cases hx
    · cases hx
    · exact key rr (r.readR hg) hx

/-! ### Slices -/
def OI (r : Option Nat) (w : Option Value) : Prop := match r with
  | none => w = none
  | some n => ∃ k, w = some (.int k (n : Int))
theorem evI_ok {E : Env} {fr : Fr} {ρ : Operand → Value} (hρ : AgO E fr ρ) {x : Option Operand} {z : Option Opd} {r : Option Nat} (hc : c1O x = some z) (hx : evI fr z = some r) : OI r (x.map ρ) := by
  cases x with
  | none =>
    simp only [c1O, Option.some.injEq] at hc; subst hc
    simp only [evI, Option.some.injEq] at hx; subst hx
    rfl
  | some x =>
    simp only [c1O] at hc
    cases ha : c1 x with
    | none => rw [ha] at hc; cases hc
    | some a =>
      rw [ha] at hc; simp only [Option.some.injEq] at hc; subst hc
      simp only [evI] at hx
      cases hv : evO fr a with
      | none => rw [hv] at hx; cases hx
      | some v =>
        rw [hv] at hx
        simp only at hx
        cases v <;> try (cases hx; done)
        rename_i k n
        cases n with
        | negSucc m => cases hx
        | ofNat m =>
          simp only [Option.some.injEq] at hx; subst hx
          have := hρ x a _ ha hv
          simp only [den, Option.some.injEq] at this
          exact ⟨k, by simp only [Option.map_some]; rw [← this]; rfl⟩
theorem bounds_ok {b : Bool} {len cap : Nat} {lo hi mx : Option Nat} {lo' hi' mx' : Option Value} (h1 : OI lo lo') (h2 : OI hi hi') (h3 : OI mx mx') (hm : mx = none ∨ hi ≠ none)
    (c1 : gD mx cap ≤ cap) (c2 : hi = none ∨ gD hi len ≤ gD mx cap) (c3 : lo = none ∨ gD lo 0 ≤ gD hi len) (w : World) :
    (Instr.sliceBounds b len cap lo' hi' mx').run P w = .ok (gD lo 0, gD hi len, gD mx cap) w := by
  cases mx with
  | none =>
    cases h3
    cases hi with
    | none =>
      cases h2
      cases lo with
      | none => cases h1; simp [Instr.sliceBounds, gD]
      | some l =>
        obtain ⟨k, rfl⟩ := h1
        simp only [gD, reduceCtorEq, false_or] at c3
        simp [Instr.sliceBounds, gD, run_sliceBound, c3]
    | some h =>
      obtain ⟨k, rfl⟩ := h2
      simp only [gD, reduceCtorEq, false_or] at c2
      cases lo with
      | none => cases h1; simp [Instr.sliceBounds, gD, run_sliceBound, c2]
      | some l =>
        obtain ⟨k', rfl⟩ := h1
        simp only [gD, reduceCtorEq, false_or] at c3
        simp [Instr.sliceBounds, gD, run_sliceBound, c2, c3]
  | some m =>
    obtain ⟨k, rfl⟩ := h3
    cases hi with
    | none => rcases hm with h | h <;> simp at h
    | some h =>
      obtain ⟨k', rfl⟩ := h2
      simp only [gD, reduceCtorEq, false_or] at c1 c2
      cases lo with
      | none => cases h1; simp [Instr.sliceBounds, gD, run_sliceBound, c1, c2]
      | some l =>
        obtain ⟨k'', rfl⟩ := h1
        simp only [gD, reduceCtorEq, false_or] at c3
        simp [Instr.sliceBounds, gD, run_sliceBound, c1, c2, c3]
/-- What a slice of a slice is, by its bounds. -/
theorem slcF_ok {E : Env} {k : Nat} {x r : FV} {lo hi mx : Option Nat} {v : Value} (hv : den E x = some v) (h : slcF k x lo hi mx = some r) :
    ∃ a len cap, v = .slice a len cap ∧ (mx = none ∨ hi ≠ none) ∧ gD mx cap ≤ cap ∧ gD hi len ≤ gD mx cap ∧ gD lo 0 ≤ gD hi len ∧ den E r = some (sliced a (gD lo 0) (gD hi len) (gD mx cap) k) := by
  cases x <;> try (simp [slcF] at h; done)
  case nsl =>
    simp only [den, Option.some.injEq] at hv; subst hv
    simp only [slcF] at h
    cases hb : (mxok mx hi && (Nat.beq (gD lo 0) 0 && Nat.beq (gD hi 0) 0 && Nat.beq (gD mx 0) 0)) with
    | false => rw [hb] at h; cases h
    | true =>
      rw [hb] at h; simp only [cond_true, Option.some.injEq] at h; subst h
      simp only [Bool.and_eq_true] at hb
      obtain ⟨h0, ⟨h1, h2⟩, h3⟩ := hb
      have h1 := beq_t h1; have h2 := beq_t h2; have h3 := beq_t h3
      refine ⟨none, 0, 0, rfl, ?_, by omega, by omega, by omega, ?_⟩
      · cases mx with
        | none => exact .inl rfl
        | some m => cases hi with
          | none => cases h0
          | some x => exact .inr (by simp)
      · rw [h1, h2, h3]; simp [sliced, den]
  case sl i off offz len cap =>
    obtain ⟨a, c, hp, rfl, hc⟩ := den_sl hv
    cases cap with
    | lit c' =>
      simp only at hc
      subst hc
      simp only [slcF] at h
      refine ⟨_, len, c, rfl, ?_⟩
      cases mx with
      | none =>
        simp only at h
        cases hb : (Nat.ble (gD hi len) c && Nat.ble (gD lo 0) (gD hi len)) with
        | false => rw [hb] at h; cases h
        | true =>
          rw [hb] at h; simp only [cond_true, Option.some.injEq] at h; subst h
          simp only [Bool.and_eq_true] at hb
          refine ⟨.inl rfl, Nat.le_refl _, ble_t hb.1, ble_t hb.2, ?_⟩
          simp only [den, hp, sliced, gD_none, bq]
          generalize gD lo 0 = l
          by_cases he : c = l
          · simp [he]
          · simp [he, add_add]
      | some m =>
        cases hi with
        | none => simp at h
        | some x =>
          simp only at h
          cases hb : (Nat.ble m c && Nat.ble x m && Nat.ble (gD lo 0) x) with
          | false => rw [hb] at h; cases h
          | true =>
            rw [hb] at h; simp only [cond_true, Option.some.injEq] at h; subst h
            simp only [Bool.and_eq_true] at hb
            refine ⟨.inr (by simp), ble_t hb.1.1, ble_t hb.1.2, ble_t hb.2, ?_⟩
            simp only [den, hp, sliced, gD_some, bq]
            generalize gD lo 0 = l
            by_cases he : m = l
            · simp [he]
            · simp [he, add_add]
    | hid j =>
      simp only at hc
      obtain ⟨hle, rfl⟩ := hc
      simp only [slcF] at h
      refine ⟨_, len, _, rfl, ?_⟩
      cases mx with
      | none =>
        simp only at h
        cases hb : (Nat.ble (gD hi len) len && Nat.ble (gD lo 0) (gD hi len)) with
        | false => rw [hb] at h; cases h
        | true =>
          rw [hb] at h; simp only [cond_true, Option.some.injEq] at h; subst h
          simp only [Bool.and_eq_true] at hb
          have h1 := ble_t hb.1
          have h2 := ble_t hb.2
          refine ⟨.inl rfl, Nat.le_refl _, by simp only [gD_none]; omega, h2, ?_⟩
          simp only [den, hp, sliced, gD_none]
          generalize gD lo 0 = l at *
          generalize gD hi len = x at *
          rw [if_pos (by omega)]
          simp only [bq]
          by_cases he : E.c i - j = l
          · have e1 : E.c i = j + l := by omega
            by_cases h0 : l = 0
            · subst h0
              have e2 : E.c i = j := by omega
              simp [e2]
            · have e2 : ¬ E.c i = j := by omega
              simp [h0, e2, he, e1]
              try omega
          · have e1 : ¬ E.c i = j + l := by omega
            have e2 : ¬ E.c i = j := by omega
            simp [he, e1, e2, add_add]
            try omega
      | some m =>
        cases hi with
        | none => simp at h
        | some x =>
          simp only at h
          cases hb : (Nat.ble m len && Nat.ble x m && Nat.ble (gD lo 0) x && Nat.blt 0 len) with
          | false => rw [hb] at h; cases h
          | true =>
            rw [hb] at h; simp only [cond_true, Option.some.injEq] at h; subst h
            simp only [Bool.and_eq_true] at hb
            have h1 := ble_t hb.1.1.1
            have h2 := blt_t hb.2
            refine ⟨.inr (by simp), by simp only [gD]; omega, ble_t hb.1.1.2, ble_t hb.1.2, ?_⟩
            simp only [den, hp, sliced, gD_some, bq]
            generalize gD lo 0 = l at *
            have hne : ¬ E.c i = j := by omega
            by_cases he : m = l
            · simp [he, hne]
            · simp [he, hne, add_add]
end Go.Va
