/- A region that draws its order: whatever order, it comes to what is reckoned. No program. -/
import Derived.Test.YtfaieigeojiiiaaGreatVs
set_option linter.unusedVariables false
set_option linter.unusedSectionVars false
set_option linter.unusedSimpArgs false
namespace Go.Va
open Go Go.Sh
variable [Vb]
variable {P : Program}

def hpL (m : Vals) (E : Env) : List HE → List HP
  | [] => []
  | q :: r => if (m q.i).isSome then part E (q.id, q.o) :: hpL m E r else hpL m E r
def FrOk (ops : Array Oper) (hd : Nat) (fr0 : Fr) (val : Nat → Option FV) (i : Nat) (fp : Fr) : Prop := ∀ t x, fp.get t = some x →
  (∃ j o, j ∈ depsAt ops i ∧ ops[j]? = some o ∧ o.dst = some t ∧ val j = some x) ∨
  (fr0.get t = some x ∧ ∀ j o, j < hd → ops[j]? = some o → o.dst = some t → i ∈ depsAt ops j)
inductive PEok (th : TH) (hs : List HE) (val : Nat → Option FV) (p : PE) : Prop
  | skip : gst p.fr p.c.g = .skip → val p.i = some undF → (∀ q ∈ hs, q.i ≠ p.i) → PEok th hs val p
  | go (y : FV) : gst p.fr p.c.g = .go → evQ p.fr (relH p.dq th.t hs) p.c.m = some p.x → val p.i = some y → (obH p.x ∧ ∀ E v, den E (strip p.x) = some v → den E y = some v) → (∀ q ∈ hs, q.i ≠ p.i) → PEok th hs val p
  | al (q : HE) (x : FV) : gst p.fr p.c.g = .go → q ∈ hs → q.i = p.i → alF p.fr p.c.m = some (x, q.o) → val p.i = some (reid q.id x) → PEok th hs val p
structure CI (P : Program) (cl : Cl) (n : Nat) (ops : Array Oper) (hd : Nat) (fr0 : Fr) (E0 : Env) (h0 : Heap) (L : List HP) (K : KF)
    (m : Vals) (h : Heap) (S : List (Nat × Nat)) (R : List RE) (seen : List Nat) (fr : Fr) (th : TH) (hs : List HE) (ps : List PE) (E : Env) (val : Nat → Option FV) : Prop where
  run : evR cl R fr th hs ps K
  hR : cREL P n ops S = some R
  ord : okOrd ops S seen = true
  all : ∀ i, i < hd → i ∈ seen ∨ i ∈ S.map (·.2)
  lt : ∀ i, i ∈ S.map (·.2) → i < hd
  slt : ∀ i, i ∈ seen → i < hd
  sd : ∀ i, i ∈ seen → ∀ j ∈ depsAt ops i, j ∈ seen
  ts : ∀ i, i ∈ S.map (·.2) → okTs ops hd i = true
  nd : (S.map (·.2)).Nodup
  disj : ∀ i, i ∈ S.map (·.2) → i ∉ seen
  vs : ∀ i, i ∈ seen → val i ≠ none
  vn : ∀ i, i ∉ seen → val i = none
  don : ∀ i v, m i = some v → i ∈ seen ∧ ∃ x, val i = some x ∧ den E x = some v
  clo : ∀ i v, m i = some v → ∀ j ∈ depsAt ops i, (m j).isSome
  frm : ∀ t x, fr.get t = some x → (∃ j o, j ∈ seen ∧ ops[j]? = some o ∧ o.dst = some t ∧ val j = some x) ∨ (fr0.get t = some x ∧ ∀ j o, j ∈ seen → ops[j]? = some o → o.dst ≠ some t)
  cov : ∀ i, i ∈ seen → m i = none → ∃ p ∈ ps, p.i = i
  pok : ∀ p ∈ ps, m p.i = none → (∃ o, ops[p.i]? = some o ∧ COk P n ops o p.c) ∧ FrOk ops hd fr0 val p.i p.fr ∧ PEok th hs val p
  pin : ∀ p ∈ ps, p.i ∈ seen
  pan : ∀ p ∈ ps, ∀ j ∈ p.dq, Anc ops p.i j
  hin : ∀ q ∈ hs, q.i ∈ seen
  hid : ∀ q ∈ hs, E0.p q.id = none ∧ E0.r q.id = false ∧ (∀ v, m q.i = some v → E.p q.id ≠ none) ∧ (m q.i = none → E.p q.id = none ∧ E.r q.id = true)
  hnd : (hs.map (·.id)).Nodup
  hni : (hs.map (·.i)).Nodup
  le : E0.Le E
  rep : Rep E th h0 h (hpL m E hs ++ L)
variable {cl : Cl} {n : Nat} {ops : Array Oper} {hd : Nat} {fr0 : Fr} {f0 : Nat → Value} {E0 : Env} {h0 : Heap} {L : List HP} {K : KF}
  {m : Vals} {h : Heap} {S : List (Nat × Nat)} {R : List RE} {seen : List Nat} {fr : Fr} {th : TH} {hs : List HE} {ps : List PE} {E : Env} {val : Nat → Option FV}

theorem hpL_set {i : Nat} {v : Value} : ∀ {hs : List HE}, (∀ q ∈ hs, q.i ≠ i) → hpL (setm m i v) E hs = hpL m E hs
  | [], _ => rfl
  | q :: r, h => by
    have h1 : setm m i v q.i = m q.i := setm_ne (h q (.head _))
    simp only [hpL, h1, hpL_set fun q hq => h q (.tail _ hq)]
theorem hpL_mono {F : Env} (hf : E.Le0 F) {h : Heap} {L : List HP} : ∀ {hs : List HE} {U : Nat → Prop}, Sep h (hpL m E hs ++ L) U → Sep h (hpL m F hs ++ L) U
  | [], _, s => s
  | q :: r, U, s => by
    simp only [hpL] at s ⊢
    split at s
    · rename_i hq
      rw [if_pos hq]
      obtain ⟨S, a, b, c⟩ := s
      exact ⟨S, part_mono hf a, b, hpL_mono hf c⟩
    · rename_i hq
      rw [if_neg hq]
      exact hpL_mono hf s
/-- The told frame of an operation whose hangs are done is the run's own. -/
theorem frOk_ag (c : CI P cl n ops hd fr0 E0 h0 L K m h S R seen fr th hs ps E val) {g : Nat → Value} (hag : Agr ops f0 m g) (ha0 : AgF E0 n fr0 f0) (hdst : ∀ (j : Nat) (o : Oper) (d : Nat), ops[j]? = some o → o.dst = some d → d < n) (hmh : ∀ j, hd ≤ j → m j = none)
    {i : Nat} {fp : Fr} (hf : FrOk ops hd fr0 val i fp) (hi : m i = none) (hdep : ∀ j ∈ depsAt ops i, (m j).isSome) : AgF E n fp g := fun t x hx => by
  rcases hf t x hx with ⟨j, o, h1, h2, h3, h4⟩ | ⟨h1, h2⟩
  · obtain ⟨v, hv⟩ := Option.isSome_iff_exists.1 (hdep j h1)
    obtain ⟨_, y, h5, h6⟩ := c.don j v hv
    rw [h4] at h5; simp only [Option.some.injEq] at h5; subst h5
    exact ⟨hdst j o t h2 h3, by rw [hag.done j o t v h2 h3 hv]; exact h6⟩
  · obtain ⟨h3, h4⟩ := ha0 t x h1
    refine ⟨h3, ?_⟩
    rw [hag.rest t fun j o hj hd' => ?_]
    · exact den_mono c.le h4
    · rcases Nat.lt_or_ge j hd with hjd | hjd
      · cases hm : m j with
        | none => rfl
        | some v =>
          have := c.clo j v hm i (h2 j o hjd hj hd')
          rw [hi] at this; cases this
      · exact hmh j hjd
theorem depsAt_eq {i : Nat} {o : Oper} (h : ops[i]? = some o) : depsAt ops i = depsOf o := by simp [depsAt, h]
theorem tsAt_eq {i : Nat} {o : Oper} (h : ops[i]? = some o) : tsAt ops i = tsOf ops o := by simp [tsAt, h]
/-- One more is done. -/
theorem CI.set (c : CI P cl n ops hd fr0 E0 h0 L K m h S R seen fr th hs ps E val) {i : Nat} {v : Value} {y : FV} {F : Env} {h' : Heap} (hi : i ∈ seen) (hm : m i = none) (hdep : ∀ j ∈ depsAt ops i, (m j).isSome) (hv : val i = some y) (hd' : den F y = some v)
    (hle : E.Le0 F) (hid : ∀ q ∈ hs, E0.p q.id = none ∧ E0.r q.id = false ∧ (∀ u, setm m i v q.i = some u → F.p q.id ≠ none) ∧ (setm m i v q.i = none → F.p q.id = none ∧ F.r q.id = true)) (le : E0.Le F) (rep : Rep F th h0 h' (hpL (setm m i v) F hs ++ L)) : CI P cl n ops hd fr0 E0 h0 L K (setm m i v) h' S R seen fr th hs ps F val :=
  { c with
    don := fun j u hj => by
      by_cases e : j = i
      · subst e; rw [setm_eq] at hj; simp only [Option.some.injEq] at hj; subst hj; exact ⟨hi, y, hv, hd'⟩
      · rw [setm_ne e] at hj
        obtain ⟨a, x, b, d⟩ := c.don j u hj
        exact ⟨a, x, b, den_mono0 hle d⟩
    clo := fun j u hj k hk => by
      have hs : (m k).isSome → (setm m i v k).isSome := fun h => by
        by_cases e : k = i
        · subst e; rw [setm_eq]; rfl
        · rw [setm_ne e]; exact h
      by_cases e : j = i
      · subst e; exact hs (hdep k hk)
      · rw [setm_ne e] at hj; exact hs (c.clo j u hj k hk)
    cov := fun j hj hmj => by
      by_cases e : j = i
      · subst e; rw [setm_eq] at hmj; cases hmj
      · rw [setm_ne e] at hmj; exact c.cov j hj hmj
    pok := fun p hp hmp => by
      by_cases e : p.i = i
      · rw [e, setm_eq] at hmp; cases hmp
      · rw [setm_ne e] at hmp; exact c.pok p hp hmp
    hid := hid
    le := le
    rep := rep }
/-- Nothing told changes. -/
theorem CI.set0 (c : CI P cl n ops hd fr0 E0 h0 L K m h S R seen fr th hs ps E val) {i : Nat} {v : Value} {y : FV} (hi : i ∈ seen) (hm : m i = none) (hdep : ∀ j ∈ depsAt ops i, (m j).isSome) (hv : val i = some y) (hd' : den E y = some v)
    (hno : ∀ q ∈ hs, q.i ≠ i) : CI P cl n ops hd fr0 E0 h0 L K (setm m i v) h S R seen fr th hs ps E val :=
  c.set hi hm hdep hv hd' (Env.Le.refl E).p (fun q hq => by rw [setm_ne (hno q hq)]; exact c.hid q hq) c.le (by rw [hpL_set hno]; exact c.rep)
def setv (val : Nat → Option FV) (i : Nat) (y : FV) : Nat → Option FV := fun j => if j = i then some y else val j
theorem setv_eq (val : Nat → Option FV) (i : Nat) (y : FV) : setv val i y i = some y := by simp [setv]
theorem setv_ne {val : Nat → Option FV} {i j : Nat} {y : FV} (h : j ≠ i) : setv val i y j = val j := by simp [setv, h]
theorem setv_some {val : Nat → Option FV} {i j : Nat} {x y : FV} (hn : val i = none) (h : val j = some x) : setv val i y j = some x := by
  rw [setv_ne]; exact h
  intro e; rw [e, hn] at h; cases h
theorem FrOk.ext {i k : Nat} {y : FV} {fp : Fr} (hn : val k = none) (h : FrOk ops hd fr0 val i fp) : FrOk ops hd fr0 (setv val k y) i fp := fun t x hx => by
  rcases h t x hx with ⟨j, o, a, b, c, d⟩ | h
  · exact .inl ⟨j, o, a, b, c, setv_some hn d⟩
  · exact .inr h
theorem PEok.ext {k : Nat} {y : FV} {th' : TH} {hs' : List HE} {p : PE} (hn : val k = none) (hp : p.i ≠ k) (ht : ∀ x, gst p.fr p.c.g = .go → evQ p.fr (relH p.dq th.t hs) p.c.m = some x → x = p.x → evQ p.fr (relH p.dq th'.t hs') p.c.m = some x) (h1 : ∀ q ∈ hs', q ∈ hs ∨ q.i = k) (h2 : ∀ q ∈ hs, q.i = p.i → q ∈ hs') (h : PEok th hs val p) : PEok th' hs' (setv val k y) p := by
  have hno : (∀ q ∈ hs, q.i ≠ p.i) → ∀ q ∈ hs', q.i ≠ p.i := fun hq q hq' => by
    rcases h1 q hq' with a | a
    · exact hq q a
    · rw [a]; exact Ne.symm hp
  cases h with
  | skip a b c => exact .skip a (setv_some hn b) (hno c)
  | go z a b c d e => exact .go z a (ht _ a b rfl) (setv_some hn c) d (hno e)
  | al q x a b c d e => exact .al q x a (h2 q b c) c d (setv_some hn e)
theorem anc_seen {ops : Array Oper} {seen : List Nat} (sd : ∀ i, i ∈ seen → ∀ j ∈ depsAt ops i, j ∈ seen) {i j : Nat} (hi : i ∈ seen) (h : Anc ops i j) : j ∈ seen := by
  induction h with
  | one h => exact sd _ hi _ h
  | more h _ ih => exact ih (sd _ hi _ h)
section head
variable {k i : Nat} {o : Oper} {co : CO}
theorem okOrd_cons {p : Nat × Nat} {r : List (Nat × Nat)} (h : okOrd ops (p :: r) seen = true) : (∀ j ∈ depsAt ops p.2, j ∈ seen) ∧ (2 ≤ p.1 → ∀ q ∈ r, ∃ j ∈ depsAt ops q.2, j = p.2 ∨ j ∈ r.map (·.2)) ∧ okOrd ops r (p.2 :: seen) = true := by
  simp only [okOrd, Bool.and_eq_true] at h
  obtain ⟨⟨h1, h2⟩, h3⟩ := h
  refine ⟨fun j hj => memN_iff.1 (List.all_eq_true.1 h1 j hj), fun hk q hq => ?_, h3⟩
  have hb : Nat.ble 2 p.1 = true := by rw [Nat.ble_eq]; exact hk
  rw [hb] at h2
  simp only [cond_true] at h2
  obtain ⟨j, hj, hj2⟩ := List.any_eq_true.1 (List.all_eq_true.1 h2 q hq)
  refine ⟨j, hj, ?_⟩
  rcases Bool.or_eq_true _ _ ▸ hj2 with a | a
  · exact .inl (beq_t a)
  · obtain ⟨s, hs, hs2⟩ := List.any_eq_true.1 a
    exact .inr (List.mem_map.2 ⟨s, hs, beq_t hs2⟩)
theorem okTs_get (h : okTs ops hd i = true) {t j : Nat} {oj : Oper} (ht : t ∈ tsAt ops i) (hj : j < hd) (h1 : ops[j]? = some oj) (h2 : oj.dst = some t) : j ∈ depsAt ops i ∨ i ∈ depsAt ops j := by
  unfold okTs at h
  have := List.all_eq_true.1 (List.all_eq_true.1 h t ht) j (List.mem_range.2 hj)
  have hb : Nat.beq t t = true := Nat.beq_refl t
  simp only [h1, Option.bind_some, h2, hb, Bool.not_true, Bool.false_or, Bool.or_eq_true] at this
  exact this.imp memN_iff.1 memN_iff.1
theorem CI.fresh (c : CI P cl n ops hd fr0 E0 h0 L K m h ((k, i) :: S) R seen fr th hs ps E val) : i ∉ seen ∧ val i = none ∧ m i = none ∧ i < hd := by
  have h1 := c.disj i (.head _)
  refine ⟨h1, c.vn i h1, ?_, c.lt i (.head _)⟩
  cases hm : m i with
  | none => rfl
  | some v => exact absurd (c.don i v hm).1 h1
/-- What it reads of the frame is right. -/
theorem CI.frOk (c : CI P cl n ops hd fr0 E0 h0 L K m h ((k, i) :: S) R seen fr th hs ps E val) (ho : ops[i]? = some o) : FrOk ops hd fr0 val i (pickF fr (tsOf ops o)) := fun t x hx => by
  obtain ⟨ht, hf⟩ := pickF_get hx
  have hts := c.ts i (.head _)
  have hi := c.fresh
  rw [← tsAt_eq ho] at ht
  rcases c.frm t x hf with ⟨j, oj, h1, h2, h3, h4⟩ | ⟨h1, h2⟩
  · rcases okTs_get hts ht (c.slt j h1) h2 h3 with a | a
    · exact .inl ⟨j, oj, a, h2, h3, h4⟩
    · exact absurd (c.sd j h1 i a) hi.1
  · refine .inr ⟨h1, fun j oj hj h3 h4 => ?_⟩
    rcases okTs_get hts ht hj h3 h4 with a | a
    · exact absurd h4 (h2 j oj ((okOrd_cons c.ord).1 j a) h3)
    · exact a
theorem CI.frmN (c : CI P cl n ops hd fr0 E0 h0 L K m h ((k, i) :: S) R seen fr th hs ps E val) (ho : ops[i]? = some o) (y : FV) : ∀ t x, (putO fr o.dst y).get t = some x →
    (∃ j o, j ∈ i :: seen ∧ ops[j]? = some o ∧ o.dst = some t ∧ setv val i y j = some x) ∨ (fr0.get t = some x ∧ ∀ j o, j ∈ i :: seen → ops[j]? = some o → o.dst ≠ some t) := fun t x hx => by
  have hi := c.fresh
  have old : fr.get t = some x → o.dst ≠ some t → (∃ j o, j ∈ i :: seen ∧ ops[j]? = some o ∧ o.dst = some t ∧ setv val i y j = some x) ∨ (fr0.get t = some x ∧ ∀ j o, j ∈ i :: seen → ops[j]? = some o → o.dst ≠ some t) := fun hf hne => by
    rcases c.frm t x hf with ⟨j, oj, h1, h2, h3, h4⟩ | ⟨h1, h2⟩
    · exact .inl ⟨j, oj, .tail _ h1, h2, h3, setv_some hi.2.1 h4⟩
    · refine .inr ⟨h1, fun j oj hj h3 => ?_⟩
      rcases List.mem_cons.1 hj with rfl | hj
      · rw [ho] at h3; simp only [Option.some.injEq] at h3; subst h3; exact hne
      · exact h2 j oj hj h3
  cases hd : o.dst with
  | none => rw [hd] at hx; exact old hx (by rw [hd]; exact fun e => by cases e)
  | some d =>
    rw [hd] at hx
    simp only [putO] at hx
    by_cases ht : t = d
    · subst ht
      rw [Fr.get_eq] at hx; simp only [Option.some.injEq] at hx; subst hx
      exact .inl ⟨i, o, .head _, ho, hd, setv_eq val i y⟩
    · rw [Fr.get_ne _ _ ht] at hx
      exact old hx (by rw [hd]; intro e; simp only [Option.some.injEq] at e; exact ht e.symm)
theorem cREL_cons {p : Nat × Nat} {r : List (Nat × Nat)} {l : List RE} (h : cREL P n ops (p :: r) = some l) : ∃ c l', cRE P n ops p.1 p.2 = some c ∧ cREL P n ops r = some l' ∧ l = c :: l' := by
  simp only [cREL] at h
  cases h1 : cRE P n ops p.1 p.2 with
  | none => rw [h1] at h; cases h
  | some c =>
    cases h2 : cREL P n ops r with
    | none => rw [h1, h2] at h; cases h
    | some l' => rw [h1, h2] at h; simp only [Option.some.injEq] at h; exact ⟨c, l', rfl, rfl, h.symm⟩
theorem cRE_ok {e : RE} (h : cRE P n ops k i = some e) : ∃ o co, ops[i]? = some o ∧ COk P n ops o co ∧ ((k = 0 ∧ e = .q i (tsOf ops o) co (ancQ P ops co.m i)) ∨ (k = 1 ∧ e = .a i (tsOf ops o) co) ∨ (2 ≤ k ∧ e = .e i (tsOf ops o) co (depsOf o))) := by
  unfold cRE at h
  cases ho : ops[i]? with
  | none => rw [ho] at h; cases h
  | some o =>
    rw [ho] at h
    simp only at h
    cases hc : cO P n ops o with
    | none => rw [hc] at h; cases h
    | some co =>
      rw [hc] at h
      simp only at h
      refine ⟨o, co, rfl, cO_ok hc, ?_⟩
      match k, h with
      | 0, h => simp only [Option.some.injEq] at h; exact .inl ⟨rfl, h.symm⟩
      | 1, h => simp only [Option.some.injEq] at h; exact .inr (.inl ⟨rfl, h.symm⟩)
      | k + 2, h => simp only [Option.some.injEq] at h; exact .inr (.inr ⟨by omega, h.symm⟩)
/-- One more is told: it may be run whenever what it hangs on is done. -/
theorem CI.push (c : CI P cl n ops hd fr0 E0 h0 L K m h ((k, i) :: S) R seen fr th hs ps E val) (ho : ops[i]? = some o) (ok : COk P n ops o co) {x y : FV} {dq : List Nat} {th' : TH} {hs' : List HE} {F : Env} {R' : List RE}
    (hR : cREL P n ops S = some R') (run : evR cl R' (putO fr co.dst y) th' hs' (⟨i, pickF fr (tsOf ops o), co, x, dq⟩ :: ps) K) (hdq : ∀ j ∈ dq, Anc ops i j) (htt : ∀ l : List Nat, i ∉ l → relH l th'.t hs' = relH l th.t hs) (hh : ∀ q ∈ hs', q ∈ hs ∨ q.i = i) (hh2 : ∀ q ∈ hs, q ∈ hs')
    (pe : PEok th' hs' (setv val i y) ⟨i, pickF fr (tsOf ops o), co, x, dq⟩) (hle : E.Le F) (hid : ∀ q ∈ hs', E0.p q.id = none ∧ E0.r q.id = false ∧ (∀ v, m q.i = some v → F.p q.id ≠ none) ∧ (m q.i = none → F.p q.id = none ∧ F.r q.id = true))
    (hnd : (hs'.map (·.id)).Nodup) (hni : (hs'.map (·.i)).Nodup) (rep : Rep F th' h0 h (hpL m F hs' ++ L)) :
    CI P cl n ops hd fr0 E0 h0 L K m h S R' (i :: seen) (putO fr co.dst y) th' hs' (⟨i, pickF fr (tsOf ops o), co, x, dq⟩ :: ps) F (setv val i y) := by
  obtain ⟨hi, hvi, hmi, hlt⟩ := c.fresh
  obtain ⟨o1, o2, o3⟩ := okOrd_cons c.ord
  have nd := c.nd
  simp only [List.map_cons, List.nodup_cons] at nd
  have ne : ∀ {j}, j ∈ seen → j ≠ i := fun hj e => hi (e ▸ hj)
  exact
  { run := run, hR := hR, ord := o3, nd := nd.2, hnd := hnd, hni := hni, hid := hid, rep := rep, le := c.le.trans hle, clo := c.clo
    all := fun j hj => by
      rcases c.all j hj with a | a
      · exact .inl (.tail _ a)
      · rcases List.mem_cons.1 a with rfl | a
        · exact .inl (.head _)
        · exact .inr a
    lt := fun j hj => c.lt j (.tail _ hj)
    slt := fun j hj => by
      rcases List.mem_cons.1 hj with rfl | hj
      · exact hlt
      · exact c.slt j hj
    sd := fun j hj u hu => by
      rcases List.mem_cons.1 hj with rfl | hj
      · exact .tail _ (o1 u hu)
      · exact .tail _ (c.sd j hj u hu)
    ts := fun j hj => c.ts j (.tail _ hj)
    disj := fun j hj hs => by
      rcases List.mem_cons.1 hs with rfl | hs
      · exact nd.1 hj
      · exact c.disj j (.tail _ hj) hs
    vs := fun j hj => by
      rcases List.mem_cons.1 hj with rfl | hj
      · rw [setv_eq]; exact fun e => by cases e
      · rw [setv_ne (ne hj)]; exact c.vs j hj
    vn := fun j hj => by
      rw [setv_ne fun e => hj (by rw [e]; exact .head _)]; exact c.vn j fun h => hj (.tail _ h)
    don := fun j v hj => by
      obtain ⟨a, z, b, d⟩ := c.don j v hj
      exact ⟨.tail _ a, z, setv_some hvi b, den_mono hle d⟩
    frm := by rw [ok.d]; exact c.frmN ho y
    cov := fun j hj hm => by
      rcases List.mem_cons.1 hj with rfl | hj
      · exact ⟨_, .head _, rfl⟩
      · obtain ⟨p, a, b⟩ := c.cov j hj hm
        exact ⟨p, .tail _ a, b⟩
    pok := fun p hp hm => by
      rcases List.mem_cons.1 hp with rfl | hp
      · exact ⟨⟨o, ho, ok⟩, (c.frOk ho).ext hvi, pe⟩
      · obtain ⟨a, b, d⟩ := c.pok p hp hm
        exact ⟨a, b.ext hvi, d.ext hvi (ne (c.pin p hp)) (fun x _ h _ => by rw [htt p.dq fun hi' => hi (anc_seen c.sd (c.pin p hp) (c.pan p hp i hi'))]; exact h) hh fun q hq _ => hh2 q hq⟩
    pin := fun p hp => by
      rcases List.mem_cons.1 hp with rfl | hp
      · exact .head _
      · exact .tail _ (c.pin p hp)
    pan := fun p hp => by
      rcases List.mem_cons.1 hp with rfl | hp
      · exact hdq
      · exact c.pan p hp
    hin := fun q hq => by
      rcases hh q hq with a | a
      · exact .tail _ (c.hin q a)
      · rw [a]; exact .head _ }
end head
end Go.Va
set_option linter.unusedVariables false
set_option linter.unusedSectionVars false
set_option linter.unusedSimpArgs false
namespace Go.Va
open Go Go.Sh
variable [Vb]
variable {P : Program}
variable {cl : Cl} {n : Nat} {ops : Array Oper} {hd : Nat} {fr0 : Fr} {f0 : Nat → Value} {E0 : Env} {h0 : Heap} {L : List HP} {K : KF}
  {m : Vals} {h : Heap} {S : List (Nat × Nat)} {R : List RE} {seen : List Nat} {fr : Fr} {th : TH} {hs : List HE} {ps : List PE} {E : Env} {val : Nat → Option FV}

/-! ### Parts that stand beside -/
theorem Rep.permL {L' : List HP} (r : Rep E th h0 h L) (p : L.Perm L') : Rep E th h0 h L' := ⟨r.st.perm ((p.cons _).append_left _), r.fr, r.eh⟩
theorem Rep.hpm {F : Env} (r : Rep F th h0 h (hpL m E hs ++ L)) (hle : E.Le0 F) : Rep F th h0 h (hpL m F hs ++ L) := by
  refine ⟨?_, r.fr, r.eh⟩
  have p : ∀ G, (th.t.all.map (part F) ++ (FzP F.z :: (hpL m G hs ++ L))).Perm (hpL m G hs ++ (th.t.all.map (part F) ++ (FzP F.z :: L))) := fun G => by
    refine ((List.perm_middle (a := FzP F.z) (l₁ := hpL m G hs) (l₂ := L)).symm.append_left _).trans ?_
    rw [← List.append_assoc, ← List.append_assoc]
    exact List.perm_append_comm.append_right _
  have s := r.st.perm (p E)
  exact St.perm (⟨s.1, hpL_mono hle s.2⟩ : St h0 h (hpL m F hs ++ (th.t.all.map (part F) ++ (FzP F.z :: L)))) (p F).symm
theorem hpL_yes {q : HE} (h : (m q.i).isSome) : hpL m E (q :: hs) = part E (q.id, q.o) :: hpL m E hs := by simp only [hpL, h, if_true]
theorem hpL_no {q : HE} (h : m q.i = none) : hpL m E (q :: hs) = hpL m E hs := by simp [hpL, h]
theorem relH_ok {dp : List Nat} : ∀ {hs : List HE} {L : List HP}, Rep E th h0 h (hpL m E hs ++ L) → (∀ q ∈ hs, memN q.i dp = true → (m q.i).isSome) → Rep E ⟨relH dp th.t hs, th.nx, th.scr⟩ h0 h (hpL m E (keepH dp hs) ++ L)
  | [], L, r, _ => r
  | q :: hs, L, r, hd => by
    have hr := fun z hz => hd z (.tail q hz)
    cases hm : memN q.i dp with
    | true =>
      have hs' := hd q (.head _) hm
      rw [hpL_yes hs'] at r
      have r2 := relH_ok (L := part E (q.id, q.o) :: L) (r.permL List.perm_middle.symm) hr
      simp only [relH, keepH, hm, cond_true]
      exact (r2.permL List.perm_middle).take
    | false =>
      simp only [relH, keepH, hm, cond_false]
      cases hq : m q.i with
      | none =>
        rw [hpL_no hq] at r ⊢
        exact relH_ok r hr
      | some v =>
        have hs' : (m q.i).isSome := by rw [hq]; rfl
        rw [hpL_yes hs'] at r ⊢
        have r2 := relH_ok (L := part E (q.id, q.o) :: L) (r.permL List.perm_middle.symm) hr
        exact r2.permL List.perm_middle
theorem allH_ok : ∀ {hs : List HE} {L : List HP}, Rep E th h0 h (hpL m E hs ++ L) → (∀ q ∈ hs, (m q.i).isSome) → Rep E ⟨allH th.t hs, th.nx, th.scr⟩ h0 h L
  | [], L, r, _ => r
  | q :: hs, L, r, hd => by
    rw [hpL_yes (hd q (.head _))] at r
    have r2 := allH_ok (L := part E (q.id, q.o) :: L) (r.permL List.perm_middle.symm) fun z hz => hd z (.tail q hz)
    exact r2.take
theorem keepH_sub {dp : List Nat} : ∀ {hs : List HE}, (keepH dp hs).Sublist hs
  | [] => .slnil
  | q :: hs => by
    simp only [keepH]
    cases memN q.i dp with
    | true => exact .cons _ keepH_sub
    | false => exact .cons_cons _ keepH_sub
theorem hpL_new {q : HE} {v : Value} (hm : m q.i = none) : ∀ {hs : List HE}, q ∈ hs → (hs.map (·.i)).Nodup → (hpL (setm m q.i v) E hs).Perm (part E (q.id, q.o) :: hpL m E hs)
  | [], h, _ => by cases h
  | z :: hs, h, hn => by
    simp only [List.map_cons, List.nodup_cons] at hn
    rcases List.mem_cons.1 h with rfl | h
    · rw [hpL_yes (by rw [setm_eq]; rfl), hpL_no hm, hpL_set fun z hz e => hn.1 (List.mem_map.2 ⟨z, hz, e⟩)]
    · have hne : z.i ≠ q.i := fun e => hn.1 (List.mem_map.2 ⟨q, h, e.symm⟩)
      have ih := hpL_new (v := v) hm h hn.2
      have hz : setm m q.i v z.i = m z.i := setm_ne hne
      cases hq : m z.i with
      | none => rw [hpL_no (by rw [hz]; exact hq), hpL_no hq]; exact ih
      | some u =>
        rw [hpL_yes (by rw [hz, hq]; rfl), hpL_yes (by rw [hq]; rfl)]
        exact (ih.cons _).trans (.swap _ _ _)
/-! ### Up to the next effect -/
theorem CI.norm : ∀ {S : List (Nat × Nat)} {R : List RE} {seen : List Nat} {fr : Fr} {th : TH} {hs : List HE} {ps : List PE} {E : Env} {val : Nat → Option FV}, CI P cl n ops hd fr0 E0 h0 L K m h S R seen fr th hs ps E val →
    ∃ S R seen fr th hs ps E val, (S = [] ∨ ∃ k i r, S = (k, i) :: r ∧ 2 ≤ k) ∧ CI P cl n ops hd fr0 E0 h0 L K m h S R seen fr th hs ps E val
  | [], _, _, _, _, _, _, _, _, c => ⟨_, _, _, _, _, _, _, _, _, .inl rfl, c⟩
  | (k, i) :: S, R, seen, fr, th, hs, ps, E, val, c => by
    obtain ⟨e, R', h1, h2, rfl⟩ := cREL_cons c.hR
    obtain ⟨o, co, ho, ok, h3⟩ := cRE_ok h1
    obtain ⟨hi, hvi, hmi, hlt⟩ := c.fresh
    have run := c.run
    have hno : ∀ q ∈ hs, q.i ≠ i := fun q hq e => hi (e ▸ c.hin q hq)
    have same : ∀ (dq : List Nat) (x y : FV) (s : Scr), (∀ j ∈ dq, Anc ops i j) → PEok (th.scrp s) hs (setv val i y) ⟨i, pickF fr (tsOf ops o), co, x, dq⟩ → evR cl R' (putO fr co.dst y) (th.scrp s) hs (⟨i, pickF fr (tsOf ops o), co, x, dq⟩ :: ps) K →
        CI P cl n ops hd fr0 E0 h0 L K m h S R' (i :: seen) (putO fr co.dst y) (th.scrp s) hs (⟨i, pickF fr (tsOf ops o), co, x, dq⟩ :: ps) E (setv val i y) := fun dq x y s hdq pe run =>
      c.push ho ok h2 run hdq (fun _ _ => rfl) (fun q hq => .inl hq) (fun q hq => hq) pe (Env.Le.refl E) c.hid c.hnd c.hni (c.rep.scrp s)
    rcases h3 with ⟨rfl, rfl⟩ | ⟨rfl, rfl⟩ | ⟨hk, rfl⟩
    · simp only [evR] at run
      cases hg : gst (pickF fr (tsOf ops o)) co.g with
      | bad => rw [hg] at run; exact run.elim
      | skip =>
        rw [hg] at run
        exact CI.norm (same _ undF undF th.scr (fun j hj => ancQ_ok hj) (.skip hg (setv_eq _ _ _) hno) run)
      | go =>
        rw [hg] at run
        simp only at run
        cases hx : evQ (pickF fr (tsOf ops o)) (relH (ancQ P ops co.m i) th.t hs) co.m with
        | none => rw [hx] at run; exact run.elim
        | some x =>
          rw [hx] at run
          obtain ⟨hob, y, s, hy, run⟩ := rsl_any run
          exact CI.norm (same _ x y s (fun j hj => ancQ_ok hj) (.go y hg hx (setv_eq _ _ _) ⟨hob, hy⟩ hno) run)
    · simp only [evR] at run
      cases hg : gst (pickF fr (tsOf ops o)) co.g with
      | bad => rw [hg] at run; exact run.elim
      | skip =>
        rw [hg] at run
        exact CI.norm (same _ undF undF th.scr (fun j hj => by cases hj) (.skip hg (setv_eq _ _ _) hno) run)
      | go =>
        rw [hg] at run
        simp only at run
        cases hx : alF (pickF fr (tsOf ops o)) co.m with
        | none => rw [hx] at run; exact run.elim
        | some p =>
          obtain ⟨x, ob⟩ := p
          rw [hx] at run
          simp only at run
          obtain ⟨hp, hr⟩ := c.rep.fr th.nx (Nat.le_refl _)
          have le : E.Le ⟨E.p, E.c, fun j => if j = th.nx then true else E.r j, E.h, E.z, E.s⟩ := ⟨⟨fun j a h => ⟨h, rfl⟩, rfl, fun _ h => h, fun _ _ _ => rfl⟩, fun j hj => ⟨rfl, by simp [hj]⟩⟩
          have h0p : E0.p th.nx = none := by
            cases he : E0.p th.nx with
            | none => rfl
            | some a => rw [(c.le.p.a _ _ he).1] at hp; cases hp
          have h0r : E0.r th.nx = false := by
            cases he : E0.r th.nx with
            | false => rfl
            | true => rw [(c.le.r _ he).2] at hr; cases hr
          refine CI.norm (c.push (F := ⟨E.p, E.c, fun j => if j = th.nx then true else E.r j, E.h, E.z, E.s⟩) ho ok h2 run (fun j hj => by cases hj) (fun l hl => ?_) (fun q hq => ?_) (fun q hq => .tail _ hq) (.al ⟨i, th.nx, ob⟩ x hg (.head _) rfl hx (setv_eq _ _ _)) le (fun q hq => ?_) ?_ ?_ ?_)
          · have : memN i l = false := by
              cases hm : memN i l with
              | false => rfl
              | true => exact absurd (memN_iff.1 hm) hl
            simp only [relH, this, cond_false]
          · rcases List.mem_cons.1 hq with rfl | hq
            · exact .inr rfl
            · exact .inl hq
          · rcases List.mem_cons.1 hq with rfl | hq
            · exact ⟨h0p, h0r, fun v hv => (by rw [hmi] at hv; cases hv), fun _ => ⟨hp, by simp⟩⟩
            · obtain ⟨a, b, d, e⟩ := c.hid q hq
              exact ⟨a, b, d, fun hm => ⟨(e hm).1, by simp [(e hm).2]⟩⟩
          · simp only [List.map_cons, List.nodup_cons]
            refine ⟨fun hm => ?_, c.hnd⟩
            obtain ⟨q, hq, e⟩ := List.mem_map.1 hm
            obtain ⟨a, b, d, f⟩ := c.hid q hq
            rw [e] at d f
            cases hv : m q.i with
            | none => have := (f hv).2; rw [hr] at this; cases this
            | some v => exact d v hv hp
          · simp only [List.map_cons, List.nodup_cons]
            refine ⟨fun hm => ?_, c.hni⟩
            obtain ⟨q, hq, e⟩ := List.mem_map.1 hm
            exact hno q hq e
          · rw [hpL_no (q := ⟨i, th.nx, ob⟩) hmi]
            refine Rep.hpm (E := E) ?_ le.p
            refine ⟨?_, fun j hj => ?_, c.rep.eh⟩
            · exact ⟨c.rep.st.1, Sep.imps (fun x S => part_mono le.p) c.rep.st.2⟩
            · obtain ⟨a, b⟩ := c.rep.fr j (Nat.le_of_succ_le hj)
              refine ⟨a, ?_⟩
              have : j ≠ th.nx := fun e => by rw [e] at hj; exact Nat.not_succ_le_self _ hj
              simp [this, b]
    · exact ⟨_, _, _, _, _, _, _, _, _, .inr ⟨k, i, S, rfl, hk⟩, c⟩

theorem map_inj_nd {α β : Type} {f : α → β} : ∀ {l : List α}, (l.map f).Nodup → ∀ {a b : α}, a ∈ l → b ∈ l → f a = f b → a = b
  | [], _, _, _, h, _, _ => by cases h
  | x :: l, hn, a, b, ha, hb, e => by
    simp only [List.map_cons, List.nodup_cons] at hn
    rcases List.mem_cons.1 ha with ea | ha'
    · rcases List.mem_cons.1 hb with eb | hb'
      · rw [ea, eb]
      · exact absurd (List.mem_map.2 ⟨b, hb', by rw [← ea]; exact e.symm⟩) hn.1
    · rcases List.mem_cons.1 hb with eb | hb'
      · exact absurd (List.mem_map.2 ⟨a, ha', by rw [← eb]; exact e⟩) hn.1
      · exact map_inj_nd hn.2 ha' hb' e
/-! ### One runs -/
theorem com_skip [Gd] {Q : Exit → Act → World → Prop} {A : Vals → Heap → Prop} {i : Nat} {o : Oper} {g : Nat → Value} {w0 w : World} (hi : ops[i]? = some o) (hg : Region.wanted o (yielded ops (mk n g).tmps) = false) (hS : SameW w0 w) (k : A (setm m i undef) w.heap) :
    wpOp P ops Q i (fun a' w' => ∃ v, a' = (mk n g).put o.dst v ∧ SameW w0 w' ∧ A (setm m i v) w'.heap) (mk n g) w := by
  unfold wpOp
  simp only [hi]
  rw [if_neg (by simp [hg])]
  exact ⟨undef, rfl, hS, k⟩
theorem com_q [Gd] {Q : Exit → Act → World → Prop} {A : Vals → Heap → Prop} {i : Nat} {o : Oper} {g : Nat → Value} {w0 w : World} {K : Value → Prop} (hi : ops[i]? = some o) (hs : Sq P (Eq w.heap) (execOp (evf n g) o) K) (hg : Region.wanted o (yielded ops (mk n g).tmps) = true) (hS : SameW w0 w)
    (k : ∀ v, K v → A (setm m i v) w.heap) : wpOp P ops Q i (fun a' w' => ∃ v, a' = (mk n g).put o.dst v ∧ SameW w0 w' ∧ A (setm m i v) w'.heap) (mk n g) w := by
  obtain ⟨v, hr, hk⟩ := hs
  unfold wpOp
  simp only [hi]
  rw [if_pos hg]
  refine .inl ?_
  unfold Oper.wp
  rw [mk_eval, hr w rfl]
  exact ⟨v, rfl, hS, k v hk⟩
theorem com_x [Gd] {Q : Exit → Act → World → Prop} {A : Vals → Heap → Prop} {i : Nat} {o : Oper} {g : Nat → Value} {w0 w : World} {K : Value → Heap → Prop} (hp : PnOk [] Q w0 (fun _ _ => True)) (hi : ops[i]? = some o) (hs : Sx P (execOp (evf n g) o) w.heap K) (hg : Region.wanted o (yielded ops (mk n g).tmps) = true) (hS : SameW w0 w)
    (k : ∀ v h', K v h' → A (setm m i v) h') : wpOp P ops Q i (fun a' w' => ∃ v, a' = (mk n g).put o.dst v ∧ SameW w0 w' ∧ A (setm m i v) w'.heap) (mk n g) w := by
  unfold wpOp
  simp only [hi]
  rw [if_pos hg]
  refine .inl ?_
  unfold Oper.wp
  rw [mk_eval]
  exact upon_of_next (hs w rfl) (fun v w' h1 h2 => ⟨v, rfl, hS.trans h1, k v _ h2⟩) rfl hp hS trivial
/-- An effect is done. -/
theorem CI.eff {k i : Nat} {o : Oper} {co : CO} (c : CI P cl n ops hd fr0 E0 h0 L K m h ((k, i) :: S) R seen fr th hs ps E val) (ho : ops[i]? = some o) (ok : COk P n ops o co) {y : FV} {v : Value} {th' : TH} {F : Env} {h' : Heap} {R' : List RE}
    (hR : cREL P n ops S = some R') (hdep : ∀ j ∈ depsAt ops i, (m j).isSome) (hle : E.Le F) (hy : den F y = some v) (rep : Rep F th' h0 h' (hpL m E (keepH (depsOf o) hs) ++ L)) (rc : ∀ p ∈ dropP (depsOf o) ps, rdT p.fr p.c.m = true → gst p.fr p.c.g = .go → evQ p.fr (relH p.dq th'.t (keepH (depsOf o) hs)) p.c.m = some p.x)
    (run : evR cl R' (putO fr co.dst y) th' (keepH (depsOf o) hs) (dropP (depsOf o) ps) K) :
    CI P cl n ops hd fr0 E0 h0 L K (setm m i v) h' S R' (i :: seen) (putO fr co.dst y) th' (keepH (depsOf o) hs) (dropP (depsOf o) ps) F (setv val i y) := by
  obtain ⟨hi, hvi, hmi, hlt⟩ := c.fresh
  obtain ⟨o1, o2, o3⟩ := okOrd_cons c.ord
  have nd := c.nd
  simp only [List.map_cons, List.nodup_cons] at nd
  have ne : ∀ {j}, j ∈ seen → j ≠ i := fun hj e => hi (e ▸ hj)
  have hno : ∀ q ∈ keepH (depsOf o) hs, q.i ≠ i := fun q hq => ne (c.hin q (keepH_mem.1 hq).1)
  have hsm : ∀ {j}, (m j).isSome → (setm m i v j).isSome := fun {j} h => by
    by_cases e : j = i
    · subst e; rw [setm_eq]; rfl
    · rw [setm_ne e]; exact h
  exact
  { run := run, hR := hR, ord := o3, nd := nd.2, le := c.le.trans hle
    hnd := c.hnd.sublist (keepH_sub.map _)
    hni := c.hni.sublist (keepH_sub.map _)
    hid := fun q hq => by
      obtain ⟨a, b, d, e⟩ := c.hid q (keepH_mem.1 hq).1
      rw [setm_ne (hno q hq)]
      refine ⟨a, b, fun u hu => ?_, fun hm => ?_⟩
      · cases hp : E.p q.id with
        | none => exact absurd hp (d u hu)
        | some z => rw [(hle.p.a _ _ hp).1]; exact fun e => by cases e
      · obtain ⟨h1, h2⟩ := e hm
        obtain ⟨h3, h4⟩ := hle.r _ h2
        exact ⟨by rw [h3]; exact h1, h4⟩
    rep := by rw [hpL_set hno]; exact rep.hpm hle.p
    clo := fun j u hj z hz => by
      by_cases e : j = i
      · subst e; exact hsm (hdep z hz)
      · rw [setm_ne e] at hj; exact hsm (c.clo j u hj z hz)
    all := fun j hj => by
      rcases c.all j hj with a | a
      · exact .inl (.tail _ a)
      · rcases List.mem_cons.1 a with rfl | a
        · exact .inl (.head _)
        · exact .inr a
    lt := fun j hj => c.lt j (.tail _ hj)
    slt := fun j hj => by
      rcases List.mem_cons.1 hj with rfl | hj
      · exact hlt
      · exact c.slt j hj
    sd := fun j hj u hu => by
      rcases List.mem_cons.1 hj with rfl | hj
      · exact .tail _ (o1 u hu)
      · exact .tail _ (c.sd j hj u hu)
    ts := fun j hj => c.ts j (.tail _ hj)
    disj := fun j hj hs => by
      rcases List.mem_cons.1 hs with rfl | hs
      · exact nd.1 hj
      · exact c.disj j (.tail _ hj) hs
    vs := fun j hj => by
      rcases List.mem_cons.1 hj with rfl | hj
      · rw [setv_eq]; exact fun e => by cases e
      · rw [setv_ne (ne hj)]; exact c.vs j hj
    vn := fun j hj => by
      rw [setv_ne fun e => hj (by rw [e]; exact .head _)]; exact c.vn j fun h => hj (.tail _ h)
    don := fun j u hj => by
      by_cases e : j = i
      · subst e; rw [setm_eq] at hj; simp only [Option.some.injEq] at hj; subst hj; exact ⟨.head _, y, setv_eq _ _ _, hy⟩
      · rw [setm_ne e] at hj
        obtain ⟨a, z, b, d⟩ := c.don j u hj
        exact ⟨.tail _ a, z, setv_some hvi b, den_mono hle d⟩
    frm := by rw [ok.d]; exact c.frmN ho y
    cov := fun j hj hm => by
      have e : j ≠ i := fun e => by rw [e, setm_eq] at hm; cases hm
      rw [setm_ne e] at hm
      rcases List.mem_cons.1 hj with a | hj
      · exact absurd a e
      · obtain ⟨p, a, b⟩ := c.cov j hj hm
        refine ⟨p, dropP_mem.2 ⟨a, ?_⟩, b⟩
        cases hmm : memN p.i (depsOf o) with
        | false => rfl
        | true =>
          have := hdep p.i (by rw [depsAt_eq ho]; exact memN_iff.1 hmm)
          rw [b, hm] at this; cases this
    pok := fun p hp hm => by
      obtain ⟨hp1, hp2⟩ := dropP_mem.1 hp
      have e := ne (c.pin p hp1)
      rw [setm_ne e] at hm
      obtain ⟨a, b, d⟩ := c.pok p hp1 hm
      refine ⟨a, b.ext hvi, d.ext hvi e (fun x hg hx hxp => ?_) (fun q hq => .inl (keepH_mem.1 hq).1) fun q hq hqi => keepH_mem.2 ⟨hq, by rw [hqi]; exact hp2⟩⟩
      cases hl : rdT p.fr p.c.m with
      | false => rw [evQ_rd hl (th' := relH p.dq th.t hs)]; exact hx
      | true => rw [hxp]; exact rc p hp hl hg
    pin := fun p hp => .tail _ (c.pin p (dropP_mem.1 hp).1)
    pan := fun p hp => c.pan p (dropP_mem.1 hp).1
    hin := fun q hq => .tail _ (c.hin q (keepH_mem.1 hq).1) }
def CA (P : Program) (cl : Cl) (n : Nat) (ops : Array Oper) (hd : Nat) (fr0 : Fr) (E0 : Env) (h0 : Heap) (L : List HP) (K : KF) (m : Vals) (h : Heap) : Prop :=
  (∀ j, hd ≤ j → m j = none) ∧ ∃ S R seen fr th hs ps E val, (S = [] ∨ ∃ k i r, S = (k, i) :: r ∧ 2 ≤ k) ∧ CI P cl n ops hd fr0 E0 h0 L K m h S R seen fr th hs ps E val
theorem CI.ca (c : CI P cl n ops hd fr0 E0 h0 L K m h S R seen fr th hs ps E val) (hm : ∀ j, hd ≤ j → m j = none) : CA P cl n ops hd fr0 E0 h0 L K m h := ⟨hm, c.norm⟩
theorem setm_hd {i : Nat} {v : Value} (hm : ∀ j, hd ≤ j → m j = none) (hi : i < hd) : ∀ j, hd ≤ j → setm m i v j = none := fun j hj => by
  rw [setm_ne (by omega)]; exact hm j hj
theorem alF_no {fr : Fr} {c : MOp} {p : FV × TO} (h : alF fr c = some p) : c ≠ .no := fun e => by rw [e] at h; cases h
theorem anc_done {ops : Array Oper} {m : Vals} (clo : ∀ i v, m i = some v → ∀ j ∈ depsAt ops i, (m j).isSome) {i j : Nat} (hd : ∀ j ∈ depsAt ops i, (m j).isSome) (h : Anc ops i j) : (m j).isSome := by
  induction h with
  | one h => exact hd _ h
  | more h _ ih =>
    obtain ⟨v, hv⟩ := Option.isSome_iff_exists.1 (hd _ h)
    exact ih (clo _ v hv)
theorem ca_step [Gd] (hcl : ClOk P cl) {Q : Exit → Act → World → Prop} {w0 : World} (hp : PnOk [] Q w0 (fun _ _ => True)) (hdst : ∀ (j : Nat) (o : Oper) (d : Nat), ops[j]? = some o → o.dst = some d → d < n) (ha0 : AgF E0 n fr0 f0)
    {i : Nat} {o : Oper} {g : Nat → Value} {w : World} (ho : ops[i]? = some o) (hi : i < hd) (hag : Agr ops f0 m g) (ca : CA P cl n ops hd fr0 E0 h0 L K m w.heap) (hS : SameW w0 w) (hmi : m i = none) (hdep : ∀ j ∈ depsOf o, (m j).isSome) :
    wpOp P ops Q i (fun a' w' => ∃ v, a' = (mk n g).put o.dst v ∧ SameW w0 w' ∧ CA P cl n ops hd fr0 E0 h0 L K (setm m i v) w'.heap) (mk n g) w := by
  obtain ⟨hmh, S, R, seen, fr, th, hs, ps, E, val, hS0, c⟩ := ca
  have hdep' : ∀ j ∈ depsAt ops i, (m j).isSome := by rw [depsAt_eq ho]; exact hdep
  rcases c.all i hi with hin | hin
  · obtain ⟨p, hpm, hpi⟩ := c.cov i hin hmi
    obtain ⟨⟨o', h1, ok⟩, fo, pe⟩ := c.pok p hpm (by rw [hpi]; exact hmi)
    rw [hpi] at h1 fo
    rw [ho] at h1; simp only [Option.some.injEq] at h1; subst h1
    have ag := frOk_ag c hag ha0 hdst hmh fo hmi hdep'
    cases pe with
    | skip hg hv hno =>
      rw [hpi] at hv hno
      exact com_skip ho (gst_skip ok ag hg) hS ((c.set0 (v := undef) hin hmi hdep' hv (den_und E) hno).ca (setm_hd hmh hi))
    | go y hg hx hv hy hno =>
      rw [hpi] at hv hno
      have rr := relH_ok (dp := p.dq) c.rep fun q hq hm => by
        have ha := c.pan p hpm q.i (memN_iff.1 hm)
        rw [hpi] at ha
        exact anc_done c.clo hdep' ha
      exact com_q ho (quiet_sq rr ag ok hx hy.1) (gst_go ok ag hg) hS fun v hv' => (c.set0 hin hmi hdep' hv (hy.2 E v hv') hno).ca (setm_hd hmh hi)
    | al q x hg hq hqi hx hv =>
      rw [hpi] at hv hqi
      refine com_x hp ho (al_ok hcl c.rep ag (ok.m (alF_no hx)) hx) (gst_go ok ag hg) hS fun v h' ⟨a, cc, zz, hpost⟩ => ?_
      obtain ⟨q1, q2, q3, q4⟩ := c.hid q hq
      obtain ⟨q5, q6⟩ := q4 (by rw [hqi]; exact hmi)
      have hnx : ∀ j, th.nx ≤ j → j ≠ q.id := fun j hj e => by
        have := (c.rep.fr j hj).2
        rw [e, q6] at this; cases this
      obtain ⟨g1, g2, g3⟩ := hpost q.id q5 hnx
      refine (c.set (F := ⟨fun j => if j = q.id then some a else E.p j, fun j => if j = q.id then cc else E.c j, fun j => if j = q.id then false else E.r j, E.h, zz, E.s⟩) hin hmi hdep' hv g2 g1 (fun z hz => ?_) ⟨c.le.p.trans g1, fun j hj => ?_⟩ ?_).ca (setm_hd hmh hi)
      · obtain ⟨z1, z2, z3, z4⟩ := c.hid z hz
        refine ⟨z1, z2, fun u hu => ?_, fun hm => ?_⟩
        · by_cases e : z.id = q.id
          · simp [e]
          · by_cases e2 : z.i = i
            · exact absurd (by
                have := map_inj_nd c.hni hz hq (e2.trans hqi.symm)
                rw [this]) e
            · rw [setm_ne e2] at hu
              simpa [e] using z3 u hu
        · have e2 : z.i ≠ i := fun e => by rw [e, setm_eq] at hm; cases hm
          rw [setm_ne e2] at hm
          have e : z.id ≠ q.id := fun e => e2 (by
            have := map_inj_nd c.hnd hz hq e
            rw [this]; exact hqi)
          simpa [e] using z4 hm
      · obtain ⟨r1, r2⟩ := c.le.r j hj
        have : j ≠ q.id := fun e => by rw [e, q2] at hj; cases hj
        simp [this, r1, r2]
      · have pm := hpL_new (m := m) (E := E) (v := v) (q := q) (by rw [hqi]; exact hmi) hq c.hni
        rw [hqi] at pm
        have pm2 := hpL_new (m := m) (E := (⟨fun j => if j = q.id then some a else E.p j, fun j => if j = q.id then cc else E.c j, fun j => if j = q.id then false else E.r j, E.h, zz, E.s⟩ : Env)) (v := v) (q := q) (by rw [hqi]; exact hmi) hq c.hni
        rw [hqi] at pm2
        have g4 := g3.permL (List.perm_middle (l₁ := hpL m E hs) (l₂ := L)).symm
        have g5 := (Rep.hpm (L := part _ (q.id, q.o) :: L) g4 g1).permL List.perm_middle
        exact g5.permL (pm2.append_right L).symm
  · rcases hS0 with rfl | ⟨k, i', r, rfl, hk⟩
    · cases hin
    · rcases List.mem_cons.1 hin with e | hin
      · have e : i = i' := e
        subst e
        obtain ⟨e, R', h1, h2, rfl⟩ := cREL_cons c.hR
        obtain ⟨o', co, ho', ok, h3⟩ := cRE_ok h1
        rw [ho] at ho'; simp only [Option.some.injEq] at ho'; subst ho'
        rcases h3 with ⟨rfl, _⟩ | ⟨rfl, _⟩ | ⟨_, rfl⟩
        · omega
        · omega
        · have run := c.run
          simp only [evR] at run
          have ag := frOk_ag c hag ha0 hdst hmh (c.frOk ho) hmi hdep'
          have rr := relH_ok (dp := depsOf o) c.rep fun q hq hm => hdep q.i (memN_iff.1 hm)
          cases hg : gst (pickF fr (tsOf ops o)) co.g with
          | bad => rw [hg] at run; exact run.elim
          | skip =>
            rw [hg] at run
            simp only at run
            obtain ⟨hrc, run⟩ := recheck_ok run
            exact com_skip ho (gst_skip ok ag hg) hS ((c.eff ho ok h2 hdep' (Env.Le.refl E) (den_und E) rr hrc run).ca (setm_hd hmh hi))
          | go =>
            rw [hg] at run
            simp only at run
            refine com_x hp ho (evX_ok hcl rr ag.ago (ok.m (evX_no run)) run) (gst_go ok ag hg) hS fun v h' ⟨F, y, th', g1, g2, g3, g4⟩ => ?_
            obtain ⟨hrc, g5⟩ := recheck_ok g4
            exact (c.eff ho ok h2 hdep' g1 g2 g3 hrc g5).ca (setm_hd hmh hi)
      · obtain ⟨q, hq, e⟩ := List.mem_map.1 hin
        obtain ⟨j, hj, hj2⟩ := (okOrd_cons c.ord).2.1 hk q hq
        rw [e] at hj
        obtain ⟨v, hv⟩ := Option.isSome_iff_exists.1 (hdep' j hj)
        have hjs := (c.don j v hv).1
        refine absurd hjs (c.disj j ?_)
        rcases hj2 with rfl | hj2
        · exact .head _
        · exact .tail _ hj2

/-! ### The whole -/
theorem nd_le : ∀ {n : Nat} {l : List Nat}, l.Nodup → (∀ i ∈ l, i < n) → l.length ≤ n
  | 0, [], _, _ => Nat.le_refl _
  | 0, x :: _, _, h => absurd (h x (.head _)) (Nat.not_lt_zero _)
  | n + 1, l, hd, h => by
    by_cases hm : n ∈ l
    · have := nd_le (n := n) (hd.erase n) fun i hi => by
        have h1 := (List.Nodup.mem_erase_iff hd).1 hi
        have := h i h1.2
        have := h1.1
        omega
      rw [List.length_erase_of_mem hm] at this
      omega
    · have := nd_le (n := n) hd fun i hi => by
        have := h i hi
        have : i ≠ n := fun e => hm (e ▸ hi)
        omega
      omega
theorem nd_all {n : Nat} {l : List Nat} (hd : l.Nodup) (h : ∀ i ∈ l, i < n) (hl : l.length = n) {i : Nat} (hi : i < n) : i ∈ l := by
  by_cases hm : i ∈ l
  · exact hm
  · have := nd_le (n := n) (l := i :: l) (List.nodup_cons.2 ⟨hm, hd⟩) fun j hj => by
      rcases List.mem_cons.1 hj with rfl | hj
      · exact hi
      · exact h j hj
    simp only [List.length_cons] at this
    omega
theorem nodupN_ok : ∀ {l : List Nat}, nodupN l = true → l.Nodup
  | [], _ => List.nodup_nil
  | i :: r, h => by
    simp only [nodupN, Bool.and_eq_true, Bool.not_eq_true'] at h
    exact List.nodup_cons.2 ⟨memN_not h.1, nodupN_ok h.2⟩
theorem cREL_mem : ∀ {S : List (Nat × Nat)} {R : List RE}, cREL P n ops S = some R → ∀ p ∈ S, ∃ o co, ops[p.2]? = some o ∧ COk P n ops o co
  | [], _, _, p, hp => by cases hp
  | q :: S, R, h, p, hp => by
    obtain ⟨c, l, h1, h2, rfl⟩ := cREL_cons h
    rcases List.mem_cons.1 hp with rfl | hp
    · obtain ⟨o, co, a, b, _⟩ := cRE_ok h1
      exact ⟨o, co, a, b⟩
    · exact cREL_mem h2 p hp
theorem cOL_mem : ∀ {l : List Oper} {cs : List CO}, cOL P n ops l = some cs → ∀ o ∈ l, ∃ co, COk P n ops o co
  | [], _, _, o, ho => by cases ho
  | q :: l, cs, h, o, ho => by
    obtain ⟨c, l', h1, h2, rfl⟩ := cOL_cons h
    rcases List.mem_cons.1 ho with rfl | ho
    · exact ⟨c, cO_ok h1⟩
    · exact cOL_mem h2 o ho
theorem com_ok [Gd] {cl : Cl} (hcl : ClOk P cl) {n : Nat} {h0 : Heap} {L : List HP} {w0 : World} {id : Nat} {ops : Array Oper} {p : RP} {l : List RE} {r2 : List CO} (hm : P.follows .mixedOrders = true) (hok : okPlan ops p = true) (h1 : cREL P n ops p.ord = some l) (h2 : cOL P n ops (ops.toList.drop p.hd) = some r2)
    {fr : Fr} {th : TH} {kN : KF} {E : Env} {f : Nat → Value} {w : World} {Q : Exit → Act → World → Prop} (hx : evR cl l fr th [] [] fun fr th => evS r2 cl fr th kN) (ha : AgF E n fr f) (r : Rep E th h0 w.heap L) (hs : SameW w0 w) (hp : PnOk [] Q w0 (fun _ _ => True)) (hpk : PanicOk Q) (hN : KT0 n h0 L w0 E kN (Q .normal)) :
    (Code.region id ops true).wp P Q (mk n f) w := by
  obtain ⟨os⟩ := ops
  simp only [okPlan, Bool.and_eq_true] at hok
  obtain ⟨⟨⟨⟨⟨k1, k2⟩, k3⟩, k4⟩, k5⟩, k6⟩ := hok
  have k2 := beq_t k2
  have k3 := nodupN_ok k3
  have k4 : ∀ i ∈ p.ord.map (·.2), i < p.hd := fun i hi => by
    obtain ⟨q, hq, rfl⟩ := List.mem_map.1 hi
    exact blt_t (List.all_eq_true.1 k4 q hq)
  have k7 : ∀ i, i < p.hd → i ∈ p.ord.map (·.2) := fun i hi => nd_all k3 k4 (by rw [List.length_map]; exact k2) hi
  have hdst : ∀ (j : Nat) (o : Oper) (d : Nat), (Array.mk os)[j]? = some o → o.dst = some d → d < n := fun j o d ho hd => by
    rcases Nat.lt_or_ge j p.hd with hj | hj
    · obtain ⟨q, hq, rfl⟩ := List.mem_map.1 (k7 j hj)
      obtain ⟨o', co, a, b⟩ := cREL_mem h1 q hq
      rw [ho] at a; simp only [Option.some.injEq] at a; subst a
      exact b.lt d hd
    · have : o ∈ os.drop p.hd := by
        refine List.mem_of_getElem? (i := j - p.hd) ?_
        rw [List.getElem?_drop, show p.hd + (j - p.hd) = j by omega]
        simpa using ho
      obtain ⟨co, b⟩ := cOL_mem h2 o this
      exact b.lt d hd
  have ci : CI P cl n (Array.mk os) p.hd fr E h0 L (fun fr th => evS r2 cl fr th kN) (fun _ => none) w.heap p.ord l [] fr th [] [] E (fun _ => none) :=
    { run := hx, hR := h1, ord := k5, nd := k3, le := Env.Le.refl E, rep := r, lt := k4
      all := fun i hi => .inr (k7 i hi)
      slt := fun _ h => by cases h
      sd := fun _ h => by cases h
      ts := fun i hi => by
        obtain ⟨q, hq, rfl⟩ := List.mem_map.1 hi
        exact List.all_eq_true.1 k6 q hq
      disj := fun _ _ h => by cases h
      vs := fun _ h => by cases h
      vn := fun _ _ => rfl
      don := fun _ _ h => by cases h
      clo := fun _ _ h => by cases h
      frm := fun t x hx => .inr ⟨hx, fun _ _ h => by cases h⟩
      cov := fun _ h => by cases h
      pok := fun _ h => by cases h
      pin := fun _ h => by cases h
      pan := fun _ h => by cases h
      hin := fun _ h => by cases h
      hid := fun _ h => by cases h
      hnd := List.nodup_nil
      hni := List.nodup_nil }
  refine region_com (Q := Q) (l := os) p.hd hm k1 ?_ (A := CA P cl n (Array.mk os) p.hd fr E h0 L (fun fr th => evS r2 cl fr th kN)) (ci.ca fun _ _ => rfl) ?_ ?_
  · refine List.all_eq_true.2 fun o ho => ?_
    obtain ⟨j, hj, e⟩ := List.getElem_of_mem ho
    cases hd : o.dst with
    | none => rfl
    | some d =>
      simp only [decide_eq_true_eq]
      exact hdst j o d (by rw [← e]; simp [hj]) hd
  · intro i o ho hi m g w' hag hA hS hmi hdep
    have := ca_step hcl (w0 := w) ⟨fun x n f w' hA h hg => hp.pn x n f w' hA (hs.trans h) hg⟩ hdst ha (i := i) (o := o) (g := g) (w := w') (by simpa using ho) hi hag hA hS hmi hdep
    exact this
  · intro m g w' hall hag hA hS
    obtain ⟨hmh, S, R, seen, fr', th', hs', ps, F, val, hS0, c⟩ := hA
    have hSn : S = [] := by
      cases S with
      | nil => rfl
      | cons q S =>
        obtain ⟨v, hv⟩ := Option.isSome_iff_exists.1 (hall q.2 (c.lt q.2 (.head _)))
        exact absurd (c.don _ v hv).1 (c.disj q.2 (.head _))
    subst hSn
    have hR := c.hR
    simp only [cREL, Option.some.injEq] at hR; subst hR
    have run : evS r2 cl fr' ⟨allH th'.t hs', th'.nx, th'.scr⟩ kN := c.run
    have rep := allH_ok c.rep fun q hq => hall q.i (c.slt _ (c.hin q hq))
    have ag : AgF F n fr' g := fun t x hx => by
      rcases c.frm t x hx with ⟨j, o, a1, a2, a3, a4⟩ | ⟨a1, a2⟩
      · obtain ⟨v, hv⟩ := Option.isSome_iff_exists.1 (hall j (c.slt j a1))
        obtain ⟨_, y, b1, b2⟩ := c.don j v hv
        rw [a4] at b1; simp only [Option.some.injEq] at b1; subst b1
        exact ⟨hdst j o t a2 a3, by rw [hag.done j o t v a2 a3 hv]; exact b2⟩
      · obtain ⟨b1, b2⟩ := ha t x a1
        refine ⟨b1, ?_⟩
        rw [hag.rest t fun j o hj hd' => ?_]
        · exact den_mono c.le b2
        · rcases Nat.lt_or_ge j p.hd with hjd | hjd
          · rcases c.all j hjd with hjs | hjs
            · exact absurd hd' (a2 j o hjs hj)
            · cases hjs
          · exact hmh j hjd
    exact evS_ok hcl hp _ r2 fr' _ kN F g w' h2 run ag rep (hs.trans hS) fun G fr2 th2 f2 w2 b1 b2 b3 b4 b5 => hN G fr2 th2 f2 w2 (c.le.trans b1) b2 b3 b4 b5
end Go.Va
