/- Append over told values. No program. -/
import Derived.Test.YtfaieigeojiiiaaGreatVj
set_option linter.unusedVariables false
set_option linter.unusedSectionVars false
set_option linter.unusedSimpArgs false
namespace Go.Va
open Go Go.Sh
variable [Vb]
variable {P : Program}

theorem rd_cell {h : Heap} {a : Addr} {vs : List Value} (r : Rd h (.pointer (some a)) vs) : ∀ (j : Nat) (y : Value), vs[j]? = some y → cellAt h (a.add j) = some y := fun j y hy => by
  obtain ⟨a', ha', hc⟩ := r.at hy
  simp only [padd, Value.pointer.injEq, Option.some.injEq] at ha'
  rw [ha']; exact hc
/-- What is appended, as the model sees it. -/
structure App (E : Env) (h : Heap) (k m : Nat) (xs : List FV) (u : Value) (us : List Value) : Prop where
  sl : IsSl u m
  len : us.length = m * k
  den : denL E xs = some us
  one : xs.all oneF = true
  nz : 0 < m → ∃ a c, u = .slice (some a) m c
  rd : Rd h (sbase u) us
theorem lvs_all {E : Env} {cs : List LD} {ks : List CK} (h1 : wtL cs ks) (h2 : liesL E.rd cs ks) : denL E (lvs (.t cs) ks 0) = some (LD.vs ks cs) ∧ (lvs (.t cs) ks 0).all oneF = true := by
  obtain ⟨vs, e1, e2, e3, e4⟩ := lvs_den (E := E) (d := .t cs) rfl h1 h2 ks 0 (fun j k h => by simpa using h)
  have : vs = LD.vs ks cs := by
    have hl := (vs_len h1).1
    apply List.ext_getElem?
    intro j
    by_cases hj : j < ks.length
    · have h7 : vs[j]? = some vs[j] := List.getElem?_eq_getElem (by omega)
      have := e4 j _ h7
      rw [Nat.zero_add] at this
      rw [h7]; exact this.symm
    · rw [List.getElem?_eq_none (by omega), List.getElem?_eq_none (by omega)]
  exact ⟨by rw [e1, this], e2⟩
theorem dsC_den {E : Env} {ks : List CK} : ∀ {es : List LD}, wtE es ks → liesE E.rd es ks → denL E (dsC ks es) = some (LD.vsE ks es) ∧ (dsC ks es).all oneF = true
  | [], _, _ => ⟨rfl, rfl⟩
  | e :: es, h1, h2 => by
    simp only [wtE, liesE] at h1 h2
    have h3 := h1.1
    have h4 := h2.1
    cases e <;> simp only [wtT] at h3
    simp only [liesT] at h4
    obtain ⟨g1, g2⟩ := lvs_all h3 h4
    obtain ⟨g3, g4⟩ := dsC_den h1.2 h2.2
    refine ⟨?_, by simp only [dsC, List.all_append, g2, g4, Bool.and_self]⟩
    simp only [dsC, LD.vsE, List.flatMap_cons]
    exact denL_append g1 g3
theorem appC_ok {E : Env} {th : TH} {h0 h : Heap} {L : List HP} (r : Rep E th h0 h L) {k m : Nat} {x : FV} {u : Value} {xs : List FV} (hu : den E x = some u) (hx : appC th.t k x = some (m, xs)) : ∃ us, App E h k m xs u us := by
  cases x <;> try (simp [appC] at hx; done)
  case nsl =>
    simp only [appC, Option.some.injEq, Prod.mk.injEq] at hx
    obtain ⟨rfl, rfl⟩ := hx
    simp only [den, Option.some.injEq] at hu; subst hu
    exact ⟨[], ⟨⟨_, _, rfl⟩, by simp, rfl, rfl, fun h => by omega, .nil _ _⟩⟩
  case ds t d =>
    simp only [appC] at hx
    cases hl : lyG t with
    | none => rw [hl] at hx; cases hx
    | some ks =>
      rw [hl] at hx
      simp only at hx
      cases hb : Nat.beq k ks.length with
      | false => rw [hb] at hx; cases hx
      | true =>
        rw [hb] at hx
        simp only [cond_true, Option.some.injEq, Prod.mk.injEq] at hx
        obtain ⟨rfl, rfl⟩ := hx
        have ek := beq_t hb; subst ek
        obtain ⟨f, rfl⟩ := den_ds hu
        obtain ⟨f1, f2⟩ := f
        rcases d with x1 | x1 | x1 | _ | ⟨x1, x2⟩ | ⟨ad, cap, es⟩ | x1 <;> simp only [wt] at f1
        · exact ⟨[], ⟨⟨_, _, rfl⟩, by simp [LD.len, LD.es], rfl, rfl, fun h => by simp [LD.len, LD.es] at h, .nil _ _⟩⟩
        · simp only [lies] at f2
          rw [lyG_eq hl] at f1 f2
          obtain ⟨g1, g2⟩ := dsC_den f1.2.2.2 f2.2
          exact ⟨_, ⟨⟨_, _, rfl⟩, vsE_len f1.2.2.2, g1, g2, fun _ => ⟨_, _, rfl⟩, f2.1 h r.fz⟩⟩
  case sl j off offz len cap =>
    simp only [appC] at hx
    cases hb : Nat.beq len 0 with
    | true =>
      rw [hb] at hx
      simp only [cond_true, Option.some.injEq, Prod.mk.injEq] at hx
      obtain ⟨rfl, rfl⟩ := hx
      have := beq_t hb; subst this
      obtain ⟨a, c, _, rfl, _⟩ := den_sl hu
      exact ⟨[], ⟨⟨_, _, rfl⟩, by simp, rfl, rfl, fun h => by omega, .nil _ _⟩⟩
    | false =>
      rw [hb] at hx
      have hl := beq_f hb
      obtain ⟨a, c, hp, rfl⟩ := den_slp hu (by omega)
      simp only [cond_false] at hx
      have key : ∀ cs : List FV, (∃ a vs, E.p j = some a ∧ denL E cs = some vs ∧ cs.all oneF = true ∧ Rd h (.pointer (some a)) vs) → appG k off len cs = some (m, xs) → ∃ us, App E h k m xs (.slice (some (a.add off)) len c) us := by
        intro cs hr hx
        unfold appG at hx
        cases ht : takeF (len * k) (dropF off cs) with
        | none => rw [ht] at hx; cases hx
        | some l =>
          rw [ht] at hx
          simp only [Option.some.injEq, Prod.mk.injEq] at hx
          obtain ⟨rfl, rfl⟩ := hx
          obtain ⟨h5, h6⟩ := takeF_some ht
          rw [dropF_eq] at h5 h6
          obtain ⟨a', vs, h1, h2, h3, h4⟩ := hr
          rw [hp] at h1; simp only [Option.some.injEq] at h1; subst h1
          have h7 := denL_take (len * k) (denL_drop off h2)
          rw [← h5] at h7
          refine ⟨_, ⟨⟨_, _, rfl⟩, ?_, h7, by rw [h5]; exact all_take h3 _ _, fun _ => ⟨_, _, rfl⟩, ?_⟩⟩
          · have := denL_length h7
            rw [this, h5, List.length_take, Nat.min_eq_left h6]
          · have := (h4.drop off).take (len * k)
            exact this
      cases hg : th.t.get j with
      | none => rw [hg] at hx; cases hx
      | some ob =>
        rw [hg] at hx
        rcases ob with ⟨cs, kk⟩ | ⟨dd, mm⟩ | ⟨ii, cc, bb⟩ | ⟨rr⟩
        · exact key cs (r.read hg) hx
        · cases hx
        · cases hx
        · exact key rr (r.readR hg) hx
        · cases hx
theorem grownCap_le (w : World) (n old : Nat) (e : TypeId) : n ≤ grownCap w n old e := grownCap_ge w n old e
/-- It grows: a new block. -/
theorem app_grow [Gd] {E : Env} {th : TH} {h0 h : Heap} {L : List HP} (r : Rep E th h0 h L) {t e ty : TypeId} {i : TypeInfo} {z : Value} {k : Nat} (hu : P.underlying t = some (.slice e)) (hi : P.info? e = some i) (hz : i.zero = some z) (hk : i.size = k) (hzk : z.cells.size = k) (hk0 : 0 < k)
    {a : Addr} {len cap : Nat} {olds : List FV} {os : List Value} (hod : denL E olds = some os) (hoo : olds.all oneF = true) (hol : os.length = len * k) (hor : ∀ (j : Nat) (y : Value), os[j]? = some y → cellAt h (a.add j) = some y)
    {m : Nat} {xs : List FV} {u : Value} {us : List Value} (A : App E h k m xs u us) (hm : 0 < m) (hg : cap < len + m) (hb : (len + m) * i.bytes ≤ 140737488355328) (hb2 : len + m ≤ 4611686018427387904)
    {K : FV → TH → Prop} (kk : K (.sl th.nx 0 0 (len + m) (.hid 0)) (th.new (.cells (olds ++ xs) k))) : oAppend P #[t, t] ty #[.slice (some a) len cap, u] h (Post E h0 L K) := by
  intro w hw
  obtain ⟨xa, xc, rfl⟩ := A.nz hm
  have hr1 := run_append_grow (P := P) w t ty e i z hu hi hz a len cap os (by rw [hk]; exact hol) (fun j y hy => by rw [cell?_eq, hw]; exact hor j y hy) xa m xc us (by rw [hk]; exact A.len)
    (fun j y hy => by rw [cell?_eq, hw]; exact rd_cell A.rd j y hy) hg (by omega) (growslice_fits hg hb)
  rw [nv_run hr1]
  refine ⟨⟨rfl, rfl, rfl, fun _ => by first | exact Nat.le_refl _ | exact Nat.le_succ _ | exact Nat.le_add_right _ _⟩, ?_⟩
  show Post E h0 L K _ (w.heap.push _)
  have e1 : os.toArray ++ us.toArray ++ Builtin.zeroCells z.cells (grownCap w (len + m) cap e - (len + m)) = ((os ++ us) ++ (Builtin.zeroCells z.cells (grownCap w (len + m) cap e - (len + m))).toList).toArray := by
    apply Array.ext'; simp
  rw [e1, hw]
  have hge := grownCap_ge w (len + m) cap e
  refine push_hid r hk0 (denL_append hod A.den) (by simp [hoo, A.one]) ?_ hge kk
  rw [List.length_append, hol, A.len, Array.length_toList, zeroCells_size, hzk, ← Nat.add_mul, ← Nat.add_mul]
  congr 1; omega
theorem app_nil [Gd] {E : Env} {th : TH} {h0 h : Heap} {L : List HP} (r : Rep E th h0 h L) {t e ty : TypeId} {i : TypeInfo} {z : Value} {k : Nat} (hu : P.underlying t = some (.slice e)) (hi : P.info? e = some i) (hz : i.zero = some z) (hk : i.size = k) (hzk : z.cells.size = k) (hk0 : 0 < k)
    {m : Nat} {xs : List FV} {u : Value} {us : List Value} (A : App E h k m xs u us) (hm : 0 < m) (hb : m * i.bytes ≤ 140737488355328) (hb2 : m ≤ 4611686018427387904)
    {K : FV → TH → Prop} (kk : K (.sl th.nx 0 0 m (.hid 0)) (th.new (.cells xs k))) : oAppend P #[t, t] ty #[.slice none 0 0, u] h (Post E h0 L K) := by
  intro w hw
  obtain ⟨xa, xc, rfl⟩ := A.nz hm
  have hr1 := run_append_nil (P := P) w t ty e i z hu hi hz xa m xc us (by rw [hk]; exact A.len) (fun j y hy => by rw [cell?_eq, hw]; exact rd_cell A.rd j y hy) hm (by omega) (by omega)
  rw [nv_run hr1]
  refine ⟨⟨rfl, rfl, rfl, fun _ => by first | exact Nat.le_refl _ | exact Nat.le_succ _ | exact Nat.le_add_right _ _⟩, ?_⟩
  show Post E h0 L K _ (w.heap.push _)
  have e1 : us.toArray ++ Builtin.zeroCells z.cells (grownCap w m 0 e - m) = (us ++ (Builtin.zeroCells z.cells (grownCap w m 0 e - m)).toList).toArray := by
    apply Array.ext'; simp
  rw [e1, hw]
  have hge := grownCap_ge w m 0 e
  refine push_hid r hk0 A.den A.one ?_ hge kk
  rw [A.len, Array.length_toList, zeroCells_size, hzk, ← Nat.add_mul]
  congr 1; omega
/-- There is room. -/
theorem app_room [Gd] {h0 h : Heap} {L' : List HP} {t e ty : TypeId} {i : TypeInfo} {k : Nat} (hu : P.underlying t = some (.slice e)) (hi : P.info? e = some i) (hk : i.size = k)
    {a : Addr} {cs : List Value} (s : St h0 h (Cells (.pointer (some a)) cs :: L')) {E : Env} {off len cap m : Nat} {xs : List FV} {u : Value} {us : List Value} (A : App E h k m xs u us) (hfit : len + m ≤ cap) (hin : off + len * k + us.length ≤ cs.length)
    {K : Value → Heap → Prop} (g : ∀ h', St h0 h' (Cells (.pointer (some a)) (setAt cs (off + len * k) us) :: L') → K (.slice (some (a.add off)) (len + m) cap) h') : oAppend P #[t, t] ty #[.slice (some (a.add off)) len cap, u] h K := by
  intro w hw
  obtain ⟨xa, xc, rfl⟩ := id A.sl
  have h1 := denL_ones A.den A.one
  have hf : (Builtin.firstCells k m (.slice xa m xc)).run P w = .ok us.toArray w := run_first A.sl A.len (hw ▸ A.rd)
  obtain ⟨_, S, hA, hS, _⟩ := id s
  obtain ⟨bb, o, T, l, hp, hbk, hSb, hrun, hown⟩ := Cells.set (P := P) hA (fun b hb => (hS b hb).2) (off + len * k) us hin h1
  have ha : (a.add off).add (len * k) = ⟨bb, o, none⟩ := by
    rw [add_add]
    simpa [padd] using hp
  have hr1 : (Builtin.append_ #[t, t] ty #[.slice (some (a.add off)) len cap, .slice xa m xc]).run P w = .ok (.slice (some (a.add off)) (len + m) cap) { w with heap := setB h bb (.cells (setAt l.toList o us).toArray T (0, 0)) } := by
    have h2 := hrun w hw
    simp [Builtin.append_, run_underlying hu, sizeOf, typeInfo, hi, hk, Builtin.lenOf, hfit, hf, ha, h2]
  rw [nv_run hr1]
  refine ⟨⟨rfl, rfl, rfl, fun _ => by first | exact Nat.le_refl _ | exact Nat.le_succ _ | exact Nat.le_add_right _ _⟩, g _ ?_⟩
  refine St.step s fun S' hA' hS' => ?_
  obtain ⟨b', o', T', l', hp', hb', hSb', _, hown2⟩ := Cells.set (P := P) hA' (fun b hb => (hS' b hb).2) (off + len * k) us hin h1
  rw [hp] at hp'
  simp only [Value.pointer.injEq, Option.some.injEq, Addr.mk.injEq, and_true] at hp'
  obtain ⟨rfl, rfl⟩ := hp'
  rw [hbk] at hb'
  simp only [Option.some.injEq, Obj.cells.injEq, and_true] at hb'
  obtain ⟨rfl, rfl⟩ := hb'
  exact ⟨by rw [setB_size]; exact Nat.le_refl _, fun i _ hi => setB_ne (fun e => hi (e ▸ hSb')), S', hown2, fun i hi => .inl hi⟩
/-- Nothing is appended. -/
theorem app_zero [Gd] {E : Env} {th : TH} {h0 h : Heap} {L : List HP} (r : Rep E th h0 h L) {t e ty : TypeId} {i : TypeInfo} {k : Nat} (hu : P.underlying t = some (.slice e)) (hi : P.info? e = some i) (hk : i.size = k)
    {a : Option Addr} {len cap : Nat} {xs : List FV} {u : Value} {us : List Value} (A : App E h k 0 xs u us) (hle : len ≤ cap) {s : FV} (hs : den E s = some (.slice a len cap)) {K : FV → TH → Prop} (kk : K s th) : oAppend P #[t, t] ty #[.slice a len cap, u] h (Post E h0 L K) := by
  intro w hw
  obtain ⟨xa, xc, rfl⟩ := id A.sl
  have hus : us = [] := List.length_eq_zero_iff.1 (by rw [A.len]; omega)
  subst hus
  have hf : (Builtin.firstCells k 0 (.slice xa 0 xc)).run P w = .ok #[] w := run_first A.sl A.len (hw ▸ A.rd)
  have hr1 : (Builtin.append_ #[t, t] ty #[.slice a len cap, .slice xa 0 xc]).run P w = .ok (.slice a len cap) w := by
    cases a with
    | none => simp [Builtin.append_, run_underlying hu, sizeOf, typeInfo, hi, hk, Builtin.lenOf, hle, hf]
    | some a => simp [Builtin.append_, run_underlying hu, sizeOf, typeInfo, hi, hk, Builtin.lenOf, hle, hf, storeCells]
  rw [nv_run hr1]
  exact ⟨same_w, by rw [hw]; exact Post.same hs r kk⟩
end Go.Va
