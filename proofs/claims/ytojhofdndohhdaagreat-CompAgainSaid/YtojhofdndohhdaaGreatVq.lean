/- Structs held against one another. No program. -/
import Derived.Test.YtojhofdndohhdaaGreatVh
set_option linter.unusedVariables false
set_option linter.unusedSectionVars false
set_option linter.unusedSimpArgs false
namespace Go.Va
open Go Go.Sh
variable [Vb]
variable {P : Program}

theorem den_agg {E : Env} {cs : List FV} {v : Value} (h : den E (.agg cs) = some v) : ∃ vs, denL E cs = some vs ∧ cs.all oneF = true ∧ v = .agg vs.toArray := by
  simp only [den] at h
  cases hd : denL E cs with
  | none => rw [hd] at h; cases h
  | some vs =>
    rw [hd] at h
    simp only at h
    by_cases ho : cs.all oneF = true
    · rw [if_pos ho] at h; simp only [Option.some.injEq] at h; exact ⟨vs, rfl, ho, h.symm⟩
    · rw [if_neg ho] at h; cases h
theorem part_ok {E : Env} {t : TypeId} {k off : Nat} {b : Bool} (hk : szO P t = some k) (hb : agO P t = some b) {x y : FV} {v : Value} (hv : den E x = some v) (hx : fldF off k b x = some y) :
    ∃ cs u, v = .agg cs ∧ den E y = some u ∧ ∀ w, (Go.part t cs off).run P w = .ok u w := by
  cases x <;> try (simp [fldF] at hx; done)
  rename_i cs
  obtain ⟨vs, hd, ho, rfl⟩ := den_agg hv
  simp only [fldF] at hx
  haveI ia := agO_run hb
  haveI is := szO_run hk
  cases b with
  | true =>
    simp only at hx
    cases ht : takeF k (dropF off cs) with
    | none => rw [ht] at hx; cases hx
    | some l =>
      rw [ht] at hx; simp only [Option.some.injEq] at hx; subst hx
      obtain ⟨h5, h6⟩ := takeF_some ht
      rw [dropF_eq] at h5 h6
      have h7 := denL_take k (denL_drop off hd)
      rw [← h5] at h7
      refine ⟨_, .agg ((vs.drop off).take k).toArray, rfl, by simp only [den, h7]; rw [if_pos (by rw [h5]; exact all_take ho _ _)], fun w => ?_⟩
      simp only [Go.part]
      rw [Sem.run_bind, ia.run, Result.andThen_ok, if_pos rfl, Sem.run_bind, is.run, Result.andThen_ok]
      have : vs.toArray.extract off (off + k) = ((vs.drop off).take k).toArray := by
        apply Array.ext'
        simp
      rw [this]; rfl
  | false =>
    simp only at hx
    obtain ⟨u, h5, h6⟩ := denL_get hd (hd?_some hx)
    refine ⟨_, u, rfl, h6, fun w => ?_⟩
    simp only [Go.part]
    rw [Sem.run_bind, ia.run, Result.andThen_ok, if_neg (by simp)]
    have : vs.toArray[off]? = some u := by simpa using h5
    rw [this]; rfl
theorem andF_ok {E : Env} {x y r : FV} {a b : Bool} (hx : den E x = some (.bool a)) (hy : den E y = some (.bool b)) (h : andF x y = some r) : den E r = some (.bool (a && b)) := by
  cases x <;> simp only [andF] at h <;> try (cases h; done)
  case bool c =>
    simp only [den, Option.some.injEq, Value.bool.injEq] at hx; subst hx
    cases c with
    | true => simp only [Option.some.injEq] at h; subst h; simpa using hy
    | false => simp only [Option.some.injEq] at h; subst h; rfl
  case sb c =>
    simp only [den, Option.some.injEq, Value.bool.injEq] at hx; subst hx
    cases y <;> simp only at h <;> try (cases h; done)
    · rename_i d
      simp only [den, Option.some.injEq, Value.bool.injEq] at hy; subst hy
      cases d <;> simp only [Option.some.injEq] at h <;> subst h <;> simp [den]
    · simp only [Option.some.injEq] at h; subst h
      simp only [den, Option.some.injEq, Value.bool.injEq] at hy; subst hy; rfl
theorem eqI_ok {E : Env} {m : Nat} {t : TypeId} {k0 : IntKind} {x y r : FV} {u v : Value} (ht : P.underlying t = some (.int k0)) (hx : den E x = some u) (hy : den E y = some v) (h : eqI x y = some r) :
    ∃ b, den E r = some (.bool b) ∧ ∀ w, (Op.equalIn (m + 1) t u v).run P w = .ok b w := by
  have key : ∀ k a k' b, u = .int k a → v = .int k' b → keq k k' = true → ∀ w, (Op.equalIn (m + 1) t u v).run P w = .ok (decide (a = b)) w := fun k a k' b e1 e2 e3 w => by
    have := keq_t e3
    subst e1 e2 this
    rw [run_equalIn_int w m t k k0 a b ht]
    congr 1
  have zz : eqZ x y = some r → ∃ b, den E r = some (.bool b) ∧ ∀ w, (Op.equalIn (m + 1) t u v).run P w = .ok b w := fun h => by
    unfold eqZ at h
    cases hi : zbn x with
    | none => rw [hi] at h; cases h
    | some p =>
      obtain ⟨k, a, la, ha⟩ := p
      cases hj : zbn y with
      | none => rw [hi, hj] at h; cases h
      | some q =>
        obtain ⟨k', b, lb, hb⟩ := q
        rw [hi, hj] at h
        simp only at h
        cases hk : keq k k' with
        | false => rw [hk] at h; cases h
        | true =>
          rw [hk] at h
          simp only [cond_true] at h
          obtain ⟨g1, g2⟩ := zbn_den hi hx
          obtain ⟨g3, g4⟩ := zbn_den hj hy
          exact ⟨decide (a.ev = b.ev), binZ_eql g2 g4 h, key k _ k' _ g1 g3 hk⟩
  cases x with
  | int k a =>
    cases y with
    | int k' b =>
      simp only [eqI] at h
      simp only [den, Option.some.injEq] at hx hy
      cases hk : keq k k' with
      | false => rw [hk] at h; cases h
      | true =>
        rw [hk] at h
        simp only [cond_true, Option.some.injEq] at h
        subst h
        exact ⟨decide (a = b), by simp only [den, ieq_eq], key k a k' b hx.symm hy.symm hk⟩
    | _ => exact zz h
  | _ => exact zz h
theorem eqFs_ok {E : Env} {rc : TypeId → Option EqD} {m : Nat} (ih : ∀ {t : TypeId} {d : EqD} {x y r : FV} {u v : Value}, rc t = some d → den E x = some u → den E y = some v → eqDF d x y = some r → ∃ b, den E r = some (.bool b) ∧ ∀ w, (Op.equalIn m t u v).run P w = .ok b w) :
    ∀ {fs : List Field} {l : List (Nat × Nat × Bool × EqD)} {x y r : FV} {xs ys : Array Value}, eqFs P rc fs = some l → den E x = some (.agg xs) → den E y = some (.agg ys) → eqDL l x y = some r →
    ∃ b, den E r = some (.bool b) ∧ ∀ w, (Op.eqFields m xs ys fs).run P w = .ok b w
  | [], l, x, y, r, xs, ys, h, hx, hy, hr => by
    simp only [eqFs, Option.some.injEq] at h; subst h
    simp only [eqDL, Option.some.injEq] at hr; subst hr
    exact ⟨true, rfl, fun w => rfl⟩
  | f :: fs, l, x, y, r, xs, ys, h, hx, hy, hr => by
    simp only [eqFs] at h
    obtain ⟨k, hk, h⟩ := bind_some h
    obtain ⟨ab, hab, h⟩ := bind_some h
    obtain ⟨d, hd, h⟩ := bind_some h
    obtain ⟨l', hl', h⟩ := bind_some h
    split at h
    · cases h
    · rename_i hname
      simp only [Option.some.injEq] at h; subst h
      simp only [eqDL] at hr
      cases h1 : fldF f.offset k ab x with
      | none => rw [h1] at hr; cases hr
      | some a =>
        cases h2 : fldF f.offset k ab y with
        | none => rw [h1, h2] at hr; cases hr
        | some b =>
          rw [h1, h2] at hr
          simp only at hr
          obtain ⟨cs, u, e1, g1, g2⟩ := part_ok hk hab hx h1
          obtain ⟨cs', u', e2, g3, g4⟩ := part_ok hk hab hy h2
          simp only [Value.agg.injEq] at e1 e2
          subst e1 e2
          cases h3 : eqDF d a b with
          | none => rw [h3] at hr; cases hr
          | some c =>
            rw [h3] at hr
            simp only at hr
            obtain ⟨bb, i1, i2⟩ := ih hd g1 g3 h3
            have runs : ∀ w, (Op.eqFields m xs ys (f :: fs)).run P w = (if (!bb) = true then .ok false w else (Op.eqFields m xs ys fs).run P w) := fun w => by
              simp only [Op.eqFields]
              rw [if_pos hname, Sem.run_bind, g2, Result.andThen_ok, Sem.run_bind, g4, Result.andThen_ok, Sem.run_bind, i2, Result.andThen_ok]
              cases bb <;> rfl
            have gen : ∀ d', eqDL l' x y = some d' → andF c d' = some r → ∃ b, den E r = some (.bool b) ∧ ∀ w, (Op.eqFields m xs ys (f :: fs)).run P w = .ok b w := fun d' hd' hr' => by
              obtain ⟨b2, j1, j2⟩ := eqFs_ok ih hl' hx hy hd'
              refine ⟨bb && b2, andF_ok i1 j1 hr', fun w => ?_⟩
              rw [runs w]
              cases bb with
              | true => simp [j2 w]
              | false => simp
            have rest : ∀ c', c = c' → (match eqDL l' x y with | some d => andF c' d | none => none) = some r → ∃ b, den E r = some (.bool b) ∧ ∀ w, (Op.eqFields m xs ys (f :: fs)).run P w = .ok b w := fun c' e hr => by
              subst e
              cases h4 : eqDL l' x y with
              | none => rw [h4] at hr; cases hr
              | some d' => rw [h4] at hr; exact gen d' h4 hr
            cases c with
            | bool t =>
              simp only at hr
              simp only [den, Option.some.injEq, Value.bool.injEq] at i1; subst i1
              cases t with
              | true =>
                obtain ⟨b2, j1, j2⟩ := eqFs_ok ih hl' hx hy hr
                exact ⟨b2, j1, fun w => by rw [runs w]; simp [j2 w]⟩
              | false =>
                simp only [Option.some.injEq] at hr; subst hr
                exact ⟨false, rfl, fun w => by rw [runs w]; simp⟩
            | _ => exact rest _ rfl hr
theorem eqDT_ok {E : Env} : ∀ (n m : Nat) {t : TypeId} {d : EqD} {x y r : FV} {u v : Value}, eqDT P n t = some d → n ≤ m → den E x = some u → den E y = some v → eqDF d x y = some r →
    ∃ b, den E r = some (.bool b) ∧ ∀ w, (Op.equalIn m t u v).run P w = .ok b w
  | 0, _, _, _, _, _, _, _, _, h, _, _, _, _ => by simp [eqDT] at h
  | n + 1, 0, _, _, _, _, _, _, _, _, hm, _, _, _ => by omega
  | n + 1, m + 1, t, d, x, y, r, u, v, h, hm, hx, hy, hr => by
    simp only [eqDT] at h
    cases hu : P.underlying t with
    | none => rw [hu] at h; cases h
    | some td =>
      rw [hu] at h
      cases td <;> simp only at h <;> try (cases h; done)
      case int k =>
        simp only [Option.some.injEq] at h; subst h
        simp only [eqDF] at hr
        exact eqI_ok hu hx hy hr
      case bool =>
        simp only [Option.some.injEq] at h; subst h
        simp only [eqDF] at hr
        cases x <;> simp only [eqB] at hr <;> try (cases hr; done)
        cases y <;> simp only at hr <;> try (cases hr; done)
        simp only [Option.some.injEq] at hr; subst hr
        simp only [den, Option.some.injEq] at hx hy; subst hx hy
        refine ⟨_, rfl, fun w => ?_⟩
        rw [run_equalIn_bool' w m t _ _ hu]
        congr 1
        rename_i a b
        cases a <;> cases b <;> rfl
      case string =>
        simp only [Option.some.injEq] at h; subst h
        simp only [eqDF] at hr
        have fin : ∀ a b : List SB, sbsOk a = true → sbsOk b = true → u = str (a.map sbU) → v = str (b.map sbU) → eqX a b none = r → ∃ b, den E r = some (.bool b) ∧ ∀ w, (Op.equalIn (m + 1) t u v).run P w = .ok b w := fun a b ha hb eu ev e => by
          subst eu ev e
          refine ⟨decide (a.map sbU = b.map sbU), by rcases eqX_den ha hb with h | ⟨c, h, hc⟩ <;> rw [h] <;> simp only [den, Option.some.injEq, Value.bool.injEq] <;> first | rfl | exact hc, fun w => ?_⟩
          simp only [str]
          rw [run_equalIn_string w m t _ _ hu, toList_mk, toList_mk]
          congr 1
          rw [Bool.eq_iff_iff]; simp
        have vv : binV .eql x y = some r → ∃ b, den E r = some (.bool b) ∧ ∀ w, (Op.equalIn (m + 1) t u v).run P w = .ok b w := fun h => by
          obtain ⟨a, b, e1, e2, h3⟩ := binV_ok hx hy h
          subst e1 e2
          refine ⟨_, h3, fun w => ?_⟩
          simp only [str]
          rw [run_equalIn_string w m t _ _ hu, toList_mk, toList_mk]
          congr 1
          rw [Bool.eq_iff_iff]; simp
        cases x with
        | sx a =>
          obtain ⟨h1, e1⟩ := den_sx hx
          cases y <;> simp only [eqStr] at hr <;> try (cases hr; done)
          · simp only [Option.some.injEq] at hr
            obtain ⟨h2, e2⟩ := den_sx hy
            exact fin _ _ h1 h2 e1 e2 hr
          · simp only [Option.some.injEq] at hr
            obtain ⟨h2, e2⟩ := den_str hy
            exact fin _ _ h1 (ksb_ok h2) e1 (by rw [ksb_map]; exact e2) hr
        | str a =>
          cases y with
          | sx b =>
            obtain ⟨h1, e1⟩ := den_str hx
            simp only [eqStr, Option.some.injEq] at hr
            obtain ⟨h2, e2⟩ := den_sx hy
            exact fin _ _ (ksb_ok h1) h2 (by rw [ksb_map]; exact e1) e2 hr
          | str b =>
            obtain ⟨h1, e1⟩ := den_str hx
            simp only [eqStr, Option.some.injEq] at hr; subst hr
            obtain ⟨h2, rfl⟩ := den_str hy
            subst e1
            refine ⟨_, rfl, fun w => ?_⟩
            simp only [str]
            rw [run_equalIn_string w m t _ _ hu, leq_eq h1 h2, toList_mk, toList_mk]
            congr 1
            rw [Bool.eq_iff_iff]; simp
          | _ => exact vv hr
        | _ => exact vv hr
      case struct fs =>
        split at h
        · cases h
        · rename_i hs
          obtain ⟨l, hl, h⟩ := bind_some h
          simp only [Option.some.injEq] at h; subst h
          simp only [eqDF] at hr
          cases x <;> simp only at hr <;> try (cases hr; done)
          cases y <;> simp only at hr <;> try (cases hr; done)
          obtain ⟨xs, _, _, rfl⟩ := den_agg hx
          obtain ⟨ys, _, _, rfl⟩ := den_agg hy
          obtain ⟨b, h1, h2⟩ := eqFs_ok (P := P) (m := m) (fun ht h1 h2 h3 => eqDT_ok n m ht (by omega) h1 h2 h3) hl hx hy hr
          refine ⟨b, h1, fun w => ?_⟩
          have hf : P.fieldsOf t = fs := by simp [Program.fieldsOf, hu]
          rw [run_equalIn_struct w m t _ _ (by rw [hf]; exact hu) (by simpa using hs), hf]
          exact h2 w
theorem eqs_ok {E : Env} {neg : Bool} {t : TypeId} {d : EqD} {x y : Operand} {a b r r' : FV} {u v : Value} (hg : P.eqGuardType P.depth t = false) (hst : ∃ fs, P.underlying t = some (.struct fs)) (hd : eqDT P 8 t = some d) (hu : den E a = some u) (hv : den E b = some v) (h : eqDF d a b = some r)
    (hr : (match neg with | true => notF r | false => some r) = some r') : oBin P (match neg with | true => .neq | false => .eql) t x y u v fun w => den E r' = some w := by
  obtain ⟨fs, hst⟩ := hst
  obtain ⟨c, h1, h2⟩ := eqDT_ok 8 10000 hd (by omega) hu hv h
  have hd' : ∃ l, d = .st l := by
    simp only [eqDT, hst] at hd
    split at hd
    · cases hd
    · obtain ⟨l, _, hd⟩ := bind_some hd
      simp only [Option.some.injEq] at hd; exact ⟨l, hd.symm⟩
  obtain ⟨l, rfl⟩ := hd'
  simp only [eqDF] at h
  cases a <;> simp only at h <;> try (cases h; done)
  cases b <;> simp only at h <;> try (cases h; done)
  obtain ⟨xs, _, _, rfl⟩ := den_agg hu
  obtain ⟨ys, _, _, rfl⟩ := den_agg hv
  cases neg with
  | false =>
    simp only [Option.some.injEq] at hr; subst hr
    refine Sp.of (v := .bool c) (fun w => nv_run ?_) h1
    rw [Sem.run_bind, run_eqGuard_agg w .eql t x y _ _ hg, Result.andThen_ok, run_eql_struct, h2 w]
    rfl
  | true =>
    simp only at hr
    refine Sp.of (v := .bool (!c)) (fun w => nv_run ?_) ?_
    · rw [Sem.run_bind, run_eqGuard_agg w .neq t x y _ _ hg, Result.andThen_ok, run_neq_struct, h2 w]
      rfl
    · cases r <;> simp only [notF] at hr <;> try (cases hr; done)
      · simp only [Option.some.injEq] at hr; subst hr
        simp only [den, Option.some.injEq, Value.bool.injEq] at h1; subst h1; rfl
      · simp only [Option.some.injEq] at hr; subst hr
        simp only [den, Option.some.injEq, Value.bool.injEq] at h1; subst h1; rfl
end Go.Va
