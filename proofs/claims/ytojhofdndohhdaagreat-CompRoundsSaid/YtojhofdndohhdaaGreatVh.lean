/- Every small operation that turns no memory comes to what the model's comes to. No program. -/
import Derived.Test.YtojhofdndohhdaaGreatVg
import Derived.Laws.StructEq
set_option linter.unusedVariables false
set_option linter.unusedSectionVars false
set_option linter.unusedSimpArgs false
namespace Go.Va
open Go Go.Sh
variable [Vb]
variable {P : Program}

theorem fill_at {place : Nat → Option (Nat × Nat)} {i off sz : Nat} {v : Value} {c : Array Value} {rest : List (Nat × Value)} (hp : place i = some (off, sz)) (hv : v.cells.size = sz) (hle : off + sz ≤ c.size) :
    Instr.fill place c ((i, v) :: rest) = Instr.fill place (setAt c.toList off v.cells.toList).toArray rest := by
  rw [Instr.fill]
  have h1 : ¬ (off + sz > c.size) := by omega
  simp only [hp, hv, ne_eq, not_true_eq_false, decide_false, h1, Bool.or_false, Bool.false_eq_true, if_false]
  have h2 : (v.cells.zipIdx.foldl (fun cs (p : Value × Nat) => cs.setIfInBounds (off + p.2) p.1) c) = (setAt c.toList off v.cells.toList).toArray := by
    have key2 : ∀ (l : List Value) (j : Nat) (c : Array Value), (l.zipIdx j).foldl (fun cs (p : Value × Nat) => cs.setIfInBounds (off + p.2) p.1) c = (setAt c.toList (off + j) l).toArray := by
      intro l
      induction l with
      | nil => intro j c; simp [setAt]
      | cons y l ih =>
        intro j c
        simp only [List.zipIdx_cons, List.foldl_cons, setAt]
        rw [ih]
        simp [Nat.add_assoc]
    rw [← Array.foldl_toList, Array.toList_zipIdx]
    exact key2 _ 0 c
  rw [h2]
theorem fillF_ok {E : Env} {place : Nat → Option (Nat × Nat)} : ∀ {ps : List (Nat × FV)} {pl : List (Nat × Nat)} {cs r : List FV} {vs us : List Value} {ks : List (Nat × Value)},
    fillF cs pl ps = some r → denL E cs = some vs → cs.all oneF = true → denL E (ps.map (·.2)) = some us → ks = (ps.map (·.1)).zip us → (∀ (j : Nat) (p : Nat × FV) (q : Nat × Nat), ps[j]? = some p → pl[j]? = some q → place p.1 = some q) →
    ∃ ws, Instr.fill place vs.toArray ks = some ws.toArray ∧ denL E r = some ws ∧ r.all oneF = true
  | [], [], cs, r, vs, us, ks, h, hd, ho, hu, hk, hp => by
    simp only [fillF, Option.some.injEq] at h; subst h
    simp only [List.map_nil, List.zip_nil_left] at hk; subst hk
    exact ⟨vs, by simp [Instr.fill], hd, ho⟩
  | [], _ :: _, cs, r, vs, us, ks, h, _, _, _, _, _ => by simp [fillF] at h
  | _ :: _, [], cs, r, vs, us, ks, h, _, _, _, _, _ => by simp [fillF] at h
  | (i, v) :: ps, (off, sz) :: pl, cs, r, vs, us, ks, h, hd, ho, hu, hk, hp => by
    simp only [fillF] at h
    cases hb : (Nat.beq (cellsV v).length sz && notTup v) with
    | false => rw [hb] at h; cases h
    | true =>
      rw [hb] at h
      simp only [cond_true] at h
      simp only [Bool.and_eq_true] at hb
      obtain ⟨hb, hnt⟩ := hb
      have hsz := beq_t hb
      obtain ⟨u, us', h1, h2, rfl⟩ := denL_cons hu
      have hc := den_cells h1
      have hl := denL_length hc
      cases hs : splO (cellsV v) off cs with
      | none => rw [hs] at h; cases h
      | some cs' =>
        rw [hs] at h
        simp only at h
        obtain ⟨h3, h4⟩ := splO_some hs
        have h5 : denL E cs' = some (setAt vs off u.cells.toList) := by rw [h3]; exact denL_setF off hd hc
        have h6 : (cellsV v).all oneF = true := cells_ones h1 (notTup_ne hnt)
        obtain ⟨ws, h7, h8, h9⟩ := fillF_ok (place := place) h h5 (by rw [h3]; exact setF_all ho h6) h2 rfl (fun j p q hj hq => hp (j + 1) p q (by simpa using hj) (by simpa using hq))
        refine ⟨ws, ?_, h8, h9⟩
        subst hk
        simp only [List.map_cons, List.zip_cons_cons]
        have hvl := denL_length hd
        rw [fill_at (hp 0 (i, v) (off, sz) rfl rfl) (by rw [← hsz, ← hl]; simp) (by rw [List.size_toArray, hvl, ← hsz]; omega)]
        simpa using h7
theorem zip_pairs {α : Type} : ∀ {v : List (Nat × FV)} {l : List (Nat × Operand)} {f : Nat × Operand → α}, v.map (·.1) = l.map (·.1) → (v.map (·.1)).zip (l.map f) = l.map fun p => (p.1, f p)
  | [], [], _, _ => rfl
  | [], _ :: _, _, h => by simp at h
  | _ :: _, [], _, h => by simp at h
  | p :: v, q :: l, f, h => by
    simp only [List.map_cons, List.cons.injEq] at h
    simp only [List.map_cons, List.zip_cons_cons, h.1, zip_pairs h.2]
theorem plsL_ok {l : List (Nat × Nat)} : ∀ {ps : List (Nat × Operand)} {pl : List (Nat × Nat)}, plsL l ps = some pl → ∀ (j : Nat) (i : Nat) (q : Nat × Nat), (ps.map (·.1))[j]? = some i → pl[j]? = some q → l[i]? = some q
  | [], pl, h, j, i, q, hj, _ => by simp at hj
  | (a, b) :: ps, pl, h, j, i, q, hj, hq => by
    simp only [plsL] at h
    cases h1 : l[a]? with
    | none => rw [h1] at h; cases h
    | some p =>
      cases h2 : plsL l ps with
      | none => rw [h1, h2] at h; cases h
      | some r =>
        rw [h1, h2] at h; simp only [Option.some.injEq] at h; subst h
        cases j with
        | zero => simp only [List.map_cons, List.getElem?_cons_zero, Option.some.injEq] at hj hq; subst hj hq; exact h1
        | succ j => exact plsL_ok h2 j i q (by simpa using hj) (by simpa using hq)
theorem plsK_ok {k : Nat} : ∀ {ps : List (Nat × Operand)} (j : Nat) (i : Nat) (q : Nat × Nat), (ps.map (·.1))[j]? = some i → (plsK k ps)[j]? = some q → (i * k, k) = q
  | [], j, i, q, hj, _ => by simp at hj
  | (a, b) :: ps, j, i, q, hj, hq => by
    cases j with
    | zero => simp only [List.map_cons, List.getElem?_cons_zero, Option.some.injEq, plsK] at hj hq; subst hj; exact hq
    | succ j => exact plsK_ok (ps := ps) j i q (by simpa using hj) (by simpa [plsK] using hq)
theorem places_ok {ps : List (Nat × Operand)} {l : List (Nat × FV)} {pl : List (Nat × Nat)} {place : Nat → Option (Nat × Nat)} (h1 : l.map (·.1) = ps.map (·.1)) (h : ∀ (j : Nat) (i : Nat) (q : Nat × Nat), (ps.map (·.1))[j]? = some i → pl[j]? = some q → place i = some q) :
    ∀ (j : Nat) (p : Nat × FV) (q : Nat × Nat), l[j]? = some p → pl[j]? = some q → place p.1 = some q := fun j p q hj hq => h j p.1 q (by rw [← h1, List.getElem?_map, hj]; rfl) hq
theorem plT_eq : ∀ {fs : List Field} {l : List (Nat × Nat)}, plT P fs = some l → fs.mapM (fun f => (P.info? f.type).map fun i => (f.offset, i.size)) = some l
  | [], l, h => by simp only [plT, Option.some.injEq] at h; subst h; rfl
  | f :: r, l, h => by
    simp only [plT] at h
    cases hi : P.info? f.type with
    | none => rw [hi] at h; cases h
    | some i =>
      cases hr : plT P r with
      | none => rw [hi, hr] at h; cases h
      | some l' => rw [hi, hr] at h; simp only [Option.some.injEq] at h; subst h; simp [List.mapM_cons, hi, plT_eq hr]
theorem eqb_ok {E : Env} {neg : Bool} {t : TypeId} {d : TypeDesc} {kd : EqK} {x y : Operand} {a b : FV} {u v : Value} {r : Bool} (hd : P.underlying t = some d) (he : eqT d = some kd) (hu : den E a = some u) (hv : den E b = some v) (h : eqbF kd a b = some r) :
    oBin P (match neg with | true => .neq | false => .eql) t x y u v fun w => w = .bool (match neg with | true => r.not | false => r) := by
  have key : (∀ (m : Nat) w, (Op.equalIn (m + 1) t u v).run P w = .ok r w) → (∀ k n, u ≠ .int k n) → (∀ k n, u ≠ .float k n) → (∀ k m n, u ≠ .complex k m n) → (∀ s, u ≠ .string s) → u ≠ .nilIface → (∀ l, u ≠ .agg l) →
      oBin P (match neg with | true => .neq | false => .eql) t x y u v fun w => w = .bool (match neg with | true => r.not | false => r) := fun hr h1 h2 h3 h4 h5 h6 => by
    refine Sp.of (v := .bool (match neg with | true => r.not | false => r)) (fun w => nv_run ?_) rfl
    have hg : ∀ op : BinOp, (eqGuard op t x y u v).run P w = .ok () w := fun op => by
      cases u <;> first | exact absurd rfl h5 | exact absurd rfl (h6 _) | (cases op <;> simp [eqGuard])
    have hb : ∀ nn : Bool, (binOp (match nn with | true => .neq | false => .eql) t u v).run P w = .ok (.bool (match nn with | true => r.not | false => r)) w := fun nn => by
      have h9 := hr 9999 w
      cases u <;> first | exact absurd rfl (h1 _ _) | exact absurd rfl (h2 _ _) | exact absurd rfl (h3 _ _ _) | exact absurd rfl (h4 _) | (cases nn <;> simp only [binOp, Op.equal, Op.maxDepth] <;> simp [h9])
    rw [Sem.run_bind, hg, Result.andThen_ok]
    exact hb neg
  cases kd with
  | b =>
    have hd' : d = .bool := by cases d <;> simp [eqT] at he; rfl
    subst hd'
    cases a <;> try (simp [eqbF] at h; done)
    cases b <;> try (simp [eqbF] at h; done)
    rename_i a b
    simp only [den, Option.some.injEq] at hu hv; subst hu hv
    simp only [eqbF, Option.some.injEq] at h
    refine key (fun m w => ?_) (by simp) (by simp) (by simp) (by simp) (by simp) (by simp)
    have := run_underlying hd w
    subst h
    simp only [Op.equalIn]
    rw [Sem.run_bind, this, Result.andThen_ok]
    cases a <;> cases b <;> rfl
  | p =>
    obtain ⟨e, rfl⟩ : ∃ e, d = .pointer e := by cases d <;> simp [eqT] at he; exact ⟨_, rfl⟩
    have run := run_underlying hd
    cases a <;> try (simp [eqbF] at h; done)
    · simp only [den, Option.some.injEq] at hu; subst hu
      refine key (fun m w => ?_) (by simp) (by simp) (by simp) (by simp) (by simp) (by simp)
      cases b <;> try (simp [eqbF] at h; done)
      · simp only [den, Option.some.injEq] at hv; subst hv
        simp only [eqbF, Option.some.injEq] at h; subst h
        simp only [Op.equalIn]; rw [Sem.run_bind, run w, Result.andThen_ok]; rfl
      · obtain ⟨a, _, rfl⟩ := den_ptr hv
        simp only [eqbF, Option.some.injEq] at h; subst h
        simp only [Op.equalIn]; rw [Sem.run_bind, run w, Result.andThen_ok]; rfl
    · obtain ⟨a, _, rfl⟩ := den_ptr hu
      refine key (fun m w => ?_) (by simp) (by simp) (by simp) (by simp) (by simp) (by simp)
      cases b <;> try (simp [eqbF] at h; done)
      simp only [den, Option.some.injEq] at hv; subst hv
      simp only [eqbF, Option.some.injEq] at h; subst h
      simp only [Op.equalIn]; rw [Sem.run_bind, run w, Result.andThen_ok]; rfl
  | s =>
    obtain ⟨e, rfl⟩ : ∃ e, d = .slice e := by cases d <;> simp [eqT] at he; exact ⟨_, rfl⟩
    have run := run_underlying hd
    cases a <;> try (simp [eqbF] at h; done)
    · simp only [den, Option.some.injEq] at hu; subst hu
      refine key (fun m w => ?_) (by simp) (by simp) (by simp) (by simp) (by simp) (by simp)
      cases b <;> try (simp [eqbF] at h; done)
      · simp only [den, Option.some.injEq] at hv; subst hv
        simp only [eqbF, Option.some.injEq] at h; subst h
        simp only [Op.equalIn]; rw [Sem.run_bind, run w, Result.andThen_ok]; rfl
      · obtain ⟨a, c, _, rfl, _⟩ := den_sl hv
        simp only [eqbF, Option.some.injEq] at h; subst h
        simp only [Op.equalIn]; rw [Sem.run_bind, run w, Result.andThen_ok]; rfl
    · obtain ⟨a, c, _, rfl, _⟩ := den_sl hu
      refine key (fun m w => ?_) (by simp) (by simp) (by simp) (by simp) (by simp) (by simp)
      cases b <;> try (simp [eqbF] at h; done)
      simp only [den, Option.some.injEq] at hv; subst hv
      simp only [eqbF, Option.some.injEq] at h; subst h
      simp only [Op.equalIn]; rw [Sem.run_bind, run w, Result.andThen_ok]; rfl
  | f =>
    obtain ⟨p, q, z, rfl⟩ : ∃ p q z, d = .func p q z := by cases d <;> simp [eqT] at he; exact ⟨_, _, _, rfl⟩
    have run := run_underlying hd
    cases a <;> try (simp [eqbF] at h; done)
    · simp only [den, Option.some.injEq] at hu; subst hu
      refine key (fun m w => ?_) (by simp) (by simp) (by simp) (by simp) (by simp) (by simp)
      cases b <;> try (simp [eqbF] at h; done)
      · simp only [den, Option.some.injEq] at hv; subst hv
        simp only [eqbF, Option.some.injEq] at h; subst h
        simp only [Op.equalIn]; rw [Sem.run_bind, run w, Result.andThen_ok]; rfl
      · obtain ⟨a, c, _, _, rfl⟩ := den_fn hv
        simp only [eqbF, Option.some.injEq] at h; subst h
        simp only [Op.equalIn]; rw [Sem.run_bind, run w, Result.andThen_ok]; rfl
    · obtain ⟨a, c, _, _, rfl⟩ := den_fn hu
      refine key (fun m w => ?_) (by simp) (by simp) (by simp) (by simp) (by simp) (by simp)
      cases b <;> try (simp [eqbF] at h; done)
      simp only [den, Option.some.injEq] at hv; subst hv
      simp only [eqbF, Option.some.injEq] at h; subst h
      simp only [Op.equalIn]; rw [Sem.run_bind, run w, Result.andThen_ok]; rfl
end Go.Va
