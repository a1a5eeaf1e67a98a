/- Functions and the engine: what is reckoned holds of the model's run. No program. -/
import Derived.Test.YtfaieigeojiiiaaGreatVt
import Derived.Lib.Bytealg
set_option linter.unusedVariables false
set_option linter.unusedSectionVars false
set_option linter.unusedSimpArgs false
namespace Go.Va
open Go Go.Sh
variable [Vb]
variable {P : Program}

def oneV : List Value → Value
  | [v] => v
  | vs => .tuple vs.toArray
/-- What goes out by a contract. -/
def OutOk (c : Ctr) (Ks : Nat → List LD → Prop) (F : Env) (h0 : Heap) (L : List HP) (v : Value) (h' : Heap) : Prop :=
  ∃ e s ys G us, c.o[e]? = some s ∧ wtL ys s.ks ∧ Ks e ys ∧ Env.LeK c.i.os F G ∧ Rep G (thS s ys) h0 h' L ∧ denL G (fvPL id (nthD ys) s.ps 0) = some us ∧ v = oneV us
/-- A function keeps to its contract. -/
def QOk [Gd] (P : Program) (i : Nat) (c : Ctr) : Prop := ∀ xs (Ks : List (List LD → Prop)), wtL xs c.i.ks → c.q xs Ks → ∀ F h0 h L us, Rep F (thS c.i xs) h0 h L → denL F (fvPL id (nthD xs) c.i.ps 0) = some us → ∀ w : World, w.heap = h → NextOk P (OutOk c (nthK Ks) F h0 L) w ((callFunc i us.toArray).run P w)
/-- A function and its small code. -/
inductive KOk (P : Program) (i : Nat) : FFn → Prop
  | f (fn : Func) (pls : List (Nat × RP)) (np m : Nat) (k : FFn) : P.funcs[i]? = some fn → (∀ args w, (callFunc i args).run P w = .ok (.enter i args) w) → (match cF P pls np m fn with | some s => some s.fn | none => none) = some k → KOk P i k
  | cmp : (∀ args w, (callFunc i args).run P w = ((Extern.BytealgCompare.compare args).run P w).andThen fun v w' => .ok (.value v) w') → KOk P i (.x .cmp)
  | t : (∀ args w, (callFunc i args).run P w = .ok (.enter i args) w) → (∀ w : World, Calls P i #[] w fun e w' => e = .returned (.bool true) ∧ SameWg False w w' ∧ Ext w.heap w'.heap) → KOk P i .t
  | l (fn : Func) (pls : List (Nat × RP)) (np m : Nat) (k : FFn) (ls : List LCt) : P.funcs[i]? = some fn → (∀ args w, (callFunc i args).run P w = .ok (.enter i args) w) → (match cF P pls np m fn with | some s => some s.fn | none => none) = some k → (∀ c, fn.body = some c → ∀ y ∈ loopsOf c, ∀ S ∈ ls, fidN y = S.l → ∀ G : Gd, ¬ G.g → @LcOk _ G P fn.ntmps y S) → KOk P i (.l ls k)
  | q (c : Ctr) : okC c = true → (∀ G : Gd, ¬ G.g → @QOk _ G P i c) → KOk P i (.q c)
theorem Rep.ext {E : Env} {th : TH} {h0 h h' : Heap} {L : List HP} (r : Rep E th h0 h L) (hx : Ext h h') : Rep E th h0 h' L := ⟨(r.st.call (L' := []) ⟨hx, trivial⟩), r.fr, r.eh⟩
theorem kok_dummy : True := trivial
theorem kok_cmp {i : Nat} {fn : Func} (hf : P.funcs[i]? = some fn) (h1 : (fn.name == "runtime.NumGoroutine") = false) (h2 : fn.body.isNone = true) (h3 : Extern.findNext fn = none) (h4 : Extern.find fn = some Extern.BytealgCompare.compare) : KOk P i (.x .cmp) :=
  .cmp fun args w => run_callFunc_extern hf h1 h2 h3 h4 args w
def FOk [Gd] (P : Program) (fn : Fn1) : Prop := ∀ i l th K, fn i l th K → ∀ E h0 h L vs, Rep E th h0 h L → denL E l = some vs → ∀ w : World, w.heap = h → NextOk P (Post E h0 L K) w ((callFunc i vs.toArray).run P w)

theorem callF_ok [Gd] {fn : Fn1} (hf : FOk P fn) : ClOk P (callF fn) := fun f l th K hx E h0 h L fv vs r hfv hl => by
  cases f <;> try (exact hx.elim)
  rename_i g a b
  cases g <;> try (exact hx.elim)
  rename_i i
  obtain ⟨x, y, h1, h2, rfl⟩ := den_fn hfv
  intro w hw
  have hd : denL E (a ++ (l ++ b)) = some (x ++ (vs ++ y)) := denL_append h1 (denL_append hl h2)
  have := hf i _ th K hx E h0 h L _ r hd w hw
  have e : (callSem (.func (.func i) x.toArray y.toArray) vs.toArray).run P w = (callFunc i (x ++ (vs ++ y)).toArray).run P w := by
    simp [callSem, Deferred.ofValue, invoke]
  rw [e]; exact this

theorem frame_get {k : Nat} : ∀ (l : List FV) (i : Nat) (t : Fr), (∀ j, i ≤ j → j < i + l.length → k ≠ j) → (frame i l t).get k = t.get k
  | [], i, t, _ => rfl
  | x :: l, i, t, h => by
    show (frame i.succ l (t.put i x)).get k = _
    rw [frame_get l i.succ (t.put i x) fun j h1 h2 => h j (by omega) (by simp only [List.length_cons]; omega), Fr.get_ne _ _ (h i (Nat.le_refl _) (by simp))]
theorem frame_clean {m b np : Nat} {l : List FV} (h : (List.range np).all (fun i => (bitN m i).not) = true) (hl : l.length = np) : Clean m (frame 0 l (.base m (skel b 0))) := fun k hk => by
  rw [frame_get l 0 _ fun j _ hj e => ?_]
  · rw [Fr.get_base, hk]; rfl
  · subst e
    have := List.all_eq_true.1 h k (List.mem_range.2 (by omega))
    rw [hk] at this; cases this
theorem frame_ok {E : Env} {n : Nat} : ∀ (l : List FV) (vs : List Value) (i : Nat) (t : Fr) (f : Nat → Value), denL E l = some vs → (∀ j x, t.get j = some x → j < n ∧ den E x = some (f j)) → i + l.length ≤ n → (∀ j v, vs[j]? = some v → f (i + j) = v) → AgF E n (frame i l t) f
  | [], vs, i, t, f, h, ht, _, _ => ht
  | x :: l, vs, i, t, f, h, ht, hn, hf => by
    obtain ⟨v, vs', h1, h2, rfl⟩ := denL_cons h
    simp only [List.length_cons] at hn
    refine frame_ok l vs' (i + 1) (t.put i x) f h2 (fun j y hy => ?_) (by omega) (fun j u hu => by
      have := hf (j + 1) u (by simpa using hu)
      rw [← this]; congr 1; omega)
    by_cases hj : j = i
    · subst hj
      rw [Fr.get_eq] at hy; simp only [Option.some.injEq] at hy; subst hy
      exact ⟨by omega, by rw [h1, ← hf 0 v rfl]; rfl⟩
    · rw [Fr.get_ne _ _ hj] at hy; exact ht j y hy
theorem rv_ok {E : Env} {th : TH} {h0 : Heap} {L : List HP} {n : Nat} {fr : Fr} {f : Nat → Value} {w : World} (ha : AgF E n fr f) (r : Rep E th h0 w.heap L) : ∀ {rs : List ResultVar} {rv : List RV} {l : List FV}, cRV P n rs = some rv → evRV fr th.t rv = some l →
    ∃ vs, denL E l = some vs ∧ (rs.mapM (rone (mk n f).tmps)).run P w = .ok vs w
  | [], rv, l, hc, hx => by
    simp only [cRV, Option.some.injEq] at hc; subst hc
    simp only [evRV, Option.some.injEq] at hx; subst hx
    exact ⟨[], rfl, rfl⟩
  | .tmp t :: rs, rv, l, hc, hx => by
    simp only [cRV] at hc
    cases h1 : cRV P n rs with
    | none => rw [h1] at hc; cases hc
    | some rv' =>
      rw [h1] at hc
      simp only at hc
      cases hb : Nat.blt t n with
      | false => rw [hb] at hc; cases hc
      | true =>
        rw [hb] at hc; simp only [cond_true, Option.some.injEq] at hc; subst hc
        simp only [evRV] at hx
        cases h2 : fr.get t with
        | none => rw [h2] at hx; cases hx
        | some x =>
          cases h3 : evRV fr th.t rv' with
          | none => rw [h2, h3] at hx; cases hx
          | some l' =>
            rw [h2, h3] at hx; simp only [Option.some.injEq] at hx; subst hx
            obtain ⟨vs, g1, g2⟩ := rv_ok ha r h1 h3
            refine ⟨f t :: vs, denL_of (ha t x h2).2 g1, ?_⟩
            rw [List.mapM_cons, Sem.run_bind]
            have : (rone (mk n f).tmps (.tmp t)).run P w = .ok (f t) w := by simp only [rone, mk_getD n f t hb]; rfl
            rw [this, Result.andThen_ok, Sem.run_bind, g2]; rfl
  | .cell a t :: rs, rv, l, hc, hx => by
    simp only [cRV] at hc
    cases hb : agO P t with
    | none => rw [hb] at hc; cases hc
    | some b =>
      cases hk : szO P t with
      | none => rw [hb, hk] at hc; cases hc
      | some k =>
        cases h1 : cRV P n rs with
        | none => rw [hb, hk, h1] at hc; cases hc
        | some rv' =>
          rw [hb, hk, h1] at hc
          simp only at hc
          cases hcc : Nat.blt a n && Nat.blt 0 k with
          | false => rw [hcc] at hc; cases hc
          | true =>
            rw [hcc] at hc; simp only [cond_true, Option.some.injEq] at hc; subst hc
            simp only [Bool.and_eq_true] at hcc
            simp only [evRV] at hx
            cases h2 : fr.get a with
            | none => rw [h2] at hx; cases hx
            | some x =>
              rw [h2] at hx
              simp only at hx
              cases h4 : ldF th.t k b x with
              | none => rw [h4] at hx; cases hx
              | some y =>
                cases h3 : evRV fr th.t rv' with
                | none => rw [h4, h3] at hx; cases hx
                | some l' =>
                  rw [h4, h3] at hx; simp only [Option.some.injEq] at hx; subst hx
                  obtain ⟨vs, g1, g2⟩ := rv_ok ha r h1 h3
                  have hd := (ha a x h2).2
                  obtain ⟨v, hv1, hv2⟩ := ld_ok r hk hb (blt_t hcc.2) hd h4
                  refine ⟨v :: vs, denL_of hv2 g1, ?_⟩
                  rw [List.mapM_cons, Sem.run_bind]
                  have hrone : (rone (mk n f).tmps (.cell a t)).run P w = .ok v w := by
                    have h5 := hv1 w rfl
                    cases x <;> try (simp [ldF] at h4; done)
                    obtain ⟨ad, _, hfa⟩ := den_ptr hd
                    rw [hfa] at h5
                    simp only [rone, mk_getD n f a hcc.1, hfa, asAddr, pure_bind]
                    unfold nv at h5
                    rw [Sem.run_bind] at h5
                    simp only [Instr.loadAt, Instr.sureAddr, pure_bind] at h5
                    generalize (loadVar t _).run P w = q at h5 ⊢
                    cases q with
                    | ok z w' => simp only [Result.andThen, pure, Sem.run] at h5; injection h5 with h6 h7; injection h6 with h8; rw [h8, h7]
                    | halt z w' => simp [Result.andThen] at h5
                  rw [hrone, Result.andThen_ok, Sem.run_bind, g2]; rfl
theorem oneV_run {s : Sem (List Value)} {vs : List Value} {w : World} (h : s.run P w = .ok vs w) : (do let vs ← s; pure (match vs with | [v] => v | vs => Value.tuple vs.toArray) : Sem Value).run P w = .ok (oneV vs) w := by
  rw [Sem.run_bind, h]
  match vs with
  | [] => rfl
  | [_] => rfl
  | _ :: _ :: _ => rfl
theorem one_den {E : Env} : ∀ {l : List FV} {vs : List Value}, denL E l = some vs → den E (one1 l) = some (oneV vs)
  | [], vs, h1 => by simp only [denL, Option.some.injEq] at h1; subst h1; rfl
  | [x], vs, h1 => by
    obtain ⟨v, vs', g1, g2, rfl⟩ := denL_cons h1
    simp only [denL, Option.some.injEq] at g2; subst g2
    exact g1
  | x :: y :: r, vs, h1 => by
    obtain ⟨v, vs', g1, g2, rfl⟩ := denL_cons h1
    obtain ⟨v2, vs2, g3, g4, rfl⟩ := denL_cons g2
    simp only [one1, den, h1, oneV]
theorem ret_ok [Gd] {E : Env} {th : TH} {h0 : Heap} {L : List HP} {n : Nat} {fr : Fr} {f : Nat → Value} {w w0 : World} {fn : Func} {rv : List RV} {K : FV → TH → Prop} {E0 : Env} (hle : E0.Le E) (ha : AgF E n fr f) (r : Rep E th h0 w.heap L) (hs : SameW w0 w) (hc : cRV P n fn.results.toList = some rv) (hx : retK rv K fr th) :
    bodyPost P fn (EndOk w0 (Post E0 h0 L K)) .ret (mk n f) w ∧ bodyPost P fn (EndOk w0 (Post E0 h0 L K)) .normal (mk n f) w := by
  unfold retK at hx
  cases hl : evRV fr th.t rv with
  | none => rw [hl] at hx; exact hx.elim
  | some l =>
    rw [hl] at hx
    obtain ⟨vs, h1, h2⟩ := rv_ok ha r hc hl
    have hres : (results fn (mk n f).tmps).run P w = .ok (oneV vs) w := by
      rw [results_list (rs := fn.results.toList) (by simp)]
      exact oneV_run h2
    have hden : den E (one1 l) = some (oneV vs) := one_den h1
    have fin : EndOk w0 (Post E0 h0 L K) (.returned (oneV vs)) w := .inl ⟨_, rfl, hs, E, one1 l, th, hle, hden, r, hx⟩
    exact ⟨post_ret hres fin, post_end hres fin⟩
theorem compare_rng : ∀ a b : List UInt8, -1 ≤ Lib.compareBytes a b ∧ Lib.compareBytes a b ≤ 1
  | [], [] => by simp [Lib.compareBytes]
  | [], _ :: _ => by simp [Lib.compareBytes]
  | _ :: _, [] => by simp [Lib.compareBytes]
  | a :: x, b :: y => by
    have ih := compare_rng x y
    simp only [Lib.compareBytes]
    split
    · omega
    · split
      · omega
      · exact ih
theorem cmpN_ok {E : Env} {a b x : FV} {u v : Value} (h : cmpN a b = some x) (h1 : den E a = some u) (h3 : den E b = some v) (w : World) : ∃ r, den E x = some r ∧ (Extern.BytealgCompare.compare #[u, v]).run P w = .ok r w := by
  unfold cmpN at h
  cases hs : strV a with
  | none => rw [hs] at h; cases h
  | some s =>
    cases ht : strV b with
    | none => rw [hs, ht] at h; cases h
    | some t =>
      rw [hs, ht] at h
      simp only [Option.some.injEq] at h; subst h
      have e1 := (strV_den hs h1).1
      have e2 := (strV_den ht h3).1
      subst e1 e2
      refine ⟨.int .i64 (Lib.compareBytes s t), ?_, ?_⟩
      · simp only [den, SE.ev]
        have := compare_rng s t
        exact if_pos ⟨this.1, this.2⟩
      · have := Lib.run_compareString (P := P) ⟨s.toArray⟩ ⟨t.toArray⟩ w
        simp only [str]
        rw [this]
theorem cmp_ok {E : Env} {l : List FV} {vs : List Value} {x : FV} (h : evE .cmp l = some x) (hd : denL E l = some vs) (w : World) : ∃ v, den E x = some v ∧ (Extern.BytealgCompare.compare vs.toArray).run P w = .ok v w := by
  match l, h with
  | [a, b], h =>
    simp only [evE] at h
    have opn : cmpN a b = some x → ∃ v, den E x = some v ∧ (Extern.BytealgCompare.compare vs.toArray).run P w = .ok v w := fun h => by
      obtain ⟨u, vs1, h1, h2, rfl⟩ := denL_cons hd
      obtain ⟨v, vs2, h3, h4, rfl⟩ := denL_cons h2
      simp only [denL, Option.some.injEq] at h4; subst h4
      exact cmpN_ok h h1 h3 w
    cases a <;> try (exact opn h)
    cases b <;> try (exact opn h)
    rename_i a b
    simp only [Option.some.injEq] at h; subst h
    obtain ⟨u, vs1, h1, h2, rfl⟩ := denL_cons hd
    obtain ⟨v, vs2, h3, h4, rfl⟩ := denL_cons h2
    simp only [denL, Option.some.injEq] at h4; subst h4
    obtain ⟨ha, rfl⟩ := den_str h1
    obtain ⟨hb, rfl⟩ := den_str h3
    refine ⟨_, rfl, ?_⟩
    have := Lib.run_compareString (P := P) ⟨(a.map UInt8.ofNat).toArray⟩ ⟨(b.map UInt8.ofNat).toArray⟩ w
    simp only [str]
    rw [this]
    congr 2
    have key : ∀ a b : List Nat, bytesOk a = true → bytesOk b = true → Lib.compareBytes (a.map UInt8.ofNat) (b.map UInt8.ofNat) = bif llt a b then .negSucc 0 else bif leq a b then .ofNat 0 else .ofNat 1 := by
      intro a
      induction a with
      | nil =>
        intro b _ _
        cases b with
        | nil => simp [Lib.compareBytes, llt_n, leq_nn]
        | cons c r => simp [Lib.compareBytes, llt_nc]
      | cons c r ih =>
        intro b ha hb
        cases b with
        | nil => simp [Lib.compareBytes, llt_n, leq_cn]
        | cons d s =>
          obtain ⟨h1, h2⟩ := bytesOk_cons ha
          obtain ⟨h3, h4⟩ := bytesOk_cons hb
          have hlt : ∀ {m n : Nat}, m < 256 → n < 256 → ((UInt8.ofNat m < UInt8.ofNat n) ↔ m < n) := fun {m n} hm hn => by
            rw [UInt8.lt_iff_toNat_lt]; simp [Nat.mod_eq_of_lt hm, Nat.mod_eq_of_lt hn]
          simp only [List.map_cons, Lib.compareBytes, llt_cc, leq_cc, bl, bq, hlt h1 h3, hlt h3 h1]
          by_cases hcd : c < d
          · simp [hcd]
          · by_cases hdc : d < c
            · simp [hcd, hdc, show ¬ c = d by omega]
            · have : c = d := by omega
              subst this
              simp [ih s h2 h4]
    have e := key a b ha hb
    simpa using e
  | [], h => cases h
  | [_], h => cases h
  | _ :: _ :: _ :: _, h => cases h
theorem fn_ok [Gd] {cl : Cl} (hcl : ClOk P cl) {lf : LF} {i : Nat} {fn : Func} {pls : List (Nat × RP)} {np m : Nat} {k : FFn} (hfn : P.funcs[i]? = some fn) (hcall : ∀ args w, (callFunc i args).run P w = .ok (.enter i args) w) (hk : (match cF P pls np m fn with | some s => some s.fn | none => none) = some k)
    (hlp : ∀ c, fn.body = some c → ∀ y ∈ loopsOf c, ∀ S ∈ lf.ls, fidN y = S.l → LcOk P fn.ntmps y S) {l : List FV} {th : TH} {K : FV → TH → Prop} (hx : runF lf cl k l th K) {E : Env} {h0 h : Heap} {L : List HP} {vs : List Value} (r : Rep E th h0 h L) (hd : denL E l = some vs) (w : World) (hw : w.heap = h) :
    NextOk P (Post E h0 L K) w ((callFunc i vs.toArray).run P w) := by
  rw [hcall]
  refine ⟨SameW.refl w, ?_⟩
  cases hs : cF P pls np m fn with
  | none => rw [hs] at hk; cases hk
  | some s =>
    rw [hs] at hk; simp only [Option.some.injEq] at hk; subst hk
    unfold cF at hs
    cases hb : fn.body with
    | none => rw [hb] at hs; cases hs
    | some c =>
      rw [hb] at hs
      simp only at hs
      cases hrv : cRV P fn.ntmps fn.results.toList with
      | none => rw [hrv] at hs; cases hs
      | some rv =>
        cases hcc : cC P fn.ntmps m pls c with
        | none => rw [hrv, hcc] at hs; cases hs
        | some fc =>
          rw [hrv, hcc] at hs
          simp only at hs
          cases hnp : Nat.ble np fn.ntmps && (List.range np).all (fun i => (bitN m i).not) with
          | false => rw [hnp] at hs; cases hs
          | true =>
            rw [hnp] at hs; simp only [cond_true, Option.some.injEq] at hs; subst hs
            simp only [FSn.fn, runF] at hx
            obtain ⟨hlen, hx⟩ := bif_el hx
            have hlen := beq_t hlen
            simp only [Bool.and_eq_true] at hnp
            have hmk := hnp.2
            have hnp := ble_t hnp.1
            have hvl := denL_length hd
            have hargs : vs.toArray ++ Array.replicate (fn.ntmps - vs.toArray.size) undef = (mk fn.ntmps fun i => vs.getD i undef).tmps := by
              simp only [mkD]
              apply Array.ext
              · simp; omega
              · intro j g1 g2
                simp only [List.getElem_toArray, List.getElem_map, List.getElem_range]
                rw [Array.getElem_append]
                split
                · rename_i hj
                  simp only [List.size_toArray] at hj
                  simp [List.getD, hj]
                · rename_i hj
                  simp only [List.size_toArray] at hj
                  simp [List.getD, List.getElem?_eq_none (Nat.le_of_not_lt hj)]
            refine hc_of_wp (n := fn.ntmps) hfn hb rfl hargs fun w1 hw1 => ?_
            have ha : AgF E fn.ntmps (frame 0 l (.base m (skel (Nat.succ (Nat.log2 fn.ntmps)) 0))) fun i => vs.getD i undef := frame_ok l vs 0 (.base m (skel (Nat.succ (Nat.log2 fn.ntmps)) 0)) _ hd (fun j x hj => by rw [Fr.get_skel] at hj; cases hj) (by omega) (fun j v hj => by simp [List.getD, hj])
            refine evC_ok hcl c fc hcc lf _ th _ _ _ E _ w1 _ hx ha (frame_clean hmk hlen) (by rw [hw1, hw]; exact r) (SameW.refl w1) pnOk_base panicOk_base (hlp c hb) (fun F fr' th' f' w' a1 a2 _ a3 a4 a5 => (ret_ok a1 a2 a3 a4 hrv a5).2) (fun j F fr' th' f' w' a1 a2 _ a3 a4 a5 => a5.elim) (fun F fr' th' f' w' a1 a2 _ a3 a4 a5 => (ret_ok a1 a2 a3 a4 hrv a5).1)
theorem next_mono [Gd] {K K' : Value → Heap → Prop} {w : World} : ∀ {r : Result Next}, NextOk P K w r → (∀ v h', K v h' → K' v h') → NextOk P K' w r
  | .ok (.value v) w', ⟨a, b⟩, hk => ⟨a, hk _ _ b⟩
  | .ok .skip w', ⟨a, b⟩, hk => ⟨a, hk _ _ b⟩
  | .ok (.enter f args) w', ⟨a, b⟩, hk => ⟨a, b.mono hk⟩
  | .halt (.panic x) w', h, _ => h
theorem runQ_ok [Gd] {i : Nat} {c : Ctr} (hc : okC c = true) (hq : QOk P i c) {l : List FV} {th : TH} {K : FV → TH → Prop} (hx : runQ c l th fun _ vs th => rsl0 (one1 vs) th K) {E : Env} {h0 h : Heap} {L : List HP} {vs : List Value} (r : Rep E th h0 h L) (hd : denL E l = some vs) (w : World) (hw : w.heap = h) :
    NextOk P (Post E h0 L K) w ((callFunc i vs.toArray).run P w) := by
  simp only [runQ] at hx
  obtain ⟨F1, xs, prs, th', Ps, g1, g3, g4, g5, _, g6, g7, g8, g9⟩ := mtS_ok hx r hd
  refine next_mono (hq xs _ g4 g3 _ h0 h _ vs g8 g9 w hw) fun v h' => ?_
  rintro ⟨e, s, ys, G, us, h1, h3, h4, h5, h6, h7, rfl⟩
  have h4 := outsK_nth h1 h4 h3
  simp only [outK] at h4
  obtain ⟨k1, k2⟩ := okC_o hc h1
  obtain ⟨F, f1, f2, f3⟩ := gl_ok (E := F1) (th := th') k1 k2 g5 g6 g7 h5 h6
  have f3 := one_den (f3 us h7)
  obtain ⟨y, sc, y1, y2⟩ := rsl0_any h4
  exact ⟨F, y, _, g1.trans f1, y1 F _ f3, f2.scrp sc, y2⟩
theorem eng_ok [Gd] (hgd : ¬ Gd.g) {tab : Tr FFn} {lf : Nat} (ht : ∀ i f, tab.get i = some f → KOk P i f) : ∀ n, FOk P (eng tab lf n)
  | 0 => fun i l th K hx => hx.elim
  | n + 1 => fun i l th K hx E h0 h L vs r hd w hw => by
    simp only [eng] at hx
    cases hg : tab.get i with
    | none => rw [hg] at hx; exact hx.elim
    | some f =>
      rw [hg] at hx
      simp only at hx
      have hk0 := ht i f hg
      clear hg
      induction hk0 with
      | q c hc hq => exact runQ_ok hc (hq _ hgd) hx r hd w hw
      | cmp hrun =>
        simp only [runF] at hx
        cases he : evE .cmp l with
        | none => rw [he] at hx; exact hx.elim
        | some x =>
          rw [he] at hx
          obtain ⟨v, g1, g2⟩ := cmp_ok (P := P) he hd w
          rw [hrun, g2]
          exact ⟨SameW.refl w, by rw [hw]; exact Post.same g1 r hx⟩
      | t hcall hrun =>
        cases l with
        | cons _ _ => exact hx.elim
        | nil =>
          simp only [runF] at hx
          simp only [denL, Option.some.injEq] at hd
          subst hd
          rw [hcall]
          refine ⟨SameW.refl w, fun w1 hw1 => (hrun w1).mono ?_⟩
          rintro e w' ⟨rfl, hs, hxt⟩
          rw [hw1, hw] at hxt
          exact .inl ⟨_, rfl, ⟨hs.os, hs.tape, hs.output, fun q => absurd q hgd⟩, Post.same rfl (r.ext hxt) hx⟩
      | f fn pls np m k hfn hcall hk => exact fn_ok (callF_ok (eng_ok hgd ht n)) hfn hcall hk (fun _ _ _ _ S hS _ => by cases hS) hx r hd w hw
      | l fn pls np m k ls hfn hcall hk hls => exact fn_ok (lf := ⟨lf, ls⟩) (callF_ok (eng_ok hgd ht n)) hfn hcall hk (fun c hc y hy S hS hl => hls c hc y hy S hS hl _ hgd) hx r hd w hw
end Go.Va
