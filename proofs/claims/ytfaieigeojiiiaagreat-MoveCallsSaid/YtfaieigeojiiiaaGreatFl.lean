/- What came in, as data. No program. -/
import Derived.Test.YtfaieigeojiiiaaGreatLx
import Derived.ChangeArms
import Derived.Test.YtfaieigeojiiiaaGreatAb
set_option linter.unusedVariables false
set_option linter.unusedSectionVars false
set_option linter.unusedSimpArgs false
noncomputable section
namespace Go.Va
open Go Go.Sh Go.ChangeShapes Go.WideShapes Go.ChangeAt Go.RowKit
variable [Vb]
section
variable {α : Type} {enc : α → List Value} {k : Nat}
theorem fK_len (hk : ∀ x, (enc x).length = k) : ∀ l : List α, (l.flatMap enc).length = l.length * k
  | [] => by simp
  | x :: l => by rw [List.flatMap_cons, List.length_append, fK_len hk l, hk, List.length_cons, Nat.add_mul]; omega
theorem fK_drop (hk : ∀ x, (enc x).length = k) : ∀ (l : List α) (i : Nat), (l.flatMap enc).drop (i * k) = (l.drop i).flatMap enc
  | l, 0 => by simp
  | [], i + 1 => by simp
  | x :: l, i + 1 => by
    rw [List.flatMap_cons, List.drop_succ_cons, ← fK_drop hk l i, Nat.add_mul, Nat.one_mul, Nat.add_comm, ← List.drop_drop, List.drop_left' (hk x)]
theorem fK_take (hk : ∀ x, (enc x).length = k) {l : List α} {i : Nat} {a : α} (hi : l[i]? = some a) : ((l.flatMap enc).drop (i * k)).take k = enc a := by
  obtain ⟨hlt, rfl⟩ := List.getElem?_eq_some_iff.1 hi
  rw [fK_drop hk, List.drop_eq_getElem_cons hlt, List.flatMap_cons, List.take_left' (hk _)]
theorem fK_get (hk : ∀ x, (enc x).length = k) {l : List α} {i off : Nat} {a : α} {x : Value} (hi : l[i]? = some a) (hx : (enc a)[off]? = some x) : (l.flatMap enc)[i * k + off]? = some x := by
  have hoff : off < k := by rw [← hk a]; exact (List.getElem?_eq_some_iff.1 hx).1
  rw [← List.getElem?_drop, ← hx, ← fK_take hk hi, List.getElem?_take, if_pos hoff]
end
/-- A type's values are data of such kinds. -/
structure Opk (P : Program) (t : TypeId) (ks : List CK) : Prop where
  len : P.cellsOf t = ks.length
  run : ∀ {H : Type} {enc : TypeId × Value → H} {w : World} {base : Nat} {sp : Nat → Bool} {held : Bool} {fuel : Nat} {cs : List Value} {x : DataW H × List MemPlace},
    DataW.trod enc P w base sp held fuel t cs = some x → ∃ ds : List LD, cs = LD.vs ks ds ∧ wtL ds ks ∧ liesL (env0 w.heap).rd ds ks
variable {P : Program} {t : TypeId}
theorem wf_rng {k : IntKind} {n : Int} (h : (Lit.int k n).wf = true) : loK k ≤ n ∧ n ≤ hiK k := by
  cases k <;> simp [Lit.wf, IntKind.min, IntKind.max, IntKind.signed, IntKind.bits] at h <;> exact ⟨h.1, h.2⟩
theorem opk_int {k : IntKind} (ht : P.underlying t = some (.int k)) (hl : P.cellsOf t = 1) : Opk P t [.i k] := ⟨hl, fun h => by
  obtain ⟨n, rfl, rfl, hw⟩ := DataW.trod_int ht h
  exact ⟨[.n n], rfl, by simp only [wtL, wt]; exact ⟨wf_rng hw, trivial⟩, by simp only [liesL, lies]; exact ⟨trivial, trivial⟩⟩⟩
theorem opk_bool (ht : P.underlying t = some .bool) (hl : P.cellsOf t = 1) : Opk P t [.b] := ⟨hl, fun h => by
  obtain ⟨n, rfl, rfl⟩ := DataW.trod_bool ht h
  exact ⟨[.b n], rfl, by simp only [wtL, wt]; exact ⟨trivial, trivial⟩, by simp only [liesL, lies]; exact ⟨trivial, trivial⟩⟩⟩
theorem opk_str (ht : P.underlying t = some .string) (hl : P.cellsOf t = 1) : Opk P t [.s] := ⟨hl, fun h => by
  obtain ⟨⟨⟨n⟩⟩, rfl, rfl, hw⟩ := DataW.trod_string ht h
  have hw : n.length ≤ maxLen := by simpa [ByteArray.size] using hw
  have e : maxL = maxLen := by unfold maxL; decide
  exact ⟨[.s n], rfl, by simp only [wtL, wt, e]; exact ⟨hw, trivial⟩, by simp only [liesL, lies]; exact ⟨trivial, trivial⟩⟩⟩
theorem wtE_map {ι : Type} {ks : List CK} {f : ι → List LD} (h : ∀ i, wtL (f i) ks) : ∀ l : List ι, wtE (l.map fun i => .t (f i)) ks
  | [] => by simp [wtE]
  | i :: l => by simp only [List.map_cons, wtE, wtT]; exact ⟨h i, wtE_map h l⟩
theorem liesE_map {ι : Type} {R : Addr → List Value → Prop} {ks : List CK} {f : ι → List LD} (h : ∀ i, liesL R (f i) ks) : ∀ l : List ι, liesE R (l.map fun i => .t (f i)) ks
  | [] => by simp [liesE]
  | i :: l => by simp only [List.map_cons, liesE, liesT]; exact ⟨h i, liesE_map h l⟩
theorem opk_slice {e n : TypeId} {ks : List CK} (ht : P.underlying t = some (.slice e)) (hl : P.cellsOf t = 1) (hk : ks ≠ []) (ly : Vb.ly[n]? = some ks) (o : Opk P e ks) : Opk P t [.l n] := ⟨hl, fun {H enc w base sp held fuel cs x} h => by
  rcases DataW.trod_slice ht h with ⟨rfl, rfl⟩ | ⟨a, len, cap, elems, rest, m, _, rfl, rfl, hb, hl, hm, hlen, hel, _⟩
  · exact ⟨[.nul], rfl, by simp only [wtL, wt]; exact ⟨trivial, trivial⟩, by simp only [liesL, lies]; exact ⟨trivial, trivial⟩⟩
  have each : ∀ i : Fin len, ∃ ds : List LD, wtL ds ks ∧ liesL (env0 w.heap).rd ds ks ∧ ∀ j, j < ks.length → w.cell? ((a.add (i.val * ks.length)).add j) = (LD.vs ks ds)[j]? := by
    intro i
    have hi := hel i.val i.isLt
    rw [o.len, List.getElem?_eq_getElem (by rw [hlen]; exact i.isLt), Option.bind_eq_some_iff] at hi
    obtain ⟨ci, h1, h2⟩ := hi
    obtain ⟨_, h3, h4⟩ := World.cells?_some h1
    obtain ⟨ds, rfl, h6, h7⟩ := o.run h2
    exact ⟨ds, h6, h7, h4⟩
  obtain ⟨f, hf⟩ := Classical.axiomOfChoice each
  have hpos : 0 < ks.length := by cases ks <;> simp_all
  have hvl : ∀ i : Fin len, (LD.vs ks (f i)).length = ks.length := fun i => (vs_len (hf i).1).1
  have e : maxL = maxLen := by unfold maxL; decide
  have hes : ((List.finRange len).map fun i => LD.t (f i)).length = len := by rw [List.length_map, List.length_finRange]
  refine ⟨[.l a cap ((List.finRange len).map fun i => .t (f i))], ?_, ?_, ?_⟩
  · simp only [LD.vs, LD.v, hes]
  · simp only [wtL, wt]
    rw [ly]
    exact ⟨⟨by rw [hes]; exact hl, by rw [hes, e]; omega, hk, wtE_map (fun i => (hf i).1) _⟩, trivial⟩
  · simp only [liesL, lies]
    rw [ly]
    refine ⟨⟨?_, liesE_map (fun i => (hf i).2.1) _⟩, trivial⟩
    intro g hg
    have hvs : LD.vsE ks ((List.finRange len).map fun i => LD.t (f i)) = (List.finRange len).flatMap fun i => LD.vs ks (f i) := by
      simp [LD.vsE, List.flatMap_map, LD.cs]
    rw [hvs]
    rcases Nat.eq_zero_or_pos len with h0 | h0
    · subst h0; exact .inl (by simp [List.finRange])
    have hsp : a.spot = none := by
      have h1 := (hf ⟨0, h0⟩).2.2 0 hpos
      have h2 : (LD.vs ks (f ⟨0, h0⟩))[0]? = some ((LD.vs ks (f ⟨0, h0⟩))[0]'(by rw [hvl]; exact hpos)) := List.getElem?_eq_getElem _
      rw [h2] at h1
      simp only [Nat.zero_mul, Addr.add] at h1
      simpa using World.cell?_spot h1
    obtain ⟨b, off, spot⟩ := a
    simp only at hsp
    subst hsp
    refine .inr ⟨b, off, rfl, fun j x hx => ?_⟩
    have hjl := (List.getElem?_eq_some_iff.1 hx).1
    rw [fK_len (enc := fun i : Fin len => LD.vs ks (f i)) hvl, List.length_finRange] at hjl
    have hq : j / ks.length < len := (Nat.div_lt_iff_lt_mul hpos).2 hjl
    have hr : j % ks.length < ks.length := Nat.mod_lt _ hpos
    have hcell := (hf ⟨j / ks.length, hq⟩).2.2 (j % ks.length) hr
    have hsome : (LD.vs ks (f ⟨j / ks.length, hq⟩))[j % ks.length]? = some ((LD.vs ks (f ⟨j / ks.length, hq⟩))[j % ks.length]'(by rw [hvl]; exact hr)) := List.getElem?_eq_getElem _
    have hget := fK_get (enc := fun i : Fin len => LD.vs ks (f i)) hvl (l := List.finRange len) (i := j / ks.length) (a := ⟨j / ks.length, hq⟩) (by simp [List.finRange, hq]) hsome
    rw [Nat.div_add_mod' j ks.length] at hget
    rw [hget] at hx
    rw [hsome, hx] at hcell
    rw [WideShapes.add_plain, WideShapes.add_plain] at hcell
    rw [show off + j / ks.length * ks.length + j % ks.length = off + j by rw [Nat.add_assoc, Nat.div_add_mod']] at hcell
    rw [cell?_eq] at hcell
    have hg1 : ∀ (b : Nat) (o : Obj), w.heap[b]? = some o → g[b]? = some o := hg.1
    unfold cellAt at hcell ⊢
    cases hb : w.heap[b]? with
    | none => simp [hb] at hcell
    | some o => simp only [hb, hg1 b o hb] at hcell ⊢; exact hcell⟩
/-- The fields of a struct, one behind the other. -/
inductive OpkF [Vb] (P : Program) : List Field → Nat → List CK → Prop where
  | nil (o : Nat) : OpkF P [] o []
  | cons (f : Field) (r : List Field) (o : Nat) (ks ks' : List CK) : f.offset = o → Opk P f.type ks → OpkF P r (o + ks.length) ks' → OpkF P (f :: r) o (ks ++ ks')
theorem opkF_run {H : Type} {enc : TypeId × Value → H} {w : World} {base : Nat} {sp : Nat → Bool} {held : Bool} {n : Nat} {cs : List Value} : ∀ {fs : List Field} {o : Nat} {ks : List CK}, OpkF P fs o ks → ∀ {xs : List (DataW H × List MemPlace)}, xs.length = fs.length → cs.length = o + ks.length →
    (∀ (i : Nat) (f : Field), fs[i]? = some f → DataW.trod enc P w base sp held n f.type ((cs.drop f.offset).take (P.cellsOf f.type)) = xs[i]?) → ∃ ds : List LD, cs.drop o = LD.vs ks ds ∧ wtL ds ks ∧ liesL (env0 w.heap).rd ds ks
  | [], o, _, .nil _, xs, _, hc, _ => ⟨[], by simp only [LD.vs]; exact List.drop_eq_nil_of_le (by simp only [List.length_nil] at hc; omega), by simp only [wtL], by simp only [liesL]⟩
  | f :: r, o, _, .cons _ _ _ ks ks' ho hk hr, xs, hl, hc, hf => by
    match xs, hl with
    | x :: xs, hl =>
    have h1 := hf 0 f rfl
    simp only [List.getElem?_cons_zero] at h1
    obtain ⟨ds, e1, w1, l1⟩ := hk.run h1
    rw [ho, hk.len] at e1
    rw [List.length_append] at hc
    obtain ⟨ds', e2, w2, l2⟩ := opkF_run (cs := cs) hr (xs := xs) (by simpa using hl) (by omega) fun i g hg => by
      have := hf (i + 1) g (by simpa using hg)
      simpa using this
    have hlen := (vs_len w1).2
    refine ⟨ds ++ ds', ?_, wtL_append w1 w2, liesL_append hlen l1 l2⟩
    rw [vs_append hlen, ← e1, ← e2, ← List.drop_drop, List.take_append_drop]
theorem opk_struct {fs : Array Field} {ks : List CK} (ht : P.underlying t = some (.struct fs)) (hl : P.cellsOf t = ks.length) (h : OpkF P fs.toList 0 ks) : Opk P t ks := ⟨hl, fun {H enc w base sp held fuel cs x} hx => by
  obtain ⟨xs, n, _, _, hc, hxl, hf⟩ := DataW.trod_struct ht hx
  obtain ⟨ds, e, w1, l1⟩ := opkF_run h (xs := xs) (cs := cs) (by rw [hxl]; simp) (by rw [hc, hl]; omega) fun i f hi => hf i f (by simpa using hi)
  exact ⟨ds, by simpa using e, w1, l1⟩⟩
end Go.Va
set_option linter.unusedVariables false
set_option linter.unusedSectionVars false
noncomputable section
namespace Go.Va
open Go Go.Sh Go.ChangeShapes Go.WideShapes Go.ChangeAt Go.RowKit
variable [Vb]
def leafL : List CK → List LD → List FV
  | k :: ks, d :: ds => leaf k d :: leafL ks ds
  | _, _ => []
theorem leafL_den {E : Env} : ∀ {ks : List CK} {ds : List LD}, wtL ds ks → liesL E.rd ds ks → denL E (leafL ks ds) = some (LD.vs ks ds) ∧ (leafL ks ds).all oneF = true
  | [], [], _, _ => ⟨rfl, rfl⟩
  | [], d :: ds, h, _ => by simp only [wtL] at h
  | k :: ks, [], h, _ => by simp only [wtL] at h
  | k :: ks, d :: ds, h, l => by
    simp only [wtL] at h
    simp only [liesL] at l
    obtain ⟨e1, e2⟩ := leafL_den h.2 l.2
    refine ⟨denL_of (leaf_den ⟨h.1, l.1⟩) e1, ?_⟩
    simp only [leafL, List.all_cons, leaf_one, Bool.true_and]; exact e2
section
variable {P : Program} {t : TypeId} {ks : List CK} {H : Type} {enc : TypeId × Value → H} {W : World} {base : Nat} {sp : Nat → Bool} {held : Bool} {v : Value} {d : DataW H} {ps : List MemPlace} {r : Reach} {b0 : Nat}
/-- An argument that is a struct. -/
theorem opk_agg (o : Opk P t ks) {fs : Array Field} (ht : P.underlying t = some (.struct fs)) (hv : Value.okWide P W r b0 t v) (hd : DataW.Trod enc P W base sp held t v d ps) : ∃ ds : List LD, wtL ds ks ∧ liesL (env0 W.heap).rd ds ks ∧ den (env0 W.heap) (.agg (leafL ks ds)) = some v := by
  obtain ⟨cs, rfl, _⟩ := okWide_struct ht hv
  obtain ⟨fuel, hf⟩ := hd
  obtain ⟨ds, e, h1, h2⟩ := o.run hf
  refine ⟨ds, h1, h2, ?_⟩
  obtain ⟨e1, e2⟩ := leafL_den (E := env0 W.heap) h1 h2
  simp only [den, e1]
  rw [if_pos e2]
  have : LD.vs ks ds = cs.toList := e.symm
  rw [this]
/-- An argument of one cell. -/
theorem opk_one {k : CK} (o : Opk P t [k]) (hv : v.cells = #[v]) (hd : DataW.Trod enc P W base sp held t v d ps) : ∃ x : LD, wt x k ∧ lies (env0 W.heap).rd x k ∧ den (env0 W.heap) (leaf k x) = some v := by
  obtain ⟨fuel, hf⟩ := hd
  obtain ⟨ds, e, h1, h2⟩ := o.run hf
  rw [hv] at e
  match ds, h1, h2, e with
  | [x], h1, h2, e =>
    simp only [wtL] at h1
    simp only [liesL] at h2
    refine ⟨x, h1.1, h2.1, ?_⟩
    rw [leaf_den ⟨h1.1, h2.1⟩]
    have : [v] = [LD.v k x] := e
    rw [(List.cons.inj this).1]
end
variable {P : Program}
theorem runsA_ok {tab : Tr FFn} (ht : ∀ i f, tab.get i = some f → KOk P i f) {b lf n i : Nat} {l : List FV} {s : Scr} {vs : List Value} (hx : eng tab lf n i l ⟨skel b 0, 0, s⟩ fun x _ => ansB x) (w : World) (hd : denL (env0 w.heap) l = some vs)
    (hc : ∀ args w, (callFunc i args).run P w = .ok (.enter i args) w) : Calls P i vs.toArray w fun e w' => e = .returned (.bool true) ∧ SameW w w' ∧ Ext w.heap w'.heap := by
  have h := eng_ok (P := P) id ht n i l _ _ hx (env0 w.heap) w.heap w.heap [] vs (rep0 w.heap b s) hd w rfl
  rw [hc] at h
  refine (HC.calls (fun _ _ h => h) h.2 w rfl).mono ?_
  rintro e w' ⟨v, rfl, hs, F, x, th', hle, hv, r, hb⟩
  cases x <;> simp only [ansB] at hb
  subst hb
  simp only [den, Option.some.injEq] at hv
  subst hv
  exact ⟨rfl, hs, r.st.ext⟩
end Go.Va
