/- A law whose argument is a slice of strings that the caller owns: it is told, and read only. No program. -/
import Derived.Test.YtojhofdndohhdaaGreatLw
import Derived.Test.YtojhofdndohhdaaGreatVsc
import Derived.ChangeArms
set_option linter.unusedVariables false
set_option linter.unusedSectionVars false
set_option linter.unusedSimpArgs false
noncomputable section
namespace Go.Va
open Go Go.Sh Go.ChangeShapes Go.WideShapes Go.ChangeAt Go.RowKit
/-- A block that stays as it is there. -/
def At (H : Heap) (i : Nat) : HP := ⟨fun h S => S i ∧ h[i]? = H[i]?, fun h h' S ⟨h1, h2⟩ he => ⟨h1, (he i h1).trans h2⟩⟩
theorem sep_at {H h : Heap} : ∀ {l : List Nat} {U : Nat → Prop}, l.Nodup → (∀ i ∈ l, U i ∧ h[i]? = H[i]?) → Sep h (l.map (At H)) U
  | [], _, _, _ => trivial
  | i :: r, U, hn, hu => by
    simp only [List.nodup_cons] at hn
    refine ⟨fun b => b = i, ⟨rfl, (hu i (.head _)).2⟩, fun b hb => hb ▸ (hu i (.head _)).1, sep_at hn.2 fun j hj => ⟨⟨(hu j (.tail _ hj)).1, fun e => hn.1 (e ▸ hj)⟩, (hu j (.tail _ hj)).2⟩⟩
theorem sep_mem {h : Heap} {A : HP} : ∀ {L : List HP} {U : Nat → Prop}, Sep h L U → A ∈ L → ∃ S, A.own h S
  | B :: L, U, ⟨S, a, _, c⟩, hm => by
    rcases List.mem_cons.1 hm with rfl | hm
    · exact ⟨S, a⟩
    · exact sep_mem c hm
def others (H : Heap) (b : Nat) : List Nat := (List.range H.size).filter fun i => !(Nat.beq i b)
theorem mem_others {H : Heap} {b i : Nat} : i ∈ others H b ↔ i < H.size ∧ i ≠ b := by
  simp only [others, List.mem_filter, List.mem_range, Bool.not_eq_true']
  exact and_congr_right fun _ => ⟨fun h => beq_f h, fun h => beq_of_ne h⟩
section
variable [Vl]
variable {P : Program}
def envP (a : Addr) (c : Nat) : Env := ⟨fun j => bif Nat.beq j 0 then some a else none, fun j => bif Nat.beq j 0 then c else 0, fun _ => false⟩
theorem envP_fr {a : Addr} {c : Nat} : ∀ i, 1 ≤ i → (envP a c).p i = none ∧ (envP a c).r i = false := fun i hi => ⟨by simp only [envP]; rw [beq_of_ne (by omega)]; rfl, rfl⟩
/-- It answers true; what was told to be read is as it was. -/
def roRun (tab : Tr FFn) (b lf n i : Nat) (v : FV) (cs : List FV) (s : Scr) : Prop := engF tab lf n i [v] ⟨bldT b [(0, .ro cs)], 1, s⟩ fun x th => x = .bool true ∧ th.t.get 0 = some (.ro cs)
def poRun (tab : Tr FFn) (b lf n i : Nat) (v : FV) (s : Scr) : Prop := engF tab lf n i [v] ⟨skel b 0, 1, s⟩ fun x _ => x = .bool true
/-- The same, shut. -/
structure RoRuns (tab : Tr FFn) (b lf n i : Nat) (v : FV) (cs : List FV) : Prop where
  run : ∃ s, roRun tab b lf n i v cs s
structure PoRuns (tab : Tr FFn) (b lf n i : Nat) (v : FV) : Prop where
  run : ∃ s, poRun tab b lf n i v s
theorem add0 (a : Addr) : a.add 0 = a := by
  have := padd_zero (.pointer (some a))
  simpa [padd] using this
theorem den_sl0 {a : Addr} {c n : Nat} (h : n ≤ c) : den (envP a c) (.sl 0 0 0 n (.hid 0)) = some (.slice (some a) n c) := by
  have hp : (envP a c).p 0 = some a := rfl
  have hc : (envP a c).c 0 = c := rfl
  simp only [den, hp, hc, Nat.add_zero, if_pos h, Nat.sub_zero, ite_self, add0]
theorem po_ok {tab : Tr FFn} (ht : ∀ i f, tab.get i = some f → KOk P i f) {b lf n i : Nat} {v : FV} {u : Value} {a : Addr} {c : Nat} (hx : PoRuns tab b lf n i v) (hd : den (envP a c) v = some u) (w : World)
    (hc : ∀ args w, (callFunc i args).run P w = .ok (.enter i args) w) : Calls P i #[u] w fun e w' => e = .returned (.bool true) ∧ SameW w w' ∧ Ext w.heap w'.heap := by
  obtain ⟨s, hx⟩ := hx.run
  unfold poRun at hx
  rw [engF_eq] at hx
  have r : Rep (envP a c) ⟨skel b 0, 1, s⟩ w.heap w.heap [] := ⟨by
    show St w.heap w.heap ((skel b 0 : Tr TO).all.map (part (envP a c)) ++ [])
    rw [skel_all]; exact St.nil _, envP_fr⟩
  have h := eng_ok (P := P) id ht n i [v] _ _ hx (envP a c) w.heap w.heap [] [u] r (by simp only [denL, hd]) w rfl
  rw [hc] at h
  refine (HC.calls (fun _ _ h => h) h.2 w rfl).mono ?_
  rintro e w' ⟨v', rfl, hs, F, x, th', hle, hv, r, rfl⟩
  simp only [den, Option.some.injEq] at hv
  subst hv
  exact ⟨rfl, hs, r.st.ext⟩
theorem ro_ok {tab : Tr FFn} (ht : ∀ i f, tab.get i = some f → KOk P i f) {b lf n i : Nat} {v : FV} {cs : List FV} {u : Value} {a : Addr} {c : Nat} {vs : List Value} (hx : RoRuns tab b lf n i v cs) (hd : den (envP a c) v = some u)
    (hcs : denL (envP a c) cs = some vs) (h1 : cs.all oneF = true) (w : World) (ho : w.heap[a.block]? = some Vb.o) (hrd : ∀ h : Heap, h[a.block]? = some Vb.o → Rd h (.pointer (some a)) vs)
    (hc : ∀ args w, (callFunc i args).run P w = .ok (.enter i args) w) : Calls P i #[u] w fun e w' => e = .returned (.bool true) ∧ SameW w w' ∧ Ext w.heap w'.heap := by
  obtain ⟨s, hx⟩ := hx.run
  unfold roRun at hx
  rw [engF_eq] at hx
  have hp0 : (envP a c).p 0 = some a := rfl
  have hb : a.block < w.heap.size := (Array.getElem?_eq_some_iff.1 ho).1
  have hst : St #[] w.heap ([(0, TO.ro cs)].map (part (envP a c)) ++ (others w.heap a.block).map (At w.heap)) := by
    refine ⟨⟨Nat.zero_le _, fun b hb => absurd hb (Nat.not_lt_zero _)⟩, fun j => j = a.block, ⟨(a, vs), ⟨hp0, hcs, h1, hrd⟩, rfl, ho⟩, fun j hj => ⟨Nat.zero_le _, by rw [hj]; exact hb⟩, ?_⟩
    refine sep_at (List.nodup_range.filter _) fun j hj => ?_
    obtain ⟨g1, g2⟩ := mem_others.1 hj
    exact ⟨⟨⟨Nat.zero_le _, g1⟩, g2⟩, rfl⟩
  have r : Rep (envP a c) ⟨bldT b [(0, .ro cs)], 1, s⟩ #[] w.heap ((others w.heap a.block).map (At w.heap)) :=
    ⟨hst.perm (((bldT_perm (by simp)).map (part (envP a c))).append_right _).symm, envP_fr⟩
  have h := eng_ok (P := P) id ht n i [v] _ _ hx (envP a c) #[] w.heap _ [u] r (by simp only [denL, hd]) w rfl
  rw [hc] at h
  refine (HC.calls (fun _ _ h => h) h.2 w rfl).mono ?_
  rintro e w' ⟨v', rfl, hs, F, x, th', hle, hv, r, rfl, hg⟩
  simp only [den, Option.some.injEq] at hv
  subst hv
  obtain ⟨a', us, hro, s1⟩ := r.toldR hg
  have ha : a' = a := by
    have := (hle.p 0 a hp0).1
    rw [hro.1] at this
    exact Option.some.inj this
  subst ha
  obtain ⟨S, ⟨_, hbo⟩, _⟩ := s1.get
  have hall : ∀ j, j < w.heap.size → w'.heap[j]? = w.heap[j]? := fun j hj => by
    by_cases hja : j = a'.block
    · rw [hja, hbo, ho]
    · obtain ⟨S, hS⟩ := sep_mem (A := At w.heap j) r.st.2 (List.mem_append_right _ (List.mem_map.2 ⟨j, mem_others.2 ⟨hj, hja⟩, rfl⟩))
      exact hS.2
  refine ⟨rfl, hs, ?_, hall⟩
  have h2 := hall (w.heap.size - 1) (by omega)
  rw [Array.getElem?_eq_getElem (xs := w.heap) (by omega)] at h2
  have := (Array.getElem?_eq_some_iff.1 h2).1
  omega
end
section
variable {H : Type} {enc : TypeId × Value → H} {P : Program}
/-- Strings that stand in a block. -/
theorem strs_in {W : World} {t e : TypeId} {r : Reach} {b0 : Nat} {v : Value} {d : DataW H} {ps : List MemPlace} (ht : P.underlying t = some (.slice e)) (he : P.underlying e = some .string) (hc : P.cellsOf e = 1)
    (hval : Value.okWide P W r b0 t v) (hd : DataW.Trod enc P W 0 (fun _ => true) true t v d ps) :
    v = .slice none 0 0 ∨ ∃ (a : Addr) (cap : Nat) (ss : List Str), v = .slice (some a) ss.length cap ∧ ss.length ≤ cap ∧ (∀ s ∈ ss, (s.length : Int) ≤ 9223372036854775807) ∧
      (ss ≠ [] → ∃ o, W.heap[a.block]? = some o ∧ ∀ h : Heap, h[a.block]? = some o → Rd h (.pointer (some a)) (ss.map str)) := by
  obtain ⟨a0, len, cap, rfl⟩ := okWide_slice ht hval
  obtain ⟨fuel, hf⟩ := hd
  rcases DataW.trod_slice ht hf with ⟨hcs, _⟩ | ⟨a, len', cap', elems, rest, n, _, hcs, _, _, hl, hm, hlen, hel, _⟩
  · simp only [Value.cells, List.cons.injEq, and_true] at hcs
    exact .inl hcs
  simp only [Value.cells, List.cons.injEq, Value.slice.injEq, and_true] at hcs
  obtain ⟨rfl, rfl, rfl⟩ := hcs
  have each : ∀ i : Fin len, ∃ s : Str, (s.length : Int) ≤ 9223372036854775807 ∧ W.cell? (a.add i.val) = some (str s) := by
    intro i
    have hi := hel i.val i.isLt
    rw [hc, Nat.mul_one, List.getElem?_eq_getElem (by rw [hlen]; exact i.isLt), Option.bind_eq_some_iff] at hi
    obtain ⟨ci, h1, h2⟩ := hi
    obtain ⟨_, h3, h4⟩ := World.cells?_some h1
    obtain ⟨⟨⟨s⟩⟩, rfl, _, hw⟩ := DataW.trod_string he h2
    refine ⟨s, ?_, ?_⟩
    · have : s.length ≤ maxLen := by simpa [ByteArray.size] using hw
      have hm : (maxLen : Nat) ≤ 9223372036854775807 := by decide
      omega
    · have := h4 0 (by omega)
      have e0 : ∀ x : Addr, x.add 0 = x := fun x => by
        have := padd_zero (.pointer (some x))
        simpa [padd] using this
      rw [e0] at this
      exact this
  obtain ⟨f, hf'⟩ := Classical.axiomOfChoice each
  refine .inr ⟨a, cap, (List.finRange len).map f, by rw [List.length_map, List.length_finRange], by rw [List.length_map, List.length_finRange]; exact hl, fun s hs => ?_, fun hne => ?_⟩
  · obtain ⟨i, _, rfl⟩ := List.mem_map.1 hs
    exact (hf' i).1
  · have h0 : 0 < len := by
      rcases Nat.eq_zero_or_pos len with h0 | h0
      · subst h0; simp [List.finRange] at hne
      · exact h0
    have hc0 := (hf' ⟨0, h0⟩).2
    have hsp : a.spot = none := by simpa [Addr.add] using World.cell?_spot hc0
    obtain ⟨b, off, spot⟩ := a
    simp only at hsp
    subst hsp
    have hb : b < W.heap.size := cellAt_lt hc0
    refine ⟨W.heap[b], Array.getElem?_eq_getElem hb, fun h hh => .inr ⟨b, off, rfl, fun j x hx => ?_⟩⟩
    rw [List.getElem?_map, List.getElem?_map, Option.map_eq_some_iff] at hx
    obtain ⟨s, hs, rfl⟩ := hx
    rw [Option.map_eq_some_iff] at hs
    obtain ⟨i, hi, rfl⟩ := hs
    have hij : i.val = j := by
      have := List.getElem?_eq_some_iff.1 hi
      obtain ⟨h1, h2⟩ := this
      rw [← h2]; simp
    have hcell := (hf' i).2
    rw [hij, WideShapes.add_plain] at hcell
    rw [← hcell]
    have : h[b]? = W.heap[b]? := by rw [hh, Array.getElem?_eq_getElem hb]
    exact (cellAt_same (a := ⟨b, off + j, none⟩) this)
end
end Go.Va
