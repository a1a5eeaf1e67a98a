/- slices.Collect at a map's keys, over any program. -/
import Derived.Test.YtojhofdndohhdaaGreatVu
import Derived.Shelf.SlIter.Collect
set_option linter.unusedVariables false
namespace Go.Sh
open Go.Proofs Go.Shelf Go.Sort
variable {P : Program} {ρ ρ' : Ren}

/-- An element of a map, not looked at. -/
def anyE : Value → Option (DataW Unit × List MemPlace) := fun _ => some (.nil, [])
theorem ents_rg {k : TypeId} (hk : P.underlying k = some .string) : ∀ (m : List (Str × Value)) (st : List Nat), m.length = st.length → (∀ p ∈ m, p.1.length ≤ maxLen) →
    (ents m st).map (Go.WideElems.rg P k anyE) = m.map fun p => ((.string p.1 : Lit), (.nil : DataW Unit))
  | [], st, _, _ => by simp [ents]
  | p :: m, [], h, _ => by simp at h
  | p :: m, s :: st, h, hl => by
    have ih := ents_rg hk m st (by simpa using h) (fun q hq => hl q (by simp [hq]))
    unfold ents at ih ⊢
    simp only [List.zip_cons_cons, List.map_cons, ih]
    congr 1
    have h1 : keyOf P k (str p.1) = some (.string p.1) := by
      have := Go.WideMaps.keyOf_string_mk (P := P) (k := k) hk (s := ⟨p.1.toArray⟩) (by show p.1.toArray.size ≤ maxLen; rw [List.size_toArray]; exact hl p (by simp))
      simpa [str] using this
    simp [Go.WideElems.rg, Go.WideElems.rd, h1, anyE]
theorem ents_rd {k : TypeId} (hk : P.underlying k = some .string) : ∀ (m : List (Str × Value)) (st : List Nat), (∀ p ∈ m, p.1.length ≤ maxLen) →
    ∀ x ∈ ents m st, ∃ y, Go.WideElems.rd P k anyE x = some y
  | [], st, _ => by simp [ents]
  | p :: m, [], _ => by simp [ents]
  | p :: m, s :: st, hl => by
    have ih := ents_rd hk m st (fun q hq => hl q (by simp [hq]))
    unfold ents at ih ⊢
    simp only [List.zip_cons_cons, List.map_cons, List.mem_cons, forall_eq_or_imp]
    refine ⟨?_, ih⟩
    have h1 : keyOf P k (str p.1) = some (.string p.1) := by
      have := Go.WideMaps.keyOf_string_mk (P := P) (k := k) hk (s := ⟨p.1.toArray⟩) (by show p.1.toArray.size ≤ maxLen; rw [List.size_toArray]; exact hl p (by simp))
      simpa [str] using this
    exact ⟨(.string p.1, .nil), by simp [Go.WideElems.rd, h1, anyE]⟩
theorem ents_born : ∀ (m : List (Str × Value)) (st : List Nat), m.length = st.length → (ents m st).map (·.born) = st
  | [], [], _ => by simp [ents]
  | [], _ :: _, h => by simp at h
  | p :: m, [], h => by simp at h
  | p :: m, s :: st, h => by
    have ih := ents_born m st (by simpa using h)
    unfold ents at ih ⊢
    simp only [List.zip_cons_cons, List.map_cons, ih]
theorem ents_key : ∀ (m : List (Str × Value)) (st : List Nat), m.length = st.length → (ents m st).map (·.key) = m.map fun p => str p.1
  | [], [], _ => by simp [ents]
  | [], _ :: _, h => by simp at h
  | p :: m, [], h => by simp at h
  | p :: m, s :: st, h => by
    have ih := ents_key m st (by simpa using h)
    unfold ents at ih ⊢
    simp only [List.zip_cons_cons, List.map_cons, ih]
theorem ents_len (m : List (Str × Value)) (st : List Nat) (h : m.length = st.length) : (ents m st).length = m.length := by
  simp [ents, h]
theorem ownsMap_of {k : TypeId} (hk : P.underlying k = some .string) {w : World} {r : Nat} {m : List (Str × Value)} {st : List Nat} {c : Nat} (ok : MapOk m st c) (hb : w.heap[r]? = some (.map (ents m st).toArray c))
    (hl : ∀ p ∈ m, p.1.length ≤ maxLen) (hm : m.length ≤ maxLen) :
    w.ownsMap P k anyE r m.length (.map ((m.map fun p => ((.string p.1 : Lit), (.nil : DataW Unit))).foldr DataW.insert [])) := by
  refine ⟨_, c, hb, ⟨?_, ⟨?_, ?_, ?_⟩, ?_⟩, ?_, ?_⟩
  · rw [List.size_toArray, ents_len m st ok.len]; exact hm
  · intro x hx
    have : x.born ∈ (ents m st).map (·.born) := List.mem_map.2 ⟨x, by simpa using hx, rfl⟩
    rw [ents_born m st ok.len] at this
    exact ok.lt _ this
  · show ((ents m st).map (·.born)).Nodup
    rw [ents_born m st ok.len]
    exact ok.born
  · show ((ents m st).map (·.key)).Nodup
    rw [ents_key m st ok.len]
    have := ok.keys
    rw [List.Nodup, List.pairwise_map] at this ⊢
    exact this.imp fun h e => h (str_inj e)
  · exact ents_rd hk m st hl
  · rw [List.size_toArray, ents_len m st ok.len]; exact Nat.le_refl _
  · show _ = DataW.map (((ents m st).map (Go.WideElems.rg P k anyE)).foldr DataW.insert [])
    rw [ents_rg hk m st ok.len hl]
theorem strKeys_perm (m : List (Str × Value)) : (strKeys (.map ((m.map fun p => ((.string p.1 : Lit), (.nil : DataW Unit))).foldr DataW.insert []))).Perm (m.map (·.1)) := by
  have h := (Go.WideShapes.sorted_perm (m.map fun p => ((.string p.1 : Lit), (.nil : DataW Unit)))).map (fun p : Lit × DataW Unit => strOf p.1)
  show (List.map (fun p : Lit × DataW Unit => strOf p.1) _).Perm _
  refine h.trans ?_
  rw [List.map_map]
  exact .of_eq (List.map_congr_left fun p _ => rfl)
theorem collect_ok [Gd] (hg : ¬ Gd.g) (L8 : SlLaysZ.n8 P ρ) (L10 : SlLaysZ.n10 P ρ') (eg : ∀ args w, (callFunc (ρ'.f 10) args).run P w = .ok (.enter (ρ'.f 10) args) w)
    {h : Heap} {Bm r : Nat} {m : List (Str × Value)} {st : List Nat} {c : Nat} (hbox : cellAt h ⟨Bm, 0, none⟩ = some (.map (some r))) (ok : MapOk m st c) (hb : h[r]? = some (.map (ents m st).toArray c))
    (hl : ∀ p ∈ m, p.1.length ≤ 1000) (hm : m.length ≤ 1) :
    HC P (ρ.f 8) #[.func (.func (ρ'.f 10)) #[] #[.pointer (some ⟨Bm, 0, none⟩)]] h fun u h' => ∃ ks : List Str, ks.Perm (m.map (·.1)) ∧ (u = .slice none 0 0 ↔ ks = []) ∧ St h h' [Row 1 u ks.length (ks.map str)] := by
  have hmx : (1000000 : Nat) ≤ maxLen := by decide
  have hl : ∀ p ∈ m, p.1.length ≤ maxLen := fun p hp => by have := hl p hp; omega
  have hm : m.length ≤ 1000000 := by omega
  refine HC.of_ret fun w hw => ?_
  have hsz : Maps.size (.map ((m.map fun p => ((.string p.1 : Lit), (.nil : DataW Unit))).foldr DataW.insert [])) ≤ 1000000 := by
    have := (Go.WideShapes.sorted_perm (m.map fun p => ((.string p.1 : Lit), (.nil : DataW Unit)))).length_eq
    simp only [Maps.size]
    rw [this]
    simpa using hm
  have hown := ownsMap_of (P := P) (k := ρ'.t 26) L10.t26 (w := w) ok (by rw [hw]; exact hb) hl (by omega)
  have hBm : Bm < w.heap.size := by rw [hw]; exact cellAt_lt hbox
  have hseq := AnyZ.keys_gives L10 Fence.wide 3 trivial rfl (by omega) Bm r m.length _ w hBm (by rw [cell?_eq, hw]; exact hbox) hown
  have hcol := AnyZ.collect_in L8 Fence.wide 5 trivial trivial rfl (by omega) (ρ'.f 10) #[.pointer (some ⟨Bm, 0, none⟩)] trivial eg _ _ (by omega) (by omega) w hseq
  refine (callsIn_wide.1 hcol).mono ?_
  rintro e w' ⟨v, ss, rfl, hS, hrow, hnil, hbl⟩
  refine ⟨v, rfl, ⟨hbl.os, hbl.tape, hbl.output, fun g => absurd g hg⟩, ss, List.Perm.trans hS (strKeys_perm m), hnil, ?_⟩
  obtain ⟨hlen, hrow⟩ := hrow
  have e1 : ss.map encStr = ss.map str := rfl
  have hbk : ∀ b, b < h.size → w'.heap[b]? = h[b]? := fun b hb => by
    rw [← hw] at hb ⊢
    exact hbl.block b hb
  have hsize : h.size ≤ w'.heap.size := by rw [← hw]; exact hbl.size
  rcases hrow with ⟨rfl, hn⟩ | ⟨g, cap, cur, rfl, hbase, hcell, hcap, _, hcur, htake⟩
  · have : ss = [] := by simpa using hn
    subst this
    exact ⟨⟨hsize, hbk⟩, fun _ => False, ⟨by simp, .inl ⟨rfl, rfl⟩⟩, fun _ h => h.elim, trivial⟩
  · refine (St.nil h).new hsize hbk ⟨by simp, .inr ⟨⟨g, 0, none⟩, cap, cur.toList.drop ss.length, rfl, hcap, ?_, ?_⟩⟩
    · rw [List.length_drop, Array.length_toList, hcur]; omega
    · refine ⟨g, 0, ρ.t 26, [], [], rfl, ⟨by rw [← hw]; exact hbase, lt_of_some hcell⟩, ?_, rfl⟩
      rw [hcell]
      congr 2
      rw [Nat.mul_one] at htake
      rw [List.nil_append, List.append_nil, ← e1, ← htake, List.take_append_drop]
theorem col_of {i k : Nat} (L8 : SlLaysZ.n8 P ρ) (L10 : SlLaysZ.n10 P ρ') (hi : ρ.f 8 = i) (hk : ρ'.f 10 = k) (eg : ∀ args w, (callFunc k args).run P w = .ok (.enter k args) w) : Go.Va.ColOk P i k := by
  subst hi; subst hk
  exact fun G hg h b r m st c hbox ok hb hl hm => collect_ok hg L8 L10 eg hbox ok hb hl hm
end Go.Sh
