/- The library's sort of a row of one's own, over any program. -/
import Derived.Test.YtfhbpghgcgmegaaOp
import Derived.Test.YtfhbpghgcgmegaaOrd
import Derived.Shelf.SlSortCmp.NoneTotal
set_option linter.unusedVariables false
namespace Go.Sh
open Go.Proofs Go.Lib Go.Sort Go.Shelf
variable {P : Program} {ρ : Ren} {α : Type} [Inhabited α]

theorem putCells_mid (enc : α → Value) (pre post : List Value) (d d' : List α) (hl : d'.length = d.length) :
    putCells enc pre.length d'.toArray (pre ++ d.map enc ++ post).toArray = (pre ++ d'.map enc ++ post).toArray := by
  apply Array.ext_getElem?
  intro j
  simp only [putCells, Array.getElem?_mapIdx, List.getElem?_toArray, List.size_toArray, hl]
  rcases Nat.lt_or_ge j pre.length with h1 | h1
  · rw [List.append_assoc, List.append_assoc, List.getElem?_append_left h1, List.getElem?_append_left h1, List.getElem?_eq_getElem h1]
    simp only [Option.map_some]
    rw [if_neg (by omega)]
  · rw [List.append_assoc, List.append_assoc, List.getElem?_append_right h1, List.getElem?_append_right h1]
    rcases Nat.lt_or_ge (j - pre.length) d.length with h2 | h2
    · rw [List.getElem?_append_left (by simpa using h2), List.getElem?_append_left (by simp; omega)]
      rw [List.getElem?_map, List.getElem?_map, List.getElem?_eq_getElem h2, List.getElem?_eq_getElem (by omega : j - pre.length < d'.length)]
      simp only [Option.map_some]
      rw [if_pos (by omega)]
      congr 2
      rw [getElem!_pos _ _ (by simp; omega)]
      simp
    · rw [List.getElem?_append_right (by simpa using h2), List.getElem?_append_right (by simp; omega)]
      simp only [List.length_map, hl]
      cases hx : post[j - pre.length - d.length]? with
      | none => rfl
      | some x =>
        simp only [Option.map_some]
        rw [if_neg (by omega)]

theorem sort_row (L : SlLaysF.n6 P ρ) (enc : α → Value) (h1 : OneCell enc) (cf : α → α → Int) (hO : SWO (ltOf cf)) (hT : ∀ x y, (ltOf cf) x y = false → (ltOf cf) y x = false → x = y) (g : Nat) (cb : Array Value)
    (eg : ∀ args w, (callFunc g args).run P w = .ok (.enter g args) w) (hc : ∀ x y w, Calls P g (#[enc x, enc y] ++ cb) w fun e w' => e = .returned (.int .i64 (cf x y)) ∧ w' = w)
    {h0 h : Heap} {v : Value} {d : List α} {M : List HP} (s : St h0 h (Row 1 v d.length (d.map enc) :: M)) (hsz : d.length < 4611686018427387904) :
    HC P (ρ.f 6) #[v, .func (.func g) #[] cb] h fun u h' => u = .tuple #[] ∧ St h0 h' (Row 1 v d.length ((d.mergeSort fun x y => !(ltOf cf) y x).map enc) :: M) := by
  intro w hw
  have hml : (d.mergeSort fun x y => !(ltOf cf) y x).length = d.length := List.length_mergeSort d
  obtain ⟨_, S0, ⟨_, hown⟩, _, _⟩ := id s
  rcases hown with ⟨rfl, hn⟩ | ⟨a, cap, post, rfl, hcap, hpost, hcells⟩
  · have hd : d = [] := by simpa using hn
    subst hd
    refine (AnyF.slices_SortFunc_none { L with } none 0 (.func (.func g) #[] cb) w).mono ?_
    rintro e w' ⟨rfl, rfl⟩
    exact ⟨_, rfl, .refl _, rfl, by rw [hw]; simpa using s⟩
  · obtain ⟨b, o, T, pre, post', hp, hSb, hb, rfl⟩ := hcells
    simp only [Value.pointer.injEq, Option.some.injEq] at hp
    subst hp
    have hblk : b < w.heap.size := by rw [hw]; exact lt_of_some hb
    have hH : Holds enc w b pre.length d.toArray := by
      intro j hj
      simp only [List.size_toArray] at hj
      constructor
      · rw [cell?_eq, hw]
        simp only [cellAt, hb, Option.isSome_none, Bool.false_eq_true, if_false, List.getElem?_toArray]
        rw [List.append_assoc, List.append_assoc, List.getElem?_append_right (by omega), Nat.add_sub_cancel_left, List.getElem?_append_left (by simpa using hj), List.getElem?_map, List.getElem?_eq_getElem hj,
          getElem!_pos _ _ (by simpa using hj)]
        simp
      · rw [frozen?_eq, hw]
        simp [frozenAt, hb]
    have hcmp : CmpLays1 P g cb enc cf b pre.length d.toArray.size w := CmpReads.lays fun m os dk hs x y => (hc x y _).mono fun e w' ⟨he, hw'⟩ => ⟨he, 0, hw'⟩
    have hcall := Any.slices_SortFunc_total L enc h1 cf hO g cb b pre.length cap d.toArray w eg hcmp hH hblk (by simpa using hsz) hT
    simp only [List.size_toArray] at hcall
    refine hcall.mono ?_
    rintro e w' ⟨rfl, n, os, rfl⟩
    refine ⟨_, rfl, ⟨rfl, rfl, rfl⟩, rfl, ?_⟩
    refine St.step s fun S hA hS => ?_
    obtain ⟨hl, hown⟩ := hA
    have hheap : (sortWorld enc w b pre.length n (d.mergeSort fun x y => !(ltOf cf) y x).toArray os).heap = (setB h b (.cells (pre ++ (d.mergeSort fun x y => !(ltOf cf) y x).map enc ++ (post ++ post')).toArray T (0, 0))) ++ os := by
      show (w.heap.modify b _) ++ os = _
      congr 1
      rw [hw]
      apply Array.ext_getElem?
      intro i
      rw [Array.getElem?_modify]
      by_cases hi : b = i
      · subst hi
        rw [setB_eq (lt_of_some hb), if_pos rfl, hb]
        simp only [Option.map_some, onCells]
        congr 2
        have := putCells_mid enc pre (post ++ post') d (d.mergeSort fun x y => !(ltOf cf) y x) hml
        simpa using this
      · rw [if_neg hi, setB_ne (fun e => hi e.symm)]
    rw [hheap]
    have hb2 : ∀ i, i < h.size → (setB h b (.cells (pre ++ (d.mergeSort fun x y => !(ltOf cf) y x).map enc ++ (post ++ post')).toArray T (0, 0)) ++ os)[i]? = (setB h b (.cells (pre ++ (d.mergeSort fun x y => !(ltOf cf) y x).map enc ++ (post ++ post')).toArray T (0, 0)))[i]? := fun i hi => by
      rw [Array.getElem?_append_left (by rw [setB_size]; exact hi)]
    rcases hown with ⟨hv, _⟩ | ⟨a', cap', post1, hv, h2, h3, h4⟩
    · cases hv
    · simp only [Value.slice.injEq, Option.some.injEq, true_and] at hv
      obtain ⟨rfl, rfl⟩ := hv
      obtain ⟨b', o', T', pre1, post2, hp, hS1, hb1, ho1⟩ := h4
      simp only [Value.pointer.injEq, Option.some.injEq, Addr.mk.injEq, and_true] at hp
      obtain ⟨rfl, rfl⟩ := hp
      refine ⟨by rw [Array.size_append, setB_size]; omega, fun i hi hni => ?_, S, ⟨?_, .inr ⟨_, cap, post, rfl, hcap, hpost, b, pre.length, T, pre, post', rfl, hS1, ?_, rfl⟩⟩, fun i hi => .inl hi⟩
      · rw [hb2 i hi, setB_ne (fun e : i = b => hni (by rw [e]; exact hS1))]
      · simp [hml]
      · rw [hb2 b (lt_of_some hb), setB_eq (lt_of_some hb)]
        simp
end Go.Sh
