/- For every input 'CompAgain' returns true, and its argument reads behind the call as it did before; under no condition. -/
import Derived.Test.YtojhofdndohhdaaGreatAg
import Derived.Test.YtojhofdndohhdaaGreatFw
import Derived.Test.YtojhofdndohhdaaGreatKk
set_option linter.unusedVariables false
set_option maxRecDepth 100000
namespace Go.Proofs.YtojhofdndohhdaaGreat
open Go Go.Sh Go.Va
theorem tk_ok (B : Vb) : ∀ i f, (@tabt (vS B)).get i = some f → @KOk (vS B) Tryz.prog i f := fun i f h => @TabOk.get (vS B) _ _ _ _ (@tabt_all (vS B)) h
abbrev bS (ss : List Str) (h : ∀ s ∈ ss, (s.length : Int) ≤ 9223372036854775807) (o : Obj) : Vb := ⟨fun _ => 0, fun i => ss.getD i [], fun i => by
  rw [List.getD_eq_getElem?_getD]
  cases hi : ss[i]? with
  | none => simp
  | some s => exact h s (List.mem_of_getElem? hi), o⟩
abbrev b0 : Vb := bS [] (by simp) (.pending #[] 0)
abbrev Ans (W : World) (v : Value) : Prop := Calls Tryz.prog 4 #[v] W fun e w' => e = .returned (.bool true) ∧ SameW W w' ∧ Ext W.heap w'.heap

theorem ag1 (W : World) (a : Addr) (cap : Nat) (x0 : Str) (hc : 1 ≤ cap) (hl : ∀ s ∈ [x0], (s.length : Int) ≤ 9223372036854775807) (o : Obj) (ho : W.heap[a.block]? = some o) (hr : ∀ h : Heap, h[a.block]? = some o → Rd h (.pointer (some a)) ([x0].map str)) : Ans W (.slice (some a) 1 cap) := by
  letI : Vl := vS (bS [x0] hl o)
  exact ro_ok (tk_ok _) (v := .sl 0 0 0 1 (.hid 0)) (cs := [.sstr 0]) (vs := [x0].map str) ⟨⟨(.s .nil .nil), by rw [rn1]; exact ⟨fun _ => ⟨rfl, rfl⟩, fun _ => ⟨rfl, rfl⟩⟩⟩⟩ (den_sl0 hc) rfl rfl W ho hr Tryz.call4
theorem ag2 (W : World) (a : Addr) (cap : Nat) (x0 x1 : Str) (hc : 2 ≤ cap) (hl : ∀ s ∈ [x0, x1], (s.length : Int) ≤ 9223372036854775807) (o : Obj) (ho : W.heap[a.block]? = some o) (hr : ∀ h : Heap, h[a.block]? = some o → Rd h (.pointer (some a)) ([x0, x1].map str)) : Ans W (.slice (some a) 2 cap) := by
  letI : Vl := vS (bS [x0, x1] hl o)
  exact ro_ok (tk_ok _) (v := .sl 0 0 0 2 (.hid 0)) (cs := [.sstr 0, .sstr 1]) (vs := [x0, x1].map str) ⟨⟨(.s .nil (.s .nil .nil)), by rw [rn2]; exact ⟨fun _ => ⟨rfl, rfl⟩, fun _ => ⟨fun _ => ⟨rfl, rfl⟩, fun _ => ⟨rfl, rfl⟩⟩⟩⟩⟩ (den_sl0 hc) rfl rfl W ho hr Tryz.call4
theorem ag3 (W : World) (a : Addr) (cap : Nat) (x0 x1 x2 : Str) (hc : 3 ≤ cap) (hl : ∀ s ∈ [x0, x1, x2], (s.length : Int) ≤ 9223372036854775807) (o : Obj) (ho : W.heap[a.block]? = some o) (hr : ∀ h : Heap, h[a.block]? = some o → Rd h (.pointer (some a)) ([x0, x1, x2].map str)) : Ans W (.slice (some a) 3 cap) := by
  letI : Vl := vS (bS [x0, x1, x2] hl o)
  exact ro_ok (tk_ok _) (v := .sl 0 0 0 3 (.hid 0)) (cs := [.sstr 0, .sstr 1, .sstr 2]) (vs := [x0, x1, x2].map str) ⟨⟨(.s .nil (.s .nil (.s .nil .nil))), by rw [rn3]; exact ⟨fun _ => ⟨rfl, rfl⟩, fun _ => ⟨fun _ => ⟨rfl, rfl⟩, fun _ => ⟨fun _ => ⟨rfl, rfl⟩, fun _ => ⟨rfl, rfl⟩⟩⟩⟩⟩⟩ (den_sl0 hc) rfl rfl W ho hr Tryz.call4
theorem ag4 (W : World) (a : Addr) (cap : Nat) (x0 x1 x2 x3 : Str) (hc : 4 ≤ cap) (hl : ∀ s ∈ [x0, x1, x2, x3], (s.length : Int) ≤ 9223372036854775807) (o : Obj) (ho : W.heap[a.block]? = some o) (hr : ∀ h : Heap, h[a.block]? = some o → Rd h (.pointer (some a)) ([x0, x1, x2, x3].map str)) : Ans W (.slice (some a) 4 cap) := by
  letI : Vl := vS (bS [x0, x1, x2, x3] hl o)
  exact ro_ok (tk_ok _) (v := .sl 0 0 0 4 (.hid 0)) (cs := [.sstr 0, .sstr 1, .sstr 2, .sstr 3]) (vs := [x0, x1, x2, x3].map str) ⟨⟨(.s .nil (.s .nil (.s .nil (.s .nil .nil)))), by rw [rn4]; exact ⟨fun _ => ⟨rfl, rfl⟩, fun _ => ⟨fun _ => ⟨rfl, rfl⟩, fun _ => ⟨fun _ => ⟨rfl, rfl⟩, fun _ => ⟨fun _ => ⟨rfl, rfl⟩, fun _ => ⟨rfl, rfl⟩⟩⟩⟩⟩⟩⟩ (den_sl0 hc) rfl rfl W ho hr Tryz.call4
theorem ag5 (W : World) (a : Addr) (cap : Nat) (x0 x1 x2 x3 x4 : Str) (hc : 5 ≤ cap) (hl : ∀ s ∈ [x0, x1, x2, x3, x4], (s.length : Int) ≤ 9223372036854775807) (o : Obj) (ho : W.heap[a.block]? = some o) (hr : ∀ h : Heap, h[a.block]? = some o → Rd h (.pointer (some a)) ([x0, x1, x2, x3, x4].map str)) : Ans W (.slice (some a) 5 cap) := by
  letI : Vl := vS (bS [x0, x1, x2, x3, x4] hl o)
  exact ro_ok (tk_ok _) (v := .sl 0 0 0 5 (.hid 0)) (cs := [.sstr 0, .sstr 1, .sstr 2, .sstr 3, .sstr 4]) (vs := [x0, x1, x2, x3, x4].map str) ⟨⟨(.s .nil (.s .nil (.s .nil (.s .nil (.s .nil .nil))))), by rw [rn5]; exact ⟨fun _ => ⟨rfl, rfl⟩, fun _ => ⟨fun _ => ⟨rfl, rfl⟩, fun _ => ⟨fun _ => ⟨rfl, rfl⟩, fun _ => ⟨fun _ => ⟨rfl, rfl⟩, fun _ => ⟨fun _ => ⟨rfl, rfl⟩, fun _ => ⟨rfl, rfl⟩⟩⟩⟩⟩⟩⟩⟩ (den_sl0 hc) rfl rfl W ho hr Tryz.call4
theorem ag6 (W : World) (a : Addr) (cap : Nat) (x0 x1 x2 x3 x4 x5 : Str) (hc : 6 ≤ cap) (hl : ∀ s ∈ [x0, x1, x2, x3, x4, x5], (s.length : Int) ≤ 9223372036854775807) (o : Obj) (ho : W.heap[a.block]? = some o) (hr : ∀ h : Heap, h[a.block]? = some o → Rd h (.pointer (some a)) ([x0, x1, x2, x3, x4, x5].map str)) : Ans W (.slice (some a) 6 cap) := by
  letI : Vl := vS (bS [x0, x1, x2, x3, x4, x5] hl o)
  exact ro_ok (tk_ok _) (v := .sl 0 0 0 6 (.hid 0)) (cs := [.sstr 0, .sstr 1, .sstr 2, .sstr 3, .sstr 4, .sstr 5]) (vs := [x0, x1, x2, x3, x4, x5].map str) ⟨⟨(.s .nil (.s .nil (.s .nil (.s .nil (.s .nil (.s .nil .nil)))))), by rw [rn6]; exact ⟨fun _ => ⟨rfl, rfl⟩, fun _ => ⟨fun _ => ⟨rfl, rfl⟩, fun _ => ⟨fun _ => ⟨rfl, rfl⟩, fun _ => ⟨fun _ => ⟨rfl, rfl⟩, fun _ => ⟨fun _ => ⟨rfl, rfl⟩, fun _ => ⟨fun _ => ⟨rfl, rfl⟩, fun _ => ⟨rfl, rfl⟩⟩⟩⟩⟩⟩⟩⟩⟩ (den_sl0 hc) rfl rfl W ho hr Tryz.call4
theorem ag7 (W : World) (a : Addr) (cap : Nat) (x0 x1 x2 x3 x4 x5 x6 : Str) (hc : 7 ≤ cap) (hl : ∀ s ∈ [x0, x1, x2, x3, x4, x5, x6], (s.length : Int) ≤ 9223372036854775807) (o : Obj) (ho : W.heap[a.block]? = some o) (hr : ∀ h : Heap, h[a.block]? = some o → Rd h (.pointer (some a)) ([x0, x1, x2, x3, x4, x5, x6].map str)) : Ans W (.slice (some a) 7 cap) := by
  letI : Vl := vS (bS [x0, x1, x2, x3, x4, x5, x6] hl o)
  exact ro_ok (tk_ok _) (v := .sl 0 0 0 7 (.hid 0)) (cs := [.sstr 0, .sstr 1, .sstr 2, .sstr 3, .sstr 4, .sstr 5, .sstr 6]) (vs := [x0, x1, x2, x3, x4, x5, x6].map str) ⟨⟨(.s .nil (.s .nil (.s .nil (.s .nil (.s .nil (.s .nil (.s .nil .nil))))))), by rw [rn7]; exact ⟨fun _ => ⟨rfl, rfl⟩, fun _ => ⟨fun _ => ⟨rfl, rfl⟩, fun _ => ⟨fun _ => ⟨rfl, rfl⟩, fun _ => ⟨fun _ => ⟨rfl, rfl⟩, fun _ => ⟨fun _ => ⟨rfl, rfl⟩, fun _ => ⟨fun _ => ⟨rfl, rfl⟩, fun _ => ⟨fun _ => ⟨rfl, rfl⟩, fun _ => ⟨rfl, rfl⟩⟩⟩⟩⟩⟩⟩⟩⟩⟩ (den_sl0 hc) rfl rfl W ho hr Tryz.call4
theorem ag8 (W : World) (a : Addr) (cap : Nat) (x0 x1 x2 x3 x4 x5 x6 x7 : Str) (hc : 8 ≤ cap) (hl : ∀ s ∈ [x0, x1, x2, x3, x4, x5, x6, x7], (s.length : Int) ≤ 9223372036854775807) (o : Obj) (ho : W.heap[a.block]? = some o) (hr : ∀ h : Heap, h[a.block]? = some o → Rd h (.pointer (some a)) ([x0, x1, x2, x3, x4, x5, x6, x7].map str)) : Ans W (.slice (some a) 8 cap) := by
  letI : Vl := vS (bS [x0, x1, x2, x3, x4, x5, x6, x7] hl o)
  exact ro_ok (tk_ok _) (v := .sl 0 0 0 8 (.hid 0)) (cs := [.sstr 0, .sstr 1, .sstr 2, .sstr 3, .sstr 4, .sstr 5, .sstr 6, .sstr 7]) (vs := [x0, x1, x2, x3, x4, x5, x6, x7].map str) ⟨⟨(.s .nil (.s .nil (.s .nil (.s .nil (.s .nil (.s .nil (.s .nil (.s .nil .nil)))))))), by rw [rn8]; exact ⟨fun _ => ⟨rfl, rfl⟩, fun _ => ⟨fun _ => ⟨rfl, rfl⟩, fun _ => ⟨fun _ => ⟨rfl, rfl⟩, fun _ => ⟨fun _ => ⟨rfl, rfl⟩, fun _ => ⟨fun _ => ⟨rfl, rfl⟩, fun _ => ⟨fun _ => ⟨rfl, rfl⟩, fun _ => ⟨fun _ => ⟨rfl, rfl⟩, fun _ => ⟨fun _ => ⟨rfl, rfl⟩, fun _ => ⟨rfl, rfl⟩⟩⟩⟩⟩⟩⟩⟩⟩⟩⟩ (den_sl0 hc) rfl rfl W ho hr Tryz.call4
theorem ag (W : World) (v : Value) (h : v = .slice none 0 0 ∨ ∃ (a : Addr) (cap : Nat) (ss : List Str), v = .slice (some a) ss.length cap ∧ ss.length ≤ cap ∧ (∀ s ∈ ss, (s.length : Int) ≤ 9223372036854775807) ∧
      (ss ≠ [] → ∃ o, W.heap[a.block]? = some o ∧ ∀ h : Heap, h[a.block]? = some o → Rd h (.pointer (some a)) (ss.map str))) : Ans W v := by
  rcases h with rfl | ⟨a, cap, ss, rfl, hc, hl, hh⟩
  · letI : Vl := vS b0
    exact runs_ok (tk_ok _) (l := [.nsl]) ⟨⟨.nil, by rw [rn0]⟩⟩ rfl W Tryz.call4
  rcases Nat.lt_or_ge ss.length 9 with h9 | h9
  · rcases ss with _ | ⟨x0, _ | ⟨x1, _ | ⟨x2, _ | ⟨x3, _ | ⟨x4, _ | ⟨x5, _ | ⟨x6, _ | ⟨x7, _ | ⟨x8, r⟩⟩⟩⟩⟩⟩⟩⟩⟩
    · letI : Vl := vS b0
      exact po_ok (tk_ok _) (v := .sl 0 0 0 0 (.hid 0)) ⟨⟨.nil, by rw [re0]⟩⟩ (den_sl0 hc) W Tryz.call4
    · obtain ⟨o, ho, hr⟩ := hh (by simp)
      exact ag1 W a cap x0 hc hl o ho hr
    · obtain ⟨o, ho, hr⟩ := hh (by simp)
      exact ag2 W a cap x0 x1 hc hl o ho hr
    · obtain ⟨o, ho, hr⟩ := hh (by simp)
      exact ag3 W a cap x0 x1 x2 hc hl o ho hr
    · obtain ⟨o, ho, hr⟩ := hh (by simp)
      exact ag4 W a cap x0 x1 x2 x3 hc hl o ho hr
    · obtain ⟨o, ho, hr⟩ := hh (by simp)
      exact ag5 W a cap x0 x1 x2 x3 x4 hc hl o ho hr
    · obtain ⟨o, ho, hr⟩ := hh (by simp)
      exact ag6 W a cap x0 x1 x2 x3 x4 x5 hc hl o ho hr
    · obtain ⟨o, ho, hr⟩ := hh (by simp)
      exact ag7 W a cap x0 x1 x2 x3 x4 x5 x6 hc hl o ho hr
    · obtain ⟨o, ho, hr⟩ := hh (by simp)
      exact ag8 W a cap x0 x1 x2 x3 x4 x5 x6 x7 hc hl o ho hr
    · simp only [List.length_cons] at h9; omega
  · obtain ⟨m, hm⟩ : ∃ m, ss.length = m + 9 := ⟨ss.length - 9, by omega⟩
    rw [hm] at hc ⊢
    letI : Vl := vS b0
    exact po_ok (tk_ok _) (v := .sl 0 0 0 (m + 9) (.hid 0)) ⟨⟨.nil, by rw [rm9]⟩⟩ (den_sl0 hc) W Tryz.call4
end Go.Proofs.YtojhofdndohhdaaGreat
namespace Go.Proofs.YtojhofdndohhdaaGreat.compAgain
open Go Go.Sh Go.Va Go.ChangeShapes Go.WideShapes Go.ChangeAt Go.RowKit

set_option maxRecDepth 100000 in
theorem lifted (os : Os) (started : os.Started) (H : Type) (enc : TypeId × Value → H) :
    ReturnsInHanded {} Tryz.checked os 4 .any (Rows.compAgainSpec.pre6 enc Tryz.prog Tryz.f4 Rows.compAgainRow.domain false) (Rows.compAgainSpec.post enc Tryz.prog Tryz.f4 false true false false) := by
  refine returnsInHanded_of_change (C := Tryz.checked) Fw.own started (by kernel_rfl) Tryz.func4
    (ChangeSpec.witness6 (enc := enc) (C := Tryz.checked) false ⟨#[], #[.slice none 0 0], []⟩ 8 (by kernel_rfl) (by kernel_rfl) (by kernel_rfl) (by kernel_rfl)) ?_
  intro W base args ds gs before hval0 hW hcnd _
  have hval : ∀ (j : Nat) t v, Tryz.f4.params[j]? = some t → args[j]? = some v → Value.okWide Tryz.prog W .any base t v := hval0
  have hW' := hW
  obtain ⟨p, q, hA0, hV, rfl, hfz, hnd⟩ := hW
  have hA : DataW.TrodAll enc Tryz.prog W 0 (fun _ => true) true Tryz.f4.params.toList args.toList ds p := hA0
  rw [Tryz.params4] at hA hval
  obtain ⟨v0, vs0, d0, ds0, p0, q0, hargs, rfl, rfl, hd0, r0⟩ := trodAll_cons hA
  obtain ⟨rfl, rfl, rfl⟩ := trodAll_nil r0
  obtain rfl : args = #[v0] := by cases args; simp_all
  obtain ⟨rfl, rfl⟩ := trodVars_none hV
  have hrun := ag W v0 (strs_in Tryz.underlying23 Tryz.underlying9 (by kernel_rfl) (hval 0 23 v0 rfl rfl) hd0)
  refine hrun.mono ?_
  rintro e W' ⟨rfl, hs, hx⟩
  refine ⟨_, rfl, law_post Fw.laidOut Fw.rowed Fw.full ?_ rfl rfl rfl rfl rfl Tryz.underlying4 hW' hs hx⟩
  rw [Tryz.params4]
  decide

theorem k1 : Tryz.pinned.checked.prog.funcNamed Rows.compAgainRow.func = some 4 := by kernel_rfl

theorem over : Rows.compAgainRow.holds Tryz.pinned (OpenSpec.ofChange Rows.compAgainSpec) :=
  OpenClaim.holds_of_wide 4 Tryz.f4 rfl rfl rfl rfl rfl rfl rfl ⟨rfl, rfl, rfl, rfl, rfl⟩ rfl rfl rfl rfl rfl k1 Tryz.func4 k2
    (of_decide_eq_true (by kernel_rfl)) (by unfold Func.isWrapper; first | (rw [if_pos (by decide +kernel)]; kernel_rfl) | (rw [if_neg (by decide +kernel)]; exact ⟨rfl, rfl⟩))
    (fun os started H enc _ => lifted os started H enc)

/-- The statement. -/
theorem proved : Rows.CompAgainSaid :=
  over
#print axioms proved
end Go.Proofs.YtojhofdndohhdaaGreat.compAgain
