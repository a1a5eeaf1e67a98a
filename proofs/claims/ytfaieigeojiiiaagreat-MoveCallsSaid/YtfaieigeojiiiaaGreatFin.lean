/- A law's call leaves its arguments as they read: over any program. -/
import Derived.Test.YtfaieigeojiiiaaGreatSh
import Derived.ProofKit
import Derived.ReadAgain
import Derived.OpenShut
set_option linter.unusedVariables false
namespace Go.Sh
open Go.ChangeShapes Go.WideShapes Go.ChangeAt Go.RowKit

theorem kept_of [Gd] {w w' : World} (hs : SameW w w') (hx : Ext w.heap w'.heap) (may : MemPlace → Prop) : w.keptBut w' may := by
  refine ⟨hs.os, hs.output, fun i hi => ?_⟩
  rw [hx.2 i hi]
  cases h : w.heap[i]? with
  | none => trivial
  | some o =>
    cases o with
    | cells c t fr => exact ⟨rfl, rfl, rfl, fun _ _ => rfl⟩
    | map es c => exact .inr ⟨rfl, rfl⟩
    | _ => rfl
section
variable {H : Type} {enc : TypeId × Value → H} {P : Program}
theorem same_at {w w' : World} (hx : Ext w.heap w'.heap) {p : MemPlace} (hp : p.block < w.heap.size) : w.sameAt w' p := by
  cases p with
  | cell b off =>
    show w'.cell? _ = w.cell? _
    simp only [World.cell?]
    rw [hx.2 b hp]
  | map b => exact hx.2 b hp
theorem trodAll_ext {w w' : World} {base : Nat} {sp : Nat → Bool} {held : Bool} : ∀ {ts : List TypeId} {vs : List Value} {ds : List (DataW H)} {ps : List MemPlace}, DataW.TrodAll enc P w base sp held ts vs ds ps → (∀ p ∈ ps, w.sameAt w' p) →
    DataW.TrodAll enc P w' base sp held ts vs ds ps
  | [], [], [], _, h, _ => h
  | _ :: _, _ :: _, _ :: _, _, ⟨p, q, ⟨n, h1⟩, h2, e⟩, hs =>
    ⟨p, q, ⟨n, DataW.trod_carry n _ _ _ h1 fun x hx => hs x (by rw [e]; exact List.mem_append_left _ hx)⟩, trodAll_ext h2 fun x hx => hs x (by rw [e]; exact List.mem_append_right _ hx), e⟩
/-- A law that answers true and leaves all that there was. -/
theorem law_post [Gd] {f : Func} {s : ChangeSpec} {apart fresh handsOn again : Bool} {W W' : World} {args : Array Value} {ds gs : List (DataW H)} {before : List MemPlace} {b : TypeId}
    (hl : laidOutB P = true) (hm : mapsRowed P = true) (hz : ∀ t e, t < P.types.size → P.underlying t = some (.slice e) → 0 < P.cellsOf e) (hts : ∀ t ∈ f.params.toList, t < P.types.size)
    (hv : s.vars = []) (hr : (s.fn H (ds ++ gs)).results = [.lit (.bool true)]) (ha : (s.fn H (ds ++ gs)).args = ds) (hvv : (s.fn H (ds ++ gs)).vars = []) (hrt : f.resultTypes = #[b]) (hb : P.underlying b = some .bool)
    (hW : DataW.Whole enc P f.params.toList s.vars apart W args.toList ds gs before) (hs : SameW W W') (hx : Ext W.heap W'.heap) : s.post enc P f apart fresh handsOn again W args (.bool true) W' := by
  have hlt := hW.lt
  obtain ⟨p, q, hA, hV, he, hfz, hnd⟩ := id hW
  rw [hv] at hV
  obtain ⟨hq1, hq2⟩ := trodVars_none hV
  subst hq1; subst hq2
  rw [List.append_nil] at he
  subst he
  have hA' : DataW.TrodAll enc P W' 0 (fun _ => true) true f.params.toList args.toList ds before := trodAll_ext hA fun x hx' => same_at hx (hlt x hx')
  have hA2 : ∀ sp : Nat → Bool, (∀ p ∈ before, sp p.block = true) → DataW.TrodAll enc P W' 0 sp true f.params.toList args.toList ds before := fun sp hsp =>
    DataW.TrodAll.respare (kids_rows hl hm) hz hts hA' hsp
  have hres : ∀ (b' : Nat) (sp : Nat → Bool) (hd : Bool), DataW.TrodAll enc P W' b' sp hd f.resultTypes.toList ((Value.bool true).resultList f.resultTypes.size) [.lit (.bool true)] [] := fun b' sp hd => by
    rw [hrt]
    exact trodAll_cons_mk (shut_bool hb _) trodAll_mk0
  refine ⟨ds, [], before, [], before, [], hW, ?_, ?_, ?_, kept_of hs hx _, fun _ => ⟨?_, [.lit (.bool true)] ++ ds, [], before, ⟨before, [], ?_, ?_, by simp, fun b' off hp => ?_, fun h => hnd h⟩, fun x hx' _ => hx'⟩⟩
  · rw [hr]; exact hres _ _ _
  · rw [ha]
    exact hA2 _ fun x hx' => by simpa using hlt x hx'
  · rw [hv, hvv]; exact rfl
  · exact ok_one hrt rfl (okWide_bool_mk hb _)
  · have := trodAll_append (H := H) (enc := enc) (P := P) hA' (hres 0 (fun _ => true) true)
    exact this
  · rw [hv]; exact rfl
  · have := hfz b' off hp
    have hl2 := hlt _ hp
    have e := hx.2 b' hl2
    simp only [World.frozen?] at this ⊢
    rw [e]; exact this
end
end Go.Sh
