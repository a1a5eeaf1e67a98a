/- Summaries over told memory: what a call of known arguments comes to. No program. -/
import Derived.Test.YtojhofdndohhdaaGreatVse
import Derived.Test.YtojhofdndohhdaaGreatVt
set_option linter.unusedVariables false
set_option linter.unusedSectionVars false
set_option linter.unusedSimpArgs false
namespace Go.Va
open Go Go.Sh
section
variable [Vb]
def SmOk [Gd] (P : Program) (i : Nat) (S : Sm) : Prop := ∀ E h0 h L vs, St h0 h (S.t0.map (part E) ++ L) → (∀ j, S.nx0 ≤ j → E.p j = none ∧ E.r j = false) → denL E S.l0 = some vs → ∀ w : World, w.heap = h →
  NextOk P (fun v h' => ∃ F, E.Le F ∧ den F S.x1 = some v ∧ St h0 h' (S.t1.map (part F) ++ L)) w ((callFunc i vs.toArray).run P w)

end
variable [Vl]
variable {P : Program}

theorem nextOk_mono [Gd] {K K' : Value → Heap → Prop} {w : World} {r : Result Next} (h : NextOk P K w r) (hk : ∀ v h', K v h' → K' v h') : NextOk P K' w r := by
  match r, h with
  | .ok (.value v) w', ⟨a, b⟩ => exact ⟨a, hk _ _ b⟩
  | .ok .skip w', ⟨a, b⟩ => exact ⟨a, hk _ _ b⟩
  | .ok (.enter f args) w', ⟨a, b⟩ => exact ⟨a, b.mono hk⟩
  | .halt (.panic x) w', hh => exact hh
theorem sm_use [Gd] {i : Nat} {S : Sm} (hS : SmOk P i S) {s : Nat → Option Nat} {l : List FV} {th : TH} {K : FV → TH → Prop} (hx : runS S s l th K) {E : Env} {h0 h : Heap} {L : List HP} {vs : List Value} (r : Rep E th h0 h L) (hd : denL E l = some vs)
    (w : World) (hw : w.heap = h) : NextOk P (Post E h0 L K) w ((callFunc i vs.toArray).run P w) :=
  sm_useX hx r hd (Y := fun K => NextOk P K w ((callFunc i vs.toArray).run P w)) (fun a b => nextOk_mono a b) fun E L' st hn hd => hS E h0 h L' vs st hn hd w hw
end Go.Va
