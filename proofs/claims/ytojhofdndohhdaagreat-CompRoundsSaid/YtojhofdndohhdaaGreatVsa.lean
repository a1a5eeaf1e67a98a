/- Told values under other ids. No program. -/
import Derived.Test.YtojhofdndohhdaaGreatVr
set_option linter.unusedVariables false
set_option linter.unusedSectionVars false
set_option linter.unusedSimpArgs false
namespace Go.Va
open Go Go.Sh
variable [Vl]

theorem rnV_one {s : Nat → Option Nat} {x y : FV} (h : rnV s x = some y) : oneF y = oneF x := by
  cases x <;> simp only [rnV] at h
  case ptr i o => cases hs : s i <;> rw [hs] at h <;> simp only [Option.some.injEq] at h <;> first | (subst h; rfl) | cases h
  case sl i a b n c => cases hs : s i <;> rw [hs] at h <;> simp only [Option.some.injEq] at h <;> first | (subst h; rfl) | cases h
  case map i => cases hs : s i <;> rw [hs] at h <;> simp only [Option.some.injEq] at h <;> first | (subst h; rfl) | cases h
  case fn f a b =>
    cases ha : rnL s a with
    | none => rw [ha] at h; cases h
    | some x =>
      cases hb : rnL s b with
      | none => rw [ha, hb] at h; cases h
      | some y => rw [ha, hb] at h; simp only [Option.some.injEq] at h; subst h; rfl
  case ifc t v => cases hs : rnV s v <;> rw [hs] at h <;> simp only [Option.some.injEq] at h <;> first | (subst h; rfl) | cases h
  case agg cs => cases hs : rnL s cs <;> rw [hs] at h <;> simp only [Option.some.injEq] at h <;> first | (subst h; rfl) | cases h
  case tup cs => cases hs : rnL s cs <;> rw [hs] at h <;> simp only [Option.some.injEq] at h <;> first | (subst h; rfl) | cases h
  all_goals simp only [Option.some.injEq] at h; subst h; rfl
theorem rnL_cons {s : Nat → Option Nat} {x : FV} {r l : List FV} (h : rnL s (x :: r) = some l) : ∃ y l', rnV s x = some y ∧ rnL s r = some l' ∧ l = y :: l' := by
  simp only [rnL] at h
  cases h1 : rnV s x with
  | none => rw [h1] at h; cases h
  | some y =>
    cases h2 : rnL s r with
    | none => rw [h1, h2] at h; cases h
    | some l' => rw [h1, h2] at h; simp only [Option.some.injEq] at h; exact ⟨y, l', rfl, rfl, h.symm⟩
theorem rnL_all {s : Nat → Option Nat} : ∀ {r l : List FV}, rnL s r = some l → l.all oneF = r.all oneF
  | [], l, h => by simp only [rnL, Option.some.injEq] at h; subst h; rfl
  | x :: r, l, h => by
    obtain ⟨y, l', h1, h2, rfl⟩ := rnL_cons h
    simp only [List.all_cons, rnV_one h1, rnL_all h2]
/-- What ids stand for under both names. -/
def Rn (s : Nat → Option Nat) (E0 E : Env) : Prop := ∀ i j, s i = some j → E0.p i = E.p j ∧ E0.c i = E.c j
mutual
theorem den_rn {s : Nat → Option Nat} {E0 E : Env} (hs : Rn s E0 E) : ∀ {x y : FV}, rnV s x = some y → den E y = den E0 x
  | .bool _, y, h => by simp only [rnV, Option.some.injEq] at h; subst h; rfl
  | .int _ _, y, h => by simp only [rnV, Option.some.injEq] at h; subst h; rfl
  | .sy _ _ _ _, y, h => by simp only [rnV, Option.some.injEq] at h; subst h; rfl
  | .sb _, y, h => by simp only [rnV, Option.some.injEq] at h; subst h; rfl
  | .sstr _, y, h => by simp only [rnV, Option.some.injEq] at h; subst h; rfl
  | .sx _, y, h => by simp only [rnV, Option.some.injEq] at h; subst h; rfl
  | .str _, y, h => by simp only [rnV, Option.some.injEq] at h; subst h; rfl
  | .nilp, y, h => by simp only [rnV, Option.some.injEq] at h; subst h; rfl
  | .nsl, y, h => by simp only [rnV, Option.some.injEq] at h; subst h; rfl
  | .nilm, y, h => by simp only [rnV, Option.some.injEq] at h; subst h; rfl
  | .nilf, y, h => by simp only [rnV, Option.some.injEq] at h; subst h; rfl
  | .nili, y, h => by simp only [rnV, Option.some.injEq] at h; subst h; rfl
  | .ptr i o, y, h => by
    simp only [rnV] at h
    cases hi : s i with
    | none => rw [hi] at h; cases h
    | some j =>
      rw [hi] at h; simp only [Option.some.injEq] at h; subst h
      simp only [den, (hs i j hi).1]
  | .sl i a b n c, y, h => by
    simp only [rnV] at h
    cases hi : s i with
    | none => rw [hi] at h; cases h
    | some j =>
      rw [hi] at h; simp only [Option.some.injEq] at h; subst h
      simp only [den, (hs i j hi).1, (hs i j hi).2]
  | .map i, y, h => by
    simp only [rnV] at h
    cases hi : s i with
    | none => rw [hi] at h; cases h
    | some j =>
      rw [hi] at h; simp only [Option.some.injEq] at h; subst h
      simp only [den, (hs i j hi).1]
  | .fn f a b, y, h => by
    simp only [rnV] at h
    cases ha : rnL s a with
    | none => rw [ha] at h; cases h
    | some x =>
      cases hb : rnL s b with
      | none => rw [ha, hb] at h; cases h
      | some z =>
        rw [ha, hb] at h; simp only [Option.some.injEq] at h; subst h
        simp only [den, denL_rn hs ha, denL_rn hs hb]
  | .ifc t v, y, h => by
    simp only [rnV] at h
    cases ha : rnV s v with
    | none => rw [ha] at h; cases h
    | some x =>
      rw [ha] at h; simp only [Option.some.injEq] at h; subst h
      simp only [den, den_rn hs ha]
  | .agg cs, y, h => by
    simp only [rnV] at h
    cases ha : rnL s cs with
    | none => rw [ha] at h; cases h
    | some x =>
      rw [ha] at h; simp only [Option.some.injEq] at h; subst h
      simp only [den, denL_rn hs ha, rnL_all ha]
  | .tup cs, y, h => by
    simp only [rnV] at h
    cases ha : rnL s cs with
    | none => rw [ha] at h; cases h
    | some x =>
      rw [ha] at h; simp only [Option.some.injEq] at h; subst h
      simp only [den, denL_rn hs ha]
theorem denL_rn {s : Nat → Option Nat} {E0 E : Env} (hs : Rn s E0 E) : ∀ {x y : List FV}, rnL s x = some y → denL E y = denL E0 x
  | [], y, h => by simp only [rnL, Option.some.injEq] at h; subst h; rfl
  | a :: x, y, h => by
    obtain ⟨b, l', h1, h2, rfl⟩ := rnL_cons h
    simp only [denL, den_rn hs h1, denL_rn hs h2]
end
theorem denM_rn {s : Nat → Option Nat} {E0 E : Env} (hs : Rn s E0 E) {d : KD} : ∀ {x y : List (FV × FV)}, rnM s x = some y → denM E d y = denM E0 d x
  | [], y, h => by simp only [rnM, Option.some.injEq] at h; subst h; rfl
  | a :: x, y, h => by
    simp only [rnM] at h
    cases h1 : rnV s a.2 with
    | none => rw [h1] at h; cases h
    | some b =>
      cases h2 : rnM s x with
      | none => rw [h1, h2] at h; cases h
      | some l =>
        rw [h1, h2] at h; simp only [Option.some.injEq] at h; subst h
        simp only [denM, den_rn hs h1, denM_rn hs h2]
theorem part_rn {s : Nat → Option Nat} {E0 E : Env} (hs : Rn s E0 E) {i j : Nat} (hij : s i = some j) {o o' : TO} (ho : rnO s o = some o') {h : Heap} {S : Nat → Prop} : (part E (j, o')).own h S ↔ (part E0 (i, o)).own h S := by
  obtain ⟨e1, e2⟩ := hs i j hij
  cases o with
  | cells cs k =>
    simp only [rnO] at ho
    cases hl : rnL s cs with
    | none => rw [hl] at ho; cases ho
    | some l =>
      rw [hl] at ho; simp only [Option.some.injEq] at ho; subst ho
      have hd := denL_rn hs hl
      have ha := rnL_all hl
      constructor
      · rintro ⟨z, ⟨a1, a2, a3, a4, a5⟩, hc⟩
        exact ⟨z, ⟨by rw [e1]; exact a1, by rw [← hd]; exact a2, by rw [← ha]; exact a3, a4, by rw [e2]; exact a5⟩, hc⟩
      · rintro ⟨z, ⟨a1, a2, a3, a4, a5⟩, hc⟩
        exact ⟨z, ⟨by rw [← e1]; exact a1, by rw [hd]; exact a2, by rw [ha]; exact a3, a4, by rw [← e2]; exact a5⟩, hc⟩
  | map d m =>
    simp only [rnO] at ho
    cases hl : rnM s m with
    | none => rw [hl] at ho; cases ho
    | some l =>
      rw [hl] at ho; simp only [Option.some.injEq] at ho; subst ho
      have hd := denM_rn hs (d := d) hl
      constructor
      · rintro ⟨z, ⟨a1, a2⟩, hc⟩
        exact ⟨z, ⟨by rw [e1]; exact a1, by rw [← hd]; exact a2⟩, hc⟩
      · rintro ⟨z, ⟨a1, a2⟩, hc⟩
        exact ⟨z, ⟨by rw [← e1]; exact a1, by rw [hd]; exact a2⟩, hc⟩
  | it _ _ _ => simp only [rnO] at ho; cases ho
  | ro _ => simp only [rnO] at ho; cases ho
end Go.Va
