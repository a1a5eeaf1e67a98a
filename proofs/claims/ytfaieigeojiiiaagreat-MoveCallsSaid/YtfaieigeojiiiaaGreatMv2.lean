/- What small functions do to a memory of two cells. -/
import Derived.Test.YtfaieigeojiiiaaGreatMu
set_option linter.unusedVariables false
set_option linter.unusedSimpArgs false
set_option maxRecDepth 100000
noncomputable section
namespace Go.Proofs.YtfaieigeojiiiaaGreat
open Go Go.Sh Go.Va
theorem cmp0 : ∀ {a b : List UInt8}, Lib.compareBytes a b = 0 → a = b
  | [], [], _ => rfl
  | [], _ :: _, h => by simp [Lib.compareBytes] at h
  | _ :: _, [], h => by simp [Lib.compareBytes] at h
  | a :: as, b :: bs, h => by
    unfold Lib.compareBytes at h
    split at h
    · omega
    · split at h
      · omega
      · rename_i h1 h2
        have h3 : a = b := by
          rcases Nat.lt_trichotomy a.toNat b.toNat with h | h | h
          · exact absurd h h1
          · exact UInt8.toNat_inj.1 h
          · exact absurd h h2
        rw [h3, cmp0 h]
theorem cmpS : ∀ a : List UInt8, Lib.compareBytes a a = 0
  | [] => rfl
  | a :: as => by
    have h : ¬ a < a := fun h => Nat.lt_irrefl _ h
    unfold Lib.compareBytes
    rw [if_neg h, if_neg h]; exact cmpS as
abbrev L4 (ai : Addr) (ci : Nat) (lc hc ld hd lr hr lx hx : Int) : LD := .l ai ci [ivl nC lc hc, ivl nD ld hd, ivl nR lr hr, ivl nX lx hx]
/-- No pointers. -/
def noP (p : LD) : Prop := p = .nul ∨ ∃ (a : Addr) (c : Nat), p = .l a c []
theorem noP_n : noP .nul := .inl rfl
theorem noP_l {a : Addr} {c : Nat} : noP (.l a c []) := .inr ⟨a, c, rfl⟩
def normA (so : Bool) (l h : Int) : List LD := if so = true ∧ l ≤ h then [.b true, .n l, .n h] else [.b false, .n 0, .n 0]
def q5 : QF := fun xs Ks => ∃ so l h, xs = [.b so, .n l, .n h] ∧ nthK Ks 0 (normA so l h)
theorem t5 {so : Bool} {l h : Int} {Ks : Nat → List LD → Prop} (hk : Ks 0 (normA so l h)) : T5 so l h Ks := by
  refine Eq.mpr (e5 ..) ?_
  cases so with
  | false => exact hk
  | true =>
    refine bifD (fun hc => ?_) fun hc => ?_
    · rw [normA, if_neg (by omega)] at hk; exact hk
    · rw [normA, if_pos ⟨rfl, by omega⟩] at hk; exact hk
/-- The interval of a name. -/
def getA (s : Str) (lc hc ld hd lr hr lx hx : Int) : List LD := if nC = s then [.b true, .n lc, .n hc, .b true] else if nD = s then [.b true, .n ld, .n hd, .b true] else if nR = s then [.b true, .n lr, .n hr, .b true] else if nX = s then [.b true, .n lx, .n hx, .b true] else [.b false, .n 0, .n 0, .b false]
def q16 : QF := fun xs Ks => ∃ ai ci lc hc ld hd lr hr lx hx p s, xs = [L4 ai ci lc hc ld hd lr hr lx hx, p, .s s] ∧ nthK Ks 0 (getA s lc hc ld hd lr hr lx hx)
def q114 : QF := fun xs Ks => ∃ ai ci lc hc ld hd lr hr lx hx p s, xs = [L4 ai ci lc hc ld hd lr hr lx hx, p, .s s] ∧ nthK Ks 0 (getA s lc hc ld hd lr hr lx hx)
section
variable {ai : Addr} {ci : Nat} {lc hc ld hd lr hr lx hx : Int} {p : LD} {s : Str} {Ks : Nat → List LD → Prop}
theorem t16 (hk : Ks 0 (getA s lc hc ld hd lr hr lx hx)) : T16 ai ci lc hc ld hd lr hr lx hx p s Ks := by
  refine Eq.mpr (e16 ..) ?_
  unfold getA at hk
  refine ⟨by decide, bifD (fun h => ⟨by decide, by rw [if_pos h] at hk; exact hk⟩) fun h1 => ⟨by decide, ?_⟩⟩
  rw [if_neg h1] at hk
  refine bifD (fun h => ⟨by decide, by rw [if_pos h] at hk; exact hk⟩) fun h1 => ⟨by decide, ?_⟩
  rw [if_neg h1] at hk
  refine bifD (fun h => ⟨by decide, by rw [if_pos h] at hk; exact hk⟩) fun h1 => ⟨by decide, ?_⟩
  rw [if_neg h1] at hk
  refine bifD (fun h => ⟨by decide, by rw [if_pos h] at hk; exact hk⟩) fun h1 => ?_
  rw [if_neg h1] at hk
  exact hk
theorem t114 (hk : Ks 0 (getA s lc hc ld hd lr hr lx hx)) : T114 ai ci lc hc ld hd lr hr lx hx p s Ks := by
  refine Eq.mpr (e114 ..) ?_
  unfold getA at hk
  refine ⟨by decide, bifD (fun h1 => ?_) fun h1 => ?_⟩
  · have c1 : ¬ nC = s := by rintro rfl; revert h1; decide
    have c2 : ¬ nD = s := by rintro rfl; revert h1; decide
    have c3 : ¬ nR = s := by rintro rfl; revert h1; decide
    rw [if_neg c1, if_neg c2, if_neg c3] at hk
    refine ⟨by decide, bifD (fun h2 => ?_) fun h2 => ⟨by decide, bifD (fun h3 => ⟨by decide, ?_⟩) fun h3 => ?_⟩⟩
    · have c4 : ¬ nX = s := by rintro rfl; revert h2; decide
      rw [if_neg c4] at hk; exact hk
    · rw [if_pos (cmp0 h3)] at hk; exact hk
    · have c4 : ¬ nX = s := by rintro rfl; exact h3 (cmpS _)
      rw [if_neg c4] at hk; exact hk
  · have c4 : ¬ nX = s := by rintro rfl; revert h1; decide
    refine ⟨by decide, bifD (fun h2 => ⟨by decide, ?_⟩) fun h2 => ⟨by decide, ?_⟩⟩
    · have c1 : ¬ nC = s := by rintro rfl; revert h2; decide
      have c2 : ¬ nD = s := by rintro rfl; revert h2; decide
      rw [if_neg c1, if_neg c2] at hk
      refine bifD (fun h3 => ⟨by decide, ?_⟩) fun h3 => ?_
      · rw [if_pos (cmp0 h3)] at hk; exact hk
      · have c3 : ¬ nR = s := by rintro rfl; exact h3 (cmpS _)
        rw [if_neg c3, if_neg c4] at hk; exact hk
    · have c3 : ¬ nR = s := by rintro rfl; revert h2; decide
      refine bifD (fun h3 => ⟨by decide, ?_⟩) fun h3 => ⟨by decide, ?_⟩
      · have c1 : ¬ nC = s := by rintro rfl; revert h3; decide
        rw [if_neg c1] at hk
        refine bifD (fun h4 => ⟨by decide, ?_⟩) fun h4 => ?_
        · rw [if_pos (cmp0 h4)] at hk; exact hk
        · have c2 : ¬ nD = s := by rintro rfl; exact h4 (cmpS _)
          rw [if_neg c2, if_neg c3, if_neg c4] at hk; exact hk
      · have c2 : ¬ nD = s := by rintro rfl; revert h3; decide
        refine bifD (fun h4 => ⟨by decide, ?_⟩) fun h4 => ?_
        · rw [if_pos (cmp0 h4)] at hk; exact hk
        · have c1 : ¬ nC = s := by rintro rfl; exact h4 (cmpS _)
          rw [if_neg c1, if_neg c2, if_neg c3, if_neg c4] at hk; exact hk
end
/-- A cell gets an interval. -/
def q8 : QF := fun xs Ks => ∃ ai ci lc hc ld hd lr hr lx hx p l h s, xs = [L4 ai ci lc hc ld hd lr hr lx hx, p, .s s, .b true, .n l, .n h] ∧ l ≤ h ∧ (s = nC ∧ (∀ a c, nthK Ks 0 [L4 a c l h ld hd lr hr lx hx, p]) ∨ s = nD ∧ ∀ a c, nthK Ks 0 [L4 a c lc hc l h lr hr lx hx, p])
def q76 : QF := fun xs Ks => ∃ ai ci lc hc ld hd lr hr lx hx p l h s, xs = [L4 ai ci lc hc ld hd lr hr lx hx, p, .s s, .b true, .n l, .n h] ∧ noP p ∧ l ≤ h ∧ (s = nC ∧ (∀ a c p', noP p' → nthK Ks 0 [L4 a c l h ld hd lr hr lx hx, p']) ∨ s = nD ∧ ∀ a c p', noP p' → nthK Ks 0 [L4 a c lc hc l h lr hr lx hx, p'])
section
variable {ai : Addr} {ci : Nat} {lc hc ld hd lr hr lx hx : Int} {p : LD} {l h : Int} {Ks : Nat → List LD → Prop}
theorem t8c (hl : l ≤ h) (hk : ∀ a c, Ks 0 [L4 a c l h ld hd lr hr lx hx, p]) : T8c ai ci lc hc ld hd lr hr lx hx p l h Ks := by
  refine Eq.mpr (e8c ..) ?_
  refine bifD (fun hc => absurd hl (by omega)) fun _ => ?_
  repeat' first | exact hk _ _ | refine And.intro (by decide) ?_ | refine ⟨(fun h => nomatch h), fun a c _ => ?_⟩
theorem t8d (hl : l ≤ h) (hk : ∀ a c, Ks 0 [L4 a c lc hc l h lr hr lx hx, p]) : T8d ai ci lc hc ld hd lr hr lx hx p l h Ks := by
  refine Eq.mpr (e8d ..) ?_
  refine bifD (fun hc => absurd hl (by omega)) fun _ => ?_
  repeat' first | exact hk _ _ | refine And.intro (by decide) ?_ | refine ⟨(fun h => nomatch h), fun a c _ => ?_⟩
theorem t76cn (hl : l ≤ h) (hk : ∀ a c p', noP p' → Ks 0 [L4 a c l h ld hd lr hr lx hx, p']) : T76cn ai ci lc hc ld hd lr hr lx hx l h Ks := by
  refine Eq.mpr (e76cn ..) ?_
  refine bifD (fun hc => absurd hl (by omega)) fun _ => bifD (fun hc => absurd hl (by omega)) fun _ => ?_
  repeat' first | exact hk _ _ _ noP_n | exact hk _ _ _ noP_l | refine And.intro (by decide) ?_ | refine ⟨(fun h => nomatch h), fun a c _ => ⟨fun _ => ?_, fun a c _ => ?_⟩⟩
theorem t76cl {ap : Addr} {cp : Nat} (hl : l ≤ h) (hk : ∀ a c p', noP p' → Ks 0 [L4 a c l h ld hd lr hr lx hx, p']) : T76cl ai ci lc hc ld hd lr hr lx hx ap cp l h Ks := by
  refine Eq.mpr (e76cl ..) ?_
  refine bifD (fun hc => absurd hl (by omega)) fun _ => bifD (fun hc => absurd hl (by omega)) fun _ => ?_
  repeat' first | exact hk _ _ _ noP_n | exact hk _ _ _ noP_l | refine And.intro (by decide) ?_ | refine ⟨(fun h => nomatch h), fun a c _ => ⟨fun _ => ?_, fun a c _ => ?_⟩⟩
theorem t76dn (hl : l ≤ h) (hk : ∀ a c p', noP p' → Ks 0 [L4 a c lc hc l h lr hr lx hx, p']) : T76dn ai ci lc hc ld hd lr hr lx hx l h Ks := by
  refine Eq.mpr (e76dn ..) ?_
  refine bifD (fun hc => absurd hl (by omega)) fun _ => bifD (fun hc => absurd hl (by omega)) fun _ => ?_
  repeat' first | exact hk _ _ _ noP_n | exact hk _ _ _ noP_l | refine And.intro (by decide) ?_ | refine ⟨(fun h => nomatch h), fun a c _ => ⟨fun _ => ?_, fun a c _ => ?_⟩⟩
theorem t76dl {ap : Addr} {cp : Nat} (hl : l ≤ h) (hk : ∀ a c p', noP p' → Ks 0 [L4 a c lc hc l h lr hr lx hx, p']) : T76dl ai ci lc hc ld hd lr hr lx hx ap cp l h Ks := by
  refine Eq.mpr (e76dl ..) ?_
  refine bifD (fun hc => absurd hl (by omega)) fun _ => bifD (fun hc => absurd hl (by omega)) fun _ => ?_
  repeat' first | exact hk _ _ _ noP_n | exact hk _ _ _ noP_l | refine And.intro (by decide) ?_ | refine ⟨(fun h => nomatch h), fun a c _ => ⟨fun _ => ?_, fun a c _ => ?_⟩⟩
end
end Go.Proofs.YtfaieigeojiiiaaGreat
set_option linter.unusedVariables false
set_option linter.unusedSimpArgs false
set_option maxRecDepth 100000
noncomputable section
namespace Go.Proofs.YtfaieigeojiiiaaGreat
open Go Go.Sh Go.Va
section
variable {ai : Addr} {ci : Nat} {lc hc ld hd lr hr lx hx : Int} {p cells arrays sigs sums al writes : LD} {k5 sv : Bool} {w : List LD} {l h : Int} {Ks : Nat → List LD → Prop}
def q52 : QF := fun xs Ks => ∃ ai ci lc hc ld hd lr hr lx hx p cells arrays sigs sums k5 w sv l h, xs = [.s nX, .b sv, .n l, .n h, L4 ai ci lc hc ld hd lr hr lx hx, p, cells, arrays, sigs, sums, .b k5, .t w] ∧ noP p ∧
  (¬ (sv = true ∧ l ≤ h) → nthK Ks 0 [.b false, .nul, .nul, cells, arrays, sigs, sums, .b k5, .t w]) ∧
  (sv = true → l ≤ h → ∀ a c p', noP p' → nthK Ks 0 [.b true, L4 a c lc hc ld hd lr hr l h, p', cells, arrays, sigs, sums, .b k5, .t w])
theorem t52n (k0 : ¬ (sv = true ∧ l ≤ h) → Ks 0 [.b false, .nul, .nul, cells, arrays, sigs, sums, .b k5, .t w]) (k1 : sv = true → l ≤ h → ∀ a c p', noP p' → Ks 0 [.b true, L4 a c lc hc ld hd lr hr l h, p', cells, arrays, sigs, sums, .b k5, .t w]) : T52n ai ci lc hc ld hd lr hr lx hx cells arrays sigs sums k5 w sv l h Ks := by
  refine Eq.mpr (e52n ..) ?_
  refine ⟨by decide, by decide, by decide, by decide, ?_⟩
  cases sv with
  | false => exact k0 (fun h => nomatch h.1)
  | true =>
    refine bifD (fun hc => k0 (by omega)) fun hc => bifD (fun hc => k0 (by omega)) fun _ => ?_
    have k2 := k1 rfl (by omega)
    repeat' first | exact k2 _ _ _ noP_n | exact k2 _ _ _ noP_l | refine And.intro (by decide) ?_ | refine ⟨(fun h => nomatch h), fun a c _ => ⟨fun _ => ?_, fun a c _ => ?_⟩⟩
theorem t52l {ap : Addr} {cp : Nat} (k0 : ¬ (sv = true ∧ l ≤ h) → Ks 0 [.b false, .nul, .nul, cells, arrays, sigs, sums, .b k5, .t w]) (k1 : sv = true → l ≤ h → ∀ a c p', noP p' → Ks 0 [.b true, L4 a c lc hc ld hd lr hr l h, p', cells, arrays, sigs, sums, .b k5, .t w]) : T52l ai ci lc hc ld hd lr hr lx hx ap cp cells arrays sigs sums k5 w sv l h Ks := by
  refine Eq.mpr (e52l ..) ?_
  refine ⟨by decide, by decide, by decide, by decide, ?_⟩
  cases sv with
  | false => exact k0 (fun h => nomatch h.1)
  | true =>
    refine bifD (fun hc => k0 (by omega)) fun hc => bifD (fun hc => k0 (by omega)) fun _ => ?_
    have k2 := k1 rfl (by omega)
    repeat' first | exact k2 _ _ _ noP_n | exact k2 _ _ _ noP_l | refine And.intro (by decide) ?_ | refine ⟨(fun h => nomatch h), fun a c _ => ⟨fun _ => ?_, fun a c _ => ?_⟩⟩
def q85 : QF := fun xs Ks => ∃ ai ci lc hc ld hd lr hr lx hx p cells arrays sigs sums al writes sv l h, xs = [.s nX, .b sv, .n l, .n h, L4 ai ci lc hc ld hd lr hr lx hx, p, cells, arrays, sigs, sums, al, writes] ∧
  (¬ (sv = true ∧ l ≤ h) → nthK Ks 0 [.b false, .nul, .nul, cells, arrays, sigs, sums, al, writes]) ∧
  (sv = true → l ≤ h → ∀ a c, nthK Ks 0 [.b true, L4 a c lc hc ld hd lr hr l h, p, cells, arrays, sigs, sums, al, writes])
theorem t85 (k0 : ¬ (sv = true ∧ l ≤ h) → Ks 0 [.b false, .nul, .nul, cells, arrays, sigs, sums, al, writes]) (k1 : sv = true → l ≤ h → ∀ a c, Ks 0 [.b true, L4 a c lc hc ld hd lr hr l h, p, cells, arrays, sigs, sums, al, writes]) : T85 ai ci lc hc ld hd lr hr lx hx p cells arrays sigs sums al writes sv l h Ks := by
  refine Eq.mpr (e85 ..) ?_
  refine ⟨by decide, by decide, by decide, by decide, by decide, ?_⟩
  cases sv with
  | false => exact k0 (fun h => nomatch h.1)
  | true =>
    refine bifD (fun hc => k0 (by omega)) fun hc => ?_
    have k2 := k1 rfl (by omega)
    refine bifT ?_
    repeat' first | exact k2 _ _ | refine And.intro (by decide) ?_ | refine ⟨(fun h => nomatch h), fun a c _ => ?_⟩
def q79 : QF := fun xs Ks => ∃ ai ci lc hc ld hd lr hr lx hx p, xs = [.b true, L4 ai ci lc hc ld hd lr hr lx hx, p] ∧ noP p ∧ ∀ a c p', noP p' → nthK Ks 0 [L4 a c lc hc ld hd lr hr lx hx, p']
theorem t79n (k2 : ∀ a c p', noP p' → Ks 0 [L4 a c lc hc ld hd lr hr lx hx, p']) : T79n ai ci lc hc ld hd lr hr lx hx Ks := by
  refine Eq.mpr (e79n ..) ?_
  repeat' first | exact k2 _ _ _ noP_n | exact k2 _ _ _ noP_l | refine And.intro (by decide) ?_ | refine ⟨(fun h => nomatch h), fun a c _ => ⟨fun _ => ?_, fun a c _ => ?_⟩⟩
theorem t79l {ap : Addr} {cp : Nat} (k2 : ∀ a c p', noP p' → Ks 0 [L4 a c lc hc ld hd lr hr lx hx, p']) : T79l ai ci lc hc ld hd lr hr lx hx ap cp Ks := by
  refine Eq.mpr (e79l ..) ?_
  repeat' first | exact k2 _ _ _ noP_n | exact k2 _ _ _ noP_l | refine And.intro (by decide) ?_ | refine ⟨(fun h => nomatch h), fun a c _ => ⟨fun _ => ?_, fun a c _ => ?_⟩⟩
end
/-- Lists of one memory each that are alike. -/
inductive LikeM : LD → LD → Prop where
  | f (a b : Addr) (c d : Nat) : LikeM (.l a c [.t [.b false, .nul, .nul]]) (.l b d [.t [.b false, .nul, .nul]])
  | t (a b : Addr) (c d : Nat) (ai ai2 : Addr) (ci ci2 : Nat) (lc hc ld hd lr hr lx hx : Int) (p p2 : LD) : noP p → noP p2 → LikeM (.l a c [.t [.b true, L4 ai ci lc hc ld hd lr hr lx hx, p]]) (.l b d [.t [.b true, L4 ai2 ci2 lc hc ld hd lr hr lx hx, p2]])
def q12 : QF := fun xs Ks => ∃ x y, xs = [x, y] ∧ LikeM x y ∧ nthK Ks 0 [.b true]
inductive LikeA : LD → LD → Prop where
  | n : LikeA .nul .nul
  | e (b : Addr) (d : Nat) : LikeA .nul (.l b d [])
  | l (a b : Addr) (c d : Nat) (x k : Int) : LikeA (.l a c [.t [.n x, .n k]]) (.l b d [.t [.n x, .n k]])
def q13 : QF := fun xs Ks => ∃ x y, xs = [x, y] ∧ LikeA x y ∧ nthK Ks 0 [.b true]
section
variable {am am2 ai ai2 ap ap2 : Addr} {cm cm2 ci ci2 cp cp2 : Nat} {lc hc ld hd lr hr lx hx at_ k : Int} {Ks : Nat → List LD → Prop}
theorem bifX {c : Bool} {A B : Prop} (h : c = true) (b : B) : bif !c then A else B := by rw [h]; exact b
theorem t12f (hk : Ks 0 [.b true]) : T12f am am2 cm cm2 Ks := by
  refine Eq.mpr (e12f ..) ?_
  repeat' first | exact hk | refine And.intro (by decide) ?_
theorem t13n (hk : Ks 0 [.b true]) : T13n Ks := by
  refine Eq.mpr (e13n ..) ?_
  repeat' first | exact hk | refine And.intro (by decide) ?_
theorem t13e (hk : Ks 0 [.b true]) : T13e am2 cm2 Ks := Eq.mpr (e13e ..) hk
theorem t13l (hk : Ks 0 [.b true]) : T13l am am2 cm cm2 at_ k Ks := by
  refine Eq.mpr (e13l ..) ?_
  repeat' first | exact hk | refine And.intro (by decide) ?_ | refine bifX (by simp) ?_
theorem t12nn (hk : Ks 0 [.b true]) : T12nn am am2 cm cm2 ai ci lc hc ld hd lr hr lx hx ai2 ci2 Ks := by
  refine Eq.mpr (e12nn ..) ?_
  repeat' first | exact hk | refine And.intro (by decide) ?_ | refine bifX (by simp [eqBB]) ?_
theorem t12nl (hk : Ks 0 [.b true]) : T12nl am am2 cm cm2 ai ci lc hc ld hd lr hr lx hx ai2 ci2 ap2 cp2 Ks := by
  refine Eq.mpr (e12nl ..) ?_
  repeat' first | exact hk | refine And.intro (by decide) ?_ | refine bifX (by simp [eqBB]) ?_
theorem t12ln (hk : Ks 0 [.b true]) : T12ln am am2 cm cm2 ai ci lc hc ld hd lr hr lx hx ai2 ci2 ap cp Ks := by
  refine Eq.mpr (e12ln ..) ?_
  repeat' first | exact hk | refine And.intro (by decide) ?_ | refine bifX (by simp [eqBB]) ?_
theorem t12ll (hk : Ks 0 [.b true]) : T12ll am am2 cm cm2 ai ci lc hc ld hd lr hr lx hx ai2 ci2 ap cp ap2 cp2 Ks := by
  refine Eq.mpr (e12ll ..) ?_
  repeat' first | exact hk | refine And.intro (by decide) ?_ | refine bifX (by simp [eqBB]) ?_
end
end Go.Proofs.YtfaieigeojiiiaaGreat
