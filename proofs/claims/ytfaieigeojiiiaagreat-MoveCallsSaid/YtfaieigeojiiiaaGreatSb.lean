/- Help for contracts by hand. No program. -/
import Derived.Test.YtfaieigeojiiiaaGreatLx
set_option linter.unusedVariables false
set_option linter.unusedSectionVars false
namespace Go.Va
open Go Go.Sh
variable [Vb]
theorem wtL_cons {xs : List LD} {k : CK} {ks : List CK} (h : wtL xs (k :: ks)) : ∃ x r, xs = x :: r ∧ wt x k ∧ wtL r ks := by
  cases xs with
  | nil => simp only [wtL] at h
  | cons x r => simp only [wtL] at h; exact ⟨x, r, rfl, h⟩
theorem wtL_nil {xs : List LD} (h : wtL xs []) : xs = [] := by
  cases xs with
  | nil => rfl
  | cons x r => simp only [wtL] at h
theorem wt_i {d : LD} {k : IntKind} (h : wt d (.i k)) : ∃ n, d = .n n ∧ loK k ≤ n ∧ n ≤ hiK k := by
  cases d <;> simp only [wt] at h
  exact ⟨_, rfl, h⟩
theorem wt_s {d : LD} (h : wt d .s) : ∃ s, d = .s s ∧ s.length ≤ maxL := by
  cases d <;> simp only [wt] at h
  exact ⟨_, rfl, h⟩
theorem wt_b {d : LD} (h : wt d .b) : ∃ b, d = .b b := by
  cases d <;> simp only [wt] at h
  exact ⟨_, rfl⟩
theorem wtE_get {ks : List CK} : ∀ {es : List LD} {j : Nat}, wtE es ks → j < es.length → wtL (es.getD j .nul).cs ks
  | e :: es, 0, h, _ => by
    simp only [wtE] at h
    have h1 := h.1
    cases e <;> simp only [wtT] at h1
    exact h1
  | e :: es, j + 1, h, hj => by
    simp only [wtE] at h
    have := wtE_get (j := j) h.2 (by simpa using hj)
    simpa using this
/-- An element of a slice. -/
theorem wt_at {d : LD} {t : Nat} {ks : List CK} (h : wt d (.l t)) (ly : Vb.ly[t]? = some ks) {sz : Nat} {j : Int} (h0 : 0 ≤ j) (h1 : j < d.len) : wtL (d.at sz j).cs ks := by
  cases d <;> simp only [wt, LD.len, LD.es, List.length_nil] at h h1
  · omega
  · rename_i a c es
    rw [ly] at h
    have : j.toNat < es.length := by omega
    exact wtE_get h.2.2.2 this
theorem wtL_f {d : LD} {ks : List CK} {j : Nat} {k : CK} (h : wtL d.cs ks) (hk : ks[j]? = some k) : wt (d.f j) k := by
  have : ∀ {cs : List LD} {ks : List CK} {j : Nat}, wtL cs ks → ks[j]? = some k → wt (cs.getD j .nul) k := by
    intro cs
    induction cs with
    | nil => intro ks j h hk; cases ks <;> simp [wtL] at h hk
    | cons c cs ih =>
      intro ks j h hk
      cases ks with
      | nil => simp at hk
      | cons k' ks =>
        simp only [wtL] at h
        cases j with
        | zero => simp at hk; subst hk; exact h.1
        | succ j => simpa using ih h.2 (by simpa using hk)
  exact this h hk
theorem i64_w {x : Int} (h1 : -9223372036854775808 ≤ x) (h2 : x < 9223372036854775808) : IntKind.i64.wrap x = x := IntWalk.i64_in _ (by omega)
theorem dec_t {p : Prop} [Decidable p] : (decide p = true) ↔ p := decide_eq_true_iff
theorem dec_f {p : Prop} [Decidable p] : (decide p = false) ↔ ¬ p := by simp
theorem tmod_pos {a n : Int} (h0 : 0 ≤ a) (hn : 0 < n) : 0 ≤ a.tmod n ∧ a.tmod n < n := ⟨Int.tmod_nonneg _ h0, Int.tmod_lt_of_pos _ hn⟩
theorem maxL_eq : maxL = 9223372036854775807 := by unfold maxL; rfl
end Go.Va
set_option linter.unusedVariables false
set_option linter.unusedSectionVars false
namespace Go.Va
open Go Go.Sh
variable [Vb]
theorem decC {i : Int} {n : Nat} (h0 : 0 ≤ i) (h1 : i < (n : Int)) : ((decide (0 ≤ i)) && (decide (i < (n : Int)))) = true := by rw [decide_eq_true h0, decide_eq_true h1]; rfl
theorem li_n (x : Int) : (LD.n x).i = x := rfl
theorem lb_b (x : Bool) : (LD.b x).bo = x := rfl
theorem ls_s (x : Str) : (LD.s x).st = x := rfl
theorem lc_t (x : List LD) : (LD.t x).cs = x := rfl
theorem bifD {p : Prop} [Decidable p] {A B : Prop} (h1 : p → A) (h2 : ¬ p → B) : bif decide p then A else B := by
  by_cases h : p
  · rw [decide_eq_true h]; exact h1 h
  · rw [decide_eq_false h]; exact h2 h
theorem bifN {p : Prop} [Decidable p] {A B : Prop} (h1 : ¬ p → A) (h2 : p → B) : bif (!(decide p)) then A else B := by
  by_cases h : p
  · rw [decide_eq_true h]; exact h2 h
  · rw [decide_eq_false h]; exact h1 h
theorem bifT {A B : Prop} (h : A) : bif true then A else B := h
theorem bifF {A B : Prop} (h : B) : bif false then A else B := h
theorem bifI {b : Bool} {A B : Prop} (h1 : b = true → A) (h2 : b = false → B) : bif b then A else B := by
  cases b
  · exact h2 rfl
  · exact h1 rfl
theorem bifA {a b : Bool} {A B : Prop} (h : bif a then (bif b then A else B) else B) : bif (a && b) then A else B := by
  cases a <;> cases b <;> exact h
theorem decD {p : Prop} [Decidable p] (h : p) : decide p = true := decide_eq_true h
theorem decN {p : Prop} [Decidable p] (h : ¬ p) : (!(decide p)) = true := by rw [decide_eq_false h]; rfl
theorem decA {a b : Bool} (h1 : a = true) (h2 : b = true) : (a && b) = true := by rw [h1, h2]; rfl
theorem wtL3 {a b c : LD} {x y z : CK} (h : wtL [a, b, c] [x, y, z]) : wt a x ∧ wt b y ∧ wt c z := by simp only [wtL] at h; exact ⟨h.1, h.2.1, h.2.2.1⟩
end Go.Va
