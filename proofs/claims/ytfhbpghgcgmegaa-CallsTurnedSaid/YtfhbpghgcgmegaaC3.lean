/- Contract: the sort of strings. -/
import Derived.Test.YtfhbpghgcgmegaaC2
import Derived.Test.YtfhbpghgcgmegaaSrt
import Derived.Test.YtfhbpghgcgmegaaLay
import Derived.Shelf.Small.Strs
set_option linter.unusedVariables false
namespace Go.Proofs.Ytfhbpghgcgmegaa
open Go Go.Sh Go.Proofs Go.Lib Go.Sort Go.Shelf

theorem compare_run (a b : Str) (w : World) : Calls Try.prog 21 #[str a, str b] w fun e w' => e = .returned (.int .i64 (compareBytes a b)) ∧ w' = w :=
  Any.strings_Compare cmpStr ⟨a.toArray⟩ ⟨b.toArray⟩ w

theorem sort_ok {h0 h : Heap} {v : Value} {d : List Str} {M : List HP} (s : St h0 h (Row 1 v d.length (d.map str) :: M)) (hsz : d.length < 4611686018427387904) :
    HC Try.prog 20 #[v, .func (.func 21) #[] #[]] h fun u h' => u = .tuple #[] ∧ St h0 h' (Row 1 v (sortS d).length ((sortS d).map str) :: M) := by
  have e : ltOf compareBytes = ltS := by funext a b; exact cmp_ltS a b
  have key := sort_row sortStr str (fun _ => rfl) compareBytes swoS (fun x y => by rw [e]; exact ltS_tri x y) 21 #[] (fun args w => Fnc.run args w) (fun x y w => compare_run x y w) s hsz
  refine HC.mono key fun u h' => ?_
  rintro ⟨hu, hs⟩
  refine ⟨hu, ?_⟩
  have hm : (d.mergeSort fun x y => !(ltOf compareBytes) y x) = sortS d := by
    refine sortS_unique (List.mergeSort_perm d _) ?_
    have h1 := List.pairwise_mergeSort (le := fun x y => !(ltOf compareBytes) y x) (fun a b c h k => ?_) (fun a b => ?_) d
    · refine h1.imp fun {a b} hab => ?_
      rw [e] at hab
      simpa using hab
    · rw [e] at h k ⊢
      simp only [Bool.not_eq_true'] at h k ⊢
      exact ltS_ntrans c b a k h
    · rw [e]
      cases hb : ltS b a with
      | false => rfl
      | true => simp [ltS_asymm b a hb]
  rw [hm] at hs
  rw [(sortS_perm d).length_eq]
  exact hs
end Go.Proofs.Ytfhbpghgcgmegaa
