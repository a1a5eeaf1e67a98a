/- The small operations that turn memory, all together. No program. -/
import Derived.Test.YtojhofdndohhdaaGreatVk
set_option linter.unusedVariables false
set_option linter.unusedSectionVars false
set_option linter.unusedSimpArgs false
namespace Go.Va
open Go Go.Sh
variable [Vb]
variable {P : Program}

theorem bif_el {b : Bool} {p : Prop} (h : bif b then p else False) : b = true ∧ p := by cases b with
  | true => exact ⟨rfl, h⟩
  | false => exact h.elim
theorem appX_ok [Gd] {E : Env} {th : TH} {h0 h : Heap} {L : List HP} (r : Rep E th h0 h L) {t e ty : TypeId} {i : TypeInfo} {z : Value} {k : Nat} (hu : P.underlying t = some (.slice e)) (hi : P.info? e = some i) (hz : i.zero = some z) (hk : i.size = k) (hzk : z.cells.size = k) (hk0 : 0 < k)
    {s : FV} {v u : Value} {m : Nat} {xs : List FV} {us : List Value} (hs : den E s = some v) (A : App E h k m xs u us) {K : FV → TH → Prop} (hx : appX th k i.bytes s m xs K) : oAppend P #[t, t] ty #[v, u] h (Post E h0 L K) := by
  cases s <;> try (exact hx.elim)
  case nsl =>
    simp only [den, Option.some.injEq] at hs; subst hs
    cases m with
    | zero =>
      exact app_zero (s := .nsl) r hu hi hk A (Nat.le_refl _) rfl hx
    | succ m =>
      simp only [appX] at hx
      obtain ⟨hb, hx⟩ := bif_el hx
      simp only [Bool.and_eq_true] at hb
      exact app_nil r hu hi hz hk hzk hk0 A (by omega) (ble_t hb.1) (ble_t hb.2) hx
  case sl id off offz len cap =>
    cases m with
    | zero =>
      obtain ⟨a, c, hp, rfl, hc⟩ := den_sl hs
      cases cap with
      | lit c' =>
        simp only at hc; subst hc
        simp only [appX] at hx
        obtain ⟨hb, hx⟩ := bif_el hx
        exact app_zero r hu hi hk A (ble_t hb) hs hx
      | hid j =>
        obtain ⟨h1, rfl⟩ := hc
        exact app_zero r hu hi hk A (by omega) hs hx
    | succ m =>
      have hm : 0 < m + 1 := by omega
      generalize hM : m + 1 = M at *
      have hx : appS th k i.bytes id off offz len cap M xs K := by subst hM; exact hx
      unfold appS at hx
      obtain ⟨hb, hx⟩ := bif_el hx
      simp only [Bool.and_eq_true] at hb
      have hb1 := ble_t hb.1
      have hb2 := ble_t hb.2
      have hul := denL_length A.den
      have hxl : us.length = M * k := A.len
      cases cap with
      | lit c =>
        simp only [appL] at hx
        have hv : ∃ a, E.p id = some a ∧ v = .slice (some (a.add off)) len c := by
          simp only [den] at hs
          cases hp : E.p id with
          | none => rw [hp] at hs; cases hs
          | some a => rw [hp] at hs; simp only [Option.some.injEq] at hs; exact ⟨a, rfl, hs.symm⟩
        obtain ⟨a, hp, rfl⟩ := hv
        cases hfit : Nat.ble (len + M) c with
        | true =>
          rw [hfit] at hx
          simp only [cond_true] at hx
          cases hg : th.t.get id with
          | none => rw [hg] at hx; exact hx.elim
          | some ob =>
            rcases ob with ⟨cs, kk⟩ | ⟨dd, mm⟩ | ⟨ii, cc, bb⟩ | ⟨rr⟩
            case map => rw [hg] at hx; first | exact hx.elim | cases hx
            case it => rw [hg] at hx; first | exact hx.elim | cases hx
            case ro => rw [hg] at hx; first | exact hx.elim | cases hx
            rw [hg] at hx
            simp only at hx
            cases hsp : splO xs (off + len * k) cs with
            | none => rw [hsp] at hx; exact hx.elim
            | some cs' =>
              rw [hsp] at hx
              simp only at hx
              obtain ⟨a', vs, post, hc, s⟩ := r.told hg
              rw [hc.1] at hp; simp only [Option.some.injEq] at hp; subst hp
              obtain ⟨h1, h2⟩ := splO_some hsp
              have hvl := denL_length hc.2.1
              refine app_room hu hi hk s A (ble_t hfit) (by rw [List.length_append]; omega) fun h' s' => ?_
              rw [setAt_left _ _ _ _ (by omega)] at s'
              exact Post.same (by simp only [den, hc.1]) (r.store hg (hc.put (by rw [h1]; exact denL_setF _ hc.2.1 A.den) (by rw [h1]; exact setF_all hc.2.2.1 A.one) (setAt_length _ _ _)) s') hx
        | false =>
          rw [hfit] at hx
          simp only [cond_false] at hx
          have hgr : c < len + M := by
            rcases Nat.lt_or_ge c (len + M) with h | h
            · exact h
            · rw [Nat.ble_eq_true_of_le h] at hfit; cases hfit
          cases len with
          | zero =>
            simp only at hx
            have := app_grow (olds := []) (os := []) r hu hi hz hk hzk hk0 (a := a.add off) rfl rfl (by simp) (fun j y hy => by simp at hy) A hm hgr hb1 hb2 (K := K) (ty := ty) (by simpa using hx)
            exact this
          | succ len =>
            simp only at hx
            cases hg : th.t.get id with
            | none => rw [hg] at hx; exact hx.elim
            | some ob =>
              rcases ob with ⟨cs, kk⟩ | ⟨dd, mm⟩ | ⟨ii, cc, bb⟩ | ⟨rr⟩
              case map => rw [hg] at hx; first | exact hx.elim | cases hx
              case it => rw [hg] at hx; first | exact hx.elim | cases hx
              case ro => rw [hg] at hx; first | exact hx.elim | cases hx
              rw [hg] at hx
              simp only at hx
              cases ht : takeF ((len + 1) * k) (dropF off cs) with
              | none => rw [ht] at hx; exact hx.elim
              | some old =>
                rw [ht] at hx
                simp only at hx
                obtain ⟨h5, h6⟩ := takeF_some ht
                rw [dropF_eq] at h5 h6
                obtain ⟨a', vs, h1, h2, h3, h4⟩ := r.read hg
                rw [hp] at h1; simp only [Option.some.injEq] at h1; subst h1
                have h7 := denL_take ((len + 1) * k) (denL_drop off h2)
                rw [← h5] at h7
                refine app_grow r hu hi hz hk hzk hk0 (a := a.add off) h7 (by rw [h5]; exact all_take h3 _ _) (by rw [denL_length h7, h5, List.length_take, Nat.min_eq_left h6]) (fun j y hy => rd_cell ((h4.drop off).take ((len + 1) * k)) j y hy) A hm hgr hb1 hb2 hx
      | hid j =>
        simp only [appH] at hx
        cases hg : th.t.get id with
        | none => rw [hg] at hx; exact hx.elim
        | some ob =>
          rcases ob with ⟨cs, kk⟩ | ⟨dd, mm⟩ | ⟨ii, cc, bb⟩ | ⟨rr⟩
          case map => rw [hg] at hx; first | exact hx.elim | cases hx
          case it => rw [hg] at hx; first | exact hx.elim | cases hx
          case ro => rw [hg] at hx; first | exact hx.elim | cases hx
          rw [hg] at hx
          simp only at hx
          obtain ⟨hb3, hx⟩ := bif_el hx
          simp only [Bool.and_eq_true] at hb3
          have e1 := beq_t hb3.1
          have e2 := beq_t hb3.2
          subst e1
          obtain ⟨a', vs, post, hc, s⟩ := r.told hg
          have hvl := denL_length hc.2.1
          have htot := hc.2.2.2.2 (by omega)
          obtain ⟨a, c, hp, hv, hcap⟩ := den_sl hs
          simp only at hcap
          obtain ⟨hle, rfl⟩ := hcap
          rw [hc.1] at hp; simp only [Option.some.injEq] at hp; subst hp
          cases hsp : splO xs (off + len * kk) cs with
          | some cs' =>
            rw [hsp] at hx
            simp only at hx
            obtain ⟨h1, h2⟩ := splO_some hsp
            have hroom : j + len + M ≤ E.c id := by
              have h3 : (j + len + M) * kk ≤ E.c id * kk := by
                rw [← htot, Nat.add_mul, Nat.add_mul, ← e2]; omega
              exact Nat.le_of_mul_le_mul_right h3 hk0
            simp only at hv
            rw [if_neg (by omega)] at hv
            subst hv
            refine app_room hu hi hk s A (by omega) (by rw [List.length_append]; omega) fun h' s' => ?_
            rw [setAt_left _ _ _ _ (by omega)] at s'
            refine Post.same ?_ (r.store hg (hc.put (by rw [h1]; exact denL_setF _ hc.2.1 A.den) (by rw [h1]; exact setF_all hc.2.2.1 A.one) (setAt_length _ _ _)) s') hx
            simp only [den, hc.1]
            rw [if_pos (by omega), if_neg (by omega)]
          | none =>
            rw [hsp] at hx
            simp only at hx
            obtain ⟨hb4, hx⟩ := bif_el hx
            have e3 := beq_t hb4
            have hdr := denL_drop off hc.2.1
            have hdl := denL_length hdr
            have hol : (vs.drop off).length = len * kk := by rw [List.length_drop]; omega
            have hone : (dropF off cs).all oneF = true := by
              rw [dropF_eq, List.all_eq_true]
              exact fun y hy => List.all_eq_true.1 hc.2.2.1 y (List.mem_of_mem_drop hy)
            have rdel := r.del hg
            have Adel : App E h kk M xs u us := A
            subst hv
            by_cases hroom : len + M ≤ E.c id - j
            · simp only
              rw [if_neg (by omega)]
              have s2 := s
              have hpl : us.length ≤ post.length := by
                have h3 : (j + len + M) * kk ≤ E.c id * kk := Nat.mul_le_mul_right _ (by omega)
                rw [← htot, Nat.add_mul, Nat.add_mul, ← e2] at h3
                omega
              refine app_room hu hi hk s A hroom (by rw [List.length_append]; omega) fun h' s' => ?_
              have e4 : off + len * kk = vs.length := by omega
              rw [e4, setAt_append us vs post hpl] at s'
              have hsplit : vs ++ us ++ post.drop us.length = vs.take off ++ ((vs.drop off ++ us) ++ post.drop us.length) := by
                rw [← List.append_assoc, ← List.append_assoc, List.take_append_drop]
              rw [hsplit] at s'
              have s3 := St.cellsDrop s'
              have hto : (vs.take off).length = off := by rw [List.length_take]; omega
              rw [hto] at s3
              obtain ⟨g1, g2⟩ := Rep.add (th := th.del id) (cs := dropF off cs ++ xs) (k := kk) (c := E.c id - j) (a := a'.add off) (vs := vs.drop off ++ us) (post := post.drop us.length) r.fr rdel.nx s3
                (by rw [dropF_eq]; exact denL_append hdr A.den) (by rw [List.all_append, hone, A.one]; rfl) (fun h => by omega) (fun _ => by
                  rw [List.length_append, hol, List.length_drop, hxl, Nat.sub_mul, ← htot, ← e2]
                  omega)
              exact ⟨_, _, _, g1, den_newH hroom, g2, hx⟩
            · have hor : ∀ (i : Nat) (y : Value), (vs.drop off)[i]? = some y → cellAt h ((a'.add (if E.c id = j then offz else off)).add i) = some y := fun i y hy => by
                by_cases hz0 : E.c id = j
                · exfalso
                  have hl0 : len = 0 := by omega
                  have : (vs.drop off).length = 0 := by rw [hol, hl0, Nat.zero_mul]
                  rw [List.length_eq_zero_iff.1 this] at hy
                  simp at hy
                · rw [if_neg hz0]
                  have h4 := s.rd.take vs.length
                  rw [List.take_left] at h4
                  exact rd_cell (h4.drop off) i y hy
              exact app_grow rdel hu hi hz hk hzk hk0 (olds := dropF off cs) (by rw [dropF_eq]; exact hdr) hone hol hor A hm (by omega) hb1 hb2 hx
end Go.Va
