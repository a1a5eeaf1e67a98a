/- Effects all together; rows of operations in the order of the text. No program. -/
import Derived.Test.YtofcohgonchgfaaGreatVlm
set_option linter.unusedVariables false
set_option linter.unusedSimpArgs false
namespace Go.Va
open Go Go.Sh
variable {P : Program}

abbrev Cl := FV → List FV → TH → (FV → TH → Prop) → Prop
def ClOk [Gd] (P : Program) (cl : Cl) : Prop := ∀ f l th K, cl f l th K → ∀ E h0 h L fv vs, Rep E th h0 h L → den E f = some fv → denL E l = some vs → Sx P (callSem fv vs.toArray) h (Post E h0 L K)
theorem evX_ok [Gd] {cl : Cl} (hcl : ClOk P cl) {E : Env} {th : TH} {h0 h : Heap} {L : List HP} {ρ : Operand → Value} {fr : Fr} {o : Oper} {m : MOp} {K : FV → TH → Prop} (r : Rep E th h0 h L) (hρ : AgO E fr ρ) (hc : cop P o = some m) (hx : evX cl fr th m K) :
    Sx P (execOp ρ o) h (Post E h0 L K) := by
  have X : opX P ρ o h (Post E h0 L K) → Sx P (execOp ρ o) h (Post E h0 L K) := opX_sound
  obtain ⟨dst, op, type, pos, after, guard⟩ := o
  cases op <;> simp only [cop] at hc <;> try (cases hc; done)
  case alloc t =>
    refine X ?_
    obtain ⟨z, hz, hc⟩ := bind_some hc
    simp only [Option.some.injEq] at hc; subst hc
    exact alc_ok r hz hx
  case box t y =>
    refine X ?_
    obtain ⟨y', h1, hc⟩ := bind_some hc
    simp only [Option.some.injEq] at hc; subst hc
    simp only [evX, xBox] at hx
    cases hv : evO fr y' with
    | none => rw [hv] at hx; exact hx.elim
    | some v =>
      rw [hv] at hx
      obtain ⟨hn, hx⟩ := bif_el hx
      exact box_ok r (hρ y y' v h1 hv) hn hx
  case store t a v =>
    refine X ?_
    obtain ⟨a', h1, hc⟩ := bind_some hc
    obtain ⟨v', h2, hc⟩ := bind_some hc
    obtain ⟨k, hk, hc⟩ := bind_some hc
    simp only [Option.some.injEq] at hc; subst hc
    simp only [evX, xSt] at hx
    cases ha : evO fr a' with
    | none => rw [ha] at hx; exact hx.elim
    | some av =>
      cases hv : evO fr v' with
      | none => rw [ha, hv] at hx; exact hx.elim
      | some vv =>
        rw [ha, hv] at hx
        simp only at hx
        cases av <;> try (exact hx.elim)
        rename_i i o
        simp only [stF] at hx
        cases hg : th.t.get i with
        | none => rw [hg] at hx; exact hx.elim
        | some ob =>
          rcases ob with ⟨cs, kk⟩ | ⟨dd, mm⟩
          case map => rw [hg] at hx; first | exact hx.elim | cases hx
          rw [hg] at hx
          obtain ⟨hb, hx⟩ := bif_el hx
          simp only [Bool.and_eq_true] at hb
          cases hs : splO (cellsV vv) o cs with
          | none => rw [hs] at hx; exact hx.elim
          | some cs' =>
            rw [hs] at hx
            exact st_ok r hk (hρ a a' _ h1 ha) (hρ v v' _ h2 hv) hb.2 (beq_t hb.1) hg hs hx
  case buildSlice t n ps =>
    refine X ?_
    obtain ⟨l, h1, hc⟩ := bind_some hc
    cases hu : P.underlying t with
    | none => rw [hu] at hc; cases hc
    | some d =>
      rw [hu] at hc
      cases d <;> try (cases hc; done)
      obtain ⟨z, hz, hc⟩ := bind_some hc
      split at hc
      · rename_i hcond
        simp only [Option.some.injEq] at hc; subst hc
        simp only [evX, xBsl] at hx
        cases hq : evP fr l with
        | none => rw [hq] at hx; exact hx.elim
        | some q =>
          rw [hq] at hx
          simp only at hx
          cases hf : fillF (List.replicate n z).flatten (plsK z.length ps.toList) q with
          | none => rw [hf] at hx; exact hx.elim
          | some cs => rw [hf] at hx; exact bsl_ok r hρ h1 hq hu hz hf hcond.1 hcond.2 hx
      · split at hc
        · rename_i hz0
          obtain ⟨hn0, hps⟩ := hz0
          simp only [Option.some.injEq] at hc; subst hc
          subst hn0
          exact bs0_ok r hu hz hps hx
        · cases hc
  case makeSlice t l c =>
    refine X ?_
    obtain ⟨l', h1, hc⟩ := bind_some hc
    obtain ⟨c', h2, hc⟩ := bind_some hc
    cases hu : P.underlying t with
    | none => rw [hu] at hc; cases hc
    | some d =>
      rw [hu] at hc
      cases d <;> try (cases hc; done)
      obtain ⟨z, hz, hc⟩ := bind_some hc
      obtain ⟨i, hi, hc⟩ := bind_some hc
      split at hc
      · rename_i hcond
        simp only [Option.some.injEq] at hc; subst hc
        simp only [evX, xMks] at hx
        cases hl : evN fr l' with
        | none => rw [hl] at hx; exact hx.elim
        | some ln =>
          cases hcn : evN fr c' with
          | none => rw [hl, hcn] at hx; exact hx.elim
          | some cn =>
            rw [hl, hcn] at hx
            obtain ⟨hb, hx⟩ := bif_el hx
            simp only [Bool.and_eq_true] at hb
            show oMkSlice P t (ρ l) (ρ c) h _
            rw [evN_ok hρ h1 hl, evN_ok hρ h2 hcn]
            exact mks_ok r hu hz hi hcond (ble_t hb.1.1) (ble_t hb.1.2) (ble_t hb.2) hx
      · cases hc
  case makeMap t rr =>
    refine X ?_
    obtain ⟨r', h1, hc⟩ := bind_some hc
    cases hu : P.underlying t with
    | none => rw [hu] at hc; cases hc
    | some d =>
      rw [hu] at hc
      cases d <;> try (cases hc; done)
      obtain ⟨dd, hd, hc⟩ := bind_some hc
      simp only [Option.some.injEq] at hc; subst hc
      cases rr with
      | none =>
        simp only [c1O, Option.some.injEq] at h1; subst h1
        exact mkm_ok r hu (.inl rfl) hx
      | some y =>
        simp only [c1O] at h1
        cases h2 : c1 y with
        | none => rw [h2] at h1; cases h1
        | some y' =>
          rw [h2] at h1; simp only [Option.some.injEq] at h1; subst h1
          simp only [evX, xMkm] at hx
          cases hv : evO fr y' with
          | none => rw [hv] at hx; exact hx.elim
          | some v =>
            rw [hv] at hx
            cases v <;> try (exact hx.elim)
            rename_i kk nn
            have := hρ y y' _ h2 hv
            simp only [den, Option.some.injEq] at this
            exact mkm_ok r hu (q := some (ρ y)) (.inr ⟨kk, nn, by rw [← this]⟩) hx
  case mapUpdate t m k v =>
    refine X ?_
    obtain ⟨m', h1, hc⟩ := bind_some hc
    obtain ⟨k', h2, hc⟩ := bind_some hc
    obtain ⟨v', h3, hc⟩ := bind_some hc
    cases hu : P.underlying t with
    | none => rw [hu] at hc; cases hc
    | some d =>
      rw [hu] at hc
      cases d <;> try (cases hc; done)
      obtain ⟨dd, hd, hc⟩ := bind_some hc
      simp only [Option.some.injEq] at hc; subst hc
      simp only [evX, xMup] at hx
      cases ha : evO fr m' with
      | none => rw [ha] at hx; exact hx.elim
      | some av =>
        cases hb : evO fr k' with
        | none => rw [ha, hb] at hx; exact hx.elim
        | some bv =>
          cases hcv : evO fr v' with
          | none => rw [ha, hb, hcv] at hx; exact hx.elim
          | some cv =>
            rw [ha, hb, hcv] at hx
            exact mup_ok r hu hd (hρ m m' av h1 ha) (hρ k k' bv h2 hb) (hρ v v' cv h3 hcv) hx
  case lookup t y i ok =>
    exfalso
    obtain ⟨_, _, hc⟩ := bind_some hc
    obtain ⟨_, _, hc⟩ := bind_some hc
    split at hc
    · obtain ⟨_, _, hc⟩ := bind_some hc
      obtain ⟨_, _, hc⟩ := bind_some hc
      simp only [Option.some.injEq] at hc; subst hc; exact hx
    · cases hc
  case call c =>
    obtain ⟨callee, args, ats⟩ := c
    cases callee <;> simp only at hc
    case value f =>
      refine X ?_
      obtain ⟨f', h1, hc⟩ := bind_some hc
      obtain ⟨l', h2, hc⟩ := bind_some hc
      simp only [Option.some.injEq] at hc; subst hc
      simp only [evX, xCall] at hx
      cases hf : evO fr f' with
      | none => rw [hf] at hx; exact hx.elim
      | some fv =>
        cases hl : evL fr l' with
        | none => rw [hf, hl] at hx; exact hx.elim
        | some lv =>
          rw [hf, hl] at hx
          exact hcl fv lv th K hx E h0 h L _ _ r (hρ f f' fv h1 hf) (hρ.list h2 hl)
    case invoke => cases hc
    case builtin b =>
      cases b <;> simp only at hc <;> try (cases hc; done)
      case append =>
        refine X ?_
        obtain ⟨al⟩ := args
        obtain ⟨tl⟩ := ats
        match al, tl, hc with
        | [s, y], [t, t'], hc =>
          simp only at hc
          obtain ⟨s', h1, hc⟩ := bind_some hc
          obtain ⟨y', h2, hc⟩ := bind_some hc
          cases hu : P.underlying t with
          | none => rw [hu] at hc; cases hc
          | some d =>
            rw [hu] at hc
            cases d <;> try (cases hc; done)
            obtain ⟨z, hz, hc⟩ := bind_some hc
            obtain ⟨i, hi, hc⟩ := bind_some hc
            split at hc
            · rename_i hcond
              obtain ⟨hzp, ht⟩ := hcond
              simp only [Option.some.injEq] at hc; subst hc
              subst ht
              simp only [evX, xApp] at hx
              cases hsv : evO fr s' with
              | none => rw [hsv] at hx; exact hx.elim
              | some sv =>
                cases hyv : evO fr y' with
                | none => rw [hsv, hyv] at hx; exact hx.elim
                | some yv =>
                  rw [hsv, hyv] at hx
                  simp only at hx
                  cases hap : appC th.t z.length yv with
                  | none => rw [hap] at hx; exact hx.elim
                  | some p =>
                    obtain ⟨m, xs⟩ := p
                    rw [hap] at hx
                    obtain ⟨us, A⟩ := appC_ok r (hρ y y' yv h2 hyv) hap
                    obtain ⟨i', zv, g1, g2, g3, g4, g5, g6⟩ := zrO_inf hz
                    rw [hi] at g1; simp only [Option.some.injEq] at g1; subst g1
                    exact appX_ok r hu hi g2 g5.symm (by rw [g6, g5]) hzp (hρ s s' sv h1 hsv) A hx
            · cases hc
      all_goals
        exfalso
        split at hc <;> first
          | (cases hc; done)
          | (obtain ⟨_, _, hc⟩ := bind_some hc
             first
               | (obtain ⟨_, _, hc⟩ := bind_some hc; simp only [Option.some.injEq] at hc; subst hc; exact hx)
               | (split at hc <;> first | (cases hc; done) | (simp only [Option.some.injEq] at hc; subst hc; exact hx)))
  case binOp op t y z yt =>
    exfalso
    obtain ⟨_, _, hc⟩ := bind_some hc
    obtain ⟨_, _, hc⟩ := bind_some hc
    obtain ⟨_, _, hc⟩ := bind_some hc
    split at hc
    · simp only [Option.some.injEq] at hc; subst hc; exact hx
    · split at hc
      · split at hc
        · cases hc
        · obtain ⟨_, _, hc⟩ := bind_some hc
          split at hc <;> first | (cases hc; done) | (simp only [Option.some.injEq] at hc; subst hc; exact hx)
      · obtain ⟨_, _, hc⟩ := bind_some hc
        split at hc <;> first | (cases hc; done) | (simp only [Option.some.injEq] at hc; subst hc; exact hx)
  case unOp op t y =>
    exfalso
    obtain ⟨_, _, hc⟩ := bind_some hc
    split at hc <;> first | (cases hc; done) | (simp only [Option.some.injEq] at hc; subst hc; exact hx)
  case convert s d y =>
    exfalso
    obtain ⟨_, _, hc⟩ := bind_some hc
    split at hc <;> first | (cases hc; done) | (simp only [Option.some.injEq] at hc; subst hc; exact hx)
  case makeInterface t y =>
    exfalso
    obtain ⟨_, _, hc⟩ := bind_some hc
    obtain ⟨_, _, hc⟩ := bind_some hc
    split at hc <;> first | (cases hc; done) | (simp only [Option.some.injEq] at hc; subst hc; exact hx)
  case slice t y lo hi mx =>
    exfalso
    obtain ⟨_, _, hc⟩ := bind_some hc
    obtain ⟨_, _, hc⟩ := bind_some hc
    obtain ⟨_, _, hc⟩ := bind_some hc
    obtain ⟨_, _, hc⟩ := bind_some hc
    split at hc
    · obtain ⟨_, _, hc⟩ := bind_some hc
      simp only [Option.some.injEq] at hc; subst hc; exact hx
    · split at hc <;> first | (cases hc; done) | (simp only [Option.some.injEq] at hc; subst hc; exact hx)
    · obtain ⟨_, _, hc⟩ := bind_some hc
      simp only [Option.some.injEq] at hc; subst hc; exact hx
    · cases hc
  case fieldAddr t y i =>
    exfalso
    obtain ⟨_, _, hc⟩ := bind_some hc
    split at hc
    · obtain ⟨_, _, hc⟩ := bind_some hc
      obtain ⟨_, _, hc⟩ := bind_some hc
      split at hc <;> first | (cases hc; done) | (simp only [Option.some.injEq] at hc; subst hc; exact hx)
    · cases hc
  case field t y i =>
    exfalso
    obtain ⟨_, _, hc⟩ := bind_some hc
    split at hc
    · obtain ⟨_, _, hc⟩ := bind_some hc
      obtain ⟨_, _, hc⟩ := bind_some hc
      obtain ⟨_, _, hc⟩ := bind_some hc
      simp only [Option.some.injEq] at hc; subst hc; exact hx
    · cases hc
  case indexAddr t y i =>
    exfalso
    obtain ⟨_, _, hc⟩ := bind_some hc
    obtain ⟨_, _, hc⟩ := bind_some hc
    split at hc
    · obtain ⟨_, _, hc⟩ := bind_some hc
      simp only [Option.some.injEq] at hc; subst hc; exact hx
    · obtain ⟨_, _, hc⟩ := bind_some hc
      simp only [Option.some.injEq] at hc; subst hc; exact hx
    · cases hc
  case index t y i =>
    exfalso
    obtain ⟨_, _, hc⟩ := bind_some hc
    obtain ⟨_, _, hc⟩ := bind_some hc
    split at hc
    · simp only [Option.some.injEq] at hc; subst hc; exact hx
    · obtain ⟨_, _, hc⟩ := bind_some hc
      obtain ⟨_, _, hc⟩ := bind_some hc
      simp only [Option.some.injEq] at hc; subst hc; exact hx
    · cases hc
  case build t ps =>
    exfalso
    obtain ⟨_, _, hc⟩ := bind_some hc
    split at hc
    · obtain ⟨_, _, hc⟩ := bind_some hc
      obtain ⟨_, _, hc⟩ := bind_some hc
      obtain ⟨_, _, hc⟩ := bind_some hc
      simp only [Option.some.injEq] at hc; subst hc; exact hx
    · obtain ⟨_, _, hc⟩ := bind_some hc
      obtain ⟨_, _, hc⟩ := bind_some hc
      simp only [Option.some.injEq] at hc; subst hc; exact hx
    · cases hc
  case load t y =>
    exfalso
    obtain ⟨_, _, hc⟩ := bind_some hc
    obtain ⟨_, _, hc⟩ := bind_some hc
    obtain ⟨_, _, hc⟩ := bind_some hc
    split at hc <;> first | (cases hc; done) | (simp only [Option.some.injEq] at hc; subst hc; exact hx)
  all_goals
    exfalso
    first
      | (obtain ⟨_, _, hc⟩ := bind_some hc; simp only [Option.some.injEq] at hc; subst hc; exact hx)
      | (obtain ⟨_, _, hc⟩ := bind_some hc; obtain ⟨_, _, hc⟩ := bind_some hc; simp only [Option.some.injEq] at hc; subst hc; exact hx)
      | (obtain ⟨_, _, hc⟩ := bind_some hc; obtain ⟨_, _, hc⟩ := bind_some hc; obtain ⟨_, _, hc⟩ := bind_some hc; simp only [Option.some.injEq] at hc; subst hc; exact hx)
end Go.Va
