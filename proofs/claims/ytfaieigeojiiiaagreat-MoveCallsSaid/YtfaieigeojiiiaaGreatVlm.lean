/- The small operations that turn memory, all together. No program. -/
import Derived.Test.YtfaieigeojiiiaaGreatVk
import Derived.Lib.AppendZeros
set_option linter.unusedVariables false
set_option linter.unusedSectionVars false
set_option linter.unusedSimpArgs false
namespace Go.Va
open Go Go.Sh
variable [Vb]
variable {P : Program}

theorem bif_el {b : Bool} {p : Prop} (h : bif b then p else False) : b = true ∧ p := by cases b with
  | true => exact ⟨rfl, h⟩
  | false => exact h.elim
theorem appX_ok [Gd] {E : Env} {th : TH} {h0 h : Heap} {L : List HP} (r : Rep E th h0 h L) {t e ty : TypeId} {i : TypeInfo} {z : Value} {k : Nat} (hu : P.underlying t = some (.slice e)) (hi : P.info? e = some i) (hz : i.zero = some z) (hk : i.size = k) (hzk : z.cells.size = k) (hk0 : 0 < k)
    {s : FV} {v u : Value} {m : Nat} {xs : List FV} {us : List Value} (hs : den E s = some v) (A : App E h k m xs u us) {K : FV → TH → Prop} (hx : appX th k i.bytes s m xs K) : oAppend P #[t, t] ty #[v, u] h (Post E h0 L K) := by
  cases s <;> try (exact hx.elim)
  case nsl =>
    simp only [den, Option.some.injEq] at hs; subst hs
    cases m with
    | zero =>
      exact app_zero (s := .nsl) r hu hi hk A (Nat.le_refl _) rfl hx
    | succ m =>
      simp only [appX] at hx
      obtain ⟨hb, hx⟩ := bif_el hx
      simp only [Bool.and_eq_true] at hb
      exact app_nil r hu hi hz hk hzk hk0 A (by omega) (ble_t hb.1) (ble_t hb.2) hx
  case sl id off offz len cap =>
    cases m with
    | zero =>
      obtain ⟨a, c, hp, rfl, hc⟩ := den_sl hs
      cases cap with
      | lit c' =>
        simp only at hc; subst hc
        simp only [appX] at hx
        obtain ⟨hb, hx⟩ := bif_el hx
        exact app_zero r hu hi hk A (ble_t hb) hs hx
      | hid j =>
        obtain ⟨h1, rfl⟩ := hc
        exact app_zero r hu hi hk A (by omega) hs hx
    | succ m =>
      have hm : 0 < m + 1 := by omega
      generalize hM : m + 1 = M at *
      have hx : appS th k i.bytes id off offz len cap M xs K := by subst hM; exact hx
      unfold appS at hx
      obtain ⟨hb, hx⟩ := bif_el hx
      simp only [Bool.and_eq_true] at hb
      have hb1 := ble_t hb.1
      have hb2 := ble_t hb.2
      have hul := denL_length A.den
      have hxl : us.length = M * k := A.len
      cases cap with
      | lit c =>
        simp only [appL] at hx
        have hv : ∃ a, E.p id = some a ∧ v = .slice (some (a.add off)) len c := by
          simp only [den] at hs
          cases hp : E.p id with
          | none => rw [hp] at hs; cases hs
          | some a => rw [hp] at hs; simp only [Option.some.injEq] at hs; exact ⟨a, rfl, hs.symm⟩
        obtain ⟨a, hp, rfl⟩ := hv
        cases hfit : Nat.ble (len + M) c with
        | true =>
          rw [hfit] at hx
          simp only [cond_true] at hx
          cases hg : th.t.get id with
          | none => rw [hg] at hx; exact hx.elim
          | some ob =>
            rcases ob with ⟨cs, kk⟩ | ⟨dd, mm⟩ | ⟨ii, cc, bb⟩ | ⟨rr⟩
            case map => rw [hg] at hx; first | exact hx.elim | cases hx
            case it => rw [hg] at hx; first | exact hx.elim | cases hx
            case ro => rw [hg] at hx; first | exact hx.elim | cases hx
            case row => rw [hg] at hx; first | exact hx.elim | cases hx
            rw [hg] at hx
            simp only at hx
            cases hsp : splO xs (off + len * k) cs with
            | none => rw [hsp] at hx; exact hx.elim
            | some cs' =>
              rw [hsp] at hx
              simp only at hx
              obtain ⟨a', vs, post, hc, s⟩ := r.told hg
              rw [hc.1] at hp; simp only [Option.some.injEq] at hp; subst hp
              obtain ⟨h1, h2⟩ := splO_some hsp
              have hvl := denL_length hc.2.1
              refine app_room hu hi hk s A (ble_t hfit) (by rw [List.length_append]; omega) fun h' s' => ?_
              rw [setAt_left _ _ _ _ (by omega)] at s'
              exact Post.same (by simp only [den, hc.1]) (r.store hg (hc.put (by rw [h1]; exact denL_setF _ hc.2.1 A.den) (by rw [h1]; exact setF_all hc.2.2.1 A.one) (setAt_length _ _ _)) s') hx
        | false =>
          rw [hfit] at hx
          simp only [cond_false] at hx
          have hgr : c < len + M := by
            rcases Nat.lt_or_ge c (len + M) with h | h
            · exact h
            · rw [Nat.ble_eq_true_of_le h] at hfit; cases hfit
          cases len with
          | zero =>
            simp only at hx
            have := app_grow (olds := []) (os := []) r hu hi hz hk hzk hk0 (a := a.add off) rfl rfl (by simp) (fun j y hy => by simp at hy) A hm hgr hb1 hb2 (K := K) (ty := ty) (by simpa using hx)
            exact this
          | succ len =>
            simp only at hx
            cases hg : th.t.get id with
            | none => rw [hg] at hx; exact hx.elim
            | some ob =>
              rcases ob with ⟨cs, kk⟩ | ⟨dd, mm⟩ | ⟨ii, cc, bb⟩ | ⟨rr⟩
              case map => rw [hg] at hx; first | exact hx.elim | cases hx
              case it => rw [hg] at hx; first | exact hx.elim | cases hx
              case ro => rw [hg] at hx; first | exact hx.elim | cases hx
              case row => rw [hg] at hx; first | exact hx.elim | cases hx
              rw [hg] at hx
              simp only at hx
              cases ht : takeF ((len + 1) * k) (dropF off cs) with
              | none => rw [ht] at hx; exact hx.elim
              | some old =>
                rw [ht] at hx
                simp only at hx
                obtain ⟨h5, h6⟩ := takeF_some ht
                rw [dropF_eq] at h5 h6
                obtain ⟨a', vs, h1, h2, h3, h4⟩ := r.read hg
                rw [hp] at h1; simp only [Option.some.injEq] at h1; subst h1
                have h7 := denL_take ((len + 1) * k) (denL_drop off h2)
                rw [← h5] at h7
                refine app_grow r hu hi hz hk hzk hk0 (a := a.add off) h7 (by rw [h5]; exact all_take h3 _ _) (by rw [denL_length h7, h5, List.length_take, Nat.min_eq_left h6]) (fun j y hy => rd_cell ((h4.drop off).take ((len + 1) * k)) j y hy) A hm hgr hb1 hb2 hx
      | hid j =>
        simp only [appH] at hx
        cases hg : th.t.get id with
        | none => rw [hg] at hx; exact hx.elim
        | some ob =>
          rcases ob with ⟨cs, kk⟩ | ⟨dd, mm⟩ | ⟨ii, cc, bb⟩ | ⟨rr⟩
          case map => rw [hg] at hx; first | exact hx.elim | cases hx
          case it => rw [hg] at hx; first | exact hx.elim | cases hx
          case ro => rw [hg] at hx; first | exact hx.elim | cases hx
          case row => rw [hg] at hx; first | exact hx.elim | cases hx
          rw [hg] at hx
          simp only at hx
          obtain ⟨hb3, hx⟩ := bif_el hx
          simp only [Bool.and_eq_true] at hb3
          have e1 := beq_t hb3.1
          have e2 := beq_t hb3.2
          subst e1
          obtain ⟨a', vs, post, hc, s⟩ := r.told hg
          have hvl := denL_length hc.2.1
          have htot := hc.2.2.2.2 (by omega)
          obtain ⟨a, c, hp, hv, hcap⟩ := den_sl hs
          simp only at hcap
          obtain ⟨hle, rfl⟩ := hcap
          rw [hc.1] at hp; simp only [Option.some.injEq] at hp; subst hp
          cases hsp : splO xs (off + len * kk) cs with
          | some cs' =>
            rw [hsp] at hx
            simp only at hx
            obtain ⟨h1, h2⟩ := splO_some hsp
            have hroom : j + len + M ≤ E.c id := by
              have h3 : (j + len + M) * kk ≤ E.c id * kk := by
                rw [← htot, Nat.add_mul, Nat.add_mul, ← e2]; omega
              exact Nat.le_of_mul_le_mul_right h3 hk0
            simp only at hv
            rw [if_neg (by omega)] at hv
            subst hv
            refine app_room hu hi hk s A (by omega) (by rw [List.length_append]; omega) fun h' s' => ?_
            rw [setAt_left _ _ _ _ (by omega)] at s'
            refine Post.same ?_ (r.store hg (hc.put (by rw [h1]; exact denL_setF _ hc.2.1 A.den) (by rw [h1]; exact setF_all hc.2.2.1 A.one) (setAt_length _ _ _)) s') hx
            simp only [den, hc.1]
            rw [if_pos (by omega), if_neg (by omega)]
          | none =>
            rw [hsp] at hx
            simp only at hx
            obtain ⟨hb4, hx⟩ := bif_el hx
            have e3 := beq_t hb4
            have hdr := denL_drop off hc.2.1
            have hdl := denL_length hdr
            have hol : (vs.drop off).length = len * kk := by rw [List.length_drop]; omega
            have hone : (dropF off cs).all oneF = true := by
              rw [dropF_eq, List.all_eq_true]
              exact fun y hy => List.all_eq_true.1 hc.2.2.1 y (List.mem_of_mem_drop hy)
            have rdel := r.del hg
            have Adel : App E h kk M xs u us := A
            subst hv
            by_cases hroom : len + M ≤ E.c id - j
            · simp only
              rw [if_neg (by omega)]
              have s2 := s
              have hpl : us.length ≤ post.length := by
                have h3 : (j + len + M) * kk ≤ E.c id * kk := Nat.mul_le_mul_right _ (by omega)
                rw [← htot, Nat.add_mul, Nat.add_mul, ← e2] at h3
                omega
              refine app_room hu hi hk s A hroom (by rw [List.length_append]; omega) fun h' s' => ?_
              have e4 : off + len * kk = vs.length := by omega
              rw [e4, setAt_append us vs post hpl] at s'
              have hsplit : vs ++ us ++ post.drop us.length = vs.take off ++ ((vs.drop off ++ us) ++ post.drop us.length) := by
                rw [← List.append_assoc, ← List.append_assoc, List.take_append_drop]
              rw [hsplit] at s'
              have s3 := St.cellsDrop s'
              have hto : (vs.take off).length = off := by rw [List.length_take]; omega
              rw [hto] at s3
              obtain ⟨g1, g2⟩ := Rep.add (th := th.del id) (cs := dropF off cs ++ xs) (k := kk) (c := E.c id - j) (a := a'.add off) (vs := vs.drop off ++ us) (post := post.drop us.length) r.fr r.eh rdel.nx s3
                (by rw [dropF_eq]; exact denL_append hdr A.den) (by rw [List.all_append, hone, A.one]; rfl) (fun h => by omega) (fun _ => by
                  rw [List.length_append, hol, List.length_drop, hxl, Nat.sub_mul, ← htot, ← e2]
                  omega)
              exact ⟨_, _, _, g1, den_newH hroom, g2, hx⟩
            · have hor : ∀ (i : Nat) (y : Value), (vs.drop off)[i]? = some y → cellAt h ((a'.add (if E.c id = j then offz else off)).add i) = some y := fun i y hy => by
                by_cases hz0 : E.c id = j
                · exfalso
                  have hl0 : len = 0 := by omega
                  have : (vs.drop off).length = 0 := by rw [hol, hl0, Nat.zero_mul]
                  rw [List.length_eq_zero_iff.1 this] at hy
                  simp at hy
                · rw [if_neg hz0]
                  have h4 := s.rd.take vs.length
                  rw [List.take_left] at h4
                  exact rd_cell (h4.drop off) i y hy
              exact app_grow rdel hu hi hz hk hzk hk0 (olds := dropF off cs) (by rw [dropF_eq]; exact hdr) hone hol hor A hm (by omega) hb1 hb2 hx
end Go.Va
set_option linter.unusedVariables false
set_option linter.unusedSectionVars false
set_option linter.unusedSimpArgs false
namespace Go.Va
open Go Go.Sh
variable [Vb]
variable {P : Program}
theorem mkm_ok [Gd] {E : Env} {th : TH} {h0 h : Heap} {L : List HP} (r : Rep E th h0 h L) {t kt et : TypeId} {d : KD} (hu : P.underlying t = some (.map kt et)) {q : Option Value} (hq : q = none ∨ ∃ k n, q = some (.int k n))
    {K : FV → TH → Prop} (k : K (.map th.nx) (th.new (.map d []))) : oMkMap P t q h (Post E h0 L K) := by
  haveI : Und P t (.map kt et) := ⟨hu⟩
  intro w hw
  have hrun : (Instr.makeMap t q).run P w = .ok (.map (some w.heap.size)) { w with heap := w.heap.push (.map #[] 0) } := by
    rcases hq with rfl | ⟨k, n, rfl⟩
    · simp [Instr.makeMap, newObj, Sem.run]
    · simp [Instr.makeMap, newObj, Sem.run, Und.run, asInt, asIntOf]
  rw [nv_run hrun]
  refine ⟨⟨rfl, rfl, rfl, fun _ => Nat.le_refl _⟩, ?_⟩
  rw [hw]
  have s := r.st.new (A' := Mk.MapO (.map (some h.size)) []) (h' := h.push (.map #[] 0)) (by simp) (fun b hb => push_old b hb) ⟨⟨rfl, by simp, by simp, by simp⟩, h.size, rfl, ⟨Nat.le_refl _, by simp⟩, by simp [Mk.ents]⟩
  obtain ⟨h1, h2⟩ := Rep.addM (d := d) (a := ⟨h.size, 0, none⟩) r.fr r.eh r.nx s
  exact ⟨_, _, _, h1, by simp [den, Env.add], h2, k⟩
theorem mup_ok [Gd] {E : Env} {th : TH} {h0 h : Heap} {L : List HP} (r : Rep E th h0 h L) {t kt et : TypeId} {d : KD} (hu : P.underlying t = some (.map kt et)) (hd : kdO P kt = some d) {x k v : FV} {a b c : Value}
    (ha : den E x = some a) (hb : den E k = some b) (hc : den E v = some c) {K : FV → TH → Prop} (hx : mupF d x k v th K) : oUpd P t a b c h (Post E h0 L K) := by
  haveI : Und P t (.map kt et) := ⟨hu⟩
  cases x <;> simp only [mupF] at hx <;> try (exact hx.elim)
  rename_i i
  cases hg : th.t.get i with
  | none => rw [hg] at hx; exact hx.elim
  | some o =>
    rw [hg] at hx
    rcases o with ⟨cs, kk⟩ | ⟨d', m⟩ | ⟨ii, cc, bb⟩ | ⟨rr⟩
    case row => first | exact hx.elim | cases hx
    · exact hx.elim
    · simp only at hx
      obtain ⟨hbb, hx⟩ := bif_el hx
      simp only [Bool.and_eq_true] at hbb
      have e := kdq_t hbb.1
      subst e
      obtain ⟨q, h1, h2, rfl⟩ := kokF_ok hbb.2 hb
      obtain ⟨ad, hp, rfl⟩ := den_map ha
      obtain ⟨ad', l, g1, g2, s⟩ := r.toldM hg
      rw [hp] at g1; simp only [Option.some.injEq] at g1; subst g1
      refine Mk.oUpd_own (kdO_eq hd) h2 (denM_ok g2) (Mk.St.mapO s) fun h' st' c2 e1 e2 s' => ?_
      have e3 : st' = List.range (Mk.ups l q c).length ∧ c2 = (Mk.ups l q c).length := by
        cases hl : Mk.look l q with
        | none =>
          obtain ⟨f1, f2, f3⟩ := e2 hl
          rw [f1, f2, f3]; exact ⟨(List.range_succ).symm, rfl⟩
        | some y =>
          obtain ⟨f1, f2, f3⟩ := e1 (by rw [hl]; rfl)
          rw [f1, f2, f3]; exact ⟨rfl, rfl⟩
      obtain ⟨rfl, rfl⟩ := e3
      have hden := upM_ok h1 hc g2
      have s2 : St h0 h' (part E (i, .map d (upM k v m)) :: ((th.t.del i).all.map (part E) ++ (FzP E.z :: L))) := s'.imp fun S ho => ⟨(ad, Mk.ups l q c), ⟨hp, hden⟩, ho⟩
      exact Post.same (den_und E) (Rep.put hg s2 r.fr r.eh) hx
    · exact hx.elim
    · exact hx.elim
/-! ### Ranges over maps -/
theorem rng_ok [Gd] {E : Env} {th : TH} {h0 h : Heap} {L : List HP} (r : Rep E th h0 h L) {t kt et : TypeId} (hu : P.underlying t = some (.map kt et)) {x : FV} {a : Value} (ha : den E x = some a) {K : FV → TH → Prop} (hx : rngF x th K) :
    oRange P t a h (Post E h0 L K) := by
  haveI : Und P t (.map kt et) := ⟨hu⟩
  cases x <;> simp only [rngF] at hx <;> try (exact hx.elim)
  rename_i i
  cases hg : th.t.get i with
  | none => rw [hg] at hx; exact hx.elim
  | some o =>
    rw [hg] at hx
    rcases o with ⟨cs, kk⟩ | ⟨d, m⟩ | ⟨ii, cc, bb⟩ | ⟨rr⟩ <;> try (exact hx.elim)
    simp only at hx
    obtain ⟨hb1, hx⟩ := bif_el hx
    obtain ⟨ad, hp, rfl⟩ := den_map ha
    obtain ⟨ad', l, g1, g2, hok, q, e, hb⟩ := r.readM hg
    rw [hp] at g1; simp only [Option.some.injEq] at g1; subst g1
    simp only [Value.map.injEq, Option.some.injEq] at e
    rw [← e] at hb
    intro w hw
    rw [← hw] at hb
    have hrun : (Instr.range t (.map (some ad.block))).run P w = .ok (.pointer (some ⟨w.heap.size, 0, none⟩)) { w with heap := w.heap.push (.mapIter (some ad.block) l.length #[] l.length) } := by
      unfold Instr.range
      simp [Und.run, run_getObj (P := P) hb (by simp), newObj, Sem.run]
    rw [nv_run hrun]
    refine ⟨⟨rfl, rfl, rfl, fun _ => Nat.le_refl _⟩, ?_⟩
    rw [hw]
    have s := r.st.new (A' := ItB ⟨h.size, 0, none⟩ ad.block m.length false) (h' := h.push (.mapIter (some ad.block) l.length #[] l.length)) (by simp) (fun b hb => push_old b hb) ⟨h.size, rfl, ⟨Nat.le_refl _, by simp⟩, by simp [seenA, denM_len g2]⟩
    have hle := Env.le_add (E := E) (i := th.nx) (⟨h.size, 0, none⟩ : Addr) 0 (r.fr _ (Nat.le_refl _))
    obtain ⟨h1, h2⟩ := Rep.addO (o := .it i m.length false) (a := ⟨h.size, 0, none⟩) r.fr r.eh r.nx s fun S hS => ⟨(⟨h.size, 0, none⟩, ad), ⟨by simp [Env.add], (hle.p.a i ad hp).1⟩, hS⟩
    exact ⟨_, _, _, h1, by simp [den, Env.add, Addr.add], h2, hx⟩
theorem nxt_ok [Gd] {E : Env} {th : TH} {h0 h : Heap} {L : List HP} (r : Rep E th h0 h L) {ty : TypeId} {x : FV} {a : Value} (ha : den E x = some a) {K : FV → TH → Prop} (hx : nxtF x th K) :
    oNext P a false ty h (Post E h0 L K) := by
  cases x <;> simp only [nxtF] at hx <;> try (exact hx.elim)
  rename_i j o
  cases o with
  | succ o => exact hx.elim
  | zero =>
    simp only at hx
    cases hg : th.t.get j with
    | none => rw [hg] at hx; exact hx.elim
    | some ob =>
      rw [hg] at hx
      rcases ob with ⟨cs, kk⟩ | ⟨dd, mm⟩ | ⟨i, c, b⟩ | ⟨rr⟩ <;> try (exact hx.elim)
      simp only at hx
      cases hg2 : th.t.get i with
      | none => rw [hg2] at hx; exact hx.elim
      | some ob =>
        rw [hg2] at hx
        rcases ob with ⟨cs, kk⟩ | ⟨d, m⟩ | ⟨ii, cc, bb⟩ | ⟨rr⟩ <;> try (exact hx.elim)
        simp only at hx
        obtain ⟨hb1, hx⟩ := bif_el hx
        have hc := beq_t hb1
        subst hc
        obtain ⟨i0, ad, h1, h2, hi⟩ := r.readI hg
        obtain ⟨ad', l, g1, g2, hok, q, e, hb⟩ := r.readM hg2
        rw [h2] at g1; simp only [Option.some.injEq] at g1; subst g1
        simp only [Value.map.injEq, Option.some.injEq] at e
        rw [← e] at hb
        simp only [den, h1, Option.some.injEq] at ha; subst ha
        intro w hw
        have hi0 := hi
        rw [← hw] at hb hi
        show NextOk P _ w ((nv (Instr.next (.pointer (some ⟨i0, 0, none⟩)) false ty)).run P w)
        have over : (Instr.next (.pointer (some ⟨i0, 0, none⟩)) false ty).run P w = .ok (.tuple #[.bool false]) w → K (.tup [.bool false]) th → NextOk P (Post E h0 L K) w ((nv (Instr.next (.pointer (some ⟨i0, 0, none⟩)) false ty)).run P w) := fun hrun hk => by
          rw [nv_run hrun]
          exact ⟨SameW.refl w, by rw [hw]; exact Post.same (x := .tup [.bool false]) (by simp [den, denL]) r hk⟩
        cases m with
        | nil =>
          simp only [denM, Option.some.injEq] at g2; subst g2
          have hgi := run_getObj (P := P) (o := .mapIter (some ad.block) 0 (seenA b) 0) hi (by simp)
          have hgm := run_getObj (P := P) (o := .map #[] 0) hb (by simp)
          refine over ?_ hx
          unfold Instr.next
          simp only [Sem.run_bind, hgi, Result.andThen_ok]
          simp [hgm, choose, Sem.run, Question.forced]
        | cons p m =>
          cases m with
          | cons _ _ => exact hx.elim
          | nil =>
            obtain ⟨k, u, k1, k2, k3, rfl⟩ := denM_one g2
            have hgm := run_getObj (P := P) (o := .map #[⟨Mk.kV k, u, 0⟩] 1) hb (by simp)
            cases b with
            | true =>
              have hgi := run_getObj (P := P) (o := .mapIter (some ad.block) 1 #[0] 1) hi (by simp)
              refine over ?_ hx
              unfold Instr.next
              simp only [Sem.run_bind, hgi, Result.andThen_ok]
              simp [hgm, choose, Sem.run, Question.forced]
            | false =>
              have hgi := run_getObj (P := P) (o := .mapIter (some ad.block) 1 #[] 1) hi (by simp)
              have hset := run_setObj (P := P) (w := w) (o' := .mapIter (some ad.block) 1 #[0] 1) hi (by simp)
              have hrun : (Instr.next (.pointer (some ⟨i0, 0, none⟩)) false ty).run P w = .ok (.tuple #[.bool true, Mk.kV k, u]) { w with heap := setB w.heap i0 (.mapIter (some ad.block) 1 #[0] 1) } := by
                unfold Instr.next
                simp only [Sem.run_bind, hgi, Result.andThen_ok]
                simp [hgm, Question.forced, hset]
              rw [nv_run hrun]
              refine ⟨⟨rfl, rfl, rfl, fun _ => Nat.le_refl _⟩, ?_⟩
              rw [hw]
              obtain ⟨a', m', e1, e2, s⟩ := r.toldI hg
              rw [h1] at e1; simp only [Option.some.injEq] at e1; subst e1
              rw [h2] at e2; simp only [Option.some.injEq] at e2; subst e2
              have s2 : St h0 (setB h i0 (.mapIter (some ad.block) 1 #[0] 1)) (ItB ⟨i0, 0, none⟩ ad.block 1 true :: ((th.t.del j).all.map (part E) ++ (FzP E.z :: L))) := St.step s fun S' hA' hS' => by
                obtain ⟨i', ei, hSi, _⟩ := hA'
                simp only [Addr.mk.injEq, and_true] at ei
                subst ei
                exact ⟨by rw [setB_size]; exact Nat.le_refl _, fun b _ hb => setB_ne (fun e => hb (e ▸ hSi)), S', ⟨i0, rfl, hSi, setB_eq (lt_of_some hi0)⟩, fun b hb => .inl hb⟩
              have s3 : St h0 (setB h i0 (.mapIter (some ad.block) 1 #[0] 1)) (part E (j, .it i 1 true) :: ((th.t.del j).all.map (part E) ++ (FzP E.z :: L))) := s2.imp fun S ho => ⟨(⟨i0, 0, none⟩, ad), ⟨h1, h2⟩, ho⟩
              exact Post.same (x := .tup [.bool true, p.1, p.2]) (by simp [den, denL, k2, k3]) (Rep.put hg s3 r.fr r.eh) hx
/-! ### Methods of values whose type is known -/
theorem lkI_some {t : Nat} : ∀ {l : List IM} {p : IM}, lkI t l = some p → p ∈ l ∧ p.t = t
  | q :: r, p, h => by
    simp only [lkI] at h
    cases hb : Nat.beq q.t t with
    | true => rw [hb] at h; simp only [cond_true, Option.some.injEq] at h; subst h; exact ⟨.head _, beq_t hb⟩
    | false => rw [hb] at h; obtain ⟨h1, h2⟩ := lkI_some h; exact ⟨.tail _ h1, h2⟩
theorem invE_some {name : String} {t : Nat} {p : IM} (h : invE P name t = some p) : p.t = t ∧ ∃ i m ptr e, P.info? t = some i ∧ i.methods.find? (·.name == name) = some m ∧ m.path.toList = [] ∧ m.func = some (p.f, ptr) ∧ P.underlying t = some (.pointer e) ∧
    ((ptr = true ∧ p.d = false) ∨ (ptr = false ∧ p.d = true ∧ p.k = 1 ∧ p.a = false ∧ agO P e = some false)) := by
  unfold invE at h
  cases hi : P.info? t with
  | none => rw [hi] at h; cases h
  | some i =>
    rw [hi] at h
    simp only at h
    cases hm : i.methods.find? (·.name == name) with
    | none => rw [hm] at h; cases h
    | some m =>
      rw [hm] at h
      simp only at h
      cases hp : m.path.toList with
      | cons _ _ => rw [hp] at h; cases h
      | nil =>
        rw [hp] at h
        simp only at h
        cases hf : m.func with
        | none => rw [hf] at h; cases h
        | some q =>
          rw [hf] at h
          simp only at h
          cases hu : P.underlying t with
          | none => rw [hu] at h; cases h
          | some d =>
            rw [hu] at h
            cases d <;> try (cases h; done)
            rename_i e
            obtain ⟨f, ptr⟩ := q
            cases ptr with
            | true =>
              simp only [Option.some.injEq] at h
              subst h
              exact ⟨rfl, i, m, true, e, rfl, hm, hp, hf, rfl, .inl ⟨rfl, rfl⟩⟩
            | false =>
              simp only at h
              obtain ⟨b, hb, h⟩ := bind_some h
              cases b with
              | true => cases h
              | false =>
                simp only [Option.some.injEq] at h
                subst h
                exact ⟨rfl, i, m, false, e, rfl, hm, hp, hf, rfl, .inr ⟨rfl, rfl, rfl, rfl, hb⟩⟩
theorem run_invoke {t : TypeId} {name : String} {i : TypeInfo} {m : Method} {f : FuncId} {ptr : Bool} (hi : P.info? t = some i) (hm : i.methods.find? (·.name == name) = some m) (hp : m.path.toList = []) (hf : m.func = some (f, ptr)) {v x : Value} {l : Array Value} {w : World}
    (hx : ∀ s, (receiverAt t (.val v) ptr (some s)).run P w = .ok x w) : (invokeSem (.iface t v) name l).run P w = (callFunc f (#[x] ++ l)).run P w := by
  have hp' : m.path = #[] := by
    cases hpp : m.path; rw [hpp] at hp; simp only at hp; rw [hp]
  have h0 : (#[(Value.iface t v)] ++ l)[0]? = some (.iface t v) := by
    rw [Array.getElem?_append_left (by simp)]; rfl
  have h1 : (#[(Value.iface t v)] ++ l).extract 1 (#[(Value.iface t v)] ++ l).size = l := by
    apply Array.ext'
    simp
  obtain ⟨k, hk⟩ : ∃ k, P.types.size + Made.depth = k + 1 := ⟨P.types.size + Made.depth - 1, by
    have : 0 < Made.depth := by decide
    omega⟩
  have hmet : (method (k + 1) t v name).run P w = .ok (f, x) w := by
    simp [method, typeInfo, hi, hm, hp', hf, follow, hx]
  simp only [invokeSem, invoke, h0, h1, callMethod]
  rw [Sem.run_bind]
  simp only [run_program, Result.andThen_ok]
  rw [hk, Sem.run_bind, hmet, Result.andThen_ok]
theorem inv_ok [Gd] {cl : FV → List FV → TH → (FV → TH → Prop) → Prop} (hcl : ∀ f l th K, cl f l th K → ∀ E h0 h L fv vs, Rep E th h0 h L → den E f = some fv → denL E l = some vs → Sx P (callSem fv vs.toArray) h (Post E h0 L K))
    {E : Env} {th : TH} {h0 h : Heap} {L : List HP} (r : Rep E th h0 h L) {name : String} {t : TypeId} {v : FV} {l : List FV} {a : Value} {vs : List Value} (ha : den E (.ifc t v) = some a) (hl : denL E l = some vs) {K : FV → TH → Prop} {p : IM} (hp : lkI t (invT P name) = some p)
    (hx : match p.d with
      | false => cl (.fn (.func p.f) [] []) (v :: l) th K
      | true => match ldF th.t p.k p.a v with
        | some u => cl (.fn (.func p.f) [] []) (u :: l) th K
        | none => False) : oInvoke P a name vs.toArray h (Post E h0 L K) := by
  obtain ⟨hm, ht⟩ := lkI_some hp
  unfold invT at hm
  rw [List.mem_filterMap] at hm
  obtain ⟨t', _, hm⟩ := hm
  obtain ⟨e0, i, m, ptr, e, h1, h2, h3, h4, h5, h6⟩ := invE_some hm
  rw [e0] at ht; subst ht
  simp only [den] at ha
  cases hv : den E v with
  | none => rw [hv] at ha; cases ha
  | some vv =>
    rw [hv] at ha; simp only [Option.some.injEq] at ha; subst ha
    haveI : Und P t' (.pointer e) := ⟨h5⟩
    have key : ∀ u x, den E u = some x → (∀ w : World, w.heap = h → ∀ s, (receiverAt t' (.val vv) ptr (some s)).run P w = .ok x w) → cl (.fn (.func p.f) [] []) (u :: l) th K → oInvoke P (.iface t' vv) name vs.toArray h (Post E h0 L K) := fun u x hu hr hc w hw => by
      rw [run_invoke h1 h2 h3 h4 (fun s => hr w hw s)]
      have := hcl _ _ _ _ hc E h0 h L (.func (.func p.f) #[] #[]) (x :: vs) r (by simp [den, denL]) (by simp only [denL, hu, hl]) w hw
      have e : (callSem (.func (.func p.f) #[] #[]) (x :: vs).toArray).run P w = (callFunc p.f (#[x] ++ vs.toArray)).run P w := by
        simp [callSem, Deferred.ofValue, invoke]
      rw [e] at this; exact this
    rcases h6 with ⟨rfl, hd⟩ | ⟨rfl, hd, hk, hpa, hag⟩
    · rw [hd] at hx
      exact key v vv hv (fun w hw s => by simp [receiverAt, Und.run, Place.get]) hx
    · rw [hd, hk, hpa] at hx
      simp only at hx
      haveI := agO_run hag
      cases hld : ldF th.t 1 false v with
      | none => rw [hld] at hx; exact hx.elim
      | some u =>
        rw [hld] at hx
        cases v <;> try (simp [ldF] at hld; done)
        rename_i j o
        obtain ⟨ad, had, rfl⟩ := den_ptr hv
        have cell : ∃ x, den E u = some x ∧ cellAt h (ad.add o) = some x := by
          have gen : ∀ cs : List FV, (∃ a vs, E.p j = some a ∧ denL E cs = some vs ∧ cs.all oneF = true ∧ Rd h (.pointer (some a)) vs) → ldG 1 false o cs = some u → ∃ x, den E u = some x ∧ cellAt h (ad.add o) = some x := by
            rintro cs ⟨a, vs, q1, q2, q3, q4⟩ hh
            rw [q1] at had; simp only [Option.some.injEq] at had; subst had
            obtain ⟨x, q5, q6⟩ := denL_get q2 (hd?_some hh)
            exact ⟨x, q6, rd_cell q4 o x q5⟩
          simp only [ldF] at hld
          cases hg : th.t.get j with
          | none => rw [hg] at hld; cases hld
          | some ob =>
            rw [hg] at hld
            rcases ob with ⟨cs, kk⟩ | ⟨dd, mm⟩ | ⟨ii, cc, bb⟩ | ⟨rr⟩
            · exact gen cs (r.read hg) hld
            · cases hld
            · cases hld
            · exact gen rr (r.readR hg) hld
            · cases hld
        obtain ⟨x, hx1, hx2⟩ := cell
        refine key u x hx1 (fun w hw s => ?_) hx
        have hlv : (loadVar e (ad.add o)).run P w = .ok x w := run_loadVar1 (by rw [hw]; exact hx2)
        have hwn : (Builtin.ssaWrapNilChk_ #[t'] t' #[.pointer (some (ad.add o)), strVal "", strVal s]).run P w = .ok (.pointer (some (ad.add o))) w := rfl
        simp [receiverAt, Und.run, Place.get, hwn, asAddr, hlv]
/-! ### A slice of nothing grows by elements that are zero -/
theorem apc_ok [Gd] {E : Env} {th : TH} {h0 h : Heap} {L : List HP} (r : Rep E th h0 h L) {t t' e ty : TypeId} {kk : IntKind} {z : List FV} {i : TypeInfo} (hu : P.underlying t = some (.slice e)) (hu' : P.underlying t' = some (.int kk)) (hz : zrO P e = some z) (hi : P.info? e = some i)
    (hp : 0 < z.length) {n : Nat} (hn : 0 < n) (hb : n * i.bytes ≤ 140737488355328) (hb2 : n ≤ 4611686018427387904) {K : FV → TH → Prop} (k : K (.sl th.nx 0 0 n (.hid 0)) (th.new (.cells (repF z n) z.length))) :
    oAppend P #[t, t'] ty #[.slice none 0 0, .int .i64 n] h (Post E h0 L K) := by
  obtain ⟨i', zv, h1, h2, h3, h4, h5, h6⟩ := zrO_inf hz
  rw [hi] at h1; simp only [Option.some.injEq] at h1; subst h1
  intro w hw
  have hr1 := Go.Lib.run_append_nil_zeros (P := P) w t t' ty e i zv .i64 kk hu hu' hi h2 n hn (by omega) (by omega) (by omega)
  rw [nv_run hr1]
  refine ⟨⟨rfl, rfl, rfl, fun _ => by first | exact Nat.le_refl _ | exact Nat.le_succ _ | exact Nat.le_add_right _ _⟩, ?_⟩
  show Post E h0 L K _ (w.heap.push _)
  have hge := grownCap_ge w n 0 e
  have hzl : zv.cells.toList.length = z.length := denL_length (ofVL_den E h3)
  have hrd := repF_den (ofVL_den E h3) (by omega) n
  have e1 : Builtin.zeroCells zv.cells n ++ Builtin.zeroCells zv.cells (grownCap w n 0 e - n) = (((List.range (n * zv.cells.toList.length)).map fun j => zv.cells.toList.toArray[j % zv.cells.toList.length]!) ++ (Builtin.zeroCells zv.cells (grownCap w n 0 e - n)).toList).toArray := by
    apply Array.ext'
    simp [Builtin.zeroCells]
  rw [e1, hw]
  refine push_hid r hp hrd (repF_all h4 n) ?_ hge k
  have e2 : (Builtin.zeroCells zv.cells (grownCap w n 0 e - n)).toList.length = (grownCap w n 0 e - n) * i.size := by rw [Array.length_toList, zeroCells_size, h6]
  rw [List.length_map, List.length_range, e2, hzl, h5, ← Nat.add_mul]
  congr 1; omega
end Go.Va
