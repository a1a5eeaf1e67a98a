/- Maps over told values: what turns memory. No program. -/
import Derived.Test.YtaaedipojhnjjaaGreatVl
set_option linter.unusedVariables false
set_option linter.unusedSectionVars false
set_option linter.unusedSimpArgs false
namespace Go.Va
open Go Go.Sh
variable [Vb]
variable {P : Program}
theorem mkm_ok [Gd] {E : Env} {th : TH} {h0 h : Heap} {L : List HP} (r : Rep E th h0 h L) {t kt et : TypeId} {d : KD} (hu : P.underlying t = some (.map kt et)) {q : Option Value} (hq : q = none ∨ ∃ k n, q = some (.int k n))
    {K : FV → TH → Prop} (k : K (.map th.nx) (th.new (.map d []))) : oMkMap P t q h (Post E h0 L K) := by
  haveI : Und P t (.map kt et) := ⟨hu⟩
  intro w hw
  have hrun : (Instr.makeMap t q).run P w = .ok (.map (some w.heap.size)) { w with heap := w.heap.push (.map #[] 0) } := by
    rcases hq with rfl | ⟨k, n, rfl⟩
    · simp [Instr.makeMap, newObj, Sem.run]
    · simp [Instr.makeMap, newObj, Sem.run, Und.run, asInt, asIntOf]
  rw [nv_run hrun]
  refine ⟨⟨rfl, rfl, rfl, fun _ => Nat.le_refl _⟩, ?_⟩
  rw [hw]
  have s := r.st.new (A' := Mk.MapO (.map (some h.size)) []) (h' := h.push (.map #[] 0)) (by simp) (fun b hb => push_old b hb) ⟨[], 0, ⟨rfl, by simp, by simp, by simp⟩, h.size, rfl, ⟨Nat.le_refl _, by simp⟩, by simp [Mk.ents]⟩
  obtain ⟨h1, h2⟩ := Rep.addM (d := d) (a := ⟨h.size, 0, none⟩) r.fr r.nx s
  exact ⟨_, _, _, h1, by simp [den, Env.add], h2, k⟩
theorem mup_ok [Gd] {E : Env} {th : TH} {h0 h : Heap} {L : List HP} (r : Rep E th h0 h L) {t kt et : TypeId} {d : KD} (hu : P.underlying t = some (.map kt et)) (hd : kdO P kt = some d) {x k v : FV} {a b c : Value}
    (ha : den E x = some a) (hb : den E k = some b) (hc : den E v = some c) {K : FV → TH → Prop} (hx : mupF d x k v th K) : oUpd P t a b c h (Post E h0 L K) := by
  haveI : Und P t (.map kt et) := ⟨hu⟩
  cases x <;> simp only [mupF] at hx <;> try (exact hx.elim)
  rename_i i
  cases hg : th.t.get i with
  | none => rw [hg] at hx; exact hx.elim
  | some o =>
    rw [hg] at hx
    rcases o with ⟨cs, kk⟩ | ⟨d', m⟩
    · exact hx.elim
    · simp only at hx
      obtain ⟨hbb, hx⟩ := bif_el hx
      simp only [Bool.and_eq_true] at hbb
      have e := kdq_t hbb.1
      subst e
      obtain ⟨q, h1, h2, rfl⟩ := kokF_ok hbb.2 hb
      obtain ⟨ad, hp, rfl⟩ := den_map ha
      obtain ⟨ad', l, g1, g2, s⟩ := r.toldM hg
      rw [hp] at g1; simp only [Option.some.injEq] at g1; subst g1
      obtain ⟨st, c', s⟩ := Mk.St.mapO s
      refine Mk.oUpd_own (kdO_eq hd) h2 (denM_ok g2) s fun h' st' c2 _ s' => ?_
      have hden := upM_ok h1 hc g2
      have s2 : St h0 h' (part E (i, .map d (upM k v m)) :: ((th.t.del i).all.map (part E) ++ L)) := (Mk.St.toMapO s').imp fun S ho => ⟨(ad, Mk.ups l q c), ⟨hp, hden⟩, ho⟩
      exact Post.same (den_und E) (Rep.put hg s2 r.fr) hx
end Go.Va
