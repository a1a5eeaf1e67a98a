/- Contract: each node's component. -/
import Derived.Test.YtfhbpghgcgmegaaC9
import Derived.Test.YtfhbpghgcgmegaaPc
set_option linter.unusedVariables false
namespace Go.Proofs.Ytfhbpghgcgmegaa
open Go Go.Sh Go.Proofs

theorem join_intro {κ : Type} {k : κ} {B : κ → Prop} (h : ∀ k', k' = k → B k') : join k B := h k rfl
/-- A root or none. -/
def encO : Option Nat → Value
  | none => .int .i64 (-1)
  | some s => .int .i64 (s : Int)
theorem count_set_none {root : List (Option Nat)} {y s : Nat} (h : root[y]? = some none) : (root.set y (some s)).count none + 1 = root.count none := by
  obtain ⟨hlt, he⟩ := List.getElem?_eq_some_iff.1 h
  have hp : 0 < root.count none := List.count_pos_iff.2 (he ▸ List.getElem_mem hlt)
  rw [List.count_set hlt, he]
  simp
  omega
theorem rch_lt {next : List (List Nat)} (hin : Below next next.length) {x s : Nat} (h : Rch (Edg next) x s) (hx : x < next.length) : s < next.length := by
  induction h with
  | refl => exact hx
  | tail _ e _ =>
    obtain ⟨l, hl, hj⟩ := e
    exact hin l (List.mem_of_getElem? hl) _ hj
theorem drop_step (l : List Nat) (k : Nat) (hk : k < l.length) : ∃ s, l.reverse[k]? = some s ∧ l = l.take (l.length - (k + 1)) ++ s :: l.drop (l.length - k) ∧ l.drop (l.length - (k + 1)) = s :: l.drop (l.length - k) := by
  have h1 : l.length - (k + 1) < l.length := by omega
  have h2 : l.length - k = l.length - (k + 1) + 1 := by omega
  refine ⟨l[l.length - (k + 1)], ?_, ?_, ?_⟩
  · rw [List.getElem?_reverse hk, ← List.getElem?_eq_getElem h1]
    congr 1; omega
  · rw [h2, List.getElem_cons_drop, List.take_append_drop]
  · rw [h2, List.getElem_cons_drop]

/-- What is built beside a heap that is only read. -/
def compsA (t20 t22 t27 : Value) : Unit := ()

theorem components_ok {h : Heap} {v : Value} {next : List (List Nat)} (r : RdLL encI h v next) (hn : next.length ≤ big) (hin : Below next next.length) (hl : ∀ l ∈ next, l.length ≤ big) (hb : (prF next 0).length ≤ big) :
    HC Try.prog 17 #[v] h fun u h' => ∃ of m x, u = .tuple #[x, .int .i64 (m : Nat)] ∧ OfOk (Edg next) next.length m of ∧ St h h' [Row 1 x of.length (of.map encI)] := by
  have hn0 := hn
  have hl0 := hl
  have hb0 := hb
  unfold big at hn hl hb
  refine sh_calls_components ?_
  unfold g_calls_components
  refine oCall_func (.mono (reversed_ok r hn0 hin hb0) ?_)
  intro t20 h1 s1
  refine oCall_func (.mono (finished_ok (r.ext s1.ext) hn0 hin hl0) ?_)
  rintro t22 h2 ⟨l, fl, s2⟩
  have s2' := s1.call s2
  simp only [List.cons_append, List.nil_append] at s2'
  have hll : l.length = next.length := by
    have h1 := List.Nodup.length_le_of_subset (l₂ := List.range next.length) fl.nodup fun u hu => List.mem_range.2 ((fl.mem u).1 hu)
    have h2 := List.Nodup.length_le_of_subset (l₂ := l) (List.nodup_range (n := next.length)) fun u hu => (fl.mem u).2 (List.mem_range.1 hu)
    simp at h1 h2
    omega
  refine oCall_func (.mono (reverse_ok s2' (by omega)) ?_)
  intro t24 h3 s3
  have r3 : RdLL encI h3 t20 (back next) := s3.swap.rr
  have rv : RdLL encI h3 v next := r.ext s3.ext
  have ho : RdL encI h3 t22 l.reverse := St.rdL (n := l.length) s3
  have fin : ∀ {u h'}, (∃ of m x, u = .tuple #[x, .int .i64 (m : Nat)] ∧ OfOk (Edg next) next.length m of ∧ St h3 h' [Row 1 x of.length (of.map encI)]) →
      ∃ of m x, u = Value.tuple #[x, .int .i64 (m : Nat)] ∧ OfOk (Edg next) next.length m of ∧ St h h' [Row 1 x of.length (of.map encI)] := by
    rintro u h' ⟨of, m, x, h1, h2, h4⟩
    exact ⟨of, m, x, h1, h2, (s3.call h4).split (L := [_])⟩
  rw [oLen_sl rv.1]
  refine oMkSliceR1 (l := next.length) (c := next.length) (St.nil h3) rfl (Nat.le_refl _) (by omega) (by omega) fun t27 h4 s4 => ?_
  rw [oLen_sl s4.row.1]
  refine loop1_count 0 next.length (fun i h' => St h3 h' [Row 1 t27 next.length (List.replicate i (.int .i64 (-1)) ++ List.replicate (next.length - i) (.int .i64 0))]) (Nat.zero_le _) (by simpa using s4) ?_
  intro i h5 nx hi s5 hnx
  rw [oBin_lss]
  by_cases hlt : i < next.length
  · rw [cond_pos (by omega), oIdx_sl s5.row.1 (s5.row.2.2.nz (by simp; omega)) (by omega) (by omega)]
    refine oStoreR1 s5 rfl (by simp; omega) fun h6 s6 => ?_
    rw [oBin_add, wrap_succ i _ hlt (by omega)]
    refine hnx _ hlt ?_
    have e1 : ((i : Int).toNat * 1) = i := by omega
    rw [e1] at s6
    have e2 : (List.replicate i (Value.int .i64 (-1)) ++ List.replicate (next.length - i) (Value.int .i64 0)).set i (.int .i64 (-1)) =
        List.replicate (i + 1) (.int .i64 (-1)) ++ List.replicate (next.length - (i + 1)) (.int .i64 0) := by
      obtain ⟨d, hd⟩ : ∃ d, next.length - i = d + 1 := ⟨next.length - i - 1, by omega⟩
      rw [hd, show next.length - (i + 1) = d from by omega, List.set_append_right _ _ (by simp), List.length_replicate, Nat.sub_self, List.replicate_succ, List.set_cons_zero, List.replicate_succ']
      simp
    rwa [e2] at s6
  rw [cond_neg (by omega)]
  have hie : i = next.length := by omega
  subst hie
  have s5' : St h3 h5 [Row 1 t27 next.length ((List.replicate next.length (none : Option Nat)).map encO)] := by
    simpa [encO] using s5
  clear s5 hnx s4 hlt hi
  rw [oLen_sl ho.1, List.length_reverse, hll]
  refine loop1_count 0 next.length (fun k h' => ∃ root, Cmp next root (l.drop (l.length - k)) ∧ St h3 h' [Row 1 t27 next.length (root.map encO)]) (Nat.zero_le _) ⟨_, by simpa using Cmp.start next, s5'⟩ ?_
  rintro k h6 nx2 hk ⟨root, hc, s6⟩ hnx2
  have hroot : RdL encO h6 t27 root := s6.rdL
  have hrl : root.length = next.length := hc.len
  rw [oBin_lss]
  by_cases hlt : k < next.length
  · rw [cond_pos (by omega)]
    refine join_intro fun k' hk' => ?_
    have tail : ∀ (root : List (Option Nat)) h', Cmp next root (l.drop (l.length - (k + 1))) → St h3 h' [Row 1 t27 next.length (root.map encO)] → k' h' := fun root h' hc' s' => by
      rw [hk']
      dsimp only
      rw [oBin_add, wrap_succ k _ hlt (by omega)]
      exact hnx2 _ hlt ⟨root, hc', s'⟩
    clear hk'
    obtain ⟨s, hs, hsp, hdr⟩ := drop_step l k (by omega)
    have hsn : s < next.length := (fl.mem s).1 (by rw [hsp]; simp)
    refine oGetL (ho.ext s6.ext) hs ?_
    obtain ⟨o, hso⟩ : ∃ o, root[s]? = some o := ⟨_, List.getElem?_eq_getElem (by omega)⟩
    refine oGetL hroot hso ?_
    cases o with
    | some t =>
      unfold encO
      rw [oBin_geq, cond_pos (by omega)]
      exact tail root h6 (hdr ▸ hc.skip hso) s6
    | none =>
      unfold encO
      rw [oBin_geq, cond_neg (by omega)]
      unfold encI
      rw [oIdx_sl hroot.1 (hroot.2.nz (by simp; omega)) (by omega) (by omega)]
      refine oStoreR1 s6 rfl (by simp; omega) fun h7 s7 => ?_
      refine oBuild1o s7 rfl rfl fun t53 h8 s8 => ?_
      have e1 : ((s : Int).toNat * 1) = s := by omega
      rw [e1] at s8
      have hfresh : ∀ x : Nat, root[x]? ≠ some (some s) := fun x hx => by
        have := hc.same x s s hx (hc.tog x s hx) hsn
        rw [hso] at this; simp at this
      have hcnt := count_set_none (s := s) hso
      have hcl : root.count none ≤ root.length := List.count_le_length
      refine ⟨fun m a h' => ∃ (rt : List (Option Nat)) (todo : List Nat), m = todo.length + 2 * rt.count none ∧ Ph (Edg next) root rt s todo [] ∧ todo.length + rt.count none ≤ next.length ∧
          St h3 h' [Row 1 a todo.length (todo.map encI), Row 1 t27 next.length (rt.map encO)],
        _, ⟨root.set s (some s), [s], rfl, Ph.start hso hfresh, by simp; omega, by rw [List.map_set]; exact s8⟩, ?_⟩
      clear s8 s7
      rintro m a h9 ⟨rt, todo, rfl, hp, hbd, s9⟩
      dsimp only
      have hrtl : rt.length = next.length := hp.len.trans hrl
      have htd : RdL encI h9 a todo := s9.rdL
      rw [oLen_sl htd.1, oBin_gtr]
      rcases List.eq_nil_or_concat todo with rfl | ⟨td, i, rfl⟩
      · rw [cond_neg (by simp)]
        exact tail rt h9 (hdr ▸ Ph.fin fl hsp hc hso hp) s9.drop
      · rw [List.concat_eq_append] at *
        simp only [List.length_append, List.length_cons, List.length_nil] at hbd
        rw [cond_pos (by simp), oLen_sl htd.1, oBin_sub, wrap_int _ (by omega) (by simp; omega)]
        have e2 : (((td ++ [i]).length : Int) - 1) = (td.length : Int) := by simp
        rw [e2]
        refine oGetL htd (i := td.length) (a := i) (by simp) ?_
        rw [oLen_sl htd.1, oBin_sub, wrap_int _ (by omega) (by simp; omega), e2]
        refine oSliceR s9 (by simp) fun t67 s10 => ?_
        have e3 : ((td ++ [i]).map encI).take (td.length * 1) = td.map encI := by simp
        rw [e3] at s10
        have hin' : i < next.length := by
          have := (List.getElem?_eq_some_iff.1 (hp.tod i (by simp))).1
          omega
        obtain ⟨bi, hbi⟩ : ∃ bi, (back next)[i]? = some bi := ⟨_, List.getElem?_eq_getElem (by unfold back; rw [grp_length]; exact hin')⟩
        have hbl : bi.length ≤ 1000000000000 := Nat.le_trans (grp_len_le hbi) hb
        unfold encI
        refine oGetLLx r3 s10.ext hbi fun t71 ht71 => ?_
        rw [oLen_sl ht71.1]
        refine ⟨fun m a b h' => ∃ (j : Nat) (rt' : List (Option Nat)) (todo : List Nat), m = bi.length - j ∧ j ≤ bi.length ∧ b = .int .i64 j ∧ Ph (Edg next) root rt' s todo [i] ∧
            (∀ q y : Nat, q < j → bi[q]? = some y → ∃ t : Nat, rt'[y]? = some (some t)) ∧ todo.length + rt'.count none ≤ next.length ∧ todo.length + 2 * rt'.count none ≤ td.length + 2 * rt.count none ∧
            St h3 h' [Row 1 a todo.length (todo.map encI), Row 1 t27 next.length (rt'.map encO)],
          bi.length, ⟨0, rt, td, rfl, Nat.zero_le _, rfl, hp.take, by omega, by omega, Nat.le_refl _, s10⟩, ?_⟩
        rintro m c b h11 ⟨j, rt', todo, rfl, hj, rfl, hp', hdn, hbd', hms, s11⟩
        dsimp only
        have hrtl' : rt'.length = next.length := hp'.len.trans hrl
        rw [oBin_lss]
        by_cases hjlt : j < bi.length
        · rw [cond_pos (by omega)]
          obtain ⟨y, hy⟩ : ∃ y, bi[j]? = some y := ⟨_, List.getElem?_eq_getElem hjlt⟩
          have hyE : Edg next y i := (mem_back hbi).1 (List.mem_of_getElem? hy)
          have hyn : y < next.length := by
            obtain ⟨ly, hly, _⟩ := hyE
            exact (List.getElem?_eq_some_iff.1 hly).1
          refine join_intro fun k2 hk2 => ?_
          have tail2 : ∀ (rt'' : List (Option Nat)) (todo' : List Nat) a' h', Ph (Edg next) root rt'' s todo' [i] → (∀ q y : Nat, q < j + 1 → bi[q]? = some y → ∃ t : Nat, rt''[y]? = some (some t)) →
              todo'.length + rt''.count none ≤ next.length → todo'.length + 2 * rt''.count none ≤ td.length + 2 * rt.count none →
              St h3 h' [Row 1 a' todo'.length (todo'.map encI), Row 1 t27 next.length (rt''.map encO)] → k2 a' h' := fun rt'' todo' a' h' x1 x2 x3 x4 x5 => by
            rw [hk2]
            dsimp only
            rw [oBin_add, wrap_succ j _ hjlt (by omega)]
            exact ⟨bi.length - (j + 1), by omega, j + 1, rt'', todo', rfl, by omega, rfl, x1, x2, x3, x4, x5⟩
          clear hk2
          refine oGetL (ht71.ext s11.ext) hy ?_
          have hrt' : RdL encO h11 t27 rt' := s11.swap.rdL
          obtain ⟨o, hyo⟩ : ∃ o, rt'[y]? = some o := ⟨_, List.getElem?_eq_getElem (by omega)⟩
          refine oGetL hrt' hyo ?_
          unfold encO encI
          cases o with
          | some t =>
            rw [oBin_lss, cond_neg (by omega)]
            refine tail2 rt' todo c h11 hp' (fun q z hq hz => ?_) hbd' hms s11
            by_cases e : q = j
            · subst e
              rw [hy] at hz
              simp only [Option.some.injEq] at hz
              subst hz
              exact ⟨t, hyo⟩
            · exact hdn q z (by omega) hz
          | none =>
            rw [oBin_lss, cond_pos (by omega), oIdx_sl hrt'.1 (hrt'.2.nz (by simp; omega)) (by omega) (by omega)]
            refine oStoreR1 s11.swap rfl (by simp; omega) fun h12 s12 => ?_
            have e5 : ((y : Int).toNat * 1) = y := by omega
            rw [e5] at s12
            have hcnt' := count_set_none (s := s) hyo
            refine oPush (enc := encI) (x := y) s12.swap rfl rfl (by omega) (by omega) fun a' h13 s13 => ?_
            refine tail2 (rt'.set y (some s)) (todo ++ [y]) a' h13 (hp'.add (by simp) hyE hyo) (fun q z hq hz => ?_) (by simp; omega) (by simp; omega) (by rw [List.map_set]; exact s13)
            by_cases e : q = j
            · subst e
              rw [hy] at hz
              simp only [Option.some.injEq] at hz
              subst hz
              exact ⟨s, (set_root hyo _ _).2 (.inl ⟨rfl, rfl⟩)⟩
            · obtain ⟨t, ht⟩ := hdn q z (by omega) hz
              exact ⟨t, (set_root hyo _ _).2 (.inr ht)⟩
        · rw [cond_neg (by omega)]
          refine ⟨todo.length + 2 * rt'.count none, by simp; omega, rt', todo, rfl, hp'.close fun y hy => ?_, hbd', s11⟩
          obtain ⟨q, hq⟩ := List.getElem?_of_mem ((mem_back hbi).2 hy)
          exact hdn q y (by have := (List.getElem?_eq_some_iff.1 hq).1; omega) hq
  · rw [cond_neg (by omega)]
    have hke : k = next.length := by omega
    subst hke
    rw [← hll, Nat.sub_self, List.drop_zero] at hc
    rw [oLen_sl rv.1]
    refine oMkSliceR1 (l := next.length) (c := next.length) s6 rfl (Nat.le_refl _) (by omega) (by omega) fun t94 h7 s7 => ?_
    rw [oLen_sl rv.1]
    refine oMkSliceR1 (l := next.length) (c := next.length) s7 rfl (Nat.le_refl _) (by omega) (by omega) fun t97 h8 s8 => ?_
    rw [oLen_sl (s8.pick2.row.1)]
    refine ⟨fun m a b h' => ∃ (i c : Nat) (number ofs : List Nat), m = next.length - i ∧ i ≤ next.length ∧ a = .int .i64 c ∧ b = .int .i64 i ∧ number.length = next.length ∧ Num root i c number ofs ∧
        St h3 h' [Row 1 t97 next.length ((ofs ++ List.replicate (next.length - i) 0).map encI), Row 1 t94 next.length (number.map encI), Row 1 t27 next.length (root.map encO)],
      next.length, ⟨0, 0, List.replicate next.length 0, [], rfl, Nat.zero_le _, rfl, rfl, by simp, Num.start root _, by simpa [encI] using s8⟩, ?_⟩
    rintro m a b h9 ⟨i, c, number, ofs, rfl, hi, rfl, rfl, hnl, hnum, s9⟩
    dsimp only
    have hol : ofs.length = i := hnum.len
    rw [oBin_lss]
    by_cases hilt : i < next.length
    · rw [cond_pos (by omega)]
      have hil : i ∈ l := (fl.mem i).2 hilt
      obtain ⟨s, hs⟩ := hc.all i hil
      have hsn : s < next.length := rch_lt hin (hc.tog i s hs).1 hilt
      have hrt : RdL encO h9 t27 root := s9.pick2.rdL
      refine oGetL hrt hs ?_
      unfold encO
      refine join_intro fun k2 hk2 => ?_
      have tail2 : ∀ (c' x : Nat) (number' : List Nat) h', number'.length = next.length → number'[s]? = some (x + 1) → x ≤ 1000000000000 → Num root (i + 1) c' number' (ofs ++ [x]) →
          St h3 h' [Row 1 t97 next.length ((ofs ++ List.replicate (next.length - i) 0).map encI), Row 1 t94 next.length (number'.map encI), Row 1 t27 next.length (root.map encO)] → k2 (.int .i64 c') h' := by
        intro c' x number' h' x1 x2 x3 x4 s'
        rw [hk2]
        dsimp only
        refine oGetL (s'.swap.rdL : RdL encI h' t94 number') x2 ?_
        unfold encI
        rw [oBin_sub, wrap_int _ (by omega) (by omega)]
        obtain ⟨w1, _, w3⟩ := s'.row
        rw [oIdx_sl w1 (w3.nz (by simp; omega)) (by omega) (by omega)]
        refine oStoreR1 s' rfl (by simp; omega) fun h10 s10 => ?_
        rw [oBin_add, wrap_succ i _ hilt (by omega)]
        refine ⟨next.length - (i + 1), by omega, i + 1, c', number', ofs ++ [x], rfl, by omega, rfl, rfl, x1, x4, ?_⟩
        have e1 : ((i : Int).toNat * 1) = i := by omega
        rw [e1] at s10
        have e2 : ((ofs ++ List.replicate (next.length - i) 0).map encI).set i (.int .i64 (((x + 1 : Nat) : Int) - 1)) = (ofs ++ [x] ++ List.replicate (next.length - (i + 1)) 0).map encI := by
          obtain ⟨d, hd⟩ : ∃ d, next.length - i = d + 1 := ⟨next.length - i - 1, by omega⟩
          have e3 : Value.int .i64 (((x + 1 : Nat) : Int) - 1) = encI x := by unfold encI; congr 1; omega
          rw [hd, show next.length - (i + 1) = d from by omega, e3, ← List.map_set, ← hol, List.replicate_succ, set_mid']
          simp
        rwa [e2] at s10
      clear hk2
      have hnr : RdL encI h9 t94 number := s9.swap.rdL
      rcases hnum.num s (by omega) with ⟨h0, _⟩ | ⟨a0, x, _, _, hx3, hx4⟩
      · refine oGetL hnr h0 ?_
        unfold encI
        rw [oBin_eql, cond_pos (by omega), oBin_add]
        have hci := hnum.mi
        rw [wrap_int _ (by omega) (by omega), oIdx_sl hnr.1 (hnr.2.nz (by simp; omega)) (by omega) (by omega)]
        refine oStoreR1 s9.swap rfl (by simp; omega) fun h10 s10 => ?_
        have e1 : ((s : Int).toNat * 1) = s := by omega
        rw [e1] at s10
        have e4 : ((c : Int) + 1) = ((c + 1 : Nat) : Int) := by omega
        rw [e4] at s10 ⊢
        refine tail2 (c + 1) c (number.set s (c + 1)) h10 (by simpa using hnl) (by rw [List.getElem?_set_self (by omega)]) (by omega) (hnum.new hs (by omega) h0) ?_
        rw [List.map_set]
        exact s10.swap
      · refine oGetL hnr hx4 ?_
        unfold encI
        rw [oBin_eql, cond_neg (by omega)]
        have h6 := hnum.lt x (List.mem_of_getElem? hx3)
        have h7 := hnum.mi
        exact tail2 c x number h9 hnl hx4 (by omega) (hnum.old hs (by omega) hx4) s9
    · rw [cond_neg (by omega)]
      have hie : i = next.length := by omega
      subst hie
      refine fin ⟨ofs, c, t97, rfl, hnum.fin hc fun x hx => (fl.mem x).2 hx, ?_⟩
      rw [hol]
      have := s9.split (L := [_])
      simpa using this
end Go.Proofs.Ytfhbpghgcgmegaa
