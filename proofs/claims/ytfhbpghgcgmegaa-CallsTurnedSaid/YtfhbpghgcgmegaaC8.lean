/- Contracts: a queue behind a pointer, the heap's functions on it. -/
import Derived.Test.YtfhbpghgcgmegaaC7
import Derived.Test.YtfhbpghgcgmegaaIfc
import Derived.Test.YtfhbpghgcgmegaaPq
set_option linter.unusedVariables false
namespace Go.Proofs.Ytfhbpghgcgmegaa
open Go Go.Sh Go.Proofs

section ptr
variable {P : Program}
theorem oLoadP {t : TypeId} [IsA P t false] {h : Heap} {p x : Value} {K : Value → Prop} (r : Rd h p [x]) (hk : K x) : oLoad P t p (Eq h) K := by
  have := oLoad1 (P := P) (t := t) (p := p) (cs := [x]) (j := 0) (x := x) (D := Eq h) (K := K) (fun _ e => e ▸ r) rfl hk
  rwa [padd_zero] at this
theorem oStoreP {t : TypeId} [Siz P t 1] {h0 h : Heap} {p x v : Value} {L : List HP} {K : Value → Heap → Prop} (s : St h0 h (Cells p [x] :: L)) (h1 : Sh.one v = true)
    (g : ∀ h', St h0 h' (Cells p [v] :: L) → K undef h') : oStore P t p v h K := by
  have hc : v.cells.toList = [v] := by cases v <;> first | (simp [Sh.one] at h1; done) | rfl
  have := oStoreC (P := P) (t := t) (j := 0) (v := v) (K := K) s (by rw [hc]; rfl) (by simp) (by rw [hc]; simpa using h1) (fun h' s' => g h' (by simpa [hc, setAt] using s'))
  rwa [padd_zero] at this
end ptr

/-- A queue behind a pointer. -/
def Que (p : Value) (l : List Nat) : HP := HP.ex fun q : Value => HP.all [Cells p [q], Row 1 q l.length (l.map encI)]
theorem _root_.Go.Sh.St.que {h0 h : Heap} {p : Value} {l : List Nat} {L : List HP} (s : St h0 h (Que p l :: L)) : ∃ q, St h0 h (Cells p [q] :: Row 1 q l.length (l.map encI) :: L) := by
  obtain ⟨q, s⟩ := St.ex s
  exact ⟨q, s.open⟩
theorem _root_.Go.Sh.St.toQue {h0 h : Heap} {p q : Value} {l : List Nat} {L : List HP} (s : St h0 h (Cells p [q] :: Row 1 q l.length (l.map encI) :: L)) : St h0 h (Que p l :: L) :=
  St.toEx q (St.shut (M := [Cells p [q], Row 1 q l.length (l.map encI)]) s)
theorem _root_.Go.Sh.St.queP {h0 h : Heap} {p : Value} {l : List Nat} {L : List HP} (s : St h0 h (Que p l :: L)) : ∃ a, p = .pointer (some a) := by
  obtain ⟨q, s⟩ := s.que
  exact s.rd.ptr (by simp)

theorem qLen {h0 h : Heap} {p : Value} {l : List Nat} {L : List HP} {K : Value → Heap → Prop} (s : St h0 h (Que p l :: L)) (g : K (.int .i64 l.length) h) :
    oInvoke Try.prog (.iface 56 p) "Len" #[] h K := by
  obtain ⟨q, s1⟩ := s.que
  refine oInvokeV (x := q) s1.rd (sh_calls_queue_Len (v0 := q) ?_)
  unfold g_calls_queue_Len
  rw [oLen_sl s1.drop.row.1]
  exact g
theorem qLess {h0 h : Heap} {p : Value} {l : List Nat} {L : List HP} {i j : Nat} {K : Value → Heap → Prop} (s : St h0 h (Que p l :: L)) (hi : i < l.length) (hj : j < l.length)
    (g : K (.bool (decide (atN l i < atN l j))) h) : oInvoke Try.prog (.iface 56 p) "Less" #[.int .i64 i, .int .i64 j] h K := by
  obtain ⟨q, s1⟩ := s.que
  refine oInvokeV (x := q) s1.rd (sh_calls_queue_Less (v0 := q) (v1 := .int .i64 i) (v2 := .int .i64 j) ?_)
  unfold g_calls_queue_Less
  have hr : RdL encI h q l := s1.drop.rdL
  refine oGetL hr (atN_some hi) ?_
  refine oGetL hr (atN_some hj) ?_
  unfold encI
  rw [oBin_lss]
  have e : decide ((atN l i : Int) < (atN l j : Int)) = decide (atN l i < atN l j) := by
    rw [decide_eq_decide]; omega
  rw [e]; exact g
theorem qSwap {h0 h : Heap} {p : Value} {l : List Nat} {L : List HP} {i j : Nat} {K : Value → Heap → Prop} (s : St h0 h (Que p l :: L)) (hi : i < l.length) (hj : j < l.length)
    (g : ∀ h', St h0 h' (Que p (swp l i j) :: L) → K (.tuple #[]) h') : oInvoke Try.prog (.iface 56 p) "Swap" #[.int .i64 i, .int .i64 j] h K := by
  obtain ⟨q, s1⟩ := s.que
  refine oInvokeV (x := q) s1.rd (sh_calls_queue_Swap (v0 := q) (v1 := .int .i64 i) (v2 := .int .i64 j) ?_)
  unfold g_calls_queue_Swap
  have hr : RdL encI h q l := s1.drop.rdL
  refine oGetL hr (atN_some hj) ?_
  refine oGetL hr (atN_some hi) ?_
  rw [oIdx_sl hr.1 (hr.2.nz (by simp; omega)) (by omega) (by omega)]
  refine oStoreR1 s1.swap rfl (by simp; omega) fun h2 s2 => ?_
  rw [oIdx_sl hr.1 (s2.row.2.2.nz (by simp; omega)) (by omega) (by omega)]
  refine oStoreR1 s2 rfl (by simp; omega) fun h3 s3 => ?_
  refine g h3 (Go.Sh.St.toQue (q := q) ?_)
  have e1 : ((i : Int).toNat * 1) = i := by omega
  have e2 : ((j : Int).toNat * 1) = j := by omega
  rw [e1, e2] at s3
  have := s3.swap
  rw [swp_length, swp, List.map_set, List.map_set]
  exact this
theorem qPop {h0 h : Heap} {p : Value} {l : List Nat} {x : Nat} {L : List HP} {K : Value → Heap → Prop} (s : St h0 h (Que p (l ++ [x]) :: L)) (hb : l.length ≤ big)
    (g : ∀ h', St h0 h' (Que p l :: L) → K (.iface 3 (encI x)) h') : oInvoke Try.prog (.iface 56 p) "Pop" #[] h K := by
  unfold big at hb
  obtain ⟨q, s1⟩ := s.que
  obtain ⟨a, rfl⟩ := s1.rd.ptr (by simp)
  refine oInvokeP (sh_calls_queue_Pop (v0 := .pointer (some a)) ?_)
  unfold g_calls_queue_Pop
  have hr : RdL encI h q (l ++ [x]) := s1.drop.rdL
  rw [oNil_ptr]
  refine oLoadP s1.rd ?_
  rw [oLen_sl hr.1, oBin_sub, wrap_int _ (by omega) (by simp; omega)]
  have e : (((l ++ [x]).length : Int) - 1) = (l.length : Int) := by simp
  rw [e]
  refine oGetL hr (i := l.length) (a := x) (by simp) ?_
  rw [oLen_sl hr.1, oBin_sub, wrap_int _ (by omega) (by simp; omega), e]
  refine oSliceR s1.swap (by simp) fun q' s2 => ?_
  rw [oNil_ptr]
  have hq : Sh.one q' = true := by
    obtain ⟨⟨_, _, rfl⟩, _⟩ := s2.row
    rfl
  refine oStoreP s2.swap hq fun h3 s3 => ?_
  refine oIface_of (fun ms => by simp) ?_
  refine g h3 (Go.Sh.St.toQue (q := q') ?_)
  have : ((l ++ [x]).map encI).take (l.length * 1) = l.map encI := by simp
  rwa [this] at s3
theorem qPush {h0 h : Heap} {p : Value} {l : List Nat} {x : Nat} {L : List HP} {K : Value → Heap → Prop} (s : St h0 h (Que p l :: L)) (hb : l.length ≤ big)
    (g : ∀ h', St h0 h' (Que p (l ++ [x]) :: L) → K (.tuple #[]) h') : oInvoke Try.prog (.iface 56 p) "Push" #[.iface 3 (encI x)] h K := by
  unfold big at hb
  obtain ⟨q, s1⟩ := s.que
  obtain ⟨a, rfl⟩ := s1.rd.ptr (by simp)
  refine oInvokeP (sh_calls_queue_Push (v0 := .pointer (some a)) (v1 := .iface 3 (encI x)) ?_)
  unfold g_calls_queue_Push
  refine oAssert_yes (fun ms => by simp) ?_
  rw [oExt_two0, oExt_two1, cond_t, oNil_ptr]
  refine oLoadP s1.rd ?_
  refine oPush (enc := encI) (x := x) s1.swap rfl rfl (by omega) (by omega) fun q' h2 s2 => ?_
  rw [oNil_ptr]
  have hq : Sh.one q' = true := by
    obtain ⟨⟨_, _, rfl⟩, _⟩ := s2.row
    rfl
  exact oStoreP s2.swap hq fun h3 s3 => g h3 (Go.Sh.St.toQue s3)

theorem down_ok {h0 h : Heap} {p : Value} {l : List Nat} {a n : Nat} {L : List HP} (s : St h0 h (Que p l :: L)) (hn : n ≤ l.length) (hb : l.length ≤ big) (hab : a ≤ big) (ha : HpF l (a + 1) n) :
    HC Try.prog 31 #[.iface 56 p, .int .i64 a, .int .i64 n] h fun u h' => ∃ l', St h0 h' (Que p l' :: L) ∧ l'.Perm l ∧ HpF l' a n ∧ ∀ k, n ≤ k → atN l' k = atN l k := by
  unfold big at hb hab
  refine sh_container_heap_down ?_
  unfold g_container_heap_down
  simp only [join]
  refine ⟨fun m v h' => ∃ (x : Nat) (l' : List Nat), m = n - x ∧ v = .int .i64 x ∧ a ≤ x ∧ x ≤ 1000000000000 ∧ l'.length = l.length ∧ l'.Perm l ∧ DnI l' a n x ∧ (∀ k, n ≤ k → atN l' k = atN l k) ∧ St h0 h' (Que p l' :: L),
    n - a, ⟨a, l, rfl, rfl, Nat.le_refl _, hab, rfl, .refl _, DnI.start ha, fun _ _ => rfl, s⟩, ?_⟩
  rintro m v h1 ⟨x, l', rfl, rfl, hax, hxb, hlen, hperm, hd, hrest, s1⟩
  dsimp only
  rw [oBin_mul, wrap_int _ (by omega) (by omega), oBin_add, wrap_int _ (by omega) (by omega), oBin_geq]
  have done : (∀ k, 1 ≤ k → k < n → par k = x → atN l' x ≤ atN l' k) → ∀ h2, St h0 h2 (Que p l' :: L) → oBin Try.prog .gtr 3 (.tmp 45) (.tmp 46) (.int .i64 x) (.int .i64 a) fun t47 =>
      ∃ l', St h0 h2 (Que p l' :: L) ∧ l'.Perm l ∧ HpF l' a n ∧ ∀ k, n ≤ k → atN l' k = atN l k := fun hk h2 s2 => by
    rw [oBin_gtr]
    exact ⟨l', s2, hperm, hd.stop hk, hrest⟩
  by_cases hge : (n : Int) ≤ 2 * (x : Int) + 1
  · rw [cond_pos hge, decide_eq_true hge, oPick_bool, if_pos rfl, cond_t]
    exact done (fun k h1 h2 h3 => by unfold par at h3; omega) _ s1
  · rw [cond_neg hge, decide_eq_false hge, oBin_lss, oPick_bool, if_neg (by simp), decide_eq_false (by omega), cond_f]
    rw [oBin_add, wrap_int _ (by omega) (by omega), oBin_lss]
    have e1 : (2 * (x : Int) + 1) = ((2 * x + 1 : Nat) : Int) := by omega
    have e2 : (2 * (x : Int) + 1 + 1) = ((2 * x + 2 : Nat) : Int) := by omega
    have go : ∀ j : Nat, j < n → 1 ≤ j → par j = x → (∀ k, 1 ≤ k → k < n → par k = x → atN l' j ≤ atN l' k) → ∀ h2, St h0 h2 (Que p l' :: L) →
        oInvoke Try.prog (.iface 56 p) "Less" #[.int .i64 j, .int .i64 x] h2 fun t38 h_3 =>
        oUn Try.prog .not t38 fun t39 =>
        cond t39
          (oBin Try.prog .gtr 3 (.tmp 45) (.tmp 46) (.int .i64 x) (.int .i64 a) fun t47 => ∃ l', St h0 h_3 (Que p l' :: L) ∧ l'.Perm l ∧ HpF l' a n ∧ ∀ k, n ≤ k → atN l' k = atN l k)
          (oInvoke Try.prog (.iface 56 p) "Swap" #[.int .i64 x, .int .i64 j] h_3 fun t43 h_4 =>
            ∃ m', m' < n - x ∧ ∃ (x' : Nat) (l'' : List Nat), m' = n - x' ∧ Value.int .i64 (j : Int) = .int .i64 x' ∧ a ≤ x' ∧ x' ≤ 1000000000000 ∧ l''.length = l.length ∧ l''.Perm l ∧ DnI l'' a n x' ∧ (∀ k, n ≤ k → atN l'' k = atN l k) ∧ St h0 h_4 (Que p l'' :: L)) := by
      intro j hj hj1 hp hmin h2 s2
      have hxj : x < j := by unfold par at hp; omega
      refine qLess s2 (by omega) (by omega) ?_
      rw [oUn_not]
      by_cases hl : atN l' j < atN l' x
      · rw [decide_eq_true hl]
        refine qSwap s2 (by omega) (by omega) fun h3 s3 => ?_
        refine ⟨n - j, by omega, j, swp l' x j, rfl, rfl, by omega, by omega, by simpa using hlen, (swp_perm (by omega) (by omega)).trans hperm, hd.step (by omega) hj1 hj hp hax hmin (by omega), fun k hk => ?_, s3⟩
        rw [atN_swp (by omega) (by omega), if_neg (by omega), if_neg (by omega)]
        exact hrest k hk
      · rw [decide_eq_false hl]
        exact done (fun k h1 h2 h3 => by have := hmin k h1 h2 h3; omega) _ s2
    have hch : ∀ k, 1 ≤ k → par k = x → k = 2 * x + 1 ∨ k = 2 * x + 2 := fun k h1 h2 => by unfold par at h2; omega
    have hp1 : par (2 * x + 1) = x := by unfold par; omega
    have hp2 : par (2 * x + 2) = x := by unfold par; omega
    by_cases hr : 2 * (x : Int) + 1 + 1 < (n : Int)
    · rw [cond_pos hr, decide_eq_true hr, e2, e1]
      refine qLess s1 (by omega) (by omega) ?_
      rw [oPick_bool, if_pos rfl]
      by_cases hl : atN l' (2 * x + 2) < atN l' (2 * x + 1)
      · rw [cond_pos hl]
        refine go (2 * x + 2) (by omega) (by omega) hp2 (fun k h1 h2 h3 => ?_) _ s1
        rcases hch k h1 h3 with rfl | rfl <;> omega
      · rw [cond_neg hl]
        refine go (2 * x + 1) (by omega) (by omega) hp1 (fun k h1 h2 h3 => ?_) _ s1
        rcases hch k h1 h3 with rfl | rfl <;> omega
    · rw [cond_neg hr, decide_eq_false hr, oPick_bool, if_neg (by simp), cond_f, e1]
      refine go (2 * x + 1) (by omega) (by omega) hp1 (fun k h1 h2 h3 => ?_) _ s1
      rcases hch k h1 h3 with rfl | rfl
      · exact Nat.le_refl _
      · omega
theorem up_ok {h0 h : Heap} {p : Value} {l : List Nat} {j : Nat} {L : List HP} (s : St h0 h (Que p l :: L)) (hj : j < l.length) (hb : l.length ≤ big) (ha : UpI l l.length j) :
    HC Try.prog 32 #[.iface 56 p, .int .i64 j] h fun u h' => ∃ l', St h0 h' (Que p l' :: L) ∧ l'.Perm l ∧ HpF l' 0 l'.length := by
  unfold big at hb
  refine sh_container_heap_up ?_
  unfold g_container_heap_up
  simp only [join]
  refine ⟨fun m v h' => ∃ (x : Nat) (l' : List Nat), m = x ∧ v = .int .i64 x ∧ x < l.length ∧ l'.length = l.length ∧ l'.Perm l ∧ UpI l' l.length x ∧ St h0 h' (Que p l' :: L),
    j, ⟨j, l, rfl, rfl, hj, rfl, .refl _, ha, s⟩, ?_⟩
  rintro m v h1 ⟨x, l', rfl, rfl, hx, hlen, hperm, hu, s1⟩
  dsimp only
  rw [oBin_sub, wrap_int _ (by omega) (by omega), oBin_quo (by omega)]
  have e : IntKind.i64.wrap (((m : Int) - 1).tdiv 2) = (par m : Int) := by
    have : ((m : Int) - 1).tdiv 2 = (par m : Int) := by
      rcases Nat.eq_zero_or_pos m with rfl | hp
      · rfl
      · have : ((m : Int) - 1) = ((m - 1 : Nat) : Int) := by omega
        rw [this]
        rfl
    rw [this, wrap_int _ (by omega) (by unfold par; omega)]
  rw [e, oBin_eql]
  by_cases h0' : m = 0
  · subst h0'
    have : ((par 0 : Nat) : Int) = ((0 : Nat) : Int) := rfl
    rw [cond_pos this, decide_eq_true this, oPick_bool, if_pos rfl, cond_t]
    exact ⟨l', s1, hperm, by rw [hlen]; exact hu.stop (.inl rfl)⟩
  · have hpm : par m < m := by unfold par; omega
    have : ¬ ((par m : Nat) : Int) = ((m : Nat) : Int) := by omega
    rw [cond_neg this, decide_eq_false this]
    refine qLess s1 (by omega) (by omega) ?_
    rw [oUn_not, oPick_bool, if_neg (by simp)]
    by_cases hl : atN l' m < atN l' (par m)
    · rw [decide_eq_true hl]
      refine qSwap s1 (by omega) (by omega) fun h3 s3 => ?_
      exact ⟨par m, hpm, par m, swp l' (par m) m, rfl, rfl, by omega, by simpa using hlen, (swp_perm (by omega) (by omega)).trans hperm, hu.step (by omega) (by omega) hx hl, s3⟩
    · rw [decide_eq_false hl]
      exact ⟨l', s1, hperm, by rw [hlen]; exact hu.stop (.inr (by omega))⟩
theorem init_ok {h0 h : Heap} {p : Value} {l : List Nat} {L : List HP} (s : St h0 h (Que p l :: L)) (hb : l.length ≤ big) :
    HC Try.prog 25 #[.iface 56 p] h fun u h' => ∃ l', St h0 h' (Que p l' :: L) ∧ l'.Perm l ∧ HpF l' 0 l'.length := by
  have hb' := hb
  unfold big at hb
  refine sh_container_heap_Init ?_
  unfold g_container_heap_Init
  refine qLen s ?_
  rw [oBin_quo (by omega), oBin_sub]
  have e : IntKind.i64.wrap ((l.length : Int).tdiv 2) = ((l.length / 2 : Nat) : Int) := by
    rw [show ((l.length : Int).tdiv 2) = ((l.length / 2 : Nat) : Int) from rfl, wrap_int _ (by omega) (by omega)]
  rw [e, wrap_int _ (by omega) (by omega)]
  refine ⟨fun m v h' => ∃ l' : List Nat, v = .int .i64 ((m : Int) - 1) ∧ m ≤ 1000000000000 ∧ l'.length = l.length ∧ l'.Perm l ∧ HpF l' m l.length ∧ St h0 h' (Que p l' :: L),
    l.length / 2, ⟨l, rfl, by omega, rfl, .refl _, .none (by omega), s⟩, ?_⟩
  rintro m v h1 ⟨l', rfl, hm, hlen, hperm, hh, s1⟩
  dsimp only
  rw [oBin_geq]
  by_cases h0' : m = 0
  · subst h0'
    rw [cond_neg (by omega)]
    exact ⟨l', s1, hperm, by rw [hlen]; exact hh⟩
  · rw [cond_pos (by omega)]
    obtain ⟨k, rfl⟩ : ∃ k, m = k + 1 := ⟨m - 1, by omega⟩
    have e2 : (((k + 1 : Nat) : Int) - 1) = (k : Int) := by omega
    rw [e2]
    refine oCall_func (.mono (down_ok s1 (by omega) (by omega) (by unfold big; omega) hh) ?_)
    rintro u h2 ⟨l2, s2, hp2, hh2, _⟩
    rw [oBin_sub, wrap_int _ (by omega) (by omega)]
    exact ⟨k, by omega, l2, rfl, by omega, by rw [hp2.length_eq, hlen], hp2.trans hperm, hh2, s2⟩
theorem hpush_ok {h0 h : Heap} {p : Value} {l : List Nat} {x : Nat} {L : List HP} (s : St h0 h (Que p l :: L)) (hb : l.length + 1 ≤ big) (hh : HpF l 0 l.length) :
    HC Try.prog 27 #[.iface 56 p, .iface 3 (encI x)] h fun u h' => ∃ l', St h0 h' (Que p l' :: L) ∧ l'.Perm (x :: l) ∧ HpF l' 0 l'.length := by
  have hb' := hb
  unfold big at hb
  refine sh_container_heap_Push ?_
  unfold g_container_heap_Push
  refine qPush s (by unfold big; omega) fun h1 s1 => ?_
  refine qLen s1 ?_
  rw [oBin_sub, wrap_int _ (by omega) (by simp; omega)]
  have e : (((l ++ [x]).length : Int) - 1) = (l.length : Int) := by simp
  rw [e]
  refine oCall_func (.mono (up_ok s1 (by simp) (by simpa using hb') (by simpa using hh.push)) ?_)
  rintro u h2 ⟨l2, s2, hp2, hh2⟩
  exact ⟨l2, s2, hp2.trans (List.perm_append_comm (l₁ := l) (l₂ := [x])), hh2⟩
theorem hpop_ok {h0 h : Heap} {p : Value} {c : Nat} {l : List Nat} {L : List HP} (s : St h0 h (Que p (c :: l) :: L)) (hb : l.length + 1 ≤ big) (hh : HpF (c :: l) 0 (c :: l).length) :
    HC Try.prog 26 #[.iface 56 p] h fun u h' => ∃ l', St h0 h' (Que p l' :: L) ∧ l'.Perm l ∧ HpF l' 0 l'.length := by
  have hb' := hb
  unfold big at hb
  refine sh_container_heap_Pop ?_
  unfold g_container_heap_Pop
  refine qLen s ?_
  rw [oBin_sub, wrap_int _ (by omega) (by simp; omega)]
  have e : (((c :: l).length : Int) - 1) = (l.length : Int) := by simp
  rw [e]
  refine qSwap (i := 0) s (by simp) (by simp) fun h1 s1 => ?_
  refine oCall_func (.mono (down_ok (a := 0) s1 (by simp) (by simpa using hb') (Nat.zero_le _) ?_) ?_)
  · intro k h1 h2 h3
    have hk : par k < k := by unfold par; omega
    rw [atN_swp (by simp) (by simp), atN_swp (by simp) (by simp), if_neg (by omega), if_neg (by omega), if_neg (by omega), if_neg (by omega)]
    exact hh k h1 (by simp; omega) (Nat.zero_le _)
  · rintro u h2 ⟨l2, s2, hp2, hh2, hk2⟩
    have hlen : l2.length = l.length + 1 := by rw [hp2.length_eq]; simp
    have hlast : atN l2 l.length = c := by
      rw [hk2 _ (Nat.le_refl _), atN_swp (by simp) (by simp), if_pos rfl]
      rfl
    have hsplit : l2 = l2.take l.length ++ [c] := by
      have h3 : l2[l.length]? = some c := by rw [atN_some (by omega), hlast]
      have h4 : l2.take (l.length + 1) = l2.take l.length ++ [c] := by rw [List.take_add_one, h3]; rfl
      rw [← h4, ← hlen, List.take_length]
    have htl : (l2.take l.length).length = l.length := by rw [List.length_take]; omega
    have s2' : St h0 h2 (Que p (l2.take l.length ++ [c]) :: L) := by rw [← hsplit]; exact s2
    refine qPop s2' (by rw [htl]; unfold big; omega) fun h3 s3 => ⟨l2.take l.length, s3, ?_, ?_⟩
    · have h4 : (c :: l2.take l.length).Perm (c :: l) := by
        have h5 : (l2.take l.length ++ [c]).Perm (c :: l) := by
          rw [← hsplit]
          exact hp2.trans (swp_perm (by simp) (by simp))
        exact (List.perm_append_comm (l₁ := [c]) (l₂ := l2.take l.length)).trans h5
      exact List.Perm.cons_inv h4
    · rw [htl]
      refine hh2.congr fun k hk => ?_
      simp only [atN, List.getD_eq_getElem?_getD]
      rw [List.getElem?_take, if_pos hk]
end Go.Proofs.Ytfhbpghgcgmegaa
