/- The loops over a summary's entries: what cells are behind them. -/
import Derived.Test.YtfaieigeojiiiaaGreatMv2
set_option linter.unusedVariables false
set_option linter.unusedSimpArgs false
set_option maxRecDepth 100000
noncomputable section
namespace Go.Proofs.YtfaieigeojiiiaaGreat
open Go Go.Sh Go.Va
/-- The entries ahead of n are as a summary's should be: names are short, intervals are there. -/
def NMi (d : LD) (n : Nat) : Prop := ∀ j < n, ∃ (s : Str) (l h : Int), d.es[j]? = some (ivl s l h) ∧ s.length ≤ 20 ∧ l ≤ h
def chgN (nm : Str) : List LD → Int × Int → Int × Int
  | [], c => c
  | e :: es, c => chgN nm es (if (e.f 0).st = nm then ((e.f 2).i, (e.f 3).i) else c)
/-- What a cell is behind the entries from i on. -/
def ch (nm : Str) (mod : LD) (i : Int) (l h : Int) : Int × Int := chgN nm (mod.es.drop i.toNat) (l, h)
theorem ch_end {nm : Str} {mod : LD} {i l h : Int} (hi : (mod.len : Int) ≤ i) : ch nm mod i l h = (l, h) := by
  have h' : mod.len = mod.es.length := rfl
  rw [ch, List.drop_eq_nil_of_le (by omega)]; rfl
theorem ch_step {nm s : Str} {mod : LD} {i l h l' h' : Int} (h0 : 0 ≤ i) (he : mod.es[i.toNat]? = some (ivl s l' h')) : ch nm mod i l h = if s = nm then ch nm mod (i + 1) l' h' else ch nm mod (i + 1) l h := by
  obtain ⟨hl, e⟩ := List.getElem?_eq_some_iff.1 he
  have e2 : (i + 1).toNat = i.toNat + 1 := by omega
  simp only [ch]
  rw [List.drop_eq_getElem_cons hl, e, e2]
  simp only [chgN]
  have : ((ivl s l' h').f 0).st = s := rfl
  rw [this]
  split <;> rfl
theorem at_f {mod : LD} {i : Int} {x : LD} (he : mod.es[i.toNat]? = some x) : mod.es.getD i.toNat .nul = x := by
  rw [List.getD_eq_getElem?_getD, he]; rfl
theorem fAll {mod : LD} {i : Int} {s : Str} {b : Bool} {l h : Int} (he : mod.es.getD i.toNat .nul = .t [.s s, .b b, .n l, .n h]) : ((mod.at 4 i).f 0).st = s ∧ ((mod.at 4 i).f 1).bo = b ∧ ((mod.at 4 i).f 2).i = l ∧ ((mod.at 4 i).f 3).i = h := by
  refine ⟨?_, ?_, ?_, ?_⟩
  · show (((mod.es.getD i.toNat .nul).cs).getD 0 .nul).st = s; rw [he]; rfl
  · show (((mod.es.getD i.toNat .nul).cs).getD 1 .nul).bo = b; rw [he]; rfl
  · show (((mod.es.getD i.toNat .nul).cs).getD 2 .nul).i = l; rw [he]; rfl
  · show (((mod.es.getD i.toNat .nul).cs).getD 3 .nul).i = h; rw [he]; rfl
theorem decI {i : Int} {n : Nat} (h0 : 0 ≤ i) (h1 : i < Int.ofNat n) : ((decide (0 ≤ i)) && (decide (i < (Int.ofNat n)))) = true := by rw [decide_eq_true h0, decide_eq_true h1]; rfl
section
variable {ai : Addr} {ci : Nat} {lc hc ld hd lr hr lx hx : Int} {p : LD} {s : Str} {l h : Int}
theorem getA_c : getA (List.map UInt8.ofNat [64] ++ [99]) lc hc ld hd lr hr lx hx = [.b true, .n lc, .n hc, .b true] := by rw [getA, if_pos (by decide)]
theorem getA_d : getA (List.map UInt8.ofNat [64] ++ [100]) lc hc ld hd lr hr lx hx = [.b true, .n ld, .n hd, .b true] := by rw [getA, if_neg (by decide), if_pos (by decide)]
theorem getA_o (h1 : s ≠ [99]) (h2 : s ≠ [100]) : getA (List.map UInt8.ofNat [64] ++ s) lc hc ld hd lr hr lx hx = [.b false, .n 0, .n 0, .b false] := by
  have e : List.map UInt8.ofNat [64] ++ s = 64 :: s := rfl
  rw [getA, e]
  rw [if_neg (by intro h; exact h1 (List.cons.inj h).2.symm), if_neg (by intro h; exact h2 (List.cons.inj h).2.symm), if_neg (by intro h; exact absurd (List.cons.inj h).1 (by decide)), if_neg (by intro h; exact absurd (List.cons.inj h).1 (by decide))]
variable {f : TelK [.b, .i .i64, .i .i64, .b]}
theorem u16c (h : f true lc hc true) : q16 [L4 ai ci lc hc ld hd lr hr lx hx, p, .s (List.map UInt8.ofNat [64] ++ [99])] [apK [.b, .i .i64, .i .i64, .b] f] := ⟨ai, ci, lc, hc, ld, hd, lr, hr, lx, hx, p, _, rfl, by rw [getA_c]; exact fun _ => h⟩
theorem u16d (h : f true ld hd true) : q16 [L4 ai ci lc hc ld hd lr hr lx hx, p, .s (List.map UInt8.ofNat [64] ++ [100])] [apK [.b, .i .i64, .i .i64, .b] f] := ⟨ai, ci, lc, hc, ld, hd, lr, hr, lx, hx, p, _, rfl, by rw [getA_d]; exact fun _ => h⟩
theorem u16o (h1 : s ≠ [99]) (h2 : s ≠ [100]) (h : f false (0 : Int) (0 : Int) false) : q16 [L4 ai ci lc hc ld hd lr hr lx hx, p, .s (List.map UInt8.ofNat [64] ++ s)] [apK [.b, .i .i64, .i .i64, .b] f] := ⟨ai, ci, lc, hc, ld, hd, lr, hr, lx, hx, p, _, rfl, by rw [getA_o h1 h2]; exact fun _ => h⟩
theorem u114c (h : f true lc hc true) : q114 [L4 ai ci lc hc ld hd lr hr lx hx, p, .s (List.map UInt8.ofNat [64] ++ [99])] [apK [.b, .i .i64, .i .i64, .b] f] := ⟨ai, ci, lc, hc, ld, hd, lr, hr, lx, hx, p, _, rfl, by rw [getA_c]; exact fun _ => h⟩
theorem u114d (h : f true ld hd true) : q114 [L4 ai ci lc hc ld hd lr hr lx hx, p, .s (List.map UInt8.ofNat [64] ++ [100])] [apK [.b, .i .i64, .i .i64, .b] f] := ⟨ai, ci, lc, hc, ld, hd, lr, hr, lx, hx, p, _, rfl, by rw [getA_d]; exact fun _ => h⟩
theorem u114o (h1 : s ≠ [99]) (h2 : s ≠ [100]) (h : f false (0 : Int) (0 : Int) false) : q114 [L4 ai ci lc hc ld hd lr hr lx hx, p, .s (List.map UInt8.ofNat [64] ++ s)] [apK [.b, .i .i64, .i .i64, .b] f] := ⟨ai, ci, lc, hc, ld, hd, lr, hr, lx, hx, p, _, rfl, by rw [getA_o h1 h2]; exact fun _ => h⟩
variable {g : TelK [.l 0, .l 3]}
theorem u8c (hl : l ≤ h) (k : ∀ a c, g (L4 a c l h ld hd lr hr lx hx) p) : q8 [L4 ai ci lc hc ld hd lr hr lx hx, p, .s (List.map UInt8.ofNat [64] ++ [99]), .b true, .n l, .n h] [apK [.l 0, .l 3] g] := ⟨ai, ci, lc, hc, ld, hd, lr, hr, lx, hx, p, l, h, _, rfl, hl, .inl ⟨rfl, fun a c _ => k a c⟩⟩
theorem u8d (hl : l ≤ h) (k : ∀ a c, g (L4 a c lc hc l h lr hr lx hx) p) : q8 [L4 ai ci lc hc ld hd lr hr lx hx, p, .s (List.map UInt8.ofNat [64] ++ [100]), .b true, .n l, .n h] [apK [.l 0, .l 3] g] := ⟨ai, ci, lc, hc, ld, hd, lr, hr, lx, hx, p, l, h, _, rfl, hl, .inr ⟨rfl, fun a c _ => k a c⟩⟩
theorem u76c (hp : noP p) (hl : l ≤ h) (k : ∀ a c p', noP p' → g (L4 a c l h ld hd lr hr lx hx) p') : q76 [L4 ai ci lc hc ld hd lr hr lx hx, p, .s (List.map UInt8.ofNat [64] ++ [99]), .b true, .n l, .n h] [apK [.l 0, .l 3] g] := ⟨ai, ci, lc, hc, ld, hd, lr, hr, lx, hx, p, l, h, _, rfl, hp, hl, .inl ⟨rfl, fun a c p' hp _ => k a c p' hp⟩⟩
theorem u76d (hp : noP p) (hl : l ≤ h) (k : ∀ a c p', noP p' → g (L4 a c lc hc l h lr hr lx hx) p') : q76 [L4 ai ci lc hc ld hd lr hr lx hx, p, .s (List.map UInt8.ofNat [64] ++ [100]), .b true, .n l, .n h] [apK [.l 0, .l 3] g] := ⟨ai, ci, lc, hc, ld, hd, lr, hr, lx, hx, p, l, h, _, rfl, hp, hl, .inr ⟨rfl, fun a c p' hp _ => k a c p' hp⟩⟩
end
/-- The loop of 'change'. -/
def ql135 (k : Nat) : QF := fun xs Ks => ∃ mod n i ai ci lc hc ld hd lr hr lx hx p cells arrays sigs sums k5 w, xs = [mod, .n n, .n i, L4 ai ci lc hc ld hd lr hr lx hx, p, cells, arrays, sigs, sums, .b k5, .t w] ∧
  NMi mod mod.len ∧ mod.len ≤ 5 ∧ n = mod.len ∧ 0 ≤ i ∧ i ≤ n ∧ (n - i).toNat < k ∧ noP p ∧ (w.length : Int) ≤ i ∧
  ∀ a c p' w', noP p' → nthK Ks 0 [L4 a c (ch [99] mod i lc hc).1 (ch [99] mod i lc hc).2 (ch [100] mod i ld hd).1 (ch [100] mod i ld hd).2 lr hr lx hx, p', cells, arrays, sigs, sums, .b k5, .t w']
theorem t135 {mod : LD} {n i : Int} {ai : Addr} {ci : Nat} {lc hc ld hd lr hr lx hx : Int} {p cells arrays sigs sums : LD} {k5 : Bool} {w : List LD} {k : Nat} {Ks : List (List LD → Prop)}
    (h : ql135 (k + 1) [mod, .n n, .n i, L4 ai ci lc hc ld hd lr hr lx hx, p, cells, arrays, sigs, sums, .b k5, .t w] Ks) : T135 mod n i ai ci lc hc ld hd lr hr lx hx p cells arrays sigs sums k5 w (fun ys => ql135 k ys Ks) (nthK Ks) q76 q114 := by
  obtain ⟨_, _, _, _, _, _, _, _, _, _, _, _, _, _, _, _, _, _, _, _, eq, hm, h5, hn, h0, hi, hk, hp, hw, kk⟩ := h
  simp only [List.cons.injEq, LD.n.injEq, LD.l.injEq, LD.t.injEq, LD.s.injEq, LD.b.injEq, and_true, true_and] at eq
  obtain ⟨rfl, rfl, rfl, ⟨rfl, rfl, ⟨rfl, rfl⟩, ⟨rfl, rfl⟩, ⟨rfl, rfl⟩, rfl, rfl⟩, rfl, rfl, rfl, rfl, rfl, rfl, rfl⟩ := eq
  refine Eq.mpr (e135 ..) ?_
  refine bifD (fun hcc => ?_) fun hcc => ?_
  · have hlt : i < Int.ofNat mod.len := by show i < (mod.len : Int); omega
    obtain ⟨s, l, h, he, hs, hl⟩ := hm i.toNat (by omega)
    obtain ⟨f0, f1, f2, f3⟩ := fAll (at_f he)
    have ei : IntKind.i64.wrap (i + 1) = i + 1 := i64_w (by omega) (by omega)
    have sc := ch_step (nm := [99]) (l := lc) (h := hc) h0 he
    have sd := ch_step (nm := [100]) (l := ld) (h := hd) h0 he
    rw [sc, sd] at kk
    rw [f0, f1, f2, f3, ei]
    have hb : (decide ((Int.ofNat (1 + s.length)) ≤ 9223372036854775807)) = true := decide_eq_true (by show ((1 + s.length : Nat) : Int) ≤ _; omega)
    have hww : (w.length + 1) * 16 ≤ 140737488355328 ∧ w.length + 1 ≤ 4611686018427387904 := ⟨by omega, by omega⟩
    refine ⟨decI h0 hlt, hb, ⟨trivial, rfl, rfl, trivial⟩, ?_⟩
    by_cases h1 : s = [99]
    · subst h1
      rw [if_pos rfl, if_neg (by decide)] at kk
      refine u114c ?_
      refine bifT ?_
      refine ⟨hww, hb, ⟨rfl, rfl, rfl, trivial⟩, ⟨trivial, rfl, rfl, trivial⟩, ?_⟩
      refine u76c hp hl fun a c p' hp' => ?_
      exact ⟨_, _, _, _, _, _, _, _, _, _, _, _, _, _, _, _, _, _, _, _, rfl, hm, h5, hn, by omega, by omega, by omega, hp', by rw [List.length_append]; simp; omega, kk⟩
    by_cases h2 : s = [100]
    · subst h2
      rw [if_neg (by decide), if_pos rfl] at kk
      refine u114d ?_
      refine bifT ?_
      refine ⟨hww, hb, ⟨rfl, rfl, rfl, trivial⟩, ⟨trivial, rfl, rfl, trivial⟩, ?_⟩
      refine u76d hp hl fun a c p' hp' => ?_
      exact ⟨_, _, _, _, _, _, _, _, _, _, _, _, _, _, _, _, _, _, _, _, rfl, hm, h5, hn, by omega, by omega, by omega, hp', by rw [List.length_append]; simp; omega, kk⟩
    · rw [if_neg h1, if_neg h2] at kk
      refine u114o h1 h2 ?_
      refine bifF ?_
      exact ⟨_, _, _, _, _, _, _, _, _, _, _, _, _, _, _, _, _, _, _, _, rfl, hm, h5, hn, by omega, by omega, by omega, hp, by omega, kk⟩
  · have e1 := ch_end (nm := [99]) (mod := mod) (i := i) (l := lc) (h := hc) (by omega)
    have e2 := ch_end (nm := [100]) (mod := mod) (i := i) (l := ld) (h := hd) (by omega)
    rw [e1, e2] at kk
    exact kk ai ci p w hp
/-- The reference's. -/
def noA (al : LD) : Prop := al = .nul ∨ ∃ (a : Addr) (c : Nat) (k : Int), al = .l a c [.t [.n k]]
def ql94 (k : Nat) : QF := fun xs Ks => ∃ i ai ci lc hc ld hd lr hr lx hx p cells arrays sigs sums alarms writes s0 s1 s2 s3 s4 al en so rl rh mod,
  xs = [.n i, L4 ai ci lc hc ld hd lr hr lx hx, p, cells, arrays, sigs, sums, alarms, writes, .n s0, .s s1, .s s2, s3, .n s4, al, .b en, .b so, .n rl, .n rh, mod] ∧
  NMi mod mod.len ∧ mod.len ≤ 5 ∧ 0 ≤ i ∧ i ≤ mod.len ∧ ((mod.len : Int) - i).toNat < k ∧ (writes.len : Int) ≤ i ∧
  ∀ a c w', nthK Ks 0 [L4 a c (ch [99] mod i lc hc).1 (ch [99] mod i lc hc).2 (ch [100] mod i ld hd).1 (ch [100] mod i ld hd).2 lr hr lx hx, p, cells, arrays, sigs, sums, alarms, w', .n s0, .s s1, .s s2, s3, .n s4, al, .b en, .b so, .n rl, .n rh, mod]
def q92 : QF := fun xs Ks => ∃ l s, xs = [l, .s s] ∧ l.len ≤ 1000 ∧ ∀ r : LD, r.len ≤ l.len + 1 → nthK Ks 0 [r]
theorem u92 {l : LD} {s : Str} {f : TelK [.l 2]} (h : l.len ≤ 1000) (k : ∀ r : LD, r.len ≤ l.len + 1 → f r) : q92 [l, .s s] [apK [.l 2] f] := ⟨l, s, rfl, h, fun r hr _ => k r hr⟩
theorem t94 {i : Int} {ai : Addr} {ci : Nat} {lc hc ld hd lr hr lx hx : Int} {p cells arrays sigs sums alarms writes s3 al mod : LD} {s0 s4 : Int} {s1 s2 : Str} {en so : Bool} {rl rh : Int} {k : Nat} {Ks : List (List LD → Prop)}
    (h : ql94 (k + 1) [.n i, L4 ai ci lc hc ld hd lr hr lx hx, p, cells, arrays, sigs, sums, alarms, writes, .n s0, .s s1, .s s2, s3, .n s4, al, .b en, .b so, .n rl, .n rh, mod] Ks) : T94 i ai ci lc hc ld hd lr hr lx hx p cells arrays sigs sums alarms writes (.n s0) (.s s1) (.s s2) s3 (.n s4) al en so rl rh mod (fun ys => ql94 k ys Ks) (nthK Ks) q5 q8 q16 q92 := by
  obtain ⟨_, _, _, _, _, _, _, _, _, _, _, _, _, _, _, _, _, _, _, _, _, _, _, _, _, _, _, _, _, eq, hm, h5, h0, hi, hk, hw, kk⟩ := h
  simp only [List.cons.injEq, LD.n.injEq, LD.l.injEq, LD.t.injEq, LD.s.injEq, LD.b.injEq, and_true, true_and] at eq
  obtain ⟨rfl, ⟨rfl, rfl, ⟨rfl, rfl⟩, ⟨rfl, rfl⟩, ⟨rfl, rfl⟩, rfl, rfl⟩, rfl, rfl, rfl, rfl, rfl, rfl, rfl, rfl, rfl, rfl, rfl, rfl, rfl, rfl, rfl, rfl, rfl, rfl⟩ := eq
  refine Eq.mpr (e94 ..) ?_
  refine bifD (fun hcc => ?_) fun hcc => ?_
  · have hcc' : i < (mod.len : Int) := hcc
    obtain ⟨s, l, h, he, hs, hl⟩ := hm i.toNat (by omega)
    obtain ⟨f0, f1, f2, f3⟩ := fAll (at_f he)
    have ei : IntKind.i64.wrap (i + 1) = i + 1 := i64_w (by omega) (by omega)
    have sc := ch_step (nm := [99]) (l := lc) (h := hc) h0 he
    have sd := ch_step (nm := [100]) (l := ld) (h := hd) h0 he
    rw [sc, sd] at kk
    rw [f0, f1, f2, f3, ei]
    have hb : (decide ((Int.ofNat (1 + s.length)) ≤ 9223372036854775807)) = true := decide_eq_true (by show ((1 + s.length : Nat) : Int) ≤ _; omega)
    refine ⟨decI h0 hcc, hb, ?_⟩
    by_cases h1 : s = [99]
    · subst h1
      rw [if_pos rfl, if_neg (by decide)] at kk
      refine u16c ?_
      refine bifT ?_
      refine u92 (by omega) fun r hr => ?_
      refine ⟨hb, decI h0 hcc, ?_⟩
      refine u8c hl fun a c => ?_
      exact ⟨rfl, _, _, _, _, _, _, _, _, _, _, _, _, _, _, _, _, _, _, _, _, _, _, _, _, _, _, _, _, _, rfl, hm, h5, by omega, by omega, by omega, by omega, kk⟩
    by_cases h2 : s = [100]
    · subst h2
      rw [if_neg (by decide), if_pos rfl] at kk
      refine u16d ?_
      refine bifT ?_
      refine u92 (by omega) fun r hr => ?_
      refine ⟨hb, decI h0 hcc, ?_⟩
      refine u8d hl fun a c => ?_
      exact ⟨rfl, _, _, _, _, _, _, _, _, _, _, _, _, _, _, _, _, _, _, _, _, _, _, _, _, _, _, _, _, _, rfl, hm, h5, by omega, by omega, by omega, by omega, kk⟩
    · rw [if_neg h1, if_neg h2] at kk
      refine u16o h1 h2 ?_
      refine bifF ?_
      exact ⟨_, _, _, _, _, _, _, _, _, _, _, _, _, _, _, _, _, _, _, _, _, _, _, _, _, _, _, _, _, rfl, hm, h5, by omega, by omega, by omega, by omega, kk⟩
  · have hcc' : ¬ i < (mod.len : Int) := hcc
    have e1 := ch_end (nm := [99]) (mod := mod) (i := i) (l := lc) (h := hc) (by omega)
    have e2 := ch_end (nm := [100]) (mod := mod) (i := i) (l := ld) (h := hd) (by omega)
    rw [e1, e2] at kk
    exact kk ai ci writes
/-- The reference's alarms. -/
def ql24 (k : Nat) : QF := fun xs Ks => ∃ mm i kd sk x y ag at_ nx hd_ sm ints p cells arrays sigs sums al writes w,
  xs = [mm, .n i, .n kd, .n sk, .s x, .s y, ag, .n at_, nx, .b hd_, .b sm, ints, p, cells, arrays, sigs, sums, al, writes, .t w] ∧ noA al ∧ 0 ≤ i ∧ ((al.len : Int) - i).toNat < k ∧ (w.length : Int) = i ∧ i ≤ al.len ∧
  (∀ j < w.length, w[j]? = some (.t [.n at_, .n ((al.es.getD j .nul).f 0).i])) ∧
  ∀ w', (w' = al.es.map fun e => .t [.n at_, .n (e.f 0).i]) → nthK Ks 0 [mm, .n kd, .n sk, .s x, .s y, ag, .n at_, nx, .b hd_, .b sm, ints, p, cells, arrays, sigs, sums, al, writes, .t w']
theorem t24 {mm ag nx ints p cells arrays sigs sums al writes : LD} {i kd sk at_ : Int} {x y : Str} {hd_ sm : Bool} {w : List LD} {k : Nat} {Ks : List (List LD → Prop)}
    (h : ql24 (k + 1) [mm, .n i, .n kd, .n sk, .s x, .s y, ag, .n at_, nx, .b hd_, .b sm, ints, p, cells, arrays, sigs, sums, al, writes, .t w] Ks) : T24 kd sk x y ag at_ nx hd_ mm sm ints p cells arrays sigs sums al writes w i (fun ys => ql24 k ys Ks) (nthK Ks) := by
  obtain ⟨_, _, _, _, _, _, _, _, _, _, _, _, _, _, _, _, _, _, _, _, eq, ha, h0, hk, hw, hi, hj, kk⟩ := h
  simp only [List.cons.injEq, LD.n.injEq, LD.l.injEq, LD.t.injEq, LD.s.injEq, LD.b.injEq, and_true, true_and] at eq
  obtain ⟨rfl, rfl, rfl, rfl, rfl, rfl, rfl, rfl, rfl, rfl, rfl, rfl, rfl, rfl, rfl, rfl, rfl, rfl, rfl, rfl⟩ := eq
  refine Eq.mpr (e24 ..) ?_
  have hl1 : al.len ≤ 1 := by
    rcases ha with rfl | ⟨a, c, k, rfl⟩
    · exact Nat.zero_le _
    · exact Nat.le_refl _
  have hlen : al.len = al.es.length := rfl
  refine bifD (fun hcc => ?_) fun hcc => ?_
  · have hcc' : i < (al.len : Int) := hcc
    have ei : IntKind.i64.wrap (i + 1) = i + 1 := i64_w (by omega) (by omega)
    rw [ei]
    refine ⟨decI h0 hcc, rfl, rfl, ⟨by omega, by omega⟩, rfl, rfl, ?_⟩
    have hit : i.toNat = w.length := by omega
    refine ⟨_, _, _, _, _, _, _, _, _, _, _, _, _, _, _, _, _, _, _, _, rfl, ha, by omega, by omega, by rw [List.length_append, List.length_singleton]; omega, by omega, fun j hj2 => ?_, kk⟩
    rw [List.length_append, List.length_singleton] at hj2
    rcases Nat.lt_or_ge j w.length with h | h
    · rw [List.getElem?_append_left h]; exact hj j h
    · have : j = w.length := by omega
      subst this
      rw [List.getElem?_append_right (Nat.le_refl _), Nat.sub_self]
      have hz : (al.at 1 i).f 0 = ((al.es.getD w.length .nul).f 0) := by show ((al.es.getD i.toNat .nul).cs).getD 0 .nul = _; rw [hit]; rfl
      rw [hz]; rfl
  · have hcc' : ¬ i < (al.len : Int) := hcc
    refine kk w ?_
    apply List.ext_getElem?
    intro j
    rcases Nat.lt_or_ge j w.length with h | h
    · rw [hj j h, List.getElem?_map, List.getElem?_eq_getElem (by omega), List.getD_eq_getElem?_getD, List.getElem?_eq_getElem (by omega)]; rfl
    · rw [List.getElem?_eq_none h, List.getElem?_eq_none (by rw [List.length_map]; omega)]
end Go.Proofs.YtfaieigeojiiiaaGreat
