/- Names that were written; the law's own loop; uses of contracts. -/
import Derived.Test.YtfaieigeojiiiaaGreatMv3
set_option linter.unusedVariables false
set_option linter.unusedSimpArgs false
set_option maxRecDepth 100000
noncomputable section
namespace Go.Proofs.YtfaieigeojiiiaaGreat
open Go Go.Sh Go.Va
theorem subLo (l : LD) (k n : Nat) : (l.sub k (some n) none none).es = l.es.drop n := by
  cases l <;> simp [LD.sub, LD.es, subLD, gD]
theorem subHi (l : LD) (k n : Nat) (h : n ≤ l.len) : (l.sub k none (some n) (some n)).es = l.es.take n ∧ (l.sub k none (some n) (some n)).cap ≤ n := by
  cases l <;> simp [LD.sub, LD.es, LD.cap, subLD, gD]
def ql92 (j : Nat) : QF := fun xs Ks => ∃ l s i, xs = [l, .s s, .n i] ∧ l.len ≤ 1000 ∧ 0 ≤ i ∧ i ≤ l.len ∧ (l.len - i : Int).toNat < j ∧ ∀ N : Nat, N ≤ l.len → nthK Ks 0 [l, .s s, .n (N : Int)]
theorem t92l {l : LD} {s : Str} {i : Int} {Ks : List (List LD → Prop)} {j : Nat} (h : ql92 (j + 1) [l, .s s, .n i] Ks) : T92l l s i (fun ys => ql92 j ys Ks) (nthK Ks) := by
  obtain ⟨l_, s_, i_, eq, hl, h0, h1, hj, k0⟩ := h
  simp only [List.cons.injEq, LD.n.injEq, LD.s.injEq, and_true] at eq
  obtain ⟨rfl, rfl, rfl⟩ := eq
  refine Eq.mpr (e92l ..) ?_
  have e := k0 i.toNat (by omega)
  have e1 : ((i.toNat : Nat) : Int) = i := by omega
  rw [e1] at e
  refine bifD (fun hc => ?_) fun hc => e
  have hc' : i < (l.len : Int) := hc
  have ei : IntKind.i64.wrap (i + 1) = i + 1 := i64_w (by omega) (by omega)
  rw [ei]
  exact ⟨decI h0 hc, bifI (fun _ => ⟨l, s, i + 1, rfl, hl, by omega, by omega, by omega, k0⟩) fun _ => e⟩
theorem u92l {l : LD} {s : Str} {f : TelK [.l 2, .s, .i .i64]} (hl : l.len ≤ 1000) (h : ∀ N : Nat, N ≤ l.len → f l s (N : Int)) : ∃ j, ql92 j [l, .s s, .n 0] [apK [.l 2, .s, .i .i64] f] :=
  ⟨_, l, s, 0, rfl, hl, by omega, by omega, Nat.lt_succ_self _, fun N hN _ => h N hN⟩
theorem t92 {l : LD} {s : Str} {Ks : Nat → List LD → Prop} (hl : l.len ≤ 1000) (hk : ∀ r : LD, r.len ≤ l.len + 1 → Ks 0 [r]) : T92 l s Ks (fun xs Ks => ∃ j, ql92 j xs Ks) := by
  refine Eq.mpr (e92 ..) ?_
  refine u92l hl fun N hN => ?_
  have key : ((N : Int)).toNat = N := Int.toNat_natCast N
  rw [key]
  obtain ⟨p1, p2⟩ := subHi l 1 N hN
  have p3 := subLo l 1 N
  have p4 : (l.sub 1 none (some N) (some N)).len = N := by
    show (l.sub 1 none (some N) (some N)).es.length = N
    rw [p1, List.length_take]; have : l.len = l.es.length := rfl; omega
  have h3 : (N : Int) ≤ Int.ofNat l.len := by show (N : Int) ≤ (l.len : Int); omega
  have ta : (((decide (0 ≤ (N : Int))) && (decide ((N : Int) ≤ (Int.ofNat l.len)))) && ((decide ((N : Int) ≤ (N : Int))) && (decide ((N : Int) ≤ (Int.ofNat l.len))))) = true := decA (decA (decD (by omega)) (decD h3)) (decA (decD (Int.le_refl _)) (decD h3))
  have tb : ((decide (0 ≤ (N : Int))) && (decide ((N : Int) ≤ (Int.ofNat l.len)))) = true := decA (decD (by omega)) (decD h3)
  have fin : ((((1 + (l.sub 1 (some N) none none).es.length) * 16) ≤ 140737488355328 ∧ (1 + (l.sub 1 (some N) none none).es.length) ≤ 4611686018427387904) ∧ ((l.sub 1 none (some N) (some N)).cap < ((l.sub 1 none (some N) (some N)).len + ([(LD.t [(LD.s s)])] ++ (l.sub 1 (some N) none none).es).length) ∧ (((((l.sub 1 none (some N) (some N)).len + ([(LD.t [(LD.s s)])] ++ (l.sub 1 (some N) none none).es).length) * 16) ≤ 140737488355328 ∧ ((l.sub 1 none (some N) (some N)).len + ([(LD.t [(LD.s s)])] ++ (l.sub 1 (some N) none none).es).length) ≤ 4611686018427387904) ∧ ((((l.sub 1 none (some N) (some N)).es ++ ([(LD.t [(LD.s s)])] ++ (l.sub 1 (some N) none none).es)) = [] → Ks 0 [LD.nul]) ∧ (∀ a8 : Go.Addr, (∀ c9 : Nat, (((l.sub 1 none (some N) (some N)).es ++ ([(LD.t [(LD.s s)])] ++ (l.sub 1 (some N) none none).es)).length ≤ c9 → Ks 0 [(LD.l a8 c9 ((l.sub 1 none (some N) (some N)).es ++ ([(LD.t [(LD.s s)])] ++ (l.sub 1 (some N) none none).es)))]))))))) := by
    rw [p4, p1, p3, List.length_append, List.length_singleton, List.length_drop]
    have : l.len = l.es.length := rfl
    refine ⟨⟨by omega, by omega⟩, by omega, ⟨by omega, by omega⟩, fun h => by simp at h, fun a c _ => hk _ ?_⟩
    show (List.take N l.es ++ ([LD.t [.s s]] ++ List.drop N l.es)).length ≤ l.len + 1
    rw [List.length_append, List.length_append, List.length_take, List.length_drop, List.length_singleton]
    omega
  refine bifD (fun hc => ⟨decI (by omega) hc, bifI (fun he => hk l (by omega)) fun he => ⟨ta, tb, fin⟩⟩) fun hc => ⟨ta, tb, fin⟩
theorem wtE_at {ks : List CK} : ∀ {es : List LD} {j : Nat}, wtE es ks → j < es.length → ∃ cs, es[j]? = some (.t cs) ∧ wtL cs ks
  | e :: es, 0, h, _ => by
    simp only [wtE] at h
    have h1 := h.1
    cases e <;> simp only [wtT] at h1
    exact ⟨_, rfl, h1⟩
  | e :: es, j + 1, h, hj => by
    simp only [wtE] at h
    obtain ⟨cs, h1, h2⟩ := wtE_at (j := j) h.2 (by simpa using hj)
    exact ⟨cs, by simpa using h1, h2⟩
theorem ent {mod : LD} (h : wt mod (.l 0)) {j : Nat} (hj : j < mod.len) : ∃ (s : Str) (b : Bool) (l h : Int), mod.es[j]? = some (.t [.s s, .b b, .n l, .n h]) := by
  cases mod <;> simp only [LD.len, LD.es, List.length_nil] at hj <;> try omega
  rename_i a c es
  simp only [wt] at h
  have ly : Vb.ly[0]? = some [CK.s, .b, .i .i64, .i .i64] := rfl
  rw [ly] at h
  obtain ⟨cs, h1, h2⟩ := wtE_at h.2.2.2 hj
  obtain ⟨x, r, rfl, hx, h2⟩ := wtL_cons h2
  obtain ⟨y, r, rfl, hy, h2⟩ := wtL_cons h2
  obtain ⟨z, r, rfl, hz, h2⟩ := wtL_cons h2
  obtain ⟨u, r, rfl, hu, h2⟩ := wtL_cons h2
  have := wtL_nil h2
  subst this
  obtain ⟨s, rfl, _⟩ := wt_s hx
  obtain ⟨b, rfl⟩ := wt_b hy
  obtain ⟨l, rfl, _⟩ := wt_i hz
  obtain ⟨h, rfl, _⟩ := wt_i hu
  exact ⟨s, b, l, h, h1⟩
theorem u5 {so : Bool} {l h : Int} {f : TelK [.b, .i .i64, .i .i64]} (k1 : so = true → l ≤ h → f true l h) (k0 : ¬ (so = true ∧ l ≤ h) → f false (0 : Int) (0 : Int)) : q5 [.b so, .n l, .n h] [apK [.b, .i .i64, .i .i64] f] := ⟨so, l, h, rfl, by
  unfold normA
  split
  · rename_i hh; exact fun _ => k1 hh.1 hh.2
  · rename_i hh; exact fun _ => k0 hh⟩
def ql3 (k : Nat) : QF := fun xs Ks => ∃ lo hi wr i al en so rl rh mod, xs = [.n lo, .n hi, .n wr, .n i, al, .b en, .b so, .n rl, .n rh, mod] ∧ NMi mod i.toNat ∧ mod.len ≤ 5 ∧ 0 ≤ i ∧ i ≤ mod.len ∧ ((mod.len : Int) - i).toNat < k ∧
  (∀ mod', nthK Ks 1 [al, .b en, .b so, .n rl, .n rh, mod']) ∧ ∀ mod' : LD, NMi mod' mod'.len → mod'.len ≤ 5 → nthK Ks 0 [.n lo, .n hi, .n wr, al, .b en, .b so, .n rl, .n rh, mod']
theorem t3 {lo hi wr i rl rh : Int} {al mod : LD} {en so : Bool} {k : Nat} {Ks : List (List LD → Prop)} {q8 q16 q92 : QF} (hw : wt mod (.l 0))
    (h : ql3 (k + 1) [.n lo, .n hi, .n wr, .n i, al, .b en, .b so, .n rl, .n rh, mod] Ks) : T3 lo hi wr i al en so rl rh mod (fun ys => ql3 k ys Ks) (nthK Ks) q5 q8 q16 q92 := by
  obtain ⟨_, _, _, _, _, _, _, _, _, _, eq, hm, h5, h0, hi, hk, k1, k0⟩ := h
  simp only [List.cons.injEq, LD.n.injEq, LD.b.injEq, and_true] at eq
  obtain ⟨rfl, rfl, rfl, rfl, rfl, rfl, rfl, rfl, rfl, rfl⟩ := eq
  refine Eq.mpr (e3 ..) ?_
  have hlen : mod.len = mod.es.length := rfl
  refine bifD (fun hcc => ⟨decI h0 hcc, ?_⟩) fun hcc => ?_
  · have hcc' : i < (mod.len : Int) := hcc
    obtain ⟨s, b, l, h, he⟩ := ent hw (j := i.toNat) (by omega)
    have hg := at_f he
    obtain ⟨f0, f1, f2, f3⟩ := fAll hg
    have ei : IntKind.i64.wrap (i + 1) = i + 1 := i64_w (by omega) (by omega)
    have g1 : ((mod.es.getD i.toNat .nul).f 1).bo = b := by rw [hg]; rfl
    have g2 : ((mod.es.getD i.toNat .nul).f 2).i = l := by rw [hg]; rfl
    have g3 : ((mod.es.getD i.toNat .nul).f 3).i = h := by rw [hg]; rfl
    rw [f0, f1, f2, f3, g1, g2, g3, hg, ei]
    refine bifD (fun _ => k1 mod) fun hs => ⟨decI h0 hcc, ?_⟩
    have hs' : s.length ≤ 20 := by have : ¬ (20 : Int) < (s.length : Int) := hs; omega
    refine u5 (fun hb hl => ?_) fun _ => k1 mod
    refine bifT ⟨⟨by omega, by omega⟩, decI h0 hcc, u5 (fun _ _ => ?_) fun hn => absurd ⟨hb, hl⟩ hn⟩
    refine ⟨⟨rfl, rfl⟩, decI h0 hcc, ?_, ?_⟩
    · intro hz
      have := congrArg List.length hz
      rw [List.length_set] at this
      simp only [List.length_nil] at this
      omega
    · intro a c _
      refine ⟨_, _, _, _, _, _, _, _, _, _, rfl, fun j hj => ?_, ?_, by omega, ?_, ?_, k1, k0⟩
      · show ∃ (s' : Str) (l' h' : Int), (mod.es.set i.toNat (.t [.s s, .b true, .n l, .n h]))[j]? = some (ivl s' l' h') ∧ s'.length ≤ 20 ∧ l' ≤ h'
        rw [List.getElem?_set]
        by_cases hji : i.toNat = j
        · rw [if_pos hji, if_pos (by omega)]; exact ⟨s, l, h, rfl, hs', hl⟩
        · rw [if_neg hji]; exact hm j (by omega)
      · show (mod.es.set _ _).length ≤ 5; rw [List.length_set]; omega
      · show _ ≤ (((mod.es.set _ _).length : Nat) : Int); rw [List.length_set]; omega
      · show ((((mod.es.set _ _).length : Nat) : Int) - (i + 1)).toNat < k; rw [List.length_set]; omega
  · have hcc' : ¬ i < (mod.len : Int) := hcc
    have : i.toNat = mod.len := by omega
    rw [this] at hm
    exact k0 mod hm h5
end Go.Proofs.YtfaieigeojiiiaaGreat
set_option linter.unusedVariables false
set_option linter.unusedSimpArgs false
set_option maxRecDepth 100000
noncomputable section
namespace Go.Proofs.YtfaieigeojiiiaaGreat
open Go Go.Sh Go.Va
/-- Contracts by any limit. -/
def qq3 : QF := fun xs Ks => ∃ k, ql3 k xs Ks
def qq24 : QF := fun xs Ks => ∃ k, ql24 k xs Ks
def qq94 : QF := fun xs Ks => ∃ k, ql94 k xs Ks
def qq135 : QF := fun xs Ks => ∃ k, ql135 k xs Ks
theorem u3 {lo hi wr rl rh : Int} {al mod : LD} {en so : Bool} {f : TelK [.i .i64, .i .i64, .i .u8, .l 1, .b, .b, .i .i64, .i .i64, .l 0]} {g : TelK [.l 1, .b, .b, .i .i64, .i .i64, .l 0]} (h5 : (decide (5 < (Int.ofNat mod.len))) = false) (hf : ∀ mod' : LD, NMi mod' mod'.len → mod'.len ≤ 5 → f lo hi wr al en so rl rh mod') (hg : ∀ mod', g al en so rl rh mod') :
    qq3 [.n lo, .n hi, .n wr, .n (0 : Int), al, .b en, .b so, .n rl, .n rh, mod] [apK [.i .i64, .i .i64, .i .u8, .l 1, .b, .b, .i .i64, .i .i64, .l 0] f, apK [.l 1, .b, .b, .i .i64, .i .i64, .l 0] g] := by
  have h : ¬ (5 : Int) < (mod.len : Int) := of_decide_eq_false h5
  exact ⟨_, _, _, _, _, _, _, _, _, _, _, rfl, fun j hj => absurd hj (Nat.not_lt_zero _), by omega, by omega, by omega, Nat.lt_succ_self _, fun mod' _ => hg mod', fun mod' h1 h2 _ => hf mod' h1 h2⟩
section
variable {ai : Addr} {ci : Nat} {lc hc ld hd lr hr lx hx : Int} {p cells arrays sigs sums al writes alarms s3 mod : LD} {k5 en so : Bool} {w : List LD} {l h s0 s4 : Int} {s1 s2 : Str} {rl rh : Int}
theorem u135 {f : TelK [.l 0, .l 3, .l 2, .l 4, .l 6, .l 7, .b, .r 2]} (hm : NMi mod mod.len) (h5 : mod.len ≤ 5) (hp : noP p) (k : ∀ a c p' w', noP p' → f (L4 a c (ch [99] mod 0 lc hc).1 (ch [99] mod 0 lc hc).2 (ch [100] mod 0 ld hd).1 (ch [100] mod 0 ld hd).2 lr hr lx hx) p' cells arrays sigs sums k5 w') :
    qq135 [mod, .n (Int.ofNat mod.len), .n (0 : Int), L4 ai ci lc hc ld hd lr hr lx hx, p, cells, arrays, sigs, sums, .b k5, .t []] [apK [.l 0, .l 3, .l 2, .l 4, .l 6, .l 7, .b, .r 2] f] :=
  ⟨_, _, _, _, _, _, _, _, _, _, _, _, _, _, _, _, _, _, _, _, _, rfl, hm, h5, rfl, by omega, by show (0 : Int) ≤ (mod.len : Int); omega, Nat.lt_succ_self _, hp, by simp, fun a c p' w' hp _ => k a c p' w' hp⟩
theorem u94 {f : TelK [.l 0, .l 3, .l 2, .l 4, .l 6, .l 7, .l 8, .l 2, .i .i64, .s, .s, .l 9, .i .i64, .l 1, .b, .b, .i .i64, .i .i64, .l 0]} (hm : NMi mod mod.len) (h5 : mod.len ≤ 5) (k : ∀ a c w', f (L4 a c (ch [99] mod 0 lc hc).1 (ch [99] mod 0 lc hc).2 (ch [100] mod 0 ld hd).1 (ch [100] mod 0 ld hd).2 lr hr lx hx) p cells arrays sigs sums alarms w' s0 s1 s2 s3 s4 al en so rl rh mod) :
    qq94 [.n (0 : Int), L4 ai ci lc hc ld hd lr hr lx hx, p, cells, arrays, sigs, sums, alarms, .nul, .n s0, .s s1, .s s2, s3, .n s4, al, .b en, .b so, .n rl, .n rh, mod] [apK [.l 0, .l 3, .l 2, .l 4, .l 6, .l 7, .l 8, .l 2, .i .i64, .s, .s, .l 9, .i .i64, .l 1, .b, .b, .i .i64, .i .i64, .l 0] f] :=
  ⟨_, _, _, _, _, _, _, _, _, _, _, _, _, _, _, _, _, _, _, _, _, _, _, _, _, _, _, _, _, _, rfl, hm, h5, by omega, by omega, Nat.lt_succ_self _, Int.le_refl _, fun a c w' _ => k a c w'⟩
theorem u52f {f : TelK [.b, .l 0, .l 3, .l 2, .l 4, .l 6, .l 7, .b, .r 2]} (hp : noP p) (k : f false .nul .nul cells arrays sigs sums k5 w) :
    q52 [.s (List.map UInt8.ofNat [120]), .b false, .n (0 : Int), .n (0 : Int), L4 ai ci lc hc ld hd lr hr lx hx, p, cells, arrays, sigs, sums, .b k5, .t w] [apK [.b, .l 0, .l 3, .l 2, .l 4, .l 6, .l 7, .b, .r 2] f] :=
  ⟨_, _, _, _, _, _, _, _, _, _, _, _, _, _, _, _, _, _, _, _, rfl, hp, fun _ _ => k, fun h => nomatch h⟩
theorem u52g {f : TelK [.b, .l 0, .l 3, .l 2, .l 4, .l 6, .l 7, .b, .r 2]} (hp : noP p) (hr' : (decide (h < l)) = false) (k : ∀ a c p', noP p' → f true (L4 a c lc hc ld hd lr hr l h) p' cells arrays sigs sums k5 w) :
    q52 [.s (List.map UInt8.ofNat [120]), .b true, .n l, .n h, L4 ai ci lc hc ld hd lr hr lx hx, p, cells, arrays, sigs, sums, .b k5, .t w] [apK [.b, .l 0, .l 3, .l 2, .l 4, .l 6, .l 7, .b, .r 2] f] :=
  ⟨_, _, _, _, _, _, _, _, _, _, _, _, _, _, _, _, _, _, _, _, rfl, hp, fun hn => absurd ⟨rfl, by have := of_decide_eq_false hr'; omega⟩ hn, fun _ _ a c p' hp' _ => k a c p' hp'⟩
theorem u85f {f : TelK [.b, .l 0, .l 3, .l 2, .l 4, .l 6, .l 7, .l 8, .l 2]} (k : f false .nul .nul cells arrays sigs sums al writes) :
    q85 [.s (List.map UInt8.ofNat [120]), .b false, .n (0 : Int), .n (0 : Int), L4 ai ci lc hc ld hd lr hr lx hx, p, cells, arrays, sigs, sums, al, writes] [apK [.b, .l 0, .l 3, .l 2, .l 4, .l 6, .l 7, .l 8, .l 2] f] :=
  ⟨_, _, _, _, _, _, _, _, _, _, _, _, _, _, _, _, _, _, _, _, rfl, fun _ _ => k, fun h => nomatch h⟩
theorem u85g {f : TelK [.b, .l 0, .l 3, .l 2, .l 4, .l 6, .l 7, .l 8, .l 2]} (hr' : (decide (h < l)) = false) (k : ∀ a c, f true (L4 a c lc hc ld hd lr hr l h) p cells arrays sigs sums al writes) :
    q85 [.s (List.map UInt8.ofNat [120]), .b true, .n l, .n h, L4 ai ci lc hc ld hd lr hr lx hx, p, cells, arrays, sigs, sums, al, writes] [apK [.b, .l 0, .l 3, .l 2, .l 4, .l 6, .l 7, .l 8, .l 2] f] :=
  ⟨_, _, _, _, _, _, _, _, _, _, _, _, _, _, _, _, _, _, _, _, rfl, fun hn => absurd ⟨rfl, by have := of_decide_eq_false hr'; omega⟩ hn, fun _ _ a c _ => k a c⟩
theorem u79 {f : TelK [.l 0, .l 3]} (hp : noP p) (k : ∀ a c p', noP p' → f (L4 a c lc hc ld hd lr hr lx hx) p') : q79 [.b true, L4 ai ci lc hc ld hd lr hr lx hx, p] [apK [.l 0, .l 3] f] :=
  ⟨_, _, _, _, _, _, _, _, _, _, _, rfl, hp, fun a c p' hp' _ => k a c p' hp'⟩
theorem u12 {x y : LD} {f : TelK [.b]} (hl : LikeM x y) (k : f true) : q12 [x, y] [apK [.b] f] := ⟨x, y, rfl, hl, fun _ => k⟩
theorem u13 {x y : LD} {f : TelK [.b]} (hl : LikeA x y) (k : f true) : q13 [x, y] [apK [.b] f] := ⟨x, y, rfl, hl, fun _ => k⟩
theorem u24n {mm ag nx ints : LD} {kd sk at_ : Int} {x y : Str} {hd_ sm : Bool} {f : TelK [.l 11, .i .i64, .i .i64, .s, .s, .l 9, .i .i64, .l 8, .b, .b, .l 0, .l 3, .l 2, .l 4, .l 6, .l 7, .l 8, .l 2, .r 1]} (k : f mm kd sk x y ag at_ nx hd_ sm ints p cells arrays sigs sums .nul writes []) :
    qq24 [mm, .n (0 : Int), .n kd, .n sk, .s x, .s y, ag, .n at_, nx, .b hd_, .b sm, ints, p, cells, arrays, sigs, sums, .nul, writes, .t []] [apK [.l 11, .i .i64, .i .i64, .s, .s, .l 9, .i .i64, .l 8, .b, .b, .l 0, .l 3, .l 2, .l 4, .l 6, .l 7, .l 8, .l 2, .r 1] f] :=
  ⟨_, _, _, _, _, _, _, _, _, _, _, _, _, _, _, _, _, _, _, _, _, rfl, .inl rfl, Int.le_refl _, Nat.lt_succ_self _, rfl, Int.le_refl _, fun j hj => absurd hj (Nat.not_lt_zero _), fun w' hw' _ => by subst hw'; exact k⟩
theorem u24l {mm ag nx ints : LD} {kd sk at_ ka : Int} {aa : Addr} {ca : Nat} {x y : Str} {hd_ sm : Bool} {f : TelK [.l 11, .i .i64, .i .i64, .s, .s, .l 9, .i .i64, .l 8, .b, .b, .l 0, .l 3, .l 2, .l 4, .l 6, .l 7, .l 8, .l 2, .r 1]} (k : f mm kd sk x y ag at_ nx hd_ sm ints p cells arrays sigs sums (.l aa ca [.t [.n ka]]) writes [.t [.n at_, .n ka]]) :
    qq24 [mm, .n (0 : Int), .n kd, .n sk, .s x, .s y, ag, .n at_, nx, .b hd_, .b sm, ints, p, cells, arrays, sigs, sums, .l aa ca [.t [.n ka]], writes, .t []] [apK [.l 11, .i .i64, .i .i64, .s, .s, .l 9, .i .i64, .l 8, .b, .b, .l 0, .l 3, .l 2, .l 4, .l 6, .l 7, .l 8, .l 2, .r 1] f] :=
  ⟨_, _, _, _, _, _, _, _, _, _, _, _, _, _, _, _, _, _, _, _, _, rfl, .inr ⟨_, _, _, rfl⟩, Int.le_refl _, Nat.lt_succ_self _, rfl, by show (0 : Int) ≤ 1; omega, fun j hj => absurd hj (Nat.not_lt_zero _), fun w' hw' _ => by subst hw'; exact k⟩
end
end Go.Proofs.YtfaieigeojiiiaaGreat
