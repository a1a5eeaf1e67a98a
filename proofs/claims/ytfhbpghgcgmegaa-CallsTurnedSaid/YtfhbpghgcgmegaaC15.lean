/- Names of one letter; facts about components that are put together; the chapter's example. -/
import Derived.Test.YtfhbpghgcgmegaaC14
set_option linter.unusedVariables false
namespace Go.Proofs.Ytfhbpghgcgmegaa
open Go Go.Sh Go.Proofs

/-- The i-th name. -/
def nmS (i : Nat) : Str := [UInt8.ofNat (97 + i)]
theorem nmS_inj {i j : Nat} (hi : i < 100) (hj : j < 100) (h : nmS i = nmS j) : i = j := by
  simp only [nmS, List.cons.injEq, and_true] at h
  have h1 := congrArg UInt8.toNat h
  simp only [UInt8.toNat_ofNat'] at h1
  omega
theorem u8_wrap (n : Nat) (h : n < 256) : IntKind.u8.wrap (n : Int) = (n : Int) := IntWalk.u8_in _ (by omega)
/-- One letter as a string. -/
theorem oName {i : Nat} {h0 h : Heap} {L : List HP} {K : Value → Heap → Prop} (hi : i < 100) (s : St h0 h L) (g : ∀ h', Ext h h' → St h0 h' L → K (str (nmS i)) h') :
    oBuildSlice Try.prog 31 1 #[(0, .int .u8 ((97 + i : Nat) : Int))] h fun t h' => oConvX Try.prog 31 9 t h' K := by
  refine oBuild1o (St.nil h) rfl rfl fun t h' s' => ?_
  have hr := s'.row
  have e : [Value.int .u8 ((97 + i : Nat) : Int)] = bytesV (nmS i) := by
    simp only [bytesV, nmS, List.map_cons, List.map_nil, UInt8.toNat_ofNat']
    congr 2
    omega
  refine oConvX_bytes (l := nmS i) hr.1 (by rw [← e]; exact hr.2.2) (g h' s'.ext ?_)
  exact (s.call s'.dropAll)
theorem oNameQ {i : Nat} {h0 h : Heap} {L : List HP} {K : Value → Heap → Prop} (hi : i < 100) (s : St h0 h L) (g : ∀ h', Ext h h' → St h0 h' L → K (str (nmS i)) h') :
    oBuildSlice Try.prog 31 1 #[(0, .int .u8 ((97 + i : Nat) : Int))] h fun t h' => Ext h h' ∧ oConvQ Try.prog 31 9 t (Ext h') fun x => K x h' := by
  refine oBuild1o (St.nil h) rfl rfl fun t h' s' => ⟨s'.ext, ?_⟩
  have hr := s'.row
  have e : [Value.int .u8 ((97 + i : Nat) : Int)] = bytesV (nmS i) := by
    simp only [bytesV, nmS, List.map_cons, List.map_nil, UInt8.toNat_ofNat']
    congr 2
    omega
  refine oConvQ_bytes (l := nmS i) hr.1 (fun h2 he => by rw [← e]; exact hr.2.2.ext he) (g h' s'.ext ?_)
  exact (s.call s'.dropAll)

theorem ofOk_id {E : Nat → Nat → Prop} {n : Nat} (f : Nat → Nat) (hf : ∀ i j, E i j → i = j ∨ f j < f i) : OfOk E n n (List.range n) := by
  have key : ∀ i j, Rch E i j → i = j ∨ f j < f i := fun i j h => by
    induction h with
    | refl => exact .inl rfl
    | tail h' e ih =>
      rename_i b c
      rcases hf b c e with rfl | h2
      · exact ih
      · rcases ih with rfl | h3
        · exact .inr h2
        · exact .inr (by omega)
  have hget : ∀ i a : Nat, (List.range n)[i]? = some a → i = a ∧ a < n := fun i a h => by
    have hl := (List.getElem?_eq_some_iff.1 h).1
    rw [List.length_range] at hl
    rw [List.getElem?_range hl] at h
    simp only [Option.some.injEq] at h
    exact ⟨h, h ▸ hl⟩
  refine ⟨by simp, fun i j a b hi hj => ?_, fun a ha => List.mem_range.1 ha, fun i a hi c hc => ?_, fun c hc => List.mem_range.2 hc⟩
  · obtain ⟨rfl, _⟩ := hget i a hi
    obtain ⟨rfl, _⟩ := hget j b hj
    refine ⟨fun h => h ▸ Tog.refl _, fun h => ?_⟩
    rcases key _ _ h.1 with h1 | h1
    · exact h1
    · rcases key _ _ h.2 with h2 | h2
      · exact h2.symm
      · omega
  · obtain ⟨rfl, h1⟩ := hget i a hi
    exact ⟨c, hc, List.getElem?_range (by omega)⟩
theorem arrOk_of {E : Nat → Nat → Prop} {m : Nat} {l : List Nat} (h1 : ∀ v, v ∈ l ↔ v < m) (h2 : l.Nodup)
    (h3 : ∀ k c : Nat, l[k]? = some c → (∀ d, E c d → d ∈ l.take k) ∧ ∀ d, d < c → d ∉ l.take k → ∃ e, E d e ∧ e ∉ l.take k) : ArrOk E m l := by
  have hp : ∀ pre c post, l = pre ++ c :: post → l[pre.length]? = some c ∧ l.take pre.length = pre := fun pre c post h => by
    rw [h]; simp
  refine ⟨h1, h2, fun pre c post h d hd => ?_, fun pre c post h d hd hn => ?_⟩
  · obtain ⟨h4, h5⟩ := hp pre c post h
    have := (h3 _ _ h4).1 d hd
    rwa [h5] at this
  · obtain ⟨h4, h5⟩ := hp pre c post h
    have := (h3 _ _ h4).2 d hd
    rw [h5] at this
    exact this hn
/-- There is just one row of components. -/
theorem compsOf_eq {e : List (Str × List Str)} {cs : List (List Str)} (h : CompsOf e cs) {K : List Str} (hK : keysOf e = K) {E : Nat → Nat → Prop} (hE : ∀ i j, Edg (nums e K) i j ↔ E i j) {of l : List Nat} {m : Nat}
    (o : OfOk E K.length m of) (a : ArrOk (CEdg E of) m l) : cs = l.map (names K of) := by
  obtain ⟨of', m', l', o', a', rfl⟩ := h
  rw [hK] at o' a'
  rw [hK]
  have hr : ∀ i j, Rch (Edg (nums e K)) i j ↔ Rch E i j := fun i j => ⟨fun h => h.mono fun a b => (hE a b).1, fun h => h.mono fun a b => (hE a b).2⟩
  obtain ⟨rfl, rfl⟩ := o'.unique o fun i j _ _ => by unfold Tog; rw [hr, hr]
  have : ∀ x y, CEdg (Edg (nums e K)) of' x y ↔ CEdg E of' x y := fun x y =>
    ⟨fun ⟨i, j, h1, h2⟩ => ⟨i, j, (hE i j).1 h1, h2⟩, fun ⟨i, j, h1, h2⟩ => ⟨i, j, (hE i j).2 h1, h2⟩⟩
  rw [(a'.congr this).unique a]

/-! The example: f calls g, g calls g, h calls nothing. -/
def exm : List (Str × List Str) := [([102], [[103]]), ([103], [[103]]), ([104], [])]
def exE (i j : Nat) : Prop := (i = 0 ∨ i = 1) ∧ j = 1
theorem exm_keys : keysOf exm = [[102], [103], [104]] := by decide
theorem exm_nums : nums exm [[102], [103], [104]] = [[1], [1], []] := by decide
theorem exm_edg (i j : Nat) : Edg (nums exm [[102], [103], [104]]) i j ↔ exE i j := by
  rw [exm_nums]
  unfold Edg exE
  constructor
  · rintro ⟨l, h1, h2⟩
    match i, h1 with
    | 0, h1 => simp at h1; subst h1; simpa using h2
    | 1, h1 => simp at h1; subst h1; simpa using h2
    | 2, h1 => simp at h1; subst h1; simp at h2
    | i + 3, h1 => simp at h1
  · rintro ⟨rfl | rfl, rfl⟩ <;> exact ⟨[1], rfl, by simp⟩
theorem exm_of : OfOk exE 3 3 (List.range 3) := ofOk_id (fun i => if i = 0 then 1 else 0) fun i j h => by
  obtain ⟨rfl | rfl, rfl⟩ := h
  · exact .inr (by decide)
  · exact .inl rfl
theorem exm_arr : ArrOk (CEdg exE (List.range 3)) 3 [1, 0, 2] := by
  have hce : ∀ c d, CEdg exE (List.range 3) c d ↔ c = 0 ∧ d = 1 := fun c d => by
    constructor
    · rintro ⟨i, j, ⟨rfl | rfl, rfl⟩, h1, h2, h3⟩
      · simp at h1 h2
        exact ⟨h1.symm, h2.symm⟩
      · simp at h1 h2
        omega
    · rintro ⟨rfl, rfl⟩
      exact ⟨0, 1, ⟨.inl rfl, rfl⟩, rfl, rfl, by decide⟩
  refine arrOk_of (fun v => ?_) (by decide) fun k c hk => ?_
  · simp; omega
  · simp only [hce]
    match k, hk with
    | 0, hk =>
      simp at hk; subst hk
      refine ⟨fun d h => by omega, fun d hd _ => ⟨1, by omega, by simp⟩⟩
    | 1, hk =>
      simp at hk; subst hk
      refine ⟨fun d h => by simp [h.2], fun d hd => by omega⟩
    | 2, hk =>
      simp at hk; subst hk
      refine ⟨fun d h => by omega, fun d hd hn => ?_⟩
      simp at hn; omega
    | k + 3, hk => simp at hk
theorem exm_comps {cs : List (List Str)} (h : CompsOf exm cs) : cs = [[[103]], [[102]], [[104]]] := by
  rw [compsOf_eq h exm_keys exm_edg exm_of exm_arr]
  decide
theorem exm_needs {l : List Str} (h : RchOf (Stp exm exm) [102] l) : l = [[103]] := by
  have hs : ∀ x, Stp exm exm [102] x ↔ x = [103] := fun x => by
    unfold Stp
    have : (get exm [102]).getD [] = [[103]] := by decide
    rw [this]
    simp [exm]
    exact fun h => .inr (.inl h)
  have hs2 : ∀ x, Stp exm exm [103] x ↔ x = [103] := fun x => by
    unfold Stp
    have : (get exm [103]).getD [] = [[103]] := by decide
    rw [this]
    simp [exm]
    exact fun h => .inr (.inl h)
  have hr : ∀ x, Rch (Stp exm exm) [103] x → x = [103] := fun x hx => by
    induction hx with
    | refl => rfl
    | tail _ e ih => rw [ih] at e; exact (hs2 _).1 e
  refine h.unique (F := fun _ x => x = [103]) (m := [[103]]) ⟨by simp [SortS], by simp, fun x => ?_⟩ fun x => ?_
  · constructor
    · intro hx; exact ⟨[103], rfl, by simp at hx; rw [hx]; exact .refl _⟩
    · rintro ⟨b, rfl, hb⟩
      have : ∀ x, Rch (fun (_ x : Str) => x = [103]) [103] x → x = [103] := fun x hx => by
        cases hx with
        | refl => rfl
        | tail _ e => exact e
      simp [this x hb]
  · constructor
    · rintro ⟨b, hb, hbx⟩
      rw [(hs b).1 hb] at hbx
      rw [hr x hbx]
      exact ⟨[103], rfl, .refl _⟩
    · rintro ⟨b, rfl, hb⟩
      have : x = [103] := by
        cases hb with
        | refl => rfl
        | tail _ e => exact e
      rw [this]
      exact ⟨[103], (hs _).2 rfl, .refl _⟩
theorem exm_users {l : List Str} (h : UsersOf exm [103] l) : l = [[102], [103]] := by
  have hk : ([103] : Str) ∈ exm.map (·.1) := by decide
  rcases h with h | ⟨_, h⟩
  · exact absurd hk h.1
  · have hg : ∀ b : Str, [103] ∈ (get exm b).getD [] ↔ b = [102] ∨ b = [103] := fun b => by
      unfold exm Sh.get Sh.get Sh.get Sh.get
      by_cases h1 : [102] = b
      · subst h1; simp
      · rw [if_neg h1]
        by_cases h2 : [103] = b
        · subst h2; simp
        · rw [if_neg h2]
          have h1' : ¬ b = [102] := fun e => h1 e.symm
          have h2' : ¬ b = [103] := fun e => h2 e.symm
          by_cases h3 : [104] = b
          · subst h3; simp
          · simp [h3, h1', h2']
    have hb : ∀ b, Bk exm [103] b ↔ b = [102] ∨ b = [103] := fun b => by
      unfold Bk
      rw [hg]
      constructor
      · exact fun h => h.1
      · rintro (rfl | rfl)
        · exact ⟨.inl rfl, by decide⟩
        · exact ⟨.inr rfl, by decide⟩
    have hb2 : ∀ b, ¬ Bk exm [102] b := fun b hb => by
      obtain ⟨h1, h2⟩ := hb
      simp [exm] at h2
      rcases h2 with rfl | rfl | rfl <;> revert h1 <;> decide
    have hr : ∀ x, Rch (Bk exm) [103] x → x = [102] ∨ x = [103] := fun x hx => by
      induction hx with
      | refl => exact .inr rfl
      | tail _ e ih =>
        rcases ih with rfl | rfl
        · exact absurd e (hb2 _)
        · exact (hb _).1 e
    have hm : ∀ x, x ∈ l ↔ x = [102] ∨ x = [103] := fun x => by
      rw [h.2.2]
      constructor
      · rintro ⟨b, h1, h2⟩
        rcases (hb b).1 h1 with rfl | rfl
        · cases Rch.cases h2 with
          | inl h3 => exact .inl h3.symm
          | inr h3 => obtain ⟨c, h4, _⟩ := h3; exact absurd h4 (hb2 _)
        · exact hr x h2
      · rintro (rfl | rfl)
        · exact ⟨_, (hb _).2 (.inl rfl), .refl _⟩
        · exact ⟨_, (hb _).2 (.inr rfl), .refl _⟩
    refine SortS.unique ((List.perm_ext_iff_of_nodup h.2.1 (by decide)).2 fun x => ?_) h.1 (by simp [SortS]; decide)
    rw [hm]
    simp
end Go.Proofs.Ytfhbpghgcgmegaa
