/- Operations by their kind. No program. -/
import Derived.Test.YtfaieigeojiiiaaGreatSh
set_option linter.unusedVariables false
set_option linter.unusedSimpArgs false
namespace Go.Sh
def isMap (P : Program) (t : TypeId) : Bool := match P.underlying t with
  | some (.map _ _) => true
  | _ => false
def arr (ρ : Operand → Value) (l : Array Operand) : Array Value := (l.toList.map ρ).toArray
def oarr (ρ : Operand → Value) : Option Operand → Option Value
  | some x => some (ρ x)
  | none => none
def prs (ρ : Operand → Value) (l : Array (Nat × Operand)) : Array (Nat × Value) := (l.toList.map fun p => (p.1, ρ p.2)).toArray
def opQ (P : Program) (ρ : Operand → Value) (o : Oper) (D : Heap → Prop) (K : Value → Prop) : Prop := match o.op with
  | .pick a b c => oPick P (ρ a) (ρ b) (ρ c) K
  | .nilCheck x => oNil P (ρ x) K
  | .binOp b t x y _ => oBin P b t x y (ρ x) (ρ y) K
  | .unOp b _ x => oUn P b (ρ x) K
  | .convert s d x => oConv P s d (ρ x) K
  | .makeInterface t x => oIface P t (ρ x) K
  | .makeFunc fn l r => oFunc P fn (arr ρ l) (arr ρ r) K
  | .slice t x lo hi mx => oSlice P t (ρ x) (oarr ρ lo) (oarr ρ hi) (oarr ρ mx) K
  | .fieldAddr t x i => oFieldAddr P t (ρ x) i D K
  | .field t x i => oField P t (ρ x) i K
  | .indexAddr t x i => oIdx P t (ρ x) (ρ i) K
  | .index t x i => oIndex P t (ρ x) (ρ i) K
  | .extract x i => oExt P (ρ x) i K
  | .typeAssert x t a ok => oAssert P (ρ x) t a ok K
  | .build t ps => oBuild P t (prs ρ ps) K
  | .load t x => oLoad P t (ρ x) D K
  | .lookup t x i ok => oLook P t (ρ x) (ρ i) ok D K
  | .entry i => oEntry P (ρ i) D K
  | .call c => match c.callee with
    | .builtin .len => match c.args.toList with
      | [x] => bif isMap P (c.argTypes.getD 0 0) then oLenM P c.argTypes o.type (ρ x) D K else oLen P c.argTypes o.type (ρ x) K
      | _ => False
    | .builtin .cap => match c.args.toList with
      | [x] => oCap P c.argTypes o.type (ρ x) K
      | _ => False
    | .builtin .min => oMin P c.argTypes o.type (arr ρ c.args) K
    | .builtin .max => oMax P c.argTypes o.type (arr ρ c.args) K
    | _ => False
  | _ => False
def opX [Gd] (P : Program) (ρ : Operand → Value) (o : Oper) (h : Heap) (K : Value → Heap → Prop) : Prop := match o.op with
  | .convert s d x => oConvX P s d (ρ x) h K
  | .panic x => oPanic P (ρ x) h K
  | .alloc t => oAlloc P t h K
  | .box t x => oBox P t (ρ x) h K
  | .buildSlice t k ps => oBuildSlice P t k (prs ρ ps) h K
  | .store t a v => oStore P t (ρ a) (ρ v) h K
  | .makeMap t r => oMkMap P t (oarr ρ r) h K
  | .makeSlice t l c => oMkSlice P t (ρ l) (ρ c) h K
  | .mapUpdate t m k v => oUpd P t (ρ m) (ρ k) (ρ v) h K
  | .insert t m k v => oUpd P t (ρ m) (ρ k) (ρ v) h K
  | .mapEntry t m k => oMapEntry P t (ρ m) (ρ k) h K
  | .entryStore t m s v => oEntryStore P t (ρ m) (ρ s) (ρ v) h K
  | .range t x => oRange P t (ρ x) h K
  | .next i s => oNext P (ρ i) s o.type h K
  | .call c => match c.callee with
    | .value f => oCall P (ρ f) (arr ρ c.args) h K
    | .invoke r m => oInvoke P (ρ r) m (arr ρ c.args) h K
    | .builtin .append => oAppend P c.argTypes o.type (arr ρ c.args) h K
    | .builtin .copy => oCopy P c.argTypes o.type (arr ρ c.args) h K
    | .builtin .delete => oDelete P c.argTypes o.type (arr ρ c.args) h K
    | .builtin .clear => oClear P c.argTypes o.type (arr ρ c.args) h K
    | _ => False
  | _ => False
theorem Sp.sq {P : Program} {s : Sem Next} {K : Value → Prop} {D : Heap → Prop} (h : Sp P s K) : Sq P D s K := h.imp fun _ h => ⟨fun w _ => h.1 w, h.2⟩
theorem arr_eq {ρ : Operand → Value} (l : Array Operand) : arr ρ l = l.map ρ := by simp [arr, ← Array.toList_map]
theorem prs_eq {ρ : Operand → Value} (l : Array (Nat × Operand)) : prs ρ l = l.map fun p => (p.1, ρ p.2) := by simp [prs, ← Array.toList_map]
theorem opQ_sound {P : Program} {ρ : Operand → Value} {o : Oper} {D : Heap → Prop} {K : Value → Prop} (h : opQ P ρ o D K) : Sq P D (execOp ρ o) K := by
  obtain ⟨dst, op, type, pos, after, guard⟩ := o
  unfold opQ at h
  cases op <;> simp only at h <;> try exact h.elim
  case pick => exact Sp.sq h
  case nilCheck => exact Sp.sq h
  case binOp => exact Sp.sq h
  case unOp => exact Sp.sq h
  case convert => exact Sp.sq h
  case makeInterface => exact Sp.sq h
  case makeFunc fn l r => rw [arr_eq, arr_eq] at h; simp only [execOp]; exact Sp.sq h
  case slice t x lo hi mx => 
    have : ∀ z : Option Operand, oarr ρ z = z.map ρ := fun z => by cases z <;> rfl
    rw [this, this, this] at h
    simp only [execOp]
    exact Sp.sq h
  case fieldAddr => exact h
  case field => exact Sp.sq h
  case indexAddr => exact Sp.sq h
  case index => exact Sp.sq h
  case extract => exact Sp.sq h
  case typeAssert => exact Sp.sq h
  case build t ps => rw [prs_eq] at h; simp only [execOp]; exact Sp.sq h
  case load => exact h
  case lookup => exact h
  case entry => exact h
  case call c =>
    obtain ⟨cal, args, ats⟩ := c
    have key : ∀ {b : Builtin} {vs : Array Value} {s : Sem Value}, cal = .builtin b → args.map ρ = vs → (builtin b ats type (args.map isConstOpd) vs = nv s) → Sq P D (nv s) K → Sq P D (execOp ρ { dst := dst, op := .call { callee := cal, args := args, argTypes := ats }, type := type, pos := pos, after := after, guard := guard }) K := by
      intro b vs s hc hv hb hk
      subst hc
      have := ex_blt (ρ := ρ) (o := { dst := dst, op := .call { callee := .builtin b, args := args, argTypes := ats }, type := type, pos := pos, after := after, guard := guard }) (b := b) (l := args.toList) (ats := ats) (by simp)
      rw [this]
      simp only [← Array.toList_map, Array.toArray_toList] 
      rw [hv, hb]
      exact hk
    have one : ∀ {x : Operand}, args.toList = [x] → args.map ρ = #[ρ x] := fun {x} hl => by
      have : args = #[x] := by apply Array.ext'; simpa using hl
      subst this; simp
    cases cal with
    | builtin b =>
      cases b <;> simp only at h <;> try exact h.elim
      · split at h
        · rename_i x hl
          exact key (b := .cap) (s := Builtin.cap_ ats type #[ρ x]) rfl (one hl) rfl (Sp.sq h)
        · exact h.elim
      · split at h
        · rename_i x hl
          cases hm : isMap P (ats.getD 0 0) <;> rw [hm] at h
          · exact key (b := .len) (s := Builtin.len_ ats type #[ρ x]) rfl (one hl) rfl (Sp.sq h)
          · exact key (b := .len) (s := Builtin.len_ ats type #[ρ x]) rfl (one hl) rfl h
        · exact h.elim
      · exact key (b := .max) (s := Builtin.max_ ats type (arr ρ args)) rfl (arr_eq args).symm rfl (Sp.sq h)
      · exact key (b := .min) (s := Builtin.min_ ats type (arr ρ args)) rfl (arr_eq args).symm rfl (Sp.sq h)
    | value f => exact h.elim
    | invoke r m => exact h.elim
theorem opX_sound [Gd] {P : Program} {ρ : Operand → Value} {o : Oper} {h : Heap} {K : Value → Heap → Prop} (hx : opX P ρ o h K) : Sx P (execOp ρ o) h K := by
  obtain ⟨dst, op, type, pos, after, guard⟩ := o
  unfold opX at hx
  cases op <;> simp only at hx <;> try exact hx.elim
  case convert => exact hx
  case panic => exact hx
  case alloc => exact hx
  case box => exact hx
  case buildSlice t k ps => rw [prs_eq] at hx; simp only [execOp]; exact hx
  case store => exact hx
  case makeMap t r =>
    cases r <;> exact hx
  case makeSlice => exact hx
  case mapUpdate => exact hx
  case insert => exact hx
  case mapEntry => exact hx
  case entryStore => exact hx
  case range => exact hx
  case next => exact hx
  case call c =>
    obtain ⟨cal, args, ats⟩ := c
    have key : ∀ {b : Builtin} {s : Sem Value}, cal = .builtin b → (builtin b ats type (args.map isConstOpd) (arr ρ args) = nv s) → Sx P (nv s) h K → Sx P (execOp ρ { dst := dst, op := .call { callee := cal, args := args, argTypes := ats }, type := type, pos := pos, after := after, guard := guard }) h K := by
      intro b s hc hb hk
      subst hc
      have := ex_blt (ρ := ρ) (o := { dst := dst, op := .call { callee := .builtin b, args := args, argTypes := ats }, type := type, pos := pos, after := after, guard := guard }) (b := b) (l := args.toList) (ats := ats) (by simp)
      rw [this]
      rw [show (List.map isConstOpd args.toList).toArray = args.map isConstOpd by simp [← Array.toList_map], show (List.map ρ args.toList).toArray = arr ρ args from rfl, hb]
      exact hk
    cases cal with
    | value f =>
      rw [ex_call (f := f) (l := args.toList) (ats := ats) (by simp)]
      exact hx
    | invoke r m =>
      rw [ex_invoke (f := r) (m := m) (l := args.toList) (ats := ats) (by simp)]
      exact hx
    | builtin b =>
      cases b <;> simp only at hx <;> try exact hx.elim
      · exact key (b := .append) (s := Builtin.append_ ats type (arr ρ args)) rfl rfl hx
      · exact key (b := .clear) (s := Builtin.clear_ ats type (arr ρ args)) rfl rfl hx
      · exact key (b := .copy) (s := Builtin.copy_ ats type (arr ρ args)) rfl rfl hx
      · exact key (b := .delete) (s := Builtin.delete_ ats type (arr ρ args)) rfl rfl hx
end Go.Sh
set_option linter.unusedVariables false
set_option linter.unusedSimpArgs false
set_option linter.unusedSectionVars false
namespace Go.Sh
abbrev Vals := Nat → Option Value
def setm (m : Vals) (i : Nat) (v : Value) : Vals := fun j => if j = i then some v else m j
theorem setm_eq (m : Vals) (i : Nat) (v : Value) : setm m i v i = some v := by simp [setm]
theorem setm_ne {m : Vals} {i j : Nat} {v : Value} (h : j ≠ i) : setm m i v j = m j := by simp [setm, h]
/-- The frame: of operations that are done their values; else as it was. -/
structure Agr (ops : Array Oper) (f0 : Nat → Value) (m : Vals) (f : Nat → Value) : Prop where
  done : ∀ (j : Nat) (o : Oper) (d : Nat) (v : Value), ops[j]? = some o → o.dst = some d → m j = some v → f d = v
  rest : ∀ t, (∀ (j : Nat) (o : Oper), ops[j]? = some o → o.dst = some t → m j = none) → f t = f0 t
def depsOf (o : Oper) : List Nat := (o.after.toList.filter fun e => Region.binds .any e).map (·.on)
def doneArr (size n : Nat) : Array Bool := ((List.range size).map fun i => decide (i < n)).toArray
def comB (ops : Array Oper) (n : Nat) : Bool :=
  decide (n < ops.size) && Region.sinkB .any ops n && Region.chainB .any ops n && Region.seqB .any ops (ops.size - n) n (doneArr ops.size n) &&
  (List.range ops.size).all (fun i => (List.range ops.size).all fun j => i == j || match (ops[i]?).bind (·.dst), (ops[j]?).bind (·.dst) with | some a, some b => a != b | _, _ => true) &&
  (List.range n).all (fun i => match ops[i]? with | some o => (depsOf o).all fun j => decide (j < i) | none => true)
section com
variable {P : Program} {ops : Array Oper} {Q : Exit → Act → World → Prop}

theorem com_all (s n N : Nat) [Gd] {f0 : Nat → Value} {w0 : World} {A : Vals → Heap → Prop} {L : Array Bool → Act → World → Prop} (hs : Region.sinkB .any ops n = true) (hc : Region.chainB .any ops n = true) (hn : n < ops.size)
    (hdist : ∀ (i j : Nat) (oi oj : Oper) (d : Nat), ops[i]? = some oi → ops[j]? = some oj → oi.dst = some d → oj.dst = some d → i = j)
    (hinc : ∀ (i : Nat) (o : Oper), i < n → ops[i]? = some o → ∀ j ∈ depsOf o, j < i)
    (spec : ∀ (i : Nat) (o : Oper), ops[i]? = some o → i < n → ∀ (m : Vals) (f : Nat → Value) (w : World), Agr ops f0 m f → A m w.heap → SameW w0 w → m i = none → (∀ j ∈ depsOf o, (m j).isSome) →
      wpOp P ops Q i (fun a' w' => ∃ v, a' = (mk N f).put o.dst v ∧ SameW w0 w' ∧ A (setm m i v) w'.heap) (mk N f) w)
    (hdst : ∀ (i : Nat) (o : Oper) (d : Nat), ops[i]? = some o → o.dst = some d → d < N)
    (fin : ∀ (m : Vals) (f : Nat → Value) (w : World), (∀ i, i < n → (m i).isSome) → Agr ops f0 m f → A m w.heap → SameW w0 w → L (doneArr ops.size n) (mk N f) w) :
    ∀ (fuel : Nat) (listed : Array Bool) (m : Vals) (f : Nat → Value) (w : World), HeadInv .any ops n listed → (∀ j, j < n → listed.getD j false = (m j).isSome) → (∀ j, n ≤ j → m j = none) →
      ((List.range n).countP fun j => !(m j).isSome) = fuel → Agr ops f0 m f → A m w.heap → SameW w0 w →
      wpAnyM P .any ops Q (fun _ => True) n L fuel listed (mk N f) w := by
  intro fuel
  induction fuel with
  | zero =>
    intro listed m f w inv hl hm hcnt hag hA hS
    have hall : ∀ i, i < n → (m i).isSome := by
      intro i hi
      have := List.countP_eq_zero.1 hcnt i (by simpa using hi)
      cases h : m i with
      | none => rw [h] at this; simp at this
      | some v => rfl
    have e : listed = doneArr ops.size n := by
      apply Array.ext
      · simp [inv.size, doneArr]
      · intro i h1 h2
        have hi : i < ops.size := by rw [← inv.size]; exact h1
        rcases Nat.lt_or_ge i n with h | h
        · have := hl i h
          rw [hall i h] at this
          simp only [Array.getD_eq_getD_getElem?, Array.getElem?_eq_getElem h1, Option.getD_some] at this
          simp [doneArr, this, h]
        · have := inv.tail i h hi
          simp only [Array.getD_eq_getD_getElem?, Array.getElem?_eq_getElem h1, Option.getD_some] at this
          simp [doneArr, this, Nat.not_lt.2 h]
    subst e
    exact fin m f w hall hag hA hS
  | succ fuel ih =>
    intro listed m f w inv hl hm hcnt hag hA hS
    -- one is not done
    obtain ⟨i0, hi0, hu0⟩ : ∃ i, i < n ∧ m i = none := by
      have h1 : 0 < (List.range n).countP fun j => !(m j).isSome := by omega
      obtain ⟨i, hi, hx⟩ := List.countP_pos_iff.1 h1
      refine ⟨i, by simpa using hi, ?_⟩
      cases h : m i with
      | none => rfl
      | some v => rw [h] at hx; simp at hx
    have hun0 : listed.getD i0 true = false := getD_in (by rw [inv.size]; omega) (by rw [hl i0 hi0, hu0]; rfl)
    -- the least of those that are not done is ready
    have hex : ∃ i, i ∈ Region.ready .any ops listed := by
      have key : ∀ k, k < n → m k = none → ∃ i, i ∈ Region.ready .any ops listed := by
        intro k
        induction k using Nat.strongRecOn with
        | _ k ihk =>
          intro hk hu
          obtain ⟨o, ho⟩ : ∃ o, ops[k]? = some o := ⟨_, Array.getElem?_eq_getElem (by omega)⟩
          by_cases hd : ∀ j ∈ depsOf o, (m j).isSome
          · refine ⟨k, mem_ready.2 ⟨getD_in (by rw [inv.size]; omega) (by rw [hl k hk, hu]; rfl), o, ho, fun e he hb => ?_⟩⟩
            have hj : e.on ∈ depsOf o := by
              unfold depsOf
              exact List.mem_map.2 ⟨e, List.mem_filter.2 ⟨by simpa using he, hb⟩, rfl⟩
            have hlt := hinc k o hk ho _ hj
            rw [hl e.on (by omega)]
            exact hd _ hj
          · simp only [Classical.not_forall] at hd
            obtain ⟨j, hj, hnj⟩ := hd
            have hlt := hinc k o hk ho _ hj
            exact ihk j hlt (by omega) (by
              cases h : m j with
              | none => rfl
              | some v => rw [h] at hnj; simp at hnj)
      exact key i0 hi0 hu0
    refine ⟨fun h => (by obtain ⟨i, hi⟩ := hex; rw [h] at hi; cases hi), fun i hi => ?_⟩
    have hin : i < n := by
      rcases Nat.lt_or_ge i n with h | h
      · exact h
      · exact absurd hi (tail_waits hs hc hn inv _ i0 rfl hi0 hun0 i h)
    obtain ⟨hunl, o, ho, hall⟩ := mem_ready.1 hi
    have hmi : m i = none := by
      have h1 := getD_both hunl
      rw [hl i hin] at h1
      cases h : m i with
      | none => rfl
      | some v => rw [h] at h1; simp at h1
    have hdeps : ∀ j ∈ depsOf o, (m j).isSome := by
      intro j hj
      obtain ⟨e, he, rfl⟩ := List.mem_map.1 hj
      obtain ⟨he1, he2⟩ := List.mem_filter.1 he
      have := hall e (by simpa using he1) he2
      have hlt := hinc i o hin ho _ hj
      rw [hl e.on (by omega)] at this
      exact this
    refine ⟨hin, wpOp_mono (fun a' w' h => ⟨trivial, ?_⟩) (spec i o ho hin m f w hag hA hS hmi hdeps)⟩
    obtain ⟨v, rfl, hS', hA'⟩ := h
    have hag' : ∃ f', (mk N f).put o.dst v = mk N f' ∧ Agr ops f0 (setm m i v) f' := by
      cases hd : o.dst with
      | none =>
        refine ⟨f, mk_put_none N f v, ⟨fun j oj d x hj hdj hx => ?_, fun t ht => hag.rest t fun j oj hj hdj => ?_⟩⟩
        · by_cases hji : j = i
          · subst hji
            rw [ho] at hj
            simp only [Option.some.injEq] at hj
            subst hj
            rw [hd] at hdj; cases hdj
          · rw [setm_ne hji] at hx
            exact hag.done j oj d x hj hdj hx
        · by_cases hji : j = i
          · subst hji; exact hmi
          · have := ht j oj hj hdj
            rwa [setm_ne hji] at this
      | some d =>
        refine ⟨upd f d v, mk_put N f d v, ⟨fun j oj d' x hj hdj hx => ?_, fun t ht => ?_⟩⟩
        · by_cases hji : j = i
          · subst hji
            rw [ho] at hj
            simp only [Option.some.injEq] at hj
            subst hj
            rw [hd] at hdj
            simp only [Option.some.injEq] at hdj
            subst hdj
            rw [setm_eq] at hx
            simp only [Option.some.injEq] at hx
            subst hx
            simp [upd]
          · rw [setm_ne hji] at hx
            have hne : d' ≠ d := fun e => hji (hdist j i oj o d' hj ho hdj (by rw [hd, e]))
            have : Nat.beq d' d = false := by simpa [← Bool.not_eq_true, Nat.beq_eq] using hne
            simp only [upd, this, cond_false]
            exact hag.done j oj d' x hj hdj hx
        · have hne : t ≠ d := by
            intro e
            have := ht i o ho (by rw [hd, e])
            rw [setm_eq] at this; cases this
          have hb : Nat.beq t d = false := by simpa [← Bool.not_eq_true, Nat.beq_eq] using hne
          simp only [upd, hb, cond_false]
          refine hag.rest t fun j oj hj hdj => ?_
          by_cases hji : j = i
          · subst hji; exact hmi
          · have := ht j oj hj hdj
            rwa [setm_ne hji] at this
    obtain ⟨f', hf', hag'⟩ := hag'
    rw [hf']
    refine ih _ (setm m i v) f' w' (inv.set hi hin) ?_ ?_ ?_ hag' hA' hS'
    · intro j hj
      by_cases hji : j = i
      · subst hji
        rw [setm_eq]
        simp [Array.getD_eq_getD_getElem?, inv.size, show j < ops.size by omega]
      · rw [setm_ne hji, getD_set_ne false (Ne.symm hji)]
        exact hl j hj
    · intro j hj
      rw [setm_ne (by omega)]; exact hm j hj
    · have h1 : ∀ l : List Nat, l.Nodup → i ∈ l → (l.countP fun j => !(m j).isSome) = (l.countP fun j => !(setm m i v j).isSome) + 1 := by
        intro l
        induction l with
        | nil => intro _ h; cases h
        | cons x l ihl =>
          intro hnd hmem
          rw [List.nodup_cons] at hnd
          simp only [List.countP_cons]
          by_cases hx : x = i
          · subst hx
            have h2 : (l.countP fun j => !(m j).isSome) = (l.countP fun j => !(setm m x v j).isSome) := by
              apply List.countP_congr
              intro j hj
              have : j ≠ x := fun e => hnd.1 (e ▸ hj)
              rw [setm_ne this]
            rw [h2, setm_eq, hmi]
            simp
          · have := ihl hnd.2 (by
              rcases List.mem_cons.1 hmem with h | h
              · exact absurd h.symm hx
              · exact h)
            rw [this, setm_ne hx]
            omega
      have := h1 (List.range n) List.nodup_range (by simpa using hin)
      omega

theorem region_com [Gd] {id : Nat} {N : Nat} {f : Nat → Value} {w : World} {l : List Oper} (n : Nat) (hm : P.follows .mixedOrders = true) (hB : comB l.toArray n = true)
    (hN : (l.all fun o => match o.dst with | some d => decide (d < N) | none => true) = true) {A : Vals → Heap → Prop} (h0 : A (fun _ => none) w.heap)
    (spec : ∀ (i : Nat) (o : Oper), l[i]? = some o → i < n → ∀ (m : Vals) (g : Nat → Value) (w' : World), Agr l.toArray f m g → A m w'.heap → SameW w w' → m i = none → (∀ j ∈ depsOf o, (m j).isSome) →
      wpOp P l.toArray Q i (fun a' w'' => ∃ v, a' = (mk N g).put o.dst v ∧ SameW w w'' ∧ A (setm m i v) w''.heap) (mk N g) w')
    (fin : ∀ (m : Vals) (g : Nat → Value) (w' : World), (∀ i, i < n → (m i).isSome) → Agr l.toArray f m g → A m w'.heap → SameW w w' → wpList P l.toArray Q (l.drop n) (mk N g) w') :
    (Code.region id l.toArray true).wp P Q (mk N f) w := by
  simp only [comB, Bool.and_eq_true, decide_eq_true_eq] at hB
  obtain ⟨⟨⟨⟨⟨hn, hs⟩, hc⟩, hseq⟩, hd⟩, hi⟩ := hB
  have hdist : ∀ (i j : Nat) (oi oj : Oper) (d : Nat), l.toArray[i]? = some oi → l.toArray[j]? = some oj → oi.dst = some d → oj.dst = some d → i = j := by
    intro i j oi oj d h1 h2 h3 h4
    have hi' := (Array.getElem?_eq_some_iff.1 h1).1
    have hj' := (Array.getElem?_eq_some_iff.1 h2).1
    have := List.all_eq_true.1 (List.all_eq_true.1 hd i (by simpa using hi')) j (by simpa using hj')
    simp only [h1, h2, Option.bind_some, h3, h4, bne_self_eq_false, Bool.or_false, beq_iff_eq] at this
    exact this
  have hinc : ∀ (i : Nat) (o : Oper), i < n → l.toArray[i]? = some o → ∀ j ∈ depsOf o, j < i := by
    intro i o h1 h2 j hj
    have := List.all_eq_true.1 hi i (by simpa using h1)
    simp only [h2] at this
    simpa using List.all_eq_true.1 this j hj
  have hdst : ∀ (i : Nat) (o : Oper) (d : Nat), l.toArray[i]? = some o → o.dst = some d → d < N := by
    intro i o d h1 h2
    have h3 : o ∈ l := List.mem_of_getElem? (by simpa using h1)
    have := List.all_eq_true.1 hN o h3
    simpa [h2] using this
  have inv0 : HeadInv .any l.toArray n (Array.replicate l.toArray.size false) :=
    ⟨by simp, fun j oj _ hl => (by rw [getD_replicate_false] at hl; cases hl), fun t _ ht => getD_in (by simpa using ht) (getD_replicate_false _ _)⟩
  have hdl : (l.drop n).length = l.toArray.size - n := by simp
  let w1 : World := { w with drawn := w.drawn + 1 }
  have hw1 : SameW w w1 := ⟨rfl, rfl, rfl, fun _ => by first | exact Nat.le_refl _ | exact Nat.le_succ _ | exact Nat.le_add_right _ _⟩
  have H := com_all (P := P) (Q := Q) (ops := l.toArray) l.toArray.size n N (f0 := f) (w0 := w) (A := A) (L := fun listed' a' w' => Region.seqB .any l.toArray (l.toArray.size - n) n listed' = true ∧ wpList P l.toArray Q (l.drop n) a' w')
    hs hc hn hdist hinc (fun i o h1 h2 => spec i o (by simpa using h1) h2) hdst (fun m g w' h1 h2 h3 h4 => ⟨hseq, fin m g w' h1 h2 h3 h4⟩)
    n (Array.replicate l.toArray.size false) (fun _ => none) f w1 inv0 (fun j _ => by rw [getD_replicate_false]; rfl) (fun _ _ => rfl) (by simp [List.countP_eq_length]) ⟨fun _ _ _ _ _ _ h => (by cases h), fun _ _ => rfl⟩ h0 hw1
  refine wp_region_any hm ?_
  have := wpAny_of_M (Q := Q) (g := l.toArray.size - n) (fun listed a' w' hL => by
    have := wpAny_of_seq (md := .any) (Q' := Q) (l.drop n) n listed a' w' (fun j => by simp [List.getElem?_drop]) (by rw [hdl]; exact hL.1) hL.2
    rwa [hdl] at this) _ _ _ _ H
  rw [show n + (l.toArray.size - n) = l.toArray.size by omega] at this
  exact this


end com
end Go.Sh
