/- From the model's operations to the small ones; those that turn no memory come to what the model's come to. No program. -/
import Derived.Test.YtofcohgonchgfaaGreatVd
set_option linter.unusedVariables false
set_option linter.unusedSimpArgs false
noncomputable section
namespace Go.Va
open Go Go.Sh

/-! ### From the model's operations -/
section cop
variable (P : Program)
def szO (t : TypeId) : Option Nat := match P.info? t with
  | some i => some i.size
  | none => none
def agO (t : TypeId) : Option Bool := match P.underlying t with
  | some d => some (match d with
    | .struct _ => true
    | .array _ _ => true
    | _ => false)
  | none => none
def zrO (t : TypeId) : Option (List FV) := match P.info? t with
  | some i => match i.zero with
    | some z => match ofVL z.cells.toList with
      | some l => bif l.all oneF && Nat.beq l.length i.size then some l else none
      | none => none
    | none => none
  | none => none
def kdO (t : TypeId) : Option KD := match P.underlying t with
  | some .string => some .s
  | some (.int k) => some (.i k)
  | _ => none
def zvO (t : TypeId) : Option FV := match P.info? t with
  | some i => match i.zero with
    | some z => ofV z
    | none => none
  | none => none
def iface? : TypeDesc → Bool
  | .interface _ => true
  | _ => false
def eqT : TypeDesc → Option EqK
  | .bool => some .b
  | .pointer _ => some .p
  | .slice _ => some .s
  | .func _ _ _ => some .f
  | _ => none
def numT : TypeDesc → Bool
  | .int _ => true
  | .string => true
  | _ => false
def stT : TypeDesc → Bool
  | .struct _ => true
  | _ => false
def plT (fs : List Field) : Option (List (Nat × Nat)) := match fs with
  | [] => some []
  | f :: r => match P.info? f.type, plT r with
    | some i, some l => some ((f.offset, i.size) :: l)
    | _, _ => none
def plsL (l : List (Nat × Nat)) : List (Nat × Operand) → Option (List (Nat × Nat))
  | [] => some []
  | (i, _) :: r => match l[i]?, plsL l r with
    | some p, some q => some (p :: q)
    | _, _ => none
def plsK (k : Nat) : List (Nat × Operand) → List (Nat × Nat)
  | [] => []
  | (i, _) :: r => (i * k, k) :: plsK k r
def eqFs (rc : TypeId → Option EqD) : List Field → Option (List (Nat × Nat × Bool × EqD))
  | [] => some []
  | f :: r => (szO P f.type).bind fun k => (agO P f.type).bind fun b => (rc f.type).bind fun d => (eqFs rc r).bind fun l => if f.name = "_" then none else some ((f.offset, k, b, d) :: l)
def eqDT : Nat → TypeId → Option EqD
  | 0, _ => none
  | n + 1, t => match P.underlying t with
    | some (.int _) => some .i
    | some .bool => some .b
    | some .string => some .s
    | some (.struct fs) => if P.stoodInHeld t = true then none else (eqFs P (eqDT n) fs.toList).bind fun l => some (.st l)
    | _ => none
def cop (o : Oper) : Option MOp := match o.op with
  | .move x => (c1 x).bind fun x => some (.mov x)
  | .assign x => (c1 x).bind fun x => some (.mov x)
  | .pick c a b => (c1 c).bind fun c => (c1 a).bind fun a => (c1 b).bind fun b => some (.pick c a b)
  | .nilCheck x => (c1 x).bind fun x => some (.nilc x)
  | .binOp op t x y _ => (P.underlying t).bind fun d => (c1 x).bind fun x => (c1 y).bind fun y =>
      if numT d = true then some (.bin op x y) else if stT d = true then (if P.eqGuardType P.depth t = true then none else (eqDT P 8 t).bind fun e => match op with
        | .eql => some (.eqs false e x y)
        | .neq => some (.eqs true e x y)
        | _ => none) else (eqT d).bind fun kd => match op with
        | .eql => some (.eqb kd false x y)
        | .neq => some (.eqb kd true x y)
        | _ => none
  | .unOp op _ x => (c1 x).bind fun x => match op with
    | .not => some (.not x)
    | .neg => some (.neg x)
    | _ => none
  | .convert s d x => (c1 x).bind fun x => match P.underlying s, P.underlying d with
    | some (.int _), some (.int k) => some (.conv k x)
    | _, _ => none
  | .makeFunc f a b => (c1L a.toList).bind fun a => (c1L b.toList).bind fun b => some (.mkf f a b)
  | .makeInterface t x => (P.underlying t).bind fun d => (c1 x).bind fun x => if iface? d = true then none else some (.ifc t x)
  | .slice t x lo hi mx => (c1 x).bind fun x => (c1O lo).bind fun lo => (c1O hi).bind fun hi => (c1O mx).bind fun mx => match P.underlying t with
    | some (.slice e) => (szO P e).bind fun k => some (.slc k x lo hi mx)
    | some .string => match mx with
      | none => some (.slcS x lo hi)
      | some _ => none
    | some (.array n e) => (szO P e).bind fun k => some (.slcA n k x lo hi mx)
    | _ => none
  | .fieldAddr t x i => (c1 x).bind fun x => match P.underlying t with
    | some (.struct fs) => (fs[i]?).bind fun f => (szO P f.type).bind fun k => if 0 < k then some (.fadr f.offset x) else none
    | _ => none
  | .field t x i => (c1 x).bind fun x => match P.underlying t with
    | some (.struct fs) => (fs[i]?).bind fun f => (szO P f.type).bind fun k => (agO P f.type).bind fun b => some (.fld f.offset k b x)
    | _ => none
  | .indexAddr t x i => (c1 x).bind fun x => (c1 i).bind fun i => match P.underlying t with
    | some (.slice e) => (szO P e).bind fun k => some (.iadr k x i)
    | some (.array n e) => (szO P e).bind fun k => some (.iadrA n k x i)
    | _ => none
  | .index t x i => (c1 x).bind fun x => (c1 i).bind fun i => match P.underlying t with
    | some .string => some (.idxS x i)
    | some (.array n e) => (szO P e).bind fun k => (agO P e).bind fun b => some (.idxA n k b x i)
    | _ => none
  | .extract x i => (c1 x).bind fun x => some (.ext x i)
  | .build t ps => (c1P ps.toList).bind fun l => match P.underlying t with
    | some (.struct fs) => (zrO P t).bind fun z => (plT P fs.toList).bind fun pl => (plsL pl ps.toList).bind fun pl => some (.bld z pl l)
    | some (.array _ e) => (zrO P t).bind fun z => (szO P e).bind fun k => some (.bld z (plsK k ps.toList) l)
    | _ => none
  | .load t x => (c1 x).bind fun x => (agO P t).bind fun b => (szO P t).bind fun k => if 0 < k then some (.ld k b x) else none
  | .alloc t => (zrO P t).bind fun z => some (.alc z)
  | .box t x => (c1 x).bind fun x => some (.box x)
  | .store t a v => (c1 a).bind fun a => (c1 v).bind fun v => (szO P t).bind fun k => some (.st k a v)
  | .buildSlice t n ps => (c1P ps.toList).bind fun l => match P.underlying t with
    | some (.slice e) => (zrO P e).bind fun z => if n * z.length ≤ 16777216 ∧ 0 < n * z.length then some (.bsl z.length n (List.replicate n z).flatten (plsK z.length ps.toList) l) else if n = 0 ∧ ps.toList = [] then some .bs0 else none
    | _ => none
  | .makeSlice t l c => (c1 l).bind fun l => (c1 c).bind fun c => match P.underlying t with
    | some (.slice e) => (zrO P e).bind fun z => (P.info? e).bind fun i => if 0 < z.length then some (.mks z.length i.bytes z l c) else none
    | _ => none
  | .makeMap t r => (c1O r).bind fun r => match P.underlying t with
    | some (.map kt et) => (kdO P kt).bind fun d => some (.mkm d r)
    | _ => none
  | .lookup t x i ok => (c1 x).bind fun x => (c1 i).bind fun i => match P.underlying t with
    | some (.map kt et) => (kdO P kt).bind fun d => (zvO P et).bind fun z => some (.lkp d z ok x i)
    | _ => none
  | .mapUpdate t m k v => (c1 m).bind fun m => (c1 k).bind fun k => (c1 v).bind fun v => match P.underlying t with
    | some (.map kt et) => (kdO P kt).bind fun d => some (.mup d m k v)
    | _ => none
  | .call c => match c.callee with
    | .value f => (c1 f).bind fun f => (c1L c.args.toList).bind fun l => some (.call f l)
    | .builtin .len => match c.args.toList, c.argTypes.toList with
      | [x], [t] => (c1 x).bind fun x => match P.underlying t with
        | some (.slice _) => some (.lenS x)
        | some .string => some (.lenT x)
        | some (.map _ _) => some (.lenM x)
        | _ => none
      | _, _ => none
    | .builtin .min => match c.args.toList with
      | [x, y] => (c1 x).bind fun x => (c1 y).bind fun y => some (.mn x y)
      | _ => none
    | .builtin .max => match c.args.toList with
      | [x, y] => (c1 x).bind fun x => (c1 y).bind fun y => some (.mx x y)
      | _ => none
    | .builtin .append => match c.args.toList, c.argTypes.toList with
      | [s, x], [t, t'] => (c1 s).bind fun s => (c1 x).bind fun x => match P.underlying t with
        | some (.slice e) => (zrO P e).bind fun z => (P.info? e).bind fun i => if 0 < z.length ∧ t = t' then some (.app z.length i.bytes s x) else none
        | _ => none
      | _, _ => none
    | _ => none
  | _ => none
end cop

variable {P : Program}
theorem szO_run {t k : Nat} (h : szO P t = some k) : Siz P t k := ⟨fun w => by
  unfold szO at h
  cases hi : P.info? t with
  | none => rw [hi] at h; cases h
  | some i => rw [hi] at h; simp only [Option.some.injEq] at h; simp [sizeOf, typeInfo, hi, h]⟩
theorem agO_run {t : Nat} {b : Bool} (h : agO P t = some b) : IsA P t b := ⟨fun w => by
  unfold agO at h
  cases hi : P.underlying t with
  | none => rw [hi] at h; cases h
  | some d =>
    rw [hi] at h; simp only [Option.some.injEq] at h
    simp only [isAgg]
    rw [Sem.run_bind, run_underlying hi, Result.andThen_ok]
    cases d <;> simp_all⟩
theorem zrO_inf {t : Nat} {l : List FV} (h : zrO P t = some l) : ∃ i z, P.info? t = some i ∧ i.zero = some z ∧ ofVL z.cells.toList = some l ∧ l.all oneF = true ∧ l.length = i.size ∧ z.cells.size = i.size := by
  unfold zrO at h
  cases hi : P.info? t with
  | none => rw [hi] at h; cases h
  | some i =>
    rw [hi] at h
    simp only at h
    cases hz : i.zero with
    | none => rw [hz] at h; cases h
    | some z =>
      rw [hz] at h
      simp only at h
      cases hl : ofVL z.cells.toList with
      | none => rw [hl] at h; cases h
      | some l' =>
        rw [hl] at h
        simp only at h
        cases hc : l'.all oneF && Nat.beq l'.length i.size with
        | false => rw [hc] at h; cases h
        | true =>
          rw [hc] at h
          simp only [cond_true, Option.some.injEq] at h
          subst h
          simp only [Bool.and_eq_true] at hc
          have h1 := beq_t hc.2
          have h2 := denL_length (ofVL_den ⟨fun _ => none, fun _ => 0, fun _ => false⟩ hl)
          exact ⟨i, z, rfl, hz, hl, hc.1, h1, by rw [← h1, ← h2]; simp⟩
theorem zrO_Inf {t : Nat} {l : List FV} (h : zrO P t = some l) : ∃ i z, Inf P t l.length i.bytes z ∧ P.info? t = some i ∧ ofVL z.cells.toList = some l ∧ l.all oneF = true ∧ z.cells.size = l.length := by
  obtain ⟨i, z, h1, h2, h3, h4, h5, h6⟩ := zrO_inf h
  exact ⟨i, z, ⟨⟨i, h1, h5.symm, rfl, h2⟩⟩, h1, h3, h4, by rw [h6, h5]⟩

/-! ### Numbers, strings, truth -/
theorem inum_str {x : FV} {p : IntKind × Int} (h : inum x = some p) : True := trivial
theorem isSh_or {op : BinOp} (h : isSh op = true) : op = .shl ∨ op = .shr := by cases op <;> first | (left; rfl) | (right; rfl) | cases h
theorem binI_ok {E : Env} {op : BinOp} {t : TypeId} {x y : Operand} {k : IntKind} {a b : Int} {r : FV} (h : binI op k a b = some r) : oBin P op t x y (.int k a) (.int k b) fun v => den E r = some v := by
  cases op <;> simp only [binI, Option.some.injEq] at h <;> try (subst h)
  case add => rw [oBin_add]; simp only [den, wr_eq]; rfl
  case sub => rw [oBin_sub]; simp only [den, wr_eq]; rfl
  case mul => rw [oBin_mul]; simp only [den, wr_eq]; rfl
  case quo =>
    cases hb : ieq b (.ofNat 0) with
    | true => rw [hb] at h; cases h
    | false =>
      rw [hb] at h; simp only [cond_false, Option.some.injEq] at h; subst h
      rw [ieq_eq] at hb
      rw [oBin_quo (by simpa using hb)]; simp only [den, wr_eq]
  case rem =>
    cases hb : ieq b (.ofNat 0) with
    | true => rw [hb] at h; cases h
    | false =>
      rw [hb] at h; simp only [cond_false, Option.some.injEq] at h; subst h
      rw [ieq_eq] at hb
      rw [oBin_rem (by simpa using hb)]; simp only [den]
  case eql => rw [oBin_eql]; simp only [den, ieq_eq]
  case neq => rw [oBin_neq]; simp only [den, ieq_eq, decide_not]
  case lss => rw [oBin_lss]; simp only [den, ilt_eq]
  case leq => rw [oBin_leq]; simp only [den, ilt_eq, ← decide_not]; congr 3; simp
  case gtr => rw [oBin_gtr]; simp only [den, ilt_eq]
  case geq => rw [oBin_geq]; simp only [den, ilt_eq, ← decide_not]; congr 3; simp
  case and => exact (oBin_int (v := .int k (k.wrap (BitVec.ofInt k.bits a &&& BitVec.ofInt k.bits b).toNat)) fun w => by simp [binOp, Op.intBits]).2 rfl
  case or => exact (oBin_int (v := .int k (k.wrap (BitVec.ofInt k.bits a ||| BitVec.ofInt k.bits b).toNat)) fun w => by simp [binOp, Op.intBits]).2 rfl
  case xor => exact (oBin_int (v := .int k (k.wrap (BitVec.ofInt k.bits a ^^^ BitVec.ofInt k.bits b).toNat)) fun w => by simp [binOp, Op.intBits]).2 rfl
  all_goals cases h
theorem binY_ok {E : Env} {op : BinOp} {t : TypeId} {x y : Operand} {k : IntKind} {a b : Int} {r : FV} (h : binY op k a b = some r) : oBin P op t x y (.int k a) (.int k b) fun v => den E r = some v := by
  cases op <;> simp only [binY, Option.some.injEq] at h <;> try (subst h)
  case add => rw [oBin_add]; simp only [den]
  case sub => rw [oBin_sub]; simp only [den]
  case mul => rw [oBin_mul]; simp only [den]
  case quo =>
    cases hb : ieq b (.ofNat 0) with
    | true => rw [hb] at h; cases h
    | false =>
      rw [hb] at h; simp only [cond_false, Option.some.injEq] at h; subst h
      rw [ieq_eq] at hb
      rw [oBin_quo (by simpa using hb)]; simp only [den]
  case rem =>
    cases hb : ieq b (.ofNat 0) with
    | true => rw [hb] at h; cases h
    | false =>
      rw [hb] at h; simp only [cond_false, Option.some.injEq] at h; subst h
      rw [ieq_eq] at hb
      rw [oBin_rem (by simpa using hb)]; simp only [den]
  case eql => rw [oBin_eql]; simp only [den]
  case neq => rw [oBin_neq]; simp only [den]
  case lss => rw [oBin_lss]; simp only [den]
  case leq => rw [oBin_leq]; simp only [den]
  case gtr => rw [oBin_gtr]; simp only [den]
  case geq => rw [oBin_geq]; simp only [den]
  all_goals cases h
theorem shI_ok {E : Env} {op : BinOp} {t : TypeId} {x y : Operand} {k k' : IntKind} {a b : Int} {r : FV} (h : shI op k a b = some r) : oBin P op t x y (.int k a) (.int k' b) fun v => den E r = some v := by
  cases b with
  | negSucc m => simp [shI] at h
  | ofNat m =>
    cases op <;> simp only [shI, Option.some.injEq] at h <;> try (cases h; done)
    case shl =>
      subst h
      refine Sp.of (v := .int k (k.wrap (a * 2 ^ (Nat.min m k.bits)))) (fun w => nv_run ?_) rfl
      have h0 : ¬ (Int.ofNat m < 0) := by simp
      have h1 : (Int.ofNat m).toNat = m := rfl
      simp only [eqGuard, binOp, Op.shift, if_neg h0, h1]
      rfl
    case shr =>
      subst h
      refine Sp.of (v := .int k (a.fdiv (2 ^ (Nat.min m k.bits)))) (fun w => nv_run ?_) rfl
      have h0 : ¬ (Int.ofNat m < 0) := by simp
      have h1 : (Int.ofNat m).toNat = m := rfl
      simp only [eqGuard, binOp, Op.shift, if_neg h0, h1]
      rfl
theorem bytesOk_append {a b : List Nat} (ha : bytesOk a = true) (hb : bytesOk b = true) : bytesOk (a ++ b) = true := by
  simp only [bytesOk, List.all_append, Bool.and_eq_true] at *
  exact ⟨ha, hb⟩
theorem binS_ok {E : Env} {op : BinOp} {t : TypeId} {x y : Operand} {a b : List Nat} {r : FV} (ha : bytesOk a = true) (hb : bytesOk b = true) (h : binS op a b = some r) :
    oBin P op t x y (str (a.map UInt8.ofNat)) (str (b.map UInt8.ofNat)) fun v => den E r = some v := by
  have hl := llt_eq ha hb
  have he := leq_eq ha hb
  have e2 : ∀ a b : List UInt8, (a == b) = decide (a = b) := fun a b => by rw [Bool.eq_iff_iff]; simp
  cases op <;> simp only [binS, Option.some.injEq] at h <;> try (subst h)
  case add =>
    cases hg : bigS a b with
    | false => rw [hg] at h; cases h
    | true =>
      rw [hg] at h; simp only [cond_true, Option.some.injEq] at h; subst h
      have hlen := ble_t hg
      refine (oBin_str (v := str (a.map UInt8.ofNat ++ b.map UInt8.ofNat)) fun w => ?_).2 ?_
      · have h1 : ¬ (((a.length + b.length : Nat) : Int) > IntKind.i64.max) := by
          have : IntKind.i64.max = 9223372036854775807 := by decide
          omega
        have hs : ∀ l : List UInt8, (⟨l.toArray⟩ : ByteArray).size = l.length := fun l => List.size_toArray
        simp only [Op.stringOp, hs, List.length_map, h1, if_false]
        have : ((⟨(a.map UInt8.ofNat).toArray⟩ : ByteArray) ++ ⟨(b.map UInt8.ofNat).toArray⟩) = ⟨(a.map UInt8.ofNat ++ b.map UInt8.ofNat).toArray⟩ := by
          apply ByteArray.ext
          simp [ByteArray.data_append]
        rw [this]
        rfl
      · simp only [den]
        rw [if_pos (bytesOk_append ha hb), List.map_append]
  case eql => rw [oBin_str_eql]; simp only [den, he]
  case neq => rw [oBin_str_neq]; simp only [den, he, decide_not]
  case lss => exact (oBin_str fun w => by simp only [Op.stringOp, toList_mk]; rfl).2 (by simp only [den, hl])
  case leq => exact (oBin_str fun w => by simp only [Op.stringOp, toList_mk, e2]; rfl).2 (by simp only [den, hl, he])
  case gtr => exact (oBin_str fun w => by simp only [Op.stringOp, toList_mk, e2]; rfl).2 (by simp only [den, hl, he])
  case geq => exact (oBin_str fun w => by simp only [Op.stringOp, toList_mk]; rfl).2 (by simp only [den, hl])
  all_goals cases h
theorem den_str {E : Env} {l : List Nat} {v : Value} (h : den E (.str l) = some v) : bytesOk l = true ∧ v = str (l.map UInt8.ofNat) := by
  simp only [den] at h
  by_cases hc : bytesOk l = true
  · rw [if_pos hc] at h; simp only [Option.some.injEq] at h; exact ⟨hc, h.symm⟩
  · rw [if_neg hc] at h; cases h
theorem binF_ok {E : Env} {op : BinOp} {t : TypeId} {x y : Operand} {a b : FV} {u v : Value} {r : FV} (hu : den E a = some u) (hv : den E b = some v) (h : binF op a b = some r) :
    oBin P op t x y u v fun w => den E r = some w := by
  have gen : (match inum a with
      | some (k, m) => match inum b with
        | some (k', n) => bif keq k k' then binY op k m n else none
        | none => none
      | none => none) = some r → oBin P op t x y u v fun w => den E r = some w := fun h => by
    cases ha : inum a with
    | none => rw [ha] at h; cases h
    | some p =>
      obtain ⟨k, m⟩ := p
      cases hb : inum b with
      | none => rw [ha, hb] at h; cases h
      | some q =>
        obtain ⟨k', n⟩ := q
        rw [ha, hb] at h
        simp only at h
        cases hk : keq k k' with
        | false => rw [hk] at h; cases h
        | true =>
          rw [hk] at h
          have := keq_t hk; subst this
          have h1 := inum_den (E := E) ha
          have h2 := inum_den (E := E) hb
          rw [h1] at hu; rw [h2] at hv
          simp only [Option.some.injEq] at hu hv
          subst hu hv
          exact binY_ok h
  cases a with
  | int k m =>
    simp only [den, Option.some.injEq] at hu; subst hu
    cases b with
    | int k' n =>
      simp only [den, Option.some.injEq] at hv; subst hv
      simp only [binF] at h
      cases hs : isSh op with
      | true => rw [hs] at h; exact shI_ok h
      | false =>
        rw [hs] at h
        simp only [cond_false] at h
        cases hk : keq k k' with
        | false => rw [hk] at h; cases h
        | true => rw [hk] at h; have := keq_t hk; subst this; exact binI_ok h
    | _ => exact gen h
  | str l =>
    obtain ⟨h1, rfl⟩ := den_str hu
    cases b with
    | str m =>
      obtain ⟨h2, rfl⟩ := den_str hv
      exact binS_ok h1 h2 h
    | _ => simp [binF] at h
  | _ => exact gen h
theorem den_sl {E : Env} {i off offz len : Nat} {cap : FCap} {v : Value} (h : den E (.sl i off offz len cap) = some v) : ∃ a c, E.p i = some a ∧
    v = .slice (some (a.add (match cap with | .lit _ => off | .hid j => if E.c i = j then offz else off))) len c ∧ (match cap with | .lit d => c = d | .hid j => len + j ≤ E.c i ∧ c = E.c i - j) := by
  simp only [den] at h
  cases hp : E.p i with
  | none => rw [hp] at h; cases h
  | some a =>
    rw [hp] at h
    cases cap with
    | lit c => simp only [Option.some.injEq] at h; exact ⟨a, c, rfl, h.symm, rfl⟩
    | hid j =>
      simp only at h
      by_cases hc : len + j ≤ E.c i
      · rw [if_pos hc] at h; simp only [Option.some.injEq] at h; exact ⟨a, _, rfl, h.symm, hc, rfl⟩
      · rw [if_neg hc] at h; cases h
theorem den_ptr {E : Env} {i o : Nat} {v : Value} (h : den E (.ptr i o) = some v) : ∃ a, E.p i = some a ∧ v = .pointer (some (a.add o)) := by
  simp only [den] at h
  cases hp : E.p i with
  | none => rw [hp] at h; cases h
  | some a => rw [hp] at h; simp only [Option.some.injEq] at h; exact ⟨a, rfl, h.symm⟩
theorem den_fn {E : Env} {f : Fn} {a b : List FV} {v : Value} (h : den E (.fn f a b) = some v) : ∃ x y, denL E a = some x ∧ denL E b = some y ∧ v = .func f x.toArray y.toArray := by
  simp only [den] at h
  cases ha : denL E a with
  | none => rw [ha] at h; cases h
  | some x =>
    cases hb : denL E b with
    | none => rw [ha, hb] at h; cases h
    | some y => rw [ha, hb] at h; simp only [Option.some.injEq] at h; exact ⟨x, y, rfl, rfl, h.symm⟩
end Go.Va
