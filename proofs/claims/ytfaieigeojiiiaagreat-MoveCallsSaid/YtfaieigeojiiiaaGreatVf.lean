/- From the model's operations to the small ones; those that turn no memory come to what the model's come to. No program. -/
import Derived.Test.YtfaieigeojiiiaaGreatVd
set_option linter.unusedVariables false
set_option linter.unusedSectionVars false
set_option linter.unusedSimpArgs false
noncomputable section
namespace Go.Va
open Go Go.Sh
variable [Vb]

/-! ### From the model's operations -/
section cop
variable (P : Program)
def szO (t : TypeId) : Option Nat := match P.info? t with
  | some i => some i.size
  | none => none
def agO (t : TypeId) : Option Bool := match P.underlying t with
  | some d => some (match d with
    | .struct _ => true
    | .array _ _ => true
    | _ => false)
  | none => none
def zrO (t : TypeId) : Option (List FV) := match P.info? t with
  | some i => match i.zero with
    | some z => match ofVL z.cells.toList with
      | some l => bif l.all oneF && Nat.beq l.length i.size then some l else none
      | none => none
    | none => none
  | none => none
def kdO (t : TypeId) : Option KD := match P.underlying t with
  | some .string => some .s
  | some (.int k) => some (.i k)
  | _ => none
def zvO (t : TypeId) : Option FV := match P.info? t with
  | some i => match i.zero with
    | some z => ofV z
    | none => none
  | none => none
def iface? : TypeDesc → Bool
  | .interface _ => true
  | _ => false
def eqT : TypeDesc → Option EqK
  | .bool => some .b
  | .pointer _ => some .p
  | .slice _ => some .s
  | .func _ _ _ => some .f
  | _ => none
def numT : TypeDesc → Bool
  | .int _ => true
  | .string => true
  | _ => false
def stT : TypeDesc → Bool
  | .struct _ => true
  | _ => false
def plT (fs : List Field) : Option (List (Nat × Nat)) := match fs with
  | [] => some []
  | f :: r => match P.info? f.type, plT r with
    | some i, some l => some ((f.offset, i.size) :: l)
    | _, _ => none
def plsL (l : List (Nat × Nat)) : List (Nat × Operand) → Option (List (Nat × Nat))
  | [] => some []
  | (i, _) :: r => match l[i]?, plsL l r with
    | some p, some q => some (p :: q)
    | _, _ => none
def plsK (k : Nat) : List (Nat × Operand) → List (Nat × Nat)
  | [] => []
  | (i, _) :: r => (i * k, k) :: plsK k r
def eqFs (rc : TypeId → Option EqD) : List Field → Option (List (Nat × Nat × Bool × EqD))
  | [] => some []
  | f :: r => (szO P f.type).bind fun k => (agO P f.type).bind fun b => (rc f.type).bind fun d => (eqFs rc r).bind fun l => if f.name = "_" then none else some ((f.offset, k, b, d) :: l)
def eqDT : Nat → TypeId → Option EqD
  | 0, _ => none
  | n + 1, t => match P.underlying t with
    | some (.int _) => some .i
    | some .bool => some .b
    | some .string => some .s
    | some (.struct fs) => if P.stoodInHeld t = true then none else (eqFs P (eqDT n) fs.toList).bind fun l => some (.st l)
    | _ => none
def invE (name : String) (t : TypeId) : Option IM := match P.info? t with
  | none => none
  | some i => match i.methods.find? (·.name == name) with
    | none => none
    | some m => match m.path.toList with
      | _ :: _ => none
      | [] => match m.func with
        | none => none
        | some p => match P.underlying t with
          | some (.pointer e) => (match p.2 with
            | true => some ⟨t, p.1, false, 0, false⟩
            | false => (agO P e).bind fun b => match b with
              | true => none
              | false => some ⟨t, p.1, true, 1, false⟩)
          | _ => none
def invT (name : String) : List IM := (List.range P.types.size).filterMap (invE P name)
def cop (o : Oper) : Option MOp := match o.op with
  | .move x => (c1 x).bind fun x => some (.mov x)
  | .assign x => (c1 x).bind fun x => some (.mov x)
  | .pick c a b => (c1 c).bind fun c => (c1 a).bind fun a => (c1 b).bind fun b => some (.pick c a b)
  | .nilCheck x => (c1 x).bind fun x => some (.nilc x)
  | .binOp op t x y _ => (P.underlying t).bind fun d => (c1 x).bind fun x => (c1 y).bind fun y =>
      if numT d = true then some (.bin op x y) else if stT d = true then (if P.eqGuardType P.depth t = true then none else (eqDT P 8 t).bind fun e => match op with
        | .eql => some (.eqs false e x y)
        | .neq => some (.eqs true e x y)
        | _ => none) else (eqT d).bind fun kd => match op with
        | .eql => some (.eqb kd false x y)
        | .neq => some (.eqb kd true x y)
        | _ => none
  | .unOp op _ x => (c1 x).bind fun x => match op with
    | .not => some (.not x)
    | .neg => some (.neg x)
    | _ => none
  | .convert s d x => (c1 x).bind fun x => match P.underlying s, P.underlying d with
    | some (.int _), some (.int k) => some (.conv k x)
    | _, _ => none
  | .makeFunc f a b => (c1L a.toList).bind fun a => (c1L b.toList).bind fun b => some (.mkf f a b)
  | .makeInterface t x => (P.underlying t).bind fun d => (c1 x).bind fun x => if iface? d = true then none else some (.ifc t x)
  | .slice t x lo hi mx => (c1 x).bind fun x => (c1O lo).bind fun lo => (c1O hi).bind fun hi => (c1O mx).bind fun mx => match P.underlying t with
    | some (.slice e) => (szO P e).bind fun k => some (.slc k x lo hi mx)
    | some .string => match mx with
      | none => some (.slcS x lo hi)
      | some _ => none
    | some (.array n e) => (szO P e).bind fun k => some (.slcA n k x lo hi mx)
    | _ => none
  | .fieldAddr t x i => (c1 x).bind fun x => match P.underlying t with
    | some (.struct fs) => (fs[i]?).bind fun f => (szO P f.type).bind fun k => if 0 < k then some (.fadr f.offset x) else none
    | _ => none
  | .field t x i => (c1 x).bind fun x => match P.underlying t with
    | some (.struct fs) => (fs[i]?).bind fun f => (szO P f.type).bind fun k => (agO P f.type).bind fun b => some (.fld f.offset k b x)
    | _ => none
  | .indexAddr t x i => (c1 x).bind fun x => (c1 i).bind fun i => match P.underlying t with
    | some (.slice e) => (szO P e).bind fun k => some (.iadr k x i)
    | some (.array n e) => (szO P e).bind fun k => some (.iadrA n k x i)
    | _ => none
  | .index t x i => (c1 x).bind fun x => (c1 i).bind fun i => match P.underlying t with
    | some .string => some (.idxS x i)
    | some (.array n e) => (szO P e).bind fun k => (agO P e).bind fun b => some (.idxA n k b x i)
    | _ => none
  | .extract x i => (c1 x).bind fun x => some (.ext x i)
  | .build t ps => (c1P ps.toList).bind fun l => match P.underlying t with
    | some (.struct fs) => (zrO P t).bind fun z => (plT P fs.toList).bind fun pl => (plsL pl ps.toList).bind fun pl => some (.bld z pl l)
    | some (.array _ e) => (zrO P t).bind fun z => (szO P e).bind fun k => some (.bld z (plsK k ps.toList) l)
    | _ => none
  | .load t x => (c1 x).bind fun x => (agO P t).bind fun b => (szO P t).bind fun k => if 0 < k then some (.ld k b x) else none
  | .alloc t => (zrO P t).bind fun z => some (.alc z)
  | .box t x => (c1 x).bind fun x => some (.box x)
  | .store t a v => (c1 a).bind fun a => (c1 v).bind fun v => (szO P t).bind fun k => some (.st k a v)
  | .buildSlice t n ps => (c1P ps.toList).bind fun l => match P.underlying t with
    | some (.slice e) => (zrO P e).bind fun z => if n * z.length ≤ 16777216 ∧ 0 < n * z.length then some (.bsl z.length n (List.replicate n z).flatten (plsK z.length ps.toList) l) else if n = 0 ∧ ps.toList = [] then some .bs0 else none
    | _ => none
  | .makeSlice t l c => (c1 l).bind fun l => (c1 c).bind fun c => match P.underlying t with
    | some (.slice e) => (zrO P e).bind fun z => (P.info? e).bind fun i => if 0 < z.length then some (.mks z.length i.bytes z l c) else none
    | _ => none
  | .makeMap t r => (c1O r).bind fun r => match P.underlying t with
    | some (.map kt et) => (kdO P kt).bind fun d => some (.mkm d r)
    | _ => none
  | .lookup t x i ok => (c1 x).bind fun x => (c1 i).bind fun i => match P.underlying t with
    | some (.map kt et) => (kdO P kt).bind fun d => (zvO P et).bind fun z => some (.lkp d z ok x i)
    | _ => none
  | .mapUpdate t m k v => (c1 m).bind fun m => (c1 k).bind fun k => (c1 v).bind fun v => match P.underlying t with
    | some (.map kt et) => (kdO P kt).bind fun d => some (.mup d m k v)
    | _ => none
  | .range t x => (c1 x).bind fun x => match P.underlying t with
    | some (.map _ _) => some (.rng x)
    | _ => none
  | .next x s => (c1 x).bind fun x => match s with
    | true => none
    | false => some (.nxt x)
  | .entry x => (c1 x).bind fun x => some (.ent x)
  | .call c => match c.callee with
    | .value f => (c1 f).bind fun f => (c1L c.args.toList).bind fun l => some (.call f l)
    | .builtin .len => match c.args.toList, c.argTypes.toList with
      | [x], [t] => (c1 x).bind fun x => match P.underlying t with
        | some (.slice _) => some (.lenS x)
        | some .string => some (.lenT x)
        | some (.map _ _) => some (.lenM x)
        | _ => none
      | _, _ => none
    | .invoke x name => (c1 x).bind fun x => (c1L c.args.toList).bind fun l => some (.inv (invT P name) x l)
    | .builtin .cap => match c.args.toList, c.argTypes.toList with
      | [x], [t] => (c1 x).bind fun x => match P.underlying t with
        | some (.slice _) => some (.capS x)
        | _ => none
      | _, _ => none
    | .builtin .min => match c.args.toList with
      | [x, y] => (c1 x).bind fun x => (c1 y).bind fun y => some (.mn x y)
      | _ => none
    | .builtin .max => match c.args.toList with
      | [x, y] => (c1 x).bind fun x => (c1 y).bind fun y => some (.mx x y)
      | _ => none
    | .builtin .append => match c.args.toList, c.argTypes.toList with
      | [s, x], [t, t'] => (c1 s).bind fun s => (c1 x).bind fun x => match P.underlying t with
        | some (.slice e) => (zrO P e).bind fun z => (P.info? e).bind fun i => if 0 < z.length ∧ t = t' then some (.app z.length i.bytes s x) else if 0 < z.length then (match P.underlying t' with
          | some (.int _) => some (.apc z.length i.bytes z s x)
          | _ => none) else none
        | _ => none
      | _, _ => none
    | _ => none
  | _ => none
end cop

variable {P : Program}
theorem szO_run {t k : Nat} (h : szO P t = some k) : Siz P t k := ⟨fun w => by
  unfold szO at h
  cases hi : P.info? t with
  | none => rw [hi] at h; cases h
  | some i => rw [hi] at h; simp only [Option.some.injEq] at h; simp [sizeOf, typeInfo, hi, h]⟩
theorem agO_run {t : Nat} {b : Bool} (h : agO P t = some b) : IsA P t b := ⟨fun w => by
  unfold agO at h
  cases hi : P.underlying t with
  | none => rw [hi] at h; cases h
  | some d =>
    rw [hi] at h; simp only [Option.some.injEq] at h
    simp only [isAgg]
    rw [Sem.run_bind, run_underlying hi, Result.andThen_ok]
    cases d <;> simp_all⟩
theorem zrO_inf {t : Nat} {l : List FV} (h : zrO P t = some l) : ∃ i z, P.info? t = some i ∧ i.zero = some z ∧ ofVL z.cells.toList = some l ∧ l.all oneF = true ∧ l.length = i.size ∧ z.cells.size = i.size := by
  unfold zrO at h
  cases hi : P.info? t with
  | none => rw [hi] at h; cases h
  | some i =>
    rw [hi] at h
    simp only at h
    cases hz : i.zero with
    | none => rw [hz] at h; cases h
    | some z =>
      rw [hz] at h
      simp only at h
      cases hl : ofVL z.cells.toList with
      | none => rw [hl] at h; cases h
      | some l' =>
        rw [hl] at h
        simp only at h
        cases hc : l'.all oneF && Nat.beq l'.length i.size with
        | false => rw [hc] at h; cases h
        | true =>
          rw [hc] at h
          simp only [cond_true, Option.some.injEq] at h
          subst h
          simp only [Bool.and_eq_true] at hc
          have h1 := beq_t hc.2
          have h2 := denL_length (ofVL_den ⟨fun _ => none, fun _ => 0, fun _ => false, #[], [], fun _ => .pointer none⟩ hl)
          exact ⟨i, z, rfl, hz, hl, hc.1, h1, by rw [← h1, ← h2]; simp⟩
theorem zrO_Inf {t : Nat} {l : List FV} (h : zrO P t = some l) : ∃ i z, Inf P t l.length i.bytes z ∧ P.info? t = some i ∧ ofVL z.cells.toList = some l ∧ l.all oneF = true ∧ z.cells.size = l.length := by
  obtain ⟨i, z, h1, h2, h3, h4, h5, h6⟩ := zrO_inf h
  exact ⟨i, z, ⟨⟨i, h1, h5.symm, rfl, h2⟩⟩, h1, h3, h4, by rw [h6, h5]⟩

/-! ### Numbers, strings, truth -/
theorem isSh_or {op : BinOp} (h : isSh op = true) : op = .shl ∨ op = .shr := by cases op <;> first | (left; rfl) | (right; rfl) | cases h
theorem binI_ok {E : Env} {op : BinOp} {t : TypeId} {x y : Operand} {k : IntKind} {a b : Int} {r : FV} (h : binI op k a b = some r) : oBin P op t x y (.int k a) (.int k b) fun v => den E r = some v := by
  cases op <;> simp only [binI, Option.some.injEq] at h <;> try (subst h)
  case add => rw [oBin_add]; simp only [den, wr_eq]; rfl
  case sub => rw [oBin_sub]; simp only [den, wr_eq]; rfl
  case mul => rw [oBin_mul]; simp only [den, wr_eq]; rfl
  case quo =>
    cases hb : ieq b (.ofNat 0) with
    | true => rw [hb] at h; cases h
    | false =>
      rw [hb] at h; simp only [cond_false, Option.some.injEq] at h; subst h
      rw [ieq_eq] at hb
      rw [oBin_quo (by simpa using hb)]; simp only [den, wr_eq]
  case rem =>
    cases hb : ieq b (.ofNat 0) with
    | true => rw [hb] at h; cases h
    | false =>
      rw [hb] at h; simp only [cond_false, Option.some.injEq] at h; subst h
      rw [ieq_eq] at hb
      rw [oBin_rem (by simpa using hb)]; simp only [den]
  case eql => rw [oBin_eql]; simp only [den, ieq_eq]
  case neq => rw [oBin_neq]; simp only [den, ieq_eq, decide_not]
  case lss => rw [oBin_lss]; simp only [den, ilt_eq]
  case leq => rw [oBin_leq]; simp only [den, ilt_eq, ← decide_not]; congr 3; simp
  case gtr => rw [oBin_gtr]; simp only [den, ilt_eq]
  case geq => rw [oBin_geq]; simp only [den, ilt_eq, ← decide_not]; congr 3; simp
  case and => exact (oBin_int (v := .int k (k.wrap (BitVec.ofInt k.bits a &&& BitVec.ofInt k.bits b).toNat)) fun w => by simp [binOp, Op.intBits]).2 rfl
  case or => exact (oBin_int (v := .int k (k.wrap (BitVec.ofInt k.bits a ||| BitVec.ofInt k.bits b).toNat)) fun w => by simp [binOp, Op.intBits]).2 rfl
  case xor => exact (oBin_int (v := .int k (k.wrap (BitVec.ofInt k.bits a ^^^ BitVec.ofInt k.bits b).toNat)) fun w => by simp [binOp, Op.intBits]).2 rfl
  all_goals cases h
theorem shI_ok {E : Env} {op : BinOp} {t : TypeId} {x y : Operand} {k k' : IntKind} {a b : Int} {r : FV} (h : shI op k a b = some r) : oBin P op t x y (.int k a) (.int k' b) fun v => den E r = some v := by
  cases b with
  | negSucc m => simp [shI] at h
  | ofNat m =>
    cases op <;> simp only [shI, Option.some.injEq] at h <;> try (cases h; done)
    case shl =>
      subst h
      refine Sp.of (v := .int k (k.wrap (a * 2 ^ (Nat.min m k.bits)))) (fun w => nv_run ?_) rfl
      have h0 : ¬ (Int.ofNat m < 0) := by simp
      have h1 : (Int.ofNat m).toNat = m := rfl
      simp only [eqGuard, binOp, Op.shift, if_neg h0, h1]
      rfl
    case shr =>
      subst h
      refine Sp.of (v := .int k (a.fdiv (2 ^ (Nat.min m k.bits)))) (fun w => nv_run ?_) rfl
      have h0 : ¬ (Int.ofNat m < 0) := by simp
      have h1 : (Int.ofNat m).toNat = m := rfl
      simp only [eqGuard, binOp, Op.shift, if_neg h0, h1]
      rfl
theorem bytesOk_append {a b : List Nat} (ha : bytesOk a = true) (hb : bytesOk b = true) : bytesOk (a ++ b) = true := by
  simp only [bytesOk, List.all_append, Bool.and_eq_true] at *
  exact ⟨ha, hb⟩
theorem binS_ok {E : Env} {op : BinOp} {t : TypeId} {x y : Operand} {a b : List Nat} {r : FV} (ha : bytesOk a = true) (hb : bytesOk b = true) (h : binS op a b = some r) :
    oBin P op t x y (str (a.map UInt8.ofNat)) (str (b.map UInt8.ofNat)) fun v => den E r = some v := by
  have hl := llt_eq ha hb
  have he := leq_eq ha hb
  have e2 : ∀ a b : List UInt8, (a == b) = decide (a = b) := fun a b => by rw [Bool.eq_iff_iff]; simp
  cases op <;> simp only [binS, Option.some.injEq] at h <;> try (subst h)
  case add =>
    cases hg : bigS a b with
    | false => rw [hg] at h; cases h
    | true =>
      rw [hg] at h; simp only [cond_true, Option.some.injEq] at h; subst h
      have hlen := ble_t hg
      refine (oBin_str (v := str (a.map UInt8.ofNat ++ b.map UInt8.ofNat)) fun w => ?_).2 ?_
      · have h1 : ¬ (((a.length + b.length : Nat) : Int) > IntKind.i64.max) := by
          have : IntKind.i64.max = 9223372036854775807 := by decide
          omega
        have hs : ∀ l : List UInt8, (⟨l.toArray⟩ : ByteArray).size = l.length := fun l => List.size_toArray
        simp only [Op.stringOp, hs, List.length_map, h1, if_false]
        have : ((⟨(a.map UInt8.ofNat).toArray⟩ : ByteArray) ++ ⟨(b.map UInt8.ofNat).toArray⟩) = ⟨(a.map UInt8.ofNat ++ b.map UInt8.ofNat).toArray⟩ := by
          apply ByteArray.ext
          simp [ByteArray.data_append]
        rw [this]
        rfl
      · simp only [den]
        rw [if_pos (bytesOk_append ha hb), List.map_append]
  case eql => rw [oBin_str_eql]; simp only [den, he]
  case neq => rw [oBin_str_neq]; simp only [den, he, decide_not]
  case lss => exact (oBin_str fun w => by simp only [Op.stringOp, toList_mk]; rfl).2 (by simp only [den, hl])
  case leq => exact (oBin_str fun w => by simp only [Op.stringOp, toList_mk, e2]; rfl).2 (by simp only [den, hl, he])
  case gtr => exact (oBin_str fun w => by simp only [Op.stringOp, toList_mk, e2]; rfl).2 (by simp only [den, hl, he])
  case geq => exact (oBin_str fun w => by simp only [Op.stringOp, toList_mk]; rfl).2 (by simp only [den, hl])
  all_goals cases h
theorem den_str {E : Env} {l : List Nat} {v : Value} (h : den E (.str l) = some v) : bytesOk l = true ∧ v = str (l.map UInt8.ofNat) := by
  simp only [den] at h
  by_cases hc : bytesOk l = true
  · rw [if_pos hc] at h; simp only [Option.some.injEq] at h; exact ⟨hc, h.symm⟩
  · rw [if_neg hc] at h; cases h
theorem den_sx {E : Env} {l : List SB} {v : Value} (h : den E (.sx l) = some v) : sbsOk l = true ∧ v = str (l.map sbU) := by
  simp only [den] at h
  by_cases hc : sbsOk l = true
  · rw [if_pos hc] at h; simp only [Option.some.injEq] at h; exact ⟨hc, h.symm⟩
  · rw [if_neg hc] at h; cases h
theorem sbsOk_cons {a : SB} {l : List SB} (h : sbsOk (a :: l) = true) : sbOk a = true ∧ sbsOk l = true := by
  simpa only [sbsOk, List.all_cons, Bool.and_eq_true] using h
theorem sbsOk_append {a b : List SB} (ha : sbsOk a = true) (hb : sbsOk b = true) : sbsOk (a ++ b) = true := by
  simp only [sbsOk, List.all_append, Bool.and_eq_true] at *
  exact ⟨ha, hb⟩
theorem ksb_ok {l : List Nat} (h : bytesOk l = true) : sbsOk (ksb l) = true := by
  simp only [sbsOk, ksb, List.all_map, bytesOk] at *
  exact h
theorem ksb_map (l : List Nat) : (ksb l).map sbU = l.map UInt8.ofNat := by
  simp only [ksb, List.map_map]; rfl
def sbI : SB → Int
  | .k n => (n : Int)
  | .v n _ _ => n.ev
theorem sbI_rng {a : SB} (h : sbOk a = true) : 0 ≤ sbI a ∧ sbI a < 256 := by
  cases a with
  | k n => have := blt_t h; simp only [sbI]; omega
  | v n lo hi => simp only [sbOk, decide_eq_true_eq] at h; simp only [sbI]; omega
theorem sbU_eq (a : SB) : sbU a = UInt8.ofNat (sbI a).toNat := by cases a <;> rfl
theorem sbU_inj {a b : SB} (ha : sbOk a = true) (hb : sbOk b = true) : sbU a = sbU b ↔ sbI a = sbI b := by
  have h1 := sbI_rng ha
  have h2 := sbI_rng hb
  rw [sbU_eq, sbU_eq]
  refine ⟨fun e => ?_, fun e => by rw [e]⟩
  have := u8_inj (by omega) (by omega) e
  omega
def accV : Option SC → Bool
  | none => true
  | some t => t.ev
theorem accB_ok (acc : Option SC) (b : SC) : accV (accB acc b) = (accV acc && b.ev) := by
  cases acc with
  | none => simp [accB, accV]
  | some t => rfl
theorem eqX_ok : ∀ {x y : List SB} (acc : Option SC), sbsOk x = true → sbsOk y = true → (∃ b, eqX x y acc = .bool b ∧ b = (accV acc && decide (x.map sbU = y.map sbU))) ∨ ∃ b, (eqX x y acc = .sb b ∧ b.ev = (accV acc && decide (x.map sbU = y.map sbU))) ∨ (eqX x y acc = .bool false ∧ x.map sbU ≠ y.map sbU)
  | [], [], acc, _, _ => by
    cases acc with
    | none => exact .inl ⟨true, rfl, by simp [accV]⟩
    | some t => exact .inr ⟨t, .inl ⟨rfl, by simp [accV]⟩⟩
  | [], _ :: _, acc, _, _ => .inr ⟨.le (.c 0) (.c 0), .inr ⟨rfl, by simp⟩⟩
  | .k _ :: _, [], acc, _, _ => .inr ⟨.le (.c 0) (.c 0), .inr ⟨rfl, by simp⟩⟩
  | .v _ _ _ :: _, [], acc, _, _ => .inr ⟨.le (.c 0) (.c 0), .inr ⟨rfl, by simp⟩⟩
  | .k a :: x, .k b :: y, acc, hx, hy => by
    obtain ⟨h1, h2⟩ := sbsOk_cons hx
    obtain ⟨h3, h4⟩ := sbsOk_cons hy
    have hi := sbU_inj h1 h3
    simp only [sbI, Int.ofNat_inj] at hi
    simp only [eqX]
    cases hb : Nat.beq a b with
    | true =>
      have e := hi.2 (beq_t hb)
      simp only [cond_true, List.map_cons, List.cons.injEq, e, true_and]
      rcases eqX_ok acc h2 h4 with h | ⟨b, h | h⟩
      · exact .inl h
      · exact .inr ⟨b, .inl h⟩
      · exact .inr ⟨b, .inr ⟨h.1, fun e => h.2 (List.cons.inj e).2⟩⟩
    | false =>
      have e : ¬ sbU (.k a) = sbU (.k b) := fun e => beq_f hb (hi.1 e)
      exact .inr ⟨.le (.c 0) (.c 0), .inr ⟨rfl, by simp [e]⟩⟩
  | .k a :: x, .v b lo hi :: y, acc, hx, hy => by
    obtain ⟨h1, h2⟩ := sbsOk_cons hx
    obtain ⟨h3, h4⟩ := sbsOk_cons hy
    have hi' := sbU_inj h1 h3
    simp only [sbI] at hi'
    have hd : decide (sbU (.k a) = sbU (.v b lo hi)) = SC.ev (.eq b (.c (.ofNat a))) := by
      simp only [SC.ev, SE.ev]
      apply decide_eq_decide.2; rw [hi']; exact ⟨Eq.symm, Eq.symm⟩
    simp only [eqX]
    cases hb : ile lo (Int.ofNat a) && ile (Int.ofNat a) hi with
    | false =>
      have hn : ¬ sbU (.k a) = sbU (.v b lo hi) := fun e => by
        have e := hi'.1 e
        simp only [sbOk, decide_eq_true_eq] at h3
        have e1 : Int.ofNat a = (a : Int) := rfl
        have g1 : ile lo (Int.ofNat a) = true := by unfold ile; rw [ilt_eq]; simp; omega
        have g2 : ile (Int.ofNat a) hi = true := by unfold ile; rw [ilt_eq]; simp; omega
        rw [g1, g2] at hb; cases hb
      exact .inr ⟨.le (.c 0) (.c 0), .inr ⟨rfl, fun e => hn (List.cons.inj e).1⟩⟩
    | true =>
      simp only [cond_true, List.map_cons, List.cons.injEq, Bool.decide_and, hd]
      rw [← Bool.and_assoc, ← accB_ok]
      rcases eqX_ok (accB acc (.eq b (.c (.ofNat a)))) h2 h4 with h | ⟨b, h | h⟩
      · exact .inl h
      · exact .inr ⟨b, .inl h⟩
      · exact .inr ⟨b, .inr ⟨h.1, fun e => h.2 (List.cons.inj e).2⟩⟩
  | .v a lo hi :: x, .k b :: y, acc, hx, hy => by
    obtain ⟨h1, h2⟩ := sbsOk_cons hx
    obtain ⟨h3, h4⟩ := sbsOk_cons hy
    have hi' := sbU_inj h1 h3
    simp only [sbI] at hi'
    have hd : decide (sbU (.v a lo hi) = sbU (.k b)) = SC.ev (.eq a (.c (.ofNat b))) := by
      simp only [SC.ev, SE.ev]
      apply decide_eq_decide.2; rw [hi']; exact Iff.rfl
    simp only [eqX]
    cases hb : ile lo (Int.ofNat b) && ile (Int.ofNat b) hi with
    | false =>
      have hn : ¬ sbU (.v a lo hi) = sbU (.k b) := fun e => by
        have e := hi'.1 e
        simp only [sbOk, decide_eq_true_eq] at h1
        have e1 : Int.ofNat b = (b : Int) := rfl
        have g1 : ile lo (Int.ofNat b) = true := by unfold ile; rw [ilt_eq]; simp; omega
        have g2 : ile (Int.ofNat b) hi = true := by unfold ile; rw [ilt_eq]; simp; omega
        rw [g1, g2] at hb; cases hb
      exact .inr ⟨.le (.c 0) (.c 0), .inr ⟨rfl, fun e => hn (List.cons.inj e).1⟩⟩
    | true =>
      simp only [cond_true, List.map_cons, List.cons.injEq, Bool.decide_and, hd]
      rw [← Bool.and_assoc, ← accB_ok]
      rcases eqX_ok (accB acc (.eq a (.c (.ofNat b)))) h2 h4 with h | ⟨b, h | h⟩
      · exact .inl h
      · exact .inr ⟨b, .inl h⟩
      · exact .inr ⟨b, .inr ⟨h.1, fun e => h.2 (List.cons.inj e).2⟩⟩
  | .v a lo hi :: x, .v b lo' hi' :: y, acc, hx, hy => by
    obtain ⟨h1, h2⟩ := sbsOk_cons hx
    obtain ⟨h3, h4⟩ := sbsOk_cons hy
    have hj := sbU_inj h1 h3
    simp only [sbI] at hj
    have hd : decide (sbU (.v a lo hi) = sbU (.v b lo' hi')) = SC.ev (.eq a b) := by
      simp only [SC.ev]
      rw [Bool.eq_iff_iff]; simp only [decide_eq_true_eq, hj]
    simp only [eqX, List.map_cons, List.cons.injEq, Bool.decide_and, hd]
    rw [← Bool.and_assoc, ← accB_ok]
    rcases eqX_ok (accB acc (.eq a b)) h2 h4 with h | ⟨b, h | h⟩
    · exact .inl h
    · exact .inr ⟨b, .inl h⟩
    · exact .inr ⟨b, .inr ⟨h.1, fun e => h.2 (List.cons.inj e).2⟩⟩
/-- What it comes to. -/
theorem eqX_den {x y : List SB} (hx : sbsOk x = true) (hy : sbsOk y = true) : (eqX x y none = .bool (decide (x.map sbU = y.map sbU))) ∨ ∃ c, eqX x y none = .sb c ∧ c.ev = decide (x.map sbU = y.map sbU) := by
  rcases eqX_ok none hx hy with ⟨b, h1, h2⟩ | ⟨b, ⟨h1, h2⟩ | ⟨h1, h2⟩⟩
  · left; rw [h1, h2]; simp [accV]
  · right; exact ⟨b, h1, by rw [h2]; simp [accV]⟩
  · left; rw [h1]; simp [h2]
theorem binX_ok {E : Env} {op : BinOp} {t : TypeId} {x y : Operand} {a b : List SB} {r : FV} (ha : sbsOk a = true) (hb : sbsOk b = true) (h : binX op a b = some r) :
    oBin P op t x y (str (a.map sbU)) (str (b.map sbU)) fun v => den E r = some v := by
  have he := eqX_den ha hb
  cases op <;> simp only [binX, Option.some.injEq] at h
  case add =>
    cases hg : bigX a b with
    | false => rw [hg] at h; cases h
    | true =>
      rw [hg] at h; simp only [cond_true, Option.some.injEq] at h; subst h
      have hlen := ble_t hg
      refine (oBin_str (v := str (a.map sbU ++ b.map sbU)) fun w => ?_).2 ?_
      · have h1 : ¬ (((a.length + b.length : Nat) : Int) > IntKind.i64.max) := by
          have : IntKind.i64.max = 9223372036854775807 := by decide
          omega
        have hs : ∀ l : List UInt8, (⟨l.toArray⟩ : ByteArray).size = l.length := fun l => List.size_toArray
        simp only [Op.stringOp, hs, List.length_map, h1, if_false]
        have : ((⟨(a.map sbU).toArray⟩ : ByteArray) ++ ⟨(b.map sbU).toArray⟩) = ⟨(a.map sbU ++ b.map sbU).toArray⟩ := by
          apply ByteArray.ext
          simp [ByteArray.data_append]
        rw [this]
        rfl
      · simp only [den]
        rw [if_pos (sbsOk_append ha hb), List.map_append]
  case eql =>
    rw [oBin_str_eql]; subst h
    rcases he with he | ⟨c, he, hc⟩
    · simp only [he, den]
    · simp only [he, den, hc]
  case neq =>
    rw [oBin_str_neq]
    rcases he with he | ⟨c, he, hc⟩
    · rw [he] at h; simp only [Option.some.injEq] at h; subst h; simp only [den, decide_not]
    · rw [he] at h; simp only [Option.some.injEq] at h; subst h; simp only [den, SC.ev, hc, decide_not]
  all_goals cases h
theorem tri {E : Env} {c d x y : Bool} {p : SC} {r : FV} (h : (bif c then some (.bool x) else bif d then some (.bool y) else some (.sb p)) = some r) (hc : c = true → p.ev = x) (hd : d = true → p.ev = y) : den E r = some (.bool p.ev) := by
  cases c with
  | true => simp only [cond_true, Option.some.injEq] at h; subst h; rw [hc rfl]; rfl
  | false =>
    cases d with
    | true => simp only [cond_true, cond_false, Option.some.injEq] at h; subst h; rw [hd rfl]; rfl
    | false => simp only [cond_false, Option.some.injEq] at h; subst h; rfl
theorem some_inj {α : Type} {a b : α} (h : some a = some b) : a = b := by simpa using h
theorem binZ_eql {E : Env} {k : IntKind} {a b : SE} {la ha lb hb : Int} {r : FV} (ga : la ≤ a.ev ∧ a.ev ≤ ha) (gb : lb ≤ b.ev ∧ b.ev ≤ hb) (h : binZ .eql k a la ha b lb hb = some r) : den E r = some (.bool (decide (a.ev = b.ev))) := by
  simp only [binZ] at h
  refine tri h (fun e => ?_) (fun e => ?_)
  · simp only [Bool.or_eq_true] at e
    rcases e with e | e <;> (have := ilt_t e; simp [SC.ev]; omega)
  · simp only [Bool.or_eq_true, Bool.and_eq_true] at e
    rcases e with e | e
    · have e1 := ieq_t' e.1.1; have e2 := ieq_t' e.1.2; have e3 := ieq_t' e.2
      simp [SC.ev]; omega
    · rw [eqE_t e]; simp [SC.ev]
theorem ileE {a b : SE} {x y : Int} (e : (ile x y || eqE a b) = true) : x ≤ y ∨ a = b := by
  simp only [Bool.or_eq_true] at e
  rcases e with e | e
  · exact .inl (ile_t e)
  · exact .inr (eqE_t e)
theorem binZ_ok {E : Env} {op : BinOp} {t : TypeId} {x y : Operand} {k : IntKind} {a b : SE} {la ha lb hb : Int} {r : FV} (ga : la ≤ a.ev ∧ a.ev ≤ ha) (gb : lb ≤ b.ev ∧ b.ev ≤ hb) (h : binZ op k a la ha b lb hb = some r) :
    oBin P op t x y (.int k a.ev) (.int k b.ev) fun v => den E r = some v := by
  have e0 : Int.ofNat 0 = (0 : Int) := rfl
  have z0 : ∀ {n : Int}, ile (.ofNat 0) n = true → 0 ≤ n := fun h => ile_t h
  have pos : ∀ {n : Int}, ilt (.ofNat 0) n = true → 0 < n := fun h => ilt_t h
  have neg : ∀ {n : Int}, ilt n (.ofNat 0) = true → n < 0 := fun h => ilt_t h
  cases op <;> simp only [binZ] at h <;> try (cases h; done)
  case add =>
    rw [oBin_add, ← some_inj h, ← sAdd_ev]
    exact fitZ_den (by rw [sAdd_ev]; exact (show la + lb ≤ a.ev + b.ev by omega)) (by rw [sAdd_ev]; exact (show a.ev + b.ev ≤ ha + hb by omega))
  case sub =>
    cases he : eqE a b with
    | true =>
      rw [he] at h; rw [oBin_sub, ← some_inj h, eqE_t he, Int.sub_self]
      rw [wrap_K (k := k) (n := 0) (by cases k <;> decide) (by cases k <;> decide)]; rfl
    | false =>
      rw [he] at h; rw [oBin_sub, ← some_inj h, ← sSub_ev]
      exact fitZ_den (by rw [sSub_ev]; exact (show la - hb ≤ a.ev - b.ev by omega)) (by rw [sSub_ev]; exact (show a.ev - b.ev ≤ ha - lb by omega))
  case mul =>
    cases h1 : ieq lb hb with
    | true =>
      rw [h1] at h; simp only [cond_true] at h
      have e1 := ieq_t' h1
      have e2 : b.ev = lb := by omega
      cases h2 : ile (.ofNat 0) lb with
      | true =>
        rw [h2] at h; rw [oBin_mul, ← some_inj h]
        exact fitZ_den (show la * lb ≤ a.ev * b.ev by rw [e2]; exact Int.mul_le_mul_of_nonneg_right ga.1 (z0 h2)) (show a.ev * b.ev ≤ ha * lb by rw [e2]; exact Int.mul_le_mul_of_nonneg_right ga.2 (z0 h2))
      | false =>
        rw [h2] at h; rw [oBin_mul, ← some_inj h]
        have h3 : lb ≤ 0 := by
          unfold ile at h2; rw [ilt_eq] at h2
          rw [e0] at h2
          simp at h2; omega
        exact fitZ_den (show ha * lb ≤ a.ev * b.ev by rw [e2]; exact Int.mul_le_mul_of_nonpos_right ga.2 h3) (show a.ev * b.ev ≤ la * lb by rw [e2]; exact Int.mul_le_mul_of_nonpos_right ga.1 h3)
    | false =>
      rw [h1] at h; simp only [cond_false] at h
      cases h2 : ile (.ofNat 0) la && ile (.ofNat 0) lb with
      | false => rw [h2] at h; rw [oBin_mul, ← some_inj h]; exact wrZ_den
      | true =>
        rw [h2] at h; rw [oBin_mul, ← some_inj h]
        simp only [Bool.and_eq_true] at h2
        have g1 := z0 h2.1
        have g2 := z0 h2.2
        exact fitZ_den (show la * lb ≤ a.ev * b.ev from Int.mul_le_mul ga.1 gb.1 g2 (by omega)) (show a.ev * b.ev ≤ ha * hb from Int.mul_le_mul ga.2 gb.2 (by omega) (by omega))
  case quo =>
    cases h1 : ieq lb hb && ilt (.ofNat 0) lb with
    | false =>
      rw [h1] at h; simp only [cond_false] at h
      cases h2 : ilt (.ofNat 0) lb || ilt hb (.ofNat 0) with
      | false => rw [h2] at h; cases h
      | true =>
        rw [h2] at h; rw [← some_inj h]
        simp only [Bool.or_eq_true] at h2
        have hn : b.ev ≠ 0 := by
          rcases h2 with h2 | h2
          · have := pos h2; omega
          · have := neg h2; omega
        rw [oBin_quo hn]; exact wrZ_den
    | true =>
      rw [h1] at h; simp only [cond_true] at h
      simp only [Bool.and_eq_true] at h1
      have e1 := ieq_t' h1.1
      have e2 : b.ev = lb := by omega
      have hp : 0 < lb := ilt_t h1.2
      rw [oBin_quo (by omega)]
      cases h2 : ile (.ofNat 0) la with
      | true =>
        rw [h2] at h; rw [← some_inj h]
        have h3 := z0 h2
        have e := Int.tdiv_eq_ediv_of_nonneg (a := a.ev) (b := b.ev) (by omega)
        rw [e]
        have q1 : la.tdiv lb ≤ a.ev / b.ev := by rw [← e, e2]; exact Int.tdiv_le_tdiv hp ga.1
        have q2 : a.ev / b.ev ≤ ha.tdiv lb := by rw [← e, e2]; exact Int.tdiv_le_tdiv hp ga.2
        exact fitZ_den (n := .div a b) q1 q2
      | false =>
        rw [h2] at h; rw [← some_inj h]
        have q1 : la.tdiv lb ≤ Int.tdiv a.ev b.ev := by rw [e2]; exact Int.tdiv_le_tdiv hp ga.1
        have q2 : Int.tdiv a.ev b.ev ≤ ha.tdiv lb := by rw [e2]; exact Int.tdiv_le_tdiv hp ga.2
        exact fitZ_den (n := .quo a b) q1 q2
  case rem =>
    cases h1 : ieq lb hb && ilt (.ofNat 0) lb && ile (.ofNat 0) la with
    | false => rw [h1] at h; cases h
    | true =>
      rw [h1] at h; simp only [cond_true] at h
      simp only [Bool.and_eq_true] at h1
      have e1 := ieq_t' h1.1.1
      have e2 : b.ev = lb := by omega
      have hp : 0 < lb := ilt_t h1.1.2
      have h3 := z0 h1.2
      rw [oBin_rem (by omega), Int.tmod_eq_emod_of_nonneg (by omega)]
      cases h2 : ilt ha lb with
      | true =>
        rw [h2] at h; rw [← some_inj h]
        have h4 := ilt_t h2
        rw [Int.emod_eq_of_lt (by omega) (by omega)]
        exact mkZ_den ga.1 ga.2
      | false =>
        rw [h2] at h
        simp only [cond_false] at h
        cases hm : modC a lb with
        | some q => rw [hm] at h; rw [← some_inj h, e2, modC_ev hm]; rfl
        | none =>
        rw [hm] at h
        simp only at h
        cases hq : ieq (Int.tdiv la lb) (Int.tdiv ha lb) with
        | true =>
          rw [hq] at h; rw [← some_inj h]
          have g1 := ieq_t' hq
          have g2 := Int.tdiv_le_tdiv hp ga.1
          have g3 := Int.tdiv_le_tdiv hp ga.2
          have g4 : Int.tdiv a.ev lb = Int.tdiv la lb := by omega
          have g5 := Int.tdiv_eq_ediv_of_nonneg (a := a.ev) (b := lb) (by omega)
          have g6 := Int.mul_ediv_add_emod a.ev lb
          have g7 : a.ev % b.ev = a.ev - lb * Int.tdiv la lb := by rw [e2, ← g4, g5]; omega
          rw [g7]
          exact mkZ_den (n := .sub a (.c (Int.mul lb (Int.tdiv la lb)))) (show la - lb * Int.tdiv la lb ≤ a.ev - lb * Int.tdiv la lb by omega) (show a.ev - lb * Int.tdiv la lb ≤ ha - lb * Int.tdiv la lb by omega)
        | false =>
        rw [hq] at h; rw [← some_inj h]
        have h4 := Int.emod_nonneg a.ev (b := b.ev) (by omega)
        have h5 := Int.emod_lt_of_pos a.ev (b := b.ev) (by omega)
        exact mkZ_den (n := .mod a b) h4 (show a.ev % b.ev ≤ lb - 1 by omega)
  case eql =>
    rw [oBin_eql]
    exact binZ_eql (k := k) ga gb h
  case neq =>
    rw [oBin_neq]
    have := tri (E := E) h (fun e => ?_) (fun e => ?_)
    · rw [this]; simp [SC.ev]
    · simp only [Bool.or_eq_true] at e
      rcases e with e | e <;> (have := ilt_t e; simp [SC.ev]; omega)
    · simp only [Bool.or_eq_true, Bool.and_eq_true] at e
      rcases e with e | e
      · have e1 := ieq_t' e.1.1; have e2 := ieq_t' e.1.2; have e3 := ieq_t' e.2
        simp [SC.ev]; omega
      · rw [eqE_t e]; simp [SC.ev]
  case lss => rw [oBin_lss]; exact tri h (fun e => by have := ilt_t e; simp [SC.ev]; omega) (fun e => by rcases ileE e with e | e <;> first | (simp [SC.ev]; omega) | (subst e; simp [SC.ev]))
  case leq => rw [oBin_leq]; exact tri h (fun e => by rcases ileE e with e | e <;> first | (simp [SC.ev]; omega) | (subst e; simp [SC.ev])) (fun e => by have := ilt_t e; simp [SC.ev]; omega)
  case gtr => rw [oBin_gtr]; exact tri h (fun e => by have := ilt_t e; simp [SC.ev]; omega) (fun e => by rcases ileE e with e | e <;> first | (simp [SC.ev]; omega) | (subst e; simp [SC.ev]))
  case geq => rw [oBin_geq]; exact tri h (fun e => by rcases ileE e with e | e <;> first | (simp [SC.ev]; omega) | (subst e; simp [SC.ev])) (fun e => by have := ilt_t e; simp [SC.ev]; omega)
/-- Strings that are variables. -/
theorem binV_ok {E : Env} {a b : FV} {u v : Value} {r : FV} (hu : den E a = some u) (hv : den E b = some v) (h : binV .eql a b = some r) :
    ∃ s t, u = str s ∧ v = str t ∧ den E r = some (.bool (decide (s = t))) := by
  cases a <;> simp only [binV] at h <;> try (cases h; done)
  case sstr i =>
    have hu := (den_sstr hu).2.symm
    cases b <;> simp only at h <;> try (cases h; done)
    case sstr j =>
      have hv := (den_sstr hv).2.symm
      simp only [Option.some.injEq] at h
      refine ⟨_, _, hu.symm, hv.symm, ?_⟩
      subst h; rfl
    case str l =>
      obtain ⟨h1, h2⟩ := den_str hv
      refine ⟨_, _, hu.symm, h2, ?_⟩
      cases hb : bytesOk l with
      | false => rw [hb] at h; cases h
      | true => rw [hb] at h; simp only [cond_true, Option.some.injEq] at h; subst h; rfl
  case str l =>
    obtain ⟨h1, h2⟩ := den_str hu
    cases b <;> simp only at h <;> try (cases h; done)
    rename_i i
    have hv := (den_sstr hv).2.symm
    refine ⟨_, _, h2, hv.symm, ?_⟩
    rw [h1] at h; simp only [cond_true, Option.some.injEq] at h; subst h
    simp only [den, SC.ev]
    congr 2
    rw [Bool.eq_iff_iff]; simp only [decide_eq_true_eq]; exact ⟨fun e => e.symm, fun e => e.symm⟩
theorem binW_ok {E : Env} {op : BinOp} {t : TypeId} {x y : Operand} {a b : FV} {u v : Value} {r : FV} (hu : den E a = some u) (hv : den E b = some v) (h : binW op a b = some r) :
    oBin P op t x y u v fun w => den E r = some w := by
  cases op <;> simp only [binW] at h <;> try (simp only [binV] at h; cases h; done)
  case eql =>
    obtain ⟨s, t, rfl, rfl, h3⟩ := binV_ok hu hv h
    rw [oBin_str_eql]; exact h3
  case neq =>
    cases hq : binV .eql a b with
    | none => rw [hq] at h; cases h
    | some q =>
      rw [hq] at h
      obtain ⟨s, t, rfl, rfl, h3⟩ := binV_ok hu hv hq
      rw [oBin_str_neq]
      cases q <;> simp only at h <;> try (cases h; done)
      · simp only [Option.some.injEq] at h; subst h
        simp only [den, Option.some.injEq, Value.bool.injEq] at h3
        simp only [den, h3, decide_not]
      · simp only [Option.some.injEq] at h; subst h
        simp only [den, Option.some.injEq, Value.bool.injEq] at h3
        simp only [den, SC.ev, h3, decide_not]
theorem binG_ok {E : Env} {op : BinOp} {t : TypeId} {x y : Operand} {a b : FV} {u v : Value} {r : FV} (hu : den E a = some u) (hv : den E b = some v) (h : binG op a b = some r) :
    oBin P op t x y u v fun w => den E r = some w := by
  unfold binG at h
  cases ha : zbn a with
  | none => rw [ha] at h; exact binW_ok hu hv h
  | some p =>
    obtain ⟨k, m, la, ha'⟩ := p
    cases hb : zbn b with
    | none => rw [ha, hb] at h; cases h
    | some q =>
      obtain ⟨k', n, lb, hb'⟩ := q
      rw [ha, hb] at h
      simp only at h
      cases hk : keq k k' with
      | false => rw [hk] at h; cases h
      | true =>
        rw [hk] at h
        have := keq_t hk; subst this
        obtain ⟨e1, g1⟩ := zbn_den ha hu
        obtain ⟨e2, g2⟩ := zbn_den hb hv
        rw [e1, e2]
        exact binZ_ok g1 g2 h
theorem binF_ok {E : Env} {op : BinOp} {t : TypeId} {x y : Operand} {a b : FV} {u v : Value} {r : FV} (hu : den E a = some u) (hv : den E b = some v) (h : binF op a b = some r) :
    oBin P op t x y u v fun w => den E r = some w := by
  cases a with
  | int k m =>
    cases b with
    | int k' n =>
      simp only [den, Option.some.injEq] at hu; subst hu
      simp only [den, Option.some.injEq] at hv; subst hv
      simp only [binF] at h
      cases hs : isSh op with
      | true => rw [hs] at h; exact shI_ok h
      | false =>
        rw [hs] at h
        simp only [cond_false] at h
        cases hk : keq k k' with
        | false => rw [hk] at h; cases h
        | true => rw [hk] at h; have := keq_t hk; subst this; exact binI_ok h
    | _ => exact binG_ok hu hv h
  | str l =>
    cases b with
    | str m =>
      obtain ⟨h1, rfl⟩ := den_str hu
      obtain ⟨h2, rfl⟩ := den_str hv
      exact binS_ok h1 h2 h
    | sx m =>
      obtain ⟨h1, rfl⟩ := den_str hu
      obtain ⟨h2, rfl⟩ := den_sx hv
      have := binX_ok (E := E) (P := P) (t := t) (x := x) (y := y) (ksb_ok h1) h2 h
      rwa [ksb_map] at this
    | _ => exact binW_ok hu hv h
  | sx l =>
    obtain ⟨h1, rfl⟩ := den_sx hu
    cases b with
    | str m =>
      obtain ⟨h2, rfl⟩ := den_str hv
      have := binX_ok (E := E) (P := P) (t := t) (x := x) (y := y) h1 (ksb_ok h2) h
      rwa [ksb_map] at this
    | sx m =>
      obtain ⟨h2, rfl⟩ := den_sx hv
      exact binX_ok h1 h2 h
    | _ => simp [binF] at h
  | _ => exact binG_ok hu hv h
theorem den_sl {E : Env} {i off offz len : Nat} {cap : FCap} {v : Value} (h : den E (.sl i off offz len cap) = some v) : ∃ a c, E.p i = some a ∧
    v = .slice (some (a.add (match cap with | .lit _ => off | .hid j => if E.c i = j then offz else off))) len c ∧ (match cap with | .lit d => c = d | .hid j => len + j ≤ E.c i ∧ c = E.c i - j) := by
  simp only [den] at h
  cases hp : E.p i with
  | none => rw [hp] at h; cases h
  | some a =>
    rw [hp] at h
    cases cap with
    | lit c => simp only [Option.some.injEq] at h; exact ⟨a, c, rfl, h.symm, rfl⟩
    | hid j =>
      simp only at h
      by_cases hc : len + j ≤ E.c i
      · rw [if_pos hc] at h; simp only [Option.some.injEq] at h; exact ⟨a, _, rfl, h.symm, hc, rfl⟩
      · rw [if_neg hc] at h; cases h
theorem den_ptr {E : Env} {i o : Nat} {v : Value} (h : den E (.ptr i o) = some v) : ∃ a, E.p i = some a ∧ v = .pointer (some (a.add o)) := by
  simp only [den] at h
  cases hp : E.p i with
  | none => rw [hp] at h; cases h
  | some a => rw [hp] at h; simp only [Option.some.injEq] at h; exact ⟨a, rfl, h.symm⟩
theorem den_fn {E : Env} {f : Fn} {a b : List FV} {v : Value} (h : den E (.fn f a b) = some v) : ∃ x y, denL E a = some x ∧ denL E b = some y ∧ v = .func f x.toArray y.toArray := by
  simp only [den] at h
  cases ha : denL E a with
  | none => rw [ha] at h; cases h
  | some x =>
    cases hb : denL E b with
    | none => rw [ha, hb] at h; cases h
    | some y => rw [ha, hb] at h; simp only [Option.some.injEq] at h; exact ⟨x, y, rfl, rfl, h.symm⟩
end Go.Va
