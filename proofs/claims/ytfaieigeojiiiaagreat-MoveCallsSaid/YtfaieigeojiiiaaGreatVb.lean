/- Memory that is told: its parts, and what becomes of them. No program. -/
import Derived.Test.YtfaieigeojiiiaaGreatVa
import Derived.Test.YtfaieigeojiiiaaGreatMk
set_option linter.unusedVariables false
set_option linter.unusedSectionVars false
set_option linter.unusedSimpArgs false
noncomputable section
namespace Go.Va
open Go Go.Sh
variable [Vb]

/-- Cells; behind them, where k is not nought, room that is hidden, for elements of k cells. -/
inductive KD where
  | s
  | i (k : IntKind)
inductive TO where
  | cells (cs : List FV) (k : Nat)
  | map (d : KD) (m : List (FV × FV))
  | it (i c : Nat) (b : Bool)
  | ro (cs : List FV)
  | row (t : Nat) (es : List LD)
def kdT : KD → TypeDesc
  | .s => .string
  | .i k => .int k
/-- A key that is told. -/
def keyD (d : KD) (x : FV) : Option Mk.MK := match d with
  | .s => match x with
    | .str l => if bytesOk l = true then some (.inl (l.map UInt8.ofNat)) else none
    | _ => none
  | .i k => match x with
    | .int k' n => if k = k' then some (.inr (k, n)) else none
    | _ => none
theorem keyD_ok {d : KD} {x : FV} {k : Mk.MK} (h : keyD d x = some k) : Mk.kOk (kdT d) k ∧ ∀ E, den E x = some (Mk.kV k) := by
  cases d with
  | s =>
    cases x <;> simp only [keyD] at h <;> try (cases h; done)
    rename_i l
    split at h
    · rename_i hb
      simp only [Option.some.injEq] at h; subst h
      exact ⟨rfl, fun E => by simp only [den, if_pos hb]; rfl⟩
    · cases h
  | i kk =>
    cases x <;> simp only [keyD] at h <;> try (cases h; done)
    rename_i k' n
    split at h
    · rename_i e
      simp only [Option.some.injEq] at h; subst h; subst e
      exact ⟨rfl, fun E => rfl⟩
    · cases h
def denM (E : Env) (d : KD) : List (FV × FV) → Option (List (Mk.MK × Value))
  | [] => some []
  | p :: r => match keyD d p.1, den E p.2, denM E d r with
    | some k, some v, some l => some ((k, v) :: l)
    | _, _, _ => none
theorem denM_cons {E : Env} {d : KD} {p : FV × FV} {r : List (FV × FV)} {l : List (Mk.MK × Value)} (h : denM E d (p :: r) = some l) : ∃ k v l', keyD d p.1 = some k ∧ den E p.2 = some v ∧ denM E d r = some l' ∧ l = (k, v) :: l' := by
  simp only [denM] at h
  cases h1 : keyD d p.1 with
  | none => rw [h1] at h; cases h
  | some k =>
    cases h2 : den E p.2 with
    | none => rw [h1, h2] at h; cases h
    | some v =>
      cases h3 : denM E d r with
      | none => rw [h1, h2, h3] at h; cases h
      | some l' => rw [h1, h2, h3] at h; simp only [Option.some.injEq] at h; exact ⟨k, v, l', rfl, rfl, rfl, h.symm⟩
theorem denM_of {E : Env} {d : KD} {p : FV × FV} {r : List (FV × FV)} {l : List (Mk.MK × Value)} {k : Mk.MK} {v : Value} (h1 : keyD d p.1 = some k) (h2 : den E p.2 = some v) (h3 : denM E d r = some l) : denM E d (p :: r) = some ((k, v) :: l) := by
  simp only [denM, h1, h2, h3]
theorem denM_mono0 {E F : Env} (he : E.Le0 F) {d : KD} : ∀ {m : List (FV × FV)} {l : List (Mk.MK × Value)}, denM E d m = some l → denM F d m = some l
  | [], _, h => h
  | p :: r, l, h => by
    obtain ⟨k, v, l', h1, h2, h3, rfl⟩ := denM_cons h
    exact denM_of h1 (den_mono0 he h2) (denM_mono0 he h3)
theorem denM_ok {E : Env} {d : KD} : ∀ {m : List (FV × FV)} {l : List (Mk.MK × Value)}, denM E d m = some l → ∀ p ∈ l, Mk.kOk (kdT d) p.1
  | [], l, h, p, hp => by simp only [denM, Option.some.injEq] at h; subst h; cases hp
  | q :: r, l, h, p, hp => by
    obtain ⟨k, v, l', h1, h2, h3, rfl⟩ := denM_cons h
    rcases List.mem_cons.1 hp with rfl | hp
    · exact (keyD_ok h1).1
    · exact denM_ok h3 p hp
theorem denM_len {E : Env} {d : KD} : ∀ {m : List (FV × FV)} {l : List (Mk.MK × Value)}, denM E d m = some l → l.length = m.length
  | [], l, h => by simp only [denM, Option.some.injEq] at h; subst h; rfl
  | q :: r, l, h => by
    obtain ⟨k, v, l', h1, h2, h3, rfl⟩ := denM_cons h
    simp [denM_len h3]
/-- How ways part: forced, or both, or as it comes (and told); what a number is; what a variable is called; a variable passes. -/
inductive Scr where
  | nil
  | f (b : Bool) (r : Scr)
  | s (l r : Scr)
  | auto (q : Scr) (l : List SC)
  | v (c : Int) (r : Scr)
  | w (c : SE) (lo hi : Int) (r : Scr)
  | n (r : Scr)
  | u (n : Nat) (r : Scr)
structure TH where
  t : Tr TO
  nx : Nat
  scr : Scr
def TH.set (th : TH) (i : Nat) (o : TO) : TH := ⟨th.t.put i o, th.nx, th.scr⟩
def TH.new (th : TH) (o : TO) : TH := ⟨th.t.put th.nx o, th.nx.succ, th.scr⟩
def TH.del (th : TH) (i : Nat) : TH := ⟨th.t.del i, th.nx, th.scr⟩
def TH.scrp (th : TH) (s : Scr) : TH := ⟨th.t, th.nx, s⟩

def CellsIs (E : Env) (i : Nat) (cs : List FV) (k : Nat) (a : Addr) (vs post : List Value) : Prop :=
  E.p i = some a ∧ denL E cs = some vs ∧ cs.all oneF = true ∧ (k = 0 → post = [] ∧ a.off = 0) ∧ (k ≠ 0 → vs.length + post.length = E.c i * k)
theorem CellsIs.mono {E F : Env} (h : E.Le0 F) {i : Nat} {cs : List FV} {k : Nat} {a : Addr} {vs post : List Value} (c : CellsIs E i cs k a vs post) : CellsIs F i cs k a vs post :=
  ⟨(h.a i a c.1).1, denL_mono0 h c.2.1, c.2.2.1, c.2.2.2.1, by rw [(h.a i a c.1).2]; exact c.2.2.2.2⟩
def seenA : Bool → Array Nat
  | true => #[0]
  | false => #[]
/-- A range over a map of no more than one entry: has it come? -/
def ItB (a : Addr) (m c : Nat) (b : Bool) : HP :=
  ⟨fun h S => ∃ i, a = ⟨i, 0, none⟩ ∧ S i ∧ h[i]? = some (.mapIter (some m) c (seenA b) c),
   fun h h' S ⟨i, h1, h2, h3⟩ he => ⟨i, h1, h2, (he i h2).trans h3⟩⟩
/-- A block that stays as it is. -/
def Ex1 (b : Nat) (o : Obj) : HP := ⟨fun h S => S b ∧ h[b]? = some o, fun h h' S ⟨h1, h2⟩ he => ⟨h1, (he b h1).trans h2⟩⟩
def RoIs (E : Env) (i : Nat) (cs : List FV) (a : Addr) (vs : List Value) : Prop := E.p i = some a ∧ denL E cs = some vs ∧ cs.all oneF = true ∧ E.rd a vs
/-- What owns nothing. -/
def NoP : HP := ⟨fun _ S => ∀ b, ¬ S b, fun _ _ _ h _ => h⟩
/-- A row of one's own: data, element by element; how many there may be is not told. -/
structure RowIs (E : Env) (i t : Nat) (es : List LD) (a : Addr) (v : Value) (ks : List CK) : Prop where
  p : E.p i = some a
  s : E.s i = v
  ly : Vb.ly[t]? = some ks
  ne : ks ≠ []
  wt : wtE es ks
  li : liesE E.rd es ks
  len : es.length ≤ maxL
theorem RowIs.mono {E F : Env} (h : E.Le0 F) {i t : Nat} {es : List LD} {a : Addr} {v : Value} {ks : List CK} (r : RowIs E i t es a v ks) : RowIs F i t es a v ks :=
  ⟨(h.a i a r.p).1, (h.s i a r.p).trans r.s, r.ly, r.ne, r.wt, liesE_mono (fun _ _ => h.rd) r.li, r.len⟩
def part (E : Env) (x : Nat × TO) : HP := match x.2 with
  | .row t es => HP.ex fun z : Addr × Value × List CK => HP.pure (RowIs E x.1 t es z.1 z.2.1 z.2.2) (Row z.2.2.length z.2.1 es.length (LD.vsE z.2.2 es))
  | .cells cs k => HP.ex fun z : Addr × List Value × List Value => HP.pure (CellsIs E x.1 cs k z.1 z.2.1 z.2.2) (Cells (.pointer (some z.1)) (z.2.1 ++ z.2.2))
  | .map d m => HP.ex fun z : Addr × List (Mk.MK × Value) => HP.pure (E.p x.1 = some z.1 ∧ denM E d m = some z.2) (Mk.MapO (.map (some z.1.block)) z.2)
  | .it i c b => HP.ex fun z : Addr × Addr => HP.pure (E.p x.1 = some z.1 ∧ E.p i = some z.2) (ItB z.1 z.2.block c b)
  | .ro cs => HP.ex fun z : Addr × List Value => HP.pure (RoIs E x.1 cs z.1 z.2) NoP
theorem part_mono {E F : Env} (h : E.Le0 F) {x : Nat × TO} {hp : Heap} {S : Nat → Prop} (o : (part E x).own hp S) : (part F x).own hp S := by
  obtain ⟨i, o'⟩ := x
  cases o' with
  | cells cs k =>
    obtain ⟨z, hz, hc⟩ := o
    exact ⟨z, hz.mono h, hc⟩
  | map d m =>
    obtain ⟨z, hz, hc⟩ := o
    exact ⟨z, ⟨(h.a _ _ hz.1).1, denM_mono0 h hz.2⟩, hc⟩
  | it ii c b =>
    obtain ⟨z, hz, hc⟩ := o
    exact ⟨z, ⟨(h.a _ _ hz.1).1, (h.a _ _ hz.2).1⟩, hc⟩
  | ro cs =>
    obtain ⟨z, hz, hc⟩ := o
    exact ⟨z, ⟨(h.a _ _ hz.1).1, denL_mono0 h hz.2.1, hz.2.2.1, h.rd hz.2.2.2⟩, hc⟩
  | row t es =>
    obtain ⟨z, hz, hc⟩ := o
    exact ⟨z, hz.mono h, hc⟩
/-- . -/
theorem Sep.imps {h : Heap} {α : Type} {f g : α → HP} (hf : ∀ x S, (f x).own h S → (g x).own h S) {L : List HP} : ∀ {l : List α} {U : Nat → Prop}, Sep h (l.map f ++ L) U → Sep h (l.map g ++ L) U
  | [], _, s => s
  | x :: l, _, ⟨S, a, b, c⟩ => ⟨S, hf x S a, b, Sep.imps hf c⟩
/-- Blocks that stay as they are since. -/
def FzP (z : List (Nat × Obj)) : HP := ⟨fun h S => ∀ q ∈ z, S q.1 ∧ h[q.1]? = some q.2, fun h h' S f he => fun q hq => ⟨(f q hq).1, (he _ (f q hq).1).trans (f q hq).2⟩⟩
structure Rep (E : Env) (th : TH) (h0 h : Heap) (L : List HP) : Prop where
  st : St h0 h (th.t.all.map (part E) ++ (FzP E.z :: L))
  fr : ∀ i, th.nx ≤ i → E.p i = none ∧ E.r i = false
  eh : E.h = h0
theorem Rep.fz {E : Env} {th : TH} {h0 h : Heap} {L : List HP} (r : Rep E th h0 h L) : E.fz h := by
  refine ⟨fun b o hb => ?_, ?_⟩
  · have hb' := hb
    rw [r.eh] at hb
    have hlt := (Array.getElem?_eq_some_iff.1 hb).1
    rw [← hb]; exact r.st.ext.2 b hlt
  · obtain ⟨S, h1, _⟩ := (r.st.perm List.perm_middle).get
    exact fun q hq => (h1 q hq).2
theorem Rep.mono {E F : Env} {th : TH} {h0 h : Heap} {L : List HP} (r : Rep E th h0 h L) (he : E.Le0 F) (hz : F.z = E.z) (hf : ∀ i, th.nx ≤ i → F.p i = none ∧ F.r i = false) : Rep F th h0 h L :=
  ⟨by rw [hz]; exact ⟨r.st.1, Sep.imps (fun x S => part_mono he) r.st.2⟩, hf, he.h.trans r.eh⟩
theorem Rep.scrp {E : Env} {th : TH} {h0 h : Heap} {L : List HP} (r : Rep E th h0 h L) (s : Scr) : Rep E (th.scrp s) h0 h L := ⟨r.st, r.fr, r.eh⟩
/-- A told block to the front. -/
theorem Rep.pick {E : Env} {th : TH} {h0 h : Heap} {L : List HP} (r : Rep E th h0 h L) {i : Nat} {o : TO} (hg : th.t.get i = some o) :
    St h0 h (part E (i, o) :: ((th.t.del i).all.map (part E) ++ (FzP E.z :: L))) :=
  r.st.perm (((Tr.perm hg).1.map (part E)).append_right _)
theorem Rep.put {E : Env} {th : TH} {h0 h : Heap} {L : List HP} {i : Nat} {o o' : TO} (hg : th.t.get i = some o) (s : St h0 h (part E (i, o') :: ((th.t.del i).all.map (part E) ++ (FzP E.z :: L))))
    (fr : ∀ i, th.nx ≤ i → E.p i = none ∧ E.r i = false) (eh : E.h = h0) : Rep E (th.set i o') h0 h L :=
  ⟨s.perm ((((Tr.perm hg).2 o').map (part E)).append_right _).symm, fr, eh⟩
theorem Rep.del {E : Env} {th : TH} {h0 h : Heap} {L : List HP} (r : Rep E th h0 h L) {i : Nat} {o : TO} (hg : th.t.get i = some o) : Rep E (th.del i) h0 h L := ⟨(r.pick hg).drop, r.fr, r.eh⟩
theorem Rep.told {E : Env} {th : TH} {h0 h : Heap} {L : List HP} (r : Rep E th h0 h L) {i : Nat} {cs : List FV} {k : Nat} (hg : th.t.get i = some (.cells cs k)) :
    ∃ a vs post, CellsIs E i cs k a vs post ∧ St h0 h (Cells (.pointer (some a)) (vs ++ post) :: ((th.t.del i).all.map (part E) ++ (FzP E.z :: L))) := by
  obtain ⟨z, s⟩ := (r.pick hg).ex
  obtain ⟨hz, s⟩ := s.pure
  exact ⟨z.1, z.2.1, z.2.2, hz, s⟩
theorem Rep.toldM {E : Env} {th : TH} {h0 h : Heap} {L : List HP} (r : Rep E th h0 h L) {i : Nat} {d : KD} {m : List (FV × FV)} (hg : th.t.get i = some (.map d m)) :
    ∃ a l, E.p i = some a ∧ denM E d m = some l ∧ St h0 h (Mk.MapO (.map (some a.block)) l :: ((th.t.del i).all.map (part E) ++ (FzP E.z :: L))) := by
  obtain ⟨z, s⟩ := (r.pick hg).ex
  obtain ⟨hz, s⟩ := s.pure
  exact ⟨z.1, z.2, hz.1, hz.2, s⟩
theorem Rep.toldI {E : Env} {th : TH} {h0 h : Heap} {L : List HP} (r : Rep E th h0 h L) {i j c : Nat} {b : Bool} (hg : th.t.get i = some (.it j c b)) :
    ∃ a m, E.p i = some a ∧ E.p j = some m ∧ St h0 h (ItB a m.block c b :: ((th.t.del i).all.map (part E) ++ (FzP E.z :: L))) := by
  obtain ⟨z, s⟩ := (r.pick hg).ex
  obtain ⟨hz, s⟩ := s.pure
  exact ⟨z.1, z.2, hz.1, hz.2, s⟩
theorem Rep.toldR {E : Env} {th : TH} {h0 h : Heap} {L : List HP} (r : Rep E th h0 h L) {i : Nat} {cs : List FV} (hg : th.t.get i = some (.ro cs)) :
    ∃ a vs, RoIs E i cs a vs ∧ St h0 h (NoP :: ((th.t.del i).all.map (part E) ++ (FzP E.z :: L))) := by
  obtain ⟨z, s⟩ := (r.pick hg).ex
  obtain ⟨hz, s⟩ := s.pure
  exact ⟨z.1, z.2, hz, s⟩
theorem Rep.toldW {E : Env} {th : TH} {h0 h : Heap} {L : List HP} (r : Rep E th h0 h L) {i t : Nat} {es : List LD} (hg : th.t.get i = some (.row t es)) :
    ∃ a v ks, RowIs E i t es a v ks ∧ St h0 h (Row ks.length v es.length (LD.vsE ks es) :: ((th.t.del i).all.map (part E) ++ (FzP E.z :: L))) := by
  obtain ⟨z, s⟩ := (r.pick hg).ex
  obtain ⟨hz, s⟩ := s.pure
  exact ⟨z.1, z.2.1, z.2.2, hz, s⟩
theorem Rep.nx {E : Env} {th : TH} {h0 h : Heap} {L : List HP} (r : Rep E th h0 h L) : th.t.get th.nx = none := by
  cases hg : th.t.get th.nx with
  | none => rfl
  | some o =>
    cases o with
    | cells cs k =>
      obtain ⟨a, vs, post, hc, _⟩ := r.told hg
      have h1 := hc.1
      rw [(r.fr _ (Nat.le_refl _)).1] at h1
      cases h1
    | map d m =>
      obtain ⟨a, l, h1, _⟩ := r.toldM hg
      rw [(r.fr _ (Nat.le_refl _)).1] at h1
      cases h1
    | it j c b =>
      obtain ⟨a, m, h1, _⟩ := r.toldI hg
      rw [(r.fr _ (Nat.le_refl _)).1] at h1
      cases h1
    | ro cs =>
      obtain ⟨a, vs, h1, _⟩ := r.toldR hg
      have h1 := h1.1
      rw [(r.fr _ (Nat.le_refl _)).1] at h1
      cases h1
    | row t es =>
      obtain ⟨a, v, ks, h1, _⟩ := r.toldW hg
      have h1 := h1.p
      rw [(r.fr _ (Nat.le_refl _)).1] at h1
      cases h1
def Env.add (E : Env) (i : Nat) (a : Addr) (c : Nat) : Env := ⟨fun j => if j = i then some a else E.p j, fun j => if j = i then c else E.c j, E.r, E.h, E.z, E.s⟩
theorem Env.le_add {E : Env} {i : Nat} (a : Addr) (c : Nat) (h : E.p i = none ∧ E.r i = false) : E.Le (E.add i a c) := ⟨⟨fun j b hb => by
  have : j ≠ i := fun e => by rw [e, h.1] at hb; cases hb
  simp [Env.add, this, hb], rfl, fun _ hq => hq, fun _ _ _ => rfl⟩, fun j hj => by
  have : j ≠ i := fun e => by rw [e, h.2] at hj; cases hj
  simp [Env.add, this, hj]⟩
theorem Rep.add {E : Env} {th : TH} {h0 h : Heap} {L : List HP} {cs : List FV} {k c : Nat} {a : Addr} {vs post : List Value}
    (fr : ∀ i, th.nx ≤ i → E.p i = none ∧ E.r i = false) (eh : E.h = h0) (hn : th.t.get th.nx = none)
    (s : St h0 h (Cells (.pointer (some a)) (vs ++ post) :: (th.t.all.map (part E) ++ (FzP E.z :: L)))) (hd : denL E cs = some vs) (ho : cs.all oneF = true) (h1 : k = 0 → post = [] ∧ a.off = 0) (h2 : k ≠ 0 → vs.length + post.length = c * k) :
    E.Le (E.add th.nx a c) ∧ Rep (E.add th.nx a c) (th.new (.cells cs k)) h0 h L := by
  have hle := Env.le_add a c (fr th.nx (Nat.le_refl _))
  have hi : (E.add th.nx a c).p th.nx = some a := by simp [Env.add]
  have hc : (E.add th.nx a c).c th.nx = c := by simp [Env.add]
  refine ⟨hle, ⟨?_, fun i hi => ?_, eh⟩⟩
  · have hp : (part (E.add th.nx a c) (th.nx, .cells cs k) :: (th.t.all.map (part (E.add th.nx a c)) ++ (FzP E.z :: L))).Perm ((th.new (.cells cs k)).t.all.map (part (E.add th.nx a c)) ++ (FzP E.z :: L)) :=
      (((Tr.perm_new (TO.cells cs k) hn).map (part (E.add th.nx a c))).append_right _).symm
    refine St.perm ?_ hp
    have s2 : St h0 h (part (E.add th.nx a c) (th.nx, .cells cs k) :: (th.t.all.map (part E) ++ (FzP E.z :: L))) :=
      s.imp fun S ho' => ⟨(a, vs, post), ⟨hi, denL_mono hle hd, ho, h1, by rw [hc]; exact h2⟩, ho'⟩
    obtain ⟨he, S, hA, hS, r⟩ := s2
    exact ⟨he, S, hA, hS, Sep.imps (fun x S => part_mono hle.p) r⟩
  · have : i ≠ th.nx := by have : th.nx.succ ≤ i := hi; omega
    simp only [Env.add, this, if_false]
    exact fr i (by have : th.nx.succ ≤ i := hi; omega)

/-- A new thing without room. -/
theorem Rep.addO {E : Env} {th : TH} {h0 h : Heap} {L : List HP} {o : TO} {a : Addr} {A : HP} (fr : ∀ i, th.nx ≤ i → E.p i = none ∧ E.r i = false) (eh : E.h = h0) (hn : th.t.get th.nx = none)
    (s : St h0 h (A :: (th.t.all.map (part E) ++ (FzP E.z :: L)))) (g : ∀ S, A.own h S → (part (E.add th.nx a 0) (th.nx, o)).own h S) : E.Le (E.add th.nx a 0) ∧ Rep (E.add th.nx a 0) (th.new o) h0 h L := by
  have hle := Env.le_add a 0 (fr th.nx (Nat.le_refl _))
  refine ⟨hle, ⟨?_, fun i hi => ?_, eh⟩⟩
  · have hp : (part (E.add th.nx a 0) (th.nx, o) :: (th.t.all.map (part (E.add th.nx a 0)) ++ (FzP E.z :: L))).Perm ((th.new o).t.all.map (part (E.add th.nx a 0)) ++ (FzP E.z :: L)) :=
      (((Tr.perm_new o hn).map (part (E.add th.nx a 0))).append_right _).symm
    refine St.perm ?_ hp
    obtain ⟨he, S, hA, hS, r⟩ := s.imp g
    exact ⟨he, S, hA, hS, Sep.imps (fun x S => part_mono hle.p) r⟩
  · have : i ≠ th.nx := by have : th.nx.succ ≤ i := hi; omega
    simp only [Env.add, this, if_false]
    exact fr i (by have : th.nx.succ ≤ i := hi; omega)
/-- A new row of one's own. -/
def Env.addR (E : Env) (i : Nat) (v : Value) : Env := ⟨fun j => if j = i then some ⟨0, 0, none⟩ else E.p j, fun j => if j = i then 0 else E.c j, E.r, E.h, E.z, fun j => if j = i then v else E.s j⟩
theorem Env.le_addR {E : Env} {i : Nat} (v : Value) (h : E.p i = none ∧ E.r i = false) : E.Le (E.addR i v) := ⟨⟨fun j b hb => by
  have : j ≠ i := fun e => by rw [e, h.1] at hb; cases hb
  simp [Env.addR, this, hb], rfl, fun _ hq => hq, fun j b hb => by
  have : j ≠ i := fun e => by rw [e, h.1] at hb; cases hb
  simp [Env.addR, this]⟩, fun j hj => by
  have : j ≠ i := fun e => by rw [e, h.2] at hj; cases hj
  simp [Env.addR, this, hj]⟩
theorem Rep.addW {E : Env} {th : TH} {h0 h : Heap} {L : List HP} {t : Nat} {es : List LD} {v : Value} {ks : List CK} (fr : ∀ i, th.nx ≤ i → E.p i = none ∧ E.r i = false) (eh : E.h = h0) (hn : th.t.get th.nx = none)
    (ly : Vb.ly[t]? = some ks) (ne : ks ≠ []) (w : wtE es ks) (li : liesE E.rd es ks) (len : es.length ≤ maxL)
    (s : St h0 h (Row ks.length v es.length (LD.vsE ks es) :: (th.t.all.map (part E) ++ (FzP E.z :: L)))) : E.Le (E.addR th.nx v) ∧ Rep (E.addR th.nx v) (th.new (.row t es)) h0 h L ∧ den (E.addR th.nx v) (.os t th.nx) = some v := by
  have hle := Env.le_addR v (fr th.nx (Nat.le_refl _))
  refine ⟨hle, ⟨?_, fun i hi => ?_, eh⟩, ?_⟩
  · have hp : (part (E.addR th.nx v) (th.nx, .row t es) :: (th.t.all.map (part (E.addR th.nx v)) ++ (FzP E.z :: L))).Perm ((th.new (.row t es)).t.all.map (part (E.addR th.nx v)) ++ (FzP E.z :: L)) :=
      (((Tr.perm_new (TO.row t es) hn).map (part (E.addR th.nx v))).append_right _).symm
    refine St.perm ?_ hp
    obtain ⟨he, S, hA, hS, r⟩ := s
    exact ⟨he, S, ⟨(⟨0, 0, none⟩, v, ks), ⟨by simp [Env.addR], by simp [Env.addR], ly, ne, w, liesE_mono (fun _ _ => hle.p.rd) li, len⟩, hA⟩, hS, Sep.imps (fun x S => part_mono hle.p) r⟩
  · have : i ≠ th.nx := by have : th.nx.succ ≤ i := hi; omega
    simp only [Env.addR, this, if_false]
    exact fr i (by have : th.nx.succ ≤ i := hi; omega)
  · obtain ⟨⟨a, c, hv⟩, _, _⟩ := s.row
    simp [den, Env.addR, hv]
/-- A new map. -/
theorem Rep.addM {E : Env} {th : TH} {h0 h : Heap} {L : List HP} {d : KD} {a : Addr} (fr : ∀ i, th.nx ≤ i → E.p i = none ∧ E.r i = false) (eh : E.h = h0) (hn : th.t.get th.nx = none)
    (s : St h0 h (Mk.MapO (.map (some a.block)) [] :: (th.t.all.map (part E) ++ (FzP E.z :: L)))) : E.Le (E.add th.nx a 0) ∧ Rep (E.add th.nx a 0) (th.new (.map d [])) h0 h L :=
  Rep.addO fr eh hn s fun S ho' => ⟨(a, []), ⟨by simp [Env.add], rfl⟩, ho'⟩

/-! ### Reading -/
def hd? {α : Type} : List α → Option α
  | [] => none
  | a :: _ => some a
def dropF {α : Type} (n : Nat) : List α → List α := Nat.rec (motive := fun _ => List α → List α) (fun l => l) (fun _ ih l => List.rec (motive := fun _ => List α) [] (fun _ r _ => ih r) l) n
theorem dropF_eq {α : Type} : ∀ (n : Nat) (l : List α), dropF n l = l.drop n
  | 0, l => rfl
  | n + 1, [] => rfl
  | n + 1, a :: r => by
    show dropF n r = _
    simp [dropF_eq n r]
/-- The first n; none where there are fewer. -/
def takeF {α : Type} (n : Nat) : List α → Option (List α) := Nat.rec (motive := fun _ => List α → Option (List α)) (fun _ => some [])
  (fun _ ih l => List.rec (motive := fun _ => Option (List α)) none (fun a r _ => Option.rec (motive := fun _ => Option (List α)) none (fun t => some (a :: t)) (ih r)) l) n
theorem takeF_zero {α : Type} (l : List α) : takeF 0 l = some [] := rfl
theorem takeF_nil {α : Type} (n : Nat) : takeF (n + 1) ([] : List α) = none := rfl
theorem takeF_cons {α : Type} (n : Nat) (a : α) (r : List α) : takeF (n + 1) (a :: r) = match takeF n r with
    | some t => some (a :: t)
    | none => none := by
  show Option.rec (motive := fun _ => Option (List α)) none (fun t => some (a :: t)) (takeF n r) = _
  cases takeF n r <;> rfl
theorem takeF_some {α : Type} : ∀ {n : Nat} {l t : List α}, takeF n l = some t → t = l.take n ∧ n ≤ l.length
  | 0, l, t, h => by rw [takeF_zero] at h; simp only [Option.some.injEq] at h; subst h; simp
  | n + 1, [], t, h => by rw [takeF_nil] at h; cases h
  | n + 1, a :: r, t, h => by
    rw [takeF_cons] at h
    cases ht : takeF n r with
    | none => rw [ht] at h; cases h
    | some u =>
      rw [ht] at h
      simp only [Option.some.injEq] at h
      obtain ⟨h1, h2⟩ := takeF_some ht
      subst h
      exact ⟨by simp [h1], by simpa using h2⟩
theorem hd?_some {α : Type} {l : List α} {a : α} {n : Nat} (h : hd? (dropF n l) = some a) : l[n]? = some a := by
  rw [dropF_eq] at h
  have : (l.drop n)[0]? = some a := by
    cases hl : l.drop n with
    | nil => rw [hl] at h; cases h
    | cons x r => rw [hl] at h; simpa [hd?] using h
  simpa [List.getElem?_drop] using this
/-- Cells put over others, from the n-th on; none where they don't fit. -/
def ovr (xs : List FV) : List FV → Option (List FV) := List.rec (motive := fun _ => List FV → Option (List FV)) (fun cs => some cs)
  (fun x _ ih cs => List.rec (motive := fun _ => Option (List FV)) none (fun _ r _ => Option.rec (motive := fun _ => Option (List FV)) none (fun t => some (x :: t)) (ih r)) cs) xs
theorem ovr_nil (cs : List FV) : ovr [] cs = some cs := rfl
theorem ovr_no (x : FV) (xs : List FV) : ovr (x :: xs) [] = none := rfl
theorem ovr_cons (x : FV) (xs : List FV) (c : FV) (r : List FV) : ovr (x :: xs) (c :: r) = match ovr xs r with
    | some t => some (x :: t)
    | none => none := by
  show Option.rec (motive := fun _ => Option (List FV)) none (fun t => some (x :: t)) (ovr xs r) = _
  cases ovr xs r <;> rfl
def splO (xs : List FV) (n : Nat) : List FV → Option (List FV) := Nat.rec (motive := fun _ => List FV → Option (List FV)) (fun cs => ovr xs cs)
  (fun _ ih cs => List.rec (motive := fun _ => Option (List FV)) none (fun c r _ => Option.rec (motive := fun _ => Option (List FV)) none (fun t => some (c :: t)) (ih r)) cs) n
theorem splO_zero (xs cs : List FV) : splO xs 0 cs = ovr xs cs := rfl
theorem splO_nil (xs : List FV) (n : Nat) : splO xs (n + 1) [] = none := rfl
theorem splO_cons (xs : List FV) (n : Nat) (c : FV) (r : List FV) : splO xs (n + 1) (c :: r) = match splO xs n r with
    | some t => some (c :: t)
    | none => none := by
  show Option.rec (motive := fun _ => Option (List FV)) none (fun t => some (c :: t)) (splO xs n r) = _
  cases splO xs n r <;> rfl
theorem ovr_some : ∀ {xs cs t : List FV}, ovr xs cs = some t → t = xs ++ cs.drop xs.length ∧ xs.length ≤ cs.length
  | [], cs, t, h => by rw [ovr_nil] at h; simp only [Option.some.injEq] at h; subst h; simp
  | x :: xs, [], t, h => by rw [ovr_no] at h; cases h
  | x :: xs, c :: r, t, h => by
    rw [ovr_cons] at h
    cases ht : ovr xs r with
    | none => rw [ht] at h; cases h
    | some u =>
      rw [ht] at h
      simp only [Option.some.injEq] at h
      obtain ⟨h1, h2⟩ := ovr_some ht
      subst h
      exact ⟨by simp [h1], by simpa using h2⟩
theorem splO_some {xs : List FV} : ∀ {n : Nat} {cs t : List FV}, splO xs n cs = some t → t = setF cs n xs ∧ n + xs.length ≤ cs.length
  | 0, cs, t, h => by
    obtain ⟨h1, h2⟩ := ovr_some h
    exact ⟨by rw [h1, setF_zero xs cs h2], by omega⟩
  | n + 1, [], t, h => by rw [splO_nil] at h; cases h
  | n + 1, c :: r, t, h => by
    rw [splO_cons] at h
    cases ht : splO xs n r with
    | none => rw [ht] at h; cases h
    | some u =>
      rw [ht] at h
      simp only [Option.some.injEq] at h
      obtain ⟨h1, h2⟩ := splO_some ht
      subst h
      exact ⟨by rw [h1, setF_cons], by simp; omega⟩
theorem setF_all : ∀ {xs cs : List FV} {n : Nat}, cs.all oneF = true → xs.all oneF = true → (setF cs n xs).all oneF = true
  | [], cs, n, h, _ => h
  | x :: xs, cs, n, h, hx => by
    simp only [List.all_cons, Bool.and_eq_true] at hx
    show (setF (cs.set n x) (n + 1) xs).all oneF = true
    refine setF_all ?_ hx.2
    rw [List.all_eq_true] at h ⊢
    intro y hy
    rcases List.mem_or_eq_of_mem_set hy with h1 | rfl
    · exact h y h1
    · exact hx.1
end Go.Va
