/- Numbers put in for variables; loops that are reckoned. No program. -/
import Derived.Test.YtaaedipojhnjjaaGreatVsc
set_option linter.unusedVariables false
set_option linter.unusedSectionVars false
set_option linter.unusedSimpArgs false
noncomputable section
namespace Go.Va
open Go Go.Sh

/-! ### Numbers put in for variables -/
def SE.inp (f : Nat → SE) : SE → SE
  | .c n => .c n
  | .v i => f i
  | .len i => .len i
  | .add a b => .add (a.inp f) (b.inp f)
  | .sub a b => .sub (a.inp f) (b.inp f)
  | .mul a b => .mul (a.inp f) (b.inp f)
  | .quo a b => .quo (a.inp f) (b.inp f)
  | .rem a b => .rem (a.inp f) (b.inp f)
  | .div a b => .div (a.inp f) (b.inp f)
  | .mod a b => .mod (a.inp f) (b.inp f)
  | .wrap k a => .wrap k (a.inp f)
  | .mn a b => .mn (a.inp f) (b.inp f)
  | .mx a b => .mx (a.inp f) (b.inp f)
def SC.inp (f : Nat → SE) : SC → SC
  | .lt a b => .lt (a.inp f) (b.inp f)
  | .le a b => .le (a.inp f) (b.inp f)
  | .eq a b => .eq (a.inp f) (b.inp f)
  | .no c => .no (c.inp f)
  | .and c d => .and (c.inp f) (d.inp f)
  | .sq i j => .sq i j
  | .sk i l => .sk i l
def SB.inp (f : Nat → SE) : SB → SB
  | .k n => .k n
  | .v n lo hi => .v (n.inp f) lo hi
mutual
def FV.inp (f : Nat → SE) : FV → FV
  | .bool b => .bool b
  | .int k n => .int k n
  | .sy k n lo hi => .sy k (n.inp f) lo hi
  | .sb b => .sb (b.inp f)
  | .sstr i => .sstr i
  | .sx l => .sx (l.map (SB.inp f))
  | .str l => .str l
  | .nilp => .nilp
  | .ptr i o => .ptr i o
  | .nsl => .nsl
  | .sl a b c d e => .sl a b c d e
  | .nilm => .nilm
  | .map i => .map i
  | .nilf => .nilf
  | .fn g a b => .fn g (FV.inpL f a) (FV.inpL f b)
  | .nili => .nili
  | .ifc t v => .ifc t (v.inp f)
  | .agg cs => .agg (FV.inpL f cs)
  | .tup cs => .tup (FV.inpL f cs)
def FV.inpL (f : Nat → SE) : List FV → List FV
  | [] => []
  | x :: r => x.inp f :: FV.inpL f r
end
def inpM (f : Nat → SE) : List (FV × FV) → List (FV × FV)
  | [] => []
  | p :: r => (p.1, p.2.inp f) :: inpM f r
def TO.inp (f : Nat → SE) : TO → TO
  | .cells cs k => .cells (FV.inpL f cs) k
  | .map d m => .map d (inpM f m)
def inpTs (f : Nat → SE) : List (Nat × TO) → List (Nat × TO)
  | [] => []
  | p :: r => (p.1, p.2.inp f) :: inpTs f r
def Sm.inp (f : Nat → SE) (S : Sm) : Sm := ⟨FV.inpL f S.l0, inpTs f S.t0, S.nx0, S.x1.inp f, inpTs f S.t1, S.nx1⟩
def LS.inp (f : Nat → SE) (S : LS) : LS := ⟨S.i0, S.i1, S.e, S.l, S.s.inp f⟩
/-- Numbers as a list; others stay. -/
def lkS (l : List SE) (i : Nat) : SE := match hd? (dropF i l) with
  | some e => e
  | none => .v i
/-- What variables stand for there is what is put in for them here. -/
structure Puts (B B' : Vb) (f : Nat → SE) : Prop where
  n : ∀ i, B'.n i = @SE.ev B (f i)
  s : ∀ i, B'.s i = B.s i
section
variable {B B' : Vb} {f : Nat → SE}
theorem SE.ev_sub (h : Puts B B' f) : ∀ e : SE, @SE.ev B (e.inp f) = @SE.ev B' e
  | .c n => rfl
  | .v i => (h.n i).symm
  | .len i => by simp only [SE.inp, SE.ev, h.s]
  | .add a b => by simp only [SE.inp, SE.ev, SE.ev_sub h a, SE.ev_sub h b]
  | .sub a b => by simp only [SE.inp, SE.ev, SE.ev_sub h a, SE.ev_sub h b]
  | .mul a b => by simp only [SE.inp, SE.ev, SE.ev_sub h a, SE.ev_sub h b]
  | .quo a b => by simp only [SE.inp, SE.ev, SE.ev_sub h a, SE.ev_sub h b]
  | .rem a b => by simp only [SE.inp, SE.ev, SE.ev_sub h a, SE.ev_sub h b]
  | .div a b => by simp only [SE.inp, SE.ev, SE.ev_sub h a, SE.ev_sub h b]
  | .mod a b => by simp only [SE.inp, SE.ev, SE.ev_sub h a, SE.ev_sub h b]
  | .wrap k a => by simp only [SE.inp, SE.ev, SE.ev_sub h a]
  | .mn a b => by simp only [SE.inp, SE.ev, SE.ev_sub h a, SE.ev_sub h b]
  | .mx a b => by simp only [SE.inp, SE.ev, SE.ev_sub h a, SE.ev_sub h b]
theorem SC.ev_sub (h : Puts B B' f) : ∀ c : SC, @SC.ev B (c.inp f) = @SC.ev B' c
  | .lt a b => by simp only [SC.inp, SC.ev, SE.ev_sub h a, SE.ev_sub h b]
  | .le a b => by simp only [SC.inp, SC.ev, SE.ev_sub h a, SE.ev_sub h b]
  | .eq a b => by simp only [SC.inp, SC.ev, SE.ev_sub h a, SE.ev_sub h b]
  | .no c => by simp only [SC.inp, SC.ev, SC.ev_sub h c]
  | .and c d => by simp only [SC.inp, SC.ev, SC.ev_sub h c, SC.ev_sub h d]
  | .sq i j => by simp only [SC.inp, SC.ev, h.s]
  | .sk i l => by simp only [SC.inp, SC.ev, h.s]
theorem sbs_sub (h : Puts B B' f) : ∀ l : List SB, @sbsOk B (l.map (SB.inp f)) = @sbsOk B' l ∧ (l.map (SB.inp f)).map (@sbU B) = l.map (@sbU B')
  | [] => ⟨rfl, rfl⟩
  | .k n :: r => by
    obtain ⟨h1, h2⟩ := sbs_sub h r
    simp only [sbsOk] at h1
    simp only [sbsOk, List.map_cons, SB.inp, List.all_cons, h1, h2, sbOk, sbU]
    exact ⟨trivial, trivial⟩
  | .v n lo hi :: r => by
    obtain ⟨h1, h2⟩ := sbs_sub h r
    simp only [sbsOk] at h1
    simp only [sbsOk, List.map_cons, SB.inp, List.all_cons, h1, h2, sbOk, sbU, SE.ev_sub h]
    exact ⟨trivial, trivial⟩
theorem oneF_sub (x : FV) : oneF (x.inp f) = oneF x := by cases x <;> rfl
theorem all_sub : ∀ l : List FV, (FV.inpL f l).all oneF = l.all oneF
  | [] => rfl
  | x :: r => by simp only [FV.inpL, List.all_cons, oneF_sub, all_sub r]
mutual
theorem den_sub (h : Puts B B' f) (E : Env) : ∀ x : FV, @den B E (x.inp f) = @den B' E x
  | .bool b => rfl
  | .int k n => rfl
  | .sy k n lo hi => by simp only [FV.inp, den, SE.ev_sub h]
  | .sb b => by simp only [FV.inp, den, SC.ev_sub h]
  | .sstr i => by simp only [FV.inp, den, h.s]
  | .sx l => by simp only [FV.inp, den, (sbs_sub h l).1, (sbs_sub h l).2]
  | .str l => rfl
  | .nilp => rfl
  | .ptr i o => rfl
  | .nsl => rfl
  | .sl a b c d e => rfl
  | .nilm => rfl
  | .map i => rfl
  | .nilf => rfl
  | .fn g a b => by simp only [FV.inp, den, denL_sub h E a, denL_sub h E b]
  | .nili => rfl
  | .ifc t v => by simp only [FV.inp, den, den_sub h E v]
  | .agg cs => by simp only [FV.inp, den, denL_sub h E cs, all_sub]
  | .tup cs => by simp only [FV.inp, den, denL_sub h E cs]
theorem denL_sub (h : Puts B B' f) (E : Env) : ∀ l : List FV, @denL B E (FV.inpL f l) = @denL B' E l
  | [] => rfl
  | x :: r => by simp only [FV.inpL, denL, den_sub h E x, denL_sub h E r]
end
theorem denM_sub (h : Puts B B' f) (E : Env) (d : KD) : ∀ l : List (FV × FV), @denM B E d (inpM f l) = @denM B' E d l
  | [] => rfl
  | p :: r => by simp only [inpM, denM, den_sub h, denM_sub h E d r]
theorem part_sub (h : Puts B B' f) (E : Env) (i : Nat) : ∀ o : TO, @part B E (i, o.inp f) = @part B' E (i, o)
  | .cells cs k => by
    unfold part
    simp only [TO.inp, CellsIs, denL_sub h, all_sub]
  | .map d m => by
    unfold part
    simp only [TO.inp, denM_sub h]
theorem parts_sub (h : Puts B B' f) (E : Env) : ∀ l : List (Nat × TO), (inpTs f l).map (@part B E) = l.map (@part B' E)
  | [] => rfl
  | p :: r => by
    simp only [inpTs, List.map_cons, parts_sub h E r]
    rw [part_sub h E]
theorem LsOk.sub_iff [Gd] (h : Puts B B' f) {P : Program} {n : Nat} {x : Code} {S : LS} : @LsOk B _ P n x (S.inp f) ↔ @LsOk B' _ P n x S := by
  unfold LsOk
  simp only [LS.inp, Sm.inp, parts_sub h, denL_sub h, den_sub h]
theorem SmOk.sub_iff [Gd] (h : Puts B B' f) {P : Program} {i : Nat} {S : Sm} : @SmOk B _ P i (S.inp f) ↔ @SmOk B' _ P i S := by
  unfold SmOk
  simp only [Sm.inp, parts_sub h, denL_sub h, den_sub h]
end

/-- What variables stand for behind what is put in. -/
abbrev putB (B : Vb) (f : Nat → SE) : Vb := ⟨fun i => @SE.ev B (f i), B.s, B.sl⟩
theorem puts (B : Vb) (f : Nat → SE) : Puts B (putB B f) f := ⟨fun _ => rfl, fun _ => rfl⟩

/-! ### Loops that are reckoned -/
/-- A function's loop of this name, and its small code. -/
structure LpOk [Vl] (P : Program) (i n m l : Nat) (a : CF) : Prop where
  h : ∃ fn : Func, P.funcs[i]? = some fn ∧ fn.ntmps = n ∧ ∀ c, fn.body = some c → ∀ y ∈ loopsOf c, fidN y = l → ∃ pls fc, cC P n m pls y = some fc ∧ evCF fc = a
/-- A function's loops come to what is said. -/
def LsI [Vb] (P : Program) (i : Nat) (S : LS) : Prop := ∀ fn, P.funcs[i]? = some fn → ∀ c, fn.body = some c → ∀ y ∈ loopsOf c, fidN y = S.l → ∀ G : Gd, @LsOk _ G P fn.ntmps y S
theorem LsI.sub_iff {B B' : Vb} {f : Nat → SE} (h : Puts B B' f) {P : Program} {i : Nat} {S : LS} : @LsI B P i (S.inp f) ↔ @LsI B' P i S := by
  unfold LsI
  constructor
  · intro k fn h1 c h2 y hy hl G
    exact (@LsOk.sub_iff _ _ _ G h _ _ _ _).1 (k fn h1 c h2 y hy hl G)
  · intro k fn h1 c h2 y hy hl G
    exact (@LsOk.sub_iff _ _ _ G h _ _ _ _).2 (k fn h1 c h2 y hy hl G)
section
variable [Vl]
def kF : KF := fun _ _ => False
/-- At the loop's end all is as it is said. -/
def kX (S : LS) (j : Nat) : KF := fun fr th => bif Nat.beq j S.e then match getL fr S.i1 with
  | some l => FV.tup l = S.s.x1 ∧ subT S.s.t1 th.t
  | none => False else False
/-- A turn of a loop; then what is said of the loop. -/
def lsRun (tab : Tr FFn) (b lf nf m : Nat) (a : CF) (sc : Scr) (S : LS) (ls : List LS) : Prop := match putL m (.base m .nil) S.i0 S.s.l0 with
  | some fr => a (callFF (engF tab lf nf)) ⟨lf, ls⟩ fr ⟨bldT b S.s.t0, S.s.nx0, sc⟩ (fun fr th => lpF m S.l (callFF (engF tab lf nf)) a ls lf fr th kF (kX S) kF) (kX S) kF
  | none => False
variable {P : Program}
theorem ls_ok {tab : Tr FFn} {b lf nf m n i : Nat} {a : CF} {sc : Scr} {S : LS} {ls : List LS} (ht : ∀ i f, tab.get i = some f → KOk P i f) (hl : LpOk P i n m S.l a) (hls : ∀ S' ∈ ls, LsI P i S')
    (n0 : nodupN (S.s.t0.map (·.1)) = true) (n1 : nodupN (S.s.t1.map (·.1)) = true) (hx : lsRun tab b lf nf m a sc S ls) : LsI P i S := fun fn hfn c hc y hy hyl G => by
  intro E h0 L vs w0 w f Q st hfr hd hs hg hp hpk hk
  obtain ⟨fn', e1, e2, e3⟩ := hl.h
  rw [hfn] at e1; simp only [Option.some.injEq] at e1; subst e1
  obtain ⟨pls, fc, hcc, rfl⟩ := e3 c hc y hy hyl
  subst e2
  unfold lsRun at hx
  cases hf : putL m (.base m .nil) S.i0 S.s.l0 with
  | none => rw [hf] at hx; exact hx.elim
  | some fr =>
    rw [hf] at hx
    simp only [evCF_eq, callFF_eq, engF_eq, lpF_eq] at hx
    haveI := hp
    have r : Rep E ⟨bldT b S.s.t0, S.s.nx0, sc⟩ h0 w.heap L := ⟨st.perm (((bldT_perm (nodupN_iff n0)).map (part E)).append_right L).symm, hfr⟩
    obtain ⟨g1, g2⟩ := putL_ok (E := E) (n := fn.ntmps) (f := f) hf (fun t y hy => by rw [Fr.get_nil] at hy; cases hy) (fun k hk => Fr.get_nil k m) hd hg
    have hE : ∀ j, KT m fn.ntmps h0 L w0 E (kX S j) (Q (.exit j)) := fun j F fr' th' f' w' hle ha' hc' r' hs' hx' => by
      unfold kX at hx'
      cases hj : Nat.beq j S.e with
      | false => rw [hj] at hx'; exact hx'.elim
      | true =>
        rw [hj, cond_true] at hx'
        have hj := beq_t hj
        subst hj
        cases hl : getL fr' S.i1 with
        | none => rw [hl] at hx'; exact hx'.elim
        | some l =>
          rw [hl] at hx'
          obtain ⟨hx1, hx2⟩ := hx'
          obtain ⟨us, d1, d2⟩ := getL_agr ha' hl
          obtain ⟨rest, hperm⟩ := sub_perm (nodupN_iff n1) (subT_mem hx2)
          have s1 := r'.st.perm ((hperm.map (part F)).append_right L)
          rw [List.map_append, List.append_assoc] at s1
          have s2 : St h0 w'.heap ((S.s.t1.map (part F) ++ L) ++ rest.map (part F)) := s1.perm (by
            rw [List.append_assoc]
            exact List.perm_append_comm.append_left _)
          exact hk f' w' us.toArray F hle (by rw [← hx1]; simp only [den, d1]) s2.split hs' d2
    have hR : KT m fn.ntmps h0 L w0 E kF (Q .ret) := fun F fr' th' f' w' _ _ _ _ _ hx' => hx'.elim
    have hcl := callF_ok (eng_ok (P := P) (lf := lf) ht nf)
    have hls' : ∀ z ∈ loopsOf (.loop y), ∀ S' ∈ ls, fidN z = S'.l → LsOk P fn.ntmps z S' := fun z hz S' hS' hzl => by
      have hz : z ∈ y :: loopsOf y := hz
      rcases List.mem_cons.1 hz with rfl | hz
      · exact hls S' hS' fn hfn c hc z hy hzl G
      · exact hls S' hS' fn hfn c hc z (loops_sub hy hz) hzl G
    refine Tn_step (evC_ok hcl y fc hcc ⟨lf, ls⟩ fr _ (fun fr th => lpN m S.l (callF (eng tab lf nf)) (evC fc) ls lf fr th kF (kX S) kF) (kX S) kF E f w (Exit.then (Tn P y Q) Q) hx g1 g2 r hs pnOk_then (panicOk_then hpk) (fun z hz => hls' z (.tail _ hz)) (fun F fr' th' f' w' a1 a2 a2' a3 a4 a5 => ?_) hE hR)
    rw [← hyl] at a5
    exact lp_ok hcl hcc hls' hp hpk hE hR lf F fr' th' f' w' a1 a5 a2 a2' a3 a4
theorem ls_eq {tab : Tr FFn} {b lf nf m n i : Nat} {a : CF} {sc : Scr} {S : LS} {ls : List LS} (ht : ∀ i f, tab.get i = some f → KOk P i f) (hl : LpOk P i n m S.l a) (hls : ∀ S' ∈ ls, LsI P i S')
    (n0 : nodupN (S.s.t0.map (·.1)) = true) (n1 : nodupN (S.s.t1.map (·.1)) = true) (hx : lsRun tab b lf nf m a sc S ls = (S.s.x1 = S.s.x1 ∧ reflT S.s.t1)) : LsI P i S :=
  ls_ok ht hl hls n0 n1 (by rw [hx]; exact ⟨rfl, reflT_ok _⟩)
theorem lp_of {fn : Func} {i n m l : Nat} {pls : List (Nat × RP)} {a : CF} (hf : P.funcs[i]? = some fn) (hn : fn.ntmps = n)
    (h : (match fn.body with | some c => ((loopsOf c).filter (fun y => Nat.beq (fidN y) l)).map (fun y => match cC P n m pls y with | some fc => some (evCF fc) | none => none) | none => []) = [some a]) : LpOk P i n m l a := ⟨fn, hf, hn, fun c hc y hy hl => by
  rw [hc] at h
  simp only at h
  have hy' : y ∈ (loopsOf c).filter (fun y => Nat.beq (fidN y) l) := List.mem_filter.2 ⟨hy, by simp [hl]⟩
  have h1 := List.mem_map_of_mem (f := fun y => match cC P n m pls y with | some fc => some (evCF fc) | none => none) hy'
  rw [h] at h1
  have h4 := List.mem_singleton.1 h1
  cases hcc : cC P n m pls y with
  | none => rw [hcc] at h4; cases h4
  | some fc =>
    rw [hcc] at h4
    simp only [Option.some.injEq] at h4
    exact ⟨pls, fc, hcc, h4⟩⟩
end
end Go.Va
