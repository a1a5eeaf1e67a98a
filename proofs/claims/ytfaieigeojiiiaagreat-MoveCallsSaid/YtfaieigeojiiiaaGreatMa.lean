/- For every input 'MoveCalls' returns true, and its arguments read behind the call as they did before; under no condition. -/
import Derived.Test.YtfaieigeojiiiaaGreatMz
import Derived.Test.YtfaieigeojiiiaaGreatFl
import Derived.Test.YtfaieigeojiiiaaGreatFw
set_option linter.unusedVariables false
set_option maxRecDepth 100000
namespace Go.Proofs.YtfaieigeojiiiaaGreat.moveCalls
open Go Go.Sh Go.Va Go.ChangeShapes Go.WideShapes Go.ChangeAt Go.RowKit
theorem o2 : Opk Tryz.prog 2 [.i .i64] := opk_int Tryz.underlying2 (by kernel_rfl)
theorem o3 : Opk Tryz.prog 3 [.i .i64] := opk_int Tryz.underlying3 (by kernel_rfl)
theorem o4 : Opk Tryz.prog 4 [.b] := opk_bool Tryz.underlying4 (by kernel_rfl)
theorem o5 : Opk Tryz.prog 5 [.i .u8] := opk_int Tryz.underlying5 (by kernel_rfl)
theorem o9 : Opk Tryz.prog 9 [.s] := opk_str Tryz.underlying9 (by kernel_rfl)
theorem o73 : Opk Tryz.prog 73 [.i .i64, .i .i64] := opk_struct Tryz.underlying73 (by kernel_rfl) (.cons _ _ _ [.i .i64] [.i .i64] rfl o3 (.cons _ _ _ [.i .i64] [] rfl o3 (.nil _)))
theorem o22 : Opk Tryz.prog 22 [.l 1] := opk_slice Tryz.underlying22 (by kernel_rfl) (by decide) rfl o73
theorem o24 : Opk Tryz.prog 24 [.b, .i .i64, .i .i64] := opk_struct Tryz.underlying24 (by kernel_rfl) (.cons _ _ _ [.b] [.i .i64, .i .i64] rfl o4 (.cons _ _ _ [.i .i64] [.i .i64] rfl o2 (.cons _ _ _ [.i .i64] [] rfl o2 (.nil _))))
theorem o30 : Opk Tryz.prog 30 [.s, .b, .i .i64, .i .i64] := opk_struct Tryz.underlying30 (by kernel_rfl) (.cons _ _ _ [.s] [.b, .i .i64, .i .i64] rfl o9 (.cons _ _ _ [.b, .i .i64, .i .i64] [] rfl o24 (.nil _)))
theorem o25 : Opk Tryz.prog 25 [.l 0] := opk_slice Tryz.underlying25 (by kernel_rfl) (by decide) rfl o30
theorem o27 : Opk Tryz.prog 27 [.l 1, .b, .b, .i .i64, .i .i64, .l 0] := opk_struct Tryz.underlying27 (by kernel_rfl) (.cons _ _ _ [.l 1] [.b, .b, .i .i64, .i .i64, .l 0] rfl o22 (.cons _ _ _ [.b] [.b, .i .i64, .i .i64, .l 0] rfl o4 (.cons _ _ _ [.b, .i .i64, .i .i64] [.l 0] rfl o24 (.cons _ _ _ [.l 0] [] rfl o25 (.nil _)))))
abbrev aw (al : LD) (en so : Bool) (rl rh : Int) (mod : LD) (lo hi wr : Int) : List FV := [.agg [.ds 1 al, .sb (.o en), .sb (.o so), .sy .i64 (.o rl) (loK .i64) (hiK .i64), .sy .i64 (.o rh) (loK .i64) (hiK .i64), .ds 0 mod], .sy .i64 (.o lo) (loK .i64) (hiK .i64), .sy .i64 (.o hi) (loK .i64) (hiK .i64), .sy .u8 (.o wr) 0 255]
structure Run (al : LD) (en so : Bool) (rl rh : Int) (mod : LD) (lo hi wr : Int) : Prop where
  run : ∃ s, eng (tabW q52 q85 q79 q12 q13 qq24 qq94 qq135 qq3) 100 100 3 (aw al en so rl rh mod lo hi wr) ⟨skel 12 0, 0, s⟩ fun x _ => ansB x
theorem runs_all (al : LD) (en so : Bool) (rl rh : Int) (mod : LD) (lo hi wr : Int) : Run al en so rl rh mod lo hi wr := by
  cases hm : (decide (5 < (Int.ofNat mod.len))) with
  | true => exact ⟨_, ra hm⟩
  | false =>
  cases ha : (decide (5 < (Int.ofNat al.len))) with
  | true => exact ⟨_, rb hm ha⟩
  | false =>
  have hx : (decide ((max lo hi) < (min lo hi))) = false := decide_eq_false (by omega)
  by_cases h1 : wr % 3 = 1
  · have d1 : (decide ((wr % 3) = 1)) = true := decide_eq_true h1
    have d2 : (decide ((wr % 3) = 2)) = false := decide_eq_false (by omega)
    have d3 : (decide (0 < (wr % 3))) = true := decide_eq_true (by omega)
    cases so with
    | false => exact ⟨_, r1f hm ha hx d1 d2 d3⟩
    | true =>
      cases hr : (decide (rh < rl)) with
      | true => exact ⟨_, r1n hm ha hx d1 d2 d3 hr⟩
      | false => exact ⟨_, r1g hm ha hx d1 d2 d3 hr⟩
  have d1 : (decide ((wr % 3) = 1)) = false := decide_eq_false h1
  by_cases h2 : wr % 3 = 2
  · have d2 : (decide ((wr % 3) = 2)) = true := decide_eq_true h2
    have d3 : (decide (0 < (wr % 3))) = true := decide_eq_true (by omega)
    cases so with
    | false => exact ⟨_, r2f hm ha hx d1 d2 d3⟩
    | true =>
      cases hr : (decide (rh < rl)) with
      | true => exact ⟨_, r2n hm ha hx d1 d2 d3 hr⟩
      | false => exact ⟨_, r2g hm ha hx d1 d2 d3 hr⟩
  have d2 : (decide ((wr % 3) = 2)) = false := decide_eq_false h2
  have d3 : (decide (0 < (wr % 3))) = false := decide_eq_false (by omega)
  cases hal : (decide (0 < (Int.ofNat al.len))) with
  | true =>
    cases en with
    | true =>
      cases so with
      | false => exact ⟨_, r0ftt hm ha hx d1 d2 d3 hal⟩
      | true =>
        cases hr : (decide (rh < rl)) with
        | true => exact ⟨_, r0ntt hm ha hx d1 d2 d3 hr hal⟩
        | false => exact ⟨_, r0gtt hm ha hx d1 d2 d3 hr hal⟩
    | false =>
      cases so with
      | false => exact ⟨_, r0ftf hm ha hx d1 d2 d3 hal⟩
      | true =>
        cases hr : (decide (rh < rl)) with
        | true => exact ⟨_, r0ntf hm ha hx d1 d2 d3 hr hal⟩
        | false => exact ⟨_, r0gtf hm ha hx d1 d2 d3 hr hal⟩
  | false =>
    cases en with
    | true =>
      cases so with
      | false => exact ⟨_, r0fft hm ha hx d1 d2 d3 hal⟩
      | true =>
        cases hr : (decide (rh < rl)) with
        | true => exact ⟨_, r0nft hm ha hx d1 d2 d3 hr hal⟩
        | false => exact ⟨_, r0gft hm ha hx d1 d2 d3 hr hal⟩
    | false =>
      cases so with
      | false => exact ⟨_, r0fff hm ha hx d1 d2 d3 hal⟩
      | true =>
        cases hr : (decide (rh < rl)) with
        | true => exact ⟨_, r0nff hm ha hx d1 d2 d3 hr hal⟩
        | false => exact ⟨_, r0gff hm ha hx d1 d2 d3 hr hal⟩
theorem int_cells {k : IntKind} {n : Int} : (Value.int k n).cells = #[Value.int k n] := rfl
theorem tW : ∀ i f, (tabW q52 q85 q79 q12 q13 qq24 qq94 qq135 qq3).get i = some f → KOk Tryz.prog i f := fun _ _ h => TabOk.get tabW_ok h

set_option maxRecDepth 100000 in
theorem lifted (os : Os) (started : os.Started) (H : Type) (enc : TypeId × Value → H) :
    ReturnsInHanded {} Tryz.checked os 3 .any (Rows.moveCallsSpec.pre6 enc Tryz.prog Tryz.f3 Rows.moveCallsRow.domain false) (Rows.moveCallsSpec.post enc Tryz.prog Tryz.f3 false true false false) := by
  refine returnsInHanded_of_change (C := Tryz.checked) Fw.own started (by kernel_rfl) Tryz.func3
    (ChangeSpec.witness6 (enc := enc) (C := Tryz.checked) false ⟨#[], #[.agg #[.slice none 0 0, .bool false, .bool false, .int .i64 0, .int .i64 0, .slice none 0 0], .int .i64 0, .int .i64 0, .int .u8 0], []⟩ 8 (by kernel_rfl) (by kernel_rfl) (by kernel_rfl) (by kernel_rfl)) ?_
  intro W base args ds gs before hval0 hW hcnd _
  have hval : ∀ (j : Nat) t v, Tryz.f3.params[j]? = some t → args[j]? = some v → Value.okWide Tryz.prog W .any base t v := hval0
  have hW' := hW
  obtain ⟨p, q, hA0, hV, rfl, hfz, hnd⟩ := hW
  have hA : DataW.TrodAll enc Tryz.prog W 0 (fun _ => true) true Tryz.f3.params.toList args.toList ds p := hA0
  rw [Tryz.params3] at hA hval
  obtain ⟨v0, vs0, d0, ds0, p0, q0, hargs, rfl, rfl, hd0, r0⟩ := trodAll_cons hA
  obtain ⟨v1, vs1, d1, ds1, p1, q1, rfl, rfl, rfl, hd1, r1⟩ := trodAll_cons r0
  obtain ⟨v2, vs2, d2, ds2, p2, q2, rfl, rfl, rfl, hd2, r2⟩ := trodAll_cons r1
  obtain ⟨v3, vs3, d3, ds3, p3, q3, rfl, rfl, rfl, hd3, r3⟩ := trodAll_cons r2
  obtain ⟨rfl, rfl, rfl⟩ := trodAll_nil r3
  obtain rfl : args = #[v0, v1, v2, v3] := by cases args; simp_all
  obtain ⟨rfl, rfl⟩ := trodVars_none hV
  obtain ⟨x0, w0, l0, e0⟩ := opk_agg o27 Tryz.underlying27 (hval 0 27 v0 rfl rfl) hd0
  obtain ⟨n1, rfl⟩ := okWide_int Tryz.underlying2 (hval 1 2 v1 rfl rfl)
  obtain ⟨n2, rfl⟩ := okWide_int Tryz.underlying2 (hval 2 2 v2 rfl rfl)
  obtain ⟨n3, rfl⟩ := okWide_int Tryz.underlying5 (hval 3 5 v3 rfl rfl)
  obtain ⟨y1, w1, _, e1⟩ := opk_one o2 int_cells hd1
  obtain ⟨y2, w2, _, e2⟩ := opk_one o2 int_cells hd2
  obtain ⟨y3, w3, _, e3⟩ := opk_one o5 int_cells hd3
  obtain ⟨al, r, rfl, _, h⟩ := wtL_cons w0
  obtain ⟨en, r, rfl, hen, h⟩ := wtL_cons h
  obtain ⟨so, r, rfl, hso, h⟩ := wtL_cons h
  obtain ⟨rl, r, rfl, hrl, h⟩ := wtL_cons h
  obtain ⟨rh, r, rfl, hrh, h⟩ := wtL_cons h
  obtain ⟨mod, r, rfl, _, h⟩ := wtL_cons h
  have h := wtL_nil h
  subst h
  obtain ⟨en, rfl⟩ := wt_b hen
  obtain ⟨so, rfl⟩ := wt_b hso
  obtain ⟨rl, rfl, _⟩ := wt_i hrl
  obtain ⟨rh, rfl, _⟩ := wt_i hrh
  obtain ⟨lo, rfl, _⟩ := wt_i w1
  obtain ⟨hi, rfl, _⟩ := wt_i w2
  obtain ⟨wr, rfl, _⟩ := wt_i w3
  obtain ⟨s, hrun⟩ := (runs_all al en so rl rh mod lo hi wr).run
  have hrun := runsA_ok tW hrun W (vs := [v0, .int .i64 n1, .int .i64 n2, .int .u8 n3]) (denL_of e0 (denL_of e1 (denL_of e2 (denL_of e3 rfl)))) Tryz.call3
  refine hrun.mono ?_
  rintro e W' ⟨rfl, hs, hx⟩
  refine ⟨_, rfl, law_post Fw.laidOut Fw.rowed Fw.full ?_ rfl rfl rfl rfl rfl Tryz.underlying4 hW' hs hx⟩
  rw [Tryz.params3]
  decide

theorem k1 : Tryz.pinned.checked.prog.funcNamed Rows.moveCallsRow.func = some 3 := by kernel_rfl
theorem k2 : joinedFacts Tryz.pinned.checked.prog 3 Tryz.f3 Rows.moveCallsSpec Rows.moveCallsRow = true := by kernel_rfl

theorem over : Rows.moveCallsRow.holds Tryz.pinned (OpenSpec.ofChange Rows.moveCallsSpec) :=
  OpenClaim.holds_of_wide 3 Tryz.f3 rfl rfl rfl rfl rfl rfl rfl ⟨rfl, rfl, rfl, rfl, rfl⟩ rfl rfl rfl rfl rfl k1 Tryz.func3 k2
    (of_decide_eq_true (by kernel_rfl)) (by unfold Func.isWrapper; first | (rw [if_pos (by decide +kernel)]; kernel_rfl) | (rw [if_neg (by decide +kernel)]; exact ⟨rfl, rfl⟩))
    (fun os started H enc _ => lifted os started H enc)

/-- The statement. -/
theorem proved : Rows.MoveCallsSaid :=
  over
#print axioms proved
end Go.Proofs.YtfaieigeojiiiaaGreat.moveCalls
