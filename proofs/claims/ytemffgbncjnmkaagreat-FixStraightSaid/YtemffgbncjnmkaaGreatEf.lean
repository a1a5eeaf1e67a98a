/- For every input 'FixStraight' returns true, and its arguments read behind the call as they did before; under no condition. -/
import Derived.Test.YtemffgbncjnmkaaGreatOe
set_option linter.unusedVariables false
set_option maxRecDepth 100000
namespace Go.Proofs.YtemffgbncjnmkaaGreat.fixStraight
open Go Go.Sh Go.Va Go.ChangeShapes Go.WideShapes Go.ChangeAt Go.RowKit
theorem o5:Opk Tryz.prog 5 [.i .u8]:=QIS Tryz.underlying5 (by kernel_rfl)
theorem o25:Opk Tryz.prog 25 [.i .i16]:=QIS Tryz.underlying25 (by kernel_rfl)
theorem o22:Opk Tryz.prog 22 [.l 0]:=Qzy Tryz.underlying22 (by kernel_rfl) (by decide) rfl o5
theorem o23:Opk Tryz.prog 23 [.l 22]:=Qzy Tryz.underlying23 (by kernel_rfl) (by decide) rfl o25
theorem QKn {P:Program}{i:Nat}{c:Ctr}(h:KOk P i (.q c)):∀G:Gd,G.Q→@QOk _ G P i c:=by
 cases h with
 | q c h1 h2=>exact h2
 | f fn pls np m k h1 h2 h3=>
  exfalso
  cases hs:cF P pls np m fn with
  | none=>rw[hs] at h3;cases h3
  | some s=>rw[hs] at h3;cases s;cases h3
theorem run {w:World}{x y:LD}{v u:Value}(hx:wt x (.l 0))(hy:wt y (.l 22))(hd:den (env0 w.heap) (leaf (.l 0) x)=some v)(he:den (env0 w.heap) (leaf (.l 22) y)=some u):Calls Tryz.prog 3 #[v,u] w fun e w'=>e=.returned (.bool true)∧Qx w w'∧Ext w.heap w'.heap:=by
 have hq:=QKn Q2P gdW ⟨id,fun _ _ h=>h⟩ [x,y] [fun ys=>ys=[.b true]] (by
  show wtL [x,y] [.l 0,.l 22]
  simp only[wtL]
  exact⟨hx,hy,trivial⟩) ⟨x,y,rfl,hx,hy,rfl⟩ (env0 w.heap) w.heap w.heap [] [v,u] (rep0 w.heap 0 .nil) (by
  show denL (env0 w.heap) [leaf (.l 0) x,leaf (.l 22) y]=some [v,u]
  simp only[denL,hd,he]) w rfl
 have e:[v,u].toArray=#[v,u]:=rfl
 rw[e,Tryz.call3] at hq
 refine (HC.calls (fun _ _ h=>h) hq.2 w rfl).mono ?_
 rintro e w' ⟨z,rfl,hs,k,s,ys,G,us,ho,hw,hK,hle,hr,hdu,hv⟩
 match k,ho,hK with
 | 0,ho,hK=>
  have ho':some (⟨[.h .b],[]⟩:SPt)=some s:=ho
  simp only[Option.some.injEq] at ho'
  subst ho'
  have hy:ys=[.b true]:=hK
  subst hy
  have hdu':denL G [leaf .b (.b true)]=some us:=hdu
  have hu:us=[.bool true]:=by
   have:denL G [leaf .b (.b true)]=some [.bool true]:=rfl
   rw[this] at hdu'
   simpa using hdu'.symm
  subst hu
  subst hv
  exact⟨rfl,hs,hr.st.ext⟩
 | k+1,ho,_=>cases ho
theorem QHf {a:Option Addr}{b c:Nat}:(Value.slice a b c).cells=#[Value.slice a b c]:=rfl
set_option maxRecDepth 100000 in
theorem lifted (os:Os)(started:os.Started)(H:Type)(enc:TypeId×Value→H) :
  ReturnsInHanded {} Tryz.checked os 3 .any (Rows.fixStraightSpec.pre6 enc Tryz.prog Tryz.f3 Rows.fixStraightRow.domain false) (Rows.fixStraightSpec.post enc Tryz.prog Tryz.f3 false true false false):=by
 refine returnsInHanded_of_change (C:=Tryz.checked) Fwc.own started (by kernel_rfl) Tryz.func3
  (ChangeSpec.witness6 (enc:=enc) (C:=Tryz.checked) false ⟨#[],#[.slice none 0 0,.slice none 0 0],[]⟩ 8 (by kernel_rfl) (by kernel_rfl) (by kernel_rfl) (by kernel_rfl)) ?_
 intro W base args ds gs before hval0 hW hcnd _
 have hval:∀(j:Nat) t v,Tryz.f3.params[j]?=some t→args[j]?=some v→Value.okWide Tryz.prog W .any base t v:=hval0
 have hW':=hW
 obtain⟨p,q,hA0,hV,rfl,hfz,hnd⟩:=hW
 have hA:DataW.TrodAll enc Tryz.prog W 0 (fun _=>true) true Tryz.f3.params.toList args.toList ds p:=hA0
 rw[Tryz.params3] at hA hval
 obtain⟨v0,vs0,d0,ds0,p0,q0,hargs,rfl,rfl,hd0,r0⟩:=trodAll_cons hA
 obtain⟨v1,vs1,d1,ds1,p1,q1,rfl,rfl,rfl,hd1,r1⟩:=trodAll_cons r0
 obtain⟨rfl,rfl,rfl⟩:=trodAll_nil r1
 obtain rfl:args=#[v0,v1]:=by cases args;simp_all
 obtain⟨rfl,rfl⟩:=trodVars_none hV
 obtain⟨a0,n0,c0,rfl⟩:=okWide_slice Tryz.underlying22 (hval 0 22 v0 rfl rfl)
 obtain⟨a1,n1,c1,rfl⟩:=okWide_slice Tryz.underlying23 (hval 1 23 v1 rfl rfl)
 obtain⟨x,w0,e0⟩:=QIR o22 QHf hd0
 obtain⟨y,w1,e1⟩:=QIR o23 QHf hd1
 have hrun:=run w0 w1 e0.2 e1.2
 refine hrun.mono ?_
 rintro e W' ⟨rfl,hs,hx⟩
 refine⟨_,rfl,QHw Fwc.laidOut Fwc.rowed Fwc.full ?_ rfl rfl rfl rfl rfl Tryz.underlying4 hW' hs hx⟩
 rw[Tryz.params3]
 decide
theorem k1:Tryz.pinned.checked.prog.funcNamed Rows.fixStraightRow.func=some 3:=by kernel_rfl
theorem k2:joinedFacts Tryz.pinned.checked.prog 3 Tryz.f3 Rows.fixStraightSpec Rows.fixStraightRow=true:=by kernel_rfl
theorem over:Rows.fixStraightRow.holds Tryz.pinned (OpenSpec.ofChange Rows.fixStraightSpec):=
 OpenClaim.holds_of_wide 3 Tryz.f3 rfl rfl rfl rfl rfl rfl rfl ⟨rfl,rfl,rfl,rfl,rfl⟩ rfl rfl rfl rfl rfl k1 Tryz.func3 k2
  (of_decide_eq_true (by kernel_rfl)) (by unfold Func.isWrapper;first | (rw[if_pos (by decide +kernel)];kernel_rfl) | (rw[if_neg (by decide +kernel)];exact⟨rfl,rfl⟩))
  (fun os started H enc _=>lifted os started H enc)
theorem proved:Rows.FixStraightSaid:=
 over
#print axioms proved
end Go.Proofs.YtemffgbncjnmkaaGreat.fixStraight
