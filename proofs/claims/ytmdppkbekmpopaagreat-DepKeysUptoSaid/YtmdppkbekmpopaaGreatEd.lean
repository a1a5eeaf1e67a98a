/- For every input whose bulk is at most 1048576 'DepKeys' returns true, and its arguments read behind the call as they did before; under no other condition. -/
import Derived.Test.YtmdppkbekmpopaaGreatFwc
import Derived.JoinedCond
set_option linter.unusedVariables false
set_option linter.unusedSimpArgs false
set_option linter.unusedSectionVars false
set_option maxRecDepth 100000
namespace Go.Proofs.YtmdppkbekmpopaaGreat.depKeysUpto
open Go Go.Sh Go.Va Go.ChangeShapes Go.WideShapes Go.ChangeAt Go.RowKit
theorem o2:Opk Tryz.prog 2 [.i .i64]:=QIS Tryz.underlying2 (by kernel_rfl)
theorem o3:Opk Tryz.prog 3 [.i .i64]:=QIS Tryz.underlying3 (by kernel_rfl)
theorem o4:Opk Tryz.prog 4 [.b]:=QWh Tryz.underlying4 (by kernel_rfl)
theorem o5:Opk Tryz.prog 5 [.i .u8]:=QIS Tryz.underlying5 (by kernel_rfl)
theorem o9:Opk Tryz.prog 9 [.s]:=QWr Tryz.underlying9 (by kernel_rfl)
theorem o42:Opk Tryz.prog 42 [.l 0]:=Qzy Tryz.underlying42 (by kernel_rfl) (by decide) rfl o5
theorem o22:Opk Tryz.prog 22 [.l 22]:=Qzy Tryz.underlying22 (by kernel_rfl) (by decide) rfl o42
theorem o207:Opk Tryz.prog 207 [.i .i64,.i .i64]:=QOr Tryz.underlying207 (by kernel_rfl) (.cons _ _ _ [.i .i64] [.i .i64] rfl o3 (.cons _ _ _ [.i .i64] [] rfl o3 (.nil _)))
theorem o44:Opk Tryz.prog 44 [.l 14]:=Qzy Tryz.underlying44 (by kernel_rfl) (by decide) rfl o207
theorem o46:Opk Tryz.prog 46 [.b,.i .i64,.i .i64]:=QOr Tryz.underlying46 (by kernel_rfl) (.cons _ _ _ [.b] [.i .i64,.i .i64] rfl o4 (.cons _ _ _ [.i .i64] [.i .i64] rfl o2 (.cons _ _ _ [.i .i64] [] rfl o2 (.nil _))))
theorem o140:Opk Tryz.prog 140 [.s,.b,.i .i64,.i .i64]:=QOr Tryz.underlying140 (by kernel_rfl) (.cons _ _ _ [.s] [.b,.i .i64,.i .i64] rfl o9 (.cons _ _ _ [.b,.i .i64,.i .i64] [] rfl o46 (.nil _)))
theorem o47:Opk Tryz.prog 47 [.l 12]:=Qzy Tryz.underlying47 (by kernel_rfl) (by decide) rfl o140
theorem o49:Opk Tryz.prog 49 [.l 14,.b,.b,.i .i64,.i .i64,.l 12]:=QOr Tryz.underlying49 (by kernel_rfl) (.cons _ _ _ [.l 14] [.b,.b,.i .i64,.i .i64,.l 12] rfl o44 (.cons _ _ _ [.b] [.b,.i .i64,.i .i64,.l 12] rfl o4 (.cons _ _ _ [.b,.i .i64,.i .i64] [.l 12] rfl o46 (.cons _ _ _ [.l 12] [] rfl o47 (.nil _)))))
theorem o51:Opk Tryz.prog 51 [.s,.l 14,.b,.b,.i .i64,.i .i64,.l 12]:=QOr Tryz.underlying51 (by kernel_rfl) (.cons _ _ _ [.s] [.l 14,.b,.b,.i .i64,.i .i64,.l 12] rfl o9 (.cons _ _ _ [.l 14,.b,.b,.i .i64,.i .i64,.l 12] [] rfl o49 (.nil _)))
theorem o43:Opk Tryz.prog 43 [.l 16]:=Qzy Tryz.underlying43 (by kernel_rfl) (by decide) rfl o51
mutual
theorem QWm {H:Type}:∀d:DataW H,wd d≤Rows.uptoBulk d
 | .lit l=>by cases l<;>simp[wd,Rows.uptoBulk]
 | .slice es sp=>by
  have:=QUB es
  simp only[wd,Rows.uptoBulk];omega
 | .agg ps=>by
  have:=QUB ps
  simp only[wd,Rows.uptoBulk];omega
 | .nil=>zo
 | .ptr _=>zo
 | .iface _ _=>zo
 | .map _=>zo
 | .held _=>zo
theorem QUB {H:Type}:∀l:List (DataW H),wdL l≤Rows.uptoBulkAll l
 | []=>zo
 | d::r=>by
  have h1:=QWm d
  have h2:=QUB r
  simp only[wdL,Rows.uptoBulkAll];omega
end
theorem QUV {d:LD}:∀ {l:List LD},d∈l→bk d≤bkL l
 | x::r,h=>by
  rw[bkL]
  rcases List.mem_cons.1 h with rfl | h
  ·omega
  ·have:=QUV h;omega
theorem QWo {d e:LD}(h:e∈d.es):bk e≤bk d:=by
 cases d<;>simp only[LD.es,List.not_mem_nil] at h
 exact QUV h
theorem bk_f (d:LD)(j:Nat):bk (d.f j)≤bk d:=by
 have hc:bkL d.cs≤bk d:=by cases d<;>first | exact nr | exact zo
 rw[LD.f,List.getD_eq_getElem?_getD]
 cases h:d.cs[j]? with
 | none=>exact zo
 | some x=>exact Nat.le_trans (QUV (List.mem_of_getElem? h)) hc
theorem QWF (d:LD):d.st.length≤bk d:=by cases d<;>first | exact nr | exact zo
theorem QK8 {s:LD}(h:bk s≤1048576):StL s:=fun e he m hm=>
 Nat.le_trans (QWF _) (Nat.le_trans (bk_f m 0) (Nat.le_trans (QWo hm) (Nat.le_trans (bk_f e 6) (Nat.le_trans (QWo he) h))))
theorem run {w:World}{g l n s:LD}{v0 v1 v2 v3:Value}(hg:wt g (.i .u8))(hl:wt l (.l 22))(hn:wt n (.l 0))(hs:wt s (.l 16))(hb:StL s)(d0:den (env0 w.heap) (leaf (.i .u8) g)=some v0)(d1:den (env0 w.heap) (leaf (.l 22) l)=some v1)
  (d2:den (env0 w.heap) (leaf (.l 0) n)=some v2) (d3:den (env0 w.heap) (leaf (.l 16) s)=some v3):Calls Tryz.prog 4 #[v0,v1,v2,v3] w fun e w'=>e=.returned (.bool true)∧Qx w w'∧Ext w.heap w'.heap:=by
 obtain⟨g,rfl,_⟩:=wt_i hg
 have hq:=QKn QTt gdW ⟨id,fun _ _ h=>h⟩ [.n g,l,n,s] [fun ys=>ys=[.b true]] (by
  show wtL [.n g,l,n,s] [.i .u8,.l 22,.l 0,.l 16]
  simp only[wtL]
  exact⟨hg,hl,hn,hs,trivial⟩) ⟨g,l,n,s,rfl,hl,hn,hb,rfl⟩ (env0 w.heap) w.heap w.heap [] [v0,v1,v2,v3] (rep0 w.heap 0 .nil) (by
  show denL (env0 w.heap) [leaf (.i .u8) (.n g),leaf (.l 22) l,leaf (.l 0) n,leaf (.l 16) s]=some [v0,v1,v2,v3]
  simp only[denL,d0,d1,d2,d3]) w rfl
 have e:[v0,v1,v2,v3].toArray=#[v0,v1,v2,v3]:=rfl
 rw[e,Tryz.call4] at hq
 refine (HC.calls (fun _ _ h=>h) hq.2 w rfl).mono ?_
 rintro e w' ⟨u,rfl,hs,k,s,ys,G,us,ho,hw,hK,hle,hr,hdu,hv⟩
 match k,ho,hK with
 | 0,ho,hK=>
  have ho':some (⟨[.h .b],[]⟩:SPt)=some s:=ho
  simp only[sj] at ho'
  subst ho'
  have hy:ys=[.b true]:=hK
  subst hy
  have hdu':denL G [leaf .b (.b true)]=some us:=hdu
  have hu:us=[.bool true]:=by
   have:denL G [leaf .b (.b true)]=some [.bool true]:=rfl
   rw[this] at hdu'
   simpa using hdu'.symm
  subst hu
  subst hv
  exact⟨rfl,hs,hr.st.ext⟩
 | k+1,ho,_=>cases ho
theorem QHf {a:Option Addr}{b c:Nat}:(Value.slice a b c).cells=#[Value.slice a b c]:=rfl
theorem QV6 {k:IntKind}{n:Int}:(Value.int k n).cells=#[Value.int k n]:=rfl
theorem QWk (H:Type)(enc:TypeId×Value→H)(W:World)(base:Nat)(args:Array Value)(ds gs:List (DataW H))(before:List MemPlace)
  (hval0:∀(j:Nat) t v,Tryz.f4.params[j]?=some t→args[j]?=some v→Value.okWide Tryz.prog W .any base t v)
  (hW:DataW.Whole enc Tryz.prog Tryz.f4.params.toList Rows.depKeysSpec.vars false W args.toList ds gs before) (hk:Rows.uptoSmall H (ds++gs)=true) :
  Calls Tryz.prog 4 args W fun e W'=>∃v,e=.returned v∧Rows.depKeysSpec.post enc Tryz.prog Tryz.f4 false true false false W args v W':=by
 have hval:∀(j:Nat) t v,Tryz.f4.params[j]?=some t→args[j]?=some v→Value.okWide Tryz.prog W .any base t v:=hval0
 have hW':=hW
 obtain⟨p,q,hA0,hV,rfl,hfz,hnd⟩:=hW
 have hA:DataW.TrodAll enc Tryz.prog W 0 (fun _=>true) true Tryz.f4.params.toList args.toList ds p:=hA0
 rw[Tryz.params4] at hA hval
 obtain⟨v0,vs0,d0,ds0,p0,q0,hargs,rfl,rfl,hd0,r0⟩:=trodAll_cons hA
 obtain⟨v1,vs1,d1,ds1,p1,q1,rfl,rfl,rfl,hd1,r1⟩:=trodAll_cons r0
 obtain⟨v2,vs2,d2,ds2,p2,q2,rfl,rfl,rfl,hd2,r2⟩:=trodAll_cons r1
 obtain⟨v3,vs3,d3,ds3,p3,q3,rfl,rfl,rfl,hd3,r3⟩:=trodAll_cons r2
 obtain⟨rfl,rfl,rfl⟩:=trodAll_nil r3
 obtain rfl:args=#[v0,v1,v2,v3]:=by cases args;simp_all
 obtain⟨rfl,rfl⟩:=trodVars_none hV
 obtain⟨n0,rfl⟩:=okWide_int Tryz.underlying5 (hval 0 5 v0 rfl rfl)
 obtain⟨a1,n1,c1,rfl⟩:=okWide_slice Tryz.underlying22 (hval 1 22 v1 rfl rfl)
 obtain⟨a2,n2,c2,rfl⟩:=okWide_slice Tryz.underlying42 (hval 2 42 v2 rfl rfl)
 obtain⟨a3,n3,c3,rfl⟩:=okWide_slice Tryz.underlying43 (hval 3 43 v3 rfl rfl)
 obtain⟨x0,w0,_,e0⟩:=QIR o5 QV6 hd0
 obtain⟨x1,w1,_,e1⟩:=QIR o22 QHf hd1
 obtain⟨x2,w2,_,e2⟩:=QIR o42 QHf hd2
 obtain⟨x3,w3,_,e3,hb⟩:=QUL o43 QHf hd3
 have hs:StL x3:=by
  have h1:Rows.uptoBulkAll ([d0,d1,d2,d3]++[])≤1048576:=of_decide_eq_true hk
  have h2:=QWm d3
  simp only[List.append_nil,Rows.uptoBulkAll] at h1
  exact QK8 om
 have hrun:=run w0 w1 w2 w3 hs e0 e1 e2 e3
 refine hrun.mono ?_
 rintro e W' ⟨rfl,hs,hx⟩
 refine⟨_,rfl,QHw Fwc.laidOut Fwc.rowed Fwc.full ?_ rfl rfl rfl rfl rfl Tryz.underlying4 hW' hs hx⟩
 rw[Tryz.params4]
 decide
set_option maxRecDepth 100000 in
theorem lifted (os:Os)(started:os.Started)(H:Type)(enc:TypeId×Value→H)(F:Stop.Interp) :
  ReturnsInHanded {} Tryz.checked os 4 .any ((Rows.OpenSpec.upto Rows.depKeysSpec).pre6 enc Tryz.prog Tryz.f4 Rows.depKeysUptoRow.domain false) (((Rows.OpenSpec.upto Rows.depKeysSpec).at F).post enc Tryz.prog Tryz.f4 false true false false):=by
 refine returnsInHanded_of_cond (C:=Tryz.checked) (s:=Rows.OpenSpec.upto Rows.depKeysSpec) (k:=Rows.uptoSmall) rfl Fwc.own started (by kernel_rfl) Tryz.func4
  (OpenSpec.witness (enc:=enc) (C:=Tryz.checked) (s:=Rows.OpenSpec.upto Rows.depKeysSpec) (k:=Rows.uptoSmall) rfl false ⟨#[],#[.int .u8 0,.slice none 0 0,.slice none 0 0,.slice none 0 0],[]⟩ 8 (by kernel_rfl) (by kernel_rfl) (by kernel_rfl)
   (x:=([.lit (.int .u8 0),.nil,.nil,.nil],[],[])) (by kernel_rfl) rfl (by kernel_rfl)) ?_
 intro W base args ds gs before hval hW _ hk _
 exact QWk H enc W base args ds gs before hval hW hk
theorem k1:Tryz.pinned.checked.prog.funcNamed Rows.depKeysUptoRow.func=some 4:=by kernel_rfl
theorem k2:joinedFacts Tryz.pinned.checked.prog 4 Tryz.f4 (Rows.OpenSpec.upto Rows.depKeysSpec).bare Rows.depKeysUptoRow=true:=by kernel_rfl
theorem proved:Rows.DepKeysUptoSaid:=
 OpenClaim.holds_of_cond 4 Tryz.f4 rfl rfl rfl rfl rfl rfl rfl ⟨rfl,rfl,rfl,rfl,rfl⟩ rfl rfl rfl rfl rfl k1 Tryz.func4 k2
  (of_decide_eq_true (by kernel_rfl)) (by unfold Func.isWrapper;first | (rw[if_pos (by decide +kernel)];kernel_rfl) | (rw[if_neg (by decide +kernel)];exact⟨rfl,rfl⟩))
  (fun os started H enc _ F=>lifted os started H enc F)
#print axioms proved
end Go.Proofs.YtmdppkbekmpopaaGreat.depKeysUpto
