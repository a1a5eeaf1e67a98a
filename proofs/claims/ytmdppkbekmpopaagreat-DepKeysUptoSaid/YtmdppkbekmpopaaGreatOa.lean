import Derived.Test.YtmdppkbekmpopaaGreatDs5
set_option linter.unusedVariables false
set_option linter.unusedSimpArgs false
set_option linter.unusedSectionVars false
set_option maxRecDepth 100000
set_option maxHeartbeats 4000000
noncomputable section
namespace Go.Proofs.YtmdppkbekmpopaaGreat
open Go Go.Sh Go.Va
def QLV:QF:=fun xs Ks=>xs=[]∧nthK Ks 0 [.b true]
theorem QUh {Ks:KN}{q:QF}(hk:Ks 0 [.b true]):QRB Ks q:=by
 refine Eq.mpr (QUv ..) ?_
 repeat' first
  | exact hk
  | exact True.intro
  | refine⟨?_,?_⟩
  | intro _
  | omega
theorem QVA:∀(k:Nat){v:Int},v<128 ^ (k+1)→(nuB v).length≤k+1
 | k,v,h=>by
  rw[nuB]
  split
  ·rename_i hv
   match k with
   | 0=>omega
   | k+1=>
    have:=QVA k (v:=v / 128) (by rw[Int.pow_succ] at h;omega)
    simp only[List.length_cons];omega
  ·simp
theorem QTv {v:Int}(h:v<18446744073709551616):(nuB v).length≤10:=QVA 9 om
theorem QV1 (x:Int):IntKind.wrap .u64 x<18446744073709551616:=by
 simp only[IntKind.wrap,IntKind.bits,IntKind.signed]
 omega
theorem QSr (n:Int):(inB n).length≤10:=by
 refine QTv ?_
 unfold inV
 cases decide (0≤n)
 ·exact QV1 _
 ·exact QV1 _
theorem QV9 {α:Type}{g:α→List LD}{B:Nat}:∀ {l:List α},(∀e∈l,(g e).length≤B)→(l.flatMap g).length≤l.length * B
 | [],_=>by simp
 | e::l,h=>by
  have h1:=h e (.head _)
  have h2:=QV9 (l:=l) fun x hx=>h x (.tail _ hx)
  rw[List.flatMap_cons,List.length_append,List.length_cons,Nat.add_mul];omega
variable {n:Nat}
theorem QTB {α:Type}{g:α→List LD}{B:Nat}{l:List α}(hl:l.length≤n)(h:∀e∈l,(g e).length≤B):(l.flatMap g).length≤n * B:=Nat.le_trans (QV9 h) (Nat.mul_le_mul_right _ hl)
theorem QQJ {s:Str}(h:s.length≤n)(hn:n≤1000000000):(stB s).length≤n+10:=by
 have:=QTv (v:=Int.ofNat s.length) (by show (s.length:Int)<_;omega)
 rw[stB,List.length_append,QN8];omega
theorem QVB (so:Bool)(lo hi:Int):(ivB so lo hi).length≤21:=by
 have h1:=QSr lo
 have h2:=QSr hi
 rw[ivB,List.length_append]
 cases so
 ·simp[boB]
 ·simp only[boB,cond_true,List.length_append,List.length_cons,List.length_nil];omega
def SuS (al mo:LD):Prop:=al.len≤5∧mo.len≤5∧∀m∈mo.es,(m.f 0).st.length≤1048576
theorem QVy {al:LD}{en so:Bool}{lo hi:Int}{mo:LD}(h:SuS al mo):(suB al en so lo hi mo).length≤5243400:=by
 obtain⟨h1,h2,h3⟩:=h
 have a1:=QTv (v:=Int.ofNat al.len) (by show (al.len:Int)<_;omega)
 have a2:=QTv (v:=Int.ofNat mo.len) (by show (mo.len:Int)<_;omega)
 have a3:=QTB (g:=gA) (B:=20) (l:=al.es) h1 fun e _=>by
  have:=QSr (e.f 0).i
  have:=QSr (e.f 1).i
  rw[gA,List.length_append];omega
 have a4:=QTB (g:=gM) (B:=1048607) (l:=mo.es) h2 fun e he=>by
  have:=QQJ (h3 e he) om
  have:=QVB (e.f 1).bo (e.f 2).i (e.f 3).i
  rw[gM,List.length_append];omega
 have a5:=QVB so lo hi
 have a6:(boB en).length=1:=rfl
 simp only[suB,List.length_append]
 omega
variable {pf:LD}
theorem QWd (hF:FsOk pf)(s:Str):(cOf pf s).length≤4096∧∀x∈cOf pf s,x.length≤4096:=by
 unfold cOf
 cases he:fnE pf.es s with
 | none=>exact⟨zo,fun x h=>nomatch h⟩
 | some e=>
  obtain⟨hm,_⟩:=QNg he
  obtain⟨fn,fp,fl,fb,rfl,P⟩:=hF.2 e hm
  show ((clD fb).foldl addS []).length≤4096∧∀x∈(clD fb).foldl addS [],x.length≤4096
  have h1:=QzG (clD fb) []
  have h2:=Qza fb
  have h3:=P.m
  simp only[List.length_nil] at h1
  refine⟨om,fun x hx=>?_⟩
  rcases QCr.1 hx with hx | hx
  ·rw[←Qo8] at hx
   obtain⟨d,hd,hx⟩:=QtA.1 hx
   exact (QJw (P.r d hd) x hx).2
  ·cases hx
theorem QVC {g:Str→List Str}{B:Nat}:∀ {l:List Str},(∀e∈l,(g e).length≤B)→(l.flatMap g).length≤l.length * B
 | [],_=>by simp
 | e::l,h=>by
  have h1:=h e (.head _)
  have h2:=QVC (l:=l) fun x hx=>h x (.tail _ hx)
  rw[List.flatMap_cons,List.length_append,List.length_cons,Nat.add_mul];omega
theorem QWb {n:LD}(hF:FsOk pf)(hn:n.len≤4):(QMJ pf n).length≤16384∧∀x∈QMJ pf n,x.length≤4096:=by
 have h1:=QzG (((strs n.es).flatMap (cOf pf)).filter fun s=>!hasB (strs n.es) s) []
 have h2:=List.length_filter_le (fun s=>!hasB (strs n.es) s) ((strs n.es).flatMap (cOf pf))
 have h3:=QVC (l:=strs n.es) (B:=4096) fun s _=>(QWd hF s).1
 rw[Ql8] at h3
 have h4:n.es.length≤4:=hn
 simp only[List.length_nil] at h1
 refine⟨?_,fun x hx=>?_⟩
 ·have:n.es.length * 4096≤4 * 4096:=Nat.mul_le_mul_right _ h4
  unfold QMJ;omega
 ·rcases QCr.1 hx with hx | hx
  ·obtain⟨s,_,hs⟩:=List.mem_flatMap.1 (List.mem_filter.1 hx).1
   exact (QWd hF s).2 x hs
  ·cases hx
def SusS (su:LD):Prop:=su.len≤4∧∀e∈su.es,SuS (e.f 1) (e.f 6)
variable {t:LD}
theorem QVx (h:∀e∈t.es,UnOk e)(s:Str):(txN t.es s).length≤200000:=by
 unfold txN
 cases he:fnE t.es s with
 | none=>exact zo
 | some e=>
  obtain⟨a,b,rfl,hb⟩:=h e (QNg he).1
  exact hb
variable {su:LD}
theorem QWl {c:Str}(hF:FsOk pf)(hs:SusS su)(hc:c.length≤4096):(calB pf su c).length≤5253000:=by
 have h1:=QQJ hc om
 rw[calB,List.length_append]
 cases he:fnE pf.es c with
 | none=>show _+(boB false).length≤_;have:(boB false).length=1:=rfl;omega
 | some e=>
  obtain⟨hm,_⟩:=QNg he
  obtain⟨fn,fp,fl,fb,rfl,P⟩:=hF.2 e hm
  have hv:=P.v.1
  have a1:=QTv (v:=Int.ofNat fp.len) (by show (fp.len:Int)<_;omega)
  have a2:=QTB (g:=gV) (B:=1) (l:=fp.es) (n:=5000) hv fun e _=>Nat.le_refl 1
  have a3:(suE (fnE su.es c)).length≤5243400:=by
   cases h2:fnE su.es c with
   | none=>exact QVy ⟨zo,zo,fun m h=>nomatch h⟩
   | some e2=>exact QVy (hs.2 _ (QNg h2).1)
  have a4:(boB true).length=1:=rfl
  show _+(boB true++(nuB (Int.ofNat fp.len)++(fp.es.flatMap gV++suE (fnE su.es c)))).length≤_
  simp only[List.length_append]
  omega
theorem QWE {n:LD}(hF:FsOk pf)(ht:t.len≤5)(hu:∀e∈t.es,UnOk e)(hn:n.len≤4)(h1:∀e∈n.es,(e.f 0).st.length≤1)(hs:SusS su):KeyP pf t n su:=by
 obtain⟨c1,c2⟩:=QWb hF hn
 refine⟨hF,⟨Nat.le_trans hs.1 om,fun e he=>⟨Nat.le_trans (hs.2 e he).1 om,Nat.le_trans (hs.2 e he).2.1 om⟩⟩,om,om,om,?_⟩
 have a1:=QQJ (QVx hu glN) om
 have a2:=QTB (g:=gK t) (B:=200021) (l:=n.es) hn fun e he=>by
  have:=QQJ (h1 e he) om
  have:=QQJ (QVx hu (e.f 0).st) om
  rw[gK,List.length_append];omega
 have a3:=QTB (g:=calB pf su) (B:=5253000) c1 fun e he=>QWl hF hs (c2 e he)
 simp only[Fit,keyB,List.length_append,List.length_nil]
 omega
end Go.Proofs.YtmdppkbekmpopaaGreat
namespace Go.Proofs.YtmdppkbekmpopaaGreat
open Go Go.Sh Go.Va
def StL (s:LD):Prop:=∀e∈s.es,∀m∈(e.f 6).es,(m.f 0).st.length≤1048576
def QTo:QF:=fun xs Ks=>∃g l n s,xs=[.n g,l,n,s]∧wt l (.l 22)∧wt n (.l 0)∧StL s∧nthK Ks 0 [.b true]
def QSq (j:Nat):QF:=fun xs Ks=>∃g l n s i,xs=[.n g,l,n,s,.n i]∧0≤i∧((s.len:Int) - i).toNat<j∧s.len≤4∧(∀m,m<i.toNat→((s.es.getD m .nul).f 1).len≤5∧((s.es.getD m .nul).f 6).len≤5) ∧
 ((∀e∈s.es,(e.f 1).len≤5∧(e.f 6).len≤5)→nthK Ks 0 [.n g,l,n,s])∧nthK Ks 1 [.b true]
variable {Ks:List LP}{g i:Int}{j:Nat}{l n s:LD}{q q2 q3 q4 q5 q6 q7:QF}
theorem QSs {q1:QF}(h:QSq (j+1) [.n g,l,n,s,.n i] Ks):QPp g l n s i (fun ys=>QSq j ys Ks) (nthK Ks) q q1 q2 q3 q4 q5 q6 q7:=by
 obtain⟨g_,l_,n_,s_,i_,eq,h0,hj,hl,hm,k0,k1⟩:=h
 cases eq
 refine Eq.mpr (QSA ..) ?_
 have le:s.len=s.es.length:=rfl
 refine bifD (fun hc=>⟨decB h0 hc,bifD (fun _=>k1) fun _=>⟨decB h0 hc,bifD (fun _=>k1) fun h6=>⟨decB h0 hc,bifD (fun _=>k1) fun h1=>?_⟩⟩⟩) fun hc=>k0 fun e he=>?_
 ·have hc':i<(s.len:Int):=hc
  have h6':¬5<(((s.at 7 i).f 6).len:Int):=h6
  have h1':¬5<(((s.at 7 i).f 1).len:Int):=h1
  rw[at_f] at h6' h1'
  rw[QJ (x:=i+1) om om]
  refine⟨g,l,n,s,i+1,rfl,om,om,hl,fun m hm'=>?_,k0,k1⟩
  rcases Nat.lt_or_ge m i.toNat with h | h
  ·exact hm m h
  ·have:m=i.toNat:=om
   subst this
   omega
 ·have hc':¬i<(s.len:Int):=hc
  obtain⟨m,hlt,rfl⟩:=List.getElem_of_mem he
  have:=hm m om
  rwa [List.getD_eq_getElem?_getD,List.getElem?_eq_getElem hlt] at this
def QQR (j:Nat):QF:=fun xs Ks=>∃n s u i gc ga pf w,xs=[n,s,u,.n i,gc,ga,pf,.t w]∧wt n (.l 0)∧0≤i∧i≤(n.len:Int)∧((n.len:Int) - i).toNat<j∧n.len≤4∧(w.length:Int)≤i∧(∀e∈w,(e.f 0).st.length≤1) ∧
 ∀m:LD,m.len≤4→(∀e∈m.es,(e.f 0).st.length≤1)→nthK Ks 0 [s,u,m,gc,ga,pf]
theorem QWA {d:LD}(h:wt d (.i .u8)):0≤d.i:=by
 cases d<;>simp only[wt] at h
 exact h.1
variable {ga gc pf:LD}
theorem QRT {u:LD}{w:List LD}(h:QQR (j+1) [n,s,u,.n i,gc,ga,pf,.t w] Ks) :
  QO8 n s u i gc ga pf w (fun ys=>QQR j ys Ks) (nthK Ks) q QX q2 q3 q4 q5 q6 q7:=by
 obtain⟨n_,s_,u_,i_,gc_,ga_,pf_,w_,eq,hw,h0,h1,hj,hl,hwl,hws,hk⟩:=h
 cases eq
 refine Eq.mpr (QSf ..) ?_
 refine bifD (fun hc=>⟨decB h0 hc,?_⟩) fun hc=>⟨fun _=>hk _ (zo) fun e h=>(nomatch h),fun a c _=>hk _ (by show w.length≤4;omega) hws⟩
 have hc':i<(n.len:Int):=hc
 have h2:wt ((n.at 1 i).f 0) (.i .u8):=QHQ (QHP hw ly0 h0 hc') rfl
 refine Qod (QWA h2) fun nm hnm=>⟨⟨om,om⟩,?_⟩
 rw[QJ (x:=i+1) om om]
 refine⟨n,s,u,i+1,gc,ga,pf,_,rfl,hw,om,om,om,hl,by rw[List.length_append,List.length_singleton];omega,fun e he=>?_,hk⟩
 rcases List.mem_append.1 he with h | h
 ·exact hws e h
 ·rw[List.mem_singleton.1 h];exact Nat.le_of_eq hnm
variable {f:TelK [.s]}{su t:LD}
theorem QWz (h:KeyP pf t n su)(hf:f (QNe (keyB pf t n su))):QL5 [gc,ga,pf,t,n,su] [apK [.s] f]:=⟨gc,ga,pf,t,n,su,rfl,h,fun _=>hf⟩
theorem QWB (h:KeyP pf t n su)(hf:f (QNe (keyB pf t n su))):QLX [gc,ga,pf,t,n,su] [apK [.s] f]:=⟨gc,ga,pf,t,n,su,rfl,h,fun _=>hf⟩
theorem QWt {f:TelK [.l 1,.l 11,.l 10]}(hl:t.len≤5)(hu:∀e∈t.es,UnOk e)(h:∀gc ga F:LD,PrOk F→f gc ga F):QaP [t] [apK [.l 1,.l 11,.l 10] f]:=⟨t,rfl,hl,hu,fun gc ga F hF _=>h gc ga F hF⟩
theorem QTn {Ks:KN}(hl:wt l (.l 22))(hn:wt n (.l 0))(hs:StL s)(hk:Ks 0 [.b true]) :
  QQi g l n s Ks q QX Qbg Qax QaP QL5 QLX QLV (fun xs Ks=>∃j,QSq j xs Ks) (fun xs Ks=>∃j,QQR j xs Ks):=by
 refine Eq.mpr (QTE ..) ?_
 refine⟨rfl,fun _=>bifT (QIz fun b=>bifI (fun _=>?_) fun _=>hk)⟩
 refine bifD (fun _=>hk) fun hn4=>bifD (fun _=>hk) fun hs4=>?_
 have hn4':¬4<(n.len:Int):=hn4
 have hs4':¬4<(s.len:Int):=hs4
 refine⟨_,g,l,n,s,0,rfl,om,nl,om,fun m hm=>absurd hm nt,fun h5 _=>?_,fun _=>hk⟩
 refine QIu hl fun r hr1 hr2=>QWt hr1 hr2 fun gc ga F hF=>?_
 refine⟨_,n,s,r,0,gc,ga,F,[],rfl,hn,om,om,nl,om,by simp,fun e h=>(nomatch h),fun m hm1 hm2 _=>?_⟩
 have hp:KeyP F r m s:=QWE hF.fs hr1 hr2 hm1 hm2 ⟨om,fun e he=>⟨(h5 e he).1,(h5 e he).2,hs e he⟩⟩
 exact QWz hp ⟨⟨rfl,rfl,rfl,trivial⟩,QWB hp (bifD (fun _=>hk) fun hne=>absurd rfl hne)⟩
end Go.Proofs.YtmdppkbekmpopaaGreat
namespace Go.Proofs.YtmdppkbekmpopaaGreat
open Go Go.Sh Go.Va
def QkM:Nat:=8
def Qoy:List (Nat×RP):=(nf [0,1])
def QAT:FC:=cdF tp Qoy QkM Tryz.f124
def QqA:FFn:=.f 1 QkM 3 [.t 2] (evC QAT)
theorem Qud:KOk tp 81 Qlb:=.f _ QjJ 2 Qgk _ Tryz.func81 Tryz.call81 kx
theorem QvZ:KOk tp 128 Qmt:=.f _ QkY 1 QgV _ Tryz.func128 Tryz.call128 kx
theorem Que:KOk tp 83 Qlc:=.f _ QjK 1 Qgl _ Tryz.func83 Tryz.call83 kx
theorem Quc:KOk tp 130 Qla:=.f _ QjI 2 Qgj _ Tryz.func130 Tryz.call130 kx
theorem QvY:KOk tp 129 Qms:=.f _ QkX 2 QgU _ Tryz.func129 Tryz.call129 kx
theorem Quf:KOk tp 132 Qld:=.f _ QjL 3 Qgm _ Tryz.func132 Tryz.call132 kx
theorem Qug:KOk tp 131 Qle:=.f _ QjM 3 Qgn _ Tryz.func131 Tryz.call131 kx
theorem QDq:KOk tp 17 Qu6:=.f _ QrO 1 Qn5 _ Tryz.func17 Tryz.call17 kx
theorem QDo:KOk tp 80 Qu4:=.f _ QrN 1 Qn4 _ Tryz.func80 Tryz.call80 kx
theorem QyN:KOk tp 34 QoN:=.f _ Qnt 1 Qjd _ Tryz.func34 Tryz.call34 kx
theorem Qsa:KOk tp 133 QjX:=.f _ Qdv 3 QbZ _ Tryz.func133 Tryz.call133 kx
theorem Qub:KOk tp 82 Qk9:=.f _ QjH 3 Qgi _ Tryz.func82 Tryz.call82 kx
theorem QDp:KOk tp 33 Qu5:=.f _ QhN 2 Qe8 _ Tryz.func33 Tryz.call33 kx
theorem QAh:KOk tp 134 Qqs:=.f _ Qou 1 QkI _ Tryz.func134 Tryz.call134 kx
theorem QCh:KOk tp 135 Qr5:=.f _ Qql 1 Qmn _ Tryz.func135 Tryz.call135 kx
theorem QFe:KOk tp 136 Qxw:=.f _ Qjt 2 Qf4 _ Tryz.func136 Tryz.call136 kx
theorem QDr:KOk tp 137 Qu7:=.f _ QhO 1 Qe9 _ Tryz.func137 Tryz.call137 kx
theorem QAg:KOk tp 90 Qqr:=.f _ Qf2 1 QdJ _ Tryz.func90 Tryz.call90 kx
theorem QAi:KOk tp 84 Qqt:=.f _ QaX 1 Qai _ Tryz.func84 Tryz.call84 kx
theorem Qsi:KOk tp 88 Qj5:=.f _ QiK 2 QfL _ Tryz.func88 Tryz.call88 kx
theorem Qv1:KOk tp 92 Qmv:=.f _ Qk0 2 QgX _ Tryz.func92 Tryz.call92 kx
theorem Qsc:KOk tp 85 QjZ:=.f _ QiF 2 QfG _ Tryz.func85 Tryz.call85 kx
theorem Qsb:KOk tp 86 QjY:=.f _ QiE 2 QfF _ Tryz.func86 Tryz.call86 kx
theorem Qra:KOk tp 87 QiR:=.f _ QhQ 1 Qfj _ Tryz.func87 Tryz.call87 kx
theorem Qsg:KOk tp 89 Qj3:=.f _ QiI 1 QfJ _ Tryz.func89 Tryz.call89 kx
theorem Qsf:KOk tp 93 Qj2:=.f _ QiH 1 QfI _ Tryz.func93 Tryz.call93 kx
theorem Qsh:KOk tp 91 Qj4:=.f _ QiJ 4 QfK _ Tryz.func91 Tryz.call91 kx
theorem Qv0:KOk tp 233 Qmu:=.f _ QkZ 1 QgW _ Tryz.func233 Tryz.call233 kx
theorem Qse:KOk tp 204 Qj1:=.f _ Qdw 1 Qb0 _ Tryz.func204 Tryz.call204 kx
theorem Quh:KOk tp 166 Qlf:=.f _ QdV 1 Qcn _ Tryz.func166 Tryz.call166 kx
theorem Qui:KOk tp 234 Qlg:=.f _ QdW 1 Qco _ Tryz.func234 Tryz.call234 kx
theorem Quj:KOk tp 205 Qlh:=.f _ QdX 1 Qcp _ Tryz.func205 Tryz.call205 kx
theorem Qsj:KOk tp 167 Qj6:=.f _ Qdx 1 Qb1 _ Tryz.func167 Tryz.call167 kx
theorem Qsk:KOk tp 169 Qj7:=.f _ Qdy 1 Qb2 _ Tryz.func169 Tryz.call169 kx
theorem Qrb:KOk tp 168 QiS:=.f _ QhR 1 Qfk _ Tryz.func168 Tryz.call168 kx
theorem Qq9:KOk tp 94 QiQ:=.f _ Qc2 1 QbC _ Tryz.func94 Tryz.call94 kx
theorem Qsd:KOk tp 138 Qj0:=.f _ QiG 1 QfH _ Tryz.func138 Tryz.call138 kx
theorem Qq8:KOk tp 170 QiP:=.f _ QhP 2 Qfi _ Tryz.func170 Tryz.call170 kx
theorem QDs:KOk tp 37 Qu8:=.f _ Qep 1 QcG _ Tryz.func37 Tryz.call37 kx
theorem QyO:KOk tp 35 QoO:=.f _ Qfs 1 Qde _ Tryz.func35 Tryz.call35 kx
theorem QCj:KOk tp 165 Qr7:=.f _ QgK 2 Qeu _ Tryz.func165 Tryz.call165 kx
theorem Qxz:KOk tp 171 QnF:=.f _ Qmd 2 QhZ _ Tryz.func171 Tryz.call171 kx
theorem QCk:KOk tp 172 Qr8:=.f _ Qqm 2 Qmo _ Tryz.func172 Tryz.call172 kx
theorem QAk:KOk tp 173 Qqv:=.f _ Qov 2 QkJ _ Tryz.func173 Tryz.call173 kx
theorem QCi:KOk tp 139 Qr6:=.f _ QgJ 2 Qet _ Tryz.func139 Tryz.call139 kx
theorem QAj:KOk tp 95 Qqu:=.f _ Qf3 2 QdK _ Tryz.func95 Tryz.call95 kx
theorem QxA:KOk tp 38 QnG:=.f _ QcC 2 Qa7 _ Tryz.func38 Tryz.call38 kx
theorem QDt:KOk tp 49 Qu9:=.f _ QhS 2 Qfa _ Tryz.func49 Tryz.call49 kx
theorem QVd:KOk tp 48 QSP:=.f _ QOq 2 QNf _ Tryz.func48 Tryz.call48 kx
theorem Quk:KOk tp 125 Qli:=.f _ QjN 2 Qgo _ Tryz.func125 Tryz.call125 kx
theorem Qul:KOk tp 126 Qlj:=.f _ QjO 2 Qgp _ Tryz.func126 Tryz.call126 kx
theorem Qum:KOk tp 127 Qlk:=.f _ QjP 2 Qgq _ Tryz.func127 Tryz.call127 kx
theorem Qsl:KOk tp 79 Qj8:=.f _ QbB 2 QaE _ Tryz.func79 Tryz.call79 kx
theorem QAl:KOk tp 32 Qqw:=.f _ Qow 1 QkK _ Tryz.func32 Tryz.call32 kx
theorem QAn:KOk tp 36 Qqy:=.f _ QbV 1 QaL _ Tryz.func36 Tryz.call36 kx
theorem Qv2:KOk tp 163 Qmw:=.f _ Qk1 1 QgY _ Tryz.func163 Tryz.call163 kx
theorem Qxx:KOk tp 203 QnD:=.f _ Qmc 1 QhY _ Tryz.func203 Tryz.call203 kx
theorem QAf:KOk tp 232 Qqq:=.f _ Qot 2 QkH _ Tryz.func232 Tryz.call232 kx
theorem Qun:KOk tp 121 Qll:=.f _ QdY 1 Qcq _ Tryz.func121 Tryz.call121 kx
theorem Qrc:KOk tp 74 QiT:=.f _ QhT 1 Qfl _ Tryz.func74 Tryz.call74 kx
theorem QoP:KOk tp 75 Qhi:=.f _ QcF 3 Qba _ Tryz.func75 Tryz.call75 kx
theorem QxB:KOk tp 76 QnH:=.f _ Qme 2 Qh0 _ Tryz.func76 Tryz.call76 kx
theorem Qke:KOk tp 77 QeL:=.f _ Qeq 2 QcK _ Tryz.func77 Tryz.call77 kx
theorem Qn6:KOk tp 122 QgA:=.f _ Qgc 2 Qec _ Tryz.func122 Tryz.call122 kx
theorem QoQ:KOk tp 123 Qhj:=.f _ Qgv 2 Qev _ Tryz.func123 Tryz.call123 kx
theorem QmA:KOk tp 78 QfS:=.f _ Qft 1 Qdi _ Tryz.func78 Tryz.call78 kx
theorem QAp:KOk tp 124 QqA:=.f _ Qoy 1 QkM _ Tryz.func124 Tryz.call124 kx
theorem QAo:KOk tp 31 Qqz:=.f _ Qox 1 QkL _ Tryz.func31 Tryz.call31 kx
theorem QCf:KOk tp 15 Qr3:=.f _ Qqk 2 Qmm _ Tryz.func15 Tryz.call15 kx
theorem QCg:KOk tp 9 Qr4:=.f _ QgI 2 Qes _ Tryz.func9 Tryz.call9 kx
theorem Qxy:KOk tp 16 QnE:=.f _ QcB 1 Qa6 _ Tryz.func16 Tryz.call16 kx
theorem QPJ:KOk tp 96 QOf:=.f _ QMo 2 QL7 _ Tryz.func96 Tryz.call96 kx
theorem QPK:KOk tp 143 QOg:=.f _ QM2 2 QMy _ Tryz.func143 Tryz.call143 kx
theorem QPn:KOk tp 100 QNY:=.f _ QMS 2 QMs _ Tryz.func100 Tryz.call100 kx
theorem QPm:KOk tp 40 QNX:=.f _ QMR 2 QMr _ Tryz.func40 Tryz.call40 kx
theorem QN0:KOk tp 144 QMY:=.f _ QNJ 2 QMX _ Tryz.func144 Tryz.call144 kx
theorem QOj:KOk tp 102 QM8:=.f _ QL0 2 QLT _ Tryz.func102 Tryz.call102 kx
theorem QPk:KOk tp 41 QNV:=.f _ QMP 2 QMp _ Tryz.func41 Tryz.call41 kx
theorem QPl:KOk tp 97 QNW:=.f _ QMQ 2 QMq _ Tryz.func97 Tryz.call97 kx
theorem QOv:KOk tp 42 QME:=.f _ QL3 2 QLU _ Tryz.func42 Tryz.call42 kx
theorem QQA:KOk tp 99 QQz:=.f _ QR0 1 QQv _ Tryz.func99 Tryz.call99 kx
theorem QOF:KOk tp 43 QNl:=.f _ QMc 2 QL2 _ Tryz.func43 Tryz.call43 kx
theorem QQa:KOk tp 101 QOu:=.f _ QPD 0 QOt _ Tryz.func101 Tryz.call101 kx
theorem QPI:KOk tp 103 QOe:=.f _ QPi 1 QOc _ Tryz.func103 Tryz.call103 kx
theorem QUa:KOk tp 18 QSa:=.f _ QNF 4 QMT _ Tryz.func18 Tryz.call18 kx
theorem QPL:KOk tp 39 QOh:=.f _ QPj 0 QOd _ Tryz.func39 Tryz.call39 kx
theorem QO6:KOk tp 44 QNu:=.f _ QOE 1 QNr _ Tryz.func44 Tryz.call44 kx
theorem QVP:KOk tp 51 QTx:=.f _ QOZ 2 QNH _ Tryz.func51 Tryz.call51 kx
theorem QVQ:KOk tp 145 QTy:=.f _ QSJ 2 QRk _ Tryz.func145 Tryz.call145 kx
theorem QVc:KOk tp 50 QSO:=.f _ QRZ 2 QQu _ Tryz.func50 Tryz.call50 kx
theorem QVa:KOk tp 45 QSM:=.f _ QRX 2 QQs _ Tryz.func45 Tryz.call45 kx
theorem QVb:KOk tp 104 QSN:=.f _ QRY 2 QQt _ Tryz.func104 Tryz.call104 kx
theorem QUn:KOk tp 105 QRr:=.f _ QND 2 QMM _ Tryz.func105 Tryz.call105 kx
theorem QTY:KOk tp 52 QQY:=.f _ QNm 2 QMG _ Tryz.func52 Tryz.call52 kx
theorem QUP:KOk tp 46 QR9:=.f _ QN6 2 QM5 _ Tryz.func46 Tryz.call46 kx
theorem QVO:KOk tp 47 QTw:=.f _ QOY 2 QNG _ Tryz.func47 Tryz.call47 kx
theorem QUo:KOk tp 53 QRs:=.f _ QNE 2 QMN _ Tryz.func53 Tryz.call53 kx
theorem QU9:KOk tp 19 QSL:=.f _ QMg 4 QL6 _ Tryz.func19 Tryz.call19 kx
theorem QUp:KOk tp 14 QRt:=.f _ QQS 0 QPd _ Tryz.func14 Tryz.call14 kx
theorem QAt:KOk tp 11 QqE:=.f _ QbW 1 QaM _ Tryz.func11 Tryz.call11 kx
theorem QVg:KOk tp 21 QSS:=.f _ QR3 3 QQy _ Tryz.func21 Tryz.call21 kx
theorem QAu:KOk tp 28 QqF:=.f _ QoC 1 QkQ _ Tryz.func28 Tryz.call28 kx
theorem QSb:KOk tp 57 QO5:=.f _ QOD 2 QNq _ Tryz.func57 Tryz.call57 kx
theorem QUq:KOk tp 58 QRu:=.f _ QQT 2 QPe _ Tryz.func58 Tryz.call58 kx
theorem QTW:KOk tp 59 QQW:=.f _ QP6 2 QOR _ Tryz.func59 Tryz.call59 kx
theorem QVe:KOk tp 60 QSQ:=.f _ QR1 3 QQw _ Tryz.func60 Tryz.call60 kx
theorem QVf:KOk tp 61 QSR:=.f _ QR2 1 QQx _ Tryz.func61 Tryz.call61 kx
theorem QTX:KOk tp 62 QQX:=.f _ QP7 1 QOS _ Tryz.func62 Tryz.call62 kx
theorem QCl:KOk tp 69 Qr9:=.f _ Qqn 1 Qmp _ Tryz.func69 Tryz.call69 kx
theorem Qv4:KOk tp 70 Qmy:=.f _ Qk3 2 Qg0 _ Tryz.func70 Tryz.call70 kx
theorem Qsq:KOk tp 71 Qkd:=.f _ QiO 1 QfP _ Tryz.func71 Tryz.call71 kx
theorem QxE:KOk tp 72 QnK:=.f _ Qmh 3 Qh3 _ Tryz.func72 Tryz.call72 kx
theorem QS7:KOk tp 106 QPH:=.f _ QPh 1 QOb _ Tryz.func106 Tryz.call106 kx
theorem QS6:KOk tp 107 QPG:=.f _ QPg 1 QOa _ Tryz.func107 Tryz.call107 kx
theorem Qua:KOk tp 113 Qk8:=.f _ QjG 2 Qgh _ Tryz.func113 Tryz.call113 kx
theorem Qt9:KOk tp 114 Qk7:=.f _ QjF 2 Qgg _ Tryz.func114 Tryz.call114 kx
theorem Qv3:KOk tp 115 Qmx:=.f _ Qk2 1 QgZ _ Tryz.func115 Tryz.call115 kx
theorem Qv5:KOk tp 116 Qmz:=.f _ Qk4 1 Qg1 _ Tryz.func116 Tryz.call116 kx
theorem QvX:KOk tp 117 Qmr:=.f _ QkW 1 QgT _ Tryz.func117 Tryz.call117 kx
theorem QoU:KOk tp 118 Qhm:=.f _ Qgy 1 Qey _ Tryz.func118 Tryz.call118 kx
theorem Qp0:KOk tp 119 Qh7:=.f _ Qhh 1 QeT _ Tryz.func119 Tryz.call119 kx
theorem QoT:KOk tp 120 Qhl:=.f _ Qgx 2 Qex _ Tryz.func120 Tryz.call120 kx
theorem QTZ:KOk tp 142 QQZ:=.f _ QP8 2 QOT _ Tryz.func142 Tryz.call142 kx
theorem Qnd:KOk tp 158 Qgd:=.f _ QfA 5 QdF _ Tryz.func158 Tryz.call158 kx
theorem QxC:KOk tp 159 QnI:=.f _ Qmf 1 Qh1 _ Tryz.func159 Tryz.call159 kx
theorem Qg3:KOk tp 160 Qdu:=.f _ Qc6 2 QbQ _ Tryz.func160 Tryz.call160 kx
theorem QoS:KOk tp 161 Qhk:=.f _ Qgw 3 Qew _ Tryz.func161 Tryz.call161 kx
theorem Qrd:KOk tp 162 QiU:=.f _ QhU 2 Qfm _ Tryz.func162 Tryz.call162 kx
theorem Qiq:KOk tp 192 Qef:=.f _ QdU 4 Qcu _ Tryz.func192 Tryz.call192 kx
theorem Quo:KOk tp 201 Qlm:=.f _ QjQ 1 Qgr _ Tryz.func201 Tryz.call201 kx
theorem Qeg:KOk tp 202 QbK:=QI4 Tryz.func202 kx kx kx kx
theorem Quq:KOk tp 277 Qlo:=.f _ QjS 1 Qgt _ Tryz.func277 Tryz.call277 kx
theorem Qsp:KOk tp 278 Qkc:=.f _ QiN 3 QfO _ Tryz.func278 Tryz.call278 kx
theorem Qsn:KOk tp 279 Qka:=.f _ QiL 3 QfM _ Tryz.func279 Tryz.call279 kx
theorem Qup:KOk tp 280 Qln:=.f _ QjR 1 Qgs _ Tryz.func280 Tryz.call280 kx
theorem Qso:KOk tp 281 Qkb:=.f _ QiM 2 QfN _ Tryz.func281 Tryz.call281 kx
theorem QTz:KOk tp 4 QP9:=.f _ QMx 4 QMa _ Tryz.func4 Tryz.call4 kx
theorem QpJ:LpOk tp 133 24 QbZ 3 Qho:=Qad (pls:=Qdv) Tryz.func133 rfl kx
theorem Qz2:LpOk tp 33 43 Qe8 6 QoX:=Qad (pls:=QhN) Tryz.func33 rfl kx
theorem QBJ:LpOk tp 136 17 Qf4 2 QqG:=Qad (pls:=Qjt) Tryz.func136 rfl kx
theorem Qz3:LpOk tp 137 18 Qe9 3 QoY:=Qad (pls:=QhO) Tryz.func137 rfl kx
theorem Qw3:LpOk tp 90 20 QdJ 3 QmB:=Qad (pls:=Qf2) Tryz.func90 rfl kx
theorem Qw4:LpOk tp 84 229 Qai 5 QmC:=Qad (pls:=QaX) Tryz.func84 rfl kx
theorem QvI:LpOk tp 84 229 Qai 18 Qlr:=Qad (pls:=QaX) Tryz.func84 rfl kx
theorem QvH:LpOk tp 84 229 Qai 21 Qlq:=Qad (pls:=QaX) Tryz.func84 rfl kx
theorem QvG:LpOk tp 84 229 Qai 29 Qlp:=Qad (pls:=QaX) Tryz.func84 rfl kx
theorem QpK:LpOk tp 204 36 Qb0 2 Qhp:=Qad (pls:=Qdw) Tryz.func204 rfl kx
theorem Qq3:LpOk tp 166 32 Qcn 2 Qia:=Qad (pls:=QdV) Tryz.func166 rfl kx
theorem QpL:LpOk tp 234 178 Qco 25 Qhq:=Qad (pls:=QdW) Tryz.func234 rfl kx
theorem Qq4:LpOk tp 205 14 Qcp 2 Qib:=Qad (pls:=QdX) Tryz.func205 rfl kx
theorem QpM:LpOk tp 167 14 Qb1 2 Qhr:=Qad (pls:=Qdx) Tryz.func167 rfl kx
theorem QpN:LpOk tp 169 22 Qb2 4 Qhs:=Qad (pls:=Qdy) Tryz.func169 rfl kx
theorem QoD:LpOk tp 94 32 QbC 2 QgC:=Qad (pls:=Qc2) Tryz.func94 rfl kx
theorem Qyx:LpOk tp 37 128 QcG 10 QnN:=Qad (pls:=Qep) Tryz.func37 rfl kx
theorem Qyw:LpOk tp 37 128 QcG 17 QnM:=Qad (pls:=Qep) Tryz.func37 rfl kx
theorem QvJ:LpOk tp 35 166 Qde 6 Qls:=Qad (pls:=Qfs) Tryz.func35 rfl kx
theorem Qyy:LpOk tp 165 31 Qeu 3 QnO:=Qad (pls:=QgK) Tryz.func165 rfl kx
theorem Qw6:LpOk tp 139 194 Qet 29 QmE:=Qad (pls:=QgJ) Tryz.func139 rfl kx
theorem Qw5:LpOk tp 95 64 QdK 3 QmD:=Qad (pls:=Qf3) Tryz.func95 rfl kx
theorem Qt3:LpOk tp 38 65 Qa7 5 Qkk:=Qad (pls:=QcC) Tryz.func38 rfl kx
theorem Qt2:LpOk tp 38 65 Qa7 8 Qkj:=Qad (pls:=QcC) Tryz.func38 rfl kx
theorem Qz4:LpOk tp 49 44 Qfa 2 QoZ:=Qad (pls:=QhS) Tryz.func49 rfl kx
theorem QUj:LpOk tp 48 18 QNf 2 QQ4:=Qad (pls:=QOq) Tryz.func48 rfl kx
theorem QpO:LpOk tp 79 111 QaE 1 Qht:=Qad (pls:=QbB) Tryz.func79 rfl kx
theorem QoE:LpOk tp 79 111 QaE 19 QgD:=Qad (pls:=QbB) Tryz.func79 rfl kx
theorem Qxa:LpOk tp 36 46 QaL 3 QmI:=Qad (pls:=QbV) Tryz.func36 rfl kx
theorem Qw9:LpOk tp 36 46 QaL 7 QmH:=Qad (pls:=QbV) Tryz.func36 rfl kx
theorem QvL:LpOk tp 36 46 QaL 10 Qlu:=Qad (pls:=QbV) Tryz.func36 rfl kx
theorem Qq5:LpOk tp 121 27 Qcq 3 Qic:=Qad (pls:=QdY) Tryz.func121 rfl kx
theorem Qnc:LpOk tp 75 36 Qba 2 QfU:=Qad (pls:=QcF) Tryz.func75 rfl kx
theorem Qyv:LpOk tp 9 22 Qes 4 QnL:=Qad (pls:=QgI) Tryz.func9 rfl kx
theorem Qt1:LpOk tp 16 102 Qa6 3 Qki:=Qad (pls:=QcB) Tryz.func16 rfl kx
theorem QrQ:LpOk tp 16 102 Qa6 14 QiV:=Qad (pls:=QcB) Tryz.func16 rfl kx
theorem QR6:LpOk tp 96 40 QL7 1 QOI:=Qad (pls:=QMo) Tryz.func96 rfl kx
theorem QR5:LpOk tp 96 40 QL7 3 QOH:=Qad (pls:=QMo) Tryz.func96 rfl kx
theorem QR7:LpOk tp 143 30 QMy 1 QOJ:=Qad (pls:=QM2) Tryz.func143 rfl kx
theorem QRK:LpOk tp 100 32 QMs 1 QOz:=Qad (pls:=QMS) Tryz.func100 rfl kx
theorem QRJ:LpOk tp 40 28 QMr 1 QOy:=Qad (pls:=QMR) Tryz.func40 rfl kx
theorem QP0:LpOk tp 102 82 QLT 1 QNz:=Qad (pls:=QL0) Tryz.func102 rfl kx
theorem QPZ:LpOk tp 102 82 QLT 5 QNy:=Qad (pls:=QL0) Tryz.func102 rfl kx
theorem QPE:LpOk tp 102 82 QLT 13 QNn:=Qad (pls:=QL0) Tryz.func102 rfl kx
theorem QRH:LpOk tp 41 23 QMp 2 QOw:=Qad (pls:=QMP) Tryz.func41 rfl kx
theorem QRI:LpOk tp 97 25 QMq 2 QOx:=Qad (pls:=QMQ) Tryz.func97 rfl kx
theorem QQo:LpOk tp 42 53 QLU 3 QNM:=Qad (pls:=QL3) Tryz.func42 rfl kx
theorem QQn:LpOk tp 42 53 QLU 8 QNL:=Qad (pls:=QL3) Tryz.func42 rfl kx
theorem QNK:LpOk tp 42 53 QLU 14 QNx:=Qad (pls:=QL3) Tryz.func42 rfl kx
theorem QQU:LpOk tp 43 91 QL2 6 QN1:=Qad (pls:=QMc) Tryz.func43 rfl kx
theorem QQp:LpOk tp 43 91 QL2 12 QNN:=Qad (pls:=QMc) Tryz.func43 rfl kx
theorem QU4:LpOk tp 18 58 QMT 4 QSe:=Qad (pls:=QNF) Tryz.func18 rfl kx
theorem QU3:LpOk tp 18 58 QMT 9 QSd:=Qad (pls:=QNF) Tryz.func18 rfl kx
theorem QUK:LpOk tp 51 20 QNH 1 QRw:=Qad (pls:=QOZ) Tryz.func51 rfl kx
theorem QTq:LpOk tp 105 31 QMM 3 QPM:=Qad (pls:=QND) Tryz.func105 rfl kx
theorem QS4:LpOk tp 52 45 QMG 4 QPo:=Qad (pls:=QNm) Tryz.func52 rfl kx
theorem QTR:LpOk tp 46 24 QM5 2 QQb:=Qad (pls:=QN6) Tryz.func46 rfl kx
theorem QUJ:LpOk tp 47 25 QNG 2 QRv:=Qad (pls:=QOY) Tryz.func47 rfl kx
theorem QTr:LpOk tp 53 28 QMN 2 QPN:=Qad (pls:=QNE) Tryz.func53 rfl kx
theorem QUi:LpOk tp 19 137 QL6 4 QQ3:=Qad (pls:=QMg) Tryz.func19 rfl kx
theorem QTU:LpOk tp 19 137 QL6 11 QQe:=Qad (pls:=QMg) Tryz.func19 rfl kx
theorem QTT:LpOk tp 19 137 QL6 16 QQd:=Qad (pls:=QMg) Tryz.func19 rfl kx
theorem QTS:LpOk tp 19 137 QL6 23 QQc:=Qad (pls:=QMg) Tryz.func19 rfl kx
theorem QSx:LpOk tp 4 93 QMa 6 QO7:=Qad (pls:=QMx) Tryz.func4 rfl kx
theorem QR4:LpOk tp 4 93 QMa 14 QOG:=Qad (pls:=QMx) Tryz.func4 rfl kx
variable {P:Program}{i:Nat}
theorem tbg {t:Tr FFn}{g:FFn}(h:t.get i=some g)(k:QC P t):KOk P i g:=QC.get k h
theorem lsn:∀S∈([]:List LCt),LsI P i S:=fun _ h=>nomatch h
theorem lsc {a:LCt}{l:List LCt}(h:LsI P i a)(t:∀S∈l,LsI P i S):∀S∈a::l,LsI P i S:=fun S hS=>by
 rcases List.mem_cons.1 hS with e | e
 ·rw[e];exact h
 ·exact t S e
theorem QEU [Gd]{I:SPt}{O:List SPt}{q q':QF}(h:∀xs Ks,q xs Ks→q' xs Ks)(hq:QOk P i ⟨I,O,q'⟩):QOk P i ⟨I,O,q⟩:=fun xs Ks hw hx=>hq xs Ks hw (h xs Ks hx)
theorem Qa3:KOk tp 81 (.q (Qas Qe)):=by
 have ht:∀i g,Qiu.get i=some g→KOk tp i g:=fun _ _ h=>tbg h trivial
 exact kq rfl (q_of ht Qud (ls:=[]) lsn rfl fun xs Ks _ h=>by
     obtain⟨n,b,i,m,rfl,h1,h2,h3,h4,h5⟩:=h
     exact QtN (Ks:=nthK Ks) h1 h2 h3 h4 h5)
theorem Qmi:KOk tp 128 (.q (Qel QM)):=by
 have ht:∀i g,(Qjy Qe).get i=some g→KOk tp i g:=fun _ _ h=>tbg h Qa3
 exact kq rfl (q_of ht QvZ (ls:=[]) lsn rfl fun xs Ks _ h=>by
     obtain⟨b,i,n,rfl,h1⟩:=h
     exact Qvo (Ks:=nthK Ks) h1)
theorem Qek:KOk tp 83 (.q (Qcb Qi)):=by
 have ht:∀i g,(Qiv Qe).get i=some g→KOk tp i g:=fun _ _ h=>tbg h Qa3
 exact kq rfl (q_of ht Que (ls:=[]) lsn rfl fun xs Ks _ h=>by
     obtain⟨b,i,n,rfl,h1⟩:=h
     exact QtO (Ks:=nthK Ks) h1)
theorem Qgf:KOk tp 130 (.q (QcQ Qn)):=by
 have ht:∀i g,(Qit Qe).get i=some g→KOk tp i g:=fun _ _ h=>tbg h Qa3
 exact kq rfl (q_of ht Quc (ls:=[]) lsn rfl fun xs Ks _ h=>by
     obtain⟨k,b,i,n,rfl,_,h⟩:=h
     exact QtM (Ks:=nthK Ks) h)
theorem QjC:∀k,(∀G:Gd,G.Q→@QOk _ G tp 129 (Qby (Qej k)))
 | 0=>fun G _ xs Ks _ h=>by
   obtain⟨k,b,i,n,_,h1,h2⟩:=h
   first | (exfalso;omega) | exact absurd h1.sz nt
 | k+1=>by
  have ih:=QjC  k
  have r_seat_maker_sum:=ih
  have ht:∀i g,(Qjx Qe QM Qi (Qej k)).get i=some g→KOk tp i g:=fun _ _ h=>tbg h ⟨⟨Qa3,Qek⟩,⟨Qmi,(kq rfl r_seat_maker_sum)⟩⟩
  exact q_of ht QvY (ls:=[]) lsn rfl fun xs Ks _ h=>by
     obtain⟨k,b,i,n,rfl,h1,h2⟩:=h
     exact Qvn (Ks:=nthK Ks) h1 h2
theorem QgS:KOk tp 129 (.q (Qby Qj)):=kq rfl fun G hg=>QEU (q':=Qej 3) (fun xs Ks h=>by obtain⟨d,b,i,n,e,hd,h⟩:=h;exact⟨d,b,i,n,e,⟨hd.1,hd.2,om⟩,h⟩) (QjC 3 G hg)
theorem QiB:∀k,(∀G:Gd,G.Q→@QOk _ G tp 132 (QcR (QdT k)))
 | 0=>fun G _ xs Ks _ h=>by
   obtain⟨k,d,b,i,n,_,h1,h2⟩:=h
   first | (exfalso;omega) | exact absurd h1.sz nt
 | k+1=>by
  have ih:=QiB  k
  have r_seat_maker_cond:=ih
  have ht:∀i g,(Qiw Qe Qi Qn Qj (QdT k)).get i=some g→KOk tp i g:=fun _ _ h=>tbg h ⟨⟨Qa3,Qek⟩,⟨QgS,⟨Qgf,(kq rfl r_seat_maker_cond)⟩⟩⟩
  exact q_of ht Quf (ls:=[]) lsn rfl fun xs Ks _ h=>by
     obtain⟨k,d,b,i,n,rfl,h1,h2⟩:=h
     exact QtP (Ks:=nthK Ks) h1 h2
theorem Qt5:KOk tp 132 (.q (QcR QB)):=kq rfl fun G hg=>QEU (q':=QdT 2) (fun xs Ks h=>by obtain⟨k,d,b,i,n,e,hd,h⟩:=h;exact⟨k,d,b,i,n,e,⟨hd.1,hd.2,om⟩,h⟩) (QiB 2 G hg)
theorem Qt6:KOk tp 131 (.q (QfW Qaj)):=by
 have ht:∀i g,(Qix Qn Qj).get i=some g→KOk tp i g:=fun _ _ h=>tbg h ⟨QgS,Qgf⟩
 exact kq rfl (q_of ht Qug (ls:=[]) lsn rfl fun xs Ks _ h=>by
     obtain⟨c,k,b,i,n,rfl,_,h⟩:=h
     exact QtQ (Ks:=nthK Ks) h)
theorem Qu2:KOk tp 17 (.q (Qie QX)):=by
 have ht:∀i g,Qqj.get i=some g→KOk tp i g:=fun _ _ h=>tbg h trivial
 exact kq rfl (q_of ht QDq (ls:=[]) lsn rfl fun xs Ks _ h=>by
     obtain⟨k,rfl,h1,h2⟩:=h
     exact QDa (Ks:=nthK Ks) h1 h2)
theorem QDh:KOk tp 80 (.q (QmR Qaq)):=by
 have ht:∀i g,Qqi.get i=some g→KOk tp i g:=fun _ _ h=>tbg h trivial
 exact kq rfl (q_of ht QDo (ls:=[]) lsn rfl fun xs Ks _ h=>by
     obtain⟨k,rfl,h1,h2⟩:=h
     exact QC8 (Ks:=nthK Ks) h1 h2)
theorem QyE:KOk tp 34 (.q (Qif Q7)):=by
 have ht:∀i g,Ql5.get i=some g→KOk tp i g:=fun _ _ h=>tbg h trivial
 exact kq rfl (q_of ht QyN (ls:=[]) lsn rfl fun xs Ks _ h=>by
     obtain⟨k,rfl,h1⟩:=h
     exact Qyh (Ks:=nthK Ks) h1)
end Go.Proofs.YtmdppkbekmpopaaGreat
