import Derived.Test.YtemffgbncjnmkaaGreatXs2
set_option linter.unusedVariables false
set_option linter.unusedSimpArgs false
set_option maxRecDepth 100000
set_option maxHeartbeats 4000000
noncomputable section
namespace Go.Proofs.YtemffgbncjnmkaaGreat
open Go Go.Sh Go.Va
theorem QaaT:∀i g,Q49.get i=some g→KOk Tryz.prog i g:=fun _ _ h=>tbg h (QNe)
theorem QYU:KOk Tryz.prog 63 (.q (QSd QLH)):=kq rfl (q_of QaaT QR2 (ls:=[]) lsn rfl fun xs Ks _ h=>by
     obtain⟨a,b,rfl,h1,h2⟩:=h
     exact Qabg (Ks:=nthK Ks) h1 h2)
theorem Q9S:∀i g,Q29.get i=some g→KOk Tryz.prog i g:=fun _ _ h=>tbg h (QUB)
theorem QaaW:KOk Tryz.prog 239 (.q (QZR QNq)):=kq rfl (q_of Q9S Q6o (ls:=[]) lsn rfl fun xs Ks _ h=>by
     obtain⟨x,n,rfl,h1,h2⟩:=h
     exact QaaS (Ks:=nthK Ks) h1 h2)
theorem Q81:∀i g,QWm.get i=some g→KOk Tryz.prog i g:=fun _ _ h=>tbg h ⟨QNe,⟨QR2,QUB⟩⟩
theorem QVJ:KOk Tryz.prog 81 (.q (QOY QLC)):=kq rfl (q_of Q81 Q5w (ls:=[]) lsn rfl fun xs Ks _ h=>by
     obtain⟨la,lc,x,rfl | rfl,h⟩:=h
     ·exact Q7X (q1:=nB2) (Ks:=nthK Ks) h
     ·exact Q7Y (q1:=nB2) (Ks:=nthK Ks) h)
theorem Q82:∀i g,(Q1S QLC).get i=some g→KOk Tryz.prog i g:=fun _ _ h=>tbg h (QVJ)
theorem QZl:KOk Tryz.prog 228 (.q (QR6 QLM)):=kq rfl (q_of Q82 Q5z (ls:=[]) lsn rfl fun xs Ks _ h=>by
     obtain⟨x,y,rfl,h1⟩:=h
     exact Q9N (Ks:=nthK Ks) h1)
theorem Q73:∀i g,Q0f.get i=some g→KOk Tryz.prog i g:=fun _ _ h=>tbg h (trivial)
theorem Q9b:KOk Tryz.prog 236 (.q (QWL QMS)):=kq rfl (q_of Q73 Q31 (ls:=[]) lsn rfl fun xs Ks _ h=>by
     obtain⟨a,b,rfl,h1,h2,h3⟩:=h
     exact Q80 (Ks:=nthK Ks) h1 h2 h3)
theorem Q7d:∀i g,QYH.get i=some g→KOk Tryz.prog i g:=fun _ _ h=>tbg h (trivial)
theorem Q76:KOk Tryz.prog 235 (.q (QVE QMJ)):=kq rfl (q_of Q7d Q2l (ls:=[]) lsn rfl fun xs Ks _ h=>by
     obtain⟨a,b,rfl,h1,h2,h3⟩:=h
     exact Q70 (Ks:=nthK Ks) h1 h2 h3)
theorem Q86:∀i g,(Q1W QLM QMS).get i=some g→KOk Tryz.prog i g:=fun _ _ h=>tbg h ⟨⟨QSc,QNe⟩,⟨QR2,⟨QZl,Q9b⟩⟩⟩
theorem Q90:KOk Tryz.prog 224 (.q (QYn QNE)):=kq rfl (q_of Q86 Q5D (ls:=[]) lsn rfl fun xs Ks _ h=>by
     obtain⟨x,y,rfl,h1,h2,h3,h4⟩:=h
     exact Q9R (Ks:=nthK Ks) h1 h2 h4)
theorem Q83:∀i g,(Q1T QLM QMJ).get i=some g→KOk Tryz.prog i g:=fun _ _ h=>tbg h ⟨⟨QSc,QNe⟩,⟨QR2,⟨QZl,Q76⟩⟩⟩
theorem Q5m:KOk Tryz.prog 223 (.q (QUM QMj)):=kq rfl (q_of Q83 Q5A (ls:=[]) lsn rfl fun xs Ks _ h=>by
     obtain⟨x,y,rfl,h1,h2,h3,h4⟩:=h
     exact Q9O (Ks:=nthK Ks) h1 h2 h4)
theorem Q84:∀i g,(Q1U QMj).get i=some g→KOk Tryz.prog i g:=fun _ _ h=>tbg h ⟨⟨QUC,QNe⟩,⟨QR2,Q5m⟩⟩
theorem Q9W:KOk Tryz.prog 204 (.q (QYl QNo)):=kq rfl (q_of Q84 Q5B (ls:=[]) lsn rfl fun xs Ks _ h=>by
     obtain⟨x,rfl,h1,h2⟩:=h
     exact Q9P (Ks:=nthK Ks) h1 h2)
theorem Q3d:∀i g,(QRc QLH).get i=some g→KOk Tryz.prog i g:=fun _ _ h=>tbg h ⟨QNe,⟨QYU,Q32⟩⟩
theorem Q4E:KOk Tryz.prog 240 (.q (QPB QL7)):=kq rfl (q_of Q3d QXb (ls:=[]) lsn rfl fun xs Ks _ h=>by
     obtain⟨x,⟨rfl,h⟩ | ⟨y,rfl,h1,h2,h3⟩⟩:=h
     ·exact Q2C (Ks:=nthK Ks) h
     ·exact Q2B (Ks:=nthK Ks) h1 h2 h3)
theorem Q85:∀i g,(Q1V QLH QNq QLC QLM QL7).get i=some g→KOk Tryz.prog i g:=fun _ _ h=>tbg h ⟨⟨QSc,⟨QNe,QYU⟩⟩,⟨⟨QVJ,QZl⟩,⟨QaaW,Q4E⟩⟩⟩
theorem Q9Z:KOk Tryz.prog 226 (.q (QYm QND)):=kq rfl (q_of Q85 Q5C (ls:=[]) lsn rfl fun xs Ks _ h=>by
     obtain⟨x,y,rfl,h1,h2,h3,h4⟩:=h
     exact Q9Q (Ks:=nthK Ks) h1 h2 h3 h4)
theorem Q3C:KOk Tryz.prog 53 (.q (QPA QLR)):=by
 have ht:∀i g,QSZ.get i=some g→KOk Tryz.prog i g:=fun _ _ h=>tbg h ⟨⟨⟨QPq,QNe⟩,⟨Qt9,QXm⟩⟩,⟨⟨Qg3,QNw⟩,⟨QTt,Qeg⟩⟩⟩
 exact kq rfl (q_of ht Q7T (ls:=[]) lsn rfl fun xs Ks _ h=>Qabz h)
theorem Q3B:KOk Tryz.prog 127 (.q (QNf QLO)):=by
 have ht:∀i g,(QNr QLC).get i=some g→KOk Tryz.prog i g:=fun _ _ h=>tbg h ⟨⟨⟨⟨⟨QSb,QPq⟩,⟨QRa,⟨Q1B,QQ9⟩⟩⟩,⟨⟨Qt9,⟨QWI,QYe⟩⟩,⟨QVJ,⟨QxC,QXm⟩⟩⟩⟩,⟨⟨⟨QOt,QNd⟩,⟨Qg3,⟨QZL,QUA⟩⟩⟩,⟨⟨QWH,⟨QUz,Q1z⟩⟩,⟨QM4,⟨Quo,QNw⟩⟩⟩⟩⟩,⟨⟨⟨⟨QTt,QMI⟩,⟨Qeg,⟨QW7,QMu⟩⟩⟩,⟨⟨QMB,⟨QMa,QMF⟩⟩,⟨QMb,⟨QMn,QMe⟩⟩⟩⟩,⟨⟨⟨QLQ,⟨QQZ,QL3⟩⟩,⟨QMx,⟨QS8,QME⟩⟩⟩,⟨⟨QL4,⟨QMP,QOu⟩⟩,⟨QTX,⟨QMO,QV5⟩⟩⟩⟩⟩⟩
 exact kq rfl (q_of ht Q3W (ls:=[]) lsn rfl fun xs Ks _ h=>Q9M h)
theorem Q1d:KOk Tryz.prog 45 (.q (QN9 QLF)):=by
 have ht:∀i g,(QQj QLC).get i=some g→KOk Tryz.prog i g:=fun _ _ h=>tbg h ⟨⟨⟨⟨⟨QSb,QPq⟩,⟨QRa,QQ9⟩⟩,⟨⟨Qt9,QWI⟩,⟨QYe,⟨QVJ,QxC⟩⟩⟩⟩,⟨⟨⟨QOt,QNd⟩,⟨Qg3,QZL⟩⟩,⟨⟨QUA,QWH⟩,⟨QUz,⟨Q1z,QM4⟩⟩⟩⟩⟩,⟨⟨⟨⟨Quo,QMI⟩,⟨Qeg,QMu⟩⟩,⟨⟨QMB,QMa⟩,⟨QMF,⟨QMb,QMn⟩⟩⟩⟩,⟨⟨⟨QMe,QLQ⟩,⟨QQZ,⟨QL3,QMx⟩⟩⟩,⟨⟨QME,QL4⟩,⟨QMP,⟨QOu,QMO⟩⟩⟩⟩⟩⟩
 exact kq rfl (q_of ht Q1B (ls:=[]) lsn rfl fun xs Ks _ h=>Qabc h)
theorem Qabi:KOk Tryz.prog 74 (.q (QXn QML)):=by
 have ht:∀i g,QZh.get i=some g→KOk Tryz.prog i g:=fun _ _ h=>tbg h ⟨⟨⟨⟨⟨QPq,QRa⟩,⟨QQ9,Qt9⟩⟩,⟨⟨QxC,QXm⟩,⟨QOt,⟨QNd,Qg3⟩⟩⟩⟩,⟨⟨⟨Q6n,Q3V⟩,⟨Q7Q,⟨QUB,QM4⟩⟩⟩,⟨⟨Quo,QNw⟩,⟨QTt,⟨QMI,Qeg⟩⟩⟩⟩⟩,⟨⟨⟨⟨QQG,Q0K⟩,⟨QTY,⟨QMu,QMB⟩⟩⟩,⟨⟨QMa,QMF⟩,⟨QMb,⟨QMn,QMe⟩⟩⟩⟩,⟨⟨⟨QLQ,QQZ⟩,⟨QL3,⟨QMx,Q0G⟩⟩⟩,⟨⟨QME,QL4⟩,⟨QMP,⟨QOu,QMO⟩⟩⟩⟩⟩⟩
 exact kq rfl (q_of ht Q7S (ls:=[]) lsn rfl fun xs Ks _ h=>Qaby h)
theorem Q9X:KOk Tryz.prog 225 (.q (Q35 QNB)):=kq rfl fun _ _ _ _ _ h=>h.elim
theorem Q9Y:KOk Tryz.prog 227 (.q (Q36 QNC)):=kq rfl fun _ _ _ _ _ h=>h.elim
theorem Q5F:∀i g,(QWN QNE QMj QND QNB QNC).get i=some g→KOk Tryz.prog i g:=fun _ _ h=>tbg h ⟨⟨Q5m,Q90⟩,⟨Q9X,⟨Q9Z,Q9Y⟩⟩⟩
theorem Q6f:KOk Tryz.prog 205 (.q (QTI QLZ)):=kq rfl (q_of Q5F QY3 (ls:=[]) lsn rfl fun xs Ks _ h=>by
     obtain⟨k,a,b,v,rfl,h1,h2,h3,h4⟩:=h
     exact Q54 (Ks:=nthK Ks) (q1:=QNB) (q2:=QNC) h1 h2 h3 h4)
theorem QYI:∀k,(∀G:Gd,G.Q→@QOk _ G Tryz.prog 159 (QQz (QNt k)))
 | 0=>fun G _ xs Ks _ h=>by
   obtain⟨_,_,_,_,_,_,_,_,_,_,_,h,_⟩:=h
   exact absurd h (Nat.not_lt_zero _)
 | k+1=>by
  have ih:=QYI k
  have r_guard_value:=ih
  have ht:∀i g,(QYG QNo QLR (QNt k) QLZ).get i=some g→KOk Tryz.prog i g:=fun _ _ h=>tbg h ⟨⟨⟨QUC,QNe⟩,⟨Q3C,QR2⟩⟩,⟨⟨(kq rfl r_guard_value),Q3X⟩,⟨Q9W,Q6f⟩⟩⟩
  exact q_of ht Q2j (ls:=[]) lsn rfl fun xs Ks _ h=>by
     obtain⟨mi,mp,e,E,x,y,z,v,rfl,h1,h2,h3,h4,h5⟩:=h
     exact Q7Z (Ks:=nthK Ks) h1 h2 h3 h4 h5
theorem Q75:KOk Tryz.prog 159 (.q (QQz QLK)):=kq rfl fun G hg=>Qnr (q:=fun k=>QNt k) fun k=>(QYI k) G hg
theorem Q72:∀i g,(Q0e QLK).get i=some g→KOk Tryz.prog i g:=fun _ _ h=>tbg h ⟨Q75,QV8⟩
theorem Q89:KOk Tryz.prog 166 (.q (QWJ QNm)):=kq rfl (q_of Q72 Q3Y (ls:=[]) lsn rfl fun xs Ks _ h=>by
     obtain⟨mi,mp,e,E,x,y,z,v,rfl,h1,h2,h3,h4⟩:=h
     exact Q8Y (Ks:=nthK Ks) h1 h2 h3 h4)
theorem Q4x:∀i g,(QVM QNm).get i=some g→KOk Tryz.prog i g:=fun _ _ h=>tbg h ⟨⟨QSb,QQY⟩,⟨Q89,QUx⟩⟩
theorem Q5H:KOk Tryz.prog 103 (.q (QSX QLX)):=kq rfl (q_of Q4x QYb (ls:=[]) lsn rfl fun xs Ks _ h=>by
     obtain⟨e,mi,mp,E,x,y,z,v,rfl,h1,h2,h3,h4⟩:=h
     exact Q5E (Ks:=nthK Ks) h1 h2 h3 h4)
theorem Q3c:∀i g,(QUY QLR QLO).get i=some g→KOk Tryz.prog i g:=fun _ _ h=>tbg h ⟨⟨QSb,⟨Q3C,QQY⟩⟩,⟨⟨Q3B,QUx⟩,⟨Q0J,Q5t⟩⟩⟩
theorem Q4B:KOk Tryz.prog 105 (.q (QR3 QLY)):=kq rfl (q_of Q3c QW8 (ls:=[]) lsn rfl fun xs Ks _ h=>by
     obtain⟨mi,mp,n,x,y,z,v,x',y',z',rfl,h1,h2,h3⟩:=h
     exact Q4s (Ks:=nthK Ks) h1 h2 h3)
theorem Q3A:KOk Tryz.prog 106 (.q (QVg QL9)):=kq rfl fun _ _ _ _ _ h=>h.elim
theorem Qabh:KOk Tryz.prog 107 (.q (Q6M QNR)):=kq rfl fun _ _ _ _ _ h=>h.elim
theorem Q88:KOk Tryz.prog 108 (.q (Q2m QM1)):=kq rfl fun _ _ _ _ _ h=>h.elim
theorem Q4A:KOk Tryz.prog 110 (.q (QWe QMf)):=kq rfl fun _ _ _ _ _ h=>h.elim
theorem Q6d:KOk Tryz.prog 112 (.q (QYj QMC)):=kq rfl fun _ _ _ _ _ h=>h.elim
theorem Q5I:KOk Tryz.prog 116 (.q (QXd QMr)):=kq rfl fun _ _ _ _ _ h=>h.elim
theorem Q4C:KOk Tryz.prog 119 (.q (QWf QMg)):=kq rfl fun _ _ _ _ _ h=>h.elim
theorem Q6e:KOk Tryz.prog 124 (.q (QYk QMD)):=kq rfl fun _ _ _ _ _ h=>h.elim
theorem Q5J:KOk Tryz.prog 128 (.q (QXe QMs)):=kq rfl fun _ _ _ _ _ h=>h.elim
theorem QUc:KOk Tryz.prog 78 (.q (QM8 QLD)):=by
 have ht:∀i g,(QN7 QLH QLO QLX QLY QL9 QNR QM1 QMf QMC QMr QMg QMD QMs).get i=some g→KOk Tryz.prog i g:=fun _ _ h=>tbg h ⟨⟨⟨⟨QSc,⟨Q1y,QYU⟩⟩,⟨⟨Q0I,QTl⟩,⟨Q5H,QTk⟩⟩⟩,⟨⟨⟨Q4B,Q3A⟩,⟨Qabh,Q88⟩⟩,⟨⟨QTj,Q4A⟩,⟨QTi,Q6d⟩⟩⟩⟩,⟨⟨⟨⟨QTh,QTg⟩,⟨QTf,Q5I⟩⟩,⟨⟨QTe,QTd⟩,⟨Q4C,QSD⟩⟩⟩,⟨⟨⟨QSC,QSB⟩,⟨QSA,Q6e⟩⟩,⟨⟨QSz,QSy⟩,⟨Q3B,Q5J⟩⟩⟩⟩⟩
 exact kq rfl (q_of ht QUy (ls:=[]) lsn rfl fun xs Ks _ h=>Q1R h)
theorem Q7j:KOk Tryz.prog 76 (.q (QY8 QL6)):=kq rfl fun _ _ _ _ _ h=>h.elim
theorem Q7i:KOk Tryz.prog 77 (.q (QY7 QL5)):=kq rfl fun _ _ _ _ _ h=>h.elim
theorem QZk:KOk Tryz.prog 44 (.q (QOm QLE)):=by
 have ht:∀i g,(QQ1 QLF QL6 QL5 QLD).get i=some g→KOk Tryz.prog i g:=fun _ _ h=>tbg h ⟨⟨Q1d,QQY⟩,⟨Q7j,⟨Q7i,QUc⟩⟩⟩
 exact kq rfl (q_of ht Q5u (ls:=[]) lsn rfl fun xs Ks _ h=>Qaat h)
theorem Q74:KOk Tryz.prog 86 (.q (QOH QMh)):=by
 have ht:∀i g,(QPr QLD).get i=some g→KOk Tryz.prog i g:=fun _ _ h=>tbg h ⟨⟨⟨⟨QUc,QxC⟩,⟨QOt,⟨QNd,QM4⟩⟩⟩,⟨⟨Quo,⟨QMI,QMu⟩⟩,⟨QMB,⟨QMa,QMF⟩⟩⟩⟩,⟨⟨⟨QMb,⟨QMn,QMe⟩⟩,⟨QLQ,⟨QQZ,QL3⟩⟩⟩,⟨⟨QMx,⟨QME,QL4⟩⟩,⟨QMP,⟨QOu,QMO⟩⟩⟩⟩⟩
 exact kq rfl (q_of ht Q2i (ls:=[]) lsn rfl fun xs Ks _ h=>Q8K h)
structure Row (N:Nat)(nd:Nat→Nd)(tr:Nat→TR)(g:LD):Prop where
 n2:2≤N
 n100:N≤100
 len:g.es.length=N
 nodes:∀k,k<N→∃F,g.es.getD k .nul=.t F∧isN (nd k) (k+1) F
 last:nd (N - 1)=.ext
 mid:∀k,k+1<N→nd k≠.ext∧ndS (nd k) (tr k) (tr (k+1))
def memE (t:TR)(e:LD):Prop:=∃mi mp,e=.t [.b true,mi,mp]∧isMt t mi mp
abbrev noM:LD:=.t [.b false,.nul,.nul]
structure UpS (N:Nat)(tr:Nat→TR)(i:Nat)(vi vw vc:List LD):Prop where
 li:vi.length=N
 lw:vw.length=N
 lc:vc.length=N
 yes:∀k,k≤i→k<N→memE (tr k) (vi.getD k .nul)
 no:∀k,i<k→k<N→vi.getD k .nul=noM
 w:∀k,k<N→vw.getD k .nul=.t [.b (decide (k=i))]
theorem QQc {l:List LD}{i k:Nat}{x:LD}:(l.set i x).getD k .nul=if i=k∧k<l.length then x else l.getD k .nul:=by
 simp only[List.getD_eq_getElem?_getD,List.getElem?_set]
 by_cases h:i=k
 ·subst h
  by_cases h2:i<l.length
  ·simp[h2]
  ·simp[h2]
 ·simp[h]
section
variable {N:Nat}{nd:Nat→Nd}{tr:Nat→TR}{g:LD}{m:Int}{vi vw vc:List LD}{q q1 q2:QF}{Ks:Nat→List LD→Prop}
theorem Row.nx (R:Row N nd tr g){k:Nat}(h:k+1<N):∃a c,((g.at 13 (k:Int)).f 11)=.l a c [.t [.n ((k+1:Nat):Int)]]∧((g.at 13 (k:Int)).f 12).bo=false:=by
 obtain⟨F,e,hF⟩:=R.nodes k (by omega)
 have hne:=(R.mid k h).1
 have hat:g.at 13 (k:Int)=.p (g.ad.add ((k:Int).toNat * 13)) F:=by rw[LD.at,Int.toNat_natCast,e];rfl
 rw[hat]
 cases hN:nd k with
 | ent=>rw[hN] at hF;obtain⟨a,c,rfl⟩:=hF;exact⟨a,c,rfl,rfl⟩
 | st S=>rw[hN] at hF;obtain⟨n,s0,s1,s2,s3,s4,s5,s6,s7,s8,s9,a,c,_,rfl⟩:=hF;exact⟨a,c,rfl,rfl⟩
 | ext=>exact absurd hN hne
theorem Row.lastE (R:Row N nd tr g):(g.at 13 ((N - 1:Nat):Int))=.p (g.ad.add (((N - 1:Nat):Int).toNat * 13)) [.n 3,.n 0,.s [],.s [],.nul,.nul,.nul,.nul,.nul,.nul,.n 0,.nul,.b false]:=by
 obtain⟨F,e,hF⟩:=R.nodes (N - 1) (by have:=R.n2;omega)
 rw[R.last] at hF
 have hF':F=_:=hF
 rw[LD.at,Int.toNat_natCast,e,hF'];rfl
theorem Row.fs (R:Row N nd tr g){k:Nat}(h:k<N):isN (nd k) (k+1) [(LD.n ((g.at 13 (k:Int)).f 0).i),(LD.n ((g.at 13 (k:Int)).f 1).i),(LD.s ((g.at 13 (k:Int)).f 2).st),(LD.s ((g.at 13 (k:Int)).f 3).st),((g.at 13 (k:Int)).f 4),((g.at 13 (k:Int)).f 5),((g.at 13 (k:Int)).f 6),((g.at 13 (k:Int)).f 7),((g.at 13 (k:Int)).f 8),((g.at 13 (k:Int)).f 9),(LD.n ((g.at 13 (k:Int)).f 10).i),((g.at 13 (k:Int)).f 11),(LD.b ((g.at 13 (k:Int)).f 12).bo)]:=by
 obtain⟨F,e,hF⟩:=R.nodes k h
 have hat:g.at 13 (k:Int)=.p (g.ad.add ((k:Int).toNat * 13)) F:=by rw[LD.at,Int.toNat_natCast,e];rfl
 rw[hat]
 cases hN:nd k with
 | ent=>rw[hN] at hF;obtain⟨a,c,rfl⟩:=hF;exact⟨a,c,rfl⟩
 | st S=>rw[hN] at hF;obtain⟨n,s0,s1,s2,s3,s4,s5,s6,s7,s8,s9,a,c,hS,rfl⟩:=hF;exact⟨n,s0,s1,s2,s3,s4,s5,s6,s7,s8,s9,a,c,hS,rfl⟩
 | ext=>rw[hN] at hF;have hF':F=_:=hF;subst hF';rfl
theorem QaaU (R:Row N nd tr g){k:Nat}(h:k<N){e:LD}(he:memE (tr k) e){f:TelK [.l 18]}(hk:∀o:LD,(k+1<N→∃a c x,o=.l a c [x]∧memE (tr (k+1)) x)→(k+1=N→o.es=[])→f o) :
  QLE [(LD.b (e.f 0).bo),(e.f 1),(e.f 2),(LD.n ((g.at 13 (k:Int)).f 0).i),(LD.n ((g.at 13 (k:Int)).f 1).i),(LD.s ((g.at 13 (k:Int)).f 2).st),(LD.s ((g.at 13 (k:Int)).f 3).st),((g.at 13 (k:Int)).f 4),((g.at 13 (k:Int)).f 5),((g.at 13 (k:Int)).f 6),((g.at 13 (k:Int)).f 7),((g.at 13 (k:Int)).f 8),((g.at 13 (k:Int)).f 9),(LD.n ((g.at 13 (k:Int)).f 10).i),((g.at 13 (k:Int)).f 11),(LD.b ((g.at 13 (k:Int)).f 12).bo)] [apK [.l 18] f]:=by
 obtain⟨mi,mp,rfl,hm⟩:=he
 refine⟨nd k,k+1,_,mi,mp,tr k,tr (k+1),rfl,R.fs h,hm,?_,fun o ho _=>hk o (fun h1=>?_) fun h1=>?_⟩
 ·by_cases h1:k+1<N
  ·exact (R.mid k h1).2
  ·have:k=N - 1:=by omega
   subst this
   rw[R.last];trivial
 ·have hne:=(R.mid k h1).1
  cases hN:nd k with
  | ent=>rw[hN] at ho;obtain⟨a,c,mi,mp,rfl,hm⟩:=ho;exact⟨a,c,_,rfl,mi,mp,rfl,hm⟩
  | st S=>rw[hN] at ho;obtain⟨a,c,mi,mp,rfl,hm⟩:=ho;exact⟨a,c,_,rfl,mi,mp,rfl,hm⟩
  | ext=>exact absurd hN hne
 ·have:k=N - 1:=by omega
  subst this
  rw[R.last] at ho;exact ho
abbrev ksSv:List CK:=[.l 19,.i .i64,.r 18,.r 3,.r 2]
def QM7 (j:Nat):QF:=fun xs Ks=>∃N:Nat,∃nd tr g i o x k m vi vw vc,xs=[o,x,.n (Int.ofNat x.len),.n k,g,.n m,.t vi,.t vw,.t vc]∧Row N nd tr g∧i<N∧(k=0∧1<j∧x.len≤1∧(x.len=1→i+1<N∧((x.at 1 0).f 0).i=((i+1:Nat):Int)∧∃a c y,o=.l a c [y]∧memE (tr (i+1)) y)∧(x.len=0→i+1=N)∧vi.length=N∧vw.length=N∧vc.length=N∧(i+1<N→vi.getD (i+1) .nul=noM∧vw.getD (i+1) .nul=.t [.b false])∧(i+1=N→nthK Ks 0 [g,.n m,.t vi,.t vw,.t vc])∧(i+1<N→∀y c,memE (tr (i+1)) y→nthK Ks 0 [g,.n m,.t (vi.set (i+1) y),.t (vw.set (i+1) (.t [.b true])),.t (vc.set (i+1) c)])∨0<j∧k=Int.ofNat x.len∧nthK Ks 0 [g,.n m,.t vi,.t vw,.t vc])
theorem Q06 {o x:LD}{n k:Int}{Ks:List (List LD→Prop)}{j:Nat}(h:QM7 (j+1) [o,x,.n n,.n k,g,.n m,.t vi,.t vw,.t vc] Ks):QUS o x n k g m vi vw vc (fun ys=>QM7 j ys Ks) (nthK Ks) q QLF QML QMN QLE:=by
 obtain⟨N,nd,tr,g',i,o',x',k',m',vi',vw',vc',e,R,hi,h⟩:=h
 simp only[List.cons.injEq,LD.n.injEq,LD.t.injEq,and_true] at e
 obtain⟨rfl,rfl,rfl,rfl,rfl,rfl,rfl,rfl,rfl⟩:=e
 refine Eq.mpr (Q1E ..) ?_
 rcases h with⟨rfl,hj,hl1,hx1,hx0,li,lw,lc,hno,k0,k1⟩ | ⟨hj,rfl,hk⟩
 ·rcases Nat.lt_or_ge 0 x.len with hx | hx
  ·have hx':x.len=1:=by omega
   obtain⟨h1,e1,a,c,y,rfl,mi,mp,rfl,hm⟩:=hx1 hx'
   obtain⟨n1,n2⟩:=hno h1
   refine bifD (fun _=>?_) fun hn=>absurd (show (0:Int)<Int.ofNat x.len by rw[hx'];decide) hn
   have dx:((decide ((0:Int)≤0))&&(decide ((0:Int)<Int.ofNat x.len)))=true:=by rw[hx'];rfl
   have ni:(((i+1:Nat):Int)).toNat=i+1:=Int.toNat_natCast _
   have dN:∀L:Nat,L=N→((decide ((0:Int)≤((i+1:Nat):Int)))&&(decide (((i+1:Nat):Int)<Int.ofNat L)))=true:=fun L hL=>decB (by omega) (by show ((i+1:Nat):Int)<(L:Int);omega)
   rw[e1,ni,n1,n2]
   obtain⟨hh,_⟩:((g.at 13 ((i+1:Nat):Int)).f 12).bo=false∧True:=by
    refine⟨?_,trivial⟩
    by_cases h2:i+2<N
    ·obtain⟨_,_,_,e⟩:=R.nx (k:=i+1) h2;exact e
    ·have:i+1=N - 1:=by omega
     rw[this,R.lastE];rfl
   refine⟨dx,dN _ li,rfl,fun a1 c1 _=>Qaco (x:=(tr (i+1)).1) (y:=(tr (i+1)).2.1) (z:=(tr (i+1)).2.2) hm fun mi' mp' hm'=>⟨⟨rfl,rfl,rfl,trivial⟩,⟨rfl,rfl⟩,dN _ R.len,?_⟩⟩
   rw[hh]
   refine bifF ⟨dN _ li,Qacp (bifF ⟨⟨rfl,rfl⟩,dN _ li,dN _ lc,dN _ lc,dN _ lw,?_⟩)⟩
   refine⟨N,nd,tr,g,i,.l a c [.t [.b true,mi,mp]],x,_,m,_,_,_,?_,R,hi,.inr ⟨by omega,rfl,k1 h1 _ ((vc.getD (i+1) .nul).upd 0 [.n (IntKind.i64.wrap (((vc.getD (i+1) .nul).f 0).i+1))]) ⟨mi',mp',rfl,hm'⟩⟩⟩
   rw[hx'];rfl
  ·have hx':x.len=0:=by omega
   refine bifD (fun hn=>absurd hn (show ¬((0:Int)<Int.ofNat x.len) by rw[hx'];decide)) fun _=>k0 (hx0 hx')
 ·exact bifD (fun hn=>absurd hn (by omega)) fun _=>hk
def QLI:QF:=fun xs Ks=>∃N:Nat,∃nd tr i g m vi vw vc,xs=[.n ((i:Nat):Int),g,.n m,.t vi,.t vw,.t vc]∧Row N nd tr g∧UpS N tr i vi vw vc∧i<N∧∀m vi vw vc,UpS N tr (i+1) vi vw vc→nthK Ks 0 [g,.n m,.t vi,.t vw,.t vc]
theorem Q3a {i:Nat}(R:Row N nd tr g)(S:UpS N tr i vi vw vc)(hi:i<N)(hk:∀m vi vw vc,UpS N tr (i+1) vi vw vc→Ks 0 [g,.n m,.t vi,.t vw,.t vc]):QWl (i:Int) g m vi vw vc Ks q QLF QML QMN QLE (fun xs Ks=>∃j,QM7 j xs Ks):=by
 refine Eq.mpr (Q33 ..) ?_
 have dN:∀L:Nat,L=N→((decide ((0:Int)≤(i:Int)))&&(decide ((i:Int)<Int.ofNat L)))=true:=fun L hL=>decB (by omega) (by show (i:Int)<(L:Int);omega)
 have e0:vw.getD i .nul=.t [.b true]:=by rw[S.w i hi];simp
 refine⟨dN _ S.lw,dN _ S.li,dN _ R.len,?_⟩
 rw[Int.toNat_natCast]
 refine QaaU R hi (S.yes i (Nat.le_refl _) hi) fun o ho1 ho0=>⟨rfl,⟨rfl,rfl⟩,dN _ R.len,2,N,nd,tr,g,i,o,_,0,_,_,_,_,rfl,R,hi,.inl ⟨rfl,by omega,?_⟩⟩
 rw[e0]
 by_cases h1:i+1<N
 ·obtain⟨a,c,ex,_⟩:=R.nx h1
  rw[ex]
  refine⟨Nat.le_refl _,fun _=>⟨h1,rfl,ho1 h1⟩,fun h=>absurd h (by simp[LD.len,LD.es]),S.li,by rw[List.length_set];exact S.lw,S.lc,fun _=>⟨S.no _ (by omega) h1,?_⟩,fun h=>absurd h1 (by omega),fun _ y c hy _=>hk _ _ _ _ (show UpS N tr (i+1) (vi.set (i+1) y) ((vw.set i (.t [.b false])).set (i+1) (.t [.b true])) (vc.set (i+1) c) from ?_)⟩
  ·rw[QQc,if_neg (by omega),S.w _ h1];simp
  ·refine⟨by simp[S.li],by simp[S.lw],by simp[S.lc],fun k h2 h3=>?_,fun k h2 h3=>?_,fun k h3=>?_⟩
   ·rw[QQc]
    by_cases h4:k=i+1
    ·rw[if_pos ⟨h4.symm,by rw[S.li];exact h3⟩];subst h4;exact hy
    ·rw[if_neg (by omega)];exact S.yes k (by omega) h3
   ·rw[QQc,if_neg (by omega)];exact S.no k (by omega) h3
   ·rw[QQc]
    by_cases h4:k=i+1
    ·rw[if_pos ⟨h4.symm,by simp[S.lw,h3]⟩,decide_eq_true h4]
    ·rw[if_neg (by omega),QQc,decide_eq_false h4]
     by_cases h5:i=k
     ·rw[if_pos ⟨h5,by rw[S.lw];exact h3⟩]
     ·rw[if_neg (by omega),S.w k h3,decide_eq_false (by omega)]
 ·have hN:i=N - 1:=by omega
  have ex:((g.at 13 (i:Int)).f 11)=.nul:=by rw[hN,R.lastE];rfl
  rw[ex]
  refine⟨by simp[LD.len,LD.es],fun h=>absurd h (by simp[LD.len,LD.es]),fun _=>by omega,S.li,by rw[List.length_set];exact S.lw,S.lc,fun h=>absurd h (by omega),fun _ _=>hk _ _ _ _ (show UpS N tr (i+1) vi (vw.set i (.t [.b false])) vc from ?_),fun h=>absurd h (by omega)⟩
  refine⟨S.li,by simp[S.lw],S.lc,fun k h2 h3=>S.yes k (by omega) h3,fun k h2 h3=>absurd h2 (by omega),fun k h3=>?_⟩
  rw[QQc,decide_eq_false (by omega)]
  by_cases h5:i=k
  ·rw[if_pos ⟨h5,by rw[S.lw];exact h3⟩]
  ·rw[if_neg (by omega),S.w k h3,decide_eq_false (by omega)]
def QMU (j:Nat):QF:=fun xs Ks=>∃N:Nat,∃nd tr a g i s m vi vw vc,xs=[.b a,.n (N:Int),.n ((i:Nat):Int),g,.n m,.t vi,.t vw,.t vc]∧Row N nd tr g∧UpS N tr s vi vw vc∧i≤N∧N - i<j∧((s=i∧∀m vi vw vc,(i=N→a=false)∨True→UpS N tr N vi vw vc→nthK Ks 0 [.b (a||decide (i<N)),g,.n m,.t vi,.t vw,.t vc])∨s=N∧nthK Ks 0 [.b a,g,.n m,.t vi,.t vw,.t vc])
theorem Q4t {a:Bool}{n i:Int}{Ks:List (List LD→Prop)}{j:Nat}(h:QMU (j+1) [.b a,.n n,.n i,g,.n m,.t vi,.t vw,.t vc] Ks):QXg a n i g m vi vw vc (fun ys=>QMU j ys Ks) (nthK Ks) q QLI:=by
 obtain⟨N,nd,tr,a',g',i',s,m',vi',vw',vc',e,R,S,hi,hj,h⟩:=h
 simp only[List.cons.injEq,LD.n.injEq,LD.b.injEq,LD.t.injEq,and_true] at e
 obtain⟨rfl,rfl,rfl,rfl,rfl,rfl,rfl,rfl⟩:=e
 refine Eq.mpr (Q4Q ..) ?_
 have h100:=R.n100
 refine bifD (fun hc=>⟨decB (by omega) (by show (i':Int)<(vw.length:Int);rw[S.lw];omega),?_⟩) fun hc=>?_
 ·have hlt:i'<N:=by omega
  have ew:IntKind.i64.wrap ((i':Int)+1)=((i'+1:Nat):Int):=by rw[QJ (by omega) (by omega)];omega
  rw[Int.toNat_natCast,S.w i' hlt,ew]
  rcases h with⟨rfl,hk⟩ | ⟨rfl,hk⟩
  ·rw[decide_eq_true rfl]
   refine⟨N,nd,tr,_,g,m,vi,vw,vc,rfl,R,S,hlt,fun m vi vw vc S' _=>⟨N,nd,tr,true,g,s+1,s+1,_,_,_,_,rfl,R,S',by omega,by omega,.inl ⟨rfl,fun m vi vw vc _ S2=>?_⟩⟩⟩
   have:=hk m vi vw vc (.inr trivial) S2
   rw[decide_eq_true hlt,Bool.or_true] at this
   exact this
  ·rw[decide_eq_false (by omega)]
   exact⟨s,nd,tr,a,g,i'+1,s,m,vi,vw,vc,rfl,R,S,by omega,by omega,.inr ⟨rfl,hk⟩⟩
 ·have hN:i'=N:=by omega
  subst hN
  rcases h with⟨rfl,hk⟩ | ⟨rfl,hk⟩
  ·have:=hk m vi vw vc (.inr trivial) S
   rw[decide_eq_false (by omega),Bool.or_false] at this
   exact this
  ·exact hk
def QNs (j:Nat):QF:=fun xs Ks=>∃N:Nat,∃nd tr a g s m vi vw vc,xs=[.b a,g,.n m,.t vi,.t vw,.t vc]∧Row N nd tr g∧UpS N tr s vi vw vc∧(a=true∧s=0∧2<j∨s=N∧(if a then 1 else 0)<j)∧∀m vi vw vc,UpS N tr N vi vw vc→nthK Ks 0 [g,.n m,.t vi,.t vw,.t vc]
theorem Q4u {a:Bool}{Ks:List (List LD→Prop)}{j:Nat}(h:QNs (j+1) [.b a,g,.n m,.t vi,.t vw,.t vc] Ks):QXh a g m vi vw vc (fun ys=>QNs j ys Ks) (nthK Ks) q QLI (fun xs Ks=>∃j,QMU j xs Ks):=by
 obtain⟨N,nd,tr,a',g',s,m',vi',vw',vc',e,R,S,h,hk⟩:=h
 simp only[List.cons.injEq,LD.n.injEq,LD.b.injEq,LD.t.injEq,and_true] at e
 obtain⟨rfl,rfl,rfl,rfl,rfl,rfl⟩:=e
 refine Eq.mpr (Q4R ..) ?_
 have h2:=R.n2
 have el:(Int.ofNat g.len)=(N:Int):=by rw[LD.len,R.len];rfl
 rw[el]
 cases a with
 | false=>
  rcases h with⟨h,_⟩ | ⟨rfl,_⟩
  ·cases h
  exact bifF (hk _ _ _ _ S)
 | true=>
  rcases h with⟨_,rfl,hj⟩ | ⟨rfl,hj⟩
  ·refine bifT ⟨_,N,nd,tr,false,g,0,0,m,vi,vw,vc,rfl,R,S,by omega,Nat.lt_succ_self _,.inl ⟨rfl,fun m vi vw vc _ S' _=>⟨N,nd,tr,_,g,N,_,_,_,_,rfl,R,S',.inr ⟨rfl,?_⟩,hk⟩⟩⟩
   rw[decide_eq_true (by omega)]
   show (1:Nat)<j;omega
  ·refine bifT ⟨_,s,nd,tr,false,g,0,s,m,vi,vw,vc,rfl,R,S,by omega,Nat.lt_succ_self _,.inr ⟨rfl,fun _=>⟨s,nd,tr,_,g,s,_,_,_,_,rfl,R,S,.inr ⟨rfl,?_⟩,hk⟩⟩⟩
   show (0:Nat)<j
   have hj':(1:Nat)<j+1:=hj
   omega
def QLA:QF:=fun xs Ks=>∃N:Nat,∃nd tr g m vi vw vc,xs=[g,.n m,.t vi,.t vw,.t vc]∧Row N nd tr g∧vi.length=N∧vw.length=N∧vc.length=N∧memE (tr 0) (vi.getD 0 .nul)∧(∀k,0<k→k<N→vi.getD k .nul=noM)∧(∀k,k<N→vw.getD k .nul=.t [.b false])∧∀m vi vw vc,UpS N tr N vi vw vc→nthK Ks 0 [g,.n m,.t vi,.t vw,.t vc]
theorem Q55 (R:Row N nd tr g)(li:vi.length=N)(lw:vw.length=N)(lc:vc.length=N)(h0:memE (tr 0) (vi.getD 0 .nul))(h1:∀k,0<k→k<N→vi.getD k .nul=noM)(hw:∀k,k<N→vw.getD k .nul=.t [.b false])(hk:∀m vi vw vc,UpS N tr N vi vw vc→Ks 0 [g,.n m,.t vi,.t vw,.t vc]):QZb g m vi vw vc Ks q QLI (fun xs Ks=>∃j,QNs j xs Ks) (fun xs Ks=>∃j,QMU j xs Ks):=by
 refine Eq.mpr (Q6G ..) ?_
 have h2:=R.n2
 refine⟨decD (by show (0:Int)<(vw.length:Int);omega),3,N,nd,tr,true,g,0,m,vi,_,vc,rfl,R,⟨li,by simp[lw],lc,fun k h3 h4=>?_,fun k h3 h4=>h1 k h3 h4,fun k h3=>?_⟩,.inl ⟨rfl,rfl,by omega⟩,fun m vi vw vc S _=>hk m vi vw vc S⟩
 ·have:k=0:=by omega
  subst this;exact h0
 ·rw[QQc,hw 0 (by omega)]
  by_cases h5:k=0
  ·rw[if_pos ⟨h5.symm,by omega⟩,decide_eq_true h5];rfl
  ·rw[if_neg (by omega),hw k h3,decide_eq_false h5]
end
end Go.Proofs.YtemffgbncjnmkaaGreat
