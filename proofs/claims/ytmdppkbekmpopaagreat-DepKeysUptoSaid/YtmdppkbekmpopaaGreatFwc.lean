import Derived.Test.YtmdppkbekmpopaaGreatOe
set_option linter.unusedVariables false
set_option linter.unusedSimpArgs false
set_option linter.unusedSectionVars false
set_option maxRecDepth 100000
noncomputable section
namespace Go.Proofs.YtmdppkbekmpopaaGreat
open Go Go.Sh Go.Va
def Qe2 (Q6:QF):Tr FFn:=(.node 124 (.leaf 98 (.q (QmQ Q6))) (.leaf 124 QqA))
def QfZ:=fun (kn:List LD) (fd:List LD) (Ks:KN) (q Q6:QF)=>QG (Qe2 Q6) [] QfS (Qc5 q) [.t kn,.t fd] Ks
theorem QmM (kn:List LD)(fd:List LD)(Ks:KN)(q:Go.Va.QF)(Q6:Go.Va.QF):QfZ kn fd Ks q Q6=(Q6 [(LD.t fd)] [apK [.r 26,.r 1] fun (z_5:List LD) (z_6:List LD)=>(Ks 0 [(LD.t kn),(LD.t z_5),(LD.t z_6)]:Prop)]):=kx
theorem Ql7 {kn fd:List LD}{Ks:KN}{q:QF}(h:fd.length≤1000000)(hk:Ks 0 [.t kn,.t fd,.t (rowS (Qfr (fd.map keyE)))]):QfZ kn fd Ks q Q6:=by
 refine Eq.mpr (QmM ..) ?_
 exact⟨fd,rfl,h,fun _=>hk⟩
end Go.Proofs.YtmdppkbekmpopaaGreat
set_option maxHeartbeats 4000000
namespace Go.Proofs.YtmdppkbekmpopaaGreat
open Go Go.Sh Go.Va
theorem Qxg:KOk tp 98 (.q (QmQ Q6)):=kq rfl (QHc (P:=tp) Lay.sortedS (QIF Lay.sort141 rfl 5) Tryz.call141 Lay.keys164 Tryz.call164 Tryz.call98 rfl)
theorem QvO:KOk tp 163 (.q (Qgu Q2)):=by
 have ht:∀i g,QjB.get i=some g→KOk tp i g:=fun _ _ h=>tbg h ⟨Qxx,QAf⟩
 exact kq rfl (q_of ht Qv2 (ls:=[]) lsn rfl fun xs Ks _ h=>by
     obtain⟨fn,fp,fl,fb,rfl,h1,h2⟩:=h
     exact Qvx (Ks:=nthK Ks) h1 h2)
theorem Qt8:KOk tp 121 (.q (QfY Qal)):=by
 have ht:∀i g,(Qfg Q2).get i=some g→KOk tp i g:=fun _ _ h=>tbg h QvO
 have i_names_visitorOf_3:LsI tp 121 (Qci fun xs Ks=>∃j,QaV j xs Ks):=Qae (S:=Qci fun _ _=>False) ht Qq5 (ls:=[]) lsn rfl (q:=fun j=>QaV j)
  (fun xs Ks h=>by
   obtain⟨n,i,w,kn,_,h1,h2,h3,h4,h5,h6,h7⟩:=h
   omega)
  (fun j xs Ks _ h=>by
   obtain⟨_,_,_,_,rfl,_⟩:=id h
   exact Qq1 h)
 exact kq rfl (q_of ht Qun (ls:=[Qci fun xs Ks=>∃j,QaV j xs Ks]) (lsc i_names_visitorOf_3 lsn) rfl fun xs Ks _ h=>by
     obtain⟨fn,fp,fl,fb,rfl,h1,h2⟩:=h
     exact Qt0 (Ks:=nthK Ks) h1 h2)
theorem Qq7:KOk tp 74 (.q (QeZ Q9)):=by
 have ht:∀i g,(Qhc Qal).get i=some g→KOk tp i g:=fun _ _ h=>tbg h Qt8
 exact kq rfl (q_of ht Qrc (ls:=[]) lsn rfl fun xs Ks _ h=>by
     obtain⟨fn,fp,fl,fb,rfl,h1,h2⟩:=h
     exact Qq2 (Ks:=nthK Ks) h1 h2)
theorem Qgb:∀k,(∀G:Gd,G.Q→@QOk _ G tp 75 (QbH (QdR k)))
 | 0=>fun G _ xs Ks _ h=>by
   obtain⟨fp,fl,l,kn,fd,_,h1,h2⟩:=h
   first | (exfalso;omega) | exact absurd h1.sz nt
 | k+1=>by
  have ih:=Qgb  k
  have r_names_visitor_stmts:=ih
  have ht:∀i g,(QdE (QdR k)).get i=some g→KOk tp i g:=fun _ _ h=>tbg h ⟨⟨(kq rfl r_names_visitor_stmts),QxB⟩,⟨Qke,⟨Qn6,QoQ⟩⟩⟩
  have i_names_visitor_stmts_2:LsI tp 75 (Qbm fun xs Ks=>∃j,Qfz k j xs Ks):=Qae (S:=Qbm fun _ _=>False) ht Qnc (ls:=[]) lsn rfl (q:=fun j=>Qfz k j)
   (fun xs Ks h=>by
    obtain⟨fp,fl,l,i,kn,fd,_,h1,h2,h3,h4,h5,h6,h7,h8⟩:=h
    omega)
   (fun j xs Ks _ h=>by
    obtain⟨_,_,_,_,_,_,rfl,_⟩:=id h
    exact Qnb h)
  exact q_of ht QoP (ls:=[Qbm fun xs Ks=>∃j,Qfz k j xs Ks]) (lsc i_names_visitor_stmts_2 lsn) rfl fun xs Ks _ h=>by
     obtain⟨fp,fl,l,kn,fd,rfl,h1,h2⟩:=h
     exact Qoj (Ks:=nthK Ks) h1 h2
theorem QoG:KOk tp 75 (.q (QbH Qs)):=kq rfl fun G hg=>Qnr (q:=fun k=>QdR k) fun k=>(Qgb k) G hg
theorem Qmj:KOk tp 78 (.q (Qc5 QO)):=by
 have ht:∀i g,(Qe2 Q6).get i=some g→KOk tp i g:=fun _ _ h=>tbg h ⟨Qxg,QAp⟩
 exact kq rfl (q_of ht QmA (ls:=[]) lsn rfl fun xs Ks _ h=>by
     obtain⟨kn,fd,rfl,h1,h2⟩:=h
     exact Ql7 (Ks:=nthK Ks) h1 h2)
theorem QAb:KOk tp 31 (.q (Qjn QP)):=by
 have ht:∀i g,(Qnj Q9 Qs QO).get i=some g→KOk tp i g:=fun _ _ h=>tbg h ⟨Qq7,⟨QoG,Qmj⟩⟩
 exact kq rfl (q_of ht QAo (ls:=[]) lsn rfl fun xs Ks _ h=>by
     obtain⟨fn,fp,fl,fb,rfl,h1,h2,h3,h4,h5⟩:=h
     exact QzZ (Ks:=nthK Ks) h1 h2 h3 h4 h5)
theorem QBN:KOk tp 15 (.q (QkR Qbg)):=by
 have ht:∀i g,(Qoe QX Q7 QaO).get i=some g→KOk tp i g:=fun _ _ h=>tbg h ⟨Qu2,⟨QDi,QyE⟩⟩
 exact kq rfl (q_of ht QCf (ls:=[]) lsn rfl fun xs Ks _ h=>by
     obtain⟨g,l,rfl,h1,h2⟩:=h
     exact QBu (Ks:=nthK Ks) h1 h2)
theorem QBO:KOk tp 9 (.q (QkS Qax)):=by
 have ht:∀i g,Qi7.get i=some g→KOk tp i g:=fun _ _ h=>tbg h trivial
 have i_seat_Light_4:LsI tp 9 (Qd1 fun xs Ks=>∃j,QcU j xs Ks):=Qae (S:=Qd1 fun _ _=>False) ht Qyv (ls:=[]) lsn rfl (q:=fun j=>QcU j)
  (fun xs Ks h=>by
   obtain⟨l,m,i,_,h1,h2,h3,h4,h5,h6⟩:=h
   omega)
  (fun j xs Ks _ h=>by
   obtain⟨_,_,_,rfl,_⟩:=id h
   exact Qyg h)
 exact kq rfl (q_of ht QCg (ls:=[Qd1 fun xs Ks=>∃j,QcU j xs Ks]) (lsc i_seat_Light_4 lsn) rfl fun xs Ks _ h=>by
     obtain⟨l,m,rfl,h1⟩:=h
     exact QBv (Ks:=nthK Ks) h1)
theorem Qxh:KOk tp 16 (.q (Qg4 QaP)):=by
 have ht:∀i g,(Qeh QQ Qac QW QZ).get i=some g→KOk tp i g:=fun _ _ h=>tbg h ⟨⟨QyF,QAa⟩,⟨QDk,Qxj⟩⟩
 have i_ref21_Program_14:LsI tp 16 (Qa5 fun xs Ks=>∃j,QaI j xs Ks):=Qae (S:=Qa5 fun _ _=>False) ht QrQ (ls:=[]) lsn rfl (q:=fun j=>QaI j)
  (fun xs Ks h=>by
   obtain⟨t,i,a,zc,za,zf,gc,ga,pf,fn,fp,fl,fb,_,h1,h2,h3,h4,h5⟩:=h
   omega)
  (fun j xs Ks _ h=>by
   obtain⟨_,_,_,_,_,_,_,_,_,_,_,_,_,rfl,_⟩:=id h
   exact QrF h)
 have i_ref21_Program_3:LsI tp 16 (QcL fun xs Ks=>∃j,Qbd j xs Ks):=Qae (S:=QcL fun _ _=>False) ht Qt1 (ls:=[Qa5 fun xs Ks=>∃j,QaI j xs Ks]) (lsc i_ref21_Program_14 lsn) rfl (q:=fun j=>Qbd j)
  (fun xs Ks h=>by
   obtain⟨t,i,zc,za,zf,gc,ga,pf,_,h1,h2,h3,h4,h5,h6,h7,h8⟩:=h
   omega)
  (fun j xs Ks _ h=>by
   obtain⟨_,_,_,_,_,_,_,_,rfl,_⟩:=id h
   exact QtU h)
 exact kq rfl (q_of ht Qxy (ls:=[QcL fun xs Ks=>∃j,Qbd j xs Ks,Qa5 fun xs Ks=>∃j,QaI j xs Ks]) (lsc i_ref21_Program_3 (lsc i_ref21_Program_14 lsn)) rfl fun xs Ks _ h=>by
     obtain⟨t,rfl,h1,h2,h3⟩:=h
     exact QwN (Ks:=nthK Ks) h1 h2 h3)
theorem QN9:KOk tp 98 (.q (QM3 QLH)):=kq rfl (QHc (P:=tp) Lay.sortedS (QIF Lay.sort141 rfl 5) Tryz.call141 Lay.keys142 Tryz.call142 Tryz.call98 rfl)
theorem QNa:KOk tp 96 (.q (QMt QLx)):=by
 have ht:∀i g,QMO.get i=some g→KOk tp i g:=fun _ _ h=>tbg h trivial
 have i_code_plain_Num_3:LsI tp 96 (QL9 fun xs Ks=>∃j,QOQ j xs Ks):=Qae (S:=QL9 fun _ _=>False) ht QR5 (ls:=[]) lsn rfl (q:=fun j=>QOQ j)
  (fun xs Ks h=>by
   obtain⟨v,l,n,i,w,_,h1,h2,h3⟩:=h
   omega)
  (fun j xs Ks _ h=>by
   obtain⟨_,_,_,_,_,rfl,_⟩:=id h
   exact QRU h)
 have i_code_plain_Num_1:LsI tp 96 (QMv fun xs Ks=>∃j,lpW (fun _=>True) gN j xs Ks):=Qae (S:=QMv fun _ _=>False) ht QR6 (ls:=[QL9 fun xs Ks=>∃j,QOQ j xs Ks]) (lsc i_code_plain_Num_3 lsn) rfl (q:=fun j=>lpW (fun _=>True) gN j)
  (fun xs Ks h=>by
   obtain⟨l,i,w,_,h1,h2,h3,h4,h5,h6⟩:=h
   omega)
  (fun j xs Ks _ h=>by
   obtain⟨_,_,_,rfl,_⟩:=id h
   exact QRV h)
 exact kq rfl (q_of ht QPJ (ls:=[QMv fun xs Ks=>∃j,lpW (fun _=>True) gN j xs Ks,QL9 fun xs Ks=>∃j,QOQ j xs Ks]) (lsc i_code_plain_Num_1 (lsc i_code_plain_Num_3 lsn)) rfl fun xs Ks _ h=>by
     obtain⟨l,w,rfl,h1,h2,h3,h4⟩:=h
     exact QS2 (Ks:=nthK Ks) h2 h3 h4)
theorem QPF:KOk tp 143 (.q (QM4 QLE)):=by
 have ht:∀i g,(QNo QLx).get i=some g→KOk tp i g:=fun _ _ h=>tbg h QNa
 have i_code_plain_Int_1:LsI tp 143 (QMw fun xs Ks=>∃j,lpW (fun _=>True) gI j xs Ks):=Qae (S:=QMw fun _ _=>False) ht QR7 (ls:=[]) lsn rfl (q:=fun j=>lpW (fun _=>True) gI j)
  (fun xs Ks h=>by
   obtain⟨l,i,w,_,h1,h2,h3,h4,h5,h6⟩:=h
   omega)
  (fun j xs Ks _ h=>by
   obtain⟨_,_,_,rfl,_⟩:=id h
   exact QRW h)
 exact kq rfl (q_of ht QPK (ls:=[QMw fun xs Ks=>∃j,lpW (fun _=>True) gI j xs Ks]) (lsc i_code_plain_Int_1 lsn) rfl fun xs Ks _ h=>by
     obtain⟨l,w,rfl,h1,h2,h3,h4⟩:=h
     exact QS3 (Ks:=nthK Ks) h2 h3 h4)
theorem QNU:KOk tp 100 (.q (QMB QLz)):=by
 have ht:∀i g,QNk.get i=some g→KOk tp i g:=fun _ _ h=>tbg h trivial
 have i_code_plain_Bool_1:LsI tp 100 (QMn fun xs Ks=>∃j,lpW (fun _=>True) gB j xs Ks):=Qae (S:=QMn fun _ _=>False) ht QRK (ls:=[]) lsn rfl (q:=fun j=>lpW (fun _=>True) gB j)
  (fun xs Ks h=>by
   obtain⟨l,i,w,_,h1,h2,h3,h4,h5,h6⟩:=h
   omega)
  (fun j xs Ks _ h=>by
   obtain⟨_,_,_,rfl,_⟩:=id h
   exact QRG h)
 exact kq rfl (q_of ht QPn (ls:=[QMn fun xs Ks=>∃j,lpW (fun _=>True) gB j xs Ks]) (lsc i_code_plain_Bool_1 lsn) rfl fun xs Ks _ h=>by
     obtain⟨l,w,rfl,h1,h2,h3,h4⟩:=h
     exact QSw (Ks:=nthK Ks) h2 h3 h4)
theorem QNT:KOk tp 40 (.q (QMA QLy)):=by
 have ht:∀i g,(QNj QLx).get i=some g→KOk tp i g:=fun _ _ h=>tbg h QNa
 have i_code_plain_Text_1:LsI tp 40 (QMm fun xs Ks=>∃j,lpW (fun _=>True) gT j xs Ks):=Qae (S:=QMm fun _ _=>False) ht QRJ (ls:=[]) lsn rfl (q:=fun j=>lpW (fun _=>True) gT j)
  (fun xs Ks h=>by
   obtain⟨l,i,w,_,h1,h2,h3,h4,h5,h6⟩:=h
   omega)
  (fun j xs Ks _ h=>by
   obtain⟨_,_,_,rfl,_⟩:=id h
   exact QRF h)
 exact kq rfl (q_of ht QPm (ls:=[QMm fun xs Ks=>∃j,lpW (fun _=>True) gT j xs Ks]) (lsc i_code_plain_Text_1 lsn) rfl fun xs Ks _ h=>by
     obtain⟨l,w,rfl,h1,h2,h3,h4⟩:=h
     exact QSv (Ks:=nthK Ks) h2 h3 h4)
theorem QQr:KOk tp 144 (.q (QMK QLD)):=by
 have ht:∀i g,(QNp QLE QLz).get i=some g→KOk tp i g:=fun _ _ h=>tbg h ⟨QNU,QPF⟩
 exact kq rfl (q_of ht QN0 (ls:=[]) lsn rfl fun xs Ks _ h=>by
     obtain⟨so,lo,hi,w,rfl,h1,h2⟩:=h
     exact QQm (Ks:=nthK Ks) h1 h2)
theorem QQV:KOk tp 102 (.q (QM0 QLK)):=by
 have ht:∀i g,(QMd QLx QLE QLz QLy QLD).get i=some g→KOk tp i g:=fun _ _ h=>tbg h ⟨⟨QNT,QNa⟩,⟨QNU,⟨QPF,QQr⟩⟩⟩
 have i_code_Writer_Summary_5:LsI tp 102 (QL1 fun xs Ks=>∃j,QO4 j xs Ks):=Qae (S:=QL1 fun _ _=>False) ht QPZ (ls:=[]) lsn rfl (q:=fun j=>QO4 j)
  (fun xs Ks h=>by
   obtain⟨l,n,i,al,k,w,s0,s1,s2,s3,s4,s5,_,h1,h2,h3,h4,h5⟩:=h
   omega)
  (fun j xs Ks _ h=>by
   obtain⟨_,_,_,_,_,_,_,_,_,_,_,_,rfl,_⟩:=id h
   exact QPX h)
 have i_code_Writer_Summary_13:LsI tp 102 (QLZ fun xs Ks=>∃j,QOi j xs Ks):=Qae (S:=QLZ fun _ _=>False) ht QPE (ls:=[]) lsn rfl (q:=fun j=>QOi j)
  (fun xs Ks h=>by
   obtain⟨l,n,i,mo,k,w,_,h1,h2,h3,h4,h5⟩:=h
   omega)
  (fun j xs Ks _ h=>by
   obtain⟨_,_,_,_,_,_,rfl,_⟩:=id h
   exact QPx h)
 have i_code_Writer_Summary_1:LsI tp 102 (QMb fun xs Ks=>∃j,lpW SuL gS j xs Ks):=Qae (S:=QMb fun _ _=>False) ht QP0 (ls:=[QL1 fun xs Ks=>∃j,QO4 j xs Ks,QLZ fun xs Ks=>∃j,QOi j xs Ks]) (lsc i_code_Writer_Summary_5 (lsc i_code_Writer_Summary_13 lsn)) rfl (q:=fun j=>lpW SuL gS j)
  (fun xs Ks h=>by
   obtain⟨l,i,w,_,h1,h2,h3,h4,h5,h6⟩:=h
   omega)
  (fun j xs Ks _ h=>by
   obtain⟨_,_,_,rfl,_⟩:=id h
   exact QPY h)
 exact kq rfl (q_of ht QOj (ls:=[QMb fun xs Ks=>∃j,lpW SuL gS j xs Ks,QL1 fun xs Ks=>∃j,QO4 j xs Ks,QLZ fun xs Ks=>∃j,QOi j xs Ks]) (lsc i_code_Writer_Summary_1 (lsc i_code_Writer_Summary_5 (lsc i_code_Writer_Summary_13 lsn))) rfl fun xs Ks _ h=>by
     obtain⟨l,w,rfl,h1,h2,h3,h4⟩:=h
     exact QQI (Ks:=nthK Ks) h1 h2 h3 h4)
theorem QSy:KOk tp 41 (.q (QNB QLL)):=by
 have ht:∀i g,QNh.get i=some g→KOk tp i g:=fun _ _ h=>tbg h trivial
 have i_dep_writer_text_2:LsI tp 41 (QMk fun xs Ks=>∃j,QQM j xs Ks):=Qae (S:=QMk fun _ _=>False) ht QRH (ls:=[]) lsn rfl (q:=fun j=>QQM j)
  (fun xs Ks h=>by
   obtain⟨name,t,i,_,h1,h2,h3,h4,h5⟩:=h
   omega)
  (fun j xs Ks _ h=>by
   obtain⟨_,_,_,rfl,_⟩:=id h
   exact QRC h)
 exact kq rfl (q_of ht QPk (ls:=[QMk fun xs Ks=>∃j,QQM j xs Ks]) (lsc i_dep_writer_text_2 lsn) rfl fun xs Ks _ h=>by
     obtain⟨name,gc,ga,pf,t,su,w,rfl,h1,h2⟩:=h
     exact QSt (Ks:=nthK Ks) h1 h2)
theorem QNS:KOk tp 97 (.q (QMW QLB)):=by
 have ht:∀i g,QNi.get i=some g→KOk tp i g:=fun _ _ h=>tbg h trivial
 have i_dep_writer_find_2:LsI tp 97 (QMl fun xs Ks=>∃j,QQQ j xs Ks):=Qae (S:=QMl fun _ _=>False) ht QRI (ls:=[]) lsn rfl (q:=fun j=>QQQ j)
  (fun xs Ks h=>by
   obtain⟨name,l,i,fn,fp,fl,fb,_,h1,h2,h3,h4,h5⟩:=h
   omega)
  (fun j xs Ks _ h=>by
   obtain⟨_,_,_,_,_,_,_,rfl,_⟩:=id h
   exact QRD h)
 exact kq rfl (q_of ht QPl (ls:=[QMl fun xs Ks=>∃j,QQQ j xs Ks]) (lsc i_dep_writer_find_2 lsn) rfl fun xs Ks _ h=>by
     obtain⟨name,gc,ga,pf,t,su,w,rfl,h1,h2,h3⟩:=h
     exact QSu (Ks:=nthK Ks) h1 h2 h3)
theorem QRj:KOk tp 42 (.q (QM9 QLI)):=by
 have ht:∀i g,(QL8 QLB QP QLH).get i=some g→KOk tp i g:=fun _ _ h=>tbg h ⟨⟨QAb,QNS⟩,⟨QN9,QQA⟩⟩
 have i_dep_writer_callees_8:LsI tp 42 (QL4 fun xs Ks=>∃j,QP5 j xs Ks):=Qae (S:=QL4 fun _ _=>False) ht QQn (ls:=[]) lsn rfl (q:=fun j=>QP5 j)
  (fun xs Ks h=>by
   obtain⟨list,l2,n,i,k,gc,ga,pf,t,su,w,ca,cs,p,_,h1,h2,h3,h4,h5,h6,h7⟩:=h
   omega)
  (fun j xs Ks _ h=>by
   obtain⟨_,_,_,_,_,_,_,_,_,_,_,_,_,_,rfl,_⟩:=id h
   exact QQj h)
 have i_dep_writer_callees_3:LsI tp 42 (QMe fun xs Ks=>∃j,QRi j xs Ks):=Qae (S:=QMe fun _ _=>False) ht QQo (ls:=[QL4 fun xs Ks=>∃j,QP5 j xs Ks]) (lsc i_dep_writer_callees_8 lsn) rfl (q:=fun j=>QRi j)
  (fun xs Ks h=>by
   obtain⟨list,l2,i,gc,ga,pf,t,su,w,ca,p,_,h1,h2,h3,h4,h5,h6,h7,h8⟩:=h
   omega)
  (fun j xs Ks _ h=>by
   obtain⟨_,_,_,_,_,_,_,_,_,_,_,rfl,_⟩:=id h
   exact QQk h)
 have i_dep_writer_callees_14:LsI tp 42 (QLS fun xs Ks=>∃j,QO3 j xs Ks):=Qae (S:=QLS fun _ _=>False) ht QNK (ls:=[]) lsn rfl (q:=fun j=>QO3 j)
  (fun xs Ks h=>by
   obtain⟨l2,i,ca,p,_,h1,h2,h3,h4,h5⟩:=h
   omega)
  (fun j xs Ks _ h=>by
   obtain⟨_,_,_,_,rfl,_⟩:=id h
   exact QNI h)
 exact kq rfl (q_of ht QOv (ls:=[QMe fun xs Ks=>∃j,QRi j xs Ks,QL4 fun xs Ks=>∃j,QP5 j xs Ks,QLS fun xs Ks=>∃j,QO3 j xs Ks]) (lsc i_dep_writer_callees_3 (lsc i_dep_writer_callees_8 (lsc i_dep_writer_callees_14 lsn))) rfl fun xs Ks _ h=>by
     obtain⟨list,gc,ga,pf,t,su,w,rfl,h1,h2,h3⟩:=h
     exact QRd (Ks:=nthK Ks) h1 h2 h3)
theorem QRL:KOk tp 43 (.q (QNb QLJ)):=by
 have ht:∀i g,(QMC QLx QLz QLy QLK QLB).get i=some g→KOk tp i g:=fun _ _ h=>tbg h ⟨⟨QNT,⟨QNa,QNS⟩⟩,⟨QNU,⟨QQa,QQV⟩⟩⟩
 have i_dep_writer_callee_6:LsI tp 43 (QMh fun xs Ks=>∃j,QSp j xs Ks):=Qae (S:=QMh fun _ _=>False) ht QQU (ls:=[]) lsn rfl (q:=fun j=>QSp j)
  (fun xs Ks h=>by
   obtain⟨name,l,i,gc,ga,pf,t,su,w,_,h1,h2,h3,h4,h5⟩:=h
   omega)
  (fun j xs Ks _ h=>by
   obtain⟨_,_,_,_,_,_,_,_,_,rfl,_⟩:=id h
   exact QQH h)
 have i_dep_writer_callee_12:LsI tp 43 (QMf fun xs Ks=>∃j,QQL j xs Ks):=Qae (S:=QMf fun _ _=>False) ht QQp (ls:=[]) lsn rfl (q:=fun j=>QQL j)
  (fun xs Ks h=>by
   obtain⟨name,l,i,gc,ga,pf,t,su,w,s0,s1,s2,s3,s4,s5,_,h1,h2,h3,h4,h5⟩:=h
   omega)
  (fun j xs Ks _ h=>by
   obtain⟨_,_,_,_,_,_,_,_,_,_,_,_,_,_,_,rfl,_⟩:=id h
   exact QQl h)
 exact kq rfl (q_of ht QOF (ls:=[QMh fun xs Ks=>∃j,QSp j xs Ks,QMf fun xs Ks=>∃j,QQL j xs Ks]) (lsc i_dep_writer_callee_6 (lsc i_dep_writer_callee_12 lsn)) rfl fun xs Ks _ h=>by
     obtain⟨name,gc,ga,pf,t,su,w,rfl,h1,h2,h3,h4⟩:=h
     exact QRE (Ks:=nthK Ks) h1 h2 h3 h4)
theorem QS5:KOk tp 103 (.q (QNZ QLO)):=by
 have ht:∀i g,QO1.get i=some g→KOk tp i g:=fun _ _ h=>tbg h trivial
 exact kq rfl (q_of ht QPI (ls:=[]) lsn rfl fun xs Ks _ h=>by
     obtain⟨l,rfl,h1,h2⟩:=h
     exact QS0 (Ks:=nthK Ks) h1 h2)
theorem QV5:KOk tp 18 (.q (QRm QL5)):=by
 have ht:∀i g,(QOX QLy QLL QLI QLJ QLO).get i=some g→KOk tp i g:=fun _ _ h=>tbg h ⟨⟨QPL,⟨QNT,QSy⟩⟩,⟨⟨QRj,QRL⟩,⟨QO6,QS5⟩⟩⟩
 have i_dep_Key_4:LsI tp 18 (QNt fun xs Ks=>∃j,QRh j xs Ks):=Qae (S:=QNt fun _ _=>False) ht QU4 (ls:=[]) lsn rfl (q:=fun j=>QRh j)
  (fun xs Ks h=>by
   obtain⟨list,l2,i,gc,ga,pf,t,su,w,_,h1,h2,h3,h4,h5,h6⟩:=h
   omega)
  (fun j xs Ks _ h=>by
   obtain⟨_,_,_,_,_,_,_,_,_,rfl,_⟩:=id h
   exact QU2 h)
 have i_dep_Key_9:LsI tp 18 (QNs fun xs Ks=>∃j,QRg j xs Ks):=Qae (S:=QNs fun _ _=>False) ht QU3 (ls:=[]) lsn rfl (q:=fun j=>QRg j)
  (fun xs Ks h=>by
   obtain⟨i,gc,ga,pf,t,su,w,c,_,h1,h2,h3,h4,h5,h6,h7⟩:=h
   omega)
  (fun j xs Ks _ h=>by
   obtain⟨_,_,_,_,_,_,_,_,rfl,_⟩:=id h
   exact QU1 h)
 exact kq rfl (q_of ht QUa (ls:=[QNt fun xs Ks=>∃j,QRh j xs Ks,QNs fun xs Ks=>∃j,QRg j xs Ks]) (lsc i_dep_Key_4 (lsc i_dep_Key_9 lsn)) rfl fun xs Ks _ h=>by
     obtain⟨gc,ga,pf,t,n,su,rfl,h1,h2⟩:=h
     exact QV2 (Ks:=nthK Ks) h1 h2)
theorem QOs:KOk tp 51 (.q (QMZ QLA)):=by
 have ht:∀i g,QPw.get i=some g→KOk tp i g:=fun _ _ h=>tbg h trivial
 have i_ref1_Num_1:LsI tp 51 (QNd fun xs Ks=>∃j,QPu j xs Ks):=Qae (S:=QNd fun _ _=>False) ht QUK (ls:=[]) lsn rfl (q:=fun j=>QPu j)
  (fun xs Ks h=>by
   obtain⟨v,w,_,h1,h2,h3⟩:=h
   omega)
  (fun j xs Ks _ h=>by
   obtain⟨_,_,rfl,_⟩:=id h
   exact QUE h)
 exact kq rfl (q_of ht QVP (ls:=[QNd fun xs Ks=>∃j,QPu j xs Ks]) (lsc i_ref1_Num_1 lsn) rfl fun xs Ks _ h=>by
     obtain⟨n,w,rfl,h1,h2⟩:=h
     exact QVL (Ks:=nthK Ks) h1 h2)
theorem QTs:KOk tp 145 (.q (QO0 QLR)):=by
 have ht:∀i g,(QRS QLA).get i=some g→KOk tp i g:=fun _ _ h=>tbg h QOs
 exact kq rfl (q_of ht QVQ (ls:=[]) lsn rfl fun xs Ks _ h=>by
     obtain⟨n,w,rfl,h1,h2⟩:=h
     exact QVM (Ks:=nthK Ks) h1 h2)
theorem QQq:KOk tp 50 (.q (QNA QLC)):=by
 have ht:∀i g,QRq.get i=some g→KOk tp i g:=fun _ _ h=>tbg h trivial
 exact kq rfl (q_of ht QVc (ls:=[]) lsn rfl fun xs Ks _ h=>by
     obtain⟨b,w,rfl,h1,h2⟩:=h
     exact QUZ (Ks:=nthK Ks) h1 h2)
theorem QSK:KOk tp 45 (.q (QOA QLF)):=by
 have ht:∀i g,(QRo QLA).get i=some g→KOk tp i g:=fun _ _ h=>tbg h QOs
 exact kq rfl (q_of ht QVa (ls:=[]) lsn rfl fun xs Ks _ h=>by
     obtain⟨s,w,rfl,h1,h2⟩:=h
     exact QUX (Ks:=nthK Ks) h1 h2)
theorem QU6:KOk tp 104 (.q (QPQ QLY)):=by
 have ht:∀i g,(QRp QLR QLC).get i=some g→KOk tp i g:=fun _ _ h=>tbg h ⟨QQq,QTs⟩
 exact kq rfl (q_of ht QVb (ls:=[]) lsn rfl fun xs Ks _ h=>by
     obtain⟨so,lo,hi,w,rfl,h1,h2⟩:=h
     exact QUY (Ks:=nthK Ks) h1 h2)
theorem QUk:KOk tp 105 (.q (QOU QLW)):=by
 have ht:∀i g,(QOn QLA QLR).get i=some g→KOk tp i g:=fun _ _ h=>tbg h ⟨QOs,QTs⟩
 have i_ref1_Alarms_3:LsI tp 105 (QMH fun xs Ks=>∃j,QPA j xs Ks):=Qae (S:=QMH fun _ _=>False) ht QTq (ls:=[]) lsn rfl (q:=fun j=>QPA j)
  (fun xs Ks h=>by
   obtain⟨l,i,w,_,h1,h2,h3,h4,h5⟩:=h
   omega)
  (fun j xs Ks _ h=>by
   obtain⟨_,_,_,rfl,_⟩:=id h
   exact QTl h)
 exact kq rfl (q_of ht QUn (ls:=[QMH fun xs Ks=>∃j,QPA j xs Ks]) (lsc i_ref1_Alarms_3 lsn) rfl fun xs Ks _ h=>by
     obtain⟨l,w,rfl,h1,h2,h3⟩:=h
     exact QUe (Ks:=nthK Ks) h1 h2 h3)
theorem QTV:KOk tp 52 (.q (QOB QLG)):=by
 have ht:∀i g,(QN7 QLA QLC QLF QLY QLW).get i=some g→KOk tp i g:=fun _ _ h=>tbg h ⟨⟨QSK,QQq⟩,⟨QOs,⟨QU6,QUk⟩⟩⟩
 have i_ref1_Summary_4:LsI tp 52 (QMD fun xs Ks=>∃j,QPz j xs Ks):=Qae (S:=QMD fun _ _=>False) ht QS4 (ls:=[]) lsn rfl (q:=fun j=>QPz j)
  (fun xs Ks h=>by
   obtain⟨i,w,al,en,so,lo,hi,mo,_,h1,h2,h3,h4,h5⟩:=h
   omega)
  (fun j xs Ks _ h=>by
   obtain⟨_,_,_,_,_,_,_,_,rfl,_⟩:=id h
   exact QS1 h)
 exact kq rfl (q_of ht QTY (ls:=[QMD fun xs Ks=>∃j,QPz j xs Ks]) (lsc i_ref1_Summary_4 lsn) rfl fun xs Ks _ h=>by
     obtain⟨al,en,so,lo,hi,mo,w,rfl,h1,h2,h3⟩:=h
     exact QTO (Ks:=nthK Ks) h1 h2 h3)
theorem QUN:KOk tp 46 (.q (QPf QLN)):=by
 have ht:∀i g,QOP.get i=some g→KOk tp i g:=fun _ _ h=>tbg h trivial
 have i_ref21_text_2:LsI tp 46 (QMU fun xs Ks=>∃j,QQN j xs Ks):=Qae (S:=QMU fun _ _=>False) ht QTR (ls:=[]) lsn rfl (q:=fun j=>QQN j)
  (fun xs Ks h=>by
   obtain⟨t,name,i,_,h1,h2,h3,h4,h5⟩:=h
   omega)
  (fun j xs Ks _ h=>by
   obtain⟨_,_,_,rfl,_⟩:=id h
   exact QTK h)
 exact kq rfl (q_of ht QUP (ls:=[QMU fun xs Ks=>∃j,QQN j xs Ks]) (lsc i_ref21_text_2 lsn) rfl fun xs Ks _ h=>by
     obtain⟨t,name,rfl,h1,h2⟩:=h
     exact QUC (Ks:=nthK Ks) h1 h2)
theorem QVN:KOk tp 47 (.q (QQF QLQ)):=by
 have ht:∀i g,QPv.get i=some g→KOk tp i g:=fun _ _ h=>tbg h trivial
 have i_ref21_fn_2:LsI tp 47 (QNc fun xs Ks=>∃j,QQP j xs Ks):=Qae (S:=QNc fun _ _=>False) ht QUJ (ls:=[]) lsn rfl (q:=fun j=>QQP j)
  (fun xs Ks h=>by
   obtain⟨l,name,i,fn,fp,fl,fb,_,h1,h2,h3,h4,h5⟩:=h
   omega)
  (fun j xs Ks _ h=>by
   obtain⟨_,_,_,_,_,_,_,rfl,_⟩:=id h
   exact QUD h)
 exact kq rfl (q_of ht QVO (ls:=[QNc fun xs Ks=>∃j,QQP j xs Ks]) (lsc i_ref21_fn_2 lsn) rfl fun xs Ks _ h=>by
     obtain⟨pf,name,rfl,h1,h2,h3⟩:=h
     exact QVK (Ks:=nthK Ks) h1 h2 h3)
theorem QUl:KOk tp 53 (.q (QOV QLM)):=by
 have ht:∀i g,QOo.get i=some g→KOk tp i g:=fun _ _ h=>tbg h trivial
 have i_ref12_SumOf_2:LsI tp 53 (QMI fun xs Ks=>∃j,QQO j xs Ks):=Qae (S:=QMI fun _ _=>False) ht QTr (ls:=[]) lsn rfl (q:=fun j=>QQO j)
  (fun xs Ks h=>by
   obtain⟨name,i,a,b,c,su,al,en,so,lo,hi,mo,_,h1,h2,h3,h4,h5⟩:=h
   omega)
  (fun j xs Ks _ h=>by
   obtain⟨_,_,_,_,_,_,_,_,_,_,_,_,rfl,_⟩:=id h
   exact QTm h)
 exact kq rfl (q_of ht QUo (ls:=[QMI fun xs Ks=>∃j,QQO j xs Ks]) (lsc i_ref12_SumOf_2 lsn) rfl fun xs Ks _ h=>by
     obtain⟨a,b,c,su,name,rfl,h1,h2,h3⟩:=h
     exact QUf (Ks:=nthK Ks) h1 h2 h3)
theorem QU5:KOk tp 19 (.q (QPP QLX)):=by
 have ht:∀i g,(QML QLA QLC QLF QLG QLN QLQ QLM QLP QH QN).get i=some g→KOk tp i g:=fun _ _ h=>tbg h ⟨⟨⟨Qz8,QSK⟩,⟨QUN,⟨QVN,QU7⟩⟩⟩,⟨⟨Qu3,QQq⟩,⟨QOs,⟨QTV,QUl⟩⟩⟩⟩
 have i_ref21_Key_11:LsI tp 19 (QMj fun xs Ks=>∃j,QPC j xs Ks):=Qae (S:=QMj fun _ _=>False) ht QTU (ls:=[]) lsn rfl (q:=fun j=>QPC j)
  (fun xs Ks h=>by
   obtain⟨t,n,su,c,i,nc,k,gc,ga,pf,w,_,h1,h2,h3,h4,h5,h6,h7⟩:=h
   omega)
  (fun j xs Ks _ h=>by
   obtain⟨_,_,_,_,_,_,_,_,_,_,_,rfl,_⟩:=id h
   exact QTN h)
 have i_ref21_Key_4:LsI tp 19 (QM6 fun xs Ks=>∃j,QRf j xs Ks):=Qae (S:=QM6 fun _ _=>False) ht QUi (ls:=[QMj fun xs Ks=>∃j,QPC j xs Ks]) (lsc i_ref21_Key_11 lsn) rfl (q:=fun j=>QRf j)
  (fun xs Ks h=>by
   obtain⟨t,n,su,c,i,gc,ga,pf,w,_,h1,h2,h3,h4,h5,h6,h7,h8,h9⟩:=h
   omega)
  (fun j xs Ks _ h=>by
   obtain⟨_,_,_,_,_,_,_,_,_,rfl,_⟩:=id h
   exact QUd h)
 have i_ref21_Key_23:LsI tp 19 (QMi fun xs Ks=>∃j,QPB j xs Ks):=Qae (S:=QMi fun _ _=>False) ht QTS (ls:=[]) lsn rfl (q:=fun j=>QPB j)
  (fun xs Ks h=>by
   obtain⟨su,c,i,k,gc,ga,pf,w,fn,fp,fl,fb,_,h1,h2,h3,h4,h5⟩:=h
   omega)
  (fun j xs Ks _ h=>by
   obtain⟨_,_,_,_,_,_,_,_,_,_,_,_,rfl,_⟩:=id h
   exact QTL h)
 have i_ref21_Key_16:LsI tp 19 (QMV fun xs Ks=>∃j,QO2 j xs Ks):=Qae (S:=QMV fun _ _=>False) ht QTT (ls:=[QMi fun xs Ks=>∃j,QPB j xs Ks]) (lsc i_ref21_Key_23 lsn) rfl (q:=fun j=>QO2 j)
  (fun xs Ks h=>by
   obtain⟨su,c,i,gc,ga,pf,w,_,h1,h2,h3,h4,h5,h6,h7⟩:=h
   omega)
  (fun j xs Ks _ h=>by
   obtain⟨_,_,_,_,_,_,_,rfl,_⟩:=id h
   exact QTM h)
 exact kq rfl (q_of ht QU9 (ls:=[QM6 fun xs Ks=>∃j,QRf j xs Ks,QMj fun xs Ks=>∃j,QPC j xs Ks,QMV fun xs Ks=>∃j,QO2 j xs Ks,QMi fun xs Ks=>∃j,QPB j xs Ks]) (lsc i_ref21_Key_4 (lsc i_ref21_Key_11 (lsc i_ref21_Key_16 (lsc i_ref21_Key_23 lsn)))) rfl fun xs Ks _ h=>by
     obtain⟨gc,ga,pf,t,n,su,rfl,h1,h2⟩:=h
     exact QUW (Ks:=nthK Ks) h1 h2)
theorem QWG:rowS (Qfr (([]:List LD).map keyE))=[]:=by simp[Qfr,rowS]
theorem QSz:KOk tp 98 (.q (QM3 QNR)):=kq rfl fun G hg=>QEU (q':=QLH) (fun xs Ks h=>by
 unfold QNR at h
 split at h
 ·exact⟨[],rfl,zo,by rw[QWG];exact h⟩
 ·exact h.elim) (QKn QN9 G hg)
theorem QTu:KOk tp 78 (.q (Qc5 QOp)):=kq rfl fun G hg=>QEU (q':=QO) (fun xs Ks h=>by
 unfold QOp at h
 split at h
 ·exact⟨_,[],rfl,zo,by rw[QWG];exact h⟩
 ·exact h.elim) (QKn Qmj G hg)
theorem QWv:LsI tp 42 (QLS QTp):=by
 have ht:∀i g,(QL8 QLB QP QLH).get i=some g→KOk tp i g:=fun _ _ h=>tbg h ⟨⟨QAb,QNS⟩,⟨QN9,QQA⟩⟩
 have i_dep_writer_callees_14:LsI tp 42 (QLS fun xs Ks=>∃j,QO3 j xs Ks):=Qae (S:=QLS fun _ _=>False) ht QNK (ls:=[]) lsn rfl (q:=fun j=>QO3 j)
  (fun xs Ks h=>by
   obtain⟨l2,i,ca,p,_,h1,h2,h3,h4,h5⟩:=h
   omega)
  (fun j xs Ks _ h=>by
   obtain⟨_,_,_,_,rfl,_⟩:=id h
   exact QNI h)
 intro fn hf c hc y hy hS G hg
 exact QWu (S:=QLS fun _ _=>False) (fun xs Ks h=>by
  unfold QTp at h
  split at h
  ·obtain⟨⟨h1,h2,h3⟩,h4⟩:=h
   subst h1
   refine⟨_,_,_,[],fun _=>False,rfl,h3,nl,h2,⟨by simp,fun x=>by simp⟩,fun ca h5 h6=>?_⟩
   have:ca=[]:=List.eq_nil_of_length_eq_zero (Nat.le_zero.1 h6)
   rw[this];exact h4
  ·exact h.elim) (i_dep_writer_callees_14 fn hf c hc y hy hS G hg)
theorem QQ0:KOk tp 42 (.l [QLS QTp] QME):=QWD QOv (lsc QWv lsn)
theorem QUm:KOk tp 14 (.q (QOW QLV)):=by
 have ht:∀i g,QP4.get i=some g→KOk tp i g:=fun _ _ h=>tbg h ⟨⟨⟨⟨⟨⟨QAt,⟨Qxy,QUa⟩⟩,⟨QVg,⟨QAu,QAo⟩⟩⟩,⟨⟨QyO,⟨QAn,QDs⟩⟩,⟨QxA,⟨QPL,QPm⟩⟩⟩⟩,⟨⟨⟨QPk,⟨QQ0,QOF⟩⟩,⟨QO6,⟨QSb,QUq⟩⟩⟩,⟨⟨QTW,⟨QVe,QVf⟩⟩,⟨⟨QTX,QCl⟩,⟨Qv4,Qsq⟩⟩⟩⟩⟩,⟨⟨⟨⟨QxE,⟨Qrc,QoP⟩⟩,⟨QxB,⟨Qke,QTu⟩⟩⟩,⟨⟨QAi,⟨Qsc,Qsb⟩⟩,⟨⟨Qra,Qsi⟩,⟨Qsg,QAg⟩⟩⟩⟩,⟨⟨⟨Qsh,⟨Qv1,Qsf⟩⟩,⟨Qq9,⟨QAj,QPJ⟩⟩⟩,⟨⟨QPl,⟨QSz,QQA⟩⟩,⟨⟨QPn,QQa⟩,⟨QOj,QPI⟩⟩⟩⟩⟩⟩,⟨⟨⟨⟨⟨QS7,⟨QS6,Qua⟩⟩,⟨Qt9,⟨Qv3,Qv5⟩⟩⟩,⟨⟨QvX,⟨QoU,Qp0⟩⟩,⟨QoT,⟨Qun,Qn6⟩⟩⟩⟩,⟨⟨⟨QoQ,⟨QAh,QCh⟩⟩,⟨QFe,⟨QDr,Qsd⟩⟩⟩,⟨⟨QCi,⟨QTZ,QPK⟩⟩,⟨⟨QN0,Qnd⟩,⟨QxC,Qg3⟩⟩⟩⟩⟩,⟨⟨⟨⟨QoS,⟨Qrd,Qv2⟩⟩,⟨QCj,⟨Quh,Qsj⟩⟩⟩,⟨⟨Qrb,⟨Qsk,Qq8⟩⟩,⟨⟨Qxz,QCk⟩,⟨QAk,Qiq⟩⟩⟩⟩,⟨⟨⟨Quo,⟨Qeg,Qxx⟩⟩,⟨Qse,⟨Quj,QAf⟩⟩⟩,⟨⟨Qv0,⟨Qui,Quq⟩⟩,⟨⟨Qsp,Qsn⟩,⟨Qup,Qso⟩⟩⟩⟩⟩⟩⟩
 exact kq rfl (q_of ht QUp (ls:=[]) lsn rfl fun xs Ks _ h=>by
     obtain⟨rfl,h1⟩:=h
     exact QUh (Ks:=nthK Ks) h1)
theorem QTt:KOk tp 4 (.q (QPS QTo)):=by
 have ht:∀i g,(QM1 QX Qbg Qax QaP QL5 QLX QLV).get i=some g→KOk tp i g:=fun _ _ h=>tbg h ⟨⟨QBO,⟨QUm,QBN⟩⟩,⟨⟨Qxh,Qu2⟩,⟨QV5,QU5⟩⟩⟩
 have i_law22_DepKeys_6:LsI tp 4 (QMz fun xs Ks=>∃j,QSq j xs Ks):=Qae (S:=QMz fun _ _=>False) ht QSx (ls:=[]) lsn rfl (q:=fun j=>QSq j)
  (fun xs Ks h=>by
   obtain⟨g,l,n,s,i,_,h1,h2,h3,h4,h5,h6⟩:=h
   omega)
  (fun j xs Ks _ h=>by
   obtain⟨_,_,_,_,_,rfl,_⟩:=id h
   exact QSs h)
 have i_law22_DepKeys_14:LsI tp 4 (QMu fun xs Ks=>∃j,QQR j xs Ks):=Qae (S:=QMu fun _ _=>False) ht QR4 (ls:=[]) lsn rfl (q:=fun j=>QQR j)
  (fun xs Ks h=>by
   obtain⟨n,s,u,i,gc,ga,pf,w,_,h1,h2,h3,h4,h5,h6,h7,h8⟩:=h
   omega)
  (fun j xs Ks _ h=>by
   obtain⟨_,_,_,_,_,_,_,_,rfl,_⟩:=id h
   exact QRT h)
 exact kq rfl (q_of ht QTz (ls:=[QMz fun xs Ks=>∃j,QSq j xs Ks,QMu fun xs Ks=>∃j,QQR j xs Ks]) (lsc i_law22_DepKeys_6 (lsc i_law22_DepKeys_14 lsn)) rfl fun xs Ks _ h=>by
     obtain⟨g,l,n,s,rfl,h1,h2,h3,h4⟩:=h
     exact QTn (Ks:=nthK Ks) h1 h2 h3 h4)
end Go.Proofs.YtmdppkbekmpopaaGreat
namespace Go.Proofs.YtmdppkbekmpopaaGreat.Fwc
open Go Go.Sh Go.Va Go.ChangeShapes Go.WideShapes Go.ChangeAt Go.RowKit
theorem own:ownKnob Tryz.prog.godebug=none:=kx
theorem laidOut:laidOutB Tryz.prog=true:=kx
theorem rowed:mapsRowed Tryz.prog=true:=kx
theorem full:∀t e,t<Tryz.prog.types.size→Tryz.prog.underlying t=some (.slice e)→0<Tryz.prog.cellsOf e:=slices_full_of Tryz.prog kx
end Go.Proofs.YtmdppkbekmpopaaGreat.Fwc
