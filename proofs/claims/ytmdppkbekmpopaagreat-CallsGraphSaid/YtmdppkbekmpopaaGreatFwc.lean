import Derived.Test.YtmdppkbekmpopaaGreatLayS
import Derived.Test.YtmdppkbekmpopaaGreatOd
set_option linter.unusedVariables false
set_option linter.unusedSimpArgs false
set_option maxRecDepth 100000
set_option maxHeartbeats 4000000
noncomputable section
namespace Go.Proofs.YtmdppkbekmpopaaGreat
open Go Go.Sh Go.Va
theorem QfC:KOk Tryz.prog 165 (.q (QcX Ql)):=by
 have ht:∀i g,Qi9.get i=some g→KOk Tryz.prog i g:=fun _ _ h=>tbg h trivial
 have i_ref10_kind_3:LsI Tryz.prog 165 (Qd4 fun xs Ks=>∃j,QcV j xs Ks):=Qae (S:=Qd4 fun _ _=>False) ht Qyy (ls:=[]) lsn rfl (q:=fun j=>QcV j)
  (fun xs Ks h=>by
   obtain⟨s,l,i,_,h1,h2,h3,h4,h5,h6⟩:=h
   first | omega | exact absurd h1.2.2.2 (Nat.not_lt_zero _) | exact absurd h1.1.2.2.2 (Nat.not_lt_zero _))
  (fun j xs Ks _ h=>by
   obtain⟨_,_,_,rfl,_⟩:=id h
   exact Qyl h)
 exact kq rfl (q_of ht QCj (ls:=[Qd4 fun xs Ks=>∃j,QcV j xs Ks]) (lsc i_ref10_kind_3 lsn) rfl fun xs Ks _ h=>by
     obtain⟨fn,fp,fl,fb,s,rfl,h1,h2⟩:=h
     exact QBz (Ks:=nthK Ks) h1 h2)
theorem Qxi:KOk Tryz.prog 171 (.q (Qg5 QT)):=by
 have ht:∀i g,(QkV Ql).get i=some g→KOk Tryz.prog i g:=fun _ _ h=>tbg h QfC
 exact kq rfl (q_of ht Qxz (ls:=[]) lsn rfl fun xs Ks _ h=>by
     obtain⟨fn,fp,fl,fb,e,rfl,h1,h2,h3⟩:=h
     exact QwQ (Ks:=nthK Ks) h1 h2 h3)
theorem Qop:∀k,(∀G:Gd,G.Q→@QOk _ G Tryz.prog 172 (QdL (QdH k)))
 | 0=>fun G _ xs Ks _ h=>by
   obtain⟨fn,fp,fl,fb,e,_,h1,h2,h3,h4⟩:=h
   first | (exfalso;omega) | exact absurd h1.sz (Nat.not_lt_zero _)
 | k+1=>by
  have ih:=Qop  k
  have r_ref10_ints:=ih
  have ht:∀i g,(Qog Ql (QdH k)).get i=some g→KOk Tryz.prog i g:=fun _ _ h=>tbg h ⟨QfC,(kq rfl r_ref10_ints)⟩
  exact q_of ht QCk (ls:=[]) lsn rfl fun xs Ks _ h=>by
     obtain⟨fn,fp,fl,fb,e,rfl,h1,h2,h3,h4⟩:=h
     exact QBA (Ks:=nthK Ks) h1 h2 h3 h4
theorem QrU:KOk Tryz.prog 172 (.q (QdL Qu)):=kq rfl fun G hg=>Qnr (q:=fun k=>QdH k) fun k=>(Qop k) G hg
theorem Qnq:∀k,(∀G:Gd,G.Q→@QOk _ G Tryz.prog 173 (QeH (Qdd k)))
 | 0=>fun G _ xs Ks _ h=>by
   obtain⟨fn,fp,fl,fb,e,_,h1,h2,h3,h4⟩:=h
   first | (exfalso;omega) | exact absurd h1.sz (Nat.not_lt_zero _)
 | k+1=>by
  have ih:=Qnq  k
  have r_ref10_conds:=ih
  have ht:∀i g,(Qnh Ql Qu (Qdd k)).get i=some g→KOk Tryz.prog i g:=fun _ _ h=>tbg h ⟨QfC,⟨QrU,(kq rfl r_ref10_conds)⟩⟩
  exact q_of ht QAk (ls:=[]) lsn rfl fun xs Ks _ h=>by
     obtain⟨fn,fp,fl,fb,e,rfl,h1,h2,h3,h4⟩:=h
     exact QzU (Ks:=nthK Ks) h1 h2 h3 h4
theorem Qz7:KOk Tryz.prog 173 (.q (QeH QL)):=kq rfl fun G hg=>Qnr (q:=fun k=>Qdd k) fun k=>(Qnq k) G hg
theorem QBQ:KOk Tryz.prog 139 (.q (QkU Qak)):=by
 have ht:∀i g,(Qi8 Ql QT Qu QL).get i=some g→KOk Tryz.prog i g:=fun _ _ h=>tbg h ⟨⟨QfC,Qxi⟩,⟨QrU,Qz7⟩⟩
 have i_ref10_stmt_29:LsI Tryz.prog 139 (Qdm fun xs Ks=>∃j,QaU j xs Ks):=Qae (S:=Qdm fun _ _=>False) ht Qw6 (ls:=[]) lsn rfl (q:=fun j=>QaU j)
  (fun xs Ks h=>by
   obtain⟨ok,i,fn,fp,fl,fb,k,X,Y,E,F,C,ar,th,el,n,z0,z1,z2,z3,z4,z5,z6,z7,z8,z9,w,_,h1,h2,h3,h4,h5,h6,h7⟩:=h
   first | omega | exact absurd h1.2.2.2 (Nat.not_lt_zero _) | exact absurd h1.1.2.2.2 (Nat.not_lt_zero _))
  (fun j xs Ks _ h=>by
   obtain⟨_,_,_,_,_,_,_,_,_,_,_,_,_,_,_,_,_,_,_,_,_,_,_,_,_,_,_,rfl,_⟩:=id h
   exact QwP h)
 exact kq rfl (q_of ht QCi (ls:=[Qdm fun xs Ks=>∃j,QaU j xs Ks]) (lsc i_ref10_stmt_29 lsn) rfl fun xs Ks _ h=>by
     obtain⟨fn,fp,fl,fb,k,X,Y,E,F,C,ar,th,el,n,rfl,h1,h2,h3,h4⟩:=h
     exact QBy (Ks:=nthK Ks) h1 h2 h3 h4)
theorem Qnp:∀k,(∀G:Gd,G.Q→@QOk _ G Tryz.prog 95 (QeG (QcA k)))
 | 0=>fun G _ xs Ks _ h=>by
   obtain⟨fn,fp,fl,fb,l,_,h1,h2,h3,h4,h5⟩:=h
   first | (exfalso;omega) | exact absurd h1.sz (Nat.not_lt_zero _)
 | k+1=>by
  have ih:=Qnp  k
  have r_ref10_stmts:=ih
  have ht:∀i g,(QhJ Qak (QcA k)).get i=some g→KOk Tryz.prog i g:=fun _ _ h=>tbg h ⟨(kq rfl r_ref10_stmts),QBQ⟩
  have i_ref10_stmts_3:LsI Tryz.prog 95 (Qdl fun xs Ks=>∃j,Qcx k j xs Ks):=Qae (S:=Qdl fun _ _=>False) ht Qw5 (ls:=[]) lsn rfl (q:=fun j=>Qcx k j)
   (fun xs Ks h=>by
    obtain⟨l,i,fn,fp,fl,fb,w,_,h1,h2,h3,h4,h5,h6,h7,h8,h9,h10,h11,h12⟩:=h
    first | omega | exact absurd h1.2.2.2 (Nat.not_lt_zero _) | exact absurd h1.1.2.2.2 (Nat.not_lt_zero _))
   (fun j xs Ks _ h=>by
    obtain⟨_,_,_,_,_,_,_,rfl,_⟩:=id h
    exact QwO h)
  exact q_of ht QAj (ls:=[Qdl fun xs Ks=>∃j,Qcx k j xs Ks]) (lsc i_ref10_stmts_3 lsn) rfl fun xs Ks _ h=>by
     obtain⟨fn,fp,fl,fb,l,rfl,h1,h2,h3,h4,h5⟩:=h
     exact QzT (Ks:=nthK Ks) h1 h2 h3 h4 h5
theorem Qz6:KOk Tryz.prog 95 (.q (QeG Qz)):=kq rfl fun G hg=>Qnr (q:=fun k=>QcA k) fun k=>(Qnp k) G hg
theorem Qxj:KOk Tryz.prog 38 (.q (Qg6 QQ)):=by
 have ht:∀i g,(Qei Qz).get i=some g→KOk Tryz.prog i g:=fun _ _ h=>tbg h Qz6
 have i_ref10_Resolve_8:LsI Tryz.prog 38 (Qbl fun xs Ks=>∃j,Qbe j xs Ks):=Qae (S:=Qbl fun _ _=>False) ht Qt2 (ls:=[]) lsn rfl (q:=fun j=>Qbe j)
  (fun xs Ks h=>by
   obtain⟨l,i,k,fn,fp,fl,fb,z0,z1,z2,z3,_,h1,h2,h3,h4,h5,h6,h7⟩:=h
   first | omega | exact absurd h1.2.2.2 (Nat.not_lt_zero _) | exact absurd h1.1.2.2.2 (Nat.not_lt_zero _))
  (fun j xs Ks _ h=>by
   obtain⟨_,_,_,_,_,_,_,_,_,_,_,rfl,_⟩:=id h
   exact QtY h)
 have i_ref10_Resolve_5:LsI Tryz.prog 38 (QcM fun xs Ks=>∃j,Qbf j xs Ks):=Qae (S:=QcM fun _ _=>False) ht Qt3 (ls:=[Qbl fun xs Ks=>∃j,Qbe j xs Ks]) (lsc i_ref10_Resolve_8 lsn) rfl (q:=fun j=>Qbf j)
  (fun xs Ks h=>by
   obtain⟨l,i,fn,fp,fl,fb,z0,z1,z2,z3,_,h1,h2,h3,h4,h5,h6,h7⟩:=h
   first | omega | exact absurd h1.2.2.2 (Nat.not_lt_zero _) | exact absurd h1.1.2.2.2 (Nat.not_lt_zero _))
  (fun j xs Ks _ h=>by
   obtain⟨_,_,_,_,_,_,_,_,_,_,rfl,_⟩:=id h
   exact QtZ h)
 exact kq rfl (q_of ht QxA (ls:=[QcM fun xs Ks=>∃j,Qbf j xs Ks,Qbl fun xs Ks=>∃j,Qbe j xs Ks]) (lsc i_ref10_Resolve_5 (lsc i_ref10_Resolve_8 lsn)) rfl fun xs Ks _ h=>by
     obtain⟨fn,fp,fl,fb,u,rfl,h1,h2,h3,h4,h5⟩:=h
     exact QwR (Ks:=nthK Ks) h1 h2 h3 h4 h5)
theorem Qu3:KOk Tryz.prog 49 (.q (Qih QH)):=by
 have ht:∀i g,QkG.get i=some g→KOk Tryz.prog i g:=fun _ _ h=>tbg h trivial
 have i_ref10_Add_2:LsI Tryz.prog 49 (QeB fun xs Ks=>∃j,Qcz j xs Ks):=Qae (S:=QeB fun _ _=>False) ht Qz4 (ls:=[]) lsn rfl (q:=fun j=>Qcz j)
  (fun xs Ks h=>by
   obtain⟨l,s,i,_,h1,h2,h3,h4,h5⟩:=h
   first | omega | exact absurd h1.2.2.2 (Nat.not_lt_zero _) | exact absurd h1.1.2.2.2 (Nat.not_lt_zero _))
  (fun j xs Ks _ h=>by
   obtain⟨_,_,_,rfl,_⟩:=id h
   exact QzY h)
 exact kq rfl (q_of ht QDt (ls:=[QeB fun xs Ks=>∃j,Qcz j xs Ks]) (lsc i_ref10_Add_2 lsn) rfl fun xs Ks _ h=>by
     obtain⟨l,s,rfl,h1,h2⟩:=h
     exact QDd (Ks:=nthK Ks) h1 h2)
theorem Qk5:KOk Tryz.prog 125 (.q (Qd8 Qo)):=by
 have ht:∀i g,(Qiy Ql QH).get i=some g→KOk Tryz.prog i g:=fun _ _ h=>tbg h ⟨Qu3,QfC⟩
 exact kq rfl (q_of ht Quk (ls:=[]) lsn rfl fun xs Ks _ h=>by
     obtain⟨s,fn,fp,fl,fb,uc,ua,uk,rfl,h1,h2,h3⟩:=h
     exact QtV (Ks:=nthK Ks) h1 h2 h3)
theorem QiC:∀k,(∀G:Gd,G.Q→@QOk _ G Tryz.prog 126 (Qcc (Qja k)))
 | 0=>fun G _ xs Ks _ h=>by
   obtain⟨e,fn,fp,fl,fb,uc,ua,uk,_,h1,h2,h3,h4,h5⟩:=h
   first | (exfalso;omega) | exact absurd h1.sz (Nat.not_lt_zero _)
 | k+1=>by
  have ih:=QiC  k
  have r_ref10_used_expr:=ih
  have ht:∀i g,(Qiz Qo (Qja k)).get i=some g→KOk Tryz.prog i g:=fun _ _ h=>tbg h ⟨Qk5,(kq rfl r_ref10_used_expr)⟩
  exact q_of ht Qul (ls:=[]) lsn rfl fun xs Ks _ h=>by
     obtain⟨e,fn,fp,fl,fb,uc,ua,uk,rfl,h1,h2,h3,h4,h5⟩:=h
     exact QtW (Ks:=nthK Ks) h1 h2 h3 h4 h5
theorem Qk6:KOk Tryz.prog 126 (.q (Qcc Qk)):=kq rfl fun G hg=>Qnr (q:=fun k=>Qja k) fun k=>(QiC k) G hg
theorem QiD:∀k,(∀G:Gd,G.Q→@QOk _ G Tryz.prog 127 (QcS (Qjb k)))
 | 0=>fun G _ xs Ks _ h=>by
   obtain⟨e,fn,fp,fl,fb,uc,ua,uk,_,h1,h2,h3,h4,h5⟩:=h
   first | (exfalso;omega) | exact absurd h1.sz (Nat.not_lt_zero _)
 | k+1=>by
  have ih:=QiD  k
  have r_ref10_used_cond:=ih
  have ht:∀i g,(QiA Qk (Qjb k)).get i=some g→KOk Tryz.prog i g:=fun _ _ h=>tbg h ⟨Qk6,(kq rfl r_ref10_used_cond)⟩
  exact q_of ht Qum (ls:=[]) lsn rfl fun xs Ks _ h=>by
     obtain⟨e,fn,fp,fl,fb,uc,ua,uk,rfl,h1,h2,h3,h4,h5⟩:=h
     exact QtX (Ks:=nthK Ks) h1 h2 h3 h4 h5
theorem Qt7:KOk Tryz.prog 127 (.q (QcS Qr)):=kq rfl fun G hg=>Qnr (q:=fun k=>Qjb k) fun k=>(QiD k) G hg
theorem QhM:∀k,(∀G:Gd,G.Q→@QOk _ G Tryz.prog 79 (Qcv (QdS k)))
 | 0=>fun G _ xs Ks _ h=>by
   obtain⟨l,fn,fp,fl,fb,uc,ua,uk,_,h1,h2,h3,h4,h5,h6⟩:=h
   first | (exfalso;omega) | exact absurd h1.sz (Nat.not_lt_zero _)
 | k+1=>by
  have ih:=QhM  k
  have r_ref10_used_stmts:=ih
  have ht:∀i g,(Qc0 QH Qo Qk Qr (QdS k)).get i=some g→KOk Tryz.prog i g:=fun _ _ h=>tbg h ⟨⟨Qu3,(kq rfl r_ref10_used_stmts)⟩,⟨Qk5,⟨Qk6,Qt7⟩⟩⟩
  have i_ref10_used_stmts_19:LsI Tryz.prog 79 (QaG fun xs Ks=>∃j,QeS j xs Ks):=Qae (S:=QaG fun _ _=>False) ht QoE (ls:=[]) lsn rfl (q:=fun j=>QeS j)
   (fun xs Ks h=>by
    obtain⟨l,i,k,fn,fp,fl,fb,uc,ua,uk,s0,s1,s2,s3,s4,s5,s6,s7,s8,s9,_,h1,h2,h3,h4,h5,h6,h7,h8⟩:=h
    first | omega | exact absurd h1.2.2.2 (Nat.not_lt_zero _) | exact absurd h1.1.2.2.2 (Nat.not_lt_zero _))
   (fun j xs Ks _ h=>by
    obtain⟨_,_,_,_,_,_,_,_,_,_,_,_,_,_,_,_,_,_,_,_,rfl,_⟩:=id h
    exact Qoi h)
  have i_ref10_used_stmts_1:LsI Tryz.prog 79 (Qb9 fun xs Ks=>∃j,QeK k j xs Ks):=Qae (S:=Qb9 fun _ _=>False) ht QpO (ls:=[QaG fun xs Ks=>∃j,QeS j xs Ks]) (lsc i_ref10_used_stmts_19 lsn) rfl (q:=fun j=>QeK k j)
   (fun xs Ks h=>by
    obtain⟨l,i,fn,fp,fl,fb,uc,ua,uk,_,h1,h2,h3,h4,h5,h6,h7,h8,h9⟩:=h
    first | omega | exact absurd h1.2.2.2 (Nat.not_lt_zero _) | exact absurd h1.1.2.2.2 (Nat.not_lt_zero _))
   (fun j xs Ks _ h=>by
    obtain⟨_,_,_,_,_,_,_,_,_,rfl,_⟩:=id h
    exact QpB h)
  exact q_of ht Qsl (ls:=[Qb9 fun xs Ks=>∃j,QeK k j xs Ks,QaG fun xs Ks=>∃j,QeS j xs Ks]) (lsc i_ref10_used_stmts_1 (lsc i_ref10_used_stmts_19 lsn)) rfl fun xs Ks _ h=>by
     obtain⟨l,fn,fp,fl,fb,uc,ua,uk,rfl,h1,h2,h3,h4,h5,h6⟩:=h
     exact QrG (Ks:=nthK Ks) h1 h2 h3 h4 h5 h6
theorem QrT:KOk Tryz.prog 79 (.q (Qcv Qp)):=kq rfl fun G hg=>Qnr (q:=fun k=>QdS k) fun k=>(QhM k) G hg
theorem Qz8:KOk Tryz.prog 32 (.q (Qjk QN)):=by
 have ht:∀i g,(Qni Qp).get i=some g→KOk Tryz.prog i g:=fun _ _ h=>tbg h QrT
 exact kq rfl (q_of ht QAl (ls:=[]) lsn rfl fun xs Ks _ h=>by
     obtain⟨fn,fp,fl,fb,rfl,h1,h2,h3,h4,h5⟩:=h
     exact QzV (Ks:=nthK Ks) h1 h2 h3 h4 h5)
theorem Qz9:KOk Tryz.prog 12 (.q (Qjl Qah)):=by
 have ht:∀i g,(QdN QN).get i=some g→KOk Tryz.prog i g:=fun _ _ h=>tbg h Qz8
 have i_ref10_Edges_3:LsI Tryz.prog 12 (Qdo fun xs Ks=>∃j,QbM j xs Ks):=Qae (S:=Qdo fun _ _=>False) ht Qw8 (ls:=[]) lsn rfl (q:=fun j=>QbM j)
  (fun xs Ks h=>by
   obtain⟨l,i,g,_,h1,h2,h3,h4,h5,h6,h7,h8,h9⟩:=h
   first | omega | exact absurd h1.2.2.2 (Nat.not_lt_zero _) | exact absurd h1.1.2.2.2 (Nat.not_lt_zero _))
  (fun j xs Ks _ h=>by
   obtain⟨_,_,_,rfl,_⟩:=id h
   exact QwT h)
 have i_ref10_Edges_12:LsI Tryz.prog 12 (Qbv fun xs Ks=>∃j,Qa1 j xs Ks):=Qae (S:=Qbv fun _ _=>False) ht QvK (ls:=[]) lsn rfl (q:=fun j=>Qa1 j)
  (fun xs Ks h=>by
   obtain⟨l,i,c,k,g,ke,_,h1,h2,h3,h4,h5,h6,h7⟩:=h
   first | omega | exact absurd h1.2.2.2 (Nat.not_lt_zero _) | exact absurd h1.1.2.2.2 (Nat.not_lt_zero _))
  (fun j xs Ks _ h=>by
   obtain⟨_,_,_,_,_,_,rfl,_⟩:=id h
   exact Qvv h)
 have i_ref10_Edges_7:LsI Tryz.prog 12 (Qdn fun xs Ks=>∃j,QbL j xs Ks):=Qae (S:=Qdn fun _ _=>False) ht Qw7 (ls:=[Qbv fun xs Ks=>∃j,Qa1 j xs Ks]) (lsc i_ref10_Edges_12 lsn) rfl (q:=fun j=>QbL j)
  (fun xs Ks h=>by
   obtain⟨l,i,g,_,h1,h2,h3,h4,h5,h6,h7⟩:=h
   first | omega | exact absurd h1.2.2.2 (Nat.not_lt_zero _) | exact absurd h1.1.2.2.2 (Nat.not_lt_zero _))
  (fun j xs Ks _ h=>by
   obtain⟨_,_,_,rfl,_⟩:=id h
   exact QwS h)
 exact kq rfl (q_of ht QAm (ls:=[Qdo fun xs Ks=>∃j,QbM j xs Ks,Qdn fun xs Ks=>∃j,QbL j xs Ks,Qbv fun xs Ks=>∃j,Qa1 j xs Ks]) (lsc i_ref10_Edges_3 (lsc i_ref10_Edges_7 (lsc i_ref10_Edges_12 lsn))) rfl fun xs Ks _ h=>by
     obtain⟨l,rfl,h1,h2⟩:=h
     exact QzW (Ks:=nthK Ks) h1 h2)
theorem QAa:KOk Tryz.prog 36 (.q (Qjm QZ)):=by
 have ht:∀i g,QdO.get i=some g→KOk Tryz.prog i g:=fun _ _ h=>tbg h trivial
 have i_ref10_Check_3:LsI Tryz.prog 36 (Qdq fun xs Ks=>∃j,Qcy j xs Ks):=Qae (S:=Qdq fun _ _=>False) ht Qxa (ls:=[]) lsn rfl (q:=fun j=>Qcy j)
  (fun xs Ks h=>by
   obtain⟨i,ce,ar,w,_,h1,h2,h3,h4,h5,h6⟩:=h
   first | omega | exact absurd h1.2.2.2 (Nat.not_lt_zero _) | exact absurd h1.1.2.2.2 (Nat.not_lt_zero _))
  (fun j xs Ks _ h=>by
   obtain⟨_,_,_,_,rfl,_⟩:=id h
   exact QwV h)
 have i_ref10_Check_10:LsI Tryz.prog 36 (Qbw fun xs Ks=>∃j,Qbr j xs Ks):=Qae (S:=Qbw fun _ _=>False) ht QvL (ls:=[]) lsn rfl (q:=fun j=>Qbr j)
  (fun xs Ks h=>by
   obtain⟨l,i,k,_,h1,h2,h3,h4,h5,h6,h7⟩:=h
   first | omega | exact absurd h1.2.2.2 (Nat.not_lt_zero _) | exact absurd h1.1.2.2.2 (Nat.not_lt_zero _))
  (fun j xs Ks _ h=>by
   obtain⟨_,_,_,rfl,_⟩:=id h
   exact Qvw h)
 have i_ref10_Check_7:LsI Tryz.prog 36 (Qdp fun xs Ks=>∃j,QbN j xs Ks):=Qae (S:=Qdp fun _ _=>False) ht Qw9 (ls:=[Qbw fun xs Ks=>∃j,Qbr j xs Ks]) (lsc i_ref10_Check_10 lsn) rfl (q:=fun j=>QbN j)
  (fun xs Ks h=>by
   obtain⟨l,i,_,h1,h2,h3,h4,h5,h6⟩:=h
   first | omega | exact absurd h1.2.2.2 (Nat.not_lt_zero _) | exact absurd h1.1.2.2.2 (Nat.not_lt_zero _))
  (fun j xs Ks _ h=>by
   obtain⟨_,_,rfl,_⟩:=id h
   exact QwU h)
 exact kq rfl (q_of ht QAn (ls:=[Qdq fun xs Ks=>∃j,Qcy j xs Ks,Qdp fun xs Ks=>∃j,QbN j xs Ks,Qbw fun xs Ks=>∃j,Qbr j xs Ks]) (lsc i_ref10_Check_3 (lsc i_ref10_Check_7 (lsc i_ref10_Check_10 lsn))) rfl fun xs Ks _ h=>by
     obtain⟨ce,ar,rfl,h1,h2,h3⟩:=h
     exact QzX (Ks:=nthK Ks) h1 h2 h3)
def Qe2 (Q6:QF):Tr FFn:=(.node 124 (.leaf 98 (.q (QmQ Q6))) (.leaf 124 QqA))
def QfZ:=fun (kn:List LD) (fd:List LD) (Ks:Nat→List LD→Prop) (q Q6:QF)=>QG (Qe2 Q6) [] QfS (Qc5 q) [.t kn,.t fd] Ks
theorem QmM (kn:List LD)(fd:List LD)(Ks:Nat→List LD→Prop)(q:Go.Va.QF)(Q6:Go.Va.QF):QfZ kn fd Ks q Q6=(Q6 [(LD.t fd)] [apK [.r 26,.r 1] fun (z_5:List LD) (z_6:List LD)=>(Ks 0 [(LD.t kn),(LD.t z_5),(LD.t z_6)]:Prop)]):=by kernel_rfl
theorem Ql7 {kn fd:List LD}{Ks:Nat→List LD→Prop}{q:QF}(h:fd.length≤1000000)(hk:Ks 0 [.t kn,.t fd,.t (rowS (Qfr (fd.map keyE)))]):QfZ kn fd Ks q Q6:=by
 refine Eq.mpr (QmM ..) ?_
 exact⟨fd,rfl,h,fun _=>hk⟩
theorem Qxg:KOk Tryz.prog 98 (.q (QmQ Q6)):=kq rfl (QHc (P:=Tryz.prog) Lay.sortedS (QIF Lay.sort141 rfl 5) Tryz.call141 Lay.keys164 Tryz.call164 Tryz.call98)
theorem QvO:KOk Tryz.prog 163 (.q (Qgu Q2)):=by
 have ht:∀i g,QjB.get i=some g→KOk Tryz.prog i g:=fun _ _ h=>tbg h ⟨Qxx,QAf⟩
 exact kq rfl (q_of ht Qv2 (ls:=[]) lsn rfl fun xs Ks _ h=>by
     obtain⟨fn,fp,fl,fb,rfl,h1,h2⟩:=h
     exact Qvx (Ks:=nthK Ks) h1 h2)
theorem Qt8:KOk Tryz.prog 121 (.q (QfY Qal)):=by
 have ht:∀i g,(Qfg Q2).get i=some g→KOk Tryz.prog i g:=fun _ _ h=>tbg h QvO
 have i_names_visitorOf_3:LsI Tryz.prog 121 (Qci fun xs Ks=>∃j,QaV j xs Ks):=Qae (S:=Qci fun _ _=>False) ht Qq5 (ls:=[]) lsn rfl (q:=fun j=>QaV j)
  (fun xs Ks h=>by
   obtain⟨n,i,w,kn,_,h1,h2,h3,h4,h5,h6,h7⟩:=h
   first | omega | exact absurd h1.2.2.2 (Nat.not_lt_zero _) | exact absurd h1.1.2.2.2 (Nat.not_lt_zero _))
  (fun j xs Ks _ h=>by
   obtain⟨_,_,_,_,rfl,_⟩:=id h
   exact Qq1 h)
 exact kq rfl (q_of ht Qun (ls:=[Qci fun xs Ks=>∃j,QaV j xs Ks]) (lsc i_names_visitorOf_3 lsn) rfl fun xs Ks _ h=>by
     obtain⟨fn,fp,fl,fb,rfl,h1,h2⟩:=h
     exact Qt0 (Ks:=nthK Ks) h1 h2)
theorem Qq7:KOk Tryz.prog 74 (.q (QeZ Q9)):=by
 have ht:∀i g,(Qhc Qal).get i=some g→KOk Tryz.prog i g:=fun _ _ h=>tbg h Qt8
 exact kq rfl (q_of ht Qrc (ls:=[]) lsn rfl fun xs Ks _ h=>by
     obtain⟨fn,fp,fl,fb,rfl,h1,h2⟩:=h
     exact Qq2 (Ks:=nthK Ks) h1 h2)
theorem Qgb:∀k,(∀G:Gd,G.Q→@QOk _ G Tryz.prog 75 (QbH (QdR k)))
 | 0=>fun G _ xs Ks _ h=>by
   obtain⟨fp,fl,l,kn,fd,_,h1,h2⟩:=h
   first | (exfalso;omega) | exact absurd h1.sz (Nat.not_lt_zero _)
 | k+1=>by
  have ih:=Qgb  k
  have r_names_visitor_stmts:=ih
  have ht:∀i g,(QdE (QdR k)).get i=some g→KOk Tryz.prog i g:=fun _ _ h=>tbg h ⟨⟨(kq rfl r_names_visitor_stmts),QxB⟩,⟨Qke,⟨Qn6,QoQ⟩⟩⟩
  have i_names_visitor_stmts_2:LsI Tryz.prog 75 (Qbm fun xs Ks=>∃j,Qfz k j xs Ks):=Qae (S:=Qbm fun _ _=>False) ht Qnc (ls:=[]) lsn rfl (q:=fun j=>Qfz k j)
   (fun xs Ks h=>by
    obtain⟨fp,fl,l,i,kn,fd,_,h1,h2,h3,h4,h5,h6,h7,h8⟩:=h
    first | omega | exact absurd h1.2.2.2 (Nat.not_lt_zero _) | exact absurd h1.1.2.2.2 (Nat.not_lt_zero _))
   (fun j xs Ks _ h=>by
    obtain⟨_,_,_,_,_,_,rfl,_⟩:=id h
    exact Qnb h)
  exact q_of ht QoP (ls:=[Qbm fun xs Ks=>∃j,Qfz k j xs Ks]) (lsc i_names_visitor_stmts_2 lsn) rfl fun xs Ks _ h=>by
     obtain⟨fp,fl,l,kn,fd,rfl,h1,h2⟩:=h
     exact Qoj (Ks:=nthK Ks) h1 h2
theorem QoG:KOk Tryz.prog 75 (.q (QbH Qs)):=kq rfl fun G hg=>Qnr (q:=fun k=>QdR k) fun k=>(Qgb k) G hg
theorem Qmj:KOk Tryz.prog 78 (.q (Qc5 QO)):=by
 have ht:∀i g,(Qe2 Q6).get i=some g→KOk Tryz.prog i g:=fun _ _ h=>tbg h ⟨Qxg,QAp⟩
 exact kq rfl (q_of ht QmA (ls:=[]) lsn rfl fun xs Ks _ h=>by
     obtain⟨kn,fd,rfl,h1,h2⟩:=h
     exact Ql7 (Ks:=nthK Ks) h1 h2)
theorem QAb:KOk Tryz.prog 31 (.q (Qjn QP)):=by
 have ht:∀i g,(Qnj Q9 Qs QO).get i=some g→KOk Tryz.prog i g:=fun _ _ h=>tbg h ⟨Qq7,⟨QoG,Qmj⟩⟩
 exact kq rfl (q_of ht QAo (ls:=[]) lsn rfl fun xs Ks _ h=>by
     obtain⟨fn,fp,fl,fb,rfl,h1,h2,h3,h4,h5⟩:=h
     exact QzZ (Ks:=nthK Ks) h1 h2 h3 h4 h5)
theorem QAd:KOk Tryz.prog 11 (.q (Qjp Q8)):=by
 have ht:∀i g,(QdP QP).get i=some g→KOk Tryz.prog i g:=fun _ _ h=>tbg h QAb
 have i_calls_Graph_3:LsI Tryz.prog 11 (Qds fun xs Ks=>∃j,QbP j xs Ks):=Qae (S:=Qds fun _ _=>False) ht Qxc (ls:=[]) lsn rfl (q:=fun j=>QbP j)
  (fun xs Ks h=>by
   obtain⟨l,l2,n,i,la,_,h1,h2,h3,h4,h5,h6,h7,h8⟩:=h
   first | omega | exact absurd h1.2.2.2 (Nat.not_lt_zero _) | exact absurd h1.1.2.2.2 (Nat.not_lt_zero _))
  (fun j xs Ks _ h=>by
   obtain⟨_,_,_,_,_,rfl,_⟩:=id h
   exact QwX h)
 have i_calls_Graph_13:LsI Tryz.prog 11 (Qbx fun xs Ks=>∃j,Qa2 j xs Ks):=Qae (S:=Qbx fun _ _=>False) ht QvN (ls:=[]) lsn rfl (q:=fun j=>Qa2 j)
  (fun xs Ks h=>by
   obtain⟨l,k,n,i,la,g,re,ce,w,_,h1,h2,h3,h4,h5,h6,h7,h8⟩:=h
   first | omega | exact absurd h1.2.2.2 (Nat.not_lt_zero _) | exact absurd h1.1.2.2.2 (Nat.not_lt_zero _))
  (fun j xs Ks _ h=>by
   obtain⟨_,_,_,_,_,_,_,_,_,rfl,_⟩:=id h
   exact Qvz h)
 have i_calls_Graph_9:LsI Tryz.prog 11 (Qdr fun xs Ks=>∃j,QbO j xs Ks):=Qae (S:=Qdr fun _ _=>False) ht Qxb (ls:=[Qbx fun xs Ks=>∃j,Qa2 j xs Ks]) (lsc i_calls_Graph_13 lsn) rfl (q:=fun j=>QbO j)
  (fun xs Ks h=>by
   obtain⟨l,la,g,re,_,h1,h2,h3,h4,h5⟩:=h
   first | omega | exact absurd h1.2.2.2 (Nat.not_lt_zero _) | exact absurd h1.1.2.2.2 (Nat.not_lt_zero _))
  (fun j xs Ks _ h=>by
   obtain⟨_,_,_,_,rfl,_⟩:=id h
   exact QwW h)
 exact kq rfl (q_of ht QAt (ls:=[Qds fun xs Ks=>∃j,QbP j xs Ks,Qdr fun xs Ks=>∃j,QbO j xs Ks,Qbx fun xs Ks=>∃j,Qa2 j xs Ks]) (lsc i_calls_Graph_3 (lsc i_calls_Graph_9 (lsc i_calls_Graph_13 lsn))) rfl fun xs Ks _ h=>by
     obtain⟨l,rfl,h1,h2⟩:=h
     exact Qz1 (Ks:=nthK Ks) h1 h2)
theorem QBN:KOk Tryz.prog 15 (.q (QkR Qbg)):=by
 have ht:∀i g,(Qoe QX Q7 QaO).get i=some g→KOk Tryz.prog i g:=fun _ _ h=>tbg h ⟨Qu2,⟨QDi,QyE⟩⟩
 exact kq rfl (q_of ht QCf (ls:=[]) lsn rfl fun xs Ks _ h=>by
     obtain⟨g,l,rfl,h1,h2⟩:=h
     exact QBu (Ks:=nthK Ks) h1 h2)
theorem QBO:KOk Tryz.prog 9 (.q (QkS Qax)):=by
 have ht:∀i g,Qi7.get i=some g→KOk Tryz.prog i g:=fun _ _ h=>tbg h trivial
 have i_seat_Light_4:LsI Tryz.prog 9 (Qd1 fun xs Ks=>∃j,QcU j xs Ks):=Qae (S:=Qd1 fun _ _=>False) ht Qyv (ls:=[]) lsn rfl (q:=fun j=>QcU j)
  (fun xs Ks h=>by
   obtain⟨l,m,i,_,h1,h2,h3,h4,h5,h6⟩:=h
   first | omega | exact absurd h1.2.2.2 (Nat.not_lt_zero _) | exact absurd h1.1.2.2.2 (Nat.not_lt_zero _))
  (fun j xs Ks _ h=>by
   obtain⟨_,_,_,rfl,_⟩:=id h
   exact Qyg h)
 exact kq rfl (q_of ht QCg (ls:=[Qd1 fun xs Ks=>∃j,QcU j xs Ks]) (lsc i_seat_Light_4 lsn) rfl fun xs Ks _ h=>by
     obtain⟨l,m,rfl,h1⟩:=h
     exact QBv (Ks:=nthK Ks) h1)
theorem QyG:KOk Tryz.prog 13 (.q (Qii Q3)):=by
 have ht:∀i g,QgP.get i=some g→KOk Tryz.prog i g:=fun _ _ h=>tbg h trivial
 have i_help_Strings_4:LsI Tryz.prog 13 (QcZ fun xs Ks=>∃j,Qcm j xs Ks):=Qae (S:=QcZ fun _ _=>False) ht QvM (ls:=[]) lsn rfl (q:=fun j=>Qcm j)
  (fun xs Ks h=>by
   obtain⟨a,b,i,_,h1,h2,h3,h4,h5,h6,h7⟩:=h
   first | omega | exact absurd h1.2.2.2 (Nat.not_lt_zero _) | exact absurd h1.1.2.2.2 (Nat.not_lt_zero _))
  (fun j xs Ks _ h=>by
   obtain⟨_,_,_,rfl,_⟩:=id h
   exact Qvy h)
 exact kq rfl (q_of ht QoR (ls:=[QcZ fun xs Ks=>∃j,Qcm j xs Ks]) (lsc i_help_Strings_4 lsn) rfl fun xs Ks _ h=>by
     obtain⟨a,b,rfl,h1,h2,h3⟩:=h
     exact Qym (Ks:=nthK Ks) h1 h2 h3)
theorem Qxh:KOk Tryz.prog 16 (.q (Qg4 QaP)):=by
 have ht:∀i g,(Qeh QQ Qac QW QZ).get i=some g→KOk Tryz.prog i g:=fun _ _ h=>tbg h ⟨⟨QyF,QAa⟩,⟨QDk,Qxj⟩⟩
 have i_ref21_Program_14:LsI Tryz.prog 16 (Qa5 fun xs Ks=>∃j,QaI j xs Ks):=Qae (S:=Qa5 fun _ _=>False) ht QrQ (ls:=[]) lsn rfl (q:=fun j=>QaI j)
  (fun xs Ks h=>by
   obtain⟨t,i,a,zc,za,zf,gc,ga,pf,fn,fp,fl,fb,_,h1,h2,h3,h4,h5⟩:=h
   first | omega | exact absurd h1.2.2.2 (Nat.not_lt_zero _) | exact absurd h1.1.2.2.2 (Nat.not_lt_zero _))
  (fun j xs Ks _ h=>by
   obtain⟨_,_,_,_,_,_,_,_,_,_,_,_,_,rfl,_⟩:=id h
   exact QrF h)
 have i_ref21_Program_3:LsI Tryz.prog 16 (QcL fun xs Ks=>∃j,Qbd j xs Ks):=Qae (S:=QcL fun _ _=>False) ht Qt1 (ls:=[Qa5 fun xs Ks=>∃j,QaI j xs Ks]) (lsc i_ref21_Program_14 lsn) rfl (q:=fun j=>Qbd j)
  (fun xs Ks h=>by
   obtain⟨t,i,zc,za,zf,gc,ga,pf,_,h1,h2,h3,h4,h5,h6,h7,h8⟩:=h
   first | omega | exact absurd h1.2.2.2 (Nat.not_lt_zero _) | exact absurd h1.1.2.2.2 (Nat.not_lt_zero _))
  (fun j xs Ks _ h=>by
   obtain⟨_,_,_,_,_,_,_,_,rfl,_⟩:=id h
   exact QtU h)
 exact kq rfl (q_of ht Qxy (ls:=[QcL fun xs Ks=>∃j,Qbd j xs Ks,Qa5 fun xs Ks=>∃j,QaI j xs Ks]) (lsc i_ref21_Program_3 (lsc i_ref21_Program_14 lsn)) rfl fun xs Ks _ h=>by
     obtain⟨t,rfl,h1,h2,h3⟩:=h
     exact QwN (Ks:=nthK Ks) h1 h2 h3)
theorem QyD:KOk Tryz.prog 10 (.q (Qid Qab)):=by
 have ht:∀i g,(Ql4 Qbg QaP).get i=some g→KOk Tryz.prog i g:=fun _ _ h=>tbg h ⟨QBN,Qxh⟩
 exact kq rfl (q_of ht QyM (ls:=[]) lsn rfl fun xs Ks _ h=>by
     obtain⟨g,l,rfl,h1,h2⟩:=h
     exact Qyf (Ks:=nthK Ks) h1 h2)
theorem QAc:KOk Tryz.prog 8 (.q (Qjo Qav)):=by
 have ht:∀i g,Qnk.get i=some g→KOk Tryz.prog i g:=fun _ _ h=>tbg h ⟨⟨⟨⟨QoR,⟨QAu,QAs⟩⟩,⟨⟨QAr,QCl⟩,⟨Qv4,Qsq⟩⟩⟩,⟨⟨⟨QxE,QxD⟩,⟨Qua,Qt9⟩⟩,⟨⟨Qv3,Qv5⟩,⟨QvX,QoU⟩⟩⟩⟩,⟨⟨⟨Qp0,⟨QoT,Qnd⟩⟩,⟨⟨QxC,Qg3⟩,⟨QoS,Qrd⟩⟩⟩,⟨⟨⟨Qiq,Quo⟩,⟨Qeg,Quq⟩⟩,⟨⟨Qsp,Qsn⟩,⟨Qup,Qso⟩⟩⟩⟩⟩
 exact kq rfl (q_of ht QAq (ls:=[]) lsn rfl fun xs Ks _ h=>by
     obtain⟨rfl,h1⟩:=h
     exact Qz0 (Ks:=nthK Ks) h1)
theorem QrV:KOk Tryz.prog 3 (.q (QiW QrM)):=by
 have ht:∀i g,(QeR Qax Q3 Qab Q8 Qah Qav).get i=some g→KOk Tryz.prog i g:=fun _ _ h=>tbg h ⟨⟨QAc,⟨QBO,QyD⟩⟩,⟨QAd,⟨Qz9,QyG⟩⟩⟩
 have i_law11_CallsGraph_10:LsI Tryz.prog 3 (QbG fun xs Ks=>∃j,QaF j xs Ks):=Qae (S:=QbG fun _ _=>False) ht QoF (ls:=[]) lsn rfl (q:=fun j=>QaF j)
  (fun xs Ks h=>by
   obtain⟨i,gc,ga,pf,g,h,_,h1,h2,h3,h4,h5,h6,h7⟩:=h
   first | omega | exact absurd h1.2.2.2 (Nat.not_lt_zero _) | exact absurd h1.1.2.2.2 (Nat.not_lt_zero _))
  (fun j xs Ks _ h=>by
   obtain⟨_,_,_,_,_,_,rfl,_⟩:=id h
   exact Qok h)
 exact kq rfl (q_of ht Qsm (ls:=[QbG fun xs Ks=>∃j,QaF j xs Ks]) (lsc i_law11_CallsGraph_10 lsn) rfl fun xs Ks _ h=>by
     obtain⟨l,rfl,h1,h2⟩:=h
     exact QrH (Ks:=nthK Ks) h1 h2)
end Go.Proofs.YtmdppkbekmpopaaGreat
namespace Go.Proofs.YtmdppkbekmpopaaGreat.Fwc
open Go Go.Sh Go.Va Go.ChangeShapes Go.WideShapes Go.ChangeAt Go.RowKit
theorem own:ownKnob Tryz.prog.godebug=none:=by kernel_rfl
theorem laidOut:laidOutB Tryz.prog=true:=by kernel_rfl
theorem rowed:mapsRowed Tryz.prog=true:=by kernel_rfl
theorem full:∀t e,t<Tryz.prog.types.size→Tryz.prog.underlying t=some (.slice e)→0<Tryz.prog.cellsOf e:=slices_full_of Tryz.prog (by kernel_rfl)
end Go.Proofs.YtmdppkbekmpopaaGreat.Fwc
