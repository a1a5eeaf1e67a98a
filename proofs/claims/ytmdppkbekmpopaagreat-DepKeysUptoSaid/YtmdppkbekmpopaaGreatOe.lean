import Derived.Test.YtmdppkbekmpopaaGreatOa
set_option linter.unusedVariables false
set_option linter.unusedSimpArgs false
set_option linter.unusedSectionVars false
set_option maxRecDepth 100000
set_option maxHeartbeats 4000000
noncomputable section
namespace Go.Proofs.YtmdppkbekmpopaaGreat
open Go Go.Sh Go.Va
theorem QhL:∀k,(∀G:Gd,G.Q→@QOk _ G tp 133 (Qfn (Qfh k)))∧(∀G:Gd,G.Q→@QOk _ G tp 82 (QcP (QcJ k)))
 | 0=>⟨fun G _ xs Ks _ h=>by
   obtain⟨k,d,b,i,n,_,h1,h2⟩:=h
   first | (exfalso;omega) | exact absurd h1.sz nt,
  fun G _ xs Ks _ h=>by
   obtain⟨k,d,b,i,n,_,h1,h2⟩:=h
   first | (exfalso;omega) | exact absurd h1.sz nt⟩
 | k+1=>by
  have ih:=QhL  k
  obtain⟨r_seat_maker_block,r_seat_maker_stmt⟩:=ih
  refine⟨?_,?_⟩
  ·have ht:∀i g,(QeN Qe (QcJ k)).get i=some g→KOk tp i g:=fun _ _ h=>tbg h ⟨Qa3,(kq rfl r_seat_maker_stmt)⟩
   have i_seat_maker_block_3:LsI tp 133 (Qb4 fun xs Ks=>∃j,QbT k j xs Ks):=Qae (S:=Qb4 fun _ _=>False) ht QpJ (ls:=[]) lsn rfl (q:=fun j=>QbT k j)
    (fun xs Ks h=>by
    obtain⟨k,d,s,n,b,i,m,_,h1,h2,h3,h4⟩:=h
    omega)
    (fun j xs Ks _ h=>by
    obtain⟨k,d,s,n,b,i,m,rfl,h1,h2,h3,h4⟩:=h
    exact Qpw h1 h2 h3 h4)
   exact q_of ht Qsa (ls:=[Qb4 fun xs Ks=>∃j,QbT k j xs Ks]) (lsc i_seat_maker_block_3 lsn) rfl fun xs Ks _ h=>by
     obtain⟨k,d,b,i,n,rfl,h1,h2⟩:=h
     exact Qru (Ks:=nthK Ks) h1.1 h1.2 h2
  ·have ht:∀i g,(Qis Qe QM Qi Qn Qj QB Qaj QX (Qfh k)).get i=some g→KOk tp i g:=fun _ _ h=>tbg h ⟨⟨⟨Qu2,Qa3⟩,⟨Qek,Qmi⟩⟩,⟨⟨QgS,Qgf⟩,⟨Qt6,⟨Qt5,(kq rfl r_seat_maker_block)⟩⟩⟩⟩
   exact q_of ht Qub (ls:=[]) lsn rfl fun xs Ks _ h=>by
     obtain⟨k,d,b,i,n,rfl,h1,h2⟩:=h
     exact QtL (Ks:=nthK Ks) h1.1 h1.2 h2
theorem Qt4:KOk tp 82 (.q (QcP Qv)):=kq rfl fun G hg=>QEU (q':=QcJ 6) (fun xs Ks h=>by obtain⟨k,d,b,i,n,e,hd,h⟩:=h;exact⟨k,d,b,i,n,e,⟨hd,om⟩,h⟩) ((QhL 6).2 G hg)
theorem QDi:KOk tp 33 (.q (QmS QaO)):=by
 have ht:∀i g,(QkE Qe Qi Qaq Qv).get i=some g→KOk tp i g:=fun _ _ h=>tbg h ⟨⟨QDh,Qa3⟩,⟨Qt4,Qek⟩⟩
 have i_seat_Text_6:LsI tp 33 (Qez fun xs Ks=>∃j,Qdb j xs Ks):=Qae (S:=Qez fun _ _=>False) ht Qz2 (ls:=[]) lsn rfl (q:=fun j=>Qdb j)
  (fun xs Ks h=>by
   obtain⟨k,s,n,b,i,m,_,h1,h2⟩:=h
   omega)
  (fun j xs Ks _ h=>by
   obtain⟨k,s,n,b,i,m,rfl,h1,h2⟩:=h
   exact QzO h1 h2)
 exact kq rfl (q_of ht QDp (ls:=[Qez fun xs Ks=>∃j,Qdb j xs Ks]) (lsc i_seat_Text_6 lsn) rfl fun xs Ks _ h=>by
     obtain⟨k,b,rfl,h1,h2,h3⟩:=h
     exact QC9 (Ks:=nthK Ks) h1 h2 h3)
theorem Qz5:KOk tp 134 (.q (Qjj QD)):=by
 have ht:∀i g,Qng.get i=some g→KOk tp i g:=fun _ _ h=>tbg h trivial
 exact kq rfl (q_of ht QAh (ls:=[]) lsn rfl fun xs Ks _ h=>by
     obtain⟨c,rfl,h1⟩:=h
     exact QzR (Ks:=nthK Ks) h1)
theorem QBP:KOk tp 135 (.q (QkT QE)):=by
 have ht:∀i g,Qof.get i=some g→KOk tp i g:=fun _ _ h=>tbg h trivial
 exact kq rfl (q_of ht QCh (ls:=[]) lsn rfl fun xs Ks _ h=>by
     obtain⟨c,rfl,h1⟩:=h
     exact QBx (Ks:=nthK Ks) h1)
theorem QEZ:KOk tp 136 (.q (Qn8 QV)):=by
 have ht:∀i g,Ql6.get i=some g→KOk tp i g:=fun _ _ h=>tbg h trivial
 have i_ref6_one_2:LsI tp 136 (Qe3 fun xs Ks=>∃j,QdG j xs Ks):=Qae (S:=Qe3 fun _ _=>False) ht QBJ (ls:=[]) lsn rfl (q:=fun j=>QdG j)
  (fun xs Ks h=>by
   obtain⟨s,c,i,_,h1,h2,h3,h4,h5,h6⟩:=h
   first | omega | exact absurd h1.2.2.2 nt | exact absurd h1.1.2.2.2 nt)
  (fun j xs Ks _ h=>by
   obtain⟨_,_,_,rfl,_⟩:=id h
   exact QBw h)
 exact kq rfl (q_of ht QFe (ls:=[Qe3 fun xs Ks=>∃j,QdG j xs Ks]) (lsc i_ref6_one_2 lsn) rfl fun xs Ks _ h=>by
     obtain⟨s,c,rfl,h1,h2⟩:=h
     exact QEK (Ks:=nthK Ks) h1 h2)
theorem QDj:KOk tp 137 (.q (QmT QbE)):=by
 have ht:∀i g,QkF.get i=some g→KOk tp i g:=fun _ _ h=>tbg h trivial
 have i_ref6_word_3:LsI tp 137 (QeA fun xs Ks=>∃j,Qdc j xs Ks):=Qae (S:=QeA fun _ _=>False) ht Qz3 (ls:=[]) lsn rfl (q:=fun j=>Qdc j)
  (fun xs Ks h=>by
   obtain⟨s,l,i,_,h1,h2,h3,h4,h5,h6,h7⟩:=h
   first | omega | exact absurd h1.2.2.2 nt | exact absurd h1.1.2.2.2 nt)
  (fun j xs Ks _ h=>by
   obtain⟨_,_,_,rfl,_⟩:=id h
   exact QzP h)
 exact kq rfl (q_of ht QDr (ls:=[QeA fun xs Ks=>∃j,Qdc j xs Ks]) (lsc i_ref6_word_3 lsn) rfl fun xs Ks _ h=>by
     obtain⟨s,rfl,h1⟩:=h
     exact QDb (Ks:=nthK Ks) h1)
theorem Qqo:KOk tp 90 (.q (Qf7 QK)):=by
 have ht:∀i g,QhI.get i=some g→KOk tp i g:=fun _ _ h=>tbg h trivial
 have i_ref6_number_3:LsI tp 90 (Qdj fun xs Ks=>∃j,Qcw j xs Ks):=Qae (S:=Qdj fun _ _=>False) ht Qw3 (ls:=[]) lsn rfl (q:=fun j=>Qcw j)
  (fun xs Ks h=>by
   obtain⟨s,n,i,_,h1,h2,h3,h4,h5⟩:=h
   first | omega | exact absurd h1.2.2.2 nt | exact absurd h1.1.2.2.2 nt)
  (fun j xs Ks _ h=>by
   obtain⟨_,_,_,rfl,_⟩:=id h
   exact QwL h)
 exact kq rfl (q_of ht QAg (ls:=[Qdj fun xs Ks=>∃j,Qcw j xs Ks]) (lsc i_ref6_number_3 lsn) rfl fun xs Ks _ h=>by
     obtain⟨s,rfl,h1,h2⟩:=h
     exact QzQ (Ks:=nthK Ks) h1 h2)
theorem Qqp:KOk tp 84 (.q (Qf8 Qy)):=by
 have ht:∀i g,(QcT QD QE QV).get i=some g→KOk tp i g:=fun _ _ h=>tbg h ⟨Qz5,⟨QBP,QEZ⟩⟩
 have i_ref6_Tokens_18:LsI tp 84 (Qbu fun xs Ks=>∃j,Qa0 j xs Ks):=Qae (S:=Qbu fun _ _=>False) ht QvI (ls:=[]) lsn rfl (q:=fun j=>Qa0 j)
  (fun xs Ks h=>by
   obtain⟨s,i,w,_,h1,h2⟩:=h
   first | omega | exact absurd h1.2.2.2 nt | exact absurd h1.1.2.2.2 nt)
  (fun j xs Ks _ h=>by
   obtain⟨_,_,_,rfl,_⟩:=id h
   exact Qvt h)
 have i_ref6_Tokens_21:LsI tp 84 (Qbt fun xs Ks=>∃j,QaZ j xs Ks):=Qae (S:=Qbt fun _ _=>False) ht QvH (ls:=[]) lsn rfl (q:=fun j=>QaZ j)
  (fun xs Ks h=>by
   obtain⟨s,i,f,w,_,h1,h2⟩:=h
   first | omega | exact absurd h1.2.2.2 nt | exact absurd h1.1.2.2.2 nt)
  (fun j xs Ks _ h=>by
   obtain⟨_,_,_,_,rfl,_⟩:=id h
   exact Qvs h)
 have i_ref6_Tokens_29:LsI tp 84 (Qbs fun xs Ks=>∃j,QaY j xs Ks):=Qae (S:=Qbs fun _ _=>False) ht QvG (ls:=[]) lsn rfl (q:=fun j=>QaY j)
  (fun xs Ks h=>by
   obtain⟨s,i,c,f,n,g,w,_,h1,h2⟩:=h
   first | omega | exact absurd h1.2.2.2 nt | exact absurd h1.1.2.2.2 nt)
  (fun j xs Ks _ h=>by
   obtain⟨_,_,_,_,_,_,_,rfl,_⟩:=id h
   exact Qvr h)
 have i_ref6_Tokens_5:LsI tp 84 (Qdk fun xs Ks=>∃j,Qaw j xs Ks):=Qae (S:=Qdk fun _ _=>False) ht Qw4 (ls:=[Qbu fun xs Ks=>∃j,Qa0 j xs Ks,Qbt fun xs Ks=>∃j,QaZ j xs Ks,Qbs fun xs Ks=>∃j,QaY j xs Ks]) (lsc i_ref6_Tokens_18 (lsc i_ref6_Tokens_21 (lsc i_ref6_Tokens_29 lsn))) rfl (q:=fun j=>Qaw j)
  (fun xs Ks h=>by
   obtain⟨s,i,w,_,h1,h2,h3⟩:=h
   first | omega | exact absurd h1.2.2.2 nt | exact absurd h1.1.2.2.2 nt)
  (fun j xs Ks _ h=>by
   obtain⟨_,_,_,rfl,_⟩:=id h
   exact QwM h)
 exact kq rfl (q_of ht QAi (ls:=[Qdk fun xs Ks=>∃j,Qaw j xs Ks,Qbu fun xs Ks=>∃j,Qa0 j xs Ks,Qbt fun xs Ks=>∃j,QaZ j xs Ks,Qbs fun xs Ks=>∃j,QaY j xs Ks]) (lsc i_ref6_Tokens_5 (lsc i_ref6_Tokens_18 (lsc i_ref6_Tokens_21 (lsc i_ref6_Tokens_29 lsn)))) rfl fun xs Ks _ h=>by
     obtain⟨s,rfl,hs,h⟩:=h
     exact QzS (Ks:=nthK Ks) h hs)
theorem Qaf:KOk tp 88 (.q (QY Qb)):=by
 have ht:∀i g,QhH.get i=some g→KOk tp i g:=fun _ _ h=>tbg h trivial
 exact kq rfl (q_of ht Qsi (ls:=[]) lsn rfl fun xs Ks _ h=>by
     obtain⟨x,l,i,en,e,ac,d,n,rfl,h1,h2,h3⟩:=h
     exact QrC (Ks:=nthK Ks) h1 h2 h3)
theorem Qbj:KOk tp 92 (.q (QaB Qd)):=by
 have ht:∀i g,QjA.get i=some g→KOk tp i g:=fun _ _ h=>tbg h trivial
 exact kq rfl (q_of ht Qv1 (ls:=[]) lsn rfl fun xs Ks _ h=>by
     obtain⟨t,l,i,en,e,ac,d,n,rfl,h1,h2,h3⟩:=h
     exact Qvq (Ks:=nthK Ks) h1 h2 h3)
theorem Qar:KOk tp 85 (.q (Q4 Qa)):=by
 have ht:∀i g,(QhC Qd).get i=some g→KOk tp i g:=fun _ _ h=>tbg h Qbj
 exact kq rfl (q_of ht Qsc (ls:=[]) lsn rfl fun xs Ks _ h=>by
     obtain⟨t,l,i,en,e,ac,d,n,rfl,h1,h2,h3⟩:=h
     exact Qrw (Ks:=nthK Ks) h1 h2 h3)
theorem Qbi:KOk tp 86 (.q (QaA Qc)):=by
 have ht:∀i g,(QhB Qb Qa).get i=some g→KOk tp i g:=fun _ _ h=>tbg h ⟨Qar,Qaf⟩
 exact kq rfl (q_of ht Qsb (ls:=[]) lsn rfl fun xs Ks _ h=>by
     obtain⟨t,l,i,en,e,ac,d,n,rfl,h1,h2,h3⟩:=h
     exact Qrv (Ks:=nthK Ks) h1 h2 h3)
theorem Qa4:KOk tp 87 (.q (Qao Qf)):=by
 have ht:∀i g,(Qha QbE).get i=some g→KOk tp i g:=fun _ _ h=>tbg h QDj
 exact kq rfl (q_of ht Qra (ls:=[]) lsn rfl fun xs Ks _ h=>by
     obtain⟨l,i,en,e,ac,d,n,rfl,h1,h2,h3⟩:=h
     exact QqY (Ks:=nthK Ks) h1 h2 h3)
theorem QbX:KOk tp 89 (.q (QaJ Qg)):=by
 have ht:∀i g,(QhF Qb Qf).get i=some g→KOk tp i g:=fun _ _ h=>tbg h ⟨Qa4,Qaf⟩
 exact kq rfl (q_of ht Qsg (ls:=[]) lsn rfl fun xs Ks _ h=>by
     obtain⟨l,i,en,e,ac,d,n,rfl,h1,h2,h3⟩:=h
     exact QrA (Ks:=nthK Ks) h1 h2 h3)
theorem Qd0:KOk tp 93 (.q (QbD Qh)):=by
 have ht:∀i g,(QhE Qb).get i=some g→KOk tp i g:=fun _ _ h=>tbg h Qaf
 exact kq rfl (q_of ht Qsf (ls:=[]) lsn rfl fun xs Ks _ h=>by
     obtain⟨l,i,en,e,ac,d,n,rfl,h1,h2,h3⟩:=h
     exact Qrz (Ks:=nthK Ks) h1 h2 h3)
theorem QrS:KOk tp 91 (.q (Qfq Qw)):=by
 have ht:∀i g,(QhG Qb Qf Qg).get i=some g→KOk tp i g:=fun _ _ h=>tbg h ⟨Qa4,⟨Qaf,QbX⟩⟩
 exact kq rfl (q_of ht Qsh (ls:=[]) lsn rfl fun xs Ks _ h=>by
     obtain⟨ptr,most,l,i,en,e,ac,d,n,v,rfl,h1,h2,h3⟩:=h
     exact QrB (Ks:=nthK Ks) h1 h2 h3)
theorem QjD:∀k,(∀G:Gd,G.Q→@QOk _ G tp 233 (Qem (Qts k)))∧(∀G:Gd,G.Q→@QOk _ G tp 204 (Qfp (Qtt k)))∧(∀G:Gd,G.Q→@QOk _ G tp 166 (Qbp (Qeo k)))∧(∀G:Gd,G.Q→@QOk _ G tp 234 (Qd7 (Qoq k)))∧(∀G:Gd,G.Q→@QOk _ G tp 205 (QfX (Qw2 k)))∧(∀G:Gd,G.Q→@QOk _ G tp 167 (QdC (Qor k)))∧(∀G:Gd,G.Q→@QOk _ G tp 169 (QdD (Qos k)))∧(∀G:Gd,G.Q→@QOk _ G tp 168 (QeY (QvF k)))∧(∀G:Gd,G.Q→@QOk _ G tp 94 (Qck (Qmb k)))∧(∀G:Gd,G.Q→@QOk _ G tp 138 (Qfo (qS k)))∧(∀G:Gd,G.Q→@QOk _ G tp 170 (QeX (qV k)))
 | 0=>⟨fun G _ xs Ks _ h=>by
   obtain⟨l,i,en,e,ac,d,n,_,h1,h2,h3⟩:=h
   first | (exfalso;omega) | exact absurd h1.sz nt,
  fun G _ xs Ks _ h=>by
   obtain⟨l,i,en,e,ac,d,n,_,h1,h2,h3⟩:=h
   first | (exfalso;omega) | exact absurd h1.sz nt,
  fun G _ xs Ks _ h=>by
   obtain⟨l,i,en,e,ac,d,n,_,h1,h2,h3⟩:=h
   first | (exfalso;omega) | exact absurd h1.sz nt,
  fun G _ xs Ks _ h=>by
   obtain⟨l,i,en,e,ac,d,n,_,h1,h2,h3⟩:=h
   first | (exfalso;omega) | exact absurd h1.sz nt,
  fun G _ xs Ks _ h=>by
   obtain⟨l,i,en,e,ac,d,n,_,h1,h2,h3⟩:=h
   first | (exfalso;omega) | exact absurd h1.sz nt,
  fun G _ xs Ks _ h=>by
   obtain⟨l,i,en,e,ac,d,n,_,h1,h2,h3⟩:=h
   first | (exfalso;omega) | exact absurd h1.sz nt,
  fun G _ xs Ks _ h=>by
   obtain⟨l,i,en,e,ac,d,n,_,h1,h2,h3⟩:=h
   first | (exfalso;omega) | exact absurd h1.sz nt,
  fun G _ xs Ks _ h=>by
   obtain⟨l,i,en,e,ac,d,n,_,h1,h2,h3⟩:=h
   first | (exfalso;omega) | exact absurd h1.sz nt,
  fun G _ xs Ks _ h=>by
   obtain⟨l,i,en,e,ac,d,n,_,h1,h2,h3⟩:=h
   first | (exfalso;omega) | exact absurd h1.sz nt,
  fun G _ xs Ks _ h=>by
   obtain⟨l,i,en,e,ac,d,n,_,h1,h2,h3⟩:=h
   first | (exfalso;omega) | exact absurd h1.sz nt,
  fun G _ xs Ks _ h=>by
   obtain⟨l,i,en,e,ac,d,n,X,m,_,h1,h2,h3,h4⟩:=h
   first | (exfalso;omega) | exact absurd h1.sz nt⟩
 | k+1=>by
  have ih:=QjD  k
  obtain⟨r_ref6_parser_un,r_ref6_parser_prod,r_ref6_parser_sum,r_ref6_parser_not,r_ref6_parser_and,r_ref6_parser_cond,r_ref6_parser_args,r_ref6_parser_block,r_ref6_parser_stmts,r_ref6_parser_stmt,r_ref6_parser_value⟩:=ih
  refine⟨?_,?_,?_,?_,?_,?_,?_,?_,?_,?_,?_⟩
  ·have ht:∀i g,(Qjz QK Qb Qd Qc Qf Qg Qh (Qts k) (Qeo k)).get i=some g→KOk tp i g:=fun _ _ h=>tbg h ⟨⟨⟨Qbi,Qa4⟩,⟨Qaf,QbX⟩⟩,⟨⟨Qqo,Qbj⟩,⟨Qd0,⟨(kq rfl r_ref6_parser_sum),(kq rfl r_ref6_parser_un)⟩⟩⟩⟩
   exact q_of ht Qv0 (ls:=[]) lsn rfl fun xs Ks _ h=>by
     obtain⟨l,i,en,e,ac,d,n,rfl,h1,h2,h3⟩:=h
     exact Qvp (Ks:=nthK Ks) h1 h2 h3
  ·have ht:∀i g,(QeO Qd (Qts k)).get i=some g→KOk tp i g:=fun _ _ h=>tbg h ⟨Qbj,(kq rfl r_ref6_parser_un)⟩
   have i_ref6_parser_prod_2:LsI tp 204 (Qb5 fun xs Ks=>∃j,qLP WE 2 0 k j xs Ks):=Qae (S:=Qb5 fun _ _=>False) ht QpK (ls:=[]) lsn rfl (q:=fun j=>qLP WE 2 0 k j)
    (fun xs Ks h=>by
    obtain⟨a,l,i,en,e,ac,d,n,o,_,h1,h2,h3,h4,h5⟩:=h
    have:=Qan e;first | omega | exact absurd h1.2.2.2 nt | exact absurd h1.1.2.2.2 nt)
    (fun j xs Ks _ h=>by
    obtain⟨_,_,_,_,_,_,_,_,_,rfl,_⟩:=id h
    exact Qpx h)
   exact q_of ht Qse (ls:=[Qb5 fun xs Ks=>∃j,qLP WE 2 0 k j xs Ks]) (lsc i_ref6_parser_prod_2 lsn) rfl fun xs Ks _ h=>by
     obtain⟨l,i,en,e,ac,d,n,rfl,h1,h2,h3⟩:=h
     exact Qry (Ks:=nthK Ks) h1 h2 h3
  ·have ht:∀i g,(Qfd Qd (Qtt k)).get i=some g→KOk tp i g:=fun _ _ h=>tbg h ⟨Qbj,(kq rfl r_ref6_parser_prod)⟩
   have i_ref6_parser_sum_2:LsI tp 166 (Qcg fun xs Ks=>∃j,qLP WE 2 1 k j xs Ks):=Qae (S:=Qcg fun _ _=>False) ht Qq3 (ls:=[]) lsn rfl (q:=fun j=>qLP WE 2 1 k j)
    (fun xs Ks h=>by
    obtain⟨a,l,i,en,e,ac,d,n,o,_,h1,h2,h3,h4,h5⟩:=h
    have:=Qan e;first | omega | exact absurd h1.2.2.2 nt | exact absurd h1.1.2.2.2 nt)
    (fun j xs Ks _ h=>by
    obtain⟨_,_,_,_,_,_,_,_,_,rfl,_⟩:=id h
    exact QqW h)
   exact q_of ht Quh (ls:=[Qcg fun xs Ks=>∃j,qLP WE 2 1 k j xs Ks]) (lsc i_ref6_parser_sum_2 lsn) rfl fun xs Ks _ h=>by
     obtain⟨l,i,en,e,ac,d,n,rfl,h1,h2,h3⟩:=h
     exact QtR (Ks:=nthK Ks) h1 h2 h3
  ·have ht:∀i g,(Qfe Qb Qd Qa Qc Qf Qh (Qeo k) (Qoq k) (Qor k)).get i=some g→KOk tp i g:=fun _ _ h=>tbg h ⟨⟨⟨Qar,Qbi⟩,⟨Qa4,Qaf⟩⟩,⟨⟨Qbj,Qd0⟩,⟨(kq rfl r_ref6_parser_sum),⟨(kq rfl r_ref6_parser_cond),(kq rfl r_ref6_parser_not)⟩⟩⟩⟩
   have i_ref6_parser_not_25:LsI tp 234 (Qb6 fun xs Ks=>∃j,qLN k j xs Ks):=Qae (S:=Qb6 fun _ _=>False) ht QpL (ls:=[]) lsn rfl (q:=fun j=>qLN k j)
    (fun xs Ks h=>by
    obtain⟨a,o,kk,l,i,en,e,ac,d,n,z,_,h1,h2,h3,h4,h5,h6,h7,h8,h9⟩:=h
    have:=Qan e;first | omega | exact absurd h1.2.2.2 nt | exact absurd h1.1.2.2.2 nt)
    (fun j xs Ks _ h=>by
    obtain⟨_,_,_,_,_,_,_,_,_,_,_,rfl,_⟩:=id h
    exact Qpy h)
   exact q_of ht Qui (ls:=[Qb6 fun xs Ks=>∃j,qLN k j xs Ks]) (lsc i_ref6_parser_not_25 lsn) rfl fun xs Ks _ h=>by
     obtain⟨l,i,en,e,ac,d,n,rfl,h1,h2,h3⟩:=h
     exact QtS (Ks:=nthK Ks) h1 h2 h3
  ·have ht:∀i g,(Qff Qa (Qoq k)).get i=some g→KOk tp i g:=fun _ _ h=>tbg h ⟨Qar,(kq rfl r_ref6_parser_not)⟩
   have i_ref6_parser_and_2:LsI tp 205 (Qch fun xs Ks=>∃j,qLP WC 1 3 k j xs Ks):=Qae (S:=Qch fun _ _=>False) ht Qq4 (ls:=[]) lsn rfl (q:=fun j=>qLP WC 1 3 k j)
    (fun xs Ks h=>by
    obtain⟨a,l,i,en,e,ac,d,n,o,_,h1,h2,h3,h4,h5⟩:=h
    have:=Qan e;first | omega | exact absurd h1.2.2.2 nt | exact absurd h1.1.2.2.2 nt)
    (fun j xs Ks _ h=>by
    obtain⟨_,_,_,_,_,_,_,_,_,rfl,_⟩:=id h
    exact Qq0 h)
   exact q_of ht Quj (ls:=[Qch fun xs Ks=>∃j,qLP WC 1 3 k j xs Ks]) (lsc i_ref6_parser_and_2 lsn) rfl fun xs Ks _ h=>by
     obtain⟨l,i,en,e,ac,d,n,rfl,h1,h2,h3⟩:=h
     exact QtT (Ks:=nthK Ks) h1 h2 h3
  ·have ht:∀i g,(QeP Qa (Qw2 k)).get i=some g→KOk tp i g:=fun _ _ h=>tbg h ⟨Qar,(kq rfl r_ref6_parser_and)⟩
   have i_ref6_parser_cond_2:LsI tp 167 (Qb7 fun xs Ks=>∃j,qLP WC 1 4 k j xs Ks):=Qae (S:=Qb7 fun _ _=>False) ht QpM (ls:=[]) lsn rfl (q:=fun j=>qLP WC 1 4 k j)
    (fun xs Ks h=>by
    obtain⟨a,l,i,en,e,ac,d,n,o,_,h1,h2,h3,h4,h5⟩:=h
    have:=Qan e;first | omega | exact absurd h1.2.2.2 nt | exact absurd h1.1.2.2.2 nt)
    (fun j xs Ks _ h=>by
    obtain⟨_,_,_,_,_,_,_,_,_,rfl,_⟩:=id h
    exact Qpz h)
   exact q_of ht Qsj (ls:=[Qb7 fun xs Ks=>∃j,qLP WC 1 4 k j xs Ks]) (lsc i_ref6_parser_cond_2 lsn) rfl fun xs Ks _ h=>by
     obtain⟨l,i,en,e,ac,d,n,rfl,h1,h2,h3⟩:=h
     exact QrD (Ks:=nthK Ks) h1 h2 h3
  ·have ht:∀i g,(QeQ Qa Qc (Qeo k)).get i=some g→KOk tp i g:=fun _ _ h=>tbg h ⟨Qar,⟨Qbi,(kq rfl r_ref6_parser_sum)⟩⟩
   have i_ref6_parser_args_4:LsI tp 169 (Qb8 fun xs Ks=>∃j,qLA k j xs Ks):=Qae (S:=Qb8 fun _ _=>False) ht QpN (ls:=[]) lsn rfl (q:=fun j=>qLA k j)
    (fun xs Ks h=>by
    obtain⟨l,i,en,e,ac,d,n,w,o,_,h1,h2,h3,h4,h5,h6,h7⟩:=h
    have:=Qan e;first | omega | exact absurd h1.2.2.2 nt | exact absurd h1.1.2.2.2 nt)
    (fun j xs Ks _ h=>by
    obtain⟨_,_,_,_,_,_,_,_,_,rfl,_⟩:=id h
    exact QpA h)
   exact q_of ht Qsk (ls:=[Qb8 fun xs Ks=>∃j,qLA k j xs Ks]) (lsc i_ref6_parser_args_4 lsn) rfl fun xs Ks _ h=>by
     obtain⟨l,i,en,e,ac,d,n,rfl,h1,h2,h3⟩:=h
     exact QrE (Ks:=nthK Ks) h1 h2 h3
  ·have ht:∀i g,(Qhb Qb Qd Qh (Qmb k)).get i=some g→KOk tp i g:=fun _ _ h=>tbg h ⟨⟨Qaf,Qbj⟩,⟨Qd0,(kq rfl r_ref6_parser_stmts)⟩⟩
   exact q_of ht Qrb (ls:=[]) lsn rfl fun xs Ks _ h=>by
     obtain⟨l,i,en,e,ac,d,n,rfl,h1,h2,h3⟩:=h
     exact QqZ (Ks:=nthK Ks) h1 h2 h3
  ·have ht:∀i g,(Qen Qb Qa (qS k)).get i=some g→KOk tp i g:=fun _ _ h=>tbg h ⟨Qar,⟨Qaf,(kq rfl r_ref6_parser_stmt)⟩⟩
   have i_ref6_parser_stmts_2:LsI tp 94 (QbF fun xs Ks=>∃j,qLS k j xs Ks):=Qae (S:=QbF fun _ _=>False) ht QoD (ls:=[]) lsn rfl (q:=fun j=>qLS k j)
    (fun xs Ks h=>by
    obtain⟨l,i,en,e,ac,d,n,w,o,_,h1,h2,h3,h4,h5,h6,h7⟩:=h
    have:=Qan e;first | omega | exact absurd h1.2.2.2 nt | exact absurd h1.1.2.2.2 nt)
    (fun j xs Ks _ h=>by
    obtain⟨_,_,_,_,_,_,_,_,_,rfl,_⟩:=id h
    exact Qoh h)
   exact q_of ht Qq9 (ls:=[QbF fun xs Ks=>∃j,qLS k j xs Ks]) (lsc i_ref6_parser_stmts_2 lsn) rfl fun xs Ks _ h=>by
     obtain⟨l,i,en,e,ac,d,n,rfl,h1,h2,h3⟩:=h
     exact QqX (Ks:=nthK Ks) h1 h2 h3
  ·have ht:∀i g,(QhD Qb Qd Qa Qc Qf Qg (Qeo k) (Qor k) (Qos k) (QvF k) (qV k)).get i=some g→KOk tp i g:=fun _ _ h=>tbg h ⟨⟨⟨Qar,Qbi⟩,⟨Qa4,⟨Qaf,QbX⟩⟩⟩,⟨⟨Qbj,⟨(kq rfl r_ref6_parser_sum),(kq rfl r_ref6_parser_cond)⟩⟩,⟨(kq rfl r_ref6_parser_block),⟨(kq rfl r_ref6_parser_args),(kq rfl r_ref6_parser_value)⟩⟩⟩⟩
   exact q_of ht Qsd (ls:=[]) lsn rfl fun xs Ks _ h=>by
     obtain⟨l,i,en,e,ac,d,n,rfl,h1,h2,h3⟩:=h
     exact Qrx (Ks:=nthK Ks) h1 h2 h3
  ·have ht:∀i g,(Qg9 Qa Qc Qf Qg (Qeo k) (Qos k)).get i=some g→KOk tp i g:=fun _ _ h=>tbg h ⟨⟨Qar,⟨Qbi,Qa4⟩⟩,⟨QbX,⟨(kq rfl r_ref6_parser_sum),(kq rfl r_ref6_parser_args)⟩⟩⟩
   exact q_of ht Qq8 (ls:=[]) lsn rfl fun xs Ks _ h=>by
     obtain⟨l,i,en,e,ac,d,n,X,m,rfl,h1,h2,h3,h4⟩:=h
     exact QqV (Ks:=nthK Ks) h1 h2 h3 h4
theorem Qq6:KOk tp 94 (.q (Qck Qq)):=kq rfl fun G hg=>Qnr (q:=fun k=>Qmb k) fun k=>(QjD k).2.2.2.2.2.2.2.2.1 G hg
theorem QDk:KOk tp 37 (.q (QmU Qac)):=by
 have ht:∀i g,(QgH Qy Qb Qd Qa Qc Qg Qh Qq Qw).get i=some g→KOk tp i g:=fun _ _ h=>tbg h ⟨⟨⟨Qqp,Qar⟩,⟨Qbi,Qaf⟩⟩,⟨⟨QbX,QrS⟩,⟨Qbj,⟨Qd0,Qq6⟩⟩⟩⟩
 have i_ref6_Func_10:LsI tp 37 (Qd3 fun xs Ks=>∃j,qF10 j xs Ks):=Qae (S:=Qd3 fun _ _=>False) ht Qyx (ls:=[]) lsn rfl (q:=fun j=>qF10 j)
  (fun xs Ks h=>by
   obtain⟨l,i,en,e,ac,d,n,f,bo,pa,lo,_,h1,h2,h3,h4,h5⟩:=h
   have:=Qan e;first | omega | exact absurd h1.2.2.2 nt | exact absurd h1.1.2.2.2 nt)
  (fun j xs Ks _ h=>by
   obtain⟨_,_,_,_,_,_,_,_,_,_,_,rfl,_⟩:=id h
   exact Qyk h)
 have i_ref6_Func_17:LsI tp 37 (Qd2 fun xs Ks=>∃j,qF17 j xs Ks):=Qae (S:=Qd2 fun _ _=>False) ht Qyw (ls:=[]) lsn rfl (q:=fun j=>qF17 j)
  (fun xs Ks h=>by
   obtain⟨l,i,en,e,ac,d,n,f,bo,pa,lo,_,h1,h2,h3,h4,h5⟩:=h
   have:=Qan e;first | omega | exact absurd h1.2.2.2 nt | exact absurd h1.1.2.2.2 nt)
  (fun j xs Ks _ h=>by
   obtain⟨_,_,_,_,_,_,_,_,_,_,_,rfl,_⟩:=id h
   exact Qyj h)
 exact kq rfl (q_of ht QDs (ls:=[Qd3 fun xs Ks=>∃j,qF10 j xs Ks,Qd2 fun xs Ks=>∃j,qF17 j xs Ks]) (lsc i_ref6_Func_10 (lsc i_ref6_Func_17 lsn)) rfl fun xs Ks _ h=>by
     obtain⟨s,rfl,h1,h2,h3⟩:=h
     exact QDc (Ks:=nthK Ks) h1 h2 h3)
theorem QyF:KOk tp 35 (.q (Qig QW)):=by
 have ht:∀i g,(QgO QK Qy Qb Qa Qc Qf Qg).get i=some g→KOk tp i g:=fun _ _ h=>tbg h ⟨⟨Qqp,⟨Qar,Qbi⟩⟩,⟨⟨Qa4,Qaf⟩,⟨QbX,Qqo⟩⟩⟩
 have i_ref6_Globals_6:LsI tp 35 (QcY fun xs Ks=>∃j,qG6 j xs Ks):=Qae (S:=QcY fun _ _=>False) ht QvJ (ls:=[]) lsn rfl (q:=fun j=>qG6 j)
  (fun xs Ks h=>by
   obtain⟨l,i,en,e,ac,d,n,ce,ar,_,h1,h2,h3,h4,h5⟩:=h
   have:=Qan e;first | omega | exact absurd h1.2.2.2 nt | exact absurd h1.1.2.2.2 nt)
  (fun j xs Ks _ h=>by
   obtain⟨_,_,_,_,_,_,_,_,_,rfl,_⟩:=id h
   exact Qvu h)
 exact kq rfl (q_of ht QyO (ls:=[QcY fun xs Ks=>∃j,qG6 j xs Ks]) (lsc i_ref6_Globals_6 lsn) rfl fun xs Ks _ h=>by
     obtain⟨s,rfl,h1,h2,h3⟩:=h
     exact Qyi (Ks:=nthK Ks) h1 h2 h3)
theorem QfC:KOk tp 165 (.q (QcX Ql)):=by
 have ht:∀i g,Qi9.get i=some g→KOk tp i g:=fun _ _ h=>tbg h trivial
 have i_ref10_kind_3:LsI tp 165 (Qd4 fun xs Ks=>∃j,QcV j xs Ks):=Qae (S:=Qd4 fun _ _=>False) ht Qyy (ls:=[]) lsn rfl (q:=fun j=>QcV j)
  (fun xs Ks h=>by
   obtain⟨s,l,i,_,h1,h2,h3,h4,h5,h6⟩:=h
   omega)
  (fun j xs Ks _ h=>by
   obtain⟨_,_,_,rfl,_⟩:=id h
   exact Qyl h)
 exact kq rfl (q_of ht QCj (ls:=[Qd4 fun xs Ks=>∃j,QcV j xs Ks]) (lsc i_ref10_kind_3 lsn) rfl fun xs Ks _ h=>by
     obtain⟨fn,fp,fl,fb,s,rfl,h1,h2⟩:=h
     exact QBz (Ks:=nthK Ks) h1 h2)
theorem Qxi:KOk tp 171 (.q (Qg5 QT)):=by
 have ht:∀i g,(QkV Ql).get i=some g→KOk tp i g:=fun _ _ h=>tbg h QfC
 exact kq rfl (q_of ht Qxz (ls:=[]) lsn rfl fun xs Ks _ h=>by
     obtain⟨fn,fp,fl,fb,e,rfl,h1,h2,h3⟩:=h
     exact QwQ (Ks:=nthK Ks) h1 h2 h3)
theorem Qop:∀k,(∀G:Gd,G.Q→@QOk _ G tp 172 (QdL (QdH k)))
 | 0=>fun G _ xs Ks _ h=>by
   obtain⟨fn,fp,fl,fb,e,_,h1,h2,h3,h4⟩:=h
   first | (exfalso;omega) | exact absurd h1.sz nt
 | k+1=>by
  have ih:=Qop  k
  have r_ref10_ints:=ih
  have ht:∀i g,(Qog Ql (QdH k)).get i=some g→KOk tp i g:=fun _ _ h=>tbg h ⟨QfC,(kq rfl r_ref10_ints)⟩
  exact q_of ht QCk (ls:=[]) lsn rfl fun xs Ks _ h=>by
     obtain⟨fn,fp,fl,fb,e,rfl,h1,h2,h3,h4⟩:=h
     exact QBA (Ks:=nthK Ks) h1 h2 h3 h4
theorem QrU:KOk tp 172 (.q (QdL Qu)):=kq rfl fun G hg=>Qnr (q:=fun k=>QdH k) fun k=>(Qop k) G hg
theorem Qnq:∀k,(∀G:Gd,G.Q→@QOk _ G tp 173 (QeH (Qdd k)))
 | 0=>fun G _ xs Ks _ h=>by
   obtain⟨fn,fp,fl,fb,e,_,h1,h2,h3,h4⟩:=h
   first | (exfalso;omega) | exact absurd h1.sz nt
 | k+1=>by
  have ih:=Qnq  k
  have r_ref10_conds:=ih
  have ht:∀i g,(Qnh Ql Qu (Qdd k)).get i=some g→KOk tp i g:=fun _ _ h=>tbg h ⟨QfC,⟨QrU,(kq rfl r_ref10_conds)⟩⟩
  exact q_of ht QAk (ls:=[]) lsn rfl fun xs Ks _ h=>by
     obtain⟨fn,fp,fl,fb,e,rfl,h1,h2,h3,h4⟩:=h
     exact QzU (Ks:=nthK Ks) h1 h2 h3 h4
theorem Qz7:KOk tp 173 (.q (QeH QL)):=kq rfl fun G hg=>Qnr (q:=fun k=>Qdd k) fun k=>(Qnq k) G hg
theorem QBQ:KOk tp 139 (.q (QkU Qak)):=by
 have ht:∀i g,(Qi8 Ql QT Qu QL).get i=some g→KOk tp i g:=fun _ _ h=>tbg h ⟨⟨QfC,Qxi⟩,⟨QrU,Qz7⟩⟩
 have i_ref10_stmt_29:LsI tp 139 (Qdm fun xs Ks=>∃j,QaU j xs Ks):=Qae (S:=Qdm fun _ _=>False) ht Qw6 (ls:=[]) lsn rfl (q:=fun j=>QaU j)
  (fun xs Ks h=>by
   obtain⟨ok,i,fn,fp,fl,fb,k,X,Y,E,F,C,ar,th,el,n,z0,z1,z2,z3,z4,z5,z6,z7,z8,z9,w,_,h1,h2,h3,h4,h5,h6,h7⟩:=h
   omega)
  (fun j xs Ks _ h=>by
   obtain⟨_,_,_,_,_,_,_,_,_,_,_,_,_,_,_,_,_,_,_,_,_,_,_,_,_,_,_,rfl,_⟩:=id h
   exact QwP h)
 exact kq rfl (q_of ht QCi (ls:=[Qdm fun xs Ks=>∃j,QaU j xs Ks]) (lsc i_ref10_stmt_29 lsn) rfl fun xs Ks _ h=>by
     obtain⟨fn,fp,fl,fb,k,X,Y,E,F,C,ar,th,el,n,rfl,h1,h2,h3,h4⟩:=h
     exact QBy (Ks:=nthK Ks) h1 h2 h3 h4)
theorem Qnp:∀k,(∀G:Gd,G.Q→@QOk _ G tp 95 (QeG (QcA k)))
 | 0=>fun G _ xs Ks _ h=>by
   obtain⟨fn,fp,fl,fb,l,_,h1,h2,h3,h4,h5⟩:=h
   first | (exfalso;omega) | exact absurd h1.sz nt
 | k+1=>by
  have ih:=Qnp  k
  have r_ref10_stmts:=ih
  have ht:∀i g,(QhJ Qak (QcA k)).get i=some g→KOk tp i g:=fun _ _ h=>tbg h ⟨(kq rfl r_ref10_stmts),QBQ⟩
  have i_ref10_stmts_3:LsI tp 95 (Qdl fun xs Ks=>∃j,Qcx k j xs Ks):=Qae (S:=Qdl fun _ _=>False) ht Qw5 (ls:=[]) lsn rfl (q:=fun j=>Qcx k j)
   (fun xs Ks h=>by
    obtain⟨l,i,fn,fp,fl,fb,w,_,h1,h2,h3,h4,h5,h6,h7,h8,h9,h10,h11,h12⟩:=h
    omega)
   (fun j xs Ks _ h=>by
    obtain⟨_,_,_,_,_,_,_,rfl,_⟩:=id h
    exact QwO h)
  exact q_of ht QAj (ls:=[Qdl fun xs Ks=>∃j,Qcx k j xs Ks]) (lsc i_ref10_stmts_3 lsn) rfl fun xs Ks _ h=>by
     obtain⟨fn,fp,fl,fb,l,rfl,h1,h2,h3,h4,h5⟩:=h
     exact QzT (Ks:=nthK Ks) h1 h2 h3 h4 h5
theorem Qz6:KOk tp 95 (.q (QeG Qz)):=kq rfl fun G hg=>Qnr (q:=fun k=>QcA k) fun k=>(Qnp k) G hg
theorem Qxj:KOk tp 38 (.q (Qg6 QQ)):=by
 have ht:∀i g,(Qei Qz).get i=some g→KOk tp i g:=fun _ _ h=>tbg h Qz6
 have i_ref10_Resolve_8:LsI tp 38 (Qbl fun xs Ks=>∃j,Qbe j xs Ks):=Qae (S:=Qbl fun _ _=>False) ht Qt2 (ls:=[]) lsn rfl (q:=fun j=>Qbe j)
  (fun xs Ks h=>by
   obtain⟨l,i,k,fn,fp,fl,fb,z0,z1,z2,z3,_,h1,h2,h3,h4,h5,h6,h7⟩:=h
   omega)
  (fun j xs Ks _ h=>by
   obtain⟨_,_,_,_,_,_,_,_,_,_,_,rfl,_⟩:=id h
   exact QtY h)
 have i_ref10_Resolve_5:LsI tp 38 (QcM fun xs Ks=>∃j,Qbf j xs Ks):=Qae (S:=QcM fun _ _=>False) ht Qt3 (ls:=[Qbl fun xs Ks=>∃j,Qbe j xs Ks]) (lsc i_ref10_Resolve_8 lsn) rfl (q:=fun j=>Qbf j)
  (fun xs Ks h=>by
   obtain⟨l,i,fn,fp,fl,fb,z0,z1,z2,z3,_,h1,h2,h3,h4,h5,h6,h7⟩:=h
   omega)
  (fun j xs Ks _ h=>by
   obtain⟨_,_,_,_,_,_,_,_,_,_,rfl,_⟩:=id h
   exact QtZ h)
 exact kq rfl (q_of ht QxA (ls:=[QcM fun xs Ks=>∃j,Qbf j xs Ks,Qbl fun xs Ks=>∃j,Qbe j xs Ks]) (lsc i_ref10_Resolve_5 (lsc i_ref10_Resolve_8 lsn)) rfl fun xs Ks _ h=>by
     obtain⟨fn,fp,fl,fb,u,rfl,h1,h2,h3,h4,h5⟩:=h
     exact QwR (Ks:=nthK Ks) h1 h2 h3 h4 h5)
theorem Qu3:KOk tp 49 (.q (Qih QH)):=by
 have ht:∀i g,QkG.get i=some g→KOk tp i g:=fun _ _ h=>tbg h trivial
 have i_ref10_Add_2:LsI tp 49 (QeB fun xs Ks=>∃j,Qcz j xs Ks):=Qae (S:=QeB fun _ _=>False) ht Qz4 (ls:=[]) lsn rfl (q:=fun j=>Qcz j)
  (fun xs Ks h=>by
   obtain⟨l,s,i,_,h1,h2,h3,h4,h5⟩:=h
   omega)
  (fun j xs Ks _ h=>by
   obtain⟨_,_,_,rfl,_⟩:=id h
   exact QzY h)
 exact kq rfl (q_of ht QDt (ls:=[QeB fun xs Ks=>∃j,Qcz j xs Ks]) (lsc i_ref10_Add_2 lsn) rfl fun xs Ks _ h=>by
     obtain⟨l,s,rfl,h1,h2⟩:=h
     exact QDd (Ks:=nthK Ks) h1 h2)
theorem QU7:KOk tp 48 (.q (QPR QLP)):=by
 have ht:∀i g,QPc.get i=some g→KOk tp i g:=fun _ _ h=>tbg h trivial
 have i_ref10_Has_2:LsI tp 48 (QM7 fun xs Ks=>∃j,QMF j xs Ks):=Qae (S:=QM7 fun _ _=>False) ht QUj (ls:=[]) lsn rfl (q:=fun j=>QMF j)
  (fun xs Ks h=>by
   obtain⟨l,s,i,_,h1,h2,h3,h4,h5,h6⟩:=h
   omega)
  (fun j xs Ks _ h=>by
   obtain⟨_,_,_,rfl,_⟩:=id h
   exact QUg h)
 exact kq rfl (q_of ht QVd (ls:=[QM7 fun xs Ks=>∃j,QMF j xs Ks]) (lsc i_ref10_Has_2 lsn) rfl fun xs Ks _ h=>by
     obtain⟨l,s,rfl,h1,h2⟩:=h
     exact QU0 (Ks:=nthK Ks) h1 h2)
theorem Qk5:KOk tp 125 (.q (Qd8 Qo)):=by
 have ht:∀i g,(Qiy Ql QH).get i=some g→KOk tp i g:=fun _ _ h=>tbg h ⟨Qu3,QfC⟩
 exact kq rfl (q_of ht Quk (ls:=[]) lsn rfl fun xs Ks _ h=>by
     obtain⟨s,fn,fp,fl,fb,uc,ua,uk,rfl,h1,h2,h3⟩:=h
     exact QtV (Ks:=nthK Ks) h1 h2 h3)
theorem QiC:∀k,(∀G:Gd,G.Q→@QOk _ G tp 126 (Qcc (Qja k)))
 | 0=>fun G _ xs Ks _ h=>by
   obtain⟨e,fn,fp,fl,fb,uc,ua,uk,_,h1,h2,h3,h4,h5⟩:=h
   first | (exfalso;omega) | exact absurd h1.sz nt
 | k+1=>by
  have ih:=QiC  k
  have r_ref10_used_expr:=ih
  have ht:∀i g,(Qiz Qo (Qja k)).get i=some g→KOk tp i g:=fun _ _ h=>tbg h ⟨Qk5,(kq rfl r_ref10_used_expr)⟩
  exact q_of ht Qul (ls:=[]) lsn rfl fun xs Ks _ h=>by
     obtain⟨e,fn,fp,fl,fb,uc,ua,uk,rfl,h1,h2,h3,h4,h5⟩:=h
     exact QtW (Ks:=nthK Ks) h1 h2 h3 h4 h5
theorem Qk6:KOk tp 126 (.q (Qcc Qk)):=kq rfl fun G hg=>Qnr (q:=fun k=>Qja k) fun k=>(QiC k) G hg
theorem QiD:∀k,(∀G:Gd,G.Q→@QOk _ G tp 127 (QcS (Qjb k)))
 | 0=>fun G _ xs Ks _ h=>by
   obtain⟨e,fn,fp,fl,fb,uc,ua,uk,_,h1,h2,h3,h4,h5⟩:=h
   first | (exfalso;omega) | exact absurd h1.sz nt
 | k+1=>by
  have ih:=QiD  k
  have r_ref10_used_cond:=ih
  have ht:∀i g,(QiA Qk (Qjb k)).get i=some g→KOk tp i g:=fun _ _ h=>tbg h ⟨Qk6,(kq rfl r_ref10_used_cond)⟩
  exact q_of ht Qum (ls:=[]) lsn rfl fun xs Ks _ h=>by
     obtain⟨e,fn,fp,fl,fb,uc,ua,uk,rfl,h1,h2,h3,h4,h5⟩:=h
     exact QtX (Ks:=nthK Ks) h1 h2 h3 h4 h5
theorem Qt7:KOk tp 127 (.q (QcS Qr)):=kq rfl fun G hg=>Qnr (q:=fun k=>Qjb k) fun k=>(QiD k) G hg
theorem QhM:∀k,(∀G:Gd,G.Q→@QOk _ G tp 79 (Qcv (QdS k)))
 | 0=>fun G _ xs Ks _ h=>by
   obtain⟨l,fn,fp,fl,fb,uc,ua,uk,_,h1,h2,h3,h4,h5,h6⟩:=h
   first | (exfalso;omega) | exact absurd h1.sz nt
 | k+1=>by
  have ih:=QhM  k
  have r_ref10_used_stmts:=ih
  have ht:∀i g,(Qc0 QH Qo Qk Qr (QdS k)).get i=some g→KOk tp i g:=fun _ _ h=>tbg h ⟨⟨Qu3,(kq rfl r_ref10_used_stmts)⟩,⟨Qk5,⟨Qk6,Qt7⟩⟩⟩
  have i_ref10_used_stmts_19:LsI tp 79 (QaG fun xs Ks=>∃j,QeS j xs Ks):=Qae (S:=QaG fun _ _=>False) ht QoE (ls:=[]) lsn rfl (q:=fun j=>QeS j)
   (fun xs Ks h=>by
    obtain⟨l,i,k,fn,fp,fl,fb,uc,ua,uk,s0,s1,s2,s3,s4,s5,s6,s7,s8,s9,_,h1,h2,h3,h4,h5,h6,h7,h8⟩:=h
    omega)
   (fun j xs Ks _ h=>by
    obtain⟨_,_,_,_,_,_,_,_,_,_,_,_,_,_,_,_,_,_,_,_,rfl,_⟩:=id h
    exact Qoi h)
  have i_ref10_used_stmts_1:LsI tp 79 (Qb9 fun xs Ks=>∃j,QeK k j xs Ks):=Qae (S:=Qb9 fun _ _=>False) ht QpO (ls:=[QaG fun xs Ks=>∃j,QeS j xs Ks]) (lsc i_ref10_used_stmts_19 lsn) rfl (q:=fun j=>QeK k j)
   (fun xs Ks h=>by
    obtain⟨l,i,fn,fp,fl,fb,uc,ua,uk,_,h1,h2,h3,h4,h5,h6,h7,h8,h9⟩:=h
    omega)
   (fun j xs Ks _ h=>by
    obtain⟨_,_,_,_,_,_,_,_,_,rfl,_⟩:=id h
    exact QpB h)
  exact q_of ht Qsl (ls:=[Qb9 fun xs Ks=>∃j,QeK k j xs Ks,QaG fun xs Ks=>∃j,QeS j xs Ks]) (lsc i_ref10_used_stmts_1 (lsc i_ref10_used_stmts_19 lsn)) rfl fun xs Ks _ h=>by
     obtain⟨l,fn,fp,fl,fb,uc,ua,uk,rfl,h1,h2,h3,h4,h5,h6⟩:=h
     exact QrG (Ks:=nthK Ks) h1 h2 h3 h4 h5 h6
theorem QrT:KOk tp 79 (.q (Qcv Qp)):=kq rfl fun G hg=>Qnr (q:=fun k=>QdS k) fun k=>(QhM k) G hg
theorem Qz8:KOk tp 32 (.q (Qjk QN)):=by
 have ht:∀i g,(Qni Qp).get i=some g→KOk tp i g:=fun _ _ h=>tbg h QrT
 exact kq rfl (q_of ht QAl (ls:=[]) lsn rfl fun xs Ks _ h=>by
     obtain⟨fn,fp,fl,fb,rfl,h1,h2,h3,h4,h5⟩:=h
     exact QzV (Ks:=nthK Ks) h1 h2 h3 h4 h5)
theorem QAa:KOk tp 36 (.q (Qjm QZ)):=by
 have ht:∀i g,QdO.get i=some g→KOk tp i g:=fun _ _ h=>tbg h trivial
 have i_ref10_Check_3:LsI tp 36 (Qdq fun xs Ks=>∃j,Qcy j xs Ks):=Qae (S:=Qdq fun _ _=>False) ht Qxa (ls:=[]) lsn rfl (q:=fun j=>Qcy j)
  (fun xs Ks h=>by
   obtain⟨i,ce,ar,w,_,h1,h2,h3,h4,h5,h6⟩:=h
   omega)
  (fun j xs Ks _ h=>by
   obtain⟨_,_,_,_,rfl,_⟩:=id h
   exact QwV h)
 have i_ref10_Check_10:LsI tp 36 (Qbw fun xs Ks=>∃j,Qbr j xs Ks):=Qae (S:=Qbw fun _ _=>False) ht QvL (ls:=[]) lsn rfl (q:=fun j=>Qbr j)
  (fun xs Ks h=>by
   obtain⟨l,i,k,_,h1,h2,h3,h4,h5,h6,h7⟩:=h
   omega)
  (fun j xs Ks _ h=>by
   obtain⟨_,_,_,rfl,_⟩:=id h
   exact Qvw h)
 have i_ref10_Check_7:LsI tp 36 (Qdp fun xs Ks=>∃j,QbN j xs Ks):=Qae (S:=Qdp fun _ _=>False) ht Qw9 (ls:=[Qbw fun xs Ks=>∃j,Qbr j xs Ks]) (lsc i_ref10_Check_10 lsn) rfl (q:=fun j=>QbN j)
  (fun xs Ks h=>by
   obtain⟨l,i,_,h1,h2,h3,h4,h5,h6⟩:=h
   omega)
  (fun j xs Ks _ h=>by
   obtain⟨_,_,rfl,_⟩:=id h
   exact QwU h)
 exact kq rfl (q_of ht QAn (ls:=[Qdq fun xs Ks=>∃j,Qcy j xs Ks,Qdp fun xs Ks=>∃j,QbN j xs Ks,Qbw fun xs Ks=>∃j,Qbr j xs Ks]) (lsc i_ref10_Check_3 (lsc i_ref10_Check_7 (lsc i_ref10_Check_10 lsn))) rfl fun xs Ks _ h=>by
     obtain⟨ce,ar,rfl,h1,h2,h3⟩:=h
     exact QzX (Ks:=nthK Ks) h1 h2 h3)
end Go.Proofs.YtmdppkbekmpopaaGreat
