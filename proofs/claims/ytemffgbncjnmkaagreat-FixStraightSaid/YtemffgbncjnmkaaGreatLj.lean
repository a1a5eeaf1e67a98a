import Derived.Test.YtemffgbncjnmkaaGreatXs5
set_option linter.unusedVariables false
set_option linter.unusedSimpArgs false
set_option maxRecDepth 100000
set_option maxHeartbeats 4000000
noncomputable section
namespace Go.Proofs.YtemffgbncjnmkaaGreat
open Go Go.Sh Go.Va
theorem Q9T:KOk Tryz.prog 73 (.q (Q34 QMN)):=kq rfl fun _ _ _ _ _ h=>h.elim
theorem QUZ:∀i g,(QQH QLF QML QMN QLE).get i=some g→KOk Tryz.prog i g:=fun _ _ h=>tbg h ⟨⟨QZk,Q1d⟩,⟨Q9T,Qabi⟩⟩
theorem Q1C:LsI Tryz.prog 42 (QNv fun xs Ks=>∃j,QM7 j xs Ks):=Qae (S:=QNv fun _ _=>False) QUZ Q1b (ls:=[]) lsn rfl (q:=fun j=>QM7 j)
 (fun xs Ks h=>by
   obtain⟨N,nd,tr,g,i,o,x,k,m,vi,vw,vc,_,h1,h2,h3⟩:=h
   rcases h3 with⟨_,h,_⟩ | ⟨h,_⟩<;>omega)
 (fun j xs Ks _ h=>by
   obtain⟨_,_,_,_,_,_,_,_,_,_,_,_,rfl,_⟩:=id h
   exact Q06 h)
theorem Q3D:KOk Tryz.prog 42 (.q (QRi QLI)):=kq rfl (q_of QUZ QWa (ls:=[QNv fun xs Ks=>∃j,QM7 j xs Ks]) (lsc Q1C lsn) rfl fun xs Ks _ h=>by
     obtain⟨N,nd,tr,i,g,m,vi,vw,vc,rfl,h1,h2,h3,h4⟩:=h
     exact Q3a (Ks:=nthK Ks) h1 h2 h3 h4)
theorem QTu:∀i g,(QQh QLI).get i=some g→KOk Tryz.prog i g:=fun _ _ h=>tbg h (Q3D)
theorem QXc:LsI Tryz.prog 21 (QNb fun xs Ks=>∃j,QMU j xs Ks):=Qae (S:=QNb fun _ _=>False) QTu Q4y (ls:=[]) lsn rfl (q:=fun j=>QMU j)
 (fun xs Ks h=>by
   obtain⟨N,nd,tr,a,g,i,s,m,vi,vw,vc,_,h1,h2,h3,h4,h5⟩:=h
   first | omega | exact absurd h1.2.2.2 (Nat.not_lt_zero _) | exact absurd h1.1.2.2.2 (Nat.not_lt_zero _))
 (fun j xs Ks _ h=>by
   obtain⟨_,_,_,_,_,_,_,_,_,_,_,rfl,_⟩:=id h
   exact Q4t h)
theorem Q4O:LsI Tryz.prog 21 (QOg fun xs Ks=>∃j,QNs j xs Ks):=Qae (S:=QOg fun _ _=>False) QTu Q4z (ls:=[QNb fun xs Ks=>∃j,QMU j xs Ks]) (lsc QXc lsn) rfl (q:=fun j=>QNs j)
 (fun xs Ks h=>by
   obtain⟨N,nd,tr,a,g,s,m,vi,vw,vc,_,h1,h2,h3,h4⟩:=h
   first | omega | exact absurd h1.2.2.2 (Nat.not_lt_zero _) | exact absurd h1.1.2.2.2 (Nat.not_lt_zero _))
 (fun j xs Ks _ h=>by
   obtain⟨_,_,_,_,_,_,_,_,_,_,rfl,_⟩:=id h
   exact Q4u h)
theorem Q6g:KOk Tryz.prog 21 (.q (QTJ QLA)):=kq rfl (q_of QTu QY4 (ls:=[QOg fun xs Ks=>∃j,QNs j xs Ks,QNb fun xs Ks=>∃j,QMU j xs Ks]) (lsc Q4O (lsc QXc lsn)) rfl fun xs Ks _ h=>by
     obtain⟨N,nd,tr,g,m,vi,vw,vc,rfl,h1,h2,h3,h4,h5,h6,h7,h8⟩:=h
     exact Q55 (Ks:=nthK Ks) h1 h2 h3 h4 h5 h6 h7 h8)
theorem QWn:∀i g,QSa.get i=some g→KOk Tryz.prog i g:=fun _ _ h=>tbg h (trivial)
theorem Q0O:LsI Tryz.prog 43 (QNL fun xs Ks=>∃j,QNj j xs Ks):=Qae (S:=QNL fun _ _=>False) QWn Q7g (ls:=[]) lsn rfl (q:=fun j=>QNj j)
 (fun xs Ks h=>by
   obtain⟨N,nd,tr,g,i,x,r,k,_,h1,h2,h3⟩:=h
   omega)
 (fun j xs Ks _ h=>by
   obtain⟨_,_,_,_,_,_,_,_,rfl,_⟩:=id h
   exact Q7a h)
theorem Q7r:LsI Tryz.prog 43 (QPv fun xs Ks=>∃j,QNF j xs Ks):=Qae (S:=QPv fun _ _=>False) QWn Q7h (ls:=[QNL fun xs Ks=>∃j,QNj j xs Ks]) (lsc Q0O lsn) rfl (q:=fun j=>QNF j)
 (fun xs Ks h=>by
   obtain⟨N,nd,tr,g,i,r,_,h1,h2,h3,h4,h5⟩:=h
   first | omega | exact absurd h1.2.2.2 (Nat.not_lt_zero _) | exact absurd h1.1.2.2.2 (Nat.not_lt_zero _))
 (fun j xs Ks _ h=>by
   obtain⟨_,_,_,_,_,_,rfl,_⟩:=id h
   exact Q7b h)
theorem Q9a:KOk Tryz.prog 43 (.q (QWK QLJ)):=kq rfl (q_of QWn Q3Z (ls:=[QPv fun xs Ks=>∃j,QNF j xs Ks,QNL fun xs Ks=>∃j,QNj j xs Ks]) (lsc Q7r (lsc Q0O lsn)) rfl fun xs Ks _ h=>by
     obtain⟨N,nd,tr,g,rfl,h1,h2⟩:=h
     exact Q8Z (Ks:=nthK Ks) h1 h2)
theorem QOa:∀i g,(QNk QLF QLE QLJ).get i=some g→KOk Tryz.prog i g:=fun _ _ h=>tbg h ⟨Q9a,⟨QZk,Q1d⟩⟩
theorem QUH:LsI Tryz.prog 22 (QMT fun xs Ks=>∃j,QMG j xs Ks):=Qae (S:=QMT fun _ _=>False) QOa Q1c (ls:=[]) lsn rfl (q:=fun j=>QMG j)
 (fun xs Ks h=>by
   obtain⟨t,pr,j,o,h,n,i,x,u,v,y,z,g,m,vi,vw,vc,vl,oa,oc,e,_,h1,h2,h3,h4,h5⟩:=h
   omega)
 (fun j xs Ks _ h=>by
   obtain⟨_,_,_,_,_,_,_,_,_,_,_,_,_,_,_,_,_,_,_,_,_,rfl,_⟩:=id h
   exact Q08 h)
theorem QVe:LsI Tryz.prog 22 (QMZ fun xs Ks=>∃j,QMK j xs Ks):=Qae (S:=QMZ fun _ _=>False) QOa Q2K (ls:=[QMT fun xs Ks=>∃j,QMG j xs Ks]) (lsc QUH lsn) rfl (q:=fun j=>QMK j)
 (fun xs Ks h=>by
   obtain⟨N,nd,tr,pr,h,i,x,z,g,m,vi,vw,vc,vl,_,h1,h2,h3,h4,h5,h6,h7⟩:=h
   omega)
 (fun j xs Ks _ h=>by
   obtain⟨_,_,_,_,_,_,_,_,_,_,_,_,_,_,rfl,_⟩:=id h
   exact Q2x h)
theorem QVf:LsI Tryz.prog 22 (QM0 fun xs Ks=>∃j,QMw j xs Ks):=Qae (S:=QM0 fun _ _=>False) QOa Q2L (ls:=[QMZ fun xs Ks=>∃j,QMK j xs Ks]) (lsc QVe lsn) rfl (q:=fun j=>QMw j)
 (fun xs Ks h=>by
   obtain⟨N,nd,tr,pr,h,i,g,m,vi,vw,vc,_,h1,h2,h3,h4,h5,h6⟩:=h
   first | omega | exact absurd h1.2.2.2 (Nat.not_lt_zero _) | exact absurd h1.1.2.2.2 (Nat.not_lt_zero _))
 (fun j xs Ks _ h=>by
   obtain⟨_,_,_,_,_,_,_,_,_,_,_,rfl,_⟩:=id h
   exact Q2y h)
theorem Q2U:LsI Tryz.prog 22 (QNM fun xs Ks=>∃j,QMY j xs Ks):=Qae (S:=QNM fun _ _=>False) QOa Q2M (ls:=[QM0 fun xs Ks=>∃j,QMw j xs Ks]) (lsc QVf lsn) rfl (q:=fun j=>QMY j)
 (fun xs Ks h=>by
   obtain⟨N,nd,tr,pr,h,g,m,vi,vw,vc,_,h1,h2,h3,h4,h5,h6⟩:=h
   first | omega | exact absurd h1.2.2.2 (Nat.not_lt_zero _) | exact absurd h1.1.2.2.2 (Nat.not_lt_zero _))
 (fun j xs Ks _ h=>by
   obtain⟨_,_,_,_,_,_,_,_,_,_,rfl,_⟩:=id h
   exact Q2z h)
theorem Q4D:KOk Tryz.prog 22 (.q (QR5 QLz)):=kq rfl (q_of QOa QXa (ls:=[QNM fun xs Ks=>∃j,QMY j xs Ks,QM0 fun xs Ks=>∃j,QMw j xs Ks,QMZ fun xs Ks=>∃j,QMK j xs Ks,QMT fun xs Ks=>∃j,QMG j xs Ks]) (lsc Q2U (lsc QVf (lsc QVe (lsc QUH lsn)))) rfl fun xs Ks _ h=>by
     obtain⟨N,nd,tr,g,m,vi,vw,vc,rfl,h1,h2,h3⟩:=h
     exact Q4v (Ks:=nthK Ks) h1 h2 h3)
theorem QT8:∀i g,(QQk QLE).get i=some g→KOk Tryz.prog i g:=fun _ _ h=>tbg h ⟨⟨⟨⟨QZk,⟨Qua,QT0⟩⟩,⟨Q9h,⟨Q2k,QYa⟩⟩⟩,⟨⟨Qnd,⟨QxC,Q5y⟩⟩,⟨Qiq,⟨QR1,QQg⟩⟩⟩⟩,⟨⟨⟨QQF,⟨QQy,QOl⟩⟩,⟨QPy,⟨QRv,QM4⟩⟩⟩,⟨⟨Quo,⟨QRZ,QMu⟩⟩,⟨⟨QMB,QPz⟩,⟨QTb,QTa⟩⟩⟩⟩⟩
theorem Q0P:LsI Tryz.prog 23 (QNp fun xs Ks=>∃j,QM3 j xs Ks):=Qae (S:=QNp fun _ _=>False) QT8 Q0B (ls:=[]) lsn rfl (q:=fun j=>QM3 j)
 (fun xs Ks h=>by
   obtain⟨N,nd,tr,i,g,I,m,vw,vc,_,h1,h2,h3,h4,h5⟩:=h
   first | omega | exact absurd h1.2.2.2 (Nat.not_lt_zero _) | exact absurd h1.1.2.2.2 (Nat.not_lt_zero _))
 (fun j xs Ks _ h=>by
   obtain⟨_,_,_,_,_,_,_,_,_,rfl,_⟩:=id h
   exact Q0g h)
theorem Q2Q:KOk Tryz.prog 23 (.q (QQ0 QLy)):=kq rfl (q_of QT8 QVd (ls:=[QNp fun xs Ks=>∃j,QM3 j xs Ks]) (lsc Q0P lsn) rfl fun xs Ks _ h=>by
     obtain⟨N,nd,tr,g,I,m,vw,vc,rfl,h1,h2,h3⟩:=h
     exact Q2A (Ks:=nthK Ks) h1 h2 h3)
theorem QTM:∀i g,(QPC QMh).get i=some g→KOk Tryz.prog i g:=fun _ _ h=>tbg h ⟨⟨⟨⟨QxC,Q74⟩,⟨QOt,⟨QNd,QM4⟩⟩⟩,⟨⟨Quo,⟨QMI,QMu⟩⟩,⟨QMB,⟨QMa,QMF⟩⟩⟩⟩,⟨⟨⟨QMb,⟨QMn,QMe⟩⟩,⟨QLQ,⟨QQZ,QL3⟩⟩⟩,⟨⟨QMx,⟨QME,QL4⟩⟩,⟨QMP,⟨QOu,QMO⟩⟩⟩⟩⟩
theorem QZM:LsI Tryz.prog 54 (QNh fun xs Ks=>∃j,QMW j xs Ks):=Qae (S:=QNh fun _ _=>False) QTM QZj (ls:=[]) lsn rfl (q:=fun j=>QMW j)
 (fun xs Ks h=>by
   obtain⟨N,nd,tr,i,g,I,m,vw,vc,_,h1,h2,h3,h4,h5⟩:=h
   first | omega | exact absurd h1.2.2.2 (Nat.not_lt_zero _) | exact absurd h1.1.2.2.2 (Nat.not_lt_zero _))
 (fun j xs Ks _ h=>by
   obtain⟨_,_,_,_,_,_,_,_,_,rfl,_⟩:=id h
   exact QZi h)
theorem Q1e:KOk Tryz.prog 54 (.q (QQA QMi)):=kq rfl (q_of QTM QUF (ls:=[QNh fun xs Ks=>∃j,QMW j xs Ks]) (lsc QZM lsn) rfl fun xs Ks _ h=>by
     obtain⟨N,nd,tr,g,I,m,vw,vc,rfl,h1,h2,h3⟩:=h
     exact Q05 (Ks:=nthK Ks) h1 h2 h3)
theorem Q0i:∀i g,(QS0 QLR QMi).get i=some g→KOk Tryz.prog i g:=fun _ _ h=>tbg h ⟨⟨Q0H,QNe⟩,⟨Q3C,Q1e⟩⟩
theorem Q1f:KOk Tryz.prog 24 (.q (QQB QLx)):=kq rfl (q_of Q0i QUG (ls:=[]) lsn rfl fun xs Ks _ h=>by
     obtain⟨N,nd,tr,g,I,m,vw,vc,rfl,h1,h2,h3⟩:=h
     exact Q07 (Ks:=nthK Ks) h1 h2 h3)
theorem Q9U:KOk Tryz.prog 20 (.q (QR4 QLB)):=by
 have ht:∀i g,(QTq QLH).get i=some g→KOk Tryz.prog i g:=fun _ _ h=>tbg h ⟨⟨⟨⟨⟨Q7R,⟨QSc,Q1y⟩⟩,⟨QUC,⟨Q0L,QPq⟩⟩⟩,⟨⟨QYd,⟨QRa,QQ9⟩⟩,⟨⟨QYU,QSx⟩,⟨QW9,Qt9⟩⟩⟩⟩,⟨⟨⟨QUw,⟨QYc,QRw⟩⟩,⟨QV7,⟨QTc,QV6⟩⟩⟩,⟨⟨QxC,⟨QOt,QNd⟩⟩,⟨⟨QS7,Qg3⟩,⟨QRY,QM4⟩⟩⟩⟩⟩,⟨⟨⟨⟨Quo,⟨QMI,QO5⟩⟩,⟨QRX,⟨Qeg,QO4⟩⟩⟩,⟨⟨QQ8,⟨QMu,QMB⟩⟩,⟨⟨QMa,QMF⟩,⟨QMb,QMn⟩⟩⟩⟩,⟨⟨⟨QMe,⟨QLQ,QQZ⟩⟩,⟨⟨QL3,QMx⟩,⟨QS9,QR0⟩⟩⟩,⟨⟨QME,⟨QL4,QMP⟩⟩,⟨⟨QOu,QRu⟩,⟨QQE,QMO⟩⟩⟩⟩⟩⟩
 exact kq rfl (q_of ht Q5v (ls:=[]) lsn rfl fun xs Ks _ h=>Qaau h)
theorem Q9V:KOk Tryz.prog 7 (.q (QMv QNn)):=by
 have ht:∀i g,(QMq QLA QLz QLy QLx QLB).get i=some g→KOk Tryz.prog i g:=fun _ _ h=>tbg h ⟨⟨⟨Q30,⟨QSb,Q9U⟩⟩,⟨Q6g,⟨Q4D,Q2Q⟩⟩⟩,⟨⟨Q1f,⟨QV9,QTZ⟩⟩,⟨⟨QVc,QUD⟩,⟨QTm,QUE⟩⟩⟩⟩
 exact kq rfl (q_of ht Q5x (ls:=[]) lsn rfl fun xs Ks _ h=>Qaav h)
structure Dg (D:Str)(k:Int):Prop where
 ne:D≠[]
 len:D.length≤5
 dig:∀b∈D,48≤b.toNat∧b.toNat≤57
 z:∀b r,D=b::r→b.toNat=48→r=[]
 num:numS D=k
 lo:0≤k
 hi:k≤32767
theorem Q9r {k:Int}(h0:0≤k)(h1:k≤32767):Dg (decS 5 k.toNat) k:=by
 refine⟨QabF 5 _ (by omega),QYi 5 _,Q9t 5 _,fun b r e hb=>?_,?_,h0,h1⟩
 ·by_cases hz:k.toNat=0
  ·rw[hz,Qabp 4] at e
   cases e;rfl
  ·obtain⟨b',r',e',hb'⟩:=Q7U 5 k.toNat hz (by show k.toNat<100000;omega)
   rw[e'] at e
   cases e
   exact absurd hb hb'
 ·rw[Q9s 5 _ (by show k.toNat<100000;omega)];omega
theorem QaaY {b:UInt8}(h:48≤b.toNat∧b.toNat≤57):QlX (Int.ofNat b.toNat)=false:=by
 have h1:¬(97:Int)≤Int.ofNat b.toNat:=by show ¬(97:Int)≤(b.toNat:Int);omega
 have h2:¬(65:Int)≤Int.ofNat b.toNat:=by show ¬(65:Int)≤(b.toNat:Int);omega
 have h3:¬Int.ofNat b.toNat=(95:Int):=by show ¬(b.toNat:Int)=95;omega
 simp only[QlX,h1,h2,h3,decide_false,Bool.false_and,Bool.or_self]
theorem Qabo {b:UInt8}(h:48≤b.toNat∧b.toNat≤57):diB b=true:=by
 have h1:(48:Int)≤Int.ofNat b.toNat:=by show (48:Int)≤(b.toNat:Int);omega
 have h2:Int.ofNat b.toNat≤(57:Int):=by show (b.toNat:Int)≤57;omega
 simp only[diB,Qo5,h1,h2,decide_true,Bool.and_self]
theorem Qabf {p:UInt8→Bool}:∀ {D:Str}{c:UInt8}{r:Str},(∀b∈D,p b=true)→p c=false→(D++c::r).takeWhile p=D∧(D++c::r).dropWhile p=c::r
 | [],c,r,_,hc=>by simp[hc]
 | b::D,c,r,h,hc=>by
  obtain⟨h1,h2⟩:=Qabf (p:=p) (D:=D) (c:=c) (r:=r) (fun x hx=>h x (List.mem_cons_of_mem _ hx)) hc
  have hb:=h b (List.mem_cons_self ..)
  simp only[List.cons_append,List.takeWhile_cons,List.dropWhile_cons,hb,if_true,h1,h2,and_self]
theorem Q4r {D:Str}{k:Int}{g:Nat}{c:UInt8}{r:Str}(h:Dg D k)(hc:diB c=false)(hl:QlX (Int.ofNat c.toNat)=false):lexL (g+1) (D++c::r)=(lexL g (c::r)).map ((1,D)::·):=by
 obtain⟨h1,h2⟩:=Qabf (r:=r) (fun b hb=>Qabo (h.dig b hb)) hc
 have hne:=h.ne
 cases D with
 | nil=>exact absurd rfl hne
 | cons b t=>
  have hb:=h.dig b (List.mem_cons_self ..)
  have hlen:=h.len
  rw[List.cons_append] at *
  rw[lexL,if_neg (by omega),if_neg (by omega),if_neg (by rw[QaaY hb];exact Bool.false_ne_true),if_pos (Qabo hb),h1,h2,if_neg]
  rintro (h3 | h3 | ⟨h3,h4⟩)
  ·omega
  ·rw[letH,hl] at h3;cases h3
  ·rw[h.z b t rfl h3] at h4
   simp at h4
theorem QabD {D:Str}{k:Int}(h:Dg D k):Q4q D=true:=by
 have h1:=h.len
 rw[Q4q,decide_eq_true (by omega),Bool.true_and,List.all_eq_true]
 intro b hb
 obtain⟨h2,h3⟩:=h.dig b hb
 rw[decide_eq_true h2,decide_eq_true h3];rfl
section
variable {g:Nat}{ts t r r2:List Tk}{w D:Str}{E F:Ex}
theorem Q0d (h:Q4q D=true):(pf (g+1)).un ((1,D)::t)=some (.num D,t):=by
 show unT (pf g) ((1,D)::t)=some (.num D,t)
 show (if Q4q D=true then some (Ex.num D,t) else none)=_
 rw[if_pos h]
theorem Q27 (h1:isB ((0,w)::t) (b8 [45])=false)(h2:isB ((0,w)::t) (b8 [40])=false)(h3:QOn w=false):(pf (g+1)).un ((0,w)::t)=some (.var w,t):=by
 show unT (pf g) ((0,w)::t)=some (.var w,t)
 rw[unT,if_neg (by rw[h1];exact Bool.false_ne_true),if_neg (by rw[h2];exact Bool.false_ne_true)]
 show (if (0:Int)=1 then _ else if (0:Int)=0∧QOn w=false then some (Ex.var w,t) else none)=_
 rw[if_neg (by omega),if_pos ⟨rfl,h3⟩]
theorem Qab9 (h:(pf g).un t=some (E,r)):(pf (g+1)).un ((2,b8 [45])::t)=some (.neg E,r):=by
 show unT (pf g) ((2,b8 [45])::t)=some (.neg E,r)
 rw[unT,if_pos (show isB ((2,b8 [45])::t) (b8 [45])=true from rfl),List.tail_cons,h];rfl
theorem Qab8 (h:(pf g).sum t=some (E,(2,b8 [41])::r)):(pf (g+1)).un ((2,b8 [40])::t)=some (E,r):=by
 show unT (pf g) ((2,b8 [40])::t)=some (E,r)
 rw[unT,if_neg (show ¬isB ((2,b8 [40])::t) (b8 [45])=true from Bool.false_ne_true),if_pos (show isB ((2,b8 [40])::t) (b8 [40])=true from rfl),List.tail_cons,h];rfl
theorem QVH (h:(pf g).un ts=some (E,r))(h1:isB r (b8 [42])=false)(h2:isB r (b8 [47])=false)(h3:isB r (b8 [37])=false):(pf (g+1)).prod ts=some (E,r):=by
 show ((pf g).un ts).bind (fun r=>QOI (pf g).un 5 r.1 r.2)=_
 rw[h]
 show QOI (pf g).un 5 E r=_
 rw[QOI,h1,h2,h3];rfl
theorem Qacs (h:(pf g).un ts=some (E,r))(h1:isB r (b8 [42])=false)(h2:isB r (b8 [47])=true)(h3:(pf g).un r.tail=some (F,r2))(k1:isB r2 (b8 [42])=false)(k2:isB r2 (b8 [47])=false)(k3:isB r2 (b8 [37])=false):(pf (g+1)).prod ts=some (.bin 5 E F,r2):=by
 show ((pf g).un ts).bind (fun r=>QOI (pf g).un 5 r.1 r.2)=_
 rw[h]
 show QOI (pf g).un 5 E r=_
 rw[QOI,h1,h2,if_neg Bool.false_ne_true,if_pos rfl,h3]
 show QOI (pf g).un 4 _ r2=_
 rw[QOI,k1,k2,k3];rfl
theorem sum1 (h:(pf g).prod ts=some (E,r))(h1:isB r (b8 [45])=false)(h2:isB r (b8 [43])=false):(pf (g+1)).sum ts=some (E,r):=by
 show ((pf g).prod ts).bind (fun r=>QOw (pf g).prod 5 r.1 r.2)=_
 rw[h]
 show QOw (pf g).prod 5 E r=_
 rw[QOw,h1,h2];rfl
theorem sumA (h:(pf g).prod ts=some (E,r))(h1:isB r (b8 [45])=false)(h2:isB r (b8 [43])=true)(h3:(pf g).prod r.tail=some (F,r2))(k1:isB r2 (b8 [45])=false)(k2:isB r2 (b8 [43])=false):(pf (g+1)).sum ts=some (.bin 2 E F,r2):=by
 show ((pf g).prod ts).bind (fun r=>QOw (pf g).prod 5 r.1 r.2)=_
 rw[h]
 show QOw (pf g).prod 5 E r=_
 rw[QOw,h1,h2,if_neg Bool.false_ne_true,if_pos rfl,h3]
 show QOw (pf g).prod 4 _ r2=_
 rw[QOw,k1,k2];rfl
theorem sumS (h:(pf g).prod ts=some (E,r))(h1:isB r (b8 [45])=true)(h3:(pf g).prod r.tail=some (F,r2))(k1:isB r2 (b8 [45])=false)(k2:isB r2 (b8 [43])=false):(pf (g+1)).sum ts=some (.bin 3 E F,r2):=by
 show ((pf g).prod ts).bind (fun r=>QOw (pf g).prod 5 r.1 r.2)=_
 rw[h]
 show QOw (pf g).prod 5 E r=_
 rw[QOw,h1,if_pos rfl,h3]
 show QOw (pf g).prod 4 _ r2=_
 rw[QOw,k1,k2];rfl
end
abbrev kA:Tk:=(0,wA)
abbrev kB:Tk:=(0,wB)
abbrev sg (c:Nat):Tk:=(2,b8 [c])
def opT:Nat→Str→Str
 | 0,D=>b8 [97,32,61,32,97,32,43,32]++D++b8 [59,32]
 | 1,D=>b8 [97,32,61,32]++D++b8 [32,45,32,98,59,32]
 | 2,D=>b8 [98,32,61,32,97,59,32]
 | 3,D=>b8 [98,32,61,32,98,32,47,32,40]++D++b8 [32,43,32,49,41,59,32]
 | _,D=>b8 [97,32,61,32,45]++D++b8 [59,32]
def opK:Nat→Str→List Tk
 | 0,D=>[kA,sg 61,kA,sg 43,(1,D),sg 59]
 | 1,D=>[kA,sg 61,(1,D),sg 45,kB,sg 59]
 | 2,D=>[kB,sg 61,kA,sg 59]
 | 3,D=>[kB,sg 61,kB,sg 47,sg 40,(1,D),sg 43,(1,b8 [49]),sg 41,sg 59]
 | _,D=>[kA,sg 61,sg 45,(1,D),sg 59]
def opP:Nat→Str→Str×Ex
 | 0,D=>(wA,.bin 2 (.var wA) (.num D))
 | 1,D=>(wA,.bin 3 (.num D) (.var wB))
 | 2,D=>(wB,.var wA)
 | 3,D=>(wB,.bin 5 (.var wB) (.bin 2 (.num D) (.num (b8 [49]))))
 | _,D=>(wA,.neg (.num D))
def opN:Nat→Nat
 | 0=>11
 | 1=>11
 | 2=>7
 | 3=>17
 | _=>8
theorem Qacf {op:Nat}{D X:Str}{k:Int}{g:Nat}(h:Dg D k):lexL (opN op+g) (opT op D++X)=(lexL g X).map (opK op D++·):=by
 rw[Nat.add_comm]
 match op with
 | 0=>
  have e1:∀Y,lexL (g+11) (b8 [97,32,61,32,97,32,43,32]++Y)=(((((lexL (g+3) Y).map ((2,b8 [43])::·)).map ((0,wA)::·)).map ((2,b8 [61])::·)).map ((0,wA)::·)):=fun Y=>by kernel_rfl
  have e2:lexL (g+2) ((59:UInt8)::(32:UInt8)::X)=(lexL g X).map ((2,b8 [59])::·):=by kernel_rfl
  have e3:=Q4r (g:=g+2) (c:=59) (r:=(32:UInt8)::X) h (by decide) (by decide)
  show lexL (g+11) ((b8 [97,32,61,32,97,32,43,32]++D++b8 [59,32])++X)=_
  rw[List.append_assoc,List.append_assoc,e1]
  rw[show b8 [59,32]++X=(59:UInt8)::(32:UInt8)::X from rfl,e3,e2]
  simp only[Option.map_map];rfl
 | 1=>
  have e1:∀Y,lexL (g+11) (b8 [97,32,61,32]++Y)=((lexL (g+7) Y).map ((2,b8 [61])::·)).map ((0,wA)::·):=fun Y=>by kernel_rfl
  have e2:lexL (g+6) ((32:UInt8)::(b8 [45,32,98,59,32]++X))=(((lexL g X).map ((2,b8 [59])::·)).map ((0,wB)::·)).map ((2,b8 [45])::·):=by kernel_rfl
  have e3:=Q4r (g:=g+6) (c:=32) (r:=b8 [45,32,98,59,32]++X) h (by decide) (by decide)
  show lexL (g+11) ((b8 [97,32,61,32]++D++b8 [32,45,32,98,59,32])++X)=_
  rw[List.append_assoc,List.append_assoc,e1]
  rw[show b8 [32,45,32,98,59,32]++X=(32:UInt8)::(b8 [45,32,98,59,32]++X) from rfl,e3,e2]
  simp only[Option.map_map];rfl
 | 2=>
  have e1:lexL (g+7) (b8 [98,32,61,32,97,59,32]++X)=((((lexL g X).map ((2,b8 [59])::·)).map ((0,wA)::·)).map ((2,b8 [61])::·)).map ((0,wB)::·):=by kernel_rfl
  show lexL (g+7) (b8 [98,32,61,32,97,59,32]++X)=_
  rw[e1]
  simp only[Option.map_map];rfl
 | 3=>
  have e1:∀Y,lexL (g+17) (b8 [98,32,61,32,98,32,47,32,40]++Y)=(((((lexL (g+8) Y).map ((2,b8 [40])::·)).map ((2,b8 [47])::·)).map ((0,wB)::·)).map ((2,b8 [61])::·)).map ((0,wB)::·):=fun Y=>by kernel_rfl
  have e2:lexL (g+7) ((32:UInt8)::(b8 [43,32,49,41,59,32]++X))=((((lexL g X).map ((2,b8 [59])::·)).map ((2,b8 [41])::·)).map ((1,b8 [49])::·)).map ((2,b8 [43])::·):=by kernel_rfl
  have e3:=Q4r (g:=g+7) (c:=32) (r:=b8 [43,32,49,41,59,32]++X) h (by decide) (by decide)
  show lexL (g+17) ((b8 [98,32,61,32,98,32,47,32,40]++D++b8 [32,43,32,49,41,59,32])++X)=_
  rw[List.append_assoc,List.append_assoc,e1]
  rw[show b8 [32,43,32,49,41,59,32]++X=(32:UInt8)::(b8 [43,32,49,41,59,32]++X) from rfl,e3,e2]
  simp only[Option.map_map];rfl
 | n+4=>
  have e1:∀Y,lexL (g+8) (b8 [97,32,61,32,45]++Y)=(((lexL (g+3) Y).map ((2,b8 [45])::·)).map ((2,b8 [61])::·)).map ((0,wA)::·):=fun Y=>by kernel_rfl
  have e2:lexL (g+2) ((59:UInt8)::(32:UInt8)::X)=(lexL g X).map ((2,b8 [59])::·):=by kernel_rfl
  have e3:=Q4r (g:=g+2) (c:=59) (r:=(32:UInt8)::X) h (by decide) (by decide)
  show lexL (g+8) ((b8 [97,32,61,32,45]++D++b8 [59,32])++X)=_
  rw[List.append_assoc,List.append_assoc,e1]
  rw[show b8 [59,32]++X=(59:UInt8)::(32:UInt8)::X from rfl,e3,e2]
  simp only[Option.map_map];rfl
theorem Q0j {x:Str}{E:Ex}{t r:List Tk}(hx:x=wA∨x=wB)(hv:Q53 t=true)(h:(pf 20).sum t=some (E,sg 59::r)):QVI 20 ((0,x)::sg 61::t)=some (.asg x E,r):=by
 rcases hx with rfl | rfl
 ·rw[QVI,if_neg (show ¬isB ((0,wA)::sg 61::t) wRet=true from Bool.false_ne_true)]
  show (if _ then _ else _)=_
  rw[if_pos ⟨rfl,by decide,rfl,rfl,rfl,rfl,rfl,rfl,rfl,hv⟩,List.tail_cons,h];rfl
 ·rw[QVI,if_neg (show ¬isB ((0,wB)::sg 61::t) wRet=true from Bool.false_ne_true)]
  show (if _ then _ else _)=_
  rw[if_pos ⟨rfl,by decide,rfl,rfl,rfl,rfl,rfl,rfl,rfl,hv⟩,List.tail_cons,h];rfl
theorem Qacq {op:Nat}{D:Str}{k:Int}{r:List Tk}(h:Dg D k):QVI 20 (opK op D++r)=some (.asg (opP op D).1 (opP op D).2,r):=by
 have hn:=QabD h
 match op with
 | 0=>exact Q0j (t:=kA::sg 43::(1,D)::sg 59::r) (.inl rfl) (by rfl) (sumA (E:=.var wA) (F:=.num D) (QVH (Q27 rfl rfl (by decide)) rfl rfl rfl) rfl rfl (QVH (Q0d hn) rfl rfl rfl) rfl rfl)
 | 1=>exact Q0j (t:=(1,D)::sg 45::kB::sg 59::r) (.inl rfl) (by rfl) (sumS (E:=.num D) (F:=.var wB) (QVH (Q0d hn) rfl rfl rfl) rfl (QVH (Q27 rfl rfl (by decide)) rfl rfl rfl) rfl rfl)
 | 2=>exact Q0j (t:=kA::sg 59::r) (.inr rfl) (by rfl) (sum1 (E:=.var wA) (QVH (Q27 rfl rfl (by decide)) rfl rfl rfl) rfl rfl)
 | 3=>exact Q0j (t:=kB::sg 47::sg 40::(1,D)::sg 43::(1,b8 [49])::sg 41::sg 59::r) (.inr rfl) (by rfl) (sum1 (Qacs (E:=.var wB) (F:=.bin 2 (.num D) (.num (b8 [49]))) (Q27 rfl rfl (by decide)) rfl rfl (Qab8 (sumA (QVH (Q0d hn) rfl rfl rfl) rfl rfl (QVH (Q0d (by decide)) rfl rfl rfl) rfl rfl)) rfl rfl rfl) rfl rfl)
 | n+4=>exact Q0j (t:=sg 45::(1,D)::sg 59::r) (.inl rfl) (by rfl) (sum1 (E:=.neg (.num D)) (QVH (Qab9 (Q0d hn)) rfl rfl rfl) rfl rfl)
def opR:Nat→Int→Int×Int→Int×Int
 | 0,k,s=>(s.1+k,s.2)
 | 1,k,s=>(k - s.2,s.2)
 | 2,_,s=>(s.1,s.1)
 | 3,k,s=>(s.1,s.2.tdiv (k+1))
 | _,k,s=>(0 - k,s.2)
abbrev Ops:=List (Nat×Int)
def dg (k:Int):Str:=decS 5 k.toNat
def okO (L:Ops):Prop:=∀p∈L,0≤p.2∧p.2≤32767
def txO (L:Ops):Str:=L.flatMap fun p=>opT p.1 (dg p.2)
def tkO (L:Ops):List Tk:=L.flatMap fun p=>opK p.1 (dg p.2)
def fuO (L:Ops):Nat:=(L.map fun p=>opN p.1).sum
def ssO (L:Ops):List (Str×Ex):=L.map fun p=>opP p.1 (dg p.2)
def rnO (L:Ops)(s:Int×Int):Int×Int:=L.foldl (fun s p=>opR p.1 p.2 s) s
theorem lexO:∀ {L:Ops}{g:Nat}{X:Str},okO L→lexL (fuO L+g) (txO L++X)=(lexL g X).map (tkO L++·)
 | [],g,X,_=>by
  rw[show fuO []+g=g from Nat.zero_add _,show txO []++X=X from rfl]
  cases lexL g X<;>rfl
 | p::L,g,X,h=>by
  have hp:=h p (List.mem_cons_self ..)
  have ih:=lexO (L:=L) (g:=g) (X:=X) fun q hq=>h q (List.mem_cons_of_mem _ hq)
  have e1:fuO (p::L)+g=opN p.1+(fuO L+g):=by
   show (opN p.1+(L.map fun p=>opN p.1).sum)+g=_
   rw[Nat.add_assoc];rfl
  have e2:txO (p::L)++X=opT p.1 (dg p.2)++(txO L++X):=by
   show (opT p.1 (dg p.2)++txO L)++X=_
   rw[List.append_assoc]
  rw[e1,e2,Qacf (show Dg (dg p.2) p.2 from Q9r hp.1 hp.2),ih,Option.map_map]
  congr 1
  funext ts
  show opK p.1 (dg p.2)++(tkO L++ts)=(opK p.1 (dg p.2)++tkO L)++ts
  rw[List.append_assoc]
theorem stO:∀ {L:Ops}{j:Nat}{ts r:List Tk}{SS:List St1},okO L→QOv 20 j ts=some (SS,r)→QOv 20 (L.length+j) (tkO L++ts)=some ((ssO L).map (fun p=>St1.asg p.1 p.2)++SS,r)
 | [],j,ts,r,SS,_,h=>by
  rw[show ([]:Ops).length+j=j from Nat.zero_add _];exact h
 | p::L,j,ts,r,SS,hL,h=>by
  have hp:=hL p (List.mem_cons_self ..)
  have ih:=stO (L:=L) (fun q hq=>hL q (List.mem_cons_of_mem _ hq)) h
  have e2:tkO (p::L)++ts=opK p.1 (dg p.2)++(tkO L++ts):=by
   show (opK p.1 (dg p.2)++tkO L)++ts=_
   rw[List.append_assoc]
  have hb:isB (opK p.1 (dg p.2)++(tkO L++ts)) (b8 [125])=false:=by
   match p.1 with
   | 0 | 1 | 2 | 3 | n+4=>rfl
  rw[show (p::L).length+j=(L.length+j)+1 by rw[List.length_cons];omega,e2,QOv,hb,if_neg Bool.false_ne_true,Qacq (show Dg (dg p.2) p.2 from Q9r hp.1 hp.2)]
  show (QOv 20 (L.length+j) (tkO L++ts)).map _=_
  rw[ih];rfl
def preT:Str:=b8 [102,110,32,102,40,41,32,123,32,118,97,114,32,97,59,32,118,97,114,32,98,59,32,97,32,61,32,51,59,32]
def sufT:Str:=b8 [114,101,116,117,114,110,32,97,59,32,125]
def preK:List Tk:=[(0,b8 [102,110]),(0,b8 [102]),sg 40,sg 41,sg 123,(0,b8 [118,97,114]),kA,sg 59,(0,b8 [118,97,114]),kB,sg 59]
def QSY:List Tk:=[kA,sg 61,(1,b8 [51]),sg 59]
def sufK:List Tk:=[(0,b8 [114,101,116,117,114,110]),kA,sg 59,sg 125]
theorem Qab3 {g:Nat}{X:Str}:lexL (g+25) (preT++X)=(lexL g X).map (fun ts=>preK++(QSY++ts)):=by
 have e:lexL (g+25) (preT++X)=Option.map ((0,b8 [102,110])::·) (Option.map ((0,b8 [102])::·) (Option.map (sg 40::·) (Option.map (sg 41::·) (Option.map (sg 123::·) (Option.map ((0,b8 [118,97,114])::·) (Option.map (kA::·) (Option.map (sg 59::·) (Option.map ((0,b8 [118,97,114])::·) (Option.map (kB::·) (Option.map (sg 59::·) (Option.map (kA::·) (Option.map (sg 61::·) (Option.map ((1,b8 [51])::·) (Option.map (sg 59::·) (lexL g X))))))))))))))):=by kernel_rfl
 rw[e]
 simp only[Option.map_map];rfl
theorem Qab2:lexL 12 sufT=some sufK:=by kernel_rfl
theorem Qab4 {L:Ops}(h:okO L):lexL (fuO L+12+25) (preT++(txO L++sufT))=some (preK++(QSY++(tkO L++sufK))):=by
 rw[Qab3,lexO h,Qab2];rfl
theorem QabW {L:Ops}(h:okO L)(hl:L.length≤12):Q6c (preK++(QSY++(tkO L++sufK)))=some (b8 [102],[wA,wB],((wA,Ex.num (b8 [51]))::ssO L).map (fun p=>St1.asg p.1 p.2)++[St1.ret (.var wA)]):=by
 have hv:Q4p 21 ((0,b8 [118,97,114])::kA::sg 59::(0,b8 [118,97,114])::kB::sg 59::(QSY++(tkO L++sufK)))=some ([wA,wB],QSY++(tkO L++sufK)):=by kernel_rfl
 have hr:QVI 20 sufK=some (.ret (.var wA),[sg 125]):=by
  have hs:(pf 20).sum (kA::sg 59::[sg 125])=some (.var wA,sg 59::[sg 125]):=sum1 (QVH (Q27 rfl rfl (by decide)) rfl rfl rfl) rfl rfl
  show (if isB sufK wRet=true then _ else _)=_
  rw[if_pos (show isB sufK wRet=true from by decide)]
  show (if _ then none else ((pf 20).sum (kA::sg 59::[sg 125])).bind _)=_
  rw[if_neg (by decide),hs];rfl
 have hq:QOv 20 (199 - L.length) sufK=some ([St1.ret (.var wA)],[]):=by
  obtain⟨j,hj⟩:∃j,199 - L.length=j+1+1:=⟨197 - L.length,by omega⟩
  rw[hj,QOv,if_neg (by decide),hr];rfl
 have h3:QVI 20 (QSY++(tkO L++sufK))=some (.asg wA (.num (b8 [51])),tkO L++sufK):=
  Q0j (t:=(1,b8 [51])::sg 59::(tkO L++sufK)) (.inl rfl) (by rfl) (sum1 (QVH (Q0d (by decide)) rfl rfl rfl) rfl rfl)
 have hp:QOv 20 200 (QSY++(tkO L++sufK))=some (((wA,Ex.num (b8 [51]))::ssO L).map (fun p=>St1.asg p.1 p.2)++[St1.ret (.var wA)],[]):=by
  have h4:=stO (j:=199 - L.length) h hq
  rw[show L.length+(199 - L.length)=199 by omega] at h4
  rw[show (200:Nat)=199+1 from rfl,QOv,if_neg (show ¬isB (QSY++(tkO L++sufK)) (b8 [125])=true from Bool.false_ne_true),h3]
  show (QOv 20 199 (tkO L++sufK)).map _=_
  rw[h4];rfl
 have e:∀t,Q6c ((0,b8 [102,110])::(0,b8 [102])::t)=if isB [((0:Int),b8 [102,110])] (b8 [102,110])=true∧QOn (b8 [102])=false∧isB t (b8 [40])=true∧isB t.tail (b8 [41])=true∧isB t.tail.tail (b8 [123])=true then (Q4p 21 t.tail.tail.tail).bind fun v=>(QOv 20 200 v.2).bind fun p=>if p.2=[]∧p.1.length≤200∧v.1.length≤20 then some (b8 [102],v.1,p.1) else none else none:=fun t=>rfl
 refine (e (sg 40::sg 41::sg 123::(0,b8 [118,97,114])::kA::sg 59::(0,b8 [118,97,114])::kB::sg 59::(QSY++(tkO L++sufK)))).trans ?_
 rw[if_pos ⟨rfl,by decide,rfl,rfl,rfl⟩,List.tail_cons,List.tail_cons,List.tail_cons,hv,Option.bind_some,hp,Option.bind_some]
 exact if_pos ⟨rfl,by simp[ssO];omega,(by decide:(2:Nat)≤20)⟩
theorem QabX {op:Nat}{D:Str}(h:D.length≤5):(opT op D).length≤21:=by
 match op with
 | 0 | 1 | 2 | 3 | n+4=>simp[opT,b8];try omega
theorem QabY {op:Nat}{D:Str}:(opK op D).length≤10:=by
 match op with
 | 0 | 1 | 2 | 3 | n+4=>simp[opK]
theorem Q69:∀L:Ops,(txO L).length≤21 * L.length
 | []=>Nat.le_refl _
 | p::L=>by
  have h1:=Q69 L
  have h2:=QabX (op:=p.1) (D:=dg p.2) (QYi 5 _)
  show (opT p.1 (dg p.2)++txO L).length≤_
  rw[List.length_append,List.length_cons];omega
theorem QaaB:∀L:Ops,(tkO L).length≤10 * L.length
 | []=>Nat.le_refl _
 | p::L=>by
  have h1:=QaaB L
  have h2:=QabY (op:=p.1) (D:=dg p.2)
  show (opK p.1 (dg p.2)++tkO L).length≤_
  rw[List.length_append,List.length_cons];omega
def bd (n:Int)(s:Int×Int):Prop:=-(40000 * n)≤s.1∧s.1≤40000 * n∧-(40000 * n)≤s.2∧s.2≤40000 * n
theorem QabP {op:Nat}{k n:Int}{s:Int×Int}(h:bd n s)(h0:0≤k)(h1:k≤32767)(hn:0≤n):bd (n+1) (opR op k s):=by
 obtain⟨a1,a2,b1,b2⟩:=h
 match op with
 | 0=>refine⟨?_,?_,?_,?_⟩<;>simp only[opR]<;>omega
 | 1=>refine⟨?_,?_,?_,?_⟩<;>simp only[opR]<;>omega
 | 2=>refine⟨?_,?_,?_,?_⟩<;>simp only[opR]<;>omega
 | 3=>
  have h2:=Int.natAbs_tdiv_le_natAbs s.2 (k+1)
  refine⟨?_,?_,?_,?_⟩<;>simp only[opR]<;>omega
 | n+4=>refine⟨?_,?_,?_,?_⟩<;>simp only[opR]<;>omega
theorem Qacr {op:Nat}{k n:Int}{D:Str}{s:Int×Int}(h:bd n s)(hn:n≤20)(h0:0≤n)(hd:Dg D k):stS (.asg (opP op D).1 (opP op D).2) (s.1,s.2,0) ((opR op k s).1,(opR op k s).2,0):=by
 obtain⟨a1,a2,b1,b2⟩:=h
 have k0:=hd.lo;have k1:=hd.hi
 have hN:∀x y z,evE (.num D) x y z k:=fun x y z=>⟨hd.num.symm,by unfold sm;omega⟩
 have hA:∀z,evE (.var wA) s.1 s.2 z s.1:=fun z=>⟨.inl ⟨rfl,rfl⟩,by unfold sm;omega⟩
 have hB:∀z,evE (.var wB) s.1 s.2 z s.2:=fun z=>⟨.inr (.inl ⟨rfl,rfl⟩),by unfold sm;omega⟩
 match op with
 | 0=>exact⟨s.1+k,⟨_,_,hA 0,hN _ _ _,.inl ⟨rfl,rfl⟩,by unfold sm;omega⟩,.inl ⟨rfl,rfl,rfl,rfl⟩⟩
 | 1=>exact⟨k - s.2,⟨_,_,hN _ _ _,hB 0,.inr (.inl ⟨rfl,rfl⟩),by unfold sm;omega⟩,.inl ⟨rfl,rfl,rfl,rfl⟩⟩
 | 2=>exact⟨s.1,hA 0,.inr (.inl ⟨rfl,rfl,rfl,rfl⟩)⟩
 | 3=>
  have h2:=Int.natAbs_tdiv_le_natAbs s.2 (k+1)
  refine⟨s.2.tdiv (k+1),⟨s.2,k+1,hB 0,⟨k,1,hN _ _ _,⟨rfl,by unfold sm;omega⟩,.inl ⟨rfl,rfl⟩,by unfold sm;omega⟩,.inr (.inr ⟨rfl,by omega,rfl⟩),by unfold sm;omega⟩,.inr (.inl ⟨rfl,rfl,rfl,rfl⟩)⟩
 | n+4=>exact⟨0 - k,⟨k,hN _ _ _,rfl,by unfold sm;omega⟩,.inl ⟨rfl,rfl,rfl,rfl⟩⟩
def chn:List St1→TR→TR→Prop
 | [],t,u=>t=u
 | S::SS,t,u=>∃w,stS S t w∧chn SS w u
theorem QabO:∀ {SS:List St1}{t u:TR},chn SS t u→∃T:Nat→TR,T 0=t∧T SS.length=u∧∀k,k<SS.length→stS (SS.getD k (.ret (.num []))) (T k) (T (k+1))
 | [],t,u,h=>⟨fun _=>t,rfl,h,fun k hk=>absurd hk (Nat.not_lt_zero _)⟩
 | S::SS,t,u,⟨w,h1,h2⟩=>by
  obtain⟨T,e0,e1,hT⟩:=QabO h2
  refine⟨fun k=>match k with | 0=>t | k+1=>T k,rfl,e1,fun k hk=>?_⟩
  cases k with
  | zero=>show stS S t (T 0);rw[e0];exact h1
  | succ k=>exact hT k (by simpa using hk)
theorem chnO:∀ {L:Ops}{n:Int}{s:Int×Int}{SS:List St1}{u:TR},okO L→bd n s→0≤n→n+L.length≤20→(chn SS ((rnO L s).1,(rnO L s).2,0) u)→chn ((ssO L).map (fun p=>St1.asg p.1 p.2)++SS) (s.1,s.2,0) u
 | [],n,s,SS,u,_,_,_,_,h=>h
 | p::L,n,s,SS,u,hL,hb,h0,hn,h=>by
  have hp:=hL p (List.mem_cons_self ..)
  rw[List.length_cons] at hn
  exact⟨_,Qacr (op:=p.1) (k:=p.2) (D:=dg p.2) hb (by omega) h0 (Q9r hp.1 hp.2),chnO (n:=n+1) (fun q hq=>hL q (List.mem_cons_of_mem _ hq)) (QabP hb hp.1 hp.2 h0) (by omega) (by omega) h⟩
theorem bdO:∀ {L:Ops}{n:Int}{s:Int×Int},okO L→bd n s→0≤n→bd (n+L.length) (rnO L s)
 | [],n,s,_,hb,_=>by rw[show n+(([]:Ops).length:Int)=n by simp];exact hb
 | p::L,n,s,hL,hb,h0=>by
  have hp:=hL p (List.mem_cons_self ..)
  have:=bdO (L:=L) (fun q hq=>hL q (List.mem_cons_of_mem _ hq)) (QabP (op:=p.1) hb hp.1 hp.2 h0) (by omega)
  rw[List.length_cons,show n+((L.length+1:Nat):Int)=n+1+(L.length:Int) by omega]
  exact this
theorem Qab5 {L:Ops}(h:okO L)(hl:L.length≤12):∃T:Nat→TR,T 0=((0,0,0):TR)∧(T (L.length+2)).2.2=(rnO L (3,0)).1∧∀k,k<L.length+2→stS ((((wA,Ex.num (b8 [51]))::ssO L).map (fun p=>St1.asg p.1 p.2)++[St1.ret (.var wA)]).getD k (.ret (.num []))) (T k) (T (k+1)):=by
 have hb0:bd 1 (3,0):=⟨by omega,by omega,by omega,by omega⟩
 have hb:=bdO h hb0 (by omega)
 obtain⟨c1,c2,_,_⟩:=hb
 have h1:chn (((wA,Ex.num (b8 [51]))::ssO L).map (fun p=>St1.asg p.1 p.2)++[St1.ret (.var wA)]) (0,0,0) ((rnO L (3,0)).1,(rnO L (3,0)).2,(rnO L (3,0)).1):=by
  refine⟨(3,0,0),⟨3,⟨rfl,by unfold sm;omega⟩,.inl ⟨rfl,rfl,rfl,rfl⟩⟩,chnO (s:=(3,0)) h hb0 (by omega) (by omega) ⟨_,⟨(rnO L (3,0)).1,⟨.inl ⟨rfl,rfl⟩,by unfold sm;omega⟩,rfl⟩,rfl⟩⟩
 obtain⟨T,e0,e1,hT⟩:=QabO h1
 have hlen:(((wA,Ex.num (b8 [51]))::ssO L).map (fun p=>St1.asg p.1 p.2)++[St1.ret (.var wA)]).length=L.length+2:=by simp[ssO]
 rw[hlen] at e1 hT
 exact⟨T,e0,by rw[e1],hT⟩
end Go.Proofs.YtemffgbncjnmkaaGreat
namespace Go.Proofs.YtemffgbncjnmkaaGreat.Fwc
open Go Go.Sh Go.Va Go.ChangeShapes Go.WideShapes Go.ChangeAt Go.RowKit
theorem own:ownKnob Tryz.prog.godebug=none:=by kernel_rfl
theorem laidOut:laidOutB Tryz.prog=true:=by kernel_rfl
theorem rowed:mapsRowed Tryz.prog=true:=by kernel_rfl
theorem full:∀t e,t<Tryz.prog.types.size→Tryz.prog.underlying t=some (.slice e)→0<Tryz.prog.cellsOf e:=slices_full_of Tryz.prog (by kernel_rfl)
end Go.Proofs.YtemffgbncjnmkaaGreat.Fwc
