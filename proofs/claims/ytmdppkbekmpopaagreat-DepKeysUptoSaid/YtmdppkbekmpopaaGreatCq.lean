import Derived.Test.YtmdppkbekmpopaaGreatLt
set_option linter.unusedVariables false
set_option linter.unusedSimpArgs false
set_option linter.unusedSectionVars false
set_option maxRecDepth 100000
set_option maxHeartbeats 4000000
noncomputable section
namespace Go.Proofs.YtmdppkbekmpopaaGreat
open Go Go.Sh Go.Va
theorem QwF:∀(l:List Str) (s:Str),(addS l s).length≤l.length+1
 | [],s=>by simp[addS]
 | x::r,s=>by
  have:=QwF r s
  simp only[addS]
  split
  ·simp only[List.length_cons];omega
  ·split<;>simp only[List.length_cons]<;>omega
theorem Ql8 (es:List LD):(strs es).length=es.length:=by rw[strs,List.length_map]
variable {l:LD}{s:Str}
theorem QJL {r:LD}(h:strs r.es=addS (strs l.es) s):r.len≤l.len+1:=by
 have h1:=QwF (strs l.es) s
 rw[←h,Ql8,Ql8] at h1
 exact h1
abbrev ksU:List CK:=[.s,.l 9,.l 9,.l 8,.l 1,.l 1,.l 1]
theorem QA3 {f:TelK [.l 1]}(hl:l.len≤1000000)(h:∀r:LD,r.len≤l.len+1→strs r.es=addS (strs l.es) s→f r):QH [l,.s s] [apK [.l 1] f]:=⟨l,s,rfl,hl,fun r hr _=>h r (QJL hr) hr⟩
abbrev mxU:Nat:=900000
def Qo:QF:=fun xs Ks=>∃s fn fp fl fb uc ua uk,xs=[.s s,.s fn,fp,fl,fb,uc,ua,uk]∧Fv fp fl∧uc.len≤mxU∧∀uc':LD,uc'.len≤uc.len+1→nthK Ks 0 [.s fn,fp,fl,fb,uc',ua,uk]
variable {f:TelK ksU}{fb fl fp ua uc uk:LD}{fn:Str}
theorem QDT (hv:Fv fp fl)(hc:uc.len≤mxU)(h:∀uc':LD,uc'.len≤uc.len+1→f fn fp fl fb uc' ua uk):Qo [.s s,.s fn,fp,fl,fb,uc,ua,uk] [apK ksU f]:=⟨s,fn,fp,fl,fb,uc,ua,uk,rfl,hv,hc,fun uc' h1 _=>h uc' h1⟩
variable {Ks:KN}{q:QF}
theorem QtV (hv:Fv fp fl)(hc:uc.len≤mxU)(h:∀uc':LD,uc'.len≤uc.len+1→Ks 0 [.s fn,fp,fl,fb,uc',ua,uk]):QlH s fn fp fl fb uc ua uk Ks q Ql QH:=by
 refine Eq.mpr (QuB ..) ?_
 have hc':uc.len≤900000:=hc
 refine bifN (fun _=>Qjw hv (bifD (fun _=>QA3 om fun r h1 _=>h r h1) fun _=>h uc om)) fun _=>h uc om
def Qja (k:Nat):QF:=fun xs Ks=>∃e fn fp fl fb uc ua uk,xs=[e,.s fn,fp,fl,fb,uc,ua,uk]∧Fv fp fl∧WE0 e∧SizeOf.sizeOf e<k∧uc.len+nN e≤mxU∧∀uc':LD,uc'.len≤uc.len+nN e→nthK Ks 0 [.s fn,fp,fl,fb,uc',ua,uk]
variable {e:LD}{k:Nat}
theorem Qob (hv:Fv fp fl)(he:WE0 e)(hs:SizeOf.sizeOf e<k)(hc:uc.len+nN e≤mxU)(h:∀uc':LD,uc'.len≤uc.len+nN e→f fn fp fl fb uc' ua uk):Qja k [e,.s fn,fp,fl,fb,uc,ua,uk] [apK ksU f]:=⟨e,fn,fp,fl,fb,uc,ua,uk,rfl,hv,he,hs,hc,fun uc' h1 _=>h uc' h1⟩
theorem QJU (h:WE e):nN (e.f 3)+nN (e.f 4)+1≤nN e:=by
 cases h<;>simp only[LD.f,LD.cs,nN,nNL,List.getD_cons_succ,List.getD_cons_zero]<;>omega
theorem QJV (h:WC e):nN (e.f 1)+nN (e.f 2)+nN (e.f 3)+nN (e.f 4)+1≤nN e:=by
 cases h<;>simp only[LD.f,LD.cs,nN,nNL,List.getD_cons_succ,List.getD_cons_zero]<;>omega
theorem QtW (hv:Fv fp fl)(he:WE0 e)(hs:SizeOf.sizeOf e<k+1)(hc:uc.len+nN e≤mxU)(h:∀uc':LD,uc'.len≤uc.len+nN e→Ks 0 [.s fn,fp,fl,fb,uc',ua,uk]) :
  QlI e fn fp fl fb uc ua uk Ks q Qo (Qja k):=by
 refine Eq.mpr (QuC ..) ?_
 have hc':uc.len+nN e≤900000:=hc
 rcases he with rfl | he
 ·exact h uc om
 ·obtain⟨p1,p2,p3,p4,p5⟩:=QBl he
  have hn:=QJU he
  rw[p5]
  refine⟨rfl,bifD (fun _=>⟨rfl,QDT hv (show uc.len≤900000 by omega) fun uc1 h1=>⟨rfl,Qob hv p1 om (show _≤900000 by omega) fun uc2 h2=>⟨rfl,Qob hv p2 om (show _≤900000 by omega) fun uc3 h3=>h uc3 om⟩⟩⟩) fun _=>⟨rfl,Qob hv p1 om (show _≤900000 by omega) fun uc2 h2=>⟨rfl,Qob hv p2 om (show _≤900000 by omega) fun uc3 h3=>h uc3 om⟩⟩⟩
def Qk:QF:=fun xs Ks=>∃k,Qja k xs Ks
theorem Ql2 (hv:Fv fp fl)(he:WE0 e)(hc:uc.len+nN e≤mxU)(h:∀uc':LD,uc'.len≤uc.len+nN e→f fn fp fl fb uc' ua uk):Qk [e,.s fn,fp,fl,fb,uc,ua,uk] [apK ksU f]:=⟨_,Qob hv he (nl) hc h⟩
def Qjb (k:Nat):QF:=fun xs Ks=>∃e fn fp fl fb uc ua uk,xs=[e,.s fn,fp,fl,fb,uc,ua,uk]∧Fv fp fl∧WC0 e∧SizeOf.sizeOf e<k∧uc.len+nN e≤mxU∧∀uc':LD,uc'.len≤uc.len+nN e→nthK Ks 0 [.s fn,fp,fl,fb,uc',ua,uk]
theorem Qyc (hv:Fv fp fl)(he:WC0 e)(hs:SizeOf.sizeOf e<k)(hc:uc.len+nN e≤mxU)(h:∀uc':LD,uc'.len≤uc.len+nN e→f fn fp fl fb uc' ua uk):Qjb k [e,.s fn,fp,fl,fb,uc,ua,uk] [apK ksU f]:=⟨e,fn,fp,fl,fb,uc,ua,uk,rfl,hv,he,hs,hc,fun uc' h1 _=>h uc' h1⟩
theorem QtX (hv:Fv fp fl)(he:WC0 e)(hs:SizeOf.sizeOf e<k+1)(hc:uc.len+nN e≤mxU)(h:∀uc':LD,uc'.len≤uc.len+nN e→Ks 0 [.s fn,fp,fl,fb,uc',ua,uk]) :
  QlJ e fn fp fl fb uc ua uk Ks q Qk (Qjb k):=by
 refine Eq.mpr (QuD ..) ?_
 have hc':uc.len+nN e≤900000:=hc
 rcases he with rfl | he
 ·exact h uc om
 ·obtain⟨p1,p2,p3,p4,p5,p6,p7⟩:=QBm he
  have hn:=QJV he
  rw[p7]
  exact⟨rfl,Ql2 hv p1 (show _≤900000 by omega) fun uc1 h1=>⟨rfl,Ql2 hv p2 (show _≤900000 by omega) fun uc2 h2=>⟨rfl,Qyc hv p3 om (show _≤900000 by omega) fun uc3 h3=>⟨rfl,Qyc hv p4 om (show _≤900000 by omega) fun uc4 h4=>h uc4 om⟩⟩⟩⟩
def Qr:QF:=fun xs Ks=>∃k,Qjb k xs Ks
theorem QG6 (hv:Fv fp fl)(he:WC0 e)(hc:uc.len+nN e≤mxU)(h:∀uc':LD,uc'.len≤uc.len+nN e→f fn fp fl fb uc' ua uk):Qr [e,.s fn,fp,fl,fb,uc,ua,uk] [apK ksU f]:=⟨_,Qyc hv he (nl) hc h⟩
structure RmU (n:Nat)(uc ua uk:LD):Prop where
 c:uc.len+n≤900000
 a:ua.len+n≤900000
 k:uk.len+n≤900000
structure GrU (n:Nat)(uc ua uk uc' ua' uk':LD):Prop where
 c:uc'.len≤uc.len+n
 a:ua'.len≤ua.len+n
 k:uk'.len≤uk.len+n
def QdS (k:Nat):QF:=fun xs Ks=>∃l fn fp fl fb uc ua uk,xs=[l,.s fn,fp,fl,fb,uc,ua,uk]∧Fv fp fl∧l.len≤4096∧(∀x∈l.es,RS fp fl x)∧SizeOf.sizeOf l<k∧RmU (nN l) uc ua uk ∧
 ∀uc' ua' uk':LD,GrU (nN l) uc ua uk uc' ua' uk'→strs uk'.es=(clD l).foldl addS (strs uk.es)→nthK Ks 0 [.s fn,fp,fl,fb,uc',ua',uk']
theorem Qvk (hv:Fv fp fl)(hl:l.len≤4096)(hr:∀x∈l.es,RS fp fl x)(hs:SizeOf.sizeOf l<k)(hm:RmU (nN l) uc ua uk)
  (h:∀uc' ua' uk':LD,GrU (nN l) uc ua uk uc' ua' uk'→strs uk'.es=(clD l).foldl addS (strs uk.es)→f fn fp fl fb uc' ua' uk'):QdS k [l,.s fn,fp,fl,fb,uc,ua,uk] [apK ksU f]:=⟨l,fn,fp,fl,fb,uc,ua,uk,rfl,hv,hl,hr,hs,hm,fun uc' ua' uk' h1 h2 _=>h uc' ua' uk' h1 h2⟩
def QeS (j:Nat):QF:=fun xs Ks=>∃l i k fn fp fl fb uc ua uk s0 s1 s2 s3 s4 s5 s6 s7 s8 s9,xs=[l,.n i,.n k,.s fn,fp,fl,fb,uc,ua,uk,.n s0,.s s1,.s s2,s3,s4,s5,s6,s7,s8,.n s9]∧Fv fp fl∧s6.len≤4096∧(∀x∈s6.es,WA2 x)∧0≤k∧k≤s6.len∧(s6.len - k:Int).toNat<j∧uc.len+nNL (s6.es.drop k.toNat)≤mxU ∧
 ∀uc':LD,uc'.len≤uc.len+nNL (s6.es.drop k.toNat)→nthK Ks 0 [l,.n i,.s fn,fp,fl,fb,uc',ua,uk,.n s0,.s s1,.s s2,s3,s4,s5,s6,s7,s8,.n s9]
theorem QGa {es:List LD}{i:Nat}(h:i<es.length):nNL (es.drop i)=nN (es.getD i .nul)+nNL (es.drop (i+1)):=by rw[drop_at h];simp only[nNL]
theorem QK1 {x:LD}(h:WA2 x):nN (x.f 2)≤nN x:=by
 rcases h with⟨e,rfl,he⟩ | ⟨s,rfl,_⟩<;>simp only[LD.f,LD.cs,nN,nNL,List.getD_cons_succ,List.getD_cons_zero]<;>omega
variable {i s0 s9:Int}{j:Nat}{q1 q2 q3 q4:QF}{s1 s2:Str}{s3 s4 s5 s6 s7 s8:LD}
theorem Qoi {k:Int}{Ks:List LP}(h:QeS (j+1) [l,.n i,.n k,.s fn,fp,fl,fb,uc,ua,uk,.n s0,.s s1,.s s2,s3,s4,s5,s6,s7,s8,.n s9] Ks) :
  Qhy l i k fn fp fl fb uc ua uk s0 s1 s2 s3 s4 s5 s6 s7 s8 s9 (fun ys=>QeS j ys Ks) (nthK Ks) q q1 q2 Qk q3 q4:=by
 obtain⟨l_,i_,k_,fn_,fp_,fl_,fb_,uc_,ua_,uk_,s0_,s1_,s2_,s3_,s4_,s5_,s6_,s7_,s8_,s9_,eq,hv,hl,hw,h0,h1,hj,hc,hk⟩:=h
 cases eq
 refine Eq.mpr (Qo2 ..) ?_
 refine bifD (fun hb=>?_) fun hb=>hk uc om
 have hb':k<(s6.len:Int):=hb
 have hlt:k.toNat<s6.es.length:=by have:s6.len=s6.es.length:=rfl;omega
 have hm:s6.es.getD k.toNat .nul∈s6.es:=by rw[List.getD_eq_getElem?_getD,List.getElem?_eq_getElem hlt];exact List.getElem_mem hlt
 have hx:=hw _ hm
 have hn:=QK1 hx
 have e1:IntKind.i64.wrap (k+1)=k+1:=QJ om om
 have e2:(k+1).toNat=k.toNat+1:=om
 rw[QGa hlt] at hc hk
 have hc':uc.len+(nN (s6.es.getD k.toNat .nul)+nNL (s6.es.drop (k.toNat+1)))≤900000:=hc
 simp only[at_f,e1]
 refine⟨decB h0 hb,Ql2 hv (QDN hx) (show _≤900000 by omega) fun uc1 h1'=>?_⟩
 refine⟨l,i,k+1,fn,fp,fl,fb,uc1,ua,uk,s0,s1,s2,s3,s4,s5,s6,s7,s8,s9,rfl,hv,hl,hw,om,om,om,?_,fun uc2 h2=>?_⟩
 ·rw[e2];show _≤900000;omega
 ·rw[e2] at h2;exact hk uc2 om
abbrev ksA:List CK:=[.l 8,.i .i64,.s,.l 9,.l 9,.l 8,.l 1,.l 1,.l 1,.i .i64,.s,.s,.p 5,.p 5,.p 6,.l 7,.l 8,.l 8,.i .i64]
theorem QIq {f:TelK ksA}(hv:Fv fp fl)(hl:s6.len≤4096)(hw:∀x∈s6.es,WA2 x)(hc:uc.len+nN s6≤mxU)
  (h:∀uc':LD,uc'.len≤uc.len+nN s6→f l i fn fp fl fb uc' ua uk s0 s1 s2 s3 s4 s5 s6 s7 s8 s9):∃j,QeS j [l,.n i,.n 0,.s fn,fp,fl,fb,uc,ua,uk,.n s0,.s s1,.s s2,s3,s4,s5,s6,s7,s8,.n s9] [apK ksA f]:=by
 have hd:nNL (s6.es.drop (0:Int).toNat)≤nN s6:=QoI s6
 have hc':uc.len+nN s6≤900000:=hc
 exact⟨_,l,i,0,fn,fp,fl,fb,uc,ua,uk,s0,s1,s2,s3,s4,s5,s6,s7,s8,s9,rfl,hv,hl,hw,om,om,nl,(show _≤900000 by omega),fun uc' h1 _=>h uc' om⟩
def QeK (k j:Nat):QF:=fun xs Ks=>∃l i fn fp fl fb uc ua uk,xs=[l,.n i,.s fn,fp,fl,fb,uc,ua,uk]∧Fv fp fl∧l.len≤4096∧(∀x∈l.es,RS fp fl x)∧SizeOf.sizeOf l<k+1∧0≤i∧i≤l.len∧(l.len - i:Int).toNat<j∧RmU (nNL (l.es.drop i.toNat)) uc ua uk ∧
 ∀uc' ua' uk':LD,GrU (nNL (l.es.drop i.toNat)) uc ua uk uc' ua' uk'→strs uk'.es=(clL (l.es.drop i.toNat)).foldl addS (strs uk.es)→nthK Ks 0 [.s fn,fp,fl,fb,uc',ua',uk']
theorem QrG (hv:Fv fp fl)(hl:l.len≤4096)(hr:∀x∈l.es,RS fp fl x)(hs:SizeOf.sizeOf l<k+1)(hm:RmU (nN l) uc ua uk)
  (hk:∀uc' ua' uk':LD,GrU (nN l) uc ua uk uc' ua' uk'→strs uk'.es=(clD l).foldl addS (strs uk.es)→Ks 0 [.s fn,fp,fl,fb,uc',ua',uk']) :
  QkB l fn fp fl fb uc ua uk Ks q q1 q2 q3 q4 (QdS k) (fun xs Ks=>∃j,QeK k j xs Ks) (fun xs Ks=>∃j,QeS j xs Ks):=by
 refine Eq.mpr (QsL ..) ?_
 have hd:nNL (l.es.drop (0:Int).toNat)≤nN l:=QoI l
 obtain⟨m1,m2,m3⟩:=hm
 refine⟨_,l,0,fn,fp,fl,fb,uc,ua,uk,rfl,hv,hl,hr,hs,om,Int.natCast_nonneg _,nl,⟨om,om,om⟩,fun uc' ua' uk' g hs _=>hk uc' ua' uk' ⟨by have:=g.c;omega,by have:=g.a;omega,by have:=g.k;omega⟩ ?_⟩
 rw[hs,←Qo8 l];rfl
def UTl (k:Nat)(E F C th el:LD)(fn:Str)(fp fl fb uc ua uk:LD)(R:Str→LD→LD→LD→LD→LD→LD→Prop):Prop:=
 Qk [E,.s fn,fp,fl,fb,uc,ua,uk] [apK ksU fun (z1:Str) (a1 a2 a3 a4 a5 a6:LD)=>(Qk [F,.s z1,a1,a2,a3,a4,a5,a6] [apK ksU fun (z2:Str) (b1 b2 b3 b4 b5 b6:LD)=>(Qr [C,.s z2,b1,b2,b3,b4,b5,b6] [apK ksU fun (z3:Str) (c1 c2 c3 c4 c5 c6:LD)=>(QdS k [th,.s z3,c1,c2,c3,c4,c5,c6] [apK ksU fun (z4:Str) (d1 d2 d3 d4 d5 d6:LD)=>(QdS k [el,.s z4,d1,d2,d3,d4,d5,d6] [apK ksU fun (z5:Str) (e1 e2 e3 e4 e5 e6:LD)=>(R z5 e1 e2 e3 e4 e5 e6:Prop)]:Prop)]:Prop)]:Prop)]:Prop)]
theorem utl {E F C th el:LD}{R:Str→LD→LD→LD→LD→LD→LD→Prop}(hv:Fv fp fl)(hE:WE0 E)(hF:WE0 F)(hC:WC0 C)(ht:th.len≤4096)(he:el.len≤4096)(rt:∀x∈th.es,RS fp fl x)(re:∀x∈el.es,RS fp fl x)(zt:SizeOf.sizeOf th<k)(ze:SizeOf.sizeOf el<k)
  (hm:RmU (nN E+nN F+nN C+nN th+nN el) uc ua uk) (h:∀uc' ua' uk':LD,GrU (nN E+nN F+nN C+nN th+nN el) uc ua uk uc' ua' uk'→strs uk'.es=(clD th++clD el).foldl addS (strs uk.es)→R fn fp fl fb uc' ua' uk'):UTl k E F C th el fn fp fl fb uc ua uk R:=by
 obtain⟨m1,m2,m3⟩:=hm
 refine Ql2 hv hE (show _≤900000 by omega) fun uc1 h1=>?_
 refine Ql2 hv hF (show _≤900000 by omega) fun uc2 h2=>?_
 refine QG6 hv hC (show _≤900000 by omega) fun uc3 h3=>?_
 refine Qvk hv ht rt zt ⟨om,om,om⟩ fun uc4 ua4 uk4 g4 s4=>?_
 obtain⟨g1,g2,g3⟩:=g4
 refine Qvk hv he re ze ⟨om,om,om⟩ fun uc5 ua5 uk5 g5 s5=>?_
 obtain⟨g6,g7,g8⟩:=g5
 refine h _ _ _ ⟨om,om,om⟩ ?_
 rw[s5,s4,List.foldl_append]
theorem QpB {Ks:List LP}(h:QeK k (j+1) [l,.n i,.s fn,fp,fl,fb,uc,ua,uk] Ks) :
  Qip l i fn fp fl fb uc ua uk (fun ys=>QeK k j ys Ks) (nthK Ks) q QH Qo Qk Qr (QdS k) (fun xs Ks=>∃j,QeS j xs Ks):=by
 obtain⟨l_,i_,fn_,fp_,fl_,fb_,uc_,ua_,uk_,eq,hv,hl,hrs,hsz,h0,h1,hj,hm,hk⟩:=h
 cases eq
 refine Eq.mpr (Qqc ..) ?_
 refine bifD (fun hb=>?_) fun hb=>?_
 rotate_left
 ·have hb':¬i<(l.len:Int):=hb
  have hz:l.es.drop i.toNat=[]:=List.drop_eq_nil_of_le (by have:l.len=l.es.length:=rfl;omega)
  rw[hz] at hk
  exact hk uc ua uk ⟨om,om,om⟩ rfl
 have hb':i<(l.len:Int):=hb
 have hlt:i.toNat<l.es.length:=by have:l.len=l.es.length:=rfl;omega
 have hmem:l.es.getD i.toNat .nul∈l.es:=by rw[List.getD_eq_getElem?_getD,List.getElem?_eq_getElem hlt];exact List.getElem_mem hlt
 have hx:=hrs _ hmem
 have ei:IntKind.i64.wrap (i+1)=i+1:=QJ om om
 have e2:(i+1).toNat=i.toNat+1:=om
 have hsz2:SizeOf.sizeOf (l.es.getD i.toNat .nul)<SizeOf.sizeOf l:=by
  cases l<;>simp only[LD.es] at hlt hmem ⊢<;>try (simp at hlt;done)
  have:=List.sizeOf_lt_of_mem hmem
  simp only[LD.l.sizeOf_spec];omega
 rw[QGa hlt] at hm hk
 rw[drop_at hlt,Qwo] at hk
 have hex:∃s,l.es.getD i.toNat .nul=s:=⟨_,rfl⟩
 obtain⟨s,hs⟩:=hex
 have g:∀c,(l.at 10 i).f c=s.f c:=fun c=>by rw[at_f,hs]
 rw[hs] at hx hsz2 hm hk
 simp only[g,ei]
 cases hx with
 | mk kk X Y E F C ar th el n hS hK ha ht he=>
  show (((decide (0≤i))&&(decide (i<(Int.ofNat l.len))))=true∧_)
  have z1:SizeOf.sizeOf th<k:=by simp at hsz2;omega
  have z2:SizeOf.sizeOf el<k:=by simp at hsz2;omega
  have hE0:WE0 E:=by
   by_cases h:kk=0∨kk=5∨kk=6∨kk=7∨kk=9
   ·exact .inr (hS.e.1 h)
   ·exact .inl (hS.e.2 h)
  have hF0:WE0 F:=by
   by_cases h:kk=7
   ·exact .inr (hS.f.1 h)
   ·exact .inl (hS.f.2 h)
  have hC0:WC0 C:=by
   by_cases h:10≤kk
   ·exact .inr (hS.c.1 h)
   ·exact .inl (hS.c.2 om)
  rw[Qtx] at hm hk
  rw[Qwn] at hk
  obtain⟨m1,m2,m3⟩:=hm
  have tl:∀uc1 ua1 uk1:LD,uc1.len≤uc.len+nN ar+1→ua1.len≤ua.len+1→uk1.len≤uk.len+1→strs uk1.es=(if kk=8 then [Y] else []).foldl addS (strs uk.es) →
    UTl k E F C th el fn fp fl fb uc1 ua1 uk1 fun z c1 c2 c3 c4 c5 c6=>QeK k j [l,.n (i+1),.s z,c1,c2,c3,c4,c5,c6] Ks:=fun uc1 ua1 uk1 h1 h2 h3 h4=>by
   refine utl hv hE0 hF0 hC0 hS.n.2.1 hS.n.2.2 ht he z1 z2 ⟨om,om,om⟩ fun uc2 ua2 uk2 g s2=>?_
   obtain⟨g1,g2,g3⟩:=g
   refine⟨l,i+1,fn,fp,fl,fb,uc2,ua2,uk2,rfl,hv,hl,hrs,hsz,om,om,om,?_,fun uc3 ua3 uk3 g' s3=>?_⟩
   ·rw[e2];exact⟨om,om,om⟩
   ·rw[e2] at g' s3
    obtain⟨g4,g5,g6⟩:=g'
    refine hk _ _ _ ⟨om,om,om⟩ ?_
    rw[s3,s2,h4];simp only[List.foldl_append]
  have sA:¬kk=8→strs uk.es=(if kk=8 then [Y] else []).foldl addS (strs uk.es):=fun h=>by rw[if_neg h];rfl
  have nm:∀(s:Str) (f:TelK ksU),(∀uc':LD,uc'.len≤uc.len+1→f fn fp fl fb uc' ua uk)→Qo [.s s,.s fn,fp,fl,fb,uc,ua,uk] [apK ksU f]:=fun s f h=>QDT hv (show _≤900000 by omega) h
  refine⟨decB h0 hb,?_⟩
  refine bifD (fun h8=>?_) fun n0=>bifD (fun h8=>?_) fun n4=>bifD (fun h8=>?_) fun n1=>bifD (fun h8=>?_) fun n6=>bifD (fun h8=>?_) fun n7=>bifD (fun h8=>?_) fun n8=>?_
  ·have h8':kk=0:=h8
   exact nm _ _ fun uc1 h1=>tl uc1 ua uk om om om (sA om)
  ·have h8':kk=4:=h8
   exact nm _ _ fun uc1 h1=>tl uc1 ua uk om om om (sA om)
  ·have h8':kk=1:=h8
   exact nm _ _ fun uc1 h1=>tl uc1 ua uk om om om (sA om)
  ·have h8':kk=6:=h8
   exact nm _ _ fun uc1 h1=>QA3 om fun ua1 h2 _=>tl uc1 ua1 uk om om om (sA om)
  ·have h8':kk=7:=h8
   exact QA3 om fun ua1 h2 _=>tl uc ua1 uk om om om (sA om)
  ·have h8':kk=8:=h8
   refine nm _ _ fun uc1 h1=>QA3 om fun uk1 h2 h3=>QIq hv hS.n.1 ha (show uc1.len+nN ar≤900000 by omega) fun uc2 h4=>?_
   show UTl k E F C th el fn fp fl fb uc2 ua uk1 fun z c1 c2 c3 c4 c5 c6=>QeK k j [l,.n (IntKind.i64.wrap (i+1)),.s z,c1,c2,c3,c4,c5,c6] Ks
   rw[ei]
   have h4':uc2.len≤uc1.len+nN ar:=h4
   refine tl uc2 ua uk1 om om om ?_
   rw[if_pos h8',h3];rfl
  ·have h8':¬kk=8:=n8
   exact tl uc ua uk om om om (sA h8')
def Qp:QF:=fun xs Ks=>∃k,QdS k xs Ks
def QN:QF:=fun xs Ks=>∃fn fp fl fb,xs=[.s fn,fp,fl,fb]∧Fv fp fl∧fb.len≤4096∧(∀x∈fb.es,RS fp fl x)∧nN fb≤4096∧∀a b c:LD,c.len≤4096→strs c.es=(clD fb).foldl addS []→nthK Ks 0 [a,b,c]
theorem QIy {f:TelK [.l 1,.l 1,.l 1]}(hv:Fv fp fl)(hl:fb.len≤4096)(hr:∀x∈fb.es,RS fp fl x)(hn:nN fb≤4096)(h:∀a b c:LD,c.len≤4096→strs c.es=(clD fb).foldl addS []→f a b c):QN [.s fn,fp,fl,fb] [apK [.l 1,.l 1,.l 1] f]:=⟨fn,fp,fl,fb,rfl,hv,hl,hr,hn,fun a b c h1 h2 _=>h a b c h1 h2⟩
theorem QzV (hv:Fv fp fl)(hl:fb.len≤4096)(hr:∀x∈fb.es,RS fp fl x)(hn:nN fb≤4096)(hk:∀a b c:LD,c.len≤4096→strs c.es=(clD fb).foldl addS []→Ks 0 [a,b,c]):QqO fn fp fl fb Ks q Qp:=by
 refine Eq.mpr (QAC ..) ?_
 have z:LD.nul.len=0:=rfl
 refine⟨_,Qvk hv hl hr (nl) ⟨om,om,om⟩ fun uc ua uk g s=>hk _ _ _ ?_ s⟩
 have:=g.k
 omega
end Go.Proofs.YtmdppkbekmpopaaGreat
namespace Go.Proofs.YtmdppkbekmpopaaGreat
open Go Go.Sh Go.Va
theorem Qhn {k s:Str}{x:LD}(hx:keyE x=k)(hs:s≠k):∀es:List LD,QU s (upE k x es)=QU s es
 | []=>by simp only[upE,QU];exact if_neg (fun h=>hs (by rw[←h,hx]))
 | e::r=>by
  unfold upE
  by_cases h:keyE e=k
  ·rw[if_pos h]
   simp only[QU]
   rw[if_neg (fun h'=>hs (by rw[←h',hx])),if_neg (fun h'=>hs (by rw[←h',h]))]
  ·rw[if_neg h]
   simp only[QU,Qhn hx hs r]
theorem Qpt {k:Str}{x:LD}(hx:keyE x=k):∀es:List LD,(upE k x es).map keyE=if k∈es.map keyE then es.map keyE else es.map keyE++[k]
 | []=>by simp[upE,hx]
 | e::r=>by
  unfold upE
  by_cases h:keyE e=k
  ·rw[if_pos h,if_pos (by rw[List.map_cons,h];exact .head _),List.map_cons,List.map_cons,hx,h]
  ·rw[if_neg h,List.map_cons,Qpt hx r]
   by_cases h2:k∈r.map keyE
   ·rw[if_pos h2,if_pos (by rw[List.map_cons];exact .tail _ h2),List.map_cons]
   ·rw[if_neg h2,if_neg (by rw[List.map_cons,List.mem_cons,not_or];exact⟨fun h'=>h h'.symm,h2⟩),List.map_cons,List.cons_append]
variable {es:List LD}{k:Str}{x:LD}
theorem QwJ (hx:keyE x=k)(h:(es.map keyE).Nodup):((upE k x es).map keyE).Nodup:=by
 rw[Qpt hx]
 by_cases h2:k∈es.map keyE
 ·rw[if_pos h2];exact h
 ·rw[if_neg h2,List.nodup_append]
  exact⟨h,by simp,fun a ha b hb=>by rw[List.mem_singleton.1 hb];exact fun e=>h2 (e ▸ ha)⟩
theorem Qtm {s:Str}(hx:keyE x=k):s∈(upE k x es).map keyE↔s=k∨s∈es.map keyE:=by
 rw[Qpt hx]
 by_cases h2:k∈es.map keyE
 ·rw[if_pos h2]
  exact⟨.inr,fun h=>h.elim (fun e=>e ▸ h2) id⟩
 ·rw[if_neg h2,List.mem_append,List.mem_singleton,Or.comm]
def FsOk (l:LD):Prop:=l.len≤6∧∀e∈l.es,FnOk e
theorem FsOk.at {l:LD}(h:FsOk l){m:Nat}(hm:m<l.es.length):FnOk (l.es.getD m .nul):=h.2 _ (by rw[List.getD_eq_getElem?_getD,List.getElem?_eq_getElem hm];exact List.getElem_mem hm)
structure GK (es g:List LD):Prop where
 nd:(g.map keyE).Nodup
 ks:∀s,s∈g.map keyE↔s∈strs es
theorem Qny:∀ {a b:List Str},a.Nodup→(∀s∈a,s∈b)→a.length≤b.length
 | [],b,_,_=>zo
 | x::r,b,hn,hs=>by
  rw[List.nodup_cons] at hn
  have hx:x∈b:=hs x (.head _)
  have h1:=Qny (a:=r) (b:=b.erase x) hn.2 fun s h=>(List.mem_erase_of_ne (fun e:s=x=>hn.1 (by rw[←e];exact h))).2 (hs s (.tail _ h))
  rw[List.length_erase_of_mem hx] at h1
  have:=List.length_pos_of_mem hx
  simp only[List.length_cons];omega
variable {g:List LD}
theorem GK.len (h:GK es g):g.length≤es.length:=by
 have:=Qny h.nd fun s hs=>(h.ks s).1 hs
 rwa [List.length_map,Ql8] at this
theorem GK.up (h:GK es g)(hx:keyE x=k)(hk:k∈strs es):GK es (upE k x g):=⟨QwJ hx h.nd,fun s=>by
 rw[Qtm hx,h.ks]
 exact⟨fun h=>h.elim (fun e=>e ▸ hk) id,.inr⟩⟩
theorem Qxu (s:Str)(v:LD):keyE (.t [.s s,v])=s:=rfl
end Go.Proofs.YtmdppkbekmpopaaGreat
namespace Go.Proofs.YtmdppkbekmpopaaGreat
open Go Go.Sh Go.Va
theorem QFs:∀(x y:Str),Go.Op.bytesLess x y=decide (x<y)
 | [],[]=>by simp[Go.Op.bytesLess]
 | [],b::y=>by simp[Go.Op.bytesLess]
 | a::x,[]=>by simp[Go.Op.bytesLess]
 | a::x,b::y=>by
  rw[Go.Op.bytesLess,QFs x y]
  by_cases h:a<b
  ·simp[h,List.cons_lt_cons_iff]
  ·by_cases h2:a=b
   ·subst h2;simp[List.cons_lt_cons_iff]
   ·simp[h,h2,List.cons_lt_cons_iff]
abbrev SS (l:List Str):Prop:=l.Pairwise (·<·)
theorem QwE:∀ {l:List Str}{s x:Str},x∈addS l s↔x=s∨x∈l
 | [],s,x=>by simp[addS]
 | y::r,s,x=>by
  unfold addS
  split
  ·rw[List.mem_cons,QwE,List.mem_cons]
   constructor
   ·rintro (h | h | h)
    ·exact .inr (.inl h)
    ·exact .inl h
    ·exact .inr (.inr h)
   ·rintro (h | h | h)
    ·exact .inr (.inl h)
    ·exact .inl h
    ·exact .inr (.inr h)
  ·split
   ·rename_i h
    rw[List.mem_cons]
    constructor
    ·exact .inr
    ·rintro (e | e)
     ·exact .inl (by rw[e,h])
     ·exact e
   ·rw[List.mem_cons]
theorem QKj {a b:Str}(h1:¬a<b)(h2:a≠b):b<a:=by
 have h3:b≤a:=List.not_lt.1 h1
 exact Classical.byContradiction fun h=>h2 (List.le_antisymm (List.not_lt.1 h) h3)
theorem QED:∀ {l:List Str}{s:Str},SS l→SS (addS l s)
 | [],s,_=>by simp[addS]
 | y::r,s,h=>by
  rw[SS,List.pairwise_cons] at h
  unfold addS
  split
  ·rename_i hb
   rw[QFs,decide_eq_true_eq] at hb
   rw[SS,List.pairwise_cons]
   refine⟨fun x hx=>?_,QED h.2⟩
   rcases QwE.1 hx with rfl | hx
   ·exact hb
   ·exact h.1 x hx
  ·rename_i hb
   rw[QFs,decide_eq_true_eq] at hb
   split
   ·rw[SS,List.pairwise_cons];exact h
   ·rename_i hn
    have hs:s<y:=QKj hb hn
    rw[SS,List.pairwise_cons]
    refine⟨fun x hx=>?_,by rw[List.pairwise_cons];exact h⟩
    rcases List.mem_cons.1 hx with rfl | hx
    ·exact hs
    ·exact List.lt_trans hs (h.1 x hx)
theorem QEf:∀ {l acc:List Str},SS acc→SS (l.foldl addS acc)
 | [],acc,h=>h
 | s::l,acc,h=>QEf (l:=l) (QED h)
theorem QCr:∀ {l acc:List Str}{x:Str},x∈l.foldl addS acc↔x∈l∨x∈acc
 | [],acc,x=>by simp
 | s::l,acc,x=>by
  rw[List.foldl_cons,QCr,QwE,List.mem_cons]
  constructor
  ·rintro (h | h | h)
   ·exact .inl (.inr h)
   ·exact .inl (.inl h)
   ·exact .inr h
  ·rintro ((h | h) | h)
   ·exact .inr (.inl h)
   ·exact .inl h
   ·exact .inr (.inr h)
theorem QEN:∀ {a b:List Str},SS a→SS b→(∀x,x∈a↔x∈b)→a=b
 | [],[],_,_,_=>rfl
 | [],y::b,_,_,h=>absurd ((h y).2 (.head _)) (by simp)
 | x::a,[],_,_,h=>absurd ((h x).1 (.head _)) (by simp)
 | x::a,y::b,ha,hb,h=>by
  rw[SS,List.pairwise_cons] at ha hb
  have hxy:x=y:=by
   rcases List.mem_cons.1 ((h x).1 (.head _)) with e | e
   ·exact e
   ·rcases List.mem_cons.1 ((h y).2 (.head _)) with e2 | e2
    ·exact e2.symm
    ·exact absurd (List.lt_trans (ha.1 y e2) (hb.1 x e)) (List.lt_irrefl _)
  subst hxy
  have hab:a=b:=QEN ha.2 hb.2 fun z=>by
   constructor
   ·intro hz
    rcases List.mem_cons.1 ((h z).1 (.tail _ hz)) with e | e
    ·exact absurd (ha.1 z hz) (by rw[e];exact List.lt_irrefl _)
    ·exact e
   ·intro hz
    rcases List.mem_cons.1 ((h z).2 (.tail _ hz)) with e | e
    ·exact absurd (hb.1 z hz) (by rw[e];exact List.lt_irrefl _)
    ·exact e
  rw[hab]
variable {l:List Str}
theorem Qnm {x:Str}:x∈Qfr l↔x∈l:=List.mem_mergeSort
theorem QvA (h:l.Nodup):SS (Qfr l):=by
 have hp:(Qfr l).Perm l:=List.mergeSort_perm _ _
 have h1:=List.pairwise_mergeSort (le:=fun x y:Str=>decide (x≤y)) (fun a b c h1 h2=>by
  simp only[decide_eq_true_eq] at *
  exact List.le_trans h1 h2) (fun a b=>by
  simp only[Bool.or_eq_true,decide_eq_true_eq]
  exact List.le_total a b) l
 have h2:(Qfr l).Nodup:=hp.nodup_iff.2 h
 have h3:(Qfr l).Pairwise fun a b=>a≤b∧a≠b:=by
  refine List.Pairwise.and ?_ h2
  exact h1.imp fun hab=>by simpa using hab
 exact h3.imp fun {a b} hab=>Classical.byContradiction fun hn=>hab.2 (List.le_antisymm hab.1 (List.not_lt.1 hn))
theorem QtA {x:Str}:∀ {es:List LD},x∈clL es↔∃s∈es,x∈clT s
 | []=>by simp[clL]
 | y::r=>by
  rw[Qwo,List.mem_append,QtA]
  simp
variable {fl fp:LD}
theorem QJw {s:LD}(h:RS fp fl s):∀x∈clT s,QdA fp fl x=0∧x.length≤4096:=by
 induction h with
 | mk k X Y E F C ar th el n hS hK ha ht he iht ihe=>
  intro x hx
  rw[Qwn] at hx
  rcases List.mem_append.1 hx with h1 | h1
  ·by_cases h8:k=8
   ·rw[if_pos h8,List.mem_singleton] at h1
    rw[h1]
    exact⟨hK.y.2 om,(hS.y.1 om).2⟩
   ·rw[if_neg h8] at h1;cases h1
  ·rcases List.mem_append.1 h1 with h1 | h1
   ·rw[←Qo8] at h1
    obtain⟨s,hs,hx⟩:=QtA.1 h1
    exact iht s hs x hx
   ·rw[←Qo8] at h1
    obtain⟨s,hs,hx⟩:=QtA.1 h1
    exact ihe s hs x hx
mutual
theorem QJx:∀d:LD,(clT d).length≤nN d
 | .t cs=>by
  have:=QJy cs
  simp only[clT,nN];omega
 | .p _ cs=>zo
 | .l _ _ _=>zo
 | .n _=>zo
 | .b _=>zo
 | .s _=>zo
 | .nul=>zo
theorem Qza:∀d:LD,(clD d).length≤nN d
 | .l _ _ es=>by
  have:=Qy9 es
  simp only[clD,nN];omega
 | .t cs=>zo
 | .p _ cs=>zo
 | .n _=>zo
 | .b _=>zo
 | .s _=>zo
 | .nul=>zo
theorem QJy:∀cs:List LD,(clC cs).length≤nNL cs+1
 | k::x1::Y::x3::x4::x5::x6::th::el::r=>by
  have h1:=Qza th
  have h2:=Qza el
  simp only[clC,nNL,List.length_append]
  split<;>simp only[List.length_cons,List.length_nil]<;>omega
 | []=>zo
 | [_]=>zo
 | [_,_]=>zo
 | [_,_,_]=>zo
 | [_,_,_,_]=>zo
 | [_,_,_,_,_]=>zo
 | [_,_,_,_,_,_]=>zo
 | [_,_,_,_,_,_,_]=>zo
 | [_,_,_,_,_,_,_,_]=>zo
theorem Qy9:∀es:List LD,(clL es).length≤nNL es
 | []=>zo
 | x::r=>by
  have h1:=QJx x
  have h2:=Qy9 r
  simp only[clL,nNL,List.length_append];omega
end
theorem QEb {s:Str}:∀ {l kn:List LD},QnA l s=0→QU s (knL l kn)=QU s kn
 | [],kn,_=>rfl
 | x::r,kn,h=>by
  unfold QnA at h
  by_cases hx:(x.f 0).st=s
  ·rw[if_pos hx] at h
   split at h<;>omega
  ·rw[if_neg hx] at h
   rw[knL,QEb h]
   exact Qhn (Qxu _ _) (fun e=>hx e.symm) kn
theorem QHO {kn fd:List LD}{s:Str}(h:QU s kn=none):addG kn fd s=upE s (.t [.s s]) fd:=by
 unfold addG;rw[h]
theorem QIg {kn:List LD}:∀ {l:List Str}{fd:List LD},(∀s∈l,QU s kn=none)→(fd.map keyE).Nodup→((l.foldl (addG kn) fd).map keyE).Nodup∧∀x,x∈(l.foldl (addG kn) fd).map keyE↔x∈l∨x∈fd.map keyE
 | [],fd,_,hn=>⟨hn,fun x=>by simp⟩
 | s::l,fd,h,hn=>by
  rw[List.foldl_cons,QHO (h s (.head _))]
  have hx:keyE (.t [.s s])=s:=rfl
  obtain⟨h1,h2⟩:=QIg (l:=l) (fun s' hs=>h s' (.tail _ hs)) (QwJ hx hn)
  refine⟨h1,fun x=>?_⟩
  rw[h2,Qtm hx,List.mem_cons]
  constructor
  ·rintro (h | h | h)
   ·exact .inl (.inr h)
   ·exact .inl (.inl h)
   ·exact .inr h
  ·rintro ((h | h) | h)
   ·exact .inr (.inl h)
   ·exact .inl h
   ·exact .inr (.inr h)
theorem QGT {fb:LD}(hr:∀x∈fb.es,RS fp fl x):Qo9 fp fl fb=(clD fb).foldl addS []:=by
 have hk:∀s∈clL fb.es,QU s (knL (fp.es++fl.es) [])=none:=fun s hs=>by
  obtain⟨d,hd,hx⟩:=QtA.1 hs
  rw[QEb (QJw (hr d hd) s hx).1];rfl
 obtain⟨h1,h2⟩:=QIg (fd:=[]) hk (by simp)
 refine QEN (QvA h1) (QEf (by simp[SS])) fun x=>?_
 rw[Qo9,Qnm,h2,QCr,Qo8]
 simp
end Go.Proofs.YtmdppkbekmpopaaGreat
namespace Go.Proofs.YtmdppkbekmpopaaGreat
open Go Go.Sh Go.Va
theorem QIB {fn:Str}{fp fl fb:LD}{f:TelK [.r 1]}(P:FnP fn fp fl fb)(h:∀w:List LD,w.length≤4096→strs w=(clD fb).foldl addS []→f w):QP [.s fn,fp,fl,fb] [apK [.r 1] f]:=by
  have hm:=P.m
  have h1:=Qy9 fb.es
  have h2:=QoI fb
  have key:f (rowS (Qo9 fp fl fb)):=by
   refine h _ ?_ ?_
   · rw[rowS,List.length_map,Qo9,Qfr,List.length_mergeSort,List.length_map]
     have:=Qjg (knL (fp.es++fl.es) []) (clL fb.es) []
     simp only[List.length_nil] at this;omega
   · rw[←QGT P.r,strs,rowS,List.map_map]
     exact (List.map_congr_left fun x _=>rfl).trans (List.map_id _)
  exact⟨fn,fp,fl,fb,rfl,P.v,P.n,P.r,om,fun _=>key⟩
theorem QzG:∀(l acc:List Str),(l.foldl addS acc).length≤acc.length+l.length
 | [],acc=>by simp
 | s::l,acc=>by
  have h1:=QzG l (addS acc s)
  have h2:=QwF acc s
  simp only[List.foldl_cons,List.length_cons];omega
theorem PrOk.fs {F:LD}(h:PrOk F):FsOk F:=⟨Nat.le_trans h.1 om,h.2⟩
end Go.Proofs.YtmdppkbekmpopaaGreat
