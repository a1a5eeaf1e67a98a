import Derived.Test.YtmdppkbekmpopaaGreatHt
set_option linter.unusedVariables false
set_option linter.unusedSimpArgs false
set_option maxRecDepth 100000
set_option maxHeartbeats 4000000
noncomputable section
namespace Go.Proofs.YtmdppkbekmpopaaGreat
open Go Go.Sh Go.Va
theorem QwF:∀(l:List Str)(s:Str),(addS l s).length≤l.length+1
 | [],s=>by simp[addS]
 | x::r,s=>by
  have:=QwF r s
  simp only[addS]
  split
  ·simp only[List.length_cons];omega
  ·split<;>simp only[List.length_cons]<;>omega
theorem Ql8 (es:List LD):(strs es).length=es.length:=by rw[strs,List.length_map]
theorem QJL {r l:LD}{s:Str}(h:strs r.es=addS (strs l.es) s):r.len≤l.len+1:=by
 have h1:=QwF (strs l.es) s
 rw[←h,Ql8,Ql8] at h1
 exact h1
abbrev ksU:List CK:=[.s,.l 9,.l 9,.l 8,.l 1,.l 1,.l 1]
theorem QA3 {l:LD}{s:Str}{f:TelK [.l 1]}(hl:l.len≤1000000)(h:∀r:LD,r.len≤l.len+1→strs r.es=addS (strs l.es) s→f r):QH [l,.s s] [apK [.l 1] f]:=⟨l,s,rfl,hl,fun r hr _=>h r (QJL hr) hr⟩
abbrev mxU:Nat:=900000
def Qo:QF:=fun xs Ks=>∃s fn fp fl fb uc ua uk,xs=[.s s,.s fn,fp,fl,fb,uc,ua,uk]∧Fv fp fl∧uc.len≤mxU∧∀uc':LD,uc'.len≤uc.len+1→nthK Ks 0 [.s fn,fp,fl,fb,uc',ua,uk]
theorem QDT {s fn:Str}{fp fl fb uc ua uk:LD}{f:TelK ksU}(hv:Fv fp fl)(hc:uc.len≤mxU)(h:∀uc':LD,uc'.len≤uc.len+1→f fn fp fl fb uc' ua uk):Qo [.s s,.s fn,fp,fl,fb,uc,ua,uk] [apK ksU f]:=⟨s,fn,fp,fl,fb,uc,ua,uk,rfl,hv,hc,fun uc' h1 _=>h uc' h1⟩
theorem QtV {s fn:Str}{fp fl fb uc ua uk:LD}{Ks:Nat→List LD→Prop}{q:QF}(hv:Fv fp fl)(hc:uc.len≤mxU)(h:∀uc':LD,uc'.len≤uc.len+1→Ks 0 [.s fn,fp,fl,fb,uc',ua,uk]):QlH s fn fp fl fb uc ua uk Ks q Ql QH:=by
 refine Eq.mpr (QuB ..) ?_
 have hc':uc.len≤900000:=hc
 refine bifN (fun _=>Qjw hv (bifD (fun _=>QA3 (by omega) fun r h1 _=>h r h1) fun _=>h uc (by omega))) fun _=>h uc (by omega)
def Qja (k:Nat):QF:=fun xs Ks=>∃e fn fp fl fb uc ua uk,xs=[e,.s fn,fp,fl,fb,uc,ua,uk]∧Fv fp fl∧WE0 e∧SizeOf.sizeOf e<k∧uc.len+nN e≤mxU∧∀uc':LD,uc'.len≤uc.len+nN e→nthK Ks 0 [.s fn,fp,fl,fb,uc',ua,uk]
theorem Qob {k:Nat}{e:LD}{fn:Str}{fp fl fb uc ua uk:LD}{f:TelK ksU}(hv:Fv fp fl)(he:WE0 e)(hs:SizeOf.sizeOf e<k)(hc:uc.len+nN e≤mxU)(h:∀uc':LD,uc'.len≤uc.len+nN e→f fn fp fl fb uc' ua uk):Qja k [e,.s fn,fp,fl,fb,uc,ua,uk] [apK ksU f]:=⟨e,fn,fp,fl,fb,uc,ua,uk,rfl,hv,he,hs,hc,fun uc' h1 _=>h uc' h1⟩
theorem QJU {e:LD}(h:WE e):nN (e.f 3)+nN (e.f 4)+1≤nN e:=by
 cases h<;>simp only[LD.f,LD.cs,nN,nNL,List.getD_cons_succ,List.getD_cons_zero]<;>omega
theorem QJV {e:LD}(h:WC e):nN (e.f 1)+nN (e.f 2)+nN (e.f 3)+nN (e.f 4)+1≤nN e:=by
 cases h<;>simp only[LD.f,LD.cs,nN,nNL,List.getD_cons_succ,List.getD_cons_zero]<;>omega
theorem QtW {e:LD}{fn:Str}{fp fl fb uc ua uk:LD}{Ks:Nat→List LD→Prop}{q:QF}{k:Nat}(hv:Fv fp fl)(he:WE0 e)(hs:SizeOf.sizeOf e<k+1)(hc:uc.len+nN e≤mxU)(h:∀uc':LD,uc'.len≤uc.len+nN e→Ks 0 [.s fn,fp,fl,fb,uc',ua,uk]) :
  QlI e fn fp fl fb uc ua uk Ks q Qo (Qja k):=by
 refine Eq.mpr (QuC ..) ?_
 have hc':uc.len+nN e≤900000:=hc
 rcases he with rfl | he
 ·exact h uc (by omega)
 ·obtain⟨p1,p2,p3,p4,p5⟩:=QBl he
  have hn:=QJU he
  rw[p5]
  refine⟨rfl,bifD (fun _=>⟨rfl,QDT hv (show uc.len≤900000 by omega) fun uc1 h1=>⟨rfl,Qob hv p1 (by omega) (show _≤900000 by omega) fun uc2 h2=>⟨rfl,Qob hv p2 (by omega) (show _≤900000 by omega) fun uc3 h3=>h uc3 (by omega)⟩⟩⟩) fun _=>⟨rfl,Qob hv p1 (by omega) (show _≤900000 by omega) fun uc2 h2=>⟨rfl,Qob hv p2 (by omega) (show _≤900000 by omega) fun uc3 h3=>h uc3 (by omega)⟩⟩⟩
def Qk:QF:=fun xs Ks=>∃k,Qja k xs Ks
theorem Ql2 {e:LD}{fn:Str}{fp fl fb uc ua uk:LD}{f:TelK ksU}(hv:Fv fp fl)(he:WE0 e)(hc:uc.len+nN e≤mxU)(h:∀uc':LD,uc'.len≤uc.len+nN e→f fn fp fl fb uc' ua uk):Qk [e,.s fn,fp,fl,fb,uc,ua,uk] [apK ksU f]:=⟨_,Qob hv he (Nat.lt_succ_self _) hc h⟩
def Qjb (k:Nat):QF:=fun xs Ks=>∃e fn fp fl fb uc ua uk,xs=[e,.s fn,fp,fl,fb,uc,ua,uk]∧Fv fp fl∧WC0 e∧SizeOf.sizeOf e<k∧uc.len+nN e≤mxU∧∀uc':LD,uc'.len≤uc.len+nN e→nthK Ks 0 [.s fn,fp,fl,fb,uc',ua,uk]
theorem Qyc {k:Nat}{e:LD}{fn:Str}{fp fl fb uc ua uk:LD}{f:TelK ksU}(hv:Fv fp fl)(he:WC0 e)(hs:SizeOf.sizeOf e<k)(hc:uc.len+nN e≤mxU)(h:∀uc':LD,uc'.len≤uc.len+nN e→f fn fp fl fb uc' ua uk):Qjb k [e,.s fn,fp,fl,fb,uc,ua,uk] [apK ksU f]:=⟨e,fn,fp,fl,fb,uc,ua,uk,rfl,hv,he,hs,hc,fun uc' h1 _=>h uc' h1⟩
theorem QtX {e:LD}{fn:Str}{fp fl fb uc ua uk:LD}{Ks:Nat→List LD→Prop}{q:QF}{k:Nat}(hv:Fv fp fl)(he:WC0 e)(hs:SizeOf.sizeOf e<k+1)(hc:uc.len+nN e≤mxU)(h:∀uc':LD,uc'.len≤uc.len+nN e→Ks 0 [.s fn,fp,fl,fb,uc',ua,uk]) :
  QlJ e fn fp fl fb uc ua uk Ks q Qk (Qjb k):=by
 refine Eq.mpr (QuD ..) ?_
 have hc':uc.len+nN e≤900000:=hc
 rcases he with rfl | he
 ·exact h uc (by omega)
 ·obtain⟨p1,p2,p3,p4,p5,p6,p7⟩:=QBm he
  have hn:=QJV he
  rw[p7]
  exact⟨rfl,Ql2 hv p1 (show _≤900000 by omega) fun uc1 h1=>⟨rfl,Ql2 hv p2 (show _≤900000 by omega) fun uc2 h2=>⟨rfl,Qyc hv p3 (by omega) (show _≤900000 by omega) fun uc3 h3=>⟨rfl,Qyc hv p4 (by omega) (show _≤900000 by omega) fun uc4 h4=>h uc4 (by omega)⟩⟩⟩⟩
def Qr:QF:=fun xs Ks=>∃k,Qjb k xs Ks
theorem QG6 {e:LD}{fn:Str}{fp fl fb uc ua uk:LD}{f:TelK ksU}(hv:Fv fp fl)(he:WC0 e)(hc:uc.len+nN e≤mxU)(h:∀uc':LD,uc'.len≤uc.len+nN e→f fn fp fl fb uc' ua uk):Qr [e,.s fn,fp,fl,fb,uc,ua,uk] [apK ksU f]:=⟨_,Qyc hv he (Nat.lt_succ_self _) hc h⟩
structure RmU (n:Nat)(uc ua uk:LD):Prop where
 c:uc.len+n≤900000
 a:ua.len+n≤900000
 k:uk.len+n≤900000
structure GrU (n:Nat)(uc ua uk uc' ua' uk':LD):Prop where
 c:uc'.len≤uc.len+n
 a:ua'.len≤ua.len+n
 k:uk'.len≤uk.len+n
def QdS (k:Nat):QF:=fun xs Ks=>∃l fn fp fl fb uc ua uk,xs=[l,.s fn,fp,fl,fb,uc,ua,uk]∧Fv fp fl∧l.len≤4096∧(∀x∈l.es,RS fp fl x)∧SizeOf.sizeOf l<k∧RmU (nN l) uc ua uk ∧
 ∀uc' ua' uk':LD,GrU (nN l) uc ua uk uc' ua' uk'→strs uk'.es=(clD l).foldl addS (strs uk.es)→nthK Ks 0 [.s fn,fp,fl,fb,uc',ua',uk']
theorem Qvk {k:Nat}{l:LD}{fn:Str}{fp fl fb uc ua uk:LD}{f:TelK ksU}(hv:Fv fp fl)(hl:l.len≤4096)(hr:∀x∈l.es,RS fp fl x)(hs:SizeOf.sizeOf l<k)(hm:RmU (nN l) uc ua uk)
  (h:∀uc' ua' uk':LD,GrU (nN l) uc ua uk uc' ua' uk'→strs uk'.es=(clD l).foldl addS (strs uk.es)→f fn fp fl fb uc' ua' uk'):QdS k [l,.s fn,fp,fl,fb,uc,ua,uk] [apK ksU f]:=⟨l,fn,fp,fl,fb,uc,ua,uk,rfl,hv,hl,hr,hs,hm,fun uc' ua' uk' h1 h2 _=>h uc' ua' uk' h1 h2⟩
def QeS (j:Nat):QF:=fun xs Ks=>∃l i k fn fp fl fb uc ua uk s0 s1 s2 s3 s4 s5 s6 s7 s8 s9,xs=[l,.n i,.n k,.s fn,fp,fl,fb,uc,ua,uk,.n s0,.s s1,.s s2,s3,s4,s5,s6,s7,s8,.n s9]∧Fv fp fl∧s6.len≤4096∧(∀x∈s6.es,WA2 x)∧0≤k∧k≤s6.len∧(s6.len - k:Int).toNat<j∧uc.len+nNL (s6.es.drop k.toNat)≤mxU ∧
 ∀uc':LD,uc'.len≤uc.len+nNL (s6.es.drop k.toNat)→nthK Ks 0 [l,.n i,.s fn,fp,fl,fb,uc',ua,uk,.n s0,.s s1,.s s2,s3,s4,s5,s6,s7,s8,.n s9]
theorem QGa {es:List LD}{i:Nat}(h:i<es.length):nNL (es.drop i)=nN (es.getD i .nul)+nNL (es.drop (i+1)):=by rw[drop_at h];simp only[nNL]
theorem QK1 {x:LD}(h:WA2 x):nN (x.f 2)≤nN x:=by
 rcases h with⟨e,rfl,he⟩ | ⟨s,rfl,_⟩<;>simp only[LD.f,LD.cs,nN,nNL,List.getD_cons_succ,List.getD_cons_zero]<;>omega
theorem Qoi {l:LD}{i k:Int}{fn:Str}{fp fl fb uc ua uk:LD}{s0:Int}{s1 s2:Str}{s3 s4 s5 s6 s7 s8:LD}{s9:Int}{Ks:List (List LD→Prop)}{q q1 q2 q3 q4:QF}{j:Nat}(h:QeS (j+1) [l,.n i,.n k,.s fn,fp,fl,fb,uc,ua,uk,.n s0,.s s1,.s s2,s3,s4,s5,s6,s7,s8,.n s9] Ks) :
  Qhy l i k fn fp fl fb uc ua uk s0 s1 s2 s3 s4 s5 s6 s7 s8 s9 (fun ys=>QeS j ys Ks) (nthK Ks) q q1 q2 Qk q3 q4:=by
 obtain⟨l_,i_,k_,fn_,fp_,fl_,fb_,uc_,ua_,uk_,s0_,s1_,s2_,s3_,s4_,s5_,s6_,s7_,s8_,s9_,eq,hv,hl,hw,h0,h1,hj,hc,hk⟩:=h
 simp only[List.cons.injEq,LD.n.injEq,LD.s.injEq,and_true] at eq
 obtain⟨rfl,rfl,rfl,rfl,rfl,rfl,rfl,rfl,rfl,rfl,rfl,rfl,rfl,rfl,rfl,rfl,rfl,rfl,rfl,rfl⟩:=eq
 refine Eq.mpr (Qo2 ..) ?_
 refine bifD (fun hb=>?_) fun hb=>hk uc (by omega)
 have hb':k<(s6.len:Int):=hb
 have hlt:k.toNat<s6.es.length:=by have:s6.len=s6.es.length:=rfl;omega
 have hm:s6.es.getD k.toNat .nul∈s6.es:=by rw[List.getD_eq_getElem?_getD,List.getElem?_eq_getElem hlt];exact List.getElem_mem hlt
 have hx:=hw _ hm
 have hn:=QK1 hx
 have e1:IntKind.i64.wrap (k+1)=k+1:=QJ (by omega) (by omega)
 have e2:(k+1).toNat=k.toNat+1:=by omega
 rw[QGa hlt] at hc hk
 have hc':uc.len+(nN (s6.es.getD k.toNat .nul)+nNL (s6.es.drop (k.toNat+1)))≤900000:=hc
 simp only[at_f,e1]
 refine⟨decB h0 hb,Ql2 hv (QDN hx) (show _≤900000 by omega) fun uc1 h1'=>?_⟩
 refine⟨l,i,k+1,fn,fp,fl,fb,uc1,ua,uk,s0,s1,s2,s3,s4,s5,s6,s7,s8,s9,rfl,hv,hl,hw,by omega,by omega,by omega,?_,fun uc2 h2=>?_⟩
 ·rw[e2];show _≤900000;omega
 ·rw[e2] at h2;exact hk uc2 (by omega)
abbrev ksA:List CK:=[.l 8,.i .i64,.s,.l 9,.l 9,.l 8,.l 1,.l 1,.l 1,.i .i64,.s,.s,.p 5,.p 5,.p 6,.l 7,.l 8,.l 8,.i .i64]
theorem QIq {l:LD}{i:Int}{fn:Str}{fp fl fb uc ua uk:LD}{s0:Int}{s1 s2:Str}{s3 s4 s5 s6 s7 s8:LD}{s9:Int}{f:TelK ksA}(hv:Fv fp fl)(hl:s6.len≤4096)(hw:∀x∈s6.es,WA2 x)(hc:uc.len+nN s6≤mxU)
  (h:∀uc':LD,uc'.len≤uc.len+nN s6→f l i fn fp fl fb uc' ua uk s0 s1 s2 s3 s4 s5 s6 s7 s8 s9):∃j,QeS j [l,.n i,.n 0,.s fn,fp,fl,fb,uc,ua,uk,.n s0,.s s1,.s s2,s3,s4,s5,s6,s7,s8,.n s9] [apK ksA f]:=by
 have hd:nNL (s6.es.drop (0:Int).toNat)≤nN s6:=QoI s6
 have hc':uc.len+nN s6≤900000:=hc
 exact⟨_,l,i,0,fn,fp,fl,fb,uc,ua,uk,s0,s1,s2,s3,s4,s5,s6,s7,s8,s9,rfl,hv,hl,hw,by omega,by omega,Nat.lt_succ_self _,(show _≤900000 by omega),fun uc' h1 _=>h uc' (by omega)⟩
def QeK (k j:Nat):QF:=fun xs Ks=>∃l i fn fp fl fb uc ua uk,xs=[l,.n i,.s fn,fp,fl,fb,uc,ua,uk]∧Fv fp fl∧l.len≤4096∧(∀x∈l.es,RS fp fl x)∧SizeOf.sizeOf l<k+1∧0≤i∧i≤l.len∧(l.len - i:Int).toNat<j∧RmU (nNL (l.es.drop i.toNat)) uc ua uk ∧
 ∀uc' ua' uk':LD,GrU (nNL (l.es.drop i.toNat)) uc ua uk uc' ua' uk'→strs uk'.es=(clL (l.es.drop i.toNat)).foldl addS (strs uk.es)→nthK Ks 0 [.s fn,fp,fl,fb,uc',ua',uk']
theorem QrG {l:LD}{fn:Str}{fp fl fb uc ua uk:LD}{Ks:Nat→List LD→Prop}{q q1 q2 q3 q4:QF}{k:Nat}(hv:Fv fp fl)(hl:l.len≤4096)(hr:∀x∈l.es,RS fp fl x)(hs:SizeOf.sizeOf l<k+1)(hm:RmU (nN l) uc ua uk)
  (hk:∀uc' ua' uk':LD,GrU (nN l) uc ua uk uc' ua' uk'→strs uk'.es=(clD l).foldl addS (strs uk.es)→Ks 0 [.s fn,fp,fl,fb,uc',ua',uk']) :
  QkB l fn fp fl fb uc ua uk Ks q q1 q2 q3 q4 (QdS k) (fun xs Ks=>∃j,QeK k j xs Ks) (fun xs Ks=>∃j,QeS j xs Ks):=by
 refine Eq.mpr (QsL ..) ?_
 have hd:nNL (l.es.drop (0:Int).toNat)≤nN l:=QoI l
 obtain⟨m1,m2,m3⟩:=hm
 refine⟨_,l,0,fn,fp,fl,fb,uc,ua,uk,rfl,hv,hl,hr,hs,by omega,Int.natCast_nonneg _,Nat.lt_succ_self _,⟨by omega,by omega,by omega⟩,fun uc' ua' uk' g hs _=>hk uc' ua' uk' ⟨by have:=g.c;omega,by have:=g.a;omega,by have:=g.k;omega⟩ ?_⟩
 rw[hs,←Qo8 l];rfl
def UTl (k:Nat)(E F C th el:LD)(fn:Str)(fp fl fb uc ua uk:LD)(R:Str→LD→LD→LD→LD→LD→LD→Prop):Prop:=
 Qk [E,.s fn,fp,fl,fb,uc,ua,uk] [apK ksU fun (z1:Str) (a1 a2 a3 a4 a5 a6:LD)=>(Qk [F,.s z1,a1,a2,a3,a4,a5,a6] [apK ksU fun (z2:Str) (b1 b2 b3 b4 b5 b6:LD)=>(Qr [C,.s z2,b1,b2,b3,b4,b5,b6] [apK ksU fun (z3:Str) (c1 c2 c3 c4 c5 c6:LD)=>(QdS k [th,.s z3,c1,c2,c3,c4,c5,c6] [apK ksU fun (z4:Str) (d1 d2 d3 d4 d5 d6:LD)=>(QdS k [el,.s z4,d1,d2,d3,d4,d5,d6] [apK ksU fun (z5:Str) (e1 e2 e3 e4 e5 e6:LD)=>(R z5 e1 e2 e3 e4 e5 e6:Prop)]:Prop)]:Prop)]:Prop)]:Prop)]
theorem utl {k:Nat}{E F C th el:LD}{fn:Str}{fp fl fb uc ua uk:LD}{R:Str→LD→LD→LD→LD→LD→LD→Prop}(hv:Fv fp fl)(hE:WE0 E)(hF:WE0 F)(hC:WC0 C)(ht:th.len≤4096)(he:el.len≤4096)(rt:∀x∈th.es,RS fp fl x)(re:∀x∈el.es,RS fp fl x)(zt:SizeOf.sizeOf th<k)(ze:SizeOf.sizeOf el<k)
  (hm:RmU (nN E+nN F+nN C+nN th+nN el) uc ua uk) (h:∀uc' ua' uk':LD,GrU (nN E+nN F+nN C+nN th+nN el) uc ua uk uc' ua' uk'→strs uk'.es=(clD th++clD el).foldl addS (strs uk.es)→R fn fp fl fb uc' ua' uk'):UTl k E F C th el fn fp fl fb uc ua uk R:=by
 obtain⟨m1,m2,m3⟩:=hm
 refine Ql2 hv hE (show _≤900000 by omega) fun uc1 h1=>?_
 refine Ql2 hv hF (show _≤900000 by omega) fun uc2 h2=>?_
 refine QG6 hv hC (show _≤900000 by omega) fun uc3 h3=>?_
 refine Qvk hv ht rt zt ⟨by omega,by omega,by omega⟩ fun uc4 ua4 uk4 g4 s4=>?_
 obtain⟨g1,g2,g3⟩:=g4
 refine Qvk hv he re ze ⟨by omega,by omega,by omega⟩ fun uc5 ua5 uk5 g5 s5=>?_
 obtain⟨g6,g7,g8⟩:=g5
 refine h _ _ _ ⟨by omega,by omega,by omega⟩ ?_
 rw[s5,s4,List.foldl_append]
theorem QpB {l:LD}{i:Int}{fn:Str}{fp fl fb uc ua uk:LD}{Ks:List (List LD→Prop)}{q:QF}{k j:Nat}(h:QeK k (j+1) [l,.n i,.s fn,fp,fl,fb,uc,ua,uk] Ks) :
  Qip l i fn fp fl fb uc ua uk (fun ys=>QeK k j ys Ks) (nthK Ks) q QH Qo Qk Qr (QdS k) (fun xs Ks=>∃j,QeS j xs Ks):=by
 obtain⟨l_,i_,fn_,fp_,fl_,fb_,uc_,ua_,uk_,eq,hv,hl,hrs,hsz,h0,h1,hj,hm,hk⟩:=h
 simp only[List.cons.injEq,LD.n.injEq,LD.s.injEq,and_true] at eq
 obtain⟨rfl,rfl,rfl,rfl,rfl,rfl,rfl,rfl,rfl⟩:=eq
 refine Eq.mpr (Qqc ..) ?_
 refine bifD (fun hb=>?_) fun hb=>?_
 rotate_left
 ·have hb':¬i<(l.len:Int):=hb
  have hz:l.es.drop i.toNat=[]:=List.drop_eq_nil_of_le (by have:l.len=l.es.length:=rfl;omega)
  rw[hz] at hk
  exact hk uc ua uk ⟨by omega,by omega,by omega⟩ rfl
 have hb':i<(l.len:Int):=hb
 have hlt:i.toNat<l.es.length:=by have:l.len=l.es.length:=rfl;omega
 have hmem:l.es.getD i.toNat .nul∈l.es:=by rw[List.getD_eq_getElem?_getD,List.getElem?_eq_getElem hlt];exact List.getElem_mem hlt
 have hx:=hrs _ hmem
 have ei:IntKind.i64.wrap (i+1)=i+1:=QJ (by omega) (by omega)
 have e2:(i+1).toNat=i.toNat+1:=by omega
 have hsz2:SizeOf.sizeOf (l.es.getD i.toNat .nul)<SizeOf.sizeOf l:=by
  cases l<;>simp only[LD.es] at hlt hmem ⊢<;>try (simp at hlt;done)
  have:=List.sizeOf_lt_of_mem hmem
  simp only[LD.l.sizeOf_spec];omega
 rw[QGa hlt] at hm hk
 rw[drop_at hlt,Qwo] at hk
 have hex:∃s,l.es.getD i.toNat .nul=s:=⟨_,rfl⟩
 obtain⟨s,hs⟩:=hex
 have g:∀c,(l.at 10 i).f c=s.f c:=fun c=>by rw[at_f,hs]
 rw[hs] at hx hsz2 hm hk
 simp only[g,ei]
 cases hx with
 | mk kk X Y E F C ar th el n hS hK ha ht he=>
  show (((decide (0≤i))&&(decide (i<(Int.ofNat l.len))))=true∧_)
  have z1:SizeOf.sizeOf th<k:=by simp at hsz2;omega
  have z2:SizeOf.sizeOf el<k:=by simp at hsz2;omega
  have hE0:WE0 E:=by
   by_cases h:kk=0∨kk=5∨kk=6∨kk=7∨kk=9
   ·exact .inr (hS.e.1 h)
   ·exact .inl (hS.e.2 h)
  have hF0:WE0 F:=by
   by_cases h:kk=7
   ·exact .inr (hS.f.1 h)
   ·exact .inl (hS.f.2 h)
  have hC0:WC0 C:=by
   by_cases h:10≤kk
   ·exact .inr (hS.c.1 h)
   ·exact .inl (hS.c.2 (by omega))
  rw[Qtx] at hm hk
  rw[Qwn] at hk
  obtain⟨m1,m2,m3⟩:=hm
  have tl:∀uc1 ua1 uk1:LD,uc1.len≤uc.len+nN ar+1→ua1.len≤ua.len+1→uk1.len≤uk.len+1→strs uk1.es=(if kk=8 then [Y] else []).foldl addS (strs uk.es) →
    UTl k E F C th el fn fp fl fb uc1 ua1 uk1 fun z c1 c2 c3 c4 c5 c6=>QeK k j [l,.n (i+1),.s z,c1,c2,c3,c4,c5,c6] Ks:=fun uc1 ua1 uk1 h1 h2 h3 h4=>by
   refine utl hv hE0 hF0 hC0 hS.n.2.1 hS.n.2.2 ht he z1 z2 ⟨by omega,by omega,by omega⟩ fun uc2 ua2 uk2 g s2=>?_
   obtain⟨g1,g2,g3⟩:=g
   refine⟨l,i+1,fn,fp,fl,fb,uc2,ua2,uk2,rfl,hv,hl,hrs,hsz,by omega,by omega,by omega,?_,fun uc3 ua3 uk3 g' s3=>?_⟩
   ·rw[e2];exact⟨by omega,by omega,by omega⟩
   ·rw[e2] at g' s3
    obtain⟨g4,g5,g6⟩:=g'
    refine hk _ _ _ ⟨by omega,by omega,by omega⟩ ?_
    rw[s3,s2,h4];simp only[List.foldl_append]
  have sA:¬kk=8→strs uk.es=(if kk=8 then [Y] else []).foldl addS (strs uk.es):=fun h=>by rw[if_neg h];rfl
  have nm:∀(s:Str) (f:TelK ksU),(∀uc':LD,uc'.len≤uc.len+1→f fn fp fl fb uc' ua uk)→Qo [.s s,.s fn,fp,fl,fb,uc,ua,uk] [apK ksU f]:=fun s f h=>QDT hv (show _≤900000 by omega) h
  refine⟨decB h0 hb,?_⟩
  refine bifD (fun h8=>?_) fun n0=>bifD (fun h8=>?_) fun n4=>bifD (fun h8=>?_) fun n1=>bifD (fun h8=>?_) fun n6=>bifD (fun h8=>?_) fun n7=>bifD (fun h8=>?_) fun n8=>?_
  ·have h8':kk=0:=h8
   exact nm _ _ fun uc1 h1=>tl uc1 ua uk (by omega) (by omega) (by omega) (sA (by omega))
  ·have h8':kk=4:=h8
   exact nm _ _ fun uc1 h1=>tl uc1 ua uk (by omega) (by omega) (by omega) (sA (by omega))
  ·have h8':kk=1:=h8
   exact nm _ _ fun uc1 h1=>tl uc1 ua uk (by omega) (by omega) (by omega) (sA (by omega))
  ·have h8':kk=6:=h8
   exact nm _ _ fun uc1 h1=>QA3 (by omega) fun ua1 h2 _=>tl uc1 ua1 uk (by omega) (by omega) (by omega) (sA (by omega))
  ·have h8':kk=7:=h8
   exact QA3 (by omega) fun ua1 h2 _=>tl uc ua1 uk (by omega) (by omega) (by omega) (sA (by omega))
  ·have h8':kk=8:=h8
   refine nm _ _ fun uc1 h1=>QA3 (by omega) fun uk1 h2 h3=>QIq hv hS.n.1 ha (show uc1.len+nN ar≤900000 by omega) fun uc2 h4=>?_
   show UTl k E F C th el fn fp fl fb uc2 ua uk1 fun z c1 c2 c3 c4 c5 c6=>QeK k j [l,.n (IntKind.i64.wrap (i+1)),.s z,c1,c2,c3,c4,c5,c6] Ks
   rw[ei]
   have h4':uc2.len≤uc1.len+nN ar:=h4
   refine tl uc2 ua uk1 (by omega) (by omega) (by omega) ?_
   rw[if_pos h8',h3];rfl
  ·have h8':¬kk=8:=n8
   exact tl uc ua uk (by omega) (by omega) (by omega) (sA h8')
def Qp:QF:=fun xs Ks=>∃k,QdS k xs Ks
def QN:QF:=fun xs Ks=>∃fn fp fl fb,xs=[.s fn,fp,fl,fb]∧Fv fp fl∧fb.len≤4096∧(∀x∈fb.es,RS fp fl x)∧nN fb≤4096∧∀a b c:LD,c.len≤4096→strs c.es=(clD fb).foldl addS []→nthK Ks 0 [a,b,c]
theorem QIy {fn:Str}{fp fl fb:LD}{f:TelK [.l 1,.l 1,.l 1]}(hv:Fv fp fl)(hl:fb.len≤4096)(hr:∀x∈fb.es,RS fp fl x)(hn:nN fb≤4096)(h:∀a b c:LD,c.len≤4096→strs c.es=(clD fb).foldl addS []→f a b c):QN [.s fn,fp,fl,fb] [apK [.l 1,.l 1,.l 1] f]:=⟨fn,fp,fl,fb,rfl,hv,hl,hr,hn,fun a b c h1 h2 _=>h a b c h1 h2⟩
theorem QzV {fn:Str}{fp fl fb:LD}{Ks:Nat→List LD→Prop}{q:QF}(hv:Fv fp fl)(hl:fb.len≤4096)(hr:∀x∈fb.es,RS fp fl x)(hn:nN fb≤4096)(hk:∀a b c:LD,c.len≤4096→strs c.es=(clD fb).foldl addS []→Ks 0 [a,b,c]):QqO fn fp fl fb Ks q Qp:=by
 refine Eq.mpr (QAC ..) ?_
 have z:LD.nul.len=0:=rfl
 refine⟨_,Qvk hv hl hr (Nat.lt_succ_self _) ⟨by omega,by omega,by omega⟩ fun uc ua uk g s=>hk _ _ _ ?_ s⟩
 have:=g.k
 omega
theorem Qkh {k:Str}{x:LD}(hx:keyE x=k):∀es:List LD,QU k (upE k x es)=some x
 | []=>by simp only[upE,QU];exact if_pos hx
 | e::r=>by
  unfold upE
  by_cases h:keyE e=k
  ·rw[if_pos h];simp only[QU];exact if_pos hx
  ·rw[if_neg h];simp only[QU];rw[if_neg h];exact Qkh hx r
theorem Qhn {k s:Str}{x:LD}(hx:keyE x=k)(hs:s≠k):∀es:List LD,QU s (upE k x es)=QU s es
 | []=>by simp only[upE,QU];exact if_neg (fun h=>hs (by rw[←h,hx]))
 | e::r=>by
  unfold upE
  by_cases h:keyE e=k
  ·rw[if_pos h]
   simp only[QU]
   rw[if_neg (fun h'=>hs (by rw[←h',hx])),if_neg (fun h'=>hs (by rw[←h',h]))]
  ·rw[if_neg h]
   simp only[QU,Qhn hx hs r]
theorem Qh9 {k:Str}:∀ {es:List LD},QU k es=none↔k ∉ es.map keyE
 | []=>by simp[QU]
 | e::r=>by
  unfold QU
  by_cases h:keyE e=k
  ·rw[if_pos h];simp[h]
  ·rw[if_neg h,Qh9 (es:=r)]
   simp only[List.map_cons,List.mem_cons,not_or]
   exact⟨fun h'=>⟨fun h2=>h h2.symm,h'⟩,fun h'=>h'.2⟩
theorem QCs {k:Str}{es:List LD}:QU k es≠none↔k∈es.map keyE:=by
 rw[Ne,Qh9,Decidable.not_not]
theorem Qpt {k:Str}{x:LD}(hx:keyE x=k):∀es:List LD,(upE k x es).map keyE=if k∈es.map keyE then es.map keyE else es.map keyE++[k]
 | []=>by simp[upE,hx]
 | e::r=>by
  unfold upE
  by_cases h:keyE e=k
  ·rw[if_pos h,if_pos (by rw[List.map_cons,h];exact .head _),List.map_cons,List.map_cons,hx,h]
  ·rw[if_neg h,List.map_cons,Qpt hx r]
   by_cases h2:k∈r.map keyE
   ·rw[if_pos h2,if_pos (by rw[List.map_cons];exact .tail _ h2),List.map_cons]
   ·rw[if_neg h2,if_neg (by rw[List.map_cons,List.mem_cons,not_or];exact⟨fun h'=>h h'.symm,h2⟩),List.map_cons,List.cons_append]
theorem QwJ {k:Str}{x:LD}(hx:keyE x=k){es:List LD}(h:(es.map keyE).Nodup):((upE k x es).map keyE).Nodup:=by
 rw[Qpt hx]
 by_cases h2:k∈es.map keyE
 ·rw[if_pos h2];exact h
 ·rw[if_neg h2,List.nodup_append]
  exact⟨h,by simp,fun a ha b hb=>by rw[List.mem_singleton.1 hb];exact fun e=>h2 (e ▸ ha)⟩
theorem Qtm {k s:Str}{x:LD}(hx:keyE x=k){es:List LD}:s∈(upE k x es).map keyE↔s=k∨s∈es.map keyE:=by
 rw[Qpt hx]
 by_cases h2:k∈es.map keyE
 ·rw[if_pos h2]
  exact⟨.inr,fun h=>h.elim (fun e=>e ▸ h2) id⟩
 ·rw[if_neg h2,List.mem_append,List.mem_singleton,Or.comm]
def Qf6 (es:List LD):Nat→Str→Option Nat
 | 0,_=>none
 | n+1,s=>if nmAt es n=s then some n else Qf6 es n s
theorem QvW {es:List LD}{s:Str}:∀ {n m:Nat},Qf6 es n s=some m→m<n∧nmAt es m=s
 | 0,m,h=>by cases h
 | n+1,m,h=>by
  unfold Qf6 at h
  split at h
  ·rename_i hn
   simp only[Option.some.injEq] at h;subst h
   exact⟨by omega,hn⟩
  ·have:=QvW h
   exact⟨by omega,this.2⟩
theorem Qxt {es:List LD}{s:Str}:∀ {n:Nat},Qf6 es n s=none↔∀m,m<n→nmAt es m≠s
 | 0=>by simp[Qf6]
 | n+1=>by
  unfold Qf6
  by_cases h:nmAt es n=s
  ·rw[if_pos h]
   exact⟨fun h'=>(nomatch h'),fun h'=>absurd h (h' n (by omega))⟩
  ·rw[if_neg h,Qxt]
   refine⟨fun h' m hm=>?_,fun h' m hm=>h' m (by omega)⟩
   by_cases e:m=n
   ·rw[e];exact h
   ·exact h' m (by omega)
theorem Qto {es:List LD}{s:Str}:s∈strs es↔∃m,m<es.length∧nmAt es m=s:=by
 rw[strs,List.mem_map]
 constructor
 ·rintro⟨e,he,rfl⟩
  obtain⟨m,hm,rfl⟩:=List.getElem_of_mem he
  exact⟨m,hm,by rw[nmAt,List.getD_eq_getElem?_getD,List.getElem?_eq_getElem hm];rfl⟩
 ·rintro⟨m,hm,rfl⟩
  exact⟨es[m],List.getElem_mem hm,by rw[nmAt,List.getD_eq_getElem?_getD,List.getElem?_eq_getElem hm];rfl⟩
theorem QGs {es:List LD}{s:Str}:Qf6 es es.length s≠none↔s∈strs es:=by
 rw[Qto,Ne,Qxt]
 constructor
 ·intro h
  exact Classical.byContradiction fun h2=>h fun m hm e=>h2 ⟨m,hm,e⟩
 ·rintro⟨m,hm,e⟩ h
  exact h m hm e
def calM (es:List LD)(m:Nat):List Str:=((clD ((es.getD m .nul).f 3)).foldl addS []).filter fun c=>decide (c∈strs es)
def calN (es:List LD)(n:Nat)(s:Str):List Str:=match Qf6 es n s with
 | some m=>calM es m
 | none=>[]
structure EdOk (es g:List LD):Prop where
 nd:(g.map keyE).Nodup
 ks:∀s,s∈g.map keyE↔s∈strs es
 vs:∀s e,QU s g=some e→strs (e.f 1).es=calN es es.length s
def FsOk (l:LD):Prop:=l.len≤6∧∀e∈l.es,FnOk e
theorem FsOk.at {l:LD}(h:FsOk l){m:Nat}(hm:m<l.es.length):FnOk (l.es.getD m .nul):=h.2 _ (by rw[List.getD_eq_getElem?_getD,List.getElem?_eq_getElem hm];exact List.getElem_mem hm)
def Qah:QF:=fun xs Ks=>∃l,xs=[l]∧FsOk l∧∀g:List LD,g.length≤6→EdOk l.es g→nthK Ks 0 [.t g]
theorem QIA {l:LD}{f:TelK [.r 27]}(h:FsOk l)(hf:∀g:List LD,g.length≤6→EdOk l.es g→f g):Qah [l] [apK [.r 27] f]:=⟨l,rfl,h,fun g h1 h2 _=>hf g h1 h2⟩
structure GK (es g:List LD):Prop where
 nd:(g.map keyE).Nodup
 ks:∀s,s∈g.map keyE↔s∈strs es
theorem Qny:∀ {a b:List Str},a.Nodup→(∀s∈a,s∈b)→a.length≤b.length
 | [],b,_,_=>Nat.zero_le _
 | x::r,b,hn,hs=>by
  rw[List.nodup_cons] at hn
  have hx:x∈b:=hs x (.head _)
  have h1:=Qny (a:=r) (b:=b.erase x) hn.2 fun s h=>(List.mem_erase_of_ne (fun e:s=x=>hn.1 (by rw[←e];exact h))).2 (hs s (.tail _ h))
  rw[List.length_erase_of_mem hx] at h1
  have:=List.length_pos_of_mem hx
  simp only[List.length_cons];omega
theorem QKf {a b:List Str}(ha:a.Nodup)(hb:b.Nodup)(h:∀s,s∈a↔s∈b):a.length=b.length:=Nat.le_antisymm (Qny ha fun s hs=>(h s).1 hs) (Qny hb fun s hs=>(h s).2 hs)
theorem GK.len {es g:List LD}(h:GK es g):g.length≤es.length:=by
 have:=Qny h.nd fun s hs=>(h.ks s).1 hs
 rwa [List.length_map,Ql8] at this
theorem GK.up {es g:List LD}{k:Str}{x:LD}(h:GK es g)(hx:keyE x=k)(hk:k∈strs es):GK es (upE k x g):=⟨QwJ hx h.nd,fun s=>by
 rw[Qtm hx,h.ks]
 exact⟨fun h=>h.elim (fun e=>e ▸ hk) id,.inr⟩⟩
theorem EdOk.gk {es g:List LD}(h:EdOk es g):GK es g:=⟨h.nd,h.ks⟩
theorem Qxu (s:Str)(v:LD):keyE (.t [.s s,v])=s:=rfl
def QbM (j:Nat):QF:=fun xs Ks=>∃l i g,xs=[l,.n i,.t g]∧FsOk l∧0≤i∧i≤l.len∧(l.len - i:Int).toNat<j∧(g.map keyE).Nodup∧(g.length:Int)≤i∧(∀s,s∈g.map keyE↔∃m,m<i.toNat∧nmAt l.es m=s)∧(∀s e,QU s g=some e→strs (e.f 1).es=[]) ∧
 ∀g':List LD,GK l.es g'→(∀s e,QU s g'=some e→strs (e.f 1).es=[])→nthK Ks 0 [l,.t g']
theorem QwT {l:LD}{i:Int}{g:List LD}{Ks:List (List LD→Prop)}{q q1:QF}{j:Nat}(h:QbM (j+1) [l,.n i,.t g] Ks):QnX l i g (fun ys=>QbM j ys Ks) (nthK Ks) q q1:=by
 obtain⟨l_,i_,g_,eq,hF,h0,h1,hj,hn,hl,hs,hv,hk⟩:=h
 simp only[List.cons.injEq,LD.n.injEq,LD.t.injEq,and_true] at eq
 obtain⟨rfl,rfl,rfl⟩:=eq
 refine Eq.mpr (QxS ..) ?_
 have hF1:=hF.1
 have le:l.len=l.es.length:=rfl
 refine bifD (fun hc=>⟨decB h0 hc,by omega,?_⟩) fun hc=>hk g ⟨hn,fun s=>?_⟩ hv
 ·have hc':i<(l.len:Int):=hc
  have ei:IntKind.i64.wrap (i+1)=i+1:=QJ (by omega) (by omega)
  have e2:(i+1).toNat=i.toNat+1:=by omega
  rw[ei]
  simp only[at_f]
  have hx:=Qxu (nmAt l.es i.toNat) .nul
  have hlen:=Qi6 (nmAt l.es i.toNat) (.t [.s (nmAt l.es i.toNat),.nul]) g
  show QbM j [l,.n (i+1),.t (upE (nmAt l.es i.toNat) (.t [.s (nmAt l.es i.toNat),.nul]) g)] Ks
  refine⟨l,i+1,_,rfl,hF,by omega,by omega,by omega,QwJ hx hn,by omega,fun s=>?_,fun s e he=>?_,hk⟩
  ·rw[Qtm hx,hs,e2]
   constructor
   ·rintro (rfl | ⟨m,h2,h3⟩)
    ·exact⟨i.toNat,by omega,rfl⟩
    ·exact⟨m,by omega,h3⟩
   ·rintro⟨m,h2,h3⟩
    by_cases e:m=i.toNat
    ·rw[←h3,e];exact .inl rfl
    ·exact .inr ⟨m,by omega,h3⟩
  ·by_cases e2:s=nmAt l.es i.toNat
   ·rw[e2,Qkh hx] at he
    simp only[Option.some.injEq] at he
    rw[←he];rfl
   ·rw[Qhn hx e2] at he
    exact hv s e he
 ·have hc':¬i<(l.len:Int):=hc
  have:i.toNat=l.es.length:=by omega
  rw[hs,this,Qto]
def Qa1 (j:Nat):QF:=fun xs Ks=>∃l i c k g ke,xs=[l,.n i,c,.n k,.t g,.t ke]∧c.len≤4096∧0≤k∧k≤c.len∧(c.len - k:Int).toNat<j∧(ke.length:Int)≤k∧GK l.es g∧∀ke':List LD,ke'.length≤4096→strs ke'=strs ke++((strs c.es).drop k.toNat).filter (fun s=>decide (s∈strs l.es))→nthK Ks 0 [l,.n i,.t g,.t ke']
theorem Qvv {l:LD}{i:Int}{c:LD}{k:Int}{g ke:List LD}{Ks:List (List LD→Prop)}{q q1:QF}{j:Nat}(h:Qa1 (j+1) [l,.n i,c,.n k,.t g,.t ke] Ks):Qm6 l i c k g ke (fun ys=>Qa1 j ys Ks) (nthK Ks) q q1:=by
 obtain⟨l_,i_,c_,k_,g_,ke_,eq,hl,h0,h1,hj,hw,hg,hk⟩:=h
 simp only[List.cons.injEq,LD.n.injEq,LD.t.injEq,and_true] at eq
 obtain⟨rfl,rfl,rfl,rfl,rfl,rfl⟩:=eq
 refine Eq.mpr (Qwh ..) ?_
 have le:c.len=c.es.length:=rfl
 refine bifD (fun hc=>⟨decB h0 hc,?_⟩) fun hc=>hk ke (by omega) ?_
 ·have hc':k<(c.len:Int):=hc
  have hlt:k.toNat<c.es.length:=by omega
  have ei:IntKind.i64.wrap (k+1)=k+1:=QJ (by omega) (by omega)
  have e2:(k+1).toNat=k.toNat+1:=by omega
  rw[Qnl hlt] at hk
  simp only[at_f,ei]
  refine⟨fun e he=>⟨decB h0 hc,⟨by omega,by omega⟩,⟨l,i,c,k+1,g,_,rfl,hl,by omega,by omega,by omega,by rw[List.length_append,List.length_singleton];omega,hg,fun ke' h2 h3=>hk ke' h2 ?_⟩⟩,fun he=>⟨l,i,c,k+1,g,ke,rfl,hl,by omega,by omega,by omega,by omega,hg,fun ke' h2 h3=>hk ke' h2 ?_⟩⟩
  ·have hin:((c.es.getD k.toNat .nul).f 0).st∈strs l.es:=(hg.ks _).1 (QCs.1 (by rw[he];intro h;cases h))
   rw[h3,e2,List.filter_cons,if_pos (decide_eq_true hin)]
   simp[strs,LD.f,LD.cs,LD.st]
  ·have hin:¬((c.es.getD k.toNat .nul).f 0).st∈strs l.es:=fun h=>Qh9.1 he ((hg.ks _).2 h)
   rw[h3,e2,List.filter_cons,if_neg (by rw[decide_eq_false hin];exact Bool.false_ne_true)]
 ·have hc':¬k<(c.len:Int):=hc
  rw[List.drop_eq_nil_of_le (by rw[strs,List.length_map];omega)]
  simp
abbrev ksE:List CK:=[.l 10,.i .i64,.r 27,.r 1]
theorem QK7 {l:LD}{i:Int}{c:LD}{g:List LD}{f:TelK ksE}(hl:c.len≤4096)(hg:GK l.es g)(h:∀ke':List LD,ke'.length≤4096→strs ke'=(strs c.es).filter (fun s=>decide (s∈strs l.es))→f l i g ke'):∃j,Qa1 j [l,.n i,c,.n 0,.t g,.t []] [apK ksE f]:=
 ⟨_,l,i,c,0,g,[],rfl,hl,by omega,Int.natCast_nonneg _,Nat.lt_succ_self _,by simp,hg,fun ke' h1 h2 _=>h ke' h1 (by simpa [strs] using h2)⟩
def QbL (j:Nat):QF:=fun xs Ks=>∃l i g,xs=[l,.n i,.t g]∧FsOk l∧0≤i∧i≤l.len∧(l.len - i:Int).toNat<j∧GK l.es g∧(∀s e,QU s g=some e→strs (e.f 1).es=calN l.es i.toNat s) ∧
 ∀g':List LD,g'.length≤6→EdOk l.es g'→nthK Ks 0 [.t g']
theorem QwS {l:LD}{i:Int}{g:List LD}{Ks:List (List LD→Prop)}{q:QF}{j:Nat}(h:QbL (j+1) [l,.n i,.t g] Ks):QnW l i g (fun ys=>QbL j ys Ks) (nthK Ks) q QN (fun xs Ks=>∃j,Qa1 j xs Ks):=by
 obtain⟨l_,i_,g_,eq,hF,h0,h1,hj,hg,hv,hk⟩:=h
 simp only[List.cons.injEq,LD.n.injEq,LD.t.injEq,and_true] at eq
 obtain⟨rfl,rfl,rfl⟩:=eq
 refine Eq.mpr (QxR ..) ?_
 have hF1:=hF.1
 have le:l.len=l.es.length:=rfl
 have hgl:=hg.len
 refine bifD (fun hc=>⟨decB h0 hc,?_⟩) fun hc=>hk g (by omega) ⟨hg.nd,hg.ks,fun s e he=>?_⟩
 ·have hc':i<(l.len:Int):=hc
  have hlt:i.toNat<l.es.length:=by omega
  have ei:IntKind.i64.wrap (i+1)=i+1:=QJ (by omega) (by omega)
  have e2:(i+1).toNat=i.toNat+1:=by omega
  obtain⟨fn,fp,fl,fb,hd,P⟩:=hF.at hlt
  have g0:((l.at 4 i).f 0).st=fn:=by rw[at_f,hd];rfl
  have g1:(l.at 4 i).f 1=fp:=by rw[at_f,hd];rfl
  have g2:(l.at 4 i).f 2=fl:=by rw[at_f,hd];rfl
  have g3:(l.at 4 i).f 3=fb:=by rw[at_f,hd];rfl
  have hnm:nmAt l.es i.toNat=fn:=by rw[nmAt,hd];rfl
  have hin:fn∈strs l.es:=Qto.2 ⟨_,hlt,hnm⟩
  rw[g0,g1,g2,g3]
  refine QIy P.v P.n P.r P.m fun _ _ c hc1 hc2=>QK7 hc1 hg fun ke' k1 k2=>⟨decB h0 hc,?_⟩
  have hcal:∀v:LD,v.es=ke'→QbL j [l,.n (i+1),.t (upE fn (.t [.s fn,v]) g)] Ks:=fun v hve=>by
   have hx:=Qxu fn v
   refine⟨l,i+1,_,rfl,hF,by omega,by omega,by omega,hg.up hx hin,fun s e he=>?_,hk⟩
   rw[e2]
   unfold calN Qf6
   by_cases hs:s=fn
   ·rw[hs,Qkh hx] at he
    simp only[Option.some.injEq] at he
    rw[←he,hs,if_pos hnm]
    show strs v.es=calM l.es i.toNat
    rw[hve,k2,hc2,calM,hd];rfl
   ·rw[Qhn hx hs] at he
    rw[if_neg (fun h=>hs (by rw[←h,hnm]))]
    exact hv s e he
  simp only[g0,ei]
  exact⟨fun hz=>⟨by omega,hcal .nul hz.symm⟩,fun a cc hcc=>⟨by omega,hcal (.l a cc ke') rfl⟩⟩
 ·have hc':¬i<(l.len:Int):=hc
  have:i.toNat=l.es.length:=by omega
  rw[←this];exact hv s e he
theorem QzW {l:LD}{Ks:Nat→List LD→Prop}{q q1 q12:QF}(h:FsOk l)(hk:∀g:List LD,g.length≤6→EdOk l.es g→Ks 0 [.t g]):QqP l Ks q q1 (fun xs Ks=>∃j,QbM j xs Ks) (fun xs Ks=>∃j,QbL j xs Ks) q12:=by
 refine Eq.mpr (QAD ..) ?_
 refine⟨_,l,0,[],rfl,h,by omega,Int.natCast_nonneg _,Nat.lt_succ_self _,by simp,by simp,fun s=>⟨fun hs=>(nomatch hs),fun⟨m,hm,_⟩=>absurd hm (Nat.not_lt_zero _)⟩,fun s e he=>(nomatch he),fun g hg hv _=>?_⟩
 refine⟨_,l,0,g,rfl,h,by omega,Int.natCast_nonneg _,Nat.lt_succ_self _,hg,fun s e he=>?_,fun g' h1 h2 _=>hk g' h1 h2⟩
 rw[hv s e he];rfl
end Go.Proofs.YtmdppkbekmpopaaGreat
