import Derived.Test.YtmdppkbekmpopaaGreatUk
set_option linter.unusedVariables false
set_option linter.unusedSimpArgs false
set_option maxRecDepth 100000
noncomputable section
namespace Go.Proofs.YtmdppkbekmpopaaGreat
open Go Go.Sh Go.Va
def Qd8 (q:QF):Ctr:=⟨⟨[.p 0 0,.h (.s)],[.c [.h (.s),.h (.l 9),.h (.l 9),.h (.l 8),.h (.l 1),.h (.l 1),.h (.l 1)] 0]⟩,[⟨[],[.c [.h (.s),.h (.l 9),.h (.l 9),.h (.l 8),.h (.l 1),.h (.l 1),.h (.l 1)] 0]⟩],q⟩
def Qcc (q:QF):Ctr:=⟨⟨[.p 0 0,.h (.p 5)],[.c [.h (.s),.h (.l 9),.h (.l 9),.h (.l 8),.h (.l 1),.h (.l 1),.h (.l 1)] 0]⟩,[⟨[],[.c [.h (.s),.h (.l 9),.h (.l 9),.h (.l 8),.h (.l 1),.h (.l 1),.h (.l 1)] 0]⟩],q⟩
def QcS (q:QF):Ctr:=⟨⟨[.p 0 0,.h (.p 6)],[.c [.h (.s),.h (.l 9),.h (.l 9),.h (.l 8),.h (.l 1),.h (.l 1),.h (.l 1)] 0]⟩,[⟨[],[.c [.h (.s),.h (.l 9),.h (.l 9),.h (.l 8),.h (.l 1),.h (.l 1),.h (.l 1)] 0]⟩],q⟩
def Qcv (q:QF):Ctr:=⟨⟨[.p 0 0,.h (.l 8)],[.c [.h (.s),.h (.l 9),.h (.l 9),.h (.l 8),.h (.l 1),.h (.l 1),.h (.l 1)] 0]⟩,[⟨[],[.c [.h (.s),.h (.l 9),.h (.l 9),.h (.l 8),.h (.l 1),.h (.l 1),.h (.l 1)] 0]⟩],q⟩
def Qb9 (q:QF):LCt:=⟨1,[0,1,4],[(some 0,[])],⟨⟨[.p 0 0,.h (.l 8),.h (.i .i64)],[.c [.h (.s),.h (.l 9),.h (.l 9),.h (.l 8),.h (.l 1),.h (.l 1),.h (.l 1)] 0]⟩,[⟨[],[.c [.h (.s),.h (.l 9),.h (.l 9),.h (.l 8),.h (.l 1),.h (.l 1),.h (.l 1)] 0]⟩],q⟩⟩
def QaG (q:QF):LCt:=⟨19,[0,1,4,5,6],[(some 3,[0,1,4,5])],⟨⟨[.p 0 0,.h (.l 8),.h (.i .i64),.p 1 0,.h (.i .i64)],[.c [.h (.s),.h (.l 9),.h (.l 9),.h (.l 8),.h (.l 1),.h (.l 1),.h (.l 1)] 0,.c [.h (.i .i64),.h (.s),.h (.s),.h (.p 5),.h (.p 5),.h (.p 6),.h (.l 7),.h (.l 8),.h (.l 8),.h (.i .i64)] 0]⟩,[⟨[.p 0 0,.h (.l 8),.h (.i .i64),.p 1 0],[.c [.h (.s),.h (.l 9),.h (.l 9),.h (.l 8),.h (.l 1),.h (.l 1),.h (.l 1)] 0,.c [.h (.i .i64),.h (.s),.h (.s),.h (.p 5),.h (.p 5),.h (.p 6),.h (.l 7),.h (.l 8),.h (.l 8),.h (.i .i64)] 0]⟩],q⟩⟩
def Qjk (q:QF):Ctr:=⟨⟨[.a [.h (.s),.h (.l 9),.h (.l 9),.h (.l 8)]],[]⟩,[⟨[.h (.l 1),.h (.l 1),.h (.l 1)],[]⟩],q⟩
def Qjl (q:QF):Ctr:=⟨⟨[.h (.l 10)],[]⟩,[⟨[.m 0 27 false],[.m 27 false]⟩],q⟩
def Qdo (q:QF):LCt:=⟨3,[0,3,4],[(some 0,[0,3])],⟨⟨[.h (.l 10),.m 0 27 false,.h (.i .i64)],[.m 27 false]⟩,[⟨[.h (.l 10),.m 0 27 false],[.m 27 false]⟩],q⟩⟩
def Qdn (q:QF):LCt:=⟨7,[0,3,5],[(some 2,[3])],⟨⟨[.h (.l 10),.m 0 27 false,.h (.i .i64)],[.m 27 false]⟩,[⟨[.m 0 27 false],[.m 27 false]⟩],q⟩⟩
def Qbv (q:QF):LCt:=⟨12,[0,3,5,8,9,10],[(some 4,[0,3,5,9])],⟨⟨[.h (.l 10),.m 0 27 false,.h (.i .i64),.h (.l 1),.s 1 1,.h (.i .i64)],[.m 27 false,.r 1]⟩,[⟨[.h (.l 10),.m 0 27 false,.h (.i .i64),.s 1 1],[.m 27 false,.r 1]⟩],q⟩⟩
def Qiy (Ql QH:QF):Tr FFn:=(.node 165 (.leaf 49 (.q (Qih QH))) (.leaf 165 (.q (QcX Ql))))
def Qiz (Qo Qk:QF):Tr FFn:=(.node 126 (.leaf 125 (.q (Qd8 Qo))) (.leaf 126 (.q (Qcc Qk))))
def QiA (Qk Qr:QF):Tr FFn:=(.node 127 (.leaf 126 (.q (Qcc Qk))) (.leaf 127 (.q (QcS Qr))))
def Qc0 (QH Qo Qk Qr Qp:QF):Tr FFn:=(.node 125 (.node 79 (.leaf 49 (.q (Qih QH))) (.leaf 79 (.q (Qcv Qp)))) (.node 126 (.leaf 125 (.q (Qd8 Qo))) (.node 127 (.leaf 126 (.q (Qcc Qk))) (.leaf 127 (.q (QcS Qr))))))
def Qni (Qp:QF):Tr FFn:=(.leaf 79 (.q (Qcv Qp)))
def QdN (QN:QF):Tr FFn:=(.leaf 32 (.q (Qjk QN)))
def QlH:=fun (name:Str) (fn:Str) (fp:LD) (fl:LD) (fb:LD) (uc:LD) (ua:LD) (uk:LD) (Ks:Nat→List LD→Prop) (q Ql QH:QF)=>QG (Qiy Ql QH) [] Qli (Qd8 q) [.s name,.s fn,fp,fl,fb,uc,ua,uk] Ks
def QlI:=fun (e:LD) (fn:Str) (fp:LD) (fl:LD) (fb:LD) (uc:LD) (ua:LD) (uk:LD) (Ks:Nat→List LD→Prop) (q Qo Qk:QF)=>QG (Qiz Qo Qk) [] Qlj (Qcc q) [e,.s fn,fp,fl,fb,uc,ua,uk] Ks
def QlJ:=fun (c:LD) (fn:Str) (fp:LD) (fl:LD) (fb:LD) (uc:LD) (ua:LD) (uk:LD) (Ks:Nat→List LD→Prop) (q Qk Qr:QF)=>QG (QiA Qk Qr) [] Qlk (QcS q) [c,.s fn,fp,fl,fb,uc,ua,uk] Ks
def QkB:=fun (l:LD) (fn:Str) (fp:LD) (fl:LD) (fb:LD) (uc:LD) (ua:LD) (uk:LD) (Ks:Nat→List LD→Prop) (q QH Qo Qk Qr Qp ql_1 ql_19:QF)=>QG (Qc0 QH Qo Qk Qr Qp) [Qb9 ql_1,QaG ql_19] Qj8 (Qcv q) [l,.s fn,fp,fl,fb,uc,ua,uk] Ks
def Qip:=fun (l:LD) (i:Int) (fn:Str) (fp:LD) (fl:LD) (fb:LD) (uc:LD) (ua:LD) (uk:LD) (R:List LD→Prop) (Ks:Nat→List LD→Prop) (q QH Qo Qk Qr Qp ql_19:QF)=>Qaa (Qc0 QH Qo Qk Qr Qp) [QaG ql_19] QaE Qht (Qb9 q) [l,.n i,.s fn,fp,fl,fb,uc,ua,uk] R Ks
def Qhy:=fun (l:LD) (i:Int) (k:Int) (fn:Str) (fp:LD) (fl:LD) (fb:LD) (uc:LD) (ua:LD) (uk:LD) (s0:Int) (s1:Str) (s2:Str) (s3:LD) (s4:LD) (s5:LD) (s6:LD) (s7:LD) (s8:LD) (s9:Int) (R:List LD→Prop) (Ks:Nat→List LD→Prop) (q QH Qo Qk Qr Qp:QF)=>Qaa (Qc0 QH Qo Qk Qr Qp) [] QaE QgD (QaG q) [l,.n i,.n k,.s fn,fp,fl,fb,uc,ua,uk,.n s0,.s s1,.s s2,s3,s4,s5,s6,s7,s8,.n s9] R Ks
def QqO:=fun (fn:Str) (fp:LD) (fl:LD) (fb:LD) (Ks:Nat→List LD→Prop) (q Qp:QF)=>QG (Qni Qp) [] Qqw (Qjk q) [.s fn,fp,fl,fb] Ks
def QqP:=fun (l:LD) (Ks:Nat→List LD→Prop) (q QN ql_3 ql_7 ql_12:QF)=>QG (QdN QN) [Qdo ql_3,Qdn ql_7,Qbv ql_12] Qqx (Qjl q) [l] Ks
def QnX:=fun (l:LD) (i:Int) (g:List LD) (R:List LD→Prop) (Ks:Nat→List LD→Prop) (q QN:QF)=>Qaa (QdN QN) [] QaK QmG (Qdo q) [l,.n i,.t g] R Ks
def QnW:=fun (l:LD) (i:Int) (g:List LD) (R:List LD→Prop) (Ks:Nat→List LD→Prop) (q QN ql_12:QF)=>Qaa (QdN QN) [Qbv ql_12] QaK QmF (Qdn q) [l,.n i,.t g] R Ks
def Qm6:=fun (l:LD) (i:Int) (c:LD) (k:Int) (g:List LD) (ke:List LD) (R:List LD→Prop) (Ks:Nat→List LD→Prop) (q QN:QF)=>Qaa (QdN QN) [] QaK Qlt (Qbv q) [l,.n i,c,.n k,.t g,.t ke] R Ks
abbrev K0Ut:List CK:=[.s,.l 9,.l 9,.l 8,.l 1,.l 1,.l 1]
theorem QuB (name fn:Str)(fp fl fb uc ua uk:LD)(Ks:Nat→List LD→Prop)(q Ql QH:QF):QlH name fn fp fl fb uc ua uk Ks q Ql QH=((bif (!(decide (name=List.map UInt8.ofNat []))) then Ql [.s fn,fp,fl,fb,.s name] [apK [.i .i64] fun (aa:Int)=>((bif (decide (aa=0)) then QH [uc,.s name] [apK [.l 1] fun (ab:LD)=>(Ks 0 [.s fn,fp,fl,fb,ab,ua,uk]:Prop)] else Ks 0 [.s fn,fp,fl,fb,uc,ua,uk]):Prop)] else Ks 0 [.s fn,fp,fl,fb,uc,ua,uk])):=by kernel_rfl
theorem QuC (e:LD)(fn:Str)(fp fl fb uc ua uk:LD)(Ks:Nat→List LD→Prop)(q Qo Qk:QF):QlI e fn fp fl fb uc ua uk Ks q Qo Qk=((bif (!e.is) then Ks 0 [.s fn,fp,fl,fb,uc,ua,uk] else (e.is=true∧(bif (decide ((e.f 0).i=1)) then (e.is=true∧Qo [.s (e.f 2).st,.s fn,fp,fl,fb,uc,ua,uk] [apK K0Ut fun (aa:Str)(ab ac ad ae af ag:LD)=>((e.is=true∧Qk [(e.f 3),.s aa,ab,ac,ad,ae,af,ag] [apK K0Ut fun (ah:Str)(ai aj ak al am an:LD)=>((e.is=true∧Qk [(e.f 4),.s ah,ai,aj,ak,al,am,an] [apK K0Ut fun (ao:Str)(ap aq ar zz au av:LD)=>(Ks 0 [.s ao,ap,aq,ar,zz,au,av]:Prop)]):Prop)]):Prop)]) else (e.is=true∧Qk [(e.f 3),.s fn,fp,fl,fb,uc,ua,uk] [apK K0Ut fun (aa:Str)(ab ac ad ae af ag:LD)=>((e.is=true∧Qk [(e.f 4),.s aa,ab,ac,ad,ae,af,ag] [apK K0Ut fun (ah:Str)(ai aj ak al am an:LD)=>(Ks 0 [.s ah,ai,aj,ak,al,am,an]:Prop)]):Prop)]))))):=by kernel_rfl
theorem QuD (c:LD)(fn:Str)(fp fl fb uc ua uk:LD)(Ks:Nat→List LD→Prop)(q Qk Qr:QF):QlJ c fn fp fl fb uc ua uk Ks q Qk Qr=((bif (!c.is) then Ks 0 [.s fn,fp,fl,fb,uc,ua,uk] else (c.is=true∧Qk [(c.f 1),.s fn,fp,fl,fb,uc,ua,uk] [apK K0Ut fun (aa:Str)(ab ac ad ae af ag:LD)=>((c.is=true∧Qk [(c.f 2),.s aa,ab,ac,ad,ae,af,ag] [apK K0Ut fun (ah:Str)(ai aj ak al am an:LD)=>((c.is=true∧Qr [(c.f 3),.s ah,ai,aj,ak,al,am,an] [apK K0Ut fun (ao:Str)(ap aq ar zz au av:LD)=>((c.is=true∧Qr [(c.f 4),.s ao,ap,aq,ar,zz,au,av] [apK K0Ut fun (aw:Str)(ax ay az a0 a1 a2:LD)=>(Ks 0 [.s aw,ax,ay,az,a0,a1,a2]:Prop)]):Prop)]):Prop)]):Prop)]))):=by kernel_rfl
theorem QsL (l:LD)(fn:Str)(fp fl fb uc ua uk:LD)(Ks:Nat→List LD→Prop)(q QH Qo Qk Qr Qp ql_1 ql_19:QF):QkB l fn fp fl fb uc ua uk Ks q QH Qo Qk Qr Qp ql_1 ql_19=(ql_1 [l,.n (0:Int),.s fn,fp,fl,fb,uc,ua,uk] [apK K0Ut fun (aa:Str)(ab ac ad ae af ag:LD)=>(Ks 0 [.s aa,ab,ac,ad,ae,af,ag]:Prop)]):=by kernel_rfl
theorem Qqc (l:LD)(i:Int)(fn:Str)(fp fl fb uc ua uk:LD)(R:List LD→Prop)(Ks:Nat→List LD→Prop)(q QH Qo Qk Qr Qp ql_19:QF):Qip l i fn fp fl fb uc ua uk R Ks q QH Qo Qk Qr Qp ql_19=(((fun (C1:Str→LD→LD→LD→LD→LD→LD→Prop)=>(((fun (C2:Str→LD→LD→LD→LD→LD→LD→Prop)=>(((fun (C3:Prop)=>((bif (decide (i<(Int.ofNat l.len))) then (((decide (0≤i))&&(decide (i<(Int.ofNat l.len))))=true∧(bif (decide (((l.at 10 i).f 0).i=0)) then C3 else (bif (decide (((l.at 10 i).f 0).i=4)) then C3 else (bif (decide (((l.at 10 i).f 0).i=1)) then Qo [.s ((l.at 10 i).f 2).st,.s fn,fp,fl,fb,uc,ua,uk] [apK K0Ut fun (aa:Str)(ab ac ad ae af ag:LD)=>C2 aa ab ac ad ae af ag] else (bif (decide (((l.at 10 i).f 0).i=6)) then Qo [.s ((l.at 10 i).f 1).st,.s fn,fp,fl,fb,uc,ua,uk] [apK K0Ut fun (aa:Str)(ab ac ad ae af ag:LD)=>(QH [af,.s ((l.at 10 i).f 2).st] [apK [.l 1] fun (ah:LD)=>C2 aa ab ac ad ae ah ag]:Prop)] else (bif (decide (((l.at 10 i).f 0).i=7)) then QH [ua,.s ((l.at 10 i).f 2).st] [apK [.l 1] fun (ai:LD)=>(Qk [((l.at 10 i).f 3),.s fn,fp,fl,fb,uc,ai,uk] [apK K0Ut fun (aj:Str)(ac ad ae af ag ah:LD)=>C1 aj ac ad ae af ag ah]:Prop)] else (bif (decide (((l.at 10 i).f 0).i=8)) then Qo [.s ((l.at 10 i).f 1).st,.s fn,fp,fl,fb,uc,ua,uk] [apK K0Ut fun (aa:Str)(ab ac ad ae af ag:LD)=>(QH [ag,.s ((l.at 10 i).f 2).st] [apK [.l 1] fun (ah:LD)=>(ql_19 [l,.n i,.n (0:Int),.s aa,ab,ac,ad,ae,af,ah,.n ((l.at 10 i).f 0).i,.s ((l.at 10 i).f 1).st,.s ((l.at 10 i).f 2).st,((l.at 10 i).f 3),((l.at 10 i).f 4),((l.at 10 i).f 5),((l.at 10 i).f 6),((l.at 10 i).f 7),((l.at 10 i).f 8),.n ((l.at 10 i).f 9).i] [apK [.l 8,.i .i64,.s,.l 9,.l 9,.l 8,.l 1,.l 1,.l 1,.i .i64,.s,.s,.p 5,.p 5,.p 6,.l 7,.l 8,.l 8,.i .i64] fun (ak:LD)(al:Int)(am:Str)(an ao ap aq ar zz:LD)(au:Int)(av aw:Str)(ax ay az a0 a1 a2:LD)(a3:Int)=>(Qk [ax,.s am,an,ao,ap,aq,ar,zz] [apK K0Ut fun (a4:Str)(a5 a6 a7 a8 a9 ba:LD)=>(Qk [ay,.s a4,a5,a6,a7,a8,a9,ba] [apK K0Ut fun (bb:Str)(bc bd be bf bg bh:LD)=>(Qr [az,.s bb,bc,bd,be,bf,bg,bh] [apK K0Ut fun (bi:Str)(bj bk bl bm bn bp:LD)=>(Qp [a1,.s bi,bj,bk,bl,bm,bn,bp] [apK K0Ut fun (bq:Str)(br bs bt bu bv bw:LD)=>(Qp [a2,.s bq,br,bs,bt,bu,bv,bw] [apK K0Ut fun (bx:Str)(bz b0 b1 b2 b3 b4:LD)=>(R [ak,.n (IntKind.i64.wrap (al+1)),.s bx,bz,b0,b1,b2,b3,b4]:Prop)]:Prop)]:Prop)]:Prop)]:Prop)]:Prop)]:Prop)]:Prop)] else Qk [((l.at 10 i).f 3),.s fn,fp,fl,fb,uc,ua,uk] [apK K0Ut fun (aa:Str)(ab ac ad ae af ag:LD)=>C1 aa ab ac ad ae af ag]))))))) else Ks 0 [.s fn,fp,fl,fb,uc,ua,uk]):Prop)) ((Qo [.s ((l.at 10 i).f 1).st,.s fn,fp,fl,fb,uc,ua,uk] [apK K0Ut fun (aa:Str)(ab ac ad ae af ag:LD)=>C2 aa ab ac ad ae af ag]:Prop))):Prop)) (fun (aa:Str)(ab ac ad ae af ag:LD)=>((Qk [((l.at 10 i).f 3),.s aa,ab,ac,ad,ae,af,ag] [apK K0Ut fun (b5:Str)(ak b6 b7 an ao ap:LD)=>C1 b5 ak b6 b7 an ao ap]:Prop):Prop))):Prop)) (fun (b5:Str)(ak b6 b7 an ao ap:LD)=>((Qk [((l.at 10 i).f 4),.s b5,ak,b6,b7,an,ao,ap] [apK K0Ut fun (b8:Str)(ar zz b9 ca cb ax:LD)=>(Qr [((l.at 10 i).f 5),.s b8,ar,zz,b9,ca,cb,ax] [apK K0Ut fun (cc:Str)(az a0 a1 a2 cd ce:LD)=>(Qp [((l.at 10 i).f 7),.s cc,az,a0,a1,a2,cd,ce] [apK K0Ut fun (cf:Str)(a6 a7 a8 a9 ba cg:LD)=>(Qp [((l.at 10 i).f 8),.s cf,a6,a7,a8,a9,ba,cg] [apK K0Ut fun (ch:Str)(bd be bf bg bh ci:LD)=>(R [l,.n (IntKind.i64.wrap (i+1)),.s ch,bd,be,bf,bg,bh,ci]:Prop)]:Prop)]:Prop)]:Prop)]:Prop):Prop)))):=by kernel_rfl
theorem Qo2 (l:LD)(i k:Int)(fn:Str)(fp fl fb uc ua uk:LD)(s0:Int)(s1 s2:Str)(s3 s4 s5 s6 s7 s8:LD)(s9:Int)(R:List LD→Prop)(Ks:Nat→List LD→Prop)(q QH Qo Qk Qr Qp:QF):Qhy l i k fn fp fl fb uc ua uk s0 s1 s2 s3 s4 s5 s6 s7 s8 s9 R Ks q QH Qo Qk Qr Qp=((bif (decide (k<(Int.ofNat s6.len))) then (((decide (0≤k))&&(decide (k<(Int.ofNat s6.len))))=true∧Qk [((s6.at 3 k).f 2),.s fn,fp,fl,fb,uc,ua,uk] [apK K0Ut fun (aa:Str)(ab ac ad ae af ag:LD)=>(R [l,.n i,.n (IntKind.i64.wrap (k+1)),.s aa,ab,ac,ad,ae,af,ag,.n s0,.s s1,.s s2,s3,s4,s5,s6,s7,s8,.n s9]:Prop)]) else Ks 0 [l,.n i,.s fn,fp,fl,fb,uc,ua,uk,.n s0,.s s1,.s s2,s3,s4,s5,s6,s7,s8,.n s9])):=by kernel_rfl
theorem QAC (fn:Str)(fp fl fb:LD)(Ks:Nat→List LD→Prop)(q Qp:QF):QqO fn fp fl fb Ks q Qp=(Qp [fb,.s fn,fp,fl,fb,.nul,.nul,.nul] [apK K0Ut fun (z7:Str)(y8 y9 aa ab ac ad:LD)=>(Ks 0 [ab,ac,ad]:Prop)]):=by kernel_rfl
theorem QAD (l:LD)(Ks:Nat→List LD→Prop)(q QN ql_3 ql_7 ql_12:QF):QqP l Ks q QN ql_3 ql_7 ql_12=(ql_3 [l,.n (0:Int),.t []] [apK [.l 10,.r 27] fun (y7:LD)(z8:List LD)=>(ql_7 [y7,.n (0:Int),.t z8] [apK [.r 27] fun (z9:List LD)=>(Ks 0 [.t z9]:Prop)]:Prop)]):=by kernel_rfl
theorem QxS (l:LD)(i:Int)(g:List LD)(R:List LD→Prop)(Ks:Nat→List LD→Prop)(q QN:QF):QnX l i g R Ks q QN=((bif (decide (i<(Int.ofNat l.len))) then (((decide (0≤i))&&(decide (i<(Int.ofNat l.len))))=true∧(g.length<9223372036854775807∧R [l,.n (IntKind.i64.wrap (i+1)),.t (upE ((l.at 4 i).f 0).st (LD.t [(LD.s ((l.at 4 i).f 0).st),LD.nul]) g)])) else Ks 0 [l,.t g])):=by kernel_rfl
theorem QxR (l:LD)(i:Int)(g:List LD)(R:List LD→Prop)(Ks:Nat→List LD→Prop)(q QN ql_12:QF):QnW l i g R Ks q QN ql_12=((bif (decide (i<(Int.ofNat l.len))) then (((decide (0≤i))&&(decide (i<(Int.ofNat l.len))))=true∧QN [.s ((l.at 4 i).f 0).st,((l.at 4 i).f 1),((l.at 4 i).f 2),((l.at 4 i).f 3)] [apK [.l 1,.l 1,.l 1] fun (y8 y9 aa:LD)=>(ql_12 [l,.n i,aa,.n (0:Int),.t g,.t []] [apK [.l 10,.i .i64,.r 27,.r 1] fun (ab:LD)(ac:Int)(ad ae:List LD)=>((((decide (0≤ac))&&(decide (ac<(Int.ofNat ab.len))))=true∧((ae=[]→(ad.length<9223372036854775807∧R [ab,.n (IntKind.i64.wrap (ac+1)),.t (upE ((ab.at 4 ac).f 0).st (LD.t [(LD.s ((ab.at 4 ac).f 0).st),LD.nul]) ad)]))∧(∀af:Go.Addr,(∀ag:Nat,(ae.length≤ag→(ad.length<9223372036854775807∧R [ab,.n (IntKind.i64.wrap (ac+1)),.t (upE ((ab.at 4 ac).f 0).st (LD.t [(LD.s ((ab.at 4 ac).f 0).st),(LD.l af ag ae)]) ad)])))))):Prop)]:Prop)]) else Ks 0 [.t g])):=by kernel_rfl
theorem Qwh (l:LD)(i:Int)(c:LD)(k:Int)(g ke:List LD)(R:List LD→Prop)(Ks:Nat→List LD→Prop)(q QN:QF):Qm6 l i c k g ke R Ks q QN=((bif (decide (k<(Int.ofNat c.len))) then (((decide (0≤k))&&(decide (k<(Int.ofNat c.len))))=true∧((∀aa:LD,(QU ((c.at 1 k).f 0).st g=some aa→(((decide (0≤k))&&(decide (k<(Int.ofNat c.len))))=true∧((((ke.length+1) * 16)≤140737488355328∧(ke.length+1)≤4611686018427387904)∧R [l,.n i,c,.n (IntKind.i64.wrap (k+1)),.t g,.t (ke++[(LD.t [(LD.s ((c.at 1 k).f 0).st)])])]))))∧(QU ((c.at 1 k).f 0).st g=none→R [l,.n i,c,.n (IntKind.i64.wrap (k+1)),.t g,.t ke]))) else Ks 0 [l,.n i,.t g,.t ke])):=by kernel_rfl
def QkN:Nat:=281474976710648
def Qoz:List (Nat×RP):=(nf [0,1,2,3])
def QAU:FC:=cdF Tryz.prog Qoz QkN Tryz.f8
def QqB:FFn:=.f 0 QkN 6 [.t 0] (evC QAU)
def Qb3:Nat:=4721213561360609162240
def Qdz:List (Nat×RP):=([pq 6 7 [0,3,9,12,8,17,18]]++nf [0,1,2,3,4,7,8,9,12,13,14,11,16])
def Qs0:FC:=cdF Tryz.prog Qdz Qb3 Tryz.f3
def Qj9:FFn:=.f 1 Qb3 7 [.t 2] (evC Qs0)
def QgE:FC:=cdL Tryz.prog Qdz Qb3 10 Tryz.f3
def Qjo (q:QF):Ctr:=⟨⟨[],[]⟩,[⟨[.h (.b)],[]⟩],q⟩
def QiW (q:QF):Ctr:=⟨⟨[.h (.l 22)],[]⟩,[⟨[.h (.b)],[]⟩],q⟩
def QbG (q:QF):LCt:=⟨10,[3,4,5,6],[(some 0,[3,4,5]),(none,[2])],⟨⟨[.p 0 0,.m 1 27 false,.m 2 27 false,.h (.i .i64)],[.c [.h (.l 1),.h (.l 11),.h (.l 10)] 0,.m 27 false,.m 27 false]⟩,[⟨[.p 0 0,.m 1 27 false,.m 2 27 false],[.c [.h (.l 1),.h (.l 11),.h (.l 10)] 0,.m 27 false,.m 27 false]⟩,⟨[.h (.b)],[.c [.h (.l 1),.h (.l 11),.h (.l 10)] 0,.m 27 false,.m 27 false]⟩],q⟩⟩
def QeR (Qax Q3 Qab Q8 Qah Qav:QF):Tr FFn:=(.node 11 (.node 9 (.leaf 8 (.q (Qjo Qav))) (.node 10 (.leaf 9 (.q (QkS Qax))) (.leaf 10 (.q (Qid Qab))))) (.node 12 (.leaf 11 (.q (Qjp Q8))) (.node 13 (.leaf 12 (.q (Qjl Qah))) (.leaf 13 (.q (Qii Q3))))))
def QkC:=fun (l:LD) (Ks:Nat→List LD→Prop) (q Qax Q3 Qab Q8 Qah Qav ql_10:QF)=>QG (QeR Qax Q3 Qab Q8 Qah Qav) [QbG ql_10] Qj9 (QiW q) [l] Ks
def QhA:=fun (i:Int) (gc:LD) (ga:LD) (pf:LD) (g:List LD) (h:List LD) (R:List LD→Prop) (Ks:Nat→List LD→Prop) (q Qax Q3 Qab Q8 Qah Qav:QF)=>Qaa (QeR Qax Q3 Qab Q8 Qah Qav) [] Qb3 QgE (QbG q) [.n i,gc,ga,pf,.t g,.t h] R Ks
theorem QsM (l:LD)(Ks:Nat→List LD→Prop)(q Qax Q3 Qab Q8 Qah Qav ql_10:QF):QkC l Ks q Qax Q3 Qab Q8 Qah Qav ql_10=(Qav [] [apK [.b] fun (aa:Bool)=>((bif aa then Qax [l,.n (150:Int)] [apK [.b] fun (ab:Bool)=>((bif ab then Qab [.n (0:Int),l] [apK [.l 1,.l 11,.l 10] fun (ac ad ae:LD)=>(Q8 [ae] [apK [.r 27] fun (af:List LD)=>((ae=ae∧Qah [ae] [apK [.r 27] fun (ag:List LD)=>((bif (!(decide ((Int.ofNat af.length)=(Int.ofNat ag.length)))) then Ks 0 [.b false] else ql_10 [.n (0:Int),ac,ad,ae,.t af,.t ag] [apK [.l 1,.l 11,.l 10,.r 27,.r 27] fun (ah ai aj:LD)(ak al:List LD)=>((((aj.es.length * 88)≤140737488355328∧aj.es.length≤4611686018427387904)∧((((aj.es.length+1) * 88)≤140737488355328∧(aj.es.length+1)≤4611686018427387904)∧(((aj.es++[(LD.t [(LD.s (List.map UInt8.ofNat [102])),LD.nul,LD.nul,LD.nul])])=[]→Q8 [.nul] [apK [.r 27] fun (am:List LD)=>(((∀an:LD,(QU (List.map UInt8.ofNat [102]) am=some an→(bif (decide ((Int.ofNat (an.f 1).len)=0)) then Ks 0 [.b true] else Ks 0 [.b false])))∧(QU (List.map UInt8.ofNat [102]) am=none→Ks 0 [.b true])):Prop)])∧(∀ao:Go.Addr,(∀ap:Nat,((aj.es++[(LD.t [(LD.s (List.map UInt8.ofNat [102])),LD.nul,LD.nul,LD.nul])]).length≤ap→Q8 [.l ao ap (aj.es++[(LD.t [(LD.s (List.map UInt8.ofNat [102])),LD.nul,LD.nul,LD.nul])])] [apK [.r 27] fun (aq:List LD)=>(((∀ar:LD,(QU (List.map UInt8.ofNat [102]) aq=some ar→(bif (decide ((Int.ofNat (ar.f 1).len)=0)) then Ks 0 [.b true] else Ks 0 [.b false])))∧(QU (List.map UInt8.ofNat [102]) aq=none→Ks 0 [.b true])):Prop)])))))):Prop),apK [.b,.l 1,.l 11,.l 10,.r 27,.r 27] fun (zz:Bool)(ai aj au:LD)(al am:List LD)=>(Ks 0 [.b zz]:Prop)]):Prop)]):Prop)]:Prop)] else Ks 0 [.b true]):Prop)] else Ks 0 [.b false]):Prop)]):=by kernel_rfl
theorem Qo4 (i:Int)(gc ga pf:LD)(g h:List LD)(R:List LD→Prop)(Ks:Nat→List LD→Prop)(q Qax Q3 Qab Q8 Qah Qav:QF):QhA i gc ga pf g h R Ks q Qax Q3 Qab Q8 Qah Qav=((bif (decide (i<(Int.ofNat pf.len))) then (((decide (0≤i))&&(decide (i<(Int.ofNat pf.len))))=true∧((∀aa:LD,(QU ((pf.at 4 i).f 0).st g=some aa→(((decide (0≤i))&&(decide (i<(Int.ofNat pf.len))))=true∧((∀ab:LD,(QU ((pf.at 4 i).f 0).st h=some ab→Q3 [(aa.f 1),(ab.f 1)] [apK [.b] fun (ac:Bool)=>((bif ac then R [.n (IntKind.i64.wrap (i+1)),gc,ga,pf,.t g,.t h] else Ks 1 [.b false,gc,ga,pf,.t g,.t h]):Prop)]))∧(QU ((pf.at 4 i).f 0).st h=none→Q3 [(aa.f 1),.nul] [apK [.b] fun (ad:Bool)=>((bif ad then R [.n (IntKind.i64.wrap (i+1)),gc,ga,pf,.t g,.t h] else Ks 1 [.b false,gc,ga,pf,.t g,.t h]):Prop)])))))∧(QU ((pf.at 4 i).f 0).st g=none→Ks 1 [.b false,gc,ga,pf,.t g,.t h]))) else Ks 0 [gc,ga,pf,.t g,.t h])):=by kernel_rfl
def QkQ:Nat:=147506398594762530816
def QoC:List (Nat×RP):=([pq 8 16 [0,3,6,9,12,15,18,21,24,27,30,33,36,41,44,45]]++nf [0,1,2,3,5,7,9,10,11,13,14,15,16])
def QAY:FC:=cdF Tryz.prog QoC QkQ Tryz.f28
def QqF:FFn:=.f 1 QkQ 7 [.t 2] (evC QAY)
def QkP:Nat:=480
def QoB:List (Nat×RP):=(nf [0,1])
def QAW:FC:=cdF Tryz.prog QoB QkP Tryz.f29
def QqD:FFn:=.f 2 QkP 4 [.t 4] (evC QAW)
def QkO:Nat:=1125883737272352
def QoA:List (Nat×RP):=(nf [0,1,2,3,4,7,8,10,11,12,13,14])
def QAV:FC:=cdF Tryz.prog QoA QkO Tryz.f30
def QqC:FFn:=.f 2 QkO 6 [.t 4] (evC QAV)
def Qh3:Nat:=1350493209808494571860181257177806143488
def Qmh:List (Nat×RP):=([pq 9 8 [0,3,6,9,12,15,18,21],pq 11 19 [0,3,6,9,12,15,18,21,24,27,30,33,36,39,42,45,50,53,54]]++nf [0,1,2,5,6,8,10,12,13,14,17,18,19,20,21,22,24,25,26,27,29,30,31,32,33,34])
def Qx6:FC:=cdF Tryz.prog Qmh Qh3 Tryz.f72
def QnK:FFn:=.f 3 Qh3 8 [.t 6] (evC Qx6)
def QfP:Nat:=170140529669669710752913430613648211968
def QiO:List (Nat×RP):=(nf [0,1,2,3,4,7,8,9,10,12,13,14,15,17,18,19,21,22,23,24,25,26,28,29,30,32,33,34,35,36,37])
def Qs4:FC:=cdF Tryz.prog QiO QfP Tryz.f71
def Qkd:FFn:=.f 1 QfP 7 [.t 2,.t 3] (evC Qs4)
def Qg1:Nat:=39594738444018193991950343680
def Qk4:List (Nat×RP):=([pq 11 12 [0,3,6,9,12,15,18,21,24,27,30,33],pq 14 13 [0,3,6,9,12,15,18,21,24,27,30,33,36]]++nf [0,1,2,3,5,6,7,8,10,12,13,15,16,17,18,19,20])
def Qwx:FC:=cdF Tryz.prog Qk4 Qg1 Tryz.f116
def Qmz:FFn:=.f 1 Qg1 7 [.t 2] (evC Qwx)
def Qmp:Nat:=2094560
def Qqn:List (Nat×RP):=(nf [0,1,2,4,5,6,7])
def QCY:FC:=cdF Tryz.prog Qqn Qmp Tryz.f69
def Qr9:FFn:=.f 1 Qmp 5 [.t 2] (evC QCY)
def Qg0:Nat:=147564912340644364288
def Qk3:List (Nat×RP):=(nf [0,1,2,4,5,6,7,10,11,13,14,15,16,17,19])
def Qww:FC:=cdF Tryz.prog Qk3 Qg0 Tryz.f70
def Qmy:FFn:=.f 2 Qg0 7 [.t 4] (evC Qww)
def Qgt:Nat:=24
def QjS:List (Nat×RP):=(nf [0,1])
def QuY:FC:=cdF Tryz.prog QjS Qgt Tryz.f277
def Qlo:FFn:=.f 1 Qgt 3 [.t 2] (evC QuY)
def QfO:Nat:=65408
def QiN:List (Nat×RP):=([pq 1 9 [0,3,6,9,12,15,18,21,24]]++nf [0])
def Qs3:FC:=cdF Tryz.prog QiN QfO Tryz.f278
def Qkc:FFn:=.f 3 QfO 5 [.t 6] (evC Qs3)
def Qgs:Nat:=8388576
def QjR:List (Nat×RP):=(nf [0,1,2,3,4])
def QuX:FC:=cdF Tryz.prog QjR Qgs Tryz.f280
def Qln:FFn:=.f 1 Qgs 5 [.t 2] (evC QuX)
def QfN:Nat:=1046464
def QiM:List (Nat×RP):=(nf [0,1,2])
def Qs2:FC:=cdF Tryz.prog QiM QfN Tryz.f281
def Qkb:FFn:=.f 2 QfN 5 [] (evC Qs2)
def QfM:Nat:=1048512
def QiL:List (Nat×RP):=([pq 0 15 [0,3,6,9,12,15,18,21,24,27,30,33,36,41,42]])
def Qs1:FC:=cdF Tryz.prog QiL QfM Tryz.f279
def Qka:FFn:=.f 3 QfM 5 [] (evC Qs1)
def Qh2:Nat:=4722293861294857428992
def Qmg:List (Nat×RP):=(nf [0,1,2,3,5,6,7,9,10,11,12,13,14,16,17,18,19])
def Qx5:FC:=cdF Tryz.prog Qmg Qh2 Tryz.f73
def QnJ:FFn:=.f 3 Qh2 7 [.t 6] (evC Qx5)
def QgZ:Nat:=137434990336
def Qk2:List (Nat×RP):=(nf [0,1,2,4,5,7,8,9,10,11])
def Qwv:FC:=cdF Tryz.prog Qk2 QgZ Tryz.f115
def Qmx:FFn:=.f 1 QgZ 6 [.t 2] (evC Qwv)
def Qey:Nat:=130032
def Qgy:List (Nat×RP):=(nf [0,1,4,3])
def Qpe:FC:=cdF Tryz.prog Qgy Qey Tryz.f118
def Qhm:FFn:=.f 1 Qey 5 [] (evC Qpe)
def QeT:Nat:=32752
def Qhh:List (Nat×RP):=(nf [0,1,2,3,4])
def Qqg:FC:=cdF Tryz.prog Qhh QeT Tryz.f119
def Qh7:FFn:=.f 1 QeT 4 [.t 2] (evC Qqg)
def Qex:Nat:=4080
def Qgx:List (Nat×RP):=(nf [0,1])
def Qpd:FC:=cdF Tryz.prog Qgx Qex Tryz.f120
def Qhl:FFn:=.f 2 Qex 4 [] (evC Qpd)
def Qew:Nat:=280916628862976
def Qgw:List (Nat×RP):=(nf [0,1,3,4,5,6,7,9,10,11])
def Qpc:FC:=cdF Tryz.prog Qgw Qew Tryz.f161
def Qhk:FFn:=.f 3 Qew 6 [.t 6] (evC Qpc)
def Qfm:Nat:=8257504
def QhU:List (Nat×RP):=(nf [1,2,3])
def Qrr:FC:=cdF Tryz.prog QhU Qfm Tryz.f162
def QiU:FFn:=.f 2 Qfm 5 [] (evC Qrr)
def QbQ:Nat:=224
def Qc6:List (Nat×RP):=(nf [0,1])
def Qg7:FC:=cdF Tryz.prog Qc6 QbQ Tryz.f160
def Qdu:FFn:=.f 2 QbQ 4 [.t 4] (evC Qg7)
def QbK:FFn:=.x .cmp
def Qh1:Nat:=248
def Qmf:List (Nat×RP):=(nf [0,1,2])
def Qx4:FC:=cdF Tryz.prog Qmf Qh1 Tryz.f159
def QnI:FFn:=.f 1 Qh1 4 [.t 2] (evC Qx4)
def Qgr:Nat:=33537768
def QjQ:List (Nat×RP):=(nf [0,1,2,3,4,6,8,9,10])
def QuW:FC:=cdF Tryz.prog QjQ Qgr Tryz.f201
def Qlm:FFn:=.f 1 Qgr 5 [.t 2] (evC QuW)
def QgT:Nat:=268434928
def QkW:List (Nat×RP):=([pq 3 15 [0,3,6,9,12,15,18,21,24,27,30,33,36,41,42]]++nf [0,2])
def Qwp:FC:=cdF Tryz.prog QkW QgT Tryz.f117
def Qmr:FFn:=.f 1 QgT 5 [] (evC Qwp)
def Qgh:Nat:=16352
def QjG:List (Nat×RP):=(nf [0,1])
def QuI:FC:=cdF Tryz.prog QjG Qgh Tryz.f113
def Qk8:FFn:=.f 2 Qgh 4 [] (evC QuI)
def Qcu:Nat:=9007182074854400
def QdU:List (Nat×RP):=([pq 4 16 [0,3,6,9,12,15,18,21,24,27,30,33,36,39,44,45],pq 6 17 [0,3,6,9,12,15,18,21,24,27,30,33,36,39,42,47,48]]++nf [0,3,5,2])
def Qir:FC:=cdF Tryz.prog QdU Qcu Tryz.f192
def Qef:FFn:=.f 4 Qcu 6 [] (evC Qir)
def QdF:Nat:=356811880641193946689691826088336933575983104
def QfA:List (Nat×RP):=([pq 17 16 [0,3,6,9,12,15,18,21,24,27,30,33,36,41,42,45]]++nf [0,1,3,4,5,6,7,8,9,11,12,13,14,15,16,18,19,20,21,23,24,25,26,27,28,29,30])
def Qnf:FC:=cdF Tryz.prog QfA QdF Tryz.f158
def Qgd:FFn:=.f 5 QdF 8 [] (evC Qnf)
def Qgg:Nat:=224
def QjF:List (Nat×RP):=(nf [0,1])
def QuH:FC:=cdF Tryz.prog QjF Qgg Tryz.f114
def Qk7:FFn:=.f 2 Qgg 4 [.t 4] (evC QuH)
def Qnk:Tr FFn:=(.node 119 (.node 72 (.node 30 (.node 28 (.leaf 13 Qje) (.node 29 (.leaf 28 QqF) (.leaf 29 QqD))) (.node 70 (.node 69 (.leaf 30 QqC) (.leaf 69 Qr9)) (.node 71 (.leaf 70 Qmy) (.leaf 71 Qkd)))) (.node 115 (.node 113 (.node 73 (.leaf 72 QnK) (.leaf 73 QnJ)) (.node 114 (.leaf 113 Qk8) (.leaf 114 Qk7))) (.node 117 (.node 116 (.leaf 115 Qmx) (.leaf 116 Qmz)) (.node 118 (.leaf 117 Qmr) (.leaf 118 Qhm))))) (.node 192 (.node 159 (.node 120 (.leaf 119 Qh7) (.node 158 (.leaf 120 Qhl) (.leaf 158 Qgd))) (.node 161 (.node 160 (.leaf 159 QnI) (.leaf 160 Qdu)) (.node 162 (.leaf 161 Qhk) (.leaf 162 QiU)))) (.node 278 (.node 202 (.node 201 (.leaf 192 Qef) (.leaf 201 Qlm)) (.node 277 (.leaf 202 QbK) (.leaf 277 Qlo))) (.node 280 (.node 279 (.leaf 278 Qkc) (.leaf 279 Qka)) (.node 281 (.leaf 280 Qln) (.leaf 281 Qkb))))))
def QqT:=fun  (Ks:Nat→List LD→Prop) (q:QF)=>QG Qnk [] QqB (Qjo q) [] Ks
theorem QAH (Ks:Nat→List LD→Prop)(q:Go.Va.QF):QqT Ks q=(((True∧((True∧(True∧(((True∧((True∧(True∧(Ks 0 [(LD.b true)]∧True)))∧((True∧(Ks 0 [(LD.b true)]∧(True∧True)))∧True)))∧(((True∧(True∧(Ks 0 [(LD.b true)]∧True)))∧(True∧((Ks 0 [(LD.b true)]∧(True∧(True∧True)))∧True)))∧(((True∧(Ks 0 [(LD.b true)]∧(True∧True)))∧((Ks 0 [(LD.b true)]∧(True∧(True∧True)))∧(True∧True)))∧True)))∧True)))∧((True∧(((True∧((True∧(True∧(Ks 0 [(LD.b true)]∧True)))∧((True∧(Ks 0 [(LD.b true)]∧(True∧True)))∧True)))∧(((True∧(True∧(Ks 0 [(LD.b true)]∧True)))∧(True∧((Ks 0 [(LD.b true)]∧(True∧(True∧True)))∧True)))∧(((True∧(Ks 0 [(LD.b true)]∧(True∧True)))∧((Ks 0 [(LD.b true)]∧(True∧(True∧True)))∧(True∧True)))∧True)))∧(True∧True)))∧True)))∧(((True∧(True∧(((True∧((True∧(True∧(Ks 0 [(LD.b true)]∧True)))∧((True∧(Ks 0 [(LD.b true)]∧(True∧True)))∧True)))∧(((True∧(True∧(Ks 0 [(LD.b true)]∧True)))∧(True∧((Ks 0 [(LD.b true)]∧(True∧(True∧True)))∧True)))∧(((True∧(Ks 0 [(LD.b true)]∧(True∧True)))∧((Ks 0 [(LD.b true)]∧(True∧(True∧True)))∧(True∧True)))∧True)))∧True)))∧(True∧((((True∧((True∧(True∧(Ks 0 [(LD.b true)]∧True)))∧((True∧(Ks 0 [(LD.b true)]∧(True∧True)))∧True)))∧(((True∧(True∧(Ks 0 [(LD.b true)]∧True)))∧(True∧((Ks 0 [(LD.b true)]∧(True∧(True∧True)))∧True)))∧(((True∧(Ks 0 [(LD.b true)]∧(True∧True)))∧((Ks 0 [(LD.b true)]∧(True∧(True∧True)))∧(True∧True)))∧True)))∧(True∧(True∧True)))∧True)))∧(((True∧(((True∧((True∧(True∧(Ks 0 [(LD.b true)]∧True)))∧((True∧(Ks 0 [(LD.b true)]∧(True∧True)))∧True)))∧(((True∧(True∧(Ks 0 [(LD.b true)]∧True)))∧(True∧((Ks 0 [(LD.b true)]∧(True∧(True∧True)))∧True)))∧(((True∧(Ks 0 [(LD.b true)]∧(True∧True)))∧((Ks 0 [(LD.b true)]∧(True∧(True∧True)))∧(True∧True)))∧True)))∧(True∧True)))∧((((True∧((True∧(True∧(Ks 0 [(LD.b true)]∧True)))∧((True∧(Ks 0 [(LD.b true)]∧(True∧True)))∧True)))∧(((True∧(True∧(Ks 0 [(LD.b true)]∧True)))∧(True∧((Ks 0 [(LD.b true)]∧(True∧(True∧True)))∧True)))∧(((True∧(Ks 0 [(LD.b true)]∧(True∧True)))∧((Ks 0 [(LD.b true)]∧(True∧(True∧True)))∧(True∧True)))∧True)))∧(True∧(True∧True)))∧(True∧True)))∧True)))):=by kernel_rfl
theorem Qz0 {Ks:Nat→List LD→Prop}{q:QF}(hk:Ks 0 [.b true]):QqT Ks q:=by
 refine Eq.mpr (QAH ..) ?_
 repeat' first
  | exact hk
  | exact True.intro
  | refine⟨?_,?_⟩
end Go.Proofs.YtmdppkbekmpopaaGreat
