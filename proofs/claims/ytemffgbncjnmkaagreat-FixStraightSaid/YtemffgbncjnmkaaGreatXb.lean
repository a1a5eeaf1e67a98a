import Derived.Test.YtemffgbncjnmkaaGreatXa
set_option linter.unusedVariables false
set_option linter.unusedSimpArgs false
set_option maxRecDepth 100000
noncomputable section
namespace Go.Proofs.YtemffgbncjnmkaaGreat
open Go Go.Sh Go.Va
abbrev Tk:=Int×Str
def tkE (e:LD):Tk:=((e.f 0).i,(e.f 1).st)
def ldB (b:UInt8):Bool:=QlX (Int.ofNat b.toNat)||Qo5 (Int.ofNat b.toNat)
def diB (b:UInt8):Bool:=Qo5 (Int.ofNat b.toNat)
def letH (r:Str):Bool:=match r with
 | []=>false
 | b::_=>QlX (Int.ofNat b.toNat)
def QYT:List Str:=[b8 [61,61],b8 [33,61],b8 [60,61],b8 [62,61],b8 [38,38],b8 [124,124]]
def Qact (r:Str):Bool:=QYT.any fun p=>decide (r.take 2=p)
def Q8V:Str:=b8 [61,60,62,43,45,42,47,37,38,33,40,41,123,125,91,93,44,59]
def lexL:Nat→Str→Option (List Tk)
 | 0,_=>none
 | _+1,[]=>some []
 | g+1,c::t=>
  if c.toNat=32 then lexL g t
  else if c.toNat=9∨c.toNat=13∨c.toNat=10∨c.toNat=35 then none
  else if QlX (Int.ofNat c.toNat)=true then
   if 32<((c::t).takeWhile ldB).length then none else (lexL g ((c::t).dropWhile ldB)).map ((0,(c::t).takeWhile ldB)::·)
  else if diB c=true then
   if 9<((c::t).takeWhile diB).length∨letH ((c::t).dropWhile diB)=true∨c.toNat=48∧1<((c::t).takeWhile diB).length then none else (lexL g ((c::t).dropWhile diB)).map ((1,(c::t).takeWhile diB)::·)
  else if Qact (c::t)=true then none
  else if c∈Q8V then (lexL g t).map ((2,[c])::·) else none
theorem QabN (p:UInt8→Bool)(l:Str):l.drop (l.takeWhile p).length=l.dropWhile p:=by
 have h:=List.takeWhile_append_dropWhile (p:=p) (l:=l)
 generalize l.takeWhile p=a at *
 generalize l.dropWhile p=b at *
 subst h
 exact List.drop_left
theorem QabK (p:UInt8→Bool)(l:Str):l.take (l.takeWhile p).length=l.takeWhile p:=by
 have h:=List.takeWhile_append_dropWhile (p:=p) (l:=l)
 generalize l.takeWhile p=a at *
 generalize l.dropWhile p=b at *
 subst h
 exact List.take_left
theorem lenW (p:UInt8→Bool)(l:Str):(l.takeWhile p).length≤l.length:=by
 have h:=congrArg List.length (List.takeWhile_append_dropWhile (p:=p) (l:=l))
 rw[List.length_append] at h
 omega
def okI (s:Str)(i:Int)(j:Nat):Prop:=s.length≤4096∧0≤i∧i≤(s.length:Int)∧(s.length - i:Int).toNat<j
theorem okI.next {s:Str}{i:Int}{j:Nat}(h:okI s i (j+1))(hc:i<(s.length:Int)):IntKind.i64.wrap (i+1)=i+1∧okI s (i+1) j:=by
 obtain⟨h0,h1,h2,h3⟩:=h
 exact⟨QJ (by omega) (by omega),h0,by omega,by omega,by omega⟩
def wI (p:UInt8→Bool)(s:Str)(i:Int):Int:=i+(((s.drop i.toNat).takeWhile p).length:Int)
theorem wI_y {p:UInt8→Bool}{s:Str}{i:Int}{b:UInt8}(hd:s.drop i.toNat=b::s.drop (i+1).toNat)(h:p b=true):wI p s i=wI p s (i+1):=by
 rw[wI,hd,List.takeWhile_cons,if_pos h,List.length_cons,wI];omega
theorem wI_n {p:UInt8→Bool}{s:Str}{i:Int}{b:UInt8}(hd:s.drop i.toNat=b::s.drop (i+1).toNat)(h:p b=false):wI p s i=i:=by
 rw[wI,hd,List.takeWhile_cons,h];simp
theorem wI_e {p:UInt8→Bool}{s:Str}{i:Int}(h1:¬i<(s.length:Int)):wI p s i=i:=by
 rw[wI,List.drop_eq_nil_of_le (by omega)];simp
def Qa0 (j:Nat):QF:=fun _ _=>False
def QaZ (j:Nat):QF:=fun xs Ks=>∃s i f w,xs=[.s s,.n i,.n f,.t w]∧okI s i j∧nthK Ks 0 [.s s,.n (wI ldB s i),.n f,.t w]
def QaY (j:Nat):QF:=fun xs Ks=>∃(s:Str) (i c f n:Int) (w:List LD) (k:Nat),xs=[.s s,.n i,.n c,.n f,.n n,.b false,.t w]∧okI s i j∧0≤n∧n<10 ^ k∧k+((s.drop i.toNat).takeWhile diB).length≤9∧∀n',0≤n'→n'<1000000000→nthK Ks 0 [.s s,.n (wI diB s i),.n c,.n f,.n n',.b false,.t w]
theorem Qvs {s:Str}{i f:Int}{w:List LD}{Ks:List (List LD→Prop)}{q q3:QF}{j:Nat}(h:QaZ (j+1) [.s s,.n i,.n f,.t w] Ks):Qm3 s i f w (fun ys=>QaZ j ys Ks) (nthK Ks) q QD QE q3:=by
 obtain⟨s',i',f',w',e,ho,hk⟩:=h
 simp only[List.cons.injEq,LD.s.injEq,LD.n.injEq,LD.t.injEq,and_true] at e
 obtain⟨rfl,rfl,rfl,rfl⟩:=e
 refine Eq.mpr (Qwe ..) ?_
 obtain⟨h0,h1,h2,h3⟩:=id ho
 refine bifD (fun hc=>⟨decB h1 hc,Qvm ?_⟩) fun hc=>by rwa [wI_e hc] at hk
 obtain⟨e1,ho'⟩:=ho.next hc
 obtain⟨b,d1,d2,_⟩:=QWk h1 hc
 rw[e1,d2]
 have go:ldB b=true→QaZ j [.s s,.n (i+1),.n f,.t w] Ks:=fun hb=>⟨s,i+1,f,w,rfl,ho',by rwa [wI_y d1 hb] at hk⟩
 refine bifI (fun hl=>go (by rw[ldB];exact Bool.or_eq_true _ _ ▸ .inl hl)) fun hl=>⟨decB h1 hc,Qyd (bifI (fun hd=>go (by rw[ldB];exact Bool.or_eq_true _ _ ▸ .inr hd)) fun hd=>?_)⟩
 rwa [wI_n d1 (show ldB b=false by rw[ldB,show QlX (Int.ofNat b.toNat)=false from hl,show Qo5 (Int.ofNat b.toNat)=false from hd];rfl)] at hk
theorem Qvr {s:Str}{i c f n:Int}{g:Bool}{w:List LD}{Ks:List (List LD→Prop)}{q q1 q3:QF}{j:Nat}(h:QaY (j+1) [.s s,.n i,.n c,.n f,.n n,.b g,.t w] Ks):Qm2 s i c f n g w (fun ys=>QaY j ys Ks) (nthK Ks) q q1 QE q3:=by
 obtain⟨s',i',c',f',n',w',k,e,ho,n0,n1,hk9,hk⟩:=h
 simp only[List.cons.injEq,LD.s.injEq,LD.n.injEq,LD.b.injEq,LD.t.injEq,and_true] at e
 obtain⟨rfl,rfl,rfl,rfl,rfl,rfl,rfl⟩:=e
 refine Eq.mpr (Qwd ..) ?_
 obtain⟨h0,h1,h2,h3⟩:=id ho
 have p9:∀ {m:Nat},m≤9→(10:Int) ^ m≤1000000000:=fun {m} hm=>by
  have:(10:Nat) ^ m≤10 ^ 9:=Nat.pow_le_pow_right (by decide) hm
  have h2:(((10:Nat) ^ m:Nat):Int)≤((10 ^ 9:Nat):Int):=Int.ofNat_le.2 this
  rwa [Int.natCast_pow] at h2
 have nk:=p9 (m:=k) (by omega)
 refine bifD (fun hc=>⟨decB h1 hc,Qyd ?_⟩) fun hc=>by
  have:=hk n n0 (by omega)
  rwa [wI_e hc] at this
 obtain⟨e1,ho'⟩:=ho.next hc
 obtain⟨b,d1,d2,_⟩:=QWk h1 hc
 rw[e1,d2]
 refine bifI (fun hd=>?_) fun hd=>?_
 ·have hb:diB b=true:=hd
  have hd':=hb
  unfold diB Qo5 at hd'
  simp only[Bool.and_eq_true,decide_eq_true_eq] at hd'
  have hd2:(48:Int)≤(b.toNat:Int)∧(b.toNat:Int)≤57:=hd'
  rw[d1,List.takeWhile_cons,if_pos hb,List.length_cons] at hk9
  have nk1:=p9 (m:=k+1) (by omega)
  rw[Int.pow_succ] at nk1
  refine bifD (fun hn=>absurd hn (by omega)) fun _=>⟨decB h1 hc,?_⟩
  have eu:IntKind.u8.wrap (Int.ofNat b.toNat - 48)=(b.toNat:Int) - 48:=by rw[IntKind.wrap_u8];show ((b.toNat:Int) - 48) % 256=_;omega
  have ev:IntKind.u64.wrap (10 * n)=10 * n:=by rw[IntKind.wrap_u64];omega
  rw[eu,ev,show IntKind.u64.wrap (10 * n+((b.toNat:Int) - 48))=10 * n+((b.toNat:Int) - 48) by rw[IntKind.wrap_u64];omega]
  rw[wI_y d1 hb] at hk
  exact⟨s,i+1,c,f,_,w,k+1,rfl,ho',by omega,by rw[Int.pow_succ];omega,by omega,hk⟩
 ·have:=hk n n0 (by omega)
  rwa [wI_n d1 (show diB b=false from hd)] at this
def Qaw (j:Nat):QF:=fun xs Ks=>∃s i w ts,xs=[.s s,.n i,.t w]∧s.length≤4096∧0≤i∧i≤(s.length:Int)∧(w.length:Int)≤i∧lexL j (s.drop i.toNat)=some ts∧∀w':List LD,w'.map tkE=w.map tkE++ts→nthK Ks 0 [.t w']
def Qy:QF:=fun xs Ks=>∃s ts g,xs=[.s s]∧s.length≤4096∧lexL g s=some ts∧∀l:LD,l.es.map tkE=ts→nthK Ks 0 [l,.n 0,.n 0]
theorem QBq {s:Str}{ts:List Tk}{g:Nat}{f:TelK [.l 4,.i .i64,.i .i64]}(hs:s.length≤4096)(hl:lexL g s=some ts)(h:∀l:LD,l.es.map tkE=ts→f l (0:Int) (0:Int)):Qy [.s s] [apK [.l 4,.i .i64,.i .i64] f]:=⟨s,ts,g,rfl,hs,hl,fun l e _=>h l e⟩
theorem QXt {α β:Type}{o:Option α}{f:α→β}{y:β}(h:o.map f=some y):∃x,o=some x∧f x=y:=by
 cases o with
 | none=>cases h
 | some x=>exact⟨x,rfl,by simpa using h⟩
theorem QabU {c:UInt8}(h:c∈Q8V):∃j:Int,0≤j∧j<Q8V.length∧byteAt Q8V j=Int.ofNat c.toNat:=by
 obtain⟨n,hn,e⟩:=List.getElem_of_mem h
 refine⟨(n:Int),by omega,by omega,?_⟩
 rw[byteAt,List.getD_eq_getElem?_getD,Int.toNat_natCast,List.getElem?_eq_getElem hn,e];rfl
theorem QwM {s:Str}{i:Int}{w:List LD}{Ks:List (List LD→Prop)}{q:QF}{j:Nat}(h:Qaw (j+1) [.s s,.n i,.t w] Ks) :
  QnQ s i w (fun ys=>Qaw j ys Ks) (nthK Ks) q QD QE QV (fun xs Ks=>∃j,Qa0 j xs Ks) (fun xs Ks=>∃j,QaZ j xs Ks) (fun xs Ks=>∃j,QaY j xs Ks):=by
 obtain⟨s',i',w',ts,e,h0,h1,h2,hw,hx,k0⟩:=h
 simp only[List.cons.injEq,LD.s.injEq,LD.n.injEq,LD.t.injEq,and_true] at e
 obtain⟨rfl,rfl,rfl⟩:=e
 refine Eq.mpr (QxL ..) ?_
 by_cases hc':i<(s.length:Int)
 case neg=>
  refine bifD (fun hc=>absurd hc hc') fun _=>k0 w ?_
  rw[List.drop_eq_nil_of_le (by omega)] at hx
  simp only[lexL,Option.some.injEq] at hx
  rw[←hx,List.append_nil]
 refine bifD (fun hc=>⟨decB h1 hc,?_⟩) fun hc=>absurd hc' hc
 have e1:IntKind.i64.wrap (i+1)=i+1:=QJ (by omega) (by omega)
 have e2:IntKind.i64.wrap (i+2)=i+2:=QJ (by omega) (by omega)
 obtain⟨c,d1,d2,_⟩:=QWk h1 hc'
 rw[e1,e2,d2]
 rw[d1] at hx
 simp only[lexL] at hx
 have toN:∀ {m:Nat},¬c.toNat=m→¬(Int.ofNat c.toNat=(m:Int)):=fun h e=>h (Int.ofNat.inj e)
 have go:∀(i':Int) (x:LD) (ts':List Tk),i<i'→i'≤(s.length:Int)→lexL j (s.drop i'.toNat)=some ts'→tkE x::ts'=ts→Qaw j [.s s,.n i',.t (w++[x])] Ks:=fun i' x ts' a b hl he=>⟨s,i',w++[x],ts',rfl,h0,by omega,b,by rw[List.length_append,List.length_singleton];omega,hl,fun w' hw'=>k0 w' (by rw[hw',List.map_append,List.append_assoc,←he];rfl)⟩
 have room:((w.length+1) * 32≤140737488355328∧w.length+1≤4611686018427387904):=by omega
 have sl:∀ {a b:Int}{n:Nat},0≤a→a≤b→b≤(n:Int)→((decide (0≤a))&&((decide (a≤b))&&(decide (b≤(Int.ofNat n)))))=true:=fun a b c=>decA (decD a) (decA (decD b) (decD c))
 have sub:∀n:Nat,List.drop i.toNat (List.take (i+(n:Int)).toNat s)=(c::s.drop (i+1).toNat).take n:=fun n=>by
  rw[←d1,List.drop_take,show (i+(n:Int)).toNat - i.toNat=n by omega]
 by_cases h32:c.toNat=32
 ·rw[if_pos h32] at hx
  refine bifD (fun _=>?_) fun hn=>absurd (show Int.ofNat c.toNat=32 by rw[h32];rfl) hn
  exact⟨s,i+1,w,ts,rfl,h0,by omega,by omega,by omega,hx,k0⟩
 rw[if_neg h32] at hx
 refine bifD (fun h=>absurd h (toN h32)) fun _=>?_
 by_cases hbad:c.toNat=9∨c.toNat=13∨c.toNat=10∨c.toNat=35
 ·rw[if_pos hbad] at hx;cases hx
 rw[if_neg hbad] at hx
 refine bifD (fun h=>absurd h (toN (m:=9) fun h=>hbad (.inl h))) fun _=>bifD (fun h=>absurd h (toN (m:=13) fun h=>hbad (.inr (.inl h)))) fun _=>bifD (fun h=>absurd h (toN (m:=10) fun h=>hbad (.inr (.inr (.inl h))))) fun _=>bifD (fun h=>absurd h (toN (m:=35) fun h=>hbad (.inr (.inr (.inr h))))) fun _=>?_
 refine Qvm (bifI (fun hl=>?_) fun hl=>Qyd (bifI (fun hd=>?_) fun hd=>?_))
 ·rw[if_pos hl] at hx
  split at hx
  ·cases hx
  rename_i h32
  obtain⟨ts',hl2,het⟩:=QXt hx
  have hwl:(((c::s.drop (i+1).toNat).takeWhile ldB).length:Int)≤s.length - i:=by
   have a:=lenW ldB (c::s.drop (i+1).toNat)
   have b:=congrArg List.length d1
   rw[List.length_drop] at b
   omega
  have hw1:0<((c::s.drop (i+1).toNat).takeWhile ldB).length:=by
   rw[List.takeWhile_cons,if_pos (show ldB c=true by rw[ldB];exact Bool.or_eq_true _ _ ▸ .inl hl),List.length_cons];omega
  refine⟨_,s,i,i,w,rfl,⟨h0,h1,h2,Nat.lt_succ_self _⟩,fun _=>?_⟩
  rw[show wI ldB s i=i+(((c::s.drop (i+1).toNat).takeWhile ldB).length:Int) by rw[wI,d1]]
  generalize hL:((c::s.drop (i+1).toNat).takeWhile ldB).length=L at *
  dsimp only[pj,LD.i,LD.st,LD.bo,LD.cs]
  have ew:=QJ (x:=i+(L:Int) - i) (by omega) (by omega)
  refine bifD (fun h=>absurd h (by show ¬(32<IntKind.i64.wrap (i+(L:Int) - i));rw[ew];omega)) fun _=>⟨sl h1 (by omega) (by omega),room,?_⟩
  refine go _ _ ts' (by omega) (by omega) ?_ ?_
  ·rw[←hl2,←QabN,hL,←d1,List.drop_drop,show (i+(L:Int)).toNat=i.toNat+L by omega]
  ·rw[←het,sub L,←hL,QabK];rfl
 ·rw[if_neg (by rw[show QlX (Int.ofNat c.toNat)=false from hl];decide),if_pos (show diB c=true from hd)] at hx
  split at hx
  ·cases hx
  rename_i hno
  obtain⟨ts',hl2,het⟩:=QXt hx
  have hwl:(((c::s.drop (i+1).toNat).takeWhile diB).length:Int)≤s.length - i:=by
   have a:=lenW diB (c::s.drop (i+1).toNat)
   have b:=congrArg List.length d1
   rw[List.length_drop] at b
   omega
  have hw1:0<((c::s.drop (i+1).toNat).takeWhile diB).length:=by
   rw[List.takeWhile_cons,if_pos (show diB c=true from hd),List.length_cons];omega
  refine⟨_,s,i,_,i,0,w,0,rfl,⟨h0,h1,h2,Nat.lt_succ_self _⟩,by omega,by decide,by rw[d1];omega,fun n' n0 n1 _=>?_⟩
  rw[show wI diB s i=i+(((c::s.drop (i+1).toNat).takeWhile diB).length:Int) by rw[wI,d1]]
  have hdr:List.drop (i+(((c::s.drop (i+1).toNat).takeWhile diB).length:Int)).toNat s=(c::s.drop (i+1).toNat).dropWhile diB:=by
   rw[←QabN,←d1,List.drop_drop]
   congr 1
   rw[d1]
   omega
  generalize hL:((c::s.drop (i+1).toNat).takeWhile diB).length=L at *
  dsimp only[pj,LD.i,LD.st,LD.bo,LD.cs]
  have fin:(((decide (0≤i))&&((decide (i≤i+(L:Int)))&&(decide (i+(L:Int)≤(Int.ofNat s.length)))))=true∧((w.length+1) * 32≤140737488355328∧w.length+1≤4611686018427387904)∧Qaw j [.s s,.n (i+(L:Int)),.t (w++[.t [.n 1,.s (List.drop i.toNat (List.take (i+(L:Int)).toNat s)),.n i]])] Ks):=by
   refine⟨sl h1 (by omega) (by omega),room,go _ _ ts' (by omega) (by omega) (by rw[hdr];exact hl2) ?_⟩
   rw[←het,sub L,←hL,QabK];rfl
  have fin2:bif decide (Int.ofNat c.toNat=48) then (bif decide (1<IntKind.i64.wrap (i+(L:Int) - i)) then nthK Ks 1 [.nul,.n i,.n 50] else _) else _:=bifD (fun h48=>bifD (fun h1L=>by
   rw[QJ (by omega) (by omega)] at h1L
   exact absurd ⟨Int.ofNat.inj h48,by omega⟩ fun h=>hno (.inr (.inr h))) fun _=>fin) fun _=>fin
  refine bifF (bifD (fun h=>absurd h (by omega)) fun _=>bifD (fun hc2=>⟨decB (by show 0≤i+(L:Int);omega) hc2,Qvm ?_⟩) fun _=>fin2)
  obtain⟨b2,f1,f2,_⟩:=QWk (s:=s) (i:=i+(L:Int)) (by omega) hc2
  rw[f2]
  refine bifI (fun hlet=>?_) fun _=>fin2
  rw[hdr] at f1
  exact absurd (show letH ((c::s.drop (i+1).toNat).dropWhile diB)=true by rw[f1];exact hlet) fun h=>hno (.inr (.inl h))
 ·rw[if_neg (by rw[show QlX (Int.ofNat c.toNat)=false from hl];decide),if_neg (by rw[show diB c=false from hd];decide)] at hx
  split at hx
  ·cases hx
  rename_i hpair
  split at hx
  case isFalse=>cases hx
  rename_i hsign
  obtain⟨ts',hl2,het⟩:=QXt hx
  have s1:=sub 1
  have fin:QV [.s (List.map UInt8.ofNat [61,60,62,43,45,42,47,37,38,33,40,41,123,125,91,93,44,59]),.n (Int.ofNat c.toNat)] [apK [.b] fun z:Bool=>bif z then (((w.length+1) * 32≤140737488355328∧w.length+1≤4611686018427387904)∧Qaw j [.s s,.n (IntKind.i64.wrap (i+(Int.ofNat (List.drop i.toNat (List.take (i+1).toNat s)).length))),.t (w++[.t [.n 2,.s (List.drop i.toNat (List.take (i+1).toNat s)),.n i]])] Ks) else nthK Ks 1 [.nul,.n i,.n 50]]:=by
   refine QHR (by simp) (QabU hsign) ⟨room,?_⟩
   rw[show List.drop i.toNat (List.take (i+1).toNat s)=[c] from s1]
   rw[show (Int.ofNat [c].length)=1 from rfl,e1]
   exact go _ _ ts' (by omega) (by omega) hl2 het
  have hp:∀p∈QYT,¬List.drop i.toNat (List.take (i+2).toNat s)=p:=fun p hp he=>hpair (List.any_eq_true.2 ⟨p,hp,decide_eq_true (by rw[←he];exact (sub 2).symm)⟩)
  refine⟨sl h1 (by omega) (by omega),bifD (fun h2'=>?_) fun _=>fin⟩
  have hs2:=sl (a:=i) (b:=i+2) (n:=s.length) h1 (by omega) h2'
  refine⟨hs2,bifD (fun h=>absurd h (hp _ (by simp[QYT,b8]))) fun _=>⟨hs2,bifD (fun h=>absurd h (hp _ (by simp[QYT,b8]))) fun _=>⟨hs2,bifD (fun h=>absurd h (hp _ (by simp[QYT,b8]))) fun _=>⟨hs2,bifD (fun h=>absurd h (hp _ (by simp[QYT,b8]))) fun _=>⟨hs2,bifD (fun h=>absurd h (hp _ (by simp[QYT,b8]))) fun _=>⟨hs2,bifD (fun h=>absurd h (hp _ (by simp[QYT,b8]))) fun _=>fin⟩⟩⟩⟩⟩⟩
theorem QzS {s:Str}{ts:List Tk}{g:Nat}{Ks:Nat→List LD→Prop}{q q1 q2 q3 q4 q5 q6:QF}(hs:s.length≤4096)(hl:lexL g s=some ts)(hk:∀l:LD,l.es.map tkE=ts→Ks 0 [l,.n 0,.n 0]):QqL s Ks q q1 q2 q3 (fun xs Ks=>∃j,Qaw j xs Ks) q4 q5 q6:=by
 refine Eq.mpr (QAz ..) ?_
 refine bifD (fun h=>absurd h (by show ¬(4096:Int)<(s.length:Int);omega)) fun h=>?_
 refine⟨g,s,0,[],ts,rfl,hs,by omega,by omega,by simp,hl,fun w' hw' _=>⟨fun e=>?_,fun a c hc=>?_⟩⟩
 ·subst e
  exact hk _ hw'
 ·exact hk _ hw'
end Go.Proofs.YtemffgbncjnmkaaGreat
