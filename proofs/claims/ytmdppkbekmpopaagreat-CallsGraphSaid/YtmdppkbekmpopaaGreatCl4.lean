import Derived.Test.YtmdppkbekmpopaaGreatGr
import Derived.Shelf.SlIter.Sorted
set_option linter.unusedVariables false
set_option linter.unusedSimpArgs false
set_option maxRecDepth 100000
noncomputable section
namespace Go.Proofs.YtmdppkbekmpopaaGreat
open Go Go.Sh Go.Va
theorem QFs:∀(x y:Str),Go.Op.bytesLess x y=decide (x<y)
 | [],[]=>by simp[Go.Op.bytesLess]
 | [],b::y=>by simp[Go.Op.bytesLess]
 | a::x,[]=>by simp[Go.Op.bytesLess]
 | a::x,b::y=>by
  rw[Go.Op.bytesLess,QFs x y]
  by_cases h:a<b
  ·simp[h,List.cons_lt_cons_iff]
  ·by_cases h2:a=b
   ·subst h2;simp[List.cons_lt_cons_iff]
   ·simp[h,h2,List.cons_lt_cons_iff]
abbrev SS (l:List Str):Prop:=l.Pairwise (·<·)
theorem QwE:∀ {l:List Str}{s x:Str},x∈addS l s↔x=s∨x∈l
 | [],s,x=>by simp[addS]
 | y::r,s,x=>by
  unfold addS
  split
  ·rw[List.mem_cons,QwE,List.mem_cons]
   constructor
   ·rintro (h | h | h)
    ·exact .inr (.inl h)
    ·exact .inl h
    ·exact .inr (.inr h)
   ·rintro (h | h | h)
    ·exact .inr (.inl h)
    ·exact .inl h
    ·exact .inr (.inr h)
  ·split
   ·rename_i h
    rw[List.mem_cons]
    constructor
    ·exact .inr
    ·rintro (e | e)
     ·exact .inl (by rw[e,h])
     ·exact e
   ·rw[List.mem_cons]
theorem QKj {a b:Str}(h1:¬a<b)(h2:a≠b):b<a:=by
 have h3:b≤a:=List.not_lt.1 h1
 exact Classical.byContradiction fun h=>h2 (List.le_antisymm (List.not_lt.1 h) h3)
theorem QED:∀ {l:List Str}{s:Str},SS l→SS (addS l s)
 | [],s,_=>by simp[addS]
 | y::r,s,h=>by
  rw[SS,List.pairwise_cons] at h
  unfold addS
  split
  ·rename_i hb
   rw[QFs,decide_eq_true_eq] at hb
   rw[SS,List.pairwise_cons]
   refine⟨fun x hx=>?_,QED h.2⟩
   rcases QwE.1 hx with rfl | hx
   ·exact hb
   ·exact h.1 x hx
  ·rename_i hb
   rw[QFs,decide_eq_true_eq] at hb
   split
   ·rw[SS,List.pairwise_cons];exact h
   ·rename_i hn
    have hs:s<y:=QKj hb hn
    rw[SS,List.pairwise_cons]
    refine⟨fun x hx=>?_,by rw[List.pairwise_cons];exact h⟩
    rcases List.mem_cons.1 hx with rfl | hx
    ·exact hs
    ·exact List.lt_trans hs (h.1 x hx)
theorem QEf:∀ {l acc:List Str},SS acc→SS (l.foldl addS acc)
 | [],acc,h=>h
 | s::l,acc,h=>QEf (l:=l) (QED h)
theorem QCr:∀ {l acc:List Str}{x:Str},x∈l.foldl addS acc↔x∈l∨x∈acc
 | [],acc,x=>by simp
 | s::l,acc,x=>by
  rw[List.foldl_cons,QCr,QwE,List.mem_cons]
  constructor
  ·rintro (h | h | h)
   ·exact .inl (.inr h)
   ·exact .inl (.inl h)
   ·exact .inr h
  ·rintro ((h | h) | h)
   ·exact .inr (.inl h)
   ·exact .inl h
   ·exact .inr (.inr h)
theorem QEN:∀ {a b:List Str},SS a→SS b→(∀x,x∈a↔x∈b)→a=b
 | [],[],_,_,_=>rfl
 | [],y::b,_,_,h=>absurd ((h y).2 (.head _)) (by simp)
 | x::a,[],_,_,h=>absurd ((h x).1 (.head _)) (by simp)
 | x::a,y::b,ha,hb,h=>by
  rw[SS,List.pairwise_cons] at ha hb
  have hxy:x=y:=by
   rcases List.mem_cons.1 ((h x).1 (.head _)) with e | e
   ·exact e
   ·rcases List.mem_cons.1 ((h y).2 (.head _)) with e2 | e2
    ·exact e2.symm
    ·exact absurd (List.lt_trans (ha.1 y e2) (hb.1 x e)) (List.lt_irrefl _)
  subst hxy
  have hab:a=b:=QEN ha.2 hb.2 fun z=>by
   constructor
   ·intro hz
    rcases List.mem_cons.1 ((h z).1 (.tail _ hz)) with e | e
    ·exact absurd (ha.1 z hz) (by rw[e];exact List.lt_irrefl _)
    ·exact e
   ·intro hz
    rcases List.mem_cons.1 ((h z).2 (.tail _ hz)) with e | e
    ·exact absurd (hb.1 z hz) (by rw[e];exact List.lt_irrefl _)
    ·exact e
  rw[hab]
theorem Qnm {l:List Str}{x:Str}:x∈Qfr l↔x∈l:=List.mem_mergeSort
theorem QvA {l:List Str}(h:l.Nodup):SS (Qfr l):=by
 have hp:(Qfr l).Perm l:=List.mergeSort_perm _ _
 have h1:=List.pairwise_mergeSort (le:=fun x y:Str=>decide (x≤y)) (fun a b c h1 h2=>by
  simp only[decide_eq_true_eq] at *
  exact List.le_trans h1 h2) (fun a b=>by
  simp only[Bool.or_eq_true,decide_eq_true_eq]
  exact List.le_total a b) l
 have h2:(Qfr l).Nodup:=hp.nodup_iff.2 h
 have h3:(Qfr l).Pairwise fun a b=>a≤b∧a≠b:=by
  refine List.Pairwise.and ?_ h2
  exact h1.imp fun hab=>by simpa using hab
 exact h3.imp fun {a b} hab=>Classical.byContradiction fun hn=>hab.2 (List.le_antisymm hab.1 (List.not_lt.1 hn))
theorem QtA {x:Str}:∀ {es:List LD},x∈clL es↔∃s∈es,x∈clT s
 | []=>by simp[clL]
 | y::r=>by
  rw[Qwo,List.mem_append,QtA]
  simp
theorem QJw {fp fl s:LD}(h:RS fp fl s):∀x∈clT s,QdA fp fl x=0∧x.length≤4096:=by
 induction h with
 | mk k X Y E F C ar th el n hS hK ha ht he iht ihe=>
  intro x hx
  rw[Qwn] at hx
  rcases List.mem_append.1 hx with h1 | h1
  ·by_cases h8:k=8
   ·rw[if_pos h8,List.mem_singleton] at h1
    rw[h1]
    exact⟨hK.y.2 (by omega),(hS.y.1 (by omega)).2⟩
   ·rw[if_neg h8] at h1;cases h1
  ·rcases List.mem_append.1 h1 with h1 | h1
   ·rw[←Qo8] at h1
    obtain⟨s,hs,hx⟩:=QtA.1 h1
    exact iht s hs x hx
   ·rw[←Qo8] at h1
    obtain⟨s,hs,hx⟩:=QtA.1 h1
    exact ihe s hs x hx
mutual
theorem QJx:∀d:LD,(clT d).length≤nN d
 | .t cs=>by
  have:=QJy cs
  simp only[clT,nN];omega
 | .p _ cs=>Nat.zero_le _
 | .l _ _ _=>Nat.zero_le _
 | .n _=>Nat.zero_le _
 | .b _=>Nat.zero_le _
 | .s _=>Nat.zero_le _
 | .nul=>Nat.zero_le _
theorem Qza:∀d:LD,(clD d).length≤nN d
 | .l _ _ es=>by
  have:=Qy9 es
  simp only[clD,nN];omega
 | .t cs=>Nat.zero_le _
 | .p _ cs=>Nat.zero_le _
 | .n _=>Nat.zero_le _
 | .b _=>Nat.zero_le _
 | .s _=>Nat.zero_le _
 | .nul=>Nat.zero_le _
theorem QJy:∀cs:List LD,(clC cs).length≤nNL cs+1
 | k::x1::Y::x3::x4::x5::x6::th::el::r=>by
  have h1:=Qza th
  have h2:=Qza el
  simp only[clC,nNL,List.length_append]
  split<;>simp only[List.length_cons,List.length_nil]<;>omega
 | []=>Nat.zero_le _
 | [_]=>Nat.zero_le _
 | [_,_]=>Nat.zero_le _
 | [_,_,_]=>Nat.zero_le _
 | [_,_,_,_]=>Nat.zero_le _
 | [_,_,_,_,_]=>Nat.zero_le _
 | [_,_,_,_,_,_]=>Nat.zero_le _
 | [_,_,_,_,_,_,_]=>Nat.zero_le _
 | [_,_,_,_,_,_,_,_]=>Nat.zero_le _
theorem Qy9:∀es:List LD,(clL es).length≤nNL es
 | []=>Nat.zero_le _
 | x::r=>by
  have h1:=QJx x
  have h2:=Qy9 r
  simp only[clL,nNL,List.length_append];omega
end
theorem QEb {s:Str}:∀ {l kn:List LD},QnA l s=0→QU s (knL l kn)=QU s kn
 | [],kn,_=>rfl
 | x::r,kn,h=>by
  unfold QnA at h
  by_cases hx:(x.f 0).st=s
  ·rw[if_pos hx] at h
   split at h<;>omega
  ·rw[if_neg hx] at h
   rw[knL,QEb h]
   exact Qhn (Qxu _ _) (fun e=>hx e.symm) kn
theorem QHO {kn fd:List LD}{s:Str}(h:QU s kn=none):addG kn fd s=upE s (.t [.s s]) fd:=by
 unfold addG;rw[h]
theorem QIg {kn:List LD}:∀ {l:List Str}{fd:List LD},(∀s∈l,QU s kn=none)→(fd.map keyE).Nodup→((l.foldl (addG kn) fd).map keyE).Nodup∧∀x,x∈(l.foldl (addG kn) fd).map keyE↔x∈l∨x∈fd.map keyE
 | [],fd,_,hn=>⟨hn,fun x=>by simp⟩
 | s::l,fd,h,hn=>by
  rw[List.foldl_cons,QHO (h s (.head _))]
  have hx:keyE (.t [.s s])=s:=rfl
  obtain⟨h1,h2⟩:=QIg (l:=l) (fun s' hs=>h s' (.tail _ hs)) (QwJ hx hn)
  refine⟨h1,fun x=>?_⟩
  rw[h2,Qtm hx,List.mem_cons]
  constructor
  ·rintro (h | h | h)
   ·exact .inl (.inr h)
   ·exact .inl (.inl h)
   ·exact .inr h
  ·rintro ((h | h) | h)
   ·exact .inr (.inl h)
   ·exact .inl h
   ·exact .inr (.inr h)
theorem QGT {fp fl fb:LD}(hr:∀x∈fb.es,RS fp fl x):Qo9 fp fl fb=(clD fb).foldl addS []:=by
 have hk:∀s∈clL fb.es,QU s (knL (fp.es++fl.es) [])=none:=fun s hs=>by
  obtain⟨d,hd,hx⟩:=QtA.1 hs
  rw[QEb (QJw (hr d hd) s hx).1];rfl
 obtain⟨h1,h2⟩:=QIg (fd:=[]) hk (by simp)
 refine QEN (QvA h1) (QEf (by simp[SS])) fun x=>?_
 rw[Qo9,Qnm,h2,QCr,Qo8]
 simp
end Go.Proofs.YtmdppkbekmpopaaGreat
set_option maxHeartbeats 4000000
namespace Go.Proofs.YtmdppkbekmpopaaGreat
open Go Go.Sh Go.Va
def Q8:QF:=fun xs Ks=>∃l,xs=[l]∧FsOk l∧∀g:List LD,g.length≤6→EdOk l.es g→nthK Ks 0 [.t g]
theorem QDU {l:LD}{f:TelK [.r 27]}(h:FsOk l)(hf:∀g:List LD,g.length≤6→EdOk l.es g→f g):Q8 [l] [apK [.r 27] f]:=⟨l,rfl,h,fun g h1 h2 _=>hf g h1 h2⟩
structure LaOk (es:List LD)(n:Nat)(la:List LD):Prop where
 nd:(la.map keyE).Nodup
 ks:∀s,s∈la.map keyE↔Qf6 es n s≠none
 vs:∀s e,QU s la=some e→∃m:Nat,Qf6 es n s=some m∧(e.f 1).i=(m:Int)
theorem LaOk.gk {es la:List LD}(h:LaOk es es.length la):GK es la:=⟨h.nd,fun s=>by rw[h.ks,QGs]⟩
theorem QpZ (es:List LD)(n:Nat)(s:Str):Qf6 es (n+1) s=if nmAt es n=s then some n else Qf6 es n s:=rfl
def QbP (j:Nat):QF:=fun xs Ks=>∃l l2 n i la,xs=[l,l2,.n n,.n i,.t la]∧l2.len≤6∧n=(l2.len:Int)∧0≤i∧i≤n∧(n - i).toNat<j∧(la.length:Int)≤i∧LaOk l2.es i.toNat la∧∀la':List LD,LaOk l2.es l2.es.length la'→nthK Ks 0 [l,.t la']
theorem QwX {l l2:LD}{n i:Int}{la:List LD}{Ks:List (List LD→Prop)}{q q1:QF}{j:Nat}(h:QbP (j+1) [l,l2,.n n,.n i,.t la] Ks):Qn1 l l2 n i la (fun ys=>QbP j ys Ks) (nthK Ks) q q1:=by
 obtain⟨l_,l2_,n_,i_,la_,eq,hl,hn,h0,h1,hj,hll,ha,hk⟩:=h
 simp only[List.cons.injEq,LD.n.injEq,LD.t.injEq,and_true] at eq
 obtain⟨rfl,rfl,rfl,rfl,rfl⟩:=eq
 subst hn
 refine Eq.mpr (QxW ..) ?_
 have le:l2.len=l2.es.length:=rfl
 refine bifD (fun hc=>⟨decB h0 hc,by omega,?_⟩) fun hc=>hk la ?_
 ·have ei:IntKind.i64.wrap (i+1)=i+1:=QJ (by omega) (by omega)
  have e2:(i+1).toNat=i.toNat+1:=by omega
  rw[ei]
  simp only[at_f]
  have hx:keyE (.t [.s (nmAt l2.es i.toNat),.n i])=nmAt l2.es i.toNat:=rfl
  have hlen:=Qi6 (nmAt l2.es i.toNat) (.t [.s (nmAt l2.es i.toNat),.n i]) la
  show QbP j [l,l2,.n (l2.len:Int),.n (i+1),.t (upE (nmAt l2.es i.toNat) (.t [.s (nmAt l2.es i.toNat),.n i]) la)] Ks
  refine⟨l,l2,_,i+1,_,rfl,hl,rfl,by omega,by omega,by omega,by omega,⟨QwJ hx ha.nd,fun s=>?_,fun s e he=>?_⟩,hk⟩
  ·rw[Qtm hx,ha.ks,e2]
   rw[QpZ]
   by_cases hs:nmAt l2.es i.toNat=s
   ·rw[if_pos hs]
    exact⟨fun _ h=>(nomatch h),fun _=>.inl hs.symm⟩
   ·rw[if_neg hs]
    exact⟨fun h=>h.elim (fun h=>absurd h.symm hs) id,.inr⟩
  ·rw[e2,QpZ]
   by_cases hs:s=nmAt l2.es i.toNat
   ·rw[hs,Qkh hx] at he
    simp only[Option.some.injEq] at he
    refine⟨i.toNat,by rw[if_pos hs.symm],?_⟩
    rw[←he]
    show i=(i.toNat:Int)
    omega
   ·rw[Qhn hx hs] at he
    rw[if_neg (fun h=>hs h.symm)]
    exact ha.vs s e he
 ·have:i.toNat=l2.es.length:=by omega
  rw[←this];exact ha
def Qa2 (j:Nat):QF:=fun xs Ks=>∃l k n i la g re ce w,xs=[l,.s k,.n n,.n i,.t la,.t g,.t re,.t ce,.t w]∧w.length≤4096∧n=(w.length:Int)∧0≤i∧i≤n∧(n - i).toNat<j∧(ce.length:Int)≤i∧GK l.es la∧∀ce':List LD,ce'.length≤4096→strs ce'=strs ce++((strs w).drop i.toNat).filter (fun s=>decide (s∈strs l.es))→nthK Ks 0 [l,.s k,.t la,.t g,.t re,.t ce']
theorem Qvz {l:LD}{k:Str}{n i:Int}{la g re ce w:List LD}{Ks:List (List LD→Prop)}{q q1:QF}{j:Nat}(h:Qa2 (j+1) [l,.s k,.n n,.n i,.t la,.t g,.t re,.t ce,.t w] Ks):Qna l k n i la g re ce w (fun ys=>Qa2 j ys Ks) (nthK Ks) q q1:=by
 obtain⟨l_,k_,n_,i_,la_,g_,re_,ce_,w_,eq,hl,hn,h0,h1,hj,hw,hg,hk⟩:=h
 simp only[List.cons.injEq,LD.n.injEq,LD.s.injEq,LD.t.injEq,and_true] at eq
 obtain⟨rfl,rfl,rfl,rfl,rfl,rfl,rfl,rfl,rfl⟩:=eq
 subst hn
 refine Eq.mpr (Qwl ..) ?_
 refine bifD (fun hc=>⟨decB h0 hc,?_⟩) fun hc=>hk ce (by omega) ?_
 ·have hlt:i.toNat<w.length:=by omega
  have ei:IntKind.i64.wrap (i+1)=i+1:=QJ (by omega) (by omega)
  have e2:(i+1).toNat=i.toNat+1:=by omega
  rw[Qnl hlt] at hk
  simp only[ei]
  refine⟨fun e he=>⟨⟨by omega,by omega⟩,⟨l,k,_,i+1,la,g,re,_,w,rfl,hl,rfl,by omega,by omega,by omega,by rw[List.length_append,List.length_singleton];omega,hg,fun ke' h2 h3=>hk ke' h2 ?_⟩⟩,fun he=>⟨l,k,_,i+1,la,g,re,ce,w,rfl,hl,rfl,by omega,by omega,by omega,by omega,hg,fun ke' h2 h3=>hk ke' h2 ?_⟩⟩
  ·have hin:((w.getD i.toNat .nul).f 0).st∈strs l.es:=(hg.ks _).1 (QCs.1 (by rw[he];intro h;cases h))
   rw[h3,e2,List.filter_cons,if_pos (decide_eq_true hin)]
   simp[strs,LD.f,LD.cs,LD.st]
  ·have hin:¬((w.getD i.toNat .nul).f 0).st∈strs l.es:=fun h=>Qh9.1 he ((hg.ks _).2 h)
   rw[h3,e2,List.filter_cons,if_neg (by rw[decide_eq_false hin];exact Bool.false_ne_true)]
 ·rw[List.drop_eq_nil_of_le (by rw[strs,List.length_map];omega)]
  simp
abbrev ksH:List CK:=[.l 10,.s,.r 25,.r 27,.r 25,.r 1]
theorem QK4 {l:LD}{k:Str}{la g re w:List LD}{f:TelK ksH}(hl:w.length≤4096)(hg:GK l.es la)(h:∀ce':List LD,strs ce'=(strs w).filter (fun s=>decide (s∈strs l.es))→f l k la g re ce') :
  ∃j,Qa2 j [l,.s k,.n (Int.ofNat w.length),.n 0,.t la,.t g,.t re,.t [],.t w] [apK ksH f]:=⟨_,l,k,_,0,la,g,re,[],w,rfl,hl,rfl,by omega,Int.natCast_nonneg _,Nat.lt_succ_self _,by simp,hg,fun ce' _ h2 _=>h ce' (by simpa [strs] using h2)⟩
theorem QIB {fn:Str}{fp fl fb:LD}{f:TelK [.r 1]}(P:FnP fn fp fl fb)(h:∀w:List LD,w.length≤4096→strs w=(clD fb).foldl addS []→f w):QP [.s fn,fp,fl,fb] [apK [.r 1] f]:=by
  have hm:=P.m
  have h1:=Qy9 fb.es
  have h2:=QoI fb
  have key:f (rowS (Qo9 fp fl fb)):=by
   refine h _ ?_ ?_
   · rw[rowS,List.length_map,Qo9,Qfr,List.length_mergeSort,List.length_map]
     have:=Qjg (knL (fp.es++fl.es) []) (clL fb.es) []
     simp only[List.length_nil] at this;omega
   · rw[←QGT P.r,strs,rowS,List.map_map]
     exact (List.map_congr_left fun x _=>rfl).trans (List.map_id _)
  exact⟨fn,fp,fl,fb,rfl,P.v,P.n,P.r,by omega,fun _=>key⟩
structure ReOk (es la g re:List LD):Prop where
 p:(g.map keyE++re.map keyE).Perm (la.map keyE)
 m:∀e∈re,e∈la
 vs:∀s e,QU s g=some e→strs (e.f 1).es=calN es es.length s
def QbO (j:Nat):QF:=fun xs Ks=>∃l la g re,xs=[l,.t la,.t g,.t re]∧FsOk l∧LaOk l.es l.es.length la∧ReOk l.es la g re∧re.length<j∧∀g':List LD,g'.length≤6→EdOk l.es g'→nthK Ks 0 [.t la,.t g',.t []]
theorem QwW {l:LD}{la g re:List LD}{Ks:List (List LD→Prop)}{q:QF}{j:Nat}(h:QbO (j+1) [l,.t la,.t g,.t re] Ks):Qn0 l la g re (fun ys=>QbO j ys Ks) (nthK Ks) q QP (fun xs Ks=>∃j,Qa2 j xs Ks):=by
 obtain⟨l_,la_,g_,re_,eq,hF,ha,hr,hj,hk⟩:=h
 simp only[List.cons.injEq,LD.t.injEq,and_true] at eq
 obtain⟨rfl,rfl,rfl,rfl⟩:=eq
 refine Eq.mpr (QxV ..) ?_
 have hF1:=hF.1
 have le:l.len=l.es.length:=rfl
 have hgk:=ha.gk
 have hlal:=hgk.len
 have hpl:=hr.p.length_eq
 simp only[List.length_append,List.length_map] at hpl
 have hnd:(g.map keyE++re.map keyE).Nodup:=hr.p.nodup_iff.2 ha.nd
 refine⟨fun hz=>?_,fun a e b hab=>?_⟩
 ·subst hz
  have hp:(g.map keyE).Perm (la.map keyE):=by simpa using hr.p
  exact hk g (by omega) ⟨hp.nodup_iff.2 ha.nd,fun s=>by rw[hp.mem_iff];exact hgk.ks s,hr.vs⟩
 ·subst hab
  have hel:e∈la:=hr.m e (by simp)
  have hf:=Qp4 ha.nd hel
  obtain⟨m,hm1,hm2⟩:=ha.vs _ e hf
  obtain⟨hm3,hm4⟩:=QvW hm1
  obtain⟨fn,fp,fl,fb,hd,P⟩:=hF.at hm3
  have ht:((m:Int)).toNat=m:=Int.toNat_natCast m
  have g0:((l.at 4 (e.f 1).i).f 0).st=fn:=by rw[hm2,at_f,ht,hd];rfl
  have g1:(l.at 4 (e.f 1).i).f 1=fp:=by rw[hm2,at_f,ht,hd];rfl
  have g2:(l.at 4 (e.f 1).i).f 2=fl:=by rw[hm2,at_f,ht,hd];rfl
  have g3:(l.at 4 (e.f 1).i).f 3=fb:=by rw[hm2,at_f,ht,hd];rfl
  rw[g0,g1,g2,g3,hm2]
  refine⟨decB (Int.natCast_nonneg _) (by show (m:Int)<(l.len:Int);omega),QIB P fun w hw1 hw2=>QK4 hw1 hgk fun ce hce=>?_⟩
  have hkg:keyE e ∉ g.map keyE:=by
   rw[List.map_append,List.map_cons,List.nodup_append] at hnd
   exact fun h=>hnd.2.2 (keyE e) h (keyE e) (by simp) rfl
  have hcal:∀v:LD,v.es=ce→QbO j [l,.t la,.t (upE (keyE e) (.t [.s (keyE e),v]) g),.t (a++b)] Ks:=fun v hve=>by
   have hx:=Qxu (keyE e) v
   refine⟨l,la,_,_,rfl,hF,ha,⟨?_,fun x hx'=>hr.m x ?_,fun s x he=>?_⟩,by simp only[List.length_append,List.length_cons] at hj ⊢;omega,hk⟩
   ·rw[Qpt hx,if_neg hkg]
    refine List.Perm.trans ?_ hr.p
    simp only[List.map_append,List.map_cons,List.append_assoc]
    exact List.Perm.append_left _ (show (keyE e::(a.map keyE++b.map keyE)).Perm _ from List.perm_middle.symm)
   ·rcases List.mem_append.1 hx' with h | h
    ·exact List.mem_append.2 (.inl h)
    ·exact List.mem_append.2 (.inr (.tail _ h))
   ·by_cases hs:s=keyE e
    ·rw[hs,Qkh hx] at he
     simp only[Option.some.injEq] at he
     rw[←he,hs]
     unfold calN
     rw[hm1]
     show strs v.es=calM l.es m
     rw[hve,hce,hw2,calM,hd];rfl
    ·rw[Qhn hx hs] at he
     exact hr.vs s x he
  have hgl:g.length<9223372036854775807:=by
   simp only[List.length_cons,List.length_append] at hpl;omega
  exact⟨fun hz=>⟨hgl,hcal .nul hz.symm⟩,fun a2 c2 hc2=>⟨hgl,hcal (.l a2 c2 ce) rfl⟩⟩
theorem Qz1 {l:LD}{Ks:Nat→List LD→Prop}{q q1 q13:QF}(h:FsOk l)(hk:∀g:List LD,g.length≤6→EdOk l.es g→Ks 0 [.t g]):QqU l Ks q q1 (fun xs Ks=>∃j,QbP j xs Ks) (fun xs Ks=>∃j,QbO j xs Ks) q13:=by
 refine Eq.mpr (QAI ..) ?_
 refine⟨_,l,l,_,0,[],rfl,h.1,rfl,by omega,Int.natCast_nonneg _,Nat.lt_succ_self _,by simp,⟨by simp,fun s=>⟨fun hs=>(nomatch hs),fun hn=>absurd rfl hn⟩,fun s e he=>(nomatch he)⟩,fun la hla _=>?_⟩
 exact⟨_,l,la,[],la,rfl,h,hla,⟨by simp,fun e he=>he,fun s e he=>(nomatch he)⟩,Nat.lt_succ_self _,fun g h1 h2 _=>hk g h1 h2⟩
def Qav:QF:=fun xs Ks=>xs=[]∧nthK Ks 0 [.b true]
def QrM:QF:=fun xs Ks=>∃l,xs=[l]∧wt l (.l 22)∧nthK Ks 0 [.b true]
def QaF (j:Nat):QF:=fun xs Ks=>∃i gc ga pf g h,xs=[.n i,gc,ga,pf,.t g,.t h]∧PrOk pf∧EdOk pf.es g∧EdOk pf.es h∧0≤i∧i≤pf.len∧(pf.len - i:Int).toNat<j∧nthK Ks 0 [gc,ga,pf,.t g,.t h]
theorem QzG:∀(l acc:List Str),(l.foldl addS acc).length≤acc.length+l.length
 | [],acc=>by simp
 | s::l,acc=>by
  have h1:=QzG l (addS acc s)
  have h2:=QwF acc s
  simp only[List.foldl_cons,List.length_cons];omega
theorem PrOk.fs {F:LD}(h:PrOk F):FsOk F:=⟨Nat.le_trans h.1 (by omega),h.2⟩
theorem QJz {l:LD}(h:FsOk l){n:Nat}{s:Str}(hn:n≤l.es.length):(calN l.es n s).length≤4096:=by
 unfold calN
 split
 ·rename_i m hm
  obtain⟨h1,_⟩:=QvW hm
  obtain⟨fn,fp,fl,fb,hd,P⟩:=h.at (show m<l.es.length by omega)
  have h2:(calM l.es m).length≤((clD fb).foldl addS []).length:=by
   rw[calM,hd];exact List.length_filter_le _ _
  have h3:=QzG (clD fb) []
  have h4:=Qza fb
  have h5:=P.m
  simp only[List.length_nil] at h3
  omega
 ·exact Nat.zero_le _
theorem Qok {i:Int}{gc ga pf:LD}{g h:List LD}{Ks:List (List LD→Prop)}{q q1 q2 q3 q4 q5:QF}{j:Nat}(hh:QaF (j+1) [.n i,gc,ga,pf,.t g,.t h] Ks):QhA i gc ga pf g h (fun ys=>QaF j ys Ks) (nthK Ks) q q1 Q3 q2 q3 q4 q5:=by
 obtain⟨i_,gc_,ga_,pf_,g_,h_,eq,hp,hg,hq,h0,h1,hj,hk⟩:=hh
 simp only[List.cons.injEq,LD.n.injEq,LD.t.injEq,and_true] at eq
 obtain⟨rfl,rfl,rfl,rfl,rfl,rfl⟩:=eq
 refine Eq.mpr (Qo4 ..) ?_
 refine bifD (fun hc=>⟨decB h0 hc,?_⟩) fun hc=>hk
 have hc':i<(pf.len:Int):=hc
 have hp1:=hp.1
 have le:pf.len=pf.es.length:=rfl
 have hlt:i.toNat<pf.es.length:=by omega
 have ei:IntKind.i64.wrap (i+1)=i+1:=QJ (by omega) (by omega)
 have hin:nmAt pf.es i.toNat∈strs pf.es:=Qto.2 ⟨_,hlt,rfl⟩
 simp only[at_f,ei]
 have hno:∀m:List LD,EdOk pf.es m→QU (nmAt pf.es i.toNat) m=none→False:=fun m hm hn=>Qh9.1 hn ((hm.ks _).2 hin)
 refine⟨fun e he=>⟨decB h0 hc,fun e2 he2=>?_,fun hn=>(hno h hq hn).elim⟩,fun hn=>(hno g hg hn).elim⟩
 have v1:=hg.vs _ e he
 have v2:=hq.vs _ e2 he2
 have hl:(e.f 1).len≤1000000:=by
  have:=congrArg List.length v1
  rw[Ql8] at this
  have h3:=QJz hp.fs (n:=pf.es.length) (s:=nmAt pf.es i.toNat) (Nat.le_refl _)
  show (e.f 1).es.length≤1000000
  have h4:((e.f 1).es.length)=(calN pf.es pf.es.length (nmAt pf.es i.toNat)).length:=this
  omega
 refine QFD hl (v1.trans v2.symm) (bifT ?_)
 exact⟨i+1,gc,ga,pf,g,h,rfl,hp,hg,hq,by omega,by omega,by omega,hk⟩
theorem u_10 {gc ga pf:LD}{g h:List LD}{f:TelK [.l 1,.l 11,.l 10,.r 27,.r 27]}{f2:TelK [.b,.l 1,.l 11,.l 10,.r 27,.r 27]}(hp:PrOk pf)(hg:EdOk pf.es g)(hh:EdOk pf.es h)(hf:f gc ga pf g h) :
  ∃j,QaF j [.n 0,gc,ga,pf,.t g,.t h] [apK [.l 1,.l 11,.l 10,.r 27,.r 27] f,apK [.b,.l 1,.l 11,.l 10,.r 27,.r 27] f2]:=⟨_,0,gc,ga,pf,g,h,rfl,hp,hg,hh,by omega,Int.natCast_nonneg _,Nat.lt_succ_self _,fun _=>hf⟩
theorem f_ok:FnOk (.t [.s (List.map UInt8.ofNat [102]),.nul,.nul,.nul]):=⟨_,.nul,.nul,.nul,rfl,⟨⟨Nat.zero_le _,Nat.zero_le _⟩,fun a b h1 h2=>absurd h2 (Nat.not_lt_zero _),Nat.zero_le _,fun x h=>(nomatch h),Nat.zero_le _⟩⟩
theorem QIv {g:Int}{l:LD}{f:TelK [.l 1,.l 11,.l 10]}(hl:wt l (.l 22))(h:∀gc ga F:LD,PrOk F→f gc ga F):Qab [.n g,l] [apK [.l 1,.l 11,.l 10] f]:=⟨g,l,rfl,hl,fun gc ga F hF _=>h gc ga F hF⟩
theorem QrH {l:LD}{Ks:Nat→List LD→Prop}{q:QF}(hl:wt l (.l 22))(hk:Ks 0 [.b true]):QkC l Ks q Qax Q3 Qab Q8 Qah Qav (fun xs Ks=>∃j,QaF j xs Ks):=by
 refine Eq.mpr (QsM ..) ?_
 refine⟨rfl,fun _=>bifT ?_⟩
 refine QIz fun b=>bifI (fun _=>?_) fun _=>hk
 refine QIv hl fun gc ga F hF=>?_
 have hF1:=hF.1
 have hle:F.len=F.es.length:=rfl
 refine QDU hF.fs fun g hg1 hg=>⟨rfl,QIA hF.fs fun h hh1 hh=>?_⟩
 have hlen:g.length=h.length:=by
  have:=QKf hg.nd hh.nd fun s=>by rw[hg.ks,hh.ks]
  rwa [List.length_map,List.length_map] at this
 refine bifN (fun hn=>absurd (by rw[hlen]) hn) fun _=>u_10 hF hg hh ⟨⟨by omega,by omega⟩,⟨by omega,by omega⟩,fun hz=>by simp at hz,fun a c hc=>?_⟩
 have hap:FsOk (.l a c (F.es++[.t [.s (List.map UInt8.ofNat [102]),.nul,.nul,.nul]])):=by
  refine⟨?_,fun e he=>?_⟩
  ·show (F.es++[LD.t [LD.s (List.map UInt8.ofNat [102]),.nul,.nul,.nul]]).length≤6
   rw[List.length_append,List.length_singleton];omega
  ·rcases List.mem_append.1 he with h | h
   ·exact hF.2 e h
   ·rw[List.mem_singleton.1 h];exact f_ok
 refine QDU hap fun m _ hm=>⟨fun e he=>?_,fun _=>hk⟩
 have hv:=hm.vs _ e he
 have hz:calN (F.es++[LD.t [LD.s (List.map UInt8.ofNat [102]),.nul,.nul,.nul]]) (F.es.length+1) (List.map UInt8.ofNat [102])=[]:=by
  have hg:(F.es++[LD.t [LD.s (List.map UInt8.ofNat [102]),.nul,.nul,.nul]]).getD F.es.length .nul=.t [.s (List.map UInt8.ofNat [102]),.nul,.nul,.nul]:=by
   rw[List.getD_eq_getElem?_getD,List.getElem?_append_right (Nat.le_refl _),Nat.sub_self];rfl
  unfold calN
  rw[QpZ,if_pos (by rw[nmAt,hg];rfl)]
  show calM _ F.es.length=[]
  rw[calM,hg];rfl
 have hes:(LD.l a c (F.es++[LD.t [LD.s (List.map UInt8.ofNat [102]),.nul,.nul,.nul]])).es=F.es++[LD.t [LD.s (List.map UInt8.ofNat [102]),.nul,.nul,.nul]]:=rfl
 rw[hes,List.length_append,List.length_singleton,hz] at hv
 have h0:(e.f 1).len=0:=by
  have:=congrArg List.length hv
  rw[Ql8] at this;exact this
 refine bifD (fun _=>hk) fun hn=>absurd ?_ hn
 show ((e.f 1).len:Int)=0
 omega
end Go.Proofs.YtmdppkbekmpopaaGreat
namespace Go.Sh
open Go.Proofs Go.Shelf Go.Sort
variable {P:Program}{ρ ρ':Ren}
def anyE:Value→Option (DataW Unit×List MemPlace):=fun _=>some (.nil,[])
theorem QEi {k:TypeId}(hk:P.underlying k=some .string):∀(m:List (Str×Value))(st:List Nat),m.length=st.length→(∀p∈m,p.1.length≤maxLen) →
  (ents m st).map (Go.WideElems.rg P k anyE)=m.map fun p=>((.string p.1:Lit),(.nil:DataW Unit))
 | [],st,_,_=>by simp[ents]
 | p::m,[],h,_=>by simp at h
 | p::m,s::st,h,hl=>by
  have ih:=QEi hk m st (by simpa using h) (fun q hq=>hl q (by simp[hq]))
  unfold ents at ih ⊢
  simp only[List.zip_cons_cons,List.map_cons,ih]
  congr 1
  have h1:keyOf P k (str p.1)=some (.string p.1):=by
   have:=Go.WideMaps.keyOf_string_mk (P:=P) (k:=k) hk (s:=⟨p.1.toArray⟩) (by show p.1.toArray.size≤maxLen;rw[List.size_toArray];exact hl p (by simp))
   simpa [str] using this
  simp[Go.WideElems.rg,Go.WideElems.rd,h1,anyE]
theorem QEj {k:TypeId}(hk:P.underlying k=some .string):∀(m:List (Str×Value))(st:List Nat),(∀p∈m,p.1.length≤maxLen) →
  ∀x∈ents m st,∃y,Go.WideElems.rd P k anyE x=some y
 | [],st,_=>by simp[ents]
 | p::m,[],_=>by simp[ents]
 | p::m,s::st,hl=>by
  have ih:=QEj hk m st (fun q hq=>hl q (by simp[hq]))
  unfold ents at ih ⊢
  simp only[List.zip_cons_cons,List.map_cons,List.mem_cons,forall_eq_or_imp]
  refine⟨?_,ih⟩
  have h1:keyOf P k (str p.1)=some (.string p.1):=by
   have:=Go.WideMaps.keyOf_string_mk (P:=P) (k:=k) hk (s:=⟨p.1.toArray⟩) (by show p.1.toArray.size≤maxLen;rw[List.size_toArray];exact hl p (by simp))
   simpa [str] using this
  exact⟨(.string p.1,.nil),by simp[Go.WideElems.rd,h1,anyE]⟩
theorem Qsx:∀(m:List (Str×Value))(st:List Nat),m.length=st.length→(ents m st).map (·.born)=st
 | [],[],_=>by simp[ents]
 | [],_::_,h=>by simp at h
 | p::m,[],h=>by simp at h
 | p::m,s::st,h=>by
  have ih:=Qsx m st (by simpa using h)
  unfold ents at ih ⊢
  simp only[List.zip_cons_cons,List.map_cons,ih]
theorem QCz:∀(m:List (Str×Value))(st:List Nat),m.length=st.length→(ents m st).map (·.key)=m.map fun p=>str p.1
 | [],[],_=>by simp[ents]
 | [],_::_,h=>by simp at h
 | p::m,[],h=>by simp at h
 | p::m,s::st,h=>by
  have ih:=QCz m st (by simpa using h)
  unfold ents at ih ⊢
  simp only[List.zip_cons_cons,List.map_cons,ih]
theorem QCy (m:List (Str×Value))(st:List Nat)(h:m.length=st.length):(ents m st).length=m.length:=by
 simp[ents,h]
theorem QEX {k:TypeId}(hk:P.underlying k=some .string){w:World}{r:Nat}{m:List (Str×Value)}{st:List Nat}{c:Nat}(ok:Qga m st c)(hb:w.heap[r]?=some (.map (ents m st).toArray c))
  (hl:∀p∈m,p.1.length≤maxLen) (hm:m.length≤maxLen) :
  w.ownsMap P k anyE r m.length (.map ((m.map fun p=>((.string p.1:Lit),(.nil:DataW Unit))).foldr DataW.insert [])):=by
 refine⟨_,c,hb,⟨?_,⟨?_,?_,?_⟩,?_⟩,?_,?_⟩
 ·rw[List.size_toArray,QCy m st ok.len];exact hm
 ·intro x hx
  have:x.born∈(ents m st).map (·.born):=List.mem_map.2 ⟨x,by simpa using hx,rfl⟩
  rw[Qsx m st ok.len] at this
  exact ok.lt _ this
 ·show ((ents m st).map (·.born)).Nodup
  rw[Qsx m st ok.len]
  exact ok.born
 ·show ((ents m st).map (·.key)).Nodup
  rw[QCz m st ok.len]
  have:=ok.keys
  rw[List.Nodup,List.pairwise_map] at this ⊢
  exact this.imp fun h e=>h (QIE e)
 ·exact QEj hk m st hl
 ·rw[List.size_toArray,QCy m st ok.len];exact Nat.le_refl _
 ·show _=DataW.map (((ents m st).map (Go.WideElems.rg P k anyE)).foldr DataW.insert [])
  rw[QEi hk m st ok.len hl]
theorem strKeys_perm (m:List (Str×Value)):(strKeys (.map ((m.map fun p=>((.string p.1:Lit),(.nil:DataW Unit))).foldr DataW.insert []))).Perm (m.map (·.1)):=by
 have h:=(Go.WideShapes.sorted_perm (m.map fun p=>((.string p.1:Lit),(.nil:DataW Unit)))).map (fun p:Lit×DataW Unit=>strOf p.1)
 show (List.map (fun p:Lit×DataW Unit=>strOf p.1) _).Perm _
 refine h.trans ?_
 rw[List.map_map]
 exact .of_eq (List.map_congr_left fun p _=>rfl)
abbrev QA5 (d:List Str):List Str:=d.mergeSort fun x y=>decide (x≤y)
theorem QFI [Gd] (hg:¬Gd.g)(L6:SlLaysZ.n6 P ρ)(hS:AnyZ.SortsIn P ρ Fence.wide 5)(e9:∀args w,(callFunc (ρ.f 9) args).run P w=.ok (.enter (ρ.f 9) args) w)(L10:SlLaysZ.n10 P ρ')(eg:∀args w,(callFunc (ρ'.f 10) args).run P w=.ok (.enter (ρ'.f 10) args) w)
  {h:Heap}{Bm r:Nat}{m:List (Str×Value)}{st:List Nat}{c:Nat} (hbox:cellAt h ⟨Bm,0,none⟩=some (.map (some r))) (ok:Qga m st c) (hb:h[r]?=some (.map (ents m st).toArray c))
  (hl:∀p∈m,p.1.length≤maxLen) (hm:m.length≤1000000) :
  HC P (ρ.f 6) #[.func (.func (ρ'.f 10)) #[] #[.pointer (some ⟨Bm,0,none⟩)]] h fun u h'=>∃ks:List Str,ks.Perm (m.map (·.1))∧St h h' [Row 1 u ks.length ((QA5 ks).map str)]:=by
 have hmx:(1000000:Nat)≤maxLen:=by decide
 refine HC.of_ret fun w hw=>?_
 have hsz:Maps.size (.map ((m.map fun p=>((.string p.1:Lit),(.nil:DataW Unit))).foldr DataW.insert []))≤1000000:=by
  have:=(Go.WideShapes.sorted_perm (m.map fun p=>((.string p.1:Lit),(.nil:DataW Unit)))).length_eq
  simp only[Maps.size]
  rw[this]
  simpa using hm
 have hown:=QEX (P:=P) (k:=ρ'.t 26) L10.t26 (w:=w) ok (by rw[hw];exact hb) hl (by omega)
 have hBm:Bm<w.heap.size:=by rw[hw];exact QzL hbox
 have hseq:=AnyZ.keys_gives L10 Fence.wide 3 trivial rfl (by omega) Bm r m.length _ w hBm (by rw[Qee,hw];exact hbox) hown
 have hcol:=AnyZ.sorted_in L6 Fence.wide 6 trivial trivial trivial trivial rfl (by omega) hS e9 (ρ'.f 10) #[.pointer (some ⟨Bm,0,none⟩)] trivial eg _ _ (by omega) (by omega) w hseq
 refine (callsIn_wide.1 hcol).mono ?_
 rintro e w' ⟨v,ss,rfl,hP,hrow,hnil,hbl⟩
 refine⟨v,rfl,⟨hbl.os,hbl.tape,hbl.output,fun g=>absurd g hg⟩,ss,List.Perm.trans hP (strKeys_perm m),?_⟩
 obtain⟨hlen,hrow⟩:=hrow
 have e1:(ss.mergeSort fun x y=>decide (x≤y)).map encStr=(QA5 ss).map str:=rfl
 have el:(QA5 ss).length=ss.length:=List.length_mergeSort _
 have hbk:∀b,b<h.size→w'.heap[b]?=h[b]?:=fun b hb=>by
  rw[←hw] at hb ⊢
  exact hbl.block b hb
 have hsize:h.size≤w'.heap.size:=by rw[←hw];exact hbl.size
 rcases hrow with⟨rfl,hn⟩ | ⟨g,cap,cur,rfl,hbase,hcell,hcap,_,hcur,htake⟩
 ·have:ss=[]:=by simpa using hn
  subst this
  exact⟨⟨hsize,hbk⟩,fun _=>False,⟨by simp,.inl ⟨rfl,rfl⟩⟩,fun _ h=>h.elim,trivial⟩
 ·refine (St.nil h).new hsize hbk ⟨by simp[el],.inr ⟨⟨g,0,none⟩,cap,cur.toList.drop ss.length,rfl,hcap,?_,?_⟩⟩
  ·rw[List.length_drop,Array.length_toList,hcur];omega
  ·refine⟨g,0,ρ.t 26,[],[],rfl,⟨by rw[←hw];exact hbase,lt_of_some hcell⟩,?_,rfl⟩
   rw[hcell]
   congr 2
   rw[Nat.mul_one] at htake
   rw[List.nil_append,List.append_nil,←e1,←htake,List.take_append_drop]
end Go.Sh
