import Derived.Test.YtmdppkbekmpopaaGreatOq
set_option linter.unusedVariables false
set_option linter.unusedSimpArgs false
set_option linter.unusedSectionVars false
namespace Go.Va
open Go Go.Sh
variable [Vb]
variable {k:CK}{ks:List CK}
theorem QG0 {xs:List LD}(h:wtL xs (k::ks)):∃x r,xs=x::r∧wt x k∧wtL r ks:=by
 cases xs with
 | nil=>simp only[wtL] at h
 | cons x r=>simp only[wtL] at h;exact⟨x,r,rfl,h⟩
variable {d:LD}
theorem wt_i {k:IntKind}(h:wt d (.i k)):∃n,d=.n n∧loK k≤n∧n≤hiK k:=by
 cases d<;>simp only[wt] at h
 exact⟨_,rfl,h⟩
theorem wt_s (h:wt d .s):∃s,d=.s s∧s.length≤maxL:=by
 cases d<;>simp only[wt] at h
 exact⟨_,rfl,h⟩
theorem QDL {ks:List CK}:∀ {es:List LD}{j:Nat},wtE es ks→j<es.length→wtL (es.getD j .nul).cs ks
 | e::es,0,h,_=>by
  simp only[wtE] at h
  have h1:=h.1
  cases e<;>simp only[wtT] at h1
  exact h1
 | e::es,j+1,h,hj=>by
  simp only[wtE] at h
  have:=QDL (j:=j) h.2 (by simpa using hj)
  simpa using this
theorem QHP {t:Nat}(h:wt d (.l t))(ly:Vb.ly[t]?=some ks){sz:Nat}{j:Int}(h0:0≤j)(h1:j<d.len):wtL (d.at sz j).cs ks:=by
 cases d<;>simp only[wt,LD.len,LD.es,List.length_nil] at h h1
 ·omega
 ·rename_i a c es
  rw[ly] at h
  have:j.toNat<es.length:=om
  exact QDL h.2.2.2 this
theorem QHQ {j:Nat}(h:wtL d.cs ks)(hk:ks[j]?=some k):wt (d.f j) k:=by
 have:∀ {cs:List LD}{ks:List CK}{j:Nat},wtL cs ks→ks[j]?=some k→wt (cs.getD j .nul) k:=by
  intro cs
  induction cs with
  | nil=>intro ks j h hk;cases ks<;>simp[wtL] at h hk
  | cons c cs ih=>
   intro ks j h hk
   cases ks with
   | nil=>simp at hk
   | cons k' ks=>
    simp only[wtL] at h
    cases j with
    | zero=>simp at hk;subst hk;exact h.1
    | succ j=>simpa using ih h.2 (by simpa using hk)
 exact this h hk
theorem QJ {x:Int}(h1:-9223372036854775808≤x)(h2:x<9223372036854775808):IntKind.i64.wrap x=x:=IntWalk.i64_in _ om
theorem Qpv {a n:Int}(h0:0≤a)(hn:0<n):0≤a.tmod n∧a.tmod n<n:=⟨Int.tmod_nonneg _ h0,Int.tmod_lt_of_pos _ hn⟩
theorem QIZ:maxL=9223372036854775807:=by unfold maxL;rfl
end Go.Va
namespace Go.Va
open Go Go.Sh
variable [Vb]
theorem decC {i:Int}{n:Nat}(h0:0≤i)(h1:i<(n:Int)):((decide (0≤i))&&(decide (i<(n:Int))))=true:=by rw[decide_eq_true h0,decide_eq_true h1];rfl
variable {A B p:Prop}
theorem bifD [Decidable p](h1:p→A)(h2:¬p→B):bif decide p then A else B:=by
 by_cases h:p
 ·rw[decide_eq_true h];exact h1 h
 ·rw[decide_eq_false h];exact h2 h
theorem bifN [Decidable p](h1:¬p→A)(h2:p→B):bif (!(decide p)) then A else B:=by
 by_cases h:p
 ·rw[decide_eq_true h];exact h2 h
 ·rw[decide_eq_false h];exact h1 h
theorem bifT (h:A):bif true then A else B:=h
theorem bifF (h:B):bif false then A else B:=h
variable {b:Bool}
theorem bifI (h1:b=true→A)(h2:b=false→B):bif b then A else B:=by
 cases b
 ·exact h2 rfl
 ·exact h1 rfl
theorem decD [Decidable p] (h:p):decide p=true:=decide_eq_true h
theorem decN [Decidable p] (h:¬p):(!(decide p))=true:=by rw[decide_eq_false h];rfl
theorem decA {a:Bool}(h1:a=true)(h2:b=true):(a&&b)=true:=by rw[h1,h2];rfl
end Go.Va
set_option maxRecDepth 100000
noncomputable section
namespace Go.Proofs.YtmdppkbekmpopaaGreat
open Go Go.Sh Go.Va
abbrev tp:=Tryz.prog
instance vb:Vb:=⟨[[.i .u8],[.s],[.i .i64],[.b],[.i .i64,.s,.i .i64],[.i .i64,.i .i64,.s,.p 5,.p 5],[.i .i64,.p 5,.p 5,.p 6,.p 6,.s],[.b,.s,.p 5],[.i .i64,.s,.s,.p 5,.p 5,.p 6,.l 7,.l 8,.l 8,.i .i64],[.s,.b],[.s,.l 9,.l 9,.l 8],[.s,.i .i64],[.s,.b,.i .i64,.i .i64],[.s,.b,.l 1],[.i .i64,.i .i64],[.l 14,.b,.b,.i .i64,.i .i64,.l 12],[.s,.l 14,.b,.b,.i .i64,.i .i64,.l 12],[.s,.l 3],[.b,.l 12,.l 13],[.i .i64,.i .i64,.s,.s,.p 5,.p 5,.p 6,.l 7,.l 8,.l 8,.i .i64,.l 2,.b],[.s,.s],[.l 1,.s,.l 15],[.l 0],[.l 1],[.l 2],[.s,.i .i64],[.s],[.s,.l 1],[.i .u64]],.pending #[] 0⟩
def Qgk:Nat:=137438920640
def QjJ:List (Nat×RP):=([pq 2 9 [0,3,6,9,12,15,18,21,24],pq 3 11 [0,3,6,9,12,15,18,21,24,27,30]]++nf [0,1,4,5])
def QuL:FC:=cdF tp QjJ Qgk Tryz.f81
def Qlb:FFn:=.f 2 Qgk 6 [.t 4] (evC QuL)
def QgV:Nat:=248
def QkY:List (Nat×RP):=(nf [0,1])
def Qwr:FC:=cdF tp QkY QgV Tryz.f128
def Qmt:FFn:=.f 1 QgV 4 [.t 2] (evC Qwr)
def Qgl:Nat:=248
def QjK:List (Nat×RP):=(nf [0,1])
def QuM:FC:=cdF tp QjK Qgl Tryz.f83
def Qlc:FFn:=.f 1 Qgl 4 [.t 2] (evC QuM)
def Qgj:Nat:=4064
def QjI:List (Nat×RP):=(nf [0,1,2,3])
def QuK:FC:=cdF tp QjI Qgj Tryz.f130
def Qla:FFn:=.f 2 Qgj 4 [.t 4] (evC QuK)
def QgU:Nat:=9221084983941136320
def QkX:List (Nat×RP):=([pq 2 15 [0,3,6,16,18,36,11,12,23,24,27,30,33,41,42]]++nf [0,1,3,4,5,6,7,10])
def Qwq:FC:=cdF tp QkX QgU Tryz.f129
def Qms:FFn:=.f 2 QgU 6 [.t 4] (evC Qwq)
def Qgm:Nat:=19342812537371115451841280
def QjL:List (Nat×RP):=([pq 10 13 [0,10,12,30,5,6,17,18,21,24,27,35,36]]++nf [0,1,2,3,4,5,6,9])
def QuN:FC:=cdF tp QjL Qgm Tryz.f132
def Qld:FFn:=.f 3 Qgm 7 [.t 6] (evC QuN)
def Qgn:Nat:=8587828352
def QjM:List (Nat×RP):=(nf [0,1,2,3,4,5,6])
def QuO:FC:=cdF tp QjM Qgn Tryz.f131
def Qle:FFn:=.f 3 Qgn 6 [.t 6] (evC QuO)
def Qn5:Nat:=248
def QrO:List (Nat×RP):=(nf [0,1])
def QDC:FC:=cdF tp QrO Qn5 Tryz.f17
def Qu6:FFn:=.f 1 Qn5 4 [.t 2] (evC QDC)
def Qn4:Nat:=248
def QrN:List (Nat×RP):=(nf [0,1])
def QDA:FC:=cdF tp QrN Qn4 Tryz.f80
def Qu4:FFn:=.f 1 Qn4 4 [.t 2] (evC QDA)
def Qjd:Nat:=5448
def Qnt:List (Nat×RP):=(nf [0,1,2,3,4,5,6,9])
def Qzc:FC:=cdF tp Qnt Qjd Tryz.f34
def QoN:FFn:=.f 1 Qjd 4 [.t 2] (evC Qzc)
def QbZ:Nat:=16772608
def Qdv:List (Nat×RP):=(nf [0,1,2,5,4,6])
def QsO:FC:=cdF tp Qdv QbZ Tryz.f133
def QjX:FFn:=.f 3 QbZ 5 [.t 6] (evC QsO)
def Qgi:Nat:=3291002836773677669682367398982456081363991551933390963620182016
def QjH:List (Nat×RP):=([pq 19 14 [0,10,12,30,5,6,17,18,21,24,27,35,36,39],pq 21 14 [1,3,18,30,8,9,12,15,23,24,27,35,36,39]]++nf [0,1,2,3,4,5,7,8,9,10,11,12,13,14,17,18,20,22,23,24,26,28,30,31,32,34,35,36,37,38,40])
def QuJ:FC:=cdF tp QjH Qgi Tryz.f82
def Qk9:FFn:=.f 3 Qgi 8 [.t 6] (evC QuJ)
def Qe8:Nat:=8778896310016
def QhN:List (Nat×RP):=(nf [0,1,2,3,4,8,7,9,10,11])
def QDB:FC:=cdF tp QhN Qe8 Tryz.f33
def Qu5:FFn:=.f 2 Qe8 6 [.t 4] (evC QDB)
def Qho:FC:=cdL tp Qdv QbZ 3 Tryz.f133
def QoX:FC:=cdL tp QhN Qe8 6 Tryz.f33
end Go.Proofs.YtmdppkbekmpopaaGreat
