import Derived.Test.YtemffgbncjnmkaaGreatKn
set_option linter.unusedVariables false
set_option linter.unusedSimpArgs false
set_option maxRecDepth 100000
noncomputable section
namespace Go.Proofs.YtemffgbncjnmkaaGreat
open Go Go.Sh Go.Va
def QSd (q:QF):Ctr:=⟨⟨[.h (.i .i64),.h (.i .i64)],[]⟩,[⟨[.a [.h (.b),.h (.i .i64),.h (.i .i64)]],[]⟩],q⟩
def QZR (q:QF):Ctr:=⟨⟨[.a [.h (.b),.h (.i .i64),.h (.i .i64)],.h (.i .i64)],[]⟩,[⟨[.x (.bool false)],[]⟩],q⟩
def QOY (q:QF):Ctr:=⟨⟨[.h (.l 21)],[]⟩,[⟨[.a [.x (.bool true),.h (.i .i64),.h (.i .i64)]],[]⟩],q⟩
def QR6 (q:QF):Ctr:=⟨⟨[.a [.h (.b),.h (.i .i64),.h (.i .i64)],.a [.h (.b),.h (.i .i64),.h (.i .i64)]],[]⟩,[⟨[.a [.x (.bool true),.h (.i .i64),.h (.i .i64)],.a [.x (.bool true),.h (.i .i64),.h (.i .i64)],.x (.bool true)],[]⟩],q⟩
def QWL (q:QF):Ctr:=⟨⟨[.h (.i .i64),.h (.i .i64)],[]⟩,[⟨[.h (.i .i64),.h (.b)],[]⟩],q⟩
def QVE (q:QF):Ctr:=⟨⟨[.h (.i .i64),.h (.i .i64)],[]⟩,[⟨[.h (.i .i64),.h (.b)],[]⟩],q⟩
def QPB (q:QF):Ctr:=⟨⟨[.a [.h (.b),.h (.i .i64),.h (.i .i64)],.a [.h (.b),.h (.i .i64),.h (.i .i64)]],[]⟩,[⟨[.a [.h (.b),.h (.i .i64),.h (.i .i64)]],[]⟩],q⟩
def QYn (q:QF):Ctr:=⟨⟨[.a [.h (.b),.h (.i .i64),.h (.i .i64)],.a [.h (.b),.h (.i .i64),.h (.i .i64)]],[]⟩,[⟨[.a [.x (.bool true),.h (.i .i64),.h (.i .i64)]],[]⟩],q⟩
def QUM (q:QF):Ctr:=⟨⟨[.a [.h (.b),.h (.i .i64),.h (.i .i64)],.a [.h (.b),.h (.i .i64),.h (.i .i64)]],[]⟩,[⟨[.a [.x (.bool true),.h (.i .i64),.h (.i .i64)]],[]⟩],q⟩
def QYl (q:QF):Ctr:=⟨⟨[.a [.h (.b),.h (.i .i64),.h (.i .i64)]],[]⟩,[⟨[.a [.x (.bool true),.h (.i .i64),.h (.i .i64)]],[]⟩],q⟩
def QYm (q:QF):Ctr:=⟨⟨[.a [.h (.b),.h (.i .i64),.h (.i .i64)],.a [.h (.b),.h (.i .i64),.h (.i .i64)]],[]⟩,[⟨[.a [.x (.bool true),.h (.i .i64),.h (.i .i64)],.x (.bool false)],[]⟩],q⟩
def Q34 (q:QF):Ctr:=⟨⟨[.a [.h (.b),.h (.l 12),.h (.l 13)],.a [.h (.b),.h (.l 12),.h (.l 13)]],[]⟩,[⟨[.a [.x (.bool true),.h (.l 12),.h (.l 13)]],[]⟩],q⟩
def Q35 (q:QF):Ctr:=⟨⟨[.a [.h (.b),.h (.i .i64),.h (.i .i64)],.a [.h (.b),.h (.i .i64),.h (.i .i64)]],[]⟩,[⟨[.a [.x (.bool true),.h (.i .i64),.h (.i .i64)]],[]⟩],q⟩
def Q36 (q:QF):Ctr:=⟨⟨[.a [.h (.b),.h (.i .i64),.h (.i .i64)],.a [.h (.b),.h (.i .i64),.h (.i .i64)]],[]⟩,[⟨[.a [.x (.bool true),.h (.i .i64),.h (.i .i64)],.x (.bool false)],[]⟩],q⟩
def QVg (q:QF):Ctr:=⟨⟨[],[]⟩,[⟨[],[]⟩],q⟩
def Q6M (q:QF):Ctr:=⟨⟨[],[]⟩,[⟨[],[]⟩],q⟩
def Q2m (q:QF):Ctr:=⟨⟨[],[]⟩,[⟨[],[]⟩],q⟩
def QWe (q:QF):Ctr:=⟨⟨[],[]⟩,[⟨[],[]⟩],q⟩
def QYj (q:QF):Ctr:=⟨⟨[],[]⟩,[⟨[],[]⟩],q⟩
def QXd (q:QF):Ctr:=⟨⟨[],[]⟩,[⟨[],[]⟩],q⟩
def QWf (q:QF):Ctr:=⟨⟨[],[]⟩,[⟨[],[]⟩],q⟩
def QYk (q:QF):Ctr:=⟨⟨[],[]⟩,[⟨[],[]⟩],q⟩
def QXe (q:QF):Ctr:=⟨⟨[],[]⟩,[⟨[],[]⟩],q⟩
def QY8 (q:QF):Ctr:=⟨⟨[],[]⟩,[⟨[],[]⟩],q⟩
def QY7 (q:QF):Ctr:=⟨⟨[],[]⟩,[⟨[],[]⟩],q⟩
def Q49:Tr FFn:=(.leaf 52 QM2)
def Q29:Tr FFn:=(.leaf 134 QRS)
def QWm:Tr FFn:=(.node 63 (.leaf 52 QM2) (.node 134 (.leaf 63 QQD) (.leaf 134 QRS)))
def Q1S (QLC:QF):Tr FFn:=(.leaf 81 (.q (QOY QLC)))
def Q0f:Tr FFn:=.nil
def QYH:Tr FFn:=.nil
def QRc (QLH:QF):Tr FFn:=(.node 63 (.leaf 52 QM2) (.node 238 (.leaf 63 (.q (QSd QLH))) (.leaf 238 QX9)))
def Q1W (QLM QMS:QF):Tr FFn:=(.node 63 (.node 52 (.leaf 35 QQT) (.leaf 52 QM2)) (.node 228 (.leaf 63 QQD) (.node 236 (.leaf 228 (.q (QR6 QLM))) (.leaf 236 (.q (QWL QMS))))))
def Q1T (QLM QMJ:QF):Tr FFn:=(.node 63 (.node 52 (.leaf 35 QQT) (.leaf 52 QM2)) (.node 228 (.leaf 63 QQD) (.node 235 (.leaf 228 (.q (QR6 QLM))) (.leaf 235 (.q (QVE QMJ))))))
def Q1U (QMj:QF):Tr FFn:=(.node 63 (.node 52 (.leaf 37 QRT) (.leaf 52 QM2)) (.node 223 (.leaf 63 QQD) (.leaf 223 (.q (QUM QMj)))))
def Q1V (QLH QNq QLC QLM QL7:QF):Tr FFn:=(.node 81 (.node 52 (.leaf 35 QQT) (.node 63 (.leaf 52 QM2) (.leaf 63 (.q (QSd QLH))))) (.node 239 (.node 228 (.leaf 81 (.q (QOY QLC))) (.leaf 228 (.q (QR6 QLM)))) (.node 240 (.leaf 239 (.q (QZR QNq))) (.leaf 240 (.q (QPB QL7))))))
def Q7W:=fun (a:Int) (b:Int) (Ks:Nat→List LD→Prop) (q:QF)=>QG Q49 [] QQD (QSd q) [.n a,.n b] Ks
def Q4h:=fun (x:Int) (n:Int) (Ks:Nat→List LD→Prop) (q:QF)=>QG Q29 [] Q1u (QZR q) [.b true,.n x,.n x,.n n] Ks
def Q2n:=fun (la:Addr) (lc:Nat) (x:Int)  (Ks:Nat→List LD→Prop) (q:QF)=>QG QWm [] QVL (QOY q) [.l la lc [.t [.b true,.n x,.n x]]] Ks
def Q2o:=fun (la:Addr) (lc:Nat) (x:Int)  (Ks:Nat→List LD→Prop) (q:QF)=>QG QWm [] QVL (QOY q) [.l la lc [.t [.b false,.n 0,.n 0],.t [.b true,.n x,.n x]]] Ks
def Q2q:=fun (x y:Int)  (Ks:Nat→List LD→Prop) (q QLC:QF)=>QG (Q1S QLC) [] QZG (QR6 q) [.b true,.n x,.n x,.b true,.n y,.n y] Ks
def Q4k:=fun (a:Int) (b:Int) (Ks:Nat→List LD→Prop) (q:QF)=>QG Q0f [] QX8 (QWL q) [.n a,.n b] Ks
def Q2r:=fun (a:Int) (b:Int) (Ks:Nat→List LD→Prop) (q:QF)=>QG QYH [] QWG (QVE q) [.n a,.n b] Ks
def QVm:=fun (x y:Int)  (Ks:Nat→List LD→Prop) (q QLH:QF)=>QG (QRc QLH) [] QQi (QPB q) [.b true,.n x,.n x,.b true,.n y,.n y] Ks
def QVn:=fun (x:Int)  (Ks:Nat→List LD→Prop) (q QLH:QF)=>QG (QRc QLH) [] QQi (QPB q) [.b true,.n x,.n x,.b false,.n 0,.n 0] Ks
def Q2v:=fun (x y:Int)  (Ks:Nat→List LD→Prop) (q QLM QMS:QF)=>QG (Q1W QLM QMS) [] QZK (QYn q) [.b true,.n x,.n x,.b true,.n y,.n y] Ks
def Q2s:=fun (x y:Int)  (Ks:Nat→List LD→Prop) (q QLM QMJ:QF)=>QG (Q1T QLM QMJ) [] QZH (QUM q) [.b true,.n x,.n x,.b true,.n y,.n y] Ks
def Q2t:=fun (x:Int)  (Ks:Nat→List LD→Prop) (q QMj:QF)=>QG (Q1U QMj) [] QZI (QYl q) [.b true,.n x,.n x] Ks
def Q2u:=fun (x y:Int)  (Ks:Nat→List LD→Prop) (q QLH QNq QLC QLM QL7:QF)=>QG (Q1V QLH QNq QLC QLM QL7) [] QZJ (QYm q) [.b true,.n x,.n x,.b true,.n y,.n y] Ks
abbrev Qac4:List CK:=[.i .i64,.b]
abbrev Qac5:List CK:=[.b,.i .i64,.i .i64]
abbrev Qac6:List CK:=[.i .i64,.i .i64]
abbrev Qac8:List CK:=[.i .i64,.i .i64,.i .i64,.i .i64]
theorem Qabn (a b:Int)(Ks:Nat→List LD→Prop)(q:QF):Q7W a b Ks q=((bif (decide (b<a)) then Ks 0 [.b false,.n (0:Int),.n (0:Int)] else Ks 0 [.b true,.n a,.n b])):=by kernel_rfl
theorem Q9n (x n:Int)(Ks:Nat→List LD→Prop)(q:QF):Q4h x n Ks q=((bif (decide (x<x)) then Ks 0 [] else (bif (decide (x≤n)) then (bif (decide (n≤x)) then False else Ks 0 []) else Ks 0 []))):=by kernel_rfl
theorem Q8l (la:Go.Addr)(lc:Nat)(x:Int)(Ks:Nat→List LD→Prop)(q:QF):Q2n la lc x Ks q=(((decide (0<(1:Int)))=true∧(bif (decide (x<x)) then False else (bif (decide (x<x)) then False else Ks 0 [.n x,.n x])))):=by kernel_rfl
theorem Q8m (la:Go.Addr)(lc:Nat)(x:Int)(Ks:Nat→List LD→Prop)(q:QF):Q2o la lc x Ks q=(((decide (0<(2:Int)))=true∧((decide (1<(2:Int)))=true∧(bif (decide (x<x)) then False else (bif (decide (x<x)) then False else Ks 0 [.n x,.n x]))))):=by kernel_rfl
theorem Q8o (x y:Int)(Ks:Nat→List LD→Prop)(q QLC:QF):Q2q x y Ks q QLC=((∀a5:Go.Addr,(∀c6:Nat,(1≤c6→QLC [.l a5 c6 [(LD.t [(LD.b true),(LD.n x),(LD.n x)])]] [apK Qac6 fun (z7 z8:Int)=>(((true=true∧(y=y∧(y=y∧True)))∧((true=true∧(x=x∧(x=x∧True)))∧(∀a9:Go.Addr,(∀aa:Nat,(1≤aa→QLC [.l a9 aa [(LD.t [(LD.b true),(LD.n y),(LD.n y)])]] [apK Qac6 fun (ab ac:Int)=>(((true=true∧(y=y∧(y=y∧True)))∧((true=true∧(x=x∧(x=x∧True)))∧((true=true∧(y=y∧(y=y∧True)))∧((True∧(ab=ab∧(ac=ac∧True)))∧Ks 0 [.n z7,.n z8,.n ab,.n ac])))):Prop)]))))):Prop)])))):=by kernel_rfl
theorem Q9q (a b:Int)(Ks:Nat→List LD→Prop)(q:QF):Q4k a b Ks q=((bif (decide ((IntKind.i64.wrap (a+b))<a)) then (bif (decide (b<0)) then Ks 0 [.n (IntKind.i64.wrap (a+b)),.b true] else Ks 0 [.n (IntKind.i64.wrap (a+b)),.b false]) else (bif (decide (b<0)) then Ks 0 [.n (IntKind.i64.wrap (a+b)),.b false] else Ks 0 [.n (IntKind.i64.wrap (a+b)),.b true]))):=by kernel_rfl
theorem Q8p (a b:Int)(Ks:Nat→List LD→Prop)(q:QF):Q2r a b Ks q=((bif (decide (a<(IntKind.i64.wrap (a - b)))) then (bif (decide (b<0)) then Ks 0 [.n (IntKind.i64.wrap (a - b)),.b true] else Ks 0 [.n (IntKind.i64.wrap (a - b)),.b false]) else (bif (decide (b<0)) then Ks 0 [.n (IntKind.i64.wrap (a - b)),.b false] else Ks 0 [.n (IntKind.i64.wrap (a - b)),.b true]))):=by kernel_rfl
theorem Q20 (x y:Int)(Ks:Nat→List LD→Prop)(q QLH:QF):QVm x y Ks q QLH=(((!(decide (y=0)))=true∧((!(decide (y=0)))=true∧((!(decide (y=0)))=true∧((!(decide (y=0)))=true∧(y=y∧(x=x∧(y=y∧(x=x∧(y=y∧(x=x∧(y=y∧(x=x∧QLH [.n (min (min (min (IntKind.i64.wrap (Int.tdiv x y)) (IntKind.i64.wrap (Int.tdiv x y))) (IntKind.i64.wrap (Int.tdiv x y))) (IntKind.i64.wrap (Int.tdiv x y))),.n (max (max (max (IntKind.i64.wrap (Int.tdiv x y)) (IntKind.i64.wrap (Int.tdiv x y))) (IntKind.i64.wrap (Int.tdiv x y))) (IntKind.i64.wrap (Int.tdiv x y)))] [apK Qac5 fun (z5:Bool)(z6 z7:Int)=>((y=y∧(x=x∧(y=y∧(x=x∧(y=y∧(x=x∧(y=y∧(x=x∧Ks 0 [.b z5,.n z6,.n z7])))))))):Prop)]))))))))))))):=by kernel_rfl
theorem Q21 (x:Int)(Ks:Nat→List LD→Prop)(q QLH:QF):QVn x Ks q QLH=(Ks 0 [.b false,.n (0:Int),.n (0:Int)]):=by kernel_rfl
theorem Q8t (x y:Int)(Ks:Nat→List LD→Prop)(q QLM QMS:QF):Q2v x y Ks q QLM QMS=(QLM [.b true,.n x,.n x,.b true,.n y,.n y] [apK Qac8 fun (z6 z7 z8 z9:Int)=>(QMS [.n z6,.n z8] [apK Qac4 fun (aa:Int)(ab:Bool)=>((bif ab then QMS [.n z7,.n z9] [apK Qac4 fun (ac:Int)(ad:Bool)=>((bif ad then (bif (decide (ac<aa)) then False else Ks 0 [.n aa,.n ac]) else Ks 0 [.n ((-9223372036854775808):Int),.n (9223372036854775807:Int)]):Prop)] else QMS [.n z7,.n z9] [apK Qac4 fun (ac:Int)(ad:Bool)=>((bif ad then Ks 0 [.n ((-9223372036854775808):Int),.n (9223372036854775807:Int)] else Ks 0 [.n ((-9223372036854775808):Int),.n (9223372036854775807:Int)]):Prop)]):Prop)]:Prop)]):=by kernel_rfl
theorem Q8q (x y:Int)(Ks:Nat→List LD→Prop)(q QLM QMJ:QF):Q2s x y Ks q QLM QMJ=(QLM [.b true,.n x,.n x,.b true,.n y,.n y] [apK Qac8 fun (z6 z7 z8 z9:Int)=>(QMJ [.n z6,.n z9] [apK Qac4 fun (aa:Int)(ab:Bool)=>((bif ab then QMJ [.n z7,.n z8] [apK Qac4 fun (ac:Int)(ad:Bool)=>((bif ad then (bif (decide (ac<aa)) then False else Ks 0 [.n aa,.n ac]) else Ks 0 [.n ((-9223372036854775808):Int),.n (9223372036854775807:Int)]):Prop)] else QMJ [.n z7,.n z8] [apK Qac4 fun (ac:Int)(ad:Bool)=>((bif ad then Ks 0 [.n ((-9223372036854775808):Int),.n (9223372036854775807:Int)] else Ks 0 [.n ((-9223372036854775808):Int),.n (9223372036854775807:Int)]):Prop)]):Prop)]:Prop)]):=by kernel_rfl
theorem Q8r (x:Int)(Ks:Nat→List LD→Prop)(q QMj:QF):Q2t x Ks q QMj=(((true=true∧(x=x∧(x=x∧True)))∧QMj [.b true,.n (0:Int),.n (0:Int),.b true,.n x,.n x] [apK Qac6 fun (z4 z5:Int)=>(Ks 0 [.n z4,.n z5]:Prop)])):=by kernel_rfl
theorem Q8s (x y:Int)(Ks:Nat→List LD→Prop)(q QLH QNq QLC QLM QL7:QF):Q2u x y Ks q QLH QNq QLC QLM QL7=(QLM [.b true,.n x,.n x,.b true,.n y,.n y] [apK Qac8 fun (z9 aa ab ac:Int)=>(QNq [.b true,.n ab,.n ac,.n (0:Int)] [apK [] (QLH [.n ab,.n (min ac (-1))] [apK Qac5 fun (ad:Bool)(ae af:Int)=>(QLH [.n (max ab 1),.n ac] [apK Qac5 fun (ag:Bool)(ah ai:Int)=>(QNq [.b true,.n z9,.n aa,.n ((-9223372036854775808):Int)] [apK [] (QL7 [.b true,.n z9,.n aa,.b ad,.n ae,.n af] [apK Qac5 fun (aj:Bool)(ak al:Int)=>(((ag=ag∧(ah=ah∧(ai=ai∧True)))∧((True∧(z9=z9∧(aa=aa∧True)))∧QL7 [.b true,.n z9,.n aa,.b ag,.n ah,.n ai] [apK Qac5 fun (am:Bool)(an ao:Int)=>((∀ap:Go.Addr,(∀aq:Nat,(2≤aq→QLC [.l ap aq [(LD.t [(LD.b aj),(LD.n ak),(LD.n al)]),(LD.t [(LD.b am),(LD.n an),(LD.n ao)])]] [apK Qac6 fun (ar au:Int)=>(Ks 0 [.n ar,.n au]:Prop)]))):Prop)])):Prop)]:Prop)]:Prop)]:Prop)]:Prop)]:Prop)]):=by kernel_rfl
end Go.Proofs.YtemffgbncjnmkaaGreat
