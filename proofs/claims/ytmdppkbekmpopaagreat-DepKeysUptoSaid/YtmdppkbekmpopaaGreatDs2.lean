import Derived.Test.YtmdppkbekmpopaaGreatDt
set_option linter.unusedVariables false
set_option linter.unusedSimpArgs false
set_option linter.unusedSectionVars false
noncomputable section
namespace Go.Proofs.YtmdppkbekmpopaaGreat
open Go Go.Sh Go.Va
def QNR:QF:=fun xs Ks=>match xs,Ks with
 | [.t []],K::_=>K [.t [],.t []]
 | _,_=>False
def QOp:QF:=fun xs Ks=>match xs,Ks with
 | [.t kn,.t []],K::_=>K [.t kn,.t [],.t []]
 | _,_=>False
def QTp:QF:=fun xs Ks=>match xs,Ks with
 | [l2,.n n,.n i,.t []],K::_=>(n=(l2.len:Int)∧l2.len≤100∧0≤i)∧K [.t []]
 | _,_=>False
end Go.Proofs.YtmdppkbekmpopaaGreat
set_option maxRecDepth 100000
namespace Go.Proofs.YtmdppkbekmpopaaGreat
open Go Go.Sh Go.Va
def QPd:Nat:=576460752303423296
def QQS:List (Nat×RP):=(nf [0,1,2,3,5,6])
def QUy:FC:=cdF tp QQS QPd Tryz.f14
def QRt:FFn:=.f 0 QPd 6 [.t 0] (evC QUy)
def QkQ:Nat:=147506398594762530816
def QoC:List (Nat×RP):=([pq 8 16 [0,3,6,9,12,15,18,21,24,27,30,33,36,41,44,45]]++nf [0,1,2,3,5,7,9,10,11,13,14,15,16])
def QAY:FC:=cdF tp QoC QkQ Tryz.f28
def QqF:FFn:=.f 1 QkQ 7 [.t 2] (evC QAY)
def Qh3:Nat:=1350493209808494571860181257177806143488
def Qmh:List (Nat×RP):=([pq 9 8 [0,3,6,9,12,15,18,21],pq 11 19 [0,3,6,9,12,15,18,21,24,27,30,33,36,39,42,45,50,53,54]]++nf [0,1,2,5,6,8,10,12,13,14,17,18,19,20,21,22,24,25,26,27,29,30,31,32,33,34])
def Qx6:FC:=cdF tp Qmh Qh3 Tryz.f72
def QnK:FFn:=.f 3 Qh3 8 [.t 6] (evC Qx6)
def QfP:Nat:=170140529669669710752913430613648211968
def QiO:List (Nat×RP):=(nf [0,1,2,3,4,7,8,9,10,12,13,14,15,17,18,19,21,22,23,24,25,26,28,29,30,32,33,34,35,36,37])
def Qs4:FC:=cdF tp QiO QfP Tryz.f71
def Qkd:FFn:=.f 1 QfP 7 [.t 2,.t 3] (evC Qs4)
def Qg1:Nat:=39594738444018193991950343680
def Qk4:List (Nat×RP):=([pq 11 12 [0,3,6,9,12,15,18,21,24,27,30,33],pq 14 13 [0,3,6,9,12,15,18,21,24,27,30,33,36]]++nf [0,1,2,3,5,6,7,8,10,12,13,15,16,17,18,19,20])
def Qwx:FC:=cdF tp Qk4 Qg1 Tryz.f116
def Qmz:FFn:=.f 1 Qg1 7 [.t 2] (evC Qwx)
def Qmp:Nat:=2094560
def Qqn:List (Nat×RP):=(nf [0,1,2,4,5,6,7])
def QCY:FC:=cdF tp Qqn Qmp Tryz.f69
def Qr9:FFn:=.f 1 Qmp 5 [.t 2] (evC QCY)
def Qg0:Nat:=147564912340644364288
def Qk3:List (Nat×RP):=(nf [0,1,2,4,5,6,7,10,11,13,14,15,16,17,19])
def Qww:FC:=cdF tp Qk3 Qg0 Tryz.f70
def Qmy:FFn:=.f 2 Qg0 7 [.t 4] (evC Qww)
def Qgt:Nat:=24
def QjS:List (Nat×RP):=(nf [0,1])
def QuY:FC:=cdF tp QjS Qgt Tryz.f277
def Qlo:FFn:=.f 1 Qgt 3 [.t 2] (evC QuY)
def QfO:Nat:=65408
def QiN:List (Nat×RP):=([pq 1 9 [0,3,6,9,12,15,18,21,24]]++nf [0])
def Qs3:FC:=cdF tp QiN QfO Tryz.f278
def Qkc:FFn:=.f 3 QfO 5 [.t 6] (evC Qs3)
def Qgs:Nat:=8388576
def QjR:List (Nat×RP):=(nf [0,1,2,3,4])
def QuX:FC:=cdF tp QjR Qgs Tryz.f280
def Qln:FFn:=.f 1 Qgs 5 [.t 2] (evC QuX)
def QfN:Nat:=1046464
def QiM:List (Nat×RP):=(nf [0,1,2])
def Qs2:FC:=cdF tp QiM QfN Tryz.f281
def Qkb:FFn:=.f 2 QfN 5 [] (evC Qs2)
def QfM:Nat:=1048512
def QiL:List (Nat×RP):=([pq 0 15 [0,3,6,9,12,15,18,21,24,27,30,33,36,41,42]])
def Qs1:FC:=cdF tp QiL QfM Tryz.f279
def Qka:FFn:=.f 3 QfM 5 [] (evC Qs1)
def QgZ:Nat:=137434990336
def Qk2:List (Nat×RP):=(nf [0,1,2,4,5,7,8,9,10,11])
def Qwv:FC:=cdF tp Qk2 QgZ Tryz.f115
def Qmx:FFn:=.f 1 QgZ 6 [.t 2] (evC Qwv)
def Qey:Nat:=130032
def Qgy:List (Nat×RP):=(nf [0,1,4,3])
def Qpe:FC:=cdF tp Qgy Qey Tryz.f118
def Qhm:FFn:=.f 1 Qey 5 [] (evC Qpe)
def QeT:Nat:=32752
def Qhh:List (Nat×RP):=(nf [0,1,2,3,4])
def Qqg:FC:=cdF tp Qhh QeT Tryz.f119
def Qh7:FFn:=.f 1 QeT 4 [.t 2] (evC Qqg)
def Qex:Nat:=4080
def Qgx:List (Nat×RP):=(nf [0,1])
def Qpd:FC:=cdF tp Qgx Qex Tryz.f120
def Qhl:FFn:=.f 2 Qex 4 [] (evC Qpd)
def Qew:Nat:=280916628862976
def Qgw:List (Nat×RP):=(nf [0,1,3,4,5,6,7,9,10,11])
def Qpc:FC:=cdF tp Qgw Qew Tryz.f161
def Qhk:FFn:=.f 3 Qew 6 [.t 6] (evC Qpc)
def Qfm:Nat:=8257504
def QhU:List (Nat×RP):=(nf [1,2,3])
def Qrr:FC:=cdF tp QhU Qfm Tryz.f162
def QiU:FFn:=.f 2 Qfm 5 [] (evC Qrr)
def QQy:Nat:=162110724023355419626019870998528
def QR3:List (Nat×RP):=([pq 9 32 [0,3,6,9,12,15,18,21,24,27,30,33,36,39,42,45,48,53,54,57,60,63,66,69,72,75,78,81,84,87,92,93]]++nf [0,1,2,4,5,7,8,10,12,13,14,15,18,19,20,21,22])
def QVw:FC:=cdF tp QR3 QQy Tryz.f21
def QSS:FFn:=.f 3 QQy 7 [.t 6,.t 7] (evC QVw)
def QPe:Nat:=240
def QQT:List (Nat×RP):=(nf [0,1])
def QUz:FC:=cdF tp QQT QPe Tryz.f58
def QRu:FFn:=.f 2 QPe 4 [.t 3] (evC QUz)
def QQx:Nat:=4088
def QR2:List (Nat×RP):=(nf [0,1,2,3])
def QVv:FC:=cdF tp QR2 QQx Tryz.f61
def QSR:FFn:=.f 1 QQx 4 [.c 2 6 true] (evC QVv)
def QQw:Nat:=1871151104
def QR1:List (Nat×RP):=(nf [0,1,3,4,6,7,8,9,10])
def QVu:FC:=cdF tp QR1 QQw Tryz.f60
def QSQ:FFn:=.f 3 QQw 5 [.t 6] (evC QVu)
def QbQ:Nat:=224
def Qc6:List (Nat×RP):=(nf [0,1])
def Qg7:FC:=cdF tp Qc6 QbQ Tryz.f160
def Qdu:FFn:=.f 2 QbQ 4 [.t 4] (evC Qg7)
def QbK:FFn:=.x .cmp
def QOT:Nat:=8016
def QP8:List (Nat×RP):=(nf [0,2,3])
def QT9:FC:=cdF tp QP8 QOT Tryz.f142
def QQZ:FFn:=.f 2 QOT 4 [] (evC QT9)
def Qh1:Nat:=248
def Qmf:List (Nat×RP):=(nf [0,1,2])
def Qx4:FC:=cdF tp Qmf Qh1 Tryz.f159
def QnI:FFn:=.f 1 Qh1 4 [.t 2] (evC Qx4)
def Qgr:Nat:=33537768
def QjQ:List (Nat×RP):=(nf [0,1,2,3,4,6,8,9,10])
def QuW:FC:=cdF tp QjQ Qgr Tryz.f201
def Qlm:FFn:=.f 1 Qgr 5 [.t 2] (evC QuW)
def QOS:Nat:=232
def QP7:List (Nat×RP):=(nf [0,1,2,3])
def QT7:FC:=cdF tp QP7 QOS Tryz.f62
def QQX:FFn:=.f 1 QOS 4 [.t 2] (evC QT7)
def QOb:Nat:=232
def QPh:List (Nat×RP):=(nf [0,1,2,3])
def QTe:FC:=cdF tp QPh QOb Tryz.f106
def QPH:FFn:=.f 1 QOb 4 [.t 2] (evC QTe)
def QOa:Nat:=232
def QPg:List (Nat×RP):=(nf [0,1,2,3])
def QTd:FC:=cdF tp QPg QOa Tryz.f107
def QPG:FFn:=.f 1 QOa 4 [.t 2] (evC QTd)
def QOR:Nat:=50301888
def QP6:List (Nat×RP):=([pq 6 8 [0,3,6,9,12,15,18,21]]++nf [0,1,2,3,5,7,8,9])
def QT6:FC:=cdF tp QP6 QOR Tryz.f59
def QQW:FFn:=.f 2 QOR 5 [.t 4] (evC QT6)
def QNq:Nat:=457792
def QOD:List (Nat×RP):=(nf [0,1,3,4,5,6,7])
def QSj:FC:=cdF tp QOD QNq Tryz.f57
def QO5:FFn:=.f 2 QNq 5 [.t 4] (evC QSj)
def QgT:Nat:=268434928
def QkW:List (Nat×RP):=([pq 3 15 [0,3,6,9,12,15,18,21,24,27,30,33,36,41,42]]++nf [0,2])
def Qwp:FC:=cdF tp QkW QgT Tryz.f117
def Qmr:FFn:=.f 1 QgT 5 [] (evC Qwp)
def Qgh:Nat:=16352
def QjG:List (Nat×RP):=(nf [0,1])
def QuI:FC:=cdF tp QjG Qgh Tryz.f113
def Qk8:FFn:=.f 2 Qgh 4 [] (evC QuI)
def Qcu:Nat:=9007182074854400
def QdU:List (Nat×RP):=([pq 4 16 [0,3,6,9,12,15,18,21,24,27,30,33,36,39,44,45],pq 6 17 [0,3,6,9,12,15,18,21,24,27,30,33,36,39,42,47,48]]++nf [0,3,5,2])
def Qir:FC:=cdF tp QdU Qcu Tryz.f192
def Qef:FFn:=.f 4 Qcu 6 [] (evC Qir)
def QdF:Nat:=356811880641193946689691826088336933575983104
def QfA:List (Nat×RP):=([pq 17 16 [0,3,6,9,12,15,18,21,24,27,30,33,36,41,42,45]]++nf [0,1,3,4,5,6,7,8,9,11,12,13,14,15,16,18,19,20,21,23,24,25,26,27,28,29,30])
def Qnf:FC:=cdF tp QfA QdF Tryz.f158
def Qgd:FFn:=.f 5 QdF 8 [] (evC Qnf)
def Qgg:Nat:=224
def QjF:List (Nat×RP):=(nf [0,1])
def QuH:FC:=cdF tp QjF Qgg Tryz.f114
def Qk7:FFn:=.f 2 Qgg 4 [.t 4] (evC QuH)
def QOW (q:QF):Ctr:=⟨⟨[],[]⟩,[⟨[zB],[]⟩],q⟩
def QP4:Tr FFn:=(.node 106 (.node 72 (.node 41 (.node 35 (.node 21 (.node 16 (.leaf 11 QqE) (.node 18 (.leaf 16 QnE) (.leaf 18 QSa))) (.node 28 (.leaf 21 QSS) (.node 31 (.leaf 28 QqF) (.leaf 31 Qqz)))) (.node 38 (.node 36 (.leaf 35 QoO) (.node 37 (.leaf 36 Qqy) (.leaf 37 Qu8))) (.node 39 (.leaf 38 QnG) (.node 40 (.leaf 39 QOh) (.leaf 40 QNX))))) (.node 59 (.node 44 (.node 42 (.leaf 41 QNV) (.node 43 (.leaf 42 (.l [QLS QTp] QME)) (.leaf 43 QNl))) (.node 57 (.leaf 44 QNu) (.node 58 (.leaf 57 QO5) (.leaf 58 QRu)))) (.node 62 (.node 60 (.leaf 59 QQW) (.node 61 (.leaf 60 QSQ) (.leaf 61 QSR))) (.node 70 (.node 69 (.leaf 62 QQX) (.leaf 69 Qr9)) (.node 71 (.leaf 70 Qmy) (.leaf 71 Qkd)))))) (.node 91 (.node 84 (.node 76 (.node 74 (.leaf 72 QnK) (.node 75 (.leaf 74 QiT) (.leaf 75 Qhi))) (.node 77 (.leaf 76 QnH) (.node 78 (.leaf 77 QeL) (.leaf 78 (.q (Qc5 QOp)))))) (.node 87 (.node 85 (.leaf 84 Qqt) (.node 86 (.leaf 85 QjZ) (.leaf 86 QjY))) (.node 89 (.node 88 (.leaf 87 QiR) (.leaf 88 Qj5)) (.node 90 (.leaf 89 Qj3) (.leaf 90 Qqr))))) (.node 97 (.node 94 (.node 92 (.leaf 91 Qj4) (.node 93 (.leaf 92 Qmv) (.leaf 93 Qj2))) (.node 95 (.leaf 94 QiQ) (.node 96 (.leaf 95 Qqu) (.leaf 96 QOf)))) (.node 100 (.node 98 (.leaf 97 QNW) (.node 99 (.leaf 98 (.q (QM3 QNR))) (.leaf 99 QQz))) (.node 102 (.node 101 (.leaf 100 QNY) (.leaf 101 QOu)) (.node 103 (.leaf 102 QM8) (.leaf 103 QOe))))))) (.node 161 (.node 123 (.node 117 (.node 114 (.node 107 (.leaf 106 QPH) (.node 113 (.leaf 107 QPG) (.leaf 113 Qk8))) (.node 115 (.leaf 114 Qk7) (.node 116 (.leaf 115 Qmx) (.leaf 116 Qmz)))) (.node 120 (.node 118 (.leaf 117 Qmr) (.node 119 (.leaf 118 Qhm) (.leaf 119 Qh7))) (.node 121 (.leaf 120 Qhl) (.node 122 (.leaf 121 Qll) (.leaf 122 QgA))))) (.node 139 (.node 136 (.node 134 (.leaf 123 Qhj) (.node 135 (.leaf 134 Qqs) (.leaf 135 Qr5))) (.node 137 (.leaf 136 Qxw) (.node 138 (.leaf 137 Qu7) (.leaf 138 Qj0)))) (.node 144 (.node 142 (.leaf 139 Qr6) (.node 143 (.leaf 142 QQZ) (.leaf 143 QOg))) (.node 159 (.node 158 (.leaf 144 QMY) (.leaf 158 Qgd)) (.node 160 (.leaf 159 QnI) (.leaf 160 Qdu)))))) (.node 201 (.node 168 (.node 165 (.node 162 (.leaf 161 Qhk) (.node 163 (.leaf 162 QiU) (.leaf 163 Qmw))) (.node 166 (.leaf 165 Qr7) (.node 167 (.leaf 166 Qlf) (.leaf 167 Qj6)))) (.node 171 (.node 169 (.leaf 168 QiS) (.node 170 (.leaf 169 Qj7) (.leaf 170 QiP))) (.node 173 (.node 172 (.leaf 171 QnF) (.leaf 172 Qr8)) (.node 192 (.leaf 173 Qqv) (.leaf 192 Qef))))) (.node 233 (.node 204 (.node 202 (.leaf 201 Qlm) (.node 203 (.leaf 202 QbK) (.leaf 203 QnD))) (.node 205 (.leaf 204 Qj1) (.node 232 (.leaf 205 Qlh) (.leaf 232 Qqq)))) (.node 278 (.node 234 (.leaf 233 Qmu) (.node 277 (.leaf 234 Qlg) (.leaf 277 Qlo))) (.node 280 (.node 279 (.leaf 278 Qkc) (.leaf 279 Qka)) (.node 281 (.leaf 280 Qln) (.leaf 281 Qkb))))))))
def QRB:=fun  (Ks:KN) (q:QF)=>QG QP4 [] QRt (QOW q) [] Ks
theorem QUv (Ks:KN)(q:Go.Va.QF):QRB Ks q=((wtL [(LD.t [(LD.t [(LD.s (bzz [120])),(LD.n (1:Int))])]),(LD.t []),(LD.t [])] [.r 25,.r 26,.r 1]→(∀a2:Go.Addr,(∀c3:Nat,(1≤c3→(((1:Int)=(1:Int)∧(1≤100∧(0:Int)≤(0:Int)))∧(wtL [(LD.t [])] [.r 25]→(wtL [(LD.t []),(LD.t [])] [.r 25,.r 1]→((wtL [(LD.t [(LD.t [(LD.s (bzz [120])),(LD.n (1:Int))])]),(LD.t []),(LD.t [])] [.r 25,.r 26,.r 1]→((wtL [(LD.t [(LD.t [(LD.s (bzz [120])),(LD.n (1:Int))])]),(LD.t []),(LD.t [])] [.r 25,.r 26,.r 1]→(∀a4:Go.Addr,(∀c5:Nat,(1≤c5→(((1:Int)=(1:Int)∧(1≤100∧(0:Int)≤(0:Int)))∧(wtL [(LD.t [])] [.r 25]→(wtL [(LD.t []),(LD.t [])] [.r 25,.r 1]→((wtL [(LD.t [(LD.t [(LD.s (bzz [120])),(LD.n (1:Int))])]),(LD.t []),(LD.t [])] [.r 25,.r 26,.r 1]→(Ks 0 [(LD.b true)]∧True))∧True))))))))∧True))∧True))))))))):=kx
def QMa:Nat:=9903519131385578468004544512
def QMx:List (Nat×RP):=([pq 17 11 [0,3,6,9,15,18,21,24,14,29,30]]++nf [0,1,2,3,4,8,9,7,10,11,13,16,15])
def QTF:FC:=cdF tp QMx QMa Tryz.f4
def QP9:FFn:=.f 4 QMa 7 [.t 8] (evC QTF)
def QO7:FC:=cdL tp QMx QMa 6 Tryz.f4
def QOG:FC:=cdL tp QMx QMa 14 Tryz.f4
def QPS (q:QF):Ctr:=⟨⟨[.h (.i .u8),zL 22,zL 0,zL 16],[]⟩,[⟨[zB],[]⟩],q⟩
def QMz (q:QF):LCt:=⟨6,[0,1,2,3,9],[(some 0,[0,1,2,3]),(none,[8])],⟨⟨[.h (.i .u8),zL 22,zL 0,zL 16,zI],[]⟩,[⟨[.h (.i .u8),zL 22,zL 0,zL 16],[]⟩,⟨[zB],[]⟩],q⟩⟩
def QMu (q:QF):LCt:=⟨14,[2,3,10,11,12,13],[(some 2,[3,10,11,12])],⟨⟨[zL 0,zL 16,zL 20,.p 0 0,.s 1 1,zI],[.c [zL 1,zL 11,zL 10] 0,.r 1]⟩,[⟨[zL 16,zL 20,.p 0 0,zL 1],[.c [zL 1,zL 11,zL 10] 0]⟩],q⟩⟩
def QM1 (QX Qbg Qax QaP QL5 QLX QLV:QF):Tr FFn:=(.node 16 (.node 14 (.leaf 9 (.q (QkS Qax))) (.node 15 (.leaf 14 (.q (QOW QLV))) (.leaf 15 (.q (QkR Qbg))))) (.node 18 (.node 17 (.leaf 16 (.q (Qg4 QaP))) (.leaf 17 (.q (Qie QX)))) (.node 19 (.leaf 18 (.q (QRm QL5))) (.leaf 19 (.q (QPP QLX))))))
def QQi:=fun (g:Int) (l:LD) (n:LD) (s:LD) (Ks:KN) (q QX Qbg Qax QaP QL5 QLX QLV ql_6 ql_14:QF)=>QG (QM1 QX Qbg Qax QaP QL5 QLX QLV) [QMz ql_6,QMu ql_14] QP9 (QPS q) [.n g,l,n,s] Ks
def QPp:=fun (g:Int) (l:LD) (n:LD) (s:LD) (i:Int) (R:LP) (Ks:KN) (q QX Qbg Qax QaP QL5 QLX QLV:QF)=>Qaa (QM1 QX Qbg Qax QaP QL5 QLX QLV) [] QMa QO7 (QMz q) [.n g,l,n,s,.n i] R Ks
def QO8:=fun (n:LD) (s:LD) (u:LD) (i:Int) (gc:LD) (ga:LD) (pf:LD) (w:List LD) (R:LP) (Ks:KN) (q QX Qbg Qax QaP QL5 QLX QLV:QF)=>Qaa (QM1 QX Qbg Qax QaP QL5 QLX QLV) [] QMa QOG (QMu q) [n,s,u,.n i,gc,ga,pf,.t w] R Ks
theorem QTE (g:Int)(l n s:LD)(Ks:KN)(q QX Qbg Qax QaP QL5 QLX QLV ql_6 ql_14:QF):QQi g l n s Ks q QX Qbg Qax QaP QL5 QLX QLV ql_6 ql_14=(QLV [] [apK [.b] fun (aa:Bool)=>((bif aa then Qax [l,.n (80:Int)] [apK [.b] fun (ab:Bool)=>((bif ab then (bif (decide (4<(Int.ofNat n.len))) then Ks 0 [.b true] else (bif (decide (4<(Int.ofNat s.len))) then Ks 0 [.b true] else ql_6 [.n g,l,n,s,.n (0:Int)] [apK [.i .u8,.l 22,.l 0,.l 16] fun (ac:Int) (ad ae af:LD)=>(Qbg [.n ac,ad] [apK [.l 20] fun (ag:LD)=>(QaP [ag] [apK [.l 1,.l 11,.l 10] fun (ah ai aj:LD)=>(ql_14 [ae,af,ag,.n (0:Int),ah,ai,aj,.t []] [apK [.l 16,.l 20,.l 1,.l 1,.l 11,.l 10] fun (ak al am an ao ap:LD)=>(QL5 [an,ao,ap,al,am,ak] [apK [.s] fun (aq:Str)=>(((an=an∧(ao=ao∧(ap=ap∧True)))∧QLX [an,ao,ap,al,am,ak] [apK [.s] fun (ar:Str)=>((bif (decide (aq=ar)) then Ks 0 [.b true] else Ks 0 [.b false]):Prop)]):Prop)]:Prop)]:Prop)]:Prop)]:Prop),apK [.b] fun (ac:Bool)=>(Ks 0 [.b ac]:Prop)])) else Ks 0 [.b true]):Prop)] else Ks 0 [.b false]):Prop)]):=kx
theorem QSA (g:Int)(l n s:LD)(i:Int)(R:LP)(Ks:KN)(q QX Qbg Qax QaP QL5 QLX QLV:QF):QPp g l n s i R Ks q QX Qbg Qax QaP QL5 QLX QLV=((bif (decide (i<(Int.ofNat s.len))) then (((decide (0≤i))&&(decide (i<(Int.ofNat s.len))))=true∧(bif (decide (30<(Int.ofNat ((s.at 7 i).f 0).st.length))) then Ks 1 [.b true] else (((decide (0≤i))&&(decide (i<(Int.ofNat s.len))))=true∧(bif (decide (5<(Int.ofNat ((s.at 7 i).f 6).len))) then Ks 1 [.b true] else (((decide (0≤i))&&(decide (i<(Int.ofNat s.len))))=true∧(bif (decide (5<(Int.ofNat ((s.at 7 i).f 1).len))) then Ks 1 [.b true] else R [.n g,l,n,s,.n (IntKind.i64.wrap (i+1))])))))) else Ks 0 [.n g,l,n,s])):=kx
theorem QSf (n s u:LD)(i:Int)(gc ga pf:LD)(w:List LD)(R:LP)(Ks:KN)(q QX Qbg Qax QaP QL5 QLX QLV:QF):QO8 n s u i gc ga pf w R Ks q QX Qbg Qax QaP QL5 QLX QLV=((bif (decide (i<(Int.ofNat n.len))) then (((decide (0≤i))&&(decide (i<(Int.ofNat n.len))))=true∧QX [.n ((n.at 1 i).f 0).i] [apK [.s] fun (aa:Str)=>(((((w.length+1) * 16)≤140737488355328∧(w.length+1)≤4611686018427387904)∧R [n,s,u,.n (IntKind.i64.wrap (i+1)),gc,ga,pf,.t (w++[(LD.t [(LD.s aa)])])]):Prop)]) else ((w=[]→Ks 0 [s,u,.nul,gc,ga,pf])∧(∀ab:Go.Addr,(∀ac:Nat,(w.length≤ac→Ks 0 [s,u,.l ab ac w,gc,ga,pf])))))):=kx
def nb (v:Int):LD:=.t [.n v]
def nuB (v:Int):List LD:=if h:128≤v then nb (orI .u8 (IntKind.wrap .u8 v) 128)::nuB (v / 128) else [nb (IntKind.wrap .u8 v)]
termination_by v.toNat
decreasing_by omega
def inV (n:Int):Int:=bif decide (0≤n) then IntKind.wrap .u64 (IntKind.wrap .u64 n * 2) else IntKind.wrap .u64 (IntKind.wrap .u64 (IntKind.wrap .u64 (IntKind.wrap .i64 (0 - IntKind.wrap .i64 (n+1))) * 2)+1)
def inB (n:Int):List LD:=nuB (inV n)
def stB (s:Str):List LD:=nuB (Int.ofNat s.length)++Go.Va.strE s
def boB (b:Bool):List LD:=[nb (bif b then 1 else 0)]
def ivB (so:Bool)(lo hi:Int):List LD:=boB so++(bif so then inB lo++inB hi else [])
def gN (e:LD):List LD:=nuB (e.f 0).i
def gI (e:LD):List LD:=inB (e.f 0).i
def gB (e:LD):List LD:=boB (e.f 0).bo
def gT (e:LD):List LD:=stB (e.f 0).st
def gA (e:LD):List LD:=inB (e.f 0).i++inB (e.f 1).i
def gM (e:LD):List LD:=stB (e.f 0).st++ivB (e.f 1).bo (e.f 2).i (e.f 3).i
def suB (al:LD)(en so:Bool)(lo hi:Int)(mo:LD):List LD:=nuB (Int.ofNat al.len)++(al.es.flatMap gA++(boB en++(ivB so lo hi++(nuB (Int.ofNat mo.len)++mo.es.flatMap gM))))
def gS (e:LD):List LD:=suB (e.f 0) (e.f 1).bo (e.f 2).bo (e.f 3).i (e.f 4).i (e.f 5)
def Fit (w X:List LD):Prop:=w.length+X.length≤1099511627776
variable {X Y w:List LD}
theorem Fit.l (h:Fit w (X++Y)):Fit w X:=by
 simp only[Fit,List.length_append] at *;omega
theorem Fit.r (h:Fit w (X++Y)):Fit (w++X) Y:=by
 simp only[Fit,List.length_append] at *;omega
variable {x:LD}
theorem fit1 {w':List LD}(h:Fit w X)(e:w'++[x]=w++X):(w'.length+1) * 1≤140737488355328∧w'.length+1≤4611686018427387904:=by
 have:=congrArg List.length e
 simp only[Fit,List.length_append,List.length_cons,List.length_nil] at *
 omega
def fmD (g:LD→List LD)(es:List LD)(i:Int):List LD:=(es.drop i.toNat).flatMap g
variable {es:List LD}{g:LD→List LD}{i:Int}
theorem QNv (h0:0≤i)(h1:i<(es.length:Int)):fmD g es i=g (es.getD i.toNat .nul)++fmD g es (i+1):=by
 have hl:i.toNat<es.length:=om
 have e2:(i+1).toNat=i.toNat+1:=om
 rw[fmD,List.drop_eq_getElem_cons hl,List.flatMap_cons,fmD,e2,List.getD_eq_getElem?_getD,List.getElem?_eq_getElem hl]
 rfl
theorem QNw (h1:¬i<(es.length:Int)):fmD g es i=[]:=by
 rw[fmD,List.drop_eq_nil_of_le om];rfl
theorem QWn (g:LD→List LD)(es:List LD):fmD g es 0=es.flatMap g:=rfl
def lpW (p:LD→Prop)(g:LD→List LD)(j:Nat):QF:=fun xs Ks=>∃l i w,xs=[l,.n (l.len:Int),.n i,.t w]∧(∀e∈l.es,p e)∧0≤i∧((l.len:Int) - i).toNat<j∧l.len≤1000000∧Fit w (fmD g l.es i)∧nthK Ks 0 [.t (w++fmD g l.es i)]
def fnW (p:LD→Prop)(g:LD→List LD):QF:=fun xs Ks=>∃l w,xs=[l,.t w]∧(∀e∈l.es,p e)∧l.len≤1000000∧Fit w (l.es.flatMap g)∧nthK Ks 0 [.t (w++l.es.flatMap g)]
theorem getD_in {i:Nat}(h:i<es.length):es.getD i .nul∈es:=by
 rw[List.getD_eq_getElem?_getD,List.getElem?_eq_getElem h];exact List.getElem_mem h
variable {Ks:List LP}{j:Nat}{n:Int}{p:LD→Prop}
theorem QR8 {l:LD}{B:Prop}(h:lpW p g (j+1) [l,.n n,.n i,.t w] Ks)
  (hb:0≤i→IntKind.i64.wrap (i+1)=i+1→Fit w (g (l.es.getD i.toNat .nul))→(∀w',w'=w++g (l.es.getD i.toNat .nul)→lpW p g j [l,.n n,.n (i+1),.t w'] Ks)→p (l.es.getD i.toNat .nul)→B) :
  bif decide (i<n) then (((decide (0≤i))&&(decide (i<(Int.ofNat l.len))))=true∧B) else nthK Ks 0 [.t w]:=by
 obtain⟨l_,i_,w_,eq,hp,h0,hj,hl,hf,hk⟩:=h
 cases eq
 have le:l.len=l.es.length:=rfl
 refine bifD (fun hc=>⟨decB h0 hc,?_⟩) fun hc=>?_
 ·rw[QNv h0 om] at hf hk
  refine hb h0 (QJ om om) hf.l (fun w' hw=>?_) (hp _ (getD_in om))
  subst hw
  rw[←List.append_assoc] at hk
  exact⟨l,i+1,_,rfl,hp,om,om,hl,hf.r,hk⟩
 ·rwa [QNw om,List.append_nil] at hk
variable {f:TelK [.r 0]}
theorem QSc {l:LD}(hp:∀e∈l.es,p e)(hl:l.len≤1000000)(hf:Fit w (l.es.flatMap g))(h:f (w++l.es.flatMap g)):∃j,lpW p g j [l,.n (Int.ofNat l.len),.n 0,.t w] [apK [.r 0] f]:=
 ⟨_,l,0,w,rfl,hp,om,nl,hl,hf,fun _=>h⟩
variable {a:Addr}{c:Nat}
theorem u_W1 (hf:Fit w (g x))(h:f (w++g x))(hp:p x:=by exact trivial):fnW p g [.l a c [x],.t w] [apK [.r 0] f]:=by
 have e:[x].flatMap g=g x:=by simp
 exact⟨_,w,rfl,(fun e he=>by rw[List.mem_singleton.1 he];exact hp),(by show 1≤1000000;omega),(by rw[LD.es,e];exact hf),fun _=>(by show f (w++[x].flatMap g);rw[e];exact h)⟩
theorem u_W2 {y:LD}(hf:Fit w (g x++g y))(h:f (w++(g x++g y))):fnW (fun _=>True) g [.l a c [x,y],.t w] [apK [.r 0] f]:=by
 have e:[x,y].flatMap g=g x++g y:=by simp
 exact⟨_,w,rfl,(fun _ _=>trivial),(by show 2≤1000000;omega),(by rw[LD.es,e];exact hf),fun _=>(by show f (w++[x,y].flatMap g);rw[e];exact h)⟩
abbrev QLx:QF:=fnW (fun _=>True) gN
abbrev QLE:QF:=fnW (fun _=>True) gI
abbrev QLz:QF:=fnW (fun _=>True) gB
abbrev QLy:QF:=fnW (fun _=>True) gT
def QOQ (j:Nat):QF:=fun xs Ks=>∃v l n i w,xs=[.n v,l,.n n,.n i,.t w]∧v.toNat<j∧Fit w (nuB v)∧∀v' w',w'++[nb (IntKind.wrap .u8 v')]=w++nuB v→nthK Ks 0 [.n v',l,.n n,.n i,.t w']
variable {q:QF}
theorem QRU {v:Int}{l:LD}(h:QOQ (j+1) [.n v,l,.n n,.n i,.t w] Ks):QO9 v l n i w (fun ys=>QOQ j ys Ks) (nthK Ks) q:=by
 obtain⟨v_,l_,n_,i_,w_,eq,hj,hf,hk⟩:=h
 cases eq
 refine Eq.mpr (QSg ..) ?_
 rw[nuB] at hf hk
 refine bifD (fun hc=>?_) fun hc=>?_
 ·rw[dif_pos hc] at hf hk
  rw[show ∀(x:LD) (r:List LD),x::r=[x]++r from fun _ _=>rfl] at hf hk
  refine⟨fit1 hf.l rfl,v / 128,l,n,i,_,rfl,om,hf.r,fun v' w' he=>hk v' w' ?_⟩
  rw[he,List.append_assoc];rfl
 ·rw[dif_neg hc] at hf hk
  exact hk v w rfl
theorem QRV {l:LD}(h:lpW (fun _=>True) gN (j+1) [l,.n n,.n i,.t w] Ks):QPa l n i w (fun ys=>lpW (fun _=>True) gN j ys Ks) (nthK Ks) q (fun xs Ks=>∃j,QOQ j xs Ks):=by
 refine Eq.mpr (QSh ..) ?_
 refine QR8 h fun h0 ei hf go _=>?_
 refine⟨_,_,l,n,i,w,rfl,nl,hf,fun v' w' he _=>?_⟩
 refine⟨fit1 hf he,?_⟩
 show lpW (fun _=>True) gN j [l,.n n,.n (IntKind.i64.wrap (i+1)),.t (w'++[nb (IntKind.wrap .u8 v')])] Ks
 rw[ei]
 exact go _ he
theorem QS2 {l:LD}{Ks:KN}{q3:QF}(hl:l.len≤1000000)(hf:Fit w (l.es.flatMap gN))(hk:Ks 0 [.t (w++l.es.flatMap gN)]):QPV l w Ks q (fun xs Ks=>∃j,lpW (fun _=>True) gN j xs Ks) q3:=by
 refine Eq.mpr (QTa ..) ?_
 exact QSc (fun _ _=>trivial) hl hf hk
theorem QRW {l:LD}(h:lpW (fun _=>True) gI (j+1) [l,.n n,.n i,.t w] Ks):QPb l n i w (fun ys=>lpW (fun _=>True) gI j ys Ks) (nthK Ks) q QLx:=by
 refine Eq.mpr (QSi ..) ?_
 refine QR8 h fun h0 ei hf go _=>?_
 have e:gI (l.es.getD i.toNat .nul)=nuB (inV ((l.at 1 i).f 0).i):=by simp only[at_f];rfl
 rw[e] at hf go
 refine bifD (fun hc a c _=>?_) fun hc a c _=>?_
 ·rw[inV,decide_eq_true hc] at hf go
  refine u_W1 (g:=gN) hf ?_
  show lpW (fun _=>True) gI j [l,.n n,.n (IntKind.i64.wrap (i+1)),_] Ks
  rw[ei];exact go _ rfl
 ·rw[inV,decide_eq_false hc] at hf go
  refine u_W1 (g:=gN) hf ?_
  show lpW (fun _=>True) gI j [l,.n n,.n (IntKind.i64.wrap (i+1)),_] Ks
  rw[ei];exact go _ rfl
variable {q1:QF}
theorem QS3 {l:LD}{Ks:KN}(hl:l.len≤1000000)(hf:Fit w (l.es.flatMap gI))(hk:Ks 0 [.t (w++l.es.flatMap gI)]):QPW l w Ks q q1 (fun xs Ks=>∃j,lpW (fun _=>True) gI j xs Ks):=by
 refine Eq.mpr (QTb ..) ?_
 exact QSc (fun _ _=>trivial) hl hf hk
theorem QRG {l:LD}(h:lpW (fun _=>True) gB (j+1) [l,.n n,.n i,.t w] Ks):QOO l n i w (fun ys=>lpW (fun _=>True) gB j ys Ks) (nthK Ks) q:=by
 refine Eq.mpr (QRQ ..) ?_
 refine QR8 h fun h0 ei hf go _=>?_
 have e:gB (l.es.getD i.toNat .nul)=boB ((l.at 1 i).f 0).bo:=by simp only[at_f];rfl
 rw[e] at hf go
 refine bifI (fun hc=>⟨fit1 hf rfl,?_⟩) fun hc=>⟨fit1 hf rfl,?_⟩
 ·show lpW (fun _=>True) gB j [l,.n n,.n (IntKind.i64.wrap (i+1)),_] Ks
  rw[ei];exact go _ (by rw[hc];rfl)
 ·show lpW (fun _=>True) gB j [l,.n n,.n (IntKind.i64.wrap (i+1)),_] Ks
  rw[ei];exact go _ (by rw[hc];rfl)
theorem QSw {l:LD}{Ks:KN}(hl:l.len≤1000000)(hf:Fit w (l.es.flatMap gB))(hk:Ks 0 [.t (w++l.es.flatMap gB)]):QPt l w Ks q (fun xs Ks=>∃j,lpW (fun _=>True) gB j xs Ks):=by
 refine Eq.mpr (QSE ..) ?_
 exact QSc (fun _ _=>trivial) hl hf hk
theorem fitS {s:Str}(h:Fit w (X++Go.Va.strE s)):((w++X).length+s.length) * 1≤140737488355328∧(w++X).length+s.length≤4611686018427387904:=by
 have e:=QN8 s
 simp only[Fit,List.length_append] at *
 omega
theorem QRF {l:LD}(h:lpW (fun _=>True) gT (j+1) [l,.n n,.n i,.t w] Ks):QON l n i w (fun ys=>lpW (fun _=>True) gT j ys Ks) (nthK Ks) q QLx:=by
 refine Eq.mpr (QRP ..) ?_
 refine QR8 h fun h0 ei hf go _ a c _=>?_
 have e:gT (l.es.getD i.toNat .nul)=stB ((l.at 1 i).f 0).st:=by simp only[at_f];rfl
 rw[e] at hf go
 refine u_W1 (g:=gN) hf.l ?_
 refine⟨fitS hf,?_⟩
 show lpW (fun _=>True) gT j [l,.n n,.n (IntKind.i64.wrap (i+1)),_] Ks
 rw[ei];exact go _ (List.append_assoc ..)
theorem QSv {l:LD}{Ks:KN}(hl:l.len≤1000000)(hf:Fit w (l.es.flatMap gT))(hk:Ks 0 [.t (w++l.es.flatMap gT)]):QPs l w Ks q q1 (fun xs Ks=>∃j,lpW (fun _=>True) gT j xs Ks):=by
 refine Eq.mpr (QSD ..) ?_
 exact QSc (fun _ _=>trivial) hl hf hk
def wr (w X:List LD)(Ks:List LP):Prop:=Fit w X∧nthK Ks 0 [.t (w++X)]
def QLD:QF:=fun xs Ks=>∃so lo hi w,xs=[.b so,.n lo,.n hi,.t w]∧wr w (ivB so lo hi) Ks
variable {hi lo:Int}{so:Bool}
theorem QTk (hf:Fit w (ivB so lo hi))(h:f (w++ivB so lo hi)):QLD [.b so,.n lo,.n hi,.t w] [apK [.r 0] f]:=⟨so,lo,hi,w,rfl,hf,fun _=>h⟩
theorem QQm {Ks:KN}(hf:Fit w (ivB so lo hi))(hk:Ks 0 [.t (w++ivB so lo hi)]):QN5 so lo hi w Ks q QLE QLz:=by
 refine Eq.mpr (QQE ..) ?_
 cases so with
 | true=>
  refine bifT fun a c _=>u_W1 (g:=gB) hf.l (bifT fun a c _=>u_W2 (g:=gI) hf.r ?_)
  rw[List.append_assoc];exact hk
 | false=>exact bifF fun a c _=>u_W1 (g:=gB) hf.l (bifF (by rw[ivB,cond_false,List.append_nil] at hk;exact hk))
end Go.Proofs.YtmdppkbekmpopaaGreat
namespace Go.Proofs.YtmdppkbekmpopaaGreat
open Go Go.Sh Go.Va
def SuL (e:LD):Prop:=(e.f 0).len≤1000000∧(e.f 5).len≤1000000
abbrev QLK:QF:=fnW SuL gS
def QO4 (j:Nat):QF:=fun xs Ks=>∃l n i al k w s0 s1 s2 s3 s4 s5,xs=[l,.n n,.n i,al,.n (al.len:Int),.n k,.t w,s0,.b s1,.b s2,.n s3,.n s4,s5]∧0≤k∧((al.len:Int) - k).toNat<j∧al.len≤1000000∧Fit w (fmD gA al.es k)∧nthK Ks 0 [l,.n n,.n i,.t (w++fmD gA al.es k),s0,.b s1,.b s2,.n s3,.n s4,s5]
def QOi (j:Nat):QF:=fun xs Ks=>∃l n i mo k w,xs=[l,.n n,.n i,mo,.n (mo.len:Int),.n k,.t w]∧0≤k∧((mo.len:Int) - k).toNat<j∧mo.len≤1000000∧Fit w (fmD gM mo.es k)∧nthK Ks 0 [l,.n n,.n i,.t (w++fmD gM mo.es k)]
variable {Ks:List LP}{i k m n:Int}{j:Nat}{l:LD}{q q1 q2 q3 q4:QF}{w:List LD}
theorem QPX {al:LD}{s0:LD}{s1 s2:Bool}{s3 s4:Int}{s5:LD}(h:QO4 (j+1) [l,.n n,.n i,al,.n m,.n k,.t w,s0,.b s1,.b s2,.n s3,.n s4,s5] Ks) :
  QNP l n i al m k w s0 s1 s2 s3 s4 s5 (fun ys=>QO4 j ys Ks) (nthK Ks) q q1 QLE q2 q3 q4:=by
 obtain⟨l_,n_,i_,al_,k_,w_,a0,a1,a2,a3,a4,a5,eq,h0,hj,hl,hf,hk⟩:=h
 cases eq
 refine Eq.mpr (QP2 ..) ?_
 have le:al.len=al.es.length:=rfl
 refine bifD (fun hc=>⟨decB h0 hc,fun a c _=>?_⟩) fun hc=>?_
 ·rw[QNv h0 om] at hf hk
  have e:gA (al.es.getD k.toNat .nul)=inB ((al.at 2 k).f 0).i++inB ((al.at 2 k).f 1).i:=by simp only[at_f];rfl
  rw[e] at hf hk
  refine u_W2 (g:=gI) hf.l ?_
  show QO4 j [l,.n n,.n i,al,.n (al.len:Int),.n (IntKind.i64.wrap (k+1)),_,s0,.b s1,.b s2,.n s3,.n s4,s5] Ks
  rw[QJ (x:=k+1) om om]
  rw[←List.append_assoc] at hk
  exact⟨l,n,i,al,k+1,_,s0,s1,s2,s3,s4,s5,rfl,om,om,hl,hf.r,hk⟩
 ·rwa [QNw om,List.append_nil] at hk
theorem QPx {mo:LD}(h:QOi (j+1) [l,.n n,.n i,mo,.n m,.n k,.t w] Ks) :
  QNC l n i mo m k w (fun ys=>QOi j ys Ks) (nthK Ks) q q1 q2 q3 QLy QLD:=by
 obtain⟨l_,n_,i_,mo_,k_,w_,eq,h0,hj,hl,hf,hk⟩:=h
 cases eq
 refine Eq.mpr (QPO ..) ?_
 have le:mo.len=mo.es.length:=rfl
 refine bifD (fun hc=>⟨decB h0 hc,fun a c _=>?_⟩) fun hc=>?_
 ·rw[QNv h0 om] at hf hk
  have e:gM (mo.es.getD k.toNat .nul)=stB ((mo.at 4 k).f 0).st++ivB ((mo.at 4 k).f 1).bo ((mo.at 4 k).f 2).i ((mo.at 4 k).f 3).i:=by simp only[at_f];rfl
  rw[e] at hf hk
  refine u_W1 (g:=gT) hf.l.l (QTk hf.l.r ?_)
  show QOi j [l,.n n,.n i,mo,.n (mo.len:Int),.n (IntKind.i64.wrap (k+1)),.t (w++stB ((mo.at 4 k).f 0).st++_)] Ks
  rw[QJ (x:=k+1) om om,List.append_assoc]
  rw[←List.append_assoc] at hk
  exact⟨l,n,i,mo,k+1,_,rfl,om,om,hl,hf.r,hk⟩
 ·rwa [QNw om,List.append_nil] at hk
theorem QPY (h:lpW SuL gS (j+1) [l,.n n,.n i,.t w] Ks) :
  QNQ l n i w (fun ys=>lpW SuL gS j ys Ks) (nthK Ks) q QLx QLE QLz QLy QLD (fun xs Ks=>∃j,QO4 j xs Ks) (fun xs Ks=>∃j,QOi j xs Ks):=by
 refine Eq.mpr (QP3 ..) ?_
 refine QR8 h fun h0 ei hf go hs=>?_
 obtain⟨s1,s2⟩:=hs
 simp only[at_f]
 generalize l.es.getD i.toNat .nul=e at hf go s1 s2
 rw[gS,suB] at hf go
 refine⟨trivial,fun a c _=>u_W1 (g:=gN) hf.l ?_⟩
 refine⟨_,l,n,i,e.f 0,0,_,e.f 0,_,_,_,_,_,rfl,om,nl,s1,hf.r.l,fun _=>?_⟩
 rw[QWn]
 have fin:lpW SuL gS j [l,.n n,.n (IntKind.i64.wrap (i+1)),.t (w++gN (.t [.n (Int.ofNat (e.f 0).len)])++(e.f 0).es.flatMap gA++boB (e.f 1).bo++ivB (e.f 2).bo (e.f 3).i (e.f 4).i++gN (.t [.n (Int.ofNat (e.f 5).len)])++(e.f 5).es.flatMap gM)] Ks:=by
  rw[ei];exact go _ (by simp only[List.append_assoc];rfl)
 have go2:∀b,(e.f 1).bo=b→Fit w (nuB (Int.ofNat (e.f 0).len)++((e.f 0).es.flatMap gA++(boB b++(ivB (e.f 2).bo (e.f 3).i (e.f 4).i++(nuB (Int.ofNat (e.f 5).len)++(e.f 5).es.flatMap gM)))))∧lpW SuL gS j [l,.n n,.n (IntKind.i64.wrap (i+1)),.t (w++gN (.t [.n (Int.ofNat (e.f 0).len)])++(e.f 0).es.flatMap gA++boB b++ivB (e.f 2).bo (e.f 3).i (e.f 4).i++gN (.t [.n (Int.ofNat (e.f 5).len)])++(e.f 5).es.flatMap gM)] Ks:=fun b hb=>hb ▸ ⟨hf,fin⟩
 refine bifI (fun hb a c _=>?_) fun hb a c _=>?_
 all_goals
  obtain⟨hf,fin⟩:=go2 _ hb
  exact u_W1 (g:=gB) hf.r.r.l (QTk hf.r.r.r.l ⟨trivial,fun a c _=>u_W1 (g:=gN) hf.r.r.r.r.l ⟨_,l,n,i,e.f 5,0,_,rfl,om,nl,s2,hf.r.r.r.r.r,fun _=>fin⟩⟩)
theorem QQI {Ks:KN}{q5 q6 q7:QF}(hp:∀e∈l.es,SuL e)(hl:l.len≤1000000)(hf:Fit w (l.es.flatMap gS))(hk:Ks 0 [.t (w++l.es.flatMap gS)]):QOm l w Ks q q1 q2 q3 q4 q5 (fun xs Ks=>∃j,lpW SuL gS j xs Ks) q6 q7:=by
 refine Eq.mpr (QQ6 ..) ?_
 exact QSc hp hl hf hk
end Go.Proofs.YtmdppkbekmpopaaGreat
