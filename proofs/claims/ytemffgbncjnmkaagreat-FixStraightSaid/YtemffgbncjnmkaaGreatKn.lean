import Derived.Test.YtemffgbncjnmkaaGreatSk
import Derived.KernelRfl
set_option linter.unusedVariables false
set_option linter.unusedSimpArgs false
set_option maxRecDepth 100000
noncomputable section
namespace Go.Proofs.YtemffgbncjnmkaaGreat
open Go Go.Sh Go.Va
variable [Vb]
def QZr:Nat:=309484733120026732916383744
def Q3l:List (Nat×RP):=([pq 7 9 [0,3,6,9,12,17,18,23,26],pq 8 7 [0,3,6,11,12,17,20],pq 14 7 [0,3,6,11,12,17,20],pq 15 7 [0,3,6,11,12,17,20]]++nf [0,1,2,5,6,9,10,12,13,16,17,19,20,21,22,23])
noncomputable def Qaag:FC:=cdF Tryz.prog Q3l QZr Tryz.f20
def QS6:FFn:=.f 2 QZr 7 [.c 4 3 true] (evC Qaag)
def QVu:Nat:=2016
def QYP:List (Nat×RP):=(nf [0,1,2])
noncomputable def Q7J:FC:=cdF Tryz.prog QYP QVu Tryz.f38
def QVD:FFn:=.f 2 QVu 4 [.t 4] (evC Q7J)
def QTB:Nat:=2016
def QWU:List (Nat×RP):=(nf [0,1,2])
noncomputable def Q5Z:FC:=cdF Tryz.prog QWU QTB Tryz.f40
def QTH:FFn:=.f 2 QTB 4 [.t 4] (evC Q5Z)
def QRM:Nat:=8128
def QU6:List (Nat×RP):=([pq 1 7 [0,3,9,12,8,17,20]]++nf [0])
noncomputable def Q4d:FC:=cdF Tryz.prog QU6 QRM Tryz.f70
def QRR:FFn:=.f 3 QRM 4 [.t 5] (evC Q4d)
def QSQ:Nat:=8128
def QVY:List (Nat×RP):=([pq 1 7 [0,3,9,12,8,17,20]]++nf [0])
noncomputable def Q44:FC:=cdF Tryz.prog QVY QSQ Tryz.f65
def QSV:FFn:=.f 3 QSQ 4 [.t 5] (evC Q44)
def QTA:Nat:=8128
def QWT:List (Nat×RP):=([pq 1 7 [0,3,9,12,8,17,18]]++nf [0])
noncomputable def Q5Y:FC:=cdF Tryz.prog QWT QTA Tryz.f68
def QTG:FFn:=.f 3 QTA 4 [.t 5] (evC Q5Y)
def QRL:Nat:=8128
def QU5:List (Nat×RP):=([pq 1 7 [0,3,9,12,8,17,18]]++nf [0])
noncomputable def Q4c:FC:=cdF Tryz.prog QU5 QRL Tryz.f72
def QRQ:FFn:=.f 3 QRL 4 [.t 5] (evC Q4c)
def Q3F:Nat:=120
def Q57:List (Nat×RP):=(nf [0,1])
noncomputable def Qabs:FC:=cdF Tryz.prog Q57 Q3F Tryz.f34
def Q3M:FFn:=.f 1 Q3F 3 [.c 2 2 true] (evC Qabs)
def QQL:Nat:=73786413310256577280
def QTQ:List (Nat×RP):=([pq 6 10 [0,3,6,9,12,15,18,21,24,27],pq 11 11 [0,3,6,9,12,15,18,21,24,27,32]]++nf [0,1,2,3,7,8,12,13,10,14,15,5,16])
noncomputable def Q1K:FC:=cdF Tryz.prog QTQ QQL Tryz.f67
def QQR:FFn:=.f 2 QQL 7 [.t 4] (evC Q1K)
def QPL:Nat:=73786413310256577280
def QSm:List (Nat×RP):=([pq 6 10 [0,3,6,9,12,15,18,21,24,27],pq 11 11 [0,3,6,9,12,15,18,21,24,27,32]]++nf [0,1,2,3,7,8,12,13,10,14,15,5,16])
noncomputable def QZ0:FC:=cdF Tryz.prog QSm QPL Tryz.f71
def QP1:FFn:=.f 2 QPL 7 [.t 4] (evC QZ0)
def QO8:Nat:=496
def QRz:List (Nat×RP):=(nf [0])
noncomputable def QYy:FC:=cdF Tryz.prog QRz QO8 Tryz.f64
def QPf:FFn:=.f 2 QO8 4 [] (evC QYy)
def QOC:Nat:=496
def QQ5:List (Nat×RP):=(nf [0])
noncomputable def QXr:FC:=cdF Tryz.prog QQ5 QOC Tryz.f69
def QOG:FFn:=.f 2 QOC 4 [] (evC QXr)
def QNy:Nat:=9007182074854400
def QOK:List (Nat×RP):=([pq 4 16 [0,3,6,9,12,15,18,21,24,27,30,33,36,39,44,45],pq 6 17 [0,3,6,9,12,15,18,21,24,27,30,33,36,39,42,47,48]]++nf [0,3,5,2])
noncomputable def QT5:FC:=cdF Tryz.prog QOK QNy Tryz.f150
def QNA:FFn:=.f 4 QNy 6 [] (evC QT5)
def QNx:Nat:=9007182074854400
def QOJ:List (Nat×RP):=([pq 4 16 [0,3,6,9,12,15,18,21,24,27,30,33,36,39,44,45],pq 6 17 [0,3,6,9,12,15,18,21,24,27,30,33,36,39,42,47,48]]++nf [0,3,5,2])
noncomputable def QT4:FC:=cdF Tryz.prog QOJ QNx Tryz.f153
def QNz:FFn:=.f 4 QNx 6 [] (evC QT4)
def QPG:Nat:=288230376142270464
def QSh:List (Nat×RP):=(nf [0,1,3,4,5,6,7,8])
noncomputable def QZV:FC:=cdF Tryz.prog QSh QPG Tryz.f200
def QPY:FFn:=.f 5 QPG 6 [] (evC QZV)
def QOP:Nat:=288230376142270464
def QRo:List (Nat×RP):=(nf [0,1,3,4,5,6,7,8])
noncomputable def QYs:FC:=cdF Tryz.prog QRo QOP Tryz.f201
def QOV:FFn:=.f 5 QOP 6 [] (evC QYs)
def QPE:Nat:=9205357602911804416
def QSf:List (Nat×RP):=(nf [0,1,3,4,5,6,8,10,11,12,13,14,15,16])
noncomputable def QZT:FC:=cdF Tryz.prog QSf QPE Tryz.f93
def QPW:FFn:=.f 3 QPE 6 [] (evC QZT)
def QOM:Nat:=9205357602911804416
def QRl:List (Nat×RP):=(nf [0,1,3,4,5,6,8,10,11,12,13,14,15,16])
noncomputable def QYp:FC:=cdF Tryz.prog QRl QOM Tryz.f95
def QOT:FFn:=.f 3 QOM 6 [] (evC QYp)
def QOz:Nat:=274877896704
def QQ2:List (Nat×RP):=([pq 3 23 [0,3,6,9,12,15,18,21,24,27,30,33,36,39,42,45,48,51,54,57,60,65,66]]++nf [0,2])
noncomputable def QXo:FC:=cdF Tryz.prog QQ2 QOz Tryz.f221
def QOE:FFn:=.f 5 QOz 6 [] (evC QXo)
def QOc:Nat:=274877896704
def QQm:List (Nat×RP):=([pq 3 23 [0,3,6,9,12,15,18,21,24,27,30,33,36,39,42,45,48,51,54,57,60,65,66]]++nf [0,2])
noncomputable def QWg:FC:=cdF Tryz.prog QQm QOc Tryz.f222
def QOh:FFn:=.f 5 QOc 6 [] (evC QWg)
def QOL:Nat:=1671831826720280358868393332158590220324288833552426328065262485504
def QRk:List (Nat×RP):=([pq 5 10 [0,3,6,9,12,15,18,21,24,29],pq 11 17 [0,3,6,9,12,15,18,21,24,27,30,33,36,39,42,47,48],pq 17 11 [0,3,6,9,12,15,18,21,24,29,30],pq 23 17 [0,3,6,9,12,15,18,21,24,27,30,33,36,39,42,47,48],pq 35 13 [0,3,6,9,12,15,18,21,24,27,30,35,36]]++nf [0,1,2,4,6,7,8,10,12,13,14,16,18,19,20,22,24,25,27,28,29,30,31,32,34,36,37,38,39,40,41,42,43,44])
noncomputable def QYo:FC:=cdF Tryz.prog QRk QOL Tryz.f151
def QOS:FFn:=.f 5 QOL 8 [] (evC QYo)
def QOq:Nat:=1671831826720280358868393332158590220324288833552426328065262485504
def QQC:List (Nat×RP):=([pq 5 10 [0,3,6,9,12,15,18,21,24,29],pq 11 17 [0,3,6,9,12,15,18,21,24,27,30,33,36,39,42,47,48],pq 17 11 [0,3,6,9,12,15,18,21,24,29,30],pq 23 17 [0,3,6,9,12,15,18,21,24,27,30,33,36,39,42,47,48],pq 35 13 [0,3,6,9,12,15,18,21,24,27,30,35,36]]++nf [0,1,2,4,6,7,8,10,12,13,14,16,18,19,20,22,24,25,27,28,29,30,31,32,34,36,37,38,39,40,41,42,43,44])
noncomputable def QWM:FC:=cdF Tryz.prog QQC QOq Tryz.f154
def QOr:FFn:=.f 5 QOq 8 [] (evC QWM)
def QZv:Nat:=4503599509928960
def Q3p:List (Nat×RP):=([pq 3 10 [0,3,6,10,12,16,18,22,24,28],pq 7 5 [0,3,6,11,12],pq 9 7 [0,3,6,9,12,17,18],pq 13 8 [0,3,6,9,15,18,14,21]]++nf [0,1,2,4,6,8,10,11,12])
noncomputable def Qaak:FC:=cdF Tryz.prog Q3p QZv Tryz.f7
def QMH:FFn:=.f 2 QZv 6 [.c 4 9 true] (evC Qaak)
def QXT:Nat:=2250767939402752
def Q19:List (Nat×RP):=(nf [0,1,2,4,5,6,7,8,9,12,13,14,15])
noncomputable def Q9H:FC:=cdF Tryz.prog Q19 QXT Tryz.f18
def QX7:FFn:=.f 1 QXT 6 [.c 2 1 true] (evC Q9H)
def QRO:Nat:=268434944
def QU8:List (Nat×RP):=([pq 1 13 [0,3,6,9,12,15,18,21,24,29,32,33,36]]++nf [0,2])
noncomputable def Q4f:FC:=cdF Tryz.prog QU8 QRO Tryz.f31
def QRV:FFn:=.f 4 QRO 5 [.t 8] (evC Q4f)
def QRf:Nat:=8388480
def QUb:List (Nat×RP):=(nf [0,1])
noncomputable def Q25:FC:=cdF Tryz.prog QUb QRf Tryz.f33
def QRg:FFn:=.f 3 QRf 5 [] (evC Q25)
def QQs:Nat:=274726895616
def QS4:List (Nat×RP):=(nf [0,1,4,5,6,9,10,11,12])
noncomputable def Q0T:FC:=cdF Tryz.prog QS4 QQs Tryz.f32
def QQw:FFn:=.f 2 QQs 6 [.t 4,.t 5] (evC Q0T)
def QPV:Nat:=9433491809545559670784
def QSw:List (Nat×RP):=([pq 1 5 [0,3,6,9,14]]++nf [0,2,3,4,7,8,9,10,11,14,15,16,17,18])
noncomputable def Q0a:FC:=cdF Tryz.prog QSw QPV Tryz.f91
def QQb:FFn:=.f 2 QPV 7 [.t 4,.t 5] (evC Q0a)
def QQP:Nat:=1097359949312
def QTU:List (Nat×RP):=([pq 1 5 [0,3,6,9,14]]++nf [0,2,3,4,5,6,7])
noncomputable def Q1O:FC:=cdF Tryz.prog QTU QQP Tryz.f92
def QQV:FFn:=.f 2 QQP 6 [.t 4,.t 5] (evC Q1O)
def QQO:Nat:=17591112236160
def QTT:List (Nat×RP):=([pq 6 5 [0,3,6,9,14]]++nf [0,1,2,5,7,8,9,10])
noncomputable def Q1N:FC:=cdF Tryz.prog QTT QQO Tryz.f61
def QQU:FFn:=.f 2 QQO 6 [.t 4,.t 5] (evC Q1N)
end Go.Proofs.YtemffgbncjnmkaaGreat
namespace Go.Proofs.YtemffgbncjnmkaaGreat
open Go Go.Sh Go.Va
variable [Vb]
def QWw:Nat:=2199023255532
def Q0s:List (Nat×RP):=([pq 3 28 [0,3,6,9,12,15,18,23,24,27,30,33,36,39,42,45,48,51,54,57,60,63,66,69,72,75,78,81]]++nf [0,1,2])
noncomputable def Q8C:FC:=cdF Tryz.prog Q0s QWw Tryz.f4
def Q2e:FFn:=.f 0 QWw 6 [.t 0] (evC Q8C)
def QXX:Nat:=149906653913581082293827584
def Q2d:List (Nat×RP):=([pq 4 5 [0,3,7,10,14],pq 15 9 [0,3,7,12,15,19,11,23,26],pq 17 7 [0,3,9,12,8,17,20],pq 20 3 [0,3,8]]++nf [0,1,3,5,6,7,8,9,10,11,12,13,16,19])
noncomputable def Q9L:FC:=cdF Tryz.prog Q2d QXX Tryz.f206
def Q3Q:FFn:=.f 3 QXX 7 [.c 6 3 true,.c 7 3 true] (evC Q9L)
def QWD:Nat:=17179860928
def Q0z:List (Nat×RP):=([pq 3 19 [0,3,6,9,12,15,18,21,27,30,33,36,39,42,45,48,26,53,56]]++nf [0,1,2])
noncomputable def Q8J:FC:=cdF Tryz.prog Q0z QWD Tryz.f229
def Q2h:FFn:=.f 2 QWD 6 [.c 4 3 true,.c 5 3 true] (evC Q8J)
def QXU:Nat:=4194240
def Q2a:List (Nat×RP):=([pq 1 17 [0,3,6,9,12,15,18,24,27,30,33,36,39,42,23,47,50]]++nf [0])
noncomputable def Q9I:FC:=cdF Tryz.prog Q2a QXU Tryz.f230
def Q3P:FFn:=.f 2 QXU 5 [.c 4 3 true,.c 5 3 true] (evC Q9I)
def QVw:Nat:=65376
def QYR:List (Nat×RP):=(nf [0,1,2])
noncomputable def Q7L:FC:=cdF Tryz.prog QYR QVw Tryz.f76
def Q0E:FFn:=.f 2 QVw 5 [.t 4] (evC Q7L)
def QVv:Nat:=16645632
def QYQ:List (Nat×RP):=(nf [0,1,2,3,4])
noncomputable def Q7K:FC:=cdF Tryz.prog QYQ QVv Tryz.f77
def Q0D:FFn:=.f 3 QVv 5 [.c 6 3 true] (evC Q7K)
def QTD:Nat:=10382057177853601649151535147352064
def QWW:List (Nat×RP):=([pq 6 17 [0,3,6,9,12,15,18,21,24,27,30,33,36,39,42,45,48],pq 7 20 [0,3,6,9,12,15,18,21,24,27,30,33,36,39,42,45,48,51,54,57],pq 8 13 [0,3,6,9,12,15,18,21,24,27,32,35,38],pq 10 10 [0,3,6,9,12,15,18,21,24,29],pq 12 10 [0,3,6,9,12,15,18,21,24,29]]++nf [0,1,2,4,5,9,11,13])
noncomputable def Q51:FC:=cdF Tryz.prog QWW QTD Tryz.f160
def QX3:FFn:=.f 5 QTD 7 [.c 10 3 true] (evC Q51)
def QTC:Nat:=10912
def QWV:List (Nat×RP):=(nf [0,1,2,3,4,5,6,9,10,11])
noncomputable def Q50:FC:=cdF Tryz.prog QWV QTC Tryz.f161
def QX2:FFn:=.f 1 QTC 4 [.t 2] (evC Q50)
def QZu:Nat:=8322688
def Q3o:List (Nat×RP):=(nf [0,1,2,4])
noncomputable def Qaaj:FC:=cdF Tryz.prog Q3o QZu Tryz.f207
def Q5q:FFn:=.f 3 QZu 5 [.c 6 3 true] (evC Qaaj)
def QWy:Nat:=1048064
def Q0u:List (Nat×RP):=([pq 5 5 [0,3,8,11,14]]++nf [0,1,3,4])
noncomputable def Q8E:FC:=cdF Tryz.prog Q0u QWy Tryz.f100
def Q2f:FFn:=.f 2 QWy 5 [.c 4 3 true,.c 5 3 true,.t 6] (evC Q8E)
def QUk:Nat:=22835614612883982964931008840012698784241795072
def QXD:List (Nat×RP):=([pq 2 3 [0,3,8],pq 10 7 [0,3,6,9,12,19,17],pq 13 7 [0,3,6,9,12,19,17],pq 14 20 [0,3,6,9,12,15,18,21,27,30,33,36,39,45,48,51,26,44,56,59],pq 16 11 [0,3,6,9,12,15,20,21,24,27,32],pq 17 13 [0,3,6,9,12,15,31,34,20,21,24,27,38],pq 18 6 [0,3,6,11,14,17],pq 20 11 [0,3,6,9,12,15,20,21,24,27,32],pq 21 13 [0,3,6,9,12,15,31,34,20,21,24,27,38],pq 22 6 [0,3,12,8,11,17],pq 24 11 [0,3,6,9,12,15,20,21,24,27,32],pq 27 13 [0,3,6,9,12,18,21,24,27,30,17,35,38],pq 28 3 [0,3,8]]++nf [0,1,3,5,6,7,8,9,11,12,19,23,25,26])
noncomputable def Q6U:FC:=cdF Tryz.prog QXD QUk Tryz.f158
def QY0:FFn:=.f 4 QUk 8 [.c 6 3 true,.c 7 3 true] (evC Q6U)
def QXH:Nat:=28664
def Q1X:List (Nat×RP):=(nf [0,1,2,3])
def Q9u:FC:=(.seq (.seqr false QXH [yB 1 0,⟨(some 2),(.alc [(.bool false),(yI 0),(yI 0)]),none⟩]) (.seq (.seq (.seqr false QXH [yf 3 0 1,yl 4 1 3,yN 5 4,ym 6 5,yh 6 (yf 7 1 1),yh 6 (yl 8 1 7),yh 6 (yf 9 2 1),yh 6 (yl 10 1 9),yh 6 (yb 11 .gtr 8 10),yO 12 6 11]) (.cond (.t 12) (.seq (.seqr false QXH [⟨(some 13),(.bld [(.bool false),(yI 0),(yI 0)] [] []),none⟩,ys 3 2 13]) .ret) .skip)) (.seq (.seqr false QXH [yL 14 3 1,ys 3 2 14]) .ret)))
def QXY:FFn:=.f 1 QXH 4 [.c 2 3 true] (evC Q9u)
def Q1h:Nat:=480
def Q5c:List (Nat×RP):=(nf [0,1])
def Qaa1:FC:=(.seq (.seqr false Q1h [⟨(some 4),(.alc [(.bool false),(yI 0),(yI 0)]),none⟩]) (.seq (.seqr false Q1h [ym 5 0,ym 6 1,⟨(some 7),(.bld [(.bool false),(yI 0),(yI 0)] [(0,1),(1,1),(2,1)] [(0,(.c (.bool true))),(1,(.t 5)),(2,(.t 6))]),none⟩,y1 8 25 7,ys 3 4 8]) .ret))
def Q1s:FFn:=.f 2 Q1h 4 [.c 4 3 true] (evC Qaa1)
def Qcp:Nat:=16240
def QdX:List (Nat×RP):=(nf [0,1,3,4])
noncomputable def QuR:FC:=cdF Tryz.prog QdX Qcp Tryz.f90
def Qlh:FFn:=.f 1 Qcp 4 [.t 2] (evC QuR)
def Qb2:Nat:=3931088
def Qdy:List (Nat×RP):=(nf [0,1,2,3,5,6,7,8,9])
noncomputable def QsY:FC:=cdF Tryz.prog Qdy Qb2 Tryz.f59
def Qj7:FFn:=.f 1 Qb2 5 [.t 2] (evC QsY)
def Qfk:Nat:=536868784
def QhR:List (Nat×RP):=(nf [0,1,2,3,4,5,6,8,9])
noncomputable def Qrp:FC:=cdF Tryz.prog QhR Qfk Tryz.f58
def QiS:FFn:=.f 1 Qfk 5 [.t 2] (evC Qrp)
def Qb1:Nat:=16240
def Qdx:List (Nat×RP):=(nf [0,1,3,4])
noncomputable def QsX:FC:=cdF Tryz.prog Qdx Qb1 Tryz.f57
def Qj6:FFn:=.f 1 Qb1 4 [.t 2] (evC QsX)
def Qco:Nat:=382748279273377427008770787697804524670032512370588672
def QdW:List (Nat×RP):=([pq 16 59 [0,5,6,9,12,15,18,21,24,27,30,33,36,39,42,45,48,51,54,57,60,63,66,69,72,75,78,81,84,87,90,93,96,99,102,105,108,111,114,117,120,123,126,129,132,135,138,141,144,147,150,153,156,159,162,165,168,171,174],pq 17 13 [0,3,6,9,12,15,18,21,24,27,30,33,38],pq 18 12 [0,3,6,9,12,15,18,21,24,27,30,33]]++nf [0,1,2,3,4,5,6,8,9,10,11,13,14,15,19,20,21,22,23,24,27,28,26,29,30])
noncomputable def QuQ:FC:=cdF Tryz.prog QdW Qco Tryz.f149
def Qlg:FFn:=.f 1 Qco 8 [.t 2] (evC QuQ)
end Go.Proofs.YtemffgbncjnmkaaGreat
namespace Go.Proofs.YtemffgbncjnmkaaGreat
open Go Go.Sh Go.Va
variable [Vb]
def QNZ:Nat:=10889035741470025843861262896192634654720
def QOx:List (Nat×RP):=([pq 23 10 [0,3,6,9,12,15,18,21,24,27],pq 26 30 [0,3,6,9,12,15,18,21,24,27,30,33,36,41,42,45,48,51,54,57,60,63,66,69,72,75,78,81,84,87]]++nf [0,1,2,3,4,6,7,10,11,12,13,14,17,18,19,20,21,22,15,24,25])
noncomputable def Q24:FC:=cdF Tryz.prog QOx QNZ Tryz.f3
def QVb:FFn:=.f 2 QNZ 8 [.t 4] (evC Q24)
noncomputable def QZN:FC:=cdL Tryz.prog QOx QNZ 8 Tryz.f3
end Go.Proofs.YtemffgbncjnmkaaGreat
set_option maxRecDepth 1000000
namespace Go.Proofs.YtemffgbncjnmkaaGreat
open Go Go.Sh Go.Va
abbrev vb0:Vb:=⟨[],.pending #[] 0⟩
def tabK [Vb]:Tr FFn:=(.node 105 (.node 54 (.node 29 (.node 17 (.node 10 (.node 7 (.node 5 (.leaf 4 Q2e) (.node 6 (.leaf 5 Q1r) (.leaf 6 Qu8))) (.node 8 (.leaf 7 QMH) (.node 9 (.leaf 8 Q1s) (.leaf 9 Qqt)))) (.node 13 (.node 11 (.leaf 10 QjY) (.node 12 (.leaf 11 Qj3) (.leaf 12 QjZ))) (.node 14 (.leaf 13 Qj4) (.node 15 (.leaf 14 Qmv) (.leaf 15 Qj2))))) (.node 23 (.node 20 (.node 18 (.leaf 17 QiQ) (.node 19 (.leaf 18 QX7) (.leaf 19 QQS))) (.node 21 (.leaf 20 QS6) (.node 22 (.leaf 21 QUv) (.leaf 22 QSW)))) (.node 26 (.node 24 (.leaf 23 QRh) (.node 25 (.leaf 24 QQX) (.leaf 25 QXY))) (.node 27 (.leaf 26 Qqs) (.node 28 (.leaf 27 Qr5) (.leaf 28 Qxw)))))) (.node 41 (.node 35 (.node 32 (.node 30 (.leaf 29 QiR) (.node 31 (.leaf 30 Qj0) (.leaf 31 QRV))) (.node 33 (.leaf 32 QQw) (.node 34 (.leaf 33 QRg) (.leaf 34 Q3M)))) (.node 38 (.node 36 (.leaf 35 QQT) (.node 37 (.leaf 36 QXk) (.leaf 37 QRT))) (.node 39 (.leaf 38 QVD) (.node 40 (.leaf 39 QOs) (.leaf 40 QTH))))) (.node 47 (.node 44 (.node 42 (.leaf 41 QPp) (.node 43 (.leaf 42 QRW) (.leaf 43 QX6))) (.node 45 (.leaf 44 QRb) (.node 46 (.leaf 45 QPw) (.leaf 46 Qk8)))) (.node 50 (.node 48 (.leaf 47 QQx) (.node 49 (.leaf 48 Q5M) (.leaf 49 QWF))) (.node 52 (.node 51 (.leaf 50 QTE) (.leaf 51 QVz)) (.node 53 (.leaf 52 QM2) (.leaf 53 QTW))))))) (.node 79 (.node 66 (.node 60 (.node 57 (.node 55 (.leaf 54 QQW) (.node 56 (.leaf 55 Qu7) (.leaf 56 Qlf))) (.node 58 (.leaf 57 Qj6) (.node 59 (.leaf 58 QiS) (.leaf 59 Qj7)))) (.node 63 (.node 61 (.leaf 60 QiP) (.node 62 (.leaf 61 QQU) (.leaf 62 QPn))) (.node 64 (.leaf 63 QQD) (.node 65 (.leaf 64 QPf) (.leaf 65 QSV))))) (.node 72 (.node 69 (.node 67 (.leaf 66 Qk7) (.node 68 (.leaf 67 QQR) (.leaf 68 QTG))) (.node 70 (.leaf 69 QOG) (.node 71 (.leaf 70 QRR) (.leaf 71 QP1)))) (.node 76 (.node 74 (.leaf 72 QRQ) (.node 75 (.leaf 74 QYZ) (.leaf 75 QOX))) (.node 77 (.leaf 76 Q0E) (.node 78 (.leaf 77 Q0D) (.leaf 78 QNP)))))) (.node 91 (.node 85 (.node 82 (.node 80 (.leaf 79 QTs) (.node 81 (.leaf 80 QUt) (.leaf 81 QVL))) (.node 83 (.leaf 82 Qgd) (.node 84 (.leaf 83 QnI) (.leaf 84 QZF)))) (.node 88 (.node 86 (.leaf 85 QUs) (.node 87 (.leaf 86 QPo) (.leaf 87 QNS))) (.node 89 (.leaf 88 QMV) (.node 90 (.leaf 89 Qj1) (.leaf 90 Qlh))))) (.node 98 (.node 94 (.node 92 (.leaf 91 QQb) (.node 93 (.leaf 92 QQV) (.leaf 93 QPW))) (.node 95 (.leaf 94 Qdu) (.node 97 (.leaf 95 QOT) (.leaf 97 Q1t)))) (.node 101 (.node 99 (.leaf 98 QX1) (.node 100 (.leaf 99 Q3L) (.leaf 100 Q2f))) (.node 103 (.node 102 (.leaf 101 QVA) (.leaf 102 QQa)) (.node 104 (.leaf 103 QTF) (.leaf 104 QP9)))))))) (.node 166 (.node 138 (.node 125 (.node 117 (.node 113 (.node 109 (.leaf 105 QSU) (.node 111 (.leaf 109 QP8) (.leaf 111 QP7))) (.node 114 (.leaf 113 QP6) (.node 115 (.leaf 114 QP5) (.leaf 115 QP4)))) (.node 121 (.node 118 (.leaf 117 QP3) (.node 120 (.leaf 118 QP2) (.leaf 120 QPl))) (.node 122 (.leaf 121 QPk) (.node 123 (.leaf 122 QPj) (.leaf 123 QPi))))) (.node 132 (.node 129 (.node 126 (.leaf 125 QPh) (.node 127 (.leaf 126 QPg) (.leaf 127 QNQ))) (.node 130 (.leaf 129 QVK) (.node 131 (.leaf 130 QRt) (.leaf 131 QTr)))) (.node 135 (.node 133 (.leaf 132 QRs) (.node 134 (.leaf 133 QXl) (.leaf 134 QRS))) (.node 136 (.leaf 135 Qef) (.node 137 (.leaf 136 QOW) (.leaf 137 QNX)))))) (.node 150 (.node 144 (.node 141 (.node 139 (.leaf 138 QOi) (.node 140 (.leaf 139 QN4) (.leaf 140 QNc))) (.node 142 (.leaf 141 QNN) (.node 143 (.leaf 142 QOF) (.leaf 143 QMQ)))) (.node 147 (.node 145 (.leaf 144 Qlm) (.node 146 (.leaf 145 QM6) (.leaf 146 QQ7))) (.node 148 (.leaf 147 QMt) (.node 149 (.leaf 148 Qmu) (.leaf 149 Qlg))))) (.node 156 (.node 153 (.node 151 (.leaf 150 QNA) (.node 152 (.leaf 151 QOS) (.leaf 152 QbK))) (.node 154 (.leaf 153 QNz) (.node 155 (.leaf 154 QOr) (.leaf 155 QOj)))) (.node 159 (.node 157 (.leaf 156 QVC) (.node 158 (.leaf 157 QQv) (.leaf 158 QY0))) (.node 161 (.node 160 (.leaf 159 QWE) (.leaf 160 QX3)) (.node 165 (.leaf 161 QX2) (.leaf 165 QRU))))))) (.node 205 (.node 192 (.node 186 (.node 169 (.node 167 (.leaf 166 QX5) (.node 168 (.leaf 167 QRr) (.leaf 168 QVB))) (.node 184 (.leaf 169 QZE) (.node 185 (.leaf 184 QST) (.leaf 185 QOU)))) (.node 189 (.node 187 (.leaf 186 QMc) (.node 188 (.leaf 187 QMk) (.leaf 188 QNO))) (.node 190 (.leaf 189 QP0) (.node 191 (.leaf 190 QLV) (.leaf 191 QMm))))) (.node 198 (.node 195 (.node 193 (.leaf 192 QLW) (.node 194 (.leaf 193 QL2) (.leaf 194 QL0))) (.node 196 (.leaf 195 QLN) (.node 197 (.leaf 196 QPx) (.leaf 197 QLT)))) (.node 201 (.node 199 (.leaf 198 QMd) (.node 200 (.leaf 199 Qqr) (.leaf 200 QPY))) (.node 203 (.node 202 (.leaf 201 QOV) (.leaf 202 QVy)) (.node 204 (.leaf 203 QX4) (.leaf 204 QZI)))))) (.node 224 (.node 218 (.node 215 (.node 206 (.leaf 205 QUu) (.node 207 (.leaf 206 Q3Q) (.leaf 207 Q5q))) (.node 216 (.leaf 215 QPX) (.node 217 (.leaf 216 QPZ) (.leaf 217 QMl)))) (.node 221 (.node 219 (.leaf 218 QLU) (.node 220 (.leaf 219 QMA) (.leaf 220 QNT))) (.node 222 (.leaf 221 QOE) (.node 223 (.leaf 222 QOh) (.leaf 223 QZH))))) (.node 234 (.node 229 (.node 226 (.leaf 224 QZK) (.node 228 (.leaf 226 QZJ) (.leaf 228 QZG))) (.node 230 (.leaf 229 Q2h) (.node 233 (.leaf 230 Q3P) (.leaf 233 QQu)))) (.node 238 (.node 235 (.leaf 234 QMz) (.node 236 (.leaf 235 QWG) (.leaf 236 QX8))) (.node 240 (.node 239 (.leaf 238 QX9) (.leaf 239 Q1u)) (.node 243 (.leaf 240 QQi) (.leaf 243 QRP)))))))))
theorem Qabj:@runs vb0 (@tabK vb0) 13 1000 1000 4 [] .nil=(FV.bool true=FV.bool true):=by kernel_rfl
end Go.Proofs.YtemffgbncjnmkaaGreat
