/- For every input (a slice of ints and four ints), refuterlaw17.FilterValues returns true, and its arguments read behind the call as they read before (the card FilterValuesCardSaid, the full form). Conditions: the package-level variables that the row lists hold, when the call begins, what the program's text lays (the card ties them to it); no bound on sizes. -/
import Derived.Test.YtpajadlnaokngaaGreatDoorAx21
import Derived.Test.YtpajadlnaokngaaGreatDoorCards
import Derived.Test.YtpajadlnaokngaaGreatDoorTie
import Derived.Lib.LaidIn
set_option linter.unusedVariables false
set_option linter.unusedSimpArgs false
set_option linter.unusedSectionVars false
namespace Go.Proofs.YtpajadlnaokngaaGreatDoor
open Go Go.Ax Go.Proofs Tryz
def pJ:AV:=.agg [.int .i64 1,.str [],.int .i64 0,.int .i64 3,.nsl,.nsl,.nsl,.nsl,.int .i64 0,.int .i64 0,.str [],.nsl]
def iW:AV:=.agg [.int .i64 0,.str [],.int .i64 0,.int .i64 0,.nsl,.nsl,.nsl,.nsl,.int .i64 0,.int .i64 3,.str [],.nsl]
def pD:AV:=.agg [.int .i64 0,.str [],.int .i64 0,.int .i64 0,.nsl,.nsl,.nsl,.nsl,.int .i64 0,.int .i64 1,.str [],.nsl]
def Bu:AV:=.agg [.int .i64 0,.str [],.int .i64 0,.int .i64 0,.nsl,.nsl,.nsl,.nsl,.int .i64 2,.int .i64 0,.str [],.sl 2570 0 2]
def FH:AV:=.agg [.int .i64 2,.str [],.int .i64 0,.int .i64 0,.sl 3766 0 1,.sl 3811 0 1,.nsl,.sl 3883 0 1,.int .i64 0,.int .i64 0,.str [],.nsl]
def E5:AV:=.agg [.int .i64 4,.str [],.int .i64 0,.int .i64 0,.nsl,.nsl,.sl 3431 0 1,.sl 3528 0 2,.int .i64 0,.int .i64 0,.str [],.nsl]
def FO:AV:=.agg [.int .i64 0,.str [],.int .i64 0,.int .i64 0,.nsl,.nsl,.nsl,.nsl,.int .i64 2,.int .i64 0,.str [],.sl 2684 0 2]
def Bm:AV:=.agg [.int .i64 0,.str [],.int .i64 0,.int .i64 0,.nsl,.nsl,.nsl,.nsl,.int .i64 0,.int .i64 2,.str [],.nsl]
def HQ:AV:=.agg [.int .i64 2,.str [],.int .i64 0,.int .i64 0,.sl 1107 0 2,.sl 1152 0 2,.nsl,.sl 1224 0 2,.int .i64 0,.int .i64 0,.str [],.nsl]
def G2:AV:=.agg [.int .i64 1,.str [],.int .i64 0,.int .i64 3,.nsl,.nsl,.nsl,.sl 1917 0 0,.int .i64 0,.int .i64 0,.str [],.nsl]
def Dm:AV:=.agg [.int .i64 3,.str [],.int .i64 0,.int .i64 0,.nsl,.nsl,.nsl,.sl 1979 0 2,.int .i64 0,.int .i64 0,.str [],.nsl]
def Dj:AV:=.agg [.int .i64 2,.str [],.int .i64 0,.int .i64 0,.sl 4387 0 1,.sl 4432 0 1,.nsl,.sl 4504 0 1,.int .i64 0,.int .i64 0,.str [],.nsl]
def C1:AV:=.agg [.int .i64 4,.str [],.int .i64 0,.int .i64 0,.nsl,.nsl,.sl 4054 0 1,.sl 4151 0 2,.int .i64 0,.int .i64 0,.str [],.nsl]
def L5:AV:=.agg [.int .i64 1,.str [],.int .i64 0,.int .i64 3,.nsl,.nsl,.nsl,.sl 785 0 0,.int .i64 0,.int .i64 0,.str [],.nsl]
def Nc:Nat × AB:=(198,.row 131 2 [.agg [.int .i64 1,.fn (.func 146) [] [.ptr 169 0 0]]])
def Nm:Nat × AB:=(197,.row 131 2 [.agg [.int .i64 1,.fn (.func 146) [] [.ptr 169 0 0]]])
def Np:Nat × AB:=(185,.row 301 2 [.agg [.int .i64 0,.int .i64 1]])
def Nt:Nat × AB:=(184,.row 131 2 [.agg [.int .i64 1,.fn (.func 146) [] [.ptr 169 0 0]]])
def Nf:Nat × AB:=(174,.row 30 1 [.int .i64 0])
def Nh:Nat × AB:=(173,.row 25 1 [.agg [.nsl]])
def Nj:Nat × AB:=(172,.row 131 2 [.agg [.int .i64 1,.fn (.func 146) [] [.ptr 169 0 0]]])
def Nb:Nat × AB:=(171,.row 131 2 [.agg [.int .i64 1,.fn (.func 146) [] [.ptr 169 0 0]]])
def NU:Nat × AB:=(170,.row 131 2 [.agg [.int .i64 1,.fn (.func 146) [] [.ptr 169 0 0]]])
def NQ:Nat × AB:=(169,.row 72 1 [.fn (.func 33) [.agg []] []])
def KK:Nat × AB:=(168,.row 59 12 [.agg [.int .i64 1,.str [],.int .i64 0,.int .i64 3,.nsl,.nsl,.nsl,.sl 108 0 0,.int .i64 0,.int .i64 0,.str [],.nsl]])
def Lm:Nat × AB:=(108,.row 3 1 [])
def LO:Nat × AB:=(56,.row 141 5 [.agg [.ptr 59 0 0,.ptr 72 0 0,.mp 53,.mp 54,.int .i64 1]])
def LE:Nat × AB:=(72,.row 194 3 [.agg [.ptr 84 0 0,.sl 66 0 1,.sl 70 0 1]])
def LS:Nat × AB:=(84,.row 119 4 [.agg [.il 12 [pJ],.sl 78 0 1,.sl 80 0 1,.sl 82 0 1]])
def LL:Nat × AB:=(82,.row 4 1 [.bool false])
def Ob:Nat × AB:=(80,.row 29 1 [.nsl])
def Ok:Nat × AB:=(78,.row 4 1 [.bool false])
def KJ:Nat × AB:=(59,.row 239 2 [.agg [.sl 168 0 1,.mp 58]])
def LK:Nat × AB:=(58,.mapb [(.str [2,2,0,0,6,0,0,0,0,0,0,0,0],.int .i64 0)])
def Kb:Nat × AB:=(3,.row 25 1 [.agg [.nsl]])
def KG:Nat × AB:=(2,.row 25 1 [.agg [.sl 0 0 1]])
def dV:Nat × AB:=(1,.row 25 1 [.agg [.sl 0 0 1]])
def dX:Nat × AB:=(0,.row 59 12 [pJ])
def eG:Nat × AB:=(70,.row 57 4 [.agg [.int .i64 0,.int .i64 0,.str [],.nsl]])
def eD:Nat × AB:=(66,.row 3 1 [.int .i64 1])
def Kl:Nat × AB:=(54,.mapb [])
def eF:Nat × AB:=(53,.mapb [])
def Oh:Nat × AB:=(306,.row 57 4 [.agg [.int .i64 0,.int .i64 1,.str [],.nsl],.agg [.int .i64 0,.int .i64 3,.str [],.nsl]])
def OQ:Nat × AB:=(217,.row 57 4 [.agg [.int .i64 0,.int .i64 0,.str [],.nsl],.agg [.int .i64 0,.int .i64 1,.str [],.nsl],.agg [.int .i64 0,.int .i64 2,.str [],.nsl],.agg [.int .i64 0,.int .i64 3,.str [],.nsl]])
def OC:Nat × AB:=(80,.row 29 1 [.sl 217 0 4])
def Od:Nat × AB:=(78,.row 4 1 [.bool true])
def fF:Nat × AB:=(54,.mapb [(.agg [.int .i64 0,.int .i64 1],.int .i64 3)])
def Cp:Nat × AB:=(876,.row 131 2 [.agg [.int .i64 1,.fn (.func 146) [] [.ptr 846 0 0]]])
def Dx:Nat × AB:=(875,.row 131 2 [.agg [.int .i64 1,.fn (.func 146) [] [.ptr 846 0 0]]])
def Dw:Nat × AB:=(863,.row 301 2 [.agg [.int .i64 0,.int .i64 1]])
def C5:Nat × AB:=(862,.row 131 2 [.agg [.int .i64 1,.fn (.func 146) [] [.ptr 846 0 0]]])
def DM:Nat × AB:=(852,.row 30 1 [.int .i64 0])
def K7:Nat × AB:=(851,.row 25 1 [.agg [.nsl]])
def DX:Nat × AB:=(850,.row 131 2 [.agg [.int .i64 1,.fn (.func 146) [] [.ptr 846 0 0]]])
def C7:Nat × AB:=(849,.row 131 2 [.agg [.int .i64 1,.fn (.func 146) [] [.ptr 846 0 0]]])
def Ct:Nat × AB:=(848,.row 131 2 [.agg [.int .i64 1,.fn (.func 146) [] [.ptr 846 0 0]]])
def DW:Nat × AB:=(847,.row 131 2 [.agg [.int .i64 1,.fn (.func 146) [] [.ptr 846 0 0]]])
def Dd:Nat × AB:=(846,.row 72 1 [.fn (.func 33) [.agg []] []])
def Jy:Nat × AB:=(845,.row 59 12 [L5])
def Dv:Nat × AB:=(785,.row 3 1 [])
def Cf:Nat × AB:=(733,.row 141 5 [.agg [.ptr 736 0 0,.ptr 749 0 0,.mp 730,.mp 731,.int .i64 1]])
def DQ:Nat × AB:=(749,.row 194 3 [.agg [.ptr 761 0 0,.sl 743 0 1,.sl 747 0 1]])
def Du:Nat × AB:=(761,.row 119 4 [.agg [.il 12 [pJ],.sl 755 0 1,.sl 757 0 1,.sl 759 0 1]])
def Do:Nat × AB:=(759,.row 4 1 [.bool false])
def Oj:Nat × AB:=(757,.row 29 1 [.nsl])
def OE:Nat × AB:=(755,.row 4 1 [.bool false])
def Li:Nat × AB:=(736,.row 239 2 [.agg [.sl 845 0 1,.mp 735]])
def J3:Nat × AB:=(735,.mapb [(.str [2,2,0,0,6,0,0,0,0,0,0,0,0],.int .i64 0)])
def C6:Nat × AB:=(680,.row 22 1 [.sl 678 0 1])
def DO:Nat × AB:=(679,.row 25 1 [.agg [.sl 0 0 1]])
def fQ:Nat × AB:=(678,.row 3 1 [.int .i64 1])
def fR:Nat × AB:=(677,.row 25 1 [.agg [.il 12 [pD,iW,.agg [.int .i64 2,.str [],.int .i64 0,.int .i64 0,.il 1 [.int .i64 1,.int .i64 1],.il 1 [.str [49],.str [51]],.nsl,.il 1 [.int .i64 0,.int .i64 1],.int .i64 0,.int .i64 0,.str [],.nsl]]]])
def f8:Nat × AB:=(747,.row 57 4 [.agg [.int .i64 0,.int .i64 0,.str [],.nsl]])
def f7:Nat × AB:=(743,.row 3 1 [.int .i64 1])
def KN:Nat × AB:=(731,.mapb [])
def gB:Nat × AB:=(730,.mapb [])
def Fp:Nat × AB:=(984,.row 57 4 [.agg [.int .i64 0,.int .i64 1,.str [],.nsl],.agg [.int .i64 0,.int .i64 3,.str [],.nsl]])
def GH:Nat × AB:=(895,.row 57 4 [.agg [.int .i64 0,.int .i64 0,.str [],.nsl],.agg [.int .i64 0,.int .i64 1,.str [],.nsl],.agg [.int .i64 0,.int .i64 2,.str [],.nsl],.agg [.int .i64 0,.int .i64 3,.str [],.nsl]])
def Fk:Nat × AB:=(757,.row 29 1 [.sl 895 0 4])
def Fj:Nat × AB:=(755,.row 4 1 [.bool true])
def J7:Nat × AB:=(1523,.row 57 4 [.agg [.int .i64 0,.int .i64 0,.str [],.nsl]])
def KS:Nat × AB:=(1522,.row 131 2 [.agg [.int .i64 1,.fn (.func 146) [] [.ptr 846 0 0]]])
def Lg:Nat × AB:=(1511,.row 22 1 [.nsl])
def LI:Nat × AB:=(1510,.row 57 4 [.agg [.int .i64 0,.int .i64 3,.str [],.nsl]])
def Jw:Nat × AB:=(1503,.row 57 4 [.agg [.int .i64 0,.int .i64 3,.str [],.nsl]])
def Lz:Nat × AB:=(1502,.row 57 4 [.agg [.int .i64 0,.int .i64 3,.str [],.nsl]])
def LU:Nat × AB:=(1459,.row 57 4 [.agg [.int .i64 0,.int .i64 3,.str [],.nsl]])
def Jg:Nat × AB:=(1458,.row 4 1 [.bool true])
def KV:Nat × AB:=(1457,.row 3 1 [.int .i64 1])
def Km:Nat × AB:=(1456,.row 57 4 [.agg [.int .i64 0,.int .i64 3,.str [],.nsl]])
def L4:Nat × AB:=(1455,.row 22 1 [.sl 678 0 1])
def Lt:Nat × AB:=(1454,.row 106 1 [.ptr 1378 0 0])
def Ln:Nat × AB:=(1453,.row 57 4 [.agg [.int .i64 0,.int .i64 3,.str [],.nsl]])
def Kz:Nat × AB:=(1378,.row 194 3 [.agg [.ptr 1390 0 0,.sl 1372 0 3,.sl 1376 0 3]])
def Lx:Nat × AB:=(1390,.row 119 4 [.agg [.il 12 [pD,iW,.agg [.int .i64 2,.str [],.int .i64 0,.int .i64 0,.il 1 [.int .i64 1,.int .i64 1],.il 1 [.str [49],.str [51]],.nsl,.il 1 [.int .i64 0,.int .i64 1],.int .i64 0,.int .i64 0,.str [],.nsl]],.sl 1384 0 3,.sl 1386 0 3,.sl 1388 0 3]])
def K6:Nat × AB:=(1388,.row 4 1 [.bool false,.bool false,.bool false])
def KT:Nat × AB:=(1386,.row 29 1 [.nsl,.nsl,.nsl])
def J9:Nat × AB:=(1384,.row 4 1 [.bool false,.bool false,.bool false])
def Lu:Nat × AB:=(1380,.row 25 1 [.agg [.il 12 [pD,iW,.agg [.int .i64 2,.str [],.int .i64 0,.int .i64 0,.il 1 [.int .i64 1,.int .i64 1],.il 1 [.str [49],.str [51]],.nsl,.il 1 [.int .i64 0,.int .i64 1],.int .i64 0,.int .i64 0,.str [],.nsl]]]])
def Ls:Nat × AB:=(1366,.row 25 1 [.agg [.il 12 [pD,iW,.agg [.int .i64 2,.str [],.int .i64 0,.int .i64 0,.il 1 [.int .i64 1,.int .i64 1],.il 1 [.str [49],.str [51]],.nsl,.il 1 [.int .i64 0,.int .i64 1],.int .i64 0,.int .i64 0,.str [],.nsl]]]])
def K8:Nat × AB:=(1355,.row 25 1 [.agg [.il 12 [pD,iW,.agg [.int .i64 2,.str [],.int .i64 0,.int .i64 0,.il 1 [.int .i64 1,.int .i64 1],.il 1 [.str [49],.str [51]],.nsl,.il 1 [.int .i64 0,.int .i64 1],.int .i64 0,.int .i64 0,.str [],.nsl]]]])
def LJ:Nat × AB:=(1298,.row 59 12 [L5,pD,iW,HQ])
def Jr:Nat × AB:=(1293,.row 59 12 [HQ])
def Js:Nat × AB:=(1226,.row 59 12 [HQ])
def KB:Nat × AB:=(1225,.row 59 12 [HQ])
def Kx:Nat × AB:=(1224,.row 3 1 [.int .i64 1,.int .i64 2])
def Kh:Nat × AB:=(1160,.row 3 1 [.int .i64 2])
def LR:Nat × AB:=(1218,.row 59 12 [iW])
def LD:Nat × AB:=(1165,.row 59 12 [iW])
def K0:Nat × AB:=(1164,.row 59 12 [iW])
def KM:Nat × AB:=(1163,.row 57 4 [.agg [.int .i64 0,.int .i64 3,.str [],.nsl]])
def LA:Nat × AB:=(1152,.row 9 1 [.str [49],.str [51]])
def Jl:Nat × AB:=(1151,.row 9 1 [.str [51]])
def Lp:Nat × AB:=(1107,.row 3 1 [.int .i64 1,.int .i64 1])
def Hn:Nat × AB:=(1106,.row 3 1 [.int .i64 1])
def Gy:Nat × AB:=(1105,.row 57 4 [.agg [.int .i64 0,.int .i64 3,.str [],.nsl]])
def Gs:Nat × AB:=(1040,.row 3 1 [.int .i64 1])
def Gu:Nat × AB:=(1098,.row 59 12 [pD])
def HS:Nat × AB:=(1045,.row 59 12 [pD])
def IT:Nat × AB:=(1044,.row 59 12 [pD])
def IK:Nat × AB:=(1043,.row 57 4 [.agg [.int .i64 0,.int .i64 1,.str [],.nsl]])
def H6:Nat × AB:=(1031,.row 9 1 [.str [49]])
def Hz:Nat × AB:=(986,.row 3 1 [.int .i64 1])
def Hx:Nat × AB:=(985,.row 57 4 [.agg [.int .i64 0,.int .i64 1,.str [],.nsl]])
def IU:Nat × AB:=(851,.row 25 1 [.agg [.il 12 [pD,iW,.agg [.int .i64 2,.str [],.int .i64 0,.int .i64 0,.il 1 [.int .i64 1,.int .i64 1],.il 1 [.str [49],.str [51]],.nsl,.il 1 [.int .i64 0,.int .i64 1],.int .i64 0,.int .i64 0,.str [],.nsl]]]])
def HN:Nat × AB:=(736,.row 239 2 [.agg [.sl 1298 0 4,.mp 735]])
def IM:Nat × AB:=(735,.mapb [(.str [2,2,0,0,6,0,0,0,0,0,0,0,0],.int .i64 0),(.str [2,0,0,0,0,0,0,0,0,0,2,0,0],.int .i64 1),(.str [2,0,0,0,0,0,0,0,0,0,6,0,0],.int .i64 2),(.str [2,4,0,0,0,4,2,2,4,1,49,1,51,0,4,2,4,0,0,0,0],.int .i64 3)])
def e9:Nat × AB:=(731,.mapb [(.agg [.int .i64 0,.int .i64 1],.int .i64 3)])
def fB:Nat × AB:=(1376,.row 57 4 [.agg [.int .i64 0,.int .i64 1,.str [],.nsl],.agg [.int .i64 0,.int .i64 3,.str [],.nsl],.agg [.int .i64 0,.int .i64 0,.str [],.nsl]])
def fC:Nat × AB:=(1372,.row 3 1 [.int .i64 0,.int .i64 0,.int .i64 1])
def fE:Nat × AB:=(1363,.row 57 4 [.agg [.int .i64 0,.int .i64 3,.str [],.nsl]])
def Mk:Nat × AB:=(1589,.row 57 4 [.agg [.int .i64 0,.int .i64 1,.str [],.nsl],.agg [.int .i64 0,.int .i64 3,.str [],.nsl]])
def gR:Nat × AB:=(1603,.row 25 1 [.agg [.sl 0 0 1],.agg [.sl 0 0 1]])
def lW:Nat × AB:=(2072,.row 131 2 [.agg [.int .i64 1,.fn (.func 146) [] [.ptr 2044 0 0]]])
def lP:Nat × AB:=(2060,.row 301 2 [.agg [.int .i64 1,.int .i64 1]])
def l9:Nat × AB:=(2059,.row 131 2 [.agg [.int .i64 1,.fn (.func 146) [] [.ptr 2044 0 0]]])
def l6:Nat × AB:=(2049,.row 30 1 [.int .i64 0])
def mF:Nat × AB:=(2048,.row 25 1 [.agg [.nsl]])
def lZ:Nat × AB:=(2047,.row 131 2 [.agg [.int .i64 1,.fn (.func 146) [] [.ptr 2044 0 0]]])
def lQ:Nat × AB:=(2046,.row 131 2 [.agg [.int .i64 1,.fn (.func 146) [] [.ptr 2044 0 0]]])
def mD:Nat × AB:=(2045,.row 131 2 [.agg [.int .i64 1,.fn (.func 146) [] [.ptr 2044 0 0]]])
def lS:Nat × AB:=(2044,.row 72 1 [.fn (.func 36) [.agg []] []])
def HO:Nat × AB:=(2043,.row 59 12 [G2,Dm])
def lT:Nat × AB:=(1979,.row 3 1 [.int .i64 0,.int .i64 0])
def l5:Nat × AB:=(1917,.row 3 1 [])
def HM:Nat × AB:=(1852,.row 141 5 [.agg [.ptr 1855 0 0,.ptr 1868 0 0,.mp 1849,.mp 1850,.int .i64 1]])
def lU:Nat × AB:=(1868,.row 194 3 [.agg [.ptr 1880 0 0,.sl 1862 0 2,.sl 1866 0 2]])
def lV:Nat × AB:=(1880,.row 119 4 [.agg [.il 12 [pJ,.agg [.int .i64 3,.str [],.int .i64 0,.int .i64 0,.nsl,.nsl,.nsl,.il 1 [.int .i64 0,.int .i64 0],.int .i64 0,.int .i64 0,.str [],.nsl]],.sl 1874 0 2,.sl 1876 0 2,.sl 1878 0 2]])
def lX:Nat × AB:=(1878,.row 4 1 [.bool false,.bool false])
def MG:Nat × AB:=(1876,.row 29 1 [.nsl,.nsl])
def MI:Nat × AB:=(1874,.row 4 1 [.bool false,.bool false])
def G5:Nat × AB:=(1855,.row 239 2 [.agg [.sl 2043 0 2,.mp 1854]])
def Hf:Nat × AB:=(1854,.mapb [(.str [2,2,0,0,6,0,0,0,0,0,0,0,0],.int .i64 0),(.str [2,6,0,0,0,0,0,0,4,0,0,0,0,0,0],.int .i64 1)])
def l4:Nat × AB:=(1844,.row 25 1 [.agg [.nsl]])
def l7:Nat × AB:=(1843,.row 25 1 [.agg [.il 12 [pJ,.agg [.int .i64 3,.str [],.int .i64 0,.int .i64 0,.nsl,.nsl,.nsl,.il 1 [.int .i64 0,.int .i64 0],.int .i64 0,.int .i64 0,.str [],.nsl]]]])
def jI:Nat × AB:=(1842,.row 25 1 [.agg [.il 12 [pJ,.agg [.int .i64 3,.str [],.int .i64 0,.int .i64 0,.nsl,.nsl,.nsl,.il 1 [.int .i64 0,.int .i64 0],.int .i64 0,.int .i64 0,.str [],.nsl]]]])
def kC:Nat × AB:=(1866,.row 57 4 [.agg [.int .i64 0,.int .i64 0,.str [],.nsl],.agg [.int .i64 0,.int .i64 0,.str [],.nsl]])
def j7:Nat × AB:=(1862,.row 3 1 [.int .i64 1,.int .i64 2])
def zO:Nat × AB:=(1850,.mapb [])
def HF:Nat × AB:=(1849,.mapb [])
def o8:Nat × AB:=(3329,.row 57 4 [.agg [.int .i64 2,.int .i64 0,.str [],.sl 2570 0 2],.agg [.int .i64 2,.int .i64 0,.str [],.sl 2684 0 2]])
def nP:Nat × AB:=(2759,.row 57 4 [.agg [.int .i64 2,.int .i64 0,.str [],.sl 2152 0 2],.agg [.int .i64 2,.int .i64 0,.str [],.sl 2190 0 2],.agg [.int .i64 2,.int .i64 0,.str [],.sl 2228 0 2],.agg [.int .i64 2,.int .i64 0,.str [],.sl 2266 0 2],.agg [.int .i64 2,.int .i64 0,.str [],.sl 2304 0 2],.agg [.int .i64 2,.int .i64 0,.str [],.sl 2342 0 2],.agg [.int .i64 2,.int .i64 0,.str [],.sl 2380 0 2],.agg [.int .i64 2,.int .i64 0,.str [],.sl 2418 0 2],.agg [.int .i64 2,.int .i64 0,.str [],.sl 2456 0 2],.agg [.int .i64 2,.int .i64 0,.str [],.sl 2494 0 2],.agg [.int .i64 2,.int .i64 0,.str [],.sl 2532 0 2],.agg [.int .i64 2,.int .i64 0,.str [],.sl 2570 0 2],.agg [.int .i64 2,.int .i64 0,.str [],.sl 2608 0 2],.agg [.int .i64 2,.int .i64 0,.str [],.sl 2646 0 2],.agg [.int .i64 2,.int .i64 0,.str [],.sl 2684 0 2],.agg [.int .i64 2,.int .i64 0,.str [],.sl 2722 0 2]])
def n6:Nat × AB:=(2722,.row 57 4 [.agg [.int .i64 0,.int .i64 3,.str [],.nsl],.agg [.int .i64 0,.int .i64 3,.str [],.nsl]])
def oB:Nat × AB:=(2684,.row 57 4 [.agg [.int .i64 0,.int .i64 3,.str [],.nsl],.agg [.int .i64 0,.int .i64 2,.str [],.nsl]])
def o9:Nat × AB:=(2646,.row 57 4 [.agg [.int .i64 0,.int .i64 3,.str [],.nsl],.agg [.int .i64 0,.int .i64 1,.str [],.nsl]])
def o5:Nat × AB:=(2608,.row 57 4 [.agg [.int .i64 0,.int .i64 3,.str [],.nsl],.agg [.int .i64 0,.int .i64 0,.str [],.nsl]])
def o0:Nat × AB:=(2570,.row 57 4 [.agg [.int .i64 0,.int .i64 2,.str [],.nsl],.agg [.int .i64 0,.int .i64 3,.str [],.nsl]])
def nK:Nat × AB:=(2532,.row 57 4 [.agg [.int .i64 0,.int .i64 2,.str [],.nsl],.agg [.int .i64 0,.int .i64 2,.str [],.nsl]])
def oU:Nat × AB:=(2494,.row 57 4 [.agg [.int .i64 0,.int .i64 2,.str [],.nsl],.agg [.int .i64 0,.int .i64 1,.str [],.nsl]])
def oC:Nat × AB:=(2456,.row 57 4 [.agg [.int .i64 0,.int .i64 2,.str [],.nsl],.agg [.int .i64 0,.int .i64 0,.str [],.nsl]])
def nU:Nat × AB:=(2418,.row 57 4 [.agg [.int .i64 0,.int .i64 1,.str [],.nsl],.agg [.int .i64 0,.int .i64 3,.str [],.nsl]])
def pA:Nat × AB:=(2380,.row 57 4 [.agg [.int .i64 0,.int .i64 1,.str [],.nsl],.agg [.int .i64 0,.int .i64 2,.str [],.nsl]])
def oG:Nat × AB:=(2342,.row 57 4 [.agg [.int .i64 0,.int .i64 1,.str [],.nsl],.agg [.int .i64 0,.int .i64 1,.str [],.nsl]])
def oF:Nat × AB:=(2304,.row 57 4 [.agg [.int .i64 0,.int .i64 1,.str [],.nsl],.agg [.int .i64 0,.int .i64 0,.str [],.nsl]])
def oM:Nat × AB:=(2266,.row 57 4 [.agg [.int .i64 0,.int .i64 0,.str [],.nsl],.agg [.int .i64 0,.int .i64 3,.str [],.nsl]])
def n8:Nat × AB:=(2228,.row 57 4 [.agg [.int .i64 0,.int .i64 0,.str [],.nsl],.agg [.int .i64 0,.int .i64 2,.str [],.nsl]])
def o7:Nat × AB:=(2190,.row 57 4 [.agg [.int .i64 0,.int .i64 0,.str [],.nsl],.agg [.int .i64 0,.int .i64 1,.str [],.nsl]])
def n9:Nat × AB:=(2152,.row 57 4 [.agg [.int .i64 0,.int .i64 0,.str [],.nsl],.agg [.int .i64 0,.int .i64 0,.str [],.nsl]])
def oD:Nat × AB:=(2092,.row 57 4 [.agg [.int .i64 0,.int .i64 0,.str [],.nsl],.agg [.int .i64 0,.int .i64 1,.str [],.nsl],.agg [.int .i64 0,.int .i64 2,.str [],.nsl],.agg [.int .i64 0,.int .i64 3,.str [],.nsl]])
def oT:Nat × AB:=(1876,.row 29 1 [.sl 2092 0 4,.sl 2759 0 16])
def oO:Nat × AB:=(1874,.row 4 1 [.bool true,.bool true])
def rD:Nat × AB:=(3615,.row 131 2 [.agg [.int .i64 2,.fn (.func 224) [.sl 3431 0 1] []]])
def rI:Nat × AB:=(3614,.row 131 2 [.agg [.int .i64 2,.fn (.func 224) [.sl 3431 0 1] []]])
def q9:Nat × AB:=(3602,.row 301 2 [.agg [.int .i64 0,.int .i64 2]])
def rE:Nat × AB:=(3601,.row 131 2 [.agg [.int .i64 2,.fn (.func 224) [.sl 3431 0 1] []]])
def Gv:Nat × AB:=(3528,.row 3 1 [.int .i64 (-1),.int .i64 2])
def sA:Nat × AB:=(3527,.row 3 1 [.int .i64 2])
def Hu:Nat × AB:=(3526,.row 59 12 [G2,Dm,Bu])
def rK:Nat × AB:=(3521,.row 59 12 [Bu])
def sH:Nat × AB:=(3446,.row 59 12 [Bu])
def rZ:Nat × AB:=(3445,.row 59 12 [Bu])
def sG:Nat × AB:=(3444,.row 57 4 [.agg [.int .i64 2,.int .i64 0,.str [],.sl 2570 0 2]])
def rP:Nat × AB:=(3433,.row 29 1 [.sl 3329 0 1])
def rW:Nat × AB:=(3432,.row 29 1 [.sl 3329 0 1])
def rS:Nat × AB:=(3431,.row 57 4 [.agg [.int .i64 0,.int .i64 3,.str [],.nsl]])
def rJ:Nat × AB:=(3430,.row 57 4 [.agg [.int .i64 0,.int .i64 3,.str [],.nsl]])
def rV:Nat × AB:=(3412,.row 57 4 [.agg [.int .i64 0,.int .i64 3,.str [],.nsl]])
def H0:Nat × AB:=(3411,.row 3 1 [.int .i64 (-1)])
def rQ:Nat × AB:=(3410,.row 29 1 [.sl 3329 0 1,.sl 3329 1 1])
def sE:Nat × AB:=(3409,.row 29 1 [.sl 3329 1 1])
def rT:Nat × AB:=(3408,.row 57 4 [.agg [.int .i64 0,.int .i64 2,.str [],.nsl],.agg [.int .i64 0,.int .i64 3,.str [],.nsl]])
def rB:Nat × AB:=(3407,.row 57 4 [.agg [.int .i64 0,.int .i64 3,.str [],.nsl]])
def r7:Nat × AB:=(3389,.row 57 4 [.agg [.int .i64 0,.int .i64 3,.str [],.nsl]])
def rA:Nat × AB:=(3387,.row 29 1 [.sl 3329 0 1])
def rF:Nat × AB:=(3385,.row 57 4 [.agg [.int .i64 0,.int .i64 2,.str [],.nsl]])
def sD:Nat × AB:=(3365,.row 57 4 [.agg [.int .i64 0,.int .i64 2,.str [],.nsl]])
def Gn:Nat × AB:=(1852,.row 141 5 [.agg [.ptr 1855 0 0,.ptr 1868 0 0,.mp 1849,.mp 1850,.int .i64 2]])
def IG:Nat × AB:=(1855,.row 239 2 [.agg [.sl 3526 0 3,.mp 1854]])
def HB:Nat × AB:=(1854,.mapb [(.str [2,2,0,0,6,0,0,0,0,0,0,0,0],.int .i64 0),(.str [2,6,0,0,0,0,0,0,4,0,0,0,0,0,0],.int .i64 1),(.str [2,0,0,0,0,0,0,0,0,4,0,0,4,0,4,0,0,0,6,0,0],.int .i64 2)])
def Ht:Nat × AB:=(1849,.mapb [(.str [2,0,0,0,0,0,0,2,0,6,0,0,0,0,0,0,0],.agg [.int .i64 2,.fn (.func 224) [.sl 3431 0 1] []])])
def wB:Nat × AB:=(3763,.row 57 4 [.agg [.int .i64 0,.int .i64 3,.str [],.nsl]])
def zM:Nat × AB:=(4238,.row 131 2 [.agg [.int .i64 3,.fn (.func 224) [.sl 4054 0 1] []]])
def yI:Nat × AB:=(4237,.row 131 2 [.agg [.int .i64 3,.fn (.func 224) [.sl 4054 0 1] []]])
def zH:Nat × AB:=(4225,.row 301 2 [.agg [.int .i64 0,.int .i64 3]])
def zP:Nat × AB:=(4224,.row 131 2 [.agg [.int .i64 3,.fn (.func 224) [.sl 4054 0 1] []]])
def Gm:Nat × AB:=(4151,.row 3 1 [.int .i64 (-1),.int .i64 6])
def yX:Nat × AB:=(4150,.row 3 1 [.int .i64 6])
def HW:Nat × AB:=(4149,.row 59 12 [G2,Dm,Bu,iW,FH,E5,FO])
def zS:Nat × AB:=(4144,.row 59 12 [FO])
def yZ:Nat × AB:=(4069,.row 59 12 [FO])
def yU:Nat × AB:=(4068,.row 59 12 [FO])
def yL:Nat × AB:=(4067,.row 57 4 [.agg [.int .i64 2,.int .i64 0,.str [],.sl 2684 0 2]])
def yP:Nat × AB:=(4056,.row 29 1 [.sl 3329 1 1])
def yK:Nat × AB:=(4055,.row 29 1 [.sl 3329 1 1])
def yV:Nat × AB:=(4054,.row 57 4 [.agg [.int .i64 0,.int .i64 2,.str [],.nsl]])
def y7:Nat × AB:=(4053,.row 57 4 [.agg [.int .i64 0,.int .i64 2,.str [],.nsl]])
def zA:Nat × AB:=(4035,.row 57 4 [.agg [.int .i64 0,.int .i64 2,.str [],.nsl]])
def IY:Nat × AB:=(4034,.row 3 1 [.int .i64 (-1),.int .i64 5])
def yO:Nat × AB:=(4033,.row 3 1 [.int .i64 5])
def zE:Nat × AB:=(4027,.row 59 12 [E5])
def zW:Nat × AB:=(3959,.row 59 12 [E5])
def y9:Nat × AB:=(3958,.row 59 12 [E5])
def zG:Nat × AB:=(3945,.row 59 12 [FH])
def zR:Nat × AB:=(3885,.row 59 12 [FH])
def yJ:Nat × AB:=(3884,.row 59 12 [FH])
def zC:Nat × AB:=(3883,.row 3 1 [.int .i64 3])
def zX:Nat × AB:=(3819,.row 3 1 [.int .i64 3])
def zD:Nat × AB:=(3877,.row 59 12 [iW])
def zN:Nat × AB:=(3824,.row 59 12 [iW])
def yY:Nat × AB:=(3823,.row 59 12 [iW])
def yS:Nat × AB:=(3822,.row 57 4 [.agg [.int .i64 0,.int .i64 3,.str [],.nsl]])
def yW:Nat × AB:=(3811,.row 9 1 [.str [51]])
def zK:Nat × AB:=(3810,.row 9 1 [.str [51]])
def yN:Nat × AB:=(3766,.row 3 1 [.int .i64 1])
def zL:Nat × AB:=(3765,.row 3 1 [.int .i64 1])
def zJ:Nat × AB:=(3764,.row 57 4 [.agg [.int .i64 0,.int .i64 3,.str [],.nsl]])
def yM:Nat × AB:=(3528,.row 3 1 [.int .i64 4,.int .i64 2])
def Hh:Nat × AB:=(1852,.row 141 5 [.agg [.ptr 1855 0 0,.ptr 1868 0 0,.mp 1849,.mp 1850,.int .i64 3]])
def H5:Nat × AB:=(1855,.row 239 2 [.agg [.sl 4149 0 7,.mp 1854]])
def G7:Nat × AB:=(1854,.mapb [(.str [2,2,0,0,6,0,0,0,0,0,0,0,0],.int .i64 0),(.str [2,6,0,0,0,0,0,0,4,0,0,0,0,0,0],.int .i64 1),(.str [2,0,0,0,0,0,0,0,0,4,0,0,4,0,4,0,0,0,6,0,0],.int .i64 2),(.str [2,0,0,0,0,0,0,0,0,0,6,0,0],.int .i64 3),(.str [2,4,0,0,0,2,2,2,1,51,0,2,6,0,0,0,0],.int .i64 4),(.str [2,8,0,0,0,0,0,2,0,6,0,0,4,8,4,0,0,0,0],.int .i64 5),(.str [2,0,0,0,0,0,0,0,0,4,0,0,4,0,6,0,0,0,4,0,0],.int .i64 6)])
def H9:Nat × AB:=(1850,.mapb [(.agg [.int .i64 0,.int .i64 2],.int .i64 4)])
def HC:Nat × AB:=(1849,.mapb [(.str [2,0,0,0,0,0,0,2,0,6,0,0,0,0,0,0,0],.agg [.int .i64 2,.fn (.func 224) [.sl 3431 0 1] []]),(.str [2,0,0,0,0,0,0,2,0,4,0,0,0,0,0,0,0],.agg [.int .i64 3,.fn (.func 224) [.sl 4054 0 1] []])])
def DS:Nat × AB:=(4354,.row 57 4 [.agg [.int .i64 0,.int .i64 2,.str [],.nsl]])
def HG:Nat × AB:=(4753,.row 131 2 [.agg [.int .i64 4,.fn (.func 224) [.sl 3408 0 2] []]])
def IC:Nat × AB:=(4752,.row 131 2 [.agg [.int .i64 4,.fn (.func 224) [.sl 3408 0 2] []]])
def HD:Nat × AB:=(4740,.row 301 2 [.agg [.int .i64 0,.int .i64 4]])
def G0:Nat × AB:=(4739,.row 131 2 [.agg [.int .i64 4,.fn (.func 224) [.sl 3408 0 2] []]])
def IL:Nat × AB:=(4655,.row 3 1 [.int .i64 (-1),.int .i64 5,.int .i64 9])
def H8:Nat × AB:=(4654,.row 3 1 [.int .i64 9])
def Ia:Nat × AB:=(4653,.row 59 12 [G2,Dm,Bu,iW,FH,E5,FO,Bm,Dj,C1])
def Hm:Nat × AB:=(4648,.row 59 12 [C1])
def IW:Nat × AB:=(4580,.row 59 12 [C1])
def IR:Nat × AB:=(4579,.row 59 12 [C1])
def G8:Nat × AB:=(4566,.row 59 12 [Dj])
def H4:Nat × AB:=(4506,.row 59 12 [Dj])
def IV:Nat × AB:=(4505,.row 59 12 [Dj])
def IF:Nat × AB:=(4504,.row 3 1 [.int .i64 7])
def HP:Nat × AB:=(4440,.row 3 1 [.int .i64 7])
def HL:Nat × AB:=(4498,.row 59 12 [Bm])
def HH:Nat × AB:=(4445,.row 59 12 [Bm])
def HK:Nat × AB:=(4444,.row 59 12 [Bm])
def Hj:Nat × AB:=(4443,.row 57 4 [.agg [.int .i64 0,.int .i64 2,.str [],.nsl]])
def IP:Nat × AB:=(4432,.row 9 1 [.str [50]])
def Gw:Nat × AB:=(4431,.row 9 1 [.str [50]])
def IJ:Nat × AB:=(4387,.row 3 1 [.int .i64 1])
def IZ:Nat × AB:=(4386,.row 3 1 [.int .i64 1])
def Gj:Nat × AB:=(4385,.row 57 4 [.agg [.int .i64 0,.int .i64 2,.str [],.nsl]])
def Gk:Nat × AB:=(4151,.row 3 1 [.int .i64 8,.int .i64 6])
def Gh:Nat × AB:=(1852,.row 141 5 [.agg [.ptr 1855 0 0,.ptr 1868 0 0,.mp 1849,.mp 1850,.int .i64 4]])
def G6:Nat × AB:=(1855,.row 239 2 [.agg [.sl 4653 0 10,.mp 1854]])
def Ho:Nat × AB:=(1854,.mapb [(.str [2,2,0,0,6,0,0,0,0,0,0,0,0],.int .i64 0),(.str [2,6,0,0,0,0,0,0,4,0,0,0,0,0,0],.int .i64 1),(.str [2,0,0,0,0,0,0,0,0,4,0,0,4,0,4,0,0,0,6,0,0],.int .i64 2),(.str [2,0,0,0,0,0,0,0,0,0,6,0,0],.int .i64 3),(.str [2,4,0,0,0,2,2,2,1,51,0,2,6,0,0,0,0],.int .i64 4),(.str [2,8,0,0,0,0,0,2,0,6,0,0,4,8,4,0,0,0,0],.int .i64 5),(.str [2,0,0,0,0,0,0,0,0,4,0,0,4,0,6,0,0,0,4,0,0],.int .i64 6),(.str [2,0,0,0,0,0,0,0,0,0,4,0,0],.int .i64 7),(.str [2,4,0,0,0,2,2,2,1,50,0,2,14,0,0,0,0],.int .i64 8),(.str [2,8,0,0,0,0,0,2,0,4,0,0,4,16,12,0,0,0,0],.int .i64 9)])
def G9:Nat × AB:=(1850,.mapb [(.agg [.int .i64 0,.int .i64 2],.int .i64 4),(.agg [.int .i64 0,.int .i64 3],.int .i64 8)])
def Cu:Nat × AB:=(1849,.mapb [(.str [2,0,0,0,0,0,0,2,0,6,0,0,0,0,0,0,0],.agg [.int .i64 2,.fn (.func 224) [.sl 3431 0 1] []]),(.str [2,0,0,0,0,0,0,2,0,4,0,0,0,0,0,0,0],.agg [.int .i64 3,.fn (.func 224) [.sl 4054 0 1] []]),(.str [2,0,0,0,0,0,0,4,0,4,0,0,0,6,0,0,0,0,0,0,0],.agg [.int .i64 4,.fn (.func 224) [.sl 3408 0 2] []])])
def MH:Nat × AB:=(4943,.row 57 4 [.agg [.int .i64 0,.int .i64 2,.str [],.nsl],.agg [.int .i64 0,.int .i64 3,.str [],.nsl]])
def NC:Nat × AB:=(1850,.mapb [(.agg [.int .i64 0,.int .i64 2],.int .i64 4),(.agg [.int .i64 0,.int .i64 3],.int .i64 8),(.agg [.int .i64 0,.int .i64 4],.int .i64 10),(.agg [.int .i64 1,.int .i64 1],.int .i64 11)])
def p7:List Nat:=[70,173]
def qO:List Nat:=[11,140,223,303,260,66,83,154,144,32,34,35]
def pU:List Nat:=[151,69,28,153]
def I3(e:Nat × List AV × AV):Prop:=a7 prog gz e.1 e.2.1 e.2.2
theorem Mw{e:Nat × List AV × AV}{t:List (Nat × List AV × AV)}(h:I3 e)(ht:lI prog gz t)(h1:u5 (frz 30 [] []) e.2.1=some e.2.1:=by rfl)(h2:frz 30 [] [] e.2.2=some e.2.2:=by rfl):lI prog gz (e::t):=lI.cons h h1 h2 ht
set_option maxRecDepth 1000000
def Ev:Nat × List AV × AV:=(11,[.agg [.il 12 [pJ]]],.int .i64 0)
theorem I4:I3 Ev:=sI mM (Oi) (m7.nil) (lI.nil) p7 qO pU 500 rfl (by kernel_rfl)
theorem DK:m7 prog gz (Ev::[]):=m7.cons I4 (by first|exact .int _ _|exact .bool _|exact .str _) m7.nil
set_option maxRecDepth 1000000
def mZ:Xf:=⟨151,[.ptr 56 0 0,.int .i64 0,.agg [.int .i64 1,.fn (.func 146) [] [.ptr 169 0 0]]],[Nc,Nm,Np,Nt,Nf,Nh,Nj,Nb,NU,NQ,KK,Lm,LO,LE,LS,LL,Ob,Ok,KJ,LK,Kb,KG,dV,dX,eG,eD,Kl,eF],199,.tup [.sl 306 0 2,.bool false],[Oh,OQ,Nc,Nm,Np,Nt,Nf,Nh,Nj,Nb,NU,NQ,KK,Lm,LO,LE,LS,LL,OC,Od,KJ,LK,Kb,KG,dV,dX,eG,eD,Kl,eF],307⟩
theorem I0:mZ.ok prog gz:=iJ mZ mM (Oi) (DK) (lI.nil) p7 qO pU 500 (by kernel_rfl)
theorem DZ:∀x∈mZ::[],x.ok prog gz:=qB I0 Oi
set_option maxRecDepth 1000000
def xR:Nat × List AV × AV:=(11,[.agg [.il 12 [pD,iW,.agg [.int .i64 2,.str [],.int .i64 0,.int .i64 0,.il 1 [.int .i64 1,.int .i64 1],.il 1 [.str [49],.str [51]],.nsl,.il 1 [.int .i64 0,.int .i64 1],.int .i64 0,.int .i64 0,.str [],.nsl]]]],.int .i64 0)
theorem Bp:I3 xR:=sI mM (DZ) (DK) (lI.nil) p7 qO pU 500 rfl (by kernel_rfl)
theorem rM:m7 prog gz (xR::(Ev::[])):=m7.cons Bp (by first|exact .int _ _|exact .bool _|exact .str _) DK
theorem rG:lI prog gz (xR::[]):=Mw Bp lI.nil
set_option maxRecDepth 1000000
def pB:Xf:=⟨32,[.agg [.sl 0 0 1],.fn (.func 33) [.agg []] []],[dV,dX],2,.tup [.agg [.il 12 [pD,iW,.agg [.int .i64 2,.str [],.int .i64 0,.int .i64 0,.il 1 [.int .i64 1,.int .i64 1],.il 1 [.str [49],.str [51]],.nsl,.il 1 [.int .i64 0,.int .i64 1],.int .i64 0,.int .i64 0,.str [],.nsl]]],.int .i64 0],[dV,dX,eG,eD,fF,eF],677⟩
theorem JU:pB.ok prog gz:=iJ pB mM (DZ) (rM) (rG) p7 qO pU 500 (by kernel_rfl)
theorem IQ:∀x∈pB::(mZ::[]),x.ok prog gz:=qB JU DZ
set_option maxRecDepth 1000000
def qE:Xf:=⟨151,[.ptr 733 0 0,.int .i64 0,.agg [.int .i64 1,.fn (.func 146) [] [.ptr 846 0 0]]],[Cp,Dx,Dw,C5,DM,K7,DX,C7,Ct,DW,Dd,Jy,Dv,Cf,DQ,Du,Do,Oj,OE,Li,J3,C6,DO,fQ,fR,dV,dX,eG,eD,fF,eF,f8,f7,KN,gB],877,.tup [.sl 984 0 2,.bool false],[Fp,GH,Cp,Dx,Dw,C5,DM,K7,DX,C7,Ct,DW,Dd,Jy,Dv,Cf,DQ,Du,Do,Fk,Fj,Li,J3,C6,DO,fQ,fR,dV,dX,eG,eD,fF,eF,f8,f7,KN,gB],985⟩
theorem JC:qE.ok prog gz:=iJ qE mM (IQ) (rM) (rG) p7 qO pU 500 (by kernel_rfl)
theorem HX:∀x∈qE::(pB::(mZ::[])),x.ok prog gz:=qB JC IQ
set_option maxRecDepth 1000000
def tN:Xf:=⟨151,[.ptr 733 0 0,.int .i64 0,.agg [.int .i64 1,.fn (.func 146) [] [.ptr 846 0 0]]],[J7,KS,Lg,LI,Jw,Lz,LU,Jg,KV,Km,L4,Lt,Ln,Kz,Lx,K6,KT,J9,Lu,Ls,K8,LJ,Jr,Js,KB,Kx,Kh,LR,LD,K0,KM,LA,Jl,Lp,Hn,Gy,Gs,Gu,HS,IT,IK,H6,Hz,Hx,Fp,GH,Cp,Dx,Dw,C5,DM,IU,DX,C7,Ct,DW,Dd,Dv,Cf,DQ,Du,Do,Fk,Fj,HN,IM,C6,DO,fQ,fR,dV,dX,eG,eD,fF,eF,f8,f7,e9,gB,fB,fC,fE],1524,.tup [.sl 1589 0 2,.bool false],[Mk,J7,KS,Lg,LI,Jw,Lz,LU,Jg,KV,Km,L4,Lt,Ln,Kz,Lx,K6,KT,J9,Lu,Ls,K8,LJ,Jr,Js,KB,Kx,Kh,LR,LD,K0,KM,LA,Jl,Lp,Hn,Gy,Gs,Gu,HS,IT,IK,H6,Hz,Hx,Fp,GH,Cp,Dx,Dw,C5,DM,IU,DX,C7,Ct,DW,Dd,Dv,Cf,DQ,Du,Do,Fk,Fj,HN,IM,C6,DO,fQ,fR,dV,dX,eG,eD,fF,eF,f8,f7,e9,gB,fB,fC,fE],1590⟩
theorem JF:tN.ok prog gz:=iJ tN mM (HX) (rM) (rG) p7 qO pU 500 (by kernel_rfl)
theorem Hd:∀x∈tN::(qE::(pB::(mZ::[]))),x.ok prog gz:=qB JF HX
set_option maxRecDepth 1000000
def u3:Xf:=⟨34,[.agg [.sl 0 0 1],.fn (.func 33) [.agg []] [],.sl 678 0 1],[fQ,fR,dV,dX,eG,eD,fF,eF],679,.tup [.il 1 [.int .i64 3],.int .i64 0],[fQ,fR,dV,dX,eG,eD,fF,eF,f8,f7,e9,gB,fB,fC,fE],1603⟩
theorem JT:u3.ok prog gz:=iJ u3 mM (Hd) (rM) (rG) p7 qO pU 500 (by kernel_rfl)
theorem DL:∀x∈u3::(tN::(qE::(pB::(mZ::[])))),x.ok prog gz:=qB JT Hd
set_option maxRecDepth 1000000
def CN:Nat × List AV × AV:=(11,[.agg [.il 12 [pJ,.agg [.int .i64 3,.str [],.int .i64 0,.int .i64 0,.nsl,.nsl,.nsl,.il 1 [.int .i64 0,.int .i64 0],.int .i64 0,.int .i64 0,.str [],.nsl]]]],.int .i64 0)
theorem CD:I3 CN:=sI mM (DL) (rM) (rG) p7 qO pU 500 rfl (by kernel_rfl)
theorem lY:m7 prog gz (CN::(xR::(Ev::[]))):=m7.cons CD (by first|exact .int _ _|exact .bool _|exact .str _) rM
theorem DD:lI prog gz (CN::(xR::[])):=Mw CD rG
set_option maxRecDepth 1000000
def xE:Xf:=⟨35,[.str [],.sl 1603 0 2],[gR,fQ,fR,dV,dX,eG,eD,fF,eF,f8,f7,e9,gB,fB,fC,fE],1604,.tup [.agg [.il 12 [pJ,.agg [.int .i64 3,.str [],.int .i64 0,.int .i64 0,.nsl,.nsl,.nsl,.il 1 [.int .i64 0,.int .i64 0],.int .i64 0,.int .i64 0,.str [],.nsl]]],.int .i64 0],[gR,fQ,fR,dV,dX,eG,eD,fF,eF,f8,f7,e9,gB,fB,fC,fE],1842⟩
theorem I2:xE.ok prog gz:=iJ xE mM (DL) (lY) (DD) p7 qO pU 500 (by kernel_rfl)
theorem Cj:∀x∈xE::(u3::(tN::(qE::(pB::(mZ::[]))))),x.ok prog gz:=qB I2 DL
set_option maxRecDepth 1000000
def L3:Nat × List AV × AV:=(140,[.agg [.il 12 [pJ,.agg [.int .i64 3,.str [],.int .i64 0,.int .i64 0,.nsl,.nsl,.nsl,.il 1 [.int .i64 0,.int .i64 0],.int .i64 0,.int .i64 0,.str [],.nsl]]]],.agg [.il 12 [pJ,.agg [.int .i64 3,.str [],.int .i64 0,.int .i64 0,.nsl,.nsl,.nsl,.il 1 [.int .i64 0,.int .i64 0],.int .i64 0,.int .i64 0,.str [],.nsl]]])
theorem JX:I3 L3:=sI mM (Cj) (lY) (DD) p7 qO pU 500 rfl (by kernel_rfl)
theorem rC:lI prog gz (L3::(CN::(xR::[]))):=Mw JX DD
set_option maxRecDepth 1000000
def tZ:Xf:=⟨151,[.ptr 1852 0 0,.int .i64 1,.agg [.int .i64 1,.fn (.func 146) [] [.ptr 2044 0 0]]],[lW,lP,l9,l6,mF,lZ,lQ,mD,lS,HO,lT,l5,HM,lU,lV,lX,MG,MI,G5,Hf,l4,l7,jI,gR,fQ,fR,dV,dX,eG,eD,fF,eF,f8,f7,e9,gB,fB,fC,fE,kC,j7,zO,HF],2073,.tup [.sl 3329 0 2,.bool false],[o8,nP,n6,oB,o9,o5,o0,nK,oU,oC,nU,pA,oG,oF,oM,n8,o7,n9,oD,lW,lP,l9,l6,mF,lZ,lQ,mD,lS,HO,lT,l5,HM,lU,lV,lX,oT,oO,G5,Hf,l4,l7,jI,gR,fQ,fR,dV,dX,eG,eD,fF,eF,f8,f7,e9,gB,fB,fC,fE,kC,j7,zO,HF],3365⟩
theorem Ge:tZ.ok prog gz:=iJ tZ mM (Cj) (lY) (rC) p7 qO pU 500 (by kernel_rfl)
theorem Eb:∀x∈tZ::(xE::(u3::(tN::(qE::(pB::(mZ::[])))))),x.ok prog gz:=qB Ge Cj
set_option maxRecDepth 1000000
def wL:Xf:=⟨151,[.ptr 1852 0 0,.int .i64 0,.agg [.int .i64 2,.fn (.func 224) [.sl 3431 0 1] []]],[rD,rI,q9,rE,Gv,sA,Hu,rK,sH,rZ,sG,rP,rW,rS,rJ,rV,H0,rQ,sE,rT,rB,r7,rA,rF,sD,o8,nP,n6,oB,o9,o5,o0,nK,oU,oC,nU,pA,oG,oF,oM,n8,o7,n9,oD,lW,lP,l9,l6,mF,lZ,lQ,mD,lS,lT,l5,Gn,lU,lV,lX,oT,oO,IG,HB,l4,l7,jI,gR,fQ,fR,dV,dX,eG,eD,fF,eF,f8,f7,e9,gB,fB,fC,fE,kC,j7,zO,Ht],3616,.tup [.sl 3763 0 1,.bool false],[wB,rD,rI,q9,rE,Gv,sA,Hu,rK,sH,rZ,sG,rP,rW,rS,rJ,rV,H0,rQ,sE,rT,rB,r7,rA,rF,sD,o8,nP,n6,oB,o9,o5,o0,nK,oU,oC,nU,pA,oG,oF,oM,n8,o7,n9,oD,lW,lP,l9,l6,mF,lZ,lQ,mD,lS,lT,l5,Gn,lU,lV,lX,oT,oO,IG,HB,l4,l7,jI,gR,fQ,fR,dV,dX,eG,eD,fF,eF,f8,f7,e9,gB,fB,fC,fE,kC,j7,zO,Ht],3764⟩
theorem F8:wL.ok prog gz:=iJ wL mM (Eb) (lY) (rC) p7 qO pU 500 (by kernel_rfl)
theorem D3:∀x∈wL::(tZ::(xE::(u3::(tN::(qE::(pB::(mZ::[]))))))),x.ok prog gz:=qB F8 Eb
set_option maxRecDepth 1000000
def z8:Xf:=⟨151,[.ptr 1852 0 0,.int .i64 0,.agg [.int .i64 3,.fn (.func 224) [.sl 4054 0 1] []]],[zM,yI,zH,zP,Gm,yX,HW,zS,yZ,yU,yL,yP,yK,yV,y7,zA,IY,yO,zE,zW,y9,zG,zR,yJ,zC,zX,zD,zN,yY,yS,yW,zK,yN,zL,zJ,wB,rD,rI,q9,rE,yM,sA,rK,sH,rZ,sG,rP,rW,rS,rJ,rV,rQ,sE,rT,rB,r7,rA,rF,sD,o8,nP,n6,oB,o9,o5,o0,nK,oU,oC,nU,pA,oG,oF,oM,n8,o7,n9,oD,lW,lP,l9,l6,mF,lZ,lQ,mD,lS,lT,l5,Hh,lU,lV,lX,oT,oO,H5,G7,l4,l7,jI,gR,fQ,fR,dV,dX,eG,eD,fF,eF,f8,f7,e9,gB,fB,fC,fE,kC,j7,H9,HC],4239,.tup [.sl 4354 0 1,.bool false],[DS,zM,yI,zH,zP,Gm,yX,HW,zS,yZ,yU,yL,yP,yK,yV,y7,zA,IY,yO,zE,zW,y9,zG,zR,yJ,zC,zX,zD,zN,yY,yS,yW,zK,yN,zL,zJ,wB,rD,rI,q9,rE,yM,sA,rK,sH,rZ,sG,rP,rW,rS,rJ,rV,rQ,sE,rT,rB,r7,rA,rF,sD,o8,nP,n6,oB,o9,o5,o0,nK,oU,oC,nU,pA,oG,oF,oM,n8,o7,n9,oD,lW,lP,l9,l6,mF,lZ,lQ,mD,lS,lT,l5,Hh,lU,lV,lX,oT,oO,H5,G7,l4,l7,jI,gR,fQ,fR,dV,dX,eG,eD,fF,eF,f8,f7,e9,gB,fB,fC,fE,kC,j7,H9,HC],4385⟩
theorem F6:z8.ok prog gz:=iJ z8 mM (D3) (lY) (rC) p7 qO pU 500 (by kernel_rfl)
theorem Dz:∀x∈z8::(wL::(tZ::(xE::(u3::(tN::(qE::(pB::(mZ::[])))))))),x.ok prog gz:=qB F6 D3
set_option maxRecDepth 1000000
def Co:Xf:=⟨151,[.ptr 1852 0 0,.int .i64 0,.agg [.int .i64 4,.fn (.func 224) [.sl 3408 0 2] []]],[HG,IC,HD,G0,IL,H8,Ia,Hm,IW,IR,G8,H4,IV,IF,HP,HL,HH,HK,Hj,IP,Gw,IJ,IZ,Gj,DS,zM,yI,zH,zP,Gk,yX,zS,yZ,yU,yL,yP,yK,yV,y7,zA,yO,zE,zW,y9,zG,zR,yJ,zC,zX,zD,zN,yY,yS,yW,zK,yN,zL,zJ,wB,rD,rI,q9,rE,yM,sA,rK,sH,rZ,sG,rP,rW,rS,rJ,rV,rQ,sE,rT,rB,r7,rA,rF,sD,o8,nP,n6,oB,o9,o5,o0,nK,oU,oC,nU,pA,oG,oF,oM,n8,o7,n9,oD,lW,lP,l9,l6,mF,lZ,lQ,mD,lS,lT,l5,Gh,lU,lV,lX,oT,oO,G6,Ho,l4,l7,jI,gR,fQ,fR,dV,dX,eG,eD,fF,eF,f8,f7,e9,gB,fB,fC,fE,kC,j7,G9,Cu],4754,.tup [.sl 4943 0 2,.bool false],[MH,HG,IC,HD,G0,IL,H8,Ia,Hm,IW,IR,G8,H4,IV,IF,HP,HL,HH,HK,Hj,IP,Gw,IJ,IZ,Gj,DS,zM,yI,zH,zP,Gk,yX,zS,yZ,yU,yL,yP,yK,yV,y7,zA,yO,zE,zW,y9,zG,zR,yJ,zC,zX,zD,zN,yY,yS,yW,zK,yN,zL,zJ,wB,rD,rI,q9,rE,yM,sA,rK,sH,rZ,sG,rP,rW,rS,rJ,rV,rQ,sE,rT,rB,r7,rA,rF,sD,o8,nP,n6,oB,o9,o5,o0,nK,oU,oC,nU,pA,oG,oF,oM,n8,o7,n9,oD,lW,lP,l9,l6,mF,lZ,lQ,mD,lS,lT,l5,Gh,lU,lV,lX,oT,oO,G6,Ho,l4,l7,jI,gR,fQ,fR,dV,dX,eG,eD,fF,eF,f8,f7,e9,gB,fB,fC,fE,kC,j7,G9,Cu],4944⟩
theorem Fg:Co.ok prog gz:=iJ Co mM (Dz) (lY) (rC) p7 qO pU 500 (by kernel_rfl)
theorem BW:∀x∈Co::(z8::(wL::(tZ::(xE::(u3::(tN::(qE::(pB::(mZ::[]))))))))),x.ok prog gz:=qB Fg Dz
set_option maxRecDepth 1000000
def Fl:Nat × List AV × AV:=(11,[.agg [.il 12 [Bm,iW,.agg [.int .i64 2,.str [],.int .i64 0,.int .i64 0,.il 1 [.int .i64 1,.int .i64 1],.il 1 [.str [50],.str [51]],.nsl,.il 1 [.int .i64 0,.int .i64 1],.int .i64 0,.int .i64 0,.str [],.nsl],.agg [.int .i64 2,.str [],.int .i64 0,.int .i64 0,.il 1 [.int .i64 1],.il 1 [.str [51]],.nsl,.il 1 [.int .i64 1],.int .i64 0,.int .i64 0,.str [],.nsl],.agg [.int .i64 0,.str [],.int .i64 0,.int .i64 0,.nsl,.nsl,.nsl,.nsl,.int .i64 2,.int .i64 0,.str [],.il 4 [.agg [.int .i64 0,.int .i64 2,.str [],.nsl],.agg [.int .i64 0,.int .i64 3,.str [],.nsl]]],.agg [.int .i64 4,.str [],.int .i64 0,.int .i64 0,.nsl,.nsl,.il 4 [.agg [.int .i64 0,.int .i64 3,.str [],.nsl]],.il 1 [.int .i64 3,.int .i64 4],.int .i64 0,.int .i64 0,.str [],.nsl],.agg [.int .i64 2,.str [],.int .i64 0,.int .i64 0,.il 1 [.int .i64 1],.il 1 [.str [50]],.nsl,.il 1 [.int .i64 0],.int .i64 0,.int .i64 0,.str [],.nsl],.agg [.int .i64 0,.str [],.int .i64 0,.int .i64 0,.nsl,.nsl,.nsl,.nsl,.int .i64 2,.int .i64 0,.str [],.il 4 [.agg [.int .i64 0,.int .i64 3,.str [],.nsl],.agg [.int .i64 0,.int .i64 2,.str [],.nsl]]],.agg [.int .i64 4,.str [],.int .i64 0,.int .i64 0,.nsl,.nsl,.il 4 [.agg [.int .i64 0,.int .i64 2,.str [],.nsl]],.il 1 [.int .i64 6,.int .i64 7],.int .i64 0,.int .i64 0,.str [],.nsl],.agg [.int .i64 4,.str [],.int .i64 0,.int .i64 0,.nsl,.nsl,.il 4 [.agg [.int .i64 0,.int .i64 2,.str [],.nsl],.agg [.int .i64 0,.int .i64 3,.str [],.nsl]],.il 1 [.int .i64 2,.int .i64 5,.int .i64 8],.int .i64 0,.int .i64 0,.str [],.nsl]]]],.int .i64 0)
theorem An:I3 Fl:=sI mM (BW) (lY) (rC) p7 qO pU 500 rfl (by kernel_rfl)
theorem EI:m7 prog gz (Fl::(CN::(xR::(Ev::[])))):=m7.cons An (by first|exact .int _ _|exact .bool _|exact .str _) lY
theorem En:lI prog gz (Fl::(L3::(CN::(xR::[])))):=Mw An rC
set_option maxRecDepth 1000000
def GV:Xf:=⟨32,[.agg [.il 12 [pJ,.agg [.int .i64 3,.str [],.int .i64 0,.int .i64 0,.nsl,.nsl,.nsl,.il 1 [.int .i64 0,.int .i64 0],.int .i64 0,.int .i64 0,.str [],.nsl]]],.fn (.func 36) [.agg []] []],[jI,gR,fQ,fR,dV,dX,eG,eD,fF,eF,f8,f7,e9,gB,fB,fC,fE],1843,.tup [.agg [.il 12 [Bm,iW,.agg [.int .i64 2,.str [],.int .i64 0,.int .i64 0,.il 1 [.int .i64 1,.int .i64 1],.il 1 [.str [50],.str [51]],.nsl,.il 1 [.int .i64 0,.int .i64 1],.int .i64 0,.int .i64 0,.str [],.nsl],.agg [.int .i64 2,.str [],.int .i64 0,.int .i64 0,.il 1 [.int .i64 1],.il 1 [.str [51]],.nsl,.il 1 [.int .i64 1],.int .i64 0,.int .i64 0,.str [],.nsl],.agg [.int .i64 0,.str [],.int .i64 0,.int .i64 0,.nsl,.nsl,.nsl,.nsl,.int .i64 2,.int .i64 0,.str [],.il 4 [.agg [.int .i64 0,.int .i64 2,.str [],.nsl],.agg [.int .i64 0,.int .i64 3,.str [],.nsl]]],.agg [.int .i64 4,.str [],.int .i64 0,.int .i64 0,.nsl,.nsl,.il 4 [.agg [.int .i64 0,.int .i64 3,.str [],.nsl]],.il 1 [.int .i64 3,.int .i64 4],.int .i64 0,.int .i64 0,.str [],.nsl],.agg [.int .i64 2,.str [],.int .i64 0,.int .i64 0,.il 1 [.int .i64 1],.il 1 [.str [50]],.nsl,.il 1 [.int .i64 0],.int .i64 0,.int .i64 0,.str [],.nsl],.agg [.int .i64 0,.str [],.int .i64 0,.int .i64 0,.nsl,.nsl,.nsl,.nsl,.int .i64 2,.int .i64 0,.str [],.il 4 [.agg [.int .i64 0,.int .i64 3,.str [],.nsl],.agg [.int .i64 0,.int .i64 2,.str [],.nsl]]],.agg [.int .i64 4,.str [],.int .i64 0,.int .i64 0,.nsl,.nsl,.il 4 [.agg [.int .i64 0,.int .i64 2,.str [],.nsl]],.il 1 [.int .i64 6,.int .i64 7],.int .i64 0,.int .i64 0,.str [],.nsl],.agg [.int .i64 4,.str [],.int .i64 0,.int .i64 0,.nsl,.nsl,.il 4 [.agg [.int .i64 0,.int .i64 2,.str [],.nsl],.agg [.int .i64 0,.int .i64 3,.str [],.nsl]],.il 1 [.int .i64 2,.int .i64 5,.int .i64 8],.int .i64 0,.int .i64 0,.str [],.nsl]]],.int .i64 0],[jI,gR,fQ,fR,dV,dX,eG,eD,fF,eF,f8,f7,e9,gB,fB,fC,fE,kC,j7,NC,Cu],5523⟩
theorem Fx:GV.ok prog gz:=iJ GV mM (BW) (EI) (En) p7 qO pU 500 (by kernel_rfl)
theorem Kw:∀x∈GV::(Co::(z8::(wL::(tZ::(xE::(u3::(tN::(qE::(pB::(mZ::[])))))))))),x.ok prog gz:=qB Fx BW
set_option maxRecDepth 1000000
theorem NK:a7 prog gz 10 [] (.bool true):=sI mM (Kw) (EI) (En) p7 qO pU 500 rfl (by kernel_rfl)
theorem GI(l:List Int)(at_ how n most:Int)(hl:∀x∈l,i64 x)(ha:i64 at_)(hh:i64 how)(hn:i64 n)(hm:i64 most):a7 prog gz 3 [.il 1 (aW l),.int .i64 at_,.int .i64 how,.int .i64 n,.int .i64 most] (.bool true):=D2 l at_ how n most hl ha hh hn hm NK
end Go.Proofs.YtpajadlnaokngaaGreatDoor
namespace Go.Proofs.YtpajadlnaokngaaGreatDoor.FilterValues
open Go.ChangeShapes Go.WideShapes Go.ChangeAt Go.RowKit Go.Lib Go.Ax
set_option maxHeartbeats 16000000
theorem own:ownKnob Tryz.prog.godebug=none:=by kernel_rfl
theorem laidOut:laidOutB Tryz.prog=true:=by kernel_rfl
theorem cells3:Tryz.prog.cellsOf 3=1:=by kernel_rfl
theorem gNameP:Tryz.prog.globalNamed "internal/strconv.uint64pow10" = some 0:=by kernel_rfl
theorem gNameB:Tryz.prog.globalNamed "math/bits.deBruijn32tab" = some 2:=by kernel_rfl
theorem gNameC:Tryz.prog.globalNamed "math/bits.deBruijn64tab" = some 3:=by kernel_rfl
theorem gTypeP:(Tryz.prog.globals[0]?).map (·.type)=some 383:=by kernel_rfl
theorem gTypeB:(Tryz.prog.globals[2]?).map (·.type)=some 395:=by kernel_rfl
theorem gTypeC:(Tryz.prog.globals[3]?).map (·.type)=some 396:=by kernel_rfl
theorem cellsU:Tryz.prog.cellsOf 52=1:=by kernel_rfl
theorem cellsB:Tryz.prog.cellsOf 5=1:=by kernel_rfl
theorem cellsP:Tryz.prog.cellsOf 383=20:=by kernel_rfl
theorem cellsQ:Tryz.prog.cellsOf 395=32:=by kernel_rfl
theorem cellsR:Tryz.prog.cellsOf 396=64:=by kernel_rfl
def pows:List Int:=[1,10,100,1000,10000,100000,1000000,10000000,100000000,1000000000,10000000000,100000000000,1000000000000,10000000000000,100000000000000,1000000000000000,10000000000000000,100000000000000000,1000000000000000000,10000000000000000000]
def tabB:List Int:=[0,1,28,2,29,14,24,3,30,22,20,15,25,17,4,8,31,27,13,23,21,19,16,7,26,12,18,6,11,5,10,9]
def tabC:List Int:=[0,1,56,2,57,49,28,3,61,58,42,50,38,29,17,4,62,47,59,36,45,43,51,22,53,39,33,30,24,18,12,5,63,55,48,27,60,41,37,16,46,35,44,21,52,32,23,11,54,26,40,15,34,20,31,10,25,14,19,9,13,8,7,6]
theorem vars{W:World}(h:laidMetH Tryz.prog Rows.filterValuesRow.laid W):∀p∈gz,VR (fun _=>⟨0,0,0⟩) (fun _=>False) (OX (fun _=>False) (fun _=>⟨0,0,0⟩) []) W (.ip p.2) (.pointer (some ⟨p.1,0,none⟩)):=by
 have h:laidMet Tryz.prog Rows.filterValuesRow.laid W:=h
 have hP:=tabIs_of_head (k:=.u64) (zs:=pows) gNameP gTypeP Tryz.underlying383 Tryz.underlying52 cellsU cellsP h.tail.tail
 have hB:=tabIs_of_head (k:=.u8) (zs:=tabB) gNameB gTypeB Tryz.underlying395 Tryz.underlying5 cellsB cellsQ h
 have hC:=tabIs_of_head (k:=.u8) (zs:=tabC) gNameC gTypeC Tryz.underlying396 Tryz.underlying5 cellsB cellsR h.tail
 intro p hp
 simp only[gz,List.mem_cons,List.not_mem_nil,or_false] at hp
 rcases hp with rfl|rfl|rfl
 ·exact uJ gNameP hP
 ·exact uJ gNameB hB
 ·exact uJ gNameC hC
set_option maxRecDepth 100000 in
theorem contract(H:Type)(enc:TypeId × Value→H)(W:World)(base:Nat)(args:Array Value)(ds gs:List (DataW H))(before:List MemPlace)
  (hval:∀(j:Nat) t v,Tryz.f3.params[j]? = some t→args[j]? = some v→Value.okWide Tryz.prog W .any base t v)
  (hW:DataW.Whole enc Tryz.prog Tryz.f3.params.toList Rows.filterValuesSpec.vars false W args.toList ds gs before) (hL:laidMetH Tryz.prog Rows.filterValuesRow.laid W) :
  Calls Tryz.prog 3 args W fun e W'=>∃v,e = .returned v∧Rows.filterValuesSpec.post enc Tryz.prog Tryz.f3 false true false false W args v W':=by
 have hW':=hW
 obtain⟨p,q,hA0,hV,rfl,hfz,hnd⟩:=hW
 have hA:DataW.TrodAll enc Tryz.prog W 0 (fun _=>true) true Tryz.f3.params.toList args.toList ds p:=hA0
 rw[Tryz.params3] at hA hval
 obtain⟨v0,vs0,d0,ds0,p0,q0,hargs,rfl,rfl,h0,r0⟩:=trodAll_cons hA
 obtain⟨v1,vs1,d1,ds1,p1,q1,rfl,rfl,rfl,h1,r1⟩:=trodAll_cons r0
 obtain⟨v2,vs2,d2,ds2,p2,q2,rfl,rfl,rfl,h2,r2⟩:=trodAll_cons r1
 obtain⟨v3,vs3,d3,ds3,p3,q3,rfl,rfl,rfl,h3,r3⟩:=trodAll_cons r2
 obtain⟨v4,vs4,d4,ds4,p4,q4,rfl,rfl,rfl,h4,r4⟩:=trodAll_cons r3
 obtain⟨rfl,rfl,rfl⟩:=trodAll_nil r4
 obtain rfl:args = #[v0,v1,v2,v3,v4]:=by cases args;simp_all
 obtain⟨rfl,rfl⟩:=trodVars_none hV
 have h0k:=h0
 obtain⟨x0,b0,e0⟩:=GQ Tryz.underlying22 Tryz.underlying3 cells3 (hval 0 22 v0 rfl rfl) h0
 have h1k:=h1
 obtain⟨x1,rfl,rfl,rfl,hwf1⟩:=open_int Tryz.underlying3 (hval 1 3 v1 rfl rfl) h1
 have b1:i64 x1:=by
  have e1:IntKind.i64.min = -9223372036854775808:=rfl
  have e2:IntKind.i64.max=9223372036854775807:=rfl
  simp[Lit.wf,e1,e2] at hwf1
  unfold i64
  omega
 have h2k:=h2
 obtain⟨x2,rfl,rfl,rfl,hwf2⟩:=open_int Tryz.underlying3 (hval 2 3 v2 rfl rfl) h2
 have b2:i64 x2:=by
  have e1:IntKind.i64.min = -9223372036854775808:=rfl
  have e2:IntKind.i64.max=9223372036854775807:=rfl
  simp[Lit.wf,e1,e2] at hwf2
  unfold i64
  omega
 have h3k:=h3
 obtain⟨x3,rfl,rfl,rfl,hwf3⟩:=open_int Tryz.underlying3 (hval 3 3 v3 rfl rfl) h3
 have b3:i64 x3:=by
  have e1:IntKind.i64.min = -9223372036854775808:=rfl
  have e2:IntKind.i64.max=9223372036854775807:=rfl
  simp[Lit.wf,e1,e2] at hwf3
  unfold i64
  omega
 have h4k:=h4
 obtain⟨x4,rfl,rfl,rfl,hwf4⟩:=open_int Tryz.underlying3 (hval 4 3 v4 rfl rfl) h4
 have b4:i64 x4:=by
  have e1:IntKind.i64.min = -9223372036854775808:=rfl
  have e2:IntKind.i64.max=9223372036854775807:=rfl
  simp[Lit.wf,e1,e2] at hwf4
  unfold i64
  omega
 clear hA0
 refine((GI x0 x1 x2 x3 x4 b0 b1 b2 b3 b4).callsG W [v0,.int .i64 x1,.int .i64 x2,.int .i64 x3,.int .i64 x4] (vars hL) (.cons e0 (.cons (.int _ _) (.cons (.int _ _) (.cons (.int _ _) (.cons (.int _ _) .nil)))))).mono ?_
 rintro e W' ⟨rfl,hk⟩
 refine⟨_,rfl,_,_,_,[],p0++([]++([]++([]++([]++[])))),[],hW', ?_, ?_, ?_,hk.frame _,fun h=>by cases h⟩
 ·exact trodAll_cons_mk (shut_bool Tryz.underlying4 _) trodAll_mk0
 ·exact trodAll_cons_mk (BK.trod laidOut (by kernel_rfl) (of_decide_eq_true (by kernel_rfl)) h0k hk) (trodAll_cons_mk (BK.trod laidOut (by kernel_rfl) (of_decide_eq_true (by kernel_rfl)) h1k hk) (trodAll_cons_mk (BK.trod laidOut (by kernel_rfl) (of_decide_eq_true (by kernel_rfl)) h2k hk) (trodAll_cons_mk (BK.trod laidOut (by kernel_rfl) (of_decide_eq_true (by kernel_rfl)) h3k hk) (trodAll_cons_mk (BK.trod laidOut (by kernel_rfl) (of_decide_eq_true (by kernel_rfl)) h4k hk) trodAll_mk0))))
 ·rfl
noncomputable def laidWorld(os:Os):World:=
 let w0:=World.holding Tryz.prog os ⟨#[],#[],[]⟩
 let put (h:Array Obj) (g:Nat) (cs:Array Value):Array Obj:=h.modify g fun
  | .cells _ t frozen=>.cells cs t frozen
  | o=>o
 let nums (d:DataW Unit):Array Value:=match d with
  | .agg ds=>(ds.map fun
   | .lit (.int k n)=>Value.int k n
   | _=>.bool false).toArray
  | _=>#[]
 let h1:=put w0.heap 0 (nums Rows.laid_internal_strconv_uint64pow10)
 let h2:=put h1 2 (nums Rows.laid_math_bits_deBruijn32tab)
 let h3:=put h2 3 (nums Rows.laid_math_bits_deBruijn64tab)
 { w0 with heap:=h3 }
theorem laid_met(os:Os)(args:Array Value):laidMet Tryz.prog Rows.filterValuesRow.laid ((laidWorld os).forCall (fun _ _=>0) ⟨#[],args,[]⟩).memory:=
 (LaidIn.of_run (l:=Rows.filterValuesRow.laid) [0,2,3] 8 (by kernel_rfl) (by kernel_rfl) (by kernel_rfl) (by kernel_rfl)).met
noncomputable abbrev wargs:Array Value:=#[.slice none 0 0,.int .i64 0,.int .i64 0,.int .i64 0,.int .i64 0]
theorem reads(os:Os){H:Type}(enc:TypeId × Value→H):∃places,DataW.whole enc Tryz.prog ((laidWorld os).forCall (fun _ _=>0) ⟨#[],wargs,[]⟩).memory Tryz.f3.params.toList Rows.filterValuesSpec.vars false wargs.toList 8=some ([.nil,.lit (.int .i64 0),.lit (.int .i64 0),.lit (.int .i64 0),.lit (.int .i64 0)],[],places):=
 ⟨[],by kernel_rfl⟩
set_option maxRecDepth 100000 in
theorem lifted(os:Os)(started:os.Started)(H:Type)(enc:TypeId × Value→H)(F:Stop.Interp) :
  ReturnsInHanded {} Tryz.checked os 3 .any ((OpenSpec.ofChange Rows.filterValuesSpec).preRow enc Tryz.prog Tryz.f3 Rows.filterValuesRow.domain false Rows.filterValuesRow.laid) (((OpenSpec.ofChange Rows.filterValuesSpec).at F).post enc Tryz.prog Tryz.f3 false true false false):=by
 obtain⟨places,hx⟩:=reads os enc
 refine returnsInHanded_of_row (C:=Tryz.checked) (s:=OpenSpec.ofChange Rows.filterValuesSpec) own started (by kernel_rfl) Tryz.func3
  (witness_row_atRef (enc:=enc) (C:=Tryz.checked) false (laidWorld os) wargs rfl (by kernel_rfl) (by kernel_rfl) (by kernel_rfl)
   (OpenSpec.preRow_of_cond 8 hx (by kernel_rfl) (fun k hk=>by cases hk) (by kernel_rfl) (laid_met os _))) ?_
 intro W base args ds gs before hval hW _ _ _ hL _ _
 exact contract H enc W base args ds gs before hval hW hL
theorem said:Rows.FilterValuesSaid:=
 OpenClaim.holds_of_cond 3 Tryz.f3 rfl rfl rfl rfl rfl rfl rfl ⟨rfl,rfl,rfl,rfl,rfl⟩ rfl rfl rfl rfl rfl (by as_aux_lemma=>kernel_rfl) Tryz.func3 (by unfold joinedFacts;simp only[Bool.and_eq_true];(repeat' apply And.intro);all_goals (as_aux_lemma=>kernel_rfl))
  (of_decide_eq_true (by as_aux_lemma=>kernel_rfl)) (by unfold Func.isWrapper;first|(rw[if_pos (by as_aux_lemma=>decide +kernel)];as_aux_lemma=>kernel_rfl)|(rw[if_neg (by as_aux_lemma=>decide +kernel)];exact⟨rfl,rfl⟩))
  (fun os started H enc _ F=>by rw[OpenClaim.pre_eq_preRow];exact lifted os started H enc F)
theorem plain(f:FuncId)(fn:Func)(hf:Tryz.pinned.checked.prog.funcNamed "refuter/refuterlaw17.FilterValues" = some f)(hfn:Tryz.pinned.checked.prog.funcs[f]? = some fn) :
  true=Tryz.pinned.checked.prog.looks []∧∀(j:Nat) t,fn.params[j]? = some t→Tryz.pinned.checked.prog.wantsStandIn t=false:=by
 obtain rfl:f=3:=Option.some.inj ((show Tryz.prog.funcNamed "refuter/refuterlaw17.FilterValues" = some 3 by kernel_rfl).symm.trans hf) |>.symm
 obtain rfl:fn=Tryz.f3:=(Option.some.inj (Tryz.func3.symm.trans hfn)).symm
 refine⟨by kernel_rfl,fun j t ht=>?_⟩
 rw[Tryz.params3] at ht
 have hTI:Tryz.prog.wantsStandIn 22=false:=by kernel_rfl
 have hTi:Tryz.prog.wantsStandIn 3=false:=by kernel_rfl
 have hm:=Array.mem_of_getElem? ht
 simp at hm
 repeat' (first|(rw[(hm:t=22)];exact hTI)|(rw[(hm:t=3)];exact hTi)|rcases hm with hm|hm)
theorem card:Rows.FilterValuesCardSaid:=
 Claim7.holds_tied_plain_at .later [] _ _ _ _ said (fun _ h=>by cases h) (by kernel_rfl) (fun _ h=>by cases h) filterValues_row_tie rfl ⟨rfl,rfl⟩ (by kernel_rfl) rfl plain (by kernel_rfl)
end Go.Proofs.YtpajadlnaokngaaGreatDoor.FilterValues
