/- For every input (a slice of ints and an int), refuterlaw15.CountSizes returns true, and its arguments read behind the call as they read before (the card CountSizesCardSaid, the full form). Conditions: the package-level variables that the row lists hold, when the call begins, what the program's text lays (the card ties them to it); no bound on sizes. -/
import Derived.Test.YtidjhgajglebnaaGreatDoorAx22
import Derived.Test.YtidjhgajglebnaaGreatDoorProg
import Derived.Test.YtidjhgajglebnaaGreatDoorCards
import Derived.Test.YtidjhgajglebnaaGreatDoorTie
import Derived.Lib.LaidIn
set_option linter.unusedVariables false
set_option linter.unusedSimpArgs false
namespace Go.Proofs.YtidjhgajglebnaaGreatDoor
open Go Go.Ax Go.Proofs Tryz
set_option maxRecDepth 100000
set_option maxHeartbeats 16000000
def l8:List (List UInt8):=[[45,49],[48],[50],[48,50],[45,48],[97],[57,50,50,51,51,55,50,48,51,54,56,53,52,55,55,53,56,48,56],[]]
def LB:List (List UInt8):=[120]::(l8++Ag)
theorem WQ{s:List UInt8}(h:s∈LB):s.length<=19:=by
 simp only[LB,l8,Ag,aBc,aAZ,aAj,List.not_mem_nil,or_false] at h;rcases h with rfl|rfl|rfl|rfl|rfl|rfl|rfl|rfl|rfl|rfl|rfl|rfl|rfl<;>simp
set_option maxHeartbeats 16000000
theorem U2:∀s∈Ag,s∈LB:=fun s hs=>by unfold LB;exact aAo _ (aBp _ hs)
theorem YK(l:List Int)(hl:∀x∈l,i64 x){Γ:List (Nat × AV)}{mem:aP}{nx:Nat}{K:AV->aP->Nat->Prop}(hk:∀ns:List Nd,mF ns->ns.length<=14->K (.agg [.il 12 (bJ ns)]) mem nx):aH prog Γ 6 [.il 1 (bL l)] mem nx K:=by
 refine aH.goG0 (YX l hl) ?_;rintro r m n ⟨ns,hT,hlen,rfl,rfl,rfl⟩;exact⟨.agg [.il 12 (bJ ns)],.agg' (.cons (.fz' (id:=0) rfl rfl (by rw[dL];omega) (by rw[aAJ];exact aAk (by rw[dL];omega)) (aR _)) .nil),hk ns hT hlen⟩
set_option maxHeartbeats 8000000
set_option maxHeartbeats 16000000
theorem Q4(A:List Nd):NN (.agg [.il 12 (bJ A)]):=.agg' (.cons (.il' (aR _)) .nil)
set_option maxHeartbeats 16000000
theorem Z7(z:Int)(h1 : -3<z)(h2:z<3):∃n:Nat,n<=256/\aT prog gz 21 [.il 1 [.int .i64 3,.int .i64 9,.int .i64 256],.int .i64 z] (.int .i64 n):=by
 have hz:z = -2∨z = -1∨z=0∨z=1∨z=2:=om;rcases hz with rfl|rfl|rfl|rfl|rfl
 ·exact⟨0,om,cK eA fH.nil [] [] 80 rfl (by kernel_rfl)⟩
 ·exact⟨0,om,cK eA fH.nil [] [] 80 rfl (by kernel_rfl)⟩
 ·exact⟨3,om,cK eA fH.nil [] [] 80 rfl (by kernel_rfl)⟩
 ·exact⟨9,om,cK eA fH.nil [] [] 80 rfl (by kernel_rfl)⟩
 ·exact⟨256,om,cK eA fH.nil [] [] 80 rfl (by kernel_rfl)⟩
theorem RN{A:List Nd}(h:A=[]∨VT A)(z:Int)(hz:z<0∨z>256):aT prog [] 22 [.agg [.il 12 (bJ A)],.int .i64 z] (.tup [.nsl,.int .i64 1]):=by
 have hV:aT prog [] 19 [.agg [.il 12 (bJ A)]] (.int .i64 0):=by
  rcases h with rfl|h
  ·have:=Cc [] ⟨by simp,by simp,by simp,by simp,by simp⟩
   rwa [show gL []=0 from rfl] at this
  ·have:=Cc A (Wc h.tin)
   rwa [h.val] at this
 have nA:NN (.agg [.il 12 (bJ A)]):=.agg' (.cons (.il' (aR A)) .nil);refine aD bE func22 rfl ?_;by_cases h0:z<0
 ·have d1:decide (z<0)=true:=aAn h0;refine Rr ?_;refine hV.go ?_ (.cons nA .nil) nn;refine Rt ?_;rw[d1];refine Rt ?_;exact aA (.tup' (.cons .nsl (.cons nn .nil))) ⟨rfl,rfl,rfl⟩
 ·have d1:decide (z<0)=false:=aAw h0;have d2:decide (z>256)=true:=aAn om;refine Rr ?_;refine hV.go ?_ (.cons nA .nil) nn;refine Rt ?_;rw[d1];refine Rt ?_;rw[d2];refine Rt ?_;exact aA (.tup' (.cons .nsl (.cons nn .nil))) ⟨rfl,rfl,rfl⟩
theorem LY(l:List Int)(most:Int)(hl:∀x∈l,i64 x)(hm:i64 most)(hLv:aT prog gz 15 [] (.bool true)) :
  aT prog gz 5 [.il 1 (bL l),.int .i64 most] (.bool true):=by
 have nl:NN (.il 1 (bL l)):=.il' (bH l);refine aD eA func5 rfl ?_;refine Rr ?_;refine YK l hl fun A hA hAl=>?_
 have tA:E6 A:=N3 (LB:=LB) (fun s hs=>WQ hs) (fun x hx=>UV U2 (Ov hA x hx)) om;have vA:A=[]∨VT A:=by
  by_cases e:A=[]
  ·exact .inl e
  ·exact .inr ⟨tA,by unfold gL;rw[aAe om];exact hA.valid,aA5.2 e⟩
 obtain⟨n,hn,hP⟩:=Z7 (most.tmod 3) (Int.lt_tmod_of_pos most (by decide)) (aBP most (by decide));have nA:=Q4 A;refine Rt ?_;refine aH.pre eA [(0,0)] (mem':=[(0,.row 25 1 [.agg [.il 12 (bJ A)]])]) rfl ⟨aL 0 (.cons nA .nil),trivial⟩ (jB.cons (Cv.fzR (id:=1) rfl rfl (.same (.cons nn (.cons nn (.cons nn .nil)))) rfl) (jB.cons (Cv.same _ nn) jB.nil)) ?_;refine hP.use eA (.cons (.il' (.cons nn (.cons nn (.cons nn .nil)))) (.cons nn .nil)) nn ?_;refine Rt ?_;have hin:i64 (n:Int):=⟨om,om⟩
 obtain⟨Z,hZ⟩:∃Z:List Int,Z=[most,(n:Int),20]:=⟨_,rfl⟩
 have lZ:Z.length=3:=by rw[hZ];rfl
 have iZ:∀x∈Z,i64 x:=by
  rw[hZ];intro x hx;simp at hx;rcases hx with rfl|rfl|rfl
  ·exact hm
  ·exact hin
  ·exact⟨om,om⟩
 have eZ:bL Z=[.int .i64 most,.int .i64 n,.int .i64 20]:=by rw[hZ];rfl
 have nZ:=bH Z;have nT:NN (.il 1 (bL Z)):=.il' nZ;refine bA.at eA (fun i:Nat=>i<=3) (fun i=>⟨[(5,.ptr 0 0 0),(6,.il 1 (bL Z)),(7,.int .i64 i)],[(0,.row 25 1 [.agg [.il 12 (bJ A)]])],1,131⟩) (fun i=>3-i) 0 [(0,0)] om
  (aE _ rfl ⟨aL 0 (.cons nA .nil),trivial⟩ ⟨aF,⟨_,rfl,Cv.fzR (id:=2) rfl rfl (.eq nZ eZ.symm) (by rw[aK,lZ])⟩,aJ,trivial⟩) ?_
 intro i hi;have di:decide ((i:Int)<3)=decide (i<3):=aA2.2 om;by_cases hlt:i<3
 ·have hiZ:i<Z.length:=om;have e1:(bL Z)[((i:Nat):Int).toNat]? = some (.int .i64 Z[i]):=by simp[bP,aAa hiZ]
  have iz:=iZ _ (aAq hiZ);generalize Z[i]=z at *;refine Rr ?_;rw[di,aAn hlt];refine Rt ?_;repeat(refine aB e1 ?_;refine Rt ?_)
  by_cases hz:z<0∨z>256
  ·have hX:aT prog [] 22 [.agg [.il 12 (bJ A)],.int .i64 z] (.tup [.nsl,.int .i64 1]):=RN vA z hz;refine hX.goG ?_ (.cons nA (.cons nn .nil)) (.tup' (.cons .nsl (.cons nn .nil)));refine Rt ?_;repeat(refine aB e1 ?_;refine Rt ?_)
   by_cases hz0:z<0
   ·rw[aAn hz0];refine Rt ?_;repeat(refine aB e1 ?_;refine Rt ?_)
    exact .mk (i+1) [(0,0)] om (aE _ rfl ⟨aL 0 (.cons nA .nil),trivial⟩ ⟨aF,aM nT,⟨_,rfl,.w64 om ⟨om,om⟩⟩,trivial⟩) om
   ·rw[aAw hz0];refine Rt ?_;repeat(refine aB e1 ?_;refine Rt ?_)
    rw[aAn (show z>256 by omega)];refine Rt ?_;repeat(refine aB e1 ?_;refine Rt ?_)
    exact .mk (i+1) [(0,0)] om (aE _ rfl ⟨aL 0 (.cons nA .nil),trivial⟩ ⟨aF,aM nT,⟨_,rfl,.w64 om ⟨om,om⟩⟩,trivial⟩) om
  ·obtain⟨m,rfl⟩:∃m:Nat,z=(m:Int):=⟨z.toNat,om⟩
   have hmm:m<=256:=om;have hS:=TS vA m hmm;have hRS:=PB vA om m hmm;have hco:=fun(k:Nat) (hk:k<=m)=>US vA (mx:=m) hk
   have hsl:=Rh vA m;have d1:decide (((m:Nat):Int)<0)=false:=aAw om;have d2:decide (((m:Nat):Int)>256)=false:=aAw om;generalize MF A m=S at *;obtain⟨Y,hY⟩:∃Y,Y=(List.range (m+1)).map fun k=>eQ ((nR (Co A) k:Nat):Int):=⟨_,rfl⟩
   have lY:Y.length=m+1:=by rw[hY];simp
   have nY:kZ Y:=fun a ha=>by
    rw[hY] at ha;obtain⟨i,-,rfl⟩:=aAE.1 ha;obtain⟨u,v,e⟩:=f8 ((nR (Co A) i:Nat):Int);rw[e];exact gE _ _
   have eY:∀j,j<=m->Y[((j:Nat):Int).toNat]? = some (eQ ((nR (Co A) j:Nat):Int)):=fun j hj=>by
    rw[hY,aAc,aAK,aB6 om];rfl
   rw[←hY] at hRS;have nS:=cC S;have lS:=fP S;have eS:∀j,j<=m->(bZ S)[((j:Nat):Int).toNat]? = some (.agg [.bool false,.il 1 (bR (dg 4294967296 (nR (Co A) j)))]):=fun j hj=>by
    rw[jS om,(hco j hj).1]
   have hL:=fun(j:Nat) (hj:j<=m)=>Uf (nR (Co A) j) (hco j hj).2
   refine hS.goG ?_ (.cons nA (.cons nn .nil)) (.tup' (.cons (.il' nS) (.cons nn .nil)));refine Rt ?_;repeat(refine aB e1 ?_;refine Rt ?_)
   rw[d1];refine Rt ?_;repeat(refine aB e1 ?_;refine Rt ?_)
   rw[d2];refine Rt ?_;repeat(refine aB e1 ?_;refine Rt ?_)
   refine hRS.goG ?_ (.cons nA (.cons nn .nil)) (.il' nY);refine Rt ?_;repeat(refine aB e1 ?_;refine Rt ?_)
   rw[lS,lY,hsl,show (((m+1:Nat):Int) != ((m+1:Nat):Int))=false by simp];refine Rt ?_;repeat(refine aB e1 ?_;refine Rt ?_)
   refine bA.at eA (fun k:Nat=>k<=m+1) (fun k=>⟨[(5,.ptr 0 0 0),(6,.il 1 (bL Z)),(7,.int .i64 i),(8,.il 2 (bZ S)),(10,.il 2 Y),(11,.int .i64 k)],[(0,.row 25 1 [.agg [.il 12 (bJ A)]])],1,131⟩) (fun k=>m+1-k) 0 [(0,0)] om
    (aE _ rfl ⟨aL 0 (.cons nA .nil),trivial⟩ ⟨aF,aM nT,aJ,aM (.il' nS),aM (.il' nY),aJ,trivial⟩) ?_
   intro k hk;have dk:decide (((k:Nat):Int)<((m+1:Nat):Int))=decide (k<m+1):=aA2.2 om;by_cases hkm:k<m+1
   ·have ex:=eS k om;have ey:=eY k om;have hLk:=hL k om;obtain⟨u2,v2,er2⟩:=f8 ((nR (Co A) k:Nat):Int);rw[er2] at ey hLk;rw[dU] at hLk;have nzk:NN (.agg [.bool false,.il 1 (bR (dg 4294967296 (nR (Co A) k)))]):=.agg' (.cons (j9 _) (.cons (tU _) .nil));generalize bR (dg 4294967296 (nR (Co A) k))=zk at *;refine Rr ?_;rw[lY,dk,aAn hkm];refine Rt ?_;repeat((first|refine aB ex ?_|refine aB ey ?_);refine Rt ?_)
    refine hLk.use eA (.cons nzk (.cons (gE _ _) .nil)) nn ?_;refine Rt ?_;repeat((first|refine aB ex ?_|refine aB ey ?_);refine Rt ?_)
    exact .mk (k+1) [(0,0)] om (aE _ rfl ⟨aL 0 (.cons nA .nil),trivial⟩ ⟨aF,aM nT,aJ,aM (.il' nS),aM (.il' nY),⟨_,rfl,.w64 om ⟨om,om⟩⟩,trivial⟩) om
   ·refine Rr ?_;rw[lY,dk,aAw hkm];refine Rr ?_;exact .mk (i+1) [(0,0)] om (aE _ rfl ⟨aL 0 (.cons nA .nil),trivial⟩ ⟨aF,aM nT,⟨_,rfl,.w64 om ⟨om,om⟩⟩,trivial⟩) om
 ·refine Rr ?_;rw[di,aAw hlt];refine Rr ?_;rcases vA with rfl|vA
  ·refine Pn.goG ?_ (.cons nA .nil) (.tup' (.cons nn (.cons nn (.cons nn .nil))));refine Rt ?_;refine hLv.use eA .nil nn ?_;refine Rt ?_;exact aA nn ⟨rfl,rfl,rfl⟩
  ·obtain⟨a,b,h1,h2⟩:=RE vA om;have hp:=vA.pos;refine h1.goG ?_ (.cons nA .nil) (.tup' (.cons nn (.cons nn (.cons nn .nil))));refine Rt ?_;rw[dL,show (((A.length:Nat):Int) == 0)=false from beq_eq_false_iff_ne.2 om];refine Rt ?_;refine h2.goG ?_ (.cons nA .nil) (.tup' (.cons nn (.cons nn .nil)));refine Rt ?_;rw[show (a == a)=true by simp];refine Rt ?_;rw[show (b == b)=true by simp];refine Rt ?_;refine hLv.use eA .nil nn ?_;refine Rt ?_;exact aA nn ⟨rfl,rfl,rfl⟩
def dD(n:Int):AV:=.il 1 [.int .u32 n]
def eU(a b:AV):AV:=.agg [.bool false,a,.bool false,b]
def Rx:AV:=.agg [.il 12 [.agg [.int .i64 0,.str [],.int .i64 0,.int .i64 0,.nsl,.nsl,.nsl,.nsl,.int .i64 1,.int .i64 1,.str [],.nsl],.agg [.int .i64 1,.str [],.int .i64 0,.int .i64 2,.nsl,.nsl,.nsl,.nsl,.int .i64 0,.int .i64 0,.str [],.nsl],.agg [.int .i64 2,.str [],.int .i64 0,.int .i64 0,.il 1 [.int .i64 1,.int .i64 3],.nsl,.nsl,.il 1 [.int .i64 0,.int .i64 1],.int .i64 0,.int .i64 0,.str [],.nsl]]]
def lJ:List Nat:=[163]
def lI:List Nat:=[49,9,22,50,51,11,52,96,98,206,207,172,19]
def k6(e:Nat × List AV × AV):Prop:=aT prog gz e.1 e.2.1 e.2.2
theorem mE{e:Nat × List AV × AV}{t:List (Nat × List AV × AV)}(h:k6 e)(ht:fH prog gz t)(h1:CQ (frz 30 [] []) e.2.1=some e.2.1:=by rfl)(h2:frz 30 [] [] e.2.2=some e.2.2:=by rfl):fH prog gz (e::t):=fH.cons h h1 h2 ht
set_option maxRecDepth 1000000
def VP:Nat × List AV × AV:=(19,[Rx],.int .i64 0)
theorem OW:k6 VP:=cK eA fH.nil lJ lI 80 rfl (by kernel_rfl)
def VK:Nat × List AV × AV:=(206,[.int .i64 1,.int .i64 1],.tup [(eU (dD 1) (dD 1)),.int .i64 0])
theorem PX:k6 VK:=cK eA fH.nil lJ lI 80 rfl (by kernel_rfl)
def Vb:Nat × List AV × AV:=(206,[.int .i64 1,.int .i64 4],.tup [(eU (dD 1) (dD 4)),.int .i64 0])
theorem O0:k6 Vb:=cK eA fH.nil lJ lI 80 rfl (by kernel_rfl)
def Vi:Nat × List AV × AV:=(206,[.int .i64 3,.int .i64 4],.tup [(eU (dD 3) (dD 4)),.int .i64 0])
theorem O9:k6 Vi:=cK eA fH.nil lJ lI 80 rfl (by kernel_rfl)
def VG:Nat × List AV × AV:=(206,[.int .i64 1,.int .i64 3],.tup [(eU (dD 1) (dD 3)),.int .i64 0])
theorem O2:k6 VG:=cK eA fH.nil lJ lI 80 rfl (by kernel_rfl)
def Vd:Nat × List AV × AV:=(11,[.agg [.bool false,(dD 4)]],.str [52])
theorem Oa:k6 Vd:=cK eA fH.nil lJ lI 80 rfl (by kernel_rfl)
def VN:Nat × List AV × AV:=(11,[.agg [.bool false,(dD 1)]],.str [49])
theorem Oq:k6 VN:=cK eA fH.nil lJ lI 80 rfl (by kernel_rfl)
def Vl:Nat × List AV × AV:=(11,[.agg [.bool false,(dD 3)]],.str [51])
theorem OQ:k6 Vl:=cK eA fH.nil lJ lI 80 rfl (by kernel_rfl)
def Vm:Nat × List AV × AV:=(52,[(eU (dD 1) (dD 4))],.str [49,47,52])
theorem Pk:k6 Vm:=cK eA fH.nil lJ lI 80 rfl (by kernel_rfl)
def VF:Nat × List AV × AV:=(49,[],Rx)
theorem OR:k6 VF:=cK eA fH.nil lJ lI 80 rfl (by kernel_rfl)
set_option maxRecDepth 1000000
def U7:Nat × List AV × AV:=(207,[(eU (dD 1) (dD 1)),(eU (dD 1) (dD 4))],.tup [(eU (dD 1) (dD 4)),.int .i64 0])
theorem PE:k6 U7:=cK eA fH.nil lJ lI 80 rfl (by kernel_rfl)
def VL:Nat × List AV × AV:=(207,[(eU (dD 1) (dD 1)),(eU (dD 3) (dD 4))],.tup [(eU (dD 3) (dD 4)),.int .i64 0])
theorem OO:k6 VL:=cK eA fH.nil lJ lI 80 rfl (by kernel_rfl)
def Vu:Nat × List AV × AV:=(207,[(eU (dD 3) (dD 4)),(eU (dD 1) (dD 3))],.tup [(eU (dD 1) (dD 4)),.int .i64 0])
theorem Po:k6 Vu:=cK eA fH.nil lJ lI 80 rfl (by kernel_rfl)
def VC:Nat × List AV × AV:=(207,[(eU .nsl .nsl),(eU (dD 1) (dD 4))],.tup [(eU .nsl (dD 1)),.int .i64 0])
theorem O5:k6 VC:=cK eA fH.nil lJ lI 80 rfl (by kernel_rfl)
def VD:Nat × List AV × AV:=(207,[(eU .nsl (dD 1)),(eU (dD 1) (dD 1))],.tup [(eU .nsl (dD 1)),.int .i64 0])
theorem O6:k6 VD:=cK eA fH.nil lJ lI 80 rfl (by kernel_rfl)
def VQ:Nat × List AV × AV:=(207,[(eU (dD 1) (dD 4)),(eU (dD 1) (dD 1))],.tup [(eU (dD 1) (dD 4)),.int .i64 0])
theorem PU:k6 VQ:=cK eA fH.nil lJ lI 80 rfl (by kernel_rfl)
set_option maxRecDepth 1000000
def VZ:Nat × List AV × AV:=(207,[(eU .nsl .nsl),(eU (dD 3) (dD 4))],.tup [(eU .nsl (dD 1)),.int .i64 0])
theorem O3:k6 VZ:=cK eA fH.nil lJ lI 80 rfl (by kernel_rfl)
def VY:Nat × List AV × AV:=(207,[(eU .nsl .nsl),(eU (dD 1) (dD 1))],.tup [(eU .nsl (dD 1)),.int .i64 0])
theorem PA:k6 VY:=cK eA fH.nil lJ lI 80 rfl (by kernel_rfl)
def VA:Nat × List AV × AV:=(207,[(eU (dD 1) (dD 1)),(eU (dD 1) (dD 1))],.tup [(eU (dD 1) (dD 1)),.int .i64 0])
theorem OS:k6 VA:=cK eA fH.nil lJ lI 80 rfl (by kernel_rfl)
def Va:Nat × List AV × AV:=(207,[(eU .nsl (dD 1)),(eU .nsl (dD 1))],.tup [(eU .nsl (dD 1)),.int .i64 0])
theorem OK:k6 Va:=cK eA fH.nil lJ lI 80 rfl (by kernel_rfl)
def Vc:Nat × List AV × AV:=(207,[(eU (dD 3) (dD 4)),(eU .nsl (dD 1))],.tup [(eU .nsl (dD 1)),.int .i64 0])
theorem Ok:k6 Vc:=cK eA fH.nil lJ lI 80 rfl (by kernel_rfl)
set_option maxRecDepth 1000000
def VJ:Nat × List AV × AV:=(172,[(eU .nsl .nsl),(eU .nsl (dD 1))],.tup [(eU .nsl (dD 1)),.int .i64 0])
theorem Og:k6 VJ:=cK eA fH.nil lJ lI 80 rfl (by kernel_rfl)
def Ve:Nat × List AV × AV:=(172,[(eU .nsl .nsl),(eU (dD 1) (dD 4))],.tup [(eU (dD 1) (dD 4)),.int .i64 0])
theorem Oc:k6 Ve:=cK eA fH.nil lJ lI 80 rfl (by kernel_rfl)
def VU:Nat × List AV × AV:=(172,[(eU .nsl .nsl),(eU (dD 3) (dD 4))],.tup [(eU (dD 3) (dD 4)),.int .i64 0])
theorem ON:k6 VU:=cK eA fH.nil lJ lI 80 rfl (by kernel_rfl)
def Vr:Nat × List AV × AV:=(172,[(eU .nsl .nsl),(eU (dD 1) (dD 1))],.tup [(eU (dD 1) (dD 1)),.int .i64 0])
theorem Oe:k6 Vr:=cK eA fH.nil lJ lI 80 rfl (by kernel_rfl)
set_option maxRecDepth 1000000
def VE:Nat × List AV × AV:=(172,[(eU .nsl (dD 1)),(eU .nsl (dD 1))],.tup [(eU .nsl (dD 1)),.int .i64 0])
theorem PW:k6 VE:=cK eA fH.nil lJ lI 80 rfl (by kernel_rfl)
def U9:Nat × List AV × AV:=(172,[(eU (dD 1) (dD 4)),(eU .nsl (dD 1))],.tup [(eU (dD 1) (dD 4)),.int .i64 0])
theorem PT:k6 U9:=cK eA fH.nil lJ lI 80 rfl (by kernel_rfl)
def VW:Nat × List AV × AV:=(172,[(eU .nsl (dD 1)),(eU (dD 1) (dD 4))],.tup [(eU (dD 1) (dD 4)),.int .i64 0])
theorem PI:k6 VW:=cK eA fH.nil lJ lI 80 rfl (by kernel_rfl)
set_option maxRecDepth 1000000
def R1:List (Nat × List AV × AV):=VP::VK::Vb::Vi::VG::Vd::VN::Vl::Vm::VF::U7::VL::Vu::VC::VD::VQ::VZ::VY::VA::Va::Vc::VJ::Ve::VU::Vr::VE::U9::VW::[]
theorem D4:fH prog gz R1:=(mE OW (mE PX (mE O0 (mE O9 (mE O2 (mE Oa (mE Oq (mE OQ (mE Pk (mE OR (mE PE (mE OO (mE Po (mE O5 (mE O6 (mE PU (mE O3 (mE PA (mE OS (mE OK (mE Ok (mE Og (mE Oc (mE ON (mE Oe (mE PW (mE PT (mE PI fH.nil))))))))))))))))))))))))))))
def VO:Nat × List AV × AV:=(9,[Rx],.tup [.agg [.bool false,(dD 4)],.int .i64 0])
theorem OV:k6 VO:=cK eA D4 lJ lI 80 rfl (by kernel_rfl)
def Vt:Nat × List AV × AV:=(22,[Rx,.int .i64 3],.tup [.il 2 [.agg [.bool false,.il 1 []],.agg [.bool false,(dD 1)],.agg [.bool false,(dD 3)],.agg [.bool false,.nsl]],.int .i64 0])
theorem PP:k6 Vt:=cK eA D4 lJ lI 80 rfl (by kernel_rfl)
def Vv:Nat × List AV × AV:=(51,[Rx,.int .i64 1],.tup [(eU (dD 1) (dD 4)),.int .i64 0])
theorem N8:k6 Vv:=cK eA D4 lJ lI 80 rfl (by kernel_rfl)
set_option maxRecDepth 1000000
def WO:List (Nat × List AV × AV):=VO::Vt::Vv::R1
theorem UM:fH prog gz WO:=(mE OV (mE PP (mE N8 D4)))
def XU:Nat × List AV × AV:=(15,[],.bool true)
theorem N5:k6 XU:=cK eA UM lJ lI 80 rfl (by kernel_rfl)
theorem PH(l:List Int)(most:Int)(hl:∀x∈l,i64 x)(hm:i64 most):aT prog gz 5 [.il 1 (bL l),.int .i64 most] (.bool true):=LY l most hl hm N5
end Go.Proofs.YtidjhgajglebnaaGreatDoor
namespace Go.Proofs.YtidjhgajglebnaaGreatDoor.CountSizes
open Go.ChangeShapes Go.WideShapes Go.ChangeAt Go.RowKit Go.Lib Go.Ax
theorem own:ownKnob Tryz.prog.godebug=none:=by kernel_rfl
theorem laidOut:laidOutB Tryz.prog=true:=by kernel_rfl
theorem cells3:Tryz.prog.cellsOf 3=1:=by kernel_rfl
theorem gNameP:Tryz.prog.globalNamed "internal/strconv.uint64pow10" = some 0:=by kernel_rfl
theorem gNameB:Tryz.prog.globalNamed "math/bits.deBruijn32tab" = some 2:=by kernel_rfl
theorem gNameC:Tryz.prog.globalNamed "math/bits.deBruijn64tab" = some 3:=by kernel_rfl
theorem gTypeP:(Tryz.prog.globals[0]?).map (·.type)=some 323:=by kernel_rfl
theorem gTypeB:(Tryz.prog.globals[2]?).map (·.type)=some 348:=by kernel_rfl
theorem gTypeC:(Tryz.prog.globals[3]?).map (·.type)=some 349:=by kernel_rfl
theorem cellsU:Tryz.prog.cellsOf 156=1:=by kernel_rfl
theorem cellsB:Tryz.prog.cellsOf 5=1:=by kernel_rfl
theorem cellsP:Tryz.prog.cellsOf 323=20:=by kernel_rfl
theorem cellsQ:Tryz.prog.cellsOf 348=32:=by kernel_rfl
theorem cellsR:Tryz.prog.cellsOf 349=64:=by kernel_rfl
def pows:List Int:=[1,10,100,1000,10000,100000,1000000,10000000,100000000,1000000000,10000000000,100000000000,1000000000000,10000000000000,100000000000000,1000000000000000,10000000000000000,100000000000000000,1000000000000000000,10000000000000000000]
def tabB:List Int:=[0,1,28,2,29,14,24,3,30,22,20,15,25,17,4,8,31,27,13,23,21,19,16,7,26,12,18,6,11,5,10,9]
def tabC:List Int:=[0,1,56,2,57,49,28,3,61,58,42,50,38,29,17,4,62,47,59,36,45,43,51,22,53,39,33,30,24,18,12,5,63,55,48,27,60,41,37,16,46,35,44,21,52,32,23,11,54,26,40,15,34,20,31,10,25,14,19,9,13,8,7,6]
theorem vars{W:World}(h:laidMetH Tryz.prog Rows.countSizesRow.laid W):∀p∈gz,VR (fun _=>⟨0,0,0⟩) (fun _=>False) (OX (fun _=>False) (fun _=>⟨0,0,0⟩) []) W (.ip p.2) (.pointer (some ⟨p.1,0,none⟩)):=by
 have h:laidMet Tryz.prog Rows.countSizesRow.laid W:=h
 have hP:=tabIs_of_head (k:=.u64) (zs:=pows) gNameP gTypeP Tryz.underlying323 Tryz.underlying156 cellsU cellsP h.tail.tail
 have hB:=tabIs_of_head (k:=.u8) (zs:=tabB) gNameB gTypeB Tryz.underlying348 Tryz.underlying5 cellsB cellsQ h
 have hC:=tabIs_of_head (k:=.u8) (zs:=tabC) gNameC gTypeC Tryz.underlying349 Tryz.underlying5 cellsB cellsR h.tail
 intro p hp
 simp only[gz,List.mem_cons,List.not_mem_nil,or_false] at hp
 rcases hp with rfl|rfl|rfl
 ·exact Ak gNameP hP
 ·exact Ak gNameB hB
 ·exact Ak gNameC hC
set_option maxRecDepth 100000 in
theorem contract(H:Type)(enc:TypeId × Value→H)(W:World)(base:Nat)(args:Array Value)(ds gs:List (DataW H))(before:List MemPlace)
  (hval:∀(j:Nat) t v,Tryz.f5.params[j]? = some t→args[j]? = some v→Value.okWide Tryz.prog W .any base t v)
  (hW:DataW.Whole enc Tryz.prog Tryz.f5.params.toList Rows.countSizesSpec.vars false W args.toList ds gs before) (hL:laidMetH Tryz.prog Rows.countSizesRow.laid W) :
  Calls Tryz.prog 5 args W fun e W'=>∃v,e = .returned v∧Rows.countSizesSpec.post enc Tryz.prog Tryz.f5 false true false false W args v W':=by
 have hW':=hW
 obtain⟨p,q,hA0,hV,rfl,hfz,hnd⟩:=hW
 have hA:DataW.TrodAll enc Tryz.prog W 0 (fun _=>true) true Tryz.f5.params.toList args.toList ds p:=hA0
 rw[Tryz.params5] at hA hval
 obtain⟨v0,vs0,d0,ds0,p0,q0,hargs,rfl,rfl,h0,r0⟩:=trodAll_cons hA
 obtain⟨v1,vs1,d1,ds1,p1,q1,rfl,rfl,rfl,h1,r1⟩:=trodAll_cons r0
 obtain⟨rfl,rfl,rfl⟩:=trodAll_nil r1
 obtain rfl:args = #[v0,v1]:=by cases args;simp_all
 obtain⟨rfl,rfl⟩:=trodVars_none hV
 have h0k:=h0
 obtain⟨x0,b0,e0⟩:=Lx Tryz.underlying22 Tryz.underlying3 cells3 (hval 0 22 v0 rfl rfl) h0
 have h1k:=h1
 obtain⟨x1,rfl,rfl,rfl,hwf1⟩:=open_int Tryz.underlying3 (hval 1 3 v1 rfl rfl) h1
 have b1:i64 x1:=by
  have e1:IntKind.i64.min = -9223372036854775808:=rfl
  have e2:IntKind.i64.max=9223372036854775807:=rfl
  simp[Lit.wf,e1,e2] at hwf1
  unfold i64
  omega
 clear hA0
 refine((PH x0 x1 b0 b1).callsG W [v0,.int .i64 x1] (vars hL) (.cons e0 (.cons (.int _ _) .nil))).mono ?_
 rintro e W' ⟨rfl,hk⟩
 refine⟨_,rfl,_,_,_,[],p0++([]++[]),[],hW', ?_, ?_, ?_,hk.frame _,fun h=>by cases h⟩
 ·exact trodAll_cons_mk (shut_bool Tryz.underlying4 _) trodAll_mk0
 ·exact trodAll_cons_mk (JM.trod laidOut (by kernel_rfl) (of_decide_eq_true (by kernel_rfl)) h0k hk) (trodAll_cons_mk (JM.trod laidOut (by kernel_rfl) (of_decide_eq_true (by kernel_rfl)) h1k hk) trodAll_mk0)
 ·rfl
noncomputable def laidWorld(os:Os):World:=
 let w0:=World.holding Tryz.prog os ⟨#[],#[],[]⟩
 let put (h:Array Obj) (g:Nat) (cs:Array Value):Array Obj:=h.modify g fun
  | .cells _ t frozen=>.cells cs t frozen
  | o=>o
 let nums (d:DataW Unit):Array Value:=match d with
  | .agg ds=>(ds.map fun
   | .lit (.int k n)=>Value.int k n
   | _=>.bool false).toArray
  | _=>#[]
 let h1:=put w0.heap 0 (nums Rows.laid_internal_strconv_uint64pow10)
 let h2:=put h1 2 (nums Rows.laid_math_bits_deBruijn32tab)
 let h3:=put h2 3 (nums Rows.laid_math_bits_deBruijn64tab)
 { w0 with heap:=h3 }
theorem laid_met(os:Os)(args:Array Value):laidMet Tryz.prog Rows.countSizesRow.laid ((laidWorld os).forCall (fun _ _=>0) ⟨#[],args,[]⟩).memory:=
 (LaidIn.of_run (l:=Rows.countSizesRow.laid) [0,2,3] 8 (by kernel_rfl) (by kernel_rfl) (by kernel_rfl) (by kernel_rfl)).met
noncomputable abbrev wargs:Array Value:=#[.slice none 0 0,.int .i64 0]
theorem reads(os:Os){H:Type}(enc:TypeId × Value→H):∃places,DataW.whole enc Tryz.prog ((laidWorld os).forCall (fun _ _=>0) ⟨#[],wargs,[]⟩).memory Tryz.f5.params.toList Rows.countSizesSpec.vars false wargs.toList 8=some ([.nil,.lit (.int .i64 0)],[],places):=
 ⟨[],by kernel_rfl⟩
set_option maxRecDepth 100000 in
theorem lifted(os:Os)(started:os.Started)(H:Type)(enc:TypeId × Value→H)(F:Stop.Interp) :
  ReturnsInHanded {} Tryz.checked os 5 .any ((OpenSpec.ofChange Rows.countSizesSpec).preRow enc Tryz.prog Tryz.f5 Rows.countSizesRow.domain false Rows.countSizesRow.laid) (((OpenSpec.ofChange Rows.countSizesSpec).at F).post enc Tryz.prog Tryz.f5 false true false false):=by
 obtain⟨places,hx⟩:=reads os enc
 refine returnsInHanded_of_row (C:=Tryz.checked) (s:=OpenSpec.ofChange Rows.countSizesSpec) own started (by kernel_rfl) Tryz.func5
  (witness_row_atRef (enc:=enc) (C:=Tryz.checked) false (laidWorld os) wargs rfl (by kernel_rfl) (by kernel_rfl) (by kernel_rfl)
   (OpenSpec.preRow_of_cond 8 hx (by kernel_rfl) (fun k hk=>by cases hk) (by kernel_rfl) (laid_met os _))) ?_
 intro W base args ds gs before hval hW _ _ _ hL _ _
 exact contract H enc W base args ds gs before hval hW hL
theorem said:Rows.CountSizesSaid:=
 OpenClaim.holds_of_cond 5 Tryz.f5 rfl rfl rfl rfl rfl rfl rfl ⟨rfl,rfl,rfl,rfl,rfl⟩ rfl rfl rfl rfl rfl (by kernel_rfl) Tryz.func5 (by kernel_rfl)
  (of_decide_eq_true (by kernel_rfl)) (by unfold Func.isWrapper;first|(rw[if_pos (by decide +kernel)];kernel_rfl)|(rw[if_neg (by decide +kernel)];exact⟨rfl,rfl⟩))
  (fun os started H enc _ F=>by rw[OpenClaim.pre_eq_preRow];exact lifted os started H enc F)
theorem plain(f:FuncId)(fn:Func)(hf:Tryz.pinned.checked.prog.funcNamed "refuter/refuterlaw15.CountSizes" = some f)(hfn:Tryz.pinned.checked.prog.funcs[f]? = some fn) :
  true=Tryz.pinned.checked.prog.looks []∧∀(j:Nat) t,fn.params[j]? = some t→Tryz.pinned.checked.prog.wantsStandIn t=false:=by
 obtain rfl:f=5:=Option.some.inj ((show Tryz.prog.funcNamed "refuter/refuterlaw15.CountSizes" = some 5 by kernel_rfl).symm.trans hf) |>.symm
 obtain rfl:fn=Tryz.f5:=(Option.some.inj (Tryz.func5.symm.trans hfn)).symm
 refine⟨by kernel_rfl,fun j t ht=>?_⟩
 rw[Tryz.params5] at ht
 have hTI:Tryz.prog.wantsStandIn 22=false:=by kernel_rfl
 have hTi:Tryz.prog.wantsStandIn 3=false:=by kernel_rfl
 have hm:=Array.mem_of_getElem? ht
 simp at hm
 repeat' (first|(rw[(hm:t=22)];exact hTI)|(rw[(hm:t=3)];exact hTi)|rcases hm with hm|hm)
theorem card:Rows.CountSizesCardSaid:=
 Claim7.holds_tied_plain_at .later [] _ _ _ _ said (fun _ h=>by cases h) (by kernel_rfl) (fun _ h=>by cases h) countSizes_row_tie rfl ⟨rfl,rfl⟩ (by kernel_rfl) rfl plain (by kernel_rfl)
end Go.Proofs.YtidjhgajglebnaaGreatDoor.CountSizes
