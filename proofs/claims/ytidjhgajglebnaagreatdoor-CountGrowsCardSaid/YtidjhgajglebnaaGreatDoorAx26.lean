/- For every input (a slice of ints and three ints), refuterlaw15.CountGrows returns true, and its arguments read behind the call as they read before (the card CountGrowsCardSaid, the full form). Conditions: the package-level variables that the row lists hold, when the call begins, what the program's text lays (the card ties them to it); no bound on sizes. -/
import Derived.Test.YtidjhgajglebnaaGreatDoorAx25
import Derived.Test.YtidjhgajglebnaaGreatDoorCards
import Derived.Test.YtidjhgajglebnaaGreatDoorTie
import Derived.Lib.LaidIn
set_option linter.unusedVariables false
set_option linter.unusedSimpArgs false
namespace Go.Proofs.YtidjhgajglebnaaGreatDoor
open Go Go.Ax Go.Proofs Tryz
set_option maxRecDepth 100000
set_option maxHeartbeats 16000000
theorem IC(g:Nat){l:List Int}{i:Nat}(most:Int)(hi:i<=4611686018427387904)(hm:most<=4611686018427387904)(hp:1<=most){mem:aN}{nx:Nat}{K:AV->aN->Nat->Prop}(hg:lk mem g=some (gB l i))
  (hk:∀k:Int,0<=k->k<most->Cy g mem fun rest=>K (.int .i64 k) ((g,gB l (i+1))::rest) nx):aE prog gz 16 [.ptr g 0 0,.int .i64 most] mem nx K:=by
 refine aE.use1 gF (SE l i most hi hm).glob g hg (S8 l i) (.cons (.ptr g 0 0 0 (by simp[lk])) (.cons (.same _ (.int _ _)) .nil)) ?_;rintro r m n ⟨k,rfl,h1,h2,rfl⟩;exact⟨_,rfl,.int _ _,S8 l (i+1),hk k h1 (by omega)⟩
theorem R5(a b:Nat)(ha:a<=qZ 256)(hb:b<=qZ 256):∃(u:Bool) (l:List Nat) (e:Int),aZ prog [] 17 [fW a,fW b] (.tup [.agg [.bool u,.il 1 (bM l)],.int .i64 e])/\(a+b<=qZ 256->.agg [.bool u,.il 1 (bM l)]=fW ((a+b:Nat):Int)):=by
 have hA:=Pj (a:Int) (b:Int) (by have:=lU ha;omega) (by have:=lU hb;omega);obtain⟨u,l,e,h⟩:=yD ((a:Int)+(b:Int));rw[h] at hA;refine⟨u,l,e,hA,fun hs=>?_⟩;have hf:oG ((a:Int)+(b:Int))=true:=by have:=rR hs;rwa [VG] at this
 unfold Au at h;rw[T7 hf] at h;injection h with h;injection h with h _;rw[←h,VG]
theorem RY(a b:Nat)(ha:a<=qZ 256)(hb:b<=qZ 256):∃(u:Bool) (l:List Nat) (e:Int),aZ prog [] 18 [fW a,fW b] (.tup [.agg [.bool u,.il 1 (bM l)],.int .i64 e])/\(a*b<=qZ 256->.agg [.bool u,.il 1 (bM l)]=fW ((a*b:Nat):Int)):=by
 have hA:=Px (a:Int) (b:Int) (by have:=lU ha;omega) (by have:=lU hb;omega);obtain⟨u,l,e,h⟩:=yD ((a:Int)*(b:Int));rw[h] at hA;refine⟨u,l,e,hA,fun hs=>?_⟩;have hf:oG ((a:Int)*(b:Int))=true:=by have:=rR hs;rwa [Vf] at this
 unfold Au at h;rw[T7 hf] at h;injection h with h;injection h with h _;rw[←h,Vf]
theorem JC{A:List Nd}(h:sO A)(hp:0<A.length):∃(u:Bool) (l:AV),NN l/\aZ prog [] 9 [.agg [.il 12 (bD A)]] (.tup [.agg [.bool u,l],.int .i64 (dD A)])/\(dD A=0->.agg [.bool u,l]=fW ((cV.all A (A.length-1):Nat):Int)):=by
 by_cases e:dD A=0
 ·have hP:=RV (A:=A) ⟨h,e,hp⟩;rw[e];rw[cM] at hP;exact⟨_,_,tU _,hP,fun _=>by rw[cM]⟩
 ·exact⟨_,_,.nsl,PH (M7 h) e,fun h=>absurd h e⟩
theorem Dd(z:Int)(h:(dg 4294967296 z.natAbs).length<=1000000):aZ prog [] 20 [fW z,fW z] (.int .i64 0):=by
 have:=NK z z h h
 rwa [show Go.Ax.f0 z z=0 by simp[Go.Ax.f0]] at this
theorem PB(g:Int)(i k:Nat)(hg:i64 (1+g))(hi:i<=1000)(hk:k<=1000):S3 LB ⟨2,[],0,0,[1+g,7],[],[],[(i:Int),(k:Int)],Pp⟩:=by
 have z0:i64 0:=⟨by omega,by omega⟩
 refine⟨⟨⟨by simp only;omega,by simp only;omega⟩,by simp,z0,z0,by simp,fun w hw=>?_,by simp,by simp,by simp,by simp,by simp,fun w hw=>?_,⟨z0,z0,by simp,by simp,trivial⟩,by simp[Pp,aY,bO]⟩,by simp[Pp,aY,bO],by simp,by simp,by simp,by simp,by simp⟩
 ·simp only[T6,WS,or_false] at hw;rcases hw with rfl|rfl
  ·exact hg
  ·exact⟨by omega,by omega⟩
 ·simp only[T6,WS,or_false] at hw;rcases hw with rfl|rfl
  ·exact⟨by omega,by omega⟩
  ·exact⟨by omega,by omega⟩
theorem TE(i k:Nat)(hi:i<=1000)(hk:k<=1000):S3 LB ⟨3,[],0,0,[],[],[],[(i:Int),(k:Int)],Pp⟩:=by
 have z0:i64 0:=⟨by omega,by omega⟩
 refine⟨⟨⟨by simp only;omega,by simp only;omega⟩,by simp,z0,z0,by simp,by simp,by simp,by simp,by simp,by simp,by simp,fun w hw=>?_,⟨z0,z0,by simp,by simp,trivial⟩,by simp[Pp,aY,bO]⟩,by simp[Pp,aY,bO],by simp,by simp,by simp,by simp,by simp⟩;simp only[T6,WS,or_false] at hw;rcases hw with rfl|rfl
 ·exact⟨by omega,by omega⟩
 ·exact⟨by omega,by omega⟩
theorem rY(A:List Nd)(x:Nd):bD (A++[x])=bD A++[cN x]:=by simp[bD]
theorem IJ(l:List Int)(a b w:Int)(hl:∀x∈l,i64 x)(ha:i64 a)(hb:i64 b)(hw:i64 w)(hLv:aZ prog gz 15 [] (.bool true)) :
  aZ prog gz 4 [.il 1 (bG l),.int .i64 a,.int .i64 b,.int .i64 w] (.bool true):=by
 have nl:NN (.il 1 (bG l)):=.il' (a8 l);refine aG gF func4 rfl ?_;refine Rr ?_;refine R8 l hl fun A hA hAl=>?_
 have tA:sO A:=yW (LB:=LB) (fun s hs=>H0 hs) (fun x hx=>FC FO (zX hA x hx)) (by omega);have vA0:dD A=0:=by
  unfold dD;rw[T5 (by omega)];exact hA.valid
 have lA:=cO A;have nA:=aX A;have nT:=Cs A;refine Rt ?_;rw[lA];refine aD (fun h0=>?_) (fun h0=>?_)
 ·refine Rr ?_;refine hLv.use gF .nil nn ?_;refine Rr ?_;exact aA nn ⟨rfl,rfl,rfl⟩
 ·have hpos:0<A.length:=by
   have:¬((A.length:Nat):Int)=0:=by simpa using h0
   omega
  have vA:VT A:=⟨tA,vA0,hpos⟩
  have hN:=QS vA;have nX:=A2 A A.length;have lX:=Gm A A.length;have eX:∀j,j<A.length->(rE A A.length)[((j:Nat):Int).toNat]? = some (fW ((cV.all A j:Nat):Int)):=fun j hj=>by
   unfold rE;rw[T4,Uh,WB hj];simp[hj]
  obtain⟨X,hX⟩:∃X,X=rE A A.length:=⟨_,rfl⟩
  rw[←hX] at eX nX lX;refine Rt ?_;refine aE.goG0 hN ?_ (.cons nT .nil);rintro r m k ⟨rfl,rfl,rfl⟩;rw[←hX];refine⟨.tup [.il 2 X,.int .i64 0],.tup' (.cons (.fz' (id:=0) rfl rfl (by omega) (by rw[Ub];exact UB (by omega)) nX) (.s .nil)), ?_⟩;refine Rt ?_;rw[lX,lA,show (((A.length:Nat):Int) != ((A.length:Nat):Int))=false by simp];refine Rt ?_;rw[lA];refine Rr ?_;refine aE.pre gF [(2,2),(0,0)] (mem':=[(2,gB [a,b,w] 0),(0,.row 25 1 [.agg [.il 12 (bD A)]])]) rfl ⟨⟨2,_,rfl,rfl,.cons (.agg (.cons (Cv.fzR (id:=1) rfl rfl (.same (a8 [a,b,w])) rfl) (.s .nil))) .nil⟩,aK 0 (.cons nT .nil),trivial⟩ (jJ.cons (Cv.ptr 2 2 0 0 rfl) (jJ.cons (Cv.same _ nn) jJ.nil)) ?_;refine IC 2 A.length (by omega) (by omega) (by omega) rfl fun i hi0 hi1=>?_
  obtain⟨i,rfl⟩:=UH hi0;refine Rt ?_;repeat(rw[lA];refine Rt ?_)
  refine IC 2 A.length (by omega) (by omega) (by omega) rfl fun k hk0 hk1=>?_
  obtain⟨k,rfl⟩:=UH hk0;refine Rt ?_;repeat(rw[lA];refine Rt ?_)
  refine aM (bT rfl rfl rfl (by omega)) ?_;refine Rt ?_;repeat(rw[lA];refine Rt ?_)
  refine IC 2 1000 (by omega) (by omega) (by omega) rfl fun g hg0 hg1=>?_
  refine Rt ?_;repeat(rw[lA];refine Rt ?_)
  refine aM (bT rfl rfl (by simp[lA]) (by simp;omega)) ?_;rw[show IntKind.i64.wrap (1+g)=1+g from bE ⟨by omega,by omega⟩];refine Rt ?_;repeat(rw[lA];refine Rt ?_)
  refine aM (bT rfl rfl rfl (by omega)) ?_;refine Rt ?_;repeat(rw[lA];refine Rt ?_)
  refine aM (bT rfl rfl (by simp[lA]) (by simp;omega)) ?_;refine Rt ?_;repeat(rw[lA];refine Rt ?_)
  obtain⟨x1,hx1⟩:∃x1:Nd,x1=⟨2,[],0,0,[1+g,7],[],[],[(i:Int),(k:Int)],Pp⟩:=⟨_,rfl⟩
  obtain⟨x2,hx2⟩:∃x2:Nd,x2=⟨3,[],0,0,[],[],[],[(i:Int),(k:Int)],Pp⟩:=⟨_,rfl⟩
  have gw:i64 (1+g):=⟨by omega,by omega⟩
  have hiA:i<A.length:=by omega
  have hkA:k<A.length:=by omega
  have t1:sO (A++[x1]):=yW (LB:=LB) (fun s hs=>H0 hs) (fun x hx=>by
   rcases UI.1 hx with hx|hx
   ·exact FC FO (zX hA x hx)
   ·rw[VD.1 hx,hx1];exact PB g i k gw (by omega) (by omega)) (by simp;omega)
  have t2:sO (A++[x2]):=yW (LB:=LB) (fun s hs=>H0 hs) (fun x hx=>by
   rcases UI.1 hx with hx|hx
   ·exact FC FO (zX hA x hx)
   ·rw[VD.1 hx,hx2];exact TE i k (by omega) (by omega)) (by simp;omega)
  have hV1:=Cr _ (M7 t1);have hV2:=Cr _ (M7 t2);obtain⟨u1,l1,nl1,hP1,hE1⟩:=JC t1 (by simp);obtain⟨u2,l2,nl2,hP2,hE2⟩:=JC t2 (by simp);have nT1:=Cs (A++[x1]);have nT2:=Cs (A++[x2]);have hbn:=fun(j:Nat) (hj:j<A.length)=>UQ (lS vA j hj) (fQ (vA.lenS (b9 hj)).1)
  obtain⟨u3,l3,e3,hS,hES⟩:=R5 (cV.all A i) (cV.all A k) (hbn i hiA) (hbn k hkA);obtain⟨u4,l4,e4,hM,hEM⟩:=RY (cV.all A i) (cV.all A k) (hbn i hiA) (hbn k hkA);have eXi:=eX i hiA;have eXk:=eX k hkA;rw[cM] at eXi eXk;rw[cM,cM] at hS hM;have nzi:NN (.agg [.bool false,.il 1 (bM (dg 4294967296 (cV.all A i)))]):=.agg' (.cons (sW _) (.cons (tU _) .nil));have nzk:NN (.agg [.bool false,.il 1 (bM (dg 4294967296 (cV.all A k)))]):=.agg' (.cons (sW _) (.cons (tU _) .nil));have hq1:dD (A++[x1])=0->aZ prog [] 20 [.agg [.bool u1,l1],.agg [.bool u3,.il 1 (bM l3)]] (.int .i64 0):=fun e=>by
   have v1:VT (A++[x1]):=⟨t1,e,by simp⟩
   have hn:=IW vA v1 (by rw[hx1]) (by rw[hx1]) hiA hkA;have hb:=lS v1 A.length (by simp);have hl:=(v1.lenS (b9 (A:=A++[x1]) (i:=A.length) (by simp))).1;have hb':=UQ hb (fQ hl);rw[hn] at hb';have e1:=hE1 e;rw[show (A++[x1]).length-1=A.length by simp,hn] at e1;rw[e1,hES hb'];exact Dd _ (by have:=lU hb';omega)
  have hq2:dD (A++[x2])=0->aZ prog [] 20 [.agg [.bool u2,l2],.agg [.bool u4,.il 1 (bM l4)]] (.int .i64 0):=fun e=>by
   have v1:VT (A++[x2]):=⟨t2,e,by simp⟩
   have hn:=Ns vA v1 (by rw[hx2]) (by rw[hx2]) hiA hkA;have hb:=lS v1 A.length (by simp);have hl:=(v1.lenS (b9 (A:=A++[x2]) (i:=A.length) (by simp))).1;have hb':=UQ hb (fQ hl);rw[hn] at hb';have e1:=hE2 e;rw[show (A++[x2]).length-1=A.length by simp,hn] at e1;rw[e1,hEM hb'];exact Dd _ (by have:=lU hb';omega)
  have xP:NN (.agg [.bool u1,l1]):=.agg' (.cons (sW _) (.cons nl1 .nil));have nn2:NN (.agg [.bool u2,l2]):=.agg' (.cons (sW _) (.cons nl2 .nil));have nn3:NN (.agg [.bool u3,.il 1 (bM l3)]):=.agg' (.cons (sW _) (.cons (tU _) .nil));have nn4:NN (.agg [.bool u4,.il 1 (bM l4)]):=.agg' (.cons (sW _) (.cons (tU _) .nil));obtain⟨v1,hv1⟩:∃v1,v1=dD (A++[x1]):=⟨_,rfl⟩
  obtain⟨v2,hv2⟩:∃v2,v2=dD (A++[x2]):=⟨_,rfl⟩
  rw[←hv1] at hP1 hV1 hq1;rw[←hv2] at hP2 hV2 hq2;refine aE.pre gF [(9,9),(15,15)] (mem':=[(9,.row 25 1 [.agg [.il 12 (bD (A++[x1]))]]),(15,.row 25 1 [.agg [.il 12 (bD (A++[x2]))]])]) rfl ⟨⟨9,_,rfl,rfl,.cons (.agg (.cons (Cv.fzR (id:=8) (ys:=bD (A++[x1])) rfl rfl (by rw[rY];exact rI.snoc (xs:=bD A) (ys:=bD A) rfl (.same nA) (by rw[hx1];exact(.agg (.s (.s (.s (.s (.cons (Cv.fzR (id:=5) rfl rfl (.same (a8 [1+g,7])) rfl) (.cons (.nil 1) (.cons (.nil 4) (.cons (Cv.fzR (id:=6) rfl rfl (.same (a8 [(i:Int),(k:Int)])) rfl) (.s (.s (.s (.cons (.nil 4) .nil))))))))))))))) (by rw[cO];simp)) .nil)) .nil⟩,⟨15,_,rfl,rfl,.cons (.agg (.cons (Cv.fzR (id:=14) rfl rfl (by rw[rY];exact rI.snoc (xs:=bD A) (ys:=bD A) rfl (.same nA) (by rw[hx2];exact(.agg (.s (.s (.s (.s (.cons (.nil 1) (.cons (.nil 1) (.cons (.nil 4) (.cons (Cv.fzR (id:=12) rfl rfl (.same (a8 [(i:Int),(k:Int)])) rfl) (.s (.s (.s (.cons (.nil 4) .nil))))))))))))))) (by rw[cO];simp)) .nil)) .nil⟩,trivial⟩ (jJ.cons (Cv.agg' (jJ.cons (Cv.fzR (id:=8) (ys:=bD (A++[x1])) rfl rfl (by rw[rY];exact rI.snoc (xs:=bD A) (ys:=bD A) rfl (.same nA) (by rw[hx1];exact(.agg (.s (.s (.s (.s (.cons (Cv.fzR (id:=5) rfl rfl (.same (a8 [1+g,7])) rfl) (.cons (.nil 1) (.cons (.nil 4) (.cons (Cv.fzR (id:=6) rfl rfl (.same (a8 [(i:Int),(k:Int)])) rfl) (.s (.s (.s (.cons (.nil 4) .nil))))))))))))))) (by rw[cO];simp)) jJ.nil)) jJ.nil) ?_;refine hP1.goG ?_ (.cons nT1 .nil) (.tup' (.cons xP (.cons nn .nil)));refine Rt ?_;repeat(rw[lA];refine Rt ?_)
  refine hP2.goG ?_ (.cons nT2 .nil) (.tup' (.cons nn2 (.cons nn .nil)));refine Rt ?_;repeat((first|refine aC eXi ?_|refine aC eXk ?_);refine Rt ?_)
  refine hS.goG ?_ (.cons nzi (.cons nzk .nil)) (.tup' (.cons nn3 (.cons nn .nil)));refine Rt ?_;repeat((first|refine aC eXi ?_|refine aC eXk ?_);refine Rt ?_)
  refine hM.goG ?_ (.cons nzi (.cons nzk .nil)) (.tup' (.cons nn4 (.cons nn .nil)));refine Rt ?_;repeat((first|refine aC eXi ?_|refine aC eXk ?_);refine Rt ?_)
  refine hV1.goG ?_ (.cons nT1 .nil) nn;refine Rt ?_;repeat((first|refine aC eXi ?_|refine aC eXk ?_);refine Rt ?_)
  rw[show (v1 != v1)=false by simp];refine Rt ?_;repeat((first|refine aC eXi ?_|refine aC eXk ?_);refine Rt ?_)
  refine hV2.goG ?_ (.cons nT2 .nil) nn;refine Rt ?_;repeat((first|refine aC eXi ?_|refine aC eXk ?_);refine Rt ?_)
  rw[show (v2 != v2)=false by simp];refine Rt ?_;repeat((first|refine aC eXi ?_|refine aC eXk ?_);refine Rt ?_)
  by_cases c1:v1=0
  ·have b1:(v1 != 0)=false:=by simp[c1]
   rw[b1];refine Rt ?_;repeat((first|refine aC eXi ?_|refine aC eXk ?_);refine Rt ?_)
   refine(hq1 c1).goG ?_ (.cons xP (.cons nn3 .nil)) nn;refine Rt ?_;repeat((first|refine aC eXi ?_|refine aC eXk ?_);refine Rt ?_)
   by_cases c2:v2=0
   ·have b2:(v2 != 0)=false:=by simp[c2]
    rw[b2];refine Rt ?_;repeat((first|refine aC eXi ?_|refine aC eXk ?_);refine Rt ?_)
    refine(hq2 c2).goG ?_ (.cons nn2 (.cons nn4 .nil)) nn;refine Rt ?_;repeat((first|refine aC eXi ?_|refine aC eXk ?_);refine Rt ?_)
    refine hLv.use gF .nil nn ?_;refine Rt ?_;repeat((first|refine aC eXi ?_|refine aC eXk ?_);refine Rt ?_)
    exact aA nn ⟨rfl,rfl,rfl⟩
   ·have b2:(v2 != 0)=true:=by simp[c2]
    rw[b2];refine Rt ?_;repeat((first|refine aC eXi ?_|refine aC eXk ?_);refine Rt ?_)
    refine hLv.use gF .nil nn ?_;refine Rt ?_;repeat((first|refine aC eXi ?_|refine aC eXk ?_);refine Rt ?_)
    exact aA nn ⟨rfl,rfl,rfl⟩
  ·have b1:(v1 != 0)=true:=by simp[c1]
   rw[b1];refine Rt ?_;repeat((first|refine aC eXi ?_|refine aC eXk ?_);refine Rt ?_)
   by_cases c2:v2=0
   ·have b2:(v2 != 0)=false:=by simp[c2]
    rw[b2];refine Rt ?_;repeat((first|refine aC eXi ?_|refine aC eXk ?_);refine Rt ?_)
    refine(hq2 c2).goG ?_ (.cons nn2 (.cons nn4 .nil)) nn;refine Rt ?_;repeat((first|refine aC eXi ?_|refine aC eXk ?_);refine Rt ?_)
    refine hLv.use gF .nil nn ?_;refine Rt ?_;repeat((first|refine aC eXi ?_|refine aC eXk ?_);refine Rt ?_)
    exact aA nn ⟨rfl,rfl,rfl⟩
   ·have b2:(v2 != 0)=true:=by simp[c2]
    rw[b2];refine Rt ?_;repeat((first|refine aC eXi ?_|refine aC eXk ?_);refine Rt ?_)
    refine hLv.use gF .nil nn ?_;refine Rt ?_;repeat((first|refine aC eXi ?_|refine aC eXk ?_);refine Rt ?_)
    exact aA nn ⟨rfl,rfl,rfl⟩
def cG(n:Int):AV:=.il 1 [.int .u32 n]
def dK(a b:AV):AV:=.agg [.bool false,a,.bool false,b]
def MB:AV:=.agg [.il 12 [.agg [.int .i64 0,.str [],.int .i64 0,.int .i64 0,.nsl,.nsl,.nsl,.nsl,.int .i64 1,.int .i64 1,.str [],.nsl],.agg [.int .i64 1,.str [],.int .i64 0,.int .i64 2,.nsl,.nsl,.nsl,.nsl,.int .i64 0,.int .i64 0,.str [],.nsl],.agg [.int .i64 2,.str [],.int .i64 0,.int .i64 0,.il 1 [.int .i64 1,.int .i64 3],.nsl,.nsl,.il 1 [.int .i64 0,.int .i64 1],.int .i64 0,.int .i64 0,.str [],.nsl]]]
def i6:List Nat:=[163]
def jB:List Nat:=[49,9,22,50,51,11,52,96,98,206,207,172,19]
def i5(e:Nat × List AV × AV):Prop:=aZ prog gz e.1 e.2.1 e.2.2
theorem jL{e:Nat × List AV × AV}{t:List (Nat × List AV × AV)}(h:i5 e)(ht:fX prog gz t)(h1:zB (frz 30 [] []) e.2.1=some e.2.1:=by rfl)(h2:frz 30 [] [] e.2.2=some e.2.2:=by rfl):fX prog gz (e::t):=fX.cons h h1 h2 ht
set_option maxRecDepth 1000000
def Ps:Nat × List AV × AV:=(19,[MB],.int .i64 0)
theorem Jx:i5 Ps:=cU gF fX.nil i6 jB 80 rfl (by kernel_rfl)
def P0:Nat × List AV × AV:=(206,[.int .i64 1,.int .i64 1],.tup [(dK (cG 1) (cG 1)),.int .i64 0])
theorem Kt:i5 P0:=cU gF fX.nil i6 jB 80 rfl (by kernel_rfl)
def Pv:Nat × List AV × AV:=(206,[.int .i64 1,.int .i64 4],.tup [(dK (cG 1) (cG 4)),.int .i64 0])
theorem Jm:i5 Pv:=cU gF fX.nil i6 jB 80 rfl (by kernel_rfl)
def Pu:Nat × List AV × AV:=(206,[.int .i64 3,.int .i64 4],.tup [(dK (cG 3) (cG 4)),.int .i64 0])
theorem KA:i5 Pu:=cU gF fX.nil i6 jB 80 rfl (by kernel_rfl)
def Pk:Nat × List AV × AV:=(206,[.int .i64 1,.int .i64 3],.tup [(dK (cG 1) (cG 3)),.int .i64 0])
theorem Kk:i5 Pk:=cU gF fX.nil i6 jB 80 rfl (by kernel_rfl)
def PY:Nat × List AV × AV:=(11,[.agg [.bool false,(cG 4)]],.str [52])
theorem K4:i5 PY:=cU gF fX.nil i6 jB 80 rfl (by kernel_rfl)
def PZ:Nat × List AV × AV:=(11,[.agg [.bool false,(cG 1)]],.str [49])
theorem Jr:i5 PZ:=cU gF fX.nil i6 jB 80 rfl (by kernel_rfl)
def QG:Nat × List AV × AV:=(11,[.agg [.bool false,(cG 3)]],.str [51])
theorem K9:i5 QG:=cU gF fX.nil i6 jB 80 rfl (by kernel_rfl)
def Pa:Nat × List AV × AV:=(52,[(dK (cG 1) (cG 4))],.str [49,47,52])
theorem Ju:i5 Pa:=cU gF fX.nil i6 jB 80 rfl (by kernel_rfl)
def PW:Nat × List AV × AV:=(49,[],MB)
theorem KR:i5 PW:=cU gF fX.nil i6 jB 80 rfl (by kernel_rfl)
set_option maxRecDepth 1000000
def P1:Nat × List AV × AV:=(207,[(dK (cG 1) (cG 1)),(dK (cG 1) (cG 4))],.tup [(dK (cG 1) (cG 4)),.int .i64 0])
theorem Kh:i5 P1:=cU gF fX.nil i6 jB 80 rfl (by kernel_rfl)
def PV:Nat × List AV × AV:=(207,[(dK (cG 1) (cG 1)),(dK (cG 3) (cG 4))],.tup [(dK (cG 3) (cG 4)),.int .i64 0])
theorem J1:i5 PV:=cU gF fX.nil i6 jB 80 rfl (by kernel_rfl)
def Pg:Nat × List AV × AV:=(207,[(dK (cG 3) (cG 4)),(dK (cG 1) (cG 3))],.tup [(dK (cG 1) (cG 4)),.int .i64 0])
theorem KP:i5 Pg:=cU gF fX.nil i6 jB 80 rfl (by kernel_rfl)
def P6:Nat × List AV × AV:=(207,[(dK .nsl .nsl),(dK (cG 1) (cG 4))],.tup [(dK .nsl (cG 1)),.int .i64 0])
theorem Ji:i5 P6:=cU gF fX.nil i6 jB 80 rfl (by kernel_rfl)
def Pn:Nat × List AV × AV:=(207,[(dK .nsl (cG 1)),(dK (cG 1) (cG 1))],.tup [(dK .nsl (cG 1)),.int .i64 0])
theorem Je:i5 Pn:=cU gF fX.nil i6 jB 80 rfl (by kernel_rfl)
def Ph:Nat × List AV × AV:=(207,[(dK (cG 1) (cG 4)),(dK (cG 1) (cG 1))],.tup [(dK (cG 1) (cG 4)),.int .i64 0])
theorem KY:i5 Ph:=cU gF fX.nil i6 jB 80 rfl (by kernel_rfl)
set_option maxRecDepth 1000000
def PS:Nat × List AV × AV:=(207,[(dK .nsl .nsl),(dK (cG 3) (cG 4))],.tup [(dK .nsl (cG 1)),.int .i64 0])
theorem K1:i5 PS:=cU gF fX.nil i6 jB 80 rfl (by kernel_rfl)
def PX:Nat × List AV × AV:=(207,[(dK .nsl .nsl),(dK (cG 1) (cG 1))],.tup [(dK .nsl (cG 1)),.int .i64 0])
theorem Jz:i5 PX:=cU gF fX.nil i6 jB 80 rfl (by kernel_rfl)
def P3:Nat × List AV × AV:=(207,[(dK (cG 1) (cG 1)),(dK (cG 1) (cG 1))],.tup [(dK (cG 1) (cG 1)),.int .i64 0])
theorem Jw:i5 P3:=cU gF fX.nil i6 jB 80 rfl (by kernel_rfl)
def Pd:Nat × List AV × AV:=(207,[(dK .nsl (cG 1)),(dK .nsl (cG 1))],.tup [(dK .nsl (cG 1)),.int .i64 0])
theorem KJ:i5 Pd:=cU gF fX.nil i6 jB 80 rfl (by kernel_rfl)
def P9:Nat × List AV × AV:=(207,[(dK (cG 3) (cG 4)),(dK .nsl (cG 1))],.tup [(dK .nsl (cG 1)),.int .i64 0])
theorem J9:i5 P9:=cU gF fX.nil i6 jB 80 rfl (by kernel_rfl)
set_option maxRecDepth 1000000
def QC:Nat × List AV × AV:=(172,[(dK .nsl .nsl),(dK .nsl (cG 1))],.tup [(dK .nsl (cG 1)),.int .i64 0])
theorem K5:i5 QC:=cU gF fX.nil i6 jB 80 rfl (by kernel_rfl)
def Pl:Nat × List AV × AV:=(172,[(dK .nsl .nsl),(dK (cG 1) (cG 4))],.tup [(dK (cG 1) (cG 4)),.int .i64 0])
theorem KC:i5 Pl:=cU gF fX.nil i6 jB 80 rfl (by kernel_rfl)
def Pw:Nat × List AV × AV:=(172,[(dK .nsl .nsl),(dK (cG 3) (cG 4))],.tup [(dK (cG 3) (cG 4)),.int .i64 0])
theorem Kb:i5 Pw:=cU gF fX.nil i6 jB 80 rfl (by kernel_rfl)
def Pb:Nat × List AV × AV:=(172,[(dK .nsl .nsl),(dK (cG 1) (cG 1))],.tup [(dK (cG 1) (cG 1)),.int .i64 0])
theorem Kn:i5 Pb:=cU gF fX.nil i6 jB 80 rfl (by kernel_rfl)
set_option maxRecDepth 1000000
def QA:Nat × List AV × AV:=(172,[(dK .nsl (cG 1)),(dK .nsl (cG 1))],.tup [(dK .nsl (cG 1)),.int .i64 0])
theorem Kv:i5 QA:=cU gF fX.nil i6 jB 80 rfl (by kernel_rfl)
def Pm:Nat × List AV × AV:=(172,[(dK (cG 1) (cG 4)),(dK .nsl (cG 1))],.tup [(dK (cG 1) (cG 4)),.int .i64 0])
theorem K2:i5 Pm:=cU gF fX.nil i6 jB 80 rfl (by kernel_rfl)
def P8:Nat × List AV × AV:=(172,[(dK .nsl (cG 1)),(dK (cG 1) (cG 4))],.tup [(dK (cG 1) (cG 4)),.int .i64 0])
theorem LC:i5 P8:=cU gF fX.nil i6 jB 80 rfl (by kernel_rfl)
set_option maxRecDepth 1000000
def Lq:List (Nat × List AV × AV):=Ps::P0::Pv::Pu::Pk::PY::PZ::QG::Pa::PW::P1::PV::Pg::P6::Pn::Ph::PS::PX::P3::Pd::P9::QC::Pl::Pw::Pb::QA::Pm::P8::[]
theorem A4:fX prog gz Lq:=(jL Jx (jL Kt (jL Jm (jL KA (jL Kk (jL K4 (jL Jr (jL K9 (jL Ju (jL KR (jL Kh (jL J1 (jL KP (jL Ji (jL Je (jL KY (jL K1 (jL Jz (jL Jw (jL KJ (jL J9 (jL K5 (jL KC (jL Kb (jL Kn (jL Kv (jL K2 (jL LC fX.nil))))))))))))))))))))))))))))
def P7:Nat × List AV × AV:=(9,[MB],.tup [.agg [.bool false,(cG 4)],.int .i64 0])
theorem Kg:i5 P7:=cU gF A4 i6 jB 80 rfl (by kernel_rfl)
def P5:Nat × List AV × AV:=(22,[MB,.int .i64 3],.tup [.il 2 [.agg [.bool false,.il 1 []],.agg [.bool false,(cG 1)],.agg [.bool false,(cG 3)],.agg [.bool false,.nsl]],.int .i64 0])
theorem Jv:i5 P5:=cU gF A4 i6 jB 80 rfl (by kernel_rfl)
def PT:Nat × List AV × AV:=(51,[MB,.int .i64 1],.tup [(dK (cG 1) (cG 4)),.int .i64 0])
theorem LE:i5 PT:=cU gF A4 i6 jB 80 rfl (by kernel_rfl)
set_option maxRecDepth 1000000
def RS:List (Nat × List AV × AV):=P7::P5::PT::Lq
theorem Oh:fX prog gz RS:=(jL Kg (jL Jv (jL LE A4)))
def Rz:Nat × List AV × AV:=(15,[],.bool true)
theorem KU:i5 Rz:=cU gF Oh i6 jB 80 rfl (by kernel_rfl)
theorem Ot:aZ prog gz 15 [] (.bool true):=KU
theorem LD(l:List Int)(a b w:Int)(hl:∀x∈l,i64 x)(ha:i64 a)(hb:i64 b)(hw:i64 w):aZ prog gz 4 [.il 1 (bG l),.int .i64 a,.int .i64 b,.int .i64 w] (.bool true):=IJ l a b w hl ha hb hw Ot
end Go.Proofs.YtidjhgajglebnaaGreatDoor
namespace Go.Proofs.YtidjhgajglebnaaGreatDoor.CountGrows
open Go.ChangeShapes Go.WideShapes Go.ChangeAt Go.RowKit Go.Lib Go.Ax
theorem own:ownKnob Tryz.prog.godebug=none:=by kernel_rfl
theorem laidOut:laidOutB Tryz.prog=true:=by kernel_rfl
theorem cells3:Tryz.prog.cellsOf 3=1:=by kernel_rfl
theorem gNameP:Tryz.prog.globalNamed "internal/strconv.uint64pow10" = some 0:=by kernel_rfl
theorem gNameB:Tryz.prog.globalNamed "math/bits.deBruijn32tab" = some 2:=by kernel_rfl
theorem gNameC:Tryz.prog.globalNamed "math/bits.deBruijn64tab" = some 3:=by kernel_rfl
theorem gTypeP:(Tryz.prog.globals[0]?).map (·.type)=some 323:=by kernel_rfl
theorem gTypeB:(Tryz.prog.globals[2]?).map (·.type)=some 348:=by kernel_rfl
theorem gTypeC:(Tryz.prog.globals[3]?).map (·.type)=some 349:=by kernel_rfl
theorem cellsU:Tryz.prog.cellsOf 156=1:=by kernel_rfl
theorem cellsB:Tryz.prog.cellsOf 5=1:=by kernel_rfl
theorem cellsP:Tryz.prog.cellsOf 323=20:=by kernel_rfl
theorem cellsQ:Tryz.prog.cellsOf 348=32:=by kernel_rfl
theorem cellsR:Tryz.prog.cellsOf 349=64:=by kernel_rfl
def pows:List Int:=[1,10,100,1000,10000,100000,1000000,10000000,100000000,1000000000,10000000000,100000000000,1000000000000,10000000000000,100000000000000,1000000000000000,10000000000000000,100000000000000000,1000000000000000000,10000000000000000000]
def tabB:List Int:=[0,1,28,2,29,14,24,3,30,22,20,15,25,17,4,8,31,27,13,23,21,19,16,7,26,12,18,6,11,5,10,9]
def tabC:List Int:=[0,1,56,2,57,49,28,3,61,58,42,50,38,29,17,4,62,47,59,36,45,43,51,22,53,39,33,30,24,18,12,5,63,55,48,27,60,41,37,16,46,35,44,21,52,32,23,11,54,26,40,15,34,20,31,10,25,14,19,9,13,8,7,6]
theorem vars{W:World}(h:laidMetH Tryz.prog Rows.countGrowsRow.laid W):∀p∈gz,VR (fun _=>⟨0,0,0⟩) (fun _=>False) (OX (fun _=>False) (fun _=>⟨0,0,0⟩) []) W (.ip p.2) (.pointer (some ⟨p.1,0,none⟩)):=by
 have h:laidMet Tryz.prog Rows.countGrowsRow.laid W:=h
 have hP:=tabIs_of_head (k:=.u64) (zs:=pows) gNameP gTypeP Tryz.underlying323 Tryz.underlying156 cellsU cellsP h.tail.tail
 have hB:=tabIs_of_head (k:=.u8) (zs:=tabB) gNameB gTypeB Tryz.underlying348 Tryz.underlying5 cellsB cellsQ h
 have hC:=tabIs_of_head (k:=.u8) (zs:=tabC) gNameC gTypeC Tryz.underlying349 Tryz.underlying5 cellsB cellsR h.tail
 intro p hp
 simp only[gz,List.mem_cons,List.not_mem_nil,or_false] at hp
 rcases hp with rfl|rfl|rfl
 ·exact wB gNameP hP
 ·exact wB gNameB hB
 ·exact wB gNameC hC
set_option maxRecDepth 100000 in
theorem contract(H:Type)(enc:TypeId × Value→H)(W:World)(base:Nat)(args:Array Value)(ds gs:List (DataW H))(before:List MemPlace)
  (hval:∀(j:Nat) t v,Tryz.f4.params[j]? = some t→args[j]? = some v→Value.okWide Tryz.prog W .any base t v)
  (hW:DataW.Whole enc Tryz.prog Tryz.f4.params.toList Rows.countGrowsSpec.vars false W args.toList ds gs before) (hL:laidMetH Tryz.prog Rows.countGrowsRow.laid W) :
  Calls Tryz.prog 4 args W fun e W'=>∃v,e = .returned v∧Rows.countGrowsSpec.post enc Tryz.prog Tryz.f4 false true false false W args v W':=by
 have hW':=hW
 obtain⟨p,q,hA0,hV,rfl,hfz,hnd⟩:=hW
 have hA:DataW.TrodAll enc Tryz.prog W 0 (fun _=>true) true Tryz.f4.params.toList args.toList ds p:=hA0
 rw[Tryz.params4] at hA hval
 obtain⟨v0,vs0,d0,ds0,p0,q0,hargs,rfl,rfl,h0,r0⟩:=trodAll_cons hA
 obtain⟨v1,vs1,d1,ds1,p1,q1,rfl,rfl,rfl,h1,r1⟩:=trodAll_cons r0
 obtain⟨v2,vs2,d2,ds2,p2,q2,rfl,rfl,rfl,h2,r2⟩:=trodAll_cons r1
 obtain⟨v3,vs3,d3,ds3,p3,q3,rfl,rfl,rfl,h3,r3⟩:=trodAll_cons r2
 obtain⟨rfl,rfl,rfl⟩:=trodAll_nil r3
 obtain rfl:args = #[v0,v1,v2,v3]:=by cases args;simp_all
 obtain⟨rfl,rfl⟩:=trodVars_none hV
 have h0k:=h0
 obtain⟨x0,b0,e0⟩:=IE Tryz.underlying22 Tryz.underlying3 cells3 (hval 0 22 v0 rfl rfl) h0
 have h1k:=h1
 obtain⟨x1,rfl,rfl,rfl,hwf1⟩:=open_int Tryz.underlying3 (hval 1 3 v1 rfl rfl) h1
 have b1:i64 x1:=by
  have e1:IntKind.i64.min = -9223372036854775808:=rfl
  have e2:IntKind.i64.max=9223372036854775807:=rfl
  simp[Lit.wf,e1,e2] at hwf1
  unfold i64
  omega
 have h2k:=h2
 obtain⟨x2,rfl,rfl,rfl,hwf2⟩:=open_int Tryz.underlying3 (hval 2 3 v2 rfl rfl) h2
 have b2:i64 x2:=by
  have e1:IntKind.i64.min = -9223372036854775808:=rfl
  have e2:IntKind.i64.max=9223372036854775807:=rfl
  simp[Lit.wf,e1,e2] at hwf2
  unfold i64
  omega
 have h3k:=h3
 obtain⟨x3,rfl,rfl,rfl,hwf3⟩:=open_int Tryz.underlying3 (hval 3 3 v3 rfl rfl) h3
 have b3:i64 x3:=by
  have e1:IntKind.i64.min = -9223372036854775808:=rfl
  have e2:IntKind.i64.max=9223372036854775807:=rfl
  simp[Lit.wf,e1,e2] at hwf3
  unfold i64
  omega
 clear hA0
 refine((LD x0 x1 x2 x3 b0 b1 b2 b3).callsG W [v0,.int .i64 x1,.int .i64 x2,.int .i64 x3] (vars hL) (.cons e0 (.cons (.int _ _) (.cons (.int _ _) (.cons (.int _ _) .nil))))).mono ?_
 rintro e W' ⟨rfl,hk⟩
 refine⟨_,rfl,_,_,_,[],p0++([]++([]++([]++[]))),[],hW', ?_, ?_, ?_,hk.frame _,fun h=>by cases h⟩
 ·exact trodAll_cons_mk (shut_bool Tryz.underlying4 _) trodAll_mk0
 ·exact trodAll_cons_mk (DI.trod laidOut (by kernel_rfl) (of_decide_eq_true (by kernel_rfl)) h0k hk) (trodAll_cons_mk (DI.trod laidOut (by kernel_rfl) (of_decide_eq_true (by kernel_rfl)) h1k hk) (trodAll_cons_mk (DI.trod laidOut (by kernel_rfl) (of_decide_eq_true (by kernel_rfl)) h2k hk) (trodAll_cons_mk (DI.trod laidOut (by kernel_rfl) (of_decide_eq_true (by kernel_rfl)) h3k hk) trodAll_mk0)))
 ·rfl
noncomputable def laidWorld(os:Os):World:=
 let w0:=World.holding Tryz.prog os ⟨#[],#[],[]⟩
 let put (h:Array Obj) (g:Nat) (cs:Array Value):Array Obj:=h.modify g fun
  | .cells _ t frozen=>.cells cs t frozen
  | o=>o
 let nums (d:DataW Unit):Array Value:=match d with
  | .agg ds=>(ds.map fun
   | .lit (.int k n)=>Value.int k n
   | _=>.bool false).toArray
  | _=>#[]
 let h1:=put w0.heap 0 (nums Rows.laid_internal_strconv_uint64pow10)
 let h2:=put h1 2 (nums Rows.laid_math_bits_deBruijn32tab)
 let h3:=put h2 3 (nums Rows.laid_math_bits_deBruijn64tab)
 { w0 with heap:=h3 }
theorem laid_met(os:Os)(args:Array Value):laidMet Tryz.prog Rows.countGrowsRow.laid ((laidWorld os).forCall (fun _ _=>0) ⟨#[],args,[]⟩).memory:=
 (LaidIn.of_run (l:=Rows.countGrowsRow.laid) [0,2,3] 8 (by kernel_rfl) (by kernel_rfl) (by kernel_rfl) (by kernel_rfl)).met
noncomputable abbrev wargs:Array Value:=#[.slice none 0 0,.int .i64 0,.int .i64 0,.int .i64 0]
theorem reads(os:Os){H:Type}(enc:TypeId × Value→H):∃places,DataW.whole enc Tryz.prog ((laidWorld os).forCall (fun _ _=>0) ⟨#[],wargs,[]⟩).memory Tryz.f4.params.toList Rows.countGrowsSpec.vars false wargs.toList 8=some ([.nil,.lit (.int .i64 0),.lit (.int .i64 0),.lit (.int .i64 0)],[],places):=
 ⟨[],by kernel_rfl⟩
set_option maxRecDepth 100000 in
theorem lifted(os:Os)(started:os.Started)(H:Type)(enc:TypeId × Value→H)(F:Stop.Interp) :
  ReturnsInHanded {} Tryz.checked os 4 .any ((OpenSpec.ofChange Rows.countGrowsSpec).preRow enc Tryz.prog Tryz.f4 Rows.countGrowsRow.domain false Rows.countGrowsRow.laid) (((OpenSpec.ofChange Rows.countGrowsSpec).at F).post enc Tryz.prog Tryz.f4 false true false false):=by
 obtain⟨places,hx⟩:=reads os enc
 refine returnsInHanded_of_row (C:=Tryz.checked) (s:=OpenSpec.ofChange Rows.countGrowsSpec) own started (by kernel_rfl) Tryz.func4
  (witness_row_atRef (enc:=enc) (C:=Tryz.checked) false (laidWorld os) wargs rfl (by kernel_rfl) (by kernel_rfl) (by kernel_rfl)
   (OpenSpec.preRow_of_cond 8 hx (by kernel_rfl) (fun k hk=>by cases hk) (by kernel_rfl) (laid_met os _))) ?_
 intro W base args ds gs before hval hW _ _ _ hL _ _
 exact contract H enc W base args ds gs before hval hW hL
theorem said:Rows.CountGrowsSaid:=
 OpenClaim.holds_of_cond 4 Tryz.f4 rfl rfl rfl rfl rfl rfl rfl ⟨rfl,rfl,rfl,rfl,rfl⟩ rfl rfl rfl rfl rfl (by kernel_rfl) Tryz.func4 (by kernel_rfl)
  (of_decide_eq_true (by kernel_rfl)) (by unfold Func.isWrapper;first|(rw[if_pos (by decide +kernel)];kernel_rfl)|(rw[if_neg (by decide +kernel)];exact⟨rfl,rfl⟩))
  (fun os started H enc _ F=>by rw[OpenClaim.pre_eq_preRow];exact lifted os started H enc F)
theorem plain(f:FuncId)(fn:Func)(hf:Tryz.pinned.checked.prog.funcNamed "refuter/refuterlaw15.CountGrows" = some f)(hfn:Tryz.pinned.checked.prog.funcs[f]? = some fn) :
  true=Tryz.pinned.checked.prog.looks []∧∀(j:Nat) t,fn.params[j]? = some t→Tryz.pinned.checked.prog.wantsStandIn t=false:=by
 obtain rfl:f=4:=Option.some.inj ((show Tryz.prog.funcNamed "refuter/refuterlaw15.CountGrows" = some 4 by kernel_rfl).symm.trans hf) |>.symm
 obtain rfl:fn=Tryz.f4:=(Option.some.inj (Tryz.func4.symm.trans hfn)).symm
 refine⟨by kernel_rfl,fun j t ht=>?_⟩
 rw[Tryz.params4] at ht
 have hTI:Tryz.prog.wantsStandIn 22=false:=by kernel_rfl
 have hTi:Tryz.prog.wantsStandIn 3=false:=by kernel_rfl
 have hm:=Array.mem_of_getElem? ht
 simp at hm
 repeat' (first|(rw[(hm:t=22)];exact hTI)|(rw[(hm:t=3)];exact hTi)|rcases hm with hm|hm)
theorem card:Rows.CountGrowsCardSaid:=
 Claim7.holds_tied_plain_at .later [] _ _ _ _ said (fun _ h=>by cases h) (by kernel_rfl) (fun _ h=>by cases h) countGrows_row_tie rfl ⟨rfl,rfl⟩ (by kernel_rfl) rfl plain (by kernel_rfl)
end Go.Proofs.YtidjhgajglebnaaGreatDoor.CountGrows
