/- A part of the proof. -/
import Derived.Test.YtidjhgajglebnaaGreatDoorAx25
set_option linter.unusedVariables false
set_option linter.unusedSimpArgs false
namespace Go.Proofs.YtidjhgajglebnaaGreatDoor
open Go Go.Ax Go.Proofs Tryz
set_option maxRecDepth 100000
set_option maxHeartbeats 16000000
theorem vU(A:List Nd):NN (.agg [.il 12 (bG A)]):=.agg' (.cons (.il' (aP _)) .nil)
def F8(A B:List Nd):List AV:=[.agg [.il 12 (bG A)],.agg [.il 12 (bG B)]]
theorem IV(A B:List Nd):kI (F8 A B):=.cons (vU A) (.cons (vU B) .nil)
theorem RH{A B:List Nd}{i:Nat}(hi:i<2)(hA:tX A/\A.length<=14)(hB:tX B/\B.length<=14):∃C,(tX C/\C.length<=14)/\(F8 A B)[((i:Nat):Int).toNat]? = some (.agg [.il 12 (bG C)]):=by
 match i,hi with
 | 0,_=>exact⟨A,hA,rfl⟩
 | 1,_=>exact⟨B,hB,rfl⟩
theorem Vc:aT prog gz 11 [.agg [.bool false,.nsl]] (.str [48]):=c7 dQ gA.nil [] [] 80 rfl (by kernel_rfl)
theorem PE:aT prog gz 9 [.agg [.il 12 []]] (.tup [.agg [.bool false,.nsl],.int .i64 0]):=c7 dQ gA.nil [] [] 80 rfl (by kernel_rfl)
theorem PF:aT prog gz 10 [.agg [.il 12 []]] (.tup [.il 2 [],.int .i64 0]):=c7 dQ gA.nil [] [] 80 rfl (by kernel_rfl)
theorem Vr:aT prog gz 13 [.agg [.bool false,.nsl],.agg [.bool false,.il 1 []]] (.bool true):=c7 dQ gA.nil [] [] 80 rfl (by kernel_rfl)
theorem WK:dW 0 = .agg [.bool false,.il 1 []]:=by rw[d7,show (0:Int).natAbs=0 from rfl,fV];rfl
theorem W2:aT prog gz 12 [.agg [.il 12 []]] (.nsl):=c7 dQ gA.nil [] [] 80 rfl (by kernel_rfl)
theorem LP(l:List Int)(at_ how n:Int)(hl:∀x∈l,i64 x)(ha:i64 at_)(hh:i64 how)(hn:i64 n)(hLv:aT prog gz 15 [] (.bool true)) :
  aT prog gz 3 [.il 1 (bH l),.int .i64 at_,.int .i64 how,.int .i64 n] (.bool true):=by
 have nl:NN (.il 1 (bH l)):=.il' (bE l);refine aD dQ func3 rfl ?_;refine Rr ?_;refine WS l hl fun A hA hAl=>?_
 have tA:tX A:=F0 (LB:=LB) (fun s hs=>Kz hs) (fun x hx=>Lp Mf (GW hA x hx)) (by omega);refine Rt ?_;refine aF.goG0 (RE A at_ how n (GW hA) hAl ha hh hn) ?_ (.cons (vU A) (.cons nn (.cons nn (.cons nn .nil))));rintro r mm k ⟨B,h1,h2,h3,rfl,rfl,rfl⟩;have tB:tX B:=F0 (LB:=LB) (fun s hs=>Kz hs) h1 (by omega);refine⟨_,.same _ (vU B), ?_⟩;refine Rt ?_;have nT:NN (.il 1 (F8 A B)):=.il' (IV A B);refine aZ.at dQ (fun i:Nat=>i<=2) (fun i=>⟨[(10,.il 1 (F8 A B)),(11,.int .i64 i)],[],0,108⟩) (fun i=>2-i) 0 [] (by omega)
  (bL ⟨⟨_,rfl,P5 (id:=7) rfl rfl rfl (IV A B)⟩,aK,trivial⟩) ?_
 intro i hi;have di:decide ((i:Int)<2)=decide (i<2):=Ze.2 (by omega);by_cases hlt:i<2
 ·obtain⟨C,⟨tC,lC⟩,eC⟩:=RH hlt ⟨tA,hAl⟩ ⟨tB,h2⟩;have nC:=vU C;have hV:=VM C (by omega) fun x hx=>⟨tC.ok x hx,by have:=tC.vlen x hx;omega⟩
  refine Rr ?_;rw[di,Y0 hlt];refine Rt ?_;repeat(refine aB eC ?_;refine Rt ?_)
  refine hV.goG ?_ (.cons nC .nil) nn;refine Rt ?_;repeat(refine aB eC ?_;refine Rt ?_)
  by_cases e0:dM C=0
  ·rw[e0];by_cases hC0:C=[]
   ·subst hC0;refine aT.use PE dQ (.cons (.agg' (.cons (.il' .nil) .nil)) .nil) (.tup' (.cons (.agg' (.cons (gH _) (.cons .nsl .nil))) (.cons nn .nil))) ?_;refine Rt ?_;repeat(refine aB eC ?_;refine Rt ?_)
    refine aT.use PF dQ (.cons (.agg' (.cons (.il' .nil) .nil)) .nil) (.tup' (.cons (.il' .nil) (.cons nn .nil))) ?_;refine Rt ?_;repeat(refine aB eC ?_;refine Rt ?_)
    refine aT.use W2 dQ (.cons (.agg' (.cons (.il' .nil) .nil)) .nil) .nsl ?_;refine Rt ?_;repeat(refine aB eC ?_;refine Rt ?_)
    have hRP0:=OA;rw[WK] at hRP0;refine hRP0.goG ?_ (.cons (.agg' (.cons (.il' .nil) .nil)) .nil) (.agg' (.cons (gH _) (.cons (.il' .nil) .nil)));refine Rt ?_;repeat(refine aB eC ?_;refine Rt ?_)
    refine aT.use Vr dQ (.cons (.agg' (.cons (gH _) (.cons .nsl .nil))) (.cons (.agg' (.cons (gH _) (.cons (.il' .nil) .nil))) .nil)) nn ?_;refine Rt ?_;repeat(refine aB eC ?_;refine Rt ?_)
    refine aZ.at dQ (fun k:Nat=>k<=0) (fun k=>⟨[(10,.il 1 (F8 A B)),(11,.int .i64 i),(15,.il 2 []),(18,.int .i64 k)],[],0,108⟩) (fun k=>0) 0 [] (by omega)
     (bL ⟨aN nT,aK,aN (.il' .nil),aK,trivial⟩) ?_
    intro k hk;have hk0:k=0:=by omega
    subst hk0;refine Rr ?_;exact .mk (i+1) [] (by omega) (bL ⟨aN nT,⟨_,rfl,.wo⟩,trivial⟩) (by omega)
   ·have vC:VT C:=⟨tC,e0,Zr.2 hC0⟩
    have hp:=vC.pos;have hP:=VD vC;have hN:=Uy vC;have hRN:=QA vC (by omega);have hRP:=On vC (by omega);have hb:=fun(j:Nat) (hj:j<C.length)=>Yw (pI vC j hj) (c8 (vC.lenS (bS hj)).1)
    have hL:=fun(j:Nat) (hj:j<C.length)=>R6 (cZ.all C j) (hb j hj)
    have hLP:=hL (C.length-1) (by omega);have eX:∀j,j<C.length->(uY C C.length)[((j:Nat):Int).toNat]? = some (kC ((cZ.all C j:Nat):Int)):=fun j hj=>by
     unfold uY;rw[Yl,ZO,aAF hj];simp[hj]
    have nX:=Co C C.length;have lX:=Ja C C.length;obtain⟨X,hX⟩:∃X,X=uY C C.length:=⟨_,rfl⟩
    rw[←hX] at eX nX lX;obtain⟨Y,hY⟩:∃Y,Y=(List.range C.length).map fun i=>dW ((cZ.all C i:Nat):Int):=⟨_,rfl⟩
    have eY:∀j,j<C.length->Y[((j:Nat):Int).toNat]? = some (dW ((cZ.all C j:Nat):Int)):=fun j hj=>by
     rw[hY,Yl,ZO,aAF hj];rfl
    have lY:Y.length=C.length:=by rw[hY];simp
    have nY:kI Y:=fun a ha=>by
     rw[hY] at ha;obtain⟨i,-,rfl⟩:=ZF.1 ha;obtain⟨u,v,e⟩:=eR ((cZ.all C i:Nat):Int);rw[e];exact fD _ _
    rw[←hY] at hRN;obtain⟨u,v,er⟩:=eR ((cZ.all C (C.length-1):Nat):Int);rw[er] at hRP hLP;rw[dF] at hP hLP;have nz:NN (.agg [.bool false,.il 1 (bX (dg 4294967296 (cZ.all C (C.length-1))))]):=.agg' (.cons (gH _) (.cons (tU _) .nil));generalize bX (dg 4294967296 (cZ.all C (C.length-1)))=z at *;refine hP.goG ?_ (.cons nC .nil) (.tup' (.cons nz (.cons nn .nil)));refine Rt ?_;repeat(refine aB eC ?_;refine Rt ?_)
    refine aF.goG0 hN ?_ (.cons nC .nil);rintro r m k ⟨rfl,rfl,rfl⟩;rw[←hX];refine⟨.tup [.il 2 X,.int .i64 0],.tup' (.cons (.fz' (id:=0) rfl rfl (by omega) (by rw[ZI];exact Yu (by omega)) nX) (.s .nil)), ?_⟩;refine Rt ?_;repeat(refine aB eC ?_;refine Rt ?_)
    refine hRN.goG ?_ (.cons nC .nil) (.il' nY);refine Rt ?_;repeat(refine aB eC ?_;refine Rt ?_)
    refine hRP.goG ?_ (.cons nC .nil) (fD _ _);refine Rt ?_;repeat(refine aB eC ?_;refine Rt ?_)
    refine hLP.use dQ (.cons nz (.cons (fD _ _) .nil)) nn ?_;refine Rt ?_;repeat(refine aB eC ?_;refine Rt ?_)
    rw[lX,lY,show (((C.length:Nat):Int) != ((C.length:Nat):Int))=false by simp];refine Rt ?_;repeat(refine aB eC ?_;refine Rt ?_)
    refine aZ.at dQ (fun k:Nat=>k<=C.length) (fun k=>⟨[(10,.il 1 (F8 A B)),(11,.int .i64 i),(15,.il 2 X),(17,.il 2 Y),(18,.int .i64 k)],[],0,108⟩) (fun k=>C.length-k) 0 [] (by omega)
     (bL ⟨aN nT,aK,aN (.il' nX),aN (.il' nY),aK,trivial⟩) ?_
    intro k hk;refine Rr ?_;rw[lX];refine aH (fun hbb=>?_) (fun hbb=>?_)
    ·have hkl:k<C.length:=by simpa using hbb
     have ex:=eX k hkl;have ey:=eY k hkl;have hLk:=hL k hkl;obtain⟨u2,v2,er2⟩:=eR ((cZ.all C k:Nat):Int);rw[er2] at ey hLk;rw[dF] at ex hLk;have nzk:NN (.agg [.bool false,.il 1 (bX (dg 4294967296 (cZ.all C k)))]):=.agg' (.cons (gH _) (.cons (tU _) .nil));generalize bX (dg 4294967296 (cZ.all C k))=zk at *;refine Rt ?_;repeat((first|refine aB ex ?_|refine aB ey ?_);refine Rt ?_)
     refine hLk.use dQ (.cons nzk (.cons (fD _ _) .nil)) nn ?_;refine Rt ?_;repeat((first|refine aB ex ?_|refine aB ey ?_);refine Rt ?_)
     exact .mk (k+1) [] (by omega) (bL ⟨aN nT,aK,aN (.il' nX),aN (.il' nY),⟨_,rfl,.wo⟩,trivial⟩) (by omega)
    ·refine Rr ?_;exact .mk (i+1) [] (by omega) (bL ⟨aN nT,⟨_,rfl,.wo⟩,trivial⟩) (by omega)
  ·have vi:=VZ tC;have hP:=Sl vi e0;have hN:=SC vi e0;have b1:(dM C != 0)=true:=by simpa using e0
   generalize dM C=v at *;refine hP.goG ?_ (.cons nC .nil) (.tup' (.cons (.agg' (.cons (gH _) (.cons .nsl .nil))) (.cons nn .nil)));refine Rt ?_;repeat(refine aB eC ?_;refine Rt ?_)
   refine hN.goG ?_ (.cons nC .nil) (.tup' (.cons .nsl (.cons nn .nil)));refine Rt ?_;repeat(refine aB eC ?_;refine Rt ?_)
   rw[show (v != v)=false by simp];refine Rt ?_;repeat(refine aB eC ?_;refine Rt ?_)
   rw[show (v != v)=false by simp];refine Rt ?_;repeat(refine aB eC ?_;refine Rt ?_)
   rw[b1];refine Rt ?_;repeat(refine aB eC ?_;refine Rt ?_)
   refine aT.use Vc dQ (.cons (.agg' (.cons (gH _) (.cons .nsl .nil))) .nil) nn ?_;refine Rt ?_;repeat(refine aB eC ?_;refine Rt ?_)
   exact .mk (i+1) [] (by omega) (bL ⟨aN nT,⟨_,rfl,.wo⟩,trivial⟩) (by omega)
 ·refine Rr ?_;rw[di,ZC hlt];refine Rr ?_;refine hLv.use dQ .nil nn ?_;refine Rr ?_;exact aA nn ⟨rfl,rfl,rfl⟩
end Go.Proofs.YtidjhgajglebnaaGreatDoor
namespace Go.Ax
open Go
end Go.Ax
