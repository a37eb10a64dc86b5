/- A part of the proof. -/
import Derived.Test.YtpajadlnaokngaaGreatDoorAx13
import Derived.Test.YtpajadlnaokngaaGreatDoorProg
set_option linter.unusedVariables false
set_option linter.unusedSimpArgs false
set_option linter.unusedSectionVars false
namespace Go.Proofs.YtpajadlnaokngaaGreatDoor
open Go Go.Ax Go.Proofs Tryz
set_option maxRecDepth 100000
set_option maxHeartbeats 16000000
end Go.Proofs.YtpajadlnaokngaaGreatDoor
namespace Go.Proofs.YtpajadlnaokngaaGreatDoor
open Go Go.Ax Go.Proofs Tryz
set_option maxRecDepth 100000
set_option maxHeartbeats 4000000
def cI(n:Nat):AB:=.row 3 1 [.int .i64 n]
def cB(b:Bool):AB:=.row 4 1 [.bool b]
def cF(f:AV):AB:=.row 245 1 [f]
section
variable {mem:aK} {σ:List (Nat × Nat)}
theorem CM{F:FuncId}{i:Nat}(h:lk σ i=some i):pX mem σ [.fn (.func F) [] [.ptr i 0 0]] [.fn (.func F) [] [.ptr i 0 0]]:=
 .cons (.one rfl rfl (.fn _ _ _ _ _ rfl rfl (by simp) (kZ.cons (.ptr i i 0 0 h) .nil).2)) .nil
theorem nO{F:FuncId}{i j:Nat}(h:lk σ i=some i)(h':lk σ j=some j):pX mem σ [.fn (.func F) [] [.ptr i 0 0,.ptr j 0 0]] [.fn (.func F) [] [.ptr i 0 0,.ptr j 0 0]]:=
 .cons (.one rfl rfl (.fn _ _ _ _ _ rfl rfl (by simp) (kZ.cons (.ptr i i 0 0 h) (.cons (.ptr j j 0 0 h') .nil)).2)) .nil
theorem v8{F:FuncId}{i j k:Nat}(h:lk σ i=some i)(h':lk σ j=some j)(h'':lk σ k=some k):pX mem σ [.fn (.func F) [] [.ptr i 0 0,.ptr j 0 0,.ptr k 0 0]] [.fn (.func F) [] [.ptr i 0 0,.ptr j 0 0,.ptr k 0 0]]:=
 .cons (.one rfl rfl (.fn _ _ _ _ _ rfl rfl (by simp) (kZ.cons (.ptr i i 0 0 h) (.cons (.ptr j j 0 0 h') (.cons (.ptr k k 0 0 h'') .nil))).2)) .nil
end
def Ki(n:Nat):aK:=[(0,cI n),(1,cF (.fn (.func 166) [] [.ptr 0 0 0])),(2,cF (.fn (.func 228) [] [.ptr 1 0 0,.ptr 2 0 0]))]
theorem Eu(g:Nat->Nat->Nat)(hg:∀n d,g n d<=max (n+1) d)
  (hsee:∀(v:aT) (d n:Nat),d<=1099511627776->n<=4398046511104->aF prog [] 166 [cD v,.int .i64 d,.ptr 0 0 0] [(0,cI n)] 1 fun r m _=>r = .bool true/\m=[(0,cI (g n d))]) :
  ∀(v:aT) (d n:Nat),d+fE v<=1099511627776->max n (d+fE v)+aU v<=4398046511104 ->
   aF prog [] 228 [cD v,.int .i64 d,.ptr 1 0 0,.ptr 2 0 0] (Ki n) 3 fun r m _=>r = .bool true/\m=Ki (tA g v d n)
 | .mk vk vn vs ks,d,n,hd,hb=>by
  have ih:∀a∈ks,∀(d n:Nat),d+fE a<=1099511627776->max n (d+fE a)+aU a<=4398046511104->aF prog [] 228 [cD a,.int .i64 d,.ptr 1 0 0,.ptr 2 0 0] (Ki n) 3 fun r m _=>r = .bool true/\m=Ki (tA g a d n):=
   fun a hm d n h1 h2=>Eu g hg hsee a d n h1 h2
  simp only[fE,aU] at hd hb;have hlen:=tR ks;have hgn:=hg n d;refine aN bI func228 rfl ?_;refine Rr ?_;refine aF.useI bI [0] (hsee (.mk vk vn vs ks) d n om om) (by rfl) (.s (.s (.cons (.ptr 0 0 0 0 rfl) .nil))) ⟨aI 0 cG,trivial⟩ rfl ?_;rintro r m n' ⟨rfl,rfl⟩;refine⟨nn,⟨aI 0 cG,trivial⟩,rfl, ?_⟩;refine Rr ?_;refine a6.at bI (fun k:Nat=>k<=ks.length)
   (fun k=>⟨[(1,.int .i64 d),(3,.ptr 2 0 0),(15,.il 4 (aO ks)),(16,.int .i64 (aO ks).length),(17,.int .i64 k)],Ki (oM g (ks.take k) (d+1) (g n d)),3,28⟩)
   (fun k=>ks.length-k) 0 [(0,0),(1,1),(2,2)] (by simp)
   (aH _ rfl ⟨aI 0 cG,⟨1,_,rfl,rfl,CM rfl⟩,⟨2,_,rfl,rfl,nO rfl rfl⟩,trivial⟩ ⟨aG,aL,aG,aG,aG,trivial⟩) ?_
  intro k hk;have hrl:=BD hg (ks.take k) (d+1) (g n d);refine Rr ?_;refine aE (fun h=>?_) (fun h=>?_)
  ·have hlt:=Cj h;obtain⟨a,b,c,e,hm,hg',he,e1⟩:=bK hlt;have hst:=rH hlt;have hdt:=BH hlt;rw[he] at hst hdt;have hst':=lS ks (k+1);have hdm:=qX hm;have hdk:dO (ks.take k)<=dO ks:=vY ks k;have hrt:=GC g hlt (d+1) (g n d);rw[he] at hrt;refine Rr ?_;refine aD e1 ?_;refine Rr ?_;rw[w64 (x:=(d:Int)+1) (y:=((d+1:Nat):Int)) om ⟨om,om⟩];refine aF.useI bI [0,1,2] (ih _ hm (d+1) (oM g (ks.take k) (d+1) (g n d)) om om) (by rfl) (.s (.s (.cons (.ptr 1 1 0 0 rfl) (.cons (.ptr 2 2 0 0 rfl) .nil))))
    ⟨aI 0 cG,⟨1,_,rfl,rfl,CM rfl⟩,⟨2,_,rfl,rfl,nO rfl rfl⟩,trivial⟩ rfl ?_
   rintro r m n' ⟨rfl,rfl⟩;refine⟨nn,⟨aI 0 cG,⟨1,_,rfl,rfl,CM rfl⟩,⟨2,_,rfl,rfl,nO rfl rfl⟩,trivial⟩,rfl, ?_⟩;rw[←hrt];refine Rr ?_;exact .mk (k+1) [(0,0),(1,1),(2,2)] om
    (aH _ rfl ⟨aI 0 cG,⟨1,_,rfl,rfl,CM rfl⟩,⟨2,_,rfl,rfl,nO rfl rfl⟩,trivial⟩ ⟨aG,aL,aG,aG,⟨_,rfl,.w64 om ⟨om,om⟩⟩,trivial⟩) om
  ·have hk':k=ks.length:=by have:=Ct h;omega
   refine Rr ?_;refine cA (n':=3) (m':=Ki (oM g (ks.take k) (d+1) (g n d))) [(0,0),(1,1),(2,2)] rfl ⟨aI 0 cG,⟨1,_,rfl,rfl,CM rfl⟩,⟨2,_,rfl,rfl,nO rfl rfl⟩,trivial⟩ (.same _ nn) ⟨rfl, ?_⟩;rw[hk',M2,tA]
 termination_by v=>SizeOf.sizeOf v
 decreasing_by simp;have:=Nm hm;omega
end Go.Proofs.YtpajadlnaokngaaGreatDoor
namespace Go.Proofs.YtpajadlnaokngaaGreatDoor
open Go Go.Ax Go.Proofs Tryz
set_option maxRecDepth 100000
set_option maxHeartbeats 4000000
section
variable {mem:aK} {σ:List (Nat × Nat)}
theorem KZ{F:FuncId}{i i':Nat}(h:lk σ i=some i'):pX mem σ [.fn (.func F) [] [.ptr i 0 0]] [.fn (.func F) [] [.ptr i' 0 0]]:=
 .cons (.one rfl rfl (.fn _ _ _ _ _ rfl rfl (by simp) (kZ.cons (.ptr i i' 0 0 h) .nil).2)) .nil
theorem Gg{F:FuncId}{i j i' j':Nat}(h:lk σ i=some i')(h':lk σ j=some j'):pX mem σ [.fn (.func F) [] [.ptr i 0 0,.ptr j 0 0]] [.fn (.func F) [] [.ptr i' 0 0,.ptr j' 0 0]]:=
 .cons (.one rfl rfl (.fn _ _ _ _ _ rfl rfl (by simp) (kZ.cons (.ptr i i' 0 0 h) (.cons (.ptr j j' 0 0 h') .nil)).2)) .nil
theorem Ka{F:FuncId}{i j k i' j' k':Nat}(h:lk σ i=some i')(h':lk σ j=some j')(h'':lk σ k=some k'):pX mem σ [.fn (.func F) [] [.ptr i 0 0,.ptr j 0 0,.ptr k 0 0]] [.fn (.func F) [] [.ptr i' 0 0,.ptr j' 0 0,.ptr k' 0 0]]:=
 .cons (.one rfl rfl (.fn _ _ _ _ _ rfl rfl (by simp) (kZ.cons (.ptr i i' 0 0 h) (.cons (.ptr j j' 0 0 h') (.cons (.ptr k k' 0 0 h'') .nil))).2)) .nil
theorem L2{F:FuncId}{i i':Nat}(h:lk σ i=some i'):Cv mem σ (.fn (.func F) [] [.ptr i 0 0]) (.fn (.func F) [] [.ptr i' 0 0]):=
 .fn _ _ _ _ _ rfl rfl (by simp) (kZ.cons (.ptr i i' 0 0 h) .nil).2
theorem ME{F:FuncId}{i j k i' j' k':Nat}(h:lk σ i=some i')(h':lk σ j=some j')(h'':lk σ k=some k'):Cv mem σ (.fn (.func F) [] [.ptr i 0 0,.ptr j 0 0,.ptr k 0 0]) (.fn (.func F) [] [.ptr i' 0 0,.ptr j' 0 0,.ptr k' 0 0]):=
 .fn _ _ _ _ _ rfl rfl (by simp) (kZ.cons (.ptr i i' 0 0 h) (.cons (.ptr j j' 0 0 h') (.cons (.ptr k k' 0 0 h'') .nil))).2
end
theorem L3:∀(v:aT) (d n:Nat),d<=1099511627776->n<=4398046511104->aF prog [] 166 [cD v,.int .i64 d,.ptr 0 0 0] [(0,cI n)] 1 fun r m _=>r = .bool true/\m=[(0,cI (n+1))]
 | .mk vk vn vs ks,d,n,hd,hn=>by
  refine aN bI func166 rfl ?_;refine Rr ?_;exact cA (n':=1) (m':=[(0,cI (n+1))]) [(0,0)] rfl ⟨⟨0,_,rfl,rfl,.cons (.one rfl rfl (.w64 om ⟨om,om⟩)) .nil⟩,trivial⟩ (.same _ nn) ⟨rfl,rfl⟩
theorem JH:∀(v:aT) (n:Nat),1+fE v<=1099511627776->max n (1+fE v)+aU v<=4398046511104 ->
   aF prog [] 162 [cD v,.fn (.func 166) [] [.ptr 0 0 0]] [(0,cI n)] 1 fun r m _=>r = .tup []/\m=[(0,cI (tA (fun n _=>n+1) v 1 n))]
 | .mk vk vn vs ks,n,hd,hb=>by
  have hw:=Eu (fun n _=>n+1) (fun n d=>om) L3 (.mk vk vn vs ks) 1 n hd hb;generalize tA (fun n _=>n+1) (.mk vk vn vs ks) 1 n=res at hw;refine aN bI func162 rfl ?_;refine Rr ?_;refine aF.useR bI [(0,0),(2,1),(3,2)] hw (by rfl) (.s (.cons (.int rfl) (.cons (.ptr 2 1 0 0 rfl) (.cons (.ptr 3 2 0 0 rfl) .nil))))
   ⟨aI 0 cG,⟨2,_,rfl,rfl,KZ rfl⟩,⟨3,_,rfl,rfl,Gg rfl rfl⟩,trivial⟩ rfl ?_
  rintro r m n' ⟨rfl,rfl⟩;refine⟨[(0,cI res)],nn,⟨aI 0 cG,trivial⟩,rfl, ?_⟩;refine Rr ?_;exact cA (n':=1) (m':=[(0,cI res)]) [(0,0)] rfl ⟨aI 0 cG,trivial⟩ (.same _ nn) ⟨rfl,rfl⟩
theorem Kr:∀v:aT,aU v<=1048576->aZ prog [] 86 [cD v] (.int .i64 (aU v))
 | .mk vk vn vs ks,hs=>by
  have hd:=lI (.mk vk vn vs ks);have hw:=JH (.mk vk vn vs ks) 0 om om;rw[show tA (fun n _=>n+1) (.mk vk vn vs ks) 1 0=aU (.mk vk vn vs ks) by rw[Cp];omega] at hw;generalize aU (.mk vk vn vs ks)=res at hw;refine aN bI func86 rfl ?_;refine Rr ?_;refine aF.useR bI [(1,0)] hw (by rfl) (.s (.cons (L2 rfl) .nil)) ⟨aI 1 cG,trivial⟩ rfl ?_;rintro r m n' ⟨rfl,rfl⟩;refine⟨[(1,cI res)],nn,⟨aI 0 cG,trivial⟩,rfl, ?_⟩;refine Rr ?_;exact aA nn ⟨rfl,rfl,rfl⟩
abbrev VS:=Nat × Bool × Bool
def vC(x:VS):aK:=[(0,cI x.1),(1,cB x.2.1),(2,cB x.2.2)]
def wV(x:VS):aK:=[(0,cI x.1),(1,cB x.2.1),(2,cB x.2.2),(3,cF (.fn (.func 163) [] [.ptr 0 0 0,.ptr 1 0 0,.ptr 2 0 0])),(4,cF (.fn (.func 228) [] [.ptr 3 0 0,.ptr 4 0 0]))]
theorem Lz(vk vn:Int)(vs:List UInt8)(ks:List aT)(hs:vs.length<=4294967296)(d:Nat)(x:VS)(hx:x.1<=4398046511104) :
  aF prog [] 163 [cD (.mk vk vn vs ks),.int .i64 d,.ptr 0 0 0,.ptr 1 0 0,.ptr 2 0 0] (vC x) 3 fun r m _=>r = .bool (cH x (.mk vk vn vs ks) d).1/\m=vC (cH x (.mk vk vn vs ks) d).2:=by
 obtain⟨n,g,s⟩:=x;have h1:=JJ vk vn vs ks hs;have h2:=LS vk vn vs ks;have hst:cH (n,g,s) (.mk vk vn vs ks) d=(g && bY vk vn vs ks.length,(n+1,g && bY vk vn vs ks.length,s && qB vk ks.length)):=rfl;generalize bY vk vn vs ks.length=fb at h1 hst;generalize qB vk ks.length=tb at h2 hst;rw[hst];simp only at hx;refine aN bI func163 rfl ?_;cases g<;>cases s
 all_goals
  refine Rr ?_;try(refine h1.go ?_;refine Rr ?_)
  try(refine h2.go ?_;refine Rr ?_)
  exact cA (n':=3) (m':=vC (n+1,_,_)) [(0,0),(1,1),(2,2)] rfl ⟨⟨0,_,rfl,rfl,.cons (.one rfl rfl (.w64 om ⟨om,om⟩)) .nil⟩,aI 1 cG,aI 2 cG,trivial⟩ (.same _ nn) ⟨rfl,rfl⟩
theorem Gn:∀(v:aT) (d:Nat) (x:VS),gC v->d+fE v<=1099511627776->x.1+aU v<=4398046511104 ->
   aF prog [] 228 [cD v,.int .i64 d,.ptr 3 0 0,.ptr 4 0 0] (wV x) 5 fun r m _=>r = .bool (jO cH v d x).1/\m=wV (jO cH v d x).2
 | .mk vk vn vs ks,d,x,hok,hd,hb=>by
  simp only[gC] at hok;obtain⟨hv1,hv2,hv3,hv4,hv5⟩:=hok;have ih:∀a∈ks,∀(d:Nat) (x:VS),d+fE a<=1099511627776->x.1+aU a<=4398046511104->aF prog [] 228 [cD a,.int .i64 d,.ptr 3 0 0,.ptr 4 0 0] (wV x) 5 fun r m _=>r = .bool (jO cH a d x).1/\m=wV (jO cH a d x).2:=
   fun a hm d x h1 h2=>Gn a d x (l6 hv5 a hm) h1 h2
  simp only[fE,aU] at hd hb;have hlen:=tR ks;have hsee:=Lz vk vn vs ks hv3 d x om;have hy1:(cH x (.mk vk vn vs ks) d).2.1=x.1+1:=rfl;generalize hst0:cH x (.mk vk vn vs ks) d=st at hsee hy1;obtain⟨b,y⟩:=st;simp only at hy1;refine aN bI func228 rfl ?_;refine Rr ?_;refine aF.useI bI [0,1,2] hsee (by rfl) (.s (.s (.cons (.ptr 0 0 0 0 rfl) (.cons (.ptr 1 1 0 0 rfl) (.cons (.ptr 2 2 0 0 rfl) .nil))))) ⟨aI 0 cG,aI 1 cG,aI 2 cG,trivial⟩ rfl ?_;rintro r m n' ⟨rfl,rfl⟩;refine⟨nn,⟨aI 0 cG,aI 1 cG,aI 2 cG,trivial⟩,rfl, ?_⟩;cases b with
  | false=>
   refine Rr ?_;refine cA (n':=5) (m':=wV y) [(0,0),(1,1),(2,2),(3,3),(4,4)] rfl ⟨aI 0 cG,aI 1 cG,aI 2 cG,⟨3,_,rfl,rfl,v8 rfl rfl rfl⟩,⟨4,_,rfl,rfl,nO rfl rfl⟩,trivial⟩ (.same _ nn) ?_;have hvis:jO cH (.mk vk vn vs ks) d x=(false,y):=by rw[jO,hst0]
   rw[hvis];exact⟨rfl,rfl⟩
  | true=>
   have hvis:jO cH (.mk vk vn vs ks) d x=kI cH ks (d+1) y:=by rw[jO,hst0]
   refine Rr ?_;refine a6.at bI (fun a:Nat × VS=>a.1<=ks.length/\kI cH (ks.take a.1) (d+1) y=(true,a.2))
    (fun a=>⟨[(1,.int .i64 d),(3,.ptr 4 0 0),(15,.il 4 (aO ks)),(16,.int .i64 (aO ks).length),(17,.int .i64 a.1)],wV a.2,5,28⟩)
    (fun a=>ks.length-a.1) (0,y) [(0,0),(1,1),(2,2),(3,3),(4,4)] ⟨by simp,rfl⟩
    (aH _ rfl ⟨aI 0 cG,aI 1 cG,aI 2 cG,⟨3,_,rfl,rfl,v8 rfl rfl rfl⟩,⟨4,_,rfl,rfl,nO rfl rfl⟩,trivial⟩ ⟨aG,aL,aG,aG,aG,trivial⟩) ?_
   rintro⟨k,z⟩ ⟨hk,hz⟩;simp only at hk hz;have hcnt:=wE (ks.take k) (d+1) y;rw[hz] at hcnt;simp only at hcnt;refine Rr ?_;refine aE (fun h=>?_) (fun h=>?_)
   ·have hlt:k<ks.length:=Cj h;obtain⟨a,b,c,e,hm,hg',he,e1⟩:=bK hlt;have hst:=rH hlt;rw[he] at hst;have hst':=lS ks (k+1);have hdm:=qX hm;have hnext:=GQ cH hlt (d+1) y z hz;rw[he] at hnext;have hb2:z.1+aU (.mk a b c e)<=4398046511104:=om;have hih:=ih _ hm (d+1) z om hb2;generalize jO cH (.mk a b c e) (d+1) z=st2 at hih hnext;obtain⟨b2,z2⟩:=st2;refine Rr ?_;refine aD e1 ?_;refine Rr ?_;rw[w64 (x:=(d:Int)+1) (y:=((d+1:Nat):Int)) om ⟨om,om⟩];refine aF.useI bI [0,1,2,3,4] hih (by rfl) (.s (.s (.cons (.ptr 3 3 0 0 rfl) (.cons (.ptr 4 4 0 0 rfl) .nil))))
     ⟨aI 0 cG,aI 1 cG,aI 2 cG,⟨3,_,rfl,rfl,v8 rfl rfl rfl⟩,⟨4,_,rfl,rfl,nO rfl rfl⟩,trivial⟩ rfl ?_
    rintro r m n' ⟨rfl,rfl⟩;refine⟨nn,⟨aI 0 cG,aI 1 cG,aI 2 cG,⟨3,_,rfl,rfl,v8 rfl rfl rfl⟩,⟨4,_,rfl,rfl,nO rfl rfl⟩,trivial⟩,rfl, ?_⟩;cases b2 with
    | false=>
     refine Rr ?_;refine cA (n':=5) (m':=wV z2) [(0,0),(1,1),(2,2),(3,3),(4,4)] rfl ⟨aI 0 cG,aI 1 cG,aI 2 cG,⟨3,_,rfl,rfl,v8 rfl rfl rfl⟩,⟨4,_,rfl,rfl,nO rfl rfl⟩,trivial⟩ (.same _ nn) ?_;have:=AI cH (m:=ks.drop (k+1)) hnext;rw[List.take_append_drop] at this;rw[hvis,this];exact⟨rfl,rfl⟩
    | true=>
     refine Rr ?_;exact .mk (k+1,z2) [(0,0),(1,1),(2,2),(3,3),(4,4)] ⟨by simp only;omega,hnext⟩
      (aH _ rfl ⟨aI 0 cG,aI 1 cG,aI 2 cG,⟨3,_,rfl,rfl,v8 rfl rfl rfl⟩,⟨4,_,rfl,rfl,nO rfl rfl⟩,trivial⟩ ⟨aG,aL,aG,aG,⟨_,rfl,.w64 om ⟨om,om⟩⟩,trivial⟩) (by simp only;omega)
   ·have hk':k=ks.length:=by have:=Ct h;omega
    refine Rr ?_;refine cA (n':=5) (m':=wV z) [(0,0),(1,1),(2,2),(3,3),(4,4)] rfl ⟨aI 0 cG,aI 1 cG,aI 2 cG,⟨3,_,rfl,rfl,v8 rfl rfl rfl⟩,⟨4,_,rfl,rfl,nO rfl rfl⟩,trivial⟩ (.same _ nn) ?_;rw[hk',M2] at hz;rw[hvis,hz];exact⟨rfl,rfl⟩
 termination_by v=>SizeOf.sizeOf v
 decreasing_by simp;have:=Nm hm;omega
theorem JT:∀(v:aT) (x:VS),gC v->1+fE v<=1099511627776->x.1+aU v<=4398046511104 ->
   aF prog [] 162 [cD v,.fn (.func 163) [] [.ptr 0 0 0,.ptr 1 0 0,.ptr 2 0 0]] (vC x) 3 fun r m _=>r = .tup []/\m=vC (jO cH v 1 x).2
 | .mk vk vn vs ks,x,hok,hd,hb=>by
  have hw:=Gn (.mk vk vn vs ks) 1 x hok hd hb;generalize jO cH (.mk vk vn vs ks) 1 x=st at hw;obtain⟨b,y⟩:=st;refine aN bI func162 rfl ?_;refine Rr ?_;refine aF.useR bI [(0,0),(1,1),(2,2),(4,3),(5,4)] hw (by rfl) (.s (.cons (.int rfl) (.cons (.ptr 4 3 0 0 rfl) (.cons (.ptr 5 4 0 0 rfl) .nil))))
   ⟨aI 0 cG,aI 1 cG,aI 2 cG,⟨4,_,rfl,rfl,Ka rfl rfl rfl⟩,⟨5,_,rfl,rfl,Gg rfl rfl⟩,trivial⟩ rfl ?_
  rintro r m n' ⟨rfl,rfl⟩;refine⟨[(0,cI y.1),(1,cB y.2.1),(2,cB y.2.2)],nn,⟨aI 0 cG,aI 1 cG,aI 2 cG,trivial⟩,rfl, ?_⟩;refine Rr ?_;exact cA (n':=3) (m':=vC y) [(0,0),(1,1),(2,2)] rfl ⟨aI 0 cG,aI 1 cG,aI 2 cG,trivial⟩ (.same _ nn) ⟨rfl,rfl⟩
theorem EC:∀v:aT,gC v->aU v<=1048576->aZ prog [] 84 [cD v] (.int .i64 (Go.Ax.d9 v))
 | .mk vk vn vs ks,hok,hs=>by
  have hd:=lI (.mk vk vn vs ks);have hw:=JT (.mk vk vn vs ks) (0,true,true) hok om (by simp only;omega);have hval:=Fl (.mk vk vn vs ks);generalize Go.Ax.d9 (.mk vk vn vs ks)=res at hval;generalize (jO cH (.mk vk vn vs ks) 1 (0,true,true)).2=y at hw hval;obtain⟨n,g,s⟩:=y;simp only at hval;refine aN bI func84 rfl ?_;refine Rr ?_;refine aF.useR bI [(1,0),(2,1),(3,2)] hw (by rfl) (.s (.cons (ME rfl rfl rfl) .nil)) ⟨aI 1 cG,aI 2 cG,aI 3 cG,trivial⟩ rfl ?_;rintro r m n' ⟨rfl,rfl⟩;refine⟨[(1,cI n),(2,cB g),(3,cB s)],nn,⟨aI 0 cG,aI 1 cG,aI 2 cG,trivial⟩,rfl, ?_⟩;cases g with
  | false=>
   refine Rr ?_;refine aA nn ⟨?_,rfl,rfl⟩;rw[←hval];rfl
  | true=>
   cases s with
   | false=>
    refine Rr ?_;refine aA nn ⟨?_,rfl,rfl⟩;rw[←hval];simp
   | true=>
    refine Rr ?_;refine aE (fun h=>?_) (fun h=>?_)
    ·refine Rr ?_;refine aA nn ⟨?_,rfl,rfl⟩;rw[←hval,Mm (by simp),Mr (by simp at h;omega)]
    ·refine Rr ?_;refine aA nn ⟨?_,rfl,rfl⟩;rw[←hval,Mm (by simp),Mm (by simp at h;simp;omega)]
end Go.Proofs.YtpajadlnaokngaaGreatDoor
namespace Go.Ax
open Go
end Go.Ax
namespace Go.Ax
open Go
theorem nN(n:Int):IntKind.u64.wrap n=n%18446744073709551616:=by
 unfold IntKind.wrap;have e:(2 ^ IntKind.u64.bits:Int)=18446744073709551616:=by decide
 have s:IntKind.u64.signed=false:=rfl;simp only[e,s,Oz];rfl
end Go.Ax
