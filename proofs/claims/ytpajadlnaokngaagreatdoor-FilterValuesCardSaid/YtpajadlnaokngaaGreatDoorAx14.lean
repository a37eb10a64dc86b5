/- A part of the proof. -/
import Derived.Test.YtpajadlnaokngaaGreatDoorAx13
import Derived.Test.YtpajadlnaokngaaGreatDoorProg
set_option linter.unusedVariables false
set_option linter.unusedSimpArgs false
set_option linter.unusedSectionVars false
namespace Go.Proofs.YtpajadlnaokngaaGreatDoor
open Go Go.Ax Go.Proofs Tryz
set_option maxRecDepth 100000
set_option maxHeartbeats 16000000
end Go.Proofs.YtpajadlnaokngaaGreatDoor
namespace Go.Proofs.YtpajadlnaokngaaGreatDoor
open Go Go.Ax Go.Proofs Tryz
set_option maxRecDepth 100000
set_option maxHeartbeats 4000000
def cI(n:Nat):AB:=.row 3 1 [.int .i64 n]
def cB(b:Bool):AB:=.row 4 1 [.bool b]
def cF(f:AV):AB:=.row 245 1 [f]
section
variable {mem:aN} {σ:List (Nat × Nat)}
theorem EV{F:FuncId}{i:Nat}(h:lk σ i=some i):r9 mem σ [.fn (.func F) [] [.ptr i 0 0]] [.fn (.func F) [] [.ptr i 0 0]]:=
 .cons (.one rfl rfl (.fn _ _ _ _ _ rfl rfl (by simp) (lL.cons (.ptr i i 0 0 h) .nil).2)) .nil
theorem pK{F:FuncId}{i j:Nat}(h:lk σ i=some i)(h':lk σ j=some j):r9 mem σ [.fn (.func F) [] [.ptr i 0 0,.ptr j 0 0]] [.fn (.func F) [] [.ptr i 0 0,.ptr j 0 0]]:=
 .cons (.one rfl rfl (.fn _ _ _ _ _ rfl rfl (by simp) (lL.cons (.ptr i i 0 0 h) (.cons (.ptr j j 0 0 h') .nil)).2)) .nil
theorem BY{F:FuncId}{i j k:Nat}(h:lk σ i=some i)(h':lk σ j=some j)(h'':lk σ k=some k):r9 mem σ [.fn (.func F) [] [.ptr i 0 0,.ptr j 0 0,.ptr k 0 0]] [.fn (.func F) [] [.ptr i 0 0,.ptr j 0 0,.ptr k 0 0]]:=
 .cons (.one rfl rfl (.fn _ _ _ _ _ rfl rfl (by simp) (lL.cons (.ptr i i 0 0 h) (.cons (.ptr j j 0 0 h') (.cons (.ptr k k 0 0 h'') .nil))).2)) .nil
end
def Oz(n:Nat):aN:=[(0,cI n),(1,cF (.fn (.func 166) [] [.ptr 0 0 0])),(2,cF (.fn (.func 228) [] [.ptr 1 0 0,.ptr 2 0 0]))]
theorem IE(g:Nat->Nat->Nat)(hg:∀n d,g n d<=max (n+1) d)
  (hsee:∀(v:aU) (d n:Nat),d<=1099511627776->n<=4398046511104->aF prog [] 166 [bV v,.int .i64 d,.ptr 0 0 0] [(0,cI n)] 1 fun r m _=>r = .bool true/\m=[(0,cI (g n d))]) :
  ∀(v:aU) (d n:Nat),d+fD v<=1099511627776->max n (d+fD v)+aV v<=4398046511104 ->
   aF prog [] 228 [bV v,.int .i64 d,.ptr 1 0 0,.ptr 2 0 0] (Oz n) 3 fun r m _=>r = .bool true/\m=Oz (u9 g v d n)
 | .mk vk vn vs ks,d,n,hd,hb=>by
  have ih:∀a∈ks,∀(d n:Nat),d+fD a<=1099511627776->max n (d+fD a)+aV a<=4398046511104->aF prog [] 228 [bV a,.int .i64 d,.ptr 1 0 0,.ptr 2 0 0] (Oz n) 3 fun r m _=>r = .bool true/\m=Oz (u9 g a d n):=
   fun a hm d n h1 h2=>IE g hg hsee a d n h1 h2
  simp only[fD,aV] at hd hb;have hlen:=wQ ks;have hgn:=hg n d;refine aO bD func228 rfl ?_;refine Rr ?_;refine aF.useI bD [0] (hsee (.mk vk vn vs ks) d n om om) (by rfl) (.s (.s (.cons (.ptr 0 0 0 0 rfl) .nil))) ⟨aJ 0 cC,trivial⟩ rfl ?_;rintro r m n' ⟨rfl,rfl⟩;refine⟨nn,⟨aJ 0 cC,trivial⟩,rfl, ?_⟩;refine Rr ?_;refine aZ.at bD (fun k:Nat=>k<=ks.length)
   (fun k=>⟨[(1,.int .i64 d),(3,.ptr 2 0 0),(15,.il 4 (aL ks)),(16,.int .i64 (aL ks).length),(17,.int .i64 k)],Oz (q7 g (ks.take k) (d+1) (g n d)),3,28⟩)
   (fun k=>ks.length-k) 0 [(0,0),(1,1),(2,2)] (by simp)
   (aI _ rfl ⟨aJ 0 cC,⟨1,_,rfl,rfl,EV rfl⟩,⟨2,_,rfl,rfl,pK rfl rfl⟩,trivial⟩ ⟨aG,aM,aG,aG,aG,trivial⟩) ?_
  intro k hk;have hrl:=Db hg (ks.take k) (d+1) (g n d);refine Rr ?_;refine aE (fun h=>?_) (fun h=>?_)
  ·have hlt:=EF h;obtain⟨a,b,c,e,hm,hg',he,e1⟩:=bB hlt;have hst:=uE hlt;have hdt:=D1 hlt;rw[he] at hst hdt;have hst':=mO ks (k+1);have hdm:=uN hm;have hdk:dJ (ks.take k)<=dJ ks:=BH ks k;have hrt:=Ie g hlt (d+1) (g n d);rw[he] at hrt;refine Rr ?_;refine aD e1 ?_;refine Rr ?_;rw[w64 (x:=(d:Int)+1) (y:=((d+1:Nat):Int)) om ⟨om,om⟩];refine aF.useI bD [0,1,2] (ih _ hm (d+1) (q7 g (ks.take k) (d+1) (g n d)) om om) (by rfl) (.s (.s (.cons (.ptr 1 1 0 0 rfl) (.cons (.ptr 2 2 0 0 rfl) .nil))))
    ⟨aJ 0 cC,⟨1,_,rfl,rfl,EV rfl⟩,⟨2,_,rfl,rfl,pK rfl rfl⟩,trivial⟩ rfl ?_
   rintro r m n' ⟨rfl,rfl⟩;refine⟨nn,⟨aJ 0 cC,⟨1,_,rfl,rfl,EV rfl⟩,⟨2,_,rfl,rfl,pK rfl rfl⟩,trivial⟩,rfl, ?_⟩;rw[←hrt];refine Rr ?_;exact .mk (k+1) [(0,0),(1,1),(2,2)] om
    (aI _ rfl ⟨aJ 0 cC,⟨1,_,rfl,rfl,EV rfl⟩,⟨2,_,rfl,rfl,pK rfl rfl⟩,trivial⟩ ⟨aG,aM,aG,aG,⟨_,rfl,.w64 om ⟨om,om⟩⟩,trivial⟩) om
  ·have hk':k=ks.length:=by have:=EG h;omega
   refine Rr ?_;refine b8 (n':=3) (m':=Oz (q7 g (ks.take k) (d+1) (g n d))) [(0,0),(1,1),(2,2)] rfl ⟨aJ 0 cC,⟨1,_,rfl,rfl,EV rfl⟩,⟨2,_,rfl,rfl,pK rfl rfl⟩,trivial⟩ (.same _ nn) ⟨rfl, ?_⟩;rw[hk',RG,u9]
 termination_by v=>SizeOf.sizeOf v
 decreasing_by simp;have:=R4 hm;omega
end Go.Proofs.YtpajadlnaokngaaGreatDoor
namespace Go.Proofs.YtpajadlnaokngaaGreatDoor
open Go Go.Ax Go.Proofs Tryz
set_option maxRecDepth 100000
set_option maxHeartbeats 4000000
section
variable {mem:aN} {σ:List (Nat × Nat)}
theorem N5{F:FuncId}{i i':Nat}(h:lk σ i=some i'):r9 mem σ [.fn (.func F) [] [.ptr i 0 0]] [.fn (.func F) [] [.ptr i' 0 0]]:=
 .cons (.one rfl rfl (.fn _ _ _ _ _ rfl rfl (by simp) (lL.cons (.ptr i i' 0 0 h) .nil).2)) .nil
theorem Ku{F:FuncId}{i j i' j':Nat}(h:lk σ i=some i')(h':lk σ j=some j'):r9 mem σ [.fn (.func F) [] [.ptr i 0 0,.ptr j 0 0]] [.fn (.func F) [] [.ptr i' 0 0,.ptr j' 0 0]]:=
 .cons (.one rfl rfl (.fn _ _ _ _ _ rfl rfl (by simp) (lL.cons (.ptr i i' 0 0 h) (.cons (.ptr j j' 0 0 h') .nil)).2)) .nil
theorem OM{F:FuncId}{i j k i' j' k':Nat}(h:lk σ i=some i')(h':lk σ j=some j')(h'':lk σ k=some k'):r9 mem σ [.fn (.func F) [] [.ptr i 0 0,.ptr j 0 0,.ptr k 0 0]] [.fn (.func F) [] [.ptr i' 0 0,.ptr j' 0 0,.ptr k' 0 0]]:=
 .cons (.one rfl rfl (.fn _ _ _ _ _ rfl rfl (by simp) (lL.cons (.ptr i i' 0 0 h) (.cons (.ptr j j' 0 0 h') (.cons (.ptr k k' 0 0 h'') .nil))).2)) .nil
theorem QO{F:FuncId}{i i':Nat}(h:lk σ i=some i'):Cv mem σ (.fn (.func F) [] [.ptr i 0 0]) (.fn (.func F) [] [.ptr i' 0 0]):=
 .fn _ _ _ _ _ rfl rfl (by simp) (lL.cons (.ptr i i' 0 0 h) .nil).2
theorem QK{F:FuncId}{i j k i' j' k':Nat}(h:lk σ i=some i')(h':lk σ j=some j')(h'':lk σ k=some k'):Cv mem σ (.fn (.func F) [] [.ptr i 0 0,.ptr j 0 0,.ptr k 0 0]) (.fn (.func F) [] [.ptr i' 0 0,.ptr j' 0 0,.ptr k' 0 0]):=
 .fn _ _ _ _ _ rfl rfl (by simp) (lL.cons (.ptr i i' 0 0 h) (.cons (.ptr j j' 0 0 h') (.cons (.ptr k k' 0 0 h'') .nil))).2
end
theorem QV:∀(v:aU) (d n:Nat),d<=1099511627776->n<=4398046511104->aF prog [] 166 [bV v,.int .i64 d,.ptr 0 0 0] [(0,cI n)] 1 fun r m _=>r = .bool true/\m=[(0,cI (n+1))]
 | .mk vk vn vs ks,d,n,hd,hn=>by
  refine aO bD func166 rfl ?_;refine Rr ?_;exact b8 (n':=1) (m':=[(0,cI (n+1))]) [(0,0)] rfl ⟨⟨0,_,rfl,rfl,.cons (.one rfl rfl (.w64 om ⟨om,om⟩)) .nil⟩,trivial⟩ (.same _ nn) ⟨rfl,rfl⟩
theorem Ms:∀(v:aU) (n:Nat),1+fD v<=1099511627776->max n (1+fD v)+aV v<=4398046511104 ->
   aF prog [] 162 [bV v,.fn (.func 166) [] [.ptr 0 0 0]] [(0,cI n)] 1 fun r m _=>r = .tup []/\m=[(0,cI (u9 (fun n _=>n+1) v 1 n))]
 | .mk vk vn vs ks,n,hd,hb=>by
  have hw:=IE (fun n _=>n+1) (fun n d=>om) QV (.mk vk vn vs ks) 1 n hd hb;generalize u9 (fun n _=>n+1) (.mk vk vn vs ks) 1 n=res at hw;refine aO bD func162 rfl ?_;refine Rr ?_;refine aF.useR bD [(0,0),(2,1),(3,2)] hw (by rfl) (.s (.cons (.int rfl) (.cons (.ptr 2 1 0 0 rfl) (.cons (.ptr 3 2 0 0 rfl) .nil))))
   ⟨aJ 0 cC,⟨2,_,rfl,rfl,N5 rfl⟩,⟨3,_,rfl,rfl,Ku rfl rfl⟩,trivial⟩ rfl ?_
  rintro r m n' ⟨rfl,rfl⟩;refine⟨[(0,cI res)],nn,⟨aJ 0 cC,trivial⟩,rfl, ?_⟩;refine Rr ?_;exact b8 (n':=1) (m':=[(0,cI res)]) [(0,0)] rfl ⟨aJ 0 cC,trivial⟩ (.same _ nn) ⟨rfl,rfl⟩
theorem PZ:∀v:aU,aV v<=1048576->a7 prog [] 86 [bV v] (.int .i64 (aV v))
 | .mk vk vn vs ks,hs=>by
  have hd:=mI (.mk vk vn vs ks);have hw:=Ms (.mk vk vn vs ks) 0 om om;rw[show u9 (fun n _=>n+1) (.mk vk vn vs ks) 1 0=aV (.mk vk vn vs ks) by rw[EL];omega] at hw;generalize aV (.mk vk vn vs ks)=res at hw;refine aO bD func86 rfl ?_;refine Rr ?_;refine aF.useR bD [(1,0)] hw (by rfl) (.s (.cons (QO rfl) .nil)) ⟨aJ 1 cC,trivial⟩ rfl ?_;rintro r m n' ⟨rfl,rfl⟩;refine⟨[(1,cI res)],nn,⟨aJ 0 cC,trivial⟩,rfl, ?_⟩;refine Rr ?_;exact aB nn ⟨rfl,rfl,rfl⟩
abbrev VS:=Nat × Bool × Bool
def vC(x:VS):aN:=[(0,cI x.1),(1,cB x.2.1),(2,cB x.2.2)]
def wV(x:VS):aN:=[(0,cI x.1),(1,cB x.2.1),(2,cB x.2.2),(3,cF (.fn (.func 163) [] [.ptr 0 0 0,.ptr 1 0 0,.ptr 2 0 0])),(4,cF (.fn (.func 228) [] [.ptr 3 0 0,.ptr 4 0 0]))]
theorem QU(vk vn:Int)(vs:List UInt8)(ks:List aU)(hs:vs.length<=4294967296)(d:Nat)(x:VS)(hx:x.1<=4398046511104) :
  aF prog [] 163 [bV (.mk vk vn vs ks),.int .i64 d,.ptr 0 0 0,.ptr 1 0 0,.ptr 2 0 0] (vC x) 3 fun r m _=>r = .bool (cA x (.mk vk vn vs ks) d).1/\m=vC (cA x (.mk vk vn vs ks) d).2:=by
 obtain⟨n,g,s⟩:=x;have h1:=MY vk vn vs ks hs;have h2:=O6 vk vn vs ks;have hst:cA (n,g,s) (.mk vk vn vs ks) d=(g && bW vk vn vs ks.length,(n+1,g && bW vk vn vs ks.length,s && s5 vk ks.length)):=rfl;generalize bW vk vn vs ks.length=fb at h1 hst;generalize s5 vk ks.length=tb at h2 hst;rw[hst];simp only at hx;refine aO bD func163 rfl ?_;cases g<;>cases s
 all_goals
  refine Rr ?_;try(refine h1.go ?_;refine Rr ?_)
  try(refine h2.go ?_;refine Rr ?_)
  exact b8 (n':=3) (m':=vC (n+1,_,_)) [(0,0),(1,1),(2,2)] rfl ⟨⟨0,_,rfl,rfl,.cons (.one rfl rfl (.w64 om ⟨om,om⟩)) .nil⟩,aJ 1 cC,aJ 2 cC,trivial⟩ (.same _ nn) ⟨rfl,rfl⟩
theorem Ll:∀(v:aU) (d:Nat) (x:VS),fY v->d+fD v<=1099511627776->x.1+aV v<=4398046511104 ->
   aF prog [] 228 [bV v,.int .i64 d,.ptr 3 0 0,.ptr 4 0 0] (wV x) 5 fun r m _=>r = .bool (jV cA v d x).1/\m=wV (jV cA v d x).2
 | .mk vk vn vs ks,d,x,hok,hd,hb=>by
  simp only[fY] at hok;obtain⟨hv1,hv2,hv3,hv4,hv5⟩:=hok;have ih:∀a∈ks,∀(d:Nat) (x:VS),d+fD a<=1099511627776->x.1+aV a<=4398046511104->aF prog [] 228 [bV a,.int .i64 d,.ptr 3 0 0,.ptr 4 0 0] (wV x) 5 fun r m _=>r = .bool (jV cA a d x).1/\m=wV (jV cA a d x).2:=
   fun a hm d x h1 h2=>Ll a d x (lH hv5 a hm) h1 h2
  simp only[fD,aV] at hd hb;have hlen:=wQ ks;have hsee:=QU vk vn vs ks hv3 d x om;have hy1:(cA x (.mk vk vn vs ks) d).2.1=x.1+1:=rfl;generalize hst0:cA x (.mk vk vn vs ks) d=st at hsee hy1;obtain⟨b,y⟩:=st;simp only at hy1;refine aO bD func228 rfl ?_;refine Rr ?_;refine aF.useI bD [0,1,2] hsee (by rfl) (.s (.s (.cons (.ptr 0 0 0 0 rfl) (.cons (.ptr 1 1 0 0 rfl) (.cons (.ptr 2 2 0 0 rfl) .nil))))) ⟨aJ 0 cC,aJ 1 cC,aJ 2 cC,trivial⟩ rfl ?_;rintro r m n' ⟨rfl,rfl⟩;refine⟨nn,⟨aJ 0 cC,aJ 1 cC,aJ 2 cC,trivial⟩,rfl, ?_⟩;cases b with
  | false=>
   refine Rr ?_;refine b8 (n':=5) (m':=wV y) [(0,0),(1,1),(2,2),(3,3),(4,4)] rfl ⟨aJ 0 cC,aJ 1 cC,aJ 2 cC,⟨3,_,rfl,rfl,BY rfl rfl rfl⟩,⟨4,_,rfl,rfl,pK rfl rfl⟩,trivial⟩ (.same _ nn) ?_;have hvis:jV cA (.mk vk vn vs ks) d x=(false,y):=by rw[jV,hst0]
   rw[hvis];exact⟨rfl,rfl⟩
  | true=>
   have hvis:jV cA (.mk vk vn vs ks) d x=kX cA ks (d+1) y:=by rw[jV,hst0]
   refine Rr ?_;refine aZ.at bD (fun a:Nat × VS=>a.1<=ks.length/\kX cA (ks.take a.1) (d+1) y=(true,a.2))
    (fun a=>⟨[(1,.int .i64 d),(3,.ptr 4 0 0),(15,.il 4 (aL ks)),(16,.int .i64 (aL ks).length),(17,.int .i64 a.1)],wV a.2,5,28⟩)
    (fun a=>ks.length-a.1) (0,y) [(0,0),(1,1),(2,2),(3,3),(4,4)] ⟨by simp,rfl⟩
    (aI _ rfl ⟨aJ 0 cC,aJ 1 cC,aJ 2 cC,⟨3,_,rfl,rfl,BY rfl rfl rfl⟩,⟨4,_,rfl,rfl,pK rfl rfl⟩,trivial⟩ ⟨aG,aM,aG,aG,aG,trivial⟩) ?_
   rintro⟨k,z⟩ ⟨hk,hz⟩;simp only at hk hz;have hcnt:=BJ (ks.take k) (d+1) y;rw[hz] at hcnt;simp only at hcnt;refine Rr ?_;refine aE (fun h=>?_) (fun h=>?_)
   ·have hlt:k<ks.length:=EF h;obtain⟨a,b,c,e,hm,hg',he,e1⟩:=bB hlt;have hst:=uE hlt;rw[he] at hst;have hst':=mO ks (k+1);have hdm:=uN hm;have hnext:=Ix cA hlt (d+1) y z hz;rw[he] at hnext;have hb2:z.1+aV (.mk a b c e)<=4398046511104:=om;have hih:=ih _ hm (d+1) z om hb2;generalize jV cA (.mk a b c e) (d+1) z=st2 at hih hnext;obtain⟨b2,z2⟩:=st2;refine Rr ?_;refine aD e1 ?_;refine Rr ?_;rw[w64 (x:=(d:Int)+1) (y:=((d+1:Nat):Int)) om ⟨om,om⟩];refine aF.useI bD [0,1,2,3,4] hih (by rfl) (.s (.s (.cons (.ptr 3 3 0 0 rfl) (.cons (.ptr 4 4 0 0 rfl) .nil))))
     ⟨aJ 0 cC,aJ 1 cC,aJ 2 cC,⟨3,_,rfl,rfl,BY rfl rfl rfl⟩,⟨4,_,rfl,rfl,pK rfl rfl⟩,trivial⟩ rfl ?_
    rintro r m n' ⟨rfl,rfl⟩;refine⟨nn,⟨aJ 0 cC,aJ 1 cC,aJ 2 cC,⟨3,_,rfl,rfl,BY rfl rfl rfl⟩,⟨4,_,rfl,rfl,pK rfl rfl⟩,trivial⟩,rfl, ?_⟩;cases b2 with
    | false=>
     refine Rr ?_;refine b8 (n':=5) (m':=wV z2) [(0,0),(1,1),(2,2),(3,3),(4,4)] rfl ⟨aJ 0 cC,aJ 1 cC,aJ 2 cC,⟨3,_,rfl,rfl,BY rfl rfl rfl⟩,⟨4,_,rfl,rfl,pK rfl rfl⟩,trivial⟩ (.same _ nn) ?_;have:=B1 cA (m:=ks.drop (k+1)) hnext;rw[List.take_append_drop] at this;rw[hvis,this];exact⟨rfl,rfl⟩
    | true=>
     refine Rr ?_;exact .mk (k+1,z2) [(0,0),(1,1),(2,2),(3,3),(4,4)] ⟨by simp only;omega,hnext⟩
      (aI _ rfl ⟨aJ 0 cC,aJ 1 cC,aJ 2 cC,⟨3,_,rfl,rfl,BY rfl rfl rfl⟩,⟨4,_,rfl,rfl,pK rfl rfl⟩,trivial⟩ ⟨aG,aM,aG,aG,⟨_,rfl,.w64 om ⟨om,om⟩⟩,trivial⟩) (by simp only;omega)
   ·have hk':k=ks.length:=by have:=EG h;omega
    refine Rr ?_;refine b8 (n':=5) (m':=wV z) [(0,0),(1,1),(2,2),(3,3),(4,4)] rfl ⟨aJ 0 cC,aJ 1 cC,aJ 2 cC,⟨3,_,rfl,rfl,BY rfl rfl rfl⟩,⟨4,_,rfl,rfl,pK rfl rfl⟩,trivial⟩ (.same _ nn) ?_;rw[hk',RG] at hz;rw[hvis,hz];exact⟨rfl,rfl⟩
 termination_by v=>SizeOf.sizeOf v
 decreasing_by simp;have:=R4 hm;omega
theorem M2:∀(v:aU) (x:VS),fY v->1+fD v<=1099511627776->x.1+aV v<=4398046511104 ->
   aF prog [] 162 [bV v,.fn (.func 163) [] [.ptr 0 0 0,.ptr 1 0 0,.ptr 2 0 0]] (vC x) 3 fun r m _=>r = .tup []/\m=vC (jV cA v 1 x).2
 | .mk vk vn vs ks,x,hok,hd,hb=>by
  have hw:=Ll (.mk vk vn vs ks) 1 x hok hd hb;generalize jV cA (.mk vk vn vs ks) 1 x=st at hw;obtain⟨b,y⟩:=st;refine aO bD func162 rfl ?_;refine Rr ?_;refine aF.useR bD [(0,0),(1,1),(2,2),(4,3),(5,4)] hw (by rfl) (.s (.cons (.int rfl) (.cons (.ptr 4 3 0 0 rfl) (.cons (.ptr 5 4 0 0 rfl) .nil))))
   ⟨aJ 0 cC,aJ 1 cC,aJ 2 cC,⟨4,_,rfl,rfl,OM rfl rfl rfl⟩,⟨5,_,rfl,rfl,Ku rfl rfl⟩,trivial⟩ rfl ?_
  rintro r m n' ⟨rfl,rfl⟩;refine⟨[(0,cI y.1),(1,cB y.2.1),(2,cB y.2.2)],nn,⟨aJ 0 cC,aJ 1 cC,aJ 2 cC,trivial⟩,rfl, ?_⟩;refine Rr ?_;exact b8 (n':=3) (m':=vC y) [(0,0),(1,1),(2,2)] rfl ⟨aJ 0 cC,aJ 1 cC,aJ 2 cC,trivial⟩ (.same _ nn) ⟨rfl,rfl⟩
theorem Fo:∀v:aU,fY v->aV v<=1048576->a7 prog [] 84 [bV v] (.int .i64 (dW v))
 | .mk vk vn vs ks,hok,hs=>by
  have hd:=mI (.mk vk vn vs ks);have hw:=M2 (.mk vk vn vs ks) (0,true,true) hok om (by simp only;omega);have hval:=JD (.mk vk vn vs ks);generalize dW (.mk vk vn vs ks)=res at hval;generalize (jV cA (.mk vk vn vs ks) 1 (0,true,true)).2=y at hw hval;obtain⟨n,g,s⟩:=y;simp only at hval;refine aO bD func84 rfl ?_;refine Rr ?_;refine aF.useR bD [(1,0),(2,1),(3,2)] hw (by rfl) (.s (.cons (QK rfl rfl rfl) .nil)) ⟨aJ 1 cC,aJ 2 cC,aJ 3 cC,trivial⟩ rfl ?_;rintro r m n' ⟨rfl,rfl⟩;refine⟨[(1,cI n),(2,cB g),(3,cB s)],nn,⟨aJ 0 cC,aJ 1 cC,aJ 2 cC,trivial⟩,rfl, ?_⟩;cases g with
  | false=>
   refine Rr ?_;refine aB nn ⟨?_,rfl,rfl⟩;rw[←hval];rfl
  | true=>
   cases s with
   | false=>
    refine Rr ?_;refine aB nn ⟨?_,rfl,rfl⟩;rw[←hval];simp
   | true=>
    refine Rr ?_;refine aE (fun h=>?_) (fun h=>?_)
    ·refine Rr ?_;refine aB nn ⟨?_,rfl,rfl⟩;rw[←hval,Qz (by simp),Q3 (by simp at h;omega)]
    ·refine Rr ?_;refine aB nn ⟨?_,rfl,rfl⟩;rw[←hval,Qz (by simp),Qz (by simp at h;simp;omega)]
end Go.Proofs.YtpajadlnaokngaaGreatDoor
namespace Go.Ax
open Go
end Go.Ax
namespace Go.Ax
open Go
theorem oN(n:Int):IntKind.u64.wrap n=n%18446744073709551616:=by
 unfold IntKind.wrap;have e:(2 ^ IntKind.u64.bits:Int)=18446744073709551616:=by decide
 have s:IntKind.u64.signed=false:=rfl;simp only[e,s,TG];rfl
end Go.Ax
