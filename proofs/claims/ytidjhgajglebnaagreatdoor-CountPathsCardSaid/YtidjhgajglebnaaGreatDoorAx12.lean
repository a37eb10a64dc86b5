/- A part of the proof. -/
import Derived.Test.YtidjhgajglebnaaGreatDoorAx11
import Derived.Test.YtidjhgajglebnaaGreatDoorProg
import Derived.KernelRfl
set_option linter.unusedVariables false
set_option linter.unusedSimpArgs false
namespace Go.Proofs.YtidjhgajglebnaaGreatDoor
open Go Go.Ax Go.Proofs Tryz
set_option maxRecDepth 1000000
set_option maxRecDepth 1000000
def gz:List (Nat × AV):=[(0,.agg [.int .u64 1,.int .u64 10,.int .u64 100,.int .u64 1000,.int .u64 10000,.int .u64 100000,.int .u64 1000000,.int .u64 10000000,.int .u64 100000000,.int .u64 1000000000,.int .u64 10000000000,.int .u64 100000000000,.int .u64 1000000000000,.int .u64 10000000000000,.int .u64 100000000000000,.int .u64 1000000000000000,.int .u64 10000000000000000,.int .u64 100000000000000000,.int .u64 1000000000000000000,.int .u64 10000000000000000000]),(2,.agg [.int .u8 0,.int .u8 1,.int .u8 28,.int .u8 2,.int .u8 29,.int .u8 14,.int .u8 24,.int .u8 3,.int .u8 30,.int .u8 22,.int .u8 20,.int .u8 15,.int .u8 25,.int .u8 17,.int .u8 4,.int .u8 8,.int .u8 31,.int .u8 27,.int .u8 13,.int .u8 23,.int .u8 21,.int .u8 19,.int .u8 16,.int .u8 7,.int .u8 26,.int .u8 12,.int .u8 18,.int .u8 6,.int .u8 11,.int .u8 5,.int .u8 10,.int .u8 9]),(3,.agg [.int .u8 0,.int .u8 1,.int .u8 56,.int .u8 2,.int .u8 57,.int .u8 49,.int .u8 28,.int .u8 3,.int .u8 61,.int .u8 58,.int .u8 42,.int .u8 50,.int .u8 38,.int .u8 29,.int .u8 17,.int .u8 4,.int .u8 62,.int .u8 47,.int .u8 59,.int .u8 36,.int .u8 45,.int .u8 43,.int .u8 51,.int .u8 22,.int .u8 53,.int .u8 39,.int .u8 33,.int .u8 30,.int .u8 24,.int .u8 18,.int .u8 12,.int .u8 5,.int .u8 63,.int .u8 55,.int .u8 48,.int .u8 27,.int .u8 60,.int .u8 41,.int .u8 37,.int .u8 16,.int .u8 46,.int .u8 35,.int .u8 44,.int .u8 21,.int .u8 52,.int .u8 32,.int .u8 23,.int .u8 11,.int .u8 54,.int .u8 26,.int .u8 40,.int .u8 15,.int .u8 34,.int .u8 20,.int .u8 31,.int .u8 10,.int .u8 25,.int .u8 14,.int .u8 19,.int .u8 9,.int .u8 13,.int .u8 8,.int .u8 7,.int .u8 6])]
set_option maxRecDepth 100000
set_option maxHeartbeats 16000000
theorem qF{i n:Nat}(h:i<n):Nat.blt ((i:Nat):Int).toNat n=true:=Yp (by simp;omega)
theorem Ai{l:List Nat}{i d:Nat}(h:l[i]? = some d):(bX l)[((i:Nat):Int).toNat]? = some (.int .u32 (d:Int)):=by rw[Yl,Om,h];rfl
theorem Ia{l:List Nat}{i d:Nat}(h:l[i]? = some d):(bX l)[0+((i:Nat):Int).toNat]? = some (.int .u32 (d:Int)):=by rw[ZD];exact Ai h
theorem O9{j n:Nat}(h:j<=n):(Nat.ble 0 ((j:Nat):Int).toNat && (Nat.ble ((j:Nat):Int).toNat n && Nat.ble n n))=true:=by
 rw[Yl,Yp (Zd _),Yp h,Yp (Yy _)];rfl
theorem CC(l:List Nat)(hl:l.length<=4294967296):aT prog [] 39 [.il 1 (bX l)] (.il 1 (bX (fJ l))):=by
 refine aD bD func39 rfl ?_;refine Rr ?_;refine aZ.at bD (fun k:Nat=>k<=l.length/\fJ (l.take k)=fJ l) (fun k=>⟨[(0,.il 1 (bX (l.take k)))],[],0,21⟩) (fun k=>k) l.length [] ⟨Yy _,by rw[ZB]⟩
  (bL ⟨⟨_,rfl,.eq (.il' (a8 _)) (by rw[ZB])⟩,trivial⟩) ?_
 rintro k ⟨hk,ht⟩;refine Rr ?_;have hlk:(bX (l.take k)).length=k:=by rw[aX,ZT];omega
 rw[hlk];refine aH (fun hb=>?_) (fun hb=>?_)
 ·rw[hb];have hk0:0<k:=by simpa using hb
  obtain⟨j,rfl⟩:∃j,k=j+1:=⟨k-1,by omega⟩
  obtain⟨d,hd⟩:∃d,l[j]? = some d:=⟨_,Yj (by omega)⟩
  have hw:IntKind.i64.wrap (((j+1:Nat):Int)-1)=(j:Int):=by rw[bA ⟨by omega,by omega⟩];omega
  have hg:(l.take (j+1))[j]? = some d:=by rw[ZJ,Yt (by omega)];exact hd
  have e1:=Ai hg;have hts:fJ (l.take (j+1))=if d=0 then fJ (l.take j) else l.take (j+1):=by
   have e:=By hd;rw[e,y5]
  refine Rr ?_;rw[hlk,hw];refine aB e1 ?_;refine Rt ?_;refine aH (fun hc=>?_) (fun hc=>?_)
  ·have hd0:d=0:=by simpa using hc
   refine Rr ?_;rw[hlk,hw];refine aM (O9 (by omega)) ?_;refine Rr ?_;exact .mk j [] ⟨by omega,by rw[Yt hd0] at hts;rw[←hts];exact ht⟩ (bL ⟨⟨_,rfl,.eq (.il' (a8 _)) (by simp[bX,←List.map_take,aAM])⟩,trivial⟩) (by omega)
  ·refine Rr ?_;have hd0:d≠0:=by simpa using hc
   rw[Yo hd0] at hts;rw[←ht,hts];exact aA (.il' (a8 _)) ⟨rfl,rfl,rfl⟩
 ·try rw[hb]
  have hk0:k=0:=by simp at hb;omega
  subst hk0;refine Rr ?_;rw[←ht];exact aA (.il' (a8 _)) ⟨rfl,rfl,rfl⟩
theorem Xr(x y:Nat)(hx:(dg 4294967296 x).length<=4294967296):aT prog [] 63 [.il 1 (bX (dg 4294967296 x)),.il 1 (bX (dg 4294967296 y))] (.int .i64 (lJ x y)):=by
 refine aD bD func63 rfl ?_;refine Rr ?_;rw[aX,aX];have hB:(2:Nat)<=4294967296:=by decide
 have hla:=fP hB x;have hlb:=fP hB y;have hva:=gE hB x;have hvb:=gE hB y;have hL:(dg 4294967296 x).length<(dg 4294967296 y).length->lJ (x:Int) y = -1:=fun h=>by have:=pX hB h;unfold lJ;rw[Yt (by omega)]
 have hG:(dg 4294967296 y).length<(dg 4294967296 x).length->lJ (x:Int) y=1:=fun h=>by have:=pX hB h;unfold lJ;rw[Yo (by omega),Yt (by omega)]
 generalize dg 4294967296 x=a at *;generalize dg 4294967296 y=b at *;refine aH (fun hb=>?_) (fun hb=>?_)
 ·have hne:a.length≠b.length:=fun e=>by rw[e] at hb;simp at hb
  refine Rr ?_;rw[aX,aX];refine aH (fun hc=>?_) (fun hc=>?_)
  ·refine Rr ?_;rw[hL (by simpa using hc)];exact aA nn ⟨rfl,rfl,rfl⟩
  ·refine Rr ?_;rw[hG (by simp at hc;omega)];exact aA nn ⟨rfl,rfl,rfl⟩
 ·have heq:a.length=b.length:=by simp at hb;omega
  refine Rr ?_;refine aZ.at bD (fun m:Nat=>m<=a.length/\a.drop m=b.drop m) (fun m=>⟨[(0,.il 1 (bX a)),(1,.il 1 (bX b)),(5,.int .i64 ((m:Int)-1))],[],0,41⟩) (fun m=>m) a.length [] ⟨Yy _,by rw[Z6,heq,Z6]⟩
   (bL ⟨aN (.il' (a8 _)),aN (.il' (a8 _)),⟨_,rfl,.w64 (by rw[aX]) ⟨by omega,by omega⟩⟩,trivial⟩) ?_
  rintro m ⟨hm,hd⟩;refine Rr ?_;refine aH (fun hc=>?_) (fun hc=>?_)
  ·have hm1:0<m:=by simp at hc;omega
   obtain⟨i,rfl⟩:∃i,m=i+1:=⟨m-1,by omega⟩
   rw[show (((i+1:Nat):Int)-1)=(i:Int) by omega];obtain⟨u,hu⟩:∃u,a[i]? = some u:=⟨_,Yj (by omega)⟩
   obtain⟨v,hv⟩:∃v,b[i]? = some v:=⟨_,Yj (by omega)⟩
   have e1:=Ai hu;have e2:=Ai hv;refine Rr ?_;repeat((first|refine aB e1 ?_|refine aB e2 ?_|refine bO ?_);refine Rr ?_)
   refine aH (fun hc=>?_) (fun hc=>?_)
   ·have huv:u<v:=by simp at hc;omega
    have:=pS hla hB hd hu hv huv heq;refine Rr ?_;rw[show lJ (x:Int) y = -1 by unfold lJ;rw[Yt (by omega)]];exact aA nn ⟨rfl,rfl,rfl⟩
   ·refine Rr ?_;repeat((first|refine aB e1 ?_|refine aB e2 ?_|refine bO ?_);refine Rr ?_)
    refine aH (fun hc2=>?_) (fun hc2=>?_)
    ·have huv:v<u:=by simp at hc2;omega
     have:=pS hlb hB hd.symm hv hu huv heq.symm;refine Rr ?_;rw[show lJ (x:Int) y=1 by unfold lJ;rw[Yo (by omega),Yt (by omega)]];exact aA nn ⟨rfl,rfl,rfl⟩
    ·have huv:u=v:=by simp at hc hc2;omega
     refine Rr ?_;exact .mk i [] ⟨by omega,by
       obtain⟨h1,h2⟩:=Yn.1 hu;obtain⟨h3,h4⟩:=Yn.1 hv;rw[List.drop_eq_getElem_cons h1,List.drop_eq_getElem_cons h3,h2,h4,huv,hd]⟩
      (bL ⟨aN (.il' (a8 _)),aN (.il' (a8 _)),⟨_,rfl,.w64 rfl ⟨by omega,by omega⟩⟩,trivial⟩) (by omega)
  ·have hm0:m=0:=by simp at hc;omega
   subst hm0;simp only[ZI] at hd;subst hd;refine Rr ?_;rw[show lJ (x:Int) y=0 by rw[←hva,hvb];simp[lJ]];exact aA nn ⟨rfl,rfl,rfl⟩
set_option maxRecDepth 100000
set_option maxHeartbeats 16000000
def UV(c:Nat):aQ:=[(0,.row 156 1 [.int .u64 (c:Int)])]
theorem Af(x y c:Nat)(hx:x<4294967296)(hy:y<4294967296)(hc:c<4294967296):aF prog [] 174 [.int .u32 x,.int .u32 y,.ptr 0 0 0] (UV c) 1
  fun r m n=>r = .int .u32 (((c+(x+y))%4294967296:Nat):Int)/\m=UV ((c+(x+y))/4294967296)/\n=1:=by
 have e1:IntKind.u64.wrap (x:Int)=(x:Int):=uX (by omega);have e2:IntKind.u64.wrap (y:Int)=(y:Int):=uX (by omega);have e3:IntKind.u64.wrap ((x:Int)+(y:Int))=((x+y:Nat):Int):=by rw[←Int.natCast_add];exact uX (by omega)
 have e4:IntKind.u64.wrap ((c:Int)+((x+y:Nat):Int))=((c+(x+y):Nat):Int):=by rw[←Int.natCast_add];exact uX (by omega)
 refine aD bD func174 rfl ?_;refine Rr ?_;rw[e1,e2,e3,e4];refine Rr ?_;exact bF (n':=1) (m':=UV ((c+(x+y))/4294967296)) [(0,0)] rfl ⟨⟨0,_,rfl,rfl,.cons (.one rfl rfl (.int Q0)) .nil⟩,trivial⟩ (.int (V0 _)) ⟨rfl,rfl,rfl⟩
theorem CA{a b c:Bool}{n bytes:Nat}(ha:a=true)(hb:b=true)(hc:c=true)(h:n<=4294967296)(hby:Nat.ble bytes 4096=true) :
  (a && (b && (c && (decide (0<=(n:Int)) && (decide ((n:Int)<=n) && (decide ((bytes:Int)*n<=281474976710656) && decide ((n:Int)<=9223372036854775807)))))))=true:=by
 have hby:=Yq hby;have h3:bytes*n<=4096*4294967296:=Zs hby h;have h4:((bytes:Nat):Int)*(n:Int)=((bytes*n:Nat):Int):=by simp
 rw[ha,hb,hc,h4,Y0 (by omega),Y0 (by omega),Y0 (by omega),Y0 (by omega)];rfl
theorem B3(k:IntKind)(n:Int):kI [.int k n]:=fun a ha=>by
 rw[Z3.1 ha];exact .int _ _
theorem Mo{s:List Nat}{n:Nat}(h:s.length<n):(bX (gQ s n))[0+((s.length:Nat):Int).toNat]? = some (.int .u32 0):=Ia (P0 h)
theorem NB{s:List Nat}{n d:Nat}(h:s.length<n):(bX (gQ s n)).set (0+((s.length:Nat):Int).toNat) (.int .u32 (d:Int))=bX (gQ (s++[d]) n):=by
 rw[Yl,ZD,rZ,QP h]
theorem jQ{P:Nat->Prop}{l:List Nat}{d:Nat}(h:∀x∈l,P x)(hd:P d):∀x∈l++[d],P x:=fun x hx=>by
 rcases Yz.1 hx with hx|hx
 ·exact h x hx
 ·rw[Z3.1 hx];exact hd
theorem WQ(X Y:List Nat)(hX:∀d∈X,d<4294967296)(hY:∀d∈Y,d<4294967296)(hx:X.length<=1000000)(hy:Y.length<=1000000):aT prog [] 104 [.il 1 (bX X),.il 1 (bX Y)] (.il 1 (bX (dg 4294967296 (vl 4294967296 X+vl 4294967296 Y)))):=by
 have hB:(2:Nat)<=4294967296:=by decide
 refine aD bD func104 rfl ?_;refine Rr ?_;rw[aX,aX];rcases Y5 X.length Y.length with hxy|hxy
 ·rw[Y0 (by omega)];obtain⟨S,hS⟩:∃S,S=vl 4294967296 X+vl 4294967296 Y:=⟨_,rfl⟩
  rw[←hS];have hla:=hY;have hlb:=hX;have hsum:vl 4294967296 Y+vl 4294967296 X=S:=by omega
  generalize Y=a at *;generalize X=b at *;have hx:=hy;refine Rr ?_;have hw1:IntKind.i64.wrap (((bX a).length:Int)+1)=((a.length+1:Nat):Int):=by rw[aX,bA ⟨by omega,by omega⟩];omega
  rw[hw1];refine aM (CA rfl rfl rfl (by omega) rfl) ?_;refine Rt ?_;refine aZ.at bD (fun p:List Nat × Nat=>p.1.length<=b.length/\(∀d∈p.1,d<4294967296)/\p.2<=1/\vl 4294967296 p.1+4294967296 ^ p.1.length*p.2=vl 4294967296 (a.take p.1.length)+vl 4294967296 (b.take p.1.length))
   (fun p=>⟨[(0,.il 1 (bX a)),(1,.il 1 (bX b)),(5,.sl 0 0 (a.length+1)),(6,.ptr 1 0 0),(7,.fn (.func 174) [] [.ptr 1 0 0]),(23,.int .i64 b.length),(24,.int .i64 p.1.length)],[(0,.row 81 1 (bX (gQ p.1 (a.length+1)))),(1,.row 156 1 [.int .u64 (p.2:Int)])],2,66⟩)
   (fun p=>b.length-p.1.length) ([],0) [(0,0),(1,1)] ⟨by simp,by simp,by simp,by simp[vl]⟩
   (aE _ rfl ⟨⟨0,_,rfl,rfl,.eq (a8 _) (by simp[bX,gQ])⟩,aL 1 (B3 _ _),trivial⟩
    ⟨aN (.il' (a8 _)),aN (.il' (a8 _)),⟨_,rfl,.slE rfl (by simp)⟩,aG,⟨_,rfl,(.fn _ _ _ _ _ rfl rfl (by simp) (iB.cons (.ptr 1 1 0 0 rfl) .nil).2)⟩,⟨_,rfl,.int (by rw[aX])⟩,aK,trivial⟩) ?_
  rintro⟨s,c⟩ ⟨h1,h2,h3,h4⟩;simp only at h1 h2 h3 h4 ⊢;refine Rr ?_;refine aH (fun hb=>?_) (fun hb=>?_)
  ·have hlt:s.length<b.length:=by simpa using hb
   obtain⟨u,hu⟩:∃u,a[s.length]? = some u:=⟨_,Yj (by omega)⟩
   obtain⟨v,hv⟩:∃v,b[s.length]? = some v:=⟨_,Yj (by omega)⟩
   have hul:=hla _ (Yv hu);have hvl:=hlb _ (Yv hv);have g1:=Ai hu;have g2:=Ai hv;have g3:=Mo (s:=s) (n:=a.length+1) (by omega);have bi:=qF (i:=s.length) (n:=a.length+1) (by omega);refine Rr ?_;repeat((first|refine aB g1 ?_|refine aB g2 ?_|refine bO ?_);refine Rr ?_)
   refine aF.useN bD [(1,0)] (Af u v c hul hvl (by omega)) rfl (.s (.s (.cons (.ptr 1 0 0 0 rfl) .nil))) ⟨aL 1 (B3 _ _),trivial⟩ rfl ?_;rintro r' m' n' ⟨rfl,rfl,rfl⟩;refine⟨[(0,1)],_,[(1,.row 156 1 [.int .u64 (((c+(u+v))/4294967296:Nat):Int)])],16,.same _ nn,⟨aL 0 (B3 _ _),trivial⟩,rfl, ?_⟩;refine Rt ?_;repeat((first|refine aM bi ?_|refine aB g3 ?_);refine Rt ?_)
   have hstep:=vF (B:=4294967296) (by decide) (s:=s) (x:=u) (y:=v) rfl h4;have hdv:(c+(u+v))/4294967296<=1:=by omega
   have hmd:(c+(u+v))%4294967296<4294967296:=Z1 _ (by decide);exact .mk (s++[(c+(u+v))%4294967296],(c+(u+v))/4294967296) [(0,0),(1,1)] ⟨by simp;omega,jQ h2 hmd,hdv,by simp only[Y1,Zf];rw[jL hu,jL hv];exact hstep⟩
    (aE _ rfl ⟨⟨0,_,rfl,rfl,.eq (a8 _) (NB (by omega))⟩,aL 1 (B3 _ _),trivial⟩
     ⟨aN (.il' (a8 _)),aN (.il' (a8 _)),⟨_,rfl,.slE rfl rfl⟩,aG,⟨_,rfl,(.fn _ _ _ _ _ rfl rfl (by simp) (iB.cons (.ptr 1 1 0 0 rfl) .nil).2)⟩,aK,⟨_,rfl,.w64 (by simp) ⟨by simp;omega,by simp;omega⟩⟩,trivial⟩) (by simp;omega)
  ·skip;have hlt:s.length=b.length:=by simp at hb;omega
   rw[hlt,ZB] at h4;refine Rr ?_;refine aZ.at bD (fun p:List Nat × Nat=>b.length<=p.1.length/\p.1.length<=a.length/\(∀d∈p.1,d<4294967296)/\p.2<=1/\vl 4294967296 p.1+4294967296 ^ p.1.length*p.2=vl 4294967296 (a.take p.1.length)+vl 4294967296 b)
    (fun p=>⟨[(0,.il 1 (bX a)),(5,.sl 0 0 (a.length+1)),(6,.ptr 1 0 0),(7,.fn (.func 174) [] [.ptr 1 0 0]),(9,.int .i64 p.1.length)],[(0,.row 81 1 (bX (gQ p.1 (a.length+1)))),(1,.row 156 1 [.int .u64 (p.2:Int)])],2,66⟩)
    (fun p=>a.length-p.1.length) (s,c) [(0,0),(1,1)] ⟨by simp only;omega,by simp only;omega,h2,h3,by simp only;rw[hlt];exact h4⟩
    (aE _ rfl ⟨aL 0 (a8 _),aL 1 (B3 _ _),trivial⟩
     ⟨aN (.il' (a8 _)),⟨_,rfl,.slE rfl rfl⟩,aG,⟨_,rfl,(.fn _ _ _ _ _ rfl rfl (by simp) (iB.cons (.ptr 1 1 0 0 rfl) .nil).2)⟩,⟨_,rfl,.int (by rw[aX,hlt])⟩,trivial⟩) ?_
   clear h1 h2 h3 h4 hlt hb s c;rintro⟨s,c⟩ ⟨h0,h1,h2,h3,h4⟩;simp only at h0 h1 h2 h3 h4 ⊢;refine Rr ?_;rw[aX];refine aH (fun hb=>?_) (fun hb=>?_)
   ·have hlt:s.length<a.length:=by simpa using hb
    obtain⟨u,hu⟩:∃u,a[s.length]? = some u:=⟨_,Yj (by omega)⟩
    have hul:=hla _ (Yv hu);have g1:=Ai hu;have g3:=Mo (s:=s) (n:=a.length+1) (by omega);have bi:=qF (i:=s.length) (n:=a.length+1) (by omega);refine Rr ?_;repeat((first|refine aB g1 ?_|refine bO ?_);refine Rr ?_)
    refine aF.useN bD [(1,0)] (Af u 0 c hul (by decide) (by omega)) rfl (.s (.s (.cons (.ptr 1 0 0 0 rfl) .nil))) ⟨aL 1 (B3 _ _),trivial⟩ rfl ?_;rintro r' m' n' ⟨rfl,rfl,rfl⟩;refine⟨[(0,1)],_,[(1,.row 156 1 [.int .u64 (((c+(u+0))/4294967296:Nat):Int)])],2,.same _ nn,⟨aL 0 (B3 _ _),trivial⟩,rfl, ?_⟩;refine Rt ?_;repeat((first|refine aM bi ?_|refine aB g3 ?_);refine Rt ?_)
    have hstep:=vF (B:=4294967296) (by decide) (s:=s) (x:=u) (y:=0) rfl h4;have hdv:(c+(u+0))/4294967296<=1:=by omega
    have hmd:(c+(u+0))%4294967296<4294967296:=Z1 _ (by decide);exact .mk (s++[(c+(u+0))%4294967296],(c+(u+0))/4294967296) [(0,0),(1,1)] ⟨by simp;omega,by simp;omega,jQ h2 hmd,hdv,by simp only[Y1,Zf];rw[jL hu];simpa using hstep⟩
     (aE _ rfl ⟨⟨0,_,rfl,rfl,.eq (a8 _) (NB (by omega))⟩,aL 1 (B3 _ _),trivial⟩
      ⟨aN (.il' (a8 _)),⟨_,rfl,.slE rfl rfl⟩,aG,⟨_,rfl,(.fn _ _ _ _ _ rfl rfl (by simp) (iB.cons (.ptr 1 1 0 0 rfl) .nil).2)⟩,⟨_,rfl,.w64 (by simp) ⟨by simp;omega,by simp;omega⟩⟩,trivial⟩) (by simp;omega)
   ·have hlt:s.length=a.length:=by simp at hb;omega
    rw[hlt,ZB,hsum] at h4;have bi:=qF (i:=s.length) (n:=s.length+1) (by omega);have g3:=Mo (s:=s) (n:=s.length+1) (by omega);have hcw:IntKind.u32.wrap (c:Int)=(c:Int):=OS (by omega);have hz:fJ (s++[c])=dg 4294967296 S:=by
     rw[kT hB _ (jQ h2 (by omega)),AW,hlt,h4]
    refine Rr ?_;rw[aX,←hlt];refine Rs ?_;repeat((first|refine aM bi ?_|refine aB g3 ?_);refine Rt ?_)
    refine aF.pre bD [] (mem':=[]) rfl trivial (.cons (.fz' (id:=0) (ys:=bX (s++[c])) rfl rfl (by simp[aX,mD]) (by
     rw[hcw,NB (by omega),ZI,Yu (by rw[aX,mD]<;>simp)];simp[gQ]) (a8 _)) .nil) ?_
    refine(CC (s++[c]) (by simp;omega)).go ?_ (.cons (.il' (a8 _)) .nil) (.il' (a8 _));rw[hz];refine Rr ?_;exact aA (.il' (a8 _)) ⟨rfl,rfl,rfl⟩
 ·rw[ZC (by omega)];obtain⟨S,hS⟩:∃S,S=vl 4294967296 X+vl 4294967296 Y:=⟨_,rfl⟩
  rw[←hS];have hla:=hX;have hlb:=hY;have hsum:vl 4294967296 X+vl 4294967296 Y=S:=by omega
  generalize X=a at *;generalize Y=b at *;refine Rr ?_;have hw1:IntKind.i64.wrap (((bX a).length:Int)+1)=((a.length+1:Nat):Int):=by rw[aX,bA ⟨by omega,by omega⟩];omega
  rw[hw1];refine aM (CA rfl rfl rfl (by omega) rfl) ?_;refine Rt ?_;refine aZ.at bD (fun p:List Nat × Nat=>p.1.length<=b.length/\(∀d∈p.1,d<4294967296)/\p.2<=1/\vl 4294967296 p.1+4294967296 ^ p.1.length*p.2=vl 4294967296 (a.take p.1.length)+vl 4294967296 (b.take p.1.length))
   (fun p=>⟨[(0,.il 1 (bX a)),(1,.il 1 (bX b)),(5,.sl 0 0 (a.length+1)),(6,.ptr 1 0 0),(7,.fn (.func 174) [] [.ptr 1 0 0]),(23,.int .i64 b.length),(24,.int .i64 p.1.length)],[(0,.row 81 1 (bX (gQ p.1 (a.length+1)))),(1,.row 156 1 [.int .u64 (p.2:Int)])],2,66⟩)
   (fun p=>b.length-p.1.length) ([],0) [(0,0),(1,1)] ⟨by simp,by simp,by simp,by simp[vl]⟩
   (aE _ rfl ⟨⟨0,_,rfl,rfl,.eq (a8 _) (by simp[bX,gQ])⟩,aL 1 (B3 _ _),trivial⟩
    ⟨aN (.il' (a8 _)),aN (.il' (a8 _)),⟨_,rfl,.slE rfl (by simp)⟩,aG,⟨_,rfl,(.fn _ _ _ _ _ rfl rfl (by simp) (iB.cons (.ptr 1 1 0 0 rfl) .nil).2)⟩,⟨_,rfl,.int (by rw[aX])⟩,aK,trivial⟩) ?_
  rintro⟨s,c⟩ ⟨h1,h2,h3,h4⟩;simp only at h1 h2 h3 h4 ⊢;refine Rr ?_;refine aH (fun hb=>?_) (fun hb=>?_)
  ·have hlt:s.length<b.length:=by simpa using hb
   obtain⟨u,hu⟩:∃u,a[s.length]? = some u:=⟨_,Yj (by omega)⟩
   obtain⟨v,hv⟩:∃v,b[s.length]? = some v:=⟨_,Yj (by omega)⟩
   have hul:=hla _ (Yv hu);have hvl:=hlb _ (Yv hv);have g1:=Ai hu;have g2:=Ai hv;have g3:=Mo (s:=s) (n:=a.length+1) (by omega);have bi:=qF (i:=s.length) (n:=a.length+1) (by omega);refine Rr ?_;repeat((first|refine aB g1 ?_|refine aB g2 ?_|refine bO ?_);refine Rr ?_)
   refine aF.useN bD [(1,0)] (Af u v c hul hvl (by omega)) rfl (.s (.s (.cons (.ptr 1 0 0 0 rfl) .nil))) ⟨aL 1 (B3 _ _),trivial⟩ rfl ?_;rintro r' m' n' ⟨rfl,rfl,rfl⟩;refine⟨[(0,1)],_,[(1,.row 156 1 [.int .u64 (((c+(u+v))/4294967296:Nat):Int)])],16,.same _ nn,⟨aL 0 (B3 _ _),trivial⟩,rfl, ?_⟩;refine Rt ?_;repeat((first|refine aM bi ?_|refine aB g3 ?_);refine Rt ?_)
   have hstep:=vF (B:=4294967296) (by decide) (s:=s) (x:=u) (y:=v) rfl h4;have hdv:(c+(u+v))/4294967296<=1:=by omega
   have hmd:(c+(u+v))%4294967296<4294967296:=Z1 _ (by decide);exact .mk (s++[(c+(u+v))%4294967296],(c+(u+v))/4294967296) [(0,0),(1,1)] ⟨by simp;omega,jQ h2 hmd,hdv,by simp only[Y1,Zf];rw[jL hu,jL hv];exact hstep⟩
    (aE _ rfl ⟨⟨0,_,rfl,rfl,.eq (a8 _) (NB (by omega))⟩,aL 1 (B3 _ _),trivial⟩
     ⟨aN (.il' (a8 _)),aN (.il' (a8 _)),⟨_,rfl,.slE rfl rfl⟩,aG,⟨_,rfl,(.fn _ _ _ _ _ rfl rfl (by simp) (iB.cons (.ptr 1 1 0 0 rfl) .nil).2)⟩,aK,⟨_,rfl,.w64 (by simp) ⟨by simp;omega,by simp;omega⟩⟩,trivial⟩) (by simp;omega)
  ·skip;have hlt:s.length=b.length:=by simp at hb;omega
   rw[hlt,ZB] at h4;refine Rr ?_;refine aZ.at bD (fun p:List Nat × Nat=>b.length<=p.1.length/\p.1.length<=a.length/\(∀d∈p.1,d<4294967296)/\p.2<=1/\vl 4294967296 p.1+4294967296 ^ p.1.length*p.2=vl 4294967296 (a.take p.1.length)+vl 4294967296 b)
    (fun p=>⟨[(0,.il 1 (bX a)),(5,.sl 0 0 (a.length+1)),(6,.ptr 1 0 0),(7,.fn (.func 174) [] [.ptr 1 0 0]),(9,.int .i64 p.1.length)],[(0,.row 81 1 (bX (gQ p.1 (a.length+1)))),(1,.row 156 1 [.int .u64 (p.2:Int)])],2,66⟩)
    (fun p=>a.length-p.1.length) (s,c) [(0,0),(1,1)] ⟨by simp only;omega,by simp only;omega,h2,h3,by simp only;rw[hlt];exact h4⟩
    (aE _ rfl ⟨aL 0 (a8 _),aL 1 (B3 _ _),trivial⟩
     ⟨aN (.il' (a8 _)),⟨_,rfl,.slE rfl rfl⟩,aG,⟨_,rfl,(.fn _ _ _ _ _ rfl rfl (by simp) (iB.cons (.ptr 1 1 0 0 rfl) .nil).2)⟩,⟨_,rfl,.int (by rw[aX,hlt])⟩,trivial⟩) ?_
   clear h1 h2 h3 h4 hlt hb s c;rintro⟨s,c⟩ ⟨h0,h1,h2,h3,h4⟩;simp only at h0 h1 h2 h3 h4 ⊢;refine Rr ?_;rw[aX];refine aH (fun hb=>?_) (fun hb=>?_)
   ·have hlt:s.length<a.length:=by simpa using hb
    obtain⟨u,hu⟩:∃u,a[s.length]? = some u:=⟨_,Yj (by omega)⟩
    have hul:=hla _ (Yv hu);have g1:=Ai hu;have g3:=Mo (s:=s) (n:=a.length+1) (by omega);have bi:=qF (i:=s.length) (n:=a.length+1) (by omega);refine Rr ?_;repeat((first|refine aB g1 ?_|refine bO ?_);refine Rr ?_)
    refine aF.useN bD [(1,0)] (Af u 0 c hul (by decide) (by omega)) rfl (.s (.s (.cons (.ptr 1 0 0 0 rfl) .nil))) ⟨aL 1 (B3 _ _),trivial⟩ rfl ?_;rintro r' m' n' ⟨rfl,rfl,rfl⟩;refine⟨[(0,1)],_,[(1,.row 156 1 [.int .u64 (((c+(u+0))/4294967296:Nat):Int)])],2,.same _ nn,⟨aL 0 (B3 _ _),trivial⟩,rfl, ?_⟩;refine Rt ?_;repeat((first|refine aM bi ?_|refine aB g3 ?_);refine Rt ?_)
    have hstep:=vF (B:=4294967296) (by decide) (s:=s) (x:=u) (y:=0) rfl h4;have hdv:(c+(u+0))/4294967296<=1:=by omega
    have hmd:(c+(u+0))%4294967296<4294967296:=Z1 _ (by decide);exact .mk (s++[(c+(u+0))%4294967296],(c+(u+0))/4294967296) [(0,0),(1,1)] ⟨by simp;omega,by simp;omega,jQ h2 hmd,hdv,by simp only[Y1,Zf];rw[jL hu];simpa using hstep⟩
     (aE _ rfl ⟨⟨0,_,rfl,rfl,.eq (a8 _) (NB (by omega))⟩,aL 1 (B3 _ _),trivial⟩
      ⟨aN (.il' (a8 _)),⟨_,rfl,.slE rfl rfl⟩,aG,⟨_,rfl,(.fn _ _ _ _ _ rfl rfl (by simp) (iB.cons (.ptr 1 1 0 0 rfl) .nil).2)⟩,⟨_,rfl,.w64 (by simp) ⟨by simp;omega,by simp;omega⟩⟩,trivial⟩) (by simp;omega)
   ·have hlt:s.length=a.length:=by simp at hb;omega
    rw[hlt,ZB,hsum] at h4;have bi:=qF (i:=s.length) (n:=s.length+1) (by omega);have g3:=Mo (s:=s) (n:=s.length+1) (by omega);have hcw:IntKind.u32.wrap (c:Int)=(c:Int):=OS (by omega);have hz:fJ (s++[c])=dg 4294967296 S:=by
     rw[kT hB _ (jQ h2 (by omega)),AW,hlt,h4]
    refine Rr ?_;rw[aX,←hlt];refine Rs ?_;repeat((first|refine aM bi ?_|refine aB g3 ?_);refine Rt ?_)
    refine aF.pre bD [] (mem':=[]) rfl trivial (.cons (.fz' (id:=0) (ys:=bX (s++[c])) rfl rfl (by simp[aX,mD]) (by
     rw[hcw,NB (by omega),ZI,Yu (by rw[aX,mD]<;>simp)];simp[gQ]) (a8 _)) .nil) ?_
    refine(CC (s++[c]) (by simp;omega)).go ?_ (.cons (.il' (a8 _)) .nil) (.il' (a8 _));rw[hz];refine Rr ?_;exact aA (.il' (a8 _)) ⟨rfl,rfl,rfl⟩
theorem Xe(x y:Nat)(hx:(dg 4294967296 x).length<=1000000)(hy:(dg 4294967296 y).length<=1000000):aT prog [] 104 [.il 1 (bX (dg 4294967296 x)),.il 1 (bX (dg 4294967296 y))] (.il 1 (bX (dg 4294967296 (x+y)))):=by
 have hB:(2:Nat)<=4294967296:=by decide
 have h:=WQ _ _ (fP hB x) (fP hB y) hx hy;rw[gE hB,gE hB] at h;exact h
set_option maxRecDepth 100000
set_option maxHeartbeats 16000000
def IC(b n:Nat)(l:List Nat):aQ:=[(0,.row 156 1 [.int .u64 (b:Int)]),(1,.row 31 1 [.sl 2 0 n]),(2,.row 81 1 (bX l))]
theorem rF{mem:aQ}{σ:List (Nat × Nat)}{i j n m:Nat}(h:lk σ i=some j)(e:n=m):tL mem σ [.sl i 0 n] [.sl j 0 m]:=.cons (.one rfl rfl (.slE h e)) .nil
theorem X6{x y b:Nat}(hx:x<4294967296)(hy:y<4294967296)(hb:b<=1):IntKind.u32.wrap ((x:Int)-IntKind.u32.wrap ((y+b:Nat):Int))=((if y+b>x then x+4294967296-(y+b) else x-(y+b):Nat):Int):=by
 rw[V0,ID];split<;>omega
theorem Jf(l:List Nat)(i x y b n:Nat)(hn:l.length=n)(hi:l[i]? = some x)(hx:x<4294967296)(hy:y<4294967296)(hb:b<=1)(hnn:n<=1000000) :
  aF prog [] 175 [.int .i64 i,.int .u32 y,.ptr 0 0 0,.ptr 1 0 0] (IC b n l) 3
  fun r m k=>r = .tup []/\m=IC (if y+b>x then 1 else 0) n (l.set i (if y+b>x then x+4294967296-(y+b) else x-(y+b)))/\k=3:=by
 have hil:=(Yn.1 hi).1;have e1:IntKind.u64.wrap (y:Int)=(y:Int):=uX (by omega);have e2:IntKind.u64.wrap ((y:Int)+(b:Int))=((y+b:Nat):Int):=by rw[←Int.natCast_add];exact uX (by omega)
 have e3:IntKind.u64.wrap (x:Int)=(x:Int):=uX (by omega);have g:=Ia hi;have bi:=qF (i:=i) (n:=n) (by omega);refine aD bD func175 rfl ?_;refine Rr ?_;rw[e1,e2];repeat((first|refine aM bi ?_|refine aB g ?_|refine bO ?_);refine Rr ?_)
 rw[e3];have hW:=X6 hx hy hb;refine aH (fun hc=>?_) (fun hc=>?_)
 all_goals
  refine Rt ?_;repeat((first|refine aM bi ?_|refine aB g ?_);refine Rt ?_)
 ·have hc:y+b>x:=by simp at hc;omega
  rw[Yt hc] at hW ⊢;rw[Yt hc];exact bF (n':=3) (m':=IC 1 n (l.set i (x+4294967296-(y+b)))) [(0,0),(1,1),(2,2)] rfl ⟨aL 0 (B3 _ _),⟨1,_,rfl,rfl,rF rfl rfl⟩,⟨2,_,rfl,rfl,.eq (a8 _) (by rw[hW,Yl,ZD,rZ])⟩,trivial⟩ (.same _ nn) ⟨rfl,rfl,rfl⟩
 ·have hc:¬y+b>x:=by simp at hc;omega
  rw[Yo hc] at hW ⊢;rw[Yo hc];exact bF (n':=3) (m':=IC 0 n (l.set i (x-(y+b)))) [(0,0),(1,1),(2,2)] rfl ⟨aL 0 (B3 _ _),⟨1,_,rfl,rfl,rF rfl rfl⟩,⟨2,_,rfl,rfl,.eq (a8 _) (by rw[hW,Yl,ZD,rZ])⟩,trivial⟩ (.same _ nn) ⟨rfl,rfl,rfl⟩
theorem wD(B:Nat)(a:List Nat)(i:Nat)(hi:i<=a.length):vl B a=vl B (a.take i)+B ^ i*vl B (a.drop i):=Lv B a i hi
theorem Lj{s a:List Nat}{u:Nat}(h:a[s.length]? = some u):(s++a.drop s.length)[s.length]? = some u:=by
 rw[ZR (Yy _),aBx,ZY,aAr];exact h
theorem L6{s a:List Nat}{u:Nat}(h:a[s.length]? = some u)(d:Nat):(s++a.drop s.length).set s.length d=(s++[d])++a.drop (s++[d]).length:=by
 obtain⟨h1,h2⟩:=Yn.1 h;rw[aA1 _ _ (Yy _),aBx,List.drop_eq_getElem_cons h1,aBf,Y1,Zf];simp
theorem UE{a b:Bool}{n m k:Nat}(ha:a=true)(hb:b=true)(h1:n<=m)(h2:m<=k):(a && (b && (Nat.ble n m && Nat.ble m k)))=true:=by
 rw[ha,hb,Yp h1,Yp h2];rfl
theorem Wl(x y:Nat)(hxy:y<=x)(hx:(dg 4294967296 x).length<=1000000):aT prog [] 105 [.il 1 (bX (dg 4294967296 x)),.il 1 (bX (dg 4294967296 y))] (.il 1 (bX (dg 4294967296 (x-y)))):=by
 have hB:(2:Nat)<=4294967296:=by decide
 have hla:=fP hB x;have hlb:=fP hB y;have hva:=gE hB x;have hvb:=gE hB y;have hlen:(dg 4294967296 y).length<=(dg 4294967296 x).length:=dX hB hxy;generalize dg 4294967296 x=a at *;generalize dg 4294967296 y=b at *;refine aD bD func105 rfl ?_;refine Rr ?_;rw[aX];refine aM (CA rfl rfl rfl (by omega) rfl) ?_;refine Rt ?_;refine aM (UE rfl rfl (by rw[aX,Yl];omega) (by rw[Z5];omega)) ?_;refine Rt ?_;refine aZ.at bD (fun p:List Nat × Nat=>p.1.length<=b.length/\(∀d∈p.1,d<4294967296)/\p.2<=1/\vl 4294967296 p.1+vl 4294967296 (b.take p.1.length)=vl 4294967296 (a.take p.1.length)+4294967296 ^ p.1.length*p.2)
  (fun p=>⟨[(1,.il 1 (bX b)),(5,.ptr 1 0 0),(6,.ptr 0 0 0),(7,.fn (.func 175) [] [.ptr 0 0 0,.ptr 1 0 0]),(18,.il 1 (bX b)),(19,.int .i64 b.length),(20,.int .i64 p.1.length)],IC p.2 a.length (p.1++a.drop p.1.length),3,47⟩)
  (fun p=>b.length-p.1.length) ([],0) [(2,0),(1,1),(0,2)] ⟨by simp,by simp,by simp,by simp[vl]⟩
  (aE _ rfl ⟨aL 2 (B3 _ _),⟨1,_,rfl,rfl,rF rfl (by simp)⟩,⟨0,_,rfl,rfl,.eq (a8 _) (by simp[bX])⟩,trivial⟩
   ⟨aN (.il' (a8 _)),aG,aG,⟨_,rfl,(.fn _ _ _ _ _ rfl rfl (by simp) (iB.cons (.ptr 2 0 0 0 rfl) (.cons (.ptr 1 1 0 0 rfl) .nil)).2)⟩,aN (.il' (a8 _)),⟨_,rfl,.int (by rw[aX])⟩,aK,trivial⟩) ?_
 rintro⟨s,c⟩ ⟨h1,h2,h3,h4⟩;simp only at h1 h2 h3 h4 ⊢;refine Rr ?_;refine aH (fun hb=>?_) (fun hb=>?_)
 ·have hlt:s.length<b.length:=by simpa using hb
  obtain⟨u,hu⟩:∃u,a[s.length]? = some u:=⟨_,Yj (by omega)⟩
  obtain⟨v,hv⟩:∃v,b[s.length]? = some v:=⟨_,Yj (by omega)⟩
  have hul:=hla _ (Yv hu);have hvl:=hlb _ (Yv hv);have g2:=Ai hv;have hll:(s++a.drop s.length).length=a.length:=by simp;omega
  refine Rr ?_;repeat((first|refine aB g2 ?_|refine bO ?_);refine Rr ?_)
  refine aF.useN bD [(0,0),(1,1),(2,2)] (Jf _ s.length u v c a.length hll (Lj hu) hul hvl h3 (by omega)) rfl (.s (.s (.cons (.ptr 0 0 0 0 rfl) (.cons (.ptr 1 1 0 0 rfl) .nil)))) ⟨aL 0 (B3 _ _),⟨1,_,rfl,rfl,rF rfl rfl⟩,aL 2 (a8 _),trivial⟩ rfl ?_;rintro r' m' n' ⟨rfl,rfl,rfl⟩;rw[L6 hu];have hstep:=De (B:=4294967296) (s:=s) (x:=u) (y:=v) (b:=c) rfl h4 hul hvl h3;have hdg:=Bu (B:=4294967296) (x:=u) (y:=v) (b:=c) hul hvl h3;generalize (if v+c>u then u+4294967296-(v+c) else u-(v+c))=d at hstep hdg ⊢;have hbo:(if v+c>u then 1 else 0)<=1:=by split<;>omega
  generalize (if v+c>u then 1 else 0)=bo at hstep hbo ⊢;refine⟨[(0,0),(1,1),(2,2)],_,IC bo a.length ((s++[d])++a.drop (s++[d]).length),3,.same _ nn,⟨aL 0 (B3 _ _),⟨1,_,rfl,rfl,rF rfl rfl⟩,aL 2 (a8 _),trivial⟩,rfl, ?_⟩;refine Rr ?_;exact .mk (s++[d],bo) [(0,0),(1,1),(2,2)] ⟨by simp;omega,jQ h2 hdg,hbo,by simp only[Y1,Zf];rw[jL hu,jL hv];exact hstep⟩
   (aE _ rfl ⟨aL 0 (B3 _ _),⟨1,_,rfl,rfl,rF rfl rfl⟩,aL 2 (a8 _),trivial⟩
    ⟨aN (.il' (a8 _)),aG,aG,⟨_,rfl,(.fn _ _ _ _ _ rfl rfl (by simp) (iB.cons (.ptr 0 0 0 0 rfl) (.cons (.ptr 1 1 0 0 rfl) .nil)).2)⟩,aN (.il' (a8 _)),aK,⟨_,rfl,.w64 (by simp) ⟨by simp;omega,by simp;omega⟩⟩,trivial⟩) (by simp;omega)
 ·have hlt:s.length=b.length:=by simp at hb;omega
  rw[hlt,ZB,hvb] at h4;refine Rr ?_;refine aZ.at bD (fun p:List Nat × Nat=>p.1.length<=a.length/\(∀d∈p.1,d<4294967296)/\p.2<=1/\vl 4294967296 p.1+y=vl 4294967296 (a.take p.1.length)+4294967296 ^ p.1.length*p.2)
   (fun p=>⟨[(5,.ptr 1 0 0),(6,.ptr 0 0 0),(7,.fn (.func 175) [] [.ptr 0 0 0,.ptr 1 0 0]),(10,.int .i64 p.1.length)],IC p.2 a.length (p.1++a.drop p.1.length),3,47⟩)
   (fun p=>a.length-p.1.length) (s,c) [(0,0),(1,1),(2,2)] ⟨by simp only;omega,h2,h3,by simp only;rw[hlt];exact h4⟩
   (aE _ rfl ⟨aL 0 (B3 _ _),⟨1,_,rfl,rfl,rF rfl rfl⟩,aL 2 (a8 _),trivial⟩
    ⟨aG,aG,⟨_,rfl,(.fn _ _ _ _ _ rfl rfl (by simp) (iB.cons (.ptr 0 0 0 0 rfl) (.cons (.ptr 1 1 0 0 rfl) .nil)).2)⟩,⟨_,rfl,.int (by rw[aX,hlt])⟩,trivial⟩) ?_
  clear h1 h2 h3 h4 hlt hb s c;rintro⟨s,c⟩ ⟨h1,h2,h3,h4⟩;simp only at h1 h2 h3 h4 ⊢;refine Rr ?_;have hsp:=wD 4294967296 a s.length h1;refine aH (fun hb=>?_) (fun hb=>?_)
  ·rw[hb];have hlt:s.length<a.length:=by simpa using hb
   refine Rr ?_;refine aH (fun hc=>?_) (fun hc=>?_)
   ·obtain⟨u,hu⟩:∃u,a[s.length]? = some u:=⟨_,Yj (by omega)⟩
    have hul:=hla _ (Yv hu);have hll:(s++a.drop s.length).length=a.length:=by simp;omega
    refine Rt ?_;refine aF.useN bD [(0,0),(1,1),(2,2)] (Jf _ s.length u 0 c a.length hll (Lj hu) hul (by decide) h3 (by omega)) rfl (.s (.s (.cons (.ptr 0 0 0 0 rfl) (.cons (.ptr 1 1 0 0 rfl) .nil)))) ⟨aL 0 (B3 _ _),⟨1,_,rfl,rfl,rF rfl rfl⟩,aL 2 (a8 _),trivial⟩ rfl ?_;rintro r' m' n' ⟨rfl,rfl,rfl⟩;rw[L6 hu];have hstep:=De (B:=4294967296) (s:=s) (x:=u) (y:=0) (b:=c) rfl h4 hul (by decide) h3;have hdg:=Bu (B:=4294967296) (x:=u) (y:=0) (b:=c) hul (by decide) h3;generalize (if 0+c>u then u+4294967296-(0+c) else u-(0+c))=d at hstep hdg ⊢;have hbo:(if 0+c>u then 1 else 0)<=1:=by split<;>omega
    generalize (if 0+c>u then 1 else 0)=bo at hstep hbo ⊢;refine⟨[(0,0),(1,1),(2,2)],_,IC bo a.length ((s++[d])++a.drop (s++[d]).length),3,.same _ nn,⟨aL 0 (B3 _ _),⟨1,_,rfl,rfl,rF rfl rfl⟩,aL 2 (a8 _),trivial⟩,rfl, ?_⟩;refine Rr ?_;exact .mk (s++[d],bo) [(0,0),(1,1),(2,2)] ⟨by simp;omega,jQ h2 hdg,hbo,by simp only[Y1,Zf];rw[jL hu];simpa using hstep⟩
     (aE _ rfl ⟨aL 0 (B3 _ _),⟨1,_,rfl,rfl,rF rfl rfl⟩,aL 2 (a8 _),trivial⟩
      ⟨aG,aG,⟨_,rfl,(.fn _ _ _ _ _ rfl rfl (by simp) (iB.cons (.ptr 0 0 0 0 rfl) (.cons (.ptr 1 1 0 0 rfl) .nil)).2)⟩,⟨_,rfl,.w64 (by simp) ⟨by simp;omega,by simp;omega⟩⟩,trivial⟩) (by simp;omega)
   ·have hc0:c=0:=by simp at hc;omega
    subst hc0;have hV:vl 4294967296 (s++a.drop s.length)=x-y:=by rw[mK];omega
    refine Rt ?_;have hL:∀d∈s++a.drop s.length,d<4294967296:=fun d hd=>by
     rcases Yz.1 hd with hd|hd
     ·exact h2 d hd
     ·exact hla d (ZV hd)
    have hll:(s++a.drop s.length).length=a.length:=by simp;omega
    have hz:fJ (s++a.drop s.length)=dg 4294967296 (x-y):=by rw[kT hB _ hL,hV]
    refine aF.pre bD [] (mem':=[]) rfl trivial (.cons (.fz' (id:=2) (ys:=bX (s++a.drop s.length)) rfl rfl (by rw[aX,hll];omega) (by rw[ZI,Yu (by rw[aX,hll];omega)]) (a8 _)) .nil) ?_;refine(CC (s++a.drop s.length) (by rw[hll];omega)).go ?_ (.cons (.il' (a8 _)) .nil) (.il' (a8 _));rw[hz];refine Rr ?_;exact aA (.il' (a8 _)) ⟨rfl,rfl,rfl⟩
  ·rw[hb];have hlt:s.length=a.length:=by simp at hb;omega
   have hc0:c=0:=by
    rcases Y2 c with e|e
    ·exact e
    ·have hc1:c=1:=by omega
     have:=EB hB s h2;rw[hlt,ZB,hva,hc1] at h4;rw[hlt] at this;omega
   subst hc0;have hV:vl 4294967296 (s++a.drop s.length)=x-y:=by rw[mK];omega
   refine Rt ?_;have hL:∀d∈s++a.drop s.length,d<4294967296:=fun d hd=>by
    rcases Yz.1 hd with hd|hd
    ·exact h2 d hd
    ·exact hla d (ZV hd)
   have hll:(s++a.drop s.length).length=a.length:=by simp;omega
   have hz:fJ (s++a.drop s.length)=dg 4294967296 (x-y):=by rw[kT hB _ hL,hV]
   refine aF.pre bD [] (mem':=[]) rfl trivial (.cons (.fz' (id:=2) (ys:=bX (s++a.drop s.length)) rfl rfl (by rw[aX,hll];omega) (by rw[ZI,Yu (by rw[aX,hll];omega)]) (a8 _)) .nil) ?_;refine(CC (s++a.drop s.length) (by rw[hll];omega)).go ?_ (.cons (.il' (a8 _)) .nil) (.il' (a8 _));rw[hz];refine Rr ?_;exact aA (.il' (a8 _)) ⟨rfl,rfl,rfl⟩
set_option maxRecDepth 100000
set_option maxHeartbeats 16000000
theorem TO{x y p c:Nat}(hx:x<4294967296)(hy:y<4294967296)(hp:p<4294967296)(hc:c<4294967296):x*y<=18446744065119617025/\x*y+p<18446744073709551616/\c+(x*y+p)<18446744073709551616/\(c+(x*y+p))/4294967296<4294967296:=by
 have h:x*y<=4294967295*4294967295:=Zs (by omega) (by omega);refine⟨by omega,by omega,by omega, ?_⟩;rw[aAv (by omega)];omega
theorem uI{l:List Nat}{i k d:Nat}(h:i≠k):(l.set i d)[k]? = l[k]? := by rw[aAq,Yo h]
theorem Xn(x y:Nat)(hx:(dg 4294967296 x).length<=1000000)(hy:(dg 4294967296 y).length<=1000000):aT prog [] 55 [.il 1 (bX (dg 4294967296 x)),.il 1 (bX (dg 4294967296 y))] (.il 1 (bX (dg 4294967296 (x*y)))):=by
 have hB:(2:Nat)<=4294967296:=by decide
 have hla:=fP hB x;have hlb:=fP hB y;have hva:=gE hB x;have hvb:=gE hB y;generalize dg 4294967296 x=a at *;generalize dg 4294967296 y=b at *;refine aD bD func55 rfl ?_;refine Rr ?_;rw[aX,aX];have hw:IntKind.i64.wrap ((a.length:Int)+(b.length:Int))=((a.length+b.length:Nat):Int):=by rw[bA ⟨by omega,by omega⟩];omega
 rw[hw];refine aM (CA rfl rfl rfl (by omega) rfl) ?_;refine Rr ?_;refine aZ.at bD (fun p:Nat × List Nat=>p.1<=a.length/\p.2.length=a.length+b.length/\(∀d∈p.2,d<4294967296)/\vl 4294967296 p.2=vl 4294967296 (a.take p.1)*y/\∀k,p.1+b.length<=k->k<a.length+b.length->p.2[k]? = some 0)
  (fun p=>⟨[(1,.il 1 (bX b)),(5,.sl 0 0 (a.length+b.length)),(17,.il 1 (bX a)),(18,.int .i64 a.length),(19,.int .i64 p.1)],[(0,.row 81 1 (bX p.2))],1,67⟩)
  (fun p=>a.length-p.1) (0,List.replicate (a.length+b.length) 0) [(0,0)] ⟨by simp,by simp,by simp,by simp only;rw[Ag];simp[vl],fun k h1 h2=>by simp only;rw[aAe,Yt h2]⟩
  (aE _ rfl ⟨⟨0,_,rfl,rfl,.eq (a8 _) (by rw[E7,Yl])⟩,trivial⟩
   ⟨aN (.il' (a8 _)),⟨_,rfl,.slE rfl (Yl _)⟩,aN (.il' (a8 _)),⟨_,rfl,.int (by rw[aX])⟩,aK,trivial⟩) ?_
 rintro⟨i,P⟩ ⟨h1,h2,h3,h4,h5⟩;simp only at h1 h2 h3 h4 h5 ⊢;refine Rr ?_;refine aH (fun hb=>?_) (fun hb=>?_)
 ·have hlt:i<a.length:=by simpa using hb
  obtain⟨u,hu⟩:∃u,a[i]? = some u:=⟨_,Yj hlt⟩
  have hul:=hla _ (Yv hu);have g1:=Ai hu;refine Rr ?_;refine aB g1 ?_;refine Rr ?_;refine aZ.at bD (fun p:Nat × List Nat × Nat=>p.1<=b.length/\p.2.1.length=a.length+b.length/\(∀d∈p.2.1,d<4294967296)/\p.2.2<4294967296 /\
    vl 4294967296 p.2.1+4294967296 ^ (i+p.1)*p.2.2=vl 4294967296 (a.take i)*y+u*(4294967296 ^ i*vl 4294967296 (b.take p.1))/\∀k,i+b.length<=k->k<a.length+b.length->p.2.1[k]? = some 0)
   (fun p=>⟨[(1,.il 1 (bX b)),(5,.sl 0 0 (a.length+b.length)),(6,.int .i64 i),(7,.int .u32 u),(8,.int .u64 (p.2.2:Int)),(17,.il 1 (bX a)),(18,.int .i64 a.length),(19,.int .i64 i),(24,.il 1 (bX b)),(25,.int .i64 b.length),(26,.int .i64 p.1)],[(0,.row 81 1 (bX p.2.1))],1,67⟩)
   (fun p=>b.length-p.1) (0,P,0) [(0,0)] ⟨by simp,h2,h3,by simp,by simp only;rw[h4];simp[vl],h5⟩
   (aE _ rfl ⟨aL 0 (a8 _),trivial⟩
    ⟨aN (.il' (a8 _)),⟨_,rfl,.slE rfl rfl⟩,aK,aK,aK,aN (.il' (a8 _)),aK,aK,aN (.il' (a8 _)),⟨_,rfl,.int (by rw[aX])⟩,aK,trivial⟩) ?_
  rintro⟨j,Q,c⟩ ⟨h0,k2,k3,hc,k4,k5⟩;simp only at h0 k2 k3 hc k4 k5 ⊢;refine Rr ?_;refine aH (fun hb=>?_) (fun hb=>?_)
  ·have hlt2:j<b.length:=by simpa using hb
   obtain⟨v,hv⟩:∃v,b[j]? = some v:=⟨_,Yj hlt2⟩
   obtain⟨p,hp⟩:∃p,Q[i+j]? = some p:=⟨_,Yj (by omega)⟩
   have hvl:=hlb _ (Yv hv);have hpl:=k3 _ (Yv hp);have g2:=Ai hv;have g3:=Ia hp;have bi:=qF (i:=i+j) (n:=a.length+b.length) (by omega);obtain⟨q1,q2,q3,q4⟩:=TO hul hvl hpl hc;have e1:IntKind.u64.wrap (u:Int)=(u:Int):=uX (by omega);have e2:IntKind.u64.wrap (v:Int)=(v:Int):=uX (by omega);have e3:IntKind.u64.wrap ((u:Int)*(v:Int))=((u*v:Nat):Int):=by rw[←Int.natCast_mul];exact uX (by omega)
   have e4:IntKind.i64.wrap ((i:Int)+(j:Int))=((i+j:Nat):Int):=by rw[bA ⟨by omega,by omega⟩];omega
   have e5:IntKind.u64.wrap (p:Int)=(p:Int):=uX (by omega);have e6:IntKind.u64.wrap (((u*v:Nat):Int)+(p:Int))=((u*v+p:Nat):Int):=by rw[←Int.natCast_add];exact uX (by omega)
   have e7:IntKind.u64.wrap ((c:Int)+((u*v+p:Nat):Int))=((c+(u*v+p):Nat):Int):=by rw[←Int.natCast_add];exact uX (by omega)
   refine Rr ?_;refine aB g2 ?_;refine Rr ?_;rw[e1,e2,e3,e4];repeat((first|refine aM bi ?_|refine aB g3 ?_|refine bO ?_);refine Rr ?_)
   rw[e5,e6,e7];refine Rs ?_;repeat((first|rw[e4]|refine aM bi ?_|refine aB g3 ?_);refine Rt ?_)
   have hms:=It (B:=4294967296) hp k4 (y:=v);have hmd:(c+(u*v+p))%4294967296<4294967296:=Z1 _ (by decide);exact .mk (j+1,Q.set (i+j) ((c+(u*v+p))%4294967296),(c+(u*v+p))/4294967296) [(0,0)]
    ⟨by simp only;omega,by simp only[aAB];exact k2,HT k3 hmd,q4,by
      simp only;rw[jL hv,Nat.mul_add (4294967296 ^ i),←Nat.mul_assoc (4294967296 ^ i) (4294967296 ^ j),←Nat.pow_add];exact hms,fun k z1 z2=>by simp only;rw[uI (by omega)];exact k5 k z1 z2⟩
    (aE _ rfl ⟨⟨0,_,rfl,rfl,.eq (a8 _) (by rw[V0,Yl,ZD,rZ])⟩,trivial⟩
     ⟨aN (.il' (a8 _)),⟨_,rfl,.slE rfl rfl⟩,aK,aK,⟨_,rfl,.int Q0⟩,aN (.il' (a8 _)),aK,aK,aN (.il' (a8 _)),aK,⟨_,rfl,.w64 (by simp) ⟨by simp only;omega,by simp only;omega⟩⟩,trivial⟩) (by simp only;omega)
  ·have hj:j=b.length:=by simp at hb;omega
   subst hj;rw[ZB,hvb] at k4;have e4:IntKind.i64.wrap ((i:Int)+(b.length:Int))=((i+b.length:Nat):Int):=by rw[bA ⟨by omega,by omega⟩];omega
   have hp:=k5 (i+b.length) (by omega) (by omega);have g3:=Ia hp;have bi:=qF (i:=i+b.length) (n:=a.length+b.length) (by omega);have hvs:=HD 4294967296 Q (i+b.length) c 0 hp;refine Rr ?_;rw[aX,e4];refine Rs ?_;repeat((first|refine aM bi ?_|refine aB g3 ?_);refine Rt ?_)
   exact .mk (i+1,Q.set (i+b.length) c) [(0,0)]
    ⟨by simp only;omega,by simp only[aAB];exact k2,HT k3 hc,by
      simp only;rw[jL hu,Nat.add_mul,Nat.mul_assoc (4294967296 ^ i),aBi (4294967296 ^ i),←k4];omega,fun k z1 z2=>by simp only;rw[uI (by omega)];exact k5 k (by omega) z2⟩
    (aE _ rfl ⟨⟨0,_,rfl,rfl,.eq (a8 _) (by rw[OS hc,Yl,ZD,rZ])⟩,trivial⟩
     ⟨aN (.il' (a8 _)),⟨_,rfl,.slE rfl rfl⟩,aN (.il' (a8 _)),aK,⟨_,rfl,.w64 (by simp) ⟨by simp only;omega,by simp only;omega⟩⟩,trivial⟩) (by simp only;omega)
 ·have hi:i=a.length:=by simp at hb;omega
  subst hi;rw[ZB,hva] at h4;have hz:fJ P=dg 4294967296 (x*y):=by rw[kT hB _ h3,h4]
  refine Rr ?_;refine aF.pre bD [] (mem':=[]) rfl trivial (.cons (.fz' (id:=0) (ys:=bX P) rfl rfl (by rw[aX,h2];omega) (by rw[ZI,Yu (by rw[aX,h2];omega)]) (a8 _)) .nil) ?_;refine(CC P (by rw[h2];omega)).go ?_ (.cons (.il' (a8 _)) .nil) (.il' (a8 _));rw[hz];refine Rr ?_;exact aA (.il' (a8 _)) ⟨rfl,rfl,rfl⟩
set_option maxRecDepth 100000
set_option maxHeartbeats 16000000
theorem tY{B:Nat}(hB:2<=B):∀l:List Nat,(∀d∈l,d<B)->l=gQ (dg B (vl B l)) l.length
 | [],_=>by simp[vl,fV,gQ]
 | d::r,h=>by
  have ih:=tY hB r fun x hx=>h x (by simp[hx])
  have hd:=h d (by simp);rcases Y2 (d+B*vl B r) with e|e
  ·have hd0:d=0:=by omega
   have hv0:vl B r=0:=by
    rcases Y2 (vl B r) with h1|h1
    ·exact h1
    ·have:=aAX (show 0<B by omega) h1;omega
   rw[hv0,fV] at ih;rw[vl,hv0,hd0,aBH,ZD,fV]
   conv=>lhs;rw[ih]
   simp[gQ,Zt]
  ·rw[vl,Ld hB hd e]
   conv=>lhs;rw[ih]
   simp[gQ]
theorem Kv{z n:Nat}:fJ (gQ (dg 4294967296 z) n)=dg 4294967296 z:=by
 have hB:(2:Nat)<=4294967296:=by decide
 have hall:∀d∈gQ (dg 4294967296 z) n,d<4294967296:=fun d hd=>by
  rcases Yz.1 hd with h|h
  ·exact fP hB z d h
  ·rw[aAU h];decide
 rw[kT hB _ hall,LX,gE hB]
def rV(m:Nat)(R:List Nat):List Nat:=List.replicate m 0++R
theorem Im{i:Nat}{R:List Nat}:(rV (i+1) R)[i]? = some 0:=by
 unfold rV;rw[ZL (by simp),aAe,Yt (by omega)]
theorem Ik{i d:Nat}{R:List Nat}:(rV (i+1) R).set i d=rV i (d::R):=by
 unfold rV;rw[aBp,List.append_assoc,aA1 _ _ (by simp)];simp
theorem Pe(x d:Nat)(hx:(dg 4294967296 x).length<=1000000)(hd0:0<d)(hd:d<4294967296):aT prog [] 38 [.il 1 (bX (dg 4294967296 x)),.int .u32 d] (.tup [.il 1 (bX (gQ (dg 4294967296 (x/d)) (dg 4294967296 x).length)),.int .u32 ((x%d:Nat):Int)]):=by
 have hB:(2:Nat)<=4294967296:=by decide
 have hla:=fP hB x;have hva:=gE hB x;generalize dg 4294967296 x=a at *;refine aD bD func38 rfl ?_;refine Rr ?_;rw[aX];refine aM (CA rfl rfl rfl (by omega) rfl) ?_;refine Rr ?_;refine aZ.at bD (fun p:Nat × List Nat × Nat=>p.1<=a.length/\p.2.1.length=a.length-p.1/\(∀d∈p.2.1,d<4294967296)/\p.2.2<d/\vl 4294967296 (a.drop p.1)=vl 4294967296 p.2.1*d+p.2.2)
  (fun p=>⟨[(0,.il 1 (bX a)),(1,.int .u32 d),(6,.sl 0 0 a.length),(7,.int .u64 (p.2.2:Int)),(8,.int .i64 ((p.1:Int)-1))],[(0,.row 81 1 (bX (rV p.1 p.2.1)))],1,42⟩)
  (fun p=>p.1) (a.length,[],0) [(0,0)] ⟨by simp,by simp,by simp,hd0,by simp[vl]⟩
  (aE _ rfl ⟨⟨0,_,rfl,rfl,.eq (a8 _) (by simp[rV,E7])⟩,trivial⟩
   ⟨aN (.il' (a8 _)),aK,⟨_,rfl,.slE rfl (Yl _)⟩,aK,⟨_,rfl,.w64 (by rw[aX]) ⟨by simp only;omega,by simp only;omega⟩⟩,trivial⟩) ?_
 rintro⟨m,R,r⟩ ⟨h1,h2,h3,h4,h5⟩;simp only at h1 h2 h3 h4 h5 ⊢;refine Rr ?_;refine aH (fun hb=>?_) (fun hb=>?_)
 ·have hm1:0<m:=by simp at hb;omega
  obtain⟨i,rfl⟩:∃i,m=i+1:=⟨m-1,by omega⟩
  rw[show (((i+1:Nat):Int)-1)=(i:Int) by omega];obtain⟨u,hu⟩:∃u,a[i]? = some u:=⟨_,Yj (by omega)⟩
  have hul:=hla _ (Yv hu);have g1:=Ai hu;have g3:(bX (rV (i+1) R))[0+((i:Nat):Int).toNat]? = some (.int .u32 0):=Ia Im;have bi:=qF (i:=i) (n:=a.length) (by omega);have e1:IntKind.u64.wrap (u:Int)=(u:Int):=uX (by omega);have e2:IntKind.u64.wrap (d:Int)=(d:Int):=uX (by omega);have e3:bits BinOp.or IntKind.u64 (IntKind.u64.wrap ((r:Int)*2 ^ min (Int.toNat 32) IntKind.u64.bits)) (u:Int)=((r*4294967296+u:Nat):Int):=Ud (by omega) hul;obtain⟨s1,s2,s3⟩:=PA (B:=4294967296) (by decide) (x:=u) hd0 h5 h4;have s3:=s3 hul;refine Rr ?_;repeat((first|refine aB g1 ?_|refine bO ?_);refine Rr ?_)
  have hnd:(!decide ((d:Int)=0))=true:=by simp;omega
  have e4:IntKind.u64.wrap (((r*4294967296+u:Nat):Int).tdiv (d:Int))=(((r*4294967296+u)/d:Nat):Int):=by rw[o0];exact uX (by omega)
  have e5:IntKind.u64.wrap (((r*4294967296+u:Nat):Int).tmod (d:Int))=(((r*4294967296+u)%d:Nat):Int):=by rw[u5];exact uX (by omega)
  rw[e1,e2,e3,e4];refine aM hnd ?_;refine Rt ?_;repeat((first|refine aM bi ?_|refine aB g3 ?_);refine Rt ?_)
  try rw[e2]
  try rw[e5]
  refine aM hnd ?_;refine Rr ?_;exact .mk (i,(r*4294967296+u)/d::R,(r*4294967296+u)%d) [(0,0)]
   ⟨by simp only;omega,by simp only[ZH];omega,fun z hz=>by
     rcases Yr.1 hz with rfl|hz
     ·exact s3
     ·exact h3 z hz,s2,by simp only[vl];rw[pP hu];exact s1⟩
   (aE _ rfl ⟨⟨0,_,rfl,rfl,.eq (a8 _) (by rw[OS s3,Yl,ZD,rZ,Ik])⟩,trivial⟩
    ⟨aN (.il' (a8 _)),aK,⟨_,rfl,.slE rfl rfl⟩,aK,⟨_,rfl,.w64 rfl ⟨by simp only;omega,by simp only;omega⟩⟩,trivial⟩) (by simp only;omega)
 ·have hm0:m=0:=by simp at hb;omega
  subst hm0;rw[ZI,hva] at h5;obtain⟨q1,q2⟩:=JH (U:=x) (v:=d) (d:=vl 4294967296 R) (by rw[Nat.add_mul];omega) (by omega);have hR:rV 0 R=gQ (dg 4294967296 (x/d)) a.length:=by
   have:=tY hB R h3;rw[h2,Nat.sub_zero,←q1] at this;unfold rV;rw[List.replicate_zero,ZS];exact this
  have hr:x%d=r:=by omega
  have e6:IntKind.u32.wrap (r:Int)=(r:Int):=OS (by omega);refine Rr ?_;rw[hR,e6,hr];have hl:(gQ (dg 4294967296 (x/d)) a.length).length=a.length:=by rw[←hR];simp[rV];omega
  exact fL (r':=.tup [.il 1 (bX (gQ (dg 4294967296 (x/d)) a.length)),.int .u32 (r:Int)]) (.tup' (.cons (.fz' (id:=0) rfl rfl (by rw[aX,hl];omega) (by rw[ZI];exact Yu (by rw[aX,hl];omega)) (a8 _)) (.s .nil))) ⟨rfl,rfl,rfl⟩
set_option maxRecDepth 100000
set_option maxHeartbeats 16000000
set_option maxRecDepth 100000
set_option maxHeartbeats 16000000
theorem A2{L:List Nat}{n i u:Nat}(h:L[i]? = some u)(hi:i<n):(L.take n)[i]? = some u:=by rw[ZJ,Yt hi];exact h
set_option maxRecDepth 100000
set_option maxHeartbeats 16000000
set_option maxRecDepth 100000
set_option maxHeartbeats 16000000
set_option maxRecDepth 100000
set_option maxHeartbeats 16000000
set_option maxRecDepth 100000
set_option maxHeartbeats 16000000
set_option maxRecDepth 100000
set_option maxHeartbeats 16000000
set_option maxRecDepth 100000
set_option maxHeartbeats 16000000
structure Yh(qn lx V X m:Nat)(N R:List Nat):Prop where
 a1:m<=qn
 a2:N.length=lx+1
 a3:∀d∈N,d<4294967296
 a4:R.length=qn-m
 a5:∀d∈R,d<4294967296
 a6:vl 4294967296 R*4294967296 ^ m*V+vl 4294967296 N=X
 a7:vl 4294967296 N<V*4294967296 ^ m
set_option maxRecDepth 100000
set_option maxHeartbeats 16000000
theorem tB(b:Bool):NN (.bool b):=.bool b
theorem tU(l:List Nat):NN (.il 1 (bX l)):=.il' (a8 l)
theorem K8(n:Nat):fJ (dg 4294967296 n)=dg 4294967296 n:=by
 have hB:(2:Nat)<=4294967296:=by decide
 rw[kT hB _ (fP hB n),gE hB]
theorem Cz(neg:Bool)(n:Nat):kC (sg neg n) = .agg [.bool (neg && decide (0<n)),.il 1 (bX (dg 4294967296 n))]:=by
 unfold kC;rw[D2,Pd]
theorem HW(neg:Bool)(n:Nat)(hn:(dg 4294967296 n).length<=4294967296):aT prog [] 103 [.bool neg,.il 1 (bX (dg 4294967296 n))] (kC (sg neg n)):=by
 have ht:=CC (dg 4294967296 n) hn;rw[K8] at ht;have hw:=Cq (sg neg n);have hz:=gZ (B:=4294967296) (n:=n) (by decide);rw[Cz] at hw ⊢;generalize dg 4294967296 n=l at *;refine aD bD func103 rfl ?_;refine Rr ?_;refine ht.go ?_ (.cons (tU _) .nil) (tU _);have hlz:decide (((bX l).length:Int)>0)=decide (0<n):=by
  rw[aX,←hz,Ze];omega
 cases neg with
 | false=>
  refine Rt ?_;exact aA hw ⟨rfl,rfl,rfl⟩
 | true=>
  refine Rr ?_;rw[hlz];refine Rs ?_;exact aA hw ⟨rfl,rfl,rfl⟩
theorem WO:kC 0 = .agg [.bool false,.il 1 []]:=by simp[kC,fV,bX]
def FQ(z:Int):AV:=if oV z=true then .tup [kC z,.int .i64 0] else .tup [kC 0,.int .i64 4]
theorem TY(z:Int):NN (FQ z):=by
 unfold FQ;split
 ·exact .tup' (.cons (Cq _) (.cons nn .nil))
 ·exact .tup' (.cons (Cq _) (.cons nn .nil))
theorem LR(neg:Bool)(n:Nat)(hn:(dg 4294967296 n).length<=4294967296):aT prog [] 54 [.bool neg,.il 1 (bX (dg 4294967296 n))] (FQ (sg neg n)):=by
 have hm:=HW neg n hn;have hw:=Cq (sg neg n);have hr:=TY (sg neg n);have hf:oV (sg neg n)=decide ((dg 4294967296 n).length<=512):=by have:=@EG (sg neg n);rw[D2] at this;exact this
 rw[Cz] at hm hw;have hR:FQ (sg neg n)=if oV (sg neg n)=true then .tup [.agg [.bool (neg && decide (0<n)),.il 1 (bX (dg 4294967296 n))],.int .i64 0] else .tup [.agg [.bool false,.il 1 []],.int .i64 4]:=by rw[←Cz,←WO];rfl
 rw[hR] at hr ⊢;refine aD bD func54 rfl ?_;refine Rr ?_;refine hm.go ?_ (.cons (tB _) (.cons (tU _) .nil)) hw;refine Rr ?_;rw[aX];refine aH (fun hb=>?_) (fun hb=>?_)
 ·have hb:¬oV (sg neg n)=true:=by
   rw[hf];simp at hb;simp;omega
  rw[Yo hb] at hr ⊢;refine Rr ?_;exact fL (r':=.tup [.agg [.bool false,.il 1 []],.int .i64 4]) (.tup' (.cons (.agg' (.cons (.same _ (tB _)) (.cons (.nil 1) .nil))) (.s .nil))) ⟨rfl,rfl,rfl⟩
 ·have hb:oV (sg neg n)=true:=by
   rw[hf];simp at hb;simp;omega
  rw[Yt hb] at hr ⊢;refine Rt ?_;exact aA hr ⟨rfl,rfl,rfl⟩
set_option maxRecDepth 100000
set_option maxHeartbeats 16000000
theorem lD(x:Int):kC x = .agg [.bool (decide (x<0)),.il 1 (bX (dg 4294967296 x.natAbs))]:=rfl
theorem QF(x y:Int):sg (decide (x<0) != decide (y<0)) (x.natAbs*y.natAbs)=x*y:=by
 have ex:=GD x;have ey:=GD y
 conv=>rhs;rw[←ex,←ey]
 generalize decide (x<0)=a;generalize decide (y<0)=b;cases a<;>cases b<;>simp[sg,Int.neg_mul,aBq]
theorem FE(b:Bool)(l:List Nat):NN (.agg [.bool b,.il 1 (bX l)]):=.agg' (.cons (tB _) (.cons (tU _) .nil))
set_option maxRecDepth 100000
set_option maxHeartbeats 16000000
theorem Jl(z:Int):∃(b:Bool) (l:List Nat) (e:Int),FQ z = .tup [.agg [.bool b,.il 1 (bX l)],.int .i64 e]:=by
 unfold FQ;split
 ·exact⟨_,_,_,rfl⟩
 ·exact⟨_,_,_,rfl⟩
theorem We(x y:Int)(hx:(dg 4294967296 x.natAbs).length<=1000000)(hy:(dg 4294967296 y.natAbs).length<=1000000):aT prog [] 18 [kC x,kC y] (FQ (x*y)):=by
 have hm:=Xn x.natAbs y.natAbs hx hy;have hr:=LR (decide (x<0) != decide (y<0)) (x.natAbs*y.natAbs) (by have:=C3 (B:=4294967296) (by decide) x.natAbs y.natAbs;omega);rw[QF] at hr;obtain⟨b,l,e,he⟩:=Jl (x*y);rw[he] at hr ⊢;rw[lD x,lD y];generalize dg 4294967296 (x.natAbs*y.natAbs)=ab at *;generalize dg 4294967296 x.natAbs=a1 at *;generalize dg 4294967296 y.natAbs=a2 at *;generalize decide (x<0)=b1 at *;generalize decide (y<0)=b2 at *;refine aD bD func18 rfl ?_;refine Rt ?_;refine hm.go ?_ (.cons (tU _) (.cons (tU _) .nil)) (tU _);refine Rt ?_;refine hr.go ?_ (.cons (tB _) (.cons (tU _) .nil)) (.tup' (.cons (FE _ _) (.cons nn .nil)));refine Rt ?_;exact aA (.tup' (.cons (FE _ _) (.cons nn .nil))) ⟨rfl,rfl,rfl⟩
theorem Rg{x y:Int}(h:decide (x<0)=decide (y<0)):sg (decide (x<0)) (x.natAbs+y.natAbs)=x+y:=by
 unfold sg;by_cases h1:x<0
 ·have h2:y<0:=by rw[Y0 h1] at h;exact ZX h.symm
  simp[h1];omega
 ·have h2:¬y<0:=by rw[ZC h1] at h;exact aAg h.symm
  simp[h1];omega
theorem MU{x y:Int}(h:decide (x<0)≠decide (y<0))(hge:y.natAbs<=x.natAbs):sg (decide (x<0)) (x.natAbs-y.natAbs)=x+y:=by
 unfold sg;by_cases h1:x<0
 ·have h2:¬y<0:=fun h2=>h (by rw[Y0 h1,Y0 h2])
  simp[h1];omega
 ·have h2:y<0:=by
   rcases aBy y 0 with h2|h2
   ·exact h2
   ·exact absurd (by rw[ZC h1,ZC (by omega)]) h
  simp[h1];omega
theorem Vq(x y:Int)(hx:(dg 4294967296 x.natAbs).length<=1000000)(hy:(dg 4294967296 y.natAbs).length<=1000000):aT prog [] 53 [kC x,kC y] (kC (x+y)):=by
 have hB:(2:Nat)<=4294967296:=by decide
 have hc:=Xr x.natAbs y.natAbs (by omega);have ha:=Xe x.natAbs y.natAbs hx hy;have hma:=HW (decide (x<0)) (x.natAbs+y.natAbs) (by have:=He hB x.natAbs y.natAbs;omega);have hS1:=fun h=>Wl x.natAbs y.natAbs h hx
 have hS2:=fun h=>Wl y.natAbs x.natAbs h hy
 have hm1:=HW (decide (x<0)) (x.natAbs-y.natAbs) (by have:=Az hB x.natAbs y.natAbs;omega);have hm2:=HW (decide (y<0)) (y.natAbs-x.natAbs) (by have:=Az hB y.natAbs x.natAbs;omega);have q1:=fun h=>Rg (x:=x) (y:=y) h
 have q2:=fun h h2=>MU (x:=x) (y:=y) h h2
 have q3:=fun h h2=>MU (x:=y) (y:=x) h h2
 rw[Int.add_comm y x] at q3;have hcc:lJ (x.natAbs:Int) (y.natAbs:Int)≥0↔y.natAbs<=x.natAbs:=by unfold lJ;split<;>(try split)<;>omega
 generalize lJ (x.natAbs:Int) (y.natAbs:Int)=cj at *;rw[lD (x+y)];generalize hz1:decide (x+y<0)=rb at *;generalize hz2:dg 4294967296 (x+y).natAbs=rl at *;have hE:∀z,z=x+y->kC z = .agg [.bool rb,.il 1 (bX rl)]:=fun z hz=>by rw[hz,lD,hz1,hz2]
 rw[lD x,lD y];generalize dg 4294967296 (x.natAbs+y.natAbs)=as_ at *;generalize dg 4294967296 (x.natAbs-y.natAbs)=ad1 at *;generalize dg 4294967296 (y.natAbs-x.natAbs)=ad2 at *;generalize dg 4294967296 x.natAbs=a1 at *;generalize dg 4294967296 y.natAbs=a2 at *;generalize decide (x<0)=b1 at *;generalize decide (y<0)=b2 at *;refine aD bD func53 rfl ?_;refine Rr ?_;by_cases hb:b1=b2
 ·rw[hE _ (q1 hb)] at hma;rw[show (b1 == b2)=true by rw[hb];simp];refine Rt ?_;refine ha.go ?_ (.cons (tU _) (.cons (tU _) .nil)) (tU _);refine Rt ?_;refine hma.go ?_ (.cons (tB _) (.cons (tU _) .nil)) (FE _ _);refine Rt ?_;exact aA (FE _ _) ⟨rfl,rfl,rfl⟩
 ·rw[show (b1 == b2)=false by simpa using hb];refine Rr ?_;refine hc.go ?_ (.cons (tU _) (.cons (tU _) .nil)) nn;refine Rr ?_;refine aH (fun hcb=>?_) (fun hcb=>?_)
  ·have hge:=hcc.1 (by simpa using hcb);have hs:=hS1 hge;rw[hE _ (q2 hb hge)] at hm1;refine Rt ?_;refine hs.go ?_ (.cons (tU _) (.cons (tU _) .nil)) (tU _);refine Rt ?_;refine hm1.go ?_ (.cons (tB _) (.cons (tU _) .nil)) (FE _ _);refine Rt ?_;exact aA (FE _ _) ⟨rfl,rfl,rfl⟩
  ·have hlt:x.natAbs<=y.natAbs:=by
    have:¬cj≥0:=by simpa using hcb
    have:=fun h=>this (hcc.2 h)
    omega
   have hs:=hS2 hlt;rw[hE _ (q3 (fun h=>hb h.symm) hlt)] at hm2;refine Rt ?_;refine hs.go ?_ (.cons (tU _) (.cons (tU _) .nil)) (tU _);refine Rt ?_;refine hm2.go ?_ (.cons (tB _) (.cons (tU _) .nil)) (FE _ _);refine Rt ?_;exact aA (FE _ _) ⟨rfl,rfl,rfl⟩
set_option maxRecDepth 100000
set_option maxHeartbeats 16000000
theorem Wc(x y:Int)(hx:(dg 4294967296 x.natAbs).length<=900000)(hy:(dg 4294967296 y.natAbs).length<=900000):aT prog [] 17 [kC x,kC y] (FQ (x+y)):=by
 have hB:(2:Nat)<=4294967296:=by decide
 have ht:=Vq x y (by omega) (by omega);have hl:(dg 4294967296 (x+y).natAbs).length<=1000000:=by
  have h1:=Int.natAbs_add_le x y;have h2:=dX hB h1;have h3:=He hB x.natAbs y.natAbs;omega
 have hr:=LR (decide (x+y<0)) (x+y).natAbs (by omega);rw[GD] at hr;obtain⟨b,l,e,he⟩:=Jl (x+y);rw[he] at hr ⊢;rw[lD (x+y)] at ht;rw[lD x,lD y] at *;generalize dg 4294967296 (x+y).natAbs=ab at *;generalize dg 4294967296 x.natAbs=a1 at *;generalize dg 4294967296 y.natAbs=a2 at *;generalize decide (x+y<0)=bb at *;generalize decide (x<0)=b1 at *;generalize decide (y<0)=b2 at *;refine aD bD func17 rfl ?_;refine Rr ?_;refine ht.go ?_ (.cons (FE _ _) (.cons (FE _ _) .nil)) (FE _ _);refine Rt ?_;refine hr.go ?_ (.cons (tB _) (.cons (tU _) .nil)) (.tup' (.cons (FE _ _) (.cons nn .nil)));refine Rt ?_;exact aA (.tup' (.cons (FE _ _) (.cons nn .nil))) ⟨rfl,rfl,rfl⟩
set_option maxRecDepth 100000
set_option maxHeartbeats 16000000
theorem Dg{x y q r:Int}(hy:y≠0)(h:r+y*q=x)(h0:0<=r)(h1:r<y.natAbs):x/y=q/\x%y=r:=by
 rcases aBy y 0 with hn|hn
 ·obtain⟨b,rfl⟩:∃b,y = -b:=⟨-y,by omega⟩
  have:=(Int.ediv_emod_unique (a:=x) (b:=b) (r:=r) (q:=-q) (by omega)).2 ⟨by rw[aBq,←Int.neg_mul];exact h,h0,by omega⟩;rw[Int.ediv_neg,Int.emod_neg,this.1,this.2];exact⟨by omega,rfl⟩
 ·exact(Int.ediv_emod_unique (by omega)).2 ⟨h,h0,by omega⟩
theorem Ml{x y:Int}(hy:y≠0):(decide (x<0)=true/\0<x.natAbs%y.natAbs->x/y=sg (decide (x<0) != decide (y<0)) (x.natAbs/y.natAbs+1)/\x%y=((y.natAbs-x.natAbs%y.natAbs:Nat):Int)) /\
  (¬(decide (x<0)=true/\0<x.natAbs%y.natAbs)->x/y=sg (decide (x<0) != decide (y<0)) (x.natAbs/y.natAbs)/\x%y=((x.natAbs%y.natAbs:Nat):Int)):=by
 have hyp:0<y.natAbs:=aBN.2 hy;have hd:=aA9 x.natAbs y.natAbs;have hm:=Z1 x.natAbs hyp;have hd2:(y.natAbs:Int)*((x.natAbs/y.natAbs:Nat):Int)+((x.natAbs%y.natAbs:Nat):Int)=(x.natAbs:Int):=by rw[←Int.natCast_mul,←Int.natCast_add,hd]
 generalize x.natAbs/y.natAbs=Q at *;generalize x.natAbs%y.natAbs=R at *;constructor
 ·rintro⟨h1,h2⟩;have h1:=ZX h1;refine Dg hy ?_ (by omega) (by omega);rw[Y0 h1];rcases aBy y 0 with hn|hn
  ·rw[Y0 hn];rw[show (y.natAbs:Int) = -y by omega,Int.neg_mul] at hd2;simp only[sg,bne_self_eq_false,Z8,if_false,Int.natCast_add,Int.mul_add,Int.natCast_one,Int.mul_one];generalize y*(Q:Int)=P at *;omega
  ·rw[ZC (by omega)];rw[show (y.natAbs:Int)=y by omega] at hd2;simp only[sg,Bool.true_bne,Bool.not_false,if_true,Int.natCast_add,aBq,Int.mul_add,Int.natCast_one,Int.mul_one];generalize y*(Q:Int)=P at *;omega
 ·intro h;refine Dg hy ?_ (by omega) (by omega);by_cases h1:x<0
  ·have hR:R=0:=by
    rcases Y2 R with e|e
    ·exact e
    ·exact absurd ⟨Y0 h1,e⟩ h
   subst hR;rw[Y0 h1];rcases aBy y 0 with hn|hn
   ·rw[Y0 hn];rw[show (y.natAbs:Int) = -y by omega,Int.neg_mul] at hd2;simp only[sg,bne_self_eq_false,Z8,if_false];generalize y*(Q:Int)=P at *;omega
   ·rw[ZC (by omega)];rw[show (y.natAbs:Int)=y by omega] at hd2;simp only[sg,Bool.true_bne,Bool.not_false,if_true,aBq];generalize y*(Q:Int)=P at *;omega
  ·rw[ZC h1];rcases aBy y 0 with hn|hn
   ·rw[Y0 hn];rw[show (y.natAbs:Int) = -y by omega,Int.neg_mul] at hd2;simp only[sg,Bool.false_bne,if_true,aBq];generalize y*(Q:Int)=P at *;omega
   ·rw[ZC (by omega)];rw[show (y.natAbs:Int)=y by omega] at hd2;simp only[sg,bne_self_eq_false,Z8,if_false];generalize y*(Q:Int)=P at *;omega
set_option maxRecDepth 100000
set_option maxHeartbeats 16000000
set_option maxRecDepth 100000
set_option maxHeartbeats 16000000
theorem Vf(neg:Bool)(l:List Nat)(hl:l.length<=4294967296):aT prog [] 103 [.bool neg,.il 1 (bX l)] (.agg [.bool (neg && decide (0<(fJ l).length)),.il 1 (bX (fJ l))]):=by
 have ht:=CC l hl;generalize fJ l=z at *;refine aD bD func103 rfl ?_;refine Rr ?_;refine ht.go ?_ (.cons (tU _) .nil) (tU _);have hlz:decide (((bX z).length:Int)>0)=decide (0<z.length):=by
  rw[aX,Ze];omega
 cases neg with
 | false=>
  refine Rt ?_;exact aA (FE _ _) ⟨rfl,rfl,rfl⟩
 | true=>
  refine Rr ?_;rw[hlz];refine Rs ?_;exact aA (FE _ _) ⟨rfl,rfl,rfl⟩
theorem Pb(neg:Bool)(m:Nat)(hm:m<18446744073709551616):fJ [m%4294967296,m/4294967296]=dg 4294967296 m/\AV.agg [.bool (neg && decide (0<(fJ [m%4294967296,m/4294967296]).length)),.il 1 (bX (fJ [m%4294967296,m/4294967296]))]=kC (sg neg m):=by
 have e:fJ [m%4294967296,m/4294967296]=dg 4294967296 m:=by
  rw[kT (B:=4294967296) (by decide) _ (by intro d hd;simp at hd;omega)];congr 1;simp[vl];omega
 refine⟨e, ?_⟩;rw[e,Cz,gZ (by decide)]
theorem QI(n:Int)(hn:i64 n):aT prog [] 75 [.int .i64 n] (kC n):=by
 have hn':=hn;obtain⟨hn1,hn2⟩:=hn';have hm:=Vf (decide (n<0)) [n.natAbs%4294967296,n.natAbs/4294967296] (by simp);have h2:=(Pb (decide (n<0)) n.natAbs (by omega)).2;rw[h2,GD] at hm;rw[lD n] at hm ⊢;generalize dg 4294967296 n.natAbs=l at *;have hM:n.natAbs<18446744073709551616:=by omega
 have x1:IntKind.u32.wrap (n.natAbs:Int)=((n.natAbs%4294967296:Nat):Int):=V0 _;have x2:IntKind.u32.wrap ((n.natAbs:Int).fdiv (2 ^ 32))=((n.natAbs/4294967296:Nat):Int):=by rw[Q0,OS (by omega)]
 have step:∀(X:Int),X=(n.natAbs:Int)->bX [n.natAbs%4294967296,n.natAbs/4294967296]=[AV.int IntKind.u32 (IntKind.u32.wrap X),AV.int IntKind.u32 (IntKind.u32.wrap (X.fdiv (2 ^ 32)))]:=fun X hX=>by rw[hX,x1,x2];rfl
 refine aD bD func75 rfl ?_;refine Rr ?_;refine aH (fun hb=>?_) (fun hb=>?_)
 ·rw[hb] at hm ⊢;have hs:=step (IntKind.u64.wrap (0-IntKind.u64.wrap n)) (by have:=ZX hb;rw[Go.Ax.d6,Go.Ax.d6];omega);refine Rr ?_;rw[hb];refine aF.pre bD [(0,0)] (mem':=[(0,.row 33 2 [.agg [.bool false,.nsl]])]) rfl ⟨aL 0 (.cons (.agg' (.cons (tB _) (.cons nn .nil))) .nil),trivial⟩
   (.cons (.same _ (tB _)) (.cons (.fz' (id:=1) (off:=0) (len:=2) (ys:=bX [n.natAbs%4294967296,n.natAbs/4294967296]) rfl rfl (Yy 2) hs.symm (a8 _)) .nil)) ?_
  refine hm.go ?_ (.cons (tB _) (.cons (tU _) .nil)) (FE _ _);refine Rt ?_;exact aA (FE _ _) ⟨rfl,rfl,rfl⟩
 ·rw[hb] at hm ⊢;have hs:=step (IntKind.u64.wrap n) (by have:=aAg hb;rw[Go.Ax.d6];omega);generalize IntKind.u64.wrap n=X at *;refine Rr ?_;rw[hb];refine aF.pre bD [(0,0)] (mem':=[(0,.row 33 2 [.agg [.bool false,.nsl]])]) rfl ⟨aL 0 (.cons (.agg' (.cons (tB _) (.cons nn .nil))) .nil),trivial⟩
   (.cons (.same _ (tB _)) (.cons (.fz' (id:=1) (off:=0) (len:=2) (ys:=bX [n.natAbs%4294967296,n.natAbs/4294967296]) rfl rfl (Yy 2) hs.symm (a8 _)) .nil)) ?_
  refine hm.go ?_ (.cons (tB _) (.cons (tU _) .nil)) (FE _ _);refine Rt ?_;exact aA (FE _ _) ⟨rfl,rfl,rfl⟩
end Go.Proofs.YtidjhgajglebnaaGreatDoor
namespace Go.Ax
open Go
theorem ML(k m:Nat)(e:40*k=m):mO k=2 ^ m:=by subst e;rfl
theorem Ov{n k m:Nat}(h:n<=mO k)(e:40*k=m)(hm:m<16384):oV (n:Int)=true:=by
 rw[ML k m e] at h;exact TZ (n:=m) (by rw[Zc];exact h) hm
end Go.Ax
