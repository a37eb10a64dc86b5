/- A part of the proof. -/
import Derived.Test.YtidjhgajglebnaaGreatDoorAx17
set_option linter.unusedVariables false
set_option linter.unusedSimpArgs false
namespace Go.Proofs.YtidjhgajglebnaaGreatDoor
open Go Go.Ax Go.Proofs Tryz
set_option maxRecDepth 100000
set_option maxHeartbeats 16000000
theorem hT:(2:Nat)<=10000:=by decide
theorem tD(l:List Nat):NN (.il 1 (bN l)):=.il' (dP l)
theorem sW(b:Bool):NN (.bool b):=.bool b
theorem g6(b:Bool)(l:List Nat):NN (.agg [.bool b,.il 1 (bN l)]):=.agg' (.cons (sW _) (.cons (tD _) .nil))
theorem Tl:kH [.agg [.bool false,.nsl]]:=.cons (.agg' (.cons (sW _) (.cons .nsl .nil))) .nil
theorem d6(x:Int):eR x = .agg [.bool (decide (x<0)),.il 1 (bN (dg 10000 x.natAbs))]:=rfl
theorem Nr(neg:Bool)(n:Nat):eR (sg neg n) = .agg [.bool (neg && decide (0<n)),.il 1 (bN (dg 10000 n))]:=by
 unfold eR;rw[Cw,M9]
theorem xE{l:List Nat}{i d:Nat}(h:l[i]? = some d):(bN l)[((i:Nat):Int).toNat]? = some (.int .i64 (d:Int)):=by rw[T4,MX,h];rfl
theorem Lx{l:List Nat}{i d:Nat}(h:l[i]? = some d):(bN l)[0+((i:Nat):Int).toNat]? = some (.int .i64 (d:Int)):=by rw[UT];exact xE h
theorem K7(l:List Nat)(k:Nat):(bN l).drop k=bN (l.drop k):=by unfold bN;rw[List.map_drop]
theorem NJ(neg:Bool)(l:List Nat)(hl:l.length<=4294967296):aZ prog [] 121 [.bool neg,.il 1 (bN l)] (.agg [.bool (neg && decide (0<(eG l).length)),.il 1 (bN (eG l))]):=by
 refine aG bB func121 rfl ?_;refine Rr ?_;refine bA.at bB (fun k:Nat=>k<=l.length/\eG (l.take k)=eG l) (fun k=>⟨[(0,.bool neg),(1,.il 1 (bN (l.take k))),(4,.ptr 0 0 0)],[(0,.row 44 2 [.agg [.bool false,.nsl]])],1,30⟩) (fun k=>k) l.length [(0,0)] ⟨UC _,by rw[UM]⟩
  (aF _ rfl ⟨aK 0 Tl,trivial⟩ ⟨aQ (sW _),⟨_,rfl,.eq (tD _) (by rw[UM])⟩,aI,trivial⟩) ?_
 rintro k ⟨hk,ht⟩;refine Rr ?_;have hlk:(bN (l.take k)).length=k:=by rw[aP,U4];omega
 rw[hlk];refine aD (fun hb=>?_) (fun hb=>?_)
 ·rw[hb];have hk0:0<k:=by simpa using hb
  obtain⟨j,rfl⟩:∃j,k=j+1:=⟨k-1,by omega⟩
  obtain⟨d,hd⟩:∃d,l[j]? = some d:=⟨_,Ty (by omega)⟩
  have hw:IntKind.i64.wrap (((j+1:Nat):Int)-1)=(j:Int):=by rw[bE ⟨by omega,by omega⟩];omega
  have hg:(l.take (j+1))[j]? = some d:=by rw[Ua,T7 (by omega)];exact hd
  have e1:=xE hg;have hts:eG (l.take (j+1))=if d=0 then eG (l.take j) else l.take (j+1):=by
   have e:=zC hd;rw[e,vO]
  refine Rr ?_;rw[hlk,hw];refine aC e1 ?_;refine Rt ?_;refine aD (fun hc=>?_) (fun hc=>?_)
  ·have hd0:d=0:=by simpa using hc
   refine Rr ?_;rw[hlk,hw];refine aM (NC (by omega)) ?_;refine Rr ?_;exact .mk j [(0,0)] ⟨by omega,by rw[T7 hd0] at hts;rw[←hts];exact ht⟩ (aF _ rfl ⟨aK 0 Tl,trivial⟩ ⟨aQ (sW _),⟨_,rfl,.eq (tD _) (by simp[bN,←List.map_take,WF])⟩,aI,trivial⟩) (by omega)
  ·have hd0:d≠0:=by simpa using hc
   rw[T5 hd0] at hts;rw[hts] at ht;rw[←ht];generalize hL:l.take (j+1)=L at *;have hpos:decide (((bN L).length:Int)>0)=decide (0<L.length):=by rw[aP,Va];omega
   cases neg with
   | false=>
    refine Rt ?_;exact aA (g6 _ _) ⟨rfl,rfl,rfl⟩
   | true=>
    refine Rr ?_;rw[hpos];refine Rs ?_;exact aA (g6 _ _) ⟨rfl,rfl,rfl⟩
 ·try rw[hb]
  have hk0:k=0:=by simp at hb;omega
  subst hk0;rw[←ht];generalize hL:l.take 0=L at *;have hL0:L=[]:=by rw[←hL];rfl
  subst hL0;have hpos:decide ((((bN []):List AV).length:Int)>0)=false:=by rfl
  cases neg with
  | false=>
   refine Rt ?_;exact aA (g6 _ _) ⟨rfl,rfl,rfl⟩
  | true=>
   refine Rt ?_;exact aA (g6 _ _) ⟨rfl,rfl,rfl⟩
theorem mU(neg:Bool)(l:List Nat)(n:Nat)(hl:l.length<=4294967296)(hd:∀d∈l,d<10000)(hv:vl 10000 l=n):aZ prog [] 121 [.bool neg,.il 1 (bN l)] (eR (sg neg n)):=by
 have h:=NJ neg l hl;have e:eG l=dg 10000 n:=by rw[kQ hT _ hd,hv]
 rw[e] at h;rw[Nr,←kF hT];exact h
theorem Dj(x y:Nat)(hx:(dg 10000 x).length<=4294967296):aZ prog [] 142 [.il 1 (bN (dg 10000 x)),.il 1 (bN (dg 10000 y))] (.int .i64 (Go.Ax.f0 x y)):=by
 refine aG bB func142 rfl ?_;refine Rr ?_;rw[aP,aP];have hB:=hT;have hla:=eS hB x;have hlb:=eS hB y;have hva:=fK hB x;have hvb:=fK hB y;have hL:(dg 10000 x).length<(dg 10000 y).length->Go.Ax.f0 (x:Int) y = -1:=fun h=>by have:=nG hB h;unfold Go.Ax.f0;rw[T7 (by omega)]
 have hG:(dg 10000 y).length<(dg 10000 x).length->Go.Ax.f0 (x:Int) y=1:=fun h=>by have:=nG hB h;unfold Go.Ax.f0;rw[T5 (by omega),T7 (by omega)]
 generalize dg 10000 x=a at *;generalize dg 10000 y=b at *;refine aD (fun hb=>?_) (fun hb=>?_)
 ·refine Rr ?_;rw[hL (by simpa using hb)];exact aA nn ⟨rfl,rfl,rfl⟩
 ·refine Rr ?_;rw[aP,aP];refine aD (fun hc=>?_) (fun hc=>?_)
  ·refine Rr ?_;rw[hG (by simp at hc;omega)];exact aA nn ⟨rfl,rfl,rfl⟩
  have heq:a.length=b.length:=by simp at hb hc;omega
  refine Rr ?_;refine bA.at bB (fun m:Nat=>m<=a.length/\a.drop m=b.drop m) (fun m=>⟨[(0,.il 1 (bN a)),(1,.il 1 (bN b)),(5,.int .i64 ((m:Int)-1))],[],0,41⟩) (fun m=>m) a.length [] ⟨UC _,by rw[Vh,heq,Vh]⟩
   (bV ⟨aQ (tD _),aQ (tD _),⟨_,rfl,.w64 (by rw[aP]) ⟨by omega,by omega⟩⟩,trivial⟩) ?_
  rintro m ⟨hm,hd⟩;refine Rr ?_;refine aD (fun hc=>?_) (fun hc=>?_)
  ·have hm1:0<m:=by simp at hc;omega
   obtain⟨i,rfl⟩:∃i,m=i+1:=⟨m-1,by omega⟩
   rw[show (((i+1:Nat):Int)-1)=(i:Int) by omega];obtain⟨u,hu⟩:∃u,a[i]? = some u:=⟨_,Ty (by omega)⟩
   obtain⟨v,hv⟩:∃v,b[i]? = some v:=⟨_,Ty (by omega)⟩
   have e1:=xE hu;have e2:=xE hv;refine Rr ?_;repeat((first|refine aC e1 ?_|refine aC e2 ?_|refine bH ?_);refine Rr ?_)
   refine aD (fun hc=>?_) (fun hc=>?_)
   ·have huv:u<v:=by simp at hc;omega
    have:=mZ hla hB hd hu hv huv heq;refine Rr ?_;rw[show Go.Ax.f0 (x:Int) y = -1 by unfold Go.Ax.f0;rw[T7 (by omega)]];exact aA nn ⟨rfl,rfl,rfl⟩
   ·refine Rr ?_;repeat((first|refine aC e1 ?_|refine aC e2 ?_|refine bH ?_);refine Rr ?_)
    refine aD (fun hc2=>?_) (fun hc2=>?_)
    ·have huv:v<u:=by simp at hc2;omega
     have:=mZ hlb hB hd.symm hv hu huv heq.symm;refine Rr ?_;rw[show Go.Ax.f0 (x:Int) y=1 by unfold Go.Ax.f0;rw[T5 (by omega),T7 (by omega)]];exact aA nn ⟨rfl,rfl,rfl⟩
    ·have huv:u=v:=by simp at hc hc2;omega
     refine Rr ?_;exact .mk i [] ⟨by omega,by
       obtain⟨h1,h2⟩:=T0.1 hu;obtain⟨h3,h4⟩:=T0.1 hv;rw[UU h1,UU h3,h2,h4,huv,hd]⟩
      (bV ⟨aQ (tD _),aQ (tD _),⟨_,rfl,.w64 rfl ⟨by omega,by omega⟩⟩,trivial⟩) (by omega)
  ·have hm0:m=0:=by simp at hc;omega
   subst hm0;simp only[Ub] at hd;subst hd;refine Rr ?_;rw[show Go.Ax.f0 (x:Int) y=0 by rw[←hva,hvb];simp[Go.Ax.f0]];exact aA nn ⟨rfl,rfl,rfl⟩
theorem Rv(x:Int)(hx:(dg 10000 x.natAbs).length<=4294967296):aZ prog [] 203 [eR x] (eR (-x)):=by
 have h:=mU (!decide (x<0)) (dg 10000 x.natAbs) x.natAbs hx (eS hT _) (fK hT _);have e:sg (!decide (x<0)) x.natAbs = -x:=by
  unfold sg;by_cases h:x<0
  ·simp[h];omega
  ·simp[h];omega
 rw[e,d6 (-x)] at h;rw[d6 x,d6 (-x)];generalize decide (-x<0)=b2 at *;generalize dg 10000 (-x).natAbs=a2 at *;generalize dg 10000 x.natAbs=a at *;generalize decide (x<0)=b at *;refine aG bB func203 rfl ?_;refine Rr ?_;refine h.go ?_ (.cons (sW _) (.cons (tD _) .nil)) (g6 _ _);refine Rt ?_;exact aA (g6 _ _) ⟨rfl,rfl,rfl⟩
theorem Sx(l:List Nat)(i:Nat)(hl:l.length<=4294967296):aZ prog [] 200 [.il 1 (bN l),.int .i64 i] (.int .i64 (l.getD i 0:Nat)):=by
 refine aG bB func200 rfl ?_;refine Rr ?_;rw[aP];refine aD (fun hb=>?_) (fun hb=>?_)
 ·have hlt:i<l.length:=by simpa using hb
  obtain⟨d,hd⟩:∃d,l[i]? = some d:=⟨_,Ty hlt⟩
  have e1:=xE hd;refine Rr ?_;refine aC e1 ?_;refine Rr ?_;exact gL (r':=.int .i64 (l.getD i 0:Nat)) (.int (by rw[T1,hd];rfl)) ⟨rfl,rfl,rfl⟩
 ·have hge:l.length<=i:=by simp at hb;omega
  refine Rr ?_;exact gL (r':=.int .i64 (l.getD i 0:Nat)) (.int (by rw[T1,UE hge];rfl)) ⟨rfl,rfl,rfl⟩
set_option maxHeartbeats 16000000
theorem Nh(neg:Bool)(m:Nat):sg neg m=0↔m=0:=by unfold sg;split<;>omega
theorem tQ(l:List Nat)(d:Nat):bN (l++[d])=bN l++[.int .i64 (d:Int)]:=by rw[MO];rfl
theorem nN(b:Bool):kH [.agg [.bool b,.nsl]]:=.cons (.agg' (.cons (sW _) (.cons .nsl .nil))) .nil
theorem Om{m:Nat}(h:0<m):dg 10000 m=(m%10000)::dg 10000 (m/10000):=oS hT h
theorem Tu(n:Int)(hn:i64 n):aZ prog [] 66 [.int .i64 n] (eR n):=by
 obtain⟨hn1,hn2⟩:=hn;have hlen:(dg 10000 n.natAbs).length<=5:=hZ hT (by omega);have hno:=mU (decide (n<0)) (dg 10000 n.natAbs) n.natAbs (by omega) (eS hT _) (fK hT _);rw[De] at hno;have hsg:=De n;obtain⟨N,hN⟩:∃N,N=n.natAbs:=⟨_,rfl⟩
 have hNb:N<=9223372036854775808:=by omega
 rw[←hN] at hsg hno hlen;generalize hneg:decide (n<0)=neg at *;refine aG bB func66 rfl ?_;refine Rr ?_;rw[hneg];refine bA.ph 3 1 ?_;refine bA.at bB (fun p:List Nat × Nat=>p.1++dg 10000 p.2=dg 10000 N/\p.2<=N)
  (fun p=>⟨[(0,.int .i64 (sg neg p.2)),(2,.ptr 0 0 0),(3,.sl 1 0 p.1.length),(4,.bool neg)],[(0,.row 44 2 [.agg [.bool false,.nsl]]),(1,.row 3 1 (bN p.1))],2,25⟩)
  (fun p=>p.2) ([],N) [(0,0),(1,1)] ⟨by simp,by simp⟩
  (aF _ rfl ⟨aK 0 (nN _),⟨1,_,rfl,rfl,.nil⟩,trivial⟩ ⟨⟨_,rfl,.int hsg.symm⟩,aI,⟨_,rfl,.nslk 1 1 _ rfl rfl⟩,aQ (sW _),trivial⟩) ?_
 rintro⟨s,m⟩ ⟨h1,h2⟩;simp only at h1 h2 ⊢;have hsl:s.length<=5:=by
  have:=congrArg List.length h1;rw[UV] at this;omega
 by_cases hm:0<m
 ·have hz:(sg neg m != 0)=true:=by
   have:sg neg m≠0:=fun h=>by rw[Nh] at h;omega
   simpa using this
  have hrem:(sg neg m).tmod 10000=sg neg (m%10000):=by
   unfold sg;split
   ·rw[Int.neg_tmod];exact congrArg _ (xA m 10000)
   ·exact xA m 10000
  have hquo:(sg neg m).tdiv 10000=sg neg (m/10000):=by
   unfold sg;split
   ·rw[Int.neg_tdiv];exact congrArg _ (n6 m 10000)
   ·exact n6 m 10000
  have hstep:=Om hm;have hsr:i64 (sg neg (m%10000)):=by unfold sg i64;split<;>omega
  have hsq:i64 (sg neg (m/10000)):=by unfold sg i64;split<;>omega
  have hw1:IntKind.i64.wrap ((sg neg m).tmod 10000)=sg neg (m%10000):=by rw[hrem,bE hsr]
  have hw2:IntKind.i64.wrap ((sg neg m).tdiv 10000)=sg neg (m/10000):=by rw[hquo,bE hsq]
  have key:∀(s':List Nat),s'=s++[m%10000]->s'++dg 10000 (m/10000)=dg 10000 N:=fun s' h=>by
   rw[h,←h1,hstep];simp
  have hget:∀(x:Int) (mm:aN),x=((m%10000:Nat):Int)->rI mm [(0,0),(3,1)] (bN s++[.int .i64 x]) (bN (s++[m%10000])):=fun x mm h=>.eq (dP _) (by rw[h,tQ])
  refine Rr ?_;rw[hz];refine Rr ?_;rw[hrem];refine aD (fun hc=>?_) (fun hc=>?_)
  ·have hk:sg neg (m%10000)<0:=Un hc;have hw3:IntKind.i64.wrap (0-sg neg (m%10000))=((m%10000:Nat):Int):=by
    revert hk
    unfold sg;split
    ·intro _;rw[bE ⟨by omega,by omega⟩];omega
    ·intro h;omega
   refine Rr ?_;refine aM (bT rfl rfl (by rw[aP]) (by simp;omega)) ?_;refine Rr ?_;exact .mk (s++[m%10000],m/10000) [(0,0),(3,1)] ⟨key _ rfl,by simp only;omega⟩
    (aF _ rfl ⟨aK 0 (nN _),⟨3,_,rfl,rfl,hget _ _ hw3⟩,trivial⟩ ⟨⟨_,rfl,.int hw2⟩,aI,⟨_,rfl,.slE rfl (by simp[aP])⟩,aQ (sW _),trivial⟩) (by simp only;omega)
  ·have hk:¬sg neg (m%10000)<0:=VX hc;have hw3:sg neg (m%10000)=((m%10000:Nat):Int):=by
    revert hk
    unfold sg;split<;>omega
   refine Rr ?_;refine aM (bT rfl rfl (by rw[aP]) (by simp;omega)) ?_;refine Rr ?_;exact .mk (s++[m%10000],m/10000) [(0,0),(3,1)] ⟨key _ rfl,by simp only;omega⟩
    (aF _ rfl ⟨aK 0 (nN _),⟨3,_,rfl,rfl,hget _ _ hw3⟩,trivial⟩ ⟨⟨_,rfl,.int hw2⟩,aI,⟨_,rfl,.slE rfl (by simp[aP])⟩,aQ (sW _),trivial⟩) (by simp only;omega)
 ·have hm0:m=0:=by omega
  subst hm0;have hz:(sg neg 0 != 0)=false:=by unfold sg;split<;>rfl
  rw[gC,Vn] at h1;rw[←h1] at hno;have hen:=FQ n;rw[d6 n] at hno hen ⊢;refine Rr ?_;rw[hz];refine Rr ?_;refine aE.pre bB [(0,0)] (mem':=[(0,.row 44 2 [.agg [.bool false,.nsl]])]) rfl ⟨aK 0 (nN _),trivial⟩
   (.cons (.same _ (sW _)) (.cons (.fz' (id:=1) (off:=0) (ys:=bN s) rfl rfl (by rw[aP];omega) (by rw[Ub,UB (by rw[aP];omega)]) (dP _)) .nil)) ?_
  refine hno.go ?_ (.cons (sW _) (.cons (tD _) .nil)) hen;refine Rt ?_;exact aA hen ⟨rfl,rfl,rfl⟩
set_option maxHeartbeats 16000000
theorem tY{l:List Nat}{i:Nat}:vl 10000 (l.take (i+1))=vl 10000 (l.take i)+10000 ^ i*l.getD i 0:=by
 rcases UG i l.length with h|h
 ·have hg:l[i]? = some l[i]:=Ty h;rw[iI hg,T1,hg];rfl
 ·rw[DE h,T1,UE h];simp
theorem Av{l:List Nat}(h:∀d∈l,d<10000)(i:Nat):l.getD i 0<10000:=by
 rw[T1];cases hg:l[i]? with
 | none=>simp
 | some d=>exact h _ (UA hg)
theorem KB{s:List Nat}{n:Nat}(hs:∀d∈s,d<10000)(hv:vl 10000 s=n)(hl:s.length=0∨10000 ^ (s.length-1)<=n):s=dg 10000 n:=by
 have h:=v7 hT s hs;rw[hv] at h;have h1:=jY (n:=n) hT;have h2:s.length<=(dg 10000 n).length:=by
  rcases hl with hl|hl
  ·omega
  ·have:=Wa hl h1;have:=(Nat.pow_lt_pow_iff_right (a:=10000) (by omega)).1 this;omega
 rw[h];unfold g8;rw[show s.length-(dg 10000 n).length=0 by omega];simp
theorem Ri(x y:Nat)(hx:(dg 10000 x).length<=1000000)(hy:(dg 10000 y).length<=1000000):aZ prog [] 141 [.il 1 (bN (dg 10000 x)),.il 1 (bN (dg 10000 y))] (.il 1 (bN (dg 10000 (x+y)))):=by
 have hla:=eS hT x;have hlb:=eS hT y;have hva:=fK hT x;have hvb:=fK hT y;have hga:=G2 hT x;have hgb:=G2 hT y;have hza:(dg 10000 x).length=0∨0<x:=by
  rcases UK x with h|h
  ·left;rw[h,gC];rfl
  ·exact .inr h
 have hzb:(dg 10000 y).length=0∨0<y:=by
  rcases UK y with h|h
  ·left;rw[h,gC];rfl
  ·exact .inr h
 obtain⟨S,hS⟩:∃S,S=x+y:=⟨_,rfl⟩
 rw[←hS];have hsum:vl 10000 (dg 10000 x)+vl 10000 (dg 10000 y)=S:=by rw[hva,hvb,hS]
 generalize dg 10000 x=a at *;generalize dg 10000 y=b at *;have ra:=fun i=>Sx a i (by omega)
 have rb:=fun i=>Sx b i (by omega)
 refine aG bB func141 rfl ?_;refine Rr ?_;refine bA.ph 3 1 ?_;refine bA.at bB (fun p:List Nat × Nat=>(∀d∈p.1,d<10000)/\p.2<=1/\vl 10000 p.1+10000 ^ p.1.length*p.2=vl 10000 (a.take p.1.length)+vl 10000 (b.take p.1.length)/\p.1.length<=1000001/\(p.1.length=0∨10000 ^ (p.1.length-1)<=S)/\(a.length+1<=p.1.length/\b.length+1<=p.1.length->p.2=0))
  (fun p=>⟨[(0,.il 1 (bN a)),(1,.il 1 (bN b)),(5,.sl 0 0 p.1.length),(6,.int .i64 p.2),(7,.int .i64 p.1.length)],[(0,.row 3 1 (bN p.1))],1,42⟩)
  (fun p=>1000002-p.1.length) ([],0) [(0,0)] ⟨by simp,by simp,by simp[vl],by simp,by simp,by simp⟩
  (aF _ rfl ⟨⟨0,_,rfl,rfl,.nil⟩,trivial⟩ ⟨aQ (tD _),aQ (tD _),⟨_,rfl,.nslk 0 0 _ rfl rfl⟩,aJ,aJ,trivial⟩) ?_
 rintro⟨s,c⟩ ⟨h1,h2,h3,h4,h5,h6⟩;simp only at h1 h2 h3 h4 h5 h6 ⊢;have ra:=ra s.length;have rb:=rb s.length;have hua:=Av hla s.length;have hub:=Av hlb s.length;have hta:=tY (l:=a) (i:=s.length);have htb:=tY (l:=b) (i:=s.length);have hstep:=sL (B:=10000) (by decide) (s:=s) (x:=a.getD s.length 0) (y:=b.getD s.length 0) rfl h3;rw[←hta,←htb] at hstep;have hua0:a.length<=s.length->a.getD s.length 0=0:=fun h=>by rw[T1,UE h];rfl
 have hub0:b.length<=s.length->b.getD s.length 0=0:=fun h=>by rw[T1,UE h];rfl
 generalize a.getD s.length 0=ua at *;generalize b.getD s.length 0=ub at *;have e1:IntKind.i64.wrap ((ua:Int)+(ub:Int))=((ua+ub:Nat):Int):=by rw[bE ⟨by omega,by omega⟩];omega
 have e2:IntKind.i64.wrap (((ua+ub:Nat):Int)+(c:Int))=((c+(ua+ub):Nat):Int):=by rw[bE ⟨by omega,by omega⟩];omega
 have e3:(((c+(ua+ub):Nat):Int)).tmod 10000=(((c+(ua+ub))%10000:Nat):Int):=xA _ 10000;have e4:IntKind.i64.wrap ((((c+(ua+ub):Nat):Int)).tdiv 10000)=(((c+(ua+ub))/10000:Nat):Int):=by
  rw[show (((c+(ua+ub):Nat):Int)).tdiv 10000=(((c+(ua+ub))/10000:Nat):Int) from n6 _ 10000,bE ⟨by omega,by omega⟩]
 have hmd:(c+(ua+ub))%10000<10000:=VY _ (by decide);have hga0:a.length=0∨10000 ^ (a.length-1)<=x:=by rcases hza with h|h;exact .inl h;exact .inr (hga h)
 have hgb0:b.length=0∨10000 ^ (b.length-1)<=y:=by rcases hzb with h|h;exact .inl h;exact .inr (hgb h)
 have hpow:s.length<a.length∨s.length<b.length∨0<c->10000 ^ s.length<=S:=by
  rintro(h|h|h)
  ·have:10000 ^ s.length<=10000 ^ (a.length-1):=Uw (by omega) (by omega);omega
  ·have:10000 ^ s.length<=10000 ^ (b.length-1):=Uw (by omega) (by omega);omega
  ·by_cases h7:s.length<a.length
   ·have:10000 ^ s.length<=10000 ^ (a.length-1):=Uw (by omega) (by omega);omega
   by_cases h8:s.length<b.length
   ·have:10000 ^ s.length<=10000 ^ (b.length-1):=Uw (by omega) (by omega);omega
   rw[UB (by omega),UB (by omega),show c=1 by omega] at h3;omega
 have hz7:a.length<=s.length/\b.length<=s.length->(c+(ua+ub))/10000=0:=fun⟨z1,z2⟩=>by have:=hua0 z1;have:=hub0 z2;omega
 rcases(show (¬s.length<a.length/\¬s.length<b.length/\c=0)∨s.length<a.length∨(¬s.length<a.length/\s.length<b.length)∨(¬s.length<a.length/\¬s.length<b.length/\0<c) by omega) with⟨q1,q2,q3⟩|q1|⟨q1,q2⟩|⟨q1,q2,q3⟩
 ·rw[UB (by omega),UB (by omega),q3] at h3;have hsS:s=dg 10000 S:=KB h1 (by omega) h5;refine Rr ?_;rw[aP,UO (show ¬(s.length:Int)<(a.length:Int) by omega)];refine Rr ?_;rw[aP,UO (show ¬(s.length:Int)<(b.length:Int) by omega)];refine Rr ?_;rw[q3];refine Rr ?_;exact bJ (r':=.il 1 (bN (dg 10000 S))) (m':=[]) (n':=0) [] rfl trivial (.fzR rfl rfl (.eq (dP _) (by rw[hsS])) (by rw[aP,hsS])) ⟨rfl,rfl,rfl⟩
 all_goals have hp10:=hpow (by omega)
 all_goals refine Rr ?_
 all_goals rw[aP]
 all_goals (first|rw[UD (show (s.length:Int)<(a.length:Int) by omega)]|rw[UO (show ¬(s.length:Int)<(a.length:Int) by omega)])
 all_goals refine Rr ?_
 all_goals (first|(rw[aP,UD (show (s.length:Int)<(b.length:Int) by omega)];refine Rr ?_)|(rw[aP,UO (show ¬(s.length:Int)<(b.length:Int) by omega)];refine Rr ?_)|skip)
 all_goals (first|(rw[UD (show (c:Int)>0 by omega)];refine Rr ?_)|skip)
 all_goals refine ra.go ?_ (.cons (tD _) (.cons nn .nil)) nn
 all_goals refine Rr ?_
 all_goals refine rb.go ?_ (.cons (tD _) (.cons nn .nil)) nn
 all_goals refine Rr ?_
 all_goals rw[e1,e2,e3]
 all_goals refine aM (bT rfl rfl (by rw[aP]) (by simp;omega)) ?_
 all_goals refine Rr ?_
 all_goals
  exact .mk (s++[(c+(ua+ub))%10000],(c+(ua+ub))/10000) [(2,0)] ⟨iV h1 hmd,by simp only;omega,by simp only[UV,Ut];exact hstep,by simp;omega,.inr (by simpa using hp10),fun h=>by simp at h;exact hz7 (by omega)⟩
   (aF _ rfl ⟨⟨2,_,rfl,rfl,.eq (dP _) (by rw[tQ];rfl)⟩,trivial⟩ ⟨aQ (tD _),aQ (tD _),⟨_,rfl,.slE rfl (by simp[aP])⟩,⟨_,rfl,.int e4⟩,⟨_,rfl,.w64 (by simp) ⟨by simp;omega,by simp;omega⟩⟩,trivial⟩) (by simp;omega)
theorem FX(x y:Nat)(hxy:y<=x)(hx:(dg 10000 x).length<=1000000):aZ prog [] 143 [.il 1 (bN (dg 10000 x)),.il 1 (bN (dg 10000 y))] (.il 1 (bN (g8 (dg 10000 (x-y)) (dg 10000 x).length))):=by
 have hla:=eS hT x;have hlb:=eS hT y;have hva:=fK hT x;have hvb:=fK hT y;have hlen:(dg 10000 y).length<=(dg 10000 x).length:=dJ hT hxy;obtain⟨S,hS⟩:∃S,S=x-y:=⟨_,rfl⟩
 rw[←hS];have hsum:vl 10000 (dg 10000 x)=S+vl 10000 (dg 10000 y):=by rw[hva,hvb,hS];omega
 generalize dg 10000 x=a at *;generalize dg 10000 y=b at *;have ra:=fun i=>Sx a i (by omega)
 have rb:=fun i=>Sx b i (by omega)
 refine aG bB func143 rfl ?_;refine Rr ?_;refine bA.ph 3 1 ?_;refine bA.at bB (fun p:List Nat × Nat=>(∀d∈p.1,d<10000)/\p.2<=1/\vl 10000 p.1+vl 10000 (b.take p.1.length)=vl 10000 (a.take p.1.length)+10000 ^ p.1.length*p.2/\p.1.length<=a.length)
  (fun p=>⟨[(0,.il 1 (bN a)),(1,.il 1 (bN b)),(5,.sl 0 0 p.1.length),(6,.int .i64 p.2),(7,.int .i64 p.1.length)],[(0,.row 3 1 (bN p.1))],1,33⟩)
  (fun p=>a.length-p.1.length) ([],0) [(0,0)] ⟨by simp,by simp,by simp[vl],by simp⟩
  (aF _ rfl ⟨⟨0,_,rfl,rfl,.nil⟩,trivial⟩ ⟨aQ (tD _),aQ (tD _),⟨_,rfl,.nslk 0 0 _ rfl rfl⟩,aJ,aJ,trivial⟩) ?_
 rintro⟨s,c⟩ ⟨h1,h2,h3,h4⟩;simp only at h1 h2 h3 h4 ⊢;have ra:=ra s.length;have rb:=rb s.length;have hua:=Av hla s.length;have hub:=Av hlb s.length;have hta:=tY (l:=a) (i:=s.length);have htb:=tY (l:=b) (i:=s.length);have hstep:=C8 (B:=10000) (s:=s) (x:=a.getD s.length 0) (y:=b.getD s.length 0) rfl h3 hua hub h2;rw[←hta,←htb] at hstep;have hdl:=zU (B:=10000) hua hub h2;generalize a.getD s.length 0=ua at *;generalize b.getD s.length 0=ub at *;refine Rr ?_;rw[aP];refine aD (fun hb=>?_) (fun hb=>?_)
 ·have hlt:s.length<a.length:=by simpa using hb
  have e1:IntKind.i64.wrap ((ua:Int)-(ub:Int))=(ua:Int)-ub:=by rw[bE ⟨by omega,by omega⟩]
  have e2:IntKind.i64.wrap ((ua:Int)-ub-(c:Int))=(ua:Int)-ub-c:=by rw[bE ⟨by omega,by omega⟩]
  refine Rr ?_;refine ra.go ?_ (.cons (tD _) (.cons nn .nil)) nn;refine Rr ?_;refine rb.go ?_ (.cons (tD _) (.cons nn .nil)) nn;refine Rr ?_;rw[e1,e2];refine aD (fun hc=>?_) (fun hc=>?_)
  ·have hc:(ua:Int)-ub-c<0:=by simpa using hc
   rw[T7 (by omega)] at hstep hdl;rw[T7 (by omega)] at hstep;have e3:IntKind.i64.wrap ((ua:Int)-ub-c+10000)=((ua+10000-(ub+c):Nat):Int):=by rw[bE ⟨by omega,by omega⟩];omega
   refine Rr ?_;rw[e3];refine aM (bT rfl rfl (by rw[aP]) (by simp;omega)) ?_;refine Rr ?_;exact .mk (s++[ua+10000-(ub+c)],1) [(2,0)] ⟨iV h1 hdl,by simp,by simp only[UV,Ut];exact hstep,by simp;omega⟩
    (aF _ rfl ⟨⟨2,_,rfl,rfl,.eq (dP _) (by rw[tQ];rfl)⟩,trivial⟩ ⟨aQ (tD _),aQ (tD _),⟨_,rfl,.slE rfl (by simp[aP])⟩,aJ,⟨_,rfl,.w64 (by simp) ⟨by simp;omega,by simp;omega⟩⟩,trivial⟩) (by simp;omega)
  ·have hc:¬(ua:Int)-ub-c<0:=by simpa using hc
   rw[T5 (by omega)] at hstep hdl;rw[T5 (by omega)] at hstep;have e5:(ua:Int)-ub-c=((ua-(ub+c):Nat):Int):=by omega
   refine Rr ?_;refine aM (bT rfl rfl (by rw[aP]) (by simp;omega)) ?_;refine Rr ?_;exact .mk (s++[ua-(ub+c)],0) [(2,0)] ⟨iV h1 hdl,by simp,by simp only[UV,Ut];exact hstep,by simp;omega⟩
    (aF _ rfl ⟨⟨2,_,rfl,rfl,.eq (dP _) (by rw[tQ,←e5];rfl)⟩,trivial⟩ ⟨aQ (tD _),aQ (tD _),⟨_,rfl,.slE rfl (by simp[aP])⟩,aJ,⟨_,rfl,.w64 (by simp) ⟨by simp;omega,by simp;omega⟩⟩,trivial⟩) (by simp;omega)
 ·have hge:s.length=a.length:=by simp at hb;omega
  have hlt:=CR hT s h1;rw[UB (by omega),UB (by omega),hsum] at h3;have hc0:c=0:=by
   rcases(show c=0∨c=1 by omega) with e|e
   ·exact e
   ·rw[e] at h3;omega
  rw[hc0] at h3;have hsS:s=g8 (dg 10000 S) a.length:=by
   have:=v7 hT s h1;rw[show vl 10000 s=S by omega,hge] at this;exact this
  rw[←hsS];refine Rr ?_;exact bJ (r':=.il 1 (bN s)) (m':=[]) (n':=0) [] rfl trivial (.fzR rfl rfl (.same (dP _)) (by rw[aP])) ⟨rfl,rfl,rfl⟩
theorem Ts(x y:Int)(h:decide (x<0)=decide (y<0)):sg (decide (x<0)) (x.natAbs+y.natAbs)=x+y:=by
 unfold sg;by_cases h1:x<0
 ·have h2:y<0:=by rw[UD h1] at h;exact Un h.symm
  rw[T7 (UD h1)];omega
 ·have h2:¬y<0:=by rw[UO h1] at h;exact VX h.symm
  rw[T5 (by simpa using h1)];omega
theorem Tb(x y:Int)(h:decide (x<0)≠decide (y<0))(hl:y.natAbs<=x.natAbs):sg (decide (x<0)) (x.natAbs-y.natAbs)=x+y:=by
 unfold sg;by_cases h1:x<0<;>by_cases h2:y<0<;>simp[h1,h2] at h ⊢ <;> omega
theorem iN{n k:Nat}:(∀d∈g8 (dg 10000 n) k,d<10000)/\vl 10000 (g8 (dg 10000 n) k)=n:=by
 refine⟨fun d hd=>?_,by rw[Ox,fK hT]⟩;rcases UI.1 hd with h|h
 ·exact eS hT n d h
 ·rw[WW h];decide
theorem uD{n:Nat}{k:Nat}(h:(dg 10000 n).length<=k):(g8 (dg 10000 n) k).length=k:=l7 h
theorem S9(x y:Int)(hx:(dg 10000 x.natAbs).length<=1000000)(hy:(dg 10000 y.natAbs).length<=1000000):aZ prog [] 91 [eR x,eR y] (eR (x+y)):=by
 have hp:=Ri x.natAbs y.natAbs hx hy;have hpl:=E7 hT x.natAbs y.natAbs;have hcm:=Dj x.natAbs y.natAbs (by omega);have hnp:=mU (decide (x<0)) (dg 10000 (x.natAbs+y.natAbs)) _ (by omega) (eS hT _) (fK hT _);have hen:=FQ (x+y);have hm1:y.natAbs<=x.natAbs->_:=fun h=>FX x.natAbs y.natAbs h hx
 have hm2:x.natAbs<=y.natAbs->_:=fun h=>FX y.natAbs x.natAbs h hy
 have hn1:=mU (decide (x<0)) (g8 (dg 10000 (x.natAbs-y.natAbs)) (dg 10000 x.natAbs).length) _ (by rw[uD (yG hT _ _)];omega) iN.1 iN.2;have hn2:=mU (decide (y<0)) (g8 (dg 10000 (y.natAbs-x.natAbs)) (dg 10000 y.natAbs).length) _ (by rw[uD (yG hT _ _)];omega) iN.1 iN.2;have s1:=Ts x y;have s2:=Tb x y;have s3:=Tb y x;rw[d6 (x+y)] at hen ⊢;have fin:∀z:Int,z=x+y->eR z = .agg [.bool (decide (x+y<0)),.il 1 (bN (dg 10000 (x+y).natAbs))]:=fun z h=>by rw[h];rfl
 rw[d6 x,d6 y];have hcj:Go.Ax.f0 (x.natAbs:Int) (y.natAbs:Int)<0↔x.natAbs<y.natAbs:=by unfold Go.Ax.f0;split<;>(try split)<;>omega
 generalize Go.Ax.f0 (x.natAbs:Int) (y.natAbs:Int)=cj at *;generalize g8 (dg 10000 (x.natAbs-y.natAbs)) (dg 10000 x.natAbs).length=p1 at *;generalize g8 (dg 10000 (y.natAbs-x.natAbs)) (dg 10000 y.natAbs).length=p2 at *;generalize dg 10000 (x.natAbs+y.natAbs)=pl at *;generalize decide (x+y<0)=bz at *;generalize dg 10000 (x+y).natAbs=lz at *;generalize dg 10000 x.natAbs=lx at *;generalize dg 10000 y.natAbs=ly at *;generalize decide (x<0)=bx at *;generalize decide (y<0)=by_ at *;refine aG bB func91 rfl ?_;have same:bx=by_∨bx≠by_:=by cases bx<;>cases by_<;>simp
 rcases same with e|e
 ·rw[fin _ (s1 e)] at hnp;have hb:(bx == by_)=true:=by rw[e];simp
  subst e;cases bx
  all_goals refine Rr ?_
  all_goals refine hp.go ?_ (.cons (tD _) (.cons (tD _) .nil)) (tD _)
  all_goals refine Rr ?_
  all_goals refine Rs ?_
  all_goals refine hnp.go ?_ (.cons (sW _) (.cons (tD _) .nil)) hen
  all_goals refine Rr ?_
  all_goals refine Rs ?_
  all_goals exact aA hen ⟨rfl,rfl,rfl⟩
 ·by_cases hlt:x.natAbs<y.natAbs
  ·have hd:decide (cj<0)=true:=UD (hcj.2 hlt);rw[fin _ ((s3 (Ne.symm e) (by omega)).trans (Int.add_comm _ _))] at hn2;have hm2:=hm2 (by omega);cases bx<;>cases by_
   ·exact absurd rfl e
   rotate_right
   ·exact absurd rfl e
   all_goals refine Rr ?_
   all_goals refine hcm.go ?_ (.cons (tD _) (.cons (tD _) .nil)) nn
   all_goals refine Rr ?_
   all_goals rw[hd]
   all_goals refine Rr ?_
   all_goals refine hm2.go ?_ (.cons (tD _) (.cons (tD _) .nil)) (tD _)
   all_goals refine Rr ?_
   all_goals refine Rs ?_
   all_goals refine hn2.go ?_ (.cons (sW _) (.cons (tD _) .nil)) hen
   all_goals refine Rr ?_
   all_goals refine Rs ?_
   all_goals exact aA hen ⟨rfl,rfl,rfl⟩
  ·have hd:decide (cj<0)=false:=UO (fun h=>hlt (hcj.1 h));rw[fin _ (s2 e (by omega))] at hn1;have hm1:=hm1 (by omega);cases bx<;>cases by_
   ·exact absurd rfl e
   rotate_right
   ·exact absurd rfl e
   all_goals refine Rr ?_
   all_goals refine hcm.go ?_ (.cons (tD _) (.cons (tD _) .nil)) nn
   all_goals refine Rr ?_
   all_goals rw[hd]
   all_goals refine Rr ?_
   all_goals refine hm1.go ?_ (.cons (tD _) (.cons (tD _) .nil)) (tD _)
   all_goals refine Rr ?_
   all_goals refine Rs ?_
   all_goals refine hn1.go ?_ (.cons (sW _) (.cons (tD _) .nil)) hen
   all_goals refine Rr ?_
   all_goals refine Rs ?_
   all_goals exact aA hen ⟨rfl,rfl,rfl⟩
set_option maxHeartbeats 16000000
theorem SQ{x y p c:Nat}(hx:x<10000)(hy:y<10000)(hp:p<10000)(hc:c<10000):x*y<=99980001/\(c+(x*y+p))/10000<10000:=by
 have h:x*y<=9999*9999:=VO (by omega) (by omega);refine⟨by omega, ?_⟩;rw[V3 (by omega)];omega
theorem TO(x y:Int)(hx:(dg 10000 x.natAbs).length<=1000000)(hy:(dg 10000 y.natAbs).length<=1000000):aZ prog [] 146 [eR x,eR y] (eR (x*y)):=by
 have hla:=eS hT x.natAbs;have hlb:=eS hT y.natAbs;have hva:=fK hT x.natAbs;have hvb:=fK hT y.natAbs;have hz:=Lw x y;have hen:=FQ (x*y);rw[d6 x,d6 y];generalize dg 10000 x.natAbs=a at *;generalize dg 10000 y.natAbs=b at *;have hno:∀P:List Nat,P.length=a.length+b.length->(∀d∈P,d<10000)->vl 10000 P=x.natAbs*y.natAbs->_:=fun P h1 h2 h3=>mU (decide (x<0) != decide (y<0)) P _ (by omega) h2 h3
 rw[hz] at hno;generalize decide (x<0)=bx at *;generalize decide (y<0)=by_ at *;rw[d6 (x*y)] at hen hno ⊢;generalize x.natAbs=X at *;generalize y.natAbs=Y at *;generalize decide (x*y<0)=bz at *;generalize dg 10000 (x*y).natAbs=lz at *;refine aG bB func146 rfl ?_;refine Rr ?_;rw[aP,aP];have hw:IntKind.i64.wrap ((a.length:Int)+(b.length:Int))=((a.length+b.length:Nat):Int):=by rw[bE ⟨by omega,by omega⟩];omega
 rw[hw];refine aM (Dx rfl rfl rfl (by omega) rfl) ?_;refine Rr ?_;refine bA.at bB (fun p:Nat × List Nat=>p.1<=a.length/\p.2.length=a.length+b.length/\(∀d∈p.2,d<10000)/\vl 10000 p.2=vl 10000 (a.take p.1)*Y/\∀k,p.1+b.length<=k->k<a.length+b.length->p.2[k]? = some 0)
  (fun p=>⟨[(2,.ptr 0 0 0),(3,.ptr 1 0 0),(4,.ptr 2 0 0),(5,.sl 3 0 (a.length+b.length)),(6,.int .i64 p.1)],[(0,.row 44 2 [.agg [.bool bx,.il 1 (bN a)]]),(1,.row 44 2 [.agg [.bool by_,.il 1 (bN b)]]),(2,.row 44 2 [.agg [.bool false,.nsl]]),(3,.row 3 1 (bN p.2))],4,76⟩)
  (fun p=>a.length-p.1) (0,List.replicate (a.length+b.length) 0) [(0,0),(1,1),(2,2),(3,3)] ⟨by simp,by simp,by simp,by simp only;rw[wX];simp[vl],fun k h1 h2=>by simp only;rw[VN,T7 h2]⟩
  (aF _ rfl ⟨aK 0 (.cons (g6 _ _) .nil),aK 1 (.cons (g6 _ _) .nil),aK 2 (nN _),⟨3,_,rfl,rfl,.eq (dP _) (by rw[B5,T4])⟩,trivial⟩
   ⟨aI,aI,aI,⟨_,rfl,.slE rfl (T4 _)⟩,aJ,trivial⟩) ?_
 rintro⟨i,P⟩ ⟨h1,h2,h3,h4,h5⟩;simp only at h1 h2 h3 h4 h5 ⊢;refine Rr ?_;rw[aP];refine aD (fun hb=>?_) (fun hb=>?_)
 ·have hlt:i<a.length:=by simpa using hb
  obtain⟨u,hu⟩:∃u,a[i]? = some u:=⟨_,Ty hlt⟩
  have hul:=hla _ (UA hu);have g1:=xE hu;refine Rr ?_;refine bA.at bB (fun p:Nat × List Nat × Nat=>p.1<=b.length/\p.2.1.length=a.length+b.length/\(∀d∈p.2.1,d<10000)/\p.2.2<10000 /\
    vl 10000 p.2.1+10000 ^ (i+p.1)*p.2.2=vl 10000 (a.take i)*Y+u*(10000 ^ i*vl 10000 (b.take p.1))/\∀k,i+b.length<=k->k<a.length+b.length->p.2.1[k]? = some 0)
   (fun p=>⟨[(2,.ptr 0 0 0),(3,.ptr 1 0 0),(4,.ptr 2 0 0),(5,.sl 3 0 (a.length+b.length)),(6,.int .i64 i),(7,.int .i64 p.2.2),(8,.int .i64 p.1)],[(0,.row 44 2 [.agg [.bool bx,.il 1 (bN a)]]),(1,.row 44 2 [.agg [.bool by_,.il 1 (bN b)]]),(2,.row 44 2 [.agg [.bool false,.nsl]]),(3,.row 3 1 (bN p.2.1))],4,76⟩)
   (fun p=>b.length-p.1) (0,P,0) [(0,0),(1,1),(2,2),(3,3)] ⟨by simp,h2,h3,by simp,by simp only;rw[h4];simp[vl],h5⟩
   (aF _ rfl ⟨aK 0 (.cons (g6 _ _) .nil),aK 1 (.cons (g6 _ _) .nil),aK 2 (nN _),aK 3 (dP _),trivial⟩
    ⟨aI,aI,aI,⟨_,rfl,.slE rfl rfl⟩,aJ,aJ,aJ,trivial⟩) ?_
  rintro⟨j,Q,c⟩ ⟨h0,k2,k3,hc,k4,k5⟩;simp only at h0 k2 k3 hc k4 k5 ⊢;refine Rr ?_;rw[aP];refine aD (fun hb=>?_) (fun hb=>?_)
  ·have hlt2:j<b.length:=by simpa using hb
   obtain⟨v,hv⟩:∃v,b[j]? = some v:=⟨_,Ty hlt2⟩
   obtain⟨p,hp⟩:∃p,Q[i+j]? = some p:=⟨_,Ty (by omega)⟩
   have hvl:=hlb _ (UA hv);have hpl:=k3 _ (UA hp);have g2:=xE hv;have g3:=Lx hp;have bi:=qY (i:=i+j) (n:=a.length+b.length) (by omega);obtain⟨q1,q4⟩:=SQ hul hvl hpl hc;have e3:IntKind.i64.wrap ((u:Int)*(v:Int))=((u*v:Nat):Int):=by rw[←Vf,bE ⟨by omega,by omega⟩]
   have e4:IntKind.i64.wrap ((i:Int)+(j:Int))=((i+j:Nat):Int):=by rw[bE ⟨by omega,by omega⟩];omega
   have e6:IntKind.i64.wrap ((p:Int)+((u*v:Nat):Int))=((u*v+p:Nat):Int):=by rw[bE ⟨by omega,by omega⟩];omega
   have e7:IntKind.i64.wrap (((u*v+p:Nat):Int)+(c:Int))=((c+(u*v+p):Nat):Int):=by rw[bE ⟨by omega,by omega⟩];omega
   have e8:(((c+(u*v+p):Nat):Int)).tmod 10000=(((c+(u*v+p))%10000:Nat):Int):=xA _ 10000;have e9:IntKind.i64.wrap ((((c+(u*v+p):Nat):Int)).tdiv 10000)=(((c+(u*v+p))/10000:Nat):Int):=by
    rw[show (((c+(u*v+p):Nat):Int)).tdiv 10000=(((c+(u*v+p))/10000:Nat):Int) from n6 _ 10000,bE ⟨by omega,by omega⟩]
   have hms:=Fs (B:=10000) hp k4 (y:=v);have hmd:(c+(u*v+p))%10000<10000:=VY _ (by decide);refine Rr ?_;rw[e4];refine Rt ?_;repeat((first|refine aM bi ?_|refine aC g3 ?_|refine aC g1 ?_|refine aC g2 ?_);refine Rt ?_)
   rw[e3,e6,e7];refine Rs ?_;repeat((first|rw[e4]|refine aM bi ?_|refine aC g3 ?_);refine Rt ?_)
   exact .mk (j+1,Q.set (i+j) ((c+(u*v+p))%10000),(c+(u*v+p))/10000) [(0,0),(1,1),(2,2),(3,3)]
    ⟨by simp only;omega,by simp only[Vm];exact k2,Ec k3 hmd,q4,by
      simp only;rw[iI hv,U2 (10000 ^ i),←VK (10000 ^ i) (10000 ^ j),←W3];exact hms,fun k z1 z2=>by simp only;rw[qN (by omega)];exact k5 k z1 z2⟩
    (aF _ rfl ⟨aK 0 (.cons (g6 _ _) .nil),aK 1 (.cons (g6 _ _) .nil),aK 2 (nN _),⟨3,_,rfl,rfl,.eq (dP _) (by rw[e8,T4,UT,Bg])⟩,trivial⟩
     ⟨aI,aI,aI,⟨_,rfl,.slE rfl rfl⟩,aJ,⟨_,rfl,.int e9⟩,⟨_,rfl,.w64 (by simp) ⟨by simp only;omega,by simp only;omega⟩⟩,trivial⟩) (by simp only;omega)
  ·have hj:j=b.length:=by simp at hb;omega
   subst hj;rw[UM,hvb] at k4;have e4:IntKind.i64.wrap ((i:Int)+(b.length:Int))=((i+b.length:Nat):Int):=by rw[bE ⟨by omega,by omega⟩];omega
   have hp:=k5 (i+b.length) (by omega) (by omega);have g3:=Lx hp;have bi:=qY (i:=i+b.length) (n:=a.length+b.length) (by omega);have hvs:=Ee 10000 Q (i+b.length) c 0 hp;refine Rr ?_;rw[aP,e4];refine Rs ?_;repeat((first|refine aM bi ?_|refine aC g3 ?_);refine Rt ?_)
   exact .mk (i+1,Q.set (i+b.length) c) [(0,0),(1,1),(2,2),(3,3)]
    ⟨by simp only;omega,by simp only[Vm];exact k2,Ec k3 hc,by
      simp only;rw[iI hu,UZ,VK (10000 ^ i),We (10000 ^ i),←k4];omega,fun k z1 z2=>by simp only;rw[qN (by omega)];exact k5 k (by omega) z2⟩
    (aF _ rfl ⟨aK 0 (.cons (g6 _ _) .nil),aK 1 (.cons (g6 _ _) .nil),aK 2 (nN _),⟨3,_,rfl,rfl,.eq (dP _) (by rw[T4,UT,Bg])⟩,trivial⟩
     ⟨aI,aI,aI,⟨_,rfl,.slE rfl rfl⟩,⟨_,rfl,.w64 (by simp) ⟨by simp only;omega,by simp only;omega⟩⟩,trivial⟩) (by simp only;omega)
 ·have hi:i=a.length:=by simp at hb;omega
  subst hi;rw[UM,hva] at h4;have hno:=hno P h2 h3 h4;refine Rr ?_;refine aE.pre bB [(0,0),(1,1),(2,2)] (mem':=[(0,.row 44 2 [.agg [.bool bx,.il 1 (bN a)]]),(1,.row 44 2 [.agg [.bool by_,.il 1 (bN b)]]),(2,.row 44 2 [.agg [.bool false,.nsl]])]) rfl
   ⟨aK 0 (.cons (g6 _ _) .nil),aK 1 (.cons (g6 _ _) .nil),aK 2 (nN _),trivial⟩
   (.cons (.same _ (sW _)) (.cons (.fz' (id:=3) (ys:=bN P) rfl rfl (by rw[aP,h2];omega) (by rw[Ub,UB (by rw[aP,h2];omega)]) (dP _)) .nil)) ?_
  refine hno.go ?_ (.cons (sW _) (.cons (tD _) .nil)) hen;refine Rt ?_;exact aA hen ⟨rfl,rfl,rfl⟩
theorem Qa(x k:Nat)(hx:(dg 10000 x).length<=1000000)(hk:k<10000):aZ prog [] 240 [.il 1 (bN (dg 10000 x)),.int .i64 k] (.il 1 (bN (dg 10000 (x*k)))):=by
 have h1:=Tu (k:Int) ⟨by omega,by omega⟩;have hk1:(dg 10000 (k:Int).natAbs).length<=1:=hZ hT (by rw[Uz];omega);have h2:=TO (x:Int) (k:Int) (by rw[Uz];exact hx) (by omega);have n0:∀n:Nat,decide ((n:Int)<0)=false:=fun n=>UO (by omega)
 rw[d6 (k:Int)] at h1 h2;rw[←Vf,d6 ((x*k:Nat):Int),d6 (x:Int)] at h2;simp only[Uz,n0] at h1 h2;generalize dg 10000 k=lk at *;generalize dg 10000 x=a at *;generalize dg 10000 (x*k)=z at *;refine aG bB func240 rfl ?_;refine Rr ?_;refine h1.go ?_ (.cons nn .nil) (g6 _ _);refine Rr ?_;refine h2.go ?_ (.cons (g6 _ _) (.cons (g6 _ _) .nil)) (g6 _ _);refine Rt ?_;exact aA (tD _) ⟨rfl,rfl,rfl⟩
theorem JF(l:List Nat)(i:Int)(hl:l.length<=4294967296):aZ prog [] 256 [.il 1 (bN l),.int .i64 i] (.int .i64 (wK l i:Nat)):=by
 refine aG bB func256 rfl ?_;by_cases h0:i<0
 ·refine Rr ?_;rw[UD h0];refine Rr ?_;exact gL (r':=.int .i64 (wK l i:Nat)) (.int (by unfold wK;rw[T7 h0];rfl)) ⟨rfl,rfl,rfl⟩
 ·obtain⟨n,rfl⟩:∃n:Nat,i=n:=⟨i.toNat,by omega⟩
  rw[I4];refine Rr ?_;rw[UO h0];refine Rr ?_;rw[aP];refine aD (fun hb=>?_) (fun hb=>?_)
  ·have hge:l.length<=n:=by simpa using hb
   refine Rr ?_;exact gL (r':=.int .i64 (l.getD n 0:Nat)) (.int (by rw[T1,UE hge];rfl)) ⟨rfl,rfl,rfl⟩
  ·have hlt:n<l.length:=by simpa using hb
   obtain⟨d,hd⟩:∃d,l[n]? = some d:=⟨_,Ty hlt⟩
   have e1:=xE hd;refine Rr ?_;refine aC e1 ?_;refine Rr ?_;exact gL (r':=.int .i64 (l.getD n 0:Nat)) (.int (by rw[T1,hd];rfl)) ⟨rfl,rfl,rfl⟩
set_option maxHeartbeats 16000000
theorem R4(a b:Nat):(if (b:Int)<(a:Int) then(b:Int) else(a:Int))=((min a b:Nat):Int):=by
 by_cases h:(b:Int)<a
 ·rw[T7 h,Nat.min_eq_right (by omega)]
 ·rw[T5 h,Ve (by omega)]
theorem QU(r b:List Nat)(hr:∀d∈r,d<10000)(hb:∀d∈b,d<10000)(hrl:r.length<=1000000)(hbl:b.length<=1000000)(htop:0<wK b ((b.length:Int)-1)) :
  aZ prog [] 239 [.il 1 (bN r),.il 1 (bN b)] (.tup [.int .i64 ((Eh r b).1:Nat),.int .i64 ((Eh r b).2:Nat)]):=by
 have dr:=fun i=>JF r i (by omega)
 have db:=fun i=>JF b i (by omega)
 have lr:=fun i=>NU (show 0<10000 by omega) hr i
 have lb:=fun i=>NU (show 0<10000 by omega) hb i
 have hU:JV r b=10000*(10000*wK r (b.length:Int)+wK r ((b.length:Int)-1))+wK r ((b.length:Int)-2):=rfl;have hL:Go.Ax.Fd b=10000*wK b ((b.length:Int)-1)+wK b ((b.length:Int)-2):=rfl;have hR:(if r.length<b.length∨b.length=0 then(0,0) else(min 9999 (JV r b/(Go.Ax.Fd b+1)),min 9999 (JV r b/Go.Ax.Fd b)))=Eh r b:=rfl;have d1:=dr (b.length:Int);have d2:=dr ((b.length:Int)-1);have d3:=dr ((b.length:Int)-2);have d4:=db ((b.length:Int)-1);have d5:=db ((b.length:Int)-2);have l1:=lr (b.length:Int);have l2:=lr ((b.length:Int)-1);have l3:=lr ((b.length:Int)-2);have l4:=lb ((b.length:Int)-1);have l5:=lb ((b.length:Int)-2);generalize wK r (b.length:Int)=u1 at *;generalize wK r ((b.length:Int)-1)=u2 at *;generalize wK r ((b.length:Int)-2)=u3 at *;generalize wK b ((b.length:Int)-1)=v1 at *;generalize wK b ((b.length:Int)-2)=v2 at *;have hUl:JV r b<1000000000000:=by omega
 have hLl:Go.Ax.Fd b<100000000:=by omega
 have hL0:0<Go.Ax.Fd b:=by omega
 have w1:IntKind.i64.wrap ((b.length:Int)-1)=(b.length:Int)-1:=bE ⟨by omega,by omega⟩;have w2:IntKind.i64.wrap ((b.length:Int)-2)=(b.length:Int)-2:=bE ⟨by omega,by omega⟩;have w3:IntKind.i64.wrap (10000*(u1:Int))=((10000*u1:Nat):Int):=by rw[bE ⟨by omega,by omega⟩];omega
 have w4:IntKind.i64.wrap (((10000*u1:Nat):Int)+(u2:Int))=((10000*u1+u2:Nat):Int):=by rw[bE ⟨by omega,by omega⟩];omega
 have w5:IntKind.i64.wrap (10000*((10000*u1+u2:Nat):Int))=((10000*(10000*u1+u2):Nat):Int):=by rw[bE ⟨by omega,by omega⟩];omega
 have w6:IntKind.i64.wrap (((10000*(10000*u1+u2):Nat):Int)+(u3:Int))=((JV r b:Nat):Int):=by rw[bE ⟨by omega,by omega⟩];omega
 have w7:IntKind.i64.wrap (10000*(v1:Int))=((10000*v1:Nat):Int):=by rw[bE ⟨by omega,by omega⟩];omega
 have w8:IntKind.i64.wrap (((10000*v1:Nat):Int)+(v2:Int))=((Go.Ax.Fd b:Nat):Int):=by rw[bE ⟨by omega,by omega⟩];omega
 generalize JV r b=U at *;generalize Go.Ax.Fd b=L at *;have hq1:U/(L+1)<=U:=WJ _ _;have hq2:U/L<=U:=WJ _ _;have w9:IntKind.i64.wrap ((L:Int)+1)=((L+1:Nat):Int):=by rw[bE ⟨by omega,by omega⟩];omega
 have w10:=n6 U (L+1);have w11:=n6 U L;generalize U/(L+1)=Q1 at *;generalize U/L=Q2 at *;have w12:IntKind.i64.wrap (Q1:Int)=(Q1:Int):=bE ⟨by omega,by omega⟩;have w13:IntKind.i64.wrap (Q2:Int)=(Q2:Int):=bE ⟨by omega,by omega⟩;have z1:(!decide (((L+1:Nat):Int)=0))=true:=by rw[UO (by omega)];rfl
 have z2:(!decide ((L:Int)=0))=true:=by rw[UO (by omega)];rfl
 refine aG bB func239 rfl ?_;by_cases hlt:r.length<b.length
 ·rw[T7 (.inl hlt)] at hR;rw[←hR];refine Rr ?_;rw[aP,aP,UD (by omega)];refine Rr ?_;exact aA (.tup' (.cons nn (.cons nn .nil))) ⟨rfl,rfl,rfl⟩
 ·by_cases hb0:b.length=0
  ·rw[T7 (.inr hb0)] at hR;rw[←hR];have hz:((b.length:Int) == 0)=true:=by rw[hb0];rfl
   refine Rr ?_;rw[aP,aP,UO (by omega)];refine Rr ?_;rw[hz];refine Rr ?_;exact aA (.tup' (.cons nn (.cons nn .nil))) ⟨rfl,rfl,rfl⟩
  ·rw[T5 (by omega)] at hR;rw[←hR];have hz:((b.length:Int) == 0)=false:=by simp;intro h;exact hb0 (by rw[h];rfl)
   refine Rr ?_;rw[aP,aP,UO (by omega)];refine Rr ?_;rw[hz];refine Rr ?_;refine d1.go ?_ (.cons (tD _) (.cons nn .nil)) nn;refine Rr ?_;rw[w1];refine d2.go ?_ (.cons (tD _) (.cons nn .nil)) nn;refine Rr ?_;rw[w2];refine d3.go ?_ (.cons (tD _) (.cons nn .nil)) nn;refine Rr ?_;rw[w1];refine d4.go ?_ (.cons (tD _) (.cons nn .nil)) nn;refine Rr ?_;rw[w2];refine d5.go ?_ (.cons (tD _) (.cons nn .nil)) nn;refine Rr ?_;rw[w3,w4,w5,w6,w7,w8,w9,z1];refine Rr ?_;rw[w10,w12];refine Rs ?_;rw[z2];refine Rr ?_;rw[w11,w13];refine Rs ?_;exact gL (r':=.tup [.int .i64 ((min 9999 Q1:Nat):Int),.int .i64 ((min 9999 Q2:Nat):Int)]) (.tup' (.cons (.int (R4 9999 Q1)) (.cons (.int (R4 9999 Q2)) .nil))) ⟨rfl,rfl,rfl⟩
set_option maxHeartbeats 16000000
theorem wG(l:List Nat)(n:Nat)(hl:l.length<=4294967296)(hd:∀d∈l,d<10000)(hv:vl 10000 l=n):aZ prog [] 121 [.bool false,.il 1 (bN l)] (.agg [.bool false,.il 1 (bN (dg 10000 n))]):=mU false l n hl hd hv
theorem MN(la lb:Nat)(h:1<=lb):(if (if (la:Int)-lb+1<la then(la:Int)-lb+1 else la)>(0:Int) then(if (la:Int)-lb+1<la then(la:Int)-lb+1 else la) else 0)=((la+1-lb:Nat):Int):=by
 split<;>split<;>omega
theorem Qi{j n:Nat}(h:j<=n):(Nat.ble ((j:Nat):Int).toNat n && (Nat.ble n n && Nat.ble n n))=true:=by
 rw[T4,T8 h,T8 (UC _)];rfl
theorem HB{l:List Nat}{f:Nat}:List.take (l.length-((f:Nat):Int).toNat) (List.drop ((f:Nat):Int).toNat (bN l))=bN (l.drop f):=by
 rw[T4,K7,UB (by rw[aP,WE];omega)]
theorem DL{i d:Nat}{R:List Nat}:(bN (wQ (i+1) R)).set (0+((i:Nat):Int).toNat) (.int .i64 (d:Int))=bN (wQ i (d::R)):=by
 rw[T4,UT,Bg,M6]
theorem LV(x y:Nat)(hy:0<y)(hx:(dg 10000 x).length<=900000)(hyl:(dg 10000 y).length<=900000) :
  aE prog [] 201 [.il 1 (bN (dg 10000 x)),.il 1 (bN (dg 10000 y))] [] 0 fun r m n=>
   ∃Q:List Nat,r = .tup [.il 1 (bN Q),.il 1 (bN (dg 10000 (x%y)))]/\m=[]/\n=0/\Q.length=(dg 10000 x).length/\(∀d∈Q,d<10000)/\vl 10000 Q=x/y:=by
 have hla:=eS hT x;have hlb:=eS hT y;have hva:=fK hT x;have hb1:1<=(dg 10000 y).length:=by rw[oS hT hy];simp
 have htop:=L6 hT hy;have hyb:=G2 hT y hy;have hxy:(dg 10000 x).length<(dg 10000 y).length->x<y:=nG hT;have rdig:∀r:Nat,r<y*10000->_:=fun r h=>QU (dg 10000 r) (dg 10000 y) (eS hT r) hlb (by
  have:=dJ hT (XA h);have:=BI hT y 10000;have:(dg 10000 10000).length<=2:=hZ hT (by decide);omega) (by omega) htop
 have rsm:∀k:Nat,k<10000->_:=fun k h=>Qa y k (by omega) h
 have rcm:∀k r:Nat,k<10000->_:=fun k r h=>Dj (y*k) r (by
  have:=BI hT y k;have:(dg 10000 k).length<=1:=DS hT h;omega)
 have dok:∀r:Nat,r<y*10000->_:=fun r h=>O9 hy h
 have hrl:∀r:Nat,r<y*10000->(dg 10000 r).length<=900002:=fun r h=>by
  have:=dJ hT (XA h);have:=BI hT y 10000;have:(dg 10000 10000).length<=2:=hZ hT (by decide);omega
 have rmi:∀r k:Nat,r<y*10000->y*k<=r->_:=fun r k h h2=>FX r (y*k) h2 (by have:=hrl r h;omega)
 generalize dg 10000 x=a at *;generalize hbd:dg 10000 y=b at *;obtain⟨f,hf⟩:∃f,f=a.length+1-b.length:=⟨_,rfl⟩
 have hfl:f<=a.length:=by omega
 have hR0:vl 10000 (a.drop f)<y:=by
  rcases UK f with e|e
  ·rw[e,Ub,hva];exact hxy (by omega)
  ·have h1:=CR hT (a.drop f) fun d h=>hla d (Us h)
   rw[WE,show a.length-f=b.length-1 by omega] at h1;omega
 have hdrop:∀d∈a.drop f,d<10000:=fun d h=>hla d (Us h)
 have hno0:=wG (a.drop f) _ (by rw[WE];omega) hdrop rfl;refine aG bB func201 rfl ?_;refine Rr ?_;rw[aP];refine aM (Dx rfl rfl rfl (by omega) rfl) ?_;refine Rr ?_;rw[aP,aP];have w1:IntKind.i64.wrap ((a.length:Int)-b.length)=(a.length:Int)-b.length:=bE ⟨by omega,by omega⟩;have w2:IntKind.i64.wrap ((a.length:Int)-b.length+1)=(a.length:Int)-b.length+1:=bE ⟨by omega,by omega⟩;rw[w1,w2];have hfe:=MN a.length b.length hb1;rw[←hf] at hfe;rw[hfe,UD (show (0:Int)<=(f:Int) by omega)];refine Rr ?_;refine aM (Qi hfl) ?_;refine Rr ?_;rw[HB];refine hno0.go ?_ (.cons (sW _) (.cons (tD _) .nil)) (g6 _ _);refine Rt ?_;refine bA.at bB (fun p:Nat × List Nat × Nat=>p.1<=f/\p.2.1.length=a.length-p.1/\(∀d∈p.2.1,d<10000)/\p.2.2<y/\vl 10000 (a.drop p.1)=vl 10000 p.2.1*y+p.2.2)
  (fun p=>⟨[(0,.il 1 (bN a)),(1,.il 1 (bN b)),(6,.sl 0 0 a.length),(9,.il 1 (bN (dg 10000 p.2.2))),(10,.int .i64 ((p.1:Int)-1))],[(0,.row 3 1 (bN (wQ p.1 p.2.1)))],1,88⟩)
  (fun p=>p.1) (f,List.replicate (a.length-f) 0,vl 10000 (a.drop f)) [(0,0)] ⟨UC _,by simp,by intro d hd;simp only at hd;rw[WW hd];decide,hR0,by simp only;rw[wX];simp⟩
  (aF _ rfl ⟨⟨0,_,rfl,rfl,.eq (dP _) (by
    rw[show bN (wQ f (List.replicate (a.length-f) 0))=bN (List.replicate a.length 0) by
     unfold wQ;rw[List.replicate_append_replicate];congr 2;omega]
    rw[B5,T4])⟩,trivial⟩
   ⟨aQ (tD _),aQ (tD _),⟨_,rfl,.slE rfl (T4 _)⟩,aQ (tD _),⟨_,rfl,.w64 rfl ⟨by simp only;omega,by simp only;omega⟩⟩,trivial⟩) ?_
 clear hR0 hno0;rintro⟨m,R,r⟩ ⟨h1,h2,h3,h4,h5⟩;simp only at h1 h2 h3 h4 h5 ⊢;refine Rr ?_;refine aD (fun hb=>?_) (fun hb=>?_)
 ·have hm1:0<m:=by simp at hb;omega
  obtain⟨i,rfl⟩:∃i,m=i+1:=⟨m-1,by omega⟩
  rw[show (((i+1:Nat):Int)-1)=(i:Int) by omega];obtain⟨u,hu⟩:∃u,a[i]? = some u:=⟨_,Ty (by omega)⟩
  have hul:=hla _ (UA hu);have g1:=xE hu;obtain⟨s1,s2,s3⟩:=K6 hy h5 h4 hul;rw[←qF hu] at s1;have hrlen:(dg 10000 r).length<=900002:=hrl r (by omega);have hdr:∀d∈u::dg 10000 r,d<10000:=fun d hd=>by
   rcases T6.1 hd with h|h
   ·rw[h];exact hul
   ·exact eS hT r d h
  have hno1:=wG (u::dg 10000 r) (u+10000*r) (by simp;omega) hdr (by rw[vl,fK hT]);obtain⟨r1,hr1⟩:∃r1,r1=u+10000*r:=⟨_,rfl⟩
  rw[←hr1] at hno1 s1 s2 s3;have rdig:=rdig r1 s3;obtain⟨dk1,dk2,dk3⟩:=dok r1 s3;generalize (Eh (dg 10000 r1) b).1=lo0 at *;generalize (Eh (dg 10000 r1) b).2=hi0 at *;have hrl1:=hrl r1 s3;have rcm:=fun k=>rcm k r1
  have rmi:=fun k=>rmi r1 k s3
  have hq9:r1/y<10000:=by omega
  have hcons:bN (u::dg 10000 r)=[AV.int .i64 (u:Int)]++bN (dg 10000 r):=rfl;refine Rr ?_;refine aC g1 ?_;refine Rr ?_;refine aM (bT rfl rfl rfl (by rw[aP];omega)) ?_;refine Rr ?_;refine aE.pre bB [(0,0)] (mem':=[(0,.row 3 1 (bN (wQ (i+1) R)))]) rfl ⟨aK 0 (dP _),trivial⟩
   (.cons (.same _ (sW _)) (.cons (.fz' (id:=2) (off:=0) (ys:=bN (u::dg 10000 r)) rfl rfl (by simp[aP];omega) (by
    rw[Ub,UB (by simp[aP];omega)];rfl) (dP _)) .nil)) ?_
  refine hno1.go ?_ (.cons (sW _) (.cons (tD _) .nil)) (g6 _ _);refine Rt ?_;refine rdig.go ?_ (.cons (tD _) (.cons (tD _) .nil)) nn;refine Rr ?_;refine bA.at bB (fun p:Nat × Nat=>p.1<=r1/y/\r1/y<=p.2/\p.2<=9999)
   (fun p=>⟨[(0,.il 1 (bN a)),(1,.il 1 (bN b)),(6,.sl 0 0 a.length),(9,.il 1 (bN (dg 10000 r1))),(10,.int .i64 i),(12,.int .i64 p.1),(13,.int .i64 p.2)],[(0,.row 3 1 (bN (wQ (i+1) R)))],1,88⟩)
   (fun p=>p.2-p.1) (lo0,hi0) [(0,0)] ⟨dk1,dk2,dk3⟩
   (aF _ rfl ⟨aK 0 (dP _),trivial⟩
    ⟨aQ (tD _),aQ (tD _),⟨_,rfl,.slE rfl rfl⟩,aQ (tD _),aJ,aJ,aJ,trivial⟩) ?_
  clear dk1 dk2 dk3;rintro⟨lo,hi⟩ ⟨k1,k2,k3⟩;simp only at k1 k2 k3 ⊢;refine Rr ?_;refine aD (fun hc=>?_) (fun hc=>?_)
  ·have hlh:lo<hi:=by simpa using hc
   have w3:IntKind.i64.wrap ((lo:Int)+(hi:Int))=((lo+hi:Nat):Int):=by rw[bE ⟨by omega,by omega⟩];omega
   have w4:IntKind.i64.wrap (((lo+hi:Nat):Int)+1)=((lo+hi+1:Nat):Int):=by rw[bE ⟨by omega,by omega⟩];omega
   have w5:IntKind.i64.wrap ((((lo+hi+1:Nat):Int)).tdiv 2)=(((lo+hi+1)/2:Nat):Int):=by
    rw[show (((lo+hi+1:Nat):Int)).tdiv 2=(((lo+hi+1)/2:Nat):Int) from n6 _ 2,bE ⟨by omega,by omega⟩]
   have hmid:(lo+hi+1)/2<10000/\lo<(lo+hi+1)/2/\(lo+hi+1)/2<=hi:=by omega
   obtain⟨hm1,hm2,hm3⟩:=hmid;refine Rr ?_;rw[w3,w4,w5];generalize (lo+hi+1)/2=mid at *;have hmy:mid<=r1/y↔y*mid<=r1:=by rw[V0 hy,Vb]
   have hcj:Go.Ax.f0 ((y*mid:Nat):Int) (r1:Int)<=0↔y*mid<=r1:=by unfold Go.Ax.f0;split<;>(try split)<;>omega
   have rcm:=rcm mid hm1;have rsm:=rsm mid hm1;generalize Go.Ax.f0 ((y*mid:Nat):Int) (r1:Int)=cj at *;generalize dg 10000 (y*mid)=ym at *;refine rsm.go ?_ (.cons (tD _) (.cons nn .nil)) (tD _);refine Rr ?_;refine rcm.go ?_ (.cons (tD _) (.cons (tD _) .nil)) nn;refine Rr ?_;refine aD (fun hc=>?_) (fun hc=>?_)
   ·have hc:=hmy.2 (hcj.1 (Un hc));refine Rr ?_;exact .mk (mid,hi) [(0,0)] ⟨hc,k2,k3⟩
     (aF _ rfl ⟨aK 0 (dP _),trivial⟩
      ⟨aQ (tD _),aQ (tD _),⟨_,rfl,.slE rfl rfl⟩,aQ (tD _),aJ,aJ,aJ,trivial⟩) (by simp only;omega)
   ·have hc:¬mid<=r1/y:=fun h=>VX hc (hcj.2 (hmy.1 h))
    refine Rr ?_;exact .mk (lo,mid-1) [(0,0)] ⟨k1,by simp only;omega,by simp only;omega⟩
     (aF _ rfl ⟨aK 0 (dP _),trivial⟩
      ⟨aQ (tD _),aQ (tD _),⟨_,rfl,.slE rfl rfl⟩,aQ (tD _),aJ,aJ,⟨_,rfl,.wp⟩,trivial⟩) (by simp only;omega)
  ·have hlh:lo=r1/y:=by simp at hc;omega
   rw[hlh];have rsm:=rsm (r1/y) hq9;have hyq:y*(r1/y)<=r1:=Nat.mul_div_le _ _;have rmi:=rmi (r1/y) hyq;have hmd:r1-y*(r1/y)=r1%y:=by have:=Wo r1 y;omega
   rw[hmd] at rmi;have hno2:=wG (g8 (dg 10000 (r1%y)) (dg 10000 r1).length) _ (by rw[uD (dJ hT (Nat.mod_le _ _))];omega) iN.1 iN.2;have g3:(bN (wQ (i+1) R))[0+((i:Nat):Int).toNat]? = some (.int .i64 0):=Lx Mp;have bi:=qY (i:=i) (n:=a.length) (by omega);generalize dg 10000 (y*(r1/y))=ym at *;generalize g8 (dg 10000 (r1%y)) (dg 10000 r1).length=pq at *;refine Rr ?_;refine rsm.go ?_ (.cons (tD _) (.cons nn .nil)) (tD _);refine Rr ?_;refine rmi.go ?_ (.cons (tD _) (.cons (tD _) .nil)) (tD _);refine Rr ?_;refine hno2.go ?_ (.cons (sW _) (.cons (tD _) .nil)) (g6 _ _);refine Rt ?_;repeat((first|refine aM bi ?_|refine aC g3 ?_);refine Rt ?_)
   exact .mk (i,(r1/y)::R,r1%y) [(0,0)] ⟨by simp only;omega,by simp;omega,fun d hd=>by
     rcases T6.1 hd with h|h
     ·rw[h];exact hq9
     ·exact h3 d h,s2,by simp only[vl];exact s1⟩
    (aF _ rfl ⟨⟨0,_,rfl,rfl,.eq (dP _) DL⟩,trivial⟩
     ⟨aQ (tD _),aQ (tD _),⟨_,rfl,.slE rfl rfl⟩,aQ (tD _),⟨_,rfl,.w64 rfl ⟨by simp only;omega,by simp only;omega⟩⟩,trivial⟩) (by simp only;omega)
 ·have hm0:m=0:=by simp at hb;omega
  subst hm0;rw[Ub,hva] at h5;have e1:x/y=vl 10000 R:=by rw[h5,W9,Nat.add_mul_div_right _ _ hy,Wk h4,UT]
  have e2:x%y=r:=by rw[h5,W9,Wx,VJ h4]
  refine Rr ?_;exact bJ (r':=.tup [.il 1 (bN R),.il 1 (bN (dg 10000 r))]) (m':=[]) (n':=0) [] rfl trivial (.tup' (.cons (.fzR rfl rfl (.eq (dP _) (by unfold wQ;simp)) (by rw[aP];omega)) (.cons (.same _ (tD _)) .nil))) ⟨R,by rw[e2],rfl,rfl,by omega,h3,e1.symm⟩
set_option maxHeartbeats 16000000
theorem RK(b:Bool)(m n:Nat):sg b m+sg b n=sg b (m+n):=by unfold sg;split<;>omega
theorem QH(x y:Int)(hy0:y≠0)(hx:(dg 10000 x.natAbs).length<=900000)(hy:(dg 10000 y.natAbs).length<=900000):aZ prog [] 145 [eR x,eR y] (.tup [eR (x/y),eR (x%y)]):=by
 have hyp:0<y.natAbs:=XF.2 hy0;have hd:=LV x.natAbs y.natAbs hyp hx hy;obtain⟨hs1,hs2⟩:=K0 (x:=x) hy0;have hm:=VY x.natAbs hyp;have hlq:=Og hT x.natAbs y.natAbs;have hlr:=JL hT x.natAbs y.natAbs;have hno:∀Q:List Nat,Q.length=(dg 10000 x.natAbs).length->(∀d∈Q,d<10000)->vl 10000 Q=x.natAbs/y.natAbs->_:=fun Q h1 h2 h3=>mU (decide (x<0) != decide (y<0)) Q _ (by omega) h2 h3
 have hnr:=wG (dg 10000 (x.natAbs%y.natAbs)) _ (by omega) (eS hT _) (fK hT _);have h1:=mU (decide (x<0) != decide (y<0)) [1] 1 (by simp) (by simp) (by simp[vl]);have ha:=S9 (sg (decide (x<0) != decide (y<0)) (x.natAbs/y.natAbs)) (sg (decide (x<0) != decide (y<0)) 1) (by rw[Cw];omega) (by rw[Cw];have:(dg 10000 1).length<=1:=DS hT (by decide);omega);rw[RK] at ha;have hmi:=FX y.natAbs (x.natAbs%y.natAbs) (by omega) (by omega);have hnm:=wG (g8 (dg 10000 (y.natAbs-x.natAbs%y.natAbs)) (dg 10000 y.natAbs).length) _ (by rw[uD (yG hT _ _)];omega) iN.1 iN.2;have hrl:decide (0<(dg 10000 (x.natAbs%y.natAbs)).length)=decide (0<x.natAbs%y.natAbs):=kF hT;have e0:∀n:Nat,eR (n:Int) = .agg [.bool false,.il 1 (bN (dg 10000 n))]:=fun n=>by rw[d6,UO (by omega),Uz]
 obtain⟨b1,l1,q1⟩:∃b l,eR (sg (decide (x<0) != decide (y<0)) (x.natAbs/y.natAbs)) = .agg [.bool b,.il 1 (bN l)]:=⟨_,_,rfl⟩
 obtain⟨b2,l2,q2⟩:∃b l,eR (sg (decide (x<0) != decide (y<0)) 1) = .agg [.bool b,.il 1 (bN l)]:=⟨_,_,rfl⟩
 obtain⟨b3,l3,q3⟩:∃b l,eR (sg (decide (x<0) != decide (y<0)) (x.natAbs/y.natAbs+1)) = .agg [.bool b,.il 1 (bN l)]:=⟨_,_,rfl⟩
 rw[q1] at hno ha;rw[q2] at h1 ha;rw[q3] at ha;have fA:decide (x<0)=true/\0<x.natAbs%y.natAbs->AV.tup [eR (x/y),eR (x%y)] = .tup [.agg [.bool b3,.il 1 (bN l3)],.agg [.bool false,.il 1 (bN (dg 10000 (y.natAbs-x.natAbs%y.natAbs)))]]:=fun h=>by
  rw[(hs1 h).1,(hs1 h).2,q3,e0]
 have fB:¬(decide (x<0)=true/\0<x.natAbs%y.natAbs)->AV.tup [eR (x/y),eR (x%y)] = .tup [.agg [.bool b1,.il 1 (bN l1)],.agg [.bool false,.il 1 (bN (dg 10000 (x.natAbs%y.natAbs)))]]:=fun h=>by
  rw[(hs2 h).1,(hs2 h).2,q1,e0]
 generalize AV.tup [eR (x/y),eR (x%y)]=RES at *;rw[d6 x,d6 y];clear hs1 hs2 q1 q2 q3 hlq hlr e0;generalize g8 (dg 10000 (y.natAbs-x.natAbs%y.natAbs)) (dg 10000 y.natAbs).length=pq at *;generalize dg 10000 (y.natAbs-x.natAbs%y.natAbs)=lr1 at *;generalize dg 10000 (x.natAbs%y.natAbs)=lr at *;generalize dg 10000 x.natAbs=la at *;generalize dg 10000 y.natAbs=lb at *;generalize decide (x<0)=bx at *;generalize decide (y<0)=by_ at *;have hlen:(bN lr).length=lr.length:=aP lr;refine aG bB func145 rfl ?_;refine Rt ?_;refine aE.go0 hd ?_ (.cons (tD _) (.cons (tD _) .nil));rintro r m n ⟨Q,rfl,rfl,rfl,z1,z2,z3⟩;refine⟨_,.same _ (.tup' (.cons (tD _) (.cons (tD _) .nil))), ?_⟩;have hno:=hno Q z1 z2 z3;refine Rt ?_;refine hno.go ?_ (.cons (sW _) (.cons (tD _) .nil)) (g6 _ _);refine Rt ?_;refine hnr.go ?_ (.cons (sW _) (.cons (tD _) .nil)) (g6 _ _);cases bx with
 | false=>
  rw[fB (by simp)];refine Rt ?_;exact aA (.tup' (.cons (g6 _ _) (.cons (g6 _ _) .nil))) ⟨rfl,rfl,rfl⟩
 | true=>
  cases lr with
  | nil=>
   have h0:¬0<x.natAbs%y.natAbs:=by simpa using hrl
   rw[fB (fun h=>h0 h.2)];refine Rt ?_;exact aA (.tup' (.cons (g6 _ _) (.cons (g6 _ _) .nil))) ⟨rfl,rfl,rfl⟩
  | cons r0 rs=>
   have h0:0<x.natAbs%y.natAbs:=by simpa using hrl
   rw[fA ⟨rfl,h0⟩];refine Rt ?_;refine aD (fun h=>?_) (fun h=>absurd h (by simp[bN]));refine Rr ?_;refine aE.pre bB [(0,0),(1,1),(2,2),(3,3),(4,4),(5,5)] (mem':=[(0,.row 44 2 [.agg [.bool true,.il 1 (bN la)]]),(1,.row 44 2 [.agg [.bool by_,.il 1 (bN lb)]]),(2,.row 44 2 [.agg [.bool false,.nsl]]),(3,.row 44 2 [.agg [.bool false,.nsl]]),(4,.row 44 2 [.agg [.bool b1,.il 1 (bN l1)]]),(5,.row 44 2 [.agg [.bool false,.il 1 (bN (r0::rs))]])]) rfl
    ⟨aK 0 (.cons (g6 _ _) .nil),aK 1 (.cons (g6 _ _) .nil),aK 2 (nN _),aK 3 (nN _),aK 4 (.cons (g6 _ _) .nil),aK 5 (.cons (g6 _ _) .nil),trivial⟩
    (.cons (.same _ (sW _)) (.cons (.fz' (id:=6) (off:=0) (len:=1) (xs:=[.int .i64 1]) (ys:=bN [1]) rfl rfl (UC 1) rfl (dP [1])) .nil)) ?_
   refine h1.go ?_ (.cons (sW _) (.cons (tD _) .nil)) (g6 _ _);refine Rt ?_;refine ha.go ?_ (.cons (g6 _ _) (.cons (g6 _ _) .nil)) (g6 _ _);refine Rt ?_;refine hmi.go ?_ (.cons (tD _) (.cons (tD _) .nil)) (tD _);refine Rt ?_;refine hnm.go ?_ (.cons (sW _) (.cons (tD _) .nil)) (g6 _ _);refine Rt ?_;exact aA (.tup' (.cons (g6 _ _) (.cons (g6 _ _) .nil))) ⟨rfl,rfl,rfl⟩
theorem TV(x y:Int)(hx:(dg 10000 x.natAbs).length<=900000)(hy:(dg 10000 y.natAbs).length<=900000):aZ prog [] 144 [eR x,eR y] (eR (Nat.gcd x.natAbs y.natAbs:Nat)):=by
 have e0:∀n:Nat,eR (n:Int) = .agg [.bool false,.il 1 (bN (dg 10000 n))]:=fun n=>by rw[d6,UO (by omega),Uz]
 have hn1:=wG (dg 10000 x.natAbs) _ (by omega) (eS hT _) (fK hT _);have hn2:=wG (dg 10000 y.natAbs) _ (by omega) (eS hT _) (fK hT _);rw[d6 x,d6 y,e0];generalize decide (x<0)=bx;generalize decide (y<0)=by_;generalize x.natAbs=a at *;generalize y.natAbs=b at *;obtain⟨g,hg⟩:∃g,g=Nat.gcd a b:=⟨_,rfl⟩
 rw[←hg];refine aG bB func144 rfl ?_;refine Rt ?_;refine hn1.go ?_ (.cons (sW _) (.cons (tD _) .nil)) (g6 _ _);refine Rt ?_;refine hn2.go ?_ (.cons (sW _) (.cons (tD _) .nil)) (g6 _ _);refine Rt ?_;refine bA.at bB (fun p:Nat × Nat=>(dg 10000 p.1).length<=900000/\(dg 10000 p.2).length<=900000/\Nat.gcd p.1 p.2=g)
  (fun p=>⟨[(4,.ptr 0 0 0),(5,.ptr 1 0 0),(6,.ptr 2 0 0)],[(0,.row 44 2 [.agg [.bool false,.nsl]]),(1,.row 44 2 [.agg [.bool false,.il 1 (bN (dg 10000 p.1))]]),(2,.row 44 2 [.agg [.bool false,.il 1 (bN (dg 10000 p.2))]])],3,28⟩)
  (fun p=>p.2) (a,b) [(2,0),(3,1),(4,2)] ⟨hx,hy,hg.symm⟩
  (aF _ rfl ⟨aK 2 (nN _),aK 3 (.cons (g6 _ _) .nil),aK 4 (.cons (g6 _ _) .nil),trivial⟩ ⟨aI,aI,aI,trivial⟩) ?_
 clear hn1 hn2;rintro⟨u,v⟩ ⟨h1,h2,h3⟩;simp only at h1 h2 h3 ⊢;have hz:=kF (B:=10000) (n:=v) hT;have hlz:decide (((bN (dg 10000 v)).length:Int)>0)=decide (0<v):=by
  rw[aP,←hz,Va];omega
 by_cases hv:0<v
 ·have hd:=QH (u:Int) (v:Int) (by omega) (by rw[Uz];exact h1) (by rw[Uz];exact h2);have hm:=JL hT u v;have hmlt:=VY u hv;have hgs:=MI u v;rw[←W6,←Int.natCast_emod,e0,e0,e0,e0] at hd;generalize u%v=w at *;generalize dg 10000 (u/v)=qq at *;generalize hlu:dg 10000 u=lu at *;generalize hlv:dg 10000 v=lv at *;generalize hlw:dg 10000 w=lw at *;refine Rr ?_;rw[hlz,UD hv];refine Rt ?_;refine hd.go ?_ (.cons (g6 _ _) (.cons (g6 _ _) .nil)) (.tup' (.cons (g6 _ _) (.cons (g6 _ _) .nil)));refine Rt ?_;exact .mk (v,w) [(0,0),(1,1),(2,2)] ⟨by simp only;rw[hlv];exact h2,by simp only;rw[hlw];omega,by simp only;rw[hgs];exact h3⟩
   (aF _ rfl ⟨aK 0 (nN _),⟨1,_,rfl,rfl,.eq (.cons (g6 _ _) .nil) (by rw[hlv])⟩,⟨2,_,rfl,rfl,.eq (.cons (g6 _ _) .nil) (by rw[hlw])⟩,trivial⟩ ⟨aI,aI,aI,trivial⟩) (by simp only;omega)
 ·have hv0:v=0:=by omega
  rw[hv0,Nat.gcd_zero_right] at h3;rw[←h3];generalize dg 10000 u=lu at *;generalize dg 10000 v=lv at *;refine Rr ?_;rw[hlz,UO hv];refine Rt ?_;exact aA (g6 _ _) ⟨rfl,rfl,rfl⟩
set_option maxHeartbeats 4000000
set_option maxHeartbeats 16000000
set_option maxHeartbeats 16000000
def R6(a:Fr):AV:=.agg [.bool (decide (a.p<0)),.il 1 (bN (dg 10000 a.p.natAbs)),.bool (decide ((a.q:Int)<0)),.il 1 (bN (dg 10000 (a.q:Int).natAbs))]
theorem Tg(b c:Bool)(l m:List Nat):NN (.agg [.bool b,.il 1 (bN l),.bool c,.il 1 (bN m)]):=.agg' (.cons (sW _) (.cons (tD _) (.cons (sW _) (.cons (tD _) .nil))))
theorem qE(z:Int):∃b l,eR z = .agg [.bool b,.il 1 (bN l)]:=⟨_,_,rfl⟩
theorem OP(a:Fr):∃b l c m,eR a.p = .agg [.bool b,.il 1 (bN l)]/\eR (a.q:Int) = .agg [.bool c,.il 1 (bN m)]/\R6 a = .agg [.bool b,.il 1 (bN l),.bool c,.il 1 (bN m)]:=⟨_,_,_,_,rfl,rfl,rfl⟩
structure LF(n:Nat)(a:Fr):Prop where
 num:(dg 10000 a.p.natAbs).length<=n
 den:(dg 10000 a.q).length<=n
theorem Lv{p q:Int}(h:q≠0):0<Nat.gcd p.natAbs q.natAbs:=Nat.gcd_pos_of_pos_right _ (XF.2 h)
theorem JB(p q:Int)(hq:q≠0)(h1:(dg 10000 p.natAbs).length<=800000)(h2:(dg 10000 q.natAbs).length<=800000):aZ prog [] 148 [eR p,eR q] (.tup [R6 (mkF p q),.int .i64 0]):=by
 have hg0:=Lv (p:=p) hq;have hn1:=Rv p (by omega);have hn2:=Rv q (by omega);have key:∀P Q:Int,P=(if q<0 then -p else p)->Q=(q.natAbs:Int)->aZ prog [] 144 [eR P,eR Q] (eR (Nat.gcd p.natAbs q.natAbs:Nat)) /\
   aZ prog [] 145 [eR P,eR (Nat.gcd p.natAbs q.natAbs:Nat)] (.tup [eR (mkF p q).p,eR (P%(Nat.gcd p.natAbs q.natAbs:Nat))]) /\
   aZ prog [] 145 [eR Q,eR (Nat.gcd p.natAbs q.natAbs:Nat)] (.tup [eR ((mkF p q).q:Int),eR (Q%(Nat.gcd p.natAbs q.natAbs:Nat))]):=by
  intro P Q hP hQ;have a1:P.natAbs=p.natAbs:=by rw[hP];split<;>simp
  have a2:Q.natAbs=q.natAbs:=by rw[hQ];simp
  have hgl:=Nl hT p.natAbs q.natAbs;have z1:=TV P Q (by rw[a1];omega) (by rw[a2];omega);rw[a1,a2] at z1;have z2:=QH P (Nat.gcd p.natAbs q.natAbs:Nat) (by omega) (by rw[a1];omega) (by rw[Uz];omega);have z3:=QH Q (Nat.gcd p.natAbs q.natAbs:Nat) (by omega) (by rw[a2];omega) (by rw[Uz];omega);refine⟨z1, ?_, ?_⟩
  ·have e:(mkF p q).p=P/(Nat.gcd p.natAbs q.natAbs:Nat):=by rw[hP];rfl
   rw[e];exact z2
  ·have e:((mkF p q).q:Int)=Q/(Nat.gcd p.natAbs q.natAbs:Nat):=by rw[hQ,←W6];rfl
   rw[e];exact z3
 have kn:=key (-p) (-q);have kp:=key p q;have hlz:=kF (B:=10000) (n:=q.natAbs) hT;have hz:(((dg 10000 q.natAbs).length:Int) == 0)=false:=by
  have:0<(dg 10000 q.natAbs).length:=by
   have:=Va.1 hlz;exact this.2 (by omega)
  simp;intro h;rw[h] at this;simp at this
 obtain⟨b,l,c,m,q1,q2,q3⟩:=OP (mkF p q);rw[q1,q2] at kn kp;rw[q3];obtain⟨bg,lg,hgg⟩:=qE (Nat.gcd p.natAbs q.natAbs:Nat);rw[hgg] at kn kp;obtain⟨bm,lm,hmm⟩:=qE (-p);obtain⟨bn,ln,hnn⟩:=qE (-q);rw[hmm] at hn1 kn;rw[hnn] at hn2 kn;clear key q1 q2 q3 hgg hmm hnn hlz hg0;have ep:=d6 p;have eq:=d6 q;rw[ep] at hn1 kp ⊢;rw[eq] at hn2 kp ⊢;clear ep eq;generalize hbq:decide (q<0)=bq at *;generalize decide (p<0)=bp at *;generalize dg 10000 p.natAbs=lp at *;generalize dg 10000 q.natAbs=lq at *;refine aG bB func148 rfl ?_;cases bq with
 | true=>
  have hlt:=Un hbq;obtain⟨k1,k2,k3⟩:=kn (by rw[T7 hlt]) (by omega);obtain⟨b1,l1,e1⟩:=qE (-p%(Nat.gcd p.natAbs q.natAbs:Nat));obtain⟨b2,l2,e2⟩:=qE (-q%(Nat.gcd p.natAbs q.natAbs:Nat));rw[e1] at k2;rw[e2] at k3;refine Rt ?_;rw[aP,hz];refine Rt ?_;refine hn1.go ?_ (.cons (g6 _ _) .nil) (g6 _ _);refine Rt ?_;refine hn2.go ?_ (.cons (g6 _ _) .nil) (g6 _ _);refine Rt ?_;refine k1.go ?_ (.cons (g6 _ _) (.cons (g6 _ _) .nil)) (g6 _ _);refine Rt ?_;refine k2.go ?_ (.cons (g6 _ _) (.cons (g6 _ _) .nil)) (.tup' (.cons (g6 _ _) (.cons (g6 _ _) .nil)));refine Rt ?_;refine k3.go ?_ (.cons (g6 _ _) (.cons (g6 _ _) .nil)) (.tup' (.cons (g6 _ _) (.cons (g6 _ _) .nil)));refine Rt ?_;exact aA (.tup' (.cons (Tg _ _ _ _) (.cons nn .nil))) ⟨rfl,rfl,rfl⟩
 | false=>
  have hlt:=VX hbq;obtain⟨k1,k2,k3⟩:=kp (by rw[T5 hlt]) (by omega);obtain⟨b1,l1,e1⟩:=qE (p%(Nat.gcd p.natAbs q.natAbs:Nat));obtain⟨b2,l2,e2⟩:=qE (q%(Nat.gcd p.natAbs q.natAbs:Nat));rw[e1] at k2;rw[e2] at k3;refine Rt ?_;rw[aP,hz];refine Rt ?_;refine k1.go ?_ (.cons (g6 _ _) (.cons (g6 _ _) .nil)) (g6 _ _);refine Rt ?_;refine k2.go ?_ (.cons (g6 _ _) (.cons (g6 _ _) .nil)) (.tup' (.cons (g6 _ _) (.cons (g6 _ _) .nil)));refine Rt ?_;refine k3.go ?_ (.cons (g6 _ _) (.cons (g6 _ _) .nil)) (.tup' (.cons (g6 _ _) (.cons (g6 _ _) .nil)));refine Rt ?_;exact aA (.tup' (.cons (Tg _ _ _ _) (.cons nn .nil))) ⟨rfl,rfl,rfl⟩
set_option maxHeartbeats 16000000
theorem LF.mkF{n:Nat}{p q:Int}(h1:(dg 10000 p.natAbs).length<=n)(h2:(dg 10000 q.natAbs).length<=n):LF n (mkF p q):=
 ⟨UQ (dJ hT (N0 p q)) h1,UQ (dJ hT (Na p q)) h2⟩
end Go.Proofs.YtidjhgajglebnaaGreatDoor
namespace Go.Ax
open Go
structure Cell where
 n:Nat
 p:Fr
end Go.Ax
