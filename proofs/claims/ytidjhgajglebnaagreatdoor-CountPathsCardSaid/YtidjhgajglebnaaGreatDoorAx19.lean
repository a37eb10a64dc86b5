/- A part of the proof. -/
import Derived.Test.YtidjhgajglebnaaGreatDoorAx18
set_option linter.unusedVariables false
set_option linter.unusedSimpArgs false
namespace Go.Proofs.YtidjhgajglebnaaGreatDoor
open Go Go.Ax Go.Proofs Tryz
set_option maxRecDepth 100000
set_option maxHeartbeats 16000000
theorem hT:(2:Nat)<=10000:=by decide
theorem tD(l:List Nat):NN (.il 1 (bJ l)):=.il' (eM l)
theorem gH(b:Bool):NN (.bool b):=.bool b
theorem fD(b:Bool)(l:List Nat):NN (.agg [.bool b,.il 1 (bJ l)]):=.agg' (.cons (gH _) (.cons (tD _) .nil))
theorem YX:kI [.agg [.bool false,.nsl]]:=.cons (.agg' (.cons (gH _) (.cons .nsl .nil))) .nil
theorem d7(x:Int):dW x = .agg [.bool (decide (x<0)),.il 1 (bJ (dg 10000 x.natAbs))]:=rfl
theorem S5(neg:Bool)(n:Nat):dW (sg neg n) = .agg [.bool (neg && decide (0<n)),.il 1 (bJ (dg 10000 n))]:=by
 unfold dW;rw[D2,Pd]
theorem u7{l:List Nat}{i d:Nat}(h:l[i]? = some d):(bJ l)[((i:Nat):Int).toNat]? = some (.int .i64 (d:Int)):=by rw[Yl,PT,h];rfl
theorem Q6{l:List Nat}{i d:Nat}(h:l[i]? = some d):(bJ l)[0+((i:Nat):Int).toNat]? = some (.int .i64 (d:Int)):=by rw[ZD];exact u7 h
theorem N6(l:List Nat)(k:Nat):(bJ l).drop k=bJ (l.drop k):=by unfold bJ;rw[List.map_drop]
theorem QR(neg:Bool)(l:List Nat)(hl:l.length<=4294967296):aT prog [] 121 [.bool neg,.il 1 (bJ l)] (.agg [.bool (neg && decide (0<(fJ l).length)),.il 1 (bJ (fJ l))]):=by
 refine aD bD func121 rfl ?_;refine Rr ?_;refine aZ.at bD (fun k:Nat=>k<=l.length/\fJ (l.take k)=fJ l) (fun k=>⟨[(0,.bool neg),(1,.il 1 (bJ (l.take k))),(4,.ptr 0 0 0)],[(0,.row 44 2 [.agg [.bool false,.nsl]])],1,30⟩) (fun k=>k) l.length [(0,0)] ⟨Yy _,by rw[ZB]⟩
  (aE _ rfl ⟨aL 0 YX,trivial⟩ ⟨aN (gH _),⟨_,rfl,.eq (tD _) (by rw[ZB])⟩,aG,trivial⟩) ?_
 rintro k ⟨hk,ht⟩;refine Rr ?_;have hlk:(bJ (l.take k)).length=k:=by rw[aS,ZT];omega
 rw[hlk];refine aH (fun hb=>?_) (fun hb=>?_)
 ·rw[hb];have hk0:0<k:=by simpa using hb
  obtain⟨j,rfl⟩:∃j,k=j+1:=⟨k-1,by omega⟩
  obtain⟨d,hd⟩:∃d,l[j]? = some d:=⟨_,Yj (by omega)⟩
  have hw:IntKind.i64.wrap (((j+1:Nat):Int)-1)=(j:Int):=by rw[bA ⟨by omega,by omega⟩];omega
  have hg:(l.take (j+1))[j]? = some d:=by rw[ZJ,Yt (by omega)];exact hd
  have e1:=u7 hg;have hts:fJ (l.take (j+1))=if d=0 then fJ (l.take j) else l.take (j+1):=by
   have e:=By hd;rw[e,y5]
  refine Rr ?_;rw[hlk,hw];refine aB e1 ?_;refine Rt ?_;refine aH (fun hc=>?_) (fun hc=>?_)
  ·have hd0:d=0:=by simpa using hc
   refine Rr ?_;rw[hlk,hw];refine aM (O9 (by omega)) ?_;refine Rr ?_;exact .mk j [(0,0)] ⟨by omega,by rw[Yt hd0] at hts;rw[←hts];exact ht⟩ (aE _ rfl ⟨aL 0 YX,trivial⟩ ⟨aN (gH _),⟨_,rfl,.eq (tD _) (by simp[bJ,←List.map_take,aAM])⟩,aG,trivial⟩) (by omega)
  ·have hd0:d≠0:=by simpa using hc
   rw[Yo hd0] at hts;rw[hts] at ht;rw[←ht];generalize hL:l.take (j+1)=L at *;have hpos:decide (((bJ L).length:Int)>0)=decide (0<L.length):=by rw[aS,Ze];omega
   cases neg with
   | false=>
    refine Rt ?_;exact aA (fD _ _) ⟨rfl,rfl,rfl⟩
   | true=>
    refine Rr ?_;rw[hpos];refine Rs ?_;exact aA (fD _ _) ⟨rfl,rfl,rfl⟩
 ·try rw[hb]
  have hk0:k=0:=by simp at hb;omega
  subst hk0;rw[←ht];generalize hL:l.take 0=L at *;have hL0:L=[]:=by rw[←hL];rfl
  subst hL0;have hpos:decide ((((bJ []):List AV).length:Int)>0)=false:=by rfl
  cases neg with
  | false=>
   refine Rt ?_;exact aA (fD _ _) ⟨rfl,rfl,rfl⟩
  | true=>
   refine Rt ?_;exact aA (fD _ _) ⟨rfl,rfl,rfl⟩
theorem pH(neg:Bool)(l:List Nat)(n:Nat)(hl:l.length<=4294967296)(hd:∀d∈l,d<10000)(hv:vl 10000 l=n):aT prog [] 121 [.bool neg,.il 1 (bJ l)] (dW (sg neg n)):=by
 have h:=QR neg l hl;have e:fJ l=dg 10000 n:=by rw[kT hT _ hd,hv]
 rw[e] at h;rw[S5,←gZ hT];exact h
theorem Fb(x y:Nat)(hx:(dg 10000 x).length<=4294967296):aT prog [] 142 [.il 1 (bJ (dg 10000 x)),.il 1 (bJ (dg 10000 y))] (.int .i64 (lJ x y)):=by
 refine aD bD func142 rfl ?_;refine Rr ?_;rw[aS,aS];have hB:=hT;have hla:=fP hB x;have hlb:=fP hB y;have hva:=gE hB x;have hvb:=gE hB y;have hL:(dg 10000 x).length<(dg 10000 y).length->lJ (x:Int) y = -1:=fun h=>by have:=pX hB h;unfold lJ;rw[Yt (by omega)]
 have hG:(dg 10000 y).length<(dg 10000 x).length->lJ (x:Int) y=1:=fun h=>by have:=pX hB h;unfold lJ;rw[Yo (by omega),Yt (by omega)]
 generalize dg 10000 x=a at *;generalize dg 10000 y=b at *;refine aH (fun hb=>?_) (fun hb=>?_)
 ·refine Rr ?_;rw[hL (by simpa using hb)];exact aA nn ⟨rfl,rfl,rfl⟩
 ·refine Rr ?_;rw[aS,aS];refine aH (fun hc=>?_) (fun hc=>?_)
  ·refine Rr ?_;rw[hG (by simp at hc;omega)];exact aA nn ⟨rfl,rfl,rfl⟩
  have heq:a.length=b.length:=by simp at hb hc;omega
  refine Rr ?_;refine aZ.at bD (fun m:Nat=>m<=a.length/\a.drop m=b.drop m) (fun m=>⟨[(0,.il 1 (bJ a)),(1,.il 1 (bJ b)),(5,.int .i64 ((m:Int)-1))],[],0,41⟩) (fun m=>m) a.length [] ⟨Yy _,by rw[Z6,heq,Z6]⟩
   (bL ⟨aN (tD _),aN (tD _),⟨_,rfl,.w64 (by rw[aS]) ⟨by omega,by omega⟩⟩,trivial⟩) ?_
  rintro m ⟨hm,hd⟩;refine Rr ?_;refine aH (fun hc=>?_) (fun hc=>?_)
  ·have hm1:0<m:=by simp at hc;omega
   obtain⟨i,rfl⟩:∃i,m=i+1:=⟨m-1,by omega⟩
   rw[show (((i+1:Nat):Int)-1)=(i:Int) by omega];obtain⟨u,hu⟩:∃u,a[i]? = some u:=⟨_,Yj (by omega)⟩
   obtain⟨v,hv⟩:∃v,b[i]? = some v:=⟨_,Yj (by omega)⟩
   have e1:=u7 hu;have e2:=u7 hv;refine Rr ?_;repeat((first|refine aB e1 ?_|refine aB e2 ?_|refine bO ?_);refine Rr ?_)
   refine aH (fun hc=>?_) (fun hc=>?_)
   ·have huv:u<v:=by simp at hc;omega
    have:=pS hla hB hd hu hv huv heq;refine Rr ?_;rw[show lJ (x:Int) y = -1 by unfold lJ;rw[Yt (by omega)]];exact aA nn ⟨rfl,rfl,rfl⟩
   ·refine Rr ?_;repeat((first|refine aB e1 ?_|refine aB e2 ?_|refine bO ?_);refine Rr ?_)
    refine aH (fun hc2=>?_) (fun hc2=>?_)
    ·have huv:v<u:=by simp at hc2;omega
     have:=pS hlb hB hd.symm hv hu huv heq.symm;refine Rr ?_;rw[show lJ (x:Int) y=1 by unfold lJ;rw[Yo (by omega),Yt (by omega)]];exact aA nn ⟨rfl,rfl,rfl⟩
    ·have huv:u=v:=by simp at hc hc2;omega
     refine Rr ?_;exact .mk i [] ⟨by omega,by
       obtain⟨h1,h2⟩:=Yn.1 hu;obtain⟨h3,h4⟩:=Yn.1 hv;rw[List.drop_eq_getElem_cons h1,List.drop_eq_getElem_cons h3,h2,h4,huv,hd]⟩
      (bL ⟨aN (tD _),aN (tD _),⟨_,rfl,.w64 rfl ⟨by omega,by omega⟩⟩,trivial⟩) (by omega)
  ·have hm0:m=0:=by simp at hc;omega
   subst hm0;simp only[ZI] at hd;subst hd;refine Rr ?_;rw[show lJ (x:Int) y=0 by rw[←hva,hvb];simp[lJ]];exact aA nn ⟨rfl,rfl,rfl⟩
theorem XI(x:Int)(hx:(dg 10000 x.natAbs).length<=4294967296):aT prog [] 203 [dW x] (dW (-x)):=by
 have h:=pH (!decide (x<0)) (dg 10000 x.natAbs) x.natAbs hx (fP hT _) (gE hT _);have e:sg (!decide (x<0)) x.natAbs = -x:=by
  unfold sg;by_cases h:x<0
  ·simp[h];omega
  ·simp[h];omega
 rw[e,d7 (-x)] at h;rw[d7 x,d7 (-x)];generalize decide (-x<0)=b2 at *;generalize dg 10000 (-x).natAbs=a2 at *;generalize dg 10000 x.natAbs=a at *;generalize decide (x<0)=b at *;refine aD bD func203 rfl ?_;refine Rr ?_;refine h.go ?_ (.cons (gH _) (.cons (tD _) .nil)) (fD _ _);refine Rt ?_;exact aA (fD _ _) ⟨rfl,rfl,rfl⟩
theorem XV(l:List Nat)(i:Nat)(hl:l.length<=4294967296):aT prog [] 200 [.il 1 (bJ l),.int .i64 i] (.int .i64 (l.getD i 0:Nat)):=by
 refine aD bD func200 rfl ?_;refine Rr ?_;rw[aS];refine aH (fun hb=>?_) (fun hb=>?_)
 ·have hlt:i<l.length:=by simpa using hb
  obtain⟨d,hd⟩:∃d,l[i]? = some d:=⟨_,Yj hlt⟩
  have e1:=u7 hd;refine Rr ?_;refine aB e1 ?_;refine Rr ?_;exact fL (r':=.int .i64 (l.getD i 0:Nat)) (.int (by rw[Ym,hd];rfl)) ⟨rfl,rfl,rfl⟩
 ·have hge:l.length<=i:=by simp at hb;omega
  refine Rr ?_;exact fL (r':=.int .i64 (l.getD i 0:Nat)) (.int (by rw[Ym,Y3 hge];rfl)) ⟨rfl,rfl,rfl⟩
set_option maxHeartbeats 16000000
theorem RT(neg:Bool)(m:Nat):sg neg m=0↔m=0:=by unfold sg;split<;>omega
theorem xQ(l:List Nat)(d:Nat):bJ (l++[d])=bJ l++[.int .i64 (d:Int)]:=by rw[QN];rfl
theorem nN(b:Bool):kI [.agg [.bool b,.nsl]]:=.cons (.agg' (.cons (gH _) (.cons .nsl .nil))) .nil
theorem Sq{m:Nat}(h:0<m):dg 10000 m=(m%10000)::dg 10000 (m/10000):=pE hT h
theorem Tz(n:Int)(hn:i64 n):aT prog [] 66 [.int .i64 n] (dW n):=by
 obtain⟨hn1,hn2⟩:=hn;have hlen:(dg 10000 n.natAbs).length<=5:=iI hT (by omega);have hno:=pH (decide (n<0)) (dg 10000 n.natAbs) n.natAbs (by omega) (fP hT _) (gE hT _);rw[GD] at hno;have hsg:=GD n;obtain⟨N,hN⟩:∃N,N=n.natAbs:=⟨_,rfl⟩
 have hNb:N<=9223372036854775808:=by omega
 rw[←hN] at hsg hno hlen;generalize hneg:decide (n<0)=neg at *;refine aD bD func66 rfl ?_;refine Rr ?_;rw[hneg];refine aZ.ph 3 1 ?_;refine aZ.at bD (fun p:List Nat × Nat=>p.1++dg 10000 p.2=dg 10000 N/\p.2<=N)
  (fun p=>⟨[(0,.int .i64 (sg neg p.2)),(2,.ptr 0 0 0),(3,.sl 1 0 p.1.length),(4,.bool neg)],[(0,.row 44 2 [.agg [.bool false,.nsl]]),(1,.row 3 1 (bJ p.1))],2,25⟩)
  (fun p=>p.2) ([],N) [(0,0),(1,1)] ⟨by simp,by simp⟩
  (aE _ rfl ⟨aL 0 (nN _),⟨1,_,rfl,rfl,.nil⟩,trivial⟩ ⟨⟨_,rfl,.int hsg.symm⟩,aG,⟨_,rfl,.nslk 1 1 _ rfl rfl⟩,aN (gH _),trivial⟩) ?_
 rintro⟨s,m⟩ ⟨h1,h2⟩;simp only at h1 h2 ⊢;have hsl:s.length<=5:=by
  have:=congrArg List.length h1;rw[Y1] at this;omega
 by_cases hm:0<m
 ·have hz:(sg neg m != 0)=true:=by
   have:sg neg m≠0:=fun h=>by rw[RT] at h;omega
   simpa using this
  have hrem:(sg neg m).tmod 10000=sg neg (m%10000):=by
   unfold sg;split
   ·rw[Int.neg_tmod];exact congrArg _ (u5 m 10000)
   ·exact u5 m 10000
  have hquo:(sg neg m).tdiv 10000=sg neg (m/10000):=by
   unfold sg;split
   ·rw[Int.neg_tdiv];exact congrArg _ (o0 m 10000)
   ·exact o0 m 10000
  have hstep:=Sq hm;have hsr:i64 (sg neg (m%10000)):=by unfold sg i64;split<;>omega
  have hsq:i64 (sg neg (m/10000)):=by unfold sg i64;split<;>omega
  have hw1:IntKind.i64.wrap ((sg neg m).tmod 10000)=sg neg (m%10000):=by rw[hrem,bA hsr]
  have hw2:IntKind.i64.wrap ((sg neg m).tdiv 10000)=sg neg (m/10000):=by rw[hquo,bA hsq]
  have key:∀(s':List Nat),s'=s++[m%10000]->s'++dg 10000 (m/10000)=dg 10000 N:=fun s' h=>by
   rw[h,←h1,hstep];simp
  have hget:∀(x:Int) (mm:aQ),x=((m%10000:Nat):Int)->tL mm [(0,0),(3,1)] (bJ s++[.int .i64 x]) (bJ (s++[m%10000])):=fun x mm h=>.eq (eM _) (by rw[h,xQ])
  refine Rr ?_;rw[hz];refine Rr ?_;rw[hrem];refine aH (fun hc=>?_) (fun hc=>?_)
  ·have hk:sg neg (m%10000)<0:=ZX hc;have hw3:IntKind.i64.wrap (0-sg neg (m%10000))=((m%10000:Nat):Int):=by
    revert hk
    unfold sg;split
    ·intro _;rw[bA ⟨by omega,by omega⟩];omega
    ·intro h;omega
   refine Rr ?_;refine aM (bT rfl rfl (by rw[aS]) (by simp;omega)) ?_;refine Rr ?_;exact .mk (s++[m%10000],m/10000) [(0,0),(3,1)] ⟨key _ rfl,by simp only;omega⟩
    (aE _ rfl ⟨aL 0 (nN _),⟨3,_,rfl,rfl,hget _ _ hw3⟩,trivial⟩ ⟨⟨_,rfl,.int hw2⟩,aG,⟨_,rfl,.slE rfl (by simp[aS])⟩,aN (gH _),trivial⟩) (by simp only;omega)
  ·have hk:¬sg neg (m%10000)<0:=aAg hc;have hw3:sg neg (m%10000)=((m%10000:Nat):Int):=by
    revert hk
    unfold sg;split<;>omega
   refine Rr ?_;refine aM (bT rfl rfl (by rw[aS]) (by simp;omega)) ?_;refine Rr ?_;exact .mk (s++[m%10000],m/10000) [(0,0),(3,1)] ⟨key _ rfl,by simp only;omega⟩
    (aE _ rfl ⟨aL 0 (nN _),⟨3,_,rfl,rfl,hget _ _ hw3⟩,trivial⟩ ⟨⟨_,rfl,.int hw2⟩,aG,⟨_,rfl,.slE rfl (by simp[aS])⟩,aN (gH _),trivial⟩) (by simp only;omega)
 ·have hm0:m=0:=by omega
  subst hm0;have hz:(sg neg 0 != 0)=false:=by unfold sg;split<;>rfl
  rw[fV,ZZ] at h1;rw[←h1] at hno;have hen:=Hq n;rw[d7 n] at hno hen ⊢;refine Rr ?_;rw[hz];refine Rr ?_;refine aF.pre bD [(0,0)] (mem':=[(0,.row 44 2 [.agg [.bool false,.nsl]])]) rfl ⟨aL 0 (nN _),trivial⟩
   (.cons (.same _ (gH _)) (.cons (.fz' (id:=1) (off:=0) (ys:=bJ s) rfl rfl (by rw[aS];omega) (by rw[ZI,Yu (by rw[aS];omega)]) (eM _)) .nil)) ?_
  refine hno.go ?_ (.cons (gH _) (.cons (tD _) .nil)) hen;refine Rt ?_;exact aA hen ⟨rfl,rfl,rfl⟩
set_option maxHeartbeats 16000000
theorem xM{l:List Nat}{i:Nat}:vl 10000 (l.take (i+1))=vl 10000 (l.take i)+10000 ^ i*l.getD i 0:=by
 rcases Y5 i l.length with h|h
 ·have hg:l[i]? = some l[i]:=Yj h;rw[jL hg,Ym,hg];rfl
 ·rw[FI h,Ym,Y3 h];simp
theorem C6{l:List Nat}(h:∀d∈l,d<10000)(i:Nat):l.getD i 0<10000:=by
 rw[Ym];cases hg:l[i]? with
 | none=>simp
 | some d=>exact h _ (Yv hg)
theorem OU{s:List Nat}{n:Nat}(hs:∀d∈s,d<10000)(hv:vl 10000 s=n)(hl:s.length=0∨10000 ^ (s.length-1)<=n):s=dg 10000 n:=by
 have h:=tY hT s hs;rw[hv] at h;have h1:=kG (n:=n) hT;have h2:s.length<=(dg 10000 n).length:=by
  rcases hl with hl|hl
  ·omega
  ·have:=aAZ hl h1;have:=(Nat.pow_lt_pow_iff_right (a:=10000) (by omega)).1 this;omega
 rw[h];unfold gQ;rw[show s.length-(dg 10000 n).length=0 by omega];simp
theorem W6(x y:Nat)(hx:(dg 10000 x).length<=1000000)(hy:(dg 10000 y).length<=1000000):aT prog [] 141 [.il 1 (bJ (dg 10000 x)),.il 1 (bJ (dg 10000 y))] (.il 1 (bJ (dg 10000 (x+y)))):=by
 have hla:=fP hT x;have hlb:=fP hT y;have hva:=gE hT x;have hvb:=gE hT y;have hga:=IB hT x;have hgb:=IB hT y;have hza:(dg 10000 x).length=0∨0<x:=by
  rcases Y2 x with h|h
  ·left;rw[h,fV];rfl
  ·exact .inr h
 have hzb:(dg 10000 y).length=0∨0<y:=by
  rcases Y2 y with h|h
  ·left;rw[h,fV];rfl
  ·exact .inr h
 obtain⟨S,hS⟩:∃S,S=x+y:=⟨_,rfl⟩
 rw[←hS];have hsum:vl 10000 (dg 10000 x)+vl 10000 (dg 10000 y)=S:=by rw[hva,hvb,hS]
 generalize dg 10000 x=a at *;generalize dg 10000 y=b at *;have ra:=fun i=>XV a i (by omega)
 have rb:=fun i=>XV b i (by omega)
 refine aD bD func141 rfl ?_;refine Rr ?_;refine aZ.ph 3 1 ?_;refine aZ.at bD (fun p:List Nat × Nat=>(∀d∈p.1,d<10000)/\p.2<=1/\vl 10000 p.1+10000 ^ p.1.length*p.2=vl 10000 (a.take p.1.length)+vl 10000 (b.take p.1.length)/\p.1.length<=1000001/\(p.1.length=0∨10000 ^ (p.1.length-1)<=S)/\(a.length+1<=p.1.length/\b.length+1<=p.1.length->p.2=0))
  (fun p=>⟨[(0,.il 1 (bJ a)),(1,.il 1 (bJ b)),(5,.sl 0 0 p.1.length),(6,.int .i64 p.2),(7,.int .i64 p.1.length)],[(0,.row 3 1 (bJ p.1))],1,42⟩)
  (fun p=>1000002-p.1.length) ([],0) [(0,0)] ⟨by simp,by simp,by simp[vl],by simp,by simp,by simp⟩
  (aE _ rfl ⟨⟨0,_,rfl,rfl,.nil⟩,trivial⟩ ⟨aN (tD _),aN (tD _),⟨_,rfl,.nslk 0 0 _ rfl rfl⟩,aK,aK,trivial⟩) ?_
 rintro⟨s,c⟩ ⟨h1,h2,h3,h4,h5,h6⟩;simp only at h1 h2 h3 h4 h5 h6 ⊢;have ra:=ra s.length;have rb:=rb s.length;have hua:=C6 hla s.length;have hub:=C6 hlb s.length;have hta:=xM (l:=a) (i:=s.length);have htb:=xM (l:=b) (i:=s.length);have hstep:=vF (B:=10000) (by decide) (s:=s) (x:=a.getD s.length 0) (y:=b.getD s.length 0) rfl h3;rw[←hta,←htb] at hstep;have hua0:a.length<=s.length->a.getD s.length 0=0:=fun h=>by rw[Ym,Y3 h];rfl
 have hub0:b.length<=s.length->b.getD s.length 0=0:=fun h=>by rw[Ym,Y3 h];rfl
 generalize a.getD s.length 0=ua at *;generalize b.getD s.length 0=ub at *;have e1:IntKind.i64.wrap ((ua:Int)+(ub:Int))=((ua+ub:Nat):Int):=by rw[bA ⟨by omega,by omega⟩];omega
 have e2:IntKind.i64.wrap (((ua+ub:Nat):Int)+(c:Int))=((c+(ua+ub):Nat):Int):=by rw[bA ⟨by omega,by omega⟩];omega
 have e3:(((c+(ua+ub):Nat):Int)).tmod 10000=(((c+(ua+ub))%10000:Nat):Int):=u5 _ 10000;have e4:IntKind.i64.wrap ((((c+(ua+ub):Nat):Int)).tdiv 10000)=(((c+(ua+ub))/10000:Nat):Int):=by
  rw[show (((c+(ua+ub):Nat):Int)).tdiv 10000=(((c+(ua+ub))/10000:Nat):Int) from o0 _ 10000,bA ⟨by omega,by omega⟩]
 have hmd:(c+(ua+ub))%10000<10000:=Z1 _ (by decide);have hga0:a.length=0∨10000 ^ (a.length-1)<=x:=by rcases hza with h|h;exact .inl h;exact .inr (hga h)
 have hgb0:b.length=0∨10000 ^ (b.length-1)<=y:=by rcases hzb with h|h;exact .inl h;exact .inr (hgb h)
 have hpow:s.length<a.length∨s.length<b.length∨0<c->10000 ^ s.length<=S:=by
  rintro(h|h|h)
  ·have:10000 ^ s.length<=10000 ^ (a.length-1):=Zl (by omega) (by omega);omega
  ·have:10000 ^ s.length<=10000 ^ (b.length-1):=Zl (by omega) (by omega);omega
  ·by_cases h7:s.length<a.length
   ·have:10000 ^ s.length<=10000 ^ (a.length-1):=Zl (by omega) (by omega);omega
   by_cases h8:s.length<b.length
   ·have:10000 ^ s.length<=10000 ^ (b.length-1):=Zl (by omega) (by omega);omega
   rw[Yu (by omega),Yu (by omega),show c=1 by omega] at h3;omega
 have hz7:a.length<=s.length/\b.length<=s.length->(c+(ua+ub))/10000=0:=fun⟨z1,z2⟩=>by have:=hua0 z1;have:=hub0 z2;omega
 rcases(show (¬s.length<a.length/\¬s.length<b.length/\c=0)∨s.length<a.length∨(¬s.length<a.length/\s.length<b.length)∨(¬s.length<a.length/\¬s.length<b.length/\0<c) by omega) with⟨q1,q2,q3⟩|q1|⟨q1,q2⟩|⟨q1,q2,q3⟩
 ·rw[Yu (by omega),Yu (by omega),q3] at h3;have hsS:s=dg 10000 S:=OU h1 (by omega) h5;refine Rr ?_;rw[aS,ZC (show ¬(s.length:Int)<(a.length:Int) by omega)];refine Rr ?_;rw[aS,ZC (show ¬(s.length:Int)<(b.length:Int) by omega)];refine Rr ?_;rw[q3];refine Rr ?_;exact bF (r':=.il 1 (bJ (dg 10000 S))) (m':=[]) (n':=0) [] rfl trivial (.fzR rfl rfl (.eq (eM _) (by rw[hsS])) (by rw[aS,hsS])) ⟨rfl,rfl,rfl⟩
 all_goals have hp10:=hpow (by omega)
 all_goals refine Rr ?_
 all_goals rw[aS]
 all_goals (first|rw[Y0 (show (s.length:Int)<(a.length:Int) by omega)]|rw[ZC (show ¬(s.length:Int)<(a.length:Int) by omega)])
 all_goals refine Rr ?_
 all_goals (first|(rw[aS,Y0 (show (s.length:Int)<(b.length:Int) by omega)];refine Rr ?_)|(rw[aS,ZC (show ¬(s.length:Int)<(b.length:Int) by omega)];refine Rr ?_)|skip)
 all_goals (first|(rw[Y0 (show (c:Int)>0 by omega)];refine Rr ?_)|skip)
 all_goals refine ra.go ?_ (.cons (tD _) (.cons nn .nil)) nn
 all_goals refine Rr ?_
 all_goals refine rb.go ?_ (.cons (tD _) (.cons nn .nil)) nn
 all_goals refine Rr ?_
 all_goals rw[e1,e2,e3]
 all_goals refine aM (bT rfl rfl (by rw[aS]) (by simp;omega)) ?_
 all_goals refine Rr ?_
 all_goals
  exact .mk (s++[(c+(ua+ub))%10000],(c+(ua+ub))/10000) [(2,0)] ⟨jQ h1 hmd,by simp only;omega,by simp only[Y1,Zf];exact hstep,by simp;omega,.inr (by simpa using hp10),fun h=>by simp at h;exact hz7 (by omega)⟩
   (aE _ rfl ⟨⟨2,_,rfl,rfl,.eq (eM _) (by rw[xQ];rfl)⟩,trivial⟩ ⟨aN (tD _),aN (tD _),⟨_,rfl,.slE rfl (by simp[aS])⟩,⟨_,rfl,.int e4⟩,⟨_,rfl,.w64 (by simp) ⟨by simp;omega,by simp;omega⟩⟩,trivial⟩) (by simp;omega)
theorem G3(x y:Nat)(hxy:y<=x)(hx:(dg 10000 x).length<=1000000):aT prog [] 143 [.il 1 (bJ (dg 10000 x)),.il 1 (bJ (dg 10000 y))] (.il 1 (bJ (gQ (dg 10000 (x-y)) (dg 10000 x).length))):=by
 have hla:=fP hT x;have hlb:=fP hT y;have hva:=gE hT x;have hvb:=gE hT y;have hlen:(dg 10000 y).length<=(dg 10000 x).length:=dX hT hxy;obtain⟨S,hS⟩:∃S,S=x-y:=⟨_,rfl⟩
 rw[←hS];have hsum:vl 10000 (dg 10000 x)=S+vl 10000 (dg 10000 y):=by rw[hva,hvb,hS];omega
 generalize dg 10000 x=a at *;generalize dg 10000 y=b at *;have ra:=fun i=>XV a i (by omega)
 have rb:=fun i=>XV b i (by omega)
 refine aD bD func143 rfl ?_;refine Rr ?_;refine aZ.ph 3 1 ?_;refine aZ.at bD (fun p:List Nat × Nat=>(∀d∈p.1,d<10000)/\p.2<=1/\vl 10000 p.1+vl 10000 (b.take p.1.length)=vl 10000 (a.take p.1.length)+10000 ^ p.1.length*p.2/\p.1.length<=a.length)
  (fun p=>⟨[(0,.il 1 (bJ a)),(1,.il 1 (bJ b)),(5,.sl 0 0 p.1.length),(6,.int .i64 p.2),(7,.int .i64 p.1.length)],[(0,.row 3 1 (bJ p.1))],1,33⟩)
  (fun p=>a.length-p.1.length) ([],0) [(0,0)] ⟨by simp,by simp,by simp[vl],by simp⟩
  (aE _ rfl ⟨⟨0,_,rfl,rfl,.nil⟩,trivial⟩ ⟨aN (tD _),aN (tD _),⟨_,rfl,.nslk 0 0 _ rfl rfl⟩,aK,aK,trivial⟩) ?_
 rintro⟨s,c⟩ ⟨h1,h2,h3,h4⟩;simp only at h1 h2 h3 h4 ⊢;have ra:=ra s.length;have rb:=rb s.length;have hua:=C6 hla s.length;have hub:=C6 hlb s.length;have hta:=xM (l:=a) (i:=s.length);have htb:=xM (l:=b) (i:=s.length);have hstep:=De (B:=10000) (s:=s) (x:=a.getD s.length 0) (y:=b.getD s.length 0) rfl h3 hua hub h2;rw[←hta,←htb] at hstep;have hdl:=Bu (B:=10000) hua hub h2;generalize a.getD s.length 0=ua at *;generalize b.getD s.length 0=ub at *;refine Rr ?_;rw[aS];refine aH (fun hb=>?_) (fun hb=>?_)
 ·have hlt:s.length<a.length:=by simpa using hb
  have e1:IntKind.i64.wrap ((ua:Int)-(ub:Int))=(ua:Int)-ub:=by rw[bA ⟨by omega,by omega⟩]
  have e2:IntKind.i64.wrap ((ua:Int)-ub-(c:Int))=(ua:Int)-ub-c:=by rw[bA ⟨by omega,by omega⟩]
  refine Rr ?_;refine ra.go ?_ (.cons (tD _) (.cons nn .nil)) nn;refine Rr ?_;refine rb.go ?_ (.cons (tD _) (.cons nn .nil)) nn;refine Rr ?_;rw[e1,e2];refine aH (fun hc=>?_) (fun hc=>?_)
  ·have hc:(ua:Int)-ub-c<0:=by simpa using hc
   rw[Yt (by omega)] at hstep hdl;rw[Yt (by omega)] at hstep;have e3:IntKind.i64.wrap ((ua:Int)-ub-c+10000)=((ua+10000-(ub+c):Nat):Int):=by rw[bA ⟨by omega,by omega⟩];omega
   refine Rr ?_;rw[e3];refine aM (bT rfl rfl (by rw[aS]) (by simp;omega)) ?_;refine Rr ?_;exact .mk (s++[ua+10000-(ub+c)],1) [(2,0)] ⟨jQ h1 hdl,by simp,by simp only[Y1,Zf];exact hstep,by simp;omega⟩
    (aE _ rfl ⟨⟨2,_,rfl,rfl,.eq (eM _) (by rw[xQ];rfl)⟩,trivial⟩ ⟨aN (tD _),aN (tD _),⟨_,rfl,.slE rfl (by simp[aS])⟩,aK,⟨_,rfl,.w64 (by simp) ⟨by simp;omega,by simp;omega⟩⟩,trivial⟩) (by simp;omega)
  ·have hc:¬(ua:Int)-ub-c<0:=by simpa using hc
   rw[Yo (by omega)] at hstep hdl;rw[Yo (by omega)] at hstep;have e5:(ua:Int)-ub-c=((ua-(ub+c):Nat):Int):=by omega
   refine Rr ?_;refine aM (bT rfl rfl (by rw[aS]) (by simp;omega)) ?_;refine Rr ?_;exact .mk (s++[ua-(ub+c)],0) [(2,0)] ⟨jQ h1 hdl,by simp,by simp only[Y1,Zf];exact hstep,by simp;omega⟩
    (aE _ rfl ⟨⟨2,_,rfl,rfl,.eq (eM _) (by rw[xQ,←e5];rfl)⟩,trivial⟩ ⟨aN (tD _),aN (tD _),⟨_,rfl,.slE rfl (by simp[aS])⟩,aK,⟨_,rfl,.w64 (by simp) ⟨by simp;omega,by simp;omega⟩⟩,trivial⟩) (by simp;omega)
 ·have hge:s.length=a.length:=by simp at hb;omega
  have hlt:=EB hT s h1;rw[Yu (by omega),Yu (by omega),hsum] at h3;have hc0:c=0:=by
   rcases(show c=0∨c=1 by omega) with e|e
   ·exact e
   ·rw[e] at h3;omega
  rw[hc0] at h3;have hsS:s=gQ (dg 10000 S) a.length:=by
   have:=tY hT s h1;rw[show vl 10000 s=S by omega,hge] at this;exact this
  rw[←hsS];refine Rr ?_;exact bF (r':=.il 1 (bJ s)) (m':=[]) (n':=0) [] rfl trivial (.fzR rfl rfl (.same (eM _)) (by rw[aS])) ⟨rfl,rfl,rfl⟩
theorem Ye(x y:Int)(h:decide (x<0)=decide (y<0)):sg (decide (x<0)) (x.natAbs+y.natAbs)=x+y:=by
 unfold sg;by_cases h1:x<0
 ·have h2:y<0:=by rw[Y0 h1] at h;exact ZX h.symm
  rw[Yt (Y0 h1)];omega
 ·have h2:¬y<0:=by rw[ZC h1] at h;exact aAg h.symm
  rw[Yo (by simpa using h1)];omega
theorem YW(x y:Int)(h:decide (x<0)≠decide (y<0))(hl:y.natAbs<=x.natAbs):sg (decide (x<0)) (x.natAbs-y.natAbs)=x+y:=by
 unfold sg;by_cases h1:x<0<;>by_cases h2:y<0<;>simp[h1,h2] at h ⊢ <;> omega
theorem jX{n k:Nat}:(∀d∈gQ (dg 10000 n) k,d<10000)/\vl 10000 (gQ (dg 10000 n) k)=n:=by
 refine⟨fun d hd=>?_,by rw[LX,gE hT]⟩;rcases Yz.1 hd with h|h
 ·exact fP hT n d h
 ·rw[aAU h];decide
theorem xS{n:Nat}{k:Nat}(h:(dg 10000 n).length<=k):(gQ (dg 10000 n) k).length=k:=mD h
theorem Qy(x y:Int)(hx:(dg 10000 x.natAbs).length<=1000000)(hy:(dg 10000 y.natAbs).length<=1000000):aT prog [] 91 [dW x,dW y] (dW (x+y)):=by
 have hp:=W6 x.natAbs y.natAbs hx hy;have hpl:=He hT x.natAbs y.natAbs;have hcm:=Fb x.natAbs y.natAbs (by omega);have hnp:=pH (decide (x<0)) (dg 10000 (x.natAbs+y.natAbs)) _ (by omega) (fP hT _) (gE hT _);have hen:=Hq (x+y);have hm1:y.natAbs<=x.natAbs->_:=fun h=>G3 x.natAbs y.natAbs h hx
 have hm2:x.natAbs<=y.natAbs->_:=fun h=>G3 y.natAbs x.natAbs h hy
 have hn1:=pH (decide (x<0)) (gQ (dg 10000 (x.natAbs-y.natAbs)) (dg 10000 x.natAbs).length) _ (by rw[xS (Az hT _ _)];omega) jX.1 jX.2;have hn2:=pH (decide (y<0)) (gQ (dg 10000 (y.natAbs-x.natAbs)) (dg 10000 y.natAbs).length) _ (by rw[xS (Az hT _ _)];omega) jX.1 jX.2;have s1:=Ye x y;have s2:=YW x y;have s3:=YW y x;rw[d7 (x+y)] at hen ⊢;have fin:∀z:Int,z=x+y->dW z = .agg [.bool (decide (x+y<0)),.il 1 (bJ (dg 10000 (x+y).natAbs))]:=fun z h=>by rw[h];rfl
 rw[d7 x,d7 y];have hcj:lJ (x.natAbs:Int) (y.natAbs:Int)<0↔x.natAbs<y.natAbs:=by unfold lJ;split<;>(try split)<;>omega
 generalize lJ (x.natAbs:Int) (y.natAbs:Int)=cj at *;generalize gQ (dg 10000 (x.natAbs-y.natAbs)) (dg 10000 x.natAbs).length=p1 at *;generalize gQ (dg 10000 (y.natAbs-x.natAbs)) (dg 10000 y.natAbs).length=p2 at *;generalize dg 10000 (x.natAbs+y.natAbs)=pl at *;generalize decide (x+y<0)=bz at *;generalize dg 10000 (x+y).natAbs=lz at *;generalize dg 10000 x.natAbs=lx at *;generalize dg 10000 y.natAbs=ly at *;generalize decide (x<0)=bx at *;generalize decide (y<0)=by_ at *;refine aD bD func91 rfl ?_;have same:bx=by_∨bx≠by_:=by cases bx<;>cases by_<;>simp
 rcases same with e|e
 ·rw[fin _ (s1 e)] at hnp;have hb:(bx == by_)=true:=by rw[e];simp
  subst e;cases bx
  all_goals refine Rr ?_
  all_goals refine hp.go ?_ (.cons (tD _) (.cons (tD _) .nil)) (tD _)
  all_goals refine Rr ?_
  all_goals refine Rs ?_
  all_goals refine hnp.go ?_ (.cons (gH _) (.cons (tD _) .nil)) hen
  all_goals refine Rr ?_
  all_goals refine Rs ?_
  all_goals exact aA hen ⟨rfl,rfl,rfl⟩
 ·by_cases hlt:x.natAbs<y.natAbs
  ·have hd:decide (cj<0)=true:=Y0 (hcj.2 hlt);rw[fin _ ((s3 (Ne.symm e) (by omega)).trans (Int.add_comm _ _))] at hn2;have hm2:=hm2 (by omega);cases bx<;>cases by_
   ·exact absurd rfl e
   rotate_right
   ·exact absurd rfl e
   all_goals refine Rr ?_
   all_goals refine hcm.go ?_ (.cons (tD _) (.cons (tD _) .nil)) nn
   all_goals refine Rr ?_
   all_goals rw[hd]
   all_goals refine Rr ?_
   all_goals refine hm2.go ?_ (.cons (tD _) (.cons (tD _) .nil)) (tD _)
   all_goals refine Rr ?_
   all_goals refine Rs ?_
   all_goals refine hn2.go ?_ (.cons (gH _) (.cons (tD _) .nil)) hen
   all_goals refine Rr ?_
   all_goals refine Rs ?_
   all_goals exact aA hen ⟨rfl,rfl,rfl⟩
  ·have hd:decide (cj<0)=false:=ZC (fun h=>hlt (hcj.1 h));rw[fin _ (s2 e (by omega))] at hn1;have hm1:=hm1 (by omega);cases bx<;>cases by_
   ·exact absurd rfl e
   rotate_right
   ·exact absurd rfl e
   all_goals refine Rr ?_
   all_goals refine hcm.go ?_ (.cons (tD _) (.cons (tD _) .nil)) nn
   all_goals refine Rr ?_
   all_goals rw[hd]
   all_goals refine Rr ?_
   all_goals refine hm1.go ?_ (.cons (tD _) (.cons (tD _) .nil)) (tD _)
   all_goals refine Rr ?_
   all_goals refine Rs ?_
   all_goals refine hn1.go ?_ (.cons (gH _) (.cons (tD _) .nil)) hen
   all_goals refine Rr ?_
   all_goals refine Rs ?_
   all_goals exact aA hen ⟨rfl,rfl,rfl⟩
set_option maxHeartbeats 16000000
theorem Wb{x y p c:Nat}(hx:x<10000)(hy:y<10000)(hp:p<10000)(hc:c<10000):x*y<=99980001/\(c+(x*y+p))/10000<10000:=by
 have h:x*y<=9999*9999:=Zs (by omega) (by omega);refine⟨by omega, ?_⟩;rw[aAv (by omega)];omega
theorem Wm(x y:Int)(hx:(dg 10000 x.natAbs).length<=1000000)(hy:(dg 10000 y.natAbs).length<=1000000):aT prog [] 146 [dW x,dW y] (dW (x*y)):=by
 have hla:=fP hT x.natAbs;have hlb:=fP hT y.natAbs;have hva:=gE hT x.natAbs;have hvb:=gE hT y.natAbs;have hz:=QF x y;have hen:=Hq (x*y);rw[d7 x,d7 y];generalize dg 10000 x.natAbs=a at *;generalize dg 10000 y.natAbs=b at *;have hno:∀P:List Nat,P.length=a.length+b.length->(∀d∈P,d<10000)->vl 10000 P=x.natAbs*y.natAbs->_:=fun P h1 h2 h3=>pH (decide (x<0) != decide (y<0)) P _ (by omega) h2 h3
 rw[hz] at hno;generalize decide (x<0)=bx at *;generalize decide (y<0)=by_ at *;rw[d7 (x*y)] at hen hno ⊢;generalize x.natAbs=X at *;generalize y.natAbs=Y at *;generalize decide (x*y<0)=bz at *;generalize dg 10000 (x*y).natAbs=lz at *;refine aD bD func146 rfl ?_;refine Rr ?_;rw[aS,aS];have hw:IntKind.i64.wrap ((a.length:Int)+(b.length:Int))=((a.length+b.length:Nat):Int):=by rw[bA ⟨by omega,by omega⟩];omega
 rw[hw];refine aM (CA rfl rfl rfl (by omega) rfl) ?_;refine Rr ?_;refine aZ.at bD (fun p:Nat × List Nat=>p.1<=a.length/\p.2.length=a.length+b.length/\(∀d∈p.2,d<10000)/\vl 10000 p.2=vl 10000 (a.take p.1)*Y/\∀k,p.1+b.length<=k->k<a.length+b.length->p.2[k]? = some 0)
  (fun p=>⟨[(2,.ptr 0 0 0),(3,.ptr 1 0 0),(4,.ptr 2 0 0),(5,.sl 3 0 (a.length+b.length)),(6,.int .i64 p.1)],[(0,.row 44 2 [.agg [.bool bx,.il 1 (bJ a)]]),(1,.row 44 2 [.agg [.bool by_,.il 1 (bJ b)]]),(2,.row 44 2 [.agg [.bool false,.nsl]]),(3,.row 3 1 (bJ p.2))],4,76⟩)
  (fun p=>a.length-p.1) (0,List.replicate (a.length+b.length) 0) [(0,0),(1,1),(2,2),(3,3)] ⟨by simp,by simp,by simp,by simp only;rw[Ag];simp[vl],fun k h1 h2=>by simp only;rw[aAe,Yt h2]⟩
  (aE _ rfl ⟨aL 0 (.cons (fD _ _) .nil),aL 1 (.cons (fD _ _) .nil),aL 2 (nN _),⟨3,_,rfl,rfl,.eq (eM _) (by rw[Dd,Yl])⟩,trivial⟩
   ⟨aG,aG,aG,⟨_,rfl,.slE rfl (Yl _)⟩,aK,trivial⟩) ?_
 rintro⟨i,P⟩ ⟨h1,h2,h3,h4,h5⟩;simp only at h1 h2 h3 h4 h5 ⊢;refine Rr ?_;rw[aS];refine aH (fun hb=>?_) (fun hb=>?_)
 ·have hlt:i<a.length:=by simpa using hb
  obtain⟨u,hu⟩:∃u,a[i]? = some u:=⟨_,Yj hlt⟩
  have hul:=hla _ (Yv hu);have g1:=u7 hu;refine Rr ?_;refine aZ.at bD (fun p:Nat × List Nat × Nat=>p.1<=b.length/\p.2.1.length=a.length+b.length/\(∀d∈p.2.1,d<10000)/\p.2.2<10000 /\
    vl 10000 p.2.1+10000 ^ (i+p.1)*p.2.2=vl 10000 (a.take i)*Y+u*(10000 ^ i*vl 10000 (b.take p.1))/\∀k,i+b.length<=k->k<a.length+b.length->p.2.1[k]? = some 0)
   (fun p=>⟨[(2,.ptr 0 0 0),(3,.ptr 1 0 0),(4,.ptr 2 0 0),(5,.sl 3 0 (a.length+b.length)),(6,.int .i64 i),(7,.int .i64 p.2.2),(8,.int .i64 p.1)],[(0,.row 44 2 [.agg [.bool bx,.il 1 (bJ a)]]),(1,.row 44 2 [.agg [.bool by_,.il 1 (bJ b)]]),(2,.row 44 2 [.agg [.bool false,.nsl]]),(3,.row 3 1 (bJ p.2.1))],4,76⟩)
   (fun p=>b.length-p.1) (0,P,0) [(0,0),(1,1),(2,2),(3,3)] ⟨by simp,h2,h3,by simp,by simp only;rw[h4];simp[vl],h5⟩
   (aE _ rfl ⟨aL 0 (.cons (fD _ _) .nil),aL 1 (.cons (fD _ _) .nil),aL 2 (nN _),aL 3 (eM _),trivial⟩
    ⟨aG,aG,aG,⟨_,rfl,.slE rfl rfl⟩,aK,aK,aK,trivial⟩) ?_
  rintro⟨j,Q,c⟩ ⟨h0,k2,k3,hc,k4,k5⟩;simp only at h0 k2 k3 hc k4 k5 ⊢;refine Rr ?_;rw[aS];refine aH (fun hb=>?_) (fun hb=>?_)
  ·have hlt2:j<b.length:=by simpa using hb
   obtain⟨v,hv⟩:∃v,b[j]? = some v:=⟨_,Yj hlt2⟩
   obtain⟨p,hp⟩:∃p,Q[i+j]? = some p:=⟨_,Yj (by omega)⟩
   have hvl:=hlb _ (Yv hv);have hpl:=k3 _ (Yv hp);have g2:=u7 hv;have g3:=Q6 hp;have bi:=qF (i:=i+j) (n:=a.length+b.length) (by omega);obtain⟨q1,q4⟩:=Wb hul hvl hpl hc;have e3:IntKind.i64.wrap ((u:Int)*(v:Int))=((u*v:Nat):Int):=by rw[←Int.natCast_mul,bA ⟨by omega,by omega⟩]
   have e4:IntKind.i64.wrap ((i:Int)+(j:Int))=((i+j:Nat):Int):=by rw[bA ⟨by omega,by omega⟩];omega
   have e6:IntKind.i64.wrap ((p:Int)+((u*v:Nat):Int))=((u*v+p:Nat):Int):=by rw[bA ⟨by omega,by omega⟩];omega
   have e7:IntKind.i64.wrap (((u*v+p:Nat):Int)+(c:Int))=((c+(u*v+p):Nat):Int):=by rw[bA ⟨by omega,by omega⟩];omega
   have e8:(((c+(u*v+p):Nat):Int)).tmod 10000=(((c+(u*v+p))%10000:Nat):Int):=u5 _ 10000;have e9:IntKind.i64.wrap ((((c+(u*v+p):Nat):Int)).tdiv 10000)=(((c+(u*v+p))/10000:Nat):Int):=by
    rw[show (((c+(u*v+p):Nat):Int)).tdiv 10000=(((c+(u*v+p))/10000:Nat):Int) from o0 _ 10000,bA ⟨by omega,by omega⟩]
   have hms:=It (B:=10000) hp k4 (y:=v);have hmd:(c+(u*v+p))%10000<10000:=Z1 _ (by decide);refine Rr ?_;rw[e4];refine Rt ?_;repeat((first|refine aM bi ?_|refine aB g3 ?_|refine aB g1 ?_|refine aB g2 ?_);refine Rt ?_)
   rw[e3,e6,e7];refine Rs ?_;repeat((first|rw[e4]|refine aM bi ?_|refine aB g3 ?_);refine Rt ?_)
   exact .mk (j+1,Q.set (i+j) ((c+(u*v+p))%10000),(c+(u*v+p))/10000) [(0,0),(1,1),(2,2),(3,3)]
    ⟨by simp only;omega,by simp only[aAB];exact k2,HT k3 hmd,q4,by
      simp only;rw[jL hv,Nat.mul_add (10000 ^ i),←Nat.mul_assoc (10000 ^ i) (10000 ^ j),←Nat.pow_add];exact hms,fun k z1 z2=>by simp only;rw[uI (by omega)];exact k5 k z1 z2⟩
    (aE _ rfl ⟨aL 0 (.cons (fD _ _) .nil),aL 1 (.cons (fD _ _) .nil),aL 2 (nN _),⟨3,_,rfl,rfl,.eq (eM _) (by rw[e8,Yl,ZD,DU])⟩,trivial⟩
     ⟨aG,aG,aG,⟨_,rfl,.slE rfl rfl⟩,aK,⟨_,rfl,.int e9⟩,⟨_,rfl,.w64 (by simp) ⟨by simp only;omega,by simp only;omega⟩⟩,trivial⟩) (by simp only;omega)
  ·have hj:j=b.length:=by simp at hb;omega
   subst hj;rw[ZB,hvb] at k4;have e4:IntKind.i64.wrap ((i:Int)+(b.length:Int))=((i+b.length:Nat):Int):=by rw[bA ⟨by omega,by omega⟩];omega
   have hp:=k5 (i+b.length) (by omega) (by omega);have g3:=Q6 hp;have bi:=qF (i:=i+b.length) (n:=a.length+b.length) (by omega);have hvs:=HD 10000 Q (i+b.length) c 0 hp;refine Rr ?_;rw[aS,e4];refine Rs ?_;repeat((first|refine aM bi ?_|refine aB g3 ?_);refine Rt ?_)
   exact .mk (i+1,Q.set (i+b.length) c) [(0,0),(1,1),(2,2),(3,3)]
    ⟨by simp only;omega,by simp only[aAB];exact k2,HT k3 hc,by
      simp only;rw[jL hu,Nat.add_mul,Nat.mul_assoc (10000 ^ i),aBi (10000 ^ i),←k4];omega,fun k z1 z2=>by simp only;rw[uI (by omega)];exact k5 k (by omega) z2⟩
    (aE _ rfl ⟨aL 0 (.cons (fD _ _) .nil),aL 1 (.cons (fD _ _) .nil),aL 2 (nN _),⟨3,_,rfl,rfl,.eq (eM _) (by rw[Yl,ZD,DU])⟩,trivial⟩
     ⟨aG,aG,aG,⟨_,rfl,.slE rfl rfl⟩,⟨_,rfl,.w64 (by simp) ⟨by simp only;omega,by simp only;omega⟩⟩,trivial⟩) (by simp only;omega)
 ·have hi:i=a.length:=by simp at hb;omega
  subst hi;rw[ZB,hva] at h4;have hno:=hno P h2 h3 h4;refine Rr ?_;refine aF.pre bD [(0,0),(1,1),(2,2)] (mem':=[(0,.row 44 2 [.agg [.bool bx,.il 1 (bJ a)]]),(1,.row 44 2 [.agg [.bool by_,.il 1 (bJ b)]]),(2,.row 44 2 [.agg [.bool false,.nsl]])]) rfl
   ⟨aL 0 (.cons (fD _ _) .nil),aL 1 (.cons (fD _ _) .nil),aL 2 (nN _),trivial⟩
   (.cons (.same _ (gH _)) (.cons (.fz' (id:=3) (ys:=bJ P) rfl rfl (by rw[aS,h2];omega) (by rw[ZI,Yu (by rw[aS,h2];omega)]) (eM _)) .nil)) ?_
  refine hno.go ?_ (.cons (gH _) (.cons (tD _) .nil)) hen;refine Rt ?_;exact aA hen ⟨rfl,rfl,rfl⟩
theorem Us(x k:Nat)(hx:(dg 10000 x).length<=1000000)(hk:k<10000):aT prog [] 240 [.il 1 (bJ (dg 10000 x)),.int .i64 k] (.il 1 (bJ (dg 10000 (x*k)))):=by
 have h1:=Tz (k:Int) ⟨by omega,by omega⟩;have hk1:(dg 10000 (k:Int).natAbs).length<=1:=iI hT (by rw[Zc];omega);have h2:=Wm (x:Int) (k:Int) (by rw[Zc];exact hx) (by omega);have n0:∀n:Nat,decide ((n:Int)<0)=false:=fun n=>ZC (by omega)
 rw[d7 (k:Int)] at h1 h2;rw[←Int.natCast_mul,d7 ((x*k:Nat):Int),d7 (x:Int)] at h2;simp only[Zc,n0] at h1 h2;generalize dg 10000 k=lk at *;generalize dg 10000 x=a at *;generalize dg 10000 (x*k)=z at *;refine aD bD func240 rfl ?_;refine Rr ?_;refine h1.go ?_ (.cons nn .nil) (fD _ _);refine Rr ?_;refine h2.go ?_ (.cons (fD _ _) (.cons (fD _ _) .nil)) (fD _ _);refine Rt ?_;exact aA (tD _) ⟨rfl,rfl,rfl⟩
theorem Lo(l:List Nat)(i:Int)(hl:l.length<=4294967296):aT prog [] 256 [.il 1 (bJ l),.int .i64 i] (.int .i64 (AF l i:Nat)):=by
 refine aD bD func256 rfl ?_;by_cases h0:i<0
 ·refine Rr ?_;rw[Y0 h0];refine Rr ?_;exact fL (r':=.int .i64 (AF l i:Nat)) (.int (by unfold AF;rw[Yt h0];rfl)) ⟨rfl,rfl,rfl⟩
 ·obtain⟨n,rfl⟩:∃n:Nat,i=n:=⟨i.toNat,by omega⟩
  rw[Lx];refine Rr ?_;rw[ZC h0];refine Rr ?_;rw[aS];refine aH (fun hb=>?_) (fun hb=>?_)
  ·have hge:l.length<=n:=by simpa using hb
   refine Rr ?_;exact fL (r':=.int .i64 (l.getD n 0:Nat)) (.int (by rw[Ym,Y3 hge];rfl)) ⟨rfl,rfl,rfl⟩
  ·have hlt:n<l.length:=by simpa using hb
   obtain⟨d,hd⟩:∃d,l[n]? = some d:=⟨_,Yj hlt⟩
   have e1:=u7 hd;refine Rr ?_;refine aB e1 ?_;refine Rr ?_;exact fL (r':=.int .i64 (l.getD n 0:Nat)) (.int (by rw[Ym,hd];rfl)) ⟨rfl,rfl,rfl⟩
set_option maxHeartbeats 16000000
theorem Wo(a b:Nat):(if (b:Int)<(a:Int) then(b:Int) else(a:Int))=((min a b:Nat):Int):=by
 by_cases h:(b:Int)<a
 ·rw[Yt h,Nat.min_eq_right (by omega)]
 ·rw[Yo h,aAm (by omega)]
theorem Vu(r b:List Nat)(hr:∀d∈r,d<10000)(hb:∀d∈b,d<10000)(hrl:r.length<=1000000)(hbl:b.length<=1000000)(htop:0<AF b ((b.length:Int)-1)) :
  aT prog [] 239 [.il 1 (bJ r),.il 1 (bJ b)] (.tup [.int .i64 ((Hy r b).1:Nat),.int .i64 ((Hy r b).2:Nat)]):=by
 have dr:=fun i=>Lo r i (by omega)
 have db:=fun i=>Lo b i (by omega)
 have lr:=fun i=>QD (show 0<10000 by omega) hr i
 have lb:=fun i=>QD (show 0<10000 by omega) hb i
 have hU:ME r b=10000*(10000*AF r (b.length:Int)+AF r ((b.length:Int)-1))+AF r ((b.length:Int)-2):=rfl;have hL:H1 b=10000*AF b ((b.length:Int)-1)+AF b ((b.length:Int)-2):=rfl;have hR:(if r.length<b.length∨b.length=0 then(0,0) else(min 9999 (ME r b/(H1 b+1)),min 9999 (ME r b/H1 b)))=Hy r b:=rfl;have d1:=dr (b.length:Int);have d2:=dr ((b.length:Int)-1);have d3:=dr ((b.length:Int)-2);have d4:=db ((b.length:Int)-1);have d5:=db ((b.length:Int)-2);have l1:=lr (b.length:Int);have l2:=lr ((b.length:Int)-1);have l3:=lr ((b.length:Int)-2);have l4:=lb ((b.length:Int)-1);have l5:=lb ((b.length:Int)-2);generalize AF r (b.length:Int)=u1 at *;generalize AF r ((b.length:Int)-1)=u2 at *;generalize AF r ((b.length:Int)-2)=u3 at *;generalize AF b ((b.length:Int)-1)=v1 at *;generalize AF b ((b.length:Int)-2)=v2 at *;have hUl:ME r b<1000000000000:=by omega
 have hLl:H1 b<100000000:=by omega
 have hL0:0<H1 b:=by omega
 have w1:IntKind.i64.wrap ((b.length:Int)-1)=(b.length:Int)-1:=bA ⟨by omega,by omega⟩;have w2:IntKind.i64.wrap ((b.length:Int)-2)=(b.length:Int)-2:=bA ⟨by omega,by omega⟩;have w3:IntKind.i64.wrap (10000*(u1:Int))=((10000*u1:Nat):Int):=by rw[bA ⟨by omega,by omega⟩];omega
 have w4:IntKind.i64.wrap (((10000*u1:Nat):Int)+(u2:Int))=((10000*u1+u2:Nat):Int):=by rw[bA ⟨by omega,by omega⟩];omega
 have w5:IntKind.i64.wrap (10000*((10000*u1+u2:Nat):Int))=((10000*(10000*u1+u2):Nat):Int):=by rw[bA ⟨by omega,by omega⟩];omega
 have w6:IntKind.i64.wrap (((10000*(10000*u1+u2):Nat):Int)+(u3:Int))=((ME r b:Nat):Int):=by rw[bA ⟨by omega,by omega⟩];omega
 have w7:IntKind.i64.wrap (10000*(v1:Int))=((10000*v1:Nat):Int):=by rw[bA ⟨by omega,by omega⟩];omega
 have w8:IntKind.i64.wrap (((10000*v1:Nat):Int)+(v2:Int))=((H1 b:Nat):Int):=by rw[bA ⟨by omega,by omega⟩];omega
 generalize ME r b=U at *;generalize H1 b=L at *;have hq1:U/(L+1)<=U:=aA0 _ _;have hq2:U/L<=U:=aA0 _ _;have w9:IntKind.i64.wrap ((L:Int)+1)=((L+1:Nat):Int):=by rw[bA ⟨by omega,by omega⟩];omega
 have w10:=o0 U (L+1);have w11:=o0 U L;generalize U/(L+1)=Q1 at *;generalize U/L=Q2 at *;have w12:IntKind.i64.wrap (Q1:Int)=(Q1:Int):=bA ⟨by omega,by omega⟩;have w13:IntKind.i64.wrap (Q2:Int)=(Q2:Int):=bA ⟨by omega,by omega⟩;have z1:(!decide (((L+1:Nat):Int)=0))=true:=by rw[ZC (by omega)];rfl
 have z2:(!decide ((L:Int)=0))=true:=by rw[ZC (by omega)];rfl
 refine aD bD func239 rfl ?_;by_cases hlt:r.length<b.length
 ·rw[Yt (.inl hlt)] at hR;rw[←hR];refine Rr ?_;rw[aS,aS,Y0 (by omega)];refine Rr ?_;exact aA (.tup' (.cons nn (.cons nn .nil))) ⟨rfl,rfl,rfl⟩
 ·by_cases hb0:b.length=0
  ·rw[Yt (.inr hb0)] at hR;rw[←hR];have hz:((b.length:Int) == 0)=true:=by rw[hb0];rfl
   refine Rr ?_;rw[aS,aS,ZC (by omega)];refine Rr ?_;rw[hz];refine Rr ?_;exact aA (.tup' (.cons nn (.cons nn .nil))) ⟨rfl,rfl,rfl⟩
  ·rw[Yo (by omega)] at hR;rw[←hR];have hz:((b.length:Int) == 0)=false:=by simp;intro h;exact hb0 (by rw[h];rfl)
   refine Rr ?_;rw[aS,aS,ZC (by omega)];refine Rr ?_;rw[hz];refine Rr ?_;refine d1.go ?_ (.cons (tD _) (.cons nn .nil)) nn;refine Rr ?_;rw[w1];refine d2.go ?_ (.cons (tD _) (.cons nn .nil)) nn;refine Rr ?_;rw[w2];refine d3.go ?_ (.cons (tD _) (.cons nn .nil)) nn;refine Rr ?_;rw[w1];refine d4.go ?_ (.cons (tD _) (.cons nn .nil)) nn;refine Rr ?_;rw[w2];refine d5.go ?_ (.cons (tD _) (.cons nn .nil)) nn;refine Rr ?_;rw[w3,w4,w5,w6,w7,w8,w9,z1];refine Rr ?_;rw[w10,w12];refine Rs ?_;rw[z2];refine Rr ?_;rw[w11,w13];refine Rs ?_;exact fL (r':=.tup [.int .i64 ((min 9999 Q1:Nat):Int),.int .i64 ((min 9999 Q2:Nat):Int)]) (.tup' (.cons (.int (Wo 9999 Q1)) (.cons (.int (Wo 9999 Q2)) .nil))) ⟨rfl,rfl,rfl⟩
set_option maxHeartbeats 16000000
theorem z7(l:List Nat)(n:Nat)(hl:l.length<=4294967296)(hd:∀d∈l,d<10000)(hv:vl 10000 l=n):aT prog [] 121 [.bool false,.il 1 (bJ l)] (.agg [.bool false,.il 1 (bJ (dg 10000 n))]):=pH false l n hl hd hv
theorem RK(la lb:Nat)(h:1<=lb):(if (if (la:Int)-lb+1<la then(la:Int)-lb+1 else la)>(0:Int) then(if (la:Int)-lb+1<la then(la:Int)-lb+1 else la) else 0)=((la+1-lb:Nat):Int):=by
 split<;>split<;>omega
theorem VN{j n:Nat}(h:j<=n):(Nat.ble ((j:Nat):Int).toNat n && (Nat.ble n n && Nat.ble n n))=true:=by
 rw[Yl,Yp h,Yp (Yy _)];rfl
theorem Id{l:List Nat}{f:Nat}:List.take (l.length-((f:Nat):Int).toNat) (List.drop ((f:Nat):Int).toNat (bJ l))=bJ (l.drop f):=by
 rw[Yl,N6,Yu (by rw[aS,aAi];omega)]
theorem FP{i d:Nat}{R:List Nat}:(bJ (rV (i+1) R)).set (0+((i:Nat):Int).toNat) (.int .i64 (d:Int))=bJ (rV i (d::R)):=by
 rw[Yl,ZD,DU,Ik]
theorem P4(x y:Nat)(hy:0<y)(hx:(dg 10000 x).length<=900000)(hyl:(dg 10000 y).length<=900000) :
  aF prog [] 201 [.il 1 (bJ (dg 10000 x)),.il 1 (bJ (dg 10000 y))] [] 0 fun r m n=>
   ∃Q:List Nat,r = .tup [.il 1 (bJ Q),.il 1 (bJ (dg 10000 (x%y)))]/\m=[]/\n=0/\Q.length=(dg 10000 x).length/\(∀d∈Q,d<10000)/\vl 10000 Q=x/y:=by
 have hla:=fP hT x;have hlb:=fP hT y;have hva:=gE hT x;have hb1:1<=(dg 10000 y).length:=by rw[pE hT hy];simp
 have htop:=Po hT hy;have hyb:=IB hT y hy;have hxy:(dg 10000 x).length<(dg 10000 y).length->x<y:=pX hT;have rdig:∀r:Nat,r<y*10000->_:=fun r h=>Vu (dg 10000 r) (dg 10000 y) (fP hT r) hlb (by
  have:=dX hT (aBI h);have:=C3 hT y 10000;have:(dg 10000 10000).length<=2:=iI hT (by decide);omega) (by omega) htop
 have rsm:∀k:Nat,k<10000->_:=fun k h=>Us y k (by omega) h
 have rcm:∀k r:Nat,k<10000->_:=fun k r h=>Fb (y*k) r (by
  have:=C3 hT y k;have:(dg 10000 k).length<=1:=F2 hT h;omega)
 have dok:∀r:Nat,r<y*10000->_:=fun r h=>TJ hy h
 have hrl:∀r:Nat,r<y*10000->(dg 10000 r).length<=900002:=fun r h=>by
  have:=dX hT (aBI h);have:=C3 hT y 10000;have:(dg 10000 10000).length<=2:=iI hT (by decide);omega
 have rmi:∀r k:Nat,r<y*10000->y*k<=r->_:=fun r k h h2=>G3 r (y*k) h2 (by have:=hrl r h;omega)
 generalize dg 10000 x=a at *;generalize hbd:dg 10000 y=b at *;obtain⟨f,hf⟩:∃f,f=a.length+1-b.length:=⟨_,rfl⟩
 have hfl:f<=a.length:=by omega
 have hR0:vl 10000 (a.drop f)<y:=by
  rcases Y2 f with e|e
  ·rw[e,ZI,hva];exact hxy (by omega)
  ·have h1:=EB hT (a.drop f) fun d h=>hla d (ZV h)
   rw[aAi,show a.length-f=b.length-1 by omega] at h1;omega
 have hdrop:∀d∈a.drop f,d<10000:=fun d h=>hla d (ZV h)
 have hno0:=z7 (a.drop f) _ (by rw[aAi];omega) hdrop rfl;refine aD bD func201 rfl ?_;refine Rr ?_;rw[aS];refine aM (CA rfl rfl rfl (by omega) rfl) ?_;refine Rr ?_;rw[aS,aS];have w1:IntKind.i64.wrap ((a.length:Int)-b.length)=(a.length:Int)-b.length:=bA ⟨by omega,by omega⟩;have w2:IntKind.i64.wrap ((a.length:Int)-b.length+1)=(a.length:Int)-b.length+1:=bA ⟨by omega,by omega⟩;rw[w1,w2];have hfe:=RK a.length b.length hb1;rw[←hf] at hfe;rw[hfe,Y0 (show (0:Int)<=(f:Int) by omega)];refine Rr ?_;refine aM (VN hfl) ?_;refine Rr ?_;rw[Id];refine hno0.go ?_ (.cons (gH _) (.cons (tD _) .nil)) (fD _ _);refine Rt ?_;refine aZ.at bD (fun p:Nat × List Nat × Nat=>p.1<=f/\p.2.1.length=a.length-p.1/\(∀d∈p.2.1,d<10000)/\p.2.2<y/\vl 10000 (a.drop p.1)=vl 10000 p.2.1*y+p.2.2)
  (fun p=>⟨[(0,.il 1 (bJ a)),(1,.il 1 (bJ b)),(6,.sl 0 0 a.length),(9,.il 1 (bJ (dg 10000 p.2.2))),(10,.int .i64 ((p.1:Int)-1))],[(0,.row 3 1 (bJ (rV p.1 p.2.1)))],1,88⟩)
  (fun p=>p.1) (f,List.replicate (a.length-f) 0,vl 10000 (a.drop f)) [(0,0)] ⟨Yy _,by simp,by intro d hd;simp only at hd;rw[aAU hd];decide,hR0,by simp only;rw[Ag];simp⟩
  (aE _ rfl ⟨⟨0,_,rfl,rfl,.eq (eM _) (by
    rw[show bJ (rV f (List.replicate (a.length-f) 0))=bJ (List.replicate a.length 0) by
     unfold rV;rw[List.replicate_append_replicate];congr 2;omega]
    rw[Dd,Yl])⟩,trivial⟩
   ⟨aN (tD _),aN (tD _),⟨_,rfl,.slE rfl (Yl _)⟩,aN (tD _),⟨_,rfl,.w64 rfl ⟨by simp only;omega,by simp only;omega⟩⟩,trivial⟩) ?_
 clear hR0 hno0;rintro⟨m,R,r⟩ ⟨h1,h2,h3,h4,h5⟩;simp only at h1 h2 h3 h4 h5 ⊢;refine Rr ?_;refine aH (fun hb=>?_) (fun hb=>?_)
 ·have hm1:0<m:=by simp at hb;omega
  obtain⟨i,rfl⟩:∃i,m=i+1:=⟨m-1,by omega⟩
  rw[show (((i+1:Nat):Int)-1)=(i:Int) by omega];obtain⟨u,hu⟩:∃u,a[i]? = some u:=⟨_,Yj (by omega)⟩
  have hul:=hla _ (Yv hu);have g1:=u7 hu;obtain⟨s1,s2,s3⟩:=NJ hy h5 h4 hul;rw[←pP hu] at s1;have hrlen:(dg 10000 r).length<=900002:=hrl r (by omega);have hdr:∀d∈u::dg 10000 r,d<10000:=fun d hd=>by
   rcases Yr.1 hd with h|h
   ·rw[h];exact hul
   ·exact fP hT r d h
  have hno1:=z7 (u::dg 10000 r) (u+10000*r) (by simp;omega) hdr (by rw[vl,gE hT]);obtain⟨r1,hr1⟩:∃r1,r1=u+10000*r:=⟨_,rfl⟩
  rw[←hr1] at hno1 s1 s2 s3;have rdig:=rdig r1 s3;obtain⟨dk1,dk2,dk3⟩:=dok r1 s3;generalize (Hy (dg 10000 r1) b).1=lo0 at *;generalize (Hy (dg 10000 r1) b).2=hi0 at *;have hrl1:=hrl r1 s3;have rcm:=fun k=>rcm k r1
  have rmi:=fun k=>rmi r1 k s3
  have hq9:r1/y<10000:=by omega
  have hcons:bJ (u::dg 10000 r)=[AV.int .i64 (u:Int)]++bJ (dg 10000 r):=rfl;refine Rr ?_;refine aB g1 ?_;refine Rr ?_;refine aM (bT rfl rfl rfl (by rw[aS];omega)) ?_;refine Rr ?_;refine aF.pre bD [(0,0)] (mem':=[(0,.row 3 1 (bJ (rV (i+1) R)))]) rfl ⟨aL 0 (eM _),trivial⟩
   (.cons (.same _ (gH _)) (.cons (.fz' (id:=2) (off:=0) (ys:=bJ (u::dg 10000 r)) rfl rfl (by simp[aS];omega) (by
    rw[ZI,Yu (by simp[aS];omega)];rfl) (eM _)) .nil)) ?_
  refine hno1.go ?_ (.cons (gH _) (.cons (tD _) .nil)) (fD _ _);refine Rt ?_;refine rdig.go ?_ (.cons (tD _) (.cons (tD _) .nil)) nn;refine Rr ?_;refine aZ.at bD (fun p:Nat × Nat=>p.1<=r1/y/\r1/y<=p.2/\p.2<=9999)
   (fun p=>⟨[(0,.il 1 (bJ a)),(1,.il 1 (bJ b)),(6,.sl 0 0 a.length),(9,.il 1 (bJ (dg 10000 r1))),(10,.int .i64 i),(12,.int .i64 p.1),(13,.int .i64 p.2)],[(0,.row 3 1 (bJ (rV (i+1) R)))],1,88⟩)
   (fun p=>p.2-p.1) (lo0,hi0) [(0,0)] ⟨dk1,dk2,dk3⟩
   (aE _ rfl ⟨aL 0 (eM _),trivial⟩
    ⟨aN (tD _),aN (tD _),⟨_,rfl,.slE rfl rfl⟩,aN (tD _),aK,aK,aK,trivial⟩) ?_
  clear dk1 dk2 dk3;rintro⟨lo,hi⟩ ⟨k1,k2,k3⟩;simp only at k1 k2 k3 ⊢;refine Rr ?_;refine aH (fun hc=>?_) (fun hc=>?_)
  ·have hlh:lo<hi:=by simpa using hc
   have w3:IntKind.i64.wrap ((lo:Int)+(hi:Int))=((lo+hi:Nat):Int):=by rw[bA ⟨by omega,by omega⟩];omega
   have w4:IntKind.i64.wrap (((lo+hi:Nat):Int)+1)=((lo+hi+1:Nat):Int):=by rw[bA ⟨by omega,by omega⟩];omega
   have w5:IntKind.i64.wrap ((((lo+hi+1:Nat):Int)).tdiv 2)=(((lo+hi+1)/2:Nat):Int):=by
    rw[show (((lo+hi+1:Nat):Int)).tdiv 2=(((lo+hi+1)/2:Nat):Int) from o0 _ 2,bA ⟨by omega,by omega⟩]
   have hmid:(lo+hi+1)/2<10000/\lo<(lo+hi+1)/2/\(lo+hi+1)/2<=hi:=by omega
   obtain⟨hm1,hm2,hm3⟩:=hmid;refine Rr ?_;rw[w3,w4,w5];generalize (lo+hi+1)/2=mid at *;have hmy:mid<=r1/y↔y*mid<=r1:=by rw[aAO hy,Zm]
   have hcj:lJ ((y*mid:Nat):Int) (r1:Int)<=0↔y*mid<=r1:=by unfold lJ;split<;>(try split)<;>omega
   have rcm:=rcm mid hm1;have rsm:=rsm mid hm1;generalize lJ ((y*mid:Nat):Int) (r1:Int)=cj at *;generalize dg 10000 (y*mid)=ym at *;refine rsm.go ?_ (.cons (tD _) (.cons nn .nil)) (tD _);refine Rr ?_;refine rcm.go ?_ (.cons (tD _) (.cons (tD _) .nil)) nn;refine Rr ?_;refine aH (fun hc=>?_) (fun hc=>?_)
   ·have hc:=hmy.2 (hcj.1 (ZX hc));refine Rr ?_;exact .mk (mid,hi) [(0,0)] ⟨hc,k2,k3⟩
     (aE _ rfl ⟨aL 0 (eM _),trivial⟩
      ⟨aN (tD _),aN (tD _),⟨_,rfl,.slE rfl rfl⟩,aN (tD _),aK,aK,aK,trivial⟩) (by simp only;omega)
   ·have hc:¬mid<=r1/y:=fun h=>aAg hc (hcj.2 (hmy.1 h))
    refine Rr ?_;exact .mk (lo,mid-1) [(0,0)] ⟨k1,by simp only;omega,by simp only;omega⟩
     (aE _ rfl ⟨aL 0 (eM _),trivial⟩
      ⟨aN (tD _),aN (tD _),⟨_,rfl,.slE rfl rfl⟩,aN (tD _),aK,aK,⟨_,rfl,.wp⟩,trivial⟩) (by simp only;omega)
  ·have hlh:lo=r1/y:=by simp at hc;omega
   rw[hlh];have rsm:=rsm (r1/y) hq9;have hyq:y*(r1/y)<=r1:=Nat.mul_div_le _ _;have rmi:=rmi (r1/y) hyq;have hmd:r1-y*(r1/y)=r1%y:=by have:=aA9 r1 y;omega
   rw[hmd] at rmi;have hno2:=z7 (gQ (dg 10000 (r1%y)) (dg 10000 r1).length) _ (by rw[xS (dX hT (Nat.mod_le _ _))];omega) jX.1 jX.2;have g3:(bJ (rV (i+1) R))[0+((i:Nat):Int).toNat]? = some (.int .i64 0):=Q6 Im;have bi:=qF (i:=i) (n:=a.length) (by omega);generalize dg 10000 (y*(r1/y))=ym at *;generalize gQ (dg 10000 (r1%y)) (dg 10000 r1).length=pq at *;refine Rr ?_;refine rsm.go ?_ (.cons (tD _) (.cons nn .nil)) (tD _);refine Rr ?_;refine rmi.go ?_ (.cons (tD _) (.cons (tD _) .nil)) (tD _);refine Rr ?_;refine hno2.go ?_ (.cons (gH _) (.cons (tD _) .nil)) (fD _ _);refine Rt ?_;repeat((first|refine aM bi ?_|refine aB g3 ?_);refine Rt ?_)
   exact .mk (i,(r1/y)::R,r1%y) [(0,0)] ⟨by simp only;omega,by simp;omega,fun d hd=>by
     rcases Yr.1 hd with h|h
     ·rw[h];exact hq9
     ·exact h3 d h,s2,by simp only[vl];exact s1⟩
    (aE _ rfl ⟨⟨0,_,rfl,rfl,.eq (eM _) FP⟩,trivial⟩
     ⟨aN (tD _),aN (tD _),⟨_,rfl,.slE rfl rfl⟩,aN (tD _),⟨_,rfl,.w64 rfl ⟨by simp only;omega,by simp only;omega⟩⟩,trivial⟩) (by simp only;omega)
 ·have hm0:m=0:=by simp at hb;omega
  subst hm0;rw[ZI,hva] at h5;have e1:x/y=vl 10000 R:=by rw[h5,aBw,Nat.add_mul_div_right _ _ hy,aAV h4,ZD]
  have e2:x%y=r:=by rw[h5,aBw,aBA,Zh h4]
  refine Rr ?_;exact bF (r':=.tup [.il 1 (bJ R),.il 1 (bJ (dg 10000 r))]) (m':=[]) (n':=0) [] rfl trivial (.tup' (.cons (.fzR rfl rfl (.eq (eM _) (by unfold rV;simp)) (by rw[aS];omega)) (.cons (.same _ (tD _)) .nil))) ⟨R,by rw[e2],rfl,rfl,by omega,h3,e1.symm⟩
set_option maxHeartbeats 16000000
theorem Vl(b:Bool)(m n:Nat):sg b m+sg b n=sg b (m+n):=by unfold sg;split<;>omega
theorem VP(x y:Int)(hy0:y≠0)(hx:(dg 10000 x.natAbs).length<=900000)(hy:(dg 10000 y.natAbs).length<=900000):aT prog [] 145 [dW x,dW y] (.tup [dW (x/y),dW (x%y)]):=by
 have hyp:0<y.natAbs:=aBN.2 hy0;have hd:=P4 x.natAbs y.natAbs hyp hx hy;obtain⟨hs1,hs2⟩:=Ml (x:=x) hy0;have hm:=Z1 x.natAbs hyp;have hlq:=Lk hT x.natAbs y.natAbs;have hlr:=MY hT x.natAbs y.natAbs;have hno:∀Q:List Nat,Q.length=(dg 10000 x.natAbs).length->(∀d∈Q,d<10000)->vl 10000 Q=x.natAbs/y.natAbs->_:=fun Q h1 h2 h3=>pH (decide (x<0) != decide (y<0)) Q _ (by omega) h2 h3
 have hnr:=z7 (dg 10000 (x.natAbs%y.natAbs)) _ (by omega) (fP hT _) (gE hT _);have h1:=pH (decide (x<0) != decide (y<0)) [1] 1 (by simp) (by simp) (by simp[vl]);have ha:=Qy (sg (decide (x<0) != decide (y<0)) (x.natAbs/y.natAbs)) (sg (decide (x<0) != decide (y<0)) 1) (by rw[D2];omega) (by rw[D2];have:(dg 10000 1).length<=1:=F2 hT (by decide);omega);rw[Vl] at ha;have hmi:=G3 y.natAbs (x.natAbs%y.natAbs) (by omega) (by omega);have hnm:=z7 (gQ (dg 10000 (y.natAbs-x.natAbs%y.natAbs)) (dg 10000 y.natAbs).length) _ (by rw[xS (Az hT _ _)];omega) jX.1 jX.2;have hrl:decide (0<(dg 10000 (x.natAbs%y.natAbs)).length)=decide (0<x.natAbs%y.natAbs):=gZ hT;have e0:∀n:Nat,dW (n:Int) = .agg [.bool false,.il 1 (bJ (dg 10000 n))]:=fun n=>by rw[d7,ZC (by omega),Zc]
 obtain⟨b1,l1,q1⟩:∃b l,dW (sg (decide (x<0) != decide (y<0)) (x.natAbs/y.natAbs)) = .agg [.bool b,.il 1 (bJ l)]:=⟨_,_,rfl⟩
 obtain⟨b2,l2,q2⟩:∃b l,dW (sg (decide (x<0) != decide (y<0)) 1) = .agg [.bool b,.il 1 (bJ l)]:=⟨_,_,rfl⟩
 obtain⟨b3,l3,q3⟩:∃b l,dW (sg (decide (x<0) != decide (y<0)) (x.natAbs/y.natAbs+1)) = .agg [.bool b,.il 1 (bJ l)]:=⟨_,_,rfl⟩
 rw[q1] at hno ha;rw[q2] at h1 ha;rw[q3] at ha;have fA:decide (x<0)=true/\0<x.natAbs%y.natAbs->AV.tup [dW (x/y),dW (x%y)] = .tup [.agg [.bool b3,.il 1 (bJ l3)],.agg [.bool false,.il 1 (bJ (dg 10000 (y.natAbs-x.natAbs%y.natAbs)))]]:=fun h=>by
  rw[(hs1 h).1,(hs1 h).2,q3,e0]
 have fB:¬(decide (x<0)=true/\0<x.natAbs%y.natAbs)->AV.tup [dW (x/y),dW (x%y)] = .tup [.agg [.bool b1,.il 1 (bJ l1)],.agg [.bool false,.il 1 (bJ (dg 10000 (x.natAbs%y.natAbs)))]]:=fun h=>by
  rw[(hs2 h).1,(hs2 h).2,q1,e0]
 generalize AV.tup [dW (x/y),dW (x%y)]=RES at *;rw[d7 x,d7 y];clear hs1 hs2 q1 q2 q3 hlq hlr e0;generalize gQ (dg 10000 (y.natAbs-x.natAbs%y.natAbs)) (dg 10000 y.natAbs).length=pq at *;generalize dg 10000 (y.natAbs-x.natAbs%y.natAbs)=lr1 at *;generalize dg 10000 (x.natAbs%y.natAbs)=lr at *;generalize dg 10000 x.natAbs=la at *;generalize dg 10000 y.natAbs=lb at *;generalize decide (x<0)=bx at *;generalize decide (y<0)=by_ at *;have hlen:(bJ lr).length=lr.length:=aS lr;refine aD bD func145 rfl ?_;refine Rt ?_;refine aF.go0 hd ?_ (.cons (tD _) (.cons (tD _) .nil));rintro r m n ⟨Q,rfl,rfl,rfl,z1,z2,z3⟩;refine⟨_,.same _ (.tup' (.cons (tD _) (.cons (tD _) .nil))), ?_⟩;have hno:=hno Q z1 z2 z3;refine Rt ?_;refine hno.go ?_ (.cons (gH _) (.cons (tD _) .nil)) (fD _ _);refine Rt ?_;refine hnr.go ?_ (.cons (gH _) (.cons (tD _) .nil)) (fD _ _);cases bx with
 | false=>
  rw[fB (by simp)];refine Rt ?_;exact aA (.tup' (.cons (fD _ _) (.cons (fD _ _) .nil))) ⟨rfl,rfl,rfl⟩
 | true=>
  cases lr with
  | nil=>
   have h0:¬0<x.natAbs%y.natAbs:=by simpa using hrl
   rw[fB (fun h=>h0 h.2)];refine Rt ?_;exact aA (.tup' (.cons (fD _ _) (.cons (fD _ _) .nil))) ⟨rfl,rfl,rfl⟩
  | cons r0 rs=>
   have h0:0<x.natAbs%y.natAbs:=by simpa using hrl
   rw[fA ⟨rfl,h0⟩];refine Rt ?_;refine aH (fun h=>?_) (fun h=>absurd h (by simp[bJ]));refine Rr ?_;refine aF.pre bD [(0,0),(1,1),(2,2),(3,3),(4,4),(5,5)] (mem':=[(0,.row 44 2 [.agg [.bool true,.il 1 (bJ la)]]),(1,.row 44 2 [.agg [.bool by_,.il 1 (bJ lb)]]),(2,.row 44 2 [.agg [.bool false,.nsl]]),(3,.row 44 2 [.agg [.bool false,.nsl]]),(4,.row 44 2 [.agg [.bool b1,.il 1 (bJ l1)]]),(5,.row 44 2 [.agg [.bool false,.il 1 (bJ (r0::rs))]])]) rfl
    ⟨aL 0 (.cons (fD _ _) .nil),aL 1 (.cons (fD _ _) .nil),aL 2 (nN _),aL 3 (nN _),aL 4 (.cons (fD _ _) .nil),aL 5 (.cons (fD _ _) .nil),trivial⟩
    (.cons (.same _ (gH _)) (.cons (.fz' (id:=6) (off:=0) (len:=1) (xs:=[.int .i64 1]) (ys:=bJ [1]) rfl rfl (Yy 1) rfl (eM [1])) .nil)) ?_
   refine h1.go ?_ (.cons (gH _) (.cons (tD _) .nil)) (fD _ _);refine Rt ?_;refine ha.go ?_ (.cons (fD _ _) (.cons (fD _ _) .nil)) (fD _ _);refine Rt ?_;refine hmi.go ?_ (.cons (tD _) (.cons (tD _) .nil)) (tD _);refine Rt ?_;refine hnm.go ?_ (.cons (gH _) (.cons (tD _) .nil)) (fD _ _);refine Rt ?_;exact aA (.tup' (.cons (fD _ _) (.cons (fD _ _) .nil))) ⟨rfl,rfl,rfl⟩
theorem YM(x y:Int)(hx:(dg 10000 x.natAbs).length<=900000)(hy:(dg 10000 y.natAbs).length<=900000):aT prog [] 144 [dW x,dW y] (dW (Nat.gcd x.natAbs y.natAbs:Nat)):=by
 have e0:∀n:Nat,dW (n:Int) = .agg [.bool false,.il 1 (bJ (dg 10000 n))]:=fun n=>by rw[d7,ZC (by omega),Zc]
 have hn1:=z7 (dg 10000 x.natAbs) _ (by omega) (fP hT _) (gE hT _);have hn2:=z7 (dg 10000 y.natAbs) _ (by omega) (fP hT _) (gE hT _);rw[d7 x,d7 y,e0];generalize decide (x<0)=bx;generalize decide (y<0)=by_;generalize x.natAbs=a at *;generalize y.natAbs=b at *;obtain⟨g,hg⟩:∃g,g=Nat.gcd a b:=⟨_,rfl⟩
 rw[←hg];refine aD bD func144 rfl ?_;refine Rt ?_;refine hn1.go ?_ (.cons (gH _) (.cons (tD _) .nil)) (fD _ _);refine Rt ?_;refine hn2.go ?_ (.cons (gH _) (.cons (tD _) .nil)) (fD _ _);refine Rt ?_;refine aZ.at bD (fun p:Nat × Nat=>(dg 10000 p.1).length<=900000/\(dg 10000 p.2).length<=900000/\Nat.gcd p.1 p.2=g)
  (fun p=>⟨[(4,.ptr 0 0 0),(5,.ptr 1 0 0),(6,.ptr 2 0 0)],[(0,.row 44 2 [.agg [.bool false,.nsl]]),(1,.row 44 2 [.agg [.bool false,.il 1 (bJ (dg 10000 p.1))]]),(2,.row 44 2 [.agg [.bool false,.il 1 (bJ (dg 10000 p.2))]])],3,28⟩)
  (fun p=>p.2) (a,b) [(2,0),(3,1),(4,2)] ⟨hx,hy,hg.symm⟩
  (aE _ rfl ⟨aL 2 (nN _),aL 3 (.cons (fD _ _) .nil),aL 4 (.cons (fD _ _) .nil),trivial⟩ ⟨aG,aG,aG,trivial⟩) ?_
 clear hn1 hn2;rintro⟨u,v⟩ ⟨h1,h2,h3⟩;simp only at h1 h2 h3 ⊢;have hz:=gZ (B:=10000) (n:=v) hT;have hlz:decide (((bJ (dg 10000 v)).length:Int)>0)=decide (0<v):=by
  rw[aS,←hz,Ze];omega
 by_cases hv:0<v
 ·have hd:=VP (u:Int) (v:Int) (by omega) (by rw[Zc];exact h1) (by rw[Zc];exact h2);have hm:=MY hT u v;have hmlt:=Z1 u hv;have hgs:=QT u v;rw[←Int.natCast_ediv,←Int.natCast_emod,e0,e0,e0,e0] at hd;generalize u%v=w at *;generalize dg 10000 (u/v)=qq at *;generalize hlu:dg 10000 u=lu at *;generalize hlv:dg 10000 v=lv at *;generalize hlw:dg 10000 w=lw at *;refine Rr ?_;rw[hlz,Y0 hv];refine Rt ?_;refine hd.go ?_ (.cons (fD _ _) (.cons (fD _ _) .nil)) (.tup' (.cons (fD _ _) (.cons (fD _ _) .nil)));refine Rt ?_;exact .mk (v,w) [(0,0),(1,1),(2,2)] ⟨by simp only;rw[hlv];exact h2,by simp only;rw[hlw];omega,by simp only;rw[hgs];exact h3⟩
   (aE _ rfl ⟨aL 0 (nN _),⟨1,_,rfl,rfl,.eq (.cons (fD _ _) .nil) (by rw[hlv])⟩,⟨2,_,rfl,rfl,.eq (.cons (fD _ _) .nil) (by rw[hlw])⟩,trivial⟩ ⟨aG,aG,aG,trivial⟩) (by simp only;omega)
 ·have hv0:v=0:=by omega
  rw[hv0,Nat.gcd_zero_right] at h3;rw[←h3];generalize dg 10000 u=lu at *;generalize dg 10000 v=lv at *;refine Rr ?_;rw[hlz,ZC hv];refine Rt ?_;exact aA (fD _ _) ⟨rfl,rfl,rfl⟩
set_option maxHeartbeats 4000000
def Ro:List UInt8:=[48,49,50,51,52,53,54,55,56,57]
theorem LW{d:Nat}(h:d<10):List.take (((d+1:Nat):Int).toNat-((d:Nat):Int).toNat) (List.drop ((d:Nat):Int).toNat Ro)=[UInt8.ofNat (48+d)]:=by
 rcases(show d=0∨d=1∨d=2∨d=3∨d=4∨d=5∨d=6∨d=7∨d=8∨d=9 by omega) with rfl|rfl|rfl|rfl|rfl|rfl|rfl|rfl|rfl|rfl<;>rfl
theorem Wh(n:Int)(hn:i64 n):aT prog [] 95 [.int .i64 n] (.str (Lib.itoa n)):=by
 unfold i64 at hn;refine aD bD func95 rfl ?_;by_cases h0:n=0
 ·subst h0;rw[M3];refine Rr ?_;exact aA nn ⟨rfl,rfl,rfl⟩
 have e0:(n == 0)=false:=by simpa using h0
 refine Rr ?_;rw[e0];refine Rr ?_;refine aZ.at bD (fun a:Int × List UInt8=>a.1.natAbs<=n.natAbs/\(a.1=0∨(a.1<0↔n<0))/\Lib.decDigits n.natAbs=tF a.1.natAbs++a.2)
  (fun a=>⟨[(0,.int .i64 n),(3,.str Ro),(4,.str a.2),(5,.int .i64 a.1)],[],0,32⟩) (fun a=>a.1.natAbs) (n,[]) [] ⟨Yy _,.inr Iff.rfl,by simp[tF,h0]⟩
  (bL ⟨aK,aK,aK,aK,trivial⟩) ?_
 rintro⟨k,s⟩ ⟨hk1,hk2,hk3⟩;simp only at hk1 hk2 hk3;have hsl:s.length<=20:=by
  have h1:=y8 n.natAbs (by omega);rw[←Lib.decDigits_length,hk3,Y1] at h1;omega
 by_cases hk0:k=0
 ·subst hk0;rw[show tF (Int.natAbs 0)=[] from rfl,ZS] at hk3;refine Rr ?_;refine aH (fun h=>?_) (fun h=>?_)
  ·refine Rr ?_;refine aM (Yp (by simp;omega)) ?_;refine Rr ?_;refine aA nn ⟨?_,rfl,rfl⟩;rw[Lib.itoa,Yt (by simpa using h),hk3];rfl
  ·refine Rr ?_;refine aA nn ⟨?_,rfl,rfl⟩;have h':¬n<0:=by simpa using h
   have e:n.toNat=n.natAbs:=by omega
   rw[Lib.itoa,Yo h',e,hk3]
 ·have e1:(k == 0)=false:=by simpa using hk0
  refine Rr ?_;rw[show ((k,s).fst != 0)=true by simpa using hk0];have hq:=Int.mul_tdiv_add_tmod k 10;have hkq:k.tdiv 10=if 0<=k then((k.natAbs/10:Nat):Int) else -((k.natAbs/10:Nat):Int):=by
   split
   ·rw[aAh (by assumption)];omega
   ·obtain⟨q,rfl⟩:∃q:Nat,k = -(q:Int):=⟨k.natAbs,by omega⟩
    rw[Int.neg_tdiv,aAh (by omega)];simp
  have hkm:(k.tmod 10).natAbs=k.natAbs%10:=by split at hkq<;>omega
  have hkb:(k.tdiv 10).natAbs=k.natAbs/10:=by split at hkq<;>omega
  have hstep:=Ho (k:=k.natAbs) (by omega);have hnext:∀b:UInt8,b=UInt8.ofNat (48+k.natAbs%10)->(fun a:Int × List UInt8=>a.1.natAbs<=n.natAbs/\(a.1=0∨(a.1<0↔n<0))/\Lib.decDigits n.natAbs=tF a.1.natAbs++a.2) (k.tdiv 10,b::s):=by
   intro b hb;refine⟨by simp only;omega, ?_, ?_⟩
   ·simp only;split at hkq<;>omega
   ·simp only;rw[hk3,hstep,hkb,hb];simp
  have hb:i64 (k.tdiv 10):=by
   unfold i64;split at hkq<;>omega
  refine Rr ?_;refine aH (fun h=>?_) (fun h=>?_)
  ·have h':k.tmod 10<0:=by simpa using h
   have e1:IntKind.i64.wrap (0-k.tmod 10)=((k.natAbs%10:Nat):Int):=by rw[bA ⟨by omega,by omega⟩];omega
   have hkk:k.natAbs%10<10:=Z1 _ (by decide);generalize hd:k.natAbs%10=d at *;have e2:IntKind.i64.wrap ((d:Int)+1)=((d+1:Nat):Int):=by rw[bA ⟨by omega,by omega⟩];omega
   refine Rr ?_;rw[e1];have hd10:d<10:=hkk;rw[e2];have z1:decide (0<=(d:Int))=true:=Y0 (by omega);have z3:(Nat.ble ((d:Nat):Int).toNat ((d+1:Nat):Int).toNat && Nat.ble ((d+1:Nat):Int).toNat Ro.length)=true:=by
    rw[Yl,Yl,Yp (by omega),Yp (by show d+1<=10;omega)];rfl
   rw[z1];refine Rr ?_;refine aM z3 ?_;refine Rr ?_;rw[LW hd10];refine aM (Yp (by simp;omega)) ?_;refine Rr ?_;exact .mk (k.tdiv 10,UInt8.ofNat (48+d)::s) [] (hnext _ rfl) (bL ⟨aK,aK,aK,⟨_,rfl,.int (bA hb)⟩,trivial⟩) (by simp only;omega)
  ·have h':¬k.tmod 10<0:=by simpa using h
   have e1:k.tmod 10=((k.natAbs%10:Nat):Int):=by omega
   have hkk:k.natAbs%10<10:=Z1 _ (by decide);generalize hd:k.natAbs%10=d at *;have e2:IntKind.i64.wrap ((d:Int)+1)=((d+1:Nat):Int):=by rw[bA ⟨by omega,by omega⟩];omega
   refine Rr ?_;rw[e1];have hd10:d<10:=hkk;rw[e2];have z1:decide (0<=(d:Int))=true:=Y0 (by omega);have z3:(Nat.ble ((d:Nat):Int).toNat ((d+1:Nat):Int).toNat && Nat.ble ((d+1:Nat):Int).toNat Ro.length)=true:=by
    rw[Yl,Yl,Yp (by omega),Yp (by show d+1<=10;omega)];rfl
   rw[z1];refine Rr ?_;refine aM z3 ?_;refine Rr ?_;rw[LW hd10];refine aM (Yp (by simp;omega)) ?_;refine Rr ?_;exact .mk (k.tdiv 10,UInt8.ofNat (48+d)::s) [] (hnext _ rfl) (bL ⟨aK,aK,aK,⟨_,rfl,.int (bA hb)⟩,trivial⟩) (by simp only;omega)
theorem E0{n m:Nat}(h:n<=2 ^ m)(hm:0<m):(dg 10000 n).length<=m:=by
 refine iI hT (aAZ h ?_);exact Nat.pow_lt_pow_left (by omega) (by omega)
set_option maxHeartbeats 16000000
theorem N2{D:List Nat}{i d:Nat}(h:D[i]? = some d)(hi:i+1<D.length):AK 4 (D.drop i)=AK 4 (D.drop (i+1))++yA 4 d:=by
 obtain⟨h1,h2⟩:=Yn.1 h;rw[List.drop_eq_getElem_cons h1,h2,AK,Yo];intro e;have:=congrArg List.length e;rw[aAi] at this;simp at this;omega
theorem Pj{D:List Nat}{i d:Nat}(h:D[i]? = some d)(hi:i+1=D.length):AK 4 (D.drop i)=Lib.decDigits d:=by
 obtain⟨h1,h2⟩:=Yn.1 h;rw[List.drop_eq_getElem_cons h1,h2,AK,Yt (Zw (by omega))]
theorem JY:∀(D:List Nat),(∀d∈D,d<10000)->(AK 4 D).length<=4*D.length
 | [],_=>by simp[AK]
 | d::r,h=>by
  rw[AK];split
  ·rename_i e;subst e;have:=rS 4 d (h d (by simp)) (by decide);simp;omega
  ·have:=JY r fun x hx=>h x (by simp[hx])
   rw[Y1,vN,ZH];omega
theorem XN(z:Int)(hz:(dg 10000 z.natAbs).length<=1000000):aT prog [] 47 [dW z] (.str (KN z)):=by
 have hla:=fP hT z.natAbs;have htx:0<z.natAbs->AK 4 (dg 10000 z.natAbs)=Lib.decDigits z.natAbs:=fun h=>SW (k:=4) (by omega) z.natAbs h
 have hzero:(dg 10000 z.natAbs).length=0↔z=0:=by
  constructor
  ·intro h;have:=(Hd hT).1 (Y6 h);omega
  ·intro h;rw[h];simp[fV]
 have hdz:KN z=if z<0 then 45::Lib.decDigits z.natAbs else Lib.decDigits z.natAbs:=by
  unfold KN Lib.itoa;split
  ·rfl
  ·rw[show z.toNat=z.natAbs by omega]
 have hdec:∀d:Nat,d<10000->aT prog [] 95 [.int .i64 d] (.str (Lib.decDigits d)):=fun d h=>by
  have:=Wh (d:Int) ⟨by omega,by omega⟩;rw[Lib.itoa_nonneg] at this;exact this
 rw[d7,hdz];have hpos:z=0∨0<z.natAbs:=by omega
 have hbz:(if z<0 then 45::Lib.decDigits z.natAbs else Lib.decDigits z.natAbs)=(if decide (z<0)=true then 45::Lib.decDigits z.natAbs else Lib.decDigits z.natAbs):=by simp
 rw[hbz];generalize hD:dg 10000 z.natAbs=D at *;generalize hbn:decide (z<0)=bz at *;refine aD bD func47 rfl ?_;by_cases h0:z=0
 ·have hl0:=hzero.2 h0;have e1:((D.length:Int) == 0)=true:=by rw[hl0];rfl
  have e2:bz=false:=by rw[←hbn,h0];rfl
  rw[e2,h0];refine Rr ?_;rw[aS,e1];refine Rr ?_;exact aA nn ⟨by rw[Yo (by simp),show Int.natAbs 0=0 from rfl,Lib.decDigits_one (by omega)];rfl,rfl,rfl⟩
 ·have hl0:0<D.length:=by have:=hzero.1;omega
  have e1:((D.length:Int) == 0)=false:=by simp;intro h;rw[h] at hl0;simp at hl0
  have htx:=htx (by omega);have hw1:IntKind.i64.wrap ((D.length:Int)-1)=((D.length-1:Nat):Int):=by rw[bA ⟨by omega,by omega⟩];omega
  obtain⟨t,ht⟩:∃d,D[D.length-1]? = some d:=⟨_,Yj (by omega)⟩
  have g1:=u7 ht;have hd1:=hdec t (hla _ (Yv ht));refine Rr ?_;rw[aS,e1];refine Rr ?_;rw[aS,hw1];refine aB g1 ?_;refine Rt ?_;refine hd1.go ?_ (.cons nn .nil) nn;refine Rr ?_;rw[aS];refine aZ.at bD (fun k:Nat=>k+1<=D.length)
   (fun k=>⟨[(1,.ptr 0 0 0),(3,.str (AK 4 (D.drop k))),(4,.int .i64 ((k:Int)-1))],[(0,.row 44 2 [.agg [.bool bz,.il 1 (bJ D)]])],1,46⟩)
   (fun k=>k) (D.length-1) [(0,0)] (by omega)
   (aE _ rfl ⟨aL 0 (.cons (fD _ _) .nil),trivial⟩ ⟨aG,⟨_,rfl,.eq nn (by rw[Pj ht (by omega)])⟩,⟨_,rfl,.wo⟩,trivial⟩) ?_
  intro k hk;have hlen:=JY (D.drop k) fun d hd=>hla d (ZV hd)
  rw[aAi] at hlen;refine Rr ?_;refine aH (fun hb=>?_) (fun hb=>?_)
  ·have hk1:0<k:=by simp at hb;omega
   obtain⟨i,rfl⟩:∃i,k=i+1:=⟨k-1,by omega⟩
   rw[show (((i+1:Nat):Int)-1)=(i:Int) by omega];obtain⟨u,hu⟩:∃u,D[i]? = some u:=⟨_,Yj (by omega)⟩
   have hul:=hla _ (Yv hu);have g2:=u7 hu;have hst:=N2 hu (by omega);have hdu:=hdec u hul;have hpe:=HQ 4 u (by omega) (by decide);have hl4:=rS 4 u (by omega) (by decide);generalize Lib.decDigits u=tu at *;refine Rr ?_;refine aB g2 ?_;refine Rt ?_;refine hdu.go ?_ (.cons nn .nil) nn;refine Rr ?_;refine aZ.at bD (fun j:Nat=>j+tu.length<=4)
    (fun j=>⟨[(1,.ptr 0 0 0),(3,.str (AK 4 (D.drop (i+1)))),(4,.int .i64 i),(5,.str (List.replicate j 48++tu))],[(0,.row 44 2 [.agg [.bool bz,.il 1 (bJ D)]])],1,46⟩)
    (fun j=>4-j) 0 [(0,0)] (by omega)
    (aE _ rfl ⟨aL 0 (.cons (fD _ _) .nil),trivial⟩ ⟨aG,aK,aK,aK,trivial⟩) ?_
   intro j hj;have hjl:(List.replicate j 48++tu).length=j+tu.length:=by simp
   have hcons:∀(j:Nat),(48:UInt8)::(List.replicate j 48++tu)=List.replicate (j+1) 48++tu:=fun j=>rfl
   generalize hs:List.replicate j 48++tu=s at *;refine Rr ?_;rw[hjl];refine aH (fun hc=>?_) (fun hc=>?_)
   ·have hc:j+tu.length<4:=by have:=ZX hc;omega
    refine Rr ?_;refine aM (Yp (by simp;omega)) ?_;refine Rr ?_;exact .mk (j+1) [(0,0)] (by omega)
     (aE _ rfl ⟨aL 0 (.cons (fD _ _) .nil),trivial⟩ ⟨aG,aK,aK,⟨_,rfl,.eq nn (by rw[←hs];rfl)⟩,trivial⟩) (by omega)
   ·have hc:j+tu.length=4:=by have:=aAg hc;omega
    have hsp:s=yA 4 u:=by rw[hpe,←hs,show 4-tu.length=j by omega]
    refine Rr ?_;refine aM (Yp (by rw[hjl];omega)) ?_;refine Rr ?_;exact .mk i [(0,0)] (by omega)
     (aE _ rfl ⟨aL 0 (.cons (fD _ _) .nil),trivial⟩ ⟨aG,⟨_,rfl,.eq nn (by rw[hst,hsp])⟩,⟨_,rfl,.w64 rfl ⟨by omega,by omega⟩⟩,trivial⟩) (by omega)
  ·have hk0:k=0:=by simp at hb;omega
   subst hk0;rw[ZI] at hlen;have hd0:D.drop 0=D:=ZI;cases bz
   ·refine Rr ?_;rw[hd0,htx];exact aA nn ⟨by rw[Yo (by simp)],rfl,rfl⟩
   ·refine Rr ?_;rw[hd0,htx];refine aM (Yp (by rw[←htx];simp;omega)) ?_;refine Rr ?_;exact aA nn ⟨by rw[Yt rfl];rfl,rfl,rfl⟩
set_option maxHeartbeats 16000000
def Nk(a:Fr):AV:=.agg [.bool (decide (a.p<0)),.il 1 (bJ (dg 10000 a.p.natAbs)),.bool (decide ((a.q:Int)<0)),.il 1 (bJ (dg 10000 (a.q:Int).natAbs))]
theorem UY(b c:Bool)(l m:List Nat):NN (.agg [.bool b,.il 1 (bJ l),.bool c,.il 1 (bJ m)]):=.agg' (.cons (gH _) (.cons (tD _) (.cons (gH _) (.cons (tD _) .nil))))
theorem eR(z:Int):∃b l,dW z = .agg [.bool b,.il 1 (bJ l)]:=⟨_,_,rfl⟩
theorem MM(a:Fr):∃b l c m,dW a.p = .agg [.bool b,.il 1 (bJ l)]/\dW (a.q:Int) = .agg [.bool c,.il 1 (bJ m)]/\Nk a = .agg [.bool b,.il 1 (bJ l),.bool c,.il 1 (bJ m)]:=⟨_,_,_,_,rfl,rfl,rfl⟩
structure LF(n:Nat)(a:Fr):Prop where
 num:(dg 10000 a.p.natAbs).length<=n
 den:(dg 10000 a.q).length<=n
theorem Xi(n:Int)(hn:i64 n):aT prog [] 140 [.int .i64 n] (Nk ⟨n,1⟩):=by
 have h1:=Tz n hn;have h2:=Tz ((1:Nat):Int) ⟨by omega,by omega⟩;obtain⟨b,l,c,m,q1,q2,q3⟩:=MM ⟨n,1⟩;rw[q3];rw[q1] at h1;rw[q2] at h2;refine aD bD func140 rfl ?_;refine Rr ?_;refine h1.go ?_ (.cons nn .nil) (fD _ _);refine Rr ?_;refine h2.go ?_ (.cons nn .nil) (fD _ _);refine Rt ?_;exact aA (UY _ _ _ _) ⟨rfl,rfl,rfl⟩
theorem PS{p q:Int}(h:q≠0):0<Nat.gcd p.natAbs q.natAbs:=Nat.gcd_pos_of_pos_right _ (aBN.2 h)
theorem IW(p q:Int)(hq:q≠0)(h1:(dg 10000 p.natAbs).length<=800000)(h2:(dg 10000 q.natAbs).length<=800000):aT prog [] 148 [dW p,dW q] (.tup [Nk (mkF p q),.int .i64 0]):=by
 have hg0:=PS (p:=p) hq;have hn1:=XI p (by omega);have hn2:=XI q (by omega);have key:∀P Q:Int,P=(if q<0 then -p else p)->Q=(q.natAbs:Int)->aT prog [] 144 [dW P,dW Q] (dW (Nat.gcd p.natAbs q.natAbs:Nat)) /\
   aT prog [] 145 [dW P,dW (Nat.gcd p.natAbs q.natAbs:Nat)] (.tup [dW (mkF p q).p,dW (P%(Nat.gcd p.natAbs q.natAbs:Nat))]) /\
   aT prog [] 145 [dW Q,dW (Nat.gcd p.natAbs q.natAbs:Nat)] (.tup [dW ((mkF p q).q:Int),dW (Q%(Nat.gcd p.natAbs q.natAbs:Nat))]):=by
  intro P Q hP hQ;have a1:P.natAbs=p.natAbs:=by rw[hP];split<;>simp
  have a2:Q.natAbs=q.natAbs:=by rw[hQ];simp
  have hgl:=SS hT p.natAbs q.natAbs;have z1:=YM P Q (by rw[a1];omega) (by rw[a2];omega);rw[a1,a2] at z1;have z2:=VP P (Nat.gcd p.natAbs q.natAbs:Nat) (by omega) (by rw[a1];omega) (by rw[Zc];omega);have z3:=VP Q (Nat.gcd p.natAbs q.natAbs:Nat) (by omega) (by rw[a2];omega) (by rw[Zc];omega);refine⟨z1, ?_, ?_⟩
  ·have e:(mkF p q).p=P/(Nat.gcd p.natAbs q.natAbs:Nat):=by rw[hP];rfl
   rw[e];exact z2
  ·have e:((mkF p q).q:Int)=Q/(Nat.gcd p.natAbs q.natAbs:Nat):=by rw[hQ,←Int.natCast_ediv];rfl
   rw[e];exact z3
 have kn:=key (-p) (-q);have kp:=key p q;have hlz:=gZ (B:=10000) (n:=q.natAbs) hT;have hz:(((dg 10000 q.natAbs).length:Int) == 0)=false:=by
  have:0<(dg 10000 q.natAbs).length:=by
   have:=Ze.1 hlz;exact this.2 (by omega)
  simp;intro h;rw[h] at this;simp at this
 obtain⟨b,l,c,m,q1,q2,q3⟩:=MM (mkF p q);rw[q1,q2] at kn kp;rw[q3];obtain⟨bg,lg,hgg⟩:=eR (Nat.gcd p.natAbs q.natAbs:Nat);rw[hgg] at kn kp;obtain⟨bm,lm,hmm⟩:=eR (-p);obtain⟨bn,ln,hnn⟩:=eR (-q);rw[hmm] at hn1 kn;rw[hnn] at hn2 kn;clear key q1 q2 q3 hgg hmm hnn hlz hg0;have ep:=d7 p;have eq:=d7 q;rw[ep] at hn1 kp ⊢;rw[eq] at hn2 kp ⊢;clear ep eq;generalize hbq:decide (q<0)=bq at *;generalize decide (p<0)=bp at *;generalize dg 10000 p.natAbs=lp at *;generalize dg 10000 q.natAbs=lq at *;refine aD bD func148 rfl ?_;cases bq with
 | true=>
  have hlt:=ZX hbq;obtain⟨k1,k2,k3⟩:=kn (by rw[Yt hlt]) (by omega);obtain⟨b1,l1,e1⟩:=eR (-p%(Nat.gcd p.natAbs q.natAbs:Nat));obtain⟨b2,l2,e2⟩:=eR (-q%(Nat.gcd p.natAbs q.natAbs:Nat));rw[e1] at k2;rw[e2] at k3;refine Rt ?_;rw[aS,hz];refine Rt ?_;refine hn1.go ?_ (.cons (fD _ _) .nil) (fD _ _);refine Rt ?_;refine hn2.go ?_ (.cons (fD _ _) .nil) (fD _ _);refine Rt ?_;refine k1.go ?_ (.cons (fD _ _) (.cons (fD _ _) .nil)) (fD _ _);refine Rt ?_;refine k2.go ?_ (.cons (fD _ _) (.cons (fD _ _) .nil)) (.tup' (.cons (fD _ _) (.cons (fD _ _) .nil)));refine Rt ?_;refine k3.go ?_ (.cons (fD _ _) (.cons (fD _ _) .nil)) (.tup' (.cons (fD _ _) (.cons (fD _ _) .nil)));refine Rt ?_;exact aA (.tup' (.cons (UY _ _ _ _) (.cons nn .nil))) ⟨rfl,rfl,rfl⟩
 | false=>
  have hlt:=aAg hbq;obtain⟨k1,k2,k3⟩:=kp (by rw[Yo hlt]) (by omega);obtain⟨b1,l1,e1⟩:=eR (p%(Nat.gcd p.natAbs q.natAbs:Nat));obtain⟨b2,l2,e2⟩:=eR (q%(Nat.gcd p.natAbs q.natAbs:Nat));rw[e1] at k2;rw[e2] at k3;refine Rt ?_;rw[aS,hz];refine Rt ?_;refine k1.go ?_ (.cons (fD _ _) (.cons (fD _ _) .nil)) (fD _ _);refine Rt ?_;refine k2.go ?_ (.cons (fD _ _) (.cons (fD _ _) .nil)) (.tup' (.cons (fD _ _) (.cons (fD _ _) .nil)));refine Rt ?_;refine k3.go ?_ (.cons (fD _ _) (.cons (fD _ _) .nil)) (.tup' (.cons (fD _ _) (.cons (fD _ _) .nil)));refine Rt ?_;exact aA (.tup' (.cons (UY _ _ _ _) (.cons nn .nil))) ⟨rfl,rfl,rfl⟩
set_option maxHeartbeats 16000000
theorem LF.mkF{n:Nat}{p q:Int}(h1:(dg 10000 p.natAbs).length<=n)(h2:(dg 10000 q.natAbs).length<=n):LF n (mkF p q):=
 ⟨Yw (dX hT (Rp p q)) h1,Yw (dX hT (Rl p q)) h2⟩
end Go.Proofs.YtidjhgajglebnaaGreatDoor
namespace Go.Ax
open Go
structure Cell where
 n:Nat
 p:Fr
def zC:Cell:=⟨0,zF⟩
def FS(m:Bool)(c d:Cell):Cell:=⟨c.n+d.n,if m=true then(X9 c.p d.p).1 else c.p⟩
def eF(m:Bool):List Cell->List Cell->List Cell
 | [],[]=>[]
 | a::l,[]=>a::eF m l []
 | [],b::k=>FS m zC b::eF m [] k
 | a::l,b::k=>FS m a b::eF m l k
theorem Aj(m:Bool):∀l:List Cell,eF m l []=l
 | []=>by simp[eF]
 | a::l=>by rw[eF,Aj m l]
theorem qN(m:Bool):∀l k:List Cell,(eF m l k).length=max l.length k.length
 | [],[]=>by simp[eF]
 | a::l,[]=>by rw[Aj];simp
 | [],b::k=>by rw[eF,ZH,qN m [] k];simp
 | a::l,b::k=>by rw[eF,ZH,qN m l k];simp
theorem Ea(m:Bool):∀(l k:List Cell) (i:Nat),i<max l.length k.length->(eF m l k)[i]? = some (if i<k.length then FS m (l.getD i zC) (k.getD i zC) else l.getD i zC)
 | [],[],i,h=>by simp at h
 | a::l,[],i,h=>by
  rw[Aj,Yo (by simp)];simp at h;rw[Ym,Yj (by simpa using h)];rfl
 | [],b::k,0,h=>by simp[eF]
 | [],b::k,i+1,h=>by
  rw[eF,List.getElem?_cons_succ,Ea m [] k i (by simp at h ⊢;omega)];simp
 | a::l,b::k,0,h=>by simp[eF]
 | a::l,b::k,i+1,h=>by
  rw[eF,List.getElem?_cons_succ,Ea m l k i (by simp at h ⊢;omega)];simp
theorem Mu(m:Bool)(l k:List Cell){i:Nat}(h:i<max l.length k.length):(eF m l k).take (i+1)=(eF m l k).take i++[if i<k.length then FS m (l.getD i zC) (k.getD i zC) else l.getD i zC]:=by
 have hl:i<(eF m l k).length:=by rw[qN];exact h
 have:=Ea m l k i h;rw[Yj hl] at this;rw[Ys hl,Option.some.inj this]
def sX(m:Bool)(c d:Cell):Cell:=⟨c.n*d.n,if m=true then(Xk c.p d.p).1 else zF⟩
def uC(m:Bool)(i:Nat)(c:Cell)(b:List Cell):List Cell:=List.replicate i zC++(if 0<c.n then b.map (sX m c) else [])
def hZ(m:Bool)(a b:List Cell):List Cell:=a.zipIdx.foldl (fun out ci=>eF m out (uC m ci.2 ci.1 b)) []
def jI(n p q:Int):List Cell:=[zC,⟨n.toNat,mkF p q⟩]
def fW:List Cell:=[⟨1,⟨1,1⟩⟩]
def pO(l:List Int):Int:=l.foldl (· + ·) 0
def kO(m:Bool)(x:Nd)(al:Nat->List Cell)(of:Nat->aR->List Cell):List Cell:=
 if x.kind=1 then jI (x.hi-x.lo+1) 1 1
 else if x.kind=3 then x.kids.foldl (fun f k=>hZ m f (al k.toNat)) fW
 else if x.kind=2 then x.kids.zipIdx.foldl (fun f kc=>eF m f (hZ m (jI 1 (x.weights.getD kc.2 0) (pO x.weights)) (al kc.1.toNat))) []
 else if x.kind=4 then(x.values.zip (x.kids.drop 1)).foldl (fun f vk=>eF m f (hZ m (of (gB x) vk.1) (al vk.2.toNat))) []
 else fW
def kM(m:Bool)(x:Nd)(of:Nat->aR->List Cell)(v:aR):List Cell:=
 if x.kind=0 then(if cE x.value v=0 then fW else [])
 else if x.kind=1 then(if BF x v=true then jI 1 1 (x.hi-x.lo+1) else [])
 else if x.kind=3 then(if jH x v=true then(x.kids.zip (jZ v)).foldl (fun f kv=>hZ m f (of kv.1.toNat kv.2)) fW else [])
 else if x.kind=2 then x.kids.zipIdx.foldl (fun f kc=>eF m f (hZ m (jI 1 (x.weights.getD kc.2 0) (pO x.weights)) (of kc.1.toNat v))) []
 else if x.kind=4 then(x.values.zip (x.kids.drop 1)).foldl (fun f vk=>eF m f (hZ m (of (gB x) vk.1) (of vk.2.toNat v))) []
 else []
def g5(m:Bool):Sys (List Cell) (List Cell) where
 sa:=kO m
 sf:=kM m
 s0:=[]
 r0:=[]
 la:=fun x al al' of of' h1 h2=>by
  unfold kO;split
  ·rfl
  split
  ·exact cC _ _ fun k hk b=>by rw[h1 k hk]
  split
  ·exact cC _ _ fun k hk b=>by rw[h1 _ (d8 hk)]
  split
  ·exact cC _ _ fun vk hk b=>by
    obtain⟨m1,m2⟩:=cU hk;unfold gB;rw[h1 _ m1,h2 _ m2]
  ·rfl
 lf:=fun x of of' v h2=>by
  unfold kM;split
  ·rfl
  split
  ·rfl
  split
  ·split
   ·exact cC _ _ fun kv hk b=>by rw[h2 _ (Zq hk).1]
   ·rfl
  split
  ·exact cC _ _ fun k hk b=>by rw[h2 _ (d8 hk)]
  split
  ·exact cC _ _ fun vk hk b=>by
    obtain⟨m1,m2⟩:=cU hk;unfold gB;rw[h2 _ m1,h2 _ m2]
  ·rfl
def cR(r:List Cell):Nat:=(r.map Cell.n).sum
theorem oA(c:Cell)(r:List Cell):cR (c::r)=c.n+cR r:=by simp[cR]
theorem oX(m:Bool):∀l k:List Cell,cR (eF m l k)=cR l+cR k
 | [],[]=>by simp[eF,cR]
 | a::l,[]=>by rw[Aj];simp[cR]
 | [],b::k=>by rw[eF,oA,oA,oX m [] k];simp[FS,zC,cR]
 | a::l,b::k=>by rw[eF,oA,oA,oA,oX m l k];simp[FS];omega
theorem Fu(m:Bool)(i:Nat)(c:Cell)(b:List Cell):cR (uC m i c b)=c.n*cR b:=by
 have e1:∀i,((List.replicate i zC).map Cell.n).sum=0:=fun i=>by
  induction i with
  | zero=>rfl
  | succ i ih=>rw[Zt,ZP,aAa,ih];rfl
 unfold uC cR;rw[Zk,aAb,e1,ZD];split
 ·induction b with
  | nil=>simp
  | cons d b ih=>simp only[ZP,aAa,ih,Nat.mul_add];rfl
 ·rename_i h;rw[show c.n=0 by omega];simp
theorem nD(m:Bool)(a b:List Cell):cR (hZ m a b)=cR a*cR b:=by
 have key:∀(a:List Cell) (n:Nat) (out:List Cell),cR ((a.zipIdx n).foldl (fun out ci=>eF m out (uC m ci.2 ci.1 b)) out)=cR out+cR a*cR b:=by
  intro a
  induction a with
  | nil=>intro n out;simp[cR]
  | cons c a ih=>intro n out;rw[aAo,Y9,ih,oX,Fu,oA,Nat.add_mul];simp only;omega
 unfold hZ;rw[key];simp[cR]
theorem sA{n:Int}(p q:Int):cR (jI n p q)=n.toNat:=by simp[cR,jI,zC]
theorem Gn(m:Bool){A:List Nd}(h:VT A):∀i,i<A.length->cR ((g5 m).all A i)=cZ.all A i/\∀v,bP v=0->cR ((g5 m).of A i v)=cZ.of A i v:=by
 intro i
 induction i using Nat.strongRecOn with
 | ind i ih=>
  intro hi;have hx:=bS hi;have hk:=fun(k:Int) (hk:k∈(aJ A i).kids)=>fI h hx hk
  have ia:=fun(k:Int) (hm:k∈(aJ A i).kids)=>(ih k.toNat (hk k hm).2 (by have:=hk k hm;omega)).1
  have io:=fun(k:Int) (hm:k∈(aJ A i).kids)=>(ih k.toNat (hk k hm).2 (by have:=hk k hm;omega)).2
  have hvv:=fun(u:aR) (hu:u∈(aJ A i).values)=>h.vals_valid hx hu
  rw[(g5 m).all_eq h hi,cZ.all_eq h hi];refine⟨?_,fun v hv=>?_⟩
  ·show cR (kO _ _ _ _)=kP _ _ _
   unfold kO kP;generalize aJ A i=x at *;split
   ·rw[sA]
   split
   ·exact eD cR _ _ (g:=fun f (k:Int)=>f*cZ.all A k.toNat) fun k hm b=>by rw[nD,ia k hm]
   split
   ·rw[eD cR _ _ (g:=fun f (kc:Int × Nat)=>f+cZ.all A kc.1.toNat) fun kc hm b=>by rw[oX,nD,sA,ia _ (d8 hm)];simp];exact mR (f:=fun b (k:Int)=>b+cZ.all A k.toNat) _ 0 _
   split
   ·exact eD cR _ _ (g:=fun f (vk:aR × Int)=>f+cZ.of A (gB x) vk.1*cZ.all A vk.2.toNat) fun vk hm b=>by
     obtain⟨m1,m2⟩:=cU hm;unfold gB;rw[oX,nD,ia _ m1,io _ m2 _ (hvv _ (Zq hm).1)]
   ·rfl
  ·rw[(g5 m).of_eq h hi,cZ.of_eq h hi]
   show cR (kM _ _ _ _)=rN _ _ _
   unfold kM rN;rw[Yo (show ¬bP v≠0 by omega)];generalize aJ A i=x at *;split
   ·split<;>rfl
   split
   ·split
    ·rw[sA];rfl
    ·rfl
   split
   ·split
    ·exact eD cR _ _ (g:=fun f (kv:Int × aR)=>f*cZ.of A kv.1.toNat kv.2) fun kv hm b=>by
      obtain⟨m1,m2⟩:=Zq hm;rw[nD,io _ m1 _ (zP hv _ m2)]
    ·rfl
   split
   ·rw[eD cR _ _ (g:=fun f (kc:Int × Nat)=>f+cZ.of A kc.1.toNat v) fun kc hm b=>by rw[oX,nD,sA,io _ (d8 hm) v hv];simp];exact mR (f:=fun b (k:Int)=>b+cZ.of A k.toNat v) _ 0 _
   split
   ·exact eD cR _ _ (g:=fun f (vk:aR × Int)=>f+cZ.of A (gB x) vk.1*cZ.of A vk.2.toNat v) fun vk hm b=>by
     obtain⟨m1,m2⟩:=cU hm;unfold gB;rw[oX,nD,io _ m1 v hv,io _ m2 _ (hvv _ (Zq hm).1)]
   ·rfl
end Go.Ax
