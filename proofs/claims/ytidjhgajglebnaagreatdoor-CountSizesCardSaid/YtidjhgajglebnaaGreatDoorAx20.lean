/- A part of the proof. -/
import Derived.Test.YtidjhgajglebnaaGreatDoorAx19
set_option linter.unusedSectionVars false
set_option linter.unusedVariables false
set_option linter.unusedSimpArgs false
set_option maxRecDepth 1000000
set_option maxHeartbeats 16000000
namespace Go.Proofs.YtidjhgajglebnaaGreatDoor
open Go Go.Ax Go.Proofs Tryz
variable{n i k j m d:Nat}{b:Bool}
theorem hT:(2:Nat)<=10000:=by decide
theorem tD(l:List Nat):NN (.il 1 (bO l)):=.il' (fE l)
theorem j9(b:Bool):NN (.bool b):=.bool b
theorem gE(b:Bool)(l:List Nat):NN (.agg [.bool b,.il 1 (bO l)]):=.agg' (.cons (j9 _) (.cons (tD _) .nil))
theorem Zv:kZ [.agg [.bool false,.nsl]]:=.cons (.agg' (.cons (j9 _) (.cons .nsl .nil))) .nil
theorem eR(x:Int):eQ x = .agg [.bool (decide (x<0)),.il 1 (bO (dg 10000 x.natAbs))]:=rfl
theorem Ty(neg:Bool)(n:Nat):eQ (sg neg n) = .agg [.bool (neg && decide (0<n)),.il 1 (bO (dg 10000 n))]:=by
 unfold eQ;rw[EJ,RY]
theorem xS{l:List Nat}(h:l[i]? = some d):(bO l)[((i:Nat):Int).toNat]? = some (.int .i64 (d:Int)):=by rw[aAc,QP,h];rfl
theorem Qk{l:List Nat}(h:l[i]? = some d):(bO l)[0+((i:Nat):Int).toNat]? = some (.int .i64 (d:Int)):=by rw[aAF];exact xS h
theorem Oz(l:List Nat)(k:Nat):(bO l).drop k=bO (l.drop k):=by unfold bO;rw[List.map_drop]
theorem SM(neg:Bool)(l:List Nat)(hl:l.length<=4294967296):aT prog [] 121 [.bool neg,.il 1 (bO l)] (.agg [.bool (neg && decide (0<(fY l).length)),.il 1 (bO (fY l))]):=by
 refine aD bE func121 rfl ?_;refine Rr ?_;refine bA.at bE (λk:Nat=>k<=l.length/\fY (l.take k)=fY l) (λk=>⟨[(0,.bool neg),(1,.il 1 (bO (l.take k))),(4,.ptr 0 0 0)],[(0,.row 44 2 [.agg [.bool false,.nsl]])],1,30⟩) (λk=>k) l.length [(0,0)] ⟨aAp _,by rw[aAD]⟩
  (aE _ rfl ⟨aL 0 Zv,trivial⟩ ⟨aM (j9 _),⟨_,rfl,.eq (tD _) (by rw[aAD])⟩,aF,trivial⟩) ?_
 rintro k ⟨hk,ht⟩;refine Rr ?_;have hlk:(bO (l.take k)).length=k:=by rw[aS,aAR];omega
 rw[hlk];refine aI (λhb=>?_) (λhb=>?_)
 .rw[hb];have hk0:0<k:=su hb
  obtain⟨j,rfl⟩:∃j,k=j+1:=⟨k-1,om⟩
  obtain⟨d,hd⟩:∃d,l[j]? = some d:=⟨_,aAa om⟩
  have hw:IntKind.i64.wrap (((j+1:Nat):Int)-1)=(j:Int):=by rw[aV oq];omega
  have hg:(l.take (j+1))[j]? = some d:=by rw[aAL,aAh om];exact hd
  have e1:=xS hg;have hts:fY (l.take (j+1))=if d=0 then fY (l.take j) else l.take (j+1):=by
   have e:=CM hd;rw[e,Ab]
  refine Rr ?_;rw[hlk,hw];refine aB e1 ?_;refine Rt ?_;refine aI (λhc=>?_) (λhc=>?_)
  .have hd0:d=0:=su hc
   refine Rr ?_;rw[hlk,hw];refine aN (QM om) ?_;refine Rr ?_;exact .mk j [(0,0)] ⟨om,by rw[aAh hd0] at hts;rw[<-hts];exact ht⟩ (aE _ rfl ⟨aL 0 Zv,trivial⟩ ⟨aM (j9 _),⟨_,rfl,.eq (tD _) (by simp[bO,<-List.map_take,aCk])⟩,aF,trivial⟩) om
  .have hd0:d≠0:=su hc
   rw[aAe hd0] at hts;rw[hts] at ht;rw[<-ht];generalize hL:l.take (j+1)=L at *;have hpos:decide (((bO L).length:Int)>0)=decide (0<L.length):=by rw[aS,aA2];omega
   cases neg with
   | false=>
    refine Rt ?_;exact aA (gE _ _) ⟨rfl,rfl,rfl⟩
   | true=>
    refine Rr ?_;rw[hpos];refine Rs ?_;exact aA (gE _ _) ⟨rfl,rfl,rfl⟩
 .try rw[hb]
  have hk0:k=0:=by simp at hb;omega
  subst hk0;rw[<-ht];generalize hL:l.take 0=L at *;have hL0:L=[]:=by rw[<-hL];rfl
  subst hL0;have hpos:decide ((((bO []):List AV).length:Int)>0)=false:=by rfl
  cases neg with
  | false=>
   refine Rt ?_;exact aA (gE _ _) ⟨rfl,rfl,rfl⟩
  | true=>
   refine Rt ?_;exact aA (gE _ _) ⟨rfl,rfl,rfl⟩
theorem qO(neg:Bool)(l:List Nat)(n:Nat)(hl:l.length<=4294967296)(hd:∀d∈l,d<10000)(hv:vl 10000 l=n):aT prog [] 121 [.bool neg,.il 1 (bO l)] (eQ (sg neg n)):=by
 have h:=SM neg l hl;have e:fY l=dg 10000 n:=by rw[lD hT _ hd,hv]
 rw[e] at h;rw[Ty,<-iE hT];exact h
theorem Gj(x y:Nat)(hx:(dg 10000 x).length<=4294967296):aT prog [] 142 [.il 1 (bO (dg 10000 x)),.il 1 (bO (dg 10000 y))] (.int .i64 (mI x y)):=by
 refine aD bE func142 rfl ?_;refine Rr ?_;rw[aS,aS];have hB:=hT;have hla:=fZ hB x;have hlb:=fZ hB y;have hva:=gO hB x;have hvb:=gO hB y;have hL:(dg 10000 x).length<(dg 10000 y).length->mI (x:Int) y = -1:=λh=>by have:=qX hB h;unfold mI;rw[aAh om]
 have hG:(dg 10000 y).length<(dg 10000 x).length->mI (x:Int) y=1:=λh=>by have:=qX hB h;unfold mI;rw[aAe om,aAh om]
 generalize dg 10000 x=a at *;generalize dg 10000 y=b at *;refine aI (λhb=>?_) (λhb=>?_)
 .refine Rr ?_;rw[hL (su hb)];exact aA nn ⟨rfl,rfl,rfl⟩
 .refine Rr ?_;rw[aS,aS];refine aI (λhc=>?_) (λhc=>?_)
  .refine Rr ?_;rw[hG (by simp at hc;omega)];exact aA nn ⟨rfl,rfl,rfl⟩
  have heq:a.length=b.length:=by simp at hb hc;omega
  refine Rr ?_;refine bA.at bE (λm:Nat=>m<=a.length/\a.drop m=b.drop m) (λm=>⟨[(0,.il 1 (bO a)),(1,.il 1 (bO b)),(5,.int .i64 ((m:Int)-1))],[],0,41⟩) (λm=>m) a.length [] ⟨aAp _,by rw[aBy,heq,aBy]⟩
   (bX ⟨aM (tD _),aM (tD _),⟨_,rfl,.w64 (by rw[aS]) oq⟩,trivial⟩) ?_
  rintro m ⟨hm,hd⟩;refine Rr ?_;refine aI (λhc=>?_) (λhc=>?_)
  .have hm1:0<m:=by simp at hc;omega
   obtain⟨i,rfl⟩:∃i,m=i+1:=⟨m-1,om⟩
   rw[show (((i+1:Nat):Int)-1)=(i:Int) by omega];obtain⟨u,hu⟩:∃u,a[i]? = some u:=⟨_,aAa om⟩
   obtain⟨v,hv⟩:∃v,b[i]? = some v:=⟨_,aAa om⟩
   have e1:=xS hu;have e2:=xS hv;refine Rr ?_;repeat((first|refine aB e1 ?_|refine aB e2 ?_|refine bQ ?_);refine Rr ?_)
   refine aI (λhc=>?_) (λhc=>?_)
   .have huv:u<v:=by simp at hc;omega
    have:=qP hla hB hd hu hv huv heq;refine Rr ?_;rw[show mI (x:Int) y = -1 by unfold mI;rw[aAh om]];exact aA nn ⟨rfl,rfl,rfl⟩
   .refine Rr ?_;repeat((first|refine aB e1 ?_|refine aB e2 ?_|refine bQ ?_);refine Rr ?_)
    refine aI (λhc2=>?_) (λhc2=>?_)
    .have huv:v<u:=by simp at hc2;omega
     have:=qP hlb hB hd.symm hv hu huv heq.symm;refine Rr ?_;rw[show mI (x:Int) y=1 by unfold mI;rw[aAe om,aAh om]];exact aA nn ⟨rfl,rfl,rfl⟩
    .have huv:u=v:=by simp at hc hc2;omega
     refine Rr ?_;exact .mk i [] ⟨om,by
       obtain⟨h1,h2⟩:=aAg.1 hu;obtain⟨h3,h4⟩:=aAg.1 hv;rw[List.drop_eq_getElem_cons h1,List.drop_eq_getElem_cons h3,h2,h4,huv,hd]⟩
      (bX ⟨aM (tD _),aM (tD _),⟨_,rfl,.w64 rfl oq⟩,trivial⟩) om
  .have hm0:m=0:=by simp at hc;omega
   subst hm0;simp only[aAJ] at hd;subst hd;refine Rr ?_;rw[show mI (x:Int) y=0 by rw[<-hva,hvb];simp[mI]];exact aA nn ⟨rfl,rfl,rfl⟩
theorem Yo(x:Int)(hx:(dg 10000 x.natAbs).length<=4294967296):aT prog [] 203 [eQ x] (eQ (-x)):=by
 have h:=qO (!decide (x<0)) (dg 10000 x.natAbs) x.natAbs hx (fZ hT _) (gO hT _);have e:sg (!decide (x<0)) x.natAbs = -x:=by
  unfold sg;by_cases h:x<0
  .simp[h];omega
  .simp[h];omega
 rw[e,eR (-x)] at h;rw[eR x,eR (-x)];generalize decide (-x<0)=b2 at *;generalize dg 10000 (-x).natAbs=a2 at *;generalize dg 10000 x.natAbs=a at *;generalize decide (x<0)=b at *;refine aD bE func203 rfl ?_;refine Rr ?_;refine h.go ?_ (.cons (j9 _) (.cons (tD _) .nil)) (gE _ _);refine Rt ?_;exact aA (gE _ _) ⟨rfl,rfl,rfl⟩
theorem Y0(l:List Nat)(i:Nat)(hl:l.length<=4294967296):aT prog [] 200 [.il 1 (bO l),.int .i64 i] (.int .i64 (l.getD i 0:Nat)):=by
 refine aD bE func200 rfl ?_;refine Rr ?_;rw[aS];refine aI (λhb=>?_) (λhb=>?_)
 .have hlt:i<l.length:=su hb
  obtain⟨d,hd⟩:∃d,l[i]? = some d:=⟨_,aAa hlt⟩
  have e1:=xS hd;refine Rr ?_;refine aB e1 ?_;refine Rr ?_;exact gM (r':=.int .i64 (l.getD i 0:Nat)) (.int (by rw[aAb,hd];rfl)) ⟨rfl,rfl,rfl⟩
 .have hge:l.length<=i:=by simp at hb;omega
  refine Rr ?_;exact gM (r':=.int .i64 (l.getD i 0:Nat)) (.int (by rw[aAb,aAs hge];rfl)) ⟨rfl,rfl,rfl⟩
theorem T6(neg:Bool)(m:Nat):sg neg m=0↔m=0:=by unfold sg;split<;>omega
theorem yT(l:List Nat)(d:Nat):bO (l++[d])=bO l++[.int .i64 (d:Int)]:=by rw[Ro];rfl
theorem nN(b:Bool):kZ [.agg [.bool b,.nsl]]:=.cons (.agg' (.cons (j9 _) (.cons .nsl .nil))) .nil
theorem TN(h:0<m):dg 10000 m=(m%10000)::dg 10000 (m/10000):=p5 hT h
theorem Tz(n:Int)(hn:i64 n):aT prog [] 66 [.int .i64 n] (eQ n):=by
 obtain⟨hn1,hn2⟩:=hn;have hlen:(dg 10000 n.natAbs).length<=5:=iR hT om;have hno:=qO (decide (n<0)) (dg 10000 n.natAbs) n.natAbs om (fZ hT _) (gO hT _);rw[HI] at hno;have hsg:=HI n;obtain⟨N,hN⟩:∃N,N=n.natAbs:=⟨_,rfl⟩
 have hNb:N<=9223372036854775808:=om;rw[<-hN] at hsg hno hlen;generalize hneg:decide (n<0)=neg at *;refine aD bE func66 rfl ?_;refine Rr ?_;rw[hneg];refine bA.ph 3 1 ?_;refine bA.at bE (λp:List Nat × Nat=>p.1++dg 10000 p.2=dg 10000 N/\p.2<=N)
  (λp=>⟨[(0,.int .i64 (sg neg p.2)),(2,.ptr 0 0 0),(3,.sl 1 0 p.1.length),(4,.bool neg)],[(0,.row 44 2 [.agg [.bool false,.nsl]]),(1,.row 3 1 (bO p.1))],2,25⟩)
  (λp=>p.2) ([],N) [(0,0),(1,1)] ⟨sq,sq⟩
  (aE _ rfl ⟨aL 0 (nN _),⟨1,_,rfl,rfl,.nil⟩,trivial⟩ ⟨⟨_,rfl,.int hsg.symm⟩,aF,⟨_,rfl,.nslk 1 1 _ rfl rfl⟩,aM (j9 _),trivial⟩) ?_
 rintro⟨s,m⟩ ⟨h1,h2⟩;simp only at h1 h2 |-;have hsl:s.length<=5:=by
  have:=congrArg List.length h1;rw[aAA] at this;omega
 by_cases hm:0<m
 .have hz:(sg neg m != 0)=true:=by
   have:sg neg m≠0:=λh=>by rw[T6] at h;omega
   simpa using this
  have hrem:(sg neg m).tmod 10000=sg neg (m%10000):=by
   unfold sg;split
   .rw[Int.neg_tmod];exact congrArg _ (x8 m 10000)
   .exact x8 m 10000
  have hquo:(sg neg m).tdiv 10000=sg neg (m/10000):=by
   unfold sg;split
   .rw[Int.neg_tdiv];exact congrArg _ (pX m 10000)
   .exact pX m 10000
  have hstep:=TN hm;have hsr:i64 (sg neg (m%10000)):=by unfold sg i64;split<;>omega
  have hsq:i64 (sg neg (m/10000)):=by unfold sg i64;split<;>omega
  have hw1:IntKind.i64.wrap ((sg neg m).tmod 10000)=sg neg (m%10000):=by rw[hrem,aV hsr]
  have hw2:IntKind.i64.wrap ((sg neg m).tdiv 10000)=sg neg (m/10000):=by rw[hquo,aV hsq]
  have key:∀(s':List Nat),s'=s++[m%10000]->s'++dg 10000 (m/10000)=dg 10000 N:=λs' h=>by
   rw[h,<-h1,hstep];simp
  have hget:∀(x:Int) (mm:aP),x=((m%10000:Nat):Int)->sH mm [(0,0),(3,1)] (bO s++[.int .i64 x]) (bO (s++[m%10000])):=λx mm h=>.eq (fE _) (by rw[h,yT])
  refine Rr ?_;rw[hz];refine Rr ?_;rw[hrem];refine aI (λhc=>?_) (λhc=>?_)
  .have hk:sg neg (m%10000)<0:=aAY hc;have hw3:IntKind.i64.wrap (0-sg neg (m%10000))=((m%10000:Nat):Int):=by
    revert hk
    unfold sg;split
    .intro _;rw[aV oq];omega
    .intro h;omega
   refine Rr ?_;refine aN (cD rfl rfl (by rw[aS]) (by simp;omega)) ?_;refine Rr ?_;exact .mk (s++[m%10000],m/10000) [(0,0),(3,1)] ⟨key _ rfl,by simp only;omega⟩
    (aE _ rfl ⟨aL 0 (nN _),⟨3,_,rfl,rfl,hget _ _ hw3⟩,trivial⟩ ⟨⟨_,rfl,.int hw2⟩,aF,⟨_,rfl,.slE rfl (by simp[aS])⟩,aM (j9 _),trivial⟩) (by simp only;omega)
  .have hk:¬sg neg (m%10000)<0:=aBA hc;have hw3:sg neg (m%10000)=((m%10000:Nat):Int):=by
    revert hk
    unfold sg;split<;>omega
   refine Rr ?_;refine aN (cD rfl rfl (by rw[aS]) (by simp;omega)) ?_;refine Rr ?_;exact .mk (s++[m%10000],m/10000) [(0,0),(3,1)] ⟨key _ rfl,by simp only;omega⟩
    (aE _ rfl ⟨aL 0 (nN _),⟨3,_,rfl,rfl,hget _ _ hw3⟩,trivial⟩ ⟨⟨_,rfl,.int hw2⟩,aF,⟨_,rfl,.slE rfl (by simp[aS])⟩,aM (j9 _),trivial⟩) (by simp only;omega)
 .have hm0:m=0:=om;subst hm0;have hz:(sg neg 0 != 0)=false:=by unfold sg;split<;>rfl
  rw[fL,aA3] at h1;rw[<-h1] at hno;have hen:=Iv n;rw[eR n] at hno hen |-;refine Rr ?_;rw[hz];refine Rr ?_;refine aH.pre bE [(0,0)] (mem':=[(0,.row 44 2 [.agg [.bool false,.nsl]])]) rfl ⟨aL 0 (nN _),trivial⟩
   (.cons (.same _ (j9 _)) (.cons (.fz' (id:=1) (off:=0) (ys:=bO s) rfl rfl (by rw[aS];omega) (by rw[aAJ,aAk (by rw[aS];omega)]) (fE _)) .nil)) ?_
  refine hno.go ?_ (.cons (j9 _) (.cons (tD _) .nil)) hen;refine Rt ?_;exact aA hen ⟨rfl,rfl,rfl⟩
theorem zG{l:List Nat}:vl 10000 (l.take (i+1))=vl 10000 (l.take i)+10000 ^ i*l.getD i 0:=by
 rcases aAr i l.length with h|h
 .have hg:l[i]? = some l[i]:=aAa h;rw[jZ hg,aAb,hg];rfl
 .rw[GV h,aAb,aAs h];simp
theorem Dy{l:List Nat}(h:∀d∈l,d<10000)(i:Nat):l.getD i 0<10000:=by
 rw[aAb];cases hg:l[i]? with
 | none=>simp
 | some d=>exact h _ (aAm hg)
theorem N1{s:List Nat}(hs:∀d∈s,d<10000)(hv:vl 10000 s=n)(hl:s.length=0\/10000 ^ (s.length-1)<=n):s=dg 10000 n:=by
 have h:=u0 hT s hs;rw[hv] at h;have h1:=kT (n:=n) hT;have h2:s.length<=(dg 10000 n).length:=by
  rcases hl with hl|hl
  .omega
  .have:=aCm hl h1;have:=(Nat.pow_lt_pow_iff_right (a:=10000) om).1 this;omega
 rw[h];unfold g6;rw[show s.length-(dg 10000 n).length=0 by omega];simp
theorem Xt(x y:Nat)(hx:(dg 10000 x).length<=1000000)(hy:(dg 10000 y).length<=1000000):aT prog [] 141 [.il 1 (bO (dg 10000 x)),.il 1 (bO (dg 10000 y))] (.il 1 (bO (dg 10000 (x+y)))):=by
 have hla:=fZ hT x;have hlb:=fZ hT y;have hva:=gO hT x;have hvb:=gO hT y;have hga:=J2 hT x;have hgb:=J2 hT y;have hza:(dg 10000 x).length=0\/0<x:=by
  rcases aAz x with h|h
  .left;rw[h,fL];rfl
  .exact .inr h
 have hzb:(dg 10000 y).length=0\/0<y:=by
  rcases aAz y with h|h
  .left;rw[h,fL];rfl
  .exact .inr h
 obtain⟨S,hS⟩:∃S,S=x+y:=⟨_,rfl⟩
 rw[<-hS];have hsum:vl 10000 (dg 10000 x)+vl 10000 (dg 10000 y)=S:=by rw[hva,hvb,hS]
 generalize dg 10000 x=a at *;generalize dg 10000 y=b at *;have ra:=λi=>Y0 a i om
 have rb:=λi=>Y0 b i om
 refine aD bE func141 rfl ?_;refine Rr ?_;refine bA.ph 3 1 ?_;refine bA.at bE (λp:List Nat × Nat=>(∀d∈p.1,d<10000)/\p.2<=1/\vl 10000 p.1+10000 ^ p.1.length*p.2=vl 10000 (a.take p.1.length)+vl 10000 (b.take p.1.length)/\p.1.length<=1000001/\(p.1.length=0\/10000 ^ (p.1.length-1)<=S)/\(a.length+1<=p.1.length/\b.length+1<=p.1.length->p.2=0))
  (λp=>⟨[(0,.il 1 (bO a)),(1,.il 1 (bO b)),(5,.sl 0 0 p.1.length),(6,.int .i64 p.2),(7,.int .i64 p.1.length)],[(0,.row 3 1 (bO p.1))],1,42⟩)
  (λp=>1000002-p.1.length) ([],0) [(0,0)] ⟨sq,sq,by simp[vl],sq,sq,sq⟩
  (aE _ rfl ⟨⟨0,_,rfl,rfl,.nil⟩,trivial⟩ ⟨aM (tD _),aM (tD _),⟨_,rfl,.nslk 0 0 _ rfl rfl⟩,aJ,aJ,trivial⟩) ?_
 rintro⟨s,c⟩ ⟨h1,h2,h3,h4,h5,h6⟩;simp only at h1 h2 h3 h4 h5 h6 |-;have ra:=ra s.length;have rb:=rb s.length;have hua:=Dy hla s.length;have hub:=Dy hlb s.length;have hta:=zG (l:=a) (i:=s.length);have htb:=zG (l:=b) (i:=s.length);have hstep:=wH (B:=10000) (by decide) (s:=s) (x:=a.getD s.length 0) (y:=b.getD s.length 0) rfl h3;rw[<-hta,<-htb] at hstep;have hua0:a.length<=s.length->a.getD s.length 0=0:=λh=>by rw[aAb,aAs h];rfl
 have hub0:b.length<=s.length->b.getD s.length 0=0:=λh=>by rw[aAb,aAs h];rfl
 generalize a.getD s.length 0=ua at *;generalize b.getD s.length 0=ub at *;have e1:IntKind.i64.wrap ((ua:Int)+(ub:Int))=((ua+ub:Nat):Int):=by rw[aV oq];omega
 have e2:IntKind.i64.wrap (((ua+ub:Nat):Int)+(c:Int))=((c+(ua+ub):Nat):Int):=by rw[aV oq];omega
 have e3:(((c+(ua+ub):Nat):Int)).tmod 10000=(((c+(ua+ub))%10000:Nat):Int):=x8 _ 10000;have e4:IntKind.i64.wrap ((((c+(ua+ub):Nat):Int)).tdiv 10000)=(((c+(ua+ub))/10000:Nat):Int):=by
  rw[show (((c+(ua+ub):Nat):Int)).tdiv 10000=(((c+(ua+ub))/10000:Nat):Int) from pX _ 10000,aV oq]
 have hmd:(c+(ua+ub))%10000<10000:=aBt _ (by decide);have hga0:a.length=0\/10000 ^ (a.length-1)<=x:=by rcases hza with h|h;exact .inl h;exact .inr (hga h)
 have hgb0:b.length=0\/10000 ^ (b.length-1)<=y:=by rcases hzb with h|h;exact .inl h;exact .inr (hgb h)
 have hpow:s.length<a.length\/s.length<b.length\/0<c->10000 ^ s.length<=S:=by
  rintro(h|h|h)
  .have:10000 ^ s.length<=10000 ^ (a.length-1):=aBf om om;omega
  .have:10000 ^ s.length<=10000 ^ (b.length-1):=aBf om om;omega
  .by_cases h7:s.length<a.length
   .have:10000 ^ s.length<=10000 ^ (a.length-1):=aBf om om;omega
   by_cases h8:s.length<b.length
   .have:10000 ^ s.length<=10000 ^ (b.length-1):=aBf om om;omega
   rw[aAk om,aAk om,show c=1 by omega] at h3;omega
 have hz7:a.length<=s.length/\b.length<=s.length->(c+(ua+ub))/10000=0:=λ⟨z1,z2⟩=>by have:=hua0 z1;have:=hub0 z2;omega
 rcases(show (¬s.length<a.length/\¬s.length<b.length/\c=0)\/s.length<a.length\/(¬s.length<a.length/\s.length<b.length)\/(¬s.length<a.length/\¬s.length<b.length/\0<c) by omega) with⟨q1,q2,q3⟩|q1|⟨q1,q2⟩|⟨q1,q2,q3⟩
 .rw[aAk om,aAk om,q3] at h3;have hsS:s=dg 10000 S:=N1 h1 om h5;refine Rr ?_;rw[aS,aAw (show ¬(s.length:Int)<(a.length:Int) by omega)];refine Rr ?_;rw[aS,aAw (show ¬(s.length:Int)<(b.length:Int) by omega)];refine Rr ?_;rw[q3];refine Rr ?_;exact aW (r':=.il 1 (bO (dg 10000 S))) (m':=[]) (n':=0) [] rfl trivial (.fzR rfl rfl (.eq (fE _) (by rw[hsS])) (by rw[aS,hsS])) ⟨rfl,rfl,rfl⟩
 all_goals have hp10:=hpow om
 all_goals refine Rr ?_
 all_goals rw[aS]
 all_goals (first|rw[aAn (show (s.length:Int)<(a.length:Int) by omega)]|rw[aAw (show ¬(s.length:Int)<(a.length:Int) by omega)])
 all_goals refine Rr ?_
 all_goals (first|(rw[aS,aAn (show (s.length:Int)<(b.length:Int) by omega)];refine Rr ?_)|(rw[aS,aAw (show ¬(s.length:Int)<(b.length:Int) by omega)];refine Rr ?_)|skip)
 all_goals (first|(rw[aAn (show (c:Int)>0 by omega)];refine Rr ?_)|skip)
 all_goals refine ra.go ?_ (.cons (tD _) (.cons nn .nil)) nn
 all_goals refine Rr ?_
 all_goals refine rb.go ?_ (.cons (tD _) (.cons nn .nil)) nn
 all_goals refine Rr ?_
 all_goals rw[e1,e2,e3]
 all_goals refine aN (cD rfl rfl (by rw[aS]) (by simp;omega)) ?_
 all_goals refine Rr ?_
 all_goals
  exact .mk (s++[(c+(ua+ub))%10000],(c+(ua+ub))/10000) [(2,0)] ⟨kE h1 hmd,by simp only;omega,by simp only[aAA,aA7];exact hstep,by simp;omega,.inr (su hp10),λh=>by simp at h;exact hz7 om⟩
   (aE _ rfl ⟨⟨2,_,rfl,rfl,.eq (fE _) (by rw[yT];rfl)⟩,trivial⟩ ⟨aM (tD _),aM (tD _),⟨_,rfl,.slE rfl (by simp[aS])⟩,⟨_,rfl,.int e4⟩,⟨_,rfl,.w64 sq ⟨by simp;omega,by simp;omega⟩⟩,trivial⟩) (by simp;omega)
theorem Ia(x y:Nat)(hxy:y<=x)(hx:(dg 10000 x).length<=1000000):aT prog [] 143 [.il 1 (bO (dg 10000 x)),.il 1 (bO (dg 10000 y))] (.il 1 (bO (g6 (dg 10000 (x-y)) (dg 10000 x).length))):=by
 have hla:=fZ hT x;have hlb:=fZ hT y;have hva:=gO hT x;have hvb:=gO hT y;have hlen:(dg 10000 y).length<=(dg 10000 x).length:=fJ hT hxy;obtain⟨S,hS⟩:∃S,S=x-y:=⟨_,rfl⟩
 rw[<-hS];have hsum:vl 10000 (dg 10000 x)=S+vl 10000 (dg 10000 y):=by rw[hva,hvb,hS];omega
 generalize dg 10000 x=a at *;generalize dg 10000 y=b at *;have ra:=λi=>Y0 a i om
 have rb:=λi=>Y0 b i om
 refine aD bE func143 rfl ?_;refine Rr ?_;refine bA.ph 3 1 ?_;refine bA.at bE (λp:List Nat × Nat=>(∀d∈p.1,d<10000)/\p.2<=1/\vl 10000 p.1+vl 10000 (b.take p.1.length)=vl 10000 (a.take p.1.length)+10000 ^ p.1.length*p.2/\p.1.length<=a.length)
  (λp=>⟨[(0,.il 1 (bO a)),(1,.il 1 (bO b)),(5,.sl 0 0 p.1.length),(6,.int .i64 p.2),(7,.int .i64 p.1.length)],[(0,.row 3 1 (bO p.1))],1,33⟩)
  (λp=>a.length-p.1.length) ([],0) [(0,0)] ⟨sq,sq,by simp[vl],sq⟩
  (aE _ rfl ⟨⟨0,_,rfl,rfl,.nil⟩,trivial⟩ ⟨aM (tD _),aM (tD _),⟨_,rfl,.nslk 0 0 _ rfl rfl⟩,aJ,aJ,trivial⟩) ?_
 rintro⟨s,c⟩ ⟨h1,h2,h3,h4⟩;simp only at h1 h2 h3 h4 |-;have ra:=ra s.length;have rb:=rb s.length;have hua:=Dy hla s.length;have hub:=Dy hlb s.length;have hta:=zG (l:=a) (i:=s.length);have htb:=zG (l:=b) (i:=s.length);have hstep:=E8 (B:=10000) (s:=s) (x:=a.getD s.length 0) (y:=b.getD s.length 0) rfl h3 hua hub h2;rw[<-hta,<-htb] at hstep;have hdl:=C1 (B:=10000) hua hub h2;generalize a.getD s.length 0=ua at *;generalize b.getD s.length 0=ub at *;refine Rr ?_;rw[aS];refine aI (λhb=>?_) (λhb=>?_)
 .have hlt:s.length<a.length:=su hb
  have e1:IntKind.i64.wrap ((ua:Int)-(ub:Int))=(ua:Int)-ub:=by rw[aV oq]
  have e2:IntKind.i64.wrap ((ua:Int)-ub-(c:Int))=(ua:Int)-ub-c:=by rw[aV oq]
  refine Rr ?_;refine ra.go ?_ (.cons (tD _) (.cons nn .nil)) nn;refine Rr ?_;refine rb.go ?_ (.cons (tD _) (.cons nn .nil)) nn;refine Rr ?_;rw[e1,e2];refine aI (λhc=>?_) (λhc=>?_)
  .have hc:(ua:Int)-ub-c<0:=su hc
   rw[aAh om] at hstep hdl;rw[aAh om] at hstep;have e3:IntKind.i64.wrap ((ua:Int)-ub-c+10000)=((ua+10000-(ub+c):Nat):Int):=by rw[aV oq];omega
   refine Rr ?_;rw[e3];refine aN (cD rfl rfl (by rw[aS]) (by simp;omega)) ?_;refine Rr ?_;exact .mk (s++[ua+10000-(ub+c)],1) [(2,0)] ⟨kE h1 hdl,sq,by simp only[aAA,aA7];exact hstep,by simp;omega⟩
    (aE _ rfl ⟨⟨2,_,rfl,rfl,.eq (fE _) (by rw[yT];rfl)⟩,trivial⟩ ⟨aM (tD _),aM (tD _),⟨_,rfl,.slE rfl (by simp[aS])⟩,aJ,⟨_,rfl,.w64 sq ⟨by simp;omega,by simp;omega⟩⟩,trivial⟩) (by simp;omega)
  .have hc:¬(ua:Int)-ub-c<0:=su hc
   rw[aAe om] at hstep hdl;rw[aAe om] at hstep;have e5:(ua:Int)-ub-c=((ua-(ub+c):Nat):Int):=om;refine Rr ?_;refine aN (cD rfl rfl (by rw[aS]) (by simp;omega)) ?_;refine Rr ?_;exact .mk (s++[ua-(ub+c)],0) [(2,0)] ⟨kE h1 hdl,sq,by simp only[aAA,aA7];exact hstep,by simp;omega⟩
    (aE _ rfl ⟨⟨2,_,rfl,rfl,.eq (fE _) (by rw[yT,<-e5];rfl)⟩,trivial⟩ ⟨aM (tD _),aM (tD _),⟨_,rfl,.slE rfl (by simp[aS])⟩,aJ,⟨_,rfl,.w64 sq ⟨by simp;omega,by simp;omega⟩⟩,trivial⟩) (by simp;omega)
 .have hge:s.length=a.length:=by simp at hb;omega
  have hlt:=Es hT s h1;rw[aAk om,aAk om,hsum] at h3;have hc0:c=0:=by
   rcases(show c=0\/c=1 by omega) with e|e
   .exact e
   .rw[e] at h3;omega
  rw[hc0] at h3;have hsS:s=g6 (dg 10000 S) a.length:=by
   have:=u0 hT s h1;rw[show vl 10000 s=S by omega,hge] at this;exact this
  rw[<-hsS];refine Rr ?_;exact aW (r':=.il 1 (bO s)) (m':=[]) (n':=0) [] rfl trivial (.fzR rfl rfl (.same (fE _)) (by rw[aS])) ⟨rfl,rfl,rfl⟩
theorem Z0(x y:Int)(h:decide (x<0)=decide (y<0)):sg (decide (x<0)) (x.natAbs+y.natAbs)=x+y:=by
 unfold sg;by_cases h1:x<0
 .have h2:y<0:=by rw[aAn h1] at h;exact aAY h.symm
  rw[aAh (aAn h1)];omega
 .have h2:¬y<0:=by rw[aAw h1] at h;exact aBA h.symm
  rw[aAe (su h1)];omega
theorem Zw(x y:Int)(h:decide (x<0)≠decide (y<0))(hl:y.natAbs<=x.natAbs):sg (decide (x<0)) (x.natAbs-y.natAbs)=x+y:=by
 unfold sg;by_cases h1:x<0<;>by_cases h2:y<0<;>simp[h1,h2] at h |- <;> omega
theorem kD:(∀d∈g6 (dg 10000 n) k,d<10000)/\vl 10000 (g6 (dg 10000 n) k)=n:=by
 refine⟨λd hd=>?_,by rw[Np,gO hT]⟩;rcases aAt.1 hd with h|h
 .exact fZ hT n d h
 .rw[aCg h];decide
theorem y9(h:(dg 10000 n).length<=k):(g6 (dg 10000 n) k).length=k:=mW h
theorem W3(x y:Int)(hx:(dg 10000 x.natAbs).length<=1000000)(hy:(dg 10000 y.natAbs).length<=1000000):aT prog [] 91 [eQ x,eQ y] (eQ (x+y)):=by
 have hp:=Xt x.natAbs y.natAbs hx hy;have hpl:=H0 hT x.natAbs y.natAbs;have hcm:=Gj x.natAbs y.natAbs om;have hnp:=qO (decide (x<0)) (dg 10000 (x.natAbs+y.natAbs)) _ om (fZ hT _) (gO hT _);have hen:=Iv (x+y);have hm1:y.natAbs<=x.natAbs->_:=λh=>Ia x.natAbs y.natAbs h hx
 have hm2:x.natAbs<=y.natAbs->_:=λh=>Ia y.natAbs x.natAbs h hy
 have hn1:=qO (decide (x<0)) (g6 (dg 10000 (x.natAbs-y.natAbs)) (dg 10000 x.natAbs).length) _ (by rw[y9 (BX hT _ _)];omega) kD.1 kD.2;have hn2:=qO (decide (y<0)) (g6 (dg 10000 (y.natAbs-x.natAbs)) (dg 10000 y.natAbs).length) _ (by rw[y9 (BX hT _ _)];omega) kD.1 kD.2;have s1:=Z0 x y;have s2:=Zw x y;have s3:=Zw y x;rw[eR (x+y)] at hen |-;have fin:∀z:Int,z=x+y->eQ z = .agg [.bool (decide (x+y<0)),.il 1 (bO (dg 10000 (x+y).natAbs))]:=λz h=>by rw[h];rfl
 rw[eR x,eR y];have hcj:mI (x.natAbs:Int) (y.natAbs:Int)<0↔x.natAbs<y.natAbs:=by unfold mI;split<;>(try split)<;>omega
 generalize mI (x.natAbs:Int) (y.natAbs:Int)=cj at *;generalize g6 (dg 10000 (x.natAbs-y.natAbs)) (dg 10000 x.natAbs).length=p1 at *;generalize g6 (dg 10000 (y.natAbs-x.natAbs)) (dg 10000 y.natAbs).length=p2 at *;generalize dg 10000 (x.natAbs+y.natAbs)=pl at *;generalize decide (x+y<0)=bz at *;generalize dg 10000 (x+y).natAbs=lz at *;generalize dg 10000 x.natAbs=lx at *;generalize dg 10000 y.natAbs=ly at *;generalize decide (x<0)=bx at *;generalize decide (y<0)=by_ at *;refine aD bE func91 rfl ?_;have same:bx=by_\/bx≠by_:=by cases bx<;>cases by_<;>simp
 rcases same with e|e
 .rw[fin _ (s1 e)] at hnp;have hb:(bx == by_)=true:=by rw[e];simp
  subst e;cases bx
  all_goals refine Rr ?_
  all_goals refine hp.go ?_ (.cons (tD _) (.cons (tD _) .nil)) (tD _)
  all_goals refine Rr ?_
  all_goals refine Rs ?_
  all_goals refine hnp.go ?_ (.cons (j9 _) (.cons (tD _) .nil)) hen
  all_goals refine Rr ?_
  all_goals refine Rs ?_
  all_goals exact aA hen ⟨rfl,rfl,rfl⟩
 .by_cases hlt:x.natAbs<y.natAbs
  .have hd:decide (cj<0)=true:=aAn (hcj.2 hlt);rw[fin _ ((s3 (Ne.symm e) om).trans (Int.add_comm _ _))] at hn2;have hm2:=hm2 om;cases bx<;>cases by_
   .exact absurd rfl e
   rotate_right
   .exact absurd rfl e
   all_goals refine Rr ?_
   all_goals refine hcm.go ?_ (.cons (tD _) (.cons (tD _) .nil)) nn
   all_goals refine Rr ?_
   all_goals rw[hd]
   all_goals refine Rr ?_
   all_goals refine hm2.go ?_ (.cons (tD _) (.cons (tD _) .nil)) (tD _)
   all_goals refine Rr ?_
   all_goals refine Rs ?_
   all_goals refine hn2.go ?_ (.cons (j9 _) (.cons (tD _) .nil)) hen
   all_goals refine Rr ?_
   all_goals refine Rs ?_
   all_goals exact aA hen ⟨rfl,rfl,rfl⟩
  .have hd:decide (cj<0)=false:=aAw (λh=>hlt (hcj.1 h));rw[fin _ (s2 e om)] at hn1;have hm1:=hm1 om;cases bx<;>cases by_
   .exact absurd rfl e
   rotate_right
   .exact absurd rfl e
   all_goals refine Rr ?_
   all_goals refine hcm.go ?_ (.cons (tD _) (.cons (tD _) .nil)) nn
   all_goals refine Rr ?_
   all_goals rw[hd]
   all_goals refine Rr ?_
   all_goals refine hm1.go ?_ (.cons (tD _) (.cons (tD _) .nil)) (tD _)
   all_goals refine Rr ?_
   all_goals refine Rs ?_
   all_goals refine hn1.go ?_ (.cons (j9 _) (.cons (tD _) .nil)) hen
   all_goals refine Rr ?_
   all_goals refine Rs ?_
   all_goals exact aA hen ⟨rfl,rfl,rfl⟩
theorem Yd{x y p c:Nat}(hx:x<10000)(hy:y<10000)(hp:p<10000)(hc:c<10000):x*y<=99980001/\(c+(x*y+p))/10000<10000:=by
 have h:x*y<=9999*9999:=aBn om om;refine⟨om, ?_⟩;rw[aBW om];omega
theorem Yh(x y:Int)(hx:(dg 10000 x.natAbs).length<=1000000)(hy:(dg 10000 y.natAbs).length<=1000000):aT prog [] 146 [eQ x,eQ y] (eQ (x*y)):=by
 have hla:=fZ hT x.natAbs;have hlb:=fZ hT y.natAbs;have hva:=gO hT x.natAbs;have hvb:=gO hT y.natAbs;have hz:=RG x y;have hen:=Iv (x*y);rw[eR x,eR y];generalize dg 10000 x.natAbs=a at *;generalize dg 10000 y.natAbs=b at *;have hno:∀P:List Nat,P.length=a.length+b.length->(∀d∈P,d<10000)->vl 10000 P=x.natAbs*y.natAbs->_:=λP h1 h2 h3=>qO (decide (x<0) != decide (y<0)) P _ om h2 h3
 rw[hz] at hno;generalize decide (x<0)=bx at *;generalize decide (y<0)=by_ at *;rw[eR (x*y)] at hen hno |-;generalize x.natAbs=X at *;generalize y.natAbs=Y at *;generalize decide (x*y<0)=bz at *;generalize dg 10000 (x*y).natAbs=lz at *;refine aD bE func146 rfl ?_;refine Rr ?_;rw[aS,aS];have hw:IntKind.i64.wrap ((a.length:Int)+(b.length:Int))=((a.length+b.length:Nat):Int):=by rw[aV oq];omega
 rw[hw];refine aN (C5 rfl rfl rfl om rfl) ?_;refine Rr ?_;refine bA.at bE (λp:Nat × List Nat=>p.1<=a.length/\p.2.length=a.length+b.length/\(∀d∈p.2,d<10000)/\vl 10000 p.2=vl 10000 (a.take p.1)*Y/\∀k,p.1+b.length<=k->k<a.length+b.length->p.2[k]? = some 0)
  (λp=>⟨[(2,.ptr 0 0 0),(3,.ptr 1 0 0),(4,.ptr 2 0 0),(5,.sl 3 0 (a.length+b.length)),(6,.int .i64 p.1)],[(0,.row 44 2 [.agg [.bool bx,.il 1 (bO a)]]),(1,.row 44 2 [.agg [.bool by_,.il 1 (bO b)]]),(2,.row 44 2 [.agg [.bool false,.nsl]]),(3,.row 3 1 (bO p.2))],4,76⟩)
  (λp=>a.length-p.1) (0,List.replicate (a.length+b.length) 0) [(0,0),(1,1),(2,2),(3,3)] ⟨sq,sq,sq,by simp only;rw[Ba];simp[vl],λk h1 h2=>by simp only;rw[aBr,aAh h2]⟩
  (aE _ rfl ⟨aL 0 (.cons (gE _ _) .nil),aL 1 (.cons (gE _ _) .nil),aL 2 (nN _),⟨3,_,rfl,rfl,.eq (fE _) (by rw[EQ,aAc])⟩,trivial⟩
   ⟨aF,aF,aF,⟨_,rfl,.slE rfl (aAc _)⟩,aJ,trivial⟩) ?_
 rintro⟨i,P⟩ ⟨h1,h2,h3,h4,h5⟩;simp only at h1 h2 h3 h4 h5 |-;refine Rr ?_;rw[aS];refine aI (λhb=>?_) (λhb=>?_)
 .have hlt:i<a.length:=su hb
  obtain⟨u,hu⟩:∃u,a[i]? = some u:=⟨_,aAa hlt⟩
  have hul:=hla _ (aAm hu);have g1:=xS hu;refine Rr ?_;refine bA.at bE (λp:Nat × List Nat × Nat=>p.1<=b.length/\p.2.1.length=a.length+b.length/\(∀d∈p.2.1,d<10000)/\p.2.2<10000 /\
    vl 10000 p.2.1+10000 ^ (i+p.1)*p.2.2=vl 10000 (a.take i)*Y+u*(10000 ^ i*vl 10000 (b.take p.1))/\∀k,i+b.length<=k->k<a.length+b.length->p.2.1[k]? = some 0)
   (λp=>⟨[(2,.ptr 0 0 0),(3,.ptr 1 0 0),(4,.ptr 2 0 0),(5,.sl 3 0 (a.length+b.length)),(6,.int .i64 i),(7,.int .i64 p.2.2),(8,.int .i64 p.1)],[(0,.row 44 2 [.agg [.bool bx,.il 1 (bO a)]]),(1,.row 44 2 [.agg [.bool by_,.il 1 (bO b)]]),(2,.row 44 2 [.agg [.bool false,.nsl]]),(3,.row 3 1 (bO p.2.1))],4,76⟩)
   (λp=>b.length-p.1) (0,P,0) [(0,0),(1,1),(2,2),(3,3)] ⟨sq,h2,h3,sq,by simp only;rw[h4];simp[vl],h5⟩
   (aE _ rfl ⟨aL 0 (.cons (gE _ _) .nil),aL 1 (.cons (gE _ _) .nil),aL 2 (nN _),aL 3 (fE _),trivial⟩
    ⟨aF,aF,aF,⟨_,rfl,.slE rfl rfl⟩,aJ,aJ,aJ,trivial⟩) ?_
  rintro⟨j,Q,c⟩ ⟨h0,k2,k3,hc,k4,k5⟩;simp only at h0 k2 k3 hc k4 k5 |-;refine Rr ?_;rw[aS];refine aI (λhb=>?_) (λhb=>?_)
  .have hlt2:j<b.length:=su hb
   obtain⟨v,hv⟩:∃v,b[j]? = some v:=⟨_,aAa hlt2⟩
   obtain⟨p,hp⟩:∃p,Q[i+j]? = some p:=⟨_,aAa om⟩
   have hvl:=hlb _ (aAm hv);have hpl:=k3 _ (aAm hp);have g2:=xS hv;have g3:=Qk hp;have bi:=sC (i:=i+j) (n:=a.length+b.length) om;obtain⟨q1,q4⟩:=Yd hul hvl hpl hc;have e3:IntKind.i64.wrap ((u:Int)*(v:Int))=((u*v:Nat):Int):=by rw[<-Int.natCast_mul,aV oq]
   have e4:IntKind.i64.wrap ((i:Int)+(j:Int))=((i+j:Nat):Int):=by rw[aV oq];omega
   have e6:IntKind.i64.wrap ((p:Int)+((u*v:Nat):Int))=((u*v+p:Nat):Int):=by rw[aV oq];omega
   have e7:IntKind.i64.wrap (((u*v+p:Nat):Int)+(c:Int))=((c+(u*v+p):Nat):Int):=by rw[aV oq];omega
   have e8:(((c+(u*v+p):Nat):Int)).tmod 10000=(((c+(u*v+p))%10000:Nat):Int):=x8 _ 10000;have e9:IntKind.i64.wrap ((((c+(u*v+p):Nat):Int)).tdiv 10000)=(((c+(u*v+p))/10000:Nat):Int):=by
    rw[show (((c+(u*v+p):Nat):Int)).tdiv 10000=(((c+(u*v+p))/10000:Nat):Int) from pX _ 10000,aV oq]
   have hms:=Ji (B:=10000) hp k4 (y:=v);have hmd:(c+(u*v+p))%10000<10000:=aBt _ (by decide);refine Rr ?_;rw[e4];refine Rt ?_;repeat((first|refine aN bi ?_|refine aB g3 ?_|refine aB g1 ?_|refine aB g2 ?_);refine Rt ?_)
   rw[e3,e6,e7];refine Rs ?_;repeat((first|rw[e4]|refine aN bi ?_|refine aB g3 ?_);refine Rt ?_)
   exact .mk (j+1,Q.set (i+j) ((c+(u*v+p))%10000),(c+(u*v+p))/10000) [(0,0),(1,1),(2,2),(3,3)]
    ⟨by simp only;omega,by simp only[aB3];exact k2,IB k3 hmd,q4,by
      simp only;rw[jZ hv,Nat.mul_add (10000 ^ i),<-Nat.mul_assoc (10000 ^ i) (10000 ^ j),<-Nat.pow_add];exact hms,λk z1 z2=>by simp only;rw[uU om];exact k5 k z1 z2⟩
    (aE _ rfl ⟨aL 0 (.cons (gE _ _) .nil),aL 1 (.cons (gE _ _) .nil),aL 2 (nN _),⟨3,_,rfl,rfl,.eq (fE _) (by rw[e8,aAc,aAF,Fm])⟩,trivial⟩
     ⟨aF,aF,aF,⟨_,rfl,.slE rfl rfl⟩,aJ,⟨_,rfl,.int e9⟩,⟨_,rfl,.w64 sq ⟨by simp only;omega,by simp only;omega⟩⟩,trivial⟩) (by simp only;omega)
  .have hj:j=b.length:=by simp at hb;omega
   subst hj;rw[aAD,hvb] at k4;have e4:IntKind.i64.wrap ((i:Int)+(b.length:Int))=((i+b.length:Nat):Int):=by rw[aV oq];omega
   have hp:=k5 (i+b.length) om om;have g3:=Qk hp;have bi:=sC (i:=i+b.length) (n:=a.length+b.length) om;have hvs:=IW 10000 Q (i+b.length) c 0 hp;refine Rr ?_;rw[aS,e4];refine Rs ?_;repeat((first|refine aN bi ?_|refine aB g3 ?_);refine Rt ?_)
   exact .mk (i+1,Q.set (i+b.length) c) [(0,0),(1,1),(2,2),(3,3)]
    ⟨by simp only;omega,by simp only[aB3];exact k2,IB k3 hc,by
      simp only;rw[jZ hu,Nat.add_mul,Nat.mul_assoc (10000 ^ i),aCI (10000 ^ i),<-k4];omega,λk z1 z2=>by simp only;rw[uU om];exact k5 k om z2⟩
    (aE _ rfl ⟨aL 0 (.cons (gE _ _) .nil),aL 1 (.cons (gE _ _) .nil),aL 2 (nN _),⟨3,_,rfl,rfl,.eq (fE _) (by rw[aAc,aAF,Fm])⟩,trivial⟩
     ⟨aF,aF,aF,⟨_,rfl,.slE rfl rfl⟩,⟨_,rfl,.w64 sq ⟨by simp only;omega,by simp only;omega⟩⟩,trivial⟩) (by simp only;omega)
 .have hi:i=a.length:=by simp at hb;omega
  subst hi;rw[aAD,hva] at h4;have hno:=hno P h2 h3 h4;refine Rr ?_;refine aH.pre bE [(0,0),(1,1),(2,2)] (mem':=[(0,.row 44 2 [.agg [.bool bx,.il 1 (bO a)]]),(1,.row 44 2 [.agg [.bool by_,.il 1 (bO b)]]),(2,.row 44 2 [.agg [.bool false,.nsl]])]) rfl
   ⟨aL 0 (.cons (gE _ _) .nil),aL 1 (.cons (gE _ _) .nil),aL 2 (nN _),trivial⟩
   (.cons (.same _ (j9 _)) (.cons (.fz' (id:=3) (ys:=bO P) rfl rfl (by rw[aS,h2];omega) (by rw[aAJ,aAk (by rw[aS,h2];omega)]) (fE _)) .nil)) ?_
  refine hno.go ?_ (.cons (j9 _) (.cons (tD _) .nil)) hen;refine Rt ?_;exact aA hen ⟨rfl,rfl,rfl⟩
theorem Wm(x k:Nat)(hx:(dg 10000 x).length<=1000000)(hk:k<10000):aT prog [] 240 [.il 1 (bO (dg 10000 x)),.int .i64 k] (.il 1 (bO (dg 10000 (x*k)))):=by
 have h1:=Tz (k:Int) oq;have hk1:(dg 10000 (k:Int).natAbs).length<=1:=iR hT (by rw[aBd];omega);have h2:=Yh (x:Int) (k:Int) (by rw[aBd];exact hx) om;have n0:∀n:Nat,decide ((n:Int)<0)=false:=λn=>aAw om
 rw[eR (k:Int)] at h1 h2;rw[<-Int.natCast_mul,eR ((x*k:Nat):Int),eR (x:Int)] at h2;simp only[aBd,n0] at h1 h2;generalize dg 10000 k=lk at *;generalize dg 10000 x=a at *;generalize dg 10000 (x*k)=z at *;refine aD bE func240 rfl ?_;refine Rr ?_;refine h1.go ?_ (.cons nn .nil) (gE _ _);refine Rr ?_;refine h2.go ?_ (.cons (gE _ _) (.cons (gE _ _) .nil)) (gE _ _);refine Rt ?_;exact aA (tD _) ⟨rfl,rfl,rfl⟩
theorem MX(l:List Nat)(i:Int)(hl:l.length<=4294967296):aT prog [] 256 [.il 1 (bO l),.int .i64 i] (.int .i64 (Ay l i:Nat)):=by
 refine aD bE func256 rfl ?_;by_cases h0:i<0
 .refine Rr ?_;rw[aAn h0];refine Rr ?_;exact gM (r':=.int .i64 (Ay l i:Nat)) (.int (by unfold Ay;rw[aAh h0];rfl)) ⟨rfl,rfl,rfl⟩
 .obtain⟨n,rfl⟩:∃n:Nat,i=n:=⟨i.toNat,om⟩
  rw[Nq];refine Rr ?_;rw[aAw h0];refine Rr ?_;rw[aS];refine aI (λhb=>?_) (λhb=>?_)
  .have hge:l.length<=n:=su hb
   refine Rr ?_;exact gM (r':=.int .i64 (l.getD n 0:Nat)) (.int (by rw[aAb,aAs hge];rfl)) ⟨rfl,rfl,rfl⟩
  .have hlt:n<l.length:=su hb
   obtain⟨d,hd⟩:∃d,l[n]? = some d:=⟨_,aAa hlt⟩
   have e1:=xS hd;refine Rr ?_;refine aB e1 ?_;refine Rr ?_;exact gM (r':=.int .i64 (l.getD n 0:Nat)) (.int (by rw[aAb,hd];rfl)) ⟨rfl,rfl,rfl⟩
theorem Yg(a b:Nat):(if (b:Int)<(a:Int) then(b:Int) else(a:Int))=((min a b:Nat):Int):=by
 by_cases h:(b:Int)<a
 .rw[aAh h,Nat.min_eq_right om]
 .rw[aAe h,aBN om]
theorem Wr(r b:List Nat)(hr:∀d∈r,d<10000)(hb:∀d∈b,d<10000)(hrl:r.length<=1000000)(hbl:b.length<=1000000)(htop:0<Ay b ((b.length:Int)-1)) :
  aT prog [] 239 [.il 1 (bO r),.il 1 (bO b)] (.tup [.int .i64 ((I0 r b).1:Nat),.int .i64 ((I0 r b).2:Nat)]):=by
 have dr:=λi=>MX r i om
 have db:=λi=>MX b i om
 have lr:=λi=>Sf (show 0<10000 by omega) hr i
 have lb:=λi=>Sf (show 0<10000 by omega) hb i
 have hU:MZ r b=10000*(10000*Ay r (b.length:Int)+Ay r ((b.length:Int)-1))+Ay r ((b.length:Int)-2):=rfl;have hL:I5 b=10000*Ay b ((b.length:Int)-1)+Ay b ((b.length:Int)-2):=rfl;have hR:(if r.length<b.length\/b.length=0 then(0,0) else(min 9999 (MZ r b/(I5 b+1)),min 9999 (MZ r b/I5 b)))=I0 r b:=rfl;have d1:=dr (b.length:Int);have d2:=dr ((b.length:Int)-1);have d3:=dr ((b.length:Int)-2);have d4:=db ((b.length:Int)-1);have d5:=db ((b.length:Int)-2);have l1:=lr (b.length:Int);have l2:=lr ((b.length:Int)-1);have l3:=lr ((b.length:Int)-2);have l4:=lb ((b.length:Int)-1);have l5:=lb ((b.length:Int)-2);generalize Ay r (b.length:Int)=u1 at *;generalize Ay r ((b.length:Int)-1)=u2 at *;generalize Ay r ((b.length:Int)-2)=u3 at *;generalize Ay b ((b.length:Int)-1)=v1 at *;generalize Ay b ((b.length:Int)-2)=v2 at *;have hUl:MZ r b<1000000000000:=om;have hLl:I5 b<100000000:=om;have hL0:0<I5 b:=om;have w1:IntKind.i64.wrap ((b.length:Int)-1)=(b.length:Int)-1:=aV oq;have w2:IntKind.i64.wrap ((b.length:Int)-2)=(b.length:Int)-2:=aV oq;have w3:IntKind.i64.wrap (10000*(u1:Int))=((10000*u1:Nat):Int):=by rw[aV oq];omega
 have w4:IntKind.i64.wrap (((10000*u1:Nat):Int)+(u2:Int))=((10000*u1+u2:Nat):Int):=by rw[aV oq];omega
 have w5:IntKind.i64.wrap (10000*((10000*u1+u2:Nat):Int))=((10000*(10000*u1+u2):Nat):Int):=by rw[aV oq];omega
 have w6:IntKind.i64.wrap (((10000*(10000*u1+u2):Nat):Int)+(u3:Int))=((MZ r b:Nat):Int):=by rw[aV oq];omega
 have w7:IntKind.i64.wrap (10000*(v1:Int))=((10000*v1:Nat):Int):=by rw[aV oq];omega
 have w8:IntKind.i64.wrap (((10000*v1:Nat):Int)+(v2:Int))=((I5 b:Nat):Int):=by rw[aV oq];omega
 generalize MZ r b=U at *;generalize I5 b=L at *;have hq1:U/(L+1)<=U:=aCT _ _;have hq2:U/L<=U:=aCT _ _;have w9:IntKind.i64.wrap ((L:Int)+1)=((L+1:Nat):Int):=by rw[aV oq];omega
 have w10:=pX U (L+1);have w11:=pX U L;generalize U/(L+1)=Q1 at *;generalize U/L=Q2 at *;have w12:IntKind.i64.wrap (Q1:Int)=(Q1:Int):=aV oq;have w13:IntKind.i64.wrap (Q2:Int)=(Q2:Int):=aV oq;have z1:(!decide (((L+1:Nat):Int)=0))=true:=by rw[aAw om];rfl
 have z2:(!decide ((L:Int)=0))=true:=by rw[aAw om];rfl
 refine aD bE func239 rfl ?_;by_cases hlt:r.length<b.length
 .rw[aAh (.inl hlt)] at hR;rw[<-hR];refine Rr ?_;rw[aS,aS,aAn om];refine Rr ?_;exact aA (.tup' (.cons nn (.cons nn .nil))) ⟨rfl,rfl,rfl⟩
 .by_cases hb0:b.length=0
  .rw[aAh (.inr hb0)] at hR;rw[<-hR];have hz:((b.length:Int) == 0)=true:=by rw[hb0];rfl
   refine Rr ?_;rw[aS,aS,aAw om];refine Rr ?_;rw[hz];refine Rr ?_;exact aA (.tup' (.cons nn (.cons nn .nil))) ⟨rfl,rfl,rfl⟩
  .rw[aAe om] at hR;rw[<-hR];have hz:((b.length:Int) == 0)=false:=by simp;intro h;exact hb0 (by rw[h];rfl)
   refine Rr ?_;rw[aS,aS,aAw om];refine Rr ?_;rw[hz];refine Rr ?_;refine d1.go ?_ (.cons (tD _) (.cons nn .nil)) nn;refine Rr ?_;rw[w1];refine d2.go ?_ (.cons (tD _) (.cons nn .nil)) nn;refine Rr ?_;rw[w2];refine d3.go ?_ (.cons (tD _) (.cons nn .nil)) nn;refine Rr ?_;rw[w1];refine d4.go ?_ (.cons (tD _) (.cons nn .nil)) nn;refine Rr ?_;rw[w2];refine d5.go ?_ (.cons (tD _) (.cons nn .nil)) nn;refine Rr ?_;rw[w3,w4,w5,w6,w7,w8,w9,z1];refine Rr ?_;rw[w10,w12];refine Rs ?_;rw[z2];refine Rr ?_;rw[w11,w13];refine Rs ?_;exact gM (r':=.tup [.int .i64 ((min 9999 Q1:Nat):Int),.int .i64 ((min 9999 Q2:Nat):Int)]) (.tup' (.cons (.int (Yg 9999 Q1)) (.cons (.int (Yg 9999 Q2)) .nil))) ⟨rfl,rfl,rfl⟩
theorem Aa(l:List Nat)(n:Nat)(hl:l.length<=4294967296)(hd:∀d∈l,d<10000)(hv:vl 10000 l=n):aT prog [] 121 [.bool false,.il 1 (bO l)] (.agg [.bool false,.il 1 (bO (dg 10000 n))]):=qO false l n hl hd hv
theorem P6(la lb:Nat)(h:1<=lb):(if (if (la:Int)-lb+1<la then(la:Int)-lb+1 else la)>(0:Int) then(if (la:Int)-lb+1<la then(la:Int)-lb+1 else la) else 0)=((la+1-lb:Nat):Int):=by
 split<;>split<;>omega
theorem WM(h:j<=n):(Nat.ble ((j:Nat):Int).toNat n && (Nat.ble n n && Nat.ble n n))=true:=by
 rw[aAc,aAf h,aAf (aAp _)];rfl
theorem Jf{l:List Nat}{f:Nat}:List.take (l.length-((f:Nat):Int).toNat) (List.drop ((f:Nat):Int).toNat (bO l))=bO (l.drop f):=by
 rw[aAc,Oz,aAk (by rw[aS,aBw];omega)]
theorem GP{R:List Nat}:(bO (tJ (i+1) R)).set (0+((i:Nat):Int).toNat) (.int .i64 (d:Int))=bO (tJ i (d::R)):=by
 rw[aAc,aAF,Fm,Kx]
theorem SZ(x y:Nat)(hy:0<y)(hx:(dg 10000 x).length<=900000)(hyl:(dg 10000 y).length<=900000) :
  aH prog [] 201 [.il 1 (bO (dg 10000 x)),.il 1 (bO (dg 10000 y))] [] 0 λr m n=>
   ∃Q:List Nat,r = .tup [.il 1 (bO Q),.il 1 (bO (dg 10000 (x%y)))]/\m=[]/\n=0/\Q.length=(dg 10000 x).length/\(∀d∈Q,d<10000)/\vl 10000 Q=x/y:=by
 have hla:=fZ hT x;have hlb:=fZ hT y;have hva:=gO hT x;have hb1:1<=(dg 10000 y).length:=by rw[p5 hT hy];simp
 have htop:=Qj hT hy;have hyb:=J2 hT y hy;have hxy:(dg 10000 x).length<(dg 10000 y).length->x<y:=qX hT;have rdig:∀r:Nat,r<y*10000->_:=λr h=>Wr (dg 10000 r) (dg 10000 y) (fZ hT r) hlb (by
  have:=fJ hT (aDd h);have:=Dz hT y 10000;have:(dg 10000 10000).length<=2:=iR hT (by decide);omega) om htop
 have rsm:∀k:Nat,k<10000->_:=λk h=>Wm y k om h
 have rcm:∀k r:Nat,k<10000->_:=λk r h=>Gj (y*k) r (by
  have:=Dz hT y k;have:(dg 10000 k).length<=1:=Hb hT h;omega)
 have dok:∀r:Nat,r<y*10000->_:=λr h=>Uk hy h
 have hrl:∀r:Nat,r<y*10000->(dg 10000 r).length<=900002:=λr h=>by
  have:=fJ hT (aDd h);have:=Dz hT y 10000;have:(dg 10000 10000).length<=2:=iR hT (by decide);omega
 have rmi:∀r k:Nat,r<y*10000->y*k<=r->_:=λr k h h2=>Ia r (y*k) h2 (by have:=hrl r h;omega)
 generalize dg 10000 x=a at *;generalize hbd:dg 10000 y=b at *;obtain⟨f,hf⟩:∃f,f=a.length+1-b.length:=⟨_,rfl⟩
 have hfl:f<=a.length:=om;have hR0:vl 10000 (a.drop f)<y:=by
  rcases aAz f with e|e
  .rw[e,aAJ,hva];exact hxy om
  .have h1:=Es hT (a.drop f) λd h=>hla d (aAX h)
   rw[aBw,show a.length-f=b.length-1 by omega] at h1;omega
 have hdrop:∀d∈a.drop f,d<10000:=λd h=>hla d (aAX h)
 have hno0:=Aa (a.drop f) _ (by rw[aBw];omega) hdrop rfl;refine aD bE func201 rfl ?_;refine Rr ?_;rw[aS];refine aN (C5 rfl rfl rfl om rfl) ?_;refine Rr ?_;rw[aS,aS];have w1:IntKind.i64.wrap ((a.length:Int)-b.length)=(a.length:Int)-b.length:=aV oq;have w2:IntKind.i64.wrap ((a.length:Int)-b.length+1)=(a.length:Int)-b.length+1:=aV oq;rw[w1,w2];have hfe:=P6 a.length b.length hb1;rw[<-hf] at hfe;rw[hfe,aAn (show (0:Int)<=(f:Int) by omega)];refine Rr ?_;refine aN (WM hfl) ?_;refine Rr ?_;rw[Jf];refine hno0.go ?_ (.cons (j9 _) (.cons (tD _) .nil)) (gE _ _);refine Rt ?_;refine bA.at bE (λp:Nat × List Nat × Nat=>p.1<=f/\p.2.1.length=a.length-p.1/\(∀d∈p.2.1,d<10000)/\p.2.2<y/\vl 10000 (a.drop p.1)=vl 10000 p.2.1*y+p.2.2)
  (λp=>⟨[(0,.il 1 (bO a)),(1,.il 1 (bO b)),(6,.sl 0 0 a.length),(9,.il 1 (bO (dg 10000 p.2.2))),(10,.int .i64 ((p.1:Int)-1))],[(0,.row 3 1 (bO (tJ p.1 p.2.1)))],1,88⟩)
  (λp=>p.1) (f,List.replicate (a.length-f) 0,vl 10000 (a.drop f)) [(0,0)] ⟨aAp _,sq,by intro d hd;simp only at hd;rw[aCg hd];decide,hR0,by simp only;rw[Ba];simp⟩
  (aE _ rfl ⟨⟨0,_,rfl,rfl,.eq (fE _) (by
    rw[show bO (tJ f (List.replicate (a.length-f) 0))=bO (List.replicate a.length 0) by
     unfold tJ;rw[List.replicate_append_replicate];congr 2;omega]
    rw[EQ,aAc])⟩,trivial⟩
   ⟨aM (tD _),aM (tD _),⟨_,rfl,.slE rfl (aAc _)⟩,aM (tD _),⟨_,rfl,.w64 rfl ⟨by simp only;omega,by simp only;omega⟩⟩,trivial⟩) ?_
 clear hR0 hno0;rintro⟨m,R,r⟩ ⟨h1,h2,h3,h4,h5⟩;simp only at h1 h2 h3 h4 h5 |-;refine Rr ?_;refine aI (λhb=>?_) (λhb=>?_)
 .have hm1:0<m:=by simp at hb;omega
  obtain⟨i,rfl⟩:∃i,m=i+1:=⟨m-1,om⟩
  rw[show (((i+1:Nat):Int)-1)=(i:Int) by omega];obtain⟨u,hu⟩:∃u,a[i]? = some u:=⟨_,aAa om⟩
  have hul:=hla _ (aAm hu);have g1:=xS hu;obtain⟨s1,s2,s3⟩:=Nz hy h5 h4 hul;rw[<-qL hu] at s1;have hrlen:(dg 10000 r).length<=900002:=hrl r om;have hdr:∀d∈u::dg 10000 r,d<10000:=λd hd=>by
   rcases aAj.1 hd with h|h
   .rw[h];exact hul
   .exact fZ hT r d h
  have hno1:=Aa (u::dg 10000 r) (u+10000*r) (by simp;omega) hdr (by rw[vl,gO hT]);obtain⟨r1,hr1⟩:∃r1,r1=u+10000*r:=⟨_,rfl⟩
  rw[<-hr1] at hno1 s1 s2 s3;have rdig:=rdig r1 s3;obtain⟨dk1,dk2,dk3⟩:=dok r1 s3;generalize (I0 (dg 10000 r1) b).1=lo0 at *;generalize (I0 (dg 10000 r1) b).2=hi0 at *;have hrl1:=hrl r1 s3;have rcm:=λk=>rcm k r1
  have rmi:=λk=>rmi r1 k s3
  have hq9:r1/y<10000:=om;have hcons:bO (u::dg 10000 r)=[AV.int .i64 (u:Int)]++bO (dg 10000 r):=rfl;refine Rr ?_;refine aB g1 ?_;refine Rr ?_;refine aN (cD rfl rfl rfl (by rw[aS];omega)) ?_;refine Rr ?_;refine aH.pre bE [(0,0)] (mem':=[(0,.row 3 1 (bO (tJ (i+1) R)))]) rfl ⟨aL 0 (fE _),trivial⟩
   (.cons (.same _ (j9 _)) (.cons (.fz' (id:=2) (off:=0) (ys:=bO (u::dg 10000 r)) rfl rfl (by simp[aS];omega) (by
    rw[aAJ,aAk (by simp[aS];omega)];rfl) (fE _)) .nil)) ?_
  refine hno1.go ?_ (.cons (j9 _) (.cons (tD _) .nil)) (gE _ _);refine Rt ?_;refine rdig.go ?_ (.cons (tD _) (.cons (tD _) .nil)) nn;refine Rr ?_;refine bA.at bE (λp:Nat × Nat=>p.1<=r1/y/\r1/y<=p.2/\p.2<=9999)
   (λp=>⟨[(0,.il 1 (bO a)),(1,.il 1 (bO b)),(6,.sl 0 0 a.length),(9,.il 1 (bO (dg 10000 r1))),(10,.int .i64 i),(12,.int .i64 p.1),(13,.int .i64 p.2)],[(0,.row 3 1 (bO (tJ (i+1) R)))],1,88⟩)
   (λp=>p.2-p.1) (lo0,hi0) [(0,0)] ⟨dk1,dk2,dk3⟩
   (aE _ rfl ⟨aL 0 (fE _),trivial⟩
    ⟨aM (tD _),aM (tD _),⟨_,rfl,.slE rfl rfl⟩,aM (tD _),aJ,aJ,aJ,trivial⟩) ?_
  clear dk1 dk2 dk3;rintro⟨lo,hi⟩ ⟨k1,k2,k3⟩;simp only at k1 k2 k3 |-;refine Rr ?_;refine aI (λhc=>?_) (λhc=>?_)
  .have hlh:lo<hi:=su hc
   have w3:IntKind.i64.wrap ((lo:Int)+(hi:Int))=((lo+hi:Nat):Int):=by rw[aV oq];omega
   have w4:IntKind.i64.wrap (((lo+hi:Nat):Int)+1)=((lo+hi+1:Nat):Int):=by rw[aV oq];omega
   have w5:IntKind.i64.wrap ((((lo+hi+1:Nat):Int)).tdiv 2)=(((lo+hi+1)/2:Nat):Int):=by
    rw[show (((lo+hi+1:Nat):Int)).tdiv 2=(((lo+hi+1)/2:Nat):Int) from pX _ 2,aV oq]
   have hmid:(lo+hi+1)/2<10000/\lo<(lo+hi+1)/2/\(lo+hi+1)/2<=hi:=om;obtain⟨hm1,hm2,hm3⟩:=hmid;refine Rr ?_;rw[w3,w4,w5];generalize (lo+hi+1)/2=mid at *;have hmy:mid<=r1/y↔y*mid<=r1:=by rw[aCb hy,aBg]
   have hcj:mI ((y*mid:Nat):Int) (r1:Int)<=0↔y*mid<=r1:=by unfold mI;split<;>(try split)<;>omega
   have rcm:=rcm mid hm1;have rsm:=rsm mid hm1;generalize mI ((y*mid:Nat):Int) (r1:Int)=cj at *;generalize dg 10000 (y*mid)=ym at *;refine rsm.go ?_ (.cons (tD _) (.cons nn .nil)) (tD _);refine Rr ?_;refine rcm.go ?_ (.cons (tD _) (.cons (tD _) .nil)) nn;refine Rr ?_;refine aI (λhc=>?_) (λhc=>?_)
   .have hc:=hmy.2 (hcj.1 (aAY hc));refine Rr ?_;exact .mk (mid,hi) [(0,0)] ⟨hc,k2,k3⟩
     (aE _ rfl ⟨aL 0 (fE _),trivial⟩
      ⟨aM (tD _),aM (tD _),⟨_,rfl,.slE rfl rfl⟩,aM (tD _),aJ,aJ,aJ,trivial⟩) (by simp only;omega)
   .have hc:¬mid<=r1/y:=λh=>aBA hc (hcj.2 (hmy.1 h))
    refine Rr ?_;exact .mk (lo,mid-1) [(0,0)] ⟨k1,by simp only;omega,by simp only;omega⟩
     (aE _ rfl ⟨aL 0 (fE _),trivial⟩
      ⟨aM (tD _),aM (tD _),⟨_,rfl,.slE rfl rfl⟩,aM (tD _),aJ,aJ,⟨_,rfl,.wp⟩,trivial⟩) (by simp only;omega)
  .have hlh:lo=r1/y:=by simp at hc;omega
   rw[hlh];have rsm:=rsm (r1/y) hq9;have hyq:y*(r1/y)<=r1:=Nat.mul_div_le _ _;have rmi:=rmi (r1/y) hyq;have hmd:r1-y*(r1/y)=r1%y:=by have:=aCx r1 y;omega
   rw[hmd] at rmi;have hno2:=Aa (g6 (dg 10000 (r1%y)) (dg 10000 r1).length) _ (by rw[y9 (fJ hT (Nat.mod_le _ _))];omega) kD.1 kD.2;have g3:(bO (tJ (i+1) R))[0+((i:Nat):Int).toNat]? = some (.int .i64 0):=Qk KF;have bi:=sC (i:=i) (n:=a.length) om;generalize dg 10000 (y*(r1/y))=ym at *;generalize g6 (dg 10000 (r1%y)) (dg 10000 r1).length=pq at *;refine Rr ?_;refine rsm.go ?_ (.cons (tD _) (.cons nn .nil)) (tD _);refine Rr ?_;refine rmi.go ?_ (.cons (tD _) (.cons (tD _) .nil)) (tD _);refine Rr ?_;refine hno2.go ?_ (.cons (j9 _) (.cons (tD _) .nil)) (gE _ _);refine Rt ?_;repeat((first|refine aN bi ?_|refine aB g3 ?_);refine Rt ?_)
   exact .mk (i,(r1/y)::R,r1%y) [(0,0)] ⟨by simp only;omega,by simp;omega,λd hd=>by
     rcases aAj.1 hd with h|h
     .rw[h];exact hq9
     .exact h3 d h,s2,by simp only[vl];exact s1⟩
    (aE _ rfl ⟨⟨0,_,rfl,rfl,.eq (fE _) GP⟩,trivial⟩
     ⟨aM (tD _),aM (tD _),⟨_,rfl,.slE rfl rfl⟩,aM (tD _),⟨_,rfl,.w64 rfl ⟨by simp only;omega,by simp only;omega⟩⟩,trivial⟩) (by simp only;omega)
 .have hm0:m=0:=by simp at hb;omega
  subst hm0;rw[aAJ,hva] at h5;have e1:x/y=vl 10000 R:=by rw[h5,aCH,Nat.add_mul_div_right _ _ hy,aCj h4,aAF]
  have e2:x%y=r:=by rw[h5,aCH,aC3,aBb h4]
  refine Rr ?_;exact aW (r':=.tup [.il 1 (bO R),.il 1 (bO (dg 10000 r))]) (m':=[]) (n':=0) [] rfl trivial (.tup' (.cons (.fzR rfl rfl (.eq (fE _) (by unfold tJ;simp)) (by rw[aS];omega)) (.cons (.same _ (tD _)) .nil))) ⟨R,by rw[e2],rfl,rfl,om,h3,e1.symm⟩
theorem WB(b:Bool)(m n:Nat):sg b m+sg b n=sg b (m+n):=by unfold sg;split<;>omega
theorem WV(x y:Int)(hy0:y≠0)(hx:(dg 10000 x.natAbs).length<=900000)(hy:(dg 10000 y.natAbs).length<=900000):aT prog [] 145 [eQ x,eQ y] (.tup [eQ (x/y),eQ (x%y)]):=by
 have hyp:0<y.natAbs:=aDi.2 hy0;have hd:=SZ x.natAbs y.natAbs hyp hx hy;obtain⟨hs1,hs2⟩:=Oh (x:=x) hy0;have hm:=aBt x.natAbs hyp;have hlq:=Mq hT x.natAbs y.natAbs;have hlr:=Nr hT x.natAbs y.natAbs;have hno:∀Q:List Nat,Q.length=(dg 10000 x.natAbs).length->(∀d∈Q,d<10000)->vl 10000 Q=x.natAbs/y.natAbs->_:=λQ h1 h2 h3=>qO (decide (x<0) != decide (y<0)) Q _ om h2 h3
 have hnr:=Aa (dg 10000 (x.natAbs%y.natAbs)) _ om (fZ hT _) (gO hT _);have h1:=qO (decide (x<0) != decide (y<0)) [1] 1 sq sq (by simp[vl]);have ha:=W3 (sg (decide (x<0) != decide (y<0)) (x.natAbs/y.natAbs)) (sg (decide (x<0) != decide (y<0)) 1) (by rw[EJ];omega) (by rw[EJ];have:(dg 10000 1).length<=1:=Hb hT (by decide);omega);rw[WB] at ha;have hmi:=Ia y.natAbs (x.natAbs%y.natAbs) om om;have hnm:=Aa (g6 (dg 10000 (y.natAbs-x.natAbs%y.natAbs)) (dg 10000 y.natAbs).length) _ (by rw[y9 (BX hT _ _)];omega) kD.1 kD.2;have hrl:decide (0<(dg 10000 (x.natAbs%y.natAbs)).length)=decide (0<x.natAbs%y.natAbs):=iE hT;have e0:∀n:Nat,eQ (n:Int) = .agg [.bool false,.il 1 (bO (dg 10000 n))]:=λn=>by rw[eR,aAw om,aBd]
 obtain⟨b1,l1,q1⟩:∃b l,eQ (sg (decide (x<0) != decide (y<0)) (x.natAbs/y.natAbs)) = .agg [.bool b,.il 1 (bO l)]:=⟨_,_,rfl⟩
 obtain⟨b2,l2,q2⟩:∃b l,eQ (sg (decide (x<0) != decide (y<0)) 1) = .agg [.bool b,.il 1 (bO l)]:=⟨_,_,rfl⟩
 obtain⟨b3,l3,q3⟩:∃b l,eQ (sg (decide (x<0) != decide (y<0)) (x.natAbs/y.natAbs+1)) = .agg [.bool b,.il 1 (bO l)]:=⟨_,_,rfl⟩
 rw[q1] at hno ha;rw[q2] at h1 ha;rw[q3] at ha;have fA:decide (x<0)=true/\0<x.natAbs%y.natAbs->AV.tup [eQ (x/y),eQ (x%y)] = .tup [.agg [.bool b3,.il 1 (bO l3)],.agg [.bool false,.il 1 (bO (dg 10000 (y.natAbs-x.natAbs%y.natAbs)))]]:=λh=>by
  rw[(hs1 h).1,(hs1 h).2,q3,e0]
 have fB:¬(decide (x<0)=true/\0<x.natAbs%y.natAbs)->AV.tup [eQ (x/y),eQ (x%y)] = .tup [.agg [.bool b1,.il 1 (bO l1)],.agg [.bool false,.il 1 (bO (dg 10000 (x.natAbs%y.natAbs)))]]:=λh=>by
  rw[(hs2 h).1,(hs2 h).2,q1,e0]
 generalize AV.tup [eQ (x/y),eQ (x%y)]=RES at *;rw[eR x,eR y];clear hs1 hs2 q1 q2 q3 hlq hlr e0;generalize g6 (dg 10000 (y.natAbs-x.natAbs%y.natAbs)) (dg 10000 y.natAbs).length=pq at *;generalize dg 10000 (y.natAbs-x.natAbs%y.natAbs)=lr1 at *;generalize dg 10000 (x.natAbs%y.natAbs)=lr at *;generalize dg 10000 x.natAbs=la at *;generalize dg 10000 y.natAbs=lb at *;generalize decide (x<0)=bx at *;generalize decide (y<0)=by_ at *;have hlen:(bO lr).length=lr.length:=aS lr;refine aD bE func145 rfl ?_;refine Rt ?_;refine aH.go0 hd ?_ (.cons (tD _) (.cons (tD _) .nil));rintro r m n ⟨Q,rfl,rfl,rfl,z1,z2,z3⟩;refine⟨_,.same _ (.tup' (.cons (tD _) (.cons (tD _) .nil))), ?_⟩;have hno:=hno Q z1 z2 z3;refine Rt ?_;refine hno.go ?_ (.cons (j9 _) (.cons (tD _) .nil)) (gE _ _);refine Rt ?_;refine hnr.go ?_ (.cons (j9 _) (.cons (tD _) .nil)) (gE _ _);cases bx with
 | false=>
  rw[fB sq];refine Rt ?_;exact aA (.tup' (.cons (gE _ _) (.cons (gE _ _) .nil))) ⟨rfl,rfl,rfl⟩
 | true=>
  cases lr with
  | nil=>
   have h0:¬0<x.natAbs%y.natAbs:=su hrl
   rw[fB (λh=>h0 h.2)];refine Rt ?_;exact aA (.tup' (.cons (gE _ _) (.cons (gE _ _) .nil))) ⟨rfl,rfl,rfl⟩
  | cons r0 rs=>
   have h0:0<x.natAbs%y.natAbs:=su hrl
   rw[fA ⟨rfl,h0⟩];refine Rt ?_;refine aI (λh=>?_) (λh=>absurd h (by simp[bO]));refine Rr ?_;refine aH.pre bE [(0,0),(1,1),(2,2),(3,3),(4,4),(5,5)] (mem':=[(0,.row 44 2 [.agg [.bool true,.il 1 (bO la)]]),(1,.row 44 2 [.agg [.bool by_,.il 1 (bO lb)]]),(2,.row 44 2 [.agg [.bool false,.nsl]]),(3,.row 44 2 [.agg [.bool false,.nsl]]),(4,.row 44 2 [.agg [.bool b1,.il 1 (bO l1)]]),(5,.row 44 2 [.agg [.bool false,.il 1 (bO (r0::rs))]])]) rfl
    ⟨aL 0 (.cons (gE _ _) .nil),aL 1 (.cons (gE _ _) .nil),aL 2 (nN _),aL 3 (nN _),aL 4 (.cons (gE _ _) .nil),aL 5 (.cons (gE _ _) .nil),trivial⟩
    (.cons (.same _ (j9 _)) (.cons (.fz' (id:=6) (off:=0) (len:=1) (xs:=[.int .i64 1]) (ys:=bO [1]) rfl rfl (aAp 1) rfl (fE [1])) .nil)) ?_
   refine h1.go ?_ (.cons (j9 _) (.cons (tD _) .nil)) (gE _ _);refine Rt ?_;refine ha.go ?_ (.cons (gE _ _) (.cons (gE _ _) .nil)) (gE _ _);refine Rt ?_;refine hmi.go ?_ (.cons (tD _) (.cons (tD _) .nil)) (tD _);refine Rt ?_;refine hnm.go ?_ (.cons (j9 _) (.cons (tD _) .nil)) (gE _ _);refine Rt ?_;exact aA (.tup' (.cons (gE _ _) (.cons (gE _ _) .nil))) ⟨rfl,rfl,rfl⟩
theorem Zi(x y:Int)(hx:(dg 10000 x.natAbs).length<=900000)(hy:(dg 10000 y.natAbs).length<=900000):aT prog [] 144 [eQ x,eQ y] (eQ (Nat.gcd x.natAbs y.natAbs:Nat)):=by
 have e0:∀n:Nat,eQ (n:Int) = .agg [.bool false,.il 1 (bO (dg 10000 n))]:=λn=>by rw[eR,aAw om,aBd]
 have hn1:=Aa (dg 10000 x.natAbs) _ om (fZ hT _) (gO hT _);have hn2:=Aa (dg 10000 y.natAbs) _ om (fZ hT _) (gO hT _);rw[eR x,eR y,e0];generalize decide (x<0)=bx;generalize decide (y<0)=by_;generalize x.natAbs=a at *;generalize y.natAbs=b at *;obtain⟨g,hg⟩:∃g,g=Nat.gcd a b:=⟨_,rfl⟩
 rw[<-hg];refine aD bE func144 rfl ?_;refine Rt ?_;refine hn1.go ?_ (.cons (j9 _) (.cons (tD _) .nil)) (gE _ _);refine Rt ?_;refine hn2.go ?_ (.cons (j9 _) (.cons (tD _) .nil)) (gE _ _);refine Rt ?_;refine bA.at bE (λp:Nat × Nat=>(dg 10000 p.1).length<=900000/\(dg 10000 p.2).length<=900000/\Nat.gcd p.1 p.2=g)
  (λp=>⟨[(4,.ptr 0 0 0),(5,.ptr 1 0 0),(6,.ptr 2 0 0)],[(0,.row 44 2 [.agg [.bool false,.nsl]]),(1,.row 44 2 [.agg [.bool false,.il 1 (bO (dg 10000 p.1))]]),(2,.row 44 2 [.agg [.bool false,.il 1 (bO (dg 10000 p.2))]])],3,28⟩)
  (λp=>p.2) (a,b) [(2,0),(3,1),(4,2)] ⟨hx,hy,hg.symm⟩
  (aE _ rfl ⟨aL 2 (nN _),aL 3 (.cons (gE _ _) .nil),aL 4 (.cons (gE _ _) .nil),trivial⟩ ⟨aF,aF,aF,trivial⟩) ?_
 clear hn1 hn2;rintro⟨u,v⟩ ⟨h1,h2,h3⟩;simp only at h1 h2 h3 |-;have hz:=iE (B:=10000) (n:=v) hT;have hlz:decide (((bO (dg 10000 v)).length:Int)>0)=decide (0<v):=by
  rw[aS,<-hz,aA2];omega
 by_cases hv:0<v
 .have hd:=WV (u:Int) (v:Int) om (by rw[aBd];exact h1) (by rw[aBd];exact h2);have hm:=Nr hT u v;have hmlt:=aBt u hv;have hgs:=Qe u v;rw[<-Int.natCast_ediv,<-Int.natCast_emod,e0,e0,e0,e0] at hd;generalize u%v=w at *;generalize dg 10000 (u/v)=qq at *;generalize hlu:dg 10000 u=lu at *;generalize hlv:dg 10000 v=lv at *;generalize hlw:dg 10000 w=lw at *;refine Rr ?_;rw[hlz,aAn hv];refine Rt ?_;refine hd.go ?_ (.cons (gE _ _) (.cons (gE _ _) .nil)) (.tup' (.cons (gE _ _) (.cons (gE _ _) .nil)));refine Rt ?_;exact .mk (v,w) [(0,0),(1,1),(2,2)] ⟨by simp only;rw[hlv];exact h2,by simp only;rw[hlw];omega,by simp only;rw[hgs];exact h3⟩
   (aE _ rfl ⟨aL 0 (nN _),⟨1,_,rfl,rfl,.eq (.cons (gE _ _) .nil) (by rw[hlv])⟩,⟨2,_,rfl,rfl,.eq (.cons (gE _ _) .nil) (by rw[hlw])⟩,trivial⟩ ⟨aF,aF,aF,trivial⟩) (by simp only;omega)
 .have hv0:v=0:=om;rw[hv0,Nat.gcd_zero_right] at h3;rw[<-h3];generalize dg 10000 u=lu at *;generalize dg 10000 v=lv at *;refine Rr ?_;rw[hlz,aAw hv];refine Rt ?_;exact aA (gE _ _) ⟨rfl,rfl,rfl⟩
def Tg:List UInt8:=[48,49,50,51,52,53,54,55,56,57]
theorem Mc(h:d<10):List.take (((d+1:Nat):Int).toNat-((d:Nat):Int).toNat) (List.drop ((d:Nat):Int).toNat Tg)=[UInt8.ofNat (48+d)]:=by
 rcases(show d=0\/d=1\/d=2\/d=3\/d=4\/d=5\/d=6\/d=7\/d=8\/d=9 by omega) with rfl|rfl|rfl|rfl|rfl|rfl|rfl|rfl|rfl|rfl<;>rfl
theorem XO(n:Int)(hn:i64 n):aT prog [] 95 [.int .i64 n] (.str (Lib.itoa n)):=by
 unfold i64 at hn;refine aD bE func95 rfl ?_;by_cases h0:n=0
 .subst h0;rw[OG];refine Rr ?_;exact aA nn ⟨rfl,rfl,rfl⟩
 have e0:(n == 0)=false:=su h0
 refine Rr ?_;rw[e0];refine Rr ?_;refine bA.at bE (λa:Int × List UInt8=>a.1.natAbs<=n.natAbs/\(a.1=0\/(a.1<0↔n<0))/\Lib.decDigits n.natAbs=vJ a.1.natAbs++a.2)
  (λa=>⟨[(0,.int .i64 n),(3,.str Tg),(4,.str a.2),(5,.int .i64 a.1)],[],0,32⟩) (λa=>a.1.natAbs) (n,[]) [] ⟨aAp _,.inr Iff.rfl,by simp[vJ,h0]⟩
  (bX ⟨aJ,aJ,aJ,aJ,trivial⟩) ?_
 rintro⟨k,s⟩ ⟨hk1,hk2,hk3⟩;simp only at hk1 hk2 hk3;have hsl:s.length<=20:=by
  have h1:=Ap n.natAbs om;rw[<-Lib.decDigits_length,hk3,aAA] at h1;omega
 by_cases hk0:k=0
 .subst hk0;rw[show vJ (Int.natAbs 0)=[] from rfl,aAZ] at hk3;refine Rr ?_;refine aI (λh=>?_) (λh=>?_)
  .refine Rr ?_;refine aN (aAf (by simp;omega)) ?_;refine Rr ?_;refine aA nn ⟨?_,rfl,rfl⟩;rw[Lib.itoa,aAh (su h),hk3];rfl
  .refine Rr ?_;refine aA nn ⟨?_,rfl,rfl⟩;have h':¬n<0:=su h
   have e:n.toNat=n.natAbs:=om;rw[Lib.itoa,aAe h',e,hk3]
 .have e1:(k == 0)=false:=su hk0
  refine Rr ?_;rw[show ((k,s).fst != 0)=true by simpa using hk0];have hq:=Int.mul_tdiv_add_tmod k 10;have hkq:k.tdiv 10=if 0<=k then((k.natAbs/10:Nat):Int) else -((k.natAbs/10:Nat):Int):=by
   split
   .rw[aBH (by assumption)];omega
   .obtain⟨q,rfl⟩:∃q:Nat,k = -(q:Int):=⟨k.natAbs,om⟩
    rw[Int.neg_tdiv,aBH om];simp
  have hkm:(k.tmod 10).natAbs=k.natAbs%10:=by split at hkq<;>omega
  have hkb:(k.tdiv 10).natAbs=k.natAbs/10:=by split at hkq<;>omega
  have hstep:=IS (k:=k.natAbs) om;have hnext:∀b:UInt8,b=UInt8.ofNat (48+k.natAbs%10)->(λa:Int × List UInt8=>a.1.natAbs<=n.natAbs/\(a.1=0\/(a.1<0↔n<0))/\Lib.decDigits n.natAbs=vJ a.1.natAbs++a.2) (k.tdiv 10,b::s):=by
   intro b hb;refine⟨by simp only;omega, ?_, ?_⟩
   .simp only;split at hkq<;>omega
   .simp only;rw[hk3,hstep,hkb,hb];simp
  have hb:i64 (k.tdiv 10):=by
   unfold i64;split at hkq<;>omega
  refine Rr ?_;refine aI (λh=>?_) (λh=>?_)
  .have h':k.tmod 10<0:=su h
   have e1:IntKind.i64.wrap (0-k.tmod 10)=((k.natAbs%10:Nat):Int):=by rw[aV oq];omega
   have hkk:k.natAbs%10<10:=aBt _ (by decide);generalize hd:k.natAbs%10=d at *;have e2:IntKind.i64.wrap ((d:Int)+1)=((d+1:Nat):Int):=by rw[aV oq];omega
   refine Rr ?_;rw[e1];have hd10:d<10:=hkk;rw[e2];have z1:decide (0<=(d:Int))=true:=aAn om;have z3:(Nat.ble ((d:Nat):Int).toNat ((d+1:Nat):Int).toNat && Nat.ble ((d+1:Nat):Int).toNat Tg.length)=true:=by
    rw[aAc,aAc,aAf om,aAf (by show d+1<=10;omega)];rfl
   rw[z1];refine Rr ?_;refine aN z3 ?_;refine Rr ?_;rw[Mc hd10];refine aN (aAf (by simp;omega)) ?_;refine Rr ?_;exact .mk (k.tdiv 10,UInt8.ofNat (48+d)::s) [] (hnext _ rfl) (bX ⟨aJ,aJ,aJ,⟨_,rfl,.int (aV hb)⟩,trivial⟩) (by simp only;omega)
  .have h':¬k.tmod 10<0:=su h
   have e1:k.tmod 10=((k.natAbs%10:Nat):Int):=om;have hkk:k.natAbs%10<10:=aBt _ (by decide);generalize hd:k.natAbs%10=d at *;have e2:IntKind.i64.wrap ((d:Int)+1)=((d+1:Nat):Int):=by rw[aV oq];omega
   refine Rr ?_;rw[e1];have hd10:d<10:=hkk;rw[e2];have z1:decide (0<=(d:Int))=true:=aAn om;have z3:(Nat.ble ((d:Nat):Int).toNat ((d+1:Nat):Int).toNat && Nat.ble ((d+1:Nat):Int).toNat Tg.length)=true:=by
    rw[aAc,aAc,aAf om,aAf (by show d+1<=10;omega)];rfl
   rw[z1];refine Rr ?_;refine aN z3 ?_;refine Rr ?_;rw[Mc hd10];refine aN (aAf (by simp;omega)) ?_;refine Rr ?_;exact .mk (k.tdiv 10,UInt8.ofNat (48+d)::s) [] (hnext _ rfl) (bX ⟨aJ,aJ,aJ,⟨_,rfl,.int (aV hb)⟩,trivial⟩) (by simp only;omega)
theorem Ff(h:n<=2 ^ m)(hm:0<m):(dg 10000 n).length<=m:=by
 refine iR hT (aCm h ?_);exact Nat.pow_lt_pow_left om om
theorem OT{D:List Nat}(h:D[i]? = some d)(hi:i+1<D.length):Bf 4 (D.drop i)=Bf 4 (D.drop (i+1))++zO 4 d:=by
 obtain⟨h1,h2⟩:=aAg.1 h;rw[List.drop_eq_getElem_cons h1,h2,Bf,aAe];intro e;have:=congrArg List.length e;rw[aBw] at this;simp at this;omega
theorem Pw{D:List Nat}(h:D[i]? = some d)(hi:i+1=D.length):Bf 4 (D.drop i)=Lib.decDigits d:=by
 obtain⟨h1,h2⟩:=aAg.1 h;rw[List.drop_eq_getElem_cons h1,h2,Bf,aAh (aBl om)]
theorem Jv:∀(D:List Nat),(∀d∈D,d<10000)->(Bf 4 D).length<=4*D.length
 | [],_=>by simp[Bf]
 | d::r,h=>by
  rw[Bf];split
  .rename_i e;subst e;have:=uE 4 d (h d sq) (by decide);simp;omega
  .have:=Jv r λx hx=>h x (by simp[hx])
   rw[aAA,x6,aAH];omega
theorem YY(z:Int)(hz:(dg 10000 z.natAbs).length<=1000000):aT prog [] 47 [eQ z] (.str (LP z)):=by
 have hla:=fZ hT z.natAbs;have htx:0<z.natAbs->Bf 4 (dg 10000 z.natAbs)=Lib.decDigits z.natAbs:=λh=>Tt (k:=4) om z.natAbs h
 have hzero:(dg 10000 z.natAbs).length=0↔z=0:=by
  constructor
  .intro h;have:=(Hl hT).1 (aAB h);omega
  .intro h;rw[h];simp[fL]
 have hdz:LP z=if z<0 then 45::Lib.decDigits z.natAbs else Lib.decDigits z.natAbs:=by
  unfold LP Lib.itoa;split
  .rfl
  .rw[show z.toNat=z.natAbs by omega]
 have hdec:∀d:Nat,d<10000->aT prog [] 95 [.int .i64 d] (.str (Lib.decDigits d)):=λd h=>by
  have:=XO (d:Int) oq;rw[Lib.itoa_nonneg] at this;exact this
 rw[eR,hdz];have hpos:z=0\/0<z.natAbs:=om;have hbz:(if z<0 then 45::Lib.decDigits z.natAbs else Lib.decDigits z.natAbs)=(if decide (z<0)=true then 45::Lib.decDigits z.natAbs else Lib.decDigits z.natAbs):=sq
 rw[hbz];generalize hD:dg 10000 z.natAbs=D at *;generalize hbn:decide (z<0)=bz at *;refine aD bE func47 rfl ?_;by_cases h0:z=0
 .have hl0:=hzero.2 h0;have e1:((D.length:Int) == 0)=true:=by rw[hl0];rfl
  have e2:bz=false:=by rw[<-hbn,h0];rfl
  rw[e2,h0];refine Rr ?_;rw[aS,e1];refine Rr ?_;exact aA nn ⟨by rw[aAe sq,show Int.natAbs 0=0 from rfl,Lib.decDigits_one om];rfl,rfl,rfl⟩
 .have hl0:0<D.length:=by have:=hzero.1;omega
  have e1:((D.length:Int) == 0)=false:=by simp;intro h;rw[h] at hl0;simp at hl0
  have htx:=htx om;have hw1:IntKind.i64.wrap ((D.length:Int)-1)=((D.length-1:Nat):Int):=by rw[aV oq];omega
  obtain⟨t,ht⟩:∃d,D[D.length-1]? = some d:=⟨_,aAa om⟩
  have g1:=xS ht;have hd1:=hdec t (hla _ (aAm ht));refine Rr ?_;rw[aS,e1];refine Rr ?_;rw[aS,hw1];refine aB g1 ?_;refine Rt ?_;refine hd1.go ?_ (.cons nn .nil) nn;refine Rr ?_;rw[aS];refine bA.at bE (λk:Nat=>k+1<=D.length)
   (λk=>⟨[(1,.ptr 0 0 0),(3,.str (Bf 4 (D.drop k))),(4,.int .i64 ((k:Int)-1))],[(0,.row 44 2 [.agg [.bool bz,.il 1 (bO D)]])],1,46⟩)
   (λk=>k) (D.length-1) [(0,0)] om
   (aE _ rfl ⟨aL 0 (.cons (gE _ _) .nil),trivial⟩ ⟨aF,⟨_,rfl,.eq nn (by rw[Pw ht om])⟩,⟨_,rfl,.w64 om oq⟩,trivial⟩) ?_
  intro k hk;have hlen:=Jv (D.drop k) λd hd=>hla d (aAX hd)
  rw[aBw] at hlen;refine Rr ?_;refine aI (λhb=>?_) (λhb=>?_)
  .have hk1:0<k:=by simp at hb;omega
   obtain⟨i,rfl⟩:∃i,k=i+1:=⟨k-1,om⟩
   rw[show (((i+1:Nat):Int)-1)=(i:Int) by omega];obtain⟨u,hu⟩:∃u,D[i]? = some u:=⟨_,aAa om⟩
   have hul:=hla _ (aAm hu);have g2:=xS hu;have hst:=OT hu om;have hdu:=hdec u hul;have hpe:=H1 4 u om (by decide);have hl4:=uE 4 u om (by decide);generalize Lib.decDigits u=tu at *;refine Rr ?_;refine aB g2 ?_;refine Rt ?_;refine hdu.go ?_ (.cons nn .nil) nn;refine Rr ?_;refine bA.at bE (λj:Nat=>j+tu.length<=4)
    (λj=>⟨[(1,.ptr 0 0 0),(3,.str (Bf 4 (D.drop (i+1)))),(4,.int .i64 i),(5,.str (List.replicate j 48++tu))],[(0,.row 44 2 [.agg [.bool bz,.il 1 (bO D)]])],1,46⟩)
    (λj=>4-j) 0 [(0,0)] om
    (aE _ rfl ⟨aL 0 (.cons (gE _ _) .nil),trivial⟩ ⟨aF,aJ,aJ,aJ,trivial⟩) ?_
   intro j hj;have hjl:(List.replicate j 48++tu).length=j+tu.length:=sq
   have hcons:∀(j:Nat),(48:UInt8)::(List.replicate j 48++tu)=List.replicate (j+1) 48++tu:=λj=>rfl
   generalize hs:List.replicate j 48++tu=s at *;refine Rr ?_;rw[hjl];refine aI (λhc=>?_) (λhc=>?_)
   .have hc:j+tu.length<4:=by have:=aAY hc;omega
    refine Rr ?_;refine aN (aAf (by simp;omega)) ?_;refine Rr ?_;exact .mk (j+1) [(0,0)] om
     (aE _ rfl ⟨aL 0 (.cons (gE _ _) .nil),trivial⟩ ⟨aF,aJ,aJ,⟨_,rfl,.eq nn (by rw[<-hs];rfl)⟩,trivial⟩) om
   .have hc:j+tu.length=4:=by have:=aBA hc;omega
    have hsp:s=zO 4 u:=by rw[hpe,<-hs,show 4-tu.length=j by omega]
    refine Rr ?_;refine aN (aAf (by rw[hjl];omega)) ?_;refine Rr ?_;exact .mk i [(0,0)] om
     (aE _ rfl ⟨aL 0 (.cons (gE _ _) .nil),trivial⟩ ⟨aF,⟨_,rfl,.eq nn (by rw[hst,hsp])⟩,⟨_,rfl,.w64 rfl oq⟩,trivial⟩) om
  .have hk0:k=0:=by simp at hb;omega
   subst hk0;rw[aAJ] at hlen;have hd0:D.drop 0=D:=aAJ;cases bz
   .refine Rr ?_;rw[hd0,htx];exact aA nn ⟨by rw[aAe sq],rfl,rfl⟩
   .refine Rr ?_;rw[hd0,htx];refine aN (aAf (by rw[<-htx];simp;omega)) ?_;refine Rr ?_;exact aA nn ⟨by rw[aAh rfl];rfl,rfl,rfl⟩
def Pm(a:Fr):AV:=.agg [.bool (decide (a.p<0)),.il 1 (bO (dg 10000 a.p.natAbs)),.bool (decide ((a.q:Int)<0)),.il 1 (bO (dg 10000 (a.q:Int).natAbs))]
theorem Wv(b c:Bool)(l m:List Nat):NN (.agg [.bool b,.il 1 (bO l),.bool c,.il 1 (bO m)]):=.agg' (.cons (j9 _) (.cons (tD _) (.cons (j9 _) (.cons (tD _) .nil))))
theorem f8(z:Int):∃b l,eQ z = .agg [.bool b,.il 1 (bO l)]:=⟨_,_,rfl⟩
theorem Nn(a:Fr):∃b l c m,eQ a.p = .agg [.bool b,.il 1 (bO l)]/\eQ (a.q:Int) = .agg [.bool c,.il 1 (bO m)]/\Pm a = .agg [.bool b,.il 1 (bO l),.bool c,.il 1 (bO m)]:=⟨_,_,_,_,rfl,rfl,rfl⟩
structure LF(n:Nat)(a:Fr):Prop where
 num:(dg 10000 a.p.natAbs).length<=n
 den:(dg 10000 a.q).length<=n
theorem ZX(n:Int)(hn:i64 n):aT prog [] 140 [.int .i64 n] (Pm ⟨n,1⟩):=by
 have h1:=Tz n hn;have h2:=Tz ((1:Nat):Int) oq;obtain⟨b,l,c,m,q1,q2,q3⟩:=Nn ⟨n,1⟩;rw[q3];rw[q1] at h1;rw[q2] at h2;refine aD bE func140 rfl ?_;refine Rr ?_;refine h1.go ?_ (.cons nn .nil) (gE _ _);refine Rr ?_;refine h2.go ?_ (.cons nn .nil) (gE _ _);refine Rt ?_;exact aA (Wv _ _ _ _) ⟨rfl,rfl,rfl⟩
theorem QQ{p q:Int}(h:q≠0):0<Nat.gcd p.natAbs q.natAbs:=Nat.gcd_pos_of_pos_right _ (aDi.2 h)
theorem K0(p q:Int)(hq:q≠0)(h1:(dg 10000 p.natAbs).length<=800000)(h2:(dg 10000 q.natAbs).length<=800000):aT prog [] 148 [eQ p,eQ q] (.tup [Pm (NT p q),.int .i64 0]):=by
 have hg0:=QQ (p:=p) hq;have hn1:=Yo p om;have hn2:=Yo q om;have key:∀P Q:Int,P=(if q<0 then -p else p)->Q=(q.natAbs:Int)->aT prog [] 144 [eQ P,eQ Q] (eQ (Nat.gcd p.natAbs q.natAbs:Nat)) /\
   aT prog [] 145 [eQ P,eQ (Nat.gcd p.natAbs q.natAbs:Nat)] (.tup [eQ (NT p q).p,eQ (P%(Nat.gcd p.natAbs q.natAbs:Nat))]) /\
   aT prog [] 145 [eQ Q,eQ (Nat.gcd p.natAbs q.natAbs:Nat)] (.tup [eQ ((NT p q).q:Int),eQ (Q%(Nat.gcd p.natAbs q.natAbs:Nat))]):=by
  intro P Q hP hQ;have a1:P.natAbs=p.natAbs:=by rw[hP];split<;>simp
  have a2:Q.natAbs=q.natAbs:=by rw[hQ];simp
  have hgl:=UK hT p.natAbs q.natAbs;have z1:=Zi P Q (by rw[a1];omega) (by rw[a2];omega);rw[a1,a2] at z1;have z2:=WV P (Nat.gcd p.natAbs q.natAbs:Nat) om (by rw[a1];omega) (by rw[aBd];omega);have z3:=WV Q (Nat.gcd p.natAbs q.natAbs:Nat) om (by rw[a2];omega) (by rw[aBd];omega);refine⟨z1, ?_, ?_⟩
  .have e:(NT p q).p=P/(Nat.gcd p.natAbs q.natAbs:Nat):=by rw[hP];rfl
   rw[e];exact z2
  .have e:((NT p q).q:Int)=Q/(Nat.gcd p.natAbs q.natAbs:Nat):=by rw[hQ,<-Int.natCast_ediv];rfl
   rw[e];exact z3
 have kn:=key (-p) (-q);have kp:=key p q;have hlz:=iE (B:=10000) (n:=q.natAbs) hT;have hz:(((dg 10000 q.natAbs).length:Int) == 0)=false:=by
  have:0<(dg 10000 q.natAbs).length:=by
   have:=aA2.1 hlz;exact this.2 om
  simp;intro h;rw[h] at this;simp at this
 obtain⟨b,l,c,m,q1,q2,q3⟩:=Nn (NT p q);rw[q1,q2] at kn kp;rw[q3];obtain⟨bg,lg,hgg⟩:=f8 (Nat.gcd p.natAbs q.natAbs:Nat);rw[hgg] at kn kp;obtain⟨bm,lm,hmm⟩:=f8 (-p);obtain⟨bn,ln,hnn⟩:=f8 (-q);rw[hmm] at hn1 kn;rw[hnn] at hn2 kn;clear key q1 q2 q3 hgg hmm hnn hlz hg0;have ep:=eR p;have eq:=eR q;rw[ep] at hn1 kp |-;rw[eq] at hn2 kp |-;clear ep eq;generalize hbq:decide (q<0)=bq at *;generalize decide (p<0)=bp at *;generalize dg 10000 p.natAbs=lp at *;generalize dg 10000 q.natAbs=lq at *;refine aD bE func148 rfl ?_;cases bq with
 | true=>
  have hlt:=aAY hbq;obtain⟨k1,k2,k3⟩:=kn (by rw[aAh hlt]) om;obtain⟨b1,l1,e1⟩:=f8 (-p%(Nat.gcd p.natAbs q.natAbs:Nat));obtain⟨b2,l2,e2⟩:=f8 (-q%(Nat.gcd p.natAbs q.natAbs:Nat));rw[e1] at k2;rw[e2] at k3;refine Rt ?_;rw[aS,hz];refine Rt ?_;refine hn1.go ?_ (.cons (gE _ _) .nil) (gE _ _);refine Rt ?_;refine hn2.go ?_ (.cons (gE _ _) .nil) (gE _ _);refine Rt ?_;refine k1.go ?_ (.cons (gE _ _) (.cons (gE _ _) .nil)) (gE _ _);refine Rt ?_;refine k2.go ?_ (.cons (gE _ _) (.cons (gE _ _) .nil)) (.tup' (.cons (gE _ _) (.cons (gE _ _) .nil)));refine Rt ?_;refine k3.go ?_ (.cons (gE _ _) (.cons (gE _ _) .nil)) (.tup' (.cons (gE _ _) (.cons (gE _ _) .nil)));refine Rt ?_;exact aA (.tup' (.cons (Wv _ _ _ _) (.cons nn .nil))) ⟨rfl,rfl,rfl⟩
 | false=>
  have hlt:=aBA hbq;obtain⟨k1,k2,k3⟩:=kp (by rw[aAe hlt]) om;obtain⟨b1,l1,e1⟩:=f8 (p%(Nat.gcd p.natAbs q.natAbs:Nat));obtain⟨b2,l2,e2⟩:=f8 (q%(Nat.gcd p.natAbs q.natAbs:Nat));rw[e1] at k2;rw[e2] at k3;refine Rt ?_;rw[aS,hz];refine Rt ?_;refine k1.go ?_ (.cons (gE _ _) (.cons (gE _ _) .nil)) (gE _ _);refine Rt ?_;refine k2.go ?_ (.cons (gE _ _) (.cons (gE _ _) .nil)) (.tup' (.cons (gE _ _) (.cons (gE _ _) .nil)));refine Rt ?_;refine k3.go ?_ (.cons (gE _ _) (.cons (gE _ _) .nil)) (.tup' (.cons (gE _ _) (.cons (gE _ _) .nil)));refine Rt ?_;exact aA (.tup' (.cons (Wv _ _ _ _) (.cons nn .nil))) ⟨rfl,rfl,rfl⟩
def mG(c:Cell):AV:=.agg [.bool (decide ((c.n:Int)<0)),.il 1 (bO (dg 10000 (c.n:Int).natAbs)),.bool (decide (c.p.p<0)),.il 1 (bO (dg 10000 c.p.p.natAbs)),.bool (decide ((c.p.q:Int)<0)),.il 1 (bO (dg 10000 (c.p.q:Int).natAbs))]
theorem vS(c:Cell):NN (mG c):=.agg' (.cons (j9 _) (.cons (tD _) (.cons (j9 _) (.cons (tD _) (.cons (j9 _) (.cons (tD _) .nil))))))
def bU(l:List Cell):List AV:=l.map mG
theorem bY(l:List Cell):kZ (bU l):=λa h=>by
 obtain⟨c,-,rfl⟩:=aAE.1 h;exact vS c
theorem oP(l:List Cell)(i:Nat):(bU l)[i]? = (l[i]?).map mG:=by simp[bU]
theorem fS(l:List Cell):(bU l).length=l.length:=by simp[bU]
theorem Du{c:Cell}{b1 b2:Bool}{l l1 l2:List Nat}(h:eQ (c.n:Int) = .agg [.bool b,.il 1 (bO l)])(h2:Pm c.p = .agg [.bool b1,.il 1 (bO l1),.bool b2,.il 1 (bO l2)]):mG c = .agg [.bool b,.il 1 (bO l),.bool b1,.il 1 (bO l1),.bool b2,.il 1 (bO l2)]:=by
 rw[eR] at h;unfold Pm at h2;simp only[AV.agg.injEq,List.cons.injEq,and_true] at h h2;unfold mG;rw[h.1,h.2,h2.1,h2.2.1,h2.2.2.1,h2.2.2.2]
theorem A4(a:Fr):∃b l c m,Pm a = .agg [.bool b,.il 1 (bO l),.bool c,.il 1 (bO m)]:=⟨_,_,_,_,rfl⟩
theorem Ih:aT prog [] 90 [] (mG zC):=by
 have h1:=Tz 0 oq;have h2:=ZX 0 oq;obtain⟨b,l,e1⟩:=f8 0;obtain⟨b1,l1,b2,l2,e2⟩:=A4 ⟨0,1⟩;have hc:mG zC=_:=Du (c:=zC) e1 e2;have nc:=vS zC;have n1:=gE b l;have n2:=Wv b1 b2 l1 l2;rw[e1] at h1;rw[e2] at h2;rw[hc] at nc |-;refine aD bE func90 rfl ?_;refine Rr ?_;refine h1.go ?_ (.cons nn .nil) n1;refine Rr ?_;refine h2.go ?_ (.cons nn .nil) n2;refine Rt ?_;exact aA nc ⟨rfl,rfl,rfl⟩
theorem BP:aT prog [] 150 [] (.il 6 (bU eM)):=by
 have h1:=Tz 1 oq;have h2:=ZX 1 oq;obtain⟨b,l,e1⟩:=f8 1;obtain⟨b1,l1,b2,l2,e2⟩:=A4 ⟨1,1⟩;have hc:mG ⟨1,⟨1,1⟩⟩=_:=Du (c:=⟨1,⟨1,1⟩⟩) e1 e2;have hs:bU eM=[mG ⟨1,⟨1,1⟩⟩]:=rfl;have nc:=vS ⟨1,⟨1,1⟩⟩;have n1:=gE b l;have n2:=Wv b1 b2 l1 l2;rw[e1] at h1;rw[e2] at h2;rw[hc] at nc hs;rw[hs];refine aD bE func150 rfl ?_;refine Rr ?_;refine h1.go ?_ (.cons nn .nil) n1;refine Rr ?_;refine h2.go ?_ (.cons nn .nil) n2;refine Rt ?_;exact gM (Vs rfl rfl rfl (.cons nc .nil)) ⟨rfl,rfl,rfl⟩
theorem SO{n:Int}(h:i64 n):(dg 10000 n.natAbs).length<=800000:=by
 have:n.natAbs<=2 ^ 63:=by
  have:=h.1;have:=h.2;omega
 exact aAx (Ff this om) om
theorem LV(n p q:Int)(hn:i64 n)(h0:0<=n)(hp:i64 p)(hq:i64 q)(hq0:q≠0):aT prog [] 151 [.int .i64 n,.int .i64 p,.int .i64 q] (.il 6 (bU (iP n p q))):=by
 have hN:=Ih;have h1:=Tz n hn;have h2:=Tz p hp;have h3:=Tz q hq;have hM:=K0 p q hq0 (SO hp) (SO hq);obtain⟨b,l,e1⟩:=f8 n;obtain⟨c1,m1,e2⟩:=f8 p;obtain⟨c2,m2,e3⟩:=f8 q;obtain⟨b1,l1,b2,l2,e4⟩:=A4 (NT p q);obtain⟨y,ey⟩:∃y,y=mG zC:=⟨_,rfl⟩
 obtain⟨d0,k0,d1,k1,d2,k2,e5⟩:∃d0 k0 d1 k1 d2 k2,mG zC = .agg [.bool d0,.il 1 (bO k0),.bool d1,.il 1 (bO k1),.bool d2,.il 1 (bO k2)]:=⟨_,_,_,_,_,_,rfl⟩
 have hc:mG ⟨n.toNat,NT p q⟩=_:=Du (c:=⟨n.toNat,NT p q⟩) (by rw[aCY h0];exact e1) e4;have hs:bU (iP n p q)=[mG zC,mG ⟨n.toNat,NT p q⟩]:=rfl;have nz:=vS zC;have nc:=vS ⟨n.toNat,NT p q⟩;have n1:=gE b l;have n2:=gE c1 m1;have n3:=gE c2 m2;have n4:=Wv b1 b2 l1 l2;rw[e1] at h1;rw[e2] at h2;rw[e3] at h3;rw[e2,e3,e4] at hM;rw[e5] at hN nz;rw[hc,e5] at hs;rw[hc] at nc;rw[hs];refine aD bE func151 rfl ?_;refine Rr ?_;refine h2.go ?_ (.cons nn .nil) n2;refine Rr ?_;refine h3.go ?_ (.cons nn .nil) n3;refine Rr ?_;refine hM.go ?_ (.cons n2 (.cons n3 .nil)) (.tup' (.cons n4 (.cons nn .nil)));refine Rt ?_;refine hN.go ?_ .nil nz;refine Rt ?_;refine h1.go ?_ (.cons nn .nil) n1;refine Rt ?_;exact gM (Vs rfl rfl rfl (.cons nz (.cons nc .nil))) ⟨rfl,rfl,rfl⟩
def AK(c:Cell):Prop:=(dg 10000 ((c.n:Nat):Int).natAbs).length<=500000
theorem Ze:AK zC:=by
 unfold AK;rw[show ((zC.n:Nat):Int).natAbs=0 from rfl,dg];simp
theorem uJ(c:Cell):∃b l b1 l1 b2 l2,eQ (c.n:Int) = .agg [.bool b,.il 1 (bO l)]/\mG c = .agg [.bool b,.il 1 (bO l),.bool b1,.il 1 (bO l1),.bool b2,.il 1 (bO l2)]:=⟨_,_,_,_,_,_,rfl,rfl⟩
theorem QB{c:Cell}{b1 b2 b':Bool}{l l1 l2 l':List Nat}(h:eQ (m:Int) = .agg [.bool b',.il 1 (bO l')])(h2:mG c = .agg [.bool b,.il 1 (bO l),.bool b1,.il 1 (bO l1),.bool b2,.il 1 (bO l2)]):mG ⟨m,c.p⟩ = .agg [.bool b',.il 1 (bO l'),.bool b1,.il 1 (bO l1),.bool b2,.il 1 (bO l2)]:=by
 rw[eR] at h;unfold mG at h2 |-;simp only[AV.agg.injEq,List.cons.injEq,and_true] at h h2;rw[h.1,h.2,h2.2.2.1,h2.2.2.2.1,h2.2.2.2.2.1,h2.2.2.2.2.2]
theorem rV(l:List Cell)(c:Cell):bU (l++[c])=bU l++[mG c]:=by simp[bU]
theorem XB(l:List Int)(hl:l.length<=1000000)(hs:∀k,i64 (p9 (l.take k))):aT prog [] 152 [.il 1 (bL l)] (.int .i64 (p9 l)):=by
 have nl:NN (.il 1 (bL l)):=.il' (bH l);have ll:=aK l;refine aD bE func152 rfl ?_;refine Rr ?_;refine bA.at bE (λi:Nat=>i<=l.length) (λi=>⟨[(0,.il 1 (bL l)),(3,.int .i64 (p9 (l.take i))),(4,.int .i64 i)],[],0,18⟩) (λi=>l.length-i) 0 [] om
  (bX ⟨aM nl,aJ,aJ,trivial⟩) ?_
 intro i hi;refine Rr ?_;rw[ll];refine aI (λhb=>?_) (λhb=>?_)
 .have hlt:i<l.length:=su hb
  have e1:=UJ hlt;have hst:p9 (l.take (i+1))=p9 (l.take i)+l[i]:=by
   unfold p9;rw[aAl hlt,List.foldl_append];rfl
  have h1:=hs (i+1);rw[hst] at h1;generalize l[i]=q at *;generalize p9 (l.take i)=S at *;refine Rr ?_;refine aB e1 ?_;refine Rr ?_;exact .mk (i+1) [] om (bX ⟨aM nl,⟨_,rfl,.int (by rw[aV h1,hst])⟩,⟨_,rfl,.int (by rw[aV oq];simp)⟩,trivial⟩) om
 .have he:l.take i=l:=aAk (by
   have:¬i<l.length:=su hb
   omega)
  rw[he];refine Rr ?_;exact aA nn ⟨rfl,rfl,rfl⟩
def Cx(a b:List Cell)(i:Nat):List Cell:=(a.zipIdx.take i).foldl (λout ci=>dY false out (sG false ci.2 ci.1 b)) []
theorem PR{a b:List Cell}(h:i<a.length):Cx a b (i+1)=dY false (Cx a b i) (sG false i a[i] b):=by
 unfold Cx;rw[aAl (su h),List.foldl_append];simp
theorem R5(a b:List Cell):Cx a b a.length=Go.Ax.f6 false a b:=by
 unfold Cx Go.Ax.f6;rw[aAk sq]
theorem Of(k:Nat):bU (List.replicate (k+1) zC)=bU (List.replicate k zC)++[mG zC]:=by rw[aCQ,rV]
theorem Lc(n:Nat):decide (0<(dg 10000 n).length)=decide (0<n):=by
 rw[aA2];constructor
 .intro h;apply Nat.pos_of_ne_zero;intro e;subst e;rw[dg] at h;simp at h
 .intro h;rw[p5 hT h];simp
theorem KV(c:Cell):∃b l b1 l1 b2 l2,eQ (c.n:Int) = .agg [.bool b,.il 1 (bO l)]/\mG c = .agg [.bool b,.il 1 (bO l),.bool b1,.il 1 (bO l1),.bool b2,.il 1 (bO l2)]/\l=dg 10000 c.n:=⟨_,_,_,_,_,_,rfl,rfl,by rw[aBd]⟩
theorem sT{c:Cell}:∀{r:List Cell},c∈r->c.n<=eD r
 | [],h=>by cases h
 | a::r,h=>by
  rw[kU];rcases aAj.1 h with rfl|h
  .omega
  .have:=sT h;omega
theorem I2(r:List Cell)(k:Nat):eD (r.take k)<=eD r:=by
 unfold eD
 conv=>rhs;rw[<-List.take_append_drop k r]
 rw[aBu,aCW];omega
theorem F5(h:n<=j8 k)(e:40*k=m)(hm:0<m):(dg 10000 n).length<=m:=by
 rw[M4 k m e] at h;exact Ff h hm
theorem tI{c:Cell}(h:c.n<=j8 600):AK c:=by
 unfold AK;rw[aBd];exact aAx (F5 h rfl (by decide)) (by decide)
theorem Me(a b:List Cell)(i:Nat):Cx a b i=Go.Ax.f6 false (a.take i) b:=by
 unfold Cx Go.Ax.f6;rw[BB]
theorem Q7(i:Nat)(c:Cell)(b:List Cell):(sG false i c b).length<=i+b.length:=by
 unfold sG;rw[aAA,aA9];split<;>simp
theorem QR(a b:List Cell):(Go.Ax.f6 false a b).length<=a.length+b.length:=by
 have key:∀(a:List Cell) (n:Nat) (out:List Cell),((a.zipIdx n).foldl (λout ci=>dY false out (sG false ci.2 ci.1 b)) out).length<=max out.length (n+a.length+b.length):=by
  intro a
  induction a with
  | nil=>intro n out;simp;omega
  | cons c a ih=>
   intro n out;rw[aBI,aAy];refine aAx (ih _ _) ?_;rw[pR];have:=Q7 n c b;simp only[aAH];omega
 have:=key a 0 [];unfold Go.Ax.f6;simp at this;omega
theorem Us(z:Int):LP z=if z<0 then 45::Lib.decDigits z.natAbs else Lib.decDigits z.natAbs:=by
 unfold LP Lib.itoa;split
 .rfl
 .rw[show z.toNat=z.natAbs by omega]
end Go.Proofs.YtidjhgajglebnaaGreatDoor
namespace Go.Ax
open Go
variable{Z:List (Nat × AV)}{J:List (Nat × Nat)}{P:Program}{nx:Nat}{K Q:AV->aP->Nat->Prop}{mem:aP}{w:World}{D X:Nat->Prop}{v:AV}{C:Nat->dP}{F:FuncId}{args xs:List AV}{tb:List (Nat × List AV × AV)}
def CQ(f:AV->Option AV):List AV->Option (List AV)
 | []=>some []
 | a::r=>match f a with
  | none=>none
  | some b=>match CQ f r with
   | none=>none
   | some t=>some (b::t)
def frz:Nat->List (Nat × Nat)->aP->AV->Option AV
 | 0,_,_,_=>none
 | n+1,J,m,v=>match v with
  | .bool b=>some (.bool b)
  | .int k i=>some (.int k i)
  | .str s=>some (.str s)
  | .nptr=>some .nptr
  | .nsl=>some .nsl
  | .nmap=>some .nmap
  | .nfn=>some .nfn
  | .nif=>some .nif
  | .sl id off len=>match lk J id with
   | none=>match lk m id with
    | some (.row t sz xs)=>match Nat.ble (off+len) xs.length with
     | true=>match CQ (frz n J m) ((xs.drop off).take len) with
      | some ys=>some (.il sz ys)
      | none=>none
     | false=>none
    | _=>none
   | some _=>none
  | .il sz xs=>match CQ (frz n J m) xs with
   | some ys=>some (.il sz ys)
   | none=>none
  | .ifc t v=>match frz n J m v with
   | some v'=>some (.ifc t v')
   | none=>none
  | .agg cs=>match CQ (frz n J m) cs with
   | some ys=>some (.agg ys)
   | none=>none
  | .tup cs=>match CQ (frz n J m) cs with
   | some ys=>some (.tup ys)
   | none=>none
  | _=>none
structure Bp(m:aP)(J:List (Nat × Nat))(v v':AV):Prop where
 cv:Cv m J v v'
 nn:NN v'
 ce:jB m J v.cells v'.cells
theorem Bp.len{m:aP}{v':AV}(h:Bp m J v v'):v.cells.length=v'.cells.length:=h.ce.1
theorem mA{m:aP}{J:List (Nat × Nat)}{f:AV->Option AV}(hf:∀v v',f v=some v'->Bp m J v v'):∀{l l':List AV},CQ f l=some l'->l.length=l'.length/\∀(j:Nat) (a b:AV),l[j]? = some a->l'[j]? = some b->Bp m J a b
 | [],l',h=>by simp only[CQ] at h;cases h;exact⟨rfl,λj a b h=>by simp at h⟩
 | a::r,l',h=>by
  simp only[CQ] at h;split at h
  .cases h
  .rename_i b hb;split at h
   .cases h
   .rename_i t ht;cases h;obtain⟨h1,h2⟩:=mA hf ht;refine⟨by simp[h1],λj x y hx hy=>?_⟩;cases j with
    | zero=>simp at hx hy;subst hx hy;exact hf _ _ hb
    | succ j=>simp at hx hy;exact h2 j x y hx hy
theorem yZ{m:aP}{l l':List AV}(h1:l.length=l'.length)(h2:∀(j:Nat) (a b:AV),l[j]? = some a->l'[j]? = some b->Bp m J a b):kZ l':=λb hb=>by
 obtain⟨j,hj⟩:=aAU hb;obtain⟨a,ha⟩:=dZ h1 hj;exact(h2 j a b ha hj).nn
theorem Bp.one{m:aP}{v':AV}(h1:v.cells=[v])(h2:v'.cells=[v'])(hc:Cv m J v v')(hn:NN v'):Bp m J v v':=
 ⟨hc,hn,by rw[h1,h2];exact jB.cons hc .nil⟩
theorem qW{m:aP}{J:List (Nat × Nat)}:∀(n:Nat) (v v':AV),frz n J m v=some v'->Bp m J v v'
 | 0,v,v',h=>by simp[frz] at h
 | n+1,v,v',h=>by
  have ih:=qW (m:=m) (J:=J) n;cases v with
  | bool b=>simp only[frz] at h;cases h;exact .one rfl rfl (.same _ (.bool b)) (.bool b)
  | int k i=>simp only[frz] at h;cases h;exact .one rfl rfl (.same _ (.int k i)) (.int k i)
  | str s=>simp only[frz] at h;cases h;exact .one rfl rfl (.same _ (.str s)) (.str s)
  | nptr=>simp only[frz] at h;cases h;exact .one rfl rfl (.same _ .nptr) .nptr
  | nsl=>simp only[frz] at h;cases h;exact .one rfl rfl (.same _ .nsl) .nsl
  | nmap=>simp only[frz] at h;cases h;exact .one rfl rfl (.same _ .nmap) .nmap
  | nfn=>simp only[frz] at h;cases h;exact .one rfl rfl (.same _ .nfn) .nfn
  | nif=>simp only[frz] at h;cases h;exact .one rfl rfl (.same _ .nif) .nif
  | ptr id i j=>simp[frz] at h
  | mp id=>simp[frz] at h
  | ip v=>simp[frz] at h
  | fn f a b=>simp[frz] at h
  | junk=>simp[frz] at h
  | yld id=>simp[frz] at h
  | sl id off len=>
   simp only[frz] at h;split at h
   .rename_i hs;split at h
    .rename_i t sz xs hx;split at h
     .rename_i hle;split at h
      .rename_i ys hy;cases h;have hle:=aAi hle;obtain⟨h1,h2⟩:=mA ih hy;have hget:∀(i:Nat) (x y:AV),xs[off+i]? = some x->ys[i]? = some y->Bp m J x y:=λi x y hx hy=>by
        refine h2 i x y ?_ hy;have hlt:i<ys.length:=(aAg.1 hy).1;rw[<-h1] at hlt;rw[aAL,aAh (by simp at hlt;omega),aAV];exact hx
       refine .one rfl rfl (.fz id off len t sz xs ys hx hs hle (by rw[<-h1];simp;omega) (λi x y hx hy=>(hget i x y hx hy).len) λi x y j c c' hx hy hc hc'=>(hget i x y hx hy).ce.2 j c c' hc hc') ?_;exact NN.il' (yZ h1 h2)
      .cases h
     .cases h
    .cases h
   .cases h
  | il sz xs=>
   simp only[frz] at h;split at h
   .rename_i ys hy;cases h;obtain⟨h1,h2⟩:=mA ih hy;refine .one rfl rfl (.il sz xs ys h1 (λi x y hx hy=>(h2 i x y hx hy).len) λi x y j c c' hx hy hc hc'=>(h2 i x y hx hy).ce.2 j c c' hc hc') ?_;exact NN.il' (yZ h1 h2)
   .cases h
  | ifc t v=>
   simp only[frz] at h;split at h
   .rename_i v' hv;cases h;exact .one rfl rfl (.ifc t v v' (ih v v' hv).cv) (.ifc t v' (ih v v' hv).nn)
   .cases h
  | agg cs=>
   simp only[frz] at h;split at h
   .rename_i ys hy;cases h;obtain⟨h1,h2⟩:=mA ih hy;have hl:jB m J cs ys:=⟨h1,λj c c' hc hc'=>(h2 j c c' hc hc').cv⟩
    exact⟨.agg' hl,.agg' (yZ h1 h2),hl⟩
   .cases h
  | tup cs=>
   simp only[frz] at h;split at h
   .rename_i ys hy;cases h;obtain⟨h1,h2⟩:=mA ih hy;have hl:jB m J cs ys:=⟨h1,λj c c' hc hc'=>(h2 j c c' hc hc').cv⟩
    exact .one rfl rfl (.tup' hl) (.tup' (yZ h1 h2))
   .cases h
def VI:aP->List (Nat × Nat)
 | []=>[]
 | (i,_)::r=>(i,i)::VI r
theorem Wz:∀{i:Nat} {b:AB},lk mem i=some b->lk (VI mem) i=some i:=by
 induction mem with
 | nil=>intro i b h;simp[lk] at h
 | cons p r ih=>
  intro i b h;obtain⟨j,u⟩:=p;simp only[lk] at h;simp only[VI,lk];split at h
  .rename_i e;rw[Nat.eq_of_beq_eq_true e]
  .exact ih h
def Ni(m:aP):aP->Bool
 | []=>true
 | (i,b)::r=>(match b with
  | .row t sz xs=>match lk m i with
   | some (.row t' sz' xs')=>match CQ (frz 30 [] []) xs with
    | some ys=>Nat.beq t t' && (Nat.beq sz sz' && (tW xs' xs && tW ys xs))
    | none=>false
   | _=>false
  | _=>false) && Ni m r
theorem Db{m:aP}(J:List (Nat × Nat)):∀{mem:aP},Ni m mem=true->(∀p∈mem,lk J p.1=some p.1)->dR m J mem
 | [],h,hs=>trivial
 | (i,b)::r,h,hs=>by
  simp only[Ni,aAd] at h;refine⟨?_,Db J h.2 λp hp=>hs p (aAo _ hp)⟩;have h:=h.1;split at h
  .rename_i t sz xs;split at h
   .rename_i t' sz' xs' hl;split at h
    .rename_i ys hy;simp only[aAd] at h;obtain⟨h1,h2,h3,h4⟩:=h;have e1:=Nat.eq_of_beq_eq_true h1;have e2:=Nat.eq_of_beq_eq_true h2;have e3:=n7 h3;have e4:=n7 h4;subst e1 e2 e3 e4;obtain⟨g1,g2⟩:=mA (qW 30) hy;exact⟨i,ys,hs _ (aAv ..),hl,.same (yZ g1 g2)⟩
    .cases h
   .cases h
  .cases h
def Zo(mem:aP)(want r:AV)(m:aP):Bool:=
 match frz 30 (VI mem) m r with
 | some v=>match oG v want with
  | true=>Ni m mem
  | false=>false
 | none=>false
def Zt(mem:aP)(want r:AV)(m:aP):Prop:=
 match Zo mem want r m with
 | true=>True
 | false=>False
theorem TR:∀{mem:aP},(mem.map (·.1)).Nodup->∀p∈mem,lk (VI mem) p.1=some p.1:=by
 intro mem hn p hp;have:∃b,lk mem p.1=some b:=by
  clear hn
  induction mem with
  | nil=>cases hp
  | cons q r ih=>
   obtain⟨j,u⟩:=q;simp only[lk];split
   .exact⟨u,rfl⟩
   .rename_i e;rcases aAj.1 hp with rfl|hp
    .simp at e
    .exact ih hp
 obtain⟨b,hb⟩:=this;exact Wz hb
def IH(nx:Nat):aP->aP->(aP->aP->Prop)->Prop
 | [],acc,K=>K acc []
 | (i,b)::r,acc,K=>match Nat.ble nx i with
  | true=>IH nx r ((i,b)::acc) K
  | false=>K acc ((i,b)::r)
def N6(f:AV->(AV->Prop)->Prop->Prop):List AV->(List AV->Prop)->Prop->Prop
 | [],K,_=>K []
 | a::r,K,N=>f a (λb=>N6 f r (λt=>K (b::t)) N) N
def Pr:Nat->aP->AV->(AV->Prop)->Prop->Prop
 | 0,_,_,_,N=>N
 | n+1,m,v,K,N=>match v with
  | .bool b=>K (.bool b)
  | .int k i=>K (.int k i)
  | .str s=>K (.str s)
  | .nptr=>K .nptr
  | .nsl=>K .nsl
  | .nmap=>K .nmap
  | .nfn=>K .nfn
  | .nif=>K .nif
  | .sl id off len=>match lk m id with
   | some (.row t sz xs)=>match Nat.ble (off+len) xs.length with
    | true=>N6 (Pr n m) ((xs.drop off).take len) (λys=>K (.il sz ys)) N
    | false=>N
   | _=>N
  | .il sz xs=>N6 (Pr n m) xs (λys=>K (.il sz ys)) N
  | .ifc t v=>Pr n m v (λv'=>K (.ifc t v')) N
  | .agg cs=>N6 (Pr n m) cs (λys=>K (.agg ys)) N
  | .tup cs=>N6 (Pr n m) cs (λys=>K (.tup ys)) N
  | _=>N
theorem Fc{f:AV->(AV->Prop)->Prop->Prop}{g:AV->Option AV}{N:Prop}(hf:∀v K,f v K N->N\/∃v',g v=some v'/\K v'):∀{l:List AV} {K:List AV->Prop},N6 f l K N->N\/∃l',CQ g l=some l'/\K l'
 | [],K,h=>.inr ⟨[],rfl,h⟩
 | a::r,K,h=>by
  rcases hf a _ h with h|⟨b,h1,h⟩
  .exact .inl h
  .rcases Fc hf h with h|⟨t,h2,h⟩
   .exact .inl h
   .exact .inr ⟨b::t,by simp only[CQ,h1,h2],h⟩
theorem VH{m:aP}{N:Prop}:∀(n:Nat) (v:AV) (K:AV->Prop),Pr n m v K N->N\/∃v',frz n [] m v=some v'/\K v'
 | 0,v,K,h=>.inl h
 | n+1,v,K,h=>by
  have ih:=VH (m:=m) (N:=N) n;cases v with
  | bool b=>exact .inr ⟨_,rfl,h⟩
  | int k i=>exact .inr ⟨_,rfl,h⟩
  | str s=>exact .inr ⟨_,rfl,h⟩
  | nptr=>exact .inr ⟨_,rfl,h⟩
  | nsl=>exact .inr ⟨_,rfl,h⟩
  | nmap=>exact .inr ⟨_,rfl,h⟩
  | nfn=>exact .inr ⟨_,rfl,h⟩
  | nif=>exact .inr ⟨_,rfl,h⟩
  | ptr id i j=>exact .inl h
  | mp id=>exact .inl h
  | ip v=>exact .inl h
  | fn f a b=>exact .inl h
  | junk=>exact .inl h
  | yld id=>exact .inl h
  | sl id off len=>
   simp only[Pr] at h;split at h
   .rename_i t sz xs hx;split at h
    .rename_i hle;rcases Fc ih h with h|⟨ys,h1,h⟩
     .exact .inl h
     .exact .inr ⟨_,by simp only[frz,lk,hx,hle,h1],h⟩
    .exact .inl h
   .exact .inl h
  | il sz xs=>
   simp only[Pr] at h;rcases Fc ih h with h|⟨ys,h1,h⟩
   .exact .inl h
   .exact .inr ⟨_,by simp only[frz,h1],h⟩
  | ifc t v=>
   simp only[Pr] at h;rcases ih v _ h with h|⟨v',h1,h⟩
   .exact .inl h
   .exact .inr ⟨_,by simp only[frz,h1],h⟩
  | agg cs=>
   simp only[Pr] at h;rcases Fc ih h with h|⟨ys,h1,h⟩
   .exact .inl h
   .exact .inr ⟨_,by simp only[frz,h1],h⟩
  | tup cs=>
   simp only[Pr] at h;rcases Fc ih h with h|⟨ys,h1,h⟩
   .exact .inl h
   .exact .inr ⟨_,by simp only[frz,h1],h⟩
def Zn(nx:Nat)(K:AV->aP->Nat->Prop)(r:AV)(m:aP)(n:Nat):Prop:=
 IH nx m [] λm1 rest=>Pr 60 m1 r (λr'=>K r' rest n) (K r m n)
theorem KB{nx:Nat}:∀{m acc:aP} {K:aP->aP->Prop},IH nx m acc K->∃m0 rest,m=m0++rest/\K (m0.reverse++acc) rest
 | [],acc,K,h=>⟨[],[],rfl,h⟩
 | (i,b)::r,acc,K,h=>by
  simp only[IH] at h;split at h
  .obtain⟨m0,rest,h1,h2⟩:=KB h;exact⟨(i,b)::m0,rest,by rw[h1];rfl,su h2⟩
  .exact⟨[],(i,b)::r,rfl,h⟩
theorem MR.sub{rest:aP}(hm:MR Z X C D mem w)(hs:∀p∈rest,p∈mem)(hn:(rest.map (·.1)).Nodup):MR Z X C D rest w:=by
 have ho:∀b,¬OX X C mem b->¬OX X C rest b:=by
  rintro b h (h'|⟨p,hp,h1,h2⟩)
  .exact h (.inl h')
  .exact h (.inr ⟨p,hs p hp,h1,h2⟩)
 refine⟨λp h=>hm.low p (hs p h),λp h hn=>?_,λp h=>hm.emp p (hs p h),λp h q h'=>hm.inj p (hs p h) q (hs q h'),hn,λb hb=>⟨(hm.bar b hb).1,λ⟨p,hp,h1,h2⟩=>(hm.bar b hb).2 ⟨p,hs p hp,h1,h2⟩⟩,λp h=>(hm.glo p h).mono (λ_ _=>rfl) (λ_ h=>h) λb _ h=>⟨ho b h,rfl⟩⟩;obtain⟨o,h1,h2⟩:=hm.blk p (hs p h) hn;exact⟨o,h1,h2.mono (λ_ _=>rfl) (λ_ h=>h) λb _ h=>⟨ho b h,rfl⟩⟩
theorem RW(hΓ:∀p∈Z,NN p.2){Kp:Value->aP->Nat->Prop}(h:kR P Z F args mem nx (Zn nx K) Kp):kR P Z F args mem nx K Kp:=by
 refine⟨λX D C w vs hD hm hv=>(h.run X D C w vs hD hm hv).mono ?_⟩;rintro e w' ⟨m',n',C',hn,hm',hext,hend⟩;rcases hend with⟨r,v,rfl,hq,hr⟩|⟨x,rfl,hq⟩
 .obtain⟨m0,rest,rfl,hq⟩:=KB hq;rw[aA3] at hq;rcases VH 60 r _ hq with hq|⟨r',h1,hq⟩
  .exact⟨_,n',C',hn,hm',hext,.inl ⟨r,v,rfl,hq,hr⟩⟩
  .have hnd:=hm'.nod;rw[aBu,aCe] at hnd;obtain⟨d1,d2,d3⟩:=hnd;have hp:z8 (m0++rest) m0.reverse rest:=⟨λp h=>aAQ _ (aDc.1 h),λp h=>aBp _ h,λp h=>by
    rcases aAt.1 h with h|h
    .exact .inl (aDc.2 h)
    .exact .inr h,λp h1 q h2=>d3 _ (aAE.2 ⟨p,aDc.1 h1,rfl⟩) _ (aAE.2 ⟨q,h2,rfl⟩),by
    rw[List.map_reverse];exact List.pairwise_reverse.2 (d1.imp λh=>Ne.symm h)⟩
   obtain⟨p1,pv⟩:=hm'.part hp;have hF:=qW (m:=m0.reverse) (J:=[]) 60 r r' h1;obtain⟨-,v1,-⟩:=Fq (J:=[]) (m':=[]) (n':=n') hΓ hD p1 (λp hp=>by cases hp) aC4 (λi j k h=>by simp[lk] at h) (λi j h=>by simp[lk] at h);have e:pV [] C' C'=C':=funext λi=>CO (by rintro⟨j,h⟩;simp[lk] at h)
   have hv':=v1 r r' hF.cv v (pv _ _ hr);rw[e] at hv';refine⟨rest,n',C',hn,hm'.sub (λp h=>aBp _ h) d2,⟨hext.le,hext.agree,hext.size,hext.keep,λp h=>hext.fresh p (aBp _ h),hext.env⟩,.inl ⟨r',v,rfl,hq,hv'.mono (λ_ _=>rfl) (λ_ h=>h) λb _ ho=>⟨λh=>ho (.inl ?_),rfl⟩⟩⟩;exact h
 .exact⟨m',n',C',hn,hm',hext,.inr ⟨x,rfl,hq⟩⟩
def Yi:List (Nat × List AV × AV)->Nat->List AV->(AV->Prop)->Prop->Prop
 | [],_,_,_,N=>N
 | (G,as',r)::t,F,args,K,N=>match Nat.beq G F with
  | true=>match tW args as' with
   | true=>K r
   | false=>Yi t F args K N
  | false=>Yi t F args K N
def fH(P:Program)(Z:List (Nat × AV))(tb:List (Nat × List AV × AV)):Prop:=∀e∈tb,aT P Z e.1 e.2.1 e.2.2/\kZ e.2.1/\NN e.2.2
theorem Qz{P:Program}{Z:List (Nat × AV)}(hΓ:∀p∈Z,NN p.2){F:Nat}{args:List AV}{mem:aP}{nx:Nat}{K:AV->aP->Nat->Prop}{N:Prop}:∀{tb:List (Nat × List AV × AV)},fH P Z tb->Yi tb F args (λr=>K r mem nx) N->N\/aH P Z F args mem nx K
 | [],_,h=>.inl h
 | (G,as',r)::t,ht,h=>by
  have h2:fH P Z t:=λe he=>ht e (aAo _ he)
  simp only[Yi] at h;split at h
  .rename_i hG;split at h
   .rename_i he;have e1:=Nat.eq_of_beq_eq_true hG;have e2:=n7 he;subst e1 e2;obtain⟨g1,g2,g3⟩:=ht _ (aAv ..);exact .inr (g1.use hΓ g2 g3 h)
   .exact Qz hΓ h2 h
  .exact Qz hΓ h2 h
def p7(P:Program)(Z:List (Nat × AV))(tb:List (Nat × List AV × AV))(dl pl:List Nat):Nat->Hk
 | 0=>{ call:=λ_ _ _ _ _ _=>False,loop:=λ_ _ _=>False }
 | n+1=>{
   call:=λF args mem nx K Kp=>Yi tb F args (λr=>K r mem nx) (match Nat.beq F YF with
    | false=>match P.funcs[F]? with
     | some fn=>match fn.body with
      | some c=>match WN F dl with
       | false=>match WN F pl with
        | false=>CZ fn.ntmps args mem nx λs=>E0 true P Z (p7 P Z tb dl pl n) c s (Nj P fn.results.toList K Kp)
        | true=>CZ fn.ntmps args mem nx λs=>E0 true P Z (p7 P Z tb dl pl n) c s (Nj P fn.results.toList (Zn nx K) Kp)
       | true=>CZ fn.ntmps args mem nx λs=>Lv true P Z (p7 P Z tb dl pl n) c s (Qd P Z (p7 P Z tb dl pl n) fn.results.toList K Kp)
      | none=>False
     | none=>False
    | true=>False)
   loop:=λc s Q=>E0 true P Z (p7 P Z tb dl pl n) c s λe s'=>match e with
    | .normal=>(p7 P Z tb dl pl n).loop c s' Q
    | e=>Q e s' }
theorem Hf(P:Program)(Z:List (Nat × AV))(hΓ:∀p∈Z,NN p.2)(ht:fH P Z tb)(dl pl:List Nat):∀n B,CK P Z B (p7 P Z tb dl pl n) /\
  ∀c s Q,(p7 P Z tb dl pl n).loop c s Q->∀rd X ds D C a w,(∀i,D i->i<B)->SR Z X ds C (dn D B s.nx) s a w->B<=s.nx->DZ rd ds c ->
   Code.roundsIn (FW rd) 0 P c (λe a' w'=>∃(s':St) (C':Nat->dP),Q e s'/\B<=s'.nx/\SR Z X ds C' (dn D B s'.nx) s' a' w'/\Ext D C s.mem w C' (dn D B s'.nx) s'.mem w') n a w:=by
 intro n
 induction n with
 | zero=>exact λB=>⟨⟨λ_ _ _ _ _ _ h=>h.elim,λ_ _ _ h=>h.elim⟩,λ_ _ _ h=>h.elim⟩
 | succ n ih=>
  intro B;have hr:∀c s Q,(p7 P Z tb dl pl (n+1)).loop c s Q->∀rd X ds D C a w,(∀i,D i->i<B)->SR Z X ds C (dn D B s.nx) s a w->B<=s.nx->DZ rd ds c ->
    Code.roundsIn (FW rd) 0 P c (λe a' w'=>∃(s':St) (C':Nat->dP),Q e s'/\B<=s'.nx/\SR Z X ds C' (dn D B s'.nx) s' a' w'/\Ext D C s.mem w C' (dn D B s'.nx) s'.mem w') (n+1) a w:=by
   intro c s Q h rd X ds D C a w hD hs hB hno;have h':=(iC (ih B).1 c s _ h).run rd X ds D C a w hD hs hB hno;rw[roundsIn_succ];refine wpIn_mono h' ?_;rintro e a1 w1 ⟨s1,ρ1,hq,hB1,hs1,hext⟩;cases e with
   | normal=>
    have key:=(ih B).2 c s1 Q hq rd X ds D ρ1 a1 w1 hD hs1 hB1 hno;refine DY n a1 w1 _ _ ?_ key;rintro e a2 w2 ⟨s2,ρ2,h1,h2,h3,h4⟩;exact⟨s2,ρ2,h1,h2,h3,hext.trans h4⟩
   | exit id=>exact⟨s1,ρ1,hq,hB1,hs1,hext⟩
   | goto l=>exact⟨s1,ρ1,hq,hB1,hs1,hext⟩
   | ret=>exact⟨s1,ρ1,hq,hB1,hs1,hext⟩
   | panic ch=>exact⟨s1,ρ1,hq,hB1,hs1,hext⟩
   | outgrown=>exact⟨s1,ρ1,hq,hB1,hs1,hext⟩
  refine⟨⟨λF args mem nx K Kp h=>?_,λc s Q h=>⟨λrd X ds D C a w hD hs hB hno=>wpIn_loop_rounds (n+1) (hr c s Q h rd X ds D C a w hD hs hB hno.loop)⟩⟩,hr⟩;simp only[p7] at h;rcases Qz (K:=K) hΓ ht h with h'|h'
  rotate_left
  .exact h'.toP
  clear h;have h:=h';clear h';split at h
  .rename_i hF;split at h
   .rename_i fn hf;split at h
    .rename_i c hc;split at h
     .split at h
      .exact yD hf hc ((iC (ih nx).1 _ _ _ (sA h)).mono λ_ _ h=>NK h) hF
      .exact RW hΓ (yD hf hc ((iC (ih nx).1 _ _ _ (sA h)).mono λ_ _ h=>NK h) hF)
     .exact Dj hf hc (MO (λB=>(ih B).1) nx _ _ _ (sA h)) hF
    .exact h.elim
   .exact h.elim
  .exact h.elim
theorem En(hΓ:∀p∈Z,NN p.2)(ht:fH P Z tb)(dl pl:List Nat)(n:Nat)(h:(p7 P Z tb dl pl n).call F args mem nx Q λ_ _ _=>False):aH P Z F args mem nx Q:=
 ((Hf P Z hΓ ht dl pl n nx).1.call F args mem nx Q _ h).toC λ_ _ _ h=>h
theorem cK{P:Program}{Z:List (Nat × AV)}{F:FuncId}{args:List AV}{mem:aP}{nx:Nat}{want:AV}(hΓ:∀p∈Z,NN p.2){tb:List (Nat × List AV × AV)}(ht:fH P Z tb)(dl pl:List Nat)(n:Nat)
  (hc:(pW (VI mem) && (pU mem && (wE nx nx (VI mem) && Nat.ble nx nx)))=true)
  (h:((p7 P Z tb dl pl n).call F args mem nx (λr m _=>Zt mem want r m) λ_ _ _=>False)=True):aH P Z F args mem nx λr m k=>r=want/\m=mem/\k=nx:=by
 refine aH.turn hΓ ((En hΓ ht dl pl n (by rw[h];trivial)).mono λr m k hk=>?_);unfold Zt at hk;split at hk
 .rename_i hb;unfold Zo at hb;split at hb
  .rename_i v hv;split at hb
   .rename_i he;have e:=CB he;subst e;have hn:(mem.map (·.1)).Nodup:=by
     simp only[aAd] at hc;exact gU hc.2.1
    exact aW (VI mem) hc (Db _ hb (TR hn)) (qW 30 r v hv).cv ⟨rfl,rfl,rfl⟩
   .cases hb
  .cases hb
 .exact hk.elim
theorem fH.nil:fH P Z []:=λe h=>by cases h
theorem fH.cons{F:Nat}{r:AV}{t:List (Nat × List AV × AV)}(h:aT P Z F xs r)(h1:CQ (frz 30 [] []) xs=some xs)(h2:frz 30 [] [] r=some r)(ht:fH P Z t):fH P Z ((F,xs,r)::t):=by
 intro e he;rcases aAj.1 he with rfl|he
 .obtain⟨g1,g2⟩:=mA (m:=[]) (J:=[]) (qW 30) h1;exact⟨h,yZ g1 g2,(qW (m:=[]) (J:=[]) 30 r r h2).nn⟩
 .exact ht e he
end Go.Ax
