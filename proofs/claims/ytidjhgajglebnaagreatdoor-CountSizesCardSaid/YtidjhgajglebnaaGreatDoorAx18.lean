/- A part of the proof. -/
import Derived.Test.YtidjhgajglebnaaGreatDoorAx17
set_option linter.unusedSectionVars false
set_option linter.unusedVariables false
set_option linter.unusedSimpArgs false
set_option maxRecDepth 1000000
set_option maxHeartbeats 16000000
namespace Go.Proofs.YtidjhgajglebnaaGreatDoor
open Go Go.Ax Go.Proofs Tryz
variable{n i k:Nat}
def bZ(l:List Nat):List AV:=l.map λn=>mM ((n:Nat):Int)
theorem cC(l:List Nat):kZ (bZ l):=λa h=>by
 obtain⟨n,-,rfl⟩:=aAE.1 h;exact Bk _
theorem fP(l:List Nat):(bZ l).length=l.length:=by simp[bZ]
theorem jS{l:List Nat}(h:i<l.length):(bZ l)[((i:Nat):Int).toNat]? = some (.agg [.bool false,.il 1 (bR (dg 4294967296 (co l i)))]):=by
 rw[aAc,bZ,aAK,aAa h,aBM,dU];unfold co;rw[aAb,aAa h];rfl
theorem CT(l:List Nat)(i n:Nat):(bZ l).set i (.agg [.bool false,.il 1 (bR (dg 4294967296 n))])=bZ (l.set i n):=by
 rw[bZ,bZ,aCs,dU]
def Pv(a b:List Nat)(k:Nat):List Nat:=(iY a b).take k++a.drop k
theorem IC{a b:List Nat}(h:b.length<=a.length)(hk:k<=a.length):(Pv a b k).length=a.length:=by
 unfold Pv;rw[aAA,aAR,aBw,kV];omega
theorem JZ(a b:List Nat):Pv a b 0=a:=by simp[Pv]
theorem NB{a b:List Nat}(h:b.length<=a.length):Pv a b b.length=iY a b:=by
 refine aCf λj=>?_
 have hl:=kV a b;unfold Pv;rw[aAO,aAR];split
 .rename_i h1;rw[aAL,aAh om]
 .rename_i h1;rw[aAV,show b.length+(j-min b.length (iY a b).length)=j by omega];rcases aAr j a.length with h2|h2
  .have e:=wI a b j;rw[oE (l:=b) om,aBo] at e;unfold co at e;rw[aAb,aAb,aAa om,aAa h2] at e;rw[aAa h2,aAa om];simp only[aBv] at e;rw[e]
  .rw[aAs h2,aAs om]
theorem J3{a b:List Nat}(h:b.length<=a.length)(hk:k<b.length):Pv a b (k+1)=(Pv a b k).set k (co a k+co b k):=by
 have hl:=kV a b;refine aCf λj=>?_
 rw[aBQ];have e:=wI a b k;unfold co at e;rw[aAb,aAa om,aBv] at e;split
 .rename_i h1;subst h1;rw[aAh (by rw[IC h om];omega)];unfold Pv;rw[aAM (by rw[aAR];omega),aAL,aAh om,aAa om,e];rfl
 .rename_i h1;unfold Pv;rw[aAO,aAO,aAR,aAR,aAL,aAL,aAV,aAV];rcases aAr j k with h2|h2
  .rw[aAh om,aAh om,aAh om,aAh om]
  .rw[aAe om,aAe om];congr 1;omega
theorem Wp(a b:List Nat)(ha:a.length<=100000)(hb:b.length<=100000)(hs:∀k,co a k+co b k<=j8 256):aT prog [] 117 [.il 2 (bZ a),.il 2 (bZ b),.fn (.func 76) [] []] (.il 2 (bZ (iY a b))):=by
 have la:=fP a;have lb:=fP b;have na:=cC a;have nb:=cC b;refine aD bE func117 rfl ?_;refine Rr ?_;rw[la,lb];refine aI (λh0=>?_) (λh0=>?_)
 .have hab:a.length<=b.length:=by
   have:a.length<b.length:=su h0
   omega
  refine Rr ?_;refine aN (cD rfl rfl rfl (by rw[lb];omega)) ?_;refine Rr ?_;rw[la];have hz:=JZ b a;have he:=NB hab;have hnx:=λ(k:Nat) (hk:k<a.length)=>J3 hab hk
  have hln:=λ(k:Nat) (hk:k<=b.length)=>IC hab hk
  generalize Pv b a=G at *;refine bA.at bE (λk:Nat=>k<=a.length) (λk=>⟨[(0,.il 2 (bZ b)),(1,.il 2 (bZ a)),(2,.fn (.func 76) [] []),(7,.sl 0 0 b.length),(20,.int .i64 a.length),(21,.int .i64 k)],[(0,.row 33 2 (bZ (G k)))],1,39⟩) (λk=>a.length-k) 0 [(1,0)] (aAN _)
   (aE _ rfl ⟨⟨1,_,rfl,rfl,.eq (cC _) (by rw[hz];simp)⟩,trivial⟩ ⟨aM (.il' nb),aM (.il' na),aM (eI _),⟨_,rfl,.slE rfl (by simp[lb])⟩,aJ,aJ,trivial⟩) ?_
  intro k hk;refine Rr ?_;refine aI (λhbb=>?_) (λhbb=>?_)
  .have hlt:k<a.length:=su hbb
   have e1:=jS (l:=b) (i:=k) om;have e2:=jS (l:=a) (i:=k) hlt;have hS:=XF (co b k) (co a k) (by have:=hs k;omega);rw[dU,dU,dU] at hS;have hset:=CT (G k) k (co b k+co a k);rw[<-hnx k hlt] at hset;have lG:=fP (G k);rw[hln k om] at lG;have nS:=cC (G (k+1));have hx1:NN (.agg [.bool false,.il 1 (bR (dg 4294967296 (co b k)))]):=.agg' (.cons (tB _) (.cons (tU _) .nil));have hx2:NN (.agg [.bool false,.il 1 (bR (dg 4294967296 (co a k)))]):=.agg' (.cons (tB _) (.cons (tU _) .nil));have hx3:NN (.agg [.bool false,.il 1 (bR (dg 4294967296 (co b k+co a k)))]):=.agg' (.cons (tB _) (.cons (tU _) .nil));have bx:Nat.blt ((k:Nat):Int).toNat b.length=true:=aAf (by simp;omega);generalize bR (dg 4294967296 (co b k))=x1 at *;generalize bR (dg 4294967296 (co a k))=x2 at *;generalize bR (dg 4294967296 (co b k+co a k))=x3 at *;have hy:(bZ (G k))[0+((k:Nat):Int).toNat]? = _:=(congrArg (λj=>(bZ (G k))[j]?) (aAF _)).trans (jS (l:=G k) (i:=k) (by have:=hln k om;omega));generalize bR (dg 4294967296 (co (G k) k))=x4 at *;generalize bZ (G k)=Y at *;refine Rt ?_;repeat((first|refine aN bx ?_|refine aB e1 ?_|refine aB e2 ?_);refine Rt ?_)
   refine hS.go ?_ (.cons hx1 (.cons hx2 .nil)) hx3;refine Rt ?_;repeat((first|refine aN bx ?_|refine aB e1 ?_|refine aB e2 ?_|refine aB hy ?_);refine Rt ?_)
   exact .mk (k+1) [(0,0)] om
    (aE _ rfl ⟨⟨0,_,rfl,rfl,.eq nS (by rw[<-hset];simp)⟩,trivial⟩ ⟨aM (.il' nb),aM (.il' na),aM (eI _),⟨_,rfl,.sl 0 0 0 _ rfl⟩,aJ,⟨_,rfl,.int (by rw[aV oq];simp)⟩,trivial⟩) om
  .have hke:k=a.length:=by
    have:¬k<a.length:=su hbb
    omega
   rw[hke,he];have lP:=kV b a;refine Rr ?_;exact aW (n':=0) (m':=[]) [] rfl trivial (Cv.fzR (id:=0) rfl rfl (sH.eq (cC _) (by rw[GC])) (by rw[fP,kV];omega)) ⟨rfl,rfl,rfl⟩
 .have hab:b.length<=a.length:=by
   have:¬a.length<b.length:=su h0
   omega
  refine Rr ?_;refine aN (cD rfl rfl rfl (by rw[la];omega)) ?_;refine Rr ?_;rw[lb];have hz:=JZ a b;have he:=NB hab;have hnx:=λ(k:Nat) (hk:k<b.length)=>J3 hab hk
  have hln:=λ(k:Nat) (hk:k<=a.length)=>IC hab hk
  generalize Pv a b=G at *;refine bA.at bE (λk:Nat=>k<=b.length) (λk=>⟨[(0,.il 2 (bZ a)),(1,.il 2 (bZ b)),(2,.fn (.func 76) [] []),(7,.sl 0 0 a.length),(20,.int .i64 b.length),(21,.int .i64 k)],[(0,.row 33 2 (bZ (G k)))],1,39⟩) (λk=>b.length-k) 0 [(1,0)] (aAN _)
   (aE _ rfl ⟨⟨1,_,rfl,rfl,.eq (cC _) (by rw[hz];simp)⟩,trivial⟩ ⟨aM (.il' na),aM (.il' nb),aM (eI _),⟨_,rfl,.slE rfl (by simp[la])⟩,aJ,aJ,trivial⟩) ?_
  intro k hk;refine Rr ?_;refine aI (λhbb=>?_) (λhbb=>?_)
  .have hlt:k<b.length:=su hbb
   have e1:=jS (l:=a) (i:=k) om;have e2:=jS (l:=b) (i:=k) hlt;have hS:=XF (co a k) (co b k) (by have:=hs k;omega);rw[dU,dU,dU] at hS;have hset:=CT (G k) k (co a k+co b k);rw[<-hnx k hlt] at hset;have lG:=fP (G k);rw[hln k om] at lG;have nS:=cC (G (k+1));have hx1:NN (.agg [.bool false,.il 1 (bR (dg 4294967296 (co a k)))]):=.agg' (.cons (tB _) (.cons (tU _) .nil));have hx2:NN (.agg [.bool false,.il 1 (bR (dg 4294967296 (co b k)))]):=.agg' (.cons (tB _) (.cons (tU _) .nil));have hx3:NN (.agg [.bool false,.il 1 (bR (dg 4294967296 (co a k+co b k)))]):=.agg' (.cons (tB _) (.cons (tU _) .nil));have bx:Nat.blt ((k:Nat):Int).toNat a.length=true:=aAf (by simp;omega);generalize bR (dg 4294967296 (co a k))=x1 at *;generalize bR (dg 4294967296 (co b k))=x2 at *;generalize bR (dg 4294967296 (co a k+co b k))=x3 at *;have hy:(bZ (G k))[0+((k:Nat):Int).toNat]? = _:=(congrArg (λj=>(bZ (G k))[j]?) (aAF _)).trans (jS (l:=G k) (i:=k) (by have:=hln k om;omega));generalize bR (dg 4294967296 (co (G k) k))=x4 at *;generalize bZ (G k)=Y at *;refine Rt ?_;repeat((first|refine aN bx ?_|refine aB e1 ?_|refine aB e2 ?_);refine Rt ?_)
   refine hS.go ?_ (.cons hx1 (.cons hx2 .nil)) hx3;refine Rt ?_;repeat((first|refine aN bx ?_|refine aB e1 ?_|refine aB e2 ?_|refine aB hy ?_);refine Rt ?_)
   exact .mk (k+1) [(0,0)] om
    (aE _ rfl ⟨⟨0,_,rfl,rfl,.eq nS (by rw[<-hset];simp)⟩,trivial⟩ ⟨aM (.il' na),aM (.il' nb),aM (eI _),⟨_,rfl,.sl 0 0 0 _ rfl⟩,aJ,⟨_,rfl,.int (by rw[aV oq];simp)⟩,trivial⟩) om
  .have hke:k=b.length:=by
    have:¬k<b.length:=su hbb
    omega
   rw[hke,he];have lP:=kV a b;refine Rr ?_;exact aW (n':=0) (m':=[]) [] rfl trivial (Cv.fzR (id:=0) rfl rfl (sH.eq (cC _) (by rfl)) (by rw[fP,kV];omega)) ⟨rfl,rfl,rfl⟩
theorem uL{mem:aP}{J:List (Nat × Nat)}:∀n:Nat,sH mem J (List.replicate n (.agg [.bool false,.nsl])) (bZ (List.replicate n 0))
 | 0=>.nil
 | n+1=>by
  rw[aA6,aA6];have e:bZ (0::List.replicate n 0) = .agg [.bool false,.il 1 []]::bZ (List.replicate n 0):=by
   show mM ((0:Nat):Int)::_=_
   rw[dU,fL];rfl
  rw[e];exact .cons (.agg (.cons (.same _ (tB _)) (.cons (.nil 1) .nil))) (uL n)
theorem NE(a b:List Nat)(m:Nat)(hm:m<=100000)(ha:a.length<=100000)(hb:b.length<=100000)(sa:∀k,co a k<=j8 256)(sb:∀k,co b k<=j8 256)(hs:∀k≤m,xN (co a) (co b) k<=j8 256) :
  aT prog [] 115 [.il 2 (bZ a),.il 2 (bZ b),.int .i64 m,.fn (.func 76) [] [],.fn (.func 77) [] []] (.il 2 (bZ (g8 m a b))):=by
 have la:=fP a;have lb:=fP b;have na:=cC a;have nb:=cC b;refine aD bE func115 rfl ?_;by_cases a0:a=[]
 .have e:g8 m a b=[]:=by unfold g8;rw[aAh (.inl a0)]
  rw[e];subst a0;refine Rt ?_;exact aW (n':=0) (m':=[]) [] rfl trivial (.nil 2) ⟨rfl,rfl,rfl⟩
 .have pa:0<a.length:=aA5.2 a0;have d0:(((a.length:Nat):Int) == 0)=false:=beq_eq_false_iff_ne.2 om;by_cases b0:b=[]
  .have e:g8 m a b=[]:=by unfold g8;rw[aAh (.inr b0)]
   rw[e];subst b0;refine Rr ?_;rw[la,d0];refine Rt ?_;exact aW (n':=0) (m':=[]) [] rfl trivial (.nil 2) ⟨rfl,rfl,rfl⟩
  .have pb:0<b.length:=aA5.2 b0;have d1:(((b.length:Nat):Int) == 0)=false:=beq_eq_false_iff_ne.2 om;have w1:IntKind.i64.wrap (((a.length:Nat):Int)+((b.length:Nat):Int))=((a.length+b.length:Nat):Int):=by rw[aV oq];simp
   have w2:IntKind.i64.wrap (((a.length+b.length:Nat):Int)-1)=((a.length+b.length-1:Nat):Int):=by rw[aV oq];omega
   have w3:IntKind.i64.wrap (((m:Nat):Int)+1)=((m+1:Nat):Int):=by rw[aV oq];simp
   refine Rr ?_;rw[la,d0];refine Rr ?_;rw[lb,d1];refine Rt ?_;obtain⟨n,hn⟩:∃n,n=min (a.length+b.length-1) (m+1):=⟨_,rfl⟩
   have hmin:(if ((m+1:Nat):Int)<((a.length+b.length-1:Nat):Int) then((m+1:Nat):Int) else((a.length+b.length-1:Nat):Int))=((n:Nat):Int):=by
    split<;>omega
   rw[la,lb,w1,w2,w3,hmin];refine aN (bV rfl (bV rfl (bV rfl (bV (aAn om) (bV (aAn om) (bV (sZ rfl om om) (aAn om))))))) ?_;refine Rt ?_;rw[la];have hend:=TD (m:=m) a0 b0;rw[<-hn] at hend;have h0:=Ql a b n;have hlen:=λi j=>Ma a b n i j
   have hco:=λ(i j k:Nat) (h:k<n)=>W9 (a:=a) (b:=b) (i:=i) (j:=j) h
   have hnx:=λi j=>RR (a:=a) (b:=b) (n:=n) (i:=i) (j:=j)
   have hrow:=λi=>UC (a:=a) (b:=b) (n:=n) (i:=i)
   have hstep:=Px a b;generalize I4 a b n=G at *;refine bA.at bE (λi:Nat=>i<=a.length) (λi=>⟨[(0,.il 2 (bZ a)),(1,.il 2 (bZ b)),(3,.fn (.func 76) [] []),(4,.fn (.func 77) [] []),(11,.sl 0 0 n),(33,.int .i64 a.length),(34,.int .i64 i)],[(0,.row 33 2 (bZ (G i 0)))],1,74⟩) (λi=>a.length-i) 0 [(0,0)] (aAN _)
    (aE _ rfl ⟨⟨0,_,rfl,rfl,by rw[h0];exact sH.to (uL n) sq⟩,trivial⟩ ⟨aM (.il' na),aM (.il' nb),aM (eI _),aM (eI _),⟨_,rfl,.slE rfl sq⟩,aJ,aJ,trivial⟩) ?_
   intro i hi;refine Rr ?_;refine aI (λhbb=>?_) (λhbb=>?_)
   .have hlt:i<a.length:=su hbb
    refine Rr ?_;rw[lb];refine bA.at bE (λj:Nat=>j<=b.length) (λj=>⟨[(0,.il 2 (bZ a)),(1,.il 2 (bZ b)),(3,.fn (.func 76) [] []),(4,.fn (.func 77) [] []),(11,.sl 0 0 n),(12,.int .i64 i),(33,.int .i64 a.length),(34,.int .i64 i),(38,.int .i64 b.length),(39,.int .i64 j)],[(0,.row 33 2 (bZ (G i j)))],1,74⟩) (λj=>b.length-j) 0 [(0,0)] (aAN _)
     (aE _ rfl ⟨aL 0 (cC _),trivial⟩ ⟨aM (.il' na),aM (.il' nb),aM (eI _),aM (eI _),⟨_,rfl,.sl 0 0 0 _ rfl⟩,aJ,aJ,aJ,aJ,aJ,trivial⟩) ?_
    intro j hj;refine Rr ?_;refine aI (λhb2=>?_) (λhb2=>?_)
    .have hlt2:j<b.length:=su hb2
     have w4:IntKind.i64.wrap (((i:Nat):Int)+((j:Nat):Int))=((i+j:Nat):Int):=by rw[aV oq];simp
     have hn1:=hnx i j;refine Rr ?_;rw[w4];refine aI (λhb3=>?_) (λhb3=>?_)
     .have hlt3:i+j<n:=by have:=aAY hb3;omega
      rw[aAh hlt3] at hn1;have hst:=hstep i j;have hcv:=aAx hst (hs (i+j) om);have hgc:=hco i j (i+j) hlt3;have hset:=CT (G i j) (i+j) (IE a b i j (i+j)+co a i*co b j);rw[<-hn1] at hset;have hle:IE a b i j (i+j)<=j8 256:=om;have hle2:co a i*co b j<=j8 256:=om;have hP:=Xh (co a i) (co b j) (sa i) (sb j) hle2;have hS:=XF (IE a b i j (i+j)) (co a i*co b j) hcv;have e1:=jS hlt;have e2:=jS hlt2;have hy:(bZ (G i j))[0+(((i+j:Nat):Int)).toNat]? = _:=(congrArg (λq=>(bZ (G i j))[q]?) (aAF _)).trans (jS (l:=G i j) (i:=i+j) (by rw[hlen];exact hlt3));rw[hgc] at hy;have lG:=fP (G i j);rw[hlen] at lG;have nS:=cC (G i (j+1));have bx:Nat.blt (((i+j:Nat):Int)).toNat n=true:=aAf (by simp;omega);rw[dU,dU,dU] at hP hS;generalize IE a b i j (i+j)=g at *;have hx1:NN (.agg [.bool false,.il 1 (bR (dg 4294967296 (co a i)))]):=.agg' (.cons (tB _) (.cons (tU _) .nil));have hx2:NN (.agg [.bool false,.il 1 (bR (dg 4294967296 (co b j)))]):=.agg' (.cons (tB _) (.cons (tU _) .nil));have hx3:NN (.agg [.bool false,.il 1 (bR (dg 4294967296 (co a i*co b j)))]):=.agg' (.cons (tB _) (.cons (tU _) .nil));have hx4:NN (.agg [.bool false,.il 1 (bR (dg 4294967296 g))]):=.agg' (.cons (tB _) (.cons (tU _) .nil));have hx5:NN (.agg [.bool false,.il 1 (bR (dg 4294967296 (g+co a i*co b j)))]):=.agg' (.cons (tB _) (.cons (tU _) .nil));generalize bR (dg 4294967296 (g+co a i*co b j))=x5 at *;generalize bR (dg 4294967296 (co a i*co b j))=x3 at *;generalize bR (dg 4294967296 (co a i))=x1 at *;generalize bR (dg 4294967296 (co b j))=x2 at *;generalize bR (dg 4294967296 g)=x4 at *;generalize bZ (G i j)=Y at *;refine Rt ?_;repeat((first|rw[w4]|refine aN bx ?_|refine aB e1 ?_|refine aB e2 ?_|refine aB hy ?_);refine Rt ?_)
      refine hP.go ?_ (.cons hx1 (.cons hx2 .nil)) hx3;refine Rt ?_;repeat((first|rw[w4]|refine aN bx ?_|refine aB e1 ?_|refine aB e2 ?_|refine aB hy ?_);refine Rt ?_)
      refine hS.go ?_ (.cons hx4 (.cons hx3 .nil)) hx5;refine Rt ?_;repeat((first|rw[w4]|refine aN bx ?_|refine aB e1 ?_|refine aB e2 ?_|refine aB hy ?_);refine Rt ?_)
      exact .mk (j+1) [(0,0)] om
       (aE _ rfl ⟨⟨0,_,rfl,rfl,.eq nS (by rw[<-hset,show 0+(((i+j:Nat):Int)).toNat=i+j by rw[aAc,aAF]])⟩,trivial⟩ ⟨aM (.il' na),aM (.il' nb),aM (eI _),aM (eI _),⟨_,rfl,.sl 0 0 0 _ rfl⟩,aJ,aJ,aJ,aJ,⟨_,rfl,.int (by rw[aV oq];simp)⟩,trivial⟩) om
     .have hlt3:¬i+j<n:=by have:=aBA hb3;omega
      rw[aAe hlt3] at hn1;refine Rr ?_;exact .mk (j+1) [(0,0)] om
       (aE _ rfl ⟨⟨0,_,rfl,rfl,.eq (cC _) (by rw[hn1])⟩,trivial⟩ ⟨aM (.il' na),aM (.il' nb),aM (eI _),aM (eI _),⟨_,rfl,.sl 0 0 0 _ rfl⟩,aJ,aJ,aJ,aJ,⟨_,rfl,.int (by rw[aV oq];simp)⟩,trivial⟩) om
    .have hje:j=b.length:=by
      have:¬j<b.length:=su hb2
      omega
     have hr:=hrow i;rw[hje,hr];refine Rr ?_;exact .mk (i+1) [(0,0)] om
      (aE _ rfl ⟨aL 0 (cC _),trivial⟩ ⟨aM (.il' na),aM (.il' nb),aM (eI _),aM (eI _),⟨_,rfl,.sl 0 0 0 _ rfl⟩,aJ,⟨_,rfl,.int (by rw[aV oq];simp)⟩,trivial⟩) om
   .have hie:i=a.length:=by
     have:¬i<a.length:=su hbb
     omega
    rw[hie,hend];have hll:(g8 m a b).length=n:=by rw[<-hend];exact hlen _ _
    refine Rr ?_;exact aW (n':=0) (m':=[]) [] rfl trivial (Cv.fzR (id:=0) rfl rfl (.same (cC _)) (by rw[fP,hll])) ⟨rfl,rfl,rfl⟩
theorem vG(n:Nat)(l:List Nat):bZ (n::l) = .agg [.bool false,.il 1 (bR (dg 4294967296 n))]::bZ l:=by
 show mM ((n:Nat):Int)::bZ l=_
 rw[dU]
theorem W5(hn:n<=j8 256)(k:Nat):xN (co [0,1]) (co [n]) k<=j8 256:=by
 have:=Go.Ax.LE (m:=k) (n:=n) (aAp k);unfold Dm at this;rw[yR (aAp k)] at this;rw[this];split
 .exact hn
 .exact aAN _
theorem UL(h:n<=1099511627776):n<=j8 256:=aAx h (by rw[<-D5];exact fC om)
theorem Zm(m n:Nat)(hm:m<=100000)(hn:n<=1099511627776):aT prog [] 114 [.int .i64 n,.ip (.int .i64 m)] (.il 2 (bZ (Dm m n))):=by
 have hb:=UL hn;have hF1:=SL 1 oq;have hFn:=SL (n:Int) oq;rw[show (1:Int)=((1:Nat):Int) from rfl,dU] at hF1;rw[dU] at hFn;have hT:=NE [0,1] [n] m hm sq sq (λk=>by
  have h1:1<=j8 256:=pA _
  match k with
  | 0=>exact aAN _
  | 1=>exact h1
  | k+2=>rw[oE sq];exact aAN _) (λk=>by
  match k with
  | 0=>exact hb
  | k+1=>rw[oE sq];exact aAN _) λk _=>W5 hb k
 have hr:=cC (g8 m [0,1] [n]);have e1:bZ [0,1]=[.agg [.bool false,.il 1 []],.agg [.bool false,.il 1 (bR (dg 4294967296 1))]]:=by rw[vG,vG,fL];rfl
 have e2:bZ [n]=[.agg [.bool false,.il 1 (bR (dg 4294967296 n))]]:=by rw[vG];rfl
 rw[e1,e2] at hT;have n1:NN (.agg [.bool false,.il 1 (bR (dg 4294967296 1))]):=.agg' (.cons (tB _) (.cons (tU _) .nil));have n2:NN (.agg [.bool false,.il 1 (bR (dg 4294967296 n))]):=.agg' (.cons (tB _) (.cons (tU _) .nil));unfold Dm;generalize bR (dg 4294967296 1)=x1 at *;generalize bR (dg 4294967296 n)=x2 at *;generalize bZ (g8 m [0,1] [n])=R at *;refine aD bE func114 rfl ?_;refine Rr ?_;refine hF1.go ?_ (.cons nn .nil) n1;refine Rt ?_;refine hFn.go ?_ (.cons nn .nil) n2;refine Rt ?_;refine hT.drop bE (jB.cons (Cv.fzR (id:=2) rfl rfl (.cons (.agg (.cons (.same _ (tB _)) (.cons (.nil 1) .nil))) (.cons (.same n1) .nil)) rfl) (jB.cons (Cv.fzR (id:=5) rfl rfl (.same (.cons n2 .nil)) rfl) (jB.cons (Cv.same _ nn) (jB.cons (Cv.same _ (eI _)) (jB.cons (Cv.same _ (eI _)) jB.nil))))) (.il' hr) ?_;refine Rt ?_;exact aA (.il' hr) ⟨rfl,rfl,rfl⟩
def WD(m:Nat):AV:=.fn (.func 114) [] [.ip (.int .i64 m)]
theorem Ck(m:Nat):NN (WD m):=.fn _ _ _ sq (λj c hj=>by
 cases j with
 | zero=>simp at hj;subst hj;exact .ip' nn
 | succ j=>simp at hj)
theorem EV(F:FuncId)(a:AV)(h:NN a):NN (.fn (.func F) [] [a]):=.fn _ _ _ sq (λj c hj=>by
 cases j with
 | zero=>simp at hj;subst hj;exact h
 | succ j=>simp at hj)
theorem X0(a b:List Nat)(ha:a.length<=100000)(hb:b.length<=100000)(hs:∀k,co a k+co b k<=j8 256):aT prog [] 116 [.il 2 (bZ a),.il 2 (bZ b)] (.il 2 (bZ (iY a b))):=by
 have hP:=Wp a b ha hb hs;have na:=cC a;have nb:=cC b;have nr:=cC (iY a b);generalize bZ (iY a b)=R at *;generalize bZ a=x at *;generalize bZ b=y at *;refine aD bE func116 rfl ?_;refine Rr ?_;refine hP.go ?_ (.cons (.il' na) (.cons (.il' nb) (.cons (eI _) .nil))) (.il' nr);refine Rt ?_;exact aA (.il' nr) ⟨rfl,rfl,rfl⟩
theorem X5(a b:List Nat)(m:Nat)(hm:m<=100000)(ha:a.length<=100000)(hb:b.length<=100000)(sa:∀k,co a k<=j8 256)(sb:∀k,co b k<=j8 256)(hs:∀k≤m,xN (co a) (co b) k<=j8 256) :
  aT prog [] 118 [.il 2 (bZ a),.il 2 (bZ b),.ip (.int .i64 m)] (.il 2 (bZ (g8 m a b))):=by
 have hP:=NE a b m hm ha hb sa sb hs;have na:=cC a;have nb:=cC b;have nr:=cC (g8 m a b);generalize bZ (g8 m a b)=R at *;generalize bZ a=x at *;generalize bZ b=y at *;refine aD bE func118 rfl ?_;refine Rt ?_;refine hP.go ?_ (.cons (.il' na) (.cons (.il' nb) (.cons nn (.cons (eI _) (.cons (eI _) .nil))))) (.il' nr);refine Rt ?_;exact aA (.il' nr) ⟨rfl,rfl,rfl⟩
theorem SJ(m:Nat)(hm:m<=100000)(p:AV)(c:Int):aT prog [] 119 [p,.int .i64 c,.ip (WD m)] (.il 2 (bZ (Dm m 1))):=by
 have hU:=Zm m 1 hm om;have nr:=cC (Dm m 1);generalize bZ (Dm m 1)=R at *;unfold WD;refine aD bE func119 rfl ?_;refine Rt ?_;refine hU.go ?_ (.cons nn (.cons (.ip' nn) .nil)) (.il' nr);refine Rt ?_;exact aA (.il' nr) ⟨rfl,rfl,rfl⟩
theorem YS(m:Nat)(hm:m<=100000)(x:Nd)(h1:x.kind=1)(hn:Go.Ax.d7 x=true):aT prog [] 120 [.ip (cW x),.ip (WD m)] (.il 2 (bZ (Dm m (x.hi-x.lo+1).toNat))):=by
 obtain⟨r1,r2,r3,r4⟩:=dG hn;have hO:=YC x λ_=>hn
 have ho:Um x=(((x.hi-x.lo+1).toNat:Nat):Int):=by
  show (if x.kind=1 then x.hi-x.lo+1 else _)=_
  rw[aAh h1];omega
 rw[ho] at hO;have hU:=Zm m (x.hi-x.lo+1).toNat hm om;have nr:=cC (Dm m (x.hi-x.lo+1).toNat);have nx:=bB x;generalize bZ (Dm m (x.hi-x.lo+1).toNat)=R at *;generalize (x.hi-x.lo+1).toNat=n at *;generalize cW x=y at *;unfold WD;refine aD bE func120 rfl ?_;refine Rt ?_;refine hO.go ?_ (.cons (.ip' nx) .nil) nn;refine Rt ?_;refine hU.go ?_ (.cons nn (.cons (.ip' nn) .nil)) (.il' nr);refine Rt ?_;exact aA (.il' nr) ⟨rfl,rfl,rfl⟩
end Go.Proofs.YtidjhgajglebnaaGreatDoor
namespace Go.Proofs.YtidjhgajglebnaaGreatDoor
open Go Go.Ax Go.Proofs Tryz
variable{J:List (Nat × Nat)}{A:List Nd}{i j:Nat}{mem:aP}{L:List Key}
class UZ(m:Nat):Prop where
 le:m<=90000
theorem Yw(m:Nat)[h:UZ m]:m<=100000:=aAx h.le om
def cG:Option (List Nat)->AV
 | none=>.agg [.il 2 [],.bool false]
 | some l=>.agg [.il 2 (bZ l),.bool true]
theorem cQ(o:Option (List Nat)):NN (cG o):=by
 cases o with
 | none=>exact .agg' (.cons (.il' (cC [])) (.cons (tB _) .nil))
 | some n=>exact .agg' (.cons (.il' (cC _)) (.cons (tB _) .nil))
def rI(mx:Nat)(A:List Nd)(mid:Nat):AV:=.agg [.il 12 (bJ A),.il 2 (bZ [1]),.fn (.func 116) [] [],.fn (.func 118) [] [.ip (.int .i64 mx)],.fn (.func 119) [] [.ip (WD mx)],.fn (.func 120) [] [.ip (WD mx)],.mp mid]
def eO(mx:Nat)(A:List Nd)(L:List Key):aP:=[(0,.row 211 7 [rI mx A 1]),(1,.mapb (kK cG (aY mx) A L))]
theorem pL{mx:Nat}(h:lk J i=some j):CH mem J (rI mx A i) (rI mx A j):=
 .agg (.cons (.same _ (.il' (aR A))) (.cons (.same _ (.il' (cC _))) (.cons (.same _ (eI _)) (.cons (.same _ (EV _ _ (.ip' nn))) (.cons (.same _ (EV _ _ (.ip' (Ck _)))) (.cons (.same _ (EV _ _ (.ip' (Ck _)))) (.cons (.mp _ _ h) .nil)))))))
theorem cH{mx:Nat}(s0:lk J i=some 0)(s1:lk J j=some 1)(m0:lk mem i=some (.row 211 7 [rI mx A j]))(m1:lk mem j=some (.mapb (kK cG (aY mx) A L))):dR mem J (eO mx A L):=
 ⟨⟨i,_,s0,m0,.cons (pL s1) .nil⟩,⟨j,_,s1,m1,l7 cQ L⟩,trivial⟩
theorem CF:Cv mem J (.agg [.nsl,.bool false]) (cG none):=.agg' (.cons (.nil 2) (.cons (.same _ (tB _)) .nil))
theorem vO:CH mem J (.agg [.nsl,.bool false]) (cG none):=.agg (.cons (.nil 2) (.cons (.same _ (tB _)) .nil))
theorem Cg(l:List Nat):CH mem J (.agg [.il 2 (bZ l),.bool true]) (cG (some l)):=.agg (.cons (.same _ (.il' (cC _))) (.cons (.same _ (tB _)) .nil))
theorem kC(o:Option (List Nat)):∃x b,cG o = .agg [.il 2 x,.bool b]:=by cases o<;>exact⟨_,_,rfl⟩
theorem oN(x:List AV)(b:Bool)(h:NN (.agg [.il 2 x,.bool b])):CH mem J (.agg [.il 2 x,.bool b]) (.agg [.il 2 x,.bool b]):=.same h
theorem Mz(c:Bool)(l:List Nat):NN (.agg [.il 2 (bZ l),.bool c]):=.agg' (.cons (.il' (cC _)) (.cons (tB _) .nil))
theorem rC.up1(m:Nat):rC m (some (Dm m 1)):=λl e=>by
 refine⟨oB.up l e,λk=>?_⟩;injection e with e;subst e;rcases aAr m k with h|h
 .have:=oB.up (m:=m) (n:=1) _ rfl;rw[oE om];exact aAN _
 .rw[Go.Ax.LE h];split
  .exact pA _
  .exact aAN _
section
variable {mx:Nat} [UZ mx]
theorem Qy(L:List Key)(a b:Option (List Nat))(ha:rC mx a)(hb:rC mx b)(h:rC mx (c8 (aY mx) a b)):
  aH prog [] 185 [.ptr 0 0 0,cG a,cG b] (eO mx A L) 2 λr m k=>r=cG (c8 (aY mx) a b)/\m=eO mx A L/\k=2:=by
 have hlm:=(inferInstance:UZ mx).le;refine aD bE func185 rfl ?_;cases a with
 | none=>
  cases b with
  | none=>
   refine Rr ?_;exact aW (n':=2) (m':=eO mx A L) [(0,0),(1,1)] rfl (cH (i:=0) (j:=1) rfl rfl rfl rfl) CF ⟨rfl,rfl,rfl⟩
  | some y=>
   refine Rr ?_;exact aW (n':=2) (m':=eO mx A L) [(0,0),(1,1)] rfl (cH (i:=0) (j:=1) rfl rfl rfl rfl) CF ⟨rfl,rfl,rfl⟩
 | some x=>
  cases b with
  | none=>
   refine Rr ?_;exact aW (n':=2) (m':=eO mx A L) [(0,0),(1,1)] rfl (cH (i:=0) (j:=1) rfl rfl rfl rfl) CF ⟨rfl,rfl,rfl⟩
  | some y=>
   obtain⟨a1,a2⟩:=ha x rfl;obtain⟨b1,b2⟩:=hb y rfl;obtain⟨c1,c2⟩:=h (g8 mx x y) rfl;have hP:=X5 x y mx om om om a2 b2 (λk hk=>by have:=c2 k;rwa [yR hk] at this);have hr:cG (c8 (aY mx) (some x) (some y)) = .agg [.il 2 (bZ (g8 mx x y)),.bool true]:=rfl;rw[hr];refine Rr ?_;refine hP.go ?_ (.cons (.il' (cC _)) (.cons (.il' (cC _)) (.cons (.ip' nn) .nil))) (.il' (cC _));refine Rt ?_;exact aW (n':=2) (m':=eO mx A L) [(0,0),(1,1)] rfl (cH (i:=0) (j:=1) rfl rfl rfl rfl) (.same _ (cQ (some (g8 mx x y)))) ⟨rfl,rfl,rfl⟩
theorem Su(L:List Key)(a b:Option (List Nat))(ha:rC mx a)(hb:rC mx b)(h:rC mx (fX (aY mx) a b)):
  aH prog [] 186 [.ptr 0 0 0,cG a,cG b] (eO mx A L) 2 λr m k=>r=cG (fX (aY mx) a b)/\m=eO mx A L/\k=2:=by
 have hlm:=(inferInstance:UZ mx).le;refine aD bE func186 rfl ?_;cases a with
 | none=>
  have hr:cG (fX (aY mx) none b)=cG b:=by cases b<;>rfl
  rw[hr];cases b with
  | none=>
   refine Rr ?_;exact aW (n':=2) (m':=eO mx A L) [(0,0),(1,1)] rfl (cH (i:=0) (j:=1) rfl rfl rfl rfl) (.same _ (cQ none)) ⟨rfl,rfl,rfl⟩
  | some y=>
   refine Rr ?_;exact aW (n':=2) (m':=eO mx A L) [(0,0),(1,1)] rfl (cH (i:=0) (j:=1) rfl rfl rfl rfl) (.same _ (cQ (some y))) ⟨rfl,rfl,rfl⟩
 | some x=>
  cases b with
  | none=>
   refine Rr ?_;exact aW (n':=2) (m':=eO mx A L) [(0,0),(1,1)] rfl (cH (i:=0) (j:=1) rfl rfl rfl rfl) (.same _ (cQ (some x))) ⟨rfl,rfl,rfl⟩
  | some y=>
   obtain⟨a1,a2⟩:=ha x rfl;obtain⟨b1,b2⟩:=hb y rfl;obtain⟨c1,c2⟩:=h (iY x y) rfl;have hP:=X0 x y om om (λk=>by have:=c2 k;rwa [wI] at this);have hr:cG (fX (aY mx) (some x) (some y)) = .agg [.il 2 (bZ (iY x y)),.bool true]:=rfl;rw[hr];refine Rr ?_;refine hP.go ?_ (.cons (.il' (cC _)) (.cons (.il' (cC _)) .nil)) (.il' (cC _));refine Rt ?_;exact aW (n':=2) (m':=eO mx A L) [(0,0),(1,1)] rfl (cH (i:=0) (j:=1) rfl rfl rfl rfl) (.same _ (cQ (some (iY x y)))) ⟨rfl,rfl,rfl⟩
theorem yY{A:List Nd}{L:List Key}{a b:Option (List Nat)}(ha:rC mx a)(hb:rC mx b)(h:rC mx (c8 (aY mx) a b)){x y r:AV}{mem:aP}{nx:Nat}{K:AV->aP->Nat->Prop}(ea:cG a=x)(eb:cG b=y)(er:cG (c8 (aY mx) a b)=r)(hp:i5 [0,1] mem=eO mx A L)
  (hk:K r (eO mx A L++iJ [0,1] mem) nx):aH prog [] 185 [.ptr 0 0 0,x,y] mem nx K:=by
 subst ea eb er;refine aH.useI bE [0,1] (Qy L a b ha hb h) hp (.cons (.ptr 0 0 0 0 rfl) (.cons (.same _ (cQ a)) (.cons (.same _ (cQ b)) .nil))) (cH (i:=0) (j:=1) rfl rfl rfl rfl) rfl ?_;rintro r m k ⟨rfl,rfl,rfl⟩;exact⟨cQ _,cH (i:=0) (j:=1) rfl rfl rfl rfl,rfl,hk⟩
theorem D9{A:List Nd}{L:List Key}{a b:Option (List Nat)}(ha:rC mx a)(hb:rC mx b)(h:rC mx (fX (aY mx) a b)){x y r:AV}{mem:aP}{nx:Nat}{K:AV->aP->Nat->Prop}(ea:cG a=x)(eb:cG b=y)(er:cG (fX (aY mx) a b)=r)(hp:i5 [0,1] mem=eO mx A L)
  (hk:K r (eO mx A L++iJ [0,1] mem) nx):aH prog [] 186 [.ptr 0 0 0,x,y] mem nx K:=by
 subst ea eb er;refine aH.useI bE [0,1] (Su L a b ha hb h) hp (.cons (.ptr 0 0 0 0 rfl) (.cons (.same _ (cQ a)) (.cons (.same _ (cQ b)) .nil))) (cH (i:=0) (j:=1) rfl rfl rfl rfl) rfl ?_;rintro r m k ⟨rfl,rfl,rfl⟩;exact⟨cQ _,cH (i:=0) (j:=1) rfl rfl rfl rfl,rfl,hk⟩
end
end Go.Proofs.YtidjhgajglebnaaGreatDoor
namespace Go.Proofs.YtidjhgajglebnaaGreatDoor
open Go Go.Ax Go.Proofs Tryz
variable{A:List Nd}{id:Nat}{mem:aP}{L:List Key}
section
variable {mx:Nat} [UZ mx]
theorem Nl{k:Key}(hL:∀q∈L,dW q)(hk:dW k)(hm:lk mem id=some (.mapb (kK cG (aY mx) A L))):
  sK prog mem 209 (.mp id) (rQ k) true=some (if o0 L k=true then .tup [cG (Dl (aY mx) A k),.bool true] else .tup [.agg [.nsl,.bool false],.bool false]):=by
 have key:(match gT prog 152 (rQ k) (kK cG (aY mx) A L) 0 with
     | some (some (_,v))=>some (AV.tup [v,.bool true])
     | some none=>some (AV.tup [.agg [.nsl,.bool false],.bool false])
     | none=>none)=some (if o0 L k=true then .tup [cG (Dl (aY mx) A k),.bool true] else .tup [.agg [.nsl,.bool false],.bool false]):=by
  cases h:o0 L k with
  | false=>rw[rH L 0 h];rfl
  | true=>obtain⟨j,hj,-⟩:=oL hk L 0 hL h;rw[hj];rfl
 have u:Tryz.prog.underlying 209=some (.map 152 201):=rfl;have ak:H8 prog 152 (rQ k)=true:=by
  unfold rQ;generalize Dh k.2=c;rfl
 have z:nP prog 201=some (.agg [.nsl,.bool false]):=rfl;unfold sK;simp only[u,ak,hm,z];exact key
def IK(mx:Nat)(A:List Nd)(o:Option (List Nat)):AV->aP->Nat->Prop:=λr m k=>∃L',(∀q∈L',dW q)/\r=cG o/\m=eO mx A L'/\k=2
def M9(mx:Nat)(A:List Nd)(i:Nat):Prop:=∀(L:List Key) (v:aQ),(∀q∈L,dW q)->iO v->bF v<=1000000->aH prog [] 187 [.ptr 0 0 0,.int .i64 i,cO v] (eO mx A L) 2 (IK mx A ((aZ (aY mx)).of A i v))
def RB(mx:Nat)(A:List Nd)(i:Nat)(w:List UInt8)(res:Option (List Nat))(a:List Key):St:=⟨[(0,.ptr 0 0 0),(6,.ptr 2 0 0),(9,.ptr 3 0 0),(13,.ptr 4 0 0)],[(0,.row 211 7 [rI mx A 1]),(1,.mapb (kK cG (aY mx) A a)),(2,.row 201 2 [.agg [.nsl,.bool false]]),(3,.row 152 2 [.agg [.int .i64 i,.str w]]),(4,.row 201 2 [cG res])],5,215⟩
theorem pE{A:List Nd}{i:Nat}{w:List UInt8}{res:Option (List Nat)}{a:List Key}{s:St}{y:AV}{ia ib ic:Nat}{J:List (Nat × Nat)}(hnt:s.nt=215)(t0:lk J 0=some 0)(t1:lk J 1=some 1)(ta:lk J ia=some 2)(tb:lk J ib=some 3)(tc:lk J ic=some 4)(m0:lk s.mem 0=some (.row 211 7 [rI mx A 1]))(m1:lk s.mem 1=some (.mapb (kK cG (aY mx) A a)))
  (m2:lk s.mem ia=some (.row 201 2 [.agg [.nsl,.bool false]])) (m3:lk s.mem ib=some (.row 152 2 [.agg [.int .i64 i,.str w]])) (m4:lk s.mem ic=some (.row 201 2 [y]))
  (hy:CH s.mem J y (cG res)) (s0:lk s.sl 0=some (.ptr 0 0 0)) (s6:lk s.sl 6=some (.ptr ia 0 0)) (s9:lk s.sl 9=some (.ptr ib 0 0)) (s13:lk s.sl 13=some (.ptr ic 0 0))
  (hc:(pW J && (pU (RB mx A i w res a).mem && (wE 2 5 J && Nat.ble 2 5)))=true):Conv 2 J s (RB mx A i w res a):=by
 obtain⟨sl,mem,nx,nt⟩:=s;simp only at hnt m0 m1 m2 m3 m4 s0 s6 s9 s13 hy;subst hnt;exact aE _ hc ⟨⟨0,_,t0,m0,.cons (pL t1) .nil⟩,⟨1,_,t1,m1,l7 cQ a⟩,⟨ia,_,ta,m2,.same (.cons (.agg' (.cons .nsl (.cons (tB _) .nil))) .nil)⟩,⟨ib,_,tb,m3,.same (.cons (.agg' (.cons nn (.cons nn .nil))) .nil)⟩,⟨ic,_,tc,m4,.cons hy .nil⟩,trivial⟩
  ⟨⟨_,s0,.ptr 0 0 0 0 t0⟩,⟨_,s6,.ptr ia 2 0 0 ta⟩,⟨_,s9,.ptr ib 3 0 0 tb⟩,⟨_,s13,.ptr ic 4 0 0 tc⟩,trivial⟩
theorem K4(o:Option (List Nat)):fX (aY mx) o none=o:=by cases o<;>rfl
theorem It(o:Option (List Nat)):c8 (aY mx) o none=none:=by cases o<;>rfl
theorem zD{A:List Nd}{j:Nat}(ih:M9 mx A j){L:List Key}{v:aQ}{r:AV}{mem:aP}{nx:Nat}{K:AV->aP->Nat->Prop}(hL:∀q∈L,dW q)(ho:iO v)(hz:bF v<=1000000)(hp:i5 [0,1] mem=eO mx A L)(er:cG ((aZ (aY mx)).of A j v)=r)
  (hk:∀L',(∀q∈L',dW q)->K r (eO mx A L'++iJ [0,1] mem) nx):aH prog [] 187 [.ptr 0 0 0,.int .i64 j,cO v] mem nx K:=by
 subst er;refine aH.useI bE [0,1] (ih L v hL ho hz) hp (.cons (.ptr 0 0 0 0 rfl) (.s (.cons (.same _ (dC v)) .nil))) (cH (i:=0) (j:=1) rfl rfl rfl rfl) rfl ?_;rintro r m k ⟨L',h1,rfl,rfl,rfl⟩;exact⟨cQ _,cH (i:=0) (j:=1) rfl rfl rfl rfl,rfl,hk L' h1⟩
def Fw(mx:Nat)(A:List Nd)(i:Nat)(w:List UInt8)(v:aQ)(a:List Key)(o:Option (List Nat)):aP:=[(0,.row 211 7 [rI mx A 1]),(1,.mapb (kK cG (aY mx) A a)),(2,.row 55 4 [cO v]),(3,.row 201 2 [.agg [.nsl,.bool false]]),(4,.row 152 2 [.agg [.int .i64 i,.str w]]),(5,.row 201 2 [cG o])]
theorem rN{A:List Nd}{i:Nat}{w:List UInt8}{v:aQ}{a:List Key}{o:Option (List Nat)}{mem:aP}{J:List (Nat × Nat)}{ib ic id ie:Nat}{y:AV}(s0:lk J 0=some 0)(s1:lk J 1=some 1)(sb:lk J ib=some 2)(sc:lk J ic=some 3)(sd:lk J id=some 4)(se:lk J ie=some 5)(m0:lk mem 0=some (.row 211 7 [rI mx A 1]))(m1:lk mem 1=some (.mapb (kK cG (aY mx) A a)))
  (m2:lk mem ib=some (.row 55 4 [cO v])) (m3:lk mem ic=some (.row 201 2 [.agg [.nsl,.bool false]])) (m4:lk mem id=some (.row 152 2 [.agg [.int .i64 i,.str w]])) (m5:lk mem ie=some (.row 201 2 [y])) (hy:CH mem J y (cG o)):dR mem J (Fw mx A i w v a o):=
 ⟨⟨0,_,s0,m0,.cons (pL s1) .nil⟩,⟨1,_,s1,m1,l7 cQ a⟩,⟨ib,_,sb,m2,.same (.cons (dC v) .nil)⟩,⟨ic,_,sc,m3,.same (.cons (.agg' (.cons .nsl (.cons (tB _) .nil))) .nil)⟩,⟨id,_,sd,m4,.same (.cons (.agg' (.cons nn (.cons nn .nil))) .nil)⟩,⟨ie,_,se,m5,.cons hy .nil⟩,trivial⟩
theorem Vz(h:VT A)(i:Nat)(hi:i<A.length)(ih:∀j<i,M9 mx A j):M9 mx A i:=by
 intro L v hL ho hz;have hx:=b9 hi;have hxm:=aAm hx;have gx:=h.node hx;have hE:=NX v ho hz;have nv:=dC v;have hkm:=λ(k:Int) (hk:k∈(aG A i).kids)=>eH h hx hk
 have en:(bJ A)[((i:Nat):Int).toNat]? = some (cW (aG A i)):=by simp[jW,hx]
 have nN:=bB (aG A i);by_cases vv:bG v=0
 .rw[aAh vv,vv] at hE;have hlk:=λ(mem:aP) (id:Nat) (hm:lk mem id=some (.mapb (kK cG (aY mx) A L)))=>Nl (k:=(i,some v)) hL ⟨ho,vv⟩ hm
  have hko:rQ (i,some v) = .agg [.int .i64 i,.str (fI v)]:=rfl;have hvk:Dl (aY mx) A (i,some v)=(aZ (aY mx)).of A i v:=rfl;rw[hko] at hlk;have hkok:dW (i,some v):=⟨ho,vv⟩
  have hfn:∀a,o0 a (i,some v)=false->gT prog 152 (.agg [.int .i64 i,.str (fI v)]) (kK cG (aY mx) A a) 0=some none:=λa e=>rH (k:=(i,some v)) a 0 e
  have hfy:∀a,(∀q∈a,dW q)->o0 a (i,some v)=true->∃j,gT prog 152 (.agg [.int .i64 i,.str (fI v)]) (kK cG (aY mx) A a) 0=some (some (0+j,cG ((aZ (aY mx)).of A i v)))/\(kK cG (aY mx) A a)[j]? = some (.agg [.int .i64 i,.str (fI v)],cG ((aZ (aY mx)).of A i v)):=λa ha e=>oL (k:=(i,some v)) hkok a 0 ha e
  have hsn:∀a,kK cG (aY mx) A (a++[(i,some v)])=kK cG (aY mx) A a++[(.agg [.int .i64 i,.str (fI v)],cG ((aZ (aY mx)).of A i v))]:=λa=>BY cG (aY mx) A a (i,some v)
  have hss:z7 (.agg [.int .i64 i,.str (fI v)]) (.agg [.int .i64 i,.str (fI v)])=true:=uX (i,some v);have hp:=JL (aY mx) h hi vv;generalize fI v=w at *;obtain⟨vk,vn,vs,vks⟩:=v;have nw:NN (.il 1 (eF w)):=.il' (c7 w);have tw:gB (eF w)=some w:=oD w;generalize hres:(aZ (aY mx)).of A i (.mk vk vn vs vks)=res at *;cases hh:o0 L (i,some (.mk vk vn vs vks)) with
  | true=>
   rw[hh,aAh rfl,hvk] at hlk;clear hp;refine aD bE func187 rfl ?_;cases res <;>
   .refine Rr ?_;refine hE.go ?_ (.cons nv .nil) (.tup' (.cons nw (.cons nn .nil)));refine Rr ?_;repeat((first|refine dE.2 ?_|refine bQ ?_|refine aB tw ?_|refine aB en ?_|refine aB (hlk _ _ rfl) ?_);refine Rr ?_)
    first
    | exact aW (n':=2) (m':=eO mx A L) [(0,0),(1,1)] rfl (cH (i:=0) (j:=1) rfl rfl rfl rfl) (.same _ (Mz _ _)) ⟨L,hL,rfl,rfl,rfl⟩
    | exact aW (n':=2) (m':=eO mx A L) [(0,0),(1,1)] rfl (cH (i:=0) (j:=1) rfl rfl rfl rfl) (.same _ (Mz _ [])) ⟨L,hL,rfl,rfl,rfl⟩
  | false=>
   rw[hh,aAe sq] at hlk;have hkc:=gx.node.kind;have hyo:=(h.tin.ok _ hxm).value;have hsf:=Ug (m:=mx) h hi;have hcf:=λh2=>Tl (m:=mx) h hi h2 vv
   have hbf:=λh4=>UT (m:=mx) h hi h4 (λu hu=>h.vals_valid hx hu) vv
   have hov:=λ(j:Nat) (hj:j<i) (u:aQ)=>QK (A:=A) (m:=mx) h (i:=j) om (v:=u)
   have hbl:=gx.node.bind;have hkl:=h.tin.klen _ hxm;have hvl0:=h.tin.vlen _ hxm;have hvv:∀u∈(aG A i).values,iO u/\bF u<=1000000/\bG u=0:=λu hu=>⟨((h.tin.ok _ hxm).valuesI u hu).1,by have:=(iF (h.vals_valid hx hu)).2.2;omega,h.vals_valid hx hu⟩
   generalize aG A i=x at *;obtain⟨xk,xn,xl,xh,xw,xb,xv,xc,⟨yk,yn,ys,yks⟩⟩:=x;simp only at hkc hp hkm hsf hcf hbf hbl hvv hkl hvl0;refine aD bE func187 rfl ?_;refine Rr ?_;refine hE.go ?_ (.cons nv .nil) (.tup' (.cons nw (.cons nn .nil)));refine Rr ?_;repeat((first|refine dE.2 ?_|refine bQ ?_|refine aB tw ?_|refine aB en ?_|refine aB (hlk _ _ rfl) ?_);refine Rr ?_)
   refine' gC.joinC (P:=prog) (B:=2) (rest:=H9 Tryz.f187) (Q:=MS prog (Tryz.f187).results.toList (rE 2 (IK mx A res))) bE (λa:List Key=>∀q∈a,dW q) (λa=>RB mx A i w res a) (λhJ=>?_) (λa ha=>?_)
   .refine aI (λh=>?_) (λh=>?_)
    .have k0:xk=0:=su h
     rw[aAh k0] at hp;have hC:=rZ (.mk yk yn ys yks) (.mk vk vn vs vks) hyo;refine Rt ?_;refine hC.go ?_ (.cons (dC _) (.cons nv .nil)) nn;refine Rt ?_;by_cases e:cJ (.mk yk yn ys yks) (.mk vk vn vs vks)=0
     .rw[aAh e] at hp;rw[e];(conv=>whnf);refine gC.many ?_;(conv=>whnf);refine n8.many ?_;(conv=>whnf);refine hJ L _ [(0,0),(1,1),(3,2),(4,3),(17,4)] hL ?_;exact pE rfl rfl rfl rfl rfl rfl rfl rfl rfl rfl rfl (by rw[hp];exact Cg [1]) rfl rfl rfl rfl rfl
     .rw[aAe e] at hp;rw[show (cJ (.mk yk yn ys yks) (.mk vk vn vs vks) == 0)=false by simpa using e];(conv=>whnf);refine gC.many ?_;(conv=>whnf);refine hJ L _ [(0,0),(1,1),(3,2),(4,3),(17,4)] hL ?_;exact pE rfl rfl rfl rfl rfl rfl rfl rfl rfl rfl rfl (by rw[hp];exact vO) rfl rfl rfl rfl rfl
    .have k0:xk≠0:=su h
     rw[aAe k0] at hp;refine Rr ?_;refine aI (λh=>?_) (λh=>?_)
     .have k1:xk=1:=su h
      rw[aAh k1] at hp;refine Rt ?_;have hir:yE ⟨xk,xn,xl,xh,xw,xb,xv,xc,.mk yk yn ys yks⟩ (.mk vk vn vs vks)=(decide (vk=0) && decide (xl<=vn) && decide (vn<=xh)):=rfl;rw[hir] at hp;by_cases e1:vk=0
      .rw[show (vk == 0)=true by simpa using e1];refine Rr ?_;by_cases e2:xl<=vn
       .rw[show decide (vn≥xl)=true by simpa using e2];refine Rr ?_;by_cases e3:vn<=xh
        .rw[show decide (vn<=xh)=true by simpa using e3];rw[aAn e1,aAn e2,aAn e3,aBY,aBY,aAh rfl] at hp;refine Rr ?_;have hO:=SJ mx (Yw mx) (.ip (cW ⟨xk,xn,xl,xh,xw,xb,xv,xc,.mk yk yn ys yks⟩)) (IntKind.i64.wrap (vn-xl));refine hO.go ?_ (.cons (.ip' nN) (.cons nn (.cons (.ip' (Ck _)) .nil))) (.il' (cC _));(conv=>whnf);repeat(first|(refine hJ L _ [(0,0),(1,1),(3,2),(4,3),(17,4)] hL ?_;exact pE rfl rfl rfl rfl rfl rfl rfl rfl rfl rfl rfl (by rw[hp];exact Cg (Dm mx 1)) rfl rfl rfl rfl rfl;done)|(refine Xg ?_;conv=>whnf))
        .rw[show decide (vn<=xh)=false by simpa using e3];rw[aAw e3,aBR,aAe sq] at hp;(conv=>whnf);repeat(first|(refine hJ L _ [(0,0),(1,1),(3,2),(4,3),(17,4)] hL ?_;exact pE rfl rfl rfl rfl rfl rfl rfl rfl rfl rfl rfl (by rw[hp];exact vO) rfl rfl rfl rfl rfl;done)|(refine Xg ?_;conv=>whnf))
       .rw[show decide (vn≥xl)=false by simpa using e2];rw[aAw e2,aBR,aBK,aAe sq] at hp;(conv=>whnf);repeat(first|(refine hJ L _ [(0,0),(1,1),(3,2),(4,3),(17,4)] hL ?_;exact pE rfl rfl rfl rfl rfl rfl rfl rfl rfl rfl rfl (by rw[hp];exact vO) rfl rfl rfl rfl rfl;done)|(refine Xg ?_;conv=>whnf))
      .rw[show (vk == 0)=false by simpa using e1];rw[aAw e1,aBK,aBK,aAe sq] at hp;(conv=>whnf);repeat(first|(refine hJ L _ [(0,0),(1,1),(3,2),(4,3),(17,4)] hL ?_;exact pE rfl rfl rfl rfl rfl rfl rfl rfl rfl rfl rfl (by rw[hp];exact vO) rfl rfl rfl rfl rfl;done)|(refine Xg ?_;conv=>whnf))
     .have k1:xk≠1:=su h
      rw[aAe k1] at hp;refine Rr ?_;refine aI (λh=>?_) (λh=>?_)
      .have k3:xk=3:=su h
       rw[aAh k3] at hp;refine Rr ?_;have hM:=Nv ⟨xk,xn,xl,xh,xw,xb,xv,xc,.mk yk yn ys yks⟩ (.mk vk vn vs vks);refine hM.go ?_ (.cons (.ip' nN) (.cons nv .nil)) nn;cases hm:jA ⟨xk,xn,xl,xh,xw,xb,xv,xc,.mk yk yn ys yks⟩ (.mk vk vn vs vks) with
       | false=>
        rw[hm,aAe sq] at hp;(conv=>whnf);repeat(first|(refine hJ L _ [(0,0),(1,1),(3,2),(4,3),(17,4)] hL ?_;exact pE rfl rfl rfl rfl rfl rfl rfl rfl rfl rfl rfl (by rw[hp];exact vO) rfl rfl rfl rfl rfl;done)|(refine Xg ?_;conv=>whnf))
       | true=>
        rw[hm,aAh rfl] at hp;have hvl:vks.length=xc.length:=by
         obtain⟨q,_⟩:=(l9 (x:=⟨xk,xn,xl,xh,xw,xb,xv,xc,.mk yk yn ys yks⟩)).1 hm;exact q
        have vdk:∀u∈vks,bG u=0:=λu hu=>kA vv u hu
        have hs:=hsf k3 vks vdk;have hnx:=λ(k:Nat) (hk:k<xc.length)=>KC (aY mx) (x:=⟨xk,xn,xl,xh,xw,xb,xv,xc,.mk yk yn ys yks⟩) (of:=(aZ (aY mx)).of A) (vs:=vks) hk hvl
        have hs0:NC (aY mx) ⟨xk,xn,xl,xh,xw,xb,xv,xc,.mk yk yn ys yks⟩ ((aZ (aY mx)).of A) vks 0=some [1]:=rfl;rw[show jN (.mk vk vn vs vks)=vks from rfl] at hp;simp only at hnx;generalize NC (aY mx) ⟨xk,xn,xl,xh,xw,xb,xv,xc,.mk yk yn ys yks⟩ ((aZ (aY mx)).of A) vks=G at *;have oks:=jO ho.2.2.2.2;have szs:∀u∈vks,bF u<=1000000:=λu hu=>by have:=Cq hu;simp[bF] at hz;omega
        refine Rr ?_;refine bA.at bE (λp:Nat × List Key=>p.1<=xc.length/\∀q∈p.2,dW q)
         (λp=>⟨[(0,.ptr 0 0 0),(5,.ptr 2 0 0),(6,.ptr 3 0 0),(9,.ptr 4 0 0),(13,.ptr 5 0 0),(118,.il 1 (bL xc)),(119,.int .i64 xc.length),(120,.int .i64 p.1)],Fw mx A i w (.mk vk vn vs vks) p.2 (G p.1),6,215⟩)
         (λp=>xc.length-p.1) (0,L) [(0,0),(1,1),(2,2),(3,3),(4,4),(17,5)] ⟨aAN _,hL⟩
         (aE _ rfl (rN (ib:=2) (ic:=3) (id:=4) (ie:=17) rfl rfl rfl rfl rfl rfl rfl rfl rfl rfl rfl rfl (by rw[hs0];exact Cg [1]))
          ⟨aF,aF,aF,aF,aF,aM (.il' (bH _)),⟨_,rfl,.int (by rw[aK])⟩,aJ,trivial⟩) ?_
        rintro⟨k,L1⟩ ⟨hk,hL1⟩;simp only at hk hL1 |-;obtain⟨x1,b1,hF1⟩:=kC (G k);have nf1:=cQ (G k);rw[hF1] at nf1;unfold Fw;rw[hF1];refine Rr ?_;refine aI (λhb=>?_) (λhb=>?_)
        .have hlt:k<xc.length:=su hb
         have hlt2:k<vks.length:=om;obtain⟨x2,b2,hF2⟩:=kC (G (k+1));have hsk:=hs k;have hsk1:=hs (k+1);have hnk:=hnx k hlt;have e1:(bL xc)[((k:Nat):Int).toNat]? = some (.int .i64 xc[k]):=by simp[bP,aAa hlt]
         have e2:(aU vks)[((k:Nat):Int).toNat]? = some (cO vks[k]):=by rw[aAc,gQ,aAa hlt2];rfl
         obtain⟨q0,q1⟩:=hkm xc[k] (aAq hlt);have ok1:=oks _ (aAq hlt2);have sz1:=szs _ (aAq hlt2);have vd1:=vdk _ (aAq hlt2);generalize xc[k]=q at *;generalize vks[k]=u at *;obtain⟨q,rfl⟩:=aAu q0;rw[aAc] at q1 hnk;obtain⟨x3,b3,hF3⟩:=kC ((aZ (aY mx)).of A q u);have iq:=ih q q1;obtain⟨u1,u2,u3,u4⟩:=u;refine Rr ?_;refine aB e1 ?_;refine Rr ?_;refine aB e2 ?_;refine Rr ?_;refine zD iq hL1 ok1 sz1 rfl hF3 λL2 hL2=>?_
         refine Rt ?_;refine yY (r:=.agg [.il 2 x2,.bool b2]) hsk (hov q q1 _ vd1) (by rw[<-hnk];exact hsk1) hF1 hF3 (by rw[<-hnk];exact hF2) rfl ?_;refine Rt ?_;have nf2:=cQ (G (k+1));rw[hF2] at nf2;exact .mk (k+1,L2) [(0,0),(1,1),(2,2),(3,3),(4,4),(5,5)] ⟨by simp only;omega,hL2⟩
          (aE _ rfl (rN (ib:=2) (ic:=3) (id:=4) (ie:=5) rfl rfl rfl rfl rfl rfl rfl rfl rfl rfl rfl rfl (by simp only;rw[hF2];exact oN _ _ nf2))
           ⟨aF,aF,aF,aF,aF,aM (.il' (bH _)),aJ,⟨_,rfl,.int (by rw[aV oq];simp)⟩,trivial⟩) (by simp only;omega)
        .have hke:k=xc.length:=by
          have:¬k<xc.length:=su hb
          omega
         (conv=>whnf);repeat(first|(refine hJ L1 _ [(0,0),(1,1),(3,2),(4,3),(5,4)] hL1 ?_;exact pE rfl rfl rfl rfl rfl rfl rfl rfl rfl rfl rfl (by rw[hp,<-hke,hF1];exact oN x1 b1 nf1) rfl rfl rfl rfl rfl;done)|(refine Xg ?_;conv=>whnf))
      .have k3:xk≠3:=su h
       rw[aAe k3] at hp;refine Rr ?_;refine aI (λh=>?_) (λh=>?_)
       .have k2:xk=2:=su h
        rw[aAh k2] at hp;have hs:=hcf k2;have hnx:∀(k:Nat) (hk:k<xc.length),A7 (aY mx) ⟨xk,xn,xl,xh,xw,xb,xv,xc,.mk yk yn ys yks⟩ (λq=>(aZ (aY mx)).of A q (.mk vk vn vs vks)) (k+1)=fX (aY mx) (A7 (aY mx) ⟨xk,xn,xl,xh,xw,xb,xv,xc,.mk yk yn ys yks⟩ (λq=>(aZ (aY mx)).of A q (.mk vk vn vs vks)) k) (c8 (aY mx) (some (Dm mx 1)) ((aZ (aY mx)).of A xc[k].toNat (.mk vk vn vs vks))):=λk hk=>CE (aY mx) (x:=⟨xk,xn,xl,xh,xw,xb,xv,xc,.mk yk yn ys yks⟩) (al:=λq=>(aZ (aY mx)).of A q (.mk vk vn vs vks)) hk
        have hs0:A7 (aY mx) ⟨xk,xn,xl,xh,xw,xb,xv,xc,.mk yk yn ys yks⟩ (λq=>(aZ (aY mx)).of A q (.mk vk vn vs vks)) 0=none:=rfl;generalize A7 (aY mx) ⟨xk,xn,xl,xh,xw,xb,xv,xc,.mk yk yn ys yks⟩ (λq=>(aZ (aY mx)).of A q (.mk vk vn vs vks))=G at *;refine Rr ?_;refine bA.at bE (λp:Nat × List Key=>p.1<=xc.length/\∀q∈p.2,dW q)
         (λp=>⟨[(0,.ptr 0 0 0),(5,.ptr 2 0 0),(6,.ptr 3 0 0),(9,.ptr 4 0 0),(12,.ip (cW ⟨xk,xn,xl,xh,xw,xb,xv,xc,.mk yk yn ys yks⟩)),(13,.ptr 5 0 0),(142,.il 1 (bL xc)),(143,.int .i64 xc.length),(144,.int .i64 p.1)],Fw mx A i w (.mk vk vn vs vks) p.2 (G p.1),6,215⟩)
         (λp=>xc.length-p.1) (0,L) [(0,0),(1,1),(2,2),(3,3),(4,4),(17,5)] ⟨aAN _,hL⟩
         (aE _ rfl (rN (ib:=2) (ic:=3) (id:=4) (ie:=17) rfl rfl rfl rfl rfl rfl rfl rfl rfl rfl rfl rfl (by rw[hs0];exact vO))
          ⟨aF,aF,aF,aF,aM (.ip' nN),aF,aM (.il' (bH _)),⟨_,rfl,.int (by rw[aK])⟩,aJ,trivial⟩) ?_
        rintro⟨k,L1⟩ ⟨hk,hL1⟩;simp only at hk hL1 |-;obtain⟨x1,b1,hF1⟩:=kC (G k);have nf1:=cQ (G k);rw[hF1] at nf1;unfold Fw;rw[hF1];refine Rr ?_;refine aI (λhb=>?_) (λhb=>?_)
        .have hlt:k<xc.length:=su hb
         obtain⟨x2,b2,hF2⟩:=kC (G (k+1));have hsk:=hs k;have hsk1:=hs (k+1);have hnk:=hnx k hlt;have e1:(bL xc)[((k:Nat):Int).toNat]? = some (.int .i64 xc[k]):=by simp[bP,aAa hlt]
         obtain⟨q0,q1⟩:=hkm xc[k] (aAq hlt);generalize xc[k]=q at *;obtain⟨q,rfl⟩:=aAu q0;rw[aAc] at q1 hnk;have hoq:=hov q q1 (.mk vk vn vs vks) vv;obtain⟨x3,b3,hF3⟩:=kC ((aZ (aY mx)).of A q (.mk vk vn vs vks));obtain⟨x4,b4,hF4⟩:=kC (c8 (aY mx) (some (Dm mx 1)) ((aZ (aY mx)).of A q (.mk vk vn vs vks)));have hpr:rC mx (c8 (aY mx) (some (Dm mx 1)) ((aZ (aY mx)).of A q (.mk vk vn vs vks))):=rC.part (g:=G k) (oB.times _ _) (by rw[<-hnk];exact hsk1);have iq:=ih q q1;refine Rr ?_;refine aB e1 ?_;refine Rr ?_;have hO:=SJ mx (Yw mx) (.ip (cW ⟨xk,xn,xl,xh,xw,xb,xv,xc,.mk yk yn ys yks⟩)) k;refine hO.go ?_ (.cons (.ip' nN) (.cons nn (.cons (.ip' (Ck _)) .nil))) (.il' (cC _));refine Rt ?_;refine zD (r:=.agg [.il 2 x3,.bool b3]) iq hL1 ho hz rfl hF3 λL2 hL2=>?_
         refine Rt ?_;refine yY (r:=.agg [.il 2 x4,.bool b4]) (a:=some (Dm mx 1)) (rC.up1 mx) hoq hpr rfl hF3 hF4 rfl ?_;refine Rt ?_;refine D9 (r:=.agg [.il 2 x2,.bool b2]) hsk hpr (by rw[<-hnk];exact hsk1) hF1 hF4 (by rw[<-hnk];exact hF2) rfl ?_;refine Rt ?_;have nf2:=cQ (G (k+1));rw[hF2] at nf2;exact .mk (k+1,L2) [(0,0),(1,1),(2,2),(3,3),(4,4),(5,5)] ⟨by simp only;omega,hL2⟩
          (aE _ rfl (rN (ib:=2) (ic:=3) (id:=4) (ie:=5) rfl rfl rfl rfl rfl rfl rfl rfl rfl rfl rfl rfl (by simp only;rw[hF2];exact oN _ _ nf2))
           ⟨aF,aF,aF,aF,aM (.ip' nN),aF,aM (.il' (bH _)),aJ,⟨_,rfl,.int (by rw[aV oq];simp)⟩,trivial⟩) (by simp only;omega)
        .have hke:k=xc.length:=by
          have:¬k<xc.length:=su hb
          omega
         (conv=>whnf);repeat(first|(refine hJ L1 _ [(0,0),(1,1),(3,2),(4,3),(5,4)] hL1 ?_;exact pE rfl rfl rfl rfl rfl rfl rfl rfl rfl rfl rfl (by rw[hp,<-hke,hF1];exact oN x1 b1 nf1) rfl rfl rfl rfl rfl;done)|(refine Xg ?_;conv=>whnf))
       .have k2:xk≠2:=su h
        rw[aAe k2] at hp;refine Rr ?_;refine aI (λh=>?_) (λh=>?_)
        .have k4:xk=4:=su h
         rw[aAh k4] at hp;have hs:=hbf k4;have hb4:=hbl k4;have hnx:∀(k:Nat) (hk:k<xv.length),BM (aY mx) ⟨xk,xn,xl,xh,xw,xb,xv,xc,.mk yk yn ys yks⟩ ((aZ (aY mx)).of A) (λq=>(aZ (aY mx)).of A q (.mk vk vn vs vks)) (k+1)=fX (aY mx) (BM (aY mx) ⟨xk,xn,xl,xh,xw,xb,xv,xc,.mk yk yn ys yks⟩ ((aZ (aY mx)).of A) (λq=>(aZ (aY mx)).of A q (.mk vk vn vs vks)) k) (c8 (aY mx) ((aZ (aY mx)).of A (xc.getD 0 0).toNat xv[k]) ((aZ (aY mx)).of A (xc[k+1]'om).toNat (.mk vk vn vs vks))):=λk hk=>BJ (aY mx) (x:=⟨xk,xn,xl,xh,xw,xb,xv,xc,.mk yk yn ys yks⟩) (of:=(aZ (aY mx)).of A) (al:=λq=>(aZ (aY mx)).of A q (.mk vk vn vs vks)) hk hb4
         have hs0:BM (aY mx) ⟨xk,xn,xl,xh,xw,xb,xv,xc,.mk yk yn ys yks⟩ ((aZ (aY mx)).of A) (λq=>(aZ (aY mx)).of A q (.mk vk vn vs vks)) 0=none:=rfl;generalize BM (aY mx) ⟨xk,xn,xl,xh,xw,xb,xv,xc,.mk yk yn ys yks⟩ ((aZ (aY mx)).of A) (λq=>(aZ (aY mx)).of A q (.mk vk vn vs vks))=G at *;refine Rr ?_;refine bA.at bE (λp:Nat × List Key=>p.1<=xv.length/\∀q∈p.2,dW q)
          (λp=>⟨[(0,.ptr 0 0 0),(5,.ptr 2 0 0),(6,.ptr 3 0 0),(9,.ptr 4 0 0),(12,.ip (cW ⟨xk,xn,xl,xh,xw,xb,xv,xc,.mk yk yn ys yks⟩)),(13,.ptr 5 0 0),(172,.il 4 (aU xv)),(173,.int .i64 xv.length),(174,.int .i64 p.1)],Fw mx A i w (.mk vk vn vs vks) p.2 (G p.1),6,215⟩)
          (λp=>xv.length-p.1) (0,L) [(0,0),(1,1),(2,2),(3,3),(4,4),(17,5)] ⟨aAN _,hL⟩
          (aE _ rfl (rN (ib:=2) (ic:=3) (id:=4) (ie:=17) rfl rfl rfl rfl rfl rfl rfl rfl rfl rfl rfl rfl (by rw[hs0];exact vO))
           ⟨aF,aF,aF,aF,aM (.ip' nN),aF,aM (.il' (bK _)),⟨_,rfl,.int (by rw[aC])⟩,aJ,trivial⟩) ?_
         rintro⟨k,L1⟩ ⟨hk,hL1⟩;simp only at hk hL1 |-;obtain⟨x1,b1,hF1⟩:=kC (G k);have nf1:=cQ (G k);rw[hF1] at nf1;unfold Fw;rw[hF1];refine Rr ?_;refine aI (λhb=>?_) (λhb=>?_)
         .have hlt:k<xv.length:=su hb
          have hlt2:k+1<xc.length:=om;have hlt0:0<xc.length:=om;obtain⟨x2,b2,hF2⟩:=kC (G (k+1));have nf2:=cQ (G (k+1));rw[hF2] at nf2;have hsk:=hs k;have hsk1:=hs (k+1);have hnk:=hnx k hlt;have e1:(aU xv)[((k:Nat):Int).toNat]? = some (cO xv[k]):=by rw[aAc,gQ,aAa hlt];rfl
          have hwr:IntKind.i64.wrap ((k:Int)+1)=((k+1:Nat):Int):=by
           rw[aV oq];simp
          have e2:(bL xc)[((k+1:Nat):Int).toNat]? = some (.int .i64 xc[k+1]):=by
           rw[aAc];simp[bP,aAa hlt2]
          have e0:(bL xc)[(0:Int).toNat]? = some (.int .i64 (xc.getD 0 0)):=by
           rw[show (0:Int).toNat=0 from rfl,aAb,aAa hlt0];simp[bP,aAa hlt0]
          obtain⟨q0,q1⟩:=hkm xc[k+1] (aAq hlt2);obtain⟨p0,p1⟩:=hkm (xc.getD 0 0) (by rw[aAb,aAa hlt0];exact aAq hlt0);obtain⟨ok1,sz1,vd1⟩:=hvv _ (aAq hlt);generalize xc[k+1]=q at *;generalize xc.getD 0 0=p at *;generalize xv[k]=u at *;obtain⟨q,rfl⟩:=aAu q0;obtain⟨p,rfl⟩:=aAu p0;rw[aAc] at q1 p1;rw[aAc,aAc] at hnk;have hoq:=hov q q1 (.mk vk vn vs vks) vv;have hop:=hov p p1 u vd1;have iq:=ih q q1;have ip:=ih p p1;obtain⟨x4,b4,hF4⟩:=kC ((aZ (aY mx)).of A p u);obtain⟨u1,u2,u3,u4⟩:=u;cases hq:(aZ (aY mx)).of A q (.mk vk vn vs vks) with
          | none=>
           rw[hq,It,K4] at hnk;have hF3:cG ((aZ (aY mx)).of A q (.mk vk vn vs vks)) = .agg [.il 2 [],.bool false]:=by rw[hq];rfl
           rw[hnk,hF1] at hF2;refine Rr ?_;refine aB e1 ?_;refine Rr ?_;rw[hwr];refine Rr ?_;refine aB e2 ?_;refine Rr ?_;refine zD iq hL1 ho hz rfl hF3 λL2 hL2=>?_
           refine Rt ?_;exact .mk (k+1,L2) [(0,0),(1,1),(2,2),(3,3),(4,4),(5,5)] ⟨by simp only;omega,hL2⟩
            (aE _ rfl (rN (ib:=2) (ic:=3) (id:=4) (ie:=5) rfl rfl rfl rfl rfl rfl rfl rfl rfl rfl rfl rfl (by simp only;rw[hnk,hF1];exact oN _ _ nf1))
             ⟨aF,aF,aF,aF,aM (.ip' nN),aF,aM (.il' (bK _)),aJ,⟨_,rfl,.int hwr⟩,trivial⟩) (by simp only;omega)
          | some n=>
           have hF3:cG ((aZ (aY mx)).of A q (.mk vk vn vs vks)) = .agg [.il 2 (bZ n),.bool true]:=by rw[hq];rfl
           have hpr:rC mx (c8 (aY mx) ((aZ (aY mx)).of A p (.mk u1 u2 u3 u4)) ((aZ (aY mx)).of A q (.mk vk vn vs vks))):=rC.part (g:=G k) (oB.times _ _) (by rw[<-hnk];exact hsk1);obtain⟨x5,b5,hF5⟩:=kC (c8 (aY mx) ((aZ (aY mx)).of A p (.mk u1 u2 u3 u4)) ((aZ (aY mx)).of A q (.mk vk vn vs vks)));refine Rr ?_;refine aB e1 ?_;refine Rr ?_;rw[hwr];refine Rr ?_;refine aB e2 ?_;refine Rr ?_;refine zD iq hL1 ho hz rfl hF3 λL2 hL2=>?_
           refine Rt ?_;refine aB e0 ?_;refine Rr ?_;refine zD ip hL2 ok1 sz1 rfl hF4 λL3 hL3=>?_
           refine Rt ?_;refine yY (r:=.agg [.il 2 x5,.bool b5]) hop hoq hpr hF4 hF3 hF5 rfl ?_;refine Rt ?_;refine D9 (r:=.agg [.il 2 x2,.bool b2]) hsk hpr (by rw[<-hnk];exact hsk1) hF1 hF5 (by rw[<-hnk];exact hF2) rfl ?_;refine Rt ?_;exact .mk (k+1,L3) [(0,0),(1,1),(2,2),(3,3),(4,4),(5,5)] ⟨by simp only;omega,hL3⟩
            (aE _ rfl (rN (ib:=2) (ic:=3) (id:=4) (ie:=5) rfl rfl rfl rfl rfl rfl rfl rfl rfl rfl rfl rfl (by simp only;rw[hF2];exact oN _ _ nf2))
             ⟨aF,aF,aF,aF,aM (.ip' nN),aF,aM (.il' (bK _)),aJ,⟨_,rfl,.int hwr⟩,trivial⟩) (by simp only;omega)
         .have hke:k=xv.length:=by
           have:¬k<xv.length:=su hb
           omega
          (conv=>whnf);repeat(first|(refine hJ L1 _ [(0,0),(1,1),(3,2),(4,3),(5,4)] hL1 ?_;exact pE rfl rfl rfl rfl rfl rfl rfl rfl rfl rfl rfl (by rw[hp,<-hke,hF1];exact oN x1 b1 nf1) rfl rfl rfl rfl rfl;done)|(refine Xg ?_;conv=>whnf))
        .have k4:xk≠4:=su h
         exfalso;omega
   .have nf:=cQ res;generalize hk:((i,some (aQ.mk vk vn vs vks)):Key)=kk at *;cases h2:o0 a kk with
    | false=>
     have hf:=hfn a h2;have hs:=hsn a;clear hfn hfy hsn hlk hp hE;unfold RB;generalize kK cG (aY mx) A a=E at *;obtain⟨x,b,hF⟩:∃x b,cG res = .agg [.il 2 x,.bool b]:=by cases res<;>exact⟨_,_,rfl⟩
     rw[hF] at hs nf |-;refine Rr ?_;rw[hf];refine Rr ?_;refine iM.2 ?_;refine Rr ?_;refine aW (n':=2) (m':=eO mx A (a++[kk])) [(0,0),(1,1)] rfl (cH (i:=0) (j:=1) rfl rfl rfl (by rw[hs];rfl)) (.same _ (by assumption)) ⟨a++[kk],λq hq=>?_,hF.symm,rfl,rfl⟩;rcases aAt.1 hq with hq|hq
     .exact ha q hq
     .rw[aBa.1 hq];exact hkok
    | true=>
     obtain⟨j,hj,he⟩:=hfy a ha h2;clear hfn hfy hsn hlk hp hE;unfold RB;generalize hE:kK cG (aY mx) A a=E at *;rw[aAF] at hj;obtain⟨x,b,hF⟩:∃x b,cG res = .agg [.il 2 x,.bool b]:=by cases res<;>exact⟨_,_,rfl⟩
     rw[hF] at hj he nf |-;refine Rr ?_;rw[hj];refine Rr ?_;refine aB he ?_;refine Rr ?_;refine aN hss ?_;refine Rr ?_;refine dE.2 ?_;rw[Bm he];refine Rr ?_;exact aW (n':=2) (m':=eO mx A a) [(0,0),(1,1)] rfl (cH (i:=0) (j:=1) rfl rfl rfl (by rw[hE];rfl)) (.same _ nf) ⟨a,ha,hF.symm,rfl,rfl⟩
 .have hn:(aZ (aY mx)).of A i v=none:=by
   rw[(aZ (aY mx)).of_eq h hi]
   show qE _ _ _ _=_
   unfold qE;rw[aAh vv]
  rw[hn];rw[aAe vv] at hE;clear hn;generalize bG v=e at *;have hb:(e != 0)=true:=su vv
  obtain⟨vk,vn,vs,vks⟩:=v;refine aD bE func187 rfl ?_;refine Rr ?_;refine hE.go ?_ (.cons nv .nil) (.tup' (.cons .nsl (.cons nn .nil)));refine Rt ?_;rw[hb];refine Rt ?_;exact aW (n':=2) (m':=eO mx A L) [(0,0),(1,1)] rfl (cH (i:=0) (j:=1) rfl rfl rfl rfl) CF ⟨L,hL,rfl,rfl,rfl⟩
end
end Go.Proofs.YtidjhgajglebnaaGreatDoor
namespace Go.Proofs.YtidjhgajglebnaaGreatDoor
open Go Go.Ax Go.Proofs Tryz
variable{A:List Nd}
section
variable {mx:Nat} [UZ mx]
theorem WJ(h:VT A):∀i,i<A.length->M9 mx A i:=by
 intro i
 induction i using Nat.strongRecOn with
 | ind i ih=>exact λhi=>Vz h i hi λj hj=>ih j hj om
def Hy(mx:Nat)(A:List Nd)(i:Nat):Prop:=∀(L:List Key),(∀q∈L,dW q)->aH prog [] 113 [.ptr 0 0 0,.int .i64 i] (eO mx A L) 2 (IK mx A ((aZ (aY mx)).all A i))
theorem D8{A:List Nd}{j:Nat}(ih:Hy mx A j){L:List Key}{r:AV}{mem:aP}{nx:Nat}{K:AV->aP->Nat->Prop}(hL:∀q∈L,dW q)(hp:i5 [0,1] mem=eO mx A L)(er:cG ((aZ (aY mx)).all A j)=r)
  (hk:∀L',(∀q∈L',dW q)->K r (eO mx A L'++iJ [0,1] mem) nx):aH prog [] 113 [.ptr 0 0 0,.int .i64 j] mem nx K:=by
 subst er;refine aH.useI bE [0,1] (ih L hL) hp (.cons (.ptr 0 0 0 0 rfl) (.s .nil)) (cH (i:=0) (j:=1) rfl rfl rfl rfl) rfl ?_;rintro r m k ⟨L',h1,rfl,rfl,rfl⟩;exact⟨cQ _,cH (i:=0) (j:=1) rfl rfl rfl rfl,rfl,hk L' h1⟩
def zY(mx:Nat)(A:List Nd)(i:Nat)(a:List Key)(o:Option (List Nat)):aP:=[(0,.row 211 7 [rI mx A 1]),(1,.mapb (kK cG (aY mx) A a)),(2,.row 201 2 [.agg [.nsl,.bool false]]),(3,.row 152 2 [.agg [.int .i64 i,.str []]]),(4,.row 201 2 [cG o])]
theorem rR{A:List Nd}{i:Nat}{a:List Key}{o:Option (List Nat)}{mem:aP}{J:List (Nat × Nat)}{ib ic id:Nat}{y:AV}(s0:lk J 0=some 0)(s1:lk J 1=some 1)(sb:lk J ib=some 2)(sc:lk J ic=some 3)(sd:lk J id=some 4)(m0:lk mem 0=some (.row 211 7 [rI mx A 1]))(m1:lk mem 1=some (.mapb (kK cG (aY mx) A a)))
  (m2:lk mem ib=some (.row 201 2 [.agg [.nsl,.bool false]])) (m3:lk mem ic=some (.row 152 2 [.agg [.int .i64 i,.str []]])) (m4:lk mem id=some (.row 201 2 [y])) (hy:CH mem J y (cG o)):dR mem J (zY mx A i a o):=
 ⟨⟨0,_,s0,m0,.cons (pL s1) .nil⟩,⟨1,_,s1,m1,l7 cQ a⟩,⟨ib,_,sb,m2,.same (.cons (.agg' (.cons .nsl (.cons (tB _) .nil))) .nil)⟩,⟨ic,_,sc,m3,.same (.cons (.agg' (.cons nn (.cons nn .nil))) .nil)⟩,⟨id,_,sd,m4,.cons hy .nil⟩,trivial⟩
def SP(mx:Nat)(A:List Nd)(i:Nat)(res:Option (List Nat))(a:List Key):St:=⟨[(0,.ptr 0 0 0),(4,.ptr 2 0 0),(5,.ptr 3 0 0),(9,.ptr 4 0 0)],zY mx A i a res,5,146⟩
theorem CC{A:List Nd}{i:Nat}{res:Option (List Nat)}{a:List Key}{s:St}{y:AV}{ia ib ic:Nat}{J:List (Nat × Nat)}(hnt:s.nt=146)(t0:lk J 0=some 0)(t1:lk J 1=some 1)(ta:lk J ia=some 2)(tb:lk J ib=some 3)(tc:lk J ic=some 4)(m0:lk s.mem 0=some (.row 211 7 [rI mx A 1]))(m1:lk s.mem 1=some (.mapb (kK cG (aY mx) A a)))
  (m2:lk s.mem ia=some (.row 201 2 [.agg [.nsl,.bool false]])) (m3:lk s.mem ib=some (.row 152 2 [.agg [.int .i64 i,.str []]])) (m4:lk s.mem ic=some (.row 201 2 [y]))
  (hy:CH s.mem J y (cG res)) (s0:lk s.sl 0=some (.ptr 0 0 0)) (s4:lk s.sl 4=some (.ptr ia 0 0)) (s5:lk s.sl 5=some (.ptr ib 0 0)) (s9:lk s.sl 9=some (.ptr ic 0 0))
  (hc:(pW J && (pU (SP mx A i res a).mem && (wE 2 5 J && Nat.ble 2 5)))=true):Conv 2 J s (SP mx A i res a):=by
 obtain⟨sl,mem,nx,nt⟩:=s;simp only at hnt m0 m1 m2 m3 m4 s0 s4 s5 s9 hy;subst hnt;exact aE _ hc (rR t0 t1 ta tb tc m0 m1 m2 m3 m4 hy)
  ⟨⟨_,s0,.ptr 0 0 0 0 t0⟩,⟨_,s4,.ptr ia 2 0 0 ta⟩,⟨_,s5,.ptr ib 3 0 0 tb⟩,⟨_,s9,.ptr ic 4 0 0 tc⟩,trivial⟩
theorem U0(h:VT A)(i:Nat)(hi:i<A.length)(ih:∀j<i,Hy mx A j):Hy mx A i:=by
 intro L hL;have hx:=b9 hi;have hxm:=aAm hx;have gx:=h.node hx;have hkm:=λ(k:Int) (hk:k∈(aG A i).kids)=>eH h hx hk
 have en:(bJ A)[((i:Nat):Int).toNat]? = some (cW (aG A i)):=by simp[jW,hx]
 have nN:=bB (aG A i);have hlk:=λ(mem:aP) (id:Nat) (hm:lk mem id=some (.mapb (kK cG (aY mx) A L)))=>Nl (k:=(i,none)) hL trivial hm
 have hko:rQ (i,none) = .agg [.int .i64 i,.str []]:=rfl;have hvk:Dl (aY mx) A (i,none)=(aZ (aY mx)).all A i:=rfl;rw[hko] at hlk;have hfn:∀a,o0 a (i,none)=false->gT prog 152 (.agg [.int .i64 i,.str []]) (kK cG (aY mx) A a) 0=some none:=λa e=>rH (k:=(i,none)) a 0 e
 have hfy:∀a,(∀q∈a,dW q)->o0 a (i,none)=true->∃j,gT prog 152 (.agg [.int .i64 i,.str []]) (kK cG (aY mx) A a) 0=some (some (0+j,cG ((aZ (aY mx)).all A i)))/\(kK cG (aY mx) A a)[j]? = some (.agg [.int .i64 i,.str []],cG ((aZ (aY mx)).all A i)):=λa ha e=>oL (k:=(i,none)) trivial a 0 ha e
 have hsn:∀a,kK cG (aY mx) A (a++[(i,none)])=kK cG (aY mx) A a++[(.agg [.int .i64 i,.str []],cG ((aZ (aY mx)).all A i))]:=λa=>BY cG (aY mx) A a (i,none)
 have hss:z7 (.agg [.int .i64 i,.str []]) (.agg [.int .i64 i,.str []])=true:=uX (i,none);have hp:=G9 (aY mx) h hi;generalize hres:(aZ (aY mx)).all A i=res at *;cases hh:o0 L (i,none) with
 | true=>
  rw[hh,aAh rfl,hvk] at hlk;clear hp;refine aD bE func113 rfl ?_;cases res <;>
  .refine Rr ?_;repeat((first|refine dE.2 ?_|refine bQ ?_|refine aB en ?_|refine aB (hlk _ _ rfl) ?_);refine Rr ?_)
   first
   | exact aW (n':=2) (m':=eO mx A L) [(0,0),(1,1)] rfl (cH (i:=0) (j:=1) rfl rfl rfl rfl) (.same _ (Mz _ _)) ⟨L,hL,rfl,rfl,rfl⟩
   | exact aW (n':=2) (m':=eO mx A L) [(0,0),(1,1)] rfl (cH (i:=0) (j:=1) rfl rfl rfl rfl) (.same _ (Mz _ [])) ⟨L,hL,rfl,rfl,rfl⟩
 | false=>
  rw[hh,aAe sq] at hlk;have hkc:=gx.node.kind;have hsq:=TQ (m:=mx) h hi;have hcs:=Up (m:=mx) h hi;have hbs:=λh4=>UQ (m:=mx) h hi h4 (λu hu=>h.vals_valid hx hu)
  have hov:=λ(j:Nat) (hj:j<i) (u:aQ)=>QK (A:=A) (m:=mx) h (i:=j) om (v:=u)
  have hav:=λ(j:Nat) (hj:j<i)=>I3 (A:=A) (m:=mx) h (i:=j) om
  have hbl:=gx.node.bind;have hkl:=h.tin.klen _ hxm;have hvl0:=h.tin.vlen _ hxm;have hSp:=λe=>YS mx (Yw mx) (aG A i) e gx.node.num
  have hvv:∀u∈(aG A i).values,iO u/\bF u<=1000000/\bG u=0:=λu hu=>⟨((h.tin.ok _ hxm).valuesI u hu).1,by have:=(iF (h.vals_valid hx hu)).2.2;omega,h.vals_valid hx hu⟩
  have hofc:=λ(j:Nat) (hj:j<i)=>WJ (mx:=mx) h j om
  generalize aG A i=x at *;obtain⟨xk,xn,xl,xh,xw,xb,xv,xc,⟨yk,yn,ys,yks⟩⟩:=x;simp only at hkc hp hkm hsq hcs hbs hbl hvv hkl hvl0 hSp;refine aD bE func113 rfl ?_;refine Rr ?_;repeat((first|refine dE.2 ?_|refine bQ ?_|refine aB en ?_|refine aB (hlk _ _ rfl) ?_);refine Rr ?_)
  refine' gC.joinC (P:=prog) (B:=2) (rest:=H9 Tryz.f113) (Q:=MS prog (Tryz.f113).results.toList (rE 2 (IK mx A res))) bE (λa:List Key=>∀q∈a,dW q) (λa=>SP mx A i res a) (λhJ=>?_) (λa ha=>?_)
  .refine aI (λh=>?_) (λh=>?_)
   .have k1:xk=1:=su h
    rw[aAh k1] at hp;have hS:=hSp k1;refine Rr ?_;refine hS.go ?_ (.cons (.ip' nN) (.cons (.ip' (Ck _)) .nil)) (.il' (cC _));(conv=>whnf);repeat(first|(refine dE.2 ?_;conv=>whnf)|(refine bQ ?_;conv=>whnf))
    repeat(first|(refine hJ L _ [(0,0),(1,1),(2,2),(3,3),(16,4)] hL ?_;exact CC rfl rfl rfl rfl rfl rfl rfl rfl rfl rfl rfl (by rw[hp];exact Cg _) rfl rfl rfl rfl rfl;done)|(refine Xg ?_;conv=>whnf))
   .have k1:xk≠1:=su h
    rw[aAe k1] at hp;refine Rr ?_;refine aI (λh=>?_) (λh=>?_)
    .have k3:xk=3:=su h
     rw[aAh k3] at hp;have hs:=hsq k3;have hnx:∀(k:Nat) (hk:k<xc.length),I8 (aY mx) ⟨xk,xn,xl,xh,xw,xb,xv,xc,.mk yk yn ys yks⟩ ((aZ (aY mx)).all A) (k+1)=c8 (aY mx) (I8 (aY mx) ⟨xk,xn,xl,xh,xw,xb,xv,xc,.mk yk yn ys yks⟩ ((aZ (aY mx)).all A) k) ((aZ (aY mx)).all A xc[k].toNat):=λk hk=>KP (aY mx) (x:=⟨xk,xn,xl,xh,xw,xb,xv,xc,.mk yk yn ys yks⟩) (al:=((aZ (aY mx)).all A)) hk
     have hs0:I8 (aY mx) ⟨xk,xn,xl,xh,xw,xb,xv,xc,.mk yk yn ys yks⟩ ((aZ (aY mx)).all A) 0=some [1]:=rfl;generalize I8 (aY mx) ⟨xk,xn,xl,xh,xw,xb,xv,xc,.mk yk yn ys yks⟩ ((aZ (aY mx)).all A)=G at *;refine Rr ?_;refine bA.at bE (λp:Nat × List Key=>p.1<=xc.length/\∀q∈p.2,dW q)
      (λp=>⟨[(0,.ptr 0 0 0),(4,.ptr 2 0 0),(5,.ptr 3 0 0),(9,.ptr 4 0 0),(58,.il 1 (bL xc)),(59,.int .i64 xc.length),(60,.int .i64 p.1)],zY mx A i p.2 (G p.1),5,146⟩)
      (λp=>xc.length-p.1) (0,L) [(0,0),(1,1),(2,2),(3,3),(16,4)] ⟨aAN _,hL⟩
      (aE _ rfl (rR (ib:=2) (ic:=3) (id:=16) rfl rfl rfl rfl rfl rfl rfl rfl rfl rfl (by rw[hs0];exact Cg [1]))
       ⟨aF,aF,aF,aF,aM (.il' (bH _)),⟨_,rfl,.int (by rw[aK])⟩,aJ,trivial⟩) ?_
     rintro⟨k,L1⟩ ⟨hk,hL1⟩;simp only at hk hL1 |-;obtain⟨x1,b1,hF1⟩:=kC (G k);have nf1:=cQ (G k);rw[hF1] at nf1;unfold zY;rw[hF1];refine Rr ?_;refine aI (λhb=>?_) (λhb=>?_)
     .have hlt:k<xc.length:=su hb
      obtain⟨x2,b2,hF2⟩:=kC (G (k+1));have hsk:=hs k;have hsk1:=hs (k+1);have hnk:=hnx k hlt;have e1:(bL xc)[((k:Nat):Int).toNat]? = some (.int .i64 xc[k]):=by simp[bP,aAa hlt]
      obtain⟨q0,q1⟩:=hkm xc[k] (aAq hlt);generalize xc[k]=q at *;obtain⟨q,rfl⟩:=aAu q0;rw[aAc] at q1 hnk;obtain⟨x3,b3,hF3⟩:=kC ((aZ (aY mx)).all A q);have iq:=ih q q1;refine Rr ?_;refine aB e1 ?_;refine Rr ?_;refine D8 iq hL1 rfl hF3 λL2 hL2=>?_
      refine Rt ?_;refine yY (r:=.agg [.il 2 x2,.bool b2]) hsk (hav q q1) (by rw[<-hnk];exact hsk1) hF1 hF3 (by rw[<-hnk];exact hF2) rfl ?_;refine Rt ?_;have nf2:=cQ (G (k+1));rw[hF2] at nf2;exact .mk (k+1,L2) [(0,0),(1,1),(2,2),(3,3),(4,4)] ⟨by simp only;omega,hL2⟩
       (aE _ rfl (rR (ib:=2) (ic:=3) (id:=4) rfl rfl rfl rfl rfl rfl rfl rfl rfl rfl (by simp only;rw[hF2];exact oN _ _ nf2))
        ⟨aF,aF,aF,aF,aM (.il' (bH _)),aJ,⟨_,rfl,.int (by rw[aV oq];simp)⟩,trivial⟩) (by simp only;omega)
     .have hke:k=xc.length:=by
       have:¬k<xc.length:=su hb
       omega
      (conv=>whnf);repeat(first|(refine hJ L1 _ [(0,0),(1,1),(2,2),(3,3),(4,4)] hL1 ?_;exact CC rfl rfl rfl rfl rfl rfl rfl rfl rfl rfl rfl (by rw[hp,<-hke,hF1];exact oN x1 b1 nf1) rfl rfl rfl rfl rfl;done)|(refine Xg ?_;conv=>whnf))
    .have k3:xk≠3:=su h
     rw[aAe k3] at hp;refine Rr ?_;refine aI (λh=>?_) (λh=>?_)
     .have k2:xk=2:=su h
      rw[aAh k2] at hp;have hs:=hcs k2;have hnx:∀(k:Nat) (hk:k<xc.length),A7 (aY mx) ⟨xk,xn,xl,xh,xw,xb,xv,xc,.mk yk yn ys yks⟩ ((aZ (aY mx)).all A) (k+1)=fX (aY mx) (A7 (aY mx) ⟨xk,xn,xl,xh,xw,xb,xv,xc,.mk yk yn ys yks⟩ ((aZ (aY mx)).all A) k) (c8 (aY mx) (some (Dm mx 1)) ((aZ (aY mx)).all A xc[k].toNat)):=λk hk=>CE (aY mx) (x:=⟨xk,xn,xl,xh,xw,xb,xv,xc,.mk yk yn ys yks⟩) (al:=((aZ (aY mx)).all A)) hk
      have hs0:A7 (aY mx) ⟨xk,xn,xl,xh,xw,xb,xv,xc,.mk yk yn ys yks⟩ ((aZ (aY mx)).all A) 0=none:=rfl;generalize A7 (aY mx) ⟨xk,xn,xl,xh,xw,xb,xv,xc,.mk yk yn ys yks⟩ ((aZ (aY mx)).all A)=G at *;refine Rt ?_;refine bA.at bE (λp:Nat × List Key=>p.1<=xc.length/\∀q∈p.2,dW q)
       (λp=>⟨[(0,.ptr 0 0 0),(4,.ptr 2 0 0),(5,.ptr 3 0 0),(8,.ip (cW ⟨xk,xn,xl,xh,xw,xb,xv,xc,.mk yk yn ys yks⟩)),(9,.ptr 4 0 0),(77,.il 1 (bL xc)),(78,.int .i64 xc.length),(79,.int .i64 p.1)],zY mx A i p.2 (G p.1),5,146⟩)
       (λp=>xc.length-p.1) (0,L) [(0,0),(1,1),(2,2),(3,3),(16,4)] ⟨aAN _,hL⟩
       (aE _ rfl (rR (ib:=2) (ic:=3) (id:=16) rfl rfl rfl rfl rfl rfl rfl rfl rfl rfl (by rw[hs0];exact vO))
        ⟨aF,aF,aF,aM (.ip' nN),aF,aM (.il' (bH _)),⟨_,rfl,.int (by rw[aK])⟩,aJ,trivial⟩) ?_
      rintro⟨k,L1⟩ ⟨hk,hL1⟩;simp only at hk hL1 |-;obtain⟨x1,b1,hF1⟩:=kC (G k);have nf1:=cQ (G k);rw[hF1] at nf1;unfold zY;rw[hF1];refine Rr ?_;refine aI (λhb=>?_) (λhb=>?_)
      .have hlt:k<xc.length:=su hb
       obtain⟨x2,b2,hF2⟩:=kC (G (k+1));have hsk:=hs k;have hsk1:=hs (k+1);have hnk:=hnx k hlt;have e1:(bL xc)[((k:Nat):Int).toNat]? = some (.int .i64 xc[k]):=by simp[bP,aAa hlt]
       obtain⟨q0,q1⟩:=hkm xc[k] (aAq hlt);generalize xc[k]=q at *;obtain⟨q,rfl⟩:=aAu q0;rw[aAc] at q1 hnk;have hoq:=hav q q1;obtain⟨x3,b3,hF3⟩:=kC ((aZ (aY mx)).all A q);obtain⟨x4,b4,hF4⟩:=kC (c8 (aY mx) (some (Dm mx 1)) ((aZ (aY mx)).all A q));have hpr:rC mx (c8 (aY mx) (some (Dm mx 1)) ((aZ (aY mx)).all A q)):=rC.part (g:=G k) (oB.times _ _) (by rw[<-hnk];exact hsk1);have iq:=ih q q1;refine Rr ?_;refine aB e1 ?_;refine Rr ?_;have hO:=SJ mx (Yw mx) (.ip (cW ⟨xk,xn,xl,xh,xw,xb,xv,xc,.mk yk yn ys yks⟩)) k;refine hO.go ?_ (.cons (.ip' nN) (.cons nn (.cons (.ip' (Ck _)) .nil))) (.il' (cC _));refine Rt ?_;refine D8 (r:=.agg [.il 2 x3,.bool b3]) iq hL1 rfl hF3 λL2 hL2=>?_
       refine Rt ?_;refine yY (r:=.agg [.il 2 x4,.bool b4]) (a:=some (Dm mx 1)) (rC.up1 mx) hoq hpr rfl hF3 hF4 rfl ?_;refine Rt ?_;refine D9 (r:=.agg [.il 2 x2,.bool b2]) hsk hpr (by rw[<-hnk];exact hsk1) hF1 hF4 (by rw[<-hnk];exact hF2) rfl ?_;refine Rt ?_;have nf2:=cQ (G (k+1));rw[hF2] at nf2;exact .mk (k+1,L2) [(0,0),(1,1),(2,2),(3,3),(4,4)] ⟨by simp only;omega,hL2⟩
        (aE _ rfl (rR (ib:=2) (ic:=3) (id:=4) rfl rfl rfl rfl rfl rfl rfl rfl rfl rfl (by simp only;rw[hF2];exact oN _ _ nf2))
         ⟨aF,aF,aF,aM (.ip' nN),aF,aM (.il' (bH _)),aJ,⟨_,rfl,.int (by rw[aV oq];simp)⟩,trivial⟩) (by simp only;omega)
      .have hke:k=xc.length:=by
        have:¬k<xc.length:=su hb
        omega
       (conv=>whnf);repeat(first|(refine hJ L1 _ [(0,0),(1,1),(2,2),(3,3),(4,4)] hL1 ?_;exact CC rfl rfl rfl rfl rfl rfl rfl rfl rfl rfl rfl (by rw[hp,<-hke,hF1];exact oN x1 b1 nf1) rfl rfl rfl rfl rfl;done)|(refine Xg ?_;conv=>whnf))
     .have k2:xk≠2:=su h
      rw[aAe k2] at hp;refine Rr ?_;refine aI (λh=>?_) (λh=>?_)
      .have k4:xk=4:=su h
       rw[aAh k4] at hp;have hs:=hbs k4;have hb4:=hbl k4;have hnx:∀(k:Nat) (hk:k<xv.length),BM (aY mx) ⟨xk,xn,xl,xh,xw,xb,xv,xc,.mk yk yn ys yks⟩ ((aZ (aY mx)).of A) ((aZ (aY mx)).all A) (k+1)=fX (aY mx) (BM (aY mx) ⟨xk,xn,xl,xh,xw,xb,xv,xc,.mk yk yn ys yks⟩ ((aZ (aY mx)).of A) ((aZ (aY mx)).all A) k) (c8 (aY mx) ((aZ (aY mx)).of A (xc.getD 0 0).toNat xv[k]) ((aZ (aY mx)).all A (xc[k+1]'om).toNat)):=λk hk=>BJ (aY mx) (x:=⟨xk,xn,xl,xh,xw,xb,xv,xc,.mk yk yn ys yks⟩) (of:=((aZ (aY mx)).of A)) (al:=((aZ (aY mx)).all A)) hk hb4
       have hs0:BM (aY mx) ⟨xk,xn,xl,xh,xw,xb,xv,xc,.mk yk yn ys yks⟩ ((aZ (aY mx)).of A) ((aZ (aY mx)).all A) 0=none:=rfl;generalize BM (aY mx) ⟨xk,xn,xl,xh,xw,xb,xv,xc,.mk yk yn ys yks⟩ ((aZ (aY mx)).of A) ((aZ (aY mx)).all A)=G at *;refine Rt ?_;refine bA.at bE (λp:Nat × List Key=>p.1<=xv.length/\∀q∈p.2,dW q)
        (λp=>⟨[(0,.ptr 0 0 0),(4,.ptr 2 0 0),(5,.ptr 3 0 0),(8,.ip (cW ⟨xk,xn,xl,xh,xw,xb,xv,xc,.mk yk yn ys yks⟩)),(9,.ptr 4 0 0),(107,.il 4 (aU xv)),(108,.int .i64 xv.length),(109,.int .i64 p.1)],zY mx A i p.2 (G p.1),5,146⟩)
        (λp=>xv.length-p.1) (0,L) [(0,0),(1,1),(2,2),(3,3),(16,4)] ⟨aAN _,hL⟩
        (aE _ rfl (rR (ib:=2) (ic:=3) (id:=16) rfl rfl rfl rfl rfl rfl rfl rfl rfl rfl (by rw[hs0];exact vO))
         ⟨aF,aF,aF,aM (.ip' nN),aF,aM (.il' (bK _)),⟨_,rfl,.int (by rw[aC])⟩,aJ,trivial⟩) ?_
       rintro⟨k,L1⟩ ⟨hk,hL1⟩;simp only at hk hL1 |-;obtain⟨x1,b1,hF1⟩:=kC (G k);have nf1:=cQ (G k);rw[hF1] at nf1;unfold zY;rw[hF1];refine Rr ?_;refine aI (λhb=>?_) (λhb=>?_)
       .have hlt:k<xv.length:=su hb
        have hlt2:k+1<xc.length:=om;have hlt0:0<xc.length:=om;obtain⟨x2,b2,hF2⟩:=kC (G (k+1));have nf2:=cQ (G (k+1));rw[hF2] at nf2;have hsk:=hs k;have hsk1:=hs (k+1);have hnk:=hnx k hlt;have e1:(aU xv)[((k:Nat):Int).toNat]? = some (cO xv[k]):=by rw[aAc,gQ,aAa hlt];rfl
        have hwr:IntKind.i64.wrap ((k:Int)+1)=((k+1:Nat):Int):=by
         rw[aV oq];simp
        have e2:(bL xc)[((k+1:Nat):Int).toNat]? = some (.int .i64 xc[k+1]):=by
         rw[aAc];simp[bP,aAa hlt2]
        have e0:(bL xc)[(0:Int).toNat]? = some (.int .i64 (xc.getD 0 0)):=by
         rw[show (0:Int).toNat=0 from rfl,aAb,aAa hlt0];simp[bP,aAa hlt0]
        obtain⟨q0,q1⟩:=hkm xc[k+1] (aAq hlt2);obtain⟨p0,p1⟩:=hkm (xc.getD 0 0) (by rw[aAb,aAa hlt0];exact aAq hlt0);obtain⟨ok1,sz1,vd1⟩:=hvv _ (aAq hlt);generalize xc[k+1]=q at *;generalize xc.getD 0 0=p at *;generalize xv[k]=u at *;obtain⟨q,rfl⟩:=aAu q0;obtain⟨p,rfl⟩:=aAu p0;rw[aAc] at q1 p1;rw[aAc,aAc] at hnk;have hoq:=hav q q1;have hop:=hov p p1 u vd1;have iq:=ih q q1;have ip:=hofc p p1;obtain⟨x4,b4,hF4⟩:=kC ((aZ (aY mx)).of A p u);obtain⟨x3,b3,hF3⟩:=kC ((aZ (aY mx)).all A q);obtain⟨u1,u2,u3,u4⟩:=u;have hpr:rC mx (c8 (aY mx) ((aZ (aY mx)).of A p (.mk u1 u2 u3 u4)) ((aZ (aY mx)).all A q)):=rC.part (g:=G k) (oB.times _ _) (by rw[<-hnk];exact hsk1);obtain⟨x5,b5,hF5⟩:=kC (c8 (aY mx) ((aZ (aY mx)).of A p (.mk u1 u2 u3 u4)) ((aZ (aY mx)).all A q));refine Rr ?_;refine aB e1 ?_;refine Rr ?_;refine aB e0 ?_;refine Rr ?_;rw[hwr];refine Rr ?_;refine aB e2 ?_;refine Rr ?_;refine zD ip hL1 ok1 sz1 rfl hF4 λL2 hL2=>?_
        refine Rr ?_;repeat((first|refine dE.2 ?_|refine bQ ?_|refine aB e2 ?_|refine aB e0 ?_);refine Rr ?_)
        refine D8 iq hL2 rfl hF3 λL3 hL3=>?_
        refine Rr ?_;repeat((first|refine dE.2 ?_|refine bQ ?_|refine aB e2 ?_|refine aB e0 ?_);refine Rr ?_)
        refine yY (r:=.agg [.il 2 x5,.bool b5]) hop hoq hpr hF4 hF3 hF5 rfl ?_;refine Rr ?_;repeat((first|refine dE.2 ?_|refine bQ ?_|refine aB e2 ?_|refine aB e0 ?_);refine Rr ?_)
        refine D9 (r:=.agg [.il 2 x2,.bool b2]) hsk hpr (by rw[<-hnk];exact hsk1) hF1 hF5 (by rw[<-hnk];exact hF2) rfl ?_;refine Rt ?_;exact .mk (k+1,L3) [(0,0),(1,1),(2,2),(3,3),(4,4)] ⟨by simp only;omega,hL3⟩
         (aE _ rfl (rR (ib:=2) (ic:=3) (id:=4) rfl rfl rfl rfl rfl rfl rfl rfl rfl rfl (by simp only;rw[hF2];exact oN _ _ nf2))
          ⟨aF,aF,aF,aM (.ip' nN),aF,aM (.il' (bK _)),aJ,⟨_,rfl,.int (by rw[aV oq];simp)⟩,trivial⟩) (by simp only;omega)
       .have hke:k=xv.length:=by
         have:¬k<xv.length:=su hb
         omega
        (conv=>whnf);repeat(first|(refine hJ L1 _ [(0,0),(1,1),(2,2),(3,3),(4,4)] hL1 ?_;exact CC rfl rfl rfl rfl rfl rfl rfl rfl rfl rfl rfl (by rw[hp,<-hke,hF1];exact oN x1 b1 nf1) rfl rfl rfl rfl rfl;done)|(refine Xg ?_;conv=>whnf))
      .have k4:xk≠4:=su h
       rw[aAe k4] at hp;(conv=>whnf);repeat(first|(refine hJ L _ [(0,0),(1,1),(2,2),(3,3),(16,4)] hL ?_;exact CC rfl rfl rfl rfl rfl rfl rfl rfl rfl rfl rfl (by rw[hp];exact Cg [1]) rfl rfl rfl rfl rfl;done)|(refine Xg ?_;conv=>whnf))
  .have nf:=cQ res;have hkok:dW (i,none):=trivial;generalize hk:((i,none):Key)=kk at *;cases h2:o0 a kk with
   | false=>
    have hf:=hfn a h2;have hs:=hsn a;clear hfn hfy hsn hlk hp;unfold SP zY;generalize kK cG (aY mx) A a=E at *;obtain⟨x,b,hF⟩:∃x b,cG res = .agg [.il 2 x,.bool b]:=by cases res<;>exact⟨_,_,rfl⟩
    rw[hF] at hs nf |-;refine Rr ?_;rw[hf];refine Rr ?_;refine iM.2 ?_;refine Rr ?_;refine aW (n':=2) (m':=eO mx A (a++[kk])) [(0,0),(1,1)] rfl (cH (i:=0) (j:=1) rfl rfl rfl (by rw[hs];rfl)) (.same _ (by assumption)) ⟨a++[kk],λq hq=>?_,hF.symm,rfl,rfl⟩;rcases aAt.1 hq with hq|hq
    .exact ha q hq
    .rw[aBa.1 hq];exact hkok
   | true=>
    obtain⟨j,hj,he⟩:=hfy a ha h2;clear hfn hfy hsn hlk hp;unfold SP zY;generalize hE:kK cG (aY mx) A a=E at *;rw[aAF] at hj;obtain⟨x,b,hF⟩:∃x b,cG res = .agg [.il 2 x,.bool b]:=by cases res<;>exact⟨_,_,rfl⟩
    rw[hF] at hj he nf |-;refine Rr ?_;rw[hj];refine Rr ?_;refine aB he ?_;refine Rr ?_;refine aN hss ?_;refine Rr ?_;refine dE.2 ?_;rw[Bm he];refine Rr ?_;exact aW (n':=2) (m':=eO mx A a) [(0,0),(1,1)] rfl (cH (i:=0) (j:=1) rfl rfl rfl (by rw[hE];rfl)) (.same _ nf) ⟨a,ha,hF.symm,rfl,rfl⟩
end
end Go.Proofs.YtidjhgajglebnaaGreatDoor
namespace Go.Proofs.YtidjhgajglebnaaGreatDoor
open Go Go.Ax Go.Proofs Tryz
section
variable {mx:Nat} [UZ mx]
theorem Sq{A:List Nd}(h:VT A):∀i,i<A.length->Hy mx A i:=by
 intro i
 induction i using Nat.strongRecOn with
 | ind i ih=>exact λhi=>U0 h i hi λj hj=>ih j hj om
end
end Go.Proofs.YtidjhgajglebnaaGreatDoor
namespace Go.Proofs.YtidjhgajglebnaaGreatDoor
open Go Go.Ax Go.Proofs Tryz
variable{J:List (Nat × Nat)}{A:List Nd}{mem:aP}{a:AV}
theorem Wc(h:E6 A):Vg A:=⟨h.ok,h.val,h.vals,λx hx=>aAx (h.vlen x hx) om,λx hx=>aAx (h.klen x hx) om⟩
theorem Er{F:Fn}{b:AV}(h:Cv mem J a b):Cv mem J (.fn F [] [a]) (.fn F [] [b]):=
 .fn _ _ _ _ _ rfl rfl (λj c c' h1 _=>by simp at h1) (λj c c' h1 h2=>by
  cases j with
  | zero=>simp at h1 h2;subst h1 h2;exact h
  | succ j=>simp at h1)
theorem M1(A:List Nd)(mx:Nat):aH prog [] 65 [.agg [.il 12 (bJ A)],.int .i64 mx] [] 0 λr m k=>r = .ptr 0 0 0/\m=eO mx A []/\k=2:=by
 have hF:=SL 1 oq;rw[show (1:Int)=((1:Nat):Int) from rfl,dU] at hF;have nA:=aR A;have e1:bZ [1]=[.agg [.bool false,.il 1 (bR (dg 4294967296 1))]]:=by rw[vG];rfl
 have n1:NN (.agg [.bool false,.il 1 (bR (dg 4294967296 1))]):=.agg' (.cons (tB _) (.cons (tU _) .nil));refine aD bE func65 rfl ?_;generalize hN:bJ A=N at *;refine Rr ?_;refine hF.go ?_ (.cons nn .nil) n1;refine Rt ?_;subst hN;exact aW (r':=.ptr 0 0 0) (n':=2) (m':=eO mx A []) [(12,0),(10,1)] rfl
  ⟨⟨12,_,rfl,rfl,.cons (.agg (.cons (.same _ (.il' (aR A))) (.cons (Cv.fzR (id:=6) rfl rfl (by rw[e1];exact .same (.cons n1 .nil)) rfl) (.cons (.same _ (eI _)) (.cons (Er (Q5 (id:=1) rfl rfl rfl rfl (.same _ nn))) (.cons (Er (Q5 (id:=2) rfl rfl rfl rfl (Er (Q5 (id:=1) rfl rfl rfl rfl (.same _ nn))))) (.cons (Er (Q5 (id:=2) rfl rfl rfl rfl (Er (Q5 (id:=1) rfl rfl rfl rfl (.same _ nn))))) (.cons (.mp _ _ rfl) .nil)))))))) .nil⟩,⟨10,_,rfl,rfl,l7 cQ []⟩,trivial⟩
  (.ptr 12 0 0 0 rfl) ⟨rfl,rfl,rfl⟩
def Cz:Option (List Nat)->List Nat
 | none=>[]
 | some l=>l
theorem Tf(o:Option (List Nat)):∃b,cG o = .agg [.il 2 (bZ (Cz o)),.bool b]:=by cases o<;>exact⟨_,rfl⟩
theorem SK{mx:Nat}[UZ mx](h:VT A):aH prog [] 64 [.agg [.il 12 (bJ A)],.ptr 0 0 0,.nsl] (eO mx A []) 2 λr m k=>r = .il 2 (bZ (Cz ((aZ (aY mx)).all A (A.length-1))))/\(∃L,m=eO mx A L)/\k=2:=by
 have hp:=h.pos;have iA:=Sq (mx:=mx) h (A.length-1) om;obtain⟨b,hb⟩:=Tf ((aZ (aY mx)).all A (A.length-1));have nz:=cC (Cz ((aZ (aY mx)).all A (A.length-1)));generalize bZ (Cz ((aZ (aY mx)).all A (A.length-1)))=z at *;have hlen:(bJ A).length=A.length:=dL A;have hl:=h.tin.len;refine aD bE func64 rfl ?_;refine Rr ?_;rw[show ((((bJ A).length:Nat):Int) == 0)=false from beq_eq_false_iff_ne.2 om];have hw:IntKind.i64.wrap ((((bJ A).length:Nat):Int)-1)=((A.length-1:Nat):Int):=by rw[hlen,aV oq];omega
 refine Rr ?_;rw[hw];refine Rr ?_;refine D8 iA (L:=[]) sq rfl hb λL2 hL2=>?_
 refine Rt ?_;exact aW (n':=2) (m':=eO mx A L2) [(0,0),(1,1)] rfl (cH (i:=0) (j:=1) rfl rfl rfl rfl) (.same _ (.il' nz)) ⟨rfl,⟨L2,rfl⟩,rfl⟩
theorem sH.app{mem:aP}{J:List (Nat × Nat)}{us vs:List AV}(h2:sH mem J us vs):∀xs:List AV,kZ xs->sH mem J (xs++us) (xs++vs)
 | [],_=>h2
 | x::xs,h=>.cons (.same (h x (aAv ..))) (sH.app h2 xs λy hy=>h y (aAo _ hy))
def H2(m:Nat)(l:List Nat):List Nat:=l++List.replicate (m+1-l.length) 0
theorem XD(h:VT A)(mx:Nat)(hm:mx<=256):aT prog [] 22 [.agg [.il 12 (bJ A)],.int .i64 mx] (.tup [.il 2 (bZ (H2 mx (Cz ((aZ (aY mx)).all A (A.length-1))))),.int .i64 0]):=by
 have hV:=Cc A (Wc h.tin);rw[h.val] at hV;have hN:=M1 A mx;haveI:UZ mx:=⟨om⟩
 have hW:=SK (mx:=mx) h;have nA:NN (.agg [.il 12 (bJ A)]):=.agg' (.cons (.il' (aR A)) .nil);have hl:(Cz ((aZ (aY mx)).all A (A.length-1))).length<=mx+1:=by
  have:=I3 (A:=A) (m:=mx) h (i:=A.length-1) (by have:=h.pos;omega);cases ho:(aZ (aY mx)).all A (A.length-1) with
  | none=>simp[Cz]
  | some l=>exact(this l ho).1
 generalize Cz ((aZ (aY mx)).all A (A.length-1))=l at *;have nl:=cC l;have ll:=fP l;have w1:IntKind.i64.wrap (((mx:Nat):Int)+1)=((mx+1:Nat):Int):=by rw[aV oq];simp
 have d1:decide (((mx:Nat):Int)<0)=false:=aAw om;have d2:decide (((mx:Nat):Int)>256)=false:=aAw om;refine aD bE func22 rfl ?_;refine Rr ?_;refine hV.go ?_ (.cons nA .nil) nn;refine Rt ?_;rw[d1];refine Rt ?_;rw[d2];refine Rt ?_;rw[w1];refine aN (bV rfl (bV rfl (bV rfl (bV (aAn om) (bV (aAn om) (bV (sZ rfl om om) (aAn om))))))) ?_;refine Rt ?_;rw[show ((mx+1:Nat):Int).toNat=mx+1 from aAc _];refine aH.useN bE [] hN rfl (.same (.cons nA (.cons nn .nil))) trivial rfl ?_;rintro r m k ⟨rfl,rfl,rfl⟩;refine⟨[(0,9),(1,10)],.ptr 9 0 0,[(9,.row 211 7 [rI mx A 10]),(10,.mapb (kK cG (aY mx) A []))],11,.ptr 0 9 0 0 rfl,⟨⟨0,_,rfl,rfl,.cons (pL rfl) .nil⟩,⟨1,_,rfl,rfl,l7 cQ []⟩,trivial⟩,rfl, ?_⟩;refine Rt ?_;refine aH.useN bE [(9,0),(10,1)] hW rfl (.cons (.same _ nA) (.cons (.ptr 9 0 0 0 rfl) (.cons (.same _ .nsl) .nil))) (cH (i:=9) (j:=10) rfl rfl rfl rfl) rfl ?_;rintro r m k ⟨rfl,⟨L,rfl⟩,rfl⟩;refine⟨[(0,9),(1,10)],.il 2 (bZ l),[(9,.row 211 7 [rI mx A 10]),(10,.mapb (kK cG (aY mx) A L))],21,.same _ (.il' nl),⟨⟨0,_,rfl,rfl,.cons (pL rfl) .nil⟩,⟨1,_,rfl,rfl,l7 cQ L⟩,trivial⟩,rfl, ?_⟩;refine Rt ?_;refine aN (bV rfl (bV rfl (bV (aAf om) (aAf sq)))) ?_;refine Rt ?_;have e2:List.drop (bZ l).length (List.replicate (mx+1) (AV.agg [.bool false,.nsl]))=List.replicate (mx+1-l.length) (AV.agg [.bool false,.nsl]):=by rw[List.drop_replicate,ll]
 have e3:bZ (H2 mx l)=bZ l++bZ (List.replicate (mx+1-l.length) 0):=by unfold bZ H2;rw[aBu]
 rw[e2,e3];have hz:=λ(mem:aP) (J:List (Nat × Nat))=>sH.app (uL (mem:=mem) (J:=J) (mx+1-l.length)) (bZ l) nl
 have hlen:(bZ l++bZ (List.replicate (mx+1-l.length) 0)).length=mx+1:=by rw[aAA,fP,fP,aA9];omega
 exact aW (n':=0) (m':=[]) [] rfl trivial (.tup' (.cons (Cv.fzR (id:=1) rfl rfl (hz _ _) hlen) (.s .nil))) ⟨rfl,rfl,rfl⟩
end Go.Proofs.YtidjhgajglebnaaGreatDoor
namespace Go.Ax
open Go
def bI:Bd (Nat × Nat):=⟨(0,0),λa b=>(min a.1 b.1,max a.2 b.2),λa b=>(a.1+b.1,a.2+b.2),λ_ _=>(1,1),λ_=>(1,1)⟩
theorem Jn{f:Nat->Nat}:∀n,0<jJ f n↔∃i<n,0<f i
 | 0=>by simp[jJ]
 | n+1=>by
  have ih:=Jn (f:=f) n;rw[jJ];constructor
  .intro h;rcases aAr 0 (f n) with h1|h1
   .exact⟨n,om,h1⟩
   .obtain⟨i,hi,hp⟩:=ih.1 om;exact⟨i,om,hp⟩
  .rintro⟨i,hi,hp⟩;rcases aAr i n with h1|h1
   .have:=ih.2 ⟨i,h1,hp⟩;omega
   .have:i=n:=om;subst this;omega
theorem Fi{f g:Nat->Nat}{k:Nat}:0<xN f g k↔∃i≤k,0<f i/\0<g (k-i):=by
 unfold xN;rw[Jn];constructor
 .rintro⟨i,hi,hp⟩;exact⟨i,om,Nat.pos_of_mul_pos_right hp,Nat.pos_of_mul_pos_left hp⟩
 .rintro⟨i,hi,h1,h2⟩;exact⟨i,om,aCd h1 h2⟩
def oO(o:Option (Nat × Nat))(r:List Cell):Prop:=match o with
 | none=>∀k,nR r k=0
 | some p=>p.1<=p.2/\0<nR r p.1/\0<nR r p.2/\∀k,0<nR r k->p.1<=k/\k<=p.2
theorem oO.plus{a b:Option (Nat × Nat)}{r s:List Cell}(h1:oO a r)(h2:oO b s):oO (fX bI a b) (dY false r s):=by
 cases a with
 | none=>
  have e:fX bI none b=b:=by cases b<;>rfl
  rw[e];have e2:∀k,nR (dY false r s) k=nR s k:=λk=>by rw[AZ,h1 k,aAF]
  cases b with
  | none=>exact λk=>by rw[e2];exact h2 k
  | some q=>
   obtain⟨q1,q2,q3,q4⟩:=h2;exact⟨q1,by rw[e2];exact q2,by rw[e2];exact q3,λk hk=>q4 k (by rwa [e2] at hk)⟩
 | some p=>
  obtain⟨p1,p2,p3,p4⟩:=h1;cases b with
  | none=>
   have e2:∀k,nR (dY false r s) k=nR r k:=λk=>by rw[AZ,h2 k,aBo]
   exact⟨p1,by rw[e2];exact p2,by rw[e2];exact p3,λk hk=>p4 k (by rwa [e2] at hk)⟩
  | some q=>
   obtain⟨q1,q2,q3,q4⟩:=h2;refine⟨?_, ?_, ?_,λk hk=>?_⟩
   .show min p.1 q.1<=max p.2 q.2
    omega
   .show 0<nR _ (min p.1 q.1)
    rw[AZ];rcases Nat.le_total p.1 q.1 with h|h
    .rw[aBN h];omega
    .rw[Nat.min_eq_right h];omega
   .show 0<nR _ (max p.2 q.2)
    rw[AZ];rcases Nat.le_total p.2 q.2 with h|h
    .rw[Nat.max_eq_right h];omega
    .rw[Nat.max_eq_left h];omega
   .show min p.1 q.1<=k/\k<=max p.2 q.2
    rw[AZ] at hk;rcases aAr 0 (nR r k) with h|h
    .have:=p4 k h;omega
    .have:=q4 k om;omega
theorem oO.times{a b:Option (Nat × Nat)}{r s:List Cell}(h1:oO a r)(h2:oO b s):oO (c8 bI a b) (f6 false r s):=by
 cases a with
 | none=>
  have e:c8 bI none b=none:=by cases b<;>rfl
  rw[e];intro k;rw[Cm];exact mQ _ λi _=>by rw[h1 i,aCq]
 | some p=>
  cases b with
  | none=>
   intro k;rw[Cm];exact mQ _ λi _=>by rw[h2 (k-i),aCn]
  | some q=>
   obtain⟨p1,p2,p3,p4⟩:=h1;obtain⟨q1,q2,q3,q4⟩:=h2;refine⟨?_, ?_, ?_,λk hk=>?_⟩
   .show p.1+q.1<=p.2+q.2
    omega
   .show 0<nR _ (p.1+q.1)
    rw[Cm,Fi];exact⟨p.1,om,p2,by rw[aCE];exact q2⟩
   .show 0<nR _ (p.2+q.2)
    rw[Cm,Fi];exact⟨p.2,om,p3,by rw[aCE];exact q3⟩
   .show p.1+q.1<=k/\k<=p.2+q.2
    rw[Cm,Fi] at hk;obtain⟨i,hi,a1,a2⟩:=hk;have:=p4 i a1;have:=q4 _ a2;omega
theorem oO.none:oO none []:=λk=>sU sq
theorem oO.one:oO (some bI.one) eM:=by
 refine⟨aAp _,by show 0<nR eM 0;rw[Bs];decide,by show 0<nR eM 0;rw[Bs];decide,λk hk=>?_⟩;rw[Bs] at hk
 match k with
 | 0=>exact⟨aAp _,aAp _⟩
 | k+1=>rw[oE sq] at hk;omega
theorem oO.up{z p q:Int}(h:0<z.toNat):oO (some (1,1)) (iP z p q):=by
 refine⟨aAp _,by rw[Hm,aAh rfl];exact h,by rw[Hm,aAh rfl];exact h,λk hk=>?_⟩;rw[Hm] at hk;split at hk
 .subst k;exact⟨aAp _,aAp _⟩
 .omega
theorem Bi{A:List Nd}(h:VT A):∀i,i<A.length->oO ((aZ bI).all A i) ((fQ false).all A i)/\∀v,bG v=0->oO ((aZ bI).of A i v) ((fQ false).of A i v):=by
 intro i
 induction i using Nat.strongRecOn with
 | ind i ih=>
  intro hi;have hx:=b9 hi;have hk:=λ(k:Int) (hk:k∈(aG A i).kids)=>eH h hx hk
  have ia:=λ(k:Int) (hm:k∈(aG A i).kids)=>(ih k.toNat (hk k hm).2 (by have:=hk k hm;omega)).1
  have io:=λ(k:Int) (hm:k∈(aG A i).kids)=>(ih k.toNat (hk k hm).2 (by have:=hk k hm;omega)).2
  have hvv:=λ(u:aQ) (hu:u∈(aG A i).values)=>h.vals_valid hx hu
  have hnum:=(h.node hx).node.num;rw[(aZ bI).all_eq h hi,(fQ false).all_eq h hi];refine⟨?_,λv hv=>?_⟩
  .show oO (v8 _ _ _ _) (iV _ _ _ _)
   unfold v8 iV;generalize aG A i=x at *;split
   .refine oO.up ?_;obtain⟨r1,r2,r3,r4⟩:=dG hnum;omega
   split
   .exact eP _ _ _ .one λk hm b c hb=>hb.times (ia k hm)
   split
   .exact eP _ _ _ .none λkc hm b c hb=>hb.plus (oO.times (.up (by decide)) (ia _ (dS hm)))
   split
   .refine eP _ _ _ .none λvk hm b c hb=>?_
    obtain⟨m1,m2⟩:=cN hm;exact hb.plus ((io _ m2 _ (hvv _ (aA0 hm).1)).times (ia _ m1))
   .exact .one
  .rw[(aZ bI).of_eq h hi,(fQ false).of_eq h hi]
   show oO (qE _ _ _ _) (iS _ _ _ _)
   unfold qE iS;rw[aAe (show ¬bG v≠0 by omega)];generalize aG A i=x at *;split
   .split
    .exact .one
    .exact .none
   split
   .split
    .exact oO.up (by decide)
    .exact .none
   split
   .split
    .refine eP _ _ _ .one λkv hm b c hb=>?_
     obtain⟨m1,m2⟩:=aA0 hm;exact hb.times (io _ m1 _ (kA hv _ m2))
    .exact .none
   split
   .exact eP _ _ _ .none λkc hm b c hb=>hb.plus (oO.times (.up (by decide)) (io _ (dS hm) v hv))
   split
   .refine eP _ _ _ .none λvk hm b c hb=>?_
    obtain⟨m1,m2⟩:=cN hm;exact hb.plus ((io _ m2 _ (hvv _ (aA0 hm).1)).times (io _ m1 v hv))
   .exact .none
def I7(o:Option (Nat × Nat)):Prop:=∀p,o=some p->p.1<=257/\p.2<=257
theorem I7.up:I7 (some (1,1)):=λp e=>by injection e with e;subst e;exact⟨by decide,by decide⟩
theorem I7.of{o:Option (Nat × Nat)}{r:List Cell}(h:oO o r)(hl:r.length<=257):I7 o:=λp e=>by
 subst e;obtain⟨h1,h2,h3,h4⟩:=h;rcases aAr p.2 r.length with q|q
 .omega
 .rw[sU q] at h3;omega
section
variable {A:List Nd} (h:VT A) {i:Nat} (hi:i<A.length)
include h hi
theorem TC:I7 ((aZ bI).all A i):=I7.of (Bi h i hi).1 (iG h hi (o:=none) (λv e=>by cases e)).1
theorem Sa{v:aQ}(hv:bG v=0):I7 ((aZ bI).of A i v):=I7.of ((Bi h i hi).2 v hv) (iG h hi (o:=some v) (λu e=>by injection e with e;exact e ▸ hv)).1
theorem TW(h3:(aG A i).kind=3)(k:Nat):I7 (I8 bI (aG A i) ((aZ bI).all A) k):=by
 have hk:=λ(q:Int) (hq:q∈(aG A i).kids)=>rJ h hi hq
 have hb:=(G7 h hi h3 (List.replicate (aG A i).kids.length none) (λo ho v e=>by rw[(aC5.1 ho).2] at e;cases e) k).1;refine I7.of (r:=Dr A (aG A i) (List.replicate (aG A i).kids.length none) k) ?_ hb;unfold I8 Dr;rw[m7,List.take_replicate];have key:∀(ks:List Int) (n:Nat) (b:Option (Nat × Nat)) (c:List Cell),(∀q∈ks,q∈(aG A i).kids)->ks.length<=n->oO b c->oO (ks.foldl (λf k=>c8 bI f ((aZ bI).all A k.toNat)) b) ((ks.zip (List.replicate n none)).foldl (λf kp=>f6 false f (jC A kp.1.toNat kp.2)) c):=by
  intro ks
  induction ks with
  | nil=>intro n b c _ _ hr;simpa using hr
  | cons q ks ih=>
   intro n b c hq hn hr;obtain⟨n,rfl⟩:∃n',n=n'+1:=⟨n-1,by simp at hn;omega⟩
   rw[aA6,aA4,aAy,aAy];exact ih n _ _ (λr hr=>hq r (aAo _ hr)) (su hn) (hr.times (Bi h _ (hk q (hq q (aAv ..)))).1)
 exact key _ _ _ _ (λq hq=>aAI hq) sq .one
theorem Sr(h3:(aG A i).kind=3)(vs:List aQ)(hvs:∀v∈vs,bG v=0)(k:Nat):I7 (NC bI (aG A i) ((aZ bI).of A) vs k):=by
 have hk:=λ(q:Int) (hq:q∈(aG A i).kids)=>rJ h hi hq
 have hb:=(G7 h hi h3 (vs.map some) (λo ho v e=>by
  obtain⟨u,hu,rfl⟩:=aAE.1 ho;injection e with e;exact e ▸ hvs u hu) k).1
 refine I7.of (r:=Dr A (aG A i) (vs.map some) k) ?_ hb;unfold NC Dr;rw[m7,m7,<-List.map_take];have key:∀(ks:List Int) (vs:List aQ) (b:Option (Nat × Nat)) (c:List Cell),(∀q∈ks,q∈(aG A i).kids)->(∀v∈vs,bG v=0)->oO b c->oO ((ks.zip vs).foldl (YM bI ((aZ bI).of A)) b) ((ks.zip (vs.map some)).foldl (λf kp=>f6 false f (jC A kp.1.toNat kp.2)) c):=by
  intro ks
  induction ks with
  | nil=>intro vs b c _ _ hr;simpa using hr
  | cons q ks ih=>
   intro vs b c hq hv hr;cases vs with
   | nil=>simpa using hr
   | cons v vs=>
    rw[aAT,aA4,aA4,aAy,aAy];exact ih vs _ _ (λr hr=>hq r (aAo _ hr)) (λu hu=>hv u (aAo _ hu)) (hr.times ((Bi h _ (hk q (hq q (aAv ..)))).2 v (hv v (aAv ..))))
 exact key _ _ _ _ (λq hq=>aAI hq) (λv hv=>hvs v (aAI hv)) .one
end
end Go.Ax
