/- A part of the proof. -/
import Derived.Test.YthempfhilcmfnaaGreatAx15
set_option linter.unusedVariables false
set_option linter.unusedSimpArgs false
namespace Go.Proofs.YthempfhilcmfnaaGreat
open Go Go.Ax Go.Proofs Tryz
set_option maxRecDepth 100000
set_option maxHeartbeats 8000000
theorem It(x:Nd)(ks:List bB):a8 prog [] 84 [.ip (bU x),.il 4 (aT ks)] (bT (dJ x.name ks)):=by
 obtain⟨kind,name,lo,hi,ws,ls,vals,kids,⟨vk,vn,vs,vks⟩⟩:=x;refine aL bC func84 rfl ?_;unfold dJ;((conv=>whnf);repeat(refine Xg ?_;conv=>whnf));refine aO (fun h=>?_) (fun h=>?_)
 ·have h1:name=[]:=by simpa using h
  rw[Rx h1];((conv=>whnf);repeat(refine Xg ?_;conv=>whnf));exact aA nn ⟨rfl,rfl,rfl⟩
 ·have h1:¬name=[]:=by simpa using h
  rw[Rp h1];((conv=>whnf);repeat(refine Xg ?_;conv=>whnf));repeat(refine aD ?_;(conv=>whnf);repeat(refine Xg ?_;conv=>whnf))
  exact aA nn ⟨rfl,rfl,rfl⟩
theorem PD(x:Nd)(hx:rL x)(hs:bH x.value<=1048576)(hv:∀v∈x.values,bH v<=1048576)(h0:x.kind=0->x.values=[]):a8 prog [] 122 [.ip (bU x)] (.int .i64 (eQ (oI x))):=by
 have hV:=G7 x.value hx.value hs;have hvv:=hx.valuesI;have hvl:=hx.values;obtain⟨kind,name,lo,hi,ws,ls,vals,kids,⟨vk,vn,vs,vks⟩⟩:=x;simp only at hV hv h0 hvv hvl;refine aL bC func122 rfl ?_;((conv=>whnf);repeat(refine Xg ?_;conv=>whnf));refine aO (fun h=>?_) (fun h=>?_)
 ·have h1:kind=0:=by simpa using h
  subst h1;have e:eQ (oI ⟨0,name,lo,hi,ws,ls,vals,kids,.mk vk vn vs vks⟩)=fW (.mk vk vn vs vks):=by
   rw[h0 rfl];simp only[oI,if_true,Sh,eQ];split
   ·rfl
   ·rename_i h;simpa using (Decidable.not_not.1 h).symm
  rw[e];generalize fW (.mk vk vn vs vks)=z at hV;((conv=>whnf);repeat(refine Xg ?_;conv=>whnf));refine hV.go ?_;((conv=>whnf);repeat(refine Xg ?_;conv=>whnf));exact aA nn ⟨rfl,rfl,rfl⟩
 ·have h1:¬kind=0:=by simpa using h
  have e:oI ⟨kind,name,lo,hi,ws,ls,vals,kids,.mk vk vn vs vks⟩=vals:=by simp[oI,h1]
  rw[e];((conv=>whnf);repeat(refine Xg ?_;conv=>whnf));refine a7.at bC (fun i:Nat=>i<=vals.length/\eQ vals=eQ (vals.drop i)) (fun i=>⟨[(19,.il 4 (aT vals)),(20,.int .i64 vals.length),(21,.int .i64 i)],[],0,31⟩) (fun i=>vals.length-i) 0 [] ⟨by simp,by simp⟩
   (bL ⟨⟨_,rfl,.same _ (.il' (aV _))⟩,⟨_,rfl,.int (by rw[aF])⟩,aH,trivial⟩) ?_
  rintro i ⟨hi,hf⟩;((conv=>whnf);repeat(refine Xg ?_;conv=>whnf));refine aO (fun h=>?_) (fun h=>?_)
  ·have hil:i<vals.length:=by simpa using h
   have ei:(aT vals)[((i:Nat):Int).toNat]? = some (bT vals[i]):=by simp[i6,Rm hil]
   have hm:=SI hil;have hV2:=G7 vals[i] (hvv _ hm).1 (hv _ hm);rw[SH hil,eQ] at hf;generalize vals[i]=y at ei hV2 hf;generalize fW y=z at hV2 hf;obtain⟨y1,y2,y3,y4⟩:=y;((conv=>whnf);repeat(refine Xg ?_;conv=>whnf));refine aC ei ?_;((conv=>whnf);repeat(refine Xg ?_;conv=>whnf));refine hV2.go ?_;((conv=>whnf);repeat(refine Xg ?_;conv=>whnf));refine aO (fun h2=>?_) (fun h2=>?_)
   ·have e:z≠0:=by simpa using h2
    rw[Rx e] at hf;rw[hf];((conv=>whnf);repeat(refine Xg ?_;conv=>whnf));exact aA nn ⟨rfl,rfl,rfl⟩
   ·have e:¬z≠0:=by simpa using h2
    rw[Rp e] at hf;((conv=>whnf);repeat(refine Xg ?_;conv=>whnf));exact .mk (i+1) [] ⟨by omega,hf⟩ (bL ⟨⟨_,rfl,.same _ (.il' (aV _))⟩,aH,⟨_,rfl,.wo⟩,trivial⟩) (by omega)
  ·have hil:i=vals.length:=by simp at h;omega
   rw[hil,TZ,eQ] at hf;rw[hf];((conv=>whnf);repeat(refine Xg ?_;conv=>whnf));exact aA nn ⟨rfl,rfl,rfl⟩
theorem PJ(x:Nd)(hx:rL x):a8 prog [] 123 [.ip (bU x)] (.bool (dW x)):=by
 have b1:=hx.lo;have b2:=hx.hi;have b3:=hx.weights;clear hx;obtain⟨kind,name,lo,hi,ws,ls,vals,kids,⟨vk,vn,vs,vks⟩⟩:=x;simp only[i64] at b1 b2 b3;have hnum:dW ⟨kind,name,lo,hi,ws,ls,vals,kids,.mk vk vn vs vks⟩=(decide (lo<=hi) && decide (-4611686018427387904<=lo) && decide (hi<=4611686018427387904) && decide (hi<lo+1099511627776) && ws.all fun w=>decide (1<=w) && decide (w<=1000)):=rfl;generalize dW ⟨kind,name,lo,hi,ws,ls,vals,kids,.mk vk vn vs vks⟩=res at hnum;have hF:∀P:Prop,(res=true->P)->(¬P)->res=false:=fun P h1 h2=>by
  cases hr:res with
  | false=>rfl
  | true=>exact absurd (h1 hr) h2
 refine aL bC func123 rfl ?_;((conv=>whnf);repeat(refine Xg ?_;conv=>whnf));repeat(refine aD ?_;(conv=>whnf);repeat(refine Xg ?_;conv=>whnf))
 by_cases h1:lo<=hi
 ·have d1:decide (lo>hi)=false:=by simp;omega
  rw[d1];((conv=>whnf);repeat(refine Xg ?_;conv=>whnf));repeat(refine aD ?_;(conv=>whnf);repeat(refine Xg ?_;conv=>whnf))
  by_cases h2 : -4611686018427387904<=lo
  ·have d2:decide (lo < -4611686018427387904)=false:=by simp;omega
   rw[d2];((conv=>whnf);repeat(refine Xg ?_;conv=>whnf));repeat(refine aD ?_;(conv=>whnf);repeat(refine Xg ?_;conv=>whnf))
   by_cases h3:hi<=4611686018427387904
   ·have d3:decide (hi>4611686018427387904)=false:=by simp;omega
    rw[d3];((conv=>whnf);repeat(refine Xg ?_;conv=>whnf));repeat(refine aD ?_;(conv=>whnf);repeat(refine Xg ?_;conv=>whnf))
    have hw:IntKind.u64.wrap (IntKind.u64.wrap hi-IntKind.u64.wrap lo)=hi-lo:=by rw[p6,p6,p6];omega
    simp only[hw];by_cases h4:hi<lo+1099511627776
    ·have d4:decide (hi-lo≥1099511627776)=false:=by simp;omega
     rw[d4];((conv=>whnf);repeat(refine Xg ?_;conv=>whnf));refine a7.at bC (fun k:Nat=>k<=ws.length/\∀j w,j<k->ws[j]? = some w->1<=w/\w<=1000)
      (fun k=>⟨[(45,.il 1 (aI ws)),(46,.int .i64 ws.length),(47,.int .i64 k)],[],0,58⟩) (fun k=>ws.length-k) 0 [] ⟨by simp,by simp⟩
      (bL ⟨⟨_,rfl,.same _ (.il' (aG _))⟩,⟨_,rfl,.int (by rw[aE])⟩,aH,trivial⟩) ?_
     rintro k ⟨hk,hall⟩;((conv=>whnf);repeat(refine Xg ?_;conv=>whnf));refine aO (fun h=>?_) (fun h=>?_)
     ·have hlt:k<ws.length:=by simpa using h
      have e1:(aI ws)[(k:Int).toNat]? = some (.int .i64 ws[k]):=by rw[Rq,bG,Rm hlt];rfl
      have hg:ws[k]? = some ws[k]:=Rm hlt;generalize ws[k]=w at e1 hg;have hbad:(1<=w/\w<=1000->False)->res=false:=fun hb=>hF (1<=w/\w<=1000) (by
       intro e;rw[hnum] at e;simp only[Rr,S5,SP] at e;exact e.2 w (R3 hg)) hb
      ((conv=>whnf);repeat(refine Xg ?_;conv=>whnf));refine aC e1 ?_;((conv=>whnf);repeat(refine Xg ?_;conv=>whnf));by_cases g1:1<=w
      ·have d1:decide (w<1)=false:=by simp;omega
       rw[d1];((conv=>whnf);repeat(refine Xg ?_;conv=>whnf));refine aO (fun h=>?_) (fun h=>?_)
       ·((conv=>whnf);repeat(refine Xg ?_;conv=>whnf));refine aA nn ⟨?_,rfl,rfl⟩;rw[hbad (by simp at h;omega)]
       ·have g2:w<=1000:=by simpa using h
        ((conv=>whnf);repeat(refine Xg ?_;conv=>whnf));refine .mk (k+1) [] ⟨by omega,fun j w2 hj hw2=>?_⟩ (bL ⟨⟨_,rfl,.same _ (.il' (aG _))⟩,aH,⟨_,rfl,.wo⟩,trivial⟩) (by omega);rcases R9 j k with hj'|hj'
        ·exact hall j w2 hj' hw2
        ·have hjk:j=k:=by omega
         rw[hjk,hg] at hw2;cases hw2;exact⟨g1,g2⟩
      ·have d1:decide (w<1)=true:=by simp;omega
       rw[d1];((conv=>whnf);repeat(refine Xg ?_;conv=>whnf));refine aA nn ⟨?_,rfl,rfl⟩;rw[hbad (by omega)]
     ·have hk':k=ws.length:=by simp at h;omega
      ((conv=>whnf);repeat(refine Xg ?_;conv=>whnf));refine aA nn ⟨?_,rfl,rfl⟩;rw[hnum];congr 1;symm;simp only[Rr,S5,SP];refine⟨⟨⟨⟨h1,h2⟩,h3⟩,h4⟩,fun w hw=>?_⟩;obtain⟨j,hj⟩:=Sb hw;exact hall j w (by rw[hk'];exact(Rt.1 hj).1) hj
    ·have d4:decide (hi-lo≥1099511627776)=true:=by simp;omega
     rw[d4];((conv=>whnf);repeat(refine Xg ?_;conv=>whnf));refine aA nn ⟨?_,rfl,rfl⟩;rw[hF (hi<lo+1099511627776) (by intro e;rw[hnum] at e;simp at e;omega) h4]
   ·have d3:decide (hi>4611686018427387904)=true:=by simp;omega
    rw[d3];((conv=>whnf);repeat(refine Xg ?_;conv=>whnf));refine aA nn ⟨?_,rfl,rfl⟩;rw[hF (hi<=4611686018427387904) (by intro e;rw[hnum] at e;simp at e;omega) h3]
  ·have d2:decide (lo < -4611686018427387904)=true:=by simp;omega
   rw[d2];((conv=>whnf);repeat(refine Xg ?_;conv=>whnf));refine aA nn ⟨?_,rfl,rfl⟩;rw[hF (-4611686018427387904<=lo) (by intro e;rw[hnum] at e;simp at e;omega) h2]
 ·have d1:decide (lo>hi)=true:=by simp;omega
  rw[d1];((conv=>whnf);repeat(refine Xg ?_;conv=>whnf));refine aA nn ⟨?_,rfl,rfl⟩;rw[hF (lo<=hi) (by intro e;rw[hnum] at e;simp at e;omega) h1]
theorem H6(bs:List Int)(x:Nd)(hx:rL x)(hkl:x.kids.length<=65536)(hb:∀y∈bs,0<=y/\y<=1024)(hk:∀(j:Nat) (k:Int),x.kids[j]? = some k->0<=k/\k<bs.length)(h4:4<=x.kind->0<x.kids.length)(hkind:0<=x.kind/\x.kind<=4) :
  a8 prog [] 83 [.ip (bU x),.il 1 (aI bs)] (.int .i64 (eU bs x)):=by
 have hxn:=aW x;have hat:∀k:Int,0<=Go.Ax.d7 bs k/\Go.Ax.d7 bs k<=1024:=fun k=>by
  unfold Go.Ax.d7;rw[Rn];cases h:bs[k.toNat]? with
  | none=>simp
  | some y=>exact hb y (R3 h)
 have eat:∀k:Int,0<=k->k<bs.length->(aI bs)[k.toNat]? = some (.int .i64 (Go.Ax.d7 bs k)):=fun k h0 h1=>by
  have:k.toNat<bs.length:=by omega
  rw[bG,Rm this];unfold Go.Ax.d7;rw[Rn,Rm this];rfl
 have hs:=fun l=>iO (b:=bs) (M:=1024) (by omega) hb l
 have hm:=fun l=>gA (b:=bs) (M:=1024) (by omega) hb l
 have hlen:eU bs x=if x.kind=0 then 0 else if x.kind=1 then 1 else if x.kind=3 then fC bs x.kids else if x.kind=2 then 1+cR bs (dX x) else Go.Ax.d7 bs (x.kids.getD 0 0)+cR bs (dX x):=rfl
 have hM:∀k:Nat,k<x.kids.length->(cR bs (if x.kind=2 then x.kids.take (k+1) else(x.kids.take (k+1)).drop 1))=if 0<k∨x.kind=2 then max (cR bs (if x.kind=2 then x.kids.take k else(x.kids.take k).drop 1)) (Go.Ax.d7 bs (x.kids.getD k 0)) else cR bs (if x.kind=2 then x.kids.take k else(x.kids.take k).drop 1):=fun k hk=>by
  have eg:x.kids.getD k 0=x.kids[k]:=by rw[Rn,Rm hk];rfl
  rw[eg];by_cases e2:x.kind=2
  ·rw[Rx e2,Rx (.inr e2),Rx e2,p5 hk]
  ·rw[Rp e2,Rp e2];by_cases e0:0<k
   ·rw[Rx (.inl e0),oC hk e0]
   ·rw[Rp (by omega)];have:k=0:=by omega
    subst this;simp[cR,UN]
 obtain⟨kind,name,lo,hi,ws,ls,vals,kids,⟨vk,vn,vs,vks⟩⟩:=x;simp only at hkl hk h4 hkind hlen hM;generalize eU bs ⟨kind,name,lo,hi,ws,ls,vals,kids,.mk vk vn vs vks⟩=res at hlen;refine aL bC func83 rfl ?_;((conv=>whnf);repeat(refine Xg ?_;conv=>whnf));refine a7.at bC (fun p:Nat × Int × Int=>p.1<=kids.length/\p.2.1=fC bs (kids.take p.1)/\p.2.2=cR bs (if kind=2 then kids.take p.1 else(kids.take p.1).drop 1))
  (fun p=>⟨[(0,.ip (bU ⟨kind,name,lo,hi,ws,ls,vals,kids,.mk vk vn vs vks⟩)),(1,.il 1 (aI bs)),(5,.int .i64 p.2.1),(6,.int .i64 p.2.2),(12,.il 1 (aI kids)),(13,.int .i64 kids.length),(14,.int .i64 p.1)],[],0,67⟩)
  (fun p=>kids.length-p.1) (0,0,0) [] ⟨by simp,by simp[fC],by simp[cR]⟩
  (bL ⟨⟨_,rfl,.same _ (.ip _ (hxn.cells.get))⟩,⟨_,rfl,.same _ (.il' (aG _))⟩,aH,aH,⟨_,rfl,.same _ (.il' (aG _))⟩,⟨_,rfl,.int (by rw[aE])⟩,aH,trivial⟩) ?_
 rintro⟨k,sum,most⟩ ⟨hkk,hsum,hmost⟩;simp only at hkk hsum hmost ⊢;have bsum:=hs (kids.take k);rw[←hsum] at bsum;have bm:=hm (if kind=2 then kids.take k else(kids.take k).drop 1);rw[←hmost] at bm;have btk:(kids.take k).length<=65536:=by simp;omega
 ((conv=>whnf);repeat(refine Xg ?_;conv=>whnf));refine aO (fun h=>?_) (fun h=>?_)
 ·have hlt:k<kids.length:=by simpa using h
  have e1:(aI kids)[(k:Int).toNat]? = some (.int .i64 kids[k]):=by rw[Rq,bG,Rm hlt];rfl
  obtain⟨q0,q1⟩:=hk k _ (Rm hlt);have hst:=tP (b:=bs) hlt;have hM:=hM k hlt;have eg:kids.getD k 0=kids[k]:=by rw[Rn,Rm hlt];rfl
  rw[←hsum] at hst;rw[eg,←hmost] at hM;generalize kids[k]=q at e1 q0 q1 hst hM;obtain⟨q,rfl⟩:=R7 q0;have e2:=eat q q0 q1;have hq:=hat q;generalize Go.Ax.d7 bs q=z at e2 hq hst hM;have hw:IntKind.i64.wrap (sum+z)=sum+z:=bY ⟨by omega,by omega⟩;((conv=>whnf);repeat(refine Xg ?_;conv=>whnf));repeat((first|refine aC e1 ?_|refine aC e2 ?_);(conv=>whnf);repeat(refine Xg ?_;conv=>whnf))
  by_cases k0:0<k
  ·have d0:decide ((k:Int)>0)=true:=by simp;omega
   rw[d0];((conv=>whnf);repeat(refine Xg ?_;conv=>whnf));repeat((first|refine aC e1 ?_|refine aC e2 ?_);(conv=>whnf);repeat(refine Xg ?_;conv=>whnf))
   exact .mk (k+1,sum+z,max most z) [] ⟨by simp only;omega,by simp only;rw[hst],by simp only;rw[hM,Rx (.inl k0)]⟩ (bL ⟨⟨_,rfl,.same _ (.ip _ (hxn.cells.get))⟩,⟨_,rfl,.same _ (.il' (aG _))⟩,⟨_,rfl,.int (by simp only;exact hw)⟩,⟨_,rfl,.int (by simp only;split<;>omega)⟩,⟨_,rfl,.same _ (.il' (aG _))⟩,aH,⟨_,rfl,.wp⟩,trivial⟩) (by simp only;omega)
  ·have k0':k=0:=by omega
   have d0:decide ((k:Int)>0)=false:=by simp;omega
   rw[d0];((conv=>whnf);repeat(refine Xg ?_;conv=>whnf));by_cases k2:kind=2
   ·subst k2;((conv=>whnf);repeat(refine Xg ?_;conv=>whnf));repeat((first|refine aC e1 ?_|refine aC e2 ?_);(conv=>whnf);repeat(refine Xg ?_;conv=>whnf))
    exact .mk (k+1,sum+z,max most z) [] ⟨by simp only;omega,by simp only;rw[hst],by show max most z=cR bs (if (2:Int)=2 then kids.take (k+1) else(kids.take (k+1)).drop 1);rw[hM,Rx (.inr rfl)]⟩ (bL ⟨⟨_,rfl,.same _ (.ip _ (hxn.cells.get))⟩,⟨_,rfl,.same _ (.il' (aG _))⟩,⟨_,rfl,.int (by simp only;exact hw)⟩,⟨_,rfl,.int (by simp only;split<;>omega)⟩,⟨_,rfl,.same _ (.il' (aG _))⟩,aH,⟨_,rfl,.wp⟩,trivial⟩) (by simp only;omega)
   ·have d2:(kind == 2)=false:=by simpa using k2
    rw[d2];((conv=>whnf);repeat(refine Xg ?_;conv=>whnf));exact .mk (k+1,sum+z,most) [] ⟨by simp only;omega,by simp only;rw[hst],by simp only;rw[hM,Rp (by omega)]⟩ (bL ⟨⟨_,rfl,.same _ (.ip _ (hxn.cells.get))⟩,⟨_,rfl,.same _ (.il' (aG _))⟩,⟨_,rfl,.int (by simp only;exact hw)⟩,aH,⟨_,rfl,.same _ (.il' (aG _))⟩,aH,⟨_,rfl,.wp⟩,trivial⟩) (by simp only;omega)
 ·have hk':k=kids.length:=by simp at h;omega
  subst hk';rw[SD] at hsum hmost;have har:dX ⟨kind,name,lo,hi,ws,ls,vals,kids,.mk vk vn vs vks⟩=if kind=2 then kids else kids.drop 1:=rfl
  rw[har,←hmost,←hsum] at hlen;rcases(show kind=0∨kind=1∨kind=2∨kind=3∨kind=4 by omega) with rfl|rfl|rfl|rfl|rfl
  ·rw[hlen,Rx rfl];((conv=>whnf);repeat(refine Xg ?_;conv=>whnf));exact aA nn ⟨rfl,rfl,rfl⟩
  ·rw[hlen,Rp (by decide),Rx rfl];((conv=>whnf);repeat(refine Xg ?_;conv=>whnf));exact aA nn ⟨rfl,rfl,rfl⟩
  ·rw[hlen,Rp (by decide),Rp (by decide),Rp (by decide),Rx rfl];((conv=>whnf);repeat(refine Xg ?_;conv=>whnf));rw[bY (n:=1+most) ⟨by omega,by omega⟩];exact aA nn ⟨rfl,rfl,rfl⟩
  ·rw[hlen,Rp (by decide),Rp (by decide),Rx rfl];((conv=>whnf);repeat(refine Xg ?_;conv=>whnf));exact aA nn ⟨rfl,rfl,rfl⟩
  ·rw[hlen,Rp (by decide),Rp (by decide),Rp (by decide),Rp (by decide)];have hlt:0<kids.length:=h4 (by omega);have e1:(aI kids)[(0:Int).toNat]? = some (.int .i64 kids[0]):=by rw[show (0:Int).toNat=0 from rfl,bG,Rm hlt];rfl
   obtain⟨q0,q1⟩:=hk 0 _ (Rm hlt);have eg:kids.getD 0 0=kids[0]:=by rw[Rn,Rm hlt];rfl
   rw[eg];generalize kids[0]=q at e1 q0 q1;obtain⟨q,rfl⟩:=R7 q0;have e2:=eat q q0 q1;have hq:=hat q;generalize Go.Ax.d7 bs q=z at e2 hq;((conv=>whnf);repeat(refine Xg ?_;conv=>whnf));repeat((first|refine aC e1 ?_|refine aC e2 ?_);(conv=>whnf);repeat(refine Xg ?_;conv=>whnf))
   rw[bY (n:=z+most) ⟨by omega,by omega⟩];exact aA nn ⟨rfl,rfl,rfl⟩
set_option maxHeartbeats 8000000
mutual
theorem Hz:∀(a b:bB),cN a b=0->a=b
 | .mk k n s ks,.mk k' n' s' ks',h=>by
  simp only[cN,andThen] at h;split at h
  ·rename_i h1;split at h
   ·rename_i h2;split at h
    ·rename_i h3;have e1:k=k':=Decidable.byContradiction fun e=>qY e h1
     have e2:n=n':=Decidable.byContradiction fun e=>qY e h2
     rw[e1,e2,nF h3,IW ks ks' h]
    ·rename_i h3;exact absurd h h3
   ·rename_i h2;exact absurd h h2
  ·rename_i h1;exact absurd h h1
theorem IW:∀(l m:List bB),fU l m=0->l=m
 | [],[],_=>rfl
 | [],_::_,h=>by simp[fU] at h
 | _::_,[],h=>by simp[fU] at h
 | a::l,b::m,h=>by
  simp only[fU,andThen] at h;split at h
  ·rename_i h1;rw[Hz a b h1,IW l m h]
  ·rename_i h1;exact absurd h h1
end
def p8(x:Nd):Bool:=decide (0<=x.kind) && decide (x.kind<=4) && iI x
theorem Ac{v:bB}:iL [] [] [bT v,.agg [.int .i64 0,.int .i64 0,.str [],.nsl]] [bT v,bT (.mk 0 0 [] [])]:=
 .cons (.same _ (bM v)) (.cons (.agg' (.s (.s (.s (.cons (.nil 4) .nil))))) .nil)
theorem OK(x:Nd)(hx:rL x):a8 prog [] 120 [.ip (bU x)] (.bool (p8 x)):=by
 have hC:=nN x.value (.mk 0 0 [] []) hx.value;have hz:(cN x.value (.mk 0 0 [] []) == 0)=Bh x.value:=by
  obtain⟨k,n,s,ks⟩:=x.value;rw[Sj];simp only[Bh,Rr,SP,beq_iff_eq];constructor
  ·intro h;have:=Hz _ _ h;cases this;simp
  ·rintro⟨⟨⟨rfl,rfl⟩,rfl⟩,h⟩;have:ks=[]:=S1.1 h;subst this;exact(lU _).refl
 have hres:p8 x=(decide (0<=x.kind) && decide (x.kind<=4) && ((decide (x.kind=0) || Bh x.value) && (decide (x.kind=1) || (decide (x.lo=0) && decide (x.hi=0))) && (decide (x.kind=3) || decide (x.name=[])) &&
  (decide (x.kind=2) || (decide (x.weights.length=0) && decide (x.labels.length=0))) && (decide (x.kind=4) || decide (x.values.length=0)) && ((decide (x.kind≠0) && decide (x.kind≠1)) || decide (x.kids.length=0)))):=rfl
 generalize p8 x=res at hres;rw[←hz] at hres;obtain⟨c,hc⟩:∃c,c=cN x.value (.mk 0 0 [] []):=⟨_,rfl⟩
 rw[←hc] at hC hres;clear hz hc hx;obtain⟨kind,name,lo,hi,ws,ls,vals,kids,⟨vk,vn,vs,vks⟩⟩:=x;simp only at hres hC;have eW:(((aI ws).length:Int) == 0)=decide (ws.length=0):=by rw[aE,Sj];simp
 have eL:(((CF ls).length:Int) == 0)=decide (ls.length=0):=by rw[bX,Sj];simp
 have eV:(((aT vals).length:Int) == 0)=decide (vals.length=0):=by rw[aF,Sj];simp
 have eK:(((aI kids).length:Int) == 0)=decide (kids.length=0):=by rw[aE,Sj];simp
 have eN:(name == [])=decide (name=[]):=by rw[Sj];simp
 have e1:(lo == 0)=decide (lo=0):=by rw[Sj];simp
 have e2:(hi == 0)=decide (hi=0):=by rw[Sj];simp
 refine aL bC func120 rfl ?_;rcases(show kind=0∨kind=1∨kind=2∨kind=3∨kind=4∨(kind<0∨4<kind) by omega) with rfl|rfl|rfl|rfl|rfl|hk
 ·((conv=>whnf);repeat(refine Xg ?_;conv=>whnf));rw[e1];generalize decide (lo=0)=b1 at hres ⊢;cases b1 with
  | false=>
   ((conv=>whnf);repeat(refine Xg ?_;conv=>whnf));exact aA nn ⟨by rw[hres];simp,rfl,rfl⟩
  | true=>
  ((conv=>whnf);repeat(refine Xg ?_;conv=>whnf));rw[e2];generalize decide (hi=0)=b2 at hres ⊢;cases b2 with
  | false=>
   ((conv=>whnf);repeat(refine Xg ?_;conv=>whnf));exact aA nn ⟨by rw[hres];simp,rfl,rfl⟩
  | true=>
  ((conv=>whnf);repeat(refine Xg ?_;conv=>whnf));rw[eW];generalize decide (ws.length=0)=b3 at hres ⊢;cases b3 with
  | false=>
   ((conv=>whnf);repeat(refine Xg ?_;conv=>whnf));exact aA nn ⟨by rw[hres];simp,rfl,rfl⟩
  | true=>
  ((conv=>whnf);repeat(refine Xg ?_;conv=>whnf));rw[eL];generalize decide (ls.length=0)=b4 at hres ⊢;cases b4 with
  | false=>
   ((conv=>whnf);repeat(refine Xg ?_;conv=>whnf));exact aA nn ⟨by rw[hres];simp,rfl,rfl⟩
  | true=>
  ((conv=>whnf);repeat(refine Xg ?_;conv=>whnf));rw[eN];generalize decide (name=[])=b5 at hres ⊢;cases b5 with
  | false=>
   ((conv=>whnf);repeat(refine Xg ?_;conv=>whnf));exact aA nn ⟨by rw[hres];simp,rfl,rfl⟩
  | true=>
  ((conv=>whnf);repeat(refine Xg ?_;conv=>whnf));rw[eV];generalize decide (vals.length=0)=b6 at hres ⊢;cases b6 with
  | false=>
   ((conv=>whnf);repeat(refine Xg ?_;conv=>whnf));exact aA nn ⟨by rw[hres];simp,rfl,rfl⟩
  | true=>
  ((conv=>whnf);repeat(refine Xg ?_;conv=>whnf));rw[eK];generalize decide (kids.length=0)=b7 at hres ⊢;cases b7 with
  | false=>
   ((conv=>whnf);repeat(refine Xg ?_;conv=>whnf));exact aA nn ⟨by rw[hres];simp,rfl,rfl⟩
  | true=>
  ((conv=>whnf);repeat(refine Xg ?_;conv=>whnf));exact aA nn ⟨by rw[hres];simp,rfl,rfl⟩
 ·((conv=>whnf);repeat(refine Xg ?_;conv=>whnf));refine hC.useC bC Ac nn ?_;((conv=>whnf);repeat(refine Xg ?_;conv=>whnf));generalize (c == 0)=b1 at hres ⊢;cases b1 with
  | false=>
   ((conv=>whnf);repeat(refine Xg ?_;conv=>whnf));exact aA nn ⟨by rw[hres];simp,rfl,rfl⟩
  | true=>
  ((conv=>whnf);repeat(refine Xg ?_;conv=>whnf));rw[eW];generalize decide (ws.length=0)=b2 at hres ⊢;cases b2 with
  | false=>
   ((conv=>whnf);repeat(refine Xg ?_;conv=>whnf));exact aA nn ⟨by rw[hres];simp,rfl,rfl⟩
  | true=>
  ((conv=>whnf);repeat(refine Xg ?_;conv=>whnf));rw[eL];generalize decide (ls.length=0)=b3 at hres ⊢;cases b3 with
  | false=>
   ((conv=>whnf);repeat(refine Xg ?_;conv=>whnf));exact aA nn ⟨by rw[hres];simp,rfl,rfl⟩
  | true=>
  ((conv=>whnf);repeat(refine Xg ?_;conv=>whnf));rw[eN];generalize decide (name=[])=b4 at hres ⊢;cases b4 with
  | false=>
   ((conv=>whnf);repeat(refine Xg ?_;conv=>whnf));exact aA nn ⟨by rw[hres];simp,rfl,rfl⟩
  | true=>
  ((conv=>whnf);repeat(refine Xg ?_;conv=>whnf));rw[eV];generalize decide (vals.length=0)=b5 at hres ⊢;cases b5 with
  | false=>
   ((conv=>whnf);repeat(refine Xg ?_;conv=>whnf));exact aA nn ⟨by rw[hres];simp,rfl,rfl⟩
  | true=>
  ((conv=>whnf);repeat(refine Xg ?_;conv=>whnf));rw[eK];generalize decide (kids.length=0)=b6 at hres ⊢;cases b6 with
  | false=>
   ((conv=>whnf);repeat(refine Xg ?_;conv=>whnf));exact aA nn ⟨by rw[hres];simp,rfl,rfl⟩
  | true=>
  ((conv=>whnf);repeat(refine Xg ?_;conv=>whnf));exact aA nn ⟨by rw[hres];simp,rfl,rfl⟩
 ·((conv=>whnf);repeat(refine Xg ?_;conv=>whnf));refine hC.useC bC Ac nn ?_;((conv=>whnf);repeat(refine Xg ?_;conv=>whnf));generalize (c == 0)=b1 at hres ⊢;cases b1 with
  | false=>
   ((conv=>whnf);repeat(refine Xg ?_;conv=>whnf));exact aA nn ⟨by rw[hres];simp,rfl,rfl⟩
  | true=>
  ((conv=>whnf);repeat(refine Xg ?_;conv=>whnf));rw[e1];generalize decide (lo=0)=b2 at hres ⊢;cases b2 with
  | false=>
   ((conv=>whnf);repeat(refine Xg ?_;conv=>whnf));exact aA nn ⟨by rw[hres];simp,rfl,rfl⟩
  | true=>
  ((conv=>whnf);repeat(refine Xg ?_;conv=>whnf));rw[e2];generalize decide (hi=0)=b3 at hres ⊢;cases b3 with
  | false=>
   ((conv=>whnf);repeat(refine Xg ?_;conv=>whnf));exact aA nn ⟨by rw[hres];simp,rfl,rfl⟩
  | true=>
  ((conv=>whnf);repeat(refine Xg ?_;conv=>whnf));rw[eN];generalize decide (name=[])=b4 at hres ⊢;cases b4 with
  | false=>
   ((conv=>whnf);repeat(refine Xg ?_;conv=>whnf));exact aA nn ⟨by rw[hres];simp,rfl,rfl⟩
  | true=>
  ((conv=>whnf);repeat(refine Xg ?_;conv=>whnf));rw[eV];generalize decide (vals.length=0)=b5 at hres ⊢;cases b5 with
  | false=>
   ((conv=>whnf);repeat(refine Xg ?_;conv=>whnf));exact aA nn ⟨by rw[hres];simp,rfl,rfl⟩
  | true=>
  ((conv=>whnf);repeat(refine Xg ?_;conv=>whnf));exact aA nn ⟨by rw[hres];simp,rfl,rfl⟩
 ·((conv=>whnf);repeat(refine Xg ?_;conv=>whnf));refine hC.useC bC Ac nn ?_;((conv=>whnf);repeat(refine Xg ?_;conv=>whnf));generalize (c == 0)=b1 at hres ⊢;cases b1 with
  | false=>
   ((conv=>whnf);repeat(refine Xg ?_;conv=>whnf));exact aA nn ⟨by rw[hres];simp,rfl,rfl⟩
  | true=>
  ((conv=>whnf);repeat(refine Xg ?_;conv=>whnf));rw[e1];generalize decide (lo=0)=b2 at hres ⊢;cases b2 with
  | false=>
   ((conv=>whnf);repeat(refine Xg ?_;conv=>whnf));exact aA nn ⟨by rw[hres];simp,rfl,rfl⟩
  | true=>
  ((conv=>whnf);repeat(refine Xg ?_;conv=>whnf));rw[e2];generalize decide (hi=0)=b3 at hres ⊢;cases b3 with
  | false=>
   ((conv=>whnf);repeat(refine Xg ?_;conv=>whnf));exact aA nn ⟨by rw[hres];simp,rfl,rfl⟩
  | true=>
  ((conv=>whnf);repeat(refine Xg ?_;conv=>whnf));rw[eW];generalize decide (ws.length=0)=b4 at hres ⊢;cases b4 with
  | false=>
   ((conv=>whnf);repeat(refine Xg ?_;conv=>whnf));exact aA nn ⟨by rw[hres];simp,rfl,rfl⟩
  | true=>
  ((conv=>whnf);repeat(refine Xg ?_;conv=>whnf));rw[eL];generalize decide (ls.length=0)=b5 at hres ⊢;cases b5 with
  | false=>
   ((conv=>whnf);repeat(refine Xg ?_;conv=>whnf));exact aA nn ⟨by rw[hres];simp,rfl,rfl⟩
  | true=>
  ((conv=>whnf);repeat(refine Xg ?_;conv=>whnf));rw[eV];generalize decide (vals.length=0)=b6 at hres ⊢;cases b6 with
  | false=>
   ((conv=>whnf);repeat(refine Xg ?_;conv=>whnf));exact aA nn ⟨by rw[hres];simp,rfl,rfl⟩
  | true=>
  ((conv=>whnf);repeat(refine Xg ?_;conv=>whnf));exact aA nn ⟨by rw[hres];simp,rfl,rfl⟩
 ·((conv=>whnf);repeat(refine Xg ?_;conv=>whnf));refine hC.useC bC Ac nn ?_;((conv=>whnf);repeat(refine Xg ?_;conv=>whnf));generalize (c == 0)=b1 at hres ⊢;cases b1 with
  | false=>
   ((conv=>whnf);repeat(refine Xg ?_;conv=>whnf));exact aA nn ⟨by rw[hres];simp,rfl,rfl⟩
  | true=>
  ((conv=>whnf);repeat(refine Xg ?_;conv=>whnf));rw[e1];generalize decide (lo=0)=b2 at hres ⊢;cases b2 with
  | false=>
   ((conv=>whnf);repeat(refine Xg ?_;conv=>whnf));exact aA nn ⟨by rw[hres];simp,rfl,rfl⟩
  | true=>
  ((conv=>whnf);repeat(refine Xg ?_;conv=>whnf));rw[e2];generalize decide (hi=0)=b3 at hres ⊢;cases b3 with
  | false=>
   ((conv=>whnf);repeat(refine Xg ?_;conv=>whnf));exact aA nn ⟨by rw[hres];simp,rfl,rfl⟩
  | true=>
  ((conv=>whnf);repeat(refine Xg ?_;conv=>whnf));rw[eW];generalize decide (ws.length=0)=b4 at hres ⊢;cases b4 with
  | false=>
   ((conv=>whnf);repeat(refine Xg ?_;conv=>whnf));exact aA nn ⟨by rw[hres];simp,rfl,rfl⟩
  | true=>
  ((conv=>whnf);repeat(refine Xg ?_;conv=>whnf));rw[eL];generalize decide (ls.length=0)=b5 at hres ⊢;cases b5 with
  | false=>
   ((conv=>whnf);repeat(refine Xg ?_;conv=>whnf));exact aA nn ⟨by rw[hres];simp,rfl,rfl⟩
  | true=>
  ((conv=>whnf);repeat(refine Xg ?_;conv=>whnf));rw[eN];generalize decide (name=[])=b6 at hres ⊢;cases b6 with
  | false=>
   ((conv=>whnf);repeat(refine Xg ?_;conv=>whnf));exact aA nn ⟨by rw[hres];simp,rfl,rfl⟩
  | true=>
  ((conv=>whnf);repeat(refine Xg ?_;conv=>whnf));exact aA nn ⟨by rw[hres];simp,rfl,rfl⟩
 ·rcases hk with hk|hk
  ·have d0:decide (kind≥0)=false:=by simp;omega
   ((conv=>whnf);repeat(refine Xg ?_;conv=>whnf));rw[d0];((conv=>whnf);repeat(refine Xg ?_;conv=>whnf));exact aA nn ⟨by rw[hres,R4 (show ¬0<=kind by omega)];simp,rfl,rfl⟩
  ·have d0:decide (kind≥0)=true:=by simp;omega
   have d1:decide (kind<=4)=false:=by simp;omega
   ((conv=>whnf);repeat(refine Xg ?_;conv=>whnf));rw[d0];((conv=>whnf);repeat(refine Xg ?_;conv=>whnf));rw[d1];((conv=>whnf);repeat(refine Xg ?_;conv=>whnf));exact aA nn ⟨by rw[hres,d1];simp,rfl,rfl⟩
set_option maxHeartbeats 8000000
theorem NG(ns:List Nd)(i:Nat)(x:Nd)(hl:ns.length<=4294967296)(hi:ns[i]? = some x)(hx:rL x)(hvl:x.values.length<=1000000)(hc:p8 x=true) :
  a8 prog [] 121 [.ip (.agg [.il 12 (aR ns),.junk,.junk,.junk]),.int .i64 i] (.bool (cV i x)):=by
 have hil:=(Rt.1 hi).1;have ex:(aR ns)[(i:Int).toNat]? = some (bU x):=by simp[nJ,hi]
 have b1:=hx.kids;have hxn:=aW x;have hnn:=aQ ns;have hcmp:∀a∈x.values,∀b,a8 prog [] 136 [bT a,bT b] (.int .i64 (cN a b)):=fun a ha b=>nN a b (hx.valuesI a ha).1
 have hV:=G7 (.mk 3 0 x.name []) (jJ ⟨by omega,by omega⟩ ⟨by omega,by omega⟩ hx.name (by simp) (by simp[yZ])) (by simp[bH,cQ]);have hcap:(fW (.mk 3 0 x.name []) == 0)=fA x.name:=by
  simp only[fW,cJ,cZ,dR,mW,x6,pR,bH,cQ];cases fA x.name<;>simp
 have hres:cV i x=(iI x && (decide (0<=x.kind) && decide (x.kind<=4)) && mS i x.kids && (decide (x.kind≠2) || (decide (1<=x.kids.length) && decide (x.kids.length<=256) && decide (x.weights.length=x.kids.length) && (decide (x.labels.length=0) || decide (x.labels.length=x.kids.length)))) &&
  (decide (x.kind≠3) || (decide (x.kids.length<=256) && (decide (x.name=[]) || (fA x.name && decide (x.kids.length<=16))))) && (decide (x.kind≠4) || decide (x.kids.length=x.values.length+1)) && eE x.values):=rfl
 simp only[p8,Rr,SP] at hc;obtain⟨⟨hk0,hk4⟩,hun⟩:=hc;rw[hun,Rs hk0,Rs hk4] at hres;have hvs:x.kind≠4->x.values=[]:=fun h=>by
  unfold iI at hun;simp only[Rr,Sv,SP] at hun;rcases hun.1.2 with h'|h'
  ·exact absurd h' h
  ·exact S1.1 h'
 generalize cV i x=res at hres;rw[←hcap] at hres;generalize fW (.mk 3 0 x.name [])=cv at hV hres;clear hx hcap hi hun;obtain⟨kind,name,lo,hi,ws,ls,vals,kids,⟨vk,vn,vs,vks⟩⟩:=x;simp only at hres hV hcmp hvs hk0 hk4 b1 hvl;have hF:(res=true->False)->AV.bool false=AV.bool res:=fun h1=>by
  cases hr:res with
  | false=>rfl
  | true=>exact(h1 hr).elim
 refine aL bC func121 rfl ?_;((conv=>whnf);repeat(refine Xg ?_;conv=>whnf));repeat(refine aC ex ?_;(conv=>whnf);repeat(refine Xg ?_;conv=>whnf))
 refine a7.at bC (fun k:Nat=>k<=kids.length/\∀(j:Nat) (q:Int),j<k->kids[j]? = some q->0<=q/\q<i)
  (fun k=>⟨[(1,.int .i64 i),(5,.ip (bU ⟨kind,name,lo,hi,ws,ls,vals,kids,.mk vk vn vs vks⟩)),(6,.int .i64 kids.length),(24,.il 1 (aI kids)),(25,.int .i64 kids.length),(26,.int .i64 k)],[],0,132⟩) (fun k=>kids.length-k) 0 [] ⟨by simp,by simp⟩
  (bL ⟨aH,⟨_,rfl,.same _ (.ip _ (hxn.cells.get))⟩,⟨_,rfl,.int (by rw[aE])⟩,⟨_,rfl,.same _ (.il' (aG _))⟩,⟨_,rfl,.int (by rw[aE])⟩,aH,trivial⟩) ?_
 rintro k ⟨hk,hall⟩;((conv=>whnf);repeat(refine Xg ?_;conv=>whnf));refine aO (fun h=>?_) (fun h=>?_)
 ·have hlt:k<kids.length:=by simpa using h
  have e1:(aI kids)[(k:Int).toNat]? = some (.int .i64 kids[k]):=by rw[Rq,bG,Rm hlt];rfl
  have hg:kids[k]? = some kids[k]:=Rm hlt;generalize kids[k]=q at e1 hg;have hbad:(0<=q/\q<i->False)->AV.bool false=AV.bool res:=fun hb=>hF (by
   intro e;rw[hres] at e;simp only[Rr] at e;exact hb (eP.1 e.1.1.1.1.2 k q hg))
  ((conv=>whnf);repeat(refine Xg ?_;conv=>whnf));refine aC e1 ?_;((conv=>whnf);repeat(refine Xg ?_;conv=>whnf));by_cases g1:0<=q
  ·have d1:decide (q<0)=false:=by simp;omega
   rw[d1];((conv=>whnf);repeat(refine Xg ?_;conv=>whnf));refine aO (fun h=>?_) (fun h=>?_)
   ·((conv=>whnf);repeat(refine Xg ?_;conv=>whnf));exact aA nn ⟨hbad (by simp at h;omega),rfl,rfl⟩
   ·have g2:q<i:=by simpa using h
    ((conv=>whnf);repeat(refine Xg ?_;conv=>whnf));refine .mk (k+1) [] ⟨by omega,fun j w2 hj hw2=>?_⟩ (bL ⟨aH,⟨_,rfl,.same _ (.ip _ (hxn.cells.get))⟩,aH,⟨_,rfl,.same _ (.il' (aG _))⟩,aH,⟨_,rfl,.wo⟩,trivial⟩) (by omega);rcases R9 j k with hj'|hj'
    ·exact hall j w2 hj' hw2
    ·have hjk:j=k:=by omega
     rw[hjk,hg] at hw2;cases hw2;exact⟨g1,g2⟩
  ·have d1:decide (q<0)=true:=by simp;omega
   rw[d1];((conv=>whnf);repeat(refine Xg ?_;conv=>whnf));exact aA nn ⟨hbad (by omega),rfl,rfl⟩
 ·have hk':k=kids.length:=by simp at h;omega
  have hkin:mS i kids=true:=eP.2 fun j q hj=>hall j q (by rw[hk'];exact(Rt.1 hj).1) hj
  rw[hkin] at hres;clear hall hk hk' h hkin;rcases(show kind=0∨kind=1∨kind=2∨kind=3∨kind=4 by omega) with rfl|rfl|rfl|rfl|rfl
  ·obtain rfl:=hvs (by decide);((conv=>whnf);repeat(refine Xg ?_;conv=>whnf));exact aA nn ⟨by rw[hres];simp[eE],rfl,rfl⟩
  ·obtain rfl:=hvs (by decide);((conv=>whnf);repeat(refine Xg ?_;conv=>whnf));exact aA nn ⟨by rw[hres];simp[eE],rfl,rfl⟩
  ·obtain rfl:=hvs (by decide);have f1:decide ((kids.length:Int)≥1)=decide (1<=kids.length):=by rw[Sj];simp;omega
   have f2:decide ((kids.length:Int)<=256)=decide (kids.length<=256):=by rw[Sj];simp;omega
   have f3:(((aI ws).length:Int) == (kids.length:Int))=decide (ws.length=kids.length):=by rw[aE,Sj];simp;omega
   have f4:(((CF ls).length:Int) == 0)=decide (ls.length=0):=by rw[bX,Sj];simp
   have f5:(((CF ls).length:Int) == (kids.length:Int))=decide (ls.length=kids.length):=by rw[bX,Sj];simp;omega
   ((conv=>whnf);repeat(refine Xg ?_;conv=>whnf));rw[f1];generalize decide (1<=kids.length)=b1 at hres ⊢;cases b1 with
   | false=>
    ((conv=>whnf);repeat(refine Xg ?_;conv=>whnf));exact aA nn ⟨by rw[hres];simp,rfl,rfl⟩
   | true=>
   ((conv=>whnf);repeat(refine Xg ?_;conv=>whnf));rw[f2];generalize decide (kids.length<=256)=b2 at hres ⊢;cases b2 with
   | false=>
    ((conv=>whnf);repeat(refine Xg ?_;conv=>whnf));exact aA nn ⟨by rw[hres];simp,rfl,rfl⟩
   | true=>
   ((conv=>whnf);repeat(refine Xg ?_;conv=>whnf));rw[f3];generalize decide (ws.length=kids.length)=b3 at hres ⊢;cases b3 with
   | false=>
    ((conv=>whnf);repeat(refine Xg ?_;conv=>whnf));exact aA nn ⟨by rw[hres];simp,rfl,rfl⟩
   | true=>
   ((conv=>whnf);repeat(refine Xg ?_;conv=>whnf));rw[f4];generalize decide (ls.length=0)=b4 at hres ⊢;cases b4 with
   | true=>
    ((conv=>whnf);repeat(refine Xg ?_;conv=>whnf));exact aA nn ⟨by rw[hres];simp[eE],rfl,rfl⟩
   | false=>
    ((conv=>whnf);repeat(refine Xg ?_;conv=>whnf));rw[f5];exact aA nn ⟨by rw[hres];simp[eE],rfl,rfl⟩
  ·obtain rfl:=hvs (by decide);have f1:decide ((kids.length:Int)<=16)=decide (kids.length<=16):=by rw[Sj];simp;omega
   have f2:decide ((kids.length:Int)<=256)=decide (kids.length<=256):=by rw[Sj];simp;omega
   ((conv=>whnf);repeat(refine Xg ?_;conv=>whnf));refine aO (fun h=>?_) (fun h=>?_)
   ·have hn:name=[]:=by simpa using h
    rw[Rs hn] at hres;((conv=>whnf);repeat(refine Xg ?_;conv=>whnf));rw[f2];exact aA nn ⟨by rw[hres];simp[eE],rfl,rfl⟩
   ·have hn:¬name=[]:=by simpa using h
    rw[R4 hn] at hres;((conv=>whnf);repeat(refine Xg ?_;conv=>whnf));rw[f1];by_cases g:kids.length<=16
    ·rw[Rs g] at hres ⊢;rw[Rs (show kids.length<=256 by omega)] at hres;((conv=>whnf);repeat(refine Xg ?_;conv=>whnf));refine hV.useC bC (.cons (.agg' (.s (.s (.s (.cons (.nil 4) .nil))))) .nil) nn ?_;((conv=>whnf);repeat(refine Xg ?_;conv=>whnf));exact aA nn ⟨by rw[hres];simp[eE],rfl,rfl⟩
    ·rw[R4 g] at hres ⊢;((conv=>whnf);repeat(refine Xg ?_;conv=>whnf));exact aA nn ⟨by rw[hres];simp,rfl,rfl⟩
  ·have hw4:IntKind.i64.wrap ((vals.length:Int)+1)=(vals.length:Int)+1:=w64 rfl ⟨by omega,by omega⟩;((conv=>whnf);repeat(refine Xg ?_;conv=>whnf));refine a7.at bC (fun k:Nat=>1<=k/\k<=max 1 vals.length/\∀(j:Nat) (a b:bB),j+1<k->vals[j]? = some a->vals[j+1]? = some b->cN a b<0)
    (fun k=>⟨[(5,.ip (bU ⟨4,name,lo,hi,ws,ls,vals,kids,.mk vk vn vs vks⟩)),(6,.int .i64 kids.length),(9,.int .i64 k)],[],0,132⟩) (fun k=>vals.length-k) 1 [] ⟨by omega,by omega,fun j a b h=>by omega⟩
    (bL ⟨⟨_,rfl,.same _ (.ip _ (hxn.cells.get))⟩,aH,aH,trivial⟩) ?_
   rintro k ⟨hk1,hk2,hall⟩;((conv=>whnf);repeat(refine Xg ?_;conv=>whnf));refine aO (fun h=>?_) (fun h=>?_)
   ·have hlt:k<vals.length:=by rw[aF] at h;simpa using h
    obtain⟨p1,p2,p3,p4,pm,pg,-,ep⟩:=cL (l:=vals) (k:=k-1) (by omega);obtain⟨q1,q2,q3,q4,qm,qg,-,eq⟩:=cL (l:=vals) (k:=k) hlt;have hw1:IntKind.i64.wrap ((k:Int)-1)=((k-1:Nat):Int):=w64 (by omega) ⟨by omega,by omega⟩;have hc:=hcmp _ pm (.mk q1 q2 q3 q4);obtain⟨c,hc0⟩:∃c,c=cN (.mk p1 p2 p3 p4) (.mk q1 q2 q3 q4):=⟨_,rfl⟩
    rw[←hc0] at hc;((conv=>whnf);repeat(refine Xg ?_;conv=>whnf));repeat(refine aD ?_;(conv=>whnf);repeat(refine Xg ?_;conv=>whnf))
    rw[hw1];((conv=>whnf);repeat(refine Xg ?_;conv=>whnf));repeat((first|refine aC ep ?_|refine aC eq ?_|refine aD ?_);(conv=>whnf);repeat(refine Xg ?_;conv=>whnf))
    refine hc.go ?_;((conv=>whnf);repeat(refine Xg ?_;conv=>whnf));repeat((first|refine aC ep ?_|refine aC eq ?_|refine aD ?_);(conv=>whnf);repeat(refine Xg ?_;conv=>whnf))
    refine aO (fun h=>?_) (fun h=>?_)
    ·((conv=>whnf);repeat(refine Xg ?_;conv=>whnf));refine aA nn ⟨hF ?_,rfl,rfl⟩;intro e;rw[hres] at e;simp only[Rr] at e;have:=jR e.2 (k-1) _ _ pg (by rw[show k-1+1=k by omega];exact qg);rw[←hc0] at this;simp at h;omega
    ·((conv=>whnf);repeat(refine Xg ?_;conv=>whnf));refine .mk (k+1) [] ⟨by omega,by omega,fun j a b hj ha hb=>?_⟩ (bL ⟨⟨_,rfl,.same _ (.ip _ (hxn.cells.get))⟩,aH,⟨_,rfl,.wo⟩,trivial⟩) (by omega);rcases R9 (j+1) k with hj'|hj'
     ·exact hall j a b hj' ha hb
     ·have hjk:j=k-1:=by omega
      subst hjk;rw[pg] at ha;rw[show k-1+1=k by omega,qg] at hb;cases ha;cases hb;rw[←hc0];simpa using h
   ·have hlt:vals.length<=k:=by rw[aF] at h;simpa using h
    have hso:eE vals=true:=jS fun j a b ha hb=>hall j a b (by have:=(Rt.1 hb).1;omega) ha hb
    rw[hso] at hres;((conv=>whnf);repeat(refine Xg ?_;conv=>whnf));rw[aF,hw4];refine aA nn ⟨?_,rfl,rfl⟩;rw[hres];congr 1;rw[Sj];simp;omega
set_option maxHeartbeats 8000000
theorem bJ{a b:Bool}(h1:a=true)(h2:b=true):(a && b)=true:=by rw[h1,h2];rfl
theorem n8{n:Nat}{s m:Int}(hn:Nat.ble n 100=true)(hs:0<=s)(h:100*s<=m):decide ((n:Int)*s<=m)=true:=by
 have hn:=Ry hn;have:(n:Int)*s<=100*s:=Int.mul_le_mul_of_nonneg_right (by omega) hs;simp;omega
theorem NL(a b:List bB)(ha:a.length<=1000000)(hb:b.length<=1000000)(hok:∀v∈a,iA v) :
  a8 prog [] 159 [.il 4 (aT a),.il 4 (aT b)] (.il 4 (aT (eZ a b))):=by
 refine aL bC func159 rfl ?_;cases a with
 | nil=>
  rw[Bk];((conv=>whnf);repeat(refine Xg ?_;conv=>whnf));exact aA (.il' (aV _)) ⟨rfl,rfl,rfl⟩
 | cons x l=>
  have d0:(((aT (x::l)).length:Int) == 0)=false:=by rw[aF,beq_eq_false_iff_ne];simp;omega
  obtain⟨a,hae⟩:∃a,a=x::l:=⟨_,rfl⟩
  rw[←hae] at d0 ha hok ⊢;clear hae;((conv=>whnf);repeat(refine Xg ?_;conv=>whnf));rw[d0];have hw:IntKind.i64.wrap (((aT a).length:Int)+((aT b).length:Int))=((aT a).length:Int)+((aT b).length:Int):=bY ⟨by omega,by rw[aF,aF];omega⟩;have hal:(aT a).length<=1000000:=by rw[aF];exact ha
  have hbl:(aT b).length<=1000000:=by rw[aF];exact hb
  ((conv=>whnf);repeat(refine Xg ?_;conv=>whnf));rw[hw];refine aK (bJ rfl (bJ rfl (bJ rfl (bJ rfl (bJ (Rs (by omega)) (bJ (n8 rfl (by omega) (by omega)) (Rs (by omega)))))))) ?_;((conv=>whnf);repeat(refine Xg ?_;conv=>whnf));refine a7.at bC (fun p:List bB × List bB × List bB=>eZ a b=p.1++eZ p.2.1 p.2.2/\p.1.length<=2000000-p.2.1.length-p.2.2.length/\p.2.1.length+p.2.2.length<=2000000/\∀v∈p.2.1,iA v)
   (fun p=>⟨[(0,.il 4 (aT p.2.1)),(1,.il 4 (aT p.2.2)),(5,.sl 0 0 p.1.length)],[(0,.row 60 4 (aT p.1))],1,57⟩) (fun p=>p.2.1.length+p.2.2.length) ([],a,b) [(0,0)] ⟨by simp,by simp,by simp only;omega,hok⟩
   (aJ _ rfl ⟨⟨0,_,rfl,rfl,.same .nil⟩,trivial⟩ ⟨⟨_,rfl,.same _ (.il' (aV _))⟩,⟨_,rfl,.same _ (.il' (aV _))⟩,⟨_,rfl,.sl 0 0 0 _ rfl⟩,trivial⟩) ?_
  clear hok hw hal hbl d0 ha hb;rintro⟨out,a',b'⟩ ⟨hm,hlen,hle,hok⟩;simp only at hm hlen hle hok ⊢;have eg:∀(z:bB) (r:List bB),decide (((aT (z::r)).length:Int)>0)=true:=fun z r=>by rw[aF];simp
  have cut:∀(z:bB) (r:List bB),((Int.toNat 1).ble (aT (z::r)).length && ((aT (z::r)).length.ble (aT (z::r)).length && (aT (z::r)).length.ble (aT (z::r)).length))=true:=fun z r=>bJ (Ru (by rw[aF];simp)) (bJ (Ru (R2 _)) (Ru (R2 _)))
  have ec:∀(z:bB) (r:List bB),List.take ((aT (z::r)).length-Int.toNat 1) (List.drop (Int.toNat 1) (aT (z::r)))=aT r:=fun z r=>by
   show List.take ((aT (z::r)).length-1) (aT r)=aT r
   exact SA (by rw[aF,aF];simp)
  have fin:∀(o p q:List bB) (mem:aS) (n:Nat) (id:Nat),eZ a b=o++p++q->lk mem id=some (.row 60 4 (aT o++aT p++aT q))->lE 0 (fun r m n=>r=AV.il 4 (aT (eZ a b))/\m=[]/\n=0) (.sl id 0 (o.length+(aT p).length+(aT q).length)) mem n:=by
   intro o p q mem n id h hl;refine bF (r':=.il 4 (aT (eZ a b))) (.fzR hl rfl (.eq (aV _) (by rw[h];simp[fK])) (by rw[h];simp[aF];omega)) ⟨rfl,rfl,rfl⟩
  cases a' with
  | nil=>
   rw[Bk] at hm;((conv=>whnf);repeat(refine Xg ?_;conv=>whnf));refine aK (bP rfl rfl (by simp[aF]) (by simp[aF] at *;omega)) ?_;((conv=>whnf);repeat(refine Xg ?_;conv=>whnf));refine aK (bP rfl rfl (by simp[aF]) (by simp[aF] at *;omega)) ?_;((conv=>whnf);repeat(refine Xg ?_;conv=>whnf));exact fin out [] b' _ _ _ (by simpa using hm) rfl
  | cons x l=>
   cases b' with
   | nil=>
    rw[GQ] at hm;((conv=>whnf);repeat(refine Xg ?_;conv=>whnf));rw[eg];((conv=>whnf);repeat(refine Xg ?_;conv=>whnf));refine aK (bP rfl rfl (by simp[aF]) (by simp[aF] at *;omega)) ?_;((conv=>whnf);repeat(refine Xg ?_;conv=>whnf));refine aK (bP rfl rfl (by simp[aF]) (by simp[aF] at *;omega)) ?_;((conv=>whnf);repeat(refine Xg ?_;conv=>whnf));exact fin out (x::l) [] _ _ _ (by simpa using hm) rfl
   | cons y m=>
    rw[Ey] at hm;have hc:=nN x y (hok x (by simp));have hok':∀v∈l,iA v:=fun v hv=>hok v (by simp[hv])
    obtain⟨c,hc0⟩:∃c,c=cN x y:=⟨_,rfl⟩
    rw[←hc0] at hc hm;clear hc0;obtain⟨x1,x2,x3,x4⟩:=x;obtain⟨y1,y2,y3,y4⟩:=y;((conv=>whnf);repeat(refine Xg ?_;conv=>whnf));rw[eg];((conv=>whnf);repeat(refine Xg ?_;conv=>whnf));rw[eg];((conv=>whnf);repeat(refine Xg ?_;conv=>whnf));repeat(refine aD ?_;(conv=>whnf);repeat(refine Xg ?_;conv=>whnf))
    refine hc.go ?_;((conv=>whnf);repeat(refine Xg ?_;conv=>whnf));rcases(show c<0∨c=0∨0<c by omega) with hcc|hcc|hcc
    ·have d1:decide (c<=0)=true:=by simp;omega
     have d2:decide (c≥0)=false:=by simp;omega
     rw[Rx hcc] at hm;rw[d1];((conv=>whnf);repeat(refine Xg ?_;conv=>whnf));repeat(refine aD ?_;(conv=>whnf);repeat(refine Xg ?_;conv=>whnf))
     refine aK (bP rfl rfl (by simp[aF]) (by simp[aF] at *;omega)) ?_;((conv=>whnf);repeat(refine Xg ?_;conv=>whnf));refine aK (cut _ _) ?_;rw[ec];((conv=>whnf);repeat(refine Xg ?_;conv=>whnf));rw[d2];((conv=>whnf);repeat(refine Xg ?_;conv=>whnf));exact .mk (out++[.mk x1 x2 x3 x4],l,(.mk y1 y2 y3 y4)::m) [(10,0)] ⟨by simpa using hm,by simp at *;omega,by simp at *;omega,hok'⟩ (aJ _ rfl ⟨⟨10,_,rfl,rfl,.eq (aV _) (by rw[eR];rfl)⟩,trivial⟩ ⟨⟨_,rfl,.same _ (.il' (aV _))⟩,⟨_,rfl,.same _ (.il' (aV _))⟩,⟨_,rfl,.slE rfl (by simp)⟩,trivial⟩) (by first|(simp;done)|(simp;omega))
    ·have d1:decide (c<=0)=true:=by simp;omega
     have d2:decide (c≥0)=true:=by simp;omega
     rw[Rp (by omega),Rx hcc] at hm;rw[d1];((conv=>whnf);repeat(refine Xg ?_;conv=>whnf));repeat(refine aD ?_;(conv=>whnf);repeat(refine Xg ?_;conv=>whnf))
     refine aK (bP rfl rfl (by simp[aF]) (by simp[aF] at *;omega)) ?_;((conv=>whnf);repeat(refine Xg ?_;conv=>whnf));refine aK (cut _ _) ?_;rw[ec];((conv=>whnf);repeat(refine Xg ?_;conv=>whnf));rw[d2];((conv=>whnf);repeat(refine Xg ?_;conv=>whnf));refine aK (cut _ _) ?_;rw[ec];((conv=>whnf);repeat(refine Xg ?_;conv=>whnf));exact .mk (out++[.mk x1 x2 x3 x4],l,m) [(10,0)] ⟨by simpa using hm,by simp at *;omega,by simp at *;omega,hok'⟩ (aJ _ rfl ⟨⟨10,_,rfl,rfl,.eq (aV _) (by rw[eR];rfl)⟩,trivial⟩ ⟨⟨_,rfl,.same _ (.il' (aV _))⟩,⟨_,rfl,.same _ (.il' (aV _))⟩,⟨_,rfl,.slE rfl (by simp)⟩,trivial⟩) (by first|(simp;done)|(simp;omega))
    ·have d1:decide (c<=0)=false:=by simp;omega
     have d2:decide (c≥0)=true:=by simp;omega
     rw[Rp (by omega),Rp (by omega)] at hm;rw[d1];((conv=>whnf);repeat(refine Xg ?_;conv=>whnf));repeat(refine aD ?_;(conv=>whnf);repeat(refine Xg ?_;conv=>whnf))
     refine aK (bP rfl rfl (by simp[aF]) (by simp[aF] at *;omega)) ?_;((conv=>whnf);repeat(refine Xg ?_;conv=>whnf));rw[d2];((conv=>whnf);repeat(refine Xg ?_;conv=>whnf));refine aK (cut _ _) ?_;rw[ec];((conv=>whnf);repeat(refine Xg ?_;conv=>whnf));exact .mk (out++[.mk y1 y2 y3 y4],(.mk x1 x2 x3 x4)::l,m) [(10,0)] ⟨by simpa using hm,by simp at *;omega,by simp at *;omega,hok⟩ (aJ _ rfl ⟨⟨10,_,rfl,rfl,.eq (aV _) (by rw[eR];rfl)⟩,trivial⟩ ⟨⟨_,rfl,.same _ (.il' (aV _))⟩,⟨_,rfl,.same _ (.il' (aV _))⟩,⟨_,rfl,.slE rfl (by simp)⟩,trivial⟩) (by first|(simp;done)|(simp;omega))
set_option maxHeartbeats 8000000
theorem sY{α β γ:Type}(f:α->β->γ):∀(a:List α) (b:List β) (i:Nat) (x:α) (y:β),b[i]? = some y->List.zipWith f (a.set i x) b=(List.zipWith f a b).set i (f x y)
 | [],b,i,x,y,_=>by simp
 | p::a,[],i,x,y,hy=>by simp at hy
 | p::a,q::b,0,x,y,hy=>by simp at hy;subst hy;simp
 | p::a,q::b,i+1,x,y,hy=>by simp at hy;simp[sY f a b i x y hy]
def kB(kn:List Bool):List AV:=kn.map AV.bool
def lB(L:List gR)(kn:List Bool):List AV:=List.zipWith (fun b (x:gR)=>AV.il 4 (aT (if b=true then x.vals else []))) kn L
def mB(L:List gR)(kn:List Bool):List AV:=List.zipWith (fun b (x:gR)=>AV.bool (b && x.many)) kn L
theorem hZ(kn:List Bool):g9 (kB kn):=fun a ha=>by
 obtain⟨n,_,rfl⟩:=SJ.1 ha;exact .bool _
theorem IR{α β γ:Type}{f:α->β->γ}{a:List α}{b:List β}{z:γ}(h:z∈List.zipWith f a b):∃x y,z=f x y:=by
 obtain⟨i,hi⟩:=Sb h;rw[UP] at hi;split at hi
 ·cases hi;exact⟨_,_,rfl⟩
 ·cases hi
theorem xO(L:List gR)(kn:List Bool):g9 (lB L kn):=fun a ha=>by
 obtain⟨x,y,rfl⟩:=IR ha;exact .il' (aV _)
theorem uU(L:List gR)(kn:List Bool):g9 (mB L kn):=fun a ha=>by
 obtain⟨x,y,rfl⟩:=IR ha;exact .bool _
theorem xY{L:List gR}{i:Nat}(h:i<L.length):L[i]? = some (c9 L i):=by
 unfold c9;rw[Rn,Rq,Rm h];rfl
theorem Lp{kn:List Bool}{i:Nat}{b:Bool}(h:kn[i]? = some b):(kB kn)[i]? = some (.bool b):=by simp[kB,h]
theorem KD{L:List gR}{kn:List Bool}{i:Nat}{b:Bool}(h:kn[i]? = some b)(hl:i<L.length):(lB L kn)[i]? = some (.il 4 (aT (if b=true then(c9 L i).vals else []))):=by
 simp[lB,UP,h,xY hl]
theorem L8{L:List gR}{kn:List Bool}{i:Nat}{b:Bool}(h:kn[i]? = some b)(hl:i<L.length):(mB L kn)[i]? = some (.bool (b && (c9 L i).many)):=by
 simp[mB,UP,h,xY hl]
theorem Ou(kn:List Bool)(i:Nat)(b:Bool):kB (kn.set i b)=(kB kn).set i (.bool b):=by simp[kB,Ti]
theorem PG{L:List gR}(kn:List Bool){i:Nat}(hl:i<L.length):lB L (kn.set i true)=(lB L kn).set i (.il 4 (aT (c9 L i).vals)):=by
 unfold lB;rw[sY _ kn L i true _ (xY hl)];simp
theorem Om{L:List gR}(kn:List Bool){i:Nat}(hl:i<L.length):mB L (kn.set i true)=(mB L kn).set i (.bool (c9 L i).many):=by
 unfold mB;rw[sY _ kn L i true _ (xY hl)];simp
def sM(ns:List Nd)(kn:List Bool):aS:=[(0,.row 127 4 [.agg [.il 12 (aR ns),.sl 1 0 ns.length,.sl 2 0 ns.length,.sl 3 0 ns.length]]),(1,.row 4 1 (kB kn)),(2,.row 58 1 (lB (aP ns) kn)),(3,.row 4 1 (mB (aP ns) kn))]
def uQ(ns:List Nd)(l:gR):AV->aS->Nat->Prop:=fun r m k=>∃kn,kn.length=ns.length/\r = .tup [.il 4 (aT l.vals),.bool (!l.many)]/\m=sM ns kn/\k=4
def sQ(ns:List Nd)(i:Nat):AV->aS->Nat->Prop:=uQ ns (c9 (aP ns) i)
theorem CN{mem:aS}{σ:List (Nat × Nat)}{ns:List Nd}{N a b c a' b' c':Nat}(h1:lk σ a=some a')(h2:lk σ b=some b')(h3:lk σ c=some c') :
  pS mem σ [.agg [.il 12 (aR ns),.sl a 0 N,.sl b 0 N,.sl c 0 N]] [.agg [.il 12 (aR ns),.sl a' 0 N,.sl b' 0 N,.sl c' 0 N]]:=
 .cons (.agg (.cons (.same _ (.il' (aQ _))) (.cons (.sl a a' 0 N h1) (.cons (.sl b b' 0 N h2) (.cons (.sl c c' 0 N h3) .nil))))) .nil
theorem fS(ns:List Nd)(kn:List Bool):cH (sM ns kn) (nD [0,1,2,3]) (sM ns kn):=
 ⟨⟨0,_,rfl,rfl,CN rfl rfl rfl⟩,⟨1,_,rfl,rfl,.same (hZ _)⟩,⟨2,_,rfl,rfl,.same (xO _ _)⟩,⟨3,_,rfl,rfl,.same (uU _ _)⟩,trivial⟩
theorem RE{ns:List Nd}{n:Nat}(h:gW ns n)(i:Nat)(hi:i<n)(kn:List Bool)(hk:kn.length=ns.length)
  (hF:aM prog [] 152 [.ptr 0 0 0,.int .i64 i] (sM ns kn) 4 (sQ ns i)) :
  aM prog [] 139 [.ptr 0 0 0,.int .i64 i] (sM ns kn) 4 (sQ ns i):=by
 have hN:=h.hn;have hL:i<(aP ns).length:=by rw[eB];omega
 have h0:0+((i:Nat):Int).toNat=i:=by simp
 have hg:∀kn:List Bool,kn.length=ns.length->∃b,kn[i]? = some b:=fun kn hk=>⟨kn[i],Rm (by omega)⟩
 obtain⟨b,hb⟩:=hg kn hk;have e1:(kB kn)[0+((i:Nat):Int).toNat]? = some (.bool b):=by rw[h0];exact Lp hb
 have g1:Nat.blt ((i:Nat):Int).toNat ns.length=true:=Ru (by simp;omega);refine aL bC func139 rfl ?_;((conv=>whnf);repeat(refine Xg ?_;conv=>whnf));repeat((first|refine aK g1 ?_|refine aC e1 ?_);(conv=>whnf);repeat(refine Xg ?_;conv=>whnf))
 have fin:∀(mem:aS) (kn':List Bool),kn'.length=ns.length->cH mem (nD [0,1,2,3]) (sM ns kn')->∀(r:AV) (nx:Nat),Cv mem (nD [0,1,2,3]) r (.tup [.il 4 (aT (c9 (aP ns) i).vals),.bool (!(c9 (aP ns) i).many)])->lE 4 (sQ ns i) r mem nx:=
  fun mem kn' hk' hM r nx hr=>bK (n':=4) (m':=sM ns kn') (nD [0,1,2,3]) rfl hM hr ⟨kn',hk',rfl,rfl,rfl⟩
 cases b with
 | true=>
  have e2:(lB (aP ns) kn)[0+((i:Nat):Int).toNat]? = some (.il 4 (aT (c9 (aP ns) i).vals)):=by rw[h0,KD hb hL];rfl
  have e3:(mB (aP ns) kn)[0+((i:Nat):Int).toNat]? = some (.bool (c9 (aP ns) i).many):=by rw[h0,L8 hb hL];rfl
  ((conv=>whnf);repeat(refine Xg ?_;conv=>whnf));repeat((first|refine aK g1 ?_|refine aC e1 ?_|refine aC e2 ?_|refine aC e3 ?_|refine aD ?_);(conv=>whnf);repeat(refine Xg ?_;conv=>whnf))
  exact fin _ kn hk (fS ns kn) _ _ (.same _ nn)
 | false=>
  ((conv=>whnf);repeat(refine Xg ?_;conv=>whnf));refine aM.useI bC [0,1,2,3] hF (by rfl) (.cons (.ptr 0 0 0 0 rfl) (.s .nil)) (fS ns kn) (by rfl) ?_;rintro r m k ⟨kn',hk',rfl,rfl,rfl⟩;refine⟨nn,fS ns kn',by rfl, ?_⟩;obtain⟨b',hb'⟩:=hg kn' hk';have e1:(kB kn')[0+((i:Nat):Int).toNat]? = some (.bool b'):=by rw[h0];exact Lp hb'
  have e2:=KD hb' hL;have e3:=L8 hb' hL;rw[←h0] at e2 e3;have q1:((kB kn').set (0+((i:Nat):Int).toNat) (.bool true))[0+((i:Nat):Int).toNat]? = some (.bool true):=by rw[h0];exact Sn (by simp[kB];omega)
  have q2:((lB (aP ns) kn').set (0+((i:Nat):Int).toNat) (.il 4 (aT (c9 (aP ns) i).vals)))[0+((i:Nat):Int).toNat]? = some (.il 4 (aT (c9 (aP ns) i).vals)):=by rw[h0];exact Sn (by simp[lB,List.length_zipWith];omega)
  have q3:((mB (aP ns) kn').set (0+((i:Nat):Int).toNat) (.bool (!(!(c9 (aP ns) i).many))))[0+((i:Nat):Int).toNat]? = some (.bool (!(!(c9 (aP ns) i).many))):=by rw[h0];exact Sn (by simp[mB,List.length_zipWith];omega)
  ((conv=>whnf);repeat(refine Xg ?_;conv=>whnf));repeat((first|refine aK g1 ?_|refine aC e1 ?_|refine aC e2 ?_|refine aC e3 ?_|refine aC q1 ?_|refine aC q2 ?_|refine aC q3 ?_|refine aD ?_|refine aB.2 ?_);(conv=>whnf);repeat(refine Xg ?_;conv=>whnf))
  rw[h0];refine fin _ (kn'.set i true) (by simp[hk']) ⟨⟨0,_,rfl,rfl,CN rfl rfl rfl⟩,⟨1,_,rfl,rfl,.eq (hZ _) (Ou _ _ _).symm⟩,⟨2,_,rfl,rfl,.eq (xO _ _) (PG _ hL).symm⟩,⟨3,_,rfl,rfl,.eq (uU _ _) (by rw[Om _ hL,Bool.not_not])⟩,trivial⟩ _ _ (.eq nn (by rw[Bool.not_not]))
set_option maxHeartbeats 8000000
def MP(ns:List Nd)(i:Nat):Prop:=∀kn:List Bool,kn.length=ns.length->aM prog [] 139 [.ptr 0 0 0,.int .i64 i] (sM ns kn) 4 (sQ ns i)
theorem AN{ns:List Nd}{l:gR}(mem:aS)(kn':List Bool)(hk':kn'.length=ns.length)(hM:cH mem (nD [0,1,2,3]) (sM ns kn'))(r:AV)(nx:Nat)(hr:Cv mem (nD [0,1,2,3]) r (.tup [.il 4 (aT l.vals),.bool (!l.many)])):lE 4 (uQ ns l) r mem nx:=
 bK (n':=4) (m':=sM ns kn') (nD [0,1,2,3]) rfl hM hr ⟨kn',hk',rfl,rfl,rfl⟩
theorem PN{ns:List Nd}{n:Nat}(h:gW ns n)(i:Nat)(hi:i<=n)(kids:List Int)(hkl:kids.length<=65536)(hkids:∀k∈kids,0<=k/\k<i)(hOf:∀j<i,MP ns j)(kn:List Bool)(hk:kn.length=ns.length) :
  aM prog [] 156 [.ptr 0 0 0,.il 1 (aI kids)] (sM ns kn) 4 (uQ ns (lH (aP ns) kids)):=by
 refine aL bC func156 rfl ?_;((conv=>whnf);repeat(refine Xg ?_;conv=>whnf));refine a7.at bC (fun p:Nat × List Bool × List bB=>p.1<=kids.length/\p.2.1.length=ns.length/\(kids.take p.1).foldl (bS (aP ns)) ([],false)=(p.2.2,false)/\lN p.2.2/\p.2.2.length<=1024/\∀v∈p.2.2,iA v)
  (fun p=>⟨[(0,.ptr 0 0 0),(6,.il 4 (aT p.2.2)),(11,.il 1 (aI kids)),(12,.int .i64 kids.length),(13,.int .i64 p.1)],sM ns p.2.1,4,33⟩) (fun p=>kids.length-p.1) (0,kn,[]) (nD [0,1,2,3])
  ⟨by simp,hk,by simp,by simp[lN],by simp,by simp⟩
  (aJ _ rfl (fS ns kn) ⟨⟨_,rfl,.ptr 0 0 0 0 rfl⟩,⟨_,rfl,.nil 4⟩,⟨_,rfl,.same _ (.il' (aG _))⟩,⟨_,rfl,.int (by rw[aE])⟩,aH,trivial⟩) ?_
 rintro⟨j,kn,out⟩ ⟨hj,hk,hf,hso,hol,hok⟩;simp only at hj hk hf hso hol hok ⊢;((conv=>whnf);repeat(refine Xg ?_;conv=>whnf));refine aO (fun hb=>?_) (fun hb=>?_)
 ·have hlt:j<kids.length:=by simpa using hb
  have e1:(aI kids)[(j:Int).toNat]? = some (.int .i64 kids[j]):=by rw[Rq,bG,Rm hlt];rfl
  have hg:kids[j]? = some kids[j]:=Rm hlt;generalize kids[j]=k at e1 hg;obtain⟨k0,k1⟩:=hkids k (R3 hg);obtain⟨k,rfl⟩:=R7 k0;have hO:=hOf k (by omega) kn hk;have hst:=Oz hg hf;have hvals:=h.vals (k:=k) (by omega) (by omega);have hsr:=RN ns k;simp only[bS,T7] at hst;unfold sQ at hO;((conv=>whnf);repeat(refine Xg ?_;conv=>whnf));refine aC e1 ?_;((conv=>whnf);repeat(refine Xg ?_;conv=>whnf));refine aM.useI bC [0,1,2,3] hO (by rfl) (.cons (.ptr 0 0 0 0 rfl) (.s .nil)) (fS ns kn) (by rfl) ?_;rintro r m k' ⟨kn',hk',rfl,rfl,rfl⟩;refine⟨nn,fS ns kn',by rfl, ?_⟩;generalize c9 (aP ns) k=lk at hst hvals hsr;obtain⟨lv,lm⟩:=lk;simp only at hst hvals hsr;cases lm with
  | true=>
   have hbad:=Ip (bs:=aP ns) (kids:=kids) (j:=j+1) (by rw[hst];rfl);rw[hbad];((conv=>whnf);repeat(refine Xg ?_;conv=>whnf));exact AN _ kn' hk' (fS ns kn') _ _ (.tup' (.cons (.nil 4) (.s .nil)))
  | false=>
   have hm:=NL out lv (by omega) (by omega) hok;have hms:=GO hso hsr;rw[←hms] at hst;have hmok:∀v∈eZ out lv,iA v:=fun v hv=>by
    rcases(oG _ _ _).1 hv with hv|hv
    ·exact hok v hv
    ·exact hvals.2 v hv
   have hmsr:=BE out lv hso hsr;generalize eZ out lv=mg at *;((conv=>whnf);repeat(refine Xg ?_;conv=>whnf));refine hm.go ?_;((conv=>whnf);repeat(refine Xg ?_;conv=>whnf));refine aO (fun hb2=>?_) (fun hb2=>?_)
   ·have h1:1024<mg.length:=by rw[aF] at hb2;simp at hb2;omega
    have hbad:=Ip (bs:=aP ns) (kids:=kids) (j:=j+1) (by rw[hst];simpa using h1);rw[hbad];((conv=>whnf);repeat(refine Xg ?_;conv=>whnf));exact AN _ kn' hk' (fS ns kn') _ _ (.tup' (.cons (.nil 4) (.s .nil)))
   ·have h1:mg.length<=1024:=by rw[aF] at hb2;simp at hb2;omega
    ((conv=>whnf);repeat(refine Xg ?_;conv=>whnf));exact .mk (j+1,kn',mg) (nD [0,1,2,3]) ⟨by simp only;omega,hk',by simp only;rw[hst];simp;omega,hmsr,h1,hmok⟩
     (aJ _ rfl (fS ns kn') ⟨⟨_,rfl,.ptr 0 0 0 0 rfl⟩,aH,⟨_,rfl,.same _ (.il' (aG _))⟩,aH,⟨_,rfl,.wp⟩,trivial⟩) (by simp only;omega)
 ·have hlt:j=kids.length:=by simp at hb;omega
  rw[hlt,SD] at hf;rw[Li hf];((conv=>whnf);repeat(refine Xg ?_;conv=>whnf));exact AN _ kn hk (fS ns kn) _ _ (.same _ nn)
def encLs(ls:List (List bB)):List AV:=ls.map fun l=>.il 4 (aT l)
theorem encLs_nn(ls:List (List bB)):g9 (encLs ls):=fun a ha=>by
 obtain⟨l,_,rfl⟩:=SJ.1 ha;exact .il' (aV _)
theorem encLs_length(ls:List (List bB)):(encLs ls).length=ls.length:=by simp[encLs]
theorem encLs_get{ls:List (List bB)}{i:Nat}{l:List bB}(h:ls[i]? = some l):(encLs ls)[i]? = some (.il 4 (aT l)):=by simp[encLs,h]
def Pe(ns:List Nd)(kn:List Bool)(rest:aS):aS:=(0,.row 127 4 [.agg [.il 12 (aR ns),.sl 1 0 ns.length,.sl 2 0 ns.length,.sl 3 0 ns.length]])::(1,.row 4 1 (kB kn))::(2,.row 58 1 (lB (aP ns) kn))::(3,.row 4 1 (mB (aP ns) kn))::rest
theorem fY{mem:aS}{σ:List (Nat × Nat)}{ns:List Nd}{kn:List Bool}{rest:aS}(h0:lk σ 0=some 0)(h1:lk σ 1=some 1)(h2:lk σ 2=some 2)(h3:lk σ 3=some 3)
  (m0:lk mem 0=some (.row 127 4 [.agg [.il 12 (aR ns),.sl 1 0 ns.length,.sl 2 0 ns.length,.sl 3 0 ns.length]])) (m1:lk mem 1=some (.row 4 1 (kB kn))) (m2:lk mem 2=some (.row 58 1 (lB (aP ns) kn))) (m3:lk mem 3=some (.row 4 1 (mB (aP ns) kn)))
  (hr:cH mem σ rest):cH mem σ (Pe ns kn rest):=
 ⟨⟨0,_,h0,m0,CN h1 h2 h3⟩,⟨1,_,h1,m1,.same (hZ _)⟩,⟨2,_,h2,m2,.same (xO _ _)⟩,⟨3,_,h3,m3,.same (uU _ _)⟩,hr⟩
theorem CA{mem:aS}{σ:List (Nat × Nat)}:∀m:Nat,pS mem σ (List.replicate m .nsl) (encLs (List.replicate m []))
 | 0=>.nil
 | m+1=>by
  rw[Ss,Ss];exact .cons (.one rfl rfl (.nil 4)) (CA m)
theorem Mg(ls:List (List bB))(i:Nat)(l:List bB):encLs (ls.set i l)=(encLs ls).set i (.il 4 (aT l)):=by simp[encLs,Ti]
theorem Dm{mem:aS}{σ:List (Nat × Nat)}:∀m:Nat,pS mem σ (List.replicate m (.agg [.int .i64 0,.int .i64 0,.str [],.nsl])) (aT (List.replicate m (.mk 0 0 [] [])))
 | 0=>.nil
 | m+1=>by
  rw[Ss,Ss,aT];exact .cons (sX 0 0 []) (Dm m)
theorem Kn{ns:List Nd}{n:Nat}(h:gW ns n)(i:Nat)(hi:i<=n)(x:Nd)(hkl:x.kids.length<=65536)(hkids:∀k∈x.kids,0<=k/\k<i)(hOf:∀j<i,MP ns j)(kn:List Bool)(hk:kn.length=ns.length) :
  aM prog [] 157 [.ptr 0 0 0,.ip (bU x)] (sM ns kn) 4 (uQ ns (oK (aP ns) x)):=by
 have hxn:=aW x;have hpb:=fun(j:Nat) (e:((x.kids.take j).foldl (gK (aP ns)) (1,false)).2=true)=>NP (bs:=aP ns) (x:=x) (j:=j) e
 have hpg:=fun(t:Nat) (e:x.kids.foldl (gK (aP ns)) (1,false)=(t,false))=>KB (CG ns) (x:=x) (t:=t) e
 have hmade:=fun ks=>It x ks
 generalize oK (aP ns) x=res at hpb hpg ⊢;obtain⟨kind,name,lo,hi',ws,ls,vals,kids,⟨vk,vn,vs,vks⟩⟩:=x;simp only at hkl hkids hpb hpg;refine aL bC func157 rfl ?_;((conv=>whnf);repeat(refine Xg ?_;conv=>whnf));refine aK (bJ rfl (bJ rfl (bJ rfl (bJ (Rs (by omega)) (bJ (Rs (by omega)) (bJ (n8 rfl (by omega) (by simp only[aE];omega)) (Rs (by simp only[aE];omega)))))))) ?_;((conv=>whnf);repeat(refine Xg ?_;conv=>whnf));refine a7.at bC (fun p:Nat × List Bool × Nat × List (List bB)=>p.1<=kids.length/\p.2.1.length=ns.length/\(kids.take p.1).foldl (gK (aP ns)) (1,false)=(p.2.2.1,false)/\p.2.2.1<=1024/\p.2.2.2.length=kids.length/\(∀(q:Nat) (k:Int),q<p.1->kids[q]? = some k->p.2.2.2[q]? = some (c9 (aP ns) k).vals/\(c9 (aP ns) k).vals≠[]))
  (fun p=>⟨[(0,.ptr 0 0 0),(1,.ip (bU ⟨kind,name,lo,hi',ws,ls,vals,kids,.mk vk vn vs vks⟩)),(6,.sl 4 0 kids.length),(7,.int .i64 p.2.2.1),(25,.il 1 (aI kids)),(26,.int .i64 kids.length),(27,.int .i64 p.1)],Pe ns p.2.1 [(4,.row 58 1 (encLs p.2.2.2))],5,98⟩)
  (fun p=>kids.length-p.1) (0,kn,1,List.replicate kids.length []) (nD [0,1,2,3,4])
  ⟨by simp,hk,by simp,by simp,by simp,fun q k hq=>by simp at hq⟩
  (aJ _ rfl (fY rfl rfl rfl rfl rfl rfl rfl rfl ⟨⟨4,_,rfl,rfl,.to (CA kids.length) (by rw[show (((aI kids).length:Nat):Int).toNat=kids.length by rw[aE];simp])⟩,trivial⟩) ⟨⟨_,rfl,.ptr 0 0 0 0 rfl⟩,⟨_,rfl,.same _ (.ip' hxn)⟩,⟨_,rfl,.slE rfl (by rw[aE];simp)⟩,aH,⟨_,rfl,.same _ (.il' (aG _))⟩,⟨_,rfl,.int (by rw[aE])⟩,aH,trivial⟩) ?_
 rintro⟨j,kn,total,lists⟩ ⟨hj,hk,hf,hto,hll,hls⟩;simp only at hj hk hf hto hll hls ⊢;((conv=>whnf);repeat(refine Xg ?_;conv=>whnf));refine aO (fun hb=>?_) (fun hb=>?_)
 ·have hlt:j<kids.length:=by simpa using hb
  have e1:(aI kids)[(j:Int).toNat]? = some (.int .i64 kids[j]):=by rw[Rq,bG,Rm hlt];rfl
  have hg:kids[j]? = some kids[j]:=Rm hlt;generalize kids[j]=k at e1 hg;obtain⟨k0,k1⟩:=hkids k (R3 hg);obtain⟨k,rfl⟩:=R7 k0;have hO:=hOf k (by omega) kn hk;have hst:=ON hg hf;have hvals:=h.vals (k:=k) (by omega) (by omega);have hne:=h.ne (k:=k) (by omega) (by omega);have hls':∀(q:Nat) (k':Int),q<j+1->kids[q]? = some k'->(q<j/\(lists[q]? = some (c9 (aP ns) k').vals/\(c9 (aP ns) k').vals≠[]))∨(q=j/\k'=k):=fun q k' hq hk'=>by
   rcases R9 q j with hq'|hq'
   ·exact .inl ⟨hq',hls q k' hq' hk'⟩
   ·have:q=j:=by omega
    subst this;rw[hg] at hk';cases hk';exact .inr ⟨rfl,rfl⟩
  simp only[gK,T7] at hst;unfold sQ at hO;((conv=>whnf);repeat(refine Xg ?_;conv=>whnf));refine aC e1 ?_;((conv=>whnf);repeat(refine Xg ?_;conv=>whnf));refine aM.useI bC [0,1,2,3] hO (by rfl) (.cons (.ptr 0 0 0 0 rfl) (.s .nil)) (fS ns kn) (by rfl) ?_;rintro r m k' ⟨kn',hk',rfl,rfl,rfl⟩;refine⟨nn,fS ns kn',by rfl, ?_⟩;obtain⟨lk,hlk⟩:∃lk,lk=c9 (aP ns) k:=⟨_,rfl⟩
  rw[←hlk] at hst hvals hne ⊢;obtain⟨lv,lm⟩:=lk;simp only at hst hvals hne;cases lm with
  | true=>
   have hbad:=hpb (j+1) (by rw[hst];rfl);rw[hbad];((conv=>whnf);repeat(refine Xg ?_;conv=>whnf));exact AN _ kn' hk' (fY rfl rfl rfl rfl rfl rfl rfl rfl trivial) _ _ (.tup' (.cons (.nil 4) (.s .nil)))
  | false=>
   have hw:IntKind.i64.wrap ((total:Int)*((aT lv).length:Int))=((total*lv.length:Nat):Int):=by
    have:total*lv.length<=1024*1024:=TE hto hvals.1;exact w64 (by rw[aF];simp) ⟨by omega,by omega⟩
   ((conv=>whnf);repeat(refine Xg ?_;conv=>whnf));rw[hw];((conv=>whnf);repeat(refine Xg ?_;conv=>whnf));refine aO (fun hb2=>?_) (fun hb2=>?_)
   ·have hbad:=hpb (j+1) (by rw[hst];simp at hb2 ⊢;omega);rw[hbad];((conv=>whnf);repeat(refine Xg ?_;conv=>whnf));exact AN _ kn' hk' (fY rfl rfl rfl rfl rfl rfl rfl rfl trivial) _ _ (.tup' (.cons (.nil 4) (.s .nil)))
   ·have hto':total*lv.length<=1024:=by simp at hb2;omega
    have h0:0+((j:Nat):Int).toNat=j:=by simp
    have g1:Nat.blt ((j:Nat):Int).toNat kids.length=true:=Ru (by simp;omega);have e3:(encLs lists)[0+((j:Nat):Int).toNat]? = some (.il 4 (aT lists[j])):=by rw[h0];exact encLs_get (Rm (by omega))
    have e4:((encLs lists).set (0+((j:Nat):Int).toNat) (.il 4 (aT lv)))[0+((j:Nat):Int).toNat]? = some (.il 4 (aT lv)):=by rw[h0];exact Sn (by rw[encLs_length];omega)
    ((conv=>whnf);repeat(refine Xg ?_;conv=>whnf));repeat((first|refine aK g1 ?_|refine aC e3 ?_|refine aC e4 ?_|refine aB.2 ?_|refine aD ?_);(conv=>whnf);repeat(refine Xg ?_;conv=>whnf))
    exact .mk (j+1,kn',total*lv.length,lists.set j lv) (nD [0,1,2,3,4]) ⟨by simp only;omega,hk',by simp only;rw[hst];simp;omega,hto',by simp only[Sx];exact hll,fun q k' hq hkq=>by
      simp only at hq ⊢;rcases hls' q k' hq hkq with⟨h1,h2,h3⟩|⟨rfl,rfl⟩
      ·rw[Tx (by omega)];exact⟨h2,h3⟩
      ·rw[Sn (by omega),←hlk];exact⟨rfl,hne rfl⟩⟩
     (aJ _ rfl (fY rfl rfl rfl rfl rfl rfl rfl rfl ⟨⟨4,_,rfl,rfl,.eq (encLs_nn _) (by rw[h0];exact(Mg _ _ _).symm)⟩,trivial⟩) ⟨⟨_,rfl,.ptr 0 0 0 0 rfl⟩,⟨_,rfl,.same _ (.ip' hxn)⟩,⟨_,rfl,.slE rfl rfl⟩,aH,⟨_,rfl,.same _ (.il' (aG _))⟩,aH,⟨_,rfl,.wp⟩,trivial⟩) (by simp only;omega)
 ·have hlt:j=kids.length:=by simp at hb;omega
  rw[hlt,SD] at hf;obtain⟨hres,hpr⟩:=hpg total hf;rw[hres];have hlv:lists=kids.map fun k=>(c9 (aP ns) k).vals:=UL fun q=>by
   rw[So];rcases R9 q kids.length with hq|hq
   ·rw[(hls q _ (by omega) (Rm hq)).1,Rm hq];rfl
   ·rw[R8 (by omega),R8 hq];rfl
  have hlne:∀l∈lists,l≠[]:=fun l hl=>by
   rw[hlv] at hl;obtain⟨k,hk,rfl⟩:=SJ.1 hl;obtain⟨q,hq⟩:=Sb hk;exact(hls q k (by rw[hlt];exact(Rt.1 hq).1) hq).2
  have hllen:∀l∈lists,l.length<=1024:=fun l hl=>by
   rw[hlv] at hl;obtain⟨k,hk,rfl⟩:=SJ.1 hl;obtain⟨k0,k1⟩:=hkids k hk;exact(h.vals k0 (by omega)).1
  rw[←hlv] at hpr ⊢;clear hpb hpg hls hlv hres hf;((conv=>whnf);repeat(refine Xg ?_;conv=>whnf));refine aK (bJ rfl (bJ rfl (bJ rfl (bJ rfl (bJ (Rs (by omega)) (bJ (n8 rfl (by omega) (by omega)) (Rs (by omega)))))))) ?_;((conv=>whnf);repeat(refine Xg ?_;conv=>whnf));refine a7.at bC (fun p:Nat × List bB=>p.1<=total/\p.2=((pK lists.reverse).take p.1).map (dJ name)/\p.2.length=p.1)
   (fun p=>⟨[(1,.ip (bU ⟨kind,name,lo,hi',ws,ls,vals,kids,.mk vk vn vs vks⟩)),(6,.sl 4 0 kids.length),(12,.sl 5 0 p.1),(53,.int .i64 total),(54,.int .i64 p.1)],Pe ns kn [(4,.row 58 1 (encLs lists)),(5,.row 60 4 (aT p.2))],6,98⟩)
   (fun p=>total-p.1) (0,[]) (nD [0,1,2,3,4,5])
   ⟨by simp,by simp,by simp⟩
   (aJ _ rfl (fY rfl rfl rfl rfl rfl rfl rfl rfl ⟨⟨4,_,rfl,rfl,.same (encLs_nn _)⟩,⟨5,_,rfl,rfl,.nil⟩,trivial⟩) ⟨⟨_,rfl,.same _ (.ip' hxn)⟩,⟨_,rfl,.slE rfl rfl⟩,⟨_,rfl,.slE rfl rfl⟩,aH,aH,trivial⟩) ?_
  rintro⟨k,all⟩ ⟨hkt,hall,hal⟩;simp only at hkt hall hal ⊢;((conv=>whnf);repeat(refine Xg ?_;conv=>whnf));refine aO (fun hb=>?_) (fun hb=>?_)
  ·have hlt2:k<total:=by simpa using hb
   ((conv=>whnf);repeat(refine Xg ?_;conv=>whnf));refine aK (bJ rfl (bJ rfl (bJ rfl (bJ (Rs (by omega)) (bJ (Rs (by omega)) (bJ (n8 rfl (by omega) (by omega)) (Rs (by omega)))))))) ?_;((conv=>whnf);repeat(refine Xg ?_;conv=>whnf));refine a7.at bC (fun p:Nat × Nat × List bB=>p.1<=kids.length/\p.2.1<=1024/\p.2.2.length=kids.length/\Go.Ax.rowAt (lists.take p.1).reverse p.2.1++p.2.2.drop p.1=Go.Ax.rowAt lists.reverse k)
    (fun p=>⟨[(1,.ip (bU ⟨kind,name,lo,hi',ws,ls,vals,kids,.mk vk vn vs vks⟩)),(6,.sl 4 0 kids.length),(12,.sl 5 0 k),(13,.int .i64 p.2.1),(14,.sl 6 0 kids.length),(15,.int .i64 ((p.1:Int)-1)),(53,.int .i64 total),(54,.int .i64 k)],Pe ns kn [(4,.row 58 1 (encLs lists)),(5,.row 60 4 (aT all)),(6,.row 60 4 (aT p.2.2))],7,98⟩)
    (fun p=>p.1) (kids.length,k,List.replicate kids.length (.mk 0 0 [] [])) (nD [0,1,2,3,4,5,6])
    ⟨by simp,by simp only;omega,by simp,by simp only;rw[←hll,SD,Sg (by simp)];simp⟩
    (aJ _ rfl (fY rfl rfl rfl rfl rfl rfl rfl rfl ⟨⟨4,_,rfl,rfl,.same (encLs_nn _)⟩,⟨5,_,rfl,rfl,.same (aV _)⟩,⟨6,_,rfl,rfl,Dm _⟩,trivial⟩) ⟨⟨_,rfl,.same _ (.ip' hxn)⟩,⟨_,rfl,.slE rfl rfl⟩,⟨_,rfl,.slE rfl rfl⟩,aH,⟨_,rfl,.slE rfl (by simp)⟩,⟨_,rfl,.w64 (by simp only) ⟨by simp only;omega,by simp only;omega⟩⟩,aH,aH,trivial⟩) ?_
   rintro⟨q,kk,row⟩ ⟨hq,hkk,hrl,hrow⟩;simp only at hq hkk hrl hrow ⊢;((conv=>whnf);repeat(refine Xg ?_;conv=>whnf));refine aO (fun hb=>?_) (fun hb=>?_)
   ·obtain⟨q,rfl⟩:∃q',q=q'+1:=⟨q-1,by simp at hb;omega⟩
    obtain⟨l,hl⟩:∃l,lists[q]? = some l:=⟨lists[q],Rm (by omega)⟩
    have hlm:=R3 hl;have hl0:=S2.2 (hlne l hlm);have hl1:=hllen l hlm;have hmod:=Ug kk hl0;have hdiv:=Nat.div_le_self kk l.length;obtain⟨v1,v2,v3,v4,vm,vg,-,ev⟩:=cL (l:=l) (k:=kk%l.length) hmod;have hrs:=Gm (kk:=kk) hl vg;have e0:0+((q:Nat):Int).toNat=q:=by simp
    have g1:Nat.blt ((q:Nat):Int).toNat kids.length=true:=Ru (by simp;omega);have e3:(encLs lists)[0+((q:Nat):Int).toNat]? = some (.il 4 (aT l)):=by rw[e0];exact encLs_get hl
    have e15:((q+1:Nat):Int)-1=(q:Int):=by omega
    rw[e15];((conv=>whnf);repeat(refine Xg ?_;conv=>whnf));have d0:(!decide (((aT l).length:Int)=0))=true:=by rw[aF,Bool.not_eq_true',TD];omega
    have em:(kk:Int).tmod ((aT l).length:Int)=((kk%l.length:Nat):Int):=by rw[aF];exact(Int.ofNat_tmod kk l.length).symm
    have ed:(kk:Int).tdiv ((aT l).length:Int)=((kk/l.length:Nat):Int):=by rw[aF];exact(Int.ofNat_tdiv kk l.length).symm
    have ex:(aT row)[0+((q:Nat):Int).toNat]? = some (bT row[q]):=by rw[e0,i6,Rm (by omega)];rfl
    have ey:((aT row).set (0+((q:Nat):Int).toNat) (bT (.mk v1 v2 v3 v4)))[0+((q:Nat):Int).toNat]? = some (bT (.mk v1 v2 v3 v4)):=by rw[e0];exact Sn (by rw[aF];omega)
    generalize row[q]=old at ex;obtain⟨o1,o2,o3,o4⟩:=old;repeat((first|refine aK g1 ?_|refine aC e3 ?_|refine aC ev ?_|refine aC ex ?_|refine aC ey ?_|refine aB.2 ?_|refine aD ?_|refine aK d0 ?_;(first|rw[em]|rw[ed]|skip));(conv=>whnf);repeat(refine Xg ?_;conv=>whnf))
    have hdr:(row.set q (.mk v1 v2 v3 v4)).drop q = .mk v1 v2 v3 v4::row.drop (q+1):=by
     rw[SH (by simp;omega)];simp[List.drop_set]
    have hy:i64 ((kk/l.length:Nat):Int):=by
     have:=hdiv;generalize kk/l.length=d at this ⊢;clear ed;exact⟨by omega,by omega⟩
    have hset:aT (row.set q (.mk v1 v2 v3 v4))=(aT row).set q (bT (.mk v1 v2 v3 v4)):=by rw[fK,fK,Ti]
    exact .mk (q,kk/l.length,row.set q (.mk v1 v2 v3 v4)) (nD [0,1,2,3,4,5,6]) ⟨by simp only;omega,by simp only;omega,by simp only[Sx];exact hrl,by simp only;rw[hdr,←hrow,hrs,SC];rfl⟩
     (aJ _ rfl (fY rfl rfl rfl rfl rfl rfl rfl rfl ⟨⟨4,_,rfl,rfl,.same (encLs_nn _)⟩,⟨5,_,rfl,rfl,.same (aV _)⟩,⟨6,_,rfl,rfl,.eq (aV _) (by simp only;rw[e0,hset];rfl)⟩,trivial⟩) ⟨⟨_,rfl,.same _ (.ip' hxn)⟩,⟨_,rfl,.slE rfl rfl⟩,⟨_,rfl,.slE rfl rfl⟩,⟨_,rfl,.w64 (y:=((kk/l.length:Nat):Int)) (by first|exact ed|rfl) hy⟩,⟨_,rfl,.slE rfl rfl⟩,⟨_,rfl,.w64 rfl ⟨by simp only;omega,by simp only;omega⟩⟩,aH,aH,trivial⟩) (by simp only;omega)
   ·have hq0:q=0:=by simp at hb;omega
    subst hq0;simp only[UI,List.reverse_nil,Go.Ax.rowAt,SY,SS] at hrow;have hmd:=hmade row;simp only at hmd;((conv=>whnf);repeat(refine Xg ?_;conv=>whnf));refine aM.pre bC (mem':=Pe ns kn [(4,.row 58 1 (encLs lists)),(5,.row 60 4 (aT all))]) (nD [0,1,2,3,4,5]) (by rfl)
     (fY rfl rfl rfl rfl rfl rfl rfl rfl ⟨⟨4,_,rfl,rfl,.same (encLs_nn _)⟩,⟨5,_,rfl,rfl,.same (aV _)⟩,trivial⟩)
     (.cons (.same _ (.ip' hxn)) (.cons (.fz' (id:=6) (t:=60) (xs:=aT row) rfl rfl (by rw[aF];omega) (by rw[SS];exact SA (by rw[aF];omega)) (aV _)) .nil)) ?_
    refine hmd.go ?_;have hr:=DP lists.reverse k (by rw[←hpr];exact hlt2);rw[←hrow] at hr;obtain⟨⟨m1,m2,m3,m4⟩,hmv⟩:∃mv,mv=dJ name row:=⟨_,rfl⟩
    rw[←hmv];((conv=>whnf);repeat(refine Xg ?_;conv=>whnf));refine aK (bP rfl rfl (by simp[aF];omega) (by simp;omega)) ?_;((conv=>whnf);repeat(refine Xg ?_;conv=>whnf));exact .mk (k+1,all++[.mk m1 m2 m3 m4]) [(0,0),(1,1),(2,2),(3,3),(4,4),(8,5)] ⟨by simp only;omega,by
      simp only;rw[hall,List.take_add_one,hr,Te,hmv];rfl,by simp[hal]⟩
     (aJ _ rfl (fY rfl rfl rfl rfl rfl rfl rfl rfl ⟨⟨4,_,rfl,rfl,.same (encLs_nn _)⟩,⟨8,_,rfl,rfl,.eq (aV _) (by rw[eR];rfl)⟩,trivial⟩) ⟨⟨_,rfl,.same _ (.ip' hxn)⟩,⟨_,rfl,.slE rfl rfl⟩,⟨_,rfl,.slE rfl (by simp)⟩,aH,⟨_,rfl,.wp⟩,trivial⟩) (by simp only;omega)
  ·have hlt2:k=total:=by simp at hb;omega
   ((conv=>whnf);repeat(refine Xg ?_;conv=>whnf));refine AN _ kn hk (fY rfl rfl rfl rfl rfl rfl rfl rfl trivial) _ _ (.tup' (.cons (.fz' (id:=5) (t:=60) (xs:=aT all) rfl rfl (by rw[aF];omega) ?_ (aV _)) (.s .nil)));rw[SS,SA (by rw[aF];omega),hall,hlt2,hpr,←zM,SD]
set_option maxHeartbeats 8000000
theorem QJ{ns:List Nd}{n:Nat}(h:gW ns n)(i:Nat)(hi:i<n)(hOf:∀j<i,MP ns j)(kn:List Bool)(hk:kn.length=ns.length) :
  aM prog [] 152 [.ptr 0 0 0,.int .i64 i] (sM ns kn) 4 (sQ ns i):=by
 obtain⟨x,hx⟩:∃x,ns[i]? = some x:=⟨ns[i]'(by have:=h.hn;omega),Rm _⟩
 have ex:(aR ns)[((i:Nat):Int).toNat]? = some (bU x):=by simp[nJ,hx]
 unfold sQ;rw[h.at hi hx];have hG:=h.node hi hx;have hO:=h.nodeOK hi hx;have hxn:=aW x;have hkm:∀k∈x.kids,0<=k/\k<i:=fun k hk=>by
  obtain⟨j,hj⟩:=Sb hk;exact hG.kids j k hj
 have hU:=fun(kids:List Int) (h1:kids.length<=65536) (h2:∀k∈kids,0<=k/\k<i)=>PN h i (by omega) kids h1 h2 hOf kn hk
 have hP:=Kn h i (by omega) x hG.klen hkm hOf kn hk;have hb:=hO.bind;have hkl:=hG.klen;have hkd:=hG.kind;have hnum:=cA hG.num;have e0:x.kind=0->cW x (aP ns)=⟨[x.value],false⟩:=fun e=>by unfold cW;rw[Rx e]
 have e1:x.kind=1->cW x (aP ns)=if 1024<=x.hi-x.lo then⟨[],true⟩ else⟨gX x.lo x.hi,false⟩:=fun e=>by unfold cW;rw[Rp (by omega),Rx e]
 have e2:x.kind=2->cW x (aP ns)=lH (aP ns) x.kids:=fun e=>by unfold cW;rw[Rp (by omega),Rp (by omega),Rp (by omega),Rp (by omega)]
 have e3:x.kind=3->cW x (aP ns)=oK (aP ns) x:=fun e=>by unfold cW;rw[Rp (by omega),Rp (by omega),Rx e]
 have e4:x.kind=4->cW x (aP ns)=lH (aP ns) (x.kids.drop 1):=fun e=>by unfold cW;rw[Rp (by omega),Rp (by omega),Rp (by omega),Rx e]
 generalize cW x (aP ns)=res at e0 e1 e2 e3 e4 ⊢;clear hG hO hOf;have hP:x.kind=3->aM prog [] 157 [.ptr 0 0 0,.ip (bU x)] (sM ns kn) 4 (uQ ns res):=fun e=>by rw[e3 e];exact hP
 clear e3;obtain⟨kind,name,lo,hi',ws,ls,vals,kids,⟨vk,vn,vs,vks⟩⟩:=x;simp only at hkm hb hkl hkd hnum e0 e1 e2 e4 hP;refine aL bC func152 rfl ?_;((conv=>whnf);repeat(refine Xg ?_;conv=>whnf));repeat(refine aC ex ?_;(conv=>whnf);repeat(refine Xg ?_;conv=>whnf))
 have call:∀(F:FuncId) (a:List AV) (K:AV->aS->Nat->Prop) (nx:Nat),g9 a->aM prog [] F (.ptr 0 0 0::a) (sM ns kn) 4 (uQ ns res)->(∀kn',kn'.length=ns.length->K (.tup [.il 4 (aT res.vals),.bool (!res.many)]) (sM ns kn'++eT [0,1,2,3] (sM ns kn)) nx)->aM prog [] F (.ptr 0 0 0::a) (sM ns kn) nx K:=fun F a K nx ha hc hK=>by
  refine aM.useI bC [0,1,2,3] hc (by rfl) (.cons (.ptr 0 0 0 0 rfl) (.same ha)) (fS ns kn) (by rfl) ?_;rintro r m k' ⟨kn',hk',rfl,rfl,rfl⟩;exact⟨nn,fS ns kn',by rfl,hK kn' hk'⟩
 rcases(show kind=0∨kind=1∨kind=2∨kind=3∨kind=4 by omega) with rfl|rfl|rfl|rfl|rfl
 ·rw[e0 rfl];((conv=>whnf);repeat(refine Xg ?_;conv=>whnf));repeat(refine aC ex ?_;(conv=>whnf);repeat(refine Xg ?_;conv=>whnf))
  exact AN _ kn hk (fY rfl rfl rfl rfl rfl rfl rfl rfl trivial) _ _ (.tup' (.cons (.fz' (id:=4) (t:=60) (xs:=aT [.mk vk vn vs vks]) rfl rfl (by rw[aF];simp) rfl (aV _)) (.s .nil)))
 ·rw[e1 rfl];have hw:IntKind.i64.wrap (hi'-lo)=hi'-lo:=bY ⟨by omega,by omega⟩;((conv=>whnf);repeat(refine Xg ?_;conv=>whnf));simp only[hw];refine aO (fun hb=>?_) (fun hb=>?_)
  ·have hb:1024<=hi'-lo:=by simpa using hb
   rw[Rx hb];((conv=>whnf);repeat(refine Xg ?_;conv=>whnf));exact AN _ kn hk (fS ns kn) _ _ (.tup' (.cons (.nil 4) (.s .nil)))
  ·have hb:¬1024<=hi'-lo:=by simpa using hb
   rw[Rp hb];((conv=>whnf);repeat(refine Xg ?_;conv=>whnf));refine a7.ph 60 4 ?_;refine a7.at bC (fun c:Nat=>c<=(hi'+1-lo).toNat)
    (fun c=>⟨[(6,.ip (bU ⟨1,name,lo,hi',ws,ls,vals,kids,.mk vk vn vs vks⟩)),(7,.sl 4 0 c),(8,.int .i64 (lo+c))],Pe ns kn [(4,.row 60 4 (aT (gX lo (lo+c-1))))],5,82⟩)
    (fun c=>(hi'+1-lo).toNat-c) 0 [(0,0),(1,1),(2,2),(3,3),(14,4)] (by simp)
    (aJ _ rfl (fY rfl rfl rfl rfl rfl rfl rfl rfl ⟨⟨14,_,rfl,rfl,by rw[show gX lo (lo+((0:Nat):Int)-1)=[] by simp[gX]];exact .nil⟩,trivial⟩) ⟨⟨_,rfl,.same _ (.ip' hxn)⟩,⟨_,rfl,.nslk 14 4 _ rfl rfl⟩,⟨_,rfl,.int (by simp)⟩,trivial⟩) ?_
   intro c hc;have hrl:∀c:Nat,(gX lo (lo+c-1)).length=c:=fun c=>by simp[gX];omega
   ((conv=>whnf);repeat(refine Xg ?_;conv=>whnf));refine aO (fun hb2=>?_) (fun hb2=>?_)
   ·have hb2:lo+c<=hi':=by simpa using hb2
    have hrs:gX lo (lo+((c+1:Nat):Int)-1)=gX lo (lo+c-1)++[.mk 0 (lo+c) [] []]:=by
     unfold gX;rw[show (lo+((c+1:Nat):Int)-1+1-lo).toNat=c+1 by omega,show (lo+(c:Int)-1+1-lo).toNat=c by omega,T9,Te];rfl
    ((conv=>whnf);repeat(refine Xg ?_;conv=>whnf));refine aK (bP rfl rfl (by rw[aF,hrl]) (by simp;omega)) ?_;((conv=>whnf);repeat(refine Xg ?_;conv=>whnf));exact .mk (c+1) [(0,0),(1,1),(2,2),(3,3),(6,4)] (by omega)
     (aJ _ rfl (fY rfl rfl rfl rfl rfl rfl rfl rfl ⟨⟨6,_,rfl,rfl,by rw[hrs,eR];exact .snoc rfl (.same (aV _)) (sX 0 (lo+c) [])⟩,trivial⟩) ⟨⟨_,rfl,.same _ (.ip' hxn)⟩,⟨_,rfl,.slE rfl (by simp)⟩,⟨_,rfl,.wo⟩,trivial⟩) (by omega)
   ·have hb2:¬lo+c<=hi':=by simpa using hb2
    have hcc:lo+c-1=hi':=by omega
    ((conv=>whnf);repeat(refine Xg ?_;conv=>whnf));rw[hcc];refine AN _ kn hk (fY rfl rfl rfl rfl rfl rfl rfl rfl trivial) _ _ (.tup' (.cons (.fz' (id:=4) (t:=60) (xs:=aT (gX lo hi')) rfl rfl (by rw[aF];have:=hrl c;rw[hcc] at this;omega) ?_ (aV _)) (.s .nil)));rw[SS];exact SA (by rw[aF];have:=hrl c;rw[hcc] at this;omega)
 ·rw[e2 rfl] at call ⊢;((conv=>whnf);repeat(refine Xg ?_;conv=>whnf));refine call _ _ _ _ (.cons (.il' (aG _)) .nil) (hU kids hkl hkm) fun kn' hk'=>?_
  ((conv=>whnf);repeat(refine Xg ?_;conv=>whnf));exact AN _ kn' hk' (fS ns kn') _ _ (.same _ nn)
 ·((conv=>whnf);repeat(refine Xg ?_;conv=>whnf));refine call _ _ _ _ (.cons (.ip' hxn) .nil) (hP rfl) fun kn' hk'=>?_
  ((conv=>whnf);repeat(refine Xg ?_;conv=>whnf));exact AN _ kn' hk' (fS ns kn') _ _ (.same _ nn)
 ·rw[e4 rfl] at call ⊢;have hb:=hb rfl;((conv=>whnf);repeat(refine Xg ?_;conv=>whnf));refine aK (bJ (Ru (by rw[aE];simp;omega)) (bJ (Ru (R2 _)) (Ru (R2 _)))) ?_;have ed:List.take ((aI kids).length-Int.toNat 1) (List.drop (Int.toNat 1) (aI kids))=aI (kids.drop 1):=by
   rw[SA (by simp)];simp[aI]
  rw[ed];((conv=>whnf);repeat(refine Xg ?_;conv=>whnf));refine call _ _ _ _ (.cons (.il' (aG _)) .nil) (hU (kids.drop 1) (by rw[Tj];omega) fun k hk=>hkm k (Sq hk)) fun kn' hk'=>?_
  ((conv=>whnf);repeat(refine Xg ?_;conv=>whnf));exact AN _ kn' hk' (fS ns kn') _ _ (.same _ nn)
theorem Rh{ns:List Nd}{n:Nat}(h:gW ns n):∀i<n,MP ns i:=by
 intro i
 induction i using Nat.strongRecOn with
 | ind i ih=>exact fun hi kn hk=>RE h i hi kn hk (QJ h i hi (fun j hj=>ih j hj (by omega)) kn hk)
set_option maxHeartbeats 8000000
theorem RP(a b:bB)(ha:iA a):a8 prog [] 141 [bT a,bT b] (.bool (cN a b == 0)):=by
 have hc:=nN a b ha;obtain⟨a1,a2,a3,a4⟩:=a;obtain⟨b1,b2,b3,b4⟩:=b;generalize cN (.mk a1 a2 a3 a4) (.mk b1 b2 b3 b4)=c at hc ⊢;refine aL bC func141 rfl ?_;((conv=>whnf);repeat(refine Xg ?_;conv=>whnf));refine hc.go ?_;((conv=>whnf);repeat(refine Xg ?_;conv=>whnf));exact aA nn ⟨rfl,rfl,rfl⟩
theorem Gr(l m:List bB)(hl:l.length<=4294967296)(hm:m.length<=4294967296)(hok:∀a∈l,iA a) :
  a8 prog [] 140 [.il 4 (aT l),.il 4 (aT m),.fn (.func 141) [] []] (.bool (dU l m)):=by
 have hE:=fun a ha b=>RP a b (hok a ha)
 refine aL bC func140 rfl ?_;((conv=>whnf);repeat(refine Xg ?_;conv=>whnf));refine aO (fun h=>?_) (fun h=>?_)
 ·have h1:l.length≠m.length:=by rw[aF,aF] at h;simp at h;omega
  have:dU l m=false:=by
   cases e:dU l m with
   | false=>rfl
   | true=>exact absurd (mG e) h1
  rw[this];((conv=>whnf);repeat(refine Xg ?_;conv=>whnf));exact aA nn ⟨rfl,rfl,rfl⟩
 ·have h1:l.length=m.length:=by rw[aF,aF] at h;simp at h;omega
  ((conv=>whnf);repeat(refine Xg ?_;conv=>whnf));refine a7.at bC (fun i:Nat=>i<=l.length/\dU l m=dU (l.drop i) (m.drop i)) (fun i=>⟨[(1,.il 4 (aT m)),(2,.fn (.func 141) [] []),(15,.il 4 (aT l)),(16,.int .i64 l.length),(17,.int .i64 i)],[],0,32⟩) (fun i=>l.length-i) 0 [] ⟨by simp,by simp⟩
   (bL ⟨⟨_,rfl,.same _ (.il' (aV _))⟩,aH,⟨_,rfl,.same _ (.il' (aV _))⟩,⟨_,rfl,.int (by rw[aF])⟩,aH,trivial⟩) ?_
  rintro i ⟨hi,hs⟩;((conv=>whnf);repeat(refine Xg ?_;conv=>whnf));refine aO (fun hb=>?_) (fun hb=>?_)
  ·have hil:i<l.length:=by simpa using hb
   obtain⟨p1,p2,p3,p4,pm,pg,pe,ep⟩:=cL (l:=l) (k:=i) hil;obtain⟨q1,q2,q3,q4,qm,qg,qe,eq⟩:=cL (l:=m) (k:=i) (by omega);rw[SH hil,SH (show i<m.length by omega),dU,pe,qe] at hs;have hc:=hE _ pm (.mk q1 q2 q3 q4);obtain⟨c,hc0⟩:∃c,c=cN (.mk p1 p2 p3 p4) (.mk q1 q2 q3 q4):=⟨_,rfl⟩
   rw[←hc0] at hc hs;((conv=>whnf);repeat(refine Xg ?_;conv=>whnf));repeat((first|refine aC ep ?_|refine aC eq ?_|refine aD ?_);(conv=>whnf);repeat(refine Xg ?_;conv=>whnf))
   refine hc.go ?_;((conv=>whnf);repeat(refine Xg ?_;conv=>whnf));refine aO (fun h=>?_) (fun h=>?_)
   ·have:decide (c=0)=false:=by simpa using h
    rw[hs,this];((conv=>whnf);repeat(refine Xg ?_;conv=>whnf));exact aA nn ⟨rfl,rfl,rfl⟩
   ·have:decide (c=0)=true:=by simpa using h
    rw[this] at hs;((conv=>whnf);repeat(refine Xg ?_;conv=>whnf));exact .mk (i+1) [] ⟨by omega,hs⟩ (bL ⟨⟨_,rfl,.same _ (.il' (aV _))⟩,aH,⟨_,rfl,.same _ (.il' (aV _))⟩,aH,⟨_,rfl,.wo⟩,trivial⟩) (by omega)
  ·have hil:i=l.length:=by simp at hb;omega
   rw[hil,TZ,h1,TZ,dU] at hs;rw[hs];((conv=>whnf);repeat(refine Xg ?_;conv=>whnf));exact aA nn ⟨rfl,rfl,rfl⟩
set_option maxHeartbeats 8000000
def Ep(ns:List Nd)(ls ss:List Int)(kn:List Bool)(rest:aS):aS:=(0,.row 158 4 [.agg [.il 12 (aR ns),.sl 1 0 ns.length,.sl 2 0 ns.length,.ptr 3 0 0]])::(1,.row 3 1 (aI ls))::(2,.row 3 1 (aI ss)) ::
 (3,.row 127 4 [.agg [.il 12 (aR ns),.sl 4 0 ns.length,.sl 5 0 ns.length,.sl 6 0 ns.length]])::(4,.row 4 1 (kB kn))::(5,.row 58 1 (lB (aP ns) kn))::(6,.row 4 1 (mB (aP ns) kn))::rest
def Qd(ns:List Nd)(l1 l2:List AV)(kn:List Bool):aS:=[(0,.row 158 4 [.agg [.il 12 (aR ns),.sl 1 0 ns.length,.sl 2 0 ns.length,.ptr 3 0 0]]),(1,.row 3 1 l1),(2,.row 3 1 l2),
 (3,.row 127 4 [.agg [.il 12 (aR ns),.sl 4 0 ns.length,.sl 5 0 ns.length,.sl 6 0 ns.length]]),(4,.row 4 1 (kB kn)),(5,.row 58 1 (lB (aP ns) kn)),(6,.row 4 1 (mB (aP ns) kn))]
theorem QL{mem:aS}{σ:List (Nat × Nat)}{ns:List Nd}{N a b c a' b' c':Nat}(h1:lk σ a=some a')(h2:lk σ b=some b')(h3:lk σ c=some c') :
  pS mem σ [.agg [.il 12 (aR ns),.sl a 0 N,.sl b 0 N,.ptr c 0 0]] [.agg [.il 12 (aR ns),.sl a' 0 N,.sl b' 0 N,.ptr c' 0 0]]:=
 .cons (.agg (.cons (.same _ (.il' (aQ _))) (.cons (.sl a a' 0 N h1) (.cons (.sl b b' 0 N h2) (.cons (.ptr c c' 0 0 h3) .nil))))) .nil
theorem jI{mem:aS}{σ:List (Nat × Nat)}{ns:List Nd}{kn:List Bool}{ls ss:List Int}{l1 l2:List AV}{rest:aS}(h0:lk σ 0=some 0)(h1:lk σ 1=some 1)(h2:lk σ 2=some 2)(h3:lk σ 3=some 3)(h4:lk σ 4=some 4)(h5:lk σ 5=some 5)(h6:lk σ 6=some 6)
  (m0:lk mem 0=some (.row 158 4 [.agg [.il 12 (aR ns),.sl 1 0 ns.length,.sl 2 0 ns.length,.ptr 3 0 0]])) (m1:lk mem 1=some (.row 3 1 l1)) (m2:lk mem 2=some (.row 3 1 l2)) (e1:l1=aI ls) (e2:l2=aI ss)
  (m3:lk mem 3=some (.row 127 4 [.agg [.il 12 (aR ns),.sl 4 0 ns.length,.sl 5 0 ns.length,.sl 6 0 ns.length]])) (m4:lk mem 4=some (.row 4 1 (kB kn))) (m5:lk mem 5=some (.row 58 1 (lB (aP ns) kn))) (m6:lk mem 6=some (.row 4 1 (mB (aP ns) kn)))
  (hr:cH mem σ rest):cH mem σ (Ep ns ls ss kn rest):=
 ⟨⟨0,_,h0,m0,QL h1 h2 h3⟩,⟨1,_,h1,m1,.eq (aG _) e1⟩,⟨2,_,h2,m2,.eq (aG _) e2⟩,⟨3,_,h3,m3,CN h4 h5 h6⟩,⟨4,_,h4,m4,.same (hZ _)⟩,⟨5,_,h5,m5,.same (xO _ _)⟩,⟨6,_,h6,m6,.same (uU _ _)⟩,hr⟩
theorem mF(ns:List Nd)(ls ss:List Int)(kn:List Bool):cH (Ep ns ls ss kn []) (nD [0,1,2,3,4,5,6]) (Ep ns ls ss kn []):=jI rfl rfl rfl rfl rfl rfl rfl rfl rfl rfl rfl rfl rfl rfl rfl rfl trivial
theorem mM(l:List Int)(i:Nat)(y:Int):aI (l.set i y)=(aI l).set i (.int .i64 y):=by simp[aI,Ti]
theorem Oc{ns:List Nd}(i:Nat)(x:Nd)(hx:ns[i]? = some x)(hok:rL x)(hsz:bH x.value<=1048576)(hkl:x.kids.length<=65536)(hkids:∀(j:Nat) (k:Int),x.kids[j]? = some k->0<=k/\k<i)(hkd:0<=x.kind/\x.kind<=4)(h4:4<=x.kind->0<x.kids.length)
  (ls ss:List Int) (kn:List Bool) (hls:ls.length=ns.length) (hss:ss.length=ns.length) (bl:∀y∈ls,0<=y/\y<=1024) (bs:∀y∈ss,0<=y/\y<=1024) :
  aM prog [] 124 [.ptr 0 0 0,.int .i64 i] (Ep ns ls ss kn []) 7 fun r m k=>r = .bool (decide (eU ls x<=256) && decide (wO ss x<=1024))/\m=Ep ns (ls.set i (eU ls x)) (ss.set i (wO ss x)) kn []/\k=7:=by
 have hil:=(Rt.1 hx).1;have ex:(aR ns)[((i:Nat):Int).toNat]? = some (bU x):=by simp[nJ,hx]
 have hxn:=aW x;have hL:=H6 ls x hok hkl bl (fun j k hk=>by have:=hkids j k hk;omega) h4 hkd;have hV:=Qm x.value hsz;have hP:wO ss x=if x.kind=0 then(bH x.value:Int) else if x.kind=1 then 1 else if x.kind=3 then 1+fC ss x.kids else max 1 (cR ss (dX x)):=rfl
 have hs:=fun l=>iO (b:=ss) (M:=1024) (by omega) bs l
 have hm:=fun l=>gA (b:=ss) (M:=1024) (by omega) bs l
 have har:dX x=if x.kind=2 then x.kids else x.kids.drop 1:=rfl
 have hat:=fun q=>mA (b:=ss) (M:=1024) (by omega) bs q
 have eat:∀k:Int,0<=k->k<ss.length->(aI ss)[0+k.toNat]? = some (.int .i64 (Go.Ax.d7 ss k)):=fun k h0 h1=>by
  have:k.toNat<ss.length:=by omega
  rw[SF,bG,Rm this];unfold Go.Ax.d7;rw[Rn,Rm this];rfl
 have hM:∀k:Nat,k<x.kids.length->(cR ss (if x.kind=2 then x.kids.take (k+1) else(x.kids.take (k+1)).drop 1))=if 0<k∨x.kind=2 then max (cR ss (if x.kind=2 then x.kids.take k else(x.kids.take k).drop 1)) (Go.Ax.d7 ss (x.kids.getD k 0)) else cR ss (if x.kind=2 then x.kids.take k else(x.kids.take k).drop 1):=fun k hk=>by
  have eg:x.kids.getD k 0=x.kids[k]:=by rw[Rn,Rm hk];rfl
  rw[eg];by_cases e2:x.kind=2
  ·rw[Rx e2,Rx (.inr e2),Rx e2,p5 hk]
  ·rw[Rp e2,Rp e2];by_cases e0:0<k
   ·rw[Rx (.inl e0),oC hk e0]
   ·rw[Rp (by omega)];have:k=0:=by omega
    subst this;simp[cR,UN]
 have h0:0+((i:Nat):Int).toNat=i:=by simp
 have g1:Nat.blt ((i:Nat):Int).toNat ns.length=true:=Ru (by simp;omega);generalize hlen:eU ls x=len at *;generalize hsiz:wO ss x=siz at *;clear hlen hsiz hok;obtain⟨kind,name,lo,hi',ws,lbs,vals,kids,⟨vk,vn,vs,vks⟩⟩:=x;simp only at hsz hkl hkids hkd h4 hV hP hM;obtain⟨sv,hsv⟩:∃sv,sv=bH (.mk vk vn vs vks):=⟨_,rfl⟩
 rw[←hsv] at hV hP hsz;have f1:(aI ls)[0+((i:Nat):Int).toNat]? = some (.int .i64 ls[i]):=by rw[h0,bG,Rm (by omega)];rfl
 have f2:((aI ls).set (0+((i:Nat):Int).toNat) (.int .i64 len))[0+((i:Nat):Int).toNat]? = some (.int .i64 len):=by rw[h0];exact Sn (by rw[aE];omega)
 have f3:(aI ss)[0+((i:Nat):Int).toNat]? = some (.int .i64 ss[i]):=by rw[h0,bG,Rm (by omega)];rfl
 have f4:∀siz:Int,((aI ss).set (0+((i:Nat):Int).toNat) (.int .i64 siz))[0+((i:Nat):Int).toNat]? = some (.int .i64 siz):=fun siz=>by rw[h0];exact Sn (by rw[aE];omega)
 generalize ls[i]=l0 at f1;generalize ss[i]=s0 at f3;refine aL bC func124 rfl ?_;((conv=>whnf);repeat(refine Xg ?_;conv=>whnf));repeat((first|refine aK g1 ?_|refine aC ex ?_|refine aC f1 ?_|refine aC f2 ?_|refine aB.2 ?_|refine aD ?_);(conv=>whnf);repeat(refine Xg ?_;conv=>whnf))
 refine hL.lend bC (.cons (.same _ (.ip' hxn)) (.cons (.fz' (id:=1) (t:=3) (xs:=aI ls) rfl rfl (by rw[aE];omega) (by rw[SS];exact SA (by rw[aE];omega)) (aG _)) .nil)) (.int _ _) ?_;((conv=>whnf);repeat(refine Xg ?_;conv=>whnf));repeat((first|refine aK g1 ?_|refine aC ex ?_|refine aC f1 ?_|refine aC f2 ?_|refine aB.2 ?_|refine aD ?_);(conv=>whnf);repeat(refine Xg ?_;conv=>whnf))
 obtain⟨d1,hd1⟩:∃d1,d1=decide (len<=256):=⟨_,rfl⟩
 rw[←hd1];have fin:∀(mem:aS) (nx:Nat) {d:Bool},d=(d1 && decide (siz<=1024))->mem=Qd ns ((aI ls).set (0+((i:Nat):Int).toNat) (.int .i64 len)) ((aI ss).set (0+((i:Nat):Int).toNat) (.int .i64 siz)) kn ->
   lE 7 (fun r m k=>r = .bool (d1 && decide (siz<=1024))/\m=Ep ns (ls.set i len) (ss.set i siz) kn []/\k=7) (.bool d) mem nx:=by
  rintro mem nx d rfl rfl;exact bK (n':=7) (m':=Ep ns (ls.set i len) (ss.set i siz) kn []) (nD [0,1,2,3,4,5,6]) rfl (jI rfl rfl rfl rfl rfl rfl rfl rfl rfl rfl (by rw[h0];exact(mM _ _ _).symm) (by rw[h0];exact(mM _ _ _).symm) rfl rfl rfl rfl trivial) (.same _ nn) ⟨rfl,rfl,rfl⟩
 have fin':∀(mem:aS) (nx:Nat) {d:Bool},d=(d1 && decide (siz<=1024))->mem=Qd ns (aI (ls.set i len)) ((aI ss).set (0+((i:Nat):Int).toNat) (.int .i64 siz)) kn ->
   lE 7 (fun r m k=>r = .bool (d1 && decide (siz<=1024))/\m=Ep ns (ls.set i len) (ss.set i siz) kn []/\k=7) (.bool d) mem nx:=by
  rintro mem nx d rfl rfl;exact bK (n':=7) (m':=Ep ns (ls.set i len) (ss.set i siz) kn []) (nD [0,1,2,3,4,5,6]) rfl (jI rfl rfl rfl rfl rfl rfl rfl rfl rfl rfl rfl (by rw[h0];exact(mM _ _ _).symm) rfl rfl rfl rfl trivial) (.same _ nn) ⟨rfl,rfl,rfl⟩
 have f2':(aI (ls.set i len))[0+((i:Nat):Int).toNat]? = some (.int .i64 len):=by rw[h0,mM];exact Sn (by rw[aE];omega)
 rcases(show kind=0∨kind=1∨kind=2∨kind=3∨kind=4 by omega) with rfl|rfl|rfl|rfl|rfl
 ·rw[Rx rfl] at hP;subst hP;((conv=>whnf);repeat(refine Xg ?_;conv=>whnf));refine hV.go ?_;((conv=>whnf);repeat(refine Xg ?_;conv=>whnf));repeat((first|refine aK g1 ?_|refine aC f3 ?_|refine aC (f4 _) ?_|refine aC f2 ?_|refine aB.2 ?_|refine aD ?_);(conv=>whnf);repeat(refine Xg ?_;conv=>whnf))
  rw[←hd1];clear hd1;cases d1 with
  | true=>
   ((conv=>whnf);repeat(refine Xg ?_;conv=>whnf));exact fin _ _ rfl rfl
  | false=>
   ((conv=>whnf);repeat(refine Xg ?_;conv=>whnf));exact fin _ _ rfl rfl
 ·rw[Rp (by decide),Rx rfl] at hP;subst hP;((conv=>whnf);repeat(refine Xg ?_;conv=>whnf));repeat((first|refine aK g1 ?_|refine aC f3 ?_|refine aC (f4 _) ?_|refine aC f2 ?_|refine aB.2 ?_|refine aD ?_);(conv=>whnf);repeat(refine Xg ?_;conv=>whnf))
  rw[←hd1];clear hd1;cases d1 with
  | true=>
   ((conv=>whnf);repeat(refine Xg ?_;conv=>whnf));exact fin _ _ rfl rfl
  | false=>
   ((conv=>whnf);repeat(refine Xg ?_;conv=>whnf));exact fin _ _ rfl rfl
 ·rw[Rp (by decide),Rp (by decide),Rp (by decide)] at hP;((conv=>whnf);repeat(refine Xg ?_;conv=>whnf));refine a7.at bC (fun p:Nat × Int=>p.1<=kids.length/\p.2=max 1 (cR ss (kids.take p.1)))
   (fun p=>⟨[(0,.ptr 0 0 0),(1,.int .i64 i),(5,.ip (bU ⟨2,name,lo,hi',ws,lbs,vals,kids,.mk vk vn vs vks⟩)),(6,.int .i64 p.2),(67,.il 1 (aI kids)),(68,.int .i64 kids.length),(69,.int .i64 p.1)],Ep ns (ls.set i len) ss kn [],7,112⟩) (fun p=>kids.length-p.1) (0,1) (nD [0,1,2,3,4,5,6]) ⟨by simp,by simp[cR];omega⟩
   (aJ _ rfl (jI rfl rfl rfl rfl rfl rfl rfl rfl rfl rfl (by rw[h0];exact(mM _ _ _).symm) rfl rfl rfl rfl rfl trivial) ⟨⟨_,rfl,.ptr 0 0 0 0 rfl⟩,aH,⟨_,rfl,.same _ (.ip' hxn)⟩,aH,⟨_,rfl,.same _ (.il' (aG _))⟩,⟨_,rfl,.int (by rw[aE])⟩,aH,trivial⟩) ?_
  rintro⟨j,size⟩ ⟨hj,hsize⟩;simp only at hj hsize ⊢;have bsz:=hm (kids.take j);((conv=>whnf);repeat(refine Xg ?_;conv=>whnf));refine aO (fun h=>?_) (fun h=>?_)
  ·have hlt:j<kids.length:=by simpa using h
   have e1:(aI kids)[(j:Int).toNat]? = some (.int .i64 kids[j]):=by rw[Rq,bG,Rm hlt];rfl
   obtain⟨q0,q1⟩:=hkids j _ (Rm hlt);have hM:=hM j hlt;have eg:kids.getD j 0=kids[j]:=by rw[Rn,Rm hlt];rfl
   rw[eg] at hM;have hM:cR ss (kids.take (j+1))=max (cR ss (kids.take j)) (Go.Ax.d7 ss kids[j]):=by simpa using hM
   generalize kids[j]=q at e1 q0 q1 hM;obtain⟨q,rfl⟩:=R7 q0;have e2:=eat q q0 (by omega);have hq:=hat q;have g2:Nat.blt ((q:Nat):Int).toNat ns.length=true:=Ru (by simp;omega);generalize Go.Ax.d7 ss q=z at e2 hq hM;((conv=>whnf);repeat(refine Xg ?_;conv=>whnf));repeat((first|refine aK g2 ?_|refine aC e1 ?_|refine aC e2 ?_);(conv=>whnf);repeat(refine Xg ?_;conv=>whnf))
   by_cases k0:0<j
   ·have d0:decide ((j:Int)>0)=true:=by simp;omega
    rw[d0];((conv=>whnf);repeat(refine Xg ?_;conv=>whnf));repeat((first|refine aK g2 ?_|refine aC e1 ?_|refine aC e2 ?_);(conv=>whnf);repeat(refine Xg ?_;conv=>whnf))
    exact .mk (j+1,max size z) (nD [0,1,2,3,4,5,6]) ⟨by simp only;omega,by simp only;rw[hM,hsize];omega⟩
     (aJ _ rfl (mF _ _ _ _) ⟨⟨_,rfl,.ptr 0 0 0 0 rfl⟩,aH,⟨_,rfl,.same _ (.ip' hxn)⟩,⟨_,rfl,.int (by simp only;split<;>omega)⟩,⟨_,rfl,.same _ (.il' (aG _))⟩,aH,⟨_,rfl,.wp⟩,trivial⟩) (by simp only;omega)
   ·have d0:decide ((j:Int)>0)=false:=by simp;omega
    rw[d0];((conv=>whnf);repeat(refine Xg ?_;conv=>whnf));repeat((first|refine aK g2 ?_|refine aC e1 ?_|refine aC e2 ?_);(conv=>whnf);repeat(refine Xg ?_;conv=>whnf))
    exact .mk (j+1,max size z) (nD [0,1,2,3,4,5,6]) ⟨by simp only;omega,by simp only;rw[hM,hsize];omega⟩
     (aJ _ rfl (mF _ _ _ _) ⟨⟨_,rfl,.ptr 0 0 0 0 rfl⟩,aH,⟨_,rfl,.same _ (.ip' hxn)⟩,⟨_,rfl,.int (by simp only;split<;>omega)⟩,⟨_,rfl,.same _ (.il' (aG _))⟩,aH,⟨_,rfl,.wp⟩,trivial⟩) (by simp only;omega)
  ·have hlt:j=kids.length:=by simp at h;omega
   rw[hlt,SD,show cR ss kids=cR ss (dX ⟨2,name,lo,hi',ws,lbs,vals,kids,.mk vk vn vs vks⟩) from rfl,←hP] at hsize;subst hsize;((conv=>whnf);repeat(refine Xg ?_;conv=>whnf));repeat((first|refine aK g1 ?_|refine aC f3 ?_|refine aC (f4 _) ?_|refine aC f2' ?_|refine aB.2 ?_|refine aD ?_);(conv=>whnf);repeat(refine Xg ?_;conv=>whnf))
   rw[←hd1];clear hd1;cases d1 with
   | true=>
    ((conv=>whnf);repeat(refine Xg ?_;conv=>whnf));exact fin' _ _ rfl rfl
   | false=>
    ((conv=>whnf);repeat(refine Xg ?_;conv=>whnf));exact fin' _ _ rfl rfl
 ·rw[Rp (by decide),Rp (by decide),Rx rfl] at hP;((conv=>whnf);repeat(refine Xg ?_;conv=>whnf));refine a7.at bC (fun p:Nat × Int=>p.1<=kids.length/\p.2=1+fC ss (kids.take p.1))
   (fun p=>⟨[(0,.ptr 0 0 0),(1,.int .i64 i),(6,.int .i64 p.2),(45,.il 1 (aI kids)),(46,.int .i64 kids.length),(47,.int .i64 p.1)],Ep ns (ls.set i len) ss kn [],7,112⟩) (fun p=>kids.length-p.1) (0,1) (nD [0,1,2,3,4,5,6]) ⟨by simp,by simp[fC]⟩
   (aJ _ rfl (jI rfl rfl rfl rfl rfl rfl rfl rfl rfl rfl (by rw[h0];exact(mM _ _ _).symm) rfl rfl rfl rfl rfl trivial) ⟨⟨_,rfl,.ptr 0 0 0 0 rfl⟩,aH,aH,⟨_,rfl,.same _ (.il' (aG _))⟩,⟨_,rfl,.int (by rw[aE])⟩,aH,trivial⟩) ?_
  rintro⟨j,size⟩ ⟨hj,hsize⟩;simp only at hj hsize ⊢;have bsz:=hs (kids.take j);have btk:(kids.take j).length<=65536:=by simp;omega
  ((conv=>whnf);repeat(refine Xg ?_;conv=>whnf));refine aO (fun h=>?_) (fun h=>?_)
  ·have hlt:j<kids.length:=by simpa using h
   have e1:(aI kids)[(j:Int).toNat]? = some (.int .i64 kids[j]):=by rw[Rq,bG,Rm hlt];rfl
   obtain⟨q0,q1⟩:=hkids j _ (Rm hlt);have hst:=tP (b:=ss) hlt;generalize kids[j]=q at e1 q0 q1 hst;obtain⟨q,rfl⟩:=R7 q0;have e2:=eat q q0 (by omega);have hq:=hat q;have g2:Nat.blt ((q:Nat):Int).toNat ns.length=true:=Ru (by simp;omega);generalize Go.Ax.d7 ss q=z at e2 hq hst;((conv=>whnf);repeat(refine Xg ?_;conv=>whnf));repeat((first|refine aK g2 ?_|refine aC e1 ?_|refine aC e2 ?_);(conv=>whnf);repeat(refine Xg ?_;conv=>whnf))
   exact .mk (j+1,size+z) (nD [0,1,2,3,4,5,6]) ⟨by simp only;omega,by simp only;rw[hst,hsize];omega⟩
    (aJ _ rfl (mF _ _ _ _) ⟨⟨_,rfl,.ptr 0 0 0 0 rfl⟩,aH,⟨_,rfl,.w64 rfl ⟨by simp only;omega,by simp only;omega⟩⟩,⟨_,rfl,.same _ (.il' (aG _))⟩,aH,⟨_,rfl,.wp⟩,trivial⟩) (by simp only;omega)
  ·have hlt:j=kids.length:=by simp at h;omega
   rw[hlt,SD,←hP] at hsize;subst hsize;((conv=>whnf);repeat(refine Xg ?_;conv=>whnf));repeat((first|refine aK g1 ?_|refine aC f3 ?_|refine aC (f4 _) ?_|refine aC f2' ?_|refine aB.2 ?_|refine aD ?_);(conv=>whnf);repeat(refine Xg ?_;conv=>whnf))
   rw[←hd1];clear hd1;cases d1 with
   | true=>
    ((conv=>whnf);repeat(refine Xg ?_;conv=>whnf));exact fin' _ _ rfl rfl
   | false=>
    ((conv=>whnf);repeat(refine Xg ?_;conv=>whnf));exact fin' _ _ rfl rfl
 ·rw[Rp (by decide),Rp (by decide),Rp (by decide)] at hP;((conv=>whnf);repeat(refine Xg ?_;conv=>whnf));refine a7.at bC (fun p:Nat × Int=>p.1<=kids.length/\p.2=max 1 (cR ss ((kids.take p.1).drop 1)))
   (fun p=>⟨[(0,.ptr 0 0 0),(1,.int .i64 i),(5,.ip (bU ⟨4,name,lo,hi',ws,lbs,vals,kids,.mk vk vn vs vks⟩)),(6,.int .i64 p.2),(67,.il 1 (aI kids)),(68,.int .i64 kids.length),(69,.int .i64 p.1)],Ep ns (ls.set i len) ss kn [],7,112⟩) (fun p=>kids.length-p.1) (0,1) (nD [0,1,2,3,4,5,6]) ⟨by simp,by simp[cR];omega⟩
   (aJ _ rfl (jI rfl rfl rfl rfl rfl rfl rfl rfl rfl rfl (by rw[h0];exact(mM _ _ _).symm) rfl rfl rfl rfl rfl trivial) ⟨⟨_,rfl,.ptr 0 0 0 0 rfl⟩,aH,⟨_,rfl,.same _ (.ip' hxn)⟩,aH,⟨_,rfl,.same _ (.il' (aG _))⟩,⟨_,rfl,.int (by rw[aE])⟩,aH,trivial⟩) ?_
  rintro⟨j,size⟩ ⟨hj,hsize⟩;simp only at hj hsize ⊢;have bsz:=hm ((kids.take j).drop 1);((conv=>whnf);repeat(refine Xg ?_;conv=>whnf));refine aO (fun h=>?_) (fun h=>?_)
  ·have hlt:j<kids.length:=by simpa using h
   have e1:(aI kids)[(j:Int).toNat]? = some (.int .i64 kids[j]):=by rw[Rq,bG,Rm hlt];rfl
   obtain⟨q0,q1⟩:=hkids j _ (Rm hlt);have hM:=hM j hlt;have eg:kids.getD j 0=kids[j]:=by rw[Rn,Rm hlt];rfl
   rw[eg] at hM;have hM:0<j->cR ss ((kids.take (j+1)).drop 1)=max (cR ss ((kids.take j).drop 1)) (Go.Ax.d7 ss kids[j]):=fun hj=>by rw[oC hlt hj]
   generalize kids[j]=q at e1 q0 q1 hM;obtain⟨q,rfl⟩:=R7 q0;have e2:=eat q q0 (by omega);have hq:=hat q;have g2:Nat.blt ((q:Nat):Int).toNat ns.length=true:=Ru (by simp;omega);generalize Go.Ax.d7 ss q=z at e2 hq hM;((conv=>whnf);repeat(refine Xg ?_;conv=>whnf));repeat((first|refine aK g2 ?_|refine aC e1 ?_|refine aC e2 ?_);(conv=>whnf);repeat(refine Xg ?_;conv=>whnf))
   by_cases k0:0<j
   ·have d0:decide ((j:Int)>0)=true:=by simp;omega
    rw[d0];((conv=>whnf);repeat(refine Xg ?_;conv=>whnf));repeat((first|refine aK g2 ?_|refine aC e1 ?_|refine aC e2 ?_);(conv=>whnf);repeat(refine Xg ?_;conv=>whnf))
    exact .mk (j+1,max size z) (nD [0,1,2,3,4,5,6]) ⟨by simp only;omega,by simp only;rw[hM k0,hsize];omega⟩
     (aJ _ rfl (mF _ _ _ _) ⟨⟨_,rfl,.ptr 0 0 0 0 rfl⟩,aH,⟨_,rfl,.same _ (.ip' hxn)⟩,⟨_,rfl,.int (by simp only;split<;>omega)⟩,⟨_,rfl,.same _ (.il' (aG _))⟩,aH,⟨_,rfl,.wp⟩,trivial⟩) (by simp only;omega)
   ·have d0:decide ((j:Int)>0)=false:=by simp;omega
    rw[d0];((conv=>whnf);repeat(refine Xg ?_;conv=>whnf));repeat((first|refine aK g2 ?_|refine aC e1 ?_|refine aC e2 ?_);(conv=>whnf);repeat(refine Xg ?_;conv=>whnf))
    have j0:j=0:=by omega
    subst j0;exact .mk (1,size) (nD [0,1,2,3,4,5,6]) ⟨by simp only;omega,by simp only;rw[hsize];simp[UN]⟩
     (aJ _ rfl (mF _ _ _ _) ⟨⟨_,rfl,.ptr 0 0 0 0 rfl⟩,aH,⟨_,rfl,.same _ (.ip' hxn)⟩,aH,⟨_,rfl,.same _ (.il' (aG _))⟩,aH,⟨_,rfl,.wp⟩,trivial⟩) (by simp only;omega)
  ·have hlt:j=kids.length:=by simp at h;omega
   rw[hlt,SD,show cR ss (kids.drop 1)=cR ss (dX ⟨4,name,lo,hi',ws,lbs,vals,kids,.mk vk vn vs vks⟩) from rfl,←hP] at hsize;subst hsize;((conv=>whnf);repeat(refine Xg ?_;conv=>whnf));repeat((first|refine aK g1 ?_|refine aC f3 ?_|refine aC (f4 _) ?_|refine aC f2' ?_|refine aB.2 ?_|refine aD ?_);(conv=>whnf);repeat(refine Xg ?_;conv=>whnf))
   rw[←hd1];clear hd1;cases d1 with
   | true=>
    ((conv=>whnf);repeat(refine Xg ?_;conv=>whnf));exact fin' _ _ rfl rfl
   | false=>
    ((conv=>whnf);repeat(refine Xg ?_;conv=>whnf));exact fin' _ _ rfl rfl
theorem OT{ns:List Nd}{n:Nat}(h:gW ns n)(x:Nd)(hvl:x.values.length<=1000000)(hk4:x.kind=4->∃k:Nat,x.kids[0]? = some (k:Int)/\k<n)(ls ss:List Int)(kn:List Bool)(hk:kn.length=ns.length) :
  aM prog [] 125 [.ptr 0 0 0,.ip (bU x)] (Ep ns ls ss kn []) 7 fun r m k=>∃kn',kn'.length=ns.length /\
   r = .int .i64 (if x.kind=4 then(if (c9 (aP ns) (x.kids.getD 0 0)).many=true then 4 else if dU (c9 (aP ns) (x.kids.getD 0 0)).vals x.values=true then 0 else 1) else 0)/\m=Ep ns ls ss kn' []/\k=7:=by
 have hxn:=aW x;generalize hres:(if x.kind=4 then(if (c9 (aP ns) (x.kids.getD 0 0)).many=true then 4 else if dU (c9 (aP ns) (x.kids.getD 0 0)).vals x.values=true then 0 else 1) else(0:Int))=res;have fin:∀(kn':List Bool) (mem:aS) (nx:Nat) (c:Int),kn'.length=ns.length->c=res->cH mem (nD [0,1,2,3,4,5,6]) (Ep ns ls ss kn' []) ->
   lE 7 (fun r m k=>∃kn',kn'.length=ns.length/\r = .int .i64 res/\m=Ep ns ls ss kn' []/\k=7) (.int .i64 c) mem nx:=by
  rintro kn' mem nx c hk' rfl hM;exact bK (n':=7) (m':=Ep ns ls ss kn' []) (nD [0,1,2,3,4,5,6]) rfl hM (.same _ nn) ⟨kn',hk',rfl,rfl,rfl⟩
 by_cases e4:x.kind=4
 ·obtain⟨k,hkg,hkn⟩:=hk4 e4;have eg:x.kids.getD 0 0=(k:Int):=by rw[Rn,hkg];rfl
  rw[Rx e4,eg] at hres;have ek:(aI x.kids)[(0:Int).toNat]? = some (.int .i64 k):=by rw[show (0:Int).toNat=0 from rfl,bG,hkg];rfl
  have hO:=Rh h k hkn kn hk;have hv:=h.vals (k:=k) (by omega) (by omega);obtain⟨lk,hlk⟩:∃lk,lk=c9 (aP ns) k:=⟨_,rfl⟩
  unfold sQ at hO;rw[←hlk] at hv hres;simp only[←hlk] at hO;obtain⟨lv,lm⟩:=lk;simp only at hv hres;have hE:=fun l (hl:l.length<=1024) hok=>Gr l x.values (by omega) (by omega) hok
  obtain⟨kind,name,lo,hi',ws,lbs,vals,kids,⟨vk,vn,vs,vks⟩⟩:=x;simp only at e4 ek hvl hE hres;subst e4;refine aL bC func125 rfl ?_;((conv=>whnf);repeat(refine Xg ?_;conv=>whnf));repeat((first|refine aC ek ?_|refine aD ?_);(conv=>whnf);repeat(refine Xg ?_;conv=>whnf))
  refine aM.useR bC [(3,0),(4,1),(5,2),(6,3)] hO (by rfl) (.cons (.ptr 3 0 0 0 rfl) (.s .nil)) ⟨⟨3,_,rfl,rfl,CN rfl rfl rfl⟩,⟨4,_,rfl,rfl,.same (hZ _)⟩,⟨5,_,rfl,rfl,.same (xO _ _)⟩,⟨6,_,rfl,rfl,.same (uU _ _)⟩,trivial⟩ (by rfl) ?_;rintro r m nn' ⟨kn',hk',rfl,rfl,rfl⟩;refine⟨[(3,.row 127 4 [.agg [.il 12 (aR ns),.sl 4 0 ns.length,.sl 5 0 ns.length,.sl 6 0 ns.length]]),(4,.row 4 1 (kB kn')),(5,.row 58 1 (lB (aP ns) kn')),(6,.row 4 1 (mB (aP ns) kn'))],nn,⟨⟨0,_,rfl,rfl,CN rfl rfl rfl⟩,⟨1,_,rfl,rfl,.same (hZ _)⟩,⟨2,_,rfl,rfl,.same (xO _ _)⟩,⟨3,_,rfl,rfl,.same (uU _ _)⟩,trivial⟩,by rfl, ?_⟩;cases lm with
  | true=>
   ((conv=>whnf);repeat(refine Xg ?_;conv=>whnf));refine fin kn' _ _ _ hk' (by rw[←hres];simp) ?_;exact jI rfl rfl rfl rfl rfl rfl rfl rfl rfl rfl rfl rfl rfl rfl rfl rfl trivial
  | false=>
   have hE:=hE lv hv.1 hv.2;obtain⟨sv,hsv⟩:∃sv,sv=dU lv vals:=⟨_,rfl⟩
   rw[←hsv] at hE hres;((conv=>whnf);repeat(refine Xg ?_;conv=>whnf));refine hE.go ?_;cases sv with
   | true=>
    ((conv=>whnf);repeat(refine Xg ?_;conv=>whnf));refine fin kn' _ _ _ hk' (by rw[←hres];simp) ?_;exact jI rfl rfl rfl rfl rfl rfl rfl rfl rfl rfl rfl rfl rfl rfl rfl rfl trivial
   | false=>
    ((conv=>whnf);repeat(refine Xg ?_;conv=>whnf));refine fin kn' _ _ _ hk' (by rw[←hres];simp) ?_;exact jI rfl rfl rfl rfl rfl rfl rfl rfl rfl rfl rfl rfl rfl rfl rfl rfl trivial
 ·rw[Rp e4] at hres;obtain⟨kind,name,lo,hi',ws,lbs,vals,kids,⟨vk,vn,vs,vks⟩⟩:=x;simp only at e4;refine aL bC func125 rfl ?_;((conv=>whnf);repeat(refine Xg ?_;conv=>whnf));refine aO (fun _=>?_) (fun h=>absurd (by simpa using h) e4);((conv=>whnf);repeat(refine Xg ?_;conv=>whnf));exact fin kn _ _ _ hk hres (mF _ _ _ _)
set_option maxHeartbeats 8000000
theorem PU(n:Nat):kB (List.replicate n false)=List.replicate n (.bool false):=by simp[kB]
theorem PS(L:List gR):lB L (List.replicate L.length false)=encLs (List.replicate L.length []):=by
 unfold lB encLs
 induction L with
 | nil=>rfl
 | cons a L ih=>simpa[Ss] using ih
theorem Od(L:List gR):mB L (List.replicate L.length false)=List.replicate L.length (.bool false):=by
 unfold mB
 induction L with
 | nil=>rfl
 | cons a L ih=>simpa[Ss] using ih
theorem FP(ns:List Nd)(hl:ns.length<=4096):aM prog [] 82 [.agg [.il 12 (aR ns)]] [] 0 fun r m k=>r = .ptr 0 0 0/\m=sM ns (List.replicate ns.length false)/\k=4:=by
 have hlen:(aR ns).length=ns.length:=bD ns;refine aL bC func82 rfl ?_;((conv=>whnf);repeat(refine Xg ?_;conv=>whnf));rw[hlen];((conv=>whnf);repeat(refine Xg ?_;conv=>whnf));refine aK (bJ rfl (bJ rfl (bJ rfl (bJ (Rs (by omega)) (bJ (Rs (by omega)) (bJ (n8 rfl (by omega) (by omega)) (Rs (by omega)))))))) ?_;((conv=>whnf);repeat(refine Xg ?_;conv=>whnf));repeat((first|refine aK (bJ rfl (bJ rfl (bJ rfl (bJ (Rs (by omega)) (bJ (Rs (by omega)) (bJ (n8 rfl (by omega) (by omega)) (Rs (by omega)))))))) ?_|refine aD ?_);(conv=>whnf);repeat(refine Xg ?_;conv=>whnf))
 have e:((ns.length:Nat):Int).toNat=ns.length:=by simp
 rw[e];have hL:(aP ns).length=ns.length:=eB ns;have e2:=PS (aP ns);have e3:=Od (aP ns);rw[hL] at e2 e3;refine bK (n':=4) (m':=sM ns (List.replicate ns.length false)) [(10,0),(4,1),(6,2),(8,3)] rfl ⟨⟨10,_,rfl,rfl,CN rfl rfl rfl⟩,⟨4,_,rfl,rfl,.eq (hZ _) (PU _).symm⟩,⟨6,_,rfl,rfl,by rw[e2];exact CA _⟩,⟨8,_,rfl,rfl,.eq (uU _ _) e3.symm⟩,trivial⟩ (.ptr 10 0 0 0 rfl) ⟨rfl,rfl,rfl⟩
structure Px(ns:List Nd):Prop where
 ok:∀x∈ns,rL x
 val:∀x∈ns,bH x.value<=1048576
 vals:∀x∈ns,∀v∈x.values,bH v<=1048576
 vlen:∀x∈ns,x.values.length<=1000000
 klen:∀x∈ns,x.kids.length<=65536
def uW(l:List Int)(n:Nat):List Int:=l++List.replicate (n-l.length) 0
theorem nX{l:List Int}{n:Nat}(h:l.length<=n):(uW l n).length=n:=by simp[uW];omega
theorem Ee{l:List Int}{n:Nat}(y:Int)(h:l.length<n):(uW l n).set l.length y=uW (l++[y]) n:=by
 unfold uW;rw[TW _ _ (R2 _),Tu];obtain⟨m,hm⟩:∃m,n-l.length=m+1:=⟨n-l.length-1,by omega⟩
 rw[hm,Ss,UF,Ro,SQ,show n-(l.length+1)=m by omega];simp
theorem EI{l:List Int}{n:Nat}{k:Int}(h0:0<=k)(h1:k<l.length):Go.Ax.d7 (uW l n) k=Go.Ax.d7 l k:=H8 h0 h1
theorem Dz{l:List Int}{n:Nat}(h:∀y∈l,0<=y/\y<=1024):∀y∈uW l n,0<=y/\y<=1024:=by
 intro y hy;rcases R5.1 hy with hy|hy
 ·exact h y hy
 ·have:=TM hy;omega
theorem Eh{i:Int}{x:Nd}(h:p8 x=false):cV i x=false:=by
 cases e:cV i x with
 | false=>rfl
 | true=>
  unfold cV at e;simp only[Rr] at e;have:p8 x=true:=by
   unfold p8;rw[e.1.1.1.1.1.1];simpa using e.1.1.1.1.1.2
  rw[this] at h;cases h
theorem Df{i:Int}{x:Nd}(h:cV i x=false):fE i x=1:=by unfold fE;rw[Rx h]
theorem K5{i:Int}{x:Nd}(h:cV i x=true)(h2:eQ (oI x)≠0):fE i x=eQ (oI x):=by unfold fE;rw[Rp (by rw[h];simp),Rx h2]
theorem K1{i:Int}{x:Nd}(h:cV i x=true)(h2:eQ (oI x)=0)(h3:dW x=false):fE i x=5:=by unfold fE;rw[Rp (by rw[h];simp),Rp (by omega),Rx h3]
theorem JM{i:Int}{x:Nd}(h:cV i x=true)(h2:eQ (oI x)=0)(h3:dW x=true):fE i x=0:=by unfold fE;rw[Rp (by rw[h];simp),Rp (by omega),Rp (by rw[h3];simp)]
theorem tL{b:List Nd}{ls ss:List Int}{x:Nd}{e:Int}(h:fE b.length x=e)(he:e≠0):gJ b ls ss x=e:=by unfold gJ;rw[Rx (by rw[h];exact he),h]
theorem LO{b:List Nd}{ls ss:List Int}{x:Nd}(h:fE b.length x=0)(h2:256<eU ls x∨1024<jY ss x):gJ b ls ss x=4:=by unfold gJ;rw[Rp (by omega),Rx h2]
theorem Lt{b:List Nd}{ls ss:List Int}{x:Nd}(h:fE b.length x=0)(h2:¬(256<eU ls x∨1024<jY ss x)):gJ b ls ss x=if x.kind=4 then e8 b x else 0:=by unfold gJ;rw[Rp (by omega),Rp h2]
theorem O7(ns:List Nd)(h:Px ns):a8 prog [] 104 [.agg [.il 12 (aR ns)]] (.int .i64 (cP ns)):=by
 have hlen:(aR ns).length=ns.length:=bD ns;refine aL bC func104 rfl ?_;((conv=>whnf);repeat(refine Xg ?_;conv=>whnf));rw[hlen];refine aO (fun hb=>?_) (fun hb=>?_)
 ·have h1:4096<ns.length:=by simp at hb;omega
  have:cP ns=4:=by unfold cP;rw[Rx h1]
  rw[this];((conv=>whnf);repeat(refine Xg ?_;conv=>whnf));exact aA nn ⟨rfl,rfl,rfl⟩
 ·have h1:ns.length<=4096:=by simp at hb;omega
  have:cP ns=b9 [] ns:=by unfold cP;rw[Rp (by omega)]
  rw[this];generalize hres:b9 [] ns=res;have hN:=FP ns h1;((conv=>whnf);repeat(refine Xg ?_;conv=>whnf));rw[hlen];((conv=>whnf);repeat(refine Xg ?_;conv=>whnf));repeat((first|refine aK (bJ rfl (bJ rfl (bJ rfl (bJ (Rs (by omega)) (bJ (Rs (by omega)) (bJ (n8 rfl (by omega) (by omega)) (Rs (by omega)))))))) ?_|refine aD ?_);(conv=>whnf);repeat(refine Xg ?_;conv=>whnf))
  refine aM.useN bC [] hN rfl (.same (.cons (.agg' (.cons (.il' (aQ _)) .nil)) .nil)) trivial rfl ?_;rintro r m k ⟨rfl,rfl,rfl⟩;refine⟨[(0,16),(1,17),(2,18),(3,19)],.ptr 16 0 0,[(16,.row 127 4 [.agg [.il 12 (aR ns),.sl 17 0 ns.length,.sl 18 0 ns.length,.sl 19 0 ns.length]]),(17,.row 4 1 (kB (List.replicate ns.length false))),(18,.row 58 1 (lB (aP ns) (List.replicate ns.length false))),(19,.row 4 1 (mB (aP ns) (List.replicate ns.length false)))],20,
   .ptr 0 16 0 0 rfl,⟨⟨0,_,rfl,rfl,CN rfl rfl rfl⟩,⟨1,_,rfl,rfl,.same (hZ _)⟩,⟨2,_,rfl,rfl,.same (xO _ _)⟩,⟨3,_,rfl,rfl,.same (uU _ _)⟩,trivial⟩,rfl, ?_⟩
  ((conv=>whnf);repeat(refine Xg ?_;conv=>whnf));repeat(refine aD ?_;(conv=>whnf);repeat(refine Xg ?_;conv=>whnf))
  have e:((ns.length:Nat):Int).toNat=ns.length:=by simp
  rw[hlen,e];refine a7.at bC (fun p:Nat × List Bool=>p.1<=ns.length/\p.2.length=ns.length/\b9 [] (ns.take p.1)=0)
   (fun p=>⟨[(1,.ptr 7 0 0),(3,.ptr 0 0 0),(28,.int .i64 ns.length),(29,.int .i64 p.1)],Ep ns (uW (aX (ns.take p.1)) ns.length) (uW (cM (ns.take p.1)) ns.length) p.2 [(7,.row 44 1 [.agg [.il 12 (aR ns)]])],8,64⟩)
   (fun p=>ns.length-p.1) (0,List.replicate ns.length false) [(14,0),(6,1),(10,2),(16,3),(17,4),(18,5),(19,6),(0,7)] ⟨by simp,by simp,rfl⟩
   (aJ _ rfl ⟨⟨14,_,rfl,rfl,QL rfl rfl rfl⟩,⟨6,_,rfl,rfl,.eq (aG _) (by simp[uW,aX,aI])⟩,⟨10,_,rfl,rfl,.eq (aG _) (by simp[uW,cM,aI])⟩,⟨16,_,rfl,rfl,CN rfl rfl rfl⟩,⟨17,_,rfl,rfl,.same (hZ _)⟩,⟨18,_,rfl,rfl,.same (xO _ _)⟩,⟨19,_,rfl,rfl,.same (uU _ _)⟩,⟨0,_,rfl,rfl,.same (.cons (.agg' (.cons (.il' (aQ _)) .nil)) .nil)⟩,trivial⟩
    ⟨⟨_,rfl,.ptr 0 7 0 0 rfl⟩,⟨_,rfl,.ptr 14 0 0 0 rfl⟩,aH,aH,trivial⟩) ?_
  rintro⟨i,kn⟩ ⟨hi,hk,hv⟩;simp only at hi hk hv ⊢;((conv=>whnf);repeat(refine Xg ?_;conv=>whnf));refine aO (fun hb2=>?_) (fun hb2=>?_)
  ·have hil:i<ns.length:=by simpa using hb2
   obtain⟨x,hx⟩:∃x,ns[i]? = some x:=⟨ns[i],Rm hil⟩
   have hxe:=(Rt.1 hx).2;have hxm:=R3 hx;have ex:(aR ns)[((i:Nat):Int).toNat]? = some (bU x):=by simp[nJ,hx]
   have hxn:=aW x;have hti:(ns.take i).length=i:=by rw[SX];omega
   have hll:(aX (ns.take i)).length=i:=by rw[eY,hti]
   have hsl:(cM (ns.take i)).length=i:=by rw[i5,hti]
   have hsplit:ns=ns.take i++x::ns.drop (i+1):=by rw[←hxe];simp
   have hstop:∀e:Int,gJ (ns.take i) (aX (ns.take i)) (cM (ns.take i)) x=e->e≠0->e=res:=fun e h1 h2=>by
    rw[←hres,hsplit,s9 hv (by rw[h1];exact h2),h1]
   have hnext:ns.take (i+1)=ns.take i++[x]:=by rw[Rv hil,hxe]
   have hgo:gJ (ns.take i) (aX (ns.take i)) (cM (ns.take i)) x=0->b9 [] (ns.take (i+1))=0:=fun h1=>by
    rw[hnext,fJ [] _ _ hv];exact h1
   have hC:=OK x (h.ok x hxm);have hSh:=NG ns i x (by omega) hx (h.ok x hxm) (h.vlen x hxm);have hPa:=PD x (h.ok x hxm) (h.val x hxm) (h.vals x hxm);have hRa:=PJ x (h.ok x hxm);((conv=>whnf);repeat(refine Xg ?_;conv=>whnf));repeat(refine aC ex ?_;(conv=>whnf);repeat(refine Xg ?_;conv=>whnf))
   refine hC.go ?_ (.cons (.ip' hxn) .nil);cases hc:p8 x with
   | false=>
    ((conv=>whnf);repeat(refine Xg ?_;conv=>whnf));refine aA nn ⟨?_,rfl,rfl⟩;rw[hstop 1 (tL (Df (Eh hc)) (by omega)) (by omega)]
   | true=>
    have hSh:=hSh hc;have hcc:iL [] [] [.il 12 (aR ns),.sl 1 0 ns.length,.sl 2 0 ns.length,.ptr 3 0 0] [.il 12 (aR ns),.junk,.junk,.junk]:=.cons (.same _ (.il' (aQ _))) (.cons (.junk _) (.cons (.junk _) (.cons (.junk _) .nil)));((conv=>whnf);repeat(refine Xg ?_;conv=>whnf));refine hSh.lend bC (.cons (.fzp 0 0 0 158 4 _ _ _ rfl rfl rfl (R2 _) fun k c c' h1 h2=>by
     rw[SF] at h1;exact(iL.cons (.same _ (.il' (aQ _))) (.cons (.junk _) (.cons (.junk _) (.cons (.junk _) .nil)))).2 k c c' h1 h2) (.s .nil)) (.bool _) ?_
    clear hcc;cases hf:cV i x with
    | false=>
     ((conv=>whnf);repeat(refine Xg ?_;conv=>whnf));refine aA nn ⟨?_,rfl,rfl⟩;rw[hstop 1 (tL (by rw[hti];exact Df hf) (by omega)) (by omega)]
    | true=>
     have hk0:x.kind=0->x.values=[]:=fun e0=>by
      unfold cV iI at hf;simp only[Rr,Sv,SP] at hf;rcases hf.1.1.1.1.1.1.1.2 with h'|h'
      ·omega
      ·exact S1.1 h'
     have hPa:=hPa hk0;((conv=>whnf);repeat(refine Xg ?_;conv=>whnf));refine hPa.go ?_ (.cons (.ip' hxn) .nil);generalize hfe:eQ (oI x)=fe;((conv=>whnf);repeat(refine Xg ?_;conv=>whnf));refine aO (fun hb3=>?_) (fun hb3=>?_)
     ·have h0:fe≠0:=by simpa using hb3
      ((conv=>whnf);repeat(refine Xg ?_;conv=>whnf));refine aA nn ⟨?_,rfl,rfl⟩;rw[hstop fe (tL (by rw[hti,K5 hf (by rw[hfe];exact h0),hfe]) h0) h0]
     ·have h0:fe=0:=by simpa using hb3
      rw[h0] at hfe;((conv=>whnf);repeat(refine Xg ?_;conv=>whnf));refine hRa.go ?_ (.cons (.ip' hxn) .nil);cases hn:dW x with
      | false=>
       ((conv=>whnf);repeat(refine Xg ?_;conv=>whnf));refine aA nn ⟨?_,rfl,rfl⟩;rw[hstop 5 (tL (by rw[hti];exact K1 hf hfe hn) (by omega)) (by omega)]
      | true=>
       have hz:fE (ns.take i).length x=0:=by rw[hti];exact JM hf hfe hn
       have hnode:=kQ (i:=i) (x:=x) (by rw[←hti];exact hz);have hlens:=g6 _ hv;have hS:=Oc i x hx (h.ok x hxm) (h.val x hxm) (h.klen x hxm) hnode.kids hnode.kind (fun e4=>by have:=hnode.bind (by have:=hnode.kind;omega);omega) (uW (aX (ns.take i)) ns.length) (uW (cM (ns.take i)) ns.length) kn (nX (by omega)) (nX (by omega)) (Dz hlens.1) (Dz hlens.2);have hkm:∀k∈x.kids,0<=k/\k<i:=fun k hk=>by
        obtain⟨j,hj⟩:=Sb hk;exact hnode.kids j k hj
       rw[vK (b:=aX (ns.take i)) (fun k hk=>EI (hkm k hk).1 (by rw[hll];exact(hkm k hk).2)) (fun e4=>by have:=hnode.bind e4;omega) hnode.kind,
        G0 (b:=cM (ns.take i)) (fun k hk=>EI (hkm k hk).1 (by rw[hsl];exact(hkm k hk).2))] at hS
       ((conv=>whnf);repeat(refine Xg ?_;conv=>whnf));refine aM.useI bC [0,1,2,3,4,5,6] hS (by rfl) (.cons (.ptr 0 0 0 0 rfl) (.s .nil)) (mF _ _ _ _) (by rfl) ?_;rintro r m k' ⟨rfl,rfl,rfl⟩;refine⟨nn,mF _ _ _ _,by rfl, ?_⟩;cases hfit:(decide (eU (aX (ns.take i)) x<=256) && decide (wO (cM (ns.take i)) x<=1024)) with
       | false=>
        have hbig:256<eU (aX (ns.take i)) x∨1024<jY (cM (ns.take i)) x:=by
         simp only[TV,TD] at hfit;rw[IM] at hfit;omega
        ((conv=>whnf);repeat(refine Xg ?_;conv=>whnf));refine aA nn ⟨?_,rfl,rfl⟩;rw[hstop 4 (LO hz hbig) (by omega)]
       | true=>
        have hfit':¬(256<eU (aX (ns.take i)) x∨1024<jY (cM (ns.take i)) x):=by
         simp only[Rr,SP] at hfit;rw[IM] at hfit;omega
        have hstep:=Lt hz hfit';have hso:gW ns i:=⟨hi,h1,h.ok,hv⟩
        have hkid:x.kind=4->∃k:Nat,x.kids[0]? = some (k:Int)/\k<i:=fun e4=>by
         have hl:=hnode.bind e4;obtain⟨k0,k1⟩:=hnode.kids 0 x.kids[0] (Rm (by omega));obtain⟨k,hk⟩:=R7 k0;exact⟨k,by rw[Rm (by omega),hk],by omega⟩
        have hb:x.kind=4->e8 (ns.take i) x=(if (c9 (aP ns) (x.kids.getD 0 0)).many=true then 4 else if dU (c9 (aP ns) (x.kids.getD 0 0)).vals x.values=true then 0 else 1):=fun e4=>by
         obtain⟨k,hk,hki⟩:=hkid e4;have eg:x.kids.getD 0 0=(k:Int):=by rw[Rn,hk];rfl
         unfold e8;rw[eg,To,Tm (by simp;omega),j8 (by omega) (by simp;omega) (by simp;omega)]
        have hT:=OT hso x (h.vlen x hxm) hkid ((uW (aX (ns.take i)) ns.length).set i (eU (aX (ns.take i)) x)) ((uW (cM (ns.take i)) ns.length).set i (wO (cM (ns.take i)) x)) kn hk;have hstep:gJ (ns.take i) (aX (ns.take i)) (cM (ns.take i)) x=(if x.kind=4 then(if (c9 (aP ns) (x.kids.getD 0 0)).many=true then 4 else if dU (c9 (aP ns) (x.kids.getD 0 0)).vals x.values=true then 0 else 1) else 0):=by
         rw[hstep];by_cases e4:x.kind=4
         ·rw[Rx e4,Rx e4,hb e4]
         ·rw[Rp e4,Rp e4]
        rw[←hstep] at hT;((conv=>whnf);repeat(refine Xg ?_;conv=>whnf));refine aM.useI bC [0,1,2,3,4,5,6] hT (by rfl) (.cons (.ptr 0 0 0 0 rfl) (.cons (.same _ (.ip' hxn)) .nil)) (mF _ _ _ _) (by rfl) ?_;rintro r m k' ⟨kn',hk',rfl,rfl,rfl⟩;refine⟨nn,mF _ _ _ _,by rfl, ?_⟩;generalize hse:gJ (ns.take i) (aX (ns.take i)) (cM (ns.take i)) x=se;((conv=>whnf);repeat(refine Xg ?_;conv=>whnf));refine aO (fun hb4=>?_) (fun hb4=>?_)
        ·have h0:se≠0:=by simpa using hb4
         ((conv=>whnf);repeat(refine Xg ?_;conv=>whnf));refine aA nn ⟨?_,rfl,rfl⟩;rw[hstop se hse h0]
        ·have h0:se=0:=by simpa using hb4
         rw[h0] at hse;have hP:=Mj (fun y hy=>h.ok y (Se hy)) hv hse;have e1:(uW (aX (ns.take i)) ns.length).set i (eU (aX (ns.take i)) x)=uW (aX (ns.take (i+1))) ns.length:=by
          rw[hnext,gC]
          conv=>lhs;rw[←hll]
          rw[hll];have:=Ee (l:=aX (ns.take i)) (n:=ns.length) (eU (aX (ns.take i)) x) (by omega);rw[hll] at this;exact this
         have e2:(uW (cM (ns.take i)) ns.length).set i (wO (cM (ns.take i)) x)=uW (cM (ns.take (i+1))) ns.length:=by
          rw[hP,hnext,j7];have:=Ee (l:=cM (ns.take i)) (n:=ns.length) (jY (cM (ns.take i)) x) (by omega);rw[hsl] at this;exact this
         rw[e1,e2];((conv=>whnf);repeat(refine Xg ?_;conv=>whnf));exact .mk (i+1,kn') (nD [0,1,2,3,4,5,6,7]) ⟨by simp only;omega,hk',hgo hse⟩
          (aJ _ rfl (jI rfl rfl rfl rfl rfl rfl rfl rfl rfl rfl rfl rfl rfl rfl rfl rfl ⟨⟨7,_,rfl,rfl,.same (.cons (.agg' (.cons (.il' (aQ _)) .nil)) .nil)⟩,trivial⟩) ⟨⟨_,rfl,.ptr 7 7 0 0 rfl⟩,⟨_,rfl,.ptr 0 0 0 0 rfl⟩,aH,⟨_,rfl,.wp⟩,trivial⟩) (by simp only;omega)
  ·have hil:i=ns.length:=by simp at hb2;omega
   rw[hil,SD,hres] at hv;subst hv;((conv=>whnf);repeat(refine Xg ?_;conv=>whnf));exact aA nn ⟨rfl,rfl,rfl⟩
set_option maxHeartbeats 16000000
def iX(l:List bB)(n:Nat):List bB:=l++List.replicate (n-l.length) vZ
theorem rS{l:List bB}{n:Nat}(h:l.length<=n):(iX l n).length=n:=by simp[iX];omega
theorem FQ{l:List bB}{n:Nat}(y:bB)(h:l.length<n):(iX l n).set l.length y=iX (l++[y]) n:=by
 unfold iX;rw[TW _ _ (R2 _),Tu];obtain⟨m,hm⟩:∃m,n-l.length=m+1:=⟨n-l.length-1,by omega⟩
 rw[hm,Ss,UF,Ro,SQ,show n-(l.length+1)=m by omega];simp
theorem C0{l:List bB}{n:Nat}(h:l.length<n):iX (l++[vZ]) n=iX l n:=by
 unfold iX;obtain⟨m,hm⟩:∃m,n-l.length=m+1:=⟨n-l.length-1,by omega⟩
 rw[hm,Ss,Ro,SQ,show n-(l.length+1)=m by omega];simp
theorem LK{l:List bB}{n k:Nat}(h:k<l.length):(aT (iX l n))[0+k]? = some (bT (l.getD k vZ)):=by
 rw[SF,i6];unfold iX;rw[SG h,Rn,Rm h];rfl
theorem zJ(l:List bB)(i:Nat)(y:bB):aT (l.set i y)=(aT l).set i (bT y):=by simp[fK,Ti]
def nM(A:List Nd)(ls:List Int)(fs:List bB)(rest:aS):aS:=
 (0,.row 118 3 [.agg [.ip (.agg [.il 12 (aR A)]),.sl 1 0 A.length,.sl 2 0 A.length]])::(1,.row 3 1 (aI ls))::(2,.row 60 4 (aT fs))::rest
theorem mY(A:List Nd):NN (.ip (.agg [.il 12 (aR A)])):=.ip' (.agg' (.cons (.il' (aQ A)) .nil))
theorem nE{mem:aS}{σ:List (Nat × Nat)}{A:List Nd}{ls:List Int}{fs:List bB}{l1 l2:List AV}{a b c:Nat}{sv:AV}{rest:aS}(s0:lk σ a=some 0)(s1:lk σ b=some 1)(s2:lk σ c=some 2)
  (m0:lk mem a=some (.row 118 3 [.agg [sv,.sl b 0 A.length,.sl c 0 A.length]])) (hs:Cv mem σ sv (.ip (.agg [.il 12 (aR A)]))) (m1:lk mem b=some (.row 3 1 l1)) (e1:l1=aI ls) (m2:lk mem c=some (.row 60 4 l2)) (e2:pS mem σ l2 (aT fs))
  (hr:cH mem σ rest):cH mem σ (nM A ls fs rest):=
 ⟨⟨a,_,s0,m0,.cons (.agg (.cons hs (.cons (.slE s1 rfl) (.cons (.slE s2 rfl) .nil)))) .nil⟩,⟨b,_,s1,m1,.eq (aG _) e1⟩,⟨c,_,s2,m2,e2⟩,hr⟩
theorem J6{mem:aS}{σ:List (Nat × Nat)}{id i j:Nat}{t:TypeId}{sz:Nat}{xs:List AV}{x c c' v:AV}(h1:lk mem id=some (.row t sz xs))(h2:lk σ id=none)(h3:xs[i]? = some x)(h4:x.cells[j]? = some c)(h5:v.cells=[c'])(h6:Cv mem σ c c'):Cv mem σ (.ptr id i j) (.ip v):=by
 refine .fzp id i j t sz xs x v h1 h2 h3 ?_ fun k a b ha hb=>?_
 ·have:=(Rt.1 h4).1;rw[h5];simp only[SQ];omega
 ·rw[h5] at hb;cases k with
  | zero=>
   rw[Ta,h4] at ha;cases ha;cases hb;exact h6
  | succ k=>simp at hb
theorem Ie{mem:aS}{σ:List (Nat × Nat)}{x y:AV}(n:Nat)(h:Da mem σ x y):pS mem σ (List.replicate n x) (List.replicate n y):=by
 induction n with
 | zero=>exact .nil
 | succ n ih=>rw[Ss,Ss];exact .cons h ih
theorem C6(n:Nat)(v:bB):aT (List.replicate n v)=List.replicate n (bT v):=by simp[fK]
theorem Qx{A:List Nd}(h:VT A):a8 prog [] 58 [.agg [.il 12 (aR A)]] (wk A):=by
 have hlen:=bD A;have hl1:=h.tin.len;have hN:=FP A (by omega);refine aL bC func58 rfl ?_;((conv=>whnf);repeat(refine Xg ?_;conv=>whnf));rw[hlen];have e:((A.length:Nat):Int).toNat=A.length:=by simp
 repeat((first|refine aK (bJ rfl (bJ rfl (bJ rfl (bJ (Rs (by omega)) (bJ (Rs (by omega)) (bJ (n8 rfl (by omega) (by omega)) (Rs (by omega)))))))) ?_|refine aD ?_|rw[hlen]);(conv=>whnf);repeat(refine Xg ?_;conv=>whnf))
 refine aM.useN bC [] hN rfl (.same (.cons (.agg' (.cons (.il' (aQ _)) .nil)) .nil)) trivial rfl ?_;rintro r m k ⟨rfl,rfl,rfl⟩;refine⟨[(0,14),(1,15),(2,16),(3,17)],.ptr 14 0 0,[(14,.row 127 4 [.agg [.il 12 (aR A),.sl 15 0 A.length,.sl 16 0 A.length,.sl 17 0 A.length]]),(15,.row 4 1 (kB (List.replicate A.length false))),(16,.row 58 1 (lB (aP A) (List.replicate A.length false))),(17,.row 4 1 (mB (aP A) (List.replicate A.length false)))],18,
  .ptr 0 14 0 0 rfl,⟨⟨0,_,rfl,rfl,CN rfl rfl rfl⟩,⟨1,_,rfl,rfl,.same (hZ _)⟩,⟨2,_,rfl,rfl,.same (xO _ _)⟩,⟨3,_,rfl,rfl,.same (uU _ _)⟩,trivial⟩,rfl, ?_⟩
 ((conv=>whnf);repeat(refine Xg ?_;conv=>whnf));repeat((first|refine aK (bJ rfl (bJ rfl (bJ rfl (bJ (Rs (by omega)) (bJ (Rs (by omega)) (bJ (n8 rfl (by omega) (by omega)) (Rs (by omega)))))))) ?_|refine aD ?_|rw[hlen]);(conv=>whnf);repeat(refine Xg ?_;conv=>whnf))
 rw[e];refine a7.at bC (fun i:Nat=>i<=A.length)
  (fun i=>⟨[(1,.ip (.agg [.il 12 (aR A)])),(3,.ptr 0 0 0),(23,.int .i64 A.length),(24,.int .i64 i)],nM A (uW (aX (A.take i)) A.length) (iX (cS (A.take i)) A.length) [],3,127⟩) (fun i=>A.length-i) 0 [(12,0),(6,1),(10,2)] (by omega)
  (aJ _ rfl (nE (a:=12) (b:=6) (c:=10) rfl rfl rfl rfl (J6 (id:=14) rfl rfl rfl rfl rfl (.same _ (.il' (aQ A)))) rfl (by simp[uW,aX,aI]) rfl (by
    have:iX (cS (A.take 0)) A.length=List.replicate A.length vZ:=by simp[iX,cS,I2]
    rw[this,C6];exact Ie _ (sX 0 0 [])) trivial)
   ⟨⟨_,rfl,J6 (id:=0) rfl rfl rfl rfl rfl (.same _ (.il' (aQ A)))⟩,⟨_,rfl,.ptr 12 0 0 0 rfl⟩,aH,aH,trivial⟩) ?_
 intro i hi;have di:decide ((i:Int)<(A.length:Int))=decide (i<A.length):=SB.2 (by omega);by_cases hil:i<A.length
 ·have hx:=dS hil;have hne:=mL hil;have hnn:=aW (aN A i);have hg:=h.node hx;have hok:=h.tin.ok _ (R3 hx);have hkl:=h.tin.klen _ (R3 hx);have hti:(A.take i).length=i:=by rw[SX];omega
  have hll:(aX (A.take i)).length=i:=by rw[eY,hti]
  have hfl:(cS (A.take i)).length=i:=by rw[iV,hti]
  have hkm:=fun(k:Int) (hk:k∈(aN A i).kids)=>fF h hx hk
  have hbi:=fun h4=>h.bind hx h4
  have hkj:∀(j:Nat) (k:Int),(aN A i).kids[j]? = some k->0<=k/\k<i:=fun j k hk=>by
   have:=hkm k (R3 hk);omega
  have hlens:∀y∈aX (A.take i),0<=y/\y<=1024:=fun y hy=>by
   obtain⟨j,hj⟩:=Sb hy;have hj':=(Rt.1 hj).1;have e1:=zK (A:=A) (n:=i) (k:=(j:Int)) (by omega) (by omega) (by omega);have e2:=h.lens0 (j:Int);rw[←e1] at e2;unfold Go.Ax.d7 at e2;rw[Rq,Rn,hj] at e2;exact e2
  have hL:=H6 (uW (aX (A.take i)) A.length) (aN A i) hok (by omega) (Dz hlens) (fun j k hk=>by have:=hkj j k hk;rw[nX (by omega)];omega) (fun h4=>by have:=(hbi (by have:=hg.node.kind;omega)).1;omega) hg.node.kind;have hLe:eU (uW (aX (A.take i)) A.length) (aN A i)=eU (aX (A.take i)) (aN A i):=
   vK (fun k hk=>EI (hkm k hk).1 (by have:=hkm k hk;omega)) (fun h4=>by have:=(hbi h4).1;omega) hg.node.kind
  rw[hLe] at hL;have hLs:aX (A.take (i+1))=aX (A.take i)++[eU (aX (A.take i)) (aN A i)]:=by
   rw[Rv hil,gC];have:=(Rt.1 hx).2;rw[this]
  have hFs:cS (A.take (i+1))=cS (A.take i)++[vR (aX (A.take i)) (cS (A.take i)) (aN A i)]:=by
   rw[Rv hil,tZ];have:=(Rt.1 hx).2;rw[this]
  have hps:=Ee (n:=A.length) (eU (aX (A.take i)) (aN A i)) (show (aX (A.take i)).length<A.length by omega);have hfs:=FQ (n:=A.length) (vR (aX (A.take i)) (cS (A.take i)) (aN A i)) (show (cS (A.take i)).length<A.length by omega);rw[hll,←hLs] at hps;rw[hfl,←hFs] at hfs;have hfg:∀k,k<i->(aT (iX (cS (A.take i)) A.length))[0+k]? = some (bT ((cS (A.take i)).getD k vZ)):=fun k hk=>LK (by omega)
  have hkd:=fun(j:Nat) (hj:j<(aN A i).kids.length)=>h.kid hx hj
  have hmd:=fun(ks:List bB)=>It (aN A i) ks
  have hFN:vR (aX (A.take i)) (cS (A.take i)) (aN A i)=if 0<eU (aX (A.take i)) (aN A i) then vZ else if (aN A i).kind=0 then(aN A i).value else if (aN A i).kind=3 then dJ (aN A i).name ((aN A i).kids.map fun k=>(cS (A.take i)).getD k.toNat vZ) else if (aN A i).kind=4 then(cS (A.take i)).getD (bE (aN A i) 1) vZ else vZ:=rfl
  have hpl:(aI (uW (aX (A.take i)) A.length)).length=A.length:=by rw[aE,nX (by omega)]
  have hpv:(aT (iX (cS (A.take i)) A.length)).length=A.length:=by rw[aF,rS (by omega)]
  have hps1:=mM (uW (aX (A.take i)) A.length) i (eU (aX (A.take i)) (aN A i));have hfs1:=zJ (iX (cS (A.take i)) A.length) i (vR (aX (A.take i)) (cS (A.take i)) (aN A i));rw[hps] at hps1;rw[hfs] at hfs1;have hkind:=hg.node.kind;generalize vR (aX (A.take i)) (cS (A.take i)) (aN A i)=fx at *;generalize eU (aX (A.take i)) (aN A i)=ln at *;generalize aN A i=x at *;obtain⟨kind,name,lo,hi',ws,lbs,vals,kids,⟨vk,vn,vs,vks⟩⟩:=x;simp only at hkm hbi hkj hkd hmd hFN hkind hkl;((conv=>whnf);repeat(refine Xg ?_;conv=>whnf));rw[di,Rs hil];((conv=>whnf);repeat(refine Xg ?_;conv=>whnf));repeat((first|refine aC hne ?_|refine aB.2 ?_|refine aD ?_);(conv=>whnf);repeat(refine Xg ?_;conv=>whnf))
  refine hL.lend bC (.cons (.same _ (.ip' hnn)) (.cons (dT (id:=1) rfl hpl.symm rfl (aG _)) .nil)) (.int _ _) ?_;have g1:Nat.blt ((i:Nat):Int).toNat A.length=true:=Ru (by simp;omega);obtain⟨z,hz⟩:∃z:Int,(aI (uW (aX (A.take i)) A.length))[0+((i:Nat):Int).toNat]? = some (.int .i64 z):=by
   have:i<(uW (aX (A.take i)) A.length).length:=by rw[nX (by omega)];omega
   exact⟨_,by rw[SF,Rq,bG,Rm this];rfl⟩
  have hz2:((aI (uW (aX (A.take i)) A.length)).set (0+((i:Nat):Int).toNat) (.int .i64 ln))[0+((i:Nat):Int).toNat]? = some (.int .i64 ln):=by
   rw[Sn (by rw[hpl];simp;omega)]
  have h0i:0+((i:Nat):Int).toNat=i:=by simp
  ((conv=>whnf);repeat(refine Xg ?_;conv=>whnf));repeat((first|refine aC hne ?_|refine aK g1 ?_|refine aC hz ?_|refine aC hz2 ?_|refine aB.2 ?_|refine aD ?_);(conv=>whnf);repeat(refine Xg ?_;conv=>whnf))
  refine aO (fun hb=>?_) (fun hb=>?_)
  ·have hln:0<ln:=by simpa using hb
   rw[Rx hln] at hFN;((conv=>whnf);repeat(refine Xg ?_;conv=>whnf));have hsk:=C0 (n:=A.length) (show (cS (A.take i)).length<A.length by omega);rw[hFN] at hFs;rw[←hFs] at hsk;exact .mk (i+1) [(0,0),(1,1),(2,2)] (by omega) (aJ _ rfl (nE (a:=0) (b:=1) (c:=2) rfl rfl rfl rfl (.same _ (mY A)) rfl (by rw[h0i,hps1]) rfl (.eq (aV _) (by rw[hsk])) trivial)
    ⟨⟨_,rfl,.same _ (mY A)⟩,⟨_,rfl,.ptr 0 0 0 0 rfl⟩,aH,⟨_,rfl,.wo⟩,trivial⟩) (by omega)
  ·have hln:¬0<ln:=by simpa using hb
   rw[Rp hln] at hFN;obtain⟨z1,z2,z3,z4,hzv⟩:∃a b c d,(aT (iX (cS (A.take i)) A.length))[0+((i:Nat):Int).toNat]? = some (bT (.mk a b c d)):=by
    have:i<(iX (cS (A.take i)) A.length).length:=by rw[rS (by omega)];omega
    obtain⟨⟨a,b,c,d⟩,hv⟩:∃v,v=(iX (cS (A.take i)) A.length)[i]:=⟨_,rfl⟩
    exact⟨a,b,c,d,by rw[SF,Rq,i6,Rm this,hv];rfl⟩
   ((conv=>whnf);repeat(refine Xg ?_;conv=>whnf));by_cases k0:kind=0
   ·subst k0;rw[Rx rfl] at hFN;rw[hFN] at hfs1;((conv=>whnf);repeat(refine Xg ?_;conv=>whnf));repeat((first|refine aC hne ?_|refine aK g1 ?_|refine aC hzv ?_|refine aB.2 ?_|refine aD ?_);(conv=>whnf);repeat(refine Xg ?_;conv=>whnf))
    exact .mk (i+1) [(0,0),(1,1),(2,2)] (by omega) (aJ _ rfl (nE (a:=0) (b:=1) (c:=2) rfl rfl rfl rfl (.same _ (mY A)) rfl (by rw[h0i,hps1]) rfl (.eq (aV _) (by rw[h0i,hfs1];rfl)) trivial)
    ⟨⟨_,rfl,.same _ (mY A)⟩,⟨_,rfl,.ptr 0 0 0 0 rfl⟩,aH,⟨_,rfl,.wo⟩,trivial⟩) (by omega)
   ·rw[Rp k0] at hFN;rw[show (kind == 0)=false by simpa using k0];((conv=>whnf);repeat(refine Xg ?_;conv=>whnf));by_cases k3:kind=3
    ·subst k3;rw[Rx rfl] at hFN;have lkk:=aE kids;((conv=>whnf);repeat(refine Xg ?_;conv=>whnf));rw[lkk];refine aK (bJ rfl (bJ rfl (bJ rfl (bJ (Rs (by omega)) (bJ (Rs (by omega)) (bJ (n8 rfl (by omega) (by omega)) (Rs (by omega)))))))) ?_;((conv=>whnf);repeat(refine Xg ?_;conv=>whnf));have ek0:((kids.length:Nat):Int).toNat=kids.length:=by simp
     rw[ek0];refine a7.at bC (fun j:Nat=>j<=kids.length)
      (fun j=>⟨[(1,.ip (.agg [.il 12 (aR A)])),(3,.ptr 0 0 0),(4,.int .i64 i),(5,.ip (bU ⟨3,name,lo,hi',ws,lbs,vals,kids,.mk vk vn vs vks⟩)),(6,.sl 3 0 kids.length),(23,.int .i64 A.length),(24,.int .i64 i),(78,.il 1 (aI kids)),(79,.int .i64 kids.length),(80,.int .i64 j)],
       nM A (uW (aX (A.take (i+1))) A.length) (iX (cS (A.take i)) A.length) [(3,.row 60 4 (aT (iX ((kids.take j).map fun k=>(cS (A.take i)).getD k.toNat vZ) kids.length)))],4,127⟩)
      (fun j=>kids.length-j) 0 [(0,0),(1,1),(2,2),(16,3)] (by omega)
      (aJ _ rfl (nE (a:=0) (b:=1) (c:=2) rfl rfl rfl rfl (.same _ (mY A)) rfl (by rw[h0i,hps1]) rfl (.same (aV _)) ⟨⟨16,_,rfl,rfl,by
        have:iX ((kids.take 0).map fun k=>(cS (A.take i)).getD k.toNat vZ) kids.length=List.replicate kids.length vZ:=by simp[iX]
        rw[this,C6];exact Ie _ (sX 0 0 [])⟩,trivial⟩)
       ⟨⟨_,rfl,.same _ (mY A)⟩,⟨_,rfl,.ptr 0 0 0 0 rfl⟩,aH,⟨_,rfl,.same _ (.ip' hnn)⟩,⟨_,rfl,.slE rfl rfl⟩,aH,aH,⟨_,rfl,.same _ (.il' (aG _))⟩,⟨_,rfl,.int (by rw[lkk])⟩,aH,trivial⟩) ?_
     intro j hj;have dj:decide ((j:Int)<(kids.length:Int))=decide (j<kids.length):=SB.2 (by omega);by_cases hjl:j<kids.length
     ·have ek:=dK hjl;obtain⟨m0,m1⟩:=hkm kids[j] (SI hjl);have hnx:(kids.take (j+1)).map (fun k=>(cS (A.take i)).getD k.toNat vZ)=(kids.take j).map (fun k=>(cS (A.take i)).getD k.toNat vZ)++[(cS (A.take i)).getD kids[j].toNat vZ]:=by
       rw[Rv hjl,Te];rfl
      generalize kids[j]=kz at *;obtain⟨k,rfl⟩:=R7 m0;simp only[Rq] at m1 hnx;have e2:(aT (iX (cS (A.take i)) A.length))[0+((k:Nat):Int).toNat]? = some (bT ((cS (A.take i)).getD k vZ)):=by rw[Rq];exact hfg k m1
      have g2:Nat.blt ((k:Nat):Int).toNat A.length=true:=Ru (by simp;omega);have g3:Nat.blt ((j:Nat):Int).toNat kids.length=true:=Ru (by simp;omega);have hml:((kids.take j).map fun k=>(cS (A.take i)).getD k.toNat vZ).length=j:=by rw[TO,SX];omega
      have hset:=FQ (n:=kids.length) ((cS (A.take i)).getD k vZ) (show ((kids.take j).map fun k=>(cS (A.take i)).getD k.toNat vZ).length<kids.length by omega);rw[hml,←hnx] at hset;have hset1:=zJ (iX ((kids.take j).map fun k=>(cS (A.take i)).getD k.toNat vZ) kids.length) j ((cS (A.take i)).getD k vZ);rw[hset] at hset1;generalize (cS (A.take i)).getD k vZ=u at *;obtain⟨y1,y2,y3,y4,hyv⟩:∃a b c d,(aT (iX ((kids.take j).map fun k=>(cS (A.take i)).getD k.toNat vZ) kids.length))[0+((j:Nat):Int).toNat]? = some (bT (.mk a b c d)):=by
       have:j<(iX ((kids.take j).map fun k=>(cS (A.take i)).getD k.toNat vZ) kids.length).length:=by rw[rS (by omega)];omega
       obtain⟨⟨a,b,c,d⟩,hv⟩:∃v,v=(iX ((kids.take j).map fun k=>(cS (A.take i)).getD k.toNat vZ) kids.length)[j]:=⟨_,rfl⟩
       exact⟨a,b,c,d,by rw[SF,Rq,i6,Rm this,hv];rfl⟩
      obtain⟨u1,u2,u3,u4⟩:=u;((conv=>whnf);repeat(refine Xg ?_;conv=>whnf));rw[dj,Rs hjl];((conv=>whnf);repeat(refine Xg ?_;conv=>whnf));repeat((first|refine aC ek ?_|refine aC e2 ?_|refine aK g2 ?_|refine aK g3 ?_|refine aC hyv ?_|refine aB.2 ?_|refine aD ?_);(conv=>whnf);repeat(refine Xg ?_;conv=>whnf))
      exact .mk (j+1) [(0,0),(1,1),(2,2),(3,3)] (by omega)
       (aJ _ rfl (nE (a:=0) (b:=1) (c:=2) rfl rfl rfl rfl (.same _ (mY A)) rfl rfl rfl (.same (aV _)) ⟨⟨3,_,rfl,rfl,.eq (aV _) (by rw[SF,Rq];exact hset1.symm)⟩,trivial⟩)
        ⟨⟨_,rfl,.same _ (mY A)⟩,⟨_,rfl,.ptr 0 0 0 0 rfl⟩,aH,⟨_,rfl,.same _ (.ip' hnn)⟩,⟨_,rfl,.slE rfl rfl⟩,aH,aH,⟨_,rfl,.same _ (.il' (aG _))⟩,aH,⟨_,rfl,.wo⟩,trivial⟩) (by omega)
     ·have hje:j=kids.length:=by omega
      subst hje;rw[SD];have hp0:iX (kids.map fun k=>(cS (A.take i)).getD k.toNat vZ) kids.length=kids.map fun k=>(cS (A.take i)).getD k.toNat vZ:=by simp[iX]
      rw[hp0];have hm0:=hmd (kids.map fun k=>(cS (A.take i)).getD k.toNat vZ);rw[←hFN] at hm0;have hml:(aT (kids.map fun k=>(cS (A.take i)).getD k.toNat vZ)).length=kids.length:=by rw[aF,TO]
      have hun:=bM fx;clear hFN;generalize (kids.map fun k=>(cS (A.take i)).getD k.toNat vZ)=us at *;obtain⟨u1,u2,u3,u4⟩:=fx;((conv=>whnf);repeat(refine Xg ?_;conv=>whnf));rw[dj,R4 hjl];((conv=>whnf);repeat(refine Xg ?_;conv=>whnf));repeat((first|refine aB.2 ?_|refine aD ?_);(conv=>whnf);repeat(refine Xg ?_;conv=>whnf))
      refine aM.pre bC [(0,0),(1,1),(2,2)] (mem':=nM A (uW (aX (A.take (i+1))) A.length) (iX (cS (A.take i)) A.length) []) rfl (nE (a:=0) (b:=1) (c:=2) rfl rfl rfl rfl (.same _ (mY A)) rfl rfl rfl (.same (aV _)) trivial)
       (.cons (.same _ (.ip' hnn)) (.cons (.fz' (id:=3) (off:=0) (len:=kids.length) (xs:=aT us) (ys:=aT us) rfl rfl (by omega) (by rw[SS,SA (by omega)]) (aV _)) .nil)) ?_
      refine hm0.go ?_ (.cons (.ip' hnn) (.cons (.il' (aV _)) .nil)) hun;((conv=>whnf);repeat(refine Xg ?_;conv=>whnf));repeat((first|refine aK g1 ?_|refine aC hzv ?_|refine aB.2 ?_|refine aD ?_);(conv=>whnf);repeat(refine Xg ?_;conv=>whnf))
      exact .mk (i+1) [(0,0),(1,1),(2,2)] (by omega) (aJ _ rfl (nE (a:=0) (b:=1) (c:=2) rfl rfl rfl rfl (.same _ (mY A)) rfl rfl rfl (.eq (aV _) (by rw[h0i];exact hfs1.symm)) trivial)
    ⟨⟨_,rfl,.same _ (mY A)⟩,⟨_,rfl,.ptr 0 0 0 0 rfl⟩,aH,⟨_,rfl,.wo⟩,trivial⟩) (by omega)
    ·rw[Rp k3] at hFN;rw[show (kind == 3)=false by simpa using k3];((conv=>whnf);repeat(refine Xg ?_;conv=>whnf));by_cases k4:kind=4
     ·subst k4;rw[Rx rfl] at hFN;have hb4:=(hbi rfl).1;have hb5:=(hbi rfl).2.1;have e1':bE ⟨4,name,lo,hi',ws,lbs,vals,kids,.mk vk vn vs vks⟩ 1<i/\kids[1]? = some (bE ⟨4,name,lo,hi',ws,lbs,vals,kids,.mk vk vn vs vks⟩ 1:Int):=hkd 1 (by omega);generalize bE ⟨4,name,lo,hi',ws,lbs,vals,kids,.mk vk vn vs vks⟩ 1=k1 at *;have e1:(aI kids)[Int.toNat 1]? = some (.int .i64 (k1:Int)):=by rw[show Int.toNat 1=1 from rfl,bG,e1'.2];rfl
      have e2:(aT (iX (cS (A.take i)) A.length))[0+((k1:Nat):Int).toNat]? = some (bT ((cS (A.take i)).getD k1 vZ)):=by rw[Rq];exact hfg k1 e1'.1
      have g2:Nat.blt ((k1:Nat):Int).toNat A.length=true:=Ru (by simp;omega);rw[←hFN] at e2;obtain⟨u1,u2,u3,u4⟩:=fx;((conv=>whnf);repeat(refine Xg ?_;conv=>whnf));repeat((first|refine aC e1 ?_|refine aC e2 ?_|refine aK g1 ?_|refine aK g2 ?_|refine aC hzv ?_|refine aB.2 ?_|refine aD ?_);(conv=>whnf);repeat(refine Xg ?_;conv=>whnf))
      exact .mk (i+1) [(0,0),(1,1),(2,2)] (by omega) (aJ _ rfl (nE (a:=0) (b:=1) (c:=2) rfl rfl rfl rfl (.same _ (mY A)) rfl (by rw[h0i,hps1]) rfl (.eq (aV _) (by rw[h0i];exact hfs1.symm)) trivial)
    ⟨⟨_,rfl,.same _ (mY A)⟩,⟨_,rfl,.ptr 0 0 0 0 rfl⟩,aH,⟨_,rfl,.wo⟩,trivial⟩) (by omega)
     ·rw[Rp k4] at hFN;rw[show (kind == 4)=false by simpa using k4];have hsk:=C0 (n:=A.length) (show (cS (A.take i)).length<A.length by omega);rw[hFN] at hFs;rw[←hFs] at hsk;((conv=>whnf);repeat(refine Xg ?_;conv=>whnf));exact .mk (i+1) [(0,0),(1,1),(2,2)] (by omega) (aJ _ rfl (nE (a:=0) (b:=1) (c:=2) rfl rfl rfl rfl (.same _ (mY A)) rfl (by rw[h0i,hps1]) rfl (.eq (aV _) (by rw[hsk])) trivial)
    ⟨⟨_,rfl,.same _ (mY A)⟩,⟨_,rfl,.ptr 0 0 0 0 rfl⟩,aH,⟨_,rfl,.wo⟩,trivial⟩) (by omega)
 ·have hie:i=A.length:=by omega
  subst hie;rw[SD];have hp1:uW (aX A) A.length=aX A:=by simp[uW,eY]
  have hp2:iX (cS A) A.length=cS A:=by simp[iX,iV]
  rw[hp1,hp2];((conv=>whnf);repeat(refine Xg ?_;conv=>whnf));rw[di,R4 hil];((conv=>whnf);repeat(refine Xg ?_;conv=>whnf));refine bF (r':=wk A) ?_ ⟨rfl,rfl,rfl⟩;exact .fzp 0 0 0 118 3 _ _ (RK A) rfl rfl rfl (R2 _) fun k c c' h1 h2=>by
   rw[SF] at h1;exact(iL.cons (.same _ (mY A)) (.cons (dT (id:=1) rfl (by rw[aE,eY]) rfl (aG _)) (.cons (dT (id:=2) rfl (by rw[aF,iV]) rfl (aV _)) .nil))).2 k c c' h1 h2
set_option maxHeartbeats 16000000
def bQ(l:List Sp):List AV:=l.map fun s=>.agg [.int .i64 s.1,.int .i64 s.2.1,.int .i64 s.2.2]
theorem c8(l:List Sp):(bQ l).length=l.length:=by simp[bQ]
theorem dQ(l:List Sp):g9 (bQ l):=fun a h=>by
 simp only[bQ,SJ] at h;obtain⟨p,_,rfl⟩:=h;exact .agg' (.cons nn (.cons nn (.cons nn .nil)))
theorem kJ(l:List Sp)(k:Nat):(bQ l)[k]? = (l[k]?).map fun s=>AV.agg [.int .i64 s.1,.int .i64 s.2.1,.int .i64 s.2.2]:=by simp[bQ]
theorem gL(l m:List Sp):bQ (l++m)=bQ l++bQ m:=by simp[bQ]
def Cn(v:bB)(used:Nat)(stop:Int)(rid n:Nat):AV:=match v with
 | .mk a b c d=>.agg [.int .i64 a,.int .i64 b,.str c,.il 4 (aT d),.int .i64 used,.int .i64 stop,.sl rid 0 n]
def Oh(r0:yO):AV->aS->Nat->Prop:=fun r m k=>r=Cn r0.val r0.used r0.stop 0 r0.spans.length/\m=[(0,.row 138 3 (bQ r0.spans))]/\k=1
def QQ(A:List Nd)(p:List Int)(f:Nat):Prop:=∀(i a0:Nat),i<f->i<A.length->a0<=p.length ->
 aM prog [] 69 [.agg [.il 12 (aR A)],.int .i64 i,.il 1 (aI p),.int .i64 a0] [] 0 (Oh (a6 A p f i a0))
theorem ME{A:List Nd}{p:List Int}{f i a0:Nat}(ih:QQ A p f)(h1:i<f)(h2:i<A.length)(h3:a0<=p.length){mem:aS}{nx:Nat}{K:AV->aS->Nat->Prop}
  (hc:(iK [(nx,AB.row 138 3 [])] && (jG [(0,nx)] && (Nat.ble nx (nx+1) && (jX [] nx [(nx,AB.row 138 3 [])] && oO [] 0 nx (nx+1) [(0,nx)]))))=true)
  (hk:K (Cn (a6 A p f i a0).val (a6 A p f i a0).used (a6 A p f i a0).stop nx (a6 A p f i a0).spans.length) ((nx,.row 138 3 (bQ (a6 A p f i a0).spans))::mem) (nx+1)) :
  aM prog [] 69 [.agg [.il 12 (aR A)],.int .i64 i,.il 1 (aI p),.int .i64 a0] mem nx K:=by
 refine aM.useN bC [] (ih i a0 h1 h2 h3) rfl (.same (.cons (.agg' (.cons (.il' (aQ _)) .nil)) (.cons nn (.cons (.il' (aG _)) (.cons nn .nil))))) trivial rfl ?_;rintro r m k ⟨rfl,rfl,rfl⟩;generalize a6 A p f i a0=R at *;obtain⟨⟨v1,v2,v3,v4⟩,u,st,sp⟩:=R;have hdr:∀m:aS,eT (fN []) m=m:=by
  intro m
  induction m with
  | nil=>rfl
  | cons a m ih=>obtain⟨k,b⟩:=a;simp only[fN,eT,zO];rw[show eT [] m=m from ih]
 refine⟨[(0,nx)],Cn (.mk v1 v2 v3 v4) u st nx sp.length,[(nx,.row 138 3 (bQ sp))],nx+1,.agg' (.s (.s (.s (.cons (.same _ (.il' (aV _))) (.s (.s (.cons (.slE rfl rfl) .nil))))))),⟨⟨0,_,rfl,rfl,.same (dQ _)⟩,trivial⟩,hc, ?_⟩;rw[hdr];exact hk
theorem FM(x:Nd)(h:x.kind=1->dW x=true):a8 prog [] 44 [bU x] (.int .i64 (fM x)):=by
 have hr:x.kind=1->x.lo<=x.hi/\x.hi<x.lo+1099511627776:=fun e=>⟨(cA (h e)).1,(cA (h e)).2.2.2⟩
 have ho:fM x=if x.kind=1 then x.hi-x.lo+1 else x.kids.length:=rfl
 clear h;obtain⟨kind,name,lo,hi,ws,ls,vals,kids,⟨vk,vn,vs,vks⟩⟩:=x;simp only at hr ho;generalize fM ⟨kind,name,lo,hi,ws,ls,vals,kids,.mk vk vn vs vks⟩=o at *;refine aL bC func44 rfl ?_;((conv=>whnf);repeat(refine Xg ?_;conv=>whnf));refine aO (fun h=>?_) (fun h=>?_)
 ·have h1:kind=1:=by simpa using h
  obtain⟨r1,r2⟩:=hr h1;rw[Rx h1] at ho;have hw:IntKind.i64.wrap (hi-lo)=hi-lo:=bY ⟨by omega,by omega⟩;have hw2:IntKind.i64.wrap (hi-lo+1)=o:=by rw[bY ⟨by omega,by omega⟩,ho]
  ((conv=>whnf);repeat(refine Xg ?_;conv=>whnf));rw[hw,hw2];exact aA nn ⟨rfl,rfl,rfl⟩
 ·have h1:¬kind=1:=by simpa using h
  rw[Rp h1] at ho;((conv=>whnf);repeat(refine Xg ?_;conv=>whnf));exact bF (.int (by rw[ho,aE])) ⟨rfl,rfl,rfl⟩
theorem Ol{A:List Nd}(h:VT A){p:List Int}(hp:p.length<=1000000000){f:Nat}(ih:QQ A p f){i:Nat}{x:Nd}(hx:A[i]? = some x)(hif:i<=f){a0:Nat}(ha:a0<=p.length)
  (hS:(bR (fun k q=>a6 A p f k q) a0 x.kids ⟨0,[],[],-1⟩).spans.length<=4294967296) :
  aM prog [] 98 [.agg [.il 12 (aR A)],bU x,.il 1 (aI p),.int .i64 a0] [] 0 (Oh (Ca x (bR (fun k q=>a6 A p f k q) a0 x.kids ⟨0,[],[],-1⟩))):=by
 have hil:=(Rt.1 hx).1;have hkm:=fun(k:Int) (hk:k∈x.kids)=>fF h hx hk
 have hkl:=h.tin.klen _ (R3 hx);have hbd:∀(k q:Nat),q<=p.length->q+(a6 A p f k q).used<=p.length:=fun k q hq=>(tH (A:=A) p f k q hq).1
 have hnn:=aW x;have nA:NN (.il 12 (aR A)):=.il' (aQ A);have np:NN (.il 1 (aI p)):=.il' (aG p);have hmd:=fun(ks:List bB)=>N7 x ks
 have hseq:∀s:Pt,Ca x s=⟨if s.stop = -1 then dJ x.name s.vals else vZ,s.used,s.stop,s.spans⟩:=fun s=>rfl
 have hseq:=hseq (bR (fun k q=>a6 A p f k q) a0 x.kids ⟨0,[],[],-1⟩);rw[hseq];clear hseq hx;obtain⟨kind,name,lo,hi',ws,lbs,vals,kids,⟨vk,vn,vs,vks⟩⟩:=x;simp only at hkm hkl hS hmd ⊢;refine aL bC func98 rfl ?_;((conv=>whnf);repeat(refine Xg ?_;conv=>whnf));refine a7.ph 138 3 ?_;refine a7.ph 60 4 ?_;obtain⟨P,hP⟩:∃P:Nat->Pt,P=fun j=>bR (fun k q=>a6 A p f k q) a0 (kids.take j) ⟨0,[],[],-1⟩:=⟨_,rfl⟩
 have hP0:P 0=⟨0,[],[],-1⟩:=by rw[hP];rfl
 have hPe:bR (fun k q=>a6 A p f k q) a0 kids ⟨0,[],[],-1⟩=P kids.length:=by rw[hP];simp
 have hPn:∀j (hj:j<kids.length),(P j).stop = -1->P (j+1)=Ix (fun k q=>a6 A p f k q) a0 kids[j] (P j):=fun j hj hs=>by
  rw[hP] at hs ⊢;exact mI hj rfl hs
 have hPs:∀j (hj:j<kids.length),(P j).stop = -1->(P (j+1)).stop≠-1->P kids.length=P (j+1):=fun j hj hs hs2=>by
  rw[←hPe];rw[hP] at hs hs2 ⊢;exact qR hj rfl hs hs2
 have hPl:∀j (hj:j<kids.length),(P j).stop = -1->(P j).spans.length+1+(a6 A p f kids[j].toNat (a0+(P j).used)).spans.length<=4294967296:=fun j hj hs=>by
  refine Si ?_ hS;rw[hP] at hs ⊢;exact wH (rd:=fun k q=>a6 A p f k q) hj rfl hs
 rw[hPe] at hS ⊢;clear hPe hP;refine a7.at bC (fun j:Nat=>j<=kids.length/\(P j).stop = -1/\a0+(P j).used<=p.length/\(P j).vals.length=j)
  (fun j=>⟨[(2,.il 1 (aI p)),(3,.int .i64 a0),(4,.ip (.agg [.il 12 (aR A)])),(5,.ip (bU ⟨kind,name,lo,hi',ws,lbs,vals,kids,.mk vk vn vs vks⟩)),(8,.ptr 0 0 0),(9,.ptr 1 0 0),(10,.sl 3 0 (P j).vals.length),(11,.int .i64 j)],
   [(0,.row 67 7 [.agg [.int .i64 0,.int .i64 0,.str [],.nsl,.int .i64 0,.int .i64 0,.nsl]]),(1,.row 67 7 [.agg [.int .i64 0,.int .i64 0,.str [],.nsl,.int .i64 (P j).used,.int .i64 (-1),.sl 2 0 (P j).spans.length]]),
    (2,.row 138 3 (bQ (P j).spans)),(3,.row 60 4 (aT (P j).vals))],4,80⟩)
  (fun j=>kids.length-j) 0 [(2,0),(3,1),(4,2),(5,3)] ⟨by omega,by rw[hP0],by rw[hP0];exact ha,by rw[hP0];rfl⟩
  (aJ _ rfl ⟨⟨2,_,rfl,rfl,.same (.cons nn .nil)⟩,⟨3,_,rfl,rfl,by rw[hP0];exact .cons (.agg (.s (.s (.s (.s (.s (.s (.cons (.nslk 4 2 _ rfl rfl) .nil)))))))) .nil⟩,⟨4,_,rfl,rfl,by rw[hP0];exact .nil⟩,⟨5,_,rfl,rfl,by rw[hP0];exact .nil⟩,trivial⟩
   ⟨⟨_,rfl,.same _ np⟩,aH,⟨_,rfl,.fzp 0 0 0 44 1 _ _ _ rfl rfl rfl (R2 _) fun k c c' h1 h2=>by
    rw[SF] at h1;exact(iL.cons (.same _ nA) .nil).2 k c c' h1 h2⟩,⟨_,rfl,.fzp 1 0 0 62 12 _ _ _ rfl rfl rfl (R2 _) fun k c c' h1 h2=>by
    rw[SF] at h1;exact(iL.same hnn.cells).2 k c c' h1 h2⟩,⟨_,rfl,.ptr 2 0 0 0 rfl⟩,⟨_,rfl,.ptr 3 1 0 0 rfl⟩,⟨_,rfl,by rw[hP0];exact .nslk 5 3 _ rfl rfl⟩,aH,trivial⟩) ?_
 rintro j ⟨hj,hst,hus,hvl⟩;have dj:decide ((j:Int)<((aI kids).length:Int))=decide (j<kids.length):=by rw[aE];exact SB.2 (by omega)
 have ls:=c8 (P j).spans;have lv:=aF (P j).vals;by_cases hjl:j<kids.length
 ·have hnx:=hPn j hjl hst;have hend:=hPs j hjl hst;have hln:=hPl j hjl hst;have ek:=dK hjl;obtain⟨m0,m1⟩:=hkm kids[j] (SI hjl);generalize kids[j]=kz at *;obtain⟨k,rfl⟩:=R7 m0;simp only[Rq] at m1 hnx hln;unfold Ix at hnx;simp only[Rq] at hnx;have hb:=hbd k (a0+(P j).used) hus;clear hPn hPs hPl;generalize hpj:P j=pj at *;obtain⟨us,vls,sps,st⟩:=pj;simp only at hst hus hvl hnx hln hb ls lv ⊢;subst hst;have hw1:IntKind.i64.wrap ((a0:Int)+(us:Int))=((a0+us:Nat):Int):=by rw[bY ⟨by omega,by omega⟩];omega
  ((conv=>whnf);repeat(refine Xg ?_;conv=>whnf));rw[dj,Rs hjl];((conv=>whnf);repeat(refine Xg ?_;conv=>whnf));repeat((first|refine aC ek ?_|refine aB.2 ?_|refine aD ?_);(conv=>whnf);repeat(refine Xg ?_;conv=>whnf))
  rw[hw1];refine ME ih (by omega) (by omega) hus rfl ?_;generalize a6 A p f k (a0+us)=R at *;obtain⟨⟨v1,v2,v3,v4⟩,ru,rst,rsp⟩:=R;simp only at hnx hln hb ⊢;((conv=>whnf);repeat(refine Xg ?_;conv=>whnf));repeat((first|refine aB.2 ?_|refine aD ?_);(conv=>whnf);repeat(refine Xg ?_;conv=>whnf))
  have hw2:IntKind.i64.wrap (((a0+us:Nat):Int)+(ru:Int))=((a0+us+ru:Nat):Int):=by rw[bY ⟨by omega,by omega⟩];omega
  rw[hw1,hw2];refine aK (bP rfl rfl (by rw[ls]) (by simp;omega)) ?_;((conv=>whnf);repeat(refine Xg ?_;conv=>whnf));refine aK (Ru (by rw[c8];omega)) ?_;have htk:List.take rsp.length (List.drop 0 (bQ rsp))=bQ rsp:=by rw[SS,SA (by rw[c8];omega)]
  rw[htk];have lr:=c8 rsp;((conv=>whnf);repeat(refine Xg ?_;conv=>whnf));refine aK (bP rfl rfl (by simp;omega) (by simp;omega)) ?_;((conv=>whnf);repeat(refine Xg ?_;conv=>whnf));repeat((first|refine aB.2 ?_|refine aD ?_);(conv=>whnf);repeat(refine Xg ?_;conv=>whnf))
  refine aK (bP rfl rfl (by rw[lv]) (by simp;omega)) ?_;((conv=>whnf);repeat(refine Xg ?_;conv=>whnf));have hsp:bQ sps++List.take 1 (List.drop 0 [AV.agg [.int .i64 a0,.int .i64 ((a0+us:Nat):Int),.int .i64 ((a0+us+ru:Nat):Int)]])++bQ rsp=bQ (sps++(a0,a0+us,a0+us+ru)::rsp):=by
   rw[show sps++(a0,a0+us,a0+us+ru)::rsp=sps++[(a0,a0+us,a0+us+ru)]++rsp by simp,gL,gL];rfl
  have hvs:aT vls++List.take 1 (List.drop 0 [AV.agg [.int .i64 v1,.int .i64 v2,.str v3,.il 4 (aT v4)]])=aT (vls++[.mk v1 v2 v3 v4]):=by rw[eR];rfl
  have hw3:IntKind.i64.wrap ((us:Int)+(ru:Int))=((us+ru:Nat):Int):=by rw[bY ⟨by omega,by omega⟩];omega
  rw[hw3];by_cases hs1:rst = -1
  ·subst hs1;((conv=>whnf);repeat(refine Xg ?_;conv=>whnf));refine .mk (j+1) [(0,0),(1,1),(21,2),(23,3)] ⟨by omega,by rw[hnx],by rw[hnx];simp only;omega,by rw[hnx];simp only[Ro,SQ];omega⟩
    (aJ _ rfl ⟨⟨0,_,rfl,rfl,.same (.cons (.agg' (.cons nn (.cons nn (.cons nn (.cons nn (.cons nn (.cons nn (.cons nn .nil)))))))) .nil)⟩,
      ⟨1,_,rfl,rfl,.cons (.agg (.s (.s (.s (.s (.cons (.int (by rw[hnx])) (.s (.cons (.slE rfl (by rw[hnx];simp;omega)) .nil)))))))) .nil⟩,
      ⟨21,_,rfl,rfl,.eq (dQ _) (by rw[hsp,hnx])⟩,⟨23,_,rfl,rfl,.eq (aV _) (by rw[hvs,hnx])⟩,trivial⟩
     ⟨⟨_,rfl,.same _ np⟩,aH,⟨_,rfl,.same _ (.ip' (.agg' (.cons nA .nil)))⟩,⟨_,rfl,.same _ (.ip' hnn)⟩,⟨_,rfl,.ptr 0 0 0 0 rfl⟩,⟨_,rfl,.ptr 1 1 0 0 rfl⟩,⟨_,rfl,.slE rfl (by rw[hnx];simp)⟩,⟨_,rfl,.wo⟩,trivial⟩) (by omega)
  ·rw[show (rst != -1)=true by simpa using hs1];have hend:=hend (by rw[hnx];exact hs1);rw[hend,hnx];simp only;rw[Rp hs1];((conv=>whnf);repeat(refine Xg ?_;conv=>whnf));exact bK (n':=1) (m':=[(0,.row 138 3 (bQ (sps++(a0,a0+us,a0+us+ru)::rsp)))]) [(21,0)] rfl ⟨⟨21,_,rfl,rfl,.eq (dQ _) hsp⟩,trivial⟩
    (.agg' (.s (.s (.s (.cons (.nil 4) (.s (.s (.cons (.slE rfl (by simp;omega)) .nil)))))))) ⟨rfl,rfl,rfl⟩
 ·have hje:j=kids.length:=by omega
  subst hje;rw[Rx hst,hst];generalize P kids.length=pj at *;obtain⟨us,vls,sps,st⟩:=pj;simp only at hst hus hvl ls lv ⊢;have hm0:=hmd vls;have hvn:=bM (dJ name vls);generalize dJ name vls=v at *;obtain⟨v1,v2,v3,v4⟩:=v;((conv=>whnf);repeat(refine Xg ?_;conv=>whnf));rw[dj,R4 hjl];((conv=>whnf);repeat(refine Xg ?_;conv=>whnf));refine aM.pre bC [(0,0),(1,1),(2,2)] (mem':=[(0,.row 67 7 [.agg [.int .i64 0,.int .i64 0,.str [],.nsl,.int .i64 0,.int .i64 0,.nsl]]),(1,.row 67 7 [.agg [.int .i64 0,.int .i64 0,.str [],.nsl,.int .i64 us,.int .i64 (-1),.sl 2 0 sps.length]]),(2,.row 138 3 (bQ sps))]) rfl
   ⟨⟨0,_,rfl,rfl,.same (.cons (.agg' (.cons nn (.cons nn (.cons nn (.cons nn (.cons nn (.cons nn (.cons nn .nil)))))))) .nil)⟩,⟨1,_,rfl,rfl,.cons (.agg (.s (.s (.s (.s (.s (.s (.cons (.slE rfl rfl) .nil)))))))) .nil⟩,⟨2,_,rfl,rfl,.same (dQ _)⟩,trivial⟩
   (.cons (.same _ hnn) (.cons (.fz' (id:=3) (off:=0) (len:=vls.length) (xs:=aT vls) (ys:=aT vls) rfl rfl (by omega) (by rw[SS,SA (by omega)]) (aV _)) .nil)) ?_
  refine hm0.go ?_ (.cons hnn (.cons (.il' (aV _)) .nil)) hvn;((conv=>whnf);repeat(refine Xg ?_;conv=>whnf));exact bK (n':=1) (m':=[(0,.row 138 3 (bQ sps))]) [(2,0)] rfl ⟨⟨2,_,rfl,rfl,.same (dQ _)⟩,trivial⟩
    (.agg' (.s (.s (.s (.cons (.same _ (.il' (aV _))) (.s (.s (.cons (.slE rfl rfl) .nil)))))))) ⟨rfl,rfl,rfl⟩
set_option maxHeartbeats 16000000
def lD(l:List Bool)(n:Nat):List Bool:=l++List.replicate (n-l.length) false
theorem sO{l:List Bool}{n:Nat}(h:l.length<=n):(lD l n).length=n:=by simp[lD];omega
theorem LW{l:List Bool}{n:Nat}(y:Bool)(h:l.length<n):(lD l n).set l.length y=lD (l++[y]) n:=by
 unfold lD;rw[TW _ _ (R2 _),Tu];obtain⟨m,hm⟩:∃m,n-l.length=m+1:=⟨n-l.length-1,by omega⟩
 rw[hm,Ss,UF,Ro,SQ,show n-(l.length+1)=m by omega];simp
theorem JO{l:List Bool}{n:Nat}(h:l.length<n):lD (l++[false]) n=lD l n:=by
 unfold lD;obtain⟨m,hm⟩:∃m,n-l.length=m+1:=⟨n-l.length-1,by omega⟩
 rw[hm,Ss,Ro,SQ,show n-(l.length+1)=m by omega];simp
theorem tR(l:List Bool)(i:Nat):(kB l)[i]? = (l[i]?).map AV.bool:=by simp[kB]
theorem OY(l:List Bool):(kB l).length=l.length:=by simp[kB]
theorem Ah(l:List Bool)(i:Nat)(b:Bool):kB (l.set i b)=(kB l).set i (.bool b):=by simp[kB,Ti]
theorem Ms{A:List Nd}(h:VT A):a8 prog [] 127 [.agg [.il 12 (aR A)],wk A] (.il 1 (kB (cU A))):=by
 have hlen:=bD A;have hl1:=h.tin.len;have nA:NN (.il 12 (aR A)):=.il' (aQ A);refine aL bC func127 rfl ?_;((conv=>whnf);repeat(refine Xg ?_;conv=>whnf));rw[hlen];have e:((A.length:Nat):Int).toNat=A.length:=by simp
 refine aK (bJ rfl (bJ rfl (bJ rfl (bJ (Rs (by omega)) (bJ (Rs (by omega)) (bJ (n8 rfl (by omega) (by omega)) (Rs (by omega)))))))) ?_;((conv=>whnf);repeat(refine Xg ?_;conv=>whnf));rw[e];refine a7.at bC (fun i:Nat=>i<=A.length)
  (fun i=>⟨[(1,wk A),(2,.ip (.agg [.il 12 (aR A)])),(5,.sl 0 0 A.length),(16,.int .i64 A.length),(17,.int .i64 i)],[(0,.row 4 1 (kB (lD (cU (A.take i)) A.length)))],1,69⟩) (fun i=>A.length-i) 0 [(1,0)] (by omega)
  (aJ _ rfl ⟨⟨1,_,rfl,rfl,.eq (hZ _) (by simp[lD,cU,Jb,kB])⟩,trivial⟩ ⟨⟨_,rfl,.same _ (eM A)⟩,⟨_,rfl,J6 (id:=0) rfl rfl rfl rfl rfl (.same _ nA)⟩,⟨_,rfl,.slE rfl rfl⟩,⟨_,rfl,.int (by rw[hlen])⟩,aH,trivial⟩) ?_
 intro i hi;have di:decide ((i:Int)<(A.length:Int))=decide (i<A.length):=SB.2 (by omega);by_cases hil:i<A.length
 ·have hx:=dS hil;have hne:=mL hil;have hnn:=aW (aN A i);have hg:=h.node hx;have hkl:=h.tin.klen _ (R3 hx);have hti:(A.take i).length=i:=by rw[SX];omega
  have hpl:(cU (A.take i)).length=i:=by rw[iP,hti]
  have hkm:=fun(k:Int) (hk:k∈(aN A i).kids)=>fF h hx hk
  have hCh:=FC hil;have hln:=h.len hx;have hln2:=h.lenC hx (R2 i) (by omega);have hPs:cU (A.take (i+1))=cU (A.take i)++[wQ (aX (A.take i)) (cU (A.take i)) (aN A i)]:=by
   rw[Rv hil,tO,(Rt.1 hx).2]
  have hPN:wQ (aX (A.take i)) (cU (A.take i)) (aN A i)=(decide (eU (aX (A.take i)) (aN A i)<=0) && (decide ((aN A i).kind≠3) || decide ((aN A i).kids.length=0)) && (aN A i).kids.all fun k=>(cU (A.take i)).getD k.toNat false):=rfl;rw[hln2,←hln] at hPN;have hset:=fun b=>LW (n:=A.length) b (show (cU (A.take i)).length<A.length by omega)
  rw[hpl] at hset;have hl0:=(h.lens0 (i:Int)).1;generalize wQ (aX (A.take i)) (cU (A.take i)) (aN A i)=pb at *;generalize Go.Ax.d7 (aX A) i=ln at *;clear hln hln2 hg hx;generalize aN A i=x at *;obtain⟨kind,name,lo,hi',ws,lbs,vals,kids,⟨vk,vn,vs,vks⟩⟩:=x;simp only at hkm hkl hPN;((conv=>whnf);repeat(refine Xg ?_;conv=>whnf));rw[di,Rs hil];((conv=>whnf);repeat(refine Xg ?_;conv=>whnf));repeat((first|refine aC hne ?_|refine aB.2 ?_|refine aD ?_);(conv=>whnf);repeat(refine Xg ?_;conv=>whnf))
  refine hCh.go ?_ (.cons (eM A) (.cons nn .nil)) nn;((conv=>whnf);repeat(refine Xg ?_;conv=>whnf));refine aO (fun hb=>?_) (fun hb=>?_)
  ·have hlp:0<ln:=by simpa using hb
   have hpf:pb=false:=by rw[hPN,R4 (by omega)];rfl
   rw[hpf] at hPs;have hsk:=JO (n:=A.length) (show (cU (A.take i)).length<A.length by omega);rw[←hPs] at hsk;((conv=>whnf);repeat(refine Xg ?_;conv=>whnf));exact .mk (i+1) [(0,0)] (by omega) (aJ _ rfl ⟨⟨0,_,rfl,rfl,.eq (hZ _) (by rw[hsk])⟩,trivial⟩ ⟨⟨_,rfl,.same _ (eM A)⟩,⟨_,rfl,.same _ (.ip' (.agg' (.cons nA .nil)))⟩,⟨_,rfl,.slE rfl rfl⟩,aH,⟨_,rfl,.wo⟩,trivial⟩) (by omega)
  ·have hlp:¬0<ln:=by simpa using hb
   rw[Rs (show ln<=0 by omega),Tv] at hPN;have lkk:=aE kids;have g1:Nat.blt ((i:Nat):Int).toNat A.length=true:=Ru (by simp;omega);obtain⟨pi,hpi⟩:∃b:Bool,(kB (lD (cU (A.take i)) A.length))[0+((i:Nat):Int).toNat]? = some (.bool b):=by
    have:i<(lD (cU (A.take i)) A.length).length:=by rw[sO (by omega)];omega
    exact⟨_,by rw[SF,Rq,tR,Rm this];rfl⟩
   ((conv=>whnf);repeat(refine Xg ?_;conv=>whnf));by_cases k3:kind=3
   ·subst k3;rw[show decide ((3:Int)≠3)=false by simp,T7] at hPN;have dl:(((aI kids).length:Int) == 0)=decide (kids.length=0):=by rw[lkk];by_cases e0:kids.length=0<;>simp[e0]
    ((conv=>whnf);repeat(refine Xg ?_;conv=>whnf));rw[dl];repeat((first|refine aC hpi ?_|refine aK g1 ?_|refine aB.2 ?_|refine aD ?_);(conv=>whnf);repeat(refine Xg ?_;conv=>whnf))
    generalize decide (kids.length=0)=b0 at *;refine a7.at bC (fun j:Nat=>j<=kids.length)
     (fun j=>⟨[(1,wk A),(2,.ip (.agg [.il 12 (aR A)])),(5,.sl 0 0 A.length),(6,.int .i64 i),(16,.int .i64 A.length),(17,.int .i64 i),(47,.il 1 (aI kids)),(48,.int .i64 kids.length),(49,.int .i64 j)],
      [(0,.row 4 1 (kB ((lD (cU (A.take i)) A.length).set i (b0 && (kids.take j).all fun k=>(cU (A.take i)).getD k.toNat false))))],1,69⟩)
     (fun j=>kids.length-j) 0 [(0,0)] (by omega)
     (aJ _ rfl ⟨⟨0,_,rfl,rfl,.eq (hZ _) (by simp[Ah])⟩,trivial⟩ ⟨⟨_,rfl,.same _ (eM A)⟩,⟨_,rfl,.same _ (.ip' (.agg' (.cons nA .nil)))⟩,⟨_,rfl,.slE rfl rfl⟩,aH,aH,aH,⟨_,rfl,.same _ (.il' (aG _))⟩,⟨_,rfl,.int (by rw[lkk])⟩,aH,trivial⟩) ?_
    intro j hj;have dj:decide ((j:Int)<(kids.length:Int))=decide (j<kids.length):=SB.2 (by omega);have hBl:(lD (cU (A.take i)) A.length).length=A.length:=sO (by omega);by_cases hjl:j<kids.length
    ·have ek:=dK hjl;obtain⟨m0,m1⟩:=hkm kids[j] (SI hjl);have hall:((kids.take (j+1)).all fun k=>(cU (A.take i)).getD k.toNat false)=(((kids.take j).all fun k=>(cU (A.take i)).getD k.toNat false) && (cU (A.take i)).getD kids[j].toNat false):=by
      rw[Rv hjl,List.all_append];simp
     generalize kids[j]=kz at *;obtain⟨k,rfl⟩:=R7 m0;simp only[Rq] at m1 hall;have hgk:∀b:Bool,(kB ((lD (cU (A.take i)) A.length).set i b))[0+((k:Nat):Int).toNat]? = some (.bool ((cU (A.take i)).getD k false)):=fun b=>by
      have hk:k<(cU (A.take i)).length:=by omega
      rw[SF,Rq,tR,Tx (by omega)];unfold lD;rw[SG hk,Rn,Rm hk];rfl
     have hgi:∀b:Bool,(kB ((lD (cU (A.take i)) A.length).set i b))[0+((i:Nat):Int).toNat]? = some (.bool b):=fun b=>by
      rw[SF,Rq,tR,Sn (by omega)];rfl
     have g2:Nat.blt ((k:Nat):Int).toNat A.length=true:=Ru (by simp;omega);generalize (cU (A.take i)).getD k false=gk at *;have hall2:(b0 && ((kids.take (j+1)).all fun k=>(cU (A.take i)).getD k.toNat false))=((b0 && ((kids.take j).all fun k=>(cU (A.take i)).getD k.toNat false)) && gk):=by rw[hall,UK]
     generalize (b0 && ((kids.take j).all fun k=>(cU (A.take i)).getD k.toNat false))=b at *;have hgk:=hgk b;have hgi:=hgi b;have hss:∀c:Bool,(kB ((lD (cU (A.take i)) A.length).set i b)).set (0+((i:Nat):Int).toNat) (.bool c)=kB ((lD (cU (A.take i)) A.length).set i c):=fun c=>by
      rw[SF,Rq,←Ah,List.set_set]
     cases b with
     | false=>
      ((conv=>whnf);repeat(refine Xg ?_;conv=>whnf));rw[dj,Rs hjl];((conv=>whnf);repeat(refine Xg ?_;conv=>whnf));repeat((first|refine aC ek ?_|refine aC hgi ?_|refine aK g1 ?_|refine aB.2 ?_|refine aD ?_);(conv=>whnf);repeat(refine Xg ?_;conv=>whnf))
      exact .mk (j+1) [(0,0)] (by omega) (aJ _ rfl ⟨⟨0,_,rfl,rfl,.eq (hZ _) (by rw[hss,hall2];rfl)⟩,trivial⟩ ⟨⟨_,rfl,.same _ (eM A)⟩,⟨_,rfl,.same _ (.ip' (.agg' (.cons nA .nil)))⟩,⟨_,rfl,.slE rfl rfl⟩,aH,aH,aH,⟨_,rfl,.same _ (.il' (aG _))⟩,aH,⟨_,rfl,.wo⟩,trivial⟩) (by omega)
     | true=>
      ((conv=>whnf);repeat(refine Xg ?_;conv=>whnf));rw[dj,Rs hjl];((conv=>whnf);repeat(refine Xg ?_;conv=>whnf));repeat((first|refine aC ek ?_|refine aC hgi ?_|refine aC hgk ?_|refine aK g1 ?_|refine aK g2 ?_|refine aB.2 ?_|refine aD ?_);(conv=>whnf);repeat(refine Xg ?_;conv=>whnf))
      exact .mk (j+1) [(0,0)] (by omega) (aJ _ rfl ⟨⟨0,_,rfl,rfl,.eq (hZ _) (by rw[hss,hall2];rfl)⟩,trivial⟩ ⟨⟨_,rfl,.same _ (eM A)⟩,⟨_,rfl,.same _ (.ip' (.agg' (.cons nA .nil)))⟩,⟨_,rfl,.slE rfl rfl⟩,aH,aH,aH,⟨_,rfl,.same _ (.il' (aG _))⟩,aH,⟨_,rfl,.wo⟩,trivial⟩) (by omega)
    ·have hje:j=kids.length:=by omega
     rw[hje,SD,←hPN,hset,←hPs];((conv=>whnf);repeat(refine Xg ?_;conv=>whnf));rw[show decide (((kids.length:Nat):Int)<(kids.length:Int))=false by simp];((conv=>whnf);repeat(refine Xg ?_;conv=>whnf));exact .mk (i+1) [(0,0)] (by omega) (aJ _ rfl ⟨⟨0,_,rfl,rfl,.same (hZ _)⟩,trivial⟩ ⟨⟨_,rfl,.same _ (eM A)⟩,⟨_,rfl,.same _ (.ip' (.agg' (.cons nA .nil)))⟩,⟨_,rfl,.slE rfl rfl⟩,aH,⟨_,rfl,.wo⟩,trivial⟩) (by omega)
   ·rw[Rs (show kind≠3 from k3),Bool.true_or] at hPN;rw[show (kind != 3)=true by simpa using k3];((conv=>whnf);repeat(refine Xg ?_;conv=>whnf));repeat((first|refine aC hpi ?_|refine aK g1 ?_|refine aB.2 ?_|refine aD ?_);(conv=>whnf);repeat(refine Xg ?_;conv=>whnf))
    refine a7.at bC (fun j:Nat=>j<=kids.length)
     (fun j=>⟨[(1,wk A),(2,.ip (.agg [.il 12 (aR A)])),(5,.sl 0 0 A.length),(6,.int .i64 i),(16,.int .i64 A.length),(17,.int .i64 i),(47,.il 1 (aI kids)),(48,.int .i64 kids.length),(49,.int .i64 j)],
      [(0,.row 4 1 (kB ((lD (cU (A.take i)) A.length).set i (true && (kids.take j).all fun k=>(cU (A.take i)).getD k.toNat false))))],1,69⟩)
     (fun j=>kids.length-j) 0 [(0,0)] (by omega)
     (aJ _ rfl ⟨⟨0,_,rfl,rfl,.eq (hZ _) (by simp[Ah])⟩,trivial⟩ ⟨⟨_,rfl,.same _ (eM A)⟩,⟨_,rfl,.same _ (.ip' (.agg' (.cons nA .nil)))⟩,⟨_,rfl,.slE rfl rfl⟩,aH,aH,aH,⟨_,rfl,.same _ (.il' (aG _))⟩,⟨_,rfl,.int (by rw[lkk])⟩,aH,trivial⟩) ?_
    intro j hj;have dj:decide ((j:Int)<(kids.length:Int))=decide (j<kids.length):=SB.2 (by omega);have hBl:(lD (cU (A.take i)) A.length).length=A.length:=sO (by omega);by_cases hjl:j<kids.length
    ·have ek:=dK hjl;obtain⟨m0,m1⟩:=hkm kids[j] (SI hjl);have hall:((kids.take (j+1)).all fun k=>(cU (A.take i)).getD k.toNat false)=(((kids.take j).all fun k=>(cU (A.take i)).getD k.toNat false) && (cU (A.take i)).getD kids[j].toNat false):=by
      rw[Rv hjl,List.all_append];simp
     generalize kids[j]=kz at *;obtain⟨k,rfl⟩:=R7 m0;simp only[Rq] at m1 hall;have hgk:∀b:Bool,(kB ((lD (cU (A.take i)) A.length).set i b))[0+((k:Nat):Int).toNat]? = some (.bool ((cU (A.take i)).getD k false)):=fun b=>by
      have hk:k<(cU (A.take i)).length:=by omega
      rw[SF,Rq,tR,Tx (by omega)];unfold lD;rw[SG hk,Rn,Rm hk];rfl
     have hgi:∀b:Bool,(kB ((lD (cU (A.take i)) A.length).set i b))[0+((i:Nat):Int).toNat]? = some (.bool b):=fun b=>by
      rw[SF,Rq,tR,Sn (by omega)];rfl
     have g2:Nat.blt ((k:Nat):Int).toNat A.length=true:=Ru (by simp;omega);generalize (cU (A.take i)).getD k false=gk at *;have hall2:(true && ((kids.take (j+1)).all fun k=>(cU (A.take i)).getD k.toNat false))=((true && ((kids.take j).all fun k=>(cU (A.take i)).getD k.toNat false)) && gk):=by rw[hall,UK]
     generalize (true && ((kids.take j).all fun k=>(cU (A.take i)).getD k.toNat false))=b at *;have hgk:=hgk b;have hgi:=hgi b;have hss:∀c:Bool,(kB ((lD (cU (A.take i)) A.length).set i b)).set (0+((i:Nat):Int).toNat) (.bool c)=kB ((lD (cU (A.take i)) A.length).set i c):=fun c=>by
      rw[SF,Rq,←Ah,List.set_set]
     cases b with
     | false=>
      ((conv=>whnf);repeat(refine Xg ?_;conv=>whnf));rw[dj,Rs hjl];((conv=>whnf);repeat(refine Xg ?_;conv=>whnf));repeat((first|refine aC ek ?_|refine aC hgi ?_|refine aK g1 ?_|refine aB.2 ?_|refine aD ?_);(conv=>whnf);repeat(refine Xg ?_;conv=>whnf))
      exact .mk (j+1) [(0,0)] (by omega) (aJ _ rfl ⟨⟨0,_,rfl,rfl,.eq (hZ _) (by rw[hss,hall2];rfl)⟩,trivial⟩ ⟨⟨_,rfl,.same _ (eM A)⟩,⟨_,rfl,.same _ (.ip' (.agg' (.cons nA .nil)))⟩,⟨_,rfl,.slE rfl rfl⟩,aH,aH,aH,⟨_,rfl,.same _ (.il' (aG _))⟩,aH,⟨_,rfl,.wo⟩,trivial⟩) (by omega)
     | true=>
      ((conv=>whnf);repeat(refine Xg ?_;conv=>whnf));rw[dj,Rs hjl];((conv=>whnf);repeat(refine Xg ?_;conv=>whnf));repeat((first|refine aC ek ?_|refine aC hgi ?_|refine aC hgk ?_|refine aK g1 ?_|refine aK g2 ?_|refine aB.2 ?_|refine aD ?_);(conv=>whnf);repeat(refine Xg ?_;conv=>whnf))
      exact .mk (j+1) [(0,0)] (by omega) (aJ _ rfl ⟨⟨0,_,rfl,rfl,.eq (hZ _) (by rw[hss,hall2];rfl)⟩,trivial⟩ ⟨⟨_,rfl,.same _ (eM A)⟩,⟨_,rfl,.same _ (.ip' (.agg' (.cons nA .nil)))⟩,⟨_,rfl,.slE rfl rfl⟩,aH,aH,aH,⟨_,rfl,.same _ (.il' (aG _))⟩,aH,⟨_,rfl,.wo⟩,trivial⟩) (by omega)
    ·have hje:j=kids.length:=by omega
     rw[hje,SD,←hPN,hset,←hPs];((conv=>whnf);repeat(refine Xg ?_;conv=>whnf));rw[show decide (((kids.length:Nat):Int)<(kids.length:Int))=false by simp];((conv=>whnf);repeat(refine Xg ?_;conv=>whnf));exact .mk (i+1) [(0,0)] (by omega) (aJ _ rfl ⟨⟨0,_,rfl,rfl,.same (hZ _)⟩,trivial⟩ ⟨⟨_,rfl,.same _ (eM A)⟩,⟨_,rfl,.same _ (.ip' (.agg' (.cons nA .nil)))⟩,⟨_,rfl,.slE rfl rfl⟩,aH,⟨_,rfl,.wo⟩,trivial⟩) (by omega)
 ·have hie:i=A.length:=by omega
  subst hie;rw[SD];have hp1:lD (cU A) A.length=cU A:=by simp[lD,iP]
  rw[hp1];((conv=>whnf);repeat(refine Xg ?_;conv=>whnf));rw[di,R4 hil];((conv=>whnf);repeat(refine Xg ?_;conv=>whnf));exact bF (r':=.il 1 (kB (cU A))) (dT (id:=0) rfl (by rw[OY,iP]) rfl (hZ _)) ⟨rfl,rfl,rfl⟩
end Go.Proofs.YthempfhilcmfnaaGreat
namespace Go.Ax
open Go
theorem bO.useN{P:Program}{Γ:List (Nat × AV)}{F:FuncId}{args args':List AV}{ms mem m1:aS}{ns nx:Nat}{Qs K:AV->aS->Nat->Prop}{Qsp Kp:Value->aS->Nat->Prop}(hΓ:∀p∈Γ,NN p.2)(σ:List (Nat × Nat))(h:bO P Γ F args' ms ns Qs Qsp)
  (hp:jE (fN σ) mem=m1) (hargs:iL m1 σ args args') (hM:cH m1 σ ms) (hc:(iK ms && (jG σ && oD ns σ))=true)
  (hk:∀r m n,Qs r m n->∃τ r' m' n',Cv m τ r r'/\cH m τ m'/\(iK m' && (jG τ && (Nat.ble nx n' && (jX (fN σ) nx m' && oO σ ns nx n' τ))))=true/\K r' (m'++eT (fN σ) mem) n')
  (hkp:∀x m n,Qsp x m n->∃τ m' n',cH m τ m'/\(iK m' && (jG τ && (Nat.ble nx n' && (jX (fN σ) nx m' && oO σ ns nx n' τ))))=true/\Kp x (m'++eT (fN σ) mem) n'):bO P Γ F args mem nx K Kp:=by
 simp only[Rr] at hc;obtain⟨hc1,hc2,hc4⟩:=hc;refine⟨fun X D ρ w vs hD hm hv=>?_⟩;have key:∀(m':aS) (n':Nat),jX (fN σ) nx m'=true->∀p∈m',∀q∈eT (fN σ) mem,p.1≠q.1:=fun m' n' hko p h5 q h6=>by
  have b:=(cK.1 h6).2;rcases qD hko p h5 with a|a
  ·have:=hD _ (hm.low q (cK.1 h6).1);omega
  ·intro e;rw[e,b] at a;cases a
 refine(bO.use (K:=K) (Kp:=Kp) (nx:=nx) hΓ h σ (m1:=m1) (rest:=eT (fN σ) mem) ⟨fun p hp'=>?_,fun p hp'=>(cK.1 hp').1,fun p hp'=>?_,fun p h1 q h2=>?_, ?_⟩ ?_ hargs hM.cvm (dH hc1) (kW hc2) (fun id i hl=>kV hc4 _ (bI hl)) ?_ ?_).run X D ρ w vs hD hm hv
 ·rw[←hp] at hp';exact(dO.1 hp').1
 ·cases hi:zO p.1 (fN σ) with
  | true=>left;rw[←hp];exact dO.2 ⟨hp',hi⟩
  | false=>right;exact cK.2 ⟨hp',hi⟩
 ·rw[←hp] at h1;have a:=(dO.1 h1).2;have b:=(cK.1 h2).2;intro e;rw[e,b] at a;cases a
 ·rw[←hp];exact hm.nod.sublist ((kN mem).map _)
 ·exact hm.nod.sublist ((kI mem).map _)
 ·intro r m n hq hn;obtain⟨τ,r',m',n',h1,h2,h3,h4⟩:=hk r m n hq;simp only[Rr] at h3;exact⟨τ,r',m',n',Ry h3.2.2.1,h1,h2.cvm,dH h3.1,kW h3.2.1,fun i id hl=>oP h3.2.2.2.2 _ (bI hl),key m' n' h3.2.2.2.1,h4⟩
 ·intro x m n hq hn;obtain⟨τ,m',n',h2,h3,h4⟩:=hkp x m n hq;simp only[Rr] at h3;exact⟨τ,m',n',Ry h3.2.2.1,h2.cvm,dH h3.1,kW h3.2.1,fun i id hl=>oP h3.2.2.2.2 _ (bI hl),key m' n' h3.2.2.2.1,h4⟩
theorem a8.goP{P:Program}{F:FuncId}{args:List AV}{r:AV}{mem:aS}{nx:Nat}{K:AV->aS->Nat->Prop}{Kp:Value->aS->Nat->Prop}(h:a8 P [] F args r)(hk:K r mem nx)(ha:g9 args:=by exact dD)(hr:NN r:=by exact nn):bO P [] F args mem nx K Kp:=(h.go hk ha hr).toP
end Go.Ax
