/- A part of the proof. -/
import Derived.Test.YtpajadlnaokngaaGreatDoorAx14
set_option linter.unusedVariables false
set_option linter.unusedSimpArgs false
set_option linter.unusedSectionVars false
namespace Go.Proofs.YtpajadlnaokngaaGreatDoor
open Go Go.Ax Go.Proofs Tryz
set_option maxRecDepth 100000
set_option maxHeartbeats 8000000
theorem K0(x:Nd)(ks:List aT):aZ prog [] 118 [.ip (bN x),.il 4 (aO ks)] (cD (dQ x.name ks)):=by
 obtain⟨kind,name,lo,hi,ws,ls,vals,kids,⟨vk,vn,vs,vks⟩⟩:=x;refine aN bI func118 rfl ?_;unfold dQ;refine Rr ?_;refine aE (fun h=>?_) (fun h=>?_)
 ·have h1:name=[]:=by simpa using h
  rw[Mr h1];refine Rr ?_;exact aA nn ⟨rfl,rfl,rfl⟩
 ·have h1:¬name=[]:=by simpa using h
  rw[Mm h1];refine Rt ?_;exact aA nn ⟨rfl,rfl,rfl⟩
theorem KJ(x:Nd)(hx:oH x)(hs:aU x.value<=1048576)(hv:∀v∈x.values,aU v<=1048576)(h0:x.kind=0->x.values=[]):aZ prog [] 39 [.ip (bN x)] (.int .i64 (c7 (k6 x))):=by
 have hV:=EC x.value hx.value hs;have hvv:=hx.valuesI;have hvl:=hx.values;obtain⟨kind,name,lo,hi,ws,ls,vals,kids,⟨vk,vn,vs,vks⟩⟩:=x;simp only at hV hv h0 hvv hvl;refine aN bI func39 rfl ?_;refine Rr ?_;refine aE (fun h=>?_) (fun h=>?_)
 ·have h1:kind=0:=by simpa using h
  subst h1;have e:c7 (k6 ⟨0,name,lo,hi,ws,ls,vals,kids,.mk vk vn vs vks⟩)=Go.Ax.d9 (.mk vk vn vs vks):=by
   rw[h0 rfl];simp only[k6,if_true,N9,c7];split
   ·rfl
   ·rename_i h;simpa using (Decidable.not_not.1 h).symm
  rw[e];generalize Go.Ax.d9 (.mk vk vn vs vks)=z at hV;refine Rr ?_;refine hV.go ?_;refine Rr ?_;exact aA nn ⟨rfl,rfl,rfl⟩
 ·have h1:¬kind=0:=by simpa using h
  have e:k6 ⟨kind,name,lo,hi,ws,ls,vals,kids,.mk vk vn vs vks⟩=vals:=by simp[k6,h1]
  rw[e];refine Rr ?_;refine a6.at bI (fun i:Nat=>i<=vals.length/\c7 vals=c7 (vals.drop i)) (fun i=>⟨[(19,.il 4 (aO vals)),(20,.int .i64 vals.length),(21,.int .i64 i)],[],0,31⟩) (fun i=>vals.length-i) 0 [] ⟨by simp,by simp⟩
   (bV ⟨a9 (.il' (aY _)),⟨_,rfl,.int (by rw[aB])⟩,aG,trivial⟩) ?_
  rintro i ⟨hi,hf⟩;refine Rr ?_;refine aE (fun h=>?_) (fun h=>?_)
  ·have hil:i<vals.length:=by simpa using h
   have ei:(aO vals)[((i:Nat):Int).toNat]? = some (cD vals[i]):=by simp[lX,Mf hil]
   have hm:=NL hil;have hV2:=EC vals[i] (hvv _ hm).1 (hv _ hm);rw[List.drop_eq_getElem_cons hil,c7] at hf;generalize vals[i]=y at ei hV2 hf;generalize Go.Ax.d9 y=z at hV2 hf;obtain⟨y1,y2,y3,y4⟩:=y;refine Rr ?_;refine aD ei ?_;refine Rr ?_;refine hV2.go ?_;refine Rr ?_;refine aE (fun h2=>?_) (fun h2=>?_)
   ·have e:z≠0:=by simpa using h2
    rw[Mr e] at hf;rw[hf];refine Rr ?_;exact aA nn ⟨rfl,rfl,rfl⟩
   ·have e:¬z≠0:=by simpa using h2
    rw[Mm e] at hf;refine Rr ?_;exact .mk (i+1) [] ⟨om,hf⟩ (bV ⟨a9 (.il' (aY _)),aG,⟨_,rfl,.w64 om ⟨om,om⟩⟩,trivial⟩) om
  ·have hil:i=vals.length:=by simp at h;omega
   rw[hil,Oe,c7] at hf;rw[hf];refine Rr ?_;exact aA nn ⟨rfl,rfl,rfl⟩
theorem J7(x:Nd)(hx:oH x):aZ prog [] 40 [.ip (bN x)] (.bool (cZ x)):=by
 have b1:=hx.lo;have b2:=hx.hi;have b3:=hx.weights;clear hx;obtain⟨kind,name,lo,hi,ws,ls,vals,kids,⟨vk,vn,vs,vks⟩⟩:=x;simp only[i64] at b1 b2 b3;have hnum:cZ ⟨kind,name,lo,hi,ws,ls,vals,kids,.mk vk vn vs vks⟩=(decide (lo<=hi) && decide (-4611686018427387904<=lo) && decide (hi<=4611686018427387904) && decide (hi<lo+1099511627776) && ws.all fun w=>decide (1<=w) && decide (w<=1000)):=rfl;generalize cZ ⟨kind,name,lo,hi,ws,ls,vals,kids,.mk vk vn vs vks⟩=res at hnum;have hF:∀P:Prop,(res=true->P)->(¬P)->res=false:=fun P h1 h2=>by
  cases hr:res with
  | false=>rfl
  | true=>exact absurd (h1 hr) h2
 refine aN bI func40 rfl ?_;refine Rt ?_;by_cases h1:lo<=hi
 ·have d1:decide (lo>hi)=false:=by simp;omega
  rw[d1];refine Rt ?_;by_cases h2 : -4611686018427387904<=lo
  ·have d2:decide (lo < -4611686018427387904)=false:=by simp;omega
   rw[d2];refine Rt ?_;by_cases h3:hi<=4611686018427387904
   ·have d3:decide (hi>4611686018427387904)=false:=by simp;omega
    rw[d3];refine Rt ?_;have hw:IntKind.u64.wrap (IntKind.u64.wrap hi-IntKind.u64.wrap lo)=hi-lo:=by rw[nN,nN,nN];omega
    simp only[hw];by_cases h4:hi<lo+1099511627776
    ·have d4:decide (hi-lo≥1099511627776)=false:=by simp;omega
     rw[d4];refine Rr ?_;refine a6.at bI (fun k:Nat=>k<=ws.length/\∀j w,j<k->ws[j]? = some w->1<=w/\w<=1000)
      (fun k=>⟨[(45,.il 1 (aX ws)),(46,.int .i64 ws.length),(47,.int .i64 k)],[],0,58⟩) (fun k=>ws.length-k) 0 [] ⟨by simp,by simp⟩
      (bV ⟨a9 (.il' (aS _)),⟨_,rfl,.int (by rw[aC])⟩,aG,trivial⟩) ?_
     rintro k ⟨hk,hall⟩;refine Rr ?_;refine aE (fun h=>?_) (fun h=>?_)
     ·have hlt:k<ws.length:=by simpa using h
      have e1:(aX ws)[(k:Int).toNat]? = some (.int .i64 ws[k]):=by rw[Mo,bL,Mf hlt];rfl
      have hg:ws[k]? = some ws[k]:=Mf hlt;generalize ws[k]=w at e1 hg;have hbad:(1<=w/\w<=1000->False)->res=false:=fun hb=>hF (1<=w/\w<=1000) (by
       intro e;rw[hnum] at e;simp only[Mg,Nj,M4] at e;exact e.2 w (My hg)) hb
      refine Rr ?_;refine aD e1 ?_;refine Rr ?_;by_cases g1:1<=w
      ·have d1:decide (w<1)=false:=by simp;omega
       rw[d1];refine Rr ?_;refine aE (fun h=>?_) (fun h=>?_)
       ·refine Rr ?_;refine aA nn ⟨?_,rfl,rfl⟩;rw[hbad (by simp at h;omega)]
       ·have g2:w<=1000:=by simpa using h
        refine Rr ?_;refine .mk (k+1) [] ⟨om,fun j w2 hj hw2=>?_⟩ (bV ⟨a9 (.il' (aS _)),aG,⟨_,rfl,.w64 om ⟨om,om⟩⟩,trivial⟩) om;rcases Mq j k with hj'|hj'
        ·exact hall j w2 hj' hw2
        ·have hjk:j=k:=om;rw[hjk,hg] at hw2;cases hw2;exact⟨g1,g2⟩
      ·have d1:decide (w<1)=true:=by simp;omega
       rw[d1];refine Rr ?_;refine aA nn ⟨?_,rfl,rfl⟩;rw[hbad om]
     ·have hk':k=ws.length:=by simp at h;omega
      refine Rr ?_;refine aA nn ⟨?_,rfl,rfl⟩;rw[hnum];congr 1;symm;simp only[Mg,Nj,M4];refine⟨⟨⟨⟨h1,h2⟩,h3⟩,h4⟩,fun w hw=>?_⟩;obtain⟨j,hj⟩:=M9 hw;exact hall j w (by rw[hk'];exact(Mi.1 hj).1) hj
    ·have d4:decide (hi-lo≥1099511627776)=true:=by simp;omega
     rw[d4];refine Rr ?_;refine aA nn ⟨?_,rfl,rfl⟩;rw[hF (hi<lo+1099511627776) (by intro e;rw[hnum] at e;simp at e;omega) h4]
   ·have d3:decide (hi>4611686018427387904)=true:=by simp;omega
    rw[d3];refine Rr ?_;refine aA nn ⟨?_,rfl,rfl⟩;rw[hF (hi<=4611686018427387904) (by intro e;rw[hnum] at e;simp at e;omega) h3]
  ·have d2:decide (lo < -4611686018427387904)=true:=by simp;omega
   rw[d2];refine Rr ?_;refine aA nn ⟨?_,rfl,rfl⟩;rw[hF (-4611686018427387904<=lo) (by intro e;rw[hnum] at e;simp at e;omega) h2]
 ·have d1:decide (lo>hi)=true:=by simp;omega
  rw[d1];refine Rr ?_;refine aA nn ⟨?_,rfl,rfl⟩;rw[hF (lo<=hi) (by intro e;rw[hnum] at e;simp at e;omega) h1]
theorem Jb(bs:List Int)(x:Nd)(hx:oH x)(hkl:x.kids.length<=65536)(hb:∀y∈bs,0<=y/\y<=1024)(hk:∀(j:Nat) (k:Int),x.kids[j]? = some k->0<=k/\k<bs.length)(h4:4<=x.kind->0<x.kids.length)(hkind:0<=x.kind/\x.kind<=4) :
  aZ prog [] 85 [.ip (bN x),.il 1 (aX bs)] (.int .i64 (Go.Ax.f9 bs x)):=by
 have hxn:=aQ x;have hat:∀k:Int,0<=eB bs k/\eB bs k<=1024:=fun k=>by
  unfold eB;rw[Mk];cases h:bs[k.toNat]? with
  | none=>simp
  | some y=>exact hb y (My h)
 have eat:∀k:Int,0<=k->k<bs.length->(aX bs)[k.toNat]? = some (.int .i64 (eB bs k)):=fun k h0 h1=>by
  have:k.toNat<bs.length:=om;rw[bL,Mf this];unfold eB;rw[Mk,Mf this];rfl
 have hs:=fun l=>fU (b:=bs) (M:=1024) om hb l
 have hm:=fun l=>gX (b:=bs) (M:=1024) om hb l
 have hlen:Go.Ax.f9 bs x=if x.kind=0 then 0 else if x.kind=1 then 1 else if x.kind=3 then eU bs x.kids else if x.kind=2 then 1+bZ bs (fT x) else eB bs (x.kids.getD 0 0)+bZ bs (fT x):=rfl
 have hM:∀k:Nat,k<x.kids.length->(bZ bs (if x.kind=2 then x.kids.take (k+1) else(x.kids.take (k+1)).drop 1))=if 0<k∨x.kind=2 then max (bZ bs (if x.kind=2 then x.kids.take k else(x.kids.take k).drop 1)) (eB bs (x.kids.getD k 0)) else bZ bs (if x.kind=2 then x.kids.take k else(x.kids.take k).drop 1):=fun k hk=>by
  have eg:x.kids.getD k 0=x.kids[k]:=by rw[Mk,Mf hk];rfl
  rw[eg];by_cases e2:x.kind=2
  ·rw[Mr e2,Mr (.inr e2),Mr e2,mI hk]
  ·rw[Mm e2,Mm e2];by_cases e0:0<k
   ·rw[Mr (.inl e0),kU hk e0]
   ·rw[Mm om];have:k=0:=om;subst this;simp[bZ,OY]
 obtain⟨kind,name,lo,hi,ws,ls,vals,kids,⟨vk,vn,vs,vks⟩⟩:=x;simp only at hkl hk h4 hkind hlen hM;generalize Go.Ax.f9 bs ⟨kind,name,lo,hi,ws,ls,vals,kids,.mk vk vn vs vks⟩=res at hlen;refine aN bI func85 rfl ?_;refine Rr ?_;refine a6.at bI (fun p:Nat × Int × Int=>p.1<=kids.length/\p.2.1=eU bs (kids.take p.1)/\p.2.2=bZ bs (if kind=2 then kids.take p.1 else(kids.take p.1).drop 1))
  (fun p=>⟨[(0,.ip (bN ⟨kind,name,lo,hi,ws,ls,vals,kids,.mk vk vn vs vks⟩)),(1,.il 1 (aX bs)),(5,.int .i64 p.2.1),(6,.int .i64 p.2.2),(12,.il 1 (aX kids)),(13,.int .i64 kids.length),(14,.int .i64 p.1)],[],0,67⟩)
  (fun p=>kids.length-p.1) (0,0,0) [] ⟨by simp,by simp[eU],by simp[bZ]⟩
  (bV ⟨a9 (.ip _ (hxn.cells.get)),a9 (.il' (aS _)),aG,aG,a9 (.il' (aS _)),⟨_,rfl,.int (by rw[aC])⟩,aG,trivial⟩) ?_
 rintro⟨k,sum,most⟩ ⟨hkk,hsum,hmost⟩;simp only at hkk hsum hmost ⊢;have bsum:=hs (kids.take k);rw[←hsum] at bsum;have bm:=hm (if kind=2 then kids.take k else(kids.take k).drop 1);rw[←hmost] at bm;have btk:(kids.take k).length<=65536:=by simp;omega
 refine Rr ?_;refine aE (fun h=>?_) (fun h=>?_)
 ·have hlt:k<kids.length:=by simpa using h
  have e1:(aX kids)[(k:Int).toNat]? = some (.int .i64 kids[k]):=by rw[Mo,bL,Mf hlt];rfl
  obtain⟨q0,q1⟩:=hk k _ (Mf hlt);have hst:=o8 (b:=bs) hlt;have hM:=hM k hlt;have eg:kids.getD k 0=kids[k]:=by rw[Mk,Mf hlt];rfl
  rw[←hsum] at hst;rw[eg,←hmost] at hM;generalize kids[k]=q at e1 q0 q1 hst hM;obtain⟨q,rfl⟩:=Mx q0;have e2:=eat q q0 q1;have hq:=hat q;generalize eB bs q=z at e2 hq hst hM;have hw:IntKind.i64.wrap (sum+z)=sum+z:=fC ⟨om,om⟩;refine Rr ?_;repeat((first|refine aD e1 ?_|refine aD e2 ?_);refine Rr ?_)
  by_cases k0:0<k
  ·have d0:decide ((k:Int)>0)=true:=by simp;omega
   rw[d0];refine Rr ?_;repeat((first|refine aD e1 ?_|refine aD e2 ?_);refine Rr ?_)
   exact .mk (k+1,sum+z,max most z) [] ⟨by simp only;omega,by simp only;rw[hst],by simp only;rw[hM,Mr (.inl k0)]⟩ (bV ⟨a9 (.ip _ (hxn.cells.get)),a9 (.il' (aS _)),⟨_,rfl,.int (by simp only;exact hw)⟩,⟨_,rfl,.int (by simp only;split<;>omega)⟩,a9 (.il' (aS _)),aG,⟨_,rfl,.wp⟩,trivial⟩) (by simp only;omega)
  ·have k0':k=0:=om;have d0:decide ((k:Int)>0)=false:=by simp;omega
   rw[d0];refine Rr ?_;by_cases k2:kind=2
   ·subst k2;refine Rr ?_;repeat((first|refine aD e1 ?_|refine aD e2 ?_);refine Rr ?_)
    exact .mk (k+1,sum+z,max most z) [] ⟨by simp only;omega,by simp only;rw[hst],by show max most z=bZ bs (if (2:Int)=2 then kids.take (k+1) else(kids.take (k+1)).drop 1);rw[hM,Mr (.inr rfl)]⟩ (bV ⟨a9 (.ip _ (hxn.cells.get)),a9 (.il' (aS _)),⟨_,rfl,.int (by simp only;exact hw)⟩,⟨_,rfl,.int (by simp only;split<;>omega)⟩,a9 (.il' (aS _)),aG,⟨_,rfl,.wp⟩,trivial⟩) (by simp only;omega)
   ·have d2:(kind == 2)=false:=by simpa using k2
    rw[d2];refine Rr ?_;exact .mk (k+1,sum+z,most) [] ⟨by simp only;omega,by simp only;rw[hst],by simp only;rw[hM,Mm om]⟩ (bV ⟨a9 (.ip _ (hxn.cells.get)),a9 (.il' (aS _)),⟨_,rfl,.int (by simp only;exact hw)⟩,aG,a9 (.il' (aS _)),aG,⟨_,rfl,.wp⟩,trivial⟩) (by simp only;omega)
 ·have hk':k=kids.length:=by simp at h;omega
  subst hk';rw[M2] at hsum hmost;have har:fT ⟨kind,name,lo,hi,ws,ls,vals,kids,.mk vk vn vs vks⟩=if kind=2 then kids else kids.drop 1:=rfl
  rw[har,←hmost,←hsum] at hlen;rcases(show kind=0∨kind=1∨kind=2∨kind=3∨kind=4 by omega) with rfl|rfl|rfl|rfl|rfl
  ·rw[hlen,Mr rfl];refine Rr ?_;exact aA nn ⟨rfl,rfl,rfl⟩
  ·rw[hlen,Mm (by decide),Mr rfl];refine Rr ?_;exact aA nn ⟨rfl,rfl,rfl⟩
  ·rw[hlen,Mm (by decide),Mm (by decide),Mm (by decide),Mr rfl];refine Rr ?_;rw[fC (n:=1+most) ⟨om,om⟩];exact aA nn ⟨rfl,rfl,rfl⟩
  ·rw[hlen,Mm (by decide),Mm (by decide),Mr rfl];refine Rr ?_;exact aA nn ⟨rfl,rfl,rfl⟩
  ·rw[hlen,Mm (by decide),Mm (by decide),Mm (by decide),Mm (by decide)];have hlt:0<kids.length:=h4 om;have e1:(aX kids)[(0:Int).toNat]? = some (.int .i64 kids[0]):=by rw[show (0:Int).toNat=0 from rfl,bL,Mf hlt];rfl
   obtain⟨q0,q1⟩:=hk 0 _ (Mf hlt);have eg:kids.getD 0 0=kids[0]:=by rw[Mk,Mf hlt];rfl
   rw[eg];generalize kids[0]=q at e1 q0 q1;obtain⟨q,rfl⟩:=Mx q0;have e2:=eat q q0 q1;have hq:=hat q;generalize eB bs q=z at e2 hq;refine Rr ?_;repeat((first|refine aD e1 ?_|refine aD e2 ?_);refine Rr ?_)
   rw[fC (n:=z+most) ⟨om,om⟩];exact aA nn ⟨rfl,rfl,rfl⟩
set_option maxHeartbeats 8000000
mutual
theorem EM:∀(a b:aT),bU a b=0->a=b
 | .mk k n s ks,.mk k' n' s' ks',h=>by
  simp only[bU,andThen] at h;split at h
  ·rename_i h1;split at h
   ·rename_i h2;split at h
    ·rename_i h3;have e1:k=k':=Decidable.byContradiction fun e=>o9 e h1
     have e2:n=n':=Decidable.byContradiction fun e=>o9 e h2
     rw[e1,e2,kF h3,Ei ks ks' h]
    ·rename_i h3;exact absurd h h3
   ·rename_i h2;exact absurd h h2
  ·rename_i h1;exact absurd h h1
theorem Ei:∀(l m:List aT),Go.Ax.d7 l m=0->l=m
 | [],[],_=>rfl
 | [],_::_,h=>by simp[Go.Ax.d7] at h
 | _::_,[],h=>by simp[Go.Ax.d7] at h
 | a::l,b::m,h=>by
  simp only[Go.Ax.d7,andThen] at h;split at h
  ·rename_i h1;rw[EM a b h1,Ei l m h]
  ·rename_i h1;exact absurd h h1
end
def mK(x:Nd):Bool:=decide (0<=x.kind) && decide (x.kind<=4) && gK x
theorem vG{v:aT}:kZ [] [] [cD v,.agg [.int .i64 0,.int .i64 0,.str [],.nsl]] [cD v,cD (.mk 0 0 [] [])]:=
 .cons (.same _ (eD v)) (.cons (.agg' (.s (.s (.s (.cons (.nil 4) .nil))))) .nil)
theorem J3(x:Nd)(hx:oH x):aZ prog [] 37 [.ip (bN x)] (.bool (mK x)):=by
 have hC:=n4 x.value (.mk 0 0 [] []) hx.value;have hz:(bU x.value (.mk 0 0 [] []) == 0)=xI x.value:=by
  obtain⟨k,n,s,ks⟩:=x.value;rw[NE];simp only[xI,Mg,M4,beq_iff_eq];constructor
  ·intro h;have:=EM _ _ h;cases this;simp
  ·rintro⟨⟨⟨rfl,rfl⟩,rfl⟩,h⟩;have:ks=[]:=Nb.1 h;subst this;exact(mE _).refl
 have hres:mK x=(decide (0<=x.kind) && decide (x.kind<=4) && ((decide (x.kind=0) || xI x.value) && (decide (x.kind=1) || (decide (x.lo=0) && decide (x.hi=0))) && (decide (x.kind=3) || decide (x.name=[])) &&
  (decide (x.kind=2) || (decide (x.weights.length=0) && decide (x.labels.length=0))) && (decide (x.kind=4) || decide (x.values.length=0)) && ((decide (x.kind≠0) && decide (x.kind≠1)) || decide (x.kids.length=0)))):=rfl
 generalize mK x=res at hres;rw[←hz] at hres;obtain⟨c,hc⟩:∃c,c=bU x.value (.mk 0 0 [] []):=⟨_,rfl⟩
 rw[←hc] at hC hres;clear hz hc hx;obtain⟨kind,name,lo,hi,ws,ls,vals,kids,⟨vk,vn,vs,vks⟩⟩:=x;simp only at hres hC;have eW:(((aX ws).length:Int) == 0)=decide (ws.length=0):=by rw[aC,NE];simp
 have eL:(((vX ls).length:Int) == 0)=decide (ls.length=0):=by rw[bA,NE];simp
 have eV:(((aO vals).length:Int) == 0)=decide (vals.length=0):=by rw[aB,NE];simp
 have eK:(((aX kids).length:Int) == 0)=decide (kids.length=0):=by rw[aC,NE];simp
 have eN:(name == [])=decide (name=[]):=by rw[NE];simp
 have e1:(lo == 0)=decide (lo=0):=by rw[NE];simp
 have e2:(hi == 0)=decide (hi=0):=by rw[NE];simp
 refine aN bI func37 rfl ?_;rcases(show kind=0∨kind=1∨kind=2∨kind=3∨kind=4∨(kind<0∨4<kind) by omega) with rfl|rfl|rfl|rfl|rfl|hk
 ·refine Rr ?_;rw[e1];generalize decide (lo=0)=b1 at hres ⊢;cases b1 with
  | false=>
   refine Rr ?_;exact aA nn ⟨by rw[hres];simp,rfl,rfl⟩
  | true=>
  refine Rr ?_;rw[e2];generalize decide (hi=0)=b2 at hres ⊢;cases b2 with
  | false=>
   refine Rr ?_;exact aA nn ⟨by rw[hres];simp,rfl,rfl⟩
  | true=>
  refine Rr ?_;rw[eW];generalize decide (ws.length=0)=b3 at hres ⊢;cases b3 with
  | false=>
   refine Rr ?_;exact aA nn ⟨by rw[hres];simp,rfl,rfl⟩
  | true=>
  refine Rr ?_;rw[eL];generalize decide (ls.length=0)=b4 at hres ⊢;cases b4 with
  | false=>
   refine Rr ?_;exact aA nn ⟨by rw[hres];simp,rfl,rfl⟩
  | true=>
  refine Rr ?_;rw[eN];generalize decide (name=[])=b5 at hres ⊢;cases b5 with
  | false=>
   refine Rr ?_;exact aA nn ⟨by rw[hres];simp,rfl,rfl⟩
  | true=>
  refine Rr ?_;rw[eV];generalize decide (vals.length=0)=b6 at hres ⊢;cases b6 with
  | false=>
   refine Rr ?_;exact aA nn ⟨by rw[hres];simp,rfl,rfl⟩
  | true=>
  refine Rr ?_;rw[eK];generalize decide (kids.length=0)=b7 at hres ⊢;cases b7 with
  | false=>
   refine Rr ?_;exact aA nn ⟨by rw[hres];simp,rfl,rfl⟩
  | true=>
  refine Rr ?_;exact aA nn ⟨by rw[hres];simp,rfl,rfl⟩
 ·refine Rr ?_;refine hC.useC bI vG nn ?_;refine Rr ?_;generalize (c == 0)=b1 at hres ⊢;cases b1 with
  | false=>
   refine Rr ?_;exact aA nn ⟨by rw[hres];simp,rfl,rfl⟩
  | true=>
  refine Rr ?_;rw[eW];generalize decide (ws.length=0)=b2 at hres ⊢;cases b2 with
  | false=>
   refine Rr ?_;exact aA nn ⟨by rw[hres];simp,rfl,rfl⟩
  | true=>
  refine Rr ?_;rw[eL];generalize decide (ls.length=0)=b3 at hres ⊢;cases b3 with
  | false=>
   refine Rr ?_;exact aA nn ⟨by rw[hres];simp,rfl,rfl⟩
  | true=>
  refine Rr ?_;rw[eN];generalize decide (name=[])=b4 at hres ⊢;cases b4 with
  | false=>
   refine Rr ?_;exact aA nn ⟨by rw[hres];simp,rfl,rfl⟩
  | true=>
  refine Rr ?_;rw[eV];generalize decide (vals.length=0)=b5 at hres ⊢;cases b5 with
  | false=>
   refine Rr ?_;exact aA nn ⟨by rw[hres];simp,rfl,rfl⟩
  | true=>
  refine Rr ?_;rw[eK];generalize decide (kids.length=0)=b6 at hres ⊢;cases b6 with
  | false=>
   refine Rr ?_;exact aA nn ⟨by rw[hres];simp,rfl,rfl⟩
  | true=>
  refine Rr ?_;exact aA nn ⟨by rw[hres];simp,rfl,rfl⟩
 ·refine Rr ?_;refine hC.useC bI vG nn ?_;refine Rr ?_;generalize (c == 0)=b1 at hres ⊢;cases b1 with
  | false=>
   refine Rr ?_;exact aA nn ⟨by rw[hres];simp,rfl,rfl⟩
  | true=>
  refine Rr ?_;rw[e1];generalize decide (lo=0)=b2 at hres ⊢;cases b2 with
  | false=>
   refine Rr ?_;exact aA nn ⟨by rw[hres];simp,rfl,rfl⟩
  | true=>
  refine Rr ?_;rw[e2];generalize decide (hi=0)=b3 at hres ⊢;cases b3 with
  | false=>
   refine Rr ?_;exact aA nn ⟨by rw[hres];simp,rfl,rfl⟩
  | true=>
  refine Rr ?_;rw[eN];generalize decide (name=[])=b4 at hres ⊢;cases b4 with
  | false=>
   refine Rr ?_;exact aA nn ⟨by rw[hres];simp,rfl,rfl⟩
  | true=>
  refine Rr ?_;rw[eV];generalize decide (vals.length=0)=b5 at hres ⊢;cases b5 with
  | false=>
   refine Rr ?_;exact aA nn ⟨by rw[hres];simp,rfl,rfl⟩
  | true=>
  refine Rr ?_;exact aA nn ⟨by rw[hres];simp,rfl,rfl⟩
 ·refine Rr ?_;refine hC.useC bI vG nn ?_;refine Rr ?_;generalize (c == 0)=b1 at hres ⊢;cases b1 with
  | false=>
   refine Rr ?_;exact aA nn ⟨by rw[hres];simp,rfl,rfl⟩
  | true=>
  refine Rr ?_;rw[e1];generalize decide (lo=0)=b2 at hres ⊢;cases b2 with
  | false=>
   refine Rr ?_;exact aA nn ⟨by rw[hres];simp,rfl,rfl⟩
  | true=>
  refine Rr ?_;rw[e2];generalize decide (hi=0)=b3 at hres ⊢;cases b3 with
  | false=>
   refine Rr ?_;exact aA nn ⟨by rw[hres];simp,rfl,rfl⟩
  | true=>
  refine Rr ?_;rw[eW];generalize decide (ws.length=0)=b4 at hres ⊢;cases b4 with
  | false=>
   refine Rr ?_;exact aA nn ⟨by rw[hres];simp,rfl,rfl⟩
  | true=>
  refine Rr ?_;rw[eL];generalize decide (ls.length=0)=b5 at hres ⊢;cases b5 with
  | false=>
   refine Rr ?_;exact aA nn ⟨by rw[hres];simp,rfl,rfl⟩
  | true=>
  refine Rr ?_;rw[eV];generalize decide (vals.length=0)=b6 at hres ⊢;cases b6 with
  | false=>
   refine Rr ?_;exact aA nn ⟨by rw[hres];simp,rfl,rfl⟩
  | true=>
  refine Rr ?_;exact aA nn ⟨by rw[hres];simp,rfl,rfl⟩
 ·refine Rr ?_;refine hC.useC bI vG nn ?_;refine Rr ?_;generalize (c == 0)=b1 at hres ⊢;cases b1 with
  | false=>
   refine Rr ?_;exact aA nn ⟨by rw[hres];simp,rfl,rfl⟩
  | true=>
  refine Rr ?_;rw[e1];generalize decide (lo=0)=b2 at hres ⊢;cases b2 with
  | false=>
   refine Rr ?_;exact aA nn ⟨by rw[hres];simp,rfl,rfl⟩
  | true=>
  refine Rr ?_;rw[e2];generalize decide (hi=0)=b3 at hres ⊢;cases b3 with
  | false=>
   refine Rr ?_;exact aA nn ⟨by rw[hres];simp,rfl,rfl⟩
  | true=>
  refine Rr ?_;rw[eW];generalize decide (ws.length=0)=b4 at hres ⊢;cases b4 with
  | false=>
   refine Rr ?_;exact aA nn ⟨by rw[hres];simp,rfl,rfl⟩
  | true=>
  refine Rr ?_;rw[eL];generalize decide (ls.length=0)=b5 at hres ⊢;cases b5 with
  | false=>
   refine Rr ?_;exact aA nn ⟨by rw[hres];simp,rfl,rfl⟩
  | true=>
  refine Rr ?_;rw[eN];generalize decide (name=[])=b6 at hres ⊢;cases b6 with
  | false=>
   refine Rr ?_;exact aA nn ⟨by rw[hres];simp,rfl,rfl⟩
  | true=>
  refine Rr ?_;exact aA nn ⟨by rw[hres];simp,rfl,rfl⟩
 ·rcases hk with hk|hk
  ·have d0:decide (kind≥0)=false:=by simp;omega
   refine Rr ?_;rw[d0];refine Rr ?_;exact aA nn ⟨by rw[hres,Nz (show ¬0<=kind by omega)];simp,rfl,rfl⟩
  ·have d0:decide (kind≥0)=true:=by simp;omega
   have d1:decide (kind<=4)=false:=by simp;omega
   refine Rr ?_;rw[d0];refine Rr ?_;rw[d1];refine Rr ?_;exact aA nn ⟨by rw[hres,d1];simp,rfl,rfl⟩
set_option maxHeartbeats 8000000
theorem Io(ns:List Nd)(i:Nat)(x:Nd)(hl:ns.length<=4294967296)(hi:ns[i]? = some x)(hx:oH x)(hvl:x.values.length<=1000000)(hc:mK x=true) :
  aZ prog [] 38 [.ip (.agg [.il 12 (a7 ns),.junk,.junk,.junk]),.int .i64 i] (.bool (cK i x)):=by
 have hil:=(Mi.1 hi).1;have ex:(a7 ns)[(i:Int).toNat]? = some (bN x):=by simp[mD,hi]
 have b1:=hx.kids;have hxn:=aQ x;have hnn:=aR ns;have hcmp:∀a∈x.values,∀b,aZ prog [] 83 [cD a,cD b] (.int .i64 (bU a b)):=fun a ha b=>n4 a b (hx.valuesI a ha).1
 have hV:=EC (.mk 3 0 x.name []) (jH ⟨om,om⟩ ⟨om,om⟩ hx.name (by simp) (by simp[tX])) (by simp[aU,bR]);have hcap:(Go.Ax.d9 (.mk 3 0 x.name []) == 0)=dI x.name:=by
  simp only[Go.Ax.d9,bJ,bY,cN,jS,sG,lZ,aU,bR];cases dI x.name<;>simp
 have hres:cK i x=(gK x && (decide (0<=x.kind) && decide (x.kind<=4)) && jM i x.kids && (decide (x.kind≠2) || (decide (1<=x.kids.length) && decide (x.kids.length<=256) && decide (x.weights.length=x.kids.length) && (decide (x.labels.length=0) || decide (x.labels.length=x.kids.length)))) &&
  (decide (x.kind≠3) || (decide (x.kids.length<=256) && (decide (x.name=[]) || (dI x.name && decide (x.kids.length<=16))))) && (decide (x.kind≠4) || decide (x.kids.length=x.values.length+1)) && cW x.values):=rfl
 simp only[mK,Mg,M4] at hc;obtain⟨⟨hk0,hk4⟩,hun⟩:=hc;rw[hun,NB hk0,NB hk4] at hres;have hvs:x.kind≠4->x.values=[]:=fun h=>by
  unfold gK at hun;simp only[Mg,Na,M4] at hun;rcases hun.1.2 with h'|h'
  ·exact absurd h' h
  ·exact Nb.1 h'
 generalize cK i x=res at hres;rw[←hcap] at hres;generalize Go.Ax.d9 (.mk 3 0 x.name [])=cv at hV hres;clear hx hcap hi hun;obtain⟨kind,name,lo,hi,ws,ls,vals,kids,⟨vk,vn,vs,vks⟩⟩:=x;simp only at hres hV hcmp hvs hk0 hk4 b1 hvl;have hF:(res=true->False)->AV.bool false=AV.bool res:=fun h1=>by
  cases hr:res with
  | false=>rfl
  | true=>exact(h1 hr).elim
 refine aN bI func38 rfl ?_;refine Rr ?_;repeat(refine aD ex ?_;refine Rr ?_)
 refine a6.at bI (fun k:Nat=>k<=kids.length/\∀(j:Nat) (q:Int),j<k->kids[j]? = some q->0<=q/\q<i)
  (fun k=>⟨[(1,.int .i64 i),(5,.ip (bN ⟨kind,name,lo,hi,ws,ls,vals,kids,.mk vk vn vs vks⟩)),(6,.int .i64 kids.length),(24,.il 1 (aX kids)),(25,.int .i64 kids.length),(26,.int .i64 k)],[],0,132⟩) (fun k=>kids.length-k) 0 [] ⟨by simp,by simp⟩
  (bV ⟨aG,a9 (.ip _ (hxn.cells.get)),⟨_,rfl,.int (by rw[aC])⟩,a9 (.il' (aS _)),⟨_,rfl,.int (by rw[aC])⟩,aG,trivial⟩) ?_
 rintro k ⟨hk,hall⟩;refine Rr ?_;refine aE (fun h=>?_) (fun h=>?_)
 ·have hlt:k<kids.length:=by simpa using h
  have e1:(aX kids)[(k:Int).toNat]? = some (.int .i64 kids[k]):=by rw[Mo,bL,Mf hlt];rfl
  have hg:kids[k]? = some kids[k]:=Mf hlt;generalize kids[k]=q at e1 hg;have hbad:(0<=q/\q<i->False)->AV.bool false=AV.bool res:=fun hb=>hF (by
   intro e;rw[hres] at e;simp only[Mg] at e;exact hb (c8.1 e.1.1.1.1.2 k q hg))
  refine Rr ?_;refine aD e1 ?_;refine Rr ?_;by_cases g1:0<=q
  ·have d1:decide (q<0)=false:=by simp;omega
   rw[d1];refine Rr ?_;refine aE (fun h=>?_) (fun h=>?_)
   ·refine Rr ?_;exact aA nn ⟨hbad (by simp at h;omega),rfl,rfl⟩
   ·have g2:q<i:=by simpa using h
    refine Rr ?_;refine .mk (k+1) [] ⟨om,fun j w2 hj hw2=>?_⟩ (bV ⟨aG,a9 (.ip _ (hxn.cells.get)),aG,a9 (.il' (aS _)),aG,⟨_,rfl,.w64 om ⟨om,om⟩⟩,trivial⟩) om;rcases Mq j k with hj'|hj'
    ·exact hall j w2 hj' hw2
    ·have hjk:j=k:=om;rw[hjk,hg] at hw2;cases hw2;exact⟨g1,g2⟩
  ·have d1:decide (q<0)=true:=by simp;omega
   rw[d1];refine Rr ?_;exact aA nn ⟨hbad om,rfl,rfl⟩
 ·have hk':k=kids.length:=by simp at h;omega
  have hkin:jM i kids=true:=c8.2 fun j q hj=>hall j q (by rw[hk'];exact(Mi.1 hj).1) hj
  rw[hkin] at hres;clear hall hk hk' h hkin;rcases(show kind=0∨kind=1∨kind=2∨kind=3∨kind=4 by omega) with rfl|rfl|rfl|rfl|rfl
  ·obtain rfl:=hvs (by decide);refine Rr ?_;exact aA nn ⟨by rw[hres];simp[cW],rfl,rfl⟩
  ·obtain rfl:=hvs (by decide);refine Rr ?_;exact aA nn ⟨by rw[hres];simp[cW],rfl,rfl⟩
  ·obtain rfl:=hvs (by decide);have f1:decide ((kids.length:Int)≥1)=decide (1<=kids.length):=by rw[NE];simp;omega
   have f2:decide ((kids.length:Int)<=256)=decide (kids.length<=256):=by rw[NE];simp;omega
   have f3:(((aX ws).length:Int) == (kids.length:Int))=decide (ws.length=kids.length):=by rw[aC,NE];simp;omega
   have f4:(((vX ls).length:Int) == 0)=decide (ls.length=0):=by rw[bA,NE];simp
   have f5:(((vX ls).length:Int) == (kids.length:Int))=decide (ls.length=kids.length):=by rw[bA,NE];simp;omega
   refine Rr ?_;rw[f1];generalize decide (1<=kids.length)=b1 at hres ⊢;cases b1 with
   | false=>
    refine Rr ?_;exact aA nn ⟨by rw[hres];simp,rfl,rfl⟩
   | true=>
   refine Rr ?_;rw[f2];generalize decide (kids.length<=256)=b2 at hres ⊢;cases b2 with
   | false=>
    refine Rr ?_;exact aA nn ⟨by rw[hres];simp,rfl,rfl⟩
   | true=>
   refine Rr ?_;rw[f3];generalize decide (ws.length=kids.length)=b3 at hres ⊢;cases b3 with
   | false=>
    refine Rr ?_;exact aA nn ⟨by rw[hres];simp,rfl,rfl⟩
   | true=>
   refine Rr ?_;rw[f4];generalize decide (ls.length=0)=b4 at hres ⊢;cases b4 with
   | true=>
    refine Rr ?_;exact aA nn ⟨by rw[hres];simp[cW],rfl,rfl⟩
   | false=>
    refine Rr ?_;rw[f5];exact aA nn ⟨by rw[hres];simp[cW],rfl,rfl⟩
  ·obtain rfl:=hvs (by decide);have f1:decide ((kids.length:Int)<=16)=decide (kids.length<=16):=by rw[NE];simp;omega
   have f2:decide ((kids.length:Int)<=256)=decide (kids.length<=256):=by rw[NE];simp;omega
   refine Rr ?_;refine aE (fun h=>?_) (fun h=>?_)
   ·have hn:name=[]:=by simpa using h
    rw[NB hn] at hres;refine Rr ?_;rw[f2];exact aA nn ⟨by rw[hres];simp[cW],rfl,rfl⟩
   ·have hn:¬name=[]:=by simpa using h
    rw[Nz hn] at hres;refine Rr ?_;rw[f1];by_cases g:kids.length<=16
    ·rw[NB g] at hres ⊢;rw[NB (show kids.length<=256 by omega)] at hres;refine Rr ?_;refine hV.useC bI (.cons (.agg' (.s (.s (.s (.cons (.nil 4) .nil))))) .nil) nn ?_;refine Rr ?_;exact aA nn ⟨by rw[hres];simp[cW],rfl,rfl⟩
    ·rw[Nz g] at hres ⊢;refine Rr ?_;exact aA nn ⟨by rw[hres];simp,rfl,rfl⟩
  ·have hw4:IntKind.i64.wrap ((vals.length:Int)+1)=(vals.length:Int)+1:=w64 rfl ⟨om,om⟩;refine Rr ?_;refine a6.at bI (fun k:Nat=>1<=k/\k<=max 1 vals.length/\∀(j:Nat) (a b:aT),j+1<k->vals[j]? = some a->vals[j+1]? = some b->bU a b<0)
    (fun k=>⟨[(5,.ip (bN ⟨4,name,lo,hi,ws,ls,vals,kids,.mk vk vn vs vks⟩)),(6,.int .i64 kids.length),(9,.int .i64 k)],[],0,132⟩) (fun k=>vals.length-k) 1 [] ⟨om,om,fun j a b h=>om⟩
    (bV ⟨a9 (.ip _ (hxn.cells.get)),aG,aG,trivial⟩) ?_
   rintro k ⟨hk1,hk2,hall⟩;refine Rr ?_;refine aE (fun h=>?_) (fun h=>?_)
   ·have hlt:k<vals.length:=by rw[aB] at h;simpa using h
    obtain⟨p1,p2,p3,p4,pm,pg,-,ep⟩:=bK (l:=vals) (k:=k-1) om;obtain⟨q1,q2,q3,q4,qm,qg,-,eq⟩:=bK (l:=vals) (k:=k) hlt;have hw1:IntKind.i64.wrap ((k:Int)-1)=((k-1:Nat):Int):=w64 om ⟨om,om⟩;have hc:=hcmp _ pm (.mk q1 q2 q3 q4);obtain⟨c,hc0⟩:∃c,c=bU (.mk p1 p2 p3 p4) (.mk q1 q2 q3 q4):=⟨_,rfl⟩
    rw[←hc0] at hc;refine Rt ?_;rw[hw1];refine Rr ?_;repeat((first|refine aD ep ?_|refine aD eq ?_|refine bW ?_);refine Rr ?_)
    refine hc.go ?_;refine Rr ?_;repeat((first|refine aD ep ?_|refine aD eq ?_|refine bW ?_);refine Rr ?_)
    refine aE (fun h=>?_) (fun h=>?_)
    ·refine Rr ?_;refine aA nn ⟨hF ?_,rfl,rfl⟩;intro e;rw[hres] at e;simp only[Mg] at e;have:=gM e.2 (k-1) _ _ pg (by rw[show k-1+1=k by omega];exact qg);rw[←hc0] at this;simp at h;omega
    ·refine Rr ?_;refine .mk (k+1) [] ⟨om,om,fun j a b hj ha hb=>?_⟩ (bV ⟨a9 (.ip _ (hxn.cells.get)),aG,⟨_,rfl,.w64 om ⟨om,om⟩⟩,trivial⟩) om;rcases Mq (j+1) k with hj'|hj'
     ·exact hall j a b hj' ha hb
     ·have hjk:j=k-1:=om;subst hjk;rw[pg] at ha;rw[show k-1+1=k by omega,qg] at hb;cases ha;cases hb;rw[←hc0];simpa using h
   ·have hlt:vals.length<=k:=by rw[aB] at h;simpa using h
    have hso:cW vals=true:=gQ fun j a b ha hb=>hall j a b (by have:=(Mi.1 hb).1;omega) ha hb
    rw[hso] at hres;refine Rr ?_;rw[aB,hw4];refine aA nn ⟨?_,rfl,rfl⟩;rw[hres];congr 1;rw[NE];simp;omega
end Go.Proofs.YtpajadlnaokngaaGreatDoor
namespace Go.Ax
open Go
def dF(a b:List aT):List aT:=match a,b with
 | [],b=>b
 | a,[]=>a
 | x::l,y::m=>if bU x y<0 then x::dF l (y::m) else if bU x y=0 then x::dF l m else y::dF (x::l) m
termination_by a.length+b.length
theorem yE(b:List aT):dF [] b=b:=by rw[dF]
theorem B8(a:List aT):dF a []=a:=by
 cases a with
 | nil=>rw[dF]
 | cons x l=>rw[dF];simp
theorem Cy(x y:aT)(l m:List aT):dF (x::l) (y::m)=if bU x y<0 then x::dF l (y::m) else if bU x y=0 then x::dF l m else y::dF (x::l) m:=by rw[dF]
end Go.Ax
