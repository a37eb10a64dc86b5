/- A part of the proof. -/
import Derived.Test.YtioogodkiglceaaGreatDoorAx15
set_option linter.unusedVariables false
set_option linter.unusedSimpArgs false
set_option linter.unusedSectionVars false
namespace Go.Proofs.YtioogodkiglceaaGreatDoor
open Go Go.Ax Go.Proofs Tryz
set_option maxRecDepth 100000
set_option maxHeartbeats 8000000
theorem KO(x:Nd)(ks:List a6):bB prog [] 57 [.ip (bW x),.il 4 (aQ ks)] (bS (dP x.name ks)):=by
 obtain⟨kind,name,lo,hi,ws,ls,vals,kids,⟨vk,vn,vs,vks⟩⟩:=x;refine aK bG func57 rfl ?_;unfold dP;refine Rr ?_;refine aI (fun h=>?_) (fun h=>?_)
 ·have h1:name=[]:=by simpa using h
  rw[Vb h1];refine Rr ?_;exact aA nn ⟨rfl,rfl,rfl⟩
 ·have h1:¬name=[]:=by simpa using h
  rw[VY h1];refine Rt ?_;exact aA nn ⟨rfl,rfl,rfl⟩
theorem Rh(x:Nd)(hx:n4 x)(hs:bF x.value<=1048576)(hv:∀v∈x.values,bF v<=1048576)(h0:x.kind=0->x.values=[]):bB prog [] 40 [.ip (bW x)] (.int .i64 (eM (mT x))):=by
 have hV:=JY x.value hx.value hs;have hvv:=hx.valuesI;have hvl:=hx.values;obtain⟨kind,name,lo,hi,ws,ls,vals,kids,⟨vk,vn,vs,vks⟩⟩:=x;simp only at hV hv h0 hvv hvl;refine aK bG func40 rfl ?_;refine Rr ?_;refine aI (fun h=>?_) (fun h=>?_)
 ·have h1:kind=0:=by simpa using h
  subst h1;have e:eM (mT ⟨0,name,lo,hi,ws,ls,vals,kids,.mk vk vn vs vks⟩)=fL (.mk vk vn vs vks):=by
   rw[h0 rfl];simp only[mT,if_true,Wg,eM];split
   ·rfl
   ·rename_i h;simpa using (Decidable.not_not.1 h).symm
  rw[e];generalize fL (.mk vk vn vs vks)=z at hV;refine Rr ?_;refine hV.go ?_;refine Rr ?_;exact aA nn ⟨rfl,rfl,rfl⟩
 ·have h1:¬kind=0:=by simpa using h
  have e:mT ⟨kind,name,lo,hi,ws,ls,vals,kids,.mk vk vn vs vks⟩=vals:=by simp[mT,h1]
  rw[e];refine Rr ?_;refine bC.at bG (fun i:Nat=>i<=vals.length/\eM vals=eM (vals.drop i)) (fun i=>⟨[(19,.il 4 (aQ vals)),(20,.int .i64 vals.length),(21,.int .i64 i)],[],0,31⟩) (fun i=>vals.length-i) 0 [] ⟨by simp,by simp⟩
   (bX ⟨aR (.il' (aO _)),⟨_,rfl,.int (by rw[aB])⟩,aF,trivial⟩) ?_
  rintro i ⟨hi,hf⟩;refine Rr ?_;refine aI (fun h=>?_) (fun h=>?_)
  ·have hil:i<vals.length:=by simpa using h
   have ei:(aQ vals)[((i:Nat):Int).toNat]? = some (bS vals[i]):=by simp[iT,VV hil]
   have hm:=Vw hil;have hV2:=JY vals[i] (hvv _ hm).1 (hv _ hm);rw[List.drop_eq_getElem_cons hil,eM] at hf;generalize vals[i]=y at ei hV2 hf;generalize fL y=z at hV2 hf;obtain⟨y1,y2,y3,y4⟩:=y;refine Rr ?_;refine aD ei ?_;refine Rr ?_;refine hV2.go ?_;refine Rr ?_;refine aI (fun h2=>?_) (fun h2=>?_)
   ·have e:z≠0:=by simpa using h2
    rw[Vb e] at hf;rw[hf];refine Rr ?_;exact aA nn ⟨rfl,rfl,rfl⟩
   ·have e:¬z≠0:=by simpa using h2
    rw[VY e] at hf;refine Rr ?_;exact .mk (i+1) [] ⟨om,hf⟩ (bX ⟨aR (.il' (aO _)),aF,⟨_,rfl,.w64 om ⟨om,om⟩⟩,trivial⟩) om
  ·have hil:i=vals.length:=by simp at h;omega
   rw[hil,Wf,eM] at hf;rw[hf];refine Rr ?_;exact aA nn ⟨rfl,rfl,rfl⟩
theorem Rm(x:Nd)(hx:n4 x):bB prog [] 41 [.ip (bW x)] (.bool (dX x)):=by
 have b1:=hx.lo;have b2:=hx.hi;have b3:=hx.weights;clear hx;obtain⟨kind,name,lo,hi,ws,ls,vals,kids,⟨vk,vn,vs,vks⟩⟩:=x;simp only[i64] at b1 b2 b3;have hnum:dX ⟨kind,name,lo,hi,ws,ls,vals,kids,.mk vk vn vs vks⟩=(decide (lo<=hi) && decide (-4611686018427387904<=lo) && decide (hi<=4611686018427387904) && decide (hi<lo+1099511627776) && ws.all fun w=>decide (1<=w) && decide (w<=1000)):=rfl;generalize dX ⟨kind,name,lo,hi,ws,ls,vals,kids,.mk vk vn vs vks⟩=res at hnum;have hF:∀P:Prop,(res=true->P)->(¬P)->res=false:=fun P h1 h2=>by
  cases hr:res with
  | false=>rfl
  | true=>exact absurd (h1 hr) h2
 refine aK bG func41 rfl ?_;refine Rt ?_;by_cases h1:lo<=hi
 ·have d1:decide (lo>hi)=false:=by simp;omega
  rw[d1];refine Rt ?_;by_cases h2 : -4611686018427387904<=lo
  ·have d2:decide (lo < -4611686018427387904)=false:=by simp;omega
   rw[d2];refine Rt ?_;by_cases h3:hi<=4611686018427387904
   ·have d3:decide (hi>4611686018427387904)=false:=by simp;omega
    rw[d3];refine Rt ?_;have hw:IntKind.u64.wrap (IntKind.u64.wrap hi-IntKind.u64.wrap lo)=hi-lo:=by rw[fQ,fQ,fQ];omega
    simp only[hw];by_cases h4:hi<lo+1099511627776
    ·have d4:decide (hi-lo≥1099511627776)=false:=by simp;omega
     rw[d4];refine Rr ?_;refine bC.at bG (fun k:Nat=>k<=ws.length/\∀j w,j<k->ws[j]? = some w->1<=w/\w<=1000)
      (fun k=>⟨[(45,.il 1 (aS ws)),(46,.int .i64 ws.length),(47,.int .i64 k)],[],0,58⟩) (fun k=>ws.length-k) 0 [] ⟨by simp,by simp⟩
      (bX ⟨aR (.il' (aM _)),⟨_,rfl,.int (by rw[aC])⟩,aF,trivial⟩) ?_
     rintro k ⟨hk,hall⟩;refine Rr ?_;refine aI (fun h=>?_) (fun h=>?_)
     ·have hlt:k<ws.length:=by simpa using h
      have e1:(aS ws)[(k:Int).toNat]? = some (.int .i64 ws[k]):=by rw[Va,a8,VV hlt];rfl
      have hg:ws[k]? = some ws[k]:=VV hlt;generalize ws[k]=w at e1 hg;have hbad:(1<=w/\w<=1000->False)->res=false:=fun hb=>hF (1<=w/\w<=1000) (by
       intro e;rw[hnum] at e;simp only[VZ,WW,Vt] at e;exact e.2 w (Ve hg)) hb
      refine Rr ?_;refine aD e1 ?_;refine Rr ?_;by_cases g1:1<=w
      ·have d1:decide (w<1)=false:=by simp;omega
       rw[d1];refine Rr ?_;refine aI (fun h=>?_) (fun h=>?_)
       ·refine Rr ?_;refine aA nn ⟨?_,rfl,rfl⟩;rw[hbad (by simp at h;omega)]
       ·have g2:w<=1000:=by simpa using h
        refine Rr ?_;refine .mk (k+1) [] ⟨om,fun j w2 hj hw2=>?_⟩ (bX ⟨aR (.il' (aM _)),aF,⟨_,rfl,.w64 om ⟨om,om⟩⟩,trivial⟩) om;rcases Vm j k with hj'|hj'
        ·exact hall j w2 hj' hw2
        ·have hjk:j=k:=om;rw[hjk,hg] at hw2;cases hw2;exact⟨g1,g2⟩
      ·have d1:decide (w<1)=true:=by simp;omega
       rw[d1];refine Rr ?_;refine aA nn ⟨?_,rfl,rfl⟩;rw[hbad om]
     ·have hk':k=ws.length:=by simp at h;omega
      refine Rr ?_;refine aA nn ⟨?_,rfl,rfl⟩;rw[hnum];congr 1;symm;simp only[VZ,WW,Vt];refine⟨⟨⟨⟨h1,h2⟩,h3⟩,h4⟩,fun w hw=>?_⟩;obtain⟨j,hj⟩:=V2 hw;exact hall j w (by rw[hk'];exact(VX.1 hj).1) hj
    ·have d4:decide (hi-lo≥1099511627776)=true:=by simp;omega
     rw[d4];refine Rr ?_;refine aA nn ⟨?_,rfl,rfl⟩;rw[hF (hi<lo+1099511627776) (by intro e;rw[hnum] at e;simp at e;omega) h4]
   ·have d3:decide (hi>4611686018427387904)=true:=by simp;omega
    rw[d3];refine Rr ?_;refine aA nn ⟨?_,rfl,rfl⟩;rw[hF (hi<=4611686018427387904) (by intro e;rw[hnum] at e;simp at e;omega) h3]
  ·have d2:decide (lo < -4611686018427387904)=true:=by simp;omega
   rw[d2];refine Rr ?_;refine aA nn ⟨?_,rfl,rfl⟩;rw[hF (-4611686018427387904<=lo) (by intro e;rw[hnum] at e;simp at e;omega) h2]
 ·have d1:decide (lo>hi)=true:=by simp;omega
  rw[d1];refine Rr ?_;refine aA nn ⟨?_,rfl,rfl⟩;rw[hF (lo<=hi) (by intro e;rw[hnum] at e;simp at e;omega) h1]
theorem KC(bs:List Int)(x:Nd)(hx:n4 x)(hkl:x.kids.length<=65536)(hb:∀y∈bs,0<=y/\y<=1024)(hk:∀(j:Nat) (k:Int),x.kids[j]? = some k->0<=k/\k<bs.length)(h4:4<=x.kind->0<x.kids.length)(hkind:0<=x.kind/\x.kind<=4) :
  bB prog [] 56 [.ip (bW x),.il 1 (aS bs)] (.int .i64 (Go.Ax.d9 bs x)):=by
 have hxn:=aV x;have hat:∀k:Int,0<=dR bs k/\dR bs k<=1024:=fun k=>by
  unfold dR;rw[VW];cases h:bs[k.toNat]? with
  | none=>simp
  | some y=>exact hb y (Ve h)
 have eat:∀k:Int,0<=k->k<bs.length->(aS bs)[k.toNat]? = some (.int .i64 (dR bs k)):=fun k h0 h1=>by
  have:k.toNat<bs.length:=om;rw[a8,VV this];unfold dR;rw[VW,VV this];rfl
 have hs:=fun l=>jA (b:=bs) (M:=1024) om hb l
 have hm:=fun l=>gP (b:=bs) (M:=1024) om hb l
 have hlen:Go.Ax.d9 bs x=if x.kind=0 then 0 else if x.kind=1 then 1 else if x.kind=3 then fB bs x.kids else if x.kind=2 then 1+cQ bs (dU x) else dR bs (x.kids.getD 0 0)+cQ bs (dU x):=rfl
 have hM:∀k:Nat,k<x.kids.length->(cQ bs (if x.kind=2 then x.kids.take (k+1) else(x.kids.take (k+1)).drop 1))=if 0<k∨x.kind=2 then max (cQ bs (if x.kind=2 then x.kids.take k else(x.kids.take k).drop 1)) (dR bs (x.kids.getD k 0)) else cQ bs (if x.kind=2 then x.kids.take k else(x.kids.take k).drop 1):=fun k hk=>by
  have eg:x.kids.getD k 0=x.kids[k]:=by rw[VW,VV hk];rfl
  rw[eg];by_cases e2:x.kind=2
  ·rw[Vb e2,Vb (.inr e2),Vb e2,rZ hk]
  ·rw[VY e2,VY e2];by_cases e0:0<k
   ·rw[Vb (.inl e0),pR hk e0]
   ·rw[VY om];have:k=0:=om;subst this;simp[cQ,Xj]
 obtain⟨kind,name,lo,hi,ws,ls,vals,kids,⟨vk,vn,vs,vks⟩⟩:=x;simp only at hkl hk h4 hkind hlen hM;generalize Go.Ax.d9 bs ⟨kind,name,lo,hi,ws,ls,vals,kids,.mk vk vn vs vks⟩=res at hlen;refine aK bG func56 rfl ?_;refine Rr ?_;refine bC.at bG (fun p:Nat × Int × Int=>p.1<=kids.length/\p.2.1=fB bs (kids.take p.1)/\p.2.2=cQ bs (if kind=2 then kids.take p.1 else(kids.take p.1).drop 1))
  (fun p=>⟨[(0,.ip (bW ⟨kind,name,lo,hi,ws,ls,vals,kids,.mk vk vn vs vks⟩)),(1,.il 1 (aS bs)),(5,.int .i64 p.2.1),(6,.int .i64 p.2.2),(12,.il 1 (aS kids)),(13,.int .i64 kids.length),(14,.int .i64 p.1)],[],0,67⟩)
  (fun p=>kids.length-p.1) (0,0,0) [] ⟨by simp,by simp[fB],by simp[cQ]⟩
  (bX ⟨aR (.ip _ (hxn.cells.get)),aR (.il' (aM _)),aF,aF,aR (.il' (aM _)),⟨_,rfl,.int (by rw[aC])⟩,aF,trivial⟩) ?_
 rintro⟨k,sum,most⟩ ⟨hkk,hsum,hmost⟩;simp only at hkk hsum hmost ⊢;have bsum:=hs (kids.take k);rw[←hsum] at bsum;have bm:=hm (if kind=2 then kids.take k else(kids.take k).drop 1);rw[←hmost] at bm;have btk:(kids.take k).length<=65536:=by simp;omega
 refine Rr ?_;refine aI (fun h=>?_) (fun h=>?_)
 ·have hlt:k<kids.length:=by simpa using h
  have e1:(aS kids)[(k:Int).toNat]? = some (.int .i64 kids[k]):=by rw[Va,a8,VV hlt];rfl
  obtain⟨q0,q1⟩:=hk k _ (VV hlt);have hst:=wF (b:=bs) hlt;have hM:=hM k hlt;have eg:kids.getD k 0=kids[k]:=by rw[VW,VV hlt];rfl
  rw[←hsum] at hst;rw[eg,←hmost] at hM;generalize kids[k]=q at e1 q0 q1 hst hM;obtain⟨q,rfl⟩:=Vk q0;have e2:=eat q q0 q1;have hq:=hat q;generalize dR bs q=z at e2 hq hst hM;have hw:IntKind.i64.wrap (sum+z)=sum+z:=cV ⟨om,om⟩;refine Rr ?_;repeat((first|refine aD e1 ?_|refine aD e2 ?_);refine Rr ?_)
  by_cases k0:0<k
  ·have d0:decide ((k:Int)>0)=true:=by simp;omega
   rw[d0];refine Rr ?_;repeat((first|refine aD e1 ?_|refine aD e2 ?_);refine Rr ?_)
   exact .mk (k+1,sum+z,max most z) [] ⟨by simp only;omega,by simp only;rw[hst],by simp only;rw[hM,Vb (.inl k0)]⟩ (bX ⟨aR (.ip _ (hxn.cells.get)),aR (.il' (aM _)),⟨_,rfl,.int (by simp only;exact hw)⟩,⟨_,rfl,.int (by simp only;split<;>omega)⟩,aR (.il' (aM _)),aF,⟨_,rfl,.wp⟩,trivial⟩) (by simp only;omega)
  ·have k0':k=0:=om;have d0:decide ((k:Int)>0)=false:=by simp;omega
   rw[d0];refine Rr ?_;by_cases k2:kind=2
   ·subst k2;refine Rr ?_;repeat((first|refine aD e1 ?_|refine aD e2 ?_);refine Rr ?_)
    exact .mk (k+1,sum+z,max most z) [] ⟨by simp only;omega,by simp only;rw[hst],by show max most z=cQ bs (if (2:Int)=2 then kids.take (k+1) else(kids.take (k+1)).drop 1);rw[hM,Vb (.inr rfl)]⟩ (bX ⟨aR (.ip _ (hxn.cells.get)),aR (.il' (aM _)),⟨_,rfl,.int (by simp only;exact hw)⟩,⟨_,rfl,.int (by simp only;split<;>omega)⟩,aR (.il' (aM _)),aF,⟨_,rfl,.wp⟩,trivial⟩) (by simp only;omega)
   ·have d2:(kind == 2)=false:=by simpa using k2
    rw[d2];refine Rr ?_;exact .mk (k+1,sum+z,most) [] ⟨by simp only;omega,by simp only;rw[hst],by simp only;rw[hM,VY om]⟩ (bX ⟨aR (.ip _ (hxn.cells.get)),aR (.il' (aM _)),⟨_,rfl,.int (by simp only;exact hw)⟩,aF,aR (.il' (aM _)),aF,⟨_,rfl,.wp⟩,trivial⟩) (by simp only;omega)
 ·have hk':k=kids.length:=by simp at h;omega
  subst hk';rw[Vr] at hsum hmost;have har:dU ⟨kind,name,lo,hi,ws,ls,vals,kids,.mk vk vn vs vks⟩=if kind=2 then kids else kids.drop 1:=rfl
  rw[har,←hmost,←hsum] at hlen;rcases(show kind=0∨kind=1∨kind=2∨kind=3∨kind=4 by omega) with rfl|rfl|rfl|rfl|rfl
  ·rw[hlen,Vb rfl];refine Rr ?_;exact aA nn ⟨rfl,rfl,rfl⟩
  ·rw[hlen,VY (by decide),Vb rfl];refine Rr ?_;exact aA nn ⟨rfl,rfl,rfl⟩
  ·rw[hlen,VY (by decide),VY (by decide),VY (by decide),Vb rfl];refine Rr ?_;rw[cV (n:=1+most) ⟨om,om⟩];exact aA nn ⟨rfl,rfl,rfl⟩
  ·rw[hlen,VY (by decide),VY (by decide),Vb rfl];refine Rr ?_;exact aA nn ⟨rfl,rfl,rfl⟩
  ·rw[hlen,VY (by decide),VY (by decide),VY (by decide),VY (by decide)];have hlt:0<kids.length:=h4 om;have e1:(aS kids)[(0:Int).toNat]? = some (.int .i64 kids[0]):=by rw[show (0:Int).toNat=0 from rfl,a8,VV hlt];rfl
   obtain⟨q0,q1⟩:=hk 0 _ (VV hlt);have eg:kids.getD 0 0=kids[0]:=by rw[VW,VV hlt];rfl
   rw[eg];generalize kids[0]=q at e1 q0 q1;obtain⟨q,rfl⟩:=Vk q0;have e2:=eat q q0 q1;have hq:=hat q;generalize dR bs q=z at e2 hq;refine Rr ?_;repeat((first|refine aD e1 ?_|refine aD e2 ?_);refine Rr ?_)
   rw[cV (n:=z+most) ⟨om,om⟩];exact aA nn ⟨rfl,rfl,rfl⟩
set_option maxHeartbeats 8000000
mutual
theorem Kg:∀(a b:a6),cE a b=0->a=b
 | .mk k n s ks,.mk k' n' s' ks',h=>by
  simp only[cE,andThen] at h;split at h
  ·rename_i h1;split at h
   ·rename_i h2;split at h
    ·rename_i h3;have e1:k=k':=Decidable.byContradiction fun e=>vT e h1
     have e2:n=n':=Decidable.byContradiction fun e=>vT e h2
     rw[e1,e2,oT h3,K7 ks ks' h]
    ·rename_i h3;exact absurd h h3
   ·rename_i h2;exact absurd h h2
  ·rename_i h1;exact absurd h h1
theorem K7:∀(l m:List a6),gF l m=0->l=m
 | [],[],_=>rfl
 | [],_::_,h=>by simp[gF] at h
 | _::_,[],h=>by simp[gF] at h
 | a::l,b::m,h=>by
  simp only[gF,andThen] at h;split at h
  ·rename_i h1;rw[Kg a b h1,K7 l m h]
  ·rename_i h1;exact absurd h h1
end
def sU(x:Nd):Bool:=decide (0<=x.kind) && decide (x.kind<=4) && gY x
theorem Bw{v:a6}:kU [] [] [bS v,.agg [.int .i64 0,.int .i64 0,.str [],.nsl]] [bS v,bS (.mk 0 0 [] [])]:=
 .cons (.same _ (bN v)) (.cons (.agg' (.s (.s (.s (.cons (.nil 4) .nil))))) .nil)
theorem SI(x:Nd)(hx:n4 x):bB prog [] 38 [.ip (bW x)] (.bool (sU x)):=by
 have hC:=nS x.value (.mk 0 0 [] []) hx.value;have hz:(cE x.value (.mk 0 0 [] []) == 0)=zN x.value:=by
  obtain⟨k,n,s,ks⟩:=x.value;rw[V5];simp only[zN,VZ,Vt,beq_iff_eq];constructor
  ·intro h;have:=Kg _ _ h;cases this;simp
  ·rintro⟨⟨⟨rfl,rfl⟩,rfl⟩,h⟩;have:ks=[]:=WL.1 h;subst this;exact(lL _).refl
 have hres:sU x=(decide (0<=x.kind) && decide (x.kind<=4) && ((decide (x.kind=0) || zN x.value) && (decide (x.kind=1) || (decide (x.lo=0) && decide (x.hi=0))) && (decide (x.kind=3) || decide (x.name=[])) &&
  (decide (x.kind=2) || (decide (x.weights.length=0) && decide (x.labels.length=0))) && (decide (x.kind=4) || decide (x.values.length=0)) && ((decide (x.kind≠0) && decide (x.kind≠1)) || decide (x.kids.length=0)))):=rfl
 generalize sU x=res at hres;rw[←hz] at hres;obtain⟨c,hc⟩:∃c,c=cE x.value (.mk 0 0 [] []):=⟨_,rfl⟩
 rw[←hc] at hC hres;clear hz hc hx;obtain⟨kind,name,lo,hi,ws,ls,vals,kids,⟨vk,vn,vs,vks⟩⟩:=x;simp only at hres hC;have eW:(((aS ws).length:Int) == 0)=decide (ws.length=0):=by rw[aC,V5];simp
 have eL:(((jB ls).length:Int) == 0)=decide (ls.length=0):=by rw[bE,V5];simp
 have eV:(((aQ vals).length:Int) == 0)=decide (vals.length=0):=by rw[aB,V5];simp
 have eK:(((aS kids).length:Int) == 0)=decide (kids.length=0):=by rw[aC,V5];simp
 have eN:(name == [])=decide (name=[]):=by rw[V5];simp
 have e1:(lo == 0)=decide (lo=0):=by rw[V5];simp
 have e2:(hi == 0)=decide (hi=0):=by rw[V5];simp
 refine aK bG func38 rfl ?_;rcases(show kind=0∨kind=1∨kind=2∨kind=3∨kind=4∨(kind<0∨4<kind) by omega) with rfl|rfl|rfl|rfl|rfl|hk
 ·refine Rr ?_;rw[e1];generalize decide (lo=0)=b1 at hres ⊢;cases b1 with
  | false=>
   refine Rr ?_;exact aA nn ⟨by rw[hres];simp,rfl,rfl⟩
  | true=>
  refine Rr ?_;rw[e2];generalize decide (hi=0)=b2 at hres ⊢;cases b2 with
  | false=>
   refine Rr ?_;exact aA nn ⟨by rw[hres];simp,rfl,rfl⟩
  | true=>
  refine Rr ?_;rw[eW];generalize decide (ws.length=0)=b3 at hres ⊢;cases b3 with
  | false=>
   refine Rr ?_;exact aA nn ⟨by rw[hres];simp,rfl,rfl⟩
  | true=>
  refine Rr ?_;rw[eL];generalize decide (ls.length=0)=b4 at hres ⊢;cases b4 with
  | false=>
   refine Rr ?_;exact aA nn ⟨by rw[hres];simp,rfl,rfl⟩
  | true=>
  refine Rr ?_;rw[eN];generalize decide (name=[])=b5 at hres ⊢;cases b5 with
  | false=>
   refine Rr ?_;exact aA nn ⟨by rw[hres];simp,rfl,rfl⟩
  | true=>
  refine Rr ?_;rw[eV];generalize decide (vals.length=0)=b6 at hres ⊢;cases b6 with
  | false=>
   refine Rr ?_;exact aA nn ⟨by rw[hres];simp,rfl,rfl⟩
  | true=>
  refine Rr ?_;rw[eK];generalize decide (kids.length=0)=b7 at hres ⊢;cases b7 with
  | false=>
   refine Rr ?_;exact aA nn ⟨by rw[hres];simp,rfl,rfl⟩
  | true=>
  refine Rr ?_;exact aA nn ⟨by rw[hres];simp,rfl,rfl⟩
 ·refine Rr ?_;refine hC.useC bG Bw nn ?_;refine Rr ?_;generalize (c == 0)=b1 at hres ⊢;cases b1 with
  | false=>
   refine Rr ?_;exact aA nn ⟨by rw[hres];simp,rfl,rfl⟩
  | true=>
  refine Rr ?_;rw[eW];generalize decide (ws.length=0)=b2 at hres ⊢;cases b2 with
  | false=>
   refine Rr ?_;exact aA nn ⟨by rw[hres];simp,rfl,rfl⟩
  | true=>
  refine Rr ?_;rw[eL];generalize decide (ls.length=0)=b3 at hres ⊢;cases b3 with
  | false=>
   refine Rr ?_;exact aA nn ⟨by rw[hres];simp,rfl,rfl⟩
  | true=>
  refine Rr ?_;rw[eN];generalize decide (name=[])=b4 at hres ⊢;cases b4 with
  | false=>
   refine Rr ?_;exact aA nn ⟨by rw[hres];simp,rfl,rfl⟩
  | true=>
  refine Rr ?_;rw[eV];generalize decide (vals.length=0)=b5 at hres ⊢;cases b5 with
  | false=>
   refine Rr ?_;exact aA nn ⟨by rw[hres];simp,rfl,rfl⟩
  | true=>
  refine Rr ?_;rw[eK];generalize decide (kids.length=0)=b6 at hres ⊢;cases b6 with
  | false=>
   refine Rr ?_;exact aA nn ⟨by rw[hres];simp,rfl,rfl⟩
  | true=>
  refine Rr ?_;exact aA nn ⟨by rw[hres];simp,rfl,rfl⟩
 ·refine Rr ?_;refine hC.useC bG Bw nn ?_;refine Rr ?_;generalize (c == 0)=b1 at hres ⊢;cases b1 with
  | false=>
   refine Rr ?_;exact aA nn ⟨by rw[hres];simp,rfl,rfl⟩
  | true=>
  refine Rr ?_;rw[e1];generalize decide (lo=0)=b2 at hres ⊢;cases b2 with
  | false=>
   refine Rr ?_;exact aA nn ⟨by rw[hres];simp,rfl,rfl⟩
  | true=>
  refine Rr ?_;rw[e2];generalize decide (hi=0)=b3 at hres ⊢;cases b3 with
  | false=>
   refine Rr ?_;exact aA nn ⟨by rw[hres];simp,rfl,rfl⟩
  | true=>
  refine Rr ?_;rw[eN];generalize decide (name=[])=b4 at hres ⊢;cases b4 with
  | false=>
   refine Rr ?_;exact aA nn ⟨by rw[hres];simp,rfl,rfl⟩
  | true=>
  refine Rr ?_;rw[eV];generalize decide (vals.length=0)=b5 at hres ⊢;cases b5 with
  | false=>
   refine Rr ?_;exact aA nn ⟨by rw[hres];simp,rfl,rfl⟩
  | true=>
  refine Rr ?_;exact aA nn ⟨by rw[hres];simp,rfl,rfl⟩
 ·refine Rr ?_;refine hC.useC bG Bw nn ?_;refine Rr ?_;generalize (c == 0)=b1 at hres ⊢;cases b1 with
  | false=>
   refine Rr ?_;exact aA nn ⟨by rw[hres];simp,rfl,rfl⟩
  | true=>
  refine Rr ?_;rw[e1];generalize decide (lo=0)=b2 at hres ⊢;cases b2 with
  | false=>
   refine Rr ?_;exact aA nn ⟨by rw[hres];simp,rfl,rfl⟩
  | true=>
  refine Rr ?_;rw[e2];generalize decide (hi=0)=b3 at hres ⊢;cases b3 with
  | false=>
   refine Rr ?_;exact aA nn ⟨by rw[hres];simp,rfl,rfl⟩
  | true=>
  refine Rr ?_;rw[eW];generalize decide (ws.length=0)=b4 at hres ⊢;cases b4 with
  | false=>
   refine Rr ?_;exact aA nn ⟨by rw[hres];simp,rfl,rfl⟩
  | true=>
  refine Rr ?_;rw[eL];generalize decide (ls.length=0)=b5 at hres ⊢;cases b5 with
  | false=>
   refine Rr ?_;exact aA nn ⟨by rw[hres];simp,rfl,rfl⟩
  | true=>
  refine Rr ?_;rw[eV];generalize decide (vals.length=0)=b6 at hres ⊢;cases b6 with
  | false=>
   refine Rr ?_;exact aA nn ⟨by rw[hres];simp,rfl,rfl⟩
  | true=>
  refine Rr ?_;exact aA nn ⟨by rw[hres];simp,rfl,rfl⟩
 ·refine Rr ?_;refine hC.useC bG Bw nn ?_;refine Rr ?_;generalize (c == 0)=b1 at hres ⊢;cases b1 with
  | false=>
   refine Rr ?_;exact aA nn ⟨by rw[hres];simp,rfl,rfl⟩
  | true=>
  refine Rr ?_;rw[e1];generalize decide (lo=0)=b2 at hres ⊢;cases b2 with
  | false=>
   refine Rr ?_;exact aA nn ⟨by rw[hres];simp,rfl,rfl⟩
  | true=>
  refine Rr ?_;rw[e2];generalize decide (hi=0)=b3 at hres ⊢;cases b3 with
  | false=>
   refine Rr ?_;exact aA nn ⟨by rw[hres];simp,rfl,rfl⟩
  | true=>
  refine Rr ?_;rw[eW];generalize decide (ws.length=0)=b4 at hres ⊢;cases b4 with
  | false=>
   refine Rr ?_;exact aA nn ⟨by rw[hres];simp,rfl,rfl⟩
  | true=>
  refine Rr ?_;rw[eL];generalize decide (ls.length=0)=b5 at hres ⊢;cases b5 with
  | false=>
   refine Rr ?_;exact aA nn ⟨by rw[hres];simp,rfl,rfl⟩
  | true=>
  refine Rr ?_;rw[eN];generalize decide (name=[])=b6 at hres ⊢;cases b6 with
  | false=>
   refine Rr ?_;exact aA nn ⟨by rw[hres];simp,rfl,rfl⟩
  | true=>
  refine Rr ?_;exact aA nn ⟨by rw[hres];simp,rfl,rfl⟩
 ·rcases hk with hk|hk
  ·have d0:decide (kind≥0)=false:=by simp;omega
   refine Rr ?_;rw[d0];refine Rr ?_;exact aA nn ⟨by rw[hres,Vv (show ¬0<=kind by omega)];simp,rfl,rfl⟩
  ·have d0:decide (kind≥0)=true:=by simp;omega
   have d1:decide (kind<=4)=false:=by simp;omega
   refine Rr ?_;rw[d0];refine Rr ?_;rw[d1];refine Rr ?_;exact aA nn ⟨by rw[hres,d1];simp,rfl,rfl⟩
set_option maxHeartbeats 8000000
theorem Po(ns:List Nd)(i:Nat)(x:Nd)(hl:ns.length<=4294967296)(hi:ns[i]? = some x)(hx:n4 x)(hvl:x.values.length<=1000000)(hc:sU x=true) :
  bB prog [] 39 [.ip (.agg [.il 12 (aW ns),.junk,.junk,.junk]),.int .i64 i] (.bool (cP i x)):=by
 have hil:=(VX.1 hi).1;have ex:(aW ns)[(i:Int).toNat]? = some (bW x):=by simp[gK,hi]
 have b1:=hx.kids;have hxn:=aV x;have hnn:=aY ns;have hcmp:∀a∈x.values,∀b,bB prog [] 69 [bS a,bS b] (.int .i64 (cE a b)):=fun a ha b=>nS a b (hx.valuesI a ha).1
 have hV:=JY (.mk 3 0 x.name []) (mL ⟨om,om⟩ ⟨om,om⟩ hx.name (by simp) (by simp[oH])) (by simp[bF,cJ]);have hcap:(fL (.mk 3 0 x.name []) == 0)=eP x.name:=by
  simp only[fL,bQ,cX,cO,oA,yQ,qR,bF,cJ];cases eP x.name<;>simp
 have hres:cP i x=(gY x && (decide (0<=x.kind) && decide (x.kind<=4)) && mG i x.kids && (decide (x.kind≠2) || (decide (1<=x.kids.length) && decide (x.kids.length<=256) && decide (x.weights.length=x.kids.length) && (decide (x.labels.length=0) || decide (x.labels.length=x.kids.length)))) &&
  (decide (x.kind≠3) || (decide (x.kids.length<=256) && (decide (x.name=[]) || (eP x.name && decide (x.kids.length<=16))))) && (decide (x.kind≠4) || decide (x.kids.length=x.values.length+1)) && eE x.values):=rfl
 simp only[sU,VZ,Vt] at hc;obtain⟨⟨hk0,hk4⟩,hun⟩:=hc;rw[hun,Vi hk0,Vi hk4] at hres;have hvs:x.kind≠4->x.values=[]:=fun h=>by
  unfold gY at hun;simp only[VZ,WN,Vt] at hun;rcases hun.1.2 with h'|h'
  ·exact absurd h' h
  ·exact WL.1 h'
 generalize cP i x=res at hres;rw[←hcap] at hres;generalize fL (.mk 3 0 x.name [])=cv at hV hres;clear hx hcap hi hun;obtain⟨kind,name,lo,hi,ws,ls,vals,kids,⟨vk,vn,vs,vks⟩⟩:=x;simp only at hres hV hcmp hvs hk0 hk4 b1 hvl;have hF:(res=true->False)->AV.bool false=AV.bool res:=fun h1=>by
  cases hr:res with
  | false=>rfl
  | true=>exact(h1 hr).elim
 refine aK bG func39 rfl ?_;refine Rr ?_;repeat(refine aD ex ?_;refine Rr ?_)
 refine bC.at bG (fun k:Nat=>k<=kids.length/\∀(j:Nat) (q:Int),j<k->kids[j]? = some q->0<=q/\q<i)
  (fun k=>⟨[(1,.int .i64 i),(5,.ip (bW ⟨kind,name,lo,hi,ws,ls,vals,kids,.mk vk vn vs vks⟩)),(6,.int .i64 kids.length),(24,.il 1 (aS kids)),(25,.int .i64 kids.length),(26,.int .i64 k)],[],0,132⟩) (fun k=>kids.length-k) 0 [] ⟨by simp,by simp⟩
  (bX ⟨aF,aR (.ip _ (hxn.cells.get)),⟨_,rfl,.int (by rw[aC])⟩,aR (.il' (aM _)),⟨_,rfl,.int (by rw[aC])⟩,aF,trivial⟩) ?_
 rintro k ⟨hk,hall⟩;refine Rr ?_;refine aI (fun h=>?_) (fun h=>?_)
 ·have hlt:k<kids.length:=by simpa using h
  have e1:(aS kids)[(k:Int).toNat]? = some (.int .i64 kids[k]):=by rw[Va,a8,VV hlt];rfl
  have hg:kids[k]? = some kids[k]:=VV hlt;generalize kids[k]=q at e1 hg;have hbad:(0<=q/\q<i->False)->AV.bool false=AV.bool res:=fun hb=>hF (by
   intro e;rw[hres] at e;simp only[VZ] at e;exact hb (eU.1 e.1.1.1.1.2 k q hg))
  refine Rr ?_;refine aD e1 ?_;refine Rr ?_;by_cases g1:0<=q
  ·have d1:decide (q<0)=false:=by simp;omega
   rw[d1];refine Rr ?_;refine aI (fun h=>?_) (fun h=>?_)
   ·refine Rr ?_;exact aA nn ⟨hbad (by simp at h;omega),rfl,rfl⟩
   ·have g2:q<i:=by simpa using h
    refine Rr ?_;refine .mk (k+1) [] ⟨om,fun j w2 hj hw2=>?_⟩ (bX ⟨aF,aR (.ip _ (hxn.cells.get)),aF,aR (.il' (aM _)),aF,⟨_,rfl,.w64 om ⟨om,om⟩⟩,trivial⟩) om;rcases Vm j k with hj'|hj'
    ·exact hall j w2 hj' hw2
    ·have hjk:j=k:=om;rw[hjk,hg] at hw2;cases hw2;exact⟨g1,g2⟩
  ·have d1:decide (q<0)=true:=by simp;omega
   rw[d1];refine Rr ?_;exact aA nn ⟨hbad om,rfl,rfl⟩
 ·have hk':k=kids.length:=by simp at h;omega
  have hkin:mG i kids=true:=eU.2 fun j q hj=>hall j q (by rw[hk'];exact(VX.1 hj).1) hj
  rw[hkin] at hres;clear hall hk hk' h hkin;rcases(show kind=0∨kind=1∨kind=2∨kind=3∨kind=4 by omega) with rfl|rfl|rfl|rfl|rfl
  ·obtain rfl:=hvs (by decide);refine Rr ?_;exact aA nn ⟨by rw[hres];simp[eE],rfl,rfl⟩
  ·obtain rfl:=hvs (by decide);refine Rr ?_;exact aA nn ⟨by rw[hres];simp[eE],rfl,rfl⟩
  ·obtain rfl:=hvs (by decide);have f1:decide ((kids.length:Int)≥1)=decide (1<=kids.length):=by rw[V5];simp;omega
   have f2:decide ((kids.length:Int)<=256)=decide (kids.length<=256):=by rw[V5];simp;omega
   have f3:(((aS ws).length:Int) == (kids.length:Int))=decide (ws.length=kids.length):=by rw[aC,V5];simp;omega
   have f4:(((jB ls).length:Int) == 0)=decide (ls.length=0):=by rw[bE,V5];simp
   have f5:(((jB ls).length:Int) == (kids.length:Int))=decide (ls.length=kids.length):=by rw[bE,V5];simp;omega
   refine Rr ?_;rw[f1];generalize decide (1<=kids.length)=b1 at hres ⊢;cases b1 with
   | false=>
    refine Rr ?_;exact aA nn ⟨by rw[hres];simp,rfl,rfl⟩
   | true=>
   refine Rr ?_;rw[f2];generalize decide (kids.length<=256)=b2 at hres ⊢;cases b2 with
   | false=>
    refine Rr ?_;exact aA nn ⟨by rw[hres];simp,rfl,rfl⟩
   | true=>
   refine Rr ?_;rw[f3];generalize decide (ws.length=kids.length)=b3 at hres ⊢;cases b3 with
   | false=>
    refine Rr ?_;exact aA nn ⟨by rw[hres];simp,rfl,rfl⟩
   | true=>
   refine Rr ?_;rw[f4];generalize decide (ls.length=0)=b4 at hres ⊢;cases b4 with
   | true=>
    refine Rr ?_;exact aA nn ⟨by rw[hres];simp[eE],rfl,rfl⟩
   | false=>
    refine Rr ?_;rw[f5];exact aA nn ⟨by rw[hres];simp[eE],rfl,rfl⟩
  ·obtain rfl:=hvs (by decide);have f1:decide ((kids.length:Int)<=16)=decide (kids.length<=16):=by rw[V5];simp;omega
   have f2:decide ((kids.length:Int)<=256)=decide (kids.length<=256):=by rw[V5];simp;omega
   refine Rr ?_;refine aI (fun h=>?_) (fun h=>?_)
   ·have hn:name=[]:=by simpa using h
    rw[Vi hn] at hres;refine Rr ?_;rw[f2];exact aA nn ⟨by rw[hres];simp[eE],rfl,rfl⟩
   ·have hn:¬name=[]:=by simpa using h
    rw[Vv hn] at hres;refine Rr ?_;rw[f1];by_cases g:kids.length<=16
    ·rw[Vi g] at hres ⊢;rw[Vi (show kids.length<=256 by omega)] at hres;refine Rr ?_;refine hV.useC bG (.cons (.agg' (.s (.s (.s (.cons (.nil 4) .nil))))) .nil) nn ?_;refine Rr ?_;exact aA nn ⟨by rw[hres];simp[eE],rfl,rfl⟩
    ·rw[Vv g] at hres ⊢;refine Rr ?_;exact aA nn ⟨by rw[hres];simp,rfl,rfl⟩
  ·have hw4:IntKind.i64.wrap ((vals.length:Int)+1)=(vals.length:Int)+1:=w64 rfl ⟨om,om⟩;refine Rr ?_;refine bC.at bG (fun k:Nat=>1<=k/\k<=max 1 vals.length/\∀(j:Nat) (a b:a6),j+1<k->vals[j]? = some a->vals[j+1]? = some b->cE a b<0)
    (fun k=>⟨[(5,.ip (bW ⟨4,name,lo,hi,ws,ls,vals,kids,.mk vk vn vs vks⟩)),(6,.int .i64 kids.length),(9,.int .i64 k)],[],0,132⟩) (fun k=>vals.length-k) 1 [] ⟨om,om,fun j a b h=>om⟩
    (bX ⟨aR (.ip _ (hxn.cells.get)),aF,aF,trivial⟩) ?_
   rintro k ⟨hk1,hk2,hall⟩;refine Rr ?_;refine aI (fun h=>?_) (fun h=>?_)
   ·have hlt:k<vals.length:=by rw[aB] at h;simpa using h
    obtain⟨p1,p2,p3,p4,pm,pg,-,ep⟩:=bT (l:=vals) (k:=k-1) om;obtain⟨q1,q2,q3,q4,qm,qg,-,eq⟩:=bT (l:=vals) (k:=k) hlt;have hw1:IntKind.i64.wrap ((k:Int)-1)=((k-1:Nat):Int):=w64 om ⟨om,om⟩;have hc:=hcmp _ pm (.mk q1 q2 q3 q4);obtain⟨c,hc0⟩:∃c,c=cE (.mk p1 p2 p3 p4) (.mk q1 q2 q3 q4):=⟨_,rfl⟩
    rw[←hc0] at hc;refine Rt ?_;rw[hw1];refine Rr ?_;repeat((first|refine aD ep ?_|refine aD eq ?_|refine aU ?_);refine Rr ?_)
    refine hc.go ?_;refine Rr ?_;repeat((first|refine aD ep ?_|refine aD eq ?_|refine aU ?_);refine Rr ?_)
    refine aI (fun h=>?_) (fun h=>?_)
    ·refine Rr ?_;refine aA nn ⟨hF ?_,rfl,rfl⟩;intro e;rw[hres] at e;simp only[VZ] at e;have:=kO e.2 (k-1) _ _ pg (by rw[show k-1+1=k by omega];exact qg);rw[←hc0] at this;simp at h;omega
    ·refine Rr ?_;refine .mk (k+1) [] ⟨om,om,fun j a b hj ha hb=>?_⟩ (bX ⟨aR (.ip _ (hxn.cells.get)),aF,⟨_,rfl,.w64 om ⟨om,om⟩⟩,trivial⟩) om;rcases Vm (j+1) k with hj'|hj'
     ·exact hall j a b hj' ha hb
     ·have hjk:j=k-1:=om;subst hjk;rw[pg] at ha;rw[show k-1+1=k by omega,qg] at hb;cases ha;cases hb;rw[←hc0];simpa using h
   ·have hlt:vals.length<=k:=by rw[aB] at h;simpa using h
    have hso:eE vals=true:=kP fun j a b ha hb=>hall j a b (by have:=(VX.1 hb).1;omega) ha hb
    rw[hso] at hres;refine Rr ?_;rw[aB,hw4];refine aA nn ⟨?_,rfl,rfl⟩;rw[hres];congr 1;rw[V5];simp;omega
set_option maxHeartbeats 8000000
theorem bK{a b:Bool}(h1:a=true)(h2:b=true):(a && b)=true:=by rw[h1,h2];rfl
theorem oZ{n:Nat}{s m:Int}(hn:Nat.ble n 100=true)(hs:0<=s)(h:100*s<=m):decide ((n:Int)*s<=m)=true:=by
 have hn:=Vd hn;have:(n:Int)*s<=100*s:=Int.mul_le_mul_of_nonneg_right om hs;simp;omega
theorem Pu(a b:List a6)(ha:a.length<=1000000)(hb:b.length<=1000000)(hok:∀v∈a,gH v) :
  bB prog [] 132 [.il 4 (aQ a),.il 4 (aQ b)] (.il 4 (aQ (fI a b))):=by
 refine aK bG func132 rfl ?_;cases a with
 | nil=>
  rw[B9];refine Rr ?_;exact aA (.il' (aO _)) ⟨rfl,rfl,rfl⟩
 | cons x l=>
  have d0:(((aQ (x::l)).length:Int) == 0)=false:=by rw[aB,beq_eq_false_iff_ne];simp;omega
  obtain⟨a,hae⟩:∃a,a=x::l:=⟨_,rfl⟩
  rw[←hae] at d0 ha hok ⊢;clear hae;refine Rr ?_;rw[d0];have hw:IntKind.i64.wrap (((aQ a).length:Int)+((aQ b).length:Int))=((aQ a).length:Int)+((aQ b).length:Int):=cV ⟨om,by rw[aB,aB];omega⟩;have hal:(aQ a).length<=1000000:=by rw[aB];exact ha
  have hbl:(aQ b).length<=1000000:=by rw[aB];exact hb
  refine Rr ?_;rw[hw];refine aN (bK rfl (bK rfl (bK rfl (bK rfl (bK (Vi om) (bK (oZ rfl om om) (Vi om))))))) ?_;refine Rr ?_;refine bC.at bG (fun p:List a6 × List a6 × List a6=>fI a b=p.1++fI p.2.1 p.2.2/\p.1.length<=2000000-p.2.1.length-p.2.2.length/\p.2.1.length+p.2.2.length<=2000000/\∀v∈p.2.1,gH v)
   (fun p=>⟨[(0,.il 4 (aQ p.2.1)),(1,.il 4 (aQ p.2.2)),(5,.sl 0 0 p.1.length)],[(0,.row 38 4 (aQ p.1))],1,57⟩) (fun p=>p.2.1.length+p.2.2.length) ([],a,b) [(0,0)] ⟨by simp,by simp,by simp only;omega,hok⟩
   (aG _ rfl ⟨aL 0 .nil,trivial⟩ ⟨aR (.il' (aO _)),aR (.il' (aO _)),⟨_,rfl,.sl 0 0 0 _ rfl⟩,trivial⟩) ?_
  clear hok hw hal hbl d0 ha hb;rintro⟨out,a',b'⟩ ⟨hm,hlen,hle,hok⟩;simp only at hm hlen hle hok ⊢;have eg:∀(z:a6) (r:List a6),decide (((aQ (z::r)).length:Int)>0)=true:=fun z r=>by rw[aB];simp
  have UF:∀(z:a6) (r:List a6),((Int.toNat 1).ble (aQ (z::r)).length && ((aQ (z::r)).length.ble (aQ (z::r)).length && (aQ (z::r)).length.ble (aQ (z::r)).length))=true:=fun z r=>bK (Vc (by rw[aB];simp)) (bK (Vc (Vh _)) (Vc (Vh _)))
  have ec:∀(z:a6) (r:List a6),List.take ((aQ (z::r)).length-Int.toNat 1) (List.drop (Int.toNat 1) (aQ (z::r)))=aQ r:=fun z r=>by
   show List.take ((aQ (z::r)).length-1) (aQ r)=aQ r
   exact Vl (by rw[aB,aB];simp)
  have fin:∀(o p q:List a6) (mem:aP) (n:Nat) (id:Nat),fI a b=o++p++q->lk mem id=some (.row 38 4 (aQ o++aQ p++aQ q))->kN 0 (fun r m n=>r=AV.il 4 (aQ (fI a b))/\m=[]/\n=0) (.sl id 0 (o.length+(aQ p).length+(aQ q).length)) mem n:=by
   intro o p q mem n id h hl;refine dK (r':=.il 4 (aQ (fI a b))) (.fzR hl rfl (.eq (aO _) (by rw[h];simp[fX])) (by rw[h];simp[aB];omega)) ⟨rfl,rfl,rfl⟩
  cases a' with
  | nil=>
   rw[B9] at hm;refine Rr ?_;refine aN (bV rfl rfl (by simp[aB]) (by simp[aB] at *;omega)) ?_;refine Rr ?_;refine aN (bV rfl rfl (by simp[aB]) (by simp[aB] at *;omega)) ?_;refine Rr ?_;exact fin out [] b' _ _ _ (by simpa using hm) rfl
  | cons x l=>
   cases b' with
   | nil=>
    rw[HJ] at hm;refine Rr ?_;rw[eg];refine Rr ?_;refine aN (bV rfl rfl (by simp[aB]) (by simp[aB] at *;omega)) ?_;refine Rr ?_;refine aN (bV rfl rfl (by simp[aB]) (by simp[aB] at *;omega)) ?_;refine Rr ?_;exact fin out (x::l) [] _ _ _ (by simpa using hm) rfl
   | cons y m=>
    rw[Im] at hm;have hc:=nS x y (hok x (by simp));have hok':∀v∈l,gH v:=fun v hv=>hok v (by simp[hv])
    obtain⟨c,hc0⟩:∃c,c=cE x y:=⟨_,rfl⟩
    rw[←hc0] at hc hm;clear hc0;obtain⟨x1,x2,x3,x4⟩:=x;obtain⟨y1,y2,y3,y4⟩:=y;refine Rr ?_;rw[eg];refine Rr ?_;rw[eg];refine Rt ?_;refine hc.go ?_;refine Rr ?_;rcases(show c<0∨c=0∨0<c by omega) with hcc|hcc|hcc
    ·have d1:decide (c<=0)=true:=by simp;omega
     have d2:decide (c≥0)=false:=by simp;omega
     rw[Vb hcc] at hm;rw[d1];refine Rt ?_;refine aN (bV rfl rfl (by simp[aB]) (by simp[aB] at *;omega)) ?_;refine Rr ?_;refine aN (UF _ _) ?_;rw[ec];refine Rr ?_;rw[d2];refine Rr ?_;exact .mk (out++[.mk x1 x2 x3 x4],l,(.mk y1 y2 y3 y4)::m) [(10,0)] ⟨by simpa using hm,by simp at *;omega,by simp at *;omega,hok'⟩ (aG _ rfl ⟨⟨10,_,rfl,rfl,.eq (aO _) (by rw[fY];rfl)⟩,trivial⟩ ⟨aR (.il' (aO _)),aR (.il' (aO _)),⟨_,rfl,.slE rfl (by simp)⟩,trivial⟩) (by first|(simp;done)|(simp;omega))
    ·have d1:decide (c<=0)=true:=by simp;omega
     have d2:decide (c≥0)=true:=by simp;omega
     rw[VY om,Vb hcc] at hm;rw[d1];refine Rt ?_;refine aN (bV rfl rfl (by simp[aB]) (by simp[aB] at *;omega)) ?_;refine Rr ?_;refine aN (UF _ _) ?_;rw[ec];refine Rr ?_;rw[d2];refine Rr ?_;refine aN (UF _ _) ?_;rw[ec];refine Rr ?_;exact .mk (out++[.mk x1 x2 x3 x4],l,m) [(10,0)] ⟨by simpa using hm,by simp at *;omega,by simp at *;omega,hok'⟩ (aG _ rfl ⟨⟨10,_,rfl,rfl,.eq (aO _) (by rw[fY];rfl)⟩,trivial⟩ ⟨aR (.il' (aO _)),aR (.il' (aO _)),⟨_,rfl,.slE rfl (by simp)⟩,trivial⟩) (by first|(simp;done)|(simp;omega))
    ·have d1:decide (c<=0)=false:=by simp;omega
     have d2:decide (c≥0)=true:=by simp;omega
     rw[VY om,VY om] at hm;rw[d1];refine Rt ?_;refine aN (bV rfl rfl (by simp[aB]) (by simp[aB] at *;omega)) ?_;refine Rr ?_;rw[d2];refine Rr ?_;refine aN (UF _ _) ?_;rw[ec];refine Rr ?_;exact .mk (out++[.mk y1 y2 y3 y4],(.mk x1 x2 x3 x4)::l,m) [(10,0)] ⟨by simpa using hm,by simp at *;omega,by simp at *;omega,hok⟩ (aG _ rfl ⟨⟨10,_,rfl,rfl,.eq (aO _) (by rw[fY];rfl)⟩,trivial⟩ ⟨aR (.il' (aO _)),aR (.il' (aO _)),⟨_,rfl,.slE rfl (by simp)⟩,trivial⟩) (by first|(simp;done)|(simp;omega))
set_option maxHeartbeats 8000000
theorem tX{α β γ:Type}(f:α->β->γ):∀(a:List α) (b:List β) (i:Nat) (x:α) (y:β),b[i]? = some y->List.zipWith f (a.set i x) b=(List.zipWith f a b).set i (f x y)
 | [],b,i,x,y,_=>by simp
 | p::a,[],i,x,y,hy=>by simp at hy
 | p::a,q::b,0,x,y,hy=>by simp at hy;subst hy;simp
 | p::a,q::b,i+1,x,y,hy=>by simp at hy;simp[tX f a b i x y hy]
def kB(kn:List Bool):List AV:=kn.map AV.bool
def lB(L:List gW)(kn:List Bool):List AV:=List.zipWith (fun b (x:gW)=>AV.il 4 (aQ (if b=true then x.vals else []))) kn L
def mB(L:List gW)(kn:List Bool):List AV:=List.zipWith (fun b (x:gW)=>AV.bool (b && x.many)) kn L
theorem iR(kn:List Bool):jZ (kB kn):=fun a ha=>by
 obtain⟨n,_,rfl⟩:=Vq.1 ha;exact .bool _
theorem K1{α β γ:Type}{f:α->β->γ}{a:List α}{b:List β}{z:γ}(h:z∈List.zipWith f a b):∃x y,z=f x y:=by
 obtain⟨i,hi⟩:=V2 h;rw[Xn] at hi;split at hi
 ·cases hi;exact⟨_,_,rfl⟩
 ·cases hi
theorem yU(L:List gW)(kn:List Bool):jZ (lB L kn):=fun a ha=>by
 obtain⟨x,y,rfl⟩:=K1 ha;exact .il' (aO _)
theorem w9(L:List gW)(kn:List Bool):jZ (mB L kn):=fun a ha=>by
 obtain⟨x,y,rfl⟩:=K1 ha;exact .bool _
theorem yS{L:List gW}{i:Nat}(h:i<L.length):L[i]? = some (dF L i):=by
 unfold dF;rw[VW,Va,VV h];rfl
theorem Nn{kn:List Bool}{i:Nat}{b:Bool}(h:kn[i]? = some b):(kB kn)[i]? = some (.bool b):=by simp[kB,h]
theorem Mv{L:List gW}{kn:List Bool}{i:Nat}{b:Bool}(h:kn[i]? = some b)(hl:i<L.length):(lB L kn)[i]? = some (.il 4 (aQ (if b=true then(dF L i).vals else []))):=by
 simp[lB,Xn,h,yS hl]
theorem NU{L:List gW}{kn:List Bool}{i:Nat}{b:Bool}(h:kn[i]? = some b)(hl:i<L.length):(mB L kn)[i]? = some (.bool (b && (dF L i).many)):=by
 simp[mB,Xn,h,yS hl]
theorem SV(kn:List Bool)(i:Nat)(b:Bool):kB (kn.set i b)=(kB kn).set i (.bool b):=by simp[kB,W2]
theorem Ri{L:List gW}(kn:List Bool){i:Nat}(hl:i<L.length):lB L (kn.set i true)=(lB L kn).set i (.il 4 (aQ (dF L i).vals)):=by
 unfold lB;rw[tX _ kn L i true _ (yS hl)];simp
theorem SX{L:List gW}(kn:List Bool){i:Nat}(hl:i<L.length):mB L (kn.set i true)=(mB L kn).set i (.bool (dF L i).many):=by
 unfold mB;rw[tX _ kn L i true _ (yS hl)];simp
def sM(ns:List Nd)(kn:List Bool):aP:=[(0,.row 119 4 [.agg [.il 12 (aW ns),.sl 1 0 ns.length,.sl 2 0 ns.length,.sl 3 0 ns.length]]),(1,.row 4 1 (kB kn)),(2,.row 36 1 (lB (aT ns) kn)),(3,.row 4 1 (mB (aT ns) kn))]
def uQ(ns:List Nd)(l:gW):AV->aP->Nat->Prop:=fun r m k=>∃kn,kn.length=ns.length/\r = .tup [.il 4 (aQ l.vals),.bool (!l.many)]/\m=sM ns kn/\k=4
def sQ(ns:List Nd)(i:Nat):AV->aP->Nat->Prop:=uQ ns (dF (aT ns) i)
theorem EB{mem:aP}{σ:List (Nat × Nat)}{ns:List Nd}{N a b c a' b' c':Nat}(h1:lk σ a=some a')(h2:lk σ b=some b')(h3:lk σ c=some c') :
  tE mem σ [.agg [.il 12 (aW ns),.sl a 0 N,.sl b 0 N,.sl c 0 N]] [.agg [.il 12 (aW ns),.sl a' 0 N,.sl b' 0 N,.sl c' 0 N]]:=
 .cons (.agg (.cons (.same _ (.il' (aY _))) (.cons (.sl a a' 0 N h1) (.cons (.sl b b' 0 N h2) (.cons (.sl c c' 0 N h3) .nil))))) .nil
theorem gE(ns:List Nd)(kn:List Bool):cN (sM ns kn) (q6 [0,1,2,3]) (sM ns kn):=
 ⟨⟨0,_,rfl,rfl,EB rfl rfl rfl⟩,aL 1 (iR _),aL 2 (yU _ _),aL 3 (w9 _ _),trivial⟩
theorem Uk{ns:List Nd}{n:Nat}(h:iB ns n)(i:Nat)(hi:i<n)(kn:List Bool)(hk:kn.length=ns.length)
  (hF:aH prog [] 106 [.ptr 0 0 0,.int .i64 i] (sM ns kn) 4 (sQ ns i)) :
  aH prog [] 72 [.ptr 0 0 0,.int .i64 i] (sM ns kn) 4 (sQ ns i):=by
 have hN:=h.hn;have hL:i<(aT ns).length:=by rw[fU];omega
 have h0:0+((i:Nat):Int).toNat=i:=by simp
 have hg:∀kn:List Bool,kn.length=ns.length->∃b,kn[i]? = some b:=fun kn hk=>⟨kn[i],VV om⟩
 obtain⟨b,hb⟩:=hg kn hk;have e1:(kB kn)[0+((i:Nat):Int).toNat]? = some (.bool b):=by rw[h0];exact Nn hb
 have g1:Nat.blt ((i:Nat):Int).toNat ns.length=true:=Vc (by simp;omega);refine aK bG func72 rfl ?_;refine Rr ?_;repeat((first|refine aN g1 ?_|refine aD e1 ?_);refine Rr ?_)
 have fin:∀(mem:aP) (kn':List Bool),kn'.length=ns.length->cN mem (q6 [0,1,2,3]) (sM ns kn')->∀(r:AV) (nx:Nat),Cv mem (q6 [0,1,2,3]) r (.tup [.il 4 (aQ (dF (aT ns) i).vals),.bool (!(dF (aT ns) i).many)])->kN 4 (sQ ns i) r mem nx:=
  fun mem kn' hk' hM r nx hr=>bJ (n':=4) (m':=sM ns kn') (q6 [0,1,2,3]) rfl hM hr ⟨kn',hk',rfl,rfl,rfl⟩
 cases b with
 | true=>
  have e2:(lB (aT ns) kn)[0+((i:Nat):Int).toNat]? = some (.il 4 (aQ (dF (aT ns) i).vals)):=by rw[h0,Mv hb hL];rfl
  have e3:(mB (aT ns) kn)[0+((i:Nat):Int).toNat]? = some (.bool (dF (aT ns) i).many):=by rw[h0,NU hb hL];rfl
  refine Rr ?_;repeat((first|refine aN g1 ?_|refine aD e1 ?_|refine aD e2 ?_|refine aD e3 ?_|refine aU ?_);refine Rr ?_)
  exact fin _ kn hk (gE ns kn) _ _ (.same _ nn)
 | false=>
  refine Rr ?_;refine aH.useI bG [0,1,2,3] hF (by rfl) (.cons (.ptr 0 0 0 0 rfl) (.s .nil)) (gE ns kn) (by rfl) ?_;rintro r m k ⟨kn',hk',rfl,rfl,rfl⟩;refine⟨nn,gE ns kn',by rfl, ?_⟩;obtain⟨b',hb'⟩:=hg kn' hk';have e1:(kB kn')[0+((i:Nat):Int).toNat]? = some (.bool b'):=by rw[h0];exact Nn hb'
  have e2:=Mv hb' hL;have e3:=NU hb' hL;rw[←h0] at e2 e3;have q1:((kB kn').set (0+((i:Nat):Int).toNat) (.bool true))[0+((i:Nat):Int).toNat]? = some (.bool true):=by rw[h0];exact WJ (by simp[kB];omega)
  have q2:((lB (aT ns) kn').set (0+((i:Nat):Int).toNat) (.il 4 (aQ (dF (aT ns) i).vals)))[0+((i:Nat):Int).toNat]? = some (.il 4 (aQ (dF (aT ns) i).vals)):=by rw[h0];exact WJ (by simp[lB,List.length_zipWith];omega)
  have q3:((mB (aT ns) kn').set (0+((i:Nat):Int).toNat) (.bool (!(!(dF (aT ns) i).many))))[0+((i:Nat):Int).toNat]? = some (.bool (!(!(dF (aT ns) i).many))):=by rw[h0];exact WJ (by simp[mB,List.length_zipWith];omega)
  refine Rr ?_;repeat((first|refine aN g1 ?_|refine aD e1 ?_|refine aD e2 ?_|refine aD e3 ?_|refine aD q1 ?_|refine aD q2 ?_|refine aD q3 ?_|refine aU ?_|refine bR.2 ?_);refine Rr ?_)
  rw[h0];refine fin _ (kn'.set i true) (by simp[hk']) ⟨⟨0,_,rfl,rfl,EB rfl rfl rfl⟩,⟨1,_,rfl,rfl,.eq (iR _) (SV _ _ _).symm⟩,⟨2,_,rfl,rfl,.eq (yU _ _) (Ri _ hL).symm⟩,⟨3,_,rfl,rfl,.eq (w9 _ _) (by rw[SX _ hL,Bool.not_not])⟩,trivial⟩ _ _ (.eq nn (by rw[Bool.not_not]))
set_option maxHeartbeats 8000000
def QO(ns:List Nd)(i:Nat):Prop:=∀kn:List Bool,kn.length=ns.length->aH prog [] 72 [.ptr 0 0 0,.int .i64 i] (sM ns kn) 4 (sQ ns i)
theorem Be{ns:List Nd}{l:gW}(mem:aP)(kn':List Bool)(hk':kn'.length=ns.length)(hM:cN mem (q6 [0,1,2,3]) (sM ns kn'))(r:AV)(nx:Nat)(hr:Cv mem (q6 [0,1,2,3]) r (.tup [.il 4 (aQ l.vals),.bool (!l.many)])):kN 4 (uQ ns l) r mem nx:=
 bJ (n':=4) (m':=sM ns kn') (q6 [0,1,2,3]) rfl hM hr ⟨kn',hk',rfl,rfl,rfl⟩
theorem Rz{ns:List Nd}{n:Nat}(h:iB ns n)(i:Nat)(hi:i<=n)(kids:List Int)(hkl:kids.length<=65536)(hkids:∀k∈kids,0<=k/\k<i)(hOf:∀j<i,QO ns j)(kn:List Bool)(hk:kn.length=ns.length) :
  aH prog [] 120 [.ptr 0 0 0,.il 1 (aS kids)] (sM ns kn) 4 (uQ ns (jW (aT ns) kids)):=by
 refine aK bG func120 rfl ?_;refine Rr ?_;refine bC.at bG (fun p:Nat × List Bool × List a6=>p.1<=kids.length/\p.2.1.length=ns.length/\(kids.take p.1).foldl (bL (aT ns)) ([],false)=(p.2.2,false)/\lN p.2.2/\p.2.2.length<=1024/\∀v∈p.2.2,gH v)
  (fun p=>⟨[(0,.ptr 0 0 0),(6,.il 4 (aQ p.2.2)),(11,.il 1 (aS kids)),(12,.int .i64 kids.length),(13,.int .i64 p.1)],sM ns p.2.1,4,33⟩) (fun p=>kids.length-p.1) (0,kn,[]) (q6 [0,1,2,3])
  ⟨by simp,hk,by simp,by simp[lN],by simp,by simp⟩
  (aG _ rfl (gE ns kn) ⟨aJ,⟨_,rfl,.nil 4⟩,aR (.il' (aM _)),⟨_,rfl,.int (by rw[aC])⟩,aF,trivial⟩) ?_
 rintro⟨j,kn,out⟩ ⟨hj,hk,hf,hso,hol,hok⟩;simp only at hj hk hf hso hol hok ⊢;refine Rr ?_;refine aI (fun hb=>?_) (fun hb=>?_)
 ·have hlt:j<kids.length:=by simpa using hb
  have e1:(aS kids)[(j:Int).toNat]? = some (.int .i64 kids[j]):=by rw[Va,a8,VV hlt];rfl
  have hg:kids[j]? = some kids[j]:=VV hlt;generalize kids[j]=k at e1 hg;obtain⟨k0,k1⟩:=hkids k (Ve hg);obtain⟨k,rfl⟩:=Vk k0;have hO:=hOf k om kn hk;have hst:=Rv hg hf;have hvals:=h.vals (k:=k) om om;have hsr:=Ur ns k;simp only[bL,XJ] at hst;unfold sQ at hO;refine Rr ?_;refine aD e1 ?_;refine Rr ?_;refine aH.useI bG [0,1,2,3] hO (by rfl) (.cons (.ptr 0 0 0 0 rfl) (.s .nil)) (gE ns kn) (by rfl) ?_;rintro r m k' ⟨kn',hk',rfl,rfl,rfl⟩;refine⟨nn,gE ns kn',by rfl, ?_⟩;generalize dF (aT ns) k=lk at hst hvals hsr;obtain⟨lv,lm⟩:=lk;simp only at hst hvals hsr;cases lm with
  | true=>
   have hbad:=K6 (bs:=aT ns) (kids:=kids) (j:=j+1) (by rw[hst];rfl);rw[hbad];refine Rr ?_;exact Be _ kn' hk' (gE ns kn') _ _ (.tup' (.cons (.nil 4) (.s .nil)))
  | false=>
   have hm:=Pu out lv om om hok;have hms:=HE hso hsr;rw[←hms] at hst;have hmok:∀v∈fI out lv,gH v:=fun v hv=>by
    rcases(o6 _ _ _).1 hv with hv|hv
    ·exact hok v hv
    ·exact hvals.2 v hv
   have hmsr:=DZ out lv hso hsr;generalize fI out lv=mg at *;refine Rr ?_;refine hm.go ?_;refine Rr ?_;refine aI (fun hb2=>?_) (fun hb2=>?_)
   ·have h1:1024<mg.length:=by rw[aB] at hb2;simp at hb2;omega
    have hbad:=K6 (bs:=aT ns) (kids:=kids) (j:=j+1) (by rw[hst];simpa using h1);rw[hbad];refine Rr ?_;exact Be _ kn' hk' (gE ns kn') _ _ (.tup' (.cons (.nil 4) (.s .nil)))
   ·have h1:mg.length<=1024:=by rw[aB] at hb2;simp at hb2;omega
    refine Rr ?_;exact .mk (j+1,kn',mg) (q6 [0,1,2,3]) ⟨by simp only;omega,hk',by simp only;rw[hst];simp;omega,hmsr,h1,hmok⟩
     (aG _ rfl (gE ns kn') ⟨aJ,aF,aR (.il' (aM _)),aF,⟨_,rfl,.wp⟩,trivial⟩) (by simp only;omega)
 ·have hlt:j=kids.length:=by simp at hb;omega
  rw[hlt,Vr] at hf;rw[Ob hf];refine Rr ?_;exact Be _ kn hk (gE ns kn) _ _ (.same _ nn)
def cC(ls:List (List a6)):List AV:=ls.map fun l=>.il 4 (aQ l)
theorem bO(ls:List (List a6)):jZ (cC ls):=fun a ha=>by
 obtain⟨l,_,rfl⟩:=Vq.1 ha;exact .il' (aO _)
theorem rG(ls:List (List a6)):(cC ls).length=ls.length:=by simp[cC]
theorem nE{ls:List (List a6)}{i:Nat}{l:List a6}(h:ls[i]? = some l):(cC ls)[i]? = some (.il 4 (aQ l)):=by simp[cC,h]
def Sk(ns:List Nd)(kn:List Bool)(rest:aP):aP:=(0,.row 119 4 [.agg [.il 12 (aW ns),.sl 1 0 ns.length,.sl 2 0 ns.length,.sl 3 0 ns.length]])::(1,.row 4 1 (kB kn))::(2,.row 36 1 (lB (aT ns) kn))::(3,.row 4 1 (mB (aT ns) kn))::rest
theorem gT{mem:aP}{σ:List (Nat × Nat)}{ns:List Nd}{kn:List Bool}{rest:aP}(h0:lk σ 0=some 0)(h1:lk σ 1=some 1)(h2:lk σ 2=some 2)(h3:lk σ 3=some 3)
  (m0:lk mem 0=some (.row 119 4 [.agg [.il 12 (aW ns),.sl 1 0 ns.length,.sl 2 0 ns.length,.sl 3 0 ns.length]])) (m1:lk mem 1=some (.row 4 1 (kB kn))) (m2:lk mem 2=some (.row 36 1 (lB (aT ns) kn))) (m3:lk mem 3=some (.row 4 1 (mB (aT ns) kn)))
  (hr:cN mem σ rest):cN mem σ (Sk ns kn rest):=
 ⟨⟨0,_,h0,m0,EB h1 h2 h3⟩,⟨1,_,h1,m1,.same (iR _)⟩,⟨2,_,h2,m2,.same (yU _ _)⟩,⟨3,_,h3,m3,.same (w9 _ _)⟩,hr⟩
theorem B5{mem:aP}{σ:List (Nat × Nat)}:∀m:Nat,tE mem σ (List.replicate m .nsl) (cC (List.replicate m []))
 | 0=>.nil
 | m+1=>by
  rw[WO,WO];exact .cons (.one rfl rfl (.nil 4)) (B5 m)
theorem Oz(ls:List (List a6))(i:Nat)(l:List a6):cC (ls.set i l)=(cC ls).set i (.il 4 (aQ l)):=by simp[cC,W2]
theorem EQ{mem:aP}{σ:List (Nat × Nat)}:∀m:Nat,tE mem σ (List.replicate m (.agg [.int .i64 0,.int .i64 0,.str [],.nsl])) (aQ (List.replicate m (.mk 0 0 [] [])))
 | 0=>.nil
 | m+1=>by
  rw[WO,WO,aQ];exact .cons (uV 0 0 []) (EQ m)
theorem N7{ns:List Nd}{n:Nat}(h:iB ns n)(i:Nat)(hi:i<=n)(x:Nd)(hkl:x.kids.length<=65536)(hkids:∀k∈x.kids,0<=k/\k<i)(hOf:∀j<i,QO ns j)(kn:List Bool)(hk:kn.length=ns.length) :
  aH prog [] 121 [.ptr 0 0 0,.ip (bW x)] (sM ns kn) 4 (uQ ns (o8 (aT ns) x)):=by
 have hxn:=aV x;have hpb:=fun(j:Nat) (e:((x.kids.take j).foldl (g5 (aT ns)) (1,false)).2=true)=>QI (bs:=aT ns) (x:=x) (j:=j) e
 have hpg:=fun(t:Nat) (e:x.kids.foldl (g5 (aT ns)) (1,false)=(t,false))=>Nx (Cy ns) (x:=x) (t:=t) e
 have hmade:=fun ks=>KO x ks
 generalize o8 (aT ns) x=res at hpb hpg ⊢;obtain⟨kind,name,lo,hi',ws,ls,vals,kids,⟨vk,vn,vs,vks⟩⟩:=x;simp only at hkl hkids hpb hpg;refine aK bG func121 rfl ?_;refine Rr ?_;refine aN (bK rfl (bK rfl (bK rfl (bK (Vi om) (bK (Vi om) (bK (oZ rfl om (by simp only[aC];omega)) (Vi (by simp only[aC];omega)))))))) ?_;refine Rr ?_;refine bC.at bG (fun p:Nat × List Bool × Nat × List (List a6)=>p.1<=kids.length/\p.2.1.length=ns.length/\(kids.take p.1).foldl (g5 (aT ns)) (1,false)=(p.2.2.1,false)/\p.2.2.1<=1024/\p.2.2.2.length=kids.length/\(∀(q:Nat) (k:Int),q<p.1->kids[q]? = some k->p.2.2.2[q]? = some (dF (aT ns) k).vals/\(dF (aT ns) k).vals≠[]))
  (fun p=>⟨[(0,.ptr 0 0 0),(1,.ip (bW ⟨kind,name,lo,hi',ws,ls,vals,kids,.mk vk vn vs vks⟩)),(6,.sl 4 0 kids.length),(7,.int .i64 p.2.2.1),(25,.il 1 (aS kids)),(26,.int .i64 kids.length),(27,.int .i64 p.1)],Sk ns p.2.1 [(4,.row 36 1 (cC p.2.2.2))],5,98⟩)
  (fun p=>kids.length-p.1) (0,kn,1,List.replicate kids.length []) (q6 [0,1,2,3,4])
  ⟨by simp,hk,by simp,by simp,by simp,fun q k hq=>by simp at hq⟩
  (aG _ rfl (gT rfl rfl rfl rfl rfl rfl rfl rfl ⟨⟨4,_,rfl,rfl,.to (B5 kids.length) (by rw[show (((aS kids).length:Nat):Int).toNat=kids.length by rw[aC];simp])⟩,trivial⟩) ⟨aJ,aR (.ip' hxn),⟨_,rfl,.slE rfl (by rw[aC];simp)⟩,aF,aR (.il' (aM _)),⟨_,rfl,.int (by rw[aC])⟩,aF,trivial⟩) ?_
 rintro⟨j,kn,total,lists⟩ ⟨hj,hk,hf,hto,hll,hls⟩;simp only at hj hk hf hto hll hls ⊢;refine Rr ?_;refine aI (fun hb=>?_) (fun hb=>?_)
 ·have hlt:j<kids.length:=by simpa using hb
  have e1:(aS kids)[(j:Int).toNat]? = some (.int .i64 kids[j]):=by rw[Va,a8,VV hlt];rfl
  have hg:kids[j]? = some kids[j]:=VV hlt;generalize kids[j]=k at e1 hg;obtain⟨k0,k1⟩:=hkids k (Ve hg);obtain⟨k,rfl⟩:=Vk k0;have hO:=hOf k om kn hk;have hst:=SM hg hf;have hvals:=h.vals (k:=k) om om;have hne:=h.ne (k:=k) om om;have hls':∀(q:Nat) (k':Int),q<j+1->kids[q]? = some k'->(q<j/\(lists[q]? = some (dF (aT ns) k').vals/\(dF (aT ns) k').vals≠[]))∨(q=j/\k'=k):=fun q k' hq hk'=>by
   rcases Vm q j with hq'|hq'
   ·exact .inl ⟨hq',hls q k' hq' hk'⟩
   ·have:q=j:=om;subst this;rw[hg] at hk';cases hk';exact .inr ⟨rfl,rfl⟩
  simp only[g5,XJ] at hst;unfold sQ at hO;refine Rr ?_;refine aD e1 ?_;refine Rr ?_;refine aH.useI bG [0,1,2,3] hO (by rfl) (.cons (.ptr 0 0 0 0 rfl) (.s .nil)) (gE ns kn) (by rfl) ?_;rintro r m k' ⟨kn',hk',rfl,rfl,rfl⟩;refine⟨nn,gE ns kn',by rfl, ?_⟩;obtain⟨lk,hlk⟩:∃lk,lk=dF (aT ns) k:=⟨_,rfl⟩
  rw[←hlk] at hst hvals hne ⊢;obtain⟨lv,lm⟩:=lk;simp only at hst hvals hne;cases lm with
  | true=>
   have hbad:=hpb (j+1) (by rw[hst];rfl);rw[hbad];refine Rr ?_;exact Be _ kn' hk' (gT rfl rfl rfl rfl rfl rfl rfl rfl trivial) _ _ (.tup' (.cons (.nil 4) (.s .nil)))
  | false=>
   have hw:IntKind.i64.wrap ((total:Int)*((aQ lv).length:Int))=((total*lv.length:Nat):Int):=by
    have:total*lv.length<=1024*1024:=Wk hto hvals.1;exact w64 (by rw[aB];simp) ⟨om,om⟩
   refine Rr ?_;rw[hw];refine Rr ?_;refine aI (fun hb2=>?_) (fun hb2=>?_)
   ·have hbad:=hpb (j+1) (by rw[hst];simp at hb2 ⊢;omega);rw[hbad];refine Rr ?_;exact Be _ kn' hk' (gT rfl rfl rfl rfl rfl rfl rfl rfl trivial) _ _ (.tup' (.cons (.nil 4) (.s .nil)))
   ·have hto':total*lv.length<=1024:=by simp at hb2;omega
    have h0:0+((j:Nat):Int).toNat=j:=by simp
    have g1:Nat.blt ((j:Nat):Int).toNat kids.length=true:=Vc (by simp;omega);have e3:(cC lists)[0+((j:Nat):Int).toNat]? = some (.il 4 (aQ lists[j])):=by rw[h0];exact nE (VV om)
    have e4:((cC lists).set (0+((j:Nat):Int).toNat) (.il 4 (aQ lv)))[0+((j:Nat):Int).toNat]? = some (.il 4 (aQ lv)):=by rw[h0];exact WJ (by rw[rG];omega)
    refine Rt ?_;repeat((first|refine aN g1 ?_|refine aD e3 ?_|refine aD e4 ?_);refine Rt ?_)
    exact .mk (j+1,kn',total*lv.length,lists.set j lv) (q6 [0,1,2,3,4]) ⟨by simp only;omega,hk',by simp only;rw[hst];simp;omega,hto',by simp only[Wu];exact hll,fun q k' hq hkq=>by
      simp only at hq ⊢;rcases hls' q k' hq hkq with⟨h1,h2,h3⟩|⟨rfl,rfl⟩
      ·rw[XP om];exact⟨h2,h3⟩
      ·rw[WJ om,←hlk];exact⟨rfl,hne rfl⟩⟩
     (aG _ rfl (gT rfl rfl rfl rfl rfl rfl rfl rfl ⟨⟨4,_,rfl,rfl,.eq (bO _) (by rw[h0];exact(Oz _ _ _).symm)⟩,trivial⟩) ⟨aJ,aR (.ip' hxn),⟨_,rfl,.slE rfl rfl⟩,aF,aR (.il' (aM _)),aF,⟨_,rfl,.wp⟩,trivial⟩) (by simp only;omega)
 ·have hlt:j=kids.length:=by simp at hb;omega
  rw[hlt,Vr] at hf;obtain⟨hres,hpr⟩:=hpg total hf;rw[hres];have hlv:lists=kids.map fun k=>(dF (aT ns) k).vals:=X3 fun q=>by
   rw[Vy];rcases Vm q kids.length with hq|hq
   ·rw[(hls q _ om (VV hq)).1,VV hq];rfl
   ·rw[Vo om,Vo hq];rfl
  have hlne:∀l∈lists,l≠[]:=fun l hl=>by
   rw[hlv] at hl;obtain⟨k,hk,rfl⟩:=Vq.1 hl;obtain⟨q,hq⟩:=V2 hk;exact(hls q k (by rw[hlt];exact(VX.1 hq).1) hq).2
  have hllen:∀l∈lists,l.length<=1024:=fun l hl=>by
   rw[hlv] at hl;obtain⟨k,hk,rfl⟩:=Vq.1 hl;obtain⟨k0,k1⟩:=hkids k hk;exact(h.vals k0 om).1
  rw[←hlv] at hpr ⊢;clear hpb hpg hls hlv hres hf;refine Rr ?_;refine aN (bK rfl (bK rfl (bK rfl (bK rfl (bK (Vi om) (bK (oZ rfl om om) (Vi om))))))) ?_;refine Rr ?_;refine bC.at bG (fun p:Nat × List a6=>p.1<=total/\p.2=((q7 lists.reverse).take p.1).map (dP name)/\p.2.length=p.1)
   (fun p=>⟨[(1,.ip (bW ⟨kind,name,lo,hi',ws,ls,vals,kids,.mk vk vn vs vks⟩)),(6,.sl 4 0 kids.length),(12,.sl 5 0 p.1),(53,.int .i64 total),(54,.int .i64 p.1)],Sk ns kn [(4,.row 36 1 (cC lists)),(5,.row 38 4 (aQ p.2))],6,98⟩)
   (fun p=>total-p.1) (0,[]) (q6 [0,1,2,3,4,5])
   ⟨by simp,by simp,by simp⟩
   (aG _ rfl (gT rfl rfl rfl rfl rfl rfl rfl rfl ⟨aL 4 (bO _),⟨5,_,rfl,rfl,.nil⟩,trivial⟩) ⟨aR (.ip' hxn),⟨_,rfl,.slE rfl rfl⟩,⟨_,rfl,.slE rfl rfl⟩,aF,aF,trivial⟩) ?_
  rintro⟨k,all⟩ ⟨hkt,hall,hal⟩;simp only at hkt hall hal ⊢;refine Rr ?_;refine aI (fun hb=>?_) (fun hb=>?_)
  ·have hlt2:k<total:=by simpa using hb
   refine Rr ?_;refine aN (bK rfl (bK rfl (bK rfl (bK (Vi om) (bK (Vi om) (bK (oZ rfl om om) (Vi om))))))) ?_;refine Rr ?_;refine bC.at bG (fun p:Nat × Nat × List a6=>p.1<=kids.length/\p.2.1<=1024/\p.2.2.length=kids.length/\Go.Ax.rowAt (lists.take p.1).reverse p.2.1++p.2.2.drop p.1=Go.Ax.rowAt lists.reverse k)
    (fun p=>⟨[(1,.ip (bW ⟨kind,name,lo,hi',ws,ls,vals,kids,.mk vk vn vs vks⟩)),(6,.sl 4 0 kids.length),(12,.sl 5 0 k),(13,.int .i64 p.2.1),(14,.sl 6 0 kids.length),(15,.int .i64 ((p.1:Int)-1)),(53,.int .i64 total),(54,.int .i64 k)],Sk ns kn [(4,.row 36 1 (cC lists)),(5,.row 38 4 (aQ all)),(6,.row 38 4 (aQ p.2.2))],7,98⟩)
    (fun p=>p.1) (kids.length,k,List.replicate kids.length (.mk 0 0 [] [])) (q6 [0,1,2,3,4,5,6])
    ⟨by simp,by simp only;omega,by simp,by simp only;rw[←hll,Vr,WV (by simp)];simp⟩
    (aG _ rfl (gT rfl rfl rfl rfl rfl rfl rfl rfl ⟨aL 4 (bO _),aL 5 (aO _),⟨6,_,rfl,rfl,EQ _⟩,trivial⟩) ⟨aR (.ip' hxn),⟨_,rfl,.slE rfl rfl⟩,⟨_,rfl,.slE rfl rfl⟩,aF,⟨_,rfl,.slE rfl (by simp)⟩,⟨_,rfl,.w64 (by simp only) ⟨by simp only;omega,by simp only;omega⟩⟩,aF,aF,trivial⟩) ?_
   rintro⟨q,kk,row⟩ ⟨hq,hkk,hrl,hrow⟩;simp only at hq hkk hrl hrow ⊢;refine Rr ?_;refine aI (fun hb=>?_) (fun hb=>?_)
   ·obtain⟨q,rfl⟩:∃q',q=q'+1:=⟨q-1,by simp at hb;omega⟩
    obtain⟨l,hl⟩:∃l,lists[q]? = some l:=⟨lists[q],VV om⟩
    have hlm:=Ve hl;have hl0:=WY.2 (hlne l hlm);have hl1:=hllen l hlm;have hmod:=YC kk hl0;have hdiv:=Nat.div_le_self kk l.length;obtain⟨v1,v2,v3,v4,vm,vg,-,ev⟩:=bT (l:=l) (k:=kk%l.length) hmod;have hrs:=J0 (kk:=kk) hl vg;have e0:0+((q:Nat):Int).toNat=q:=by simp
    have g1:Nat.blt ((q:Nat):Int).toNat kids.length=true:=Vc (by simp;omega);have e3:(cC lists)[0+((q:Nat):Int).toNat]? = some (.il 4 (aQ l)):=by rw[e0];exact nE hl
    have e15:((q+1:Nat):Int)-1=(q:Int):=om;rw[e15];refine Rr ?_;have d0:(!decide (((aQ l).length:Int)=0))=true:=by rw[aB,Bool.not_eq_true',Wi];omega
    have em:(kk:Int).tmod ((aQ l).length:Int)=((kk%l.length:Nat):Int):=by rw[aB];exact(Int.ofNat_tmod kk l.length).symm
    have ed:(kk:Int).tdiv ((aQ l).length:Int)=((kk/l.length:Nat):Int):=by rw[aB];exact(Int.ofNat_tdiv kk l.length).symm
    have ex:(aQ row)[0+((q:Nat):Int).toNat]? = some (bS row[q]):=by rw[e0,iT,VV om];rfl
    have ey:((aQ row).set (0+((q:Nat):Int).toNat) (bS (.mk v1 v2 v3 v4)))[0+((q:Nat):Int).toNat]? = some (bS (.mk v1 v2 v3 v4)):=by rw[e0];exact WJ (by rw[aB];omega)
    generalize row[q]=old at ex;obtain⟨o1,o2,o3,o4⟩:=old;repeat((first|refine aN g1 ?_|refine aD e3 ?_|refine aD ev ?_|refine aD ex ?_|refine aD ey ?_|refine bR.2 ?_|refine aU ?_|refine aN d0 ?_;(first|rw[em]|rw[ed]|skip));refine Rr ?_)
    have hdr:(row.set q (.mk v1 v2 v3 v4)).drop q = .mk v1 v2 v3 v4::row.drop (q+1):=by
     rw[List.drop_eq_getElem_cons (by simp;omega)];simp[List.drop_set]
    have hy:i64 ((kk/l.length:Nat):Int):=by
     have:=hdiv;generalize kk/l.length=d at this ⊢;clear ed;exact⟨om,om⟩
    have hset:aQ (row.set q (.mk v1 v2 v3 v4))=(aQ row).set q (bS (.mk v1 v2 v3 v4)):=by rw[fX,fX,W2]
    exact .mk (q,kk/l.length,row.set q (.mk v1 v2 v3 v4)) (q6 [0,1,2,3,4,5,6]) ⟨by simp only;omega,by simp only;omega,by simp only[Wu];exact hrl,by simp only;rw[hdr,←hrow,hrs,List.append_assoc];rfl⟩
     (aG _ rfl (gT rfl rfl rfl rfl rfl rfl rfl rfl ⟨aL 4 (bO _),aL 5 (aO _),⟨6,_,rfl,rfl,.eq (aO _) (by simp only;rw[e0,hset];rfl)⟩,trivial⟩) ⟨aR (.ip' hxn),⟨_,rfl,.slE rfl rfl⟩,⟨_,rfl,.slE rfl rfl⟩,⟨_,rfl,.w64 (y:=((kk/l.length:Nat):Int)) (by first|exact ed|rfl) hy⟩,⟨_,rfl,.slE rfl rfl⟩,⟨_,rfl,.w64 rfl ⟨by simp only;omega,by simp only;omega⟩⟩,aF,aF,trivial⟩) (by simp only;omega)
   ·have hq0:q=0:=by simp at hb;omega
    subst hq0;simp only[YA,List.reverse_nil,Go.Ax.rowAt,WG,V7] at hrow;have hmd:=hmade row;simp only at hmd;refine Rr ?_;refine aH.pre bG (mem':=Sk ns kn [(4,.row 36 1 (cC lists)),(5,.row 38 4 (aQ all))]) (q6 [0,1,2,3,4,5]) (by rfl)
     (gT rfl rfl rfl rfl rfl rfl rfl rfl ⟨aL 4 (bO _),aL 5 (aO _),trivial⟩)
     (.cons (.same _ (.ip' hxn)) (.cons (.fz' (id:=6) (t:=38) (xs:=aQ row) rfl rfl (by rw[aB];omega) (by rw[V7];exact Vl (by rw[aB];omega)) (aO _)) .nil)) ?_
    refine hmd.go ?_;have hr:=E9 lists.reverse k (by rw[←hpr];exact hlt2);rw[←hrow] at hr;obtain⟨⟨m1,m2,m3,m4⟩,hmv⟩:∃mv,mv=dP name row:=⟨_,rfl⟩
    rw[←hmv];refine Rr ?_;refine aN (bV rfl rfl (by simp[aB];omega) (by simp;omega)) ?_;refine Rr ?_;exact .mk (k+1,all++[.mk m1 m2 m3 m4]) [(0,0),(1,1),(2,2),(3,3),(4,4),(8,5)] ⟨by simp only;omega,by
      simp only;rw[hall,Xk,hr,Wv,hmv];rfl,by simp[hal]⟩
     (aG _ rfl (gT rfl rfl rfl rfl rfl rfl rfl rfl ⟨aL 4 (bO _),⟨8,_,rfl,rfl,.eq (aO _) (by rw[fY];rfl)⟩,trivial⟩) ⟨aR (.ip' hxn),⟨_,rfl,.slE rfl rfl⟩,⟨_,rfl,.slE rfl (by simp)⟩,aF,⟨_,rfl,.wp⟩,trivial⟩) (by simp only;omega)
  ·have hlt2:k=total:=by simp at hb;omega
   refine Rr ?_;refine Be _ kn hk (gT rfl rfl rfl rfl rfl rfl rfl rfl trivial) _ _ (.tup' (.cons (.fz' (id:=5) (t:=38) (xs:=aQ all) rfl rfl (by rw[aB];omega) ?_ (aO _)) (.s .nil)));rw[V7,Vl (by rw[aB];omega),hall,hlt2,hpr,←AP,Vr]
set_option maxHeartbeats 8000000
theorem T7{ns:List Nd}{n:Nat}(h:iB ns n)(i:Nat)(hi:i<n)(hOf:∀j<i,QO ns j)(kn:List Bool)(hk:kn.length=ns.length) :
  aH prog [] 106 [.ptr 0 0 0,.int .i64 i] (sM ns kn) 4 (sQ ns i):=by
 obtain⟨x,hx⟩:∃x,ns[i]? = some x:=⟨ns[i]'(by have:=h.hn;omega),VV _⟩
 have ex:(aW ns)[((i:Nat):Int).toNat]? = some (bW x):=by simp[gK,hx]
 unfold sQ;rw[h.at hi hx];have hG:=h.node hi hx;have hO:=h.nodeOK hi hx;have hxn:=aV x;have hkm:∀k∈x.kids,0<=k/\k<i:=fun k hk=>by
  obtain⟨j,hj⟩:=V2 hk;exact hG.kids j k hj
 have hU:=fun(kids:List Int) (h1:kids.length<=65536) (h2:∀k∈kids,0<=k/\k<i)=>Rz h i om kids h1 h2 hOf kn hk
 have hP:=N7 h i om x hG.klen hkm hOf kn hk;have hb:=hO.bind;have hkl:=hG.klen;have hkd:=hG.kind;have hnum:=dD hG.num;have e0:x.kind=0->cU x (aT ns)=⟨[x.value],false⟩:=fun e=>by unfold cU;rw[Vb e]
 have e1:x.kind=1->cU x (aT ns)=if 1024<=x.hi-x.lo then⟨[],true⟩ else⟨hZ x.lo x.hi,false⟩:=fun e=>by unfold cU;rw[VY om,Vb e]
 have e2:x.kind=2->cU x (aT ns)=jW (aT ns) x.kids:=fun e=>by unfold cU;rw[VY om,VY om,VY om,VY om]
 have e3:x.kind=3->cU x (aT ns)=o8 (aT ns) x:=fun e=>by unfold cU;rw[VY om,VY om,Vb e]
 have e4:x.kind=4->cU x (aT ns)=jW (aT ns) (x.kids.drop 1):=fun e=>by unfold cU;rw[VY om,VY om,VY om,Vb e]
 generalize cU x (aT ns)=res at e0 e1 e2 e3 e4 ⊢;clear hG hO hOf;have hP:x.kind=3->aH prog [] 121 [.ptr 0 0 0,.ip (bW x)] (sM ns kn) 4 (uQ ns res):=fun e=>by rw[e3 e];exact hP
 clear e3;obtain⟨kind,name,lo,hi',ws,ls,vals,kids,⟨vk,vn,vs,vks⟩⟩:=x;simp only at hkm hb hkl hkd hnum e0 e1 e2 e4 hP;refine aK bG func106 rfl ?_;refine Rr ?_;repeat(refine aD ex ?_;refine Rr ?_)
 have call:∀(F:FuncId) (a:List AV) (K:AV->aP->Nat->Prop) (nx:Nat),jZ a->aH prog [] F (.ptr 0 0 0::a) (sM ns kn) 4 (uQ ns res)->(∀kn',kn'.length=ns.length->K (.tup [.il 4 (aQ res.vals),.bool (!res.many)]) (sM ns kn'++gR [0,1,2,3] (sM ns kn)) nx)->aH prog [] F (.ptr 0 0 0::a) (sM ns kn) nx K:=fun F a K nx ha hc hK=>by
  refine aH.useI bG [0,1,2,3] hc (by rfl) (.cons (.ptr 0 0 0 0 rfl) (.same ha)) (gE ns kn) (by rfl) ?_;rintro r m k' ⟨kn',hk',rfl,rfl,rfl⟩;exact⟨nn,gE ns kn',by rfl,hK kn' hk'⟩
 rcases(show kind=0∨kind=1∨kind=2∨kind=3∨kind=4 by omega) with rfl|rfl|rfl|rfl|rfl
 ·rw[e0 rfl];refine Rr ?_;repeat(refine aD ex ?_;refine Rr ?_)
  exact Be _ kn hk (gT rfl rfl rfl rfl rfl rfl rfl rfl trivial) _ _ (.tup' (.cons (.fz' (id:=4) (t:=38) (xs:=aQ [.mk vk vn vs vks]) rfl rfl (by rw[aB];simp) rfl (aO _)) (.s .nil)))
 ·rw[e1 rfl];have hw:IntKind.i64.wrap (hi'-lo)=hi'-lo:=cV ⟨om,om⟩;refine Rr ?_;simp only[hw];refine aI (fun hb=>?_) (fun hb=>?_)
  ·have hb:1024<=hi'-lo:=by simpa using hb
   rw[Vb hb];refine Rr ?_;exact Be _ kn hk (gE ns kn) _ _ (.tup' (.cons (.nil 4) (.s .nil)))
  ·have hb:¬1024<=hi'-lo:=by simpa using hb
   rw[VY hb];refine Rr ?_;refine bC.ph 38 4 ?_;refine bC.at bG (fun c:Nat=>c<=(hi'+1-lo).toNat)
    (fun c=>⟨[(6,.ip (bW ⟨1,name,lo,hi',ws,ls,vals,kids,.mk vk vn vs vks⟩)),(7,.sl 4 0 c),(8,.int .i64 (lo+c))],Sk ns kn [(4,.row 38 4 (aQ (hZ lo (lo+c-1))))],5,82⟩)
    (fun c=>(hi'+1-lo).toNat-c) 0 [(0,0),(1,1),(2,2),(3,3),(14,4)] (by simp)
    (aG _ rfl (gT rfl rfl rfl rfl rfl rfl rfl rfl ⟨⟨14,_,rfl,rfl,by rw[show hZ lo (lo+((0:Nat):Int)-1)=[] by simp[hZ]];exact .nil⟩,trivial⟩) ⟨aR (.ip' hxn),⟨_,rfl,.nslk 14 4 _ rfl rfl⟩,⟨_,rfl,.int (by simp)⟩,trivial⟩) ?_
   intro c hc;have hrl:∀c:Nat,(hZ lo (lo+c-1)).length=c:=fun c=>by simp[hZ];omega
   refine Rr ?_;refine aI (fun hb2=>?_) (fun hb2=>?_)
   ·have hb2:lo+c<=hi':=by simpa using hb2
    have hrs:hZ lo (lo+((c+1:Nat):Int)-1)=hZ lo (lo+c-1)++[.mk 0 (lo+c) [] []]:=by
     unfold hZ;rw[show (lo+((c+1:Nat):Int)-1+1-lo).toNat=c+1 by omega,show (lo+(c:Int)-1+1-lo).toNat=c by omega,X9,Wv];rfl
    refine Rr ?_;refine aN (bV rfl rfl (by rw[aB,hrl]) (by simp;omega)) ?_;refine Rr ?_;exact .mk (c+1) [(0,0),(1,1),(2,2),(3,3),(6,4)] om
     (aG _ rfl (gT rfl rfl rfl rfl rfl rfl rfl rfl ⟨⟨6,_,rfl,rfl,by rw[hrs,fY];exact .snoc rfl (.same (aO _)) (uV 0 (lo+c) [])⟩,trivial⟩) ⟨aR (.ip' hxn),⟨_,rfl,.slE rfl (by simp)⟩,⟨_,rfl,.w64 om ⟨om,om⟩⟩,trivial⟩) om
   ·have hb2:¬lo+c<=hi':=by simpa using hb2
    have hcc:lo+c-1=hi':=om;refine Rr ?_;rw[hcc];refine Be _ kn hk (gT rfl rfl rfl rfl rfl rfl rfl rfl trivial) _ _ (.tup' (.cons (.fz' (id:=4) (t:=38) (xs:=aQ (hZ lo hi')) rfl rfl (by rw[aB];have:=hrl c;rw[hcc] at this;omega) ?_ (aO _)) (.s .nil)));rw[V7];exact Vl (by rw[aB];have:=hrl c;rw[hcc] at this;omega)
 ·rw[e2 rfl] at call ⊢;refine Rr ?_;refine call _ _ _ _ (.cons (.il' (aM _)) .nil) (hU kids hkl hkm) fun kn' hk'=>?_
  refine Rr ?_;exact Be _ kn' hk' (gE ns kn') _ _ (.same _ nn)
 ·refine Rr ?_;refine call _ _ _ _ (.cons (.ip' hxn) .nil) (hP rfl) fun kn' hk'=>?_
  refine Rr ?_;exact Be _ kn' hk' (gE ns kn') _ _ (.same _ nn)
 ·rw[e4 rfl] at call ⊢;have hb:=hb rfl;refine Rr ?_;refine aN (bK (Vc (by rw[aC];simp;omega)) (bK (Vc (Vh _)) (Vc (Vh _)))) ?_;have ed:List.take ((aS kids).length-Int.toNat 1) (List.drop (Int.toNat 1) (aS kids))=aS (kids.drop 1):=by
   rw[Vl (by simp)];simp[aS]
  rw[ed];refine Rr ?_;refine call _ _ _ _ (.cons (.il' (aM _)) .nil) (hU (kids.drop 1) (by rw[Xo];omega) fun k hk=>hkm k (Wa hk)) fun kn' hk'=>?_
  refine Rr ?_;exact Be _ kn' hk' (gE ns kn') _ _ (.same _ nn)
theorem VU{ns:List Nd}{n:Nat}(h:iB ns n):∀i<n,QO ns i:=by
 intro i
 induction i using Nat.strongRecOn with
 | ind i ih=>exact fun hi kn hk=>Uk h i hi kn hk (T7 h i hi (fun j hj=>ih j hj om) kn hk)
set_option maxHeartbeats 8000000
theorem Ut(a b:a6)(ha:gH a):bB prog [] 74 [bS a,bS b] (.bool (cE a b == 0)):=by
 have hc:=nS a b ha;obtain⟨a1,a2,a3,a4⟩:=a;obtain⟨b1,b2,b3,b4⟩:=b;generalize cE (.mk a1 a2 a3 a4) (.mk b1 b2 b3 b4)=c at hc ⊢;refine aK bG func74 rfl ?_;refine Rr ?_;refine hc.go ?_;refine Rr ?_;exact aA nn ⟨rfl,rfl,rfl⟩
theorem JW(l m:List a6)(hl:l.length<=4294967296)(hm:m.length<=4294967296)(hok:∀a∈l,gH a) :
  bB prog [] 73 [.il 4 (aQ l),.il 4 (aQ m),.fn (.func 74) [] []] (.bool (dB l m)):=by
 have hE:=fun a ha b=>Ut a b (hok a ha)
 refine aK bG func73 rfl ?_;refine Rr ?_;refine aI (fun h=>?_) (fun h=>?_)
 ·have h1:l.length≠m.length:=by rw[aB,aB] at h;simp at h;omega
  have:dB l m=false:=by
   cases e:dB l m with
   | false=>rfl
   | true=>exact absurd (lH e) h1
  rw[this];refine Rr ?_;exact aA nn ⟨rfl,rfl,rfl⟩
 ·have h1:l.length=m.length:=by rw[aB,aB] at h;simp at h;omega
  refine Rr ?_;refine bC.at bG (fun i:Nat=>i<=l.length/\dB l m=dB (l.drop i) (m.drop i)) (fun i=>⟨[(1,.il 4 (aQ m)),(2,.fn (.func 74) [] []),(15,.il 4 (aQ l)),(16,.int .i64 l.length),(17,.int .i64 i)],[],0,32⟩) (fun i=>l.length-i) 0 [] ⟨by simp,by simp⟩
   (bX ⟨aR (.il' (aO _)),aF,aR (.il' (aO _)),⟨_,rfl,.int (by rw[aB])⟩,aF,trivial⟩) ?_
  rintro i ⟨hi,hs⟩;refine Rr ?_;refine aI (fun hb=>?_) (fun hb=>?_)
  ·have hil:i<l.length:=by simpa using hb
   obtain⟨p1,p2,p3,p4,pm,pg,pe,ep⟩:=bT (l:=l) (k:=i) hil;obtain⟨q1,q2,q3,q4,qm,qg,qe,eq⟩:=bT (l:=m) (k:=i) om;rw[List.drop_eq_getElem_cons hil,List.drop_eq_getElem_cons (show i<m.length by omega),dB,pe,qe] at hs;have hc:=hE _ pm (.mk q1 q2 q3 q4);obtain⟨c,hc0⟩:∃c,c=cE (.mk p1 p2 p3 p4) (.mk q1 q2 q3 q4):=⟨_,rfl⟩
   rw[←hc0] at hc hs;refine Rr ?_;repeat((first|refine aD ep ?_|refine aD eq ?_|refine aU ?_);refine Rr ?_)
   refine hc.go ?_;refine Rr ?_;refine aI (fun h=>?_) (fun h=>?_)
   ·have:decide (c=0)=false:=by simpa using h
    rw[hs,this];refine Rr ?_;exact aA nn ⟨rfl,rfl,rfl⟩
   ·have:decide (c=0)=true:=by simpa using h
    rw[this] at hs;refine Rr ?_;exact .mk (i+1) [] ⟨om,hs⟩ (bX ⟨aR (.il' (aO _)),aF,aR (.il' (aO _)),aF,⟨_,rfl,.w64 om ⟨om,om⟩⟩,trivial⟩) om
  ·have hil:i=l.length:=by simp at hb;omega
   rw[hil,Wf,h1,Wf,dB] at hs;rw[hs];refine Rr ?_;exact aA nn ⟨rfl,rfl,rfl⟩
set_option maxHeartbeats 8000000
def Gn(ns:List Nd)(ls ss:List Int)(kn:List Bool)(rest:aP):aP:=(0,.row 86 4 [.agg [.il 12 (aW ns),.sl 1 0 ns.length,.sl 2 0 ns.length,.ptr 3 0 0]])::(1,.row 3 1 (aS ls))::(2,.row 3 1 (aS ss)) ::
 (3,.row 119 4 [.agg [.il 12 (aW ns),.sl 4 0 ns.length,.sl 5 0 ns.length,.sl 6 0 ns.length]])::(4,.row 4 1 (kB kn))::(5,.row 36 1 (lB (aT ns) kn))::(6,.row 4 1 (mB (aT ns) kn))::rest
def Sq(ns:List Nd)(l1 l2:List AV)(kn:List Bool):aP:=[(0,.row 86 4 [.agg [.il 12 (aW ns),.sl 1 0 ns.length,.sl 2 0 ns.length,.ptr 3 0 0]]),(1,.row 3 1 l1),(2,.row 3 1 l2),
 (3,.row 119 4 [.agg [.il 12 (aW ns),.sl 4 0 ns.length,.sl 5 0 ns.length,.sl 6 0 ns.length]]),(4,.row 4 1 (kB kn)),(5,.row 36 1 (lB (aT ns) kn)),(6,.row 4 1 (mB (aT ns) kn))]
theorem TS{mem:aP}{σ:List (Nat × Nat)}{ns:List Nd}{N a b c a' b' c':Nat}(h1:lk σ a=some a')(h2:lk σ b=some b')(h3:lk σ c=some c') :
  tE mem σ [.agg [.il 12 (aW ns),.sl a 0 N,.sl b 0 N,.ptr c 0 0]] [.agg [.il 12 (aW ns),.sl a' 0 N,.sl b' 0 N,.ptr c' 0 0]]:=
 .cons (.agg (.cons (.same _ (.il' (aY _))) (.cons (.sl a a' 0 N h1) (.cons (.sl b b' 0 N h2) (.cons (.ptr c c' 0 0 h3) .nil))))) .nil
theorem kC{mem:aP}{σ:List (Nat × Nat)}{ns:List Nd}{kn:List Bool}{ls ss:List Int}{l1 l2:List AV}{rest:aP}(h0:lk σ 0=some 0)(h1:lk σ 1=some 1)(h2:lk σ 2=some 2)(h3:lk σ 3=some 3)(h4:lk σ 4=some 4)(h5:lk σ 5=some 5)(h6:lk σ 6=some 6)
  (m0:lk mem 0=some (.row 86 4 [.agg [.il 12 (aW ns),.sl 1 0 ns.length,.sl 2 0 ns.length,.ptr 3 0 0]])) (m1:lk mem 1=some (.row 3 1 l1)) (m2:lk mem 2=some (.row 3 1 l2)) (e1:l1=aS ls) (e2:l2=aS ss)
  (m3:lk mem 3=some (.row 119 4 [.agg [.il 12 (aW ns),.sl 4 0 ns.length,.sl 5 0 ns.length,.sl 6 0 ns.length]])) (m4:lk mem 4=some (.row 4 1 (kB kn))) (m5:lk mem 5=some (.row 36 1 (lB (aT ns) kn))) (m6:lk mem 6=some (.row 4 1 (mB (aT ns) kn)))
  (hr:cN mem σ rest):cN mem σ (Gn ns ls ss kn rest):=
 ⟨⟨0,_,h0,m0,TS h1 h2 h3⟩,⟨1,_,h1,m1,.eq (aM _) e1⟩,⟨2,_,h2,m2,.eq (aM _) e2⟩,⟨3,_,h3,m3,EB h4 h5 h6⟩,⟨4,_,h4,m4,.same (iR _)⟩,⟨5,_,h5,m5,.same (yU _ _)⟩,⟨6,_,h6,m6,.same (w9 _ _)⟩,hr⟩
theorem nO(ns:List Nd)(ls ss:List Int)(kn:List Bool):cN (Gn ns ls ss kn []) (q6 [0,1,2,3,4,5,6]) (Gn ns ls ss kn []):=kC rfl rfl rfl rfl rfl rfl rfl rfl rfl rfl rfl rfl rfl rfl rfl rfl trivial
theorem nX(l:List Int)(i:Nat)(y:Int):aS (l.set i y)=(aS l).set i (.int .i64 y):=by simp[aS,W2]
theorem R9{ns:List Nd}(i:Nat)(x:Nd)(hx:ns[i]? = some x)(hok:n4 x)(hsz:bF x.value<=1048576)(hkl:x.kids.length<=65536)(hkids:∀(j:Nat) (k:Int),x.kids[j]? = some k->0<=k/\k<i)(hkd:0<=x.kind/\x.kind<=4)(h4:4<=x.kind->0<x.kids.length)
  (ls ss:List Int) (kn:List Bool) (hls:ls.length=ns.length) (hss:ss.length=ns.length) (bl:∀y∈ls,0<=y/\y<=1024) (bs:∀y∈ss,0<=y/\y<=1024) :
  aH prog [] 42 [.ptr 0 0 0,.int .i64 i] (Gn ns ls ss kn []) 7 fun r m k=>r = .bool (decide (Go.Ax.d9 ls x<=256) && decide (zA ss x<=1024))/\m=Gn ns (ls.set i (Go.Ax.d9 ls x)) (ss.set i (zA ss x)) kn []/\k=7:=by
 have hil:=(VX.1 hx).1;have ex:(aW ns)[((i:Nat):Int).toNat]? = some (bW x):=by simp[gK,hx]
 have hxn:=aV x;have hL:=KC ls x hok hkl bl (fun j k hk=>by have:=hkids j k hk;omega) h4 hkd;have hV:=UA x.value hsz;have hP:zA ss x=if x.kind=0 then(bF x.value:Int) else if x.kind=1 then 1 else if x.kind=3 then 1+fB ss x.kids else max 1 (cQ ss (dU x)):=rfl
 have hs:=fun l=>jA (b:=ss) (M:=1024) om bs l
 have hm:=fun l=>gP (b:=ss) (M:=1024) om bs l
 have har:dU x=if x.kind=2 then x.kids else x.kids.drop 1:=rfl
 have hat:=fun q=>mX (b:=ss) (M:=1024) om bs q
 have eat:∀k:Int,0<=k->k<ss.length->(aS ss)[0+k.toNat]? = some (.int .i64 (dR ss k)):=fun k h0 h1=>by
  have:k.toNat<ss.length:=om;rw[V0,a8,VV this];unfold dR;rw[VW,VV this];rfl
 have hM:∀k:Nat,k<x.kids.length->(cQ ss (if x.kind=2 then x.kids.take (k+1) else(x.kids.take (k+1)).drop 1))=if 0<k∨x.kind=2 then max (cQ ss (if x.kind=2 then x.kids.take k else(x.kids.take k).drop 1)) (dR ss (x.kids.getD k 0)) else cQ ss (if x.kind=2 then x.kids.take k else(x.kids.take k).drop 1):=fun k hk=>by
  have eg:x.kids.getD k 0=x.kids[k]:=by rw[VW,VV hk];rfl
  rw[eg];by_cases e2:x.kind=2
  ·rw[Vb e2,Vb (.inr e2),Vb e2,rZ hk]
  ·rw[VY e2,VY e2];by_cases e0:0<k
   ·rw[Vb (.inl e0),pR hk e0]
   ·rw[VY om];have:k=0:=om;subst this;simp[cQ,Xj]
 have h0:0+((i:Nat):Int).toNat=i:=by simp
 have g1:Nat.blt ((i:Nat):Int).toNat ns.length=true:=Vc (by simp;omega);generalize hlen:Go.Ax.d9 ls x=len at *;generalize hsiz:zA ss x=siz at *;clear hlen hsiz hok;obtain⟨kind,name,lo,hi',ws,lbs,vals,kids,⟨vk,vn,vs,vks⟩⟩:=x;simp only at hsz hkl hkids hkd h4 hV hP hM;obtain⟨sv,hsv⟩:∃sv,sv=bF (.mk vk vn vs vks):=⟨_,rfl⟩
 rw[←hsv] at hV hP hsz;have f1:(aS ls)[0+((i:Nat):Int).toNat]? = some (.int .i64 ls[i]):=by rw[h0,a8,VV om];rfl
 have f2:((aS ls).set (0+((i:Nat):Int).toNat) (.int .i64 len))[0+((i:Nat):Int).toNat]? = some (.int .i64 len):=by rw[h0];exact WJ (by rw[aC];omega)
 have f3:(aS ss)[0+((i:Nat):Int).toNat]? = some (.int .i64 ss[i]):=by rw[h0,a8,VV om];rfl
 have f4:∀siz:Int,((aS ss).set (0+((i:Nat):Int).toNat) (.int .i64 siz))[0+((i:Nat):Int).toNat]? = some (.int .i64 siz):=fun siz=>by rw[h0];exact WJ (by rw[aC];omega)
 generalize ls[i]=l0 at f1;generalize ss[i]=s0 at f3;refine aK bG func42 rfl ?_;refine Rt ?_;repeat((first|refine aN g1 ?_|refine aD ex ?_|refine aD f1 ?_|refine aD f2 ?_);refine Rt ?_)
 refine hL.lend bG (.cons (.same _ (.ip' hxn)) (.cons (.fz' (id:=1) (t:=3) (xs:=aS ls) rfl rfl (by rw[aC];omega) (by rw[V7];exact Vl (by rw[aC];omega)) (aM _)) .nil)) (.int _ _) ?_;refine Rt ?_;repeat((first|refine aN g1 ?_|refine aD ex ?_|refine aD f1 ?_|refine aD f2 ?_);refine Rt ?_)
 obtain⟨d1,hd1⟩:∃d1,d1=decide (len<=256):=⟨_,rfl⟩
 rw[←hd1];have fin:∀(mem:aP) (nx:Nat) {d:Bool},d=(d1 && decide (siz<=1024))->mem=Sq ns ((aS ls).set (0+((i:Nat):Int).toNat) (.int .i64 len)) ((aS ss).set (0+((i:Nat):Int).toNat) (.int .i64 siz)) kn ->
   kN 7 (fun r m k=>r = .bool (d1 && decide (siz<=1024))/\m=Gn ns (ls.set i len) (ss.set i siz) kn []/\k=7) (.bool d) mem nx:=by
  rintro mem nx d rfl rfl;exact bJ (n':=7) (m':=Gn ns (ls.set i len) (ss.set i siz) kn []) (q6 [0,1,2,3,4,5,6]) rfl (kC rfl rfl rfl rfl rfl rfl rfl rfl rfl rfl (by rw[h0];exact(nX _ _ _).symm) (by rw[h0];exact(nX _ _ _).symm) rfl rfl rfl rfl trivial) (.same _ nn) ⟨rfl,rfl,rfl⟩
 have fin':∀(mem:aP) (nx:Nat) {d:Bool},d=(d1 && decide (siz<=1024))->mem=Sq ns (aS (ls.set i len)) ((aS ss).set (0+((i:Nat):Int).toNat) (.int .i64 siz)) kn ->
   kN 7 (fun r m k=>r = .bool (d1 && decide (siz<=1024))/\m=Gn ns (ls.set i len) (ss.set i siz) kn []/\k=7) (.bool d) mem nx:=by
  rintro mem nx d rfl rfl;exact bJ (n':=7) (m':=Gn ns (ls.set i len) (ss.set i siz) kn []) (q6 [0,1,2,3,4,5,6]) rfl (kC rfl rfl rfl rfl rfl rfl rfl rfl rfl rfl rfl (by rw[h0];exact(nX _ _ _).symm) rfl rfl rfl rfl trivial) (.same _ nn) ⟨rfl,rfl,rfl⟩
 have f2':(aS (ls.set i len))[0+((i:Nat):Int).toNat]? = some (.int .i64 len):=by rw[h0,nX];exact WJ (by rw[aC];omega)
 rcases(show kind=0∨kind=1∨kind=2∨kind=3∨kind=4 by omega) with rfl|rfl|rfl|rfl|rfl
 ·rw[Vb rfl] at hP;subst hP;refine Rr ?_;refine hV.go ?_;refine Rt ?_;repeat((first|refine aN g1 ?_|refine aD f3 ?_|refine aD (f4 _) ?_|refine aD f2 ?_);refine Rt ?_)
  rw[←hd1];clear hd1;cases d1 with
  | true=>
   refine Rr ?_;exact fin _ _ rfl rfl
  | false=>
   refine Rr ?_;exact fin _ _ rfl rfl
 ·rw[VY (by decide),Vb rfl] at hP;subst hP;refine Rt ?_;repeat((first|refine aN g1 ?_|refine aD f3 ?_|refine aD (f4 _) ?_|refine aD f2 ?_);refine Rt ?_)
  rw[←hd1];clear hd1;cases d1 with
  | true=>
   refine Rr ?_;exact fin _ _ rfl rfl
  | false=>
   refine Rr ?_;exact fin _ _ rfl rfl
 ·rw[VY (by decide),VY (by decide),VY (by decide)] at hP;refine Rr ?_;refine bC.at bG (fun p:Nat × Int=>p.1<=kids.length/\p.2=max 1 (cQ ss (kids.take p.1)))
   (fun p=>⟨[(0,.ptr 0 0 0),(1,.int .i64 i),(5,.ip (bW ⟨2,name,lo,hi',ws,lbs,vals,kids,.mk vk vn vs vks⟩)),(6,.int .i64 p.2),(67,.il 1 (aS kids)),(68,.int .i64 kids.length),(69,.int .i64 p.1)],Gn ns (ls.set i len) ss kn [],7,112⟩) (fun p=>kids.length-p.1) (0,1) (q6 [0,1,2,3,4,5,6]) ⟨by simp,by simp[cQ];omega⟩
   (aG _ rfl (kC rfl rfl rfl rfl rfl rfl rfl rfl rfl rfl (by rw[h0];exact(nX _ _ _).symm) rfl rfl rfl rfl rfl trivial) ⟨aJ,aF,aR (.ip' hxn),aF,aR (.il' (aM _)),⟨_,rfl,.int (by rw[aC])⟩,aF,trivial⟩) ?_
  rintro⟨j,size⟩ ⟨hj,hsize⟩;simp only at hj hsize ⊢;have bsz:=hm (kids.take j);refine Rr ?_;refine aI (fun h=>?_) (fun h=>?_)
  ·have hlt:j<kids.length:=by simpa using h
   have e1:(aS kids)[(j:Int).toNat]? = some (.int .i64 kids[j]):=by rw[Va,a8,VV hlt];rfl
   obtain⟨q0,q1⟩:=hkids j _ (VV hlt);have hM:=hM j hlt;have eg:kids.getD j 0=kids[j]:=by rw[VW,VV hlt];rfl
   rw[eg] at hM;have hM:cQ ss (kids.take (j+1))=max (cQ ss (kids.take j)) (dR ss kids[j]):=by simpa using hM
   generalize kids[j]=q at e1 q0 q1 hM;obtain⟨q,rfl⟩:=Vk q0;have e2:=eat q q0 om;have hq:=hat q;have g2:Nat.blt ((q:Nat):Int).toNat ns.length=true:=Vc (by simp;omega);generalize dR ss q=z at e2 hq hM;refine Rr ?_;repeat((first|refine aN g2 ?_|refine aD e1 ?_|refine aD e2 ?_);refine Rr ?_)
   by_cases k0:0<j
   ·have d0:decide ((j:Int)>0)=true:=by simp;omega
    rw[d0];refine Rr ?_;repeat((first|refine aN g2 ?_|refine aD e1 ?_|refine aD e2 ?_);refine Rr ?_)
    exact .mk (j+1,max size z) (q6 [0,1,2,3,4,5,6]) ⟨by simp only;omega,by simp only;rw[hM,hsize];omega⟩
     (aG _ rfl (nO _ _ _ _) ⟨aJ,aF,aR (.ip' hxn),⟨_,rfl,.int (by simp only;split<;>omega)⟩,aR (.il' (aM _)),aF,⟨_,rfl,.wp⟩,trivial⟩) (by simp only;omega)
   ·have d0:decide ((j:Int)>0)=false:=by simp;omega
    rw[d0];refine Rr ?_;repeat((first|refine aN g2 ?_|refine aD e1 ?_|refine aD e2 ?_);refine Rr ?_)
    exact .mk (j+1,max size z) (q6 [0,1,2,3,4,5,6]) ⟨by simp only;omega,by simp only;rw[hM,hsize];omega⟩
     (aG _ rfl (nO _ _ _ _) ⟨aJ,aF,aR (.ip' hxn),⟨_,rfl,.int (by simp only;split<;>omega)⟩,aR (.il' (aM _)),aF,⟨_,rfl,.wp⟩,trivial⟩) (by simp only;omega)
  ·have hlt:j=kids.length:=by simp at h;omega
   rw[hlt,Vr,show cQ ss kids=cQ ss (dU ⟨2,name,lo,hi',ws,lbs,vals,kids,.mk vk vn vs vks⟩) from rfl,←hP] at hsize;subst hsize;refine Rt ?_;repeat((first|refine aN g1 ?_|refine aD f3 ?_|refine aD (f4 _) ?_|refine aD f2' ?_);refine Rt ?_)
   rw[←hd1];clear hd1;cases d1 with
   | true=>
    refine Rr ?_;exact fin' _ _ rfl rfl
   | false=>
    refine Rr ?_;exact fin' _ _ rfl rfl
 ·rw[VY (by decide),VY (by decide),Vb rfl] at hP;refine Rr ?_;refine bC.at bG (fun p:Nat × Int=>p.1<=kids.length/\p.2=1+fB ss (kids.take p.1))
   (fun p=>⟨[(0,.ptr 0 0 0),(1,.int .i64 i),(6,.int .i64 p.2),(45,.il 1 (aS kids)),(46,.int .i64 kids.length),(47,.int .i64 p.1)],Gn ns (ls.set i len) ss kn [],7,112⟩) (fun p=>kids.length-p.1) (0,1) (q6 [0,1,2,3,4,5,6]) ⟨by simp,by simp[fB]⟩
   (aG _ rfl (kC rfl rfl rfl rfl rfl rfl rfl rfl rfl rfl (by rw[h0];exact(nX _ _ _).symm) rfl rfl rfl rfl rfl trivial) ⟨aJ,aF,aF,aR (.il' (aM _)),⟨_,rfl,.int (by rw[aC])⟩,aF,trivial⟩) ?_
  rintro⟨j,size⟩ ⟨hj,hsize⟩;simp only at hj hsize ⊢;have bsz:=hs (kids.take j);have btk:(kids.take j).length<=65536:=by simp;omega
  refine Rr ?_;refine aI (fun h=>?_) (fun h=>?_)
  ·have hlt:j<kids.length:=by simpa using h
   have e1:(aS kids)[(j:Int).toNat]? = some (.int .i64 kids[j]):=by rw[Va,a8,VV hlt];rfl
   obtain⟨q0,q1⟩:=hkids j _ (VV hlt);have hst:=wF (b:=ss) hlt;generalize kids[j]=q at e1 q0 q1 hst;obtain⟨q,rfl⟩:=Vk q0;have e2:=eat q q0 om;have hq:=hat q;have g2:Nat.blt ((q:Nat):Int).toNat ns.length=true:=Vc (by simp;omega);generalize dR ss q=z at e2 hq hst;refine Rr ?_;repeat((first|refine aN g2 ?_|refine aD e1 ?_|refine aD e2 ?_);refine Rr ?_)
   exact .mk (j+1,size+z) (q6 [0,1,2,3,4,5,6]) ⟨by simp only;omega,by simp only;rw[hst,hsize];omega⟩
    (aG _ rfl (nO _ _ _ _) ⟨aJ,aF,⟨_,rfl,.w64 rfl ⟨by simp only;omega,by simp only;omega⟩⟩,aR (.il' (aM _)),aF,⟨_,rfl,.wp⟩,trivial⟩) (by simp only;omega)
  ·have hlt:j=kids.length:=by simp at h;omega
   rw[hlt,Vr,←hP] at hsize;subst hsize;refine Rt ?_;repeat((first|refine aN g1 ?_|refine aD f3 ?_|refine aD (f4 _) ?_|refine aD f2' ?_);refine Rt ?_)
   rw[←hd1];clear hd1;cases d1 with
   | true=>
    refine Rr ?_;exact fin' _ _ rfl rfl
   | false=>
    refine Rr ?_;exact fin' _ _ rfl rfl
 ·rw[VY (by decide),VY (by decide),VY (by decide)] at hP;refine Rr ?_;refine bC.at bG (fun p:Nat × Int=>p.1<=kids.length/\p.2=max 1 (cQ ss ((kids.take p.1).drop 1)))
   (fun p=>⟨[(0,.ptr 0 0 0),(1,.int .i64 i),(5,.ip (bW ⟨4,name,lo,hi',ws,lbs,vals,kids,.mk vk vn vs vks⟩)),(6,.int .i64 p.2),(67,.il 1 (aS kids)),(68,.int .i64 kids.length),(69,.int .i64 p.1)],Gn ns (ls.set i len) ss kn [],7,112⟩) (fun p=>kids.length-p.1) (0,1) (q6 [0,1,2,3,4,5,6]) ⟨by simp,by simp[cQ];omega⟩
   (aG _ rfl (kC rfl rfl rfl rfl rfl rfl rfl rfl rfl rfl (by rw[h0];exact(nX _ _ _).symm) rfl rfl rfl rfl rfl trivial) ⟨aJ,aF,aR (.ip' hxn),aF,aR (.il' (aM _)),⟨_,rfl,.int (by rw[aC])⟩,aF,trivial⟩) ?_
  rintro⟨j,size⟩ ⟨hj,hsize⟩;simp only at hj hsize ⊢;have bsz:=hm ((kids.take j).drop 1);refine Rr ?_;refine aI (fun h=>?_) (fun h=>?_)
  ·have hlt:j<kids.length:=by simpa using h
   have e1:(aS kids)[(j:Int).toNat]? = some (.int .i64 kids[j]):=by rw[Va,a8,VV hlt];rfl
   obtain⟨q0,q1⟩:=hkids j _ (VV hlt);have hM:=hM j hlt;have eg:kids.getD j 0=kids[j]:=by rw[VW,VV hlt];rfl
   rw[eg] at hM;have hM:0<j->cQ ss ((kids.take (j+1)).drop 1)=max (cQ ss ((kids.take j).drop 1)) (dR ss kids[j]):=fun hj=>by rw[pR hlt hj]
   generalize kids[j]=q at e1 q0 q1 hM;obtain⟨q,rfl⟩:=Vk q0;have e2:=eat q q0 om;have hq:=hat q;have g2:Nat.blt ((q:Nat):Int).toNat ns.length=true:=Vc (by simp;omega);generalize dR ss q=z at e2 hq hM;refine Rr ?_;repeat((first|refine aN g2 ?_|refine aD e1 ?_|refine aD e2 ?_);refine Rr ?_)
   by_cases k0:0<j
   ·have d0:decide ((j:Int)>0)=true:=by simp;omega
    rw[d0];refine Rr ?_;repeat((first|refine aN g2 ?_|refine aD e1 ?_|refine aD e2 ?_);refine Rr ?_)
    exact .mk (j+1,max size z) (q6 [0,1,2,3,4,5,6]) ⟨by simp only;omega,by simp only;rw[hM k0,hsize];omega⟩
     (aG _ rfl (nO _ _ _ _) ⟨aJ,aF,aR (.ip' hxn),⟨_,rfl,.int (by simp only;split<;>omega)⟩,aR (.il' (aM _)),aF,⟨_,rfl,.wp⟩,trivial⟩) (by simp only;omega)
   ·have d0:decide ((j:Int)>0)=false:=by simp;omega
    rw[d0];refine Rr ?_;repeat((first|refine aN g2 ?_|refine aD e1 ?_|refine aD e2 ?_);refine Rr ?_)
    have j0:j=0:=om;subst j0;exact .mk (1,size) (q6 [0,1,2,3,4,5,6]) ⟨by simp only;omega,by simp only;rw[hsize];simp[Xj]⟩
     (aG _ rfl (nO _ _ _ _) ⟨aJ,aF,aR (.ip' hxn),aF,aR (.il' (aM _)),aF,⟨_,rfl,.wp⟩,trivial⟩) (by simp only;omega)
  ·have hlt:j=kids.length:=by simp at h;omega
   rw[hlt,Vr,show cQ ss (kids.drop 1)=cQ ss (dU ⟨4,name,lo,hi',ws,lbs,vals,kids,.mk vk vn vs vks⟩) from rfl,←hP] at hsize;subst hsize;refine Rt ?_;repeat((first|refine aN g1 ?_|refine aD f3 ?_|refine aD (f4 _) ?_|refine aD f2' ?_);refine Rt ?_)
   rw[←hd1];clear hd1;cases d1 with
   | true=>
    refine Rr ?_;exact fin' _ _ rfl rfl
   | false=>
    refine Rr ?_;exact fin' _ _ rfl rfl
theorem Rp{ns:List Nd}{n:Nat}(h:iB ns n)(x:Nd)(hvl:x.values.length<=1000000)(hk4:x.kind=4->∃k:Nat,x.kids[0]? = some (k:Int)/\k<n)(ls ss:List Int)(kn:List Bool)(hk:kn.length=ns.length) :
  aH prog [] 43 [.ptr 0 0 0,.ip (bW x)] (Gn ns ls ss kn []) 7 fun r m k=>∃kn',kn'.length=ns.length /\
   r = .int .i64 (if x.kind=4 then(if (dF (aT ns) (x.kids.getD 0 0)).many=true then 4 else if dB (dF (aT ns) (x.kids.getD 0 0)).vals x.values=true then 0 else 1) else 0)/\m=Gn ns ls ss kn' []/\k=7:=by
 have hxn:=aV x;generalize hres:(if x.kind=4 then(if (dF (aT ns) (x.kids.getD 0 0)).many=true then 4 else if dB (dF (aT ns) (x.kids.getD 0 0)).vals x.values=true then 0 else 1) else(0:Int))=res;have fin:∀(kn':List Bool) (mem:aP) (nx:Nat) (c:Int),kn'.length=ns.length->c=res->cN mem (q6 [0,1,2,3,4,5,6]) (Gn ns ls ss kn' []) ->
   kN 7 (fun r m k=>∃kn',kn'.length=ns.length/\r = .int .i64 res/\m=Gn ns ls ss kn' []/\k=7) (.int .i64 c) mem nx:=by
  rintro kn' mem nx c hk' rfl hM;exact bJ (n':=7) (m':=Gn ns ls ss kn' []) (q6 [0,1,2,3,4,5,6]) rfl hM (.same _ nn) ⟨kn',hk',rfl,rfl,rfl⟩
 by_cases e4:x.kind=4
 ·obtain⟨k,hkg,hkn⟩:=hk4 e4;have eg:x.kids.getD 0 0=(k:Int):=by rw[VW,hkg];rfl
  rw[Vb e4,eg] at hres;have ek:(aS x.kids)[(0:Int).toNat]? = some (.int .i64 k):=by rw[show (0:Int).toNat=0 from rfl,a8,hkg];rfl
  have hO:=VU h k hkn kn hk;have hv:=h.vals (k:=k) om om;obtain⟨lk,hlk⟩:∃lk,lk=dF (aT ns) k:=⟨_,rfl⟩
  unfold sQ at hO;rw[←hlk] at hv hres;simp only[←hlk] at hO;obtain⟨lv,lm⟩:=lk;simp only at hv hres;have hE:=fun l (hl:l.length<=1024) hok=>JW l x.values om om hok
  obtain⟨kind,name,lo,hi',ws,lbs,vals,kids,⟨vk,vn,vs,vks⟩⟩:=x;simp only at e4 ek hvl hE hres;subst e4;refine aK bG func43 rfl ?_;refine Rr ?_;repeat((first|refine aD ek ?_|refine aU ?_);refine Rr ?_)
  refine aH.useR bG [(3,0),(4,1),(5,2),(6,3)] hO (by rfl) (.cons (.ptr 3 0 0 0 rfl) (.s .nil)) ⟨⟨3,_,rfl,rfl,EB rfl rfl rfl⟩,aL 4 (iR _),aL 5 (yU _ _),aL 6 (w9 _ _),trivial⟩ (by rfl) ?_;rintro r m nn' ⟨kn',hk',rfl,rfl,rfl⟩;refine⟨[(3,.row 119 4 [.agg [.il 12 (aW ns),.sl 4 0 ns.length,.sl 5 0 ns.length,.sl 6 0 ns.length]]),(4,.row 4 1 (kB kn')),(5,.row 36 1 (lB (aT ns) kn')),(6,.row 4 1 (mB (aT ns) kn'))],nn,⟨⟨0,_,rfl,rfl,EB rfl rfl rfl⟩,aL 1 (iR _),aL 2 (yU _ _),aL 3 (w9 _ _),trivial⟩,by rfl, ?_⟩;cases lm with
  | true=>
   refine Rr ?_;refine fin kn' _ _ _ hk' (by rw[←hres];simp) ?_;exact kC rfl rfl rfl rfl rfl rfl rfl rfl rfl rfl rfl rfl rfl rfl rfl rfl trivial
  | false=>
   have hE:=hE lv hv.1 hv.2;obtain⟨sv,hsv⟩:∃sv,sv=dB lv vals:=⟨_,rfl⟩
   rw[←hsv] at hE hres;refine Rr ?_;refine hE.go ?_;cases sv with
   | true=>
    refine Rr ?_;refine fin kn' _ _ _ hk' (by rw[←hres];simp) ?_;exact kC rfl rfl rfl rfl rfl rfl rfl rfl rfl rfl rfl rfl rfl rfl rfl rfl trivial
   | false=>
    refine Rr ?_;refine fin kn' _ _ _ hk' (by rw[←hres];simp) ?_;exact kC rfl rfl rfl rfl rfl rfl rfl rfl rfl rfl rfl rfl rfl rfl rfl rfl trivial
 ·rw[VY e4] at hres;obtain⟨kind,name,lo,hi',ws,lbs,vals,kids,⟨vk,vn,vs,vks⟩⟩:=x;simp only at e4;refine aK bG func43 rfl ?_;refine Rr ?_;refine aI (fun _=>?_) (fun h=>absurd (by simpa using h) e4);refine Rr ?_;exact fin kn _ _ _ hk hres (nO _ _ _ _)
set_option maxHeartbeats 8000000
theorem RN(n:Nat):kB (List.replicate n false)=List.replicate n (.bool false):=by simp[kB]
theorem ST(L:List gW):lB L (List.replicate L.length false)=cC (List.replicate L.length []):=by
 unfold lB cC
 induction L with
 | nil=>rfl
 | cons a L ih=>simpa[WO] using ih
theorem R4(L:List gW):mB L (List.replicate L.length false)=List.replicate L.length (.bool false):=by
 unfold mB
 induction L with
 | nil=>rfl
 | cons a L ih=>simpa[WO] using ih
theorem G5(ns:List Nd)(hl:ns.length<=4096):aH prog [] 37 [.agg [.il 12 (aW ns)]] [] 0 fun r m k=>r = .ptr 0 0 0/\m=sM ns (List.replicate ns.length false)/\k=4:=by
 have hlen:(aW ns).length=ns.length:=bD ns;refine aK bG func37 rfl ?_;refine Rr ?_;rw[hlen];refine Rr ?_;refine aN (bK rfl (bK rfl (bK rfl (bK (Vi om) (bK (Vi om) (bK (oZ rfl om om) (Vi om))))))) ?_;refine Rr ?_;repeat((first|refine aN (bK rfl (bK rfl (bK rfl (bK (Vi om) (bK (Vi om) (bK (oZ rfl om om) (Vi om))))))) ?_|refine aU ?_);refine Rr ?_)
 have e:((ns.length:Nat):Int).toNat=ns.length:=by simp
 rw[e];have hL:(aT ns).length=ns.length:=fU ns;have e2:=ST (aT ns);have e3:=R4 (aT ns);rw[hL] at e2 e3;refine bJ (n':=4) (m':=sM ns (List.replicate ns.length false)) [(10,0),(4,1),(6,2),(8,3)] rfl ⟨⟨10,_,rfl,rfl,EB rfl rfl rfl⟩,⟨4,_,rfl,rfl,.eq (iR _) (RN _).symm⟩,⟨6,_,rfl,rfl,by rw[e2];exact B5 _⟩,⟨8,_,rfl,rfl,.eq (w9 _ _) e3.symm⟩,trivial⟩ (.ptr 10 0 0 0 rfl) ⟨rfl,rfl,rfl⟩
structure NW(ns:List Nd):Prop where
 ok:∀x∈ns,n4 x
 val:∀x∈ns,bF x.value<=1048576
 vals:∀x∈ns,∀v∈x.values,bF v<=1048576
 vlen:∀x∈ns,x.values.length<=1000000
 klen:∀x∈ns,x.kids.length<=65536
def xD(l:List Int)(n:Nat):List Int:=l++List.replicate (n-l.length) 0
theorem pL{l:List Int}{n:Nat}(h:l.length<=n):(xD l n).length=n:=by simp[xD];omega
theorem Gl{l:List Int}{n:Nat}(y:Int)(h:l.length<n):(xD l n).set l.length y=xD (l++[y]) n:=by
 unfold xD;rw[Wy _ _ (Vh _),XH];obtain⟨m,hm⟩:∃m,n-l.length=m+1:=⟨n-l.length-1,om⟩
 rw[hm,WO,XZ,Vf,WC,show n-(l.length+1)=m by omega];simp
theorem GS{l:List Int}{n:Nat}{k:Int}(h0:0<=k)(h1:k<l.length):dR (xD l n) k=dR l k:=KI h0 h1
theorem Fz{l:List Int}{n:Nat}(h:∀y∈l,0<=y/\y<=1024):∀y∈xD l n,0<=y/\y<=1024:=by
 intro y hy;rcases Vs.1 hy with hy|hy
 ·exact h y hy
 ·have:=List.eq_of_mem_replicate hy;omega
theorem Fl{i:Int}{x:Nd}(h:sU x=false):cP i x=false:=by
 cases e:cP i x with
 | false=>rfl
 | true=>
  unfold cP at e;simp only[VZ] at e;have:sU x=true:=by
   unfold sU;rw[e.1.1.1.1.1.1];simpa using e.1.1.1.1.1.2
  rw[this] at h;cases h
theorem FS{i:Int}{x:Nd}(h:cP i x=false):eI i x=1:=by unfold eI;rw[Vb h]
theorem N9{i:Int}{x:Nd}(h:cP i x=true)(h2:eM (mT x)≠0):eI i x=eM (mT x):=by unfold eI;rw[VY (by rw[h];simp),Vb h2]
theorem N2{i:Int}{x:Nd}(h:cP i x=true)(h2:eM (mT x)=0)(h3:dX x=false):eI i x=5:=by unfold eI;rw[VY (by rw[h];simp),VY om,Vb h3]
theorem MQ{i:Int}{x:Nd}(h:cP i x=true)(h2:eM (mT x)=0)(h3:dX x=true):eI i x=0:=by unfold eI;rw[VY (by rw[h];simp),VY om,VY (by rw[h3];simp)]
theorem wI{b:List Nd}{ls ss:List Int}{x:Nd}{e:Int}(h:eI b.length x=e)(he:e≠0):fV b ls ss x=e:=by unfold fV;rw[Vb (by rw[h];exact he),h]
theorem Oc{b:List Nd}{ls ss:List Int}{x:Nd}(h:eI b.length x=0)(h2:256<Go.Ax.d9 ls x∨1024<iI ss x):fV b ls ss x=4:=by unfold fV;rw[VY om,Vb h2]
theorem NH{b:List Nd}{ls ss:List Int}{x:Nd}(h:eI b.length x=0)(h2:¬(256<Go.Ax.d9 ls x∨1024<iI ss x)):fV b ls ss x=if x.kind=4 then iJ b x else 0:=by unfold fV;rw[VY om,VY h2]
theorem Cu(ns:List Nd)(h:NW ns):bB prog [] 18 [.agg [.il 12 (aW ns)]] (.int .i64 (cL ns)):=by
 have hlen:(aW ns).length=ns.length:=bD ns;refine aK bG func18 rfl ?_;refine Rr ?_;rw[hlen];refine aI (fun hb=>?_) (fun hb=>?_)
 ·have h1:4096<ns.length:=by simp at hb;omega
  have:cL ns=4:=by unfold cL;rw[Vb h1]
  rw[this];refine Rr ?_;exact aA nn ⟨rfl,rfl,rfl⟩
 ·have h1:ns.length<=4096:=by simp at hb;omega
  have:cL ns=bU [] ns:=by unfold cL;rw[VY om]
  rw[this];generalize hres:bU [] ns=res;have hN:=G5 ns h1;refine Rr ?_;rw[hlen];refine Rr ?_;repeat((first|refine aN (bK rfl (bK rfl (bK rfl (bK (Vi om) (bK (Vi om) (bK (oZ rfl om om) (Vi om))))))) ?_|refine aU ?_);refine Rr ?_)
  refine aH.useN bG [] hN rfl (.same (.cons (.agg' (.cons (.il' (aY _)) .nil)) .nil)) trivial rfl ?_;rintro r m k ⟨rfl,rfl,rfl⟩;refine⟨[(0,16),(1,17),(2,18),(3,19)],.ptr 16 0 0,[(16,.row 119 4 [.agg [.il 12 (aW ns),.sl 17 0 ns.length,.sl 18 0 ns.length,.sl 19 0 ns.length]]),(17,.row 4 1 (kB (List.replicate ns.length false))),(18,.row 36 1 (lB (aT ns) (List.replicate ns.length false))),(19,.row 4 1 (mB (aT ns) (List.replicate ns.length false)))],20,
   .ptr 0 16 0 0 rfl,⟨⟨0,_,rfl,rfl,EB rfl rfl rfl⟩,aL 1 (iR _),aL 2 (yU _ _),aL 3 (w9 _ _),trivial⟩,rfl, ?_⟩
  refine Rt ?_;have e:((ns.length:Nat):Int).toNat=ns.length:=by simp
  rw[hlen,e];refine bC.at bG (fun p:Nat × List Bool=>p.1<=ns.length/\p.2.length=ns.length/\bU [] (ns.take p.1)=0)
   (fun p=>⟨[(1,.ptr 7 0 0),(3,.ptr 0 0 0),(28,.int .i64 ns.length),(29,.int .i64 p.1)],Gn ns (xD (aX (ns.take p.1)) ns.length) (xD (b9 (ns.take p.1)) ns.length) p.2 [(7,.row 25 1 [.agg [.il 12 (aW ns)]])],8,64⟩)
   (fun p=>ns.length-p.1) (0,List.replicate ns.length false) [(14,0),(6,1),(10,2),(16,3),(17,4),(18,5),(19,6),(0,7)] ⟨by simp,by simp,rfl⟩
   (aG _ rfl ⟨⟨14,_,rfl,rfl,TS rfl rfl rfl⟩,⟨6,_,rfl,rfl,.eq (aM _) (by simp[xD,aX,aS])⟩,⟨10,_,rfl,rfl,.eq (aM _) (by simp[xD,b9,aS])⟩,⟨16,_,rfl,rfl,EB rfl rfl rfl⟩,aL 17 (iR _),aL 18 (yU _ _),aL 19 (w9 _ _),aL 0 (.cons (.agg' (.cons (.il' (aY _)) .nil)) .nil),trivial⟩
    ⟨aJ,aJ,aF,aF,trivial⟩) ?_
  rintro⟨i,kn⟩ ⟨hi,hk,hv⟩;simp only at hi hk hv ⊢;refine Rr ?_;refine aI (fun hb2=>?_) (fun hb2=>?_)
  ·have hil:i<ns.length:=by simpa using hb2
   obtain⟨x,hx⟩:∃x,ns[i]? = some x:=⟨ns[i],VV hil⟩
   have hxe:=(VX.1 hx).2;have hxm:=Ve hx;have ex:(aW ns)[((i:Nat):Int).toNat]? = some (bW x):=by simp[gK,hx]
   have hxn:=aV x;have hti:(ns.take i).length=i:=by rw[V3];omega
   have hll:(aX (ns.take i)).length=i:=by rw[fS,hti]
   have hsl:(b9 (ns.take i)).length=i:=by rw[lZ,hti]
   have hsplit:ns=ns.take i++x::ns.drop (i+1):=by rw[←hxe];simp
   have hstop:∀e:Int,fV (ns.take i) (aX (ns.take i)) (b9 (ns.take i)) x=e->e≠0->e=res:=fun e h1 h2=>by
    rw[←hres,hsplit,A1 hv (by rw[h1];exact h2),h1]
   have hnext:ns.take (i+1)=ns.take i++[x]:=by rw[List.take_succ_eq_append_getElem hil,hxe]
   have hgo:fV (ns.take i) (aX (ns.take i)) (b9 (ns.take i)) x=0->bU [] (ns.take (i+1))=0:=fun h1=>by
    rw[hnext,fT [] _ _ hv];exact h1
   have hC:=SI x (h.ok x hxm);have hSh:=Po ns i x om hx (h.ok x hxm) (h.vlen x hxm);have hPa:=Rh x (h.ok x hxm) (h.val x hxm) (h.vals x hxm);have hRa:=Rm x (h.ok x hxm);refine Rr ?_;repeat(refine aD ex ?_;refine Rr ?_)
   refine hC.go ?_ (.cons (.ip' hxn) .nil);cases hc:sU x with
   | false=>
    refine Rr ?_;refine aA nn ⟨?_,rfl,rfl⟩;rw[hstop 1 (wI (FS (Fl hc)) om) om]
   | true=>
    have hSh:=hSh hc;have hcc:kU [] [] [.il 12 (aW ns),.sl 1 0 ns.length,.sl 2 0 ns.length,.ptr 3 0 0] [.il 12 (aW ns),.junk,.junk,.junk]:=.cons (.same _ (.il' (aY _))) (.cons (.junk _) (.cons (.junk _) (.cons (.junk _) .nil)));refine Rr ?_;refine hSh.lend bG (.cons (.fzp 0 0 0 86 4 _ _ _ rfl rfl rfl (Vh _) fun k c c' h1 h2=>by
     rw[V0] at h1;exact(kU.cons (.same _ (.il' (aY _))) (.cons (.junk _) (.cons (.junk _) (.cons (.junk _) .nil)))).2 k c c' h1 h2) (.s .nil)) (.bool _) ?_
    clear hcc;cases hf:cP i x with
    | false=>
     refine Rr ?_;refine aA nn ⟨?_,rfl,rfl⟩;rw[hstop 1 (wI (by rw[hti];exact FS hf) om) om]
    | true=>
     have hk0:x.kind=0->x.values=[]:=fun e0=>by
      unfold cP gY at hf;simp only[VZ,WN,Vt] at hf;rcases hf.1.1.1.1.1.1.1.2 with h'|h'
      ·omega
      ·exact WL.1 h'
     have hPa:=hPa hk0;refine Rr ?_;refine hPa.go ?_ (.cons (.ip' hxn) .nil);generalize hfe:eM (mT x)=fe;refine Rr ?_;refine aI (fun hb3=>?_) (fun hb3=>?_)
     ·have h0:fe≠0:=by simpa using hb3
      refine Rr ?_;refine aA nn ⟨?_,rfl,rfl⟩;rw[hstop fe (wI (by rw[hti,N9 hf (by rw[hfe];exact h0),hfe]) h0) h0]
     ·have h0:fe=0:=by simpa using hb3
      rw[h0] at hfe;refine Rr ?_;refine hRa.go ?_ (.cons (.ip' hxn) .nil);cases hn:dX x with
      | false=>
       refine Rr ?_;refine aA nn ⟨?_,rfl,rfl⟩;rw[hstop 5 (wI (by rw[hti];exact N2 hf hfe hn) om) om]
      | true=>
       have hz:eI (ns.take i).length x=0:=by rw[hti];exact MQ hf hfe hn
       have hnode:=kK (i:=i) (x:=x) (by rw[←hti];exact hz);have hlens:=i6 _ hv;have hS:=R9 i x hx (h.ok x hxm) (h.val x hxm) (h.klen x hxm) hnode.kids hnode.kind (fun e4=>by have:=hnode.bind (by have:=hnode.kind;omega);omega) (xD (aX (ns.take i)) ns.length) (xD (b9 (ns.take i)) ns.length) kn (pL om) (pL om) (Fz hlens.1) (Fz hlens.2);have hkm:∀k∈x.kids,0<=k/\k<i:=fun k hk=>by
        obtain⟨j,hj⟩:=V2 hk;exact hnode.kids j k hj
       rw[xO (b:=aX (ns.take i)) (fun k hk=>GS (hkm k hk).1 (by rw[hll];exact(hkm k hk).2)) (fun e4=>by have:=hnode.bind e4;omega) hnode.kind,
        Jw (b:=b9 (ns.take i)) (fun k hk=>GS (hkm k hk).1 (by rw[hsl];exact(hkm k hk).2))] at hS
       refine Rr ?_;refine aH.useI bG [0,1,2,3,4,5,6] hS (by rfl) (.cons (.ptr 0 0 0 0 rfl) (.s .nil)) (nO _ _ _ _) (by rfl) ?_;rintro r m k' ⟨rfl,rfl,rfl⟩;refine⟨nn,nO _ _ _ _,by rfl, ?_⟩;cases hfit:(decide (Go.Ax.d9 (aX (ns.take i)) x<=256) && decide (zA (b9 (ns.take i)) x<=1024)) with
       | false=>
        have hbig:256<Go.Ax.d9 (aX (ns.take i)) x∨1024<iI (b9 (ns.take i)) x:=by
         simp only[Wx,Wi] at hfit;rw[K5] at hfit;omega
        refine Rr ?_;refine aA nn ⟨?_,rfl,rfl⟩;rw[hstop 4 (Oc hz hbig) om]
       | true=>
        have hfit':¬(256<Go.Ax.d9 (aX (ns.take i)) x∨1024<iI (b9 (ns.take i)) x):=by
         simp only[VZ,Vt] at hfit;rw[K5] at hfit;omega
        have hstep:=NH hz hfit';have hso:iB ns i:=⟨hi,h1,h.ok,hv⟩
        have hkid:x.kind=4->∃k:Nat,x.kids[0]? = some (k:Int)/\k<i:=fun e4=>by
         have hl:=hnode.bind e4;obtain⟨k0,k1⟩:=hnode.kids 0 x.kids[0] (VV om);obtain⟨k,hk⟩:=Vk k0;exact⟨k,by rw[VV om,hk],om⟩
        have hb:x.kind=4->iJ (ns.take i) x=(if (dF (aT ns) (x.kids.getD 0 0)).many=true then 4 else if dB (dF (aT ns) (x.kids.getD 0 0)).vals x.values=true then 0 else 1):=fun e4=>by
         obtain⟨k,hk,hki⟩:=hkid e4;have eg:x.kids.getD 0 0=(k:Int):=by rw[VW,hk];rfl
         unfold iJ;rw[eg,XL,Wh (by simp;omega),kV om (by simp;omega) (by simp;omega)]
        have hT:=Rp hso x (h.vlen x hxm) hkid ((xD (aX (ns.take i)) ns.length).set i (Go.Ax.d9 (aX (ns.take i)) x)) ((xD (b9 (ns.take i)) ns.length).set i (zA (b9 (ns.take i)) x)) kn hk;have hstep:fV (ns.take i) (aX (ns.take i)) (b9 (ns.take i)) x=(if x.kind=4 then(if (dF (aT ns) (x.kids.getD 0 0)).many=true then 4 else if dB (dF (aT ns) (x.kids.getD 0 0)).vals x.values=true then 0 else 1) else 0):=by
         rw[hstep];by_cases e4:x.kind=4
         ·rw[Vb e4,Vb e4,hb e4]
         ·rw[VY e4,VY e4]
        rw[←hstep] at hT;refine Rr ?_;refine aH.useI bG [0,1,2,3,4,5,6] hT (by rfl) (.cons (.ptr 0 0 0 0 rfl) (.cons (.same _ (.ip' hxn)) .nil)) (nO _ _ _ _) (by rfl) ?_;rintro r m k' ⟨kn',hk',rfl,rfl,rfl⟩;refine⟨nn,nO _ _ _ _,by rfl, ?_⟩;generalize hse:fV (ns.take i) (aX (ns.take i)) (b9 (ns.take i)) x=se;refine Rr ?_;refine aI (fun hb4=>?_) (fun hb4=>?_)
        ·have h0:se≠0:=by simpa using hb4
         refine Rr ?_;refine aA nn ⟨?_,rfl,rfl⟩;rw[hstop se hse h0]
        ·have h0:se=0:=by simpa using hb4
         rw[h0] at hse;have hP:=QV (fun y hy=>h.ok y (WE hy)) hv hse;have e1:(xD (aX (ns.take i)) ns.length).set i (Go.Ax.d9 (aX (ns.take i)) x)=xD (aX (ns.take (i+1))) ns.length:=by
          rw[hnext,iG]
          conv=>lhs;rw[←hll]
          rw[hll];have:=Gl (l:=aX (ns.take i)) (n:=ns.length) (Go.Ax.d9 (aX (ns.take i)) x) om;rw[hll] at this;exact this
         have e2:(xD (b9 (ns.take i)) ns.length).set i (zA (b9 (ns.take i)) x)=xD (b9 (ns.take (i+1))) ns.length:=by
          rw[hP,hnext,nG];have:=Gl (l:=b9 (ns.take i)) (n:=ns.length) (iI (b9 (ns.take i)) x) om;rw[hsl] at this;exact this
         rw[e1,e2];refine Rr ?_;exact .mk (i+1,kn') (q6 [0,1,2,3,4,5,6,7]) ⟨by simp only;omega,hk',hgo hse⟩
          (aG _ rfl (kC rfl rfl rfl rfl rfl rfl rfl rfl rfl rfl rfl rfl rfl rfl rfl rfl ⟨aL 7 (.cons (.agg' (.cons (.il' (aY _)) .nil)) .nil),trivial⟩) ⟨aJ,aJ,aF,⟨_,rfl,.wp⟩,trivial⟩) (by simp only;omega)
  ·have hil:i=ns.length:=by simp at hb2;omega
   rw[hil,Vr,hres] at hv;subst hv;refine Rr ?_;exact aA nn ⟨rfl,rfl,rfl⟩
set_option maxHeartbeats 16000000
def jP(l:List a6)(n:Nat):List a6:=l++List.replicate (n-l.length) vZ
theorem uH{l:List a6}{n:Nat}(h:l.length<=n):(jP l n).length=n:=by simp[jP];omega
theorem IV{l:List a6}{n:Nat}(y:a6)(h:l.length<n):(jP l n).set l.length y=jP (l++[y]) n:=by
 unfold jP;rw[Wy _ _ (Vh _),XH];obtain⟨m,hm⟩:∃m,n-l.length=m+1:=⟨n-l.length-1,om⟩
 rw[hm,WO,XZ,Vf,WC,show n-(l.length+1)=m by omega];simp
theorem ET{l:List a6}{n:Nat}(h:l.length<n):jP (l++[vZ]) n=jP l n:=by
 unfold jP;obtain⟨m,hm⟩:∃m,n-l.length=m+1:=⟨n-l.length-1,om⟩
 rw[hm,WO,Vf,WC,show n-(l.length+1)=m by omega];simp
theorem M4{l:List a6}{n k:Nat}(h:k<l.length):(aQ (jP l n))[0+k]? = some (bS (l.getD k vZ)):=by
 rw[V0,iT];unfold jP;rw[Vp h,VW,VV h];rfl
theorem Ao(l:List a6)(i:Nat)(y:a6):aQ (l.set i y)=(aQ l).set i (bS y):=by simp[fX,W2]
def nM(A:List Nd)(ls:List Int)(fs:List a6)(rest:aP):aP:=
 (0,.row 113 3 [.agg [.ip (.agg [.il 12 (aW A)]),.sl 1 0 A.length,.sl 2 0 A.length]])::(1,.row 3 1 (aS ls))::(2,.row 38 4 (aQ fs))::rest
theorem oC(A:List Nd):NN (.ip (.agg [.il 12 (aW A)])):=.ip' (.agg' (.cons (.il' (aY A)) .nil))
theorem oI{mem:aP}{σ:List (Nat × Nat)}{A:List Nd}{ls:List Int}{fs:List a6}{l1 l2:List AV}{a b c:Nat}{sv:AV}{rest:aP}(s0:lk σ a=some 0)(s1:lk σ b=some 1)(s2:lk σ c=some 2)
  (m0:lk mem a=some (.row 113 3 [.agg [sv,.sl b 0 A.length,.sl c 0 A.length]])) (hs:Cv mem σ sv (.ip (.agg [.il 12 (aW A)]))) (m1:lk mem b=some (.row 3 1 l1)) (e1:l1=aS ls) (m2:lk mem c=some (.row 38 4 l2)) (e2:tE mem σ l2 (aQ fs))
  (hr:cN mem σ rest):cN mem σ (nM A ls fs rest):=
 ⟨⟨a,_,s0,m0,.cons (.agg (.cons hs (.cons (.slE s1 rfl) (.cons (.slE s2 rfl) .nil)))) .nil⟩,⟨b,_,s1,m1,.eq (aM _) e1⟩,⟨c,_,s2,m2,e2⟩,hr⟩
theorem I5{mem:aP}{σ:List (Nat × Nat)}{id i j:Nat}{t:TypeId}{sz:Nat}{xs:List AV}{x c c' v:AV}(h1:lk mem id=some (.row t sz xs))(h2:lk σ id=none)(h3:xs[i]? = some x)(h4:x.cells[j]? = some c)(h5:v.cells=[c'])(h6:Cv mem σ c c'):Cv mem σ (.ptr id i j) (.ip v):=by
 refine .fzp id i j t sz xs x v h1 h2 h3 ?_ fun k a b ha hb=>?_
 ·have:=(VX.1 h4).1;rw[h5];simp only[WC];omega
 ·rw[h5] at hb;cases k with
  | zero=>
   rw[W0,h4] at ha;cases ha;cases hb;exact h6
  | succ k=>simp at hb
theorem IR{mem:aP}{σ:List (Nat × Nat)}{x y:AV}(n:Nat)(h:I1 mem σ x y):tE mem σ (List.replicate n x) (List.replicate n y):=by
 induction n with
 | zero=>exact .nil
 | succ n ih=>rw[WO,WO];exact .cons h ih
theorem Eo(n:Nat)(v:a6):aQ (List.replicate n v)=List.replicate n (bS v):=by simp[fX]
theorem TW{A:List Nd}(h:VT A):bB prog [] 25 [.agg [.il 12 (aW A)]] (wk A):=by
 have hlen:=bD A;have hl1:=h.tin.len;have hN:=G5 A om;refine aK bG func25 rfl ?_;refine Rr ?_;rw[hlen];have e:((A.length:Nat):Int).toNat=A.length:=by simp
 repeat((first|refine aN (bK rfl (bK rfl (bK rfl (bK (Vi om) (bK (Vi om) (bK (oZ rfl om om) (Vi om))))))) ?_|refine aU ?_|rw[hlen]);refine Rr ?_)
 refine aH.useN bG [] hN rfl (.same (.cons (.agg' (.cons (.il' (aY _)) .nil)) .nil)) trivial rfl ?_;rintro r m k ⟨rfl,rfl,rfl⟩;refine⟨[(0,14),(1,15),(2,16),(3,17)],.ptr 14 0 0,[(14,.row 119 4 [.agg [.il 12 (aW A),.sl 15 0 A.length,.sl 16 0 A.length,.sl 17 0 A.length]]),(15,.row 4 1 (kB (List.replicate A.length false))),(16,.row 36 1 (lB (aT A) (List.replicate A.length false))),(17,.row 4 1 (mB (aT A) (List.replicate A.length false)))],18,
  .ptr 0 14 0 0 rfl,⟨⟨0,_,rfl,rfl,EB rfl rfl rfl⟩,aL 1 (iR _),aL 2 (yU _ _),aL 3 (w9 _ _),trivial⟩,rfl, ?_⟩
 refine Rr ?_;repeat((first|refine aN (bK rfl (bK rfl (bK rfl (bK (Vi om) (bK (Vi om) (bK (oZ rfl om om) (Vi om))))))) ?_|refine aU ?_|rw[hlen]);refine Rr ?_)
 rw[e];refine bC.at bG (fun i:Nat=>i<=A.length)
  (fun i=>⟨[(1,.ip (.agg [.il 12 (aW A)])),(3,.ptr 0 0 0),(23,.int .i64 A.length),(24,.int .i64 i)],nM A (xD (aX (A.take i)) A.length) (jP (cS (A.take i)) A.length) [],3,127⟩) (fun i=>A.length-i) 0 [(12,0),(6,1),(10,2)] om
  (aG _ rfl (oI (a:=12) (b:=6) (c:=10) rfl rfl rfl rfl (I5 (id:=14) rfl rfl rfl rfl rfl (.same _ (.il' (aY A)))) rfl (by simp[xD,aX,aS]) rfl (by
    have:jP (cS (A.take 0)) A.length=List.replicate A.length vZ:=by simp[jP,cS,Lx]
    rw[this,Eo];exact IR _ (uV 0 0 [])) trivial)
   ⟨⟨_,rfl,I5 (id:=0) rfl rfl rfl rfl rfl (.same _ (.il' (aY A)))⟩,aJ,aF,aF,trivial⟩) ?_
 intro i hi;have di:decide ((i:Int)<(A.length:Int))=decide (i<A.length):=WX.2 om;by_cases hil:i<A.length
 ·have hx:=bY hil;have hne:=pQ hil;have hnn:=aV (aE A i);have hg:=h.node hx;have hok:=h.tin.ok _ (Ve hx);have hkl:=h.tin.klen _ (Ve hx);have hti:(A.take i).length=i:=by rw[V3];omega
  have hll:(aX (A.take i)).length=i:=by rw[fS,hti]
  have hfl:(cS (A.take i)).length=i:=by rw[jJ,hti]
  have hkm:=fun(k:Int) (hk:k∈(aE A i).kids)=>dW h hx hk
  have hbi:=fun h4=>h.bind hx h4
  have hkj:∀(j:Nat) (k:Int),(aE A i).kids[j]? = some k->0<=k/\k<i:=fun j k hk=>by
   have:=hkm k (Ve hk);omega
  have hlens:∀y∈aX (A.take i),0<=y/\y<=1024:=fun y hy=>by
   obtain⟨j,hj⟩:=V2 hy;have hj':=(VX.1 hj).1;have e1:=AX (A:=A) (n:=i) (k:=(j:Int)) om om om;have e2:=h.lens0 (j:Int);rw[←e1] at e2;unfold dR at e2;rw[Va,VW,hj] at e2;exact e2
  have hL:=KC (xD (aX (A.take i)) A.length) (aE A i) hok om (Fz hlens) (fun j k hk=>by have:=hkj j k hk;rw[pL om];omega) (fun h4=>by have:=(hbi (by have:=hg.node.kind;omega)).1;omega) hg.node.kind;have hLe:Go.Ax.d9 (xD (aX (A.take i)) A.length) (aE A i)=Go.Ax.d9 (aX (A.take i)) (aE A i):=
   xO (fun k hk=>GS (hkm k hk).1 (by have:=hkm k hk;omega)) (fun h4=>by have:=(hbi h4).1;omega) hg.node.kind
  rw[hLe] at hL;have hLs:aX (A.take (i+1))=aX (A.take i)++[Go.Ax.d9 (aX (A.take i)) (aE A i)]:=by
   rw[List.take_succ_eq_append_getElem hil,iG];have:=(VX.1 hx).2;rw[this]
  have hFs:cS (A.take (i+1))=cS (A.take i)++[yF (aX (A.take i)) (cS (A.take i)) (aE A i)]:=by
   rw[List.take_succ_eq_append_getElem hil,vN];have:=(VX.1 hx).2;rw[this]
  have hps:=Gl (n:=A.length) (Go.Ax.d9 (aX (A.take i)) (aE A i)) (show (aX (A.take i)).length<A.length by omega);have hfs:=IV (n:=A.length) (yF (aX (A.take i)) (cS (A.take i)) (aE A i)) (show (cS (A.take i)).length<A.length by omega);rw[hll,←hLs] at hps;rw[hfl,←hFs] at hfs;have hfg:∀k,k<i->(aQ (jP (cS (A.take i)) A.length))[0+k]? = some (bS ((cS (A.take i)).getD k vZ)):=fun k hk=>M4 om
  have hkd:=fun(j:Nat) (hj:j<(aE A i).kids.length)=>h.kid hx hj
  have hmd:=fun(ks:List a6)=>KO (aE A i) ks
  have hFN:yF (aX (A.take i)) (cS (A.take i)) (aE A i)=if 0<Go.Ax.d9 (aX (A.take i)) (aE A i) then vZ else if (aE A i).kind=0 then(aE A i).value else if (aE A i).kind=3 then dP (aE A i).name ((aE A i).kids.map fun k=>(cS (A.take i)).getD k.toNat vZ) else if (aE A i).kind=4 then(cS (A.take i)).getD (bA (aE A i) 1) vZ else vZ:=rfl
  have hpl:(aS (xD (aX (A.take i)) A.length)).length=A.length:=by rw[aC,pL om]
  have hpv:(aQ (jP (cS (A.take i)) A.length)).length=A.length:=by rw[aB,uH om]
  have hps1:=nX (xD (aX (A.take i)) A.length) i (Go.Ax.d9 (aX (A.take i)) (aE A i));have hfs1:=Ao (jP (cS (A.take i)) A.length) i (yF (aX (A.take i)) (cS (A.take i)) (aE A i));rw[hps] at hps1;rw[hfs] at hfs1;have hkind:=hg.node.kind;generalize yF (aX (A.take i)) (cS (A.take i)) (aE A i)=fx at *;generalize Go.Ax.d9 (aX (A.take i)) (aE A i)=ln at *;generalize aE A i=x at *;obtain⟨kind,name,lo,hi',ws,lbs,vals,kids,⟨vk,vn,vs,vks⟩⟩:=x;simp only at hkm hbi hkj hkd hmd hFN hkind hkl;refine Rr ?_;rw[di,Vi hil];refine Rt ?_;repeat(refine aD hne ?_;refine Rt ?_)
  refine hL.lend bG (.cons (.same _ (.ip' hnn)) (.cons (rP (id:=1) rfl hpl.symm rfl (aM _)) .nil)) (.int _ _) ?_;have g1:Nat.blt ((i:Nat):Int).toNat A.length=true:=Vc (by simp;omega);obtain⟨z,hz⟩:∃z:Int,(aS (xD (aX (A.take i)) A.length))[0+((i:Nat):Int).toNat]? = some (.int .i64 z):=by
   have:i<(xD (aX (A.take i)) A.length).length:=by rw[pL om];omega
   exact⟨_,by rw[V0,Va,a8,VV this];rfl⟩
  have hz2:((aS (xD (aX (A.take i)) A.length)).set (0+((i:Nat):Int).toNat) (.int .i64 ln))[0+((i:Nat):Int).toNat]? = some (.int .i64 ln):=by
   rw[WJ (by rw[hpl];simp;omega)]
  have h0i:0+((i:Nat):Int).toNat=i:=by simp
  refine Rt ?_;repeat((first|refine aD hne ?_|refine aN g1 ?_|refine aD hz ?_|refine aD hz2 ?_);refine Rt ?_)
  refine aI (fun hb=>?_) (fun hb=>?_)
  ·have hln:0<ln:=by simpa using hb
   rw[Vb hln] at hFN;refine Rr ?_;have hsk:=ET (n:=A.length) (show (cS (A.take i)).length<A.length by omega);rw[hFN] at hFs;rw[←hFs] at hsk;exact .mk (i+1) [(0,0),(1,1),(2,2)] om (aG _ rfl (oI (a:=0) (b:=1) (c:=2) rfl rfl rfl rfl (.same _ (oC A)) rfl (by rw[h0i,hps1]) rfl (.eq (aO _) (by rw[hsk])) trivial)
    ⟨aR (oC A),aJ,aF,⟨_,rfl,.w64 om ⟨om,om⟩⟩,trivial⟩) om
  ·have hln:¬0<ln:=by simpa using hb
   rw[VY hln] at hFN;obtain⟨z1,z2,z3,z4,hzv⟩:∃a b c d,(aQ (jP (cS (A.take i)) A.length))[0+((i:Nat):Int).toNat]? = some (bS (.mk a b c d)):=by
    have:i<(jP (cS (A.take i)) A.length).length:=by rw[uH om];omega
    obtain⟨⟨a,b,c,d⟩,hv⟩:∃v,v=(jP (cS (A.take i)) A.length)[i]:=⟨_,rfl⟩
    exact⟨a,b,c,d,by rw[V0,Va,iT,VV this,hv];rfl⟩
   refine Rr ?_;by_cases k0:kind=0
   ·subst k0;rw[Vb rfl] at hFN;rw[hFN] at hfs1;refine Rt ?_;repeat((first|refine aD hne ?_|refine aN g1 ?_|refine aD hzv ?_);refine Rt ?_)
    exact .mk (i+1) [(0,0),(1,1),(2,2)] om (aG _ rfl (oI (a:=0) (b:=1) (c:=2) rfl rfl rfl rfl (.same _ (oC A)) rfl (by rw[h0i,hps1]) rfl (.eq (aO _) (by rw[h0i,hfs1];rfl)) trivial)
    ⟨aR (oC A),aJ,aF,⟨_,rfl,.w64 om ⟨om,om⟩⟩,trivial⟩) om
   ·rw[VY k0] at hFN;rw[show (kind == 0)=false by simpa using k0];refine Rr ?_;by_cases k3:kind=3
    ·subst k3;rw[Vb rfl] at hFN;have lkk:=aC kids;refine Rr ?_;rw[lkk];refine aN (bK rfl (bK rfl (bK rfl (bK (Vi om) (bK (Vi om) (bK (oZ rfl om om) (Vi om))))))) ?_;refine Rr ?_;have ek0:((kids.length:Nat):Int).toNat=kids.length:=by simp
     rw[ek0];refine bC.at bG (fun j:Nat=>j<=kids.length)
      (fun j=>⟨[(1,.ip (.agg [.il 12 (aW A)])),(3,.ptr 0 0 0),(4,.int .i64 i),(5,.ip (bW ⟨3,name,lo,hi',ws,lbs,vals,kids,.mk vk vn vs vks⟩)),(6,.sl 3 0 kids.length),(23,.int .i64 A.length),(24,.int .i64 i),(78,.il 1 (aS kids)),(79,.int .i64 kids.length),(80,.int .i64 j)],
       nM A (xD (aX (A.take (i+1))) A.length) (jP (cS (A.take i)) A.length) [(3,.row 38 4 (aQ (jP ((kids.take j).map fun k=>(cS (A.take i)).getD k.toNat vZ) kids.length)))],4,127⟩)
      (fun j=>kids.length-j) 0 [(0,0),(1,1),(2,2),(16,3)] om
      (aG _ rfl (oI (a:=0) (b:=1) (c:=2) rfl rfl rfl rfl (.same _ (oC A)) rfl (by rw[h0i,hps1]) rfl (.same (aO _)) ⟨⟨16,_,rfl,rfl,by
        have:jP ((kids.take 0).map fun k=>(cS (A.take i)).getD k.toNat vZ) kids.length=List.replicate kids.length vZ:=by simp[jP]
        rw[this,Eo];exact IR _ (uV 0 0 [])⟩,trivial⟩)
       ⟨aR (oC A),aJ,aF,aR (.ip' hnn),⟨_,rfl,.slE rfl rfl⟩,aF,aF,aR (.il' (aM _)),⟨_,rfl,.int (by rw[lkk])⟩,aF,trivial⟩) ?_
     intro j hj;have dj:decide ((j:Int)<(kids.length:Int))=decide (j<kids.length):=WX.2 om;by_cases hjl:j<kids.length
     ·have ek:=oQ hjl;obtain⟨m0,m1⟩:=hkm kids[j] (Vw hjl);have hnx:(kids.take (j+1)).map (fun k=>(cS (A.take i)).getD k.toNat vZ)=(kids.take j).map (fun k=>(cS (A.take i)).getD k.toNat vZ)++[(cS (A.take i)).getD kids[j].toNat vZ]:=by
       rw[List.take_succ_eq_append_getElem hjl,Wv];rfl
      generalize kids[j]=kz at *;obtain⟨k,rfl⟩:=Vk m0;simp only[Va] at m1 hnx;have e2:(aQ (jP (cS (A.take i)) A.length))[0+((k:Nat):Int).toNat]? = some (bS ((cS (A.take i)).getD k vZ)):=by rw[Va];exact hfg k m1
      have g2:Nat.blt ((k:Nat):Int).toNat A.length=true:=Vc (by simp;omega);have g3:Nat.blt ((j:Nat):Int).toNat kids.length=true:=Vc (by simp;omega);have hml:((kids.take j).map fun k=>(cS (A.take i)).getD k.toNat vZ).length=j:=by rw[We,V3];omega
      have hset:=IV (n:=kids.length) ((cS (A.take i)).getD k vZ) (show ((kids.take j).map fun k=>(cS (A.take i)).getD k.toNat vZ).length<kids.length by omega);rw[hml,←hnx] at hset;have hset1:=Ao (jP ((kids.take j).map fun k=>(cS (A.take i)).getD k.toNat vZ) kids.length) j ((cS (A.take i)).getD k vZ);rw[hset] at hset1;generalize (cS (A.take i)).getD k vZ=u at *;obtain⟨y1,y2,y3,y4,hyv⟩:∃a b c d,(aQ (jP ((kids.take j).map fun k=>(cS (A.take i)).getD k.toNat vZ) kids.length))[0+((j:Nat):Int).toNat]? = some (bS (.mk a b c d)):=by
       have:j<(jP ((kids.take j).map fun k=>(cS (A.take i)).getD k.toNat vZ) kids.length).length:=by rw[uH om];omega
       obtain⟨⟨a,b,c,d⟩,hv⟩:∃v,v=(jP ((kids.take j).map fun k=>(cS (A.take i)).getD k.toNat vZ) kids.length)[j]:=⟨_,rfl⟩
       exact⟨a,b,c,d,by rw[V0,Va,iT,VV this,hv];rfl⟩
      obtain⟨u1,u2,u3,u4⟩:=u;refine Rr ?_;rw[dj,Vi hjl];refine Rt ?_;repeat((first|refine aD ek ?_|refine aD e2 ?_|refine aN g2 ?_|refine aN g3 ?_|refine aD hyv ?_);refine Rt ?_)
      exact .mk (j+1) [(0,0),(1,1),(2,2),(3,3)] om
       (aG _ rfl (oI (a:=0) (b:=1) (c:=2) rfl rfl rfl rfl (.same _ (oC A)) rfl rfl rfl (.same (aO _)) ⟨⟨3,_,rfl,rfl,.eq (aO _) (by rw[V0,Va];exact hset1.symm)⟩,trivial⟩)
        ⟨aR (oC A),aJ,aF,aR (.ip' hnn),⟨_,rfl,.slE rfl rfl⟩,aF,aF,aR (.il' (aM _)),aF,⟨_,rfl,.w64 om ⟨om,om⟩⟩,trivial⟩) om
     ·have hje:j=kids.length:=om;subst hje;rw[Vr];have hp0:jP (kids.map fun k=>(cS (A.take i)).getD k.toNat vZ) kids.length=kids.map fun k=>(cS (A.take i)).getD k.toNat vZ:=by simp[jP]
      rw[hp0];have hm0:=hmd (kids.map fun k=>(cS (A.take i)).getD k.toNat vZ);rw[←hFN] at hm0;have hml:(aQ (kids.map fun k=>(cS (A.take i)).getD k.toNat vZ)).length=kids.length:=by rw[aB,We]
      have hun:=bN fx;clear hFN;generalize (kids.map fun k=>(cS (A.take i)).getD k.toNat vZ)=us at *;obtain⟨u1,u2,u3,u4⟩:=fx;refine Rr ?_;rw[dj,Vv hjl];refine Rt ?_;refine aH.pre bG [(0,0),(1,1),(2,2)] (mem':=nM A (xD (aX (A.take (i+1))) A.length) (jP (cS (A.take i)) A.length) []) rfl (oI (a:=0) (b:=1) (c:=2) rfl rfl rfl rfl (.same _ (oC A)) rfl rfl rfl (.same (aO _)) trivial)
       (.cons (.same _ (.ip' hnn)) (.cons (.fz' (id:=3) (off:=0) (len:=kids.length) (xs:=aQ us) (ys:=aQ us) rfl rfl om (by rw[V7,Vl om]) (aO _)) .nil)) ?_
      refine hm0.go ?_ (.cons (.ip' hnn) (.cons (.il' (aO _)) .nil)) hun;refine Rt ?_;repeat((first|refine aN g1 ?_|refine aD hzv ?_);refine Rt ?_)
      exact .mk (i+1) [(0,0),(1,1),(2,2)] om (aG _ rfl (oI (a:=0) (b:=1) (c:=2) rfl rfl rfl rfl (.same _ (oC A)) rfl rfl rfl (.eq (aO _) (by rw[h0i];exact hfs1.symm)) trivial)
    ⟨aR (oC A),aJ,aF,⟨_,rfl,.w64 om ⟨om,om⟩⟩,trivial⟩) om
    ·rw[VY k3] at hFN;rw[show (kind == 3)=false by simpa using k3];refine Rr ?_;by_cases k4:kind=4
     ·subst k4;rw[Vb rfl] at hFN;have hb4:=(hbi rfl).1;have hb5:=(hbi rfl).2.1;have e1':bA ⟨4,name,lo,hi',ws,lbs,vals,kids,.mk vk vn vs vks⟩ 1<i/\kids[1]? = some (bA ⟨4,name,lo,hi',ws,lbs,vals,kids,.mk vk vn vs vks⟩ 1:Int):=hkd 1 om;generalize bA ⟨4,name,lo,hi',ws,lbs,vals,kids,.mk vk vn vs vks⟩ 1=k1 at *;have e1:(aS kids)[Int.toNat 1]? = some (.int .i64 (k1:Int)):=by rw[show Int.toNat 1=1 from rfl,a8,e1'.2];rfl
      have e2:(aQ (jP (cS (A.take i)) A.length))[0+((k1:Nat):Int).toNat]? = some (bS ((cS (A.take i)).getD k1 vZ)):=by rw[Va];exact hfg k1 e1'.1
      have g2:Nat.blt ((k1:Nat):Int).toNat A.length=true:=Vc (by simp;omega);rw[←hFN] at e2;obtain⟨u1,u2,u3,u4⟩:=fx;refine Rt ?_;repeat((first|refine aD e1 ?_|refine aD e2 ?_|refine aN g1 ?_|refine aN g2 ?_|refine aD hzv ?_);refine Rt ?_)
      exact .mk (i+1) [(0,0),(1,1),(2,2)] om (aG _ rfl (oI (a:=0) (b:=1) (c:=2) rfl rfl rfl rfl (.same _ (oC A)) rfl (by rw[h0i,hps1]) rfl (.eq (aO _) (by rw[h0i];exact hfs1.symm)) trivial)
    ⟨aR (oC A),aJ,aF,⟨_,rfl,.w64 om ⟨om,om⟩⟩,trivial⟩) om
     ·rw[VY k4] at hFN;rw[show (kind == 4)=false by simpa using k4];have hsk:=ET (n:=A.length) (show (cS (A.take i)).length<A.length by omega);rw[hFN] at hFs;rw[←hFs] at hsk;refine Rr ?_;exact .mk (i+1) [(0,0),(1,1),(2,2)] om (aG _ rfl (oI (a:=0) (b:=1) (c:=2) rfl rfl rfl rfl (.same _ (oC A)) rfl (by rw[h0i,hps1]) rfl (.eq (aO _) (by rw[hsk])) trivial)
    ⟨aR (oC A),aJ,aF,⟨_,rfl,.w64 om ⟨om,om⟩⟩,trivial⟩) om
 ·have hie:i=A.length:=om;subst hie;rw[Vr];have hp1:xD (aX A) A.length=aX A:=by simp[xD,fS]
  have hp2:jP (cS A) A.length=cS A:=by simp[jP,jJ]
  rw[hp1,hp2];refine Rr ?_;rw[di,Vv hil];refine Rr ?_;refine dK (r':=wk A) ?_ ⟨rfl,rfl,rfl⟩;exact .fzp 0 0 0 113 3 _ _ (Ul A) rfl rfl rfl (Vh _) fun k c c' h1 h2=>by
   rw[V0] at h1;exact(kU.cons (.same _ (oC A)) (.cons (rP (id:=1) rfl (by rw[aC,fS]) rfl (aM _)) (.cons (rP (id:=2) rfl (by rw[aB,jJ]) rfl (aO _)) .nil))).2 k c c' h1 h2
set_option maxHeartbeats 16000000
def gX(l:List Sp):List AV:=l.map fun s=>.agg [.int .i64 s.1,.int .i64 s.2.1,.int .i64 s.2.2]
theorem rM(l:List Sp):(gX l).length=l.length:=by simp[gX]
theorem yM(l:List Sp):jZ (gX l):=fun a h=>by
 simp only[gX,Vq] at h;obtain⟨p,_,rfl⟩:=h;exact .agg' (.cons nn (.cons nn (.cons nn .nil)))
theorem EZ(l:List Sp)(k:Nat):(gX l)[k]? = (l[k]?).map fun s=>AV.agg [.int .i64 s.1,.int .i64 s.2.1,.int .i64 s.2.2]:=by simp[gX]
theorem kZ(l m:List Sp):gX (l++m)=gX l++gX m:=by simp[gX]
def j8(A:List Nd)(p:List Int):Az:=a7 A p A.length (A.length-1) 0
def jV(p:List Int)(r:Az):Az:=if r.stop = -1/\r.used<p.length then⟨r.val,r.used,-2,r.spans⟩ else r
theorem Iv(A:List Nd)(p:List Int):(j8 A p).used<=p.length:=by
 have:=(Fh (A:=A) p A.length (A.length-1) 0 (Wb _)).1;unfold j8;omega
structure Nj(A:List Nd)(p:List Int):Prop where
 tree:VT A
 len:p.length<=1000000
 i64:∀x∈p,i64 x
 cnt:∀f i a0,i<f->i<A.length->(a7 A p f i a0).spans.length<=4294967296
structure US(A:List Nd)(p:List Int):Prop where
 tin:dZ A
 len:p.length<=1000000
 i64:∀x∈p,i64 x
 cnt:VT A->∀f i a0,i<f->i<A.length->(a7 A p f i a0).spans.length<=4294967296
theorem US.pth{A:List Nd}{p:List Int}(h:US A p)(hv:VT A):Nj A p:=⟨hv,h.len,h.i64,h.cnt hv⟩
def uZ(A:List Nd)(p:List Int):Int:=if cL A≠0 then cL A else if A.length=0 then 11 else if (jV p (j8 A p)).stop = -1 then 0 else 11
def uE(A:List Nd)(p:List Int):a6:=if uZ A p=0 then(j8 A p).val else vZ
def Mf(A:List Nd)(p:List Int):List Sp:=if uZ A p=0 then(j8 A p).spans else []
theorem FO(p:List Int)(r:Az):(jV p r).val=r.val/\(jV p r).spans=r.spans:=by
 unfold jV;split<;>exact⟨rfl,rfl⟩
set_option maxHeartbeats 16000000
def mN(l:List Bool)(n:Nat):List Bool:=l++List.replicate (n-l.length) false
theorem tL{l:List Bool}{n:Nat}(h:l.length<=n):(mN l n).length=n:=by simp[mN];omega
theorem NC{l:List Bool}{n:Nat}(y:Bool)(h:l.length<n):(mN l n).set l.length y=mN (l++[y]) n:=by
 unfold mN;rw[Wy _ _ (Vh _),XH];obtain⟨m,hm⟩:∃m,n-l.length=m+1:=⟨n-l.length-1,om⟩
 rw[hm,WO,XZ,Vf,WC,show n-(l.length+1)=m by omega];simp
theorem LL{l:List Bool}{n:Nat}(h:l.length<n):mN (l++[false]) n=mN l n:=by
 unfold mN;obtain⟨m,hm⟩:∃m,n-l.length=m+1:=⟨n-l.length-1,om⟩
 rw[hm,WO,Vf,WC,show n-(l.length+1)=m by omega];simp
theorem vJ(l:List Bool)(i:Nat):(kB l)[i]? = (l[i]?).map AV.bool:=by simp[kB]
theorem Rx(l:List Bool):(kB l).length=l.length:=by simp[kB]
theorem Bz(l:List Bool)(i:Nat)(b:Bool):kB (l.set i b)=(kB l).set i (.bool b):=by simp[kB,W2]
theorem PN{A:List Nd}(h:VT A):bB prog [] 87 [.agg [.il 12 (aW A)],wk A] (.il 1 (kB (cY A))):=by
 have hlen:=bD A;have hl1:=h.tin.len;have nA:NN (.il 12 (aW A)):=.il' (aY A);refine aK bG func87 rfl ?_;refine Rr ?_;rw[hlen];have e:((A.length:Nat):Int).toNat=A.length:=by simp
 refine aN (bK rfl (bK rfl (bK rfl (bK (Vi om) (bK (Vi om) (bK (oZ rfl om om) (Vi om))))))) ?_;refine Rr ?_;rw[e];refine bC.at bG (fun i:Nat=>i<=A.length)
  (fun i=>⟨[(1,wk A),(2,.ip (.agg [.il 12 (aW A)])),(5,.sl 0 0 A.length),(16,.int .i64 A.length),(17,.int .i64 i)],[(0,.row 4 1 (kB (mN (cY (A.take i)) A.length)))],1,69⟩) (fun i=>A.length-i) 0 [(1,0)] om
  (aG _ rfl ⟨⟨1,_,rfl,rfl,.eq (iR _) (by simp[mN,cY,MI,kB])⟩,trivial⟩ ⟨aR (gV A),⟨_,rfl,I5 (id:=0) rfl rfl rfl rfl rfl (.same _ nA)⟩,⟨_,rfl,.slE rfl rfl⟩,⟨_,rfl,.int (by rw[hlen])⟩,aF,trivial⟩) ?_
 intro i hi;have di:decide ((i:Int)<(A.length:Int))=decide (i<A.length):=WX.2 om;by_cases hil:i<A.length
 ·have hx:=bY hil;have hne:=pQ hil;have hnn:=aV (aE A i);have hg:=h.node hx;have hkl:=h.tin.klen _ (Ve hx);have hti:(A.take i).length=i:=by rw[V3];omega
  have hpl:(cY (A.take i)).length=i:=by rw[jL,hti]
  have hkm:=fun(k:Int) (hk:k∈(aE A i).kids)=>dW h hx hk
  have hCh:=HM hil;have hln:=h.len hx;have hln2:=h.lenC hx (Vh i) om;have hPs:cY (A.take (i+1))=cY (A.take i)++[AA (aX (A.take i)) (cY (A.take i)) (aE A i)]:=by
   rw[List.take_succ_eq_append_getElem hil,vS,(VX.1 hx).2]
  have hPN:AA (aX (A.take i)) (cY (A.take i)) (aE A i)=(decide (Go.Ax.d9 (aX (A.take i)) (aE A i)<=0) && (decide ((aE A i).kind≠3) || decide ((aE A i).kids.length=0)) && (aE A i).kids.all fun k=>(cY (A.take i)).getD k.toNat false):=rfl;rw[hln2,←hln] at hPN;have hset:=fun b=>NC (n:=A.length) b (show (cY (A.take i)).length<A.length by omega)
  rw[hpl] at hset;have hl0:=(h.lens0 (i:Int)).1;generalize AA (aX (A.take i)) (cY (A.take i)) (aE A i)=pb at *;generalize dR (aX A) i=ln at *;clear hln hln2 hg hx;generalize aE A i=x at *;obtain⟨kind,name,lo,hi',ws,lbs,vals,kids,⟨vk,vn,vs,vks⟩⟩:=x;simp only at hkm hkl hPN;refine Rr ?_;rw[di,Vi hil];refine Rt ?_;repeat(refine aD hne ?_;refine Rt ?_)
  refine hCh.go ?_ (.cons (gV A) (.cons nn .nil)) nn;refine Rr ?_;refine aI (fun hb=>?_) (fun hb=>?_)
  ·have hlp:0<ln:=by simpa using hb
   have hpf:pb=false:=by rw[hPN,Vv om];rfl
   rw[hpf] at hPs;have hsk:=LL (n:=A.length) (show (cY (A.take i)).length<A.length by omega);rw[←hPs] at hsk;refine Rr ?_;exact .mk (i+1) [(0,0)] om (aG _ rfl ⟨⟨0,_,rfl,rfl,.eq (iR _) (by rw[hsk])⟩,trivial⟩ ⟨aR (gV A),aR (.ip' (.agg' (.cons nA .nil))),⟨_,rfl,.slE rfl rfl⟩,aF,⟨_,rfl,.w64 om ⟨om,om⟩⟩,trivial⟩) om
  ·have hlp:¬0<ln:=by simpa using hb
   rw[Vi (show ln<=0 by omega),XI] at hPN;have lkk:=aC kids;have g1:Nat.blt ((i:Nat):Int).toNat A.length=true:=Vc (by simp;omega);obtain⟨pi,hpi⟩:∃b:Bool,(kB (mN (cY (A.take i)) A.length))[0+((i:Nat):Int).toNat]? = some (.bool b):=by
    have:i<(mN (cY (A.take i)) A.length).length:=by rw[tL om];omega
    exact⟨_,by rw[V0,Va,vJ,VV this];rfl⟩
   refine Rr ?_;by_cases k3:kind=3
   ·subst k3;rw[show decide ((3:Int)≠3)=false by simp,XJ] at hPN;have dl:(((aS kids).length:Int) == 0)=decide (kids.length=0):=by rw[lkk];by_cases e0:kids.length=0<;>simp[e0]
    refine Rr ?_;rw[dl];refine Rs ?_;repeat((first|refine aD hpi ?_|refine aN g1 ?_);refine Rt ?_)
    generalize decide (kids.length=0)=b0 at *;refine bC.at bG (fun j:Nat=>j<=kids.length)
     (fun j=>⟨[(1,wk A),(2,.ip (.agg [.il 12 (aW A)])),(5,.sl 0 0 A.length),(6,.int .i64 i),(16,.int .i64 A.length),(17,.int .i64 i),(47,.il 1 (aS kids)),(48,.int .i64 kids.length),(49,.int .i64 j)],
      [(0,.row 4 1 (kB ((mN (cY (A.take i)) A.length).set i (b0 && (kids.take j).all fun k=>(cY (A.take i)).getD k.toNat false))))],1,69⟩)
     (fun j=>kids.length-j) 0 [(0,0)] om
     (aG _ rfl ⟨⟨0,_,rfl,rfl,.eq (iR _) (by simp[Bz])⟩,trivial⟩ ⟨aR (gV A),aR (.ip' (.agg' (.cons nA .nil))),⟨_,rfl,.slE rfl rfl⟩,aF,aF,aF,aR (.il' (aM _)),⟨_,rfl,.int (by rw[lkk])⟩,aF,trivial⟩) ?_
    intro j hj;have dj:decide ((j:Int)<(kids.length:Int))=decide (j<kids.length):=WX.2 om;have hBl:(mN (cY (A.take i)) A.length).length=A.length:=tL om;by_cases hjl:j<kids.length
    ·have ek:=oQ hjl;obtain⟨m0,m1⟩:=hkm kids[j] (Vw hjl);have hall:((kids.take (j+1)).all fun k=>(cY (A.take i)).getD k.toNat false)=(((kids.take j).all fun k=>(cY (A.take i)).getD k.toNat false) && (cY (A.take i)).getD kids[j].toNat false):=by
      rw[List.take_succ_eq_append_getElem hjl,Xt];simp
     generalize kids[j]=kz at *;obtain⟨k,rfl⟩:=Vk m0;simp only[Va] at m1 hall;have hgk:∀b:Bool,(kB ((mN (cY (A.take i)) A.length).set i b))[0+((k:Nat):Int).toNat]? = some (.bool ((cY (A.take i)).getD k false)):=fun b=>by
      have hk:k<(cY (A.take i)).length:=om;rw[V0,Va,vJ,XP om];unfold mN;rw[Vp hk,VW,VV hk];rfl
     have hgi:∀b:Bool,(kB ((mN (cY (A.take i)) A.length).set i b))[0+((i:Nat):Int).toNat]? = some (.bool b):=fun b=>by
      rw[V0,Va,vJ,WJ om];rfl
     have g2:Nat.blt ((k:Nat):Int).toNat A.length=true:=Vc (by simp;omega);generalize (cY (A.take i)).getD k false=gk at *;have hall2:(b0 && ((kids.take (j+1)).all fun k=>(cY (A.take i)).getD k.toNat false))=((b0 && ((kids.take j).all fun k=>(cY (A.take i)).getD k.toNat false)) && gk):=by rw[hall,Xe]
     generalize (b0 && ((kids.take j).all fun k=>(cY (A.take i)).getD k.toNat false))=b at *;have hgk:=hgk b;have hgi:=hgi b;have hss:∀c:Bool,(kB ((mN (cY (A.take i)) A.length).set i b)).set (0+((i:Nat):Int).toNat) (.bool c)=kB ((mN (cY (A.take i)) A.length).set i c):=fun c=>by
      rw[V0,Va,←Bz,List.set_set]
     cases b with
     | false=>
      refine Rr ?_;rw[dj,Vi hjl];refine Rt ?_;repeat((first|refine aD ek ?_|refine aD hgi ?_|refine aN g1 ?_);refine Rt ?_)
      exact .mk (j+1) [(0,0)] om (aG _ rfl ⟨⟨0,_,rfl,rfl,.eq (iR _) (by rw[hss,hall2];rfl)⟩,trivial⟩ ⟨aR (gV A),aR (.ip' (.agg' (.cons nA .nil))),⟨_,rfl,.slE rfl rfl⟩,aF,aF,aF,aR (.il' (aM _)),aF,⟨_,rfl,.w64 om ⟨om,om⟩⟩,trivial⟩) om
     | true=>
      refine Rr ?_;rw[dj,Vi hjl];refine Rt ?_;repeat((first|refine aD ek ?_|refine aD hgi ?_|refine aD hgk ?_|refine aN g1 ?_|refine aN g2 ?_);refine Rt ?_)
      exact .mk (j+1) [(0,0)] om (aG _ rfl ⟨⟨0,_,rfl,rfl,.eq (iR _) (by rw[hss,hall2];rfl)⟩,trivial⟩ ⟨aR (gV A),aR (.ip' (.agg' (.cons nA .nil))),⟨_,rfl,.slE rfl rfl⟩,aF,aF,aF,aR (.il' (aM _)),aF,⟨_,rfl,.w64 om ⟨om,om⟩⟩,trivial⟩) om
    ·have hje:j=kids.length:=om;rw[hje,Vr,←hPN,hset,←hPs];refine Rr ?_;rw[show decide (((kids.length:Nat):Int)<(kids.length:Int))=false by simp];refine Rr ?_;exact .mk (i+1) [(0,0)] om (aG _ rfl ⟨aL 0 (iR _),trivial⟩ ⟨aR (gV A),aR (.ip' (.agg' (.cons nA .nil))),⟨_,rfl,.slE rfl rfl⟩,aF,⟨_,rfl,.w64 om ⟨om,om⟩⟩,trivial⟩) om
   ·rw[Vi (show kind≠3 from k3),Bool.true_or] at hPN;rw[show (kind != 3)=true by simpa using k3];refine Rt ?_;repeat((first|refine aD hpi ?_|refine aN g1 ?_);refine Rt ?_)
    refine bC.at bG (fun j:Nat=>j<=kids.length)
     (fun j=>⟨[(1,wk A),(2,.ip (.agg [.il 12 (aW A)])),(5,.sl 0 0 A.length),(6,.int .i64 i),(16,.int .i64 A.length),(17,.int .i64 i),(47,.il 1 (aS kids)),(48,.int .i64 kids.length),(49,.int .i64 j)],
      [(0,.row 4 1 (kB ((mN (cY (A.take i)) A.length).set i (true && (kids.take j).all fun k=>(cY (A.take i)).getD k.toNat false))))],1,69⟩)
     (fun j=>kids.length-j) 0 [(0,0)] om
     (aG _ rfl ⟨⟨0,_,rfl,rfl,.eq (iR _) (by simp[Bz])⟩,trivial⟩ ⟨aR (gV A),aR (.ip' (.agg' (.cons nA .nil))),⟨_,rfl,.slE rfl rfl⟩,aF,aF,aF,aR (.il' (aM _)),⟨_,rfl,.int (by rw[lkk])⟩,aF,trivial⟩) ?_
    intro j hj;have dj:decide ((j:Int)<(kids.length:Int))=decide (j<kids.length):=WX.2 om;have hBl:(mN (cY (A.take i)) A.length).length=A.length:=tL om;by_cases hjl:j<kids.length
    ·have ek:=oQ hjl;obtain⟨m0,m1⟩:=hkm kids[j] (Vw hjl);have hall:((kids.take (j+1)).all fun k=>(cY (A.take i)).getD k.toNat false)=(((kids.take j).all fun k=>(cY (A.take i)).getD k.toNat false) && (cY (A.take i)).getD kids[j].toNat false):=by
      rw[List.take_succ_eq_append_getElem hjl,Xt];simp
     generalize kids[j]=kz at *;obtain⟨k,rfl⟩:=Vk m0;simp only[Va] at m1 hall;have hgk:∀b:Bool,(kB ((mN (cY (A.take i)) A.length).set i b))[0+((k:Nat):Int).toNat]? = some (.bool ((cY (A.take i)).getD k false)):=fun b=>by
      have hk:k<(cY (A.take i)).length:=om;rw[V0,Va,vJ,XP om];unfold mN;rw[Vp hk,VW,VV hk];rfl
     have hgi:∀b:Bool,(kB ((mN (cY (A.take i)) A.length).set i b))[0+((i:Nat):Int).toNat]? = some (.bool b):=fun b=>by
      rw[V0,Va,vJ,WJ om];rfl
     have g2:Nat.blt ((k:Nat):Int).toNat A.length=true:=Vc (by simp;omega);generalize (cY (A.take i)).getD k false=gk at *;have hall2:(true && ((kids.take (j+1)).all fun k=>(cY (A.take i)).getD k.toNat false))=((true && ((kids.take j).all fun k=>(cY (A.take i)).getD k.toNat false)) && gk):=by rw[hall,Xe]
     generalize (true && ((kids.take j).all fun k=>(cY (A.take i)).getD k.toNat false))=b at *;have hgk:=hgk b;have hgi:=hgi b;have hss:∀c:Bool,(kB ((mN (cY (A.take i)) A.length).set i b)).set (0+((i:Nat):Int).toNat) (.bool c)=kB ((mN (cY (A.take i)) A.length).set i c):=fun c=>by
      rw[V0,Va,←Bz,List.set_set]
     cases b with
     | false=>
      refine Rr ?_;rw[dj,Vi hjl];refine Rt ?_;repeat((first|refine aD ek ?_|refine aD hgi ?_|refine aN g1 ?_);refine Rt ?_)
      exact .mk (j+1) [(0,0)] om (aG _ rfl ⟨⟨0,_,rfl,rfl,.eq (iR _) (by rw[hss,hall2];rfl)⟩,trivial⟩ ⟨aR (gV A),aR (.ip' (.agg' (.cons nA .nil))),⟨_,rfl,.slE rfl rfl⟩,aF,aF,aF,aR (.il' (aM _)),aF,⟨_,rfl,.w64 om ⟨om,om⟩⟩,trivial⟩) om
     | true=>
      refine Rr ?_;rw[dj,Vi hjl];refine Rt ?_;repeat((first|refine aD ek ?_|refine aD hgi ?_|refine aD hgk ?_|refine aN g1 ?_|refine aN g2 ?_);refine Rt ?_)
      exact .mk (j+1) [(0,0)] om (aG _ rfl ⟨⟨0,_,rfl,rfl,.eq (iR _) (by rw[hss,hall2];rfl)⟩,trivial⟩ ⟨aR (gV A),aR (.ip' (.agg' (.cons nA .nil))),⟨_,rfl,.slE rfl rfl⟩,aF,aF,aF,aR (.il' (aM _)),aF,⟨_,rfl,.w64 om ⟨om,om⟩⟩,trivial⟩) om
    ·have hje:j=kids.length:=om;rw[hje,Vr,←hPN,hset,←hPs];refine Rr ?_;rw[show decide (((kids.length:Nat):Int)<(kids.length:Int))=false by simp];refine Rr ?_;exact .mk (i+1) [(0,0)] om (aG _ rfl ⟨aL 0 (iR _),trivial⟩ ⟨aR (gV A),aR (.ip' (.agg' (.cons nA .nil))),⟨_,rfl,.slE rfl rfl⟩,aF,⟨_,rfl,.w64 om ⟨om,om⟩⟩,trivial⟩) om
 ·have hie:i=A.length:=om;subst hie;rw[Vr];have hp1:mN (cY A) A.length=cY A:=by simp[mN,jL]
  rw[hp1];refine Rr ?_;rw[di,Vv hil];refine Rr ?_;exact dK (r':=.il 1 (kB (cY A))) (rP (id:=0) rfl (by rw[Rx,jL]) rfl (iR _)) ⟨rfl,rfl,rfl⟩
set_option maxHeartbeats 16000000
def kQ(q:List Int)(rid:Nat)(rest:aP):aP:=(0,.row 22 1 [.sl rid 0 q.length])::(rid,.row 3 1 (aS q))::rest
def Sj(A:List Nd)(raw:List Int):AV:=.fn (.func 59) [] [.ptr 0 0 0,.ip (.il 1 (aS raw)),.ip (wk A)]
theorem tS(raw:List Int):NN (.ip (.il 1 (aS raw))):=.ip' (.il' (aM raw))
theorem sK(A:List Nd):NN (.ip (wk A)):=.ip' (gV A)
theorem Dj{mem:aP}{σ:List (Nat × Nat)}{A:List Nd}{raw:List Int}(h:lk σ 0=some 0):Cv mem σ (Sj A raw) (Sj A raw):=
 .fn _ _ _ _ _ rfl rfl (by simp) (kU.cons (.ptr 0 0 0 0 h) (.cons (.same _ (tS raw)) (.cons (.same _ (sK A)) .nil))).2
theorem eA{mem:aP}{σ:List (Nat × Nat)}{q:List Int}{xs:List AV}{len rid rid':Nat}{rest:aP}(s0:lk σ 0=some 0)(sr:lk σ rid=some rid')(m0:lk mem 0=some (.row 22 1 [.sl rid 0 len]))(hl:len=q.length)(mr:lk mem rid=some (.row 3 1 xs))(hx:xs=aS q)
  (hr:cN mem σ rest):cN mem σ (kQ q rid' rest):=
 ⟨⟨0,_,s0,m0,.cons (.one rfl rfl (.slE sr hl)) .nil⟩,⟨rid,_,sr,mr,.eq (aM _) hx⟩,hr⟩
theorem TC{A:List Nd}(h:VT A)(raw q:List Int){i:Nat}(hi:i<A.length)(hk:(aE A i).kind=1∨(aE A i).kind=2)(hq:q.length<=100000)(hr:raw.length<=17592186043904) :
  aH prog [] 59 [.int .i64 i,.ptr 0 0 0,.ip (.il 1 (aS raw)),.ip (wk A)] (kQ q 1 []) 2 fun r m k=>r = .int .i64 (cR raw (aE A i) q.length)/\m=kQ (q++[cR raw (aE A i) q.length]) 2 []/\k=3:=by
 have hx:=bY hi;have hg:=h.node hx;have hop:=h.opt hx hk;have ho:=HS (aE A i) (fun _=>hg.node.num);have hkl:=h.tin.klen _ (Ve hx);have en:=pQ hi;have hob:fK (aE A i)<=1099511627776:=by
  unfold fK;split
  ·have:=dD hg.node.num;omega
  ·omega
 have nx:=aV (aE A i);have hcm:=fun hlt=>I2 (raw:=raw) (x:=aE A i) (q:=q.length) hop hlt
 have hcn:=fun hlt=>G3 (raw:=raw) (x:=aE A i) (q:=q.length) hlt
 have lr:=aC raw;generalize aE A i=x at *;have lq:=aC q;have d1:decide ((q.length:Int)<((aS raw).length:Int))=decide (q.length<raw.length):=by rw[lr];exact WX.2 om
 generalize cR raw x q.length=c at *;generalize fK x=o at *;refine aK bG func59 rfl ?_;refine Rr ?_;rw[d1];by_cases hlt:q.length<raw.length
 ·have er:=oQ hlt;have hcm:=hcm hlt;have eg:raw.getD q.length 0=raw[q.length]:=by rw[VW,VV hlt];rfl
  rw[eg] at hcm;generalize raw[q.length]=z at *;have hw:IntKind.i64.wrap (o-1)=o-1:=cV ⟨om,om⟩;rw[Vi hlt];refine Rt ?_;repeat((first|refine aD er ?_|refine aD en ?_);refine Rt ?_)
  refine ho.go ?_ (.cons (.ip' nx) .nil) nn;refine Rt ?_;repeat((first|refine aD er ?_|refine aD en ?_);refine Rt ?_)
  have hif:(if IntKind.i64.wrap (o-1)<if 0>z then 0 else z then IntKind.i64.wrap (o-1) else if 0>z then 0 else z)=c:=by
   rw[hw,←hcm];split<;>split<;>omega
  rw[hif];refine aN (bV rfl rfl (by rw[lq]) (by simp;omega)) ?_;refine Rr ?_;exact bJ (n':=3) (m':=kQ (q++[c]) 2 []) [(0,0),(22,2)] rfl (eA (rid:=22) rfl rfl rfl (by simp) rfl (by simp[aS]) trivial) (.same _ nn) ⟨rfl,rfl,rfl⟩
 ·rw[Vv hlt,hcn hlt];refine Rr ?_;refine aN (bV rfl rfl (by rw[lq]) (by simp;omega)) ?_;refine Rr ?_;exact bJ (n':=3) (m':=kQ (q++[0]) 2 []) [(0,0),(3,2)] rfl (eA (rid:=3) rfl rfl rfl (by simp) rfl (by simp[aS]) trivial) (.same _ nn) ⟨rfl,rfl,rfl⟩
def Oj(A:List Nd)(raw q:List Int)(f i:Nat)(want:Bool):AV->aP->Nat->Prop:=fun r m k=>∃v,r=bS v/\(want=true->v=(dJ A raw f i q.length).val)/\m=kQ (q++(dJ A raw f i q.length).cs) 2 []/\k=3
def QW(A:List Nd)(raw:List Int)(f:Nat):Prop:=∀(i:Nat) (q:List Int) (want:Bool),i<f->i<A.length->q.length+(dJ A raw f i q.length).cs.length<=4096 ->
 aH prog [] 58 [wk A,.int .i64 i,.bool want,Sj A raw] (kQ q 1 []) 2 (Oj A raw q f i want)
theorem Ma{A:List Nd}(h:VT A)(raw q:List Int){i:Nat}(hi:i<A.length)(hk:(aE A i).kind=1∨(aE A i).kind=2)(hq:q.length<=100000)(hr:raw.length<=17592186043904){mem:aP}{nx:Nat}{K:AV->aP->Nat->Prop}
  (rid:Nat) (hp:jD [0,rid] mem=kQ q rid []) (hc0:(jX (kQ q 1 []) && (kD [(0,0),(rid,1)] && pE 2 [(0,0),(rid,1)]))=true) (hl:lk [(0,0),(rid,1)] 0=some 0) (hl2:lk [(0,0),(rid,1)] rid=some 1) (hm:lk (kQ q rid []) rid=some (.row 3 1 (aS q)))
  (hc:∀q':List Int,(jX (kQ q' nx []) && (kD [(0,0),(2,nx)] && (Nat.ble nx (nx+1) && (kR [0,rid] nx (kQ q' nx []) && pX [(0,0),(rid,1)] 2 nx (nx+1) [(0,0),(2,nx)]))))=true)
  (hk2:K (.int .i64 (cR raw (aE A i) q.length)) (kQ (q++[cR raw (aE A i) q.length]) nx []++gR [0,rid] mem) (nx+1)) :
  aH prog [] 59 [.int .i64 i,.ptr 0 0 0,.ip (.il 1 (aS raw)),.ip (wk A)] mem nx K:=by
 refine aH.useN bG [(0,0),(rid,1)] (TC h raw q hi hk hq hr) hp (.s (.cons (.ptr 0 0 0 0 hl) (.cons (.same _ (tS raw)) (.cons (.same _ (sK A)) .nil)))) (eA (rid:=rid) hl hl2 rfl rfl hm rfl trivial) hc0 ?_;rintro r m k ⟨rfl,rfl,rfl⟩;exact⟨[(0,0),(2,nx)],_,kQ (q++[cR raw (aE A i) q.length]) nx [],nx+1,.same _ nn,eA (rid:=2) rfl rfl rfl rfl rfl rfl trivial,hc _,hk2⟩
theorem zR{A:List Nd}{raw:List Int}{f:Nat}(ih:QW A raw f){q:List Int}{i:Nat}{want:Bool}(h1:i<f)(h2:i<A.length)(h3:q.length+(dJ A raw f i q.length).cs.length<=4096){mem:aP}{nx:Nat}{K:AV->aP->Nat->Prop}
  (rid:Nat) (hp:jD [0,rid] mem=kQ q rid []) (hc0:(jX (kQ q 1 []) && (kD [(0,0),(rid,1)] && pE 2 [(0,0),(rid,1)]))=true) (hl:lk [(0,0),(rid,1)] 0=some 0) (hl2:lk [(0,0),(rid,1)] rid=some 1) (hm:lk (kQ q rid []) rid=some (.row 3 1 (aS q)))
  (hc:∀q':List Int,(jX (kQ q' nx []) && (kD [(0,0),(2,nx)] && (Nat.ble nx (nx+1) && (kR [0,rid] nx (kQ q' nx []) && pX [(0,0),(rid,1)] 2 nx (nx+1) [(0,0),(2,nx)]))))=true)
  (hk2:∀v:a6,(want=true->v=(dJ A raw f i q.length).val)->K (bS v) (kQ (q++(dJ A raw f i q.length).cs) nx []++gR [0,rid] mem) (nx+1)) :
  aH prog [] 58 [wk A,.int .i64 i,.bool want,Sj A raw] mem nx K:=by
 refine aH.useN bG [(0,0),(rid,1)] (ih i q want h1 h2 h3) hp (.cons (.same _ (gV A)) (.s (.s (.cons (Dj hl) .nil)))) (eA (rid:=rid) hl hl2 rfl rfl hm rfl trivial) hc0 ?_;rintro r m k ⟨v,rfl,hv,rfl,rfl⟩;exact⟨[(0,0),(2,nx)],_,kQ (q++(dJ A raw f i q.length).cs) nx [],nx+1,.same _ (bN v),eA (rid:=2) rfl rfl rfl rfl rfl rfl trivial,hc _,hk2 v hv⟩
set_option maxHeartbeats 16000000
def xA(n c:Int):Value:=.iface 152 (.agg #[.int .i64 n,.int .i64 c])
def MT(a:Nat):aP:=[(0,.row 3 1 [.int .i64 a])]
def Qc(A:List Nd)(p:List Int)(i a0:Nat)(x:Value):Prop:=(p.length<=a0/\x=xA i 0)∨(a0<p.length/\(p.getD a0 0<0∨fK (aE A i)<=p.getD a0 0)/\x=xA (-1) 11)
theorem QC{A:List Nd}(h:VT A){p:List Int}(hp:p.length<=1000000000){i a0:Nat}(hi:i<A.length)(ha:a0<=p.length) :
  bP prog [] 88 [.int .i64 i,.ptr 0 0 0,.ip (.il 1 (aS p)),.ip (.agg [.il 12 (aW A)])] (MT a0) 1
   (fun r m k=>a0<p.length/\0<=p.getD a0 0/\p.getD a0 0<fK (aE A i)/\r = .int .i64 (p.getD a0 0)/\m=MT (a0+1)/\k=1)
   (fun x m k=>Qc A p i a0 x/\m=MT a0/\k=1):=by
 have hx:=bY hi;have hg:=h.node hx;have ho:=HS (aE A i) (fun _=>hg.node.num);have en:=pQ hi;have nx:=aV (aE A i);have lp:=aC p;have hpe:a0<p.length->(aS p)[(a0:Int).toNat]? = some (.int .i64 (p.getD a0 0)):=fun hq=>by
  rw[oQ hq,VW,VV hq];rfl
 unfold Qc;generalize fK (aE A i)=o at *;generalize aE A i=x at *;generalize p.getD a0 0=c at *;refine CM bG func88 rfl ?_;refine Rq ?_;have d1:((a0:Int) == ((aS p).length:Int))=decide (a0=p.length):=by rw[lp];by_cases e:a0=p.length<;>simp[e];omega
 rw[d1];by_cases hq:a0=p.length
 ·rw[Vi hq];refine Rq ?_;exact bJ (r':=.junk) (n':=1) (m':=MT a0) [(0,0)] rfl ⟨aL 0 (.cons nn .nil),trivial⟩ (.junk _) ⟨.inl ⟨om,rfl⟩,rfl,rfl⟩
 ·rw[Vv hq];have hpe:=hpe om;refine Rq ?_;repeat((first|refine aD hpe ?_|refine aD en ?_|refine bR.2 ?_|refine aU ?_);refine Rq ?_)
  by_cases hc0:c<0
  ·rw[Vi hc0];refine Rq ?_;exact bJ (r':=.junk) (n':=1) (m':=MT a0) [(0,0)] rfl ⟨aL 0 (.cons nn .nil),trivial⟩ (.junk _) ⟨.inr ⟨om,.inl hc0,rfl⟩,rfl,rfl⟩
  ·rw[Vv hc0];refine Rq ?_;repeat((first|refine aD hpe ?_|refine aD en ?_|refine bR.2 ?_|refine aU ?_);refine Rq ?_)
   refine ho.goP ?_ (.cons (.ip' nx) .nil) nn;refine Rq ?_;have d2:decide (c≥o)=decide (o<=c):=WX.2 om;rw[d2];by_cases hco:o<=c
   ·rw[Vi hco];refine Rq ?_;exact bJ (r':=.junk) (n':=1) (m':=MT a0) [(0,0)] rfl ⟨aL 0 (.cons nn .nil),trivial⟩ (.junk _) ⟨.inr ⟨om,.inr hco,rfl⟩,rfl,rfl⟩
   ·rw[Vv hco];refine Rq ?_;exact bJ (n':=1) (m':=MT (a0+1)) [(0,0)] rfl ⟨⟨0,_,rfl,rfl,.cons (.one rfl rfl (.w64 om ⟨om,om⟩)) .nil⟩,trivial⟩ (.same _ nn) ⟨om,om,om,rfl,rfl,rfl⟩
def Sl(rid n:Nat):AV:=.agg [.int .i64 0,.int .i64 0,.str [],.nsl,.int .i64 0,.sl rid 0 n,.int .i64 0]
def RV(A:List Nd)(p:List Int):AV:=.fn (.func 88) [] [.ptr 0 0 0,.ip (.il 1 (aS p)),.ip (.agg [.il 12 (aW A)])]
def F9(A:List Nd)(s:Bool):AV:=.fn (.func 89) [] [.ip (.agg [.il 12 (aW A)]),.ip (wk A),.ip (.bool s),.ip (.il 1 (kB (cY A))),.ptr 2 0 0,.ptr 3 0 0,.ptr 0 0 0,.ptr 1 0 0]
def rE(A:List Nd)(p:List Int)(s:Bool)(a:Nat)(L:List Sp)(rid:Nat)(rest:aP):aP:=
 (0,.row 3 1 [.int .i64 a])::(1,.row 72 7 [Sl rid L.length])::(2,.row 53 1 [RV A p])::(3,.row 47 1 [F9 A s])::(rid,.row 155 3 (gX L))::rest
theorem rD(A:List Nd):NN (.ip (.agg [.il 12 (aW A)])):=.ip' (.agg' (.cons (.il' (aY A)) .nil))
theorem Ev(A:List Nd):NN (.ip (.il 1 (kB (cY A)))):=.ip' (.il' (iR _))
theorem SJ{mem:aP}{σ:List (Nat × Nat)}{A:List Nd}{p:List Int}(h:lk σ 0=some 0):Cv mem σ (RV A p) (RV A p):=
 .fn _ _ _ _ _ rfl rfl (by simp) (kU.cons (.ptr 0 0 0 0 h) (.cons (.same _ (tS p)) (.cons (.same _ (rD A)) .nil))).2
theorem RM{mem:aP}{σ:List (Nat × Nat)}{A:List Nd}{s:Bool}(h0:lk σ 0=some 0)(h1:lk σ 1=some 1)(h2:lk σ 2=some 2)(h3:lk σ 3=some 3):Cv mem σ (F9 A s) (F9 A s):=
 .fn _ _ _ _ _ rfl rfl (by simp) (kU.cons (.same _ (rD A)) (.cons (.same _ (sK A)) (.s (.cons (.same _ (Ev A)) (.cons (.ptr 2 2 0 0 h2) (.cons (.ptr 3 3 0 0 h3) (.cons (.ptr 0 0 0 0 h0) (.cons (.ptr 1 1 0 0 h1) .nil)))))))).2
theorem dN{mem:aP}{σ:List (Nat × Nat)}{A:List Nd}{p:List Int}{s:Bool}{a:Nat}{av:Int}{L:List Sp}{len rid rid':Nat}{xs:List AV}{rest:aP}(s0:lk σ 0=some 0)(s1:lk σ 1=some 1)(s2:lk σ 2=some 2)(s3:lk σ 3=some 3)(sr:lk σ rid=some rid')
  (m0:lk mem 0=some (.row 3 1 [.int .i64 av])) (ha:av=(a:Int)) (m1:lk mem 1=some (.row 72 7 [Sl rid len])) (hl:len=L.length) (m2:lk mem 2=some (.row 53 1 [RV A p])) (m3:lk mem 3=some (.row 47 1 [F9 A s]))
  (mr:lk mem rid=some (.row 155 3 xs)) (hx:xs=gX L) (hr:cN mem σ rest):cN mem σ (rE A p s a L rid' rest):=
 ⟨⟨0,_,s0,m0,.cons (.one rfl rfl (.int ha)) .nil⟩,⟨1,_,s1,m1,.cons (.agg (.s (.s (.s (.s (.s (.cons (.slE sr hl) (.s .nil)))))))) .nil⟩,
  ⟨2,_,s2,m2,.cons (.one rfl rfl (SJ s0)) .nil⟩,⟨3,_,s3,m3,.cons (.one rfl rfl (RM s0 s1 s2 s3)) .nil⟩,⟨rid,_,sr,mr,.eq (yM _) hx⟩,hr⟩
def tC(r:Az)(x:Value):Prop:=(∃n:Nat,r.stop=(n:Int)/\x=xA n 0)∨(r.stop = -2/\x=xA (-1) 11)
def TQ(A:List Nd)(p:List Int)(s:Bool)(r0:Az)(a0:Nat)(L:List Sp):AV->aP->Nat->Prop:=fun r m k=>r0.stop = -1/\r=bS r0.val/\∃X:List Sp,X.length<=r0.spans.length/\(s=true->X=r0.spans)/\m=rE A p s (a0+r0.used) (L++X) 5 []/\k=6
def VM(A:List Nd)(p:List Int)(s:Bool)(r0:Az):Value->aP->Nat->Prop:=fun x m k=>tC r0 x/\∃(a:Nat) (L:List Sp),m=rE A p s a L 5 []/\k=6
def Tz(A:List Nd)(p:List Int)(s:Bool)(f:Nat):Prop:=∀(i a0:Nat) (L:List Sp),i<f->i<A.length->a0<=p.length->L.length+(a7 A p f i a0).spans.length<=4294967296 ->
 bP prog [] 89 [.int .i64 i,.ip (.agg [.il 12 (aW A)]),.ip (wk A),.ip (.bool s),.ip (.il 1 (kB (cY A))),.ptr 2 0 0,.ptr 3 0 0,.ptr 0 0 0,.ptr 1 0 0] (rE A p s a0 L 4 []) 5
  (TQ A p s (a7 A p f i a0) a0 L) (VM A p s (a7 A p f i a0))
set_option maxHeartbeats 16000000
theorem SF{A:List Nd}(h:VT A){p:List Int}(hp:p.length<=1000000000){s:Bool}{i a0:Nat}(hi:i<A.length)(ha:a0<=p.length){mem rest:aP}{nx:Nat}{K:AV->aP->Nat->Prop}{Kp:Value->aP->Nat->Prop}
  (hm:jD [0] mem=MT a0) (hd:gR [0] mem=rest)
  (hk:a0<p.length->0<=p.getD a0 0->p.getD a0 0<fK (aE A i)->K (.int .i64 (p.getD a0 0)) ((0,.row 3 1 [.int .i64 ((a0+1:Nat):Int)])::rest) nx)
  (hkp:∀x,Qc A p i a0 x->Kp x ((0,.row 3 1 [.int .i64 ((a0:Nat):Int)])::rest) nx)
  (hc:(jX (MT a0) && (kD [(0,0)] && (Nat.ble nx nx && (kR [0] nx (MT a0) && pX [(0,0)] 1 nx nx [(0,0)]))))=true) :
  bP prog [] 88 [.int .i64 i,.ptr 0 0 0,.ip (.il 1 (aS p)),.ip (.agg [.il 12 (aW A)])] mem nx K Kp:=by
 refine bP.useN bG [(0,0)] (QC h hp hi ha) hm (.s (.cons (.ptr 0 0 0 0 rfl) (.cons (.same _ (tS p)) (.cons (.same _ (rD A)) .nil)))) ⟨aL 0 (.cons nn .nil),trivial⟩ rfl ?_ ?_
 ·rintro r m k ⟨h1,h2,h3,rfl,rfl,rfl⟩;refine⟨[(0,0)],_,MT (a0+1),nx,.same _ nn,⟨aL 0 (.cons nn .nil),trivial⟩,hc, ?_⟩;rw[show g9 [(0,0)]=[0] from rfl,hd];exact hk h1 h2 h3
 ·rintro x m k ⟨h1,rfl,rfl⟩;refine⟨[(0,0)],MT a0,nx,⟨aL 0 (.cons nn .nil),trivial⟩,hc, ?_⟩;rw[show g9 [(0,0)]=[0] from rfl,hd];exact hkp x h1
theorem AY{A:List Nd}{p:List Int}{s:Bool}{f:Nat}(ih:Tz A p s f){i a0:Nat}{L:List Sp}(h1:i<f)(h2:i<A.length)(h3:a0<=p.length)(h4:L.length+(a7 A p f i a0).spans.length<=4294967296){mem rest:aP}{nx:Nat}{K:AV->aP->Nat->Prop}{Kp:Value->aP->Nat->Prop}
  (rid:Nat) (hp:jD [0,1,2,3,rid] mem=rE A p s a0 L rid []) (hd:gR [0,1,2,3,rid] mem=rest)
  (hc0:(jX (rE A p s a0 L 4 []) && (kD [(0,0),(1,1),(2,2),(3,3),(rid,4)] && pE 5 [(0,0),(1,1),(2,2),(3,3),(rid,4)]))=true)
  (l0:lk [(0,0),(1,1),(2,2),(3,3),(rid,4)] rid=some 4) (hm:lk (rE A p s a0 L rid []) rid=some (.row 155 3 (gX L)))
  (hc:∀(a:Nat) (L':List Sp),(jX (rE A p s a L' nx []) && (kD [(0,0),(1,1),(2,2),(3,3),(5,nx)] && (Nat.ble nx (nx+1) && (kR [0,1,2,3,rid] nx (rE A p s a L' nx []) && pX [(0,0),(1,1),(2,2),(3,3),(rid,4)] 5 nx (nx+1) [(0,0),(1,1),(2,2),(3,3),(5,nx)]))))=true)
  (hk:(a7 A p f i a0).stop = -1->∀X:List Sp,X.length<=(a7 A p f i a0).spans.length->(s=true->X=(a7 A p f i a0).spans)->K (bS (a7 A p f i a0).val) (rE A p s (a0+(a7 A p f i a0).used) (L++X) nx []++rest) (nx+1))
  (hkp:∀x,tC (a7 A p f i a0) x->∀(a:Nat) (L':List Sp),Kp x (rE A p s a L' nx []++rest) (nx+1)) :
  bP prog [] 89 [.int .i64 i,.ip (.agg [.il 12 (aW A)]),.ip (wk A),.ip (.bool s),.ip (.il 1 (kB (cY A))),.ptr 2 0 0,.ptr 3 0 0,.ptr 0 0 0,.ptr 1 0 0] mem nx K Kp:=by
 refine bP.useN bG [(0,0),(1,1),(2,2),(3,3),(rid,4)] (ih i a0 L h1 h2 h3 h4) hp (.s (.cons (.same _ (rD A)) (.cons (.same _ (sK A)) (.s (.cons (.same _ (Ev A)) (.cons (.ptr 2 2 0 0 rfl) (.cons (.ptr 3 3 0 0 rfl) (.cons (.ptr 0 0 0 0 rfl) (.cons (.ptr 1 1 0 0 rfl) .nil)))))))))
  (dN (rid:=rid) rfl rfl rfl rfl l0 rfl rfl rfl rfl rfl rfl hm rfl trivial) hc0 ?_ ?_
 ·rintro r m k ⟨e1,rfl,X,hX,hXs,rfl,rfl⟩;refine⟨[(0,0),(1,1),(2,2),(3,3),(5,nx)],_,rE A p s (a0+(a7 A p f i a0).used) (L++X) nx [],nx+1,.same _ (bN _),dN (rid:=5) rfl rfl rfl rfl rfl rfl rfl rfl rfl rfl rfl rfl rfl trivial,hc _ _, ?_⟩;rw[show g9 [(0,0),(1,1),(2,2),(3,3),(rid,4)]=[0,1,2,3,rid] from rfl,hd];exact hk e1 X hX hXs
 ·rintro x m k ⟨e1,a,L',rfl,rfl⟩;refine⟨[(0,0),(1,1),(2,2),(3,3),(5,nx)],rE A p s a L' nx [],nx+1,dN (rid:=5) rfl rfl rfl rfl rfl rfl rfl rfl rfl rfl rfl rfl rfl trivial,hc _ _, ?_⟩;rw[show g9 [(0,0),(1,1),(2,2),(3,3),(rid,4)]=[0,1,2,3,rid] from rfl,hd];exact hkp x e1 a L'
theorem Kq{A:List Nd}{p:List Int}{s:Bool}{f:Nat}(ih:Tz A p s f){i a0:Nat}{L:List Sp}(h1:i<f)(h2:i<A.length)(h3:a0<=p.length)(h4:L.length+(a7 A p f i a0).spans.length<=4294967296){mem m1 rest:aP}{nx:Nat}{K:AV->aP->Nat->Prop}{Kp:Value->aP->Nat->Prop}
  (rid:Nat) (hp:jD [0,1,2,3,rid] mem=m1) (hM:cN m1 [(0,0),(1,1),(2,2),(3,3),(rid,4)] (rE A p s a0 L 4 [])) (hd:gR [0,1,2,3,rid] mem=rest)
  (hc0:(jX (rE A p s a0 L 4 []) && (kD [(0,0),(1,1),(2,2),(3,3),(rid,4)] && pE 5 [(0,0),(1,1),(2,2),(3,3),(rid,4)]))=true)
  (hc:∀(a:Nat) (L':List Sp),(jX (rE A p s a L' nx []) && (kD [(0,0),(1,1),(2,2),(3,3),(5,nx)] && (Nat.ble nx (nx+1) && (kR [0,1,2,3,rid] nx (rE A p s a L' nx []) && pX [(0,0),(1,1),(2,2),(3,3),(rid,4)] 5 nx (nx+1) [(0,0),(1,1),(2,2),(3,3),(5,nx)]))))=true)
  (hk:(a7 A p f i a0).stop = -1->∀X:List Sp,X.length<=(a7 A p f i a0).spans.length->(s=true->X=(a7 A p f i a0).spans)->K (bS (a7 A p f i a0).val) (rE A p s (a0+(a7 A p f i a0).used) (L++X) nx []++rest) (nx+1))
  (hkp:∀x,tC (a7 A p f i a0) x->∀(a:Nat) (L':List Sp),Kp x (rE A p s a L' nx []++rest) (nx+1)) :
  bP prog [] 89 [.int .i64 i,.ip (.agg [.il 12 (aW A)]),.ip (wk A),.ip (.bool s),.ip (.il 1 (kB (cY A))),.ptr 2 0 0,.ptr 3 0 0,.ptr 0 0 0,.ptr 1 0 0] mem nx K Kp:=by
 refine bP.useN bG [(0,0),(1,1),(2,2),(3,3),(rid,4)] (ih i a0 L h1 h2 h3 h4) hp (.s (.cons (.same _ (rD A)) (.cons (.same _ (sK A)) (.s (.cons (.same _ (Ev A)) (.cons (.ptr 2 2 0 0 rfl) (.cons (.ptr 3 3 0 0 rfl) (.cons (.ptr 0 0 0 0 rfl) (.cons (.ptr 1 1 0 0 rfl) .nil)))))))))
  hM hc0 ?_ ?_
 ·rintro r m k ⟨e1,rfl,X,hX,hXs,rfl,rfl⟩;refine⟨[(0,0),(1,1),(2,2),(3,3),(5,nx)],_,rE A p s (a0+(a7 A p f i a0).used) (L++X) nx [],nx+1,.same _ (bN _),dN (rid:=5) rfl rfl rfl rfl rfl rfl rfl rfl rfl rfl rfl rfl rfl trivial,hc _ _, ?_⟩;rw[show g9 [(0,0),(1,1),(2,2),(3,3),(rid,4)]=[0,1,2,3,rid] from rfl,hd];exact hk e1 X hX hXs
 ·rintro x m k ⟨e1,a,L',rfl,rfl⟩;refine⟨[(0,0),(1,1),(2,2),(3,3),(5,nx)],rE A p s a L' nx [],nx+1,dN (rid:=5) rfl rfl rfl rfl rfl rfl rfl rfl rfl rfl rfl rfl rfl trivial,hc _ _, ?_⟩;rw[show g9 [(0,0),(1,1),(2,2),(3,3),(rid,4)]=[0,1,2,3,rid] from rfl,hd];exact hkp x e1 a L'
set_option maxHeartbeats 16000000
theorem JX{A:List Nd}(hv:cL A=0){i:Nat}{x:Nd}(hx:A[i]? = some x)(h:x.kind=0∨x.kind=1):x.kids=[]:=by
 refine Vj ?_;have hv0:bU [] A=0:=by
  unfold cL at hv;split at hv
  ·omega
  ·exact hv
 have hf:=iH (jK A hv0 i x hx);unfold cP gY at hf;simp only[VZ,WN,Vt] at hf;have:=hf.1.1.1.1.1.1.2;omega
theorem IN{mem:aP}{id i sz sz':Nat}{t:TypeId}{xs:List AV}{x:AV}(h:lk mem id=some (.row t sz' xs))(hx:xs[i]? = some x)(hc:Nat.beq x.cells.length sz=false):uG mem id i 0 sz=false:=by
 unfold uG;simp only[h,hx,hc]
theorem kI{A:List Nd}{p:List Int}{s:Bool}{r0:Az}{x:Value}{mem:aP}{n:Nat}{a:Nat}{av:Int}{L:List Sp}{len rid:Nat}{xs:List AV}(hw:tC r0 x)
  (m0:lk mem 0=some (.row 3 1 [.int .i64 av])) (ha:av=(a:Int)) (m1:lk mem 1=some (.row 72 7 [Sl rid len])) (hl:len=L.length) (m2:lk mem 2=some (.row 53 1 [RV A p])) (m3:lk mem 3=some (.row 47 1 [F9 A s]))
  (mr:lk mem rid=some (.row 155 3 xs)) (hx:xs=gX L) (l:(kD [(0,0),(1,1),(2,2),(3,3),(rid,5)] && (jX (rE A p s a L 5 []) && (yO 5 6 [(0,0),(1,1),(2,2),(3,3),(rid,5)] && Nat.ble 5 6)))=true) (l0:lk [(0,0),(1,1),(2,2),(3,3),(rid,5)] rid=some 5) :
  kN 5 (fun _ m n=>VM A p s r0 x m n) .junk mem n:=
 bJ (r':=.junk) (n':=6) (m':=rE A p s a L 5 []) [(0,0),(1,1),(2,2),(3,3),(rid,5)] l (dN (rid:=rid) rfl rfl rfl rfl l0 m0 ha m1 hl m2 m3 mr hx trivial) (.junk _) ⟨hw,a,L,rfl,rfl⟩
theorem PU{A:List Nd}(h:VT A){p:List Int}(hp:p.length<=1000000000)(s:Bool)(f:Nat)(ih:Tz A p s f):Tz A p s (f+1):=by
 intro i a0 L hif hi ha hC;have hx:=bY hi;have hg:=h.node hx;have hkm:=fun(k:Int) (hk:k∈(aE A i).kids)=>dW h hx hk
 have hkI:=fun(c:Int) (h0:0<=c) (h1:c<(aE A i).kids.length)=>h.kidI hx h0 h1
 have hbi:=fun h4=>h.bind hx h4
 have hf0:=fun h0=>DL h p (f+1) i a0 hif hi h0
 have hCh:=HM hi;have hFi:=Rw hi;have hne:=pQ hi;have hch:=fun(mem rest:aP) (nx:Nat) (K:AV->aP->Nat->Prop) (Kp:Value->aP->Nat->Prop)=>SF h hp (s:=s) hi ha (mem:=mem) (rest:=rest) (nx:=nx) (K:=K) (Kp:=Kp)
 have hln:=h.len hx;have hpl:=h.pln hx;have hnn:=aV (aE A i);have hkl:=h.tin.klen _ (Ve hx);have hfv:=fun(v:a6)=>Qk (aE A i) v (by have:=h.tin.vlen _ (Ve hx);omega) hg.val hg.srt
 have hmd:=fun(ks:List a6)=>KO (aE A i) ks
 have hmem:=fun(k a:Nat) (hk:k<i)=>mJ h p f k a om om
 have hbd:∀(k q:Nat),q<=p.length->q+(a7 A p f k q).used<=p.length:=fun k q hq=>(Fh (A:=A) p f k q hq).1
 have hkind:=hg.node.kind;have hnum:=fun(e:(aE A i).kind=1)=>dD hg.node.num
 have hsrt:=hg.srt;have hl0:=(h.lens0 (i:Int)).1;have hk0:(aE A i).kind=0->(aE A i).kids=[]:=fun e=>JX h.val hx (.inl e)
 have hon:fK (aE A i)=if (aE A i).kind=1 then(aE A i).hi-(aE A i).lo+1 else(aE A i).kids.length:=rfl
 have hpe:(kB (cY A))[((i:Nat):Int).toNat]? = some (.bool (MS (cY A) i)):=by
  have hl:i<(cY A).length:=by rw[jL];exact hi
  rw[Va,vJ,VV hl];unfold MS;rw[VW,VV hl];rfl
 have hwc:∀x,Qc A p i a0 x->((p.length<=a0/\x=xA i 0)∨(a0<p.length/\(p.getD a0 0<0∨fK (aE A i)<=p.getD a0 0)/\x=xA (-1) 11)):=fun x hx=>hx
 obtain⟨F,hF⟩:∃F,F=a7 A p (f+1) i a0:=⟨_,rfl⟩
 rw[←hF] at hC hf0 ⊢;simp only[a7] at hF;have hp0:MS (cY A) i=AA (aX A) (cY A) (aE A i):=hpl;have hpN:AA (aX A) (cY A) (aE A i)=(decide (Go.Ax.d9 (aX A) (aE A i)<=0) && (decide ((aE A i).kind≠3) || decide ((aE A i).kids.length=0)) && (aE A i).kids.all fun k=>(cY A).getD k.toNat false):=rfl;rw[hpN,←hln] at hp0;have hlk0:(aE A i).kind=0->dR (aX A) i=0:=fun e=>by rw[hln];unfold Go.Ax.d9;rw[Vb e]
 generalize MS (cY A) i=pb at *;generalize dR (aX A) i=ln at *;generalize fK (aE A i)=o at *;clear hln hpl hpN hg hx;generalize aE A i=x at *;obtain⟨kind,name,lo,hi',ws,lbs,vals,kids,⟨vk,vn,vs,vks⟩⟩:=x;simp only at hkm hkI hbi hkl hF hfv hmd hkind hnum hsrt hk0 hon hp0 hlk0;refine CM bG func89 rfl ?_;refine Rq ?_;repeat((first|refine aD hne ?_|refine bR.2 ?_|refine aU ?_);refine Rq ?_)
 refine hCh.goP ?_ (.cons (gV A) (.cons nn .nil)) nn;refine Rq ?_;by_cases hl:ln=0
 ·subst hl;have hf0:=hf0 rfl;refine Rq ?_;cases s with
  | false=>
   generalize D4 (cS A) i=v at *;have hvn:=bN v;obtain⟨v1,v2,v3,v4⟩:=v;obtain⟨e1,e2,e3,e4⟩:=hf0;refine Rq ?_;refine hFi.goP ?_ (.cons (gV A) (.cons nn .nil)) hvn;refine Rq ?_;exact bJ (n':=6) (m':=rE A p false (a0+F.used) (L++[]) 5 []) [(0,0),(1,1),(2,2),(3,3),(4,5)] rfl (dN (rid:=4) rfl rfl rfl rfl rfl rfl (by rw[e2];rfl) rfl (by simp) rfl rfl rfl (by simp) trivial) (.same _ hvn) ⟨e3,by rw[e1];rfl,[],Wb _,(fun e=>by cases e),rfl,rfl⟩
  | true=>
   have hpe2:=hpe;cases pb with
   | true=>
    generalize D4 (cS A) i=v at *;have hvn:=bN v;obtain⟨v1,v2,v3,v4⟩:=v;obtain⟨e1,e2,e3,e4⟩:=hf0;refine Rq ?_;repeat((first|refine aD hpe ?_|refine bR.2 ?_|refine aU ?_);refine Rq ?_)
    refine hFi.goP ?_ (.cons (gV A) (.cons nn .nil)) hvn;refine Rq ?_;exact bJ (n':=6) (m':=rE A p true (a0+F.used) (L++[]) 5 []) [(0,0),(1,1),(2,2),(3,3),(4,5)] rfl (dN (rid:=4) rfl rfl rfl rfl rfl rfl (by rw[e2];rfl) rfl (by simp) rfl rfl rfl (by simp) trivial) (.same _ hvn) ⟨e3,by rw[e1];rfl,[],Wb _,(fun _=>(e4 rfl).symm),rfl,rfl⟩
   | false=>
    have k0:kind≠0:=fun e=>by
     rw[hk0 e,e] at hp0;simp at hp0
    refine Rq ?_;repeat((first|refine aD hpe ?_|refine bR.2 ?_|refine aU ?_);refine Rq ?_)
    by_cases k1:kind=1
    ·subst k1;rw[VY k0,VY om,VY om] at hF;rw[Vb rfl] at hon;have hn:=hnum rfl;refine Rq ?_;repeat((first|refine bR.2 ?_|refine aU ?_);refine Rq ?_)
     refine hch _ _ _ _ _ rfl rfl (fun c1 c2 c3=>?_) (fun x hx=>?_) rfl
     ·have hw:IntKind.i64.wrap (lo+p.getD a0 0)=lo+p.getD a0 0:=cV ⟨by have:=hn.1;omega,om⟩;rw[VY om,VY om,Vb rfl] at hF;generalize p.getD a0 0=c at *;refine Rq ?_;repeat((first|refine bR.2 ?_|refine aU ?_);refine Rq ?_)
      rw[hw];have hus:F.used=1:=by rw[hF]
      exact bJ (n':=6) (m':=rE A p true (a0+F.used) (L++[]) 5 []) [(0,0),(1,1),(2,2),(3,3),(4,5)] rfl (dN (rid:=4) rfl rfl rfl rfl rfl rfl (by rw[hus]) rfl (by simp) rfl rfl rfl (by simp) trivial) (.agg' (.s (.s (.s (.cons (.nil 4) .nil))))) ⟨by rw[hF],by rw[hF];rfl,[],Wb _,fun _=>by rw[hF],rfl,rfl⟩
     ·have hws:tC F x:=by
       rcases hwc x hx with⟨q1,q2⟩|⟨q1,q2,q3⟩
       ·rw[Vb q1] at hF;exact .inl ⟨i,by rw[hF],q2⟩
       ·rw[VY om,Vb q2] at hF;exact .inr ⟨by rw[hF],q3⟩
      refine Rq ?_;exact kI (rid:=4) hws rfl rfl rfl rfl rfl rfl rfl rfl rfl rfl
    ·rw[VY k1] at hon;rw[show (kind == 1)=false by simpa using k1];refine Rq ?_;by_cases k2:kind=2
     ·subst k2;rw[VY k0,VY om,VY om] at hF;refine Rq ?_;repeat((first|refine bR.2 ?_|refine aU ?_);refine Rq ?_)
      refine hch _ _ _ _ _ rfl rfl (fun c1 c2 c3=>?_) (fun x hx=>?_) rfl
      ·rw[VY om,VY om,VY k1] at hF;obtain⟨d1,d2,d3⟩:=hkI (p.getD a0 0) c2 om;generalize p.getD a0 0=c at *;generalize bA ⟨2,name,lo,hi',ws,lbs,vals,kids,.mk vk vn vs vks⟩ c=q1 at *;have e1:(aS kids)[c.toNat]? = some (.int .i64 (q1:Int)):=by rw[a8,d3];rfl
       have hC1:L.length+(a7 A p f q1 (a0+1)).spans.length<=4294967296:=by rw[hF] at hC;exact hC
       refine Rq ?_;repeat((first|refine aD e1 ?_|refine bR.2 ?_|refine aU ?_);refine Rq ?_)
       rw[Vi (show 0<=c by omega)];refine Rq ?_;repeat((first|refine aD e1 ?_|refine bR.2 ?_|refine aU ?_);refine Rq ?_)
       refine AY ih (L:=L) om om om hC1 4 rfl rfl rfl rfl rfl (fun _ _=>rfl) (fun f1 X hX hXs=>?_) (fun x hx a L'=>?_)
       ·generalize a7 A p f q1 (a0+1)=R1 at *;obtain⟨⟨u1,u2,u3,u4⟩,ru,rst,rsp⟩:=R1;simp only at hF f1 hX hXs ⊢;refine Rq ?_;repeat((first|refine aD e1 ?_|refine bR.2 ?_|refine aU ?_);refine Rq ?_)
        have hus:F.used=ru+1:=by rw[hF]
        have hss:F.spans=rsp:=by rw[hF]
        exact bJ (n':=6) (m':=rE A p true (a0+F.used) (L++X) 5 []) [(0,0),(1,1),(2,2),(3,3),(18,5)] rfl (dN (rid:=18) rfl rfl rfl rfl rfl rfl (by rw[hus];omega) rfl rfl rfl rfl rfl rfl trivial) (.same _ (.agg' (.cons nn (.cons nn (.cons nn (.cons (.il' (aO _)) .nil)))))) ⟨by rw[hF];exact f1,by rw[hF];rfl,X,by rw[hss];exact hX,fun e=>by rw[hss];first|exact hXs e|exact hXs trivial,rfl,rfl⟩
       ·have hws:tC F x:=by rw[hF];exact hx
        refine Rq ?_;exact kI (rid:=18) hws rfl rfl rfl rfl rfl rfl rfl rfl rfl rfl
      ·have hws:tC F x:=by
        rcases hwc x hx with⟨q1,q2⟩|⟨q1,q2,q3⟩
        ·rw[Vb q1] at hF;exact .inl ⟨i,by rw[hF],q2⟩
        ·rw[VY om,Vb q2] at hF;exact .inr ⟨by rw[hF],q3⟩
       refine Rq ?_;exact kI (rid:=4) hws rfl rfl rfl rfl rfl rfl rfl rfl rfl rfl
     ·rw[show (kind == 2)=false by simpa using k2];refine Rq ?_;by_cases k4:kind=4
      ·subst k4;rw[VY k0,VY om,Vb rfl] at hF;have hb4:=(hbi rfl).1;have hb5:=(hbi rfl).2.1;obtain⟨c1,c2,c3⟩:=hkI 0 om om;generalize hq0:bA ⟨4,name,lo,hi',ws,lbs,vals,kids,.mk vk vn vs vks⟩ 0=q0 at *;have e0:(aS kids)[(0:Int).toNat]? = some (.int .i64 (q0:Int)):=by rw[a8,c3];rfl
       have hme:=fun hs=>(hmem q0 a0 c1 hs).2 (hbi rfl).2.2.1
       rw[(hbi rfl).2.2.2] at hme;have hbd0:=hbd q0 a0 ha;have hC0:L.length+(a7 A p f q0 a0).spans.length<=4294967296:=by
        rw[hF] at hC;split at hC
        ·simp only[Vf] at hC;omega
        ·exact hC
       refine Rq ?_;repeat((first|refine aD e0 ?_|refine bR.2 ?_|refine aU ?_);refine Rq ?_)
       refine AY ih (L:=L) om om ha hC0 4 rfl rfl rfl rfl rfl (fun _ _=>rfl) (fun f1 X hX hXs=>?_) (fun x hx a L'=>?_)
       ·have hme:=hme f1;rw[Vb f1] at hF;generalize a7 A p f q0 a0=R0 at *;obtain⟨v,u,st,sp⟩:=R0;simp only at hF f1 hX hXs hme hbd0 ⊢;obtain⟨w,fq,w1,w2⟩:=lD hsrt hme;have hfv1:=hfv v;have hvn:=bN v;rw[fq] at hF hfv1;simp only at hF hfv1;obtain⟨d1,d2,d3⟩:=hkI ((w+1:Nat):Int) om om;generalize bA ⟨4,name,lo,hi',ws,lbs,vals,kids,.mk vk vn vs vks⟩ ((w+1:Nat):Int)=q1 at *;have e1:(aS kids)[((w+1:Nat):Int).toNat]? = some (.int .i64 (q1:Int)):=by rw[a8,d3];rfl
        have hC1:(L++X).length+(a7 A p f q1 (a0+u)).spans.length<=4294967296:=by
         rw[hF] at hC;simp only[Vf] at hC ⊢;omega
        obtain⟨v1,v2,v3,v4⟩:=v;refine Rq ?_;repeat((first|refine aD e0 ?_|refine bR.2 ?_|refine aU ?_);refine Rq ?_)
        refine hfv1.goP ?_ (.cons (.ip' hnn) (.cons hvn .nil)) nn;refine Rq ?_;repeat((first|refine aD e0 ?_|refine aD e1 ?_|refine bR.2 ?_|refine aU ?_);refine Rq ?_)
        refine AY ih (L:=L++X) om om hbd0 hC1 25 rfl rfl rfl rfl rfl (fun _ _=>rfl) (fun f2 Y hY hYs=>?_) (fun x hx a L'=>?_)
        ·have hwu:(u:Int)+0=u:=om;generalize a7 A p f q1 (a0+u)=R1 at *;obtain⟨⟨u1,u2,u3,u4⟩,ru,rst,rsp⟩:=R1;simp only at hF f2 hY hYs ⊢;refine Rq ?_;repeat((first|refine aD e0 ?_|refine aD e1 ?_|refine bR.2 ?_|refine aU ?_);refine Rq ?_)
         have hus:F.used=u+ru:=by rw[hF]
         have hss:F.spans=sp++rsp:=by rw[hF]
         exact bJ (n':=6) (m':=rE A p true (a0+F.used) (L++(X++Y)) 5 []) [(0,0),(1,1),(2,2),(3,3),(26,5)] rfl (dN (rid:=26) rfl rfl rfl rfl rfl rfl (by rw[hus];omega) rfl (by simp) rfl rfl rfl (by simp) trivial) (.same _ (.agg' (.cons nn (.cons nn (.cons nn (.cons (.il' (aO _)) .nil)))))) ⟨by rw[hF];exact f2,by rw[hF];rfl,X++Y,by rw[hss,Vf,Vf];omega,fun e=>by rw[hss];first|rw[hXs e,hYs e]|rw[hXs trivial,hYs trivial],rfl,rfl⟩
        ·have hws:tC F x:=by rw[hF];exact hx
         refine Rq ?_;exact kI (rid:=26) hws rfl rfl rfl rfl rfl rfl rfl rfl rfl rfl
       ·have hws:tC F x:=by
         rw[VY (show ¬(a7 A p f q0 a0).stop = -1 from fun e=>by
          rcases hx with⟨n,h1,-⟩|⟨h1,-⟩<;>omega)] at hF
         rw[hF];exact hx
        refine Rq ?_;exact kI (rid:=25) hws rfl rfl rfl rfl rfl rfl rfl rfl rfl rfl
      ·have k3:kind=3:=om;subst k3;rw[VY k0,Vb rfl] at hF;rw[show ((3:Int) == 4)=false by decide];have lkk:=aC kids;obtain⟨P,hP⟩:∃P:Nat->Pt,P=fun j=>bH (fun k q=>a7 A p f k q) a0 (kids.take j) ⟨0,[],[],-1⟩:=⟨_,rfl⟩
       have hP0:P 0=⟨0,[],[],-1⟩:=by rw[hP];rfl
       have hPe:bH (fun k q=>a7 A p f k q) a0 kids ⟨0,[],[],-1⟩=P kids.length:=by rw[hP];simp
       have hPn:∀j (hj:j<kids.length),(P j).stop = -1->P (j+1)=M2 (fun k q=>a7 A p f k q) a0 kids[j] (P j):=fun j hj hs=>by
        rw[hP] at hs ⊢;exact qD hj rfl hs
       have hPs:∀j (hj:j<kids.length),(P j).stop = -1->(P (j+1)).stop≠-1->P kids.length=P (j+1):=fun j hj hs hs2=>by
        rw[←hPe];rw[hP] at hs hs2 ⊢;exact xM hj rfl hs hs2
       have hPl:∀j (hj:j<kids.length),(P j).stop = -1->(P j).spans.length+1+(a7 A p f kids[j].toNat (a0+(P j).used)).spans.length<=F.spans.length:=fun j hj hs=>by
        rw[hF];simp only[Dy];rw[hP] at hs ⊢;exact DR (rd:=fun k q=>a7 A p f k q) hj rfl hs
       rw[hPe] at hF;have hFst:F.stop=(P kids.length).stop:=by rw[hF];rfl
       have hFus:F.used=(P kids.length).used:=by rw[hF];rfl
       have hFss:F.spans=(P kids.length).spans:=by rw[hF];rfl
       have hFv:(P kids.length).stop = -1->F.val=dP name (P kids.length).vals:=fun e=>by rw[hF];simp only[Dy];rw[Vb e]
       clear hPe hP hF hbi hfv hmem hnum;refine Rq ?_;refine bC.ph 38 4 ?_;refine bC.at bG (fun z:Nat × List Sp=>z.1<=kids.length/\(P z.1).stop = -1/\a0+(P z.1).used<=p.length/\(P z.1).vals.length=z.1/\z.2.length<=(P z.1).spans.length/\(true=true->z.2=(P z.1).spans))
        (fun z=>⟨[(6,.ptr 3 0 0),(7,.ptr 0 0 0),(8,.ptr 1 0 0),(10,.ptr 6 0 0),(11,.ip (bW ⟨3,name,lo,hi',ws,lbs,vals,kids,.mk vk vn vs vks⟩)),(12,.int .i64 a0),(13,.sl 7 0 (P z.1).vals.length),(90,.il 1 (aS kids)),(91,.int .i64 kids.length),(92,.int .i64 z.1)],
         rE A p true (a0+(P z.1).used) (L++z.2) 5 [(6,.row 38 4 [bS vZ]),(7,.row 38 4 (aQ (P z.1).vals))],8,124⟩)
        (fun z=>kids.length-z.1) (0,[]) [(0,0),(1,1),(2,2),(3,3),(4,5),(5,6),(6,7)] ⟨by simp only;omega,by rw[hP0],by rw[hP0];simp only;omega,by rw[hP0];rfl,by simp,by rw[hP0];intro _;rfl⟩
        (aG _ rfl (dN (rid:=4) rfl rfl rfl rfl rfl rfl (by rw[hP0];simp) rfl (by simp) rfl rfl rfl (by simp) ⟨⟨5,_,rfl,rfl,.cons (uV 0 0 []) .nil⟩,⟨6,_,rfl,rfl,by rw[hP0];exact .nil⟩,trivial⟩)
         ⟨aJ,aJ,aJ,aJ,aR (.ip' hnn),aF,⟨_,rfl,by rw[hP0];exact .nslk 6 7 _ rfl rfl⟩,aR (.il' (aM _)),⟨_,rfl,.int (by rw[lkk])⟩,aF,trivial⟩) ?_
       rintro⟨j,Y⟩ ⟨hj,hst,hus,hvl,hYl,hYs⟩;simp only at hj hst hus hvl hYl hYs ⊢;have dj:decide ((j:Int)<(kids.length:Int))=decide (j<kids.length):=WX.2 om;have ls:=rM (L++Y);have lv:=aB (P j).vals;by_cases hjl:j<kids.length
       ·have hnx:=hPn j hjl hst;have hend:=hPs j hjl hst;have hln:=hPl j hjl hst;have ek:=oQ hjl;obtain⟨m0,m1⟩:=hkm kids[j] (Vw hjl);generalize kids[j]=kz at *;obtain⟨k,rfl⟩:=Vk m0;simp only[Va] at m1 hnx hln;unfold M2 at hnx;simp only[Va] at hnx;have hb:=hbd k (a0+(P j).used) hus;generalize hpj:P j=pj at *;obtain⟨us,vls,sps,st⟩:=pj;simp only at hst hus hvl hnx hln hb ls lv hYl hYs ⊢;subst hst;have hC1:(L++Y++[(a0,a0+us,a0+us)]).length+(a7 A p f k (a0+us)).spans.length<=4294967296:=by
         simp only[Vf,WC];omega
        refine Rq ?_;rw[dj,Vi hjl];refine Rq ?_;repeat((first|refine aD ek ?_|refine bR.2 ?_|refine aU ?_);refine Rq ?_)
        refine aN (bV rfl rfl (by rw[ls]) (by simp;omega)) ?_;refine Rq ?_;have hse:gX (L++Y)++List.take 1 (List.drop 0 [AV.agg [.int .i64 (a0:Int),.int .i64 ((a0+us:Nat):Int),.int .i64 ((a0+us:Nat):Int)]])=gX (L++Y++[(a0,a0+us,a0+us)]):=by rw[kZ (L++Y)];rfl
        refine Kq ih (L:=L++Y++[(a0,a0+us,a0+us)]) om om hus hC1 9 rfl (dN (rid:=9) rfl rfl rfl rfl rfl rfl rfl rfl (by simp;omega) rfl rfl rfl hse trivial) rfl rfl (fun _ _=>rfl) (fun f1 X hX hXs=>?_) (fun x hx a L'=>?_)
        ·generalize a7 A p f k (a0+us)=R1 at *;obtain⟨⟨v1,v2,v3,v4⟩,ru,rst,rsp⟩:=R1;simp only at hnx f1 hX hXs hln hb ⊢;subst f1;refine Rq ?_;refine aN (bV rfl rfl (by rw[lv]) (by simp;omega)) ?_;refine Rq ?_;have gpl:Nat.blt (((L++Y).length:Nat):Int).toNat (L++Y++[(a0,a0+us,a0+us)]++X).length=true:=Vc (by simp only[Vf,WC,Va];omega);have epl:(gX (L++Y++[(a0,a0+us,a0+us)]++X))[0+(((L++Y).length:Nat):Int).toNat]? = some (.agg [.int .i64 (a0:Int),.int .i64 ((a0+us:Nat):Int),.int .i64 ((a0+us:Nat):Int)]):=by
          rw[V0,Va,EZ,Vp (by simp),Vx (Vh _),XH];rfl
         have hset:(gX (L++Y++[(a0,a0+us,a0+us)]++X)).set (0+(((L++Y).length:Nat):Int).toNat) (.agg [.int .i64 (a0:Int),.int .i64 ((a0+us:Nat):Int),.int .i64 ((a0+us+ru:Nat):Int)])=gX (L++(Y++(a0,a0+us,a0+us+ru)::X)):=by
          rw[V0,Va,kZ,kZ (L++Y),List.append_assoc,Wy _ _ (by rw[ls];exact Vh _),ls,XH,←List.append_assoc L,kZ (L++Y)];rfl
         repeat((first|refine aN gpl ?_|refine aD epl ?_|refine bR.2 ?_|refine aU ?_);refine Rq ?_)
         generalize hae:uG _ _ _ _ _=b;have hbf:b=false:=by rw[←hae];exact IN rfl epl rfl
         subst hbf;clear hae;refine Rq ?_;repeat((first|refine aN gpl ?_|refine aD epl ?_|refine bR.2 ?_|refine aU ?_);refine Rq ?_)
         have q1:(P (j+1)).used=us+ru:=by rw[hnx]
         have q2:(P (j+1)).spans=sps++(a0,a0+us,a0+us+ru)::rsp:=by rw[hnx]
         have q3:(P (j+1)).vals=vls++[.mk v1 v2 v3 v4]:=by rw[hnx]
         have q4:(P (j+1)).stop = -1:=by rw[hnx]
         exact .mk (j+1,Y++(a0,a0+us,a0+us+ru)::X) [(0,0),(1,1),(2,2),(3,3),(10,5),(6,6),(12,7)] ⟨by simp only;omega,q4,by simp only;rw[q1];omega,by simp only;rw[q3,Vf,WC];omega,by simp only;rw[q2];simp only[Vf,WB];omega,fun e=>by simp only;rw[q2];first|rw[hYs e,hXs e]|rw[hYs trivial,hXs trivial]⟩
          (aG _ rfl (dN (rid:=10) rfl rfl rfl rfl rfl rfl (by simp only;rw[q1];omega) rfl (by simp) rfl rfl rfl hset ⟨aL 6 (.cons (bN _) .nil),⟨12,_,rfl,rfl,.eq (aO _) (by simp only;rw[q3,fY];rfl)⟩,trivial⟩)
           ⟨aJ,aJ,aJ,aJ,aR (.ip' hnn),aF,⟨_,rfl,.slE rfl (by simp only;rw[q3];simp)⟩,aR (.il' (aM _)),aF,⟨_,rfl,.wp⟩,trivial⟩) (by simp only;omega)
        ·have hws:tC F x:=by
          have e:(P (j+1)).stop=(a7 A p f k (a0+us)).stop:=by rw[hnx]
          have hne:(P (j+1)).stop≠-1:=by
           rw[e];rcases hx with⟨n,h1,-⟩|⟨h1,-⟩<;>omega
          unfold tC;rw[hFst,hend hne,e];exact hx
         refine Rq ?_;exact kI (rid:=10) hws rfl rfl rfl rfl rfl rfl rfl rfl rfl rfl
       ·have hje:j=kids.length:=om;subst hje;have hFv:=hFv hst;have hm0:=hmd (P kids.length).vals;rw[←hFv] at hm0;have hvn:=bN F.val;have hFe:TQ A p true F a0 L=fun r m k=>r=bS F.val/\∃X:List Sp,X.length<=(P kids.length).spans.length/\(true=true->X=(P kids.length).spans)/\m=rE A p true (a0+(P kids.length).used) (L++X) 5 []/\k=6:=by
         unfold TQ;rw[hFst,hFus,hFss,hst]
         funext r m k
         simp
        rw[hFe];clear hFe hFv;generalize F.val=v at *;generalize P kids.length=pj at *;obtain⟨us,vls,sps,st⟩:=pj;simp only at hst hus hvl hYl hYs lv hm0 ⊢;obtain⟨v1,v2,v3,v4⟩:=v;refine Rq ?_;rw[dj,Vv hjl];refine Rq ?_;refine aH.toP ?_;refine aH.pre bG [(0,0),(1,1),(2,2),(3,3),(5,5),(6,6)] (mem':=rE A p true (a0+us) (L++Y) 5 [(6,.row 38 4 [bS vZ])]) rfl (dN (rid:=5) rfl rfl rfl rfl rfl rfl rfl rfl rfl rfl rfl rfl rfl ⟨aL 6 (.cons (bN _) .nil),trivial⟩)
         (.cons (.same _ (.ip' hnn)) (.cons (.fz' (id:=7) (off:=0) (len:=vls.length) (xs:=aQ vls) (ys:=aQ vls) rfl rfl om (by rw[V7,Vl om]) (aO _)) .nil)) ?_
        refine hm0.go ?_ (.cons (.ip' hnn) (.cons (.il' (aO _)) .nil)) hvn;refine Rq ?_;exact bJ (n':=6) (m':=rE A p true (a0+us) (L++Y) 5 []) [(0,0),(1,1),(2,2),(3,3),(5,5)] rfl (dN (rid:=5) rfl rfl rfl rfl rfl rfl rfl rfl rfl rfl rfl rfl rfl trivial) (.same _ hvn) ⟨rfl,Y,hYl,hYs,rfl,rfl⟩
 ·rw[show (ln == 0)=false by simpa using hl];refine Rq ?_;have k0:kind≠0:=fun e=>hl (hlk0 e)
  by_cases k1:kind=1
  ·subst k1;rw[VY k0,VY om,VY om] at hF;rw[Vb rfl] at hon;have hn:=hnum rfl;refine Rq ?_;repeat((first|refine bR.2 ?_|refine aU ?_);refine Rq ?_)
   refine hch _ _ _ _ _ rfl rfl (fun c1 c2 c3=>?_) (fun x hx=>?_) rfl
   ·have hw:IntKind.i64.wrap (lo+p.getD a0 0)=lo+p.getD a0 0:=cV ⟨by have:=hn.1;omega,om⟩;rw[VY om,VY om,Vb rfl] at hF;generalize p.getD a0 0=c at *;refine Rq ?_;repeat((first|refine bR.2 ?_|refine aU ?_);refine Rq ?_)
    rw[hw];have hus:F.used=1:=by rw[hF]
    exact bJ (n':=6) (m':=rE A p s (a0+F.used) (L++[]) 5 []) [(0,0),(1,1),(2,2),(3,3),(4,5)] rfl (dN (rid:=4) rfl rfl rfl rfl rfl rfl (by rw[hus]) rfl (by simp) rfl rfl rfl (by simp) trivial) (.agg' (.s (.s (.s (.cons (.nil 4) .nil))))) ⟨by rw[hF],by rw[hF];rfl,[],Wb _,fun _=>by rw[hF],rfl,rfl⟩
   ·have hws:tC F x:=by
     rcases hwc x hx with⟨q1,q2⟩|⟨q1,q2,q3⟩
     ·rw[Vb q1] at hF;exact .inl ⟨i,by rw[hF],q2⟩
     ·rw[VY om,Vb q2] at hF;exact .inr ⟨by rw[hF],q3⟩
    refine Rq ?_;exact kI (rid:=4) hws rfl rfl rfl rfl rfl rfl rfl rfl rfl rfl
  ·rw[VY k1] at hon;rw[show (kind == 1)=false by simpa using k1];refine Rq ?_;by_cases k2:kind=2
   ·subst k2;rw[VY k0,VY om,VY om] at hF;refine Rq ?_;repeat((first|refine bR.2 ?_|refine aU ?_);refine Rq ?_)
    refine hch _ _ _ _ _ rfl rfl (fun c1 c2 c3=>?_) (fun x hx=>?_) rfl
    ·rw[VY om,VY om,VY k1] at hF;obtain⟨d1,d2,d3⟩:=hkI (p.getD a0 0) c2 om;generalize p.getD a0 0=c at *;generalize bA ⟨2,name,lo,hi',ws,lbs,vals,kids,.mk vk vn vs vks⟩ c=q1 at *;have e1:(aS kids)[c.toNat]? = some (.int .i64 (q1:Int)):=by rw[a8,d3];rfl
     have hC1:L.length+(a7 A p f q1 (a0+1)).spans.length<=4294967296:=by rw[hF] at hC;exact hC
     refine Rq ?_;repeat((first|refine aD e1 ?_|refine bR.2 ?_|refine aU ?_);refine Rq ?_)
     rw[Vi (show 0<=c by omega)];refine Rq ?_;repeat((first|refine aD e1 ?_|refine bR.2 ?_|refine aU ?_);refine Rq ?_)
     refine AY ih (L:=L) om om om hC1 4 rfl rfl rfl rfl rfl (fun _ _=>rfl) (fun f1 X hX hXs=>?_) (fun x hx a L'=>?_)
     ·generalize a7 A p f q1 (a0+1)=R1 at *;obtain⟨⟨u1,u2,u3,u4⟩,ru,rst,rsp⟩:=R1;simp only at hF f1 hX hXs ⊢;refine Rq ?_;repeat((first|refine aD e1 ?_|refine bR.2 ?_|refine aU ?_);refine Rq ?_)
      have hus:F.used=ru+1:=by rw[hF]
      have hss:F.spans=rsp:=by rw[hF]
      exact bJ (n':=6) (m':=rE A p s (a0+F.used) (L++X) 5 []) [(0,0),(1,1),(2,2),(3,3),(18,5)] rfl (dN (rid:=18) rfl rfl rfl rfl rfl rfl (by rw[hus];omega) rfl rfl rfl rfl rfl rfl trivial) (.same _ (.agg' (.cons nn (.cons nn (.cons nn (.cons (.il' (aO _)) .nil)))))) ⟨by rw[hF];exact f1,by rw[hF];rfl,X,by rw[hss];exact hX,fun e=>by rw[hss];first|exact hXs e|exact hXs trivial,rfl,rfl⟩
     ·have hws:tC F x:=by rw[hF];exact hx
      refine Rq ?_;exact kI (rid:=18) hws rfl rfl rfl rfl rfl rfl rfl rfl rfl rfl
    ·have hws:tC F x:=by
      rcases hwc x hx with⟨q1,q2⟩|⟨q1,q2,q3⟩
      ·rw[Vb q1] at hF;exact .inl ⟨i,by rw[hF],q2⟩
      ·rw[VY om,Vb q2] at hF;exact .inr ⟨by rw[hF],q3⟩
     refine Rq ?_;exact kI (rid:=4) hws rfl rfl rfl rfl rfl rfl rfl rfl rfl rfl
   ·rw[show (kind == 2)=false by simpa using k2];refine Rq ?_;by_cases k4:kind=4
    ·subst k4;rw[VY k0,VY om,Vb rfl] at hF;have hb4:=(hbi rfl).1;have hb5:=(hbi rfl).2.1;obtain⟨c1,c2,c3⟩:=hkI 0 om om;generalize hq0:bA ⟨4,name,lo,hi',ws,lbs,vals,kids,.mk vk vn vs vks⟩ 0=q0 at *;have e0:(aS kids)[(0:Int).toNat]? = some (.int .i64 (q0:Int)):=by rw[a8,c3];rfl
     have hme:=fun hs=>(hmem q0 a0 c1 hs).2 (hbi rfl).2.2.1
     rw[(hbi rfl).2.2.2] at hme;have hbd0:=hbd q0 a0 ha;have hC0:L.length+(a7 A p f q0 a0).spans.length<=4294967296:=by
      rw[hF] at hC;split at hC
      ·simp only[Vf] at hC;omega
      ·exact hC
     refine Rq ?_;repeat((first|refine aD e0 ?_|refine bR.2 ?_|refine aU ?_);refine Rq ?_)
     refine AY ih (L:=L) om om ha hC0 4 rfl rfl rfl rfl rfl (fun _ _=>rfl) (fun f1 X hX hXs=>?_) (fun x hx a L'=>?_)
     ·have hme:=hme f1;rw[Vb f1] at hF;generalize a7 A p f q0 a0=R0 at *;obtain⟨v,u,st,sp⟩:=R0;simp only at hF f1 hX hXs hme hbd0 ⊢;obtain⟨w,fq,w1,w2⟩:=lD hsrt hme;have hfv1:=hfv v;have hvn:=bN v;rw[fq] at hF hfv1;simp only at hF hfv1;obtain⟨d1,d2,d3⟩:=hkI ((w+1:Nat):Int) om om;generalize bA ⟨4,name,lo,hi',ws,lbs,vals,kids,.mk vk vn vs vks⟩ ((w+1:Nat):Int)=q1 at *;have e1:(aS kids)[((w+1:Nat):Int).toNat]? = some (.int .i64 (q1:Int)):=by rw[a8,d3];rfl
      have hC1:(L++X).length+(a7 A p f q1 (a0+u)).spans.length<=4294967296:=by
       rw[hF] at hC;simp only[Vf] at hC ⊢;omega
      obtain⟨v1,v2,v3,v4⟩:=v;refine Rq ?_;repeat((first|refine aD e0 ?_|refine bR.2 ?_|refine aU ?_);refine Rq ?_)
      refine hfv1.goP ?_ (.cons (.ip' hnn) (.cons hvn .nil)) nn;refine Rq ?_;repeat((first|refine aD e0 ?_|refine aD e1 ?_|refine bR.2 ?_|refine aU ?_);refine Rq ?_)
      refine AY ih (L:=L++X) om om hbd0 hC1 25 rfl rfl rfl rfl rfl (fun _ _=>rfl) (fun f2 Y hY hYs=>?_) (fun x hx a L'=>?_)
      ·have hwu:(u:Int)+0=u:=om;generalize a7 A p f q1 (a0+u)=R1 at *;obtain⟨⟨u1,u2,u3,u4⟩,ru,rst,rsp⟩:=R1;simp only at hF f2 hY hYs ⊢;refine Rq ?_;repeat((first|refine aD e0 ?_|refine aD e1 ?_|refine bR.2 ?_|refine aU ?_);refine Rq ?_)
       have hus:F.used=u+ru:=by rw[hF]
       have hss:F.spans=sp++rsp:=by rw[hF]
       exact bJ (n':=6) (m':=rE A p s (a0+F.used) (L++(X++Y)) 5 []) [(0,0),(1,1),(2,2),(3,3),(26,5)] rfl (dN (rid:=26) rfl rfl rfl rfl rfl rfl (by rw[hus];omega) rfl (by simp) rfl rfl rfl (by simp) trivial) (.same _ (.agg' (.cons nn (.cons nn (.cons nn (.cons (.il' (aO _)) .nil)))))) ⟨by rw[hF];exact f2,by rw[hF];rfl,X++Y,by rw[hss,Vf,Vf];omega,fun e=>by rw[hss];first|rw[hXs e,hYs e]|rw[hXs trivial,hYs trivial],rfl,rfl⟩
      ·have hws:tC F x:=by rw[hF];exact hx
       refine Rq ?_;exact kI (rid:=26) hws rfl rfl rfl rfl rfl rfl rfl rfl rfl rfl
     ·have hws:tC F x:=by
       rw[VY (show ¬(a7 A p f q0 a0).stop = -1 from fun e=>by
        rcases hx with⟨n,h1,-⟩|⟨h1,-⟩<;>omega)] at hF
       rw[hF];exact hx
      refine Rq ?_;exact kI (rid:=25) hws rfl rfl rfl rfl rfl rfl rfl rfl rfl rfl
    ·have k3:kind=3:=om;subst k3;rw[VY k0,Vb rfl] at hF;rw[show ((3:Int) == 4)=false by decide];have lkk:=aC kids;obtain⟨P,hP⟩:∃P:Nat->Pt,P=fun j=>bH (fun k q=>a7 A p f k q) a0 (kids.take j) ⟨0,[],[],-1⟩:=⟨_,rfl⟩
     have hP0:P 0=⟨0,[],[],-1⟩:=by rw[hP];rfl
     have hPe:bH (fun k q=>a7 A p f k q) a0 kids ⟨0,[],[],-1⟩=P kids.length:=by rw[hP];simp
     have hPn:∀j (hj:j<kids.length),(P j).stop = -1->P (j+1)=M2 (fun k q=>a7 A p f k q) a0 kids[j] (P j):=fun j hj hs=>by
      rw[hP] at hs ⊢;exact qD hj rfl hs
     have hPs:∀j (hj:j<kids.length),(P j).stop = -1->(P (j+1)).stop≠-1->P kids.length=P (j+1):=fun j hj hs hs2=>by
      rw[←hPe];rw[hP] at hs hs2 ⊢;exact xM hj rfl hs hs2
     have hPl:∀j (hj:j<kids.length),(P j).stop = -1->(P j).spans.length+1+(a7 A p f kids[j].toNat (a0+(P j).used)).spans.length<=F.spans.length:=fun j hj hs=>by
      rw[hF];simp only[Dy];rw[hP] at hs ⊢;exact DR (rd:=fun k q=>a7 A p f k q) hj rfl hs
     rw[hPe] at hF;have hFst:F.stop=(P kids.length).stop:=by rw[hF];rfl
     have hFus:F.used=(P kids.length).used:=by rw[hF];rfl
     have hFss:F.spans=(P kids.length).spans:=by rw[hF];rfl
     have hFv:(P kids.length).stop = -1->F.val=dP name (P kids.length).vals:=fun e=>by rw[hF];simp only[Dy];rw[Vb e]
     clear hPe hP hF hbi hfv hmem hnum;refine Rq ?_;refine bC.ph 38 4 ?_;refine bC.at bG (fun z:Nat × List Sp=>z.1<=kids.length/\(P z.1).stop = -1/\a0+(P z.1).used<=p.length/\(P z.1).vals.length=z.1/\z.2.length<=(P z.1).spans.length/\(s=true->z.2=(P z.1).spans))
      (fun z=>⟨[(6,.ptr 3 0 0),(7,.ptr 0 0 0),(8,.ptr 1 0 0),(10,.ptr 6 0 0),(11,.ip (bW ⟨3,name,lo,hi',ws,lbs,vals,kids,.mk vk vn vs vks⟩)),(12,.int .i64 a0),(13,.sl 7 0 (P z.1).vals.length),(90,.il 1 (aS kids)),(91,.int .i64 kids.length),(92,.int .i64 z.1)],
       rE A p s (a0+(P z.1).used) (L++z.2) 5 [(6,.row 38 4 [bS vZ]),(7,.row 38 4 (aQ (P z.1).vals))],8,124⟩)
      (fun z=>kids.length-z.1) (0,[]) [(0,0),(1,1),(2,2),(3,3),(4,5),(5,6),(6,7)] ⟨by simp only;omega,by rw[hP0],by rw[hP0];simp only;omega,by rw[hP0];rfl,by simp,by rw[hP0];intro _;rfl⟩
      (aG _ rfl (dN (rid:=4) rfl rfl rfl rfl rfl rfl (by rw[hP0];simp) rfl (by simp) rfl rfl rfl (by simp) ⟨⟨5,_,rfl,rfl,.cons (uV 0 0 []) .nil⟩,⟨6,_,rfl,rfl,by rw[hP0];exact .nil⟩,trivial⟩)
       ⟨aJ,aJ,aJ,aJ,aR (.ip' hnn),aF,⟨_,rfl,by rw[hP0];exact .nslk 6 7 _ rfl rfl⟩,aR (.il' (aM _)),⟨_,rfl,.int (by rw[lkk])⟩,aF,trivial⟩) ?_
     rintro⟨j,Y⟩ ⟨hj,hst,hus,hvl,hYl,hYs⟩;simp only at hj hst hus hvl hYl hYs ⊢;have dj:decide ((j:Int)<(kids.length:Int))=decide (j<kids.length):=WX.2 om;have ls:=rM (L++Y);have lv:=aB (P j).vals;by_cases hjl:j<kids.length
     ·have hnx:=hPn j hjl hst;have hend:=hPs j hjl hst;have hln:=hPl j hjl hst;have ek:=oQ hjl;obtain⟨m0,m1⟩:=hkm kids[j] (Vw hjl);generalize kids[j]=kz at *;obtain⟨k,rfl⟩:=Vk m0;simp only[Va] at m1 hnx hln;unfold M2 at hnx;simp only[Va] at hnx;have hb:=hbd k (a0+(P j).used) hus;generalize hpj:P j=pj at *;obtain⟨us,vls,sps,st⟩:=pj;simp only at hst hus hvl hnx hln hb ls lv hYl hYs ⊢;subst hst;have hC1:(L++Y++[(a0,a0+us,a0+us)]).length+(a7 A p f k (a0+us)).spans.length<=4294967296:=by
       simp only[Vf,WC];omega
      refine Rq ?_;rw[dj,Vi hjl];refine Rq ?_;repeat((first|refine aD ek ?_|refine bR.2 ?_|refine aU ?_);refine Rq ?_)
      refine aN (bV rfl rfl (by rw[ls]) (by simp;omega)) ?_;refine Rq ?_;have hse:gX (L++Y)++List.take 1 (List.drop 0 [AV.agg [.int .i64 (a0:Int),.int .i64 ((a0+us:Nat):Int),.int .i64 ((a0+us:Nat):Int)]])=gX (L++Y++[(a0,a0+us,a0+us)]):=by rw[kZ (L++Y)];rfl
      refine Kq ih (L:=L++Y++[(a0,a0+us,a0+us)]) om om hus hC1 9 rfl (dN (rid:=9) rfl rfl rfl rfl rfl rfl rfl rfl (by simp;omega) rfl rfl rfl hse trivial) rfl rfl (fun _ _=>rfl) (fun f1 X hX hXs=>?_) (fun x hx a L'=>?_)
      ·generalize a7 A p f k (a0+us)=R1 at *;obtain⟨⟨v1,v2,v3,v4⟩,ru,rst,rsp⟩:=R1;simp only at hnx f1 hX hXs hln hb ⊢;subst f1;refine Rq ?_;refine aN (bV rfl rfl (by rw[lv]) (by simp;omega)) ?_;refine Rq ?_;have gpl:Nat.blt (((L++Y).length:Nat):Int).toNat (L++Y++[(a0,a0+us,a0+us)]++X).length=true:=Vc (by simp only[Vf,WC,Va];omega);have epl:(gX (L++Y++[(a0,a0+us,a0+us)]++X))[0+(((L++Y).length:Nat):Int).toNat]? = some (.agg [.int .i64 (a0:Int),.int .i64 ((a0+us:Nat):Int),.int .i64 ((a0+us:Nat):Int)]):=by
        rw[V0,Va,EZ,Vp (by simp),Vx (Vh _),XH];rfl
       have hset:(gX (L++Y++[(a0,a0+us,a0+us)]++X)).set (0+(((L++Y).length:Nat):Int).toNat) (.agg [.int .i64 (a0:Int),.int .i64 ((a0+us:Nat):Int),.int .i64 ((a0+us+ru:Nat):Int)])=gX (L++(Y++(a0,a0+us,a0+us+ru)::X)):=by
        rw[V0,Va,kZ,kZ (L++Y),List.append_assoc,Wy _ _ (by rw[ls];exact Vh _),ls,XH,←List.append_assoc L,kZ (L++Y)];rfl
       repeat((first|refine aN gpl ?_|refine aD epl ?_|refine bR.2 ?_|refine aU ?_);refine Rq ?_)
       generalize hae:uG _ _ _ _ _=b;have hbf:b=false:=by rw[←hae];exact IN rfl epl rfl
       subst hbf;clear hae;refine Rq ?_;repeat((first|refine aN gpl ?_|refine aD epl ?_|refine bR.2 ?_|refine aU ?_);refine Rq ?_)
       have q1:(P (j+1)).used=us+ru:=by rw[hnx]
       have q2:(P (j+1)).spans=sps++(a0,a0+us,a0+us+ru)::rsp:=by rw[hnx]
       have q3:(P (j+1)).vals=vls++[.mk v1 v2 v3 v4]:=by rw[hnx]
       have q4:(P (j+1)).stop = -1:=by rw[hnx]
       exact .mk (j+1,Y++(a0,a0+us,a0+us+ru)::X) [(0,0),(1,1),(2,2),(3,3),(10,5),(6,6),(12,7)] ⟨by simp only;omega,q4,by simp only;rw[q1];omega,by simp only;rw[q3,Vf,WC];omega,by simp only;rw[q2];simp only[Vf,WB];omega,fun e=>by simp only;rw[q2];first|rw[hYs e,hXs e]|rw[hYs trivial,hXs trivial]⟩
        (aG _ rfl (dN (rid:=10) rfl rfl rfl rfl rfl rfl (by simp only;rw[q1];omega) rfl (by simp) rfl rfl rfl hset ⟨aL 6 (.cons (bN _) .nil),⟨12,_,rfl,rfl,.eq (aO _) (by simp only;rw[q3,fY];rfl)⟩,trivial⟩)
         ⟨aJ,aJ,aJ,aJ,aR (.ip' hnn),aF,⟨_,rfl,.slE rfl (by simp only;rw[q3];simp)⟩,aR (.il' (aM _)),aF,⟨_,rfl,.wp⟩,trivial⟩) (by simp only;omega)
      ·have hws:tC F x:=by
        have e:(P (j+1)).stop=(a7 A p f k (a0+us)).stop:=by rw[hnx]
        have hne:(P (j+1)).stop≠-1:=by
         rw[e];rcases hx with⟨n,h1,-⟩|⟨h1,-⟩<;>omega
        unfold tC;rw[hFst,hend hne,e];exact hx
       refine Rq ?_;exact kI (rid:=10) hws rfl rfl rfl rfl rfl rfl rfl rfl rfl rfl
     ·have hje:j=kids.length:=om;subst hje;have hFv:=hFv hst;have hm0:=hmd (P kids.length).vals;rw[←hFv] at hm0;have hvn:=bN F.val;have hFe:TQ A p s F a0 L=fun r m k=>r=bS F.val/\∃X:List Sp,X.length<=(P kids.length).spans.length/\(s=true->X=(P kids.length).spans)/\m=rE A p s (a0+(P kids.length).used) (L++X) 5 []/\k=6:=by
       unfold TQ;rw[hFst,hFus,hFss,hst]
       funext r m k
       simp
      rw[hFe];clear hFe hFv;generalize F.val=v at *;generalize P kids.length=pj at *;obtain⟨us,vls,sps,st⟩:=pj;simp only at hst hus hvl hYl hYs lv hm0 ⊢;obtain⟨v1,v2,v3,v4⟩:=v;refine Rq ?_;rw[dj,Vv hjl];refine Rq ?_;refine aH.toP ?_;refine aH.pre bG [(0,0),(1,1),(2,2),(3,3),(5,5),(6,6)] (mem':=rE A p s (a0+us) (L++Y) 5 [(6,.row 38 4 [bS vZ])]) rfl (dN (rid:=5) rfl rfl rfl rfl rfl rfl rfl rfl rfl rfl rfl rfl rfl ⟨aL 6 (.cons (bN _) .nil),trivial⟩)
       (.cons (.same _ (.ip' hnn)) (.cons (.fz' (id:=7) (off:=0) (len:=vls.length) (xs:=aQ vls) (ys:=aQ vls) rfl rfl om (by rw[V7,Vl om]) (aO _)) .nil)) ?_
      refine hm0.go ?_ (.cons (.ip' hnn) (.cons (.il' (aO _)) .nil)) hvn;refine Rq ?_;exact bJ (n':=6) (m':=rE A p s (a0+us) (L++Y) 5 []) [(0,0),(1,1),(2,2),(3,3),(5,5)] rfl (dN (rid:=5) rfl rfl rfl rfl rfl rfl rfl rfl rfl rfl rfl rfl rfl trivial) (.same _ hvn) ⟨rfl,Y,hYl,hYs,rfl,rfl⟩
set_option maxHeartbeats 16000000
theorem QB{A:List Nd}(h:VT A)(raw:List Int)(hr:raw.length<=17592186043904)(f:Nat)(ih:QW A raw f):QW A raw (f+1):=by
 intro i q want hif hi hC;have hx:=bY hi;have hg:=h.node hx;have hkm:=fun(k:Int) (hk:k∈(aE A i).kids)=>dW h hx hk
 have hkI:=fun(c:Int) (h0:0<=c) (h1:c<(aE A i).kids.length)=>h.kidI hx h0 h1
 have hbi:=fun h4=>h.bind hx h4
 have hf0:=fun h0=>PH h raw (f:=f+1) (i:=i) (q:=q.length) hif hi h0
 have hle:=KU hi;have hfe:=KL hi;have hne:=pQ hi;have hch:=fun hk (mem:aP) (nx:Nat) (K:AV->aP->Nat->Prop)=>Ma h raw q hi hk om hr (mem:=mem) (nx:=nx) (K:=K)
 have hopt:=fun hk=>h.opt hx hk
 have hl0:=(h.lens0 (i:Int)).1;have hl1:=fun h0=>h.len0 hx h0
 have hln:=h.len hx;have hnn:=aV (aE A i);have hkl:=h.tin.klen _ (Ve hx);have hfv:=fun(v:a6)=>Qk (aE A i) v (by have:=h.tin.vlen _ (Ve hx);omega) hg.val hg.srt
 have hmd:=fun(ks:List a6)=>KO (aE A i) ks
 have hfok:=fun(k:Nat) (q:Nat) (hk:k<i)=>Rg h raw (f:=f) (i:=k) (q:=q) om om
 have hcb:=fun hk=>wC (raw:=raw) (q:=q.length) (h.opt hx hk)
 have hkind:=hg.node.kind;have hnum:=fun(e:(aE A i).kind=1)=>dD hg.node.num
 have hsrt:=hg.srt;refine aK bG func58 rfl ?_;refine Rr ?_;refine aD hle ?_;refine Rr ?_;refine aI (fun hb=>?_) (fun hb=>?_)
 ·have h0:dR (aX A) i=0:=by simpa using hb
  obtain⟨e1,e2⟩:=hf0 h0;have e3:Oj A raw q (f+1) i want=fun r m k=>∃v,r=bS v/\(want=true->v=D4 (cS A) i)/\m=kQ q 2 []/\k=3:=by
   unfold Oj;rw[e1,e2,Wg]
  rw[e3];have hvn:=bN (D4 (cS A) i);generalize D4 (cS A) i=v at *;obtain⟨v1,v2,v3,v4⟩:=v;refine Rr ?_;refine aD hfe ?_;refine Rr ?_;exact bJ (n':=3) (m':=kQ q 2 []) [(0,0),(1,2)] rfl (eA (rid:=1) rfl rfl rfl rfl rfl rfl trivial) (.same _ hvn) ⟨_,rfl,fun _=>rfl,rfl,rfl⟩
 ·have h0:¬dR (aX A) i=0:=by simpa using hb
  rw[hln] at h0;unfold Oj;obtain⟨F,hF⟩:∃F,F=dJ A raw (f+1) i q.length:=⟨_,rfl⟩
  rw[←hF] at hC ⊢;simp only[dJ] at hF;clear hf0 hfe hle hl1 hg hx;have hk0:(aE A i).kind≠0:=fun e=>h0 (by unfold Go.Ax.d9;rw[Vb e])
  rw[VY hk0] at hF;clear h0 hln;generalize aE A i=x at *;obtain⟨kind,name,lo,hi',ws,lbs,vals,kids,⟨vk,vn,vs,vks⟩⟩:=x;simp only at hkm hkI hbi hkl hF hfv hmd hkind hnum hsrt hk0 hch hcb;refine Rr ?_;refine aD hne ?_;refine Rr ?_;by_cases k1:kind=1
  ·subst k1;simp only[fK] at hcb;rw[VY om,VY om,Vb rfl] at hF;have hb1:=hcb (by simp);have hnm:=hnum rfl;simp only[if_true] at hb1;refine Rt ?_;refine hch (.inl rfl) _ _ _ 1 rfl rfl rfl rfl rfl (fun _=>rfl) ?_;generalize cR raw ⟨1,name,lo,hi',ws,lbs,vals,kids,.mk vk vn vs vks⟩ q.length=c at *;have hw:IntKind.i64.wrap (lo+c)=lo+c:=cV ⟨om,om⟩;rw[hF];refine Rt ?_;exact bJ (n':=3) (m':=kQ (q++[c]) 2 []) [(0,0),(13,2)] rfl (eA (rid:=13) rfl rfl rfl rfl rfl rfl trivial) (.agg' (.s (.cons (.int hw) (.s (.cons (.nil 4) .nil))))) ⟨.mk 0 (lo+c) [] [],rfl,fun _=>rfl,rfl,rfl⟩
  ·rw[show (kind == 1)=false by simpa using k1];refine Rr ?_;by_cases k2:kind=2
   ·subst k2;rw[VY om,VY om,VY om] at hF;have hb1:=hcb (by simp);simp only[fK] at hb1;rw[VY om] at hb1;refine Rt ?_;refine hch (.inr rfl) _ _ _ 1 rfl rfl rfl rfl rfl (fun _=>rfl) ?_;generalize cR raw ⟨2,name,lo,hi',ws,lbs,vals,kids,.mk vk vn vs vks⟩ q.length=c at *;obtain⟨d1,d2,d3⟩:=hkI c hb1.1 hb1.2;generalize bA ⟨2,name,lo,hi',ws,lbs,vals,kids,.mk vk vn vs vks⟩ c=k at *;have ek:(aS kids)[c.toNat]? = some (.int .i64 (k:Int)):=by rw[a8,d3];rfl
    have hql:(q++[c]).length=q.length+1:=by simp
    refine Rt ?_;repeat(refine aD ek ?_;refine Rt ?_)
    rw[Vi hb1.1];refine Rt ?_;repeat(refine aD ek ?_;refine Rt ?_)
    rw[←hql] at hF;have hC1:(q++[c]).length+(dJ A raw f k (q++[c]).length).cs.length<=4096:=by
     rw[hF] at hC;simp only[WB] at hC;omega
    refine zR ih (q:=q++[c]) om om hC1 17 rfl rfl rfl rfl rfl (fun _=>rfl) (fun v hv=>?_);have hvn:=bN v;rw[hF];simp only;generalize dJ A raw f k (q++[c]).length=G at *;obtain⟨v1,v2,v3,v4⟩:=v;refine Rt ?_;repeat(refine aD ek ?_;refine Rt ?_)
    exact bJ (n':=3) (m':=kQ (q++c::G.cs) 2 []) [(0,0),(18,2)] rfl (eA (rid:=18) rfl rfl rfl (by simp) rfl (by simp) trivial) (.same _ hvn) ⟨_,rfl,hv,rfl,rfl⟩
   ·have k3or:kind=3∨kind=4:=om;rw[show (kind == 2)=false by simpa using k2];refine Rr ?_;by_cases k4:kind=4
    ·subst k4;rw[VY om,Vb rfl] at hF;obtain⟨b1,b2,b3,b4⟩:=hbi rfl;obtain⟨c1,c2,c3⟩:=hkI 0 om om;have hok1:=(hfok _ q.length c1).2 b3;rw[b4] at hok1;obtain⟨w,fq,w1,w2⟩:=lD hsrt hok1;have hfv1:=hfv (dJ A raw f (bA ⟨4,name,lo,hi',ws,lbs,vals,kids,.mk vk vn vs vks⟩ 0) q.length).val;rw[fq] at hF hfv1;simp only at hF hfv1;obtain⟨d1,d2,d3⟩:=hkI ((w+1:Nat):Int) om om;have hC1:q.length+(dJ A raw f (bA ⟨4,name,lo,hi',ws,lbs,vals,kids,.mk vk vn vs vks⟩ 0) q.length).cs.length<=4096:=by
      rw[hF] at hC;simp only[Vf] at hC;omega
     generalize hk0':bA ⟨4,name,lo,hi',ws,lbs,vals,kids,.mk vk vn vs vks⟩ 0=k0 at *;generalize bA ⟨4,name,lo,hi',ws,lbs,vals,kids,.mk vk vn vs vks⟩ ((w+1:Nat):Int)=k1 at *;have e0:(aS kids)[(0:Int).toNat]? = some (.int .i64 (k0:Int)):=by rw[a8,c3];rfl
     have e1:(aS kids)[((w+1:Nat):Int).toNat]? = some (.int .i64 (k1:Int)):=by rw[a8,d3];rfl
     refine Rt ?_;repeat(refine aD e0 ?_;refine Rt ?_)
     refine zR ih om om hC1 1 rfl rfl rfl rfl rfl (fun _=>rfl) (fun v hv=>?_);have hv:=hv rfl;subst hv;have hvn:=bN (dJ A raw f k0 q.length).val;have hC2:(q++(dJ A raw f k0 q.length).cs).length+(dJ A raw f k1 (q++(dJ A raw f k0 q.length).cs).length).cs.length<=4096:=by
      rw[hF] at hC;simp only[Vf] at hC ⊢;omega
     have hql:(q++(dJ A raw f k0 q.length).cs).length=q.length+(dJ A raw f k0 q.length).cs.length:=by simp
     rw[←hql] at hF;generalize dJ A raw f k0 q.length=G at *;obtain⟨gcs,⟨v1,v2,v3,v4⟩⟩:=G;simp only at hF hC2 hfv1 hvn hql;refine Rt ?_;repeat(refine aD e0 ?_;refine Rt ?_)
     refine hfv1.go ?_ (.cons (.ip' hnn) (.cons hvn .nil)) nn;refine Rt ?_;repeat(refine aD e1 ?_;refine Rt ?_)
     refine zR ih (q:=q++gcs) om om hC2 3 rfl rfl rfl rfl rfl (fun _=>rfl) (fun v hv=>?_);have hvn2:=bN v;rw[hF];simp only;generalize dJ A raw f k1 (q++gcs).length=G at *;obtain⟨u1,u2,u3,u4⟩:=v;refine Rt ?_;repeat(refine aD e0 ?_;refine Rt ?_)
     exact bJ (n':=3) (m':=kQ (q++(gcs++G.cs)) 2 []) [(0,0),(19,2)] rfl (eA (rid:=19) rfl rfl rfl (by simp) rfl (by simp) trivial) (.same _ hvn2) ⟨_,rfl,hv,rfl,rfl⟩
    ·have k3:kind=3:=om;subst k3;rw[Vb rfl] at hF;rw[show ((3:Int) == 4)=false by decide];have lk:=aC kids;have hF1:F.cs=(dO (fun k q=>dJ A raw f k q) q.length kids ([],[])).1:=by rw[hF]
     have hF2:F.val=dP name (dO (fun k q=>dJ A raw f k q) q.length kids ([],[])).2:=by rw[hF]
     rw[hF1,hF2];rw[hF1] at hC;clear hF hF1 hF2 hbi hfok hfv hcb hnum;refine Rr ?_;refine bC.ph 38 4 ?_;cases want with
     | false=>
      refine bC.at bG (fun j:Nat=>j<=kids.length)
       (fun j=>⟨[(0,wk A),(2,.bool false),(3,Sj A raw),(8,.ptr 3 0 0),(9,.ip (bW ⟨3,name,lo,hi',ws,lbs,vals,kids,.mk vk vn vs vks⟩)),(11,.nsl),(96,.il 1 (aS kids)),(97,.int .i64 kids.length),(98,.int .i64 j)],
        kQ (q++(dO (fun k q=>dJ A raw f k q) q.length (kids.take j) ([],[])).1) 2 [(3,.row 38 4 [bS vZ])],4,116⟩)
       (fun j=>kids.length-j) 0 [(0,0),(1,2),(2,3)] om
       (aG _ rfl (eA (rid:=1) rfl rfl rfl (by simp[dO]) rfl (by simp[dO]) ⟨⟨2,_,rfl,rfl,.cons (uV 0 0 [] ) .nil⟩,trivial⟩)
        ⟨aR (gV A),aF,⟨_,rfl,Dj rfl⟩,aJ,aR (.ip' hnn),aF,aR (.il' (aM _)),⟨_,rfl,.int (by rw[lk])⟩,aF,trivial⟩) ?_
      intro j hj;have dj:decide ((j:Int)<(kids.length:Int))=decide (j<kids.length):=WX.2 om;by_cases hjl:j<kids.length
      ·have hnx:=yE (ft:=fun k q=>dJ A raw f k q) (q:=q.length) hjl ([],[]);have hln:=EP (ft:=fun k q=>dJ A raw f k q) (q:=q.length) hjl ([],[]);have ek:=oQ hjl;obtain⟨m0,m1⟩:=hkm kids[j] (Vw hjl);generalize kids[j]=kz at *;obtain⟨k,rfl⟩:=Vk m0;simp only[Va] at m1 hnx hln;generalize (dO (fun k q=>dJ A raw f k q) q.length (kids.take j) ([],[]))=S at *;obtain⟨cs,vs⟩:=S;simp only at hnx hln ⊢;have hql:(q++cs).length=q.length+cs.length:=by simp
       rw[←hql] at hln hnx;have hC1:(q++cs).length+(dJ A raw f k (q++cs).length).cs.length<=4096:=by
        simp only[Vf] at hln ⊢;omega
       refine Rr ?_;rw[dj,Vi hjl];refine Rt ?_;repeat(refine aD ek ?_;refine Rt ?_)
       refine zR ih (q:=q++cs) om om hC1 2 rfl rfl rfl rfl rfl (fun _=>rfl) (fun v hv=>?_);generalize dJ A raw f k (q++cs).length=G at *;have hvn:=bN v;obtain⟨v1,v2,v3,v4⟩:=v;refine Rr ?_;exact .mk (j+1) [(0,0),(4,2),(3,3)] om (aG _ rfl (eA (rid:=4) rfl rfl rfl (by rw[hnx];simp) rfl (by rw[hnx];simp) ⟨aL 3 (.cons (bN _) .nil),trivial⟩)
        ⟨aR (gV A),aF,⟨_,rfl,Dj rfl⟩,aJ,aR (.ip' hnn),aF,aR (.il' (aM _)),aF,⟨_,rfl,.w64 om ⟨om,om⟩⟩,trivial⟩) om
      ·have hje:j=kids.length:=om;subst hje;rw[Vr];have hm0:=hmd [];have hvn:=bN (dP name []);generalize dP name []=v at *;obtain⟨v1,v2,v3,v4⟩:=v;refine Rr ?_;rw[dj,Vv hjl];refine Rr ?_;refine hm0.useC bG (.cons (.same _ (.ip' hnn)) (.cons (.nil 4) .nil)) hvn ?_;refine Rr ?_;exact bJ (n':=3) (m':=kQ (q++(dO (fun k q=>dJ A raw f k q) q.length kids ([],[])).1) 2 []) [(0,0),(2,2)] rfl (eA (rid:=2) rfl rfl rfl rfl rfl rfl trivial) (.same _ hvn) ⟨.mk v1 v2 v3 v4,rfl,(fun e=>by cases e),rfl,rfl⟩
     | true=>
      refine bC.at bG (fun j:Nat=>j<=kids.length)
       (fun j=>⟨[(0,wk A),(2,.bool true),(3,Sj A raw),(8,.ptr 3 0 0),(9,.ip (bW ⟨3,name,lo,hi',ws,lbs,vals,kids,.mk vk vn vs vks⟩)),(11,.sl 4 0 (dO (fun k q=>dJ A raw f k q) q.length (kids.take j) ([],[])).2.length),(96,.il 1 (aS kids)),(97,.int .i64 kids.length),(98,.int .i64 j)],
        kQ (q++(dO (fun k q=>dJ A raw f k q) q.length (kids.take j) ([],[])).1) 2 [(3,.row 38 4 [bS vZ]),(4,.row 38 4 (aQ (dO (fun k q=>dJ A raw f k q) q.length (kids.take j) ([],[])).2))],5,116⟩)
       (fun j=>kids.length-j) 0 [(0,0),(1,2),(2,3),(3,4)] om
       (aG _ rfl (eA (rid:=1) rfl rfl rfl (by simp[dO]) rfl (by simp[dO]) ⟨⟨2,_,rfl,rfl,.cons (uV 0 0 [] ) .nil⟩,⟨3,_,rfl,rfl,.nil⟩,trivial⟩)
        ⟨aR (gV A),aF,⟨_,rfl,Dj rfl⟩,aJ,aR (.ip' hnn),⟨_,rfl,.nslk 3 4 _ rfl rfl⟩,aR (.il' (aM _)),⟨_,rfl,.int (by rw[lk])⟩,aF,trivial⟩) ?_
      intro j hj;have dj:decide ((j:Int)<(kids.length:Int))=decide (j<kids.length):=WX.2 om;have hvl:∀(l:List Int) (s:List Int × List a6),(dO (fun k q=>dJ A raw f k q) q.length l s).2.length=s.2.length+l.length:=by
       intro l
       induction l with
       | nil=>intro s;rfl
       | cons a l ih=>intro s;rw[dO,ih];simp;omega
      by_cases hjl:j<kids.length
      ·have hnx:=yE (ft:=fun k q=>dJ A raw f k q) (q:=q.length) hjl ([],[]);have hln:=EP (ft:=fun k q=>dJ A raw f k q) (q:=q.length) hjl ([],[]);have hvj:=hvl (kids.take j) ([],[]);have ek:=oQ hjl;obtain⟨m0,m1⟩:=hkm kids[j] (Vw hjl);generalize kids[j]=kz at *;obtain⟨k,rfl⟩:=Vk m0;simp only[Va] at m1 hnx hln;clear hvl;generalize (dO (fun k q=>dJ A raw f k q) q.length (kids.take j) ([],[]))=S at *;obtain⟨cs,us⟩:=S;simp only[WZ,V3] at hnx hln hvj ⊢;have hql:(q++cs).length=q.length+cs.length:=by simp
       rw[←hql] at hln hnx;have hC1:(q++cs).length+(dJ A raw f k (q++cs).length).cs.length<=4096:=by
        simp only[Vf] at hln ⊢;omega
       refine Rr ?_;rw[dj,Vi hjl];refine Rt ?_;repeat(refine aD ek ?_;refine Rt ?_)
       refine zR ih (q:=q++cs) om om hC1 2 rfl rfl rfl rfl rfl (fun _=>rfl) (fun v hv=>?_);have hv:=hv rfl;subst hv;generalize dJ A raw f k (q++cs).length=G at *;obtain⟨gcs,⟨v1,v2,v3,v4⟩⟩:=G;simp only at hnx;have lus:=aB us;refine Rr ?_;refine aN (bV rfl rfl (by rw[lus]) (by simp;omega)) ?_;refine Rr ?_;exact .mk (j+1) [(0,0),(5,2),(3,3),(8,4)] om (aG _ rfl (eA (rid:=5) rfl rfl rfl (by rw[hnx];simp) rfl (by rw[hnx];simp) ⟨aL 3 (.cons (bN _) .nil),⟨8,_,rfl,rfl,.eq (aO _) (by rw[hnx,fY];rfl)⟩,trivial⟩)
        ⟨aR (gV A),aF,⟨_,rfl,Dj rfl⟩,aJ,aR (.ip' hnn),⟨_,rfl,.slE rfl (by rw[hnx];simp)⟩,aR (.il' (aM _)),aF,⟨_,rfl,.w64 om ⟨om,om⟩⟩,trivial⟩) om
      ·have hje:j=kids.length:=om;subst hje;rw[Vr];generalize (dO (fun k q=>dJ A raw f k q) q.length kids ([],[]))=S at *;obtain⟨cs,us⟩:=S;simp only at hmd ⊢;have hm0:=hmd us;have hvn:=bN (dP name us);have lus:=aB us;generalize dP name us=v at *;obtain⟨v1,v2,v3,v4⟩:=v;refine Rr ?_;rw[dj,Vv hjl];refine Rr ?_;refine aH.pre bG [(0,0),(2,2),(3,3)] (mem':=kQ (q++cs) 2 [(3,.row 38 4 [bS vZ])]) rfl (eA (rid:=2) rfl rfl rfl rfl rfl rfl ⟨aL 3 (.cons (bN _) .nil),trivial⟩)
        (.cons (.same _ (.ip' hnn)) (.cons (.fz' (id:=4) (off:=0) (len:=us.length) (xs:=aQ us) (ys:=aQ us) rfl rfl om (by rw[V7,Vl om]) (aO _)) .nil)) ?_
       refine hm0.go ?_ (.cons (.ip' hnn) (.cons (.il' (aO _)) .nil)) hvn;refine Rr ?_;exact bJ (n':=3) (m':=kQ (q++cs) 2 []) [(0,0),(2,2)] rfl (eA (rid:=2) rfl rfl rfl rfl rfl rfl trivial) (.same _ hvn) ⟨.mk v1 v2 v3 v4,rfl,fun _=>rfl,rfl,rfl⟩
theorem DH{A:List Nd}(h:VT A)(raw:List Int)(hr:raw.length<=17592186043904):∀f,QW A raw f
 | 0=>fun i q want hif _ _=>om
 | f+1=>QB h raw hr f (DH h raw hr f)
theorem U0{A:List Nd}(h:VT A)(raw:List Int)(hr:raw.length<=17592186043904):bB prog [] 26 [wk A,.int .i64 ((A.length-1:Nat):Int),.il 1 (aS raw)] (.il 1 (aS (iV A raw))):=by
 have hp:=h.pos;have hlen:(iV A raw).length<=1024:=OK h raw;have hF:=DH h raw hr A.length (A.length-1) [] false om om (by
  show 0+(iV A raw).length<=4096
  omega)
 unfold Oj at hF;rw[show (dJ A raw A.length (A.length-1) ([]:List Int).length).cs=iV A raw from rfl,WG] at hF;generalize iV A raw=q at *;refine aK bG func26 rfl ?_;refine Rr ?_;refine aH.ph 3 1 ?_;refine aH.pre bG [(2,2),(3,3)] (args':=[wk A,.int .i64 ((A.length-1:Nat):Int),.bool false,.fn (.func 59) [] [.ptr 2 0 0,.ip (.il 1 (aS raw)),.ip (wk A)]])
  (mem':=[(2,.row 22 1 [.sl 3 0 0]),(3,.row 3 1 [])]) rfl ⟨⟨2,_,rfl,rfl,.cons (.one rfl rfl (.nslk 3 3 _ rfl rfl)) .nil⟩,⟨3,_,rfl,rfl,.nil⟩,trivial⟩
  (.cons (.same _ (gV A)) (.s (.s (.cons (.fn _ _ _ _ _ rfl rfl (by simp) (kU.cons (.ptr 2 2 0 0 rfl) (.cons (.fzp 1 0 0 22 1 _ _ _ rfl rfl rfl (Vh _) fun k c c' h1 h2=>by
    rw[V0] at h1;exact(kU.cons (.same _ (.il' (aM raw))) .nil).2 k c c' h1 h2) (.cons (.fzp 0 0 0 64 1 _ _ _ rfl rfl rfl (Vh _) fun k c c' h1 h2=>by
    rw[V0] at h1;exact(kU.cons (.same _ (gV A)) .nil).2 k c c' h1 h2) .nil))).2) .nil)))) ?_
 refine aH.useN bG [(2,0),(3,1)] hF rfl (.cons (.same _ (gV A)) (.s (.s (.cons (.fn _ _ _ _ _ rfl rfl (by simp) (kU.cons (.ptr 2 0 0 0 rfl) (.cons (.same _ (tS raw)) (.cons (.same _ (sK A)) .nil))).2) .nil)))) ⟨⟨2,_,rfl,rfl,.cons (.one rfl rfl (.slE rfl rfl)) .nil⟩,⟨3,_,rfl,rfl,.nil⟩,trivial⟩ rfl ?_;rintro r m k ⟨v,rfl,-,rfl,rfl⟩;refine⟨[(0,2),(2,4)],bS v,[(2,.row 22 1 [.sl 4 0 q.length]),(4,.row 3 1 (aS q))],5,.same _ (bN v),⟨⟨0,_,rfl,rfl,.cons (.one rfl rfl (.slE rfl rfl)) .nil⟩,aL 2 (aM _),trivial⟩,rfl, ?_⟩;refine Rr ?_;exact dK (rP (id:=4) rfl (aC q).symm rfl (aM q)) ⟨rfl,rfl,rfl⟩
end Go.Proofs.YtioogodkiglceaaGreatDoor
