/- A part of the proof. -/
import Derived.Test.YtpajadlnaokngaaGreatDoorAx14
set_option linter.unusedVariables false
set_option linter.unusedSimpArgs false
set_option linter.unusedSectionVars false
namespace Go.Proofs.YtpajadlnaokngaaGreatDoor
open Go Go.Ax Go.Proofs Tryz
set_option maxRecDepth 100000
set_option maxHeartbeats 8000000
theorem Pn(x:Nd)(ks:List aU):a7 prog [] 118 [.ip (bL x),.il 4 (aL ks)] (bV (dM x.name ks)):=by
 obtain⟨kind,name,lo,hi,ws,ls,vals,kids,⟨vk,vn,vs,vks⟩⟩:=x;refine aO bD func118 rfl ?_;unfold dM;refine Rr ?_;refine aE (fun h=>?_) (fun h=>?_)
 ·have h1:name=[]:=by simpa using h
  rw[Q3 h1];refine Rr ?_;exact aB nn ⟨rfl,rfl,rfl⟩
 ·have h1:¬name=[]:=by simpa using h
  rw[Qz h1];refine Rt ?_;exact aB nn ⟨rfl,rfl,rfl⟩
theorem OU(x:Nd)(hx:pL x)(hs:aV x.value<=1048576)(hv:∀v∈x.values,aV v<=1048576)(h0:x.kind=0->x.values=[]):a7 prog [] 39 [.ip (bL x)] (.int .i64 (cY (lJ x))):=by
 have hV:=Fo x.value hx.value hs;have hvv:=hx.valuesI;have hvl:=hx.values;obtain⟨kind,name,lo,hi,ws,ls,vals,kids,⟨vk,vn,vs,vks⟩⟩:=x;simp only at hV hv h0 hvv hvl;refine aO bD func39 rfl ?_;refine Rr ?_;refine aE (fun h=>?_) (fun h=>?_)
 ·have h1:kind=0:=by simpa using h
  subst h1;have e:cY (lJ ⟨0,name,lo,hi,ws,ls,vals,kids,.mk vk vn vs vks⟩)=dW (.mk vk vn vs vks):=by
   rw[h0 rfl];simp only[lJ,if_true,SP,cY];split
   ·rfl
   ·rename_i h;simpa using (Decidable.not_not.1 h).symm
  rw[e];generalize dW (.mk vk vn vs vks)=z at hV;refine Rr ?_;refine hV.go ?_;refine Rr ?_;exact aB nn ⟨rfl,rfl,rfl⟩
 ·have h1:¬kind=0:=by simpa using h
  have e:lJ ⟨kind,name,lo,hi,ws,ls,vals,kids,.mk vk vn vs vks⟩=vals:=by simp[lJ,h1]
  rw[e];refine Rr ?_;refine aZ.at bD (fun i:Nat=>i<=vals.length/\cY vals=cY (vals.drop i)) (fun i=>⟨[(19,.il 4 (aL vals)),(20,.int .i64 vals.length),(21,.int .i64 i)],[],0,31⟩) (fun i=>vals.length-i) 0 [] ⟨by simp,by simp⟩
   (bC ⟨a5 (.il' (aR _)),⟨_,rfl,.int (by rw[aA])⟩,aG,trivial⟩) ?_
  rintro i ⟨hi,hf⟩;refine Rr ?_;refine aE (fun h=>?_) (fun h=>?_)
  ·have hil:i<vals.length:=by simpa using h
   have ei:(aL vals)[((i:Nat):Int).toNat]? = some (bV vals[i]):=by simp[kI,Qq hil]
   have hm:=Ra hil;have hV2:=Fo vals[i] (hvv _ hm).1 (hv _ hm);rw[List.drop_eq_getElem_cons hil,cY] at hf;generalize vals[i]=y at ei hV2 hf;generalize dW y=z at hV2 hf;obtain⟨y1,y2,y3,y4⟩:=y;refine Rr ?_;refine aD ei ?_;refine Rr ?_;refine hV2.go ?_;refine Rr ?_;refine aE (fun h2=>?_) (fun h2=>?_)
   ·have e:z≠0:=by simpa using h2
    rw[Q3 e] at hf;rw[hf];refine Rr ?_;exact aB nn ⟨rfl,rfl,rfl⟩
   ·have e:¬z≠0:=by simpa using h2
    rw[Qz e] at hf;refine Rr ?_;exact .mk (i+1) [] ⟨om,hf⟩ (bC ⟨a5 (.il' (aR _)),aG,⟨_,rfl,.w64 om ⟨om,om⟩⟩,trivial⟩) om
  ·have hil:i=vals.length:=by simp at h;omega
   rw[hil,Sx,cY] at hf;rw[hf];refine Rr ?_;exact aB nn ⟨rfl,rfl,rfl⟩
theorem Ny(x:Nd)(hx:pL x):a7 prog [] 40 [.ip (bL x)] (.bool (cU x)):=by
 have b1:=hx.lo;have b2:=hx.hi;have b3:=hx.weights;clear hx;obtain⟨kind,name,lo,hi,ws,ls,vals,kids,⟨vk,vn,vs,vks⟩⟩:=x;simp only[i64] at b1 b2 b3;have hnum:cU ⟨kind,name,lo,hi,ws,ls,vals,kids,.mk vk vn vs vks⟩=(decide (lo<=hi) && decide (-4611686018427387904<=lo) && decide (hi<=4611686018427387904) && decide (hi<lo+1099511627776) && ws.all fun w=>decide (1<=w) && decide (w<=1000)):=rfl;generalize cU ⟨kind,name,lo,hi,ws,ls,vals,kids,.mk vk vn vs vks⟩=res at hnum;have hF:∀P:Prop,(res=true->P)->(¬P)->res=false:=fun P h1 h2=>by
  cases hr:res with
  | false=>rfl
  | true=>exact absurd (h1 hr) h2
 refine aO bD func40 rfl ?_;refine Rt ?_;by_cases h1:lo<=hi
 ·have d1:decide (lo>hi)=false:=by simp;omega
  rw[d1];refine Rt ?_;by_cases h2 : -4611686018427387904<=lo
  ·have d2:decide (lo < -4611686018427387904)=false:=by simp;omega
   rw[d2];refine Rt ?_;by_cases h3:hi<=4611686018427387904
   ·have d3:decide (hi>4611686018427387904)=false:=by simp;omega
    rw[d3];refine Rt ?_;have hw:IntKind.u64.wrap (IntKind.u64.wrap hi-IntKind.u64.wrap lo)=hi-lo:=by rw[oN,oN,oN];omega
    simp only[hw];by_cases h4:hi<lo+1099511627776
    ·have d4:decide (hi-lo≥1099511627776)=false:=by simp;omega
     rw[d4];refine Rr ?_;refine aZ.at bD (fun k:Nat=>k<=ws.length/\∀j w,j<k->ws[j]? = some w->1<=w/\w<=1000)
      (fun k=>⟨[(45,.il 1 (aW ws)),(46,.int .i64 ws.length),(47,.int .i64 k)],[],0,58⟩) (fun k=>ws.length-k) 0 [] ⟨by simp,by simp⟩
      (bC ⟨a5 (.il' (aT _)),⟨_,rfl,.int (by rw[aC])⟩,aG,trivial⟩) ?_
     rintro k ⟨hk,hall⟩;refine Rr ?_;refine aE (fun h=>?_) (fun h=>?_)
     ·have hlt:k<ws.length:=by simpa using h
      have e1:(aW ws)[(k:Int).toNat]? = some (.int .i64 ws[k]):=by rw[Q4,bK,Qq hlt];rfl
      have hg:ws[k]? = some ws[k]:=Qq hlt;generalize ws[k]=w at e1 hg;have hbad:(1<=w/\w<=1000->False)->res=false:=fun hb=>hF (1<=w/\w<=1000) (by
       intro e;rw[hnum] at e;simp only[Qt,R1,RL] at e;exact e.2 w (RC hg)) hb
      refine Rr ?_;refine aD e1 ?_;refine Rr ?_;by_cases g1:1<=w
      ·have d1:decide (w<1)=false:=by simp;omega
       rw[d1];refine Rr ?_;refine aE (fun h=>?_) (fun h=>?_)
       ·refine Rr ?_;refine aB nn ⟨?_,rfl,rfl⟩;rw[hbad (by simp at h;omega)]
       ·have g2:w<=1000:=by simpa using h
        refine Rr ?_;refine .mk (k+1) [] ⟨om,fun j w2 hj hw2=>?_⟩ (bC ⟨a5 (.il' (aT _)),aG,⟨_,rfl,.w64 om ⟨om,om⟩⟩,trivial⟩) om;rcases Q6 j k with hj'|hj'
        ·exact hall j w2 hj' hw2
        ·have hjk:j=k:=om;rw[hjk,hg] at hw2;cases hw2;exact⟨g1,g2⟩
      ·have d1:decide (w<1)=true:=by simp;omega
       rw[d1];refine Rr ?_;refine aB nn ⟨?_,rfl,rfl⟩;rw[hbad om]
     ·have hk':k=ws.length:=by simp at h;omega
      refine Rr ?_;refine aB nn ⟨?_,rfl,rfl⟩;rw[hnum];congr 1;symm;simp only[Qt,R1,RL];refine⟨⟨⟨⟨h1,h2⟩,h3⟩,h4⟩,fun w hw=>?_⟩;obtain⟨j,hj⟩:=RQ hw;exact hall j w (by rw[hk'];exact(Qv.1 hj).1) hj
    ·have d4:decide (hi-lo≥1099511627776)=true:=by simp;omega
     rw[d4];refine Rr ?_;refine aB nn ⟨?_,rfl,rfl⟩;rw[hF (hi<lo+1099511627776) (by intro e;rw[hnum] at e;simp at e;omega) h4]
   ·have d3:decide (hi>4611686018427387904)=true:=by simp;omega
    rw[d3];refine Rr ?_;refine aB nn ⟨?_,rfl,rfl⟩;rw[hF (hi<=4611686018427387904) (by intro e;rw[hnum] at e;simp at e;omega) h3]
  ·have d2:decide (lo < -4611686018427387904)=true:=by simp;omega
   rw[d2];refine Rr ?_;refine aB nn ⟨?_,rfl,rfl⟩;rw[hF (-4611686018427387904<=lo) (by intro e;rw[hnum] at e;simp at e;omega) h2]
 ·have d1:decide (lo>hi)=true:=by simp;omega
  rw[d1];refine Rr ?_;refine aB nn ⟨?_,rfl,rfl⟩;rw[hF (lo<=hi) (by intro e;rw[hnum] at e;simp at e;omega) h1]
theorem M4(bs:List Int)(x:Nd)(hx:pL x)(hkl:x.kids.length<=65536)(hb:∀y∈bs,0<=y/\y<=1024)(hk:∀(j:Nat) (k:Int),x.kids[j]? = some k->0<=k/\k<bs.length)(h4:4<=x.kind->0<x.kids.length)(hkind:0<=x.kind/\x.kind<=4) :
  a7 prog [] 85 [.ip (bL x),.il 1 (aW bs)] (.int .i64 (fX bs x)):=by
 have hxn:=aQ x;have hat:∀k:Int,0<=dY bs k/\dY bs k<=1024:=fun k=>by
  unfold dY;rw[Qx];cases h:bs[k.toNat]? with
  | none=>simp
  | some y=>exact hb y (RC h)
 have eat:∀k:Int,0<=k->k<bs.length->(aW bs)[k.toNat]? = some (.int .i64 (dY bs k)):=fun k h0 h1=>by
  have:k.toNat<bs.length:=om;rw[bK,Qq this];unfold dY;rw[Qx,Qq this];rfl
 have hs:=fun l=>gA (b:=bs) (M:=1024) om hb l
 have hm:=fun l=>hZ (b:=bs) (M:=1024) om hb l
 have hlen:fX bs x=if x.kind=0 then 0 else if x.kind=1 then 1 else if x.kind=3 then eT bs x.kids else if x.kind=2 then 1+bX bs (gF x) else dY bs (x.kids.getD 0 0)+bX bs (gF x):=rfl
 have hM:∀k:Nat,k<x.kids.length->(bX bs (if x.kind=2 then x.kids.take (k+1) else(x.kids.take (k+1)).drop 1))=if 0<k∨x.kind=2 then max (bX bs (if x.kind=2 then x.kids.take k else(x.kids.take k).drop 1)) (dY bs (x.kids.getD k 0)) else bX bs (if x.kind=2 then x.kids.take k else(x.kids.take k).drop 1):=fun k hk=>by
  have eg:x.kids.getD k 0=x.kids[k]:=by rw[Qx,Qq hk];rfl
  rw[eg];by_cases e2:x.kind=2
  ·rw[Q3 e2,Q3 (.inr e2),Q3 e2,nS hk]
  ·rw[Qz e2,Qz e2];by_cases e0:0<k
   ·rw[Q3 (.inl e0),lC hk e0]
   ·rw[Qz om];have:k=0:=om;subst this;simp[bX,So]
 obtain⟨kind,name,lo,hi,ws,ls,vals,kids,⟨vk,vn,vs,vks⟩⟩:=x;simp only at hkl hk h4 hkind hlen hM;generalize fX bs ⟨kind,name,lo,hi,ws,ls,vals,kids,.mk vk vn vs vks⟩=res at hlen;refine aO bD func85 rfl ?_;refine Rr ?_;refine aZ.at bD (fun p:Nat × Int × Int=>p.1<=kids.length/\p.2.1=eT bs (kids.take p.1)/\p.2.2=bX bs (if kind=2 then kids.take p.1 else(kids.take p.1).drop 1))
  (fun p=>⟨[(0,.ip (bL ⟨kind,name,lo,hi,ws,ls,vals,kids,.mk vk vn vs vks⟩)),(1,.il 1 (aW bs)),(5,.int .i64 p.2.1),(6,.int .i64 p.2.2),(12,.il 1 (aW kids)),(13,.int .i64 kids.length),(14,.int .i64 p.1)],[],0,67⟩)
  (fun p=>kids.length-p.1) (0,0,0) [] ⟨by simp,by simp[eT],by simp[bX]⟩
  (bC ⟨a5 (.ip _ (hxn.cells.get)),a5 (.il' (aT _)),aG,aG,a5 (.il' (aT _)),⟨_,rfl,.int (by rw[aC])⟩,aG,trivial⟩) ?_
 rintro⟨k,sum,most⟩ ⟨hkk,hsum,hmost⟩;simp only at hkk hsum hmost ⊢;have bsum:=hs (kids.take k);rw[←hsum] at bsum;have bm:=hm (if kind=2 then kids.take k else(kids.take k).drop 1);rw[←hmost] at bm;have btk:(kids.take k).length<=65536:=by simp;omega
 refine Rr ?_;refine aE (fun h=>?_) (fun h=>?_)
 ·have hlt:k<kids.length:=by simpa using h
  have e1:(aW kids)[(k:Int).toNat]? = some (.int .i64 kids[k]):=by rw[Q4,bK,Qq hlt];rfl
  obtain⟨q0,q1⟩:=hk k _ (Qq hlt);have hst:=sS (b:=bs) hlt;have hM:=hM k hlt;have eg:kids.getD k 0=kids[k]:=by rw[Qx,Qq hlt];rfl
  rw[←hsum] at hst;rw[eg,←hmost] at hM;generalize kids[k]=q at e1 q0 q1 hst hM;obtain⟨q,rfl⟩:=RB q0;have e2:=eat q q0 q1;have hq:=hat q;generalize dY bs q=z at e2 hq hst hM;have hw:IntKind.i64.wrap (sum+z)=sum+z:=fH ⟨om,om⟩;refine Rr ?_;repeat((first|refine aD e1 ?_|refine aD e2 ?_);refine Rr ?_)
  by_cases k0:0<k
  ·have d0:decide ((k:Int)>0)=true:=by simp;omega
   rw[d0];refine Rr ?_;repeat((first|refine aD e1 ?_|refine aD e2 ?_);refine Rr ?_)
   exact .mk (k+1,sum+z,max most z) [] ⟨by simp only;omega,by simp only;rw[hst],by simp only;rw[hM,Q3 (.inl k0)]⟩ (bC ⟨a5 (.ip _ (hxn.cells.get)),a5 (.il' (aT _)),⟨_,rfl,.int (by simp only;exact hw)⟩,⟨_,rfl,.int (by simp only;split<;>omega)⟩,a5 (.il' (aT _)),aG,⟨_,rfl,.wp⟩,trivial⟩) (by simp only;omega)
  ·have k0':k=0:=om;have d0:decide ((k:Int)>0)=false:=by simp;omega
   rw[d0];refine Rr ?_;by_cases k2:kind=2
   ·subst k2;refine Rr ?_;repeat((first|refine aD e1 ?_|refine aD e2 ?_);refine Rr ?_)
    exact .mk (k+1,sum+z,max most z) [] ⟨by simp only;omega,by simp only;rw[hst],by show max most z=bX bs (if (2:Int)=2 then kids.take (k+1) else(kids.take (k+1)).drop 1);rw[hM,Q3 (.inr rfl)]⟩ (bC ⟨a5 (.ip _ (hxn.cells.get)),a5 (.il' (aT _)),⟨_,rfl,.int (by simp only;exact hw)⟩,⟨_,rfl,.int (by simp only;split<;>omega)⟩,a5 (.il' (aT _)),aG,⟨_,rfl,.wp⟩,trivial⟩) (by simp only;omega)
   ·have d2:(kind == 2)=false:=by simpa using k2
    rw[d2];refine Rr ?_;exact .mk (k+1,sum+z,most) [] ⟨by simp only;omega,by simp only;rw[hst],by simp only;rw[hM,Qz om]⟩ (bC ⟨a5 (.ip _ (hxn.cells.get)),a5 (.il' (aT _)),⟨_,rfl,.int (by simp only;exact hw)⟩,aG,a5 (.il' (aT _)),aG,⟨_,rfl,.wp⟩,trivial⟩) (by simp only;omega)
 ·have hk':k=kids.length:=by simp at h;omega
  subst hk';rw[RG] at hsum hmost;have har:gF ⟨kind,name,lo,hi,ws,ls,vals,kids,.mk vk vn vs vks⟩=if kind=2 then kids else kids.drop 1:=rfl
  rw[har,←hmost,←hsum] at hlen;rcases(show kind=0∨kind=1∨kind=2∨kind=3∨kind=4 by omega) with rfl|rfl|rfl|rfl|rfl
  ·rw[hlen,Q3 rfl];refine Rr ?_;exact aB nn ⟨rfl,rfl,rfl⟩
  ·rw[hlen,Qz (by decide),Q3 rfl];refine Rr ?_;exact aB nn ⟨rfl,rfl,rfl⟩
  ·rw[hlen,Qz (by decide),Qz (by decide),Qz (by decide),Q3 rfl];refine Rr ?_;rw[fH (n:=1+most) ⟨om,om⟩];exact aB nn ⟨rfl,rfl,rfl⟩
  ·rw[hlen,Qz (by decide),Qz (by decide),Q3 rfl];refine Rr ?_;exact aB nn ⟨rfl,rfl,rfl⟩
  ·rw[hlen,Qz (by decide),Qz (by decide),Qz (by decide),Qz (by decide)];have hlt:0<kids.length:=h4 om;have e1:(aW kids)[(0:Int).toNat]? = some (.int .i64 kids[0]):=by rw[show (0:Int).toNat=0 from rfl,bK,Qq hlt];rfl
   obtain⟨q0,q1⟩:=hk 0 _ (Qq hlt);have eg:kids.getD 0 0=kids[0]:=by rw[Qx,Qq hlt];rfl
   rw[eg];generalize kids[0]=q at e1 q0 q1;obtain⟨q,rfl⟩:=RB q0;have e2:=eat q q0 q1;have hq:=hat q;generalize dY bs q=z at e2 hq;refine Rr ?_;repeat((first|refine aD e1 ?_|refine aD e2 ?_);refine Rr ?_)
   rw[fH (n:=z+most) ⟨om,om⟩];exact aB nn ⟨rfl,rfl,rfl⟩
set_option maxHeartbeats 8000000
mutual
theorem G4:∀(a b:aU),bS a b=0->a=b
 | .mk k n s ks,.mk k' n' s' ks',h=>by
  simp only[bS,andThen] at h;split at h
  ·rename_i h1;split at h
   ·rename_i h2;split at h
    ·rename_i h3;have e1:k=k':=Decidable.byContradiction fun e=>rH e h1
     have e2:n=n':=Decidable.byContradiction fun e=>rH e h2
     rw[e1,e2,kH h3,Hr ks ks' h]
    ·rename_i h3;exact absurd h h3
   ·rename_i h2;exact absurd h h2
  ·rename_i h1;exact absurd h h1
theorem Hr:∀(l m:List aU),dU l m=0->l=m
 | [],[],_=>rfl
 | [],_::_,h=>by simp[dU] at h
 | _::_,[],h=>by simp[dU] at h
 | a::l,b::m,h=>by
  simp only[dU,andThen] at h;split at h
  ·rename_i h1;rw[G4 a b h1,Hr l m h]
  ·rename_i h1;exact absurd h h1
end
def nN(x:Nd):Bool:=decide (0<=x.kind) && decide (x.kind<=4) && gQ x
theorem y5{v:aU}:lL [] [] [bV v,.agg [.int .i64 0,.int .i64 0,.str [],.nsl]] [bV v,bV (.mk 0 0 [] [])]:=
 .cons (.same _ (dS v)) (.cons (.agg' (.s (.s (.s (.cons (.nil 4) .nil))))) .nil)
theorem OY(x:Nd)(hx:pL x):a7 prog [] 37 [.ip (bL x)] (.bool (nN x)):=by
 have hC:=pZ x.value (.mk 0 0 [] []) hx.value;have hz:(bS x.value (.mk 0 0 [] []) == 0)=A2 x.value:=by
  obtain⟨k,n,s,ks⟩:=x.value;rw[RT];simp only[A2,Qt,RL,beq_iff_eq];constructor
  ·intro h;have:=G4 _ _ h;cases this;simp
  ·rintro⟨⟨⟨rfl,rfl⟩,rfl⟩,h⟩;have:ks=[]:=Ru.1 h;subst this;exact(kN _).refl
 have hres:nN x=(decide (0<=x.kind) && decide (x.kind<=4) && ((decide (x.kind=0) || A2 x.value) && (decide (x.kind=1) || (decide (x.lo=0) && decide (x.hi=0))) && (decide (x.kind=3) || decide (x.name=[])) &&
  (decide (x.kind=2) || (decide (x.weights.length=0) && decide (x.labels.length=0))) && (decide (x.kind=4) || decide (x.values.length=0)) && ((decide (x.kind≠0) && decide (x.kind≠1)) || decide (x.kids.length=0)))):=rfl
 generalize nN x=res at hres;rw[←hz] at hres;obtain⟨c,hc⟩:∃c,c=bS x.value (.mk 0 0 [] []):=⟨_,rfl⟩
 rw[←hc] at hC hres;clear hz hc hx;obtain⟨kind,name,lo,hi,ws,ls,vals,kids,⟨vk,vn,vs,vks⟩⟩:=x;simp only at hres hC;have eW:(((aW ws).length:Int) == 0)=decide (ws.length=0):=by rw[aC,RT];simp
 have eL:(((Ae ls).length:Int) == 0)=decide (ls.length=0):=by rw[a8,RT];simp
 have eV:(((aL vals).length:Int) == 0)=decide (vals.length=0):=by rw[aA,RT];simp
 have eK:(((aW kids).length:Int) == 0)=decide (kids.length=0):=by rw[aC,RT];simp
 have eN:(name == [])=decide (name=[]):=by rw[RT];simp
 have e1:(lo == 0)=decide (lo=0):=by rw[RT];simp
 have e2:(hi == 0)=decide (hi=0):=by rw[RT];simp
 refine aO bD func37 rfl ?_;rcases(show kind=0∨kind=1∨kind=2∨kind=3∨kind=4∨(kind<0∨4<kind) by omega) with rfl|rfl|rfl|rfl|rfl|hk
 ·refine Rr ?_;rw[e1];generalize decide (lo=0)=b1 at hres ⊢;cases b1 with
  | false=>
   refine Rr ?_;exact aB nn ⟨by rw[hres];simp,rfl,rfl⟩
  | true=>
  refine Rr ?_;rw[e2];generalize decide (hi=0)=b2 at hres ⊢;cases b2 with
  | false=>
   refine Rr ?_;exact aB nn ⟨by rw[hres];simp,rfl,rfl⟩
  | true=>
  refine Rr ?_;rw[eW];generalize decide (ws.length=0)=b3 at hres ⊢;cases b3 with
  | false=>
   refine Rr ?_;exact aB nn ⟨by rw[hres];simp,rfl,rfl⟩
  | true=>
  refine Rr ?_;rw[eL];generalize decide (ls.length=0)=b4 at hres ⊢;cases b4 with
  | false=>
   refine Rr ?_;exact aB nn ⟨by rw[hres];simp,rfl,rfl⟩
  | true=>
  refine Rr ?_;rw[eN];generalize decide (name=[])=b5 at hres ⊢;cases b5 with
  | false=>
   refine Rr ?_;exact aB nn ⟨by rw[hres];simp,rfl,rfl⟩
  | true=>
  refine Rr ?_;rw[eV];generalize decide (vals.length=0)=b6 at hres ⊢;cases b6 with
  | false=>
   refine Rr ?_;exact aB nn ⟨by rw[hres];simp,rfl,rfl⟩
  | true=>
  refine Rr ?_;rw[eK];generalize decide (kids.length=0)=b7 at hres ⊢;cases b7 with
  | false=>
   refine Rr ?_;exact aB nn ⟨by rw[hres];simp,rfl,rfl⟩
  | true=>
  refine Rr ?_;exact aB nn ⟨by rw[hres];simp,rfl,rfl⟩
 ·refine Rr ?_;refine hC.useC bD y5 nn ?_;refine Rr ?_;generalize (c == 0)=b1 at hres ⊢;cases b1 with
  | false=>
   refine Rr ?_;exact aB nn ⟨by rw[hres];simp,rfl,rfl⟩
  | true=>
  refine Rr ?_;rw[eW];generalize decide (ws.length=0)=b2 at hres ⊢;cases b2 with
  | false=>
   refine Rr ?_;exact aB nn ⟨by rw[hres];simp,rfl,rfl⟩
  | true=>
  refine Rr ?_;rw[eL];generalize decide (ls.length=0)=b3 at hres ⊢;cases b3 with
  | false=>
   refine Rr ?_;exact aB nn ⟨by rw[hres];simp,rfl,rfl⟩
  | true=>
  refine Rr ?_;rw[eN];generalize decide (name=[])=b4 at hres ⊢;cases b4 with
  | false=>
   refine Rr ?_;exact aB nn ⟨by rw[hres];simp,rfl,rfl⟩
  | true=>
  refine Rr ?_;rw[eV];generalize decide (vals.length=0)=b5 at hres ⊢;cases b5 with
  | false=>
   refine Rr ?_;exact aB nn ⟨by rw[hres];simp,rfl,rfl⟩
  | true=>
  refine Rr ?_;rw[eK];generalize decide (kids.length=0)=b6 at hres ⊢;cases b6 with
  | false=>
   refine Rr ?_;exact aB nn ⟨by rw[hres];simp,rfl,rfl⟩
  | true=>
  refine Rr ?_;exact aB nn ⟨by rw[hres];simp,rfl,rfl⟩
 ·refine Rr ?_;refine hC.useC bD y5 nn ?_;refine Rr ?_;generalize (c == 0)=b1 at hres ⊢;cases b1 with
  | false=>
   refine Rr ?_;exact aB nn ⟨by rw[hres];simp,rfl,rfl⟩
  | true=>
  refine Rr ?_;rw[e1];generalize decide (lo=0)=b2 at hres ⊢;cases b2 with
  | false=>
   refine Rr ?_;exact aB nn ⟨by rw[hres];simp,rfl,rfl⟩
  | true=>
  refine Rr ?_;rw[e2];generalize decide (hi=0)=b3 at hres ⊢;cases b3 with
  | false=>
   refine Rr ?_;exact aB nn ⟨by rw[hres];simp,rfl,rfl⟩
  | true=>
  refine Rr ?_;rw[eN];generalize decide (name=[])=b4 at hres ⊢;cases b4 with
  | false=>
   refine Rr ?_;exact aB nn ⟨by rw[hres];simp,rfl,rfl⟩
  | true=>
  refine Rr ?_;rw[eV];generalize decide (vals.length=0)=b5 at hres ⊢;cases b5 with
  | false=>
   refine Rr ?_;exact aB nn ⟨by rw[hres];simp,rfl,rfl⟩
  | true=>
  refine Rr ?_;exact aB nn ⟨by rw[hres];simp,rfl,rfl⟩
 ·refine Rr ?_;refine hC.useC bD y5 nn ?_;refine Rr ?_;generalize (c == 0)=b1 at hres ⊢;cases b1 with
  | false=>
   refine Rr ?_;exact aB nn ⟨by rw[hres];simp,rfl,rfl⟩
  | true=>
  refine Rr ?_;rw[e1];generalize decide (lo=0)=b2 at hres ⊢;cases b2 with
  | false=>
   refine Rr ?_;exact aB nn ⟨by rw[hres];simp,rfl,rfl⟩
  | true=>
  refine Rr ?_;rw[e2];generalize decide (hi=0)=b3 at hres ⊢;cases b3 with
  | false=>
   refine Rr ?_;exact aB nn ⟨by rw[hres];simp,rfl,rfl⟩
  | true=>
  refine Rr ?_;rw[eW];generalize decide (ws.length=0)=b4 at hres ⊢;cases b4 with
  | false=>
   refine Rr ?_;exact aB nn ⟨by rw[hres];simp,rfl,rfl⟩
  | true=>
  refine Rr ?_;rw[eL];generalize decide (ls.length=0)=b5 at hres ⊢;cases b5 with
  | false=>
   refine Rr ?_;exact aB nn ⟨by rw[hres];simp,rfl,rfl⟩
  | true=>
  refine Rr ?_;rw[eV];generalize decide (vals.length=0)=b6 at hres ⊢;cases b6 with
  | false=>
   refine Rr ?_;exact aB nn ⟨by rw[hres];simp,rfl,rfl⟩
  | true=>
  refine Rr ?_;exact aB nn ⟨by rw[hres];simp,rfl,rfl⟩
 ·refine Rr ?_;refine hC.useC bD y5 nn ?_;refine Rr ?_;generalize (c == 0)=b1 at hres ⊢;cases b1 with
  | false=>
   refine Rr ?_;exact aB nn ⟨by rw[hres];simp,rfl,rfl⟩
  | true=>
  refine Rr ?_;rw[e1];generalize decide (lo=0)=b2 at hres ⊢;cases b2 with
  | false=>
   refine Rr ?_;exact aB nn ⟨by rw[hres];simp,rfl,rfl⟩
  | true=>
  refine Rr ?_;rw[e2];generalize decide (hi=0)=b3 at hres ⊢;cases b3 with
  | false=>
   refine Rr ?_;exact aB nn ⟨by rw[hres];simp,rfl,rfl⟩
  | true=>
  refine Rr ?_;rw[eW];generalize decide (ws.length=0)=b4 at hres ⊢;cases b4 with
  | false=>
   refine Rr ?_;exact aB nn ⟨by rw[hres];simp,rfl,rfl⟩
  | true=>
  refine Rr ?_;rw[eL];generalize decide (ls.length=0)=b5 at hres ⊢;cases b5 with
  | false=>
   refine Rr ?_;exact aB nn ⟨by rw[hres];simp,rfl,rfl⟩
  | true=>
  refine Rr ?_;rw[eN];generalize decide (name=[])=b6 at hres ⊢;cases b6 with
  | false=>
   refine Rr ?_;exact aB nn ⟨by rw[hres];simp,rfl,rfl⟩
  | true=>
  refine Rr ?_;exact aB nn ⟨by rw[hres];simp,rfl,rfl⟩
 ·rcases hk with hk|hk
  ·have d0:decide (kind≥0)=false:=by simp;omega
   refine Rr ?_;rw[d0];refine Rr ?_;exact aB nn ⟨by rw[hres,Rd (show ¬0<=kind by omega)];simp,rfl,rfl⟩
  ·have d0:decide (kind≥0)=true:=by simp;omega
   have d1:decide (kind<=4)=false:=by simp;omega
   refine Rr ?_;rw[d0];refine Rr ?_;rw[d1];refine Rr ?_;exact aB nn ⟨by rw[hres,d1];simp,rfl,rfl⟩
set_option maxHeartbeats 8000000
theorem MK(ns:List Nd)(i:Nat)(x:Nd)(hl:ns.length<=4294967296)(hi:ns[i]? = some x)(hx:pL x)(hvl:x.values.length<=1000000)(hc:nN x=true) :
  a7 prog [] 38 [.ip (.agg [.il 12 (aY ns),.junk,.junk,.junk]),.int .i64 i] (.bool (cG i x)):=by
 have hil:=(Qv.1 hi).1;have ex:(aY ns)[(i:Int).toNat]? = some (bL x):=by simp[mU,hi]
 have b1:=hx.kids;have hxn:=aQ x;have hnn:=aS ns;have hcmp:∀a∈x.values,∀b,a7 prog [] 83 [bV a,bV b] (.int .i64 (bS a b)):=fun a ha b=>pZ a b (hx.valuesI a ha).1
 have hV:=Fo (.mk 3 0 x.name []) (jP ⟨om,om⟩ ⟨om,om⟩ hx.name (by simp) (by simp[wR])) (by simp[aV,bT]);have hcap:(dW (.mk 3 0 x.name []) == 0)=dD x.name:=by
  simp only[dW,bJ,bW,cJ,jW,v5,mV,aV,bT];cases dD x.name<;>simp
 have hres:cG i x=(gQ x && (decide (0<=x.kind) && decide (x.kind<=4)) && jS i x.kids && (decide (x.kind≠2) || (decide (1<=x.kids.length) && decide (x.kids.length<=256) && decide (x.weights.length=x.kids.length) && (decide (x.labels.length=0) || decide (x.labels.length=x.kids.length)))) &&
  (decide (x.kind≠3) || (decide (x.kids.length<=256) && (decide (x.name=[]) || (dD x.name && decide (x.kids.length<=16))))) && (decide (x.kind≠4) || decide (x.kids.length=x.values.length+1)) && cR x.values):=rfl
 simp only[nN,Qt,RL] at hc;obtain⟨⟨hk0,hk4⟩,hun⟩:=hc;rw[hun,RE hk0,RE hk4] at hres;have hvs:x.kind≠4->x.values=[]:=fun h=>by
  unfold gQ at hun;simp only[Qt,Rq,RL] at hun;rcases hun.1.2 with h'|h'
  ·exact absurd h' h
  ·exact Ru.1 h'
 generalize cG i x=res at hres;rw[←hcap] at hres;generalize dW (.mk 3 0 x.name [])=cv at hV hres;clear hx hcap hi hun;obtain⟨kind,name,lo,hi,ws,ls,vals,kids,⟨vk,vn,vs,vks⟩⟩:=x;simp only at hres hV hcmp hvs hk0 hk4 b1 hvl;have hF:(res=true->False)->AV.bool false=AV.bool res:=fun h1=>by
  cases hr:res with
  | false=>rfl
  | true=>exact(h1 hr).elim
 refine aO bD func38 rfl ?_;refine Rr ?_;repeat(refine aD ex ?_;refine Rr ?_)
 refine aZ.at bD (fun k:Nat=>k<=kids.length/\∀(j:Nat) (q:Int),j<k->kids[j]? = some q->0<=q/\q<i)
  (fun k=>⟨[(1,.int .i64 i),(5,.ip (bL ⟨kind,name,lo,hi,ws,ls,vals,kids,.mk vk vn vs vks⟩)),(6,.int .i64 kids.length),(24,.il 1 (aW kids)),(25,.int .i64 kids.length),(26,.int .i64 k)],[],0,132⟩) (fun k=>kids.length-k) 0 [] ⟨by simp,by simp⟩
  (bC ⟨aG,a5 (.ip _ (hxn.cells.get)),⟨_,rfl,.int (by rw[aC])⟩,a5 (.il' (aT _)),⟨_,rfl,.int (by rw[aC])⟩,aG,trivial⟩) ?_
 rintro k ⟨hk,hall⟩;refine Rr ?_;refine aE (fun h=>?_) (fun h=>?_)
 ·have hlt:k<kids.length:=by simpa using h
  have e1:(aW kids)[(k:Int).toNat]? = some (.int .i64 kids[k]):=by rw[Q4,bK,Qq hlt];rfl
  have hg:kids[k]? = some kids[k]:=Qq hlt;generalize kids[k]=q at e1 hg;have hbad:(0<=q/\q<i->False)->AV.bool false=AV.bool res:=fun hb=>hF (by
   intro e;rw[hres] at e;simp only[Qt] at e;exact hb (cX.1 e.1.1.1.1.2 k q hg))
  refine Rr ?_;refine aD e1 ?_;refine Rr ?_;by_cases g1:0<=q
  ·have d1:decide (q<0)=false:=by simp;omega
   rw[d1];refine Rr ?_;refine aE (fun h=>?_) (fun h=>?_)
   ·refine Rr ?_;exact aB nn ⟨hbad (by simp at h;omega),rfl,rfl⟩
   ·have g2:q<i:=by simpa using h
    refine Rr ?_;refine .mk (k+1) [] ⟨om,fun j w2 hj hw2=>?_⟩ (bC ⟨aG,a5 (.ip _ (hxn.cells.get)),aG,a5 (.il' (aT _)),aG,⟨_,rfl,.w64 om ⟨om,om⟩⟩,trivial⟩) om;rcases Q6 j k with hj'|hj'
    ·exact hall j w2 hj' hw2
    ·have hjk:j=k:=om;rw[hjk,hg] at hw2;cases hw2;exact⟨g1,g2⟩
  ·have d1:decide (q<0)=true:=by simp;omega
   rw[d1];refine Rr ?_;exact aB nn ⟨hbad om,rfl,rfl⟩
 ·have hk':k=kids.length:=by simp at h;omega
  have hkin:jS i kids=true:=cX.2 fun j q hj=>hall j q (by rw[hk'];exact(Qv.1 hj).1) hj
  rw[hkin] at hres;clear hall hk hk' h hkin;rcases(show kind=0∨kind=1∨kind=2∨kind=3∨kind=4 by omega) with rfl|rfl|rfl|rfl|rfl
  ·obtain rfl:=hvs (by decide);refine Rr ?_;exact aB nn ⟨by rw[hres];simp[cR],rfl,rfl⟩
  ·obtain rfl:=hvs (by decide);refine Rr ?_;exact aB nn ⟨by rw[hres];simp[cR],rfl,rfl⟩
  ·obtain rfl:=hvs (by decide);have f1:decide ((kids.length:Int)≥1)=decide (1<=kids.length):=by rw[RT];simp;omega
   have f2:decide ((kids.length:Int)<=256)=decide (kids.length<=256):=by rw[RT];simp;omega
   have f3:(((aW ws).length:Int) == (kids.length:Int))=decide (ws.length=kids.length):=by rw[aC,RT];simp;omega
   have f4:(((Ae ls).length:Int) == 0)=decide (ls.length=0):=by rw[a8,RT];simp
   have f5:(((Ae ls).length:Int) == (kids.length:Int))=decide (ls.length=kids.length):=by rw[a8,RT];simp;omega
   refine Rr ?_;rw[f1];generalize decide (1<=kids.length)=b1 at hres ⊢;cases b1 with
   | false=>
    refine Rr ?_;exact aB nn ⟨by rw[hres];simp,rfl,rfl⟩
   | true=>
   refine Rr ?_;rw[f2];generalize decide (kids.length<=256)=b2 at hres ⊢;cases b2 with
   | false=>
    refine Rr ?_;exact aB nn ⟨by rw[hres];simp,rfl,rfl⟩
   | true=>
   refine Rr ?_;rw[f3];generalize decide (ws.length=kids.length)=b3 at hres ⊢;cases b3 with
   | false=>
    refine Rr ?_;exact aB nn ⟨by rw[hres];simp,rfl,rfl⟩
   | true=>
   refine Rr ?_;rw[f4];generalize decide (ls.length=0)=b4 at hres ⊢;cases b4 with
   | true=>
    refine Rr ?_;exact aB nn ⟨by rw[hres];simp[cR],rfl,rfl⟩
   | false=>
    refine Rr ?_;rw[f5];exact aB nn ⟨by rw[hres];simp[cR],rfl,rfl⟩
  ·obtain rfl:=hvs (by decide);have f1:decide ((kids.length:Int)<=16)=decide (kids.length<=16):=by rw[RT];simp;omega
   have f2:decide ((kids.length:Int)<=256)=decide (kids.length<=256):=by rw[RT];simp;omega
   refine Rr ?_;refine aE (fun h=>?_) (fun h=>?_)
   ·have hn:name=[]:=by simpa using h
    rw[RE hn] at hres;refine Rr ?_;rw[f2];exact aB nn ⟨by rw[hres];simp[cR],rfl,rfl⟩
   ·have hn:¬name=[]:=by simpa using h
    rw[Rd hn] at hres;refine Rr ?_;rw[f1];by_cases g:kids.length<=16
    ·rw[RE g] at hres ⊢;rw[RE (show kids.length<=256 by omega)] at hres;refine Rr ?_;refine hV.useC bD (.cons (.agg' (.s (.s (.s (.cons (.nil 4) .nil))))) .nil) nn ?_;refine Rr ?_;exact aB nn ⟨by rw[hres];simp[cR],rfl,rfl⟩
    ·rw[Rd g] at hres ⊢;refine Rr ?_;exact aB nn ⟨by rw[hres];simp,rfl,rfl⟩
  ·have hw4:IntKind.i64.wrap ((vals.length:Int)+1)=(vals.length:Int)+1:=w64 rfl ⟨om,om⟩;refine Rr ?_;refine aZ.at bD (fun k:Nat=>1<=k/\k<=max 1 vals.length/\∀(j:Nat) (a b:aU),j+1<k->vals[j]? = some a->vals[j+1]? = some b->bS a b<0)
    (fun k=>⟨[(5,.ip (bL ⟨4,name,lo,hi,ws,ls,vals,kids,.mk vk vn vs vks⟩)),(6,.int .i64 kids.length),(9,.int .i64 k)],[],0,132⟩) (fun k=>vals.length-k) 1 [] ⟨om,om,fun j a b h=>om⟩
    (bC ⟨a5 (.ip _ (hxn.cells.get)),aG,aG,trivial⟩) ?_
   rintro k ⟨hk1,hk2,hall⟩;refine Rr ?_;refine aE (fun h=>?_) (fun h=>?_)
   ·have hlt:k<vals.length:=by rw[aA] at h;simpa using h
    obtain⟨p1,p2,p3,p4,pm,pg,-,ep⟩:=bB (l:=vals) (k:=k-1) om;obtain⟨q1,q2,q3,q4,qm,qg,-,eq⟩:=bB (l:=vals) (k:=k) hlt;have hw1:IntKind.i64.wrap ((k:Int)-1)=((k-1:Nat):Int):=w64 om ⟨om,om⟩;have hc:=hcmp _ pm (.mk q1 q2 q3 q4);obtain⟨c,hc0⟩:∃c,c=bS (.mk p1 p2 p3 p4) (.mk q1 q2 q3 q4):=⟨_,rfl⟩
    rw[←hc0] at hc;refine Rt ?_;rw[hw1];refine Rr ?_;repeat((first|refine aD ep ?_|refine aD eq ?_|refine bN ?_);refine Rr ?_)
    refine hc.go ?_;refine Rr ?_;repeat((first|refine aD ep ?_|refine aD eq ?_|refine bN ?_);refine Rr ?_)
    refine aE (fun h=>?_) (fun h=>?_)
    ·refine Rr ?_;refine aB nn ⟨hF ?_,rfl,rfl⟩;intro e;rw[hres] at e;simp only[Qt] at e;have:=gZ e.2 (k-1) _ _ pg (by rw[show k-1+1=k by omega];exact qg);rw[←hc0] at this;simp at h;omega
    ·refine Rr ?_;refine .mk (k+1) [] ⟨om,om,fun j a b hj ha hb=>?_⟩ (bC ⟨a5 (.ip _ (hxn.cells.get)),aG,⟨_,rfl,.w64 om ⟨om,om⟩⟩,trivial⟩) om;rcases Q6 (j+1) k with hj'|hj'
     ·exact hall j a b hj' ha hb
     ·have hjk:j=k-1:=om;subst hjk;rw[pg] at ha;rw[show k-1+1=k by omega,qg] at hb;cases ha;cases hb;rw[←hc0];simpa using h
   ·have hlt:vals.length<=k:=by rw[aA] at h;simpa using h
    have hso:cR vals=true:=gY fun j a b ha hb=>hall j a b (by have:=(Qv.1 hb).1;omega) ha hb
    rw[hso] at hres;refine Rr ?_;rw[aA,hw4];refine aB nn ⟨?_,rfl,rfl⟩;rw[hres];congr 1;rw[RT];simp;omega
end Go.Proofs.YtpajadlnaokngaaGreatDoor
namespace Go.Ax
open Go
def c7(a b:List aU):List aU:=match a,b with
 | [],b=>b
 | a,[]=>a
 | x::l,y::m=>if bS x y<0 then x::c7 l (y::m) else if bS x y=0 then x::c7 l m else y::c7 (x::l) m
termination_by a.length+b.length
theorem BP(b:List aU):c7 [] b=b:=by rw[c7]
theorem FX(a:List aU):c7 a []=a:=by
 cases a with
 | nil=>rw[c7]
 | cons x l=>rw[c7];simp
theorem FY(x y:aU)(l m:List aU):c7 (x::l) (y::m)=if bS x y<0 then x::c7 l (y::m) else if bS x y=0 then x::c7 l m else y::c7 (x::l) m:=by rw[c7]
end Go.Ax
