/- A part of the proof. -/
import Derived.Test.YtobknjmfgjaehaaGreatDoorAx15
set_option linter.unusedVariables false
set_option linter.unusedSimpArgs false
set_option linter.unusedSectionVars false
namespace Go.Proofs.YtobknjmfgjaehaaGreatDoor
open Go Go.Ax Go.Proofs Tryz
set_option maxRecDepth 100000
set_option maxHeartbeats 8000000
theorem Kr(x:Nd)(ks:List a7):a8 prog [] 130 [.ip (cH x),.il 4 (aO ks)] (bK (c9 x.name ks)):=by
 obtain⟨kind,name,lo,hi,ws,ls,vals,kids,⟨vk,vn,vs,vks⟩⟩:=x;refine aM bG func130 rfl ?_;unfold c9;refine Rr ?_;refine aH (fun h=>?_) (fun h=>?_)
 ·have h1:name=[]:=by simpa using h
  rw[if_pos h1];refine Rr ?_;exact aB nn ⟨rfl,rfl,rfl⟩
 ·have h1:¬name=[]:=by simpa using h
  rw[if_neg h1];refine Rt ?_;exact aB nn ⟨rfl,rfl,rfl⟩
theorem OJ(x:Nd)(hx:qG x)(hs:bC x.value<=1048576)(hv:∀v∈x.values,bC v<=1048576)(h0:x.kind=0->x.values=[]):a8 prog [] 102 [.ip (cH x)] (.int .i64 (dW (nP x))):=by
 have hV:=GZ x.value hx.value hs;have hvv:=hx.valuesI;have hvl:=hx.values;obtain⟨kind,name,lo,hi,ws,ls,vals,kids,⟨vk,vn,vs,vks⟩⟩:=x;simp only at hV hv h0 hvv hvl;refine aM bG func102 rfl ?_;refine Rr ?_;refine aH (fun h=>?_) (fun h=>?_)
 ·have h1:kind=0:=by simpa using h
  subst h1;have e:dW (nP ⟨0,name,lo,hi,ws,ls,vals,kids,.mk vk vn vs vks⟩)=fG (.mk vk vn vs vks):=by
   rw[h0 rfl];simp only[nP,if_true,List.append_nil,dW];split
   ·rfl
   ·rename_i h;simpa using (Decidable.not_not.1 h).symm
  rw[e];generalize fG (.mk vk vn vs vks)=z at hV;refine Rr ?_;refine hV.go ?_;refine Rr ?_;exact aB nn ⟨rfl,rfl,rfl⟩
 ·have h1:¬kind=0:=by simpa using h
  have e:nP ⟨kind,name,lo,hi,ws,ls,vals,kids,.mk vk vn vs vks⟩=vals:=by simp[nP,h1]
  rw[e];refine Rr ?_;refine a9.at bG (fun i:Nat=>i<=vals.length/\dW vals=dW (vals.drop i)) (fun i=>⟨[(19,.il 4 (aO vals)),(20,.int .i64 vals.length),(21,.int .i64 i)],[],0,31⟩) (fun i=>vals.length-i) 0 [] ⟨by simp,by simp⟩
   (cL ⟨aR (.il' (aS _)),⟨_,rfl,.int (by rw[aA])⟩,aF,trivial⟩) ?_
  rintro i ⟨hi,hf⟩;refine Rr ?_;refine aH (fun h=>?_) (fun h=>?_)
  ·have hil:i<vals.length:=by simpa using h
   have ei:(aO vals)[((i:Nat):Int).toNat]? = some (bK vals[i]):=by simp[gK,List.getElem?_eq_getElem hil]
   have hm:=List.getElem_mem hil;have hV2:=GZ vals[i] (hvv _ hm).1 (hv _ hm);rw[List.drop_eq_getElem_cons hil,dW] at hf;generalize vals[i]=y at ei hV2 hf;generalize fG y=z at hV2 hf;obtain⟨y1,y2,y3,y4⟩:=y;refine Rr ?_;refine aC ei ?_;refine Rr ?_;refine hV2.go ?_;refine Rr ?_;refine aH (fun h2=>?_) (fun h2=>?_)
   ·have e:z≠0:=by simpa using h2
    rw[if_pos e] at hf;rw[hf];refine Rr ?_;exact aB nn ⟨rfl,rfl,rfl⟩
   ·have e:¬z≠0:=by simpa using h2
    rw[if_neg e] at hf;refine Rr ?_;exact .mk (i+1) [] ⟨om,hf⟩ (cL ⟨aR (.il' (aS _)),aF,⟨_,rfl,.w64 om ⟨om,om⟩⟩,trivial⟩) om
  ·have hil:i=vals.length:=by simp at h;omega
   rw[hil,List.drop_length,dW] at hf;rw[hf];refine Rr ?_;exact aB nn ⟨rfl,rfl,rfl⟩
theorem NL(x:Nd)(hx:qG x):a8 prog [] 103 [.ip (cH x)] (.bool (dH x)):=by
 have b1:=hx.lo;have b2:=hx.hi;have b3:=hx.weights;clear hx;obtain⟨kind,name,lo,hi,ws,ls,vals,kids,⟨vk,vn,vs,vks⟩⟩:=x;simp only[i64] at b1 b2 b3;have hnum:dH ⟨kind,name,lo,hi,ws,ls,vals,kids,.mk vk vn vs vks⟩=(decide (lo<=hi) && decide (-4611686018427387904<=lo) && decide (hi<=4611686018427387904) && decide (hi<lo+1099511627776) && ws.all fun w=>decide (1<=w) && decide (w<=1000)):=rfl;generalize dH ⟨kind,name,lo,hi,ws,ls,vals,kids,.mk vk vn vs vks⟩=res at hnum;have hF:∀P:Prop,(res=true->P)->(¬P)->res=false:=fun P h1 h2=>by
  cases hr:res with
  | false=>rfl
  | true=>exact absurd (h1 hr) h2
 refine aM bG func103 rfl ?_;refine Rt ?_;by_cases h1:lo<=hi
 ·have d1:decide (lo>hi)=false:=by simp;omega
  rw[d1];refine Rt ?_;by_cases h2 : -4611686018427387904<=lo
  ·have d2:decide (lo < -4611686018427387904)=false:=by simp;omega
   rw[d2];refine Rt ?_;by_cases h3:hi<=4611686018427387904
   ·have d3:decide (hi>4611686018427387904)=false:=by simp;omega
    rw[d3];refine Rt ?_;have hw:IntKind.u64.wrap (IntKind.u64.wrap hi-IntKind.u64.wrap lo)=hi-lo:=by rw[pS,pS,pS];omega
    simp only[hw];by_cases h4:hi<lo+1099511627776
    ·have d4:decide (hi-lo≥1099511627776)=false:=by simp;omega
     rw[d4];refine Rr ?_;refine a9.at bG (fun k:Nat=>k<=ws.length/\∀j w,j<k->ws[j]? = some w->1<=w/\w<=1000)
      (fun k=>⟨[(45,.il 1 (aT ws)),(46,.int .i64 ws.length),(47,.int .i64 k)],[],0,58⟩) (fun k=>ws.length-k) 0 [] ⟨by simp,by simp⟩
      (cL ⟨aR (.il' (aQ _)),⟨_,rfl,.int (by rw[aD])⟩,aF,trivial⟩) ?_
     rintro k ⟨hk,hall⟩;refine Rr ?_;refine aH (fun h=>?_) (fun h=>?_)
     ·have hlt:k<ws.length:=by simpa using h
      have e1:(aT ws)[(k:Int).toNat]? = some (.int .i64 ws[k]):=by rw[Int.toNat_natCast,bF,List.getElem?_eq_getElem hlt];rfl
      have hg:ws[k]? = some ws[k]:=List.getElem?_eq_getElem hlt;generalize ws[k]=w at e1 hg;have hbad:(1<=w/\w<=1000->False)->res=false:=fun hb=>hF (1<=w/\w<=1000) (by
       intro e;rw[hnum] at e;simp only[Bool.and_eq_true,List.all_eq_true,decide_eq_true_eq] at e;exact e.2 w (List.mem_of_getElem? hg)) hb
      refine Rr ?_;refine aC e1 ?_;refine Rr ?_;by_cases g1:1<=w
      ·have d1:decide (w<1)=false:=by simp;omega
       rw[d1];refine Rr ?_;refine aH (fun h=>?_) (fun h=>?_)
       ·refine Rr ?_;refine aB nn ⟨?_,rfl,rfl⟩;rw[hbad (by simp at h;omega)]
       ·have g2:w<=1000:=by simpa using h
        refine Rr ?_;refine .mk (k+1) [] ⟨om,fun j w2 hj hw2=>?_⟩ (cL ⟨aR (.il' (aQ _)),aF,⟨_,rfl,.w64 om ⟨om,om⟩⟩,trivial⟩) om;rcases Nat.lt_or_ge j k with hj'|hj'
        ·exact hall j w2 hj' hw2
        ·have hjk:j=k:=om;rw[hjk,hg] at hw2;cases hw2;exact⟨g1,g2⟩
      ·have d1:decide (w<1)=true:=by simp;omega
       rw[d1];refine Rr ?_;refine aB nn ⟨?_,rfl,rfl⟩;rw[hbad om]
     ·have hk':k=ws.length:=by simp at h;omega
      refine Rr ?_;refine aB nn ⟨?_,rfl,rfl⟩;rw[hnum];congr 1;symm;simp only[Bool.and_eq_true,List.all_eq_true,decide_eq_true_eq];refine⟨⟨⟨⟨h1,h2⟩,h3⟩,h4⟩,fun w hw=>?_⟩;obtain⟨j,hj⟩:=List.getElem?_of_mem hw;exact hall j w (by rw[hk'];exact(List.getElem?_eq_some_iff.1 hj).1) hj
    ·have d4:decide (hi-lo≥1099511627776)=true:=by simp;omega
     rw[d4];refine Rr ?_;refine aB nn ⟨?_,rfl,rfl⟩;rw[hF (hi<lo+1099511627776) (by intro e;rw[hnum] at e;simp at e;omega) h4]
   ·have d3:decide (hi>4611686018427387904)=true:=by simp;omega
    rw[d3];refine Rr ?_;refine aB nn ⟨?_,rfl,rfl⟩;rw[hF (hi<=4611686018427387904) (by intro e;rw[hnum] at e;simp at e;omega) h3]
  ·have d2:decide (lo < -4611686018427387904)=true:=by simp;omega
   rw[d2];refine Rr ?_;refine aB nn ⟨?_,rfl,rfl⟩;rw[hF (-4611686018427387904<=lo) (by intro e;rw[hnum] at e;simp at e;omega) h2]
 ·have d1:decide (lo>hi)=true:=by simp;omega
  rw[d1];refine Rr ?_;refine aB nn ⟨?_,rfl,rfl⟩;rw[hF (lo<=hi) (by intro e;rw[hnum] at e;simp at e;omega) h1]
theorem H1(bs:List Int)(x:Nd)(hx:qG x)(hkl:x.kids.length<=65536)(hb:∀y∈bs,0<=y/\y<=1024)(hk:∀(j:Nat) (k:Int),x.kids[j]? = some k->0<=k/\k<bs.length)(h4:4<=x.kind->0<x.kids.length)(hkind:0<=x.kind/\x.kind<=4) :
  a8 prog [] 144 [.ip (cH x),.il 1 (aT bs)] (.int .i64 (eC bs x)):=by
 have hxn:=a6 x;have hat:∀k:Int,0<=dK bs k/\dK bs k<=1024:=fun k=>by
  unfold dK;rw[List.getD_eq_getElem?_getD];cases h:bs[k.toNat]? with
  | none=>simp
  | some y=>exact hb y (List.mem_of_getElem? h)
 have eat:∀k:Int,0<=k->k<bs.length->(aT bs)[k.toNat]? = some (.int .i64 (dK bs k)):=fun k h0 h1=>by
  have:k.toNat<bs.length:=om;rw[bF,List.getElem?_eq_getElem this];unfold dK;rw[List.getD_eq_getElem?_getD,List.getElem?_eq_getElem this];rfl
 have hs:=fun l=>g6 (b:=bs) (M:=1024) om hb l
 have hm:=fun l=>fK (b:=bs) (M:=1024) om hb l
 have hlen:eC bs x=if x.kind=0 then 0 else if x.kind=1 then 1 else if x.kind=3 then eH bs x.kids else if x.kind=2 then 1+cG bs (dG x) else dK bs (x.kids.getD 0 0)+cG bs (dG x):=rfl
 have hM:∀k:Nat,k<x.kids.length->(cG bs (if x.kind=2 then x.kids.take (k+1) else(x.kids.take (k+1)).drop 1))=if 0<k∨x.kind=2 then max (cG bs (if x.kind=2 then x.kids.take k else(x.kids.take k).drop 1)) (dK bs (x.kids.getD k 0)) else cG bs (if x.kind=2 then x.kids.take k else(x.kids.take k).drop 1):=fun k hk=>by
  have eg:x.kids.getD k 0=x.kids[k]:=by rw[List.getD_eq_getElem?_getD,List.getElem?_eq_getElem hk];rfl
  rw[eg];by_cases e2:x.kind=2
  ·rw[if_pos e2,if_pos (.inr e2),if_pos e2,pE hk]
  ·rw[if_neg e2,if_neg e2];by_cases e0:0<k
   ·rw[if_pos (.inl e0),mX hk e0]
   ·rw[if_neg om];have:k=0:=om;subst this;simp[cG,List.drop_eq_nil_of_le]
 obtain⟨kind,name,lo,hi,ws,ls,vals,kids,⟨vk,vn,vs,vks⟩⟩:=x;simp only at hkl hk h4 hkind hlen hM;generalize eC bs ⟨kind,name,lo,hi,ws,ls,vals,kids,.mk vk vn vs vks⟩=res at hlen;refine aM bG func144 rfl ?_;refine Rr ?_;refine a9.at bG (fun p:Nat × Int × Int=>p.1<=kids.length/\p.2.1=eH bs (kids.take p.1)/\p.2.2=cG bs (if kind=2 then kids.take p.1 else(kids.take p.1).drop 1))
  (fun p=>⟨[(0,.ip (cH ⟨kind,name,lo,hi,ws,ls,vals,kids,.mk vk vn vs vks⟩)),(1,.il 1 (aT bs)),(5,.int .i64 p.2.1),(6,.int .i64 p.2.2),(12,.il 1 (aT kids)),(13,.int .i64 kids.length),(14,.int .i64 p.1)],[],0,67⟩)
  (fun p=>kids.length-p.1) (0,0,0) [] ⟨by simp,by simp[eH],by simp[cG]⟩
  (cL ⟨aR (.ip _ (hxn.cells.get)),aR (.il' (aQ _)),aF,aF,aR (.il' (aQ _)),⟨_,rfl,.int (by rw[aD])⟩,aF,trivial⟩) ?_
 rintro⟨k,sum,most⟩ ⟨hkk,hsum,hmost⟩;simp only at hkk hsum hmost ⊢;have bsum:=hs (kids.take k);rw[←hsum] at bsum;have bm:=hm (if kind=2 then kids.take k else(kids.take k).drop 1);rw[←hmost] at bm;have btk:(kids.take k).length<=65536:=by simp;omega
 refine Rr ?_;refine aH (fun h=>?_) (fun h=>?_)
 ·have hlt:k<kids.length:=by simpa using h
  have e1:(aT kids)[(k:Int).toNat]? = some (.int .i64 kids[k]):=by rw[Int.toNat_natCast,bF,List.getElem?_eq_getElem hlt];rfl
  obtain⟨q0,q1⟩:=hk k _ (List.getElem?_eq_getElem hlt);have hst:=s9 (b:=bs) hlt;have hM:=hM k hlt;have eg:kids.getD k 0=kids[k]:=by rw[List.getD_eq_getElem?_getD,List.getElem?_eq_getElem hlt];rfl
  rw[←hsum] at hst;rw[eg,←hmost] at hM;generalize kids[k]=q at e1 q0 q1 hst hM;obtain⟨q,rfl⟩:=Int.eq_ofNat_of_zero_le q0;have e2:=eat q q0 q1;have hq:=hat q;generalize dK bs q=z at e2 hq hst hM;have hw:IntKind.i64.wrap (sum+z)=sum+z:=cK ⟨om,om⟩;refine Rr ?_;repeat((first|refine aC e1 ?_|refine aC e2 ?_);refine Rr ?_)
  by_cases k0:0<k
  ·have d0:decide ((k:Int)>0)=true:=by simp;omega
   rw[d0];refine Rr ?_;repeat((first|refine aC e1 ?_|refine aC e2 ?_);refine Rr ?_)
   exact .mk (k+1,sum+z,max most z) [] ⟨by simp only;omega,by simp only;rw[hst],by simp only;rw[hM,if_pos (.inl k0)]⟩ (cL ⟨aR (.ip _ (hxn.cells.get)),aR (.il' (aQ _)),⟨_,rfl,.int (by simp only;exact hw)⟩,⟨_,rfl,.int (by simp only;split<;>omega)⟩,aR (.il' (aQ _)),aF,⟨_,rfl,.wp⟩,trivial⟩) (by simp only;omega)
  ·have k0':k=0:=om;have d0:decide ((k:Int)>0)=false:=by simp;omega
   rw[d0];refine Rr ?_;by_cases k2:kind=2
   ·subst k2;refine Rr ?_;repeat((first|refine aC e1 ?_|refine aC e2 ?_);refine Rr ?_)
    exact .mk (k+1,sum+z,max most z) [] ⟨by simp only;omega,by simp only;rw[hst],by show max most z=cG bs (if (2:Int)=2 then kids.take (k+1) else(kids.take (k+1)).drop 1);rw[hM,if_pos (.inr rfl)]⟩ (cL ⟨aR (.ip _ (hxn.cells.get)),aR (.il' (aQ _)),⟨_,rfl,.int (by simp only;exact hw)⟩,⟨_,rfl,.int (by simp only;split<;>omega)⟩,aR (.il' (aQ _)),aF,⟨_,rfl,.wp⟩,trivial⟩) (by simp only;omega)
   ·have d2:(kind == 2)=false:=by simpa using k2
    rw[d2];refine Rr ?_;exact .mk (k+1,sum+z,most) [] ⟨by simp only;omega,by simp only;rw[hst],by simp only;rw[hM,if_neg om]⟩ (cL ⟨aR (.ip _ (hxn.cells.get)),aR (.il' (aQ _)),⟨_,rfl,.int (by simp only;exact hw)⟩,aF,aR (.il' (aQ _)),aF,⟨_,rfl,.wp⟩,trivial⟩) (by simp only;omega)
 ·have hk':k=kids.length:=by simp at h;omega
  subst hk';rw[List.take_length] at hsum hmost;have har:dG ⟨kind,name,lo,hi,ws,ls,vals,kids,.mk vk vn vs vks⟩=if kind=2 then kids else kids.drop 1:=rfl
  rw[har,←hmost,←hsum] at hlen;rcases(show kind=0∨kind=1∨kind=2∨kind=3∨kind=4 by omega) with rfl|rfl|rfl|rfl|rfl
  ·rw[hlen,if_pos rfl];refine Rr ?_;exact aB nn ⟨rfl,rfl,rfl⟩
  ·rw[hlen,if_neg (by decide),if_pos rfl];refine Rr ?_;exact aB nn ⟨rfl,rfl,rfl⟩
  ·rw[hlen,if_neg (by decide),if_neg (by decide),if_neg (by decide),if_pos rfl];refine Rr ?_;rw[cK (n:=1+most) ⟨om,om⟩];exact aB nn ⟨rfl,rfl,rfl⟩
  ·rw[hlen,if_neg (by decide),if_neg (by decide),if_pos rfl];refine Rr ?_;exact aB nn ⟨rfl,rfl,rfl⟩
  ·rw[hlen,if_neg (by decide),if_neg (by decide),if_neg (by decide),if_neg (by decide)];have hlt:0<kids.length:=h4 om;have e1:(aT kids)[(0:Int).toNat]? = some (.int .i64 kids[0]):=by rw[show (0:Int).toNat=0 from rfl,bF,List.getElem?_eq_getElem hlt];rfl
   obtain⟨q0,q1⟩:=hk 0 _ (List.getElem?_eq_getElem hlt);have eg:kids.getD 0 0=kids[0]:=by rw[List.getD_eq_getElem?_getD,List.getElem?_eq_getElem hlt];rfl
   rw[eg];generalize kids[0]=q at e1 q0 q1;obtain⟨q,rfl⟩:=Int.eq_ofNat_of_zero_le q0;have e2:=eat q q0 q1;have hq:=hat q;generalize dK bs q=z at e2 hq;refine Rr ?_;repeat((first|refine aC e1 ?_|refine aC e2 ?_);refine Rr ?_)
   rw[cK (n:=z+most) ⟨om,om⟩];exact aB nn ⟨rfl,rfl,rfl⟩
set_option maxHeartbeats 8000000
mutual
theorem HN:∀(a b:a7),bW a b=0->a=b
 | .mk k n s ks,.mk k' n' s' ks',h=>by
  simp only[bW,andThen] at h;split at h
  ·rename_i h1;split at h
   ·rename_i h2;split at h
    ·rename_i h3;have e1:k=k':=Decidable.byContradiction fun e=>sR e h1
     have e2:n=n':=Decidable.byContradiction fun e=>sR e h2
     rw[e1,e2,mK h3,He ks ks' h]
    ·rename_i h3;exact absurd h h3
   ·rename_i h2;exact absurd h h2
  ·rename_i h1;exact absurd h h1
theorem He:∀(l m:List a7),fC l m=0->l=m
 | [],[],_=>rfl
 | [],_::_,h=>by simp[fC] at h
 | _::_,[],h=>by simp[fC] at h
 | a::l,b::m,h=>by
  simp only[fC,andThen] at h;split at h
  ·rename_i h1;rw[HN a b h1,He l m h]
  ·rename_i h1;exact absurd h h1
end
def pJ(x:Nd):Bool:=decide (0<=x.kind) && decide (x.kind<=4) && iE x
theorem zO{v:a7}:jL [] [] [bK v,.agg [.int .i64 0,.int .i64 0,.str [],.nsl]] [bK v,bK (.mk 0 0 [] [])]:=
 .cons (.same _ (bM v)) (.cons (.agg' (.s (.s (.s (.cons (.nil 4) .nil))))) .nil)
theorem OU(x:Nd)(hx:qG x):a8 prog [] 100 [.ip (cH x)] (.bool (pJ x)):=by
 have hC:=lN x.value (.mk 0 0 [] []) hx.value;have hz:(bW x.value (.mk 0 0 [] []) == 0)=AG x.value:=by
  obtain⟨k,n,s,ks⟩:=x.value;rw[Bool.eq_iff_iff];simp only[AG,Bool.and_eq_true,decide_eq_true_eq,beq_iff_eq];constructor
  ·intro h;have:=HN _ _ h;cases this;simp
  ·rintro⟨⟨⟨rfl,rfl⟩,rfl⟩,h⟩;have:ks=[]:=List.length_eq_zero_iff.1 h;subst this;exact(iB _).refl
 have hres:pJ x=(decide (0<=x.kind) && decide (x.kind<=4) && ((decide (x.kind=0) || AG x.value) && (decide (x.kind=1) || (decide (x.lo=0) && decide (x.hi=0))) && (decide (x.kind=3) || decide (x.name=[])) &&
  (decide (x.kind=2) || (decide (x.weights.length=0) && decide (x.labels.length=0))) && (decide (x.kind=4) || decide (x.values.length=0)) && ((decide (x.kind≠0) && decide (x.kind≠1)) || decide (x.kids.length=0)))):=rfl
 generalize pJ x=res at hres;rw[←hz] at hres;obtain⟨c,hc⟩:∃c,c=bW x.value (.mk 0 0 [] []):=⟨_,rfl⟩
 rw[←hc] at hC hres;clear hz hc hx;obtain⟨kind,name,lo,hi,ws,ls,vals,kids,⟨vk,vn,vs,vks⟩⟩:=x;simp only at hres hC;have eW:(((aT ws).length:Int) == 0)=decide (ws.length=0):=by rw[aD,Bool.eq_iff_iff];simp
 have eL:(((DD ls).length:Int) == 0)=decide (ls.length=0):=by rw[bZ,Bool.eq_iff_iff];simp
 have eV:(((aO vals).length:Int) == 0)=decide (vals.length=0):=by rw[aA,Bool.eq_iff_iff];simp
 have eK:(((aT kids).length:Int) == 0)=decide (kids.length=0):=by rw[aD,Bool.eq_iff_iff];simp
 have eN:(name == [])=decide (name=[]):=by rw[Bool.eq_iff_iff];simp
 have e1:(lo == 0)=decide (lo=0):=by rw[Bool.eq_iff_iff];simp
 have e2:(hi == 0)=decide (hi=0):=by rw[Bool.eq_iff_iff];simp
 refine aM bG func100 rfl ?_;rcases(show kind=0∨kind=1∨kind=2∨kind=3∨kind=4∨(kind<0∨4<kind) by omega) with rfl|rfl|rfl|rfl|rfl|hk
 ·refine Rr ?_;rw[e1];generalize decide (lo=0)=b1 at hres ⊢;cases b1 with
  | false=>
   refine Rr ?_;exact aB nn ⟨by rw[hres];simp,rfl,rfl⟩
  | true=>
  refine Rr ?_;rw[e2];generalize decide (hi=0)=b2 at hres ⊢;cases b2 with
  | false=>
   refine Rr ?_;exact aB nn ⟨by rw[hres];simp,rfl,rfl⟩
  | true=>
  refine Rr ?_;rw[eW];generalize decide (ws.length=0)=b3 at hres ⊢;cases b3 with
  | false=>
   refine Rr ?_;exact aB nn ⟨by rw[hres];simp,rfl,rfl⟩
  | true=>
  refine Rr ?_;rw[eL];generalize decide (ls.length=0)=b4 at hres ⊢;cases b4 with
  | false=>
   refine Rr ?_;exact aB nn ⟨by rw[hres];simp,rfl,rfl⟩
  | true=>
  refine Rr ?_;rw[eN];generalize decide (name=[])=b5 at hres ⊢;cases b5 with
  | false=>
   refine Rr ?_;exact aB nn ⟨by rw[hres];simp,rfl,rfl⟩
  | true=>
  refine Rr ?_;rw[eV];generalize decide (vals.length=0)=b6 at hres ⊢;cases b6 with
  | false=>
   refine Rr ?_;exact aB nn ⟨by rw[hres];simp,rfl,rfl⟩
  | true=>
  refine Rr ?_;rw[eK];generalize decide (kids.length=0)=b7 at hres ⊢;cases b7 with
  | false=>
   refine Rr ?_;exact aB nn ⟨by rw[hres];simp,rfl,rfl⟩
  | true=>
  refine Rr ?_;exact aB nn ⟨by rw[hres];simp,rfl,rfl⟩
 ·refine Rr ?_;refine hC.useC bG zO nn ?_;refine Rr ?_;generalize (c == 0)=b1 at hres ⊢;cases b1 with
  | false=>
   refine Rr ?_;exact aB nn ⟨by rw[hres];simp,rfl,rfl⟩
  | true=>
  refine Rr ?_;rw[eW];generalize decide (ws.length=0)=b2 at hres ⊢;cases b2 with
  | false=>
   refine Rr ?_;exact aB nn ⟨by rw[hres];simp,rfl,rfl⟩
  | true=>
  refine Rr ?_;rw[eL];generalize decide (ls.length=0)=b3 at hres ⊢;cases b3 with
  | false=>
   refine Rr ?_;exact aB nn ⟨by rw[hres];simp,rfl,rfl⟩
  | true=>
  refine Rr ?_;rw[eN];generalize decide (name=[])=b4 at hres ⊢;cases b4 with
  | false=>
   refine Rr ?_;exact aB nn ⟨by rw[hres];simp,rfl,rfl⟩
  | true=>
  refine Rr ?_;rw[eV];generalize decide (vals.length=0)=b5 at hres ⊢;cases b5 with
  | false=>
   refine Rr ?_;exact aB nn ⟨by rw[hres];simp,rfl,rfl⟩
  | true=>
  refine Rr ?_;rw[eK];generalize decide (kids.length=0)=b6 at hres ⊢;cases b6 with
  | false=>
   refine Rr ?_;exact aB nn ⟨by rw[hres];simp,rfl,rfl⟩
  | true=>
  refine Rr ?_;exact aB nn ⟨by rw[hres];simp,rfl,rfl⟩
 ·refine Rr ?_;refine hC.useC bG zO nn ?_;refine Rr ?_;generalize (c == 0)=b1 at hres ⊢;cases b1 with
  | false=>
   refine Rr ?_;exact aB nn ⟨by rw[hres];simp,rfl,rfl⟩
  | true=>
  refine Rr ?_;rw[e1];generalize decide (lo=0)=b2 at hres ⊢;cases b2 with
  | false=>
   refine Rr ?_;exact aB nn ⟨by rw[hres];simp,rfl,rfl⟩
  | true=>
  refine Rr ?_;rw[e2];generalize decide (hi=0)=b3 at hres ⊢;cases b3 with
  | false=>
   refine Rr ?_;exact aB nn ⟨by rw[hres];simp,rfl,rfl⟩
  | true=>
  refine Rr ?_;rw[eN];generalize decide (name=[])=b4 at hres ⊢;cases b4 with
  | false=>
   refine Rr ?_;exact aB nn ⟨by rw[hres];simp,rfl,rfl⟩
  | true=>
  refine Rr ?_;rw[eV];generalize decide (vals.length=0)=b5 at hres ⊢;cases b5 with
  | false=>
   refine Rr ?_;exact aB nn ⟨by rw[hres];simp,rfl,rfl⟩
  | true=>
  refine Rr ?_;exact aB nn ⟨by rw[hres];simp,rfl,rfl⟩
 ·refine Rr ?_;refine hC.useC bG zO nn ?_;refine Rr ?_;generalize (c == 0)=b1 at hres ⊢;cases b1 with
  | false=>
   refine Rr ?_;exact aB nn ⟨by rw[hres];simp,rfl,rfl⟩
  | true=>
  refine Rr ?_;rw[e1];generalize decide (lo=0)=b2 at hres ⊢;cases b2 with
  | false=>
   refine Rr ?_;exact aB nn ⟨by rw[hres];simp,rfl,rfl⟩
  | true=>
  refine Rr ?_;rw[e2];generalize decide (hi=0)=b3 at hres ⊢;cases b3 with
  | false=>
   refine Rr ?_;exact aB nn ⟨by rw[hres];simp,rfl,rfl⟩
  | true=>
  refine Rr ?_;rw[eW];generalize decide (ws.length=0)=b4 at hres ⊢;cases b4 with
  | false=>
   refine Rr ?_;exact aB nn ⟨by rw[hres];simp,rfl,rfl⟩
  | true=>
  refine Rr ?_;rw[eL];generalize decide (ls.length=0)=b5 at hres ⊢;cases b5 with
  | false=>
   refine Rr ?_;exact aB nn ⟨by rw[hres];simp,rfl,rfl⟩
  | true=>
  refine Rr ?_;rw[eV];generalize decide (vals.length=0)=b6 at hres ⊢;cases b6 with
  | false=>
   refine Rr ?_;exact aB nn ⟨by rw[hres];simp,rfl,rfl⟩
  | true=>
  refine Rr ?_;exact aB nn ⟨by rw[hres];simp,rfl,rfl⟩
 ·refine Rr ?_;refine hC.useC bG zO nn ?_;refine Rr ?_;generalize (c == 0)=b1 at hres ⊢;cases b1 with
  | false=>
   refine Rr ?_;exact aB nn ⟨by rw[hres];simp,rfl,rfl⟩
  | true=>
  refine Rr ?_;rw[e1];generalize decide (lo=0)=b2 at hres ⊢;cases b2 with
  | false=>
   refine Rr ?_;exact aB nn ⟨by rw[hres];simp,rfl,rfl⟩
  | true=>
  refine Rr ?_;rw[e2];generalize decide (hi=0)=b3 at hres ⊢;cases b3 with
  | false=>
   refine Rr ?_;exact aB nn ⟨by rw[hres];simp,rfl,rfl⟩
  | true=>
  refine Rr ?_;rw[eW];generalize decide (ws.length=0)=b4 at hres ⊢;cases b4 with
  | false=>
   refine Rr ?_;exact aB nn ⟨by rw[hres];simp,rfl,rfl⟩
  | true=>
  refine Rr ?_;rw[eL];generalize decide (ls.length=0)=b5 at hres ⊢;cases b5 with
  | false=>
   refine Rr ?_;exact aB nn ⟨by rw[hres];simp,rfl,rfl⟩
  | true=>
  refine Rr ?_;rw[eN];generalize decide (name=[])=b6 at hres ⊢;cases b6 with
  | false=>
   refine Rr ?_;exact aB nn ⟨by rw[hres];simp,rfl,rfl⟩
  | true=>
  refine Rr ?_;exact aB nn ⟨by rw[hres];simp,rfl,rfl⟩
 ·rcases hk with hk|hk
  ·have d0:decide (kind≥0)=false:=by simp;omega
   refine Rr ?_;rw[d0];refine Rr ?_;exact aB nn ⟨by rw[hres,decide_eq_false (show ¬0<=kind by omega)];simp,rfl,rfl⟩
  ·have d0:decide (kind≥0)=true:=by simp;omega
   have d1:decide (kind<=4)=false:=by simp;omega
   refine Rr ?_;rw[d0];refine Rr ?_;rw[d1];refine Rr ?_;exact aB nn ⟨by rw[hres,d1];simp,rfl,rfl⟩
set_option maxHeartbeats 8000000
theorem LK(ns:List Nd)(i:Nat)(x:Nd)(hl:ns.length<=4294967296)(hi:ns[i]? = some x)(hx:qG x)(hvl:x.values.length<=1000000)(hc:pJ x=true) :
  a8 prog [] 101 [.ip (.agg [.il 12 (aW ns),.junk,.junk,.junk]),.int .i64 i] (.bool (cX i x)):=by
 have hil:=(List.getElem?_eq_some_iff.1 hi).1;have ex:(aW ns)[(i:Int).toNat]? = some (cH x):=by simp[mI,hi]
 have b1:=hx.kids;have hxn:=a6 x;have hnn:=aU ns;have hcmp:∀a∈x.values,∀b,a8 prog [] 48 [bK a,bK b] (.int .i64 (bW a b)):=fun a ha b=>lN a b (hx.valuesI a ha).1
 have hV:=GZ (.mk 3 0 x.name []) (jR ⟨om,om⟩ ⟨om,om⟩ hx.name (by simp) (by simp[uJ])) (by simp[bC,cE]);have hcap:(fG (.mk 3 0 x.name []) == 0)=eG x.name:=by
  simp only[fG,b8,cS,c8,lZ,xD,oR,bC,cE];cases eG x.name<;>simp
 have hres:cX i x=(iE x && (decide (0<=x.kind) && decide (x.kind<=4)) && lV i x.kids && (decide (x.kind≠2) || (decide (1<=x.kids.length) && decide (x.kids.length<=256) && decide (x.weights.length=x.kids.length) && (decide (x.labels.length=0) || decide (x.labels.length=x.kids.length)))) &&
  (decide (x.kind≠3) || (decide (x.kids.length<=256) && (decide (x.name=[]) || (eG x.name && decide (x.kids.length<=16))))) && (decide (x.kind≠4) || decide (x.kids.length=x.values.length+1)) && dN x.values):=rfl
 simp only[pJ,Bool.and_eq_true,decide_eq_true_eq] at hc;obtain⟨⟨hk0,hk4⟩,hun⟩:=hc;rw[hun,decide_eq_true hk0,decide_eq_true hk4] at hres;have hvs:x.kind≠4->x.values=[]:=fun h=>by
  unfold iE at hun;simp only[Bool.and_eq_true,Bool.or_eq_true,decide_eq_true_eq] at hun;rcases hun.1.2 with h'|h'
  ·exact absurd h' h
  ·exact List.length_eq_zero_iff.1 h'
 generalize cX i x=res at hres;rw[←hcap] at hres;generalize fG (.mk 3 0 x.name [])=cv at hV hres;clear hx hcap hi hun;obtain⟨kind,name,lo,hi,ws,ls,vals,kids,⟨vk,vn,vs,vks⟩⟩:=x;simp only at hres hV hcmp hvs hk0 hk4 b1 hvl;have hF:(res=true->False)->AV.bool false=AV.bool res:=fun h1=>by
  cases hr:res with
  | false=>rfl
  | true=>exact(h1 hr).elim
 refine aM bG func101 rfl ?_;refine Rr ?_;repeat(refine aC ex ?_;refine Rr ?_)
 refine a9.at bG (fun k:Nat=>k<=kids.length/\∀(j:Nat) (q:Int),j<k->kids[j]? = some q->0<=q/\q<i)
  (fun k=>⟨[(1,.int .i64 i),(5,.ip (cH ⟨kind,name,lo,hi,ws,ls,vals,kids,.mk vk vn vs vks⟩)),(6,.int .i64 kids.length),(24,.il 1 (aT kids)),(25,.int .i64 kids.length),(26,.int .i64 k)],[],0,132⟩) (fun k=>kids.length-k) 0 [] ⟨by simp,by simp⟩
  (cL ⟨aF,aR (.ip _ (hxn.cells.get)),⟨_,rfl,.int (by rw[aD])⟩,aR (.il' (aQ _)),⟨_,rfl,.int (by rw[aD])⟩,aF,trivial⟩) ?_
 rintro k ⟨hk,hall⟩;refine Rr ?_;refine aH (fun h=>?_) (fun h=>?_)
 ·have hlt:k<kids.length:=by simpa using h
  have e1:(aT kids)[(k:Int).toNat]? = some (.int .i64 kids[k]):=by rw[Int.toNat_natCast,bF,List.getElem?_eq_getElem hlt];rfl
  have hg:kids[k]? = some kids[k]:=List.getElem?_eq_getElem hlt;generalize kids[k]=q at e1 hg;have hbad:(0<=q/\q<i->False)->AV.bool false=AV.bool res:=fun hb=>hF (by
   intro e;rw[hres] at e;simp only[Bool.and_eq_true] at e;exact hb (dY.1 e.1.1.1.1.2 k q hg))
  refine Rr ?_;refine aC e1 ?_;refine Rr ?_;by_cases g1:0<=q
  ·have d1:decide (q<0)=false:=by simp;omega
   rw[d1];refine Rr ?_;refine aH (fun h=>?_) (fun h=>?_)
   ·refine Rr ?_;exact aB nn ⟨hbad (by simp at h;omega),rfl,rfl⟩
   ·have g2:q<i:=by simpa using h
    refine Rr ?_;refine .mk (k+1) [] ⟨om,fun j w2 hj hw2=>?_⟩ (cL ⟨aF,aR (.ip _ (hxn.cells.get)),aF,aR (.il' (aQ _)),aF,⟨_,rfl,.w64 om ⟨om,om⟩⟩,trivial⟩) om;rcases Nat.lt_or_ge j k with hj'|hj'
    ·exact hall j w2 hj' hw2
    ·have hjk:j=k:=om;rw[hjk,hg] at hw2;cases hw2;exact⟨g1,g2⟩
  ·have d1:decide (q<0)=true:=by simp;omega
   rw[d1];refine Rr ?_;exact aB nn ⟨hbad om,rfl,rfl⟩
 ·have hk':k=kids.length:=by simp at h;omega
  have hkin:lV i kids=true:=dY.2 fun j q hj=>hall j q (by rw[hk'];exact(List.getElem?_eq_some_iff.1 hj).1) hj
  rw[hkin] at hres;clear hall hk hk' h hkin;rcases(show kind=0∨kind=1∨kind=2∨kind=3∨kind=4 by omega) with rfl|rfl|rfl|rfl|rfl
  ·obtain rfl:=hvs (by decide);refine Rr ?_;exact aB nn ⟨by rw[hres];simp[dN],rfl,rfl⟩
  ·obtain rfl:=hvs (by decide);refine Rr ?_;exact aB nn ⟨by rw[hres];simp[dN],rfl,rfl⟩
  ·obtain rfl:=hvs (by decide);have f1:decide ((kids.length:Int)≥1)=decide (1<=kids.length):=by rw[Bool.eq_iff_iff];simp;omega
   have f2:decide ((kids.length:Int)<=256)=decide (kids.length<=256):=by rw[Bool.eq_iff_iff];simp;omega
   have f3:(((aT ws).length:Int) == (kids.length:Int))=decide (ws.length=kids.length):=by rw[aD,Bool.eq_iff_iff];simp;omega
   have f4:(((DD ls).length:Int) == 0)=decide (ls.length=0):=by rw[bZ,Bool.eq_iff_iff];simp
   have f5:(((DD ls).length:Int) == (kids.length:Int))=decide (ls.length=kids.length):=by rw[bZ,Bool.eq_iff_iff];simp;omega
   refine Rr ?_;rw[f1];generalize decide (1<=kids.length)=b1 at hres ⊢;cases b1 with
   | false=>
    refine Rr ?_;exact aB nn ⟨by rw[hres];simp,rfl,rfl⟩
   | true=>
   refine Rr ?_;rw[f2];generalize decide (kids.length<=256)=b2 at hres ⊢;cases b2 with
   | false=>
    refine Rr ?_;exact aB nn ⟨by rw[hres];simp,rfl,rfl⟩
   | true=>
   refine Rr ?_;rw[f3];generalize decide (ws.length=kids.length)=b3 at hres ⊢;cases b3 with
   | false=>
    refine Rr ?_;exact aB nn ⟨by rw[hres];simp,rfl,rfl⟩
   | true=>
   refine Rr ?_;rw[f4];generalize decide (ls.length=0)=b4 at hres ⊢;cases b4 with
   | true=>
    refine Rr ?_;exact aB nn ⟨by rw[hres];simp[dN],rfl,rfl⟩
   | false=>
    refine Rr ?_;rw[f5];exact aB nn ⟨by rw[hres];simp[dN],rfl,rfl⟩
  ·obtain rfl:=hvs (by decide);have f1:decide ((kids.length:Int)<=16)=decide (kids.length<=16):=by rw[Bool.eq_iff_iff];simp;omega
   have f2:decide ((kids.length:Int)<=256)=decide (kids.length<=256):=by rw[Bool.eq_iff_iff];simp;omega
   refine Rr ?_;refine aH (fun h=>?_) (fun h=>?_)
   ·have hn:name=[]:=by simpa using h
    rw[decide_eq_true hn] at hres;refine Rr ?_;rw[f2];exact aB nn ⟨by rw[hres];simp[dN],rfl,rfl⟩
   ·have hn:¬name=[]:=by simpa using h
    rw[decide_eq_false hn] at hres;refine Rr ?_;rw[f1];by_cases g:kids.length<=16
    ·rw[decide_eq_true g] at hres ⊢;rw[decide_eq_true (show kids.length<=256 by omega)] at hres;refine Rr ?_;refine hV.useC bG (.cons (.agg' (.s (.s (.s (.cons (.nil 4) .nil))))) .nil) nn ?_;refine Rr ?_;exact aB nn ⟨by rw[hres];simp[dN],rfl,rfl⟩
    ·rw[decide_eq_false g] at hres ⊢;refine Rr ?_;exact aB nn ⟨by rw[hres];simp,rfl,rfl⟩
  ·have hw4:IntKind.i64.wrap ((vals.length:Int)+1)=(vals.length:Int)+1:=w64 rfl ⟨om,om⟩;refine Rr ?_;refine a9.at bG (fun k:Nat=>1<=k/\k<=max 1 vals.length/\∀(j:Nat) (a b:a7),j+1<k->vals[j]? = some a->vals[j+1]? = some b->bW a b<0)
    (fun k=>⟨[(5,.ip (cH ⟨4,name,lo,hi,ws,ls,vals,kids,.mk vk vn vs vks⟩)),(6,.int .i64 kids.length),(9,.int .i64 k)],[],0,132⟩) (fun k=>vals.length-k) 1 [] ⟨om,om,fun j a b h=>om⟩
    (cL ⟨aR (.ip _ (hxn.cells.get)),aF,aF,trivial⟩) ?_
   rintro k ⟨hk1,hk2,hall⟩;refine Rr ?_;refine aH (fun h=>?_) (fun h=>?_)
   ·have hlt:k<vals.length:=by rw[aA] at h;simpa using h
    obtain⟨p1,p2,p3,p4,pm,pg,-,ep⟩:=bX (l:=vals) (k:=k-1) om;obtain⟨q1,q2,q3,q4,qm,qg,-,eq⟩:=bX (l:=vals) (k:=k) hlt;have hw1:IntKind.i64.wrap ((k:Int)-1)=((k-1:Nat):Int):=w64 om ⟨om,om⟩;have hc:=hcmp _ pm (.mk q1 q2 q3 q4);obtain⟨c,hc0⟩:∃c,c=bW (.mk p1 p2 p3 p4) (.mk q1 q2 q3 q4):=⟨_,rfl⟩
    rw[←hc0] at hc;refine Rt ?_;rw[hw1];refine Rr ?_;repeat((first|refine aC ep ?_|refine aC eq ?_|refine aX ?_);refine Rr ?_)
    refine hc.go ?_;refine Rr ?_;repeat((first|refine aC ep ?_|refine aC eq ?_|refine aX ?_);refine Rr ?_)
    refine aH (fun h=>?_) (fun h=>?_)
    ·refine Rr ?_;refine aB nn ⟨hF ?_,rfl,rfl⟩;intro e;rw[hres] at e;simp only[Bool.and_eq_true] at e;have:=iX e.2 (k-1) _ _ pg (by rw[show k-1+1=k by omega];exact qg);rw[←hc0] at this;simp at h;omega
    ·refine Rr ?_;refine .mk (k+1) [] ⟨om,om,fun j a b hj ha hb=>?_⟩ (cL ⟨aR (.ip _ (hxn.cells.get)),aF,⟨_,rfl,.w64 om ⟨om,om⟩⟩,trivial⟩) om;rcases Nat.lt_or_ge (j+1) k with hj'|hj'
     ·exact hall j a b hj' ha hb
     ·have hjk:j=k-1:=om;subst hjk;rw[pg] at ha;rw[show k-1+1=k by omega,qg] at hb;cases ha;cases hb;rw[←hc0];simpa using h
   ·have hlt:vals.length<=k:=by rw[aA] at h;simpa using h
    have hso:dN vals=true:=iZ fun j a b ha hb=>hall j a b (by have:=(List.getElem?_eq_some_iff.1 hb).1;omega) ha hb
    rw[hso] at hres;refine Rr ?_;rw[aA,hw4];refine aB nn ⟨?_,rfl,rfl⟩;rw[hres];congr 1;rw[Bool.eq_iff_iff];simp;omega
set_option maxHeartbeats 8000000
theorem bE{a b:Bool}(h1:a=true)(h2:b=true):(a && b)=true:=by rw[h1,h2];rfl
theorem nF{n:Nat}{s m:Int}(hn:Nat.ble n 100=true)(hs:0<=s)(h:100*s<=m):decide ((n:Int)*s<=m)=true:=by
 have hn:=Nat.le_of_ble_eq_true hn;have:(n:Int)*s<=100*s:=Int.mul_le_mul_of_nonneg_right om hs;simp;omega
theorem LR(a b:List a7)(ha:a.length<=1000000)(hb:b.length<=1000000)(hok:∀v∈a,gD v) :
  a8 prog [] 194 [.il 4 (aO a),.il 4 (aO b)] (.il 4 (aO (eA a b))):=by
 refine aM bG func194 rfl ?_;cases a with
 | nil=>
  rw[Ay];refine Rr ?_;exact aB (.il' (aS _)) ⟨rfl,rfl,rfl⟩
 | cons x l=>
  have d0:(((aO (x::l)).length:Int) == 0)=false:=by rw[aA,beq_eq_false_iff_ne];simp;omega
  obtain⟨a,hae⟩:∃a,a=x::l:=⟨_,rfl⟩
  rw[←hae] at d0 ha hok ⊢;clear hae;refine Rr ?_;rw[d0];have hw:IntKind.i64.wrap (((aO a).length:Int)+((aO b).length:Int))=((aO a).length:Int)+((aO b).length:Int):=cK ⟨om,by rw[aA,aA];omega⟩;have hal:(aO a).length<=1000000:=by rw[aA];exact ha
  have hbl:(aO b).length<=1000000:=by rw[aA];exact hb
  refine Rr ?_;rw[hw];refine aP (bE rfl (bE rfl (bE rfl (bE rfl (bE (decide_eq_true om) (bE (nF rfl om om) (decide_eq_true om))))))) ?_;refine Rr ?_;refine a9.at bG (fun p:List a7 × List a7 × List a7=>eA a b=p.1++eA p.2.1 p.2.2/\p.1.length<=2000000-p.2.1.length-p.2.2.length/\p.2.1.length+p.2.2.length<=2000000/\∀v∈p.2.1,gD v)
   (fun p=>⟨[(0,.il 4 (aO p.2.1)),(1,.il 4 (aO p.2.2)),(5,.sl 0 0 p.1.length)],[(0,.row 57 4 (aO p.1))],1,57⟩) (fun p=>p.2.1.length+p.2.2.length) ([],a,b) [(0,0)] ⟨by simp,by simp,by simp only;omega,hok⟩
   (aE _ rfl ⟨aJ 0 .nil,trivial⟩ ⟨aR (.il' (aS _)),aR (.il' (aS _)),⟨_,rfl,.sl 0 0 0 _ rfl⟩,trivial⟩) ?_
  clear hok hw hal hbl d0 ha hb;rintro⟨out,a',b'⟩ ⟨hm,hlen,hle,hok⟩;simp only at hm hlen hle hok ⊢;have eg:∀(z:a7) (r:List a7),decide (((aO (z::r)).length:Int)>0)=true:=fun z r=>by rw[aA];simp
  have Py:∀(z:a7) (r:List a7),((Int.toNat 1).ble (aO (z::r)).length && ((aO (z::r)).length.ble (aO (z::r)).length && (aO (z::r)).length.ble (aO (z::r)).length))=true:=fun z r=>bE (Nat.ble_eq_true_of_le (by rw[aA];simp)) (bE (Nat.ble_eq_true_of_le (Nat.le_refl _)) (Nat.ble_eq_true_of_le (Nat.le_refl _)))
  have ec:∀(z:a7) (r:List a7),List.take ((aO (z::r)).length-Int.toNat 1) (List.drop (Int.toNat 1) (aO (z::r)))=aO r:=fun z r=>by
   show List.take ((aO (z::r)).length-1) (aO r)=aO r
   exact List.take_of_length_le (by rw[aA,aA];simp)
  have fin:∀(o p q:List a7) (mem:aN) (n:Nat) (id:Nat),eA a b=o++p++q->lk mem id=some (.row 57 4 (aO o++aO p++aO q))->kQ 0 (fun r m n=>r=AV.il 4 (aO (eA a b))/\m=[]/\n=0) (.sl id 0 (o.length+(aO p).length+(aO q).length)) mem n:=by
   intro o p q mem n id h hl;refine bU (r':=.il 4 (aO (eA a b))) (.fzR hl rfl (.eq (aS _) (by rw[h];simp[eX])) (by rw[h];simp[aA];omega)) ⟨rfl,rfl,rfl⟩
  cases a' with
  | nil=>
   rw[Ay] at hm;refine Rr ?_;refine aP (bV rfl rfl (by simp[aA]) (by simp[aA] at *;omega)) ?_;refine Rr ?_;refine aP (bV rfl rfl (by simp[aA]) (by simp[aA] at *;omega)) ?_;refine Rr ?_;exact fin out [] b' _ _ _ (by simpa using hm) rfl
  | cons x l=>
   cases b' with
   | nil=>
    rw[D9] at hm;refine Rr ?_;rw[eg];refine Rr ?_;refine aP (bV rfl rfl (by simp[aA]) (by simp[aA] at *;omega)) ?_;refine Rr ?_;refine aP (bV rfl rfl (by simp[aA]) (by simp[aA] at *;omega)) ?_;refine Rr ?_;exact fin out (x::l) [] _ _ _ (by simpa using hm) rfl
   | cons y m=>
    rw[ET] at hm;have hc:=lN x y (hok x (by simp));have hok':∀v∈l,gD v:=fun v hv=>hok v (by simp[hv])
    obtain⟨c,hc0⟩:∃c,c=bW x y:=⟨_,rfl⟩
    rw[←hc0] at hc hm;clear hc0;obtain⟨x1,x2,x3,x4⟩:=x;obtain⟨y1,y2,y3,y4⟩:=y;refine Rr ?_;rw[eg];refine Rr ?_;rw[eg];refine Rt ?_;refine hc.go ?_;refine Rr ?_;rcases(show c<0∨c=0∨0<c by omega) with hcc|hcc|hcc
    ·have d1:decide (c<=0)=true:=by simp;omega
     have d2:decide (c≥0)=false:=by simp;omega
     rw[if_pos hcc] at hm;rw[d1];refine Rt ?_;refine aP (bV rfl rfl (by simp[aA]) (by simp[aA] at *;omega)) ?_;refine Rr ?_;refine aP (Py _ _) ?_;rw[ec];refine Rr ?_;rw[d2];refine Rr ?_;exact .mk (out++[.mk x1 x2 x3 x4],l,(.mk y1 y2 y3 y4)::m) [(10,0)] ⟨by simpa using hm,by simp at *;omega,by simp at *;omega,hok'⟩ (aE _ rfl ⟨⟨10,_,rfl,rfl,.eq (aS _) (by rw[e7];rfl)⟩,trivial⟩ ⟨aR (.il' (aS _)),aR (.il' (aS _)),⟨_,rfl,.slE rfl (by simp)⟩,trivial⟩) (by first|(simp;done)|(simp;omega))
    ·have d1:decide (c<=0)=true:=by simp;omega
     have d2:decide (c≥0)=true:=by simp;omega
     rw[if_neg om,if_pos hcc] at hm;rw[d1];refine Rt ?_;refine aP (bV rfl rfl (by simp[aA]) (by simp[aA] at *;omega)) ?_;refine Rr ?_;refine aP (Py _ _) ?_;rw[ec];refine Rr ?_;rw[d2];refine Rr ?_;refine aP (Py _ _) ?_;rw[ec];refine Rr ?_;exact .mk (out++[.mk x1 x2 x3 x4],l,m) [(10,0)] ⟨by simpa using hm,by simp at *;omega,by simp at *;omega,hok'⟩ (aE _ rfl ⟨⟨10,_,rfl,rfl,.eq (aS _) (by rw[e7];rfl)⟩,trivial⟩ ⟨aR (.il' (aS _)),aR (.il' (aS _)),⟨_,rfl,.slE rfl (by simp)⟩,trivial⟩) (by first|(simp;done)|(simp;omega))
    ·have d1:decide (c<=0)=false:=by simp;omega
     have d2:decide (c≥0)=true:=by simp;omega
     rw[if_neg om,if_neg om] at hm;rw[d1];refine Rt ?_;refine aP (bV rfl rfl (by simp[aA]) (by simp[aA] at *;omega)) ?_;refine Rr ?_;rw[d2];refine Rr ?_;refine aP (Py _ _) ?_;rw[ec];refine Rr ?_;exact .mk (out++[.mk y1 y2 y3 y4],(.mk x1 x2 x3 x4)::l,m) [(10,0)] ⟨by simpa using hm,by simp at *;omega,by simp at *;omega,hok⟩ (aE _ rfl ⟨⟨10,_,rfl,rfl,.eq (aS _) (by rw[e7];rfl)⟩,trivial⟩ ⟨aR (.il' (aS _)),aR (.il' (aS _)),⟨_,rfl,.slE rfl (by simp)⟩,trivial⟩) (by first|(simp;done)|(simp;omega))
set_option maxHeartbeats 8000000
theorem sB{α β γ:Type}(f:α->β->γ):∀(a:List α) (b:List β) (i:Nat) (x:α) (y:β),b[i]? = some y->List.zipWith f (a.set i x) b=(List.zipWith f a b).set i (f x y)
 | [],b,i,x,y,_=>by simp
 | p::a,[],i,x,y,hy=>by simp at hy
 | p::a,q::b,0,x,y,hy=>by simp at hy;subst hy;simp
 | p::a,q::b,i+1,x,y,hy=>by simp at hy;simp[sB f a b i x y hy]
def kB(kn:List Bool):List AV:=kn.map AV.bool
def lB(L:List Go.Ax.f6)(kn:List Bool):List AV:=List.zipWith (fun b (x:Go.Ax.f6)=>AV.il 4 (aO (if b=true then x.vals else []))) kn L
def mB(L:List Go.Ax.f6)(kn:List Bool):List AV:=List.zipWith (fun b (x:Go.Ax.f6)=>AV.bool (b && x.many)) kn L
theorem gI(kn:List Bool):iW (kB kn):=fun a ha=>by
 obtain⟨n,_,rfl⟩:=List.mem_map.1 ha;exact .bool _
theorem HE{α β γ:Type}{f:α->β->γ}{a:List α}{b:List β}{z:γ}(h:z∈List.zipWith f a b):∃x y,z=f x y:=by
 obtain⟨i,hi⟩:=List.getElem?_of_mem h;rw[List.getElem?_zipWith] at hi;split at hi
 ·cases hi;exact⟨_,_,rfl⟩
 ·cases hi
theorem vU(L:List Go.Ax.f6)(kn:List Bool):iW (lB L kn):=fun a ha=>by
 obtain⟨x,y,rfl⟩:=HE ha;exact .il' (aS _)
theorem tZ(L:List Go.Ax.f6)(kn:List Bool):iW (mB L kn):=fun a ha=>by
 obtain⟨x,y,rfl⟩:=HE ha;exact .bool _
theorem wS{L:List Go.Ax.f6}{i:Nat}(h:i<L.length):L[i]? = some (cT L i):=by
 unfold cT;rw[List.getD_eq_getElem?_getD,Int.toNat_natCast,List.getElem?_eq_getElem h];rfl
theorem Ku{kn:List Bool}{i:Nat}{b:Bool}(h:kn[i]? = some b):(kB kn)[i]? = some (.bool b):=by simp[kB,h]
theorem Jx{L:List Go.Ax.f6}{kn:List Bool}{i:Nat}{b:Bool}(h:kn[i]? = some b)(hl:i<L.length):(lB L kn)[i]? = some (.il 4 (aO (if b=true then(cT L i).vals else []))):=by
 simp[lB,List.getElem?_zipWith,h,wS hl]
theorem Kq{L:List Go.Ax.f6}{kn:List Bool}{i:Nat}{b:Bool}(h:kn[i]? = some b)(hl:i<L.length):(mB L kn)[i]? = some (.bool (b && (cT L i).many)):=by
 simp[mB,List.getElem?_zipWith,h,wS hl]
theorem N9(kn:List Bool)(i:Nat)(b:Bool):kB (kn.set i b)=(kB kn).set i (.bool b):=by simp[kB,List.map_set]
theorem NT{L:List Go.Ax.f6}(kn:List Bool){i:Nat}(hl:i<L.length):lB L (kn.set i true)=(lB L kn).set i (.il 4 (aO (cT L i).vals)):=by
 unfold lB;rw[sB _ kn L i true _ (wS hl)];simp
theorem OK{L:List Go.Ax.f6}(kn:List Bool){i:Nat}(hl:i<L.length):mB L (kn.set i true)=(mB L kn).set i (.bool (cT L i).many):=by
 unfold mB;rw[sB _ kn L i true _ (wS hl)];simp
def sM(ns:List Nd)(kn:List Bool):aN:=[(0,.row 203 4 [.agg [.il 12 (aW ns),.sl 1 0 ns.length,.sl 2 0 ns.length,.sl 3 0 ns.length]]),(1,.row 4 1 (kB kn)),(2,.row 55 1 (lB (aL ns) kn)),(3,.row 4 1 (mB (aL ns) kn))]
def uQ(ns:List Nd)(l:Go.Ax.f6):AV->aN->Nat->Prop:=fun r m k=>∃kn,kn.length=ns.length/\r = .tup [.il 4 (aO l.vals),.bool (!l.many)]/\m=sM ns kn/\k=4
def sQ(ns:List Nd)(i:Nat):AV->aN->Nat->Prop:=uQ ns (cT (aL ns) i)
theorem Bn{mem:aN}{σ:List (Nat × Nat)}{ns:List Nd}{N a b c a' b' c':Nat}(h1:lk σ a=some a')(h2:lk σ b=some b')(h3:lk σ c=some c') :
  qS mem σ [.agg [.il 12 (aW ns),.sl a 0 N,.sl b 0 N,.sl c 0 N]] [.agg [.il 12 (aW ns),.sl a' 0 N,.sl b' 0 N,.sl c' 0 N]]:=
 .cons (.agg (.cons (.same _ (.il' (aU _))) (.cons (.sl a a' 0 N h1) (.cons (.sl b b' 0 N h2) (.cons (.sl c c' 0 N h3) .nil))))) .nil
theorem fB(ns:List Nd)(kn:List Bool):cM (sM ns kn) (oP [0,1,2,3]) (sM ns kn):=
 ⟨⟨0,_,rfl,rfl,Bn rfl rfl rfl⟩,aJ 1 (gI _),aJ 2 (vU _ _),aJ 3 (tZ _ _),trivial⟩
theorem Qg{ns:List Nd}{n:Nat}(h:gC ns n)(i:Nat)(hi:i<n)(kn:List Bool)(hk:kn.length=ns.length)
  (hF:aG prog [] 168 [.ptr 0 0 0,.int .i64 i] (sM ns kn) 4 (sQ ns i)) :
  aG prog [] 146 [.ptr 0 0 0,.int .i64 i] (sM ns kn) 4 (sQ ns i):=by
 have hN:=h.hn;have hL:i<(aL ns).length:=by rw[dM];omega
 have h0:0+((i:Nat):Int).toNat=i:=by simp
 have hg:∀kn:List Bool,kn.length=ns.length->∃b,kn[i]? = some b:=fun kn hk=>⟨kn[i],List.getElem?_eq_getElem om⟩
 obtain⟨b,hb⟩:=hg kn hk;have e1:(kB kn)[0+((i:Nat):Int).toNat]? = some (.bool b):=by rw[h0];exact Ku hb
 have g1:Nat.blt ((i:Nat):Int).toNat ns.length=true:=Nat.ble_eq_true_of_le (by simp;omega);refine aM bG func146 rfl ?_;refine Rr ?_;repeat((first|refine aP g1 ?_|refine aC e1 ?_);refine Rr ?_)
 have fin:∀(mem:aN) (kn':List Bool),kn'.length=ns.length->cM mem (oP [0,1,2,3]) (sM ns kn')->∀(r:AV) (nx:Nat),Cv mem (oP [0,1,2,3]) r (.tup [.il 4 (aO (cT (aL ns) i).vals),.bool (!(cT (aL ns) i).many)])->kQ 4 (sQ ns i) r mem nx:=
  fun mem kn' hk' hM r nx hr=>bN (n':=4) (m':=sM ns kn') (oP [0,1,2,3]) rfl hM hr ⟨kn',hk',rfl,rfl,rfl⟩
 cases b with
 | true=>
  have e2:(lB (aL ns) kn)[0+((i:Nat):Int).toNat]? = some (.il 4 (aO (cT (aL ns) i).vals)):=by rw[h0,Jx hb hL];rfl
  have e3:(mB (aL ns) kn)[0+((i:Nat):Int).toNat]? = some (.bool (cT (aL ns) i).many):=by rw[h0,Kq hb hL];rfl
  refine Rr ?_;repeat((first|refine aP g1 ?_|refine aC e1 ?_|refine aC e2 ?_|refine aC e3 ?_|refine aX ?_);refine Rr ?_)
  exact fin _ kn hk (fB ns kn) _ _ (.same _ nn)
 | false=>
  refine Rr ?_;refine aG.useI bG [0,1,2,3] hF (by rfl) (.cons (.ptr 0 0 0 0 rfl) (.s .nil)) (fB ns kn) (by rfl) ?_;rintro r m k ⟨kn',hk',rfl,rfl,rfl⟩;refine⟨nn,fB ns kn',by rfl, ?_⟩;obtain⟨b',hb'⟩:=hg kn' hk';have e1:(kB kn')[0+((i:Nat):Int).toNat]? = some (.bool b'):=by rw[h0];exact Ku hb'
  have e2:=Jx hb' hL;have e3:=Kq hb' hL;rw[←h0] at e2 e3;have q1:((kB kn').set (0+((i:Nat):Int).toNat) (.bool true))[0+((i:Nat):Int).toNat]? = some (.bool true):=by rw[h0];exact List.getElem?_set_self (by simp[kB];omega)
  have q2:((lB (aL ns) kn').set (0+((i:Nat):Int).toNat) (.il 4 (aO (cT (aL ns) i).vals)))[0+((i:Nat):Int).toNat]? = some (.il 4 (aO (cT (aL ns) i).vals)):=by rw[h0];exact List.getElem?_set_self (by simp[lB,List.length_zipWith];omega)
  have q3:((mB (aL ns) kn').set (0+((i:Nat):Int).toNat) (.bool (!(!(cT (aL ns) i).many))))[0+((i:Nat):Int).toNat]? = some (.bool (!(!(cT (aL ns) i).many))):=by rw[h0];exact List.getElem?_set_self (by simp[mB,List.length_zipWith];omega)
  refine Rr ?_;repeat((first|refine aP g1 ?_|refine aC e1 ?_|refine aC e2 ?_|refine aC e3 ?_|refine aC q1 ?_|refine aC q2 ?_|refine aC q3 ?_|refine aX ?_|refine bL.2 ?_);refine Rr ?_)
  rw[h0];refine fin _ (kn'.set i true) (by simp[hk']) ⟨⟨0,_,rfl,rfl,Bn rfl rfl rfl⟩,⟨1,_,rfl,rfl,.eq (gI _) (N9 _ _ _).symm⟩,⟨2,_,rfl,rfl,.eq (vU _ _) (NT _ hL).symm⟩,⟨3,_,rfl,rfl,.eq (tZ _ _) (by rw[OK _ hL,Bool.not_not])⟩,trivial⟩ _ _ (.eq nn (by rw[Bool.not_not]))
set_option maxHeartbeats 8000000
def MU(ns:List Nd)(i:Nat):Prop:=∀kn:List Bool,kn.length=ns.length->aG prog [] 146 [.ptr 0 0 0,.int .i64 i] (sM ns kn) 4 (sQ ns i)
theorem zI{ns:List Nd}{l:Go.Ax.f6}(mem:aN)(kn':List Bool)(hk':kn'.length=ns.length)(hM:cM mem (oP [0,1,2,3]) (sM ns kn'))(r:AV)(nx:Nat)(hr:Cv mem (oP [0,1,2,3]) r (.tup [.il 4 (aO l.vals),.bool (!l.many)])):kQ 4 (uQ ns l) r mem nx:=
 bN (n':=4) (m':=sM ns kn') (oP [0,1,2,3]) rfl hM hr ⟨kn',hk',rfl,rfl,rfl⟩
theorem Nw{ns:List Nd}{n:Nat}(h:gC ns n)(i:Nat)(hi:i<=n)(kids:List Int)(hkl:kids.length<=65536)(hkids:∀k∈kids,0<=k/\k<i)(hOf:∀j<i,MU ns j)(kn:List Bool)(hk:kn.length=ns.length) :
  aG prog [] 182 [.ptr 0 0 0,.il 1 (aT kids)] (sM ns kn) 4 (uQ ns (kI (aL ns) kids)):=by
 refine aM bG func182 rfl ?_;refine Rr ?_;refine a9.at bG (fun p:Nat × List Bool × List a7=>p.1<=kids.length/\p.2.1.length=ns.length/\(kids.take p.1).foldl (bJ (aL ns)) ([],false)=(p.2.2,false)/\kL p.2.2/\p.2.2.length<=1024/\∀v∈p.2.2,gD v)
  (fun p=>⟨[(0,.ptr 0 0 0),(6,.il 4 (aO p.2.2)),(11,.il 1 (aT kids)),(12,.int .i64 kids.length),(13,.int .i64 p.1)],sM ns p.2.1,4,33⟩) (fun p=>kids.length-p.1) (0,kn,[]) (oP [0,1,2,3])
  ⟨by simp,hk,by simp,by simp[kL],by simp,by simp⟩
  (aE _ rfl (fB ns kn) ⟨aK,⟨_,rfl,.nil 4⟩,aR (.il' (aQ _)),⟨_,rfl,.int (by rw[aD])⟩,aF,trivial⟩) ?_
 rintro⟨j,kn,out⟩ ⟨hj,hk,hf,hso,hol,hok⟩;simp only at hj hk hf hso hol hok ⊢;refine Rr ?_;refine aH (fun hb=>?_) (fun hb=>?_)
 ·have hlt:j<kids.length:=by simpa using hb
  have e1:(aT kids)[(j:Int).toNat]? = some (.int .i64 kids[j]):=by rw[Int.toNat_natCast,bF,List.getElem?_eq_getElem hlt];rfl
  have hg:kids[j]? = some kids[j]:=List.getElem?_eq_getElem hlt;generalize kids[j]=k at e1 hg;obtain⟨k0,k1⟩:=hkids k (List.mem_of_getElem? hg);obtain⟨k,rfl⟩:=Int.eq_ofNat_of_zero_le k0;have hO:=hOf k om kn hk;have hst:=Ni hg hf;have hvals:=h.vals (k:=k) om om;have hsr:=Qn ns k;simp only[bJ,Bool.false_or] at hst;unfold sQ at hO;refine Rr ?_;refine aC e1 ?_;refine Rr ?_;refine aG.useI bG [0,1,2,3] hO (by rfl) (.cons (.ptr 0 0 0 0 rfl) (.s .nil)) (fB ns kn) (by rfl) ?_;rintro r m k' ⟨kn',hk',rfl,rfl,rfl⟩;refine⟨nn,fB ns kn',by rfl, ?_⟩;generalize cT (aL ns) k=lk at hst hvals hsr;obtain⟨lv,lm⟩:=lk;simp only at hst hvals hsr;cases lm with
  | true=>
   have hbad:=HF (bs:=aL ns) (kids:=kids) (j:=j+1) (by rw[hst];rfl);rw[hbad];refine Rr ?_;exact zI _ kn' hk' (fB ns kn') _ _ (.tup' (.cons (.nil 4) (.s .nil)))
  | false=>
   have hm:=LR out lv om om hok;have hms:=Dz hso hsr;rw[←hms] at hst;have hmok:∀v∈eA out lv,gD v:=fun v hv=>by
    rcases(mV _ _ _).1 hv with hv|hv
    ·exact hok v hv
    ·exact hvals.2 v hv
   have hmsr:=AP out lv hso hsr;generalize eA out lv=mg at *;refine Rr ?_;refine hm.go ?_;refine Rr ?_;refine aH (fun hb2=>?_) (fun hb2=>?_)
   ·have h1:1024<mg.length:=by rw[aA] at hb2;simp at hb2;omega
    have hbad:=HF (bs:=aL ns) (kids:=kids) (j:=j+1) (by rw[hst];simpa using h1);rw[hbad];refine Rr ?_;exact zI _ kn' hk' (fB ns kn') _ _ (.tup' (.cons (.nil 4) (.s .nil)))
   ·have h1:mg.length<=1024:=by rw[aA] at hb2;simp at hb2;omega
    refine Rr ?_;exact .mk (j+1,kn',mg) (oP [0,1,2,3]) ⟨by simp only;omega,hk',by simp only;rw[hst];simp;omega,hmsr,h1,hmok⟩
     (aE _ rfl (fB ns kn') ⟨aK,aF,aR (.il' (aQ _)),aF,⟨_,rfl,.wp⟩,trivial⟩) (by simp only;omega)
 ·have hlt:j=kids.length:=by simp at hb;omega
  rw[hlt,List.take_length] at hf;rw[KC hf];refine Rr ?_;exact zI _ kn hk (fB ns kn) _ _ (.same _ nn)
def encLs(ls:List (List a7)):List AV:=ls.map fun l=>.il 4 (aO l)
theorem encLs_nn(ls:List (List a7)):iW (encLs ls):=fun a ha=>by
 obtain⟨l,_,rfl⟩:=List.mem_map.1 ha;exact .il' (aS _)
theorem encLs_length(ls:List (List a7)):(encLs ls).length=ls.length:=by simp[encLs]
theorem encLs_get{ls:List (List a7)}{i:Nat}{l:List a7}(h:ls[i]? = some l):(encLs ls)[i]? = some (.il 4 (aO l)):=by simp[encLs,h]
def Oh(ns:List Nd)(kn:List Bool)(rest:aN):aN:=(0,.row 203 4 [.agg [.il 12 (aW ns),.sl 1 0 ns.length,.sl 2 0 ns.length,.sl 3 0 ns.length]])::(1,.row 4 1 (kB kn))::(2,.row 55 1 (lB (aL ns) kn))::(3,.row 4 1 (mB (aL ns) kn))::rest
theorem fI{mem:aN}{σ:List (Nat × Nat)}{ns:List Nd}{kn:List Bool}{rest:aN}(h0:lk σ 0=some 0)(h1:lk σ 1=some 1)(h2:lk σ 2=some 2)(h3:lk σ 3=some 3)
  (m0:lk mem 0=some (.row 203 4 [.agg [.il 12 (aW ns),.sl 1 0 ns.length,.sl 2 0 ns.length,.sl 3 0 ns.length]])) (m1:lk mem 1=some (.row 4 1 (kB kn))) (m2:lk mem 2=some (.row 55 1 (lB (aL ns) kn))) (m3:lk mem 3=some (.row 4 1 (mB (aL ns) kn)))
  (hr:cM mem σ rest):cM mem σ (Oh ns kn rest):=
 ⟨⟨0,_,h0,m0,Bn h1 h2 h3⟩,⟨1,_,h1,m1,.same (gI _)⟩,⟨2,_,h2,m2,.same (vU _ _)⟩,⟨3,_,h3,m3,.same (tZ _ _)⟩,hr⟩
theorem A2{mem:aN}{σ:List (Nat × Nat)}:∀m:Nat,qS mem σ (List.replicate m .nsl) (encLs (List.replicate m []))
 | 0=>.nil
 | m+1=>by
  rw[List.replicate_succ,List.replicate_succ];exact .cons (.one rfl rfl (.nil 4)) (A2 m)
theorem Ma(ls:List (List a7))(i:Nat)(l:List a7):encLs (ls.set i l)=(encLs ls).set i (.il 4 (aO l)):=by simp[encLs,List.map_set]
theorem CP{mem:aN}{σ:List (Nat × Nat)}:∀m:Nat,qS mem σ (List.replicate m (.agg [.int .i64 0,.int .i64 0,.str [],.nsl])) (aO (List.replicate m (.mk 0 0 [] [])))
 | 0=>.nil
 | m+1=>by
  rw[List.replicate_succ,List.replicate_succ,aO];exact .cons (v5 0 0 []) (CP m)
theorem Jr{ns:List Nd}{n:Nat}(h:gC ns n)(i:Nat)(hi:i<=n)(x:Nd)(hkl:x.kids.length<=65536)(hkids:∀k∈x.kids,0<=k/\k<i)(hOf:∀j<i,MU ns j)(kn:List Bool)(hk:kn.length=ns.length) :
  aG prog [] 183 [.ptr 0 0 0,.ip (cH x)] (sM ns kn) 4 (uQ ns (nO (aL ns) x)):=by
 have hxn:=a6 x;have hpb:=fun(j:Nat) (e:((x.kids.take j).foldl (fT (aL ns)) (1,false)).2=true)=>Lz (bs:=aL ns) (x:=x) (j:=j) e
 have hpg:=fun(t:Nat) (e:x.kids.foldl (fT (aL ns)) (1,false)=(t,false))=>KJ (BV ns) (x:=x) (t:=t) e
 have hmade:=fun ks=>Kr x ks
 generalize nO (aL ns) x=res at hpb hpg ⊢;obtain⟨kind,name,lo,hi',ws,ls,vals,kids,⟨vk,vn,vs,vks⟩⟩:=x;simp only at hkl hkids hpb hpg;refine aM bG func183 rfl ?_;refine Rr ?_;refine aP (bE rfl (bE rfl (bE rfl (bE (decide_eq_true om) (bE (decide_eq_true om) (bE (nF rfl om (by simp only[aD];omega)) (decide_eq_true (by simp only[aD];omega)))))))) ?_;refine Rr ?_;refine a9.at bG (fun p:Nat × List Bool × Nat × List (List a7)=>p.1<=kids.length/\p.2.1.length=ns.length/\(kids.take p.1).foldl (fT (aL ns)) (1,false)=(p.2.2.1,false)/\p.2.2.1<=1024/\p.2.2.2.length=kids.length/\(∀(q:Nat) (k:Int),q<p.1->kids[q]? = some k->p.2.2.2[q]? = some (cT (aL ns) k).vals/\(cT (aL ns) k).vals≠[]))
  (fun p=>⟨[(0,.ptr 0 0 0),(1,.ip (cH ⟨kind,name,lo,hi',ws,ls,vals,kids,.mk vk vn vs vks⟩)),(6,.sl 4 0 kids.length),(7,.int .i64 p.2.2.1),(25,.il 1 (aT kids)),(26,.int .i64 kids.length),(27,.int .i64 p.1)],Oh ns p.2.1 [(4,.row 55 1 (encLs p.2.2.2))],5,98⟩)
  (fun p=>kids.length-p.1) (0,kn,1,List.replicate kids.length []) (oP [0,1,2,3,4])
  ⟨by simp,hk,by simp,by simp,by simp,fun q k hq=>by simp at hq⟩
  (aE _ rfl (fI rfl rfl rfl rfl rfl rfl rfl rfl ⟨⟨4,_,rfl,rfl,.to (A2 kids.length) (by rw[show (((aT kids).length:Nat):Int).toNat=kids.length by rw[aD];simp])⟩,trivial⟩) ⟨aK,aR (.ip' hxn),⟨_,rfl,.slE rfl (by rw[aD];simp)⟩,aF,aR (.il' (aQ _)),⟨_,rfl,.int (by rw[aD])⟩,aF,trivial⟩) ?_
 rintro⟨j,kn,total,lists⟩ ⟨hj,hk,hf,hto,hll,hls⟩;simp only at hj hk hf hto hll hls ⊢;refine Rr ?_;refine aH (fun hb=>?_) (fun hb=>?_)
 ·have hlt:j<kids.length:=by simpa using hb
  have e1:(aT kids)[(j:Int).toNat]? = some (.int .i64 kids[j]):=by rw[Int.toNat_natCast,bF,List.getElem?_eq_getElem hlt];rfl
  have hg:kids[j]? = some kids[j]:=List.getElem?_eq_getElem hlt;generalize kids[j]=k at e1 hg;obtain⟨k0,k1⟩:=hkids k (List.mem_of_getElem? hg);obtain⟨k,rfl⟩:=Int.eq_ofNat_of_zero_le k0;have hO:=hOf k om kn hk;have hst:=NK hg hf;have hvals:=h.vals (k:=k) om om;have hne:=h.ne (k:=k) om om;have hls':∀(q:Nat) (k':Int),q<j+1->kids[q]? = some k'->(q<j/\(lists[q]? = some (cT (aL ns) k').vals/\(cT (aL ns) k').vals≠[]))∨(q=j/\k'=k):=fun q k' hq hk'=>by
   rcases Nat.lt_or_ge q j with hq'|hq'
   ·exact .inl ⟨hq',hls q k' hq' hk'⟩
   ·have:q=j:=om;subst this;rw[hg] at hk';cases hk';exact .inr ⟨rfl,rfl⟩
  simp only[fT,Bool.false_or] at hst;unfold sQ at hO;refine Rr ?_;refine aC e1 ?_;refine Rr ?_;refine aG.useI bG [0,1,2,3] hO (by rfl) (.cons (.ptr 0 0 0 0 rfl) (.s .nil)) (fB ns kn) (by rfl) ?_;rintro r m k' ⟨kn',hk',rfl,rfl,rfl⟩;refine⟨nn,fB ns kn',by rfl, ?_⟩;obtain⟨lk,hlk⟩:∃lk,lk=cT (aL ns) k:=⟨_,rfl⟩
  rw[←hlk] at hst hvals hne ⊢;obtain⟨lv,lm⟩:=lk;simp only at hst hvals hne;cases lm with
  | true=>
   have hbad:=hpb (j+1) (by rw[hst];rfl);rw[hbad];refine Rr ?_;exact zI _ kn' hk' (fI rfl rfl rfl rfl rfl rfl rfl rfl trivial) _ _ (.tup' (.cons (.nil 4) (.s .nil)))
  | false=>
   have hw:IntKind.i64.wrap ((total:Int)*((aO lv).length:Int))=((total*lv.length:Nat):Int):=by
    have:total*lv.length<=1024*1024:=Nat.mul_le_mul hto hvals.1;exact w64 (by rw[aA];simp) ⟨om,om⟩
   refine Rr ?_;rw[hw];refine Rr ?_;refine aH (fun hb2=>?_) (fun hb2=>?_)
   ·have hbad:=hpb (j+1) (by rw[hst];simp at hb2 ⊢;omega);rw[hbad];refine Rr ?_;exact zI _ kn' hk' (fI rfl rfl rfl rfl rfl rfl rfl rfl trivial) _ _ (.tup' (.cons (.nil 4) (.s .nil)))
   ·have hto':total*lv.length<=1024:=by simp at hb2;omega
    have h0:0+((j:Nat):Int).toNat=j:=by simp
    have g1:Nat.blt ((j:Nat):Int).toNat kids.length=true:=Nat.ble_eq_true_of_le (by simp;omega);have e3:(encLs lists)[0+((j:Nat):Int).toNat]? = some (.il 4 (aO lists[j])):=by rw[h0];exact encLs_get (List.getElem?_eq_getElem om)
    have e4:((encLs lists).set (0+((j:Nat):Int).toNat) (.il 4 (aO lv)))[0+((j:Nat):Int).toNat]? = some (.il 4 (aO lv)):=by rw[h0];exact List.getElem?_set_self (by rw[encLs_length];omega)
    refine Rt ?_;repeat((first|refine aP g1 ?_|refine aC e3 ?_|refine aC e4 ?_);refine Rt ?_)
    exact .mk (j+1,kn',total*lv.length,lists.set j lv) (oP [0,1,2,3,4]) ⟨by simp only;omega,hk',by simp only;rw[hst];simp;omega,hto',by simp only[List.length_set];exact hll,fun q k' hq hkq=>by
      simp only at hq ⊢;rcases hls' q k' hq hkq with⟨h1,h2,h3⟩|⟨rfl,rfl⟩
      ·rw[List.getElem?_set_ne om];exact⟨h2,h3⟩
      ·rw[List.getElem?_set_self om,←hlk];exact⟨rfl,hne rfl⟩⟩
     (aE _ rfl (fI rfl rfl rfl rfl rfl rfl rfl rfl ⟨⟨4,_,rfl,rfl,.eq (encLs_nn _) (by rw[h0];exact(Ma _ _ _).symm)⟩,trivial⟩) ⟨aK,aR (.ip' hxn),⟨_,rfl,.slE rfl rfl⟩,aF,aR (.il' (aQ _)),aF,⟨_,rfl,.wp⟩,trivial⟩) (by simp only;omega)
 ·have hlt:j=kids.length:=by simp at hb;omega
  rw[hlt,List.take_length] at hf;obtain⟨hres,hpr⟩:=hpg total hf;rw[hres];have hlv:lists=kids.map fun k=>(cT (aL ns) k).vals:=List.ext_getElem? fun q=>by
   rw[List.getElem?_map];rcases Nat.lt_or_ge q kids.length with hq|hq
   ·rw[(hls q _ om (List.getElem?_eq_getElem hq)).1,List.getElem?_eq_getElem hq];rfl
   ·rw[List.getElem?_eq_none om,List.getElem?_eq_none hq];rfl
  have hlne:∀l∈lists,l≠[]:=fun l hl=>by
   rw[hlv] at hl;obtain⟨k,hk,rfl⟩:=List.mem_map.1 hl;obtain⟨q,hq⟩:=List.getElem?_of_mem hk;exact(hls q k (by rw[hlt];exact(List.getElem?_eq_some_iff.1 hq).1) hq).2
  have hllen:∀l∈lists,l.length<=1024:=fun l hl=>by
   rw[hlv] at hl;obtain⟨k,hk,rfl⟩:=List.mem_map.1 hl;obtain⟨k0,k1⟩:=hkids k hk;exact(h.vals k0 om).1
  rw[←hlv] at hpr ⊢;clear hpb hpg hls hlv hres hf;refine Rr ?_;refine aP (bE rfl (bE rfl (bE rfl (bE rfl (bE (decide_eq_true om) (bE (nF rfl om om) (decide_eq_true om))))))) ?_;refine Rr ?_;refine a9.at bG (fun p:Nat × List a7=>p.1<=total/\p.2=((oN lists.reverse).take p.1).map (c9 name)/\p.2.length=p.1)
   (fun p=>⟨[(1,.ip (cH ⟨kind,name,lo,hi',ws,ls,vals,kids,.mk vk vn vs vks⟩)),(6,.sl 4 0 kids.length),(12,.sl 5 0 p.1),(53,.int .i64 total),(54,.int .i64 p.1)],Oh ns kn [(4,.row 55 1 (encLs lists)),(5,.row 57 4 (aO p.2))],6,98⟩)
   (fun p=>total-p.1) (0,[]) (oP [0,1,2,3,4,5])
   ⟨by simp,by simp,by simp⟩
   (aE _ rfl (fI rfl rfl rfl rfl rfl rfl rfl rfl ⟨aJ 4 (encLs_nn _),⟨5,_,rfl,rfl,.nil⟩,trivial⟩) ⟨aR (.ip' hxn),⟨_,rfl,.slE rfl rfl⟩,⟨_,rfl,.slE rfl rfl⟩,aF,aF,trivial⟩) ?_
  rintro⟨k,all⟩ ⟨hkt,hall,hal⟩;simp only at hkt hall hal ⊢;refine Rr ?_;refine aH (fun hb=>?_) (fun hb=>?_)
  ·have hlt2:k<total:=by simpa using hb
   refine Rr ?_;refine aP (bE rfl (bE rfl (bE rfl (bE (decide_eq_true om) (bE (decide_eq_true om) (bE (nF rfl om om) (decide_eq_true om))))))) ?_;refine Rr ?_;refine a9.at bG (fun p:Nat × Nat × List a7=>p.1<=kids.length/\p.2.1<=1024/\p.2.2.length=kids.length/\Go.Ax.rowAt (lists.take p.1).reverse p.2.1++p.2.2.drop p.1=Go.Ax.rowAt lists.reverse k)
    (fun p=>⟨[(1,.ip (cH ⟨kind,name,lo,hi',ws,ls,vals,kids,.mk vk vn vs vks⟩)),(6,.sl 4 0 kids.length),(12,.sl 5 0 k),(13,.int .i64 p.2.1),(14,.sl 6 0 kids.length),(15,.int .i64 ((p.1:Int)-1)),(53,.int .i64 total),(54,.int .i64 k)],Oh ns kn [(4,.row 55 1 (encLs lists)),(5,.row 57 4 (aO all)),(6,.row 57 4 (aO p.2.2))],7,98⟩)
    (fun p=>p.1) (kids.length,k,List.replicate kids.length (.mk 0 0 [] [])) (oP [0,1,2,3,4,5,6])
    ⟨by simp,by simp only;omega,by simp,by simp only;rw[←hll,List.take_length,List.drop_of_length_le (by simp)];simp⟩
    (aE _ rfl (fI rfl rfl rfl rfl rfl rfl rfl rfl ⟨aJ 4 (encLs_nn _),aJ 5 (aS _),⟨6,_,rfl,rfl,CP _⟩,trivial⟩) ⟨aR (.ip' hxn),⟨_,rfl,.slE rfl rfl⟩,⟨_,rfl,.slE rfl rfl⟩,aF,⟨_,rfl,.slE rfl (by simp)⟩,⟨_,rfl,.w64 (by simp only) ⟨by simp only;omega,by simp only;omega⟩⟩,aF,aF,trivial⟩) ?_
   rintro⟨q,kk,row⟩ ⟨hq,hkk,hrl,hrow⟩;simp only at hq hkk hrl hrow ⊢;refine Rr ?_;refine aH (fun hb=>?_) (fun hb=>?_)
   ·obtain⟨q,rfl⟩:∃q',q=q'+1:=⟨q-1,by simp at hb;omega⟩
    obtain⟨l,hl⟩:∃l,lists[q]? = some l:=⟨lists[q],List.getElem?_eq_getElem om⟩
    have hlm:=List.mem_of_getElem? hl;have hl0:=List.length_pos_iff.2 (hlne l hlm);have hl1:=hllen l hlm;have hmod:=Nat.mod_lt kk hl0;have hdiv:=Nat.div_le_self kk l.length;obtain⟨v1,v2,v3,v4,vm,vg,-,ev⟩:=bX (l:=l) (k:=kk%l.length) hmod;have hrs:=GB (kk:=kk) hl vg;have e0:0+((q:Nat):Int).toNat=q:=by simp
    have g1:Nat.blt ((q:Nat):Int).toNat kids.length=true:=Nat.ble_eq_true_of_le (by simp;omega);have e3:(encLs lists)[0+((q:Nat):Int).toNat]? = some (.il 4 (aO l)):=by rw[e0];exact encLs_get hl
    have e15:((q+1:Nat):Int)-1=(q:Int):=om;rw[e15];refine Rr ?_;have d0:(!decide (((aO l).length:Int)=0))=true:=by rw[aA,Bool.not_eq_true',decide_eq_false_iff_not];omega
    have em:(kk:Int).tmod ((aO l).length:Int)=((kk%l.length:Nat):Int):=by rw[aA];exact(Int.ofNat_tmod kk l.length).symm
    have ed:(kk:Int).tdiv ((aO l).length:Int)=((kk/l.length:Nat):Int):=by rw[aA];exact(Int.ofNat_tdiv kk l.length).symm
    have ex:(aO row)[0+((q:Nat):Int).toNat]? = some (bK row[q]):=by rw[e0,gK,List.getElem?_eq_getElem om];rfl
    have ey:((aO row).set (0+((q:Nat):Int).toNat) (bK (.mk v1 v2 v3 v4)))[0+((q:Nat):Int).toNat]? = some (bK (.mk v1 v2 v3 v4)):=by rw[e0];exact List.getElem?_set_self (by rw[aA];omega)
    generalize row[q]=old at ex;obtain⟨o1,o2,o3,o4⟩:=old;repeat((first|refine aP g1 ?_|refine aC e3 ?_|refine aC ev ?_|refine aC ex ?_|refine aC ey ?_|refine bL.2 ?_|refine aX ?_|refine aP d0 ?_;(first|rw[em]|rw[ed]|skip));refine Rr ?_)
    have hdr:(row.set q (.mk v1 v2 v3 v4)).drop q = .mk v1 v2 v3 v4::row.drop (q+1):=by
     rw[List.drop_eq_getElem_cons (by simp;omega)];simp[List.drop_set]
    have hy:i64 ((kk/l.length:Nat):Int):=by
     have:=hdiv;generalize kk/l.length=d at this ⊢;clear ed;exact⟨om,om⟩
    have hset:aO (row.set q (.mk v1 v2 v3 v4))=(aO row).set q (bK (.mk v1 v2 v3 v4)):=by rw[eX,eX,List.map_set]
    exact .mk (q,kk/l.length,row.set q (.mk v1 v2 v3 v4)) (oP [0,1,2,3,4,5,6]) ⟨by simp only;omega,by simp only;omega,by simp only[List.length_set];exact hrl,by simp only;rw[hdr,←hrow,hrs,List.append_assoc];rfl⟩
     (aE _ rfl (fI rfl rfl rfl rfl rfl rfl rfl rfl ⟨aJ 4 (encLs_nn _),aJ 5 (aS _),⟨6,_,rfl,rfl,.eq (aS _) (by simp only;rw[e0,hset];rfl)⟩,trivial⟩) ⟨aR (.ip' hxn),⟨_,rfl,.slE rfl rfl⟩,⟨_,rfl,.slE rfl rfl⟩,⟨_,rfl,.w64 (y:=((kk/l.length:Nat):Int)) (by first|exact ed|rfl) hy⟩,⟨_,rfl,.slE rfl rfl⟩,⟨_,rfl,.w64 rfl ⟨by simp only;omega,by simp only;omega⟩⟩,aF,aF,trivial⟩) (by simp only;omega)
   ·have hq0:q=0:=by simp at hb;omega
    subst hq0;simp only[List.take_zero,List.reverse_nil,Go.Ax.rowAt,List.nil_append,List.drop_zero] at hrow;have hmd:=hmade row;simp only at hmd;refine Rr ?_;refine aG.pre bG (mem':=Oh ns kn [(4,.row 55 1 (encLs lists)),(5,.row 57 4 (aO all))]) (oP [0,1,2,3,4,5]) (by rfl)
     (fI rfl rfl rfl rfl rfl rfl rfl rfl ⟨aJ 4 (encLs_nn _),aJ 5 (aS _),trivial⟩)
     (.cons (.same _ (.ip' hxn)) (.cons (.fz' (id:=6) (t:=57) (xs:=aO row) rfl rfl (by rw[aA];omega) (by rw[List.drop_zero];exact List.take_of_length_le (by rw[aA];omega)) (aS _)) .nil)) ?_
    refine hmd.go ?_;have hr:=CC lists.reverse k (by rw[←hpr];exact hlt2);rw[←hrow] at hr;obtain⟨⟨m1,m2,m3,m4⟩,hmv⟩:∃mv,mv=c9 name row:=⟨_,rfl⟩
    rw[←hmv];refine Rr ?_;refine aP (bV rfl rfl (by simp[aA];omega) (by simp;omega)) ?_;refine Rr ?_;exact .mk (k+1,all++[.mk m1 m2 m3 m4]) [(0,0),(1,1),(2,2),(3,3),(4,4),(8,5)] ⟨by simp only;omega,by
      simp only;rw[hall,List.take_add_one,hr,List.map_append,hmv];rfl,by simp[hal]⟩
     (aE _ rfl (fI rfl rfl rfl rfl rfl rfl rfl rfl ⟨aJ 4 (encLs_nn _),⟨8,_,rfl,rfl,.eq (aS _) (by rw[e7];rfl)⟩,trivial⟩) ⟨aR (.ip' hxn),⟨_,rfl,.slE rfl rfl⟩,⟨_,rfl,.slE rfl (by simp)⟩,aF,⟨_,rfl,.wp⟩,trivial⟩) (by simp only;omega)
  ·have hlt2:k=total:=by simp at hb;omega
   refine Rr ?_;refine zI _ kn hk (fI rfl rfl rfl rfl rfl rfl rfl rfl trivial) _ _ (.tup' (.cons (.fz' (id:=5) (t:=57) (xs:=aO all) rfl rfl (by rw[aA];omega) ?_ (aS _)) (.s .nil)));rw[List.drop_zero,List.take_of_length_le (by rw[aA];omega),hall,hlt2,hpr,←xN,List.take_length]
set_option maxHeartbeats 8000000
theorem PQ{ns:List Nd}{n:Nat}(h:gC ns n)(i:Nat)(hi:i<n)(hOf:∀j<i,MU ns j)(kn:List Bool)(hk:kn.length=ns.length) :
  aG prog [] 168 [.ptr 0 0 0,.int .i64 i] (sM ns kn) 4 (sQ ns i):=by
 obtain⟨x,hx⟩:∃x,ns[i]? = some x:=⟨ns[i]'(by have:=h.hn;omega),List.getElem?_eq_getElem _⟩
 have ex:(aW ns)[((i:Nat):Int).toNat]? = some (cH x):=by simp[mI,hx]
 unfold sQ;rw[h.at hi hx];have hG:=h.node hi hx;have hO:=h.nodeOK hi hx;have hxn:=a6 x;have hkm:∀k∈x.kids,0<=k/\k<i:=fun k hk=>by
  obtain⟨j,hj⟩:=List.getElem?_of_mem hk;exact hG.kids j k hj
 have hU:=fun(kids:List Int) (h1:kids.length<=65536) (h2:∀k∈kids,0<=k/\k<i)=>Nw h i om kids h1 h2 hOf kn hk
 have hP:=Jr h i om x hG.klen hkm hOf kn hk;have hb:=hO.bind;have hkl:=hG.klen;have hkd:=hG.kind;have hnum:=cD hG.num;have e0:x.kind=0->cR x (aL ns)=⟨[x.value],false⟩:=fun e=>by unfold cR;rw[if_pos e]
 have e1:x.kind=1->cR x (aL ns)=if 1024<=x.hi-x.lo then⟨[],true⟩ else⟨fZ x.lo x.hi,false⟩:=fun e=>by unfold cR;rw[if_neg om,if_pos e]
 have e2:x.kind=2->cR x (aL ns)=kI (aL ns) x.kids:=fun e=>by unfold cR;rw[if_neg om,if_neg om,if_neg om,if_neg om]
 have e3:x.kind=3->cR x (aL ns)=nO (aL ns) x:=fun e=>by unfold cR;rw[if_neg om,if_neg om,if_pos e]
 have e4:x.kind=4->cR x (aL ns)=kI (aL ns) (x.kids.drop 1):=fun e=>by unfold cR;rw[if_neg om,if_neg om,if_neg om,if_pos e]
 generalize cR x (aL ns)=res at e0 e1 e2 e3 e4 ⊢;clear hG hO hOf;have hP:x.kind=3->aG prog [] 183 [.ptr 0 0 0,.ip (cH x)] (sM ns kn) 4 (uQ ns res):=fun e=>by rw[e3 e];exact hP
 clear e3;obtain⟨kind,name,lo,hi',ws,ls,vals,kids,⟨vk,vn,vs,vks⟩⟩:=x;simp only at hkm hb hkl hkd hnum e0 e1 e2 e4 hP;refine aM bG func168 rfl ?_;refine Rr ?_;repeat(refine aC ex ?_;refine Rr ?_)
 have call:∀(F:FuncId) (a:List AV) (K:AV->aN->Nat->Prop) (nx:Nat),iW a->aG prog [] F (.ptr 0 0 0::a) (sM ns kn) 4 (uQ ns res)->(∀kn',kn'.length=ns.length->K (.tup [.il 4 (aO res.vals),.bool (!res.many)]) (sM ns kn'++fE [0,1,2,3] (sM ns kn)) nx)->aG prog [] F (.ptr 0 0 0::a) (sM ns kn) nx K:=fun F a K nx ha hc hK=>by
  refine aG.useI bG [0,1,2,3] hc (by rfl) (.cons (.ptr 0 0 0 0 rfl) (.same ha)) (fB ns kn) (by rfl) ?_;rintro r m k' ⟨kn',hk',rfl,rfl,rfl⟩;exact⟨nn,fB ns kn',by rfl,hK kn' hk'⟩
 rcases(show kind=0∨kind=1∨kind=2∨kind=3∨kind=4 by omega) with rfl|rfl|rfl|rfl|rfl
 ·rw[e0 rfl];refine Rr ?_;repeat(refine aC ex ?_;refine Rr ?_)
  exact zI _ kn hk (fI rfl rfl rfl rfl rfl rfl rfl rfl trivial) _ _ (.tup' (.cons (.fz' (id:=4) (t:=57) (xs:=aO [.mk vk vn vs vks]) rfl rfl (by rw[aA];simp) rfl (aS _)) (.s .nil)))
 ·rw[e1 rfl];have hw:IntKind.i64.wrap (hi'-lo)=hi'-lo:=cK ⟨om,om⟩;refine Rr ?_;simp only[hw];refine aH (fun hb=>?_) (fun hb=>?_)
  ·have hb:1024<=hi'-lo:=by simpa using hb
   rw[if_pos hb];refine Rr ?_;exact zI _ kn hk (fB ns kn) _ _ (.tup' (.cons (.nil 4) (.s .nil)))
  ·have hb:¬1024<=hi'-lo:=by simpa using hb
   rw[if_neg hb];refine Rr ?_;refine a9.ph 57 4 ?_;refine a9.at bG (fun c:Nat=>c<=(hi'+1-lo).toNat)
    (fun c=>⟨[(6,.ip (cH ⟨1,name,lo,hi',ws,ls,vals,kids,.mk vk vn vs vks⟩)),(7,.sl 4 0 c),(8,.int .i64 (lo+c))],Oh ns kn [(4,.row 57 4 (aO (fZ lo (lo+c-1))))],5,82⟩)
    (fun c=>(hi'+1-lo).toNat-c) 0 [(0,0),(1,1),(2,2),(3,3),(14,4)] (by simp)
    (aE _ rfl (fI rfl rfl rfl rfl rfl rfl rfl rfl ⟨⟨14,_,rfl,rfl,by rw[show fZ lo (lo+((0:Nat):Int)-1)=[] by simp[fZ]];exact .nil⟩,trivial⟩) ⟨aR (.ip' hxn),⟨_,rfl,.nslk 14 4 _ rfl rfl⟩,⟨_,rfl,.int (by simp)⟩,trivial⟩) ?_
   intro c hc;have hrl:∀c:Nat,(fZ lo (lo+c-1)).length=c:=fun c=>by simp[fZ];omega
   refine Rr ?_;refine aH (fun hb2=>?_) (fun hb2=>?_)
   ·have hb2:lo+c<=hi':=by simpa using hb2
    have hrs:fZ lo (lo+((c+1:Nat):Int)-1)=fZ lo (lo+c-1)++[.mk 0 (lo+c) [] []]:=by
     unfold fZ;rw[show (lo+((c+1:Nat):Int)-1+1-lo).toNat=c+1 by omega,show (lo+(c:Int)-1+1-lo).toNat=c by omega,List.range_succ,List.map_append];rfl
    refine Rr ?_;refine aP (bV rfl rfl (by rw[aA,hrl]) (by simp;omega)) ?_;refine Rr ?_;exact .mk (c+1) [(0,0),(1,1),(2,2),(3,3),(6,4)] om
     (aE _ rfl (fI rfl rfl rfl rfl rfl rfl rfl rfl ⟨⟨6,_,rfl,rfl,by rw[hrs,e7];exact .snoc rfl (.same (aS _)) (v5 0 (lo+c) [])⟩,trivial⟩) ⟨aR (.ip' hxn),⟨_,rfl,.slE rfl (by simp)⟩,⟨_,rfl,.w64 om ⟨om,om⟩⟩,trivial⟩) om
   ·have hb2:¬lo+c<=hi':=by simpa using hb2
    have hcc:lo+c-1=hi':=om;refine Rr ?_;rw[hcc];refine zI _ kn hk (fI rfl rfl rfl rfl rfl rfl rfl rfl trivial) _ _ (.tup' (.cons (.fz' (id:=4) (t:=57) (xs:=aO (fZ lo hi')) rfl rfl (by rw[aA];have:=hrl c;rw[hcc] at this;omega) ?_ (aS _)) (.s .nil)));rw[List.drop_zero];exact List.take_of_length_le (by rw[aA];have:=hrl c;rw[hcc] at this;omega)
 ·rw[e2 rfl] at call ⊢;refine Rr ?_;refine call _ _ _ _ (.cons (.il' (aQ _)) .nil) (hU kids hkl hkm) fun kn' hk'=>?_
  refine Rr ?_;exact zI _ kn' hk' (fB ns kn') _ _ (.same _ nn)
 ·refine Rr ?_;refine call _ _ _ _ (.cons (.ip' hxn) .nil) (hP rfl) fun kn' hk'=>?_
  refine Rr ?_;exact zI _ kn' hk' (fB ns kn') _ _ (.same _ nn)
 ·rw[e4 rfl] at call ⊢;have hb:=hb rfl;refine Rr ?_;refine aP (bE (Nat.ble_eq_true_of_le (by rw[aD];simp;omega)) (bE (Nat.ble_eq_true_of_le (Nat.le_refl _)) (Nat.ble_eq_true_of_le (Nat.le_refl _)))) ?_;have ed:List.take ((aT kids).length-Int.toNat 1) (List.drop (Int.toNat 1) (aT kids))=aT (kids.drop 1):=by
   rw[List.take_of_length_le (by simp)];simp[aT]
  rw[ed];refine Rr ?_;refine call _ _ _ _ (.cons (.il' (aQ _)) .nil) (hU (kids.drop 1) (by rw[List.length_drop];omega) fun k hk=>hkm k (List.mem_of_mem_drop hk)) fun kn' hk'=>?_
  refine Rr ?_;exact zI _ kn' hk' (fB ns kn') _ _ (.same _ nn)
theorem RO{ns:List Nd}{n:Nat}(h:gC ns n):∀i<n,MU ns i:=by
 intro i
 induction i using Nat.strongRecOn with
 | ind i ih=>exact fun hi kn hk=>Qg h i hi kn hk (PQ h i hi (fun j hj=>ih j hj om) kn hk)
set_option maxHeartbeats 8000000
theorem Qb(a b:a7)(ha:gD a):a8 prog [] 148 [bK a,bK b] (.bool (bW a b == 0)):=by
 have hc:=lN a b ha;obtain⟨a1,a2,a3,a4⟩:=a;obtain⟨b1,b2,b3,b4⟩:=b;generalize bW (.mk a1 a2 a3 a4) (.mk b1 b2 b3 b4)=c at hc ⊢;refine aM bG func148 rfl ?_;refine Rr ?_;refine hc.go ?_;refine Rr ?_;exact aB nn ⟨rfl,rfl,rfl⟩
theorem Gf(l m:List a7)(hl:l.length<=4294967296)(hm:m.length<=4294967296)(hok:∀a∈l,gD a) :
  a8 prog [] 147 [.il 4 (aO l),.il 4 (aO m),.fn (.func 148) [] []] (.bool (dC l m)):=by
 have hE:=fun a ha b=>Qb a b (hok a ha)
 refine aM bG func147 rfl ?_;refine Rr ?_;refine aH (fun h=>?_) (fun h=>?_)
 ·have h1:l.length≠m.length:=by rw[aA,aA] at h;simp at h;omega
  have:dC l m=false:=by
   cases e:dC l m with
   | false=>rfl
   | true=>exact absurd (lI e) h1
  rw[this];refine Rr ?_;exact aB nn ⟨rfl,rfl,rfl⟩
 ·have h1:l.length=m.length:=by rw[aA,aA] at h;simp at h;omega
  refine Rr ?_;refine a9.at bG (fun i:Nat=>i<=l.length/\dC l m=dC (l.drop i) (m.drop i)) (fun i=>⟨[(1,.il 4 (aO m)),(2,.fn (.func 148) [] []),(15,.il 4 (aO l)),(16,.int .i64 l.length),(17,.int .i64 i)],[],0,32⟩) (fun i=>l.length-i) 0 [] ⟨by simp,by simp⟩
   (cL ⟨aR (.il' (aS _)),aF,aR (.il' (aS _)),⟨_,rfl,.int (by rw[aA])⟩,aF,trivial⟩) ?_
  rintro i ⟨hi,hs⟩;refine Rr ?_;refine aH (fun hb=>?_) (fun hb=>?_)
  ·have hil:i<l.length:=by simpa using hb
   obtain⟨p1,p2,p3,p4,pm,pg,pe,ep⟩:=bX (l:=l) (k:=i) hil;obtain⟨q1,q2,q3,q4,qm,qg,qe,eq⟩:=bX (l:=m) (k:=i) om;rw[List.drop_eq_getElem_cons hil,List.drop_eq_getElem_cons (show i<m.length by omega),dC,pe,qe] at hs;have hc:=hE _ pm (.mk q1 q2 q3 q4);obtain⟨c,hc0⟩:∃c,c=bW (.mk p1 p2 p3 p4) (.mk q1 q2 q3 q4):=⟨_,rfl⟩
   rw[←hc0] at hc hs;refine Rr ?_;repeat((first|refine aC ep ?_|refine aC eq ?_|refine aX ?_);refine Rr ?_)
   refine hc.go ?_;refine Rr ?_;refine aH (fun h=>?_) (fun h=>?_)
   ·have:decide (c=0)=false:=by simpa using h
    rw[hs,this];refine Rr ?_;exact aB nn ⟨rfl,rfl,rfl⟩
   ·have:decide (c=0)=true:=by simpa using h
    rw[this] at hs;refine Rr ?_;exact .mk (i+1) [] ⟨om,hs⟩ (cL ⟨aR (.il' (aS _)),aF,aR (.il' (aS _)),aF,⟨_,rfl,.w64 om ⟨om,om⟩⟩,trivial⟩) om
  ·have hil:i=l.length:=by simp at hb;omega
   rw[hil,List.drop_length,h1,List.drop_length,dC] at hs;rw[hs];refine Rr ?_;exact aB nn ⟨rfl,rfl,rfl⟩
set_option maxHeartbeats 8000000
def Dy(ns:List Nd)(ls ss:List Int)(kn:List Bool)(rest:aN):aN:=(0,.row 152 4 [.agg [.il 12 (aW ns),.sl 1 0 ns.length,.sl 2 0 ns.length,.ptr 3 0 0]])::(1,.row 3 1 (aT ls))::(2,.row 3 1 (aT ss)) ::
 (3,.row 203 4 [.agg [.il 12 (aW ns),.sl 4 0 ns.length,.sl 5 0 ns.length,.sl 6 0 ns.length]])::(4,.row 4 1 (kB kn))::(5,.row 55 1 (lB (aL ns) kn))::(6,.row 4 1 (mB (aL ns) kn))::rest
def QE(ns:List Nd)(l1 l2:List AV)(kn:List Bool):aN:=[(0,.row 152 4 [.agg [.il 12 (aW ns),.sl 1 0 ns.length,.sl 2 0 ns.length,.ptr 3 0 0]]),(1,.row 3 1 l1),(2,.row 3 1 l2),
 (3,.row 203 4 [.agg [.il 12 (aW ns),.sl 4 0 ns.length,.sl 5 0 ns.length,.sl 6 0 ns.length]]),(4,.row 4 1 (kB kn)),(5,.row 55 1 (lB (aL ns) kn)),(6,.row 4 1 (mB (aL ns) kn))]
theorem Pw{mem:aN}{σ:List (Nat × Nat)}{ns:List Nd}{N a b c a' b' c':Nat}(h1:lk σ a=some a')(h2:lk σ b=some b')(h3:lk σ c=some c') :
  qS mem σ [.agg [.il 12 (aW ns),.sl a 0 N,.sl b 0 N,.ptr c 0 0]] [.agg [.il 12 (aW ns),.sl a' 0 N,.sl b' 0 N,.ptr c' 0 0]]:=
 .cons (.agg (.cons (.same _ (.il' (aU _))) (.cons (.sl a a' 0 N h1) (.cons (.sl b b' 0 N h2) (.cons (.ptr c c' 0 0 h3) .nil))))) .nil
theorem iJ{mem:aN}{σ:List (Nat × Nat)}{ns:List Nd}{kn:List Bool}{ls ss:List Int}{l1 l2:List AV}{rest:aN}(h0:lk σ 0=some 0)(h1:lk σ 1=some 1)(h2:lk σ 2=some 2)(h3:lk σ 3=some 3)(h4:lk σ 4=some 4)(h5:lk σ 5=some 5)(h6:lk σ 6=some 6)
  (m0:lk mem 0=some (.row 152 4 [.agg [.il 12 (aW ns),.sl 1 0 ns.length,.sl 2 0 ns.length,.ptr 3 0 0]])) (m1:lk mem 1=some (.row 3 1 l1)) (m2:lk mem 2=some (.row 3 1 l2)) (e1:l1=aT ls) (e2:l2=aT ss)
  (m3:lk mem 3=some (.row 203 4 [.agg [.il 12 (aW ns),.sl 4 0 ns.length,.sl 5 0 ns.length,.sl 6 0 ns.length]])) (m4:lk mem 4=some (.row 4 1 (kB kn))) (m5:lk mem 5=some (.row 55 1 (lB (aL ns) kn))) (m6:lk mem 6=some (.row 4 1 (mB (aL ns) kn)))
  (hr:cM mem σ rest):cM mem σ (Dy ns ls ss kn rest):=
 ⟨⟨0,_,h0,m0,Pw h1 h2 h3⟩,⟨1,_,h1,m1,.eq (aQ _) e1⟩,⟨2,_,h2,m2,.eq (aQ _) e2⟩,⟨3,_,h3,m3,Bn h4 h5 h6⟩,⟨4,_,h4,m4,.same (gI _)⟩,⟨5,_,h5,m5,.same (vU _ _)⟩,⟨6,_,h6,m6,.same (tZ _ _)⟩,hr⟩
theorem k9(ns:List Nd)(ls ss:List Int)(kn:List Bool):cM (Dy ns ls ss kn []) (oP [0,1,2,3,4,5,6]) (Dy ns ls ss kn []):=iJ rfl rfl rfl rfl rfl rfl rfl rfl rfl rfl rfl rfl rfl rfl rfl rfl trivial
theorem lL(l:List Int)(i:Nat)(y:Int):aT (l.set i y)=(aT l).set i (.int .i64 y):=by simp[aT,List.map_set]
theorem NO{ns:List Nd}(i:Nat)(x:Nd)(hx:ns[i]? = some x)(hok:qG x)(hsz:bC x.value<=1048576)(hkl:x.kids.length<=65536)(hkids:∀(j:Nat) (k:Int),x.kids[j]? = some k->0<=k/\k<i)(hkd:0<=x.kind/\x.kind<=4)(h4:4<=x.kind->0<x.kids.length)
  (ls ss:List Int) (kn:List Bool) (hls:ls.length=ns.length) (hss:ss.length=ns.length) (bl:∀y∈ls,0<=y/\y<=1024) (bs:∀y∈ss,0<=y/\y<=1024) :
  aG prog [] 104 [.ptr 0 0 0,.int .i64 i] (Dy ns ls ss kn []) 7 fun r m k=>r = .bool (decide (eC ls x<=256) && decide (wZ ss x<=1024))/\m=Dy ns (ls.set i (eC ls x)) (ss.set i (wZ ss x)) kn []/\k=7:=by
 have hil:=(List.getElem?_eq_some_iff.1 hx).1;have ex:(aW ns)[((i:Nat):Int).toNat]? = some (cH x):=by simp[mI,hx]
 have hxn:=a6 x;have hL:=H1 ls x hok hkl bl (fun j k hk=>by have:=hkids j k hk;omega) h4 hkd;have hV:=Ow x.value hsz;have hP:wZ ss x=if x.kind=0 then(bC x.value:Int) else if x.kind=1 then 1 else if x.kind=3 then 1+eH ss x.kids else max 1 (cG ss (dG x)):=rfl
 have hs:=fun l=>g6 (b:=ss) (M:=1024) om bs l
 have hm:=fun l=>fK (b:=ss) (M:=1024) om bs l
 have har:dG x=if x.kind=2 then x.kids else x.kids.drop 1:=rfl
 have hat:=fun q=>kO (b:=ss) (M:=1024) om bs q
 have eat:∀k:Int,0<=k->k<ss.length->(aT ss)[0+k.toNat]? = some (.int .i64 (dK ss k)):=fun k h0 h1=>by
  have:k.toNat<ss.length:=om;rw[Nat.zero_add,bF,List.getElem?_eq_getElem this];unfold dK;rw[List.getD_eq_getElem?_getD,List.getElem?_eq_getElem this];rfl
 have hM:∀k:Nat,k<x.kids.length->(cG ss (if x.kind=2 then x.kids.take (k+1) else(x.kids.take (k+1)).drop 1))=if 0<k∨x.kind=2 then max (cG ss (if x.kind=2 then x.kids.take k else(x.kids.take k).drop 1)) (dK ss (x.kids.getD k 0)) else cG ss (if x.kind=2 then x.kids.take k else(x.kids.take k).drop 1):=fun k hk=>by
  have eg:x.kids.getD k 0=x.kids[k]:=by rw[List.getD_eq_getElem?_getD,List.getElem?_eq_getElem hk];rfl
  rw[eg];by_cases e2:x.kind=2
  ·rw[if_pos e2,if_pos (.inr e2),if_pos e2,pE hk]
  ·rw[if_neg e2,if_neg e2];by_cases e0:0<k
   ·rw[if_pos (.inl e0),mX hk e0]
   ·rw[if_neg om];have:k=0:=om;subst this;simp[cG,List.drop_eq_nil_of_le]
 have h0:0+((i:Nat):Int).toNat=i:=by simp
 have g1:Nat.blt ((i:Nat):Int).toNat ns.length=true:=Nat.ble_eq_true_of_le (by simp;omega);generalize hlen:eC ls x=len at *;generalize hsiz:wZ ss x=siz at *;clear hlen hsiz hok;obtain⟨kind,name,lo,hi',ws,lbs,vals,kids,⟨vk,vn,vs,vks⟩⟩:=x;simp only at hsz hkl hkids hkd h4 hV hP hM;obtain⟨sv,hsv⟩:∃sv,sv=bC (.mk vk vn vs vks):=⟨_,rfl⟩
 rw[←hsv] at hV hP hsz;have f1:(aT ls)[0+((i:Nat):Int).toNat]? = some (.int .i64 ls[i]):=by rw[h0,bF,List.getElem?_eq_getElem om];rfl
 have f2:((aT ls).set (0+((i:Nat):Int).toNat) (.int .i64 len))[0+((i:Nat):Int).toNat]? = some (.int .i64 len):=by rw[h0];exact List.getElem?_set_self (by rw[aD];omega)
 have f3:(aT ss)[0+((i:Nat):Int).toNat]? = some (.int .i64 ss[i]):=by rw[h0,bF,List.getElem?_eq_getElem om];rfl
 have f4:∀siz:Int,((aT ss).set (0+((i:Nat):Int).toNat) (.int .i64 siz))[0+((i:Nat):Int).toNat]? = some (.int .i64 siz):=fun siz=>by rw[h0];exact List.getElem?_set_self (by rw[aD];omega)
 generalize ls[i]=l0 at f1;generalize ss[i]=s0 at f3;refine aM bG func104 rfl ?_;refine Rt ?_;repeat((first|refine aP g1 ?_|refine aC ex ?_|refine aC f1 ?_|refine aC f2 ?_);refine Rt ?_)
 refine hL.lend bG (.cons (.same _ (.ip' hxn)) (.cons (.fz' (id:=1) (t:=3) (xs:=aT ls) rfl rfl (by rw[aD];omega) (by rw[List.drop_zero];exact List.take_of_length_le (by rw[aD];omega)) (aQ _)) .nil)) (.int _ _) ?_;refine Rt ?_;repeat((first|refine aP g1 ?_|refine aC ex ?_|refine aC f1 ?_|refine aC f2 ?_);refine Rt ?_)
 obtain⟨d1,hd1⟩:∃d1,d1=decide (len<=256):=⟨_,rfl⟩
 rw[←hd1];have fin:∀(mem:aN) (nx:Nat) {d:Bool},d=(d1 && decide (siz<=1024))->mem=QE ns ((aT ls).set (0+((i:Nat):Int).toNat) (.int .i64 len)) ((aT ss).set (0+((i:Nat):Int).toNat) (.int .i64 siz)) kn ->
   kQ 7 (fun r m k=>r = .bool (d1 && decide (siz<=1024))/\m=Dy ns (ls.set i len) (ss.set i siz) kn []/\k=7) (.bool d) mem nx:=by
  rintro mem nx d rfl rfl;exact bN (n':=7) (m':=Dy ns (ls.set i len) (ss.set i siz) kn []) (oP [0,1,2,3,4,5,6]) rfl (iJ rfl rfl rfl rfl rfl rfl rfl rfl rfl rfl (by rw[h0];exact(lL _ _ _).symm) (by rw[h0];exact(lL _ _ _).symm) rfl rfl rfl rfl trivial) (.same _ nn) ⟨rfl,rfl,rfl⟩
 have fin':∀(mem:aN) (nx:Nat) {d:Bool},d=(d1 && decide (siz<=1024))->mem=QE ns (aT (ls.set i len)) ((aT ss).set (0+((i:Nat):Int).toNat) (.int .i64 siz)) kn ->
   kQ 7 (fun r m k=>r = .bool (d1 && decide (siz<=1024))/\m=Dy ns (ls.set i len) (ss.set i siz) kn []/\k=7) (.bool d) mem nx:=by
  rintro mem nx d rfl rfl;exact bN (n':=7) (m':=Dy ns (ls.set i len) (ss.set i siz) kn []) (oP [0,1,2,3,4,5,6]) rfl (iJ rfl rfl rfl rfl rfl rfl rfl rfl rfl rfl rfl (by rw[h0];exact(lL _ _ _).symm) rfl rfl rfl rfl trivial) (.same _ nn) ⟨rfl,rfl,rfl⟩
 have f2':(aT (ls.set i len))[0+((i:Nat):Int).toNat]? = some (.int .i64 len):=by rw[h0,lL];exact List.getElem?_set_self (by rw[aD];omega)
 rcases(show kind=0∨kind=1∨kind=2∨kind=3∨kind=4 by omega) with rfl|rfl|rfl|rfl|rfl
 ·rw[if_pos rfl] at hP;subst hP;refine Rr ?_;refine hV.go ?_;refine Rt ?_;repeat((first|refine aP g1 ?_|refine aC f3 ?_|refine aC (f4 _) ?_|refine aC f2 ?_);refine Rt ?_)
  rw[←hd1];clear hd1;cases d1 with
  | true=>
   refine Rr ?_;exact fin _ _ rfl rfl
  | false=>
   refine Rr ?_;exact fin _ _ rfl rfl
 ·rw[if_neg (by decide),if_pos rfl] at hP;subst hP;refine Rt ?_;repeat((first|refine aP g1 ?_|refine aC f3 ?_|refine aC (f4 _) ?_|refine aC f2 ?_);refine Rt ?_)
  rw[←hd1];clear hd1;cases d1 with
  | true=>
   refine Rr ?_;exact fin _ _ rfl rfl
  | false=>
   refine Rr ?_;exact fin _ _ rfl rfl
 ·rw[if_neg (by decide),if_neg (by decide),if_neg (by decide)] at hP;refine Rr ?_;refine a9.at bG (fun p:Nat × Int=>p.1<=kids.length/\p.2=max 1 (cG ss (kids.take p.1)))
   (fun p=>⟨[(0,.ptr 0 0 0),(1,.int .i64 i),(5,.ip (cH ⟨2,name,lo,hi',ws,lbs,vals,kids,.mk vk vn vs vks⟩)),(6,.int .i64 p.2),(67,.il 1 (aT kids)),(68,.int .i64 kids.length),(69,.int .i64 p.1)],Dy ns (ls.set i len) ss kn [],7,112⟩) (fun p=>kids.length-p.1) (0,1) (oP [0,1,2,3,4,5,6]) ⟨by simp,by simp[cG];omega⟩
   (aE _ rfl (iJ rfl rfl rfl rfl rfl rfl rfl rfl rfl rfl (by rw[h0];exact(lL _ _ _).symm) rfl rfl rfl rfl rfl trivial) ⟨aK,aF,aR (.ip' hxn),aF,aR (.il' (aQ _)),⟨_,rfl,.int (by rw[aD])⟩,aF,trivial⟩) ?_
  rintro⟨j,size⟩ ⟨hj,hsize⟩;simp only at hj hsize ⊢;have bsz:=hm (kids.take j);refine Rr ?_;refine aH (fun h=>?_) (fun h=>?_)
  ·have hlt:j<kids.length:=by simpa using h
   have e1:(aT kids)[(j:Int).toNat]? = some (.int .i64 kids[j]):=by rw[Int.toNat_natCast,bF,List.getElem?_eq_getElem hlt];rfl
   obtain⟨q0,q1⟩:=hkids j _ (List.getElem?_eq_getElem hlt);have hM:=hM j hlt;have eg:kids.getD j 0=kids[j]:=by rw[List.getD_eq_getElem?_getD,List.getElem?_eq_getElem hlt];rfl
   rw[eg] at hM;have hM:cG ss (kids.take (j+1))=max (cG ss (kids.take j)) (dK ss kids[j]):=by simpa using hM
   generalize kids[j]=q at e1 q0 q1 hM;obtain⟨q,rfl⟩:=Int.eq_ofNat_of_zero_le q0;have e2:=eat q q0 om;have hq:=hat q;have g2:Nat.blt ((q:Nat):Int).toNat ns.length=true:=Nat.ble_eq_true_of_le (by simp;omega);generalize dK ss q=z at e2 hq hM;refine Rr ?_;repeat((first|refine aP g2 ?_|refine aC e1 ?_|refine aC e2 ?_);refine Rr ?_)
   by_cases k0:0<j
   ·have d0:decide ((j:Int)>0)=true:=by simp;omega
    rw[d0];refine Rr ?_;repeat((first|refine aP g2 ?_|refine aC e1 ?_|refine aC e2 ?_);refine Rr ?_)
    exact .mk (j+1,max size z) (oP [0,1,2,3,4,5,6]) ⟨by simp only;omega,by simp only;rw[hM,hsize];omega⟩
     (aE _ rfl (k9 _ _ _ _) ⟨aK,aF,aR (.ip' hxn),⟨_,rfl,.int (by simp only;split<;>omega)⟩,aR (.il' (aQ _)),aF,⟨_,rfl,.wp⟩,trivial⟩) (by simp only;omega)
   ·have d0:decide ((j:Int)>0)=false:=by simp;omega
    rw[d0];refine Rr ?_;repeat((first|refine aP g2 ?_|refine aC e1 ?_|refine aC e2 ?_);refine Rr ?_)
    exact .mk (j+1,max size z) (oP [0,1,2,3,4,5,6]) ⟨by simp only;omega,by simp only;rw[hM,hsize];omega⟩
     (aE _ rfl (k9 _ _ _ _) ⟨aK,aF,aR (.ip' hxn),⟨_,rfl,.int (by simp only;split<;>omega)⟩,aR (.il' (aQ _)),aF,⟨_,rfl,.wp⟩,trivial⟩) (by simp only;omega)
  ·have hlt:j=kids.length:=by simp at h;omega
   rw[hlt,List.take_length,show cG ss kids=cG ss (dG ⟨2,name,lo,hi',ws,lbs,vals,kids,.mk vk vn vs vks⟩) from rfl,←hP] at hsize;subst hsize;refine Rt ?_;repeat((first|refine aP g1 ?_|refine aC f3 ?_|refine aC (f4 _) ?_|refine aC f2' ?_);refine Rt ?_)
   rw[←hd1];clear hd1;cases d1 with
   | true=>
    refine Rr ?_;exact fin' _ _ rfl rfl
   | false=>
    refine Rr ?_;exact fin' _ _ rfl rfl
 ·rw[if_neg (by decide),if_neg (by decide),if_pos rfl] at hP;refine Rr ?_;refine a9.at bG (fun p:Nat × Int=>p.1<=kids.length/\p.2=1+eH ss (kids.take p.1))
   (fun p=>⟨[(0,.ptr 0 0 0),(1,.int .i64 i),(6,.int .i64 p.2),(45,.il 1 (aT kids)),(46,.int .i64 kids.length),(47,.int .i64 p.1)],Dy ns (ls.set i len) ss kn [],7,112⟩) (fun p=>kids.length-p.1) (0,1) (oP [0,1,2,3,4,5,6]) ⟨by simp,by simp[eH]⟩
   (aE _ rfl (iJ rfl rfl rfl rfl rfl rfl rfl rfl rfl rfl (by rw[h0];exact(lL _ _ _).symm) rfl rfl rfl rfl rfl trivial) ⟨aK,aF,aF,aR (.il' (aQ _)),⟨_,rfl,.int (by rw[aD])⟩,aF,trivial⟩) ?_
  rintro⟨j,size⟩ ⟨hj,hsize⟩;simp only at hj hsize ⊢;have bsz:=hs (kids.take j);have btk:(kids.take j).length<=65536:=by simp;omega
  refine Rr ?_;refine aH (fun h=>?_) (fun h=>?_)
  ·have hlt:j<kids.length:=by simpa using h
   have e1:(aT kids)[(j:Int).toNat]? = some (.int .i64 kids[j]):=by rw[Int.toNat_natCast,bF,List.getElem?_eq_getElem hlt];rfl
   obtain⟨q0,q1⟩:=hkids j _ (List.getElem?_eq_getElem hlt);have hst:=s9 (b:=ss) hlt;generalize kids[j]=q at e1 q0 q1 hst;obtain⟨q,rfl⟩:=Int.eq_ofNat_of_zero_le q0;have e2:=eat q q0 om;have hq:=hat q;have g2:Nat.blt ((q:Nat):Int).toNat ns.length=true:=Nat.ble_eq_true_of_le (by simp;omega);generalize dK ss q=z at e2 hq hst;refine Rr ?_;repeat((first|refine aP g2 ?_|refine aC e1 ?_|refine aC e2 ?_);refine Rr ?_)
   exact .mk (j+1,size+z) (oP [0,1,2,3,4,5,6]) ⟨by simp only;omega,by simp only;rw[hst,hsize];omega⟩
    (aE _ rfl (k9 _ _ _ _) ⟨aK,aF,⟨_,rfl,.w64 rfl ⟨by simp only;omega,by simp only;omega⟩⟩,aR (.il' (aQ _)),aF,⟨_,rfl,.wp⟩,trivial⟩) (by simp only;omega)
  ·have hlt:j=kids.length:=by simp at h;omega
   rw[hlt,List.take_length,←hP] at hsize;subst hsize;refine Rt ?_;repeat((first|refine aP g1 ?_|refine aC f3 ?_|refine aC (f4 _) ?_|refine aC f2' ?_);refine Rt ?_)
   rw[←hd1];clear hd1;cases d1 with
   | true=>
    refine Rr ?_;exact fin' _ _ rfl rfl
   | false=>
    refine Rr ?_;exact fin' _ _ rfl rfl
 ·rw[if_neg (by decide),if_neg (by decide),if_neg (by decide)] at hP;refine Rr ?_;refine a9.at bG (fun p:Nat × Int=>p.1<=kids.length/\p.2=max 1 (cG ss ((kids.take p.1).drop 1)))
   (fun p=>⟨[(0,.ptr 0 0 0),(1,.int .i64 i),(5,.ip (cH ⟨4,name,lo,hi',ws,lbs,vals,kids,.mk vk vn vs vks⟩)),(6,.int .i64 p.2),(67,.il 1 (aT kids)),(68,.int .i64 kids.length),(69,.int .i64 p.1)],Dy ns (ls.set i len) ss kn [],7,112⟩) (fun p=>kids.length-p.1) (0,1) (oP [0,1,2,3,4,5,6]) ⟨by simp,by simp[cG];omega⟩
   (aE _ rfl (iJ rfl rfl rfl rfl rfl rfl rfl rfl rfl rfl (by rw[h0];exact(lL _ _ _).symm) rfl rfl rfl rfl rfl trivial) ⟨aK,aF,aR (.ip' hxn),aF,aR (.il' (aQ _)),⟨_,rfl,.int (by rw[aD])⟩,aF,trivial⟩) ?_
  rintro⟨j,size⟩ ⟨hj,hsize⟩;simp only at hj hsize ⊢;have bsz:=hm ((kids.take j).drop 1);refine Rr ?_;refine aH (fun h=>?_) (fun h=>?_)
  ·have hlt:j<kids.length:=by simpa using h
   have e1:(aT kids)[(j:Int).toNat]? = some (.int .i64 kids[j]):=by rw[Int.toNat_natCast,bF,List.getElem?_eq_getElem hlt];rfl
   obtain⟨q0,q1⟩:=hkids j _ (List.getElem?_eq_getElem hlt);have hM:=hM j hlt;have eg:kids.getD j 0=kids[j]:=by rw[List.getD_eq_getElem?_getD,List.getElem?_eq_getElem hlt];rfl
   rw[eg] at hM;have hM:0<j->cG ss ((kids.take (j+1)).drop 1)=max (cG ss ((kids.take j).drop 1)) (dK ss kids[j]):=fun hj=>by rw[mX hlt hj]
   generalize kids[j]=q at e1 q0 q1 hM;obtain⟨q,rfl⟩:=Int.eq_ofNat_of_zero_le q0;have e2:=eat q q0 om;have hq:=hat q;have g2:Nat.blt ((q:Nat):Int).toNat ns.length=true:=Nat.ble_eq_true_of_le (by simp;omega);generalize dK ss q=z at e2 hq hM;refine Rr ?_;repeat((first|refine aP g2 ?_|refine aC e1 ?_|refine aC e2 ?_);refine Rr ?_)
   by_cases k0:0<j
   ·have d0:decide ((j:Int)>0)=true:=by simp;omega
    rw[d0];refine Rr ?_;repeat((first|refine aP g2 ?_|refine aC e1 ?_|refine aC e2 ?_);refine Rr ?_)
    exact .mk (j+1,max size z) (oP [0,1,2,3,4,5,6]) ⟨by simp only;omega,by simp only;rw[hM k0,hsize];omega⟩
     (aE _ rfl (k9 _ _ _ _) ⟨aK,aF,aR (.ip' hxn),⟨_,rfl,.int (by simp only;split<;>omega)⟩,aR (.il' (aQ _)),aF,⟨_,rfl,.wp⟩,trivial⟩) (by simp only;omega)
   ·have d0:decide ((j:Int)>0)=false:=by simp;omega
    rw[d0];refine Rr ?_;repeat((first|refine aP g2 ?_|refine aC e1 ?_|refine aC e2 ?_);refine Rr ?_)
    have j0:j=0:=om;subst j0;exact .mk (1,size) (oP [0,1,2,3,4,5,6]) ⟨by simp only;omega,by simp only;rw[hsize];simp[List.drop_eq_nil_of_le]⟩
     (aE _ rfl (k9 _ _ _ _) ⟨aK,aF,aR (.ip' hxn),aF,aR (.il' (aQ _)),aF,⟨_,rfl,.wp⟩,trivial⟩) (by simp only;omega)
  ·have hlt:j=kids.length:=by simp at h;omega
   rw[hlt,List.take_length,show cG ss (kids.drop 1)=cG ss (dG ⟨4,name,lo,hi',ws,lbs,vals,kids,.mk vk vn vs vks⟩) from rfl,←hP] at hsize;subst hsize;refine Rt ?_;repeat((first|refine aP g1 ?_|refine aC f3 ?_|refine aC (f4 _) ?_|refine aC f2' ?_);refine Rt ?_)
   rw[←hd1];clear hd1;cases d1 with
   | true=>
    refine Rr ?_;exact fin' _ _ rfl rfl
   | false=>
    refine Rr ?_;exact fin' _ _ rfl rfl
theorem Of{ns:List Nd}{n:Nat}(h:gC ns n)(x:Nd)(hvl:x.values.length<=1000000)(hk4:x.kind=4->∃k:Nat,x.kids[0]? = some (k:Int)/\k<n)(ls ss:List Int)(kn:List Bool)(hk:kn.length=ns.length) :
  aG prog [] 105 [.ptr 0 0 0,.ip (cH x)] (Dy ns ls ss kn []) 7 fun r m k=>∃kn',kn'.length=ns.length /\
   r = .int .i64 (if x.kind=4 then(if (cT (aL ns) (x.kids.getD 0 0)).many=true then 4 else if dC (cT (aL ns) (x.kids.getD 0 0)).vals x.values=true then 0 else 1) else 0)/\m=Dy ns ls ss kn' []/\k=7:=by
 have hxn:=a6 x;generalize hres:(if x.kind=4 then(if (cT (aL ns) (x.kids.getD 0 0)).many=true then 4 else if dC (cT (aL ns) (x.kids.getD 0 0)).vals x.values=true then 0 else 1) else(0:Int))=res;have fin:∀(kn':List Bool) (mem:aN) (nx:Nat) (c:Int),kn'.length=ns.length->c=res->cM mem (oP [0,1,2,3,4,5,6]) (Dy ns ls ss kn' []) ->
   kQ 7 (fun r m k=>∃kn',kn'.length=ns.length/\r = .int .i64 res/\m=Dy ns ls ss kn' []/\k=7) (.int .i64 c) mem nx:=by
  rintro kn' mem nx c hk' rfl hM;exact bN (n':=7) (m':=Dy ns ls ss kn' []) (oP [0,1,2,3,4,5,6]) rfl hM (.same _ nn) ⟨kn',hk',rfl,rfl,rfl⟩
 by_cases e4:x.kind=4
 ·obtain⟨k,hkg,hkn⟩:=hk4 e4;have eg:x.kids.getD 0 0=(k:Int):=by rw[List.getD_eq_getElem?_getD,hkg];rfl
  rw[if_pos e4,eg] at hres;have ek:(aT x.kids)[(0:Int).toNat]? = some (.int .i64 k):=by rw[show (0:Int).toNat=0 from rfl,bF,hkg];rfl
  have hO:=RO h k hkn kn hk;have hv:=h.vals (k:=k) om om;obtain⟨lk,hlk⟩:∃lk,lk=cT (aL ns) k:=⟨_,rfl⟩
  unfold sQ at hO;rw[←hlk] at hv hres;simp only[←hlk] at hO;obtain⟨lv,lm⟩:=lk;simp only at hv hres;have hE:=fun l (hl:l.length<=1024) hok=>Gf l x.values om om hok
  obtain⟨kind,name,lo,hi',ws,lbs,vals,kids,⟨vk,vn,vs,vks⟩⟩:=x;simp only at e4 ek hvl hE hres;subst e4;refine aM bG func105 rfl ?_;refine Rr ?_;repeat((first|refine aC ek ?_|refine aX ?_);refine Rr ?_)
  refine aG.useR bG [(3,0),(4,1),(5,2),(6,3)] hO (by rfl) (.cons (.ptr 3 0 0 0 rfl) (.s .nil)) ⟨⟨3,_,rfl,rfl,Bn rfl rfl rfl⟩,aJ 4 (gI _),aJ 5 (vU _ _),aJ 6 (tZ _ _),trivial⟩ (by rfl) ?_;rintro r m nn' ⟨kn',hk',rfl,rfl,rfl⟩;refine⟨[(3,.row 203 4 [.agg [.il 12 (aW ns),.sl 4 0 ns.length,.sl 5 0 ns.length,.sl 6 0 ns.length]]),(4,.row 4 1 (kB kn')),(5,.row 55 1 (lB (aL ns) kn')),(6,.row 4 1 (mB (aL ns) kn'))],nn,⟨⟨0,_,rfl,rfl,Bn rfl rfl rfl⟩,aJ 1 (gI _),aJ 2 (vU _ _),aJ 3 (tZ _ _),trivial⟩,by rfl, ?_⟩;cases lm with
  | true=>
   refine Rr ?_;refine fin kn' _ _ _ hk' (by rw[←hres];simp) ?_;exact iJ rfl rfl rfl rfl rfl rfl rfl rfl rfl rfl rfl rfl rfl rfl rfl rfl trivial
  | false=>
   have hE:=hE lv hv.1 hv.2;obtain⟨sv,hsv⟩:∃sv,sv=dC lv vals:=⟨_,rfl⟩
   rw[←hsv] at hE hres;refine Rr ?_;refine hE.go ?_;cases sv with
   | true=>
    refine Rr ?_;refine fin kn' _ _ _ hk' (by rw[←hres];simp) ?_;exact iJ rfl rfl rfl rfl rfl rfl rfl rfl rfl rfl rfl rfl rfl rfl rfl rfl trivial
   | false=>
    refine Rr ?_;refine fin kn' _ _ _ hk' (by rw[←hres];simp) ?_;exact iJ rfl rfl rfl rfl rfl rfl rfl rfl rfl rfl rfl rfl rfl rfl rfl rfl trivial
 ·rw[if_neg e4] at hres;obtain⟨kind,name,lo,hi',ws,lbs,vals,kids,⟨vk,vn,vs,vks⟩⟩:=x;simp only at e4;refine aM bG func105 rfl ?_;refine Rr ?_;refine aH (fun _=>?_) (fun h=>absurd (by simpa using h) e4);refine Rr ?_;exact fin kn _ _ _ hk hres (k9 _ _ _ _)
set_option maxHeartbeats 8000000
theorem OC(n:Nat):kB (List.replicate n false)=List.replicate n (.bool false):=by simp[kB]
theorem NZ(L:List Go.Ax.f6):lB L (List.replicate L.length false)=encLs (List.replicate L.length []):=by
 unfold lB encLs
 induction L with
 | nil=>rfl
 | cons a L ih=>simpa[List.replicate_succ] using ih
theorem OH(L:List Go.Ax.f6):mB L (List.replicate L.length false)=List.replicate L.length (.bool false):=by
 unfold mB
 induction L with
 | nil=>rfl
 | cons a L ih=>simpa[List.replicate_succ] using ih
theorem EZ(ns:List Nd)(hl:ns.length<=4096):aG prog [] 99 [.agg [.il 12 (aW ns)]] [] 0 fun r m k=>r = .ptr 0 0 0/\m=sM ns (List.replicate ns.length false)/\k=4:=by
 have hlen:(aW ns).length=ns.length:=bO ns;refine aM bG func99 rfl ?_;refine Rr ?_;rw[hlen];refine Rr ?_;refine aP (bE rfl (bE rfl (bE rfl (bE (decide_eq_true om) (bE (decide_eq_true om) (bE (nF rfl om om) (decide_eq_true om))))))) ?_;refine Rr ?_;repeat((first|refine aP (bE rfl (bE rfl (bE rfl (bE (decide_eq_true om) (bE (decide_eq_true om) (bE (nF rfl om om) (decide_eq_true om))))))) ?_|refine aX ?_);refine Rr ?_)
 have e:((ns.length:Nat):Int).toNat=ns.length:=by simp
 rw[e];have hL:(aL ns).length=ns.length:=dM ns;have e2:=NZ (aL ns);have e3:=OH (aL ns);rw[hL] at e2 e3;refine bN (n':=4) (m':=sM ns (List.replicate ns.length false)) [(10,0),(4,1),(6,2),(8,3)] rfl ⟨⟨10,_,rfl,rfl,Bn rfl rfl rfl⟩,⟨4,_,rfl,rfl,.eq (gI _) (OC _).symm⟩,⟨6,_,rfl,rfl,by rw[e2];exact A2 _⟩,⟨8,_,rfl,rfl,.eq (tZ _ _) e3.symm⟩,trivial⟩ (.ptr 10 0 0 0 rfl) ⟨rfl,rfl,rfl⟩
structure Pn(ns:List Nd):Prop where
 ok:∀x∈ns,qG x
 val:∀x∈ns,bC x.value<=1048576
 vals:∀x∈ns,∀v∈x.values,bC v<=1048576
 vlen:∀x∈ns,x.values.length<=1000000
 klen:∀x∈ns,x.kids.length<=65536
def tU(l:List Int)(n:Nat):List Int:=l++List.replicate (n-l.length) 0
theorem m9{l:List Int}{n:Nat}(h:l.length<=n):(tU l n).length=n:=by simp[tU];omega
theorem Dc{l:List Int}{n:Nat}(y:Int)(h:l.length<n):(tU l n).set l.length y=tU (l++[y]) n:=by
 unfold tU;rw[List.set_append_right _ _ (Nat.le_refl _),Nat.sub_self];obtain⟨m,hm⟩:∃m,n-l.length=m+1:=⟨n-l.length-1,om⟩
 rw[hm,List.replicate_succ,List.set_cons_zero,List.length_append,List.length_singleton,show n-(l.length+1)=m by omega];simp
theorem De{l:List Int}{n:Nat}{k:Int}(h0:0<=k)(h1:k<l.length):dK (tU l n) k=dK l k:=HG h0 h1
theorem DB{l:List Int}{n:Nat}(h:∀y∈l,0<=y/\y<=1024):∀y∈tU l n,0<=y/\y<=1024:=by
 intro y hy;rcases List.mem_append.1 hy with hy|hy
 ·exact h y hy
 ·have:=List.eq_of_mem_replicate hy;omega
theorem Do{i:Int}{x:Nd}(h:pJ x=false):cX i x=false:=by
 cases e:cX i x with
 | false=>rfl
 | true=>
  unfold cX at e;simp only[Bool.and_eq_true] at e;have:pJ x=true:=by
   unfold pJ;rw[e.1.1.1.1.1.1];simpa using e.1.1.1.1.1.2
  rw[this] at h;cases h
theorem CD{i:Int}{x:Nd}(h:cX i x=false):eO i x=1:=by unfold eO;rw[if_pos h]
theorem JT{i:Int}{x:Nd}(h:cX i x=true)(h2:dW (nP x)≠0):eO i x=dW (nP x):=by unfold eO;rw[if_neg (by rw[h];simp),if_pos h2]
theorem K0{i:Int}{x:Nd}(h:cX i x=true)(h2:dW (nP x)=0)(h3:dH x=false):eO i x=5:=by unfold eO;rw[if_neg (by rw[h];simp),if_neg om,if_pos h3]
theorem Ix{i:Int}{x:Nd}(h:cX i x=true)(h2:dW (nP x)=0)(h3:dH x=true):eO i x=0:=by unfold eO;rw[if_neg (by rw[h];simp),if_neg om,if_neg (by rw[h3];simp)]
theorem tG{b:List Nd}{ls ss:List Int}{x:Nd}{e:Int}(h:eO b.length x=e)(he:e≠0):fS b ls ss x=e:=by unfold fS;rw[if_pos (by rw[h];exact he),h]
theorem Kk{b:List Nd}{ls ss:List Int}{x:Nd}(h:eO b.length x=0)(h2:256<eC ls x∨1024<iY ss x):fS b ls ss x=4:=by unfold fS;rw[if_neg om,if_pos h2]
theorem Jz{b:List Nd}{ls ss:List Int}{x:Nd}(h:eO b.length x=0)(h2:¬(256<eC ls x∨1024<iY ss x)):fS b ls ss x=if x.kind=4 then eF b x else 0:=by unfold fS;rw[if_neg om,if_neg h2]
theorem N6(ns:List Nd)(h:Pn ns):a8 prog [] 61 [.agg [.il 12 (aW ns)]] (.int .i64 (cC ns)):=by
 have hlen:(aW ns).length=ns.length:=bO ns;refine aM bG func61 rfl ?_;refine Rr ?_;rw[hlen];refine aH (fun hb=>?_) (fun hb=>?_)
 ·have h1:4096<ns.length:=by simp at hb;omega
  have:cC ns=4:=by unfold cC;rw[if_pos h1]
  rw[this];refine Rr ?_;exact aB nn ⟨rfl,rfl,rfl⟩
 ·have h1:ns.length<=4096:=by simp at hb;omega
  have:cC ns=bT [] ns:=by unfold cC;rw[if_neg om]
  rw[this];generalize hres:bT [] ns=res;have hN:=EZ ns h1;refine Rr ?_;rw[hlen];refine Rr ?_;repeat((first|refine aP (bE rfl (bE rfl (bE rfl (bE (decide_eq_true om) (bE (decide_eq_true om) (bE (nF rfl om om) (decide_eq_true om))))))) ?_|refine aX ?_);refine Rr ?_)
  refine aG.useN bG [] hN rfl (.same (.cons (.agg' (.cons (.il' (aU _)) .nil)) .nil)) trivial rfl ?_;rintro r m k ⟨rfl,rfl,rfl⟩;refine⟨[(0,16),(1,17),(2,18),(3,19)],.ptr 16 0 0,[(16,.row 203 4 [.agg [.il 12 (aW ns),.sl 17 0 ns.length,.sl 18 0 ns.length,.sl 19 0 ns.length]]),(17,.row 4 1 (kB (List.replicate ns.length false))),(18,.row 55 1 (lB (aL ns) (List.replicate ns.length false))),(19,.row 4 1 (mB (aL ns) (List.replicate ns.length false)))],20,
   .ptr 0 16 0 0 rfl,⟨⟨0,_,rfl,rfl,Bn rfl rfl rfl⟩,aJ 1 (gI _),aJ 2 (vU _ _),aJ 3 (tZ _ _),trivial⟩,rfl, ?_⟩
  refine Rt ?_;have e:((ns.length:Nat):Int).toNat=ns.length:=by simp
  rw[hlen,e];refine a9.at bG (fun p:Nat × List Bool=>p.1<=ns.length/\p.2.length=ns.length/\bT [] (ns.take p.1)=0)
   (fun p=>⟨[(1,.ptr 7 0 0),(3,.ptr 0 0 0),(28,.int .i64 ns.length),(29,.int .i64 p.1)],Dy ns (tU (aY (ns.take p.1)) ns.length) (tU (b9 (ns.take p.1)) ns.length) p.2 [(7,.row 49 1 [.agg [.il 12 (aW ns)]])],8,64⟩)
   (fun p=>ns.length-p.1) (0,List.replicate ns.length false) [(14,0),(6,1),(10,2),(16,3),(17,4),(18,5),(19,6),(0,7)] ⟨by simp,by simp,rfl⟩
   (aE _ rfl ⟨⟨14,_,rfl,rfl,Pw rfl rfl rfl⟩,⟨6,_,rfl,rfl,.eq (aQ _) (by simp[tU,aY,aT])⟩,⟨10,_,rfl,rfl,.eq (aQ _) (by simp[tU,b9,aT])⟩,⟨16,_,rfl,rfl,Bn rfl rfl rfl⟩,aJ 17 (gI _),aJ 18 (vU _ _),aJ 19 (tZ _ _),aJ 0 (.cons (.agg' (.cons (.il' (aU _)) .nil)) .nil),trivial⟩
    ⟨aK,aK,aF,aF,trivial⟩) ?_
  rintro⟨i,kn⟩ ⟨hi,hk,hv⟩;simp only at hi hk hv ⊢;refine Rr ?_;refine aH (fun hb2=>?_) (fun hb2=>?_)
  ·have hil:i<ns.length:=by simpa using hb2
   obtain⟨x,hx⟩:∃x,ns[i]? = some x:=⟨ns[i],List.getElem?_eq_getElem hil⟩
   have hxe:=(List.getElem?_eq_some_iff.1 hx).2;have hxm:=List.mem_of_getElem? hx;have ex:(aW ns)[((i:Nat):Int).toNat]? = some (cH x):=by simp[mI,hx]
   have hxn:=a6 x;have hti:(ns.take i).length=i:=by rw[List.length_take];omega
   have hll:(aY (ns.take i)).length=i:=by rw[Go.Ax.d8,hti]
   have hsl:(b9 (ns.take i)).length=i:=by rw[iA,hti]
   have hsplit:ns=ns.take i++x::ns.drop (i+1):=by rw[←hxe];simp
   have hstop:∀e:Int,fS (ns.take i) (aY (ns.take i)) (b9 (ns.take i)) x=e->e≠0->e=res:=fun e h1 h2=>by
    rw[←hres,hsplit,rX hv (by rw[h1];exact h2),h1]
   have hnext:ns.take (i+1)=ns.take i++[x]:=by rw[List.take_succ_eq_append_getElem hil,hxe]
   have hgo:fS (ns.take i) (aY (ns.take i)) (b9 (ns.take i)) x=0->bT [] (ns.take (i+1))=0:=fun h1=>by
    rw[hnext,eT [] _ _ hv];exact h1
   have hC:=OU x (h.ok x hxm);have hSh:=LK ns i x om hx (h.ok x hxm) (h.vlen x hxm);have hPa:=OJ x (h.ok x hxm) (h.val x hxm) (h.vals x hxm);have hRa:=NL x (h.ok x hxm);refine Rr ?_;repeat(refine aC ex ?_;refine Rr ?_)
   refine hC.go ?_ (.cons (.ip' hxn) .nil);cases hc:pJ x with
   | false=>
    refine Rr ?_;refine aB nn ⟨?_,rfl,rfl⟩;rw[hstop 1 (tG (CD (Do hc)) om) om]
   | true=>
    have hSh:=hSh hc;have hcc:jL [] [] [.il 12 (aW ns),.sl 1 0 ns.length,.sl 2 0 ns.length,.ptr 3 0 0] [.il 12 (aW ns),.junk,.junk,.junk]:=.cons (.same _ (.il' (aU _))) (.cons (.junk _) (.cons (.junk _) (.cons (.junk _) .nil)));refine Rr ?_;refine hSh.lend bG (.cons (.fzp 0 0 0 152 4 _ _ _ rfl rfl rfl (Nat.le_refl _) fun k c c' h1 h2=>by
     rw[Nat.zero_add] at h1;exact(jL.cons (.same _ (.il' (aU _))) (.cons (.junk _) (.cons (.junk _) (.cons (.junk _) .nil)))).2 k c c' h1 h2) (.s .nil)) (.bool _) ?_
    clear hcc;cases hf:cX i x with
    | false=>
     refine Rr ?_;refine aB nn ⟨?_,rfl,rfl⟩;rw[hstop 1 (tG (by rw[hti];exact CD hf) om) om]
    | true=>
     have hk0:x.kind=0->x.values=[]:=fun e0=>by
      unfold cX iE at hf;simp only[Bool.and_eq_true,Bool.or_eq_true,decide_eq_true_eq] at hf;rcases hf.1.1.1.1.1.1.1.2 with h'|h'
      ·omega
      ·exact List.length_eq_zero_iff.1 h'
     have hPa:=hPa hk0;refine Rr ?_;refine hPa.go ?_ (.cons (.ip' hxn) .nil);generalize hfe:dW (nP x)=fe;refine Rr ?_;refine aH (fun hb3=>?_) (fun hb3=>?_)
     ·have h0:fe≠0:=by simpa using hb3
      refine Rr ?_;refine aB nn ⟨?_,rfl,rfl⟩;rw[hstop fe (tG (by rw[hti,JT hf (by rw[hfe];exact h0),hfe]) h0) h0]
     ·have h0:fe=0:=by simpa using hb3
      rw[h0] at hfe;refine Rr ?_;refine hRa.go ?_ (.cons (.ip' hxn) .nil);cases hn:dH x with
      | false=>
       refine Rr ?_;refine aB nn ⟨?_,rfl,rfl⟩;rw[hstop 5 (tG (by rw[hti];exact K0 hf hfe hn) om) om]
      | true=>
       have hz:eO (ns.take i).length x=0:=by rw[hti];exact Ix hf hfe hn
       have hnode:=jP (i:=i) (x:=x) (by rw[←hti];exact hz);have hlens:=gE _ hv;have hS:=NO i x hx (h.ok x hxm) (h.val x hxm) (h.klen x hxm) hnode.kids hnode.kind (fun e4=>by have:=hnode.bind (by have:=hnode.kind;omega);omega) (tU (aY (ns.take i)) ns.length) (tU (b9 (ns.take i)) ns.length) kn (m9 om) (m9 om) (DB hlens.1) (DB hlens.2);have hkm:∀k∈x.kids,0<=k/\k<i:=fun k hk=>by
        obtain⟨j,hj⟩:=List.getElem?_of_mem hk;exact hnode.kids j k hj
       rw[u7 (b:=aY (ns.take i)) (fun k hk=>De (hkm k hk).1 (by rw[hll];exact(hkm k hk).2)) (fun e4=>by have:=hnode.bind e4;omega) hnode.kind,
        GX (b:=b9 (ns.take i)) (fun k hk=>De (hkm k hk).1 (by rw[hsl];exact(hkm k hk).2))] at hS
       refine Rr ?_;refine aG.useI bG [0,1,2,3,4,5,6] hS (by rfl) (.cons (.ptr 0 0 0 0 rfl) (.s .nil)) (k9 _ _ _ _) (by rfl) ?_;rintro r m k' ⟨rfl,rfl,rfl⟩;refine⟨nn,k9 _ _ _ _,by rfl, ?_⟩;cases hfit:(decide (eC (aY (ns.take i)) x<=256) && decide (wZ (b9 (ns.take i)) x<=1024)) with
       | false=>
        have hbig:256<eC (aY (ns.take i)) x∨1024<iY (b9 (ns.take i)) x:=by
         simp only[Bool.and_eq_false_iff,decide_eq_false_iff_not] at hfit;rw[HB] at hfit;omega
        refine Rr ?_;refine aB nn ⟨?_,rfl,rfl⟩;rw[hstop 4 (Kk hz hbig) om]
       | true=>
        have hfit':¬(256<eC (aY (ns.take i)) x∨1024<iY (b9 (ns.take i)) x):=by
         simp only[Bool.and_eq_true,decide_eq_true_eq] at hfit;rw[HB] at hfit;omega
        have hstep:=Jz hz hfit';have hso:gC ns i:=⟨hi,h1,h.ok,hv⟩
        have hkid:x.kind=4->∃k:Nat,x.kids[0]? = some (k:Int)/\k<i:=fun e4=>by
         have hl:=hnode.bind e4;obtain⟨k0,k1⟩:=hnode.kids 0 x.kids[0] (List.getElem?_eq_getElem om);obtain⟨k,hk⟩:=Int.eq_ofNat_of_zero_le k0;exact⟨k,by rw[List.getElem?_eq_getElem om,hk],om⟩
        have hb:x.kind=4->eF (ns.take i) x=(if (cT (aL ns) (x.kids.getD 0 0)).many=true then 4 else if dC (cT (aL ns) (x.kids.getD 0 0)).vals x.values=true then 0 else 1):=fun e4=>by
         obtain⟨k,hk,hki⟩:=hkid e4;have eg:x.kids.getD 0 0=(k:Int):=by rw[List.getD_eq_getElem?_getD,hk];rfl
         unfold eF;rw[eg,List.take_take,Nat.min_eq_left (by simp;omega),iS om (by simp;omega) (by simp;omega)]
        have hT:=Of hso x (h.vlen x hxm) hkid ((tU (aY (ns.take i)) ns.length).set i (eC (aY (ns.take i)) x)) ((tU (b9 (ns.take i)) ns.length).set i (wZ (b9 (ns.take i)) x)) kn hk;have hstep:fS (ns.take i) (aY (ns.take i)) (b9 (ns.take i)) x=(if x.kind=4 then(if (cT (aL ns) (x.kids.getD 0 0)).many=true then 4 else if dC (cT (aL ns) (x.kids.getD 0 0)).vals x.values=true then 0 else 1) else 0):=by
         rw[hstep];by_cases e4:x.kind=4
         ·rw[if_pos e4,if_pos e4,hb e4]
         ·rw[if_neg e4,if_neg e4]
        rw[←hstep] at hT;refine Rr ?_;refine aG.useI bG [0,1,2,3,4,5,6] hT (by rfl) (.cons (.ptr 0 0 0 0 rfl) (.cons (.same _ (.ip' hxn)) .nil)) (k9 _ _ _ _) (by rfl) ?_;rintro r m k' ⟨kn',hk',rfl,rfl,rfl⟩;refine⟨nn,k9 _ _ _ _,by rfl, ?_⟩;generalize hse:fS (ns.take i) (aY (ns.take i)) (b9 (ns.take i)) x=se;refine Rr ?_;refine aH (fun hb4=>?_) (fun hb4=>?_)
        ·have h0:se≠0:=by simpa using hb4
         refine Rr ?_;refine aB nn ⟨?_,rfl,rfl⟩;rw[hstop se hse h0]
        ·have h0:se=0:=by simpa using hb4
         rw[h0] at hse;have hP:=LY (fun y hy=>h.ok y (List.mem_of_mem_take hy)) hv hse;have e1:(tU (aY (ns.take i)) ns.length).set i (eC (aY (ns.take i)) x)=tU (aY (ns.take (i+1))) ns.length:=by
          rw[hnext,fR]
          conv=>lhs;rw[←hll]
          rw[hll];have:=Dc (l:=aY (ns.take i)) (n:=ns.length) (eC (aY (ns.take i)) x) om;rw[hll] at this;exact this
         have e2:(tU (b9 (ns.take i)) ns.length).set i (wZ (b9 (ns.take i)) x)=tU (b9 (ns.take (i+1))) ns.length:=by
          rw[hP,hnext,iV];have:=Dc (l:=b9 (ns.take i)) (n:=ns.length) (iY (b9 (ns.take i)) x) om;rw[hsl] at this;exact this
         rw[e1,e2];refine Rr ?_;exact .mk (i+1,kn') (oP [0,1,2,3,4,5,6,7]) ⟨by simp only;omega,hk',hgo hse⟩
          (aE _ rfl (iJ rfl rfl rfl rfl rfl rfl rfl rfl rfl rfl rfl rfl rfl rfl rfl rfl ⟨aJ 7 (.cons (.agg' (.cons (.il' (aU _)) .nil)) .nil),trivial⟩) ⟨aK,aK,aF,⟨_,rfl,.wp⟩,trivial⟩) (by simp only;omega)
  ·have hil:i=ns.length:=by simp at hb2;omega
   rw[hil,List.take_length,hres] at hv;subst hv;refine Rr ?_;exact aB nn ⟨rfl,rfl,rfl⟩
set_option maxHeartbeats 16000000
def iC(l:List a7)(n:Nat):List a7:=l++List.replicate (n-l.length) vZ
theorem rO{l:List a7}{n:Nat}(h:l.length<=n):(iC l n).length=n:=by simp[iC];omega
theorem FF{l:List a7}{n:Nat}(y:a7)(h:l.length<n):(iC l n).set l.length y=iC (l++[y]) n:=by
 unfold iC;rw[List.set_append_right _ _ (Nat.le_refl _),Nat.sub_self];obtain⟨m,hm⟩:∃m,n-l.length=m+1:=⟨n-l.length-1,om⟩
 rw[hm,List.replicate_succ,List.set_cons_zero,List.length_append,List.length_singleton,show n-(l.length+1)=m by omega];simp
theorem CA{l:List a7}{n:Nat}(h:l.length<n):iC (l++[vZ]) n=iC l n:=by
 unfold iC;obtain⟨m,hm⟩:∃m,n-l.length=m+1:=⟨n-l.length-1,om⟩
 rw[hm,List.replicate_succ,List.length_append,List.length_singleton,show n-(l.length+1)=m by omega];simp
theorem Js{l:List a7}{n k:Nat}(h:k<l.length):(aO (iC l n))[0+k]? = some (bK (l.getD k vZ)):=by
 rw[Nat.zero_add,gK];unfold iC;rw[List.getElem?_append_left h,List.getD_eq_getElem?_getD,List.getElem?_eq_getElem h];rfl
theorem xM(l:List a7)(i:Nat)(y:a7):aO (l.set i y)=(aO l).set i (bK y):=by simp[eX,List.map_set]
def nM(A:List Nd)(ls:List Int)(fs:List a7)(rest:aN):aN:=
 (0,.row 212 3 [.agg [.ip (.agg [.il 12 (aW A)]),.sl 1 0 A.length,.sl 2 0 A.length]])::(1,.row 3 1 (aT ls))::(2,.row 57 4 (aO fs))::rest
theorem lX(A:List Nd):NN (.ip (.agg [.il 12 (aW A)])):=.ip' (.agg' (.cons (.il' (aU A)) .nil))
theorem mE{mem:aN}{σ:List (Nat × Nat)}{A:List Nd}{ls:List Int}{fs:List a7}{l1 l2:List AV}{a b c:Nat}{sv:AV}{rest:aN}(s0:lk σ a=some 0)(s1:lk σ b=some 1)(s2:lk σ c=some 2)
  (m0:lk mem a=some (.row 212 3 [.agg [sv,.sl b 0 A.length,.sl c 0 A.length]])) (hs:Cv mem σ sv (.ip (.agg [.il 12 (aW A)]))) (m1:lk mem b=some (.row 3 1 l1)) (e1:l1=aT ls) (m2:lk mem c=some (.row 57 4 l2)) (e2:qS mem σ l2 (aO fs))
  (hr:cM mem σ rest):cM mem σ (nM A ls fs rest):=
 ⟨⟨a,_,s0,m0,.cons (.agg (.cons hs (.cons (.slE s1 rfl) (.cons (.slE s2 rfl) .nil)))) .nil⟩,⟨b,_,s1,m1,.eq (aQ _) e1⟩,⟨c,_,s2,m2,e2⟩,hr⟩
theorem J7{mem:aN}{σ:List (Nat × Nat)}{id i j:Nat}{t:TypeId}{sz:Nat}{xs:List AV}{x c c' v:AV}(h1:lk mem id=some (.row t sz xs))(h2:lk σ id=none)(h3:xs[i]? = some x)(h4:x.cells[j]? = some c)(h5:v.cells=[c'])(h6:Cv mem σ c c'):Cv mem σ (.ptr id i j) (.ip v):=by
 refine .fzp id i j t sz xs x v h1 h2 h3 ?_ fun k a b ha hb=>?_
 ·have:=(List.getElem?_eq_some_iff.1 h4).1;rw[h5];simp only[List.length_singleton];omega
 ·rw[h5] at hb;cases k with
  | zero=>
   rw[Nat.add_zero,h4] at ha;cases ha;cases hb;exact h6
  | succ k=>simp at hb
theorem Fm{mem:aN}{σ:List (Nat × Nat)}{x y:AV}(n:Nat)(h:GJ mem σ x y):qS mem σ (List.replicate n x) (List.replicate n y):=by
 induction n with
 | zero=>exact .nil
 | succ n ih=>rw[List.replicate_succ,List.replicate_succ];exact .cons h ih
theorem B6(n:Nat)(v:a7):aO (List.replicate n v)=List.replicate n (bK v):=by simp[eX]
theorem Qz{A:List Nd}(h:VT A):a8 prog [] 122 [.agg [.il 12 (aW A)]] (wk A):=by
 have hlen:=bO A;have hl1:=h.tin.len;have hN:=EZ A om;refine aM bG func122 rfl ?_;refine Rr ?_;rw[hlen];have e:((A.length:Nat):Int).toNat=A.length:=by simp
 repeat((first|refine aP (bE rfl (bE rfl (bE rfl (bE (decide_eq_true om) (bE (decide_eq_true om) (bE (nF rfl om om) (decide_eq_true om))))))) ?_|refine aX ?_|rw[hlen]);refine Rr ?_)
 refine aG.useN bG [] hN rfl (.same (.cons (.agg' (.cons (.il' (aU _)) .nil)) .nil)) trivial rfl ?_;rintro r m k ⟨rfl,rfl,rfl⟩;refine⟨[(0,14),(1,15),(2,16),(3,17)],.ptr 14 0 0,[(14,.row 203 4 [.agg [.il 12 (aW A),.sl 15 0 A.length,.sl 16 0 A.length,.sl 17 0 A.length]]),(15,.row 4 1 (kB (List.replicate A.length false))),(16,.row 55 1 (lB (aL A) (List.replicate A.length false))),(17,.row 4 1 (mB (aL A) (List.replicate A.length false)))],18,
  .ptr 0 14 0 0 rfl,⟨⟨0,_,rfl,rfl,Bn rfl rfl rfl⟩,aJ 1 (gI _),aJ 2 (vU _ _),aJ 3 (tZ _ _),trivial⟩,rfl, ?_⟩
 refine Rr ?_;repeat((first|refine aP (bE rfl (bE rfl (bE rfl (bE (decide_eq_true om) (bE (decide_eq_true om) (bE (nF rfl om om) (decide_eq_true om))))))) ?_|refine aX ?_|rw[hlen]);refine Rr ?_)
 rw[e];refine a9.at bG (fun i:Nat=>i<=A.length)
  (fun i=>⟨[(1,.ip (.agg [.il 12 (aW A)])),(3,.ptr 0 0 0),(23,.int .i64 A.length),(24,.int .i64 i)],nM A (tU (aY (A.take i)) A.length) (iC (cO (A.take i)) A.length) [],3,127⟩) (fun i=>A.length-i) 0 [(12,0),(6,1),(10,2)] om
  (aE _ rfl (mE (a:=12) (b:=6) (c:=10) rfl rfl rfl rfl (J7 (id:=14) rfl rfl rfl rfl rfl (.same _ (.il' (aU A)))) rfl (by simp[tU,aY,aT]) rfl (by
    have:iC (cO (A.take 0)) A.length=List.replicate A.length vZ:=by simp[iC,cO,Ig]
    rw[this,B6];exact Fm _ (v5 0 0 [])) trivial)
   ⟨⟨_,rfl,J7 (id:=0) rfl rfl rfl rfl rfl (.same _ (.il' (aU A)))⟩,aK,aF,aF,trivial⟩) ?_
 intro i hi;have di:decide ((i:Int)<(A.length:Int))=decide (i<A.length):=decide_eq_decide.2 om;by_cases hil:i<A.length
 ·have hx:=dD hil;have hne:=oL hil;have hnn:=a6 (aI A i);have hg:=h.node hx;have hok:=h.tin.ok _ (List.mem_of_getElem? hx);have hkl:=h.tin.klen _ (List.mem_of_getElem? hx);have hti:(A.take i).length=i:=by rw[List.length_take];omega
  have hll:(aY (A.take i)).length=i:=by rw[Go.Ax.d8,hti]
  have hfl:(cO (A.take i)).length=i:=by rw[g7,hti]
  have hkm:=fun(k:Int) (hk:k∈(aI A i).kids)=>eZ h hx hk
  have hbi:=fun h4=>h.bind hx h4
  have hkj:∀(j:Nat) (k:Int),(aI A i).kids[j]? = some k->0<=k/\k<i:=fun j k hk=>by
   have:=hkm k (List.mem_of_getElem? hk);omega
  have hlens:∀y∈aY (A.take i),0<=y/\y<=1024:=fun y hy=>by
   obtain⟨j,hj⟩:=List.getElem?_of_mem hy;have hj':=(List.getElem?_eq_some_iff.1 hj).1;have e1:=x5 (A:=A) (n:=i) (k:=(j:Int)) om om om;have e2:=h.lens0 (j:Int);rw[←e1] at e2;unfold dK at e2;rw[Int.toNat_natCast,List.getD_eq_getElem?_getD,hj] at e2;exact e2
  have hL:=H1 (tU (aY (A.take i)) A.length) (aI A i) hok om (DB hlens) (fun j k hk=>by have:=hkj j k hk;rw[m9 om];omega) (fun h4=>by have:=(hbi (by have:=hg.node.kind;omega)).1;omega) hg.node.kind;have hLe:eC (tU (aY (A.take i)) A.length) (aI A i)=eC (aY (A.take i)) (aI A i):=
   u7 (fun k hk=>De (hkm k hk).1 (by have:=hkm k hk;omega)) (fun h4=>by have:=(hbi h4).1;omega) hg.node.kind
  rw[hLe] at hL;have hLs:aY (A.take (i+1))=aY (A.take i)++[eC (aY (A.take i)) (aI A i)]:=by
   rw[List.take_succ_eq_append_getElem hil,fR];have:=(List.getElem?_eq_some_iff.1 hx).2;rw[this]
  have hFs:cO (A.take (i+1))=cO (A.take i)++[uL (aY (A.take i)) (cO (A.take i)) (aI A i)]:=by
   rw[List.take_succ_eq_append_getElem hil,s8];have:=(List.getElem?_eq_some_iff.1 hx).2;rw[this]
  have hps:=Dc (n:=A.length) (eC (aY (A.take i)) (aI A i)) (show (aY (A.take i)).length<A.length by omega);have hfs:=FF (n:=A.length) (uL (aY (A.take i)) (cO (A.take i)) (aI A i)) (show (cO (A.take i)).length<A.length by omega);rw[hll,←hLs] at hps;rw[hfl,←hFs] at hfs;have hfg:∀k,k<i->(aO (iC (cO (A.take i)) A.length))[0+k]? = some (bK ((cO (A.take i)).getD k vZ)):=fun k hk=>Js om
  have hkd:=fun(j:Nat) (hj:j<(aI A i).kids.length)=>h.kid hx hj
  have hmd:=fun(ks:List a7)=>Kr (aI A i) ks
  have hFN:uL (aY (A.take i)) (cO (A.take i)) (aI A i)=if 0<eC (aY (A.take i)) (aI A i) then vZ else if (aI A i).kind=0 then(aI A i).value else if (aI A i).kind=3 then c9 (aI A i).name ((aI A i).kids.map fun k=>(cO (A.take i)).getD k.toNat vZ) else if (aI A i).kind=4 then(cO (A.take i)).getD (bB (aI A i) 1) vZ else vZ:=rfl
  have hpl:(aT (tU (aY (A.take i)) A.length)).length=A.length:=by rw[aD,m9 om]
  have hpv:(aO (iC (cO (A.take i)) A.length)).length=A.length:=by rw[aA,rO om]
  have hps1:=lL (tU (aY (A.take i)) A.length) i (eC (aY (A.take i)) (aI A i));have hfs1:=xM (iC (cO (A.take i)) A.length) i (uL (aY (A.take i)) (cO (A.take i)) (aI A i));rw[hps] at hps1;rw[hfs] at hfs1;have hkind:=hg.node.kind;generalize uL (aY (A.take i)) (cO (A.take i)) (aI A i)=fx at *;generalize eC (aY (A.take i)) (aI A i)=ln at *;generalize aI A i=x at *;obtain⟨kind,name,lo,hi',ws,lbs,vals,kids,⟨vk,vn,vs,vks⟩⟩:=x;simp only at hkm hbi hkj hkd hmd hFN hkind hkl;refine Rr ?_;rw[di,decide_eq_true hil];refine Rt ?_;repeat(refine aC hne ?_;refine Rt ?_)
  refine hL.lend bG (.cons (.same _ (.ip' hnn)) (.cons (j9 (id:=1) rfl hpl.symm rfl (aQ _)) .nil)) (.int _ _) ?_;have g1:Nat.blt ((i:Nat):Int).toNat A.length=true:=Nat.ble_eq_true_of_le (by simp;omega);obtain⟨z,hz⟩:∃z:Int,(aT (tU (aY (A.take i)) A.length))[0+((i:Nat):Int).toNat]? = some (.int .i64 z):=by
   have:i<(tU (aY (A.take i)) A.length).length:=by rw[m9 om];omega
   exact⟨_,by rw[Nat.zero_add,Int.toNat_natCast,bF,List.getElem?_eq_getElem this];rfl⟩
  have hz2:((aT (tU (aY (A.take i)) A.length)).set (0+((i:Nat):Int).toNat) (.int .i64 ln))[0+((i:Nat):Int).toNat]? = some (.int .i64 ln):=by
   rw[List.getElem?_set_self (by rw[hpl];simp;omega)]
  have h0i:0+((i:Nat):Int).toNat=i:=by simp
  refine Rt ?_;repeat((first|refine aC hne ?_|refine aP g1 ?_|refine aC hz ?_|refine aC hz2 ?_);refine Rt ?_)
  refine aH (fun hb=>?_) (fun hb=>?_)
  ·have hln:0<ln:=by simpa using hb
   rw[if_pos hln] at hFN;refine Rr ?_;have hsk:=CA (n:=A.length) (show (cO (A.take i)).length<A.length by omega);rw[hFN] at hFs;rw[←hFs] at hsk;exact .mk (i+1) [(0,0),(1,1),(2,2)] om (aE _ rfl (mE (a:=0) (b:=1) (c:=2) rfl rfl rfl rfl (.same _ (lX A)) rfl (by rw[h0i,hps1]) rfl (.eq (aS _) (by rw[hsk])) trivial)
    ⟨aR (lX A),aK,aF,⟨_,rfl,.w64 om ⟨om,om⟩⟩,trivial⟩) om
  ·have hln:¬0<ln:=by simpa using hb
   rw[if_neg hln] at hFN;obtain⟨z1,z2,z3,z4,hzv⟩:∃a b c d,(aO (iC (cO (A.take i)) A.length))[0+((i:Nat):Int).toNat]? = some (bK (.mk a b c d)):=by
    have:i<(iC (cO (A.take i)) A.length).length:=by rw[rO om];omega
    obtain⟨⟨a,b,c,d⟩,hv⟩:∃v,v=(iC (cO (A.take i)) A.length)[i]:=⟨_,rfl⟩
    exact⟨a,b,c,d,by rw[Nat.zero_add,Int.toNat_natCast,gK,List.getElem?_eq_getElem this,hv];rfl⟩
   refine Rr ?_;by_cases k0:kind=0
   ·subst k0;rw[if_pos rfl] at hFN;rw[hFN] at hfs1;refine Rt ?_;repeat((first|refine aC hne ?_|refine aP g1 ?_|refine aC hzv ?_);refine Rt ?_)
    exact .mk (i+1) [(0,0),(1,1),(2,2)] om (aE _ rfl (mE (a:=0) (b:=1) (c:=2) rfl rfl rfl rfl (.same _ (lX A)) rfl (by rw[h0i,hps1]) rfl (.eq (aS _) (by rw[h0i,hfs1];rfl)) trivial)
    ⟨aR (lX A),aK,aF,⟨_,rfl,.w64 om ⟨om,om⟩⟩,trivial⟩) om
   ·rw[if_neg k0] at hFN;rw[show (kind == 0)=false by simpa using k0];refine Rr ?_;by_cases k3:kind=3
    ·subst k3;rw[if_pos rfl] at hFN;have lkk:=aD kids;refine Rr ?_;rw[lkk];refine aP (bE rfl (bE rfl (bE rfl (bE (decide_eq_true om) (bE (decide_eq_true om) (bE (nF rfl om om) (decide_eq_true om))))))) ?_;refine Rr ?_;have ek0:((kids.length:Nat):Int).toNat=kids.length:=by simp
     rw[ek0];refine a9.at bG (fun j:Nat=>j<=kids.length)
      (fun j=>⟨[(1,.ip (.agg [.il 12 (aW A)])),(3,.ptr 0 0 0),(4,.int .i64 i),(5,.ip (cH ⟨3,name,lo,hi',ws,lbs,vals,kids,.mk vk vn vs vks⟩)),(6,.sl 3 0 kids.length),(23,.int .i64 A.length),(24,.int .i64 i),(78,.il 1 (aT kids)),(79,.int .i64 kids.length),(80,.int .i64 j)],
       nM A (tU (aY (A.take (i+1))) A.length) (iC (cO (A.take i)) A.length) [(3,.row 57 4 (aO (iC ((kids.take j).map fun k=>(cO (A.take i)).getD k.toNat vZ) kids.length)))],4,127⟩)
      (fun j=>kids.length-j) 0 [(0,0),(1,1),(2,2),(16,3)] om
      (aE _ rfl (mE (a:=0) (b:=1) (c:=2) rfl rfl rfl rfl (.same _ (lX A)) rfl (by rw[h0i,hps1]) rfl (.same (aS _)) ⟨⟨16,_,rfl,rfl,by
        have:iC ((kids.take 0).map fun k=>(cO (A.take i)).getD k.toNat vZ) kids.length=List.replicate kids.length vZ:=by simp[iC]
        rw[this,B6];exact Fm _ (v5 0 0 [])⟩,trivial⟩)
       ⟨aR (lX A),aK,aF,aR (.ip' hnn),⟨_,rfl,.slE rfl rfl⟩,aF,aF,aR (.il' (aQ _)),⟨_,rfl,.int (by rw[lkk])⟩,aF,trivial⟩) ?_
     intro j hj;have dj:decide ((j:Int)<(kids.length:Int))=decide (j<kids.length):=decide_eq_decide.2 om;by_cases hjl:j<kids.length
     ·have ek:=l6 hjl;obtain⟨m0,m1⟩:=hkm kids[j] (List.getElem_mem hjl);have hnx:(kids.take (j+1)).map (fun k=>(cO (A.take i)).getD k.toNat vZ)=(kids.take j).map (fun k=>(cO (A.take i)).getD k.toNat vZ)++[(cO (A.take i)).getD kids[j].toNat vZ]:=by
       rw[List.take_succ_eq_append_getElem hjl,List.map_append];rfl
      generalize kids[j]=kz at *;obtain⟨k,rfl⟩:=Int.eq_ofNat_of_zero_le m0;simp only[Int.toNat_natCast] at m1 hnx;have e2:(aO (iC (cO (A.take i)) A.length))[0+((k:Nat):Int).toNat]? = some (bK ((cO (A.take i)).getD k vZ)):=by rw[Int.toNat_natCast];exact hfg k m1
      have g2:Nat.blt ((k:Nat):Int).toNat A.length=true:=Nat.ble_eq_true_of_le (by simp;omega);have g3:Nat.blt ((j:Nat):Int).toNat kids.length=true:=Nat.ble_eq_true_of_le (by simp;omega);have hml:((kids.take j).map fun k=>(cO (A.take i)).getD k.toNat vZ).length=j:=by rw[List.length_map,List.length_take];omega
      have hset:=FF (n:=kids.length) ((cO (A.take i)).getD k vZ) (show ((kids.take j).map fun k=>(cO (A.take i)).getD k.toNat vZ).length<kids.length by omega);rw[hml,←hnx] at hset;have hset1:=xM (iC ((kids.take j).map fun k=>(cO (A.take i)).getD k.toNat vZ) kids.length) j ((cO (A.take i)).getD k vZ);rw[hset] at hset1;generalize (cO (A.take i)).getD k vZ=u at *;obtain⟨y1,y2,y3,y4,hyv⟩:∃a b c d,(aO (iC ((kids.take j).map fun k=>(cO (A.take i)).getD k.toNat vZ) kids.length))[0+((j:Nat):Int).toNat]? = some (bK (.mk a b c d)):=by
       have:j<(iC ((kids.take j).map fun k=>(cO (A.take i)).getD k.toNat vZ) kids.length).length:=by rw[rO om];omega
       obtain⟨⟨a,b,c,d⟩,hv⟩:∃v,v=(iC ((kids.take j).map fun k=>(cO (A.take i)).getD k.toNat vZ) kids.length)[j]:=⟨_,rfl⟩
       exact⟨a,b,c,d,by rw[Nat.zero_add,Int.toNat_natCast,gK,List.getElem?_eq_getElem this,hv];rfl⟩
      obtain⟨u1,u2,u3,u4⟩:=u;refine Rr ?_;rw[dj,decide_eq_true hjl];refine Rt ?_;repeat((first|refine aC ek ?_|refine aC e2 ?_|refine aP g2 ?_|refine aP g3 ?_|refine aC hyv ?_);refine Rt ?_)
      exact .mk (j+1) [(0,0),(1,1),(2,2),(3,3)] om
       (aE _ rfl (mE (a:=0) (b:=1) (c:=2) rfl rfl rfl rfl (.same _ (lX A)) rfl rfl rfl (.same (aS _)) ⟨⟨3,_,rfl,rfl,.eq (aS _) (by rw[Nat.zero_add,Int.toNat_natCast];exact hset1.symm)⟩,trivial⟩)
        ⟨aR (lX A),aK,aF,aR (.ip' hnn),⟨_,rfl,.slE rfl rfl⟩,aF,aF,aR (.il' (aQ _)),aF,⟨_,rfl,.w64 om ⟨om,om⟩⟩,trivial⟩) om
     ·have hje:j=kids.length:=om;subst hje;rw[List.take_length];have hp0:iC (kids.map fun k=>(cO (A.take i)).getD k.toNat vZ) kids.length=kids.map fun k=>(cO (A.take i)).getD k.toNat vZ:=by simp[iC]
      rw[hp0];have hm0:=hmd (kids.map fun k=>(cO (A.take i)).getD k.toNat vZ);rw[←hFN] at hm0;have hml:(aO (kids.map fun k=>(cO (A.take i)).getD k.toNat vZ)).length=kids.length:=by rw[aA,List.length_map]
      have hun:=bM fx;clear hFN;generalize (kids.map fun k=>(cO (A.take i)).getD k.toNat vZ)=us at *;obtain⟨u1,u2,u3,u4⟩:=fx;refine Rr ?_;rw[dj,decide_eq_false hjl];refine Rt ?_;refine aG.pre bG [(0,0),(1,1),(2,2)] (mem':=nM A (tU (aY (A.take (i+1))) A.length) (iC (cO (A.take i)) A.length) []) rfl (mE (a:=0) (b:=1) (c:=2) rfl rfl rfl rfl (.same _ (lX A)) rfl rfl rfl (.same (aS _)) trivial)
       (.cons (.same _ (.ip' hnn)) (.cons (.fz' (id:=3) (off:=0) (len:=kids.length) (xs:=aO us) (ys:=aO us) rfl rfl om (by rw[List.drop_zero,List.take_of_length_le om]) (aS _)) .nil)) ?_
      refine hm0.go ?_ (.cons (.ip' hnn) (.cons (.il' (aS _)) .nil)) hun;refine Rt ?_;repeat((first|refine aP g1 ?_|refine aC hzv ?_);refine Rt ?_)
      exact .mk (i+1) [(0,0),(1,1),(2,2)] om (aE _ rfl (mE (a:=0) (b:=1) (c:=2) rfl rfl rfl rfl (.same _ (lX A)) rfl rfl rfl (.eq (aS _) (by rw[h0i];exact hfs1.symm)) trivial)
    ⟨aR (lX A),aK,aF,⟨_,rfl,.w64 om ⟨om,om⟩⟩,trivial⟩) om
    ·rw[if_neg k3] at hFN;rw[show (kind == 3)=false by simpa using k3];refine Rr ?_;by_cases k4:kind=4
     ·subst k4;rw[if_pos rfl] at hFN;have hb4:=(hbi rfl).1;have hb5:=(hbi rfl).2.1;have e1':bB ⟨4,name,lo,hi',ws,lbs,vals,kids,.mk vk vn vs vks⟩ 1<i/\kids[1]? = some (bB ⟨4,name,lo,hi',ws,lbs,vals,kids,.mk vk vn vs vks⟩ 1:Int):=hkd 1 om;generalize bB ⟨4,name,lo,hi',ws,lbs,vals,kids,.mk vk vn vs vks⟩ 1=k1 at *;have e1:(aT kids)[Int.toNat 1]? = some (.int .i64 (k1:Int)):=by rw[show Int.toNat 1=1 from rfl,bF,e1'.2];rfl
      have e2:(aO (iC (cO (A.take i)) A.length))[0+((k1:Nat):Int).toNat]? = some (bK ((cO (A.take i)).getD k1 vZ)):=by rw[Int.toNat_natCast];exact hfg k1 e1'.1
      have g2:Nat.blt ((k1:Nat):Int).toNat A.length=true:=Nat.ble_eq_true_of_le (by simp;omega);rw[←hFN] at e2;obtain⟨u1,u2,u3,u4⟩:=fx;refine Rt ?_;repeat((first|refine aC e1 ?_|refine aC e2 ?_|refine aP g1 ?_|refine aP g2 ?_|refine aC hzv ?_);refine Rt ?_)
      exact .mk (i+1) [(0,0),(1,1),(2,2)] om (aE _ rfl (mE (a:=0) (b:=1) (c:=2) rfl rfl rfl rfl (.same _ (lX A)) rfl (by rw[h0i,hps1]) rfl (.eq (aS _) (by rw[h0i];exact hfs1.symm)) trivial)
    ⟨aR (lX A),aK,aF,⟨_,rfl,.w64 om ⟨om,om⟩⟩,trivial⟩) om
     ·rw[if_neg k4] at hFN;rw[show (kind == 4)=false by simpa using k4];have hsk:=CA (n:=A.length) (show (cO (A.take i)).length<A.length by omega);rw[hFN] at hFs;rw[←hFs] at hsk;refine Rr ?_;exact .mk (i+1) [(0,0),(1,1),(2,2)] om (aE _ rfl (mE (a:=0) (b:=1) (c:=2) rfl rfl rfl rfl (.same _ (lX A)) rfl (by rw[h0i,hps1]) rfl (.eq (aS _) (by rw[hsk])) trivial)
    ⟨aR (lX A),aK,aF,⟨_,rfl,.w64 om ⟨om,om⟩⟩,trivial⟩) om
 ·have hie:i=A.length:=om;subst hie;rw[List.take_length];have hp1:tU (aY A) A.length=aY A:=by simp[tU,Go.Ax.d8]
  have hp2:iC (cO A) A.length=cO A:=by simp[iC,g7]
  rw[hp1,hp2];refine Rr ?_;rw[di,decide_eq_false hil];refine Rr ?_;refine bU (r':=wk A) ?_ ⟨rfl,rfl,rfl⟩;exact .fzp 0 0 0 212 3 _ _ (Qx A) rfl rfl rfl (Nat.le_refl _) fun k c c' h1 h2=>by
   rw[Nat.zero_add] at h1;exact(jL.cons (.same _ (lX A)) (.cons (j9 (id:=1) rfl (by rw[aD,Go.Ax.d8]) rfl (aQ _)) (.cons (j9 (id:=2) rfl (by rw[aA,g7]) rfl (aS _)) .nil))).2 k c c' h1 h2
set_option maxHeartbeats 16000000
def c7(l:List Sp):List AV:=l.map fun s=>.agg [.int .i64 s.1,.int .i64 s.2.1,.int .i64 s.2.2]
theorem eQ(l:List Sp):(c7 l).length=l.length:=by simp[c7]
theorem hZ(l:List Sp):iW (c7 l):=fun a h=>by
 simp only[c7,List.mem_map] at h;obtain⟨p,_,rfl⟩:=h;exact .agg' (.cons nn (.cons nn (.cons nn .nil)))
theorem B7(l:List Sp)(k:Nat):(c7 l)[k]? = (l[k]?).map fun s=>AV.agg [.int .i64 s.1,.int .i64 s.2.1,.int .i64 s.2.2]:=by simp[c7]
theorem fX(l m:List Sp):c7 (l++m)=c7 l++c7 m:=by simp[c7]
def Cl(v:a7)(used:Nat)(stop:Int)(rid n:Nat):AV:=match v with
 | .mk a b c d=>.agg [.int .i64 a,.int .i64 b,.str c,.il 4 (aO d),.int .i64 used,.int .i64 stop,.sl rid 0 n]
def OF(r0:wR):AV->aN->Nat->Prop:=fun r m k=>r=Cl r0.val r0.used r0.stop 0 r0.spans.length/\m=[(0,.row 186 3 (c7 r0.spans))]/\k=1
def PC(A:List Nd)(p:List Int)(f:Nat):Prop:=∀(i a0:Nat),i<f->i<A.length->a0<=p.length ->
 aG prog [] 71 [.agg [.il 12 (aW A)],.int .i64 i,.il 1 (aT p),.int .i64 a0] [] 0 (OF (aZ A p f i a0))
theorem MW{A:List Nd}{p:List Int}{f i a0:Nat}(ih:PC A p f)(h1:i<f)(h2:i<A.length)(h3:a0<=p.length){mem:aN}{nx:Nat}{K:AV->aN->Nat->Prop}
  (hc:(kW [(nx,AB.row 186 3 [])] && (lC [(0,nx)] && (Nat.ble nx (nx+1) && (lQ [] nx [(nx,AB.row 186 3 [])] && sF [] 0 nx (nx+1) [(0,nx)]))))=true)
  (hk:K (Cl (aZ A p f i a0).val (aZ A p f i a0).used (aZ A p f i a0).stop nx (aZ A p f i a0).spans.length) ((nx,.row 186 3 (c7 (aZ A p f i a0).spans))::mem) (nx+1)) :
  aG prog [] 71 [.agg [.il 12 (aW A)],.int .i64 i,.il 1 (aT p),.int .i64 a0] mem nx K:=by
 refine aG.useN bG [] (ih i a0 h1 h2 h3) rfl (.same (.cons (.agg' (.cons (.il' (aU _)) .nil)) (.cons nn (.cons (.il' (aQ _)) (.cons nn .nil))))) trivial rfl ?_;rintro r m k ⟨rfl,rfl,rfl⟩;generalize aZ A p f i a0=R at *;obtain⟨⟨v1,v2,v3,v4⟩,u,st,sp⟩:=R;have hdr:∀m:aN,fE (fF []) m=m:=by
  intro m
  induction m with
  | nil=>rfl
  | cons a m ih=>obtain⟨k,b⟩:=a;simp only[fF,fE,zH];rw[show fE [] m=m from ih]
 refine⟨[(0,nx)],Cl (.mk v1 v2 v3 v4) u st nx sp.length,[(nx,.row 186 3 (c7 sp))],nx+1,.agg' (.s (.s (.s (.cons (.same _ (.il' (aS _))) (.s (.s (.cons (.slE rfl rfl) .nil))))))),⟨aJ 0 (hZ _),trivial⟩,hc, ?_⟩;rw[hdr];exact hk
theorem Eb(x:Nd)(h:x.kind=1->dH x=true):a8 prog [] 46 [cH x] (.int .i64 (fY x)):=by
 have hr:x.kind=1->x.lo<=x.hi/\x.hi<x.lo+1099511627776:=fun e=>⟨(cD (h e)).1,(cD (h e)).2.2.2⟩
 have ho:fY x=if x.kind=1 then x.hi-x.lo+1 else x.kids.length:=rfl
 clear h;obtain⟨kind,name,lo,hi,ws,ls,vals,kids,⟨vk,vn,vs,vks⟩⟩:=x;simp only at hr ho;generalize fY ⟨kind,name,lo,hi,ws,ls,vals,kids,.mk vk vn vs vks⟩=o at *;refine aM bG func46 rfl ?_;refine Rr ?_;refine aH (fun h=>?_) (fun h=>?_)
 ·have h1:kind=1:=by simpa using h
  obtain⟨r1,r2⟩:=hr h1;rw[if_pos h1] at ho;have hw:IntKind.i64.wrap (hi-lo)=hi-lo:=cK ⟨om,om⟩;have hw2:IntKind.i64.wrap (hi-lo+1)=o:=by rw[cK ⟨om,om⟩,ho]
  refine Rr ?_;rw[hw,hw2];exact aB nn ⟨rfl,rfl,rfl⟩
 ·have h1:¬kind=1:=by simpa using h
  rw[if_neg h1] at ho;refine Rr ?_;exact bU (.int (by rw[ho,aD])) ⟨rfl,rfl,rfl⟩
theorem NJ{A:List Nd}(h:VT A){p:List Int}(hp:p.length<=1000000000){f:Nat}(ih:PC A p f){i:Nat}{x:Nd}(hx:A[i]? = some x)(hif:i<=f){a0:Nat}(ha:a0<=p.length)
  (hS:(bH (fun k q=>aZ A p f k q) a0 x.kids ⟨0,[],[],-1⟩).spans.length<=4294967296) :
  aG prog [] 117 [.agg [.il 12 (aW A)],cH x,.il 1 (aT p),.int .i64 a0] [] 0 (OF (Bo x (bH (fun k q=>aZ A p f k q) a0 x.kids ⟨0,[],[],-1⟩))):=by
 have hil:=(List.getElem?_eq_some_iff.1 hx).1;have hkm:=fun(k:Int) (hk:k∈x.kids)=>eZ h hx hk
 have hkl:=h.tin.klen _ (List.mem_of_getElem? hx);have hbd:∀(k q:Nat),q<=p.length->q+(aZ A p f k q).used<=p.length:=fun k q hq=>(v8 (A:=A) p f k q hq).1
 have hnn:=a6 x;have nA:NN (.il 12 (aW A)):=.il' (aU A);have np:NN (.il 1 (aT p)):=.il' (aQ p);have hmd:=fun(ks:List a7)=>M5 x ks
 have hseq:∀s:Pt,Bo x s=⟨if s.stop = -1 then c9 x.name s.vals else vZ,s.used,s.stop,s.spans⟩:=fun s=>rfl
 have hseq:=hseq (bH (fun k q=>aZ A p f k q) a0 x.kids ⟨0,[],[],-1⟩);rw[hseq];clear hseq hx;obtain⟨kind,name,lo,hi',ws,lbs,vals,kids,⟨vk,vn,vs,vks⟩⟩:=x;simp only at hkm hkl hS hmd ⊢;refine aM bG func117 rfl ?_;refine Rr ?_;refine a9.ph 186 3 ?_;refine a9.ph 57 4 ?_;obtain⟨P,hP⟩:∃P:Nat->Pt,P=fun j=>bH (fun k q=>aZ A p f k q) a0 (kids.take j) ⟨0,[],[],-1⟩:=⟨_,rfl⟩
 have hP0:P 0=⟨0,[],[],-1⟩:=by rw[hP];rfl
 have hPe:bH (fun k q=>aZ A p f k q) a0 kids ⟨0,[],[],-1⟩=P kids.length:=by rw[hP];simp
 have hPn:∀j (hj:j<kids.length),(P j).stop = -1->P (j+1)=Ih (fun k q=>aZ A p f k q) a0 kids[j] (P j):=fun j hj hs=>by
  rw[hP] at hs ⊢;exact lD hj rfl hs
 have hPs:∀j (hj:j<kids.length),(P j).stop = -1->(P (j+1)).stop≠-1->P kids.length=P (j+1):=fun j hj hs hs2=>by
  rw[←hPe];rw[hP] at hs hs2 ⊢;exact p5 hj rfl hs hs2
 have hPl:∀j (hj:j<kids.length),(P j).stop = -1->(P j).spans.length+1+(aZ A p f kids[j].toNat (a0+(P j).used)).spans.length<=4294967296:=fun j hj hs=>by
  refine Nat.le_trans ?_ hS;rw[hP] at hs ⊢;exact vI (rd:=fun k q=>aZ A p f k q) hj rfl hs
 rw[hPe] at hS ⊢;clear hPe hP;refine a9.at bG (fun j:Nat=>j<=kids.length/\(P j).stop = -1/\a0+(P j).used<=p.length/\(P j).vals.length=j)
  (fun j=>⟨[(2,.il 1 (aT p)),(3,.int .i64 a0),(4,.ip (.agg [.il 12 (aW A)])),(5,.ip (cH ⟨kind,name,lo,hi',ws,lbs,vals,kids,.mk vk vn vs vks⟩)),(8,.ptr 0 0 0),(9,.ptr 1 0 0),(10,.sl 3 0 (P j).vals.length),(11,.int .i64 j)],
   [(0,.row 97 7 [.agg [.int .i64 0,.int .i64 0,.str [],.nsl,.int .i64 0,.int .i64 0,.nsl]]),(1,.row 97 7 [.agg [.int .i64 0,.int .i64 0,.str [],.nsl,.int .i64 (P j).used,.int .i64 (-1),.sl 2 0 (P j).spans.length]]),
    (2,.row 186 3 (c7 (P j).spans)),(3,.row 57 4 (aO (P j).vals))],4,80⟩)
  (fun j=>kids.length-j) 0 [(2,0),(3,1),(4,2),(5,3)] ⟨om,by rw[hP0],by rw[hP0];exact ha,by rw[hP0];rfl⟩
  (aE _ rfl ⟨aJ 2 (.cons nn .nil),⟨3,_,rfl,rfl,by rw[hP0];exact .cons (.agg (.s (.s (.s (.s (.s (.s (.cons (.nslk 4 2 _ rfl rfl) .nil)))))))) .nil⟩,⟨4,_,rfl,rfl,by rw[hP0];exact .nil⟩,⟨5,_,rfl,rfl,by rw[hP0];exact .nil⟩,trivial⟩
   ⟨aR np,aF,⟨_,rfl,.fzp 0 0 0 49 1 _ _ _ rfl rfl rfl (Nat.le_refl _) fun k c c' h1 h2=>by
    rw[Nat.zero_add] at h1;exact(jL.cons (.same _ nA) .nil).2 k c c' h1 h2⟩,⟨_,rfl,.fzp 1 0 0 83 12 _ _ _ rfl rfl rfl (Nat.le_refl _) fun k c c' h1 h2=>by
    rw[Nat.zero_add] at h1;exact(jL.same hnn.cells).2 k c c' h1 h2⟩,aK,aK,⟨_,rfl,by rw[hP0];exact .nslk 5 3 _ rfl rfl⟩,aF,trivial⟩) ?_
 rintro j ⟨hj,hst,hus,hvl⟩;have dj:decide ((j:Int)<((aT kids).length:Int))=decide (j<kids.length):=by rw[aD];exact decide_eq_decide.2 om
 have ls:=eQ (P j).spans;have lv:=aA (P j).vals;by_cases hjl:j<kids.length
 ·have hnx:=hPn j hjl hst;have hend:=hPs j hjl hst;have hln:=hPl j hjl hst;have ek:=l6 hjl;obtain⟨m0,m1⟩:=hkm kids[j] (List.getElem_mem hjl);generalize kids[j]=kz at *;obtain⟨k,rfl⟩:=Int.eq_ofNat_of_zero_le m0;simp only[Int.toNat_natCast] at m1 hnx hln;unfold Ih at hnx;simp only[Int.toNat_natCast] at hnx;have hb:=hbd k (a0+(P j).used) hus;clear hPn hPs hPl;generalize hpj:P j=pj at *;obtain⟨us,vls,sps,st⟩:=pj;simp only at hst hus hvl hnx hln hb ls lv ⊢;subst hst;have hw1:IntKind.i64.wrap ((a0:Int)+(us:Int))=((a0+us:Nat):Int):=by rw[cK ⟨om,om⟩];omega
  refine Rr ?_;rw[dj,decide_eq_true hjl];refine Rt ?_;repeat(refine aC ek ?_;refine Rt ?_)
  rw[hw1];refine MW ih om om hus rfl ?_;generalize aZ A p f k (a0+us)=R at *;obtain⟨⟨v1,v2,v3,v4⟩,ru,rst,rsp⟩:=R;simp only at hnx hln hb ⊢;refine Rt ?_;have hw2:IntKind.i64.wrap (((a0+us:Nat):Int)+(ru:Int))=((a0+us+ru:Nat):Int):=by rw[cK ⟨om,om⟩];omega
  rw[hw1,hw2];refine aP (bV rfl rfl (by rw[ls]) (by simp;omega)) ?_;refine Rr ?_;refine aP (Nat.ble_eq_true_of_le (by rw[eQ];omega)) ?_;have htk:List.take rsp.length (List.drop 0 (c7 rsp))=c7 rsp:=by rw[List.drop_zero,List.take_of_length_le (by rw[eQ];omega)]
  rw[htk];have lr:=eQ rsp;refine Rr ?_;refine aP (bV rfl rfl (by simp;omega) (by simp;omega)) ?_;refine Rt ?_;refine aP (bV rfl rfl (by rw[lv]) (by simp;omega)) ?_;refine Rr ?_;have hsp:c7 sps++List.take 1 (List.drop 0 [AV.agg [.int .i64 a0,.int .i64 ((a0+us:Nat):Int),.int .i64 ((a0+us+ru:Nat):Int)]])++c7 rsp=c7 (sps++(a0,a0+us,a0+us+ru)::rsp):=by
   rw[show sps++(a0,a0+us,a0+us+ru)::rsp=sps++[(a0,a0+us,a0+us+ru)]++rsp by simp,fX,fX];rfl
  have hvs:aO vls++List.take 1 (List.drop 0 [AV.agg [.int .i64 v1,.int .i64 v2,.str v3,.il 4 (aO v4)]])=aO (vls++[.mk v1 v2 v3 v4]):=by rw[e7];rfl
  have hw3:IntKind.i64.wrap ((us:Int)+(ru:Int))=((us+ru:Nat):Int):=by rw[cK ⟨om,om⟩];omega
  rw[hw3];by_cases hs1:rst = -1
  ·subst hs1;refine Rr ?_;refine .mk (j+1) [(0,0),(1,1),(21,2),(23,3)] ⟨om,by rw[hnx],by rw[hnx];simp only;omega,by rw[hnx];simp only[List.length_append,List.length_singleton];omega⟩
    (aE _ rfl ⟨aJ 0 (.cons (.agg' (.cons nn (.cons nn (.cons nn (.cons nn (.cons nn (.cons nn (.cons nn .nil)))))))) .nil),
      ⟨1,_,rfl,rfl,.cons (.agg (.s (.s (.s (.s (.cons (.int (by rw[hnx])) (.s (.cons (.slE rfl (by rw[hnx];simp;omega)) .nil)))))))) .nil⟩,
      ⟨21,_,rfl,rfl,.eq (hZ _) (by rw[hsp,hnx])⟩,⟨23,_,rfl,rfl,.eq (aS _) (by rw[hvs,hnx])⟩,trivial⟩
     ⟨aR np,aF,aR (.ip' (.agg' (.cons nA .nil))),aR (.ip' hnn),aK,aK,⟨_,rfl,.slE rfl (by rw[hnx];simp)⟩,⟨_,rfl,.w64 om ⟨om,om⟩⟩,trivial⟩) om
  ·rw[show (rst != -1)=true by simpa using hs1];have hend:=hend (by rw[hnx];exact hs1);rw[hend,hnx];simp only;rw[if_neg hs1];refine Rr ?_;exact bN (n':=1) (m':=[(0,.row 186 3 (c7 (sps++(a0,a0+us,a0+us+ru)::rsp)))]) [(21,0)] rfl ⟨⟨21,_,rfl,rfl,.eq (hZ _) hsp⟩,trivial⟩
    (.agg' (.s (.s (.s (.cons (.nil 4) (.s (.s (.cons (.slE rfl (by simp;omega)) .nil)))))))) ⟨rfl,rfl,rfl⟩
 ·have hje:j=kids.length:=om;subst hje;rw[if_pos hst,hst];generalize P kids.length=pj at *;obtain⟨us,vls,sps,st⟩:=pj;simp only at hst hus hvl ls lv ⊢;have hm0:=hmd vls;have hvn:=bM (c9 name vls);generalize c9 name vls=v at *;obtain⟨v1,v2,v3,v4⟩:=v;refine Rr ?_;rw[dj,decide_eq_false hjl];refine Rr ?_;refine aG.pre bG [(0,0),(1,1),(2,2)] (mem':=[(0,.row 97 7 [.agg [.int .i64 0,.int .i64 0,.str [],.nsl,.int .i64 0,.int .i64 0,.nsl]]),(1,.row 97 7 [.agg [.int .i64 0,.int .i64 0,.str [],.nsl,.int .i64 us,.int .i64 (-1),.sl 2 0 sps.length]]),(2,.row 186 3 (c7 sps))]) rfl
   ⟨aJ 0 (.cons (.agg' (.cons nn (.cons nn (.cons nn (.cons nn (.cons nn (.cons nn (.cons nn .nil)))))))) .nil),⟨1,_,rfl,rfl,.cons (.agg (.s (.s (.s (.s (.s (.s (.cons (.slE rfl rfl) .nil)))))))) .nil⟩,aJ 2 (hZ _),trivial⟩
   (.cons (.same _ hnn) (.cons (.fz' (id:=3) (off:=0) (len:=vls.length) (xs:=aO vls) (ys:=aO vls) rfl rfl om (by rw[List.drop_zero,List.take_of_length_le om]) (aS _)) .nil)) ?_
  refine hm0.go ?_ (.cons hnn (.cons (.il' (aS _)) .nil)) hvn;refine Rr ?_;exact bN (n':=1) (m':=[(0,.row 186 3 (c7 sps))]) [(2,0)] rfl ⟨aJ 2 (hZ _),trivial⟩
    (.agg' (.s (.s (.s (.cons (.same _ (.il' (aS _))) (.s (.s (.cons (.slE rfl rfl) .nil)))))))) ⟨rfl,rfl,rfl⟩
set_option maxHeartbeats 16000000
def kF(l:List Bool)(n:Nat):List Bool:=l++List.replicate (n-l.length) false
theorem sD{l:List Bool}{n:Nat}(h:l.length<=n):(kF l n).length=n:=by simp[kF];omega
theorem Ko{l:List Bool}{n:Nat}(y:Bool)(h:l.length<n):(kF l n).set l.length y=kF (l++[y]) n:=by
 unfold kF;rw[List.set_append_right _ _ (Nat.le_refl _),Nat.sub_self];obtain⟨m,hm⟩:∃m,n-l.length=m+1:=⟨n-l.length-1,om⟩
 rw[hm,List.replicate_succ,List.set_cons_zero,List.length_append,List.length_singleton,show n-(l.length+1)=m by omega];simp
theorem IG{l:List Bool}{n:Nat}(h:l.length<n):kF (l++[false]) n=kF l n:=by
 unfold kF;obtain⟨m,hm⟩:∃m,n-l.length=m+1:=⟨n-l.length-1,om⟩
 rw[hm,List.replicate_succ,List.length_append,List.length_singleton,show n-(l.length+1)=m by omega];simp
theorem tE(l:List Bool)(i:Nat):(kB l)[i]? = (l[i]?).map AV.bool:=by simp[kB]
theorem OL(l:List Bool):(kB l).length=l.length:=by simp[kB]
theorem zR(l:List Bool)(i:Nat)(b:Bool):kB (l.set i b)=(kB l).set i (.bool b):=by simp[kB,List.map_set]
theorem Lv{A:List Nd}(h:VT A):a8 prog [] 123 [.agg [.il 12 (aW A)],wk A] (.il 1 (kB (cN A))):=by
 have hlen:=bO A;have hl1:=h.tin.len;have nA:NN (.il 12 (aW A)):=.il' (aU A);refine aM bG func123 rfl ?_;refine Rr ?_;rw[hlen];have e:((A.length:Nat):Int).toNat=A.length:=by simp
 refine aP (bE rfl (bE rfl (bE rfl (bE (decide_eq_true om) (bE (decide_eq_true om) (bE (nF rfl om om) (decide_eq_true om))))))) ?_;refine Rr ?_;rw[e];refine a9.at bG (fun i:Nat=>i<=A.length)
  (fun i=>⟨[(1,wk A),(2,.ip (.agg [.il 12 (aW A)])),(5,.sl 0 0 A.length),(16,.int .i64 A.length),(17,.int .i64 i)],[(0,.row 4 1 (kB (kF (cN (A.take i)) A.length)))],1,69⟩) (fun i=>A.length-i) 0 [(1,0)] om
  (aE _ rfl ⟨⟨1,_,rfl,rfl,.eq (gI _) (by simp[kF,cN,Ia,kB])⟩,trivial⟩ ⟨aR (jQ A),⟨_,rfl,J7 (id:=0) rfl rfl rfl rfl rfl (.same _ nA)⟩,⟨_,rfl,.slE rfl rfl⟩,⟨_,rfl,.int (by rw[hlen])⟩,aF,trivial⟩) ?_
 intro i hi;have di:decide ((i:Int)<(A.length:Int))=decide (i<A.length):=decide_eq_decide.2 om;by_cases hil:i<A.length
 ·have hx:=dD hil;have hne:=oL hil;have hnn:=a6 (aI A i);have hg:=h.node hx;have hkl:=h.tin.klen _ (List.mem_of_getElem? hx);have hti:(A.take i).length=i:=by rw[List.length_take];omega
  have hpl:(cN (A.take i)).length=i:=by rw[gT,hti]
  have hkm:=fun(k:Int) (hk:k∈(aI A i).kids)=>eZ h hx hk
  have hCh:=E5 hil;have hln:=h.len hx;have hln2:=h.lenC hx (Nat.le_refl i) om;have hPs:cN (A.take (i+1))=cN (A.take i)++[w7 (aY (A.take i)) (cN (A.take i)) (aI A i)]:=by
   rw[List.take_succ_eq_append_getElem hil,tJ,(List.getElem?_eq_some_iff.1 hx).2]
  have hPN:w7 (aY (A.take i)) (cN (A.take i)) (aI A i)=(decide (eC (aY (A.take i)) (aI A i)<=0) && (decide ((aI A i).kind≠3) || decide ((aI A i).kids.length=0)) && (aI A i).kids.all fun k=>(cN (A.take i)).getD k.toNat false):=rfl;rw[hln2,←hln] at hPN;have hset:=fun b=>Ko (n:=A.length) b (show (cN (A.take i)).length<A.length by omega)
  rw[hpl] at hset;have hl0:=(h.lens0 (i:Int)).1;generalize w7 (aY (A.take i)) (cN (A.take i)) (aI A i)=pb at *;generalize dK (aY A) i=ln at *;clear hln hln2 hg hx;generalize aI A i=x at *;obtain⟨kind,name,lo,hi',ws,lbs,vals,kids,⟨vk,vn,vs,vks⟩⟩:=x;simp only at hkm hkl hPN;refine Rr ?_;rw[di,decide_eq_true hil];refine Rt ?_;repeat(refine aC hne ?_;refine Rt ?_)
  refine hCh.go ?_ (.cons (jQ A) (.cons nn .nil)) nn;refine Rr ?_;refine aH (fun hb=>?_) (fun hb=>?_)
  ·have hlp:0<ln:=by simpa using hb
   have hpf:pb=false:=by rw[hPN,decide_eq_false om];rfl
   rw[hpf] at hPs;have hsk:=IG (n:=A.length) (show (cN (A.take i)).length<A.length by omega);rw[←hPs] at hsk;refine Rr ?_;exact .mk (i+1) [(0,0)] om (aE _ rfl ⟨⟨0,_,rfl,rfl,.eq (gI _) (by rw[hsk])⟩,trivial⟩ ⟨aR (jQ A),aR (.ip' (.agg' (.cons nA .nil))),⟨_,rfl,.slE rfl rfl⟩,aF,⟨_,rfl,.w64 om ⟨om,om⟩⟩,trivial⟩) om
  ·have hlp:¬0<ln:=by simpa using hb
   rw[decide_eq_true (show ln<=0 by omega),Bool.true_and] at hPN;have lkk:=aD kids;have g1:Nat.blt ((i:Nat):Int).toNat A.length=true:=Nat.ble_eq_true_of_le (by simp;omega);obtain⟨pi,hpi⟩:∃b:Bool,(kB (kF (cN (A.take i)) A.length))[0+((i:Nat):Int).toNat]? = some (.bool b):=by
    have:i<(kF (cN (A.take i)) A.length).length:=by rw[sD om];omega
    exact⟨_,by rw[Nat.zero_add,Int.toNat_natCast,tE,List.getElem?_eq_getElem this];rfl⟩
   refine Rr ?_;by_cases k3:kind=3
   ·subst k3;rw[show decide ((3:Int)≠3)=false by simp,Bool.false_or] at hPN;have dl:(((aT kids).length:Int) == 0)=decide (kids.length=0):=by rw[lkk];by_cases e0:kids.length=0<;>simp[e0]
    refine Rr ?_;rw[dl];refine Rs ?_;repeat((first|refine aC hpi ?_|refine aP g1 ?_);refine Rt ?_)
    generalize decide (kids.length=0)=b0 at *;refine a9.at bG (fun j:Nat=>j<=kids.length)
     (fun j=>⟨[(1,wk A),(2,.ip (.agg [.il 12 (aW A)])),(5,.sl 0 0 A.length),(6,.int .i64 i),(16,.int .i64 A.length),(17,.int .i64 i),(47,.il 1 (aT kids)),(48,.int .i64 kids.length),(49,.int .i64 j)],
      [(0,.row 4 1 (kB ((kF (cN (A.take i)) A.length).set i (b0 && (kids.take j).all fun k=>(cN (A.take i)).getD k.toNat false))))],1,69⟩)
     (fun j=>kids.length-j) 0 [(0,0)] om
     (aE _ rfl ⟨⟨0,_,rfl,rfl,.eq (gI _) (by simp[zR])⟩,trivial⟩ ⟨aR (jQ A),aR (.ip' (.agg' (.cons nA .nil))),⟨_,rfl,.slE rfl rfl⟩,aF,aF,aF,aR (.il' (aQ _)),⟨_,rfl,.int (by rw[lkk])⟩,aF,trivial⟩) ?_
    intro j hj;have dj:decide ((j:Int)<(kids.length:Int))=decide (j<kids.length):=decide_eq_decide.2 om;have hBl:(kF (cN (A.take i)) A.length).length=A.length:=sD om;by_cases hjl:j<kids.length
    ·have ek:=l6 hjl;obtain⟨m0,m1⟩:=hkm kids[j] (List.getElem_mem hjl);have hall:((kids.take (j+1)).all fun k=>(cN (A.take i)).getD k.toNat false)=(((kids.take j).all fun k=>(cN (A.take i)).getD k.toNat false) && (cN (A.take i)).getD kids[j].toNat false):=by
      rw[List.take_succ_eq_append_getElem hjl,List.all_append];simp
     generalize kids[j]=kz at *;obtain⟨k,rfl⟩:=Int.eq_ofNat_of_zero_le m0;simp only[Int.toNat_natCast] at m1 hall;have hgk:∀b:Bool,(kB ((kF (cN (A.take i)) A.length).set i b))[0+((k:Nat):Int).toNat]? = some (.bool ((cN (A.take i)).getD k false)):=fun b=>by
      have hk:k<(cN (A.take i)).length:=om;rw[Nat.zero_add,Int.toNat_natCast,tE,List.getElem?_set_ne om];unfold kF;rw[List.getElem?_append_left hk,List.getD_eq_getElem?_getD,List.getElem?_eq_getElem hk];rfl
     have hgi:∀b:Bool,(kB ((kF (cN (A.take i)) A.length).set i b))[0+((i:Nat):Int).toNat]? = some (.bool b):=fun b=>by
      rw[Nat.zero_add,Int.toNat_natCast,tE,List.getElem?_set_self om];rfl
     have g2:Nat.blt ((k:Nat):Int).toNat A.length=true:=Nat.ble_eq_true_of_le (by simp;omega);generalize (cN (A.take i)).getD k false=gk at *;have hall2:(b0 && ((kids.take (j+1)).all fun k=>(cN (A.take i)).getD k.toNat false))=((b0 && ((kids.take j).all fun k=>(cN (A.take i)).getD k.toNat false)) && gk):=by rw[hall,Bool.and_assoc]
     generalize (b0 && ((kids.take j).all fun k=>(cN (A.take i)).getD k.toNat false))=b at *;have hgk:=hgk b;have hgi:=hgi b;have hss:∀c:Bool,(kB ((kF (cN (A.take i)) A.length).set i b)).set (0+((i:Nat):Int).toNat) (.bool c)=kB ((kF (cN (A.take i)) A.length).set i c):=fun c=>by
      rw[Nat.zero_add,Int.toNat_natCast,←zR,List.set_set]
     cases b with
     | false=>
      refine Rr ?_;rw[dj,decide_eq_true hjl];refine Rt ?_;repeat((first|refine aC ek ?_|refine aC hgi ?_|refine aP g1 ?_);refine Rt ?_)
      exact .mk (j+1) [(0,0)] om (aE _ rfl ⟨⟨0,_,rfl,rfl,.eq (gI _) (by rw[hss,hall2];rfl)⟩,trivial⟩ ⟨aR (jQ A),aR (.ip' (.agg' (.cons nA .nil))),⟨_,rfl,.slE rfl rfl⟩,aF,aF,aF,aR (.il' (aQ _)),aF,⟨_,rfl,.w64 om ⟨om,om⟩⟩,trivial⟩) om
     | true=>
      refine Rr ?_;rw[dj,decide_eq_true hjl];refine Rt ?_;repeat((first|refine aC ek ?_|refine aC hgi ?_|refine aC hgk ?_|refine aP g1 ?_|refine aP g2 ?_);refine Rt ?_)
      exact .mk (j+1) [(0,0)] om (aE _ rfl ⟨⟨0,_,rfl,rfl,.eq (gI _) (by rw[hss,hall2];rfl)⟩,trivial⟩ ⟨aR (jQ A),aR (.ip' (.agg' (.cons nA .nil))),⟨_,rfl,.slE rfl rfl⟩,aF,aF,aF,aR (.il' (aQ _)),aF,⟨_,rfl,.w64 om ⟨om,om⟩⟩,trivial⟩) om
    ·have hje:j=kids.length:=om;rw[hje,List.take_length,←hPN,hset,←hPs];refine Rr ?_;rw[show decide (((kids.length:Nat):Int)<(kids.length:Int))=false by simp];refine Rr ?_;exact .mk (i+1) [(0,0)] om (aE _ rfl ⟨aJ 0 (gI _),trivial⟩ ⟨aR (jQ A),aR (.ip' (.agg' (.cons nA .nil))),⟨_,rfl,.slE rfl rfl⟩,aF,⟨_,rfl,.w64 om ⟨om,om⟩⟩,trivial⟩) om
   ·rw[decide_eq_true (show kind≠3 from k3),Bool.true_or] at hPN;rw[show (kind != 3)=true by simpa using k3];refine Rt ?_;repeat((first|refine aC hpi ?_|refine aP g1 ?_);refine Rt ?_)
    refine a9.at bG (fun j:Nat=>j<=kids.length)
     (fun j=>⟨[(1,wk A),(2,.ip (.agg [.il 12 (aW A)])),(5,.sl 0 0 A.length),(6,.int .i64 i),(16,.int .i64 A.length),(17,.int .i64 i),(47,.il 1 (aT kids)),(48,.int .i64 kids.length),(49,.int .i64 j)],
      [(0,.row 4 1 (kB ((kF (cN (A.take i)) A.length).set i (true && (kids.take j).all fun k=>(cN (A.take i)).getD k.toNat false))))],1,69⟩)
     (fun j=>kids.length-j) 0 [(0,0)] om
     (aE _ rfl ⟨⟨0,_,rfl,rfl,.eq (gI _) (by simp[zR])⟩,trivial⟩ ⟨aR (jQ A),aR (.ip' (.agg' (.cons nA .nil))),⟨_,rfl,.slE rfl rfl⟩,aF,aF,aF,aR (.il' (aQ _)),⟨_,rfl,.int (by rw[lkk])⟩,aF,trivial⟩) ?_
    intro j hj;have dj:decide ((j:Int)<(kids.length:Int))=decide (j<kids.length):=decide_eq_decide.2 om;have hBl:(kF (cN (A.take i)) A.length).length=A.length:=sD om;by_cases hjl:j<kids.length
    ·have ek:=l6 hjl;obtain⟨m0,m1⟩:=hkm kids[j] (List.getElem_mem hjl);have hall:((kids.take (j+1)).all fun k=>(cN (A.take i)).getD k.toNat false)=(((kids.take j).all fun k=>(cN (A.take i)).getD k.toNat false) && (cN (A.take i)).getD kids[j].toNat false):=by
      rw[List.take_succ_eq_append_getElem hjl,List.all_append];simp
     generalize kids[j]=kz at *;obtain⟨k,rfl⟩:=Int.eq_ofNat_of_zero_le m0;simp only[Int.toNat_natCast] at m1 hall;have hgk:∀b:Bool,(kB ((kF (cN (A.take i)) A.length).set i b))[0+((k:Nat):Int).toNat]? = some (.bool ((cN (A.take i)).getD k false)):=fun b=>by
      have hk:k<(cN (A.take i)).length:=om;rw[Nat.zero_add,Int.toNat_natCast,tE,List.getElem?_set_ne om];unfold kF;rw[List.getElem?_append_left hk,List.getD_eq_getElem?_getD,List.getElem?_eq_getElem hk];rfl
     have hgi:∀b:Bool,(kB ((kF (cN (A.take i)) A.length).set i b))[0+((i:Nat):Int).toNat]? = some (.bool b):=fun b=>by
      rw[Nat.zero_add,Int.toNat_natCast,tE,List.getElem?_set_self om];rfl
     have g2:Nat.blt ((k:Nat):Int).toNat A.length=true:=Nat.ble_eq_true_of_le (by simp;omega);generalize (cN (A.take i)).getD k false=gk at *;have hall2:(true && ((kids.take (j+1)).all fun k=>(cN (A.take i)).getD k.toNat false))=((true && ((kids.take j).all fun k=>(cN (A.take i)).getD k.toNat false)) && gk):=by rw[hall,Bool.and_assoc]
     generalize (true && ((kids.take j).all fun k=>(cN (A.take i)).getD k.toNat false))=b at *;have hgk:=hgk b;have hgi:=hgi b;have hss:∀c:Bool,(kB ((kF (cN (A.take i)) A.length).set i b)).set (0+((i:Nat):Int).toNat) (.bool c)=kB ((kF (cN (A.take i)) A.length).set i c):=fun c=>by
      rw[Nat.zero_add,Int.toNat_natCast,←zR,List.set_set]
     cases b with
     | false=>
      refine Rr ?_;rw[dj,decide_eq_true hjl];refine Rt ?_;repeat((first|refine aC ek ?_|refine aC hgi ?_|refine aP g1 ?_);refine Rt ?_)
      exact .mk (j+1) [(0,0)] om (aE _ rfl ⟨⟨0,_,rfl,rfl,.eq (gI _) (by rw[hss,hall2];rfl)⟩,trivial⟩ ⟨aR (jQ A),aR (.ip' (.agg' (.cons nA .nil))),⟨_,rfl,.slE rfl rfl⟩,aF,aF,aF,aR (.il' (aQ _)),aF,⟨_,rfl,.w64 om ⟨om,om⟩⟩,trivial⟩) om
     | true=>
      refine Rr ?_;rw[dj,decide_eq_true hjl];refine Rt ?_;repeat((first|refine aC ek ?_|refine aC hgi ?_|refine aC hgk ?_|refine aP g1 ?_|refine aP g2 ?_);refine Rt ?_)
      exact .mk (j+1) [(0,0)] om (aE _ rfl ⟨⟨0,_,rfl,rfl,.eq (gI _) (by rw[hss,hall2];rfl)⟩,trivial⟩ ⟨aR (jQ A),aR (.ip' (.agg' (.cons nA .nil))),⟨_,rfl,.slE rfl rfl⟩,aF,aF,aF,aR (.il' (aQ _)),aF,⟨_,rfl,.w64 om ⟨om,om⟩⟩,trivial⟩) om
    ·have hje:j=kids.length:=om;rw[hje,List.take_length,←hPN,hset,←hPs];refine Rr ?_;rw[show decide (((kids.length:Nat):Int)<(kids.length:Int))=false by simp];refine Rr ?_;exact .mk (i+1) [(0,0)] om (aE _ rfl ⟨aJ 0 (gI _),trivial⟩ ⟨aR (jQ A),aR (.ip' (.agg' (.cons nA .nil))),⟨_,rfl,.slE rfl rfl⟩,aF,⟨_,rfl,.w64 om ⟨om,om⟩⟩,trivial⟩) om
 ·have hie:i=A.length:=om;subst hie;rw[List.take_length];have hp1:kF (cN A) A.length=cN A:=by simp[kF,gT]
  rw[hp1];refine Rr ?_;rw[di,decide_eq_false hil];refine Rr ?_;exact bU (r':=.il 1 (kB (cN A))) (j9 (id:=0) rfl (by rw[OL,gT]) rfl (gI _)) ⟨rfl,rfl,rfl⟩
set_option maxHeartbeats 16000000
theorem Ac(raw:List Int):NN (.ip (.il 1 (aT raw))):=.ip' (.il' (aQ raw))
theorem yD(A:List Nd):NN (.ip (wk A)):=.ip' (jQ A)
set_option maxHeartbeats 16000000
def uE(n c:Int):Value:=.iface 177 (.agg #[.int .i64 n,.int .i64 c])
def JF(a:Nat):aN:=[(0,.row 3 1 [.int .i64 a])]
def MK(A:List Nd)(p:List Int)(i a0:Nat)(x:Value):Prop:=(p.length<=a0/\x=uE i 0)∨(a0<p.length/\(p.getD a0 0<0∨fY (aI A i)<=p.getD a0 0)/\x=uE (-1) 11)
theorem LV{A:List Nd}(h:VT A){p:List Int}(hp:p.length<=1000000000){i a0:Nat}(hi:i<A.length)(ha:a0<=p.length) :
  bI prog [] 124 [.int .i64 i,.ptr 0 0 0,.ip (.il 1 (aT p)),.ip (.agg [.il 12 (aW A)])] (JF a0) 1
   (fun r m k=>a0<p.length/\0<=p.getD a0 0/\p.getD a0 0<fY (aI A i)/\r = .int .i64 (p.getD a0 0)/\m=JF (a0+1)/\k=1)
   (fun x m k=>MK A p i a0 x/\m=JF a0/\k=1):=by
 have hx:=dD hi;have hg:=h.node hx;have ho:=Kh (aI A i) (fun _=>hg.node.num);have en:=oL hi;have nx:=a6 (aI A i);have lp:=aD p;have hpe:a0<p.length->(aT p)[(a0:Int).toNat]? = some (.int .i64 (p.getD a0 0)):=fun hq=>by
  rw[l6 hq,List.getD_eq_getElem?_getD,List.getElem?_eq_getElem hq];rfl
 unfold MK;generalize fY (aI A i)=o at *;generalize aI A i=x at *;generalize p.getD a0 0=c at *;refine Ab bG func124 rfl ?_;refine Rq ?_;have d1:((a0:Int) == ((aT p).length:Int))=decide (a0=p.length):=by rw[lp];by_cases e:a0=p.length<;>simp[e];omega
 rw[d1];by_cases hq:a0=p.length
 ·rw[decide_eq_true hq];refine Rq ?_;exact bN (r':=.junk) (n':=1) (m':=JF a0) [(0,0)] rfl ⟨aJ 0 (.cons nn .nil),trivial⟩ (.junk _) ⟨.inl ⟨om,rfl⟩,rfl,rfl⟩
 ·rw[decide_eq_false hq];have hpe:=hpe om;refine Rq ?_;repeat((first|refine aC hpe ?_|refine aC en ?_|refine bL.2 ?_|refine aX ?_);refine Rq ?_)
  by_cases hc0:c<0
  ·rw[decide_eq_true hc0];refine Rq ?_;exact bN (r':=.junk) (n':=1) (m':=JF a0) [(0,0)] rfl ⟨aJ 0 (.cons nn .nil),trivial⟩ (.junk _) ⟨.inr ⟨om,.inl hc0,rfl⟩,rfl,rfl⟩
  ·rw[decide_eq_false hc0];refine Rq ?_;repeat((first|refine aC hpe ?_|refine aC en ?_|refine bL.2 ?_|refine aX ?_);refine Rq ?_)
   refine ho.goP ?_ (.cons (.ip' nx) .nil) nn;refine Rq ?_;have d2:decide (c≥o)=decide (o<=c):=decide_eq_decide.2 om;rw[d2];by_cases hco:o<=c
   ·rw[decide_eq_true hco];refine Rq ?_;exact bN (r':=.junk) (n':=1) (m':=JF a0) [(0,0)] rfl ⟨aJ 0 (.cons nn .nil),trivial⟩ (.junk _) ⟨.inr ⟨om,.inr hco,rfl⟩,rfl,rfl⟩
   ·rw[decide_eq_false hco];refine Rq ?_;exact bN (n':=1) (m':=JF (a0+1)) [(0,0)] rfl ⟨⟨0,_,rfl,rfl,.cons (.one rfl rfl (.w64 om ⟨om,om⟩)) .nil⟩,trivial⟩ (.same _ nn) ⟨om,om,om,rfl,rfl,rfl⟩
def Ok(rid n:Nat):AV:=.agg [.int .i64 0,.int .i64 0,.str [],.nsl,.int .i64 0,.sl rid 0 n,.int .i64 0]
def N4(A:List Nd)(p:List Int):AV:=.fn (.func 124) [] [.ptr 0 0 0,.ip (.il 1 (aT p)),.ip (.agg [.il 12 (aW A)])]
def DU(A:List Nd)(s:Bool):AV:=.fn (.func 126) [] [.ip (.agg [.il 12 (aW A)]),.ip (wk A),.ip (.bool s),.ip (.il 1 (kB (cN A))),.ptr 2 0 0,.ptr 3 0 0,.ptr 0 0 0,.ptr 1 0 0]
def o6(A:List Nd)(p:List Int)(s:Bool)(a:Nat)(L:List Sp)(rid:Nat)(rest:aN):aN:=
 (0,.row 3 1 [.int .i64 a])::(1,.row 104 7 [Ok rid L.length])::(2,.row 184 1 [N4 A p])::(3,.row 92 1 [DU A s])::(rid,.row 186 3 (c7 L))::rest
theorem oY(A:List Nd):NN (.ip (.agg [.il 12 (aW A)])):=.ip' (.agg' (.cons (.il' (aU A)) .nil))
theorem Cq(A:List Nd):NN (.ip (.il 1 (kB (cN A)))):=.ip' (.il' (gI _))
theorem Nm{mem:aN}{σ:List (Nat × Nat)}{A:List Nd}{p:List Int}(h:lk σ 0=some 0):Cv mem σ (N4 A p) (N4 A p):=
 .fn _ _ _ _ _ rfl rfl (by simp) (jL.cons (.ptr 0 0 0 0 h) (.cons (.same _ (Ac p)) (.cons (.same _ (oY A)) .nil))).2
theorem NP{mem:aN}{σ:List (Nat × Nat)}{A:List Nd}{s:Bool}(h0:lk σ 0=some 0)(h1:lk σ 1=some 1)(h2:lk σ 2=some 2)(h3:lk σ 3=some 3):Cv mem σ (DU A s) (DU A s):=
 .fn _ _ _ _ _ rfl rfl (by simp) (jL.cons (.same _ (oY A)) (.cons (.same _ (yD A)) (.s (.cons (.same _ (Cq A)) (.cons (.ptr 2 2 0 0 h2) (.cons (.ptr 3 3 0 0 h3) (.cons (.ptr 0 0 0 0 h0) (.cons (.ptr 1 1 0 0 h1) .nil)))))))).2
theorem cZ{mem:aN}{σ:List (Nat × Nat)}{A:List Nd}{p:List Int}{s:Bool}{a:Nat}{av:Int}{L:List Sp}{len rid rid':Nat}{xs:List AV}{rest:aN}(s0:lk σ 0=some 0)(s1:lk σ 1=some 1)(s2:lk σ 2=some 2)(s3:lk σ 3=some 3)(sr:lk σ rid=some rid')
  (m0:lk mem 0=some (.row 3 1 [.int .i64 av])) (ha:av=(a:Int)) (m1:lk mem 1=some (.row 104 7 [Ok rid len])) (hl:len=L.length) (m2:lk mem 2=some (.row 184 1 [N4 A p])) (m3:lk mem 3=some (.row 92 1 [DU A s]))
  (mr:lk mem rid=some (.row 186 3 xs)) (hx:xs=c7 L) (hr:cM mem σ rest):cM mem σ (o6 A p s a L rid' rest):=
 ⟨⟨0,_,s0,m0,.cons (.one rfl rfl (.int ha)) .nil⟩,⟨1,_,s1,m1,.cons (.agg (.s (.s (.s (.s (.s (.cons (.slE sr hl) (.s .nil)))))))) .nil⟩,
  ⟨2,_,s2,m2,.cons (.one rfl rfl (Nm s0)) .nil⟩,⟨3,_,s3,m3,.cons (.one rfl rfl (NP s0 s1 s2 s3)) .nil⟩,⟨rid,_,sr,mr,.eq (hZ _) hx⟩,hr⟩
def qR(r:wR)(x:Value):Prop:=(∃n:Nat,r.stop=(n:Int)/\x=uE n 0)∨(r.stop = -2/\x=uE (-1) 11)
def Pv(A:List Nd)(p:List Int)(s:Bool)(r0:wR)(a0:Nat)(L:List Sp):AV->aN->Nat->Prop:=fun r m k=>r0.stop = -1/\r=bK r0.val/\∃X:List Sp,X.length<=r0.spans.length/\(s=true->X=r0.spans)/\m=o6 A p s (a0+r0.used) (L++X) 5 []/\k=6
def RJ(A:List Nd)(p:List Int)(s:Bool)(r0:wR):Value->aN->Nat->Prop:=fun x m k=>qR r0 x/\∃(a:Nat) (L:List Sp),m=o6 A p s a L 5 []/\k=6
def PP(A:List Nd)(p:List Int)(s:Bool)(f:Nat):Prop:=∀(i a0:Nat) (L:List Sp),i<f->i<A.length->a0<=p.length->L.length+(aZ A p f i a0).spans.length<=4294967296 ->
 bI prog [] 126 [.int .i64 i,.ip (.agg [.il 12 (aW A)]),.ip (wk A),.ip (.bool s),.ip (.il 1 (kB (cN A))),.ptr 2 0 0,.ptr 3 0 0,.ptr 0 0 0,.ptr 1 0 0] (o6 A p s a0 L 4 []) 5
  (Pv A p s (aZ A p f i a0) a0 L) (RJ A p s (aZ A p f i a0))
set_option maxHeartbeats 16000000
theorem OW{A:List Nd}(h:VT A){p:List Int}(hp:p.length<=1000000000){s:Bool}{i a0:Nat}(hi:i<A.length)(ha:a0<=p.length){mem rest:aN}{nx:Nat}{K:AV->aN->Nat->Prop}{Kp:Value->aN->Nat->Prop}
  (hm:lP [0] mem=JF a0) (hd:fE [0] mem=rest)
  (hk:a0<p.length->0<=p.getD a0 0->p.getD a0 0<fY (aI A i)->K (.int .i64 (p.getD a0 0)) ((0,.row 3 1 [.int .i64 ((a0+1:Nat):Int)])::rest) nx)
  (hkp:∀x,MK A p i a0 x->Kp x ((0,.row 3 1 [.int .i64 ((a0:Nat):Int)])::rest) nx)
  (hc:(kW (JF a0) && (lC [(0,0)] && (Nat.ble nx nx && (lQ [0] nx (JF a0) && sF [(0,0)] 1 nx nx [(0,0)]))))=true) :
  bI prog [] 124 [.int .i64 i,.ptr 0 0 0,.ip (.il 1 (aT p)),.ip (.agg [.il 12 (aW A)])] mem nx K Kp:=by
 refine bI.useN bG [(0,0)] (LV h hp hi ha) hm (.s (.cons (.ptr 0 0 0 0 rfl) (.cons (.same _ (Ac p)) (.cons (.same _ (oY A)) .nil)))) ⟨aJ 0 (.cons nn .nil),trivial⟩ rfl ?_ ?_
 ·rintro r m k ⟨h1,h2,h3,rfl,rfl,rfl⟩;refine⟨[(0,0)],_,JF (a0+1),nx,.same _ nn,⟨aJ 0 (.cons nn .nil),trivial⟩,hc, ?_⟩;rw[show fF [(0,0)]=[0] from rfl,hd];exact hk h1 h2 h3
 ·rintro x m k ⟨h1,rfl,rfl⟩;refine⟨[(0,0)],JF a0,nx,⟨aJ 0 (.cons nn .nil),trivial⟩,hc, ?_⟩;rw[show fF [(0,0)]=[0] from rfl,hd];exact hkp x h1
theorem yB{A:List Nd}{p:List Int}{s:Bool}{f:Nat}(ih:PP A p s f){i a0:Nat}{L:List Sp}(h1:i<f)(h2:i<A.length)(h3:a0<=p.length)(h4:L.length+(aZ A p f i a0).spans.length<=4294967296){mem rest:aN}{nx:Nat}{K:AV->aN->Nat->Prop}{Kp:Value->aN->Nat->Prop}
  (rid:Nat) (hp:lP [0,1,2,3,rid] mem=o6 A p s a0 L rid []) (hd:fE [0,1,2,3,rid] mem=rest)
  (hc0:(kW (o6 A p s a0 L 4 []) && (lC [(0,0),(1,1),(2,2),(3,3),(rid,4)] && rK 5 [(0,0),(1,1),(2,2),(3,3),(rid,4)]))=true)
  (l0:lk [(0,0),(1,1),(2,2),(3,3),(rid,4)] rid=some 4) (hm:lk (o6 A p s a0 L rid []) rid=some (.row 186 3 (c7 L)))
  (hc:∀(a:Nat) (L':List Sp),(kW (o6 A p s a L' nx []) && (lC [(0,0),(1,1),(2,2),(3,3),(5,nx)] && (Nat.ble nx (nx+1) && (lQ [0,1,2,3,rid] nx (o6 A p s a L' nx []) && sF [(0,0),(1,1),(2,2),(3,3),(rid,4)] 5 nx (nx+1) [(0,0),(1,1),(2,2),(3,3),(5,nx)]))))=true)
  (hk:(aZ A p f i a0).stop = -1->∀X:List Sp,X.length<=(aZ A p f i a0).spans.length->(s=true->X=(aZ A p f i a0).spans)->K (bK (aZ A p f i a0).val) (o6 A p s (a0+(aZ A p f i a0).used) (L++X) nx []++rest) (nx+1))
  (hkp:∀x,qR (aZ A p f i a0) x->∀(a:Nat) (L':List Sp),Kp x (o6 A p s a L' nx []++rest) (nx+1)) :
  bI prog [] 126 [.int .i64 i,.ip (.agg [.il 12 (aW A)]),.ip (wk A),.ip (.bool s),.ip (.il 1 (kB (cN A))),.ptr 2 0 0,.ptr 3 0 0,.ptr 0 0 0,.ptr 1 0 0] mem nx K Kp:=by
 refine bI.useN bG [(0,0),(1,1),(2,2),(3,3),(rid,4)] (ih i a0 L h1 h2 h3 h4) hp (.s (.cons (.same _ (oY A)) (.cons (.same _ (yD A)) (.s (.cons (.same _ (Cq A)) (.cons (.ptr 2 2 0 0 rfl) (.cons (.ptr 3 3 0 0 rfl) (.cons (.ptr 0 0 0 0 rfl) (.cons (.ptr 1 1 0 0 rfl) .nil)))))))))
  (cZ (rid:=rid) rfl rfl rfl rfl l0 rfl rfl rfl rfl rfl rfl hm rfl trivial) hc0 ?_ ?_
 ·rintro r m k ⟨e1,rfl,X,hX,hXs,rfl,rfl⟩;refine⟨[(0,0),(1,1),(2,2),(3,3),(5,nx)],_,o6 A p s (a0+(aZ A p f i a0).used) (L++X) nx [],nx+1,.same _ (bM _),cZ (rid:=5) rfl rfl rfl rfl rfl rfl rfl rfl rfl rfl rfl rfl rfl trivial,hc _ _, ?_⟩;rw[show fF [(0,0),(1,1),(2,2),(3,3),(rid,4)]=[0,1,2,3,rid] from rfl,hd];exact hk e1 X hX hXs
 ·rintro x m k ⟨e1,a,L',rfl,rfl⟩;refine⟨[(0,0),(1,1),(2,2),(3,3),(5,nx)],o6 A p s a L' nx [],nx+1,cZ (rid:=5) rfl rfl rfl rfl rfl rfl rfl rfl rfl rfl rfl rfl rfl trivial,hc _ _, ?_⟩;rw[show fF [(0,0),(1,1),(2,2),(3,3),(rid,4)]=[0,1,2,3,rid] from rfl,hd];exact hkp x e1 a L'
theorem G8{A:List Nd}{p:List Int}{s:Bool}{f:Nat}(ih:PP A p s f){i a0:Nat}{L:List Sp}(h1:i<f)(h2:i<A.length)(h3:a0<=p.length)(h4:L.length+(aZ A p f i a0).spans.length<=4294967296){mem m1 rest:aN}{nx:Nat}{K:AV->aN->Nat->Prop}{Kp:Value->aN->Nat->Prop}
  (rid:Nat) (hp:lP [0,1,2,3,rid] mem=m1) (hM:cM m1 [(0,0),(1,1),(2,2),(3,3),(rid,4)] (o6 A p s a0 L 4 [])) (hd:fE [0,1,2,3,rid] mem=rest)
  (hc0:(kW (o6 A p s a0 L 4 []) && (lC [(0,0),(1,1),(2,2),(3,3),(rid,4)] && rK 5 [(0,0),(1,1),(2,2),(3,3),(rid,4)]))=true)
  (hc:∀(a:Nat) (L':List Sp),(kW (o6 A p s a L' nx []) && (lC [(0,0),(1,1),(2,2),(3,3),(5,nx)] && (Nat.ble nx (nx+1) && (lQ [0,1,2,3,rid] nx (o6 A p s a L' nx []) && sF [(0,0),(1,1),(2,2),(3,3),(rid,4)] 5 nx (nx+1) [(0,0),(1,1),(2,2),(3,3),(5,nx)]))))=true)
  (hk:(aZ A p f i a0).stop = -1->∀X:List Sp,X.length<=(aZ A p f i a0).spans.length->(s=true->X=(aZ A p f i a0).spans)->K (bK (aZ A p f i a0).val) (o6 A p s (a0+(aZ A p f i a0).used) (L++X) nx []++rest) (nx+1))
  (hkp:∀x,qR (aZ A p f i a0) x->∀(a:Nat) (L':List Sp),Kp x (o6 A p s a L' nx []++rest) (nx+1)) :
  bI prog [] 126 [.int .i64 i,.ip (.agg [.il 12 (aW A)]),.ip (wk A),.ip (.bool s),.ip (.il 1 (kB (cN A))),.ptr 2 0 0,.ptr 3 0 0,.ptr 0 0 0,.ptr 1 0 0] mem nx K Kp:=by
 refine bI.useN bG [(0,0),(1,1),(2,2),(3,3),(rid,4)] (ih i a0 L h1 h2 h3 h4) hp (.s (.cons (.same _ (oY A)) (.cons (.same _ (yD A)) (.s (.cons (.same _ (Cq A)) (.cons (.ptr 2 2 0 0 rfl) (.cons (.ptr 3 3 0 0 rfl) (.cons (.ptr 0 0 0 0 rfl) (.cons (.ptr 1 1 0 0 rfl) .nil)))))))))
  hM hc0 ?_ ?_
 ·rintro r m k ⟨e1,rfl,X,hX,hXs,rfl,rfl⟩;refine⟨[(0,0),(1,1),(2,2),(3,3),(5,nx)],_,o6 A p s (a0+(aZ A p f i a0).used) (L++X) nx [],nx+1,.same _ (bM _),cZ (rid:=5) rfl rfl rfl rfl rfl rfl rfl rfl rfl rfl rfl rfl rfl trivial,hc _ _, ?_⟩;rw[show fF [(0,0),(1,1),(2,2),(3,3),(rid,4)]=[0,1,2,3,rid] from rfl,hd];exact hk e1 X hX hXs
 ·rintro x m k ⟨e1,a,L',rfl,rfl⟩;refine⟨[(0,0),(1,1),(2,2),(3,3),(5,nx)],o6 A p s a L' nx [],nx+1,cZ (rid:=5) rfl rfl rfl rfl rfl rfl rfl rfl rfl rfl rfl rfl rfl trivial,hc _ _, ?_⟩;rw[show fF [(0,0),(1,1),(2,2),(3,3),(rid,4)]=[0,1,2,3,rid] from rfl,hd];exact hkp x e1 a L'
set_option maxHeartbeats 16000000
theorem GG{A:List Nd}(hv:cC A=0){i:Nat}{x:Nd}(hx:A[i]? = some x)(h:x.kind=0∨x.kind=1):x.kids=[]:=by
 refine List.eq_nil_of_length_eq_zero ?_;have hv0:bT [] A=0:=by
  unfold cC at hv;split at hv
  ·omega
  ·exact hv
 have hf:=iD (qD A hv0 i x hx);unfold cX iE at hf;simp only[Bool.and_eq_true,Bool.or_eq_true,decide_eq_true_eq] at hf;have:=hf.1.1.1.1.1.1.2;omega
theorem Ek{mem:aN}{id i sz sz':Nat}{t:TypeId}{xs:List AV}{x:AV}(h:lk mem id=some (.row t sz' xs))(hx:xs[i]? = some x)(hc:Nat.beq x.cells.length sz=false):rL mem id i 0 sz=false:=by
 unfold rL;simp only[h,hx,hc]
theorem iN{A:List Nd}{p:List Int}{s:Bool}{r0:wR}{x:Value}{mem:aN}{n:Nat}{a:Nat}{av:Int}{L:List Sp}{len rid:Nat}{xs:List AV}(hw:qR r0 x)
  (m0:lk mem 0=some (.row 3 1 [.int .i64 av])) (ha:av=(a:Int)) (m1:lk mem 1=some (.row 104 7 [Ok rid len])) (hl:len=L.length) (m2:lk mem 2=some (.row 184 1 [N4 A p])) (m3:lk mem 3=some (.row 92 1 [DU A s]))
  (mr:lk mem rid=some (.row 186 3 xs)) (hx:xs=c7 L) (l:(lC [(0,0),(1,1),(2,2),(3,3),(rid,5)] && (kW (o6 A p s a L 5 []) && (xG 5 6 [(0,0),(1,1),(2,2),(3,3),(rid,5)] && Nat.ble 5 6)))=true) (l0:lk [(0,0),(1,1),(2,2),(3,3),(rid,5)] rid=some 5) :
  kQ 5 (fun _ m n=>RJ A p s r0 x m n) .junk mem n:=
 bN (r':=.junk) (n':=6) (m':=o6 A p s a L 5 []) [(0,0),(1,1),(2,2),(3,3),(rid,5)] l (cZ (rid:=rid) rfl rfl rfl rfl l0 m0 ha m1 hl m2 m3 mr hx trivial) (.junk _) ⟨hw,a,L,rfl,rfl⟩
theorem MA{A:List Nd}(h:VT A){p:List Int}(hp:p.length<=1000000000)(s:Bool)(f:Nat)(ih:PP A p s f):PP A p s (f+1):=by
 intro i a0 L hif hi ha hC;have hx:=dD hi;have hg:=h.node hx;have hkm:=fun(k:Int) (hk:k∈(aI A i).kids)=>eZ h hx hk
 have hkI:=fun(c:Int) (h0:0<=c) (h1:c<(aI A i).kids.length)=>h.kidI hx h0 h1
 have hbi:=fun h4=>h.bind hx h4
 have hf0:=fun h0=>EK h p (f+1) i a0 hif hi h0
 have hCh:=E5 hi;have hFi:=OS hi;have hne:=oL hi;have hch:=fun(mem rest:aN) (nx:Nat) (K:AV->aN->Nat->Prop) (Kp:Value->aN->Nat->Prop)=>OW h hp (s:=s) hi ha (mem:=mem) (rest:=rest) (nx:=nx) (K:=K) (Kp:=Kp)
 have hln:=h.len hx;have hpl:=h.pln hx;have hnn:=a6 (aI A i);have hkl:=h.tin.klen _ (List.mem_of_getElem? hx);have hfv:=fun(v:a7)=>O8 (aI A i) v (by have:=h.tin.vlen _ (List.mem_of_getElem? hx);omega) hg.val hg.srt
 have hmd:=fun(ks:List a7)=>Kr (aI A i) ks
 have hmem:=fun(k a:Nat) (hk:k<i)=>lF h p f k a om om
 have hbd:∀(k q:Nat),q<=p.length->q+(aZ A p f k q).used<=p.length:=fun k q hq=>(v8 (A:=A) p f k q hq).1
 have hkind:=hg.node.kind;have hnum:=fun(e:(aI A i).kind=1)=>cD hg.node.num
 have hsrt:=hg.srt;have hl0:=(h.lens0 (i:Int)).1;have hk0:(aI A i).kind=0->(aI A i).kids=[]:=fun e=>GG h.val hx (.inl e)
 have hon:fY (aI A i)=if (aI A i).kind=1 then(aI A i).hi-(aI A i).lo+1 else(aI A i).kids.length:=rfl
 have hpe:(kB (cN A))[((i:Nat):Int).toNat]? = some (.bool (JH (cN A) i)):=by
  have hl:i<(cN A).length:=by rw[gT];exact hi
  rw[Int.toNat_natCast,tE,List.getElem?_eq_getElem hl];unfold JH;rw[List.getD_eq_getElem?_getD,List.getElem?_eq_getElem hl];rfl
 have hwc:∀x,MK A p i a0 x->((p.length<=a0/\x=uE i 0)∨(a0<p.length/\(p.getD a0 0<0∨fY (aI A i)<=p.getD a0 0)/\x=uE (-1) 11)):=fun x hx=>hx
 obtain⟨F,hF⟩:∃F,F=aZ A p (f+1) i a0:=⟨_,rfl⟩
 rw[←hF] at hC hf0 ⊢;simp only[aZ] at hF;have hp0:JH (cN A) i=w7 (aY A) (cN A) (aI A i):=hpl;have hpN:w7 (aY A) (cN A) (aI A i)=(decide (eC (aY A) (aI A i)<=0) && (decide ((aI A i).kind≠3) || decide ((aI A i).kids.length=0)) && (aI A i).kids.all fun k=>(cN A).getD k.toNat false):=rfl;rw[hpN,←hln] at hp0;have hlk0:(aI A i).kind=0->dK (aY A) i=0:=fun e=>by rw[hln];unfold eC;rw[if_pos e]
 generalize JH (cN A) i=pb at *;generalize dK (aY A) i=ln at *;generalize fY (aI A i)=o at *;clear hln hpl hpN hg hx;generalize aI A i=x at *;obtain⟨kind,name,lo,hi',ws,lbs,vals,kids,⟨vk,vn,vs,vks⟩⟩:=x;simp only at hkm hkI hbi hkl hF hfv hmd hkind hnum hsrt hk0 hon hp0 hlk0;refine Ab bG func126 rfl ?_;refine Rq ?_;repeat((first|refine aC hne ?_|refine bL.2 ?_|refine aX ?_);refine Rq ?_)
 refine hCh.goP ?_ (.cons (jQ A) (.cons nn .nil)) nn;refine Rq ?_;by_cases hl:ln=0
 ·subst hl;have hf0:=hf0 rfl;refine Rq ?_;cases s with
  | false=>
   generalize FA (cO A) i=v at *;have hvn:=bM v;obtain⟨v1,v2,v3,v4⟩:=v;obtain⟨e1,e2,e3,e4⟩:=hf0;refine Rq ?_;refine hFi.goP ?_ (.cons (jQ A) (.cons nn .nil)) hvn;refine Rq ?_;exact bN (n':=6) (m':=o6 A p false (a0+F.used) (L++[]) 5 []) [(0,0),(1,1),(2,2),(3,3),(4,5)] rfl (cZ (rid:=4) rfl rfl rfl rfl rfl rfl (by rw[e2];rfl) rfl (by simp) rfl rfl rfl (by simp) trivial) (.same _ hvn) ⟨e3,by rw[e1];rfl,[],Nat.zero_le _,(fun e=>by cases e),rfl,rfl⟩
  | true=>
   have hpe2:=hpe;cases pb with
   | true=>
    generalize FA (cO A) i=v at *;have hvn:=bM v;obtain⟨v1,v2,v3,v4⟩:=v;obtain⟨e1,e2,e3,e4⟩:=hf0;refine Rq ?_;repeat((first|refine aC hpe ?_|refine bL.2 ?_|refine aX ?_);refine Rq ?_)
    refine hFi.goP ?_ (.cons (jQ A) (.cons nn .nil)) hvn;refine Rq ?_;exact bN (n':=6) (m':=o6 A p true (a0+F.used) (L++[]) 5 []) [(0,0),(1,1),(2,2),(3,3),(4,5)] rfl (cZ (rid:=4) rfl rfl rfl rfl rfl rfl (by rw[e2];rfl) rfl (by simp) rfl rfl rfl (by simp) trivial) (.same _ hvn) ⟨e3,by rw[e1];rfl,[],Nat.zero_le _,(fun _=>(e4 rfl).symm),rfl,rfl⟩
   | false=>
    have k0:kind≠0:=fun e=>by
     rw[hk0 e,e] at hp0;simp at hp0
    refine Rq ?_;repeat((first|refine aC hpe ?_|refine bL.2 ?_|refine aX ?_);refine Rq ?_)
    by_cases k1:kind=1
    ·subst k1;rw[if_neg k0,if_neg om,if_neg om] at hF;rw[if_pos rfl] at hon;have hn:=hnum rfl;refine Rq ?_;repeat((first|refine bL.2 ?_|refine aX ?_);refine Rq ?_)
     refine hch _ _ _ _ _ rfl rfl (fun c1 c2 c3=>?_) (fun x hx=>?_) rfl
     ·have hw:IntKind.i64.wrap (lo+p.getD a0 0)=lo+p.getD a0 0:=cK ⟨by have:=hn.1;omega,om⟩;rw[if_neg om,if_neg om,if_pos rfl] at hF;generalize p.getD a0 0=c at *;refine Rq ?_;repeat((first|refine bL.2 ?_|refine aX ?_);refine Rq ?_)
      rw[hw];have hus:F.used=1:=by rw[hF]
      exact bN (n':=6) (m':=o6 A p true (a0+F.used) (L++[]) 5 []) [(0,0),(1,1),(2,2),(3,3),(4,5)] rfl (cZ (rid:=4) rfl rfl rfl rfl rfl rfl (by rw[hus]) rfl (by simp) rfl rfl rfl (by simp) trivial) (.agg' (.s (.s (.s (.cons (.nil 4) .nil))))) ⟨by rw[hF],by rw[hF];rfl,[],Nat.zero_le _,fun _=>by rw[hF],rfl,rfl⟩
     ·have hws:qR F x:=by
       rcases hwc x hx with⟨q1,q2⟩|⟨q1,q2,q3⟩
       ·rw[if_pos q1] at hF;exact .inl ⟨i,by rw[hF],q2⟩
       ·rw[if_neg om,if_pos q2] at hF;exact .inr ⟨by rw[hF],q3⟩
      refine Rq ?_;exact iN (rid:=4) hws rfl rfl rfl rfl rfl rfl rfl rfl rfl rfl
    ·rw[if_neg k1] at hon;rw[show (kind == 1)=false by simpa using k1];refine Rq ?_;by_cases k2:kind=2
     ·subst k2;rw[if_neg k0,if_neg om,if_neg om] at hF;refine Rq ?_;repeat((first|refine bL.2 ?_|refine aX ?_);refine Rq ?_)
      refine hch _ _ _ _ _ rfl rfl (fun c1 c2 c3=>?_) (fun x hx=>?_) rfl
      ·rw[if_neg om,if_neg om,if_neg k1] at hF;obtain⟨d1,d2,d3⟩:=hkI (p.getD a0 0) c2 om;generalize p.getD a0 0=c at *;generalize bB ⟨2,name,lo,hi',ws,lbs,vals,kids,.mk vk vn vs vks⟩ c=q1 at *;have e1:(aT kids)[c.toNat]? = some (.int .i64 (q1:Int)):=by rw[bF,d3];rfl
       have hC1:L.length+(aZ A p f q1 (a0+1)).spans.length<=4294967296:=by rw[hF] at hC;exact hC
       refine Rq ?_;repeat((first|refine aC e1 ?_|refine bL.2 ?_|refine aX ?_);refine Rq ?_)
       rw[decide_eq_true (show 0<=c by omega)];refine Rq ?_;repeat((first|refine aC e1 ?_|refine bL.2 ?_|refine aX ?_);refine Rq ?_)
       refine yB ih (L:=L) om om om hC1 4 rfl rfl rfl rfl rfl (fun _ _=>rfl) (fun f1 X hX hXs=>?_) (fun x hx a L'=>?_)
       ·generalize aZ A p f q1 (a0+1)=R1 at *;obtain⟨⟨u1,u2,u3,u4⟩,ru,rst,rsp⟩:=R1;simp only at hF f1 hX hXs ⊢;refine Rq ?_;repeat((first|refine aC e1 ?_|refine bL.2 ?_|refine aX ?_);refine Rq ?_)
        have hus:F.used=ru+1:=by rw[hF]
        have hss:F.spans=rsp:=by rw[hF]
        exact bN (n':=6) (m':=o6 A p true (a0+F.used) (L++X) 5 []) [(0,0),(1,1),(2,2),(3,3),(18,5)] rfl (cZ (rid:=18) rfl rfl rfl rfl rfl rfl (by rw[hus];omega) rfl rfl rfl rfl rfl rfl trivial) (.same _ (.agg' (.cons nn (.cons nn (.cons nn (.cons (.il' (aS _)) .nil)))))) ⟨by rw[hF];exact f1,by rw[hF];rfl,X,by rw[hss];exact hX,fun e=>by rw[hss];first|exact hXs e|exact hXs trivial,rfl,rfl⟩
       ·have hws:qR F x:=by rw[hF];exact hx
        refine Rq ?_;exact iN (rid:=18) hws rfl rfl rfl rfl rfl rfl rfl rfl rfl rfl
      ·have hws:qR F x:=by
        rcases hwc x hx with⟨q1,q2⟩|⟨q1,q2,q3⟩
        ·rw[if_pos q1] at hF;exact .inl ⟨i,by rw[hF],q2⟩
        ·rw[if_neg om,if_pos q2] at hF;exact .inr ⟨by rw[hF],q3⟩
       refine Rq ?_;exact iN (rid:=4) hws rfl rfl rfl rfl rfl rfl rfl rfl rfl rfl
     ·rw[show (kind == 2)=false by simpa using k2];refine Rq ?_;by_cases k4:kind=4
      ·subst k4;rw[if_neg k0,if_neg om,if_pos rfl] at hF;have hb4:=(hbi rfl).1;have hb5:=(hbi rfl).2.1;obtain⟨c1,c2,c3⟩:=hkI 0 om om;generalize hq0:bB ⟨4,name,lo,hi',ws,lbs,vals,kids,.mk vk vn vs vks⟩ 0=q0 at *;have e0:(aT kids)[(0:Int).toNat]? = some (.int .i64 (q0:Int)):=by rw[bF,c3];rfl
       have hme:=fun hs=>(hmem q0 a0 c1 hs).2 (hbi rfl).2.2.1
       rw[(hbi rfl).2.2.2] at hme;have hbd0:=hbd q0 a0 ha;have hC0:L.length+(aZ A p f q0 a0).spans.length<=4294967296:=by
        rw[hF] at hC;split at hC
        ·simp only[List.length_append] at hC;omega
        ·exact hC
       refine Rq ?_;repeat((first|refine aC e0 ?_|refine bL.2 ?_|refine aX ?_);refine Rq ?_)
       refine yB ih (L:=L) om om ha hC0 4 rfl rfl rfl rfl rfl (fun _ _=>rfl) (fun f1 X hX hXs=>?_) (fun x hx a L'=>?_)
       ·have hme:=hme f1;rw[if_pos f1] at hF;generalize aZ A p f q0 a0=R0 at *;obtain⟨v,u,st,sp⟩:=R0;simp only at hF f1 hX hXs hme hbd0 ⊢;obtain⟨w,fq,w1,w2⟩:=jC hsrt hme;have hfv1:=hfv v;have hvn:=bM v;rw[fq] at hF hfv1;simp only at hF hfv1;obtain⟨d1,d2,d3⟩:=hkI ((w+1:Nat):Int) om om;generalize bB ⟨4,name,lo,hi',ws,lbs,vals,kids,.mk vk vn vs vks⟩ ((w+1:Nat):Int)=q1 at *;have e1:(aT kids)[((w+1:Nat):Int).toNat]? = some (.int .i64 (q1:Int)):=by rw[bF,d3];rfl
        have hC1:(L++X).length+(aZ A p f q1 (a0+u)).spans.length<=4294967296:=by
         rw[hF] at hC;simp only[List.length_append] at hC ⊢;omega
        obtain⟨v1,v2,v3,v4⟩:=v;refine Rq ?_;repeat((first|refine aC e0 ?_|refine bL.2 ?_|refine aX ?_);refine Rq ?_)
        refine hfv1.goP ?_ (.cons (.ip' hnn) (.cons hvn .nil)) nn;refine Rq ?_;repeat((first|refine aC e0 ?_|refine aC e1 ?_|refine bL.2 ?_|refine aX ?_);refine Rq ?_)
        refine yB ih (L:=L++X) om om hbd0 hC1 25 rfl rfl rfl rfl rfl (fun _ _=>rfl) (fun f2 Y hY hYs=>?_) (fun x hx a L'=>?_)
        ·have hwu:(u:Int)+0=u:=om;generalize aZ A p f q1 (a0+u)=R1 at *;obtain⟨⟨u1,u2,u3,u4⟩,ru,rst,rsp⟩:=R1;simp only at hF f2 hY hYs ⊢;refine Rq ?_;repeat((first|refine aC e0 ?_|refine aC e1 ?_|refine bL.2 ?_|refine aX ?_);refine Rq ?_)
         have hus:F.used=u+ru:=by rw[hF]
         have hss:F.spans=sp++rsp:=by rw[hF]
         exact bN (n':=6) (m':=o6 A p true (a0+F.used) (L++(X++Y)) 5 []) [(0,0),(1,1),(2,2),(3,3),(26,5)] rfl (cZ (rid:=26) rfl rfl rfl rfl rfl rfl (by rw[hus];omega) rfl (by simp) rfl rfl rfl (by simp) trivial) (.same _ (.agg' (.cons nn (.cons nn (.cons nn (.cons (.il' (aS _)) .nil)))))) ⟨by rw[hF];exact f2,by rw[hF];rfl,X++Y,by rw[hss,List.length_append,List.length_append];omega,fun e=>by rw[hss];first|rw[hXs e,hYs e]|rw[hXs trivial,hYs trivial],rfl,rfl⟩
        ·have hws:qR F x:=by rw[hF];exact hx
         refine Rq ?_;exact iN (rid:=26) hws rfl rfl rfl rfl rfl rfl rfl rfl rfl rfl
       ·have hws:qR F x:=by
         rw[if_neg (show ¬(aZ A p f q0 a0).stop = -1 from fun e=>by
          rcases hx with⟨n,h1,-⟩|⟨h1,-⟩<;>omega)] at hF
         rw[hF];exact hx
        refine Rq ?_;exact iN (rid:=25) hws rfl rfl rfl rfl rfl rfl rfl rfl rfl rfl
      ·have k3:kind=3:=om;subst k3;rw[if_neg k0,if_pos rfl] at hF;rw[show ((3:Int) == 4)=false by decide];have lkk:=aD kids;obtain⟨P,hP⟩:∃P:Nat->Pt,P=fun j=>bH (fun k q=>aZ A p f k q) a0 (kids.take j) ⟨0,[],[],-1⟩:=⟨_,rfl⟩
       have hP0:P 0=⟨0,[],[],-1⟩:=by rw[hP];rfl
       have hPe:bH (fun k q=>aZ A p f k q) a0 kids ⟨0,[],[],-1⟩=P kids.length:=by rw[hP];simp
       have hPn:∀j (hj:j<kids.length),(P j).stop = -1->P (j+1)=Ih (fun k q=>aZ A p f k q) a0 kids[j] (P j):=fun j hj hs=>by
        rw[hP] at hs ⊢;exact lD hj rfl hs
       have hPs:∀j (hj:j<kids.length),(P j).stop = -1->(P (j+1)).stop≠-1->P kids.length=P (j+1):=fun j hj hs hs2=>by
        rw[←hPe];rw[hP] at hs hs2 ⊢;exact p5 hj rfl hs hs2
       have hPl:∀j (hj:j<kids.length),(P j).stop = -1->(P j).spans.length+1+(aZ A p f kids[j].toNat (a0+(P j).used)).spans.length<=F.spans.length:=fun j hj hs=>by
        rw[hF];simp only[Bo];rw[hP] at hs ⊢;exact vI (rd:=fun k q=>aZ A p f k q) hj rfl hs
       rw[hPe] at hF;have hFst:F.stop=(P kids.length).stop:=by rw[hF];rfl
       have hFus:F.used=(P kids.length).used:=by rw[hF];rfl
       have hFss:F.spans=(P kids.length).spans:=by rw[hF];rfl
       have hFv:(P kids.length).stop = -1->F.val=c9 name (P kids.length).vals:=fun e=>by rw[hF];simp only[Bo];rw[if_pos e]
       clear hPe hP hF hbi hfv hmem hnum;refine Rq ?_;refine a9.ph 57 4 ?_;refine a9.at bG (fun z:Nat × List Sp=>z.1<=kids.length/\(P z.1).stop = -1/\a0+(P z.1).used<=p.length/\(P z.1).vals.length=z.1/\z.2.length<=(P z.1).spans.length/\(true=true->z.2=(P z.1).spans))
        (fun z=>⟨[(6,.ptr 3 0 0),(7,.ptr 0 0 0),(8,.ptr 1 0 0),(10,.ptr 6 0 0),(11,.ip (cH ⟨3,name,lo,hi',ws,lbs,vals,kids,.mk vk vn vs vks⟩)),(12,.int .i64 a0),(13,.sl 7 0 (P z.1).vals.length),(90,.il 1 (aT kids)),(91,.int .i64 kids.length),(92,.int .i64 z.1)],
         o6 A p true (a0+(P z.1).used) (L++z.2) 5 [(6,.row 57 4 [bK vZ]),(7,.row 57 4 (aO (P z.1).vals))],8,124⟩)
        (fun z=>kids.length-z.1) (0,[]) [(0,0),(1,1),(2,2),(3,3),(4,5),(5,6),(6,7)] ⟨by simp only;omega,by rw[hP0],by rw[hP0];simp only;omega,by rw[hP0];rfl,by simp,by rw[hP0];intro _;rfl⟩
        (aE _ rfl (cZ (rid:=4) rfl rfl rfl rfl rfl rfl (by rw[hP0];simp) rfl (by simp) rfl rfl rfl (by simp) ⟨⟨5,_,rfl,rfl,.cons (v5 0 0 []) .nil⟩,⟨6,_,rfl,rfl,by rw[hP0];exact .nil⟩,trivial⟩)
         ⟨aK,aK,aK,aK,aR (.ip' hnn),aF,⟨_,rfl,by rw[hP0];exact .nslk 6 7 _ rfl rfl⟩,aR (.il' (aQ _)),⟨_,rfl,.int (by rw[lkk])⟩,aF,trivial⟩) ?_
       rintro⟨j,Y⟩ ⟨hj,hst,hus,hvl,hYl,hYs⟩;simp only at hj hst hus hvl hYl hYs ⊢;have dj:decide ((j:Int)<(kids.length:Int))=decide (j<kids.length):=decide_eq_decide.2 om;have ls:=eQ (L++Y);have lv:=aA (P j).vals;by_cases hjl:j<kids.length
       ·have hnx:=hPn j hjl hst;have hend:=hPs j hjl hst;have hln:=hPl j hjl hst;have ek:=l6 hjl;obtain⟨m0,m1⟩:=hkm kids[j] (List.getElem_mem hjl);generalize kids[j]=kz at *;obtain⟨k,rfl⟩:=Int.eq_ofNat_of_zero_le m0;simp only[Int.toNat_natCast] at m1 hnx hln;unfold Ih at hnx;simp only[Int.toNat_natCast] at hnx;have hb:=hbd k (a0+(P j).used) hus;generalize hpj:P j=pj at *;obtain⟨us,vls,sps,st⟩:=pj;simp only at hst hus hvl hnx hln hb ls lv hYl hYs ⊢;subst hst;have hC1:(L++Y++[(a0,a0+us,a0+us)]).length+(aZ A p f k (a0+us)).spans.length<=4294967296:=by
         simp only[List.length_append,List.length_singleton];omega
        refine Rq ?_;rw[dj,decide_eq_true hjl];refine Rq ?_;repeat((first|refine aC ek ?_|refine bL.2 ?_|refine aX ?_);refine Rq ?_)
        refine aP (bV rfl rfl (by rw[ls]) (by simp;omega)) ?_;refine Rq ?_;have hse:c7 (L++Y)++List.take 1 (List.drop 0 [AV.agg [.int .i64 (a0:Int),.int .i64 ((a0+us:Nat):Int),.int .i64 ((a0+us:Nat):Int)]])=c7 (L++Y++[(a0,a0+us,a0+us)]):=by rw[fX (L++Y)];rfl
        refine G8 ih (L:=L++Y++[(a0,a0+us,a0+us)]) om om hus hC1 9 rfl (cZ (rid:=9) rfl rfl rfl rfl rfl rfl rfl rfl (by simp;omega) rfl rfl rfl hse trivial) rfl rfl (fun _ _=>rfl) (fun f1 X hX hXs=>?_) (fun x hx a L'=>?_)
        ·generalize aZ A p f k (a0+us)=R1 at *;obtain⟨⟨v1,v2,v3,v4⟩,ru,rst,rsp⟩:=R1;simp only at hnx f1 hX hXs hln hb ⊢;subst f1;refine Rq ?_;refine aP (bV rfl rfl (by rw[lv]) (by simp;omega)) ?_;refine Rq ?_;have gpl:Nat.blt (((L++Y).length:Nat):Int).toNat (L++Y++[(a0,a0+us,a0+us)]++X).length=true:=Nat.ble_eq_true_of_le (by simp only[List.length_append,List.length_singleton,Int.toNat_natCast];omega);have epl:(c7 (L++Y++[(a0,a0+us,a0+us)]++X))[0+(((L++Y).length:Nat):Int).toNat]? = some (.agg [.int .i64 (a0:Int),.int .i64 ((a0+us:Nat):Int),.int .i64 ((a0+us:Nat):Int)]):=by
          rw[Nat.zero_add,Int.toNat_natCast,B7,List.getElem?_append_left (by simp),List.getElem?_append_right (Nat.le_refl _),Nat.sub_self];rfl
         have hset:(c7 (L++Y++[(a0,a0+us,a0+us)]++X)).set (0+(((L++Y).length:Nat):Int).toNat) (.agg [.int .i64 (a0:Int),.int .i64 ((a0+us:Nat):Int),.int .i64 ((a0+us+ru:Nat):Int)])=c7 (L++(Y++(a0,a0+us,a0+us+ru)::X)):=by
          rw[Nat.zero_add,Int.toNat_natCast,fX,fX (L++Y),List.append_assoc,List.set_append_right _ _ (by rw[ls];exact Nat.le_refl _),ls,Nat.sub_self,←List.append_assoc L,fX (L++Y)];rfl
         repeat((first|refine aP gpl ?_|refine aC epl ?_|refine bL.2 ?_|refine aX ?_);refine Rq ?_)
         generalize hae:rL _ _ _ _ _=b;have hbf:b=false:=by rw[←hae];exact Ek rfl epl rfl
         subst hbf;clear hae;refine Rq ?_;repeat((first|refine aP gpl ?_|refine aC epl ?_|refine bL.2 ?_|refine aX ?_);refine Rq ?_)
         have q1:(P (j+1)).used=us+ru:=by rw[hnx]
         have q2:(P (j+1)).spans=sps++(a0,a0+us,a0+us+ru)::rsp:=by rw[hnx]
         have q3:(P (j+1)).vals=vls++[.mk v1 v2 v3 v4]:=by rw[hnx]
         have q4:(P (j+1)).stop = -1:=by rw[hnx]
         exact .mk (j+1,Y++(a0,a0+us,a0+us+ru)::X) [(0,0),(1,1),(2,2),(3,3),(10,5),(6,6),(12,7)] ⟨by simp only;omega,q4,by simp only;rw[q1];omega,by simp only;rw[q3,List.length_append,List.length_singleton];omega,by simp only;rw[q2];simp only[List.length_append,List.length_cons];omega,fun e=>by simp only;rw[q2];first|rw[hYs e,hXs e]|rw[hYs trivial,hXs trivial]⟩
          (aE _ rfl (cZ (rid:=10) rfl rfl rfl rfl rfl rfl (by simp only;rw[q1];omega) rfl (by simp) rfl rfl rfl hset ⟨aJ 6 (.cons (bM _) .nil),⟨12,_,rfl,rfl,.eq (aS _) (by simp only;rw[q3,e7];rfl)⟩,trivial⟩)
           ⟨aK,aK,aK,aK,aR (.ip' hnn),aF,⟨_,rfl,.slE rfl (by simp only;rw[q3];simp)⟩,aR (.il' (aQ _)),aF,⟨_,rfl,.wp⟩,trivial⟩) (by simp only;omega)
        ·have hws:qR F x:=by
          have e:(P (j+1)).stop=(aZ A p f k (a0+us)).stop:=by rw[hnx]
          have hne:(P (j+1)).stop≠-1:=by
           rw[e];rcases hx with⟨n,h1,-⟩|⟨h1,-⟩<;>omega
          unfold qR;rw[hFst,hend hne,e];exact hx
         refine Rq ?_;exact iN (rid:=10) hws rfl rfl rfl rfl rfl rfl rfl rfl rfl rfl
       ·have hje:j=kids.length:=om;subst hje;have hFv:=hFv hst;have hm0:=hmd (P kids.length).vals;rw[←hFv] at hm0;have hvn:=bM F.val;have hFe:Pv A p true F a0 L=fun r m k=>r=bK F.val/\∃X:List Sp,X.length<=(P kids.length).spans.length/\(true=true->X=(P kids.length).spans)/\m=o6 A p true (a0+(P kids.length).used) (L++X) 5 []/\k=6:=by
         unfold Pv;rw[hFst,hFus,hFss,hst]
         funext r m k
         simp
        rw[hFe];clear hFe hFv;generalize F.val=v at *;generalize P kids.length=pj at *;obtain⟨us,vls,sps,st⟩:=pj;simp only at hst hus hvl hYl hYs lv hm0 ⊢;obtain⟨v1,v2,v3,v4⟩:=v;refine Rq ?_;rw[dj,decide_eq_false hjl];refine Rq ?_;refine aG.toP ?_;refine aG.pre bG [(0,0),(1,1),(2,2),(3,3),(5,5),(6,6)] (mem':=o6 A p true (a0+us) (L++Y) 5 [(6,.row 57 4 [bK vZ])]) rfl (cZ (rid:=5) rfl rfl rfl rfl rfl rfl rfl rfl rfl rfl rfl rfl rfl ⟨aJ 6 (.cons (bM _) .nil),trivial⟩)
         (.cons (.same _ (.ip' hnn)) (.cons (.fz' (id:=7) (off:=0) (len:=vls.length) (xs:=aO vls) (ys:=aO vls) rfl rfl om (by rw[List.drop_zero,List.take_of_length_le om]) (aS _)) .nil)) ?_
        refine hm0.go ?_ (.cons (.ip' hnn) (.cons (.il' (aS _)) .nil)) hvn;refine Rq ?_;exact bN (n':=6) (m':=o6 A p true (a0+us) (L++Y) 5 []) [(0,0),(1,1),(2,2),(3,3),(5,5)] rfl (cZ (rid:=5) rfl rfl rfl rfl rfl rfl rfl rfl rfl rfl rfl rfl rfl trivial) (.same _ hvn) ⟨rfl,Y,hYl,hYs,rfl,rfl⟩
 ·rw[show (ln == 0)=false by simpa using hl];refine Rq ?_;have k0:kind≠0:=fun e=>hl (hlk0 e)
  by_cases k1:kind=1
  ·subst k1;rw[if_neg k0,if_neg om,if_neg om] at hF;rw[if_pos rfl] at hon;have hn:=hnum rfl;refine Rq ?_;repeat((first|refine bL.2 ?_|refine aX ?_);refine Rq ?_)
   refine hch _ _ _ _ _ rfl rfl (fun c1 c2 c3=>?_) (fun x hx=>?_) rfl
   ·have hw:IntKind.i64.wrap (lo+p.getD a0 0)=lo+p.getD a0 0:=cK ⟨by have:=hn.1;omega,om⟩;rw[if_neg om,if_neg om,if_pos rfl] at hF;generalize p.getD a0 0=c at *;refine Rq ?_;repeat((first|refine bL.2 ?_|refine aX ?_);refine Rq ?_)
    rw[hw];have hus:F.used=1:=by rw[hF]
    exact bN (n':=6) (m':=o6 A p s (a0+F.used) (L++[]) 5 []) [(0,0),(1,1),(2,2),(3,3),(4,5)] rfl (cZ (rid:=4) rfl rfl rfl rfl rfl rfl (by rw[hus]) rfl (by simp) rfl rfl rfl (by simp) trivial) (.agg' (.s (.s (.s (.cons (.nil 4) .nil))))) ⟨by rw[hF],by rw[hF];rfl,[],Nat.zero_le _,fun _=>by rw[hF],rfl,rfl⟩
   ·have hws:qR F x:=by
     rcases hwc x hx with⟨q1,q2⟩|⟨q1,q2,q3⟩
     ·rw[if_pos q1] at hF;exact .inl ⟨i,by rw[hF],q2⟩
     ·rw[if_neg om,if_pos q2] at hF;exact .inr ⟨by rw[hF],q3⟩
    refine Rq ?_;exact iN (rid:=4) hws rfl rfl rfl rfl rfl rfl rfl rfl rfl rfl
  ·rw[if_neg k1] at hon;rw[show (kind == 1)=false by simpa using k1];refine Rq ?_;by_cases k2:kind=2
   ·subst k2;rw[if_neg k0,if_neg om,if_neg om] at hF;refine Rq ?_;repeat((first|refine bL.2 ?_|refine aX ?_);refine Rq ?_)
    refine hch _ _ _ _ _ rfl rfl (fun c1 c2 c3=>?_) (fun x hx=>?_) rfl
    ·rw[if_neg om,if_neg om,if_neg k1] at hF;obtain⟨d1,d2,d3⟩:=hkI (p.getD a0 0) c2 om;generalize p.getD a0 0=c at *;generalize bB ⟨2,name,lo,hi',ws,lbs,vals,kids,.mk vk vn vs vks⟩ c=q1 at *;have e1:(aT kids)[c.toNat]? = some (.int .i64 (q1:Int)):=by rw[bF,d3];rfl
     have hC1:L.length+(aZ A p f q1 (a0+1)).spans.length<=4294967296:=by rw[hF] at hC;exact hC
     refine Rq ?_;repeat((first|refine aC e1 ?_|refine bL.2 ?_|refine aX ?_);refine Rq ?_)
     rw[decide_eq_true (show 0<=c by omega)];refine Rq ?_;repeat((first|refine aC e1 ?_|refine bL.2 ?_|refine aX ?_);refine Rq ?_)
     refine yB ih (L:=L) om om om hC1 4 rfl rfl rfl rfl rfl (fun _ _=>rfl) (fun f1 X hX hXs=>?_) (fun x hx a L'=>?_)
     ·generalize aZ A p f q1 (a0+1)=R1 at *;obtain⟨⟨u1,u2,u3,u4⟩,ru,rst,rsp⟩:=R1;simp only at hF f1 hX hXs ⊢;refine Rq ?_;repeat((first|refine aC e1 ?_|refine bL.2 ?_|refine aX ?_);refine Rq ?_)
      have hus:F.used=ru+1:=by rw[hF]
      have hss:F.spans=rsp:=by rw[hF]
      exact bN (n':=6) (m':=o6 A p s (a0+F.used) (L++X) 5 []) [(0,0),(1,1),(2,2),(3,3),(18,5)] rfl (cZ (rid:=18) rfl rfl rfl rfl rfl rfl (by rw[hus];omega) rfl rfl rfl rfl rfl rfl trivial) (.same _ (.agg' (.cons nn (.cons nn (.cons nn (.cons (.il' (aS _)) .nil)))))) ⟨by rw[hF];exact f1,by rw[hF];rfl,X,by rw[hss];exact hX,fun e=>by rw[hss];first|exact hXs e|exact hXs trivial,rfl,rfl⟩
     ·have hws:qR F x:=by rw[hF];exact hx
      refine Rq ?_;exact iN (rid:=18) hws rfl rfl rfl rfl rfl rfl rfl rfl rfl rfl
    ·have hws:qR F x:=by
      rcases hwc x hx with⟨q1,q2⟩|⟨q1,q2,q3⟩
      ·rw[if_pos q1] at hF;exact .inl ⟨i,by rw[hF],q2⟩
      ·rw[if_neg om,if_pos q2] at hF;exact .inr ⟨by rw[hF],q3⟩
     refine Rq ?_;exact iN (rid:=4) hws rfl rfl rfl rfl rfl rfl rfl rfl rfl rfl
   ·rw[show (kind == 2)=false by simpa using k2];refine Rq ?_;by_cases k4:kind=4
    ·subst k4;rw[if_neg k0,if_neg om,if_pos rfl] at hF;have hb4:=(hbi rfl).1;have hb5:=(hbi rfl).2.1;obtain⟨c1,c2,c3⟩:=hkI 0 om om;generalize hq0:bB ⟨4,name,lo,hi',ws,lbs,vals,kids,.mk vk vn vs vks⟩ 0=q0 at *;have e0:(aT kids)[(0:Int).toNat]? = some (.int .i64 (q0:Int)):=by rw[bF,c3];rfl
     have hme:=fun hs=>(hmem q0 a0 c1 hs).2 (hbi rfl).2.2.1
     rw[(hbi rfl).2.2.2] at hme;have hbd0:=hbd q0 a0 ha;have hC0:L.length+(aZ A p f q0 a0).spans.length<=4294967296:=by
      rw[hF] at hC;split at hC
      ·simp only[List.length_append] at hC;omega
      ·exact hC
     refine Rq ?_;repeat((first|refine aC e0 ?_|refine bL.2 ?_|refine aX ?_);refine Rq ?_)
     refine yB ih (L:=L) om om ha hC0 4 rfl rfl rfl rfl rfl (fun _ _=>rfl) (fun f1 X hX hXs=>?_) (fun x hx a L'=>?_)
     ·have hme:=hme f1;rw[if_pos f1] at hF;generalize aZ A p f q0 a0=R0 at *;obtain⟨v,u,st,sp⟩:=R0;simp only at hF f1 hX hXs hme hbd0 ⊢;obtain⟨w,fq,w1,w2⟩:=jC hsrt hme;have hfv1:=hfv v;have hvn:=bM v;rw[fq] at hF hfv1;simp only at hF hfv1;obtain⟨d1,d2,d3⟩:=hkI ((w+1:Nat):Int) om om;generalize bB ⟨4,name,lo,hi',ws,lbs,vals,kids,.mk vk vn vs vks⟩ ((w+1:Nat):Int)=q1 at *;have e1:(aT kids)[((w+1:Nat):Int).toNat]? = some (.int .i64 (q1:Int)):=by rw[bF,d3];rfl
      have hC1:(L++X).length+(aZ A p f q1 (a0+u)).spans.length<=4294967296:=by
       rw[hF] at hC;simp only[List.length_append] at hC ⊢;omega
      obtain⟨v1,v2,v3,v4⟩:=v;refine Rq ?_;repeat((first|refine aC e0 ?_|refine bL.2 ?_|refine aX ?_);refine Rq ?_)
      refine hfv1.goP ?_ (.cons (.ip' hnn) (.cons hvn .nil)) nn;refine Rq ?_;repeat((first|refine aC e0 ?_|refine aC e1 ?_|refine bL.2 ?_|refine aX ?_);refine Rq ?_)
      refine yB ih (L:=L++X) om om hbd0 hC1 25 rfl rfl rfl rfl rfl (fun _ _=>rfl) (fun f2 Y hY hYs=>?_) (fun x hx a L'=>?_)
      ·have hwu:(u:Int)+0=u:=om;generalize aZ A p f q1 (a0+u)=R1 at *;obtain⟨⟨u1,u2,u3,u4⟩,ru,rst,rsp⟩:=R1;simp only at hF f2 hY hYs ⊢;refine Rq ?_;repeat((first|refine aC e0 ?_|refine aC e1 ?_|refine bL.2 ?_|refine aX ?_);refine Rq ?_)
       have hus:F.used=u+ru:=by rw[hF]
       have hss:F.spans=sp++rsp:=by rw[hF]
       exact bN (n':=6) (m':=o6 A p s (a0+F.used) (L++(X++Y)) 5 []) [(0,0),(1,1),(2,2),(3,3),(26,5)] rfl (cZ (rid:=26) rfl rfl rfl rfl rfl rfl (by rw[hus];omega) rfl (by simp) rfl rfl rfl (by simp) trivial) (.same _ (.agg' (.cons nn (.cons nn (.cons nn (.cons (.il' (aS _)) .nil)))))) ⟨by rw[hF];exact f2,by rw[hF];rfl,X++Y,by rw[hss,List.length_append,List.length_append];omega,fun e=>by rw[hss];first|rw[hXs e,hYs e]|rw[hXs trivial,hYs trivial],rfl,rfl⟩
      ·have hws:qR F x:=by rw[hF];exact hx
       refine Rq ?_;exact iN (rid:=26) hws rfl rfl rfl rfl rfl rfl rfl rfl rfl rfl
     ·have hws:qR F x:=by
       rw[if_neg (show ¬(aZ A p f q0 a0).stop = -1 from fun e=>by
        rcases hx with⟨n,h1,-⟩|⟨h1,-⟩<;>omega)] at hF
       rw[hF];exact hx
      refine Rq ?_;exact iN (rid:=25) hws rfl rfl rfl rfl rfl rfl rfl rfl rfl rfl
    ·have k3:kind=3:=om;subst k3;rw[if_neg k0,if_pos rfl] at hF;rw[show ((3:Int) == 4)=false by decide];have lkk:=aD kids;obtain⟨P,hP⟩:∃P:Nat->Pt,P=fun j=>bH (fun k q=>aZ A p f k q) a0 (kids.take j) ⟨0,[],[],-1⟩:=⟨_,rfl⟩
     have hP0:P 0=⟨0,[],[],-1⟩:=by rw[hP];rfl
     have hPe:bH (fun k q=>aZ A p f k q) a0 kids ⟨0,[],[],-1⟩=P kids.length:=by rw[hP];simp
     have hPn:∀j (hj:j<kids.length),(P j).stop = -1->P (j+1)=Ih (fun k q=>aZ A p f k q) a0 kids[j] (P j):=fun j hj hs=>by
      rw[hP] at hs ⊢;exact lD hj rfl hs
     have hPs:∀j (hj:j<kids.length),(P j).stop = -1->(P (j+1)).stop≠-1->P kids.length=P (j+1):=fun j hj hs hs2=>by
      rw[←hPe];rw[hP] at hs hs2 ⊢;exact p5 hj rfl hs hs2
     have hPl:∀j (hj:j<kids.length),(P j).stop = -1->(P j).spans.length+1+(aZ A p f kids[j].toNat (a0+(P j).used)).spans.length<=F.spans.length:=fun j hj hs=>by
      rw[hF];simp only[Bo];rw[hP] at hs ⊢;exact vI (rd:=fun k q=>aZ A p f k q) hj rfl hs
     rw[hPe] at hF;have hFst:F.stop=(P kids.length).stop:=by rw[hF];rfl
     have hFus:F.used=(P kids.length).used:=by rw[hF];rfl
     have hFss:F.spans=(P kids.length).spans:=by rw[hF];rfl
     have hFv:(P kids.length).stop = -1->F.val=c9 name (P kids.length).vals:=fun e=>by rw[hF];simp only[Bo];rw[if_pos e]
     clear hPe hP hF hbi hfv hmem hnum;refine Rq ?_;refine a9.ph 57 4 ?_;refine a9.at bG (fun z:Nat × List Sp=>z.1<=kids.length/\(P z.1).stop = -1/\a0+(P z.1).used<=p.length/\(P z.1).vals.length=z.1/\z.2.length<=(P z.1).spans.length/\(s=true->z.2=(P z.1).spans))
      (fun z=>⟨[(6,.ptr 3 0 0),(7,.ptr 0 0 0),(8,.ptr 1 0 0),(10,.ptr 6 0 0),(11,.ip (cH ⟨3,name,lo,hi',ws,lbs,vals,kids,.mk vk vn vs vks⟩)),(12,.int .i64 a0),(13,.sl 7 0 (P z.1).vals.length),(90,.il 1 (aT kids)),(91,.int .i64 kids.length),(92,.int .i64 z.1)],
       o6 A p s (a0+(P z.1).used) (L++z.2) 5 [(6,.row 57 4 [bK vZ]),(7,.row 57 4 (aO (P z.1).vals))],8,124⟩)
      (fun z=>kids.length-z.1) (0,[]) [(0,0),(1,1),(2,2),(3,3),(4,5),(5,6),(6,7)] ⟨by simp only;omega,by rw[hP0],by rw[hP0];simp only;omega,by rw[hP0];rfl,by simp,by rw[hP0];intro _;rfl⟩
      (aE _ rfl (cZ (rid:=4) rfl rfl rfl rfl rfl rfl (by rw[hP0];simp) rfl (by simp) rfl rfl rfl (by simp) ⟨⟨5,_,rfl,rfl,.cons (v5 0 0 []) .nil⟩,⟨6,_,rfl,rfl,by rw[hP0];exact .nil⟩,trivial⟩)
       ⟨aK,aK,aK,aK,aR (.ip' hnn),aF,⟨_,rfl,by rw[hP0];exact .nslk 6 7 _ rfl rfl⟩,aR (.il' (aQ _)),⟨_,rfl,.int (by rw[lkk])⟩,aF,trivial⟩) ?_
     rintro⟨j,Y⟩ ⟨hj,hst,hus,hvl,hYl,hYs⟩;simp only at hj hst hus hvl hYl hYs ⊢;have dj:decide ((j:Int)<(kids.length:Int))=decide (j<kids.length):=decide_eq_decide.2 om;have ls:=eQ (L++Y);have lv:=aA (P j).vals;by_cases hjl:j<kids.length
     ·have hnx:=hPn j hjl hst;have hend:=hPs j hjl hst;have hln:=hPl j hjl hst;have ek:=l6 hjl;obtain⟨m0,m1⟩:=hkm kids[j] (List.getElem_mem hjl);generalize kids[j]=kz at *;obtain⟨k,rfl⟩:=Int.eq_ofNat_of_zero_le m0;simp only[Int.toNat_natCast] at m1 hnx hln;unfold Ih at hnx;simp only[Int.toNat_natCast] at hnx;have hb:=hbd k (a0+(P j).used) hus;generalize hpj:P j=pj at *;obtain⟨us,vls,sps,st⟩:=pj;simp only at hst hus hvl hnx hln hb ls lv hYl hYs ⊢;subst hst;have hC1:(L++Y++[(a0,a0+us,a0+us)]).length+(aZ A p f k (a0+us)).spans.length<=4294967296:=by
       simp only[List.length_append,List.length_singleton];omega
      refine Rq ?_;rw[dj,decide_eq_true hjl];refine Rq ?_;repeat((first|refine aC ek ?_|refine bL.2 ?_|refine aX ?_);refine Rq ?_)
      refine aP (bV rfl rfl (by rw[ls]) (by simp;omega)) ?_;refine Rq ?_;have hse:c7 (L++Y)++List.take 1 (List.drop 0 [AV.agg [.int .i64 (a0:Int),.int .i64 ((a0+us:Nat):Int),.int .i64 ((a0+us:Nat):Int)]])=c7 (L++Y++[(a0,a0+us,a0+us)]):=by rw[fX (L++Y)];rfl
      refine G8 ih (L:=L++Y++[(a0,a0+us,a0+us)]) om om hus hC1 9 rfl (cZ (rid:=9) rfl rfl rfl rfl rfl rfl rfl rfl (by simp;omega) rfl rfl rfl hse trivial) rfl rfl (fun _ _=>rfl) (fun f1 X hX hXs=>?_) (fun x hx a L'=>?_)
      ·generalize aZ A p f k (a0+us)=R1 at *;obtain⟨⟨v1,v2,v3,v4⟩,ru,rst,rsp⟩:=R1;simp only at hnx f1 hX hXs hln hb ⊢;subst f1;refine Rq ?_;refine aP (bV rfl rfl (by rw[lv]) (by simp;omega)) ?_;refine Rq ?_;have gpl:Nat.blt (((L++Y).length:Nat):Int).toNat (L++Y++[(a0,a0+us,a0+us)]++X).length=true:=Nat.ble_eq_true_of_le (by simp only[List.length_append,List.length_singleton,Int.toNat_natCast];omega);have epl:(c7 (L++Y++[(a0,a0+us,a0+us)]++X))[0+(((L++Y).length:Nat):Int).toNat]? = some (.agg [.int .i64 (a0:Int),.int .i64 ((a0+us:Nat):Int),.int .i64 ((a0+us:Nat):Int)]):=by
        rw[Nat.zero_add,Int.toNat_natCast,B7,List.getElem?_append_left (by simp),List.getElem?_append_right (Nat.le_refl _),Nat.sub_self];rfl
       have hset:(c7 (L++Y++[(a0,a0+us,a0+us)]++X)).set (0+(((L++Y).length:Nat):Int).toNat) (.agg [.int .i64 (a0:Int),.int .i64 ((a0+us:Nat):Int),.int .i64 ((a0+us+ru:Nat):Int)])=c7 (L++(Y++(a0,a0+us,a0+us+ru)::X)):=by
        rw[Nat.zero_add,Int.toNat_natCast,fX,fX (L++Y),List.append_assoc,List.set_append_right _ _ (by rw[ls];exact Nat.le_refl _),ls,Nat.sub_self,←List.append_assoc L,fX (L++Y)];rfl
       repeat((first|refine aP gpl ?_|refine aC epl ?_|refine bL.2 ?_|refine aX ?_);refine Rq ?_)
       generalize hae:rL _ _ _ _ _=b;have hbf:b=false:=by rw[←hae];exact Ek rfl epl rfl
       subst hbf;clear hae;refine Rq ?_;repeat((first|refine aP gpl ?_|refine aC epl ?_|refine bL.2 ?_|refine aX ?_);refine Rq ?_)
       have q1:(P (j+1)).used=us+ru:=by rw[hnx]
       have q2:(P (j+1)).spans=sps++(a0,a0+us,a0+us+ru)::rsp:=by rw[hnx]
       have q3:(P (j+1)).vals=vls++[.mk v1 v2 v3 v4]:=by rw[hnx]
       have q4:(P (j+1)).stop = -1:=by rw[hnx]
       exact .mk (j+1,Y++(a0,a0+us,a0+us+ru)::X) [(0,0),(1,1),(2,2),(3,3),(10,5),(6,6),(12,7)] ⟨by simp only;omega,q4,by simp only;rw[q1];omega,by simp only;rw[q3,List.length_append,List.length_singleton];omega,by simp only;rw[q2];simp only[List.length_append,List.length_cons];omega,fun e=>by simp only;rw[q2];first|rw[hYs e,hXs e]|rw[hYs trivial,hXs trivial]⟩
        (aE _ rfl (cZ (rid:=10) rfl rfl rfl rfl rfl rfl (by simp only;rw[q1];omega) rfl (by simp) rfl rfl rfl hset ⟨aJ 6 (.cons (bM _) .nil),⟨12,_,rfl,rfl,.eq (aS _) (by simp only;rw[q3,e7];rfl)⟩,trivial⟩)
         ⟨aK,aK,aK,aK,aR (.ip' hnn),aF,⟨_,rfl,.slE rfl (by simp only;rw[q3];simp)⟩,aR (.il' (aQ _)),aF,⟨_,rfl,.wp⟩,trivial⟩) (by simp only;omega)
      ·have hws:qR F x:=by
        have e:(P (j+1)).stop=(aZ A p f k (a0+us)).stop:=by rw[hnx]
        have hne:(P (j+1)).stop≠-1:=by
         rw[e];rcases hx with⟨n,h1,-⟩|⟨h1,-⟩<;>omega
        unfold qR;rw[hFst,hend hne,e];exact hx
       refine Rq ?_;exact iN (rid:=10) hws rfl rfl rfl rfl rfl rfl rfl rfl rfl rfl
     ·have hje:j=kids.length:=om;subst hje;have hFv:=hFv hst;have hm0:=hmd (P kids.length).vals;rw[←hFv] at hm0;have hvn:=bM F.val;have hFe:Pv A p s F a0 L=fun r m k=>r=bK F.val/\∃X:List Sp,X.length<=(P kids.length).spans.length/\(s=true->X=(P kids.length).spans)/\m=o6 A p s (a0+(P kids.length).used) (L++X) 5 []/\k=6:=by
       unfold Pv;rw[hFst,hFus,hFss,hst]
       funext r m k
       simp
      rw[hFe];clear hFe hFv;generalize F.val=v at *;generalize P kids.length=pj at *;obtain⟨us,vls,sps,st⟩:=pj;simp only at hst hus hvl hYl hYs lv hm0 ⊢;obtain⟨v1,v2,v3,v4⟩:=v;refine Rq ?_;rw[dj,decide_eq_false hjl];refine Rq ?_;refine aG.toP ?_;refine aG.pre bG [(0,0),(1,1),(2,2),(3,3),(5,5),(6,6)] (mem':=o6 A p s (a0+us) (L++Y) 5 [(6,.row 57 4 [bK vZ])]) rfl (cZ (rid:=5) rfl rfl rfl rfl rfl rfl rfl rfl rfl rfl rfl rfl rfl ⟨aJ 6 (.cons (bM _) .nil),trivial⟩)
       (.cons (.same _ (.ip' hnn)) (.cons (.fz' (id:=7) (off:=0) (len:=vls.length) (xs:=aO vls) (ys:=aO vls) rfl rfl om (by rw[List.drop_zero,List.take_of_length_le om]) (aS _)) .nil)) ?_
      refine hm0.go ?_ (.cons (.ip' hnn) (.cons (.il' (aS _)) .nil)) hvn;refine Rq ?_;exact bN (n':=6) (m':=o6 A p s (a0+us) (L++Y) 5 []) [(0,0),(1,1),(2,2),(3,3),(5,5)] rfl (cZ (rid:=5) rfl rfl rfl rfl rfl rfl rfl rfl rfl rfl rfl rfl rfl trivial) (.same _ hvn) ⟨rfl,Y,hYl,hYs,rfl,rfl⟩
set_option maxHeartbeats 16000000
end Go.Proofs.YtobknjmfgjaehaaGreatDoor
