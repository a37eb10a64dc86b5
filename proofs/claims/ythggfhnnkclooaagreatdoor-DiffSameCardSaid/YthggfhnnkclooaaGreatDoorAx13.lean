/- A part of the proof. -/
import Derived.Test.YthggfhnnkclooaaGreatDoorAx12
import Derived.Test.YthggfhnnkclooaaGreatDoorProg
import Derived.KernelRfl
set_option linter.unusedSectionVars false
set_option linter.unusedVariables false
set_option linter.unusedSimpArgs false
set_option maxRecDepth 1000000
set_option maxHeartbeats 16000000
namespace Go.Proofs.YthggfhnnkclooaaGreatDoor
open Go Go.Ax Go.Proofs Tryz
def gB(l:List Int)(at_:Nat):AB:=.row 100 2 [.agg [.il 1 (aV l),.int .i64 at_]]
theorem X1(l:List Int)(i:Nat):jU [.agg [.il 1 (aV l),.int .i64 i]]:=.cons (.agg' (.cons (.il' (aT l)) (.cons (.int _ _) .nil))) .nil
theorem W5(l:List Int)(i:Nat)(most:Int)(hi:i<=4611686018427387904)(hm:most<=4611686018427387904) :
  aJ prog [] 42 [.ptr 0 0 0,.int .i64 most] [(0,gB l i)] 1 λr m n=>∃k:Int,r = .int .i64 k/\0<=k/\(k=0\/k<most)/\m=[(0,gB l (i+1))]:=by
 refine fG bJ func42 rfl ?_;have hw:IntKind.i64.wrap ((i:Int)+1)=((i+1:Nat):Int):=bS oq;have fin:∀(k:Int) (n:Nat),0<=k->(k=0\/k<most)->kH 1 (λr m _=>∃k:Int,r = .int .i64 k/\0<=k/\(k=0\/k<most)/\m=[(0,gB l (i+1))]) (.int .i64 k) [(0,.row 100 2 [.agg [.il 1 (aV l),.int .i64 (IntKind.i64.wrap ((i:Int)+1))]])] n:=by
  intro k n h1 h2;refine bM (n':=1) (m':=[(0,gB l (i+1))]) [(0,0)] rfl ⟨⟨0,_,rfl,rfl,.eq (X1 l (i+1)) (by rw[hw])⟩,trivial⟩ (.same _ (.int _ _)) ⟨k,rfl,h1,h2,rfl⟩
 conv=>whnf
 refine aL (λh=>?_) (λh=>?_)
 .rw[h]
  conv=>whnf
  exact fin 0 _ om (.inl rfl)
 .have hlt:i<l.length:=by rw[aH] at h;simp at h;omega
  rw[h]
  conv=>whnf
  refine aL (λh2=>?_) (λh2=>?_)
  .conv=>whnf
   exact fin 0 _ om (.inl rfl)
  .have h2:2<=most:=su h2
   conv=>whnf
   refine aC (a:=.int .i64 l[i]) (by rw[Yy,bK,Yw hlt];rfl) ?_
   conv=>whnf
   refine aO (by rw[ZN om];rfl) ?_
   conv=>whnf
   have hr : -most<l[i].tmod most/\l[i].tmod most<most:=by
    constructor
    .have:=Int.lt_tmod_of_pos l[i] (show 0<most by omega);omega
    .exact aAz _ om
   refine aL (λh3=>?_) (λh3=>?_)
   .have h3:l[i].tmod most<0:=su h3
    conv=>whnf
    have hw2:IntKind.i64.wrap (l[i].tmod most+most)=l[i].tmod most+most:=bS oq;rw[hw2];exact fin _ _ om (.inr om)
   .have h3:0<=l[i].tmod most:=su h3
    conv=>whnf
    exact fin _ _ h3 (.inr hr.2)
theorem Qu(g:Nat){l:List Int}{i:Nat}(most:Int)(hi:i<=4611686018427387904)(hm:most<=4611686018427387904)(hp:1<=most){mem:aQ}{nx:Nat}{K:AV->aQ->Nat->Prop}(hg:lk mem g=some (gB l i))
  (hk:∀k:Int,0<=k->k<most->CY g mem λrest=>K (.int .i64 k) ((g,gB l (i+1))::rest) nx):aJ prog [] 42 [.ptr g 0 0,.int .i64 most] mem nx K:=by
 refine aJ.use1 bJ (W5 l i most hi hm) g hg (X1 l i) (.cons (.ptr g 0 0 0 (by simp[lk])) (.cons (.same _ (.int _ _)) .nil)) ?_;rintro r m n ⟨k,rfl,h1,h2,rfl⟩;exact⟨_,rfl,.int _ _,X1 l (i+1),hk k h1 om⟩
theorem Vx(x:Nd)(h:x.kind=1->eD x=true):aX prog [] 71 [.ip (cK x)] (.int .i64 (fA x)):=by
 have hr:x.kind=1->x.lo<=x.hi/\x.hi<x.lo+1099511627776:=λe=>⟨(cQ (h e)).1,(cQ (h e)).2.2.2⟩
 have ho:fA x=if x.kind=1 then x.hi-x.lo+1 else x.kids.length:=rfl
 clear h;obtain⟨kind,name,lo,hi,ws,ls,vals,kids,⟨vk,vn,vs,vks⟩⟩:=x;simp only at hr ho;generalize fA ⟨kind,name,lo,hi,ws,ls,vals,kids,.mk vk vn vs vks⟩=o at *;refine aG bJ func71 rfl ?_;refine Z ?_;refine aL (λh=>?_) (λh=>?_)
 .have h1:kind=1:=su h
  obtain⟨r1,r2⟩:=hr h1;rw[Y4 h1] at ho;have hw:IntKind.i64.wrap (hi-lo)=hi-lo:=bS oq;have hw2:IntKind.i64.wrap (hi-lo+1)=o:=by rw[bS oq,ho]
  refine Rt ?_;rw[hw,hw2];exact aA nn ⟨rfl,rfl,rfl⟩
 .have h1:¬kind=1:=su h
  rw[Yz h1] at ho;refine Z ?_;exact cW (.int (by rw[ho,aH])) ⟨rfl,rfl,rfl⟩
end Go.Proofs.YthggfhnnkclooaaGreatDoor
namespace Go.Ax
open Go
structure Cell where
 n:Nat
 p:Fr
def Dw(l:List Int):Int:=l.foldl (· + ·) 0
end Go.Ax
namespace Go.Ax
open Go
theorem Aj:∀(l:List Int) (s:Int),(∀w∈l,1<=w/\w<=1000)->s+l.length<=l.foldl (· + ·) s/\l.foldl (· + ·) s<=s+1000*l.length
 | [],s,_=>sq
 | a::l,s,h=>by
  obtain⟨h1,h2⟩:=Aj l (s+a) λw hw=>h w (ZE _ hw)
  obtain⟨a1,a2⟩:=h a (ZQ ..);rw[ZY,Zc];constructor<;>push_cast<;>omega
theorem N6{l:List Int}(h:∀w∈l,1<=w/\w<=1000)(hl:l.length<=1000000)(k:Nat):i64 (Dw (l.take k)):=by
 obtain⟨h1,h2⟩:=Aj (l.take k) 0 λw hw=>h w (Zg hw)
 have hk:(l.take k).length<=l.length:=by rw[ZO];omega
 unfold Dw;exact oq
theorem DB{x:Nd}(h:eD x=true):∀w∈x.weights,1<=w/\w<=1000:=by
 unfold eD at h;simp only[Y1,Z3,ZR] at h;exact h.2
end Go.Ax
namespace Go.Ax
open Go
theorem VT.wlen{A:List Nd}(h:VT A){i:Nat}{x:Nd}(hx:A[i]? = some x)(h2:x.kind=2):x.weights.length=x.kids.length/\1<=x.kids.length:=by
 have hf:=iU (nK A h.v0 i x hx);unfold dL at hf;simp only[Y1,Z0,ZR] at hf;rcases hf.1.1.1.2 with h3|h3
 .exact absurd h2 h3
 .exact⟨h3.1.2,h3.1.1.1⟩
section
variable {A:List Nd} (h:VT A) {i:Nat} (hi:i<A.length)
include h hi
end
section
variable {A:List Nd} (h:VT A) {i:Nat} (hi:i<A.length)
include h hi
end
end Go.Ax
namespace Go.Ax
open Go
theorem FQ{rd:Nat->Nat->Ba}{a0:Nat}{g:Int->bD}:∀(ks:List Int) (s:Pt),s.stop = -1->(∀k∈ks,∀q,(rd k.toNat q).val=g k/\(rd k.toNat q).used=0/\(rd k.toNat q).stop = -1) ->
  (bO rd a0 ks s).used=s.used/\(bO rd a0 ks s).vals=s.vals++ks.map g/\(bO rd a0 ks s).stop = -1
 | [],s,hs,_=>⟨rfl,by simp[bO],hs⟩
 | k::ks,s,hs,h=>by
  obtain⟨h1,h2,h3⟩:=h k (ZQ ..) (a0+s.used);simp only[bO];rw[Y4 h3];obtain⟨g1,g2,g3⟩:=FQ (rd:=rd) (a0:=a0) (g:=g) ks ⟨s.used+(rd k.toNat (a0+s.used)).used,s.vals++[(rd k.toNat (a0+s.used)).val],s.spans++(a0,a0+s.used,a0+s.used+(rd k.toNat (a0+s.used)).used)::(rd k.toNat (a0+s.used)).spans,-1⟩ rfl λq hq=>h q (ZE _ hq)
  refine⟨by rw[g1];simp only;omega, ?_,g3⟩;rw[g2];simp only[h1];simp
section
variable {A:List Nd}
theorem Cq(h:VT A)(p:List Int):∀f i a0,i<f->i<A.length->eJ (a8 A) i=0->(bG A p f i a0).val=EL (cZ A) i/\(bG A p f i a0).used=0/\(bG A p f i a0).stop = -1/\(Ns (dG A) i=true->(bG A p f i a0).spans=[])
 | 0,i,a0,hf,hi,h0=>om
 | f+1,i,a0,hf,hi,h0=>by
  have hx:=cG hi;have hkm:=λ(k:Int) (hk:k∈(aD A i).kids)=>eP h hx hk
  obtain⟨l1,l2,l3,l4⟩:=h.len0 hx h0;have hbi:=λh4=>h.bind hx h4
  have hkd:=λ(j:Nat) (hj:j<(aD A i).kids.length)=>h.kid hx hj
  have hkind:=(h.node hx).node.kind;have ih:=λ(k:Nat) (a:Nat) (hk:k<i)=>Cq h p f k a om om
  rw[h.fix hx,h.pln hx];rw[h.len hx] at h0;simp only[bG];generalize aD A i=x at *;have hfx:yO (a8 A) (cZ A) x=if x.kind=0 then x.value else if x.kind=3 then d8 x.name (x.kids.map λk=>(cZ A).getD k.toNat vZ) else if x.kind=4 then(cZ A).getD (bF x 1) vZ else vZ:=by
   unfold yO;rw[Yz om]
  rw[hfx];by_cases k0:x.kind=0
  .rw[Y4 k0,Y4 k0];exact⟨rfl,rfl,rfl,λ_=>rfl⟩
  rw[Yz k0,Yz k0];by_cases k3:x.kind=3
  .rw[Y4 k3,Y4 k3];obtain⟨g1,g2,g3⟩:=FQ (rd:=λk q=>bG A p f k q) (a0:=a0) (g:=λk=>(cZ A).getD k.toNat vZ) x.kids ⟨0,[],[],-1⟩ rfl λk hk q=>by
    have:=hkm k hk;obtain⟨e1,e2,e3,-⟩:=ih k.toNat q this.2 (by rw[show ((k.toNat:Nat):Int)=k by omega];exact l3 k3 k hk);exact⟨e1,e2,e3⟩
   simp only[I9];rw[Y4 g3,g2,g1];refine⟨rfl,rfl,g3,λhp=>?_⟩;unfold Ak at hp;simp only[Y1,Z0,ZR] at hp;have hk:x.kids=[]:=by
    rcases hp.1.2 with e|e
    .exact absurd k3 e
    .exact ZB e
   rw[hk];rfl
  rw[Yz k3,Yz k3];have k4:x.kind=4:=om;rw[Y4 k4,Y4 k4];obtain⟨b1,b2,b3,b4⟩:=hbi k4;obtain⟨m1,m2⟩:=l4 k4;have e0:bF x 0<i/\x.kids[0]? = some (bF x 0:Int):=hkd 0 om;have e1:bF x 1<i/\x.kids[1]? = some (bF x 1:Int):=hkd 1 om;obtain⟨c1,c2,c3,c4⟩:=ih _ a0 e0.1 m1;have hl:=QH h _ (show bF x 0<A.length by omega) m1;rw[hl] at b4;rw[Y4 c3,<-b4,c1];have hfd:(cE [EL (cZ A) (bF x 0)] (EL (cZ A) (bF x 0))).1=0:=by simp[cE,Ay]
  simp only[hfd,c2];have hz1:eJ (a8 A) (bF x 1)=0:=m2 _ (by
   refine Y2 (i:=0) ?_;rw[ZS];exact e1.2)
  obtain⟨d1,d2,d3,d4⟩:=ih (bF x 1) (a0+0) e1.1 hz1;refine⟨d1, ?_,d3,λhp=>?_⟩
  .show 0+(bG A p f (bF x 1) (a0+0)).used=0
   rw[d2]
  .unfold Ak at hp;simp only[Y1,Z3] at hp;have q0:=hp.2 _ (Y2 e0.2);have q1:=hp.2 _ (Y2 e1.2);rw[Yy] at q0 q1
   show (bG A p f (bF x 0) a0).spans++(bG A p f (bF x 1) (a0+0)).spans=[]
   rw[c4 q0,d4 q1];rfl
theorem FE{rd:Nat->Nat->Ba}{a0:Nat}{b:List Int}:∀(ks:List Int) (s:Pt),(∀k∈ks,∀q,((rd k.toNat q).used:Int)<=eJ b k)->(∀k,0<=eJ b k)->((bO rd a0 ks s).used:Int)<=s.used+fR b ks
 | [],s,_,_=>by simp[bO,fR]
 | k::ks,s,h,hb=>by
  have h1:=h k (ZQ ..) (a0+s.used);have hs:fR b (k::ks)=eJ b k+fR b ks:=by
   unfold fR;rw[ZY,o6];unfold fR;omega
  have h0:∀l:List Int,0<=fR b l:=by
   intro l
   induction l with
   | nil=>simp[fR]
   | cons q r ih=>
    unfold fR at ih |-;rw[ZY,o6];unfold fR;have:=hb q;omega
  have h2:=h0 ks;rw[hs];simp only[bO];split
  .have:=FE (rd:=rd) (a0:=a0) (b:=b) ks ⟨s.used+(rd k.toNat (a0+s.used)).used,s.vals++[(rd k.toNat (a0+s.used)).val],s.spans++(a0,a0+s.used,a0+s.used+(rd k.toNat (a0+s.used)).used)::(rd k.toNat (a0+s.used)).spans,-1⟩ (λq hq=>h q (ZE _ hq)) hb;simp only at this;omega
  .simp only;omega
theorem He(h:VT A)(p:List Int):∀f i a0,i<f->i<A.length->((bG A p f i a0).used:Int)<=eJ (a8 A) i
 | 0,i,a0,hf,hi=>om
 | f+1,i,a0,hf,hi=>by
  have hx:=cG hi;have hkm:=λ(k:Int) (hk:k∈(aD A i).kids)=>eP h hx hk
  have hbi:=λh4=>h.bind hx h4
  have hkI:=λ(c:Int) (h0:0<=c) (h1:c<(aD A i).kids.length)=>h.kidI hx h0 h1
  have hkind:=(h.node hx).node.kind;have ih:=λ(k:Nat) (a:Nat) (hk:k<i)=>He h p f k a om om
  have ihm:=λ(k:Nat) (a:Nat) (hk:k<i)=>mH h p f k a om om
  have hsrt:=(h.node hx).srt;have hb:=λk=>(h.lens0 k).1
  rw[h.len hx];simp only[bG];generalize aD A i=x at *;have hm0:=(gR (b:=a8 A) (M:=1024) om (jH A h.v0).1 (eQ x)).1;unfold fN;by_cases k0:x.kind=0
  .rw[Y4 k0,Y4 k0];exact Int.le_refl _
  rw[Yz k0,Yz k0];by_cases k3:x.kind=3
  .rw[Y4 k3,Yz (show ¬x.kind=1 by omega),Y4 k3];have:=FE (rd:=λk q=>bG A p f k q) (a0:=a0) (b:=a8 A) x.kids ⟨0,[],[],-1⟩ (λk hk q=>by
    have:=hkm k hk;have e:=ih k.toNat q this.2
    rwa [show ((k.toNat:Nat):Int)=k by omega] at e) hb
   simp only at this
   show ((bO _ a0 x.kids ⟨0,[],[],-1⟩).used:Int)<=_
   omega
  rw[Yz k3];by_cases k4:x.kind=4
  .obtain⟨b1,b2,b3,b4⟩:=hbi k4;rw[Y4 k4,Yz (show ¬x.kind=1 by omega),Yz k3,Yz (show ¬x.kind=2 by omega)];obtain⟨c1,c2,c3⟩:=hkI 0 om om;have hk:(x.kids.getD 0 0)=(bF x 0:Int):=by
    have h2:x.kids[0]? = some (bF x 0:Int):=c3;rw[Yx,h2];rfl
   rw[hk];have e1:=ih _ a0 c1;split
   .rename_i hst;obtain⟨-,m1⟩:=ihm _ a0 c1 hst;have m1:=m1 b3;rw[b4] at m1;obtain⟨q,fq,q1,q2⟩:=mY hsrt m1;rw[fq];simp only;obtain⟨d1,d2,d3⟩:=hkI ((q+1:Nat):Int) om om;have e2:=ih _ (a0+(bG A p f (bF x 0) a0).used) d1;have ha:(bF x ((q+1:Nat):Int):Int)∈eQ x:=by
     unfold eQ;rw[Yz om];rw[Yy] at d3;refine Y2 (i:=q) ?_;rw[ZS,aBE];exact d3
    have e3:=(pK (ss:=a8 A) (eQ x) 0 _ ha).1;have e3:eJ (a8 A) (bF x ((q+1:Nat):Int))<=cX (a8 A) (eQ x):=e3;omega
   .omega
  rw[Yz k4];have hl1:∀u:Int,u<=1+cX (a8 A) (eQ x)->(x.kind=1->u<=1)->u<=(if x.kind=1 then 1 else if x.kind=2 then 1+cX (a8 A) (eQ x) else eJ (a8 A) (x.kids.getD 0 0)+cX (a8 A) (eQ x)):=λu h1 h2=>by
   by_cases k1:x.kind=1
   .rw[Y4 k1];exact h2 k1
   .rw[Yz k1,Y4 om];exact h1
  split
  .exact hl1 ((0:Nat):Int) om (λ_=>om)
  rename_i hp;split
  .exact hl1 ((0:Nat):Int) om (λ_=>om)
  rename_i hc;rw[not_or] at hc;by_cases k1:x.kind=1
  .rw[Y4 k1];exact hl1 ((1:Nat):Int) om (λ_=>om)
  .rw[Yz k1];have ho:fA x=x.kids.length:=by unfold fA;rw[Yz k1]
   obtain⟨d1,d2,d3⟩:=hkI (p.getD a0 0) om om;have e2:=ih _ (a0+1) d1;have ha:(bF x (p.getD a0 0):Int)∈eQ x:=by unfold eQ;rw[Y4 om];exact d2
   have e3:=(pK (ss:=a8 A) (eQ x) 0 _ ha).1;have e3:eJ (a8 A) (bF x (p.getD a0 0))<=cX (a8 A) (eQ x):=e3;exact hl1 (((bG A p f (bF x (p.getD a0 0)) (a0+1)).used+1:Nat):Int) om (λe=>absurd e k1)
end
end Go.Ax
namespace Go.Ax
open Go
def dK(raw:List Int)(x:Nd)(q:Nat):Int:=if q<raw.length then max 0 (min (raw.getD q 0) (fA x-1)) else 0
structure Ft where
 cs:List Int
 val:bD
def d7(ft:Nat->Nat->Ft)(q:Nat):List Int->List Int × List bD->List Int × List bD
 | [],s=>s
 | k::ks,s=>d7 ft q ks (s.1++(ft k.toNat (q+s.1.length)).cs,s.2++[(ft k.toNat (q+s.1.length)).val])
def dW(A:List Nd)(raw:List Int):Nat->Nat->Nat->Ft
 | 0,_,_=>⟨[],vZ⟩
 | f+1,i,q=>
  if (aD A i).kind=0 then⟨[],(aD A i).value⟩
  else if (aD A i).kind=3 then⟨(d7 (λk q=>dW A raw f k q) q (aD A i).kids ([],[])).1,d8 (aD A i).name (d7 (λk q=>dW A raw f k q) q (aD A i).kids ([],[])).2⟩
  else if (aD A i).kind=4 then
   ⟨(dW A raw f (bF (aD A i) 0) q).cs++(dW A raw f (bF (aD A i) ((cE (aD A i).values (dW A raw f (bF (aD A i) 0) q).val).1+1:Nat)) (q+(dW A raw f (bF (aD A i) 0) q).cs.length)).cs,
    (dW A raw f (bF (aD A i) ((cE (aD A i).values (dW A raw f (bF (aD A i) 0) q).val).1+1:Nat)) (q+(dW A raw f (bF (aD A i) 0) q).cs.length)).val⟩
  else if (aD A i).kind=1 then⟨[dK raw (aD A i) q],.mk 0 ((aD A i).lo+dK raw (aD A i) q) [] []⟩
  else⟨dK raw (aD A i) q::(dW A raw f (bF (aD A i) (dK raw (aD A i) q)) (q+1)).cs,(dW A raw f (bF (aD A i) (dK raw (aD A i) q)) (q+1)).val⟩
theorem A7{raw:List Int}{x:Nd}{q:Nat}(h:1<=fA x):0<=dK raw x q/\dK raw x q<fA x:=by
 unfold dK;split<;>omega
theorem Au{p r:List Int}{q:Nat}{c:Int}(h:p.drop q=c::r):q<p.length/\p.getD q 0=c/\p.drop (q+1)=r:=by
 have h1:q<p.length:=by
  have:=congrArg List.length h;simp at this;omega
 rw[List.drop_eq_getElem_cons h1] at h;obtain⟨e1,e2⟩:=List.cons.inj h;refine⟨h1, ?_,e2⟩;rw[Yx,Yw h1,e1];rfl
theorem AJ{p a r:List Int}{q:Nat}(h:p.drop q=a++r):p.drop (q+a.length)=r:=by
 have:=congrArg (List.drop a.length) h;rw[List.drop_drop,List.drop_left] at this;exact this
theorem rU{ft:Nat->Nat->Ft}{q:Nat}:∀(ks:List Int) (s:List Int × List bD),∃m,(d7 ft q ks s).1=s.1++m
 | [],s=>⟨[],by simp[d7]⟩
 | k::ks,s=>by
  obtain⟨m,hm⟩:=rU (ft:=ft) (q:=q) ks (s.1++(ft k.toNat (q+s.1.length)).cs,s.2++[(ft k.toNat (q+s.1.length)).val]);exact⟨(ft k.toNat (q+s.1.length)).cs++m,by rw[d7,hm,List.append_assoc]⟩
structure As(r:Ba)(f:Ft):Prop where
 val:r.val=f.val
 used:r.used=f.cs.length
 stop:r.stop = -1
theorem N9{ft:Nat->Nat->Ft}{rd:Nat->Nat->Ba}{p:List Int}{q:Nat}{post:List Int}:∀(ks:List Int) (s:List Int × List bD) (pt:Pt) (m:List Int),(∀k∈ks,∀q post,p.drop q=(ft k.toNat q).cs++post->As (rd k.toNat q) (ft k.toNat q)) ->
  pt.used=s.1.length->pt.vals=s.2->pt.stop = -1->(d7 ft q ks s).1=s.1++m->p.drop (q+s.1.length)=m++post ->
  (bO rd q ks pt).used=(d7 ft q ks s).1.length/\(bO rd q ks pt).vals=(d7 ft q ks s).2/\(bO rd q ks pt).stop = -1
 | [],s,pt,m,_,h1,h2,h3,_,_=>⟨h1,h2,h3⟩
 | k::ks,s,pt,m,hk,h1,h2,h3,hm,hd=>by
  rw[d7] at hm;obtain⟨m',hm'⟩:=rU (ft:=ft) (q:=q) ks (s.1++(ft k.toNat (q+s.1.length)).cs,s.2++[(ft k.toNat (q+s.1.length)).val]);have e:m=(ft k.toNat (q+s.1.length)).cs++m':=by
   rw[hm',List.append_assoc] at hm;exact(List.append_cancel_left hm).symm
  rw[e,List.append_assoc] at hd;obtain⟨a1,a2,a3⟩:=hk k (ZQ ..) _ _ hd;simp only[bO,d7];rw[h1,Y4 a3];refine N9 (post:=post) ks _ _ m' (λq hq=>hk q (ZE _ hq)) (by simp only;rw[a2,ZA]) (by simp only;rw[h2,a1]) rfl hm' ?_;simp only;rw[ZA,<-Nat.add_assoc];exact AJ hd
section
variable {A:List Nd}
theorem VT.opt(h:VT A){i:Nat}{x:Nd}(hx:A[i]? = some x)(hk:x.kind=1\/x.kind=2):1<=fA x:=by
 have hg:=h.node hx;unfold fA;split
 .have:=(cQ hg.node.num).1;omega
 .have:=(hg.opt.ch om).1;omega
theorem MA(h:VT A)(raw p:List Int):∀f i q post,i<f->i<A.length->p.drop q=(dW A raw f i q).cs++post->As (bG A p f i q) (dW A raw f i q)
 | 0,i,q,post,hf,hi,hd=>om
 | f+1,i,q,post,hf,hi,hd=>by
  have hx:=cG hi;have hkm:=λ(k:Int) (hk:k∈(aD A i).kids)=>eP h hx hk
  have hbi:=λh4=>h.bind hx h4
  have hkI:=λ(c:Int) (h0:0<=c) (h1:c<(aD A i).kids.length)=>h.kidI hx h0 h1
  have hopt:=λhk=>h.opt hx hk
  have hkind:=(h.node hx).node.kind;have hsrt:=(h.node hx).srt;have ih:=λ(k:Nat) (q:Nat) (post:List Int) (hk:k<i)=>MA h raw p f k q post om om
  have ihm:=λ(k:Nat) (a:Nat) (hk:k<i)=>mH h p f k a om om
  simp only[bG,dW] at hd |-;generalize aD A i=x at *;by_cases k0:x.kind=0
  .rw[Y4 k0,Y4 k0];exact⟨rfl,rfl,rfl⟩
  rw[Yz k0] at hd;rw[Yz k0,Yz k0];by_cases k3:x.kind=3
  .rw[Y4 k3] at hd;rw[Y4 k3,Y4 k3];obtain⟨m,hm⟩:=rU (ft:=λk q=>dW A raw f k q) (q:=q) x.kids ([],[]);simp only at hd;obtain⟨g1,g2,g3⟩:=N9 (ft:=λk q=>dW A raw f k q) (rd:=λk q=>bG A p f k q) (p:=p) (q:=q) (post:=post) x.kids ([],[]) ⟨0,[],[],-1⟩ m (λk hk q' post' hd'=>ih k.toNat q' post' (hkm k hk).2 hd') rfl rfl rfl hm (by
    rw[hm] at hd;simpa using hd)
   simp only[I9];exact⟨by simp only;rw[Y4 g3,g2],g1,g3⟩
  rw[Yz k3] at hd;rw[Yz k3,Yz k3];by_cases k4:x.kind=4
  .rw[Y4 k4] at hd;rw[Y4 k4,Y4 k4];obtain⟨b1,b2,b3,b4⟩:=hbi k4;obtain⟨c1,c2,c3⟩:=hkI 0 om om;simp only[List.append_assoc] at hd;obtain⟨a1,a2,a3⟩:=ih _ q _ c1 hd;obtain⟨-,m1⟩:=ihm _ q c1 a3;have m1:=m1 b3;rw[b4] at m1;obtain⟨w,fq,q1,q2⟩:=mY hsrt m1;have hd2:=AJ hd;rw[Y4 a3];rw[<-a1,fq] at hd2 |-;rw[a2];simp only at hd2 |-;obtain⟨d1,d2,d3⟩:=hkI ((w+1:Nat):Int) om om;obtain⟨e1,e2,e3⟩:=ih _ _ _ d1 hd2;exact⟨e1,by simp only;rw[e2,ZA],e3⟩
  rw[Yz k4] at hd;rw[Yz k4,Yz k4];have hb:=A7 (raw:=raw) (q:=q) (hopt om);generalize dK raw x q=c at *;by_cases k1:x.kind=1
  .rw[Y4 k1] at hd;obtain⟨p1,p2,p3⟩:=Au hd;rw[Yz (show ¬p.length<=q by omega),p2,Yz (show ¬(c<0\/fA x<=c) by omega),Y4 k1,Y4 k1];exact⟨rfl,rfl,rfl⟩
  .rw[Yz k1] at hd;obtain⟨p1,p2,p3⟩:=Au hd;rw[Yz (show ¬p.length<=q by omega),p2,Yz (show ¬(c<0\/fA x<=c) by omega),Yz k1,Yz k1];have ho:fA x=x.kids.length:=by unfold fA;rw[Yz k1]
   obtain⟨d1,d2,d3⟩:=hkI c om om;obtain⟨e1,e2,e3⟩:=ih _ _ _ d1 p3;exact⟨e1,by simp only;rw[e2,Zc],e3⟩
theorem KD(h:VT A)(raw:List Int){f i q:Nat}(hf:i<f)(hi:i<A.length):As (bG A (List.replicate q 0++(dW A raw f i q).cs) f i q) (dW A raw f i q):=
 MA h raw _ f i q [] hf hi (by rw[aAi,aBf sq];simp)
theorem GT(h:VT A)(raw:List Int){f i q:Nat}(hf:i<f)(hi:i<A.length):((dW A raw f i q).cs.length:Int)<=eJ (a8 A) i:=by
 rw[<-(KD h raw (q:=q) hf hi).used];exact He h _ f i q hf hi
theorem Jn(h:VT A)(raw:List Int){f i q:Nat}(hf:i<f)(hi:i<A.length):iG (dW A raw f i q).val/\((dV (aS A) i).many=false->(dW A raw f i q).val∈(dV (aS A) i).vals):=by
 have ha:=KD h raw (q:=q) hf hi;rw[<-ha.val];exact mH h _ f i q hf hi ha.stop
theorem Qj(h:VT A)(raw:List Int){f i q:Nat}(hf:i<f)(hi:i<A.length)(h0:eJ (a8 A) i=0):(dW A raw f i q).cs=[]/\(dW A raw f i q).val=EL (cZ A) i:=by
 have ha:=KD h raw (q:=q) hf hi;have hl:=GT h raw (q:=q) hf hi;refine⟨ZB om, ?_⟩;rw[<-ha.val];exact(Cq h _ f i q hf hi h0).1
theorem Pn{ft:Nat->Nat->Ft}{rd:Nat->Nat->Ba}{raw p:List Int}{q:Nat}:∀(ks:List Int) (s:List Int × List bD) (pt:Pt) (r:List Int) (m:Nat),(∀k∈ks,∀q post,p.drop q=(ft k.toNat q).cs++post->As (rd k.toNat q) (ft k.toNat q)) ->
  (∀k∈ks,∀q m,m<(ft k.toNat q).cs.length->p.drop q=(ft k.toNat q).cs.take m->∃n,n<A.length/\(rd k.toNat q).stop=(n:Int)/\(ft k.toNat q).cs[m]? = some (dK raw (aD A n) (q+m))) ->
  pt.used=s.1.length->(d7 ft q ks s).1=s.1++r->m<r.length->p.drop (q+s.1.length)=r.take m->∃n,n<A.length/\(bO rd q ks pt).stop=(n:Int)/\r[m]? = some (dK raw (aD A n) (q+s.1.length+m))
 | [],s,pt,r,m,_,_,_,hr,hm,_=>by
  rw[d7] at hr;have:r=[]:=by
   have:=congrArg List.length hr;rw[ZA] at this;exact ZB om
  subst this;simp at hm
 | k::ks,s,pt,r,m,hka,hkb,hu,hr,hm,hd=>by
  rw[d7] at hr;obtain⟨r',hr'⟩:=rU (ft:=ft) (q:=q) ks (s.1++(ft k.toNat (q+s.1.length)).cs,s.2++[(ft k.toNat (q+s.1.length)).val]);have e:r=(ft k.toNat (q+s.1.length)).cs++r':=by
   rw[hr',List.append_assoc] at hr;exact(List.append_cancel_left hr).symm
  have hka0:=hka k (ZQ ..) (q+s.1.length);have hkb0:=hkb k (ZQ ..) (q+s.1.length);have hrec:=λ(pt':Pt) (m':Nat)=>Pn (ft:=ft) (rd:=rd) (raw:=raw) (p:=p) (q:=q) ks (s.1++(ft k.toNat (q+s.1.length)).cs,s.2++[(ft k.toNat (q+s.1.length)).val]) pt' r' m' (λq hq=>hka q (ZE _ hq)) (λq hq=>hkb q (ZE _ hq))
  subst e;simp only[bO];rw[hu];generalize ft k.toNat (q+s.1.length)=F at *;generalize rd k.toNat (q+s.1.length)=R at *;by_cases hc:m<F.cs.length
  .rw[aAb om] at hd;obtain⟨n,n1,n2,n3⟩:=hkb0 m hc hd;rw[Yz (by rw[n2];omega)];exact⟨n,n1,n2,by rw[ZK hc];exact n3⟩
  .obtain⟨m',rfl⟩:∃m',m=F.cs.length+m':=⟨m-F.cs.length,om⟩
   rw[aBW] at hd;obtain⟨a1,a2,a3⟩:=hka0 _ hd;rw[Y4 a3];have hd2:=AJ hd;rw[ZA] at hm;obtain⟨n,n1,n2,n3⟩:=hrec ⟨s.1.length+R.used,pt.vals++[R.val],pt.spans++(q,q+s.1.length,q+s.1.length+R.used)::R.spans,-1⟩ m' (by simp only;rw[a2,ZA]) hr' om (by
    simp only;rw[ZA,<-Nat.add_assoc];exact hd2)
   refine⟨n,n1,n2, ?_⟩;rw[ZM om,aBd,n3];simp only[ZA];congr 2;omega
theorem Td(h:VT A)(raw p:List Int):∀f i q m,i<f->i<A.length->m<(dW A raw f i q).cs.length->p.drop q=(dW A raw f i q).cs.take m->∃n,n<A.length/\(bG A p f i q).stop=(n:Int)/\(dW A raw f i q).cs[m]? = some (dK raw (aD A n) (q+m))
 | 0,i,q,m,hf,hi,hm,hd=>om
 | f+1,i,q,m,hf,hi,hm,hd=>by
  have hx:=cG hi;have hkm:=λ(k:Int) (hk:k∈(aD A i).kids)=>eP h hx hk
  have hbi:=λh4=>h.bind hx h4
  have hkI:=λ(c:Int) (h0:0<=c) (h1:c<(aD A i).kids.length)=>h.kidI hx h0 h1
  have hopt:=λhk=>h.opt hx hk
  have hkind:=(h.node hx).node.kind;have hsrt:=(h.node hx).srt;have ih:=λ(k:Nat) (q:Nat) (post:List Int) (hk:k<i)=>MA h raw p f k q post om om
  have ihb:=λ(k:Nat) (q:Nat) (m:Nat) (hk:k<i)=>Td h raw p f k q m om om
  have ihm:=λ(k:Nat) (a:Nat) (hk:k<i)=>mH h p f k a om om
  have hnode:∀y,aD A i=y->aD A i=y:=λy e=>e
  simp only[bG,dW] at hm hd |-;generalize hxe:aD A i=x at *;by_cases k0:x.kind=0
  .rw[Y4 k0] at hm;simp at hm
  rw[Yz k0] at hm hd |-;rw[Yz k0];by_cases k3:x.kind=3
  .rw[Y4 k3] at hm hd |-;rw[Y4 k3];obtain⟨r,hr⟩:=rU (ft:=λk q=>dW A raw f k q) (q:=q) x.kids ([],[]);rw[Zi] at hr;simp only at hm hd |-;obtain⟨n,n1,n2,n3⟩:=Pn (A:=A) (ft:=λk q=>dW A raw f k q) (rd:=λk q=>bG A p f k q) (raw:=raw) (p:=p) (q:=q) x.kids ([],[]) ⟨0,[],[],-1⟩ r m (λk hk q' post' hd'=>ih k.toNat q' post' (hkm k hk).2 hd') (λk hk q' m' hm' hd'=>ihb k.toNat q' m' (hkm k hk).2 hm' hd') rfl (by rw[hr];rfl) (by rw[<-hr];exact hm) (by rw[<-hr];exact hd);exact⟨n,n1,n2,by rw[hr];exact n3⟩
  rw[Yz k3] at hm hd |-;rw[Yz k3];by_cases k4:x.kind=4
  .rw[Y4 k4] at hm hd |-;rw[Y4 k4];obtain⟨b1,b2,b3,b4⟩:=hbi k4;obtain⟨c1,c2,c3⟩:=hkI 0 om om;simp only at hm hd |-;by_cases hc:m<(dW A raw f (bF x 0) q).cs.length
   .rw[aAb om] at hd;obtain⟨n,n1,n2,n3⟩:=ihb _ q m c1 hc hd;rw[Yz (by rw[n2];omega)];exact⟨n,n1,n2,by rw[ZK hc];exact n3⟩
   .obtain⟨m',rfl⟩:∃m',m=(dW A raw f (bF x 0) q).cs.length+m':=⟨m-(dW A raw f (bF x 0) q).cs.length,om⟩
    rw[aBW] at hd;rw[ZA] at hm;obtain⟨a1,a2,a3⟩:=ih _ q _ c1 hd;obtain⟨-,m1⟩:=ihm _ q c1 a3;have m1:=m1 b3;rw[b4] at m1;obtain⟨w,fq,q1,q2⟩:=mY hsrt m1;have hd2:=AJ hd;rw[Y4 a3];rw[ZM om,aBd];rw[a2];rw[<-a1,fq] at hd2 hm |-;simp only at hd2 hm |-;obtain⟨d1,d2,d3⟩:=hkI ((w+1:Nat):Int) om om;obtain⟨n,n1,n2,n3⟩:=ihb _ _ m' d1 om hd2;exact⟨n,n1,n2,by rw[n3,Nat.add_assoc]⟩
  rw[Yz k4] at hm hd |-;rw[Yz k4];have hb:=A7 (raw:=raw) (q:=q) (hopt om);by_cases k1:x.kind=1
  .rw[Y4 k1] at hm hd |-;have hm0:m=0:=by simp at hm;omega
   subst hm0;have hl:p.length<=q:=by
    have:=congrArg List.length hd;simp at this;omega
   rw[Y4 hl];exact⟨i,hi,rfl,by rw[hxe,Y4 k1];rfl⟩
  .rw[Yz k1] at hm hd |-;rcases ZC m with hm0|hm0
   .subst hm0;have hl:p.length<=q:=by
     have:=congrArg List.length hd;simp at this;omega
    rw[Y4 hl];exact⟨i,hi,rfl,by rw[hxe,Yz k1];rfl⟩
   .obtain⟨m',rfl⟩:∃m',m=m'+1:=⟨m-1,om⟩
    rw[List.take_succ_cons] at hd;simp only[Zc] at hm;obtain⟨p1,p2,p3⟩:=Au hd;generalize dK raw x q=c at *;rw[Yz (show ¬p.length<=q by omega),p2,Yz (show ¬(c<0\/fA x<=c) by omega),Yz k1];have ho:fA x=x.kids.length:=by unfold fA;rw[Yz k1]
    obtain⟨d1,d2,d3⟩:=hkI c om om;obtain⟨n,n1,n2,n3⟩:=ihb _ _ m' d1 om p3;exact⟨n,n1,n2,by
     simp only[List.getElem?_cons_succ];rw[n3];congr 2;omega⟩
end
end Go.Ax
namespace Go.Ax
open Go
def gN(x:Nd):Nat:=if x.kind=3 then max 3 x.kids.length else 3
def HP(A:List Nd):Nat->Nat
 | 0=>1
 | n+1=>HP A n*gN (aD A (n+1))
theorem Ti(x:Nd):3<=gN x:=by unfold gN;split<;>omega
theorem GM(A:List Nd):∀n,1<=HP A n
 | 0=>Y8 _
 | n+1=>by
  have h1:=GM A n;have h2:=Ti (aD A (n+1));rw[HP];exact Zj om (Z5 h1 h2)
theorem Lo(A:List Nd)(n:Nat):3*HP A n<=HP A (n+1):=by
 rw[HP,ZX];exact Zl _ (Ti _)
theorem wC(A:List Nd){k:Nat}:∀{n:Nat},k<=n->HP A k<=HP A n
 | 0,h=>by rw[show k=0 by omega];exact Y8 _
 | n+1,h=>by
  rcases ZG k (n+1) with h'|h'
  .have:=wC A (k:=k) (n:=n) om;have:=Lo A n;omega
  .rw[show k=n+1 by omega];exact Y8 _
theorem Fo{rd:Nat->Nat->Ba}{a0 M:Nat}(hM:3<=M):∀(ks:List Int) (s:Pt),(∀k∈ks,∀q,2*(rd k.toNat q).spans.length+3<=M)->2*(bO rd a0 ks s).spans.length<=2*s.spans.length+ks.length*(M-1)
 | [],s,_=>by simp[bO]
 | k::ks,s,h=>by
  have h1:=h k (ZQ ..) (a0+s.used);have e:(k::ks).length*(M-1)=ks.length*(M-1)+(M-1):=by rw[Zc,Nat.succ_mul]
  rw[e];simp only[bO];generalize hR:rd k.toNat (a0+s.used)=R at *;split
  .have:=Fo (rd:=rd) (a0:=a0) hM ks ⟨s.used+R.used,s.vals++[R.val],s.spans++(a0,a0+s.used,a0+s.used+R.used)::R.spans,-1⟩ λq hq=>h q (ZE _ hq)
   simp only[ZA,Zc] at this;omega
  .simp only[ZA,Zc];have:=aAp (ks.length*(M-1));omega
theorem Fy{A:List Nd}(h:VT A)(p:List Int):∀f i a0,i<f->i<A.length->2*(bG A p f i a0).spans.length+3<=3*HP A i
 | 0,i,a0,hf,hi=>om
 | f+1,i,a0,hf,hi=>by
  have hx:=cG hi;have hkm:=λ(k:Int) (hk:k∈(aD A i).kids)=>eP h hx hk
  have hbi:=λh4=>h.bind hx h4
  have hkI:=λ(c:Int) (h0:0<=c) (h1:c<(aD A i).kids.length)=>h.kidI hx h0 h1
  have hkind:=(h.node hx).node.kind;have hsrt:=(h.node hx).srt;have ih:=λ(k:Nat) (a:Nat) (hk:k<i)=>Fy h p f k a om om
  have ihm:=λ(k:Nat) (a:Nat) (hk:k<i)=>mH h p f k a om om
  have hp1:=GM A i;have hgi:∀j,i=j+1->HP A i=HP A j*gN (aD A i):=λj e=>by rw[e,HP]
  have h0:∀r:Ba,r.spans=[]->2*r.spans.length+3<=3*HP A i:=λr e=>by rw[e];simp;omega
  simp only[bG];generalize aD A i=x at *;by_cases k0:x.kind=0
  .rw[Y4 k0];exact h0 _ rfl
  rw[Yz k0];by_cases k3:x.kind=3
  .rw[Y4 k3]
   show 2*(bO (λk q=>bG A p f k q) a0 x.kids ⟨0,[],[],-1⟩).spans.length+3<=3*HP A i
   rcases ZC i with e|e
   .have hk:x.kids=[]:=by
     cases hkk:x.kids with
     | nil=>rfl
     | cons k ks=>have:=hkm k (by rw[hkk];simp);omega
    rw[hk];simp only[bO,aAr];omega
   .obtain⟨j,rfl⟩:∃j,i=j+1:=⟨i-1,om⟩
    have hj:=GM A j;have hc:=Fo (rd:=λk q=>bG A p f k q) (a0:=a0) (M:=3*HP A j) om x.kids ⟨0,[],[],-1⟩ λk hk q=>by
     have:=hkm k hk;have e1:=ih k.toNat q this.2;have e2:=wC A (k:=k.toNat) (n:=j) om;omega
    simp only[aAr] at hc;rw[hgi j rfl];have hg:gN x=max 3 x.kids.length:=by unfold gN;rw[Y4 k3]
    rw[hg];generalize x.kids.length=n at hc |-;generalize HP A j=H at hc hj |-;rcases ZG n 3 with hn|hn
    .rw[Nat.max_eq_left om];have:n*(3*H-1)<=2*(3*H-1):=ZF _ om;omega
    .rw[Nat.max_eq_right hn];have e1:n*(3*H-1)+n=n*(3*H):=by
      rw[<-Nat.mul_succ];congr 1;omega
     have e2:3*(H*n)=n*(3*H):=by rw[ZX n,Nat.mul_assoc]
     omega
  rw[Yz k3];by_cases k4:x.kind=4
  .rw[Y4 k4];obtain⟨b1,b2,b3,b4⟩:=hbi k4;obtain⟨c1,c2,c3⟩:=hkI 0 om om;have e1:=ih _ a0 c1;obtain⟨j,rfl⟩:∃j,i=j+1:=⟨i-1,om⟩
   have hs:=Lo A j;have hj:=GM A j;have m1':=wC A (k:=bF x 0) (n:=j) om;split
   .rename_i hst;obtain⟨-,m1⟩:=ihm _ a0 c1 hst;have m1:=m1 b3;rw[b4] at m1;obtain⟨q,fq,q1,q2⟩:=mY hsrt m1;rw[fq];simp only[ZA];obtain⟨d1,d2,d3⟩:=hkI ((q+1:Nat):Int) om om;have e2:=ih _ (a0+(bG A p f (bF x 0) a0).used) d1;have m2':=wC A (k:=bF x ((q+1:Nat):Int)) (n:=j) om;omega
   .omega
  rw[Yz k4];split
  .exact h0 _ rfl
  split
  .exact h0 _ rfl
  rename_i hc;rw[not_or] at hc;split
  .exact h0 _ rfl
  .rename_i k1;have ho:fA x=x.kids.length:=by unfold fA;rw[Yz k1]
   obtain⟨d1,d2,d3⟩:=hkI (p.getD a0 0) om om;have e1:=ih _ (a0+1) d1;have m1':=wC A (k:=bF x (p.getD a0 0)) (n:=i) om;simp only;omega
def W2:List Int->List Int->Int
 | [],[]=>0
 | [],_::_=>-1
 | _::_,[]=>1
 | a::asz,b::bs=>andThen (q7 a b) (W2 asz bs)
def XQ(a b:List Int):Int:=andThen (q7 (a.length:Int) (b.length:Int)) (W2 a b)
def XI(l:List (List Int)):Prop:=l.Pairwise λa b=>XQ a b<0
theorem XI.get{l:List (List Int)}(h:XI l){i j:Nat}{a b:List Int}(hij:i<j)(ha:l[i]? = some a)(hb:l[j]? = some b):XQ a b<0:=by
 obtain⟨hi,rfl⟩:=Y0.1 ha;obtain⟨hj,rfl⟩:=Y0.1 hb;exact aBs.1 h i j hi hj hij
def rK(A:List Nd)(r:List Int):List Int:=(dW A r A.length (A.length-1) 0).cs
theorem P5{A:List Nd}(h:VT A)(r:List Int):(rK A r).length<=1024:=by
 have h1:=GT h r (f:=A.length) (i:=A.length-1) (q:=0) (by have:=h.pos;omega) (by have:=h.pos;omega);have h2:=(h.lens0 ((A.length-1:Nat):Int)).2;unfold rK;omega
end Go.Ax
namespace Go.Ax
open Go
section
variable {rd:Nat->Nat->Ba} {a0:Nat}
def S7(rd:Nat->Nat->Ba)(a0:Nat)(k:Int)(s:Pt):Pt:=⟨s.used+(rd k.toNat (a0+s.used)).used,s.vals++[(rd k.toNat (a0+s.used)).val],s.spans++(a0,a0+s.used,a0+s.used+(rd k.toNat (a0+s.used)).used)::(rd k.toNat (a0+s.used)).spans,(rd k.toNat (a0+s.used)).stop⟩
theorem lI(k:Int)(ks:List Int)(s:Pt):bO rd a0 (k::ks) s=if (rd k.toNat (a0+s.used)).stop = -1 then bO rd a0 ks (S7 rd a0 k s) else S7 rd a0 k s:=by
 rw[bO];by_cases h:(rd k.toNat (a0+s.used)).stop = -1
 .rw[Y4 h,Y4 h];unfold S7;rw[h]
 .rw[Yz h,Yz h];rfl
theorem sV(m:List Int):∀(l:List Int) (s:Pt),s.stop = -1->(bO rd a0 l s).stop = -1->bO rd a0 (l++m) s=bO rd a0 m (bO rd a0 l s)
 | [],s,_,_=>rfl
 | k::l,s,h,h2=>by
  rw[lI] at h2;rw[Zo,lI,lI];by_cases hk:(rd k.toNat (a0+s.used)).stop = -1
  .rw[Y4 hk] at h2;rw[Y4 hk,Y4 hk];exact sV m l _ hk h2
  .rw[Yz hk] at h2;exact absurd h2 hk
theorem CV:∀(ks:List Int) (s:Pt),∃X,(bO rd a0 ks s).spans=s.spans++X
 | [],s=>⟨[],by simp[bO]⟩
 | k::ks,s=>by
  rw[lI];split
  .obtain⟨X,hX⟩:=CV ks (S7 rd a0 k s);refine⟨(a0,a0+s.used,a0+s.used+(rd k.toNat (a0+s.used)).used)::(rd k.toNat (a0+s.used)).spans++X, ?_⟩;rw[hX];unfold S7;rw[List.append_assoc]
  .exact⟨_,rfl⟩
theorem uV{ks:List Int}{j:Nat}{s:Pt}(hj:j<ks.length)(h0:s.stop = -1)(h:(bO rd a0 (ks.take j) s).stop = -1) :
  bO rd a0 (ks.take (j+1)) s=S7 rd a0 ks[j] (bO rd a0 (ks.take j) s):=by
 rw[List.take_succ_eq_append_getElem hj,sV _ _ _ h0 h,lI];split
 .rfl
 .rfl
theorem DK{ks:List Int}{j:Nat}{s:Pt}(hj:j<ks.length)(h0:s.stop = -1)(h:(bO rd a0 (ks.take j) s).stop = -1)(hk:(bO rd a0 (ks.take (j+1)) s).stop≠-1) :
  bO rd a0 ks s=bO rd a0 (ks.take (j+1)) s:=by
 have e:ks=ks.take j++ks[j]::ks.drop (j+1):=sq
 have h2:=uV (rd:=rd) (a0:=a0) hj h0 h;rw[h2] at hk |-
 conv=>lhs;rw[e]
 rw[sV _ _ _ h0 h,lI,Yz (show ¬(rd ks[j].toNat (a0+(bO rd a0 (ks.take j) s).used)).stop = -1 from hk)]
theorem Kk{ks:List Int}{j:Nat}{s:Pt}(h0:s.stop = -1)(h:(bO rd a0 (ks.take j) s).stop = -1):∃X,(bO rd a0 ks s).spans=(bO rd a0 (ks.take j) s).spans++X:=by
 have e:ks=ks.take j++ks.drop j:=sq
 obtain⟨X,hX⟩:=CV (rd:=rd) (a0:=a0) (ks.drop j) (bO rd a0 (ks.take j) s);exact⟨X,by rw[<-hX,<-sV _ _ _ h0 h,<-e]⟩
theorem K8{ks:List Int}{j:Nat}{s:Pt}(hj:j<ks.length)(h0:s.stop = -1)(h:(bO rd a0 (ks.take j) s).stop = -1) :
  (bO rd a0 (ks.take j) s).spans.length+1+(rd ks[j].toNat (a0+(bO rd a0 (ks.take j) s).used)).spans.length<=(bO rd a0 ks s).spans.length:=by
 have h2:=uV (rd:=rd) (a0:=a0) hj h0 h;have h3:∃X,(bO rd a0 ks s).spans=(bO rd a0 (ks.take (j+1)) s).spans++X:=by
  by_cases hk:(bO rd a0 (ks.take (j+1)) s).stop = -1
  .exact Kk h0 hk
  .exact⟨[],by rw[DK hj h0 h hk,aAi]⟩
 obtain⟨X,hX⟩:=h3;rw[hX,h2];unfold S7;simp only[ZA,Zc];omega
end
end Go.Ax
namespace Go.Ax
open Go
section
variable {ft:Nat->Nat->Ft} {q:Nat}
theorem BE(m:List Int):∀(l:List Int) (s:List Int × List bD),d7 ft q (l++m) s=d7 ft q m (d7 ft q l s)
 | [],s=>rfl
 | k::l,s=>by rw[Zo,d7,d7];exact BE m l _
theorem yE{ks:List Int}{j:Nat}(hj:j<ks.length)(s:List Int × List bD) :
  d7 ft q (ks.take (j+1)) s=((d7 ft q (ks.take j) s).1++(ft ks[j].toNat (q+(d7 ft q (ks.take j) s).1.length)).cs,(d7 ft q (ks.take j) s).2++[(ft ks[j].toNat (q+(d7 ft q (ks.take j) s).1.length)).val]):=by
 rw[List.take_succ_eq_append_getElem hj,BE];rfl
theorem Es{ks:List Int}{j:Nat}(hj:j<ks.length)(s:List Int × List bD) :
  (d7 ft q (ks.take j) s).1.length+(ft ks[j].toNat (q+(d7 ft q (ks.take j) s).1.length)).cs.length<=(d7 ft q ks s).1.length:=by
 have e:ks=ks.take (j+1)++ks.drop (j+1):=sq
 have h2:=yE (ft:=ft) (q:=q) hj s;obtain⟨m,hm⟩:=rU (ft:=ft) (q:=q) (ks.drop (j+1)) (d7 ft q (ks.take (j+1)) s);have h3:d7 ft q ks s=d7 ft q (ks.drop (j+1)) (d7 ft q (ks.take (j+1)) s):=by
  rw[<-BE,<-e]
 rw[h3,hm,h2];simp only[ZA];omega
end
theorem Kl{raw:List Int}{x:Nd}{q:Nat}(h:1<=fA x)(hq:q<raw.length):min (max (raw.getD q 0) 0) (fA x-1)=dK raw x q:=by
 unfold dK;rw[Y4 hq];omega
theorem Ib{raw:List Int}{x:Nd}{q:Nat}(hq:¬q<raw.length):dK raw x q=0:=by
 unfold dK;rw[Yz hq]
end Go.Ax
namespace Go.Ax
open Go
inductive BC (A B:List Nd):Nat->Nat->Prop where
 | mk (i j:Nat) (x y:Nd):A[i]? = some x->B[j]? = some y->y={ x with kids:=y.kids }->y.kids.length=x.kids.length ->
   (∀(k:Nat) (a b:Int),x.kids[k]? = some a->y.kids[k]? = some b->0<=a/\0<=b) ->
   (∀(k:Nat) (a b:Int),x.kids[k]? = some a->y.kids[k]? = some b->BC A B a.toNat b.toNat)->BC A B i j
theorem BC.symm{A B:List Nd}{i j:Nat}(h:BC A B i j):BC B A j i:=by
 induction h with
 | mk i j x y hx hy he hl hp _ ih=>
  refine .mk j i y x hy hx ?_ hl.symm (λk a b ha hb=>(hp k b a hb ha).symm) λk a b ha hb=>ih k b a hb ha
  rw[he]
theorem BC.trans{A B ae:List Nd}{i j k:Nat}(h:BC A B i j):BC B ae j k->BC A ae i k:=by
 induction h generalizing k with
 | mk i j x y hx hy he hl hp _ ih=>
  intro h2;cases h2 with
  | mk _ _ y' z hy' hz he2 hl2 hp2 ih2=>
   rw[hy] at hy';cases hy';have mid:∀(q:Nat) (a:Int),x.kids[q]? = some a->∃b,y.kids[q]? = some b:=λq a ha=>by
    have hq:q<y.kids.length:=by
     have:=(Y0.1 ha).1;omega
    exact⟨_,Yw hq⟩
   refine .mk i k x z hx hz ?_ om (λq a c ha hc=>?_) λq a c ha hc=>?_
   .rw[he2,he]
   .obtain⟨b,hb⟩:=mid q a ha;exact⟨(hp q a b ha hb).1,(hp2 q b c hb hc).2⟩
   .obtain⟨b,hb⟩:=mid q a ha;exact ih q a b ha hb (ih2 q b c hb hc)
theorem BC.refl{A:List Nd}(hA:∀(i:Nat) (x:Nd),A[i]? = some x->∀k∈x.kids,0<=k/\k<i):∀(n i:Nat),i<n->i<A.length->BC A A i i
 | 0,i,h,_=>absurd h om
 | n+1,i,h,hi=>by
  have hx:A[i]? = some A[i]:=Yw hi;refine .mk i i _ _ hx hx rfl rfl (λk a b ha hb=>?_) λk a b ha hb=>?_
  .rw[ha] at hb;cases hb;have:=hA i _ hx a (Y2 ha);exact⟨this.1,this.1⟩
  .rw[ha] at hb;cases hb;have:=hA i _ hx a (Y2 ha);exact BC.refl hA n a.toNat om om
theorem wK(v:bD):cN v v=0:=(jY v).refl
theorem Bx:∀l:List bD,dC l l=true
 | []=>rfl
 | v::r=>by simp[dC,wK,Bx r]
theorem NU{x y:Nd}(hk:x.kind=2)(hy:y.kind=2)(hl:y.labels=x.labels)(hlen:y.kids.length=x.kids.length)(hlab:x.labels.length=0\/x.labels.length=x.kids.length){k:Nat}(h:k<x.kids.length):Al x y k=((k:Int),true):=by
 have o1:gX x=x.kids.length:=by unfold gX;rw[Yz om,Y4 hk]
 have o2:gX y=y.kids.length:=by unfold gX;rw[Yz om,Y4 hy]
 have hc:zW x y k=((k:Int),true):=by
  unfold zW;rw[Yz om,Yz om,hl];by_cases h0:x.labels.length=0
  .rw[Y4 (.inl h0),Y7 om]
  .rw[Yz (by simp[h0]),Y4 ⟨om,rfl⟩]
 unfold Al;rw[o1,o2,Yz om,Yz om,Yy,hc,Y4 rfl]
theorem C4:∀{l:List bD} (_:lK l) {k:Nat} {v:bD},l[k]? = some v->cE l v=(k,true):=by
 intro l hs k v hk;have hkl:=(Y0.1 hk).1;rw[rE (k:=k) om (λp a hp ha=>?_) (λa ha=>?_)]
 .unfold EM;rw[hk];simp[wK]
 .have hpl:=(Y0.1 ha).1;have e1:=(Y0.1 ha).2;have e2:=(Y0.1 hk).2;rw[<-e1,<-e2];exact aBs.1 hs p k hpl hkl hp
 .rw[hk] at ha;cases ha;rw[wK];omega
theorem KJ{l:List bD}(hs:lK l){k:Nat}{v:bD}(h:l[k]? = some v):Ap l v=((k:Int),true):=by
 unfold Ap kJ;rw[C4 hs h];simp
theorem Kw{x y:Nd}(he:y={ x with kids:=y.kids })(hl:y.kids.length=x.kids.length):pJ x y=true:=by
 obtain⟨a,b,c,d,e,f,g,h,v⟩:=x;obtain⟨a2,b2,c2,d2,e2,f2,g2,h2,v2⟩:=y;cases he;unfold pJ;simp only at hl;simp[hl,Bx,wK]
def wS(A:List Nd):Prop:=∀(i:Nat) (x:Nd),A[i]? = some x->(x.kind=2->x.labels.length=0\/x.labels.length=x.kids.length)/\(x.kind=4->x.kids.length=x.values.length+1)/\lK x.values
theorem EH{x y:Nd}(he:y={ x with kids:=y.kids })(hl:y.kids.length=x.kids.length)(h2:x.kind=2->x.labels.length=0\/x.labels.length=x.kids.length)(hs:lK x.values){k:Nat}{c:Int × Bool}(h:(rW x y)[k]? = some c):c=((k:Int),true):=by
 have ek:y.kind=x.kind:=by rw[he]
 have el:y.labels=x.labels:=by rw[he]
 have ev:y.values=x.values:=by rw[he]
 unfold rW at h;split at h
 .rename_i hk;rw[ZT] at h;cases hr:(List.range x.kids.length)[k]? with
  | none=>rw[hr] at h;cases h
  | some q=>
   obtain⟨h1,h3⟩:=Y0.1 hr;rw[List.getElem_range] at h3;rw[hr] at h;simp only[aAq,Option.some.injEq] at h;rw[<-h,<-h3];exact NU hk.1 hk.2 el hl (h2 hk.1) (su h1)
 .split at h
  .rw[ZT] at h;cases hv:x.values[k]? with
   | none=>rw[hv] at h;cases h
   | some v=>
    rw[hv] at h;simp only[aAq,Option.some.injEq] at h;rw[<-h];rw[ev];exact KJ hs hv
  .simp at h
theorem rF{y:Nd}{k:Nat}{b:Int}(h:y.kids[k]? = some b):bF y (k:Int)=b.toNat:=by
 unfold bF;rw[Yy,Yx,h];rfl
theorem SN{A B:List Nd}(hA:wS A){o n:Nat}(h:BC A B o n):∀p∈qY (aD A o) (aD B n),BC A B p.1 p.2:=by
 cases h with
 | mk _ _ x y hx hy he hl hp hs=>
  rw[eA hx,eA hy];obtain⟨n2,n4,nS⟩:=hA o x hx;have ek:y.kind=x.kind:=by rw[he]
  have hc:=λ(k:Nat) (c:Int × Bool) (h:(rW x y)[k]? = some c)=>EH he hl n2 nS h
  have hk:∀(k:Nat) (a:Int),x.kids[k]? = some a->BC A B a.toNat (bF y k):=λk a ha=>by
   have hlt:k<y.kids.length:=by have:=(Y0.1 ha).1;omega
   have hb:y.kids[k]? = some y.kids[k]:=Yw hlt;rw[rF hb];exact hs k a _ ha hb
  intro p hpm;unfold qY at hpm;rw[Yz (by simp[ek])] at hpm;split at hpm
  .obtain⟨q,hq,rfl⟩:=ZL.1 hpm;obtain⟨k,hk1⟩:=ZV hq;rw[aAk] at hk1;have e:=hc k _ hk1.2;simp only[e];exact hk k _ hk1.1
  .split at hpm
   .obtain⟨q,hq,rfl⟩:=ZL.1 hpm;obtain⟨k,hk1⟩:=ZV hq;rw[aAk] at hk1;exact hs k _ _ hk1.1 hk1.2
   .split at hpm
    .rename_i k4;rcases Y6.1 hpm with rfl|hpm
     .have h0:0<x.kids.length:=by rw[n4 k4];omega
      have:=hk 0 x.kids[0] (Yw h0);have e:bF x 0=(x.kids[0]).toNat:=rF (k:=0) (Yw h0);simp only[e];exact this
     .obtain⟨q,hq,rfl⟩:=ZL.1 hpm;obtain⟨k,hk1⟩:=ZV hq;rw[aAk] at hk1;have e:=hc k _ hk1.2;simp only[e];have h2:=hk1.1;rw[ZS] at h2;have h3:=hk (1+k) _ h2;rw[show ((k:Int)+1)=((1+k:Nat):Int) by omega];exact h3
    .cases hpm
def Nx(A B:List Nd)(m:Mt):Prop:=BC A B m.old m.now/\(∀(o:Nat) (v:Int),m.opts[o]? = some v->v=o)/\∀(o:Nat) (b:Bool),m.same[o]? = some b->b=true
theorem Sx{A B:List Nd}(hA:wS A){o n:Nat}(h:BC A B o n):Nx A B (Kb (aD A o) (aD B n) o n):=by
 have key:∀(k:Nat) (c:Int × Bool),(rW (aD A o) (aD B n))[k]? = some c->c=((k:Int),true):=by
  cases h with
  | mk _ _ x y hx hy he hl hp hs=>
   obtain⟨n2,n4,nS⟩:=hA o x hx;rw[eA hx,eA hy];exact λk c hc=>EH he hl n2 nS hc
 refine⟨h,λk v hv=>?_,λk b hb=>?_⟩
 .simp only[Kb,ZT] at hv;cases hc:(rW (aD A o) (aD B n))[k]? with
  | none=>rw[hc] at hv;cases hv
  | some c=>
   rw[hc,key k c hc] at hv;simpa using hv.symm
 .simp only[Kb,ZT] at hb;cases hc:(rW (aD A o) (aD B n))[k]? with
  | none=>rw[hc] at hb;cases hb
  | some c=>
   rw[hc,key k c hc] at hb;simpa using hb.symm
theorem Ls{A B:List Nd}(hA:wS A):∀(f o n:Nat) (L:List Mt),BC A B o n->(∀m∈L,Nx A B m)->∀m∈iI A B f o n L,Nx A B m
 | 0,o,n,L,_,hL=>hL
 | f+1,o,n,L,h,hL=>by
  unfold iI;split
  .exact hL
  .have hps:=SN hA h;have h0:∀m∈L++[Kb (aD A o) (aD B n) o n],Nx A B m:=λm hm=>by
    rcases ZI.1 hm with hm|hm
    .exact hL m hm
    .simp at hm;rw[hm];exact Sx hA h
   generalize L++[Kb (aD A o) (aD B n) o n]=L0 at h0;generalize qY (aD A o) (aD B n)=ps at hps
   revert L0 h0 hps
   induction ps with
   | nil=>exact λL0 h0 _=>h0
   | cons p ps ih=>
    intro L0 h0 hps;rw[ZY];exact ih _ (Ls hA f p.1 p.2 L0 (hps p sq) h0) λq hq=>hps q (by simp[hq])
theorem QD{A B:List Nd}(hA:wS A)(h:BC A B (A.length-1) (B.length-1)):∀m∈qG A B,Nx A B m:=by
 unfold qG;split
 .exact Ls hA _ _ _ _ h sq
 .simp
theorem Hu{A B:List Nd}(hA:wS A)(h:BC A B (A.length-1) (B.length-1))(uA:dU A=true)(uB:dU B=true):eC A B=0:=by
 have hm:=QD hA h;unfold eC;rw[Y4 ⟨uA,uB⟩];unfold Dr;rw[Zu,List.filter_eq_nil_iff];intro m hmm;cases (hm m hmm).1 with
 | mk _ _ x y hx hy he hl hp hs=>
  rw[eA hx,eA hy,Kw he hl];simp
theorem Qe{L:List Mt}{o n:Nat}:iH L o n=true↔∃m∈L,m.old=o/\m.now=n:=by
 simp[iH]
theorem QZ{A B:List Nd}(hA:eG A)(hB:eG B)(vA:cR A=0)(vB:cR B=0):∀(f o n:Nat) (L:List Mt),o<f->o<A.length->n<B.length ->
  (∀o' n',iH L o' n'=true->iH (iI A B f o n L) o' n'=true)/\iH (iI A B f o n L) o n=true /\
  ∀o' n',iH (iI A B f o n L) o' n'=true->iH L o' n'=true\/∀p∈qY (aD A o') (aD B n'),iH (iI A B f o n L) p.1 p.2=true
 | 0,o,n,L,h,_,_=>absurd h om
 | f+1,o,n,L,hf,ho,hn=>by
  unfold iI;split
  .rename_i hi;exact⟨λ_ _ h=>h,hi,λ_ _ h=>.inl h⟩
  .rename_i hi;have hx:=Yw ho;have hy:=Yw hn;have hp:=Gn hA hB vA vB hx hy;have e1:=eA hx;have e2:=eA hy;rw[<-e1,<-e2] at hp;have key:∀(ps:List (Nat × Nat)) (M:List Mt),(∀p∈ps,p.1<o/\p.2<n) ->
     (∀o' n',iH M o' n'=true->iH (ps.foldl (λL p=>iI A B f p.1 p.2 L) M) o' n'=true)/\(∀p∈ps,iH (ps.foldl (λL p=>iI A B f p.1 p.2 L) M) p.1 p.2=true) /\
     ∀o' n',iH (ps.foldl (λL p=>iI A B f p.1 p.2 L) M) o' n'=true->iH M o' n'=true\/∀p∈qY (aD A o') (aD B n'),iH (ps.foldl (λL p=>iI A B f p.1 p.2 L) M) p.1 p.2=true:=by
    intro ps
    induction ps with
    | nil=>exact λM _=>⟨λ_ _ h=>h,λp h=>(by cases h),λ_ _ h=>.inl h⟩
    | cons p r ih=>
     intro M hps;simp only[ZY];obtain⟨b1,b2⟩:=hps p (ZQ ..);obtain⟨g1,g2,g3⟩:=QZ hA hB vA vB f p.1 p.2 M om om om;obtain⟨k1,k2,k3⟩:=ih (iI A B f p.1 p.2 M) λq hq=>hps q (ZE _ hq)
     refine⟨λo' n' h=>k1 _ _ (g1 _ _ h),λq hq=>?_,λo' n' h=>?_⟩
     .rcases Y6.1 hq with rfl|hq
      .exact k1 _ _ g2
      .exact k2 q hq
     .rcases k3 o' n' h with h|h
      .rcases g3 o' n' h with h|h
       .exact .inl h
       .exact .inr λq hq=>k1 _ _ (h q hq)
      .exact .inr h
   obtain⟨k1,k2,k3⟩:=key (qY (aD A o) (aD B n)) (L++[Kb (aD A o) (aD B n) o n]) hp;refine⟨λo' n' h=>k1 _ _ ?_,k1 _ _ ?_,λo' n' h=>?_⟩
   .rw[wR,h];rfl
   .rw[wR];simp[Kb]
   .rcases k3 o' n' h with h|h
    .rw[wR] at h;simp only[Z0,Y1] at h;rcases h with h|⟨h1,h2⟩
     .exact .inl h
     .have h1:o=o':=Zh h1;have h2:n=n':=Zh h2;subst h1 h2;exact .inr k2
    .exact .inr h
theorem VT.kinds{A:List Nd}(h:VT A){i:Nat}{x:Nd}(hx:A[i]? = some x)(hk:0<x.kids.length):x.kind=2\/x.kind=3\/x.kind=4:=by
 have hn:=nK A h.v0 i x hx;have hN:=(h.node hx).node.kind;have hf:dL i x=true:=by
  unfold gG at hn;split at hn
  .omega
  .rename_i h;simpa using h
 unfold dL jF at hf;simp only[Y1,Z0,ZR] at hf;have h1:=hf.1.1.1.1.1.1.2;omega
theorem Hy{A B:List Nd}(hA:VT A)(hB:VT B)(h:eC A B=0):BC A B (A.length-1) (B.length-1):=by
 have uA:dU A=true:=by unfold dU;simp[hA.pos,hA.val]
 have uB:dU B=true:=by unfold dU;simp[hB.pos,hB.val]
 have pA:=hA.pos;have pB:=hB.pos;unfold eC at h;rw[Y4 ⟨uA,uB⟩] at h;unfold Dr at h;have hd:qG A B=iI A B A.length (A.length-1) (B.length-1) []:=by unfold qG;rw[Y4 ⟨uA,uB⟩]
 rw[hd] at h;obtain⟨-,g2,g3⟩:=QZ hA.tin hB.tin hA.val hB.val A.length (A.length-1) (B.length-1) [] om om om;have hr:=GE hA.tin hB.tin hA.val hB.val A.length (A.length-1) (B.length-1) [] om om sq;generalize iI A B A.length (A.length-1) (B.length-1) []=L at h g2 g3 hr;have hex:∀o n,iH L o n=true->o<A.length/\n<B.length/\pJ (aD A o) (aD B n)=true:=λo n hi=>by
  obtain⟨m,hm,rfl,rfl⟩:=Qe.1 hi;obtain⟨h1,h2⟩:=hr m hm;refine⟨h1,h2, ?_⟩;have h3:=ZB h;rw[List.filter_eq_nil_iff] at h3;simpa using h3 m hm
 have hcl:∀o n,iH L o n=true->∀p∈qY (aD A o) (aD B n),iH L p.1 p.2=true:=λo n hi=>by
  rcases g3 o n hi with h|h
  .simp[iH] at h
  .exact h
 have main:∀f o n,o<f->iH L o n=true->BC A B o n:=by
  intro f
  induction f with
  | zero=>exact λo n h=>absurd h om
  | succ f ih=>
   intro o n hf hi;obtain⟨h1,h2,h3⟩:=hex o n hi;have hx:=cG h1;have hy:=cG h2;have hk:=hcl o n hi;have gA:=hA.node hx;have gB:=hB.node hy;have kA:=λk hk=>eP hA hx (k:=k) hk
   have kB:=λk hk=>eP hB hy (k:=k) hk
   have hb:=λh4=>hA.bind hx h4
   generalize aD A o=x at *;generalize aD B n=y at *;unfold pJ at h3;simp only[Y1,ZR,beq_iff_eq] at h3;obtain⟨⟨⟨⟨⟨e1,e2,e3,e4,e5⟩,e6⟩,e7⟩,e8⟩,e9⟩:=h3;have e8:=A0 e8;have e9:=FO _ _ e9;have he:y={ x with kids:=y.kids }:=by
    obtain⟨a,b,c,d,e,f,g,k,v⟩:=x;obtain⟨a2,b2,c2,d2,e2,f2,g2,k2,v2⟩:=y;simp only at *;subst e1 e2 e3 e5 e6 e7 e8 e9;rfl
   have hch:∀(k:Nat) (c:Int × Bool),(rW x y)[k]? = some c->c=((k:Int),true):=λk c hc=>
    EH he e4.symm (λh=>(gA.opt.ch h).2) gA.srt hc
   refine .mk o n x y hx hy he e4.symm (λk a b ha hb=>⟨(kA a (Y2 ha)).1,(kB b (Y2 hb)).1⟩) λk a b ha hb'=>?_
   have hka:=kA a (Y2 ha);have hkl:=(Y0.1 ha).1;refine ih a.toNat b.toNat om ?_;have hkind:x.kind=2\/x.kind=3\/x.kind=4:=hA.kinds hx om;have kb:bF y (k:Int)=b.toNat:=rF hb';rcases hkind with hk2|hk3|hk4
   .have hm:(a.toNat,b.toNat)∈qY x y:=by
     unfold qY;rw[Yz (by simp[e1]),Y4 hk2];refine ZL.2 ⟨(a,((k:Int),true)), ?_,by simp only;rw[kb]⟩;refine Y2 (i:=k) ?_;have hl:=(Gk (x:=x) (y:=y)).1 ⟨hk2,om⟩;have hc:(rW x y)[k]? = some (rW x y)[k]:=Yw om;rw[hch k _ hc] at hc;rw[aAk];exact⟨ha,hc⟩
    exact hk _ hm
   .have hm:(a.toNat,b.toNat)∈qY x y:=by
     unfold qY;rw[Yz (by simp[e1]),Yz om,Y4 hk3];refine ZL.2 ⟨(a,b), ?_,rfl⟩;refine Y2 (i:=k) ?_;rw[aAk];exact⟨ha,hb'⟩
    exact hk _ hm
   .obtain⟨q1,q2,-,-⟩:=hb hk4;have hm:(a.toNat,b.toNat)∈qY x y:=by
     unfold qY;rw[Yz (by simp[e1]),Yz om,Yz om,Y4 hk4];cases k with
     | zero=>
      refine Y6.2 (.inl ?_);have ka:bF x ((0:Nat):Int)=a.toNat:=rF ha;rw[<-ka,<-kb];rfl
     | succ k=>
      refine Y6.2 (.inr (ZL.2 ⟨(a,((k:Int),true)), ?_,by simp only;rw[<-kb];rfl⟩));refine Y2 (i:=k) ?_;have hl:=(Gk (x:=x) (y:=y)).2 ⟨hk4,om⟩;have hc:(rW x y)[k]? = some (rW x y)[k]:=Yw om;rw[hch k _ hc] at hc;rw[aAk];exact⟨by rw[ZS,aBE];exact ha,hc⟩
    exact hk _ hm
 exact main A.length (A.length-1) (B.length-1) om g2
structure Yb(A B:List Nd)(v v':bD)(u u':Nat)(s s':Int):Prop where
 used:u=u'
 c:(s = -1/\s' = -1/\v=v')\/(s = -2/\s' = -2)\/∃j k:Nat,BC A B j k/\s=(j:Int)/\s'=(k:Int)
def S6(R:Int->Int->Prop):List Int->List Int->Prop
 | [],[]=>True
 | a::l,b::m=>R a b/\S6 R l m
 | _,_=>False
theorem LY{R:Int->Int->Prop}:∀{l m:List Int},m.length=l.length->(∀(k:Nat) (a b:Int),l[k]? = some a->m[k]? = some b->R a b)->S6 R l m
 | [],[],_,_=>trivial
 | a::l,b::m,hl,h=>⟨h 0 a b rfl rfl,LY (su hl) λk x y hx hy=>h (k+1) x y (su hx) (su hy)⟩
 | [],b::m,hl,_=>by simp at hl
 | a::l,[],hl,_=>by simp at hl
theorem Fz{A B:List Nd}{rd rd':Nat->Nat->Ba}{a0:Nat}{R:Int->Int->Prop}(hr:∀a b q,R a b->Yb A B (rd a.toNat q).val (rd' b.toNat q).val (rd a.toNat q).used (rd' b.toNat q).used (rd a.toNat q).stop (rd' b.toNat q).stop):∀(ks ks':List Int) (s s':Pt),S6 R ks ks' ->
  s.used=s'.used->s.vals=s'.vals->s.stop = -1->s'.stop = -1 ->
  (bO rd a0 ks s).used=(bO rd' a0 ks' s').used/\(((bO rd a0 ks s).stop = -1/\(bO rd' a0 ks' s').stop = -1/\(bO rd a0 ks s).vals=(bO rd' a0 ks' s').vals)\/((bO rd a0 ks s).stop = -2/\(bO rd' a0 ks' s').stop = -2)\/∃j k:Nat,BC A B j k/\(bO rd a0 ks s).stop=(j:Int)/\(bO rd' a0 ks' s').stop=(k:Int))
 | [],[],s,s',_,hu,hv,h1,h2=>⟨hu,.inl ⟨h1,h2,hv⟩⟩
 | a::ks,b::ks',s,s',hR,hu,hv,h1,h2=>by
  obtain⟨g1,g2⟩:=hr a b (a0+s.used) hR.1;simp only[bO];rw[<-hu];rcases g2 with⟨c1,c2,c3⟩|⟨c1,c2⟩|⟨j,k,c0,c1,c2⟩
  .rw[Y4 c1,Y4 c2];exact Fz hr ks ks' _ _ hR.2 (by simp only;rw[g1]) (by simp only;rw[hv,c3]) rfl rfl
  .rw[Yz om,Yz om];exact⟨by simp only;rw[g1],.inr (.inl ⟨c1,c2⟩)⟩
  .rw[Yz om,Yz om];exact⟨by simp only;rw[g1],.inr (.inr ⟨j,k,c0,c1,c2⟩)⟩
 | [],b::ks',_,_,h,_,_,_,_=>h.elim
 | a::ks,[],_,_,h,_,_,_,_=>h.elim
def Ve(A B:List Nd)(r r':Ba):Prop:=Yb A B r.val r'.val r.used r'.used r.stop r'.stop
theorem DP{A B:List Nd}(hA:VT A)(p:List Int):∀f o n a0 f',BC A B o n->o<f->n<f'->(∀(i:Nat) (x:Nd),B[i]? = some x->∀k∈x.kids,0<=k/\k.toNat<i)->Ve A B (bG A p f o a0) (bG B p f' n a0)
 | 0,_,_,_,_,_,h,_,_=>absurd h om
 | _,_,_,_,0,_,_,h,_=>absurd h om
 | f+1,o,n,a0,f'+1,hs,hf,hf',hB=>by
  have hs0:=hs;cases hs with
  | mk _ _ x y hx hy he hl hp hk=>
   have gA:=hA.node hx;have kA:=λk hk=>eP hA hx (k:=k) hk
   have kB:=hB n y hy;have hb:=λh4=>hA.bind hx h4
   have hrec:∀(k:Nat) (q:Nat),k<x.kids.length->Ve A B (bG A p f (bF x k) q) (bG B p f' (bF y k) q):=λk q hkl=>by
    have ha:x.kids[k]? = some x.kids[k]:=Yw hkl;have hb':y.kids[k]? = some (y.kids[k]'om):=Yw om;rw[rF ha,rF hb'];have q1:=kA _ (Y2 ha);have q2:=kB _ (Y2 hb');exact DP hA p f _ _ q f' (hk k _ _ ha hb') om om hB
   have ek:y.kind=x.kind:=by rw[he]
   have ev:y.value=x.value:=by rw[he]
   have en:y.name=x.name:=by rw[he]
   have B6:y.values=x.values:=by rw[he]
   have elo:y.lo=x.lo:=by rw[he]
   have eo:fA y=fA x:=by unfold fA;rw[ek,hl,he]
   unfold bG;rw[eA hx,eA hy];rw[ek,ev,B6,elo,eo];split
   .exact⟨rfl,.inl ⟨rfl,rfl,rfl⟩⟩
   split
   .have hR:S6 (λa b=>BC A B a.toNat b.toNat/\a.toNat<o/\b.toNat<n) x.kids y.kids:=LY hl λk a b ha hb'=>⟨hk k a b ha hb',(kA a (Y2 ha)).2,(kB b (Y2 hb')).2⟩
    obtain⟨g1,g2⟩:=Fz (A:=A) (B:=B) (rd:=λk q=>bG A p f k q) (rd':=λk q=>bG B p f' k q) (a0:=a0) (R:=λa b=>BC A B a.toNat b.toNat/\a.toNat<o/\b.toNat<n)
     (λa b q h=>DP hA p f _ _ q f' h.1 om om hB) x.kids y.kids ⟨0,[],[],-1⟩ ⟨0,[],[],-1⟩ hR rfl rfl rfl rfl
    refine⟨g1, ?_⟩;unfold I9;simp only;rcases g2 with⟨c1,c2,c3⟩|c|c
    .exact .inl ⟨c1,c2,by rw[Y4 c1,Y4 c2,c3,en]⟩
    .exact .inr (.inl c)
    .exact .inr (.inr c)
   split
   .rename_i h4;obtain⟨q1,q2,q3,q4⟩:=hb h4;have r0:=hrec 0 a0 om;have e0:((0:Nat):Int)=0:=rfl;rw[e0] at r0;obtain⟨g1,g2⟩:=r0;have hkI:=hA.kidI hx (c:=0) om om;have hm:=mH hA p f (bF x 0) a0 om (by have:=(Y0.1 hx).1;omega);generalize bG A p f (bF x 0) a0=r at *;generalize bG B p f' (bF y 0) a0=r' at *;rcases g2 with⟨c1,c2,c3⟩|⟨c1,c2⟩|⟨j,k,c0,c1,c2⟩
    .rw[Y4 c1,Y4 c2,<-c3,<-g1];have hv:=(hm c1).2 q3;rw[q4] at hv;obtain⟨i,hi⟩:=ZV hv;rw[C4 gA.srt hi];have hil:=(Y0.1 hi).1;obtain⟨g3,g4⟩:=hrec (i+1) (a0+r.used) om;exact⟨by simp only;rw[g3],g4⟩
    .rw[Yz om,Yz om];exact⟨g1,.inr (.inl ⟨c1,c2⟩)⟩
    .rw[Yz om,Yz om];exact⟨g1,.inr (.inr ⟨j,k,c0,c1,c2⟩)⟩
   split
   .exact⟨rfl,.inr (.inr ⟨o,n,hs0,rfl,rfl⟩)⟩
   split
   .exact⟨rfl,.inr (.inl ⟨rfl,rfl⟩)⟩
   split
   .exact⟨rfl,.inl ⟨rfl,rfl,rfl⟩⟩
   .rename_i h0 h3 h4 hlen hrng h1;have ho:fA x=x.kids.length:=by unfold fA;rw[Yz h1]
    rw[ho] at hrng;have hc0:p.getD a0 0=((p.getD a0 0).toNat:Int):=om;have r0:=hrec (p.getD a0 0).toNat (a0+1) om;rw[<-hc0] at r0;obtain⟨g1,g2⟩:=r0;exact⟨by simp only;rw[g1],g2⟩
def Ea(A:List Nd)(p:List Int):Ba:=bG A p A.length (A.length-1) 0
def Gu(A:List Nd)(raw:List Int):Ft:=dW A raw A.length (A.length-1) 0
theorem Ov{B:List Nd}(h:VT B)(raw:List Int):(Gu B raw).cs.length<=256:=by
 have hp:=h.pos;have hx:=cG (A:=B) (i:=B.length-1) om;have h1:=GT h raw (f:=B.length) (i:=B.length-1) (q:=0) om om;have h2:=h.len256 hx;unfold Gu;omega
theorem GI{B:List Nd}(h:VT B){raw out:List Int}(hi:out=(Gu B raw).cs.take out.length) :
  (out.length=(Gu B raw).cs.length->(Ea B out).stop = -1/\(Ea B out).used=out.length/\(Ea B out).val=(Gu B raw).val)/\(out.length<(Gu B raw).cs.length->∃n,n<B.length/\(Ea B out).stop=(n:Int)/\(Gu B raw).cs[out.length]? = some (dK raw (aD B n) out.length)):=by
 have hp:=h.pos;refine⟨λhl=>?_,λhl=>?_⟩
 .have e:out=(Gu B raw).cs:=by rw[hl,ZJ] at hi;exact hi
  obtain⟨g1,g2,g3⟩:=MA h raw out B.length (B.length-1) 0 [] om om (by rw[aAi,ZU];exact e);exact⟨g3,by unfold Ea;rw[g2];exact hl.symm,g1⟩
 .obtain⟨n,h1,h2,h3⟩:=Td h raw out B.length (B.length-1) 0 out.length om om hl (by rw[ZU];exact hi);rw[ZP] at h3;exact⟨n,h1,h2,h3⟩
theorem VT.nodesOK{A:List Nd}(h:VT A):wS A:=λi x hx=>by
 have g:=h.node hx;exact⟨λe=>(g.opt.ch e).2,λe=>g.node.bind e,g.srt⟩
theorem VT.usable{A:List Nd}(h:VT A):dU A=true:=by unfold dU;simp[h.pos,h.val]
theorem FG{A B:List Nd}(hA:VT A)(hB:VT B)(h:eC A B=0):eC B A=0:=
 Hu hB.nodesOK (Hy hA hB h).symm hB.usable hA.usable
theorem Ej{A:List Nd}(h:VT A)(p:List Int):∀f i a0,i<A.length->(bG A p f i a0).stop = -1\/(bG A p f i a0).stop = -2\/∃n:Nat,(bG A p f i a0).stop=(n:Int)/\n<A.length/\((aD A n).kind=1\/(aD A n).kind=2)
 | 0,i,a0,hi=>.inr (.inl rfl)
 | f+1,i,a0,hi=>by
  have hx:=cG hi;have hN:=(h.node hx).node.kind;have all:∀k q,k<A.length->(bG A p f k q).stop = -1\/(bG A p f k q).stop = -2\/∃n:Nat,(bG A p f k q).stop=(n:Int)/\n<A.length/\((aD A n).kind=1\/(aD A n).kind=2):=λk q hk=>Ej h p f k q hk
  have kid:∀c,bF (aD A i) c<A.length:=λc=>by
   unfold bF;rcases ZG c.toNat (aD A i).kids.length with hc|hc
   .rw[Yx,Yw hc];have:=eP h hx (ZW hc);simp only[aAt];omega
   .rw[Yx,ZH hc];have:=h.pos;simp only[Option.getD_none];omega
  unfold bG;split
  .exact .inl rfl
  split
  .have hk:=λk (hk:k∈(aD A i).kids)=>eP h hx hk
   unfold I9;simp only;generalize (aD A i).kids=ks at hk;have key:∀(ks:List Int) (s:Pt),(∀k∈ks,0<=k/\k.toNat<i)->s.stop = -1->(bO (λk q=>bG A p f k q) a0 ks s).stop = -1\/(bO (λk q=>bG A p f k q) a0 ks s).stop = -2\/∃n:Nat,(bO (λk q=>bG A p f k q) a0 ks s).stop=(n:Int)/\n<A.length/\((aD A n).kind=1\/(aD A n).kind=2):=by
    intro ks
    induction ks with
    | nil=>exact λs _ h=>.inl h
    | cons k ks ih=>
     intro s hks hs;simp only[bO];split
     .exact ih _ (λq hq=>hks q (ZE _ hq)) rfl
     .exact all _ _ (by have:=hks k (ZQ ..);omega)
   exact key ks _ hk rfl
  split
  .split
   .exact all _ _ (kid _)
   .exact all _ _ (kid _)
  split
  .refine .inr (.inr ⟨i,rfl,hi, ?_⟩);rename_i h0 h3 h4 _;omega
  split
  .exact .inr (.inl rfl)
  split
  .exact .inl rfl
  .exact all _ _ (kid _)
structure X7 where
 val:bD
 ok:Bool
 rd:Rd
 parts:Nat
structure Vb where
 vals:List bD
 ok:Bool
 rd:Rd
 parts:Nat
structure Yc(x:Rd)(p:Nat)(r:X7):Prop where
 le:r.rd.1.length<=x.1.length
 ok:x.1.length<=1000000000->iG r.val
 size:r.ok=true->p+bN r.val=r.parts
 parts:p<=1024->r.parts<=1025
 good:r.ok=true->p<=1024->r.parts<=1024
structure YR(x:Rd)(p:Nat)(acc:List bD)(m:Nat)(r:Vb):Prop where
 le:r.rd.1.length<=x.1.length
 ok:x.1.length<=1000000000->yI acc->yI r.vals
 len:r.vals.length<=acc.length+m
 size:r.ok=true->p+cY r.vals=r.parts+cY acc
 parts:p<=1024->r.parts<=1025
 good:r.ok=true->p<=1024->r.parts<=1024
end Go.Ax
namespace Go.Ax
open Go
def Um(r:List Bool)(i:Nat):Bool:=r.getD i false
def Oo(A:List Nd):Prop:=∀(i:Nat) (x:Nd),A[i]? = some x->∀k∈x.kids,0<=k/\k<i
structure UX(A:List Nd)(m:Nat)(r:List Bool):Prop where
 len:r.length=A.length
 down:∀i,m<=i->i<A.length->Um r i=true->∀k∈(aD A i).kids,Um r k.toNat=true
 up:∀i,i<A.length->Um r i=true->i+1=A.length\/∃j,m<=j/\i<j/\j<A.length/\Um r j=true/\(i:Int)∈(aD A j).kids
 root:m<A.length->Um r (A.length-1)=true
def RL(p:List Int)(k:Int):Int:=p.getD k.toNat 0
def Pg(x:Nd)(p:List Int):Nd:={ x with kids:=x.kids.map (RL p) }
structure WR(A:List Nd)(r:List Bool)(i:Nat)(s:List Nd × List Int):Prop where
 plen:s.2.length=A.length
 tlen:s.1.length<=i
 img:∀j,j<i->j<A.length->Um r j=true->∃q:Nat,s.2[j]? = some (q:Int)/\s.1[q]? = some (Pg (aD A j) s.2)
 kids:Oo s.1
 src:∀q,q<s.1.length->∃j,j<i/\j<A.length/\Um r j=true/\s.2[j]? = some (q:Int)
 ok:∀y∈s.1,sU y
end Go.Ax
namespace Go.Ax
open Go
section
variable {A:List Nd} (hA:Oo A) {r:List Bool} (hr:UX A 0 r) {T:List Nd} {p:List Int} (h:WR A r A.length (T,p))
include hA hr h
end
end Go.Ax
namespace Go.Ax
open Go
end Go.Ax
namespace Go.Ax
open Go
end Go.Ax
namespace Go.Ax
open Go
structure XS(x:Nd):Prop where
 ok:sU x
 val:bN x.value<=1024
 vals:∀v∈x.values,bN v<=1024
 vlen:x.values.length<=1024
 klen:x.kids.length<=1025
 llen:x.labels.length<=256
 wlen:x.weights.length<=256
 lab:∀s∈x.labels,s∈yS
theorem BV:∀{l:List bD},fD l=0->∀v∈l,gK v=0
 | [],_,v,hv=>by simp at hv
 | a::r,h,v,hv=>by
  simp only[fD] at h;split at h
  .rename_i h1;exact absurd h h1
  .rename_i h1;rcases Y6.1 hv with rfl|hv
   .exact Decidable.not_not.1 h1
   .exact BV h v hv
theorem Br{v:bD}(h:gK v=0):bN v<=1024:=by
 unfold gK at h;split at h
 .omega
 .split at h
  .omega
  .rename_i h1;rw[not_or] at h1;omega
theorem Kx{v:bD}(h:CZ v=true):bN v<=1024:=by
 obtain⟨k,n,s,ks⟩:=v;simp only[CZ,Y1,ZR] at h;have:ks=[]:=Zu.1 h.2;subst this;simp[bN,cY]
theorem MY{ns:List Nd}(h:iS ns):∀x∈ns,XS x:=by
 intro x hx;obtain⟨j,hj⟩:=ZV hx;have hn:=nK ns h.valid j x hj;have hN:=nL hn;have hg:=h.gen x hx;have hf:=iU hn;have hfe:fD (p6 x)=0:=by
  unfold gG at hn;rw[Yz (by rw[hf];simp)] at hn;split at hn
  .rename_i h1;exact absurd hn h1
  .rename_i h1;exact Decidable.not_not.1 h1
 have hv:=BV hfe;unfold dL at hf;simp only[Y1] at hf;obtain⟨⟨⟨⟨⟨⟨hu,hkd⟩,hki⟩,h2⟩,h3⟩,h4⟩,h5⟩:=hf;unfold jF at hu;simp only[Y1,Z0,ZR] at hu h2 h4;have hul:=hu.1.1.2;have hz:=hu.1.1.1.1.1;have hvl:=hg.vals;refine⟨hg.ok, ?_,λv hm=>Br (hv v (by unfold p6;exact Z9 _ hm)),hvl, ?_, ?_, ?_,hg.labels⟩
 .rcases hz with e|e
  .exact Br (hv x.value (by unfold p6;rw[Y4 e];simp))
  .exact Kx e
 .by_cases e:x.kind=4
  .have:=hN.bind e;omega
  .have:=hN.klen e;omega
 .rcases hul with e|e
  .rcases h2 with h2|h2
   .exact absurd e h2
   .omega
  .omega
 .rcases hul with e|e
  .rcases h2 with h2|h2
   .exact absurd e h2
   .omega
  .omega
structure Ya(LB:List (List UInt8))(x:Nd):Prop where
 ok:sU x
 val:bN x.value<=1048576
 vals:∀v∈x.values,bN v<=1048576
 vlen:x.values.length<=2000
 klen:x.kids.length<=2000
 llen:x.labels.length<=1000
 lab:∀s∈x.labels,s∈LB
variable {LB:List (List UInt8)}
theorem Rn(hLB:∀s∈yS,s∈LB){x:Nd}(h:XS x):Ya LB x:=
 ⟨h.ok,by have:=h.val;omega,λv hv=>by have:=h.vals v hv;omega,by have:=h.vlen;omega,by have:=h.klen;omega,by have:=h.llen;omega,λs hs=>hLB s (h.lab s hs)⟩
theorem NM{ns:List Nd}(hLB:∀s∈LB,s.length<=19)(h:∀x∈ns,Ya LB x)(hl:ns.length<=1000):eG ns:=
 ⟨λx hx=>(h x hx).ok,λx hx=>(h x hx).val,λx hx=>(h x hx).vals,λx hx=>(h x hx).vlen,λx hx=>(h x hx).klen,λx hx=>(h x hx).llen,λx hx s hs=>by have:=hLB s ((h x hx).lab s hs);omega,hl⟩
end Go.Ax
namespace Go.Ax
open Go
section
variable {A:List Nd} (hv:cH [] A=0) (hok:∀x∈A,sU x) (hlen:A.length<=4096)
include hv hok hlen
end
end Go.Ax
namespace Go.Ax
open Go
theorem XD{A:List Nd}(h:∀x∈A,MU x)(j:Nat):gN (aD A j)<=3:=by
 unfold aD;rw[Yx];cases e:A[j]? with
 | none=>simp[gN]
 | some x=>
  have hg:=h x (Y2 e);simp only[aAt];unfold gN;split
  .rename_i h3;have:=hg.seq h3;omega
  .omega
theorem OV{A:List Nd}{i:Nat}(h:∀j,j≠i->gN (aD A j)<=3)(h4:gN (aD A i)<=4):∀n,(n<i->HP A n<=3 ^ n)/\3*HP A n<=4*3 ^ n
 | 0=>by simp[HP]
 | n+1=>by
  obtain⟨a,b⟩:=OV h h4 n;have hp:3 ^ (n+1)=3*3 ^ n:=by rw[Nat.pow_succ,ZX]
  rw[HP,hp];by_cases e:n+1=i
  .rw[e];have a:=a om;have:=Z5 a h4;exact⟨λq=>absurd q (aBc _),om⟩
  .have h3:=h (n+1) e;have:=Z5 (Y8 (HP A n)) h3;exact⟨λq=>by have:=a om;omega,om⟩
theorem Ro{n:Nat}(h:n<=13):4*3 ^ n<=6377292:=by
 have:(3:Nat) ^ n<=3 ^ 13:=aAd om h;omega
theorem UB{A:List Nd}(h:VT A)(hH:3*HP A (A.length-1)<=6377292):∀p f i a0,i<f->i<A.length->(bG A p f i a0).spans.length<=3200000:=λp f i a0 hf hi=>by
 have h1:=Fy h p f i a0 hf hi;have h2:=wC A (k:=i) (n:=A.length-1) om;omega
theorem Wm{A:List Nd}(h:∀j,gN (aD A j)<=3)(hl:A.length<=14):3*HP A (A.length-1)<=6377292:=by
 have h1:=(OV (A:=A) (i:=0) (λj _=>h j) (by have:=h 0;omega) (A.length-1)).2;have h2:=Ro (n:=A.length-1) om;omega
structure Rg(A:List Nd):Prop where
 vt:VT A
 cnt:∀p f i a0,i<f->i<A.length->(bG A p f i a0).spans.length<=4294967296
theorem UN{A:List Nd}(h:VT A)(hg:∀j,gN (aD A j)<=3)(hl:A.length<=14):Rg A:=
 ⟨h,λp f i a0 h1 h2=>by have:=UB h (Wm hg hl) p f i a0 h1 h2;omega⟩
theorem Mh{B:List Nd}(h:VT B){out:List Int}{n:Nat}(hs:(Ea B out).stop=(n:Int)):n<B.length/\((aD B n).kind=1\/(aD B n).kind=2):=by
 have hp:=h.pos;rcases Ej h out B.length (B.length-1) 0 om with h1|h1|⟨m,h1,h2,h3⟩
 .have:(Ea B out).stop = -1:=h1;omega
 .have:(Ea B out).stop = -2:=h1;omega
 .have e:(Ea B out).stop=(m:Int):=h1;have:m=n:=om;subst this;exact⟨h2,h3⟩
end Go.Ax
namespace Go.Ax
open Go
structure Jj(b:Nat)(a:Fr):Prop where
 can:Can a
 pos:0<a.p
 le:a.p<=(a.q:Int)
 lt:a.q<=b
theorem J9{p q:Int}{b:Nat}(hp:0<p)(hq:p<=q)(hb:q<=(b:Int)):Jj b (yB p q):=by
 have hc:=LD (p:=p) (q:=q) om;have hg:0<Nat.gcd p.natAbs q.natAbs:=Nat.gcd_pos_of_pos_left _ om;obtain⟨x,hx⟩:=aAI p.natAbs q.natAbs;obtain⟨y,hy⟩:=aBl p.natAbs q.natAbs;obtain⟨g,hgd⟩:∃g,g=Nat.gcd p.natAbs q.natAbs:=⟨_,rfl⟩
 rw[<-hgd] at hg hx hy;have hp':p=((g*x:Nat):Int):=om;have hq':q=((g*y:Nat):Int):=om;have e:yB p q=⟨(x:Int),y⟩:=by
  unfold yB;rw[<-hgd,Yz om,hy,aAB _ hg,hp',Int.natCast_mul,aAJ _ om]
 rw[e] at hc |-;have hxp:0<x:=by
  rcases ZC x with h|h
  .subst h;simp at hp';omega
  .exact h
 have hxy:x<=y:=by
  have:g*x<=g*y:=om;exact Nat.le_of_mul_le_mul_left this hg
 have hyb:y<=g*y:=Nat.le_mul_of_pos_left _ hg;exact⟨hc,by simp only;omega,by simp only;omega,by simp only;omega⟩
theorem Qc{a b:Fr}{m n:Nat}(ha:Jj m a)(hb:Jj n b)(hmn:m*n<zS):tW a b=(yB (a.p*b.p) (a.q*b.q),0)/\Jj (m*n) (tW a b).1:=by
 have hq:(a.q:Int)*b.q<=((m*n:Nat):Int):=by
  have:=Z5 ha.lt hb.lt;rw[<-Int.natCast_mul];omega
 have h:=J9 (p:=a.p*b.p) (q:=(a.q:Int)*b.q) (Int.mul_pos ha.pos hb.pos) (Int.mul_le_mul ha.le hb.le (Int.le_of_lt hb.pos) om) hq;have e:tW a b=(yB (a.p*b.p) (a.q*b.q),0):=by
  unfold tW Sy;have h1:iR (yB (a.p*b.p) (a.q*b.q)).p=true:=by
   unfold iR;have:=h.pos;have:=h.le;have:=h.lt;exact Y7 om
  have h2:iR ((yB (a.p*b.p) (a.q*b.q)).q:Int)=true:=by
   unfold iR;have:=h.lt;exact Y7 om
  rw[Y4 ⟨h1,h2⟩]
 rw[e];exact⟨rfl,h⟩
def HT(l:List Fr):Fr:=l.foldl (λa b=>(tW a b).1) ⟨1,1⟩
theorem JD(l:List Fr)(f:Fr):HT (l++[f])=(tW (HT l) f).1:=by unfold HT;rw[Zz];rfl
theorem U9:Jj 1 ⟨1,1⟩:=⟨⟨by decide,by decide⟩,by decide,by decide,by decide⟩
theorem Ar{k:Nat}(hk:k<=257):(2 ^ 40) ^ k<zS:=by
 have a:∀e,40*k<e->2 ^ (40*k)<2 ^ e:=λe h=>Nat.pow_lt_pow_right (by decide) h
 rw[Ld,<-Nat.pow_mul];exact a 16384 om
theorem Gt(l:List Fr)(hl:∀f∈l,Jj (2 ^ 40) f):∀k,k<=l.length->k<=256->Jj ((2 ^ 40) ^ k) (HT (l.take k))
 | 0,_,_=>by simpa[HT] using U9
 | k+1,h,hk=>by
  have ih:=Gt l hl k om om;have hlt:k<l.length:=om;rw[List.take_succ_eq_append_getElem hlt,JD,Nat.pow_succ];exact(Qc ih (hl _ (ZW hlt)) (by rw[<-Nat.pow_succ];exact Ar om)).2
theorem N8(l:List Fr)(hl:∀f∈l,Jj (2 ^ 40) f){k:Nat}(h:k<l.length)(hk:k<256):tW (HT (l.take k)) l[k]=(HT (l.take (k+1)),0):=by
 have ih:=Gt l hl k om om;have h1:=(Qc ih (hl _ (ZW h)) (by rw[<-Nat.pow_succ];exact Ar om)).1;have e:HT (l.take (k+1))=(tW (HT (l.take k)) l[k]).1:=by rw[List.take_succ_eq_append_getElem h,JD]
 rw[e,h1]
def HR(x:Nd)(c:Int):Fr:=if x.kind=2 then yB (x.weights.getD c.toNat 0) (Dw x.weights) else yB 1 (x.hi-x.lo+1)
def pZ(A:List Nd)(p:List Int):List Fr:=(List.range p.length).map λi=>HR (aD A ((Ea A (p.take i)).stop.toNat)) (p.getD i 0)
theorem qP(A:List Nd)(p:List Int):(pZ A p).length=p.length:=by simp[pZ]
theorem Jh{A:List Nd}{p:List Int}{i:Nat}(h:i<(pZ A p).length):(pZ A p)[i]=HR (aD A ((Ea A (p.take i)).stop.toNat)) (p.getD i 0):=by simp[pZ]
structure xK(A:List Nd)(p:List Int):Prop where
 len:p.length<=256
 i64:∀x∈p,i64 x
 stop:(Ea A p).stop = -1
 used:(Ea A p).used=p.length
 step:∀i,i<p.length->∃n:Nat,n<A.length/\(Ea A (p.take i)).stop=(n:Int)/\((aD A n).kind=1\/(aD A n).kind=2)/\0<=p.getD i 0/\p.getD i 0<fA (aD A n)
theorem Gy:∀(l:List Int) (s:Int) (k:Nat),(∀w∈l,1<=w/\w<=1000)->k<l.length->s+l.getD k 0<=l.foldl (· + ·) s
 | [],s,k,_,h=>by simp at h
 | a::l,s,0,h,_=>by
  have h1:=(Aj l (s+a) λw hw=>h w (ZE _ hw)).1;simp only[ZY,List.getD_cons_zero];omega
 | a::l,s,k+1,h,hk=>by
  have h1:=Gy l (s+a) k (λw hw=>h w (ZE _ hw)) (su hk);have h2:=(h a (ZQ ..)).1;simp only[ZY,List.getD_cons_succ];omega
theorem Rf{A:List Nd}(h:VT A){n:Nat}(hn:n<A.length)(hk:(aD A n).kind=1\/(aD A n).kind=2){c:Int}(h0:0<=c)(h1:c<fA (aD A n)):Jj (2 ^ 40) (HR (aD A n) c):=by
 have hx:=cG hn;have g:=h.node hx;have hw:=DB g.node.num;have hwl:=λh2=>h.wlen hx h2
 have hr:=g.opt.rng;have hkl:=g.opt.klen;generalize aD A n=x at *;unfold HR;unfold fA at h1;by_cases h2:x.kind=2
 .rw[Y4 h2];rw[Yz om] at h1;obtain⟨l1,l2⟩:=hwl h2;have hc:c.toNat<x.weights.length:=om;have h3:=Gy x.weights 0 c.toNat hw hc;have h4:=(Aj x.weights 0 hw).2;have h5:1<=x.weights.getD c.toNat 0:=by
   rw[Yx,Yw hc];exact(hw _ (ZW hc)).1
  unfold Dw;refine J9 om om ?_;rw[show (2:Nat) ^ 40=1099511627776 by decide];omega
 .rw[Yz h2];refine J9 om om ?_;rw[show (2:Nat) ^ 40=1099511627776 by decide];omega
theorem LV{A:List Nd}(h:VT A){p:List Int}(hp:xK A p):∀f∈pZ A p,Jj (2 ^ 40) f:=λf hf=>by
 obtain⟨i,hi,rfl⟩:=aBT hf;have hi':i<p.length:=by rw[qP] at hi;exact hi
 rw[Jh];obtain⟨n,h1,h2,h3,h4,h5⟩:=hp.step i hi';rw[h2,Yy];exact Rf h h1 h3 h4 h5
end Go.Ax
