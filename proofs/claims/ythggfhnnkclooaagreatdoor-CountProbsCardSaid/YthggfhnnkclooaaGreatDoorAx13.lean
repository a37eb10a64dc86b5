/- A part of the proof. -/
import Derived.Test.YthggfhnnkclooaaGreatDoorAx12
import Derived.Test.YthggfhnnkclooaaGreatDoorProg
import Derived.KernelRfl
set_option linter.unusedSectionVars false
set_option linter.unusedVariables false
set_option linter.unusedSimpArgs false
set_option maxRecDepth 1000000
set_option maxHeartbeats 16000000
namespace Go.Proofs.YthggfhnnkclooaaGreatDoor
open Go Go.Ax Go.Proofs Tryz
theorem Vw(x:Nd)(h:x.kind=1->Go.Ax.d6 x=true):aU prog [] 71 [.ip (dM x)] (.int .i64 (fK x)):=by
 have hr:x.kind=1->x.lo<=x.hi/\x.hi<x.lo+1099511627776:=λe=>⟨(cE (h e)).1,(cE (h e)).2.2.2⟩
 have ho:fK x=if x.kind=1 then x.hi-x.lo+1 else x.kids.length:=rfl
 clear h;obtain⟨kind,name,lo,hi,ws,ls,vals,kids,⟨vk,vn,vs,vks⟩⟩:=x;simp only at hr ho;generalize fK ⟨kind,name,lo,hi,ws,ls,vals,kids,.mk vk vn vs vks⟩=o at *;refine aD bI func71 rfl ?_;refine Z ?_;refine aL (λh=>?_) (λh=>?_)
 .have h1:kind=1:=su h
  obtain⟨r1,r2⟩:=hr h1;rw[Y7 h1] at ho;have hw:IntKind.i64.wrap (hi-lo)=hi-lo:=bF oq;have hw2:IntKind.i64.wrap (hi-lo+1)=o:=by rw[bF oq,ho]
  refine Rt ?_;rw[hw,hw2];exact aA nn ⟨rfl,rfl,rfl⟩
 .have h1:¬kind=1:=su h
  rw[Y3 h1] at ho;refine Z ?_;exact cN (.int (by rw[ho,aN])) ⟨rfl,rfl,rfl⟩
end Go.Proofs.YthggfhnnkclooaaGreatDoor
namespace Go.Ax
open Go
structure Cell where
 n:Nat
 p:Fr
def q7(l:List Int):Int:=l.foldl (· + ·) 0
end Go.Ax
namespace Go.Ax
open Go
theorem wH:∀(l:List Int) (s:Int),(∀w∈l,1<=w/\w<=1000)->s+l.length<=l.foldl (· + ·) s/\l.foldl (· + ·) s<=s+1000*l.length
 | [],s,_=>sq
 | a::l,s,h=>by
  obtain⟨h1,h2⟩:=wH l (s+a) λw hw=>h w (ZN _ hw)
  obtain⟨a1,a2⟩:=h a (ZX ..);rw[Zh,ZZ];constructor<;>push_cast<;>omega
theorem I4{l:List Int}(h:∀w∈l,1<=w/\w<=1000)(hl:l.length<=1000000)(k:Nat):i64 (q7 (l.take k)):=by
 obtain⟨h1,h2⟩:=wH (l.take k) 0 λw hw=>h w (Ze hw)
 have hk:(l.take k).length<=l.length:=cx
 unfold q7;exact oq
theorem yJ{x:Nd}(h:d6 x=true):∀w∈x.weights,1<=w/\w<=1000:=by
 unfold d6 at h;simp only[Y6,Z8,Zc] at h;exact h.2
end Go.Ax
namespace Go.Ax
open Go
theorem VT.wlen{A:List Nd}(h:VT A){i:Nat}{x:Nd}(hx:A[i]? = some x)(h2:x.kind=2):x.weights.length=x.kids.length/\1<=x.kids.length:=by
 have hf:=i9 (pU A h.v0 i x hx);unfold dS at hf;simp only[Y6,aAb,Zc] at hf;rcases hf.1.1.1.2 with h3|h3
 .exact absurd h2 h3
 .exact⟨h3.1.2,h3.1.1.1⟩
section
variable {A:List Nd} (h:VT A) {i:Nat} (hi:i<A.length)
include h hi
end
section
variable {A:List Nd} (h:VT A) {i:Nat} (hi:i<A.length)
include h hi
end
end Go.Ax
namespace Go.Ax
open Go
theorem FJ{rd:Nat->Nat->x9}{a0:Nat}{g:Int->bH}:∀(ks:List Int) (s:Pt),s.stop = -1->(∀k∈ks,∀q,(rd k.toNat q).val=g k/\(rd k.toNat q).used=0/\(rd k.toNat q).stop = -1) ->
  (bQ rd a0 ks s).used=s.used/\(bQ rd a0 ks s).vals=s.vals++ks.map g/\(bQ rd a0 ks s).stop = -1
 | [],s,hs,_=>⟨rfl,by simp[bQ],hs⟩
 | k::ks,s,hs,h=>by
  obtain⟨h1,h2,h3⟩:=h k (ZX ..) (a0+s.used);simp only[bQ];rw[Y7 h3];obtain⟨g1,g2,g3⟩:=FJ (rd:=rd) (a0:=a0) (g:=g) ks ⟨s.used+(rd k.toNat (a0+s.used)).used,s.vals++[(rd k.toNat (a0+s.used)).val],s.spans++(a0,a0+s.used,a0+s.used+(rd k.toNat (a0+s.used)).used)::(rd k.toNat (a0+s.used)).spans,-1⟩ rfl λq hq=>h q (ZN _ hq)
  refine⟨by rw[g1];simp only;omega, ?_,g3⟩;rw[g2];simp only[h1];simp
section
variable {A:List Nd}
theorem C4(h:VT A)(p:List Int):∀f i a0,i<f->i<A.length->eP (bD A) i=0->(a8 A p f i a0).val=EU (dC A) i/\(a8 A p f i a0).used=0/\(a8 A p f i a0).stop = -1/\(N0 (dJ A) i=true->(a8 A p f i a0).spans=[])
 | 0,i,a0,hf,hi,h0=>om
 | f+1,i,a0,hf,hi,h0=>by
  have hx:=cS hi;have hkm:=λ(k:Int) (hk:k∈(aI A i).kids)=>fQ h hx hk
  obtain⟨l1,l2,l3,l4⟩:=h.len0 hx h0;have hbi:=λh4=>h.bind hx h4
  have hkd:=λ(j:Nat) (hj:j<(aI A i).kids.length)=>h.kid hx hj
  have hkind:=(h.node hx).node.kind;have ih:=λ(k:Nat) (a:Nat) (hk:k<i)=>C4 h p f k a om om
  rw[h.fix hx,h.pln hx];rw[h.len hx] at h0;simp only[a8];generalize aI A i=x at *;have hfx:y7 (bD A) (dC A) x=if x.kind=0 then x.value else if x.kind=3 then dW x.name (x.kids.map λk=>(dC A).getD k.toNat vZ) else if x.kind=4 then(dC A).getD (bO x 1) vZ else vZ:=by
   unfold y7;rw[Y3 om]
  rw[hfx];by_cases k0:x.kind=0
  .rw[Y7 k0,Y7 k0];exact⟨rfl,rfl,rfl,λ_=>rfl⟩
  rw[Y3 k0,Y3 k0];by_cases k3:x.kind=3
  .rw[Y7 k3,Y7 k3];obtain⟨g1,g2,g3⟩:=FJ (rd:=λk q=>a8 A p f k q) (a0:=a0) (g:=λk=>(dC A).getD k.toNat vZ) x.kids ⟨0,[],[],-1⟩ rfl λk hk q=>by
    have:=hkm k hk;obtain⟨e1,e2,e3,-⟩:=ih k.toNat q this.2 (by rw[show ((k.toNat:Nat):Int)=k by omega];exact l3 k3 k hk);exact⟨e1,e2,e3⟩
   simp only[GR];rw[Y7 g3,g2,g1];refine⟨rfl,rfl,g3,λhp=>?_⟩;unfold Ac at hp;simp only[Y6,aAb,Zc] at hp;have hk:x.kids=[]:=by
    rcases hp.1.2 with e|e
    .exact absurd k3 e
    .exact ZH e
   rw[hk];rfl
  rw[Y3 k3,Y3 k3];have k4:x.kind=4:=om;rw[Y7 k4,Y7 k4];obtain⟨b1,b2,b3,b4⟩:=hbi k4;obtain⟨m1,m2⟩:=l4 k4;have e0:bO x 0<i/\x.kids[0]? = some (bO x 0:Int):=hkd 0 om;have e1:bO x 1<i/\x.kids[1]? = some (bO x 1:Int):=hkd 1 om;obtain⟨c1,c2,c3,c4⟩:=ih _ a0 e0.1 m1;have hl:=Px h _ (show bO x 0<A.length by omega) m1;rw[hl] at b4;rw[Y7 c3,<-b4,c1];have hfd:(eZ [EU (dC A) (bO x 0)] (EU (dC A) (bO x 0))).1=0:=by simp[eZ,A7]
  simp only[hfd,c2];have hz1:eP (bD A) (bO x 1)=0:=m2 _ (by
   refine Y5 (i:=0) ?_;rw[Zd];exact e1.2)
  obtain⟨d1,d2,d3,d4⟩:=ih (bO x 1) (a0+0) e1.1 hz1;refine⟨d1, ?_,d3,λhp=>?_⟩
  .show 0+(a8 A p f (bO x 1) (a0+0)).used=0
   rw[d2]
  .unfold Ac at hp;simp only[Y6,Z8] at hp;have q0:=hp.2 _ (Y5 e0.2);have q1:=hp.2 _ (Y5 e1.2);rw[Y1] at q0 q1
   show (a8 A p f (bO x 0) a0).spans++(a8 A p f (bO x 1) (a0+0)).spans=[]
   rw[c4 q0,d4 q1];rfl
theorem Er{rd:Nat->Nat->x9}{a0:Nat}{b:List Int}:∀(ks:List Int) (s:Pt),(∀k∈ks,∀q,((rd k.toNat q).used:Int)<=eP b k)->(∀k,0<=eP b k)->((bQ rd a0 ks s).used:Int)<=s.used+gB b ks
 | [],s,_,_=>by simp[bQ,gB]
 | k::ks,s,h,hb=>by
  have h1:=h k (ZX ..) (a0+s.used);have hs:gB b (k::ks)=eP b k+gB b ks:=by
   unfold gB;rw[Zh,pD];unfold gB;omega
  have h0:∀l:List Int,0<=gB b l:=by
   intro l
   induction l with
   | nil=>simp[gB]
   | cons q r ih=>
    unfold gB at ih |-;rw[Zh,pD];unfold gB;have:=hb q;omega
  have h2:=h0 ks;rw[hs];simp only[bQ];split
  .have:=Er (rd:=rd) (a0:=a0) (b:=b) ks ⟨s.used+(rd k.toNat (a0+s.used)).used,s.vals++[(rd k.toNat (a0+s.used)).val],s.spans++(a0,a0+s.used,a0+s.used+(rd k.toNat (a0+s.used)).used)::(rd k.toNat (a0+s.used)).spans,-1⟩ (λq hq=>h q (ZN _ hq)) hb;simp only at this;omega
  .simp only;omega
theorem IE(h:VT A)(p:List Int):∀f i a0,i<f->i<A.length->((a8 A p f i a0).used:Int)<=eP (bD A) i
 | 0,i,a0,hf,hi=>om
 | f+1,i,a0,hf,hi=>by
  have hx:=cS hi;have hkm:=λ(k:Int) (hk:k∈(aI A i).kids)=>fQ h hx hk
  have hbi:=λh4=>h.bind hx h4
  have hkI:=λ(c:Int) (h0:0<=c) (h1:c<(aI A i).kids.length)=>h.kidI hx h0 h1
  have hkind:=(h.node hx).node.kind;have ih:=λ(k:Nat) (a:Nat) (hk:k<i)=>IE h p f k a om om
  have ihm:=λ(k:Nat) (a:Nat) (hk:k<i)=>mA h p f k a om om
  have hsrt:=(h.node hx).srt;have hb:=λk=>(h.lens0 k).1
  rw[h.len hx];simp only[a8];generalize aI A i=x at *;have hm0:=(iK (b:=bD A) (M:=1024) om (jW A h.v0).1 (eT x)).1;unfold f8;by_cases k0:x.kind=0
  .rw[Y7 k0,Y7 k0];exact Int.le_refl _
  rw[Y3 k0,Y3 k0];by_cases k3:x.kind=3
  .rw[Y7 k3,Y3 (show ¬x.kind=1 by omega),Y7 k3];have:=Er (rd:=λk q=>a8 A p f k q) (a0:=a0) (b:=bD A) x.kids ⟨0,[],[],-1⟩ (λk hk q=>by
    have:=hkm k hk;have e:=ih k.toNat q this.2
    rwa [show ((k.toNat:Nat):Int)=k by omega] at e) hb
   simp only at this
   show ((bQ _ a0 x.kids ⟨0,[],[],-1⟩).used:Int)<=_
   omega
  rw[Y3 k3];by_cases k4:x.kind=4
  .obtain⟨b1,b2,b3,b4⟩:=hbi k4;rw[Y7 k4,Y3 (show ¬x.kind=1 by omega),Y3 k3,Y3 (show ¬x.kind=2 by omega)];obtain⟨c1,c2,c3⟩:=hkI 0 om om;have hk:(x.kids.getD 0 0)=(bO x 0:Int):=by
    have h2:x.kids[0]? = some (bO x 0:Int):=c3;rw[Y0,h2];rfl
   rw[hk];have e1:=ih _ a0 c1;split
   .rename_i hst;obtain⟨-,m1⟩:=ihm _ a0 c1 hst;have m1:=m1 b3;rw[b4] at m1;obtain⟨q,fq,q1,q2⟩:=lP hsrt m1;rw[fq];simp only;obtain⟨d1,d2,d3⟩:=hkI ((q+1:Nat):Int) om om;have e2:=ih _ (a0+(a8 A p f (bO x 0) a0).used) d1;have ha:(bO x ((q+1:Nat):Int):Int)∈eT x:=by
     unfold eT;rw[Y3 om];rw[Y1] at d3;refine Y5 (i:=q) ?_;rw[Zd,aBv];exact d3
    have e3:=(pF (ss:=bD A) (eT x) 0 _ ha).1;have e3:eP (bD A) (bO x ((q+1:Nat):Int))<=c9 (bD A) (eT x):=e3;omega
   .omega
  rw[Y3 k4];have hl1:∀u:Int,u<=1+c9 (bD A) (eT x)->(x.kind=1->u<=1)->u<=(if x.kind=1 then 1 else if x.kind=2 then 1+c9 (bD A) (eT x) else eP (bD A) (x.kids.getD 0 0)+c9 (bD A) (eT x)):=λu h1 h2=>by
   by_cases k1:x.kind=1
   .rw[Y7 k1];exact h2 k1
   .rw[Y3 k1,Y7 om];exact h1
  split
  .exact hl1 ((0:Nat):Int) om (λ_=>om)
  rename_i hp;split
  .exact hl1 ((0:Nat):Int) om (λ_=>om)
  rename_i hc;rw[not_or] at hc;by_cases k1:x.kind=1
  .rw[Y7 k1];exact hl1 ((1:Nat):Int) om (λ_=>om)
  .rw[Y3 k1];have ho:fK x=x.kids.length:=by unfold fK;rw[Y3 k1]
   obtain⟨d1,d2,d3⟩:=hkI (p.getD a0 0) om om;have e2:=ih _ (a0+1) d1;have ha:(bO x (p.getD a0 0):Int)∈eT x:=by unfold eT;rw[Y7 om];exact d2
   have e3:=(pF (ss:=bD A) (eT x) 0 _ ha).1;have e3:eP (bD A) (bO x (p.getD a0 0))<=c9 (bD A) (eT x):=e3;exact hl1 (((a8 A p f (bO x (p.getD a0 0)) (a0+1)).used+1:Nat):Int) om (λe=>absurd e k1)
end
end Go.Ax
namespace Go.Ax
open Go
def dH(raw:List Int)(x:Nd)(q:Nat):Int:=if q<raw.length then max 0 (min (raw.getD q 0) (fK x-1)) else 0
structure Ft where
 cs:List Int
 val:bH
def d7(ft:Nat->Nat->Ft)(q:Nat):List Int->List Int × List bH->List Int × List bH
 | [],s=>s
 | k::ks,s=>d7 ft q ks (s.1++(ft k.toNat (q+s.1.length)).cs,s.2++[(ft k.toNat (q+s.1.length)).val])
def dV(A:List Nd)(raw:List Int):Nat->Nat->Nat->Ft
 | 0,_,_=>⟨[],vZ⟩
 | f+1,i,q=>
  if (aI A i).kind=0 then⟨[],(aI A i).value⟩
  else if (aI A i).kind=3 then⟨(d7 (λk q=>dV A raw f k q) q (aI A i).kids ([],[])).1,dW (aI A i).name (d7 (λk q=>dV A raw f k q) q (aI A i).kids ([],[])).2⟩
  else if (aI A i).kind=4 then
   ⟨(dV A raw f (bO (aI A i) 0) q).cs++(dV A raw f (bO (aI A i) ((eZ (aI A i).values (dV A raw f (bO (aI A i) 0) q).val).1+1:Nat)) (q+(dV A raw f (bO (aI A i) 0) q).cs.length)).cs,
    (dV A raw f (bO (aI A i) ((eZ (aI A i).values (dV A raw f (bO (aI A i) 0) q).val).1+1:Nat)) (q+(dV A raw f (bO (aI A i) 0) q).cs.length)).val⟩
  else if (aI A i).kind=1 then⟨[dH raw (aI A i) q],.mk 0 ((aI A i).lo+dH raw (aI A i) q) [] []⟩
  else⟨dH raw (aI A i) q::(dV A raw f (bO (aI A i) (dH raw (aI A i) q)) (q+1)).cs,(dV A raw f (bO (aI A i) (dH raw (aI A i) q)) (q+1)).val⟩
theorem BA{raw:List Int}{x:Nd}{q:Nat}(h:1<=fK x):0<=dH raw x q/\dH raw x q<fK x:=by
 unfold dH;split<;>omega
theorem BG{p r:List Int}{q:Nat}{c:Int}(h:p.drop q=c::r):q<p.length/\p.getD q 0=c/\p.drop (q+1)=r:=by
 have h1:q<p.length:=by
  have:=congrArg List.length h;simp at this;omega
 rw[List.drop_eq_getElem_cons h1] at h;obtain⟨e1,e2⟩:=List.cons.inj h;refine⟨h1, ?_,e2⟩;rw[Y0,Yz h1,e1];rfl
theorem AP{p a r:List Int}{q:Nat}(h:p.drop q=a++r):p.drop (q+a.length)=r:=by
 have:=congrArg (List.drop a.length) h;rw[List.drop_drop,List.drop_left] at this;exact this
theorem rX{ft:Nat->Nat->Ft}{q:Nat}:∀(ks:List Int) (s:List Int × List bH),∃m,(d7 ft q ks s).1=s.1++m
 | [],s=>⟨[],by simp[d7]⟩
 | k::ks,s=>by
  obtain⟨m,hm⟩:=rX (ft:=ft) (q:=q) ks (s.1++(ft k.toNat (q+s.1.length)).cs,s.2++[(ft k.toNat (q+s.1.length)).val]);exact⟨(ft k.toNat (q+s.1.length)).cs++m,by rw[d7,hm,List.append_assoc]⟩
structure As(r:x9)(f:Ft):Prop where
 val:r.val=f.val
 used:r.used=f.cs.length
 stop:r.stop = -1
theorem Oa{ft:Nat->Nat->Ft}{rd:Nat->Nat->x9}{p:List Int}{q:Nat}{post:List Int}:∀(ks:List Int) (s:List Int × List bH) (pt:Pt) (m:List Int),(∀k∈ks,∀q post,p.drop q=(ft k.toNat q).cs++post->As (rd k.toNat q) (ft k.toNat q)) ->
  pt.used=s.1.length->pt.vals=s.2->pt.stop = -1->(d7 ft q ks s).1=s.1++m->p.drop (q+s.1.length)=m++post ->
  (bQ rd q ks pt).used=(d7 ft q ks s).1.length/\(bQ rd q ks pt).vals=(d7 ft q ks s).2/\(bQ rd q ks pt).stop = -1
 | [],s,pt,m,_,h1,h2,h3,_,_=>⟨h1,h2,h3⟩
 | k::ks,s,pt,m,hk,h1,h2,h3,hm,hd=>by
  rw[d7] at hm;obtain⟨m',hm'⟩:=rX (ft:=ft) (q:=q) ks (s.1++(ft k.toNat (q+s.1.length)).cs,s.2++[(ft k.toNat (q+s.1.length)).val]);have e:m=(ft k.toNat (q+s.1.length)).cs++m':=by
   rw[hm',List.append_assoc] at hm;exact(List.append_cancel_left hm).symm
  rw[e,List.append_assoc] at hd;obtain⟨a1,a2,a3⟩:=hk k (ZX ..) _ _ hd;simp only[bQ,d7];rw[h1,Y7 a3];refine Oa (post:=post) ks _ _ m' (λq hq=>hk q (ZN _ hq)) (by simp only;rw[a2,ZB]) (by simp only;rw[h2,a1]) rfl hm' ?_;simp only;rw[ZB,<-Nat.add_assoc];exact AP hd
section
variable {A:List Nd}
theorem VT.opt(h:VT A){i:Nat}{x:Nd}(hx:A[i]? = some x)(hk:x.kind=1\/x.kind=2):1<=fK x:=by
 have hg:=h.node hx;unfold fK;split
 .have:=(cE hg.node.num).1;omega
 .have:=(hg.opt.ch om).1;omega
theorem Hw(h:VT A)(raw p:List Int):∀f i q post,i<f->i<A.length->p.drop q=(dV A raw f i q).cs++post->As (a8 A p f i q) (dV A raw f i q)
 | 0,i,q,post,hf,hi,hd=>om
 | f+1,i,q,post,hf,hi,hd=>by
  have hx:=cS hi;have hkm:=λ(k:Int) (hk:k∈(aI A i).kids)=>fQ h hx hk
  have hbi:=λh4=>h.bind hx h4
  have hkI:=λ(c:Int) (h0:0<=c) (h1:c<(aI A i).kids.length)=>h.kidI hx h0 h1
  have hopt:=λhk=>h.opt hx hk
  have hkind:=(h.node hx).node.kind;have hsrt:=(h.node hx).srt;have ih:=λ(k:Nat) (q:Nat) (post:List Int) (hk:k<i)=>Hw h raw p f k q post om om
  have ihm:=λ(k:Nat) (a:Nat) (hk:k<i)=>mA h p f k a om om
  simp only[a8,dV] at hd |-;generalize aI A i=x at *;by_cases k0:x.kind=0
  .rw[Y7 k0,Y7 k0];exact C'
  rw[Y3 k0] at hd;rw[Y3 k0,Y3 k0];by_cases k3:x.kind=3
  .rw[Y7 k3] at hd;rw[Y7 k3,Y7 k3];obtain⟨m,hm⟩:=rX (ft:=λk q=>dV A raw f k q) (q:=q) x.kids ([],[]);simp only at hd;obtain⟨g1,g2,g3⟩:=Oa (ft:=λk q=>dV A raw f k q) (rd:=λk q=>a8 A p f k q) (p:=p) (q:=q) (post:=post) x.kids ([],[]) ⟨0,[],[],-1⟩ m (λk hk q' post' hd'=>ih k.toNat q' post' (hkm k hk).2 hd') rfl rfl rfl hm (by
    rw[hm] at hd;simpa using hd)
   simp only[GR];exact⟨by simp only;rw[Y7 g3,g2],g1,g3⟩
  rw[Y3 k3] at hd;rw[Y3 k3,Y3 k3];by_cases k4:x.kind=4
  .rw[Y7 k4] at hd;rw[Y7 k4,Y7 k4];obtain⟨b1,b2,b3,b4⟩:=hbi k4;obtain⟨c1,c2,c3⟩:=hkI 0 om om;simp only[List.append_assoc] at hd;obtain⟨a1,a2,a3⟩:=ih _ q _ c1 hd;obtain⟨-,m1⟩:=ihm _ q c1 a3;have m1:=m1 b3;rw[b4] at m1;obtain⟨w,fq,q1,q2⟩:=lP hsrt m1;have hd2:=AP hd;rw[Y7 a3];rw[<-a1,fq] at hd2 |-;rw[a2];simp only at hd2 |-;obtain⟨d1,d2,d3⟩:=hkI ((w+1:Nat):Int) om om;obtain⟨e1,e2,e3⟩:=ih _ _ _ d1 hd2;exact⟨e1,by simp only;rw[e2,ZB],e3⟩
  rw[Y3 k4] at hd;rw[Y3 k4,Y3 k4];have hb:=BA (raw:=raw) (q:=q) (hopt om);generalize dH raw x q=c at *;by_cases k1:x.kind=1
  .rw[Y7 k1] at hd;obtain⟨p1,p2,p3⟩:=BG hd;rw[Y3 (show ¬p.length<=q by omega),p2,Y3 (show ¬(c<0\/fK x<=c) by omega),Y7 k1,Y7 k1];exact C'
  .rw[Y3 k1] at hd;obtain⟨p1,p2,p3⟩:=BG hd;rw[Y3 (show ¬p.length<=q by omega),p2,Y3 (show ¬(c<0\/fK x<=c) by omega),Y3 k1,Y3 k1];have ho:fK x=x.kids.length:=by unfold fK;rw[Y3 k1]
   obtain⟨d1,d2,d3⟩:=hkI c om om;obtain⟨e1,e2,e3⟩:=ih _ _ _ d1 p3;exact⟨e1,by simp only;rw[e2,ZZ],e3⟩
theorem KP(h:VT A)(raw:List Int){f i q:Nat}(hf:i<f)(hi:i<A.length):As (a8 A (List.replicate q 0++(dV A raw f i q).cs) f i q) (dV A raw f i q):=
 Hw h raw _ f i q [] hf hi (by rw[aAi,aBk sq];simp)
theorem Gm(h:VT A)(raw:List Int){f i q:Nat}(hf:i<f)(hi:i<A.length):((dV A raw f i q).cs.length:Int)<=eP (bD A) i:=by
 rw[<-(KP h raw (q:=q) hf hi).used];exact IE h _ f i q hf hi
theorem Kk(h:VT A)(raw:List Int){f i q:Nat}(hf:i<f)(hi:i<A.length):jG (dV A raw f i q).val/\((dT (aS A) i).many=false->(dV A raw f i q).val∈(dT (aS A) i).vals):=by
 have ha:=KP h raw (q:=q) hf hi;rw[<-ha.val];exact mA h _ f i q hf hi ha.stop
theorem RH(h:VT A)(raw:List Int){f i q:Nat}(hf:i<f)(hi:i<A.length)(h0:eP (bD A) i=0):(dV A raw f i q).cs=[]/\(dV A raw f i q).val=EU (dC A) i:=by
 have ha:=KP h raw (q:=q) hf hi;have hl:=Gm h raw (q:=q) hf hi;refine⟨ZH om, ?_⟩;rw[<-ha.val];exact(C4 h _ f i q hf hi h0).1
theorem Ps{ft:Nat->Nat->Ft}{rd:Nat->Nat->x9}{raw p:List Int}{q:Nat}:∀(ks:List Int) (s:List Int × List bH) (pt:Pt) (r:List Int) (m:Nat),(∀k∈ks,∀q post,p.drop q=(ft k.toNat q).cs++post->As (rd k.toNat q) (ft k.toNat q)) ->
  (∀k∈ks,∀q m,m<(ft k.toNat q).cs.length->p.drop q=(ft k.toNat q).cs.take m->∃n,n<A.length/\(rd k.toNat q).stop=(n:Int)/\(ft k.toNat q).cs[m]? = some (dH raw (aI A n) (q+m))) ->
  pt.used=s.1.length->(d7 ft q ks s).1=s.1++r->m<r.length->p.drop (q+s.1.length)=r.take m->∃n,n<A.length/\(bQ rd q ks pt).stop=(n:Int)/\r[m]? = some (dH raw (aI A n) (q+s.1.length+m))
 | [],s,pt,r,m,_,_,_,hr,hm,_=>by
  rw[d7] at hr;have:r=[]:=by
   have:=congrArg List.length hr;rw[ZB] at this;exact ZH om
  subst this;simp at hm
 | k::ks,s,pt,r,m,hka,hkb,hu,hr,hm,hd=>by
  rw[d7] at hr;obtain⟨r',hr'⟩:=rX (ft:=ft) (q:=q) ks (s.1++(ft k.toNat (q+s.1.length)).cs,s.2++[(ft k.toNat (q+s.1.length)).val]);have e:r=(ft k.toNat (q+s.1.length)).cs++r':=by
   rw[hr',List.append_assoc] at hr;exact(List.append_cancel_left hr).symm
  have hka0:=hka k (ZX ..) (q+s.1.length);have hkb0:=hkb k (ZX ..) (q+s.1.length);have hrec:=λ(pt':Pt) (m':Nat)=>Ps (ft:=ft) (rd:=rd) (raw:=raw) (p:=p) (q:=q) ks (s.1++(ft k.toNat (q+s.1.length)).cs,s.2++[(ft k.toNat (q+s.1.length)).val]) pt' r' m' (λq hq=>hka q (ZN _ hq)) (λq hq=>hkb q (ZN _ hq))
  subst e;simp only[bQ];rw[hu];generalize ft k.toNat (q+s.1.length)=F at *;generalize rd k.toNat (q+s.1.length)=R at *;by_cases hc:m<F.cs.length
  .rw[aAk om] at hd;obtain⟨n,n1,n2,n3⟩:=hkb0 m hc hd;rw[Y3 (by rw[n2];omega)];exact⟨n,n1,n2,by rw[ZR hc];exact n3⟩
  .obtain⟨m',rfl⟩:∃m',m=F.cs.length+m':=⟨m-F.cs.length,om⟩
   rw[aBT] at hd;obtain⟨a1,a2,a3⟩:=hka0 _ hd;rw[Y7 a3];have hd2:=AP hd;rw[ZB] at hm;obtain⟨n,n1,n2,n3⟩:=hrec ⟨s.1.length+R.used,pt.vals++[R.val],pt.spans++(q,q+s.1.length,q+s.1.length+R.used)::R.spans,-1⟩ m' (by simp only;rw[a2,ZB]) hr' om (by
    simp only;rw[ZB,<-Nat.add_assoc];exact hd2)
   refine⟨n,n1,n2, ?_⟩;rw[ZS om,aBj,n3];simp only[ZB];congr 2;omega
theorem O3(h:VT A)(raw p:List Int):∀f i q m,i<f->i<A.length->m<(dV A raw f i q).cs.length->p.drop q=(dV A raw f i q).cs.take m->∃n,n<A.length/\(a8 A p f i q).stop=(n:Int)/\(dV A raw f i q).cs[m]? = some (dH raw (aI A n) (q+m))
 | 0,i,q,m,hf,hi,hm,hd=>om
 | f+1,i,q,m,hf,hi,hm,hd=>by
  have hx:=cS hi;have hkm:=λ(k:Int) (hk:k∈(aI A i).kids)=>fQ h hx hk
  have hbi:=λh4=>h.bind hx h4
  have hkI:=λ(c:Int) (h0:0<=c) (h1:c<(aI A i).kids.length)=>h.kidI hx h0 h1
  have hopt:=λhk=>h.opt hx hk
  have hkind:=(h.node hx).node.kind;have hsrt:=(h.node hx).srt;have ih:=λ(k:Nat) (q:Nat) (post:List Int) (hk:k<i)=>Hw h raw p f k q post om om
  have ihb:=λ(k:Nat) (q:Nat) (m:Nat) (hk:k<i)=>O3 h raw p f k q m om om
  have ihm:=λ(k:Nat) (a:Nat) (hk:k<i)=>mA h p f k a om om
  have hnode:∀y,aI A i=y->aI A i=y:=λy e=>e
  simp only[a8,dV] at hm hd |-;generalize hxe:aI A i=x at *;by_cases k0:x.kind=0
  .rw[Y7 k0] at hm;simp at hm
  rw[Y3 k0] at hm hd |-;rw[Y3 k0];by_cases k3:x.kind=3
  .rw[Y7 k3] at hm hd |-;rw[Y7 k3];obtain⟨r,hr⟩:=rX (ft:=λk q=>dV A raw f k q) (q:=q) x.kids ([],[]);rw[Zp] at hr;simp only at hm hd |-;obtain⟨n,n1,n2,n3⟩:=Ps (A:=A) (ft:=λk q=>dV A raw f k q) (rd:=λk q=>a8 A p f k q) (raw:=raw) (p:=p) (q:=q) x.kids ([],[]) ⟨0,[],[],-1⟩ r m (λk hk q' post' hd'=>ih k.toNat q' post' (hkm k hk).2 hd') (λk hk q' m' hm' hd'=>ihb k.toNat q' m' (hkm k hk).2 hm' hd') rfl (by rw[hr];rfl) (by rw[<-hr];exact hm) (by rw[<-hr];exact hd);exact⟨n,n1,n2,by rw[hr];exact n3⟩
  rw[Y3 k3] at hm hd |-;rw[Y3 k3];by_cases k4:x.kind=4
  .rw[Y7 k4] at hm hd |-;rw[Y7 k4];obtain⟨b1,b2,b3,b4⟩:=hbi k4;obtain⟨c1,c2,c3⟩:=hkI 0 om om;simp only at hm hd |-;by_cases hc:m<(dV A raw f (bO x 0) q).cs.length
   .rw[aAk om] at hd;obtain⟨n,n1,n2,n3⟩:=ihb _ q m c1 hc hd;rw[Y3 (by rw[n2];omega)];exact⟨n,n1,n2,by rw[ZR hc];exact n3⟩
   .obtain⟨m',rfl⟩:∃m',m=(dV A raw f (bO x 0) q).cs.length+m':=⟨m-(dV A raw f (bO x 0) q).cs.length,om⟩
    rw[aBT] at hd;rw[ZB] at hm;obtain⟨a1,a2,a3⟩:=ih _ q _ c1 hd;obtain⟨-,m1⟩:=ihm _ q c1 a3;have m1:=m1 b3;rw[b4] at m1;obtain⟨w,fq,q1,q2⟩:=lP hsrt m1;have hd2:=AP hd;rw[Y7 a3];rw[ZS om,aBj];rw[a2];rw[<-a1,fq] at hd2 hm |-;simp only at hd2 hm |-;obtain⟨d1,d2,d3⟩:=hkI ((w+1:Nat):Int) om om;obtain⟨n,n1,n2,n3⟩:=ihb _ _ m' d1 om hd2;exact⟨n,n1,n2,by rw[n3,Nat.add_assoc]⟩
  rw[Y3 k4] at hm hd |-;rw[Y3 k4];have hb:=BA (raw:=raw) (q:=q) (hopt om);by_cases k1:x.kind=1
  .rw[Y7 k1] at hm hd |-;have hm0:m=0:=by simp at hm;omega
   subst hm0;have hl:p.length<=q:=by
    have:=congrArg List.length hd;simp at this;omega
   rw[Y7 hl];exact⟨i,hi,rfl,by rw[hxe,Y7 k1];rfl⟩
  .rw[Y3 k1] at hm hd |-;rcases ZF m with hm0|hm0
   .subst hm0;have hl:p.length<=q:=by
     have:=congrArg List.length hd;simp at this;omega
    rw[Y7 hl];exact⟨i,hi,rfl,by rw[hxe,Y3 k1];rfl⟩
   .obtain⟨m',rfl⟩:∃m',m=m'+1:=⟨m-1,om⟩
    rw[List.take_succ_cons] at hd;simp only[ZZ] at hm;obtain⟨p1,p2,p3⟩:=BG hd;generalize dH raw x q=c at *;rw[Y3 (show ¬p.length<=q by omega),p2,Y3 (show ¬(c<0\/fK x<=c) by omega),Y3 k1];have ho:fK x=x.kids.length:=by unfold fK;rw[Y3 k1]
    obtain⟨d1,d2,d3⟩:=hkI c om om;obtain⟨n,n1,n2,n3⟩:=ihb _ _ m' d1 om p3;exact⟨n,n1,n2,by
     simp only[List.getElem?_cons_succ];rw[n3];congr 2;omega⟩
end
end Go.Ax
namespace Go.Ax
open Go
def gN(x:Nd):Nat:=if x.kind=3 then max 3 x.kids.length else 3
def HP(A:List Nd):Nat->Nat
 | 0=>1
 | n+1=>HP A n*gN (aI A (n+1))
theorem TQ(x:Nd):3<=gN x:=by unfold gN;split<;>omega
theorem GD(A:List Nd):∀n,1<=HP A n
 | 0=>ZA _
 | n+1=>by
  have h1:=GD A n;have h2:=TQ (aI A (n+1));rw[HP];exact Zk om (Z7 h1 h2)
theorem LD(A:List Nd)(n:Nat):3*HP A n<=HP A (n+1):=by
 rw[HP,ZV];exact Zq _ (TQ _)
theorem xB(A:List Nd){k:Nat}:∀{n:Nat},k<=n->HP A k<=HP A n
 | 0,h=>by rw[show k=0 by omega];exact ZA _
 | n+1,h=>by
  rcases ZL k (n+1) with h'|h'
  .have:=xB A (k:=k) (n:=n) om;have:=LD A n;omega
  .rw[show k=n+1 by omega];exact ZA _
theorem E7{rd:Nat->Nat->x9}{a0 M:Nat}(hM:3<=M):∀(ks:List Int) (s:Pt),(∀k∈ks,∀q,2*(rd k.toNat q).spans.length+3<=M)->2*(bQ rd a0 ks s).spans.length<=2*s.spans.length+ks.length*(M-1)
 | [],s,_=>by simp[bQ]
 | k::ks,s,h=>by
  have h1:=h k (ZX ..) (a0+s.used);have e:(k::ks).length*(M-1)=ks.length*(M-1)+(M-1):=by rw[ZZ,Nat.succ_mul]
  rw[e];simp only[bQ];generalize hR:rd k.toNat (a0+s.used)=R at *;split
  .have:=E7 (rd:=rd) (a0:=a0) hM ks ⟨s.used+R.used,s.vals++[R.val],s.spans++(a0,a0+s.used,a0+s.used+R.used)::R.spans,-1⟩ λq hq=>h q (ZN _ hq)
   simp only[ZB,ZZ] at this;omega
  .simp only[ZB,ZZ];have:=aAA (ks.length*(M-1));omega
theorem F2{A:List Nd}(h:VT A)(p:List Int):∀f i a0,i<f->i<A.length->2*(a8 A p f i a0).spans.length+3<=3*HP A i
 | 0,i,a0,hf,hi=>om
 | f+1,i,a0,hf,hi=>by
  have hx:=cS hi;have hkm:=λ(k:Int) (hk:k∈(aI A i).kids)=>fQ h hx hk
  have hbi:=λh4=>h.bind hx h4
  have hkI:=λ(c:Int) (h0:0<=c) (h1:c<(aI A i).kids.length)=>h.kidI hx h0 h1
  have hkind:=(h.node hx).node.kind;have hsrt:=(h.node hx).srt;have ih:=λ(k:Nat) (a:Nat) (hk:k<i)=>F2 h p f k a om om
  have ihm:=λ(k:Nat) (a:Nat) (hk:k<i)=>mA h p f k a om om
  have hp1:=GD A i;have hgi:∀j,i=j+1->HP A i=HP A j*gN (aI A i):=λj e=>by rw[e,HP]
  have h0:∀r:x9,r.spans=[]->2*r.spans.length+3<=3*HP A i:=λr e=>by rw[e];simp;omega
  simp only[a8];generalize aI A i=x at *;by_cases k0:x.kind=0
  .rw[Y7 k0];exact h0 _ rfl
  rw[Y3 k0];by_cases k3:x.kind=3
  .rw[Y7 k3]
   show 2*(bQ (λk q=>a8 A p f k q) a0 x.kids ⟨0,[],[],-1⟩).spans.length+3<=3*HP A i
   rcases ZF i with e|e
   .have hk:x.kids=[]:=by
     cases hkk:x.kids with
     | nil=>rfl
     | cons k ks=>have:=hkm k (by rw[hkk];simp);omega
    rw[hk];simp only[bQ,aAm];omega
   .obtain⟨j,rfl⟩:∃j,i=j+1:=⟨i-1,om⟩
    have hj:=GD A j;have hc:=E7 (rd:=λk q=>a8 A p f k q) (a0:=a0) (M:=3*HP A j) om x.kids ⟨0,[],[],-1⟩ λk hk q=>by
     have:=hkm k hk;have e1:=ih k.toNat q this.2;have e2:=xB A (k:=k.toNat) (n:=j) om;omega
    simp only[aAm] at hc;rw[hgi j rfl];have hg:gN x=max 3 x.kids.length:=by unfold gN;rw[Y7 k3]
    rw[hg];generalize x.kids.length=n at hc |-;generalize HP A j=H at hc hj |-;rcases ZL n 3 with hn|hn
    .rw[Nat.max_eq_left om];have:n*(3*H-1)<=2*(3*H-1):=ZI _ om;omega
    .rw[Nat.max_eq_right hn];have e1:n*(3*H-1)+n=n*(3*H):=by
      rw[<-Nat.mul_succ];congr 1;omega
     have e2:3*(H*n)=n*(3*H):=by rw[ZV n,Nat.mul_assoc]
     omega
  rw[Y3 k3];by_cases k4:x.kind=4
  .rw[Y7 k4];obtain⟨b1,b2,b3,b4⟩:=hbi k4;obtain⟨c1,c2,c3⟩:=hkI 0 om om;have e1:=ih _ a0 c1;obtain⟨j,rfl⟩:∃j,i=j+1:=⟨i-1,om⟩
   have hs:=LD A j;have hj:=GD A j;have m1':=xB A (k:=bO x 0) (n:=j) om;split
   .rename_i hst;obtain⟨-,m1⟩:=ihm _ a0 c1 hst;have m1:=m1 b3;rw[b4] at m1;obtain⟨q,fq,q1,q2⟩:=lP hsrt m1;rw[fq];simp only[ZB];obtain⟨d1,d2,d3⟩:=hkI ((q+1:Nat):Int) om om;have e2:=ih _ (a0+(a8 A p f (bO x 0) a0).used) d1;have m2':=xB A (k:=bO x ((q+1:Nat):Int)) (n:=j) om;omega
   .omega
  rw[Y3 k4];split
  .exact h0 _ rfl
  split
  .exact h0 _ rfl
  rename_i hc;rw[not_or] at hc;split
  .exact h0 _ rfl
  .rename_i k1;have ho:fK x=x.kids.length:=by unfold fK;rw[Y3 k1]
   obtain⟨d1,d2,d3⟩:=hkI (p.getD a0 0) om om;have e1:=ih _ (a0+1) d1;have m1':=xB A (k:=bO x (p.getD a0 0)) (n:=i) om;simp only;omega
def Wa:List Int->List Int->Int
 | [],[]=>0
 | [],_::_=>-1
 | _::_,[]=>1
 | a::asz,b::bs=>andThen (rK a b) (Wa asz bs)
def Wv(a b:List Int):Int:=andThen (rK (a.length:Int) (b.length:Int)) (Wa a b)
def XW(l:List (List Int)):Prop:=l.Pairwise λa b=>Wv a b<0
theorem XW.get{l:List (List Int)}(h:XW l){i j:Nat}{a b:List Int}(hij:i<j)(ha:l[i]? = some a)(hb:l[j]? = some b):Wv a b<0:=by
 obtain⟨hi,rfl⟩:=Y4.1 ha;obtain⟨hj,rfl⟩:=Y4.1 hb;exact aBY.1 h i j hi hj hij
def iO(A:List Nd)(r:List Int):List Int:=(dV A r A.length (A.length-1) 0).cs
theorem OI{A:List Nd}(h:VT A)(r:List Int):(iO A r).length<=1024:=by
 have h1:=Gm h r (f:=A.length) (i:=A.length-1) (q:=0) (by have:=h.pos;omega) (by have:=h.pos;omega);have h2:=(h.lens0 ((A.length-1:Nat):Int)).2;unfold iO;omega
end Go.Ax
namespace Go.Ax
open Go
section
variable {rd:Nat->Nat->x9} {a0:Nat}
def Ph(rd:Nat->Nat->x9)(a0:Nat)(k:Int)(s:Pt):Pt:=⟨s.used+(rd k.toNat (a0+s.used)).used,s.vals++[(rd k.toNat (a0+s.used)).val],s.spans++(a0,a0+s.used,a0+s.used+(rd k.toNat (a0+s.used)).used)::(rd k.toNat (a0+s.used)).spans,(rd k.toNat (a0+s.used)).stop⟩
theorem lI(k:Int)(ks:List Int)(s:Pt):bQ rd a0 (k::ks) s=if (rd k.toNat (a0+s.used)).stop = -1 then bQ rd a0 ks (Ph rd a0 k s) else Ph rd a0 k s:=by
 rw[bQ];by_cases h:(rd k.toNat (a0+s.used)).stop = -1
 .rw[Y7 h,Y7 h];unfold Ph;rw[h]
 .rw[Y3 h,Y3 h];rfl
theorem r7(m:List Int):∀(l:List Int) (s:Pt),s.stop = -1->(bQ rd a0 l s).stop = -1->bQ rd a0 (l++m) s=bQ rd a0 m (bQ rd a0 l s)
 | [],s,_,_=>rfl
 | k::l,s,h,h2=>by
  rw[lI] at h2;rw[Z0,lI,lI];by_cases hk:(rd k.toNat (a0+s.used)).stop = -1
  .rw[Y7 hk] at h2;rw[Y7 hk,Y7 hk];exact r7 m l _ hk h2
  .rw[Y3 hk] at h2;exact absurd h2 hk
theorem EK:∀(ks:List Int) (s:Pt),∃X,(bQ rd a0 ks s).spans=s.spans++X
 | [],s=>⟨[],by simp[bQ]⟩
 | k::ks,s=>by
  rw[lI];split
  .obtain⟨X,hX⟩:=EK ks (Ph rd a0 k s);refine⟨(a0,a0+s.used,a0+s.used+(rd k.toNat (a0+s.used)).used)::(rd k.toNat (a0+s.used)).spans++X, ?_⟩;rw[hX];unfold Ph;rw[List.append_assoc]
  .exact cm 
theorem qP{ks:List Int}{j:Nat}{s:Pt}(hj:j<ks.length)(h0:s.stop = -1)(h:(bQ rd a0 (ks.take j) s).stop = -1) :
  bQ rd a0 (ks.take (j+1)) s=Ph rd a0 ks[j] (bQ rd a0 (ks.take j) s):=by
 rw[ZE hj,r7 _ _ _ h0 h,lI];split
 .rfl
 .rfl
theorem zQ{ks:List Int}{j:Nat}{s:Pt}(hj:j<ks.length)(h0:s.stop = -1)(h:(bQ rd a0 (ks.take j) s).stop = -1)(hk:(bQ rd a0 (ks.take (j+1)) s).stop≠-1) :
  bQ rd a0 ks s=bQ rd a0 (ks.take (j+1)) s:=by
 have e:ks=ks.take j++ks[j]::ks.drop (j+1):=sq
 have h2:=qP (rd:=rd) (a0:=a0) hj h0 h;rw[h2] at hk |-
 conv=>lhs;rw[e]
 rw[r7 _ _ _ h0 h,lI,Y3 (show ¬(rd ks[j].toNat (a0+(bQ rd a0 (ks.take j) s).used)).stop = -1 from hk)]
theorem J3{ks:List Int}{j:Nat}{s:Pt}(h0:s.stop = -1)(h:(bQ rd a0 (ks.take j) s).stop = -1):∃X,(bQ rd a0 ks s).spans=(bQ rd a0 (ks.take j) s).spans++X:=by
 have e:ks=ks.take j++ks.drop j:=sq
 obtain⟨X,hX⟩:=EK (rd:=rd) (a0:=a0) (ks.drop j) (bQ rd a0 (ks.take j) s);exact⟨X,by rw[<-hX,<-r7 _ _ _ h0 h,<-e]⟩
theorem EF{ks:List Int}{j:Nat}{s:Pt}(hj:j<ks.length)(h0:s.stop = -1)(h:(bQ rd a0 (ks.take j) s).stop = -1) :
  (bQ rd a0 (ks.take j) s).spans.length+1+(rd ks[j].toNat (a0+(bQ rd a0 (ks.take j) s).used)).spans.length<=(bQ rd a0 ks s).spans.length:=by
 have h2:=qP (rd:=rd) (a0:=a0) hj h0 h;have h3:∃X,(bQ rd a0 ks s).spans=(bQ rd a0 (ks.take (j+1)) s).spans++X:=by
  by_cases hk:(bQ rd a0 (ks.take (j+1)) s).stop = -1
  .exact J3 h0 hk
  .exact⟨[],by rw[zQ hj h0 h hk,aAi]⟩
 obtain⟨X,hX⟩:=h3;rw[hX,h2];unfold Ph;simp only[ZB,ZZ];omega
end
end Go.Ax
namespace Go.Ax
open Go
section
variable {ft:Nat->Nat->Ft} {q:Nat}
theorem BF(m:List Int):∀(l:List Int) (s:List Int × List bH),d7 ft q (l++m) s=d7 ft q m (d7 ft q l s)
 | [],s=>rfl
 | k::l,s=>by rw[Z0,d7,d7];exact BF m l _
theorem zC{ks:List Int}{j:Nat}(hj:j<ks.length)(s:List Int × List bH) :
  d7 ft q (ks.take (j+1)) s=((d7 ft q (ks.take j) s).1++(ft ks[j].toNat (q+(d7 ft q (ks.take j) s).1.length)).cs,(d7 ft q (ks.take j) s).2++[(ft ks[j].toNat (q+(d7 ft q (ks.take j) s).1.length)).val]):=by
 rw[ZE hj,BF];rfl
theorem Fj{ks:List Int}{j:Nat}(hj:j<ks.length)(s:List Int × List bH) :
  (d7 ft q (ks.take j) s).1.length+(ft ks[j].toNat (q+(d7 ft q (ks.take j) s).1.length)).cs.length<=(d7 ft q ks s).1.length:=by
 have e:ks=ks.take (j+1)++ks.drop (j+1):=sq
 have h2:=zC (ft:=ft) (q:=q) hj s;obtain⟨m,hm⟩:=rX (ft:=ft) (q:=q) (ks.drop (j+1)) (d7 ft q (ks.take (j+1)) s);have h3:d7 ft q ks s=d7 ft q (ks.drop (j+1)) (d7 ft q (ks.take (j+1)) s):=by
  rw[<-BF,<-e]
 rw[h3,hm,h2];simp only[ZB];omega
end
theorem Jw{raw:List Int}{x:Nd}{q:Nat}(h:1<=fK x)(hq:q<raw.length):min (max (raw.getD q 0) 0) (fK x-1)=dH raw x q:=by
 unfold dH;rw[Y7 hq];omega
theorem JX{raw:List Int}{x:Nd}{q:Nat}(hq:¬q<raw.length):dH raw x q=0:=by
 unfold dH;rw[Y3 hq]
end Go.Ax
namespace Go.Ax
open Go
inductive Na (A B:List Nd):Nat->Nat->Prop where
 | mk (i j:Nat) (x y:Nd):A[i]? = some x->B[j]? = some y->y={ x with kids:=y.kids }->y.kids.length=x.kids.length ->
   (∀(k:Nat) (a b:Int),x.kids[k]? = some a->y.kids[k]? = some b->0<=a/\0<=b) ->
   (∀(k:Nat) (a b:Int),x.kids[k]? = some a->y.kids[k]? = some b->Na A B a.toNat b.toNat)->Na A B i j
theorem Na.symm{A B:List Nd}{i j:Nat}(h:Na A B i j):Na B A j i:=by
 induction h with
 | mk i j x y hx hy he hl hp _ ih=>
  refine .mk j i y x hy hx ?_ hl.symm (λk a b ha hb=>(hp k b a hb ha).symm) λk a b ha hb=>ih k b a hb ha
  rw[he]
theorem Na.trans{A B ae:List Nd}{i j k:Nat}(h:Na A B i j):Na B ae j k->Na A ae i k:=by
 induction h generalizing k with
 | mk i j x y hx hy he hl hp _ ih=>
  intro h2;cases h2 with
  | mk _ _ y' z hy' hz he2 hl2 hp2 ih2=>
   rw[hy] at hy';cases hy';have mid:∀(q:Nat) (a:Int),x.kids[q]? = some a->∃b,y.kids[q]? = some b:=λq a ha=>by
    have hq:q<y.kids.length:=by
     have:=(Y4.1 ha).1;omega
    exact⟨_,Yz hq⟩
   refine .mk i k x z hx hz ?_ om (λq a c ha hc=>?_) λq a c ha hc=>?_
   .rw[he2,he]
   .obtain⟨b,hb⟩:=mid q a ha;exact⟨(hp q a b ha hb).1,(hp2 q b c hb hc).2⟩
   .obtain⟨b,hb⟩:=mid q a ha;exact ih q a b ha hb (ih2 q b c hb hc)
theorem Na.refl{A:List Nd}(hA:∀(i:Nat) (x:Nd),A[i]? = some x->∀k∈x.kids,0<=k/\k<i):∀(n i:Nat),i<n->i<A.length->Na A A i i
 | 0,i,h,_=>absurd h om
 | n+1,i,h,hi=>by
  have hx:A[i]? = some A[i]:=Yz hi;refine .mk i i _ _ hx hx rfl rfl (λk a b ha hb=>?_) λk a b ha hb=>?_
  .rw[ha] at hb;cases hb;have:=hA i _ hx a (Y5 ha);exact⟨this.1,this.1⟩
  .rw[ha] at hb;cases hb;have:=hA i _ hx a (Y5 ha);exact Na.refl hA n a.toNat om om
structure Yy(A B:List Nd)(v v':bH)(u u':Nat)(s s':Int):Prop where
 used:u=u'
 c:(s = -1/\s' = -1/\v=v')\/(s = -2/\s' = -2)\/∃j k:Nat,Na A B j k/\s=(j:Int)/\s'=(k:Int)
def ER(A:List Nd)(p:List Int):x9:=a8 A p A.length (A.length-1) 0
def JE(A:List Nd)(raw:List Int):Ft:=dV A raw A.length (A.length-1) 0
theorem OC{B:List Nd}(h:VT B)(raw:List Int):(JE B raw).cs.length<=256:=by
 have hp:=h.pos;have hx:=cS (A:=B) (i:=B.length-1) om;have h1:=Gm h raw (f:=B.length) (i:=B.length-1) (q:=0) om om;have h2:=h.len256 hx;unfold JE;omega
theorem LU{B:List Nd}(h:VT B){raw out:List Int}(hi:out=(JE B raw).cs.take out.length) :
  (out.length=(JE B raw).cs.length->(ER B out).stop = -1/\(ER B out).used=out.length/\(ER B out).val=(JE B raw).val)/\(out.length<(JE B raw).cs.length->∃n,n<B.length/\(ER B out).stop=(n:Int)/\(JE B raw).cs[out.length]? = some (dH raw (aI B n) out.length)):=by
 have hp:=h.pos;refine⟨λhl=>?_,λhl=>?_⟩
 .have e:out=(JE B raw).cs:=by rw[hl,ZK] at hi;exact hi
  obtain⟨g1,g2,g3⟩:=Hw h raw out B.length (B.length-1) 0 [] om om (by rw[aAi,ZT];exact e);exact⟨g3,by unfold ER;rw[g2];exact hl.symm,g1⟩
 .obtain⟨n,h1,h2,h3⟩:=O3 h raw out B.length (B.length-1) 0 out.length om om hl (by rw[ZT];exact hi);rw[ZP] at h3;exact⟨n,h1,h2,h3⟩
theorem Fa{A:List Nd}(h:VT A)(p:List Int):∀f i a0,i<A.length->(a8 A p f i a0).stop = -1\/(a8 A p f i a0).stop = -2\/∃n:Nat,(a8 A p f i a0).stop=(n:Int)/\n<A.length/\((aI A n).kind=1\/(aI A n).kind=2)
 | 0,i,a0,hi=>.inr (.inl rfl)
 | f+1,i,a0,hi=>by
  have hx:=cS hi;have hN:=(h.node hx).node.kind;have all:∀k q,k<A.length->(a8 A p f k q).stop = -1\/(a8 A p f k q).stop = -2\/∃n:Nat,(a8 A p f k q).stop=(n:Int)/\n<A.length/\((aI A n).kind=1\/(aI A n).kind=2):=λk q hk=>Fa h p f k q hk
  have kid:∀c,bO (aI A i) c<A.length:=λc=>by
   unfold bO;rcases ZL c.toNat (aI A i).kids.length with hc|hc
   .rw[Y0,Yz hc];have:=fQ h hx (Za hc);simp only[aAD];omega
   .rw[Y0,ZJ hc];have:=h.pos;simp only[Option.getD_none];omega
  unfold a8;split
  .exact .inl rfl
  split
  .have hk:=λk (hk:k∈(aI A i).kids)=>fQ h hx hk
   unfold GR;simp only;generalize (aI A i).kids=ks at hk;have key:∀(ks:List Int) (s:Pt),(∀k∈ks,0<=k/\k.toNat<i)->s.stop = -1->(bQ (λk q=>a8 A p f k q) a0 ks s).stop = -1\/(bQ (λk q=>a8 A p f k q) a0 ks s).stop = -2\/∃n:Nat,(bQ (λk q=>a8 A p f k q) a0 ks s).stop=(n:Int)/\n<A.length/\((aI A n).kind=1\/(aI A n).kind=2):=by
    intro ks
    induction ks with
    | nil=>exact λs _ h=>.inl h
    | cons k ks ih=>
     intro s hks hs;simp only[bQ];split
     .exact ih _ (λq hq=>hks q (ZN _ hq)) rfl
     .exact all _ _ (by have:=hks k (ZX ..);omega)
   exact key ks _ hk rfl
  split
  .split
   .exact all _ _ (kid _)
   .exact all _ _ (kid _)
  split
  .refine .inr (.inr ⟨i,rfl,hi, ?_⟩);rename_i h0 h3 h4 _;omega
  split
  .exact .inr (.inl rfl)
  split
  .exact .inl rfl
  .exact all _ _ (kid _)
structure YT where
 val:bH
 ok:Bool
 rd:Rd
 parts:Nat
structure WH where
 vals:List bH
 ok:Bool
 rd:Rd
 parts:Nat
structure Ya(x:Rd)(p:Nat)(r:YT):Prop where
 le:r.rd.1.length<=x.1.length
 ok:x.1.length<=1000000000->jG r.val
 size:r.ok=true->p+bS r.val=r.parts
 parts:p<=1024->r.parts<=1025
 good:r.ok=true->p<=1024->r.parts<=1024
structure Yc(x:Rd)(p:Nat)(acc:List bH)(m:Nat)(r:WH):Prop where
 le:r.rd.1.length<=x.1.length
 ok:x.1.length<=1000000000->zO acc->zO r.vals
 len:r.vals.length<=acc.length+m
 size:r.ok=true->p+c7 r.vals=r.parts+c7 acc
 parts:p<=1024->r.parts<=1025
 good:r.ok=true->p<=1024->r.parts<=1024
end Go.Ax
namespace Go.Ax
open Go
def UI(r:List Bool)(i:Nat):Bool:=r.getD i false
def QP(A:List Nd):Prop:=∀(i:Nat) (x:Nd),A[i]? = some x->∀k∈x.kids,0<=k/\k<i
structure Vl(A:List Nd)(m:Nat)(r:List Bool):Prop where
 len:r.length=A.length
 down:∀i,m<=i->i<A.length->UI r i=true->∀k∈(aI A i).kids,UI r k.toNat=true
 up:∀i,i<A.length->UI r i=true->i+1=A.length\/∃j,m<=j/\i<j/\j<A.length/\UI r j=true/\(i:Int)∈(aI A j).kids
 root:m<A.length->UI r (A.length-1)=true
def Sq(p:List Int)(k:Int):Int:=p.getD k.toNat 0
def P8(x:Nd)(p:List Int):Nd:={ x with kids:=x.kids.map (Sq p) }
structure Wu(A:List Nd)(r:List Bool)(i:Nat)(s:List Nd × List Int):Prop where
 plen:s.2.length=A.length
 tlen:s.1.length<=i
 img:∀j,j<i->j<A.length->UI r j=true->∃q:Nat,s.2[j]? = some (q:Int)/\s.1[q]? = some (P8 (aI A j) s.2)
 kids:QP s.1
 src:∀q,q<s.1.length->∃j,j<i/\j<A.length/\UI r j=true/\s.2[j]? = some (q:Int)
 ok:∀y∈s.1,tY y
end Go.Ax
namespace Go.Ax
open Go
section
variable {A:List Nd} (hA:QP A) {r:List Bool} (hr:Vl A 0 r) {T:List Nd} {p:List Int} (h:Wu A r A.length (T,p))
include hA hr h
end
end Go.Ax
namespace Go.Ax
open Go
end Go.Ax
namespace Go.Ax
open Go
end Go.Ax
namespace Go.Ax
open Go
structure XU(x:Nd):Prop where
 ok:tY x
 val:bS x.value<=1024
 vals:∀v∈x.values,bS v<=1024
 vlen:x.values.length<=1024
 klen:x.kids.length<=1025
 llen:x.labels.length<=256
 wlen:x.weights.length<=256
 lab:∀s∈x.labels,s∈yY
theorem B0:∀{l:List bH},fU l=0->∀v∈l,hZ v=0
 | [],_,v,hv=>by simp at hv
 | a::r,h,v,hv=>by
  simp only[fU] at h;split at h
  .rename_i h1;exact absurd h h1
  .rename_i h1;rcases ZC.1 hv with rfl|hv
   .exact Decidable.not_not.1 h1
   .exact B0 h v hv
theorem Bn{v:bH}(h:hZ v=0):bS v<=1024:=by
 unfold hZ at h;split at h
 .omega
 .split at h
  .omega
  .rename_i h1;rw[not_or] at h1;omega
theorem Kh{v:bH}(h:DX v=true):bS v<=1024:=by
 obtain⟨k,n,s,ks⟩:=v;simp only[DX,Y6,Zc] at h;have:ks=[]:=aAs.1 h.2;subst this;simp[bS,c7]
theorem Ni{ns:List Nd}(h:kH ns):∀x∈ns,XU x:=by
 intro x hx;obtain⟨j,hj⟩:=Zl hx;have hn:=pU ns h.valid j x hj;have hN:=nU hn;have hg:=h.gen x hx;have hf:=i9 hn;have hfe:fU (qA x)=0:=by
  unfold g9 at hn;rw[Y3 (by rw[hf];simp)] at hn;split at hn
  .rename_i h1;exact absurd hn h1
  .rename_i h1;exact Decidable.not_not.1 h1
 have hv:=B0 hfe;unfold dS at hf;simp only[Y6] at hf;obtain⟨⟨⟨⟨⟨⟨hu,hkd⟩,hki⟩,h2⟩,h3⟩,h4⟩,h5⟩:=hf;unfold kC at hu;simp only[Y6,aAb,Zc] at hu h2 h4;have hul:=hu.1.1.2;have hz:=hu.1.1.1.1.1;have hvl:=hg.vals;refine⟨hg.ok, ?_,λv hm=>Bn (hv v (by unfold qA;exact aAj _ hm)),hvl, ?_, ?_, ?_,hg.labels⟩
 .rcases hz with e|e
  .exact Bn (hv x.value (by unfold qA;rw[Y7 e];simp))
  .exact Kh e
 .by_cases e:x.kind=4
  .have:=hN.bind e;omega
  .have:=hN.klen e;omega
 .rcases hul with e|e
  .rcases h2 with h2|h2
   .exact absurd e h2
   .omega
  .omega
 .rcases hul with e|e
  .rcases h2 with h2|h2
   .exact absurd e h2
   .omega
  .omega
structure Yp(LB:List (List UInt8))(x:Nd):Prop where
 ok:tY x
 val:bS x.value<=1048576
 vals:∀v∈x.values,bS v<=1048576
 vlen:x.values.length<=2000
 klen:x.kids.length<=2000
 llen:x.labels.length<=1000
 lab:∀s∈x.labels,s∈LB
variable {LB:List (List UInt8)}
theorem TB(hLB:∀s∈yY,s∈LB){x:Nd}(h:XU x):Yp LB x:=
 ⟨h.ok,by have:=h.val;omega,λv hv=>by have:=h.vals v hv;omega,by have:=h.vlen;omega,by have:=h.klen;omega,by have:=h.llen;omega,λs hs=>hLB s (h.lab s hs)⟩
theorem Nw{ns:List Nd}(hLB:∀s∈LB,s.length<=19)(h:∀x∈ns,Yp LB x)(hl:ns.length<=1000):BM ns:=
 ⟨λx hx=>(h x hx).ok,λx hx=>(h x hx).val,λx hx=>(h x hx).vals,λx hx=>(h x hx).vlen,λx hx=>(h x hx).klen,λx hx=>(h x hx).llen,λx hx s hs=>by have:=hLB s ((h x hx).lab s hs);omega,hl⟩
end Go.Ax
namespace Go.Ax
open Go
section
variable {A:List Nd} (hv:cP [] A=0) (hok:∀x∈A,tY x) (hlen:A.length<=4096)
include hv hok hlen
end
end Go.Ax
namespace Go.Ax
open Go
theorem XH{A:List Nd}(h:∀x∈A,Nj x)(j:Nat):gN (aI A j)<=3:=by
 unfold aI;rw[Y0];cases e:A[j]? with
 | none=>simp[gN]
 | some x=>
  have hg:=h x (Y5 e);simp only[aAD];unfold gN;split
  .rename_i h3;have:=hg.seq h3;omega
  .omega
theorem QE{A:List Nd}{i:Nat}(h:∀j,j≠i->gN (aI A j)<=3)(h4:gN (aI A i)<=4):∀n,(n<i->HP A n<=3 ^ n)/\3*HP A n<=4*3 ^ n
 | 0=>by simp[HP]
 | n+1=>by
  obtain⟨a,b⟩:=QE h h4 n;have hp:3 ^ (n+1)=3*3 ^ n:=by rw[Nat.pow_succ,ZV]
  rw[HP,hp];by_cases e:n+1=i
  .rw[e];have a:=a om;have:=Z7 a h4;exact⟨λq=>absurd q (aBh _),om⟩
  .have h3:=h (n+1) e;have:=Z7 (ZA (HP A n)) h3;exact⟨λq=>by have:=a om;omega,om⟩
theorem RM{n:Nat}(h:n<=13):4*3 ^ n<=6377292:=by
 have:(3:Nat) ^ n<=3 ^ 13:=Zo om h;omega
theorem Vd{A:List Nd}(h:VT A)(hH:3*HP A (A.length-1)<=6377292):∀p f i a0,i<f->i<A.length->(a8 A p f i a0).spans.length<=3200000:=λp f i a0 hf hi=>by
 have h1:=F2 h p f i a0 hf hi;have h2:=xB A (k:=i) (n:=A.length-1) om;omega
theorem XZ{A:List Nd}(h:∀j,gN (aI A j)<=3)(hl:A.length<=14):3*HP A (A.length-1)<=6377292:=by
 have h1:=(QE (A:=A) (i:=0) (λj _=>h j) (by have:=h 0;omega) (A.length-1)).2;have h2:=RM (n:=A.length-1) om;omega
structure Qn(A:List Nd):Prop where
 vt:VT A
 cnt:∀p f i a0,i<f->i<A.length->(a8 A p f i a0).spans.length<=4294967296
theorem VG{A:List Nd}(h:VT A)(hg:∀j,gN (aI A j)<=3)(hl:A.length<=14):Qn A:=
 ⟨h,λp f i a0 h1 h2=>by have:=Vd h (XZ hg hl) p f i a0 h1 h2;omega⟩
theorem Mh{B:List Nd}(h:VT B){out:List Int}{n:Nat}(hs:(ER B out).stop=(n:Int)):n<B.length/\((aI B n).kind=1\/(aI B n).kind=2):=by
 have hp:=h.pos;rcases Fa h out B.length (B.length-1) 0 om with h1|h1|⟨m,h1,h2,h3⟩
 .have:(ER B out).stop = -1:=h1;omega
 .have:(ER B out).stop = -2:=h1;omega
 .have e:(ER B out).stop=(m:Int):=h1;have:m=n:=om;subst this;exact⟨h2,h3⟩
theorem At{rd:Nat->Nat->x9}{a0:Nat}{k:Int}{ks:List Int}{s:Pt}(h:(rd k.toNat (a0+s.used)).stop = -1) :
  bQ rd a0 (k::ks) s=bQ rd a0 ks ⟨s.used+(rd k.toNat (a0+s.used)).used,s.vals++[(rd k.toNat (a0+s.used)).val],s.spans++(a0,a0+s.used,a0+s.used+(rd k.toNat (a0+s.used)).used)::(rd k.toNat (a0+s.used)).spans,-1⟩:=by
 rw[bQ,Y7 h]
theorem D9{rd:Nat->Nat->x9}{a0:Nat}{k:Int}{ks:List Int}{s:Pt}(h:¬(rd k.toNat (a0+s.used)).stop = -1):(bQ rd a0 (k::ks) s).stop=(rd k.toNat (a0+s.used)).stop:=by
 rw[bQ,Y3 h]
theorem Eu{rd rd':Nat->Nat->x9}{a0 m:Nat}(hu:∀k q,q<=m->q+(rd k q).used<=m)(hr:∀k q,q<=m->(rd k q).stop = -1->rd' k q=rd k q) :
  ∀(ks:List Int) (s:Pt),a0+s.used<=m->(bQ rd a0 ks s).stop = -1->bQ rd' a0 ks s=bQ rd a0 ks s
 | [],s,_,_=>rfl
 | k::ks,s,h0,h=>by
  by_cases hs:(rd k.toNat (a0+s.used)).stop = -1
  .have hr1:=hr _ _ h0 hs;rw[At hs] at h |-;rw[At (rd:=rd') (by rw[hr1];exact hs),hr1];have:=hu k.toNat (a0+s.used) h0;exact Eu hu hr ks _ J' h
  .rw[D9 hs] at h;exact absurd h hs
theorem Em{rd rd':Nat->Nat->x9}{a0 m:Nat}{n:Nat}(hu:∀k q,q<=m->q+(rd k q).used<=m)(hr:∀k q,q<=m->(rd k q).stop = -1->rd' k q=rd k q)(hb:∀k q,q<=m->(rd k q).stop=(n:Int)->(rd' k q).stop = -2) :
  ∀(ks:List Int) (s:Pt),a0+s.used<=m->s.stop = -1->(bQ rd a0 ks s).stop=(n:Int)->(bQ rd' a0 ks s).stop = -2
 | [],s,_,hs,h=>by
  rw[bQ] at h;omega
 | k::ks,s,h0,hs0,h=>by
  by_cases hs:(rd k.toNat (a0+s.used)).stop = -1
  .have hr1:=hr _ _ h0 hs;rw[At hs] at h;rw[At (rd:=rd') (by rw[hr1];exact hs),hr1];have:=hu k.toNat (a0+s.used) h0;exact Em hu hr hb ks _ J' rfl h
  .rw[D9 hs] at h;have h2:=hb _ _ h0 h;rw[D9 (rd:=rd') om];exact h2
theorem BI{p:List Int}{m a:Nat}(h:a<m):(p.take m).getD a 0=p.getD a 0:=by
 rw[Y0,Y0,Zb,Y7 h]
theorem Ig{A:List Nd}{p:List Int}{m:Nat}(hm:m<=p.length)(f i a0:Nat)(h:a0<=m):a0+(a8 A (p.take m) f i a0).used<=m:=by
 have hl:(p.take m).length=m:=cx
 have:=(wR (A:=A) (p.take m) f i a0 om).1;omega
theorem Dk{A:List Nd}{p:List Int}{m:Nat}(hm:m<=p.length):∀f i a0,a0<=m->(a8 A (p.take m) f i a0).stop = -1->a8 A p f i a0=a8 A (p.take m) f i a0
 | 0,i,a0,_,h=>rfl
 | f+1,i,a0,h0,h=>by
  have hl:(p.take m).length=m:=cx
  have ih:=λ(k q:Nat) (hq:q<=m)=>Dk (A:=A) hm f k q hq
  have hu:=λ(k q:Nat) (hq:q<=m)=>Ig (A:=A) hm f k q hq
  rw[a8] at h |-
  conv=>rhs;rw[a8]
  by_cases h1:(aI A i).kind=0
  .rw[Y7 h1,Y7 h1]
  .rw[Y3 h1] at h |-;rw[Y3 h1];by_cases h3:(aI A i).kind=3
   .rw[Y7 h3] at h |-;rw[Y7 h3];have:(bQ (λk q=>a8 A (p.take m) f k q) a0 (aI A i).kids ⟨0,[],[],-1⟩).stop = -1:=h;rw[Eu (rd:=λk q=>a8 A (p.take m) f k q) (rd':=λk q=>a8 A p f k q) hu ih _ _ (su h0) this]
   .rw[Y3 h3] at h |-;rw[Y3 h3];by_cases h4:(aI A i).kind=4
    .rw[Y7 h4] at h |-;rw[Y7 h4];by_cases hs:(a8 A (p.take m) f (bO (aI A i) 0) a0).stop = -1
     .rw[Y7 hs] at h;rw[ih _ _ h0 hs,Y7 hs];have:=hu (bO (aI A i) 0) a0 h0;rw[ih _ _ om h];rw[Y7 hs]
     .rw[Y3 hs] at h;exact absurd h hs
    .rw[Y3 h4] at h |-;rw[Y3 h4];by_cases hp:m<=a0
     .rw[Y7 om] at h;simp only at h;omega
     .rw[Y3 (show ¬(p.take m).length<=a0 by omega),BI om] at h;rw[Y3 (show ¬p.length<=a0 by omega),Y3 (show ¬(p.take m).length<=a0 by omega),BI om];by_cases hc:p.getD a0 0<0\/fK (aI A i)<=p.getD a0 0
      .rw[Y7 hc,Y7 hc]
      .rw[Y3 hc] at h;rw[Y3 hc,Y3 hc];by_cases hk:(aI A i).kind=1
       .rw[Y7 hk,Y7 hk]
       .rw[Y3 hk] at h;rw[Y3 hk,Y3 hk,ih _ _ om h]
theorem IC{A:List Nd}{p:List Int}{m n:Nat}(hm:m<p.length)(hc:p.getD m 0<0\/fK (aI A n)<=p.getD m 0):∀f i a0,a0<=m->(a8 A (p.take m) f i a0).stop=(n:Int)->(a8 A p f i a0).stop = -2
 | 0,i,a0,_,h=>by
  rw[a8] at h;simp only at h;omega
 | f+1,i,a0,h0,h=>by
  have hl:(p.take m).length=m:=cx
  have ih:=λ(k q:Nat) (hq:q<=m)=>IC (A:=A) hm hc f k q hq
  have ip:=λ(k q:Nat) (hq:q<=m)=>Dk (A:=A) (aAE hm) f k q hq
  have hu:=λ(k q:Nat) (hq:q<=m)=>Ig (A:=A) (aAE hm) f k q hq
  rw[a8] at h |-;by_cases h1:(aI A i).kind=0
  .rw[Y7 h1] at h;simp only at h;omega
  .rw[Y3 h1] at h |-;by_cases h3:(aI A i).kind=3
   .rw[Y7 h3] at h |-;exact Em (rd:=λk q=>a8 A (p.take m) f k q) (rd':=λk q=>a8 A p f k q) hu ip ih (aI A i).kids ⟨0,[],[],-1⟩ (su h0) rfl h
   .rw[Y3 h3] at h |-;by_cases h4:(aI A i).kind=4
    .rw[Y7 h4] at h |-;by_cases hs:(a8 A (p.take m) f (bO (aI A i) 0) a0).stop = -1
     .rw[Y7 hs] at h;rw[ip _ _ h0 hs,Y7 hs];have:=hu (bO (aI A i) 0) a0 h0;exact ih _ _ om h
     .rw[Y3 hs] at h;have h2:=ih _ _ h0 h;rw[Y3 om];exact h2
    .rw[Y3 h4] at h |-;by_cases hp:m<=a0
     .rw[Y7 om] at h;simp only at h;have e1:i=n:=om;have e2:a0=m:=om;subst e1 e2;rw[Y3 om,Y7 hc]
     .rw[Y3 (show ¬(p.take m).length<=a0 by omega),BI om] at h;rw[Y3 (show ¬p.length<=a0 by omega)];by_cases hc':p.getD a0 0<0\/fK (aI A i)<=p.getD a0 0
      .rw[Y7 hc']
      .rw[Y3 hc'] at h |-;by_cases hk:(aI A i).kind=1
       .rw[Y7 hk] at h;simp only at h;omega
       .rw[Y3 hk] at h |-;exact ih _ _ om h
structure Hg(b:Nat)(a:Fr):Prop where
 can:Can a
 pos:0<a.p
 le:a.p<=(a.q:Int)
 lt:a.q<=b
theorem Jn{p q:Int}{b:Nat}(hp:0<p)(hq:p<=q)(hb:q<=(b:Int)):Hg b (mkF p q):=by
 have hc:=Lb (p:=p) (q:=q) om;have hg:0<Nat.gcd p.natAbs q.natAbs:=Nat.gcd_pos_of_pos_left _ om;obtain⟨x,hx⟩:=aAM p.natAbs q.natAbs;obtain⟨y,hy⟩:=aBn p.natAbs q.natAbs;obtain⟨g,hgd⟩:∃g,g=Nat.gcd p.natAbs q.natAbs:=cm
 rw[<-hgd] at hg hx hy;have hp':p=((g*x:Nat):Int):=om;have hq':q=((g*y:Nat):Int):=om;have e:mkF p q=⟨(x:Int),y⟩:=by
  unfold mkF;rw[<-hgd,Y3 om,hy,aAN _ hg,hp',Int.natCast_mul,aAX _ om]
 rw[e] at hc |-;have hxp:0<x:=by
  rcases ZF x with h|h
  .subst h;simp at hp';omega
  .exact h
 have hxy:x<=y:=by
  have:g*x<=g*y:=om;exact Nat.le_of_mul_le_mul_left this hg
 have hyb:y<=g*y:=Nat.le_mul_of_pos_left _ hg;exact⟨hc,by simp only;omega,by simp only;omega,by simp only;omega⟩
theorem Pk{a b:Fr}{m n:Nat}(ha:Hg m a)(hb:Hg n b)(hmn:m*n<q6):p7 a b=(mkF (a.p*b.p) (a.q*b.q),0)/\Hg (m*n) (p7 a b).1:=by
 have hq:(a.q:Int)*b.q<=((m*n:Nat):Int):=by
  have:=Z7 ha.lt hb.lt;rw[<-Int.natCast_mul];omega
 have h:=Jn (p:=a.p*b.p) (q:=(a.q:Int)*b.q) (Int.mul_pos ha.pos hb.pos) (Int.mul_le_mul ha.le hb.le (Int.le_of_lt hb.pos) om) hq;have e:p7 a b=(mkF (a.p*b.p) (a.q*b.q),0):=by
  unfold p7 EX;have h1:eY (mkF (a.p*b.p) (a.q*b.q)).p=true:=by
   unfold eY;have:=h.pos;have:=h.le;have:=h.lt;exact Y8 om
  have h2:eY ((mkF (a.p*b.p) (a.q*b.q)).q:Int)=true:=by
   unfold eY;have:=h.lt;exact Y8 om
  rw[Y7 ⟨h1,h2⟩]
 rw[e];exact⟨rfl,h⟩
def ES(l:List Fr):Fr:=l.foldl (λa b=>(p7 a b).1) ⟨1,1⟩
theorem JW(l:List Fr)(f:Fr):ES (l++[f])=(p7 (ES l) f).1:=by unfold ES;rw[Z4];rfl
theorem VQ:Hg 1 ⟨1,1⟩:=⟨⟨by decide,by decide⟩,by decide,by decide,by decide⟩
theorem qF{k:Nat}(hk:k<=257):(2 ^ 40) ^ k<q6:=by
 have a:∀e,40*k<e->2 ^ (40*k)<2 ^ e:=λe h=>Nat.pow_lt_pow_right H' h
 rw[G1,<-Nat.pow_mul];exact a 16384 om
theorem Dm(l:List Fr)(hl:∀f∈l,Hg (2 ^ 40) f):∀k,k<=l.length->k<=256->Hg ((2 ^ 40) ^ k) (ES (l.take k))
 | 0,_,_=>by simpa[ES] using VQ
 | k+1,h,hk=>by
  have ih:=Dm l hl k om om;have hlt:k<l.length:=om;rw[ZE hlt,JW,Nat.pow_succ];exact(Pk ih (hl _ (Za hlt)) (by rw[<-Nat.pow_succ];exact qF om)).2
theorem IU(l:List Fr)(hl:∀f∈l,Hg (2 ^ 40) f){k:Nat}(h:k<l.length)(hk:k<256):p7 (ES (l.take k)) l[k]=(ES (l.take (k+1)),0):=by
 have ih:=Dm l hl k om om;have h1:=(Pk ih (hl _ (Za h)) (by rw[<-Nat.pow_succ];exact qF om)).1;have e:ES (l.take (k+1))=(p7 (ES (l.take k)) l[k]).1:=by rw[ZE h,JW]
 rw[e,h1]
def Ei(x:Nd)(c:Int):Fr:=if x.kind=2 then mkF (x.weights.getD c.toNat 0) (q7 x.weights) else mkF 1 (x.hi-x.lo+1)
def mP(A:List Nd)(p:List Int):List Fr:=(List.range p.length).map λi=>Ei (aI A ((ER A (p.take i)).stop.toNat)) (p.getD i 0)
theorem oF(A:List Nd)(p:List Int):(mP A p).length=p.length:=by simp[mP]
theorem Cu{A:List Nd}{p:List Int}{i:Nat}(h:i<(mP A p).length):(mP A p)[i]=Ei (aI A ((ER A (p.take i)).stop.toNat)) (p.getD i 0):=by simp[mP]
structure uH(A:List Nd)(p:List Int):Prop where
 len:p.length<=256
 i64:∀x∈p,i64 x
 stop:(ER A p).stop = -1
 used:(ER A p).used=p.length
 step:∀i,i<p.length->∃n:Nat,n<A.length/\(ER A (p.take i)).stop=(n:Int)/\((aI A n).kind=1\/(aI A n).kind=2)/\0<=p.getD i 0/\p.getD i 0<fK (aI A n)
theorem CV:∀(l:List Int) (s:Int) (k:Nat),(∀w∈l,1<=w/\w<=1000)->k<l.length->s+l.getD k 0<=l.foldl (· + ·) s
 | [],s,k,_,h=>by simp at h
 | a::l,s,0,h,_=>by
  have h1:=(wH l (s+a) λw hw=>h w (ZN _ hw)).1;simp only[Zh,List.getD_cons_zero];omega
 | a::l,s,k+1,h,hk=>by
  have h1:=CV l (s+a) k (λw hw=>h w (ZN _ hw)) (su hk);have h2:=(h a (ZX ..)).1;simp only[Zh,List.getD_cons_succ];omega
theorem Qo{A:List Nd}(h:VT A){n:Nat}(hn:n<A.length)(hk:(aI A n).kind=1\/(aI A n).kind=2){c:Int}(h0:0<=c)(h1:c<fK (aI A n)):Hg (2 ^ 40) (Ei (aI A n) c):=by
 have hx:=cS hn;have g:=h.node hx;have hw:=yJ g.node.num;have hwl:=λh2=>h.wlen hx h2
 have hr:=g.opt.rng;have hkl:=g.opt.klen;generalize aI A n=x at *;unfold Ei;unfold fK at h1;by_cases h2:x.kind=2
 .rw[Y7 h2];rw[Y3 om] at h1;obtain⟨l1,l2⟩:=hwl h2;have hc:c.toNat<x.weights.length:=om;have h3:=CV x.weights 0 c.toNat hw hc;have h4:=(wH x.weights 0 hw).2;have h5:1<=x.weights.getD c.toNat 0:=by
   rw[Y0,Yz hc];exact(hw _ (Za hc)).1
  unfold q7;refine Jn om om ?_;rw[show (2:Nat) ^ 40=1099511627776 by decide];omega
 .rw[Y3 h2];refine Jn om om ?_;rw[show (2:Nat) ^ 40=1099511627776 by decide];omega
theorem HM{A:List Nd}(h:VT A){p:List Int}(hp:uH A p):∀f∈mP A p,Hg (2 ^ 40) f:=λf hf=>by
 obtain⟨i,hi,rfl⟩:=aBP hf;have hi':i<p.length:=by rw[oF] at hi;exact hi
 rw[Cu];obtain⟨n,h1,h2,h3,h4,h5⟩:=hp.step i hi';rw[h2,Y1];exact Qo h h1 h3 h4 h5
end Go.Ax
