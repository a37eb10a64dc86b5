/- A part of the proof. -/
import Derived.Test.YthggfhnnkclooaaGreatDoorAx11
import Derived.Recover
set_option linter.unusedSectionVars false
set_option linter.unusedVariables false
set_option linter.unusedSimpArgs false
set_option maxRecDepth 1000000
set_option maxHeartbeats 16000000
namespace Go.Ax
open Go
structure Mt where
 old:Nat
 now:Nat
 opts:List Int
 same:List Bool
def pF(l:List Bool):List AV:=l.map AV.bool
def O8(m:Mt):AV:=.agg [.int .i64 m.old,.int .i64 m.now,.il 1 (aV m.opts),.il 1 (pF m.same)]
def oD(l:List Mt):List AV:=l.map O8
theorem l9(l:List Bool):jU (pF l):=λa ha=>by
 obtain⟨n,_,rfl⟩:=ZL.1 ha;exact .bool _
theorem oO(l:List Bool):(pF l).length=l.length:=by simp[pF]
theorem SM(m:Mt):NN (O8 m):=.agg' (.cons (.int _ _) (.cons (.int _ _) (.cons (.il' (aT _)) (.cons (.il' (l9 _)) .nil))))
theorem eB(l:List Mt):jU (oD l):=λa ha=>by
 obtain⟨n,_,rfl⟩:=ZL.1 ha;exact SM _
theorem oM(l:List Mt):(oD l).length=l.length:=by simp[oD]
theorem Mx(l:List Mt)(i:Nat):(oD l)[i]? = (l[i]?).map O8:=by rw[oD,ZT]
theorem KZ(l:List Mt)(m:Mt):oD (l++[m])=oD l++[O8 m]:=by simp[oD]
def Ap(l:List bD)(v:bD):Int × Bool:=((kJ l v).1,(kJ l v).2)
def rW(x y:Nd):List (Int × Bool):=
 if x.kind=2/\y.kind=2 then(List.range x.kids.length).map λk:Nat=>Al x y k
 else if x.kind=4/\y.kind=4 then x.values.map (Ap y.values) else []
def aD(l:List Nd)(i:Nat):Nd:=l.getD i ⟨0,[],0,0,[],[],[],[],.mk 0 0 [] []⟩
theorem eA{l:List Nd}{i:Nat}{x:Nd}(h:l[i]? = some x):aD l i=x:=by unfold aD;rw[Yx,h];rfl
def bF(y:Nd)(k:Int):Nat:=(y.kids.getD k.toNat 0).toNat
def qY(x y:Nd):List (Nat × Nat):=
 if x.kind≠y.kind then []
 else if x.kind=2 then(x.kids.zip (rW x y)).map λp=>(p.1.toNat,bF y p.2.1)
 else if x.kind=3 then(x.kids.zip y.kids).map λp=>(p.1.toNat,p.2.toNat)
 else if x.kind=4 then(bF x 0,bF y 0)::((x.kids.drop 1).zip (rW x y)).map λp=>(p.1.toNat,bF y (p.2.1+1))
 else []
def iH(L:List Mt)(o n:Nat):Bool:=L.any λm=>decide (m.old=o) && decide (m.now=n)
def Kb(x y:Nd)(o n:Nat):Mt:=⟨o,n,(rW x y).map (·.1),(rW x y).map (·.2)⟩
def iI(A B:List Nd):Nat->Nat->Nat->List Mt->List Mt
 | 0,_,_,L=>L
 | f+1,o,n,L=>if iH L o n=true then L else
   (qY (aD A o) (aD B n)).foldl (λL p=>iI A B f p.1 p.2 L) (L++[Kb (aD A o) (aD B n) o n])
def dU(A:List Nd):Bool:=decide (0<A.length) && decide (cR A=0)
def qG(A B:List Nd):List Mt:=if dU A=true/\dU B=true then iI A B A.length (A.length-1) (B.length-1) [] else []
def pJ(x y:Nd):Bool:=(decide (x.kind=y.kind) && (decide (x.lo=y.lo) && (decide (x.hi=y.hi) && (decide (x.kids.length=y.kids.length) && decide (x.name=y.name))))) && decide (x.weights=y.weights) && decide (x.labels=y.labels) && dC x.values y.values && (cN x.value y.value == 0)
structure eG(A:List Nd):Prop where
 ok:∀x∈A,sU x
 val:∀x∈A,bN x.value<=1048576
 vals:∀x∈A,∀v∈x.values,bN v<=1048576
 vlen:∀x∈A,x.values.length<=2000
 klen:∀x∈A,x.kids.length<=2000
 llen:∀x∈A,x.labels.length<=1000
 lab:∀x∈A,∀s∈x.labels,s.length<=1000
 len:A.length<=1000
structure Tk(A:List Nd)(i:Nat)(x:Nd):Prop where
 opt:AU x
 node:F4 i x
 srt:lK x.values
 val:∀v∈x.values,iG v
theorem u5:∀{l:List bD},fX l=true->lK l
 | [],_=>by simp[lK]
 | [a],_=>by simp[lK]
 | a::b::r,h=>by
  simp only[fX,Y1,ZR] at h;have ih:=u5 h.2;unfold lK at ih |-;refine Zn.2 ⟨λx hx=>?_,ih⟩;rcases Y6.1 hx with rfl|hx
  .exact h.1
  .have:=(Zn.1 ih).1 x hx;exact Io h.1 om
theorem goodT{A:List Nd}(h:eG A)(hv:cR A=0){i:Nat}{x:Nd}(hx:A[i]? = some x):Tk A i x:=by
 have hxm:=Y2 hx;have hv0:cH [] A=0:=by
  unfold cR at hv;split at hv
  .omega
  .exact hv
 have hn:=nK A hv0 i x hx;have hN:=nL hn;have hf:=iU hn;have hfp:=oU hf;have hk:=h.klen x hxm;refine⟨⟨h.ok x hxm,cQ hN.num,om,λe=>by have:=hN.klen om;omega,λe=>?_⟩,hN, ?_,λv hv=>((h.ok x hxm).valuesI v hv).1⟩
 .refine⟨hfp.1 e, ?_⟩;unfold dL at hf;simp only[Y1,Z0,ZR] at hf;rcases hf.1.1.1.2 with h2|h2
  .exact absurd e h2
  .exact h2.2
 .unfold dL at hf;simp only[Y1] at hf;exact u5 hf.2
theorem M1{a b:Nd}{k:Nat}(ha:AU a)(hb:AU b)(h:(zW a b k).2=true)(ha2:a.kind=2)(hb2:b.kind=2)(hk:k<a.kids.length):0<=(zW a b k).1/\(zW a b k).1<b.kids.length:=by
 unfold zW at h |-;rw[Yz om,Yz om] at h |-;split at h
 .rename_i h1;rw[Y4 h1];simp at h |-;omega
 .rename_i h1;rw[Yz h1];rw[not_or] at h1;have hbl:b.labels.length=b.kids.length:=by have:=(hb.ch hb2).2;omega
  split at h
  .rename_i h2;rw[Y4 h2];simp only;omega
  .rename_i h2;rw[Yz h2];simp only[ZR] at h |-;have:=EF (s:=a.labels.getD k []) b.labels 0;unfold ER at h |-;omega
theorem Fh{a b:Nd}{k:Nat}(ha:AU a)(hb:AU b)(ha2:a.kind=2)(hb2:b.kind=2)(hk:k<a.kids.length):0<=(Al a b k).1/\(Al a b k).1<b.kids.length:=by
 have h1:=(hb.ch hb2).1;have ea:gX a=a.kids.length:=by unfold gX;rw[Yz om,Y4 ha2]
 have eb:gX b=b.kids.length:=by unfold gX;rw[Yz om,Y4 hb2]
 unfold Al;rw[Yz om,Yz om,Yy];split
 .rename_i h;exact M1 ha hb h ha2 hb2 hk
 .rw[eb];simp only;omega
theorem I3{v:bD}:∀{l:List bD},(cE l v).2=true->(cE l v).1<l.length
 | [],h=>by simp[cE] at h
 | a::r,h=>by
  simp only[cE] at h |-;split at h
  .rename_i h1;rw[Y4 h1];simp
  .rename_i h1;have:=I3 (l:=r) h;rw[Yz h1];simp only[Zc];omega
theorem DV{l:List bD}(v:bD)(h:0<l.length):(kJ l v).1<l.length:=by
 have hle:=rQ l v;unfold kJ;split
 .rename_i hf;have:=I3 hf;exact this
 .split
  .simpa using h
  .split
   .rename_i a b e1 e2;have:=(Y0.1 e2).1;split
    .simp only;omega
    .simp only;omega
   .simp only;omega
theorem A9{A:List Nd}(ho:∀x∈A,sU x)(hv:cR A=0){i:Nat}{x:Nd}(hx:A[i]? = some x)(h4:x.kind=4):1<=x.values.length:=by
 have hv0:cH [] A=0:=by
  unfold cR at hv;split at hv
  .omega
  .exact hv
 have hi:=(Y0.1 hx).1;have hpre:cH [] (A.take i)=0:=by
  have:=hv0;rw[<-List.take_append_drop i A] at this;exact jO this
 obtain⟨q,hq,-⟩:=GN (ns:=A.take i) (λy hy=>ho y (Zg hy)) hpre (x:=x) (.inr h4) (mX A hv0 i x hx);have hb:=(nL (nK A hv0 i x hx)).bind h4;unfold eQ at hq;rw[Yz om] at hq;have:=List.length_pos_of_mem hq;simp at this;omega
theorem Cu{A:List Nd}{n:Nat}{y:Nd}(hy:F4 n y){k:Int}(h0:0<=k)(h1:k<y.kids.length):bF y k<n/\∃q:Int,y.kids[k.toNat]? = some q/\q=bF y k:=by
 have hk:k.toNat<y.kids.length:=om;obtain⟨a,b⟩:=hy.kids k.toNat _ (Yw hk);unfold bF;rw[Yx,Yw hk];simp only[aAt];exact⟨om,_,rfl,om⟩
theorem Gk{x y:Nd}:(x.kind=2/\y.kind=2->(rW x y).length=x.kids.length)/\(x.kind=4/\y.kind=4->(rW x y).length=x.values.length):=by
 refine⟨λh=>?_,λh=>?_⟩
 .unfold rW;rw[Y4 h];simp
 .unfold rW;rw[Yz om,Y4 h];simp
theorem Pl{x y:Nd}(h:x.kind=2/\y.kind=2){k:Nat}(hk:k<x.kids.length):(rW x y)[k]? = some (Al x y k):=by
 unfold rW;rw[Y4 h,ZT,aBS hk];rfl
theorem QP{x y:Nd}(h:x.kind=4/\y.kind=4){k:Nat}{v:bD}(hk:x.values[k]? = some v):(rW x y)[k]? = some (Ap y.values v):=by
 unfold rW;rw[Yz om,Y4 h,ZT,hk];rfl
theorem Gn{A B:List Nd}(hA:eG A)(hB:eG B)(vA:cR A=0)(vB:cR B=0){o n:Nat}{x y:Nd}(hx:A[o]? = some x)(hy:B[n]? = some y):∀p∈qY x y,p.1<o/\p.2<n:=by
 have gx:=goodT hA vA hx;have gy:=goodT hB vB hy;have kx:∀k∈x.kids,0<=k/\k<o:=λk hk=>by
  obtain⟨j,hj⟩:=ZV hk;exact gx.node.kids j k hj
 have ky:∀k∈y.kids,0<=k/\k<n:=λk hk=>by
  obtain⟨j,hj⟩:=ZV hk;exact gy.node.kids j k hj
 intro p hp;unfold qY at hp;split at hp
 .simp at hp
 .rename_i hk;have hk:x.kind=y.kind:=Decidable.not_not.1 hk;split at hp
  .rename_i h2;obtain⟨⟨q,c⟩,hq,rfl⟩:=ZL.1 hp;have h1:=kx q (aA6 hq).1;have hc:=(aA6 hq).2;unfold rW at hc;rw[Y4 ⟨h2,om⟩] at hc;obtain⟨j,hj,rfl⟩:=ZL.1 hc;have hr:=Fh gx.opt gy.opt h2 om (aAL.1 hj);exact⟨by simp only;omega,(Cu (A:=A) gy.node hr.1 hr.2).1⟩
  .split at hp
   .obtain⟨⟨q,c⟩,hq,rfl⟩:=ZL.1 hp;have h1:=kx q (aA6 hq).1;have h2:=ky c (aA6 hq).2;exact⟨by simp only;omega,by simp only;omega⟩
   .split at hp
    .rename_i h4;have bx:=gx.node.bind h4;have by_:=gy.node.bind om;have vy:=A9 hB.ok vB hy om;rcases Y6.1 hp with rfl|hp
     .exact⟨(Cu (A:=A) gx.node om om).1,(Cu (A:=A) gy.node om om).1⟩
     .obtain⟨⟨q,c⟩,hq,rfl⟩:=ZL.1 hp;have h1:=kx q (Zr (aA6 hq).1);have hc:=(aA6 hq).2;unfold rW at hc;rw[Yz om,Y4 ⟨h4,om⟩] at hc;obtain⟨v,hv,rfl⟩:=ZL.1 hc;have hr:=DV (l:=y.values) v om;unfold Ap;exact⟨by simp only;omega,(Cu (A:=A) gy.node (by simp only;omega) (by simp only;omega)).1⟩
    .simp at hp
def PX(a b:Nat)(L:List Mt):Nat:=((List.range (a*b)).filter λc=>!iH L (c/b) (c%b)).length
def vI(a b:Nat)(L:List Mt):Prop:=L.length+PX a b L<=a*b
theorem wR(L:List Mt)(m:Mt)(o n:Nat):iH (L++[m]) o n=(iH L o n || (decide (m.old=o) && decide (m.now=n))):=by simp[iH]
theorem Lu(a b:Nat):vI a b []:=by
 unfold vI PX;have:=List.length_filter_le (λc=>!iH [] (c/b) (c%b)) (List.range (a*b));simp only[List.length_range,aAr] at this |-;omega
theorem H8{a b:Nat}{L:List Mt}{m:Mt}(h:vI a b L)(ho:m.old<a)(hn:m.now<b)(hi:iH L m.old m.now=false):vI a b (L++[m]):=by
 unfold vI PX at h |-;have e:(List.range (a*b)).filter (λc=>!iH (L++[m]) (c/b) (c%b))=((List.range (a*b)).filter λc=>!iH L (c/b) (c%b)).filter (λc=>!(decide (m.old=c/b) && decide (m.now=c%b))):=by
  rw[List.filter_filter];congr 1
  funext c
  rw[wR,Bool.not_or,Bool.and_comm]
 rw[e];have hlt:(((List.range (a*b)).filter λc=>!iH L (c/b) (c%b)).filter (λc=>!(decide (m.old=c/b) && decide (m.now=c%b)))).length<((List.range (a*b)).filter λc=>!iH L (c/b) (c%b)).length:=by
  rw[List.length_filter_lt_length_iff_exists];have h1:(m.now+b*m.old)/b=m.old:=by rw[aBN _ _ om,aAj hn];omega
  have h2:(m.now+b*m.old)%b=m.now:=by rw[aBt,Zs hn]
  refine⟨m.now+b*m.old,Zd.2 ⟨aAL.2 ?_, ?_⟩, ?_⟩
  .have:b*(m.old+1)<=b*a:=Zl _ ho;rw[ZX a b];rw[Nat.mul_add] at this;omega
  .rw[h1,h2,hi];rfl
  .rw[h1,h2];simp
 simp only[ZA,ZZ];omega
theorem vX{A B:List Nd}(hA:eG A)(hB:eG B)(vA:cR A=0)(vB:cR B=0):∀(f o n:Nat) (L:List Mt),o<A.length->n<B.length->vI A.length B.length L->vI A.length B.length (iI A B f o n L)
 | 0,_,_,_,_,_,h=>h
 | f+1,o,n,L,ho,hn,h=>by
  unfold iI;split
  .exact h
  .rename_i hi;have hx:=Yw ho;have hy:=Yw hn;have hp:=Gn hA hB vA vB hx hy;rw[eA hx,eA hy];have h1:vI A.length B.length (L++[Kb A[o] B[n] o n]):=H8 h ho hn (by simpa[Kb] using hi);generalize L++[Kb A[o] B[n] o n]=L1 at h1;generalize qY A[o] B[n]=ps at hp
   induction ps generalizing L1 with
   | nil=>exact h1
   | cons p r ih=>
    simp only[ZY];have h2:=hp p sq;exact ih _ (vX hA hB vA vB f p.1 p.2 L1 om om h1) (λq hq=>hp q (by simp[hq]))
theorem LO{A B:List Nd}(hA:eG A)(hB:eG B){L:List Mt}(h:vI A.length B.length L):L.length<=1000000:=by
 have:A.length*B.length<=1000*1000:=Z5 hA.len hB.len;unfold vI at h;omega
theorem GE{A B:List Nd}(hA:eG A)(hB:eG B)(vA:cR A=0)(vB:cR B=0):∀(f o n:Nat) (L:List Mt),o<A.length->n<B.length->(∀m∈L,m.old<A.length/\m.now<B.length)->∀m∈iI A B f o n L,m.old<A.length/\m.now<B.length
 | 0,_,_,_,_,_,h=>h
 | f+1,o,n,L,ho,hn,h=>by
  unfold iI;split
  .exact h
  .have hx:=Yw ho;have hy:=Yw hn;have hp:=Gn hA hB vA vB hx hy;rw[eA hx,eA hy];have h1:∀m∈L++[Kb A[o] B[n] o n],m.old<A.length/\m.now<B.length:=λm hm=>by
    rcases ZI.1 hm with hm|hm
    .exact h m hm
    .simp at hm;subst hm;exact⟨ho,hn⟩
   generalize L++[Kb A[o] B[n] o n]=L1 at h1;generalize qY A[o] B[n]=ps at hp
   induction ps generalizing L1 with
   | nil=>exact h1
   | cons p r ih=>
    simp only[ZY];have h2:=hp p sq;exact ih _ (GE hA hB vA vB f p.1 p.2 L1 om om h1) (λq hq=>hp q (by simp[hq]))
theorem jX{A:List Nd}(h:dU A=true):0<A.length/\cR A=0:=by
 unfold dU at h;simp only[Y1,ZR] at h;exact h
theorem Pf{A B:List Nd}(hA:eG A)(hB:eG B):∀m∈qG A B,m.old<A.length/\m.now<B.length:=by
 unfold qG;split
 .rename_i h;obtain⟨a1,a2⟩:=jX h.1;obtain⟨b1,b2⟩:=jX h.2;exact GE hA hB a2 b2 _ _ _ _ om om sq
 .simp
theorem Qg{A B:List Nd}(hA:eG A)(hB:eG B):(qG A B).length<=1000000:=by
 unfold qG;split
 .rename_i h;obtain⟨a1,a2⟩:=jX h.1;obtain⟨b1,b2⟩:=jX h.2;exact LO hA hB (vX hA hB a2 b2 _ _ _ _ om om (Lu _ _))
 .simp
def Dr(A B:List Nd)(L:List Mt):Nat:=(L.filter λm=>!pJ (aD A m.old) (aD B m.now)).length
def eC(A B:List Nd):Nat:=if dU A=true/\dU B=true then Dr A B (qG A B) else if A.length=0/\B.length=0 then 0 else 1
theorem NT(A B:List Nd)(L:List Mt)(m:Mt):Dr A B (L++[m])=Dr A B L+if pJ (aD A m.old) (aD B m.now)=true then 0 else 1:=by
 unfold Dr;rw[List.filter_append,ZA];cases h:pJ (aD A m.old) (aD B m.now)<;>simp[h]
theorem SQ(A B:List Nd)(L:List Mt):Dr A B L<=L.length:=List.length_filter_le _ _
theorem Ay(a:bD):cN a a=0:=(jY a).refl
theorem mY{l:List bD}(h:lK l){x:bD}(hx:x∈l):∃k,cE l x=(k,true)/\k<l.length/\l[k]? = some x:=by
 obtain⟨k,hk,rfl⟩:=aBT hx;have hg:l[k]? = some l[k]:=Yw hk;refine⟨k, ?_,hk,hg⟩;rw[rE (aBa hk) (λp a hp ha=>lK.get h hp ha hg) (λa ha=>by rw[hg] at ha;cases ha;rw[Ay];omega)];unfold EM;rw[hg];simp[Ay]
end Go.Ax
namespace Go.Ax
open Go
abbrev Sp:=Nat × Nat × Nat
def vZ:bD:=.mk 0 0 [] []
structure Ba where
 val:bD
 used:Nat
 stop:Int
 spans:List Sp
structure Pt where
 used:Nat
 vals:List bD
 spans:List Sp
 stop:Int
def fA(x:Nd):Int:=if x.kind=1 then x.hi-x.lo+1 else x.kids.length
def bO(rd:Nat->Nat->Ba)(a0:Nat):List Int->Pt->Pt
 | [],s=>s
 | k::ks,s=>
  if (rd k.toNat (a0+s.used)).stop = -1 then
   bO rd a0 ks ⟨s.used+(rd k.toNat (a0+s.used)).used,s.vals++[(rd k.toNat (a0+s.used)).val],s.spans++(a0,a0+s.used,a0+s.used+(rd k.toNat (a0+s.used)).used)::(rd k.toNat (a0+s.used)).spans,-1⟩
  else⟨s.used+(rd k.toNat (a0+s.used)).used,s.vals++[(rd k.toNat (a0+s.used)).val],s.spans++(a0,a0+s.used,a0+s.used+(rd k.toNat (a0+s.used)).used)::(rd k.toNat (a0+s.used)).spans,(rd k.toNat (a0+s.used)).stop⟩
def I9(x:Nd)(s:Pt):Ba:=⟨if s.stop = -1 then d8 x.name s.vals else vZ,s.used,s.stop,s.spans⟩
def bG(A:List Nd)(p:List Int):Nat->Nat->Nat->Ba
 | 0,_,_=>⟨vZ,0,-2,[]⟩
 | f+1,i,a0=>
  if (aD A i).kind=0 then⟨(aD A i).value,0,-1,[]⟩
  else if (aD A i).kind=3 then I9 (aD A i) (bO (λk q=>bG A p f k q) a0 (aD A i).kids ⟨0,[],[],-1⟩)
  else if (aD A i).kind=4 then
   if (bG A p f (bF (aD A i) 0) a0).stop = -1 then
    ⟨(bG A p f (bF (aD A i) ((cE (aD A i).values (bG A p f (bF (aD A i) 0) a0).val).1+1:Nat)) (a0+(bG A p f (bF (aD A i) 0) a0).used)).val,
     (bG A p f (bF (aD A i) 0) a0).used+(bG A p f (bF (aD A i) ((cE (aD A i).values (bG A p f (bF (aD A i) 0) a0).val).1+1:Nat)) (a0+(bG A p f (bF (aD A i) 0) a0).used)).used,
     (bG A p f (bF (aD A i) ((cE (aD A i).values (bG A p f (bF (aD A i) 0) a0).val).1+1:Nat)) (a0+(bG A p f (bF (aD A i) 0) a0).used)).stop,
     (bG A p f (bF (aD A i) 0) a0).spans++(bG A p f (bF (aD A i) ((cE (aD A i).values (bG A p f (bF (aD A i) 0) a0).val).1+1:Nat)) (a0+(bG A p f (bF (aD A i) 0) a0).used)).spans⟩
   else bG A p f (bF (aD A i) 0) a0
  else if p.length<=a0 then⟨vZ,0,i,[]⟩
  else if p.getD a0 0<0\/fA (aD A i)<=p.getD a0 0 then⟨vZ,0,-2,[]⟩
  else if (aD A i).kind=1 then⟨.mk 0 ((aD A i).lo+p.getD a0 0) [] [],1,-1,[]⟩
  else⟨(bG A p f (bF (aD A i) (p.getD a0 0)) (a0+1)).val,(bG A p f (bF (aD A i) (p.getD a0 0)) (a0+1)).used+1,(bG A p f (bF (aD A i) (p.getD a0 0)) (a0+1)).stop,(bG A p f (bF (aD A i) (p.getD a0 0)) (a0+1)).spans⟩
structure VT(A:List Nd):Prop where
 tin:eG A
 val:cR A=0
 pos:0<A.length
section
variable {A:List Nd}
theorem VT.v0(h:VT A):cH [] A=0:=by
 have hv:=h.val;unfold cR at hv;split at hv
 .omega
 .exact hv
theorem VT.set(h:VT A):iL A A.length:=⟨Y8 _,by have:=h.tin.len;omega,h.tin.ok,by rw[ZJ];exact h.v0⟩
theorem VT.node(h:VT A){i:Nat}{x:Nd}(hx:A[i]? = some x):Tk A i x:=goodT h.tin h.val hx
theorem cG{i:Nat}(hi:i<A.length):A[i]? = some (aD A i):=by
 unfold aD;rw[Yx,Yw hi];rfl
theorem VT.kid(h:VT A){i:Nat}{x:Nd}(hx:A[i]? = some x){j:Nat}(hj:j<x.kids.length):bF x j<i/\x.kids[j]? = some (bF x j:Int):=by
 have hi:=(Y0.1 hx).1;obtain⟨h1,q,h2,h3⟩:=Cu (A:=A) (h.node hx).node (k:=(j:Int)) om om;refine⟨h1, ?_⟩;rw[Yy] at h2;rw[h2,h3]
theorem VT.lst(h:VT A){i:Nat}{x:Nd}(hx:A[i]? = some x):dV (aS A) i=dQ x (aS A):=h.set.at (Y0.1 hx).1 hx
theorem A0:∀{l m:List bD},dC l m=true->l=m
 | [],[],_=>rfl
 | a::l,b::m,h=>by
  simp only[dC,Y1,ZR] at h;rw[FO a b h.1,A0 h.2]
 | [],b::m,h=>by simp[dC] at h
 | a::l,[],h=>by simp[dC] at h
theorem VT.bind(h:VT A){i:Nat}{x:Nd}(hx:A[i]? = some x)(h4:x.kind=4):x.kids.length=x.values.length+1/\1<=x.values.length/\(dV (aS A) (bF x 0)).many=false/\(dV (aS A) (bF x 0)).vals=x.values:=by
 have hi:=(Y0.1 hx).1;have hb:=(h.node hx).node.bind h4;have h1:=A9 h.tin.ok h.val hx h4;refine⟨hb,h1, ?_⟩;obtain⟨k1,k2⟩:bF x 0<i/\x.kids[0]? = some (bF x 0:Int):=h.kid hx (j:=0) om;have hs:=(gD (mX A h.v0 i x hx)).2.2.2 h4;have e0:x.kids.getD 0 0=(bF x 0:Int):=by rw[Yx,k2];rfl
 unfold jC at hs;rw[e0,Yy,aBe,Z1 om,kT om om om] at hs;simp only at hs;split at hs
 .omega
 .rename_i hm;split at hs
  .rename_i hsv;exact⟨su hm,A0 hsv⟩
  .omega
end
def ML(bs:List iF):List Int->List bD->Prop
 | [],[]=>True
 | k::ks,v::vs=>((dV bs k).many=false->v∈(dV bs k).vals)/\ML bs ks vs
 | _,_=>False
theorem Fi{bs:List iF}:∀(ks:List Int) (vs:List bD) (rows out:List (List bD)) (r:List bD),fM bs ks rows=some out->r∈rows->ML bs ks vs->r++vs∈out
 | [],[],rows,out,r,h,hr,_=>by simp only[fM] at h;cases h;simpa using hr
 | [],v::vs,rows,out,r,h,hr,ha=>ha.elim
 | k::ks,[],rows,out,r,h,hr,ha=>ha.elim
 | k::ks,v::vs,rows,out,r,h,hr,ha=>by
  simp only[fM] at h;split at h
  .cases h
  .rename_i hm;rw[not_or] at hm;have hv:=ha.1 (by simpa using hm.1);have:=Fi ks vs _ out (r++[v]) h (by
    unfold gU;exact aB8.2 ⟨r,hr,ZL.2 ⟨v,hv,rfl⟩⟩) ha.2
   simpa using this
theorem I0{bs:List iF}:∀(ks:List Int) (a:List bD × Bool),(ks.foldl (bU bs) a).2=false->(∀v∈a.1,v∈(ks.foldl (bU bs) a).1)/\∀k∈ks,(dV bs k).many=false/\∀v∈(dV bs k).vals,v∈(ks.foldl (bU bs) a).1
 | [],a,h=>⟨λv hv=>hv,λk hk=>by simp at hk⟩
 | k::ks,a,h=>by
  rw[ZY] at h |-;obtain⟨h1,h2⟩:=I0 ks _ h;have hs:(bU bs a k).2=false:=by
   cases e:(bU bs a k).2 with
   | false=>rfl
   | true=>rw[zQ _ _ e] at h;cases h
  simp only[bU,aA8] at hs;refine⟨λv hv=>h1 v (by simp only[bU];rw[oZ];exact Zf _ hv),λq hq=>?_⟩;rcases Y6.1 hq with rfl|hq
  .exact⟨hs.1.2,λv hv=>h1 v (by simp only[bU];rw[oZ];exact Z9 _ hv)⟩
  .exact h2 q hq
theorem H9{bs:List iF}{ks:List Int}{k:Int}{v:bD}(hk:k∈ks)(hm:(mL bs ks).many=false)(hv:(dV bs k).many=false->v∈(dV bs k).vals):v∈(mL bs ks).vals:=by
 unfold mL at hm |-;split at hm
 .simp at hm
 .rename_i h2;have h2:(ks.foldl (bU bs) ([],false)).2=false:=su h2
  rw[Yz (by rw[h2];simp)];obtain⟨h3,h4⟩:=(I0 ks _ h2).2 k hk;exact h4 v (hv h3)
theorem Dy{n:List UInt8}{vs:List bD}(hn:n.length<=4294967296)(hl:vs.length<=4294967296)(h:∀v∈vs,iG v):iG (d8 n vs):=by
 have z:∀k:Int,0<=k->k<=3->i64 k:=λk h1 h2=>oq
 unfold d8;split
 .exact lW (z 2 om om) (z 0 om om) sq hl (tF h)
 .exact lW (z 3 om om) (z 0 om om) hn hl (tF h)
theorem Jg{rd:Nat->Nat->Ba}{a0:Nat}{bs:List iF}:∀(ks:List Int) (s:Pt),(∀k∈ks,∀q,(rd k.toNat q).stop = -1->iG (rd k.toNat q).val/\((dV bs k).many=false->(rd k.toNat q).val∈(dV bs k).vals))->(∀v∈s.vals,iG v)->(bO rd a0 ks s).stop = -1 ->
  ∃vs,(bO rd a0 ks s).vals=s.vals++vs/\ML bs ks vs/\∀v∈vs,iG v
 | [],s,_,_,_=>⟨[],by simp[bO],trivial,sq⟩
 | k::ks,s,hr,hs,h=>by
  simp only[bO] at h |-;split at h
  .rename_i hst;rw[Y4 hst];obtain⟨o1,o2⟩:=hr k (ZQ ..) _ hst;obtain⟨vs,h1,h2,h3⟩:=Jg ks _ (λq hq=>hr q (ZE _ hq)) (λv hv=>by
    rcases ZI.1 hv with hv|hv
    .exact hs v hv
    .simp at hv;rw[hv];exact o1) h
   refine⟨(rd k.toNat (a0+s.used)).val::vs,by rw[h1];simp,⟨o2,h2⟩,λv hv=>?_⟩
   .rcases Y6.1 hv with rfl|hv
    .exact o1
    .exact h3 v hv
  .rename_i hst;exact absurd h hst
end Go.Ax
namespace Go.Ax
open Go
theorem eP{A:List Nd}(h:VT A){i:Nat}{x:Nd}(hx:A[i]? = some x){k:Int}(hk:k∈x.kids):0<=k/\k.toNat<i:=by
 obtain⟨j,hj⟩:=ZV hk;have:=(h.node hx).node.kids j k hj;omega
theorem VT.kidI{A:List Nd}(h:VT A){i:Nat}{x:Nd}(hx:A[i]? = some x){c:Int}(h0:0<=c)(h1:c<x.kids.length):bF x c<i/\(bF x c:Int)∈x.kids/\x.kids[c.toNat]? = some (bF x c:Int):=by
 obtain⟨j,rfl⟩:=ZD h0;obtain⟨k1,k2⟩:=h.kid hx (j:=j) om;exact⟨k1,Y2 k2,by rw[Yy];exact k2⟩
theorem mH{A:List Nd}(h:VT A)(p:List Int):∀f i a0,i<f->i<A.length->(bG A p f i a0).stop = -1->iG (bG A p f i a0).val/\((dV (aS A) i).many=false->(bG A p f i a0).val∈(dV (aS A) i).vals)
 | 0,i,a0,hf,hi,hs=>om
 | f+1,i,a0,hf,hi,hs=>by
  have hx:=cG hi;have hg:=h.node hx;have hN:=hg.node;have hok:=h.tin.ok _ (Y2 hx);have hkm:=λ(k:Int) (hk:k∈(aD A i).kids)=>eP h hx hk
  have hkI:=λ(c:Int) (h0:0<=c) (h1:c<(aD A i).kids.length)=>h.kidI hx h0 h1
  have hbi:=λh4=>h.bind hx h4
  rw[h.lst hx];simp only[bG] at hs |-;have ih:=λ(k:Nat) (a:Nat) (hk:k<i)=>mH h p f k a om om
  generalize aD A i=x at *;by_cases k0:x.kind=0
  .rw[Y4 k0];refine⟨hok.value,λ_=>?_⟩;unfold dQ;rw[Y4 k0];simp
  rw[Yz k0] at hs |-;by_cases k3:x.kind=3
  .rw[Y4 k3] at hs |-;simp only[I9] at hs |-;rw[Y4 hs];obtain⟨vs,h1,h2,h3⟩:=Jg (bs:=aS A) x.kids ⟨0,[],[],-1⟩ (λk hk q hst=>by
    have:=hkm k hk;have hi2:=ih k.toNat q this.2 hst
    rwa [show ((k.toNat:Nat):Int)=k by omega] at hi2) sq hs
   rw[h1];simp only[Zi];have hlen:vs.length=x.kids.length:=by
    have:∀(ks:List Int) (vs:List bD),ML (aS A) ks vs->vs.length=ks.length:=by
     intro ks
     induction ks with
     | nil=>intro vs h;cases vs with
      | nil=>rfl
      | cons v vs=>exact h.elim
     | cons k ks ih=>intro vs h;cases vs with
      | nil=>exact h.elim
      | cons v vs=>simp[ih vs h.2]
    exact this _ _ h2
   refine⟨Dy (by have:=hok.name;omega) (by have:=hok.kids;omega) h3,λhm=>?_⟩;unfold dQ at hm |-;rw[Yz k0,Yz om,Y4 k3] at hm |-;unfold p7 at hm |-;split at hm
   .simp at hm
   .rename_i rows hr;simp only;rw[oZ];exact ZL.2 ⟨vs,by simpa using Fi x.kids vs [[]] rows [] hr sq h2,rfl⟩
  rw[Yz k3] at hs |-;by_cases k4:x.kind=4
  .rw[Y4 k4] at hs |-;obtain⟨b1,b2,b3,b4⟩:=hbi k4;split at hs
   .rename_i hst;rw[Y4 hst];simp only at hs |-;obtain⟨c1,-,-⟩:=hkI 0 om om;obtain⟨-,m1⟩:=ih _ a0 c1 hst;have m1:=m1 b3;rw[b4] at m1;obtain⟨q,fq,q1,q2⟩:=mY hg.srt m1;rw[fq] at hs |-;simp only at hs |-;obtain⟨d1,d2,d3⟩:=hkI ((q+1:Nat):Int) om om;obtain⟨e1,e2⟩:=ih _ _ d1 hs;refine⟨e1,λhm=>?_⟩;unfold dQ at hm |-;rw[Yz k0,Yz om,Yz k3,Y4 k4] at hm |-;refine H9 (k:=(bF x ((q+1:Nat):Int):Int)) ?_ hm e2;rw[Yy] at d3;refine Y2 (i:=q) ?_;rw[ZS,aBE];exact d3
   .rename_i hst;exact absurd hs hst
  rw[Yz k4] at hs |-;split at hs
  .simp at hs
  rename_i hp;rw[Yz hp];split at hs
  .simp at hs
  rename_i hc;rw[Yz hc];rw[not_or] at hc;by_cases k1:x.kind=1
  .rw[Y4 k1] at hs |-;simp only;have ho:fA x=x.hi-x.lo+1:=by unfold fA;rw[Y4 k1]
   have hr:=cQ hN.num;generalize p.getD a0 0=c at *;refine⟨iV oq oq,λhm=>?_⟩;unfold dQ at hm |-;rw[Yz k0,Y4 k1] at hm |-;split at hm
   .simp at hm
   .rename_i hr;rw[Yz hr];simp only[iE];exact ZL.2 ⟨c.toNat,aAL.2 om,by rw[Int.toNat_of_nonneg om]⟩
  .rw[Yz k1] at hs |-;simp only at hs |-;have ho:fA x=x.kids.length:=by unfold fA;rw[Yz k1]
   have hk2:=hN.kind;obtain⟨d1,d2,d3⟩:=hkI (p.getD a0 0) om om;obtain⟨e1,e2⟩:=ih _ _ d1 hs;refine⟨e1,λhm=>?_⟩;unfold dQ at hm |-;rw[Yz k0,Yz k1,Yz k3,Yz om] at hm |-;exact H9 d2 hm e2
def Np(a b:Nat)(l:List Sp):Prop:=∀s∈l,a<=s.1/\s.1<=s.2.1/\s.2.1<=s.2.2/\s.2.2<=b
theorem Np.mono{a b a' b':Nat}{l:List Sp}(h:Np a b l)(h1:a'<=a)(h2:b<=b'):Np a' b' l:=λs hs=>by
 have:=h s hs;omega
theorem Np.app{a b:Nat}{l m:List Sp}(h:Np a b l)(h':Np a b m):Np a b (l++m):=λs hs=>by
 rcases ZI.1 hs with hs|hs
 .exact h s hs
 .exact h' s hs
theorem Ht{rd:Nat->Nat->Ba}{a0 n:Nat}(hr:∀(k q:Nat),q<=n->q+(rd k q).used<=n/\Np q (q+(rd k q).used) (rd k q).spans):∀(ks:List Int) (s:Pt),a0+s.used<=n->Np a0 (a0+s.used) s.spans->a0+(bO rd a0 ks s).used<=n/\Np a0 (a0+(bO rd a0 ks s).used) (bO rd a0 ks s).spans
 | [],s,h1,h2=>⟨h1,h2⟩
 | k::ks,s,h1,h2=>by
  simp only[bO];obtain⟨g1,g2⟩:=hr k.toNat (a0+s.used) h1;have g3:Np a0 (a0+(s.used+(rd k.toNat (a0+s.used)).used)) (s.spans++(a0,a0+s.used,a0+s.used+(rd k.toNat (a0+s.used)).used)::(rd k.toNat (a0+s.used)).spans):=by
   refine(h2.mono (Y8 _) om).app λt ht=>?_
   rcases Y6.1 ht with rfl|ht
   .simp only;omega
   .have:=g2 t ht;omega
  split
  .exact Ht hr ks _ (by simp only;omega) g3
  .exact⟨by simp only;omega,g3⟩
theorem GS{A:List Nd}(p:List Int):∀f i a0,a0<=p.length->a0+(bG A p f i a0).used<=p.length/\Np a0 (a0+(bG A p f i a0).used) (bG A p f i a0).spans
 | 0,i,a0,ha=>⟨ha,λs hs=>by simp[bG] at hs⟩
 | f+1,i,a0,ha=>by
  have ih:=GS (A:=A) p f;simp only[bG];split
  .exact⟨ha,λs hs=>by simp at hs⟩
  split
  .exact Ht (λk q hq=>ih k q hq) _ _ ha λs hs=>by simp at hs
  split
  .split
   .obtain⟨g1,g2⟩:=ih (bF (aD A i) 0) a0 ha;obtain⟨g3,g4⟩:=ih (bF (aD A i) ((cE (aD A i).values (bG A p f (bF (aD A i) 0) a0).val).1+1:Nat)) _ g1;refine⟨by simp only;omega, ?_⟩;exact(g2.mono (Y8 _) (by simp only;omega)).app (g4.mono om (by simp only;omega))
   .exact ih _ a0 ha
  split
  .exact⟨ha,λs hs=>by simp at hs⟩
  rename_i hp;split
  .exact⟨ha,λs hs=>by simp at hs⟩
  split
  .exact⟨by simp only;omega,λs hs=>by simp at hs⟩
  .obtain⟨g1,g2⟩:=ih (bF (aD A i) (p.getD a0 0)) (a0+1) om;exact⟨by simp only;omega,g2.mono om (by simp only;omega)⟩
end Go.Ax
namespace Go.Ax
open Go
theorem Mn(r:List Nd):∀l:List Nd,∃m,a8 (l++r)=a8 l++m:=by
 refine eS (P:=λr=>∀l:List Nd,∃m,a8 (l++r)=a8 l++m) (λl=>⟨[],sq⟩) (λr x ih l=>?_) r;obtain⟨m,hm⟩:=ih l;refine⟨m++[fN (a8 (l++r)) x], ?_⟩;rw[<-List.append_assoc,iT,hm,List.append_assoc]
theorem BB{A:List Nd}{n:Nat}{k:Int}(h0:0<=k)(h:k<n)(hn:n<=A.length):eJ (a8 (A.take n)) k=eJ (a8 A) k:=by
 obtain⟨m,hm⟩:=Mn (A.drop n) (A.take n);rw[List.take_append_drop] at hm;rw[hm,Ln h0 (by rw[fV,ZO];omega)]
def yO(ls:List Int)(fs:List bD)(x:Nd):bD:=
 if 0<fN ls x then vZ else if x.kind=0 then x.value else if x.kind=3 then d8 x.name (x.kids.map λk=>fs.getD k.toNat vZ) else if x.kind=4 then fs.getD (bF x 1) vZ else vZ
def Mv(nodes:List Nd):List Int × List bD:=nodes.foldl (λs x=>(s.1++[fN s.1 x],s.2++[yO s.1 s.2 x])) ([],[])
def cZ(nodes:List Nd):List bD:=(Mv nodes).2
theorem Qa(l:List Nd):(Mv l).1=a8 l:=by
 refine eS (P:=λl=>(Mv l).1=a8 l) rfl (λl x ih=>?_) l;rw[iT,<-ih];unfold Mv;rw[Zz];rfl
theorem wB(l:List Nd)(x:Nd):cZ (l++[x])=cZ l++[yO (a8 l) (cZ l) x]:=by
 rw[<-Qa];unfold cZ Mv;rw[Zz];rfl
theorem jK(l:List Nd):(cZ l).length=l.length:=by
 refine eS (P:=λl=>(cZ l).length=l.length) rfl (λl x ih=>?_) l;rw[wB];simp[ih]
theorem Pb(r:List Nd):∀l:List Nd,∃m,cZ (l++r)=cZ l++m:=by
 refine eS (P:=λr=>∀l:List Nd,∃m,cZ (l++r)=cZ l++m) (λl=>⟨[],sq⟩) (λr x ih l=>?_) r;obtain⟨m,hm⟩:=ih l;refine⟨m++[yO (a8 (l++r)) (cZ (l++r)) x], ?_⟩;rw[<-List.append_assoc,wB,hm,List.append_assoc]
def EL(l:List bD)(k:Nat):bD:=l.getD k vZ
theorem S4{l m:List bD}{k:Nat}(h:k<l.length):EL (l++m) k=EL l k:=by
 unfold EL;rw[Yx,Yx,ZK h]
theorem C1{A:List Nd}{n k:Nat}(h:k<n)(hn:n<=A.length):EL (cZ (A.take n)) k=EL (cZ A) k:=by
 obtain⟨m,hm⟩:=Pb (A.drop n) (A.take n);rw[List.take_append_drop] at hm;rw[hm,S4 (by rw[jK,ZO];omega)]
def Ak(ls:List Int)(ps:List Bool)(x:Nd):Bool:=decide (fN ls x<=0) && (decide (x.kind≠3) || decide (x.kids.length=0)) && x.kids.all λk=>ps.getD k.toNat false
def Mu(nodes:List Nd):List Int × List Bool:=nodes.foldl (λs x=>(s.1++[fN s.1 x],s.2++[Ak s.1 s.2 x])) ([],[])
def dG(nodes:List Nd):List Bool:=(Mu nodes).2
theorem PB(l:List Nd):(Mu l).1=a8 l:=by
 refine eS (P:=λl=>(Mu l).1=a8 l) rfl (λl x ih=>?_) l;rw[iT,<-ih];unfold Mu;rw[Zz];rfl
theorem wG(l:List Nd)(x:Nd):dG (l++[x])=dG l++[Ak (a8 l) (dG l) x]:=by
 rw[<-PB];unfold dG Mu;rw[Zz];rfl
theorem jR(l:List Nd):(dG l).length=l.length:=by
 refine eS (P:=λl=>(dG l).length=l.length) rfl (λl x ih=>?_) l;rw[wG];simp[ih]
theorem QI(r:List Nd):∀l:List Nd,∃m,dG (l++r)=dG l++m:=by
 refine eS (P:=λr=>∀l:List Nd,∃m,dG (l++r)=dG l++m) (λl=>⟨[],sq⟩) (λr x ih l=>?_) r;obtain⟨m,hm⟩:=ih l;refine⟨m++[Ak (a8 (l++r)) (dG (l++r)) x], ?_⟩;rw[<-List.append_assoc,wG,hm,List.append_assoc]
def Ns(l:List Bool)(k:Nat):Bool:=l.getD k false
theorem SY{l m:List Bool}{k:Nat}(h:k<l.length):Ns (l++m) k=Ns l k:=by
 unfold Ns;rw[Yx,Yx,ZK h]
theorem IA{A:List Nd}{n k:Nat}(h:k<n)(hn:n<=A.length):Ns (dG (A.take n)) k=Ns (dG A) k:=by
 obtain⟨m,hm⟩:=QI (A.drop n) (A.take n);rw[List.take_append_drop] at hm;rw[hm,SY (by rw[jR,ZO];omega)]
section
variable {A:List Nd}
theorem VT.lenC(h:VT A){i:Nat}{x:Nd}(hx:A[i]? = some x){n:Nat}(hi:i<=n)(hn:n<=A.length):fN (a8 (A.take n)) x=fN (a8 A) x:=by
 refine yJ (λk hk=>?_) (λh4=>by have:=(h.bind hx h4).1;omega) (h.node hx).node.kind;have:=eP h hx hk;exact BB this.1 om hn
theorem VT.len(h:VT A){i:Nat}{x:Nd}(hx:A[i]? = some x):eJ (a8 A) i=fN (a8 A) x:=by
 obtain⟨hi,he⟩:=Y0.1 hx;rw[<-BB (n:=i+1) om om om,List.take_succ_eq_append_getElem hi,iT,he,h.lenC hx (Y8 _) om];unfold eJ;rw[Yy,Yx,ZM (by rw[fV];simp;omega),fV];simp[show min i A.length=i by omega]
theorem VT.lens0(h:VT A)(k:Int):0<=eJ (a8 A) k/\eJ (a8 A) k<=1024:=by
 unfold eJ;rw[Yx];cases e:(a8 A)[k.toNat]? with
 | none=>simp
 | some b=>exact(jH A h.v0).1 b (Y2 e)
theorem VT.fixC(h:VT A){i:Nat}{x:Nd}(hx:A[i]? = some x){n:Nat}(hi:i<=n)(hn:n<=A.length):yO (a8 (A.take n)) (cZ (A.take n)) x=yO (a8 A) (cZ A) x:=by
 unfold yO;rw[h.lenC hx hi hn];split
 .rfl
 split
 .rfl
 split
 .congr 1;refine List.map_congr_left λk hk=>?_
  have:=eP h hx hk;exact C1 om hn
 split
 .rename_i h4;obtain⟨b1,b2,-⟩:=h.bind hx h4;have:bF x ((1:Nat):Int)<i:=(h.kid hx (j:=1) om).1;exact C1 (show bF x 1<n by have:bF x 1<i:=this;omega) hn
 .rfl
theorem VT.fix(h:VT A){i:Nat}{x:Nd}(hx:A[i]? = some x):EL (cZ A) i=yO (a8 A) (cZ A) x:=by
 obtain⟨hi,he⟩:=Y0.1 hx;rw[<-C1 (n:=i+1) om om,List.take_succ_eq_append_getElem hi,wB,he,h.fixC hx (Y8 _) om];unfold EL;rw[Yx,ZM (by rw[jK];simp;omega),jK];simp[show min i A.length=i by omega]
theorem VT.plnC(h:VT A){i:Nat}{x:Nd}(hx:A[i]? = some x){n:Nat}(hi:i<=n)(hn:n<=A.length):Ak (a8 (A.take n)) (dG (A.take n)) x=Ak (a8 A) (dG A) x:=by
 unfold Ak;rw[h.lenC hx hi hn];congr 1;rw[Ze,Z3,Z3];have e:∀k∈x.kids,(dG (A.take n)).getD k.toNat false=(dG A).getD k.toNat false:=λk hk=>by
  have:=eP h hx hk;exact IA om hn
 exact⟨λg k hk=>by rw[<-e k hk];exact g k hk,λg k hk=>by rw[e k hk];exact g k hk⟩
theorem VT.pln(h:VT A){i:Nat}{x:Nd}(hx:A[i]? = some x):Ns (dG A) i=Ak (a8 A) (dG A) x:=by
 obtain⟨hi,he⟩:=Y0.1 hx;rw[<-IA (n:=i+1) om om,List.take_succ_eq_append_getElem hi,wG,he,h.plnC hx (Y8 _) om];unfold Ns;rw[Yx,ZM (by rw[jR];simp;omega),jR];simp[show min i A.length=i by omega]
theorem Md{b:List Int}(hb:∀k,0<=eJ b k):∀(l:List Int),fR b l=0->∀k∈l,eJ b k=0:=by
 have key:∀(l:List Int) (s:Int),0<=s->l.foldl (λs k=>s+eJ b k) s=0->s=0/\∀k∈l,eJ b k=0:=by
  intro l
  induction l with
  | nil=>intro s h0 h;exact⟨h,sq⟩
  | cons k l ih=>
   intro s h0 h;rw[ZY] at h;have hk:=hb k;obtain⟨h1,h2⟩:=ih _ om h;refine⟨om,λq hq=>?_⟩;rcases Y6.1 hq with rfl|hq
   .omega
   .exact h2 q hq
 exact λl h=>(key l 0 (Int.le_refl _) h).2
theorem VT.len0(h:VT A){i:Nat}{x:Nd}(hx:A[i]? = some x)(h0:eJ (a8 A) i=0):x.kind≠1/\x.kind≠2/\(x.kind=3->∀k∈x.kids,eJ (a8 A) k=0) /\
  (x.kind=4->eJ (a8 A) (bF x 0)=0/\∀k∈x.kids.drop 1,eJ (a8 A) k=0):=by
 rw[h.len hx] at h0;have hb:=λk=>(h.lens0 k).1
 unfold fN at h0;refine⟨λe=>?_,λe=>?_,λe=>?_,λe=>?_⟩
 .rw[Yz om,Y4 e] at h0;omega
 .rw[Yz om,Yz om,Yz om,Y4 e] at h0;have:=(gR (b:=a8 A) (M:=1024) om (jH A h.v0).1 (eQ x)).1;omega
 .rw[Yz om,Yz om,Y4 e] at h0;exact Md hb _ h0
 .rw[Yz om,Yz om,Yz om,Yz om] at h0;have hm:=(gR (b:=a8 A) (M:=1024) om (jH A h.v0).1 (eQ x)).1;have hk:(x.kids.getD 0 0)=(bF x 0:Int):=by
   have:=(h.bind hx e).1;have h2:x.kids[0]? = some (bF x 0:Int):=(h.kid hx (j:=0) om).2;rw[Yx,h2];rfl
  rw[hk] at h0;have:=hb (bF x 0);refine⟨om,λk hk=>?_⟩;have ha:k∈eQ x:=by unfold eQ;rw[Yz om];exact hk
  have h1:=(pK (ss:=a8 A) (eQ x) 0 k ha).1;have h1:eJ (a8 A) k<=cX (a8 A) (eQ x):=h1;have:=hb k;omega
theorem Fp(v:bD):fC [v]=[v]:=by simp[fC,vE,cE]
theorem JH{bs:List iF}{g:Int->bD}:∀(ks:List Int) (r:List bD),(∀k∈ks,dV bs k=⟨[g k],false⟩)->fM bs ks [r]=some [r++ks.map g]
 | [],r,_=>by simp[fM]
 | k::ks,r,h=>by
  simp only[fM];rw[h k (ZQ ..)];rw[Yz sq];simp only[gU,aAP,List.flatMap_nil,Z2,List.map_nil,aAi];rw[JH ks (r++[g k]) λq hq=>h q (ZE _ hq)];simp
theorem QH(h:VT A):∀i,i<A.length->eJ (a8 A) i=0->dV (aS A) i=⟨[EL (cZ A) i],false⟩:=by
 intro i
 induction i using Nat.strongRecOn with
 | ind i ih=>
  intro hi h0;have hx:=cG hi;have hkm:=λ(k:Int) (hk:k∈(aD A i).kids)=>eP h hx hk
  obtain⟨l1,l2,l3,l4⟩:=h.len0 hx h0;have hbi:=λh4=>h.bind hx h4
  have hkd:=λ(j:Nat) (hj:j<(aD A i).kids.length)=>h.kid hx hj
  have hkind:=(h.node hx).node.kind;rw[h.lst hx,h.fix hx];rw[h.len hx] at h0;generalize aD A i=x at *;have ihk:∀k:Int,k∈x.kids->eJ (a8 A) k=0->dV (aS A) k=⟨[(cZ A).getD k.toNat vZ],false⟩:=λk hk hz=>by
   have:=hkm k hk;have e:=ih k.toNat this.2 om (by rw[show ((k.toNat:Nat):Int)=k by omega];exact hz)
   rwa [show ((k.toNat:Nat):Int)=k by omega] at e
  unfold dQ yO;rw[Yz (show ¬0<fN (a8 A) x by omega)];by_cases k0:x.kind=0
  .rw[Y4 k0,Y4 k0]
  rw[Yz k0,Yz k0,Yz l1];by_cases k3:x.kind=3
  .rw[Y4 k3,Y4 k3];unfold p7;rw[JH x.kids [] λk hk=>ihk k hk (l3 k3 k hk)];simp[Fp]
  rw[Yz k3,Yz k3];have k4:x.kind=4:=om;rw[Y4 k4,Y4 k4];obtain⟨b1,b2,b3,b4⟩:=hbi k4;obtain⟨m1,m2⟩:=l4 k4;have e0:=hkd 0 om;have e0':x.kids[0]? = some (bF x 0:Int):=e0.2;have e1:=hkd 1 om;have e1':x.kids[1]? = some (bF x 1:Int):=e1.2;have hz:=ihk (bF x 0:Int) (Y2 e0') m1;rw[hz] at b4;have hvl:x.values.length=1:=by rw[<-b4];rfl
  have hk1:x.kids.drop 1=[(bF x 1:Int)]:=by
   apply List.ext_getElem?;intro j;rw[ZS];rcases j with _|j
   .rw[Zm,e1'];rfl
   .rw[ZH om,ZH sq]
  rw[hk1];have hz1:=ihk (bF x 1:Int) (Y2 e1') (m2 _ (by rw[hk1];simp));unfold mL;simp only[ZY,aB2,bU,hz1,Zi,Fp];simp
end
end Go.Ax
namespace Go.Ax
open Go
structure Sys(S R:Type) where
 sa:Nd->(Nat->S)->(Nat->bD->R)->S
 sf:Nd->(Nat->bD->R)->bD->R
 s0:S
 r0:R
 la:∀(x:Nd) (al al':Nat->S) (of of':Nat->bD->R),(∀k∈x.kids,al k.toNat=al' k.toNat)->(∀k∈x.kids,∀v,of k.toNat v=of' k.toNat v)->sa x al of=sa x al' of'
 lf:∀(x:Nd) (of of':Nat->bD->R) (v:bD),(∀k∈x.kids,∀v,of k.toNat v=of' k.toNat v)->sf x of v=sf x of' v
section
variable {S R:Type}
def Sys.run(y:Sys S R)(A:List Nd):Nat->(Nat->S) × (Nat->bD->R)
 | 0=>(λ_=>y.s0,λ_ _=>y.r0)
 | f+1=>(λi=>y.sa (aD A i) (y.run A f).1 (y.run A f).2,λi v=>y.sf (aD A i) (y.run A f).2 v)
def Sys.all(y:Sys S R)(A:List Nd)(i:Nat):S:=(y.run A (i+1)).1 i
def Sys.of(y:Sys S R)(A:List Nd)(i:Nat)(v:bD):R:=(y.run A (i+1)).2 i v
end
theorem Cp{G β:Type}{f g:β->G->β}:∀(l:List G) (b:β),(∀a∈l,∀b,f b a=g b a)->l.foldl f b=l.foldl g b
 | [],b,h=>rfl
 | a::l,b,h=>by
  rw[ZY,ZY,h a (ZQ ..),Cp l _ λa ha=>h a (ZE _ ha)]
theorem Gg{G:Type}{l:List G}{ks:List Int}{a:G × Int}(h:a∈l.zip (ks.drop 1)):a.2∈ks/\ks.getD 0 0∈ks:=by
 have:=Zr (aA6 h).2;cases ks with
 | nil=>cases this
 | cons b r=>exact⟨this,sq⟩
def W8(x:Nd):Nat:=(x.kids.getD 0 0).toNat
structure RO(T:Type) where
 one:T
 add:T->T->T
 mul:T->T->T
 opt:Nd->Nat->T
 spn:Nd->T
section
variable {T:Type}
def Wl(g:RO T):Option T->Option T->Option T
 | none,b=>b
 | some a,none=>some a
 | some a,some b=>some (g.add a b)
def UH(g:RO T):Option T->Option T->Option T
 | some a,some b=>some (g.mul a b)
 | _,_=>none
def TM(g:RO T)(x:Nd)(al:Nat->Option T)(f:Option T)(kc:Int × Nat):Option T:=Wl g f (UH g (some (g.opt x kc.2)) (al kc.1.toNat))
end
end Go.Ax
namespace Go.Ax
open Go
def Yv(n:Nat):Option Nat:=if n=0 then none else some n
theorem VT.len256{A:List Nd}(h:VT A){i:Nat}{x:Nd}(hx:A[i]? = some x):0<=eJ (a8 A) i/\eJ (a8 A) i<=256:=by
 have hi:=(Y0.1 hx).1;have:=(gD (mX A h.v0 i x hx)).2.1;rw[h.lenC hx (Y8 _) om,<-h.len hx] at this;exact⟨(h.lens0 i).1,this⟩
def TR(x:Nd)(pv:Nat->List bD):List bD:=
 if x.kind=1 then iE x.lo x.hi
 else if x.kind=3 then(x.kids.foldl (λrows k=>gU rows (pv k.toNat)) [[]]).map (d8 x.name)
 else if x.kind=2 then x.kids.flatMap λk=>pv k.toNat
 else if x.kind=4 then(x.values.zip (x.kids.drop 1)).flatMap λvk=>((pv (W8 x)).filter λu=>decide (cN u vk.1=0)).flatMap λ_=>pv vk.2.toNat
 else [x.value]
theorem rY{G β:Type}{f g:G->List β}:∀(l:List G),(∀a∈l,f a=g a)->l.flatMap f=l.flatMap g
 | [],h=>rfl
 | a::l,h=>by rw[aAP,aAP,h a (ZQ ..),rY l λa ha=>h a (ZE _ ha)]
def Xu:Sys (List bD) Unit where
 sa:=λx al _=>TR x al
 sf:=λ_ _ _=>()
 s0:=[]
 r0:=()
 la:=λx al al' of of' h1 h2=>by
  unfold TR;split
  .rfl
  split
  .exact congrArg _ (Cp _ _ λk hk b=>by rw[h1 k hk])
  split
  .exact rY _ λk hk=>h1 k hk
  split
  .exact rY _ λvk hk=>by
    obtain⟨m1,m2⟩:=Gg hk;unfold W8;rw[h1 _ m1,h1 _ m2]
  .rfl
 lf:=λx of of' v h2=>rfl
def oC(A:List Nd)(i:Nat):List bD:=Xu.all A i
def Yk(n:Nat):Nat:=2 ^ (40*n)
theorem TI(a:Nat):1<=Yk a:=Nat.one_le_two_pow
end Go.Ax
namespace Go.Ax
open Go
section
variable {T:Type} (g:RO T)
end
def YT(o:Option Nat):Prop:=∃n,n<=Yk 256/\o=Yv n
theorem YT.one:YT (some 1):=⟨1,TI _,rfl⟩
section
variable {A:List Nd} (h:VT A) {i:Nat} (hi:i<A.length)
include h hi
end
end Go.Ax
namespace Go.Ax
open Go
inductive iK where
 | ret
 | pan (x:Value)
 | recd (x:Value)
def iK.mode:iK->FrameMode
 | .ret=>.returning
 | .pan x=>.panicking [pe x]
 | .recd x=>.panicking [{ v:=x,recovered:=true }]
def NZ:List Value->Option (List AV)
 | []=>some []
 | .int k n::r=>match NZ r with
  | some l=>some (.int k n::l)
  | none=>none
 | .bool b::r=>match NZ r with
  | some l=>some (.bool b::l)
  | none=>none
 | _=>none
def X9:Value->Option AV
 | .iface t (.agg arr)=>match NZ arr.toList with
  | some l=>some (.ifc t (.agg l))
  | none=>none
 | _=>none
theorem Cj{E:Nat->dP}{D:Nat->Prop}{O:Nat->Prop}{w:World}:∀{xs:List Value} {l:List AV},NZ xs=some l->Jm E D O w l xs
 | [],l,h=>by simp only[NZ] at h;cases h;exact⟨.nil,sq⟩
 | x::r,l,h=>by
  cases x<;>simp only[NZ] at h<;>first|(cases h;done)|skip
  all_goals
   split at h
   .rename_i l' hl;cases h;obtain⟨h1,h2⟩:=Cj (E:=E) (D:=D) (O:=O) (w:=w) hl;refine⟨.cons ?_ h1,λy hy=>?_⟩
    .first|exact .int _ _|exact .bool _
    .rcases Y6.1 hy with rfl|hy
     .rfl
     .exact h2 y hy
   .cases h
theorem NV{E:Nat->dP}{D:Nat->Prop}{O:Nat->Prop}{w:World}{x:Value}{v:AV}(h:X9 x=some v):VR E D O w v x:=by
 unfold X9 at h;split at h
 .rename_i t arr;split at h
  .rename_i l hl;cases h;obtain⟨h1,h2⟩:=Cj (E:=E) (D:=D) (O:=O) (w:=w) hl;exact .ifc t _ _ (.agg l arr (by have:=h1.1;simpa using this) (λy hy=>h2 y (su hy)) λj c y hj hy=>h1.2 j c y hj (su hy))
  .cases h
 .cases h
structure rX(P:Program)(C:List (Nat × AV))(B:Nat)(c:Code)(s:St)(m:iK)(Q:Exit->St->iK->Prop):Prop where
 run:∀(X:Nat->Prop) (ds:List Deferred) (D:Nat->Prop) (E:Nat->dP) (a:Act) (w:World) (c₀:Frame) (cs:List Frame),(∀i,D i->i<B)->SR C X (ds,0) E (dn D B s.nx) s a w->B<=s.nx->c₀.mode=m.mode ->
  c.wpS P (λe a' cs' w'=>∃(s':St) (m':iK) (E':Nat->dP),Q e s' m'/\cs'={ c₀ with mode:=m'.mode }::cs/\B<=s'.nx/\SR C X (ds,0) E' (dn D B s'.nx) s' a' w'/\Ext D E s.mem w E' (dn D B s'.nx) s'.mem w') a (c₀::cs) w
section
variable {P:Program} {C:List (Nat × AV)} {B:Nat} {s:St} {m:iK} {Q:Exit->St->iK->Prop}
theorem tD{c₀:Frame}{u:FrameMode}(h:c₀.mode=u):{ c₀ with mode:=u }=c₀:=by subst h;rfl
theorem rX.of{c:Code}(hc:iM c=false)(h:eH P C B c s λe s'=>Q e s' m):rX P C B c s m Q:=by
 refine⟨λX ds D E a w c₀ cs hD hs hB hm=>wpS_of_wp (Go.wp_mono (GY.1 (h.run none X (ds,0) D E a w hD hs hB (.no hc))) ?_)⟩;rintro e a' w' ⟨s',E',hq,hB',hs',hext⟩;exact⟨s',m,E',hq,by rw[tD hm],hB',hs',hext⟩
def Vh(P:Program)(C:List (Nat × AV))(B:Nat)(y:Code)(Q:Exit->St->iK->Prop)(e:Exit)(s:St)(m:iK):Prop:=
 match e with
 | .normal=>rX P C B y s m Q
 | e=>Q e s m
theorem Ab{c:Code}{Q Q':Exit->Act->List Frame->World->Prop}{a:Act}{cs:List Frame}{w:World}(h:c.wpS P Q a cs w)(hq:∀e a cs w,Q e a cs w->Q' e a cs w):c.wpS P Q' a cs w:=
 λb k hb hr=>let ⟨e,a',cs',w',q,r⟩:=h b k hb hr;⟨e,a',cs',w',hq _ _ _ _ q,r⟩
theorem rX.seq{x y:Code}(h:rX P C B x s m (Vh P C B y Q)):rX P C B (.seq x y) s m Q:=by
 refine⟨λX ds D E a w c₀ cs hD hs hB hm=>wpS_seq (Ab (h.run X ds D E a w c₀ cs hD hs hB hm) ?_)⟩;rintro e a' cs' w' ⟨s',m',E',hq,rfl,hB',hs',hext⟩;cases e with
 | normal=>
  refine Ab ((show rX P C B y s' m' Q from hq).run X ds D E' a' w' { c₀ with mode:=m'.mode } cs hD hs' hB' rfl) ?_;rintro e a2 cs2 w2 ⟨s2,m2,ρ2,h1,rfl,h2,h3,h4⟩;exact⟨s2,m2,ρ2,h1,rfl,h2,h3,hext.trans h4⟩
 | exit i=>exact⟨s',m',E',hq,rfl,hB',hs',hext⟩
 | goto l=>exact⟨s',m',E',hq,rfl,hB',hs',hext⟩
 | ret=>exact⟨s',m',E',hq,rfl,hB',hs',hext⟩
 | panic c=>exact⟨s',m',E',hq,rfl,hB',hs',hext⟩
 | outgrown=>exact⟨s',m',E',hq,rfl,hB',hs',hext⟩
theorem rX.cond{c:Operand}{x y:Code}{b:Bool}(hc:ev C s c=some (.bool b))(h:Nu b (rX P C B x s m Q) (rX P C B y s m Q)):rX P C B (.cond c x y) s m Q:=by
 refine⟨λX ds D E a w c₀ cs hD hs hB hm=>?_⟩;have hv:=aZ hs hc;generalize he:a.eval c=cv at hv;cases hv;cases b with
 | true=>exact wpS_cond he ((show rX P C B x s m Q from h).run X ds D E a w c₀ cs hD hs hB hm)
 | false=>exact wpS_cond he ((show rX P C B y s m Q from h).run X ds D E a w c₀ cs hD hs hB hm)
def PP(op:Op):Bool:=
 match op with
 | .call c=>match c.callee with
  | .builtin .recover=>true
  | _=>false
 | _=>false
def WT:iK->Option (AV × iK)
 | .ret=>some (.nif,.ret)
 | .pan x=>match X9 x with
  | some v=>some (v,.recd x)
  | none=>none
 | .recd x=>some (.nif,.recd x)
def Di(P:Program)(C:List (Nat × AV))(ops:List Oper):List Oper->St->iK->(St->iK->Prop)->Prop
 | [],s,m,K=>K s m
 | o::r,s,m,K=>match mQ ops s o.guard with
  | none=>False
  | some false=>match eY s o.dst (.tup []) s.mem s.nx with
   | some s'=>Di P C ops r s' m K
   | none=>False
  | some true=>match PP o.op with
   | true=>match WT m with
    | some (v,m')=>match eY s o.dst v s.mem s.nx with
     | some s'=>Di P C ops r s' m' K
     | none=>False
    | none=>False
   | false=>match c8 P C s o.op with
    | some (v,mem,nx)=>match eY s o.dst v mem nx with
     | some s'=>Di P C ops r s' m K
     | none=>False
    | none=>False
theorem Mi{o:Oper}(h:PP o.op=true)(E:Operand->Value)(w:World):(execOp E o).run P w = .ok .recover w:=by
 unfold PP at h;split at h
 .rename_i c hop;split at h
  .rename_i hc;simp[execOp,hop,resolve,hc,invoke,builtin]
  .cases h
 .cases h
theorem IY(ops:Array Oper):∀(l:List Nat) (s:St) (m:iK) (K:St->iK->Prop),Di P C ops.toList (l.filterMap λi=>ops[i]?) s m K ->
  ∀(X:Nat->Prop) (ds:List Deferred) (D:Nat->Prop) (E:Nat->dP) (a:Act) (w:World) (c₀:Frame) (cs:List Frame) (Q:Exit->Act->List Frame->World->Prop),(∀i,D i->i<B)->SR C X (ds,0) E (dn D B s.nx) s a w->B<=s.nx->c₀.mode=m.mode ->
   (∀(s':St) (m':iK) (E':Nat->dP) (a':Act) (w':World),K s' m'->B<=s'.nx->SR C X (ds,0) E' (dn D B s'.nx) s' a' w'->Ext D E s.mem w E' (dn D B s'.nx) s'.mem w'->Q .normal a' ({ c₀ with mode:=m'.mode }::cs) w') ->
   wpOpsS P ops Q l a (c₀::cs) w:=by
 intro l
 induction l with
 | nil=>
  intro s m K h X ds D E a w c₀ cs Q hD hs hB hm hQ;have:=hQ s m E a w h hB hs (Ext.refl λi hi=>.inl hi);rw[tD hm] at this;exact this
 | cons i r ih=>
  intro s m K h X ds D E a w c₀ cs Q hD hs hB hm hQ;simp only[wpOpsS];cases ho:ops[i]? with
  | none=>
   simp only[aBU,ho] at h;exact ih s m K h X ds D E a w c₀ cs Q hD hs hB hm hQ
  | some o=>
   simp only[aBU,ho] at h;simp only[Di] at h;split at h
   .exact h.elim
   .rename_i hw;have hw':=iO hs hw;rw[aBn] at hw';simp only[hw',aAl,if_false];split at h
    .rename_i s' hst;obtain⟨h1,h2,h3⟩:=gW hst hs hs.mr vW (λh=>h) (λ_ _ h=>h);refine ih s' m K h X ds D E _ w c₀ cs Q hD (by rw[h3];exact h1) om hm λs2 m2 ρ2 a2 w2 k1 k2 k3 k4=>hQ s2 m2 ρ2 a2 w2 k1 k2 k3 (by rw[<-h2];exact k4)
    .exact h.elim
   .rename_i hw;have hw':=iO hs hw;rw[aBn] at hw';simp only[hw',if_true];split at h
    .rename_i hrec;rw[Mi hrec];split at h
     .rename_i v m' hv;split at h
      .rename_i s' hst;have main:∀(x:Value) (c1:Frame),(VR E (dn D B s.nx) (OX X E s.mem) w v x)->c1={ c₀ with mode:=m'.mode }->wpOpsS P ops Q r (a.put o.dst x) (c1::cs) w:=by
        intro x c1 hx hc1;obtain⟨h1,h2,h3⟩:=gW hst hs hs.mr hx (λh=>h) (λ_ _ h=>h);subst hc1;exact ih s' m' K h X ds D E _ w { c₀ with mode:=m'.mode } cs Q hD (by rw[h3];exact h1) om rfl λs2 m2 ρ2 a2 w2 k1 k2 k3 k4=>hQ s2 m2 ρ2 a2 w2 k1 k2 k3 (by rw[<-h2];exact k4)
       cases m with
       | ret=>
        cases hv;simp only[recoverD,hm,iK.mode];exact main _ c₀ .nif (tD hm).symm
       | pan x=>
        simp only[WT] at hv;split at hv
        .rename_i u hu;cases hv;simp only[recoverD,hm,iK.mode,pe];exact main _ _ (NV hu) rfl
        .cases hv
       | recd x=>
        cases hv;simp only[recoverD,hm,iK.mode];exact main _ c₀ .nif (tD hm).symm
      .exact h.elim
     .exact h.elim
    .split at h
     .rename_i v mem nx hstep;split at h
      .rename_i s' hst;have hnx:s.nx<=nx:=by rcases AE hstep with h'|h'<;>omega
       obtain⟨x,n,w',E',e1,e2,m1,v1,mono1,ext1⟩:=n9 (P:=P) (D:=dn D B s.nx) (D':=dn D B nx) (λh'=>aBc _ (z7 hD hB _ h')) (CS hnx) hs o (λe=>.inr ⟨hB,om⟩) hstep;obtain⟨h1,h2,h3⟩:=gW hst hs m1 v1 (ext1 _ λi hi=>hi).mks mono1;have fin:wpOpsS P ops Q r (a.put o.dst x) (c₀::cs) w':=ih s' m K h X ds D E' _ w' c₀ cs Q hD (by rw[h3];exact h1) (by rw[h3];exact Zj hB hnx) hm λs2 m2 ρ2 a2 w2 k1 k2 k3 k4=>hQ s2 m2 ρ2 a2 w2 k1 k2 k3 ((ext1 D λi hi=>.inl hi).trans (by rw[<-h2];exact k4))
       rw[e1];rcases e2 with rfl|⟨rfl,rfl⟩
       .exact fin
       .exact fin
      .exact h.elim
     .exact h.elim
theorem Fb(L:List Oper):∀(l:List Oper) (k:Nat),(∀j,L[k+j]? = l[j]?)->((List.range' k l.length).filterMap λi=>L[i]?)=l
 | [],k,h=>rfl
 | o::r,k,h=>by
  have h0:L[k]? = some o:=by simpa using h 0
  rw[Zc,List.range'_succ,aBU,h0];simp only;rw[Fb L r (k+1) λj=>by have:=h (j+1);simpa[Nat.add_assoc,aBE 1 j] using this]
theorem rX.region{id:Nat}{ops:Array Oper}(h:Di P C ops.toList ops.toList s m λs' m'=>Q .normal s' m'):rX P C B (.region id ops false) s m Q:=by
 refine⟨λX ds D E a w c₀ cs hD hs hB hm=>wpS_region ?_⟩;have e:((List.range ops.size).filterMap λi=>ops[i]?)=ops.toList:=by
  have:=Fb ops.toList ops.toList 0 (λj=>by rw[ZP]);rw[List.range_eq_range',<-Array.length_toList];simpa using this
 exact IY ops (List.range ops.size) s m _ (by rw[e];exact h) X ds D E a w c₀ cs _ hD hs hB hm λs' m' E' a' w' h1 h2 h3 h4=>⟨s',m',E',h1,rfl,h2,h3,h4⟩
def J4(P:Program)(C:List (Nat × AV))(H:Hk):Code->St->iK->(St->iK->Prop)->Prop
 | .skip,s,m,K=>K s m
 | .seq x y,s,m,K=>J4 P C H x s m λs' m'=>J4 P C H y s' m' K
 | .cond c x y,s,m,K=>match ev C s c with
  | some (.bool b)=>match b with
   | true=>J4 P C H x s m K
   | false=>J4 P C H y s m K
  | _=>False
 | .region _ ops draw,s,m,K=>match draw with
  | false=>Di P C ops.toList ops.toList s m K
  | true=>False
 | _,_,_,_=>False
theorem Kq{H:Hk}:∀(c:Code) (s:St) (m:iK) (K:St->iK->Prop),J4 P C H c s m K->rX P C B c s m λe s' m'=>match e with
  | .normal=>K s' m'
  | _=>False:=by
 intro c
 induction c with
 | skip=>exact λs m K h=>.of rfl ⟨λrd X ds D E a w hD hs hB _=>wpIn_skip ⟨s,E,h,hB,hs,Ext.refl λi hi=>.inl hi⟩⟩
 | seq x y ihx ihy=>
  intro s m K h;refine rX.seq ?_;obtain⟨h'⟩:=ihx s m _ h;refine⟨λX ds D E a w c₀ cs hD hs hB hm=>Ab (h' X ds D E a w c₀ cs hD hs hB hm) ?_⟩;rintro e a' cs' w' ⟨s',m',E',hq,rest⟩;refine⟨s',m',E', ?_,rest⟩;cases e with
  | normal=>exact ihy s' m' K hq
  | _=>exact(show False from hq).elim
 | cond c x y ihx ihy=>
  intro s m K h;simp only[J4] at h;split at h
  .rename_i b hc;refine rX.cond hc ?_;cases b with
   | true=>exact ihx s m K h
   | false=>exact ihy s m K h
  .exact h.elim
 | region id ops draw=>
  intro s m K h;cases draw with
  | false=>exact rX.region h
  | true=>exact(show False from h).elim
 | _=>exact λs m K h=>(show False from h).elim
def DfR(E:Nat->dP)(D:Nat->Prop)(O:Nat->Prop)(w:World)(v:AV)(d:Deferred):Prop:=
 ∃(F:FuncId) (first cap:List AV) (vs:List Value) (a2:Array Value),v = .fn (.func F) first cap/\d.target = .fn (.func F) a2/\d.args.toList++a2.toList=vs/\j8 E D O w (first++cap) vs
def GH(P:Program)(C:List (Nat × AV))(H:Hk)(rs:List ResultVar)(v:AV)(s:St)(m:iK)(Q:AV->aQ->Nat->Prop)(Qp:Value->aQ->Nat->Prop):Prop:=
 match v with
 | .fn (.func F) first cap=>match P.funcs[F]? with
  | some fn=>match fn.body with
   | some c=>match fn.name == "runtime.NumGoroutine" with
    | false=>match fn.results.toList with
     | []=>J4 P C H c (enter fn.ntmps (first++cap) s.mem s.nx) m λs' m'=>match m' with
      | .pan x=>Qp x s'.mem s'.nx
      | _=>match Ah P rs { s with mem:=s'.mem,nx:=s'.nx } with
       | some r=>Q r s'.mem s'.nx
       | none=>False
     | _::_=>False
    | true=>False
   | none=>False
  | none=>False
 | _=>False
theorem AQ{H:Hk}{X:Nat->Prop}{D:Nat->Prop}{E ρ0:Nat->dP}{a:Act}{w w0:World}{mem0:aQ}{d:Deferred}{v:AV}{fn:Func}{Qr:AV->aQ->Nat->Prop}{Qp:Value->aQ->Nat->Prop}
  (hD:∀i,D i->i<B) (hs:SR C X ([d],0) E (dn D B s.nx) s a w) (hB:B<=s.nx) (hv:DfR E (dn D B s.nx) (OX X E s.mem) w v d) (hext:Ext D ρ0 mem0 w0 E (dn D B s.nx) s.mem w)
  (hm:m.mode≠.run) (h:GH P C H fn.results.toList v s m Qr Qp) :
  Leaves P fn a.tmps (λe w'=>∃(mem':aQ) (nx':Nat) (E':Nat->dP),B<=nx'/\MR C X E' (dn D B nx') mem' w'/\Ext D ρ0 mem0 w0 E' (dn D B nx') mem' w' /\
   ((∃(r:AV) (v:Value),e = .returned v/\Qr r mem' nx'/\VR E' (dn D B nx') (OX X E' mem') w' r v)\/(∃x:Value,e = .panicked [pe x]/\Qp x mem' nx'))) [d] m.mode w:=by
 obtain⟨F,first,cap,vs,a2,rfl,ht,hvs,hvr⟩:=hv;simp only[GH] at h;split at h<;>first|exact h.elim|skip
 rename_i fd hf;split at h<;>first|exact h.elim|skip
 rename_i c hc;split at h<;>first|exact h.elim|skip
 rename_i hname;split at h<;>first|exact h.elim|skip
 rename_i hres;have hname':¬fd.name = "runtime.NumGoroutine" :=su hname
 refine⟨hm,.func F,a2,F,vs.toArray,ht, ?_, ?_⟩
 .rw[ht,<-hvs];have e:(d.args.toList++a2.toList).toArray=d.args++a2:=by apply aBw;simp
  simp[invoke,callFunc,hf,hc,hname',e]
 .refine callsD_of_wpS hf hc λc₀ cs hc0=>?_
  have hwide:∀id,dn (dn D B s.nx) s.nx s.nx id->dn D B s.nx id:=xJ hB (Y8 _);have hsr:=Ae (n:=fd.ntmps) (z7 hD hB) hs.mr hvr (aAp _);refine Ab ((Kq (B:=s.nx) (H:=H) c _ _ _ h).run X [] (dn D B s.nx) E _ w c₀ cs (z7 hD hB) hsr (Y8 _) hc0) ?_;rintro e a' cs' w' ⟨s',m',E',hq,rfl,hB',hs',hext'⟩;cases e with
  | normal=>
   have hr0:(results fd a'.tmps).run P w' = .ok (.tuple #[]) w':=by
    have:=yV (P:=P) (w:=w') (fn:=fd) (tmps:=a'.tmps) (vs:=[]) (by rw[hres];simp);simpa using this
   have ext2:=hext.trans ((hext'.sub λi hi=>.inl hi).wide (xJ hB hB'));obtain⟨m2,mono2,_⟩:=hs'.mr.widen (xJ hB hB');refine⟨hs'.def0.eq,m'.mode,rfl,.tuple #[],hr0, ?_⟩;have hs2:SR C X ([],0) E' (dn D B s'.nx) { s with mem:=s'.mem,nx:=s'.nx } { tmps:=a.tmps,defers:=[] } w':=
    ⟨m2,FX.start (ds:=([],0)) (aAp _),hs.size,λi u hi=>mono2 _ _ (hext'.vr (hs.slot i u hi))⟩
   have ret:settle m'.mode = .returning->(match Ah P fn.results.toList { s with mem:=s'.mem,nx:=s'.nx } with
       | some r=>Qr r s'.mem s'.nx
       | none=>False)->Leaves P fn a.tmps (λe w'=>∃(mem':aQ) (nx':Nat) (E':Nat->dP),B<=nx'/\MR C X E' (dn D B nx') mem' w'/\Ext D ρ0 mem0 w0 E' (dn D B nx') mem' w' /\
   ((∃(r:AV) (v:Value),e = .returned v/\Qr r mem' nx'/\VR E' (dn D B nx') (OX X E' mem') w' r v)\/(∃x:Value,e = .panicked [pe x]/\Qp x mem' nx'))) [] (settle m'.mode) w':=by
    intro hset hq;rw[hset];split at hq
    .rename_i r hr;obtain⟨x,h1,h2⟩:=x9 hs2 hr;exact⟨x,h1,s'.mem,s'.nx,E',Zj hB hB',m2,ext2,.inl ⟨r,x,rfl,hq,h2⟩⟩
    .exact hq.elim
   cases m' with
   | ret=>exact ret rfl hq
   | recd x=>exact ret rfl hq
   | pan x=>exact⟨s'.mem,s'.nx,E',Zj hB hB',m2,ext2,.inr ⟨x,rfl,hq⟩⟩
  | _=>exact(show False from hq).elim
end
structure oX(P:Program)(C:List (Nat × AV))(B:Nat)(c:Code)(s:St)(Q:Exit->St->Option AV->Prop):Prop where
 run:∀(X:Nat->Prop) (D:Nat->Prop) (E:Nat->dP) (a:Act) (w:World),(∀i,D i->i<B)->SR C X ([],0) E (dn D B s.nx) s a w->B<=s.nx ->
  c.wp P (λe a' w'=>∃(s':St) (v:Option AV) (ds:List Deferred) (E':Nat->dP),Q e s' v/\B<=s'.nx/\SR C X (ds,0) E' (dn D B s'.nx) s' a' w'/\Ext D E s.mem w E' (dn D B s'.nx) s'.mem w' /\
   (match v with
    | none=>ds=[]
    | some v=>∃d,ds=[d]/\DfR E' (dn D B s'.nx) (OX X E' s'.mem) w' v d)) a w
section
variable {P:Program} {C:List (Nat × AV)} {B:Nat} {s:St} {Q:Exit->St->Option AV->Prop}
theorem SR.widen{X:Nat->Prop}{ds:List Deferred × Nat}{E:Nat->dP}{D D':Nat->Prop}{a:Act}{w:World}(hs:SR C X ds E D s a w)(hD:∀i,D i->D' i):SR C X ds E D' s a w:=by
 obtain⟨m,mono,_⟩:=hs.mr.widen hD;exact⟨m,hs.def0,hs.size,λi v hi=>mono _ _ (hs.slot i v hi)⟩
theorem oX.of{c:Code}(hc:iM c=false)(h:eH P C B c s λe s'=>Q e s' none):oX P C B c s Q:=by
 refine⟨λX D E a w hD hs hB=>Go.wp_mono (GY.1 (h.run none X ([],0) D E a w hD hs hB (.no hc))) ?_⟩;rintro e a' w' ⟨s',E',hq,hB',hs',hext⟩;exact⟨s',none,[],E',hq,hB',hs',hext,rfl⟩
theorem DfR.vr{X:Nat->Prop}{D D':Nat->Prop}{E E':Nat->dP}{mem mem':aQ}{w w':World}{v:AV}{d:Deferred}(h:Ext D E mem w E' D' mem' w')(hv:DfR E D (OX X E mem) w v d):DfR E' D' (OX X E' mem') w' v d:=by
 obtain⟨F,first,cap,vs,a2,h1,h2,h3,h4⟩:=hv;exact⟨F,first,cap,vs,a2,h1,h2,h3,h4.1,λj c x hc hx=>h.vr (h4.2 j c x hc hx)⟩
def WX(P:Program)(C:List (Nat × AV))(B:Nat)(y:Code)(Q:Exit->St->Option AV->Prop)(e:Exit)(s:St)(v:Option AV):Prop:=
 match e with
 | .normal=>match v with
  | none=>oX P C B y s Q
  | some v=>iM y=false/\eH P C s.nx y s λe s'=>Q e s' (some v)
 | e=>Q e s v
theorem oX.seq{x y:Code}(h:oX P C B x s (WX P C B y Q)):oX P C B (.seq x y) s Q:=by
 refine⟨λX D E a w hD hs hB=>wp_seq (Go.wp_mono (h.run X D E a w hD hs hB) ?_)⟩;rintro e a' w' ⟨s',v,ds,E',hq,hB',hs',hext,hv⟩;cases e with
 | normal=>
  cases v with
  | none=>
   have hv:ds=[]:=hv;subst hv;refine Go.wp_mono ((show oX P C B y s' Q from hq).run X D E' a' w' hD hs' hB') ?_;rintro e a2 w2 ⟨s2,v2,ds2,ρ2,h1,h2,h3,h4,h5⟩;exact⟨s2,v2,ds2,ρ2,h1,h2,h3,hext.trans h4,h5⟩
  | some v=>
   obtain⟨d,rfl,hd⟩:=hv;have key:=(show iM y=false/\eH P C s'.nx y s' (λe s'=>Q e s' (some v)) from hq)
   refine Go.wp_mono (GY.1 (key.2.run none X ([d],0) (dn D B s'.nx) E' a' w' (z7 hD hB') (hs'.widen λi hi=>.inl hi) (Y8 _) (.no key.1))) ?_;rintro e a2 w2 ⟨s2,ρ2,h1,h2,h3,h4⟩;have hd2:=hd.vr h4;obtain⟨_,mono2,_⟩:=h3.mr.widen (xJ hB' h2);obtain⟨F,first,cap,vs,a2,g1,g2,g3,g4⟩:=hd2;exact⟨s2,some v,[d],ρ2,h1,Zj hB' h2,h3.widen (xJ hB' h2),hext.trans ((h4.sub λi hi=>.inl hi).wide (xJ hB' h2)),d,rfl,F,first,cap,vs,a2,g1,g2,g3,g4.1,λj c x hc hx=>mono2 _ _ (g4.2 j c x hc hx)⟩
 | exit i=>exact⟨s',v,ds,E',hq,hB',hs',hext,hv⟩
 | goto l=>exact⟨s',v,ds,E',hq,hB',hs',hext,hv⟩
 | ret=>exact⟨s',v,ds,E',hq,hB',hs',hext,hv⟩
 | panic c=>exact⟨s',v,ds,E',hq,hB',hs',hext,hv⟩
 | outgrown=>exact⟨s',v,ds,E',hq,hB',hs',hext,hv⟩
def JW(P:Program)(C:List (Nat × AV))(ops:List Oper):List Oper->St->(St->AV->Prop)->Prop
 | [],_,_=>False
 | o::r,s,K=>match mQ ops s o.guard with
  | some true=>match o.op with
   | .defer c=>match r with
    | []=>match c.args.toList with
     | []=>match c.callee with
      | .value f=>match ev C s f with
       | some (.fn (.func F) first cap)=>match eY s o.dst (.tup []) s.mem s.nx with
        | some s'=>K s' (.fn (.func F) first cap)
        | none=>False
       | _=>False
      | _=>False
     | _::_=>False
    | _::_=>False
   | op=>match c8 P C s op with
    | some (v,mem,nx)=>match eY s o.dst v mem nx with
     | some s'=>JW P C ops r s' K
     | none=>False
    | none=>False
  | _=>False
theorem BT(ops:List Oper):∀(l:List Oper) (s:St) (K:St->AV->Prop),JW P C ops l s K ->
  ∀(X:Nat->Prop) (D:Nat->Prop) (E:Nat->dP) (a:Act) (w:World) (Q:Exit->Act->World->Prop),(∀i,D i->i<B)->SR C X ([],0) E (dn D B s.nx) s a w->B<=s.nx ->
   (∀(s':St) (v:AV) (d:Deferred) (E':Nat->dP) (a':Act) (w':World),K s' v->B<=s'.nx->SR C X ([d],0) E' (dn D B s'.nx) s' a' w'->Ext D E s.mem w E' (dn D B s'.nx) s'.mem w'->DfR E' (dn D B s'.nx) (OX X E' s'.mem) w' v d->Q .normal a' w')->wpList P ops.toArray Q l a w
 | [],s,K,h,X,D,E,a,w,Q,hD,hs,hB,hQ=>h.elim
 | o::r,s,K,h,X,D,E,a,w,Q,hD,hs,hB,hQ=>by
  simp only[JW] at h;refine wpList_step λK' hK'=>?_
  split at h<;>first|exact h.elim|skip
  rename_i hw;rw[iO hs hw];simp only[if_true];split at h
  .rename_i c hop;split at h<;>first|exact h.elim|skip
   split at h<;>first|exact h.elim|skip
   rename_i hargs;split at h<;>first|exact h.elim|skip
   rename_i f hc;split at h<;>first|exact h.elim|skip
   rename_i F first cap hf
   split at h<;>first|exact h.elim|skip
   rename_i s' hst;have hv:=aZ hs hf;generalize he:a.eval f=fv at hv;cases hv with
   | fn _ _ _ a1 a2 l1 l2 r1 r2=>
    have hargs':c.args = #[]:=by apply aBw;simpa using hargs
    have e1:(execOp a.eval o).run P w = .ok (.defer { target:=.fn (.func F) a2,args:=a1 }) w:=by
     simp[execOp,hop,resolve,hc,he,Deferred.ofValue,hargs']
    unfold Oper.wp;rw[e1];have hs':SR C X ([{ target:=.fn (.func F) a2,args:=a1 }],0) E (dn D B s.nx) s { a with defers:={ target:=.fn (.func F) a2,args:=a1 }::a.defers } w:=
     ⟨hs.mr,by rw[hs.def0.eq];exact FX.start (ds:=([_],0)) (aAp _),hs.size,hs.slot⟩
    obtain⟨h1,h2,h3⟩:=gW hst hs' hs'.mr vW (λh=>h) (λ_ _ h=>h);refine hK' _ _ (wpList_nil (hQ s' _ _ E _ w h (by rw[h3];exact hB) (by rw[h3];exact h1) (by rw[h2,h3];exact Ext.refl λi hi=>.inl hi) ?_));refine⟨F,first,cap,a1.toList++a2.toList,a2,rfl,rfl,rfl, ?_⟩;rw[h2,h3];exact j8.append ⟨su l1,λj c x h1 h2=>r1 j c x h1 (su h2)⟩ ⟨su l2,λj c x h1 h2=>r2 j c x h1 (su h2)⟩
  .rename_i hnd;split at h<;>first|exact h.elim|skip
   rename_i v mem nx hstep;split at h<;>first|exact h.elim|skip
   rename_i s' hst;have hnx:s.nx<=nx:=by rcases AE hstep with h'|h'<;>omega
   obtain⟨x,n,w',E',e1,e2,m1,v1,mono1,ext1⟩:=n9 (P:=P) (D:=dn D B s.nx) (D':=dn D B nx) (λh'=>aBc _ (z7 hD hB _ h')) (CS hnx) hs o (λe=>.inr ⟨hB,om⟩) hstep;obtain⟨h1,h2,h3⟩:=gW hst hs m1 v1 (ext1 _ λi hi=>hi).mks mono1;have fin:K' (a.put o.dst x) w':=hK' _ _ (BT ops r s' K h X D E' _ w' Q hD (by rw[h3];exact h1) (by rw[h3];exact Zj hB hnx) λs2 v2 d2 ρ2 a2 w2 k1 k2 k3 k4 k5=>hQ s2 v2 d2 ρ2 a2 w2 k1 k2 k3 ((ext1 D λi hi=>.inl hi).trans (by rw[<-h2];exact k4)) k5);unfold Oper.wp;rw[e1];rcases e2 with rfl|⟨rfl,rfl⟩
   .exact fin
   .exact fin
theorem oX.region{id:Nat}{ops:Array Oper}(h:JW P C ops.toList ops.toList s λs' v=>Q .normal s' (some v)):oX P C B (.region id ops false) s Q:=by
 refine⟨λX D E a w hD hs hB=>wp_region_list ?_⟩;have:=BT ops.toList ops.toList s _ h X D E a w (λe a' w'=>∃(s':St) (v:Option AV) (ds:List Deferred) (E':Nat->dP),Q e s' v/\B<=s'.nx/\SR C X (ds,0) E' (dn D B s'.nx) s' a' w'/\Ext D E s.mem w E' (dn D B s'.nx) s'.mem w' /\
   (match v with
    | none=>ds=[]
    | some v=>∃d,ds=[d]/\DfR E' (dn D B s'.nx) (OX X E' s'.mem) w' v d)) hD hs hB
  (λs' v d E' a' w' h1 h2 h3 h4 h5=>⟨s',some v,[d],E',h1,h2,h3,h4,d,rfl,h5⟩)
 simpa using this
def Ql(P:Program)(C:List (Nat × AV))(H:Hk)(rs:List ResultVar)(Q:AV->aQ->Nat->Prop)(Qp:Value->aQ->Nat->Prop)(s:St)(v:Option AV):Prop:=
 match v with
 | none=>match Ah P rs s with
  | some r=>Q r s.mem s.nx
  | none=>False
 | some v=>GH P C H rs v s .ret Q Qp
def Xz(P:Program)(C:List (Nat × AV))(H:Hk)(rs:List ResultVar)(Q:AV->aQ->Nat->Prop)(Qp:Value->aQ->Nat->Prop)(x:Value)(s:St)(v:Option AV):Prop:=
 match v with
 | none=>Qp x s.mem s.nx
 | some v=>GH P C H rs v s (.pan x) Q Qp
def DR(P:Program)(C:List (Nat × AV))(H:Hk)(rs:List ResultVar)(Q:AV->aQ->Nat->Prop)(Qp:Value->aQ->Nat->Prop):Exit->St->Option AV->Prop:=λe s v=>
 match e with
 | .normal=>Ql P C H rs Q Qp s v
 | .ret=>Ql P C H rs Q Qp s v
 | .panic [⟨x,false,false⟩]=>Xz P C H rs Q Qp x s v
 | _=>False
theorem tR{H:Hk}{F:FuncId}{fn:Func}{c:Code}{args:List AV}{mem:aQ}{nx:Nat}{Q:AV->aQ->Nat->Prop}{Qp:Value->aQ->Nat->Prop}(hf:P.funcs[F]? = some fn)(hb:fn.body=some c)
  (h:oX P C nx c (enter fn.ntmps args mem nx) (DR P C H fn.results.toList Q Qp)) (hF:Nat.beq F YF=false:=by rfl):bV P C F args mem nx Q Qp:=by
 refine⟨λX D E w vs hD hm hv=>.of hF (calls_of_wp_defers hf hb ?_)⟩;refine Go.wp_mono (h.run X D E _ w hD (Ae hD hm hv (aAp _)) (Y8 _)) ?_;rintro e a' w' ⟨s',v,ds,E',hq,hB',hs',hext,hv⟩;have ret:Ql P C H fn.results.toList Q Qp s' v->Leaves P fn a'.tmps (λe w'=>∃(mem':aQ) (nx':Nat) (E':Nat->dP),nx<=nx'/\MR C X E' (dn D nx nx') mem' w'/\Ext D E mem w E' (dn D nx nx') mem' w' /\
   ((∃(r:AV) (v:Value),e = .returned v/\Q r mem' nx'/\VR E' (dn D nx nx') (OX X E' mem') w' r v)\/(∃x:Value,e = .panicked [pe x]/\Qp x mem' nx'))) a'.defers .returning w':=by
  intro hq;cases v with
  | none=>
   have hv:ds=[]:=hv;subst hv;rw[hs'.def0.eq];simp only[Ql] at hq;split at hq
   .rename_i r hr;obtain⟨x,h1,h2⟩:=x9 hs' hr;exact⟨x,h1,s'.mem,s'.nx,E',hB',hs'.mr,hext,.inl ⟨r,x,rfl,hq,h2⟩⟩
   .exact hq.elim
  | some v=>
   obtain⟨d,rfl,hd⟩:=hv;rw[hs'.def0.eq];exact AQ (B:=nx) (m:=.ret) hD hs' hB' hd hext (by simp[iK.mode]) hq
 cases e with
 | normal=>exact ret hq
 | ret=>exact ret hq
 | panic ch=>
  unfold DR at hq;split at hq
  .rename_i e;cases e
  .rename_i e;cases e
  .rename_i x e;cases e
   show Leaves P fn a'.tmps _ a'.defers (.panicking [pe x]) w'
   cases v with
   | none=>
    have hv:ds=[]:=hv;subst hv;rw[hs'.def0.eq];exact⟨s'.mem,s'.nx,E',hB',hs'.mr,hext,.inr ⟨x,rfl,hq⟩⟩
   | some v=>
    obtain⟨d,rfl,hd⟩:=hv;rw[hs'.def0.eq];exact AQ (B:=nx) (m:=.pan x) hD hs' hB' hd hext (by simp[iK.mode]) hq
  .exact hq.elim
 | _=>exact(show False from hq).elim
end
end Go.Ax
namespace Go.Ax
open Go
def Mf(F:Nat):List Nat->Bool
 | []=>false
 | ag::r=>match Nat.beq ag F with
  | true=>true
  | false=>Mf F r
def TX:List Oper->Bool
 | []=>false
 | o::r=>match o.op with
  | .defer _=>true
  | _=>TX r
def Jw(cl:Bool)(P:Program)(C:List (Nat × AV))(H:Hk):Code->St->(Exit->St->Option AV->Prop)->Prop
 | .seq x y,s,Q=>Jw cl P C H x s λe s' v=>match e with
  | .normal=>match v with
   | none=>Jw cl P C H y s' Q
   | some v=>match iM y with
    | false=>A3 cl P C H y s' λe s''=>Q e s'' (some v)
    | true=>False
  | e=>Q e s' v
 | .region id ops draw,s,Q=>match TX ops.toList with
  | true=>match draw with
   | false=>JW P C ops.toList ops.toList s λs' v=>Q .normal s' (some v)
   | true=>False
  | false=>A3 cl P C H (.region id ops draw) s λe s'=>Q e s' none
 | c,s,Q=>match iM c with
  | false=>A3 cl P C H c s λe s'=>Q e s' none
  | true=>False
theorem KF{cl:Bool}{P:Program}{C:List (Nat × AV)}{H:Hk}(hH:∀B,zL P C B H)(B:Nat):∀(c:Code) (s:St) (Q:Exit->St->Option AV->Prop),Jw cl P C H c s Q->oX P C B c s Q:=by
 intro c
 induction c with
 | seq x y ihx ihy=>
  intro s Q h;simp only[Jw] at h;refine oX.seq ?_;obtain⟨h'⟩:=ihx s _ h;refine⟨λX D E a w hD hs hB=>Go.wp_mono (h' X D E a w hD hs hB) ?_⟩;rintro e a' w' ⟨s',v,ds,E',hq,rest⟩;refine⟨s',v,ds,E', ?_,rest⟩;cases e with
  | normal=>
   cases v with
   | none=>exact ihy s' Q hq
   | some v=>
    simp only at hq;split at hq
    .rename_i hr;exact⟨hr,fE (hH s'.nx) y s' _ hq⟩
    .exact hq.elim
  | exit i=>exact hq
  | goto l=>exact hq
  | ret=>exact hq
  | panic c=>exact hq
  | outgrown=>exact hq
 | region id ops draw=>
  intro s Q h;simp only[Jw] at h;split at h
  .split at h
   .exact oX.region h
   .exact h.elim
  .exact .of rfl (fE (hH B) _ _ _ h)
 | _=>
  intro s Q h;simp only[Jw] at h;split at h
  .rename_i hr;exact .of hr (fE (hH B) _ _ _ h)
  .exact h.elim
def KL(P:Program)(C:List (Nat × AV))(H:Hk)(args:List AV)(mem:aQ)(nx:Nat)(K:AV->aQ->Nat->Prop):Prop:=
 match args with
 | .yld id::rest=>opt (lk mem id) λb=>match b with
  | .loop sl nt ps ca cb st pd=>match iM ca with
   | false=>match iM cb with
    | false=>opt (Bp nt ps.toList rest sl) λsl'=>A3 true P C H ca ⟨sl',mem,nx,nt⟩ λe s1=>match e with
     | .normal=>EV s1 λsl1 m1 n1 t1=>opt (lk m1 id) λb1=>match b1 with
      | .loop sl nt ps ca cb' .ready pd=>HX m1 id (.loop sl nt ps ca cb' .busy pd) λm2=>A3 true P C H cb ⟨sl1,m2,n1,t1⟩ λe s3=>EV s3 λ_ m3 n3 _=>opt (lk m3 id) λb3=>match b3 with
       | .loop sl nt ps ca cb _ _=>match e with
        | .normal=>HX m3 id (.loop sl nt ps ca cb .ready none) λm=>K (.bool true) m n3
        | .ret=>HX m3 id (.loop sl nt ps ca cb .done (some .ret)) λm=>K (.bool false) m n3
        | .exit i=>HX m3 id (.loop sl nt ps ca cb .done (some (.exit i))) λm=>K (.bool false) m n3
        | _=>False
       | _=>False
      | _=>False
     | _=>False
    | true=>False
   | true=>False
  | _=>False
 | _=>False
theorem HI{P:Program}{C:List (Nat × AV)}{H:Hk}(hH:∀B,zL P C B H){args:List AV}{mem:aQ}{nx:Nat}{K:AV->aQ->Nat->Prop}{Kp:Value->aQ->Nat->Prop}(h:KL P C H args mem nx K):bV P C YF args mem nx K Kp:=by
 unfold KL at h;split at h<;>first|exact h.elim|skip
 obtain⟨b,h1,h⟩:=b9.1 h;split at h<;>first|exact h.elim|skip
 split at h<;>first|exact h.elim|skip
 rename_i ha;split at h<;>first|exact h.elim|skip
 rename_i hb;obtain⟨sl',h2,h⟩:=b9.1 h;refine bV.round h1 h2 ha hb ((fE (hH nx) _ _ _ h).mono λe s1 h=>?_);unfold VK;split at h<;>first|exact h.elim|skip
 obtain⟨b1,h3,h⟩:=b9.1 (nU.1 h);simp only[h3];split at h<;>first|exact h.elim|skip
 refine(fE (hH nx) _ _ _ (lT.1 h)).mono λe s3 h=>?_
 unfold UO;obtain⟨b3,h4,h⟩:=b9.1 (nU.1 h);simp only[h4];split at h<;>first|exact h.elim|skip
 split at h
 .exact lT.1 h
 .exact lT.1 h
 .exact lT.1 h
 .exact h.elim
end Go.Ax
namespace Go.Ax
open Go
section
variable {P:Program} {C:List (Nat × AV)} {B:Nat}
theorem bV.use{F:FuncId}{asz args:List AV}{ms mem m1 rest:aQ}{ns nx:Nat}{Qs K:AV->aQ->Nat->Prop}{Qsp Kp:Value->aQ->Nat->Prop}(hΓ:∀p∈C,NN p.2)(h:bV P C F asz ms ns Qs Qsp)(J:List (Nat × Nat))
  (hp:uT mem m1 rest) (hrest:(rest.map (·.1)).Nodup) (hargs:g6 m1 J args asz) (hM:Qb m1 J ms) (hnod:(ms.map (·.1)).Nodup) (hinj:Jv J) (hlt:∀id i,lk J id=some i->i<ns)
  (hk:∀r m n,Qs r m n->ns<=n->∃I r' m' n',nx<=n'/\Cv m I r r'/\Qb m I m'/\(m'.map (·.1)).Nodup/\Jv I/\(∀i id,lk I i=some id->(i<ns/\lk J id=some i)\/(ns<=i/\nx<=id/\id<n')) /\
   (∀p∈m',∀q∈rest,p.1≠q.1)/\K r' (m'++rest) n')
  (hkp:∀x m n,Qsp x m n->ns<=n->∃I m' n',nx<=n'/\Qb m I m'/\(m'.map (·.1)).Nodup/\Jv I/\(∀i id,lk I i=some id->(i<ns/\lk J id=some i)\/(ns<=i/\nx<=id/\id<n')) /\
   (∀p∈m',∀q∈rest,p.1≠q.1)/\Kp x (m'++rest) n'):bV P C F args mem nx K Kp:=by
 refine⟨λX D E w vs hD hm hv=>?_⟩;obtain⟨p1,pv⟩:=hm.part hp;have hσ:∀id i,lk J id=some i->D id->(∃id,lk J id=some i/\D id)/\j7 J E E i=E id:=λid i h1 h2=>⟨⟨id,h1,h2⟩,kD hinj h1⟩
 obtain⟨s1,sv,so⟩:=p1.turn (D':=λi=>∃id,lk J id=some i/\D id) hΓ hσ hM hnod hinj;have hvs:j8 (j7 J E E) (λi=>∃id,lk J id=some i/\D id) (OX (XR X E rest) (j7 J E E) ms) w asz vs:=
  ⟨by rw[<-hargs.1];exact hv.1,λj c' x hc' hx=>by
   obtain⟨c,hc⟩:=dS hargs.1 hc';exact sv c c' (hargs.2 j c c' hc hc') _ (pv _ _ (hv.2 j c x hc hx))⟩
 refine(h.run _ _ _ w vs (λi ⟨id,h1,_⟩=>hlt id i h1) s1 hvs).mono ?_;rintro e w' ⟨m,n,ρs,hn,r1,ext,hres⟩;have main:∀(I:List (Nat × Nat)) (m':aQ) (n':Nat),nx<=n'->Qb m I m'->(m'.map (·.1)).Nodup->Jv I->(∀i id,lk I i=some id->(i<ns/\lk J id=some i)\/(ns<=i/\nx<=id/\id<n'))->(∀p∈m',∀q∈rest,p.1≠q.1) ->
   ∃E',MR C X E' (dn D nx n') (m'++rest) w'/\Ext D E mem w E' (dn D nx n') (m'++rest) w'/\∀r r',Cv m I r r'->∀x,VR ρs (dn (λi=>∃id,lk J id=some i/\D id) ns n) (OX (XR X E rest) ρs m) w' r x->VR E' (dn D nx n') (OX X E' (m'++rest)) w' r' x:=by
  intro I m' n' hn' t2 t3 t4 t5 t6;have hτ:∀i id,lk I i=some id->dn (λi=>∃id,lk J id=some i/\D id) ns n i->dn D nx n' id/\j7 I ρs E id=ρs i:=by
   intro i id h1 h2;refine⟨?_,kD t4 h1⟩;rcases t5 i id h1 with⟨h3,h4⟩|⟨h3,h4,h5⟩
   .rcases h2 with⟨id0,h5,h6⟩|⟨h5,_⟩
    .rw[hinj id id0 i h4 h5];exact .inl h6
    .omega
   .exact .inr ⟨h4,h5⟩
  obtain⟨u1,uv,uo⟩:=r1.turn hΓ hτ t2 t3 t4;have hext:Ext D E m1 w (j7 I ρs E) (dn D nx n') m' w':=by
   refine⟨λi hi=>.inl hi,λid hid=>?_,ext.size,λb hb ho=>?_,λp hp' hpn=>?_,ext.env⟩
   .by_cases hex:∃i,lk I i=some id
    .obtain⟨i,hi⟩:=hex;rw[kD t4 hi];rcases t5 i id hi with⟨h3,h4⟩|⟨h3,h4,h5⟩
     .rw[ext.agree i ⟨id,h4,hid⟩,kD hinj h4]
     .have:=hD id hid;omega
    .exact wH hex
   .refine ext.keep b hb λ⟨p,hp',hpn,e⟩=>ho ?_
    rw[<-e];exact so p hp' hpn
   .obtain⟨q,hq',hqn,e⟩:=uo p hp' hpn;rw[<-e];rcases ext.fresh q hq' hqn with⟨q',hq1,hq2,e'⟩|h1
    .rw[<-e'];exact .inl (so q' hq1 hq2)
    .exact .inr h1
  obtain⟨j1,j2,j3,j4⟩:=MR.join (D':=dn D nx n') hm hp u1 hext (λp hp=>hp) t6 hrest;exact⟨_,j1,j4 D λi hi=>hi,λr r' hc x hx=>j2 _ _ (uv r r' hc _ hx)⟩
 rcases hres with⟨r,v,rfl,hq,rv⟩|⟨x,rfl,hq⟩
 .obtain⟨I,r',m',n',hn',t1,t2,t3,t4,t5,t6,hK⟩:=hk r m n hq hn;obtain⟨E',k1,k2,k3⟩:=main I m' n' hn' t2 t3 t4 t5 t6;exact⟨_,n',E',hn',k1,k2,.inl ⟨r',v,rfl,hK,k3 r r' t1 _ rv⟩⟩
 .obtain⟨I,m',n',hn',t2,t3,t4,t5,t6,hK⟩:=hkp x m n hq hn;obtain⟨E',k1,k2,k3⟩:=main I m' n' hn' t2 t3 t4 t5 t6;exact⟨_,n',E',hn',k1,k2,.inr ⟨x,rfl,hK⟩⟩
def MI(B:Nat)(Qp:Value->aQ->Nat->Prop)(x:Value)(m:aQ)(n:Nat):Prop:=kH B (λ_ m n=>Qp x m n) .junk m n
theorem bV.turn{F:FuncId}{args:List AV}{mem:aQ}{nx:Nat}{Q:AV->aQ->Nat->Prop}{Qp:Value->aQ->Nat->Prop}(hΓ:∀p∈C,NN p.2)(h:bV P C F args mem nx (kH nx Q) (MI nx Qp)):bV P C F args mem nx Q Qp:=by
 refine⟨λX D E w vs hD hm hv=>(h.run X D E w vs hD hm hv).mono ?_⟩;rintro e w' ⟨m,n,E',h3,h4,h6,(⟨r,v,h1,⟨J,r',m',n',hc,hq⟩,h5⟩|⟨x,h1,⟨J,r',m',n',hc,hq⟩⟩)⟩
 .obtain⟨m1,v1,e1⟩:=u9 hΓ hD h4 hc.mem hc.nod hc.inj hc.old;exact⟨m',n',_,hc.nx,m1,h6.trans e1,.inl ⟨r',v,h1,hq,v1 r r' hc.res _ h5⟩⟩
 .obtain⟨m1,v1,e1⟩:=u9 hΓ hD h4 hc.mem hc.nod hc.inj hc.old;exact⟨m',n',_,hc.nx,m1,h6.trans e1,.inr ⟨x,h1,hq⟩⟩
structure pR(P:Program)(C:List (Nat × AV))(B:Nat)(ops l:List Oper)(s:St)(K:St->Prop)(Kp:Value->St->Prop):Prop where
 run:xA P C (G6 P C B) ops l s K Kp
def Nn(P:Program)(C:List (Nat × AV))(B:Nat)(ops:List Oper)(K:St->Prop)(Kp:Value->St->Prop)(next:List Oper->St->Prop)(l:List Oper)(s:St):Prop:=
 match l with
 | []=>K s
 | o::r=>EV s λsl mem nx nt=>pH ops sl o.guard
   (Dv false P C (G6 P C B) sl mem nx o.op (λv mem nx=>kX s o.dst v mem nx λs'=>next r s') λx mem nx=>Kp x ⟨sl,mem,nx,nt⟩)
   (kX s o.dst (.tup []) mem nx λs'=>next r s')
theorem AL{ops:List Oper}{K:St->Prop}{Kp:Value->St->Prop}{next:List Oper->St->Prop}(hn:∀r s,next r s->pR P C B ops r s K Kp){l:List Oper}{s:St}(h:Nn P C B ops K Kp next l s):pR P C B ops l s K Kp:=by
 refine⟨?_⟩;cases l with
 | nil=>exact h
 | cons o r=>
  have h:pH ops s.sl o.guard (Dv false P C (G6 P C B) s.sl s.mem s.nx o.op (λv mem nx=>kX s o.dst v mem nx λs'=>next r s') λx mem nx=>Kp x ⟨s.sl,mem,nx,s.nt⟩) (kX s o.dst (.tup []) s.mem s.nx λs'=>next r s'):=h;simp only[xA];rcases tJ h with⟨h1,h⟩|⟨h1,h⟩
  .simp only[h1];rcases Lg h with⟨v,m,n,h2,h⟩|⟨h2,F,l,h3,h⟩|⟨h2,h3,y,h4,h⟩
   .obtain⟨s',h4,h⟩:=eR h;simp only[h2,h4];exact(hn _ _ h).run
   .simp only[h2,h3];refine(show bV P C F l s.mem s.nx _ _ from h).mono (λv m n h=>?_) λx m n h=>h
    obtain⟨s',h4,h⟩:=eR h;simp only[h4];exact(hn _ _ h).run
   .simp only[h2,h3,h4];exact h
  .obtain⟨s',h4,h⟩:=eR h;simp only[h1,h4];exact(hn _ _ h).run
def WN(P:Program)(C:List (Nat × AV))(B:Nat)(ops:List Oper)(K:St->Prop)(Kp:Value->St->Prop)(l:List Oper)(s:St):Prop:=pR P C B ops l s K Kp
theorem SH{ops:List Oper}{K:St->Prop}{Kp:Value->St->Prop}(l:List Oper)(s:St)(h:WN P C B ops K Kp l s):pR P C B ops l s K Kp:=h
def Vw(P:Program)(C:List (Nat × AV))(B:Nat)(ops:List Oper)(K:St->Prop)(Kp:Value->St->Prop)(l:List Oper)(s:St):Prop:=Nn P C B ops K Kp (WN P C B ops K Kp) l s
theorem Qz{ops:List Oper}{K:St->Prop}{Kp:Value->St->Prop}(l:List Oper)(s:St)(h:Vw P C B ops K Kp l s):pR P C B ops l s K Kp:=AL SH h
def Wd(P:Program)(C:List (Nat × AV))(B:Nat)(ops:List Oper)(K:St->Prop)(Kp:Value->St->Prop)(l:List Oper)(s:St):Prop:=Nn P C B ops K Kp (Vw P C B ops K Kp) l s
theorem Rj{ops:List Oper}{K:St->Prop}{Kp:Value->St->Prop}(l:List Oper)(s:St)(h:Wd P C B ops K Kp l s):pR P C B ops l s K Kp:=AL Qz h
def Wn(P:Program)(C:List (Nat × AV))(B:Nat)(ops:List Oper)(K:St->Prop)(Kp:Value->St->Prop)(l:List Oper)(s:St):Prop:=Nn P C B ops K Kp (Wd P C B ops K Kp) l s
theorem Qo{ops:List Oper}{K:St->Prop}{Kp:Value->St->Prop}(l:List Oper)(s:St)(h:Wn P C B ops K Kp l s):pR P C B ops l s K Kp:=AL Rj h
def WO(P:Program)(C:List (Nat × AV))(B:Nat)(ops:List Oper)(K:St->Prop)(Kp:Value->St->Prop)(l:List Oper)(s:St):Prop:=Nn P C B ops K Kp (Wn P C B ops K Kp) l s
theorem R4{ops:List Oper}{K:St->Prop}{Kp:Value->St->Prop}(l:List Oper)(s:St)(h:WO P C B ops K Kp l s):pR P C B ops l s K Kp:=AL Qo h
def T7(P:Program)(C:List (Nat × AV))(B:Nat)(ops:List Oper)(K:St->Prop)(Kp:Value->St->Prop)(l:List Oper)(s:St):Prop:=Nn P C B ops K Kp (WO P C B ops K Kp) l s
theorem SW{ops:List Oper}{K:St->Prop}{Kp:Value->St->Prop}(l:List Oper)(s:St)(h:T7 P C B ops K Kp l s):pR P C B ops l s K Kp:=AL R4 h
theorem pR.many{ops l:List Oper}{s:St}{K:St->Prop}{Kp:Value->St->Prop}(h:T7 P C B ops K Kp l s):pR P C B ops l s K Kp:=SW l s h
structure B7(P:Program)(C:List (Nat × AV))(B:Nat)(ops:List Oper)(tr:List (List Nat))(base:Nat)(K:St->Prop)(Kp:Value->aQ->Nat->Prop)(l:List Nat)(recs:List BD)(s:St):Prop where
 run:p8 P C (G6 P C B) ops tr base K Kp l recs s
def UK(P:Program)(C:List (Nat × AV))(B:Nat)(ops:List Oper)(tr:List (List Nat))(base:Nat)(K:St->Prop)(Kp:Value->aQ->Nat->Prop)(l:List Nat)(recs:List BD)(s:St):Prop:=
 match l with
 | []=>K s
 | i::r=>match ops[i]? with
  | none=>False
  | some o=>EV s λsl mem nx nt=>pH ops sl o.guard
   (match kind P o.op with
    | .pure=>match still o.op with
     | true=>qC false P C sl [] nx o.op λv _ _=>kX s o.dst v mem nx λs'=>B7 P C B ops tr base K Kp r (⟨i,sl,true,v⟩::recs) s'
     | false=>gV (λp=>HV tr base ops.length i p.1) mem λm=>qC false P C sl m nx o.op λv _ _=>kX s o.dst v mem nx λs'=>B7 P C B ops tr base K Kp r (⟨i,sl,true,v⟩::recs) s'
    | .al=>pX (base+i) λid=>qC false P C sl [] id o.op λv m _=>match m with
     | [(_,b)]=>kX s o.dst v ((id,b)::mem) nx λs'=>B7 P C B ops tr base K Kp r (⟨i,sl,true,v⟩::recs) s'
     | _=>False
    | .eff=>gV (λp=>HV tr base ops.length i p.1) mem λm=>EP false P C (G6 P C B) sl m nx o.op (λv m nx'=>gV (λp=>!HV tr base ops.length i p.1) mem λrest=>gV (λp=>!s6 p.1 m) rest λrest=>CB m rest λm=>
      kX s o.dst v m nx' λs'=>tE false P C ops tr base i m nx' recs (B7 P C B ops tr base K Kp r recs s')) Kp)
   (kX s o.dst (.tup []) mem nx λs'=>B7 P C B ops tr base K Kp r (⟨i,sl,false,.tup []⟩::recs) s')
theorem B7.go{ops:List Oper}{tr:List (List Nat)}{base:Nat}{K:St->Prop}{Kp:Value->aQ->Nat->Prop}{l:List Nat}{recs:List BD}{s:St}(h:UK P C B ops tr base K Kp l recs s):B7 P C B ops tr base K Kp l recs s:=by
 refine⟨?_⟩;cases l with
 | nil=>exact h
 | cons i r=>
  simp only[UK] at h;simp only[p8];split at h
  .exact h.elim
  .rename_i o ho;simp only[ho];have h:=nU.1 h;rcases tJ h with⟨h1,h⟩|⟨h1,h⟩
   .simp only[h1];split at h
    .rename_i hkd;simp only[hkd];split at h
     .rename_i hst;obtain⟨v,m,n,h2,h⟩:=kO (s:={ sl:=s.sl,mem:=[],nx:=s.nx,nt:=s.nt }) h;obtain⟨m',n',h2'⟩:=qI (s:={ sl:=s.sl,mem:=[],nx:=s.nx,nt:=s.nt }) (s':={ s with mem:=fL tr base ops.length i s.mem }) hst rfl h2;obtain⟨s',h3,h⟩:=eR h;simp only[h2',h3];exact h.run
     .have h:=cL.1 h;obtain⟨v,m,n,h2,h⟩:=kO (s:={ s with mem:=fL tr base ops.length i s.mem }) h;obtain⟨s',h3,h⟩:=eR h;simp only[h2,h3];exact h.run
    .rename_i hkd;simp only[hkd];have h:=eE.1 h;obtain⟨v,m,n,h2,h⟩:=kO (s:={ s with mem:=[],nx:=base+i }) h;simp only[h2];split at h
     .obtain⟨s',h3,h⟩:=eR h;simp only[h3];exact h.run
     .exact h.elim
    .rename_i hkd;simp only[hkd];have h:=cL.1 h;rcases BI (s:={ s with mem:=fL tr base ops.length i s.mem }) h with⟨v,m,n,h2,h⟩|⟨h2,F,l,h3,h⟩
     .simp only[h2];have h:=gM.1 (cL.1 (cL.1 h));obtain⟨s',h3,h⟩:=eR h;have h3:eY s o.dst v (m++qW m (fZ tr base ops.length i s.mem)) n=some s':=h3;simp only[h3];obtain⟨e1,e2,_⟩:=f6 h3;have h:tE false P C ops tr base i (m++qW m (fZ tr base ops.length i s.mem)) n recs (B7 P C B ops tr base K Kp r recs s'):=h;rw[<-e1,<-e2] at h;obtain⟨h4,h⟩:=oI h;exact⟨h4,h.run⟩
     .rw[qL (s':=s) (λx _=>by cases x<;>rfl)] at h3;simp only[h2,h3];refine(show bV P C F l _ _ _ _ from h).mono (λv m n h=>?_) λx m n h=>h
      have h:=gM.1 (cL.1 (cL.1 h));obtain⟨s',h3,h⟩:=eR h;have h3:eY s o.dst v (m++qW m (fZ tr base ops.length i s.mem)) n=some s':=h3;simp only[h3];obtain⟨e1,e2,_⟩:=f6 h3;have h:tE false P C ops tr base i (m++qW m (fZ tr base ops.length i s.mem)) n recs (B7 P C B ops tr base K Kp r recs s'):=h;rw[<-e1,<-e2] at h;obtain⟨h4,h⟩:=oI h;exact⟨h4,h.run⟩
   .obtain⟨s',h3,h⟩:=eR h;simp only[h1,h3];exact h.run
def QW(P:Program)(C:List (Nat × AV))(B:Nat)(ops:List Oper)(s:St)(Q:Exit->St->Prop):Prop:=
 match P.follows .mixedOrders with
 | true=>match BL P ops (t8 P ops ops.length [] (yC ops.length)) with
  | true=>EV s λsl mem nx nt=>pX (nx+ops.length) λn=>tZ (t8 P ops ops.length [] (yC ops.length)) λord=>B7 P C B ops (Li ops []) nx (λs'=>Q .normal s') (λx m n=>Q (.panic [pe x]) ⟨vH ops sl,m,n,nt⟩) ord [] ⟨sl,mem,n,nt⟩
  | false=>False
 | false=>False
def WU(P:Program)(C:List (Nat × AV))(B:Nat)(c:Code)(s:St)(Q:Exit->St->Prop):Prop:=
 match c with
 | .region _ ops draw=>match draw with
  | false=>pR P C B ops.toList ops.toList s (λs'=>Q .normal s') λx s'=>Q (.panic [pe x]) s'
  | true=>QW P C B ops.toList s Q
 | c=>Ut P C B c s Q
theorem eH.goP{c:Code}{s:St}{Q:Exit->St->Prop}(h:WU P C B c s Q):eH P C B c s Q:=by
 cases c with
 | region id ops draw=>
  cases draw with
  | false=>exact rN GC (.region id ops false) s Q (show pR P C B ops.toList ops.toList s _ _ from h).run
  | true=>
   refine rN GC (.region id ops true) s Q ?_;have h:QW P C B ops.toList s Q:=h;unfold QW at h;simp only[EW];split at h
   .rename_i hmix;simp only[hmix];split at h
    .rename_i hok;simp only[FJ,hok];exact(lD.1 (eE.1 (nU.1 h))).run
    .exact h.elim
   .exact h.elim
 | _=>exact eH.go h
def Ke(P:Program)(C:List (Nat × AV))(B:Nat)(next:Code->St->(Exit->St->Prop)->Prop)(c:Code)(s:St)(Q:Exit->St->Prop):Prop:=
 match c with
 | .seq x y=>next x s (J0 P C B y Q)
 | .block id c=>next c s (B8 id Q)
 | c=>WU P C B c s Q
theorem wE{next:Code->St->(Exit->St->Prop)->Prop}(hn:∀c s Q,next c s Q->eH P C B c s Q){c:Code}{s:St}{Q:Exit->St->Prop}(h:Ke P C B next c s Q):eH P C B c s Q:=by
 cases c with
 | seq x y=>exact eH.go (show Ut P C B (.seq x y) s Q from hn _ _ _ h)
 | block id c=>exact eH.go (show Ut P C B (.block id c) s Q from hn _ _ _ h)
 | _=>exact eH.goP h
def V6(P:Program)(C:List (Nat × AV))(B:Nat)(c:Code)(s:St)(Q:Exit->St->Prop):Prop:=eH P C B c s Q
theorem Sq(c:Code)(s:St)(Q:Exit->St->Prop)(h:V6 P C B c s Q):eH P C B c s Q:=h
def Vu(P:Program)(C:List (Nat × AV))(B:Nat)(c:Code)(s:St)(Q:Exit->St->Prop):Prop:=Ke P C B (V6 P C B) c s Q
theorem SV(c:Code)(s:St)(Q:Exit->St->Prop)(h:Vu P C B c s Q):eH P C B c s Q:=wE Sq h
def WC(P:Program)(C:List (Nat × AV))(B:Nat)(c:Code)(s:St)(Q:Exit->St->Prop):Prop:=Ke P C B (Vu P C B) c s Q
theorem Sk(c:Code)(s:St)(Q:Exit->St->Prop)(h:WC P C B c s Q):eH P C B c s Q:=wE SV h
def Wy(P:Program)(C:List (Nat × AV))(B:Nat)(c:Code)(s:St)(Q:Exit->St->Prop):Prop:=Ke P C B (WC P C B) c s Q
theorem SB(c:Code)(s:St)(Q:Exit->St->Prop)(h:Wy P C B c s Q):eH P C B c s Q:=wE Sk h
def Vc(P:Program)(C:List (Nat × AV))(B:Nat)(c:Code)(s:St)(Q:Exit->St->Prop):Prop:=Ke P C B (Wy P C B) c s Q
theorem Sh(c:Code)(s:St)(Q:Exit->St->Prop)(h:Vc P C B c s Q):eH P C B c s Q:=wE SB h
def Wu(P:Program)(C:List (Nat × AV))(B:Nat)(c:Code)(s:St)(Q:Exit->St->Prop):Prop:=Ke P C B (Vc P C B) c s Q
theorem RZ(c:Code)(s:St)(Q:Exit->St->Prop)(h:Wu P C B c s Q):eH P C B c s Q:=wE Sh h
def VN(P:Program)(C:List (Nat × AV))(B:Nat)(c:Code)(s:St)(Q:Exit->St->Prop):Prop:=Ke P C B (Wu P C B) c s Q
theorem Qy(c:Code)(s:St)(Q:Exit->St->Prop)(h:VN P C B c s Q):eH P C B c s Q:=wE RZ h
theorem eH.manyP{c:Code}{s:St}{Q:Exit->St->Prop}(h:VN P C B c s Q):eH P C B c s Q:=Qy c s Q h
class YG(p:Prop)(q:outParam Prop):Prop where
 h:q->p
instance{c:Code}{s:St}{Q:Exit->St->Prop}:YG (eH P C B c s Q) (VN P C B c s Q):=⟨eH.manyP⟩
instance{ops l:List Oper}{s:St}{K:St->Prop}{Kp:Value->St->Prop}:YG (pR P C B ops l s K Kp) (T7 P C B ops K Kp l s):=⟨pR.many⟩
instance{ops:List Oper}{tr:List (List Nat)}{base:Nat}{K:St->Prop}{Kp:Value->aQ->Nat->Prop}{l:List Nat}{recs:List BD}{s:St}:YG (B7 P C B ops tr base K Kp l recs s) (UK P C B ops tr base K Kp l recs s):=⟨B7.go⟩
theorem Yg{p q:Prop}[i:YG p q](x:q):p:=i.h x
theorem Rq{p q:Prop}(x:q)(e:q->p:=by(intro x;(conv=>whnf);(repeat(refine Yg ?_;conv=>whnf));exact x)):p:=e x
theorem EG{F:FuncId}{fn:Func}{c:Code}{args:List AV}{mem:aQ}{nx:Nat}{Q:AV->aQ->Nat->Prop}{Qp:Value->aQ->Nat->Prop}(hΓ:∀p∈C,NN p.2)(hf:P.funcs[F]? = some fn)(hb:fn.body=some c)
  (h:s8 fn.ntmps args mem nx λs=>eH P C nx c s (E0 P fn.results.toList (kH nx Q) (MI nx Qp))) (hF:Nat.beq F YF=false:=by rfl):bV P C F args mem nx Q Qp:=
 (mD hf hb ((jN h).mono λ_ _ h=>CK h) hF).turn hΓ
end
end Go.Ax
namespace Go.Ax
open Go
theorem bV.useN{P:Program}{C:List (Nat × AV)}{F:FuncId}{args args':List AV}{ms mem m1:aQ}{ns nx:Nat}{Qs K:AV->aQ->Nat->Prop}{Qsp Kp:Value->aQ->Nat->Prop}(hΓ:∀p∈C,NN p.2)(J:List (Nat × Nat))(h:bV P C F args' ms ns Qs Qsp)
  (hp:kC (iN J) mem=m1) (hargs:g6 m1 J args args') (hM:cO m1 J ms) (hc:(kG ms && (kV J && pU ns J))=true)
  (hk:∀r m n,Qs r m n->∃I r' m' n',Cv m I r r'/\cO m I m'/\(kG m' && (kV I && (Nat.ble nx n' && (mG (iN J) nx m' && rL J ns nx n' I))))=true/\K r' (m'++gZ (iN J) mem) n')
  (hkp:∀x m n,Qsp x m n->∃I m' n',cO m I m'/\(kG m' && (kV I && (Nat.ble nx n' && (mG (iN J) nx m' && rL J ns nx n' I))))=true/\Kp x (m'++gZ (iN J) mem) n'):bV P C F args mem nx K Kp:=by
 simp only[Y1] at hc;obtain⟨hc1,hc2,hc4⟩:=hc;refine⟨λX D E w vs hD hm hv=>?_⟩;have key:∀(m':aQ) (n':Nat),mG (iN J) nx m'=true->∀p∈m',∀q∈gZ (iN J) mem,p.1≠q.1:=λm' n' hko p h5 q h6=>by
  have b:=(dH.1 h6).2;rcases sC hko p h5 with a|a
  .have:=hD _ (hm.low q (dH.1 h6).1);omega
  .intro e;rw[e,b] at a;cases a
 refine(bV.use (K:=K) (Kp:=Kp) (nx:=nx) hΓ h J (m1:=m1) (rest:=gZ (iN J) mem) ⟨λp hp'=>?_,λp hp'=>(dH.1 hp').1,λp hp'=>?_,λp h1 q h2=>?_, ?_⟩ ?_ hargs hM.cvm (eI hc1) (mI hc2) (λid i hl=>lY hc4 _ (bL hl)) ?_ ?_).run X D E w vs hD hm hv
 .rw[<-hp] at hp';exact(eO.1 hp').1
 .cases hi:C7 p.1 (iN J) with
  | true=>left;rw[<-hp];exact eO.2 ⟨hp',hi⟩
  | false=>right;exact dH.2 ⟨hp',hi⟩
 .rw[<-hp] at h1;have a:=(eO.1 h1).2;have b:=(dH.1 h2).2;intro e;rw[e,b] at a;cases a
 .rw[<-hp];exact hm.nod.sublist ((m7 mem).map _)
 .exact hm.nod.sublist ((nJ mem).map _)
 .intro r m n hq hn;obtain⟨I,r',m',n',h1,h2,h3,h4⟩:=hk r m n hq;simp only[Y1] at h3;exact⟨I,r',m',n',Y5 h3.2.2.1,h1,h2.cvm,eI h3.1,mI h3.2.1,λi id hl=>qJ h3.2.2.2.2 _ (bL hl),key m' n' h3.2.2.2.1,h4⟩
 .intro x m n hq hn;obtain⟨I,m',n',h2,h3,h4⟩:=hkp x m n hq;simp only[Y1] at h3;exact⟨I,m',n',Y5 h3.2.2.1,h2.cvm,eI h3.1,mI h3.2.1,λi id hl=>qJ h3.2.2.2.2 _ (bL hl),key m' n' h3.2.2.2.1,h4⟩
theorem aX.goP{P:Program}{F:FuncId}{args:List AV}{r:AV}{mem:aQ}{nx:Nat}{K:AV->aQ->Nat->Prop}{Kp:Value->aQ->Nat->Prop}(h:aX P [] F args r)(hk:K r mem nx)(ha:jU args:=by exact dN)(hr:NN r:=by exact nn):bV P [] F args mem nx K Kp:=(h.go hk ha hr).toP
theorem bV.pre{P:Program}{C:List (Nat × AV)}{F:FuncId}{args args':List AV}{mem mem':aQ}{nx:Nat}{K:AV->aQ->Nat->Prop}{Kp:Value->aQ->Nat->Prop}(hΓ:∀p∈C,NN p.2)(J:List (Nat × Nat))(hid:(Hh J && kG mem')=true)
  (hM:cO mem J mem') (hargs:g6 mem J args args') (h:bV P C F args' mem' nx K Kp):bV P C F args mem nx K Kp:=by
 simp only[Y1] at hid;have hid1:=uY hid.1;have hnod:=eI hid.2;refine⟨λX D E w vs hD hm hv=>?_⟩;have hσ:∀id id',lk J id=some id'->D id->D id'/\E id'=E id:=by
  intro id id' h hd;have:=hid1 _ (bL h);simp only at this;subst this;exact⟨hd,rfl⟩
 have hinj:Jv J:=λi j k h1 h2=>by
  have a:=hid1 _ (bL h1);have b:=hid1 _ (bL h2);simp only at a b;omega
 obtain⟨m1,v1,o1⟩:=hm.turn (D':=D) (E':=E) hΓ hσ hM.cvm hnod hinj;have hvs:j8 E D (OX X E mem') w args' vs:=⟨by rw[<-hargs.1];exact hv.1,λj c' x hc' hx=>by
   obtain⟨c,hc⟩:=dS hargs.1 hc';exact v1 c c' (hargs.2 j c c' hc hc') _ (hv.2 j c x hc hx)⟩
 refine(h.run X D E w vs hD m1 hvs).mono ?_;rintro e w' ⟨m,n,E',h3,h4,h6,hr⟩;have e0:Ext D E mem w E D mem' w:=⟨λi hi=>hi,λ_ _=>rfl,Y8 _,λ_ _ _=>rfl,λp hp hn=>.inl (o1 p hp hn),.refl _⟩
 exact⟨m,n,E',h3,h4,e0.trans h6,hr⟩
theorem bV.ph{P:Program}{C:List (Nat × AV)}{F:FuncId}{args:List AV}{mem:aQ}{nx:Nat}{K:AV->aQ->Nat->Prop}{Kp:Value->aQ->Nat->Prop}(t:TypeId)(sz:Nat)(h:bV P C F args ((nx,.row t sz [])::mem) (nx+1) K Kp):bV P C F args mem nx K Kp:=by
 refine⟨λX D E w vs hD hm hv=>?_⟩;obtain⟨m1,v1,e1⟩:=hm.phantom (n:=nx) (D':=dn D nx (nx+1)) (λh'=>aBc _ (hD _ h')) (λi hi=>.inl hi) (.inr ⟨Y8 _,aAH _⟩) t sz;refine(h.run X _ _ w vs (λi hi=>?_) m1 ⟨hv.1,λj c x hc hx=>v1 _ _ (hv.2 j c x hc hx)⟩).mono ?_
 .rcases hi with hi|hi
  .have:=hD i hi;omega
  .exact hi.2
 .rintro e w' ⟨m,n,E',hn,hm',ext,hr⟩;have ed:dn (dn D nx (nx+1)) (nx+1) n=dn D nx n:=by
   funext i
   apply propext;constructor
   .rintro((hi|⟨h1,h2⟩)|⟨h1,h2⟩)
    .exact .inl hi
    .exact .inr ⟨h1,om⟩
    .exact .inr ⟨om,h2⟩
   .rintro(hi|⟨h1,h2⟩)
    .exact .inl (.inl hi)
    .rcases ZG i (nx+1) with h3|h3
     .exact .inl (.inr ⟨h1,h3⟩)
     .exact .inr ⟨h3,h2⟩
  rw[ed] at hm' ext;have e2:=e1 D λi hi=>hi
  refine⟨m,n,E',om,hm',e2.trans ⟨λi hi=>ext.le i (.inl hi),λi hi=>ext.agree i (.inl hi),ext.size,ext.keep,ext.fresh,ext.env⟩, ?_⟩;rcases hr with⟨r,v,h1,h2,h3⟩|hr
  .rw[ed] at h3;exact .inl ⟨r,v,h1,h2,h3⟩
  .exact .inr hr
theorem Bg{P:Program}{C:List (Nat × AV)}{H:Hk}{F:FuncId}{fn:Func}{c:Code}{args:List AV}{mem:aQ}{nx:Nat}{Q:AV->aQ->Nat->Prop}{Qp:Value->aQ->Nat->Prop}(hΓ:∀p∈C,NN p.2)(hf:P.funcs[F]? = some fn)(hb:fn.body=some c)
  (h:s8 fn.ntmps args mem nx λs=>oX P C nx c s (DR P C H fn.results.toList (kH nx Q) (MI nx Qp))) (hF:Nat.beq F YF=false:=by rfl):bV P C F args mem nx Q Qp:=
 (tR hf hb (jN h) hF).turn hΓ
theorem aX.frz{P:Program}{C:List (Nat × AV)}{F:FuncId}{args asz:List AV}{r:AV}{mem:aQ}{nx:Nat}{K:AV->aQ->Nat->Prop}(h:aX P C F asz r)(ids:List Nat)(hΓ:∀p∈C,NN p.2)(hargs:g6 (kC ids mem) [] args asz)(hr:NN r)(hk:K r (gZ ids mem) nx) :
  aJ P C F args mem nx K:=by
 refine⟨λX D E w vs hD hm hv=>?_⟩;refine(aJ.use (K:=K) (nx:=nx) hΓ h [] (m1:=kC ids mem) (rest:=gZ ids mem) ⟨λp hp'=>(eO.1 hp').1,λp hp'=>(dH.1 hp').1,λp hp'=>?_,λp h1 q h2=>?_, ?_⟩ ?_ hargs (λp hp=>by cases hp) sq (λi j k h=>by simp[lk] at h) (λid i hl=>by simp[lk] at hl) ?_).run X D E w vs hD hm hv
 .cases hi:C7 p.1 ids with
  | true=>left;exact eO.2 ⟨hp',hi⟩
  | false=>right;exact dH.2 ⟨hp',hi⟩
 .have a:=(eO.1 h1).2;have b:=(dH.1 h2).2;intro e;rw[e,b] at a;cases a
 .exact hm.nod.sublist ((m7 mem).map _)
 .exact hm.nod.sublist ((nJ mem).map _)
 .rintro r' m n ⟨rfl,rfl,rfl⟩ _;exact⟨[],r',[],nx,Y8 _,.same r' hr,(λp hp=>by cases hp),sq,(λi j k h=>by simp[lk] at h),(λi id hl=>by simp[lk] at hl),(λp hp=>by cases hp),hk⟩
end Go.Ax
