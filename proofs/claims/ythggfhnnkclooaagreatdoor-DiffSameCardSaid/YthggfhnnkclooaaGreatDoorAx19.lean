/- A part of the proof. -/
import Derived.Test.YthggfhnnkclooaaGreatDoorAx18
set_option linter.unusedSectionVars false
set_option linter.unusedVariables false
set_option linter.unusedSimpArgs false
set_option maxRecDepth 1000000
set_option maxHeartbeats 16000000
namespace Go.Proofs.YthggfhnnkclooaaGreatDoor
open Go Go.Ax Go.Proofs Tryz
theorem J8(x y:Int):dY x y = -1\/dY x y=0\/dY x y=1:=by unfold dY;split<;>(try split)<;>omega
theorem Hm(p q:Int)(hq:0<q):(p%q).natAbs<=q.natAbs:=by
 have h1:=aBR p (show q≠0 by omega);have h2:=aBz p hq;omega
theorem OM(a b:Fr)(ha:FP a)(hb:FP b):aX prog [] 17 [lR a,lR b] (.int .i64 (Uz (nF a) (nF b))):=by
 have ha0:=CH a;have hb0:=CH b;have la1:=ha.ln;have la2:=ha.ld;have lb1:=hb.ln;have lb2:=hb.ld;have dA:=TG a (by have:=ha.lq;omega);have dB:=TG b (by have:=hb.lq;omega);obtain⟨ab,al,ac,am,qa1,qa2,qa3⟩:=fH a;obtain⟨bb,bl,bc,bm,qb1,qb2,qb3⟩:=fH b;obtain⟨cb,cl,ead⟩:=dD (a.den:Int);obtain⟨db,dl,ebd⟩:=dD (b.den:Int);obtain⟨ae,hC⟩:∃ae,ae=Uz (nF a) (nF b):=⟨_,rfl⟩
 have hC2:ae=dY (a.p*(b.den:Int)) (b.p*(a.den:Int)):=hC;rw[<-hC,qa3,qb3];rw[qa3,ead] at dA;rw[qb3,ebd] at dB;refine aG bJ func17 rfl ?_;refine Rt ?_;refine dA.go ?_ (.cons (zA _ _ _ _) .nil) (d6 _ _);refine Rt ?_;refine dB.go ?_ (.cons (zA _ _ _ _) .nil) (d6 _ _);refine Rt ?_;refine bI.at bJ (λx:(Int × Int) × (Int × Int) × Int=>0<x.1.2/\0<x.2.1.2/\(dg 4294967296 x.1.1.natAbs).length<=512/\(dg 4294967296 x.1.2.natAbs).length<=512/\(dg 4294967296 x.2.1.1.natAbs).length<=512/\(dg 4294967296 x.2.1.2.natAbs).length<=512/\(x.2.2=1\/x.2.2 = -1)/\ae=x.2.2*dY (x.1.1*x.2.1.2) (x.2.1.1*x.1.2))
  (λx=>⟨[(5,.ptr 0 0 0),(6,.ptr 1 0 0),(7,.ptr 2 0 0),(8,.ptr 3 0 0),(9,.int .i64 x.2.2)],[(0,.row 32 2 [fI x.1.1]),(1,.row 32 2 [fI x.1.2]),(2,.row 32 2 [fI x.2.1.1]),(3,.row 32 2 [fI x.2.1.2])],4,68⟩)
  (λx=>x.1.2.natAbs) ((a.p,(a.den:Int)),(b.p,(b.den:Int)),1) [(10,0),(11,1),(12,2),(13,3)] ⟨by simp only;omega,by simp only;omega,la1,by simp only;rw[Zb];exact la2,lb1,by simp only;rw[Zb];exact lb2,.inl rfl,by simp only;omega⟩
  (aK _ rfl ⟨⟨10,_,rfl,rfl,.eq (.cons (kQ _) .nil) (by simp only;rw[qa1])⟩,⟨11,_,rfl,rfl,.eq (.cons (kQ _) .nil) (by simp only;rw[ead])⟩,⟨12,_,rfl,rfl,.eq (.cons (kQ _) .nil) (by simp only;rw[qb1])⟩,⟨13,_,rfl,rfl,.eq (.cons (kQ _) .nil) (by simp only;rw[ebd])⟩,trivial⟩
   ⟨aN,aN,aN,aN,aF,trivial⟩) ?_
 clear hC hC2 dA dB ead ebd qa1 qa2 qa3 qb1 qb2 qb3 la1 la2 lb1 lb2 ha hb ha0 hb0;rintro⟨⟨p,q⟩,⟨r,s⟩,sg⟩ ⟨h1,h2,h3,h4,h5,h6,h7,h8⟩;simp only at h1 h2 h3 h4 h5 h6 h7 h8 |-;have d1:=UW p q om om om;have d2:=UW r s om om om;have x0:=aBR p (show q≠0 by omega);have y0:=aBR r (show s≠0 by omega);have x1:=aBz p h1;have y1:=aBz r h2;have lx:=dO hW (Hm p q h1);have ly:=dO hW (Hm r s h2);have lwh:(dg 4294967296 (p/q).natAbs).length<=512:=Zj (dO hW (aB3 _ _)) h3;have lot:(dg 4294967296 (r/s).natAbs).length<=512:=Zj (dO hW (aB3 _ _)) h5;have hcw:=If (p/q) (r/s) om om;have sx:=MH (p%q) om;have sy:=MH (r%s) om;have k1:p/q≠r/s->dY (p*s) (r*q)=dY (p/q) (r/s):=NI h1 h2;have k2:p/q=r/s->dY (p*s) (r*q)=dY (p%q*s) (r%s*q):=O2;have k3:p%q=0\/r%s=0->dY (p%q*s) (r%s*q)=dY (p%q) 0-dY (r%s) 0:=QY h1 h2 x0 y0;have k4:dY (p%q*s) (r%s*q) = - dY (q*(r%s)) (s*(p%q)):=QM;have kc:dY (p/q) (r/s)=0↔p/q=r/s:=CI;have kx:dY (p%q) 0=0↔p%q=0:=CI;have ky:dY (r%s) 0=0↔r%s=0:=CI;have rc:=J8 (p/q) (r/s);have rx:=J8 (p%q) 0;have ry:=J8 (r%s) 0;obtain⟨bp,lp,ep⟩:=dD p;obtain⟨bq,lq,eq⟩:=dD q;obtain⟨br,lr,er⟩:=dD r;obtain⟨bs,ls,es⟩:=dD s;obtain⟨b1,l1,e1⟩:=dD (p/q);obtain⟨b2,l2,e2⟩:=dD (p%q);obtain⟨b3,l3,e3⟩:=dD (r/s);obtain⟨b4,l4,e4⟩:=dD (r%s);rw[ep,eq,e1,e2] at d1;rw[er,es,e3,e4] at d2;rw[e1,e3] at hcw;rw[e2] at sx;rw[e4] at sy;rw[ep,eq,er,es];generalize p/q=wh at *;generalize r/s=ot at *;generalize dY wh ot=cc at *;generalize hcx:dY (p%q) 0=cx at *;generalize hcy:dY (r%s) 0=cy at *;refine Rt ?_;refine d1.go ?_ (.cons (d6 _ _) (.cons (d6 _ _) .nil)) (.tup' (.cons (d6 _ _) (.cons (d6 _ _) (.cons nn .nil))));refine Rt ?_;refine d2.go ?_ (.cons (d6 _ _) (.cons (d6 _ _) .nil)) (.tup' (.cons (d6 _ _) (.cons (d6 _ _) (.cons nn .nil))));refine Rt ?_;refine hcw.go ?_ (.cons (d6 _ _) (.cons (d6 _ _) .nil)) nn;refine Z ?_;refine aL (λhc=>?_) (λhc=>?_)
 .have hc:cc≠0:=su hc
  have hCv:ae=sg*cc:=by rw[h8,k1 (λe=>hc (kc.2 e))]
  have hw:IntKind.i64.wrap (sg*cc)=ae:=by rw[hCv];rcases h7 with e|e<;>rcases rc with f|f|f<;>rw[e,f]<;>decide
  refine Z ?_;rw[hw];exact aA nn ⟨rfl,rfl,rfl⟩
 .have hc:cc=0:=su hc
  have k2:=k2 (kc.1 hc);have hz:∀z:Int,(z == 0)=decide (z=0):=λz=>by
   by_cases h:z=0
   .rw[h];rfl
   .rw[ZN h];exact beq_eq_false_iff_ne.2 h
  have fin:p%q=0\/r%s=0->IntKind.i64.wrap (sg*IntKind.i64.wrap (cx-cy))=ae:=λh=>by
   rw[h8,k2,k3 h];rcases h7 with e|e<;>rcases rx with f|f|f<;>rcases ry with g|g|g<;>rw[e,f,g]<;>decide
  by_cases hx:p%q=0
  .have fin:=fin (.inl hx);have bx:(cx == 0)=true:=by rw[kx.2 hx];rfl
   refine Rt ?_;refine sx.go ?_ (.cons (d6 _ _) .nil) nn;refine Z ?_;rw[bx];refine Rt ?_;refine sx.go ?_ (.cons (d6 _ _) .nil) nn;refine Rt ?_;refine sy.go ?_ (.cons (d6 _ _) .nil) nn;refine Rt ?_;rw[fin];exact aA nn ⟨rfl,rfl,rfl⟩
  .have bx:(cx == 0)=false:=beq_eq_false_iff_ne.2 (λh=>hx (kx.1 h));by_cases hy:r%s=0
   .have fin:=fin (.inr hy);have by':(cy == 0)=true:=by rw[ky.2 hy];rfl
    refine Rt ?_;refine sx.go ?_ (.cons (d6 _ _) .nil) nn;refine Z ?_;rw[bx];refine Rt ?_;refine sy.go ?_ (.cons (d6 _ _) .nil) nn;refine Z ?_;rw[by'];refine Rt ?_;refine sx.go ?_ (.cons (d6 _ _) .nil) nn;refine Rt ?_;refine sy.go ?_ (.cons (d6 _ _) .nil) nn;refine Rt ?_;rw[fin];exact aA nn ⟨rfl,rfl,rfl⟩
   .have by':(cy == 0)=false:=beq_eq_false_iff_ne.2 (λh=>hy (ky.1 h));have hws:IntKind.i64.wrap (0-sg) = -sg:=by rcases h7 with e|e<;>rw[e]<;>decide
    refine Rt ?_;refine sx.go ?_ (.cons (d6 _ _) .nil) nn;refine Z ?_;rw[bx];refine Rt ?_;refine sy.go ?_ (.cons (d6 _ _) .nil) nn;refine Z ?_;rw[by'];refine Rt ?_;exact .mk ((q,p%q),(s,r%s),-sg) [(0,0),(1,1),(2,2),(3,3)] ⟨by simp only;omega,by simp only;omega,h4,by simp only;omega,h6,by simp only;omega,by simp only;omega,by
      simp only;rw[h8,k2,k4,aBA,Int.neg_mul]⟩
     (aK _ rfl ⟨⟨0,_,rfl,rfl,.eq (.cons (kQ _) .nil) (by simp only;rw[eq])⟩,⟨1,_,rfl,rfl,.eq (.cons (kQ _) .nil) (by simp only;rw[e2])⟩,⟨2,_,rfl,rfl,.eq (.cons (kQ _) .nil) (by simp only;rw[es])⟩,⟨3,_,rfl,rfl,.eq (.cons (kQ _) .nil) (by simp only;rw[e4])⟩,trivial⟩
      ⟨aN,aN,aN,aN,⟨_,rfl,.int hws⟩,trivial⟩) (by simp only;omega)
def IT(A:List Nd):Prop:=eG A/\(A.length≠0->Rg A)
theorem Ri{A:List Nd}(ht:eG A)(hv:cH [] A=0)(hg:∀j,gN (aD A j)<=3)(hl:A.length<=14):IT A:=
 ⟨ht,λh=>UN ⟨ht,by unfold cR;rw[Yz om,hv],om⟩ hg hl⟩
theorem H0{A:List Nd}(hT:iS A)(hl:A.length<=14):IT A:=
 Ri (NM (LB:=LB) (λs hs=>Uw hs) (λx hx=>Rn R9 (MY hT x hx)) om) hT.valid (XD hT.gen) hl
theorem O9{A:List Nd}(h:IT A)(hv:VT A):∀p f i a0,i<f->i<A.length->(bG A p f i a0).spans.length<=4294967296:=(h.2 (by have:=hv.pos;omega)).cnt
theorem EJ{A:List Nd}(h:IT A){p:List Int}(hl:p.length<=1000000)(hi:∀x∈p,i64 x):Vn A p:=⟨h.1,hl,hi,λhv=>O9 h hv p⟩
theorem An{A:List Nd}(h:IT A)(p:List Int):iG (oC A p):=by
 unfold oC;split
 .rename_i hE;unfold tP at hE;split at hE
  .omega
  .split at hE
   .omega
   .split at hE
    .rename_i h1 h2 h3;have vt:VT A:=⟨h.1,om,om⟩
     have hst:(Ea A p).stop = -1:=by
      have:(lV A p).stop = -1:=by
       unfold kL at h3;split at h3
       .simp at h3
       .exact h3
      exact this
     exact(mH vt p A.length (A.length-1) 0 om om hst).1
    .omega
 .simp[iG,vZ,yI,i64]
theorem RQ{A:List Nd}(h:VT A)(raw:List Int)(hr:∀x∈raw,i64 x):∀x∈rK A raw,i64 x:=λx hx=>by
 obtain⟨m,hm⟩:=ZV hx;have hml:=(Y0.1 hm).1;have hl:((rK A raw).take m).length=m:=by rw[ZO];omega
 obtain⟨n,hn1,hn2,hn3⟩:=(GI h (raw:=raw) (out:=(rK A raw).take m) (by rw[hl];rfl)).2 (by rw[hl];exact hml);rw[hl] at hn3;have h3:(rK A raw)[m]? = some (dK raw (aD A n) m):=hn3;rw[hm] at h3;cases h3;unfold dK;split
 .rename_i hq;have:=hr _ (Y2 (Yw hq));rw[Yx,Yw hq];obtain⟨a,b⟩:=this;simp only[aAt];exact oq
 .exact oq
theorem P4{A:List Nd}(h:VT A){n:Nat}(hn:n<A.length)(hk:(aD A n).kind=1\/(aD A n).kind=2):1<=fA (aD A n):=by
 have g:=h.node (cG hn);have hr:=g.opt.rng;have hc:=g.opt.ch;unfold fA;rcases hk with hk|hk
 .rw[Y4 hk];omega
 .rw[Yz om];have:=(hc hk).1;omega
theorem Jn{A:List Nd}(h:VT A)(raw:List Int)(hr:∀x∈raw,i64 x):xK A (rK A raw):=by
 obtain⟨g1,g2,-⟩:=(GI h (raw:=raw) (out:=(Gu A raw).cs) (by rw[ZJ])).1 rfl;refine⟨Ov h raw,RQ h raw hr,g1,g2,λm hml=>?_⟩;have hl:((rK A raw).take m).length=m:=by rw[ZO];omega
 obtain⟨n,hn1,hn2,hn3⟩:=(GI h (raw:=raw) (out:=(rK A raw).take m) (by rw[hl];rfl)).2 (by rw[hl];exact hml);rw[hl] at hn3;have h3:(rK A raw)[m]? = some (dK raw (aD A n) m):=hn3;obtain⟨hn,hk⟩:=Mh h hn2;have hp:=P4 h hn hk;have e:(rK A raw).getD m 0=dK raw (aD A n) m:=by rw[Yx,h3];rfl
 refine⟨n,hn,hn2,hk, ?_, ?_⟩
 .rw[e];unfold dK;split<;>omega
 .rw[e];unfold dK;split<;>omega
theorem Ce{A:List Nd}(h:VT A){p:List Int}(hp:xK A p):tP A p=0:=by
 have hpos:=h.pos;unfold tP;rw[Yz (by have:=h.val;omega),Yz om,Y4];unfold kL;rw[Yz]
 .exact hp.stop
 .rintro⟨-,h2⟩;have:(lV A p).used=p.length:=hp.used;omega
theorem Ie{A:List Nd}{p:List Int}(hp:xK A p){i:Nat}(hi:i<p.length):kL (p.take i) (lV A (p.take i))=Ea A (p.take i):=by
 obtain⟨n,-,h2,-⟩:=hp.step i hi;have h2:(lV A (p.take i)).stop=(n:Int):=h2;unfold kL;rw[Yz (λe=>om)];rfl
theorem RB{A:List Nd}(cT:Rg A){p:List Int}(hp:xK A p)(i:Nat):MF A (p.take i):=
 ⟨cT.vt,by rw[ZO];have:=hp.len;omega,λx hx=>hp.i64 x (Zg hx),cT.cnt _⟩
theorem Tt{A B:List Nd}(hA:VT A)(hB:VT B)(hs:eC A B=0){p:List Int}(hp:xK A p):xK B p/\pZ B p=pZ A p/\(Ea B p).val=(Ea A p).val:=by
 have pA:=hA.pos;have pB:=hB.pos;have hS:=λ(q:List Int)=>DP hA q A.length (A.length-1) (B.length-1) 0 B.length (Hy hA hB hs) om om (λi x hx k hk=>eP hB hx hk)
 have hE:=hS p;have e1:(bG A p A.length (A.length-1) 0).stop = -1:=hp.stop;have hat:∀i,i<p.length->∃n k:Nat,(Ea A (p.take i)).stop=(n:Int)/\(Ea B (p.take i)).stop=(k:Int)/\n<A.length/\k<B.length/\aD B k={ aD A n with kids:=(aD B k).kids }/\(aD B k).kids.length=(aD A n).kids.length:=λi hi=>by
  obtain⟨n,n1,n2,-⟩:=hp.step i hi;have n2':(bG A (p.take i) A.length (A.length-1) 0).stop=(n:Int):=n2;rcases(hS (p.take i)).c with⟨c1,-,-⟩|⟨c1,-⟩|⟨j,k,c0,c1,c2⟩
  .omega
  .omega
  .have:j=n:=om;subst this;refine⟨j,k,n2,c2,n1, ?_⟩;cases c0 with
   | mk _ _ x y hx hy he hl _ _=>
    rw[eA hx,eA hy];exact⟨(Y0.1 hy).1,he,hl⟩
 refine⟨⟨hp.len,hp.i64, ?_, ?_,λi hi=>?_⟩, ?_, ?_⟩
 .rcases hE.c with⟨-,c2,-⟩|⟨c1,-⟩|⟨j,k,-,c1,-⟩
  .exact c2
  .omega
  .omega
 .have:=hE.used;have hu:(bG A p A.length (A.length-1) 0).used=p.length:=hp.used
  show (bG B p B.length (B.length-1) 0).used=_
  omega
 .obtain⟨n,n1,n2,n3,n4,n5⟩:=hp.step i hi;obtain⟨n',k,a1,a2,a3,a4,a5,a6⟩:=hat i hi;have:n'=n:=om;subst this;have ek:(aD B k).kind=(aD A n').kind:=by rw[a5]
  have el:(aD B k).lo=(aD A n').lo:=by rw[a5]
  have eh:(aD B k).hi=(aD A n').hi:=by rw[a5]
  have eo:fA (aD B k)=fA (aD A n'):=by unfold fA;rw[ek,el,eh,a6]
  exact⟨k,a4,a2,by rw[ek];exact n3,n4,by rw[eo];exact n5⟩
 .unfold pZ;refine List.map_congr_left λi hi=>?_
  have hi:i<p.length:=su hi
  obtain⟨n',k,a1,a2,a3,a4,a5,a6⟩:=hat i hi;rw[a1,a2,Yy,Yy];have ek:(aD B k).kind=(aD A n').kind:=by rw[a5]
  have el:(aD B k).lo=(aD A n').lo:=by rw[a5]
  have eh:(aD B k).hi=(aD A n').hi:=by rw[a5]
  have ew:(aD B k).weights=(aD A n').weights:=by rw[a5]
  unfold HR;rw[ek,el,eh,ew]
 .rcases hE.c with⟨-,-,c3⟩|⟨c1,-⟩|⟨j,k,-,c1,-⟩
  .exact c3.symm
  .omega
  .omega
theorem Si{A B:List Nd}(cA:IT A)(cB:IT B):decide (eC A B=0)=decide (eC B A=0):=by
 by_cases h:A.length≠0/\B.length≠0
 .have vA:=(cA.2 h.1).vt;have vB:=(cB.2 h.2).vt;exact Zp.2 ⟨λe=>FG vA vB e,λe=>FG vB vA e⟩
 .have e1:¬(dU A=true/\dU B=true):=λe=>h ⟨by have:=e.1;unfold dU at this;simp at this;omega,by have:=e.2;unfold dU at this;simp at this;omega⟩
  have f1:eC A B=if A.length=0/\B.length=0 then 0 else 1:=by unfold eC;rw[Yz e1]
  have f2:eC B A=if A.length=0/\B.length=0 then 0 else 1:=by
   unfold eC;rw[Yz (λe=>e1 ⟨e.2,e.1⟩)];simp only[and_comm]
  rw[f1,f2]
theorem Rp{A B:List Nd}(hs:eC A B=0)(h:A.length≠0):B.length≠0:=λe=>by
 unfold eC at hs;rw[Yz (λe'=>by have:=e'.2;unfold dU at this;simp at this;omega),Yz om] at hs;omega
theorem U5{A:List Nd}(h:VT A){p:List Int}(hp:xK A p):FP (HT (pZ A p)):=by
 have hl:=hp.len;have h1:=Gt (pZ A p) (LV h hp) p.length (by rw[qP];omega) hl;rw[Y9 (by rw[qP];omega)] at h1;exact Po h1 (Ar om)
theorem M9(a:Fr):Uz a a=0:=CI.2 rfl
theorem L9{A:List Nd}(cA:IT A)(cT:Rg A){p:List Int}(hp:xK A p):aX prog [] 7 [.agg [.il 12 (bC A)],.il 1 (aV p)] (.tup [lR (HT (pZ A p)),.int .i64 0]):=by
 have hl:=hp.len;have hV:=Kc (EJ cA om hp.i64) (λv hv=>Gd (bN v) v (Y8 _) hv) (An cA p);rw[Ce cT.vt hp] at hV;refine Vd cT.vt hp hV λi hi=>?_
 have h1:=Yp (RB cT hp i) (by
  rw[Ie hp hi];obtain⟨n,-,h2,-⟩:=hp.step i hi;omega)
 rw[Ie hp hi] at h1;exact h1
theorem MW(l:List Int)(at_ n:Int)(raw:List Int)(hl:∀x∈l,i64 x)(_:i64 at_)(hn:i64 n)(hr:∀x∈raw,i64 x)(hlen:l.length<=17592186043904)(hrl:raw.length<=17592186043904)(hLv:aX prog gz 14 [] (.bool true)) :
  aX prog gz 4 [.il 1 (aV l),.int .i64 at_,.int .i64 n,.il 1 (aV raw)] (.bool true):=by
 have nraw:NN (.il 1 (aV raw)):=.il' (aT raw);refine aG fQ func4 rfl ?_;refine Z ?_;refine N4 l hl λA hTA hAl=>?_
 refine Rt ?_;refine aJ.goG0 (Q8 l at_ n hl hlen hn) ?_;rintro r m' n' ⟨B,hTB,hBl,rfl,rfl,rfl⟩;have tA:NN (.agg [.il 12 (bC A)]):=.agg' (.cons (.il' (bA A)) .nil);have tB:NN (.agg [.il 12 (bC B)]):=.agg' (.cons (.il' (bA B)) .nil);refine⟨.agg [.il 12 (bC B)],.same _ tB, ?_⟩;have cA:=H0 hTA hAl;have cB:=H0 hTB hBl;have hS1:=TK cA.1 cB.1;have hS2:=TK cB.1 cA.1;have hCh:=Hr cA.1 cB.1;rw[<-Si cA cB] at hS2;have lA:=bW A;refine Rt ?_;refine hS1.use fQ (.cons tA (.cons tB .nil)) nn ?_;refine Z ?_;refine hS2.use fQ (.cons tB (.cons tA .nil)) nn ?_;refine Z ?_;by_cases hc:eC A B=0
 .rw[Y7 hc];rw[hc] at hCh;refine Z ?_;refine hCh.use fQ (.cons tA (.cons tB .nil)) nn ?_;refine Z ?_;by_cases h0:A.length=0
  .rw[show ((((bC A).length:Nat):Int) == 0)=true from beq_iff_eq.2 om];refine Z ?_;refine hLv.use fQ .nil (.bool true) ?_;refine Z ?_;exact aA (.bool _) ⟨rfl,rfl,rfl⟩
  .rw[show ((((bC A).length:Nat):Int) == 0)=false from beq_eq_false_iff_ne.2 om];have cT:=cA.2 h0;have cU:=cB.2 (Rp hc h0);have hF:=Xn cT.vt raw hrl;have hok:=Jn cT.vt raw hr;generalize rK A raw=p at *;have hpl:=hok.len;obtain⟨hoB,hfB,hvB⟩:=Tt cT.vt cU.vt hc hok;have hPA:=L9 cA cT hok;have hPB:=L9 cB cU hoB;rw[hfB] at hPB;have hfp:=U5 cT.vt hok;have hCm:=OM _ _ hfp hfp;rw[M9] at hCm;have hVA:=Kc (EJ cA (p:=p) om hok.i64) (λv hv=>Gd (bN v) v (Y8 _) hv) (An cA p);have hVB:=Kc (EJ cB (p:=p) om hok.i64) (λv hv=>Gd (bN v) v (Y8 _) hv) (An cB p);have hEA:=Ce cT.vt hok;have hEB:=Ce cU.vt hoB;have hvv:oC B p=oC A p:=by
    unfold oC;rw[Y4 hEA,Y4 hEB];exact hvB
   rw[hEA] at hVA;rw[hEB,hvv] at hVB;have hov:=An cA p;have hEq:=VF (oC A p) (oC A p) hov;rw[show XZ (oC A p) (oC A p)=true by unfold XZ;rw[(jY _).refl];rfl] at hEq;generalize oC A p=V at *;generalize HT (pZ A p)=a at *;have np:NN (.il 1 (aV p)):=.il' (aT p);have nV:=bT V;have nP:=wX a;obtain⟨V1,V2,V3,V4⟩:=V;obtain⟨a1,a2,a3,a4,-,-,ea⟩:=fH a;rw[ea] at hPA hPB hCm nP;refine Z ?_;refine hF.goG ?_ (.cons tA (.cons nraw .nil)) (.tup' (.cons np (.cons nn .nil)));refine Rt ?_;refine hVA.goG ?_ (.cons tA (.cons np .nil)) (.tup' (.cons nV (.cons nn .nil)));refine Rt ?_;refine hVB.goG ?_ (.cons tB (.cons np .nil)) (.tup' (.cons nV (.cons nn .nil)));refine Rt ?_;refine hPA.goG ?_ (.cons tA (.cons np .nil)) (.tup' (.cons nP (.cons nn .nil)));refine Rt ?_;refine hPB.goG ?_ (.cons tB (.cons np .nil)) (.tup' (.cons nP (.cons nn .nil)));refine Rt ?_;refine hEq.goG ?_ (.cons nV (.cons nV .nil)) (.bool true);refine Z ?_;refine hCm.goG ?_ (.cons nP (.cons nP .nil)) nn;refine Z ?_;refine hLv.use fQ .nil (.bool true) ?_;refine Z ?_;exact aA (.bool _) ⟨rfl,rfl,rfl⟩
 .rw[ZN hc];refine Z ?_;refine hCh.use fQ (.cons tA (.cons tB .nil)) nn ?_;refine Z ?_;rw[show (((eC A B:Nat):Int) == 0)=false from beq_eq_false_iff_ne.2 om];refine Z ?_;refine hLv.use fQ .nil (.bool true) ?_;refine Z ?_;exact aA (.bool _) ⟨rfl,rfl,rfl⟩
end Go.Proofs.YthggfhnnkclooaaGreatDoor
namespace Go.Ax
open Go
def BJ(f:AV->Option AV):List AV->Option (List AV)
 | []=>some []
 | a::r=>match f a with
  | none=>none
  | some b=>match BJ f r with
   | none=>none
   | some t=>some (b::t)
def frz:Nat->List (Nat × Nat)->aQ->AV->Option AV
 | 0,_,_,_=>none
 | n+1,J,m,v=>match v with
  | .bool b=>some (.bool b)
  | .int k i=>some (.int k i)
  | .str s=>some (.str s)
  | .nptr=>some .nptr
  | .nsl=>some .nsl
  | .nmap=>some .nmap
  | .nfn=>some .nfn
  | .nif=>some .nif
  | .sl id off len=>match lk J id with
   | none=>match lk m id with
    | some (.row t sz xs)=>match Nat.ble (off+len) xs.length with
     | true=>match BJ (frz n J m) ((xs.drop off).take len) with
      | some ys=>some (.il sz ys)
      | none=>none
     | false=>none
    | _=>none
   | some _=>none
  | .il sz xs=>match BJ (frz n J m) xs with
   | some ys=>some (.il sz ys)
   | none=>none
  | .ifc t v=>match frz n J m v with
   | some v'=>some (.ifc t v')
   | none=>none
  | .agg cs=>match BJ (frz n J m) cs with
   | some ys=>some (.agg ys)
   | none=>none
  | .tup cs=>match BJ (frz n J m) cs with
   | some ys=>some (.tup ys)
   | none=>none
  | _=>none
structure AH(m:aQ)(J:List (Nat × Nat))(v v':AV):Prop where
 cv:Cv m J v v'
 nn:NN v'
 ce:g6 m J v.cells v'.cells
theorem AH.len{m:aQ}{J:List (Nat × Nat)}{v v':AV}(h:AH m J v v'):v.cells.length=v'.cells.length:=h.ce.1
theorem jQ{m:aQ}{J:List (Nat × Nat)}{f:AV->Option AV}(hf:∀v v',f v=some v'->AH m J v v'):∀{l l':List AV},BJ f l=some l'->l.length=l'.length/\∀(j:Nat) (a b:AV),l[j]? = some a->l'[j]? = some b->AH m J a b
 | [],l',h=>by simp only[BJ] at h;cases h;exact⟨rfl,λj a b h=>by simp at h⟩
 | a::r,l',h=>by
  simp only[BJ] at h;split at h
  .cases h
  .rename_i b hb;split at h
   .cases h
   .rename_i t ht;cases h;obtain⟨h1,h2⟩:=jQ hf ht;refine⟨by simp[h1],λj x y hx hy=>?_⟩;cases j with
    | zero=>simp at hx hy;subst hx hy;exact hf _ _ hb
    | succ j=>simp at hx hy;exact h2 j x y hx hy
theorem w9{m:aQ}{J:List (Nat × Nat)}{l l':List AV}(h1:l.length=l'.length)(h2:∀(j:Nat) (a b:AV),l[j]? = some a->l'[j]? = some b->AH m J a b):jU l':=λb hb=>by
 obtain⟨j,hj⟩:=ZV hb;obtain⟨a,ha⟩:=dS h1 hj;exact(h2 j a b ha hj).nn
theorem AH.one{m:aQ}{J:List (Nat × Nat)}{v v':AV}(h1:v.cells=[v])(h2:v'.cells=[v'])(hc:Cv m J v v')(hn:NN v'):AH m J v v':=
 ⟨hc,hn,by rw[h1,h2];exact g6.cons hc .nil⟩
theorem mS{m:aQ}{J:List (Nat × Nat)}:∀(n:Nat) (v v':AV),frz n J m v=some v'->AH m J v v'
 | 0,v,v',h=>by simp[frz] at h
 | n+1,v,v',h=>by
  have ih:=mS (m:=m) (J:=J) n;cases v with
  | bool b=>simp only[frz] at h;cases h;exact .one rfl rfl (.same _ (.bool b)) (.bool b)
  | int k i=>simp only[frz] at h;cases h;exact .one rfl rfl (.same _ (.int k i)) (.int k i)
  | str s=>simp only[frz] at h;cases h;exact .one rfl rfl (.same _ (.str s)) (.str s)
  | nptr=>simp only[frz] at h;cases h;exact .one rfl rfl (.same _ .nptr) .nptr
  | nsl=>simp only[frz] at h;cases h;exact .one rfl rfl (.same _ .nsl) .nsl
  | nmap=>simp only[frz] at h;cases h;exact .one rfl rfl (.same _ .nmap) .nmap
  | nfn=>simp only[frz] at h;cases h;exact .one rfl rfl (.same _ .nfn) .nfn
  | nif=>simp only[frz] at h;cases h;exact .one rfl rfl (.same _ .nif) .nif
  | ptr id i j=>simp[frz] at h
  | mp id=>simp[frz] at h
  | ip v=>simp[frz] at h
  | fn f a b=>simp[frz] at h
  | junk=>simp[frz] at h
  | yld id=>simp[frz] at h
  | sl id off len=>
   simp only[frz] at h;split at h
   .rename_i hs;split at h
    .rename_i t sz xs hx;split at h
     .rename_i hle;split at h
      .rename_i ys hy;cases h;have hle:=Y5 hle;obtain⟨h1,h2⟩:=jQ ih hy;have hget:∀(i:Nat) (x y:AV),xs[off+i]? = some x->ys[i]? = some y->AH m J x y:=λi x y hx hy=>by
        refine h2 i x y ?_ hy;have hlt:i<ys.length:=(Y0.1 hy).1;rw[<-h1] at hlt;rw[Za,Y4 (by simp at hlt;omega),ZS];exact hx
       refine .one rfl rfl (.fz id off len t sz xs ys hx hs hle (by rw[<-h1];simp;omega) (λi x y hx hy=>(hget i x y hx hy).len) λi x y j c c' hx hy hc hc'=>(hget i x y hx hy).ce.2 j c c' hc hc') ?_;exact NN.il' (w9 h1 h2)
      .cases h
     .cases h
    .cases h
   .cases h
  | il sz xs=>
   simp only[frz] at h;split at h
   .rename_i ys hy;cases h;obtain⟨h1,h2⟩:=jQ ih hy;refine .one rfl rfl (.il sz xs ys h1 (λi x y hx hy=>(h2 i x y hx hy).len) λi x y j c c' hx hy hc hc'=>(h2 i x y hx hy).ce.2 j c c' hc hc') ?_;exact NN.il' (w9 h1 h2)
   .cases h
  | ifc t v=>
   simp only[frz] at h;split at h
   .rename_i v' hv;cases h;exact .one rfl rfl (.ifc t v v' (ih v v' hv).cv) (.ifc t v' (ih v v' hv).nn)
   .cases h
  | agg cs=>
   simp only[frz] at h;split at h
   .rename_i ys hy;cases h;obtain⟨h1,h2⟩:=jQ ih hy;have hl:g6 m J cs ys:=⟨h1,λj c c' hc hc'=>(h2 j c c' hc hc').cv⟩
    exact⟨.agg' hl,.agg' (w9 h1 h2),hl⟩
   .cases h
  | tup cs=>
   simp only[frz] at h;split at h
   .rename_i ys hy;cases h;obtain⟨h1,h2⟩:=jQ ih hy;have hl:g6 m J cs ys:=⟨h1,λj c c' hc hc'=>(h2 j c c' hc hc').cv⟩
    exact .one rfl rfl (.tup' hl) (.tup' (w9 h1 h2))
   .cases h
theorem SX{m:aQ}{args bs:List AV}(n:Nat)(h:BJ (frz n [] m) args=some bs):g6 m [] args bs:=by
 obtain⟨h1,h2⟩:=jQ (mS n) h;exact⟨h1,λj c c' hc hc'=>(h2 j c c' hc hc').cv⟩
def Tb:aQ->List (Nat × Nat)
 | []=>[]
 | (i,_)::r=>(i,i)::Tb r
theorem Uk{mem:aQ}:∀{i:Nat} {b:AB},lk mem i=some b->lk (Tb mem) i=some i:=by
 induction mem with
 | nil=>intro i b h;simp[lk] at h
 | cons p r ih=>
  intro i b h;obtain⟨j,u⟩:=p;simp only[lk] at h;simp only[Tb,lk];split at h
  .rename_i e;rw[Nat.eq_of_beq_eq_true e]
  .exact ih h
def MJ(m:aQ):aQ->Bool
 | []=>true
 | (i,b)::r=>(match b with
  | .row t sz xs=>match lk m i with
   | some (.row t' sz' xs')=>match BJ (frz 30 [] []) xs with
    | some ys=>Nat.beq t t' && (Nat.beq sz sz' && (pT xs' xs && pT ys xs))
    | none=>false
   | _=>false
  | _=>false) && MJ m r
theorem Bb{m:aQ}(J:List (Nat × Nat)):∀{mem:aQ},MJ m mem=true->(∀p∈mem,lk J p.1=some p.1)->cO m J mem
 | [],h,hs=>trivial
 | (i,b)::r,h,hs=>by
  simp only[MJ,Y1] at h;refine⟨?_,Bb J h.2 λp hp=>hs p (ZE _ hp)⟩;have h:=h.1;split at h
  .rename_i t sz xs;split at h
   .rename_i t' sz' xs' hl;split at h
    .rename_i ys hy;simp only[Y1] at h;obtain⟨h1,h2,h3,h4⟩:=h;have e1:=Nat.eq_of_beq_eq_true h1;have e2:=Nat.eq_of_beq_eq_true h2;have e3:=iX h3;have e4:=iX h4;subst e1 e2 e3 e4;obtain⟨g1,g2⟩:=jQ (mS 30) hy;exact⟨i,ys,hs _ (ZQ ..),hl,.same (w9 g1 g2)⟩
    .cases h
   .cases h
  .cases h
def Yi(mem:aQ)(want r:AV)(m:aQ):Bool:=
 match frz 30 (Tb mem) m r with
 | some v=>match lQ v want with
  | true=>MJ m mem
  | false=>false
 | none=>false
def YZ(mem:aQ)(want r:AV)(m:aQ):Prop:=
 match Yi mem want r m with
 | true=>True
 | false=>False
theorem Q7:∀{mem:aQ},(mem.map (·.1)).Nodup->∀p∈mem,lk (Tb mem) p.1=some p.1:=by
 intro mem hn p hp;have:∃b,lk mem p.1=some b:=by
  clear hn
  induction mem with
  | nil=>cases hp
  | cons q r ih=>
   obtain⟨j,u⟩:=q;simp only[lk];split
   .exact⟨u,rfl⟩
   .rename_i e;rcases Y6.1 hp with rfl|hp
    .simp at e
    .exact ih hp
 obtain⟨b,hb⟩:=this;exact Uk hb
def De(nx:Nat):aQ->aQ->(aQ->aQ->Prop)->Prop
 | [],acc,K=>K acc []
 | (i,b)::r,acc,K=>match Nat.ble nx i with
  | true=>De nx r ((i,b)::acc) K
  | false=>K acc ((i,b)::r)
def KI(f:AV->(AV->Prop)->Prop->Prop):List AV->(List AV->Prop)->Prop->Prop
 | [],K,_=>K []
 | a::r,K,N=>f a (λb=>KI f r (λt=>K (b::t)) N) N
def Nb:Nat->aQ->AV->(AV->Prop)->Prop->Prop
 | 0,_,_,_,N=>N
 | n+1,m,v,K,N=>match v with
  | .bool b=>K (.bool b)
  | .int k i=>K (.int k i)
  | .str s=>K (.str s)
  | .nptr=>K .nptr
  | .nsl=>K .nsl
  | .nmap=>K .nmap
  | .nfn=>K .nfn
  | .nif=>K .nif
  | .sl id off len=>match lk m id with
   | some (.row t sz xs)=>match Nat.ble (off+len) xs.length with
    | true=>KI (Nb n m) ((xs.drop off).take len) (λys=>K (.il sz ys)) N
    | false=>N
   | _=>N
  | .il sz xs=>KI (Nb n m) xs (λys=>K (.il sz ys)) N
  | .ifc t v=>Nb n m v (λv'=>K (.ifc t v')) N
  | .agg cs=>KI (Nb n m) cs (λys=>K (.agg ys)) N
  | .tup cs=>KI (Nb n m) cs (λys=>K (.tup ys)) N
  | _=>N
theorem BH{f:AV->(AV->Prop)->Prop->Prop}{g:AV->Option AV}{N:Prop}(hf:∀v K,f v K N->N\/∃v',g v=some v'/\K v'):∀{l:List AV} {K:List AV->Prop},KI f l K N->N\/∃l',BJ g l=some l'/\K l'
 | [],K,h=>.inr ⟨[],rfl,h⟩
 | a::r,K,h=>by
  rcases hf a _ h with h|⟨b,h1,h⟩
  .exact .inl h
  .rcases BH hf h with h|⟨t,h2,h⟩
   .exact .inl h
   .exact .inr ⟨b::t,by simp only[BJ,h1,h2],h⟩
theorem PZ{m:aQ}{N:Prop}:∀(n:Nat) (v:AV) (K:AV->Prop),Nb n m v K N->N\/∃v',frz n [] m v=some v'/\K v'
 | 0,v,K,h=>.inl h
 | n+1,v,K,h=>by
  have ih:=PZ (m:=m) (N:=N) n;cases v with
  | bool b=>exact .inr ⟨_,rfl,h⟩
  | int k i=>exact .inr ⟨_,rfl,h⟩
  | str s=>exact .inr ⟨_,rfl,h⟩
  | nptr=>exact .inr ⟨_,rfl,h⟩
  | nsl=>exact .inr ⟨_,rfl,h⟩
  | nmap=>exact .inr ⟨_,rfl,h⟩
  | nfn=>exact .inr ⟨_,rfl,h⟩
  | nif=>exact .inr ⟨_,rfl,h⟩
  | ptr id i j=>exact .inl h
  | mp id=>exact .inl h
  | ip v=>exact .inl h
  | fn f a b=>exact .inl h
  | junk=>exact .inl h
  | yld id=>exact .inl h
  | sl id off len=>
   simp only[Nb] at h;split at h
   .rename_i t sz xs hx;split at h
    .rename_i hle;rcases BH ih h with h|⟨ys,h1,h⟩
     .exact .inl h
     .exact .inr ⟨_,by simp only[frz,lk,hx,hle,h1],h⟩
    .exact .inl h
   .exact .inl h
  | il sz xs=>
   simp only[Nb] at h;rcases BH ih h with h|⟨ys,h1,h⟩
   .exact .inl h
   .exact .inr ⟨_,by simp only[frz,h1],h⟩
  | ifc t v=>
   simp only[Nb] at h;rcases ih v _ h with h|⟨v',h1,h⟩
   .exact .inl h
   .exact .inr ⟨_,by simp only[frz,h1],h⟩
  | agg cs=>
   simp only[Nb] at h;rcases BH ih h with h|⟨ys,h1,h⟩
   .exact .inl h
   .exact .inr ⟨_,by simp only[frz,h1],h⟩
  | tup cs=>
   simp only[Nb] at h;rcases BH ih h with h|⟨ys,h1,h⟩
   .exact .inl h
   .exact .inr ⟨_,by simp only[frz,h1],h⟩
def YU(nx:Nat)(K:AV->aQ->Nat->Prop)(r:AV)(m:aQ)(n:Nat):Prop:=
 De nx m [] λm1 rest=>Nb 60 m1 r (λr'=>K r' rest n) (K r m n)
theorem Du{nx:Nat}:∀{m acc:aQ} {K:aQ->aQ->Prop},De nx m acc K->∃m0 rest,m=m0++rest/\K (m0.reverse++acc) rest
 | [],acc,K,h=>⟨[],[],rfl,h⟩
 | (i,b)::r,acc,K,h=>by
  simp only[De] at h;split at h
  .obtain⟨m0,rest,h1,h2⟩:=Du h;exact⟨(i,b)::m0,rest,by rw[h1];rfl,su h2⟩
  .exact⟨[],(i,b)::r,rfl,h⟩
theorem MR.sub{C:List (Nat × AV)}{X:Nat->Prop}{E:Nat->dP}{D:Nat->Prop}{mem rest:aQ}{w:World}(hm:MR C X E D mem w)(hs:∀p∈rest,p∈mem)(hn:(rest.map (·.1)).Nodup):MR C X E D rest w:=by
 have ho:∀b,¬OX X E mem b->¬OX X E rest b:=by
  rintro b h (h'|⟨p,hp,h1,h2⟩)
  .exact h (.inl h')
  .exact h (.inr ⟨p,hs p hp,h1,h2⟩)
 refine⟨λp h=>hm.low p (hs p h),λp h hn=>?_,λp h=>hm.emp p (hs p h),λp h q h'=>hm.inj p (hs p h) q (hs q h'),hn,λb hb=>⟨(hm.bar b hb).1,λ⟨p,hp,h1,h2⟩=>(hm.bar b hb).2 ⟨p,hs p hp,h1,h2⟩⟩,λp h=>(hm.glo p h).mono (λ_ _=>rfl) (λ_ h=>h) λb _ h=>⟨ho b h,rfl⟩⟩;obtain⟨o,h1,h2⟩:=hm.blk p (hs p h) hn;exact⟨o,h1,h2.mono (λ_ _=>rfl) (λ_ h=>h) λb _ h=>⟨ho b h,rfl⟩⟩
theorem Om{P:Program}{C:List (Nat × AV)}(hΓ:∀p∈C,NN p.2){F:FuncId}{args:List AV}{mem:aQ}{nx:Nat}{K:AV->aQ->Nat->Prop}{Kp:Value->aQ->Nat->Prop}(h:bV P C F args mem nx (YU nx K) Kp):bV P C F args mem nx K Kp:=by
 refine⟨λX D E w vs hD hm hv=>(h.run X D E w vs hD hm hv).mono ?_⟩;rintro e w' ⟨m',n',E',hn,hm',hext,hend⟩;rcases hend with⟨r,v,rfl,hq,hr⟩|⟨x,rfl,hq⟩
 .obtain⟨m0,rest,rfl,hq⟩:=Du hq;rw[aAi] at hq;rcases PZ 60 r _ hq with hq|⟨r',h1,hq⟩
  .exact⟨_,n',E',hn,hm',hext,.inl ⟨r,v,rfl,hq,hr⟩⟩
  .have hnd:=hm'.nod;rw[aAQ,aBk] at hnd;obtain⟨d1,d2,d3⟩:=hnd;have hp:uT (m0++rest) m0.reverse rest:=⟨λp h=>Zf _ (aB9.1 h),λp h=>Z9 _ h,λp h=>by
    rcases ZI.1 h with h|h
    .exact .inl (aB9.2 h)
    .exact .inr h,λp h1 q h2=>d3 _ (ZL.2 ⟨p,aB9.1 h1,rfl⟩) _ (ZL.2 ⟨q,h2,rfl⟩),by
    rw[List.map_reverse];exact List.pairwise_reverse.2 (d1.imp λh=>Ne.symm h)⟩
   obtain⟨p1,pv⟩:=hm'.part hp;have hF:=mS (m:=m0.reverse) (J:=[]) 60 r r' h1;obtain⟨-,v1,-⟩:=u9 (J:=[]) (m':=[]) (n':=n') hΓ hD p1 (λp hp=>by cases hp) aCf (λi j k h=>by simp[lk] at h) (λi j h=>by simp[lk] at h);have e:j7 [] E' E'=E':=funext λi=>wH (by rintro⟨j,h⟩;simp[lk] at h)
   have hv':=v1 r r' hF.cv v (pv _ _ hr);rw[e] at hv';refine⟨rest,n',E',hn,hm'.sub (λp h=>Z9 _ h) d2,⟨hext.le,hext.agree,hext.size,hext.keep,λp h=>hext.fresh p (Z9 _ h),hext.env⟩,.inl ⟨r',v,rfl,hq,hv'.mono (λ_ _=>rfl) (λ_ h=>h) λb _ ho=>⟨λh=>ho (.inl ?_),rfl⟩⟩⟩;exact h
 .exact⟨m',n',E',hn,hm',hext,.inr ⟨x,rfl,hq⟩⟩
def Sf:List (Nat × List AV × AV)->Nat->List AV->(AV->Prop)->Prop->Prop
 | [],_,_,_,N=>N
 | (ag,as',r)::t,F,args,K,N=>match Nat.beq ag F with
  | true=>match pT args as' with
   | true=>K r
   | false=>Sf t F args K N
  | false=>Sf t F args K N
def Cf(P:Program)(C:List (Nat × AV))(tb:List (Nat × List AV × AV)):Prop:=∀e∈tb,aX P C e.1 e.2.1 e.2.2/\jU e.2.1/\NN e.2.2
theorem OE{P:Program}{C:List (Nat × AV)}(hΓ:∀p∈C,NN p.2){F:Nat}{args:List AV}{mem:aQ}{nx:Nat}{K:AV->aQ->Nat->Prop}{N:Prop}:∀{tb:List (Nat × List AV × AV)},Cf P C tb->Sf tb F args (λr=>K r mem nx) N->N\/aJ P C F args mem nx K
 | [],_,h=>.inl h
 | (ag,as',r)::t,ht,h=>by
  have h2:Cf P C t:=λe he=>ht e (ZE _ he)
  simp only[Sf] at h;split at h
  .rename_i hG;split at h
   .rename_i he;have e1:=Nat.eq_of_beq_eq_true hG;have e2:=iX he;subst e1 e2;obtain⟨g1,g2,g3⟩:=ht _ (ZQ ..);exact .inr (g1.use hΓ g2 g3 h)
   .exact OE hΓ h2 h
  .exact OE hΓ h2 h
theorem Cf.nil{P:Program}{C:List (Nat × AV)}:Cf P C []:=λe h=>by cases h
theorem Cf.cons{P:Program}{C:List (Nat × AV)}{F:Nat}{xs:List AV}{r:AV}{t:List (Nat × List AV × AV)}(h:aX P C F xs r)(h1:BJ (frz 30 [] []) xs=some xs)(h2:frz 30 [] [] r=some r)(ht:Cf P C t):Cf P C ((F,xs,r)::t):=by
 intro e he;rcases Y6.1 he with rfl|he
 .obtain⟨g1,g2⟩:=jQ (m:=[]) (J:=[]) (mS 30) h1;exact⟨h,w9 g1 g2,(mS (m:=[]) (J:=[]) 30 r r h2).nn⟩
 .exact ht e he
end Go.Ax
namespace Go.Ax
open Go
noncomputable def Xa{G:Type}(l:List (Nat × G))(j:Nat)(K:G->Prop):Prop:=
 List.rec (motive:=λ_=>Prop) False (λp _ ih=>Prod.rec (motive:=λ_=>Prop) (λi v=>Bool.rec (motive:=λ_=>Prop) ih (K v) (Nat.beq i j)) p) l
theorem Jk{G:Type}(j:Nat)(K:G->Prop):∀l:List (Nat × G),Xa l j K=opt (lk l j) K
 | []=>rfl
 | (i,v)::r=>by
  have ih:=Jk j K r
  show Bool.rec (motive:=λ_=>Prop) (Xa r j K) (K v) (Nat.beq i j)=opt (lk ((i,v)::r) j) K
  rw[ih];simp only[lk];cases Nat.beq i j<;>rfl
noncomputable def XV{G:Type}(l:List (Nat × G))(j:Nat)(v:G):(List (Nat × G)->Prop)->Prop:=
 List.rec (motive:=λ_=>(List (Nat × G)->Prop)->Prop) (λK=>K [(j,v)]) (λp r ih=>λK=>Prod.rec (motive:=λ_=>Prop) (λi u=>Bool.rec (motive:=λ_=>Prop) (ih λl=>K ((i,u)::l)) (K ((i,v)::r)) (Nat.beq i j)) p) l
theorem QG{G:Type}(j:Nat)(v:G):∀(l:List (Nat × G)) (K:List (Nat × G)->Prop),XV l j v K=HX l j v K
 | [],K=>rfl
 | (i,u)::r,K=>by
  have ih:=QG j v r λl=>K ((i,u)::l)
  show Bool.rec (motive:=λ_=>Prop) (XV r j v λl=>K ((i,u)::l)) (K ((i,v)::r)) (Nat.beq i j)=HX ((i,u)::r) j v K
  rw[ih];simp only[HX];cases Nat.beq i j<;>rfl
def X2(v:Value)(K:AV->Prop):Prop:=
 match v with
 | .string s=>tZ s.data.toList λl=>K (.str l)
 | v=>opt (xQ v) K
noncomputable def mK(C:List (Nat × AV))(sl:List (Nat × AV))(x:Operand)(K:AV->Prop):Prop:=
 Operand.rec (motive:=λ_=>Prop) (λt=>Xa sl t K) (λv=>X2 v K) (λg=>Xa C g λv=>K (.ip v)) (λf=>K (.fn (.func f) [] [])) x
theorem Le(C sl:List (Nat × AV))(x:Operand)(K:AV->Prop):mK C sl x K=kZ C sl x K:=by
 cases x with
 | tmp t=>exact Jk t K sl
 | const v=>cases v<;>rfl
 | global g=>exact Jk g (λv=>K (.ip v)) C
 | func f=>rfl
theorem ED:mK=kZ:=by funext C sl x K;exact Le C sl x K
def Wb(C sl:List (Nat × AV))(K:AV->Prop)(a b:Operand)(c:AV):Prop:=match c with
 | .bool c=>Nu c (kZ C sl a K) (kZ C sl b K)
 | _=>False
def WH(P:Program)(mem:aQ)(nx:Nat)(src dst:TypeId)(a:AV)(K:AV->aQ->Nat->Prop):Prop:=match P.underlying dst with
  | some (.slice _)=>w7 true P mem nx src dst a K
  | _=>LN true P mem src dst a λv=>K v mem nx
section
variable (P:Program) (C:List (Nat × AV)) (H:Hk) (sl:List (Nat × AV)) (mem:aQ) (nx:Nat) (K:AV->aQ->Nat->Prop) (Kp:Value->aQ->Nat->Prop)
noncomputable def Oc(x:Operand):Prop:=mK C sl x λv=>K v mem nx
noncomputable def TY(c a b:Operand):Prop:=mK C sl c (Wb C sl (λv=>K v mem nx) a b)
noncomputable def WP(t:TypeId)(x:Operand):Prop:=mK C sl x λv=>T1 P mem nx t v K
noncomputable def Tc(t:TypeId)(x:Operand):Prop:=mK C sl x λp=>Ih P mem t p λv=>K v mem nx
noncomputable def Ps(t:TypeId)(x y:Operand):Prop:=mK C sl x λp=>mK C sl y λv=>Gs P mem t p v λm=>K (.tup []) m nx
noncomputable def W7(x:Operand):Prop:=mK C sl x λp=>opt (Pr p) λv=>K v mem nx
noncomputable def We(op:BinOp)(t:TypeId)(x y:Operand):Prop:=mK C sl x λa=>mK C sl y λb=>S3 true P op t x y a b λv=>K v mem nx
noncomputable def Yn(op:UnOp)(x:Operand):Prop:=mK C sl x λa=>XU true op a λv=>K v mem nx
noncomputable def TS(src dst:TypeId)(x:Operand):Prop:=mK C sl x λa=>WH P mem nx src dst a K
noncomputable def YW(t:TypeId)(x:Operand)(f:Nat):Prop:=mK C sl x λp=>tG P t f p λv=>K v mem nx
noncomputable def YX(t:TypeId)(x:Operand)(f:Nat):Prop:=mK C sl x λp=>Gc P t f p λv=>K v mem nx
noncomputable def Yh(t:TypeId)(x ix:Operand):Prop:=mK C sl x λp=>mK C sl ix λi=>sG true P mem t p i λv=>K v mem nx
noncomputable def Yf(t:TypeId)(x ix:Operand):Prop:=mK C sl x λp=>mK C sl ix λi=>Ga true P t p i λv=>K v mem nx
noncomputable def YS(x:Operand)(i:Nat):Prop:=mK C sl x λp=>opt (tX p i) λv=>K v mem nx
noncomputable def TP(t:TypeId)(x ix:Operand)(ok:Bool):Prop:=mK C sl x λp=>mK C sl ix λi=>opt (sX P mem t p i ok) λv=>K v mem nx
noncomputable def YN(t:TypeId)(x y z:Operand):Prop:=mK C sl x λp=>mK C sl y λk=>mK C sl z λv=>pM P mem t p k v λm=>K (.tup []) m nx
noncomputable def WQ(x:Operand):Prop:=mK C sl x λv=>opt (quo v) λy=>Kp y mem nx
def Uj(t:TypeId)(parts:Array (Nat × Operand)):Prop:=rA C sl parts.toList λps=>Gh P t ps λv=>K v mem nx
def Yr(t:TypeId)(len:Nat)(parts:Array (Nat × Operand)):Prop:=rA C sl parts.toList λps=>qA P mem nx t len ps K
noncomputable def SL(ce:Callee)(args:Array Operand)(ts:Array TypeId):Prop:=
 Callee.rec (motive:=λ_=>Prop) (λf=>Lq P C sl f args.toList (λv=>K v mem nx) λF l=>H.call F l mem nx K Kp) (λ_ _=>False) (λb=>zK true P C sl mem nx b args.toList ts.toList K) ce
noncomputable def XO(c:Call):Prop:=Call.rec (motive:=λ_=>Prop) (λce args ts=>SL P C H sl mem nx K Kp ce args ts) c
def lH(op:Op):Prop:=Dv true P C H sl mem nx op K Kp
noncomputable def V0(op:Op):Prop:=
 Op.rec (motive:=λ_=>Prop)
  (Oc C sl mem nx K) (Oc C sl mem nx K) (TY C sl mem nx K) (λt=>F9 P mem nx t K) (WP P C sl mem nx K) (Uj P C sl mem nx K) (Yr P C sl mem nx K)
  (YN P C sl mem nx K) (Tc P C sl mem nx K) (Ps P C sl mem nx K) (λg=>lH P C H sl mem nx K Kp (.ready g)) (λg=>lH P C H sl mem nx K Kp (.waits g)) (W7 C sl mem nx K)
  (λop t x y _=>We P C sl mem nx K op t x y) (λop _ x=>Yn C sl mem nx K op x) (TS P C sl mem nx K) (λt x=>lH P C H sl mem nx K Kp (.sliceToArrayPointer t x)) (λt x=>lH P C H sl mem nx K Kp (.makeInterface t x))
  (λa b c=>lH P C H sl mem nx K Kp (.makeFunc a b c)) (λa b=>lH P C H sl mem nx K Kp (.makeMap a b)) (λa b=>lH P C H sl mem nx K Kp (.makeChan a b)) (λa b c=>lH P C H sl mem nx K Kp (.makeSlice a b c))
  (λa b c d e=>lH P C H sl mem nx K Kp (.slice a b c d e)) (YW P C sl mem nx K) (YX P C sl mem nx K) (Yh P C sl mem nx K) (Yf P C sl mem nx K) (TP P C sl mem nx K) (YN P C sl mem nx K)
  (λa b c=>lH P C H sl mem nx K Kp (.mapEntry a b c)) (λa b c d=>lH P C H sl mem nx K Kp (.entryStore a b c d)) (λa b=>lH P C H sl mem nx K Kp (.range a b)) (λa b=>lH P C H sl mem nx K Kp (.next a b)) (λa=>lH P C H sl mem nx K Kp (.entry a))
  (λa b c d=>lH P C H sl mem nx K Kp (.typeAssert a b c d)) (YS C sl mem nx K) (XO P C H sl mem nx K Kp) (λc=>lH P C H sl mem nx K Kp (.go c)) (λc=>lH P C H sl mem nx K Kp (.defer c)) (WQ C sl mem nx Kp)
  (λa b=>lH P C H sl mem nx K Kp (.send a b)) (λa b c=>lH P C H sl mem nx K Kp (.recv a b c)) (λa b=>lH P C H sl mem nx K Kp (.select a b)) op
theorem Tz(op:Op):V0 P C H sl mem nx K Kp op=Dv true P C H sl mem nx op K Kp:=by
 cases op with
 | call c=>
  obtain⟨ce,args,ts⟩:=c;cases ce<;>rfl
 | pick c a b=>simp only[V0,TY,ED];first|done|rfl
 | convert a b c=>simp only[V0,TS,ED];first|done|rfl
 | _=>first|rfl|(simp only[V0,Oc,WP,Tc,Ps,W7,We,Yn,YW,YX,Yh,Yf,YS,TP,YN,WQ,ED];first|done|rfl)
end
noncomputable def U8(sl:List (Nat × AV))(nt:Nat)(d:Option Nat)(v:AV)(mem:aQ)(nx:Nat)(K:St->Prop):Prop:=
 Option.rec (motive:=λ_=>Prop) (K ⟨sl,mem,nx,nt⟩) (λd=>Bool.rec (motive:=λ_=>Prop) False (XV sl d v λsl=>K ⟨sl,mem,nx,nt⟩) (Nat.blt d nt)) d
theorem RW(sl:List (Nat × AV))(m0:aQ)(n0 nt:Nat)(d:Option Nat)(v:AV)(mem:aQ)(nx:Nat)(K:St->Prop):U8 sl nt d v mem nx K=kX ⟨sl,m0,n0,nt⟩ d v mem nx K:=by
 cases d with
 | none=>rfl
 | some d=>
  show Bool.rec (motive:=λ_=>Prop) False (XV sl d v _) (Nat.blt d nt)=pG (Nat.blt d nt) (HX sl d v _)
  rw[QG];cases Nat.blt d nt<;>rfl
noncomputable def P1(ops:List Oper)(sl:List (Nat × AV))(g:Option (Nat × Bool))(yes no:Prop):Prop:=
 Option.rec (motive:=λ_=>Prop) yes (λp=>pH ops sl (some p) yes no) g
theorem PH(ops:List Oper)(sl:List (Nat × AV))(g:Option (Nat × Bool))(yes no:Prop):P1 ops sl g yes no=pH ops sl g yes no:=by cases g<;>rfl
section
variable (P:Program) (C:List (Nat × AV)) (H:Hk)
noncomputable def Tj(ops:List Oper)(Kp:Value->St->Prop)(ih:St->Prop)(sl:List (Nat × AV))(mem:aQ)(nx nt:Nat)(o:Oper):Prop:=
 Oper.rec (motive:=λ_=>Prop) (λdst op _ _ _ g=>P1 ops sl g (V0 P C H sl mem nx (λv mem nx=>U8 sl nt dst v mem nx ih) (λx mem nx=>Kp x ⟨sl,mem,nx,nt⟩) op) (U8 sl nt dst (.tup []) mem nx ih)) o
noncomputable def RJ(ops:List Oper)(K:St->Prop)(Kp:Value->St->Prop)(l:List Oper):St->Prop:=
 List.rec (motive:=λ_=>St->Prop) K (λo r ih=>λs=>St.rec (motive:=λ_=>Prop) (λsl mem nx nt=>Tj P C H ops Kp ih sl mem nx nt o) s) l
theorem Lh(ops:List Oper)(K:St->Prop)(Kp:Value->St->Prop):∀(l:List Oper) (s:St),RJ P C H ops K Kp l s=KA true P C H ops l s K Kp
 | [],s=>rfl
 | o::r,s=>by
  have ih:RJ P C H ops K Kp r=λs=>KA true P C H ops r s K Kp:=funext λs=>Lh ops K Kp r s
  obtain⟨sl,mem,nx,nt⟩:=s
  show Tj P C H ops Kp (RJ P C H ops K Kp r) sl mem nx nt o=_
  rw[ih];obtain⟨dst,op,ty,pos,aft,g⟩:=o
  show P1 ops sl g _ _=pH ops sl g _ _
  rw[PH,Tz];simp only[RW sl mem nx nt];first|done|rfl
def Vk(k:St->Prop)(Q:Exit->St->Prop)(e:Exit)(s:St):Prop:=match e with
 | .normal=>k s
 | e=>Q e s
def YC(id:Nat)(Q:Exit->St->Prop)(e:Exit)(s:St):Prop:=match e with
 | .exit i=>match Nat.beq i id with
  | true=>Q .normal s
  | false=>Q (.exit i) s
 | e=>Q e s
def YO(Q:Exit->St->Prop)(e:Exit)(s:St):Prop:=match e with
 | .goto _=>False
 | e=>Q e s
def XP(x y:Prop)(v:AV):Prop:=match v with
 | .bool b=>Nu b x y
 | _=>False
noncomputable def Xv(id:Nat)(ops:Array Oper)(draw:Bool)(s:St)(Q:Exit->St->Prop):Prop:=
 Bool.rec (motive:=λ_=>Prop) (RJ P C H ops.toList (Q .normal) (λx s'=>Q (.panic [pe x]) s') ops.toList s) (A3 true P C H (.region id ops true) s Q) draw
noncomputable def YA(c:Operand)(x y:St->(Exit->St->Prop)->Prop)(s:St)(Q:Exit->St->Prop):Prop:=
 St.rec (motive:=λ_=>Prop) (λsl _ _ _=>mK C sl c (XP (x s Q) (y s Q))) s
noncomputable def B1(c:Code):St->(Exit->St->Prop)->Prop:=
 Code.rec (motive:=λ_=>St->(Exit->St->Prop)->Prop)
  (λs Q=>Q .normal s)
  (Xv P C H)
  (λ_ _ ihx ihy=>λs Q=>ihx s (Vk (λs'=>ihy s' Q) Q))
  (λc _ _ ihx ihy=>YA C c ihx ihy)
  (λid _ ih=>λs Q=>ih s (YC id Q))
  (λb _=>λs Q=>H.loop b s Q)
  (λg ps ca cb _ _=>λs Q=>A3 true P C H (.rangeFunc g ps ca cb) s Q)
  (λi=>λs Q=>Q (.exit i) s)
  (λ_ ih=>λs Q=>ih s (YO Q))
  (λ_=>λs Q=>Q .normal s)
  (λ_=>λ_ _=>False)
  (λs Q=>Q .ret s)
  (λ_=>λ_ _=>False) c
theorem MD:∀(c:Code) (s:St) (Q:Exit->St->Prop),B1 P C H c s Q=A3 true P C H c s Q:=by
 intro c
 induction c with
 | seq x y ihx ihy=>
  intro s Q
  show B1 P C H x s (Vk (λs'=>B1 P C H y s' Q) Q)=_
  rw[ihx];have:(λs'=>B1 P C H y s' Q)=λs'=>A3 true P C H y s' Q:=funext λs'=>ihy s' Q
  rw[this];rfl
 | cond c x y ihx ihy=>
  intro s Q;obtain⟨sl,mem,nx,nt⟩:=s
  show mK C sl c (XP (B1 P C H x _ Q) (B1 P C H y _ Q))=_
  rw[ihx,ihy,Le];rfl
 | block id c ih=>intro s Q;exact ih s _
 | scope c ih=>intro s Q;exact ih s _
 | region id ops draw=>
  intro s Q;cases draw with
  | true=>rfl
  | false=>exact Lh P C H _ _ _ _ s
 | _=>intro s Q;rfl
end
def Vr(F:Nat):List (Nat × List AV × AV)->Bool
 | []=>false
 | (ag,_,_)::r=>match Nat.beq ag F with
  | true=>true
  | false=>Vr F r
def Xk(ts:List (Nat × List AV × AV))(F:Nat)(args:List AV)(mem:aQ)(K:AV->Prop)(N:Prop):Prop:=match Vr F ts with
 | false=>N
 | true=>KI (Nb 60 mem) args (λas'=>Sf ts F as' K N) N
theorem TO{F:Nat}{args:List AV}{K:AV->Prop}{N:Prop}:∀{tb:List (Nat × List AV × AV)},Sf tb F args K N->N\/∃r,(F,args,r)∈tb/\K r
 | [],h=>.inl h
 | (ag,as',r)::t,h=>by
  simp only[Sf] at h;have hr:Sf t F args K N->N\/∃r',(F,args,r')∈(ag,as',r)::t/\K r':=λh=>(TO h).imp id λ⟨r',h1,h2⟩=>⟨r',ZE _ h1,h2⟩
  split at h
  .rename_i hG;split at h
   .rename_i he;have e1:=Nat.eq_of_beq_eq_true hG;have e2:=iX he;subst e1 e2;exact .inr ⟨r,ZQ ..,h⟩
   .exact hr h
  .exact hr h
def EQ(P:Program)(C:List (Nat × AV))(ts:List (Nat × List AV × AV)):Prop:=∀e∈ts,aX P C e.1 e.2.1 e.2.2/\Sc e.2.2
theorem EQ.nil{P:Program}{C:List (Nat × AV)}:EQ P C []:=λe h=>by cases h
theorem EQ.cons{P:Program}{C:List (Nat × AV)}{F:Nat}{xs:List AV}{r:AV}{t:List (Nat × List AV × AV)}(h:aX P C F xs r)(h1:Sc r)(ht:EQ P C t):EQ P C ((F,xs,r)::t):=by
 intro e he;rcases Y6.1 he with rfl|he
 .exact⟨h,h1⟩
 .exact ht e he
theorem Wz{P:Program}{C:List (Nat × AV)}(hΓ:∀p∈C,NN p.2){F:Nat}{args:List AV}{mem:aQ}{nx:Nat}{K:AV->aQ->Nat->Prop}{N:Prop}{ts:List (Nat × List AV × AV)}(ht:EQ P C ts)(h:Xk ts F args mem (λr=>K r mem nx) N):N\/aJ P C F args mem nx K:=by
 unfold Xk at h;split at h
 .exact .inl h
 .rcases BH (λv K h=>PZ 60 v K h) h with h|⟨as',h1,h⟩
  .exact .inl h
  .rcases TO h with h|⟨r,h2,h⟩
   .exact .inl h
   .obtain⟨g1,g2⟩:=ht _ h2;exact .inr (g1.lend hΓ (SX 60 h1) g2 h)
def Rx:List (AV × AV)->List (AV × AV)->Bool
 | [],[]=>true
 | (a,b)::r,(c,d)::t=>lQ a c && (lQ b d && Rx r t)
 | _,_=>false
theorem Lm:∀{l m:List (AV × AV)},Rx l m=true->l=m
 | [],[],_=>rfl
 | (a,b)::r,(c,d)::t,h=>by
  simp only[Rx,Y1] at h;rw[sI h.1,sI h.2.1,Lm h.2.2]
 | [],_::_,h=>by cases h
 | _::_,[],h=>by cases h
def Lj:aQ->aQ->Bool
 | [],[]=>true
 | (i,a)::r,(j,b)::t=>Nat.beq i j && ((match a,b with
  | .row t1 s1 xs,.row t2 s2 ys=>Nat.beq t1 t2 && (Nat.beq s1 s2 && pT xs ys)
  | .mapb es,.mapb es'=>Rx es es'
  | _,_=>false) && Lj r t)
 | _,_=>false
theorem JI:∀{l m:aQ},Lj l m=true->l=m
 | [],[],_=>rfl
 | (i,a)::r,(j,b)::t,h=>by
  simp only[Lj,Y1] at h;obtain⟨h1,h2,h3⟩:=h;rw[Nat.eq_of_beq_eq_true h1,JI h3];split at h2
  .simp only[Y1] at h2;rw[Nat.eq_of_beq_eq_true h2.1,Nat.eq_of_beq_eq_true h2.2.1,iX h2.2.2]
  .rw[Lm h2]
  .cases h2
 | [],_::_,h=>by cases h
 | _::_,[],h=>by cases h
structure Xf where
 F:Nat
 args:List AV
 mem:aQ
 nx:Nat
 r:AV
 m:aQ
 n:Nat
def Xf.ok(P:Program)(C:List (Nat × AV))(x:Xf):Prop:=aJ P C x.F x.args x.mem x.nx λr m n=>r=x.r/\m=x.m/\n=x.n
def WG:List Xf->Nat->List AV->aQ->Nat->(AV->aQ->Nat->Prop)->Prop->Prop
 | [],_,_,_,_,_,N=>N
 | x::t,F,args,mem,nx,K,N=>match Nat.beq x.F F with
  | true=>match Nat.beq x.nx nx && (pT args x.args && Lj mem x.mem) with
   | true=>K x.r x.m x.n
   | false=>WG t F args mem nx K N
  | false=>WG t F args mem nx K N
theorem Px{P:Program}{C:List (Nat × AV)}{F:Nat}{args:List AV}{mem:aQ}{nx:Nat}{K:AV->aQ->Nat->Prop}{N:Prop}:∀{t:List Xf},(∀x∈t,x.ok P C)->WG t F args mem nx K N->N\/aJ P C F args mem nx K
 | [],_,h=>.inl h
 | x::t,ht,h=>by
  have h2:∀x∈t,x.ok P C:=λe he=>ht e (ZE _ he)
  simp only[WG] at h;split at h
  .rename_i hF;split at h
   .rename_i he;simp only[Y1] at he;have e1:=Nat.eq_of_beq_eq_true hF;have e2:=Nat.eq_of_beq_eq_true he.1;have e3:=iX he.2.1;have e4:=JI he.2.2;subst e1 e2 e3 e4;exact .inr ((ht x (ZQ ..)).mono λr m n ⟨h1,h2,h3⟩=>by rw[h1,h2,h3];exact h)
   .exact Px h2 h
  .exact Px h2 h
def Jt(f:AV->List Nat->List Nat):List AV->List Nat->List Nat
 | [],acc=>acc
 | a::r,acc=>Jt f r (f a acc)
def B3:Nat->AV->List Nat->List Nat
 | 0,_,acc=>acc
 | n+1,v,acc=>match v with
  | .ptr id _ _=>id::acc
  | .sl id _ _=>id::acc
  | .mp id=>id::acc
  | .yld id=>id::acc
  | .ip v=>B3 n v acc
  | .il _ xs=>Jt (B3 n) xs acc
  | .fn _ a b=>Jt (B3 n) b (Jt (B3 n) a acc)
  | .ifc _ v=>B3 n v acc
  | .agg xs=>Jt (B3 n) xs acc
  | .tup xs=>Jt (B3 n) xs acc
  | _=>acc
def Vm:List (AV × AV)->List Nat->List Nat
 | [],acc=>acc
 | (a,b)::r,acc=>Vm r (B3 60 b (B3 60 a acc))
def Wf:List (Nat × AV)->List Nat->List Nat
 | [],acc=>acc
 | (_,a)::r,acc=>Wf r (B3 60 a acc)
def Vf(b:AB)(acc:List Nat):List Nat:=match b with
 | .row _ _ xs=>Jt (B3 60) xs acc
 | .mapb es=>Vm es acc
 | .loop sl _ _ _ _ _ _=>Wf sl acc
 | .iter1 mid _=>mid::acc
def Vv:aQ->List Nat->List Nat
 | [],acc=>acc
 | (_,b)::r,acc=>Vv r (Vf b acc)
def Ot(nx:Nat)(m:aQ):Nat->List Nat->List Nat->List Nat
 | 0,todo,fL=>todo++fL
 | _+1,[],fL=>fL
 | f+1,i::t,fL=>match Nat.ble nx i with
  | false=>Ot nx m f t fL
  | true=>match Mf i fL with
   | true=>Ot nx m f t fL
   | false=>match lk m i with
    | none=>Ot nx m f t fL
    | some b=>Ot nx m f (Vf b t) (i::fL)
def JQ(fL:List Nat):aQ->(aQ->Prop)->Prop
 | [],K=>K []
 | (i,b)::r,K=>match Mf i fL with
  | true=>JQ fL r λm=>K ((i,b)::m)
  | false=>JQ fL r K
def Ym(nx:Nat)(K:AV->aQ->Nat->Prop)(r:AV)(m:aQ)(n:Nat):Prop:=
 De nx m [] λm1 rest=>tZ (Ot nx m 100000 (B3 60 r (Vv rest [])) []) λfL=>JQ fL m1.reverse λm2=>CB m2 rest λm=>K r m n
theorem G8{fL:List Nat}:∀{m:aQ} {K:aQ->Prop},JQ fL m K->∃m',List.Sublist m' m/\K m'
 | [],K,h=>⟨[],.slnil,h⟩
 | (i,b)::r,K,h=>by
  simp only[JQ] at h;split at h
  .obtain⟨m',h1,h2⟩:=G8 h;exact⟨_,h1.cons_cons _,h2⟩
  .obtain⟨m',h1,h2⟩:=G8 h;exact⟨_,h1.cons _,h2⟩
theorem NK{P:Program}{C:List (Nat × AV)}{F:FuncId}{args:List AV}{mem:aQ}{nx:Nat}{K:AV->aQ->Nat->Prop}{Kp:Value->aQ->Nat->Prop}(h:bV P C F args mem nx (Ym nx K) Kp):bV P C F args mem nx K Kp:=by
 refine⟨λX D E w vs hD hm hv=>(h.run X D E w vs hD hm hv).mono ?_⟩;rintro e w' ⟨m',n',E',hn,hm',hext,hend⟩;rcases hend with⟨r,v,rfl,hq,hr⟩|⟨x,rfl,hq⟩
 .obtain⟨m0,rest,rfl,hq⟩:=Du hq;rw[aAi,List.reverse_reverse] at hq;obtain⟨m2,hs,hq⟩:=G8 (lD.1 hq);have hq:=gM.1 hq;have hsub:List.Sublist (m2++rest) (m0++rest):=hs.append (List.Sublist.refl rest);have hin:∀p∈m2++rest,p∈m0++rest:=λp hp=>hsub.subset hp
  have hnd:((m2++rest).map (·.1)).Nodup:=hm'.nod.sublist (hsub.map _);have ho:∀b,¬OX X E' (m0++rest) b->¬OX X E' (m2++rest) b:=by
   rintro b h (h'|⟨p,hp,h1,h2⟩)
   .exact h (.inl h')
   .exact h (.inr ⟨p,hin p hp,h1,h2⟩)
  exact⟨m2++rest,n',E',hn,hm'.sub hin hnd,⟨hext.le,hext.agree,hext.size,hext.keep,λp h=>hext.fresh p (hin p h),hext.env⟩,.inl ⟨r,v,rfl,hq,hr.mono (λ_ _=>rfl) (λ_ h=>h) λb _ h=>⟨ho b h,rfl⟩⟩⟩
 .exact⟨m',n',E',hn,hm',hext,.inr ⟨x,rfl,hq⟩⟩
theorem OG(P:Program)(C:List (Nat × AV))(H:Hk):B1 P C H=A3 true P C H:=funext λc=>funext λs=>funext λQ=>MD P C H c s Q
noncomputable def Ph(P:Program)(C:List (Nat × AV))(H:Hk)(tx:List Xf)(ts tb:List (Nat × List AV × AV))(dl pl gl:List Nat)(F:Nat)(args:List AV)(mem:aQ)(nx:Nat)(K:AV->aQ->Nat->Prop)(Kp:Value->aQ->Nat->Prop):Prop:=
 WG tx F args mem nx K (Sf tb F args (λr=>K r mem nx) (Xk ts F args mem (λr=>K r mem nx) (match Nat.beq F YF with
    | false=>match P.funcs[F]? with
     | some fn=>match fn.body with
      | some c=>match Mf F dl with
       | false=>match Mf F pl with
        | false=>match Mf F gl with
         | false=>s8 fn.ntmps args mem nx λs=>B1 P C H c s (E0 P fn.results.toList K Kp)
         | true=>s8 fn.ntmps args mem nx λs=>B1 P C H c s (E0 P fn.results.toList (Ym nx K) Kp)
        | true=>s8 fn.ntmps args mem nx λs=>B1 P C H c s (E0 P fn.results.toList (YU nx K) Kp)
       | true=>s8 fn.ntmps args mem nx λs=>Jw true P C H c s (DR P C H fn.results.toList K Kp)
      | none=>False
     | none=>False
    | true=>KL P C H args mem nx K)))
def XA(H:Hk)(c:Code)(Q:Exit->St->Prop)(e:Exit)(s':St):Prop:=match e with
 | .normal=>H.loop c s' Q
 | e=>Q e s'
noncomputable def BX(P:Program)(C:List (Nat × AV))(tx:List Xf)(ts tb:List (Nat × List AV × AV))(dl pl gl:List Nat)(n:Nat):Hk:=
 Nat.rec (motive:=λ_=>Hk) ⟨λ_ _ _ _ _ _=>False,λ_ _ _=>False⟩ (λ_ H=>⟨Ph P C H tx ts tb dl pl gl,λc s Q=>B1 P C H c s (XA H c Q)⟩) n
theorem Iq(P:Program)(C:List (Nat × AV))(hΓ:∀p∈C,NN p.2){tx:List Xf}{ts tb:List (Nat × List AV × AV)}(hx':∀x∈tx,x.ok P C)(hs':EQ P C ts)(ht:Cf P C tb)(dl pl gl:List Nat):∀n B,zL P C B (BX P C tx ts tb dl pl gl n) /\
  ∀c s Q,(BX P C tx ts tb dl pl gl n).loop c s Q->∀rd X ds D E a w,(∀i,D i->i<B)->SR C X ds E (dn D B s.nx) s a w->B<=s.nx->Bm rd ds c ->
   Code.roundsIn (FW rd) 0 P c (λe a' w'=>∃(s':St) (E':Nat->dP),Q e s'/\B<=s'.nx/\SR C X ds E' (dn D B s'.nx) s' a' w'/\Ext D E s.mem w E' (dn D B s'.nx) s'.mem w') n a w:=by
 intro n
 induction n with
 | zero=>exact λB=>⟨⟨λ_ _ _ _ _ _ h=>h.elim,λ_ _ _ h=>h.elim⟩,λ_ _ _ h=>h.elim⟩
 | succ n ih=>
  intro B;have hr:∀c s Q,(BX P C tx ts tb dl pl gl (n+1)).loop c s Q->∀rd X ds D E a w,(∀i,D i->i<B)->SR C X ds E (dn D B s.nx) s a w->B<=s.nx->Bm rd ds c ->
    Code.roundsIn (FW rd) 0 P c (λe a' w'=>∃(s':St) (E':Nat->dP),Q e s'/\B<=s'.nx/\SR C X ds E' (dn D B s'.nx) s' a' w'/\Ext D E s.mem w E' (dn D B s'.nx) s'.mem w') (n+1) a w:=by
   intro c s Q h rd X ds D E a w hD hs hB hno;have h:B1 P C (BX P C tx ts tb dl pl gl n) c s (XA (BX P C tx ts tb dl pl gl n) c Q):=h;rw[MD] at h;have h':=(fE (ih B).1 c s _ h).run rd X ds D E a w hD hs hB hno;rw[roundsIn_succ];refine wpIn_mono h' ?_;rintro e a1 w1 ⟨s1,ρ1,hq,hB1,hs1,hext⟩;cases e with
   | normal=>
    have key:=(ih B).2 c s1 Q hq rd X ds D ρ1 a1 w1 hD hs1 hB1 hno;refine Bs n a1 w1 _ _ ?_ key;rintro e a2 w2 ⟨s2,ρ2,h1,h2,h3,h4⟩;exact⟨s2,ρ2,h1,h2,h3,hext.trans h4⟩
   | exit id=>exact⟨s1,ρ1,hq,hB1,hs1,hext⟩
   | goto l=>exact⟨s1,ρ1,hq,hB1,hs1,hext⟩
   | ret=>exact⟨s1,ρ1,hq,hB1,hs1,hext⟩
   | panic ch=>exact⟨s1,ρ1,hq,hB1,hs1,hext⟩
   | outgrown=>exact⟨s1,ρ1,hq,hB1,hs1,hext⟩
  refine⟨⟨λF args mem nx K Kp h=>?_,λc s Q h=>⟨λrd X ds D E a w hD hs hB hno=>wpIn_loop_rounds (n+1) (hr c s Q h rd X ds D E a w hD hs hB hno.loop)⟩⟩,hr⟩
  replace h:Ph P C (BX P C tx ts tb dl pl gl n) tx ts tb dl pl gl F args mem nx K Kp:=h
  simp only[Ph,OG] at h;rcases Px (K:=K) hx' h with h0|h'
  rotate_left
  .exact h'.toP
  clear h;rcases OE (K:=K) hΓ ht h0 with h'|h'
  rotate_left
  .exact h'.toP
  clear h0;rcases Wz (K:=K) hΓ hs' h' with h|h'
  rotate_left
  .exact h'.toP
  split at h
  .rename_i hF;split at h
   .rename_i fn hf;split at h
    .rename_i c hc;split at h
     .split at h
      .split at h
       .exact mD hf hc ((fE (ih nx).1 _ _ _ (jN h)).mono λ_ _ h=>CK h) hF
       .exact NK (mD hf hc ((fE (ih nx).1 _ _ _ (jN h)).mono λ_ _ h=>CK h) hF)
      .exact Om hΓ (mD hf hc ((fE (ih nx).1 _ _ _ (jN h)).mono λ_ _ h=>CK h) hF)
     .exact tR hf hc (KF (λB=>(ih B).1) nx _ _ _ (jN h)) hF
    .exact h.elim
   .exact h.elim
  .rename_i hF;have e:=Nat.eq_of_beq_eq_true hF;subst e;exact HI (λB=>(ih B).1) h
theorem DU{P:Program}{C:List (Nat × AV)}(hΓ:∀p∈C,NN p.2){tx:List Xf}{ts tb:List (Nat × List AV × AV)}(hx':∀x∈tx,x.ok P C)(hs':EQ P C ts)(ht:Cf P C tb){F:FuncId}{args:List AV}{mem:aQ}{nx:Nat}{Q:AV->aQ->Nat->Prop}(dl pl gl:List Nat)(n:Nat)(h:(BX P C tx ts tb dl pl gl n).call F args mem nx Q λ_ _ _=>False):aJ P C F args mem nx Q:=
 ((Iq P C hΓ hx' hs' ht dl pl gl n nx).1.call F args mem nx Q _ h).toC λ_ _ _ h=>h
theorem TC{P:Program}{C:List (Nat × AV)}{F:FuncId}{args:List AV}{mem:aQ}{nx:Nat}{want:AV}(hΓ:∀p∈C,NN p.2){tx:List Xf}{ts tb:List (Nat × List AV × AV)}(hx':∀x∈tx,x.ok P C)(hs':EQ P C ts)(ht:Cf P C tb)(dl pl gl:List Nat)(n:Nat)
  (hc:(kV (Tb mem) && (kG mem && (Af nx nx (Tb mem) && Nat.ble nx nx)))=true)
  (h:((BX P C tx ts tb dl pl gl n).call F args mem nx (λr m _=>YZ mem want r m) λ_ _ _=>False)=True):aJ P C F args mem nx λr m k=>r=want/\m=mem/\k=nx:=by
 refine aJ.turn hΓ ((DU hΓ hx' hs' ht dl pl gl n (by rw[h];trivial)).mono λr m k hk=>?_);unfold YZ at hk;split at hk
 .rename_i hb;unfold Yi at hb;split at hb
  .rename_i v hv;split at hb
   .rename_i he;have e:=sI he;subst e;have hn:(mem.map (·.1)).Nodup:=by
     simp only[Y1] at hc;exact eI hc.2.1
    exact bM (Tb mem) hc (Bb _ hb (Q7 hn)) (mS 30 r v hv).cv ⟨rfl,rfl,rfl⟩
   .cases hb
  .cases hb
 .exact hk.elim
theorem YD{P:Program}{C:List (Nat × AV)}:∀x∈([]:List Xf),x.ok P C:=λx h=>by cases h
end Go.Ax
