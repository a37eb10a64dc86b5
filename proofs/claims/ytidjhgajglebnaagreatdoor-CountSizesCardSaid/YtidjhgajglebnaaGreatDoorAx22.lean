/- A part of the proof. -/
import Derived.Test.YtidjhgajglebnaaGreatDoorAx21
set_option linter.unusedSectionVars false
set_option linter.unusedVariables false
set_option linter.unusedSimpArgs false
set_option maxRecDepth 1000000
set_option maxHeartbeats 16000000
namespace Go.Proofs.YtidjhgajglebnaaGreatDoor
open Go Go.Ax Go.Proofs Tryz
variable{A:List Nd}{k:Nat}
theorem Tm(mx:Nat):aH prog [] 64 [.agg [.il 12 (bJ [])],.ptr 0 0 0,.nsl] (eO mx [] []) 2 λr m k=>r = .il 2 []/\m=eO mx [] []/\k=2:=by
 refine aD bE func64 rfl ?_;refine Rt ?_;exact aW (n':=2) (m':=eO mx [] []) [(0,0),(1,1)] rfl (cH (i:=0) (j:=1) rfl rfl rfl rfl) (.nil 2) ⟨rfl,rfl,rfl⟩
theorem Tr(mx:Nat)(hm:mx<=256):aT prog [] 22 [.agg [.il 12 (bJ [])],.int .i64 mx] (.tup [.il 2 (bZ (H2 mx [])),.int .i64 0]):=by
 have hV:=Cc [] ⟨sq,sq,sq,sq,sq⟩;rw[show gL []=0 from rfl] at hV;have hN:=M1 [] mx;have hW:=Tm mx;have nA:NN (.agg [.il 12 (bJ [])]):=.agg' (.cons (.il' (aR [])) .nil);have w1:IntKind.i64.wrap (((mx:Nat):Int)+1)=((mx+1:Nat):Int):=by rw[aV oq];simp
 have d1:decide (((mx:Nat):Int)<0)=false:=aAw om;have d2:decide (((mx:Nat):Int)>256)=false:=aAw om;refine aD bE func22 rfl ?_;refine Rr ?_;refine hV.go ?_ (.cons nA .nil) nn;refine Rt ?_;rw[d1];refine Rt ?_;rw[d2];refine Rt ?_;rw[w1];refine aN (bV rfl (bV rfl (bV rfl (bV (aAn om) (bV (aAn om) (bV (sZ rfl om om) (aAn om))))))) ?_;refine Rt ?_;rw[show ((mx+1:Nat):Int).toNat=mx+1 from aAc _];refine aH.useN bE [] hN rfl (.same (.cons nA (.cons nn .nil))) trivial rfl ?_;rintro r m k ⟨rfl,rfl,rfl⟩;refine⟨[(0,9),(1,10)],.ptr 9 0 0,[(9,.row 211 7 [rI mx [] 10]),(10,.mapb (kK cG (aY mx) [] []))],11,.ptr 0 9 0 0 rfl,⟨⟨0,_,rfl,rfl,.cons (pL rfl) .nil⟩,⟨1,_,rfl,rfl,l7 cQ []⟩,trivial⟩,rfl, ?_⟩;refine Rt ?_;refine aH.useN bE [(9,0),(10,1)] hW rfl (.cons (.same _ nA) (.cons (.ptr 9 0 0 0 rfl) (.cons (.same _ .nsl) .nil))) (cH (i:=9) (j:=10) rfl rfl rfl rfl) rfl ?_;rintro r m k ⟨rfl,rfl,rfl⟩;refine⟨[(0,9),(1,10)],.il 2 [],[(9,.row 211 7 [rI mx [] 10]),(10,.mapb (kK cG (aY mx) [] []))],21,.same _ (.il' .nil),⟨⟨0,_,rfl,rfl,.cons (pL rfl) .nil⟩,⟨1,_,rfl,rfl,l7 cQ []⟩,trivial⟩,rfl, ?_⟩;refine Rt ?_;refine aN (bV rfl (bV rfl (bV (aAf sq) (aAf sq)))) ?_;refine Rt ?_;have e3:H2 mx []=List.replicate (mx+1) 0:=rfl;rw[e3];have hz:=λ(mem:aP) (J:List (Nat × Nat))=>uL (mem:=mem) (J:=J) (mx+1)
 have hlen:(bZ (List.replicate (mx+1) 0)).length=mx+1:=by rw[fP,aA9]
 exact aW (n':=0) (m':=[]) [] rfl trivial (.tup' (.cons (Cv.fzR (id:=1) rfl rfl (hz _ _) hlen) (.s .nil))) ⟨rfl,rfl,rfl⟩
def Co(A:List Nd):List Cell:=if A=[] then [] else jC A (A.length-1) none
def MF(A:List Nd)(mx:Nat):List Nat:=H2 mx (if A=[] then [] else Cz ((aZ (aY mx)).all A (A.length-1)))
theorem Rh(h:A=[]\/VT A)(mx:Nat):(MF A mx).length=mx+1:=by
 unfold MF H2;rw[aAA,aA9]
 suffices hs:(if A=[] then [] else Cz ((aZ (aY mx)).all A (A.length-1))).length<=mx+1 by omega
 split
 .simp
 .rename_i hA;rcases h with h|h
  .exact absurd h hA
  .have:=I3 (A:=A) (m:=mx) h (i:=A.length-1) (by have:=h.pos;omega);cases ho:(aZ (aY mx)).all A (A.length-1) with
   | none=>simp[Cz]
   | some l=>exact(this l ho).1
theorem T0(m:Nat)(l:List Nat)(k:Nat):co (H2 m l) k=co l k:=by
 unfold co H2;rw[aAb,aAb,aAO];split
 .rfl
 .rename_i h;rw[aBr,aAs om];split<;>rfl
theorem US(h:A=[]\/VT A){mx:Nat}(hk:k<=mx):co (MF A mx) k=nR (Co A) k/\nR (Co A) k<=j8 256:=by
 unfold MF Co;rw[T0];by_cases hA:A=[]
 .rw[aAh hA,aAh hA,oE sq,sU sq];exact⟨rfl,aAN _⟩
 .rw[aAe hA,aAe hA];rcases h with h|h
  .exact absurd h hA
  .have hp:=h.pos;have hr:=(nI h mx (A.length-1) om).1 k hk;have hb:=(iG h (i:=A.length-1) om (o:=none) (λv e=>by cases e)).2;refine⟨?_,aAx (Ch _ k) hb⟩;have e:NQ ((aZ (aY mx)).all A (A.length-1)) k=co (Cz ((aZ (aY mx)).all A (A.length-1))) k:=by
    cases (aZ (aY mx)).all A (A.length-1) with
    | none=>rw[Cz,oE sq];rfl
    | some l=>rfl
   rw[<-e];exact hr
theorem TS(h:A=[]\/VT A)(mx:Nat)(hm:mx<=256):aT prog [] 22 [.agg [.il 12 (bJ A)],.int .i64 mx] (.tup [.il 2 (bZ (MF A mx)),.int .i64 0]):=by
 unfold MF;by_cases hA:A=[]
 .subst hA;rw[aAh rfl];exact Tr mx hm
 .rw[aAe hA];rcases h with h|h
  .exact absurd h hA
  .exact XD h mx hm
theorem PB(h:A=[]\/VT A)(hl:A.length<=100)(mx:Nat)(hm:mx<=256):aT prog [] 23 [.agg [.il 12 (bJ A)],.int .i64 mx] (.il 2 ((List.range (mx+1)).map λk=>eQ ((nR (Co A) k:Nat):Int))):=by
 unfold Co;by_cases hA:A=[]
 .subst hA;rw[aAh rfl];exact HA Rm sq mx hm
 .rw[aAe hA];rcases h with h|h
  .exact absurd h hA
  .have hp:=h.pos;have hb:=iG h (i:=A.length-1) om (o:=none) (λv e=>by cases e);have hR:=NA h hl;rw[k7] at hR;exact HA hR hb.1 mx hm
theorem RE(h:VT A)(hl:A.length<=100):∃a b:Int,aT prog [] 24 [.agg [.il 12 (bJ A)]] (.tup [.int .i64 a,.int .i64 b,.int .i64 0])/\aT prog [] 25 [.agg [.il 12 (bJ A)]] (.tup [.int .i64 a,.int .i64 b]):=by
 have hp:=h.pos;have hb:=iG h (i:=A.length-1) om (o:=none) (λv e=>by cases e);have hR:=NA h hl;rw[k7] at hR;have h1:=SF h;have h2:=Ky hR hb.1;have hs:=(UX bI h (A.length-1) om).1;have hr:=(Bi h (A.length-1) om).1;cases ho:(aZ bI).all A (A.length-1) with
 | none=>rw[ho] at hs;cases hs
 | some p=>
  rw[ho] at h1 hr;obtain⟨r1,r2,r3,r4⟩:=hr;have e:jC A (A.length-1) none=(fQ false).all A (A.length-1):=rfl;rw[e] at h2 hb;have hlt:p.2<((fQ false).all A (A.length-1)).length:=by
   rcases aAr p.2 ((fQ false).all A (A.length-1)).length with q|q
   .exact q
   .rw[sU q] at r3;omega
  rw[R6 r2 (λj hj=>(r4 j hj).1) _ om,QU r3 (λj hj=>(r4 j hj).2) _ hlt] at h2;exact⟨_,_,h1,h2⟩
end Go.Proofs.YtidjhgajglebnaaGreatDoor
namespace Go.Ax
open Go
variable{ns:List Nd}
structure XP(x:Nd):Prop where
 ok:x9 x
 val:bF x.value<=1024
 vals:∀v∈x.values,bF v<=1024
 vlen:x.values.length<=1024
 klen:x.kids.length<=1025
 llen:x.labels.length<=256
 wlen:x.weights.length<=256
 lab:∀s∈x.labels,s∈Ag
theorem DI:∀{l:List aQ},fG l=0->∀v∈l,bG v=0
 | [],_,v,hv=>by simp at hv
 | a::r,h,v,hv=>by
  simp only[fG] at h;split at h
  .rename_i h1;exact absurd h h1
  .rename_i h1;rcases aAj.1 hv with rfl|hv
   .exact Decidable.not_not.1 h1
   .exact DI h v hv
theorem DV{v:aQ}(h:bG v=0):bF v<=1024:=by
 unfold bG at h;split at h
 .omega
 .split at h
  .omega
  .rename_i h1;rw[not_or] at h1;omega
theorem Lh{v:aQ}(h:Em v=true):bF v<=1024:=by
 obtain⟨k,n,s,ks⟩:=v;simp only[Em,aAd,aAC] at h;have:ks=[]:=aBh.1 h.2;subst this;simp[bF,cA]
theorem Ov(h:mF ns):∀x∈ns,XP x:=by
 intro x hx;obtain⟨j,hj⟩:=aAU hx;have hn:=uP ns h.valid j x hj;have hN:=pB hn;have hg:=h.gen x hx;have hf:=kS hn;have hfe:fG (r8 x)=0:=by
  unfold gY at hn;rw[aAe (by rw[hf];simp)] at hn;split at hn
  .rename_i h1;exact absurd hn h1
  .rename_i h1;exact Decidable.not_not.1 h1
 have hv:=DI hfe;unfold dT at hf;simp only[aAd] at hf;obtain⟨⟨⟨⟨⟨⟨hu,hkd⟩,hki⟩,h2⟩,h3⟩,h4⟩,h5⟩:=hf;unfold lU at hu;simp only[aAd,aBm,aAC] at hu h2 h4;have hul:=hu.1.1.2;have hz:=hu.1.1.1.1.1;have hvl:=hg.vals;refine⟨hg.ok, ?_,λv hm=>DV (hv v (by unfold r8;exact aBp _ hm)),hvl, ?_, ?_, ?_,hg.labels⟩
 .rcases hz with e|e
  .exact DV (hv x.value (by unfold r8;rw[aAh e];simp))
  .exact Lh e
 .by_cases e:x.kind=4
  .have:=hN.bind e;omega
  .have:=hN.klen e;omega
 .rcases hul with e|e
  .rcases h2 with h2|h2
   .exact absurd e h2
   .omega
  .omega
 .rcases hul with e|e
  .rcases h2 with h2|h2
   .exact absurd e h2
   .omega
  .omega
structure Zu(LB:List (List UInt8))(x:Nd):Prop where
 ok:x9 x
 val:bF x.value<=1048576
 vals:∀v∈x.values,bF v<=1048576
 vlen:x.values.length<=2000
 klen:x.kids.length<=2000
 llen:x.labels.length<=1000
 lab:∀s∈x.labels,s∈LB
variable {LB:List (List UInt8)}
theorem UV(hLB:∀s∈Ag,s∈LB){x:Nd}(h:XP x):Zu LB x:=
 ⟨h.ok,by have:=h.val;omega,λv hv=>by have:=h.vals v hv;omega,by have:=h.vlen;omega,by have:=h.klen;omega,by have:=h.llen;omega,λs hs=>hLB s (h.lab s hs)⟩
theorem N3(hLB:∀s∈LB,s.length<=19)(h:∀x∈ns,Zu LB x)(hl:ns.length<=1000):E6 ns:=
 ⟨λx hx=>(h x hx).ok,λx hx=>(h x hx).val,λx hx=>(h x hx).vals,λx hx=>(h x hx).vlen,λx hx=>(h x hx).klen,λx hx=>(h x hx).llen,λx hx s hs=>by have:=hLB s ((h x hx).lab s hs);omega,hl⟩
end Go.Ax
namespace Go.Ax
open Go
section
variable {A:List Nd}
end
end Go.Ax
namespace Go.Ax
open Go
structure Ft where
 cs:List Int
 val:aQ
structure As(r:Z6)(f:Ft):Prop where
 val:r.val=f.val
 used:r.used=f.cs.length
 stop:r.stop = -1
section
variable {A:List Nd}
end
end Go.Ax
namespace Go.Ax
open Go
end Go.Ax
