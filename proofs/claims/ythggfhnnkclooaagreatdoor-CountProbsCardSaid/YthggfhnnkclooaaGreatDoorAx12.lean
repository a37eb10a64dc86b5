/- A part of the proof. -/
import Derived.Test.YthggfhnnkclooaaGreatDoorAx11
import Derived.Recover
set_option linter.unusedSectionVars false
set_option linter.unusedVariables false
set_option linter.unusedSimpArgs false
set_option maxRecDepth 1000000
set_option maxHeartbeats 16000000
namespace Go.Proofs.YthggfhnnkclooaaGreatDoor
open Go Go.Ax Go.Proofs Tryz
def s7(a:Fr):AV:=.agg [.bool (decide (a.p<0)),.il 1 (bX (dg 10000 a.p.natAbs)),.bool (decide ((a.q:Int)<0)),.il 1 (bX (dg 10000 (a.q:Int).natAbs))]
theorem HW(b c:Bool)(l m:List Nat):NN (.agg [.bool b,.il 1 (bX l),.bool c,.il 1 (bX m)]):=.agg' (.cons (zG _) (.cons (tD _) au))
theorem qI(a:Fr):NN (s7 a):=HW _ _ _ _
theorem oR(z:Int):∃b l,fW z = .agg [.bool b,.il 1 (bX l)]:=⟨_,_,rfl⟩
theorem g6(a:Fr):∃b l c m,fW a.p = .agg [.bool b,.il 1 (bX l)]/\fW (a.q:Int) = .agg [.bool c,.il 1 (bX m)]/\s7 a = .agg [.bool b,.il 1 (bX l),.bool c,.il 1 (bX m)]:=⟨_,_,_,_,rfl,rfl,rfl⟩
theorem Yk:jR [.agg [.bool false,.nsl,.bool false,.nsl]]:=.cons (.agg' (.cons (zG _) (.cons .nsl (.cons (zG _) (.cons .nsl .nil))))) .nil
structure LF(n:Nat)(a:Fr):Prop where
 num:(dg 10000 a.p.natAbs).length<=n
 den:(dg 10000 a.q).length<=n
theorem LF.den'{n:Nat}{a:Fr}(h:LF n a):(dg 10000 (a.q:Int).natAbs).length<=n:=by rw[ZM];exact h.den
theorem Yl(n:Int)(hn:i64 n):aU prog [] 36 [.int .i64 n] (s7 ⟨n,1⟩):=by
 have h1:=Su n hn;have h2:=Su ((1:Nat):Int) oq;obtain⟨b,l,c,m,q1,q2,q3⟩:=g6 ⟨n,1⟩;rw[q3];rw[q1] at h1;rw[q2] at h2;refine aD bI func36 rfl ?_;refine Z ?_;refine h1.go ?_ G' (fO _ _);refine Z ?_;refine h2.go ?_ G' (fO _ _);refine Rt ?_;exact aA (HW _ _ _ _) C' 
theorem Hi{p q:Int}(h:q≠0):0<Nat.gcd p.natAbs q.natAbs:=aAp _ (aBH.2 h)
theorem DD(p q:Int)(hq:q≠0)(h1:(dg 10000 p.natAbs).length<=800000)(h2:(dg 10000 q.natAbs).length<=800000):aU prog [] 38 [fW p,fW q] (.tup [s7 (mkF p q),.int .i64 0]):=by
 have hg0:=Hi (p:=p) hq;have hn1:=Wr p om;have hn2:=Wr q om;have key:∀P Q:Int,P=(if q<0 then -p else p)->Q=(q.natAbs:Int)->aU prog [] 96 [fW P,fW Q] (fW (Nat.gcd p.natAbs q.natAbs:Nat)) /\
   aU prog [] 97 [fW P,fW (Nat.gcd p.natAbs q.natAbs:Nat)] (.tup [fW (mkF p q).p,fW (P%(Nat.gcd p.natAbs q.natAbs:Nat))]) /\
   aU prog [] 97 [fW Q,fW (Nat.gcd p.natAbs q.natAbs:Nat)] (.tup [fW ((mkF p q).q:Int),fW (Q%(Nat.gcd p.natAbs q.natAbs:Nat))]):=by
  intro P Q hP hQ;have a1:P.natAbs=p.natAbs:=by rw[hP];split<;>simp
  have a2:Q.natAbs=q.natAbs:=by rw[hQ];simp
  have hgl:=CP hT p.natAbs q.natAbs;have z1:=Xq P Q (by rw[a1];omega) (by rw[a2];omega);rw[a1,a2] at z1;have z2:=Ua P (Nat.gcd p.natAbs q.natAbs:Nat) om (by rw[a1];omega) dv;have z3:=Ua Q (Nat.gcd p.natAbs q.natAbs:Nat) om (by rw[a2];omega) dv;refine⟨z1, ?_, ?_⟩
  .have e:(mkF p q).p=P/(Nat.gcd p.natAbs q.natAbs:Nat):=by rw[hP];rfl
   rw[e];exact z2
  .have e:((mkF p q).q:Int)=Q/(Nat.gcd p.natAbs q.natAbs:Nat):=by rw[hQ,<-Int.natCast_ediv];rfl
   rw[e];exact z3
 have kn:=key (-p) (-q);have kp:=key p q;have hlz:=fL (B:=10000) (n:=q.natAbs) hT;have hz:(((dg 10000 q.natAbs).length:Int) == 0)=false:=by
  have:0<(dg 10000 q.natAbs).length:=by
   have:=Zg.1 hlz;exact this.2 om
  simp;intro h;rw[h] at this;simp at this
 obtain⟨b,l,c,m,q1,q2,q3⟩:=g6 (mkF p q);rw[q1,q2] at kn kp;rw[q3];obtain⟨bg,lg,hgg⟩:=oR (Nat.gcd p.natAbs q.natAbs:Nat);rw[hgg] at kn kp;obtain⟨bm,lm,hmm⟩:=oR (-p);obtain⟨bn,ln,hnn⟩:=oR (-q);rw[hmm] at hn1 kn;rw[hnn] at hn2 kn;clear key q1 q2 q3 hgg hmm hnn hlz hg0;have ep:=eG p;have eq:=eG q;rw[ep] at hn1 kp |-;rw[eq] at hn2 kp |-;clear ep eq;generalize hbq:decide (q<0)=bq at *;generalize decide (p<0)=bp at *;generalize dg 10000 p.natAbs=lp at *;generalize dg 10000 q.natAbs=lq at *;refine aD bI func38 rfl ?_;cases bq with
 | true=>
  have hlt:=Zf hbq;obtain⟨k1,k2,k3⟩:=kn (by rw[Y7 hlt]) om;obtain⟨b1,l1,e1⟩:=oR (-p%(Nat.gcd p.natAbs q.natAbs:Nat));obtain⟨b2,l2,e2⟩:=oR (-q%(Nat.gcd p.natAbs q.natAbs:Nat));rw[e1] at k2;rw[e2] at k3;refine Rt ?_;rw[aV,hz];refine Rt ?_;refine hn1.go ?_ I' (fO _ _);refine Rt ?_;refine hn2.go ?_ I' (fO _ _);refine Rt ?_;refine k1.go ?_ bu (fO _ _);refine Rt ?_;refine k2.go ?_ bu (.tup' bu);refine Rt ?_;refine k3.go ?_ bu (.tup' bu);refine Rt ?_;exact aA (.tup' gy) C'
 | false=>
  have hlt:=aAa hbq;obtain⟨k1,k2,k3⟩:=kp (by rw[Y3 hlt]) om;obtain⟨b1,l1,e1⟩:=oR (p%(Nat.gcd p.natAbs q.natAbs:Nat));obtain⟨b2,l2,e2⟩:=oR (q%(Nat.gcd p.natAbs q.natAbs:Nat));rw[e1] at k2;rw[e2] at k3;refine Rt ?_;rw[aV,hz];refine Rt ?_;refine k1.go ?_ bu (fO _ _);refine Rt ?_;refine k2.go ?_ bu (.tup' bu);refine Rt ?_;refine k3.go ?_ bu (.tup' bu);refine Rt ?_;exact aA (.tup' gy) C' 
theorem Sd(a:Fr)(ha:LF 1000000 a):aU prog [] 100 [s7 a,.int .i64 0] (.tup [s7 (EX a).1,.int .i64 (EX a).2]):=by
 have h1:=Tn a.p ha.num;have h2:=Tn (a.q:Int) ha.den';have h3:aU prog [] 36 [.int .i64 0] (s7 zF):=Yl 0 oq;have hr:EX a=if eY a.p=true/\eY a.q=true then(a,0) else(zF,4):=rfl
 obtain⟨b,l,c,m,q1,q2,q3⟩:=g6 a;obtain⟨b0,l0,c0,m0,-,-,q0⟩:=g6 zF;rw[q1] at h1;rw[q2] at h2;rw[q0] at h3;rw[q3];generalize eY a.p=f1 at *;generalize eY (a.q:Int)=f2 at *;have hres:AV.tup [s7 (EX a).1,.int .i64 (EX a).2]=if (f1 && f2)=true then .tup [.agg [.bool b,.il 1 (bX l),.bool c,.il 1 (bX m)],.int .i64 0] else .tup [.agg [.bool b0,.il 1 (bX l0),.bool c0,.il 1 (bX m0)],.int .i64 4]:=by
  rw[hr,<-q3,<-q0];cases f1<;>cases f2<;>rfl
 rw[hres];clear hres hr q1 q2 q3 q0;refine aD bI func100 rfl ?_;cases f1<;>cases f2
 all_goals refine Z ?_
 all_goals refine Rs ?_
 all_goals refine h1.go ?_ I' nn
 all_goals refine Z ?_
 all_goals refine Rs ?_
 all_goals refine h2.go ?_ I' nn
 all_goals refine Z ?_
 all_goals refine Rs ?_
 all_goals (first|(refine h3.go ?_ G' (HW _ _ _ _);refine Z ?_)|skip)
 all_goals refine Rs ?_
 all_goals exact aA (.tup' gy) C' 
theorem LF.mkF{n:Nat}{p q:Int}(h1:(dg 10000 p.natAbs).length<=n)(h2:(dg 10000 q.natAbs).length<=n):LF n (mkF p q):=
 ⟨Zk (cU hT (RR p q)) h1,Zk (cU hT (SL p q)) h2⟩
theorem X3(a b:Fr)(ha:LF 200000 a)(hb:LF 200000 b)(ha0:0<a.q)(hb0:0<b.q):aU prog [] 41 [s7 a,s7 b] (.tup [s7 (p7 a b).1,.int .i64 (p7 a b).2]):=by
 have la1:=ha.num;have la2:=ha.den;have lb1:=hb.num;have lb2:=hb.den;have l0:=qT hT a.p.natAbs b.p.natAbs;have l1:=qT hT a.q b.q;have e0:(a.p*b.p).natAbs=a.p.natAbs*b.p.natAbs:=aBt _ _;have e1:((a.q:Int)*(b.q:Int)).natAbs=a.q*b.q:=by rw[aBt,ZM,ZM]
 have m0:=R5 a.p b.p om om;have m1:=R5 (a.q:Int) (b.q:Int) dv dv;have hz:(a.q:Int)*(b.q:Int)≠0:=Int.mul_ne_zero om om;have h2:=DD (a.p*b.p) ((a.q:Int)*(b.q:Int)) hz (by rw[e0];omega) (by rw[e1];omega);have h3:aU prog [] 100 [s7 (mkF (a.p*b.p) ((a.q:Int)*(b.q:Int))),.int .i64 0] (.tup [s7 (p7 a b).1,.int .i64 (p7 a b).2]):=Sd _ (LF.mkF (by rw[e0];omega) (by rw[e1];omega));generalize mkF (a.p*b.p) ((a.q:Int)*(b.q:Int))=M at *;obtain⟨rb,rl,rc,rm,-,-,qr⟩:=g6 (p7 a b).1;generalize (p7 a b).2=e at *;obtain⟨ab,al,ac,am,qa1,qa2,qa3⟩:=g6 a;obtain⟨bb,bl,bc,bm,qb1,qb2,qb3⟩:=g6 b;obtain⟨nb,nl,en⟩:=oR (a.p*b.p);obtain⟨db,dl,ed⟩:=oR ((a.q:Int)*(b.q:Int));obtain⟨Mb,Ml,Mc,Mm,-,-,qM⟩:=g6 M;rw[qa1,qb1,en] at m0;rw[qa2,qb2,ed] at m1;rw[en,ed,qM] at h2;rw[qM,qr] at h3;rw[qa3,qb3,qr];clear qa1 qa2 qa3 qb1 qb2 qb3 en ed qM qr e0 e1 hz l0 l1;refine aD bI func41 rfl ?_;refine Rt ?_;refine m0.go ?_ bu (fO _ _);refine Rt ?_;refine m1.go ?_ bu (fO _ _);refine Rt ?_;refine h2.go ?_ bu (.tup' gy);refine Rt ?_;refine h3.go ?_ gy (.tup' gy);refine Rt ?_;exact aA (.tup' gy) C' 
theorem hW:(2:Nat)<=4294967296:=H'
theorem eH(z:Int):∃b l,gC z = .agg [.bool b,.il 1 (bA l)]:=⟨_,_,rfl⟩
theorem Xs:jR [.agg [.bool false,.nsl]]:=nN false
def lE(a:Fr):AV:=.agg [.bool (decide (a.p<0)),.il 1 (bA (dg 4294967296 a.p.natAbs)),.bool (decide ((a.q:Int)<0)),.il 1 (bA (dg 4294967296 (a.q:Int).natAbs))]
theorem zT(b c:Bool)(l m:List Nat):NN (.agg [.bool b,.il 1 (bA l),.bool c,.il 1 (bA m)]):=.agg' (.cons (tB _) (.cons (tU _) gf))
theorem wX(a:Fr):NN (lE a):=zT _ _ _ _
theorem fX(a:Fr):∃b l c m,gC a.p = .agg [.bool b,.il 1 (bA l)]/\gC (a.q:Int) = .agg [.bool c,.il 1 (bA m)]/\lE a = .agg [.bool b,.il 1 (bA l),.bool c,.il 1 (bA m)]:=⟨_,_,_,_,rfl,rfl,rfl⟩
def Ou:Fr:=⟨0,0⟩
theorem vH:lE Ou = .agg [.bool false,.il 1 [],.bool false,.il 1 []]:=by simp[lE,Ou,eA,bA]
theorem OY{mem:aR}{J:List (Nat × Nat)}:Cv mem J (.agg [.bool false,.nsl,.bool false,.nsl]) (.agg [.bool false,.il 1 [],.bool false,.il 1 []]):=
 .agg' (.cons (.same _ (tB _)) (.cons (.nil 1) (.cons (.same _ (tB _)) (.cons (.nil 1) .nil))))
theorem U2{mem:aR}{J:List (Nat × Nat)}:Cv mem J (.agg [.bool false,.nsl]) (.agg [.bool false,.il 1 []]):=.agg' (.cons (.same _ (tB _)) (.cons (.nil 1) .nil))
structure LP(n:Nat)(a:Fr):Prop where
 num:(dg 4294967296 a.p.natAbs).length<=n
 den:(dg 4294967296 a.q).length<=n
theorem JD(x y:Int)(hx:eY x=true)(hy:(dg 4294967296 y.natAbs).length<=1000000):aU prog [] 199 [.il 2 [gC x,gC y]] (CH (x*y)):=by
 have hxl:(dg 4294967296 x.natAbs).length<=512:=v8 hx;have h0:=Id ((1:Nat):Int) oq;have h1:=TK ((1:Nat):Int) x (by have:(dg 4294967296 1).length<=1:=wO hW H';rw[ZM];omega) om;rw[show ((1:Nat):Int)*x=x by omega] at h1;have e1:CH x = .tup [gC x,.int .i64 0]:=by unfold CH;rw[Y7 hx]
 rw[e1] at h1;have h2:=TK x y om hy;have hr:CH (x*y)=if eY (x*y)=true then .tup [gC (x*y),.int .i64 0] else .tup [gC 0,.int .i64 4]:=rfl
 have hnn:=Cf (x*y);rw[hr] at h2 hnn |-;rw[LS] at h2 hnn |-;obtain⟨b1,l1,q1⟩:=eH ((1:Nat):Int);obtain⟨bx,lx,qx⟩:=eH x;obtain⟨by_,ly,qy⟩:=eH y;obtain⟨bz,lz,qz⟩:=eH (x*y);rw[q1] at h0;rw[q1,qx] at h1;rw[qx,qy,qz] at h2;rw[qz] at hnn;rw[qx,qy,qz];generalize eY (x*y)=f at *;clear q1 qx qy qz hr e1;refine aD bI func199 rfl ?_;refine Rt ?_;refine h0.go ?_ G' (eD _ _);refine Rt ?_;have n2:NN (.il 2 [.agg [.bool bx,.il 1 (bA lx)],.agg [.bool by_,.il 1 (bA ly)]]):=.il' bw;refine bJ.at bI (λp:Nat × Bool × List Nat=>(p.1=0/\p.2=(b1,l1))\/(p.1=1/\p.2=(bx,lx))\/(p.1=2/\p.2=(bz,lz)/\f=true))
  (λp=>⟨[(2,.ptr 0 0 0),(4,.ptr 1 0 0),(9,.il 2 [.agg [.bool bx,.il 1 (bA lx)],.agg [.bool by_,.il 1 (bA ly)]]),(10,.int .i64 2),(11,.int .i64 p.1)],[(0,.row 32 2 [.agg [.bool false,.nsl]]),(1,.row 32 2 [.agg [.bool p.2.1,.il 1 (bA p.2.2)]])],2,27⟩)
  (λp=>2-p.1) (0,b1,l1) [(0,0),(1,1)] (.inl gj)
  (aH _ rfl ⟨aF 0 Xs,aF 1 M',trivial⟩ ⟨aM,aM,aP n2,aG,aG,trivial⟩) ?_
 rintro⟨i,p⟩ (⟨e1,e2⟩|⟨e1,e2⟩|⟨e1,e2,e3⟩)
 .simp only at e1 e2;subst e1 e2;refine Rt ?_;refine h1.go ?_ bw (.tup' (.cons (eD _ _) G'));refine Rt ?_;exact .mk (1,bx,lx) [(0,0),(1,1)] (.inr (.inl gj))
   (aH _ rfl ⟨aF 0 Xs,aF 1 M',trivial⟩ ⟨aM,aM,aP n2,aG,⟨_,rfl,.int (by simp only;decide)⟩,trivial⟩) sq
 .simp only at e1 e2;subst e1 e2;refine Rt ?_;refine h2.go ?_ bw hnn;cases f with
  | true=>
   refine Rt ?_;exact .mk (2,bz,lz) [(0,0),(1,1)] (.inr (.inr C'))
    (aH _ rfl ⟨aF 0 Xs,aF 1 M',trivial⟩ ⟨aM,aM,aP n2,aG,⟨_,rfl,.int (by simp only;decide)⟩,trivial⟩) sq
  | false=>
   refine Rt ?_;exact cN (r':=.tup [.agg [.bool false,.il 1 []],.int .i64 4]) (.tup' (.cons U2 ax)) C'
 .simp only at e1 e2;subst e1 e2 e3;refine Rt ?_;exact aA hnn C' 
theorem E4(x y:Int)(hy0:y≠0)(hx:(dg 4294967296 x.natAbs).length<=900000)(hy:(dg 4294967296 y.natAbs).length<=900000):aU prog [] 200 [gC x,gC y] (gC (x/y)):=by
 have h:=YS x y hy0 hx hy;obtain⟨bx,lx,qx⟩:=eH x;obtain⟨by_,ly,qy⟩:=eH y;obtain⟨bz,lz,qz⟩:=eH (x/y);obtain⟨bm,lm,qm⟩:=eH (x%y);rw[qx,qy,qz,qm] at h;rw[qx,qy,qz];refine aD bI func200 rfl ?_;refine Rt ?_;refine h.go ?_ bw (.tup' (.cons (eD _ _) (.cons (eD _ _) G')));refine Rt ?_;exact aA (eD _ _) C' 
theorem VV(a:Fr)(ha:(dg 4294967296 a.q).length<=1000000):aU prog [] 50 [lE a] (gC (a.den:Int)):=by
 have h0:=Ts (a.q:Int) (by rw[ZM];exact ha);have h1:=Id ((1:Nat):Int) oq;have hc:fJ (a.q:Int) 0=if a.q=0 then 0 else 1:=by unfold fJ;split<;>(try split)<;>(try split)<;>omega
 have hd:a.den=if a.q=0 then 1 else a.q:=rfl
 obtain⟨bp,lp,bq,lq,-,q2,q3⟩:=fX a;obtain⟨b1,l1,e1⟩:=eH ((1:Nat):Int);rw[hc,q2] at h0;rw[e1] at h1;rw[q3,hd];refine aD bI func50 rfl ?_;by_cases h:a.q=0
 .rw[Y7 h] at h0 |-;rw[e1];refine Rt ?_;refine h0.go ?_ M' nn;refine Z ?_;refine h1.go ?_ G' (eD _ _);refine Rt ?_;exact aA (eD _ _) C'
 .rw[Y3 h] at h0 |-;rw[q2];refine Rt ?_;refine h0.go ?_ M' nn;refine Rt ?_;exact aA (eD _ _) C' 
theorem Tp(p q:Int)(hq:q≠0)(h1:(dg 4294967296 p.natAbs).length<=800000)(h2:(dg 4294967296 q.natAbs).length<=800000):aU prog [] 197 [gC p,gC q] (.tup [lE (mkF p q),.int .i64 0]):=by
 have hg0:=Hi (p:=p) hq;have hn1:=W9 p om;have hn2:=W9 q om;have hs:=Ts q om;have key:∀P Q:Int,P=(if q<0 then -p else p)->Q=(q.natAbs:Int)->aU prog [] 198 [gC P,gC Q] (gC (Nat.gcd p.natAbs q.natAbs:Nat)) /\
   aU prog [] 200 [gC P,gC (Nat.gcd p.natAbs q.natAbs:Nat)] (gC (mkF p q).p) /\
   aU prog [] 200 [gC Q,gC (Nat.gcd p.natAbs q.natAbs:Nat)] (gC ((mkF p q).q:Int)):=by
  intro P Q hP hQ;have a1:P.natAbs=p.natAbs:=by rw[hP];split<;>simp
  have a2:Q.natAbs=q.natAbs:=by rw[hQ];simp
  have hgl:=CP hW p.natAbs q.natAbs;have z1:=UD P Q (by rw[a1];omega) (by rw[a2];omega);rw[a1,a2] at z1;have z2:=E4 P (Nat.gcd p.natAbs q.natAbs:Nat) om (by rw[a1];omega) dv;have z3:=E4 Q (Nat.gcd p.natAbs q.natAbs:Nat) om (by rw[a2];omega) dv;refine⟨z1, ?_, ?_⟩
  .have e:(mkF p q).p=P/(Nat.gcd p.natAbs q.natAbs:Nat):=by rw[hP];rfl
   rw[e];exact z2
  .have e:((mkF p q).q:Int)=Q/(Nat.gcd p.natAbs q.natAbs:Nat):=by rw[hQ,<-Int.natCast_ediv];rfl
   rw[e];exact z3
 have kn:=key (-p) (-q);have kp:=key p q;obtain⟨b,l,c,m,q1,q2,q3⟩:=fX (mkF p q);rw[q1,q2] at kn kp;rw[q3];obtain⟨bg,lg,hgg⟩:=eH (Nat.gcd p.natAbs q.natAbs:Nat);rw[hgg] at kn kp;obtain⟨bm,lm,hmm⟩:=eH (-p);obtain⟨bn,ln,hnn⟩:=eH (-q);obtain⟨bp,lp,hpp⟩:=eH p;obtain⟨bq,lq,hqq⟩:=eH q;rw[hmm,hpp] at hn1;rw[hnn,hqq] at hn2;rw[hmm,hnn] at kn;rw[hpp,hqq] at kp;rw[hqq] at hs;rw[hpp,hqq];clear key q1 q2 q3 hgg hmm hnn hpp hqq hg0;refine aD bI func197 rfl ?_;by_cases hlt:q<0
 .obtain⟨k1,k2,k3⟩:=kn (by rw[Y7 hlt]) om;rw[show fJ q 0 = -1 by unfold fJ;rw[Y7 hlt]] at hs;refine Rt ?_;refine hs.go ?_ M' nn;refine Rt ?_;refine hs.go ?_ M' nn;refine Rt ?_;refine hn1.go ?_ M' (eD _ _);refine Rt ?_;refine hn2.go ?_ M' (eD _ _);refine Rt ?_;refine k1.go ?_ bw (eD _ _);refine Rt ?_;refine k2.go ?_ bw (eD _ _);refine Rt ?_;refine k3.go ?_ bw (eD _ _);refine Rt ?_;exact aA (.tup' (.cons (zT _ _ _ _) G')) C'
 .obtain⟨k1,k2,k3⟩:=kp (by rw[Y3 hlt]) om;rw[show fJ q 0=1 by unfold fJ;rw[Y3 hlt,Y7 om]] at hs;refine Rt ?_;refine hs.go ?_ M' nn;refine Rt ?_;refine hs.go ?_ M' nn;refine Rt ?_;refine k1.go ?_ bw (eD _ _);refine Rt ?_;refine k2.go ?_ bw (eD _ _);refine Rt ?_;refine k3.go ?_ bw (eD _ _);refine Rt ?_;exact aA (.tup' (.cons (zT _ _ _ _) G')) C' 
theorem YI(p q:Int)(hp:i64 p)(hq:i64 q)(hq0:q≠0):aU prog [] 128 [.int .i64 p,.int .i64 q] (.tup [lE (mkF p q),.int .i64 0]):=by
 have h1:=Id p hp;have h2:=Id q hq;unfold i64 at hp hq;have h3:=Tp p q hq0 (by have:(dg 4294967296 p.natAbs).length<=2:=LW hW om;omega) (by have:(dg 4294967296 q.natAbs).length<=2:=LW hW om;omega);obtain⟨b,l,c,m,-,-,q3⟩:=fX (mkF p q);obtain⟨bp,lp,hpp⟩:=eH p;obtain⟨bq,lq,hqq⟩:=eH q;rw[hpp] at h1;rw[hqq] at h2;rw[hpp,hqq,q3] at h3;rw[q3];refine aD bI func128 rfl ?_;refine Rt ?_;refine h1.go ?_ G' (eD _ _);refine Rt ?_;refine h2.go ?_ G' (eD _ _);refine Rt ?_;refine h3.go ?_ bw (.tup' (.cons (zT _ _ _ _) G'));refine Rt ?_;exact aA (.tup' (.cons (zT _ _ _ _) G')) C' 
def nF(a:Fr):Fr:=⟨a.p,a.den⟩
def RY(r:Fr × Int):Fr:=if r.2=0 then r.1 else Ou
structure FP(a:Fr):Prop where
 num:eY a.p=true
 den:eY (a.den:Int)=true
theorem LH(a:Fr):0<a.den:=by unfold Fr.den;split<;>omega
theorem FP.ln{a:Fr}(h:FP a):(dg 4294967296 a.p.natAbs).length<=512:=v8 h.num
theorem FP.ld{a:Fr}(h:FP a):(dg 4294967296 a.den).length<=512:=by have:=v8 h.den;rw[ZM] at this;exact this
theorem FP.lq{a:Fr}(h:FP a):(dg 4294967296 a.q).length<=512:=by
 have:=h.ld;unfold Fr.den at this;split at this
 .rename_i e;rw[e,eA];simp
 .exact this
theorem Ob{a:Nat}(g:Nat)(h:eY (a:Int)=true):eY ((a/g:Nat):Int)=true:=by
 unfold eY at h |-;rw[ZM] at h |-;have:=Zf h;exact Y8 (aAc (aAu _ _) this)
theorem Rz(z:Int):CH z=if eY z=true then .tup [gC z,.int .i64 0] else .tup [.agg [.bool false,.il 1 []],.int .i64 4]:=by rw[<-LS];rfl
theorem Ox{x y:Int}(h:eY x=true)(hl:y.natAbs<=x.natAbs):eY y=true:=by
 unfold eY at h |-;exact Y8 (aAc hl (Zf h))
theorem Ip(p:Int)(g:Nat)(h:g ∣ p.natAbs):(p/(g:Int)).natAbs<=p.natAbs:=by rw[oH p g h];exact aAu _ _
theorem KF{T:Fr}(h:0<T.q):T.den=T.q:=by unfold Fr.den;rw[Y3 om]
theorem X9(a b:Fr)(ha:FP a)(hb:FP b)(ca:Go.Ax.Can (nF a))(cb:Go.Ax.Can (nF b)):aU prog [] 130 [lE a,lE b] (.tup [lE (RY (p7 (nF a) (nF b))),.int .i64 (p7 (nF a) (nF b)).2]):=by
 have ha0:=LH a;have hb0:=LH b;have la1:=ha.ln;have la2:=ha.ld;have lb1:=hb.ln;have lb2:=hb.ld;have dA:=VV a (by have:=ha.lq;omega);have dB:=VV b (by have:=hb.lq;omega);have hx:mkF (a.p*b.p) ((a.den:Int)*(b.den:Int))=⟨(a.p/(Nat.gcd a.p.natAbs b.den:Int))*(b.p/(Nat.gcd b.p.natAbs a.den:Int)),(a.den/Nat.gcd b.p.natAbs a.den)*(b.den/Nat.gcd a.p.natAbs b.den)⟩:=NP ca cb;have cM:Go.Ax.Can (mkF (a.p*b.p) ((a.den:Int)*(b.den:Int))):=Lb (Int.mul_ne_zero om om);have hres:p7 (nF a) (nF b)=EX (mkF (a.p*b.p) ((a.den:Int)*(b.den:Int))):=rfl;have g1:0<Nat.gcd a.p.natAbs b.den:=aAp _ hb0;have g2:0<Nat.gcd b.p.natAbs a.den:=aAp _ ha0;have hG:=UD a.p (b.den:Int) om dv;have hH:=UD b.p (a.den:Int) om dv;simp only[ZM] at hG hH;have gl1:=CP hW a.p.natAbs b.den;have gl2:=CP hW b.p.natAbs a.den;have o1:=E4 a.p (Nat.gcd a.p.natAbs b.den:Nat) om om dv;have o2:=E4 b.p (Nat.gcd b.p.natAbs a.den:Nat) om om dv;have o3:=E4 (a.den:Int) (Nat.gcd b.p.natAbs a.den:Nat) om dv dv;have o4:=E4 (b.den:Int) (Nat.gcd a.p.natAbs b.den:Nat) om dv dv;rw[<-Int.natCast_ediv] at o3 o4;have x1:=Ip a.p _ (aAM a.p.natAbs b.den);have x2:=Ip b.p _ (aAM b.p.natAbs a.den);have fx1:=Ox ha.num x1;have fx3:=Ob (Nat.gcd b.p.natAbs a.den) ha.den;have y1:=cU hW x1;have y2:=cU hW x2;have y3:=xC hW a.den (Nat.gcd b.p.natAbs a.den);have y4:=xC hW b.den (Nat.gcd a.p.natAbs b.den);generalize a.p/((Nat.gcd a.p.natAbs b.den:Nat):Int)=u1 at *;generalize b.p/((Nat.gcd b.p.natAbs a.den:Nat):Int)=u2 at *;generalize a.den/Nat.gcd b.p.natAbs a.den=u3 at *;generalize b.den/Nat.gcd a.p.natAbs b.den=u4 at *;generalize Nat.gcd a.p.natAbs b.den=g at *;generalize Nat.gcd b.p.natAbs a.den=h at *;rw[hx] at cM hres;have m1:=JD u1 u2 fx1 om;have m2:=JD (u3:Int) (u4:Int) fx3 dv;have z1:=qT hW u1.natAbs u2.natAbs;have z2:=qT hW u3 u4;have hm:=Tp (u1*u2) ((u3*u4:Nat):Int) (by have:=cM.pos;simp only at this;omega) (by rw[aBt];omega) dv;have hself:mkF (u1*u2) ((u3*u4:Nat):Int)=⟨u1*u2,u3*u4⟩:=O5 cM;rw[hself] at hm;have n1:=Cf (u1*u2);have n2:=Cf ((u3:Int)*(u4:Int));rw[Rz] at m1 m2 n1 n2;rw[<-Int.natCast_mul] at m2 n2;have hR:AV.tup [lE (RY (p7 (nF a) (nF b))),.int .i64 (p7 (nF a) (nF b)).2]=if (eY (u1*u2) && eY ((u3*u4:Nat):Int))=true then .tup [lE ⟨u1*u2,u3*u4⟩,.int .i64 0] else .tup [lE Ou,.int .i64 4]:=by
  rw[hres];unfold EX;simp only;cases eY (u1*u2)<;>cases eY ((u3*u4:Nat):Int)<;>rfl
 generalize AV.tup [lE (RY (p7 (nF a) (nF b))),.int .i64 (p7 (nF a) (nF b)).2]=RES at *;rw[vH] at hR;clear hres hself hx cM x1 x2 y1 y2 y3 y4 z1 z2 fx1 fx3 gl1 gl2 la1 la2 lb1 lb2 ha0 hb0 g1 g2 ca cb ha hb;obtain⟨Mb,Ml,Mc,Mm,qM1,qM2,qM⟩:=fX ⟨u1*u2,u3*u4⟩;simp only at qM1 qM2;obtain⟨ab,al,ac,am,qa1,qa2,qa3⟩:=fX a;obtain⟨bb,bl,bc,bm,qb1,qb2,qb3⟩:=fX b;obtain⟨cb,cl,ead⟩:=eH (a.den:Int);obtain⟨db,dl,ebd⟩:=eH (b.den:Int);obtain⟨gb,gl,eg⟩:=eH (g:Int);obtain⟨hb,hl,eh⟩:=eH (h:Int);obtain⟨b1,l1,k1⟩:=eH u1;obtain⟨b2,l2,k2⟩:=eH u2;obtain⟨b3,l3,k3⟩:=eH (u3:Int);obtain⟨b4,l4,k4⟩:=eH (u4:Int);rw[qM1,qM2,qM] at hm;rw[qM1] at n1;rw[qM2] at n2;rw[qM] at hR;rw[k1,k2,qM1] at m1;rw[k3,k4,qM2] at m2;generalize eY (u1*u2)=f1 at *;generalize eY ((u3*u4:Nat):Int)=f2 at *;rw[qa3,ead] at dA;rw[qb3,ebd] at dB;rw[qa1,ebd,eg] at hG;rw[qb1,ead,eh] at hH;rw[qa1,eg,k1] at o1;rw[qb1,eh,k2] at o2;rw[ead,eh,k3] at o3;rw[ebd,eg,k4] at o4;rw[qa3,qb3];clear qa1 qa2 qa3 qb1 qb2 qb3 qM qM1 qM2 eg eh k1 k2 k3 k4 ead ebd;refine aD bI func130 rfl ?_;refine Rt ?_;refine dA.go ?_ ee (eD _ _);refine Rt ?_;refine dB.go ?_ ee (eD _ _);refine Rt ?_;refine hG.go ?_ bw (eD _ _);refine Rt ?_;refine hH.go ?_ bw (eD _ _);refine Rt ?_;refine o1.go ?_ bw (eD _ _);refine Rt ?_;refine o2.go ?_ bw (eD _ _);refine Rt ?_;refine aJ.pre bI [(0,0),(1,1),(2,2),(11,11),(12,12),(13,13),(14,14),(25,25),(26,26)] (mem':=[(0,.row 34 4 [.agg [.bool ab,.il 1 (bA al),.bool ac,.il 1 (bA am)]]),(1,.row 34 4 [.agg [.bool bb,.il 1 (bA bl),.bool bc,.il 1 (bA bm)]]),(2,.row 34 4 [.agg [.bool false,.nsl,.bool false,.nsl]]),(11,.row 32 2 [.agg [.bool ab,.il 1 (bA al)]]),(12,.row 32 2 [.agg [.bool cb,.il 1 (bA cl)]]),(13,.row 32 2 [.agg [.bool bb,.il 1 (bA bl)]]),(14,.row 32 2 [.agg [.bool db,.il 1 (bA dl)]]),(25,.row 32 2 [.agg [.bool gb,.il 1 (bA gl)]]),(26,.row 32 2 [.agg [.bool hb,.il 1 (bA hl)]])]) rfl ⟨aF 0 ee,aF 1 ee,aF 2 Yk,aF 11 M',aF 12 M',aF 13 M',aF 14 M',aF 25 M',aF 26 M',trivial⟩
  (.cons (.fz' (id:=35) (off:=0) (len:=2) (xs:=[.agg [.bool b1,.il 1 (bA l1)],.agg [.bool b2,.il 1 (bA l2)]]) (ys:=[.agg [.bool b1,.il 1 (bA l1)],.agg [.bool b2,.il 1 (bA l2)]]) rfl rfl (ZA 2) rfl bw) .nil) ?_
 refine m1.go ?_ (.cons (.il' bw) .nil) n1;cases f1 with
 | false=>
  refine Rt ?_;exact cN (r':=.tup [.agg [.bool false,.il 1 [],.bool false,.il 1 []],.int .i64 4]) (.tup' (.cons OY ax)) ⟨by rw[hR];rfl,rfl,rfl⟩
 | true=>
  refine Rt ?_;refine o3.go ?_ bw (eD _ _);refine Rt ?_;refine o4.go ?_ bw (eD _ _);refine Rt ?_;refine aJ.pre bI [(0,0),(1,1),(2,2),(11,11),(12,12),(13,13),(14,14),(25,25),(26,26),(40,40)] (mem':=[(0,.row 34 4 [.agg [.bool ab,.il 1 (bA al),.bool ac,.il 1 (bA am)]]),(1,.row 34 4 [.agg [.bool bb,.il 1 (bA bl),.bool bc,.il 1 (bA bm)]]),(2,.row 34 4 [.agg [.bool false,.nsl,.bool false,.nsl]]),(11,.row 32 2 [.agg [.bool ab,.il 1 (bA al)]]),(12,.row 32 2 [.agg [.bool cb,.il 1 (bA cl)]]),(13,.row 32 2 [.agg [.bool bb,.il 1 (bA bl)]]),(14,.row 32 2 [.agg [.bool db,.il 1 (bA dl)]]),(25,.row 32 2 [.agg [.bool gb,.il 1 (bA gl)]]),(26,.row 32 2 [.agg [.bool hb,.il 1 (bA hl)]]),(40,.row 32 2 [.agg [.bool Mb,.il 1 (bA Ml)]])]) rfl ⟨aF 0 ee,aF 1 ee,aF 2 Yk,aF 11 M',aF 12 M',aF 13 M',aF 14 M',aF 25 M',aF 26 M',aF 40 M',trivial⟩
   (.cons (.fz' (id:=49) (off:=0) (len:=2) (xs:=[.agg [.bool b3,.il 1 (bA l3)],.agg [.bool b4,.il 1 (bA l4)]]) (ys:=[.agg [.bool b3,.il 1 (bA l3)],.agg [.bool b4,.il 1 (bA l4)]]) rfl rfl (ZA 2) rfl bw) .nil) ?_
  refine m2.go ?_ (.cons (.il' bw) .nil) n2;cases f2 with
  | false=>
   refine Rt ?_;exact cN (r':=.tup [.agg [.bool false,.il 1 [],.bool false,.il 1 []],.int .i64 4]) (.tup' (.cons OY ax)) ⟨by rw[hR];rfl,rfl,rfl⟩
  | true=>
   refine Rt ?_;refine hm.go ?_ bw (.tup' (.cons (zT _ _ _ _) G'));refine Rt ?_;exact aA (.tup' (.cons (zT _ _ _ _) G')) ⟨by rw[hR];rfl,rfl,rfl⟩
end Go.Proofs.YthggfhnnkclooaaGreatDoor
namespace Go.Ax
open Go
theorem De:∀{l m:List bH},l.length≠m.length->eO l m=false
 | [],[],h=>absurd rfl h
 | [],_::_,_=>rfl
 | _::_,[],_=>rfl
 | a::l,b::m,h=>by
  rw[eO,De (l:=l) (m:=m) (su h),aBs]
theorem wA{b l:List Int}{k:Nat}(h:k<l.length):gB b (l.take (k+1))=gB b (l.take k)+eP b l[k]:=by
 unfold gB;rw[ZE h,Z4];rfl
theorem s6{b l:List Int}{k:Nat}(h:k<l.length):c9 b (l.take (k+1))=max (c9 b (l.take k)) (eP b l[k]):=by
 unfold c9;rw[ZE h,Z4];rfl
theorem pZ{b l:List Int}{k:Nat}(h:k<l.length)(hk:0<k):c9 b ((l.take (k+1)).drop 1)=max (c9 b ((l.take k).drop 1)) (eP b l[k]):=by
 rw[ZE h,aBk B'];simp[c9]
theorem nG{b:List Int}{M:Int}(hM:0<=M)(h:∀x∈b,0<=x/\x<=M)(q:Int):0<=eP b q/\eP b q<=M:=by
 unfold eP;rw[Y0];cases hq:b[q.toNat]? with
 | none=>simp;omega
 | some x=>exact h x (Y5 hq)
theorem pD(b:List Int):∀(l:List Int) (s:Int),l.foldl (λs k=>s+eP b k) s=s+gB b l
 | [],s=>by simp[gB]
 | a::r,s=>by
  simp only[Zh,gB];rw[pD b r,pD b r (0+eP b a)];simp[gB];omega
theorem jY{b:List Int}{M:Int}(hM:0<=M)(h:∀x∈b,0<=x/\x<=M):∀l:List Int,0<=gB b l/\gB b l<=l.length*M
 | []=>by simp[gB]
 | a::r=>by
  have h1:=jY hM h r;have h2:=nG hM h a;have e:gB b (a::r)=eP b a+gB b r:=by simp only[gB,Zh];rw[pD b r];simp[gB]
  rw[e];simp only[ZZ];have:((r.length+1:Nat):Int)*M=r.length*M+M:=by rw[Int.natCast_add,Int.add_mul];simp
  omega
theorem Fw(b:List Int){M:Int}(h:∀q,0<=eP b q/\eP b q<=M):∀(l:List Int) (s:Int),0<=s->s<=M->0<=l.foldl (λs k=>max s (eP b k)) s/\l.foldl (λs k=>max s (eP b k)) s<=M
 | [],s,h1,h2=>⟨h1,h2⟩
 | a::r,s,h1,h2=>by
  have:=h a;simp only[Zh];exact Fw b h r (max s (eP b a)) om om
theorem iK{b:List Int}{M:Int}(hM:0<=M)(h:∀x∈b,0<=x/\x<=M)(l:List Int):0<=c9 b l/\c9 b l<=M:=
 Fw b (nG hM h) l 0 om hM
theorem aJ.useApp{P:Program}{C:List (Nat × AV)}{F:FuncId}{args args':List AV}{mem:aR}{nx:Nat}{t:TypeId}{sz:Nat}{xs:List AV}{R:Nat->List AV->Prop}{K:AV->aR->Nat->Prop}(hΓ:∀p∈C,NN p.2)
  (h:aJ P C F args' [(0,.row t sz xs)] 1 λr m _=>∃(len:Nat) (ys:List AV),r = .sl 1 0 len/\m=[(1,.row t sz ys)]/\jR ys/\R len ys) (g:Nat) (hg:lk mem g=some (.row t sz xs)) (hx:jR xs) (hargs:iS [(g,.row t sz xs)] [(g,0)] args args')
  (hk:∀len ys,R len ys->FS g mem λrest=>K (.sl nx 0 len) ((nx,.row t sz ys)::rest) (nx+1)):aJ P C F args mem nx K:=by
 refine⟨λX D E w vs hD hm hv=>?_⟩;refine(aJ.use (K:=K) (nx:=nx) hΓ h [(g,0)] (m1:=[(g,.row t sz xs)]) (rest:=drop g mem) ⟨λp hp=>?_,λp hp=>dR hp,λp hp=>?_,λp hp q hq=>?_,sq⟩ (lD hm.nod) hargs (λp hp=>?_) sq (l7 ef) (λid i hl=>?_) ?_).run X D E w vs hD hm hv
 .simp at hp;subst hp;exact bR hg
 .by_cases hpg:p.1=g
  .left;have:=s4 hm.nod hp (bR hg) hpg;rw[this];simp
  .exact .inr (vR hp hpg)
 .simp at hp;subst hp;exact Ne.symm (r9 hm.nod hq)
 .simp at hp;subst hp;exact .inl ⟨g,t,sz,xs,xs,rfl,by simp[lk],by simp[lk],.same hx⟩
 .have:=bR hl;simp at this;omega
 .rintro r m n ⟨len,ys,rfl,rfl,hn,hR⟩ _;refine⟨[(1,nx)],.sl nx 0 len,[(nx,.row t sz ys)],nx+1,aB0 _,.sl 1 nx 0 len (by simp[lk]),λp hp=>?_,sq,l7 ef,λi id hl=>?_,λp hp q hq=>?_,wT.1 (hk len ys hR)⟩
  .simp at hp;subst hp;exact .inl ⟨1,t,sz,ys,ys,rfl,by simp[lk],by simp[lk],.same hn⟩
  .have:=bR hl;simp at this;obtain⟨rfl,rfl⟩:=this;exact .inr ⟨ZA _,ZA _,aAv _⟩
  .simp at hp;subst hp;have:=hD _ (hm.low q (dR hq));simp only;omega
def mV(x:iX):AV:=.agg [.il 4 (aQ x.vals),.bool x.many]
def cK(l:List iX):List AV:=l.map mV
theorem oQ(x:iX):NN (mV x):=.agg' (.cons (.il' (aX _)) ic)
theorem bW(l:List iX):jR (cK l):=λa ha=>by
 obtain⟨n,_,rfl⟩:=ZW.1 ha;exact oQ n
theorem sU(l:List iX):(cK l).length=l.length:=by rw[cK,aAC]
theorem mW(l:List iX)(i:Nat):(cK l)[i]? = (l[i]?).map mV:=by rw[cK,Zx]
def tO(lo:Int)(k:Nat):List bH:=(List.range k).map λi:Nat=>.mk 0 (lo+(i:Int)) [] []
theorem Bv(lo:Int)(k:Nat):tO lo (k+1)=tO lo k++[.mk 0 (lo+(k:Int)) [] []]:=by simp[tO,aCc]
theorem Eg(lo:Int)(k:Nat):(tO lo k).length=k:=by simp[tO]
theorem aJ.useNew{P:Program}{C:List (Nat × AV)}{F:FuncId}{args:List AV}{mem:aR}{nx:Nat}{t:TypeId}{sz len:Nat}{ys:List AV}{K:AV->aR->Nat->Prop}(hΓ:∀p∈C,NN p.2)
  (h:aJ P C F args [] 0 λr m n=>r = .sl 0 0 len/\m=[(0,.row t sz ys)]/\n=1) (ha:jR args) (hn:jR ys) (hk:K (.sl nx 0 len) ((nx,.row t sz ys)::mem) (nx+1)):aJ P C F args mem nx K:=by
 refine⟨λX D E w vs hD hm hv=>?_⟩;refine(aJ.use (K:=K) (nx:=nx) hΓ h [] (m1:=[]) (rest:=mem) ⟨(λp hp=>by cases hp),λp hp=>hp,λp hp=>.inr hp,(λp hp=>by cases hp),sq⟩ hm.nod (Dj ha) (λp hp=>by cases hp) sq (λi j k h=>by simp[lk] at h) (λid i h=>by simp[lk] at h) ?_).run X D E w vs hD hm hv;rintro r m n ⟨rfl,rfl,rfl⟩ _;refine⟨[(0,nx)],.sl nx 0 len,[(nx,.row t sz ys)],nx+1,aB0 _,.sl 0 nx 0 len (by simp[lk]),λp hp=>?_,sq,l7 ef,λi id hl=>?_,λp hp q hq=>?_,hk⟩
 .simp at hp;subst hp;exact .inl ⟨0,t,sz,ys,ys,rfl,by simp[lk],by simp[lk],.same hn⟩
 .have:=bR hl;simp at this;obtain⟨rfl,rfl⟩:=this;exact .inr ⟨aAA _,ZA _,aAv _⟩
 .simp at hp;subst hp;have:=hD _ (hm.low q hq);simp only;omega
theorem wQ{bs:List iX}(hb:∀b∈bs,b.vals.length<=1024/\∀v∈b.vals,jG v):∀(l:List Int) (a:List bH × Bool) (n:Nat),a.1.length<=n->(∀v∈a.1,jG v) ->
  (l.foldl (bY bs) a).1.length<=n+l.length*1024/\∀v∈(l.foldl (bY bs) a).1,jG v
 | [],a,n,h1,h2=>⟨su h1,h2⟩
 | q::r,a,n,h1,h2=>by
  have hq:(dT bs q).vals.length<=1024/\∀v∈(dT bs q).vals,jG v:=by
   unfold dT;rw[Y0];cases hc:bs[q.toNat]? with
   | none=>simp
   | some b=>exact hb b (Y5 hc)
  have hs:=sT (a.1++(dT bs q).vals);simp only[ZB] at hs;have:=wQ hb r (bY bs a q) (n+1024) (by simp only[bY];omega) (λv hv=>by
   have:=rW hv;rcases ZO.1 this with h|h
   .exact h2 v h
   .exact hq.2 v h)
  simp only[Zh,ZZ];refine⟨by have:=this.1;omega,this.2⟩
theorem KI{G β:Type}(f:β->G->β){l:List G}{k:Nat}(h:k<l.length)(a:β):(l.take (k+1)).foldl f a=f ((l.take k).foldl f a) l[k]:=by
 rw[ZE h,Z4];rfl
theorem KV{G β:Type}(f:β->G->β){l:List G}{k:Nat}(h:k<l.length)(hk:0<k)(a:β):((l.take (k+1)).drop 1).foldl f a=f (((l.take k).drop 1).foldl f a) l[k]:=by
 rw[ZE h,aBk B',Z4];rfl
theorem fE{G:Type}{P:List G->Prop}(h0:P [])(h1:∀(l:List G) (x:G),P l->P (l++[x]))(l:List G):P l:=by
 rw[<-List.reverse_reverse l]
 induction l.reverse with
 | nil=>exact h0
 | cons a r ih=>rw[aAY];exact h1 _ _ ih
structure lJ(i:Nat)(x:Nd):Prop where
 ok:tY x
 kind:0<=x.kind/\x.kind<=4
 kids:∀(j:Nat) (k:Int),x.kids[j]? = some k->0<=k/\k<i
 klen:x.kids.length<=65536
 num:d6 x=true
def F6(bs:List iX):Prop:=∀b∈bs,b.vals.length<=1024/\∀v∈b.vals,jG v
theorem cE{x:Nd}(h:d6 x=true):x.lo<=x.hi/\-4611686018427387904<=x.lo/\x.hi<=4611686018427387904/\x.hi<x.lo+1099511627776:=by
 unfold d6 at h;simp only[Y6,Zc] at h;exact⟨h.1.1.1.1,h.1.1.1.2,h.1.1.2,h.1.2⟩
theorem vY{rows:List (List bH)}{l:List bH}{r:List bH}(h:r∈iI rows l):∃r'∈rows,∃v∈l,r=r'++[v]:=by
 simp only[iI,aB7,ZW] at h;obtain⟨r',h1,v,h2,rfl⟩:=h;exact⟨r',h1,v,h2,rfl⟩
theorem wF(l:List bH):∀rows:List (List bH),(iI rows l).length=rows.length*l.length
 | []=>by simp[iI]
 | r::rs=>by
  have:=wF l rs;simp only[iI,aA0,ZB,aAC,ZZ,Nat.add_mul,Z6] at this |-;omega
theorem t7{bs:List iX}(hb:F6 bs)(k:Int):(dT bs k).vals.length<=1024/\∀v∈(dT bs k).vals,jG v:=by
 unfold dT;rw[Y0];cases h:bs[k.toNat]? with
 | none=>simp
 | some b=>exact hb b (Y5 h)
theorem ED{bs:List iX}(hb:F6 bs):∀(kids:List Int) (rows out:List (List bH)) (n:Nat),rows.length<=1024->(∀r∈rows,r.length<=n/\∀v∈r,jG v)->f7 bs kids rows=some out->out.length<=1024/\∀r∈out,r.length<=n+kids.length/\∀v∈r,jG v
 | [],rows,out,n,h1,h2,h=>by
  simp only[f7] at h;cases h;exact⟨h1,λr hr=>⟨by simpa using (h2 r hr).1,(h2 r hr).2⟩⟩
 | k::ks,rows,out,n,h1,h2,h=>by
  simp only[f7] at h;split at h
  .cases h
  .rename_i hc;rw[not_or] at hc;have hg:=t7 hb k;obtain⟨a,b⟩:=ED hb ks _ out (n+1) (by rw[wF];omega) (λr hr=>by
    obtain⟨r',h3,v,h4,rfl⟩:=vY hr;refine⟨by have:=(h2 r' h3).1;simp;omega,λu hu=>?_⟩;rcases ZO.1 hu with hu|hu
    .exact(h2 r' h3).2 u hu
    .simp at hu;rw[hu];exact hg.2 v h4) h
   exact⟨a,λr hr=>⟨by have:=(b r hr).1;simp;omega,(b r hr).2⟩⟩
theorem MB{name:List UInt8}(hn:name.length<=4294967296){r:List bH}(hr:r.length<=4294967296)(ho:∀v∈r,jG v):jG (dW name r):=by
 unfold dW;split
 .exact mJ oq oq sq hr (sB ho)
 .exact mJ oq oq hn hr (sB ho)
theorem FU{bs:List iX}:∀(l:List Int) (a:List bH × Bool),(a.2=false->a.1.length<=1024)->(l.foldl (bY bs) a).2=false->(l.foldl (bY bs) a).1.length<=1024
 | [],a,h,h2=>h h2
 | k::r,a,h,h2=>by
  refine FU r (bY bs a k) (λh3=>?_) h2;simp only[bY,aBr,aAZ] at h3 |-;omega
theorem Kz{x:Nd}{i:Nat}{bs:List iX}(hx:lJ i x)(hb:F6 bs):(dN x bs).vals.length<=1024/\∀v∈(dN x bs).vals,jG v:=by
 unfold dN;have hnum:=cE hx.num;split
 .exact⟨sq,λv hv=>by simp at hv;rw[hv];exact hx.ok.value⟩
 .split
  .split
   .simp
   .refine⟨by simp[iR];omega,λv hv=>?_⟩;simp only[iR,ZW,aBi] at hv;obtain⟨j,hj,rfl⟩:=hv;exact jF oq oq
  .split
   .unfold p9;split
    .simp
    .rename_i rows hr;obtain⟨h1,h2⟩:=ED hb x.kids [[]] rows 0 sq sq hr;refine⟨by have:=sT (rows.map (dW x.name));simp at this |-;omega,λv hv=>?_⟩;have:=rW hv;obtain⟨r,hr2,rfl⟩:=ZW.1 this;have h3:=h2 r hr2;have:=hx.klen;exact MB hx.ok.name om h3.2
   .generalize (if x.kind=4 then x.kids.drop 1 else x.kids)=ks;unfold mN;split
    .simp
    .rename_i hm;have hm:(ks.foldl (bY bs) ([],false)).2=false:=su hm
     exact⟨FU _ _ sq hm,(wQ hb _ ([],false) 0 sq sq).2⟩
theorem gP(l:List Nd):(aS l).length=l.length:=by
 refine fE (P:=λl=>(aS l).length=l.length) rfl (λl x ih=>?_) l;rw[jP];simp[ih]
theorem oB(l:List Nd):(∀(i:Nat) (x:Nd),l[i]? = some x->lJ i x)->F6 (aS l):=by
 refine fE (P:=λl=>(∀(i:Nat) (x:Nd),l[i]? = some x->lJ i x)->F6 (aS l)) (λ_ b hb=>by simp[aS] at hb) (λl x ih h=>?_) l;have h1:=ih λi y hy=>h i y (by
  have:=(Y4.1 hy).1;rw[ZR this];exact hy)
 have h2:=h l.length x sq;rw[jP];intro b hb;rcases ZO.1 hb with hb|hb
 .exact h1 b hb
 .simp at hb;rw[hb];exact Kz h2 h1
theorem Cz:∀(b l r:List Nd),cP b l=0->cP b (l++r)=cP (b++l) r
 | b,[],r,_=>sq
 | b,y::l,r,h=>by
  simp only[Z0,cP] at h |-;split at h
  .rename_i h1;exact absurd h h1
  .rename_i h1;rw[Y3 h1,Cz (b++[y]) l r h];simp
theorem jZ{l r:List Nd}(h:cP [] (l++r)=0):cP [] l=0:=by
 have key:∀(l b:List Nd),cP b (l++r)=0->cP b l=0:=by
  intro l
  induction l with
  | nil=>intro b _;rfl
  | cons y l ih=>
   intro b h;simp only[Z0,cP] at h |-;split at h
   .rename_i h1;exact absurd h h1
   .rename_i h1;rw[Y3 h1];exact ih _ h
 exact key l [] h
theorem Bk{l r:List Nd}{x:Nd}(h:cP [] l=0)(hs:iY l (bD l) (dD l) x≠0):cP [] (l++x::r)=iY l (bD l) (dD l) x:=by
 rw[Cz _ _ _ h];simp only[Zp,cP];rw[Y7 hs]
theorem oE:∀{l m:List bH},eO l m=true->l.length=m.length
 | [],[],_=>rfl
 | a::l,b::m,h=>by
  simp only[eO,Y6] at h;simp[oE h.2]
 | [],b::m,h=>by simp[eO] at h
 | a::l,[],h=>by simp[eO] at h
structure Gb(i:Nat)(x:Nd):Prop where
 kind:0<=x.kind/\x.kind<=4
 kids:∀(j:Nat) (k:Int),x.kids[j]? = some k->0<=k/\k<i
 num:d6 x=true
 klen:x.kind≠4->x.kids.length<=256
 bind:x.kind=4->x.kids.length=x.values.length+1
theorem nU{i:Nat}{x:Nd}(h:g9 i x=0):Gb i x:=by
 unfold g9 at h;split at h
 .omega
 .rename_i hf;split at h
  .rename_i h1;exact absurd h h1
  .split at h
   .omega
   .rename_i hn;have hn:d6 x=true:=su hn
    have hf:dS i x=true:=su hf
    unfold dS at hf;simp only[Y6,aAb,Zc] at hf;obtain⟨⟨⟨⟨⟨⟨hu,hk⟩,hki⟩,h2⟩,h3⟩,h4⟩,_⟩:=hf;refine⟨hk,pX.1 hki,hn,λhne=>?_,λhe=>om⟩;unfold kC at hu;simp only[Y6,aAb,Zc] at hu;rcases(show x.kind=0\/x.kind=1\/x.kind=2\/x.kind=3 by omega) with e|e|e|e
    .have:=hu.2;omega
    .have:=hu.2;omega
    .rcases h2 with h2|h2
     .omega
     .exact h2.1.1.2
    .rcases h3 with h3|h3
     .omega
     .exact h3.1
theorem gX{before:List Nd}{ls ss:List Int}{x:Nd}(h:iY before ls ss x=0):g9 before.length x=0/\f8 ls x<=256/\mF ss x<=1024/\(x.kind=4->jM before x=0):=by
 unfold iY at h;split at h
 .rename_i h1;exact absurd h h1
 .rename_i h1;split at h
  .omega
  .rename_i h2;rw[not_or] at h2;refine⟨su h1,om,om,λe=>?_⟩;rw[Y7 e] at h;exact h
theorem mG{G:Type}{l:List G}{n i:Nat}{x:G}(h:(l.take n)[i]? = some x):l[i]? = some x/\i<n:=by
 rw[Zb] at h;split at h
 .rename_i hi;exact⟨h,hi⟩
 .cases h
theorem MF{before:List Nd}{x:Nd}(hg:∀(j:Nat) (y:Nd),before[j]? = some y->lJ j y)(h:jM before x=0):x.values.length<=1024:=by
 unfold jM at h;simp only at h;split at h
 .omega
 .split at h
  .rename_i hs;have:=oE hs;have hgl:=oB (before.take ((x.kids.getD 0 0).toNat+1)) λi y hy=>hg i y (mG hy).1
   have:=(t7 hgl (x.kids.getD 0 0)).1;omega
  .omega
theorem NA{before:List Nd}{ls ss:List Int}{x:Nd}(hg:∀(j:Nat) (y:Nd),before[j]? = some y->lJ j y)(ho:tY x)(h:iY before ls ss x=0):lJ before.length x:=by
 obtain⟨h1,h2,h3,h4⟩:=gX h;have hn:=nU h1;refine⟨ho,hn.kind,hn.kids, ?_,hn.num⟩;by_cases e:x.kind=4
 .have:=hn.bind e;have:=MF hg (h4 e);omega
 .have:=hn.klen e;omega
theorem nI(ns:List Nd)(ho:∀x∈ns,tY x)(h:cP [] ns=0):∀(j:Nat) (x:Nd),ns[j]? = some x->lJ j x:=by
 refine fE (P:=λns=>(∀x∈ns,tY x)->cP [] ns=0->∀(j:Nat) (x:Nd),ns[j]? = some x->lJ j x) (λ_ _ j x hx=>by simp at hx) (λl x ih ho h=>?_) ns ho h;have h1:=jZ h;have ih:=ih (λy hy=>ho y (Zi _ hy)) h1;have hs:=iG [] l x h1;rw[h] at hs;simp only[Zp] at hs;have hg:=NA ih (ho x sq) hs.symm;intro j y hy;rcases ZL j l.length with hj|hj
 .rw[ZR hj] at hy;exact ih j y hy
 .rw[ZS hj] at hy;have e:j-l.length=0:=by
   have:=(Y4.1 hy).1;simp at this;omega
  rw[e] at hy;simp at hy;subst hy;obtain rfl:j=l.length:=om;exact hg
theorem JH{ls:List Int}{x:Nd}(h:∀y∈ls,0<=y/\y<=1024):0<=f8 ls x:=by
 have h1:=(jY om h x.kids).1;have h2:=(iK om h (eT x)).1;have h3:=(nG om h (x.kids.getD 0 0)).1;unfold f8;split
 .omega
 .split
  .omega
  .split
   .exact h1
   .split
    .omega
    .omega
theorem JO{ls:List Int}{x:Nd}(h:∀y∈ls,0<=y/\y<=1024):0<=mF ls x:=by
 have h1:=(jY om h x.kids).1;have h2:=(iK om h (eT x)).1;unfold mF;split
 .omega
 .split
  .omega
  .split
   .omega
   .exact h2
theorem jW(ns:List Nd)(h:cP [] ns=0):(∀y∈bD ns,0<=y/\y<=1024)/\(∀y∈dD ns,0<=y/\y<=1024):=by
 refine fE (P:=λns=>cP [] ns=0->(∀y∈bD ns,0<=y/\y<=1024)/\(∀y∈dD ns,0<=y/\y<=1024)) (λ_=>by simp[bD,dD]) (λl x ih h=>?_) ns h;have h1:=jZ h;obtain⟨i1,i2⟩:=ih h1;have hs:=iG [] l x h1;rw[h] at hs;simp only[Zp] at hs;obtain⟨_,h2,h3,_⟩:=gX hs.symm;rw[i7,nJ];have n1:=JH (x:=x) i1;have n2:=JO (x:=x) i2;constructor
 .intro y hy;rcases ZO.1 hy with hy|hy
  .exact i1 y hy
  .simp at hy;subst hy;omega
 .intro y hy;rcases ZO.1 hy with hy|hy
  .exact i2 y hy
  .simp at hy;subst hy;omega
theorem gI(l:List Nd):(bD l).length=l.length:=by
 refine fE (P:=λl=>(bD l).length=l.length) rfl (λl x ih=>?_) l;rw[i7];simp[ih]
theorem lW(l:List Nd):(dD l).length=l.length:=by
 refine fE (P:=λl=>(dD l).length=l.length) rfl (λl x ih=>?_) l;rw[nJ];simp[ih]
theorem Cb{a b:Int}(ha:0<=a)(hb:0<b):a.tdiv b<=a:=by
 rw[aAB ha];exact Int.ediv_le_self _ ha
theorem kQ{a b:Int}(ha:0<=a)(hb:0<b):0<=a.tmod b/\a.tmod b<b:=⟨aA3 _ ha,aAW _ hb⟩
theorem I6(k:Int)(hk:0<=k):jG (x5 k)/\bS (x5 k)<=2:=by
 have h4:=kQ hk (show (0:Int)<4 by omega);have hd:0<=k.tdiv 4:=aA4 hk om;have a:=kQ hd (show (0:Int)<9 by omega);have b:=kQ hd (show (0:Int)<2 by omega);have c:=kQ hd (show (0:Int)<3 by omega);unfold x5;split
 .exact⟨jF oq oq,by simp[bS,c7]⟩
 .split
  .exact⟨jF oq oq,by simp[bS,c7]⟩
  .split
   .refine⟨mJ oq oq ?_ sq (by simp[zO]),by simp[bS,c7]⟩;rcases(show ((k.tdiv 4).tmod 3).toNat=0\/((k.tdiv 4).tmod 3).toNat=1\/((k.tdiv 4).tmod 3).toNat=2 by omega) with h|h|h<;>rw[h]<;>simp
   .refine⟨mJ oq oq sq sq ?_,by simp[bS,c7]⟩;simp only[zO,and_true];exact jF oq oq
def yY:List (List UInt8):=[[97],[98],[99],[100]]
structure Nj(x:Nd):Prop where
 ok:tY x
 vals:x.values.length<=1024
 labels:∀s∈x.labels,s∈yY
 seq:x.kind=3->x.kids.length<=3
structure kH(ns:List Nd):Prop where
 valid:cP [] ns=0
 gen:∀x∈ns,Nj x
theorem o5{kind lo hi:Int}{name:List UInt8}{ws ks:List Int}{ls:List (List UInt8)}{vs:List bH}{v:bH}(h1:i64 kind)(h2:name.length<=1000)(h3:i64 lo)(h4:i64 hi)(h5:ws.length<=1000)(h6:∀w∈ws,i64 w)(h7:ls.length<=1000)(h8:∀s∈ls,s∈yY)
  (h9:vs.length<=1000) (h10:∀v∈vs,jG v/\bS v<=4294967296) (h11:ks.length<=1000) (h12:∀k∈ks,i64 k) (h13:jG v) (h14:bS v<=4294967296)
  (h15:kind=3->ks.length<=3:=by first|(intro h;exact absurd h om)|(intro _;omega)):Nj ⟨kind,name,lo,hi,ws,ls,vs,ks,v⟩:=
 ⟨⟨h1,by simp only;omega,h3,h4,by simp only;omega,h6,by simp only;omega,λs hs=>by
   have:=h8 s hs;simp[yY] at this;rcases this with rfl|rfl|rfl|rfl<;>simp,by simp only;omega,h10,by simp only;omega,h12,h13,h14⟩,by simp only;omega,h8,h15⟩
theorem J4(ns:List Nd)(ls ss:List Int)(m:Int):iY ns ls ss ⟨0,[],0,0,[],[],[],[],.mk 0 m [] []⟩=0:=by
 have hv:hZ (.mk 0 m [] [])=0:=by simp[hZ,cQ,d9,dL,oP,rT,An,bS,c7]
 have hf:dS (ns.length:Int) ⟨0,[],0,0,[],[],[],[],.mk 0 m [] []⟩=true:=by simp[dS,kC,uU,gH]
 have hn:g9 (ns.length:Int) ⟨0,[],0,0,[],[],[],[],.mk 0 m [] []⟩=0:=by
  unfold g9;rw[Y3 (by rw[hf];simp)];simp[qA,fU,hv,d6]
 unfold iY;rw[Y3 (by rw[hn];simp)];simp[f8,mF,bS,c7]
theorem DM{bs:List iX}{ss:List Int}:∀(kids:List Int) (rows out:List (List bH)) (S:Int),(∀r∈rows,(c7 r:Int)<=S)->(∀k∈kids,∀v∈(dT bs k).vals,(bS v:Int)<=eP ss k)->f7 bs kids rows=some out->∀r∈out,(c7 r:Int)<=S+gB ss kids
 | [],rows,out,S,h1,_,h=>by
  simp only[f7] at h;cases h;intro r hr;simpa[gB] using h1 r hr
 | k::ks,rows,out,S,h1,h2,h=>by
  simp only[f7] at h;split at h
  .cases h
  .have e:gB ss (k::ks)=eP ss k+gB ss ks:=by simp only[gB,Zh];rw[pD ss ks];simp[gB]
   have ih:=DM ks _ out (S+eP ss k) (λr hr=>by
    obtain⟨r',h3,v,h4,rfl⟩:=vY hr;have a:=h1 r' h3;have b:=h2 k sq v h4;rw[zA];omega) (λk' hk'=>h2 k' (by simp[hk'])) h
   intro r hr;have:=ih r hr;omega
theorem L1{bs:List iX}:∀(l:List Int) (a:List bH × Bool),∀v∈(l.foldl (bY bs) a).1,v∈a.1\/∃k∈l,v∈(dT bs k).vals
 | [],a,v,hv=>.inl hv
 | k::r,a,v,hv=>by
  rcases L1 r (bY bs a k) v hv with h|⟨k',h1,h2⟩
  .simp only[bY] at h;rcases ZO.1 (rW h) with h|h
   .exact .inl h
   .exact .inr ⟨k,sq,h⟩
  .exact .inr ⟨k',by simp[h1],h2⟩
theorem pF{ss:List Int}:∀(l:List Int) (s:Int) (k:Int),k∈l->eP ss k<=l.foldl (λs k=>max s (eP ss k)) s/\s<=l.foldl (λs k=>max s (eP ss k)) s
 | a::r,s,k,h=>by
  have mono:∀(l:List Int) (s:Int),s<=l.foldl (λs k=>max s (eP ss k)) s:=by
   intro l
   induction l with
   | nil=>intro s;simp
   | cons b l ih=>intro s;have:=ih (max s (eP ss b));simp only[Zh];omega
  simp only[Zh];rcases ZC.1 h with rfl|h
  .have:=mono r (max s (eP ss k));omega
  .have:=pF (ss:=ss) r (max s (eP ss a)) k h;omega
theorem Ks{x:Nd}{bs:List iX}{ss:List Int}(hkd:0<=x.kind/\x.kind<=4)(hb:∀k∈x.kids,∀v∈(dT bs k).vals,(bS v:Int)<=eP ss k):∀v∈(dN x bs).vals,(bS v:Int)<=mF ss x:=by
 intro v hv;unfold dN at hv;split at hv
 .rename_i h0;simp at hv;subst hv;unfold mF;rw[Y7 h0];omega
 .rename_i h0;split at hv
  .rename_i h1;split at hv
   .simp at hv
   .simp only[iR,ZW] at hv;obtain⟨j,_,rfl⟩:=hv;unfold mF;rw[Y3 h0,Y7 h1];simp[bS,c7]
  .rename_i h1;split at hv
   .rename_i h3;unfold p9 at hv;split at hv
    .simp at hv
    .rename_i rows hr;obtain⟨r,hr2,rfl⟩:=ZW.1 (rW hv);have:=DM x.kids [[]] rows 0 (by simp[c7]) hb hr r hr2;have e:bS (dW x.name r)=1+c7 r:=by unfold dW;split<;>simp[bS]
     unfold mF;rw[Y3 h0,Y3 h1,Y7 h3,e];omega
   .rename_i h3;have key:∀ks:List Int,(∀k∈ks,k∈x.kids)->v∈(mN bs ks).vals->(bS v:Int)<=c9 ss ks:=by
     intro ks hks hv;unfold mN at hv;split at hv
     .simp at hv
     .rcases L1 ks ([],false) v hv with h|⟨k,h1,h2⟩
      .simp at h
      .have:=hb k (hks k h1) v h2;have:=(pF (ss:=ss) ks 0 k h1).1;unfold c9;omega
    have:(bS v:Int)<=c9 ss (eT x):=by
     unfold eT;by_cases h4:x.kind=4
     .rw[Y7 h4] at hv;rw[Y3 om];exact key _ (λk hk=>Zn hk) hv
     .rw[Y3 h4] at hv;by_cases h2:x.kind=2
      .rw[Y7 h2];exact key _ (λk hk=>hk) hv
      .omega
    unfold mF;rw[Y3 h0,Y3 h1,Y3 h3];omega
theorem JY{bs:List iX}{b:iX}{k:Int}(hk:0<=k):(k<bs.length->dT (bs++[b]) k=dT bs k)/\(k=bs.length->dT (bs++[b]) k=b):=by
 unfold dT;constructor
 .intro h;rw[Y0,Y0,ZR om]
 .intro h;rw[Y0,ZS om,show k.toNat-bs.length=0 by omega];rfl
theorem ON{bs:List Int}{b:Int}{k:Int}(hk:0<=k):(k<bs.length->eP (bs++[b]) k=eP bs k)/\(k=bs.length->eP (bs++[b]) k=b):=by
 unfold eP;constructor
 .intro h;rw[Y0,Y0,ZR om]
 .intro h;rw[Y0,ZS om,show k.toNat-bs.length=0 by omega];rfl
theorem KM(ns:List Nd)(hg:∀(j:Nat) (x:Nd),ns[j]? = some x->lJ j x):∀(k:Int),0<=k->k<ns.length->∀v∈(dT (aS ns) k).vals,(bS v:Int)<=eP (dD ns) k:=by
 refine fE (P:=λns=>(∀(j:Nat) (x:Nd),ns[j]? = some x->lJ j x)->∀(k:Int),0<=k->k<ns.length->∀v∈(dT (aS ns) k).vals,(bS v:Int)<=eP (dD ns) k) (λ_ k h1 h2=>by simp at h2;omega) (λl x ih hg k hk0 hk v hv=>?_) ns hg;have hgl:∀(j:Nat) (y:Nd),l[j]? = some y->lJ j y:=λj y hy=>hg j y (by
  have:=(Y4.1 hy).1;rw[ZR this];exact hy)
 have ih:=ih hgl;have hx:=hg l.length x sq;rw[jP] at hv;rw[nJ];have e1:=JY (bs:=aS l) (b:=dN x (aS l)) hk0;have e2:=ON (bs:=dD l) (b:=mF (dD l) x) hk0;rw[gP] at e1;rw[lW] at e2;rcases(show k<l.length\/k=l.length by simp at hk;omega) with h|h
 .rw[e1.1 h] at hv;rw[e2.1 h];exact ih k hk0 h v hv
 .rw[e1.2 h] at hv;rw[e2.2 h];refine Ks hx.kind (λq hq u hu=>?_) v hv;obtain⟨j,hj⟩:=Zl hq;obtain⟨q0,q1⟩:=hx.kids j q hj;exact ih q q0 q1 u hu
theorem II(ns:List Nd)(ho:∀x∈ns,tY x)(h:cP [] ns=0)(k:Int)(h0:0<=k)(h1:k<ns.length):∀v∈(dT (aS ns) k).vals,bS v<=1024:=by
 intro v hv;have a:=KM ns (nI ns ho h) k h0 h1 v hv;have b:=(nG (M:=1024) om (jW ns h).2 k).2;omega
theorem kH.ok{ns:List Nd}(h:kH ns):∀x∈ns,tY x:=λx hx=>(h.gen x hx).ok
theorem kH.good{ns:List Nd}(h:kH ns):∀(j:Nat) (x:Nd),ns[j]? = some x->lJ j x:=nI ns h.ok h.valid
theorem kH.snoc{ns:List Nd}{x:Nd}(h:kH ns)(hl:ns.length<=1000)(hx:Nj x)(hv:eX (ns++[x])=0):kH (ns++[x]):=by
 unfold eX at hv;rw[Y3 B'] at hv;refine⟨hv,λy hy=>?_⟩;rcases ZO.1 hy with hy|hy
 .exact h.gen y hy
 .simp at hy;rw[hy];exact hx
theorem kH.leaf{ns:List Nd}(h:kH ns){m:Int}(hm:i64 m):kH (ns++[⟨0,[],0,0,[],[],[],[],.mk 0 m [] []⟩]):=by
 refine⟨?_,λy hy=>?_⟩
 .rw[iG [] ns _ h.valid];exact J4 _ _ _ _
 .rcases ZO.1 hy with hy|hy
  .exact h.gen y hy
  .simp at hy;rw[hy];have h0:i64 0:=oq
   exact o5 h0 sq h0 h0 sq sq sq sq sq sq sq sq (jF h0 hm) (by simp[bS,c7])
def fZ(a b:List bH):List bH:=match a,b with
 | [],b=>b
 | a,[]=>a
 | x::l,y::m=>if c8 x y<0 then x::fZ l (y::m) else if c8 x y=0 then x::fZ l m else y::fZ (x::l) m
termination_by a.length+b.length
theorem DB(b:List bH):fZ [] b=b:=by rw[fZ]
theorem H0(a:List bH):fZ a []=a:=by
 cases a with
 | nil=>rw[fZ]
 | cons x l=>rw[fZ];simp
theorem Ii(x y:bH)(l m:List bH):fZ (x::l) (y::m)=if c8 x y<0 then x::fZ l (y::m) else if c8 x y=0 then x::fZ l m else y::fZ (x::l) m:=by rw[fZ]
mutual
theorem Ib:∀(a b:bH),c8 a b=0->a=b
 | .mk k n s ks,.mk k' n' s' ks',h=>by
  simp only[c8,andThen] at h;split at h
  .rename_i h1;split at h
   .rename_i h2;split at h
    .rename_i h3;have e1:k=k':=Decidable.byContradiction λe=>v7 e h1
     have e2:n=n':=Decidable.byContradiction λe=>v7 e h2
     rw[e1,e2,pE h3,QM ks ks' h]
    .rename_i h3;exact absurd h h3
   .rename_i h2;exact absurd h h2
  .rename_i h1;exact absurd h h1
theorem QM:∀(l m:List bH),g7 l m=0->l=m
 | [],[],_=>rfl
 | [],_::_,h=>by simp[g7] at h
 | _::_,[],h=>by simp[g7] at h
 | a::l,b::m,h=>by
  simp only[g7,andThen] at h;split at h
  .rename_i h1;rw[Ib a b h1,QM l m h]
  .rename_i h1;exact absurd h h1
end
theorem DW(a:bH):¬c8 a a<0:=by rw[(nC a).refl];omega
theorem Gc:∀{a b:List bH},mS a->mS b->(∀x,x∈a↔x∈b)->a=b
 | [],[],_,_,_=>rfl
 | [],y::m,_,_,h=>by have:=(h y).2 sq;simp at this
 | x::l,[],_,_,h=>by have:=(h x).1 sq;simp at this
 | x::l,y::m,h1,h2,h=>by
  unfold mS at h1 h2;rw[Zw] at h1 h2;have e:x=y:=by
   rcases ZC.1 ((h x).1 sq) with e|e
   .exact e
   .rcases ZC.1 ((h y).2 sq) with e'|e'
    .exact e'.symm
    .have a1:=h2.1 x e;have a2:=h1.1 y e';have:=I1 a1 (by omega:c8 x y<=0);exact absurd this (DW y)
  subst e;congr 1;refine Gc h1.2 h2.2 λz=>?_
  constructor
  .intro hz;rcases ZC.1 ((h z).1 (by simp[hz])) with e|e
   .subst e;exact absurd (h1.1 z hz) (DW z)
   .exact e
  .intro hz;rcases ZC.1 ((h z).2 (by simp[hz])) with e|e
   .subst e;exact absurd (h2.1 z hz) (DW z)
   .exact e
theorem I7:∀(l:List bH) (v x:bH),x∈uK l v↔x=v\/x∈l
 | [],v,x=>by simp[uK,eZ]
 | a::r,v,x=>by
  rw[FV];split
  .split
   .rename_i h;have e:=Ib a v (su h);subst e;constructor
    .intro h;exact .inr h
    .rintro(rfl|h)
     .simp
     .exact h
   .simp
  .simp only[ZC,I7 r v x];constructor
   .rintro(h|h|h)
    .exact .inr (.inl h)
    .exact .inl h
    .exact .inr (.inr h)
   .rintro(h|h|h)
    .exact .inr (.inl h)
    .exact .inl h
    .exact .inr (.inr h)
theorem pC(l:List bH)(x:bH):x∈fR l↔x∈l:=by
 refine fE (P:=λl=>x∈fR l↔x∈l) (by simp[fR]) (λl a ih=>?_) l;rw[pQ,I7,ih];simp only[ZO,aA9];constructor
 .rintro(h|h)
  .exact .inr h
  .exact .inl h
 .rintro(h|h)
  .exact .inr h
  .exact .inl h
theorem Gr{l:List bH}(h:mS l):fR l=l:=Gc (wL l) h (pC l)
theorem pH(a b:List bH)(x:bH):x∈fZ a b↔x∈a\/x∈b:=by
 fun_induction fZ a b with
 | case1 b=>simp
 | case2 a h=>simp
 | case3 y l z m h ih=>simp only[ZC,ih];simp only[or_assoc]
 | case4 y l z m h1 h2 ih=>
  have:=Ib y z h2;subst this;simp only[ZC,ih];constructor
  .rintro(h|h|h)
   .exact .inl (.inl h)
   .exact .inl (.inr h)
   .exact .inr (.inr h)
  .rintro((h|h)|(h|h))
   .exact .inl h
   .exact .inr (.inl h)
   .exact .inl h
   .exact .inr (.inr h)
 | case5 y l z m h1 h2 ih=>
  simp only[ZC,ih];constructor
  .rintro(h|(h|h)|h)
   .exact .inr (.inl h)
   .exact .inl (.inl h)
   .exact .inl (.inr h)
   .exact .inr (.inr h)
  .rintro((h|h)|(h|h))
   .exact .inr (.inl (.inl h))
   .exact .inr (.inl (.inr h))
   .exact .inl h
   .exact .inr (.inr h)
theorem Ci(a b:List bH):mS a->mS b->mS (fZ a b):=by
 fun_induction fZ a b with
 | case1 b=>intro _ h;exact h
 | case2 a h=>intro h _;exact h
 | case3 y l z m h ih=>
  intro h1 h2;unfold mS at h1 h2 |-;have h1':=Zw.1 h1;have h2':=Zw.1 h2;refine Zw.2 ⟨λx hx=>?_,ih h1'.2 h2⟩;rcases(pH _ _ _).1 hx with hx|hx
  .exact h1'.1 x hx
  .rcases ZC.1 hx with rfl|hx
   .exact h
   .have:=h2'.1 x hx;exact I1 h om
 | case4 y l z m hn he ih=>
  intro h1 h2;unfold mS at h1 h2 |-;have h1':=Zw.1 h1;have h2':=Zw.1 h2;have:=Ib y z he;subst this;refine Zw.2 ⟨λx hx=>?_,ih h1'.2 h2'.2⟩;rcases(pH _ _ _).1 hx with hx|hx
  .exact h1'.1 x hx
  .exact h2'.1 x hx
 | case5 y l z m hn he ih=>
  intro h1 h2;unfold mS at h1 h2 |-;have h1':=Zw.1 h1;have h2':=Zw.1 h2;have hzy:=Lz (a:=y) (b:=z) om;refine Zw.2 ⟨λx hx=>?_,ih h1 h2'.2⟩;rcases(pH _ _ _).1 hx with hx|hx
  .rcases ZC.1 hx with rfl|hx
   .exact hzy
   .have:=h1'.1 x hx;exact I1 hzy om
  .exact h2'.1 x hx
theorem IN{a b:List bH}(h1:mS a)(h2:mS b):fZ a b=fR (a++b):=
 Gc (Ci a b h1 h2) (wL _) λx=>by rw[pH,pC,ZO]
theorem DC:∀(r l:List Nd),∃m,aS (l++r)=aS l++m
 | [],l=>⟨[],sq⟩
 | x::r,l=>by
  obtain⟨m,hm⟩:=DC r (l++[x]);refine⟨dN x (aS l)::m, ?_⟩;have e:l++x::r=l++[x]++r:=sq
  rw[e,hm,jP];simp
theorem Q7{a b:List iX}{k:Int}(h0:0<=k)(h:k<a.length):dT (a++b) k=dT a k:=by
 unfold dT;rw[Y0,Y0,ZR om]
theorem kU{ns:List Nd}{n:Nat}{k:Int}(h0:0<=k)(h:k<n)(hn:n<=ns.length):dT (aS (ns.take n)) k=dT (aS ns) k:=by
 obtain⟨m,hm⟩:=DC (ns.drop n) (ns.take n);rw[List.take_append_drop] at hm;rw[hm,Q7 h0 (by rw[gP,ZQ];omega)]
theorem DU{b1 b2:List iX}{l:List Int}(h:∀k∈l,dT b1 k=dT b2 k):mN b1 l=mN b2 l:=by
 have:∀(l:List Int) (a:List bH × Bool),(∀k∈l,dT b1 k=dT b2 k)->l.foldl (bY b1) a=l.foldl (bY b2) a:=by
  intro l
  induction l with
  | nil=>intro a _;rfl
  | cons k r ih=>
   intro a h;simp only[Zh];have e:bY b1 a k=bY b2 a k:=by unfold bY;rw[h k sq]
   rw[e];exact ih _ λq hq=>h q (by simp[hq])
 unfold mN;rw[this l _ h]
theorem B6{b1 b2:List iX}:∀(l:List Int) (rows:List (List bH)),(∀k∈l,dT b1 k=dT b2 k)->f7 b1 l rows=f7 b2 l rows
 | [],rows,_=>rfl
 | k::r,rows,h=>by
  simp only[f7,h k sq];split
  .rfl
  .exact B6 r _ λq hq=>h q (by simp[hq])
theorem Br{b1 b2:List iX}{x:Nd}(h:∀k∈x.kids,dT b1 k=dT b2 k):dN x b1=dN x b2:=by
 unfold dN;split
 .rfl
 .split
  .rfl
  .split
   .unfold p9;rw[B6 x.kids _ h]
   .split
    .exact DU λk hk=>h k (Zn hk)
    .exact DU h
theorem DL{ns:List Nd}(hg:∀(j:Nat) (x:Nd),ns[j]? = some x->lJ j x){i:Nat}{x:Nd}(hx:ns[i]? = some x):dT (aS ns) i=dN x (aS ns):=by
 obtain⟨hi,he⟩:=Y4.1 hx;have e1:dT (aS (ns.take (i+1))) i=dT (aS ns) i:=kU om om om;rw[<-e1,ZE hi,jP,he];rw[(JY (b:=dN x (aS (ns.take i))) (show (0:Int)<=i by omega)).2 (by rw[gP,ZQ];omega)];refine Br λk hk=>?_
 obtain⟨j,hj⟩:=Zl hk;obtain⟨h0,h1⟩:=(hg i x hx).kids j k hj;exact kU h0 h1 om
theorem BN:∀{a b:List bH} {x y:bH},a.length=b.length->g7 (a++[x]) (b++[y])=andThen (g7 a b) (c8 x y)
 | [],[],x,y,_=>by
  simp only[Zp,g7,andThen];split
  .rename_i h;rw[h];rfl
  .rfl
 | [],_::_,_,_,h=>by simp at h
 | _::_,[],_,_,h=>by simp at h
 | a::l,b::m,x,y,h=>by
  simp only[Z0,g7];rw[BN (su h)];unfold andThen;repeat' split
  all_goals first|rfl|omega
def Pf(n:Nat)(rows:List (List bH)):Prop:=(∀r∈rows,r.length=n)/\rows.Pairwise λa b=>g7 a b<0
theorem Np{n:Nat}{rows:List (List bH)}{l:List bH}(h:Pf n rows)(hl:mS l):Pf (n+1) (iI rows l):=by
 obtain⟨h1,h2⟩:=h;refine⟨λr hr=>?_, ?_⟩
 .obtain⟨r',h3,v,_,rfl⟩:=vY hr;simp[h1 r' h3]
 .unfold iI
  induction rows with
  | nil=>simp
  | cons a rs ih=>
   rw[Zw] at h2;rw[aA0,List.pairwise_append];refine⟨?_,ih (λr hr=>h1 r (by simp[hr])) h2.2, ?_⟩
   .rw[aB4];refine hl.imp fun {x y} hxy=>?_
    rw[BN rfl,(Bg a).refl];simpa[andThen] using hxy
   .intro p hp q hq;obtain⟨v,_,rfl⟩:=ZW.1 hp;obtain⟨r',h3,u,_,rfl⟩:=vY (rows:=rs) (l:=l) hq;have:=h2.1 r' h3;rw[BN (by rw[h1 a sq,h1 r' (by simp[h3])])];unfold andThen;split
    .omega
    .exact this
theorem FE{bs:List iX}(hb:∀b∈bs,mS b.vals):∀(kids:List Int) (n:Nat) (rows out:List (List bH)),Pf n rows->f7 bs kids rows=some out->Pf (n+kids.length) out
 | [],n,rows,out,h,h2=>by
  simp only[f7] at h2;cases h2;exact h
 | k::ks,n,rows,out,h,h2=>by
  simp only[f7] at h2;split at h2
  .cases h2
  .have hs:mS (dT bs k).vals:=by
    unfold dT;rw[Y0];cases e:bs[k.toNat]? with
    | none=>simp[mS]
    | some b=>exact hb b (Y5 e)
   have:=FE hb ks (n+1) _ out (Np h hs) h2;simp only[ZZ];rw[show n+(ks.length+1)=n+1+ks.length by omega];exact this
theorem QH(name:List UInt8)(a b:List bH):c8 (dW name a) (dW name b)=g7 a b:=by
 unfold dW;split<;>simp[c8,(lK _).refl,(rN _).refl,andThen]
theorem PI{n:Nat}{rows:List (List bH)}(name:List UInt8)(h:Pf n rows):mS (rows.map (dW name)):=by
 unfold mS;rw[aB4];exact h.2.imp fun {a b} h=>by rw[QH];exact h
theorem NX(lo hi:Int):mS (iR lo hi):=by
 unfold mS iR;rw[aB4];refine List.pairwise_lt_range.imp fun {i j} h=>?_
 rw[Og rfl om];rw[Y7 om];omega
theorem M4{x:Nd}{bs:List iX}:mS (dN x bs).vals:=by
 unfold dN;split
 .simp[mS]
 .split
  .split
   .simp[mS]
   .exact NX _ _
  .split
   .unfold p9;split
    .simp[mS]
    .exact wL _
   .generalize (if x.kind=4 then x.kids.drop 1 else x.kids)=ks;unfold mN;split
    .simp[mS]
    .have:∀(l:List Int) (a:List bH × Bool),mS a.1->mS (l.foldl (bY bs) a).1:=by
      intro l
      induction l with
      | nil=>intro a h;exact h
      | cons k r ih=>intro a _;exact ih _ (wL _)
     exact this _ _ (by simp[mS])
theorem DZ(ns:List Nd):∀b∈aS ns,mS b.vals:=by
 refine fE (P:=λns=>∀b∈aS ns,mS b.vals) (by simp[aS]) (λl x ih=>?_) ns;rw[jP];intro b hb;rcases ZO.1 hb with hb|hb
 .exact ih b hb
 .simp at hb;rw[hb];exact M4
theorem Sj{bs:List iX}(hb:∀b∈bs,mS b.vals)(k:Int):mS (dT bs k).vals:=by
 unfold dT;rw[Y0];cases h:bs[k.toNat]? with
 | none=>simp[mS]
 | some b=>exact hb b (Y5 h)
theorem M7{bs:List iX}(hb:∀b∈bs,mS b.vals){x:Nd}{rows:List (List bH)}(h:f7 bs x.kids [[]]=some rows):p9 bs x=⟨rows.map (dW x.name),false⟩:=by
 unfold p9;rw[h];simp only;rw[Gr (PI _ (FE hb x.kids 0 [[]] rows ⟨sq,sq⟩ h))]
def rowAt:List (List bH)->Nat->List bH
 | [],_=>[]
 | l::r,k=>rowAt r (k/l.length)++(l[k%l.length]?).toList
def rC:List (List bH)->List (List bH)
 | []=>[[]]
 | l::r=>iI (rC r) l
def kP:List (List bH)->Nat
 | []=>1
 | l::r=>kP r*l.length
theorem BH:∀ls:List (List bH),(rC ls).length=kP ls
 | []=>rfl
 | l::r=>by rw[rC,wF,kP,BH r]
theorem F4(l:List bH):∀(rows:List (List bH)) (k:Nat) (a:List bH) (v:bH),rows[k/l.length]? = some a->l[k%l.length]? = some v->(iI rows l)[k]? = some (a++[v])
 | [],k,a,v,h,_=>by simp at h
 | r::rs,k,a,v,h,hv=>by
  have hpos:0<l.length:=by
   rcases ZF l.length with h0|h0
   .have:l=[]:=aAs.1 h0;subst this;simp at hv
   .exact h0
  unfold iI;rw[aA0];rcases ZL k l.length with hk|hk
  .rw[ZR (su hk)];rw[aAh hk] at h;rw[Zt hk] at hv;simp at h;subst h;simp[hv]
  .rw[ZS (su hk),aAC];have e1:k/l.length=(k-l.length)/l.length+1:=by
    conv=>lhs;rw[show k=(k-l.length)+l.length by omega]
    exact Nat.add_div_right _ hpos
   have e2:k%l.length=(k-l.length)%l.length:=(Nat.mod_eq_sub_mod hk)
   rw[e1] at h;rw[e2] at hv;exact F4 l rs (k-l.length) a v (su h) hv
theorem Fy:∀(ls:List (List bH)) (k:Nat),k<kP ls->(rC ls)[k]? = some (rowAt ls k)
 | [],k,h=>by
  simp[kP] at h;subst h;rfl
 | l::r,k,h=>by
  simp only[kP] at h;have hpos:0<l.length:=by
   rcases ZF l.length with h0|h0
   .rw[h0] at h;simp at h
   .exact h0
  have h1:k/l.length<kP r:=Nat.div_lt_of_lt_mul (by rw[ZV];exact h);have h2:=Zr k hpos;have e:=Yz h2;rw[rC,rowAt,e];exact F4 l _ k _ _ (Fy r _ h1) e
theorem FX{bs:List iX}:∀(kids:List Int) (ls:List (List bH)),kP ls<=1024 ->
  f7 bs kids (rC ls)=if (kids.foldl (λ(a:Nat × Bool) k=>(a.1*(dT bs k).vals.length,a.2 || (dT bs k).many || decide (1024<a.1*(dT bs k).vals.length))) (kP ls,false)).2 then none
   else some (rC (kids.reverse.map (λk=>(dT bs k).vals)++ls))
 | [],ls,h=>by simp[f7]
 | k::r,ls,h=>by
  have stay:∀(l:List Int) (n:Nat),(l.foldl (λ(a:Nat × Bool) k=>(a.1*(dT bs k).vals.length,a.2 || (dT bs k).many || decide (1024<a.1*(dT bs k).vals.length))) (n,true)).2=true:=by
   intro l
   induction l with
   | nil=>intro n;rfl
   | cons q l ih=>intro n;simp only[Zh,Bool.true_or];exact ih _
  simp only[f7,Zh,BH,aBz];by_cases hc:(dT bs k).many=true\/1024<kP ls*(dT bs k).vals.length
  .have e:((dT bs k).many || decide (1024<kP ls*(dT bs k).vals.length))=true:=su hc
   rw[Y7 hc,e,Y7 (stay _ _)]
  .have e:((dT bs k).many || decide (1024<kP ls*(dT bs k).vals.length))=false:=by
    rw[not_or] at hc;simp at hc |-;exact hc
   rw[Y3 hc,e];rw[not_or] at hc;have:=FX (bs:=bs) r ((dT bs k).vals::ls) (by simp only[kP];omega);simp only[rC,kP] at this;rw[this];simp[List.append_assoc]
structure Ws(x:Nd):Prop where
 ok:tY x
 rng:x.lo<=x.hi/\-4611686018427387904<=x.lo/\x.hi<=4611686018427387904/\x.hi<x.lo+1099511627776
 klen:x.kids.length<=2000
 kl2:x.kind=2->x.kids.length<=1000
 ch:x.kind=2->1<=x.kids.length/\(x.labels.length=0\/x.labels.length=x.kids.length)
theorem pU(ns:List Nd)(h:cP [] ns=0):∀(j:Nat) (x:Nd),ns[j]? = some x->g9 j x=0:=by
 refine fE (P:=λns=>cP [] ns=0->∀(j:Nat) (x:Nd),ns[j]? = some x->g9 j x=0) (λ_ j x hx=>by simp at hx) (λl x ih h=>?_) ns h;have h1:=jZ h;have ih:=ih h1;have hs:=iG [] l x h1;rw[h] at hs;simp only[Zp] at hs;obtain⟨hg,-,-,-⟩:=gX hs.symm;intro j y hy;rcases ZL j l.length with hj|hj
 .rw[ZR hj] at hy;exact ih j y hy
 .rw[ZS hj] at hy;have e:j-l.length=0:=by
   have:=(Y4.1 hy).1;simp at this;omega
  rw[e] at hy;simp at hy;subst hy;rw[show j=l.length by omega];exact hg
structure Yx(LB:List (List UInt8))(x:Nd):Prop where
 opt:Ws x
 lab:∀s∈x.labels,s∈LB
 ll:x.labels.length<=1000
theorem Az{bs:List iX}:∀(l:List Int) (a:List bH × Bool),a.2=true->(l.foldl (bY bs) a).2=true
 | [],_,h=>h
 | k::r,a,h=>Az r _ (by simp[bY,h])
theorem Af{l:List bH}(h:l≠[]):fR l≠[]:=by
 cases l with
 | nil=>exact absurd rfl h
 | cons a r=>exact List.ne_nil_of_mem ((pC (a::r) a).2 sq)
theorem Hl{bs:List iX}:∀(l:List Int) (a:List bH × Bool),a.1≠[]->(l.foldl (bY bs) a).1≠[]
 | [],_,h=>h
 | k::r,a,h=>Hl r _ (Af (by simp[h]))
theorem VL{bs:List iX}{l:List Int}(hl:l≠[])(h:∀k∈l,(dT bs k).many=false->(dT bs k).vals≠[])(hm:(mN bs l).many=false):(mN bs l).vals≠[]:=by
 unfold mN at hm |-;split at hm
 .simp at hm
 .rename_i hf;rw[Y3 hf];simp only;cases l with
  | nil=>exact absurd rfl hl
  | cons k r=>
   simp only[Zh] at hf |-;have hk:(bY bs ([],false) k).2=false:=by
    cases e:(bY bs ([],false) k).2 with
    | false=>rfl
    | true=>exact absurd (Az r _ e) hf
   refine Hl r _ (Af ?_);simp only[bY,aBz,aBr] at hk;simp only[Zp];exact h k sq hk.1
theorem LT{bs:List iX}:∀(kids:List Int) (rows out:List (List bH)),rows≠[]->(∀k∈kids,(dT bs k).many=false->(dT bs k).vals≠[])->f7 bs kids rows=some out->out≠[]
 | [],rows,out,h,_,h2=>by
  simp only[f7] at h2;cases h2;exact h
 | k::ks,rows,out,h,hk,h2=>by
  simp only[f7] at h2;split at h2
  .cases h2
  .rename_i hc;rw[not_or] at hc;refine LT ks _ out ?_ (λq hq=>hk q (by simp[hq])) h2;have hv:=hk k sq (by simpa using hc.1);have:=wF (dT bs k).vals rows;intro e;rw[e] at this;have a:=aAl.2 h;have b:=aAl.2 hv;have:=aAK a b;simp at *;omega
theorem mY(ns:List Nd)(h:cP [] ns=0):∀(j:Nat) (x:Nd),ns[j]? = some x->iY (ns.take j) (bD (ns.take j)) (dD (ns.take j)) x=0:=by
 intro j x hx;obtain⟨hj,he⟩:=Y4.1 hx;have e:ns=ns.take j++x::ns.drop (j+1):=by
  rw[<-he];simp
 have h1:cP [] (ns.take j)=0:=by
  rw[e] at h;exact jZ h
 have h2:cP [] (ns.take j++[x])=0:=by
  have e2:ns=(ns.take j++[x])++ns.drop (j+1):=su e
  rw[e2] at h;exact jZ h
 rw[iG [] _ x h1] at h2;simpa using h2
theorem oU{i:Int}{x:Nd}(h:dS i x=true):(x.kind=2->1<=x.kids.length)/\(x.kind=4->x.kids.length=x.values.length+1):=by
 unfold dS at h;simp only[Y6,aAb,Zc] at h;obtain⟨⟨⟨⟨_,h2⟩,_⟩,h4⟩,_⟩:=h;exact⟨λe=>by rcases h2 with h2|h2<;>omega,λe=>om⟩
theorem i9{i:Int}{x:Nd}(h:g9 i x=0):dS i x=true:=by
 unfold g9 at h;split at h
 .omega
 .rename_i hf;simpa using hf
theorem Ij(ns:List Nd)(ho:∀x∈ns,tY x)(h:cP [] ns=0):∀(n:Nat) (k:Nat),k<=n->k<ns.length->(dT (aS ns) k).many=false->(dT (aS ns) k).vals≠[]:=by
 have hg:=nI ns ho h;intro n
 induction n with
 | zero=>
  intro k hk hlt hm;have hx:=Yz hlt;have hG:=hg k _ hx;have hst:=mY ns h k _ hx;obtain⟨h1,_,_,h4⟩:=gX hst;have hlen:(ns.take k).length=k:=B'
  rw[hlen] at h1;have hfp:=oU (i9 h1);have hk0:(ns[k]).kids=[]:=by
   cases e:(ns[k]).kids with
   | nil=>rfl
   | cons q r=>have:=hG.kids 0 q (by rw[e];rfl);omega
  rw[DL hg hx] at hm |-;have hnum:=cE hG.num;rw[hk0] at hfp;simp at hfp;unfold dN at hm |-;split
  .simp
  .split
   .split
    .rename_i e;rw[Y3 gi,Y7 gi,Y7 e] at hm;simp at hm
    .simp only[iR];intro e;have:=congrArg List.length e;simp at this;omega
   .split
    .unfold p9;rw[hk0];simp[f7,Af]
    .have:=hG.kind;omega
 | succ n ih=>
  intro k hk hlt hm;have hx:=Yz hlt;have hG:=hg k _ hx;have hst:=mY ns h k _ hx;obtain⟨h1,_,_,h4⟩:=gX hst;have hlen:(ns.take k).length=k:=B'
  rw[hlen] at h1;have hfp:=oU (i9 h1);rw[DL hg hx] at hm |-;have hnum:=cE hG.num;have hkid:∀q∈(ns[k]).kids,(dT (aS ns) q).many=false->(dT (aS ns) q).vals≠[]:=λq hq=>by
   obtain⟨j,hj⟩:=Zl hq;obtain⟨q0,q1⟩:=hG.kids j q hj;obtain⟨q,rfl⟩:=ZU q0;exact ih q om om
  unfold dN at hm |-;split
  .simp
  .split
   .split
    .rename_i e;rw[Y3 gi,Y7 gi,Y7 e] at hm;simp at hm
    .simp only[iR];intro e;have:=congrArg List.length e;simp at this;omega
   .split
    .rename_i e0 e1 e3;rw[Y3 e0,Y3 e1,Y7 e3] at hm;unfold p9 at hm |-;split
     .rename_i e;rw[e] at hm;simp at hm
     .rename_i rows e;have:=LT _ _ _ sq hkid e;exact Af (su this)
    .rename_i e0 e1 e3;rw[Y3 e0,Y3 e1,Y3 e3] at hm;refine VL ?_ (λq hq=>hkid q ?_) hm
     .split
      .rename_i e4;have hb:=h4 e4;have hkl:=hfp.2 e4;unfold jM at hb;simp only at hb;split at hb
       .omega
       .rename_i hmany;split at hb
        .rename_i hs;have hsl:=oE hs;have hq:=hG.kids 0 ((ns[k]).kids.getD 0 0) (by
          rw[Y0];have:0<(ns[k]).kids.length:=om;rw[Yz this];rfl)
         obtain⟨q,hqe⟩:=ZU hq.1;rw[hqe] at hsl hmany hq;simp only[Y1] at hsl hmany;rw[aBb,show min (q+1) k=q+1 by omega,kU om om om] at hsl hmany;have:=ih q om om (su hmany);have:=aAl.2 this;intro e;have:=congrArg List.length e;simp at this;omega
        .omega
      .have:=hG.kind;have:=hfp.1 om;exact List.ne_nil_of_length_pos om
     .split at hq
      .exact Zn hq
      .exact hq
def AN(ss:List Int)(x:Nd):Int:=
 if x.kind=0 then bS x.value else if x.kind=1 then 1 else if x.kind=3 then 1+gB ss x.kids else max 1 (c9 ss (eT x))
theorem LJ{ss:List Int}{x:Nd}:AN ss x<=1024↔mF ss x<=1024:=by
 unfold AN mF;split
 .rfl
 .split
  .rfl
  .split
   .rfl
   .omega
theorem Gp{ns:List Nd}(ho:∀x∈ns,tY x)(h:cP [] ns=0){x:Nd}(hk:x.kind=2\/x.kind=4)(hs:iY ns (bD ns) (dD ns) x=0):∃q∈eT x,0<=q/\q<ns.length:=by
 obtain⟨h1,_,_,h4⟩:=gX hs;have hfp:=oU (i9 h1);have hn:=nU h1;have mem:∀q∈x.kids,0<=q/\q<ns.length:=λq hq=>by
  obtain⟨j,hj⟩:=Zl hq;exact hn.kids j q hj
 rcases hk with e|e
 .unfold eT;rw[Y7 e];cases hc:x.kids with
  | nil=>have:=hfp.1 e;rw[hc] at this;simp at this
  | cons q r=>exact⟨q,sq,mem q (by rw[hc];simp)⟩
 .unfold eT;rw[Y3 om];have hb:=h4 e;have hkl:=hfp.2 e;have:1<=x.values.length:=by
   unfold jM at hb;simp only at hb;split at hb
   .omega
   .rename_i hmany;split at hb
    .rename_i hs;have hsl:=oE hs;have hlt:0<x.kids.length:=om;have hq:=mem (x.kids.getD 0 0) (by rw[Y0,Yz hlt];exact Za hlt);obtain⟨q,hqe⟩:=ZU hq.1;rw[hqe] at hsl hmany hq;simp only[Y1] at hsl hmany;rw[kU om om om] at hsl hmany;have:=Ij ns ho h q q om om (su hmany);have:=aAl.2 this;omega
    .omega
  have hlt:1<x.kids.length:=om;refine⟨x.kids[1], ?_,mem _ (Za hlt)⟩;refine Y5 (i:=0) ?_;rw[Zd];exact Yz hlt
theorem JK(ns:List Nd)(ho:∀x∈ns,tY x)(h:cP [] ns=0):∀y∈dD ns,1<=y:=by
 refine fE (P:=λns=>(∀x∈ns,tY x)->cP [] ns=0->∀y∈dD ns,1<=y) (λ_ _=>by simp[dD]) (λl x ih ho h=>?_) ns ho h;have h1:=jZ h;have hol:∀y∈l,tY y:=λy hy=>ho y (Zi _ hy)
 have ih:=ih hol h1;have hs:=iG [] l x h1;rw[h] at hs;simp only[Zp] at hs;rw[nJ];intro y hy;rcases ZO.1 hy with hy|hy
 .exact ih y hy
 .simp at hy;subst hy;have hb:=jW l h1;have hk:=(nU (gX hs.symm).1).kind;unfold mF;split
  .have:=Fb x.value;omega
  .split
   .omega
   .split
    .have:=(jY om hb.2 x.kids).1;omega
    .obtain⟨q,hq,q0,q1⟩:=Gp hol h1 om hs.symm;have:=(pF (ss:=dD l) (eT x) 0 q hq).1;have h2:1<=eP (dD l) q:=by
      unfold eP;have hlt:q.toNat<(dD l).length:=by rw[lW];omega
      rw[Y0,Yz hlt];exact ih _ (Za hlt)
     unfold c9;omega
theorem RQ{ns:List Nd}(ho:∀x∈ns,tY x)(h:cP [] ns=0){x:Nd}(hs:iY ns (bD ns) (dD ns) x=0):AN (dD ns) x=mF (dD ns) x:=by
 have hk:=(nU (gX hs).1).kind;unfold AN mF;split
 .rfl
 .split
  .rfl
  .split
   .rfl
   .obtain⟨q,hq,q0,q1⟩:=Gp ho h om hs;have:=(pF (ss:=dD ns) (eT x) 0 q hq).1;have h2:1<=eP (dD ns) q:=by
     unfold eP;have hlt:q.toNat<(dD ns).length:=by rw[lW];omega
     rw[Y0,Yz hlt];exact JK ns ho h _ (Za hlt)
    unfold c9 at *;omega
theorem K4{a b:List Int}{k:Int}(h0:0<=k)(h:k<a.length):eP (a++b) k=eP a k:=by
 unfold eP;rw[Y0,Y0,ZR om]
theorem DO{a b:List Int}{l:List Int}(h:∀k∈l,eP a k=eP b k):gB a l=gB b l:=by
 unfold gB;have:∀(l:List Int) (s:Int),(∀k∈l,eP a k=eP b k)->l.foldl (λs k=>s+eP a k) s=l.foldl (λs k=>s+eP b k) s:=by
  intro l
  induction l with
  | nil=>intro s _;rfl
  | cons k r ih=>intro s h;simp only[Zh];rw[h k sq];exact ih _ λq hq=>h q (by simp[hq])
 exact this l 0 h
theorem uF{a b:List Int}{l:List Int}(h:∀k∈l,eP a k=eP b k):c9 a l=c9 b l:=by
 unfold c9;have:∀(l:List Int) (s:Int),(∀k∈l,eP a k=eP b k)->l.foldl (λs k=>max s (eP a k)) s=l.foldl (λs k=>max s (eP b k)) s:=by
  intro l
  induction l with
  | nil=>intro s _;rfl
  | cons k r ih=>intro s h;simp only[Zh];rw[h k sq];exact ih _ λq hq=>h q (by simp[hq])
 exact this l 0 h
theorem DR{x:Nd}{q:Int}(h:q∈eT x):q∈x.kids:=by
 unfold eT at h;split at h
 .exact h
 .exact Zn h
theorem zI{a b:List Int}{x:Nd}(h:∀k∈x.kids,eP a k=eP b k)(h4:x.kind=4->0<x.kids.length)(hk:0<=x.kind/\x.kind<=4):f8 a x=f8 b x:=by
 unfold f8;split
 .rfl
 .split
  .rfl
  .split
   .exact DO h
   .split
    .rw[uF λq hq=>h q (DR hq)]
    .have:0<x.kids.length:=h4 om;rw[uF λq hq=>h q (DR hq),h (x.kids.getD 0 0) (by rw[Y0,Yz this];exact Za this)]
theorem Kn{a b:List Int}{x:Nd}(h:∀k∈x.kids,eP a k=eP b k):AN a x=AN b x:=by
 unfold AN;rw[DO h,uF λq hq=>h q (DR hq)]
end Go.Ax
namespace Go.Ax
open Go
structure i6(ns:List Nd)(n:Nat):Prop where
 hn:n<=ns.length
 len:ns.length<=4096
 ok:∀x∈ns,tY x
 val:cP [] (ns.take n)=0
variable {ns:List Nd} {n:Nat}
theorem i6.okT(h:i6 ns n):∀x∈ns.take n,tY x:=λx hx=>h.ok x (Ze hx)
theorem i6.goodT(h:i6 ns n):∀(j:Nat) (x:Nd),(ns.take n)[j]? = some x->lJ j x:=nI _ h.okT h.val
theorem rA{i:Nat}{x:Nd}(hi:i<n)(hx:ns[i]? = some x):(ns.take n)[i]? = some x:=by rw[Zb,Y7 hi];exact hx
theorem i6.node(h:i6 ns n){i:Nat}{x:Nd}(hi:i<n)(hx:ns[i]? = some x):lJ i x:=h.goodT i x (rA hi hx)
theorem i6.atE(h:i6 ns n){k:Int}(h0:0<=k)(h1:k<n):dT (aS (ns.take n)) k=dT (aS ns) k:=kU h0 h1 h.hn
theorem i6.vals(h:i6 ns n){k:Int}(h0:0<=k)(h1:k<n):(dT (aS ns) k).vals.length<=1024/\∀v∈(dT (aS ns) k).vals,jG v:=by
 rw[<-h.atE h0 h1];exact t7 (oB _ h.goodT) k
theorem i6.at(h:i6 ns n){i:Nat}{x:Nd}(hi:i<n)(hx:ns[i]? = some x):dT (aS ns) i=dN x (aS ns):=by
 rw[<-h.atE om om,DL h.goodT (rA hi hx)];refine Br λk hk=>?_
 obtain⟨j,hj⟩:=Zl hk;obtain⟨h0,h1⟩:=(h.node hi hx).kids j k hj;exact h.atE h0 om
theorem Xr(ns:List Nd)(k:Int):mS (dT (aS ns) k).vals:=Sj (DZ ns) k
theorem i6.ne(h:i6 ns n){k:Int}(h0:0<=k)(h1:k<n)(hm:(dT (aS ns) k).many=false):(dT (aS ns) k).vals≠[]:=by
 rw[<-h.atE h0 h1] at hm |-;obtain⟨k,rfl⟩:=ZU h0;exact Ij _ h.okT h.val k k (ZA _) (by rw[ZQ];have:=h.hn;omega) hm
theorem i6.step(h:i6 ns n){i:Nat}{x:Nd}(hi:i<n)(hx:ns[i]? = some x):iY (ns.take i) (bD (ns.take i)) (dD (ns.take i)) x=0:=by
 have:=mY _ h.val i x (rA hi hx)
 rwa [aBb,Z5 om] at this
theorem i6.nodeOK(h:i6 ns n){i:Nat}{x:Nd}(hi:i<n)(hx:ns[i]? = some x):Gb i x:=by
 have:=nU (gX (h.step hi hx)).1
 rwa [ZQ,Z5 (by have:=h.hn;omega)] at this
theorem VI{bs:List iX}{kids:List Int}{j:Nat}{k:Int}{a:List bH × Bool}(hk:kids[j]? = some k)(h:(kids.take j).foldl (bY bs) ([],false)=a) :
  (kids.take (j+1)).foldl (bY bs) ([],false)=bY bs a k:=by
 obtain⟨hj,he⟩:=Y4.1 hk;rw[ZE hj,Z4,h,he];rfl
theorem Lj{bs:List iX}{kids:List Int}{j:Nat}(h:((kids.take j).foldl (bY bs) ([],false)).2=true):mN bs kids=⟨[],true⟩:=by
 have e:(kids.foldl (bY bs) ([],false)).2=true:=by
  conv=>lhs;rw[<-List.take_append_drop j kids,Z4]
  exact Az _ _ h
 unfold mN;rw[Y7 e]
theorem Pe{bs:List iX}{kids:List Int}{out:List bH}(h:kids.foldl (bY bs) ([],false)=(out,false)):mN bs kids=⟨out,false⟩:=by
 unfold mN;rw[h];rfl
def iQ(bs:List iX)(a:Nat × Bool)(k:Int):Nat × Bool:=(a.1*(dT bs k).vals.length,a.2 || (dT bs k).many || decide (1024<a.1*(dT bs k).vals.length))
theorem Iv{bs:List iX}:∀(l:List Int) (a:Nat × Bool),a.2=true->(l.foldl (iQ bs) a).2=true
 | [],_,h=>h
 | k::r,a,h=>Iv r _ (by simp[iQ,h])
theorem JU{bs:List iX}(kids:List Int):f7 bs kids [[]]=if (kids.foldl (iQ bs) (1,false)).2=true then none else some (rC (kids.map λk=>(dT bs k).vals).reverse):=by
 have:=FX (bs:=bs) kids [] (by simp[kP]);simp only[rC,kP,aAi] at this;rw[this,List.map_reverse];rfl
theorem UM{bs:List iX}{kids:List Int}{j:Nat}{k:Int}{a:Nat × Bool}(hk:kids[j]? = some k)(h:(kids.take j).foldl (iQ bs) (1,false)=a) :
  (kids.take (j+1)).foldl (iQ bs) (1,false)=iQ bs a k:=by
 obtain⟨hj,he⟩:=Y4.1 hk;rw[ZE hj,Z4,h,he];rfl
theorem SY{bs:List iX}{x:Nd}{j:Nat}(h:((x.kids.take j).foldl (iQ bs) (1,false)).2=true):p9 bs x=⟨[],true⟩:=by
 have e:(x.kids.foldl (iQ bs) (1,false)).2=true:=by
  conv=>lhs;rw[<-List.take_append_drop j x.kids,Z4]
  exact Iv _ _ h
 unfold p9;rw[JU,Y7 e]
theorem PD{bs:List iX}:∀(kids:List Int) (a:Nat × Bool),(kids.foldl (iQ bs) a).1=a.1*kP (kids.map λk=>(dT bs k).vals).reverse:=by
 intro kids;refine fE (P:=λkids=>∀a:Nat × Bool,(kids.foldl (iQ bs) a).1=a.1*kP (kids.map λk=>(dT bs k).vals).reverse) (λa=>by simp[kP]) (λl x ih a=>?_) kids;rw[Z4,aA1,List.reverse_append];simp only[Zh,aCf,aAf,List.map_nil,List.reverse_singleton,List.singleton_append,kP];rw[iQ,ih a,Nat.mul_assoc]
theorem Pg{bs:List iX}(hb:∀b∈bs,mS b.vals){x:Nd}{t:Nat}(h:x.kids.foldl (iQ bs) (1,false)=(t,false)) :
  p9 bs x=⟨(rC (x.kids.map λk=>(dT bs k).vals).reverse).map (dW x.name),false⟩/\t=kP (x.kids.map λk=>(dT bs k).vals).reverse:=by
 have hr:f7 bs x.kids [[]]=some (rC (x.kids.map λk=>(dT bs k).vals).reverse):=by
  rw[JU,h];rfl
 refine⟨M7 hb hr, ?_⟩;have:=PD (bs:=bs) x.kids (1,false);rw[h] at this;simpa using this
theorem Jp{ls:List (List bH)}{q kk:Nat}{l:List bH}{v:bH}(hl:ls[q]? = some l)(hv:l[kk%l.length]? = some v) :
  rowAt (ls.take (q+1)).reverse kk=rowAt (ls.take q).reverse (kk/l.length)++[v]:=by
 obtain⟨h1,h2⟩:=Y4.1 hl;rw[ZE h1,List.reverse_append,h2];simp only[List.reverse_singleton,List.singleton_append,rowAt,hv];rfl
end Go.Ax
namespace Go.Ax
open Go
structure Mt where
 old:Nat
 now:Nat
 opts:List Int
 same:List Bool
def aI(l:List Nd)(i:Nat):Nd:=l.getD i ⟨0,[],0,0,[],[],[],[],.mk 0 0 [] []⟩
def bO(y:Nd)(k:Int):Nat:=(y.kids.getD k.toNat 0).toNat
structure BM(A:List Nd):Prop where
 ok:∀x∈A,tY x
 val:∀x∈A,bS x.value<=1048576
 vals:∀x∈A,∀v∈x.values,bS v<=1048576
 vlen:∀x∈A,x.values.length<=2000
 klen:∀x∈A,x.kids.length<=2000
 llen:∀x∈A,x.labels.length<=1000
 lab:∀x∈A,∀s∈x.labels,s.length<=1000
 len:A.length<=1000
structure Te(A:List Nd)(i:Nat)(x:Nd):Prop where
 opt:Ws x
 node:Gb i x
 srt:mS x.values
 val:∀v∈x.values,jG v
theorem vA:∀{l:List bH},gH l=true->mS l
 | [],_=>by simp[mS]
 | [a],_=>by simp[mS]
 | a::b::r,h=>by
  simp only[gH,Y6,Zc] at h;have ih:=vA h.2;unfold mS at ih |-;refine Zw.2 ⟨λx hx=>?_,ih⟩;rcases ZC.1 hx with rfl|hx
  .exact h.1
  .have:=(Zw.1 ih).1 x hx;exact I1 h.1 om
theorem goodT{A:List Nd}(h:BM A)(hv:eX A=0){i:Nat}{x:Nd}(hx:A[i]? = some x):Te A i x:=by
 have hxm:=Y5 hx;have hv0:cP [] A=0:=by
  unfold eX at hv;split at hv
  .omega
  .exact hv
 have hn:=pU A hv0 i x hx;have hN:=nU hn;have hf:=i9 hn;have hfp:=oU hf;have hk:=h.klen x hxm;refine⟨⟨h.ok x hxm,cE hN.num,om,λe=>by have:=hN.klen om;omega,λe=>?_⟩,hN, ?_,λv hv=>((h.ok x hxm).valuesI v hv).1⟩
 .refine⟨hfp.1 e, ?_⟩;unfold dS at hf;simp only[Y6,aAb,Zc] at hf;rcases hf.1.1.1.2 with h2|h2
  .exact absurd e h2
  .exact h2.2
 .unfold dS at hf;simp only[Y6] at hf;exact vA hf.2
theorem Mk{A:List Nd}(ho:∀x∈A,tY x)(hv:eX A=0){i:Nat}{x:Nd}(hx:A[i]? = some x)(h4:x.kind=4):1<=x.values.length:=by
 have hv0:cP [] A=0:=by
  unfold eX at hv;split at hv
  .omega
  .exact hv
 have hi:=(Y4.1 hx).1;have hpre:cP [] (A.take i)=0:=by
  have:=hv0;rw[<-List.take_append_drop i A] at this;exact jZ this
 obtain⟨q,hq,-⟩:=Gp (ns:=A.take i) (λy hy=>ho y (Ze hy)) hpre (x:=x) (.inr h4) (mY A hv0 i x hx);have hb:=(nU (pU A hv0 i x hx)).bind h4;unfold eT at hq;rw[Y3 om] at hq;have:=List.length_pos_of_mem hq;simp at this;omega
theorem Uk{A:List Nd}{n:Nat}{y:Nd}(hy:Gb n y){k:Int}(h0:0<=k)(h1:k<y.kids.length):bO y k<n/\∃q:Int,y.kids[k.toNat]? = some q/\q=bO y k:=by
 have hk:k.toNat<y.kids.length:=om;obtain⟨a,b⟩:=hy.kids k.toNat _ (Yz hk);unfold bO;rw[Y0,Yz hk];simp only[aAD];exact⟨om,_,rfl,om⟩
theorem A7(a:bH):c8 a a=0:=(nC a).refl
theorem lP{l:List bH}(h:mS l){x:bH}(hx:x∈l):∃k,eZ l x=(k,true)/\k<l.length/\l[k]? = some x:=by
 obtain⟨k,hk,rfl⟩:=aBP hx;have hg:l[k]? = some l[k]:=Yz hk;refine⟨k, ?_,hk,hg⟩;rw[uL (aAE hk) (λp a hp ha=>mS.get h hp ha hg) (λa ha=>by rw[hg] at ha;cases ha;rw[A7];omega)];unfold HT;rw[hg];simp[A7]
end Go.Ax
namespace Go.Ax
open Go
abbrev Sp:=Nat × Nat × Nat
def vZ:bH:=.mk 0 0 [] []
structure x9 where
 val:bH
 used:Nat
 stop:Int
 spans:List Sp
structure Pt where
 used:Nat
 vals:List bH
 spans:List Sp
 stop:Int
def fK(x:Nd):Int:=if x.kind=1 then x.hi-x.lo+1 else x.kids.length
def bQ(rd:Nat->Nat->x9)(a0:Nat):List Int->Pt->Pt
 | [],s=>s
 | k::ks,s=>
  if (rd k.toNat (a0+s.used)).stop = -1 then
   bQ rd a0 ks ⟨s.used+(rd k.toNat (a0+s.used)).used,s.vals++[(rd k.toNat (a0+s.used)).val],s.spans++(a0,a0+s.used,a0+s.used+(rd k.toNat (a0+s.used)).used)::(rd k.toNat (a0+s.used)).spans,-1⟩
  else⟨s.used+(rd k.toNat (a0+s.used)).used,s.vals++[(rd k.toNat (a0+s.used)).val],s.spans++(a0,a0+s.used,a0+s.used+(rd k.toNat (a0+s.used)).used)::(rd k.toNat (a0+s.used)).spans,(rd k.toNat (a0+s.used)).stop⟩
def GR(x:Nd)(s:Pt):x9:=⟨if s.stop = -1 then dW x.name s.vals else vZ,s.used,s.stop,s.spans⟩
def a8(A:List Nd)(p:List Int):Nat->Nat->Nat->x9
 | 0,_,_=>⟨vZ,0,-2,[]⟩
 | f+1,i,a0=>
  if (aI A i).kind=0 then⟨(aI A i).value,0,-1,[]⟩
  else if (aI A i).kind=3 then GR (aI A i) (bQ (λk q=>a8 A p f k q) a0 (aI A i).kids ⟨0,[],[],-1⟩)
  else if (aI A i).kind=4 then
   if (a8 A p f (bO (aI A i) 0) a0).stop = -1 then
    ⟨(a8 A p f (bO (aI A i) ((eZ (aI A i).values (a8 A p f (bO (aI A i) 0) a0).val).1+1:Nat)) (a0+(a8 A p f (bO (aI A i) 0) a0).used)).val,
     (a8 A p f (bO (aI A i) 0) a0).used+(a8 A p f (bO (aI A i) ((eZ (aI A i).values (a8 A p f (bO (aI A i) 0) a0).val).1+1:Nat)) (a0+(a8 A p f (bO (aI A i) 0) a0).used)).used,
     (a8 A p f (bO (aI A i) ((eZ (aI A i).values (a8 A p f (bO (aI A i) 0) a0).val).1+1:Nat)) (a0+(a8 A p f (bO (aI A i) 0) a0).used)).stop,
     (a8 A p f (bO (aI A i) 0) a0).spans++(a8 A p f (bO (aI A i) ((eZ (aI A i).values (a8 A p f (bO (aI A i) 0) a0).val).1+1:Nat)) (a0+(a8 A p f (bO (aI A i) 0) a0).used)).spans⟩
   else a8 A p f (bO (aI A i) 0) a0
  else if p.length<=a0 then⟨vZ,0,i,[]⟩
  else if p.getD a0 0<0\/fK (aI A i)<=p.getD a0 0 then⟨vZ,0,-2,[]⟩
  else if (aI A i).kind=1 then⟨.mk 0 ((aI A i).lo+p.getD a0 0) [] [],1,-1,[]⟩
  else⟨(a8 A p f (bO (aI A i) (p.getD a0 0)) (a0+1)).val,(a8 A p f (bO (aI A i) (p.getD a0 0)) (a0+1)).used+1,(a8 A p f (bO (aI A i) (p.getD a0 0)) (a0+1)).stop,(a8 A p f (bO (aI A i) (p.getD a0 0)) (a0+1)).spans⟩
structure VT(A:List Nd):Prop where
 tin:BM A
 val:eX A=0
 pos:0<A.length
section
variable {A:List Nd}
theorem VT.v0(h:VT A):cP [] A=0:=by
 have hv:=h.val;unfold eX at hv;split at hv
 .omega
 .exact hv
theorem VT.set(h:VT A):i6 A A.length:=⟨ZA _,by have:=h.tin.len;omega,h.tin.ok,by rw[ZK];exact h.v0⟩
theorem VT.node(h:VT A){i:Nat}{x:Nd}(hx:A[i]? = some x):Te A i x:=goodT h.tin h.val hx
theorem cS{i:Nat}(hi:i<A.length):A[i]? = some (aI A i):=by
 unfold aI;rw[Y0,Yz hi];rfl
theorem VT.kid(h:VT A){i:Nat}{x:Nd}(hx:A[i]? = some x){j:Nat}(hj:j<x.kids.length):bO x j<i/\x.kids[j]? = some (bO x j:Int):=by
 have hi:=(Y4.1 hx).1;obtain⟨h1,q,h2,h3⟩:=Uk (A:=A) (h.node hx).node (k:=(j:Int)) om om;refine⟨h1, ?_⟩;rw[Y1] at h2;rw[h2,h3]
theorem VT.lst(h:VT A){i:Nat}{x:Nd}(hx:A[i]? = some x):dT (aS A) i=dN x (aS A):=h.set.at (Y4.1 hx).1 hx
theorem Fs:∀{l m:List bH},eO l m=true->l=m
 | [],[],_=>rfl
 | a::l,b::m,h=>by
  simp only[eO,Y6,Zc] at h;rw[Ib a b h.1,Fs h.2]
 | [],b::m,h=>by simp[eO] at h
 | a::l,[],h=>by simp[eO] at h
theorem VT.bind(h:VT A){i:Nat}{x:Nd}(hx:A[i]? = some x)(h4:x.kind=4):x.kids.length=x.values.length+1/\1<=x.values.length/\(dT (aS A) (bO x 0)).many=false/\(dT (aS A) (bO x 0)).vals=x.values:=by
 have hi:=(Y4.1 hx).1;have hb:=(h.node hx).node.bind h4;have h1:=Mk h.tin.ok h.val hx h4;refine⟨hb,h1, ?_⟩;obtain⟨k1,k2⟩:bO x 0<i/\x.kids[0]? = some (bO x 0:Int):=h.kid hx (j:=0) om;have hs:=(gX (mY A h.v0 i x hx)).2.2.2 h4;have e0:x.kids.getD 0 0=(bO x 0:Int):=by rw[Y0,k2];rfl
 unfold jM at hs;rw[e0,Y1,aBb,Z5 om,kU om om om] at hs;simp only at hs;split at hs
 .omega
 .rename_i hm;split at hs
  .rename_i hsv;exact⟨su hm,Fs hsv⟩
  .omega
end
def LY(bs:List iX):List Int->List bH->Prop
 | [],[]=>True
 | k::ks,v::vs=>((dT bs k).many=false->v∈(dT bs k).vals)/\LY bs ks vs
 | _,_=>False
theorem E0{bs:List iX}:∀(ks:List Int) (vs:List bH) (rows out:List (List bH)) (r:List bH),f7 bs ks rows=some out->r∈rows->LY bs ks vs->r++vs∈out
 | [],[],rows,out,r,h,hr,_=>by simp only[f7] at h;cases h;simpa using hr
 | [],v::vs,rows,out,r,h,hr,ha=>ha.elim
 | k::ks,[],rows,out,r,h,hr,ha=>ha.elim
 | k::ks,v::vs,rows,out,r,h,hr,ha=>by
  simp only[f7] at h;split at h
  .cases h
  .rename_i hm;rw[not_or] at hm;have hv:=ha.1 (by simpa using hm.1);have:=E0 ks vs _ out (r++[v]) h (by
    unfold iI;exact aB7.2 ⟨r,hr,ZW.2 ⟨v,hv,rfl⟩⟩) ha.2
   simpa using this
theorem Hp{bs:List iX}:∀(ks:List Int) (a:List bH × Bool),(ks.foldl (bY bs) a).2=false->(∀v∈a.1,v∈(ks.foldl (bY bs) a).1)/\∀k∈ks,(dT bs k).many=false/\∀v∈(dT bs k).vals,v∈(ks.foldl (bY bs) a).1
 | [],a,h=>⟨λv hv=>hv,λk hk=>by simp at hk⟩
 | k::ks,a,h=>by
  rw[Zh] at h |-;obtain⟨h1,h2⟩:=Hp ks _ h;have hs:(bY bs a k).2=false:=by
   cases e:(bY bs a k).2 with
   | false=>rfl
   | true=>rw[Az _ _ e] at h;cases h
  simp only[bY,aBr] at hs;refine⟨λv hv=>h1 v (by simp only[bY];rw[pC];exact Zi _ hv),λq hq=>?_⟩;rcases ZC.1 hq with rfl|hq
  .exact⟨hs.1.2,λv hv=>h1 v (by simp only[bY];rw[pC];exact aAj _ hv)⟩
  .exact h2 q hq
theorem Ik{bs:List iX}{ks:List Int}{k:Int}{v:bH}(hk:k∈ks)(hm:(mN bs ks).many=false)(hv:(dT bs k).many=false->v∈(dT bs k).vals):v∈(mN bs ks).vals:=by
 unfold mN at hm |-;split at hm
 .simp at hm
 .rename_i h2;have h2:(ks.foldl (bY bs) ([],false)).2=false:=su h2
  rw[Y3 (by rw[h2];simp)];obtain⟨h3,h4⟩:=(Hp ks _ h2).2 k hk;exact h4 v (hv h3)
theorem Do{n:List UInt8}{vs:List bH}(hn:n.length<=4294967296)(hl:vs.length<=4294967296)(h:∀v∈vs,jG v):jG (dW n vs):=by
 have z:∀k:Int,0<=k->k<=3->i64 k:=λk h1 h2=>oq
 unfold dW;split
 .exact mJ (z 2 om om) (z 0 om om) sq hl (sB h)
 .exact mJ (z 3 om om) (z 0 om om) hn hl (sB h)
theorem IA{rd:Nat->Nat->x9}{a0:Nat}{bs:List iX}:∀(ks:List Int) (s:Pt),(∀k∈ks,∀q,(rd k.toNat q).stop = -1->jG (rd k.toNat q).val/\((dT bs k).many=false->(rd k.toNat q).val∈(dT bs k).vals))->(∀v∈s.vals,jG v)->(bQ rd a0 ks s).stop = -1 ->
  ∃vs,(bQ rd a0 ks s).vals=s.vals++vs/\LY bs ks vs/\∀v∈vs,jG v
 | [],s,_,_,_=>⟨[],by simp[bQ],trivial,sq⟩
 | k::ks,s,hr,hs,h=>by
  simp only[bQ] at h |-;split at h
  .rename_i hst;rw[Y7 hst];obtain⟨o1,o2⟩:=hr k (ZX ..) _ hst;obtain⟨vs,h1,h2,h3⟩:=IA ks _ (λq hq=>hr q (ZN _ hq)) (λv hv=>by
    rcases ZO.1 hv with hv|hv
    .exact hs v hv
    .simp at hv;rw[hv];exact o1) h
   refine⟨(rd k.toNat (a0+s.used)).val::vs,by rw[h1];simp,⟨o2,h2⟩,λv hv=>?_⟩
   .rcases ZC.1 hv with rfl|hv
    .exact o1
    .exact h3 v hv
  .rename_i hst;exact absurd h hst
end Go.Ax
namespace Go.Ax
open Go
theorem fQ{A:List Nd}(h:VT A){i:Nat}{x:Nd}(hx:A[i]? = some x){k:Int}(hk:k∈x.kids):0<=k/\k.toNat<i:=by
 obtain⟨j,hj⟩:=Zl hk;have:=(h.node hx).node.kids j k hj;omega
theorem VT.kidI{A:List Nd}(h:VT A){i:Nat}{x:Nd}(hx:A[i]? = some x){c:Int}(h0:0<=c)(h1:c<x.kids.length):bO x c<i/\(bO x c:Int)∈x.kids/\x.kids[c.toNat]? = some (bO x c:Int):=by
 obtain⟨j,rfl⟩:=ZU h0;obtain⟨k1,k2⟩:=h.kid hx (j:=j) om;exact⟨k1,Y5 k2,by rw[Y1];exact k2⟩
theorem mA{A:List Nd}(h:VT A)(p:List Int):∀f i a0,i<f->i<A.length->(a8 A p f i a0).stop = -1->jG (a8 A p f i a0).val/\((dT (aS A) i).many=false->(a8 A p f i a0).val∈(dT (aS A) i).vals)
 | 0,i,a0,hf,hi,hs=>om
 | f+1,i,a0,hf,hi,hs=>by
  have hx:=cS hi;have hg:=h.node hx;have hN:=hg.node;have hok:=h.tin.ok _ (Y5 hx);have hkm:=λ(k:Int) (hk:k∈(aI A i).kids)=>fQ h hx hk
  have hkI:=λ(c:Int) (h0:0<=c) (h1:c<(aI A i).kids.length)=>h.kidI hx h0 h1
  have hbi:=λh4=>h.bind hx h4
  rw[h.lst hx];simp only[a8] at hs |-;have ih:=λ(k:Nat) (a:Nat) (hk:k<i)=>mA h p f k a om om
  generalize aI A i=x at *;by_cases k0:x.kind=0
  .rw[Y7 k0];refine⟨hok.value,λ_=>?_⟩;unfold dN;rw[Y7 k0];simp
  rw[Y3 k0] at hs |-;by_cases k3:x.kind=3
  .rw[Y7 k3] at hs |-;simp only[GR] at hs |-;rw[Y7 hs];obtain⟨vs,h1,h2,h3⟩:=IA (bs:=aS A) x.kids ⟨0,[],[],-1⟩ (λk hk q hst=>by
    have:=hkm k hk;have hi2:=ih k.toNat q this.2 hst
    rwa [show ((k.toNat:Nat):Int)=k by omega] at hi2) sq hs
   rw[h1];simp only[Zp];have hlen:vs.length=x.kids.length:=by
    have:∀(ks:List Int) (vs:List bH),LY (aS A) ks vs->vs.length=ks.length:=by
     intro ks
     induction ks with
     | nil=>intro vs h;cases vs with
      | nil=>rfl
      | cons v vs=>exact h.elim
     | cons k ks ih=>intro vs h;cases vs with
      | nil=>exact h.elim
      | cons v vs=>simp[ih vs h.2]
    exact this _ _ h2
   refine⟨Do (by have:=hok.name;omega) (by have:=hok.kids;omega) h3,λhm=>?_⟩;unfold dN at hm |-;rw[Y3 k0,Y3 om,Y7 k3] at hm |-;unfold p9 at hm |-;split at hm
   .simp at hm
   .rename_i rows hr;simp only;rw[pC];exact ZW.2 ⟨vs,by simpa using E0 x.kids vs [[]] rows [] hr sq h2,rfl⟩
  rw[Y3 k3] at hs |-;by_cases k4:x.kind=4
  .rw[Y7 k4] at hs |-;obtain⟨b1,b2,b3,b4⟩:=hbi k4;split at hs
   .rename_i hst;rw[Y7 hst];simp only at hs |-;obtain⟨c1,-,-⟩:=hkI 0 om om;obtain⟨-,m1⟩:=ih _ a0 c1 hst;have m1:=m1 b3;rw[b4] at m1;obtain⟨q,fq,q1,q2⟩:=lP hg.srt m1;rw[fq] at hs |-;simp only at hs |-;obtain⟨d1,d2,d3⟩:=hkI ((q+1:Nat):Int) om om;obtain⟨e1,e2⟩:=ih _ _ d1 hs;refine⟨e1,λhm=>?_⟩;unfold dN at hm |-;rw[Y3 k0,Y3 om,Y3 k3,Y7 k4] at hm |-;refine Ik (k:=(bO x ((q+1:Nat):Int):Int)) ?_ hm e2;rw[Y1] at d3;refine Y5 (i:=q) ?_;rw[Zd,aBv];exact d3
   .rename_i hst;exact absurd hs hst
  rw[Y3 k4] at hs |-;split at hs
  .simp at hs
  rename_i hp;rw[Y3 hp];split at hs
  .simp at hs
  rename_i hc;rw[Y3 hc];rw[not_or] at hc;by_cases k1:x.kind=1
  .rw[Y7 k1] at hs |-;simp only;have ho:fK x=x.hi-x.lo+1:=by unfold fK;rw[Y7 k1]
   have hr:=cE hN.num;generalize p.getD a0 0=c at *;refine⟨jF oq oq,λhm=>?_⟩;unfold dN at hm |-;rw[Y3 k0,Y7 k1] at hm |-;split at hm
   .simp at hm
   .rename_i hr;rw[Y3 hr];simp only[iR];exact ZW.2 ⟨c.toNat,aBi.2 om,by rw[Int.toNat_of_nonneg om]⟩
  .rw[Y3 k1] at hs |-;simp only at hs |-;have ho:fK x=x.kids.length:=by unfold fK;rw[Y3 k1]
   have hk2:=hN.kind;obtain⟨d1,d2,d3⟩:=hkI (p.getD a0 0) om om;obtain⟨e1,e2⟩:=ih _ _ d1 hs;refine⟨e1,λhm=>?_⟩;unfold dN at hm |-;rw[Y3 k0,Y3 k1,Y3 k3,Y3 om] at hm |-;exact Ik d2 hm e2
def N3(a b:Nat)(l:List Sp):Prop:=∀s∈l,a<=s.1/\s.1<=s.2.1/\s.2.1<=s.2.2/\s.2.2<=b
theorem N3.mono{a b a' b':Nat}{l:List Sp}(h:N3 a b l)(h1:a'<=a)(h2:b<=b'):N3 a' b' l:=λs hs=>by
 have:=h s hs;omega
theorem N3.app{a b:Nat}{l m:List Sp}(h:N3 a b l)(h':N3 a b m):N3 a b (l++m):=λs hs=>by
 rcases ZO.1 hs with hs|hs
 .exact h s hs
 .exact h' s hs
theorem JM{rd:Nat->Nat->x9}{a0 n:Nat}(hr:∀(k q:Nat),q<=n->q+(rd k q).used<=n/\N3 q (q+(rd k q).used) (rd k q).spans):∀(ks:List Int) (s:Pt),a0+s.used<=n->N3 a0 (a0+s.used) s.spans->a0+(bQ rd a0 ks s).used<=n/\N3 a0 (a0+(bQ rd a0 ks s).used) (bQ rd a0 ks s).spans
 | [],s,h1,h2=>⟨h1,h2⟩
 | k::ks,s,h1,h2=>by
  simp only[bQ];obtain⟨g1,g2⟩:=hr k.toNat (a0+s.used) h1;have g3:N3 a0 (a0+(s.used+(rd k.toNat (a0+s.used)).used)) (s.spans++(a0,a0+s.used,a0+s.used+(rd k.toNat (a0+s.used)).used)::(rd k.toNat (a0+s.used)).spans):=by
   refine(h2.mono (ZA _) om).app λt ht=>?_
   rcases ZC.1 ht with rfl|ht
   .simp only;omega
   .have:=g2 t ht;omega
  split
  .exact JM hr ks _ J' g3
  .exact⟨by simp only;omega,g3⟩
theorem wR{A:List Nd}(p:List Int):∀f i a0,a0<=p.length->a0+(a8 A p f i a0).used<=p.length/\N3 a0 (a0+(a8 A p f i a0).used) (a8 A p f i a0).spans
 | 0,i,a0,ha=>⟨ha,λs hs=>by simp[a8] at hs⟩
 | f+1,i,a0,ha=>by
  have ih:=wR (A:=A) p f;simp only[a8];split
  .exact⟨ha,λs hs=>by simp at hs⟩
  split
  .exact JM (λk q hq=>ih k q hq) _ _ ha λs hs=>by simp at hs
  split
  .split
   .obtain⟨g1,g2⟩:=ih (bO (aI A i) 0) a0 ha;obtain⟨g3,g4⟩:=ih (bO (aI A i) ((eZ (aI A i).values (a8 A p f (bO (aI A i) 0) a0).val).1+1:Nat)) _ g1;refine⟨by simp only;omega, ?_⟩;exact(g2.mono (ZA _) J').app (g4.mono om J')
   .exact ih _ a0 ha
  split
  .exact⟨ha,λs hs=>by simp at hs⟩
  rename_i hp;split
  .exact⟨ha,λs hs=>by simp at hs⟩
  split
  .exact⟨by simp only;omega,λs hs=>by simp at hs⟩
  .obtain⟨g1,g2⟩:=ih (bO (aI A i) (p.getD a0 0)) (a0+1) om;exact⟨by simp only;omega,g2.mono om J'⟩
end Go.Ax
namespace Go.Ax
open Go
theorem NY(r:List Nd):∀l:List Nd,∃m,bD (l++r)=bD l++m:=by
 refine fE (P:=λr=>∀l:List Nd,∃m,bD (l++r)=bD l++m) (λl=>⟨[],sq⟩) (λr x ih l=>?_) r;obtain⟨m,hm⟩:=ih l;refine⟨m++[f8 (bD (l++r)) x], ?_⟩;rw[<-List.append_assoc,i7,hm,List.append_assoc]
theorem BQ{A:List Nd}{n:Nat}{k:Int}(h0:0<=k)(h:k<n)(hn:n<=A.length):eP (bD (A.take n)) k=eP (bD A) k:=by
 obtain⟨m,hm⟩:=NY (A.drop n) (A.take n);rw[List.take_append_drop] at hm;rw[hm,K4 h0 (by rw[gI,ZQ];omega)]
def y7(ls:List Int)(fs:List bH)(x:Nd):bH:=
 if 0<f8 ls x then vZ else if x.kind=0 then x.value else if x.kind=3 then dW x.name (x.kids.map λk=>fs.getD k.toNat vZ) else if x.kind=4 then fs.getD (bO x 1) vZ else vZ
def M3(nodes:List Nd):List Int × List bH:=nodes.foldl (λs x=>(s.1++[f8 s.1 x],s.2++[y7 s.1 s.2 x])) ([],[])
def dC(nodes:List Nd):List bH:=(M3 nodes).2
theorem PT(l:List Nd):(M3 l).1=bD l:=by
 refine fE (P:=λl=>(M3 l).1=bD l) rfl (λl x ih=>?_) l;rw[i7,<-ih];unfold M3;rw[Z4];rfl
theorem wZ(l:List Nd)(x:Nd):dC (l++[x])=dC l++[y7 (bD l) (dC l) x]:=by
 rw[<-PT];unfold dC M3;rw[Z4];rfl
theorem jV(l:List Nd):(dC l).length=l.length:=by
 refine fE (P:=λl=>(dC l).length=l.length) rfl (λl x ih=>?_) l;rw[wZ];simp[ih]
theorem Qb(r:List Nd):∀l:List Nd,∃m,dC (l++r)=dC l++m:=by
 refine fE (P:=λr=>∀l:List Nd,∃m,dC (l++r)=dC l++m) (λl=>⟨[],sq⟩) (λr x ih l=>?_) r;obtain⟨m,hm⟩:=ih l;refine⟨m++[y7 (bD (l++r)) (dC (l++r)) x], ?_⟩;rw[<-List.append_assoc,wZ,hm,List.append_assoc]
def EU(l:List bH)(k:Nat):bH:=l.getD k vZ
theorem Rb{l m:List bH}{k:Nat}(h:k<l.length):EU (l++m) k=EU l k:=by
 unfold EU;rw[Y0,Y0,ZR h]
theorem Dn{A:List Nd}{n k:Nat}(h:k<n)(hn:n<=A.length):EU (dC (A.take n)) k=EU (dC A) k:=by
 obtain⟨m,hm⟩:=Qb (A.drop n) (A.take n);rw[List.take_append_drop] at hm;rw[hm,Rb (by rw[jV,ZQ];omega)]
def Ac(ls:List Int)(ps:List Bool)(x:Nd):Bool:=decide (f8 ls x<=0) && (decide (x.kind≠3) || decide (x.kids.length=0)) && x.kids.all λk=>ps.getD k.toNat false
def MX(nodes:List Nd):List Int × List Bool:=nodes.foldl (λs x=>(s.1++[f8 s.1 x],s.2++[Ac s.1 s.2 x])) ([],[])
def dJ(nodes:List Nd):List Bool:=(MX nodes).2
theorem OK(l:List Nd):(MX l).1=bD l:=by
 refine fE (P:=λl=>(MX l).1=bD l) rfl (λl x ih=>?_) l;rw[i7,<-ih];unfold MX;rw[Z4];rfl
theorem wC(l:List Nd)(x:Nd):dJ (l++[x])=dJ l++[Ac (bD l) (dJ l) x]:=by
 rw[<-OK];unfold dJ MX;rw[Z4];rfl
theorem jU(l:List Nd):(dJ l).length=l.length:=by
 refine fE (P:=λl=>(dJ l).length=l.length) rfl (λl x ih=>?_) l;rw[wC];simp[ih]
theorem Oh(r:List Nd):∀l:List Nd,∃m,dJ (l++r)=dJ l++m:=by
 refine fE (P:=λr=>∀l:List Nd,∃m,dJ (l++r)=dJ l++m) (λl=>⟨[],sq⟩) (λr x ih l=>?_) r;obtain⟨m,hm⟩:=ih l;refine⟨m++[Ac (bD (l++r)) (dJ (l++r)) x], ?_⟩;rw[<-List.append_assoc,wC,hm,List.append_assoc]
def N0(l:List Bool)(k:Nat):Bool:=l.getD k false
theorem RS{l m:List Bool}{k:Nat}(h:k<l.length):N0 (l++m) k=N0 l k:=by
 unfold N0;rw[Y0,Y0,ZR h]
theorem JQ{A:List Nd}{n k:Nat}(h:k<n)(hn:n<=A.length):N0 (dJ (A.take n)) k=N0 (dJ A) k:=by
 obtain⟨m,hm⟩:=Oh (A.drop n) (A.take n);rw[List.take_append_drop] at hm;rw[hm,RS (by rw[jU,ZQ];omega)]
section
variable {A:List Nd}
theorem VT.lenC(h:VT A){i:Nat}{x:Nd}(hx:A[i]? = some x){n:Nat}(hi:i<=n)(hn:n<=A.length):f8 (bD (A.take n)) x=f8 (bD A) x:=by
 refine zI (λk hk=>?_) (λh4=>by have:=(h.bind hx h4).1;omega) (h.node hx).node.kind;have:=fQ h hx hk;exact BQ this.1 om hn
theorem VT.len(h:VT A){i:Nat}{x:Nd}(hx:A[i]? = some x):eP (bD A) i=f8 (bD A) x:=by
 obtain⟨hi,he⟩:=Y4.1 hx;rw[<-BQ (n:=i+1) om om om,ZE hi,i7,he,h.lenC hx (ZA _) om];unfold eP;rw[Y1,Y0,ZS (by rw[gI];simp;omega),gI];simp[show min i A.length=i by omega]
theorem VT.lens0(h:VT A)(k:Int):0<=eP (bD A) k/\eP (bD A) k<=1024:=by
 unfold eP;rw[Y0];cases e:(bD A)[k.toNat]? with
 | none=>simp
 | some b=>exact(jW A h.v0).1 b (Y5 e)
theorem VT.fixC(h:VT A){i:Nat}{x:Nd}(hx:A[i]? = some x){n:Nat}(hi:i<=n)(hn:n<=A.length):y7 (bD (A.take n)) (dC (A.take n)) x=y7 (bD A) (dC A) x:=by
 unfold y7;rw[h.lenC hx hi hn];split
 .rfl
 split
 .rfl
 split
 .congr 1;refine List.map_congr_left λk hk=>?_
  have:=fQ h hx hk;exact Dn om hn
 split
 .rename_i h4;obtain⟨b1,b2,-⟩:=h.bind hx h4;have:bO x ((1:Nat):Int)<i:=(h.kid hx (j:=1) om).1;exact Dn (show bO x 1<n by have:bO x 1<i:=this;omega) hn
 .rfl
theorem VT.fix(h:VT A){i:Nat}{x:Nd}(hx:A[i]? = some x):EU (dC A) i=y7 (bD A) (dC A) x:=by
 obtain⟨hi,he⟩:=Y4.1 hx;rw[<-Dn (n:=i+1) om om,ZE hi,wZ,he,h.fixC hx (ZA _) om];unfold EU;rw[Y0,ZS (by rw[jV];simp;omega),jV];simp[show min i A.length=i by omega]
theorem VT.plnC(h:VT A){i:Nat}{x:Nd}(hx:A[i]? = some x){n:Nat}(hi:i<=n)(hn:n<=A.length):Ac (bD (A.take n)) (dJ (A.take n)) x=Ac (bD A) (dJ A) x:=by
 unfold Ac;rw[h.lenC hx hi hn];congr 1;rw[Zv,Z8,Z8];have e:∀k∈x.kids,(dJ (A.take n)).getD k.toNat false=(dJ A).getD k.toNat false:=λk hk=>by
  have:=fQ h hx hk;exact JQ om hn
 exact⟨λg k hk=>by rw[<-e k hk];exact g k hk,λg k hk=>by rw[e k hk];exact g k hk⟩
theorem VT.pln(h:VT A){i:Nat}{x:Nd}(hx:A[i]? = some x):N0 (dJ A) i=Ac (bD A) (dJ A) x:=by
 obtain⟨hi,he⟩:=Y4.1 hx;rw[<-JQ (n:=i+1) om om,ZE hi,wC,he,h.plnC hx (ZA _) om];unfold N0;rw[Y0,ZS (by rw[jU];simp;omega),jU];simp[show min i A.length=i by omega]
theorem Mu{b:List Int}(hb:∀k,0<=eP b k):∀(l:List Int),gB b l=0->∀k∈l,eP b k=0:=by
 have key:∀(l:List Int) (s:Int),0<=s->l.foldl (λs k=>s+eP b k) s=0->s=0/\∀k∈l,eP b k=0:=by
  intro l
  induction l with
  | nil=>intro s h0 h;exact⟨h,sq⟩
  | cons k l ih=>
   intro s h0 h;rw[Zh] at h;have hk:=hb k;obtain⟨h1,h2⟩:=ih _ om h;refine⟨om,λq hq=>?_⟩;rcases ZC.1 hq with rfl|hq
   .omega
   .exact h2 q hq
 exact λl h=>(key l 0 (Int.le_refl _) h).2
theorem VT.len0(h:VT A){i:Nat}{x:Nd}(hx:A[i]? = some x)(h0:eP (bD A) i=0):x.kind≠1/\x.kind≠2/\(x.kind=3->∀k∈x.kids,eP (bD A) k=0) /\
  (x.kind=4->eP (bD A) (bO x 0)=0/\∀k∈x.kids.drop 1,eP (bD A) k=0):=by
 rw[h.len hx] at h0;have hb:=λk=>(h.lens0 k).1
 unfold f8 at h0;refine⟨λe=>?_,λe=>?_,λe=>?_,λe=>?_⟩
 .rw[Y3 om,Y7 e] at h0;omega
 .rw[Y3 om,Y3 om,Y3 om,Y7 e] at h0;have:=(iK (b:=bD A) (M:=1024) om (jW A h.v0).1 (eT x)).1;omega
 .rw[Y3 om,Y3 om,Y7 e] at h0;exact Mu hb _ h0
 .rw[Y3 om,Y3 om,Y3 om,Y3 om] at h0;have hm:=(iK (b:=bD A) (M:=1024) om (jW A h.v0).1 (eT x)).1;have hk:(x.kids.getD 0 0)=(bO x 0:Int):=by
   have:=(h.bind hx e).1;have h2:x.kids[0]? = some (bO x 0:Int):=(h.kid hx (j:=0) om).2;rw[Y0,h2];rfl
  rw[hk] at h0;have:=hb (bO x 0);refine⟨om,λk hk=>?_⟩;have ha:k∈eT x:=by unfold eT;rw[Y3 om];exact hk
  have h1:=(pF (ss:=bD A) (eT x) 0 k ha).1;have h1:eP (bD A) k<=c9 (bD A) (eT x):=h1;have:=hb k;omega
theorem Fl(v:bH):fR [v]=[v]:=by simp[fR,uK,eZ]
theorem Hz{bs:List iX}{g:Int->bH}:∀(ks:List Int) (r:List bH),(∀k∈ks,dT bs k=⟨[g k],false⟩)->f7 bs ks [r]=some [r++ks.map g]
 | [],r,_=>by simp[f7]
 | k::ks,r,h=>by
  simp only[f7];rw[h k (ZX ..)];rw[Y3 sq];simp only[iI,aA0,List.flatMap_nil,aAf,List.map_nil,aAi];rw[Hz ks (r++[g k]) λq hq=>h q (ZN _ hq)];simp
theorem Px(h:VT A):∀i,i<A.length->eP (bD A) i=0->dT (aS A) i=⟨[EU (dC A) i],false⟩:=by
 intro i
 induction i using Nat.strongRecOn with
 | ind i ih=>
  intro hi h0;have hx:=cS hi;have hkm:=λ(k:Int) (hk:k∈(aI A i).kids)=>fQ h hx hk
  obtain⟨l1,l2,l3,l4⟩:=h.len0 hx h0;have hbi:=λh4=>h.bind hx h4
  have hkd:=λ(j:Nat) (hj:j<(aI A i).kids.length)=>h.kid hx hj
  have hkind:=(h.node hx).node.kind;rw[h.lst hx,h.fix hx];rw[h.len hx] at h0;generalize aI A i=x at *;have ihk:∀k:Int,k∈x.kids->eP (bD A) k=0->dT (aS A) k=⟨[(dC A).getD k.toNat vZ],false⟩:=λk hk hz=>by
   have:=hkm k hk;have e:=ih k.toNat this.2 om (by rw[show ((k.toNat:Nat):Int)=k by omega];exact hz)
   rwa [show ((k.toNat:Nat):Int)=k by omega] at e
  unfold dN y7;rw[Y3 (show ¬0<f8 (bD A) x by omega)];by_cases k0:x.kind=0
  .rw[Y7 k0,Y7 k0]
  rw[Y3 k0,Y3 k0,Y3 l1];by_cases k3:x.kind=3
  .rw[Y7 k3,Y7 k3];unfold p9;rw[Hz x.kids [] λk hk=>ihk k hk (l3 k3 k hk)];simp[Fl]
  rw[Y3 k3,Y3 k3];have k4:x.kind=4:=om;rw[Y7 k4,Y7 k4];obtain⟨b1,b2,b3,b4⟩:=hbi k4;obtain⟨m1,m2⟩:=l4 k4;have e0:=hkd 0 om;have e0':x.kids[0]? = some (bO x 0:Int):=e0.2;have e1:=hkd 1 om;have e1':x.kids[1]? = some (bO x 1:Int):=e1.2;have hz:=ihk (bO x 0:Int) (Y5 e0') m1;rw[hz] at b4;have hvl:x.values.length=1:=by rw[<-b4];rfl
  have hk1:x.kids.drop 1=[(bO x 1:Int)]:=by
   apply List.ext_getElem?;intro j;rw[Zd];rcases j with _|j
   .rw[Zs,e1'];rfl
   .rw[ZJ om,ZJ sq]
  rw[hk1];have hz1:=ihk (bO x 1:Int) (Y5 e1') (m2 _ (by rw[hk1];simp));unfold mN;simp only[Zh,aCf,bY,hz1,Zp,Fl];simp
end
end Go.Ax
namespace Go.Ax
open Go
structure Sys(S R:Type) where
 sa:Nd->(Nat->S)->(Nat->bH->R)->S
 sf:Nd->(Nat->bH->R)->bH->R
 s0:S
 r0:R
 la:∀(x:Nd) (al al':Nat->S) (of of':Nat->bH->R),(∀k∈x.kids,al k.toNat=al' k.toNat)->(∀k∈x.kids,∀v,of k.toNat v=of' k.toNat v)->sa x al of=sa x al' of'
 lf:∀(x:Nd) (of of':Nat->bH->R) (v:bH),(∀k∈x.kids,∀v,of k.toNat v=of' k.toNat v)->sf x of v=sf x of' v
section
variable {S R:Type}
def Sys.run(y:Sys S R)(A:List Nd):Nat->(Nat->S) × (Nat->bH->R)
 | 0=>(λ_=>y.s0,λ_ _=>y.r0)
 | f+1=>(λi=>y.sa (aI A i) (y.run A f).1 (y.run A f).2,λi v=>y.sf (aI A i) (y.run A f).2 v)
def Sys.all(y:Sys S R)(A:List Nd)(i:Nat):S:=(y.run A (i+1)).1 i
def Sys.of(y:Sys S R)(A:List Nd)(i:Nat)(v:bH):R:=(y.run A (i+1)).2 i v
end
theorem Cs{G β:Type}{f g:β->G->β}:∀(l:List G) (b:β),(∀a∈l,∀b,f b a=g b a)->l.foldl f b=l.foldl g b
 | [],b,h=>rfl
 | a::l,b,h=>by
  rw[Zh,Zh,h a (ZX ..),Cs l _ λa ha=>h a (ZN _ ha)]
theorem G5{G:Type}{l:List G}{ks:List Int}{a:G × Int}(h:a∈l.zip (ks.drop 1)):a.2∈ks/\ks.getD 0 0∈ks:=by
 have:=Zn (List.of_mem_zip h).2;cases ks with
 | nil=>cases this
 | cons b r=>exact⟨this,sq⟩
def Wm(x:Nd):Nat:=(x.kids.getD 0 0).toNat
structure SP(T:Type) where
 one:T
 add:T->T->T
 mul:T->T->T
 opt:Nd->Nat->T
 spn:Nd->T
section
variable {T:Type}
def XC(g:SP T):Option T->Option T->Option T
 | none,b=>b
 | some a,none=>some a
 | some a,some b=>some (g.add a b)
def T4(g:SP T):Option T->Option T->Option T
 | some a,some b=>some (g.mul a b)
 | _,_=>none
def TG(g:SP T)(x:Nd)(al:Nat->Option T)(f:Option T)(kc:Int × Nat):Option T:=XC g f (T4 g (some (g.opt x kc.2)) (al kc.1.toNat))
end
end Go.Ax
namespace Go.Ax
open Go
def Yu(n:Nat):Option Nat:=if n=0 then none else some n
theorem VT.len256{A:List Nd}(h:VT A){i:Nat}{x:Nd}(hx:A[i]? = some x):0<=eP (bD A) i/\eP (bD A) i<=256:=by
 have hi:=(Y4.1 hx).1;have:=(gX (mY A h.v0 i x hx)).2.1;rw[h.lenC hx (ZA _) om,<-h.len hx] at this;exact⟨(h.lens0 i).1,this⟩
def Tz(x:Nd)(pv:Nat->List bH):List bH:=
 if x.kind=1 then iR x.lo x.hi
 else if x.kind=3 then(x.kids.foldl (λrows k=>iI rows (pv k.toNat)) [[]]).map (dW x.name)
 else if x.kind=2 then x.kids.flatMap λk=>pv k.toNat
 else if x.kind=4 then(x.values.zip (x.kids.drop 1)).flatMap λvk=>((pv (Wm x)).filter λu=>decide (c8 u vk.1=0)).flatMap λ_=>pv vk.2.toNat
 else [x.value]
theorem sP{G β:Type}{f g:G->List β}:∀(l:List G),(∀a∈l,f a=g a)->l.flatMap f=l.flatMap g
 | [],h=>rfl
 | a::l,h=>by rw[aA0,aA0,h a (ZX ..),sP l λa ha=>h a (ZN _ ha)]
def X7:Sys (List bH) Unit where
 sa:=λx al _=>Tz x al
 sf:=λ_ _ _=>()
 s0:=[]
 r0:=()
 la:=λx al al' of of' h1 h2=>by
  unfold Tz;split
  .rfl
  split
  .exact congrArg _ (Cs _ _ λk hk b=>by rw[h1 k hk])
  split
  .exact sP _ λk hk=>h1 k hk
  split
  .exact sP _ λvk hk=>by
    obtain⟨m1,m2⟩:=G5 hk;unfold Wm;rw[h1 _ m1,h1 _ m2]
  .rfl
 lf:=λx of of' v h2=>rfl
def AZ(A:List Nd)(i:Nat):List bH:=X7.all A i
def YW(n:Nat):Nat:=2 ^ (40*n)
theorem Ra(a:Nat):1<=YW a:=Nat.one_le_two_pow
end Go.Ax
namespace Go.Ax
open Go
section
variable {T:Type} (g:SP T)
end
def Yo(o:Option Nat):Prop:=∃n,n<=YW 256/\o=Yu n
theorem Yo.one:Yo (some 1):=⟨1,Ra _,rfl⟩
section
variable {A:List Nd} (h:VT A) {i:Nat} (hi:i<A.length)
include h hi
end
end Go.Ax
namespace Go.Ax
open Go
inductive i0 where
 | ret
 | pan (x:Value)
 | recd (x:Value)
def i0.mode:i0->FrameMode
 | .ret=>.returning
 | .pan x=>.panicking [pe x]
 | .recd x=>.panicking [{ v:=x,recovered:=true }]
def MK:List Value->Option (List AV)
 | []=>some []
 | .int k n::r=>match MK r with
  | some l=>some (.int k n::l)
  | none=>none
 | .bool b::r=>match MK r with
  | some l=>some (.bool b::l)
  | none=>none
 | _=>none
def Xy:Value->Option AV
 | .iface t (.agg arr)=>match MK arr.toList with
  | some l=>some (.ifc t (.agg l))
  | none=>none
 | _=>none
theorem DY{E:Nat->dP}{D:Nat->Prop}{O:Nat->Prop}{w:World}:∀{xs:List Value} {l:List AV},MK xs=some l->J6 E D O w l xs
 | [],l,h=>by simp only[MK] at h;cases h;exact⟨.nil,sq⟩
 | x::r,l,h=>by
  cases x<;>simp only[MK] at h<;>first|(cases h;done)|skip
  all_goals
   split at h
   .rename_i l' hl;cases h;obtain⟨h1,h2⟩:=DY (E:=E) (D:=D) (O:=O) (w:=w) hl;refine⟨.cons ?_ h1,λy hy=>?_⟩
    .first|exact .int _ _|exact .bool _
    .rcases ZC.1 hy with rfl|hy
     .rfl
     .exact h2 y hy
   .cases h
theorem M2{E:Nat->dP}{D:Nat->Prop}{O:Nat->Prop}{w:World}{x:Value}{v:AV}(h:Xy x=some v):VR E D O w v x:=by
 unfold Xy at h;split at h
 .rename_i t arr;split at h
  .rename_i l hl;cases h;obtain⟨h1,h2⟩:=DY (E:=E) (D:=D) (O:=O) (w:=w) hl;exact .ifc t _ _ (.agg l arr (by have:=h1.1;simpa using this) (λy hy=>h2 y (su hy)) λj c y hj hy=>h1.2 j c y hj (su hy))
  .cases h
 .cases h
structure tE(P:Program)(C:List (Nat × AV))(B:Nat)(c:Code)(s:St)(m:i0)(Q:Exit->St->i0->Prop):Prop where
 run:∀(X:Nat->Prop) (ds:List Deferred) (D:Nat->Prop) (E:Nat->dP) (a:Act) (w:World) (c₀:Frame) (cs:List Frame),(∀i,D i->i<B)->SR C X (ds,0) E (dn D B s.nx) s a w->B<=s.nx->c₀.mode=m.mode ->
  c.wpS P (λe a' cs' w'=>∃(s':St) (m':i0) (E':Nat->dP),Q e s' m'/\cs'={ c₀ with mode:=m'.mode }::cs/\B<=s'.nx/\SR C X (ds,0) E' (dn D B s'.nx) s' a' w'/\Ext D E s.mem w E' (dn D B s'.nx) s'.mem w') a (c₀::cs) w
section
variable {P:Program} {C:List (Nat × AV)} {B:Nat} {s:St} {m:i0} {Q:Exit->St->i0->Prop}
theorem sK{c₀:Frame}{u:FrameMode}(h:c₀.mode=u):{ c₀ with mode:=u }=c₀:=by subst h;rfl
theorem tE.of{c:Code}(hc:kE c=false)(h:eQ P C B c s λe s'=>Q e s' m):tE P C B c s m Q:=by
 refine⟨λX ds D E a w c₀ cs hD hs hB hm=>wpS_of_wp (Go.wp_mono (Gk.1 (h.run none X (ds,0) D E a w hD hs hB (.no hc))) ?_)⟩;rintro e a' w' ⟨s',E',hq,hB',hs',hext⟩;exact⟨s',m,E',hq,by rw[sK hm],hB',hs',hext⟩
def V3(P:Program)(C:List (Nat × AV))(B:Nat)(y:Code)(Q:Exit->St->i0->Prop)(e:Exit)(s:St)(m:i0):Prop:=
 match e with
 | .normal=>tE P C B y s m Q
 | e=>Q e s m
theorem zZ{c:Code}{Q Q':Exit->Act->List Frame->World->Prop}{a:Act}{cs:List Frame}{w:World}(h:c.wpS P Q a cs w)(hq:∀e a cs w,Q e a cs w->Q' e a cs w):c.wpS P Q' a cs w:=
 λb k hb hr=>let ⟨e,a',cs',w',q,r⟩:=h b k hb hr;⟨e,a',cs',w',hq _ _ _ _ q,r⟩
theorem tE.seq{x y:Code}(h:tE P C B x s m (V3 P C B y Q)):tE P C B (.seq x y) s m Q:=by
 refine⟨λX ds D E a w c₀ cs hD hs hB hm=>wpS_seq (zZ (h.run X ds D E a w c₀ cs hD hs hB hm) ?_)⟩;rintro e a' cs' w' ⟨s',m',E',hq,rfl,hB',hs',hext⟩;cases e with
 | normal=>
  refine zZ ((show tE P C B y s' m' Q from hq).run X ds D E' a' w' { c₀ with mode:=m'.mode } cs hD hs' hB' rfl) ?_;rintro e a2 cs2 w2 ⟨s2,m2,ρ2,h1,rfl,h2,h3,h4⟩;exact⟨s2,m2,ρ2,h1,rfl,h2,h3,hext.trans h4⟩
 | exit i=>exact⟨s',m',E',hq,rfl,hB',hs',hext⟩
 | goto l=>exact⟨s',m',E',hq,rfl,hB',hs',hext⟩
 | ret=>exact⟨s',m',E',hq,rfl,hB',hs',hext⟩
 | panic c=>exact⟨s',m',E',hq,rfl,hB',hs',hext⟩
 | outgrown=>exact⟨s',m',E',hq,rfl,hB',hs',hext⟩
theorem tE.cond{c:Operand}{x y:Code}{b:Bool}(hc:ev C s c=some (.bool b))(h:Qc b (tE P C B x s m Q) (tE P C B y s m Q)):tE P C B (.cond c x y) s m Q:=by
 refine⟨λX ds D E a w c₀ cs hD hs hB hm=>?_⟩;have hv:=aZ hs hc;generalize he:a.eval c=cv at hv;cases hv;cases b with
 | true=>exact wpS_cond he ((show tE P C B x s m Q from h).run X ds D E a w c₀ cs hD hs hB hm)
 | false=>exact wpS_cond he ((show tE P C B y s m Q from h).run X ds D E a w c₀ cs hD hs hB hm)
def Ok(op:Op):Bool:=
 match op with
 | .call c=>match c.callee with
  | .builtin .recover=>true
  | _=>false
 | _=>false
def Wj:i0->Option (AV × i0)
 | .ret=>some (.nif,.ret)
 | .pan x=>match Xy x with
  | some v=>some (v,.recd x)
  | none=>none
 | .recd x=>some (.nif,.recd x)
def Dy(P:Program)(C:List (Nat × AV))(ops:List Oper):List Oper->St->i0->(St->i0->Prop)->Prop
 | [],s,m,K=>K s m
 | o::r,s,m,K=>match mT ops s o.guard with
  | none=>False
  | some false=>match fN s o.dst (.tup []) s.mem s.nx with
   | some s'=>Dy P C ops r s' m K
   | none=>False
  | some true=>match Ok o.op with
   | true=>match Wj m with
    | some (v,m')=>match fN s o.dst v s.mem s.nx with
     | some s'=>Dy P C ops r s' m' K
     | none=>False
    | none=>False
   | false=>match dE P C s o.op with
    | some (v,mem,nx)=>match fN s o.dst v mem nx with
     | some s'=>Dy P C ops r s' m K
     | none=>False
    | none=>False
theorem MV{o:Oper}(h:Ok o.op=true)(E:Operand->Value)(w:World):(execOp E o).run P w = .ok .recover w:=by
 unfold Ok at h;split at h
 .rename_i c hop;split at h
  .rename_i hc;simp[execOp,hop,resolve,hc,invoke,builtin]
  .cases h
 .cases h
theorem Iy(ops:Array Oper):∀(l:List Nat) (s:St) (m:i0) (K:St->i0->Prop),Dy P C ops.toList (l.filterMap λi=>ops[i]?) s m K ->
  ∀(X:Nat->Prop) (ds:List Deferred) (D:Nat->Prop) (E:Nat->dP) (a:Act) (w:World) (c₀:Frame) (cs:List Frame) (Q:Exit->Act->List Frame->World->Prop),(∀i,D i->i<B)->SR C X (ds,0) E (dn D B s.nx) s a w->B<=s.nx->c₀.mode=m.mode ->
   (∀(s':St) (m':i0) (E':Nat->dP) (a':Act) (w':World),K s' m'->B<=s'.nx->SR C X (ds,0) E' (dn D B s'.nx) s' a' w'->Ext D E s.mem w E' (dn D B s'.nx) s'.mem w'->Q .normal a' ({ c₀ with mode:=m'.mode }::cs) w') ->
   wpOpsS P ops Q l a (c₀::cs) w:=by
 intro l
 induction l with
 | nil=>
  intro s m K h X ds D E a w c₀ cs Q hD hs hB hm hQ;have:=hQ s m E a w h hB hs (Ext.refl λi hi=>.inl hi);rw[sK hm] at this;exact this
 | cons i r ih=>
  intro s m K h X ds D E a w c₀ cs Q hD hs hB hm hQ;simp only[wpOpsS];cases ho:ops[i]? with
  | none=>
   simp only[aBR,ho] at h;exact ih s m K h X ds D E a w c₀ cs Q hD hs hB hm hQ
  | some o=>
   simp only[aBR,ho] at h;simp only[Dy] at h;split at h
   .exact h.elim
   .rename_i hw;have hw':=i5 hs hw;rw[aBp] at hw';simp only[hw',aAt,if_false];split at h
    .rename_i s' hst;obtain⟨h1,h2,h3⟩:=iF hst hs hs.mr vP (λh=>h) (λ_ _ h=>h);refine ih s' m K h X ds D E _ w c₀ cs Q hD (by rw[h3];exact h1) om hm λs2 m2 ρ2 a2 w2 k1 k2 k3 k4=>hQ s2 m2 ρ2 a2 w2 k1 k2 k3 gh
    .exact h.elim
   .rename_i hw;have hw':=i5 hs hw;rw[aBp] at hw';simp only[hw',if_true];split at h
    .rename_i hrec;rw[MV hrec];split at h
     .rename_i v m' hv;split at h
      .rename_i s' hst;have main:∀(x:Value) (c1:Frame),(VR E (dn D B s.nx) (OX X E s.mem) w v x)->c1={ c₀ with mode:=m'.mode }->wpOpsS P ops Q r (a.put o.dst x) (c1::cs) w:=by
        intro x c1 hx hc1;obtain⟨h1,h2,h3⟩:=iF hst hs hs.mr hx (λh=>h) (λ_ _ h=>h);subst hc1;exact ih s' m' K h X ds D E _ w { c₀ with mode:=m'.mode } cs Q hD (by rw[h3];exact h1) om rfl λs2 m2 ρ2 a2 w2 k1 k2 k3 k4=>hQ s2 m2 ρ2 a2 w2 k1 k2 k3 gh
       cases m with
       | ret=>
        cases hv;simp only[recoverD,hm,i0.mode];exact main _ c₀ .nif (sK hm).symm
       | pan x=>
        simp only[Wj] at hv;split at hv
        .rename_i u hu;cases hv;simp only[recoverD,hm,i0.mode,pe];exact main _ _ (M2 hu) rfl
        .cases hv
       | recd x=>
        cases hv;simp only[recoverD,hm,i0.mode];exact main _ c₀ .nif (sK hm).symm
      .exact h.elim
     .exact h.elim
    .split at h
     .rename_i v mem nx hstep;split at h
      .rename_i s' hst;have hnx:s.nx<=nx:=by rcases AU hstep with h'|h'<;>omega
       obtain⟨x,n,w',E',e1,e2,m1,v1,mono1,ext1⟩:=oA (P:=P) (D:=dn D B s.nx) (D':=dn D B nx) (λh'=>aBh _ (z7 hD hB _ h')) (Ca hnx) hs o (λe=>.inr ⟨hB,om⟩) hstep;obtain⟨h1,h2,h3⟩:=iF hst hs m1 v1 (ext1 _ λi hi=>hi).mks mono1;have fin:wpOpsS P ops Q r (a.put o.dst x) (c₀::cs) w':=ih s' m K h X ds D E' _ w' c₀ cs Q hD (by rw[h3];exact h1) (by rw[h3];exact Zk hB hnx) hm λs2 m2 ρ2 a2 w2 k1 k2 k3 k4=>hQ s2 m2 ρ2 a2 w2 k1 k2 k3 ((ext1 D λi hi=>.inl hi).trans gh)
       rw[e1];rcases e2 with rfl|⟨rfl,rfl⟩
       .exact fin
       .exact fin
      .exact h.elim
     .exact h.elim
theorem Fq(L:List Oper):∀(l:List Oper) (k:Nat),(∀j,L[k+j]? = l[j]?)->((List.range' k l.length).filterMap λi=>L[i]?)=l
 | [],k,h=>rfl
 | o::r,k,h=>by
  have h0:L[k]? = some o:=by simpa using h 0
  rw[ZZ,List.range'_succ,aBR,h0];simp only;rw[Fq L r (k+1) λj=>by have:=h (j+1);simpa[Nat.add_assoc,aBv 1 j] using this]
theorem tE.region{id:Nat}{ops:Array Oper}(h:Dy P C ops.toList ops.toList s m λs' m'=>Q .normal s' m'):tE P C B (.region id ops false) s m Q:=by
 refine⟨λX ds D E a w c₀ cs hD hs hB hm=>wpS_region ?_⟩;have e:((List.range ops.size).filterMap λi=>ops[i]?)=ops.toList:=by
  have:=Fq ops.toList ops.toList 0 (λj=>by rw[ZP]);rw[List.range_eq_range',<-Array.length_toList];simpa using this
 exact Iy ops (List.range ops.size) s m _ (by rw[e];exact h) X ds D E a w c₀ cs _ hD hs hB hm λs' m' E' a' w' h1 h2 h3 h4=>⟨s',m',E',h1,rfl,h2,h3,h4⟩
def Km(P:Program)(C:List (Nat × AV))(H:Hk):Code->St->i0->(St->i0->Prop)->Prop
 | .skip,s,m,K=>K s m
 | .seq x y,s,m,K=>Km P C H x s m λs' m'=>Km P C H y s' m' K
 | .cond c x y,s,m,K=>match ev C s c with
  | some (.bool b)=>match b with
   | true=>Km P C H x s m K
   | false=>Km P C H y s m K
  | _=>False
 | .region _ ops draw,s,m,K=>match draw with
  | false=>Dy P C ops.toList ops.toList s m K
  | true=>False
 | _,_,_,_=>False
theorem Jk{H:Hk}:∀(c:Code) (s:St) (m:i0) (K:St->i0->Prop),Km P C H c s m K->tE P C B c s m λe s' m'=>match e with
  | .normal=>K s' m'
  | _=>False:=by
 intro c
 induction c with
 | skip=>exact λs m K h=>.of rfl ⟨λrd X ds D E a w hD hs hB _=>wpIn_skip ⟨s,E,h,hB,hs,Ext.refl λi hi=>.inl hi⟩⟩
 | seq x y ihx ihy=>
  intro s m K h;refine tE.seq ?_;obtain⟨h'⟩:=ihx s m _ h;refine⟨λX ds D E a w c₀ cs hD hs hB hm=>zZ (h' X ds D E a w c₀ cs hD hs hB hm) ?_⟩;rintro e a' cs' w' ⟨s',m',E',hq,rest⟩;refine⟨s',m',E', ?_,rest⟩;cases e with
  | normal=>exact ihy s' m' K hq
  | _=>exact(show False from hq).elim
 | cond c x y ihx ihy=>
  intro s m K h;simp only[Km] at h;split at h
  .rename_i b hc;refine tE.cond hc ?_;cases b with
   | true=>exact ihx s m K h
   | false=>exact ihy s m K h
  .exact h.elim
 | region id ops draw=>
  intro s m K h;cases draw with
  | false=>exact tE.region h
  | true=>exact(show False from h).elim
 | _=>exact λs m K h=>(show False from h).elim
def DfR(E:Nat->dP)(D:Nat->Prop)(O:Nat->Prop)(w:World)(v:AV)(d:Deferred):Prop:=
 ∃(F:FuncId) (first cap:List AV) (vs:List Value) (a2:Array Value),v = .fn (.func F) first cap/\d.target = .fn (.func F) a2/\d.args.toList++a2.toList=vs/\kY E D O w (first++cap) vs
def Ge(P:Program)(C:List (Nat × AV))(H:Hk)(rs:List ResultVar)(v:AV)(s:St)(m:i0)(Q:AV->aR->Nat->Prop)(Qp:Value->aR->Nat->Prop):Prop:=
 match v with
 | .fn (.func F) first cap=>match P.funcs[F]? with
  | some fn=>match fn.body with
   | some c=>match fn.name == "runtime.NumGoroutine" with
    | false=>match fn.results.toList with
     | []=>Km P C H c (enter fn.ntmps (first++cap) s.mem s.nx) m λs' m'=>match m' with
      | .pan x=>Qp x s'.mem s'.nx
      | _=>match Av P rs { s with mem:=s'.mem,nx:=s'.nx } with
       | some r=>Q r s'.mem s'.nx
       | none=>False
     | _::_=>False
    | true=>False
   | none=>False
  | none=>False
 | _=>False
theorem AS{H:Hk}{X:Nat->Prop}{D:Nat->Prop}{E ρ0:Nat->dP}{a:Act}{w w0:World}{mem0:aR}{d:Deferred}{v:AV}{fn:Func}{Qr:AV->aR->Nat->Prop}{Qp:Value->aR->Nat->Prop}
  (hD:∀i,D i->i<B) (hs:SR C X ([d],0) E (dn D B s.nx) s a w) (hB:B<=s.nx) (hv:DfR E (dn D B s.nx) (OX X E s.mem) w v d) (hext:Ext D ρ0 mem0 w0 E (dn D B s.nx) s.mem w)
  (hm:m.mode≠.run) (h:Ge P C H fn.results.toList v s m Qr Qp) :
  Leaves P fn a.tmps (λe w'=>∃(mem':aR) (nx':Nat) (E':Nat->dP),B<=nx'/\MR C X E' (dn D B nx') mem' w'/\Ext D ρ0 mem0 w0 E' (dn D B nx') mem' w' /\
   ((∃(r:AV) (v:Value),e = .returned v/\Qr r mem' nx'/\VR E' (dn D B nx') (OX X E' mem') w' r v)\/(∃x:Value,e = .panicked [pe x]/\Qp x mem' nx'))) [d] m.mode w:=by
 obtain⟨F,first,cap,vs,a2,rfl,ht,hvs,hvr⟩:=hv;simp only[Ge] at h;split at h<;>first|exact h.elim|skip
 rename_i fd hf;split at h<;>first|exact h.elim|skip
 rename_i c hc;split at h<;>first|exact h.elim|skip
 rename_i hname;split at h<;>first|exact h.elim|skip
 rename_i hres;have hname':¬fd.name = "runtime.NumGoroutine" :=su hname
 refine⟨hm,.func F,a2,F,vs.toArray,ht, ?_, ?_⟩
 .rw[ht,<-hvs];have e:(d.args.toList++a2.toList).toArray=d.args++a2:=by apply aBB;simp
  simp[invoke,callFunc,hf,hc,hname',e]
 .refine callsD_of_wpS hf hc λc₀ cs hc0=>?_
  have hwide:∀id,dn (dn D B s.nx) s.nx s.nx id->dn D B s.nx id:=xQ hB (ZA _);have hsr:=zY (n:=fd.ntmps) (z7 hD hB) hs.mr hvr (aAA _);refine zZ ((Jk (B:=s.nx) (H:=H) c _ _ _ h).run X [] (dn D B s.nx) E _ w c₀ cs (z7 hD hB) hsr (ZA _) hc0) ?_;rintro e a' cs' w' ⟨s',m',E',hq,rfl,hB',hs',hext'⟩;cases e with
  | normal=>
   have hr0:(results fd a'.tmps).run P w' = .ok (.tuple #[]) w':=by
    have:=y9 (P:=P) (w:=w') (fn:=fd) (tmps:=a'.tmps) (vs:=[]) (by rw[hres];simp);simpa using this
   have ext2:=hext.trans ((hext'.sub λi hi=>.inl hi).wide (xQ hB hB'));obtain⟨m2,mono2,_⟩:=hs'.mr.widen (xQ hB hB');refine⟨hs'.def0.eq,m'.mode,rfl,.tuple #[],hr0, ?_⟩;have hs2:SR C X ([],0) E' (dn D B s'.nx) { s with mem:=s'.mem,nx:=s'.nx } { tmps:=a.tmps,defers:=[] } w':=
    ⟨m2,GB.start (ds:=([],0)) (aAA _),hs.size,λi u hi=>mono2 _ _ (hext'.vr (hs.slot i u hi))⟩
   have ret:settle m'.mode = .returning->(match Av P fn.results.toList { s with mem:=s'.mem,nx:=s'.nx } with
       | some r=>Qr r s'.mem s'.nx
       | none=>False)->Leaves P fn a.tmps (λe w'=>∃(mem':aR) (nx':Nat) (E':Nat->dP),B<=nx'/\MR C X E' (dn D B nx') mem' w'/\Ext D ρ0 mem0 w0 E' (dn D B nx') mem' w' /\
   ((∃(r:AV) (v:Value),e = .returned v/\Qr r mem' nx'/\VR E' (dn D B nx') (OX X E' mem') w' r v)\/(∃x:Value,e = .panicked [pe x]/\Qp x mem' nx'))) [] (settle m'.mode) w':=by
    intro hset hq;rw[hset];split at hq
    .rename_i r hr;obtain⟨x,h1,h2⟩:=zB hs2 hr;exact⟨x,h1,s'.mem,s'.nx,E',Zk hB hB',m2,ext2,.inl ⟨r,x,rfl,hq,h2⟩⟩
    .exact hq.elim
   cases m' with
   | ret=>exact ret rfl hq
   | recd x=>exact ret rfl hq
   | pan x=>exact⟨s'.mem,s'.nx,E',Zk hB hB',m2,ext2,.inr ⟨x,rfl,hq⟩⟩
  | _=>exact(show False from hq).elim
end
structure oW(P:Program)(C:List (Nat × AV))(B:Nat)(c:Code)(s:St)(Q:Exit->St->Option AV->Prop):Prop where
 run:∀(X:Nat->Prop) (D:Nat->Prop) (E:Nat->dP) (a:Act) (w:World),(∀i,D i->i<B)->SR C X ([],0) E (dn D B s.nx) s a w->B<=s.nx ->
  c.wp P (λe a' w'=>∃(s':St) (v:Option AV) (ds:List Deferred) (E':Nat->dP),Q e s' v/\B<=s'.nx/\SR C X (ds,0) E' (dn D B s'.nx) s' a' w'/\Ext D E s.mem w E' (dn D B s'.nx) s'.mem w' /\
   (match v with
    | none=>ds=[]
    | some v=>∃d,ds=[d]/\DfR E' (dn D B s'.nx) (OX X E' s'.mem) w' v d)) a w
section
variable {P:Program} {C:List (Nat × AV)} {B:Nat} {s:St} {Q:Exit->St->Option AV->Prop}
theorem SR.widen{X:Nat->Prop}{ds:List Deferred × Nat}{E:Nat->dP}{D D':Nat->Prop}{a:Act}{w:World}(hs:SR C X ds E D s a w)(hD:∀i,D i->D' i):SR C X ds E D' s a w:=by
 obtain⟨m,mono,_⟩:=hs.mr.widen hD;exact⟨m,hs.def0,hs.size,λi v hi=>mono _ _ (hs.slot i v hi)⟩
theorem oW.of{c:Code}(hc:kE c=false)(h:eQ P C B c s λe s'=>Q e s' none):oW P C B c s Q:=by
 refine⟨λX D E a w hD hs hB=>Go.wp_mono (Gk.1 (h.run none X ([],0) D E a w hD hs hB (.no hc))) ?_⟩;rintro e a' w' ⟨s',E',hq,hB',hs',hext⟩;exact⟨s',none,[],E',hq,hB',hs',hext,rfl⟩
theorem DfR.vr{X:Nat->Prop}{D D':Nat->Prop}{E E':Nat->dP}{mem mem':aR}{w w':World}{v:AV}{d:Deferred}(h:Ext D E mem w E' D' mem' w')(hv:DfR E D (OX X E mem) w v d):DfR E' D' (OX X E' mem') w' v d:=by
 obtain⟨F,first,cap,vs,a2,h1,h2,h3,h4⟩:=hv;exact⟨F,first,cap,vs,a2,h1,h2,h3,h4.1,λj c x hc hx=>h.vr (h4.2 j c x hc hx)⟩
def Wz(P:Program)(C:List (Nat × AV))(B:Nat)(y:Code)(Q:Exit->St->Option AV->Prop)(e:Exit)(s:St)(v:Option AV):Prop:=
 match e with
 | .normal=>match v with
  | none=>oW P C B y s Q
  | some v=>kE y=false/\eQ P C s.nx y s λe s'=>Q e s' (some v)
 | e=>Q e s v
theorem oW.seq{x y:Code}(h:oW P C B x s (Wz P C B y Q)):oW P C B (.seq x y) s Q:=by
 refine⟨λX D E a w hD hs hB=>wp_seq (Go.wp_mono (h.run X D E a w hD hs hB) ?_)⟩;rintro e a' w' ⟨s',v,ds,E',hq,hB',hs',hext,hv⟩;cases e with
 | normal=>
  cases v with
  | none=>
   have hv:ds=[]:=hv;subst hv;refine Go.wp_mono ((show oW P C B y s' Q from hq).run X D E' a' w' hD hs' hB') ?_;rintro e a2 w2 ⟨s2,v2,ds2,ρ2,h1,h2,h3,h4,h5⟩;exact⟨s2,v2,ds2,ρ2,h1,h2,h3,hext.trans h4,h5⟩
  | some v=>
   obtain⟨d,rfl,hd⟩:=hv;have key:=(show kE y=false/\eQ P C s'.nx y s' (λe s'=>Q e s' (some v)) from hq)
   refine Go.wp_mono (Gk.1 (key.2.run none X ([d],0) (dn D B s'.nx) E' a' w' (z7 hD hB') (hs'.widen λi hi=>.inl hi) (ZA _) (.no key.1))) ?_;rintro e a2 w2 ⟨s2,ρ2,h1,h2,h3,h4⟩;have hd2:=hd.vr h4;obtain⟨_,mono2,_⟩:=h3.mr.widen (xQ hB' h2);obtain⟨F,first,cap,vs,a2,g1,g2,g3,g4⟩:=hd2;exact⟨s2,some v,[d],ρ2,h1,Zk hB' h2,h3.widen (xQ hB' h2),hext.trans ((h4.sub λi hi=>.inl hi).wide (xQ hB' h2)),d,rfl,F,first,cap,vs,a2,g1,g2,g3,g4.1,λj c x hc hx=>mono2 _ _ (g4.2 j c x hc hx)⟩
 | exit i=>exact⟨s',v,ds,E',hq,hB',hs',hext,hv⟩
 | goto l=>exact⟨s',v,ds,E',hq,hB',hs',hext,hv⟩
 | ret=>exact⟨s',v,ds,E',hq,hB',hs',hext,hv⟩
 | panic c=>exact⟨s',v,ds,E',hq,hB',hs',hext,hv⟩
 | outgrown=>exact⟨s',v,ds,E',hq,hB',hs',hext,hv⟩
def I3(P:Program)(C:List (Nat × AV))(ops:List Oper):List Oper->St->(St->AV->Prop)->Prop
 | [],_,_=>False
 | o::r,s,K=>match mT ops s o.guard with
  | some true=>match o.op with
   | .defer c=>match r with
    | []=>match c.args.toList with
     | []=>match c.callee with
      | .value f=>match ev C s f with
       | some (.fn (.func F) first cap)=>match fN s o.dst (.tup []) s.mem s.nx with
        | some s'=>K s' (.fn (.func F) first cap)
        | none=>False
       | _=>False
      | _=>False
     | _::_=>False
    | _::_=>False
   | op=>match dE P C s op with
    | some (v,mem,nx)=>match fN s o.dst v mem nx with
     | some s'=>I3 P C ops r s' K
     | none=>False
    | none=>False
  | _=>False
theorem Bu(ops:List Oper):∀(l:List Oper) (s:St) (K:St->AV->Prop),I3 P C ops l s K ->
  ∀(X:Nat->Prop) (D:Nat->Prop) (E:Nat->dP) (a:Act) (w:World) (Q:Exit->Act->World->Prop),(∀i,D i->i<B)->SR C X ([],0) E (dn D B s.nx) s a w->B<=s.nx ->
   (∀(s':St) (v:AV) (d:Deferred) (E':Nat->dP) (a':Act) (w':World),K s' v->B<=s'.nx->SR C X ([d],0) E' (dn D B s'.nx) s' a' w'->Ext D E s.mem w E' (dn D B s'.nx) s'.mem w'->DfR E' (dn D B s'.nx) (OX X E' s'.mem) w' v d->Q .normal a' w')->wpList P ops.toArray Q l a w
 | [],s,K,h,X,D,E,a,w,Q,hD,hs,hB,hQ=>h.elim
 | o::r,s,K,h,X,D,E,a,w,Q,hD,hs,hB,hQ=>by
  simp only[I3] at h;refine wpList_step λK' hK'=>?_
  split at h<;>first|exact h.elim|skip
  rename_i hw;rw[i5 hs hw];simp only[if_true];split at h
  .rename_i c hop;split at h<;>first|exact h.elim|skip
   split at h<;>first|exact h.elim|skip
   rename_i hargs;split at h<;>first|exact h.elim|skip
   rename_i f hc;split at h<;>first|exact h.elim|skip
   rename_i F first cap hf
   split at h<;>first|exact h.elim|skip
   rename_i s' hst;have hv:=aZ hs hf;generalize he:a.eval f=fv at hv;cases hv with
   | fn _ _ _ a1 a2 l1 l2 r1 r2=>
    have hargs':c.args = #[]:=by apply aBB;simpa using hargs
    have e1:(execOp a.eval o).run P w = .ok (.defer { target:=.fn (.func F) a2,args:=a1 }) w:=by
     simp[execOp,hop,resolve,hc,he,Deferred.ofValue,hargs']
    unfold Oper.wp;rw[e1];have hs':SR C X ([{ target:=.fn (.func F) a2,args:=a1 }],0) E (dn D B s.nx) s { a with defers:={ target:=.fn (.func F) a2,args:=a1 }::a.defers } w:=
     ⟨hs.mr,by rw[hs.def0.eq];exact GB.start (ds:=([_],0)) (aAA _),hs.size,hs.slot⟩
    obtain⟨h1,h2,h3⟩:=iF hst hs' hs'.mr vP (λh=>h) (λ_ _ h=>h);refine hK' _ _ (wpList_nil (hQ s' _ _ E _ w h (by rw[h3];exact hB) (by rw[h3];exact h1) (by rw[h2,h3];exact Ext.refl λi hi=>.inl hi) ?_));refine⟨F,first,cap,a1.toList++a2.toList,a2,rfl,rfl,rfl, ?_⟩;rw[h2,h3];exact kY.append ⟨su l1,λj c x h1 h2=>r1 j c x h1 (su h2)⟩ ⟨su l2,λj c x h1 h2=>r2 j c x h1 (su h2)⟩
  .rename_i hnd;split at h<;>first|exact h.elim|skip
   rename_i v mem nx hstep;split at h<;>first|exact h.elim|skip
   rename_i s' hst;have hnx:s.nx<=nx:=by rcases AU hstep with h'|h'<;>omega
   obtain⟨x,n,w',E',e1,e2,m1,v1,mono1,ext1⟩:=oA (P:=P) (D:=dn D B s.nx) (D':=dn D B nx) (λh'=>aBh _ (z7 hD hB _ h')) (Ca hnx) hs o (λe=>.inr ⟨hB,om⟩) hstep;obtain⟨h1,h2,h3⟩:=iF hst hs m1 v1 (ext1 _ λi hi=>hi).mks mono1;have fin:K' (a.put o.dst x) w':=hK' _ _ (Bu ops r s' K h X D E' _ w' Q hD (by rw[h3];exact h1) (by rw[h3];exact Zk hB hnx) λs2 v2 d2 ρ2 a2 w2 k1 k2 k3 k4 k5=>hQ s2 v2 d2 ρ2 a2 w2 k1 k2 k3 ((ext1 D λi hi=>.inl hi).trans gh) k5);unfold Oper.wp;rw[e1];rcases e2 with rfl|⟨rfl,rfl⟩
   .exact fin
   .exact fin
theorem oW.region{id:Nat}{ops:Array Oper}(h:I3 P C ops.toList ops.toList s λs' v=>Q .normal s' (some v)):oW P C B (.region id ops false) s Q:=by
 refine⟨λX D E a w hD hs hB=>wp_region_list ?_⟩;have:=Bu ops.toList ops.toList s _ h X D E a w (λe a' w'=>∃(s':St) (v:Option AV) (ds:List Deferred) (E':Nat->dP),Q e s' v/\B<=s'.nx/\SR C X (ds,0) E' (dn D B s'.nx) s' a' w'/\Ext D E s.mem w E' (dn D B s'.nx) s'.mem w' /\
   (match v with
    | none=>ds=[]
    | some v=>∃d,ds=[d]/\DfR E' (dn D B s'.nx) (OX X E' s'.mem) w' v d)) hD hs hB
  (λs' v d E' a' w' h1 h2 h3 h4 h5=>⟨s',some v,[d],E',h1,h2,h3,h4,d,rfl,h5⟩)
 simpa using this
def Sb(P:Program)(C:List (Nat × AV))(H:Hk)(rs:List ResultVar)(Q:AV->aR->Nat->Prop)(Qp:Value->aR->Nat->Prop)(s:St)(v:Option AV):Prop:=
 match v with
 | none=>match Av P rs s with
  | some r=>Q r s.mem s.nx
  | none=>False
 | some v=>Ge P C H rs v s .ret Q Qp
def YR(P:Program)(C:List (Nat × AV))(H:Hk)(rs:List ResultVar)(Q:AV->aR->Nat->Prop)(Qp:Value->aR->Nat->Prop)(x:Value)(s:St)(v:Option AV):Prop:=
 match v with
 | none=>Qp x s.mem s.nx
 | some v=>Ge P C H rs v s (.pan x) Q Qp
def Dh(P:Program)(C:List (Nat × AV))(H:Hk)(rs:List ResultVar)(Q:AV->aR->Nat->Prop)(Qp:Value->aR->Nat->Prop):Exit->St->Option AV->Prop:=λe s v=>
 match e with
 | .normal=>Sb P C H rs Q Qp s v
 | .ret=>Sb P C H rs Q Qp s v
 | .panic [⟨x,false,false⟩]=>YR P C H rs Q Qp x s v
 | _=>False
theorem tS{H:Hk}{F:FuncId}{fn:Func}{c:Code}{args:List AV}{mem:aR}{nx:Nat}{Q:AV->aR->Nat->Prop}{Qp:Value->aR->Nat->Prop}(hf:P.funcs[F]? = some fn)(hb:fn.body=some c)
  (h:oW P C nx c (enter fn.ntmps args mem nx) (Dh P C H fn.results.toList Q Qp)) (hF:Nat.beq F YF=false:=by rfl):cD P C F args mem nx Q Qp:=by
 refine⟨λX D E w vs hD hm hv=>.of hF (calls_of_wp_defers hf hb ?_)⟩;refine Go.wp_mono (h.run X D E _ w hD (zY hD hm hv (aAA _)) (ZA _)) ?_;rintro e a' w' ⟨s',v,ds,E',hq,hB',hs',hext,hv⟩;have ret:Sb P C H fn.results.toList Q Qp s' v->Leaves P fn a'.tmps (λe w'=>∃(mem':aR) (nx':Nat) (E':Nat->dP),nx<=nx'/\MR C X E' (dn D nx nx') mem' w'/\Ext D E mem w E' (dn D nx nx') mem' w' /\
   ((∃(r:AV) (v:Value),e = .returned v/\Q r mem' nx'/\VR E' (dn D nx nx') (OX X E' mem') w' r v)\/(∃x:Value,e = .panicked [pe x]/\Qp x mem' nx'))) a'.defers .returning w':=by
  intro hq;cases v with
  | none=>
   have hv:ds=[]:=hv;subst hv;rw[hs'.def0.eq];simp only[Sb] at hq;split at hq
   .rename_i r hr;obtain⟨x,h1,h2⟩:=zB hs' hr;exact⟨x,h1,s'.mem,s'.nx,E',hB',hs'.mr,hext,.inl ⟨r,x,rfl,hq,h2⟩⟩
   .exact hq.elim
  | some v=>
   obtain⟨d,rfl,hd⟩:=hv;rw[hs'.def0.eq];exact AS (B:=nx) (m:=.ret) hD hs' hB' hd hext (by simp[i0.mode]) hq
 cases e with
 | normal=>exact ret hq
 | ret=>exact ret hq
 | panic ch=>
  unfold Dh at hq;split at hq
  .rename_i e;cases e
  .rename_i e;cases e
  .rename_i x e;cases e
   show Leaves P fn a'.tmps _ a'.defers (.panicking [pe x]) w'
   cases v with
   | none=>
    have hv:ds=[]:=hv;subst hv;rw[hs'.def0.eq];exact⟨s'.mem,s'.nx,E',hB',hs'.mr,hext,.inr ⟨x,rfl,hq⟩⟩
   | some v=>
    obtain⟨d,rfl,hd⟩:=hv;rw[hs'.def0.eq];exact AS (B:=nx) (m:=.pan x) hD hs' hB' hd hext (by simp[i0.mode]) hq
  .exact hq.elim
 | _=>exact(show False from hq).elim
end
end Go.Ax
namespace Go.Ax
open Go
def T9(F:Nat):List Nat->Bool
 | []=>false
 | ag::r=>match Nat.beq ag F with
  | true=>true
  | false=>T9 F r
def Tf:List Oper->Bool
 | []=>false
 | o::r=>match o.op with
  | .defer _=>true
  | _=>Tf r
def Ka(cl:Bool)(P:Program)(C:List (Nat × AV))(H:Hk):Code->St->(Exit->St->Option AV->Prop)->Prop
 | .seq x y,s,Q=>Ka cl P C H x s λe s' v=>match e with
  | .normal=>match v with
   | none=>Ka cl P C H y s' Q
   | some v=>match kE y with
    | false=>Ct cl P C H y s' λe s''=>Q e s'' (some v)
    | true=>False
  | e=>Q e s' v
 | .region id ops draw,s,Q=>match Tf ops.toList with
  | true=>match draw with
   | false=>I3 P C ops.toList ops.toList s λs' v=>Q .normal s' (some v)
   | true=>False
  | false=>Ct cl P C H (.region id ops draw) s λe s'=>Q e s' none
 | c,s,Q=>match kE c with
  | false=>Ct cl P C H c s λe s'=>Q e s' none
  | true=>False
theorem Kb{cl:Bool}{P:Program}{C:List (Nat × AV)}{H:Hk}(hH:∀B,BB P C B H)(B:Nat):∀(c:Code) (s:St) (Q:Exit->St->Option AV->Prop),Ka cl P C H c s Q->oW P C B c s Q:=by
 intro c
 induction c with
 | seq x y ihx ihy=>
  intro s Q h;simp only[Ka] at h;refine oW.seq ?_;obtain⟨h'⟩:=ihx s _ h;refine⟨λX D E a w hD hs hB=>Go.wp_mono (h' X D E a w hD hs hB) ?_⟩;rintro e a' w' ⟨s',v,ds,E',hq,rest⟩;refine⟨s',v,ds,E', ?_,rest⟩;cases e with
  | normal=>
   cases v with
   | none=>exact ihy s' Q hq
   | some v=>
    simp only at hq;split at hq
    .rename_i hr;exact⟨hr,iA (hH s'.nx) y s' _ hq⟩
    .exact hq.elim
  | exit i=>exact hq
  | goto l=>exact hq
  | ret=>exact hq
  | panic c=>exact hq
  | outgrown=>exact hq
 | region id ops draw=>
  intro s Q h;simp only[Ka] at h;split at h
  .split at h
   .exact oW.region h
   .exact h.elim
  .exact .of rfl (iA (hH B) _ _ _ h)
 | _=>
  intro s Q h;simp only[Ka] at h;split at h
  .rename_i hr;exact .of hr (iA (hH B) _ _ _ h)
  .exact h.elim
end Go.Ax
namespace Go.Ax
open Go
section
variable {P:Program} {C:List (Nat × AV)} {B:Nat}
theorem cD.use{F:FuncId}{asz args:List AV}{ms mem m1 rest:aR}{ns nx:Nat}{Qs K:AV->aR->Nat->Prop}{Qsp Kp:Value->aR->Nat->Prop}(hΓ:∀p∈C,NN p.2)(h:cD P C F asz ms ns Qs Qsp)(J:List (Nat × Nat))
  (hp:vB mem m1 rest) (hrest:(rest.map (·.1)).Nodup) (hargs:iS m1 J args asz) (hM:PK m1 J ms) (hnod:(ms.map (·.1)).Nodup) (hinj:J1 J) (hlt:∀id i,lk J id=some i->i<ns)
  (hk:∀r m n,Qs r m n->ns<=n->∃I r' m' n',nx<=n'/\Cv m I r r'/\PK m I m'/\(m'.map (·.1)).Nodup/\J1 I/\(∀i id,lk I i=some id->(i<ns/\lk J id=some i)\/(ns<=i/\nx<=id/\id<n')) /\
   (∀p∈m',∀q∈rest,p.1≠q.1)/\K r' (m'++rest) n')
  (hkp:∀x m n,Qsp x m n->ns<=n->∃I m' n',nx<=n'/\PK m I m'/\(m'.map (·.1)).Nodup/\J1 I/\(∀i id,lk I i=some id->(i<ns/\lk J id=some i)\/(ns<=i/\nx<=id/\id<n')) /\
   (∀p∈m',∀q∈rest,p.1≠q.1)/\Kp x (m'++rest) n'):cD P C F args mem nx K Kp:=by
 refine⟨λX D E w vs hD hm hv=>?_⟩;obtain⟨p1,pv⟩:=hm.part hp;have hσ:∀id i,lk J id=some i->D id->(∃id,lk J id=some i/\D id)/\kF J E E i=E id:=λid i h1 h2=>⟨⟨id,h1,h2⟩,kM hinj h1⟩
 obtain⟨s1,sv,so⟩:=p1.turn (D':=λi=>∃id,lk J id=some i/\D id) hΓ hσ hM hnod hinj;have hvs:kY (kF J E E) (λi=>∃id,lk J id=some i/\D id) (OX (XR X E rest) (kF J E E) ms) w asz vs:=
  ⟨by rw[<-hargs.1];exact hv.1,λj c' x hc' hx=>by
   obtain⟨c,hc⟩:=dO hargs.1 hc';exact sv c c' (hargs.2 j c c' hc hc') _ (pv _ _ (hv.2 j c x hc hx))⟩
 refine(h.run _ _ _ w vs (λi ⟨id,h1,_⟩=>hlt id i h1) s1 hvs).mono ?_;rintro e w' ⟨m,n,ρs,hn,r1,ext,hres⟩;have main:∀(I:List (Nat × Nat)) (m':aR) (n':Nat),nx<=n'->PK m I m'->(m'.map (·.1)).Nodup->J1 I->(∀i id,lk I i=some id->(i<ns/\lk J id=some i)\/(ns<=i/\nx<=id/\id<n'))->(∀p∈m',∀q∈rest,p.1≠q.1) ->
   ∃E',MR C X E' (dn D nx n') (m'++rest) w'/\Ext D E mem w E' (dn D nx n') (m'++rest) w'/\∀r r',Cv m I r r'->∀x,VR ρs (dn (λi=>∃id,lk J id=some i/\D id) ns n) (OX (XR X E rest) ρs m) w' r x->VR E' (dn D nx n') (OX X E' (m'++rest)) w' r' x:=by
  intro I m' n' hn' t2 t3 t4 t5 t6;have hτ:∀i id,lk I i=some id->dn (λi=>∃id,lk J id=some i/\D id) ns n i->dn D nx n' id/\kF I ρs E id=ρs i:=by
   intro i id h1 h2;refine⟨?_,kM t4 h1⟩;rcases t5 i id h1 with⟨h3,h4⟩|⟨h3,h4,h5⟩
   .rcases h2 with⟨id0,h5,h6⟩|⟨h5,_⟩
    .rw[hinj id id0 i h4 h5];exact .inl h6
    .omega
   .exact .inr ⟨h4,h5⟩
  obtain⟨u1,uv,uo⟩:=r1.turn hΓ hτ t2 t3 t4;have hext:Ext D E m1 w (kF I ρs E) (dn D nx n') m' w':=by
   refine⟨λi hi=>.inl hi,λid hid=>?_,ext.size,λb hb ho=>?_,λp hp' hpn=>?_,ext.env⟩
   .by_cases hex:∃i,lk I i=some id
    .obtain⟨i,hi⟩:=hex;rw[kM t4 hi];rcases t5 i id hi with⟨h3,h4⟩|⟨h3,h4,h5⟩
     .rw[ext.agree i ⟨id,h4,hid⟩,kM hinj h4]
     .have:=hD id hid;omega
    .exact wY hex
   .refine ext.keep b hb λ⟨p,hp',hpn,e⟩=>ho ?_
    rw[<-e];exact so p hp' hpn
   .obtain⟨q,hq',hqn,e⟩:=uo p hp' hpn;rw[<-e];rcases ext.fresh q hq' hqn with⟨q',hq1,hq2,e'⟩|h1
    .rw[<-e'];exact .inl (so q' hq1 hq2)
    .exact .inr h1
  obtain⟨j1,j2,j3,j4⟩:=MR.join (D':=dn D nx n') hm hp u1 hext (λp hp=>hp) t6 hrest;exact⟨_,j1,j4 D λi hi=>hi,λr r' hc x hx=>j2 _ _ (uv r r' hc _ hx)⟩
 rcases hres with⟨r,v,rfl,hq,rv⟩|⟨x,rfl,hq⟩
 .obtain⟨I,r',m',n',hn',t1,t2,t3,t4,t5,t6,hK⟩:=hk r m n hq hn;obtain⟨E',k1,k2,k3⟩:=main I m' n' hn' t2 t3 t4 t5 t6;exact⟨_,n',E',hn',k1,k2,.inl ⟨r',v,rfl,hK,k3 r r' t1 _ rv⟩⟩
 .obtain⟨I,m',n',hn',t2,t3,t4,t5,t6,hK⟩:=hkp x m n hq hn;obtain⟨E',k1,k2,k3⟩:=main I m' n' hn' t2 t3 t4 t5 t6;exact⟨_,n',E',hn',k1,k2,.inr ⟨x,rfl,hK⟩⟩
def Lk(B:Nat)(Qp:Value->aR->Nat->Prop)(x:Value)(m:aR)(n:Nat):Prop:=oC B (λ_ m n=>Qp x m n) .junk m n
theorem cD.turn{F:FuncId}{args:List AV}{mem:aR}{nx:Nat}{Q:AV->aR->Nat->Prop}{Qp:Value->aR->Nat->Prop}(hΓ:∀p∈C,NN p.2)(h:cD P C F args mem nx (oC nx Q) (Lk nx Qp)):cD P C F args mem nx Q Qp:=by
 refine⟨λX D E w vs hD hm hv=>(h.run X D E w vs hD hm hv).mono ?_⟩;rintro e w' ⟨m,n,E',h3,h4,h6,(⟨r,v,h1,⟨J,r',m',n',hc,hq⟩,h5⟩|⟨x,h1,⟨J,r',m',n',hc,hq⟩⟩)⟩
 .obtain⟨m1,v1,e1⟩:=u9 hΓ hD h4 hc.mem hc.nod hc.inj hc.old;exact⟨m',n',_,hc.nx,m1,h6.trans e1,.inl ⟨r',v,h1,hq,v1 r r' hc.res _ h5⟩⟩
 .obtain⟨m1,v1,e1⟩:=u9 hΓ hD h4 hc.mem hc.nod hc.inj hc.old;exact⟨m',n',_,hc.nx,m1,h6.trans e1,.inr ⟨x,h1,hq⟩⟩
structure pN(P:Program)(C:List (Nat × AV))(B:Nat)(ops l:List Oper)(s:St)(K:St->Prop)(Kp:Value->St->Prop):Prop where
 run:xI P C (G9 P C B) ops l s K Kp
def NH(P:Program)(C:List (Nat × AV))(B:Nat)(ops:List Oper)(K:St->Prop)(Kp:Value->St->Prop)(next:List Oper->St->Prop)(l:List Oper)(s:St):Prop:=
 match l with
 | []=>K s
 | o::r=>GI s λsl mem nx nt=>tT ops sl o.guard
   (Hx false P C (G9 P C B) sl mem nx o.op (λv mem nx=>lS s o.dst v mem nx λs'=>next r s') λx mem nx=>Kp x ⟨sl,mem,nx,nt⟩)
   (lS s o.dst (.tup []) mem nx λs'=>next r s')
theorem A2{ops:List Oper}{K:St->Prop}{Kp:Value->St->Prop}{next:List Oper->St->Prop}(hn:∀r s,next r s->pN P C B ops r s K Kp){l:List Oper}{s:St}(h:NH P C B ops K Kp next l s):pN P C B ops l s K Kp:=by
 refine⟨?_⟩;cases l with
 | nil=>exact h
 | cons o r=>
  have h:tT ops s.sl o.guard (Hx false P C (G9 P C B) s.sl s.mem s.nx o.op (λv mem nx=>lS s o.dst v mem nx λs'=>next r s') λx mem nx=>Kp x ⟨s.sl,mem,nx,s.nt⟩) (lS s o.dst (.tup []) s.mem s.nx λs'=>next r s'):=h;simp only[xI];rcases sR h with⟨h1,h⟩|⟨h1,h⟩
  .simp only[h1];rcases K9 h with⟨v,m,n,h2,h⟩|⟨h2,F,l,h3,h⟩|⟨h2,h3,y,h4,h⟩
   .obtain⟨s',h4,h⟩:=eU h;simp only[h2,h4];exact(hn _ _ h).run
   .simp only[h2,h3];refine(show cD P C F l s.mem s.nx _ _ from h).mono (λv m n h=>?_) λx m n h=>h
    obtain⟨s',h4,h⟩:=eU h;simp only[h4];exact(hn _ _ h).run
   .simp only[h2,h3,h4];exact h
  .obtain⟨s',h4,h⟩:=eU h;simp only[h1,h4];exact(hn _ _ h).run
def Wo(P:Program)(C:List (Nat × AV))(B:Nat)(ops:List Oper)(K:St->Prop)(Kp:Value->St->Prop)(l:List Oper)(s:St):Prop:=pN P C B ops l s K Kp
theorem RW{ops:List Oper}{K:St->Prop}{Kp:Value->St->Prop}(l:List Oper)(s:St)(h:Wo P C B ops K Kp l s):pN P C B ops l s K Kp:=h
def Wn(P:Program)(C:List (Nat × AV))(B:Nat)(ops:List Oper)(K:St->Prop)(Kp:Value->St->Prop)(l:List Oper)(s:St):Prop:=NH P C B ops K Kp (Wo P C B ops K Kp) l s
theorem ST{ops:List Oper}{K:St->Prop}{Kp:Value->St->Prop}(l:List Oper)(s:St)(h:Wn P C B ops K Kp l s):pN P C B ops l s K Kp:=A2 RW h
def XA(P:Program)(C:List (Nat × AV))(B:Nat)(ops:List Oper)(K:St->Prop)(Kp:Value->St->Prop)(l:List Oper)(s:St):Prop:=NH P C B ops K Kp (Wn P C B ops K Kp) l s
theorem R4{ops:List Oper}{K:St->Prop}{Kp:Value->St->Prop}(l:List Oper)(s:St)(h:XA P C B ops K Kp l s):pN P C B ops l s K Kp:=A2 ST h
def XJ(P:Program)(C:List (Nat × AV))(B:Nat)(ops:List Oper)(K:St->Prop)(Kp:Value->St->Prop)(l:List Oper)(s:St):Prop:=NH P C B ops K Kp (XA P C B ops K Kp) l s
theorem RJ{ops:List Oper}{K:St->Prop}{Kp:Value->St->Prop}(l:List Oper)(s:St)(h:XJ P C B ops K Kp l s):pN P C B ops l s K Kp:=A2 R4 h
def Wd(P:Program)(C:List (Nat × AV))(B:Nat)(ops:List Oper)(K:St->Prop)(Kp:Value->St->Prop)(l:List Oper)(s:St):Prop:=NH P C B ops K Kp (XJ P C B ops K Kp) l s
theorem Sk{ops:List Oper}{K:St->Prop}{Kp:Value->St->Prop}(l:List Oper)(s:St)(h:Wd P C B ops K Kp l s):pN P C B ops l s K Kp:=A2 RJ h
def Ue(P:Program)(C:List (Nat × AV))(B:Nat)(ops:List Oper)(K:St->Prop)(Kp:Value->St->Prop)(l:List Oper)(s:St):Prop:=NH P C B ops K Kp (Wd P C B ops K Kp) l s
theorem SU{ops:List Oper}{K:St->Prop}{Kp:Value->St->Prop}(l:List Oper)(s:St)(h:Ue P C B ops K Kp l s):pN P C B ops l s K Kp:=A2 Sk h
theorem pN.many{ops l:List Oper}{s:St}{K:St->Prop}{Kp:Value->St->Prop}(h:Ue P C B ops K Kp l s):pN P C B ops l s K Kp:=SU l s h
structure CE(P:Program)(C:List (Nat × AV))(B:Nat)(ops:List Oper)(tr:List (List Nat))(base:Nat)(K:St->Prop)(Kp:Value->aR->Nat->Prop)(l:List Nat)(recs:List Bf)(s:St):Prop where
 run:qB P C (G9 P C B) ops tr base K Kp l recs s
def U5(P:Program)(C:List (Nat × AV))(B:Nat)(ops:List Oper)(tr:List (List Nat))(base:Nat)(K:St->Prop)(Kp:Value->aR->Nat->Prop)(l:List Nat)(recs:List Bf)(s:St):Prop:=
 match l with
 | []=>K s
 | i::r=>match ops[i]? with
  | none=>False
  | some o=>GI s λsl mem nx nt=>tT ops sl o.guard
   (match kind P o.op with
    | .pure=>match still o.op with
     | true=>qD false P C sl [] nx o.op λv _ _=>lS s o.dst v mem nx λs'=>CE P C B ops tr base K Kp r (⟨i,sl,true,v⟩::recs) s'
     | false=>iJ (λp=>H5 tr base ops.length i p.1) mem λm=>qD false P C sl m nx o.op λv _ _=>lS s o.dst v mem nx λs'=>CE P C B ops tr base K Kp r (⟨i,sl,true,v⟩::recs) s'
    | .al=>pS (base+i) λid=>qD false P C sl [] id o.op λv m _=>match m with
     | [(_,b)]=>lS s o.dst v ((id,b)::mem) nx λs'=>CE P C B ops tr base K Kp r (⟨i,sl,true,v⟩::recs) s'
     | _=>False
    | .eff=>iJ (λp=>H5 tr base ops.length i p.1) mem λm=>ET false P C (G9 P C B) sl m nx o.op (λv m nx'=>iJ (λp=>!H5 tr base ops.length i p.1) mem λrest=>iJ (λp=>!s5 p.1 m) rest λrest=>Cw m rest λm=>
      lS s o.dst v m nx' λs'=>sS false P C ops tr base i m nx' recs (CE P C B ops tr base K Kp r recs s')) Kp)
   (lS s o.dst (.tup []) mem nx λs'=>CE P C B ops tr base K Kp r (⟨i,sl,false,.tup []⟩::recs) s')
theorem CE.go{ops:List Oper}{tr:List (List Nat)}{base:Nat}{K:St->Prop}{Kp:Value->aR->Nat->Prop}{l:List Nat}{recs:List Bf}{s:St}(h:U5 P C B ops tr base K Kp l recs s):CE P C B ops tr base K Kp l recs s:=by
 refine⟨?_⟩;cases l with
 | nil=>exact h
 | cons i r=>
  simp only[U5] at h;simp only[qB];split at h
  .exact h.elim
  .rename_i o ho;simp only[ho];have h:=qH.1 h;rcases sR h with⟨h1,h⟩|⟨h1,h⟩
   .simp only[h1];split at h
    .rename_i hkd;simp only[hkd];split at h
     .rename_i hst;obtain⟨v,m,n,h2,h⟩:=kT (s:={ sl:=s.sl,mem:=[],nx:=s.nx,nt:=s.nt }) h;obtain⟨m',n',h2'⟩:=qL (s:={ sl:=s.sl,mem:=[],nx:=s.nx,nt:=s.nt }) (s':={ s with mem:=jQ tr base ops.length i s.mem }) hst rfl h2;obtain⟨s',h3,h⟩:=eU h;simp only[h2',h3];exact h.run
     .have h:=cV.1 h;obtain⟨v,m,n,h2,h⟩:=kT (s:={ s with mem:=jQ tr base ops.length i s.mem }) h;obtain⟨s',h3,h⟩:=eU h;simp only[h2,h3];exact h.run
    .rename_i hkd;simp only[hkd];have h:=eE.1 h;obtain⟨v,m,n,h2,h⟩:=kT (s:={ s with mem:=[],nx:=base+i }) h;simp only[h2];split at h
     .obtain⟨s',h3,h⟩:=eU h;simp only[h3];exact h.run
     .exact h.elim
    .rename_i hkd;simp only[hkd];have h:=cV.1 h;rcases BU (s:={ s with mem:=jQ tr base ops.length i s.mem }) h with⟨v,m,n,h2,h⟩|⟨h2,F,l,h3,h⟩
     .simp only[h2];have h:=jB.1 (cV.1 (cV.1 h));obtain⟨s',h3,h⟩:=eU h;have h3:fN s o.dst v (m++qX m (gL tr base ops.length i s.mem)) n=some s':=h3;simp only[h3];obtain⟨e1,e2,_⟩:=gJ h3;have h:sS false P C ops tr base i (m++qX m (gL tr base ops.length i s.mem)) n recs (CE P C B ops tr base K Kp r recs s'):=h;rw[<-e1,<-e2] at h;obtain⟨h4,h⟩:=oM h;exact⟨h4,h.run⟩
     .rw[qJ (s':=s) (λx _=>by cases x<;>rfl)] at h3;simp only[h2,h3];refine(show cD P C F l _ _ _ _ from h).mono (λv m n h=>?_) λx m n h=>h
      have h:=jB.1 (cV.1 (cV.1 h));obtain⟨s',h3,h⟩:=eU h;have h3:fN s o.dst v (m++qX m (gL tr base ops.length i s.mem)) n=some s':=h3;simp only[h3];obtain⟨e1,e2,_⟩:=gJ h3;have h:sS false P C ops tr base i (m++qX m (gL tr base ops.length i s.mem)) n recs (CE P C B ops tr base K Kp r recs s'):=h;rw[<-e1,<-e2] at h;obtain⟨h4,h⟩:=oM h;exact⟨h4,h.run⟩
   .obtain⟨s',h3,h⟩:=eU h;simp only[h1,h3];exact h.run
def OJ(P:Program)(C:List (Nat × AV))(B:Nat)(ops:List Oper)(s:St)(Q:Exit->St->Prop):Prop:=
 match P.follows .mixedOrders with
 | true=>match BY P ops (vE P ops ops.length [] (yI ops.length)) with
  | true=>GI s λsl mem nx nt=>pS (nx+ops.length) λn=>AG (vE P ops ops.length [] (yI ops.length)) λord=>CE P C B ops (K5 ops []) nx (λs'=>Q .normal s') (λx m n=>Q (.panic [pe x]) ⟨vN ops sl,m,n,nt⟩) ord [] ⟨sl,mem,n,nt⟩
  | false=>False
 | false=>False
def W0(P:Program)(C:List (Nat × AV))(B:Nat)(c:Code)(s:St)(Q:Exit->St->Prop):Prop:=
 match c with
 | .region _ ops draw=>match draw with
  | false=>pN P C B ops.toList ops.toList s (λs'=>Q .normal s') λx s'=>Q (.panic [pe x]) s'
  | true=>OJ P C B ops.toList s Q
 | c=>T7 P C B c s Q
theorem eQ.goP{c:Code}{s:St}{Q:Exit->St->Prop}(h:W0 P C B c s Q):eQ P C B c s Q:=by
 cases c with
 | region id ops draw=>
  cases draw with
  | false=>exact rR Gd (.region id ops false) s Q (show pN P C B ops.toList ops.toList s _ _ from h).run
  | true=>
   refine rR Gd (.region id ops true) s Q ?_;have h:OJ P C B ops.toList s Q:=h;unfold OJ at h;simp only[Ek];split at h
   .rename_i hmix;simp only[hmix];split at h
    .rename_i hok;simp only[F3,hok];exact(nH.1 (eE.1 (qH.1 h))).run
    .exact h.elim
   .exact h.elim
 | _=>exact eQ.go h
def KS(P:Program)(C:List (Nat × AV))(B:Nat)(next:Code->St->(Exit->St->Prop)->Prop)(c:Code)(s:St)(Q:Exit->St->Prop):Prop:=
 match c with
 | .seq x y=>next x s (K1 P C B y Q)
 | .block id c=>next c s (CD id Q)
 | c=>W0 P C B c s Q
theorem wG{next:Code->St->(Exit->St->Prop)->Prop}(hn:∀c s Q,next c s Q->eQ P C B c s Q){c:Code}{s:St}{Q:Exit->St->Prop}(h:KS P C B next c s Q):eQ P C B c s Q:=by
 cases c with
 | seq x y=>exact eQ.go (show T7 P C B (.seq x y) s Q from hn _ _ _ h)
 | block id c=>exact eQ.go (show T7 P C B (.block id c) s Q from hn _ _ _ h)
 | _=>exact eQ.goP h
def V2(P:Program)(C:List (Nat × AV))(B:Nat)(c:Code)(s:St)(Q:Exit->St->Prop):Prop:=eQ P C B c s Q
theorem RU(c:Code)(s:St)(Q:Exit->St->Prop)(h:V2 P C B c s Q):eQ P C B c s Q:=h
def XE(P:Program)(C:List (Nat × AV))(B:Nat)(c:Code)(s:St)(Q:Exit->St->Prop):Prop:=KS P C B (V2 P C B) c s Q
theorem Sx(c:Code)(s:St)(Q:Exit->St->Prop)(h:XE P C B c s Q):eQ P C B c s Q:=wG RU h
def WD(P:Program)(C:List (Nat × AV))(B:Nat)(c:Code)(s:St)(Q:Exit->St->Prop):Prop:=KS P C B (XE P C B) c s Q
theorem Sv(c:Code)(s:St)(Q:Exit->St->Prop)(h:WD P C B c s Q):eQ P C B c s Q:=wG Sx h
def XX(P:Program)(C:List (Nat × AV))(B:Nat)(c:Code)(s:St)(Q:Exit->St->Prop):Prop:=KS P C B (WD P C B) c s Q
theorem RD(c:Code)(s:St)(Q:Exit->St->Prop)(h:XX P C B c s Q):eQ P C B c s Q:=wG Sv h
def Vz(P:Program)(C:List (Nat × AV))(B:Nat)(c:Code)(s:St)(Q:Exit->St->Prop):Prop:=KS P C B (XX P C B) c s Q
theorem RE(c:Code)(s:St)(Q:Exit->St->Prop)(h:Vz P C B c s Q):eQ P C B c s Q:=wG RD h
def XN(P:Program)(C:List (Nat × AV))(B:Nat)(c:Code)(s:St)(Q:Exit->St->Prop):Prop:=KS P C B (Vz P C B) c s Q
theorem SJ(c:Code)(s:St)(Q:Exit->St->Prop)(h:XN P C B c s Q):eQ P C B c s Q:=wG RE h
def UB(P:Program)(C:List (Nat × AV))(B:Nat)(c:Code)(s:St)(Q:Exit->St->Prop):Prop:=KS P C B (XN P C B) c s Q
theorem RT(c:Code)(s:St)(Q:Exit->St->Prop)(h:UB P C B c s Q):eQ P C B c s Q:=wG SJ h
theorem eQ.manyP{c:Code}{s:St}{Q:Exit->St->Prop}(h:UB P C B c s Q):eQ P C B c s Q:=RT c s Q h
class YG(p:Prop)(q:outParam Prop):Prop where
 h:q->p
instance{c:Code}{s:St}{Q:Exit->St->Prop}:YG (eQ P C B c s Q) (UB P C B c s Q):=⟨eQ.manyP⟩
instance{ops l:List Oper}{s:St}{K:St->Prop}{Kp:Value->St->Prop}:YG (pN P C B ops l s K Kp) (Ue P C B ops K Kp l s):=⟨pN.many⟩
instance{ops:List Oper}{tr:List (List Nat)}{base:Nat}{K:St->Prop}{Kp:Value->aR->Nat->Prop}{l:List Nat}{recs:List Bf}{s:St}:YG (CE P C B ops tr base K Kp l recs s) (U5 P C B ops tr base K Kp l recs s):=⟨CE.go⟩
theorem Yg{p q:Prop}[i:YG p q](x:q):p:=i.h x
theorem Rq{p q:Prop}(x:q)(e:q->p:=by(intro x;(conv=>whnf);(repeat(refine Yg ?_;conv=>whnf));exact x)):p:=e x
theorem EA{F:FuncId}{fn:Func}{c:Code}{args:List AV}{mem:aR}{nx:Nat}{Q:AV->aR->Nat->Prop}{Qp:Value->aR->Nat->Prop}(hΓ:∀p∈C,NN p.2)(hf:P.funcs[F]? = some fn)(hb:fn.body=some c)
  (h:uE fn.ntmps args mem nx λs=>eQ P C nx c s (Je P fn.results.toList (oC nx Q) (Lk nx Qp))) (hF:Nat.beq F YF=false:=by rfl):cD P C F args mem nx Q Qp:=
 (pL hf hb ((k9 h).mono λ_ _ h=>Gy h) hF).turn hΓ
end
end Go.Ax
namespace Go.Ax
open Go
theorem cD.useN{P:Program}{C:List (Nat × AV)}{F:FuncId}{args args':List AV}{ms mem m1:aR}{ns nx:Nat}{Qs K:AV->aR->Nat->Prop}{Qsp Kp:Value->aR->Nat->Prop}(hΓ:∀p∈C,NN p.2)(J:List (Nat × Nat))(h:cD P C F args' ms ns Qs Qsp)
  (hp:mH (g8 J) mem=m1) (hargs:iS m1 J args args') (hM:cZ m1 J ms) (hc:(kZ ms && (lU J && qZ ns J))=true)
  (hk:∀r m n,Qs r m n->∃I r' m' n',Cv m I r r'/\cZ m I m'/\(kZ m' && (lU I && (Nat.ble nx n' && (lY (g8 J) nx m' && rU J ns nx n' I))))=true/\K r' (m'++gQ (g8 J) mem) n')
  (hkp:∀x m n,Qsp x m n->∃I m' n',cZ m I m'/\(kZ m' && (lU I && (Nat.ble nx n' && (lY (g8 J) nx m' && rU J ns nx n' I))))=true/\Kp x (m'++gQ (g8 J) mem) n'):cD P C F args mem nx K Kp:=by
 simp only[Y6] at hc;obtain⟨hc1,hc2,hc4⟩:=hc;refine⟨λX D E w vs hD hm hv=>?_⟩;have key:∀(m':aR) (n':Nat),lY (g8 J) nx m'=true->∀p∈m',∀q∈gQ (g8 J) mem,p.1≠q.1:=λm' n' hko p h5 q h6=>by
  have b:=(dK.1 h6).2;rcases sN hko p h5 with a|a
  .have:=hD _ (hm.low q (dK.1 h6).1);omega
  .intro e;rw[e,b] at a;cases a
 refine(cD.use (K:=K) (Kp:=Kp) (nx:=nx) hΓ h J (m1:=m1) (rest:=gQ (g8 J) mem) ⟨λp hp'=>?_,λp hp'=>(dK.1 hp').1,λp hp'=>?_,λp h1 q h2=>?_, ?_⟩ ?_ hargs hM.cvm (eM hc1) (l7 hc2) (λid i hl=>mD hc4 _ (bR hl)) ?_ ?_).run X D E w vs hD hm hv
 .rw[<-hp] at hp';exact(eS.1 hp').1
 .cases hi:CG p.1 (g8 J) with
  | true=>left;rw[<-hp];exact eS.2 ⟨hp',hi⟩
  | false=>right;exact dK.2 ⟨hp',hi⟩
 .rw[<-hp] at h1;have a:=(eS.1 h1).2;have b:=(dK.1 h2).2;intro e;rw[e,b] at a;cases a
 .rw[<-hp];exact hm.nod.sublist ((nK mem).map _)
 .exact hm.nod.sublist ((nD mem).map _)
 .intro r m n hq hn;obtain⟨I,r',m',n',h1,h2,h3,h4⟩:=hk r m n hq;simp only[Y6] at h3;exact⟨I,r',m',n',Y9 h3.2.2.1,h1,h2.cvm,eM h3.1,l7 h3.2.1,λi id hl=>qG h3.2.2.2.2 _ (bR hl),key m' n' h3.2.2.2.1,h4⟩
 .intro x m n hq hn;obtain⟨I,m',n',h2,h3,h4⟩:=hkp x m n hq;simp only[Y6] at h3;exact⟨I,m',n',Y9 h3.2.2.1,h2.cvm,eM h3.1,l7 h3.2.1,λi id hl=>qG h3.2.2.2.2 _ (bR hl),key m' n' h3.2.2.2.1,h4⟩
theorem aU.goP{P:Program}{F:FuncId}{args:List AV}{r:AV}{mem:aR}{nx:Nat}{K:AV->aR->Nat->Prop}{Kp:Value->aR->Nat->Prop}(h:aU P [] F args r)(hk:K r mem nx)(ha:jR args:=by exact dQ)(hr:NN r:=by exact nn):cD P [] F args mem nx K Kp:=(h.go hk ha hr).toP
theorem cD.pre{P:Program}{C:List (Nat × AV)}{F:FuncId}{args args':List AV}{mem mem':aR}{nx:Nat}{K:AV->aR->Nat->Prop}{Kp:Value->aR->Nat->Prop}(hΓ:∀p∈C,NN p.2)(J:List (Nat × Nat))(hid:(JV J && kZ mem')=true)
  (hM:cZ mem J mem') (hargs:iS mem J args args') (h:cD P C F args' mem' nx K Kp):cD P C F args mem nx K Kp:=by
 simp only[Y6] at hid;have hid1:=vS hid.1;have hnod:=eM hid.2;refine⟨λX D E w vs hD hm hv=>?_⟩;have hσ:∀id id',lk J id=some id'->D id->D id'/\E id'=E id:=by
  intro id id' h hd;have:=hid1 _ (bR h);simp only at this;subst this;exact⟨hd,rfl⟩
 have hinj:J1 J:=λi j k h1 h2=>by
  have a:=hid1 _ (bR h1);have b:=hid1 _ (bR h2);simp only at a b;omega
 obtain⟨m1,v1,o1⟩:=hm.turn (D':=D) (E':=E) hΓ hσ hM.cvm hnod hinj;have hvs:kY E D (OX X E mem') w args' vs:=⟨by rw[<-hargs.1];exact hv.1,λj c' x hc' hx=>by
   obtain⟨c,hc⟩:=dO hargs.1 hc';exact v1 c c' (hargs.2 j c c' hc hc') _ (hv.2 j c x hc hx)⟩
 refine(h.run X D E w vs hD m1 hvs).mono ?_;rintro e w' ⟨m,n,E',h3,h4,h6,hr⟩;have e0:Ext D E mem w E D mem' w:=⟨λi hi=>hi,λ_ _=>rfl,ZA _,λ_ _ _=>rfl,λp hp hn=>.inl (o1 p hp hn),.refl _⟩
 exact⟨m,n,E',h3,h4,e0.trans h6,hr⟩
theorem cD.ph{P:Program}{C:List (Nat × AV)}{F:FuncId}{args:List AV}{mem:aR}{nx:Nat}{K:AV->aR->Nat->Prop}{Kp:Value->aR->Nat->Prop}(t:TypeId)(sz:Nat)(h:cD P C F args ((nx,.row t sz [])::mem) (nx+1) K Kp):cD P C F args mem nx K Kp:=by
 refine⟨λX D E w vs hD hm hv=>?_⟩;obtain⟨m1,v1,e1⟩:=hm.phantom (n:=nx) (D':=dn D nx (nx+1)) (λh'=>aBh _ (hD _ h')) (λi hi=>.inl hi) (.inr ⟨ZA _,aAv _⟩) t sz;refine(h.run X _ _ w vs (λi hi=>?_) m1 ⟨hv.1,λj c x hc hx=>v1 _ _ (hv.2 j c x hc hx)⟩).mono ?_
 .rcases hi with hi|hi
  .have:=hD i hi;omega
  .exact hi.2
 .rintro e w' ⟨m,n,E',hn,hm',ext,hr⟩;have ed:dn (dn D nx (nx+1)) (nx+1) n=dn D nx n:=by
   funext i
   apply propext;constructor
   .rintro((hi|⟨h1,h2⟩)|⟨h1,h2⟩)
    .exact .inl hi
    .exact .inr ⟨h1,om⟩
    .exact .inr ⟨om,h2⟩
   .rintro(hi|⟨h1,h2⟩)
    .exact .inl (.inl hi)
    .rcases ZL i (nx+1) with h3|h3
     .exact .inl (.inr ⟨h1,h3⟩)
     .exact .inr ⟨h3,h2⟩
  rw[ed] at hm' ext;have e2:=e1 D λi hi=>hi
  refine⟨m,n,E',om,hm',e2.trans ⟨λi hi=>ext.le i (.inl hi),λi hi=>ext.agree i (.inl hi),ext.size,ext.keep,ext.fresh,ext.env⟩, ?_⟩;rcases hr with⟨r,v,h1,h2,h3⟩|hr
  .rw[ed] at h3;exact .inl ⟨r,v,h1,h2,h3⟩
  .exact .inr hr
theorem Bl{P:Program}{C:List (Nat × AV)}{H:Hk}{F:FuncId}{fn:Func}{c:Code}{args:List AV}{mem:aR}{nx:Nat}{Q:AV->aR->Nat->Prop}{Qp:Value->aR->Nat->Prop}(hΓ:∀p∈C,NN p.2)(hf:P.funcs[F]? = some fn)(hb:fn.body=some c)
  (h:uE fn.ntmps args mem nx λs=>oW P C nx c s (Dh P C H fn.results.toList (oC nx Q) (Lk nx Qp))) (hF:Nat.beq F YF=false:=by rfl):cD P C F args mem nx Q Qp:=
 (tS hf hb (k9 h) hF).turn hΓ
theorem aU.frz{P:Program}{C:List (Nat × AV)}{F:FuncId}{args asz:List AV}{r:AV}{mem:aR}{nx:Nat}{K:AV->aR->Nat->Prop}(h:aU P C F asz r)(ids:List Nat)(hΓ:∀p∈C,NN p.2)(hargs:iS (mH ids mem) [] args asz)(hr:NN r)(hk:K r (gQ ids mem) nx) :
  aJ P C F args mem nx K:=by
 refine⟨λX D E w vs hD hm hv=>?_⟩;refine(aJ.use (K:=K) (nx:=nx) hΓ h [] (m1:=mH ids mem) (rest:=gQ ids mem) ⟨λp hp'=>(eS.1 hp').1,λp hp'=>(dK.1 hp').1,λp hp'=>?_,λp h1 q h2=>?_, ?_⟩ ?_ hargs (λp hp=>by cases hp) sq (λi j k h=>by simp[lk] at h) (λid i hl=>by simp[lk] at hl) ?_).run X D E w vs hD hm hv
 .cases hi:CG p.1 ids with
  | true=>left;exact eS.2 ⟨hp',hi⟩
  | false=>right;exact dK.2 ⟨hp',hi⟩
 .have a:=(eS.1 h1).2;have b:=(dK.1 h2).2;intro e;rw[e,b] at a;cases a
 .exact hm.nod.sublist ((nK mem).map _)
 .exact hm.nod.sublist ((nD mem).map _)
 .rintro r' m n ⟨rfl,rfl,rfl⟩ _;exact⟨[],r',[],nx,ZA _,.same r' hr,(λp hp=>by cases hp),sq,(λi j k h=>by simp[lk] at h),(λi id hl=>by simp[lk] at hl),(λp hp=>by cases hp),hk⟩
end Go.Ax
