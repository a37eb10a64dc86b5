/- For every input (two slices of ints and an int), refuterlaw15.CountProbs returns true, and its arguments read behind the call as they read before (the card CountProbsCardSaid, the full form). Conditions: the package-level variables that the row lists hold, when the call begins, what the program's text lays (the card ties them to it); no bound on sizes. -/
import Derived.Test.YthggfhnnkclooaaGreatDoorAx19
import Derived.Test.YthggfhnnkclooaaGreatDoorCards
import Derived.Test.YthggfhnnkclooaaGreatDoorTie
import Derived.Lib.LaidIn
set_option linter.unusedVariables false
set_option linter.unusedSimpArgs false
set_option linter.unusedSectionVars false
namespace Go.Proofs.YthggfhnnkclooaaGreatDoor
open Go Go.Ax Go.Proofs Tryz
set_option maxRecDepth 100000
set_option maxHeartbeats 16000000
set_option maxHeartbeats 16000000
def PA(a:Fr):List UInt8:=if a.q=1 then tX a.p else tX a.p++[47]++tX (a.q:Int)
theorem wM{z:Int}(h:eY z=true):(tX z).length<=5000:=by have:=QS h;omega
theorem Sy(a:Fr)(ha:FC a):aU prog gz 34 [lE a] (.str (PA a)):=by
 have hd:=VV a (by have:=ha.fp.lq;omega);have hden:a.den=a.q:=KF ha.can.pos;rw[hden] at hd;have h1:=Id ((1:Nat):Int) ⟨om,om⟩;have hc:=Iu (a.q:Int) ((1:Nat):Int) (by have:=ha.fp.lq;rw[ZM];omega) (by have:(dg 4294967296 1).length<=1:=wO hW (by decide);rw[ZM];omega);have s1:=Ls a.p (by have:=ha.fp.ln;omega);have s2:=Ls (a.q:Int) (by have:=ha.fp.lq;rw[ZM];omega);have lp:=wM ha.num;have lq:=wM ha.den;have hz:(fJ (a.q:Int) ((1:Nat):Int) == 0)=decide (a.q=1):=by
  by_cases h:a.q=1
  ·rw[h];rfl
  ·rw[ZG h,beq_eq_false_iff_ne];exact Q8 om
 obtain⟨pb,pl,pc,pm,g1,g2,g3⟩:=fX a;obtain⟨ob,ol,o1⟩:=eH ((1:Nat):Int);rw[g3,g2] at hd;rw[o1] at h1;rw[g2,o1] at hc;rw[g1] at s1;rw[g2] at s2;unfold PA;rw[g3];generalize tX a.p=t1 at *;generalize tX (a.q:Int)=t2 at *;generalize fJ (a.q:Int) ((1:Nat):Int)=cj at *;refine aD d8 func34 rfl ?_;refine Rt ?_;refine hd.goG ?_ (.cons (zT _ _ _ _) .nil) (eD _ _);refine Z ?_;refine h1.goG ?_ (.cons nn .nil) (eD _ _);refine Z ?_;refine hc.goG ?_ (.cons (eD _ _) (.cons (eD _ _) .nil)) nn;refine Z ?_;rw[hz];by_cases h:a.q=1
 ·rw[Y8 h,Y7 h];refine Rt ?_;refine aU.use s1 d8 (.cons (eD _ _) .nil) nn ?_;refine Z ?_;exact aA nn ⟨rfl,rfl,rfl⟩
 ·rw[ZG h,Y3 h];refine Rt ?_;refine aU.use s1 d8 (.cons (eD _ _) .nil) nn ?_;refine Z ?_;repeat(first|(refine aK (Y2 (by(try simp)<;>omega)) ?_;refine Z ?_)|(refine cY.2 ?_;refine Z ?_)|(refine bK ?_;refine Z ?_))
  refine aU.use s2 d8 (.cons (eD _ _) .nil) nn ?_;refine Z ?_;repeat(first|(refine aK (Y2 (by(try simp)<;>omega)) ?_;refine Z ?_)|(refine cY.2 ?_;refine Z ?_)|(refine bK ?_;refine Z ?_))
  exact aA nn ⟨rfl,rfl,rfl⟩
theorem SG(n:Nat):(tX (n:Int) == [49])=decide (n=1):=by
 by_cases h:n=1
 ·rw[h,Y8 rfl,Ie,Lib.decDigits_one om];rfl
 ·rw[ZG h,beq_eq_false_iff_ne];intro e;have:=congrArg Nt e;rw[Ie,Pq] at this;exact h this
theorem Vy(a:Fr)(ha:FC a):aU prog [] 35 [s7 a] (.str (PA a)):=by
 have s1:=TT a.p (by have:=ha.lf.num;omega);have s2:=TT (a.q:Int) (by have:=ha.lf.den';omega);have lp:=wM ha.num;have lq:=wM ha.den;have hz:=SG a.q;obtain⟨pb,pl,pc,pm,g1,g2,g3⟩:=g6 a;rw[g1] at s1;rw[g2] at s2;unfold PA;rw[g3];generalize tX a.p=t1 at *;generalize tX (a.q:Int)=t2 at *;refine aD bI func35 rfl ?_;refine Rt ?_;refine s2.go ?_ (.cons (fO _ _) .nil) nn;refine Z ?_;rw[hz];by_cases h:a.q=1
 ·rw[Y8 h,Y7 h];refine Rt ?_;refine s1.go ?_ (.cons (fO _ _) .nil) nn;refine Z ?_;exact aA nn ⟨rfl,rfl,rfl⟩
 ·rw[ZG h,Y3 h];refine Rt ?_;refine s1.go ?_ (.cons (fO _ _) .nil) nn;refine Z ?_;repeat(first|(refine aK (Y2 (by(try simp)<;>omega)) ?_;refine Z ?_)|(refine cY.2 ?_;refine Z ?_)|(refine bK ?_;refine Z ?_))
  exact aA nn ⟨rfl,rfl,rfl⟩
set_option maxHeartbeats 16000000
def My(A:List Nd):Prop:=BM A/\(A.length≠0->Qn A)
theorem SM{A:List Nd}(ht:BM A)(hv:cP [] A=0)(hg:∀j,gN (aI A j)<=3)(hl:A.length<=14):My A:=
 ⟨ht,fun h=>VG ⟨ht,by unfold eX;rw[Y3 om,hv],om⟩ hg hl⟩
theorem Pn{A:List Nd}(hT:kH A)(hl:A.length<=14):My A:=
 SM (Nw (LB:=LB) (fun s hs=>VN hs) (fun x hx=>TB S3 (Ni hT x hx)) om) hT.valid (XH hT.gen) hl
theorem N5{A:List Nd}(h:My A)(hv:VT A):∀p f i a0,i<f->i<A.length->(a8 A p f i a0).spans.length<=4294967296:=(h.2 (by have:=hv.pos;omega)).cnt
theorem Ix{A:List Nd}(h:My A){p:List Int}(hl:p.length<=1000000)(hi:∀x∈p,i64 x):V1 A p:=⟨h.1,hl,hi,fun hv=>N5 h hv p⟩
theorem Jg{A:List Nd}(h:My A)(p:List Int):jG (AZ A p):=by
 unfold AZ;split
 ·rename_i hE;unfold mQ at hE;split at hE
  ·omega
  ·split at hE
   ·omega
   ·split at hE
    ·rename_i h1 h2 h3;have vt:VT A:=⟨h.1,om,om⟩
     have hst:(ER A p).stop = -1:=by
      have:(fS A p).stop = -1:=by
       unfold f9 at h3;split at h3
       ·simp at h3
       ·exact h3
      exact this
     exact(mA vt p A.length (A.length-1) 0 om om hst).1
    ·omega
 ·simp[jG,vZ,zO,i64]
theorem Si{A:List Nd}(h:VT A)(raw:List Int)(hr:∀x∈raw,i64 x):∀x∈iO A raw,i64 x:=fun x hx=>by
 obtain⟨m,hm⟩:=Zl hx;have hml:=(Y4.1 hm).1;have hl:((iO A raw).take m).length=m:=by rw[ZQ];omega
 obtain⟨n,hn1,hn2,hn3⟩:=(LU h (raw:=raw) (out:=(iO A raw).take m) (by rw[hl];rfl)).2 (by rw[hl];exact hml);rw[hl] at hn3;have h3:(iO A raw)[m]? = some (dH raw (aI A n) m):=hn3;rw[hm] at h3;cases h3;unfold dH;split
 ·rename_i hq;have:=hr _ (Y5 (Yz hq));rw[Y0,Yz hq];obtain⟨a,b⟩:=this;simp only[aAD];exact⟨om,om⟩
 ·exact⟨om,om⟩
theorem QO{A:List Nd}(h:VT A){n:Nat}(hn:n<A.length)(hk:(aI A n).kind=1∨(aI A n).kind=2):1<=fK (aI A n):=by
 have g:=h.node (cS hn);have hr:=g.opt.rng;have hc:=g.opt.ch;unfold fK;rcases hk with hk|hk
 ·rw[Y7 hk];omega
 ·rw[Y3 om];have:=(hc hk).1;omega
theorem Kk{A:List Nd}(h:VT A)(raw:List Int)(hr:∀x∈raw,i64 x):uH A (iO A raw):=by
 have h1:=(PN h raw (m:=(iO A raw).length) (ZA _)).2 rfl;rw[ZK] at h1;have hu:=yU A (iO A raw);have e1:(fS A (iO A raw))=ER A (iO A raw):=rfl;have h2:(ER A (iO A raw)).stop = -1/\(ER A (iO A raw)).used=(iO A raw).length:=by
  unfold f9 at h1;rw[e1] at h1 hu;split at h1
  ·simp at h1
  ·rename_i h3;exact⟨h1,om⟩
 refine⟨OC h raw,Si h raw hr,h2.1,h2.2,fun m hml=>?_⟩;have hl:((iO A raw).take m).length=m:=by rw[ZQ];omega
 obtain⟨n,hn1,hn2,hn3⟩:=(LU h (raw:=raw) (out:=(iO A raw).take m) (by rw[hl];rfl)).2 (by rw[hl];exact hml);rw[hl] at hn3;have h3:(iO A raw)[m]? = some (dH raw (aI A n) m):=hn3;obtain⟨hn,hk⟩:=Mh h hn2;have hp:=QO h hn hk;have e:(iO A raw).getD m 0=dH raw (aI A n) m:=by rw[Y0,h3];rfl
 refine⟨n,hn,hn2,hk, ?_, ?_⟩
 ·rw[e];unfold dH;split<;>omega
 ·rw[e];unfold dH;split<;>omega
theorem PV{A:List Nd}(h:VT A){p:List Int}(hp:uH A p):mQ A p=0:=by
 have hpos:=h.pos;unfold mQ;rw[Y3 (by have:=h.val;omega),Y3 om,Y7];unfold f9;rw[Y3]
 ·exact hp.stop
 ·rintro⟨-,h2⟩;have:(fS A p).used=p.length:=hp.used;omega
theorem Cn{A:List Nd}(h:VT A){p:List Int}(hp:(f9 p (fS A p)).stop≠-1):mQ A p=11:=by
 have hpos:=h.pos;unfold mQ;rw[Y3 (by have:=h.val;omega),Y3 om,Y3 hp]
theorem Pv{A:List Nd}(h:VT A){p:List Int}(hp:uH A p)(n:Int):mQ A (p++[n])=11:=by
 refine Cn h ?_;have e0:(p++[n]).take p.length=p:=List.take_left ..;have e:fS A (p++[n])=fS A p:=by
  have:=Dk (A:=A) (p:=p++[n]) (m:=p.length) (by simp) A.length (A.length-1) 0 om (by rw[e0];exact hp.stop);rw[e0] at this;exact this
 have h2:(fS A p).used=p.length:=hp.used;have h1:(fS A p).stop = -1:=hp.stop;unfold f9;rw[e,Y7 ⟨h1,by rw[h2];simp⟩];simp
theorem Sn{A:List Nd}(h:VT A){p:List Int}(hp:uH A p){i:Nat}(hi:i<p.length):mQ A (p.take i)=11:=by
 obtain⟨n,h1,h2,-⟩:=hp.step i hi;refine Cn h ?_;have h2:(fS A (p.take i)).stop=(n:Int):=h2;unfold f9;rw[Y3 (fun e=>om)];omega
theorem QJ{A:List Nd}(h:VT A){p:List Int}(hp:uH A p){i:Nat}(hi:i<p.length):mQ A (p.set i (-1))=11:=by
 obtain⟨n,h1,h2,-⟩:=hp.step i hi;refine Cn h ?_;have e0:(p.set i (-1)).take i=p.take i:=by rw[List.take_set_of_le (ZA _)]
 have hb:(fS A (p.set i (-1))).stop = -2:=IC (A:=A) (p:=p.set i (-1)) (m:=i) (n:=n) (by simpa using hi) (.inl (by rw[Y0,Zy hi];decide)) A.length (A.length-1) 0 om (by rw[e0];exact h2);unfold f9;rw[Y3 (fun e=>om)];omega
set_option maxHeartbeats 16000000
theorem WJ(raw:List Int):aU prog [] 6 [.agg [.il 12 []],.il 1 (aY raw)] (.tup [.il 1 [],.int .i64 10]):=by
 have hv:=G0 [] ⟨by simp,by simp,by simp,by simp,by simp⟩;have e:eX []=0:=by rfl
 rw[e] at hv;have nr:NN (.il 1 (aY raw)):=.il' (aW raw);refine aD bI func6 rfl ?_;refine Z ?_;refine hv.go ?_ (.cons (.agg' (.cons (.il' .nil) .nil)) .nil) nn;refine Z ?_;exact cN (r':=.tup [.il 1 [],.int .i64 10]) (.tup' (.cons (.nil 1) (.s .nil))) ⟨rfl,rfl,rfl⟩
theorem V9{a:Fr}(ha:FC a):aU prog gz 9 [lE a,s7 a] (.bool true):=by
 have hS:=Sy a ha;have hT:=Vy a ha;obtain⟨a1,a2,a3,a4,-,-,ea⟩:=fX a;obtain⟨b1,b2,b3,b4,-,-,eb⟩:=g6 a;rw[ea] at hS;rw[eb] at hT;rw[ea,eb];generalize PA a=s at *;refine aD d8 func9 rfl ?_;refine Z ?_;refine hS.use d8 (.cons (zT _ _ _ _) .nil) (.str _) ?_;refine Rt ?_;refine hT.goG ?_ (.cons (HW _ _ _ _) .nil) (.str _);refine Rt ?_;exact cN (r':=.bool true) (.bool (by simp)) ⟨rfl,rfl,rfl⟩
theorem Ch{A:List Nd}{p:List Int}(hp:uH A p){i:Nat}(hi:i<p.length):f9 (p.take i) (fS A (p.take i))=ER A (p.take i):=by
 obtain⟨n,-,h2,-⟩:=hp.step i hi;have h2:(fS A (p.take i)).stop=(n:Int):=h2;unfold f9;rw[Y3 (fun e=>om)];rfl
theorem K2{A:List Nd}(cT:Qn A){p:List Int}(hp:uH A p)(i:Nat):Iz A (p.take i):=
 ⟨cT.vt,by rw[ZQ];have:=hp.len;omega,fun x hx=>hp.i64 x (Ze hx),cT.cnt _⟩
theorem OM{A:List Nd}(cA:My A)(cT:Qn A){p:List Int}(hp:uH A p):∃a:Fr,FC a/\aU prog [] 7 [.agg [.il 12 (bG A)],.il 1 (aY p)] (.tup [lE a,.int .i64 0]) /\
  aU prog [] 10 [.agg [.il 12 (bG A)],.il 1 (aY p)] (s7 a):=by
 have hl:=hp.len;have hV:=PB (Ix cA om hp.i64) (fun v hv=>J9 (bS v) v (ZA _) hv) (Jg cA p);rw[PV cT.vt hp] at hV;refine⟨ES (mP A p), ?_,XB cT.vt hp hV fun i hi=>?_,Vt cT.vt hp fun i hi=>?_⟩
 ·have h1:=Dm (mP A p) (HM cT.vt hp) p.length (by rw[oF];omega) hl;rw[ZD (by rw[oF];omega)] at h1;exact O2 h1 (qF om)
 ·have h1:=Yt (K2 cT hp i) (by
   rw[Ch hp hi];obtain⟨n,-,h2,-⟩:=hp.step i hi;omega)
  rw[Ch hp hi] at h1;exact h1
 ·have h1:=VE (K2 cT hp i);rw[Ch hp hi] at h1;exact h1
theorem KG(l raw:List Int)(n:Int)(hl:∀x∈l,i64 x)(hr:∀x∈raw,i64 x)(hn:i64 n)(hrl:raw.length<=17592186043904)(hLv:aU prog gz 8 [] (.bool true)) :
  aU prog gz 3 [.il 1 (aY l),.il 1 (aY raw),.int .i64 n] (.bool true):=by
 have nraw:NN (.il 1 (aY raw)):=.il' (aW raw);refine aD d8 func3 rfl ?_;refine Z ?_;refine WQ l hl fun A hTA hAl=>?_
 refine Rt ?_;have cA:=Pn hTA hAl;have hTV:=fun(p:List Int) (h1:p.length<=1000000) (h2:∀x∈p,i64 x)=>PB (Ix cA h1 h2) (fun v hv=>J9 (bS v) v (ZA _) hv) (Jg cA p)
 have tA:NN (.agg [.il 12 (bG A)]):=.agg' (.cons (.il' (bB A)) .nil);have lA:=cH A;by_cases h0:A.length=0
 ·obtain rfl:=ZH h0;have h1:=hTV [] (by simp) (by simp);have hE:mQ [] []=11:=rfl;rw[hE] at h1;have hP:=GJ (by decide) h1;rw[vH] at hP;refine(WJ raw).goG ?_ (.cons tA (.cons nraw .nil)) (.tup' (.cons (.il' .nil) (.cons nn .nil)));refine Rt ?_;refine aU.useC hP.glob d8 (.cons (.same _ tA) (.cons (.nil 1) .nil)) (.tup' (.cons (.agg' (.cons nn (.cons (.il' .nil) (.cons nn (.cons (.il' .nil) .nil))))) (.cons nn .nil))) ?_;refine Rt ?_;refine hLv.use d8 .nil (.bool true) ?_;refine Z ?_;exact aA (.bool _) ⟨rfl,rfl,rfl⟩
 ·have cT:=cA.2 h0;have hF:=Xu cT.vt raw hrl;have hok:=Kk cT.vt raw hr;generalize iO A raw=p at *;obtain⟨a,fa,hPr,hRp⟩:=OM cA cT hok;have hMs:=V9 fa;have hmore:=hTV (p++[n]) (by have:=hok.len;simp;omega) (fun x hx=>by
   rcases ZO.1 hx with hx|hx
   ·exact hok.i64 x hx
   ·simp at hx;subst hx;exact hn)
  rw[Pv cT.vt hok n] at hmore;have hmore:=GJ (by decide) hmore;rw[vH] at hmore;have nP:=wX a;have nF:=qI a;obtain⟨a1,a2,a3,a4,-,-,ea⟩:=fX a;obtain⟨b1,b2,b3,b4,-,-,eb⟩:=g6 a;rw[ea] at hPr hMs nP;rw[eb] at hRp hMs nF;have np:NN (.il 1 (aY p)):=.il' (aW p);have lp:=aN p;have hpl:=hok.len;refine hF.goG ?_ (.cons tA (.cons nraw .nil)) (.tup' (.cons np (.cons nn .nil)));refine Rt ?_;rw[show ((((bG A).length:Nat):Int) == 0)=false from beq_eq_false_iff_ne.2 om];refine Z ?_;refine hPr.goG ?_ (.cons tA (.cons np .nil)) (.tup' (.cons nP (.cons nn .nil)));refine Rt ?_;refine hRp.goG ?_ (.cons tA (.cons np .nil)) nF;refine Rt ?_;refine hMs.use d8 (.cons nP (.cons nF .nil)) (.bool true) ?_;refine Rt ?_;refine aK (b8 rfl rfl rfl (by simp;omega)) ?_;refine Z ?_;refine aK (b8 rfl rfl (by simp) (by simp[aN];omega)) ?_;refine Z ?_;have nz:NN (.tup [.agg [.bool false,.il 1 [],.bool false,.il 1 []],.int .i64 11]):=.tup' (.cons (.agg' (.cons nn (.cons (.il' .nil) (.cons nn (.cons (.il' .nil) .nil))))) (.cons nn .nil));refine aJ.pre d8 (mem':=[(1,.row 34 4 [.agg [.bool a1,.il 1 (bA a2),.bool a3,.il 1 (bA a4)]]),(0,.row 25 1 [.agg [.il 12 (bG A)]])]) [(1,1),(0,0)] (by rfl)
   ⟨aF 1 (.cons nP .nil),aF 0 (.cons tA .nil),trivial⟩ (.cons (.same _ tA) (.cons (.fzR (id:=19) (ys:=aY (p++[n])) rfl rfl (.eq (aW _) (by simp[aY])) (by simp[aY])) .nil)) ?_
  refine hmore.goG ?_ (.cons tA (.cons (.il' (aW _)) .nil)) nz;refine Rt ?_;rw[lp];by_cases hp0:0<p.length
  ·have hcut:=hTV (p.take (p.length-1)) (by rw[ZQ];omega) (fun x hx=>hok.i64 x (Ze hx));rw[Sn cT.vt hok om] at hcut;have hcut:=GJ (by decide) hcut;have htrn:=hTV (p.set (p.length-1) (-1)) (by rw[aAR];omega) (fun x hx=>by
    rcases aBw hx with hx|hx
    ·exact hok.i64 x hx
    ·subst hx;exact⟨om,om⟩)
   rw[QJ cT.vt hok om] at htrn;have htrn:=GJ (by decide) htrn;rw[vH] at hcut htrn;have w1:IntKind.i64.wrap ((p.length:Int)-1)=((p.length-1:Nat):Int):=by rw[bF ⟨om,om⟩];omega
   rw[show decide ((p.length:Int)>0)=true from Y8 om];refine Z ?_;rw[lp,w1];refine Z ?_;refine aK (by rw[Y2 om,Y2 (by simp),Y2 om];rfl) ?_;rw[show List.take (((p.length-1:Nat):Int).toNat-0) (List.drop 0 (aY p))=aY (p.take (p.length-1)) by simp[aY,List.map_take]];refine Z ?_;refine hcut.goG ?_ (.cons tA (.cons (.il' (aW _)) .nil)) nz;refine Rt ?_;refine aK (b8 rfl rfl rfl (by simp[aN];omega)) ?_;refine Z ?_;have el:([]++aY p)[0+((p.length-1:Nat):Int).toNat]? = some (.int .i64 (p[p.length-1]'om)):=by
    rw[Zp,ZP,Y1,bU,Yz om];rfl
   have bl:Nat.blt ((p.length-1:Nat):Int).toNat (0+(aY p).length)=true:=Y2 (by rw[lp];simp;omega);rw[lp] at bl;rw[lp,w1];refine Rt ?_;repeat((first|refine aK bl ?_|refine aC el ?_);refine Rt ?_)
   refine aJ.pre d8 (mem':=[(0,.row 25 1 [.agg [.il 12 (bG A)]])]) [(0,0)] (by rfl)
    ⟨aF 0 (.cons tA .nil),trivial⟩ (.cons (.same _ tA) (.cons (.fzR (id:=35) (ys:=aY (p.set (p.length-1) (-1))) rfl rfl (.eq (aW _) (by simp[aY,aA7])) (by simp[aY])) .nil)) ?_
   refine htrn.goG ?_ (.cons tA (.cons (.il' (aW _)) .nil)) nz;refine Rt ?_;refine hLv.use d8 .nil (.bool true) ?_;refine Z ?_;exact aA (.bool _) ⟨rfl,rfl,rfl⟩
  ·rw[show decide ((p.length:Int)>0)=false from ZG om];refine Z ?_;refine hLv.use d8 .nil (.bool true) ?_;refine Z ?_;exact aA (.bool _) ⟨rfl,rfl,rfl⟩
def cW(n:Int):AV:=.il 1 [.int .u32 n]
def fC(a b:AV):AV:=.agg [.bool false,a,.bool false,b]
def Pm:AV:=.agg [.il 12 [.agg [.int .i64 0,.str [],.int .i64 0,.int .i64 0,.nsl,.nsl,.nsl,.nsl,.int .i64 1,.int .i64 1,.str [],.nsl],.agg [.int .i64 1,.str [],.int .i64 0,.int .i64 2,.nsl,.nsl,.nsl,.nsl,.int .i64 0,.int .i64 0,.str [],.nsl],.agg [.int .i64 2,.str [],.int .i64 0,.int .i64 0,.il 1 [.int .i64 1,.int .i64 3],.nsl,.nsl,.il 1 [.int .i64 0,.int .i64 1],.int .i64 0,.int .i64 0,.str [],.nsl]]]
def kN:List Nat:=[78]
def kO:List Nat:=[29,30,31,7,32,33,34,15,28,128,130,129,23]
def kI(e:Nat × List AV × AV):Prop:=aU prog gz e.1 e.2.1 e.2.2
theorem lG{e:Nat × List AV × AV}{t:List (Nat × List AV × AV)}(h:kI e)(ht:Go.Ax.f6 prog gz t)(h1:BC (frz 30 [] []) e.2.1=some e.2.1:=by rfl)(h2:frz 30 [] [] e.2.2=some e.2.2:=by rfl):Go.Ax.f6 prog gz (e::t):=Go.Ax.f6.cons h h1 h2 ht
set_option maxRecDepth 1000000
def Tq:Nat × List AV × AV:=(23,[Pm],.int .i64 0)
theorem MD:kI Tq:=cO d8 Go.Ax.f6.nil kN kO 80 rfl (by kernel_rfl)
def T2:Nat × List AV × AV:=(128,[.int .i64 1,.int .i64 1],.tup [(fC (cW 1) (cW 1)),.int .i64 0])
theorem Mf:kI T2:=cO d8 Go.Ax.f6.nil kN kO 80 rfl (by kernel_rfl)
def Tx:Nat × List AV × AV:=(128,[.int .i64 1,.int .i64 4],.tup [(fC (cW 1) (cW 4)),.int .i64 0])
theorem Mp:kI Tx:=cO d8 Go.Ax.f6.nil kN kO 80 rfl (by kernel_rfl)
def Tr:Nat × List AV × AV:=(128,[.int .i64 3,.int .i64 4],.tup [(fC (cW 3) (cW 4)),.int .i64 0])
theorem Mi:kI Tr:=cO d8 Go.Ax.f6.nil kN kO 80 rfl (by kernel_rfl)
def TP:Nat × List AV × AV:=(128,[.int .i64 1,.int .i64 3],.tup [(fC (cW 1) (cW 3)),.int .i64 0])
theorem M5:kI TP:=cO d8 Go.Ax.f6.nil kN kO 80 rfl (by kernel_rfl)
def TZ:Nat × List AV × AV:=(33,[.agg [.bool false,(cW 4)]],.str [52])
theorem NZ:kI TZ:=cO d8 Go.Ax.f6.nil kN kO 80 rfl (by kernel_rfl)
def T3:Nat × List AV × AV:=(33,[.agg [.bool false,(cW 1)]],.str [49])
theorem MH:kI T3:=cO d8 Go.Ax.f6.nil kN kO 80 rfl (by kernel_rfl)
def To:Nat × List AV × AV:=(33,[.agg [.bool false,(cW 3)]],.str [51])
theorem MG:kI To:=cO d8 Go.Ax.f6.nil kN kO 80 rfl (by kernel_rfl)
def TE:Nat × List AV × AV:=(34,[(fC (cW 1) (cW 4))],.str [49,47,52])
theorem MZ:kI TE:=cO d8 Go.Ax.f6.nil kN kO 80 rfl (by kernel_rfl)
def TR:Nat × List AV × AV:=(29,[],Pm)
theorem NO:kI TR:=cO d8 Go.Ax.f6.nil kN kO 80 rfl (by kernel_rfl)
set_option maxRecDepth 1000000
def TO:Nat × List AV × AV:=(130,[(fC (cW 1) (cW 1)),(fC (cW 1) (cW 4))],.tup [(fC (cW 1) (cW 4)),.int .i64 0])
theorem NL:kI TO:=cO d8 Go.Ax.f6.nil kN kO 80 rfl (by kernel_rfl)
def Tt:Nat × List AV × AV:=(130,[(fC (cW 1) (cW 1)),(fC (cW 3) (cW 4))],.tup [(fC (cW 3) (cW 4)),.int .i64 0])
theorem NW:kI Tt:=cO d8 Go.Ax.f6.nil kN kO 80 rfl (by kernel_rfl)
def Td:Nat × List AV × AV:=(130,[(fC (cW 3) (cW 4)),(fC (cW 1) (cW 3))],.tup [(fC (cW 1) (cW 4)),.int .i64 0])
theorem L9:kI Td:=cO d8 Go.Ax.f6.nil kN kO 80 rfl (by kernel_rfl)
def TN:Nat × List AV × AV:=(130,[(fC .nsl .nsl),(fC (cW 1) (cW 4))],.tup [(fC .nsl (cW 1)),.int .i64 0])
theorem M9:kI TN:=cO d8 Go.Ax.f6.nil kN kO 80 rfl (by kernel_rfl)
def TD:Nat × List AV × AV:=(130,[(fC .nsl (cW 1)),(fC (cW 1) (cW 1))],.tup [(fC .nsl (cW 1)),.int .i64 0])
theorem MS:kI TD:=cO d8 Go.Ax.f6.nil kN kO 80 rfl (by kernel_rfl)
def TJ:Nat × List AV × AV:=(130,[(fC (cW 1) (cW 4)),(fC (cW 1) (cW 1))],.tup [(fC (cW 1) (cW 4)),.int .i64 0])
theorem NU:kI TJ:=cO d8 Go.Ax.f6.nil kN kO 80 rfl (by kernel_rfl)
set_option maxRecDepth 1000000
def T0:Nat × List AV × AV:=(130,[(fC .nsl .nsl),(fC (cW 3) (cW 4))],.tup [(fC .nsl (cW 1)),.int .i64 0])
theorem MM:kI T0:=cO d8 Go.Ax.f6.nil kN kO 80 rfl (by kernel_rfl)
def TM:Nat × List AV × AV:=(130,[(fC .nsl .nsl),(fC (cW 1) (cW 1))],.tup [(fC .nsl (cW 1)),.int .i64 0])
theorem NB:kI TM:=cO d8 Go.Ax.f6.nil kN kO 80 rfl (by kernel_rfl)
def Tw:Nat × List AV × AV:=(130,[(fC (cW 1) (cW 1)),(fC (cW 1) (cW 1))],.tup [(fC (cW 1) (cW 1)),.int .i64 0])
theorem Nm:kI Tw:=cO d8 Go.Ax.f6.nil kN kO 80 rfl (by kernel_rfl)
def Tb:Nat × List AV × AV:=(130,[(fC .nsl (cW 1)),(fC .nsl (cW 1))],.tup [(fC .nsl (cW 1)),.int .i64 0])
theorem Mz:kI Tb:=cO d8 Go.Ax.f6.nil kN kO 80 rfl (by kernel_rfl)
def Tu:Nat × List AV × AV:=(130,[(fC (cW 3) (cW 4)),(fC .nsl (cW 1))],.tup [(fC .nsl (cW 1)),.int .i64 0])
theorem L6:kI Tu:=cO d8 Go.Ax.f6.nil kN kO 80 rfl (by kernel_rfl)
set_option maxRecDepth 1000000
def Tg:Nat × List AV × AV:=(129,[(fC .nsl .nsl),(fC .nsl (cW 1))],.tup [(fC .nsl (cW 1)),.int .i64 0])
theorem NE:kI Tg:=cO d8 Go.Ax.f6.nil kN kO 80 rfl (by kernel_rfl)
def TU:Nat × List AV × AV:=(129,[(fC .nsl .nsl),(fC (cW 1) (cW 4))],.tup [(fC (cW 1) (cW 4)),.int .i64 0])
theorem MN:kI TU:=cO d8 Go.Ax.f6.nil kN kO 80 rfl (by kernel_rfl)
def Tk:Nat × List AV × AV:=(129,[(fC .nsl .nsl),(fC (cW 3) (cW 4))],.tup [(fC (cW 3) (cW 4)),.int .i64 0])
theorem M8:kI Tk:=cO d8 Go.Ax.f6.nil kN kO 80 rfl (by kernel_rfl)
def TL:Nat × List AV × AV:=(129,[(fC .nsl .nsl),(fC (cW 1) (cW 1))],.tup [(fC (cW 1) (cW 1)),.int .i64 0])
theorem M0:kI TL:=cO d8 Go.Ax.f6.nil kN kO 80 rfl (by kernel_rfl)
set_option maxRecDepth 1000000
def TH:Nat × List AV × AV:=(129,[(fC .nsl (cW 1)),(fC .nsl (cW 1))],.tup [(fC .nsl (cW 1)),.int .i64 0])
theorem Ng:kI TH:=cO d8 Go.Ax.f6.nil kN kO 80 rfl (by kernel_rfl)
def TY:Nat × List AV × AV:=(129,[(fC (cW 1) (cW 4)),(fC .nsl (cW 1))],.tup [(fC (cW 1) (cW 4)),.int .i64 0])
theorem MW:kI TY:=cO d8 Go.Ax.f6.nil kN kO 80 rfl (by kernel_rfl)
def TI:Nat × List AV × AV:=(129,[(fC .nsl (cW 1)),(fC (cW 1) (cW 4))],.tup [(fC (cW 1) (cW 4)),.int .i64 0])
theorem NV:kI TI:=cO d8 Go.Ax.f6.nil kN kO 80 rfl (by kernel_rfl)
set_option maxRecDepth 1000000
def PJ:List (Nat × List AV × AV):=Tq::T2::Tx::Tr::TP::TZ::T3::To::TE::TR::TO::Tt::Td::TN::TD::TJ::T0::TM::Tw::Tb::Tu::Tg::TU::Tk::TL::TH::TY::TI::[]
theorem CO:Go.Ax.f6 prog gz PJ:=(lG MD (lG Mf (lG Mp (lG Mi (lG M5 (lG NZ (lG MH (lG MG (lG MZ (lG NO (lG NL (lG NW (lG L9 (lG M9 (lG MS (lG NU (lG MM (lG NB (lG Nm (lG Mz (lG L6 (lG NE (lG MN (lG M8 (lG M0 (lG Ng (lG MW (lG NV Go.Ax.f6.nil))))))))))))))))))))))))))))
def Ti:Nat × List AV × AV:=(30,[Pm],.tup [.agg [.bool false,(cW 4)],.int .i64 0])
theorem M6:kI Ti:=cO d8 CO kN kO 80 rfl (by kernel_rfl)
def Tv:Nat × List AV × AV:=(31,[Pm,.int .i64 3],.tup [.il 2 [.agg [.bool false,.il 1 []],.agg [.bool false,(cW 1)],.agg [.bool false,(cW 3)],.agg [.bool false,.nsl]],.int .i64 0])
theorem Nn:kI Tv:=cO d8 CO kN kO 80 rfl (by kernel_rfl)
def TX:Nat × List AV × AV:=(32,[Pm,.int .i64 1],.tup [(fC (cW 1) (cW 4)),.int .i64 0])
theorem Nh:kI TX:=cO d8 CO kN kO 80 rfl (by kernel_rfl)
set_option maxRecDepth 1000000
def UL:List (Nat × List AV × AV):=Ti::Tv::TX::PJ
theorem Qt:Go.Ax.f6 prog gz UL:=(lG M6 (lG Nn (lG Nh CO)))
def W5:Nat × List AV × AV:=(8,[],.bool true)
theorem Nb:kI W5:=cO d8 Qt kN kO 80 rfl (by kernel_rfl)
theorem Mo(l raw:List Int)(n:Int)(hl:∀x∈l,i64 x)(hr:∀x∈raw,i64 x)(hn:i64 n)(hrl:raw.length<=17592186043904):aU prog gz 3 [.il 1 (aY l),.il 1 (aY raw),.int .i64 n] (.bool true):=KG l raw n hl hr hn hrl Nb
end Go.Proofs.YthggfhnnkclooaaGreatDoor
namespace Go.Proofs.YthggfhnnkclooaaGreatDoor.CountProbs
open Go.ChangeShapes Go.WideShapes Go.ChangeAt Go.RowKit Go.Lib Go.Ax
set_option maxHeartbeats 16000000
theorem own:ownKnob Tryz.prog.godebug=none:=by kernel_rfl
theorem laidOut:laidOutB Tryz.prog=true:=by kernel_rfl
theorem cells3:Tryz.prog.cellsOf 3=1:=by kernel_rfl
theorem bytes3:Tryz.prog.bytesOf 3=8:=by kernel_rfl
theorem gNameP:Tryz.prog.globalNamed "internal/strconv.uint64pow10" = some 0:=by kernel_rfl
theorem gNameB:Tryz.prog.globalNamed "math/bits.deBruijn32tab" = some 4:=by kernel_rfl
theorem gNameC:Tryz.prog.globalNamed "math/bits.deBruijn64tab" = some 5:=by kernel_rfl
theorem gTypeP:(Tryz.prog.globals[0]?).map (·.type)=some 336:=by kernel_rfl
theorem gTypeB:(Tryz.prog.globals[4]?).map (·.type)=some 354:=by kernel_rfl
theorem gTypeC:(Tryz.prog.globals[5]?).map (·.type)=some 355:=by kernel_rfl
theorem cellsU:Tryz.prog.cellsOf 209=1:=by kernel_rfl
theorem cellsB:Tryz.prog.cellsOf 5=1:=by kernel_rfl
theorem cellsP:Tryz.prog.cellsOf 336=20:=by kernel_rfl
theorem cellsQ:Tryz.prog.cellsOf 354=32:=by kernel_rfl
theorem cellsR:Tryz.prog.cellsOf 355=64:=by kernel_rfl
def pows:List Int:=[1,10,100,1000,10000,100000,1000000,10000000,100000000,1000000000,10000000000,100000000000,1000000000000,10000000000000,100000000000000,1000000000000000,10000000000000000,100000000000000000,1000000000000000000,10000000000000000000]
def tabB:List Int:=[0,1,28,2,29,14,24,3,30,22,20,15,25,17,4,8,31,27,13,23,21,19,16,7,26,12,18,6,11,5,10,9]
def tabC:List Int:=[0,1,56,2,57,49,28,3,61,58,42,50,38,29,17,4,62,47,59,36,45,43,51,22,53,39,33,30,24,18,12,5,63,55,48,27,60,41,37,16,46,35,44,21,52,32,23,11,54,26,40,15,34,20,31,10,25,14,19,9,13,8,7,6]
theorem vars{W:World}(h:laidMetH Tryz.prog Rows.countProbsRow.laid W):∀p∈gz,VR (fun _=>⟨0,0,0⟩) (fun _=>False) (OX (fun _=>False) (fun _=>⟨0,0,0⟩) []) W (.ip p.2) (.pointer (some ⟨p.1,0,none⟩)):=by
 have h:laidMet Tryz.prog Rows.countProbsRow.laid W:=h
 have hP:=tabIs_of_head (k:=.u64) (zs:=pows) gNameP gTypeP Tryz.underlying336 Tryz.underlying209 cellsU cellsP h.tail.tail
 have hB:=tabIs_of_head (k:=.u8) (zs:=tabB) gNameB gTypeB Tryz.underlying354 Tryz.underlying5 cellsB cellsQ h
 have hC:=tabIs_of_head (k:=.u8) (zs:=tabC) gNameC gTypeC Tryz.underlying355 Tryz.underlying5 cellsB cellsR h.tail
 intro p hp
 simp only[gz,List.mem_cons,List.not_mem_nil,or_false] at hp
 rcases hp with rfl|rfl|rfl
 ·exact zK gNameP hP
 ·exact zK gNameB hB
 ·exact zK gNameC hC
set_option maxRecDepth 100000 in
theorem contract(H:Type)(enc:TypeId × Value→H)(W:World)(base:Nat)(args:Array Value)(ds gs:List (DataW H))(before:List MemPlace)
  (hval:∀(j:Nat) t v,Tryz.f3.params[j]? = some t→args[j]? = some v→Value.okWide Tryz.prog W .any base t v)
  (hW:DataW.Whole enc Tryz.prog Tryz.f3.params.toList Rows.countProbsSpec.vars false W args.toList ds gs before) (hL:laidMetH Tryz.prog Rows.countProbsRow.laid W) (vt:List TypeId) (hsz:(DataW.weightsEach Tryz.prog (Tryz.f3.params.toList++vt) (ds++gs)).all (· ≤ reachBytes)=true) :
  Calls Tryz.prog 3 args W fun e W'=>∃v,e = .returned v∧Rows.countProbsSpec.post enc Tryz.prog Tryz.f3 false true false false W args v W':=by
 have hW':=hW
 obtain⟨p,q,hA0,hV,rfl,hfz,hnd⟩:=hW
 have hA:DataW.TrodAll enc Tryz.prog W 0 (fun _=>true) true Tryz.f3.params.toList args.toList ds p:=hA0
 rw[Tryz.params3] at hA hval
 rw[Tryz.params3] at hsz
 obtain⟨v0,vs0,d0,ds0,p0,q0,hargs,rfl,rfl,h0,r0⟩:=trodAll_cons hA
 obtain⟨v1,vs1,d1,ds1,p1,q1,rfl,rfl,rfl,h1,r1⟩:=trodAll_cons r0
 obtain⟨v2,vs2,d2,ds2,p2,q2,rfl,rfl,rfl,h2,r2⟩:=trodAll_cons r1
 obtain⟨rfl,rfl,rfl⟩:=trodAll_nil r2
 obtain rfl:args = #[v0,v1,v2]:=by cases args;simp_all
 obtain⟨rfl,rfl⟩:=trodVars_none hV
 have hw1:(d1.weights Tryz.prog 22).all (· ≤ reachBytes)=true:=F7 (GC (hsz))
 have h0k:=h0
 obtain⟨x0,b0,e0⟩:=KZ Tryz.underlying22 Tryz.underlying3 cells3 (hval 0 22 v0 rfl rfl) h0
 have h1k:=h1
 obtain⟨x1,b1,e1,s1⟩:=Ko Tryz.underlying22 Tryz.underlying3 cells3 bytes3 (hval 1 22 v1 rfl rfl) h1 hw1
 have h2k:=h2
 obtain⟨x2,rfl,rfl,rfl,hwf2⟩:=open_int Tryz.underlying3 (hval 2 3 v2 rfl rfl) h2
 have b2:i64 x2:=by
  have e1:IntKind.i64.min = -9223372036854775808:=rfl
  have e2:IntKind.i64.max=9223372036854775807:=rfl
  simp[Lit.wf,e1,e2] at hwf2
  unfold i64
  omega
 clear hA0
 refine((Mo x0 x1 x2 b0 b1 b2 s1).callsG W [v0,v1,.int .i64 x2] (vars hL) (.cons e0 (.cons e1 (.cons (.int _ _) .nil)))).mono ?_
 rintro e W' ⟨rfl,hk⟩
 refine⟨_,rfl,_,_,_,[],p0++(p1++([]++[])),[],hW', ?_, ?_, ?_,hk.frame _,fun h=>by cases h⟩
 ·exact trodAll_cons_mk (shut_bool Tryz.underlying4 _) trodAll_mk0
 ·exact trodAll_cons_mk (HG.trod laidOut (by kernel_rfl) (of_decide_eq_true (by kernel_rfl)) h0k hk) (trodAll_cons_mk (HG.trod laidOut (by kernel_rfl) (of_decide_eq_true (by kernel_rfl)) h1k hk) (trodAll_cons_mk (HG.trod laidOut (by kernel_rfl) (of_decide_eq_true (by kernel_rfl)) h2k hk) trodAll_mk0))
 ·rfl
noncomputable def laidWorld(os:Os):World:=
 let w0:=World.holding Tryz.prog os ⟨#[],#[],[]⟩
 let put (h:Array Obj) (g:Nat) (cs:Array Value):Array Obj:=h.modify g fun
  | .cells _ t frozen=>.cells cs t frozen
  | o=>o
 let nums (d:DataW Unit):Array Value:=match d with
  | .agg ds=>(ds.map fun
   | .lit (.int k n)=>Value.int k n
   | _=>.bool false).toArray
  | _=>#[]
 let h1:=put w0.heap 0 (nums Rows.laid_internal_strconv_uint64pow10)
 let h2:=put h1 4 (nums Rows.laid_math_bits_deBruijn32tab)
 let h3:=put h2 5 (nums Rows.laid_math_bits_deBruijn64tab)
 { w0 with heap:=h3 }
theorem laid_met(os:Os)(args:Array Value):laidMet Tryz.prog Rows.countProbsRow.laid ((laidWorld os).forCall (fun _ _=>0) ⟨#[],args,[]⟩).memory:=
 (LaidIn.of_run (l:=Rows.countProbsRow.laid) [0,4,5] 8 (by kernel_rfl) (by kernel_rfl) (by kernel_rfl) (by kernel_rfl)).met
noncomputable abbrev wargs:Array Value:=#[.slice none 0 0,.slice none 0 0,.int .i64 0]
theorem reads(os:Os){H:Type}(enc:TypeId × Value→H):∃places,DataW.whole enc Tryz.prog ((laidWorld os).forCall (fun _ _=>0) ⟨#[],wargs,[]⟩).memory Tryz.f3.params.toList Rows.countProbsSpec.vars false wargs.toList 8=some ([.nil,.nil,.lit (.int .i64 0)],[],places):=
 ⟨[],by kernel_rfl⟩
set_option maxRecDepth 100000 in
theorem lifted(os:Os)(started:os.Started)(H:Type)(enc:TypeId × Value→H)(F:Stop.Interp) :
  ReturnsInHanded {} Tryz.checked os 3 .any ((OpenSpec.ofChange Rows.countProbsSpec).preRow enc Tryz.prog Tryz.f3 Rows.countProbsRow.domain false Rows.countProbsRow.laid) (((OpenSpec.ofChange Rows.countProbsSpec).at F).post enc Tryz.prog Tryz.f3 false true false false):=by
 obtain⟨places,hx⟩:=reads os enc
 refine returnsInHanded_of_row (C:=Tryz.checked) (s:=OpenSpec.ofChange Rows.countProbsSpec) own started (by kernel_rfl) Tryz.func3
  (witness_row_atRef (enc:=enc) (C:=Tryz.checked) false (laidWorld os) wargs rfl (by kernel_rfl) (by kernel_rfl) (by kernel_rfl)
   (OpenSpec.preRow_of_cond 8 hx (by kernel_rfl) (fun k hk=>by cases hk) (by kernel_rfl) (laid_met os _))) ?_
 intro W base args ds gs before hval hW _ _ hsz hL _ _
 exact contract H enc W base args ds gs before hval hW hL _ hsz
theorem said:Rows.CountProbsSaid:=
 OpenClaim.holds_of_cond 3 Tryz.f3 rfl rfl rfl rfl rfl rfl rfl ⟨rfl,rfl,rfl,rfl,rfl⟩ rfl rfl rfl rfl rfl (by as_aux_lemma=>kernel_rfl) Tryz.func3 (by unfold joinedFacts;simp only[Bool.and_eq_true];(repeat' apply And.intro);all_goals (as_aux_lemma=>kernel_rfl))
  (of_decide_eq_true (by as_aux_lemma=>kernel_rfl)) (by unfold Func.isWrapper;first|(rw[if_pos (by as_aux_lemma=>decide +kernel)];as_aux_lemma=>kernel_rfl)|(rw[if_neg (by as_aux_lemma=>decide +kernel)];exact⟨rfl,rfl⟩))
  (fun os started H enc _ F=>by rw[OpenClaim.pre_eq_preRow];exact lifted os started H enc F)
theorem plain(f:FuncId)(fn:Func)(hf:Tryz.pinned.checked.prog.funcNamed "refuter/refuterlaw15.CountProbs" = some f)(hfn:Tryz.pinned.checked.prog.funcs[f]? = some fn) :
  true=Tryz.pinned.checked.prog.looks []∧∀(j:Nat) t,fn.params[j]? = some t→Tryz.pinned.checked.prog.wantsStandIn t=false:=by
 obtain rfl:f=3:=Option.some.inj ((show Tryz.prog.funcNamed "refuter/refuterlaw15.CountProbs" = some 3 by kernel_rfl).symm.trans hf) |>.symm
 obtain rfl:fn=Tryz.f3:=(Option.some.inj (Tryz.func3.symm.trans hfn)).symm
 refine⟨by kernel_rfl,fun j t ht=>?_⟩
 rw[Tryz.params3] at ht
 have hTI:Tryz.prog.wantsStandIn 22=false:=by kernel_rfl
 have hTi:Tryz.prog.wantsStandIn 3=false:=by kernel_rfl
 have hm:=Array.mem_of_getElem? ht
 simp at hm
 repeat' (first|(rw[(hm:t=22)];exact hTI)|(rw[(hm:t=3)];exact hTi)|rcases hm with hm|hm)
theorem card:Rows.CountProbsCardSaid:=
 Claim7.holds_tied_plain_at .later [] _ _ _ _ said (fun _ h=>by cases h) (by kernel_rfl) (fun _ h=>by cases h) countProbs_row_tie rfl ⟨rfl,rfl⟩ (by kernel_rfl) rfl plain (by kernel_rfl)
end Go.Proofs.YthggfhnnkclooaaGreatDoor.CountProbs
