/- A part of the proof. -/
import Derived.Test.YtnbkfjjdlofdpaaGreatDoorAx10
import Derived.Shelf.SlGeneric
import Derived.Shelf.SlSortCmp.WholeK
import Derived.Shelf.SlSortCmp.NoneTotal
import Derived.Ground.SlsfProg
import Derived.Test.YtnbkfjjdlofdpaaGreatDoorProg
import Derived.Shelf.SlSortCmp.InsertionK
set_option linter.unusedVariables false
set_option linter.unusedSimpArgs false
set_option linter.unusedSectionVars false
namespace Go.Proofs.YtnbkfjjdlofdpaaGreatDoor
open Go Go.Ax Go.Proofs Tryz
set_option maxRecDepth 100000
set_option maxHeartbeats 16000000
theorem DA(x:Int):aR prog [] 50 [.int .i64 x] (.bool false):=by
 refine jU eG func50 rfl ?_
 conv=>whnf
 refine aJ (.bool _) ⟨?_,rfl,rfl⟩;simp
theorem GG(x y:Int):aR prog [] 37 [.int .i64 x,.int .i64 y] (.int .i64 (cB x y)):=by
 refine jU eG func37 rfl ?_
 conv=>whnf
 refine(DA x).use eG (.cons (.int _ _) .nil) (.bool _) ?_
 conv=>whnf
 refine(DA y).use eG (.cons (.int _ _) .nil) (.bool _) ?_
 conv=>whnf
 refine b7 (fun h=>?_) (fun h=>?_)
 ·conv=>whnf
  refine aJ (.int _ _) ⟨?_,rfl,rfl⟩;simp at h;simp[cB,h]
 conv=>whnf
 refine b7 (fun h'=>?_) (fun h'=>?_)
 ·conv=>whnf
  refine aJ (.int _ _) ⟨?_,rfl,rfl⟩;simp at h h';simp only[cB];rw[Ja om,Jb om]
 ·conv=>whnf
  refine aJ (.int _ _) ⟨?_,rfl,rfl⟩;simp at h h';simp only[cB];rw[Ja om,Ja om]
theorem Iz(x y z:Int):aR prog [] 22 [.il 1 [.int .i64 x,.int .i64 y,.int .i64 z]] (.int .i64 (andThen x (andThen y z))):=by
 have nl:NN (.il 1 [.int .i64 x,.int .i64 y,.int .i64 z]):=.il' (.cons nn (.cons nn (.cons nn .nil)));refine aN eG func22 rfl ?_;refine Rr ?_;refine bH.at eG (fun k:Nat=>k<=3/\(0<k->x=0)/\(1<k->y=0)/\(2<k->z=0))
  (fun k=>⟨[(3,.int .i64 0),(6,.il 1 [.int .i64 x,.int .i64 y,.int .i64 z]),(7,.int .i64 3),(8,.int .i64 k)],[],0,18⟩)
  (fun k=>3-k) 0 [] ⟨om,om,om,om⟩
  (bB ⟨aL,aP nl,aL,aL,trivial⟩) ?_
 rintro k ⟨h1,h2,h3,h4⟩
 match k,h1,h2,h3,h4 with
 | 0,h1,h2,h3,h4=>
  refine Rr ?_;refine b7 (fun h=>?_) (fun h=>?_)
  ·have h:x≠0:=by simpa using h
   refine Rr ?_;refine aJ nn ⟨?_,rfl,rfl⟩;rw[andThen,Ja h]
  ·have h:x=0:=by simpa using h
   refine Rr ?_;exact .mk 1 [] ⟨om,fun _=>h,om,om⟩ (bB ⟨aL,aP nl,aL,⟨_,rfl,.w64 rfl ⟨om,om⟩⟩,trivial⟩) om
 | 1,h1,h2,h3,h4=>
  refine Rr ?_;refine b7 (fun h=>?_) (fun h=>?_)
  ·have h:y≠0:=by simpa using h
   refine Rr ?_;refine aJ nn ⟨?_,rfl,rfl⟩;rw[andThen,Jb (h2 om),andThen,Ja h]
  ·have h:y=0:=by simpa using h
   refine Rr ?_;exact .mk 2 [] ⟨om,fun _=>h2 om,fun _=>h,om⟩ (bB ⟨aL,aP nl,aL,⟨_,rfl,.w64 rfl ⟨om,om⟩⟩,trivial⟩) om
 | 2,h1,h2,h3,h4=>
  refine Rr ?_;refine b7 (fun h=>?_) (fun h=>?_)
  ·have h:z≠0:=by simpa using h
   refine Rr ?_;refine aJ nn ⟨?_,rfl,rfl⟩;rw[andThen,Jb (h2 om),andThen,Jb (h3 om)]
  ·have h:z=0:=by simpa using h
   refine Rr ?_;exact .mk 3 [] ⟨om,fun _=>h2 om,fun _=>h3 om,fun _=>h⟩ (bB ⟨aL,aP nl,aL,⟨_,rfl,.w64 rfl ⟨om,om⟩⟩,trivial⟩) om
 | 3,h1,h2,h3,h4=>
  refine Rr ?_;refine aJ nn ⟨?_,rfl,rfl⟩;rw[andThen,Jb (h2 om),andThen,Jb (h3 om),h4 om]
theorem Fs(x y:Oc):aR prog [] 24 [F6 x,F6 y] (.int .i64 (uC x y)):=by
 have h1:=wU x.kind y.kind;have h2:=wU x.at_ y.at_;have h3:=GG x.code y.code;have h4:=Iz (cB x.kind y.kind) (cB x.at_ y.at_) (cB x.code y.code);unfold uC;generalize cB x.kind y.kind=a at *;generalize cB x.at_ y.at_=b at *;generalize cB x.code y.code=c at *;generalize andThen a (andThen b c)=d at *;obtain⟨x1,x2,x3⟩:=x;obtain⟨y1,y2,y3⟩:=y;have nl:Go.Ax.f9 [.int .i64 a,.int .i64 b,.int .i64 c]:=.cons nn (.cons nn (.cons nn .nil));refine aN eG func24 rfl ?_;refine Rr ?_;refine h1.go ?_;refine Rt ?_;refine h2.go ?_;refine Rt ?_;refine h3.go ?_;refine Rt ?_;refine aC.pre eG [] (mem':=[]) rfl trivial (.cons (.fz' (id:=17) (off:=0) (len:=3) (ys:=[.int .i64 a,.int .i64 b,.int .i64 c]) rfl rfl (by simp) rfl nl) .nil) ?_;refine h4.go ?_ (.cons (.il' nl) .nil) nn;refine Rr ?_;exact aJ nn ⟨rfl,rfl,rfl⟩
theorem Fj(f g:Fl)(hf:f.path.length<=4294967296):aR prog [] 21 [fZ f,fZ g] (.int .i64 (a8 f g)):=by
 have h1:=IH f.path g.path om;have h2:=Fs f.oc g.oc;have h3:=I5 (fQ f.path g.path) (uC f.oc g.oc)
 show aR prog [] 21 [fZ f,fZ g] (.int .i64 (andThen (fQ f.path g.path) (uC f.oc g.oc)))
 generalize fQ f.path g.path=a at *;generalize uC f.oc g.oc=b at *;generalize andThen a b=d at *;obtain⟨p,o⟩:=f;obtain⟨q,u⟩:=g;have no:=e6 o;have nu:=e6 u;obtain⟨o1,o2,o3⟩:=o;obtain⟨u1,u2,u3⟩:=u;have np:NN (.il 1 (a6 p)):=.il' (aU p);have nq:NN (.il 1 (a6 q)):=.il' (aU q);have nl:Go.Ax.f9 [.int .i64 a,.int .i64 b]:=.cons nn (.cons nn .nil);refine aN eG func21 rfl ?_;refine Rr ?_;refine h1.go ?_ (.cons np (.cons nq .nil)) nn;refine Rt ?_;refine h2.go ?_ (.cons no (.cons nu .nil)) nn;refine Rt ?_;refine aC.pre eG [] (mem':=[]) rfl trivial (.cons (.fz' (id:=12) (off:=0) (len:=2) (ys:=[.int .i64 a,.int .i64 b]) rfl rfl (by simp) rfl nl) .nil) ?_;refine h3.go ?_ (.cons (.il' nl) .nil) nn;refine Rr ?_;exact aJ nn ⟨rfl,rfl,rfl⟩
theorem G3(f g:Fl)(hf:f.path.length<=4294967296):aR prog [] 27 [fZ f,fZ g,.ip (.fn (.func 21) [] [])] (.bool (a8 f g == 0)):=by
 have h:=Fj f g hf;have nf:=hU f;have ng:=hU g;generalize a8 f g=a at *;obtain⟨p,o1,o2,o3⟩:=f;obtain⟨q,u1,u2,u3⟩:=g;refine aN eG func27 rfl ?_;refine Rr ?_;refine h.go ?_ (.cons nf (.cons ng .nil)) nn;refine Rr ?_;exact aJ nn ⟨rfl,rfl,rfl⟩
theorem G6(f g:Gr)(hf:f.min.length<=4294967296):aR prog [] 29 [dV f,dV g] (.int .i64 (eM f g)):=by
 have h1:=IH f.min g.min om;have h2:=Fs f.oc g.oc;have h3:=I5 (fQ f.min g.min) (uC f.oc g.oc)
 show aR prog [] 29 [dV f,dV g] (.int .i64 (andThen (fQ f.min g.min) (uC f.oc g.oc)))
 generalize fQ f.min g.min=a at *;generalize uC f.oc g.oc=b at *;generalize andThen a b=d at *;obtain⟨p,o,fs⟩:=f;obtain⟨q,u,gs⟩:=g;have no:=e6 o;have nu:=e6 u;obtain⟨o1,o2,o3⟩:=o;obtain⟨u1,u2,u3⟩:=u;have np:NN (.il 1 (a6 p)):=.il' (aU p);have nq:NN (.il 1 (a6 q)):=.il' (aU q);have nl:Go.Ax.f9 [.int .i64 a,.int .i64 b]:=.cons nn (.cons nn .nil);refine aN eG func29 rfl ?_;refine Rr ?_;refine h1.go ?_ (.cons np (.cons nq .nil)) nn;refine Rt ?_;refine h2.go ?_ (.cons no (.cons nu .nil)) nn;refine Rt ?_;refine aC.pre eG [] (mem':=[]) rfl trivial (.cons (.fz' (id:=12) (off:=0) (len:=2) (ys:=[.int .i64 a,.int .i64 b]) rfl rfl (by simp) rfl nl) .nil) ?_;refine h3.go ?_ (.cons (.il' nl) .nil) nn;refine Rr ?_;exact aJ nn ⟨rfl,rfl,rfl⟩
theorem D7(x y:Int):aR prog [] 47 [.int .i64 x,.int .i64 y] (.int .i64 (cB x y)):=by
 refine aN eG func47 rfl ?_;unfold cB;refine Rr ?_;refine b7 (fun h=>?_) (fun h=>?_)
 ·have h:x<y:=by simpa using h
  refine Rr ?_;exact b8 (r':=.int .i64 _) (.eq nn (by rw[Jb h])) ⟨rfl,rfl,rfl⟩
 ·have h:¬x<y:=by simpa using h
  refine Rr ?_;refine b7 (fun h'=>?_) (fun h'=>?_)
  ·have h':y<x:=by simpa using h'
   refine Rr ?_;exact b8 (r':=.int .i64 _) (.eq nn (by rw[Ja h,Jb h'])) ⟨rfl,rfl,rfl⟩
  ·have h':¬y<x:=by simpa using h'
   refine Rr ?_;exact b8 (r':=.int .i64 _) (.eq nn (by rw[Ja h,Ja h'])) ⟨rfl,rfl,rfl⟩
theorem Bd(p q:List Int)(o u:Oc)(hp:p.length<=4294967296):aR prog [] 33 [.il 1 (a6 p),F6 o,.il 1 (a6 q),F6 u] (.int .i64 (sU (p,o) (q,u))):=by
 have h1:=Il p q om;have a1:=D7 o.kind u.kind;have a2:=D7 o.at_ u.at_;have a3:=D7 o.code u.code
 show aR prog [] 33 [.il 1 (a6 p),F6 o,.il 1 (a6 q),F6 u] (.int .i64 (andThen (fQ p q) (andThen (cB o.kind u.kind) (andThen (cB o.at_ u.at_) (cB o.code u.code)))))
 generalize fQ p q=c at *;generalize cB o.kind u.kind=c1 at *;generalize cB o.at_ u.at_=c2 at *;generalize cB o.code u.code=c3 at *;obtain⟨o1,o2,o3⟩:=o;obtain⟨u1,u2,u3⟩:=u;have np:NN (.il 1 (a6 p)):=.il' (aU p);have nq:NN (.il 1 (a6 q)):=.il' (aU q);unfold andThen;refine aN eG func33 rfl ?_;refine Rr ?_;refine h1.go ?_ (.cons np (.cons nq .nil)) nn;refine Rr ?_;by_cases e1:c=0
 ·subst e1;refine Rr ?_;refine a1.go ?_;refine Rr ?_;by_cases e2:c1=0
  ·subst e2;refine Rr ?_;refine a2.go ?_;refine Rr ?_;by_cases e3:c2=0
   ·subst e3;refine Rr ?_;refine a3.go ?_;refine Rr ?_;exact b8 (r':=.int .i64 _) (.eq nn (by simp)) ⟨rfl,rfl,rfl⟩
   ·rw[show (c2 == 0)=false by simpa using e3];refine Rr ?_;exact b8 (r':=.int .i64 _) (.eq nn (by simp[e3])) ⟨rfl,rfl,rfl⟩
  ·rw[show (c1 == 0)=false by simpa using e2];refine Rr ?_;refine b7 (fun h=>?_) (fun h=>?_)
   ·exact absurd (by simpa using h) e2
   ·refine Rr ?_;exact b8 (r':=.int .i64 _) (.eq nn (by simp[e2])) ⟨rfl,rfl,rfl⟩
 ·rw[show (c == 0)=false by simpa using e1];refine Rr ?_;repeat(refine b7 (fun h=>absurd (by simpa using h) e1) (fun h=>?_);refine Rr ?_)
  exact b8 (r':=.int .i64 _) (.eq nn (by simp[e1])) ⟨rfl,rfl,rfl⟩
set_option maxHeartbeats 16000000
theorem Dj{k:Int}(h1:¬k=1)(h2:¬k=2):oT k=Lib.itoa k:=by unfold oT;rw[Ja h1,Ja h2]
theorem Co{k:Int}(h:i64 k):(oT k).length<=21:=by
 unfold oT;split
 ·decide
 ·split
  ·decide
  ·exact gV h
theorem IW(g:Gr)(hg:Gs (aT g))(hl:g.min.length<=1000000):aR prog gz 7 [dV g] (.str (g9 (aT g))):=by
 have ng:=eN g;have h1:=vM g.oc.kind hg.2.1;have h2:=vM g.oc.at_ hg.2.2.1;have h3:=vM g.oc.code hg.2.2.2;have hi:∀x∈g.min,i64 x:=hg.1;have e1:=Dj (k:=g.oc.kind);have e2:g.oc.kind=1->oT g.oc.kind=[102,97,105,108,101,100]:=fun h=>by rw[h];rfl
 have e3:g.oc.kind=2->oT g.oc.kind=[98,114,111,107,101]:=fun h=>by rw[h];rfl
 have l0:=Co hg.2.1;have l2:=gV hg.2.2.1;have l3:=gV hg.2.2.2
 show aR prog gz 7 [dV g] (.str (oT g.oc.kind++32::(Lib.itoa g.oc.at_++32::(Lib.itoa g.oc.code++58::dQ g.min))))
 obtain⟨p,⟨o1,o2,o3⟩,fs⟩:=g;simp only[aT] at *;generalize oT o1=K at *;generalize Lib.itoa o1=k1 at *;generalize Lib.itoa o2=k2 at *;generalize Lib.itoa o3=k3 at *;have np:NN (.il 1 (a6 p)):=.il' (aU p);have lp:=bW p;refine aN bE func7 rfl ?_;refine Rr ?_;refine h1.use bE xU nn ?_;refine Rr ?_;have hk:o1=1∨o1=2∨(¬o1=1/\¬o1=2):=om;rcases hk with h|h|⟨h,h'⟩
 ·subst h;refine Rr ?_;rw[←e2 rfl];refine h2.use bE xU nn ?_;refine Rr ?_;repeat((first|refine aS (JZ (by simp;omega)) ?_|refine aF ?_);refine Rr ?_)
  refine h3.use bE xU nn ?_;refine Rr ?_;repeat((first|refine aS (JZ (by simp;omega)) ?_|refine aF ?_);refine Rr ?_)
  refine bH.at bE (fun k:Nat=>k<=p.length) (fun k=>⟨[(3,.str (K++32::(k2++32::(k3++58::dQ (p.take k))))),(32,.il 1 (a6 p)),(33,.int .i64 p.length),(34,.int .i64 k)],[],0,45⟩) (fun k=>p.length-k) 0 [] (by simp)
   (bB ⟨⟨_,rfl,.eq nn (by simp[dQ])⟩,aP np,⟨_,rfl,.eq nn (by rw[lp])⟩,aL,trivial⟩) ?_
  intro k hk;have hd:decide ((k:Int)<(p.length:Int))=decide (k<p.length):=Jq.2 om;have hpl:=oH (l:=p.take k) fun x hx=>hi x (KE hx)
  rw[J2] at hpl;refine Rr ?_;rw[hd];by_cases hlt:k<p.length
  ·rw[Jk hlt];have ek:=iB hlt;have hk1:=vM p[k] (hi _ (Jl hlt));have hk2:=gV (hi _ (Jl hlt));have hk3:dQ (p.take (k+1))=dQ (p.take k)++32::Lib.itoa p[k]:=by rw[Jd hlt,lJ]
   generalize dQ (p.take k)=S at *;generalize Lib.itoa p[k]=c at *;generalize p[k]=x at *;refine Rr ?_;repeat((first|refine aI ek ?_|refine aF ?_);refine Rr ?_)
   refine hk1.use bE xU nn ?_;refine Rr ?_;repeat((first|refine aS (JZ (by simp;omega)) ?_|refine aF ?_);refine Rr ?_)
   exact .mk (k+1) [] om (bB ⟨⟨_,rfl,.eq nn (by rw[hk3];simp)⟩,aP np,aL,⟨_,rfl,.w64 om ⟨om,om⟩⟩,trivial⟩) om
  ·rw[Jm hlt];refine Rr ?_;have:k=p.length:=om;subst this;exact b8 (r':=.str _) (.eq nn (by rw[Jx])) ⟨rfl,rfl,rfl⟩
 ·subst h;refine Rr ?_;rw[←e3 rfl];refine h2.use bE xU nn ?_;refine Rr ?_;repeat((first|refine aS (JZ (by simp;omega)) ?_|refine aF ?_);refine Rr ?_)
  refine h3.use bE xU nn ?_;refine Rr ?_;repeat((first|refine aS (JZ (by simp;omega)) ?_|refine aF ?_);refine Rr ?_)
  refine bH.at bE (fun k:Nat=>k<=p.length) (fun k=>⟨[(3,.str (K++32::(k2++32::(k3++58::dQ (p.take k))))),(32,.il 1 (a6 p)),(33,.int .i64 p.length),(34,.int .i64 k)],[],0,45⟩) (fun k=>p.length-k) 0 [] (by simp)
   (bB ⟨⟨_,rfl,.eq nn (by simp[dQ])⟩,aP np,⟨_,rfl,.eq nn (by rw[lp])⟩,aL,trivial⟩) ?_
  intro k hk;have hd:decide ((k:Int)<(p.length:Int))=decide (k<p.length):=Jq.2 om;have hpl:=oH (l:=p.take k) fun x hx=>hi x (KE hx)
  rw[J2] at hpl;refine Rr ?_;rw[hd];by_cases hlt:k<p.length
  ·rw[Jk hlt];have ek:=iB hlt;have hk1:=vM p[k] (hi _ (Jl hlt));have hk2:=gV (hi _ (Jl hlt));have hk3:dQ (p.take (k+1))=dQ (p.take k)++32::Lib.itoa p[k]:=by rw[Jd hlt,lJ]
   generalize dQ (p.take k)=S at *;generalize Lib.itoa p[k]=c at *;generalize p[k]=x at *;refine Rr ?_;repeat((first|refine aI ek ?_|refine aF ?_);refine Rr ?_)
   refine hk1.use bE xU nn ?_;refine Rr ?_;repeat((first|refine aS (JZ (by simp;omega)) ?_|refine aF ?_);refine Rr ?_)
   exact .mk (k+1) [] om (bB ⟨⟨_,rfl,.eq nn (by rw[hk3];simp)⟩,aP np,aL,⟨_,rfl,.w64 om ⟨om,om⟩⟩,trivial⟩) om
  ·rw[Jm hlt];refine Rr ?_;have:k=p.length:=om;subst this;exact b8 (r':=.str _) (.eq nn (by rw[Jx])) ⟨rfl,rfl,rfl⟩
 ·refine Rr ?_;rw[show (o1 == 1)=false by simpa using h];refine Rr ?_;rw[show (o1 == 2)=false by simpa using h'];refine Rr ?_;rw[←e1 h h'];refine h2.use bE xU nn ?_;refine Rr ?_;repeat((first|refine aS (JZ (by simp;omega)) ?_|refine aF ?_);refine Rr ?_)
  refine h3.use bE xU nn ?_;refine Rr ?_;repeat((first|refine aS (JZ (by simp;omega)) ?_|refine aF ?_);refine Rr ?_)
  refine bH.at bE (fun k:Nat=>k<=p.length) (fun k=>⟨[(3,.str (K++32::(k2++32::(k3++58::dQ (p.take k))))),(32,.il 1 (a6 p)),(33,.int .i64 p.length),(34,.int .i64 k)],[],0,45⟩) (fun k=>p.length-k) 0 [] (by simp)
   (bB ⟨⟨_,rfl,.eq nn (by simp[dQ])⟩,aP np,⟨_,rfl,.eq nn (by rw[lp])⟩,aL,trivial⟩) ?_
  intro k hk;have hd:decide ((k:Int)<(p.length:Int))=decide (k<p.length):=Jq.2 om;have hpl:=oH (l:=p.take k) fun x hx=>hi x (KE hx)
  rw[J2] at hpl;refine Rr ?_;rw[hd];by_cases hlt:k<p.length
  ·rw[Jk hlt];have ek:=iB hlt;have hk1:=vM p[k] (hi _ (Jl hlt));have hk2:=gV (hi _ (Jl hlt));have hk3:dQ (p.take (k+1))=dQ (p.take k)++32::Lib.itoa p[k]:=by rw[Jd hlt,lJ]
   generalize dQ (p.take k)=S at *;generalize Lib.itoa p[k]=c at *;generalize p[k]=x at *;refine Rr ?_;repeat((first|refine aI ek ?_|refine aF ?_);refine Rr ?_)
   refine hk1.use bE xU nn ?_;refine Rr ?_;repeat((first|refine aS (JZ (by simp;omega)) ?_|refine aF ?_);refine Rr ?_)
   exact .mk (k+1) [] om (bB ⟨⟨_,rfl,.eq nn (by rw[hk3];simp)⟩,aP np,aL,⟨_,rfl,.w64 om ⟨om,om⟩⟩,trivial⟩) om
  ·rw[Jm hlt];refine Rr ?_;have:k=p.length:=om;subst this;exact b8 (r':=.str _) (.eq nn (by rw[Jx])) ⟨rfl,rfl,rfl⟩
set_option maxHeartbeats 16000000
theorem Cf{K:Type}{c:K->K->Int}(x:K){l:List K}{k:Nat}(h:k<l.length):dH c x (l.take (k+1))=wS c x (dH c x (l.take k)) l[k]:=by
 rw[Jd h,gH]
theorem x5{K:Type}{c:K->K->Int}(x:K):∀(l:List K),(dH c x l).1.length<=2*l.length:=by
 intro l;obtain⟨r,hr⟩:∃r,r=l.reverse:=⟨_,rfl⟩
 have hl:l=r.reverse:=by rw[hr,KL]
 subst hl;clear hr
 induction r with
 | nil=>simp[dH]
 | cons y r ih=>
  rw[KP,gH];simp only[wS,J9,List.length_singleton];split<;>simp at ih ⊢ <;> omega
theorem i5(l:List Fl)(f:Fl):aQ (l++[f])=aQ l++[fZ f]:=by simp[aQ]
theorem F5(l:List Fl)(x:Fl)(hl:l.length<=100000000)(hx:x.path.length<=4294967296):aR prog [] 45 [.il 4 (aQ l),fZ x] (.il 4 (aQ (iQ a8 x l))):=by
 have nl:NN (.il 4 (aQ l)):=.il' (aM l);have ll:=aZ l;have nx:=hU x;refine aN eG func45 rfl ?_;refine Rr ?_;refine bH.ph 50 4 ?_;refine bH.at eG (fun k:Nat=>k<=l.length)
  (fun k=>⟨[(0,.il 4 (aQ l)),(3,.ptr 0 0 0),(5,.sl 1 0 (dH a8 x (l.take k)).1.length),(6,.bool (dH a8 x (l.take k)).2),(7,.int .i64 k)],[(0,.row 50 4 [fZ x]),(1,.row 50 4 (aQ (dH a8 x (l.take k)).1))],2,59⟩) (fun k=>l.length-k) 0 [(0,0),(1,1)] (by simp)
  (bD _ rfl ⟨c9 0 (.cons nx .nil),⟨1,_,rfl,rfl,.nil⟩,trivial⟩ ⟨aP nl,dU,⟨_,rfl,.nslk 1 1 _ rfl rfl⟩,aL,aL,trivial⟩) ?_
 intro k hk;have hd:decide ((k:Int)<((aQ l).length:Int))=decide (k<l.length):=by rw[ll];exact Jq.2 om
 have hlen:=x5 (c:=a8) x (l.take k);rw[J2] at hlen;by_cases hlt:k<l.length
 ·have ek:=gN hlt;have hc:=Bd x.path l[k].path x.oc l[k].oc hx;have hs:=Cf (c:=a8) x hlt
  change aR _ _ _ _ (.int .i64 (a8 x l[k])) at hc
  generalize l[k]=y at *;simp only[wS] at hs;generalize dH a8 x (l.take k)=s at *;generalize a8 x y=c at *;obtain⟨out,d⟩:=s;obtain⟨p,o1,o2,o3⟩:=x;obtain⟨q,u1,u2,u3⟩:=y;have lo:=aZ out;simp only at *;refine Rr ?_;rw[hd,Jk hlt];refine Rr ?_;repeat((first|refine aI ek ?_|refine aF ?_);refine Rr ?_)
  refine hc.go ?_ (.cons (.il' (aU _)) (.cons (e6 ⟨o1,o2,o3⟩) (.cons (.il' (aU _)) (.cons (e6 ⟨u1,u2,u3⟩) .nil)))) nn;refine Rr ?_;repeat((first|refine aI ek ?_|refine aF ?_);refine Rr ?_)
  cases d<;>by_cases h1:c<0<;>by_cases h2:c<=0<;>first|omega|skip
  all_goals
   first|rw[Jk h1]|rw[Jm h1]
   refine Rr ?_;repeat((first|refine aS (dY rfl rfl (by simp[lo]) (by simp[lo];omega)) ?_|refine dL.2 ?_|rw[Jk h2]|rw[Jm h2]|refine aI ek ?_|refine aF ?_);refine Rr ?_)
   simp[h1,h2] at hs;first
   | exact .mk (k+1) [(0,0),(19,1)] om (bD _ rfl ⟨c9 0 (.cons nx .nil),⟨19,_,rfl,rfl,.eq (aM _) (by rw[hs];simp only[i5];rfl)⟩,trivial⟩
     ⟨aP nl,dU,⟨_,rfl,.slE rfl (by rw[hs];simp)⟩,⟨_,rfl,.eq nn (by rw[hs])⟩,⟨_,rfl,.w64 om ⟨om,om⟩⟩,trivial⟩) om
   | exact .mk (k+1) [(0,0),(21,1)] om (bD _ rfl ⟨c9 0 (.cons nx .nil),⟨21,_,rfl,rfl,.eq (aM _) (by rw[hs];simp only[i5,aQ,J3];simp;exact⟨rfl,rfl⟩)⟩,trivial⟩
     ⟨aP nl,dU,⟨_,rfl,.slE rfl (by rw[hs];simp)⟩,⟨_,rfl,.eq nn (by rw[hs])⟩,⟨_,rfl,.w64 om ⟨om,om⟩⟩,trivial⟩) om
 ·have:k=l.length:=om;subst this;rw[Jx] at hlen;have hf:iQ a8 x l=if (dH a8 x l).2 then(dH a8 x l).1 else(dH a8 x l).1++[x]:=rfl
  have e0:dH a8 x (l.take l.length)=dH a8 x l:=by rw[Jx]
  rw[e0];generalize dH a8 x l=s at *;obtain⟨out,d⟩:=s;have lo:=aZ out;simp only at *;refine Rr ?_;rw[hd,Jm hlt];refine Rr ?_;cases d
  ·have hf:iQ a8 x l=out++[x]:=by rw[hf];simp
   rw[hf];obtain⟨p,o1,o2,o3⟩:=x;refine Rt ?_;repeat(refine aS (dY rfl rfl (by simp[lo]) (by simp[lo];omega)) ?_;refine Rt ?_)
   exact b8 (r':=.il 4 (aQ (out++[_]))) (.fzR (id:=3) rfl rfl (.eq (aM _) (by rw[i5];rfl)) (by simp[aZ])) ⟨rfl,rfl,rfl⟩
  ·have hf:iQ a8 x l=out:=by rw[hf];simp
   rw[hf];refine Rr ?_;exact b8 (r':=.il 4 (aQ out)) (.fzR (id:=1) rfl rfl (.same (aM _)) lo) ⟨rfl,rfl,rfl⟩
set_option maxHeartbeats 16000000
theorem vL{K:Type}{c:K->K->Int}(l:List K){xs:List K}{k:Nat}(h:k<xs.length):dD c l (xs.take (k+1))=iQ c xs[k] (dD c l (xs.take k)):=by
 rw[Jd h,CT]
theorem B7(x:Gr){l:List Gr}{k:Nat}(h:k<l.length):eV x (l.take (k+1))=CS x (eV x (l.take k)) l[k]:=by
 rw[Jd h,o6]
theorem Dy(x:Gr)(l:List Gr):(eV x l).1.length<=2*l.length:=by
 have h:=(sE x l).1;have:=congrArg List.length h;simp only[LX] at this;rw[this];have:=x5 (c:=sU) (aT x) (l.map aT);simpa using this
theorem iW(l:List Gr)(f:Gr):aD (l++[f])=aD l++[dV f]:=by simp[aD]
structure GB(g:Gr):Prop where
 min:g.min.length<=1000000
 fs:g.fs.length<=1000000
 path:∀f∈g.fs,f.path.length<=1000000
theorem Cy(l xs:List Fl)(z:Fl):z∈dD a8 l xs->z∈l∨z∈xs:=by
 have key:∀(x:Fl) (l:List Fl) (z:Fl),z∈iQ a8 x l->z=x∨z∈l:=by
  intro x l z;have k1:∀l:List Fl,∀z∈(dH a8 x l).1,z=x∨z∈l:=by
   intro l;obtain⟨r,hr⟩:∃r,r=l.reverse:=⟨_,rfl⟩
   have hl:l=r.reverse:=by rw[hr,KL]
   subst hl;clear hr
   induction r with
   | nil=>simp[dH]
   | cons y r ih=>
    rw[KP,gH];intro z hz;simp only[wS] at hz;rcases JV.1 hz with hz|hz
    ·split at hz
     ·rcases JV.1 hz with hz|hz
      ·rcases ih z hz with h|h
       ·exact .inl h
       ·exact .inr (Je _ h)
      ·exact .inl (by simpa using hz)
     ·rcases ih z hz with h|h
      ·exact .inl h
      ·exact .inr (Je _ h)
    ·exact .inr (Jw _ hz)
  intro hz;unfold iQ at hz;split at hz
  ·exact k1 l z hz
  ·rcases JV.1 hz with hz|hz
   ·exact k1 l z hz
   ·exact .inl (by simpa using hz)
 induction xs generalizing l with
 | nil=>intro h;exact .inl h
 | cons x xs ih=>
  intro h;rcases ih (iQ a8 x l) h with h|h
  ·rcases key x l z h with h|h
   ·exact .inr (by rw[h];exact .head _)
   ·exact .inl h
  ·exact .inr (.tail _ h)
theorem IY(l:List Gr)(g:Gr)(hl:l.length<=1000000)(hL:∀x∈l,x.fs.length<=1000000)(hg:GB g):aR prog [] 32 [.il 5 (aD l),dV g] (.il 5 (aD (lV g l))):=by
 have nl:NN (.il 5 (aD l)):=.il' (aK l);have ll:=bA l;have ng:=eN g;have hg3:=hg.fs;refine aN eG func32 rfl ?_;refine Rr ?_;refine bH.at eG (fun k:Nat=>k<=g.fs.length)
  (fun k=>⟨[(0,.il 5 (aD l)),(3,.ptr 0 0 0),(5,.ptr 1 0 0),(6,.int .i64 k)],[(0,.row 37 5 [dV g]),(1,.row 37 5 [dV ⟨g.min,g.oc,dD a8 [] (g.fs.take k)⟩])],2,105⟩) (fun k=>g.fs.length-k) 0 [(0,0),(1,1)] (by simp)
  (bD _ rfl ⟨c9 0 (.cons ng .nil),⟨1,_,rfl,rfl,.cons (.agg (.cons (.same _ (.il' (aU _))) (.s (.s (.s (.cons (.nil 4) .nil)))))) .nil⟩,trivial⟩ ⟨aP nl,dU,dU,aL,trivial⟩) ?_
 intro k hk;have lf:=aZ g.fs;have hd:decide ((k:Int)<((aQ g.fs).length:Int))=decide (k<g.fs.length):=by rw[lf];exact Jq.2 om
 have hil:=rM (c:=a8) (g.fs.take k) [];rw[J2,Kv hk,Kg,Jt] at hil;by_cases hlt:k<g.fs.length
 ·have ek:=gN hlt;have hs:=vL (c:=a8) [] hlt;have hp:=F5 (dD a8 [] (g.fs.take k)) g.fs[k] om (by have:=hg.path _ (Jl hlt);omega);rw[←hs] at hp;have nz:=aM (dD a8 [] (g.fs.take k));have nz':=aM (dD a8 [] (g.fs.take (k+1)));have nf:=hU g.fs[k];generalize g.fs[k]=f at *;obtain⟨p,⟨o1,o2,o3⟩,fs⟩:=g;simp only at *;obtain⟨fp,⟨f1,f2,f3⟩⟩:=f;obtain⟨z',hz'⟩:∃z',z'=aQ (dD a8 [] (fs.take (k+1))):=⟨_,rfl⟩
  rw[←hz'] at hp nz';generalize dD a8 [] (fs.take k)=z at *;refine Rr ?_;rw[hd,Jk hlt];refine Rr ?_;repeat((first|refine aI ek ?_|refine aF ?_);refine Rr ?_)
  refine hp.go ?_ (.cons (.il' nz) (.cons nf .nil)) (.il' nz');refine Rr ?_;repeat((first|refine aI ek ?_|refine aF ?_);refine Rr ?_)
  exact .mk (k+1) [(0,0),(1,1)] om (bD _ rfl ⟨c9 0 (.cons ng .nil),⟨1,_,rfl,rfl,.cons (.agg (.cons (.same _ (.il' (aU _))) (.s (.s (.s (.cons (.eq (.il' (aM _)) (by rw[hz'])) .nil)))))) .nil⟩,trivial⟩
   ⟨aP nl,dU,dU,⟨_,rfl,.w64 om ⟨om,om⟩⟩,trivial⟩) om
 ·have:k=g.fs.length:=om;subst this;rw[Jx] at hil;have e0:(⟨g.min,g.oc,dD a8 [] (g.fs.take g.fs.length)⟩:Gr)=gZ g:=by rw[Jx];rfl
  have hkey:aT (gZ g)=aT g:=rfl;have hsub:∀f∈(gZ g).fs,f∈g.fs:=fun f hf=>(Cy [] g.fs f hf).resolve_left (by simp)
  have hmin:(gZ g).min=g.min:=rfl;have hoc:(gZ g).oc=g.oc:=rfl;have hfl:(gZ g).fs.length<=1000000:=by show (dD a8 [] g.fs).length<=_;have:=hg.fs;omega
  rw[e0];have hF:lV g l=if (eV (gZ g) l).2 then(eV (gZ g) l).1 else(eV (gZ g) l).1++[gZ g]:=rfl
  have hg1:=hg.min;have hg2:=hg.path;have lfs:=aZ g.fs;generalize gZ g=x at *;have nx:=eN x;refine Rr ?_;rw[hd,Jm hlt];refine Rr ?_;refine bH.ph 37 5 ?_;refine bH.at eG (fun i:Nat=>i<=l.length)
   (fun i=>⟨[(0,.il 5 (aD l)),(5,.ptr 1 0 0),(7,.sl 2 0 (eV x (l.take i)).1.length),(8,.bool (eV x (l.take i)).2),(9,.int .i64 i)],[(1,.row 37 5 [dV x]),(2,.row 37 5 (aD (eV x (l.take i)).1))],3,105⟩) (fun i=>l.length-i) 0 [(1,1),(2,2)] (by simp)
   (bD _ rfl ⟨c9 1 (.cons nx .nil),⟨2,_,rfl,rfl,.nil⟩,trivial⟩ ⟨aP nl,dU,⟨_,rfl,.nslk 2 2 _ rfl rfl⟩,aL,aL,trivial⟩) ?_
  intro i hi;have hdi:decide ((i:Int)<((aD l).length:Int))=decide (i<l.length):=by rw[ll];exact Jq.2 om
  have hlen:=Dy x (l.take i);rw[J2,Kv hi] at hlen;by_cases hlti:i<l.length
  ·have ei:=iV hlti;have hc:=Bd x.min l[i].min x.oc l[i].oc (by rw[hmin];omega)
   change aR _ _ _ _ (.int .i64 (eM x l[i])) at hc
   have hs:=B7 x hlti;have hyl:=hL _ (Jl hlti);have ny:=eN l[i];have nx1:NN (.il 1 (a6 x.min)):=.il' (aU _);have ny1:NN (.il 1 (a6 l[i].min)):=.il' (aU _);have nxo:=e6 x.oc;have nyo:=e6 l[i].oc;simp only[CS] at hs;generalize eV x (l.take i)=s at *;generalize l[i]=y at *;generalize eM x y=c at *;obtain⟨out,d⟩:=s;have lo:=bA out;have lx:=aZ x.fs;clear hF e0 hkey;obtain⟨xp,⟨x1,x2,x3⟩,xf⟩:=x;obtain⟨yp,⟨y1,y2,y3⟩,yf⟩:=y;simp only at *;refine Rr ?_;rw[hdi,Jk hlti];refine Rr ?_;repeat((first|refine aI ei ?_|refine aF ?_);refine Rr ?_)
   refine hc.go ?_ (.cons nx1 (.cons nxo (.cons ny1 (.cons nyo .nil)))) nn;refine Rr ?_;repeat((first|refine aI ei ?_|refine aF ?_);refine Rr ?_)
   by_cases h0:c=0
   ·subst h0;refine Rr ?_;repeat((first|refine aI ei ?_|refine aF ?_);refine Rr ?_)
    refine bH.at eG (fun j:Nat=>j<=xf.length)
     (fun j=>⟨[(0,.il 5 (aD l)),(5,.ptr 1 0 0),(7,.sl 2 0 out.length),(9,.int .i64 i),(11,.ptr 4 0 0),(12,.int .i64 j)],[(1,.row 37 5 [dV ⟨xp,⟨x1,x2,x3⟩,xf⟩]),(2,.row 37 5 (aD out)),(4,.row 37 5 [dV ⟨yp,⟨y1,y2,y3⟩,dD a8 yf (xf.take j)⟩])],5,105⟩) (fun j=>xf.length-j) 0 [(1,1),(2,2),(19,4)] (by simp)
     (bD _ rfl ⟨c9 1 (.cons nx .nil),c9 2 (aK _),c9 19 (.cons ny .nil),trivial⟩
      ⟨aP nl,dU,⟨_,rfl,.slE rfl rfl⟩,aL,dU,aL,trivial⟩) ?_
    intro j hj;have hdj:decide ((j:Int)<((aQ xf).length:Int))=decide (j<xf.length):=by rw[lx];exact Jq.2 om
    have hil2:=rM (c:=a8) (xf.take j) yf;rw[J2,Kv hj] at hil2;by_cases hltj:j<xf.length
    ·have ek:=gN hltj;have hs2:=vL (c:=a8) yf hltj;have hp:=F5 (dD a8 yf (xf.take j)) xf[j] om (by have:=hg2 _ (hsub _ (Jl hltj));omega);rw[←hs2] at hp;have nz:=aM (dD a8 yf (xf.take j));have nz':=aM (dD a8 yf (xf.take (j+1)));have nf:=hU xf[j];generalize xf[j]=f at *;obtain⟨fp,⟨f1,f2,f3⟩⟩:=f;obtain⟨z',hz'⟩:∃z',z'=aQ (dD a8 yf (xf.take (j+1))):=⟨_,rfl⟩
     rw[←hz'] at hp nz';generalize dD a8 yf (xf.take j)=z at *;refine Rr ?_;rw[hdj,Jk hltj];refine Rr ?_;repeat((first|refine aI ek ?_|refine aF ?_);refine Rr ?_)
     refine hp.go ?_ (.cons (.il' nz) (.cons nf .nil)) (.il' nz');refine Rr ?_;repeat((first|refine aI ek ?_|refine aF ?_);refine Rr ?_)
     exact .mk (j+1) [(1,1),(2,2),(4,4)] om (bD _ rfl ⟨c9 1 (.cons nx .nil),c9 2 (aK _),⟨4,_,rfl,rfl,.cons (.agg (.cons (.same _ ny1) (.s (.s (.s (.cons (.eq (.il' (aM _)) (by rw[hz'])) .nil)))))) .nil⟩,trivial⟩
      ⟨aP nl,dU,⟨_,rfl,.slE rfl rfl⟩,aL,dU,⟨_,rfl,.w64 om ⟨om,om⟩⟩,trivial⟩) om
    ·have:j=xf.length:=om;subst this;have e1:(⟨yp,⟨y1,y2,y3⟩,dD a8 yf (xf.take xf.length)⟩:Gr)=⟨yp,⟨y1,y2,y3⟩,dD a8 yf xf⟩:=by rw[Jx]
     rw[e1];simp at hs;have nz:=eN ⟨yp,⟨y1,y2,y3⟩,dD a8 yf xf⟩;generalize dD a8 yf xf=z at *;refine Rr ?_;rw[hdj,Jm hltj];refine Rt ?_;repeat(refine aS (dY rfl rfl (by simp[lo]) (by simp[lo];omega)) ?_;refine Rt ?_)
     exact .mk (i+1) [(1,1),(6,2)] om (bD _ rfl ⟨c9 1 (.cons nx .nil),⟨6,_,rfl,rfl,.eq (aK _) (by rw[hs,iW];rfl)⟩,trivial⟩
      ⟨aP nl,dU,⟨_,rfl,.slE rfl (by rw[hs];simp)⟩,⟨_,rfl,.eq nn (by rw[hs])⟩,⟨_,rfl,.w64 om ⟨om,om⟩⟩,trivial⟩) om
   ·cases d<;>by_cases h1:c<0<;>by_cases h2:c<=0<;>first|omega|skip
    all_goals
     first|rw[Jk h1]|rw[Jm h1]
     have hb0:(c == 0)=false:=by simpa using h0
     refine Rr ?_;repeat((first|refine aS (dY rfl rfl (by simp[lo]) (by simp[lo];omega)) ?_|refine dL.2 ?_|rw[hb0]|refine aI ei ?_|refine aF ?_);refine Rr ?_)
     simp[h0,h1,h2] at hs;first
     | exact .mk (i+1) [(1,1),(20,2)] om (bD _ rfl ⟨c9 1 (.cons nx .nil),⟨20,_,rfl,rfl,.eq (aK _) (by rw[hs];simp only[iW];rfl)⟩,trivial⟩
       ⟨aP nl,dU,⟨_,rfl,.slE rfl (by rw[hs];simp)⟩,⟨_,rfl,.eq nn (by rw[hs])⟩,⟨_,rfl,.w64 om ⟨om,om⟩⟩,trivial⟩) om
     | exact .mk (i+1) [(1,1),(22,2)] om (bD _ rfl ⟨c9 1 (.cons nx .nil),⟨22,_,rfl,rfl,.eq (aK _) (by rw[hs];simp only[aD,J3];simp;exact⟨rfl,rfl⟩)⟩,trivial⟩
       ⟨aP nl,dU,⟨_,rfl,.slE rfl (by rw[hs];simp)⟩,⟨_,rfl,.eq nn (by rw[hs])⟩,⟨_,rfl,.w64 om ⟨om,om⟩⟩,trivial⟩) om
  ·have:i=l.length:=om;subst this;have e2:eV x (l.take l.length)=eV x l:=by rw[Jx]
   rw[e2] at hlen ⊢;generalize eV x l=s at *;obtain⟨out,d⟩:=s;have lo:=bA out;simp only at *;refine Rr ?_;rw[hdi,Jm hlti];refine Rr ?_;cases d
   ·have hF:lV g l=out++[x]:=by rw[hF];simp
    rw[hF];obtain⟨xp,⟨x1,x2,x3⟩,xf⟩:=x;refine Rt ?_;repeat(refine aS (dY rfl rfl (by simp[lo]) (by simp[lo];omega)) ?_;refine Rt ?_)
    exact b8 (r':=.il 5 (aD (out++[_]))) (.fzR (id:=4) rfl rfl (.eq (aK _) (by rw[iW];rfl)) (by simp[bA])) ⟨rfl,rfl,rfl⟩
   ·have hF:lV g l=out:=by rw[hF];simp
    rw[hF];refine Rr ?_;exact b8 (r':=.il 5 (aD out)) (.fzR (id:=2) rfl rfl (.same (aK _)) lo) ⟨rfl,rfl,rfl⟩
set_option maxHeartbeats 16000000
def FT(l:List Gr):Nat:=(l.flatMap (·.fs)).length
theorem GI{l m:List Gr}(h:NF l)(hk:∀k,jO l k↔jO m k)(hf:∀k f,Go.Ax.f8 l k f↔Go.Ax.f8 m k f):l.length<=m.length/\∀g∈l,g.fs.length<=FT m:=by
 constructor
 ·have:=gS (l:=l.map aT) (m:=m.map aT) (h.1.imp fun {a b} hab e=>by subst e;rw[fV.refl] at hab;omega) fun k hk'=>by
   rw[Jf] at hk' ⊢;exact(hk k).1 hk'
  simpa using this
 ·intro g hg;refine gS ((h.2 g hg).imp fun {a b} hab e=>by subst e;rw[rY.refl] at hab;omega) fun f hf'=>?_
  obtain⟨g',h1,_,h2⟩:=(hf (aT g) f).1 ⟨g,hg,rfl,hf'⟩;exact List.mem_flatMap.2 ⟨g',h1,h2⟩
theorem jL(l m:List Gr):FT (l++m)=FT l+FT m:=by unfold FT;rw[List.flatMap_append,J9]
theorem vU(l:List Gr)(k:Nat):FT (l.take k)<=FT l:=by
 have:=jL (l.take k) (l.drop k);rw[List.take_append_drop] at this;omega
theorem nM(l:List Gr):(bJ l).length<=l.length/\∀g∈bJ l,g.fs.length<=FT l:=by
 obtain⟨h1,h2,h3⟩:=jE l;exact GI h1 h2 h3
theorem Gh(l:List Gr)(hl:l.length<=1000000)(hf:FT l<=1000000)(hb:∀g∈l,GB g):aR prog [] 13 [.il 5 (aD l)] (.il 5 (aD (bJ l))):=by
 have nl:NN (.il 5 (aD l)):=.il' (aK l);have ll:=bA l;refine aN eG func13 rfl ?_;refine Rr ?_;refine bH.at eG (fun k:Nat=>k<=l.length)
  (fun k=>⟨[(0,.il 5 (aD l)),(3,.il 5 (aD (bJ (l.take k)))),(4,.int .i64 k)],[],0,18⟩) (fun k=>l.length-k) 0 [] (by simp)
  (bB ⟨aP nl,⟨_,rfl,.nil 5⟩,aL,trivial⟩) ?_
 intro k hk;have hd:decide ((k:Int)<((aD l).length:Int))=decide (k<l.length):=by rw[ll];exact Jq.2 om
 by_cases hlt:k<l.length
 ·have ek:=iV hlt;have hs:bJ (l.take (k+1))=lV l[k] (bJ (l.take k)):=by rw[Jd hlt,uQ]
  obtain⟨m1,m2⟩:=nM (l.take k);have hft:=vU l k;rw[J2,Kv hk] at m1;have hA:=IY (bJ (l.take k)) l[k] om (fun x hx=>by have:=m2 x hx;omega) (hb _ (Jl hlt));rw[←hs] at hA;have n1:=aK (bJ (l.take k));have n2:=aK (bJ (l.take (k+1)));have n3:=eN l[k];obtain⟨z',hz'⟩:∃z',z'=aD (bJ (l.take (k+1))):=⟨_,rfl⟩
  rw[←hz'] at hA n2;generalize bJ (l.take k)=z at *;generalize l[k]=y at *;obtain⟨yp,⟨y1,y2,y3⟩,yf⟩:=y;refine Rr ?_;rw[hd,Jk hlt];refine Rr ?_;repeat((first|refine aI ek ?_|refine aF ?_);refine Rr ?_)
  refine hA.go ?_ (.cons (.il' n1) (.cons n3 .nil)) (.il' n2);refine Rr ?_;repeat((first|refine aI ek ?_|refine aF ?_);refine Rr ?_)
  exact .mk (k+1) [] om (bB ⟨aP nl,⟨_,rfl,.eq (.il' (aK _)) (by rw[hz'])⟩,⟨_,rfl,.w64 om ⟨om,om⟩⟩,trivial⟩) om
 ·have:k=l.length:=om;subst this;have e:bJ (l.take l.length)=bJ l:=by rw[Jx]
  rw[e];have nz:=aK (bJ l);generalize bJ l=z at *;refine Rr ?_;rw[hd,Jm hlt];refine Rr ?_;exact aJ (.il' nz) ⟨rfl,rfl,rfl⟩
theorem Ix(l:List Gr)(hl:l.length<=1000000)(hb:∀g∈l,GB g):aR prog [] 14 [.il 5 (aD l),.il 5 (aD l)] (.bool true):=by
 have nl:NN (.il 5 (aD l)):=.il' (aK l);have ll:=bA l;refine aN eG func14 rfl ?_;refine Rr ?_;rw[show (((aD l).length:Int) != ((aD l).length:Int))=false by simp];refine Rr ?_;refine bH.at eG (fun k:Nat=>k<=l.length)
  (fun k=>⟨[(0,.il 5 (aD l)),(1,.il 5 (aD l)),(5,.int .i64 k)],[],0,93⟩) (fun k=>l.length-k) 0 [] (by simp)
  (bB ⟨aP nl,aP nl,aL,trivial⟩) ?_
 intro k hk;have hd:decide ((k:Int)<((aD l).length:Int))=decide (k<l.length):=by rw[ll];exact Jq.2 om
 by_cases hlt:k<l.length
 ·have ek:=iV hlt;have hB:=hb _ (Jl hlt);have hc:=Bd l[k].min l[k].min l[k].oc l[k].oc (by have:=hB.min;omega);rw[fV.refl] at hc;generalize l[k]=y at *;have ny1:NN (.il 1 (a6 y.min)):=.il' (aU _);have nyo:=e6 y.oc;have lf:=aZ y.fs;have hp:=hB.path;have hfl:=hB.fs;obtain⟨yp,⟨y1,y2,y3⟩,yf⟩:=y;simp only at hp lf hfl;refine Rr ?_;rw[hd,Jk hlt];refine Rr ?_;repeat((first|refine aI ek ?_|refine aF ?_);refine Rr ?_)
  refine hc.go ?_ (.cons ny1 (.cons nyo (.cons ny1 (.cons nyo .nil)))) nn;refine Rr ?_;repeat((first|refine aI ek ?_|refine aF ?_);refine Rr ?_)
  rw[show (((aQ (Gr.mk yp ⟨y1,y2,y3⟩ yf).fs).length:Int) != ((aQ (Gr.mk yp ⟨y1,y2,y3⟩ yf).fs).length:Int))=false by simp];refine Rr ?_;refine bH.at eG (fun j:Nat=>j<=yf.length)
   (fun j=>⟨[(0,.il 5 (aD l)),(1,.il 5 (aD l)),(5,.int .i64 k),(6,.int .i64 j)],[],0,93⟩) (fun j=>yf.length-j) 0 [] (by simp)
   (bB ⟨aP nl,aP nl,aL,aL,trivial⟩) ?_
  intro j hj;have hdj:decide ((j:Int)<((aQ yf).length:Int))=decide (j<yf.length):=by rw[lf];exact Jq.2 om
  by_cases hltj:j<yf.length
  ·have ej:=gN hltj;have hc2:=Bd yf[j].path yf[j].path yf[j].oc yf[j].oc (by have:=hp _ (Jl hltj);omega);rw[fV.refl] at hc2;generalize yf[j]=f at *;have nf1:NN (.il 1 (a6 f.path)):=.il' (aU _);have nfo:=e6 f.oc;obtain⟨fp,⟨f1,f2,f3⟩⟩:=f;refine Rr ?_;repeat((first|refine aI ek ?_|refine aI ej ?_|refine aF ?_);refine Rr ?_)
   rw[hdj,Jk hltj];refine Rr ?_;repeat((first|refine aI ek ?_|refine aI ej ?_|refine aF ?_);refine Rr ?_)
   refine hc2.go ?_ (.cons nf1 (.cons nfo (.cons nf1 (.cons nfo .nil)))) nn;refine Rr ?_;repeat((first|refine aI ek ?_|refine aI ej ?_|refine aF ?_);refine Rr ?_)
   exact .mk (j+1) [] om (bB ⟨aP nl,aP nl,aL,⟨_,rfl,.w64 om ⟨om,om⟩⟩,trivial⟩) om
  ·refine Rr ?_;repeat((first|refine aI ek ?_|refine aF ?_);refine Rr ?_)
   rw[hdj,Jm hltj];refine Rr ?_;exact .mk (k+1) [] om (bB ⟨aP nl,aP nl,⟨_,rfl,.w64 om ⟨om,om⟩⟩,trivial⟩) om
 ·refine Rr ?_;rw[hd,Jm hlt];refine Rr ?_;exact aJ nn ⟨rfl,rfl,rfl⟩
theorem GN(l:List Gr)(hl:l.length<=1000000)(hb:∀g∈l,GB g):aR prog [] 15 [.il 5 (aD l)] (.il 5 (aD l)):=by
 have nl:NN (.il 5 (aD l)):=.il' (aK l);have ll:=bA l;refine aN eG func15 rfl ?_;refine Rr ?_;refine bH.ph 37 5 ?_;refine bH.at eG (fun k:Nat=>k<=l.length)
  (fun k=>⟨[(0,.il 5 (aD l)),(3,.sl 0 0 k),(4,.int .i64 k)],[(0,.row 37 5 (aD (l.take k)))],1,63⟩) (fun k=>l.length-k) 0 [(0,0)] (by simp)
  (bD _ rfl ⟨⟨0,_,rfl,rfl,.nil⟩,trivial⟩ ⟨aP nl,⟨_,rfl,.nslk 0 0 _ rfl rfl⟩,aL,trivial⟩) ?_
 intro k hk;have lk:(aD (l.take k)).length=k:=by rw[bA,J2];omega
 have hd:decide ((k:Int)<((aD l).length:Int))=decide (k<l.length):=by rw[ll];exact Jq.2 om
 by_cases hlt:k<l.length
 ·have ek:=iV hlt;have hB:=hb _ (Jl hlt);have e2:aD (l.take (k+1))=aD (l.take k)++[dV l[k]]:=by rw[Jd hlt,iW]
  generalize l[k]=y at *;have np:NN (.il 1 (a6 y.min)):=.il' (aU _);have lf:=aZ y.fs;have hfl:=hB.fs;obtain⟨yp,⟨y1,y2,y3⟩,yf⟩:=y;simp only at lf hfl;refine Rr ?_;rw[hd,Jk hlt];refine Rr ?_;repeat((first|refine aI ek ?_|refine aF ?_);refine Rr ?_)
  refine bH.ph 50 4 ?_;refine bH.at eG (fun j:Nat=>j<=yf.length)
   (fun j=>⟨[(0,.il 5 (aD l)),(3,.sl 0 0 k),(4,.int .i64 k),(5,.ptr 1 0 0),(6,.int .i64 j)],[(0,.row 37 5 (aD (l.take k))),(1,.row 37 5 [.agg [.il 1 (a6 yp),.int .i64 y1,.int .i64 y2,.int .i64 y3,.sl 2 0 j]]),(2,.row 50 4 (aQ (yf.take j)))],3,63⟩) (fun j=>yf.length-j) 0 [(0,0),(12,1),(14,2)] (by simp)
   (bD _ rfl ⟨c9 0 (aK _),⟨12,_,rfl,rfl,.cons (.agg (.cons (.same _ np) (.s (.s (.s (.cons (.nslk 14 2 _ rfl rfl) .nil)))))) .nil⟩,⟨14,_,rfl,rfl,.nil⟩,trivial⟩
    ⟨aP nl,⟨_,rfl,.slE rfl rfl⟩,aL,dU,aL,trivial⟩) ?_
  intro j hj;have hdj:decide ((j:Int)<((aQ yf).length:Int))=decide (j<yf.length):=by rw[lf];exact Jq.2 om
  have lj:(aQ (yf.take j)).length=j:=by rw[aZ,J2];omega
  by_cases hltj:j<yf.length
  ·have ej:=gN hltj;have e3:aQ (yf.take (j+1))=aQ (yf.take j)++[fZ yf[j]]:=by rw[Jd hltj,i5]
   generalize yf[j]=f at *;obtain⟨fp,⟨f1,f2,f3⟩⟩:=f;refine Rr ?_;repeat((first|refine aI ek ?_|refine aF ?_);refine Rr ?_)
   rw[hdj,Jk hltj];refine Rr ?_;repeat((first|refine aI ek ?_|refine aI ej ?_|refine aF ?_|refine aS (dY rfl rfl (by rw[lj]) (by simp;omega)) ?_);refine Rr ?_)
   exact .mk (j+1) [(0,0),(1,1),(28,2)] om (bD _ rfl ⟨c9 0 (aK _),⟨1,_,rfl,rfl,.cons (.agg (.cons (.same _ np) (.s (.s (.s (.cons (.slE rfl (by simp)) .nil)))))) .nil⟩,⟨28,_,rfl,rfl,.eq (aM _) (by rw[e3];rfl)⟩,trivial⟩
    ⟨aP nl,⟨_,rfl,.slE rfl rfl⟩,aL,dU,⟨_,rfl,.w64 om ⟨om,om⟩⟩,trivial⟩) om
  ·have:j=yf.length:=om;subst this;refine Rr ?_;repeat((first|refine aI ek ?_|refine aF ?_);refine Rr ?_)
   rw[hdj,Jm hltj];refine Rr ?_;repeat((first|refine aF ?_|refine aS (dY rfl rfl (by rw[lk]) (by simp;omega)) ?_);refine Rr ?_)
   refine .mk (k+1) [(4,0)] om (bD _ rfl ⟨⟨4,_,rfl,rfl,wN (s5.snoc (y:=dV ⟨yp,⟨y1,y2,y3⟩,yf⟩) rfl (.same (aK (l.take k))) (.agg (.cons (.same _ np) (.s (.s (.s (.cons (.fzR (id:=2) rfl rfl (.eq (aM yf) (by rw[Jx])) lf) .nil))))))) e2⟩,trivial⟩
    ⟨aP nl,⟨_,rfl,.slE rfl (by simp)⟩,⟨_,rfl,.w64 om ⟨om,om⟩⟩,trivial⟩) om
 ·refine Rr ?_;rw[hd,Jm hlt];refine Rr ?_;have:k=l.length:=om;subst this;exact b8 (r':=.il 5 (aD l)) (.fzR (id:=0) rfl rfl (.eq (aK _) (by rw[Jx])) ll) ⟨rfl,rfl,rfl⟩
set_option maxHeartbeats 16000000
instance:Inhabited Fl:=⟨⟨[],⟨0,0,0⟩⟩⟩
instance:Inhabited Gr:=⟨⟨[],⟨0,0,0⟩,[]⟩⟩
theorem Gt{a b c:Bool}{n m k:Nat}(ha:a=true)(hb:b=true)(hc:c=true)(h1:0<n)(h2:m<=k):(a && (b && (c && (Nat.blt 0 n && Nat.ble m k))))=true:=by
 rw[ha,hb,hc,JZ h2,show Nat.blt 0 n=true from JZ h1];rfl
theorem vF(l:List Fl):aQ l=l.map fZ:=rfl
theorem lQ(l:List Fl)(i:Nat):(aQ l)[i]? = (l[i]?).map fZ:=by simp[aQ]
theorem CR(l:List Fl)(i:Nat)(v:Fl):aQ (l.set i v)=(aQ l).set i (fZ v):=by simp[aQ,List.map_set]
theorem z8{l:List Fl}{k n:Nat}(h:k<l.length)(hn:l.length=n):∃a b c d,Fl.mk a ⟨b,c,d⟩∈l/\l[k]? = some (Fl.mk a ⟨b,c,d⟩)/\l[k]=Fl.mk a ⟨b,c,d⟩/\(aQ l)[0+(k:Int).toNat]? = some (fZ (Fl.mk a ⟨b,c,d⟩))/\Nat.blt (k:Int).toNat n=true:=by
 obtain⟨⟨a,⟨b,c,d⟩⟩,hf⟩:∃f,f=l[k]:=⟨_,rfl⟩
 have hg:l[k]? = some (Fl.mk a ⟨b,c,d⟩):=by rw[hf];exact JS h
 exact⟨a,b,c,d,Jy hg,hg,hf.symm,by rw[KR,Jt,lQ,hg];rfl,JZ (by simp;omega)⟩
theorem Hd:NN (.fn (.func 27) [] [.ip (.fn (.func 21) [] [])]):=.fn _ _ _ (by simp) (fun j c h=>by
 match j,h with
 | 0,h=>simp at h;subst h;exact .ip' (.fn _ _ _ (by simp) (by simp))
 | j+1,h=>simp at h)
theorem EL(l:List Fl)(hl:l.length<=4294967296)(hok:∀v∈l,v.path.length<=4294967296) :
    aC prog [] 26 [.sl 0 0 l.length,.fn (.func 27) [] [.ip (.fn (.func 21) [] [])]] [(0,.row 57 4 (aQ l))] 1 fun r m n=>
      n=1/\∃ys,r = .sl 0 0 (eS a8 l l.length).length/\m=[(0,.row 57 4 ys)]/\Go.Ax.f9 ys/\ys.take (eS a8 l l.length).length=aQ (eS a8 l l.length)/\(eS a8 l l.length).length<=ys.length:=by
  have nf:=Hd;have hlen:=aZ l;have hd1:decide (((l.length:Nat):Int)<2)=decide (l.length<2):=Jq.2 om;refine aN eG func26 rfl ?_;have hl1:l=[]∨l.length=1∨2<=l.length:=by
    rcases Jc l.length 2 with h|h
    · rcases Jc l.length 1 with h'|h'
      · left;exact JW om
      · right;left;omega
    · exact .inr (.inr h)
  have hall:(∀j,j<l.length->jV a8 l j=true)->eS a8 l l.length=l:=fun h=>by rw[sG _ (JX _) h,Jx]
  refine Rr ?_;rw[hd1];by_cases h2:l.length<2
  · rw[Jk h2]
    have he:=hall fun j hj=>by
      have:j=0:=om;subst this;rfl
    rw[he];refine Rr ?_;exact pI (r':=.sl 0 0 l.length) (m':=[(0,.row 57 4 (aQ l))]) (n':=1) [(0,0)] rfl ⟨c9 0 (aM _),trivial⟩ (.sl 0 0 0 _ rfl) ⟨rfl,aQ l,rfl,rfl,aM l,by rw[KQ om],om⟩
  · rw[Jm h2]
    refine Rr ?_;refine bH.at eG (fun p:Nat=>p+1<=l.length/\∀j,j<p+1->jV a8 l j=true)
      (fun p=>⟨[(0,.sl 0 0 l.length),(1,.fn (.func 27) [] [.ip (.fn (.func 21) [] [])]),(5,.int .i64 ((p+1:Nat):Int))],[(0,.row 57 4 (aQ l))],1,66⟩)
      (fun p=>l.length-p) 0 [(0,0)] ⟨om,fun j hj=>by have:j=0:=om;subst this;rfl⟩
      (bD _ rfl ⟨c9 0 (aM _),trivial⟩ ⟨⟨_,rfl,.slE rfl rfl⟩,aP nf,aL,trivial⟩) ?_
    rintro p ⟨p1,p2⟩;have hdp:decide (((p+1:Nat):Int)<(l.length:Int))=decide (p+1<l.length):=Jq.2 om;by_cases hp:p+1<l.length
    · have hw:IntKind.i64.wrap (((p+1:Nat):Int)-1)=(p:Int):=by rw[Go.Ax.f7 ⟨om,om⟩];omega
      obtain⟨a1,a2,a3,a4,am,ag,-,ea,ba⟩:=z8 (l:=l) (k:=p) (n:=l.length) om rfl;obtain⟨b1,b2,b3,b4,bm,bg,-,eb,bb⟩:=z8 (l:=l) (k:=p+1) (n:=l.length) om rfl;have hc:=G3 (.mk b1 ⟨b2,b3,b4⟩) (.mk a1 ⟨a2,a3,a4⟩) (hok _ bm);have hkeep:jV a8 l (p+1) = !(a8 (.mk b1 ⟨b2,b3,b4⟩) (.mk a1 ⟨a2,a3,a4⟩) == 0):=by simp only[jV];rw[bg,ag]
      generalize (a8 (.mk b1 ⟨b2,b3,b4⟩) (.mk a1 ⟨a2,a3,a4⟩) == 0)=c at *;refine Rr ?_;rw[hdp,Jk hp];refine Rr ?_;repeat((first|refine aS bb ?_|refine aI eb ?_);refine Rr ?_)
      have hz0:decide (0<=(p:Int))=true:=Jk om;rw[hw,hz0];refine Rt ?_;repeat((first|refine aS ba ?_|refine aI ea ?_);refine Rt ?_)
      refine hc.go ?_;refine Rt ?_;cases c with
      | false=>
        refine Rr ?_;exact .mk (p+1) [(0,0)] ⟨om,fun j hj=>by
            rcases Jc j (p+1) with h|h
            · exact p2 j h
            · have:j=p+1:=om
              rw[this,hkeep];rfl⟩
          (bD _ rfl ⟨c9 0 (aM _),trivial⟩ ⟨⟨_,rfl,.slE rfl rfl⟩,aP nf,⟨_,rfl,.w64 om ⟨om,om⟩⟩,trivial⟩) om
      | true=>
        refine Rr ?_;refine aS (eD (by simp;omega) om om) ?_;refine Rr ?_;have ho:0+((p+1:Nat):Int).toNat=p+1:=om;have hn:l.length-((p+1:Nat):Int).toNat=l.length-(p+1):=om;rw[ho,hn];have hfst:eS a8 l (p+1)=l.take (p+1):=sG _ om p2;have hded:eS a8 l (p+1+1)=l.take (p+1):=by
          rw[eS,bg];simp only;rw[Ja (by rw[hkeep];simp),hfst]
        refine bH.at eG (fun x:Nat × List Fl × Nat=>x.1+1<=l.length-(p+1)/\x.2.1.length=l.length/\x.2.1.take x.2.2=eS a8 l (p+1+(x.1+1))/\x.2.1.drop (p+1+x.1)=l.drop (p+1+x.1)/\x.2.2<=p+1+x.1)
          (fun x=>⟨[(0,.sl 0 0 l.length),(1,.fn (.func 27) [] [.ip (.fn (.func 21) [] [])]),(5,.int .i64 x.2.2),(6,.sl 0 (p+1) (l.length-(p+1))),(7,.int .i64 ((x.1+1:Nat):Int))],[(0,.row 57 4 (aQ x.2.1))],1,66⟩)
          (fun x=>l.length-x.1) (0,l,p+1) [(0,0)] ⟨by simp only;omega,rfl,by simp only;exact hded.symm,rfl,by simp only;omega⟩
          (bD _ rfl ⟨c9 0 (aM _),trivial⟩ ⟨⟨_,rfl,.slE rfl rfl⟩,aP nf,aL,⟨_,rfl,.slE rfl rfl⟩,aL,trivial⟩) ?_
        clear ea ba eb bb hc hkeep ag bg am bm;rintro⟨q,z,c⟩ ⟨q1,q2,q3,q4,q5⟩;simp only at q1 q2 q3 q4 q5 ⊢;have hzl:=aZ z;have hdq:decide (((q+1:Nat):Int)<((l.length-(p+1):Nat):Int))=decide (q+1<l.length-(p+1)):=Jq.2 om;by_cases hq:q+1<l.length-(p+1)
        · have hw1:IntKind.i64.wrap (((q+1:Nat):Int)-1)=(q:Int):=by rw[Go.Ax.f7 ⟨om,om⟩];omega
          have hw2:IntKind.i64.wrap ((c:Int)+1)=((c+1:Nat):Int):=by rw[Go.Ax.f7 ⟨om,om⟩];omega
          have zq:decide (0<=(q:Int))=true:=Jk om;have zq1:decide (0<=((q+1:Nat):Int))=true:=Jk om;have hat:∀k,p+1+q<=k->z[k]? = l[k]? := fun k hk=>by
            have:=congrArg (fun y=>y[k-(p+1+q)]?) q4;simp only[Jv] at this
            rwa [show p+1+q+(k-(p+1+q))=k by omega] at this
          obtain⟨⟨a1,⟨a2,a3,a4⟩⟩,hae⟩:∃a,a=l[p+1+q]:=⟨_,rfl⟩
          obtain⟨⟨b1,⟨b2,b3,b4⟩⟩,hbe⟩:∃b,b=l[p+1+(q+1)]:=⟨_,rfl⟩
          have ag:l[p+1+q]? = some (.mk a1 ⟨a2,a3,a4⟩):=by rw[hae];exact JS om
          have bg:l[p+1+(q+1)]? = some (.mk b1 ⟨b2,b3,b4⟩):=by rw[hbe];exact JS om
          have bm:Fl.mk b1 ⟨b2,b3,b4⟩∈l:=Jy bg;have ea:(aQ z)[p+1+(q:Int).toNat]? = some (fZ (.mk a1 ⟨a2,a3,a4⟩)):=by rw[KR,lQ,hat _ om,ag];rfl
          have eb:(aQ z)[p+1+((q+1:Nat):Int).toNat]? = some (fZ (.mk b1 ⟨b2,b3,b4⟩)):=by rw[KR,lQ,hat _ om,bg];rfl
          have ba:Nat.blt (q:Int).toNat (l.length-(p+1))=true:=JZ (by simp;omega);have bb:Nat.blt ((q+1:Nat):Int).toNat (l.length-(p+1))=true:=JZ (by simp;omega);have hc:=G3 (.mk b1 ⟨b2,b3,b4⟩) (.mk a1 ⟨a2,a3,a4⟩) (hok _ bm);have hkeep:jV a8 l (p+1+(q+1)) = !(a8 (.mk b1 ⟨b2,b3,b4⟩) (.mk a1 ⟨a2,a3,a4⟩) == 0):=by
            rw[show p+1+(q+1)=(p+1+q)+1 by omega] at bg ⊢;simp only[jV];rw[bg,ag]
          have hnext:eS a8 l (p+1+(q+1+1))=if jV a8 l (p+1+(q+1))=true then eS a8 l (p+1+(q+1))++[.mk b1 ⟨b2,b3,b4⟩] else eS a8 l (p+1+(q+1)):=by
            rw[show p+1+(q+1+1)=(p+1+(q+1))+1 by omega,eS,bg]
          generalize (a8 (.mk b1 ⟨b2,b3,b4⟩) (.mk a1 ⟨a2,a3,a4⟩) == 0)=e at *;refine Rr ?_;rw[hdq,Jk hq];refine Rr ?_;repeat((first|refine aS bb ?_|refine aI eb ?_);refine Rr ?_)
          rw[hw1,zq];refine Rt ?_;repeat((first|refine aS ba ?_|refine aI ea ?_);refine Rt ?_)
          refine hc.go ?_;refine Rt ?_;cases e with
          | true=>
            rw[hkeep,Ja (by simp)] at hnext;refine Rr ?_;exact .mk (q+1,z,c) [(0,0)] ⟨by simp only;omega,q2,by simp only;rw[q3,hnext],by
                simp only;have:=congrArg (List.drop 1) q4;rw[LP,LP] at this;exact this,by simp only;omega⟩
              (bD _ rfl ⟨c9 0 (aM _),trivial⟩ ⟨⟨_,rfl,.slE rfl rfl⟩,aP nf,aL,⟨_,rfl,.slE rfl rfl⟩,⟨_,rfl,.w64 (by simp only;omega) ⟨om,om⟩⟩,trivial⟩) (by simp only;omega)
          | false=>
            rw[hkeep,Jb (by simp)] at hnext;have zc:decide (0<=(c:Int))=true:=Jk om;refine Rr ?_;repeat((first|refine aS bb ?_|refine aI eb ?_);refine Rr ?_)
            have hcl:c<z.length:=om;obtain⟨⟨d1,⟨d2,d3,d4⟩⟩,hde⟩:∃d,d=z[c]:=⟨_,rfl⟩
            have dg:z[c]? = some (.mk d1 ⟨d2,d3,d4⟩):=by rw[hde];exact JS hcl
            have ed:(aQ z)[0+(c:Int).toNat]? = some (fZ (.mk d1 ⟨d2,d3,d4⟩)):=by rw[KR,Jt,lQ,dg];rfl
            have bc:Nat.blt (c:Int).toNat l.length=true:=JZ (by simp;omega);refine Rs ?_;repeat((first|refine aS bc ?_|refine aI ed ?_);refine Rt ?_)
            have hset:aQ (z.set c (.mk b1 ⟨b2,b3,b4⟩))=(aQ z).set (0+(c:Int).toNat) (fZ (.mk b1 ⟨b2,b3,b4⟩)):=by rw[CR,KR,Jt]
            exact .mk (q+1,z.set c (.mk b1 ⟨b2,b3,b4⟩),c+1) [(0,0)] ⟨by simp only;omega,by simp only;rw[K6];exact q2,by
                simp only;rw[Jd (by rw[K6];exact hcl),List.getElem_set_self,List.take_set_of_le (JX c),q3,hnext],by
                simp only;have:=congrArg (List.drop 1) q4;rw[LP,LP] at this;rw[List.drop_set_of_lt om];exact this,by simp only;omega⟩
              (bD _ rfl ⟨⟨0,_,rfl,rfl,.eq (aM _) hset.symm⟩,trivial⟩ ⟨⟨_,rfl,.slE rfl rfl⟩,aP nf,⟨_,rfl,.int hw2⟩,⟨_,rfl,.slE rfl rfl⟩,⟨_,rfl,.w64 (by simp only;omega) ⟨om,om⟩⟩,trivial⟩) (by simp only;omega)
        · have hqe:p+1+(q+1)=l.length:=om
          rw[hqe] at q3;have hcz:c<=z.length:=om;have hcd:(eS a8 l l.length).length=c:=by rw[←q3,J2];omega
          rw[hcd];refine Rr ?_;rw[hdq,Jm hq];refine Rr ?_;refine aS (eD (by simp;omega) om om) ?_;refine Rr ?_;refine aS (Gt rfl rfl rfl om om) ?_;refine Rr ?_;refine aS (eD om (by simp;omega) om) ?_;refine Rr ?_;obtain⟨ys,hye⟩:∃ys,ys=List.take (0+(c:Int).toNat) (aQ z)++(List.replicate (l.length-(c:Int).toNat) (AV.agg [.nsl,.int .i64 0,.int .i64 0,.int .i64 0])++List.drop (0+(c:Int).toNat+(l.length-(c:Int).toNat)) (aQ z)):=⟨_,rfl⟩
          rw[←hye];have hzn:=aM z;have htl:(List.take (0+(c:Int).toNat) (aQ z)).length=c:=by rw[J2];omega
          have hys:Go.Ax.f9 ys:=fun x hx=>by
            rw[hye] at hx;rcases JV.1 hx with hx|hx
            · exact hzn x (KE hx)
            · rcases JV.1 hx with hx|hx
              · rw[List.eq_of_mem_replicate hx];exact .agg' (.cons .nsl (.cons nn (.cons nn (.cons nn .nil))))
              · exact hzn x (Kw hx)
          have hyt:ys.take c=aQ (eS a8 l l.length):=by
            rw[hye,Km om,List.take_take,←q3,vF,vF,List.map_take];congr 1;omega
          have hyl:c<=ys.length:=by rw[hye,J9,htl];omega
          exact pI (r':=.sl 0 0 c) (m':=[(0,.row 57 4 ys)]) (n':=1) [(0,0)] rfl ⟨c9 0 hys,trivial⟩ (.slE rfl om) ⟨rfl,ys,rfl,rfl,hys,hyt,hyl⟩
    · have hpe:p+1=l.length:=om
      have he:=hall fun j hj=>p2 j om
      rw[he];refine Rr ?_;rw[hdp,Jm hp];refine Rr ?_;exact pI (r':=.sl 0 0 l.length) (m':=[(0,.row 57 4 (aQ l))]) (n':=1) [(0,0)] rfl ⟨c9 0 (aM _),trivial⟩ (.sl 0 0 0 _ rfl) ⟨rfl,aQ l,rfl,rfl,aM l,by rw[KQ om],om⟩
end Go.Proofs.YtnbkfjjdlofdpaaGreatDoor
namespace Go.Proofs
open Go.Shelf
def Tryz.laysSlsfz6_f25_ren:Go.Shelf.Ren:=⟨fun|6=>25|15=>39|14=>38|28=>59|29=>60|20=>51|21=>52|22=>53|23=>54|24=>55|25=>56|26=>57|27=>58|46=>88|47=>89|48=>90|49=>91|50=>92|57=>110|n=>n,fun|22=>31|24=>57|25=>61|3=>3|39=>87|0=>0|53=>108|55=>110|4=>4|46=>101|45=>100|50=>105|5=>5|9=>9|66=>143|70=>147|76=>170|77=>171|n=>n,fun|n=>n⟩
theorem Tryz.laysSlsfz6_f25:Go.Proofs.SlLaysF0.n6 Tryz.prog Tryz.laysSlsfz6_f25_ren:={
 mixed:=by kernel_rfl
 f6:=⟨Tryz.f25.name,by decide,Tryz.func25.trans (congrArg some (by kernel_rfl))⟩
 f14:=⟨Tryz.f38.name,by decide,Tryz.func38.trans (congrArg some (by kernel_rfl))⟩
 f15:=Tryz.func39.trans (congrArg some (by kernel_rfl))
 f20:=⟨Tryz.f51.name,by decide,Tryz.func51.trans (congrArg some (by kernel_rfl))⟩
 f21:=⟨Tryz.f52.name,by decide,Tryz.func52.trans (congrArg some (by kernel_rfl))⟩
 f22:=⟨Tryz.f53.name,by decide,Tryz.func53.trans (congrArg some (by kernel_rfl))⟩
 f23:=⟨Tryz.f54.name,by decide,Tryz.func54.trans (congrArg some (by kernel_rfl))⟩
 f24:=⟨Tryz.f55.name,by decide,Tryz.func55.trans (congrArg some (by kernel_rfl))⟩
 f25:=⟨Tryz.f56.name,by decide,Tryz.func56.trans (congrArg some (by kernel_rfl))⟩
 f26:=⟨Tryz.f57.name,by decide,Tryz.func57.trans (congrArg some (by kernel_rfl))⟩
 f27:=⟨Tryz.f58.name,by decide,Tryz.func58.trans (congrArg some (by kernel_rfl))⟩
 f28:=Tryz.func59.trans (congrArg some (by kernel_rfl))
 f29:=Tryz.func60.trans (congrArg some (by kernel_rfl))
 f46:=⟨Tryz.f88.name,by decide,Tryz.func88.trans (congrArg some (by kernel_rfl))⟩
 f47:=Tryz.func89.trans (congrArg some (by kernel_rfl))
 f48:=Tryz.func90.trans (congrArg some (by kernel_rfl))
 f49:=⟨Tryz.f91.name,by decide,Tryz.func91.trans (congrArg some (by kernel_rfl))⟩
 f50:=⟨Tryz.f92.name,by decide,Tryz.func92.trans (congrArg some (by kernel_rfl))⟩
 f57:=⟨Tryz.f110.name,by decide,Tryz.func110.trans (congrArg some (by kernel_rfl))⟩
 t0:=Tryz.underlying0
 a0:=Tryz.isAgg0
 z0:=Tryz.sizeOf0
 v0:=Tryz.zeroValue0
 t3:=Tryz.underlying3
 a3:=Tryz.isAgg3
 z3:=Tryz.sizeOf3
 v3:=Tryz.zeroValue3
 t4:=Tryz.underlying4
 a4:=Tryz.isAgg4
 z4:=Tryz.sizeOf4
 v4:=Tryz.zeroValue4
 t5:=Tryz.underlying5
 a5:=Tryz.isAgg5
 z5:=Tryz.sizeOf5
 v5:=Tryz.zeroValue5
 t9:=Tryz.underlying9
 a9:=Tryz.isAgg9
 z9:=Tryz.sizeOf9
 v9:=Tryz.zeroValue9
 t22:=Tryz.underlying31
 a22:=Tryz.isAgg31
 z22:=Tryz.sizeOf31
 v22:=Tryz.zeroValue31
 t25:=Tryz.underlying61
 a25:=Tryz.isAgg61
 z25:=Tryz.sizeOf61
 v25:=Tryz.zeroValue61
 t39:=Tryz.underlying87
 a39:=Tryz.isAgg87
 z39:=Tryz.sizeOf87
 v39:=Tryz.zeroValue87
 t45:=Tryz.underlying100
 a45:=Tryz.isAgg100
 z45:=Tryz.sizeOf100
 v45:=Tryz.zeroValue100
 t46:=Tryz.underlying101
 a46:=Tryz.isAgg101
 z46:=Tryz.sizeOf101
 v46:=Tryz.zeroValue101
 t50:=Tryz.underlying105
 a50:=Tryz.isAgg105
 z50:=Tryz.sizeOf105
 v50:=Tryz.zeroValue105
 t53:=Tryz.underlying108
 a53:=Tryz.isAgg108
 z53:=Tryz.sizeOf108
 v53:=Tryz.zeroValue108
 t55:=Tryz.underlying110
 a55:=Tryz.isAgg110
 z55:=Tryz.sizeOf110
 v55:=Tryz.zeroValue110
 t66:=Tryz.underlying143
 a66:=Tryz.isAgg143
 z66:=Tryz.sizeOf143
 v66:=Tryz.zeroValue143
 t70:=Tryz.underlying147
 a70:=Tryz.isAgg147
 z70:=Tryz.sizeOf147
 v70:=Tryz.zeroValue147
 t76:=Tryz.underlying170
 a76:=Tryz.isAgg170
 z76:=Tryz.sizeOf170
 v76:=Tryz.zeroValue170
 t77:=Tryz.underlying171
 a77:=Tryz.isAgg171
 z77:=Tryz.sizeOf171
 v77:=Tryz.zeroValue171 }
open Go.RowKit Go.Lib Go.Sort in
theorem Tryz.slices_SortFuncF{α:Type}[Inhabited α](k:Nat)(aE:∀w,(isAgg 57).run Tryz.prog w = .ok true w)(zE:∀w,(Go.sizeOf 57).run Tryz.prog w = .ok k w)(enc:α->List Value)(hk:∀x,(enc x).length=k)(h1:∀x,∀v∈enc x,v.oneCell'=true)(cf:α->α->Int)(hO:SWO (ltOf cf))(g:Nat)(cb:Array Value)(blk off cap:Nat)(d:Array α)(w:World)(eg:∀args w,(callFunc g args).run Tryz.prog w = .ok (.enter g args) w)(hcmp:CmpLays Tryz.prog g cb enc k cf blk off d.size w)(hH:HoldsK enc k w blk off d)(hblk:blk<w.heap.size)(hsz:d.size<4611686018427387904) :
  Calls Tryz.prog 25 #[.slice (some ⟨blk,off,none⟩) d.size cap,.func (.func g) #[] cb] w fun e w'=>
   e = .returned (.tuple #[])/\∃d' n os,PermIn 0 d.size d d'/\SortedIn (ltOf cf) 0 d.size d'/\w'=sortWorldK enc k w blk off n d' os:=AnyQ.slices_SortFunc Tryz.laysSlsfz6_f25 k aE zE enc hk h1 cf hO g cb blk off cap d w eg hcmp hH hblk hsz
open Go.RowKit Go.Lib Go.Sort in
theorem Tryz.slices_SortFuncF_none{α:Type}[Inhabited α](p:Option Addr)(cap:Nat)(fv:Value)(w:World) :
  Calls Tryz.prog 25 #[.slice p 0 cap,fv] w fun e w'=>e = .returned (.tuple #[])/\w'=w:=AnyF.slices_SortFunc_none Tryz.laysSlsfz6_f25 p cap fv w
end Go.Proofs
namespace Go.Proofs
open Go.Shelf
def Tryz.laysSlsfz6_f28_ren:Go.Shelf.Ren:=⟨fun|6=>28|15=>39|14=>40|28=>59|29=>60|20=>61|21=>62|22=>63|23=>64|24=>65|25=>66|26=>67|27=>68|46=>93|47=>89|48=>90|49=>94|50=>95|57=>111|n=>n,fun|22=>25|24=>33|25=>66|3=>3|39=>87|0=>0|53=>108|55=>110|4=>4|46=>101|45=>100|50=>105|5=>5|9=>9|66=>143|70=>147|76=>170|77=>171|n=>n,fun|n=>n⟩
theorem Tryz.laysSlsfz6_f28:Go.Proofs.SlLaysF0.n6 Tryz.prog Tryz.laysSlsfz6_f28_ren:={
 mixed:=by kernel_rfl
 f6:=⟨Tryz.f28.name,by decide,Tryz.func28.trans (congrArg some (by kernel_rfl))⟩
 f14:=⟨Tryz.f40.name,by decide,Tryz.func40.trans (congrArg some (by kernel_rfl))⟩
 f15:=Tryz.func39.trans (congrArg some (by kernel_rfl))
 f20:=⟨Tryz.f61.name,by decide,Tryz.func61.trans (congrArg some (by kernel_rfl))⟩
 f21:=⟨Tryz.f62.name,by decide,Tryz.func62.trans (congrArg some (by kernel_rfl))⟩
 f22:=⟨Tryz.f63.name,by decide,Tryz.func63.trans (congrArg some (by kernel_rfl))⟩
 f23:=⟨Tryz.f64.name,by decide,Tryz.func64.trans (congrArg some (by kernel_rfl))⟩
 f24:=⟨Tryz.f65.name,by decide,Tryz.func65.trans (congrArg some (by kernel_rfl))⟩
 f25:=⟨Tryz.f66.name,by decide,Tryz.func66.trans (congrArg some (by kernel_rfl))⟩
 f26:=⟨Tryz.f67.name,by decide,Tryz.func67.trans (congrArg some (by kernel_rfl))⟩
 f27:=⟨Tryz.f68.name,by decide,Tryz.func68.trans (congrArg some (by kernel_rfl))⟩
 f28:=Tryz.func59.trans (congrArg some (by kernel_rfl))
 f29:=Tryz.func60.trans (congrArg some (by kernel_rfl))
 f46:=⟨Tryz.f93.name,by decide,Tryz.func93.trans (congrArg some (by kernel_rfl))⟩
 f47:=Tryz.func89.trans (congrArg some (by kernel_rfl))
 f48:=Tryz.func90.trans (congrArg some (by kernel_rfl))
 f49:=⟨Tryz.f94.name,by decide,Tryz.func94.trans (congrArg some (by kernel_rfl))⟩
 f50:=⟨Tryz.f95.name,by decide,Tryz.func95.trans (congrArg some (by kernel_rfl))⟩
 f57:=⟨Tryz.f111.name,by decide,Tryz.func111.trans (congrArg some (by kernel_rfl))⟩
 t0:=Tryz.underlying0
 a0:=Tryz.isAgg0
 z0:=Tryz.sizeOf0
 v0:=Tryz.zeroValue0
 t3:=Tryz.underlying3
 a3:=Tryz.isAgg3
 z3:=Tryz.sizeOf3
 v3:=Tryz.zeroValue3
 t4:=Tryz.underlying4
 a4:=Tryz.isAgg4
 z4:=Tryz.sizeOf4
 v4:=Tryz.zeroValue4
 t5:=Tryz.underlying5
 a5:=Tryz.isAgg5
 z5:=Tryz.sizeOf5
 v5:=Tryz.zeroValue5
 t9:=Tryz.underlying9
 a9:=Tryz.isAgg9
 z9:=Tryz.sizeOf9
 v9:=Tryz.zeroValue9
 t22:=Tryz.underlying25
 a22:=Tryz.isAgg25
 z22:=Tryz.sizeOf25
 v22:=Tryz.zeroValue25
 t25:=Tryz.underlying66
 a25:=Tryz.isAgg66
 z25:=Tryz.sizeOf66
 v25:=Tryz.zeroValue66
 t39:=Tryz.underlying87
 a39:=Tryz.isAgg87
 z39:=Tryz.sizeOf87
 v39:=Tryz.zeroValue87
 t45:=Tryz.underlying100
 a45:=Tryz.isAgg100
 z45:=Tryz.sizeOf100
 v45:=Tryz.zeroValue100
 t46:=Tryz.underlying101
 a46:=Tryz.isAgg101
 z46:=Tryz.sizeOf101
 v46:=Tryz.zeroValue101
 t50:=Tryz.underlying105
 a50:=Tryz.isAgg105
 z50:=Tryz.sizeOf105
 v50:=Tryz.zeroValue105
 t53:=Tryz.underlying108
 a53:=Tryz.isAgg108
 z53:=Tryz.sizeOf108
 v53:=Tryz.zeroValue108
 t55:=Tryz.underlying110
 a55:=Tryz.isAgg110
 z55:=Tryz.sizeOf110
 v55:=Tryz.zeroValue110
 t66:=Tryz.underlying143
 a66:=Tryz.isAgg143
 z66:=Tryz.sizeOf143
 v66:=Tryz.zeroValue143
 t70:=Tryz.underlying147
 a70:=Tryz.isAgg147
 z70:=Tryz.sizeOf147
 v70:=Tryz.zeroValue147
 t76:=Tryz.underlying170
 a76:=Tryz.isAgg170
 z76:=Tryz.sizeOf170
 v76:=Tryz.zeroValue170
 t77:=Tryz.underlying171
 a77:=Tryz.isAgg171
 z77:=Tryz.sizeOf171
 v77:=Tryz.zeroValue171 }
open Go.RowKit Go.Lib Go.Sort in
theorem Tryz.slices_SortFuncG{α:Type}[Inhabited α](k:Nat)(aE:∀w,(isAgg 33).run Tryz.prog w = .ok true w)(zE:∀w,(Go.sizeOf 33).run Tryz.prog w = .ok k w)(enc:α->List Value)(hk:∀x,(enc x).length=k)(h1:∀x,∀v∈enc x,v.oneCell'=true)(cf:α->α->Int)(hO:SWO (ltOf cf))(g:Nat)(cb:Array Value)(blk off cap:Nat)(d:Array α)(w:World)(eg:∀args w,(callFunc g args).run Tryz.prog w = .ok (.enter g args) w)(hcmp:CmpLays Tryz.prog g cb enc k cf blk off d.size w)(hH:HoldsK enc k w blk off d)(hblk:blk<w.heap.size)(hsz:d.size<4611686018427387904) :
  Calls Tryz.prog 28 #[.slice (some ⟨blk,off,none⟩) d.size cap,.func (.func g) #[] cb] w fun e w'=>
   e = .returned (.tuple #[])/\∃d' n os,PermIn 0 d.size d d'/\SortedIn (ltOf cf) 0 d.size d'/\w'=sortWorldK enc k w blk off n d' os:=AnyQ.slices_SortFunc Tryz.laysSlsfz6_f28 k aE zE enc hk h1 cf hO g cb blk off cap d w eg hcmp hH hblk hsz
open Go.RowKit Go.Lib Go.Sort in
theorem Tryz.slices_SortFuncG_none{α:Type}[Inhabited α](p:Option Addr)(cap:Nat)(fv:Value)(w:World) :
  Calls Tryz.prog 28 #[.slice p 0 cap,fv] w fun e w'=>e = .returned (.tuple #[])/\w'=w:=AnyF.slices_SortFunc_none Tryz.laysSlsfz6_f28 p cap fv w
end Go.Proofs
namespace Go.Ax
open Go
def nN(arr:Array Value)(k n:Nat)(i:Nat):List Value:=(List.range k).map fun j=>arr.getD (min i (n-1)*k+j) undef
theorem xZ(arr:Array Value)(k n i:Nat):(nN arr k n i).length=k:=by simp[nN]
theorem yS{arr:Array Value}{k n i j:Nat}(hj:j<k):(nN arr k n i)[j]? = some (arr.getD (min i (n-1)*k+j) undef):=by simp[nN,hj]
structure Hh{β:Type}(xs:List β)(c:β->β->Int):Prop where
 irrefl:∀x∈xs,¬c x x<0
 trans:∀x∈xs,∀y∈xs,∀z∈xs,c x y<0->c y z<0->c x z<0
 ntrans:∀x∈xs,∀y∈xs,∀z∈xs,¬c x y<0->¬c y z<0->¬c x z<0
def DB{β:Type}(xs ys:List β)(c:β->β->Int):Prop:=ys.Perm xs/\∀(i j:Nat) (x y:β),i<j->ys[i]? = some x->ys[j]? = some y->¬c y x<0
section
variable {P:Program} {F:FuncId} {t:TypeId} {k:Nat}
open Go.Shelf Go.RowKit Go.Lib Go.Sort Go.Proofs
theorem pZ
  (hF:∀(enc:Nat->List Value) (_:∀x,(enc x).length=k) (_:∀x,∀v∈enc x,v.oneCell'=true) (cf:Nat->Nat->Int) (_:SWO (ltOf cf)) (g:Nat) (cb:Array Value) (blk off cap:Nat) (d:Array Nat) (w:World)
   (_:∀args w,(callFunc g args).run P w = .ok (.enter g args) w) (_:CmpLays P g cb enc k cf blk off d.size w) (_:HoldsK enc k w blk off d) (_:blk<w.heap.size) (_:d.size<4611686018427387904),
   Calls P F #[.slice (some ⟨blk,off,none⟩) d.size cap,.func (.func g) #[] cb] w fun e w'=>
    e = .returned (.tuple #[])/\∃d' n os,PermIn 0 d.size d d'/\SortedIn (ltOf cf) 0 d.size d'/\w'=sortWorldK enc k w blk off n d' os)
  {g:FuncId} (eg:∀args w,(callFunc g args).run P w = .ok (.enter g args) w) {β:Type} [Inhabited β] (e:β->AV) (L:List β) (h0:0<L.length) (hk0:0<k) (hlen:L.length<4611686018427387904) (hagg:∀x∈L,∃cs,e x = .agg cs) (hnn:∀x∈L,NN (e x))
  (c:β->β->Int) (hO:Hh L c) (hc:∀x∈L,∀y∈L,aR P [] g [e x,e y] (.int .i64 (c x y))) (hF0:Nat.beq F YF=false:=by rfl) (hg0:Nat.beq g YF=false:=by rfl) :
  aC P [] F [.sl 0 0 L.length,.fn (.func g) [] []] [(0,.row t k (L.map e))] 1 fun r m n=>r = .tup []/\n=1/\∃ys,DB L ys c/\m=[(0,.row t k (ys.map e))]:=by
 obtain⟨xs,hxs⟩:∃xs,xs=L.map e:=⟨_,rfl⟩
 have hxl:L.length=xs.length:=by rw[hxs];simp
 rw[←hxs,hxl];rw[hxl] at h0 hlen;refine⟨fun X D ρ w vs hD hm hv=>?_⟩;obtain⟨hl,hv⟩:=hv
 match vs,hl with
 | [s,fv],_=>
  have v0:=hv 0 _ s rfl rfl;have v1:=hv 1 _ fv rfl rfl;have hid:lk [(0,AB.row t k xs)] 0=some (.row t k xs):=rfl;have hsz:=kX hm hid;have hn:0<(ρ 0).n:=by
   rcases Jj (ρ 0).n with h|h
   ·obtain⟨t',sz',e1,_⟩:=hm.emp _ (aG hid) h;injection e1 with _ _ e2;rw[e2] at h0;simp at h0
   ·exact h
  obtain⟨o,ho,hsz',arr,fr,rfl,hf,hs,hle,hrow⟩:=hm.blk _ (aG hid) hn;simp only at ho hsz' hs hle hrow;rw[hsz] at hrow hle;have hlt:=eH hm (.inr ⟨_,aG hid,hn,rfl⟩);simp only at hlt;obtain⟨n,hne⟩:∃n,n=xs.length:=⟨_,rfl⟩
  rw[←hne] at v0 h0 hlen hle;have hso:∃cap,s = .slice (some ⟨(ρ 0).b,0,none⟩) n cap:=by
   cases v0 with
   | sl _ _ _ cap _ h1 h2=>exact⟨cap,by rw[Nat.zero_mul]⟩
   | slz=>omega
   | slzn=>omega
  obtain⟨cap,rfl⟩:=hso;have hfv:fv = .func (.func g) #[] #[]:=by
   cases v1 with
   | fn f a b a1 a2 l1 l2 _ _=>
    have e1:a1 = #[]:=J7 l1.symm;have e2:a2 = #[]:=J7 l2.symm;rw[e1,e2]
  subst hfv;have hx:∀i,i<n->∃x,xs[i]? = some x/\x∈xs/\xs.getD i .junk=x:=fun i hi=>by
   refine⟨xs[i],JS om,Jl _, ?_⟩;rw[KD,JS om];rfl
  have hcl:∀i,i<n->∀j,j<k->∃cv v,(xs.getD i .junk).cells[j]? = some cv/\arr[i*k+j]? = some v/\v.oneCell'=true/\VR ρ D (OX X ρ [(0,.row t k xs)]) w cv v:=fun i hi j hj=>by
   obtain⟨x,h1,h2,h3⟩:=hx i hi;obtain⟨h4,h5⟩:=hrow i x h1;rw[h3];have h6:x.cells[j]? = some x.cells[j]:=JS om;obtain⟨v,hv1,hv2,hv3⟩:=h5 j _ h6;exact⟨_,v,h6,hv1,hv2,hv3⟩
  have hmin:∀i,min i (n-1)<n:=fun i=>om
  obtain⟨enc,henc⟩:∃enc:Nat->List Value,enc=nN arr k n:=⟨_,rfl⟩
  obtain⟨lv,hlv⟩:∃lv:Nat->β,lv=fun i=>L.getD (min i (n-1)) default:=⟨_,rfl⟩
  have hlm:∀i,lv i∈L:=fun i=>by
   have hi:=hmin i;rw[hlv];simp only;rw[KD,JS om];exact Jl _
  obtain⟨el,hel0⟩:∃el:Nat->AV,el=fun i=>e (lv i):=⟨_,rfl⟩
  have hel:el=fun i=>xs.getD (min i (n-1)) .junk:=by
   funext i
   have hi:=hmin i;rw[hel0,hlv,hxs];simp only;rw[KD,KD,Js,JS om];rfl
  have hek:∀x,(enc x).length=k:=fun x=>by rw[henc];exact xZ _ _ _ _
  have heg:∀x j,j<k->(enc x)[j]? = some (arr.getD (min x (n-1)*k+j) undef):=fun x j hj=>by rw[henc];exact yS hj
  have he1:∀x,∀v∈enc x,v.oneCell'=true:=fun x v hv=>by
   obtain⟨j,hj,rfl⟩:=Ki hv;have hj':j<k:=by rw[hek] at hj;exact hj
   obtain⟨cv,v,a1,a2,a3,a4⟩:=hcl _ (hmin x) j hj';have:=heg x j hj';rw[JS hj] at this;rw[Option.some.inj this,J6,a2];exact a3
  have hlarr:∀i,i<n->∀j,j<k->i*k+j<arr.size:=fun i hi j hj=>by
   obtain⟨cv,v,a1,a2,a3,a4⟩:=hcl i hi j hj;exact(KJ.1 a2).1
  obtain⟨d,hd⟩:∃d:Array Nat,d=Array.range n:=⟨_,rfl⟩
  have hdn:d.size=n:=by rw[hd];simp
  have hnk:n*k<=arr.size:=by rw[hs];exact hle
  have hH:HoldsK enc k w (ρ 0).b 0 d:=by
   unfold HoldsK Holds;intro j hj;rw[size_flatK,hdn] at hj;rw[get_flatK _ _ _ _ (by rw[hdn];exact hj)];have hq:j/k<n:=Nat.div_lt_of_lt_mul (by rw[LA];exact hj);have hr:j%k<k:=LW _ hk0;have hdj:d[j/k]! = j/k:=by rw[hd,getElem!_pos _ _ (by simpa using hq)];simp
   rw[hdj];have hg:=heg (j/k) (j%k) hr;rw[show min (j/k) (n-1)=j/k by omega,show j/k*k+j%k=j by rw[LA];exact Nat.div_add_mod j k] at hg;have hja:j<arr.size:=om;have e:(enc (j/k))[j%k]! = arr[j]:=by
    rw[getElem!_pos _ _ (by rw[hek];exact hr)];rw[JS (by rw[hek];exact hr)] at hg;rw[Option.some.inj hg,J6,J4 hja];rfl
   rw[e];constructor
   ·simp only[World.cell?,ho,Jt];rw[Ja (by simp),J4 hja];rfl
   ·simp only[World.frozen?,ho,Jt];have:=hf j hja;obtain⟨a,b⟩:=fr;simp only at this ⊢;rw[Ke];simp;omega
  obtain⟨cf,hcf⟩:∃cf:Nat->Nat->Int,cf=fun x y=>c (lv x) (lv y):=⟨_,rfl⟩
  have hSW:SWO (ltOf cf):=by
   refine⟨fun x=>?_,fun x y z h1 h2=>?_,fun x y z h1 h2=>?_⟩
   ·simp only[ltOf,hcf];exact Jm (hO.irrefl _ (hlm x))
   ·simp only[ltOf,hcf] at h1 h2 ⊢;exact Jk (hO.trans _ (hlm x) _ (hlm y) _ (hlm z) (Jr h1) (Jr h2))
   ·simp only[ltOf,hcf] at h1 h2 ⊢;exact Jm (hO.ntrans _ (hlm x) _ (hlm y) _ (hlm z) (KU h1) (KU h2))
  obtain⟨O,hOe⟩:∃O,O=OX X ρ [(0,.row t k xs)]:=⟨_,rfl⟩
  rw[←hOe] at hcl;have hOb:O (ρ 0).b:=by rw[hOe];exact .inr ⟨_,aG hid,hn,rfl⟩
  have hev:∀x,VR ρ D O w (el x) (.agg (enc x).toArray):=fun x=>by
   obtain⟨cs,hcs⟩:=hagg _ (hlm x);rw[show e (lv x)=el x by rw[hel0]] at hcs;obtain⟨ex,h1,h2,h3⟩:=hx _ (hmin x);have hee:ex=el x:=by rw[hel];exact h3.symm
   have hlen':=(hrow _ ex h1).1;rw[hee,hcs] at hlen';have hcl':=hcl _ (hmin x);rw[show xs.getD (min x (n-1)) .junk=el x by rw[hel],hcs] at hcl';rw[hcs];refine .agg cs _ (by have hl':cs.length=k:=hlen';rw[hl'];simp[hek]) (fun v hv=>he1 x v (by simpa using hv)) (fun j cv v hj hv=>?_);have hjk:j<k:=by have:=(JT.1 hj).1;rw[←hlen'];exact this
   obtain⟨cv',v',a1,a2,a3,a4⟩:=hcl' j hjk;have a1':cs[j]? = some cv':=a1;rw[hj] at a1';cases a1';have hvv:v=v':=by
    have:=heg x j hjk;rw[KH,this,J6,a2] at hv;exact(Option.some.inj hv).symm
   rw[hvv];exact a4
  have hcmp:CmpLays P g #[] enc k cf (ρ 0).b 0 d.size w:=by
   intro m os dk hdk x y;have hWh:∀b,b<w.heap.size->b≠(ρ 0).b->(sortWorldK enc k w (ρ 0).b 0 m dk os).heap[b]? = w.heap[b]? := fun b hb hne=>by
    show ((w.heap.modify (ρ 0).b _)++os)[b]? = _
    rw[K0 (by simpa using hb),KB,Ja (Ne.symm hne)]
   have hWs:w.heap.size<=(sortWorldK enc k w (ρ 0).b 0 m dk os).heap.size:=size_sortWorldK_c enc k w (ρ 0).b 0 m dk os;generalize sortWorldK enc k w (ρ 0).b 0 m dk os=W at hWh hWs ⊢;have hat:∀z,VR ρ (fun _=>False) (OX (fun _=>False) ρ []) W (el z) (.agg (enc z).toArray):=fun z=>by
    have a1:VR ρ D (fun b=>b=(ρ 0).b) w (el z) (.agg (enc z).toArray):=NN.vr (hev z) (fun b _ hb e=>hb (by rw[e];exact hOb)) (by rw[hel0];exact hnn _ (hlm z));have a2:=a1.mono (w':=W) (ρ':=ρ) (D':=D) (O':=fun b=>b=(ρ 0).b) (fun _ _=>rfl) (fun _ h=>h) (fun b hb hne=>⟨hne,hWh b hb hne⟩);exact NN.vr a2 (fun b _ _ h=>by rcases h with h|⟨p,hp,_⟩;exact h;cases hp) (by rw[hel0];exact hnn _ (hlm z))
   have hcc:=hc _ (hlm x) _ (hlm y);rw[show e (lv x)=el x by rw[hel0],show e (lv y)=el y by rw[hel0]] at hcc;have hcall:=hcc.run (fun _=>False) (fun _=>False) ρ W [.agg (enc x).toArray,.agg (enc y).toArray] (fun i h=>h.elim)
    ⟨fun p hp=>(by cases hp),fun p hp=>(by cases hp),fun p hp=>(by cases hp),fun p hp=>(by cases hp),by simp,fun b h=>h.elim,fun p hp=>(by cases hp)⟩ (.cons (hat x) (.cons (hat y) .nil))
   rw[Array.append_empty];refine(hcall.calls hg0).mono ?_;rintro e w' ⟨r,v,mem',nx',ρ',rfl,⟨rfl,rfl,rfl⟩,_,_,hr,hext⟩;cases hr;refine⟨by rw[hcf],w'.drawn-W.drawn,w'.heap.extract W.heap.size w'.heap.size, ?_⟩;have h1:=hext.env;have h2:w'.heap=W.heap++w'.heap.extract W.heap.size w'.heap.size:=by
    apply Ko;intro b;rcases Jc b W.heap.size with hb|hb
    ·rw[K0 hb,hext.keep b hb (fun⟨p,hp,_⟩=>by cases hp)]
    ·rw[Array.getElem?_append_right hb,Array.getElem?_extract];have:=hext.size;split
     ·congr 1;omega
     ·rw[Kn om]
   have h3:W.drawn+(w'.drawn-W.drawn)=w'.drawn:=by have:=h1.drawn;omega
   cases w';unfold grow World.drewN;simp only at h1 h2 h3 ⊢;rw[h3,←h2,←h1.os,←h1.output,←h1.tape]
  have hres:=hF enc hek he1 cf hSW g #[] (ρ 0).b 0 cap d w eg hcmp hH hlt om;rw[hdn] at hres;refine .of hF0 (hres.mono ?_);rintro e w' ⟨rfl,d',q,os,⟨p1,_,p3⟩,hsort,rfl⟩;rw[hdn] at p1;have hys:∀i,i<n->d'[i]? = some d'[i]! := fun i hi=>by rw[getElem!_pos d' i om,J4]
  have hW1:(putRowK enc k (Sort.ahead w q) (ρ 0).b 0 d').heap=w.heap.setIfInBounds (ρ 0).b (.cells (putCells id 0 (flatK enc k d') arr) t fr):=by
   apply Ko;intro b
   show (w.heap.modify (ρ 0).b (Sort.onCells _))[b]? = _
   rw[KB,Ku];by_cases hk:(ρ 0).b=b
   ·subst hk;rw[Jb rfl,Jb rfl,Jb hlt,ho];rfl
   ·rw[Ja hk,Ja hk]
  obtain⟨m1,mv,ext⟩:=hm.change (w':=putRowK enc k (Sort.ahead w q) (ρ 0).b 0 d') (xs':=d'.toList.map el) (arr:=putCells id 0 (flatK enc k d') arr) (fr:=fr) hid hn hW1 .go
   (fun j hj=>hf j (by simpa[putCells] using hj)) (by rw[←hs];simp[putCells])
   (by
    refine⟨by simp[putCells,p1];exact hnk,fun i x hi=>?_⟩;rw[Js] at hi;obtain⟨q0,he,rfl⟩:=KG.1 hi;have hin:i<n:=by have:=(JT.1 he).1;simpa[p1] using this
    have hde:d'[i]! = q0:=by
     have:=hys i hin;rw[←Array.getElem?_toList,he] at this;exact(Option.some.inj this).symm
    obtain⟨x,h1,h2,h3⟩:=hx _ (hmin q0);have hxe:x=el q0:=by rw[hel];exact h3.symm
    have hlen':=(hrow _ x h1).1;rw[hxe] at hlen';refine⟨hlen',fun j cv hj=>?_⟩;have hjk:j<k:=by have:=(JT.1 hj).1;rw[←hlen'];exact this
    obtain⟨cv',v,a1,a2,a3,a4⟩:=hcl _ (hmin q0) j hjk;have a1':(el q0).cells[j]? = some cv':=by rw[hel];exact a1
    rw[hj] at a1';cases a1';refine⟨v, ?_,a3,hOe ▸ a4⟩;have hlt2:i*k+j<n*k:=by
     have:(i+1)*k<=n*k:=Jh k hin;rw[Nat.add_mul,Ka] at this;omega
    have hF1:(flatK enc k d')[i*k+j]! = v:=by
     rw[get_flatK _ _ _ _ (by rw[p1];exact hlt2)];rw[show (i*k+j)/k=i by rw[LA,Nat.mul_add_div hk0,Nat.div_eq_of_lt hjk,KX],show (i*k+j)%k=j by rw[LA,Nat.mul_add_mod,LE hjk],hde];have hg:=heg q0 j hjk;rw[J6,a2] at hg;rw[getElem!_pos _ _ (by rw[hek];exact hjk)];rw[JS (by rw[hek];exact hjk)] at hg;exact Option.some.inj hg
    unfold putCells;rw[Array.getElem?_mapIdx,J4 (show i*k+j<arr.size by omega),KC];rw[Jb ⟨Kz _,by rw[Jt,size_flatK,p1];exact hlt2⟩];simp only[Nat.sub_zero,id,hF1])
  obtain⟨m2,ext2⟩:=m1.still (w':=sortWorldK enc k w (ρ 0).b 0 q d' os) (by unfold sortWorldK;rw[size_grow];omega) (fun b hb=>by
   unfold sortWorldK grow;rw[K0 hb]) .go
  have hsub:∀i,D i->dn D 1 1 i:=fun i hi=>.inl hi
  refine⟨.tup [],.tuple #[],_,1,ρ,rfl,⟨rfl,rfl,d'.toList.map lv,⟨?_,fun i j x y hij hi hj=>?_⟩,by simp[up,hel0]⟩,JX _,(m2.widen hsub).1,.tup [] #[] rfl (by simp),((ext D fun i hi=>hi).trans (ext2 D fun i hi=>hi)).wide hsub⟩
  ·have hp:d'.toList.Perm (List.range n):=by
    have e1:(d'.extract 0 n)=d':=by rw[←p1];simp
    have e2:(d.extract 0 n)=d:=by rw[←hdn];simp
    rw[e1,e2] at p3;rw[hd] at p3;simpa using p3
   have h1:=hp.map lv;have h2:(List.range n).map lv=L:=by
    apply LU;intro i;rw[Js];rcases Jc i n with hi|hi
    ·rw[List.getElem?_range hi,KC,hlv];simp only;rw[show min i (n-1)=i by omega,KD,JS om];rfl
    ·rw[JY (by simpa using hi),JY om];rfl
   rw[h2] at h1;exact h1
  ·rw[Js] at hi hj;obtain⟨a,ha,rfl⟩:=KG.1 hi;obtain⟨b,hb,rfl⟩:=KG.1 hj;have hjn:j<n:=by have:=(JT.1 hb).1;simpa[p1] using this
   have hia:d'[i]! = a:=by
    have:=hys i om;rw[←Array.getElem?_toList,ha] at this;exact(Option.some.inj this).symm
   have hjb:d'[j]! = b:=by
    have:=hys j hjn;rw[←Array.getElem?_toList,hb] at this;exact(Option.some.inj this).symm
   have:=hsort i j (Kz _) hij hjn;rw[hia,hjb] at this;simp only[ltOf,hcf] at this;exact KU this
end
end Go.Ax
