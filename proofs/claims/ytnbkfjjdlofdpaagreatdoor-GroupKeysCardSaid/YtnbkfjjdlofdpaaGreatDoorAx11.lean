/- A part of the proof. -/
import Derived.Test.YtnbkfjjdlofdpaaGreatDoorAx10
import Derived.Shelf.SlGeneric
import Derived.Shelf.SlSortCmp.WholeK
import Derived.Shelf.SlSortCmp.NoneTotal
import Derived.Ground.SlsfProg
import Derived.Test.YtnbkfjjdlofdpaaGreatDoorProg
import Derived.Shelf.SlSortCmp.InsertionK
set_option linter.unusedVariables false
set_option linter.unusedSimpArgs false
set_option linter.unusedSectionVars false
namespace Go.Proofs.YtnbkfjjdlofdpaaGreatDoor
open Go Go.Ax Go.Proofs Tryz
set_option maxRecDepth 100000
set_option maxHeartbeats 16000000
theorem Ck(x:Int):aS prog [] 50 [.int .i64 x] (.bool false):=by
 refine jD fS func50 rfl ?_
 conv=>whnf
 refine aJ (.bool _) ⟨?_,rfl,rfl⟩;simp
theorem Ge(x y:Int):aS prog [] 37 [.int .i64 x,.int .i64 y] (.int .i64 (dE x y)):=by
 refine jD fS func37 rfl ?_
 conv=>whnf
 refine(Ck x).use fS (.cons (.int _ _) .nil) (.bool _) ?_
 conv=>whnf
 refine(Ck y).use fS (.cons (.int _ _) .nil) (.bool _) ?_
 conv=>whnf
 refine bV (fun h=>?_) (fun h=>?_)
 ·conv=>whnf
  refine aJ (.int _ _) ⟨?_,rfl,rfl⟩;simp at h;simp[dE,h]
 conv=>whnf
 refine bV (fun h'=>?_) (fun h'=>?_)
 ·conv=>whnf
  refine aJ (.int _ _) ⟨?_,rfl,rfl⟩;simp at h h';simp only[dE];rw[JJ om,JL om]
 ·conv=>whnf
  refine aJ (.int _ _) ⟨?_,rfl,rfl⟩;simp at h h';simp only[dE];rw[JJ om,JJ om]
theorem Ih(x y z:Int):aS prog [] 22 [.il 1 [.int .i64 x,.int .i64 y,.int .i64 z]] (.int .i64 (andThen x (andThen y z))):=by
 have nl:NN (.il 1 [.int .i64 x,.int .i64 y,.int .i64 z]):=.il' (.cons nn (.cons nn (.cons nn .nil)));refine aR fS func22 rfl ?_;refine Rr ?_;refine bJ.at fS (fun k:Nat=>k<=3/\(0<k->x=0)/\(1<k->y=0)/\(2<k->z=0))
  (fun k=>⟨[(3,.int .i64 0),(6,.il 1 [.int .i64 x,.int .i64 y,.int .i64 z]),(7,.int .i64 3),(8,.int .i64 k)],[],0,18⟩)
  (fun k=>3-k) 0 [] ⟨om,om,om,om⟩
  (aV ⟨aK,aT nl,aK,aK,trivial⟩) ?_
 rintro k ⟨h1,h2,h3,h4⟩
 match k,h1,h2,h3,h4 with
 | 0,h1,h2,h3,h4=>
  refine Rr ?_;refine bV (fun h=>?_) (fun h=>?_)
  ·have h:x≠0:=by simpa using h
   refine Rr ?_;refine aJ nn ⟨?_,rfl,rfl⟩;rw[andThen,JJ h]
  ·have h:x=0:=by simpa using h
   refine Rr ?_;exact .mk 1 [] ⟨om,fun _=>h,om,om⟩ (aV ⟨aK,aT nl,aK,⟨_,rfl,.w64 rfl ⟨om,om⟩⟩,trivial⟩) om
 | 1,h1,h2,h3,h4=>
  refine Rr ?_;refine bV (fun h=>?_) (fun h=>?_)
  ·have h:y≠0:=by simpa using h
   refine Rr ?_;refine aJ nn ⟨?_,rfl,rfl⟩;rw[andThen,JL (h2 om),andThen,JJ h]
  ·have h:y=0:=by simpa using h
   refine Rr ?_;exact .mk 2 [] ⟨om,fun _=>h2 om,fun _=>h,om⟩ (aV ⟨aK,aT nl,aK,⟨_,rfl,.w64 rfl ⟨om,om⟩⟩,trivial⟩) om
 | 2,h1,h2,h3,h4=>
  refine Rr ?_;refine bV (fun h=>?_) (fun h=>?_)
  ·have h:z≠0:=by simpa using h
   refine Rr ?_;refine aJ nn ⟨?_,rfl,rfl⟩;rw[andThen,JL (h2 om),andThen,JL (h3 om)]
  ·have h:z=0:=by simpa using h
   refine Rr ?_;exact .mk 3 [] ⟨om,fun _=>h2 om,fun _=>h3 om,fun _=>h⟩ (aV ⟨aK,aT nl,aK,⟨_,rfl,.w64 rfl ⟨om,om⟩⟩,trivial⟩) om
 | 3,h1,h2,h3,h4=>
  refine Rr ?_;refine aJ nn ⟨?_,rfl,rfl⟩;rw[andThen,JL (h2 om),andThen,JL (h3 om),h4 om]
theorem Fa(x y:Oc):aS prog [] 24 [H9 x,H9 y] (.int .i64 (tR x y)):=by
 have h1:=wY x.kind y.kind;have h2:=wY x.at_ y.at_;have h3:=Ge x.code y.code;have h4:=Ih (dE x.kind y.kind) (dE x.at_ y.at_) (dE x.code y.code);unfold tR;generalize dE x.kind y.kind=a at *;generalize dE x.at_ y.at_=b at *;generalize dE x.code y.code=c at *;generalize andThen a (andThen b c)=d at *;obtain⟨x1,x2,x3⟩:=x;obtain⟨y1,y2,y3⟩:=y;have nl:hE [.int .i64 a,.int .i64 b,.int .i64 c]:=.cons nn (.cons nn (.cons nn .nil));refine aR fS func24 rfl ?_;refine Rr ?_;refine h1.go ?_;refine Rt ?_;refine h2.go ?_;refine Rt ?_;refine h3.go ?_;refine Rt ?_;refine aC.pre fS [] (mem':=[]) rfl trivial (.cons (.fz' (id:=17) (off:=0) (len:=3) (ys:=[.int .i64 a,.int .i64 b,.int .i64 c]) rfl rfl (by simp) rfl nl) .nil) ?_;refine h4.go ?_ (.cons (.il' nl) .nil) nn;refine Rr ?_;exact aJ nn ⟨rfl,rfl,rfl⟩
theorem FX(f g:Fl)(hf:f.path.length<=4294967296):aS prog [] 21 [gS f,gS g] (.int .i64 (cK f g)):=by
 have h1:=G9 f.path g.path om;have h2:=Fa f.oc g.oc;have h3:=Il (i9 f.path g.path) (tR f.oc g.oc)
 show aS prog [] 21 [gS f,gS g] (.int .i64 (andThen (i9 f.path g.path) (tR f.oc g.oc)))
 generalize i9 f.path g.path=a at *;generalize tR f.oc g.oc=b at *;generalize andThen a b=d at *;obtain⟨p,o⟩:=f;obtain⟨q,u⟩:=g;have no:=mE o;have nu:=mE u;obtain⟨o1,o2,o3⟩:=o;obtain⟨u1,u2,u3⟩:=u;have np:NN (.il 1 (aY p)):=.il' (aU p);have nq:NN (.il 1 (aY q)):=.il' (aU q);have nl:hE [.int .i64 a,.int .i64 b]:=.cons nn (.cons nn .nil);refine aR fS func21 rfl ?_;refine Rr ?_;refine h1.go ?_ (.cons np (.cons nq .nil)) nn;refine Rt ?_;refine h2.go ?_ (.cons no (.cons nu .nil)) nn;refine Rt ?_;refine aC.pre fS [] (mem':=[]) rfl trivial (.cons (.fz' (id:=12) (off:=0) (len:=2) (ys:=[.int .i64 a,.int .i64 b]) rfl rfl (by simp) rfl nl) .nil) ?_;refine h3.go ?_ (.cons (.il' nl) .nil) nn;refine Rr ?_;exact aJ nn ⟨rfl,rfl,rfl⟩
theorem Gn(f g:Fl)(hf:f.path.length<=4294967296):aS prog [] 27 [gS f,gS g,.ip (.fn (.func 21) [] [])] (.bool (cK f g == 0)):=by
 have h:=FX f g hf;have nf:=nB f;have ng:=nB g;generalize cK f g=a at *;obtain⟨p,o1,o2,o3⟩:=f;obtain⟨q,u1,u2,u3⟩:=g;refine aR fS func27 rfl ?_;refine Rr ?_;refine h.go ?_ (.cons nf (.cons ng .nil)) nn;refine Rr ?_;exact aJ nn ⟨rfl,rfl,rfl⟩
theorem Hh(f g:Gr)(hf:f.min.length<=4294967296):aS prog [] 29 [eJ f,eJ g] (.int .i64 (eY f g)):=by
 have h1:=G9 f.min g.min om;have h2:=Fa f.oc g.oc;have h3:=Il (i9 f.min g.min) (tR f.oc g.oc)
 show aS prog [] 29 [eJ f,eJ g] (.int .i64 (andThen (i9 f.min g.min) (tR f.oc g.oc)))
 generalize i9 f.min g.min=a at *;generalize tR f.oc g.oc=b at *;generalize andThen a b=d at *;obtain⟨p,o,fs⟩:=f;obtain⟨q,u,gs⟩:=g;have no:=mE o;have nu:=mE u;obtain⟨o1,o2,o3⟩:=o;obtain⟨u1,u2,u3⟩:=u;have np:NN (.il 1 (aY p)):=.il' (aU p);have nq:NN (.il 1 (aY q)):=.il' (aU q);have nl:hE [.int .i64 a,.int .i64 b]:=.cons nn (.cons nn .nil);refine aR fS func29 rfl ?_;refine Rr ?_;refine h1.go ?_ (.cons np (.cons nq .nil)) nn;refine Rt ?_;refine h2.go ?_ (.cons no (.cons nu .nil)) nn;refine Rt ?_;refine aC.pre fS [] (mem':=[]) rfl trivial (.cons (.fz' (id:=12) (off:=0) (len:=2) (ys:=[.int .i64 a,.int .i64 b]) rfl rfl (by simp) rfl nl) .nil) ?_;refine h3.go ?_ (.cons (.il' nl) .nil) nn;refine Rr ?_;exact aJ nn ⟨rfl,rfl,rfl⟩
set_option maxHeartbeats 16000000
theorem yT{k:Int}(h1:¬k=1)(h2:¬k=2):jO k=Lib.itoa k:=by unfold jO;rw[JJ h1,JJ h2]
theorem yY{k:Int}(h:i64 k):(jO k).length<=21:=by
 unfold jO;split
 ·decide
 ·split
  ·decide
  ·exact cY h
theorem Dg(g:Gr)(hg:A8 (aI g))(hl:g.min.length<=1000000):aS prog gz 7 [eJ g] (.str (dA (aI g))):=by
 have ng:=eI g;have h1:=uT g.oc.kind hg.2.1;have h2:=uT g.oc.at_ hg.2.2.1;have h3:=uT g.oc.code hg.2.2.2;have hi:∀x∈g.min,i64 x:=hg.1;have e1:=yT (k:=g.oc.kind);have e2:g.oc.kind=1->jO g.oc.kind=[102,97,105,108,101,100]:=fun h=>by rw[h];rfl
 have e3:g.oc.kind=2->jO g.oc.kind=[98,114,111,107,101]:=fun h=>by rw[h];rfl
 have l0:=yY hg.2.1;have l2:=cY hg.2.2.1;have l3:=cY hg.2.2.2
 show aS prog gz 7 [eJ g] (.str (jO g.oc.kind++32::(Lib.itoa g.oc.at_++32::(Lib.itoa g.oc.code++58::bY g.min))))
 obtain⟨p,⟨o1,o2,o3⟩,fs⟩:=g;simp only[aI] at *;generalize jO o1=K at *;generalize Lib.itoa o1=k1 at *;generalize Lib.itoa o2=k2 at *;generalize Lib.itoa o3=k3 at *;have np:NN (.il 1 (aY p)):=.il' (aU p);have lp:=bB p;refine aR a7 func7 rfl ?_;refine Rr ?_;refine h1.use a7 xA nn ?_;refine Rr ?_;have hk:o1=1∨o1=2∨(¬o1=1/\¬o1=2):=om;rcases hk with h|h|⟨h,h'⟩
 ·subst h;refine Rr ?_;rw[←e2 rfl];refine h2.use a7 xA nn ?_;refine Rr ?_;repeat((first|refine aM (JD (by simp;omega)) ?_|refine aH ?_);refine Rr ?_)
  refine h3.use a7 xA nn ?_;refine Rr ?_;repeat((first|refine aM (JD (by simp;omega)) ?_|refine aH ?_);refine Rr ?_)
  refine bJ.at a7 (fun k:Nat=>k<=p.length) (fun k=>⟨[(3,.str (K++32::(k2++32::(k3++58::bY (p.take k))))),(32,.il 1 (aY p)),(33,.int .i64 p.length),(34,.int .i64 k)],[],0,45⟩) (fun k=>p.length-k) 0 [] (by simp)
   (aV ⟨⟨_,rfl,.eq nn (by simp[bY])⟩,aT np,⟨_,rfl,.eq nn (by rw[lp])⟩,aK,trivial⟩) ?_
  intro k hk;have hd:decide ((k:Int)<(p.length:Int))=decide (k<p.length):=Jn.2 om;have hpl:=gE (l:=p.take k) fun x hx=>hi x (Js hx)
  rw[J0] at hpl;refine Rr ?_;rw[hd];by_cases hlt:k<p.length
  ·rw[JX hlt];have ek:=fX hlt;have hk1:=uT p[k] (hi _ (JQ hlt));have hk2:=cY (hi _ (JQ hlt));have hk3:bY (p.take (k+1))=bY (p.take k)++32::Lib.itoa p[k]:=by rw[JR hlt,eZ]
   generalize bY (p.take k)=S at *;generalize Lib.itoa p[k]=c at *;generalize p[k]=x at *;refine Rr ?_;repeat((first|refine aD ek ?_|refine aH ?_);refine Rr ?_)
   refine hk1.use a7 xA nn ?_;refine Rr ?_;repeat((first|refine aM (JD (by simp;omega)) ?_|refine aH ?_);refine Rr ?_)
   exact .mk (k+1) [] om (aV ⟨⟨_,rfl,.eq nn (by rw[hk3];simp)⟩,aT np,aK,⟨_,rfl,.w64 om ⟨om,om⟩⟩,trivial⟩) om
  ·rw[JZ hlt];refine Rr ?_;have:k=p.length:=om;subst this;exact dN (r':=.str _) (.eq nn (by rw[Jr])) ⟨rfl,rfl,rfl⟩
 ·subst h;refine Rr ?_;rw[←e3 rfl];refine h2.use a7 xA nn ?_;refine Rr ?_;repeat((first|refine aM (JD (by simp;omega)) ?_|refine aH ?_);refine Rr ?_)
  refine h3.use a7 xA nn ?_;refine Rr ?_;repeat((first|refine aM (JD (by simp;omega)) ?_|refine aH ?_);refine Rr ?_)
  refine bJ.at a7 (fun k:Nat=>k<=p.length) (fun k=>⟨[(3,.str (K++32::(k2++32::(k3++58::bY (p.take k))))),(32,.il 1 (aY p)),(33,.int .i64 p.length),(34,.int .i64 k)],[],0,45⟩) (fun k=>p.length-k) 0 [] (by simp)
   (aV ⟨⟨_,rfl,.eq nn (by simp[bY])⟩,aT np,⟨_,rfl,.eq nn (by rw[lp])⟩,aK,trivial⟩) ?_
  intro k hk;have hd:decide ((k:Int)<(p.length:Int))=decide (k<p.length):=Jn.2 om;have hpl:=gE (l:=p.take k) fun x hx=>hi x (Js hx)
  rw[J0] at hpl;refine Rr ?_;rw[hd];by_cases hlt:k<p.length
  ·rw[JX hlt];have ek:=fX hlt;have hk1:=uT p[k] (hi _ (JQ hlt));have hk2:=cY (hi _ (JQ hlt));have hk3:bY (p.take (k+1))=bY (p.take k)++32::Lib.itoa p[k]:=by rw[JR hlt,eZ]
   generalize bY (p.take k)=S at *;generalize Lib.itoa p[k]=c at *;generalize p[k]=x at *;refine Rr ?_;repeat((first|refine aD ek ?_|refine aH ?_);refine Rr ?_)
   refine hk1.use a7 xA nn ?_;refine Rr ?_;repeat((first|refine aM (JD (by simp;omega)) ?_|refine aH ?_);refine Rr ?_)
   exact .mk (k+1) [] om (aV ⟨⟨_,rfl,.eq nn (by rw[hk3];simp)⟩,aT np,aK,⟨_,rfl,.w64 om ⟨om,om⟩⟩,trivial⟩) om
  ·rw[JZ hlt];refine Rr ?_;have:k=p.length:=om;subst this;exact dN (r':=.str _) (.eq nn (by rw[Jr])) ⟨rfl,rfl,rfl⟩
 ·refine Rr ?_;rw[show (o1 == 1)=false by simpa using h];refine Rr ?_;rw[show (o1 == 2)=false by simpa using h'];refine Rr ?_;rw[←e1 h h'];refine h2.use a7 xA nn ?_;refine Rr ?_;repeat((first|refine aM (JD (by simp;omega)) ?_|refine aH ?_);refine Rr ?_)
  refine h3.use a7 xA nn ?_;refine Rr ?_;repeat((first|refine aM (JD (by simp;omega)) ?_|refine aH ?_);refine Rr ?_)
  refine bJ.at a7 (fun k:Nat=>k<=p.length) (fun k=>⟨[(3,.str (K++32::(k2++32::(k3++58::bY (p.take k))))),(32,.il 1 (aY p)),(33,.int .i64 p.length),(34,.int .i64 k)],[],0,45⟩) (fun k=>p.length-k) 0 [] (by simp)
   (aV ⟨⟨_,rfl,.eq nn (by simp[bY])⟩,aT np,⟨_,rfl,.eq nn (by rw[lp])⟩,aK,trivial⟩) ?_
  intro k hk;have hd:decide ((k:Int)<(p.length:Int))=decide (k<p.length):=Jn.2 om;have hpl:=gE (l:=p.take k) fun x hx=>hi x (Js hx)
  rw[J0] at hpl;refine Rr ?_;rw[hd];by_cases hlt:k<p.length
  ·rw[JX hlt];have ek:=fX hlt;have hk1:=uT p[k] (hi _ (JQ hlt));have hk2:=cY (hi _ (JQ hlt));have hk3:bY (p.take (k+1))=bY (p.take k)++32::Lib.itoa p[k]:=by rw[JR hlt,eZ]
   generalize bY (p.take k)=S at *;generalize Lib.itoa p[k]=c at *;generalize p[k]=x at *;refine Rr ?_;repeat((first|refine aD ek ?_|refine aH ?_);refine Rr ?_)
   refine hk1.use a7 xA nn ?_;refine Rr ?_;repeat((first|refine aM (JD (by simp;omega)) ?_|refine aH ?_);refine Rr ?_)
   exact .mk (k+1) [] om (aV ⟨⟨_,rfl,.eq nn (by rw[hk3];simp)⟩,aT np,aK,⟨_,rfl,.w64 om ⟨om,om⟩⟩,trivial⟩) om
  ·rw[JZ hlt];refine Rr ?_;have:k=p.length:=om;subst this;exact dN (r':=.str _) (.eq nn (by rw[Jr])) ⟨rfl,rfl,rfl⟩
theorem Id(g:Gr)(hg:A8 (aI g))(hl:g.min.length<=1000000):aS prog [] 8 [eJ g] (.str (dA (aI g))):=by
 have ng:=eI g;have h1:=uE g.oc.kind hg.2.1;have h2:=uE g.oc.at_ hg.2.2.1;have h3:=uE g.oc.code hg.2.2.2;have hi:∀x∈g.min,i64 x:=hg.1;have e1:=yT (k:=g.oc.kind);have e2:g.oc.kind=1->jO g.oc.kind=[102,97,105,108,101,100]:=fun h=>by rw[h];rfl
 have e3:g.oc.kind=2->jO g.oc.kind=[98,114,111,107,101]:=fun h=>by rw[h];rfl
 have l0:=yY hg.2.1;have l2:=cY hg.2.2.1;have l3:=cY hg.2.2.2
 show aS prog [] 8 [eJ g] (.str (jO g.oc.kind++32::(Lib.itoa g.oc.at_++32::(Lib.itoa g.oc.code++58::bY g.min))))
 obtain⟨p,⟨o1,o2,o3⟩,fs⟩:=g;simp only[aI] at *;generalize jO o1=K at *;generalize Lib.itoa o1=k1 at *;generalize Lib.itoa o2=k2 at *;generalize Lib.itoa o3=k3 at *;have np:NN (.il 1 (aY p)):=.il' (aU p);have lp:=bB p;refine aR fS func8 rfl ?_;refine Rr ?_;refine h1.go ?_;have hk:o1=1∨o1=2∨(¬o1=1/\¬o1=2):=om;rcases hk with h|h|⟨h,h'⟩
 ·subst h;refine Rr ?_;rw[←e2 rfl];repeat((first|refine aM (JD (by simp;omega)) ?_|refine aH ?_);refine Rr ?_)
  refine h2.go ?_;refine Rr ?_;repeat((first|refine aM (JD (by simp;omega)) ?_|refine aH ?_);refine Rr ?_)
  refine h3.go ?_;refine Rr ?_;repeat((first|refine aM (JD (by simp;omega)) ?_|refine aH ?_);refine Rr ?_)
  refine bJ.at fS (fun k:Nat=>k<=p.length) (fun k=>⟨[(1,.ptr 0 0 0),(3,.str (K++32::(k2++32::(k3++58::bY (p.take k))))),(4,.int .i64 k)],[(0,.row 37 5 [eJ ⟨p,⟨1,o2,o3⟩,fs⟩])],1,48⟩) (fun k=>p.length-k) 0 [(0,0)] (by simp)
   (bN _ rfl ⟨eN 0 (.cons ng .nil),trivial⟩ ⟨lM,⟨_,rfl,.eq nn (by simp[bY])⟩,aK,trivial⟩) ?_
  intro k hk;have hd:decide ((k:Int)<((aY p).length:Int))=decide (k<p.length):=by rw[lp];exact Jn.2 om
  have hpl:=gE (l:=p.take k) fun x hx=>hi x (Js hx)
  rw[J0] at hpl;refine Rr ?_;rw[hd];by_cases hlt:k<p.length
  ·rw[JX hlt];have ek:=fX hlt;have hk1:=uE p[k] (hi _ (JQ hlt));have hk2:=cY (hi _ (JQ hlt));have hk3:bY (p.take (k+1))=bY (p.take k)++32::Lib.itoa p[k]:=by rw[JR hlt,eZ]
   generalize bY (p.take k)=S at *;generalize Lib.itoa p[k]=c at *;generalize p[k]=x at *;refine Rr ?_;repeat((first|refine aD ek ?_|refine aM (JD (by simp;omega)) ?_|refine aH ?_);refine Rr ?_)
   refine hk1.go ?_;refine Rr ?_;repeat((first|refine aD ek ?_|refine aM (JD (by simp;omega)) ?_|refine aH ?_);refine Rr ?_)
   exact .mk (k+1) [(0,0)] om (bN _ rfl ⟨eN 0 (.cons ng .nil),trivial⟩ ⟨lM,⟨_,rfl,.eq nn (by rw[hk3];simp)⟩,⟨_,rfl,.w64 om ⟨om,om⟩⟩,trivial⟩) om
  ·rw[JZ hlt];refine Rr ?_;have:k=p.length:=om;subst this;exact dN (r':=.str _) (.eq nn (by rw[Jr])) ⟨rfl,rfl,rfl⟩
 ·subst h;refine Rr ?_;rw[←e3 rfl];repeat((first|refine aM (JD (by simp;omega)) ?_|refine aH ?_);refine Rr ?_)
  refine h2.go ?_;refine Rr ?_;repeat((first|refine aM (JD (by simp;omega)) ?_|refine aH ?_);refine Rr ?_)
  refine h3.go ?_;refine Rr ?_;repeat((first|refine aM (JD (by simp;omega)) ?_|refine aH ?_);refine Rr ?_)
  refine bJ.at fS (fun k:Nat=>k<=p.length) (fun k=>⟨[(1,.ptr 0 0 0),(3,.str (K++32::(k2++32::(k3++58::bY (p.take k))))),(4,.int .i64 k)],[(0,.row 37 5 [eJ ⟨p,⟨2,o2,o3⟩,fs⟩])],1,48⟩) (fun k=>p.length-k) 0 [(0,0)] (by simp)
   (bN _ rfl ⟨eN 0 (.cons ng .nil),trivial⟩ ⟨lM,⟨_,rfl,.eq nn (by simp[bY])⟩,aK,trivial⟩) ?_
  intro k hk;have hd:decide ((k:Int)<((aY p).length:Int))=decide (k<p.length):=by rw[lp];exact Jn.2 om
  have hpl:=gE (l:=p.take k) fun x hx=>hi x (Js hx)
  rw[J0] at hpl;refine Rr ?_;rw[hd];by_cases hlt:k<p.length
  ·rw[JX hlt];have ek:=fX hlt;have hk1:=uE p[k] (hi _ (JQ hlt));have hk2:=cY (hi _ (JQ hlt));have hk3:bY (p.take (k+1))=bY (p.take k)++32::Lib.itoa p[k]:=by rw[JR hlt,eZ]
   generalize bY (p.take k)=S at *;generalize Lib.itoa p[k]=c at *;generalize p[k]=x at *;refine Rr ?_;repeat((first|refine aD ek ?_|refine aM (JD (by simp;omega)) ?_|refine aH ?_);refine Rr ?_)
   refine hk1.go ?_;refine Rr ?_;repeat((first|refine aD ek ?_|refine aM (JD (by simp;omega)) ?_|refine aH ?_);refine Rr ?_)
   exact .mk (k+1) [(0,0)] om (bN _ rfl ⟨eN 0 (.cons ng .nil),trivial⟩ ⟨lM,⟨_,rfl,.eq nn (by rw[hk3];simp)⟩,⟨_,rfl,.w64 om ⟨om,om⟩⟩,trivial⟩) om
  ·rw[JZ hlt];refine Rr ?_;have:k=p.length:=om;subst this;exact dN (r':=.str _) (.eq nn (by rw[Jr])) ⟨rfl,rfl,rfl⟩
 ·refine Rr ?_;rw[show (o1 == 1)=false by simpa using h];refine Rr ?_;rw[show (o1 == 2)=false by simpa using h'];refine Rr ?_;rw[←e1 h h'];repeat((first|refine aM (JD (by simp;omega)) ?_|refine aH ?_);refine Rr ?_)
  refine h2.go ?_;refine Rr ?_;repeat((first|refine aM (JD (by simp;omega)) ?_|refine aH ?_);refine Rr ?_)
  refine h3.go ?_;refine Rr ?_;repeat((first|refine aM (JD (by simp;omega)) ?_|refine aH ?_);refine Rr ?_)
  refine bJ.at fS (fun k:Nat=>k<=p.length) (fun k=>⟨[(1,.ptr 0 0 0),(3,.str (K++32::(k2++32::(k3++58::bY (p.take k))))),(4,.int .i64 k)],[(0,.row 37 5 [eJ ⟨p,⟨o1,o2,o3⟩,fs⟩])],1,48⟩) (fun k=>p.length-k) 0 [(0,0)] (by simp)
   (bN _ rfl ⟨eN 0 (.cons ng .nil),trivial⟩ ⟨lM,⟨_,rfl,.eq nn (by simp[bY])⟩,aK,trivial⟩) ?_
  intro k hk;have hd:decide ((k:Int)<((aY p).length:Int))=decide (k<p.length):=by rw[lp];exact Jn.2 om
  have hpl:=gE (l:=p.take k) fun x hx=>hi x (Js hx)
  rw[J0] at hpl;refine Rr ?_;rw[hd];by_cases hlt:k<p.length
  ·rw[JX hlt];have ek:=fX hlt;have hk1:=uE p[k] (hi _ (JQ hlt));have hk2:=cY (hi _ (JQ hlt));have hk3:bY (p.take (k+1))=bY (p.take k)++32::Lib.itoa p[k]:=by rw[JR hlt,eZ]
   generalize bY (p.take k)=S at *;generalize Lib.itoa p[k]=c at *;generalize p[k]=x at *;refine Rr ?_;repeat((first|refine aD ek ?_|refine aM (JD (by simp;omega)) ?_|refine aH ?_);refine Rr ?_)
   refine hk1.go ?_;refine Rr ?_;repeat((first|refine aD ek ?_|refine aM (JD (by simp;omega)) ?_|refine aH ?_);refine Rr ?_)
   exact .mk (k+1) [(0,0)] om (bN _ rfl ⟨eN 0 (.cons ng .nil),trivial⟩ ⟨lM,⟨_,rfl,.eq nn (by rw[hk3];simp)⟩,⟨_,rfl,.w64 om ⟨om,om⟩⟩,trivial⟩) om
  ·rw[JZ hlt];refine Rr ?_;have:k=p.length:=om;subst this;exact dN (r':=.str _) (.eq nn (by rw[Jr])) ⟨rfl,rfl,rfl⟩
set_option maxHeartbeats 16000000
theorem Bu(l:List Fl)(f:Fl):aX (l++[f])=aX l++[gS f]:=by simp[aX]
set_option maxHeartbeats 16000000
theorem B6(l:List Gr)(f:Gr):a8 (l++[f])=a8 l++[eJ f]:=by simp[a8]
structure GB(g:Gr):Prop where
 min:g.min.length<=1000000
 fs:g.fs.length<=1000000
 path:∀f∈g.fs,f.path.length<=1000000
set_option maxHeartbeats 16000000
def FT(l:List Gr):Nat:=(l.flatMap (·.fs)).length
theorem F0{l m:List Gr}(h:NF l)(hk:∀k,lL l k↔lL m k)(hf:∀k f,gO l k f↔gO m k f):l.length<=m.length/\∀g∈l,g.fs.length<=FT m:=by
 constructor
 ·have:=gC (l:=l.map aI) (m:=m.map aI) (h.1.imp fun {a b} hab e=>by subst e;rw[fQ.refl] at hab;omega) fun k hk'=>by
   rw[JM] at hk' ⊢;exact(hk k).1 hk'
  simpa using this
 ·intro g hg;refine gC ((h.2 g hg).imp fun {a b} hab e=>by subst e;rw[rT.refl] at hab;omega) fun f hf'=>?_
  obtain⟨g',h1,_,h2⟩:=(hf (aI g) f).1 ⟨g,hg,rfl,hf'⟩;exact List.mem_flatMap.2 ⟨g',h1,h2⟩
theorem sK(l m:List Gr):FT (l++m)=FT l+FT m:=by unfold FT;rw[List.flatMap_append,Jz]
theorem D5(l:List Gr)(k:Nat):FT (l.take k)<=FT l:=by
 have:=sK (l.take k) (l.drop k);rw[Ka] at this;omega
theorem yQ(l:List Gr):(hU l).length<=l.length/\∀g∈hU l,g.fs.length<=FT l:=by
 obtain⟨h1,h2,h3⟩:=qC l;exact F0 h1 h2 h3
set_option maxHeartbeats 16000000
instance:Inhabited Fl:=⟨⟨[],⟨0,0,0⟩⟩⟩
instance:Inhabited Gr:=⟨⟨[],⟨0,0,0⟩,[]⟩⟩
theorem GJ{a b c:Bool}{n m k:Nat}(ha:a=true)(hb:b=true)(hc:c=true)(h1:0<n)(h2:m<=k):(a && (b && (c && (Nat.blt 0 n && Nat.ble m k))))=true:=by
 rw[ha,hb,hc,JD h2,show Nat.blt 0 n=true from JD h1];rfl
theorem uR(l:List Fl):aX l=l.map gS:=rfl
theorem lC(l:List Fl)(i:Nat):(aX l)[i]? = (l[i]?).map gS:=by simp[aX]
theorem CO(l:List Fl)(i:Nat)(v:Fl):aX (l.set i v)=(aX l).set i (gS v):=by simp[aX,List.map_set]
theorem yM{l:List Fl}{k n:Nat}(h:k<l.length)(hn:l.length=n):∃a b c d,Fl.mk a ⟨b,c,d⟩∈l/\l[k]? = some (Fl.mk a ⟨b,c,d⟩)/\l[k]=Fl.mk a ⟨b,c,d⟩/\(aX l)[0+(k:Int).toNat]? = some (gS (Fl.mk a ⟨b,c,d⟩))/\Nat.blt (k:Int).toNat n=true:=by
 obtain⟨⟨a,⟨b,c,d⟩⟩,hf⟩:∃f,f=l[k]:=⟨_,rfl⟩
 have hg:l[k]? = some (Fl.mk a ⟨b,c,d⟩):=by rw[hf];exact I9 h
 exact⟨a,b,c,d,Je hg,hg,hf.symm,by rw[Jx,Jd,lC,hg];rfl,JD (by simp;omega)⟩
theorem HQ:NN (.fn (.func 27) [] [.ip (.fn (.func 21) [] [])]):=.fn _ _ _ (by simp) (fun j c h=>by
 match j,h with
 | 0,h=>simp at h;subst h;exact .ip' (.fn _ _ _ (by simp) (by simp))
 | j+1,h=>simp at h)
theorem Dq(l:List Fl)(hl:l.length<=4294967296)(hok:∀v∈l,v.path.length<=4294967296) :
    aC prog [] 26 [.sl 0 0 l.length,.fn (.func 27) [] [.ip (.fn (.func 21) [] [])]] [(0,.row 57 4 (aX l))] 1 fun r m n=>
      n=1/\∃ys,r = .sl 0 0 (eB cK l l.length).length/\m=[(0,.row 57 4 ys)]/\hE ys/\ys.take (eB cK l l.length).length=aX (eB cK l l.length)/\(eB cK l l.length).length<=ys.length:=by
  have nf:=HQ;have hlen:=cD l;have hd1:decide (((l.length:Nat):Int)<2)=decide (l.length<2):=Jn.2 om;refine aR fS func26 rfl ?_;have hl1:l=[]∨l.length=1∨2<=l.length:=by
    rcases JK l.length 2 with h|h
    · rcases JK l.length 1 with h'|h'
      · left;exact JF om
      · right;left;omega
    · exact .inr (.inr h)
  have hall:(∀j,j<l.length->jK cK l j=true)->eB cK l l.length=l:=fun h=>by rw[sB _ (JG _) h,Jr]
  refine Rr ?_;rw[hd1];by_cases h2:l.length<2
  · rw[JX h2]
    have he:=hall fun j hj=>by
      have:j=0:=om;subst this;rfl
    rw[he];refine Rr ?_;exact oW (r':=.sl 0 0 l.length) (m':=[(0,.row 57 4 (aX l))]) (n':=1) [(0,0)] rfl ⟨eN 0 (aZ _),trivial⟩ (.sl 0 0 0 _ rfl) ⟨rfl,aX l,rfl,rfl,aZ l,by rw[KE om],om⟩
  · rw[JZ h2]
    refine Rr ?_;refine bJ.at fS (fun p:Nat=>p+1<=l.length/\∀j,j<p+1->jK cK l j=true)
      (fun p=>⟨[(0,.sl 0 0 l.length),(1,.fn (.func 27) [] [.ip (.fn (.func 21) [] [])]),(5,.int .i64 ((p+1:Nat):Int))],[(0,.row 57 4 (aX l))],1,66⟩)
      (fun p=>l.length-p) 0 [(0,0)] ⟨om,fun j hj=>by have:j=0:=om;subst this;rfl⟩
      (bN _ rfl ⟨eN 0 (aZ _),trivial⟩ ⟨⟨_,rfl,.slE rfl rfl⟩,aT nf,aK,trivial⟩) ?_
    rintro p ⟨p1,p2⟩;have hdp:decide (((p+1:Nat):Int)<(l.length:Int))=decide (p+1<l.length):=Jn.2 om;by_cases hp:p+1<l.length
    · have hw:IntKind.i64.wrap (((p+1:Nat):Int)-1)=(p:Int):=by rw[dI ⟨om,om⟩];omega
      obtain⟨a1,a2,a3,a4,am,ag,-,ea,ba⟩:=yM (l:=l) (k:=p) (n:=l.length) om rfl;obtain⟨b1,b2,b3,b4,bm,bg,-,eb,bb⟩:=yM (l:=l) (k:=p+1) (n:=l.length) om rfl;have hc:=Gn (.mk b1 ⟨b2,b3,b4⟩) (.mk a1 ⟨a2,a3,a4⟩) (hok _ bm);have hkeep:jK cK l (p+1) = !(cK (.mk b1 ⟨b2,b3,b4⟩) (.mk a1 ⟨a2,a3,a4⟩) == 0):=by simp only[jK];rw[bg,ag]
      generalize (cK (.mk b1 ⟨b2,b3,b4⟩) (.mk a1 ⟨a2,a3,a4⟩) == 0)=c at *;refine Rr ?_;rw[hdp,JX hp];refine Rr ?_;repeat((first|refine aM bb ?_|refine aD eb ?_);refine Rr ?_)
      have hz0:decide (0<=(p:Int))=true:=JX om;rw[hw,hz0];refine Rt ?_;repeat((first|refine aM ba ?_|refine aD ea ?_);refine Rt ?_)
      refine hc.go ?_;refine Rt ?_;cases c with
      | false=>
        refine Rr ?_;exact .mk (p+1) [(0,0)] ⟨om,fun j hj=>by
            rcases JK j (p+1) with h|h
            · exact p2 j h
            · have:j=p+1:=om
              rw[this,hkeep];rfl⟩
          (bN _ rfl ⟨eN 0 (aZ _),trivial⟩ ⟨⟨_,rfl,.slE rfl rfl⟩,aT nf,⟨_,rfl,.w64 om ⟨om,om⟩⟩,trivial⟩) om
      | true=>
        refine Rr ?_;refine aM (rJ (by simp;omega) om om) ?_;refine Rr ?_;have ho:0+((p+1:Nat):Int).toNat=p+1:=om;have hn:l.length-((p+1:Nat):Int).toNat=l.length-(p+1):=om;rw[ho,hn];have hfst:eB cK l (p+1)=l.take (p+1):=sB _ om p2;have hded:eB cK l (p+1+1)=l.take (p+1):=by
          rw[eB,bg];simp only;rw[JJ (by rw[hkeep];simp),hfst]
        refine bJ.at fS (fun x:Nat × List Fl × Nat=>x.1+1<=l.length-(p+1)/\x.2.1.length=l.length/\x.2.1.take x.2.2=eB cK l (p+1+(x.1+1))/\x.2.1.drop (p+1+x.1)=l.drop (p+1+x.1)/\x.2.2<=p+1+x.1)
          (fun x=>⟨[(0,.sl 0 0 l.length),(1,.fn (.func 27) [] [.ip (.fn (.func 21) [] [])]),(5,.int .i64 x.2.2),(6,.sl 0 (p+1) (l.length-(p+1))),(7,.int .i64 ((x.1+1:Nat):Int))],[(0,.row 57 4 (aX x.2.1))],1,66⟩)
          (fun x=>l.length-x.1) (0,l,p+1) [(0,0)] ⟨by simp only;omega,rfl,by simp only;exact hded.symm,rfl,by simp only;omega⟩
          (bN _ rfl ⟨eN 0 (aZ _),trivial⟩ ⟨⟨_,rfl,.slE rfl rfl⟩,aT nf,aK,⟨_,rfl,.slE rfl rfl⟩,aK,trivial⟩) ?_
        clear ea ba eb bb hc hkeep ag bg am bm;rintro⟨q,z,c⟩ ⟨q1,q2,q3,q4,q5⟩;simp only at q1 q2 q3 q4 q5 ⊢;have hzl:=cD z;have hdq:decide (((q+1:Nat):Int)<((l.length-(p+1):Nat):Int))=decide (q+1<l.length-(p+1)):=Jn.2 om;by_cases hq:q+1<l.length-(p+1)
        · have hw1:IntKind.i64.wrap (((q+1:Nat):Int)-1)=(q:Int):=by rw[dI ⟨om,om⟩];omega
          have hw2:IntKind.i64.wrap ((c:Int)+1)=((c+1:Nat):Int):=by rw[dI ⟨om,om⟩];omega
          have zq:decide (0<=(q:Int))=true:=JX om;have zq1:decide (0<=((q+1:Nat):Int))=true:=JX om;have hat:∀k,p+1+q<=k->z[k]? = l[k]? := fun k hk=>by
            have:=congrArg (fun y=>y[k-(p+1+q)]?) q4;simp only[Jc] at this
            rwa [show p+1+q+(k-(p+1+q))=k by omega] at this
          obtain⟨⟨a1,⟨a2,a3,a4⟩⟩,hae⟩:∃a,a=l[p+1+q]:=⟨_,rfl⟩
          obtain⟨⟨b1,⟨b2,b3,b4⟩⟩,hbe⟩:∃b,b=l[p+1+(q+1)]:=⟨_,rfl⟩
          have ag:l[p+1+q]? = some (.mk a1 ⟨a2,a3,a4⟩):=by rw[hae];exact I9 om
          have bg:l[p+1+(q+1)]? = some (.mk b1 ⟨b2,b3,b4⟩):=by rw[hbe];exact I9 om
          have bm:Fl.mk b1 ⟨b2,b3,b4⟩∈l:=Je bg;have ea:(aX z)[p+1+(q:Int).toNat]? = some (gS (.mk a1 ⟨a2,a3,a4⟩)):=by rw[Jx,lC,hat _ om,ag];rfl
          have eb:(aX z)[p+1+((q+1:Nat):Int).toNat]? = some (gS (.mk b1 ⟨b2,b3,b4⟩)):=by rw[Jx,lC,hat _ om,bg];rfl
          have ba:Nat.blt (q:Int).toNat (l.length-(p+1))=true:=JD (by simp;omega);have bb:Nat.blt ((q+1:Nat):Int).toNat (l.length-(p+1))=true:=JD (by simp;omega);have hc:=Gn (.mk b1 ⟨b2,b3,b4⟩) (.mk a1 ⟨a2,a3,a4⟩) (hok _ bm);have hkeep:jK cK l (p+1+(q+1)) = !(cK (.mk b1 ⟨b2,b3,b4⟩) (.mk a1 ⟨a2,a3,a4⟩) == 0):=by
            rw[show p+1+(q+1)=(p+1+q)+1 by omega] at bg ⊢;simp only[jK];rw[bg,ag]
          have hnext:eB cK l (p+1+(q+1+1))=if jK cK l (p+1+(q+1))=true then eB cK l (p+1+(q+1))++[.mk b1 ⟨b2,b3,b4⟩] else eB cK l (p+1+(q+1)):=by
            rw[show p+1+(q+1+1)=(p+1+(q+1))+1 by omega,eB,bg]
          generalize (cK (.mk b1 ⟨b2,b3,b4⟩) (.mk a1 ⟨a2,a3,a4⟩) == 0)=e at *;refine Rr ?_;rw[hdq,JX hq];refine Rr ?_;repeat((first|refine aM bb ?_|refine aD eb ?_);refine Rr ?_)
          rw[hw1,zq];refine Rt ?_;repeat((first|refine aM ba ?_|refine aD ea ?_);refine Rt ?_)
          refine hc.go ?_;refine Rt ?_;cases e with
          | true=>
            rw[hkeep,JJ (by simp)] at hnext;refine Rr ?_;exact .mk (q+1,z,c) [(0,0)] ⟨by simp only;omega,q2,by simp only;rw[q3,hnext],by
                simp only;have:=congrArg (List.drop 1) q4;rw[K7,K7] at this;exact this,by simp only;omega⟩
              (bN _ rfl ⟨eN 0 (aZ _),trivial⟩ ⟨⟨_,rfl,.slE rfl rfl⟩,aT nf,aK,⟨_,rfl,.slE rfl rfl⟩,⟨_,rfl,.w64 (by simp only;omega) ⟨om,om⟩⟩,trivial⟩) (by simp only;omega)
          | false=>
            rw[hkeep,JL (by simp)] at hnext;have zc:decide (0<=(c:Int))=true:=JX om;refine Rr ?_;repeat((first|refine aM bb ?_|refine aD eb ?_);refine Rr ?_)
            have hcl:c<z.length:=om;obtain⟨⟨d1,⟨d2,d3,d4⟩⟩,hde⟩:∃d,d=z[c]:=⟨_,rfl⟩
            have dg:z[c]? = some (.mk d1 ⟨d2,d3,d4⟩):=by rw[hde];exact I9 hcl
            have ed:(aX z)[0+(c:Int).toNat]? = some (gS (.mk d1 ⟨d2,d3,d4⟩)):=by rw[Jx,Jd,lC,dg];rfl
            have bc:Nat.blt (c:Int).toNat l.length=true:=JD (by simp;omega);refine Rs ?_;repeat((first|refine aM bc ?_|refine aD ed ?_);refine Rt ?_)
            have hset:aX (z.set c (.mk b1 ⟨b2,b3,b4⟩))=(aX z).set (0+(c:Int).toNat) (gS (.mk b1 ⟨b2,b3,b4⟩)):=by rw[CO,Jx,Jd]
            exact .mk (q+1,z.set c (.mk b1 ⟨b2,b3,b4⟩),c+1) [(0,0)] ⟨by simp only;omega,by simp only;rw[Km];exact q2,by
                simp only;rw[JR (by rw[Km];exact hcl),List.getElem_set_self,List.take_set_of_le (JG c),q3,hnext],by
                simp only;have:=congrArg (List.drop 1) q4;rw[K7,K7] at this;rw[List.drop_set_of_lt om];exact this,by simp only;omega⟩
              (bN _ rfl ⟨⟨0,_,rfl,rfl,.eq (aZ _) hset.symm⟩,trivial⟩ ⟨⟨_,rfl,.slE rfl rfl⟩,aT nf,⟨_,rfl,.int hw2⟩,⟨_,rfl,.slE rfl rfl⟩,⟨_,rfl,.w64 (by simp only;omega) ⟨om,om⟩⟩,trivial⟩) (by simp only;omega)
        · have hqe:p+1+(q+1)=l.length:=om
          rw[hqe] at q3;have hcz:c<=z.length:=om;have hcd:(eB cK l l.length).length=c:=by rw[←q3,J0];omega
          rw[hcd];refine Rr ?_;rw[hdq,JZ hq];refine Rr ?_;refine aM (rJ (by simp;omega) om om) ?_;refine Rr ?_;refine aM (GJ rfl rfl rfl om om) ?_;refine Rr ?_;refine aM (rJ om (by simp;omega) om) ?_;refine Rr ?_;obtain⟨ys,hye⟩:∃ys,ys=List.take (0+(c:Int).toNat) (aX z)++(List.replicate (l.length-(c:Int).toNat) (AV.agg [.nsl,.int .i64 0,.int .i64 0,.int .i64 0])++List.drop (0+(c:Int).toNat+(l.length-(c:Int).toNat)) (aX z)):=⟨_,rfl⟩
          rw[←hye];have hzn:=aZ z;have htl:(List.take (0+(c:Int).toNat) (aX z)).length=c:=by rw[J0];omega
          have hys:hE ys:=fun x hx=>by
            rw[hye] at hx;rcases JI.1 hx with hx|hx
            · exact hzn x (Js hx)
            · rcases JI.1 hx with hx|hx
              · rw[List.eq_of_mem_replicate hx];exact .agg' (.cons .nsl (.cons nn (.cons nn (.cons nn .nil))))
              · exact hzn x (List.mem_of_mem_drop hx)
          have hyt:ys.take c=aX (eB cK l l.length):=by
            rw[hye,KQ om,List.take_take,←q3,uR,uR,List.map_take];congr 1;omega
          have hyl:c<=ys.length:=by rw[hye,Jz,htl];omega
          exact oW (r':=.sl 0 0 c) (m':=[(0,.row 57 4 ys)]) (n':=1) [(0,0)] rfl ⟨eN 0 hys,trivial⟩ (.slE rfl om) ⟨rfl,ys,rfl,rfl,hys,hyt,hyl⟩
    · have hpe:p+1=l.length:=om
      have he:=hall fun j hj=>p2 j om
      rw[he];refine Rr ?_;rw[hdp,JZ hp];refine Rr ?_;exact oW (r':=.sl 0 0 l.length) (m':=[(0,.row 57 4 (aX l))]) (n':=1) [(0,0)] rfl ⟨eN 0 (aZ _),trivial⟩ (.sl 0 0 0 _ rfl) ⟨rfl,aX l,rfl,rfl,aZ l,by rw[KE om],om⟩
end Go.Proofs.YtnbkfjjdlofdpaaGreatDoor
namespace Go.Proofs
open Go.Shelf
def Tryz.laysSlsfz6_f25_ren:Go.Shelf.Ren:=⟨fun|6=>25|15=>39|14=>38|28=>59|29=>60|20=>51|21=>52|22=>53|23=>54|24=>55|25=>56|26=>57|27=>58|46=>88|47=>89|48=>90|49=>91|50=>92|57=>110|n=>n,fun|22=>31|24=>57|25=>61|3=>3|39=>87|0=>0|53=>108|55=>110|4=>4|46=>101|45=>100|50=>105|5=>5|9=>9|66=>143|70=>147|76=>170|77=>171|n=>n,fun|n=>n⟩
theorem Tryz.laysSlsfz6_f25:Go.Proofs.SlLaysF0.n6 Tryz.prog Tryz.laysSlsfz6_f25_ren:={
 mixed:=by kernel_rfl
 f6:=⟨Tryz.f25.name,by decide,Tryz.func25.trans (congrArg some (by kernel_rfl))⟩
 f14:=⟨Tryz.f38.name,by decide,Tryz.func38.trans (congrArg some (by kernel_rfl))⟩
 f15:=Tryz.func39.trans (congrArg some (by kernel_rfl))
 f20:=⟨Tryz.f51.name,by decide,Tryz.func51.trans (congrArg some (by kernel_rfl))⟩
 f21:=⟨Tryz.f52.name,by decide,Tryz.func52.trans (congrArg some (by kernel_rfl))⟩
 f22:=⟨Tryz.f53.name,by decide,Tryz.func53.trans (congrArg some (by kernel_rfl))⟩
 f23:=⟨Tryz.f54.name,by decide,Tryz.func54.trans (congrArg some (by kernel_rfl))⟩
 f24:=⟨Tryz.f55.name,by decide,Tryz.func55.trans (congrArg some (by kernel_rfl))⟩
 f25:=⟨Tryz.f56.name,by decide,Tryz.func56.trans (congrArg some (by kernel_rfl))⟩
 f26:=⟨Tryz.f57.name,by decide,Tryz.func57.trans (congrArg some (by kernel_rfl))⟩
 f27:=⟨Tryz.f58.name,by decide,Tryz.func58.trans (congrArg some (by kernel_rfl))⟩
 f28:=Tryz.func59.trans (congrArg some (by kernel_rfl))
 f29:=Tryz.func60.trans (congrArg some (by kernel_rfl))
 f46:=⟨Tryz.f88.name,by decide,Tryz.func88.trans (congrArg some (by kernel_rfl))⟩
 f47:=Tryz.func89.trans (congrArg some (by kernel_rfl))
 f48:=Tryz.func90.trans (congrArg some (by kernel_rfl))
 f49:=⟨Tryz.f91.name,by decide,Tryz.func91.trans (congrArg some (by kernel_rfl))⟩
 f50:=⟨Tryz.f92.name,by decide,Tryz.func92.trans (congrArg some (by kernel_rfl))⟩
 f57:=⟨Tryz.f110.name,by decide,Tryz.func110.trans (congrArg some (by kernel_rfl))⟩
 t0:=Tryz.underlying0
 a0:=Tryz.isAgg0
 z0:=Tryz.sizeOf0
 v0:=Tryz.zeroValue0
 t3:=Tryz.underlying3
 a3:=Tryz.isAgg3
 z3:=Tryz.sizeOf3
 v3:=Tryz.zeroValue3
 t4:=Tryz.underlying4
 a4:=Tryz.isAgg4
 z4:=Tryz.sizeOf4
 v4:=Tryz.zeroValue4
 t5:=Tryz.underlying5
 a5:=Tryz.isAgg5
 z5:=Tryz.sizeOf5
 v5:=Tryz.zeroValue5
 t9:=Tryz.underlying9
 a9:=Tryz.isAgg9
 z9:=Tryz.sizeOf9
 v9:=Tryz.zeroValue9
 t22:=Tryz.underlying31
 a22:=Tryz.isAgg31
 z22:=Tryz.sizeOf31
 v22:=Tryz.zeroValue31
 t25:=Tryz.underlying61
 a25:=Tryz.isAgg61
 z25:=Tryz.sizeOf61
 v25:=Tryz.zeroValue61
 t39:=Tryz.underlying87
 a39:=Tryz.isAgg87
 z39:=Tryz.sizeOf87
 v39:=Tryz.zeroValue87
 t45:=Tryz.underlying100
 a45:=Tryz.isAgg100
 z45:=Tryz.sizeOf100
 v45:=Tryz.zeroValue100
 t46:=Tryz.underlying101
 a46:=Tryz.isAgg101
 z46:=Tryz.sizeOf101
 v46:=Tryz.zeroValue101
 t50:=Tryz.underlying105
 a50:=Tryz.isAgg105
 z50:=Tryz.sizeOf105
 v50:=Tryz.zeroValue105
 t53:=Tryz.underlying108
 a53:=Tryz.isAgg108
 z53:=Tryz.sizeOf108
 v53:=Tryz.zeroValue108
 t55:=Tryz.underlying110
 a55:=Tryz.isAgg110
 z55:=Tryz.sizeOf110
 v55:=Tryz.zeroValue110
 t66:=Tryz.underlying143
 a66:=Tryz.isAgg143
 z66:=Tryz.sizeOf143
 v66:=Tryz.zeroValue143
 t70:=Tryz.underlying147
 a70:=Tryz.isAgg147
 z70:=Tryz.sizeOf147
 v70:=Tryz.zeroValue147
 t76:=Tryz.underlying170
 a76:=Tryz.isAgg170
 z76:=Tryz.sizeOf170
 v76:=Tryz.zeroValue170
 t77:=Tryz.underlying171
 a77:=Tryz.isAgg171
 z77:=Tryz.sizeOf171
 v77:=Tryz.zeroValue171 }
open Go.RowKit Go.Lib Go.Sort in
theorem Tryz.slices_SortFuncF{α:Type}[Inhabited α](k:Nat)(aE:∀w,(isAgg 57).run Tryz.prog w = .ok true w)(zE:∀w,(Go.sizeOf 57).run Tryz.prog w = .ok k w)(enc:α->List Value)(hk:∀x,(enc x).length=k)(h1:∀x,∀v∈enc x,v.oneCell'=true)(cf:α->α->Int)(hO:SWO (ltOf cf))(g:Nat)(cb:Array Value)(blk off cap:Nat)(d:Array α)(w:World)(eg:∀args w,(callFunc g args).run Tryz.prog w = .ok (.enter g args) w)(hcmp:CmpLays Tryz.prog g cb enc k cf blk off d.size w)(hH:HoldsK enc k w blk off d)(hblk:blk<w.heap.size)(hsz:d.size<4611686018427387904) :
  Calls Tryz.prog 25 #[.slice (some ⟨blk,off,none⟩) d.size cap,.func (.func g) #[] cb] w fun e w'=>
   e = .returned (.tuple #[])/\∃d' n os,PermIn 0 d.size d d'/\SortedIn (ltOf cf) 0 d.size d'/\w'=sortWorldK enc k w blk off n d' os:=AnyQ.slices_SortFunc Tryz.laysSlsfz6_f25 k aE zE enc hk h1 cf hO g cb blk off cap d w eg hcmp hH hblk hsz
open Go.RowKit Go.Lib Go.Sort in
theorem Tryz.slices_SortFuncF_none{α:Type}[Inhabited α](p:Option Addr)(cap:Nat)(fv:Value)(w:World) :
  Calls Tryz.prog 25 #[.slice p 0 cap,fv] w fun e w'=>e = .returned (.tuple #[])/\w'=w:=AnyF.slices_SortFunc_none Tryz.laysSlsfz6_f25 p cap fv w
end Go.Proofs
namespace Go.Proofs
open Go.Shelf
def Tryz.laysSlsfz6_f28_ren:Go.Shelf.Ren:=⟨fun|6=>28|15=>39|14=>40|28=>59|29=>60|20=>61|21=>62|22=>63|23=>64|24=>65|25=>66|26=>67|27=>68|46=>93|47=>89|48=>90|49=>94|50=>95|57=>111|n=>n,fun|22=>25|24=>33|25=>66|3=>3|39=>87|0=>0|53=>108|55=>110|4=>4|46=>101|45=>100|50=>105|5=>5|9=>9|66=>143|70=>147|76=>170|77=>171|n=>n,fun|n=>n⟩
theorem Tryz.laysSlsfz6_f28:Go.Proofs.SlLaysF0.n6 Tryz.prog Tryz.laysSlsfz6_f28_ren:={
 mixed:=by kernel_rfl
 f6:=⟨Tryz.f28.name,by decide,Tryz.func28.trans (congrArg some (by kernel_rfl))⟩
 f14:=⟨Tryz.f40.name,by decide,Tryz.func40.trans (congrArg some (by kernel_rfl))⟩
 f15:=Tryz.func39.trans (congrArg some (by kernel_rfl))
 f20:=⟨Tryz.f61.name,by decide,Tryz.func61.trans (congrArg some (by kernel_rfl))⟩
 f21:=⟨Tryz.f62.name,by decide,Tryz.func62.trans (congrArg some (by kernel_rfl))⟩
 f22:=⟨Tryz.f63.name,by decide,Tryz.func63.trans (congrArg some (by kernel_rfl))⟩
 f23:=⟨Tryz.f64.name,by decide,Tryz.func64.trans (congrArg some (by kernel_rfl))⟩
 f24:=⟨Tryz.f65.name,by decide,Tryz.func65.trans (congrArg some (by kernel_rfl))⟩
 f25:=⟨Tryz.f66.name,by decide,Tryz.func66.trans (congrArg some (by kernel_rfl))⟩
 f26:=⟨Tryz.f67.name,by decide,Tryz.func67.trans (congrArg some (by kernel_rfl))⟩
 f27:=⟨Tryz.f68.name,by decide,Tryz.func68.trans (congrArg some (by kernel_rfl))⟩
 f28:=Tryz.func59.trans (congrArg some (by kernel_rfl))
 f29:=Tryz.func60.trans (congrArg some (by kernel_rfl))
 f46:=⟨Tryz.f93.name,by decide,Tryz.func93.trans (congrArg some (by kernel_rfl))⟩
 f47:=Tryz.func89.trans (congrArg some (by kernel_rfl))
 f48:=Tryz.func90.trans (congrArg some (by kernel_rfl))
 f49:=⟨Tryz.f94.name,by decide,Tryz.func94.trans (congrArg some (by kernel_rfl))⟩
 f50:=⟨Tryz.f95.name,by decide,Tryz.func95.trans (congrArg some (by kernel_rfl))⟩
 f57:=⟨Tryz.f111.name,by decide,Tryz.func111.trans (congrArg some (by kernel_rfl))⟩
 t0:=Tryz.underlying0
 a0:=Tryz.isAgg0
 z0:=Tryz.sizeOf0
 v0:=Tryz.zeroValue0
 t3:=Tryz.underlying3
 a3:=Tryz.isAgg3
 z3:=Tryz.sizeOf3
 v3:=Tryz.zeroValue3
 t4:=Tryz.underlying4
 a4:=Tryz.isAgg4
 z4:=Tryz.sizeOf4
 v4:=Tryz.zeroValue4
 t5:=Tryz.underlying5
 a5:=Tryz.isAgg5
 z5:=Tryz.sizeOf5
 v5:=Tryz.zeroValue5
 t9:=Tryz.underlying9
 a9:=Tryz.isAgg9
 z9:=Tryz.sizeOf9
 v9:=Tryz.zeroValue9
 t22:=Tryz.underlying25
 a22:=Tryz.isAgg25
 z22:=Tryz.sizeOf25
 v22:=Tryz.zeroValue25
 t25:=Tryz.underlying66
 a25:=Tryz.isAgg66
 z25:=Tryz.sizeOf66
 v25:=Tryz.zeroValue66
 t39:=Tryz.underlying87
 a39:=Tryz.isAgg87
 z39:=Tryz.sizeOf87
 v39:=Tryz.zeroValue87
 t45:=Tryz.underlying100
 a45:=Tryz.isAgg100
 z45:=Tryz.sizeOf100
 v45:=Tryz.zeroValue100
 t46:=Tryz.underlying101
 a46:=Tryz.isAgg101
 z46:=Tryz.sizeOf101
 v46:=Tryz.zeroValue101
 t50:=Tryz.underlying105
 a50:=Tryz.isAgg105
 z50:=Tryz.sizeOf105
 v50:=Tryz.zeroValue105
 t53:=Tryz.underlying108
 a53:=Tryz.isAgg108
 z53:=Tryz.sizeOf108
 v53:=Tryz.zeroValue108
 t55:=Tryz.underlying110
 a55:=Tryz.isAgg110
 z55:=Tryz.sizeOf110
 v55:=Tryz.zeroValue110
 t66:=Tryz.underlying143
 a66:=Tryz.isAgg143
 z66:=Tryz.sizeOf143
 v66:=Tryz.zeroValue143
 t70:=Tryz.underlying147
 a70:=Tryz.isAgg147
 z70:=Tryz.sizeOf147
 v70:=Tryz.zeroValue147
 t76:=Tryz.underlying170
 a76:=Tryz.isAgg170
 z76:=Tryz.sizeOf170
 v76:=Tryz.zeroValue170
 t77:=Tryz.underlying171
 a77:=Tryz.isAgg171
 z77:=Tryz.sizeOf171
 v77:=Tryz.zeroValue171 }
open Go.RowKit Go.Lib Go.Sort in
theorem Tryz.slices_SortFuncG{α:Type}[Inhabited α](k:Nat)(aE:∀w,(isAgg 33).run Tryz.prog w = .ok true w)(zE:∀w,(Go.sizeOf 33).run Tryz.prog w = .ok k w)(enc:α->List Value)(hk:∀x,(enc x).length=k)(h1:∀x,∀v∈enc x,v.oneCell'=true)(cf:α->α->Int)(hO:SWO (ltOf cf))(g:Nat)(cb:Array Value)(blk off cap:Nat)(d:Array α)(w:World)(eg:∀args w,(callFunc g args).run Tryz.prog w = .ok (.enter g args) w)(hcmp:CmpLays Tryz.prog g cb enc k cf blk off d.size w)(hH:HoldsK enc k w blk off d)(hblk:blk<w.heap.size)(hsz:d.size<4611686018427387904) :
  Calls Tryz.prog 28 #[.slice (some ⟨blk,off,none⟩) d.size cap,.func (.func g) #[] cb] w fun e w'=>
   e = .returned (.tuple #[])/\∃d' n os,PermIn 0 d.size d d'/\SortedIn (ltOf cf) 0 d.size d'/\w'=sortWorldK enc k w blk off n d' os:=AnyQ.slices_SortFunc Tryz.laysSlsfz6_f28 k aE zE enc hk h1 cf hO g cb blk off cap d w eg hcmp hH hblk hsz
open Go.RowKit Go.Lib Go.Sort in
theorem Tryz.slices_SortFuncG_none{α:Type}[Inhabited α](p:Option Addr)(cap:Nat)(fv:Value)(w:World) :
  Calls Tryz.prog 28 #[.slice p 0 cap,fv] w fun e w'=>e = .returned (.tuple #[])/\w'=w:=AnyF.slices_SortFunc_none Tryz.laysSlsfz6_f28 p cap fv w
end Go.Proofs
namespace Go.Ax
open Go
def oB(arr:Array Value)(k n:Nat)(i:Nat):List Value:=(List.range k).map fun j=>arr.getD (min i (n-1)*k+j) undef
theorem zM(arr:Array Value)(k n i:Nat):(oB arr k n i).length=k:=by simp[oB]
theorem yI{arr:Array Value}{k n i j:Nat}(hj:j<k):(oB arr k n i)[j]? = some (arr.getD (min i (n-1)*k+j) undef):=by simp[oB,hj]
structure H2{β:Type}(xs:List β)(c:β->β->Int):Prop where
 irrefl:∀x∈xs,¬c x x<0
 trans:∀x∈xs,∀y∈xs,∀z∈xs,c x y<0->c y z<0->c x z<0
 ntrans:∀x∈xs,∀y∈xs,∀z∈xs,¬c x y<0->¬c y z<0->¬c x z<0
def DO{β:Type}(xs ys:List β)(c:β->β->Int):Prop:=ys.Perm xs/\∀(i j:Nat) (x y:β),i<j->ys[i]? = some x->ys[j]? = some y->¬c y x<0
section
variable {P:Program} {F:FuncId} {t:TypeId} {k:Nat}
open Go.Shelf Go.RowKit Go.Lib Go.Sort Go.Proofs
theorem pJ
  (hF:∀(enc:Nat->List Value) (_:∀x,(enc x).length=k) (_:∀x,∀v∈enc x,v.oneCell'=true) (cf:Nat->Nat->Int) (_:SWO (ltOf cf)) (g:Nat) (cb:Array Value) (blk off cap:Nat) (d:Array Nat) (w:World)
   (_:∀args w,(callFunc g args).run P w = .ok (.enter g args) w) (_:CmpLays P g cb enc k cf blk off d.size w) (_:HoldsK enc k w blk off d) (_:blk<w.heap.size) (_:d.size<4611686018427387904),
   Calls P F #[.slice (some ⟨blk,off,none⟩) d.size cap,.func (.func g) #[] cb] w fun e w'=>
    e = .returned (.tuple #[])/\∃d' n os,PermIn 0 d.size d d'/\SortedIn (ltOf cf) 0 d.size d'/\w'=sortWorldK enc k w blk off n d' os)
  {g:FuncId} (eg:∀args w,(callFunc g args).run P w = .ok (.enter g args) w) {β:Type} [Inhabited β] (e:β->AV) (L:List β) (h0:0<L.length) (hk0:0<k) (hlen:L.length<4611686018427387904) (hagg:∀x∈L,∃cs,e x = .agg cs) (hnn:∀x∈L,NN (e x))
  (c:β->β->Int) (hO:H2 L c) (hc:∀x∈L,∀y∈L,aS P [] g [e x,e y] (.int .i64 (c x y))) (hF0:Nat.beq F YF=false:=by rfl) (hg0:Nat.beq g YF=false:=by rfl) :
  aC P [] F [.sl 0 0 L.length,.fn (.func g) [] []] [(0,.row t k (L.map e))] 1 fun r m n=>r = .tup []/\n=1/\∃ys,DO L ys c/\m=[(0,.row t k (ys.map e))]:=by
 obtain⟨xs,hxs⟩:∃xs,xs=L.map e:=⟨_,rfl⟩
 have hxl:L.length=xs.length:=by rw[hxs];simp
 rw[←hxs,hxl];rw[hxl] at h0 hlen;refine⟨fun X D ρ w vs hD hm hv=>?_⟩;obtain⟨hl,hv⟩:=hv
 match vs,hl with
 | [s,fv],_=>
  have v0:=hv 0 _ s rfl rfl;have v1:=hv 1 _ fv rfl rfl;have hid:lk [(0,AB.row t k xs)] 0=some (.row t k xs):=rfl;have hsz:=jV hm hid;have hn:0<(ρ 0).n:=by
   rcases JT (ρ 0).n with h|h
   ·obtain⟨t',sz',e1,_⟩:=hm.emp _ (aF hid) h;injection e1 with _ _ e2;rw[e2] at h0;simp at h0
   ·exact h
  obtain⟨o,ho,hsz',arr,fr,rfl,hf,hs,hle,hrow⟩:=hm.blk _ (aF hid) hn;simp only at ho hsz' hs hle hrow;rw[hsz] at hrow hle;have hlt:=eA hm (.inr ⟨_,aF hid,hn,rfl⟩);simp only at hlt;obtain⟨n,hne⟩:∃n,n=xs.length:=⟨_,rfl⟩
  rw[←hne] at v0 h0 hlen hle;have hso:∃cap,s = .slice (some ⟨(ρ 0).b,0,none⟩) n cap:=by
   cases v0 with
   | sl _ _ _ cap _ h1 h2=>exact⟨cap,by rw[Nat.zero_mul]⟩
   | slz=>omega
   | slzn=>omega
  obtain⟨cap,rfl⟩:=hso;have hfv:fv = .func (.func g) #[] #[]:=by
   cases v1 with
   | fn f a b a1 a2 l1 l2 _ _=>
    have e1:a1 = #[]:=Jm l1.symm;have e2:a2 = #[]:=Jm l2.symm;rw[e1,e2]
  subst hfv;have hx:∀i,i<n->∃x,xs[i]? = some x/\x∈xs/\xs.getD i .junk=x:=fun i hi=>by
   refine⟨xs[i],I9 om,JQ _, ?_⟩;rw[Jw,I9 om];rfl
  have hcl:∀i,i<n->∀j,j<k->∃cv v,(xs.getD i .junk).cells[j]? = some cv/\arr[i*k+j]? = some v/\v.oneCell'=true/\VR ρ D (OX X ρ [(0,.row t k xs)]) w cv v:=fun i hi j hj=>by
   obtain⟨x,h1,h2,h3⟩:=hx i hi;obtain⟨h4,h5⟩:=hrow i x h1;rw[h3];have h6:x.cells[j]? = some x.cells[j]:=I9 om;obtain⟨v,hv1,hv2,hv3⟩:=h5 j _ h6;exact⟨_,v,h6,hv1,hv2,hv3⟩
  have hmin:∀i,min i (n-1)<n:=fun i=>om
  obtain⟨enc,henc⟩:∃enc:Nat->List Value,enc=oB arr k n:=⟨_,rfl⟩
  obtain⟨lv,hlv⟩:∃lv:Nat->β,lv=fun i=>L.getD (min i (n-1)) default:=⟨_,rfl⟩
  have hlm:∀i,lv i∈L:=fun i=>by
   have hi:=hmin i;rw[hlv];simp only;rw[Jw,I9 om];exact JQ _
  obtain⟨el,hel0⟩:∃el:Nat->AV,el=fun i=>e (lv i):=⟨_,rfl⟩
  have hel:el=fun i=>xs.getD (min i (n-1)) .junk:=by
   funext i
   have hi:=hmin i;rw[hel0,hlv,hxs];simp only;rw[Jw,Jw,Ja,I9 om];rfl
  have hek:∀x,(enc x).length=k:=fun x=>by rw[henc];exact zM _ _ _ _
  have heg:∀x j,j<k->(enc x)[j]? = some (arr.getD (min x (n-1)*k+j) undef):=fun x j hj=>by rw[henc];exact yI hj
  have he1:∀x,∀v∈enc x,v.oneCell'=true:=fun x v hv=>by
   obtain⟨j,hj,rfl⟩:=KM hv;have hj':j<k:=by rw[hek] at hj;exact hj
   obtain⟨cv,v,a1,a2,a3,a4⟩:=hcl _ (hmin x) j hj';have:=heg x j hj';rw[I9 hj] at this;rw[Option.some.inj this,Jl,a2];exact a3
  have hlarr:∀i,i<n->∀j,j<k->i*k+j<arr.size:=fun i hi j hj=>by
   obtain⟨cv,v,a1,a2,a3,a4⟩:=hcl i hi j hj;exact(J3.1 a2).1
  obtain⟨d,hd⟩:∃d:Array Nat,d=Array.range n:=⟨_,rfl⟩
  have hdn:d.size=n:=by rw[hd];simp
  have hnk:n*k<=arr.size:=by rw[hs];exact hle
  have hH:HoldsK enc k w (ρ 0).b 0 d:=by
   unfold HoldsK Holds;intro j hj;rw[size_flatK,hdn] at hj;rw[get_flatK _ _ _ _ (by rw[hdn];exact hj)];have hq:j/k<n:=Nat.div_lt_of_lt_mul (by rw[Kr];exact hj);have hr:j%k<k:=Kv _ hk0;have hdj:d[j/k]! = j/k:=by rw[hd,getElem!_pos _ _ (by simpa using hq)];simp
   rw[hdj];have hg:=heg (j/k) (j%k) hr;rw[show min (j/k) (n-1)=j/k by omega,show j/k*k+j%k=j by rw[Kr];exact Nat.div_add_mod j k] at hg;have hja:j<arr.size:=om;have e:(enc (j/k))[j%k]! = arr[j]:=by
    rw[getElem!_pos _ _ (by rw[hek];exact hr)];rw[I9 (by rw[hek];exact hr)] at hg;rw[Option.some.inj hg,Jl,Jj hja];rfl
   rw[e];constructor
   ·simp only[World.cell?,ho,Jd];rw[JJ (by simp),Jj hja];rfl
   ·simp only[World.frozen?,ho,Jd];have:=hf j hja;obtain⟨a,b⟩:=fr;simp only at this ⊢;rw[KI];simp;omega
  obtain⟨cf,hcf⟩:∃cf:Nat->Nat->Int,cf=fun x y=>c (lv x) (lv y):=⟨_,rfl⟩
  have hSW:SWO (ltOf cf):=by
   refine⟨fun x=>?_,fun x y z h1 h2=>?_,fun x y z h1 h2=>?_⟩
   ·simp only[ltOf,hcf];exact JZ (hO.irrefl _ (hlm x))
   ·simp only[ltOf,hcf] at h1 h2 ⊢;exact JX (hO.trans _ (hlm x) _ (hlm y) _ (hlm z) (JV h1) (JV h2))
   ·simp only[ltOf,hcf] at h1 h2 ⊢;exact JZ (hO.ntrans _ (hlm x) _ (hlm y) _ (hlm z) (J8 h1) (J8 h2))
  obtain⟨O,hOe⟩:∃O,O=OX X ρ [(0,.row t k xs)]:=⟨_,rfl⟩
  rw[←hOe] at hcl;have hOb:O (ρ 0).b:=by rw[hOe];exact .inr ⟨_,aF hid,hn,rfl⟩
  have hev:∀x,VR ρ D O w (el x) (.agg (enc x).toArray):=fun x=>by
   obtain⟨cs,hcs⟩:=hagg _ (hlm x);rw[show e (lv x)=el x by rw[hel0]] at hcs;obtain⟨ex,h1,h2,h3⟩:=hx _ (hmin x);have hee:ex=el x:=by rw[hel];exact h3.symm
   have hlen':=(hrow _ ex h1).1;rw[hee,hcs] at hlen';have hcl':=hcl _ (hmin x);rw[show xs.getD (min x (n-1)) .junk=el x by rw[hel],hcs] at hcl';rw[hcs];refine .agg cs _ (by have hl':cs.length=k:=hlen';rw[hl'];simp[hek]) (fun v hv=>he1 x v (by simpa using hv)) (fun j cv v hj hv=>?_);have hjk:j<k:=by have:=(JC.1 hj).1;rw[←hlen'];exact this
   obtain⟨cv',v',a1,a2,a3,a4⟩:=hcl' j hjk;have a1':cs[j]? = some cv':=a1;rw[hj] at a1';cases a1';have hvv:v=v':=by
    have:=heg x j hjk;rw[J1,this,Jl,a2] at hv;exact(Option.some.inj hv).symm
   rw[hvv];exact a4
  have hcmp:CmpLays P g #[] enc k cf (ρ 0).b 0 d.size w:=by
   intro m os dk hdk x y;have hWh:∀b,b<w.heap.size->b≠(ρ 0).b->(sortWorldK enc k w (ρ 0).b 0 m dk os).heap[b]? = w.heap[b]? := fun b hb hne=>by
    show ((w.heap.modify (ρ 0).b _)++os)[b]? = _
    rw[Kf (by simpa using hb),Ju,JJ (Ne.symm hne)]
   have hWs:w.heap.size<=(sortWorldK enc k w (ρ 0).b 0 m dk os).heap.size:=size_sortWorldK_c enc k w (ρ 0).b 0 m dk os;generalize sortWorldK enc k w (ρ 0).b 0 m dk os=W at hWh hWs ⊢;have hat:∀z,VR ρ (fun _=>False) (OX (fun _=>False) ρ []) W (el z) (.agg (enc z).toArray):=fun z=>by
    have a1:VR ρ D (fun b=>b=(ρ 0).b) w (el z) (.agg (enc z).toArray):=NN.vr (hev z) (fun b _ hb e=>hb (by rw[e];exact hOb)) (by rw[hel0];exact hnn _ (hlm z));have a2:=a1.mono (w':=W) (ρ':=ρ) (D':=D) (O':=fun b=>b=(ρ 0).b) (fun _ _=>rfl) (fun _ h=>h) (fun b hb hne=>⟨hne,hWh b hb hne⟩);exact NN.vr a2 (fun b _ _ h=>by rcases h with h|⟨p,hp,_⟩;exact h;cases hp) (by rw[hel0];exact hnn _ (hlm z))
   have hcc:=hc _ (hlm x) _ (hlm y);rw[show e (lv x)=el x by rw[hel0],show e (lv y)=el y by rw[hel0]] at hcc;have hcall:=hcc.run (fun _=>False) (fun _=>False) ρ W [.agg (enc x).toArray,.agg (enc y).toArray] (fun i h=>h.elim)
    ⟨fun p hp=>(by cases hp),fun p hp=>(by cases hp),fun p hp=>(by cases hp),fun p hp=>(by cases hp),by simp,fun b h=>h.elim,fun p hp=>(by cases hp)⟩ (.cons (hat x) (.cons (hat y) .nil))
   rw[Array.append_empty];refine(hcall.calls hg0).mono ?_;rintro e w' ⟨r,v,mem',nx',ρ',rfl,⟨rfl,rfl,rfl⟩,_,_,hr,hext⟩;cases hr;refine⟨by rw[hcf],w'.drawn-W.drawn,w'.heap.extract W.heap.size w'.heap.size, ?_⟩;have h1:=hext.env;have h2:w'.heap=W.heap++w'.heap.extract W.heap.size w'.heap.size:=by
    apply KS;intro b;rcases JK b W.heap.size with hb|hb
    ·rw[Kf hb,hext.keep b hb (fun⟨p,hp,_⟩=>by cases hp)]
    ·rw[Array.getElem?_append_right hb,Array.getElem?_extract];have:=hext.size;split
     ·congr 1;omega
     ·rw[KR om]
   have h3:W.drawn+(w'.drawn-W.drawn)=w'.drawn:=by have:=h1.drawn;omega
   cases w';unfold grow World.drewN;simp only at h1 h2 h3 ⊢;rw[h3,←h2,←h1.os,←h1.output,←h1.tape]
  have hres:=hF enc hek he1 cf hSW g #[] (ρ 0).b 0 cap d w eg hcmp hH hlt om;rw[hdn] at hres;refine .of hF0 (hres.mono ?_);rintro e w' ⟨rfl,d',q,os,⟨p1,_,p3⟩,hsort,rfl⟩;rw[hdn] at p1;have hys:∀i,i<n->d'[i]? = some d'[i]! := fun i hi=>by rw[getElem!_pos d' i om,Jj]
  have hW1:(putRowK enc k (Sort.ahead w q) (ρ 0).b 0 d').heap=w.heap.setIfInBounds (ρ 0).b (.cells (putCells id 0 (flatK enc k d') arr) t fr):=by
   apply KS;intro b
   show (w.heap.modify (ρ 0).b (Sort.onCells _))[b]? = _
   rw[Ju,KY];by_cases hk:(ρ 0).b=b
   ·subst hk;rw[JL rfl,JL rfl,JL hlt,ho];rfl
   ·rw[JJ hk,JJ hk]
  obtain⟨m1,mv,ext⟩:=hm.change (w':=putRowK enc k (Sort.ahead w q) (ρ 0).b 0 d') (xs':=d'.toList.map el) (arr:=putCells id 0 (flatK enc k d') arr) (fr:=fr) hid hn hW1 .go
   (fun j hj=>hf j (by simpa[putCells] using hj)) (by rw[←hs];simp[putCells])
   (by
    refine⟨by simp[putCells,p1];exact hnk,fun i x hi=>?_⟩;rw[Ja] at hi;obtain⟨q0,he,rfl⟩:=Jy.1 hi;have hin:i<n:=by have:=(JC.1 he).1;simpa[p1] using this
    have hde:d'[i]! = q0:=by
     have:=hys i hin;rw[←Array.getElem?_toList,he] at this;exact(Option.some.inj this).symm
    obtain⟨x,h1,h2,h3⟩:=hx _ (hmin q0);have hxe:x=el q0:=by rw[hel];exact h3.symm
    have hlen':=(hrow _ x h1).1;rw[hxe] at hlen';refine⟨hlen',fun j cv hj=>?_⟩;have hjk:j<k:=by have:=(JC.1 hj).1;rw[←hlen'];exact this
    obtain⟨cv',v,a1,a2,a3,a4⟩:=hcl _ (hmin q0) j hjk;have a1':(el q0).cells[j]? = some cv':=by rw[hel];exact a1
    rw[hj] at a1';cases a1';refine⟨v, ?_,a3,hOe ▸ a4⟩;have hlt2:i*k+j<n*k:=by
     have:(i+1)*k<=n*k:=JP k hin;rw[Nat.add_mul,KF] at this;omega
    have hF1:(flatK enc k d')[i*k+j]! = v:=by
     rw[get_flatK _ _ _ _ (by rw[p1];exact hlt2)];rw[show (i*k+j)/k=i by rw[Kr,Nat.mul_add_div hk0,Nat.div_eq_of_lt hjk,KB],show (i*k+j)%k=j by rw[Kr,Nat.mul_add_mod,Kg hjk],hde];have hg:=heg q0 j hjk;rw[Jl,a2] at hg;rw[getElem!_pos _ _ (by rw[hek];exact hjk)];rw[I9 (by rw[hek];exact hjk)] at hg;exact Option.some.inj hg
    unfold putCells;rw[Array.getElem?_mapIdx,Jj (show i*k+j<arr.size by omega),Jv];rw[JL ⟨Ke _,by rw[Jd,size_flatK,p1];exact hlt2⟩];simp only[Nat.sub_zero,id,hF1])
  obtain⟨m2,ext2⟩:=m1.still (w':=sortWorldK enc k w (ρ 0).b 0 q d' os) (by unfold sortWorldK;rw[size_grow];omega) (fun b hb=>by
   unfold sortWorldK grow;rw[Kf hb]) .go
  have hsub:∀i,D i->dn D 1 1 i:=fun i hi=>.inl hi
  refine⟨.tup [],.tuple #[],_,1,ρ,rfl,⟨rfl,rfl,d'.toList.map lv,⟨?_,fun i j x y hij hi hj=>?_⟩,by simp[up,hel0]⟩,JG _,(m2.widen hsub).1,.tup [] #[] rfl (by simp),((ext D fun i hi=>hi).trans (ext2 D fun i hi=>hi)).wide hsub⟩
  ·have hp:d'.toList.Perm (List.range n):=by
    have e1:(d'.extract 0 n)=d':=by rw[←p1];simp
    have e2:(d.extract 0 n)=d:=by rw[←hdn];simp
    rw[e1,e2] at p3;rw[hd] at p3;simpa using p3
   have h1:=hp.map lv;have h2:(List.range n).map lv=L:=by
    apply LD;intro i;rw[Ja];rcases JK i n with hi|hi
    ·rw[List.getElem?_range hi,Jv,hlv];simp only;rw[show min i (n-1)=i by omega,Jw,I9 om];rfl
    ·rw[JH (by simpa using hi),JH om];rfl
   rw[h2] at h1;exact h1
  ·rw[Ja] at hi hj;obtain⟨a,ha,rfl⟩:=Jy.1 hi;obtain⟨b,hb,rfl⟩:=Jy.1 hj;have hjn:j<n:=by have:=(JC.1 hb).1;simpa[p1] using this
   have hia:d'[i]! = a:=by
    have:=hys i om;rw[←Array.getElem?_toList,ha] at this;exact(Option.some.inj this).symm
   have hjb:d'[j]! = b:=by
    have:=hys j hjn;rw[←Array.getElem?_toList,hb] at this;exact(Option.some.inj this).symm
   have:=hsort i j (Ke _) hij hjn;rw[hia,hjb] at this;simp only[ltOf,hcf] at this;exact J8 this
end
end Go.Ax
