/- A part of the proof. -/
import Derived.Test.YtioogodkiglceaaGreatDoorAx16
import Derived.Shelf.Small.Wraps
import Derived.Shelf.Strconv.Atoi
import Derived.Shelf.Strconv.Itoa0
import Derived.Shelf.Strconv.Itoa1
import Derived.Shelf.LaysM
import Derived.Shelf.Strconv.Itoa2
import Derived.Shelf.Strconv.Itoa3
import Derived.Shelf.Strconv.AtoiErrFast
import Derived.Shelf.Strconv.ParseIntEmpty
import Derived.Shelf.Strconv.AtoiFail
import Derived.Shelf.Strconv.Clone
import Derived.Shelf.Strconv.SyntaxError
import Derived.Shelf.LaysC
import Derived.Shelf.Strconv.ToError
import Derived.Shelf.Strconv.Lower
import Derived.Shelf.Strconv.ParseUint10
import Derived.Shelf.Strconv.ParseUint10Empty
import Derived.Shelf.Strconv.ParseUint10Any
import Derived.Shelf.Strconv.ParseInt10
import Derived.Shelf.Strconv.AtoiLong
import Derived.Shelf.Strconv.AtoiInnerAll
import Derived.Shelf.Strconv.RangeError
import Derived.Shelf.Strconv.ToErrorRange
import Derived.Shelf.Strconv.AtoiAll
import Derived.Shelf.Strconv.ParseUintEmpty
import Derived.Shelf.Strconv.ParseUint10b64
import Derived.Shelf.Strconv.ParseUint10b32
import Derived.Shelf.Strconv.ParseUint10b16
import Derived.Shelf.Strconv.ParseUint10b8
import Derived.Shelf.Slices.Turned
import Derived.Shelf.Slices.Equal
import Derived.Ground.Names2Prog
import Derived.Shelf.Slices.SearchI
import Derived.Shelf.Slices.Empties2
import Derived.Test.YtioogodkiglceaaGreatDoorProg
import Derived.KernelRfl
set_option linter.unusedVariables false
set_option linter.unusedSimpArgs false
set_option linter.unusedSectionVars false
namespace Go.Proofs.YtioogodkiglceaaGreatDoor
open Go Go.Ax Go.Proofs Tryz
set_option maxRecDepth 100000
set_option maxHeartbeats 16000000
theorem CI{A:List Nd}(h:VT A){p:List Int}(hp:p.length<=1000000000)(s:Bool):∀f,Tz A p s f
 | 0=>fun i a0 L hif _ _ _=>om
 | f+1=>PU h hp s f (CI h hp s f)
def tY(v:a6)(node:Int)(X:List Sp)(code:Int):AV:=match v with
 | .mk a b c d=>.agg [.int .i64 a,.int .i64 b,.str c,.il 4 (aQ d),.int .i64 node,.il 3 (gX X),.int .i64 code]
theorem qA(v:a6)(node:Int)(X:List Sp)(code:Int):NN (tY v node X code):=by
 obtain⟨a,b,c,d⟩:=v;exact .agg' (.cons nn (.cons nn (.cons nn (.cons (.il' (aO _)) (.cons nn (.cons (.il' (yM _)) (.cons nn .nil)))))))
def Tb(p:List Int)(s:Bool)(r0:Az):AV->aP->Nat->Prop:=fun r m k=>m=[]/\k=0/\((r0.stop = -1/\∃X:List Sp,X.length<=r0.spans.length/\(s=true->X=r0.spans)/\r=tY r0.val (-1) X 0)∨(∃n:Nat,r0.stop=(n:Int)/\r=tY vZ n [] 0)∨(r0.stop = -2/\r=tY vZ (-1) [] 11))
def UY(A:List Nd)(p:List Int):AV:=.fn (.func 88) [] [.ptr 6 0 0,.ip (.il 1 (aS p)),.ip (.agg [.il 12 (aW A)])]
def UT(A:List Nd)(s:Bool):AV:=.fn (.func 89) [] [.ip (.agg [.il 12 (aW A)]),.ip (wk A),.ip (.bool s),.ip (.il 1 (kB (cY A))),.ptr 7 0 0,.ptr 8 0 0,.ptr 6 0 0,.ptr 3 0 0]
def Sh(A:List Nd)(p:List Int)(s:Bool)(a:Nat)(rid n:Nat)(xs:List AV):aP:=
 [(6,.row 3 1 [.int .i64 (a:Int)]),(3,.row 72 7 [Sl rid n]),(7,.row 53 1 [UY A p]),(8,.row 47 1 [UT A s]),(rid,.row 155 3 xs)]
theorem OJ{mem:aP}{σ:List (Nat × Nat)}{a b n m:Nat}(h:lk σ a=some b)(e:n=m):I1 mem σ (Sl a n) (Sl b m):=
 .agg (.s (.s (.s (.s (.s (.cons (.slE h e) (.s .nil)))))))
theorem T8{mem:aP}{σ:List (Nat × Nat)}{A:List Nd}{p:List Int}(h:lk σ 6=some 0):Cv mem σ (UY A p) (RV A p):=
 .fn _ _ _ _ _ rfl rfl (by simp) (kU.cons (.ptr 6 0 0 0 h) (.cons (.same _ (tS p)) (.cons (.same _ (rD A)) .nil))).2
theorem T2{mem:aP}{σ:List (Nat × Nat)}{A:List Nd}{p:List Int}(h:lk σ 0=some 6):Cv mem σ (RV A p) (UY A p):=
 .fn _ _ _ _ _ rfl rfl (by simp) (kU.cons (.ptr 0 6 0 0 h) (.cons (.same _ (tS p)) (.cons (.same _ (rD A)) .nil))).2
theorem UH{mem:aP}{σ:List (Nat × Nat)}{A:List Nd}{s:Bool}(h0:lk σ 6=some 0)(h1:lk σ 3=some 1)(h2:lk σ 7=some 2)(h3:lk σ 8=some 3):Cv mem σ (UT A s) (F9 A s):=
 .fn _ _ _ _ _ rfl rfl (by simp) (kU.cons (.same _ (rD A)) (.cons (.same _ (sK A)) (.s (.cons (.same _ (Ev A)) (.cons (.ptr 7 2 0 0 h2) (.cons (.ptr 8 3 0 0 h3) (.cons (.ptr 6 0 0 0 h0) (.cons (.ptr 3 1 0 0 h1) .nil)))))))).2
theorem Tq{mem:aP}{σ:List (Nat × Nat)}{A:List Nd}{s:Bool}(h0:lk σ 0=some 6)(h1:lk σ 1=some 3)(h2:lk σ 2=some 7)(h3:lk σ 3=some 8):Cv mem σ (F9 A s) (UT A s):=
 .fn _ _ _ _ _ rfl rfl (by simp) (kU.cons (.same _ (rD A)) (.cons (.same _ (sK A)) (.s (.cons (.same _ (Ev A)) (.cons (.ptr 2 7 0 0 h2) (.cons (.ptr 3 8 0 0 h3) (.cons (.ptr 0 6 0 0 h0) (.cons (.ptr 1 3 0 0 h1) .nil)))))))).2
theorem Np{A:List Nd}{p:List Int}{s:Bool}{a b:Nat}{L:List Sp}(h:a=b):cN (rE A p s a L 5 []) [(0,6),(1,3),(2,7),(3,8),(5,10)] (Sh A p s b 10 L.length (gX L)):=
 ⟨⟨0,_,rfl,rfl,.cons (.one rfl rfl (.int (by rw[h]))) .nil⟩,⟨1,_,rfl,rfl,.cons (OJ rfl rfl) .nil⟩,⟨2,_,rfl,rfl,.cons (.one rfl rfl (T2 rfl)) .nil⟩,⟨3,_,rfl,rfl,.cons (.one rfl rfl (Tq rfl rfl rfl rfl)) .nil⟩,aL 5 (yM _),trivial⟩
theorem LS{mem:aP}{σ:List (Nat × Nat)}{id:Nat}{t:TypeId}{sz:Nat}{c v:AV}(h1:lk mem id=some (.row t sz [c]))(h2:lk σ id=none)(hc:c.cells=[c])(hv:v.cells=[v])(h:Cv mem σ c v):Cv mem σ (.ptr id 0 0) (.ip v):=
 I5 h1 h2 rfl (by rw[hc];rfl) hv h
structure Rk(rs:List ResultVar)(v:AV)(Q:AV->aP->Nat->Prop)(Qp:Value->aP->Nat->Prop)(e:Exit)(s:St):Prop where
 run:CD prog [] (En prog [] 0) rs Q Qp e s (some v)
noncomputable def Jt:List ResultVar:=(Tryz.f61).results.toList
def OD:AV:=.fn (.func 86) [] [.ptr 3 0 0]
theorem nD{sl:List (Nat × AV)}{M:aP}{nx nt:Nat}{Q:AV->aP->Nat->Prop}{Qp:Value->aP->Nat->Prop}(h:match yV prog Jt ⟨sl,M,nx,nt⟩ with|some r=>Q r M nx|none=>False):Rk Jt OD Q Qp .ret ⟨sl,M,nx,nt⟩:=by
 refine⟨?_⟩;have e:CD prog [] (En prog [] 0) Jt Q Qp .ret ⟨sl,M,nx,nt⟩ (some OD)=(match yV prog Jt ⟨sl,M,nx,nt⟩ with|some r=>Q r M nx|none=>False):=by kernel_rfl
 rw[e];exact h
theorem vR{a3 a4 a5:AV}{rest:List (Nat × AV)}{A:List Nd}{p:List Int}{s:Bool}{a n0:Nat}{xs:List AV}{nt:Nat}{x:Value}{n c:Int}{Q:AV->aP->Nat->Prop}{Qp:Value->aP->Nat->Prop}(hx:x=xA n c)
  (h:∀M:aP,Q (.agg [.int .i64 0,.int .i64 0,.str [],.nsl,.int .i64 n,.nsl,.int .i64 c]) M 12):Rk Jt OD Q Qp (.panic [pe x]) ⟨(3,a3)::(4,a4)::(5,a5)::(6,.ptr 3 0 0)::rest,Sh A p s a 10 n0 xs,11,nt⟩:=by
 subst hx;refine⟨?_⟩;have e:CD prog [] (En prog [] 0) Jt Q Qp (.panic [pe (xA n c)]) ⟨(3,a3)::(4,a4)::(5,a5)::(6,.ptr 3 0 0)::rest,Sh A p s a 10 n0 xs,11,nt⟩ (some OD) =
  Q (.agg [.int .i64 0,.int .i64 0,.str [],.nsl,.int .i64 n,.nsl,.int .i64 c]) [(11,.row 152 2 [.agg [.int .i64 n,.int .i64 c]]),(6,.row 3 1 [.int .i64 (a:Int)]),(3,.row 72 7 [.agg [.int .i64 0,.int .i64 0,.str [],.nsl,.int .i64 n,.nsl,.int .i64 c]]),(7,.row 53 1 [UY A p]),(8,.row 47 1 [UT A s]),(10,.row 155 3 xs)] 12:=by kernel_rfl
 rw[e];exact h _
theorem Q5{A:List Nd}{p:List Int}(h:Nj A p)(s:Bool):aH prog [] 61 [.agg [.il 12 (aW A)],.il 1 (aS p),.bool s] [] 0 (Tb p s (jV p (j8 A p))):=by
 have hp:=h.tree.pos;have hl:=h.tree.tin.len;have hpl:=h.len;have hC:=h.cnt A.length (A.length-1) 0 om om;have hF:=CI h.tree (p:=p) om s A.length (A.length-1) 0 [] om om (Wb _) (by simpa using hC);have hN:=TW h.tree;have hP:=PN h.tree;have hu:=Iv A p;have nA:NN (.il 12 (aW A)):=.il' (aY A);have np:NN (.il 1 (aS p)):=.il' (aM p);have lp:=aC p;have lA:=bD A;have hw:IntKind.i64.wrap (((aW A).length:Int)-1)=((A.length-1:Nat):Int):=by rw[bD,cV ⟨om,om⟩];omega
 rw[show a7 A p A.length (A.length-1) 0=j8 A p from rfl] at hF;generalize hR0:j8 A p=R at *;clear hR0;obtain⟨⟨v1,v2,v3,v4⟩,u,st,sp⟩:=R;refine bP.toC (Qp:=fun _ _ _=>False) ?_ (fun _ _ _ h=>h);refine BX (H:=En prog [] 0) bG func61 rfl ?_
 conv=>whnf
 refine oL.seq (oL.of rfl ?_);refine Rr ?_;refine oL.seq (oL.of rfl ?_);have dA:(((aW A).length:Int) == 0)=false:=by rw[lA];exact beq_eq_false_iff_ne.2 om
 refine Rr ?_;rw[dA];refine Rr ?_;refine oL.seq (oL.region ?_)
 conv=>whnf
 refine aU ?_
 dsimp only
 refine eD.conv (s':=⟨[(3,.ip (.agg [.il 12 (aW A)])),(4,.ip (.il 1 (aS p))),(5,.ip (.bool s)),(6,.ptr 3 0 0)],[(3,.row 72 7 [.agg [.int .i64 0,.int .i64 0,.str [],.nsl,.int .i64 0,.nsl,.int .i64 0]])],4,39⟩) bG
  (aG [(3,3)] rfl ⟨aL 3 (.cons (.agg' (.cons nn (.cons nn (.cons nn (.cons nn (.cons nn (.cons nn (.cons nn .nil)))))))) .nil),trivial⟩
   ⟨⟨_,rfl,I5 (id:=0) rfl rfl rfl rfl rfl (.same _ nA)⟩,⟨_,rfl,LS (id:=1) rfl rfl rfl rfl (.same _ np)⟩,⟨_,rfl,LS (id:=2) rfl rfl rfl rfl (.same _ nn)⟩,aJ,trivial⟩) ?_
 refine eD.mono (Q:=Rk Jt OD (kN 0 (Tb p s (jV p ⟨.mk v1 v2 v3 v4,u,st,sp⟩))) (KT 0 fun _ _ _=>False)) ?_ (fun e s h=>h.run);refine Rq ?_;refine hN.goP ?_ (.cons (.agg' (.cons nA .nil)) .nil) (gV A);refine Rq ?_;refine hP.goP ?_ (.cons (.agg' (.cons nA .nil)) (.cons (gV A) .nil)) (.il' (iR _));refine Rq ?_;rw[hw];refine bP.ph 155 3 ?_;refine bP.pre bG [(3,3),(6,6),(7,7),(8,8),(9,9)] (args':=[.int .i64 ((A.length-1:Nat):Int),.ip (.agg [.il 12 (aW A)]),.ip (wk A),.ip (.bool s),.ip (.il 1 (kB (cY A))),.ptr 7 0 0,.ptr 8 0 0,.ptr 6 0 0,.ptr 3 0 0])
  (mem':=Sh A p s 0 9 0 []) rfl
  ⟨⟨6,_,rfl,rfl,.cons (.one rfl rfl (.int rfl)) .nil⟩,⟨3,_,rfl,rfl,.cons (.agg (.s (.s (.s (.s (.s (.cons (.nslk 9 9 _ rfl rfl) (.s .nil)))))))) .nil⟩,
   ⟨7,_,rfl,rfl,.cons (.one rfl rfl (.fn _ _ _ _ _ rfl rfl (by simp) (kU.cons (.ptr 6 6 0 0 rfl) (.cons (.same _ (tS p)) (.cons (.same _ (rD A)) .nil))).2)) .nil⟩,
   ⟨8,_,rfl,rfl,.cons (.one rfl rfl (.fn _ _ _ _ _ rfl rfl (by simp) (kU.cons (.same _ (rD A)) (.cons (LS (id:=4) rfl rfl rfl rfl (.same _ (gV A))) (.s (.cons (LS (id:=5) rfl rfl rfl rfl (.same _ (.il' (iR _)))) (.cons (.ptr 7 7 0 0 rfl) (.cons (.ptr 8 8 0 0 rfl) (.cons (.ptr 6 6 0 0 rfl) (.cons (.ptr 3 3 0 0 rfl) .nil)))))))).2)) .nil⟩,
   ⟨9,_,rfl,rfl,.nil⟩,trivial⟩
  (.s (.cons (.same _ (rD A)) (.cons (LS (id:=4) rfl rfl rfl rfl (.same _ (gV A))) (.s (.cons (LS (id:=5) rfl rfl rfl rfl (.same _ (.il' (iR _)))) (.cons (.ptr 7 7 0 0 rfl) (.cons (.ptr 8 8 0 0 rfl) (.cons (.ptr 6 6 0 0 rfl) (.cons (.ptr 3 3 0 0 rfl) .nil))))))))) ?_
 refine bP.useN bG [(6,0),(3,1),(7,2),(8,3),(9,4)] hF rfl (.s (.cons (.same _ (rD A)) (.cons (.same _ (sK A)) (.s (.cons (.same _ (Ev A)) (.cons (.ptr 7 2 0 0 rfl) (.cons (.ptr 8 3 0 0 rfl) (.cons (.ptr 6 0 0 0 rfl) (.cons (.ptr 3 1 0 0 rfl) .nil)))))))))
  ⟨aL 6 (.cons nn .nil),⟨3,_,rfl,rfl,.cons (OJ rfl rfl) .nil⟩,⟨7,_,rfl,rfl,.cons (.one rfl rfl (T8 rfl)) .nil⟩,⟨8,_,rfl,rfl,.cons (.one rfl rfl (UH rfl rfl rfl rfl)) .nil⟩,⟨9,_,rfl,rfl,.nil⟩,trivial⟩ rfl ?_ ?_
 ·rintro r m k ⟨f1,rfl,X,hX,hXs,rfl,rfl⟩;have f1:st = -1:=f1;subst f1;refine⟨[(0,6),(1,3),(2,7),(3,8),(5,10)],.agg [.int .i64 v1,.int .i64 v2,.str v3,.il 4 (aQ v4)],Sh A p s u 10 X.length (gX X),11,.same _ (bN (.mk v1 v2 v3 v4)),Np (V0 _),rfl, ?_⟩;have hX:X.length<=sp.length:=hX;have hXs:s=true->X=sp:=hXs;have hu:u<=p.length:=hu;have d1:decide ((u:Int)<((aS p).length:Int))=decide (u<p.length):=by rw[lp];exact WX.2 om
  refine Rq ?_;rw[d1];by_cases hup:u<p.length
  ·rw[Vi hup];refine Rq ?_;refine nD ?_
   conv=>whnf
   exact dK (r':=tY vZ (-1) [] 11) (.agg' (.s (.s (.s (.cons (.nil 4) (.s (.cons (.nil 3) (.s .nil)))))))) (by unfold jV;rw[Vb ⟨rfl,hup⟩];exact⟨rfl,rfl,.inr (.inr ⟨rfl,rfl⟩)⟩)
  ·rw[Vv hup];refine Rq ?_;refine nD ?_
   conv=>whnf
   exact dK (r':=tY (.mk v1 v2 v3 v4) (-1) X 0) (.agg' (.s (.s (.s (.cons (.same _ (.il' (aO _))) (.s (.cons (rP (id:=10) rfl (rM X).symm rfl (yM X)) (.s .nil)))))))) (by unfold jV;rw[VY (fun e=>hup e.2)];exact⟨rfl,rfl,.inl ⟨rfl,X,hX,hXs,rfl⟩⟩)
 ·rintro x m k ⟨hx,a,L',rfl,rfl⟩;have hx:(∃n:Nat,st=(n:Int)/\x=xA n 0)∨(st = -2/\x=xA (-1) 11):=hx;refine⟨[(0,6),(1,3),(2,7),(3,8),(5,10)],Sh A p s a 10 L'.length (gX L'),11,Np rfl,rfl, ?_⟩;cases hx with
  | inl hx=>
   obtain⟨n,h1,h2⟩:=hx;refine vR h2 (fun M=>?_);exact dK (r':=tY vZ n [] 0) (.agg' (.s (.s (.s (.cons (.nil 4) (.s (.cons (.nil 3) (.s .nil)))))))) (by unfold jV;rw[VY (fun e=>by have:=e.1;simp only at this;omega)];exact⟨rfl,rfl,.inr (.inl ⟨n,h1,rfl⟩)⟩)
  | inr hx=>
   refine vR hx.2 (fun M=>?_);exact dK (r':=tY vZ (-1) [] 11) (.agg' (.s (.s (.s (.cons (.nil 4) (.s (.cons (.nil 3) (.s .nil)))))))) (by unfold jV;rw[VY (fun e=>by have:=e.1;simp only at this;omega)];exact⟨rfl,rfl,.inr (.inr ⟨hx.1,rfl⟩)⟩)
theorem R8(p:List Int)(s:Bool):bB prog [] 61 [.agg [.il 12 []],.il 1 (aS p),.bool s] (tY vZ (-1) [] 11):=by
 refine bP.toC (Qp:=fun _ _ _=>False) ?_ (fun _ _ _ h=>h);refine BX (H:=En prog [] 0) bG func61 rfl ?_
 conv=>whnf
 refine oL.seq (oL.of rfl ?_);refine Rr ?_;refine oL.seq (oL.of rfl ?_);refine Rr ?_;exact dK (r':=tY vZ (-1) [] 11) (.agg' (.s (.s (.s (.cons (.nil 4) (.s (.cons (.nil 3) (.s .nil)))))))) ⟨rfl,rfl,rfl⟩
theorem SN{A:List Nd}{p:List Int}(h:US A p)(s:Bool):aH prog [] 29 [.agg [.il 12 (aW A)],.il 1 (aS p),.bool s] [] 0 fun r m k=>(∃(v:a6) (node c:Int) (S:List Sp),r = .tup [tY v node S c,.int .i64 (uZ A p)]/\v=uE A p/\(s=true->S=Mf A p))/\m=[]/\k=0:=by
 have hv:=Cu A ⟨h.tin.ok,h.tin.val,h.tin.vals,fun x hx=>by have:=h.tin.vlen x hx;omega,fun x hx=>by have:=h.tin.klen x hx;omega⟩;have nA:NN (.il 12 (aW A)):=.il' (aY A);have np:NN (.il 1 (aS p)):=.il' (aM p);have hE:uZ A p=if cL A≠0 then cL A else if A.length=0 then 11 else if (jV p (j8 A p)).stop = -1 then 0 else 11:=rfl
 have hS:Mf A p=if uZ A p=0 then(jV p (j8 A p)).spans else []:=by rw[(FO _ _).2];rfl
 have hV:uE A p=if uZ A p=0 then(jV p (j8 A p)).val else vZ:=by rw[(FO _ _).1];rfl
 have hR:=fun(e:cL A=0) (hp:0<A.length)=>Q5 (h.pth ⟨h.tin,e,hp⟩) s
 have hR0:A.length=0->bB prog [] 61 [.agg [.il 12 (aW A)],.il 1 (aS p),.bool s] (tY vZ (-1) [] 11):=fun e=>by
  rw[Vj e];exact R8 p s
 have lA:=bD A;generalize Mf A p=S at *;generalize uE A p=V at *;generalize uZ A p=E at *;generalize cL A=vl at *;refine aK bG func29 rfl ?_;refine Rr ?_;refine hv.go ?_ (.cons (.agg' (.cons nA .nil)) .nil) nn;refine Rr ?_;refine aI (fun hb=>?_) (fun hb=>?_)
 ·have h0:vl≠0:=by simpa using hb
  rw[Vb h0] at hE;rw[VY om] at hS hV;rw[hS,hV,hE];refine Rr ?_;exact dK (r':=.tup [tY vZ 0 [] 0,.int .i64 vl]) (.tup' (.cons (.agg' (.s (.s (.s (.cons (.nil 4) (.s (.cons (.nil 3) (.s .nil)))))))) (.s .nil))) ⟨⟨vZ,0,0,[],rfl,rfl,fun _=>rfl⟩,rfl,rfl⟩
 ·have h0:vl=0:=by simpa using hb
  subst h0;have hR:=hR rfl;rw[VY (by simp)] at hE;refine Rr ?_;by_cases h0:A.length=0
  ·rw[Vb h0] at hE;rw[VY om] at hS hV;rw[hS,hV,hE];refine(hR0 h0).go ?_ (.cons (.agg' (.cons nA .nil)) (.cons np (.cons nn .nil))) (qA _ _ _ _);refine Rr ?_;exact dK (r':=.tup [tY vZ 0 [] 0,.int .i64 11]) (.tup' (.cons (.agg' (.s (.s (.s (.cons (.nil 4) (.s (.cons (.nil 3) (.s .nil)))))))) (.s .nil))) ⟨⟨vZ,0,0,[],rfl,rfl,fun _=>rfl⟩,rfl,rfl⟩
  ·rw[VY h0] at hE;have hR:=hR om;generalize jV p (j8 A p)=R at *;obtain⟨⟨v1,v2,v3,v4⟩,u,st,sp⟩:=R;simp only at hE hS hV;refine aH.go0 hR ?_ (.cons (.agg' (.cons nA .nil)) (.cons np (.cons nn .nil)));rintro r m k ⟨rfl,rfl,hr⟩;rcases hr with⟨h1,X,hX,hXs,rfl⟩|⟨n,h1,rfl⟩|⟨h1,rfl⟩
   ·simp only at h1 hX hXs;rw[Vb h1] at hE;rw[hE,Vb rfl] at hS hV;rw[hS,hV,hE];refine⟨_,.same _ (qA (.mk v1 v2 v3 v4) _ _ _), ?_⟩;refine Rr ?_;exact dK (r':=.tup [tY (.mk v1 v2 v3 v4) (-1) X 0,.int .i64 0]) (.same _ (.tup' (.cons (qA (.mk v1 v2 v3 v4) _ _ _) (.cons nn .nil)))) ⟨⟨.mk v1 v2 v3 v4,-1,0,X,rfl,rfl,hXs⟩,rfl,rfl⟩
   ·simp only at h1;rw[VY om] at hE;rw[VY om] at hS hV;rw[hS,hV,hE];refine⟨_,.same _ (qA vZ _ _ _), ?_⟩;refine Rr ?_;exact dK (r':=.tup [tY vZ 0 [] 0,.int .i64 11]) (.tup' (.cons (.agg' (.s (.s (.s (.cons (.nil 4) (.s (.cons (.nil 3) (.s .nil)))))))) (.s .nil))) ⟨⟨vZ,0,0,[],rfl,rfl,fun _=>rfl⟩,rfl,rfl⟩
   ·simp only at h1;rw[VY om] at hE;rw[VY om] at hS hV;rw[hS,hV,hE];refine⟨_,.same _ (qA vZ _ _ _), ?_⟩;refine Rr ?_;exact dK (r':=.tup [tY vZ 0 [] 0,.int .i64 11]) (.tup' (.cons (.agg' (.s (.s (.s (.cons (.nil 4) (.s (.cons (.nil 3) (.s .nil)))))))) (.s .nil))) ⟨⟨vZ,0,0,[],rfl,rfl,fun _=>rfl⟩,rfl,rfl⟩
theorem SZ{A:List Nd}{p:List Int}(h:US A p)(hC:∀v:a6,gH v->bB prog [] 30 [bS v] (bS v))(hv:gH (uE A p)):bB prog [] 10 [.agg [.il 12 (aW A)],.il 1 (aS p)] (.tup [bS (uE A p),.int .i64 (uZ A p)]):=by
 have hW:=SN h false;have hC:=hC _ hv;have nA:NN (.il 12 (aW A)):=.il' (aY A);have np:NN (.il 1 (aS p)):=.il' (aM p);generalize uE A p=V at *;generalize uZ A p=E at *;have nV:=bN V;refine aK bG func10 rfl ?_;refine Rr ?_;refine aH.go0 hW ?_ (.cons (.agg' (.cons nA .nil)) (.cons np (.cons nn .nil)));rintro r m k ⟨⟨v,node,c,S',rfl,rfl,-⟩,rfl,rfl⟩;obtain⟨v1,v2,v3,v4⟩:=v;refine⟨_,.same _ (.tup' (.cons (qA (.mk v1 v2 v3 v4) node S' c) (.cons nn .nil))), ?_⟩;refine Rt ?_;refine hC.go ?_ (.cons nV .nil) nV;refine Rt ?_;exact aA (.tup' (.cons nV (.cons nn .nil))) ⟨rfl,rfl,rfl⟩
theorem VK{A:List Nd}{p:List Int}(h:Nj A p)(hs:(jV p (j8 A p)).stop≠-2):bB prog [] 28 [.agg [.il 12 (aW A)],.il 1 (aS p)] (.tup [.int .i64 (jV p (j8 A p)).stop,.int .i64 0]):=by
 have hv:=Cu A ⟨h.tree.tin.ok,h.tree.tin.val,h.tree.tin.vals,fun x hx=>by have:=h.tree.tin.vlen x hx;omega,fun x hx=>by have:=h.tree.tin.klen x hx;omega⟩;rw[h.tree.val] at hv;have hR:=Q5 h false;have nA:NN (.il 12 (aW A)):=.il' (aY A);have np:NN (.il 1 (aS p)):=.il' (aM p);generalize jV p (j8 A p)=R at *;obtain⟨⟨v1,v2,v3,v4⟩,u,st,sp⟩:=R;simp only at hs;refine aK bG func28 rfl ?_;refine Rr ?_;refine hv.go ?_ (.cons (.agg' (.cons nA .nil)) .nil) nn;refine Rt ?_;refine aH.go0 hR ?_ (.cons (.agg' (.cons nA .nil)) (.cons np (.cons nn .nil)));rintro r m k ⟨rfl,rfl,hr⟩;rcases hr with⟨h1,X,hX,hXs,rfl⟩|⟨n,h1,rfl⟩|⟨h1,rfl⟩
 ·simp only at h1;subst h1;refine⟨_,.same _ (qA (.mk v1 v2 v3 v4) _ _ _), ?_⟩;refine Rt ?_;exact aA (.tup' (.cons nn (.cons nn .nil))) ⟨rfl,rfl,rfl⟩
 ·simp only at h1;subst h1;refine⟨_,.same _ (qA vZ _ _ _), ?_⟩;refine Rt ?_;exact aA (.tup' (.cons nn (.cons nn .nil))) ⟨rfl,rfl,rfl⟩
 ·exact absurd h1 hs
theorem Uc{A:List Nd}(h:VT A)(raw:List Int)(hr:raw.length<=17592186043904):bB prog [] 8 [.agg [.il 12 (aW A)],.il 1 (aS raw)] (.tup [.il 1 (aS (iV A raw)),.int .i64 0]):=by
 have hv:=Cu A ⟨h.tin.ok,h.tin.val,h.tin.vals,fun x hx=>by have:=h.tin.vlen x hx;omega,fun x hx=>by have:=h.tin.klen x hx;omega⟩;rw[h.val] at hv;have hN:=TW h;have hR:=Tu h.pos (by have:=h.tin.len;omega);have hF:=U0 h raw hr;have nA:NN (.il 12 (aW A)):=.il' (aY A);have nr:NN (.il 1 (aS raw)):=.il' (aM raw);have nf:NN (.il 1 (aS (iV A raw))):=.il' (aM _);have nw:=gV A;have lA:=bD A;have hp:=h.pos;generalize iV A raw=q at *;refine aK bG func8 rfl ?_;refine Rr ?_;refine hv.go ?_ (.cons (.agg' (.cons nA .nil)) .nil) nn;refine Rt ?_;refine aI (fun hb=>?_) (fun hb=>?_)
 ·exfalso;rw[lA] at hb;simp at hb;first|omega|(rw[hb] at hp;simp at hp)
 refine Rt ?_;refine hN.go ?_ (.cons (.agg' (.cons nA .nil)) .nil) nw;refine Rt ?_;refine hR.go ?_ (.cons nw .nil) nn;refine Rt ?_;refine hF.go ?_ (.cons nw (.cons nn (.cons nr .nil))) nf;refine Rt ?_;exact aA (.tup' (.cons nf (.cons nn .nil))) ⟨rfl,rfl,rfl⟩
end Go.Proofs.YtioogodkiglceaaGreatDoor
namespace Go.Proofs
open Go.Shelf
def Tryz.lays129_ren:Go.Shelf.Ren:=⟨fun|129=>141|n=>n,fun|53=>132|3=>3|4=>4|46=>164|5=>5|9=>9|n=>n,fun|n=>n⟩
theorem Tryz.lays129:Go.Proofs.Lays.n129 Tryz.prog Tryz.lays129_ren:={
 mixed:=by kernel_rfl
 f129:=Tryz.func141.trans (congrArg some (by kernel_rfl))
 t3:=Tryz.underlying3
 a3:=Tryz.isAgg3
 z3:=Tryz.sizeOf3
 v3:=Tryz.zeroValue3
 t4:=Tryz.underlying4
 a4:=Tryz.isAgg4
 z4:=Tryz.sizeOf4
 v4:=Tryz.zeroValue4
 t5:=Tryz.underlying5
 a5:=Tryz.isAgg5
 z5:=Tryz.sizeOf5
 v5:=Tryz.zeroValue5
 t9:=Tryz.underlying9
 a9:=Tryz.isAgg9
 z9:=Tryz.sizeOf9
 v9:=Tryz.zeroValue9
 t46:=Tryz.underlying164
 a46:=Tryz.isAgg164
 z46:=Tryz.sizeOf164
 v46:=Tryz.zeroValue164
 t53:=Tryz.underlying132
 a53:=Tryz.isAgg132
 z53:=Tryz.sizeOf132
 v53:=Tryz.zeroValue132 }
theorem Tryz.bits_Len64(x:Int)(w:World)(h0:0<=x)(h1:x<=18446744073709551615) :
  Calls Tryz.prog 141 #[.int .u64 x] w fun e w'=>e = .returned (.int .i64 (Lib.bitLen x.toNat))/\w'=w:=Any.bits_Len64 Tryz.lays129 x w h0 h1
def Tryz.lays317_ren:Go.Shelf.Ren:=⟨fun|317=>140|n=>n,fun|3=>3|46=>164|n=>n,fun|n=>n⟩
theorem Tryz.lays317:Go.Proofs.Lays.n317 Tryz.prog Tryz.lays317_ren:={
 mixed:=by kernel_rfl
 f317:=Tryz.func140.trans (congrArg some (by kernel_rfl))
 t3:=Tryz.underlying3
 a3:=Tryz.isAgg3
 z3:=Tryz.sizeOf3
 v3:=Tryz.zeroValue3
 t46:=Tryz.underlying164
 a46:=Tryz.isAgg164
 z46:=Tryz.sizeOf164
 v46:=Tryz.zeroValue164 }
open Go.Lib in
theorem Tryz.internal_strconv_log10Pow2(x:Nat)(h:x<=64)(w:World) :
  Calls Tryz.prog 140 #[.int .i64 x] w fun e w'=>e = .returned (.int .i64 (Lib.l10 x))/\w'=w:=Any.internal_strconv_log10Pow2 Tryz.lays317 x h w
open Go.Lib in
def Tryz.lays283_ren:Go.Shelf.Ren:=⟨fun|283=>133|n=>n,fun|3=>3|9=>9|4=>4|n=>n,fun|n=>n⟩
theorem Tryz.lays283:Go.Proofs.Lays.n283 Tryz.prog Tryz.lays283_ren:={
 mixed:=by kernel_rfl
 f283:=Tryz.func133.trans (congrArg some (by kernel_rfl))
 t3:=Tryz.underlying3
 a3:=Tryz.isAgg3
 z3:=Tryz.sizeOf3
 v3:=Tryz.zeroValue3
 t4:=Tryz.underlying4
 a4:=Tryz.isAgg4
 z4:=Tryz.sizeOf4
 v4:=Tryz.zeroValue4
 t9:=Tryz.underlying9
 a9:=Tryz.isAgg9
 z9:=Tryz.sizeOf9
 v9:=Tryz.zeroValue9 }
open Go.Lib in
theorem Tryz.internal_strconv_small(i:Nat)(h:i<100)(w:World) :
  Calls Tryz.prog 133 #[.int .i64 i] w fun e w'=>e = .returned (.string ⟨(Lib.decDigits i).toArray⟩)/\w'=w:=Any.internal_strconv_small Tryz.lays283 i h w
def Tryz.lays285_ren:Go.Shelf.Ren:=⟨fun|285=>135|n=>n,fun|37=>57|53=>132|3=>3|4=>4|51=>192|9=>9|5=>5|0=>0|n=>n,fun|n=>n⟩
theorem Tryz.lays285:Go.Proofs.Lays.n285 Tryz.prog Tryz.lays285_ren:={
 mixed:=by kernel_rfl
 f285:=Tryz.func135.trans (congrArg some (by kernel_rfl))
 t0:=Tryz.underlying0
 a0:=Tryz.isAgg0
 z0:=Tryz.sizeOf0
 v0:=Tryz.zeroValue0
 t3:=Tryz.underlying3
 a3:=Tryz.isAgg3
 z3:=Tryz.sizeOf3
 v3:=Tryz.zeroValue3
 t4:=Tryz.underlying4
 a4:=Tryz.isAgg4
 z4:=Tryz.sizeOf4
 v4:=Tryz.zeroValue4
 t5:=Tryz.underlying5
 a5:=Tryz.isAgg5
 z5:=Tryz.sizeOf5
 v5:=Tryz.zeroValue5
 t9:=Tryz.underlying9
 a9:=Tryz.isAgg9
 z9:=Tryz.sizeOf9
 v9:=Tryz.zeroValue9
 t37:=Tryz.underlying57
 a37:=Tryz.isAgg57
 z37:=Tryz.sizeOf57
 v37:=Tryz.zeroValue57
 t51:=Tryz.underlying192
 a51:=Tryz.isAgg192
 z51:=Tryz.sizeOf192
 v51:=Tryz.zeroValue192
 t53:=Tryz.underlying132
 a53:=Tryz.isAgg132
 z53:=Tryz.sizeOf132
 v53:=Tryz.zeroValue132 }
open Go.RowKit Go.Sort Go.Lib in
theorem Tryz.internal_strconv_formatBase10(blk off cap:Nat)(u:Nat)(d:Array UInt8)(w:World)(hH:Holds (fun(b:UInt8)=>Value.int .u8 (b.toNat:Int)) w blk off d)(hu:u<10 ^ d.size)(hu64:u<18446744073709551616)(hsz:d.size<4611686018427387904) :
  Calls Tryz.prog 135 #[.slice (some ⟨blk,off,none⟩) d.size cap,.int .u64 u] w fun e w'=>
   e = .returned (.tuple #[])/\∃(n v':Nat) (dk:Array UInt8),w'=(putRow (fun(b:UInt8)=>Value.int .u8 (b.toNat:Int)) w blk off dk).drewN n/\FmtInv d.size u 0 v' dk:=Any.internal_strconv_formatBase10 Tryz.lays285 blk off cap u d w hH hu hu64 hsz
def Tryz.laysC172_ren:Go.Shelf.Ren:=⟨fun|172=>80|244=>109|245=>110|247=>123|279=>124|280=>125|281=>126|282=>127|287=>137|316=>138|171=>79|205=>139|321=>145|322=>146|243=>108|246=>122|283=>133|284=>134|285=>135|286=>136|129=>141|317=>140|318=>142|319=>143|320=>144|337=>147|338=>148|n=>n,fun|9=>9|3=>3|75=>142|76=>143|4=>4|5=>5|167=>170|37=>57|0=>0|85=>171|2=>2|168=>173|53=>132|175=>185|46=>164|210=>189|127=>196|145=>199|143=>197|21=>21|171=>180|173=>183|212=>191|51=>192|20=>20|213=>193|232=>201|233=>202|80=>203|n=>n,fun|15=>0|16=>1|17=>2|18=>3|19=>4|n=>n⟩
theorem Tryz.laysC172:Go.Proofs.LaysC.n172 Tryz.prog Tryz.laysC172_ren:={
 mixed:=by kernel_rfl
 f129:=Tryz.func141.trans (congrArg some (by kernel_rfl))
 f171:=Tryz.func79.trans (congrArg some (by kernel_rfl))
 f172:=Tryz.func80.trans (congrArg some (by kernel_rfl))
 f205:=Tryz.func139.trans (congrArg some (by kernel_rfl))
 f243:=Tryz.func108.trans (congrArg some (by kernel_rfl))
 f244:=Tryz.func109.trans (congrArg some (by kernel_rfl))
 f245:=Tryz.func110.trans (congrArg some (by kernel_rfl))
 f246:=Tryz.func122.trans (congrArg some (by kernel_rfl))
 f247:=Tryz.func123.trans (congrArg some (by kernel_rfl))
 f279:=Tryz.func124.trans (congrArg some (by kernel_rfl))
 f280:=Tryz.func125.trans (congrArg some (by kernel_rfl))
 f281:=Tryz.func126.trans (congrArg some (by kernel_rfl))
 f282:=Tryz.func127.trans (congrArg some (by kernel_rfl))
 f283:=Tryz.func133.trans (congrArg some (by kernel_rfl))
 f284:=Tryz.func134.trans (congrArg some (by kernel_rfl))
 f285:=Tryz.func135.trans (congrArg some (by kernel_rfl))
 f286:=Tryz.func136.trans (congrArg some (by kernel_rfl))
 f287:=Tryz.func137.trans (congrArg some (by kernel_rfl))
 f316:=Tryz.func138.trans (congrArg some (by kernel_rfl))
 f317:=Tryz.func140.trans (congrArg some (by kernel_rfl))
 f318:=Tryz.func142.trans (congrArg some (by kernel_rfl))
 f319:=Tryz.func143.trans (congrArg some (by kernel_rfl))
 f320:=Tryz.func144.trans (congrArg some (by kernel_rfl))
 f321:=Tryz.func145.trans (congrArg some (by kernel_rfl))
 f322:=Tryz.func146.trans (congrArg some (by kernel_rfl))
 f337:=Tryz.func147.trans (congrArg some (by kernel_rfl))
 f338:=Tryz.func148.trans (congrArg some (by kernel_rfl))
 t0:=Tryz.underlying0
 a0:=Tryz.isAgg0
 z0:=Tryz.sizeOf0
 v0:=Tryz.zeroValue0
 t2:=Tryz.underlying2
 a2:=Tryz.isAgg2
 z2:=Tryz.sizeOf2
 v2:=Tryz.zeroValue2
 t3:=Tryz.underlying3
 a3:=Tryz.isAgg3
 z3:=Tryz.sizeOf3
 v3:=Tryz.zeroValue3
 t4:=Tryz.underlying4
 a4:=Tryz.isAgg4
 z4:=Tryz.sizeOf4
 v4:=Tryz.zeroValue4
 t5:=Tryz.underlying5
 a5:=Tryz.isAgg5
 z5:=Tryz.sizeOf5
 v5:=Tryz.zeroValue5
 t9:=Tryz.underlying9
 a9:=Tryz.isAgg9
 z9:=Tryz.sizeOf9
 v9:=Tryz.zeroValue9
 t20:=Tryz.underlying20
 a20:=Tryz.isAgg20
 z20:=Tryz.sizeOf20
 v20:=Tryz.zeroValue20
 t21:=Tryz.underlying21
 a21:=Tryz.isAgg21
 z21:=Tryz.sizeOf21
 v21:=Tryz.zeroValue21
 t37:=Tryz.underlying57
 a37:=Tryz.isAgg57
 z37:=Tryz.sizeOf57
 v37:=Tryz.zeroValue57
 t46:=Tryz.underlying164
 a46:=Tryz.isAgg164
 z46:=Tryz.sizeOf164
 v46:=Tryz.zeroValue164
 t51:=Tryz.underlying192
 a51:=Tryz.isAgg192
 z51:=Tryz.sizeOf192
 v51:=Tryz.zeroValue192
 t53:=Tryz.underlying132
 a53:=Tryz.isAgg132
 z53:=Tryz.sizeOf132
 v53:=Tryz.zeroValue132
 t75:=Tryz.underlying142
 a75:=Tryz.isAgg142
 z75:=Tryz.sizeOf142
 v75:=Tryz.zeroValue142
 t76:=Tryz.underlying143
 a76:=Tryz.isAgg143
 z76:=Tryz.sizeOf143
 v76:=Tryz.zeroValue143
 t85:=Tryz.underlying171
 a85:=Tryz.isAgg171
 z85:=Tryz.sizeOf171
 v85:=Tryz.zeroValue171
 t127:=Tryz.underlying196
 a127:=Tryz.isAgg196
 z127:=Tryz.sizeOf196
 v127:=Tryz.zeroValue196
 t143:=Tryz.underlying197
 a143:=Tryz.isAgg197
 z143:=Tryz.sizeOf197
 v143:=Tryz.zeroValue197
 t145:=Tryz.underlying199
 a145:=Tryz.isAgg199
 z145:=Tryz.sizeOf199
 v145:=Tryz.zeroValue199
 t167:=Tryz.underlying170
 a167:=Tryz.isAgg170
 z167:=Tryz.sizeOf170
 v167:=Tryz.zeroValue170
 t168:=Tryz.underlying173
 a168:=Tryz.isAgg173
 z168:=Tryz.sizeOf173
 v168:=Tryz.zeroValue173
 t171:=Tryz.underlying180
 a171:=Tryz.isAgg180
 z171:=Tryz.sizeOf180
 v171:=Tryz.zeroValue180
 t173:=Tryz.underlying183
 a173:=Tryz.isAgg183
 z173:=Tryz.sizeOf183
 v173:=Tryz.zeroValue183
 t175:=Tryz.underlying185
 a175:=Tryz.isAgg185
 z175:=Tryz.sizeOf185
 v175:=Tryz.zeroValue185
 t210:=Tryz.underlying189
 a210:=Tryz.isAgg189
 z210:=Tryz.sizeOf189
 v210:=Tryz.zeroValue189
 t212:=Tryz.underlying191
 a212:=Tryz.isAgg191
 z212:=Tryz.sizeOf191
 v212:=Tryz.zeroValue191
 t213:=Tryz.underlying193
 a213:=Tryz.isAgg193
 z213:=Tryz.sizeOf193
 t232:=Tryz.underlying201
 a232:=Tryz.isAgg201
 z232:=Tryz.sizeOf201
 v232:=Tryz.zeroValue201
 t233:=Tryz.underlying202
 a233:=Tryz.isAgg202
 z233:=Tryz.sizeOf202
 v233:=Tryz.zeroValue202
 g15:=by kernel_rfl
 g16:=by kernel_rfl
 g17:=by kernel_rfl
 g18:=by kernel_rfl
 g19:=by kernel_rfl
 t80:=Tryz.underlying203
 a80:=Tryz.isAgg203
 z80:=Tryz.sizeOf203
 v80:=Tryz.zeroValue203
 i0:=by kernel_rfl
 i2:=by kernel_rfl
 i3:=by kernel_rfl
 i4:=by kernel_rfl
 i5:=by kernel_rfl
 i9:=by kernel_rfl
 i20:=by kernel_rfl
 i21:=by kernel_rfl
 i37:=by kernel_rfl
 i46:=by kernel_rfl
 i51:=by kernel_rfl
 i53:=by kernel_rfl
 i75:=by kernel_rfl
 i76:=by kernel_rfl
 i80:=by kernel_rfl
 i85:=by kernel_rfl
 i127:=by kernel_rfl
 i143:=by kernel_rfl
 i145:=by kernel_rfl
 i167:=by kernel_rfl
 i168:=by kernel_rfl
 i171:=by kernel_rfl
 i173:=by kernel_rfl
 i175:=by kernel_rfl
 i210:=by kernel_rfl
 i212:=by kernel_rfl
 i232:=by kernel_rfl
 i233:=by kernel_rfl
 m15:=by kernel_rfl
 m16:=by kernel_rfl
 m17:=by kernel_rfl
 m18:=by kernel_rfl
 m19:=by kernel_rfl
 c0:=by kernel_rfl
 c2:=by kernel_rfl
 c3:=by kernel_rfl
 c4:=by kernel_rfl
 c5:=by kernel_rfl
 c9:=by kernel_rfl
 c20:=by kernel_rfl
 c21:=by kernel_rfl
 c37:=by kernel_rfl
 c46:=by kernel_rfl
 c51:=by kernel_rfl
 c53:=by kernel_rfl
 c75:=by kernel_rfl
 c76:=by kernel_rfl
 c80:=by kernel_rfl
 c85:=by kernel_rfl
 c127:=by kernel_rfl
 c143:=by kernel_rfl
 c145:=by kernel_rfl
 c167:=by kernel_rfl
 c168:=by kernel_rfl
 c171:=by kernel_rfl
 c173:=by kernel_rfl
 c175:=by kernel_rfl
 c210:=by kernel_rfl
 c212:=by kernel_rfl
 c213:=by kernel_rfl
 c232:=by kernel_rfl
 c233:=by kernel_rfl }
open Go.RowKit in
theorem Tryz.strconv_Atoi_ok(s:ByteArray)(hmax:s.size<=9223372036854775806)(v:Int)(h:Lib.atoiAll s.data.toList = .ok v)(w:World) :
  Calls Tryz.prog 80 #[.string s] w fun e w'=>e = .returned (.tuple #[.int .i64 v,.nilIface])/\(w'=w∨∃t,w'=Lib.bytesWorld w 5 t):=Any.strconv_Atoi_ok Tryz.laysC172 s hmax v h w
open Go.RowKit in
theorem Tryz.strconv_Atoi_syntax(s:ByteArray)(hlim:s.size<=281474976710656)(h:Lib.atoiAll s.data.toList=(Lib.atoiAll []))(ev:Value)(w:World)(hv:w.cell? ⟨0,0,none⟩=some ev)(hev:ev = .nilIface∨∃te pe,ev = .iface te pe) :
  Calls Tryz.prog 80 #[.string s] w fun e w'=>∃N,e = .returned (.tuple #[.int .i64 (0),.iface 173 (.pointer (some ⟨N,0,none⟩))])/\w.heap.size<=N/\w'.heap[N]? = some (.cells #[.string ⟨#[65,116,111,105]⟩,.string s,ev] 189 (0,0))/\Below w.heap.size w w':=Any.strconv_Atoi_syntax Tryz.laysC172 s hlim h ev w hv hev
open Go.RowKit in
theorem Tryz.strconv_Atoi_range(s:ByteArray)(hlim:s.size<=281474976710656)(h:Lib.atoiAll s.data.toList = .range)(ev:Value)(w:World)(hv:w.cell? ⟨1,0,none⟩=some ev)(hev:ev = .nilIface∨∃te pe,ev = .iface te pe) :
  Calls Tryz.prog 80 #[.string s] w fun e w'=>∃N,e = .returned (.tuple #[.int .i64 (Lib.atoiSat s.data.toList),.iface 173 (.pointer (some ⟨N,0,none⟩))])/\w.heap.size<=N/\w'.heap[N]? = some (.cells #[.string ⟨#[65,116,111,105]⟩,.string s,ev] 189 (0,0))/\Below w.heap.size w w':=Any.strconv_Atoi_range Tryz.laysC172 s hlim h ev w hv hev
end Go.Proofs
namespace Go.Proofs.YtioogodkiglceaaGreatDoor
open Go Go.Ax Go.Proofs Tryz
set_option maxRecDepth 1000000
set_option maxRecDepth 1000000
def gz:List (Nat × AV):=[(0,.ifc 197 (.ip (.agg []))),(1,.ifc 197 (.ip (.agg []))),(2,.agg ([.int .u64 1,.int .u64 10,.int .u64 100,.int .u64 1000,.int .u64 10000,.int .u64 100000,.int .u64 1000000,.int .u64 10000000,.int .u64 100000000,.int .u64 1000000000,.int .u64 10000000000,.int .u64 100000000000,.int .u64 1000000000000,.int .u64 10000000000000,.int .u64 100000000000000,.int .u64 1000000000000000,.int .u64 10000000000000000,.int .u64 100000000000000000,.int .u64 1000000000000000000,.int .u64 10000000000000000000]))]
set_option maxRecDepth 100000
set_option maxHeartbeats 4000000
theorem eS:∀p∈gz,NN p.2:=fun p hp=>by
 simp only[gz,Vg,X7,or_false] at hp;rcases hp with rfl|rfl|rfl
 ·exact nn
 ·exact nn
 ·exact nn
theorem SU(u:Nat)(h:u<18446744073709551616):bB prog [] 141 [.int .u64 u] (.int .i64 (Lib.bitLen u)):=
 qU (fun _ _ _ _ _ h=>GC h) fun w _=>(Tryz.bits_Len64 u w om om).mono fun e w' ⟨h1,h2⟩=>⟨_,h1,fun _ _ _ _=>.int _ _,by rw[h2];exact .refl w⟩
theorem RP(x:Nat)(h:x<=64):bB prog [] 140 [.int .i64 x] (.int .i64 (Lib.l10 x)):=
 qU (fun _ _ _ _ _ h=>GC h) fun w _=>(Tryz.internal_strconv_log10Pow2 x h w).mono fun e w' ⟨h1,h2⟩=>⟨_,h1,fun _ _ _ _=>.int _ _,by rw[h2];exact .refl w⟩
theorem RJ(i:Nat)(h:i<100):bB prog [] 133 [.int .i64 i] (.str (Lib.decDigits i)):=
 qU (fun _ _ _ _ _ h=>GC h) fun w _=>(Tryz.internal_strconv_small i h w).mono fun e w' ⟨h1,h2⟩=>⟨_,h1,fun _ _ _ _=>.str _,by rw[h2];exact .refl w⟩
theorem RE(b:Bool):bB prog [] 142 [.bool b] (.int .i64 (if b then 1 else 0)):=by
 cases b
 all_goals
  refine aK bG func142 rfl ?_;refine Rr ?_;exact aA nn ⟨rfl,rfl,rfl⟩
theorem NO(t:TypeId)(xs:List UInt8)(u:Nat)(hu64:u<18446744073709551616)(hlen:1+Lib.nDigits u<=xs.length)(hxl:xs.length<=1000) :
  aH prog [] 135 [.sl 0 1 (Lib.nDigits u),.int .u64 u] [(0,.row t 1 (fE xs))] 1 fun r m n=>r = .tup []/\m=[(0,.row t 1 (fE (xs.take 1++Lib.decDigits u++xs.drop (1+Lib.nDigits u))))]:=
 Tc Tryz.internal_strconv_formatBase10 xs u hu64 hlen hxl
def T4:List AV:=[.int .u64 1,.int .u64 10,.int .u64 100,.int .u64 1000,.int .u64 10000,.int .u64 100000,.int .u64 1000000,.int .u64 10000000,.int .u64 100000000,.int .u64 1000000000,.int .u64 10000000000,.int .u64 100000000000,.int .u64 1000000000000,.int .u64 10000000000000,.int .u64 100000000000000,.int .u64 1000000000000000,.int .u64 10000000000000000,.int .u64 100000000000000000,.int .u64 1000000000000000000,.int .u64 10000000000000000000]
theorem RC(q:Nat)(h:q<=19):T4[q]? = some (.int .u64 ((10 ^ q:Nat):Int)):=by
 rcases(show q=0∨q=1∨q=2∨q=3∨q=4∨q=5∨q=6∨q=7∨q=8∨q=9∨q=10∨q=11∨q=12∨q=13∨q=14∨q=15∨q=16∨q=17∨q=18∨q=19 by omega) with rfl|rfl|rfl|rfl|rfl|rfl|rfl|rfl|rfl|rfl|rfl|rfl|rfl|rfl|rfl|rfl|rfl|rfl|rfl|rfl<;>rfl
theorem CB(u:Nat)(h1:1<=u)(h2:u<18446744073709551616):bB prog gz 134 [.int .u64 u] (.int .i64 (Lib.nDigits u)):=by
 obtain⟨e1,e2⟩:=Lib.numDigits_eq u h1 h2;have hL:=SU u h2;have hb:Lib.bitLen u<=64:=Lib.bitLen_le u 64 (Vh _) h2;generalize Lib.bitLen u=L at *;have hq:=RP L hb;generalize Lib.l10 L=q at *;generalize Lib.nDigits u=nd at *;have htab:=RC q e2;refine aK eS func134 rfl ?_;refine Rr ?_;refine hL.goG ?_;refine Rr ?_;refine hq.goG ?_;refine Rr ?_;refine aN (b:=Nat.blt q 20) (Vc om) ?_;refine Rr ?_;have htab':T4[((q:Int)).toNat*1]? = some (.int .u64 ((10 ^ q:Nat):Int)):=by simpa using htab
 clear htab;have hpq:∃pq:Int,pq=((10 ^ q:Nat):Int):=⟨_,rfl⟩
 obtain⟨pq,hpq⟩:=hpq;rw[←hpq] at htab';refine aD htab' ?_;refine Rr ?_;refine(RE _).goG ?_;refine Rr ?_;refine aA nn ⟨?_,rfl,rfl⟩;congr 1;have hle:decide ((u:Int)≥pq)=decide (10 ^ q<=u):=by rw[hpq];simp only[ge_iff_le,Int.ofNat_le]
 have hnd:nd<=20:=by rw[←e1];split<;>omega
 rw[hle,w64 (y:=(nd:Int)) _ ⟨om,om⟩];rw[←e1];by_cases hc:10 ^ q<=u<;>simp[hc]
theorem DI(u:Nat)(h2:u<18446744073709551616):Lib.nDigits u<=20:=by
 by_cases h1:1<=u
 ·obtain⟨e1,e2⟩:=Lib.numDigits_eq u h1 h2;rw[←e1];split<;>omega
 ·rw[Lib.nDigits_small om];omega
theorem Dg(n:Int):IntKind.u64.wrap n=n%18446744073709551616:=by
 simp[IntKind.wrap,IntKind.bits,IntKind.signed]
theorem J1(n:Int)(hn:i64 n):bB prog gz 122 [.int .i64 n,.int .i64 10] (.str (Lib.itoa n)):=by
 rcases(show (0<=n/\n<100)∨100<=n∨n<0 by omega) with⟨h0,h1⟩|h1|h1
 ·obtain⟨i,rfl⟩:∃i:Nat,n=i:=⟨n.toNat,om⟩
  have d2:decide ((i:Int)<100)=true:=by simpa using h1
  refine aK eS func122 rfl ?_;refine Rr ?_;rw[d2];refine Rr ?_;refine(RJ i om).goG ?_;refine Rr ?_;refine aA nn ⟨?_,rfl,rfl⟩;rw[Lib.itoa_nonneg]
 ·obtain⟨u,rfl⟩:∃i:Nat,n=i:=⟨n.toNat,om⟩
  have d2:decide ((u:Int)<100)=false:=by simp;omega
  have d3:decide ((u:Int)<0)=false:=by simp
  unfold i64 at hn;have hw:IntKind.u64.wrap (u:Int)=(u:Int):=by rw[Dg];omega
  have hu64:u<18446744073709551616:=om;have hnd:=DI u hu64;have hF:=(NO 180 (List.replicate 24 0) u hu64 (by simp;omega) (by simp)).glob (Γ:=gz);have hdl:=Lib.decDigits_length u;have hN:=CB u om hu64;have hdd:(Lib.decDigits u++List.drop (1+Lib.nDigits u) (List.replicate 24 0)).length=23:=by simp[hdl];omega
  have hit:=Lib.itoa_nonneg u;generalize Lib.nDigits u=nd at hN hF hnd hdl hdd;generalize Lib.decDigits u=ds at hF hdl hit hdd;refine aK eS func122 rfl ?_;refine Rr ?_;rw[d2];refine Rr ?_;rw[hw];refine hN.use eS dE nn ?_;refine Rr ?_;rw[w64 (x:=1+(nd:Int)) (y:=((1+nd:Nat):Int)) om ⟨om,om⟩];refine Rr ?_;refine aN (Ij (by simp;omega) (by simp;omega) (by simp)) ?_;refine Rr ?_;refine aH.useI eS [0] hF (by rfl) (.cons (.slE rfl (by simp;omega)) (.s .nil)) ⟨aL 0 (Go.Ax.d6 _),trivial⟩ rfl ?_;rintro r m n' ⟨rfl,rfl⟩;refine⟨nn,⟨aL 0 (Go.Ax.d6 _),trivial⟩,rfl, ?_⟩;have hlist:List.take 1 (List.replicate 24 (0:UInt8))++ds++List.drop (1+nd) (List.replicate 24 0)=0::(ds++List.drop (1+nd) (List.replicate 24 0)):=rfl;rw[hlist];have htk:List.take nd (ds++List.drop (1+nd) (List.replicate 24 0))=ds:=by rw[Wm om,Vl om]
  generalize ds++List.drop (1+nd) (List.replicate 24 0)=rest at hdd htk;have hrl:(fE (0::rest)).length=24:=by rw[fG];simp[hdd]
  refine Rr ?_;refine aN (by rw[VZ];exact⟨rfl,Vc (by rw[hrl];omega)⟩) ?_;refine Rr ?_;rw[w64 (x:=1+(nd:Int)) (y:=((1+nd:Nat):Int)) om ⟨om,om⟩];refine Rr ?_;refine aN (Ij (by simp;omega) (by simp;omega) (by simp)) ?_;refine Rr ?_;refine aN (Vc (by rw[hrl];simp;omega)) ?_;refine aD (a:=ds) ?_ ?_
  ·rw[Em,E0,oG]
   show some (List.take ((((1+nd:Nat):Int)).toNat-1) rest)=some ds
   rw[←htk];congr 2;simp;omega
  refine Rr ?_;refine aA nn ⟨?_,rfl,rfl⟩;rw[hit]
 ·obtain⟨u,rfl⟩:∃i:Nat,n = -(i:Int):=⟨(-n).toNat,om⟩
  have d1:decide (0<=-(u:Int))=false:=by simp;omega
  have d3:decide (-(u:Int)<0)=true:=by simp;omega
  unfold i64 at hn;have hw:IntKind.u64.wrap (0-IntKind.u64.wrap (-(u:Int)))=(u:Int):=by rw[Dg,Dg];omega
  have hu64:u<18446744073709551616:=om;have hnd:=DI u hu64;have hF:=(NO 180 (List.replicate 24 0) u hu64 (by simp;omega) (by simp)).glob (Γ:=gz);have hdl:=Lib.decDigits_length u;have hN:=CB u om hu64;have hdd:(Lib.decDigits u++List.drop (1+Lib.nDigits u) (List.replicate 24 0)).length=23:=by simp[hdl];omega
  have hit:=Lib.itoa_neg u om;generalize Lib.nDigits u=nd at hN hF hnd hdl hdd;generalize Lib.decDigits u=ds at hF hdl hit hdd;refine aK eS func122 rfl ?_;refine Rr ?_;rw[d1];refine Rr ?_;rw[d3];refine Rr ?_;rw[hw];refine hN.use eS dE nn ?_;refine Rr ?_;rw[w64 (x:=1+(nd:Int)) (y:=((1+nd:Nat):Int)) om ⟨om,om⟩];refine Rr ?_;refine aN (Ij (by simp;omega) (by simp;omega) (by simp)) ?_;refine Rr ?_;refine aH.useI eS [0] hF (by rfl) (.cons (.slE rfl (by simp;omega)) (.s .nil)) ⟨aL 0 (Go.Ax.d6 _),trivial⟩ rfl ?_;rintro r m n' ⟨rfl,rfl⟩;refine⟨nn,⟨aL 0 (Go.Ax.d6 _),trivial⟩,rfl, ?_⟩;have hlist:List.take 1 (List.replicate 24 (0:UInt8))++ds++List.drop (1+nd) (List.replicate 24 0)=0::(ds++List.drop (1+nd) (List.replicate 24 0)):=rfl;rw[hlist];have htk:List.take nd (ds++List.drop (1+nd) (List.replicate 24 0))=ds:=by rw[Wm om,Vl om]
  generalize ds++List.drop (1+nd) (List.replicate 24 0)=rest at hdd htk;have hrl:∀b,(fE (b::rest)).length=24:=fun b=>by rw[fG];simp[hdd]
  refine Rr ?_;rw[d3];refine Rr ?_;refine aN (by rw[VZ];exact⟨rfl,Vc (Nat.le_of_eq (hrl 45).symm)⟩) ?_;refine Rr ?_;rw[w64 (x:=1+(nd:Int)) (y:=((1+nd:Nat):Int)) om ⟨om,om⟩];refine Rr ?_;refine aN (Ij (by simp) (by simp;omega) (by simp)) ?_;refine Rr ?_;refine aN (Vc (show _<=(fE (45::rest)).length by rw[hrl];simp;omega)) ?_;refine aD (a:=45::ds) (show gD (List.take ((((1+nd:Nat):Int)).toNat-0) (List.drop (0+0) (fE (45::rest))))=_ from ?_) ?_
  ·rw[Em,E0,oG];have e:(((1+nd:Nat):Int)).toNat-0=nd+1:=by simp;omega
   rw[e]
   show some (45::List.take nd rest)=_
   rw[htk]
  refine Rr ?_;refine aA nn ⟨?_,rfl,rfl⟩;rw[hit]
theorem RG(n:Int)(hn:i64 n):bB prog gz 108 [.int .i64 n] (.str (Lib.itoa n)):=by
 have h:=J1 n hn;generalize Lib.itoa n=r at h;refine aK eS func108 rfl ?_;refine Rr ?_;refine h.use eS dE nn ?_;refine Rr ?_;exact aA nn ⟨rfl,rfl,rfl⟩
theorem Qn(n:Int)(hn:i64 n):bB prog gz 79 [.int .i64 n] (.str (Lib.itoa n)):=by
 have h:=RG n hn;generalize Lib.itoa n=r at h;refine aK eS func79 rfl ?_;refine Rr ?_;refine h.use eS dE nn ?_;refine Rr ?_;exact aA nn ⟨rfl,rfl,rfl⟩
set_option maxRecDepth 100000
set_option maxHeartbeats 4000000
theorem Ew{g:Nat}{t:TypeId}{v:AV}{w:World}(h:Me gz w)(hg:(g,AV.ifc t v)∈gz):∃ev,w.cell? ⟨g,0,none⟩=some ev/\(ev = .nilIface∨∃te pe,ev = .iface te pe):=by
 obtain⟨x,ρ,D,O,h1,h2⟩:=h _ hg 0 (.ifc t v) rfl;cases h2 with
 | ifc _ _ y hy=>exact⟨_,h1,.inr ⟨_,_,rfl⟩⟩
theorem S2(s:List UInt8)(hs:s.length<=4294967296) :
  ∃(n:Int) (e:AV),i64 n/\(e = .nif∨e = .ifc 173 .junk)/\bB prog gz 80 [.str s] (.tup [.int .i64 n,e])/\(∀m,Lib.atoiAll s = .ok m->n=m/\e = .nif):=by
 have hsz:(⟨s.toArray⟩:ByteArray).size=s.length:=by simp[ByteArray.size]
 have hd:(⟨s.toArray⟩:ByteArray).data.toList=s:=by simp
 cases h:Lib.atoiAll s with
 | ok v=>
  refine⟨v,.nif,Lib.atoiAll_bounds h,.inl rfl,qU (fun _ _ _ _ _ h=>F3 h) fun w _=>?_,fun m hm=>⟨by injection hm,rfl⟩⟩;refine(Tryz.strconv_Atoi_ok ⟨s.toArray⟩ (by rw[hsz];omega) v (by rw[hd];exact h) w).mono ?_;rintro e w' ⟨rfl,hw⟩;refine⟨_,rfl,fun _ _ _ _=>.tup _ _ rfl fun j c x h1 h2=>?_, ?_⟩
  ·match j,h1,h2 with
   | 0,h1,h2=>simp at h1 h2;subst h1 h2;exact .int _ _
   | 1,h1,h2=>simp at h1 h2;subst h1 h2;exact .nif
   | j+2,h1,h2=>simp at h1
  ·rcases hw with rfl|⟨t,rfl⟩
   ·exact .refl _
   ·exact HQ _ _ _
 | range=>
  refine⟨Lib.atoiSat s,.ifc 173 .junk,Lib.atoiSat_bounds s,.inr rfl,qU (fun _ _ _ _ _ h=>F3 h) fun w hk=>?_,fun m hm=>by cases hm⟩;obtain⟨ev,h1,h2⟩:=Ew (g:=1) hk (.tail _ (.head _));have hc:=Tryz.strconv_Atoi_range ⟨s.toArray⟩ (by rw[hsz];omega) (by rw[hd];exact h) ev w h1 h2;rw[hd] at hc;refine hc.mono ?_;rintro e w' ⟨N,rfl,-,-,hb⟩;refine⟨_,rfl,fun _ _ _ _=>.tup _ _ rfl fun j c x h1 h2=>?_,BB hb⟩
  match j,h1,h2 with
  | 0,h1,h2=>simp at h1 h2;subst h1 h2;exact .int _ _
  | 1,h1,h2=>simp at h1 h2;subst h1 h2;exact .ifc _ _ _ (.junk _)
  | j+2,h1,h2=>simp at h1
 | _=>
  refine⟨0,.ifc 173 .junk,⟨om,om⟩,.inr rfl,qU (fun _ _ _ _ _ h=>F3 h) fun w hk=>?_,fun m hm=>by cases hm⟩;obtain⟨ev,h1,h2⟩:=Ew (g:=0) hk (.head _);refine(Tryz.strconv_Atoi_syntax ⟨s.toArray⟩ (by rw[hsz];omega) (by rw[hd];exact h) ev w h1 h2).mono ?_;rintro e w' ⟨N,rfl,-,-,hb⟩;refine⟨_,rfl,fun _ _ _ _=>.tup _ _ rfl fun j c x h1 h2=>?_,BB hb⟩
  match j,h1,h2 with
  | 0,h1,h2=>simp at h1 h2;subst h1 h2;exact .int _ _
  | 1,h1,h2=>simp at h1 h2;subst h1 h2;exact .ifc _ _ _ (.junk _)
  | j+2,h1,h2=>simp at h1
set_option maxRecDepth 100000
set_option maxHeartbeats 4000000
set_option maxRecDepth 100000
set_option maxHeartbeats 8000000
theorem IB(x:Nd)(hx:xP x):bB prog [] 50 [.ip (bW x)] (.int .i64 (dQ x)):=by
 have hr:=hx.rng;unfold dQ;obtain⟨kind,name,lo,hi,ws,ls,vals,kids,⟨vk,vn,vs,vks⟩⟩:=x;simp only at hr ⊢;have e1:IntKind.i64.wrap (hi-lo)=hi-lo:=cV ⟨om,om⟩;have e2:IntKind.i64.wrap (hi-lo+1)=hi-lo+1:=cV ⟨om,om⟩;refine aK bG func50 rfl ?_;refine Rr ?_;refine aI (fun h=>?_) (fun h=>?_)
 ·have h1:kind=1:=by simpa using h
  rw[Vb h1];refine Rt ?_;rw[e1,e2];exact aA nn ⟨rfl,rfl,rfl⟩
 ·have h1:¬kind=1:=by simpa using h
  rw[VY h1];refine Rr ?_;refine aI (fun h=>?_) (fun h=>?_)
  ·have h2:kind=2:=by simpa using h
   rw[Vb h2];refine Rr ?_;rw[aC];exact aA nn ⟨rfl,rfl,rfl⟩
  ·have h2:¬kind=2:=by simpa using h
   rw[VY h2];refine Rr ?_;exact aA nn ⟨rfl,rfl,rfl⟩
theorem SH(l:List (List UInt8))(s:List UInt8)(hl:l.length<=4294967296):bB prog [] 78 [.il 1 (jB l),.str s] (.int .i64 (zZ l s)):=by
 refine aK bG func78 rfl ?_;refine Rr ?_;refine bC.at bG (fun i:Nat=>i<=l.length/\zZ l s=oR s (l.drop i) i) (fun i=>⟨[(0,.il 1 (jB l)),(1,.str s),(7,.int .i64 l.length),(8,.int .i64 i)],[],0,19⟩) (fun i=>l.length-i) 0 [] ⟨by simp,by simp[zZ]⟩
  (bX ⟨aR (.il' (dV _)),aF,⟨_,rfl,.int (by rw[bE])⟩,aF,trivial⟩) ?_
 rintro i ⟨hi,hx⟩;refine Rr ?_;refine aI (fun h=>?_) (fun h=>?_)
 ·have hil:i<l.length:=by simpa using h
  have ei:=sL hil;rw[List.drop_eq_getElem_cons hil,oR] at hx;generalize l[i]=t at ei hx;refine Rr ?_;refine aD ei ?_;refine Rr ?_;refine aI (fun h2=>?_) (fun h2=>?_)
  ·have e:s=t:=by simpa using h2
   rw[Vb e.symm] at hx;rw[hx];refine Rr ?_;exact aA nn ⟨rfl,rfl,rfl⟩
  ·have e:¬s=t:=by simpa using h2
   rw[VY fun h=>e h.symm] at hx;refine Rr ?_;exact .mk (i+1) [] ⟨om,hx⟩ (bX ⟨aR (.il' (dV _)),aF,aF,⟨_,rfl,.w64 om ⟨om,om⟩⟩,trivial⟩) om
 ·have hil:i=l.length:=by simp at h;omega
  rw[hil,Wf,oR] at hx;rw[hx];refine Rr ?_;exact aA nn ⟨rfl,rfl,rfl⟩
set_option maxRecDepth 100000
set_option maxHeartbeats 8000000
theorem Pd{s:List UInt8}{n:Int}(hn:i64 n):Lib.itoa n=s->Nz s=some n:=fun h=>by
 unfold Nz;rw[←h,Lm hn];simp
theorem R3(a b:Nd)(k:Nat)(ha:xP a)(hb:xP b)(hk:(k:Int)<dQ a)(hab:a.kind=1/\b.kind=2∨a.kind=2/\b.kind=1∨a.kind=2/\b.kind=2)(hll:∀s∈a.labels,s.length<=4294967296)(hbl:b.labels.length<=1000) :
  bB prog gz 51 [.ip (bW a),.ip (bW b),.int .i64 k] (.tup [.int .i64 (yD a b k).1,.bool (yD a b k).2]):=by
 have har:=ha.rng;have hbr:=hb.rng;have hao:=qI ha;have hach:=ha.ch;have hakl:=ha.klen;have hko:a.kind=2->k<a.kids.length:=fun h=>by unfold dQ at hk;rw[VY om,Vb h] at hk;omega
 have hI:=SH b.labels;unfold yD;obtain⟨kind,name,lo,hi,ws,ls,vals,kids,⟨vk,vn,vs,vks⟩⟩:=a;obtain⟨kind',name',lo',hi',ws',ls',vals',kids',⟨vk',vn',vs',vks'⟩⟩:=b;simp only at har hbr hach hakl hko hI hll hbl hab ⊢;refine aK eS func51 rfl ?_;rcases hab with⟨rfl,rfl⟩|⟨rfl,rfl⟩|⟨rfl,rfl⟩
 ·have hw:IntKind.i64.wrap (lo+(k:Int))=lo+k:=cV ⟨om,om⟩;have hIt:=Qn (lo+k) ⟨om,om⟩;have hX:=hI (Lib.itoa (lo+k)) om;simp only[if_true];generalize Lib.itoa (lo+k)=z at hIt hX ⊢;generalize zZ ls' z=q at hX ⊢;refine Rr ?_;rw[hw];refine hIt.use eS dE nn ?_;refine Rt ?_;refine hX.goG ?_ (.cons (.il' (dV _)) dE);refine Rt ?_;exact aA nn ⟨rfl,rfl,rfl⟩
 ·rw[VY om,Vb rfl];by_cases l0:ls.length=0
  ·rw[Vb l0];obtain rfl:ls=[]:=WL.1 l0;refine Rr ?_;exact aA nn ⟨rfl,rfl,rfl⟩
  ·rw[VY l0];have hll2:ls.length=kids.length:=by rcases(hach rfl).2 with h|h;exact absurd h l0;exact h
   have hkl:k<ls.length:=by have:=hko rfl;omega
   have ek:=sL hkl;have d0:(((jB ls).length:Int) == 0)=false:=by rw[bE,beq_eq_false_iff_ne];omega
   have hgd:ls.getD k []=ls[k]:=by rw[VW,VV hkl];rfl
   have hsl:=hll _ (Vw hkl);rw[hgd];generalize ls[k]=s at ek hsl ⊢;obtain⟨n,e,hn,he,hA,hok⟩:=S2 s hsl;have hIt:=Qn n hn;refine Rr ?_;rw[d0];refine Rr ?_;refine aD ek ?_;refine Rr ?_;refine hA.use eS dE (by rcases he with rfl|rfl<;>exact nn) ?_;have hnone:(∀m,Lib.atoiAll s = .ok m->Lib.itoa m≠s)->Nz s=none:=by
    intro h;unfold Nz;split
    ·rename_i m hm;rw[VY (h m hm)]
    ·rfl
   rcases he with rfl|rfl
   ·by_cases hq:Lib.itoa n=s
    ·rw[Pd hn hq];simp only;have hne:(s == s)=true:=by simp
     rw[hq] at hIt;refine Rr ?_;repeat((first|refine aU ?_|refine aD ek ?_);refine Rr ?_)
     refine hIt.use eS dE nn ?_;refine Rr ?_;repeat((first|refine aU ?_|refine aD ek ?_);refine Rr ?_)
     rw[hne];refine Rr ?_;repeat((first|refine aU ?_|refine aD ek ?_);refine Rr ?_)
     refine aI (fun h1=>?_) (fun h1=>?_)
     ·have h2:n<lo':=by simpa using h1
      rw[Vb (.inl h2)];rw[h1];refine Rr ?_;repeat((first|refine aU ?_|refine aD ek ?_);refine Rr ?_)
      exact aA nn ⟨rfl,rfl,rfl⟩
     ·have h2:¬n<lo':=by simpa using h1
      rw[h1];refine Rr ?_;repeat((first|refine aU ?_|refine aD ek ?_);refine Rr ?_)
      refine aI (fun h3=>?_) (fun h3=>?_)
      ·have h4:hi'<n:=by simpa using h3
       rw[Vb (.inr h4)];refine Rr ?_;exact aA nn ⟨rfl,rfl,rfl⟩
      ·have h4:¬hi'<n:=by simpa using h3
       rw[VY om];refine Rr ?_;rw[cV (n:=n-lo') ⟨om,om⟩];exact aA nn ⟨rfl,rfl,rfl⟩
    ·rw[hnone fun m hm=>by obtain⟨rfl,_⟩:=hok m hm;exact hq];simp only;have hne:(Lib.itoa n == s)=false:=by simpa using hq
     generalize Lib.itoa n=z at hIt hne;refine Rr ?_;repeat((first|refine aU ?_|refine aD ek ?_);refine Rr ?_)
     refine hIt.use eS dE nn ?_;refine Rr ?_;repeat((first|refine aU ?_|refine aD ek ?_);refine Rr ?_)
     rw[hne];refine Rr ?_;repeat((first|refine aU ?_|refine aD ek ?_);refine Rr ?_)
     exact aA nn ⟨rfl,rfl,rfl⟩
   ·rw[hnone fun m hm=>by have:=(hok m hm).2;simp at this];simp only;refine Rr ?_;repeat((first|refine aU ?_|refine aD ek ?_);refine Rr ?_)
    exact aA nn ⟨rfl,rfl,rfl⟩
 ·rw[VY om,VY om];have eb0:∀l:List (List UInt8),l.length≠0->(((jB l).length:Int) == 0)=false:=fun l h=>by rw[bE,beq_eq_false_iff_ne];omega
  have hkid:(decide ((k:Int)<((aS kids').length:Nat)))=decide (k<kids'.length):=by rw[aC,V5];simp
  by_cases l0:ls.length=0
  ·rw[Vb (.inl l0)];obtain rfl:ls=[]:=WL.1 l0;refine Rr ?_;rw[hkid];exact aA nn ⟨rfl,rfl,rfl⟩
  ·have d0:=eb0 ls l0;have hll2:ls.length=kids.length:=by rcases(hach rfl).2 with h|h;exact absurd h l0;exact h
   have hkl:k<ls.length:=by have:=hko rfl;omega
   have ek:=sL hkl;have hgd:ls.getD k []=ls[k]:=by rw[VW,VV hkl];rfl
   rw[hgd];generalize ls[k]=s at ek ⊢;by_cases l1:ls'.length=0
   ·rw[Vb (.inr l1)];obtain rfl:ls'=[]:=WL.1 l1;refine Rr ?_;rw[d0];refine Rr ?_;rw[hkid];exact aA nn ⟨rfl,rfl,rfl⟩
   ·rw[VY om];have d1:=eb0 ls' l1;have hX:=hI s om;generalize zZ ls' s=q at hX ⊢;refine Rr ?_;rw[d0];refine Rr ?_;rw[d1];refine Rr ?_;by_cases k1:k<ls'.length
    ·have ek':=sL k1;have hgd':ls'.getD k []=ls'[k]:=by rw[VW,VV k1];rfl
     rw[hgd'];generalize ls'[k]=s' at ek' ⊢;have dk:decide ((k:Int)<((jB ls').length:Nat))=true:=by rw[bE];simp;omega
     rw[dk];refine Rr ?_;repeat((first|refine aU ?_|refine aD ek ?_|refine aD ek' ?_);refine Rr ?_)
     refine aI (fun h1=>?_) (fun h1=>?_)
     ·have h2:s'=s:=by simpa using h1
      rw[Vb ⟨k1,h2⟩];refine Rr ?_;exact aA nn ⟨rfl,rfl,rfl⟩
     ·have h2:¬s'=s:=by simpa using h1
      rw[VY fun h=>h2 h.2];refine Rr ?_;repeat((first|refine aU ?_|refine aD ek ?_|refine aD ek' ?_);refine Rr ?_)
      refine hX.goG ?_ (.cons (.il' (dV _)) dE);refine Rr ?_;repeat((first|refine aU ?_|refine aD ek ?_|refine aD ek' ?_);refine Rr ?_)
      exact aA nn ⟨rfl,rfl,rfl⟩
    ·have dk:decide ((k:Int)<((jB ls').length:Nat))=false:=by rw[bE];simp;omega
     rw[dk,VY fun h=>k1 h.1];refine Rr ?_;repeat((first|refine aU ?_|refine aD ek ?_);refine Rr ?_)
     refine hX.goG ?_ (.cons (.il' (dV _)) dE);refine Rr ?_;repeat((first|refine aU ?_|refine aD ek ?_);refine Rr ?_)
     exact aA nn ⟨rfl,rfl,rfl⟩
set_option maxRecDepth 100000
set_option maxHeartbeats 8000000
theorem HA{mem:aP}{id:Nat}{x:Nd}(h:lk mem id=some (.row 46 12 [bW x])):Cv mem [] (.ptr id 0 0) (.ip (bW x)):=by
 refine .fzp id 0 0 _ _ _ (bW x) _ h rfl rfl om (fun k c c' h1 h2=>?_);rw[V0] at h1;rw[h1] at h2;cases h2;exact .same _ ((aV x).cells.get k c h1)
theorem Nf{n:Int}{b:Bool}:Sc (.tup [.int .i64 n,.bool b]):=.tup _ fun j c h=>by
 match j,h with
 | 0,h=>simp at h;subst h;exact .int _ _
 | 1,h=>simp at h;subst h;exact .bool _
 | j+2,h=>simp at h
theorem Ko(a b:Nd)(k:Int)(hk:i64 k)(ha:xP a)(hb:xP b)(hll:∀s∈a.labels,s.length<=4294967296)(hbl:b.labels.length<=1000) :
  bB prog gz 22 [bW a,bW b,.int .i64 k] (.tup [.int .i64 (qO a b k).1,.bool (qO a b k).2]):=by
 have har:=ha.rng;have hbr:=hb.rng;have hOa:=IB a ha;have hOb:=IB b hb;have hob:=qI hb;have hoa:=qI ha;have hC:=fun hk2 hab=>R3 a b k.toNat ha hb hk2 hab hll hbl
 have hna:=aV a;have hnb:=aV b;have eo:(qO a b k)=if k<0∨dQ a<=k∨dQ b=0 then(0,false)
  else if a.kind=1/\b.kind=1 then(min (max (a.lo+k) b.lo) b.hi-b.lo,decide (min (max (a.lo+k) b.lo) b.hi=a.lo+k))
  else if (yD a b k.toNat).2=true then((yD a b k.toNat).1,true) else(min k (dQ b-1),false):=rfl
 have hka:dQ a≠0->a.kind=1∨a.kind=2:=fun h=>by
  unfold dQ at h;split at h
  ·omega
  ·split at h
   ·omega
   ·exact absurd rfl h
 have hkb:dQ b≠0->b.kind=1∨b.kind=2:=fun h=>by
  unfold dQ at h;split at h
  ·omega
  ·split at h
   ·omega
   ·exact absurd rfl h
 have hxa:a.kind=1->dQ a=a.hi-a.lo+1:=fun h=>by unfold dQ;rw[Vb h]
 rw[eo];generalize yD a b k.toNat=cr at hC ⊢;generalize dQ a=oa at hOa hoa hC hka hxa ⊢;generalize dQ b=ob at hOb hob hkb ⊢;obtain⟨ca,cb⟩:=cr;have hfin:∀(r1:Int) (r2:Bool) (x:Int × Bool) (mem:aP) (n:Nat),r1=x.1->r2=x.2->kN 0 (fun r' m n=>r'=AV.tup [.int .i64 x.1,.bool x.2]/\m=[]/\n=0) (.tup [.int .i64 r1,.bool r2]) mem n:=by
  rintro r1 r2 x mem n rfl rfl;exact aA nn ⟨rfl,rfl,rfl⟩
 refine aK eS func22 rfl ?_;obtain⟨kind,name,lo,hi,ws,ls,vals,kids,⟨vk,vn,vs,vks⟩⟩:=a;obtain⟨kind',name',lo',hi',ws',ls',vals',kids',⟨vk',vn',vs',vks'⟩⟩:=b;simp only at har hbr hka hkb hC hxa ⊢;by_cases h0:k<0
 ·rw[Vb (.inl h0)];have d0:decide (k<0)=true:=by simpa using h0
  refine Rr ?_;rw[d0];refine Rr ?_;exact aA nn ⟨rfl,rfl,rfl⟩
 ·have d0:decide (k<0)=false:=by simpa using h0
  refine Rr ?_;rw[d0];refine Rr ?_;refine aH.lend eS hOa.glob (.cons (HA rfl) .nil) ?_;rintro r m n ⟨rfl,rfl,rfl⟩;refine⟨.int _ _, ?_⟩;by_cases h1:oa<=k
  ·rw[Vb (.inr (.inl h1))];have d1:decide (k≥oa)=true:=by simpa using h1
   refine Rr ?_;rw[d1];refine Rr ?_;exact aA nn ⟨rfl,rfl,rfl⟩
  ·have d1:decide (k≥oa)=false:=by simp;omega
   refine Rr ?_;rw[d1];refine Rr ?_;refine aH.lend eS hOb.glob (.cons (HA rfl) .nil) ?_;rintro r m n ⟨rfl,rfl,rfl⟩;refine⟨.int _ _, ?_⟩;by_cases h2:ob=0
   ·rw[Vb (.inr (.inr h2))];subst h2;refine Rr ?_;exact aA nn ⟨rfl,rfl,rfl⟩
   ·have d2:(ob == 0)=false:=by simpa using h2
    rw[VY om];refine Rr ?_;rw[d2];have hka:=hka om;have hkb:=hkb h2;by_cases hrr:kind=1/\kind'=1
    ·rw[Vb hrr];obtain⟨rfl,rfl⟩:=hrr;have hxa:=hxa rfl;have hw:IntKind.i64.wrap (lo+k)=lo+k:=cV ⟨om,om⟩;have en:(if hi'<(if lo'>lo+k then lo' else lo+k) then hi' else if lo'>lo+k then lo' else lo+k)=min (max (lo+k) lo') hi':=by split<;>split<;>omega
     refine Rr ?_;rw[hw];refine hfin _ _ _ _ _ ?_ ?_
     ·simp only;rw[en];exact cV ⟨om,om⟩
     ·simp only;rw[en,V5];simp
    ·rw[VY hrr];have hC:=hC om om;have hkk:((k.toNat:Nat):Int)=k:=om;rw[hkk] at hC;rcases(show kind=2∨(kind=1/\kind'=2) by omega) with rfl|⟨rfl,rfl⟩
     ·refine Rr ?_;refine aH.lend eS hC (.cons (HA rfl) (.cons (HA rfl) (.s .nil))) ?_;rintro r m n ⟨rfl,rfl,rfl⟩;refine⟨Nf, ?_⟩;cases cb with
      | true=>
       rw[Vb rfl];refine Rr ?_;exact aA nn ⟨rfl,rfl,rfl⟩
      | false=>
       rw[VY (by simp)];refine Rr ?_;refine aH.lend eS hOb.glob (.cons (HA rfl) .nil) ?_;rintro r m n ⟨rfl,rfl,rfl⟩;refine⟨.int _ _, ?_⟩;have hwb:IntKind.i64.wrap (ob-1)=ob-1:=cV ⟨om,om⟩;refine Rr ?_;rw[hwb];refine hfin _ _ _ _ _ ?_ rfl;simp only;split<;>omega
     ·refine Rr ?_;refine aH.lend eS hC (.cons (HA rfl) (.cons (HA rfl) (.s .nil))) ?_;rintro r m n ⟨rfl,rfl,rfl⟩;refine⟨Nf, ?_⟩;cases cb with
      | true=>
       rw[Vb rfl];refine Rr ?_;exact aA nn ⟨rfl,rfl,rfl⟩
      | false=>
       rw[VY (by simp)];refine Rr ?_;refine aH.lend eS hOb.glob (.cons (HA rfl) .nil) ?_;rintro r m n ⟨rfl,rfl,rfl⟩;refine⟨.int _ _, ?_⟩;have hwb:IntKind.i64.wrap (ob-1)=ob-1:=cV ⟨om,om⟩;refine Rr ?_;rw[hwb];refine hfin _ _ _ _ _ ?_ rfl;simp only;split<;>omega
set_option maxRecDepth 100000
set_option maxHeartbeats 8000000
theorem UO(a b:a6)(ha:gH a):bB prog [] 81 [bS a,bS b] (.bool (cE a b == 0)):=by
 have hc:=nS a b ha;obtain⟨a1,a2,a3,a4⟩:=a;obtain⟨b1,b2,b3,b4⟩:=b;generalize cE (.mk a1 a2 a3 a4) (.mk b1 b2 b3 b4)=c at hc ⊢;refine aK bG func81 rfl ?_;refine Rr ?_;refine hc.go ?_;refine Rr ?_;exact aA nn ⟨rfl,rfl,rfl⟩
theorem Jh(l m:List a6)(hl:l.length<=4294967296)(hm:m.length<=4294967296)(hok:∀a∈l,gH a) :
  bB prog [] 73 [.il 4 (aQ l),.il 4 (aQ m),.fn (.func 81) [] []] (.bool (dB l m)):=by
 have hE:=fun a ha b=>UO a b (hok a ha)
 refine aK bG func73 rfl ?_;refine Rr ?_;refine aI (fun h=>?_) (fun h=>?_)
 ·have h1:l.length≠m.length:=by rw[aB,aB] at h;simp at h;omega
  have:dB l m=false:=by
   cases e:dB l m with
   | false=>rfl
   | true=>exact absurd (lH e) h1
  rw[this];refine Rr ?_;exact aA nn ⟨rfl,rfl,rfl⟩
 ·have h1:l.length=m.length:=by rw[aB,aB] at h;simp at h;omega
  refine Rr ?_;refine bC.at bG (fun i:Nat=>i<=l.length/\dB l m=dB (l.drop i) (m.drop i)) (fun i=>⟨[(1,.il 4 (aQ m)),(2,.fn (.func 81) [] []),(15,.il 4 (aQ l)),(16,.int .i64 l.length),(17,.int .i64 i)],[],0,32⟩) (fun i=>l.length-i) 0 [] ⟨by simp,by simp⟩
   (bX ⟨aR (.il' (aO _)),aF,aR (.il' (aO _)),⟨_,rfl,.int (by rw[aB])⟩,aF,trivial⟩) ?_
  rintro i ⟨hi,hs⟩;refine Rr ?_;refine aI (fun hb=>?_) (fun hb=>?_)
  ·have hil:i<l.length:=by simpa using hb
   obtain⟨p1,p2,p3,p4,pm,pg,pe,ep⟩:=bT (l:=l) (k:=i) hil;obtain⟨q1,q2,q3,q4,qm,qg,qe,eq⟩:=bT (l:=m) (k:=i) om;rw[List.drop_eq_getElem_cons hil,List.drop_eq_getElem_cons (show i<m.length by omega),dB,pe,qe] at hs;have hc:=hE _ pm (.mk q1 q2 q3 q4);obtain⟨c,hc0⟩:∃c,c=cE (.mk p1 p2 p3 p4) (.mk q1 q2 q3 q4):=⟨_,rfl⟩
   rw[←hc0] at hc hs;refine Rr ?_;repeat((first|refine aD ep ?_|refine aD eq ?_|refine aU ?_);refine Rr ?_)
   refine hc.go ?_;refine Rr ?_;refine aI (fun h=>?_) (fun h=>?_)
   ·have:decide (c=0)=false:=by simpa using h
    rw[hs,this];refine Rr ?_;exact aA nn ⟨rfl,rfl,rfl⟩
   ·have:decide (c=0)=true:=by simpa using h
    rw[this] at hs;refine Rr ?_;exact .mk (i+1) [] ⟨om,hs⟩ (bX ⟨aR (.il' (aO _)),aF,aR (.il' (aO _)),aF,⟨_,rfl,.w64 om ⟨om,om⟩⟩,trivial⟩) om
  ·have hil:i=l.length:=by simp at hb;omega
   rw[hil,Wf,h1,Wf,dB] at hs;rw[hs];refine Rr ?_;exact aA nn ⟨rfl,rfl,rfl⟩
set_option maxRecDepth 100000
set_option maxHeartbeats 4000000
theorem Hu{l:List a6}{v:a6}(h:(cD l v).2=true):kF l v=((cD l v).1,true):=by simp[kF,h]
theorem Io{l:List a6}{v:a6}(h:(cD l v).2=false)(h0:(cD l v).1=0):kF l v=(0,false):=by simp[kF,h,h0]
theorem Jy{l:List a6}{v:a6}(h:(cD l v).2=false)(h0:(cD l v).1≠0)(h1:(cD l v).1=l.length):kF l v=((cD l v).1-1,false):=by
 have:l[(cD l v).1]? = none:=Vo om;simp[kF,h,h0,this]
theorem LY{l:List a6}{v a b:a6}(h:(cD l v).2=false)(h0:(cD l v).1≠0)(ha:l[(cD l v).1-1]? = some a)(hb:l[(cD l v).1]? = some b) :
  kF l v=if zG a=0/\zG v=0/\zG b=0/\Mz (Gf a) (Gf v) (Gf b)=true then((cD l v).1-1,false) else((cD l v).1,false):=by
 simp[kF,h,h0,ha,hb]
theorem L5(k:Int)(b:Bool):NN (.tup [.int .i64 k,.bool b]):=.tup' (.cons (.int _ _) (.cons (.bool _) .nil))
theorem Mw(l:List a6)(v:a6)(hl:l.length<=4294967296)(hok:∀a∈l,gH a)(hs:lN l) :
  bB prog [] 84 [.il 4 (aQ l),bS v] (.tup [.int .i64 (kF l v).1,.bool (kF l v).2]):=by
 obtain⟨vk,vn,vs,vks⟩:=v;have nl:NN (.il 4 (aQ l)):=.il' (aO l);refine eX bG func84 rfl ?_
 conv=>whnf
 refine(Q9 l (.mk vk vn vs vks) hl hok hs).use bG (.cons nl (.cons (bN (.mk vk vn vs vks)) .nil)) (L5 _ _) ?_;have e1:=@Hu l (.mk vk vn vs vks);have e2:=@Io l (.mk vk vn vs vks);have e3:=@Jy l (.mk vk vn vs vks);have e4:=@LY l (.mk vk vn vs vks);have hle:=rB l (.mk vk vn vs vks);generalize cD l (.mk vk vn vs vks)=f at *;obtain⟨p,b⟩:=f
 dsimp only at e1 e2 e3 e4 hle ⊢
 cases b with
 | true=>
  conv=>whnf
  exact aA (L5 _ _) ⟨by rw[e1 rfl],rfl,rfl⟩
 | false=>
  conv=>whnf
  refine aI (fun h=>?_) (fun h=>?_)
  ·have h:p=0:=by simpa using h
   conv=>whnf
   exact aA (L5 _ _) ⟨by rw[e2 rfl h];rfl,rfl,rfl⟩
  have h0:p≠0:=by simpa using h
  conv=>whnf
  refine aI (fun h=>?_) (fun h=>?_)
  ·have h1:p=l.length:=by rw[aB] at h;simp at h;omega
   conv=>whnf
   exact aA (L5 _ _) ⟨by rw[e3 rfl h0 h1,cV ⟨om,om⟩];congr 3;omega,rfl,rfl⟩
  have h1:p<l.length:=by rw[aB] at h;simp at h;omega
  have hw:IntKind.i64.wrap ((p:Int)-1)=((p-1:Nat):Int):=by rw[cV ⟨om,om⟩];omega
  have c1:=u5 (show p-1<l.length by omega);have c2:=u5 h1;have g1:=VV (show p-1<l.length by omega);have g2:=VV h1;generalize l[p-1]=a at *;generalize l[p]=b at *;obtain⟨ak,an,az,aks⟩:=a;obtain⟨bk,bn,bz,bks⟩:=b;have hmid:=e4 rfl h0 g1 g2
  conv=>whnf
  rw[hw]
  conv=>whnf
  refine aD c1 ?_
  conv=>whnf
  refine aD c2 ?_
  conv=>whnf
  repeat(first|(refine aU ?_;conv=>whnf)|(refine aD c1 ?_;conv=>whnf)|(refine aD c2 ?_;conv=>whnf))
  have fin1:kF l (.mk vk vn vs vks)=(p,false)->∀m n,kN 0 (fun r' m n=>r' = .tup [.int .i64 (kF l (.mk vk vn vs vks)).1,.bool (kF l (.mk vk vn vs vks)).2]/\m=[]/\n=0) (.tup [.int .i64 p,.bool false]) m n:=
   fun h m n=>aA (L5 _ _) ⟨by rw[h],rfl,rfl⟩
  refine aI (fun q1=>?_) (fun q1=>?_)
  ·have q1':ak=0:=by simpa using q1
   rw[q1]
   conv=>whnf
   refine aI (fun q2=>?_) (fun q2=>?_)
   ·have q2':vk=0:=by simpa using q2
    rw[q2]
    conv=>whnf
    refine aI (fun q3=>?_) (fun q3=>?_)
    ·have q3':bk=0:=by simpa using q3
     rw[q3]
     conv=>whnf
     refine aI (fun q4=>?_) (fun q4=>?_)
     ·conv=>whnf
      refine aA (L5 _ _) ⟨?_,rfl,rfl⟩;rw[hmid,Vb ⟨q1',q2',q3',q4⟩,hw]
     ·conv=>whnf
      exact fin1 (by rw[hmid,VY (fun h=>by rw[show Mz (Gf (.mk ak an az aks)) (Gf (.mk vk vn vs vks)) (Gf (.mk bk bn bz bks))=false from q4] at h;simp at h)]) _ _
    ·rw[q3]
     conv=>whnf
     exact fin1 (by rw[hmid,VY (fun h=>by rw[show zG (.mk bk bn bz bks)=bk from rfl] at h;simp at q3;exact q3 h.2.2.1)]) _ _
   ·rw[q2]
    conv=>whnf
    exact fin1 (by rw[hmid,VY (fun h=>by rw[show zG (.mk vk vn vs vks)=vk from rfl] at h;simp at q2;exact q2 h.2.1)]) _ _
  ·rw[q1]
   conv=>whnf
   exact fin1 (by rw[hmid,VY (fun h=>by rw[show zG (.mk ak an az aks)=ak from rfl] at h;simp at q1;exact q1 h.1)]) _ _
set_option maxRecDepth 100000
set_option maxHeartbeats 16000000
def l8:List (List UInt8):=[[45,49],[48],[50],[48,50],[45,48],[97],[57,50,50,51,51,55,50,48,51,54,56,53,52,55,55,53,56,48,56],[]]
def LB:List (List UInt8):=[120]::(l8++wK)
theorem Mp{s:List UInt8}(h:s∈LB):s.length<=19:=by
 simp only[LB,l8,wK,WH,WG,Vg,X7,or_false] at h;rcases h with rfl|rfl|rfl|rfl|rfl|rfl|rfl|rfl|rfl|rfl|rfl|rfl|rfl<;>simp
set_option maxRecDepth 100000
set_option maxHeartbeats 8000000
set_option maxRecDepth 100000
set_option maxHeartbeats 8000000
theorem Uj(l m:List Int)(hl:l.length<=4294967296):bB prog [] 82 [.il 1 (aS l),.il 1 (aS m)] (.bool (decide (l=m))):=by
 refine aK bG func82 rfl ?_;refine Rr ?_;refine aI (fun h=>?_) (fun h=>?_)
 ·have h1:l.length≠m.length:=by rw[aC,aC] at h;simp at h;omega
  rw[Vv (fun e=>h1 (by rw[e]))];refine Rr ?_;exact aA nn ⟨rfl,rfl,rfl⟩
 ·have h1:l.length=m.length:=by rw[aC,aC] at h;simp at h;omega
  refine Rr ?_;refine bC.at bG (fun i:Nat=>i<=l.length/\decide (l=m)=decide (l.drop i=m.drop i)) (fun i=>⟨[(0,.il 1 (aS l)),(1,.il 1 (aS m)),(12,.int .i64 l.length),(13,.int .i64 i)],[],0,26⟩) (fun i=>l.length-i) 0 [] ⟨by simp,by simp⟩
   (bX ⟨aR (.il' (aM _)),aR (.il' (aM _)),⟨_,rfl,.int (by rw[aC])⟩,aF,trivial⟩) ?_
  rintro i ⟨hi,hs⟩;refine Rr ?_;refine aI (fun hb=>?_) (fun hb=>?_)
  ·have hil:i<l.length:=by simpa using hb
   have ep:(aS l)[((i:Nat):Int).toNat]? = some (.int .i64 l[i]):=by simp[a8,VV hil]
   have eq:(aS m)[((i:Nat):Int).toNat]? = some (.int .i64 (m[i])):=by simp[a8,VV (show i<m.length by omega)]
   rw[List.drop_eq_getElem_cons hil,List.drop_eq_getElem_cons (show i<m.length by omega)] at hs;generalize l[i]=p at ep hs;generalize m[i]=q at eq hs;refine Rr ?_;repeat((first|refine aD ep ?_|refine aD eq ?_|refine aU ?_);refine Rr ?_)
   refine aI (fun h=>?_) (fun h=>?_)
   ·have hne:p≠q:=by simpa using h
    rw[hs,Vv (fun e=>hne (List.cons.inj e).1)];refine Rr ?_;exact aA nn ⟨rfl,rfl,rfl⟩
   ·have hne:p=q:=by simpa using h
    subst hne;refine Rr ?_;exact .mk (i+1) [] ⟨om,by rw[hs];simp⟩ (bX ⟨aR (.il' (aM _)),aR (.il' (aM _)),aF,⟨_,rfl,.w64 om ⟨om,om⟩⟩,trivial⟩) om
  ·have hil:i=l.length:=by simp at hb;omega
   rw[hil,Wf,h1,Wf] at hs;rw[hs];refine Rr ?_;exact aA nn ⟨rfl,rfl,rfl⟩
theorem Ue(l m:List (List UInt8))(hl:l.length<=4294967296):bB prog [] 83 [.il 1 (jB l),.il 1 (jB m)] (.bool (decide (l=m))):=by
 refine aK bG func83 rfl ?_;refine Rr ?_;refine aI (fun h=>?_) (fun h=>?_)
 ·have h1:l.length≠m.length:=by rw[bE,bE] at h;simp at h;omega
  rw[Vv (fun e=>h1 (by rw[e]))];refine Rr ?_;exact aA nn ⟨rfl,rfl,rfl⟩
 ·have h1:l.length=m.length:=by rw[bE,bE] at h;simp at h;omega
  refine Rr ?_;refine bC.at bG (fun i:Nat=>i<=l.length/\decide (l=m)=decide (l.drop i=m.drop i)) (fun i=>⟨[(0,.il 1 (jB l)),(1,.il 1 (jB m)),(12,.int .i64 l.length),(13,.int .i64 i)],[],0,26⟩) (fun i=>l.length-i) 0 [] ⟨by simp,by simp⟩
   (bX ⟨aR (.il' (dV _)),aR (.il' (dV _)),⟨_,rfl,.int (by rw[bE])⟩,aF,trivial⟩) ?_
  rintro i ⟨hi,hs⟩;refine Rr ?_;refine aI (fun hb=>?_) (fun hb=>?_)
  ·have hil:i<l.length:=by simpa using hb
   have ep:(jB l)[((i:Nat):Int).toNat]? = some (.str l[i]):=by simp[yN,VV hil]
   have eq:(jB m)[((i:Nat):Int).toNat]? = some (.str (m[i])):=by simp[yN,VV (show i<m.length by omega)]
   rw[List.drop_eq_getElem_cons hil,List.drop_eq_getElem_cons (show i<m.length by omega)] at hs;generalize l[i]=p at ep hs;generalize m[i]=q at eq hs;refine Rr ?_;repeat((first|refine aD ep ?_|refine aD eq ?_|refine aU ?_);refine Rr ?_)
   refine aI (fun h=>?_) (fun h=>?_)
   ·have hne:p≠q:=by simpa using h
    rw[hs,Vv (fun e=>hne (List.cons.inj e).1)];refine Rr ?_;exact aA nn ⟨rfl,rfl,rfl⟩
   ·have hne:p=q:=by simpa using h
    subst hne;refine Rr ?_;exact .mk (i+1) [] ⟨om,by rw[hs];simp⟩ (bX ⟨aR (.il' (dV _)),aR (.il' (dV _)),aF,⟨_,rfl,.w64 om ⟨om,om⟩⟩,trivial⟩) om
  ·have hil:i=l.length:=by simp at hb;omega
   rw[hil,Wf,h1,Wf] at hs;rw[hs];refine Rr ?_;exact aA nn ⟨rfl,rfl,rfl⟩
set_option maxRecDepth 100000
set_option maxHeartbeats 8000000
theorem RL:Tryz.prog.eqGuardType Tryz.prog.depth 146=false:=by kernel_rfl
theorem SW(x y:Nd)(hx:n4 x)(hy:n4 y):bB prog [] 53 [.ip (bW x),.ip (bW y)] (.bool (r8 x y)):=by
 have h1:=Uj x.weights y.weights hx.weights;have h2:=Ue x.labels y.labels hx.labels;have h3:=Jh x.values y.values hx.values hy.values (fun a ha=>(hx.valuesI a ha).1);have h4:=UO x.value y.value hx.value;have hres:r8 x y=((decide (x.kind=y.kind) && (decide (x.lo=y.lo) && (decide (x.hi=y.hi) && (decide (x.kids.length=y.kids.length) && decide (x.name=y.name))))) && decide (x.weights=y.weights) && decide (x.labels=y.labels) && dB x.values y.values && (cE x.value y.value == 0)):=rfl;generalize r8 x y=res at hres ⊢;generalize decide (x.weights=y.weights)=b1 at h1 hres;generalize decide (x.labels=y.labels)=b2 at h2 hres;generalize dB x.values y.values=b3 at h3 hres;generalize (cE x.value y.value == 0)=b4 at h4 hres;have hxn:=aV x;have hyn:=aV y;clear hx hy;obtain⟨kind,name,lo,hi',ws,lbs,vals,kids,⟨vk,vn,vs,vks⟩⟩:=x;obtain⟨kind2,name2,lo2,hi2,ws2,lbs2,vals2,kids2,⟨vk2,vn2,vs2,vks2⟩⟩:=y;simp only at h1 h2 h3 h4 hres;refine aK bG func53 rfl ?_;refine Rr ?_;rw[RL];refine Rr ?_;have hc:(kind == kind2 && (lo == lo2 && (hi' == hi2 && (((aS kids).length:Int) == ((aS kids2).length:Int) && (name == name2 && true)))))=(decide (kind=kind2) && (decide (lo=lo2) && (decide (hi'=hi2) && (decide (kids.length=kids2.length) && decide (name=name2))))):=by
  rw[aC,aC,V5];simp;omega
 rw[hc];generalize (decide (kind=kind2) && (decide (lo=lo2) && (decide (hi'=hi2) && (decide (kids.length=kids2.length) && decide (name=name2)))))=b0 at hres ⊢;clear hc;cases b0 with
 | false=>
  refine Rr ?_;exact aA nn ⟨by rw[hres];simp,rfl,rfl⟩
 | true=>
 refine Rr ?_;refine h1.go ?_;cases b1 with
 | false=>
  refine Rr ?_;exact aA nn ⟨by rw[hres];simp,rfl,rfl⟩
 | true=>
 refine Rr ?_;refine h2.go ?_ (.cons (.il' (dV _)) (.cons (.il' (dV _)) .nil));cases b2 with
 | false=>
  refine Rr ?_;exact aA nn ⟨by rw[hres];simp,rfl,rfl⟩
 | true=>
 refine Rr ?_;refine h3.go ?_;cases b3 with
 | false=>
  refine Rr ?_;exact aA nn ⟨by rw[hres];simp,rfl,rfl⟩
 | true=>
 refine Rr ?_;refine h4.go ?_;refine Rr ?_;exact aA nn ⟨by rw[hres];simp,rfl,rfl⟩
set_option maxRecDepth 100000
set_option maxHeartbeats 8000000
set_option maxRecDepth 100000
set_option maxHeartbeats 8000000
theorem Jx{A:List Nd}(h:dZ A):NW A:=⟨h.ok,h.val,h.vals,fun x hx=>by have:=h.vlen x hx;omega,fun x hx=>by have:=h.klen x hx;omega⟩
theorem Bt(A:List Nd)(h:dZ A):bB prog [] 52 [.agg [.il 12 (aW A)]] (.bool (fD A)):=by
 have hV:=Cu A (Jx h);have hu:fD A=(decide (0<A.length) && decide (cL A=0)):=rfl;generalize fD A=u at hu ⊢;generalize cL A=vt at hV hu;refine aK bG func52 rfl ?_;refine Rr ?_;rw[bD];by_cases h0:0<A.length
 ·rw[Vi h0] at hu;rw[show decide ((A.length:Int)>0)=true by simp;omega];refine Rr ?_;refine hV.go ?_ (.cons (.agg' (.cons (.il' (aY _)) .nil)) .nil);refine Rr ?_;exact aA nn ⟨by rw[hu,XI,show (vt == 0)=decide (vt=0) by rw[V5];simp],rfl,rfl⟩
 ·rw[Vv h0] at hu;rw[show decide ((A.length:Int)>0)=false by rw[Wi];omega];refine Rr ?_;exact aA nn ⟨by rw[hu];simp,rfl,rfl⟩
theorem nL{α β:Type}(f:α->β){l:List α}{k:Nat}{a:α}(h:l[k]? = some a):(l.take (k+1)).map f=(l.take k).map f++[f a]:=by
 obtain⟨h1,h2⟩:=VX.1 h;rw[List.take_succ_eq_append_getElem h1,Wv,h2];rfl
theorem DK(l:List Bool)(b:Bool):gU (l++[b])=gU l++[.bool b]:=by simp[gU]
theorem FE(l:List Int)(b:Int):aS (l++[b])=aS l++[.int .i64 b]:=by simp[aS]
theorem Ni(x y:Nd)(hx:xP x)(hy:xP y)(hll:∀s∈x.labels,s.length<=4294967296)(hbl:y.labels.length<=1000)(hxv:x.values.length<=1000000)(hsy:lN y.values)(hyv:∀v∈y.values,gH v)(hyl:y.values.length<=1000000) :
  bB prog gz 55 [.ip (bW x),.ip (bW y)] (.tup [.il 1 (aS ((tF x y).map (·.1))),.il 1 (gU ((tF x y).map (·.2)))]):=by
 have hO:=fun(k:Nat) (h:k<=2000)=>Ko x y k ⟨om,om⟩ hx hy hll hbl
 have hN:=fun v=>Mw y.values v om hyv hsy
 have hch:tF x y=if x.kind=2/\y.kind=2 then(List.range x.kids.length).map (fun k:Nat=>qO x y k) else if x.kind=4/\y.kind=4 then x.values.map (yX y.values) else []:=rfl
 have hkl:=hx.klen;have hxn:=aV x;have hyn:=aV y;have fin:∀(ch:List (Int × Bool)) (mem:aP) (nx:Nat) (id1 id2 n:Nat),tF x y=ch->ch.length=n->lk mem id1=some (.row 3 1 (aS (ch.map (·.1))))->lk mem id2=some (.row 4 1 (gU (ch.map (·.2)))) ->
   kN 0 (fun r m n=>r = .tup [.il 1 (aS ((tF x y).map (·.1))),.il 1 (gU ((tF x y).map (·.2)))]/\m=[]/\n=0) (.tup [.sl id1 0 n,.sl id2 0 n]) mem nx:=by
  rintro ch mem nx id1 id2 n rfl rfl h1 h2;exact dK (.tup' (.cons (.fz' h1 rfl (by rw[aC];simp) (by rw[V7];exact Vl (by rw[aC];simp)) (aM _)) (.cons (.fz' h2 rfl (by rw[oO];simp) (by rw[V7];exact Vl (by rw[oO];simp)) (eB _)) .nil))) ⟨rfl,rfl,rfl⟩
 have finN:∀(mem:aP) (nx:Nat),tF x y=[]->kN 0 (fun r m n=>r = .tup [.il 1 (aS ((tF x y).map (·.1))),.il 1 (gU ((tF x y).map (·.2)))]/\m=[]/\n=0) (.tup [.nsl,.nsl]) mem nx:=by
  intro mem nx h;rw[h];exact dK (.tup' (.cons (.nil 1) (.cons (.nil 1) .nil))) ⟨rfl,rfl,rfl⟩
 generalize hchv:tF x y=ch at hch fin finN ⊢;clear hchv;generalize qO x y=opf at hO hch;clear hx hy hll hsy hyv;obtain⟨kind,name,lo,hi',ws,lbs,vals,kids,⟨vk,vn,vs,vks⟩⟩:=x;obtain⟨kind2,name2,lo2,hi2,ws2,lbs2,vals2,kids2,⟨vk2,vn2,vs2,vks2⟩⟩:=y;simp only at hO hN hch hkl hxv hyl;refine aK eS func55 rfl ?_;refine Rr ?_;by_cases k2:kind=2
 ·subst k2;refine Rr ?_;by_cases k2':kind2=2
  ·subst k2';rw[Vb ⟨rfl,rfl⟩] at hch;refine Rr ?_;refine bC.ph 3 1 ?_;refine bC.ph 4 1 ?_;refine bC.at eS (fun k:Nat=>k<=kids.length)
    (fun k=>⟨[(0,.ip (bW ⟨2,name,lo,hi',ws,lbs,vals,kids,.mk vk vn vs vks⟩)),(1,.ip (bW ⟨2,name2,lo2,hi2,ws2,lbs2,vals2,kids2,.mk vk2 vn2 vs2 vks2⟩)),(6,.sl 0 0 k),(7,.sl 1 0 k),(32,.int .i64 kids.length),(33,.int .i64 k)],
     [(0,.row 3 1 (aS ((ch.take k).map (·.1)))),(1,.row 4 1 (gU ((ch.take k).map (·.2))))],2,98⟩) (fun k=>kids.length-k) 0 [(0,0),(1,1)] (by simp)
    (aG _ rfl ⟨aL 0 .nil,aL 1 .nil,trivial⟩ ⟨aR (.ip' hxn),aR (.ip' hyn),⟨_,rfl,.nslk 0 0 _ rfl rfl⟩,⟨_,rfl,.nslk 1 1 _ rfl rfl⟩,⟨_,rfl,.int (by rw[aC])⟩,aF,trivial⟩) ?_
   intro k hk;refine Rr ?_;refine aI (fun hb=>?_) (fun hb=>?_)
   ·have hlt:k<kids.length:=by simpa using hb
    have hO:=hO k om;have hck:ch[k]? = some (opf k):=by rw[hch,Vy,Xu hlt];rfl
    have hcl:ch.length=kids.length:=by rw[hch];simp
    have e1:=nL (·.1) hck;have e2:=nL (·.2) hck;have hl1:((ch.take k).map (·.1)).length=k:=by simp;omega
    have hl2:((ch.take k).map (·.2)).length=k:=by simp;omega
    generalize opf k=c at hO hck e1 e2;obtain⟨cn,cb⟩:=c;refine Rr ?_;refine hO.use eS (.cons hxn (.cons hyn (.cons nn .nil))) nn ?_;refine Rt ?_;refine aN (bV rfl rfl (by rw[aC,hl1]) (by simp;omega)) ?_;refine Rr ?_;refine aN (bV rfl rfl (by rw[oO,hl2]) (by simp;omega)) ?_;refine Rr ?_;exact .mk (k+1) [(16,0),(18,1)] om
     (aG _ rfl ⟨⟨16,_,rfl,rfl,.eq (aM _) (by rw[e1,FE];rfl)⟩,⟨18,_,rfl,rfl,.eq (eB _) (by rw[e2,DK];rfl)⟩,trivial⟩ ⟨aR (.ip' hxn),aR (.ip' hyn),⟨_,rfl,.slE rfl (by simp)⟩,⟨_,rfl,.slE rfl (by simp)⟩,aF,⟨_,rfl,.w64 om ⟨om,om⟩⟩,trivial⟩) om
   ·have hlt:k=kids.length:=by simp at hb;omega
    have hcl:ch.length=kids.length:=by rw[hch];simp
    rw[hlt,Vl om];refine Rr ?_;exact fin ch _ _ 0 1 _ rfl hcl rfl rfl
  ·rw[VY (fun h=>k2' h.2),VY (fun h=>absurd h.1 (by decide))] at hch;rw[show (kind2 == 2)=false by simpa using k2'];refine Rr ?_;exact finN _ _ hch
 ·rw[VY (fun h=>k2 h.1)] at hch;rw[show (kind == 2)=false by simpa using k2];refine Rr ?_;by_cases k4:kind=4
  ·subst k4;refine Rr ?_;by_cases k4':kind2=4
   ·subst k4';rw[Vb ⟨rfl,rfl⟩] at hch;refine Rr ?_;refine bC.ph 3 1 ?_;refine bC.ph 4 1 ?_;refine bC.at eS (fun k:Nat=>k<=vals.length)
     (fun k=>⟨[(1,.ip (bW ⟨4,name2,lo2,hi2,ws2,lbs2,vals2,kids2,.mk vk2 vn2 vs2 vks2⟩)),(6,.sl 0 0 k),(7,.sl 1 0 k),(72,.il 4 (aQ vals)),(73,.int .i64 vals.length),(74,.int .i64 k)],
      [(0,.row 3 1 (aS ((ch.take k).map (·.1)))),(1,.row 4 1 (gU ((ch.take k).map (·.2))))],2,98⟩) (fun k=>vals.length-k) 0 [(0,0),(1,1)] (by simp)
     (aG _ rfl ⟨aL 0 .nil,aL 1 .nil,trivial⟩ ⟨aR (.ip' hyn),⟨_,rfl,.nslk 0 0 _ rfl rfl⟩,⟨_,rfl,.nslk 1 1 _ rfl rfl⟩,aR (.il' (aO _)),⟨_,rfl,.int (by rw[aB])⟩,aF,trivial⟩) ?_
    intro k hk;refine Rr ?_;refine aI (fun hb=>?_) (fun hb=>?_)
    ·have hlt:k<vals.length:=by simpa using hb
     obtain⟨v1,v2,v3,v4,vm,vg,-,ev⟩:=bT (l:=vals) (k:=k) hlt;have hN:=hN (.mk v1 v2 v3 v4);have hck:ch[k]? = some (yX vals2 (.mk v1 v2 v3 v4)):=by rw[hch,Vy,vg];rfl
     have hcl:ch.length=vals.length:=by rw[hch];simp
     have e1:=nL (·.1) hck;have e2:=nL (·.2) hck;have hl1:((ch.take k).map (·.1)).length=k:=by simp;omega
     have hl2:((ch.take k).map (·.2)).length=k:=by simp;omega
     unfold yX at e1 e2;generalize kF vals2 (.mk v1 v2 v3 v4)=c at hN e1 e2;obtain⟨cn,cb⟩:=c;simp only at e1 e2 hN;refine Rr ?_;refine aD ev ?_;refine Rt ?_;refine hN.goG ?_;refine Rt ?_;refine aN (bV rfl rfl (by rw[aC,hl1]) (by simp;omega)) ?_;refine Rr ?_;refine aN (bV rfl rfl (by rw[oO,hl2]) (by simp;omega)) ?_;refine Rr ?_;exact .mk (k+1) [(15,0),(17,1)] om
      (aG _ rfl ⟨⟨15,_,rfl,rfl,.eq (aM _) (by rw[e1,FE];rfl)⟩,⟨17,_,rfl,rfl,.eq (eB _) (by rw[e2,DK];rfl)⟩,trivial⟩ ⟨aR (.ip' hyn),⟨_,rfl,.slE rfl (by simp)⟩,⟨_,rfl,.slE rfl (by simp)⟩,aR (.il' (aO _)),aF,⟨_,rfl,.w64 om ⟨om,om⟩⟩,trivial⟩) om
    ·have hlt:k=vals.length:=by simp at hb;omega
     have hcl:ch.length=vals.length:=by rw[hch];simp
     rw[hlt,Vl om];refine Rr ?_;exact fin ch _ _ 0 1 _ rfl hcl rfl rfl
   ·rw[VY (fun h=>k4' h.2)] at hch;rw[show (kind2 == 4)=false by simpa using k4'];refine Rr ?_;exact finN _ _ hch
  ·rw[VY (fun h=>k4 h.1)] at hch;rw[show (kind == 4)=false by simpa using k4];refine Rr ?_;exact finN _ _ hch
set_option maxRecDepth 100000
set_option maxHeartbeats 16000000
def o9(L:List Mt):List (AV × AV):=L.map fun m=>(.agg [.int .i64 m.old,.int .i64 m.now],.bool true)
theorem JK(L:List Mt)(m:Mt):o9 (L++[m])=o9 L++[(.agg [.int .i64 m.old,.int .i64 m.now],.bool true)]:=by simp[o9]
theorem TK:Tryz.prog.stoodInHeld 109=false:=by kernel_rfl
theorem Q6(a b c d:Nat):tV prog 109 (.agg [.int .i64 a,.int .i64 b]) (.agg [.int .i64 c,.int .i64 d])=some (decide (c=a) && decide (d=b)):=by
 have e:GD prog 109 [.int .i64 a,.int .i64 b] [.int .i64 c,.int .i64 d]=some (decide (c=a) && decide (d=b)):=by
  unfold GD;rw[TK]
  conv=>lhs;whnf
  rw[Option.some.injEq,V5];simp;omega
 exact e
theorem GO{o n:Nat}:∀(L:List Mt) (i:Nat),iA L o n=false->iX prog 109 (.agg [.int .i64 o,.int .i64 n]) (o9 L) i=some none
 | [],i,_=>rfl
 | m::r,i,h=>by
  simp only[iA,List.any_cons,XF] at h;simp only[o9,WK,iX,Q6,h.1];exact GO r (i+1) h.2
theorem HT{o n:Nat}:∀(L:List Mt) (i:Nat),iA L o n=true->∃j,iX prog 109 (.agg [.int .i64 o,.int .i64 n]) (o9 L) i=some (some (j,.bool true))
 | [],i,h=>by simp[iA] at h
 | m::r,i,h=>by
  simp only[iA,List.any_cons] at h;simp only[o9,WK,iX,Q6];cases hd:(decide (m.old=o) && decide (m.now=n)) with
  | true=>exact⟨i,rfl⟩
  | false=>
   rw[hd,XJ] at h;exact HT r (i+1) h
theorem Rj{mem:aP}{id o n:Nat}{L:List Mt}(hm:lk mem id=some (.mapb (o9 L))):lY prog mem 106 (.mp id) (.agg [.int .i64 o,.int .i64 n]) false=some (.bool (iA L o n)):=by
 have key:(match iX prog 109 (.agg [.int .i64 o,.int .i64 n]) (o9 L) 0 with
     | some (some (_,v))=>some v
     | some none=>some (AV.bool false)
     | none=>none)=some (.bool (iA L o n)):=by
  cases h:iA L o n with
  | false=>rw[GO L 0 h]
  | true=>obtain⟨j,hj⟩:=HT L 0 h;rw[hj]
 have u:Tryz.prog.underlying 106=some (.map 109 4):=rfl;have ak:D2 prog 109 (.agg [.int .i64 o,.int .i64 n])=true:=rfl;have z:mI prog 4=some (.bool false):=rfl;unfold lY;simp only[u,ak,hm,z];exact key
def dM(A B:List Nd)(L:List Mt)(rid:Nat)(rest:aP):aP:=
 (0,.row 106 1 [.mp 5])::(1,.row 25 1 [.agg [.il 12 (aW A)]])::(2,.row 25 1 [.agg [.il 12 (aW B)]])::(3,.row 62 1 [.sl rid 0 L.length]) ::
 (4,.row 107 1 [.fn (.func 54) [] [.ptr 0 0 0,.ptr 1 0 0,.ptr 2 0 0,.ptr 3 0 0,.ptr 4 0 0]])::(5,.mapb (o9 L))::(rid,.row 104 4 (nW L))::rest
theorem KN{mem:aP}{σ:List (Nat × Nat)}(L:List Mt):Tk mem σ (o9 L) (o9 L):=⟨rfl,fun i e e' h1 h2=>by
 rw[h1] at h2;cases h2;unfold o9 at h1;rw[Vy] at h1;cases hm:L[i]? with
 | none=>rw[hm] at h1;cases h1
 | some m=>
  rw[hm] at h1;cases h1;exact⟨.same _ nn,.same _ nn⟩⟩
theorem nK{mem:aP}{σ:List (Nat × Nat)}(A:List Nd):tE mem σ [.agg [.il 12 (aW A)]] [.agg [.il 12 (aW A)]]:=.same (.cons (.agg' (.cons (.il' (aY _)) .nil)) .nil)
theorem g6{mem:aP}{σ:List (Nat × Nat)}{A B:List Nd}{L:List Mt}{len rid rid':Nat}{xs:List AV}{es:List (AV × AV)}{rest:aP}(hl:len=L.length)(s0:lk σ 0=some 0)(s1:lk σ 1=some 1)(s2:lk σ 2=some 2)(s3:lk σ 3=some 3)(s4:lk σ 4=some 4)(s5:lk σ 5=some 5)(sr:lk σ rid=some rid')
  (m0:lk mem 0=some (.row 106 1 [.mp 5])) (m1:lk mem 1=some (.row 25 1 [.agg [.il 12 (aW A)]])) (m2:lk mem 2=some (.row 25 1 [.agg [.il 12 (aW B)]])) (m3:lk mem 3=some (.row 62 1 [.sl rid 0 len]))
  (m4:lk mem 4=some (.row 107 1 [.fn (.func 54) [] [.ptr 0 0 0,.ptr 1 0 0,.ptr 2 0 0,.ptr 3 0 0,.ptr 4 0 0]])) (m5:lk mem 5=some (.mapb es)) (he:es=o9 L) (mr:lk mem rid=some (.row 104 4 xs)) (hx:tE mem σ xs (nW L))
  (hr:cN mem σ rest):cN mem σ (dM A B L rid' rest):=
 ⟨⟨0,_,s0,m0,.cons (.one rfl rfl (.mp 5 5 s5)) .nil⟩,⟨1,_,s1,m1,nK A⟩,⟨2,_,s2,m2,nK B⟩,⟨3,_,s3,m3,.cons (.one rfl rfl (.slE sr hl)) .nil⟩,
  ⟨4,_,s4,m4,.cons (.one rfl rfl (.fn _ _ _ _ _ rfl rfl (by simp) (kU.cons (.ptr 0 0 0 0 s0) (.cons (.ptr 1 1 0 0 s1) (.cons (.ptr 2 2 0 0 s2) (.cons (.ptr 3 3 0 0 s3) (.cons (.ptr 4 4 0 0 s4) .nil))))).2)) .nil⟩,
  ⟨5,_,s5,m5,by rw[he];exact KN L⟩,⟨rid,_,sr,mr,hx⟩,hr⟩
def vQ(A B:List Nd)(L:List Mt):AV->aP->Nat->Prop:=fun r m k=>r = .tup []/\m=dM A B L 7 []/\k=8
def HI(A B:List Nd)(f:Nat):Prop:=∀(o n:Nat) (L:List Mt),o<f->o<A.length->n<B.length->tZ A.length B.length L ->
 aH prog gz 54 [.agg [.int .i64 o,.int .i64 n],.ptr 0 0 0,.ptr 1 0 0,.ptr 2 0 0,.ptr 3 0 0,.ptr 4 0 0] (dM A B L 6 []) 7 (vQ A B (iN A B f o n L))
theorem Fg{α β:Type}{l:List α}{m:List β}{k:Nat}{a:α}{b:β}(h1:l[k]? = some a)(h2:m[k]? = some b):(l.zip m)[k]? = some (a,b):=by
 rw[XD];exact⟨h1,h2⟩
theorem An{A B:List Nd}{f:Nat}{ps:List (Nat × Nat)}{k q w:Nat}{L1 Lk:List Mt}(hpk:ps[k]? = some (q,w))(hLk:Lk=(ps.take k).foldl (fun L p=>iN A B f p.1 p.2 L) L1):iN A B f q w Lk=(ps.take (k+1)).foldl (fun L p=>iN A B f p.1 p.2 L) L1:=by
 obtain⟨h1,h2⟩:=VX.1 hpk;rw[List.take_succ_eq_append_getElem h1,WR,←hLk,h2];rfl
theorem RB{A B:List Nd}{f:Nat}(ih:HI A B f){o n:Nat}{L:List Mt}(h1:o<f)(h2:o<A.length)(h3:n<B.length)(h4:tZ A.length B.length L){mem:aP}{nx:Nat}{K:AV->aP->Nat->Prop}
  (hp:jD [0,1,2,3,4,5,7] mem=dM A B L 7 []) (hc:∀L':List Mt,(jX (dM A B L' nx []) && (kD [(0,0),(1,1),(2,2),(3,3),(4,4),(5,5),(7,nx)] && (Nat.ble nx (nx+1) && (kR [0,1,2,3,4,5,7] nx (dM A B L' nx []) && pX [(0,0),(1,1),(2,2),(3,3),(4,4),(5,5),(7,6)] 7 nx (nx+1) [(0,0),(1,1),(2,2),(3,3),(4,4),(5,5),(7,nx)]))))=true)
  (hk:K (.tup []) (dM A B (iN A B f o n L) nx []++gR [0,1,2,3,4,5,7] mem) (nx+1)) :
  aH prog gz 54 [.agg [.int .i64 o,.int .i64 n],.ptr 0 0 0,.ptr 1 0 0,.ptr 2 0 0,.ptr 3 0 0,.ptr 4 0 0] mem nx K:=by
 refine aH.useN eS [(0,0),(1,1),(2,2),(3,3),(4,4),(5,5),(7,6)] (ih o n L h1 h2 h3 h4) hp (.s (.cons (.ptr 0 0 0 0 rfl) (.cons (.ptr 1 1 0 0 rfl) (.cons (.ptr 2 2 0 0 rfl) (.cons (.ptr 3 3 0 0 rfl) (.cons (.ptr 4 4 0 0 rfl) .nil))))))
  (g6 (rid:=7) rfl rfl rfl rfl rfl rfl rfl rfl rfl rfl rfl rfl rfl rfl rfl rfl (.same (dS _)) trivial) (by rfl) ?_
 rintro r m k ⟨rfl,rfl,rfl⟩;exact⟨[(0,0),(1,1),(2,2),(3,3),(4,4),(5,5),(7,nx)],.tup [],dM A B (iN A B f o n L) nx [],nx+1,.same _ nn,g6 (rid:=7) rfl rfl rfl rfl rfl rfl rfl rfl rfl rfl rfl rfl rfl rfl rfl rfl (.same (dS _)) trivial,hc _,hk⟩
theorem Sr{A B:List Nd}{f:Nat}(ih:HI A B f){o n:Nat}{L:List Mt}(h1:o<f)(h2:o<A.length)(h3:n<B.length)(h4:tZ A.length B.length L){mem m1:aP}{nx:Nat}(rid:Nat){K:AV->aP->Nat->Prop}
  (hp:jD [0,1,2,3,4,5,rid] mem=m1) (hM:cN m1 [(0,0),(1,1),(2,2),(3,3),(4,4),(5,5),(rid,6)] (dM A B L 6 [])) (hs:lk [(0,0),(1,1),(2,2),(3,3),(4,4),(5,5),(rid,6)] 4=some 4)
  (hc0:(jX (dM A B L 6 []) && (kD [(0,0),(1,1),(2,2),(3,3),(4,4),(5,5),(rid,6)] && pE 7 [(0,0),(1,1),(2,2),(3,3),(4,4),(5,5),(rid,6)]))=true)
  (hc:∀L':List Mt,(jX (dM A B L' nx []) && (kD [(0,0),(1,1),(2,2),(3,3),(4,4),(5,5),(7,nx)] && (Nat.ble nx (nx+1) && (kR [0,1,2,3,4,5,rid] nx (dM A B L' nx []) && pX [(0,0),(1,1),(2,2),(3,3),(4,4),(5,5),(rid,6)] 7 nx (nx+1) [(0,0),(1,1),(2,2),(3,3),(4,4),(5,5),(7,nx)]))))=true)
  (hk:K (.tup []) (dM A B (iN A B f o n L) nx []++gR [0,1,2,3,4,5,rid] mem) (nx+1)) :
  aH prog gz 54 [.agg [.int .i64 o,.int .i64 n],.ptr 0 0 0,.ptr 1 0 0,.ptr 2 0 0,.ptr 3 0 0,.ptr 4 0 0] mem nx K:=by
 refine aH.useN eS [(0,0),(1,1),(2,2),(3,3),(4,4),(5,5),(rid,6)] (ih o n L h1 h2 h3 h4) hp (.s (.cons (.ptr 0 0 0 0 rfl) (.cons (.ptr 1 1 0 0 rfl) (.cons (.ptr 2 2 0 0 rfl) (.cons (.ptr 3 3 0 0 rfl) (.cons (.ptr 4 4 0 0 rfl) .nil))))))
  hM hc0 ?_
 rintro r m k ⟨rfl,rfl,rfl⟩;exact⟨[(0,0),(1,1),(2,2),(3,3),(4,4),(5,5),(7,nx)],.tup [],dM A B (iN A B f o n L) nx [],nx+1,.same _ nn,g6 (rid:=7) rfl rfl rfl rfl rfl rfl rfl rfl rfl rfl rfl rfl rfl rfl rfl rfl (.same (dS _)) trivial,hc _,hk⟩
theorem RK{A B:List Nd}(hA:dZ A)(hB:dZ B)(vA:cL A=0)(vB:cL B=0)(f:Nat)(ih:HI A B f):HI A B (f+1):=by
 intro o n L hof ho hn hI;have hx:=VV ho;have hy:=VV hn;have hp:=GT hA hB vA vB hx hy;have gx:=goodT hA vA hx;have gy:=goodT hB vB hy;have hxm:=Ve hx;have hym:=Ve hy;have ex:(aW A)[((o:Nat):Int).toNat]? = some (bW A[o]):=by simp[gK,hx]
 have ey:(aW B)[((n:Nat):Int).toNat]? = some (bW B[n]):=by simp[gK,hy]
 have hCh:=Ni A[o] B[n] gx.opt gy.opt (fun s hs=>by have:=hA.lab _ hxm s hs;omega) (hB.llen _ hym) (by have:=hA.vlen _ hxm;omega) gy.srt gy.val (by have:=hB.vlen _ hym;omega);have hlk:=fun(mem:aP) (id:Nat) (hm:lk mem id=some (.mapb (o9 L)))=>Rj (o:=o) (n:=n) hm
 have hLl:=Ki hA hB hI;have hvis:iN A B (f+1) o n L=if iA L o n=true then L else(s8 A[o] B[n]).foldl (fun L p=>iN A B f p.1 p.2 L) (L++[Ow A[o] B[n] o n]):=by
  conv=>lhs;unfold iN
  rw[c7 hx,c7 hy]
 generalize iN A B (f+1) o n L=res at hvis ⊢;obtain⟨x,hxe⟩:∃x,x=A[o]:=⟨_,rfl⟩
 obtain⟨y,hye⟩:∃y,y=B[n]:=⟨_,rfl⟩
 rw[←hxe] at ex hp gx hCh hvis hx;rw[←hye] at ey hp gy hCh hvis hy;have hxn:=aV x;have hyn:=aV y;have hln:=@Fs x y;have hmt:Ow x y o n=⟨o,n,(tF x y).map (·.1),(tF x y).map (·.2)⟩:=rfl;have hpr:s8 x y=if x.kind≠y.kind then [] else if x.kind=2 then(x.kids.zip (tF x y)).map (fun p=>(p.1.toNat,bA y p.2.1)) else if x.kind=3 then(x.kids.zip y.kids).map (fun p=>(p.1.toNat,p.2.toNat))
  else if x.kind=4 then(bA x 0,bA y 0)::((x.kids.drop 1).zip (tF x y)).map (fun p=>(p.1.toNat,bA y (p.2.1+1))) else []:=rfl
 have h2r:=fun(a:x.kind=2/\y.kind=2) (k:Nat) (hk:k<x.kids.length)=>Oq a hk
 have h2in:=fun(a:x.kind=2) (b:y.kind=2) (k:Nat) (hk:k<x.kids.length)=>El (k:=k) gx.opt gy.opt a b hk
 have h4r:=fun(a:x.kind=4/\y.kind=4) (k:Nat) (v:a6) (hv:x.values[k]? = some v)=>MZ a hv
 have hvy:=fun(e:y.kind=4)=>AQ hB.ok vB hy e
 generalize tF x y=ch at h4r hCh hln hmt hpr h2r;generalize s8 x y=ps at hp hvis hpr;clear hx hy hxm hym hxe hye;refine aK eS func54 rfl ?_;refine Rr ?_;refine aD (hlk _ _ rfl) ?_;cases hin:iA L o n with
 | true=>
  rw[Vb hin] at hvis;rw[hvis];refine Rr ?_;exact bJ (n':=8) (m':=dM A B L 7 []) [(0,0),(1,1),(2,2),(3,3),(4,4),(5,5),(6,7)] rfl (g6 (rid:=6) rfl rfl rfl rfl rfl rfl rfl rfl rfl rfl rfl rfl rfl rfl rfl rfl (.same (dS _)) trivial) (.same _ nn) ⟨rfl,rfl,rfl⟩
 | false=>
  rw[VY (by rw[hin];simp)] at hvis;refine Rr ?_;refine aD (GO L 0 hin) ?_;refine Rr ?_;refine fN.2 ?_;refine Rr ?_;repeat((first|refine aD ex ?_|refine aD ey ?_|refine aU ?_);refine Rr ?_)
  refine hCh.use eS (.cons (.ip' hxn) (.cons (.ip' hyn) .nil)) (.tup' (.cons (.il' (aM _)) (.cons (.il' (eB _)) .nil))) ?_;refine Rr ?_;refine aN (bV rfl rfl (by rw[oD]) (by simp;omega)) ?_;refine Rt ?_;rw[hmt] at hvis;have hL1:tZ A.length B.length (L++[⟨o,n,ch.map (·.1),ch.map (·.2)⟩]):=Ih hI ho hn hin;obtain⟨L1,hL1e⟩:∃L1,L1=L++[(⟨o,n,ch.map (·.1),ch.map (·.2)⟩:Mt)]:=⟨_,rfl⟩
  have hrow:=Ja L ⟨o,n,ch.map (·.1),ch.map (·.2)⟩;have hsee:=JK L ⟨o,n,ch.map (·.1),ch.map (·.2)⟩;have hlen1:L.length+1=L1.length:=by rw[hL1e];simp
  rw[←hL1e] at hvis hL1 hrow hsee;have hk12:=gx.node.kind;have hkx:=gx.node.kids;have hky:=gy.node.kids;have hbx:=gx.node.bind;have hby:=gy.node.bind;have hklx:=gx.opt.klen;have hkly:=gy.opt.klen;clear hCh hlk gx gy ex ey;obtain⟨kind,name,lo,hi',ws,lbs,vals,kids,⟨vk,vn,vs,vks⟩⟩:=x;obtain⟨kind2,name2,lo2,hi2,ws2,lbs2,vals2,kids2,⟨vk2,vn2,vs2,vks2⟩⟩:=y;simp only at hln hpr h2r h2in h4r hvy hk12 hkx hky hbx hby hklx hkly;refine Rt ?_;by_cases hk:kind=kind2
  ·subst hk;rw[VY (by simp)] at hpr;rw[show (kind != kind)=false by simp];refine Rr ?_;by_cases k2:kind=2
   ·subst k2;rw[Vb rfl] at hpr;refine Rr ?_;have hlc:=hln.1 ⟨rfl,rfl⟩;refine bC.at eS (fun p:Nat × List Mt=>p.1<=kids.length/\p.2=(ps.take p.1).foldl (fun L p=>iN A B f p.1 p.2 L) L1/\tZ A.length B.length p.2)
     (fun p=>⟨[(5,.ptr 4 0 0),(7,.ptr 8 0 0),(9,.ip (bW ⟨2,name2,lo2,hi2,ws2,lbs2,vals2,kids2,.mk vk2 vn2 vs2 vks2⟩)),(65,.il 1 (aS kids)),(66,.int .i64 kids.length),(67,.int .i64 p.1)],
      dM A B p.2 7 [(8,.row 104 4 [.agg [.int .i64 o,.int .i64 n,.il 1 (aS (ch.map (·.1))),.il 1 (gU (ch.map (·.2)))]])],9,167⟩) (fun p=>kids.length-p.1) (0,L1) [(0,0),(1,1),(2,2),(3,3),(4,4),(5,5),(22,7),(8,8)] ⟨by simp,by simp,hL1⟩
     (aG _ rfl (g6 (rid:=22) (by simp;omega) rfl rfl rfl rfl rfl rfl rfl rfl rfl rfl rfl rfl rfl hsee.symm rfl (.eq (dS _) hrow.symm) ⟨aL 8 (.cons (.agg' (.cons nn (.cons nn (.cons (.il' (aM _)) (.cons (.il' (eB _)) .nil))))) .nil),trivial⟩) ⟨aJ,aJ,aR (.ip' hyn),aR (.il' (aM _)),⟨_,rfl,.int (by rw[aC])⟩,aF,trivial⟩) ?_
    rintro⟨k,Lk⟩ ⟨hk,hLk,hIk⟩;simp only at hk hLk hIk ⊢;refine Rr ?_;refine aI (fun hb=>?_) (fun hb=>?_)
    ·have hlt:k<kids.length:=by simpa using hb
     have e1:(aS kids)[((k:Nat):Int).toNat]? = some (.int .i64 kids[k]):=by simp[a8,VV hlt]
     obtain⟨q0,q1⟩:=hkx k _ (VV hlt);have hc:=h2r ⟨rfl,rfl⟩ k hlt;obtain⟨c0,c1⟩:=h2in rfl rfl k hlt;have hpk:ps[k]? = some (kids[k].toNat,bA ⟨2,name2,lo2,hi2,ws2,lbs2,vals2,kids2,.mk vk2 vn2 vs2 vks2⟩ (qO ⟨2,name,lo,hi',ws,lbs,vals,kids,.mk vk vn vs vks⟩ ⟨2,name2,lo2,hi2,ws2,lbs2,vals2,kids2,.mk vk2 vn2 vs2 vks2⟩ k).1):=by
      rw[hpr,Vy,Fg (VV hlt) hc];rfl
     generalize qO ⟨2,name,lo,hi',ws,lbs,vals,kids,.mk vk vn vs vks⟩ ⟨2,name2,lo2,hi2,ws2,lbs2,vals2,kids2,.mk vk2 vn2 vs2 vks2⟩ k=c at hc c0 c1 hpk;generalize kids[k]=q at e1 q0 q1 hpk;obtain⟨q,rfl⟩:=Vk q0;obtain⟨c1',c2⟩:=c;simp only at c0 c1 hpk;obtain⟨cn,rfl⟩:=Vk c0;have e2:(aS (ch.map (·.1)))[((k:Nat):Int).toNat]? = some (.int .i64 (cn:Int)):=by simp[a8,Vy,hc]
     have hcl:cn<kids2.length:=om;have e3:(aS kids2)[((cn:Nat):Int).toNat]? = some (.int .i64 kids2[cn]):=by simp[a8,VV hcl]
     obtain⟨w0,w1⟩:=hky cn _ (VV hcl);have hka:bA ⟨2,name2,lo2,hi2,ws2,lbs2,vals2,kids2,.mk vk2 vn2 vs2 vks2⟩ cn=kids2[cn].toNat:=by unfold bA;rw[VW,Va,VV hcl];rfl
     rw[hka] at hpk;generalize kids2[cn]=w at e3 w0 w1 hpk;obtain⟨w,rfl⟩:=Vk w0;simp only[Va] at hpk;have hpb:=hp _ (Ve hpk);simp only at hpb;have hnx:=An hpk hLk;refine Rr ?_;refine aD e1 ?_;refine Rr ?_;repeat((first|refine aD e2 ?_|refine aD e3 ?_|refine aU ?_);refine Rr ?_)
     refine RB ih om om om hIk (by rfl) (fun _=>by rfl) ?_;refine Rt ?_;exact .mk (k+1,iN A B f q w Lk) [(0,0),(1,1),(2,2),(3,3),(4,4),(5,5),(24,7),(8,8)] ⟨by simp only;omega,hnx,v8 hA hB vA vB f q w Lk om om hIk⟩
      (aG _ rfl (g6 (rid:=24) rfl rfl rfl rfl rfl rfl rfl rfl rfl rfl rfl rfl rfl rfl rfl rfl (.same (dS _)) ⟨aL 8 (.cons (.agg' (.cons nn (.cons nn (.cons (.il' (aM _)) (.cons (.il' (eB _)) .nil))))) .nil),trivial⟩) ⟨aJ,aJ,aR (.ip' hyn),aR (.il' (aM _)),aF,⟨_,rfl,.wp⟩,trivial⟩) (by simp only;omega)
    ·have hlt:k=kids.length:=by simp at hb;omega
     have hpl:ps.length<=k:=by rw[hpr];simp;omega
     rw[Vl hpl,←hvis] at hLk;subst hLk;refine Rr ?_;exact bJ (n':=8) (m':=dM A B Lk 7 []) [(0,0),(1,1),(2,2),(3,3),(4,4),(5,5),(7,7)] rfl (g6 (rid:=7) rfl rfl rfl rfl rfl rfl rfl rfl rfl rfl rfl rfl rfl rfl rfl rfl (.same (dS _)) trivial) (.same _ nn) ⟨rfl,rfl,rfl⟩
   ·rw[VY k2] at hpr;rw[show (kind == 2)=false by simpa using k2];refine Rr ?_;by_cases k3:kind=3
    ·subst k3;rw[Vb rfl] at hpr;refine Rt ?_;refine bC.at eS (fun p:Nat × List Mt=>p.1<=min kids.length kids2.length/\p.2=(ps.take p.1).foldl (fun L p=>iN A B f p.1 p.2 L) L1/\tZ A.length B.length p.2)
      (fun p=>⟨[(5,.ptr 4 0 0),(8,.ip (bW ⟨3,name,lo,hi',ws,lbs,vals,kids,.mk vk vn vs vks⟩)),(9,.ip (bW ⟨3,name2,lo2,hi2,ws2,lbs2,vals2,kids2,.mk vk2 vn2 vs2 vks2⟩)),(100,.int .i64 (min kids.length kids2.length:Nat)),(101,.int .i64 p.1)],
       dM A B p.2 7 [],8,167⟩) (fun p=>min kids.length kids2.length-p.1) (0,L1) [(0,0),(1,1),(2,2),(3,3),(4,4),(5,5),(22,7)] ⟨by simp,by simp,hL1⟩
      (aG _ rfl (g6 (rid:=22) (by simp;omega) rfl rfl rfl rfl rfl rfl rfl rfl rfl rfl rfl rfl rfl hsee.symm rfl (.eq (dS _) hrow.symm) trivial) ⟨aJ,aR (.ip' hxn),aR (.ip' hyn),⟨_,rfl,.int (by simp only[aC];split<;>omega)⟩,aF,trivial⟩) ?_
     rintro⟨k,Lk⟩ ⟨hk,hLk,hIk⟩;simp only at hk hLk hIk ⊢;refine Rr ?_;refine aI (fun hb=>?_) (fun hb=>?_)
     ·have hlt:k<min kids.length kids2.length:=by simp at hb;omega
      have hl1:k<kids.length:=om;have hl2:k<kids2.length:=om;have e1:(aS kids)[((k:Nat):Int).toNat]? = some (.int .i64 kids[k]):=by simp[a8,VV hl1]
      have e3:(aS kids2)[((k:Nat):Int).toNat]? = some (.int .i64 kids2[k]):=by simp[a8,VV hl2]
      obtain⟨q0,q1⟩:=hkx k _ (VV hl1);obtain⟨w0,w1⟩:=hky k _ (VV hl2);have hpk:ps[k]? = some (kids[k].toNat,kids2[k].toNat):=by
       rw[hpr,Vy,Fg (VV hl1) (VV hl2)];rfl
      generalize kids[k]=q at e1 q0 q1 hpk;generalize kids2[k]=w at e3 w0 w1 hpk;obtain⟨q,rfl⟩:=Vk q0;obtain⟨w,rfl⟩:=Vk w0;simp only[Va] at hpk;have hnx:=An hpk hLk;refine Rr ?_;repeat((first|refine aD e1 ?_|refine aD e3 ?_|refine aU ?_);refine Rr ?_)
      refine RB ih om om om hIk (by rfl) (fun _=>by rfl) ?_;refine Rt ?_;exact .mk (k+1,iN A B f q w Lk) [(0,0),(1,1),(2,2),(3,3),(4,4),(5,5),(25,7)] ⟨by simp only;omega,hnx,v8 hA hB vA vB f q w Lk om om hIk⟩
       (aG _ rfl (g6 (rid:=25) rfl rfl rfl rfl rfl rfl rfl rfl rfl rfl rfl rfl rfl rfl rfl rfl (.same (dS _)) trivial) ⟨aJ,aR (.ip' hxn),aR (.ip' hyn),aF,⟨_,rfl,.wp⟩,trivial⟩) (by simp only;omega)
     ·have hlt:k=min kids.length kids2.length:=by simp at hb;omega
      have hpl:ps.length<=k:=by rw[hpr];simp;omega
      rw[Vl hpl,←hvis] at hLk;subst hLk;refine Rr ?_;exact bJ (n':=8) (m':=dM A B Lk 7 []) [(0,0),(1,1),(2,2),(3,3),(4,4),(5,5),(7,7)] rfl (g6 (rid:=7) rfl rfl rfl rfl rfl rfl rfl rfl rfl rfl rfl rfl rfl rfl rfl rfl (.same (dS _)) trivial) (.same _ nn) ⟨rfl,rfl,rfl⟩
    ·rw[VY k3] at hpr;rw[show (kind == 3)=false by simpa using k3];refine Rr ?_;by_cases k4:kind=4
     ·subst k4;rw[Vb rfl] at hpr;have hlx:0<kids.length:=by have:=hbx rfl;omega
      have hly:0<kids2.length:=by have:=hby rfl;omega
      have e1:(aS kids)[(0:Int).toNat]? = some (.int .i64 kids[0]):=by rw[show (0:Int).toNat=0 from rfl,a8,VV hlx];rfl
      have e3:(aS kids2)[(0:Int).toNat]? = some (.int .i64 kids2[0]):=by rw[show (0:Int).toNat=0 from rfl,a8,VV hly];rfl
      obtain⟨q0,q1⟩:=hkx 0 _ (VV hlx);obtain⟨w0,w1⟩:=hky 0 _ (VV hly);have hka1:bA ⟨4,name,lo,hi',ws,lbs,vals,kids,.mk vk vn vs vks⟩ 0=kids[0].toNat:=by unfold bA;rw[VW,show (0:Int).toNat=0 from rfl,VV hlx];rfl
      have hka2:bA ⟨4,name2,lo2,hi2,ws2,lbs2,vals2,kids2,.mk vk2 vn2 vs2 vks2⟩ 0=kids2[0].toNat:=by unfold bA;rw[VW,show (0:Int).toNat=0 from rfl,VV hly];rfl
      rw[hka1,hka2] at hpr;generalize kids[0]=q at e1 q0 q1 hpr;generalize kids2[0]=w at e3 w0 w1 hpr;obtain⟨q,rfl⟩:=Vk q0;obtain⟨w,rfl⟩:=Vk w0;simp only[Va] at hpr;have hI2:=v8 hA hB vA vB f q w L1 om om hL1;rw[hpr,V1] at hvis;refine Rr ?_;repeat((first|refine aD e1 ?_|refine aD e3 ?_|refine aU ?_);refine Rr ?_)
      refine Sr ih (L:=L1) om om om hL1 22 (by rfl) (g6 (rid:=22) hlen1 rfl rfl rfl rfl rfl rfl rfl rfl rfl rfl rfl rfl rfl hsee.symm rfl (.eq (dS _) hrow.symm) trivial) (by rfl) (by rfl) (fun _=>by rfl) ?_;refine Rt ?_;refine aN (bK (Vc (by rw[aC];simp;omega)) (bK (Vc (Vh _)) (Vc (Vh _)))) ?_;have ed:List.take ((aS kids).length-Int.toNat 1) (List.drop (Int.toNat 1) (aS kids))=aS (kids.drop 1):=by
       rw[Vl (by simp)];simp[aS]
      rw[ed];obtain⟨kr,hkr⟩:∃kr,kr=kids.drop 1:=⟨_,rfl⟩
      rw[←hkr] at hvis hpr ⊢;have hkrl:kr.length=vals.length:=by rw[hkr,Xo];have:=hbx rfl;omega
      have hkrx:∀(j:Nat) (k:Int),kr[j]? = some k->0<=k/\k<o:=fun j k hj=>by
       rw[hkr,V9] at hj;exact hkx _ k hj
      have h4r:=h4r ⟨rfl,rfl⟩;have hvy:=hvy rfl;have hby:=hby rfl;have hlc:=hln.2 ⟨rfl,rfl⟩;have hpq:=fun p (h:p∈(kr.zip ch).map (fun p=>(p.1.toNat,bA ⟨4,name2,lo2,hi2,ws2,lbs2,vals2,kids2,.mk vk2 vn2 vs2 vks2⟩ (p.2.1+1))))=>hp p (by rw[hpr];exact Vn _ h)
      clear hp hpr;generalize hps:(kr.zip ch).map (fun p=>(p.1.toNat,bA ⟨4,name2,lo2,hi2,ws2,lbs2,vals2,kids2,.mk vk2 vn2 vs2 vks2⟩ (p.2.1+1)))=ps2 at hvis hpq;refine Rr ?_;generalize iN A B f q w L1=L2 at hI2 hvis ⊢;refine bC.at eS (fun p:Nat × List Mt=>p.1<=kr.length/\p.2=(ps2.take p.1).foldl (fun L p=>iN A B f p.1 p.2 L) L2/\tZ A.length B.length p.2)
       (fun p=>⟨[(5,.ptr 4 0 0),(7,.ptr 8 0 0),(9,.ip (bW ⟨4,name2,lo2,hi2,ws2,lbs2,vals2,kids2,.mk vk2 vn2 vs2 vks2⟩)),(143,.il 1 (aS kr)),(144,.int .i64 kr.length),(145,.int .i64 p.1)],
        dM A B p.2 7 [(8,.row 104 4 [.agg [.int .i64 o,.int .i64 n,.il 1 (aS (ch.map (·.1))),.il 1 (gU (ch.map (·.2)))]])],9,167⟩) (fun p=>kr.length-p.1) (0,L2) [(0,0),(1,1),(2,2),(3,3),(4,4),(5,5),(47,7),(8,8)] ⟨by simp,by simp,hI2⟩
       (aG _ rfl (g6 (rid:=47) rfl rfl rfl rfl rfl rfl rfl rfl rfl rfl rfl rfl rfl rfl rfl rfl (.same (dS _)) ⟨aL 8 (.cons (.agg' (.cons nn (.cons nn (.cons (.il' (aM _)) (.cons (.il' (eB _)) .nil))))) .nil),trivial⟩) ⟨aJ,aJ,aR (.ip' hyn),aR (.il' (aM _)),⟨_,rfl,.int (by rw[aC])⟩,aF,trivial⟩) ?_
      rintro⟨k,Lk⟩ ⟨hk,hLk,hIk⟩;simp only at hk hLk hIk ⊢;refine Rr ?_;refine aI (fun hb=>?_) (fun hb=>?_)
      ·have hlt:k<kr.length:=by simpa using hb
       have e1:(aS kr)[((k:Nat):Int).toNat]? = some (.int .i64 kr[k]):=by simp[a8,VV hlt]
       obtain⟨q0,q1⟩:=hkrx k _ (VV hlt);have hc:=h4r k _ (VV (show k<vals.length by omega));have hnr:=C2 (l:=vals2) vals[k] om;unfold yX at hc;have hpk:ps2[k]? = some (kr[k].toNat,bA ⟨4,name2,lo2,hi2,ws2,lbs2,vals2,kids2,.mk vk2 vn2 vs2 vks2⟩ (((kF vals2 vals[k]).1:Int)+1)):=by
        rw[←hps,Vy,Fg (VV hlt) hc];rfl
       generalize kF vals2 vals[k]=c at hc hnr hpk;generalize kr[k]=q at e1 q0 q1 hpk;obtain⟨q,rfl⟩:=Vk q0;obtain⟨cn,c2⟩:=c;simp only at hnr hpk;have e2:(aS (ch.map (·.1)))[((k:Nat):Int).toNat]? = some (.int .i64 (cn:Int)):=by simp[a8,Vy,hc]
       have hcl:cn+1<kids2.length:=om;have hw:IntKind.i64.wrap ((cn:Int)+1)=((cn+1:Nat):Int):=w64 om ⟨om,om⟩;have e3:(aS kids2)[((cn+1:Nat):Int).toNat]? = some (.int .i64 kids2[cn+1]):=by rw[Va,a8,VV hcl];rfl
       obtain⟨w0,w1⟩:=hky (cn+1) _ (VV hcl);have hka:bA ⟨4,name2,lo2,hi2,ws2,lbs2,vals2,kids2,.mk vk2 vn2 vs2 vks2⟩ ((cn:Int)+1)=kids2[cn+1].toNat:=by
        unfold bA;rw[VW,show ((cn:Int)+1).toNat=cn+1 by omega,VV hcl];rfl
       rw[hka] at hpk;generalize kids2[cn+1]=w at e3 w0 w1 hpk;obtain⟨w,rfl⟩:=Vk w0;simp only[Va] at hpk;have hnx:=An hpk hLk;refine Rr ?_;refine aD e1 ?_;refine Rr ?_;repeat((first|refine aD e2 ?_|refine aD e3 ?_|refine aU ?_);refine Rr ?_)
       rw[hw];refine Rr ?_;repeat((first|refine aD e2 ?_|refine aD e3 ?_|refine aU ?_);refine Rr ?_)
       refine RB ih om om om hIk (by rfl) (fun _=>by rfl) ?_;refine Rt ?_;exact .mk (k+1,iN A B f q w Lk) [(0,0),(1,1),(2,2),(3,3),(4,4),(5,5),(25,7),(8,8)] ⟨by simp only;omega,hnx,v8 hA hB vA vB f q w Lk om om hIk⟩
        (aG _ rfl (g6 (rid:=25) rfl rfl rfl rfl rfl rfl rfl rfl rfl rfl rfl rfl rfl rfl rfl rfl (.same (dS _)) ⟨aL 8 (.cons (.agg' (.cons nn (.cons nn (.cons (.il' (aM _)) (.cons (.il' (eB _)) .nil))))) .nil),trivial⟩) ⟨aJ,aJ,aR (.ip' hyn),aR (.il' (aM _)),aF,⟨_,rfl,.wp⟩,trivial⟩) (by simp only;omega)
      ·have hlt:k=kr.length:=by simp at hb;omega
       have hpl:ps2.length<=k:=by rw[←hps];simp;omega
       rw[Vl hpl,←hvis] at hLk;subst hLk;refine Rr ?_;exact bJ (n':=8) (m':=dM A B Lk 7 []) [(0,0),(1,1),(2,2),(3,3),(4,4),(5,5),(7,7)] rfl (g6 (rid:=7) rfl rfl rfl rfl rfl rfl rfl rfl rfl rfl rfl rfl rfl rfl rfl rfl (.same (dS _)) trivial) (.same _ nn) ⟨rfl,rfl,rfl⟩
     ·rw[VY k4] at hpr;rw[show (kind == 4)=false by simpa using k4];refine Rr ?_;rw[hpr,Xi] at hvis;rw[hvis];exact bJ (n':=8) (m':=dM A B L1 7 []) [(0,0),(1,1),(2,2),(3,3),(4,4),(5,5),(22,7)] rfl (g6 (rid:=22) (by simp;omega) rfl rfl rfl rfl rfl rfl rfl rfl rfl rfl rfl rfl rfl hsee.symm rfl (.eq (dS _) hrow.symm) trivial) (.same _ nn) ⟨rfl,rfl,rfl⟩
  ·rw[Vb hk] at hpr;rw[show (kind != kind2)=true by simpa using hk];refine Rr ?_;rw[hpr,Xi] at hvis;rw[hvis];exact bJ (n':=8) (m':=dM A B L1 7 []) [(0,0),(1,1),(2,2),(3,3),(4,4),(5,5),(22,7)] rfl (g6 (rid:=22) (by simp;omega) rfl rfl rfl rfl rfl rfl rfl rfl rfl rfl rfl rfl rfl hsee.symm rfl (.eq (dS _) hrow.symm) trivial) (.same _ nn) ⟨rfl,rfl,rfl⟩
set_option maxRecDepth 100000
set_option maxHeartbeats 16000000
theorem Kk{A B:List Nd}(hA:dZ A)(hB:dZ B)(vA:cL A=0)(vB:cL B=0):∀f,HI A B f
 | 0=>fun o n L h=>absurd h om
 | f+1=>RK hA hB vA vB f (Kk hA hB vA vB f)
theorem cM(A:List Nd):NN (.agg [.il 12 (aW A)]):=.agg' (.cons (.il' (aY _)) .nil)
theorem Ta{A B:List Nd}(hA:dZ A)(hB:dZ B):bB prog gz 24 [.agg [.il 12 (aW A)],.agg [.il 12 (aW B)]] (.il 4 (nW (sY A B))):=by
 have hUA:=Bt A hA;have hUB:=Bt B hB;have hpa:=@jT A;have hpb:=@jT B;have hd:sY A B=if fD A=true/\fD B=true then iN A B A.length (A.length-1) (B.length-1) [] else []:=rfl
 have hVis:=fun(vA:cL A=0) (vB:cL B=0)=>Kk hA hB vA vB A.length
 generalize sY A B=res at hd ⊢;generalize fD A=ua at hUA hpa hd;generalize fD B=ub at hUB hpb hd;refine aK eS func24 rfl ?_;refine Rr ?_;refine hUA.goG ?_ (.cons (cM A) .nil);cases ua with
 | false=>
  refine Rr ?_;rw[hd];exact dK (r':=.il 4 (nW [])) (.nil 4) ⟨by simp,rfl,rfl⟩
 | true=>
  refine Rr ?_;refine hUB.goG ?_ (.cons (cM B) .nil);cases ub with
  | false=>
   refine Rr ?_;rw[hd];exact dK (r':=.il 4 (nW [])) (.nil 4) ⟨by simp,rfl,rfl⟩
  | true=>
   rw[Vb ⟨rfl,rfl⟩] at hd;obtain⟨a1,a2⟩:=hpa rfl;obtain⟨b1,b2⟩:=hpb rfl;have hV:=hVis a2 b2 (A.length-1) (B.length-1) [] om om om (K2 _ _);rw[←hd] at hV;have w1:IntKind.i64.wrap (((aW A).length:Int)-1)=((A.length-1:Nat):Int):=w64 (by rw[bD];omega) ⟨by have:=hA.len;omega,by have:=hA.len;omega⟩;have w2:IntKind.i64.wrap (((aW B).length:Int)-1)=((B.length-1:Nat):Int):=w64 (by rw[bD];omega) ⟨by have:=hB.len;omega,by have:=hB.len;omega⟩;refine Rr ?_;rw[w1,w2];refine aH.ph 104 4 ?_;unfold vQ at hV;refine aH.useN eS [(4,0),(0,1),(1,2),(2,3),(5,4),(3,5),(6,6)] hV (by rfl) (.s (.cons (.ptr 4 0 0 0 rfl) (.cons (.ptr 0 1 0 0 rfl) (.cons (.ptr 1 2 0 0 rfl) (.cons (.ptr 2 3 0 0 rfl) (.cons (.ptr 5 4 0 0 rfl) .nil))))))
    ⟨⟨4,_,rfl,rfl,.cons (.one rfl rfl (.mp 3 5 rfl)) .nil⟩,⟨0,_,rfl,rfl,nK A⟩,⟨1,_,rfl,rfl,nK B⟩,⟨2,_,rfl,rfl,.cons (.one rfl rfl (.nslk 6 6 _ rfl rfl)) .nil⟩,
     ⟨5,_,rfl,rfl,.cons (.one rfl rfl (.fn _ [] [] [.ptr 4 0 0,.ptr 0 0 0,.ptr 1 0 0,.ptr 2 0 0,.ptr 5 0 0] [.ptr 0 0 0,.ptr 1 0 0,.ptr 2 0 0,.ptr 3 0 0,.ptr 4 0 0] rfl rfl (by simp) (kU.cons (.ptr 4 0 0 0 rfl) (.cons (.ptr 0 1 0 0 rfl) (.cons (.ptr 1 2 0 0 rfl) (.cons (.ptr 2 3 0 0 rfl) (.cons (.ptr 5 4 0 0 rfl) .nil))))).2)) .nil⟩,
     ⟨3,_,rfl,rfl,KN []⟩,aL 6 .nil,trivial⟩ (by rfl) ?_
   rintro r m k ⟨rfl,rfl,rfl⟩;refine⟨[(3,2),(7,7)],.tup [],[(2,.row 62 1 [.sl 7 0 res.length]),(7,.row 104 4 (nW res))],8,.same _ nn,⟨⟨3,_,rfl,rfl,.cons (.one rfl rfl (.sl 7 7 0 _ rfl)) .nil⟩,aL 7 (dS _),trivial⟩,by rfl, ?_⟩;refine Rr ?_;exact dK (r':=.il 4 (nW res)) (.fz' (id:=7) rfl rfl (by rw[oD];omega) (by rw[V7];exact Vl (by rw[oD];omega)) (dS _)) ⟨rfl,rfl,rfl⟩
theorem bY{A:List Nd}{i:Nat}(h:i<A.length):A[i]? = some (aE A i):=by
 have:=VV h;rw[c7 this];exact this
theorem M0{A B:List Nd}(hA:dZ A)(hB:dZ B):bB prog gz 23 [.agg [.il 12 (aW A)],.agg [.il 12 (aW B)]] (.int .i64 (Go.Ax.f6 A B)):=by
 have hUA:=Bt A hA;have hUB:=Bt B hB;have hD:=Ta hA hB;have hr:=N8 hA hB;have hl:=OQ hA hB;have hd:Go.Ax.f6 A B=if fD A=true/\fD B=true then Dz A B (sY A B) else if A.length=0/\B.length=0 then 0 else 1:=rfl
 generalize Go.Ax.f6 A B=res at hd ⊢;generalize sY A B=L at hD hr hl hd;generalize fD A=ua at hUA hd;generalize fD B=ub at hUB hd;have z1:(((aW A).length:Int) == 0)=decide (A.length=0):=by rw[bD,V5];simp
 have z2:(((aW B).length:Int) == 0)=decide (B.length=0):=by rw[bD,V5];simp
 refine aK eS func23 rfl ?_;refine Rr ?_;refine hUA.goG ?_ (.cons (cM A) .nil);cases ua with
 | false=>
  rw[VY (by simp)] at hd;refine Rr ?_;rw[z1];by_cases e1:A.length=0
  ·rw[Vi e1];refine Rr ?_;rw[z2];by_cases e2:B.length=0
   ·rw[Vb ⟨e1,e2⟩] at hd;rw[Vi e2,hd];refine Rr ?_;exact aA nn ⟨rfl,rfl,rfl⟩
   ·rw[VY (fun h=>e2 h.2)] at hd;rw[Vv e2,hd];refine Rr ?_;exact aA nn ⟨rfl,rfl,rfl⟩
  ·rw[VY (fun h=>e1 h.1)] at hd;rw[Vv e1,hd];refine Rr ?_;exact aA nn ⟨rfl,rfl,rfl⟩
 | true=>
  refine Rr ?_;refine hUB.goG ?_ (.cons (cM B) .nil);cases ub with
  | false=>
   rw[VY (by simp)] at hd;refine Rr ?_;rw[z1];by_cases e1:A.length=0
   ·rw[Vi e1];refine Rr ?_;rw[z2];by_cases e2:B.length=0
    ·rw[Vb ⟨e1,e2⟩] at hd;rw[Vi e2,hd];refine Rr ?_;exact aA nn ⟨rfl,rfl,rfl⟩
    ·rw[VY (fun h=>e2 h.2)] at hd;rw[Vv e2,hd];refine Rr ?_;exact aA nn ⟨rfl,rfl,rfl⟩
   ·rw[VY (fun h=>e1 h.1)] at hd;rw[Vv e1,hd];refine Rr ?_;exact aA nn ⟨rfl,rfl,rfl⟩
  | true=>
   rw[Vb ⟨rfl,rfl⟩] at hd;refine Rr ?_;refine hD.use eS (.cons (cM A) (.cons (cM B) .nil)) (.il' (dS _)) ?_;refine Rr ?_;refine bC.at eS (fun k:Nat=>k<=L.length)
    (fun k=>⟨[(2,.ptr 0 0 0),(3,.ptr 1 0 0),(5,.int .i64 (Dz A B (L.take k):Nat)),(28,.il 4 (nW L)),(29,.int .i64 L.length),(30,.int .i64 k)],
     [(0,.row 25 1 [.agg [.il 12 (aW A)]]),(1,.row 25 1 [.agg [.il 12 (aW B)]])],2,50⟩) (fun k=>L.length-k) 0 [(0,0),(1,1)] (by simp)
    (aG _ rfl ⟨⟨0,_,rfl,rfl,nK A⟩,⟨1,_,rfl,rfl,nK B⟩,trivial⟩ ⟨aJ,aJ,⟨_,rfl,.int (by simp[Dz])⟩,aR (.il' (dS _)),⟨_,rfl,.int (by rw[oD])⟩,aF,trivial⟩) ?_
   intro k hk;refine Rr ?_;refine aI (fun hb=>?_) (fun hb=>?_)
   ·have hlt:k<L.length:=by simpa using hb
    have hg:L[k]? = some L[k]:=VV hlt;have em:(nW L)[((k:Nat):Int).toNat]? = some (Oo L[k]):=by simp[MC,hg]
    have hm:=hr _ (Vw hlt);have hbs:=Lt A B (L.take k) L[k];rw[←List.take_succ_eq_append_getElem hlt] at hbs;have hble:=QG A B (L.take k);have htl:(L.take k).length<=1000000:=by simp;omega
    generalize L[k]=m at em hm hbs;obtain⟨mo,mn,mp,ms⟩:=m;simp only at hm hbs;have hx:=bY hm.1;have hy:=bY hm.2;have ex:(aW A)[((mo:Nat):Int).toNat]? = some (bW (aE A mo)):=by simp[gK,hx]
    have ey:(aW B)[((mn:Nat):Int).toNat]? = some (bW (aE B mn)):=by simp[gK,hy]
    have hE:=SW (aE A mo) (aE B mn) (hA.ok _ (Ve hx)) (hB.ok _ (Ve hy));generalize Dz A B (L.take k)=b0 at hbs hble ⊢;generalize aE A mo=x at ex hE hbs;generalize aE B mn=y at ey hE hbs;have hxn:=aV x;have hyn:=aV y;refine Rr ?_;refine aD em ?_;refine Rr ?_;repeat((first|refine aD ex ?_|refine aD ey ?_|refine aU ?_);refine Rr ?_)
    refine hE.goG ?_ (.cons (.ip' hxn) (.cons (.ip' hyn) .nil));cases he:r8 x y with
    | true=>
     rw[Vb he] at hbs;refine Rt ?_;exact .mk (k+1) [(0,0),(1,1)] om
      (aG _ rfl ⟨⟨0,_,rfl,rfl,nK A⟩,⟨1,_,rfl,rfl,nK B⟩,trivial⟩ ⟨aJ,aJ,⟨_,rfl,.int om⟩,aR (.il' (dS _)),aF,⟨_,rfl,.w64 om ⟨om,om⟩⟩,trivial⟩) om
    | false=>
     rw[VY (by rw[he];simp)] at hbs;refine Rt ?_;exact .mk (k+1) [(0,0),(1,1)] om
      (aG _ rfl ⟨⟨0,_,rfl,rfl,nK A⟩,⟨1,_,rfl,rfl,nK B⟩,trivial⟩ ⟨aJ,aJ,⟨_,rfl,.w64 om ⟨om,om⟩⟩,aR (.il' (dS _)),aF,⟨_,rfl,.w64 om ⟨om,om⟩⟩,trivial⟩) om
   ·have hlt:k=L.length:=by simp at hb;omega
    rw[hlt,Vr,←hd];refine Rr ?_;exact aA nn ⟨rfl,rfl,rfl⟩
theorem S9{A B:List Nd}(hA:dZ A)(hB:dZ B):bB prog gz 11 [.agg [.il 12 (aW A)],.agg [.il 12 (aW B)]] (.bool (decide (Go.Ax.f6 A B=0))):=by
 have hC:=M0 hA hB;generalize Go.Ax.f6 A B=c at hC ⊢;refine aK eS func11 rfl ?_;refine Rr ?_;refine hC.use eS (.cons (cM A) (.cons (cM B) .nil)) nn ?_;refine Rr ?_;exact aA nn ⟨by congr 1;rw[V5];simp,rfl,rfl⟩
end Go.Proofs.YtioogodkiglceaaGreatDoor
namespace Go.Ax
open Go
inductive A7 (A B:List Nd):Nat->Nat->Prop where
 | mk (i j:Nat) (x y:Nd):A[i]? = some x->B[j]? = some y->y={ x with kids:=y.kids }->y.kids.length=x.kids.length ->
   (∀(k:Nat) (a b:Int),x.kids[k]? = some a->y.kids[k]? = some b->0<=a/\0<=b) ->
   (∀(k:Nat) (a b:Int),x.kids[k]? = some a->y.kids[k]? = some b->A7 A B a.toNat b.toNat)->A7 A B i j
theorem A7.symm{A B:List Nd}{i j:Nat}(h:A7 A B i j):A7 B A j i:=by
 induction h with
 | mk i j x y hx hy he hl hp _ ih=>
  refine .mk j i y x hy hx ?_ hl.symm (fun k a b ha hb=>(hp k b a hb ha).symm) fun k a b ha hb=>ih k b a hb ha
  rw[he]
theorem A7.trans{A B C:List Nd}{i j k:Nat}(h:A7 A B i j):A7 B C j k->A7 A C i k:=by
 induction h generalizing k with
 | mk i j x y hx hy he hl hp _ ih=>
  intro h2;cases h2 with
  | mk _ _ y' z hy' hz he2 hl2 hp2 ih2=>
   rw[hy] at hy';cases hy';have mid:∀(q:Nat) (a:Int),x.kids[q]? = some a->∃b,y.kids[q]? = some b:=fun q a ha=>by
    have hq:q<y.kids.length:=by
     have:=(VX.1 ha).1;omega
    exact⟨_,VV hq⟩
   refine .mk i k x z hx hz ?_ om (fun q a c ha hc=>?_) fun q a c ha hc=>?_
   ·rw[he2,he]
   ·obtain⟨b,hb⟩:=mid q a ha;exact⟨(hp q a b ha hb).1,(hp2 q b c hb hc).2⟩
   ·obtain⟨b,hb⟩:=mid q a ha;exact ih q a b ha hb (ih2 q b c hb hc)
theorem A7.refl{A:List Nd}(hA:∀(i:Nat) (x:Nd),A[i]? = some x->∀k∈x.kids,0<=k/\k<i):∀(n i:Nat),i<n->i<A.length->A7 A A i i
 | 0,i,h,_=>absurd h om
 | n+1,i,h,hi=>by
  have hx:A[i]? = some A[i]:=VV hi;refine .mk i i _ _ hx hx rfl rfl (fun k a b ha hb=>?_) fun k a b ha hb=>?_
  ·rw[ha] at hb;cases hb;have:=hA i _ hx a (Ve ha);exact⟨this.1,this.1⟩
  ·rw[ha] at hb;cases hb;have:=hA i _ hx a (Ve ha);exact A7.refl hA n a.toNat om om
theorem FC(v:a6):cE v v=0:=(lL v).refl
theorem Eu{x y:Nd}(hk:x.kind=2)(hy:y.kind=2)(hl:y.labels=x.labels)(hlen:y.kids.length=x.kids.length)(hlab:x.labels.length=0∨x.labels.length=x.kids.length){k:Nat}(h:k<x.kids.length):qO x y k=((k:Int),true):=by
 have o1:dQ x=x.kids.length:=by unfold dQ;rw[VY om,Vb hk]
 have o2:dQ y=y.kids.length:=by unfold dQ;rw[VY om,Vb hy]
 have hc:yD x y k=((k:Int),true):=by
  unfold yD;rw[VY om,VY om,hl];by_cases h0:x.labels.length=0
  ·rw[Vb (.inl h0),Vi om]
  ·rw[VY (by simp[h0]),Vb ⟨om,rfl⟩]
 unfold qO;rw[o1,o2,VY om,VY om,Va,hc,Vb rfl]
theorem CF:∀{l:List a6} (_:lN l) {k:Nat} {v:a6},l[k]? = some v->cD l v=(k,true):=by
 intro l hs k v hk;have hkl:=(VX.1 hk).1;rw[qS (k:=k) om (fun p a hp ha=>?_) (fun a ha=>?_)]
 ·unfold EC;rw[hk];simp[FC]
 ·have hpl:=(VX.1 ha).1;have e1:=(VX.1 ha).2;have e2:=(VX.1 hk).2;rw[←e1,←e2];exact X0.1 hs p k hpl hkl hp
 ·rw[hk] at ha;cases ha;rw[FC];omega
theorem JQ{l:List a6}(hs:lN l){k:Nat}{v:a6}(h:l[k]? = some v):yX l v=((k:Int),true):=by
 unfold yX kF;rw[CF hs h];simp
theorem OZ{x y:Nd}(he:y={ x with kids:=y.kids })(hl:y.kids.length=x.kids.length)(h2:x.kind=2->x.labels.length=0∨x.labels.length=x.kids.length)(hs:lN x.values){k:Nat}{c:Int × Bool}(h:(tF x y)[k]? = some c):c=((k:Int),true):=by
 have ek:y.kind=x.kind:=by rw[he]
 have el:y.labels=x.labels:=by rw[he]
 have ev:y.values=x.values:=by rw[he]
 unfold tF at h;split at h
 ·rename_i hk;rw[Vy] at h;cases hr:(List.range x.kids.length)[k]? with
  | none=>rw[hr] at h;cases h
  | some q=>
   obtain⟨h1,h3⟩:=VX.1 hr;rw[List.getElem_range] at h3;rw[hr] at h;simp only[Wd,Option.some.injEq] at h;rw[←h,←h3];exact Eu hk.1 hk.2 el hl (h2 hk.1) (by simpa using h1)
 ·split at h
  ·rw[Vy] at h;cases hv:x.values[k]? with
   | none=>rw[hv] at h;cases h
   | some v=>
    rw[hv] at h;simp only[Wd,Option.some.injEq] at h;rw[←h];rw[ev];exact JQ hs hv
  ·simp at h
theorem zQ{y:Nd}{k:Nat}{b:Int}(h:y.kids[k]? = some b):bA y (k:Int)=b.toNat:=by
 unfold bA;rw[Va,VW,h];rfl
end Go.Ax
namespace Go.Ax
open Go
structure Sys(S R:Type) where
 sa:Nd->(Nat->S)->(Nat->a6->R)->S
 sf:Nd->(Nat->a6->R)->a6->R
 s0:S
 r0:R
 la:∀(x:Nd) (al al':Nat->S) (of of':Nat->a6->R),(∀k∈x.kids,al k.toNat=al' k.toNat)->(∀k∈x.kids,∀v,of k.toNat v=of' k.toNat v)->sa x al of=sa x al' of'
 lf:∀(x:Nd) (of of':Nat->a6->R) (v:a6),(∀k∈x.kids,∀v,of k.toNat v=of' k.toNat v)->sf x of v=sf x of' v
section
variable {S R:Type}
def Sys.run(y:Sys S R)(A:List Nd):Nat->(Nat->S) × (Nat->a6->R)
 | 0=>(fun _=>y.s0,fun _ _=>y.r0)
 | f+1=>(fun i=>y.sa (aE A i) (y.run A f).1 (y.run A f).2,fun i v=>y.sf (aE A i) (y.run A f).2 v)
def Sys.all(y:Sys S R)(A:List Nd)(i:Nat):S:=(y.run A (i+1)).1 i
end
theorem CY{α β:Type}{f g:β->α->β}:∀(l:List α) (b:β),(∀a∈l,∀b,f b a=g b a)->l.foldl f b=l.foldl g b
 | [],b,h=>rfl
 | a::l,b,h=>by
  rw[V1,V1,h a (Vu ..),CY l _ fun a ha=>h a (Vn _ ha)]
theorem Gg{α:Type}{l:List α}{ks:List Int}{a:α × Int}(h:a∈l.zip (ks.drop 1)):a.2∈ks/\ks.getD 0 0∈ks:=by
 have:=Wa (XE h).2;cases ks with
 | nil=>cases this
 | cons b r=>exact⟨this,by simp⟩
def Th(x:Nd):Nat:=(x.kids.getD 0 0).toNat
structure VQ(T:Type) where
 one:T
 add:T->T->T
 mul:T->T->T
 opt:Nd->Nat->T
 spn:Nd->T
section
variable {T:Type}
end
end Go.Ax
namespace Go.Ax
open Go
theorem VT.len256{A:List Nd}(h:VT A){i:Nat}{x:Nd}(hx:A[i]? = some x):0<=dR (aX A) i/\dR (aX A) i<=256:=by
 have hi:=(VX.1 hx).1;have:=(f7 (kM A h.v0 i x hx)).2.1;rw[h.lenC hx (Vh _) om,←h.len hx] at this;exact⟨(h.lens0 i).1,this⟩
def Qj(x:Nd)(pv:Nat->List a6):List a6:=
 if x.kind=1 then hZ x.lo x.hi
 else if x.kind=3 then(x.kids.foldl (fun rows k=>gO rows (pv k.toNat)) [[]]).map (dP x.name)
 else if x.kind=2 then x.kids.flatMap fun k=>pv k.toNat
 else if x.kind=4 then(x.values.zip (x.kids.drop 1)).flatMap fun vk=>((pv (Th x)).filter fun u=>decide (cE u vk.1=0)).flatMap fun _=>pv vk.2.toNat
 else [x.value]
theorem rW{α β:Type}{f g:α->List β}:∀(l:List α),(∀a∈l,f a=g a)->l.flatMap f=l.flatMap g
 | [],h=>rfl
 | a::l,h=>by rw[W4,W4,h a (Vu ..),rW l fun a ha=>h a (Vn _ ha)]
def UZ:Sys (List a6) Unit where
 sa:=fun x al _=>Qj x al
 sf:=fun _ _ _=>()
 s0:=[]
 r0:=()
 la:=fun x al al' of of' h1 h2=>by
  unfold Qj;split
  ·rfl
  split
  ·exact congrArg _ (CY _ _ fun k hk b=>by rw[h1 k hk])
  split
  ·exact rW _ fun k hk=>h1 k hk
  split
  ·exact rW _ fun vk hk=>by
    obtain⟨m1,m2⟩:=Gg hk;unfold Th;rw[h1 _ m1,h1 _ m2]
  ·rfl
 lf:=fun x of of' v h2=>rfl
def uE(A:List Nd)(i:Nat):List a6:=UZ.all A i
theorem NT{L:List Mt}{o n:Nat}:iA L o n=true↔∃m∈L,m.old=o/\m.now=n:=by
 simp[iA]
theorem Md{A B:List Nd}(hA:dZ A)(hB:dZ B)(vA:cL A=0)(vB:cL B=0):∀(f o n:Nat) (L:List Mt),o<f->o<A.length->n<B.length ->
  (∀o' n',iA L o' n'=true->iA (iN A B f o n L) o' n'=true)/\iA (iN A B f o n L) o n=true /\
  ∀o' n',iA (iN A B f o n L) o' n'=true->iA L o' n'=true∨∀p∈s8 (aE A o') (aE B n'),iA (iN A B f o n L) p.1 p.2=true
 | 0,o,n,L,h,_,_=>absurd h om
 | f+1,o,n,L,hf,ho,hn=>by
  unfold iN;split
  ·rename_i hi;exact⟨fun _ _ h=>h,hi,fun _ _ h=>.inl h⟩
  ·rename_i hi;have hx:=VV ho;have hy:=VV hn;have hp:=GT hA hB vA vB hx hy;have e1:=c7 hx;have e2:=c7 hy;rw[←e1,←e2] at hp;have key:∀(ps:List (Nat × Nat)) (M:List Mt),(∀p∈ps,p.1<o/\p.2<n) ->
     (∀o' n',iA M o' n'=true->iA (ps.foldl (fun L p=>iN A B f p.1 p.2 L) M) o' n'=true)/\(∀p∈ps,iA (ps.foldl (fun L p=>iN A B f p.1 p.2 L) M) p.1 p.2=true) /\
     ∀o' n',iA (ps.foldl (fun L p=>iN A B f p.1 p.2 L) M) o' n'=true->iA M o' n'=true∨∀p∈s8 (aE A o') (aE B n'),iA (ps.foldl (fun L p=>iN A B f p.1 p.2 L) M) p.1 p.2=true:=by
    intro ps
    induction ps with
    | nil=>exact fun M _=>⟨fun _ _ h=>h,fun p h=>(by cases h),fun _ _ h=>.inl h⟩
    | cons p r ih=>
     intro M hps;simp only[V1];obtain⟨b1,b2⟩:=hps p (Vu ..);obtain⟨g1,g2,g3⟩:=Md hA hB vA vB f p.1 p.2 M om om om;obtain⟨k1,k2,k3⟩:=ih (iN A B f p.1 p.2 M) fun q hq=>hps q (Vn _ hq)
     refine⟨fun o' n' h=>k1 _ _ (g1 _ _ h),fun q hq=>?_,fun o' n' h=>?_⟩
     ·rcases Vg.1 hq with rfl|hq
      ·exact k1 _ _ g2
      ·exact k2 q hq
     ·rcases k3 o' n' h with h|h
      ·rcases g3 o' n' h with h|h
       ·exact .inl h
       ·exact .inr fun q hq=>k1 _ _ (h q hq)
      ·exact .inr h
   obtain⟨k1,k2,k3⟩:=key (s8 (aE A o) (aE B n)) (L++[Ow (aE A o) (aE B n) o n]) hp;refine⟨fun o' n' h=>k1 _ _ ?_,k1 _ _ ?_,fun o' n' h=>?_⟩
   ·rw[wB,h];rfl
   ·rw[wB];simp[Ow]
   ·rcases k3 o' n' h with h|h
    ·rw[wB] at h;simp only[WN,VZ] at h;rcases h with h|⟨h1,h2⟩
     ·exact .inl h
     ·have h1:o=o':=WP h1;have h2:n=n':=WP h2;subst h1 h2;exact .inr k2
    ·exact .inr h
theorem VT.kinds{A:List Nd}(h:VT A){i:Nat}{x:Nd}(hx:A[i]? = some x)(hk:0<x.kids.length):x.kind=2∨x.kind=3∨x.kind=4:=by
 have hn:=jK A h.v0 i x hx;have hN:=(h.node hx).node.kind;have hf:cP i x=true:=by
  unfold eI at hn;split at hn
  ·omega
  ·rename_i h;simpa using h
 unfold cP gY at hf;simp only[VZ,WN,Vt] at hf;have h1:=hf.1.1.1.1.1.1.2;omega
theorem HO{A B:List Nd}(hA:VT A)(hB:VT B)(h:f6 A B=0):A7 A B (A.length-1) (B.length-1):=by
 have uA:fD A=true:=by unfold fD;simp[hA.pos,hA.val]
 have uB:fD B=true:=by unfold fD;simp[hB.pos,hB.val]
 have pA:=hA.pos;have pB:=hB.pos;unfold f6 at h;rw[Vb ⟨uA,uB⟩] at h;unfold Dz at h;have hd:sY A B=iN A B A.length (A.length-1) (B.length-1) []:=by unfold sY;rw[Vb ⟨uA,uB⟩]
 rw[hd] at h;obtain⟨-,g2,g3⟩:=Md hA.tin hB.tin hA.val hB.val A.length (A.length-1) (B.length-1) [] om om om;have hr:=GB hA.tin hB.tin hA.val hB.val A.length (A.length-1) (B.length-1) [] om om (by simp);generalize iN A B A.length (A.length-1) (B.length-1) []=L at h g2 g3 hr;have hex:∀o n,iA L o n=true->o<A.length/\n<B.length/\r8 (aE A o) (aE B n)=true:=fun o n hi=>by
  obtain⟨m,hm,rfl,rfl⟩:=NT.1 hi;obtain⟨h1,h2⟩:=hr m hm;refine⟨h1,h2, ?_⟩;have h3:=Vj h;rw[List.filter_eq_nil_iff] at h3;simpa using h3 m hm
 have hcl:∀o n,iA L o n=true->∀p∈s8 (aE A o) (aE B n),iA L p.1 p.2=true:=fun o n hi=>by
  rcases g3 o n hi with h|h
  ·simp[iA] at h
  ·exact h
 have main:∀f o n,o<f->iA L o n=true->A7 A B o n:=by
  intro f
  induction f with
  | zero=>exact fun o n h=>absurd h om
  | succ f ih=>
   intro o n hf hi;obtain⟨h1,h2,h3⟩:=hex o n hi;have hx:=bY h1;have hy:=bY h2;have hk:=hcl o n hi;have gA:=hA.node hx;have gB:=hB.node hy;have kA:=fun k hk=>dW hA hx (k:=k) hk
   have kB:=fun k hk=>dW hB hy (k:=k) hk
   have hb:=fun h4=>hA.bind hx h4
   generalize aE A o=x at *;generalize aE B n=y at *;unfold r8 at h3;simp only[VZ,Vt,beq_iff_eq] at h3;obtain⟨⟨⟨⟨⟨e1,e2,e3,e4,e5⟩,e6⟩,e7⟩,e8⟩,e9⟩:=h3;have e8:=Ae e8;have e9:=Ef _ _ e9;have he:y={ x with kids:=y.kids }:=by
    obtain⟨a,b,c,d,e,f,g,k,v⟩:=x;obtain⟨a2,b2,c2,d2,e2,f2,g2,k2,v2⟩:=y;simp only at *;subst e1 e2 e3 e5 e6 e7 e8 e9;rfl
   have hch:∀(k:Nat) (c:Int × Bool),(tF x y)[k]? = some c->c=((k:Int),true):=fun k c hc=>
    OZ he e4.symm (fun h=>(gA.opt.ch h).2) gA.srt hc
   refine .mk o n x y hx hy he e4.symm (fun k a b ha hb=>⟨(kA a (Ve ha)).1,(kB b (Ve hb)).1⟩) fun k a b ha hb'=>?_
   have hka:=kA a (Ve ha);have hkl:=(VX.1 ha).1;refine ih a.toNat b.toNat om ?_;have hkind:x.kind=2∨x.kind=3∨x.kind=4:=hA.kinds hx om;have kb:bA y (k:Int)=b.toNat:=zQ hb';rcases hkind with hk2|hk3|hk4
   ·have hm:(a.toNat,b.toNat)∈s8 x y:=by
     unfold s8;rw[VY (by simp[e1]),Vb hk2];refine Vq.2 ⟨(a,((k:Int),true)), ?_,by simp only;rw[kb]⟩;refine Ve (i:=k) ?_;have hl:=(Fs (x:=x) (y:=y)).1 ⟨hk2,om⟩;have hc:(tF x y)[k]? = some (tF x y)[k]:=VV om;rw[hch k _ hc] at hc;rw[XD];exact⟨ha,hc⟩
    exact hk _ hm
   ·have hm:(a.toNat,b.toNat)∈s8 x y:=by
     unfold s8;rw[VY (by simp[e1]),VY om,Vb hk3];refine Vq.2 ⟨(a,b), ?_,rfl⟩;refine Ve (i:=k) ?_;rw[XD];exact⟨ha,hb'⟩
    exact hk _ hm
   ·obtain⟨q1,q2,-,-⟩:=hb hk4;have hm:(a.toNat,b.toNat)∈s8 x y:=by
     unfold s8;rw[VY (by simp[e1]),VY om,VY om,Vb hk4];cases k with
     | zero=>
      refine Vg.2 (.inl ?_);have ka:bA x ((0:Nat):Int)=a.toNat:=zQ ha;rw[←ka,←kb];rfl
     | succ k=>
      refine Vg.2 (.inr (Vq.2 ⟨(a,((k:Int),true)), ?_,by simp only;rw[←kb];rfl⟩));refine Ve (i:=k) ?_;have hl:=(Fs (x:=x) (y:=y)).2 ⟨hk4,om⟩;have hc:(tF x y)[k]? = some (tF x y)[k]:=VV om;rw[hch k _ hc] at hc;rw[XD];exact⟨by rw[V9,Xw];exact ha,hc⟩
    exact hk _ hm
 exact main A.length (A.length-1) (B.length-1) om g2
structure VG(A B:List Nd)(v v':a6)(u u':Nat)(s s':Int):Prop where
 used:u=u'
 c:(s = -1/\s' = -1/\v=v')∨(s = -2/\s' = -2)∨∃j k:Nat,A7 A B j k/\s=(j:Int)/\s'=(k:Int)
def QM(R:Int->Int->Prop):List Int->List Int->Prop
 | [],[]=>True
 | a::l,b::m=>R a b/\QM R l m
 | _,_=>False
theorem KF{R:Int->Int->Prop}:∀{l m:List Int},m.length=l.length->(∀(k:Nat) (a b:Int),l[k]? = some a->m[k]? = some b->R a b)->QM R l m
 | [],[],_,_=>trivial
 | a::l,b::m,hl,h=>⟨h 0 a b rfl rfl,KF (by simpa using hl) fun k x y hx hy=>h (k+1) x y (by simpa using hx) (by simpa using hy)⟩
 | [],b::m,hl,_=>by simp at hl
 | a::l,[],hl,_=>by simp at hl
theorem Ei{A B:List Nd}{rd rd':Nat->Nat->Az}{a0:Nat}{R:Int->Int->Prop}(hr:∀a b q,R a b->VG A B (rd a.toNat q).val (rd' b.toNat q).val (rd a.toNat q).used (rd' b.toNat q).used (rd a.toNat q).stop (rd' b.toNat q).stop):∀(ks ks':List Int) (s s':Pt),QM R ks ks' ->
  s.used=s'.used->s.vals=s'.vals->s.stop = -1->s'.stop = -1 ->
  (bH rd a0 ks s).used=(bH rd' a0 ks' s').used/\(((bH rd a0 ks s).stop = -1/\(bH rd' a0 ks' s').stop = -1/\(bH rd a0 ks s).vals=(bH rd' a0 ks' s').vals)∨((bH rd a0 ks s).stop = -2/\(bH rd' a0 ks' s').stop = -2)∨∃j k:Nat,A7 A B j k/\(bH rd a0 ks s).stop=(j:Int)/\(bH rd' a0 ks' s').stop=(k:Int))
 | [],[],s,s',_,hu,hv,h1,h2=>⟨hu,.inl ⟨h1,h2,hv⟩⟩
 | a::ks,b::ks',s,s',hR,hu,hv,h1,h2=>by
  obtain⟨g1,g2⟩:=hr a b (a0+s.used) hR.1;simp only[bH];rw[←hu];rcases g2 with⟨c1,c2,c3⟩|⟨c1,c2⟩|⟨j,k,c0,c1,c2⟩
  ·rw[Vb c1,Vb c2];exact Ei hr ks ks' _ _ hR.2 (by simp only;rw[g1]) (by simp only;rw[hv,c3]) rfl rfl
  ·rw[VY om,VY om];exact⟨by simp only;rw[g1],.inr (.inl ⟨c1,c2⟩)⟩
  ·rw[VY om,VY om];exact⟨by simp only;rw[g1],.inr (.inr ⟨j,k,c0,c1,c2⟩)⟩
 | [],b::ks',_,_,h,_,_,_,_=>h.elim
 | a::ks,[],_,_,h,_,_,_,_=>h.elim
def TL(A B:List Nd)(r r':Az):Prop:=VG A B r.val r'.val r.used r'.used r.stop r'.stop
theorem AK{A B:List Nd}(hA:VT A)(p:List Int):∀f o n a0 f',A7 A B o n->o<f->n<f'->(∀(i:Nat) (x:Nd),B[i]? = some x->∀k∈x.kids,0<=k/\k.toNat<i)->TL A B (a7 A p f o a0) (a7 B p f' n a0)
 | 0,_,_,_,_,_,h,_,_=>absurd h om
 | _,_,_,_,0,_,_,h,_=>absurd h om
 | f+1,o,n,a0,f'+1,hs,hf,hf',hB=>by
  have hs0:=hs;cases hs with
  | mk _ _ x y hx hy he hl hp hk=>
   have gA:=hA.node hx;have kA:=fun k hk=>dW hA hx (k:=k) hk
   have kB:=hB n y hy;have hb:=fun h4=>hA.bind hx h4
   have hrec:∀(k:Nat) (q:Nat),k<x.kids.length->TL A B (a7 A p f (bA x k) q) (a7 B p f' (bA y k) q):=fun k q hkl=>by
    have ha:x.kids[k]? = some x.kids[k]:=VV hkl;have hb':y.kids[k]? = some (y.kids[k]'om):=VV om;rw[zQ ha,zQ hb'];have q1:=kA _ (Ve ha);have q2:=kB _ (Ve hb');exact AK hA p f _ _ q f' (hk k _ _ ha hb') om om hB
   have ek:y.kind=x.kind:=by rw[he]
   have ev:y.value=x.value:=by rw[he]
   have en:y.name=x.name:=by rw[he]
   have Bh:y.values=x.values:=by rw[he]
   have elo:y.lo=x.lo:=by rw[he]
   have eo:fK y=fK x:=by unfold fK;rw[ek,hl,he]
   unfold a7;rw[c7 hx,c7 hy];rw[ek,ev,Bh,elo,eo];split
   ·exact⟨rfl,.inl ⟨rfl,rfl,rfl⟩⟩
   split
   ·have hR:QM (fun a b=>A7 A B a.toNat b.toNat/\a.toNat<o/\b.toNat<n) x.kids y.kids:=KF hl fun k a b ha hb'=>⟨hk k a b ha hb',(kA a (Ve ha)).2,(kB b (Ve hb')).2⟩
    obtain⟨g1,g2⟩:=Ei (A:=A) (B:=B) (rd:=fun k q=>a7 A p f k q) (rd':=fun k q=>a7 B p f' k q) (a0:=a0) (R:=fun a b=>A7 A B a.toNat b.toNat/\a.toNat<o/\b.toNat<n)
     (fun a b q h=>AK hA p f _ _ q f' h.1 om om hB) x.kids y.kids ⟨0,[],[],-1⟩ ⟨0,[],[],-1⟩ hR rfl rfl rfl rfl
    refine⟨g1, ?_⟩;unfold Dy;simp only;rcases g2 with⟨c1,c2,c3⟩|c|c
    ·exact .inl ⟨c1,c2,by rw[Vb c1,Vb c2,c3,en]⟩
    ·exact .inr (.inl c)
    ·exact .inr (.inr c)
   split
   ·rename_i h4;obtain⟨q1,q2,q3,q4⟩:=hb h4;have r0:=hrec 0 a0 om;have e0:((0:Nat):Int)=0:=rfl;rw[e0] at r0;obtain⟨g1,g2⟩:=r0;have hkI:=hA.kidI hx (c:=0) om om;have hm:=mJ hA p f (bA x 0) a0 om (by have:=(VX.1 hx).1;omega);generalize a7 A p f (bA x 0) a0=r at *;generalize a7 B p f' (bA y 0) a0=r' at *;rcases g2 with⟨c1,c2,c3⟩|⟨c1,c2⟩|⟨j,k,c0,c1,c2⟩
    ·rw[Vb c1,Vb c2,←c3,←g1];have hv:=(hm c1).2 q3;rw[q4] at hv;obtain⟨i,hi⟩:=V2 hv;rw[CF gA.srt hi];have hil:=(VX.1 hi).1;obtain⟨g3,g4⟩:=hrec (i+1) (a0+r.used) om;exact⟨by simp only;rw[g3],g4⟩
    ·rw[VY om,VY om];exact⟨g1,.inr (.inl ⟨c1,c2⟩)⟩
    ·rw[VY om,VY om];exact⟨g1,.inr (.inr ⟨j,k,c0,c1,c2⟩)⟩
   split
   ·exact⟨rfl,.inr (.inr ⟨o,n,hs0,rfl,rfl⟩)⟩
   split
   ·exact⟨rfl,.inr (.inl ⟨rfl,rfl⟩)⟩
   split
   ·exact⟨rfl,.inl ⟨rfl,rfl,rfl⟩⟩
   ·rename_i h0 h3 h4 hlen hrng h1;have ho:fK x=x.kids.length:=by unfold fK;rw[VY h1]
    rw[ho] at hrng;have hc0:p.getD a0 0=((p.getD a0 0).toNat:Int):=om;have r0:=hrec (p.getD a0 0).toNat (a0+1) om;rw[←hc0] at r0;obtain⟨g1,g2⟩:=r0;exact⟨by simp only;rw[g1],g2⟩
def AN(A:List Nd)(p:List Int):Az:=a7 A p A.length (A.length-1) 0
def gG(A:List Nd)(raw:List Int):Ft:=dJ A raw A.length (A.length-1) 0
def I3(B:List Nd)(out:List Int):Prop:=out.length<=(gG B out).cs.length/\(gG B out).cs.take out.length=out
theorem PY(B:List Nd):I3 B []:=⟨by simp,by simp⟩
theorem uN{B:List Nd}(h:VT B)(raw:List Int):(gG B raw).cs.length<=256:=by
 have hp:=h.pos;have hx:=bY (A:=B) (i:=B.length-1) om;have h1:=Ge h raw (f:=B.length) (i:=B.length-1) (q:=0) om om;have h2:=h.len256 hx;unfold gG;omega
theorem qH{B:List Nd}(h:VT B){raw out:List Int}(hi:out=(gG B raw).cs.take out.length) :
  (out.length=(gG B raw).cs.length->(AN B out).stop = -1/\(AN B out).used=out.length/\(AN B out).val=(gG B raw).val)/\(out.length<(gG B raw).cs.length->∃n,n<B.length/\(AN B out).stop=(n:Int)/\(gG B raw).cs[out.length]? = some (cR raw (aE B n) out.length)):=by
 have hp:=h.pos;refine⟨fun hl=>?_,fun hl=>?_⟩
 ·have e:out=(gG B raw).cs:=by rw[hl,Vr] at hi;exact hi
  obtain⟨g1,g2,g3⟩:=Kl h raw out B.length (B.length-1) 0 [] om om (by rw[Wg,V7];exact e);exact⟨g3,by unfold AN;rw[g2];exact hl.symm,g1⟩
 ·obtain⟨n,h1,h2,h3⟩:=Q8 h raw out B.length (B.length-1) 0 out.length om om hl (by rw[V7];exact hi);rw[V0] at h3;exact⟨n,h1,h2,h3⟩
theorem Lj{raw:List Int}{x:Nd}{q:Nat}(hq:q<raw.length)(h0:0<=raw.getD q 0)(h1:raw.getD q 0<fK x):cR raw x q=raw.getD q 0:=by
 unfold cR;rw[Vb hq];omega
theorem IW{B:List Nd}(h:VT B){out:List Int}{n:Nat}{c:Int}(hi:I3 B out)(hs:(AN B out).stop=(n:Int))(h0:0<=c)(h1:c<fK (aE B n)):I3 B (out++[c]):=by
 obtain⟨i1,i2⟩:=hi;have key:∀m,m<=out.length->m<=(gG B (out++[c])).cs.length/\(gG B (out++[c])).cs.take m=out.take m:=by
  intro m
  induction m with
  | zero=>exact fun _=>⟨om,by simp⟩
  | succ m ih=>
   intro hm;obtain⟨j1,j2⟩:=ih om;have e1:out.take m=(gG B out).cs.take (out.take m).length:=by
    rw[V3,Wh om,←i2,XL,i2,Wh om]
   have e2:out.take m=(gG B (out++[c])).cs.take (out.take m).length:=by
    rw[V3,Wh om];exact j2.symm
   have hml:(out.take m).length=m:=by rw[V3];omega
   obtain⟨k,hk1,hk2,hk3⟩:=(qH h e1).2 om;rw[hml] at hk3;obtain⟨f1,f2⟩:=qH h e2;rw[hml] at f1 f2;have hlt:m<(gG B (out++[c])).cs.length:=by
    rcases Vm m (gG B (out++[c])).cs.length with h'|h'
    ·exact h'
    ·have:=(f1 om).1;omega
   obtain⟨k',hk1',hk2',hk3'⟩:=f2 hlt;have ekk:k'=k:=om;subst ekk;refine⟨hlt, ?_⟩;have ea:cR (out++[c]) (aE B k') m=cR out (aE B k') m:=by
    unfold cR;rw[Vb (by simp;omega),Vb om,VW,VW,Vp om]
   rw[ea] at hk3';have hom:out[m]? = some (cR out (aE B k') m):=by
    rw[←hk3];have:((gG B out).cs.take out.length)[m]? = out[m]? := by rw[i2]
    rw[←this,WA,Vb om]
   rw[List.take_succ_eq_append_getElem hlt,List.take_succ_eq_append_getElem (show m<out.length by omega),j2];congr 2;have a1:=(VX.1 hk3').2;have a2:=(VX.1 hom).2;rw[a1,a2]
 obtain⟨j1,j2⟩:=key out.length (Vh _);rw[Vr] at j2;obtain⟨f1,f2⟩:=qH h j2.symm;have hlt:out.length<(gG B (out++[c])).cs.length:=by
  rcases Vm out.length (gG B (out++[c])).cs.length with h'|h'
  ·exact h'
  ·have:=(f1 om).1;omega
 obtain⟨k',hk1',hk2',hk3'⟩:=f2 hlt;have ekk:k'=n:=om;subst ekk;have eg:(out++[c]).getD out.length 0=c:=by rw[VW];simp
 rw[Lj (by simp) (by rw[eg];exact h0) (by rw[eg];exact h1),eg] at hk3';refine⟨by rw[Vf];exact hlt, ?_⟩;rw[Vf,WC,List.take_succ_eq_append_getElem hlt,j2];congr 2;exact(VX.1 hk3').2
theorem Kw{l:List (List UInt8)}{s:List UInt8}:zZ l s = -1∨(0<=zZ l s/\zZ l s<l.length):=by
 rcases xJ (s:=s) l 0 with h|⟨h1,h2⟩
 ·exact .inl h
 ·right;unfold zZ;omega
theorem Qf{a b:Nd}{k:Int}(hb:xP b)(hk:b.kind=1∨b.kind=2):0<=(qO a b k).1/\(qO a b k).1<dQ b:=by
 have ob:1<=dQ b:=by
  have:=hb.rng;unfold dQ;rcases hk with h|h
  ·rw[Vb h];omega
  ·rw[VY om,Vb h];have:=(hb.ch h).1;omega
 unfold qO;split
 ·exact⟨by simp,by simp only;omega⟩
 rename_i h1;have hk0:0<=k:=om;split
 ·rename_i h2;have:=hb.rng;have e:dQ b=b.hi-b.lo+1:=by unfold dQ;rw[Vb h2.2]
  simp only;omega
 rename_i h2;split
 ·rename_i h3;simp only;have hkn:((k.toNat:Nat):Int)=k:=XK hk0;unfold yD at h3 ⊢;split at h3
  ·rename_i h4;rw[Vb h4];have hb2:b.kind=2:=om;have e:dQ b=b.kids.length:=by unfold dQ;rw[VY om,Vb hb2]
   have hl:=(hb.ch hb2).2;simp only[Vt] at h3 ⊢;rcases Kw (l:=b.labels) (s:=Lib.itoa (a.lo+(k.toNat:Int))) with h|h<;>omega
  ·rename_i h4;rw[VY h4];split at h3
   ·rename_i h5;rw[Vb h5];have e:dQ b=b.hi-b.lo+1:=by unfold dQ;rw[Vb h5]
    split at h3
    ·simp at h3
    ·rename_i h6;rw[VY h6];split at h3
     ·rename_i x hx;split at h3
      ·simp at h3
      ·rename_i h7;rw[VY h7];simp only;omega
     ·simp at h3
   ·rename_i h5;rw[VY h5];have hb2:b.kind=2:=om;have e:dQ b=b.kids.length:=by unfold dQ;rw[VY om,Vb hb2]
    have hl:=(hb.ch hb2).2;split at h3
    ·rename_i h6;rw[Vb h6];simp only[Vt] at h3 ⊢;omega
    ·rename_i h6;rw[VY h6];split at h3
     ·rename_i h7;rw[Vb h7];simp only;omega
     ·rename_i h7;rw[VY h7];simp only[Vt] at h3 ⊢;rcases Kw (l:=b.labels) (s:=a.labels.getD k.toNat []) with h|h<;>omega
 ·simp only;omega
theorem LV{x:Nd}(h:x.kind=1∨x.kind=2):dQ x=fK x:=by
 unfold dQ fK;rcases h with h|h
 ·rw[Vb h,Vb h]
 ·rw[VY om,Vb h,VY om]
theorem AR{A:List Nd}(h:VT A)(p:List Int):∀f i a0,i<A.length->(a7 A p f i a0).stop = -1∨(a7 A p f i a0).stop = -2∨∃n:Nat,(a7 A p f i a0).stop=(n:Int)/\n<A.length/\((aE A n).kind=1∨(aE A n).kind=2)
 | 0,i,a0,hi=>.inr (.inl rfl)
 | f+1,i,a0,hi=>by
  have hx:=bY hi;have hN:=(h.node hx).node.kind;have all:∀k q,k<A.length->(a7 A p f k q).stop = -1∨(a7 A p f k q).stop = -2∨∃n:Nat,(a7 A p f k q).stop=(n:Int)/\n<A.length/\((aE A n).kind=1∨(aE A n).kind=2):=fun k q hk=>AR h p f k q hk
  have kid:∀c,bA (aE A i) c<A.length:=fun c=>by
   unfold bA;rcases Vm c.toNat (aE A i).kids.length with hc|hc
   ·rw[VW,VV hc];have:=dW h hx (Vw hc);simp only[Wr];omega
   ·rw[VW,Vo hc];have:=h.pos;simp only[Option.getD_none];omega
  unfold a7;split
  ·exact .inl rfl
  split
  ·have hk:=fun k (hk:k∈(aE A i).kids)=>dW h hx hk
   unfold Dy;simp only;generalize (aE A i).kids=ks at hk;have key:∀(ks:List Int) (s:Pt),(∀k∈ks,0<=k/\k.toNat<i)->s.stop = -1->(bH (fun k q=>a7 A p f k q) a0 ks s).stop = -1∨(bH (fun k q=>a7 A p f k q) a0 ks s).stop = -2∨∃n:Nat,(bH (fun k q=>a7 A p f k q) a0 ks s).stop=(n:Int)/\n<A.length/\((aE A n).kind=1∨(aE A n).kind=2):=by
    intro ks
    induction ks with
    | nil=>exact fun s _ h=>.inl h
    | cons k ks ih=>
     intro s hks hs;simp only[bH];split
     ·exact ih _ (fun q hq=>hks q (Vn _ hq)) rfl
     ·exact all _ _ (by have:=hks k (Vu ..);omega)
   exact key ks _ hk rfl
  split
  ·split
   ·exact all _ _ (kid _)
   ·exact all _ _ (kid _)
  split
  ·refine .inr (.inr ⟨i,rfl,hi, ?_⟩);rename_i h0 h3 h4 _;omega
  split
  ·exact .inr (.inl rfl)
  split
  ·exact .inl rfl
  ·exact all _ _ (kid _)
theorem LW{A B:List Nd}(hA:VT A)(hB:VT B)(hs:f6 A B=0)(raw:List Int){i:Nat}(hi:i<(gG A raw).cs.length) :
  ∃j k:Nat,(AN A ((gG A raw).cs.take i)).stop=(j:Int)/\(AN B ((gG A raw).cs.take i)).stop=(k:Int)/\(qO (aE A j) (aE B k) ((gG A raw).cs.getD i 0)).1=(gG A raw).cs.getD i 0:=by
 have pA:=hA.pos;have pB:=hB.pos;have hl:((gG A raw).cs.take i).length=i:=by rw[V3];omega
 obtain⟨n,hn1,hn2,hn3⟩:=(qH hA (raw:=raw) (out:=(gG A raw).cs.take i) (by rw[hl])).2 om;rw[hl] at hn3;have hS:=AK hA ((gG A raw).cs.take i) A.length (A.length-1) (B.length-1) 0 B.length (HO hA hB hs) om om (fun i x hx k hk=>dW hB hx hk);have hst:=AR hA ((gG A raw).cs.take i) A.length (A.length-1) 0 om;have hc:=hS.c;have e1:(a7 A ((gG A raw).cs.take i) A.length (A.length-1) 0).stop=(n:Int):=hn2;rcases hc with⟨c1,-,-⟩|⟨c1,-⟩|⟨j,k,c0,c1,c2⟩
 ·omega
 ·omega
 have ej:j=n:=om;subst ej;have hkind:(aE A j).kind=1∨(aE A j).kind=2:=by
  rcases hst with h|h|⟨m,h1,-,h3⟩
  ·omega
  ·omega
  ·have:m=j:=om;subst this;exact h3
 refine⟨j,k,hn2,c2, ?_⟩;have hc':(gG A raw).cs.getD i 0=cR raw (aE A j) i:=by rw[VW,hn3];rfl
 have hx:=bY hn1;have ho:=hA.opt hx hkind;obtain⟨q0,q1⟩:=wC (raw:=raw) (q:=i) ho;rw[←hc'] at q0 q1;have gA:=hA.node hx;generalize (gG A raw).cs.getD i 0=c at q0 q1;cases c0 with
 | mk _ _ x y hx' hy he hlen _ _=>
  rw[c7 hx'] at hkind q1 gA ⊢;rw[c7 hy];have ek:y.kind=x.kind:=by rw[he]
  have el:y.labels=x.labels:=by rw[he]
  have elo:y.lo=x.lo:=by rw[he]
  have ehi:y.hi=x.hi:=by rw[he]
  rcases hkind with h1|h2
  ·have o1:dQ x=x.hi-x.lo+1:=by unfold dQ;rw[Vb h1]
   have o2:dQ y=y.hi-y.lo+1:=by unfold dQ;rw[Vb om]
   have o3:fK x=x.hi-x.lo+1:=by unfold fK;rw[Vb h1]
   unfold qO;rw[VY om,Vb ⟨h1,om⟩];simp only;omega
  ·have o3:fK x=x.kids.length:=by unfold fK;rw[VY om]
   have hcn:c=((c.toNat:Nat):Int):=om;rw[hcn,Eu h2 om el hlen (gA.opt.ch h2).2 om]
theorem OS{A B:List Nd}(hA:VT A)(hB:VT B)(hs:f6 A B=0)(raw:List Int):(AN B (gG A raw).cs).stop = -1/\(AN B (gG A raw).cs).used=(gG A raw).cs.length/\(AN B (gG A raw).cs).val=(gG A raw).val:=by
 have pA:=hA.pos;have pB:=hB.pos;obtain⟨g1,g2,g3⟩:=(qH hA (raw:=raw) (out:=(gG A raw).cs) (by rw[Vr])).1 rfl;have hS:=AK hA (gG A raw).cs A.length (A.length-1) (B.length-1) 0 B.length (HO hA hB hs) om om (fun i x hx k hk=>dW hB hx hk);obtain⟨u,c⟩:=hS;have e1:(a7 A (gG A raw).cs A.length (A.length-1) 0).stop = -1:=g1;have e2:(a7 A (gG A raw).cs A.length (A.length-1) 0).used=(gG A raw).cs.length:=g2;have e3:(a7 A (gG A raw).cs A.length (A.length-1) 0).val=(gG A raw).val:=g3;rcases c with⟨-,c2,c3⟩|⟨c1,-⟩|⟨j,k,-,c1,-⟩
 ·exact⟨c2,by unfold AN;rw[←u];exact e2,by unfold AN;rw[←c3];exact e3⟩
 ·omega
 ·omega
structure Um where
 val:a6
 ok:Bool
 rd:Rd
 parts:Nat
structure TV where
 vals:List a6
 ok:Bool
 rd:Rd
 parts:Nat
structure U6(x:Rd)(p:Nat)(r:Um):Prop where
 le:r.rd.1.length<=x.1.length
 ok:x.1.length<=1000000000->gH r.val
 size:r.ok=true->p+bF r.val=r.parts
 parts:p<=1024->r.parts<=1025
 good:r.ok=true->p<=1024->r.parts<=1024
structure VL(x:Rd)(p:Nat)(acc:List a6)(m:Nat)(r:TV):Prop where
 le:r.rd.1.length<=x.1.length
 ok:x.1.length<=1000000000->oH acc->oH r.vals
 len:r.vals.length<=acc.length+m
 size:r.ok=true->p+cJ r.vals=r.parts+cJ acc
 parts:p<=1024->r.parts<=1025
 good:r.ok=true->p<=1024->r.parts<=1024
theorem H2{u:Nat}(h:u<18446744073709551616)(t:List UInt8):tO (jS u++t,0)=(u,(t,0)):=by
 unfold tO;simp only[if_true];rw[RT t h]
theorem KY{n:Int}(h:i64 n)(t:List UInt8):Td (dC n++t,0)=(n,(t,0)):=by
 unfold Td dC;rw[H2 (Fw h),Pb]
theorem HK{s:List UInt8}(h:s.length<18446744073709551616)(t:List UInt8):Qx (jS s.length++s++t,0)=(s,(t,0)):=by
 have e:KA (jS s.length++s++t,0)=(s.length,(s++t,0)):=by
  unfold KA;rw[List.append_assoc,H2 h];simp
 unfold Qx;rw[e];simp
theorem f8{a b:Int}(ha:i64 a)(hb:i64 b){r r':List UInt8}(h:dC a++r=dC b++r'):a=b/\r=r':=by
 have h1:=KY ha r;have h2:=KY hb r';rw[h,h2] at h1;simp only[Prod.mk.injEq] at h1;exact⟨h1.1.symm,h1.2.1.symm⟩
theorem CK{a b:List UInt8}(ha:a.length<=4294967296)(hb:b.length<=4294967296){r r':List UInt8}(h:jS a.length++a++r=jS b.length++b++r'):a=b/\r=r':=by
 have h1:=HK (s:=a) om r;have h2:=HK (s:=b) om r';rw[h,h2] at h1;simp only[Prod.mk.injEq] at h1;exact⟨h1.1.symm,h1.2.1.symm⟩
def iW:List Int->List UInt8
 | []=>[]
 | n::r=>dC n++iW r
def nY:List (List UInt8)->List UInt8
 | []=>[]
 | s::r=>(jS s.length++s)++nY r
mutual
def s9:a6->List UInt8
 | .mk k n s l=>dC k++(dC n++((jS s.length++s)++(dC l.length++eQ l)))
def eQ:List a6->List UInt8
 | []=>[]
 | v::r=>s9 v++eQ r
end
theorem nN{n:Nat}(h:n<=4294967296):i64 (n:Int):=⟨om,om⟩
theorem Dp:∀{a b:List Int} {r r':List UInt8},a.length=b.length->(∀n∈a,i64 n)->(∀n∈b,i64 n)->iW a++r=iW b++r'->a=b/\r=r'
 | [],[],r,r',_,_,_,h=>⟨rfl,h⟩
 | x::a,y::b,r,r',hl,ha,hb,h=>by
  simp only[iW,List.append_assoc] at h;obtain⟨rfl,h21⟩:=f8 (ha _ (by simp)) (hb _ (by simp)) h;obtain⟨rfl,h22⟩:=Dp (by simpa using hl) (fun n hn=>ha n (by simp[hn])) (fun n hn=>hb n (by simp[hn])) h21;exact⟨rfl,h22⟩
theorem IK:∀{a b:List (List UInt8)} {r r':List UInt8},a.length=b.length->(∀s∈a,s.length<=4294967296)->(∀s∈b,s.length<=4294967296)->nY a++r=nY b++r'->a=b/\r=r'
 | [],[],r,r',_,_,_,h=>⟨rfl,h⟩
 | x::a,y::b,r,r',hl,ha,hb,h=>by
  simp only[nY] at h;rw[List.append_assoc (jS x.length++x),List.append_assoc (jS y.length++y)] at h;obtain⟨rfl,h21⟩:=CK (ha _ (by simp)) (hb _ (by simp)) h;obtain⟨rfl,h22⟩:=IK (by simpa using hl) (fun n hn=>ha n (by simp[hn])) (fun n hn=>hb n (by simp[hn])) h21;exact⟨rfl,h22⟩
mutual
theorem HU:∀{a b:a6} {r r':List UInt8},gH a->gH b->s9 a++r=s9 b++r'->a=b/\r=r'
 | .mk k n s l,.mk k' n' s' l',r,r',ha,hb,h=>by
  simp only[gH] at ha hb;simp only[s9,List.append_assoc] at h;obtain⟨rfl,h21⟩:=f8 ha.1 hb.1 h;obtain⟨rfl,h22⟩:=f8 ha.2.1 hb.2.1 h21;rw[←List.append_assoc,←List.append_assoc (jS s'.length)] at h22;obtain⟨rfl,h23⟩:=CK ha.2.2.1 hb.2.2.1 h22;obtain⟨e4,h24⟩:=f8 (nN ha.2.2.2.1) (nN hb.2.2.2.1) h23;obtain⟨rfl,h25⟩:=Ad om ha.2.2.2.2 hb.2.2.2.2 h24;exact⟨rfl,h25⟩
theorem Ad:∀{a b:List a6} {r r':List UInt8},a.length=b.length->oH a->oH b->eQ a++r=eQ b++r'->a=b/\r=r'
 | [],[],r,r',_,_,_,h=>⟨rfl,h⟩
 | x::a,y::b,r,r',hl,ha,hb,h=>by
  simp only[oH] at ha hb;simp only[eQ,List.append_assoc] at h;obtain⟨rfl,h21⟩:=HU ha.1 hb.1 h;obtain⟨rfl,h22⟩:=Ad (by simpa using hl) ha.2 hb.2 h21;exact⟨rfl,h22⟩
end
theorem zE{k n:Int}{s:List UInt8}{m:Nat}(h:cX k n s m=true):s.length<=16:=by
 unfold cX at h;split at h
 ·simp at h;simp[h.1]
 ·split at h
  ·simp at h;simp[h.1.2]
  ·split at h
   ·simp at h;simp[h.2]
   ·split at h
    ·rcases Vm 16 s.length with h2|h2
     ·rw[oJ h2] at h;simp at h
     ·exact h2
    ·cases h
theorem zJ:∀l m:List a6,eQ (l++m)=eQ l++eQ m
 | [],m=>by simp[eQ]
 | v::r,m=>by simp[eQ,zJ r m]
theorem DF{l:List a6}{k:Nat}(h:k<l.length):eQ (l.take (k+1))=eQ (l.take k)++s9 l[k]:=by
 rw[List.take_succ_eq_append_getElem h,zJ];simp[eQ]
mutual
theorem Db:∀v:a6,gH v->bQ v=true->(s9 v).length<=60*bF v
 | .mk k n s kids,ho,hf=>by
  simp only[gH] at ho;simp only[bQ,VZ] at hf;have hl:=oU kids ho.2.2.2.2 hf.2;have h1:=cW ho.1;have h2:=cW ho.2.1;have h3:=cW (iL (n:=kids.length) om);have h4:=zE hf.1;have h5:=jE (n:=s.length) om;simp only[bF,s9,Vf];omega
theorem oU:∀l:List a6,oH l->cO l=true->(eQ l).length<=60*cJ l
 | [],_,_=>by simp[eQ]
 | v::r,ho,hf=>by
  simp only[oH] at ho;simp only[cO,VZ] at hf;have h1:=Db v ho.1 hf.1;have h2:=oU r ho.2 hf.2;simp only[eQ,cJ,Vf];omega
end
def lO(x:Nd):List UInt8:=
 dC x.kind++((jS x.name.length++x.name)++(dC x.lo++(dC x.hi++(dC x.weights.length++(iW x.weights++(dC x.labels.length++(nY x.labels ++
  (dC x.values.length++(eQ x.values++(dC x.kids.length++(iW x.kids++s9 x.value)))))))))))
theorem mR:∀{l:List a6},(∀v∈l,gH v)->oH l
 | [],_=>trivial
 | v::r,h=>⟨h v (by simp),mR fun w hw=>h w (by simp[hw])⟩
theorem Ng{x y:Nd}(hx:n4 x)(hy:n4 y)(h:lO x=lO y):x=y:=by
 have a1:=hx.name;have a2:=hx.weights;have a3:=hx.labels;have a4:=hx.values;have a5:=hx.kids;have b1:=hy.name;have b2:=hy.weights;have b3:=hy.labels;have b4:=hy.values;have b5:=hy.kids;obtain⟨k,nm,lo,hi',ws,ls,vs,ks,v⟩:=x;obtain⟨k2,nm2,lo2,hi2,ws2,ls2,vs2,ks2,v2⟩:=y;simp only[lO] at h;simp only at a1 a2 a3 a4 a5 b1 b2 b3 b4 b5;obtain⟨rfl,h21⟩:=f8 hx.kind hy.kind h;obtain⟨rfl,h22⟩:=CK om om h21;obtain⟨rfl,h23⟩:=f8 hx.lo hy.lo h22;obtain⟨rfl,h24⟩:=f8 hx.hi hy.hi h23;obtain⟨e5,h25⟩:=f8 (nN om) (nN om) h24;obtain⟨rfl,h26⟩:=Dp (by simp only at *;omega) hx.weightsI hy.weightsI h25;obtain⟨e7,h27⟩:=f8 (nN om) (nN om) h26;obtain⟨rfl,h28⟩:=IK (by simp only at *;omega) (fun s hs=>by have:=hx.labelsI s hs;omega) (fun s hs=>by have:=hy.labelsI s hs;omega) h27;obtain⟨e9,h29⟩:=f8 (nN om) (nN om) h28;obtain⟨rfl,h30⟩:=Ad (by simp only at *;omega) (mR fun v hv=>(hx.valuesI v hv).1) (mR fun v hv=>(hy.valuesI v hv).1) h29;obtain⟨e11,h31⟩:=f8 (nN om) (nN om) h30;obtain⟨rfl,h32⟩:=Dp (by simp only at *;omega) hx.kidsI hy.kidsI h31;obtain⟨rfl,-⟩:=HU (r:=[]) (r':=[]) hx.value hy.value (by simpa using h32);rfl
def n6(r:List Bool)(i:Nat):Bool:=r.getD i false
theorem By(r:List Bool)(i j:Nat)(b:Bool)(h:i<r.length):n6 (r.set i b) j=if i=j then b else n6 r j:=by
 unfold n6;rw[VW,VW,Wl];split
 ·rfl
 ·rfl
def gZ(i:Nat)(r:List Bool)(k:Int):List Bool:=r.set k.toNat (n6 r k.toNat || n6 r i)
theorem KH(i:Nat):∀(ks:List Int) (r:List Bool),(∀k∈ks,k.toNat<r.length/\k.toNat≠i)->(ks.foldl (gZ i) r).length=r.length/\∀j,n6 (ks.foldl (gZ i) r) j=(n6 r j || (ks.any (fun k=>decide (k.toNat=j)) && n6 r i))
 | [],r,_=>⟨rfl,fun j=>by simp⟩
 | k::ks,r,h=>by
  obtain⟨h1,h2⟩:=h k (by simp);have hl:(gZ i r k).length=r.length:=by simp[gZ]
  obtain⟨e1,e2⟩:=KH i ks (gZ i r k) fun q hq=>by rw[hl];exact h q (by simp[hq])
  refine⟨by rw[V1,e1,hl],fun j=>?_⟩;rw[V1,e2];have hi:n6 (gZ i r k) i=n6 r i:=by unfold gZ;rw[By _ _ _ _ h1,VY h2]
  rw[hi,List.any_cons];unfold gZ;rw[By _ _ _ _ h1];by_cases e:k.toNat=j
  ·rw[Vb e,e,Vi rfl];cases n6 r j<;>cases n6 r i<;>simp
  ·rw[VY e,Vv e];simp
def gJ(A:List Nd)(r:List Bool)(i:Nat):List Bool:=(aE A i).kids.foldl (gZ i) (r.set i (n6 r i || decide (i+1=A.length)))
def iK(A:List Nd):Prop:=∀(i:Nat) (x:Nd),A[i]? = some x->∀k∈x.kids,0<=k/\k<i
structure sF(A:List Nd)(m:Nat)(r:List Bool):Prop where
 len:r.length=A.length
 down:∀i,m<=i->i<A.length->n6 r i=true->∀k∈(aE A i).kids,n6 r k.toNat=true
 up:∀i,i<A.length->n6 r i=true->i+1=A.length∨∃j,m<=j/\i<j/\j<A.length/\n6 r j=true/\(i:Int)∈(aE A j).kids
 root:m<A.length->n6 r (A.length-1)=true
theorem J8{A:List Nd}(hA:iK A){m:Nat}{r:List Bool}(hm:m<A.length)(h:sF A (m+1) r):sF A m (gJ A r m):=by
 have hx:A[m]? = some A[m]:=VV hm;have hn:=c7 hx;have hk:∀k∈(aE A m).kids,0<=k/\k<m:=by rw[hn];exact hA m _ hx
 have hlen:=h.len;obtain⟨e1,e2⟩:=KH m (aE A m).kids (r.set m (n6 r m || decide (m+1=A.length))) fun k hkm=>by
  have:=hk k hkm;exact⟨by rw[Wu];omega,om⟩
 have e3:∀j,n6 (gJ A r m) j=((if m=j then(n6 r m || decide (m+1=A.length)) else n6 r j) || ((aE A m).kids.any (fun k=>decide (k.toNat=j)) && (n6 r m || decide (m+1=A.length)))):=fun j=>by
  unfold gJ;rw[e2,By _ _ _ _ om,By _ _ _ _ om,Vb rfl]
 have notk:∀j,m<=j->(aE A m).kids.any (fun k=>decide (k.toNat=j))=false:=fun j hj=>by
  rw[List.any_eq_false];intro k hkm;have:=hk k hkm;simp;omega
 have keep:∀j,n6 r j=true->n6 (gJ A r m) j=true:=fun j hj=>by
  rw[e3];split
  ·rename_i e;subst e;simp[hj]
  ·simp[hj]
 have high:∀j,m<j->n6 (gJ A r m) j=n6 r j:=fun j hj=>by
  rw[e3,VY om,notk j om];simp
 have atm:n6 (gJ A r m) m=(n6 r m || decide (m+1=A.length)):=by
  rw[e3,Vb rfl,notk m om];simp
 refine⟨by unfold gJ;rw[e1,Wu,hlen],fun i hi hil hb k hkm=>?_,fun i hil hb=>?_,fun _=>?_⟩
 ·rcases Vm m i with h2|h2
  ·rw[high i h2] at hb;exact keep _ (h.down i om hil hb k hkm)
  ·obtain rfl:i=m:=om;rw[atm] at hb;rw[e3,hb];have:(aE A i).kids.any (fun q=>decide (q.toNat=k.toNat))=true:=List.any_eq_true.2 ⟨k,hkm,by simp⟩;rw[this];simp
 ·rw[e3] at hb;by_cases hr:n6 r i=true
  ·rcases h.up i hil hr with h2|⟨j,j1,j2,j3,j4,j5⟩
   ·exact .inl h2
   ·exact .inr ⟨j,om,j2,j3,keep j j4,j5⟩
  ·by_cases e:m=i
   ·subst e;rw[Vb rfl,notk m om] at hb;have hr:n6 r m=false:=by simpa using hr
    rw[hr] at hb;left;simpa using hb
   ·rw[VY e] at hb;have hr:n6 r i=false:=by simpa using hr
    rw[hr,XJ,VZ] at hb;obtain⟨k,hkm,hki⟩:=List.any_eq_true.1 hb.1;have hki:k.toNat=i:=by simpa using hki
    have:=hk k hkm;refine .inr ⟨m,Vh _,om,hm,by rw[atm];exact hb.2, ?_⟩;rw[←hki,XK this.1];exact hkm
 ·rcases Vm (m+1) A.length with h2|h2
  ·exact keep _ (h.root h2)
  ·rw[show A.length-1=m by omega,atm,Vi om];simp
def Dh(A:List Nd):Nat->List Bool->List Bool
 | 0,r=>r
 | m+1,r=>Dh A m (gJ A r m)
theorem FM{A:List Nd}(hA:iK A):∀(m:Nat) (r:List Bool),m<=A.length->sF A m r->sF A 0 (Dh A m r)
 | 0,r,_,h=>h
 | m+1,r,hm,h=>FM hA m _ om (J8 hA om h)
theorem Jm(A:List Nd):sF A A.length (List.replicate A.length false):=by
 have:∀i,n6 (List.replicate A.length false) i=false:=fun i=>by
  unfold n6;rw[VW,W3];split<;>rfl
 refine⟨by simp,fun i h1 h2=>om,fun i hi hb=>?_,fun h=>om⟩;rw[this] at hb;cases hb
def jO(p:List Int)(k:Int):Int:=p.getD k.toNat 0
def cZ(x:Nd)(p:List Int):Nd:={ x with kids:=x.kids.map (jO p) }
def Bf(T:List Nd)(x:Nd):Option Nat:=T.findIdx? fun y=>decide (lO y=lO x)
def tI(A:List Nd)(r:List Bool)(s:List Nd × List Int)(i:Nat):List Nd × List Int:=
 if n6 r i=false then s else
  match Bf s.1 (cZ (aE A i) s.2) with
  | some q=>(s.1,s.2.set i q)
  | none=>(s.1++[cZ (aE A i) s.2],s.2.set i s.1.length)
theorem Lo{p:List Int}{i:Nat}{v k:Int}(h:k.toNat≠i):jO (p.set i v) k=jO p k:=by
 unfold jO;rw[VW,VW,Wl,VY om]
theorem lS{x:Nd}{p:List Int}{i:Nat}{v:Int}(h:∀k∈x.kids,k.toNat≠i):cZ x (p.set i v)=cZ x p:=by
 unfold cZ;congr 1;exact List.map_congr_left fun k hk=>Lo (h k hk)
structure Gu(A:List Nd)(r:List Bool)(i:Nat)(s:List Nd × List Int):Prop where
 plen:s.2.length=A.length
 tlen:s.1.length<=i
 img:∀j,j<i->j<A.length->n6 r j=true->∃q:Nat,s.2[j]? = some (q:Int)/\s.1[q]? = some (cZ (aE A j) s.2)
 kids:iK s.1
 src:∀q,q<s.1.length->∃j,j<i/\j<A.length/\n6 r j=true/\s.2[j]? = some (q:Int)
 ok:∀y∈s.1,n4 y
theorem HZ{p:List Int}{k:Int}{j q:Nat}(h0:k=j)(h:p[j]? = some (q:Int)):jO p k=q:=by
 unfold jO;rw[h0,Va,VW,h];rfl
theorem LR{A:List Nd}(hA:iK A)(hok:∀x∈A,n4 x)(hlen:A.length<=4096){r:List Bool}(hr:sF A 0 r){i:Nat}(hi:i<A.length){s:List Nd × List Int}(h:Gu A r i s):Gu A r (i+1) (tI A r s i):=by
 obtain⟨T,p⟩:=s;have hx:A[i]? = some A[i]:=VV hi;have hn:=c7 hx;have hks:∀k∈(aE A i).kids,0<=k/\k<i:=by rw[hn];exact hA i _ hx
 unfold tI;simp only;by_cases hb:n6 r i=false
 ·rw[Vb hb];refine⟨h.plen,by have:=h.tlen;omega,fun j h1 h2 h3=>?_,h.kids,fun q hq=>?_,h.ok⟩
  ·rcases Vm j i with e|e
   ·exact h.img j e h2 h3
   ·obtain rfl:j=i:=om;rw[hb] at h3;cases h3
  ·obtain⟨j,j1,j2⟩:=h.src q hq;exact⟨j,om,j2⟩
 ·rw[VY hb];have hb:n6 r i=true:=by simpa using hb
  have hkd:=hr.down i (Wb _) hi hb;have hpk:∀k∈(aE A i).kids,∃q:Nat,q<T.length/\jO p k=q:=fun k hk=>by
   have hk2:=hks k hk;obtain⟨q,q1,q2⟩:=h.img k.toNat om om (hkd k hk);exact⟨q,(VX.1 q2).1,HZ (XK hk2.1).symm q1⟩
  have hne:∀j,j<i+1->j<A.length->∀k∈(aE A j).kids,k.toNat≠i:=fun j h1 h2 k hk=>by
   have e:A[j]? = some A[j]:=VV h2;rw[c7 e] at hk;have:=hA j _ e k hk;omega
  have hT:=h.tlen;simp only at hT;have hxo:n4 (cZ (aE A i) p):=by
   have ho:=hok _ (Ve hx);rw[←hn] at ho;refine⟨ho.kind,ho.name,ho.lo,ho.hi,ho.weights,ho.weightsI,ho.labels,ho.labelsI,ho.values,ho.valuesI,by unfold cZ;rw[We];exact ho.kids,fun k hk=>?_,ho.value,ho.valueS⟩;obtain⟨k0,hk0,rfl⟩:=Vq.1 hk;obtain⟨q,q1,q2⟩:=hpk k0 hk0;rw[q2];exact⟨om,om⟩
  have hset:∀(v:Int) (j:Nat),j<i->(p.set i v)[j]? = p[j]? := fun v j hj=>by rw[Wl,VY om]
  have hset2:∀v:Int,(p.set i v)[i]? = some v:=fun v=>by rw[Wl,Vb rfl,Vb (by have:=h.plen;simp only at this;omega)]
  cases hf:Bf T (cZ (aE A i) p) with
  | some q=>
   unfold Bf at hf;obtain⟨hq,e1,-⟩:=List.findIdx?_eq_some_iff_getElem.1 hf;have e1:lO T[q]=lO (cZ (aE A i) p):=by simpa using e1
   have e2:=Ng (h.ok _ (Vw hq)) hxo e1;refine⟨by rw[Wu];exact h.plen,by simp only;omega,fun j h1 h2 h3=>?_,h.kids,fun q' hq'=>?_,h.ok⟩
   ·rcases Vm j i with e|e
    ·obtain⟨q',q1,q2⟩:=h.img j e h2 h3;refine⟨q',by rw[←q1];exact hset _ j e, ?_⟩;simp only;rw[lS (hne j h1 h2)];exact q2
    ·obtain rfl:j=i:=om;refine⟨q,hset2 _, ?_⟩;simp only;rw[lS (hne j h1 h2),VV hq,e2]
   ·obtain⟨j,j1,j2,j3,j4⟩:=h.src q' hq';exact⟨j,om,j2,j3,by rw[←j4];exact hset _ j j1⟩
  | none=>
   refine⟨by rw[Wu];exact h.plen,by simp only[Vf,WC];omega,fun j h1 h2 h3=>?_, ?_,fun q' hq'=>?_,fun y hy=>?_⟩
   ·rcases Vm j i with e|e
    ·obtain⟨q',q1,q2⟩:=h.img j e h2 h3;refine⟨q',by rw[←q1];exact hset _ j e, ?_⟩;simp only at q2 ⊢;rw[lS (hne j h1 h2),Vp (VX.1 q2).1];exact q2
    ·obtain rfl:j=i:=om;refine⟨T.length,hset2 _, ?_⟩;simp only;rw[lS (hne j h1 h2),Vx (Vh _)];simp
   ·intro q y hy k hk;simp only at hy;rcases Vm q T.length with e|e
    ·rw[Vp e] at hy;exact h.kids q y hy k hk
    ·rw[Vx e] at hy;have e0:q-T.length=0:=by
      have:=(VX.1 hy).1;simp at this;omega
     rw[e0] at hy;simp only[List.getElem?_cons_zero,Option.some.injEq] at hy;subst hy;obtain⟨k0,hk0,rfl⟩:=Vq.1 hk;obtain⟨q',q1,q2⟩:=hpk k0 hk0;rw[q2];omega
   ·simp only[Vf,WC] at hq';rcases Vm q' T.length with e|e
    ·obtain⟨j,j1,j2,j3,j4⟩:=h.src q' e;exact⟨j,om,j2,j3,by rw[←j4];exact hset _ j j1⟩
    ·obtain rfl:q'=T.length:=om;exact⟨i,om,hi,hb,hset2 _⟩
   ·rcases Vs.1 hy with hy|hy
    ·exact h.ok y hy
    ·simp at hy;rw[hy];exact hxo
end Go.Ax
namespace Go.Ax
open Go
def iY(A:List Nd)(r:List Bool):Nat->List Nd × List Int
 | 0=>([],List.replicate A.length 0)
 | i+1=>tI A r (iY A r i) i
theorem yK{A:List Nd}(hA:iK A)(hok:∀x∈A,n4 x)(hlen:A.length<=4096){r:List Bool}(hr:sF A 0 r):∀i,i<=A.length->Gu A r i (iY A r i)
 | 0,_=>⟨by simp[iY],by simp[iY],fun j h=>om,fun i x h=>by simp[iY] at h,fun q h=>by simp[iY] at h,by simp[iY]⟩
 | i+1,h=>LR hA hok hlen hr om (yK hA hok hlen hr i om)
section
variable {A:List Nd} (hA:iK A) {r:List Bool} (hr:sF A 0 r) {T:List Nd} {p:List Int} (h:Gu A r A.length (T,p))
include hA hr h
theorem OO{j:Nat}(hj:j<A.length)(hb:n6 r j=true){k:Int}(hk:k∈(aE A j).kids):0<=k/\k<j/\n6 r k.toNat=true/\∃q:Nat,p[k.toNat]? = some (q:Int)/\T[q]? = some (cZ (aE A k.toNat) p)/\jO p k=q:=by
 have e:A[j]? = some A[j]:=VV hj;have hk2:0<=k/\k<j:=by rw[c7 e] at hk;exact hA j _ e k hk
 have hb2:=hr.down j (Wb _) hj hb k hk;obtain⟨q,q1,q2⟩:=h.img k.toNat om om hb2;exact⟨hk2.1,hk2.2,hb2,q,q1,q2,HZ (XK hk2.1).symm q1⟩
theorem AL:∀(f j q:Nat),j<f->j<A.length->n6 r j=true->p[j]? = some (q:Int)->A7 A T j q
 | 0,j,q,hf,_,_,_=>absurd hf om
 | f+1,j,q,hf,hj,hb,hq=>by
  have e:A[j]? = some A[j]:=VV hj;have hn:=c7 e;obtain⟨q',q1,q2⟩:=h.img j hj hj hb;have:q'=q:=by
   simp only at q1;rw[q1] at hq;simp only[Option.some.injEq] at hq;omega
  subst this;rw[hn] at q2;refine .mk j q' A[j] _ e q2 rfl (by unfold cZ;simp) (fun k a b ha hb2=>?_) fun k a b ha hb2=>?_
  all_goals
   have hm:a∈(aE A j).kids:=by rw[hn];exact Ve ha
   obtain⟨k1,k2,k3,q3,k4,k5,k6⟩:=OO hA hr h hj hb hm;simp only[cZ,Vy,ha,Wd,Option.some.injEq] at hb2;rw[k6] at hb2;subst hb2
  ·exact⟨k1,om⟩
  ·rw[Va];exact AL f a.toNat q3 om om k3 k4
end
end Go.Ax
namespace Go.Ax
open Go
theorem C9{b b':List Int}{ks ks':List Int}(h:ks.map (dR b)=ks'.map (dR b')):fB b ks=fB b' ks':=by
 have:∀(b ks:List Int) (s:Int),ks.foldl (fun s k=>s+dR b k) s=(ks.map (dR b)).foldl (fun s k=>s+k) s:=fun b ks s=>by rw[List.foldl_map]
 unfold fB;rw[this,this,h]
theorem BC{b b':List Int}{ks ks':List Int}(h:ks.map (dR b)=ks'.map (dR b')):cQ b ks=cQ b' ks':=by
 have:∀(b ks:List Int) (s:Int),ks.foldl (fun s k=>max s (dR b k)) s=(ks.map (dR b)).foldl (fun s k=>max s k) s:=fun b ks s=>by rw[List.foldl_map]
 unfold cQ;rw[this,this,h]
theorem EG{b b':List gW}:∀{ks ks':List Int} {x:List a6 × Bool},ks.map (dF b)=ks'.map (dF b')->ks.foldl (bL b) x=ks'.foldl (bL b') x
 | [],[],x,_=>rfl
 | [],k::r,x,h=>by simp at h
 | k::r,[],x,h=>by simp at h
 | k::r,k'::r',x,h=>by
  simp only[WK,List.cons.injEq] at h;have e:bL b x k=bL b' x k':=by unfold bL;rw[h.1]
  rw[V1,V1,e];exact EG h.2
theorem Cn{b b':List gW}{ks ks':List Int}(h:ks.map (dF b)=ks'.map (dF b')):jW b ks=jW b' ks':=by
 unfold jW;rw[EG h]
theorem BP{b b':List gW}:∀{ks ks':List Int} {rows:List (List a6)},ks.map (dF b)=ks'.map (dF b')->eJ b ks rows=eJ b' ks' rows
 | [],[],x,_=>rfl
 | [],k::r,x,h=>by simp at h
 | k::r,[],x,h=>by simp at h
 | k::r,k'::r',x,h=>by
  simp only[WK,List.cons.injEq] at h;unfold eJ;rw[h.1,BP h.2]
theorem BD{α:Type}{f g:Int->α}{ks ks':List Int}(h:ks.map f=ks'.map g)(n:Nat):(ks.drop n).map f=(ks'.drop n).map g:=by
 rw[X4,X4,h]
theorem IL{b b':List gW}{x y:Nd}(he:y={ x with kids:=y.kids })(h:x.kids.map (dF b)=y.kids.map (dF b')):cU x b=cU y b':=by
 obtain⟨k,nm,lo,hi,ws,ls,vs,ks,v⟩:=x;obtain⟨k2,nm2,lo2,hi2,ws2,ls2,vs2,ks2,v2⟩:=y;cases he;simp only at h;unfold cU o8;simp only;rw[BP h];have h4:jW b (if k=4 then ks.drop 1 else ks)=jW b' (if k=4 then ks2.drop 1 else ks2):=by
  split
  ·exact Cn (BD h 1)
  ·exact Cn h
 rw[h4]
theorem Gr{x y:Nd}(he:y={ x with kids:=y.kids }){α:Type}{f g:Int->α}(h:x.kids.map f=y.kids.map g):(dU x).map f=(dU y).map g:=by
 have ek:y.kind=x.kind:=by rw[he]
 unfold dU;rw[ek];split
 ·exact h
 ·exact BD h 1
theorem Oa{f g:Int->Int}{ks ks':List Int}(h:ks.map f=ks'.map g)(h0:0<ks.length):f (ks.getD 0 0)=g (ks'.getD 0 0):=by
 cases ks with
 | nil=>simp at h0
 | cons a r=>
  cases ks' with
  | nil=>simp at h
  | cons b r'=>
   simp only[WK,List.cons.injEq] at h;simpa using h.1
theorem Ji{b b':List Int}{x y:Nd}(he:y={ x with kids:=y.kids })(h4:x.kind=4->0<x.kids.length)(hk:0<=x.kind/\x.kind<=4)(h:x.kids.map (dR b)=y.kids.map (dR b')):d9 b x=d9 b' y:=by
 have ek:y.kind=x.kind:=by rw[he]
 unfold d9;rw[ek,C9 h,BC (Gr he h)];by_cases k4:x.kind=4
 ·rw[Oa h (h4 k4)]
 ·by_cases k0:x.kind=0
  ·rw[Vb k0,Vb k0]
  ·by_cases k1:x.kind=1
   ·rw[VY k0,VY k0,Vb k1,Vb k1]
   ·by_cases k3:x.kind=3
    ·rw[VY k0,VY k0,VY k1,VY k1,Vb k3,Vb k3]
    ·rw[VY k0,VY k0,VY k1,VY k1,VY k3,VY k3,Vb om,Vb om]
theorem J2{b b':List Int}{x y:Nd}(he:y={ x with kids:=y.kids })(h:x.kids.map (dR b)=y.kids.map (dR b')):iI b x=iI b' y:=by
 have ek:y.kind=x.kind:=by rw[he]
 have ev:y.value=x.value:=by rw[he]
 unfold iI;rw[ek,ev,C9 h,BC (Gr he h)]
def rS{α:Type}(F:List α->Nd->α)(ns:List Nd):List α:=ns.foldl (fun o x=>o++[F o x]) []
theorem Am{α:Type}(F:List α->Nd->α)(l:List Nd)(x:Nd):rS F (l++[x])=rS F l++[F (rS F l) x]:=by simp[rS]
theorem Dv{α:Type}(F:List α->Nd->α)(ns:List Nd):(rS F ns).length=ns.length:=by
 refine dT (P:=fun ns=>(rS F ns).length=ns.length) rfl (fun l x ih=>?_) ns;rw[Am];simp[ih]
theorem ON{α:Type}(F:List α->Nd->α)(l r:List Nd):∃m,rS F (l++r)=rS F l++m:=by
 refine dT (P:=fun r=>∃m,rS F (l++r)=rS F l++m) ⟨[],by simp⟩ (fun r x ih=>?_) r
 ·obtain⟨m,hm⟩:=ih;exact⟨m++[F (rS F (l++r)) x],by rw[←List.append_assoc,Am,hm];simp⟩
theorem wG{α:Type}(F:List α->Nd->α){ns:List Nd}{n k:Nat}(h:k<n)(hn:n<=ns.length):(rS F (ns.take n))[k]? = (rS F ns)[k]? := by
 obtain⟨m,hm⟩:=ON F (ns.take n) (ns.drop n);rw[List.take_append_drop] at hm;rw[hm,Vp (by rw[Dv,V3];omega)]
theorem qT{α:Type}(F:List α->Nd->α){ns:List Nd}{j:Nat}{x:Nd}(hx:ns[j]? = some x):(rS F ns)[j]? = some (F (rS F (ns.take j)) x):=by
 have hj:=(VX.1 hx).1;rw[←wG F (WQ j) hj,Xk,hx]
 show (rS F (ns.take j++[x]))[j]? = _
 rw[Am,Vx (by rw[Dv,V3];omega)];have:j-(rS F (ns.take j)).length=0:=by rw[Dv,V3];omega
 rw[this];rfl
theorem CZ{α:Type}(F:List α->Nd->α)(d:α){A B:List Nd}(hA:iK A)(hB:iK B)
  (hF:∀(b b':List α) (i:Nat) (x y:Nd),A[i]? = some x->y={ x with kids:=y.kids }->x.kids.map (fun k=>b.getD k.toNat d)=y.kids.map (fun k=>b'.getD k.toNat d)->F b x=F b' y)
  {i j:Nat} (h:A7 A B i j):(rS F A)[i]? = (rS F B)[j]? := by
 induction h with
 | mk i j x y hx hy he hl hp _ ih=>
  rw[qT F hx,qT F hy];congr 1;refine hF _ _ i x y hx he ?_;have hi:=(VX.1 hx).1;have hj:=(VX.1 hy).1;refine X3 fun k=>?_
  rw[Vy,Vy];cases ha:x.kids[k]? with
  | none=>
   have:x.kids.length<=k:=List.getElem?_eq_none_iff.1 ha;rw[Vo om];rfl
  | some a=>
   have hk:=(VX.1 ha).1;have hb:y.kids[k]? = some y.kids[k]:=VV om;rw[hb];have ha2:=hA i x hx a (Ve ha);have hb2:=hB j y hy _ (Ve hb);have e:=ih k a _ ha hb;simp only[Wd,VW];rw[wG F om om,wG F om om,e]
theorem MJ{A B:List Nd}(hA:iK A)(hB:iK B){i j:Nat}(h:A7 A B i j):(aT A)[i]? = (aT B)[j]? :=
 CZ (fun o x=>cU x o) ⟨[],false⟩ hA hB (fun b b' i x y _ he h=>IL he h) h
theorem OV{A B:List Nd}(hA:iK A)(hB:iK B){i j:Nat}(h:A7 A B i j):(b9 A)[i]? = (b9 B)[j]? :=
 CZ iI 0 hA hB (fun b b' i x y _ he h=>J2 he h) h
theorem Mx{A B:List Nd}(hA:iK A)(hB:iK B)(hk:∀(i:Nat) (x:Nd),A[i]? = some x->(x.kind=4->0<x.kids.length)/\0<=x.kind/\x.kind<=4){i j:Nat}(h:A7 A B i j):(aX A)[i]? = (aX B)[j]? :=
 CZ d9 0 hA hB (fun b b' i x y hx he h=>Ji he (hk i x hx).1 (hk i x hx).2 h) h
theorem Cr(ns:List Nd):(∀(j:Nat) (x:Nd),ns[j]? = some x->fV (ns.take j) (aX (ns.take j)) (b9 (ns.take j)) x=0)->bU [] ns=0:=by
 refine dT (P:=fun ns=>(∀(j:Nat) (x:Nd),ns[j]? = some x->fV (ns.take j) (aX (ns.take j)) (b9 (ns.take j)) x=0)->bU [] ns=0) (fun _=>rfl) (fun l x ih h=>?_) ns;have h0:bU [] l=0:=ih fun j y hy=>by
  have hj:=(VX.1 hy).1;have:=h j y (by rw[Vp hj];exact hy)
  rwa [Wm om] at this
 rw[fT [] l x h0,WG];have:=h l.length x (by simp)
 rwa [List.take_left' rfl] at this
theorem IX{i j:Nat}{x y:Nd}(he:y={ x with kids:=y.kids })(hl:y.kids.length=x.kids.length)(hk:∀k∈y.kids,0<=k/\k<j)(h:cP i x=true):cP j y=true:=by
 obtain⟨k,nm,lo,hi,ws,ls,vs,ks,v⟩:=x;obtain⟨k2,nm2,lo2,hi2,ws2,ls2,vs2,ks2,v2⟩:=y;cases he;simp only at hl hk;have e:mG j ks2=true:=by
  unfold mG;rw[WW];intro q hq;have:=hk q hq;simp;omega
 unfold cP gY at h ⊢;simp only at h ⊢;rw[e,hl];simp only[VZ] at h ⊢;obtain⟨⟨⟨⟨⟨⟨a,b⟩,-⟩,c⟩,d⟩,f⟩,g⟩:=h;exact⟨⟨⟨⟨⟨⟨a,b⟩,trivial⟩,c⟩,d⟩,f⟩,g⟩
theorem Ll{i j:Nat}{x y:Nd}(he:y={ x with kids:=y.kids })(hl:y.kids.length=x.kids.length)(hk:∀k∈y.kids,0<=k/\k<j)(h:eI i x=0):eI j y=0:=by
 have hf:cP i x=true:=by
  cases e:cP i x with
  | true=>rfl
  | false=>unfold eI at h;rw[Vb e] at h;cases h
 have hf2:=IX he hl hk hf;unfold eI at h ⊢;rw[VY (by rw[hf];simp)] at h;rw[VY (by rw[hf2];simp)];have e1:mT y=mT x:=by rw[he];rfl
 have e2:dX y=dX x:=by rw[he];rfl
 rw[e1,e2];exact h
theorem Ej{ns:List Nd}{i:Nat}{k:Int}(h0:0<=k)(hk:k<i)(hi:i<=ns.length):dF (aT ((ns.take i).take (k.toNat+1))) k=((aT ns)[k.toNat]?).getD ⟨[],false⟩:=by
 rw[XL,Wh om];unfold dF;rw[VW];exact congrArg (fun o=>Option.getD o ⟨[],false⟩) (wG (fun o x=>cU x o) (ns:=ns) (n:=k.toNat+1) (k:=k.toNat) om om)
theorem Mb{A B:List Nd}(hA:iK A)(hB:iK B)(hK:∀(i:Nat) (x:Nd),A[i]? = some x->(x.kind=4->0<x.kids.length)/\0<=x.kind/\x.kind<=4){i j:Nat}(hs:A7 A B i j){x y:Nd}(hx:A[i]? = some x)(hy:B[j]? = some y)
  (h:fV (A.take i) (aX (A.take i)) (b9 (A.take i)) x=0):fV (B.take j) (aX (B.take j)) (b9 (B.take j)) y=0:=by
 have e1:=Mx hA hB hK hs;have e2:=OV hA hB hs;have a1:(aX A)[i]? = some (d9 (aX (A.take i)) x):=qT d9 hx;have a2:(aX B)[j]? = some (d9 (aX (B.take j)) y):=qT d9 hy;have b1:(b9 A)[i]? = some (iI (b9 (A.take i)) x):=qT iI hx;have b2:(b9 B)[j]? = some (iI (b9 (B.take j)) y):=qT iI hy;rw[a1,a2] at e1;rw[b1,b2] at e2;have e1:d9 (aX (A.take i)) x=d9 (aX (B.take j)) y:=Option.some.inj e1;have e2:iI (b9 (A.take i)) x=iI (b9 (B.take j)) y:=Option.some.inj e2;have hi:=(VX.1 hx).1;have hj:=(VX.1 hy).1;have li:(A.take i).length=i:=by rw[V3];omega
 have lj:(B.take j).length=j:=by rw[V3];omega
 cases hs with
 | mk _ _ x' y' hx' hy' he hl hp hs=>
  rw[hx] at hx';cases hx';rw[hy] at hy';cases hy';unfold fV at h ⊢;rw[li] at h;rw[lj];have hn:eI i x=0:=by
   rcases Decidable.em (eI i x=0) with e|e
   ·exact e
   ·rw[Vb e] at h;exact absurd h e
  rw[VY (by rw[hn];simp)] at h;rw[VY (by rw[Ll he hl (fun k hk=>hB j y hy k hk) hn];simp),←e1,←e2];split at h
  ·cases h
  ·rename_i hb;rw[VY hb];have ek:y.kind=x.kind:=by rw[he]
   have ev:y.values=x.values:=by rw[he]
   rw[ek];split at h
   ·rename_i k4;rw[Vb k4];have h0:=(hK i x hx).1 k4;have ga:x.kids[0]? = some (x.kids.getD 0 0):=by rw[VW,VV h0];rfl
    have gb:y.kids[0]? = some (y.kids.getD 0 0):=by rw[VW,VV (show 0<y.kids.length by omega)];rfl
    have ka:=hA i x hx _ (Ve ga);have kb:=hB j y hy _ (Ve gb);have es:=MJ hA hB (hs 0 _ _ ga gb);unfold iJ at h ⊢;rw[Ej ka.1 ka.2 om,es] at h;rw[Ej kb.1 kb.2 om,ev];exact h
   ·rename_i k4;rw[VY k4]
theorem L8{A B:List Nd}(hA:iK A)(hB:iK B)(hK:∀(i:Nat) (x:Nd),A[i]? = some x->(x.kind=4->0<x.kids.length)/\0<=x.kind/\x.kind<=4)(hv:bU [] A=0)
  (hs:∀(j:Nat) (y:Nd),B[j]? = some y->fV (B.take j) (aX (B.take j)) (b9 (B.take j)) y=0∨∃i,i<A.length/\A7 A B i j):bU [] B=0:=
 Cr B fun j y hy=>by
  rcases hs j y hy with h|⟨i,hi,h⟩
  ·exact h
  ·have hx:A[i]? = some A[i]:=VV hi;exact Mb hA hB hK h hx hy (kM A hv i _ hx)
end Go.Ax
namespace Go.Ax
open Go
structure Tj(x:Nd):Prop where
 ok:n4 x
 val:bF x.value<=1024
 vals:∀v∈x.values,bF v<=1024
 vlen:x.values.length<=1024
 klen:x.kids.length<=1025
 llen:x.labels.length<=256
 wlen:x.weights.length<=256
 lab:∀s∈x.labels,s∈wK
theorem uL:∀{l:List a6},eM l=0->∀v∈l,fL v=0
 | [],_,v,hv=>by simp at hv
 | a::r,h,v,hv=>by
  simp only[eM] at h;split at h
  ·rename_i h1;exact absurd h h1
  ·rename_i h1;rcases Vg.1 hv with rfl|hv
   ·exact Decidable.not_not.1 h1
   ·exact uL h v hv
theorem BW{v:a6}(h:fL v=0):bF v<=1024:=by
 unfold fL at h;split at h
 ·omega
 ·split at h
  ·omega
  ·rename_i h1;rw[not_or] at h1;omega
theorem Jf{v:a6}(h:zN v=true):bF v<=1024:=by
 obtain⟨k,n,s,ks⟩:=v;simp only[zN,VZ,Vt] at h;have:ks=[]:=WL.1 h.2;subst this;simp[bF,cJ]
theorem qY{ns:List Nd}(h:gI ns):∀x∈ns,Tj x:=by
 intro x hx;obtain⟨j,hj⟩:=V2 hx;have hn:=jK ns h.valid j x hj;have hN:=kK hn;have hg:=h.gen x hx;have hf:=iH hn;have hfe:eM (mT x)=0:=by
  unfold eI at hn;rw[VY (by rw[hf];simp)] at hn;split at hn
  ·rename_i h1;exact absurd hn h1
  ·rename_i h1;exact Decidable.not_not.1 h1
 have hv:=uL hfe;unfold cP at hf;simp only[VZ] at hf;obtain⟨⟨⟨⟨⟨⟨hu,hkd⟩,hki⟩,h2⟩,h3⟩,h4⟩,h5⟩:=hf;unfold gY at hu;simp only[VZ,WN,Vt] at hu h2 h4;have hul:=hu.1.1.2;have hz:=hu.1.1.1.1.1;have hvl:=hg.vals;refine⟨hg.ok, ?_,fun v hm=>BW (hv v (by unfold mT;exact WT _ hm)),hvl, ?_, ?_, ?_,hg.labels⟩
 ·rcases hz with e|e
  ·exact BW (hv x.value (by unfold mT;rw[Vb e];simp))
  ·exact Jf e
 ·by_cases e:x.kind=4
  ·have:=hN.bind e;omega
  ·have:=hN.klen e;omega
 ·rcases hul with e|e
  ·rcases h2 with h2|h2
   ·exact absurd e h2
   ·omega
  ·omega
 ·rcases hul with e|e
  ·rcases h2 with h2|h2
   ·exact absurd e h2
   ·omega
  ·omega
structure Sg(LB:List (List UInt8))(x:Nd):Prop where
 ok:n4 x
 val:bF x.value<=1048576
 vals:∀v∈x.values,bF v<=1048576
 vlen:x.values.length<=2000
 klen:x.kids.length<=2000
 llen:x.labels.length<=1000
 lab:∀s∈x.labels,s∈LB
variable {LB:List (List UInt8)}
theorem LF(hLB:∀s∈wK,s∈LB){x:Nd}(h:Tj x):Sg LB x:=
 ⟨h.ok,by have:=h.val;omega,fun v hv=>by have:=h.vals v hv;omega,by have:=h.vlen;omega,by have:=h.klen;omega,by have:=h.llen;omega,fun s hs=>hLB s (h.lab s hs)⟩
theorem FQ{ns:List Nd}(hLB:∀s∈LB,s.length<=19)(h:∀x∈ns,Sg LB x)(hl:ns.length<=1000):dZ ns:=
 ⟨fun x hx=>(h x hx).ok,fun x hx=>(h x hx).val,fun x hx=>(h x hx).vals,fun x hx=>(h x hx).vlen,fun x hx=>(h x hx).klen,fun x hx=>(h x hx).llen,fun x hx s hs=>by have:=hLB s ((h x hx).lab s hs);omega,hl⟩
theorem QQ{x:Nd}{ks:List Int}(h:Sg LB x)(hl:ks.length<=2000)(hi:∀w∈ks,i64 w):Sg LB { x with kids:=ks }:=⟨⟨h.ok.kind,h.ok.name,h.ok.lo,h.ok.hi,h.ok.weights,h.ok.weightsI,h.ok.labels,h.ok.labelsI,h.ok.values,h.ok.valuesI,by simp only;omega,hi,h.ok.value,h.ok.valueS⟩,h.val,h.vals,h.vlen,hl,h.llen,h.lab⟩
end Go.Ax
namespace Go.Ax
open Go
def eY(A:List Nd):List Bool:=Dh A A.length (List.replicate A.length false)
def nU(A:List Nd):List Nd:=(iY A (eY A) A.length).1
theorem m9{A:List Nd}(hv:bU [] A=0):iK A:=fun i x hx k hk=>by
 obtain⟨j,hj⟩:=V2 hk;exact(kK (jK A hv i x hx)).kids j k hj
theorem NP{A:List Nd}(hv:bU [] A=0):∀(i:Nat) (x:Nd),A[i]? = some x->(x.kind=4->0<x.kids.length)/\0<=x.kind/\x.kind<=4:=fun i x hx=>by
 have h:=kK (jK A hv i x hx);exact⟨fun h4=>by rw[h.bind h4];omega,h.kind.1,h.kind.2⟩
section
variable {A:List Nd} (hv:bU [] A=0) (hok:∀x∈A,n4 x) (hlen:A.length<=4096)
include hv hok hlen
theorem Bm:sF A 0 (eY A)/\Gu A (eY A) A.length (iY A (eY A) A.length):=
 have hr:=FM (m9 hv) A.length _ (Vh _) (Jm A)
 ⟨hr,yK (m9 hv) hok hlen hr _ (Vh _)⟩
theorem Id:bU [] (nU A)=0:=by
 obtain⟨hr,hT⟩:=Bm hv hok hlen;refine L8 (m9 hv) hT.kids (NP hv) hv fun j y hy=>.inr ?_
 obtain⟨i,_,h2,h3,h4⟩:=hT.src j (VX.1 hy).1;exact⟨i,h2,AL (m9 hv) hr (T:=(iY A (eY A) A.length).1) (p:=(iY A (eY A) A.length).2) hT _ i j (WQ _) h2 h3 h4⟩
theorem Od{LB:List (List UInt8)}(hs:∀x∈A,Sg LB x):(∀x∈nU A,Sg LB x)/\(nU A).length<=A.length:=by
 obtain⟨hr,hT⟩:=Bm hv hok hlen;refine⟨fun y hy=>?_,hT.tlen⟩;obtain⟨q,hq⟩:=V2 hy;obtain⟨i,_,h2,h3,h4⟩:=hT.src q (VX.1 hq).1;have h:=AL (m9 hv) hr (T:=(iY A (eY A) A.length).1) (p:=(iY A (eY A) A.length).2) hT _ i q (WQ _) h2 h3 h4;cases h with
 | mk _ _ x y' hx hy' he hl hp _=>
  have e:y=y':=by
   have h5:(nU A)[q]? = some y':=hy';rw[hq] at h5;exact Option.some.inj h5
  subst e;have hx2:=hs x (Ve hx);rw[he];exact QQ hx2 (by rw[hl];exact hx2.klen) (hT.ok y hy).kidsI
end
end Go.Ax
namespace Go.Ax
open Go
theorem Qy{A:List Nd}(h:∀x∈A,L4 x)(j:Nat):gN (aE A j)<=3:=by
 unfold aE;rw[VW];cases e:A[j]? with
 | none=>simp[gN]
 | some x=>
  have hg:=h x (Ve e);simp only[Wr];unfold gN;split
  ·rename_i h3;have:=hg.seq h3;omega
  ·omega
theorem NB{A:List Nd}{i:Nat}(h:∀j,j≠i->gN (aE A j)<=3)(h4:gN (aE A i)<=4):∀n,(n<i->HP A n<=3 ^ n)/\3*HP A n<=4*3 ^ n
 | 0=>by simp[HP]
 | n+1=>by
  obtain⟨a,b⟩:=NB h h4 n;have hp:3 ^ (n+1)=3*3 ^ n:=by rw[Nat.pow_succ,XU]
  rw[HP,hp];by_cases e:n+1=i
  ·rw[e];have a:=a om;have:=Wk a h4;exact⟨fun q=>absurd q (W1 _),om⟩
  ·have h3:=h (n+1) e;have:=Wk (Vh (HP A n)) h3;exact⟨fun q=>by have:=a om;omega,om⟩
theorem PM{n:Nat}(h:n<=13):4*3 ^ n<=6377292:=by
 have:(3:Nat) ^ n<=3 ^ 13:=Nat.pow_le_pow_right om h;omega
theorem RS{A:List Nd}(h:VT A)(hH:3*HP A (A.length-1)<=6377292):∀p f i a0,i<f->i<A.length->(a7 A p f i a0).spans.length<=3200000:=fun p f i a0 hf hi=>by
 have h1:=FD h p f i a0 hf hi;have h2:=wE A (k:=i) (n:=A.length-1) om;omega
theorem TA{A:List Nd}(h:∀j,gN (aE A j)<=3)(hl:A.length<=14):3*HP A (A.length-1)<=6377292:=by
 have h1:=(NB (A:=A) (i:=0) (fun j _=>h j) (by have:=h 0;omega) (A.length-1)).2;have h2:=PM (n:=A.length-1) om;omega
theorem SA{A:List Nd}{j:Nat}(h:A.length<=j):gN (aE A j)<=3:=by
 have e:aE A j=⟨0,[],0,0,[],[],[],[],.mk 0 0 [] []⟩:=by
  unfold aE;rw[VW,Vo h];rfl
 rw[e];unfold gN;simp
theorem QF{A:List Nd}(hv:bU [] A=0)(hok:∀x∈A,n4 x)(hlen:A.length<=4096)(hg:∀j,gN (aE A j)<=3)(q:Nat):gN (aE (nU A) q)<=3:=by
 rcases Vm q (nU A).length with hq|hq
 ·obtain⟨hr,hT⟩:=Bm hv hok hlen;obtain⟨i,_,h2,h3,h4⟩:=hT.src q hq;have h:=AL (m9 hv) hr (T:=(iY A (eY A) A.length).1) (p:=(iY A (eY A) A.length).2) hT _ i q (WQ _) h2 h3 h4;cases h with
  | mk _ _ x y hx hy he hl hp _=>
   have h5:(nU A)[q]? = some y:=hy;rw[c7 h5];have:=hg i;rw[c7 hx] at this;unfold gN at this ⊢;have ek:y.kind=x.kind:=by rw[he]
   rw[ek,hl];exact this
 ·exact SA hq
structure N6(A:List Nd):Prop where
 vt:VT A
 cnt:∀p f i a0,i<f->i<A.length->(a7 A p f i a0).spans.length<=4294967296
theorem SP{A:List Nd}(h:VT A)(hg:∀j,gN (aE A j)<=3)(hl:A.length<=14):N6 A:=
 ⟨h,fun p f i a0 h1 h2=>by have:=RS h (TA hg hl) p f i a0 h1 h2;omega⟩
theorem EI{B:List Nd}(h:VT B){out:List Int}{n:Nat}(hs:(AN B out).stop=(n:Int)):n<B.length/\((aE B n).kind=1∨(aE B n).kind=2):=by
 have hp:=h.pos;rcases AR h out B.length (B.length-1) 0 om with h1|h1|⟨m,h1,h2,h3⟩
 ·have:(AN B out).stop = -1:=h1;omega
 ·have:(AN B out).stop = -2:=h1;omega
 ·have e:(AN B out).stop=(m:Int):=h1;have:m=n:=om;subst this;exact⟨h2,h3⟩
theorem IY{B:List Nd}(h:VT B){out:List Int}(hi:I3 B out):((AN B out).stop = -1/\(AN B out).used=out.length)∨∃n:Nat,(AN B out).stop=(n:Int)/\out.length<256:=by
 obtain⟨h1,h2⟩:=hi;obtain⟨f1,f2⟩:=qH h h2.symm;have h3:=uN h out;rcases Vm out.length (gG B out).cs.length with h4|h4
 ·obtain⟨n,-,h5,-⟩:=f2 h4;exact .inr ⟨n,h5,om⟩
 ·obtain⟨g1,g2,-⟩:=f1 om;exact .inl ⟨g1,g2⟩
end Go.Ax
