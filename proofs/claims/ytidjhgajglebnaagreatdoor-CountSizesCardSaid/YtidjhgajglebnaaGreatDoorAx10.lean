/- A part of the proof. -/
import Derived.Test.YtidjhgajglebnaaGreatDoorAx9
import Derived.Test.YtidjhgajglebnaaGreatDoorProg
import Derived.KernelRfl
set_option linter.unusedVariables false
set_option linter.unusedSimpArgs false
set_option maxRecDepth 1000000
set_option maxHeartbeats 16000000
namespace Go.Proofs.YtidjhgajglebnaaGreatDoor
open Go Go.Ax Go.Proofs Tryz
end Go.Proofs.YtidjhgajglebnaaGreatDoor
namespace Go.Proofs.YtidjhgajglebnaaGreatDoor
open Go Go.Ax Go.Proofs Tryz
abbrev Key:=Nat × Option aQ
def Dh:Option aQ->List UInt8
 | none=>[]
 | some v=>fI v
def rQ(k:Key):AV:=.agg [.int .i64 k.1,.str (Dh k.2)]
theorem Tn(k:Key):NN (rQ k):=.agg' (.cons nn (.cons nn .nil))
def dW(k:Key):Prop:=match k.2 with
 | none=>True
 | some v=>iO v/\bG v=0
def Wd(a b:Key):Bool:=decide (b.1=a.1) && (Dh a.2 == Dh b.2)
def o0(L:List Key)(k:Key):Bool:=L.any (Wd k)
theorem Rv{a b:Key}(ha:dW a)(hb:dW b)(h:Dh a.2=Dh b.2):a.2=b.2:=by
 obtain⟨i,o⟩:=a;obtain⟨j,p⟩:=b;have hne:∀v:aQ,fI v≠[]:=λv e=>by
  obtain⟨k,n,s,ks⟩:=v;rw[fI] at e;have h1:=(List.append_eq_nil_iff.1 e).1;unfold g9 n9 at h1;split at h1<;>simp at h1
 cases o with
 | none=>
  cases p with
  | none=>rfl
  | some v=>exact absurd h.symm (hne v)
 | some u=>
  cases p with
  | none=>exact absurd h (hne u)
  | some v=>exact congrArg some (Qo ha.1 hb.1 ha.2 hb.2 h)
theorem S7{a b:Key}(ha:dW a)(hb:dW b):Wd a b=true↔a=b:=by
 unfold Wd;rw[aAd,aAC,beq_iff_eq];constructor
 .rintro⟨h1,h2⟩;exact Prod.ext h1.symm (Rv ha hb h2)
 .rintro rfl;exact⟨rfl,rfl⟩
theorem R9:Tryz.prog.stoodInHeld 152=false:=by kernel_rfl
theorem RU(a b:Key):CN prog 152 (rQ a) (rQ b)=some (Wd a b):=by
 obtain⟨i,o⟩:=a;obtain⟨j,p⟩:=b;have e:Hz prog 152 [.int .i64 i,.str (Dh o)] [.int .i64 j,.str (Dh p)]=some (Wd (i,o) (j,p)):=by
  unfold Hz;rw[R9];unfold Wd;simp only;generalize Dh o=x;generalize Dh p=y
  conv=>lhs;whnf
  rw[Option.some.injEq,aAS];simp;omega
 exact e
section
variable {T:Type} (fd:Option T->AV) (g:Bd T) (A:List Nd)
def Dl(k:Key):Option T:=match k.2 with
 | none=>(aZ g).all A k.1
 | some v=>(aZ g).of A k.1 v
def kK(L:List Key):List (AV × AV):=L.map λk=>(rQ k,fd (Dl g A k))
theorem BY(L:List Key)(k:Key):kK fd g A (L++[k])=kK fd g A L++[(rQ k,fd (Dl g A k))]:=by simp[kK]
variable {fd g A}
theorem rH{k:Key}:∀(L:List Key) (i:Nat),o0 L k=false->gT prog 152 (rQ k) (kK fd g A L) i=some none
 | [],i,_=>rfl
 | q::r,i,h=>by
  simp only[o0,List.any_cons,aB0] at h;simp only[kK,aAT,gT,RU,h.1];exact rH r (i+1) h.2
theorem oL{k:Key}(hk:dW k):∀(L:List Key) (i:Nat),(∀q∈L,dW q)->o0 L k=true->∃j,gT prog 152 (rQ k) (kK fd g A L) i=some (some (i+j,fd (Dl g A k)))/\(kK fd g A L)[j]? = some (rQ k,fd (Dl g A k))
 | [],i,_,h=>by simp[o0] at h
 | q::r,i,hL,h=>by
  simp only[o0,List.any_cons] at h;simp only[kK,aAT,gT,RU];cases hd:Wd k q with
  | true=>
   have:=(S7 hk (hL q (aAv ..))).1 hd;subst this;exact⟨0,rfl,rfl⟩
  | false=>
   rw[hd,aCw] at h;obtain⟨j,h1,h2⟩:=oL hk r (i+1) (λq hq=>hL q (aAo _ hq)) h;exact⟨j+1,by simp only;rw[show i+(j+1)=i+1+j by omega];exact h1,h2⟩
theorem Bm{V:Type}{l:List V}{j:Nat}{a:V}(h:l[j]? = some a):l.set j a=l:=by
 refine aCf λi=>?_
 by_cases e:j=i
 .subst e;have hl:=(aAg.1 h).1;rw[aBe hl,h]
 .rw[aCN e]
theorem uX(k:Key):z7 (rQ k) (rQ k)=true:=by
 unfold rQ;generalize Dh k.2=x;simp[z7,AX,KI]
end
end Go.Proofs.YtidjhgajglebnaaGreatDoor
namespace Go.Ax
open Go
structure Zp(t c:Zj):Prop where
 hit:t.hit=c.hit
 miss:t.miss=c.miss
 up:t.upper=c.upper
 lo:t.lower=c.lower
end Go.Ax
namespace Go.Ax
open Go
theorem Ab(d:Nat):∀l:List Nat,fY (l++[d])=if d=0 then fY l else l++[d]
 | []=>by
  simp only[aAZ,fY];by_cases h:d=0<;>simp[h]
 | a::r=>by
  rw[aBc,fY,Ab d r,fY];by_cases h:d=0
  .simp[h]
  .simp[h]
def sg(neg:Bool)(n:Nat):Int:=if neg then -(n:Int) else n
theorem EJ(neg:Bool)(n:Nat):(sg neg n).natAbs=n:=by unfold sg;split<;>simp
theorem RY(neg:Bool)(n:Nat):decide (sg neg n<0)=(neg && decide (0<n)):=by
 cases neg<;>simp[sg]
theorem HI(z:Int):sg (decide (z<0)) z.natAbs=z:=by
 unfold sg;split
 .rename_i h;have:=aAY h;omega
 .rename_i h;have:¬z<0:=λx=>h (aAn x);omega
theorem iE{B n:Nat}(hB:2<=B):decide (0<(dg B n).length)=decide (0<n):=by
 rw[aA2];constructor
 .intro h;rcases aAz n with rfl|h2
  .rw[fL] at h;simp at h
  .exact h2
 .intro h;rw[p5 hB h];simp
end Go.Ax
namespace Go.Ax
open Go
def DD(J:List (Nat × Nat))(ns nx n':Nat):List (Nat × Nat)->Bool
 | []=>true
 | (i,id)::r=>(match Nat.blt i ns with
   | true=>match lk J id with
    | some j=>Nat.beq j i
    | none=>false
   | false=>Nat.ble nx id && Nat.blt id n') && DD J ns nx n' r
def wJ(ids:List Nat)(nx:Nat):aP->Bool
 | []=>true
 | (k,_)::r=>(match Nat.ble nx k with
   | true=>true
   | false=>Dc k ids) && wJ ids nx r
theorem C3{J:List (Nat × Nat)}{ns nx n':Nat}:∀{τ:List (Nat × Nat)},DD J ns nx n' τ=true->∀p∈τ,(p.1<ns/\lk J p.2=some p.1)\/(ns<=p.1/\nx<=p.2/\p.2<n')
 | [],_,p,hp=>by cases hp
 | (i,id)::r,h,p,hp=>by
  simp only[DD,aAd] at h;rcases aAj.1 hp with rfl|hp
  .have h1:=h.1;split at h1
   .rename_i hb;split at h1
    .rename_i j hj;exact .inl ⟨aAi hb,by rw[hj,Nat.eq_of_beq_eq_true h1]⟩
    .cases h1
   .rename_i hb;simp only[aAd] at h1;refine .inr ⟨?_,aAi h1.1,aAi h1.2⟩;rcases aAr i ns with hl|hl
    .have e:Nat.blt i ns=true:=aAf hl;rw[e] at hb;cases hb
    .exact hl
  .exact C3 h.2 p hp
theorem A1:∀{m:aP} {ids:List Nat} {nx:Nat},wJ ids nx m=true->∀p∈m,nx<=p.1\/Dc p.1 ids=true
 | [],ids,nx,_,p,hp=>by cases hp
 | (k,b)::r,ids,nx,h,p,hp=>by
  simp only[wJ,aAd] at h;rcases aAj.1 hp with rfl|hp
  .have h1:=h.1;split at h1
   .rename_i hb;exact .inl (aAi hb)
   .exact .inr h1
  .exact A1 h.2 p hp
theorem aH.useN{P:Program}{Z:List (Nat × AV)}{F:FuncId}{args args':List AV}{ms mem m1:aP}{ns nx:Nat}{Qs K:AV->aP->Nat->Prop}(hΓ:∀p∈Z,NN p.2)(J:List (Nat × Nat))(h:aH P Z F args' ms ns Qs)
  (hp:i5 (wA J) mem=m1) (hargs:jB m1 J args args') (hM:dR m1 J ms) (hc:(pU ms && (pW J && xW ns J))=true)
  (hk:∀r m n,Qs r m n->∃τ r' m' n',Cv m τ r r'/\dR m τ m'/\(pU m' && (pW τ && (Nat.ble nx n' && (wJ (wA J) nx m' && DD J ns nx n' τ))))=true/\K r' (m'++iJ (wA J) mem) n'):aH P Z F args mem nx K:=by
 simp only[aAd] at hc;obtain⟨hc1,hc2,hc4⟩:=hc;refine⟨λX D C w vs hD hm hv=>?_⟩;refine(aH.use (K:=K) (nx:=nx) hΓ h J (m1:=m1) (rest:=iJ (wA J) mem) ⟨λp hp'=>?_,λp hp'=>(eG.1 hp').1,λp hp'=>?_,λp h1 q h2=>?_, ?_⟩ ?_ hargs hM.cvm (gU hc1) (rX hc2) (λid i hl=>qJ hc4 _ (b8 hl)) ?_).run X D C w vs hD hm hv
 .rw[<-hp] at hp';exact(gA.1 hp').1
 .cases hi:Dc p.1 (wA J) with
  | true=>left;rw[<-hp];exact gA.2 ⟨hp',hi⟩
  | false=>right;exact eG.2 ⟨hp',hi⟩
 .rw[<-hp] at h1;have a:=(gA.1 h1).2;have b:=(eG.1 h2).2;intro e;rw[e,b] at a;cases a
 .rw[<-hp];exact hm.nod.sublist ((qQ mem).map _)
 .exact hm.nod.sublist ((qR mem).map _)
 .intro r m n hq hn;obtain⟨τ,r',m',n',h1,h2,h3,h4⟩:=hk r m n hq;simp only[aAd] at h3;refine⟨τ,r',m',n',aAi h3.2.2.1,h1,h2.cvm,gU h3.1,rX h3.2.1,λi id hl=>C3 h3.2.2.2.2 _ (b8 hl),λp h5 q h6=>?_,h4⟩;have b:=(eG.1 h6).2;rcases A1 h3.2.2.2.1 p h5 with a|a
  .have:=hD _ (hm.low q (eG.1 h6).1);omega
  .intro e;rw[e,b] at a;cases a
theorem aH.ph{P:Program}{Z:List (Nat × AV)}{F:FuncId}{args:List AV}{mem:aP}{nx:Nat}{K:AV->aP->Nat->Prop}(t:TypeId)(sz:Nat)(h:aH P Z F args ((nx,.row t sz [])::mem) (nx+1) K):aH P Z F args mem nx K:=by
 refine⟨λX D C w vs hD hm hv=>?_⟩;obtain⟨m1,v1,e1⟩:=hm.phantom (n:=nx) (D':=dn D nx (nx+1)) (λh'=>aCv _ (hD _ h')) (λi hi=>.inl hi) (.inr ⟨aAp _,aBx _⟩) t sz;refine(h.run X _ _ w vs (λi hi=>?_) m1 ⟨hv.1,λj c x hc hx=>v1 _ _ (hv.2 j c x hc hx)⟩).mono ?_
 .rcases hi with hi|hi
  .have:=hD i hi;omega
  .exact hi.2
 .rintro e w' ⟨r,v,m,n,C',rfl,hk,hn,hm',hr,ext⟩;have ed:dn (dn D nx (nx+1)) (nx+1) n=dn D nx n:=by
   funext i
   apply propext;constructor
   .rintro((hi|⟨h1,h2⟩)|⟨h1,h2⟩)
    .exact .inl hi
    .exact .inr ⟨h1,om⟩
    .exact .inr ⟨om,h2⟩
   .rintro(hi|⟨h1,h2⟩)
    .exact .inl (.inl hi)
    .rcases aAr i (nx+1) with h3|h3
     .exact .inl (.inr ⟨h1,h3⟩)
     .exact .inr ⟨h3,h2⟩
  rw[ed] at hm' hr ext;refine⟨r,v,m,n,C',rfl,hk,om,hm',hr, ?_⟩;have e2:=e1 D λi hi=>hi
  exact e2.trans ⟨λi hi=>ext.le i (.inl hi),λi hi=>ext.agree i (.inl hi),ext.size,ext.keep,ext.fresh,ext.env⟩
end Go.Ax
namespace Go.Ax
open Go
section
variable {P:Program} {Z:List (Nat × AV)} {B:Nat}
theorem Qt{b:Bool}{c1 c2:Code}{s1 s2:St}{i:Nat}{y:Code}{Q:Exit->St->Prop}{V:Type}(hΓ:∀p∈Z,NN p.2)(R:V->Prop)(af:V->St)
  (h1:∀Qr:Exit->St->Prop,(∀(a:V) (s:St) (J:List (Nat × Nat)),R a->Conv B J s (af a)->Qr .normal s)->Sj b (gC P Z B c1 s1 (FS i Qr)) (gC P Z B c2 s2 (FS i Qr)))
  (h2:∀a,R a->gC P Z B y (af a) Q):Sj b (gC P Z B c1 s1 (FS i (OZ P Z B y Q))) (gC P Z B c2 s2 (FS i (OZ P Z B y Q))):=by
 have h:=h1 (λe s=>match e with
  | .normal=>∃a J,R a/\Conv B J s (af a)
  | e=>Q e s) (λa s J hr hc=>⟨a,J,hr,hc⟩)
 have key:∀(e:Exit) (s:St),FS i (λe s=>match e with
  | .normal=>∃a J,R a/\Conv B J s (af a)
  | e=>Q e s) e s->FS i (OZ P Z B y Q) e s:=by
  intro e s hq;have norm:(∃a J,R a/\Conv B J s (af a))->gC P Z B y s Q:=λ⟨a,J,hr,hc⟩=>gC.conv hΓ hc (h2 a hr)
  cases e with
  | normal=>exact norm hq
  | exit j=>
   simp only[FS] at hq |-;split at hq
   .exact norm hq
   .exact hq
  | goto l=>exact hq
  | ret=>exact hq
  | panic c=>exact hq
  | outgrown=>exact hq
 cases b with
 | true=>exact gC.mono (show gC P Z B c1 s1 _ from h) key
 | false=>exact gC.mono (show gC P Z B c2 s2 _ from h) key
end
end Go.Ax
