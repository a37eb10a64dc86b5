/- A part of the proof. -/
import Derived.Test.YtidjhgajglebnaaGreatDoorAx10
import Derived.Test.YtidjhgajglebnaaGreatDoorProg
import Derived.KernelRfl
set_option linter.unusedVariables false
set_option linter.unusedSimpArgs false
namespace Go.Proofs.YtidjhgajglebnaaGreatDoor
open Go Go.Ax Go.Proofs Tryz
set_option maxRecDepth 100000
end Go.Proofs.YtidjhgajglebnaaGreatDoor
namespace Go.Proofs.YtidjhgajglebnaaGreatDoor
open Go Go.Ax Go.Proofs Tryz
set_option maxRecDepth 100000
set_option maxHeartbeats 16000000
abbrev Key:=Nat × Option aR
def FC:Option aR->List UInt8
 | none=>[]
 | some v=>gR v
def wG(k:Key):AV:=.agg [.int .i64 k.1,.str (FC k.2)]
theorem ST(k:Key):NN (wG k):=.agg' (.cons nn (.cons nn .nil))
def iC(k:Key):Prop:=match k.2 with
 | none=>True
 | some v=>g9 v/\bP v=0
def VJ(a b:Key):Bool:=decide (b.1=a.1) && (FC a.2 == FC b.2)
def yB(L:List Key)(k:Key):Bool:=L.any (VJ k)
theorem QE{a b:Key}(ha:iC a)(hb:iC b)(h:FC a.2=FC b.2):a.2=b.2:=by
 obtain⟨i,o⟩:=a;obtain⟨j,p⟩:=b;have hne:∀v:aR,gR v≠[]:=fun v e=>by
  obtain⟨k,n,s,ks⟩:=v;rw[gR] at e;have h1:=(List.append_eq_nil_iff.1 e).1;unfold gT nG at h1;split at h1<;>simp at h1
 cases o with
 | none=>
  cases p with
  | none=>rfl
  | some v=>exact absurd h.symm (hne v)
 | some u=>
  cases p with
  | none=>exact absurd h (hne u)
  | some v=>exact congrArg some (RB ha.1 hb.1 ha.2 hb.2 h)
theorem SG{a b:Key}(ha:iC a)(hb:iC b):VJ a b=true↔a=b:=by
 unfold VJ;rw[Yk,ZA,beq_iff_eq];constructor
 ·rintro⟨h1,h2⟩;exact Prod.ext h1.symm (QE ha hb h2)
 ·rintro rfl;exact⟨rfl,rfl⟩
theorem RC:Tryz.prog.stoodInHeld 152=false:=by kernel_rfl
theorem Ql(a b:Key):Bq prog 152 (wG a) (wG b)=some (VJ a b):=by
 obtain⟨i,o⟩:=a;obtain⟨j,p⟩:=b;have e:G2 prog 152 [.int .i64 i,.str (FC o)] [.int .i64 j,.str (FC p)]=some (VJ (i,o) (j,p)):=by
  unfold G2;rw[RC];unfold VJ;simp only;generalize FC o=x;generalize FC p=y
  conv=>lhs;whnf
  rw[Option.some.injEq,ZN];simp;omega
 exact e
section
variable {T:Type} (fd:Option T->AV) (g:Cf T) (A:List Nd)
def Ix(k:Key):Option T:=match k.2 with
 | none=>(cA g).all A k.1
 | some v=>(cA g).of A k.1 v
def rP(L:List Key):List (AV × AV):=L.map fun k=>(wG k,fd (Ix g A k))
theorem H4(L:List Key)(k:Key):rP fd g A (L++[k])=rP fd g A L++[(wG k,fd (Ix g A k))]:=by simp[rP]
variable {fd g A}
theorem BD{k:Key}:∀(L:List Key) (i:Nat),yB L k=false->jK prog 152 (wG k) (rP fd g A L) i=some none
 | [],i,_=>rfl
 | q::r,i,h=>by
  simp only[yB,List.any_cons,aAz] at h;simp only[rP,ZP,jK,Ql,h.1];exact BD r (i+1) h.2
theorem xJ{k:Key}(hk:iC k):∀(L:List Key) (i:Nat),(∀q∈L,iC q)->yB L k=true->∃j,jK prog 152 (wG k) (rP fd g A L) i=some (some (i+j,fd (Ix g A k)))/\(rP fd g A L)[j]? = some (wG k,fd (Ix g A k))
 | [],i,_,h=>by simp[yB] at h
 | q::r,i,hL,h=>by
  simp only[yB,List.any_cons] at h;simp only[rP,ZP,jK,Ql];cases hd:VJ k q with
  | true=>
   have:=(SG hk (hL q (Y7 ..))).1 hd;subst this;exact⟨0,rfl,rfl⟩
  | false=>
   rw[hd,aA8] at h;obtain⟨j,h1,h2⟩:=xJ hk r (i+1) (fun q hq=>hL q (Yx _ hq)) h;exact⟨j+1,by simp only;rw[show i+(j+1)=i+1+j by omega];exact h1,h2⟩
theorem IE{α:Type}{l:List α}{j:Nat}{a:α}(h:l[j]? = some a):l.set j a=l:=by
 refine aBj fun i=>?_
 by_cases e:j=i
 ·subst e;have hl:=(Yn.1 h).1;rw[Zg hl,h]
 ·rw[aA4 e]
theorem E5(k:Key):B5 (wG k) (wG k)=true:=by
 unfold wG;generalize FC k.2=x;simp[B5,zS,Jn]
end
end Go.Proofs.YtidjhgajglebnaaGreatDoor
namespace Go.Ax
open Go
structure YU(t c:Xu):Prop where
 hit:t.hit=c.hit
 miss:t.miss=c.miss
 up:t.upper=c.upper
 lo:t.lower=c.lower
end Go.Ax
namespace Go.Ax
open Go
theorem y5(d:Nat):∀l:List Nat,fJ (l++[d])=if d=0 then fJ l else l++[d]
 | []=>by
  simp only[ZS,fJ];by_cases h:d=0<;>simp[h]
 | a::r=>by
  rw[Zi,fJ,y5 d r,fJ];by_cases h:d=0
  ·simp[h]
  ·simp[h]
def sg(neg:Bool)(n:Nat):Int:=if neg then -(n:Int) else n
theorem D2(neg:Bool)(n:Nat):(sg neg n).natAbs=n:=by unfold sg;split<;>simp
theorem Pd(neg:Bool)(n:Nat):decide (sg neg n<0)=(neg && decide (0<n)):=by
 cases neg<;>simp[sg]
theorem GD(z:Int):sg (decide (z<0)) z.natAbs=z:=by
 unfold sg;split
 ·rename_i h;have:=ZX h;omega
 ·rename_i h;have:¬z<0:=fun x=>h (Y0 x);omega
theorem gZ{B n:Nat}(hB:2<=B):decide (0<(dg B n).length)=decide (0<n):=by
 rw[Ze];constructor
 ·intro h;rcases Y2 n with rfl|h2
  ·rw[fV] at h;simp at h
  ·exact h2
 ·intro h;rw[pE hB h];simp
end Go.Ax
namespace Go.Ax
open Go
def Ao(σ:List (Nat × Nat))(ns nx n':Nat):List (Nat × Nat)->Bool
 | []=>true
 | (i,id)::r=>(match Nat.blt i ns with
   | true=>match lk σ id with
    | some j=>Nat.beq j i
    | none=>false
   | false=>Nat.ble nx id && Nat.blt id n') && Ao σ ns nx n' r
def tO(ids:List Nat)(nx:Nat):aQ->Bool
 | []=>true
 | (k,_)::r=>(match Nat.ble nx k with
   | true=>true
   | false=>B8 k ids) && tO ids nx r
theorem CO{σ:List (Nat × Nat)}{ns nx n':Nat}:∀{τ:List (Nat × Nat)},Ao σ ns nx n' τ=true->∀p∈τ,(p.1<ns/\lk σ p.2=some p.1)∨(ns<=p.1/\nx<=p.2/\p.2<n')
 | [],_,p,hp=>by cases hp
 | (i,id)::r,h,p,hp=>by
  simp only[Ao,Yk] at h;rcases Yr.1 hp with rfl|hp
  ·have h1:=h.1;split at h1
   ·rename_i hb;split at h1
    ·rename_i j hj;exact .inl ⟨Yq hb,by rw[hj,Nat.eq_of_beq_eq_true h1]⟩
    ·cases h1
   ·rename_i hb;simp only[Yk] at h1;refine .inr ⟨?_,Yq h1.1,Yq h1.2⟩;rcases Y5 i ns with hl|hl
    ·have e:Nat.blt i ns=true:=Yp hl;rw[e] at hb;cases hb
    ·exact hl
  ·exact CO h.2 p hp
theorem AY:∀{m:aQ} {ids:List Nat} {nx:Nat},tO ids nx m=true->∀p∈m,nx<=p.1∨B8 p.1 ids=true
 | [],ids,nx,_,p,hp=>by cases hp
 | (k,b)::r,ids,nx,h,p,hp=>by
  simp only[tO,Yk] at h;rcases Yr.1 hp with rfl|hp
  ·have h1:=h.1;split at h1
   ·rename_i hb;exact .inl (Yq hb)
   ·exact .inr h1
  ·exact AY h.2 p hp
theorem aF.useN{P:Program}{Γ:List (Nat × AV)}{F:FuncId}{args args':List AV}{ms mem m1:aQ}{ns nx:Nat}{Qs K:AV->aQ->Nat->Prop}(hΓ:∀p∈Γ,NN p.2)(σ:List (Nat × Nat))(h:aF P Γ F args' ms ns Qs)
  (hp:jM (uO σ) mem=m1) (hargs:iB m1 σ args args') (hM:dV m1 σ ms) (hc:(oD ms && (n9 σ && tI ns σ))=true)
  (hk:∀r m n,Qs r m n->∃τ r' m' n',Cv m τ r r'/\dV m τ m'/\(oD m' && (n9 τ && (Nat.ble nx n' && (tO (uO σ) nx m' && Ao σ ns nx n' τ))))=true/\K r' (m'++iS (uO σ) mem) n'):aF P Γ F args mem nx K:=by
 simp only[Yk] at hc;obtain⟨hc1,hc2,hc4⟩:=hc;refine⟨fun X D ρ w vs hD hm hv=>?_⟩;refine(aF.use (K:=K) (nx:=nx) hΓ h σ (m1:=m1) (rest:=iS (uO σ) mem) ⟨fun p hp'=>?_,fun p hp'=>(dZ.1 hp').1,fun p hp'=>?_,fun p h1 q h2=>?_, ?_⟩ ?_ hargs hM.cvm (fY hc1) (qT hc2) (fun id i hl=>pR hc4 _ (bV hl)) ?_).run X D ρ w vs hD hm hv
 ·rw[←hp] at hp';exact(fT.1 hp').1
 ·cases hi:B8 p.1 (uO σ) with
  | true=>left;rw[←hp];exact fT.2 ⟨hp',hi⟩
  | false=>right;exact dZ.2 ⟨hp',hi⟩
 ·rw[←hp] at h1;have a:=(fT.1 h1).2;have b:=(dZ.1 h2).2;intro e;rw[e,b] at a;cases a
 ·rw[←hp];exact hm.nod.sublist ((pV mem).map _)
 ·exact hm.nod.sublist ((pZ mem).map _)
 ·intro r m n hq hn;obtain⟨τ,r',m',n',h1,h2,h3,h4⟩:=hk r m n hq;simp only[Yk] at h3;refine⟨τ,r',m',n',Yq h3.2.2.1,h1,h2.cvm,fY h3.1,qT h3.2.1,fun i id hl=>CO h3.2.2.2.2 _ (bV hl),fun p h5 q h6=>?_,h4⟩;have b:=(dZ.1 h6).2;rcases AY h3.2.2.2.1 p h5 with a|a
  ·have:=hD _ (hm.low q (dZ.1 h6).1);omega
  ·intro e;rw[e,b] at a;cases a
theorem aF.ph{P:Program}{Γ:List (Nat × AV)}{F:FuncId}{args:List AV}{mem:aQ}{nx:Nat}{K:AV->aQ->Nat->Prop}(t:TypeId)(sz:Nat)(h:aF P Γ F args ((nx,.row t sz [])::mem) (nx+1) K):aF P Γ F args mem nx K:=by
 refine⟨fun X D ρ w vs hD hm hv=>?_⟩;obtain⟨m1,v1,e1⟩:=hm.phantom (n:=nx) (D':=dn D nx (nx+1)) (fun h'=>aAT _ (hD _ h')) (fun i hi=>.inl hi) (.inr ⟨Yy _,Zo _⟩) t sz;refine(h.run X _ _ w vs (fun i hi=>?_) m1 ⟨hv.1,fun j c x hc hx=>v1 _ _ (hv.2 j c x hc hx)⟩).mono ?_
 ·rcases hi with hi|hi
  ·have:=hD i hi;omega
  ·exact hi.2
 ·rintro e w' ⟨r,v,m,n,ρ',rfl,hk,hn,hm',hr,ext⟩;have ed:dn (dn D nx (nx+1)) (nx+1) n=dn D nx n:=by
   funext i
   apply propext;constructor
   ·rintro((hi|⟨h1,h2⟩)|⟨h1,h2⟩)
    ·exact .inl hi
    ·exact .inr ⟨h1,by omega⟩
    ·exact .inr ⟨by omega,h2⟩
   ·rintro(hi|⟨h1,h2⟩)
    ·exact .inl (.inl hi)
    ·rcases Y5 i (nx+1) with h3|h3
     ·exact .inl (.inr ⟨h1,h3⟩)
     ·exact .inr ⟨h3,h2⟩
  rw[ed] at hm' hr ext;refine⟨r,v,m,n,ρ',rfl,hk,by omega,hm',hr, ?_⟩;have e2:=e1 D fun i hi=>hi
  exact e2.trans ⟨fun i hi=>ext.le i (.inl hi),fun i hi=>ext.agree i (.inl hi),ext.size,ext.keep,ext.fresh,ext.env⟩
end Go.Ax
namespace Go.Ax
open Go
section
variable {P:Program} {Γ:List (Nat × AV)} {B:Nat}
theorem Oy{b:Bool}{c1 c2:Code}{s1 s2:St}{i:Nat}{y:Code}{Q:Exit->St->Prop}{α:Type}(hΓ:∀p∈Γ,NN p.2)(R:α->Prop)(J:α->St)
  (h1:∀Qr:Exit->St->Prop,(∀(a:α) (s:St) (σ:List (Nat × Nat)),R a->Conv B σ s (J a)->Qr .normal s)->RR b (fR P Γ B c1 s1 (DL i Qr)) (fR P Γ B c2 s2 (DL i Qr)))
  (h2:∀a,R a->fR P Γ B y (J a) Q):RR b (fR P Γ B c1 s1 (DL i (ON P Γ B y Q))) (fR P Γ B c2 s2 (DL i (ON P Γ B y Q))):=by
 have h:=h1 (fun e s=>match e with
  | .normal=>∃a σ,R a/\Conv B σ s (J a)
  | e=>Q e s) (fun a s σ hr hc=>⟨a,σ,hr,hc⟩)
 have key:∀(e:Exit) (s:St),DL i (fun e s=>match e with
  | .normal=>∃a σ,R a/\Conv B σ s (J a)
  | e=>Q e s) e s->DL i (ON P Γ B y Q) e s:=by
  intro e s hq;have norm:(∃a σ,R a/\Conv B σ s (J a))->fR P Γ B y s Q:=fun⟨a,σ,hr,hc⟩=>fR.conv hΓ hc (h2 a hr)
  cases e with
  | normal=>exact norm hq
  | exit j=>
   simp only[DL] at hq ⊢;split at hq
   ·exact norm hq
   ·exact hq
  | goto l=>exact hq
  | ret=>exact hq
  | panic c=>exact hq
  | outgrown=>exact hq
 cases b with
 | true=>exact fR.mono (show fR P Γ B c1 s1 _ from h) key
 | false=>exact fR.mono (show fR P Γ B c2 s2 _ from h) key
end
end Go.Ax
