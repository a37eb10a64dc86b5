/- A part of the proof. -/
import Derived.Test.YtidjhgajglebnaaGreatDoorAx9
import Derived.Test.YtidjhgajglebnaaGreatDoorProg
import Derived.KernelRfl
set_option linter.unusedVariables false
set_option linter.unusedSimpArgs false
namespace Go.Proofs.YtidjhgajglebnaaGreatDoor
open Go Go.Ax Go.Proofs Tryz
set_option maxRecDepth 100000
def gB(l:List Int)(at_:Nat):AB:=.row 50 2 [.agg [.il 1 (bG l),.int .i64 at_]]
theorem S8(l:List Int)(i:Nat):kH [.agg [.il 1 (bG l),.int .i64 i]]:=.cons (.agg' (.cons (.il' (a8 l)) (.cons (.int _ _) .nil))) .nil
theorem SE(l:List Int)(i:Nat)(most:Int)(hi:i<=4611686018427387904)(hm:most<=4611686018427387904) :
  aE prog [] 16 [.ptr 0 0 0,.int .i64 most] [(0,gB l i)] 1 fun r m n=>∃k:Int,r = .int .i64 k/\0<=k/\(k=0∨k<most)/\m=[(0,gB l (i+1))]:=by
 refine Go.Ax.f6 bB func16 rfl ?_;have hw:IntKind.i64.wrap ((i:Int)+1)=((i+1:Nat):Int):=bE ⟨by omega,by omega⟩;have fin:∀(k:Int) (n:Nat),0<=k->(k=0∨k<most)->oH 1 (fun r m _=>∃k:Int,r = .int .i64 k/\0<=k/\(k=0∨k<most)/\m=[(0,gB l (i+1))]) (.int .i64 k) [(0,.row 50 2 [.agg [.il 1 (bG l),.int .i64 (IntKind.i64.wrap ((i:Int)+1))]])] n:=by
  intro k n h1 h2;refine bJ (n':=1) (m':=[(0,gB l (i+1))]) [(0,0)] rfl ⟨⟨0,_,rfl,rfl,.eq (S8 l (i+1)) (by rw[hw])⟩,trivial⟩ (.same _ (.int _ _)) ⟨k,rfl,h1,h2,rfl⟩
 conv=>whnf
 refine aD (fun h=>?_) (fun h=>?_)
 ·rw[h]
  conv=>whnf
  exact fin 0 _ (by omega) (.inl rfl)
 ·have hlt:i<l.length:=by rw[aH] at h;simp at h;omega
  rw[h]
  conv=>whnf
  refine aD (fun h2=>?_) (fun h2=>?_)
  ·conv=>whnf
   exact fin 0 _ (by omega) (.inl rfl)
  ·have h2:2<=most:=by simpa using h2
   conv=>whnf
   refine aC (a:=.int .i64 l[i]) (by rw[T4,bL,Ty hlt];rfl) ?_
   conv=>whnf
   refine aM (by rw[UO (by omega)];rfl) ?_
   conv=>whnf
   have hr : -most<l[i].tmod most/\l[i].tmod most<most:=by
    constructor
    ·have:=Int.lt_tmod_of_pos l[i] (show 0<most by omega);omega
    ·exact VZ _ (by omega)
   refine aD (fun h3=>?_) (fun h3=>?_)
   ·have h3:l[i].tmod most<0:=by simpa using h3
    conv=>whnf
    have hw2:IntKind.i64.wrap (l[i].tmod most+most)=l[i].tmod most+most:=bE ⟨by omega,by omega⟩;rw[hw2];exact fin _ _ (by omega) (.inr (by omega))
   ·have h3:0<=l[i].tmod most:=by simpa using h3
    conv=>whnf
    exact fin _ _ h3 (.inr hr.2)
end Go.Proofs.YtidjhgajglebnaaGreatDoor
namespace Go.Proofs.YtidjhgajglebnaaGreatDoor
open Go Go.Ax Go.Proofs Tryz
set_option maxRecDepth 100000
set_option maxHeartbeats 16000000
abbrev Key:=Nat × Option aT
def Cp:Option aT->List UInt8
 | none=>[]
 | some v=>fJ v
def sN(k:Key):AV:=.agg [.int .i64 k.1,.str (Cp k.2)]
theorem Nt(k:Key):NN (sN k):=.agg' (.cons nn (.cons nn .nil))
def f7(k:Key):Prop:=match k.2 with
 | none=>True
 | some v=>g5 v/\bS v=0
def Qc(a b:Key):Bool:=decide (b.1=a.1) && (Cp a.2 == Cp b.2)
def uM(L:List Key)(k:Key):Bool:=L.any (Qc k)
theorem LP{a b:Key}(ha:f7 a)(hb:f7 b)(h:Cp a.2=Cp b.2):a.2=b.2:=by
 obtain⟨i,o⟩:=a;obtain⟨j,p⟩:=b;have hne:∀v:aT,fJ v≠[]:=fun v e=>by
  obtain⟨k,n,s,ks⟩:=v;rw[fJ] at e;have h1:=(List.append_eq_nil_iff.1 e).1;unfold fM kV at h1;split at h1<;>simp at h1
 cases o with
 | none=>
  cases p with
  | none=>rfl
  | some v=>exact absurd h.symm (hne v)
 | some u=>
  cases p with
  | none=>exact absurd h (hne u)
  | some v=>exact congrArg some (MA ha.1 hb.1 ha.2 hb.2 h)
theorem OH{a b:Key}(ha:f7 a)(hb:f7 b):Qc a b=true↔a=b:=by
 unfold Qc;rw[Tz,UJ,beq_iff_eq];constructor
 ·rintro⟨h1,h2⟩;exact Prod.ext h1.symm (LP ha hb h2)
 ·rintro rfl;exact⟨rfl,rfl⟩
theorem MT:Tryz.prog.stoodInHeld 152=false:=by kernel_rfl
theorem L9(a b:Key):yX prog 152 (sN a) (sN b)=some (Qc a b):=by
 obtain⟨i,o⟩:=a;obtain⟨j,p⟩:=b;have e:EW prog 152 [.int .i64 i,.str (Cp o)] [.int .i64 j,.str (Cp p)]=some (Qc (i,o) (j,p)):=by
  unfold EW;rw[MT];unfold Qc;simp only;generalize Cp o=x;generalize Cp p=y
  conv=>lhs;whnf
  rw[Option.some.injEq,Ue];simp;omega
 exact e
section
variable {T:Type} (fd:Option T->AV) (g:Aj T) (A:List Nd)
def GF(k:Key):Option T:=match k.2 with
 | none=>(bP g).all A k.1
 | some v=>(bP g).of A k.1 v
def oY(L:List Key):List (AV × AV):=L.map fun k=>(sN k,fd (GF g A k))
theorem Gb(L:List Key)(k:Key):oY fd g A (L++[k])=oY fd g A L++[(sN k,fd (GF g A k))]:=by simp[oY]
variable {fd g A}
theorem xJ{k:Key}:∀(L:List Key) (i:Nat),uM L k=false->iF prog 152 (sN k) (oY fd g A L) i=some none
 | [],i,_=>rfl
 | q::r,i,h=>by
  simp only[uM,List.any_cons,Vk] at h;simp only[oY,Uj,iF,L9,h.1];exact xJ r (i+1) h.2
theorem tP{k:Key}(hk:f7 k):∀(L:List Key) (i:Nat),(∀q∈L,f7 q)->uM L k=true->∃j,iF prog 152 (sN k) (oY fd g A L) i=some (some (i+j,fd (GF g A k)))/\(oY fd g A L)[j]? = some (sN k,fd (GF g A k))
 | [],i,_,h=>by simp[uM] at h
 | q::r,i,hL,h=>by
  simp only[uM,List.any_cons] at h;simp only[oY,Uj,iF,L9];cases hd:Qc k q with
  | true=>
   have:=(OH hk (hL q (UN ..))).1 hd;subst this;exact⟨0,rfl,rfl⟩
  | false=>
   rw[hd,WV] at h;obtain⟨j,h1,h2⟩:=tP hk r (i+1) (fun q hq=>hL q (UF _ hq)) h;exact⟨j+1,by simp only;rw[show i+(j+1)=i+1+j by omega];exact h1,h2⟩
theorem HN{α:Type}{l:List α}{j:Nat}{a:α}(h:l[j]? = some a):l.set j a=l:=by
 refine Wg fun i=>?_
 by_cases e:j=i
 ·subst e;have hl:=(T0.1 h).1;rw[Uu hl,h]
 ·rw[WP e]
theorem CF(k:Key):z7 (sN k) (sN k)=true:=by
 unfold sN;generalize Cp k.2=x;simp[z7,wI,F8]
end
end Go.Proofs.YtidjhgajglebnaaGreatDoor
namespace Go.Ax
open Go
structure Tk(t c:TS):Prop where
 hit:t.hit=c.hit
 miss:t.miss=c.miss
 up:t.upper=c.upper
 lo:t.lower=c.lower
end Go.Ax
namespace Go.Ax
open Go
theorem vO(d:Nat):∀l:List Nat,eG (l++[d])=if d=0 then eG l else l++[d]
 | []=>by
  simp only[Um,eG];by_cases h:d=0<;>simp[h]
 | a::r=>by
  rw[Uv,eG,vO d r,eG];by_cases h:d=0
  ·simp[h]
  ·simp[h]
def sg(neg:Bool)(n:Nat):Int:=if neg then -(n:Int) else n
theorem Cw(neg:Bool)(n:Nat):(sg neg n).natAbs=n:=by unfold sg;split<;>simp
theorem M9(neg:Bool)(n:Nat):decide (sg neg n<0)=(neg && decide (0<n)):=by
 cases neg<;>simp[sg]
theorem De(z:Int):sg (decide (z<0)) z.natAbs=z:=by
 unfold sg;split
 ·rename_i h;have:=Un h;omega
 ·rename_i h;have:¬z<0:=fun x=>h (UD x);omega
theorem kF{B n:Nat}(hB:2<=B):decide (0<(dg B n).length)=decide (0<n):=by
 rw[Va];constructor
 ·intro h;rcases UK n with rfl|h2
  ·rw[gC] at h;simp at h
  ·exact h2
 ·intro h;rw[oS hB h];simp
end Go.Ax
namespace Go.Ax
open Go
def HM(σ:List (Nat × Nat))(ns nx n':Nat):List (Nat × Nat)->Bool
 | []=>true
 | (i,id)::r=>(match Nat.blt i ns with
   | true=>match lk σ id with
    | some j=>Nat.beq j i
    | none=>false
   | false=>Nat.ble nx id && Nat.blt id n') && HM σ ns nx n' r
def CD(ids:List Nat)(nx:Nat):aN->Bool
 | []=>true
 | (k,_)::r=>(match Nat.ble nx k with
   | true=>true
   | false=>Aa k ids) && CD ids nx r
theorem AX{σ:List (Nat × Nat)}{ns nx n':Nat}:∀{τ:List (Nat × Nat)},HM σ ns nx n' τ=true->∀p∈τ,(p.1<ns/\lk σ p.2=some p.1)∨(ns<=p.1/\nx<=p.2/\p.2<n')
 | [],_,p,hp=>by cases hp
 | (i,id)::r,h,p,hp=>by
  simp only[HM,Tz] at h;rcases T6.1 hp with rfl|hp
  ·have h1:=h.1;split at h1
   ·rename_i hb;split at h1
    ·rename_i j hj;exact .inl ⟨T3 hb,by rw[hj,T2 h1]⟩
    ·cases h1
   ·rename_i hb;simp only[Tz] at h1;refine .inr ⟨?_,T3 h1.1,T3 h1.2⟩;rcases UG i ns with hl|hl
    ·have e:Nat.blt i ns=true:=T8 hl;rw[e] at hb;cases hb
    ·exact hl
  ·exact AX h.2 p hp
theorem yP:∀{m:aN} {ids:List Nat} {nx:Nat},CD ids nx m=true->∀p∈m,nx<=p.1∨Aa p.1 ids=true
 | [],ids,nx,_,p,hp=>by cases hp
 | (k,b)::r,ids,nx,h,p,hp=>by
  simp only[CD,Tz] at h;rcases T6.1 hp with rfl|hp
  ·have h1:=h.1;split at h1
   ·rename_i hb;exact .inl (T3 hb)
   ·exact .inr h1
  ·exact yP h.2 p hp
theorem aE.useN{P:Program}{Γ:List (Nat × AV)}{F:FuncId}{args args':List AV}{ms mem m1:aN}{ns nx:Nat}{Qs K:AV->aN->Nat->Prop}(hΓ:∀p∈Γ,NN p.2)(σ:List (Nat × Nat))(h:aE P Γ F args' ms ns Qs)
  (hp:kU (rA σ) mem=m1) (hargs:jJ m1 σ args args') (hM:dE m1 σ ms) (hc:(rF ms && (rG σ && Bt ns σ))=true)
  (hk:∀r m n,Qs r m n->∃τ r' m' n',Cv m τ r r'/\dE m τ m'/\(rF m' && (rG τ && (Nat.ble nx n' && (CD (rA σ) nx m' && HM σ ns nx n' τ))))=true/\K r' (m'++iZ (rA σ) mem) n'):aE P Γ F args mem nx K:=by
 simp only[Tz] at hc;obtain⟨hc1,hc2,hc4⟩:=hc;refine⟨fun X D ρ w vs hD hm hv=>?_⟩;refine(aE.use (K:=K) (nx:=nx) hΓ h σ (m1:=m1) (rest:=iZ (rA σ) mem) ⟨fun p hp'=>?_,fun p hp'=>(dF.1 hp').1,fun p hp'=>?_,fun p h1 q h2=>?_, ?_⟩ ?_ hargs hM.cvm (fE hc1) (n9 hc2) (fun id i hl=>mW hc4 _ (bK hl)) ?_).run X D ρ w vs hD hm hv
 ·rw[←hp] at hp';exact(eF.1 hp').1
 ·cases hi:Aa p.1 (rA σ) with
  | true=>left;rw[←hp];exact eF.2 ⟨hp',hi⟩
  | false=>right;exact dF.2 ⟨hp',hi⟩
 ·rw[←hp] at h1;have a:=(eF.1 h1).2;have b:=(dF.1 h2).2;intro e;rw[e,b] at a;cases a
 ·rw[←hp];exact hm.nod.sublist ((nF mem).map _)
 ·exact hm.nod.sublist ((nH mem).map _)
 ·intro r m n hq hn;obtain⟨τ,r',m',n',h1,h2,h3,h4⟩:=hk r m n hq;simp only[Tz] at h3;refine⟨τ,r',m',n',T3 h3.2.2.1,h1,h2.cvm,fE h3.1,n9 h3.2.1,fun i id hl=>AX h3.2.2.2.2 _ (bK hl),fun p h5 q h6=>?_,h4⟩;have b:=(dF.1 h6).2;rcases yP h3.2.2.2.1 p h5 with a|a
  ·have:=hD _ (hm.low q (dF.1 h6).1);omega
  ·intro e;rw[e,b] at a;cases a
theorem aE.ph{P:Program}{Γ:List (Nat × AV)}{F:FuncId}{args:List AV}{mem:aN}{nx:Nat}{K:AV->aN->Nat->Prop}(t:TypeId)(sz:Nat)(h:aE P Γ F args ((nx,.row t sz [])::mem) (nx+1) K):aE P Γ F args mem nx K:=by
 refine⟨fun X D ρ w vs hD hm hv=>?_⟩;obtain⟨m1,v1,e1⟩:=hm.phantom (n:=nx) (D':=dn D nx (nx+1)) (fun h'=>WA _ (hD _ h')) (fun i hi=>.inl hi) (.inr ⟨UC _,VH _⟩) t sz;refine(h.run X _ _ w vs (fun i hi=>?_) m1 ⟨hv.1,fun j c x hc hx=>v1 _ _ (hv.2 j c x hc hx)⟩).mono ?_
 ·rcases hi with hi|hi
  ·have:=hD i hi;omega
  ·exact hi.2
 ·rintro e w' ⟨r,v,m,n,ρ',rfl,hk,hn,hm',hr,ext⟩;have ed:dn (dn D nx (nx+1)) (nx+1) n=dn D nx n:=by
   funext i
   apply propext;constructor
   ·rintro((hi|⟨h1,h2⟩)|⟨h1,h2⟩)
    ·exact .inl hi
    ·exact .inr ⟨h1,by omega⟩
    ·exact .inr ⟨by omega,h2⟩
   ·rintro(hi|⟨h1,h2⟩)
    ·exact .inl (.inl hi)
    ·rcases UG i (nx+1) with h3|h3
     ·exact .inl (.inr ⟨h1,h3⟩)
     ·exact .inr ⟨h3,h2⟩
  rw[ed] at hm' hr ext;refine⟨r,v,m,n,ρ',rfl,hk,by omega,hm',hr, ?_⟩;have e2:=e1 D fun i hi=>hi
  exact e2.trans ⟨fun i hi=>ext.le i (.inl hi),fun i hi=>ext.agree i (.inl hi),ext.size,ext.keep,ext.fresh,ext.env⟩
end Go.Ax
namespace Go.Ax
open Go
section
variable {P:Program} {Γ:List (Nat × AV)} {B:Nat}
theorem NR{b:Bool}{c1 c2:Code}{s1 s2:St}{i:Nat}{y:Code}{Q:Exit->St->Prop}{α:Type}(hΓ:∀p∈Γ,NN p.2)(R:α->Prop)(J:α->St)
  (h1:∀Qr:Exit->St->Prop,(∀(a:α) (s:St) (σ:List (Nat × Nat)),R a->Conv B σ s (J a)->Qr .normal s)->NW b (eD P Γ B c1 s1 (Bv i Qr)) (eD P Γ B c2 s2 (Bv i Qr)))
  (h2:∀a,R a->eD P Γ B y (J a) Q):NW b (eD P Γ B c1 s1 (Bv i (Ku P Γ B y Q))) (eD P Γ B c2 s2 (Bv i (Ku P Γ B y Q))):=by
 have h:=h1 (fun e s=>match e with
  | .normal=>∃a σ,R a/\Conv B σ s (J a)
  | e=>Q e s) (fun a s σ hr hc=>⟨a,σ,hr,hc⟩)
 have key:∀(e:Exit) (s:St),Bv i (fun e s=>match e with
  | .normal=>∃a σ,R a/\Conv B σ s (J a)
  | e=>Q e s) e s->Bv i (Ku P Γ B y Q) e s:=by
  intro e s hq;have norm:(∃a σ,R a/\Conv B σ s (J a))->eD P Γ B y s Q:=fun⟨a,σ,hr,hc⟩=>eD.conv hΓ hc (h2 a hr)
  cases e with
  | normal=>exact norm hq
  | exit j=>
   simp only[Bv] at hq ⊢;split at hq
   ·exact norm hq
   ·exact hq
  | goto l=>exact hq
  | ret=>exact hq
  | panic c=>exact hq
  | outgrown=>exact hq
 cases b with
 | true=>exact eD.mono (show eD P Γ B c1 s1 _ from h) key
 | false=>exact eD.mono (show eD P Γ B c2 s2 _ from h) key
end
end Go.Ax
