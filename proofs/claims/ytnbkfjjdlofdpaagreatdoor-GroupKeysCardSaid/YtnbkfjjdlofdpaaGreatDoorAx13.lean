/- A part of the proof. -/
import Derived.Test.YtnbkfjjdlofdpaaGreatDoorAx12
set_option linter.unusedVariables false
set_option linter.unusedSimpArgs false
set_option linter.unusedSectionVars false
namespace Go.Proofs.YtnbkfjjdlofdpaaGreatDoor
open Go Go.Ax Go.Proofs Tryz
set_option maxRecDepth 100000
set_option maxHeartbeats 16000000
def gR(i:Nat)(g:Gr):AB:=.row 33 5 [.agg [.il 1 (aY g.min),.int .i64 g.oc.kind,.int .i64 g.oc.at_,.int .i64 g.oc.code,.sl i 0 g.fs.length]]
def eP(g:Gr):AB:=.row 57 4 (aX g.fs)
def rS(S:Nat->Bool):List Gr->Nat->aA
 | [],_=>[]
 | g::r,i=>match S i with
  | true=>(100+2*i,gR (101+2*i) g)::(101+2*i,eP g)::rS S r (i+1)
  | false=>rS S r (i+1)
theorem qD{S:Nat->Bool}:∀{M:List Gr} {i:Nat} {p:Nat × AB},p∈rS S M i->∃j g,M[j]? = some g/\S (i+j)=true/\(p=(100+2*(i+j),gR (101+2*(i+j)) g)∨p=(101+2*(i+j),eP g))
 | [],i,p,h=>by cases h
 | g::r,i,p,h=>by
  unfold rS at h;have rec_:p∈rS S r (i+1)->∃j g',(g::r)[j]? = some g'/\S (i+j)=true/\(p=(100+2*(i+j),gR (101+2*(i+j)) g')∨p=(101+2*(i+j),eP g')):=fun h=>by
   obtain⟨j,g',h1,h2,h3⟩:=qD h;refine⟨j+1,g',h1, ?_, ?_⟩
   ·rw[show i+(j+1)=i+1+j by omega];exact h2
   ·rw[show i+(j+1)=i+1+j by omega];exact h3
  split at h
  ·rename_i hS;rcases JA.1 h with rfl|h
   ·exact⟨0,g,rfl,hS,.inl rfl⟩
   ·rcases JA.1 h with rfl|h
    ·exact⟨0,g,rfl,hS,.inr rfl⟩
    ·exact rec_ h
  ·exact rec_ h
theorem oO{S:Nat->Bool}{M:List Gr}{p:Nat × AB}(h:p∈rS S M 0):100<=p.1/\p.1<102+2*M.length:=by
 obtain⟨j,g,h1,_,rfl|rfl⟩:=qD h
 ·have:=(JC.1 h1).1;simp only;omega
 ·have:=(JC.1 h1).1;simp only;omega
theorem qQ{S:Nat->Bool}:∀(M:List Gr) (i:Nat),((rS S M i).map (·.1)).Nodup
 | [],i=>by simp[rS]
 | g::r,i=>by
  have ih:=qQ (S:=S) r (i+1);have hlt:∀x∈(rS S r (i+1)).map (·.1),102+2*i<=x:=fun x hx=>by
   obtain⟨p,hp,rfl⟩:=JM.1 hx;obtain⟨j,g',_,_,rfl|rfl⟩:=qD hp<;>simp only<;>omega
  unfold rS;split
  ·simp only[Jg,JU,JA,not_or];refine⟨⟨om,fun h=>?_⟩,fun h=>?_,ih⟩
   ·have:=hlt _ h;omega
   ·have:=hlt _ h;omega
  ·exact ih
theorem oT{S:Nat->Bool}:∀{M:List Gr} {i j:Nat} {g:Gr},M[j]? = some g->S (i+j)=true->lk (rS S M i) (100+2*(i+j))=some (gR (101+2*(i+j)) g)/\lk (rS S M i) (101+2*(i+j))=some (eP g)
 | [],i,j,g,h,_=>by simp at h
 | x::r,i,0,g,h,hS=>by
  simp at h;subst h;unfold rS;rw[KB] at hS;rw[hS];simp only[KB,lk];rw[aL (show 100+2*i≠101+2*i by omega)];simp
 | x::r,i,j+1,g,h,hS=>by
  have hS':S (i+1+j)=true:=by rw[show i+1+j=i+(j+1) by omega];exact hS
  obtain⟨h1,h2⟩:=oT (M:=r) (i:=i+1) (j:=j) (by simpa using h) hS';rw[show i+1+j=i+(j+1) by omega] at h1 h2;unfold rS;split
  ·simp only[lk];rw[aL (show 100+2*i≠100+2*(i+(j+1)) by omega),aL (show 101+2*i≠100+2*(i+(j+1)) by omega),aL (show 100+2*i≠101+2*(i+(j+1)) by omega),aL (show 101+2*i≠101+2*(i+(j+1)) by omega)];exact⟨h1,h2⟩
  ·exact⟨h1,h2⟩
theorem sH{mem:aA}{σ:List (Nat × Nat)}{S:Nat->Bool}{M:List Gr}(h:∀j g,M[j]? = some g->S j=true->∃a b,lk mem a=some (gR b g)/\lk mem b=some (eP g)/\lk σ a=some (100+2*j)/\lk σ b=some (101+2*j)):tH mem σ (rS S M 0):=fun p hp=>by
 obtain⟨j,g,h1,h2,h3⟩:=qD hp;rw[Jd] at h2 h3;obtain⟨a,b,k1,k2,k3,k4⟩:=h j g h1 h2;rcases h3 with rfl|rfl
 ·exact .inl ⟨a,_,_,_,_,rfl,k3,k1,.cons (.agg (.cons (.same _ (.il' (aU _))) (.s (.s (.s (.cons (.sl b _ 0 _ k4) .nil)))))) .nil⟩
 ·exact .inl ⟨b,_,_,_,_,rfl,k4,k2,.same (aZ _)⟩
def cM(f:Nat->AV):List Gr->Nat->List (AV × AV)
 | [],_=>[]
 | g::r,i=>(.str (dA (aI g)),f i)::cM f r (i+1)
theorem iP(f:Nat->AV):∀(M:List Gr) (i:Nat),(cM f M i).length=M.length
 | [],i=>rfl
 | g::r,i=>by simp[cM,iP f r]
theorem jW(f:Nat->AV):∀(M:List Gr) (i j:Nat),(cM f M i)[j]? = (M[j]?).map fun g=>(AV.str (dA (aI g)),f (i+j))
 | [],i,j=>by simp[cM]
 | g::r,i,0=>by simp[cM]
 | g::r,i,j+1=>by
  simp only[cM,List.getElem?_cons_succ];rw[jW f r (i+1) j,show i+1+j=i+(j+1) by omega]
theorem tY(f:Nat->AV):∀(M:List Gr) (g:Gr) (i:Nat),cM f (M++[g]) i=cM f M i++[(.str (dA (aI g)),f (i+M.length))]
 | [],g,i=>by simp[cM]
 | x::r,g,i=>by
  simp only[KO,cM];rw[tY f r g (i+1),KH,show i+1+r.length=i+(r.length+1) by omega]
theorem wX{mem:aA}{σ:List (Nat × Nat)}{f f':Nat->AV}{M M':List Gr}(hk:M.map aI=M'.map aI)(h:∀j,j<M.length->Cv mem σ (f j) (f' j)):IE mem σ (cM f M 0) (cM f' M' 0):=by
 have hl:M.length=M'.length:=by simpa using congrArg List.length hk
 refine⟨by rw[iP,iP,hl],fun j e e' h1 h2=>?_⟩;rw[jW] at h1 h2;have hj:j<M.length:=by
  rcases JK j M.length with h'|h'
  ·exact h'
  ·rw[JH h'] at h1;cases h1
 rw[I9 hj] at h1;rw[I9 (show j<M'.length by omega)] at h2;cases h1;cases h2;have hkj:aI M[j]=aI M'[j]:=by
  have:=congrArg (fun l=>l[j]?) hk;simpa[hj,show j<M'.length by omega] using this
 rw[Jd];exact⟨.eq (.str _) (by show AV.str (dA (aI M[j])) = .str (dA (aI M'[j]));rw[hkj]),h j hj⟩
theorem zP(a b:List UInt8):oG prog 9 (.str a) (.str b)=some (a == b):=rfl
theorem wU{f:Nat->AV}{k:List UInt8}:∀{M:List Gr} {i n:Nat},(∀g∈M,dA (aI g)≠k)->eD prog 9 (.str k) (cM f M i) n=some none
 | [],i,n,_=>rfl
 | g::r,i,n,h=>by
  simp only[cM,eD,zP];rw[show (k == dA (aI g))=false by simpa using Ne.symm (h g (.head _))];exact wU fun x hx=>h x (.tail _ hx)
theorem BV{f:Nat->AV}{k:List UInt8}:∀{M:List Gr} {i n j:Nat} {g:Gr},M[j]? = some g->dA (aI g)=k->(∀(j':Nat) (x:Gr),j'<j->M[j']? = some x->dA (aI x)≠k)->eD prog 9 (.str k) (cM f M i) n=some (some (n+j,f (i+j)))
 | [],i,n,j,g,h,_,_=>by simp at h
 | x::r,i,n,0,g,h,hk,_=>by
  simp at h;subst h;simp only[cM,eD,zP];rw[show (k == dA (aI x))=true by simpa using hk.symm];rfl
 | x::r,i,n,j+1,g,h,hk,hn=>by
  simp only[cM,eD,zP];rw[show (k == dA (aI x))=false by simpa using Ne.symm (hn 0 x om rfl)];have:=BV (f:=f) (M:=r) (i:=i+1) (n:=n+1) (j:=j) (by simpa using h) hk fun j' y hj' hy=>hn (j'+1) y om (by simpa using hy)
  rw[this,show n+1+j=n+(j+1) by omega,show i+1+j=i+(j+1) by omega]
def pG(i:Nat):AV:=.ptr (100+2*i) 0 0
theorem Ep{mem:aA}{id:Nat}{f:Nat->AV}{M:List Gr}{k:List UInt8}(hm:lk mem id=some (.mapb (cM f M 0)))(h:∀g∈M,dA (aI g)≠k) :
  Go.Ax.f0 prog mem 54 (.mp id) (.str k) true=some (.tup [.nptr,.bool false]):=by
 have u:Tryz.prog.underlying 54=some (.map 9 55):=rfl;have ak:wN prog 9 (.str k)=true:=rfl;have z:eV prog 55=some .nptr:=rfl;unfold Go.Ax.f0;simp only[u,ak,hm,z,wU h]
theorem FO{mem:aA}{id:Nat}{f:Nat->AV}{M:List Gr}{k:List UInt8}{j:Nat}{g:Gr}(hm:lk mem id=some (.mapb (cM f M 0)))(h:M[j]? = some g)(hk:dA (aI g)=k)(hn:∀(j':Nat) (x:Gr),j'<j->M[j']? = some x->dA (aI x)≠k) :
  Go.Ax.f0 prog mem 54 (.mp id) (.str k) true=some (.tup [f j,.bool true]):=by
 have u:Tryz.prog.underlying 54=some (.map 9 55):=rfl;have ak:wN prog 9 (.str k)=true:=rfl;have e:=BV (f:=f) (i:=0) (n:=0) h hk hn;have e':(0+j,f (0+j))=(j,f j):=by rw[Jd]
 rw[e'] at e;unfold Go.Ax.f0;simp only[u,ak,hm,e]
set_option maxHeartbeats 16000000
def iL(M:List Gr):aA:=(1,.mapb (cM pG M 0))::rS (fun _=>true) M 0
def g8(Ls:List (List Gr)):List AV:=Ls.map fun G=>.il 5 (a8 G)
theorem zA(Ls:List (List Gr)):hE (g8 Ls):=fun a ha=>by
 obtain⟨G,_,rfl⟩:=JM.1 ha;exact .il' (bI G)
theorem CD(Ls:List (List Gr)):(g8 Ls).length=Ls.length:=by simp[g8]
theorem DV{l:List (List Gr)}{k:Nat}(h:k<l.length):(g8 l)[((k:Nat):Int).toNat]? = some (.il 5 (a8 l[k])):=by
 simp[g8,I9 h]
theorem yX{M:List Gr}:((iL M).map (·.1)).Nodup:=by
 simp only[iL,Jg,JU];refine⟨fun h=>?_,qQ M 0⟩;obtain⟨p,hp,e⟩:=JM.1 h;have:=(oO hp).1;omega
theorem Az{mem:aA}{σ:List (Nat × Nat)}{M M0:List Gr}{f:Nat->AV}{m:Nat}(hk:M0.map aI=M.map aI)(h1:lk mem m=some (.mapb (cM f M0 0)))(h2:lk σ m=some 1)(h3:∀j,j<M0.length->Cv mem σ (f j) (pG j))
  (h:∀j g,M[j]? = some g->∃a b,lk mem a=some (gR b g)/\lk mem b=some (eP g)/\lk σ a=some (100+2*j)/\lk σ b=some (101+2*j)):tH mem σ (iL M):=fun p hp=>by
 rcases JA.1 hp with rfl|hp
 ·exact .inr (.inl ⟨m,_,_,rfl,h2,h1,wX hk h3⟩)
 ·exact sH (fun j g hj _=>h j g hj) p hp
theorem vF{M:List Gr}{j:Nat}{g:Gr}(h:M[j]? = some g):lk (iL M) (100+2*j)=some (gR (101+2*j) g)/\lk (iL M) (101+2*j)=some (eP g):=by
 have:=oT (S:=fun _=>true) (i:=0) h rfl;rw[Jd] at this;unfold iL;simp only[lk];rw[aL (show 1≠100+2*j by omega),aL (show 1≠101+2*j by omega)];exact this
theorem yR{sl sl':List (Nat × AV)}{M:List Gr}{nx nt:Nat}(hM:M.length<=1000)(hs:dS (iL M) (jP some 3000) sl sl'):Conv 0 (jP some 3000) ⟨sl,iL M,nx,nt⟩ ⟨sl',iL M,3000,nt⟩:=
 sF some 3000 (Az (m:=1) rfl rfl (bG om rfl) (fun j hj=>.ptr _ _ 0 0 (bG om rfl)) fun j g hj=>by
  have hlt:=(JC.1 hj).1;exact⟨_,_,(vF hj).1,(vF hj).2,bG om rfl,bG om rfl⟩) hs yX (fun i j k _ _ h1 h2=>by rw[Option.some.inj h1,Option.some.inj h2]) (fun i k h1 h2=>by cases h2;omega) om
theorem cJ.joinM{P:Program}{Γ:List (Nat × AV)}{B:Nat}{α:Type}{rest:Code}{Q:Exit->St->Prop}{G:Prop}(hΓ:∀p∈Γ,NN p.2)(R:α->Prop)(J:α->St)
  (h1:(∀(a:α) (s:St) (σ:List (Nat × Nat)),R a->Conv B σ s (J a)->cJ P Γ B rest s Q)->G) (h2:∀a,R a->cJ P Γ B rest (J a) Q):G:=h1 fun a s σ hr hc=>cJ.conv hΓ hc (h2 a hr)
def pF(j i:Nat):AV:=if i=j then .ptr 2 0 0 else pG i
def jT(j:Nat)(M:List Gr):aA:=(1,.mapb (cM (pF j) M 0))::rS (fun i=>i != j) M 0
def Dw(j:Nat)(M:List Gr)(x g:Gr):aA:=[(2,gR 3 x),(3,eP x),(4,.row 33 5 [eJ g])]++jT j M
theorem xD{j:Nat}{M:List Gr}:∀p∈jT j M,p.1=1∨(100<=p.1/\p.1<102+2*M.length):=fun p hp=>by
 rcases JA.1 hp with rfl|hp
 ·exact .inl rfl
 ·exact .inr (oO hp)
theorem Bt{j:Nat}{M:List Gr}:((jT j M).map (·.1)).Nodup:=by
 simp only[jT,Jg,JU];refine⟨fun h=>?_,qQ M 0⟩;obtain⟨p,hp,e⟩:=JM.1 h;have:=(oO hp).1;omega
theorem xL{j:Nat}{M:List Gr}{x g:Gr}:((Dw j M x g).map (·.1)).Nodup:=by
 unfold Dw;rw[Jq];refine J2.2 ⟨by simp,Bt,fun a ha b hb=>?_⟩;obtain⟨p,hp,rfl⟩:=JM.1 hb;simp at ha;have:=xD p hp;omega
theorem xS{mem:aA}{σ:List (Nat × Nat)}{M M0:List Gr}{f:Nat->AV}{m j:Nat}(hk:M0.map aI=M.map aI)(h1:lk mem m=some (.mapb (cM f M0 0)))(h2:lk σ m=some 1)(h3:∀i,i<M0.length->Cv mem σ (f i) (pF j i))
  (h:∀i g,M[i]? = some g->i≠j->∃a b,lk mem a=some (gR b g)/\lk mem b=some (eP g)/\lk σ a=some (100+2*i)/\lk σ b=some (101+2*i)):tH mem σ (jT j M):=fun p hp=>by
 rcases JA.1 hp with rfl|hp
 ·exact .inr (.inl ⟨m,_,_,rfl,h2,h1,wX hk h3⟩)
 ·exact sH (fun i g hi hS=>h i g hi (by simpa using hS)) p hp
theorem BF{mem:aA}{σ:List (Nat × Nat)}{x x0:Gr}{rest:aA}{a b c:Nat}{u v:AV}(hr:tH mem σ rest)(h1:lk mem a=some (.row 33 5 [.agg [u,.int .i64 x.oc.kind,.int .i64 x.oc.at_,.int .i64 x.oc.code,v]]))(hu:Cv mem σ u (.il 1 (aY x.min)))(hv:Cv mem σ v (.sl 3 0 x.fs.length))
  (h2:lk mem b=some (eP x)) (h3:lk mem c=some (.row 33 5 [eJ x0])) (k1:lk σ a=some 2) (k2:lk σ b=some 3) (k3:lk σ c=some 4):tH mem σ ([(2,gR 3 x),(3,eP x),(4,.row 33 5 [eJ x0])]++rest):=
 tH.app (fun p hp=>by
  simp only[JA,KA,or_false] at hp;rcases hp with rfl|rfl|rfl
  ·exact .inl ⟨a,_,_,_,_,rfl,k1,h1,.cons (.agg (.cons hu (.s (.s (.s (.cons hv .nil)))))) .nil⟩
  ·exact .inl ⟨b,_,_,_,_,rfl,k2,h2,.same (aZ _)⟩
  ·exact .inl ⟨c,_,_,_,_,rfl,k3,h3,.same (.cons (eI _) .nil)⟩) hr
def fF(j i:Nat):Option Nat:=if i=100+2*j then some 2 else if i=101+2*j then some 3 else if i=3000 then some 4 else if i=1 then some 1 else if 100<=i/\i<3000 then some i else none
theorem sY{j a c:Nat}(h:fF j a=some c):(a=100+2*j/\c=2)∨(a=101+2*j/\c=3)∨(a=3000/\c=4)∨(a=1/\c=1)∨(100<=a/\a<3000/\a≠100+2*j/\a≠101+2*j/\c=a):=by
 unfold fF at h;by_cases h1:a=100+2*j
 ·rw[JL h1] at h;cases h;exact .inl ⟨h1,rfl⟩
 ·rw[JJ h1] at h;by_cases h2:a=101+2*j
  ·rw[JL h2] at h;cases h;exact .inr (.inl ⟨h2,rfl⟩)
  ·rw[JJ h2] at h;by_cases h3:a=3000
   ·rw[JL h3] at h;cases h;exact .inr (.inr (.inl ⟨h3,rfl⟩))
   ·rw[JJ h3] at h;by_cases h4:a=1
    ·rw[JL h4] at h;cases h;exact .inr (.inr (.inr (.inl ⟨h4,rfl⟩)))
    ·rw[JJ h4] at h;by_cases h5:100<=a/\a<3000
     ·rw[JL h5] at h;cases h;exact .inr (.inr (.inr (.inr ⟨h5.1,h5.2,h1,h2,rfl⟩)))
     ·rw[JJ h5] at h;cases h
theorem Ht(j:Nat):fF j 1=some 1:=by unfold fF;rw[JJ om,JJ om,JJ om,JL rfl]
theorem HR{j:Nat}(h:j<=1000):fF j 3000=some 4:=by unfold fF;rw[JJ om,JJ om,JL rfl]
theorem Hd(j:Nat):fF j (100+2*j)=some 2:=by unfold fF;rw[JL rfl]
theorem Cm{sl sl':List (Nat × AV)}{M:List Gr}{x g:Gr}{j nx nt:Nat}(hM:M.length<=1000)(hj:M[j]? = some x)(hs:dS ((3000,.row 33 5 [eJ g])::iL M) (jP (fF j) 3001) sl sl') :
  Conv 0 (jP (fF j) 3001) ⟨sl,(3000,.row 33 5 [eJ g])::iL M,nx,nt⟩ ⟨sl',Dw j M x g,3000,nt⟩:=by
 have hjl:=(JC.1 hj).1;have hlk:∀i y,M[i]? = some y->lk ((3000,.row 33 5 [eJ g])::iL M) (100+2*i)=some (gR (101+2*i) y)/\lk ((3000,.row 33 5 [eJ g])::iL M) (101+2*i)=some (eP y):=fun i y hi=>by
  have hil:=(JC.1 hi).1;simp only[lk];rw[aL (show 3000≠100+2*i by omega),aL (show 3000≠101+2*i by omega)];exact vF hi
 have f1:∀i,i<M.length->i≠j->fF j (100+2*i)=some (100+2*i)/\fF j (101+2*i)=some (101+2*i):=fun i hi hne=>by
  unfold fF;constructor
  ·rw[JJ om,JJ om,JJ om,JJ om,JL om]
  ·rw[JJ om,JJ om,JJ om,JJ om,JL om]
 have f2:=Hd j;have f3:fF j (101+2*j)=some 3:=by unfold fF;rw[JJ om,JL rfl]
 have f4:=HR (j:=j) om;have f5:=Ht j;refine sF (fF j) 3001 (BF (a:=100+2*j) (b:=101+2*j) (c:=3000) (xS (m:=1) rfl rfl (bG om f5) (fun i hi=>?_) fun i y hi hne=>?_) (hlk j x hj).1 (.same _ (.il' (aU _))) (.sl _ 3 0 _ (bG om f3)) (hlk j x hj).2 rfl (bG om f2) (bG om f3) (bG om f4)) hs xL ?_ ?_ om
 ·unfold pF;by_cases e:i=j
  ·subst e;rw[JL rfl];exact .ptr _ 2 0 0 (bG om f2)
  ·rw[JJ e];exact .ptr _ _ 0 0 (bG om (f1 i hi e).1)
 ·have hil:=(JC.1 hi).1;exact⟨_,_,(hlk i y hi).1,(hlk i y hi).2,bG om (f1 i hil hne).1,bG om (f1 i hil hne).2⟩
 ·intro a b c ha hb h1 h2;have h1:=sY h1;have h2:=sY h2;omega
 ·intro a b ha h1;have h1:=sY h1;omega
def fN(i:Nat):Option Nat:=if i=3008 then some 2 else if i=3011 then some 3 else if i=3000 then some 4 else if i=1 then some 1 else if 100<=i/\i<3000 then some i else none
theorem rO{a c:Nat}(h:fN a=some c):(a=3008/\c=2)∨(a=3011/\c=3)∨(a=3000/\c=4)∨(a=1/\c=1)∨(100<=a/\a<3000/\c=a):=by
 unfold fN at h;by_cases h1:a=3008
 ·rw[JL h1] at h;cases h;exact .inl ⟨h1,rfl⟩
 ·rw[JJ h1] at h;by_cases h2:a=3011
  ·rw[JL h2] at h;cases h;exact .inr (.inl ⟨h2,rfl⟩)
  ·rw[JJ h2] at h;by_cases h3:a=3000
   ·rw[JL h3] at h;cases h;exact .inr (.inr (.inl ⟨h3,rfl⟩))
   ·rw[JJ h3] at h;by_cases h4:a=1
    ·rw[JL h4] at h;cases h;exact .inr (.inr (.inr (.inl ⟨h4,rfl⟩)))
    ·rw[JJ h4] at h;by_cases h5:100<=a/\a<3000
     ·rw[JL h5] at h;cases h;exact .inr (.inr (.inr (.inr ⟨h5.1,h5.2,rfl⟩)))
     ·rw[JJ h5] at h;cases h
def By(M:List Gr)(p:List Int)(o:Oc)(fs:List Fl)(kk:List UInt8):aA:=[(3011,.row 57 4 []),(3008,.row 33 5 [.agg [.sl 3010 0 (0+(aY p).length),.int .i64 o.kind,.int .i64 o.at_,.int .i64 o.code,.nsl]]),(3010,.row 3 1 ([]++aY p)),(3000,.row 33 5 [eJ ⟨p,o,fs⟩]),(1,.mapb (cM pG M 0++[(.str kk,.ptr 3008 0 0)]))]++rS (fun _=>true) M 0
theorem GR{i:Nat}(h1:100<=i)(h2:i<3000):fN i=some i:=by unfold fN;rw[JJ om,JJ om,JJ om,JJ om,JL ⟨h1,h2⟩]
theorem Cq{sl sl':List (Nat × AV)}{M:List Gr}{p:List Int}{o:Oc}{fs:List Fl}{kk:List UInt8}{nx nt:Nat}(hM:M.length<1000)(hk:kk=dA (aI ⟨p,o,fs⟩))(hs:dS (By M p o fs kk) (jP fN 3012) sl sl') :
  Conv 0 (jP fN 3012) ⟨sl,By M p o fs kk,nx,nt⟩ ⟨sl',Dw M.length (M++[⟨p,o,[]⟩]) ⟨p,o,[]⟩ ⟨p,o,fs⟩,3000,nt⟩:=by
 have hlk:∀i y,M[i]? = some y->lk (By M p o fs kk) (100+2*i)=some (gR (101+2*i) y)/\lk (By M p o fs kk) (101+2*i)=some (eP y):=fun i y hi=>by
  have hil:=(JC.1 hi).1;have:=oT (S:=fun _=>true) (i:=0) hi rfl;rw[Jd] at this;unfold By;simp only[KO,KD,lk];rw[aL (show 3011≠100+2*i by omega),aL (show 3008≠100+2*i by omega),aL (show 3010≠100+2*i by omega),aL (show 3000≠100+2*i by omega),aL (show 1≠100+2*i by omega),
   aL (show 3011≠101+2*i by omega),aL (show 3008≠101+2*i by omega),aL (show 3010≠101+2*i by omega),aL (show 3000≠101+2*i by omega),aL (show 1≠101+2*i by omega)]
  exact this
 have hes:cM pG M 0++[(.str kk,.ptr 3008 0 0)]=cM (fun i=>if i=M.length then .ptr 3008 0 0 else pG i) (M++[⟨p,o,[]⟩]) 0:=by
  rw[tY,Jd,hk];congr 1
  ·refine LD fun i=>?_
   rw[jW,jW];rcases JK i M.length with h|h
   ·simp only[Jd];rw[JJ (show ¬i=M.length by omega)]
   ·rw[JH h];rfl
  ·show _=[(AV.str _,if M.length=M.length then _ else _)]
   rw[JL rfl];rfl
 have hl1:lk (By M p o fs kk) 1=some (.mapb (cM (fun i=>if i=M.length then .ptr 3008 0 0 else pG i) (M++[⟨p,o,[]⟩]) 0)):=by
  rw[←hes];rfl
 have hle:(M++[(⟨p,o,[]⟩:Gr)]).length=M.length+1:=by simp
 refine sF fN 3012 (BF (a:=3008) (b:=3011) (c:=3000) (xS (m:=1) rfl hl1 (bG om rfl) (fun i hi=>?_) fun i y hi hne=>?_) rfl (.fzR (id:=3010) rfl (DU rfl) (.same (aU _)) (by simp)) (.nslk 3011 3 _ rfl (bG om rfl)) rfl rfl (bG om rfl) (bG om rfl) (bG om rfl)) hs xL ?_ ?_ om
 ·unfold pF;by_cases e:i=M.length
  ·rw[JL e,JL e];exact .ptr _ 2 0 0 (bG om rfl)
  ·rw[JJ e,JJ e];exact .ptr _ _ 0 0 (bG om (GR om om))
 ·have hil:=(JC.1 hi).1;have hi':M[i]? = some y:=by rw[Ji om] at hi;exact hi
  exact⟨_,_,(hlk i y hi').1,(hlk i y hi').2,bG om (GR om om),bG om (GR om om)⟩
 ·intro a b c ha hb h1 h2;have h1:=rO h1;have h2:=rO h2;omega
 ·intro a b ha h1;have h1:=rO h1;omega
def fU(j i:Nat):Option Nat:=if i=2 then some (100+2*j) else if i=3100 then some (101+2*j) else if i=1 then some 1 else if i=100+2*j then none else if i=101+2*j then none else if 100<=i/\i<3000 then some i else none
theorem rN{j a c:Nat}(h:fU j a=some c):(a=2/\c=100+2*j)∨(a=3100/\c=101+2*j)∨(a=1/\c=1)∨(100<=a/\a<3000/\a≠100+2*j/\a≠101+2*j/\c=a):=by
 unfold fU at h;by_cases h1:a=2
 ·rw[JL h1] at h;cases h;exact .inl ⟨h1,rfl⟩
 ·rw[JJ h1] at h;by_cases h2:a=3100
  ·rw[JL h2] at h;cases h;exact .inr (.inl ⟨h2,rfl⟩)
  ·rw[JJ h2] at h;by_cases h3:a=1
   ·rw[JL h3] at h;cases h;exact .inr (.inr (.inl ⟨h3,rfl⟩))
   ·rw[JJ h3] at h;by_cases h4:a=100+2*j
    ·rw[JL h4] at h;cases h
    ·rw[JJ h4] at h;by_cases h6:a=101+2*j
     ·rw[JL h6] at h;cases h
     ·rw[JJ h6] at h;by_cases h5:100<=a/\a<3000
      ·rw[JL h5] at h;cases h;exact .inr (.inr (.inr ⟨h5.1,h5.2,h4,h6,rfl⟩))
      ·rw[JJ h5] at h;cases h
theorem Fu{j i:Nat}(h1:100<=i)(h2:i<3000)(h3:i≠100+2*j)(h4:i≠101+2*j):fU j i=some i:=by unfold fU;rw[JJ om,JJ om,JJ om,JJ h3,JJ h4,JL ⟨h1,h2⟩]
theorem He(j:Nat):fU j 1=some 1:=by unfold fU;rw[JJ om,JJ om,JL rfl]
theorem Hw(j:Nat):fU j 2=some (100+2*j):=by unfold fU;rw[JL rfl]
theorem IH(j:Nat):fU j 3100=some (101+2*j):=by unfold fU;rw[JJ om,JL rfl]
theorem E0{mem:aA}{M:List Gr}{j i:Nat}{g:Gr}(hm:∀p∈mem,p.1<100∨2999<p.1)(hM:M.length<=1000)(hi:M[i]? = some g)(hne:i≠j):lk (mem++jT j M) (100+2*i)=some (gR (101+2*i) g)/\lk (mem++jT j M) (101+2*i)=some (eP g):=by
 have hil:=(JC.1 hi).1;have:=oT (S:=fun i=>i != j) (i:=0) hi (by simpa using hne);rw[Jd] at this;rw[iG,iG,gV (l:=mem) (i:=100+2*i) (fun p hp=>by have:=hm p hp;omega),gV (l:=mem) (i:=101+2*i) (fun p hp=>by have:=hm p hp;omega)];unfold jT;simp only[lk];rw[aL (show 1≠100+2*i by omega),aL (show 1≠101+2*i by omega)];exact this
theorem C1{sl sl':List (Nat × AV)}{M:List Gr}{x y:Gr}{j nx nt:Nat}(hM:M.length<=1000)(hj:M[j]? = some x)(hy:aI y=aI x)
  (hs:dS ([(2,gR 3100 y),(3100,eP y)]++jT j M) (jP (fU j) 3101) sl sl'):Conv 0 (jP (fU j) 3101) ⟨sl,[(2,gR 3100 y),(3100,eP y)]++jT j M,nx,nt⟩ ⟨sl',iL (M.set j y),3000,nt⟩:=by
 have hjl:=(JC.1 hj).1;have hk:M.map aI=(M.set j y).map aI:=by
  refine LD fun i=>?_
  rw[Ja,Ja,KC];by_cases e:j=i
  ·subst e;rw[JL rfl,JL hjl,hj];simp[hy]
  ·rw[JJ e]
 refine sF (fU j) 3101 (Az (M0:=M) (f:=pF j) (m:=1) hk rfl (bG om (He j)) (fun i hi=>?_) fun i g hi=>?_) hs yX ?_ ?_ om
 ·unfold pF;by_cases e:i=j
  ·subst e;rw[JL rfl];exact .ptr 2 _ 0 0 (bG om (Hw i))
  ·rw[JJ e];exact .ptr _ _ 0 0 (bG om (Fu om om om om))
 ·rw[KC] at hi;by_cases e:j=i
  ·subst e;rw[JL rfl,JL hjl] at hi;cases hi;exact⟨2,3100,rfl,rfl,bG om (Hw j),bG om (IH j)⟩
  ·rw[JJ e] at hi;have hil:=(JC.1 hi).1;have hl:=E0 (mem:=[(2,gR 3100 y),(3100,eP y)]) (fun p hp=>by
    rcases JA.1 hp with rfl|hp
    ·exact .inl (show (2:Nat)<100 by omega)
    ·rcases JA.1 hp with rfl|hp
     ·exact .inr (show (2999:Nat)<3100 by omega)
     ·cases hp) hM hi (Ne.symm e)
   exact⟨_,_,hl.1,hl.2,bG om (Fu om om om om),bG om (Fu om om om om)⟩
 ·intro a b c ha hb h1 h2;have h1:=rN h1;have h2:=rN h2;omega
 ·intro a b ha h1;have h1:=rN h1;omega
def pS(sn:List Nat)(i:Nat):AV:=if i∈sn then .junk else pG i
def Cb(sn:List Nat)(M:List Gr):aA:=[(6,.iter 1 M.length sn),(1,.mapb (cM (pS sn) M 0))]++rS (fun i=>!sn.contains i) M 0
def D3(sn:List Nat)(H M:List Gr):aA:=(5,.row 33 5 (a8 H))::Cb sn M
theorem wE{sn:List Nat}{M:List Gr}:∀p∈Cb sn M,p.1=6∨p.1=1∨(100<=p.1/\p.1<102+2*M.length):=fun p hp=>by
 rcases JI.1 hp with hp|hp
 ·simp only[JA,KA,or_false] at hp;rcases hp with rfl|rfl
  ·exact .inl rfl
  ·exact .inr (.inl rfl)
 ·exact .inr (.inr (oO hp))
theorem vO{sn:List Nat}{M:List Gr}:((Cb sn M).map (·.1)).Nodup:=by
 unfold Cb;rw[Jq];refine J2.2 ⟨by simp,qQ M 0,fun a ha b hb=>?_⟩;obtain⟨p,hp,rfl⟩:=JM.1 hb;have:=oO hp;simp at ha;omega
theorem F1{sn:List Nat}{mem:aA}{M:List Gr}{i:Nat}{g:Gr}(hm:∀p∈mem,p.1<100∨2999<p.1)(hM:M.length<=1000)(hi:M[i]? = some g)(hne:i∉sn):lk (mem++Cb sn M) (100+2*i)=some (gR (101+2*i) g)/\lk (mem++Cb sn M) (101+2*i)=some (eP g):=by
 have hil:=(JC.1 hi).1;have:=oT (S:=fun i=>!sn.contains i) (i:=0) hi (by simpa using hne);rw[Jd] at this;rw[iG,iG,gV (l:=mem) (i:=100+2*i) (fun p hp=>by have:=hm p hp;omega),gV (l:=mem) (i:=101+2*i) (fun p hp=>by have:=hm p hp;omega)];unfold Cb;simp only[KO,KD,lk];rw[aL (show 6≠100+2*i by omega),aL (show 6≠101+2*i by omega),aL (show 1≠100+2*i by omega),aL (show 1≠101+2*i by omega)];exact this
theorem w8{mem:aA}{σ:List (Nat × Nat)}{M:List Gr}{sn:List Nat}{f:Nat->AV}{a m:Nat}(k1:lk mem a=some (.iter m M.length sn))(k2:lk σ a=some 6)(h1:lk mem m=some (.mapb (cM f M 0)))(h2:lk σ m=some 1)(h3:∀i,i<M.length->i∉sn->Cv mem σ (f i) (pG i))
  (h:∀i g,M[i]? = some g->i∉sn->∃a b,lk mem a=some (gR b g)/\lk mem b=some (eP g)/\lk σ a=some (100+2*i)/\lk σ b=some (101+2*i)):tH mem σ (Cb sn M):=
 tH.app (fun p hp=>by
  simp only[JA,KA,or_false] at hp;rcases hp with rfl|rfl
  ·exact .inr (.inr (.inr ⟨a,m,1,_,_,rfl,k2,k1,h2⟩))
  ·exact .inr (.inl ⟨m,_,_,rfl,h2,h1,wX rfl fun i hi=>by
    unfold pS;by_cases e:i∈sn
    ·rw[JL e];exact .junk _
    ·rw[JJ e];exact h3 i hi e⟩)) (sH fun i g hi hS=>h i g hi (by simpa using hS))
def fT(l:List (Nat × Nat))(i:Nat):Option Nat:=match lk l i with
 | some k=>some k
 | none=>if 100<=i/\i<3000 then some i else none
theorem F6{l:List (Nat × Nat)}{i:Nat}(h:lk l i=none)(h1:100<=i)(h2:i<3000):fT l i=some i:=by unfold fT;rw[h];exact JL ⟨h1,h2⟩
theorem qX{l:List (Nat × Nat)}{a c:Nat}(h:fT l a=some c):lk l a=some c∨(lk l a=none/\100<=a/\a<3000/\c=a):=by
 unfold fT at h;cases hl:lk l a with
 | some k=>rw[hl] at h;exact .inl h
 | none=>
  rw[hl] at h;simp only at h;by_cases h5:100<=a/\a<3000
  ·rw[JL h5] at h;cases h;exact .inr ⟨rfl,h5.1,h5.2,rfl⟩
  ·rw[JJ h5] at h;cases h
structure H8(l:List (Nat × Nat)):Prop where
 inj:∀i j k,lk l i=some k->lk l j=some k->i=j
 low:∀i k,lk l i=some k->k<100
theorem GX{l:List (Nat × Nat)}(h:H8 l)(i j k:Nat)(h1:fT l i=some k)(h2:fT l j=some k):i=j:=by
 rcases qX h1 with a|⟨a,a1,a2,a3⟩<;>rcases qX h2 with b|⟨b,b1,b2,b3⟩
 ·exact h.inj i j k a b
 ·have:=h.low i k a;omega
 ·have:=h.low j k b;omega
 ·omega
theorem G4{l:List (Nat × Nat)}(h:H8 l){i k:Nat}(h1:fT l i=some k):k<3000:=by
 rcases qX h1 with a|⟨a,a1,a2,a3⟩
 ·have:=h.low i k a;omega
 ·omega
theorem AP{l:List (Nat × Nat)}(h:(nH l && l.all fun p=>Nat.blt p.2 100)=true):H8 l:=by
 rw[JE] at h;refine⟨mJ h.1,fun i k hk=>?_⟩;have:=Kw.1 h.2 _ (aF hk);exact JB this
theorem Ac{sl sl':List (Nat × AV)}{mem mem':aA}{nx nt n:Nat}{l:List (Nat × Nat)}(hl:H8 l)(hm:tH mem (jP (fT l) n) mem')(hs:dS mem (jP (fT l) n) sl sl')(hnod:(mem'.map (·.1)).Nodup):Conv 0 (jP (fT l) n) ⟨sl,mem,nx,nt⟩ ⟨sl',mem',3000,nt⟩:=
 sF (fT l) n hm hs hnod (fun i j k _ _ h1 h2=>GX hl i j k h1 h2) (fun i k _ h=>⟨fun h'=>om,G4 hl h⟩) om
theorem FM{mem:aA}{σ:List (Nat × Nat)}{id sz:Nat}{t:TypeId}{v:AV}(h1:lk mem id=some (.row t sz [v]))(h2:lk σ id=none)(hc:v.cells=[v])(hn:NN v):Cv mem σ (.ptr id 0 0) (.ip v):=
 .fzp id 0 0 t sz [v] v v h1 h2 rfl om fun k c c' a b=>by
  rw[Jd] at a;rw[a] at b;cases b;rw[hc] at a;cases k with
  | zero=>simp at a;subst a;exact .same _ hn
  | succ k=>simp at a
theorem Ce{sl sl':List (Nat × AV)}{M:List Gr}{b:AB}{nx nt:Nat}(hM:M.length<=1000)(hs:dS ((3002,.row 33 5 [])::(3001,.iter 1 (cM pG M 0).length [])::(3000,b)::iL M) (jP (fT [(3001,6),(3002,5),(1,1)]) 3003) sl sl') :
  Conv 0 (jP (fT [(3001,6),(3002,5),(1,1)]) 3003) ⟨sl,(3002,.row 33 5 [])::(3001,.iter 1 (cM pG M 0).length [])::(3000,b)::iL M,nx,nt⟩ ⟨sl',D3 [] [] M,3000,nt⟩:=by
 have hlk:∀i y,M[i]? = some y->lk ((3002,.row 33 5 [])::(3001,.iter 1 (cM pG M 0).length [])::(3000,b)::iL M) (100+2*i)=some (gR (101+2*i) y)/\lk ((3002,.row 33 5 [])::(3001,.iter 1 (cM pG M 0).length [])::(3000,b)::iL M) (101+2*i)=some (eP y):=fun i y hi=>by
  have hil:=(JC.1 hi).1;simp only[lk];rw[aL (show 3002≠100+2*i by omega),aL (show 3002≠101+2*i by omega),aL (show 3001≠100+2*i by omega),aL (show 3001≠101+2*i by omega),aL (show 3000≠100+2*i by omega),aL (show 3000≠101+2*i by omega)];exact vF hi
 have ht:∀a,100<=a->a<3000->lk (jP (fT [(3001,6),(3002,5),(1,1)]) 3003) a=some a:=fun a h1 h2=>bG om (F6 (gV fun p hp=>by
  simp only[JA,KA,or_false] at hp;rcases hp with rfl|rfl|rfl<;>simp only<;>omega) h1 h2)
 refine Ac (AP (by rfl)) (fun p hp=>?_) hs ?_
 ·rcases JA.1 hp with rfl|hp
  ·exact .inl ⟨3002,_,_,_,_,rfl,bG om rfl,rfl,.nil⟩
  ·refine w8 (σ:=jP (fT [(3001,6),(3002,5),(1,1)]) 3003) (a:=3001) (m:=1) (f:=pG) ?_ (bG om rfl) rfl (bG om rfl) (fun i hi _=>.ptr _ _ 0 0 (ht _ om om)) (fun i g hi _=>?_) p hp
   ·rw[←iP pG M 0];rfl
   ·have hil:=(JC.1 hi).1;exact⟨_,_,(hlk i g hi).1,(hlk i g hi).2,ht _ om om,ht _ om om⟩
 ·simp only[D3,Jg,JU];refine⟨fun h=>?_,vO⟩;obtain⟨p,hp,e⟩:=JM.1 h;have:=wE p hp;omega
def lF(i:Nat):List (Nat × Nat):=[(100+2*i,2),(101+2*i,3),(5,5),(6,6),(1,1)]
theorem EC{i a:Nat}(h1:a≠100+2*i)(h2:a≠101+2*i)(h3:100<=a):lk (lF i) a=none:=gV fun p hp=>by
 simp only[lF,JA,KA,or_false] at hp;rcases hp with rfl|rfl|rfl|rfl|rfl<;>simp only<;>omega
theorem HO(i:Nat):fT (lF i) (100+2*i)=some 2:=by unfold fT lF;simp[lk]
theorem HZ(i:Nat):fT (lF i) (101+2*i)=some 3:=by
 unfold fT lF;simp only[lk];rw[aL (show 100+2*i≠101+2*i by omega)];simp
theorem Cg(i a:Nat)(h:a=5∨a=6∨a=1):fT (lF i) a=some a:=by
 unfold fT lF;simp only[lk];rw[aL (show 100+2*i≠a by omega),aL (show 101+2*i≠a by omega)];rcases h with rfl|rfl|rfl<;>rfl
theorem Dm{sl sl':List (Nat × AV)}{M H:List Gr}{sn:List Nat}{x:Gr}{i nx nt:Nat}(hM:M.length<=1000)(hi:M[i]? = some x)(hn:i∉sn)(hs:dS (up (D3 sn H M) 6 (.iter 1 M.length (i::sn))) (jP (fT (lF i)) 3000) sl sl') :
  Conv 0 (jP (fT (lF i)) 3000) ⟨sl,up (D3 sn H M) 6 (.iter 1 M.length (i::sn)),nx,nt⟩ ⟨sl',[(2,gR 3 x),(3,eP x),(5,.row 33 5 (a8 H))]++Cb (i::sn) M,3000,nt⟩:=by
 have hil:=(JC.1 hi).1;have hup:up (D3 sn H M) 6 (.iter 1 M.length (i::sn))=(5,.row 33 5 (a8 H))::(6,.iter 1 M.length (i::sn))::(1,.mapb (cM (pS sn) M 0))::rS (fun i=>!sn.contains i) M 0:=rfl;rw[hup] at hs ⊢;have hlk:∀j y,M[j]? = some y->j∉sn->lk ((5,.row 33 5 (a8 H))::(6,.iter 1 M.length (i::sn))::(1,.mapb (cM (pS sn) M 0))::rS (fun i=>!sn.contains i) M 0) (100+2*j)=some (gR (101+2*j) y)/\lk ((5,.row 33 5 (a8 H))::(6,.iter 1 M.length (i::sn))::(1,.mapb (cM (pS sn) M 0))::rS (fun i=>!sn.contains i) M 0) (101+2*j)=some (eP y):=fun j y hj hjn=>by
  have:=oT (S:=fun i=>!sn.contains i) (i:=0) hj (by simpa using hjn);rw[Jd] at this;simp only[lk];rw[aL (show 5≠100+2*j by omega),aL (show 5≠101+2*j by omega),aL (show 6≠100+2*j by omega),aL (show 6≠101+2*j by omega),aL (show 1≠100+2*j by omega),aL (show 1≠101+2*j by omega)];exact this
 have ht:∀a,100<=a->a<3000->a≠100+2*i->a≠101+2*i->lk (jP (fT (lF i)) 3000) a=some a:=fun a h1 h2 h3 h4=>bG h2 (F6 (EC h3 h4 h1) h1 h2)
 refine Ac (AP (by rfl)) (tH.app (fun p hp=>?_) (w8 (a:=6) (m:=1) (f:=pS sn) rfl (bG om (Cg i 6 om)) rfl (bG om (Cg i 1 om)) (fun j hj hjn=>?_) (fun j g hj hjn=>?_))) hs ?_
 ·simp only[JA,KA,or_false] at hp;rcases hp with rfl|rfl|rfl
  ·exact .inl ⟨100+2*i,_,_,_,_,rfl,bG om (HO i),(hlk i x hi hn).1,.cons (.agg (.cons (.same _ (.il' (aU _))) (.s (.s (.s (.cons (.sl _ 3 0 _ (bG om (HZ i))) .nil)))))) .nil⟩
  ·exact .inl ⟨101+2*i,_,_,_,_,rfl,bG om (HZ i),(hlk i x hi hn).2,.same (aZ _)⟩
  ·exact .inl ⟨5,_,_,_,_,rfl,bG om (Cg i 5 om),rfl,.same (bI _)⟩
 ·simp only[JA,not_or] at hjn;unfold pS;rw[JJ hjn.2];exact .ptr _ _ 0 0 (ht _ om om om om)
 ·simp only[JA,not_or] at hjn;have hjl:=(JC.1 hj).1;exact⟨_,_,(hlk j g hj hjn.2).1,(hlk j g hj hjn.2).2,ht _ om om om om,ht _ om om om om⟩
 ·rw[Jq];refine J2.2 ⟨by simp,vO,fun a ha b hb=>?_⟩;obtain⟨p,hp,rfl⟩:=JM.1 hb;have:=wE p hp;simp at ha;omega
def BG(H:List Gr)(g:Gr)(n:Nat)(b1 b2:AB)(ys:List AV):aA:=[(3007,.row 33 5 (a8 H++[.agg [.il 1 (aY g.min),.int .i64 g.oc.kind,.int .i64 g.oc.at_,.int .i64 g.oc.code,.sl 3 0 n]])),(3006,b1),(3,.row 57 4 ys),(2,b2)]
theorem Ds{sl sl':List (Nat × AV)}{M H:List Gr}{sn:List Nat}{g:Gr}{dd:List Fl}{b1 b2:AB}{ys:List AV}{nx nt:Nat}(hM:M.length<=1000)(hy1:hE ys)(hy2:ys.take dd.length=aX dd)(hy3:dd.length<=ys.length)
  (hs:dS (BG H g dd.length b1 b2 ys++Cb sn M) (jP (fT [(3007,5),(6,6),(1,1)]) 3010) sl sl') :
  Conv 0 (jP (fT [(3007,5),(6,6),(1,1)]) 3010) ⟨sl,BG H g dd.length b1 b2 ys++Cb sn M,nx,nt⟩ ⟨sl',D3 sn (H++[⟨g.min,g.oc,dd⟩]) M,3000,nt⟩:=by
 have ht:∀a,100<=a->a<3000->lk (jP (fT [(3007,5),(6,6),(1,1)]) 3010) a=some a:=fun a h1 h2=>bG om (F6 (gV fun p hp=>by
  simp only[JA,KA,or_false] at hp;rcases hp with rfl|rfl|rfl<;>simp only<;>omega) h1 h2)
 refine Ac (AP (by rfl)) (fun p hp=>?_) hs ?_
 ·rcases JA.1 hp with rfl|hp
  ·exact .inl ⟨3007,_,_,_,_,rfl,bG om rfl,rfl,AY (tG.snoc (y:=eJ ⟨g.min,g.oc,dd⟩) rfl (.same (bI H)) (.agg (.cons (.same _ (.il' (aU _))) (.s (.s (.s (.cons (.fz' (id:=3) (off:=0) (len:=dd.length) rfl (DU rfl) om (by rw[LF];exact hy2) (aZ _)) .nil))))))) (B6 _ _)⟩
  ·refine w8 (σ:=jP (fT [(3007,5),(6,6),(1,1)]) 3010) (a:=6) (m:=1) (f:=pS sn) rfl (bG om rfl) rfl (bG om rfl) (fun i hi hn=>?_) (fun i x hi hn=>?_) p hp
   ·unfold pS;rw[JJ hn];exact .ptr _ _ 0 0 (ht _ om om)
   ·have hil:=(JC.1 hi).1;have hl:=F1 (sn:=sn) (mem:=BG H g dd.length b1 b2 ys) (fun p hp=>by
     unfold BG at hp;rcases JA.1 hp with rfl|hp
     ·exact .inr (show (2999:Nat)<3007 by omega)
     rcases JA.1 hp with rfl|hp
     ·exact .inr (show (2999:Nat)<3006 by omega)
     rcases JA.1 hp with rfl|hp
     ·exact .inl (show (3:Nat)<100 by omega)
     rcases JA.1 hp with rfl|hp
     ·exact .inl (show (2:Nat)<100 by omega)
     ·cases hp) hM hi hn
    exact⟨_,_,hl.1,hl.2,ht _ om om,ht _ om om⟩
 ·simp only[D3,Jg,JU];refine⟨fun h=>?_,vO⟩;obtain⟨p,hp,e⟩:=JM.1 h;have:=wE p hp;omega
theorem Dk{sn:List Nat}{H M:List Gr}{i:Nat}{k v:AV}(h:(cM (pS sn) M 0)[i]? = some (k,v)):sA (up (D3 sn H M) 6 (.iter 1 M.length (i::sn))) (.ptr 6 0 0)=some (.tup [k,v]):=by
 show (match Nat.beq (cM (pS sn) M 0).length M.length with
  | true=>match (cM (pS sn) M 0)[i]? with
   | some (k,v)=>some (AV.tup [k,v])
   | none=>none
  | false=>none)=_
 rw[iP,h,Nat.beq_refl]
theorem GM(Ls:List (List Gr))(hb:∀g∈Ls.flatten,GB g/\A8 (aI g))(hl:Ls.flatten.length<=1000)(hf:FT Ls.flatten<=1000000)(hL:Ls.length<=1000000) :
  aS prog gz 10 [.il 1 (g8 Ls)] (.il 5 (a8 (hU Ls.flatten))):=by
 have nl:NN (.il 1 (g8 Ls)):=.il' (zA Ls);have ll:=CD Ls;refine aR a7 func10 rfl ?_;refine Rr ?_;refine bJ.at a7 (fun x:Nat × List Gr=>x.1<=Ls.length/\CU (Ls.take x.1).flatten x.2/\x.2.length<=(Ls.take x.1).flatten.length/\∀g∈x.2,g.fs.length<=FT (Ls.take x.1).flatten)
  (fun x=>⟨[(3,.mp 1),(18,.il 1 (g8 Ls)),(19,.int .i64 Ls.length),(20,.int .i64 x.1)],iL x.2,3000,107⟩) (fun x=>Ls.length-x.1) (0,[]) [(0,1)] ⟨by simp,FJ,by simp,by simp⟩
  (bN _ rfl ⟨⟨0,_,rfl,rfl,rfl,fun j e e' h=>by simp at h⟩,trivial⟩ ⟨⟨_,rfl,.mp 0 1 rfl⟩,aT nl,⟨_,rfl,.eq nn (by rw[ll])⟩,aK,trivial⟩) ?_
 rintro⟨i,M0⟩ ⟨hi,hT,hM,hMf⟩;simp only at hi hT hM hMf ⊢;have hd:decide ((i:Int)<(Ls.length:Int))=decide (i<Ls.length):=Jn.2 om;by_cases hlt:i<Ls.length
 ·have ei:=DV hlt;refine Rr ?_;rw[hd,JX hlt];refine Rr ?_;repeat((first|refine aD ei ?_|refine aH ?_);refine Rr ?_)
  have hfl:(Ls.take (i+1)).flatten=(Ls.take i).flatten++Ls[i]:=by rw[JR hlt,List.flatten_append];simp
  have hpre:∃r,Ls.flatten=(Ls.take i).flatten++Ls[i]++r:=⟨(Ls.drop (i+1)).flatten,by rw[←hfl,←List.flatten_append,Ka]⟩
  obtain⟨r,hr⟩:=hpre;have hbG:∀g∈(Ls.take i).flatten++Ls[i],GB g/\A8 (aI g):=fun g hg=>hb g (by rw[hr];exact JN _ hg)
  have hlG:((Ls.take i).flatten++Ls[i]).length<=1000:=by rw[hr,Jz] at hl;omega
  have hfG:FT ((Ls.take i).flatten++Ls[i])<=1000000:=by rw[hr,sK] at hf;omega
  have hnext:∀M',CU ((Ls.take i).flatten++Ls[i]) M'->M'.length<=((Ls.take i).flatten++Ls[i]).length->(∀g∈M',g.fs.length<=FT ((Ls.take i).flatten++Ls[i])) ->
    (fun x:Nat × List Gr=>x.1<=Ls.length/\CU (Ls.take x.1).flatten x.2/\x.2.length<=(Ls.take x.1).flatten.length/\∀g∈x.2,g.fs.length<=FT (Ls.take x.1).flatten) (i+1,M'):=fun M' h1 h2 h3=>by
   simp only;rw[hfl];exact⟨om,h1,h2,h3⟩
  generalize (Ls.take i).flatten=P at *;generalize Ls[i]=G at *;have nG:NN (.il 5 (a8 G)):=.il' (bI G);have lG:=cG G;clear hr hfl;refine bJ.at a7 (fun x:Nat × List Gr=>x.1<=G.length/\CU (P++G.take x.1) x.2/\x.2.length<=P.length+x.1/\∀g∈x.2,g.fs.length<=FT (P++G.take x.1))
   (fun x=>⟨[(3,.mp 1),(18,.il 1 (g8 Ls)),(19,.int .i64 Ls.length),(20,.int .i64 i),(24,.il 5 (a8 G)),(25,.int .i64 G.length),(26,.int .i64 x.1)],iL x.2,3000,107⟩) (fun x=>G.length-x.1) (0,M0) _ ⟨by simp,by simpa using hT,by simpa using hM,by simpa using hMf⟩
   (yR (by rw[Jz] at hlG;omega) ⟨⟨_,rfl,.mp 1 1 (bG om rfl)⟩,aT nl,aK,aK,aT nG,⟨_,rfl,.eq nn (by rw[lG])⟩,aK,trivial⟩) ?_
  clear hT hM hMf;rintro⟨k,M⟩ ⟨hk,hT,hM,hMf⟩;simp only at hk hT hM hMf ⊢;rw[Jz] at hlG;have hdk:decide ((k:Int)<(G.length:Int))=decide (k<G.length):=Jn.2 om;by_cases hltk:k<G.length
  ·have ek:=iK hltk;obtain⟨hB,hy⟩:=hbG G[k] (Jf _ (JQ hltk));have hK:=Dg G[k] hy hB.min;have hTk:P++G.take (k+1)=P++G.take k++[G[k]]:=by rw[JR hltk,KK]
   have hMy:∀x∈M,A8 (aI x):=fun x hx=>by
    obtain⟨z,hz,e⟩:=(hT.key (aI x)).1 ⟨x,hx,rfl⟩;rw[←e];refine(hbG z ?_).2;rcases JI.1 hz with hz|hz
    ·exact JN _ hz
    ·exact Jf _ (Js hz)
   have ng:=eI G[k];have hinj:∀x∈M,dA (aI x)=dA (aI G[k])->aI x=aI G[k]:=fun x hx h=>sW (hMy x hx) hy h
   generalize G[k]=g at *;obtain⟨kk,hkk⟩:∃kk,kk=dA (aI g):=⟨_,rfl⟩
   rw[←hkk] at hK hinj;have lf:=cD g.fs;obtain⟨p,⟨o1,o2,o3⟩,fs⟩:=g;have np:NN (.il 1 (aY p)):=.il' (aU _);have nf:NN (.il 4 (aX fs)):=.il' (aZ _);refine Rr ?_;rw[hdk,JX hltk];refine Rr ?_;repeat((first|refine aD ek ?_|refine aH ?_);refine Rr ?_)
   refine hK.use a7 (.cons ng .nil) nn ?_;refine Rr ?_
   refine' cJ.joinM (P:=prog) (Γ:=gz) (B:=0) a7 (fun a:Nat × List Gr × Gr=>a.2.1[a.1]? = some a.2.2/\a.2.1.length<=P.length+(k+1)/\a.2.2.fs.length<=FT (P++G.take k)/\(∀y∈a.2.1,y.fs.length<=FT (P++G.take k))/\CU (P++G.take (k+1)) (a.2.1.set a.1 ⟨a.2.2.min,a.2.2.oc,a.2.2.fs++fs⟩))
    (fun a=>⟨[(3,.mp 1),(7,.ptr 4 0 0),(9,.ptr 2 0 0),(18,.il 1 (g8 Ls)),(19,.int .i64 Ls.length),(20,.int .i64 i),(24,.il 5 (a8 G)),(25,.int .i64 G.length),(26,.int .i64 k)],Dw a.1 a.2.1 a.2.2 ⟨p,⟨o1,o2,o3⟩,fs⟩,3000,107⟩) (fun hJ=>?_) (fun a ha=>?_)
   rotate_left 2
   by_cases hex:∃(j:Nat) (x:Gr),M[j]? = some x/\aI x=aI ⟨p,⟨o1,o2,o3⟩,fs⟩
   ·obtain⟨j,x,hj,hx⟩:=hex;refine aD (FO (id:=1) (f:=pG) (M:=M) (j:=j) (g:=x) rfl hj (by rw[hx,hkk]) (fun j' y hj' hy' e=>by
     have:=hinj y (Je hy') e;have:=wM hT.nod (i:=j') (j:=j) (a:=aI x) (by rw[Ja,hy',hx,←this];rfl) (by rw[Ja,hj];rfl);omega)) ?_
    conv=>whnf
    refine cJ.go ?_
    conv=>whnf
    refine cJ.many ?_
    conv=>whnf
    refine e8.many ?_
    conv=>whnf
    refine cJ.go ?_
    conv=>whnf
    refine cJ.go ?_
    conv=>whnf
    have hjl:=(JC.1 hj).1;have hsp:M=M.take j++x::M.drop (j+1):=by
     have e:x=M[j]:=by rw[I9 hjl] at hj;exact(Option.some.inj hj).symm
     rw[e,←List.drop_eq_getElem_cons hjl,Ka]
    have hT':CU (P++G.take (k+1)) (M.set j ⟨x.min,x.oc,x.fs++fs⟩):=by
     rw[hTk,List.set_eq_take_append_cons_drop,JL hjl];exact EF (g:=⟨p,⟨o1,o2,o3⟩,fs⟩) (by rw[←hsp];exact hT) hx
    exact hJ (j,M,x) _ _ ⟨hj,by show M.length<=_;omega,hMf x (Je hj),hMf,hT'⟩ (Cm om hj ⟨⟨_,rfl,.mp 1 1 (bG om (Ht j))⟩,⟨_,rfl,.ptr _ 4 0 0 (bG om (HR om))⟩,⟨_,rfl,.ptr _ 2 0 0 (bG om (Hd j))⟩,aT nl,aK,aK,aT nG,aK,aK,trivial⟩)
   ·have hno:∀x∈M,aI x≠aI ⟨p,⟨o1,o2,o3⟩,fs⟩:=fun x hx e=>by
     obtain⟨j,hj⟩:=J4 hx;exact hex ⟨j,x,hj,e⟩
    have lp:=bB p;refine aD (Ep (id:=1) (f:=pG) (M:=M) rfl (fun x hx e=>hno x hx (hinj x hx e))) ?_
    conv=>whnf
    refine cJ.go ?_
    conv=>whnf
    refine cJ.frame (m1:=[(3000,.row 33 5 [eJ ⟨p,⟨o1,o2,o3⟩,fs⟩]),(1,.mapb (cM pG M 0))]) (rest:=rS (fun _=>true) M 0) ?_;have hpB:p.length<=1000000:=hB.min;refine Rr ?_;refine aM (kB rfl rfl rfl (by show 0+(aY p).length<=_;rw[lp];omega)) ?_;refine Rt ?_;refine aD (wU fun x hx e=>hno x hx (hinj x hx e)) ?_
    conv=>whnf
    refine cO.2 ?_;refine Rr ?_;have hT':CU (P++G.take (k+1)) ((M++[(⟨p,⟨o1,o2,o3⟩,[]⟩:Gr)]).set M.length ⟨p,⟨o1,o2,o3⟩,[]++fs⟩):=by
     rw[hTk,List.set_append_right _ _ (JG _),Nat.sub_self,KD];exact ED hT hno
    have hMl:M.length<1000:=om;refine⟨fun q hq z hz=>?_, ?_⟩
    ·have hne:∀m:Nat,(2999<m∨m=1)->m≠z.1:=fun m hm=>by have:=oO hz;omega
     rcases JA.1 hq with rfl|hq
     ·exact hne 3008 om
     rcases JA.1 hq with rfl|hq
     ·exact hne 3010 om
     rcases JA.1 hq with rfl|hq
     ·exact hne 3000 om
     rcases JA.1 hq with rfl|hq
     ·exact hne 1 om
     ·cases hq
    ·refine(cJ.ph 57 4 ?_:cJ _ _ _ _ _ _);have hR:(M++[(⟨p,⟨o1,o2,o3⟩,[]⟩:Gr)])[M.length]? = some ⟨p,⟨o1,o2,o3⟩,[]⟩:=by simp
     have hR2:∀y∈M++[(⟨p,⟨o1,o2,o3⟩,[]⟩:Gr)],y.fs.length<=FT (P++G.take k):=fun y hy=>by
       rcases JI.1 hy with hy|hy
       ·exact hMf y hy
       ·simp at hy;subst hy;simp
     refine hJ (M.length,M++[⟨p,⟨o1,o2,o3⟩,[]⟩],⟨p,⟨o1,o2,o3⟩,[]⟩) _ _ (And.intro hR (And.intro (by simp;omega) (And.intro (by simp) (And.intro hR2 hT')))) (Cq (o:=⟨o1,o2,o3⟩) hMl hkk ?_);exact⟨⟨_,rfl,.mp 1 1 (bG om rfl)⟩,⟨_,rfl,.ptr 3000 4 0 0 (bG om rfl)⟩,⟨_,rfl,.ptr 3008 2 0 0 (bG om rfl)⟩,aT nl,aK,aK,aT nG,aK,aK,trivial⟩
   ·obtain⟨j,M1,x⟩:=a;obtain⟨hj,hM1,hxf,hMf1,hT1⟩:=ha;simp only at hj hM1 hxf hMf1 hT1 ⊢;refine cJ.frame (m1:=[(2,gR 3 x),(3,eP x),(4,.row 33 5 [eJ ⟨p,⟨o1,o2,o3⟩,fs⟩])]) (rest:=jT j M1) ?_;have lxf:=cD x.fs;obtain⟨xp,⟨x1,x2,x3⟩,xf⟩:=x;simp only at lxf hxf;have nxp:NN (.il 1 (aY xp)):=.il' (aU _);refine Rr ?_;refine bJ.at a7 (fun j:Nat=>j<=fs.length)
     (fun j=>⟨[(3,.mp 1),(9,.ptr 2 0 0),(18,.il 1 (g8 Ls)),(19,.int .i64 Ls.length),(20,.int .i64 i),(24,.il 5 (a8 G)),(25,.int .i64 G.length),(26,.int .i64 k),(52,.il 4 (aX fs)),(53,.int .i64 fs.length),(54,.int .i64 j)],
      [(2,.row 33 5 [.agg [.il 1 (aY xp),.int .i64 x1,.int .i64 x2,.int .i64 x3,.sl 3100 0 (xf++fs.take j).length]]),(3100,.row 57 4 (aX (xf++fs.take j)))],3200,107⟩) (fun j=>fs.length-j) 0 [(1,1),(2,2),(3,3100)] (by simp)
     (bN _ rfl ⟨⟨2,_,rfl,rfl,.cons (.agg (.cons (.same _ nxp) (.s (.s (.s (.cons (.slE rfl (by simp)) .nil)))))) .nil⟩,⟨3,_,rfl,rfl,.eq (aZ _) (by simp)⟩,trivial⟩
      ⟨⟨_,rfl,.mp 1 1 rfl⟩,lM,aT nl,aK,aK,aT nG,aK,aK,aT nf,⟨_,rfl,.eq nn (by rw[lf])⟩,aK,trivial⟩) ?_
    intro q hq;have hdq:decide ((q:Int)<(fs.length:Int))=decide (q<fs.length):=Jn.2 om;have hfsB:fs.length<=1000000:=hB.fs;have hxl:(aX (xf++fs.take q)).length=(xf++fs.take q).length:=cD _;by_cases hltq:q<fs.length
    ·have eq_:=xF hltq;have e2:xf++fs.take (q+1)=xf++fs.take q++[fs[q]]:=by rw[JR hltq,KK]
     have hfp:fs[q].path.length<=1000000:=hB.path _ (JQ hltq);generalize fs[q]=f at *;obtain⟨fp,⟨f1,f2,f3⟩⟩:=f;have lfp:=bB fp;have nfp:NN (.il 1 (aY fp)):=.il' (aU _);generalize hz:xf++fs.take q=z at *;have hFk:FT (P++G.take k)<=1000000:=by
      have:=D5 G k;rw[sK] at hfG ⊢;omega
     have hzl:z.length<=2000000:=by rw[←hz,Jz,J0,Nat.min_eq_left hq,←lxf];omega
     refine Rr ?_;rw[hdq,JX hltq];refine Rt ?_;repeat(refine aD eq_ ?_;refine Rt ?_)
     refine aM (kB rfl rfl rfl (by show 0+(aY fp).length<=_;rw[lfp];have:fp.length<=1000000:=hfp;omega)) ?_;refine Rr ?_;repeat((first|refine eF.2 ?_|refine aH ?_|refine aM (kB rfl rfl (by rw[hxl]) (by simp;omega)) ?_);refine Rr ?_)
     exact .mk (q+1) [(1,1),(2,2),(3219,3100)] om (bN _ rfl ⟨⟨2,_,rfl,rfl,.cons (.agg (.cons (.same _ nxp) (.s (.s (.s (.cons (.slE rfl (by rw[e2];simp)) .nil)))))) .nil⟩,
       ⟨3219,_,rfl,rfl,AY (tG.snoc (y:=gS ⟨fp,⟨f1,f2,f3⟩⟩) rfl (.same (aZ z)) (.agg (.cons (.fzR (id:=3218) rfl rfl (.same (aU fp)) (by simp)) (.s (.s (.s .nil)))))) (by rw[e2,Bu])⟩,trivial⟩
      ⟨⟨_,rfl,.mp 1 1 rfl⟩,lM,aT nl,aK,aK,aT nG,aK,aK,aT nf,aK,⟨_,rfl,.w64 om ⟨om,om⟩⟩,trivial⟩) om
    ·have:q=fs.length:=om;subst this;rw[Jr];refine Rr ?_;rw[hdq,JZ hltq];refine Rr ?_;have hM1':M1.length<=1000:=om;refine⟨fun q hq z hz=>?_, ?_⟩
     ·have hne:∀m:Nat,(m=2∨2999<m)->m≠z.1:=fun m hm=>by have:=xD z hz;omega
      rcases JA.1 hq with rfl|hq
      ·exact hne 2 om
      rcases JA.1 hq with rfl|hq
      ·exact hne 3100 om
      ·cases hq
     ·refine Rr ?_;refine .mk (k+1,M1.set j ⟨xp,⟨x1,x2,x3⟩,xf++fs⟩) (jP (fU j) 3101) ⟨by simp only;omega,hT1,by simp only;rw[Km];omega, ?_⟩ (C1 (x:=⟨xp,⟨x1,x2,x3⟩,xf⟩) (y:=⟨xp,⟨x1,x2,x3⟩,xf++fs⟩) hM1' hj rfl ?_) (by simp only;omega)
      ·intro y hy;simp only at hy ⊢;rw[hTk,sK];rcases K8 hy with hy|rfl
       ·have:=hMf1 y hy;omega
       ·simp only[Jz];have e:FT [(⟨p,⟨o1,o2,o3⟩,fs⟩:Gr)]=fs.length:=by simp[FT]
        rw[e];omega
      ·exact⟨⟨_,rfl,.mp 1 1 (bG om (He j))⟩,aT nl,aK,aK,aT nG,aK,⟨_,rfl,.w64 om ⟨om,om⟩⟩,trivial⟩
  ·refine Rr ?_;rw[hdk,JZ hltk];refine Rr ?_;have:k=G.length:=om;subst this;rw[Jr] at hT hMf;exact .mk (i+1,M) _ (hnext M hT (by rw[Jz];omega) hMf)
    (yR om ⟨⟨_,rfl,.mp 1 1 (bG om rfl)⟩,aT nl,aK,⟨_,rfl,.w64 om ⟨om,om⟩⟩,trivial⟩) (by simp only;omega)
 ·have hil:i=Ls.length:=om;subst hil;rw[Jr] at hT hM hMf;have hM1:M0.length<=1000:=om;have nM1:=Hq;have hMb:∀g∈M0,g.min.length<=1000000/\g.fs.length<=1000000/\∀f∈g.fs,f.path.length<=1000000:=fun g hg=>by
   obtain⟨z,hz,e⟩:=(hT.key (aI g)).1 ⟨g,hg,rfl⟩;refine⟨?_,by have:=hMf g hg;omega,fun f hf'=>?_⟩
   ·have e1:z.min=g.min:=congrArg Prod.fst e;rw[←e1];exact(hb z hz).1.min
   ·obtain⟨y,hy,_,h2⟩:=(hT.has (aI g) f).1 ⟨g,hg,rfl,hf'⟩;exact(hb y hy).1.path f h2
  clear hMf hd;refine Rr ?_;rw[show decide ((Ls.length:Int)<(Ls.length:Int))=false by simp];refine Rr ?_;refine bJ.ph 33 5 ?_;refine bJ.at a7 (fun x:List Nat × List Gr=>x.1.Nodup/\(∀i∈x.1,i<M0.length)/\x.2.length=x.1.length/\∀(i j:Nat) (y:Gr),x.1.reverse[i]? = some j->x.2[i]? = some y->∃g,M0[j]? = some g/\Eo g y)
   (fun x=>⟨[(13,.ip (.fn (.func 21) [] [])),(14,.sl 5 0 x.2.length),(78,.ptr 6 0 0)],D3 x.1 x.2 M0,3000,107⟩) (fun x=>M0.length-x.1.length) ([],[]) (jP (fT [(3001,6),(3002,5),(1,1)]) 3003) ⟨by simp,by simp,rfl,by simp⟩ (Ce hM1 ?_) ?_
  ·refine⟨⟨_,rfl,FM (id:=3000) rfl (DU rfl) rfl nM1⟩,⟨_,rfl,.nslk 3002 5 _ rfl (bG om rfl)⟩,⟨_,rfl,.ptr 3001 6 0 0 (bG om rfl)⟩,trivial⟩
  rintro⟨sn,H⟩ ⟨hs1,hs2,hs3,hs4⟩;simp only at hs1 hs2 hs3 hs4 ⊢;have lH:=cG H;refine Rr ?_;refine HA (mem:=D3 sn H M0) (id:=6) (mid:=1) (n:=M0.length) (sn:=sn) (es:=cM (pS sn) M0 0) (fun _ _ h=>h) rfl rfl (iP _ _ _) (fun i ky v hi hv=>?_) (fun hall=>?_)
  ·have he:=Dk (H:=H) hv;obtain⟨g,hg,rfl,rfl⟩:∃g,M0[i]? = some g/\ky = .str (dA (aI g))/\v=pG i:=by
    rw[jW,Jd] at hv;cases hg:M0[i]? with
    | none=>rw[hg] at hv;cases hv
    | some g=>
     rw[hg] at hv;simp only[Jv,Option.some.injEq,Prod.mk.injEq] at hv;refine⟨g,rfl,hv.1.symm, ?_⟩;rw[←hv.2];unfold pS;rw[JJ hi]
   refine Rr ?_;refine aD he ?_
   conv=>whnf
   have hil:=(JC.1 hg).1;refine cJ.conv a7 (Dm (sl':=[(13,.ip (.fn (.func 21) [] [])),(14,.sl 5 0 H.length),(16,.ptr 2 0 0),(78,.ptr 6 0 0)]) hM1 hg hi ⟨aT (.ip' nM1),⟨_,rfl,.sl 5 5 0 _ (bG om (Cg i 5 om))⟩,⟨_,rfl,.ptr _ 2 0 0 (bG om (HO i))⟩,⟨_,rfl,.ptr 6 6 0 0 (bG om (Cg i 6 om))⟩,trivial⟩) ?_;refine cJ.frame ?_;obtain⟨hb1,hb2,hb3⟩:=hMb g (Je hg);have hS:=EB g.fs om fun f hf'=>by have:=hb3 f hf';omega
   refine Rr ?_;refine aC.useR a7 [(3,0)] hS.glob rfl (.cons (.sl 3 0 0 _ rfl) (.cons (.same _ nM1) .nil)) ⟨eN 3 (aZ _),trivial⟩ rfl ?_;rintro r m n' ⟨rfl,rfl,z,hz1,hz2,rfl⟩;refine⟨[(3,.row 57 4 (aX z))],.tup' .nil,⟨eN 0 (aZ _),trivial⟩,rfl, ?_⟩;have hzl:z.length=g.fs.length:=hz1.length_eq;have hC:=Dq z om fun f hf'=>by have:=hb3 f (hz1.mem_iff.1 hf');omega
   rw[hzl] at hC;refine Rt ?_;obtain⟨d1,d2⟩:=DD rT hz1 hz2;rw[hzl] at d1 d2;refine aC.useN a7 [(3,0)] hC.glob rfl (.cons (.sl 3 0 0 _ rfl) (.cons (.same _ HQ) .nil)) ⟨eN 3 (aZ _),trivial⟩ rfl ?_;generalize eB cK z g.fs.length=dd at *;rintro r m n' ⟨rfl,ys,rfl,rfl,hy1,hy2,hy3⟩;refine⟨[(0,3)],.sl 3 0 dd.length,[(3,.row 57 4 ys)],3006,.sl 0 3 0 _ rfl,⟨eN 0 hy1,trivial⟩,rfl, ?_⟩;have hsl:(i::sn).length<=M0.length:=by
    have:=gC (l:=i::sn) (m:=List.range M0.length) (JU.2 ⟨hi,hs1⟩) fun a ha=>by
     rcases JA.1 ha with rfl|ha
     ·exact KN.2 hil
     ·exact KN.2 (hs2 a ha)
    simpa using this
   rw[KH] at hsl;refine Rr ?_;repeat((first|refine eF.2 ?_|refine aH ?_|refine aM (kB rfl rfl (by rw[lH]) (by simp;omega)) ?_);refine Rr ?_)
   refine⟨fun q hq w hw=>?_, ?_⟩
   ·have hne:∀m:Nat,(m=2∨m=3∨2999<m)->m≠w.1:=fun m hm=>by have:=wE w hw;omega
    rcases JA.1 hq with rfl|hq
    ·exact hne 3007 om
    rcases JA.1 hq with rfl|hq
    ·exact hne 3006 om
    rcases JA.1 hq with rfl|hq
    ·exact hne 3 om
    rcases JA.1 hq with rfl|hq
    ·exact hne 2 om
    ·cases hq
   ·refine Rr ?_;refine .mk (i::sn,H++[⟨g.min,g.oc,dd⟩]) (jP (fT [(3007,5),(6,6),(1,1)]) 3010) ⟨JU.2 ⟨hi,hs1⟩,fun a ha=>?_,by simp[hs3],fun a b y ha hy=>?_⟩ (Ds hM1 hy1 hy2 hy3 ?_) (by simp only[KH];omega)
    ·rcases JA.1 ha with rfl|ha
     ·exact hil
     ·exact hs2 a ha
    ·simp only[Kb] at ha hy;rcases JK a sn.length with h|h
     ·rw[Ji (by simpa using h)] at ha;rw[Ji om] at hy;exact hs4 a b y ha hy
     ·rw[Jo (by simpa using h)] at ha;rw[Jo om] at hy;simp only[K3] at ha;rw[hs3] at hy;generalize a-sn.length=t at ha hy;cases t with
      | zero=>simp at ha hy;subst ha hy;exact⟨g,hg,rfl,d1,d2⟩
      | succ t=>simp at ha
    ·exact⟨aT (.ip' nM1),⟨_,rfl,.slE (id:=3007) (bG om rfl) (by simp)⟩,⟨_,rfl,.ptr 6 6 0 0 (bG om rfl)⟩,trivial⟩
  ·have hHl:H.length<=1000:=by
    have:=gC (l:=sn) (m:=List.range M0.length) hs1 fun a ha=>KN.2 (hs2 a ha)
    simp at this;omega
   have hSG:=Ef H om fun v hv=>by
    obtain⟨a,ha⟩:=J4 hv;have hal:=(JC.1 ha).1;obtain⟨g,hg,hN⟩:=hs4 a _ v (I9 (by rw[K3];omega)) ha;have e1:v.min=g.min:=congrArg Prod.fst hN.1;have:=(hMb g (Je hg)).1;rw[e1];omega
   refine Rr ?_;refine aC.pre a7 [(5,5)] (mem':=[(5,.row 33 5 (a8 H))]) rfl ⟨eN 5 (bI _),trivial⟩ (.cons (.sl 5 5 0 _ rfl) (.cons (.same _ GG) .nil)) ?_;refine aC.useR a7 [(5,0)] hSG.glob rfl (.cons (.sl 5 0 0 _ rfl) (.cons (.same _ GG) .nil)) ⟨eN 5 (bI _),trivial⟩ rfl ?_;rintro r m n' ⟨rfl,rfl,z,hz1,hz2,rfl⟩;refine⟨[(5,.row 33 5 (a8 z))],.tup' .nil,⟨eN 0 (bI _),trivial⟩,rfl, ?_⟩;refine Rr ?_;have hR:z=hU Ls.flatten:=FK hT (s:=sn.reverse) ((List.reverse_perm sn).nodup_iff.2 hs1) (fun i=>⟨fun h=>hs2 i (Kk.1 h),fun h=>Kk.2 (hall i h)⟩) (by rw[K3];exact hs3) (fun a b y ha hy=>hs4 a b y ha hy) hz1 hz2;exact dN (r':=.il 5 (a8 (hU Ls.flatten))) (.fzR (id:=5) rfl rfl (.eq (bI _) (by rw[hR])) (by rw[cG,←hR];exact hz1.length_eq)) ⟨rfl,rfl,rfl⟩
end Go.Proofs.YtnbkfjjdlofdpaaGreatDoor
namespace Go.Ax
open Go
def nR(f:AV->Option AV):List AV->Option (List AV)
 | []=>some []
 | a::r=>match f a with
  | none=>none
  | some b=>match nR f r with
   | none=>none
   | some t=>some (b::t)
def frz:Nat->List (Nat × Nat)->aA->AV->Option AV
 | 0,_,_,_=>none
 | n+1,σ,m,v=>match v with
  | .bool b=>some (.bool b)
  | .int k i=>some (.int k i)
  | .str s=>some (.str s)
  | .nptr=>some .nptr
  | .nsl=>some .nsl
  | .nmap=>some .nmap
  | .nfn=>some .nfn
  | .nif=>some .nif
  | .sl id off len=>match lk σ id with
   | none=>match lk m id with
    | some (.row t sz xs)=>match Nat.ble (off+len) xs.length with
     | true=>match nR (frz n σ m) ((xs.drop off).take len) with
      | some ys=>some (.il sz ys)
      | none=>none
     | false=>none
    | _=>none
   | some _=>none
  | .il sz xs=>match nR (frz n σ m) xs with
   | some ys=>some (.il sz ys)
   | none=>none
  | .ifc t v=>match frz n σ m v with
   | some v'=>some (.ifc t v')
   | none=>none
  | .agg cs=>match nR (frz n σ m) cs with
   | some ys=>some (.agg ys)
   | none=>none
  | .tup cs=>match nR (frz n σ m) cs with
   | some ys=>some (.tup ys)
   | none=>none
  | _=>none
structure nM(m:aA)(σ:List (Nat × Nat))(v v':AV):Prop where
 cv:Cv m σ v v'
 nn:NN v'
 ce:mV m σ v.cells v'.cells
theorem nM.len{m:aA}{σ:List (Nat × Nat)}{v v':AV}(h:nM m σ v v'):v.cells.length=v'.cells.length:=h.ce.1
theorem dH{m:aA}{σ:List (Nat × Nat)}{f:AV->Option AV}(hf:∀v v',f v=some v'->nM m σ v v'):∀{l l':List AV},nR f l=some l'->l.length=l'.length/\∀(j:Nat) (a b:AV),l[j]? = some a->l'[j]? = some b->nM m σ a b
 | [],l',h=>by simp only[nR] at h;cases h;exact⟨rfl,fun j a b h=>by simp at h⟩
 | a::r,l',h=>by
  simp only[nR] at h;split at h
  ·cases h
  ·rename_i b hb;split at h
   ·cases h
   ·rename_i t ht;cases h;obtain⟨h1,h2⟩:=dH hf ht;refine⟨by simp[h1],fun j x y hx hy=>?_⟩;cases j with
    | zero=>simp at hx hy;subst hx hy;exact hf _ _ hb
    | succ j=>simp at hx hy;exact h2 j x y hx hy
theorem k0{m:aA}{σ:List (Nat × Nat)}{l l':List AV}(h1:l.length=l'.length)(h2:∀(j:Nat) (a b:AV),l[j]? = some a->l'[j]? = some b->nM m σ a b):hE l':=fun b hb=>by
 obtain⟨j,hj⟩:=J4 hb;obtain⟨a,ha⟩:=bC h1 hj;exact(h2 j a b ha hj).nn
theorem nM.one{m:aA}{σ:List (Nat × Nat)}{v v':AV}(h1:v.cells=[v])(h2:v'.cells=[v'])(hc:Cv m σ v v')(hn:NN v'):nM m σ v v':=
 ⟨hc,hn,by rw[h1,h2];exact mV.cons hc .nil⟩
theorem e9{m:aA}{σ:List (Nat × Nat)}:∀(n:Nat) (v v':AV),frz n σ m v=some v'->nM m σ v v'
 | 0,v,v',h=>by simp[frz] at h
 | n+1,v,v',h=>by
  have ih:=e9 (m:=m) (σ:=σ) n;cases v with
  | bool b=>simp only[frz] at h;cases h;exact .one rfl rfl (.same _ (.bool b)) (.bool b)
  | int k i=>simp only[frz] at h;cases h;exact .one rfl rfl (.same _ (.int k i)) (.int k i)
  | str s=>simp only[frz] at h;cases h;exact .one rfl rfl (.same _ (.str s)) (.str s)
  | nptr=>simp only[frz] at h;cases h;exact .one rfl rfl (.same _ .nptr) .nptr
  | nsl=>simp only[frz] at h;cases h;exact .one rfl rfl (.same _ .nsl) .nsl
  | nmap=>simp only[frz] at h;cases h;exact .one rfl rfl (.same _ .nmap) .nmap
  | nfn=>simp only[frz] at h;cases h;exact .one rfl rfl (.same _ .nfn) .nfn
  | nif=>simp only[frz] at h;cases h;exact .one rfl rfl (.same _ .nif) .nif
  | ptr id i j=>simp[frz] at h
  | mp id=>simp[frz] at h
  | ip v=>simp[frz] at h
  | fn f a b=>simp[frz] at h
  | junk=>simp[frz] at h
  | yld id=>simp[frz] at h
  | sl id off len=>
   simp only[frz] at h;split at h
   ·rename_i hs;split at h
    ·rename_i t sz xs hx;split at h
     ·rename_i hle;split at h
      ·rename_i ys hy;cases h;have hle:=JB hle;obtain⟨h1,h2⟩:=dH ih hy;have hget:∀(i:Nat) (x y:AV),xs[off+i]? = some x->ys[i]? = some y->nM m σ x y:=fun i x y hx hy=>by
        refine h2 i x y ?_ hy;have hlt:i<ys.length:=(JC.1 hy).1;rw[←h1] at hlt;rw[Jb,JL (by simp at hlt;omega),Jc];exact hx
       refine .one rfl rfl (.fz id off len t sz xs ys hx hs hle (by rw[←h1];simp;omega) (fun i x y hx hy=>(hget i x y hx hy).len) fun i x y j c c' hx hy hc hc'=>(hget i x y hx hy).ce.2 j c c' hc hc') ?_;exact NN.il' (k0 h1 h2)
      ·cases h
     ·cases h
    ·cases h
   ·cases h
  | il sz xs=>
   simp only[frz] at h;split at h
   ·rename_i ys hy;cases h;obtain⟨h1,h2⟩:=dH ih hy;refine .one rfl rfl (.il sz xs ys h1 (fun i x y hx hy=>(h2 i x y hx hy).len) fun i x y j c c' hx hy hc hc'=>(h2 i x y hx hy).ce.2 j c c' hc hc') ?_;exact NN.il' (k0 h1 h2)
   ·cases h
  | ifc t v=>
   simp only[frz] at h;split at h
   ·rename_i v' hv;cases h;exact .one rfl rfl (.ifc t v v' (ih v v' hv).cv) (.ifc t v' (ih v v' hv).nn)
   ·cases h
  | agg cs=>
   simp only[frz] at h;split at h
   ·rename_i ys hy;cases h;obtain⟨h1,h2⟩:=dH ih hy;have hl:mV m σ cs ys:=⟨h1,fun j c c' hc hc'=>(h2 j c c' hc hc').cv⟩
    exact⟨.agg' hl,.agg' (k0 h1 h2),hl⟩
   ·cases h
  | tup cs=>
   simp only[frz] at h;split at h
   ·rename_i ys hy;cases h;obtain⟨h1,h2⟩:=dH ih hy;have hl:mV m σ cs ys:=⟨h1,fun j c c' hc hc'=>(h2 j c c' hc hc').cv⟩
    exact .one rfl rfl (.tup' hl) (.tup' (k0 h1 h2))
   ·cases h
theorem FF{m:aA}{args bs:List AV}(n:Nat)(h:nR (frz n [] m) args=some bs):mV m [] args bs:=by
 obtain⟨h1,h2⟩:=dH (e9 n) h;exact⟨h1,fun j c c' hc hc'=>(h2 j c c' hc hc').cv⟩
def Fi:aA->List (Nat × Nat)
 | []=>[]
 | (i,_)::r=>(i,i)::Fi r
theorem GV{mem:aA}:∀{i:Nat} {b:AB},lk mem i=some b->lk (Fi mem) i=some i:=by
 induction mem with
 | nil=>intro i b h;simp[lk] at h
 | cons p r ih=>
  intro i b h;obtain⟨j,u⟩:=p;simp only[lk] at h;simp only[Fi,lk];split at h
  ·rename_i e;rw[Nat.eq_of_beq_eq_true e]
  ·exact ih h
def BN(m:aA):aA->Bool
 | []=>true
 | (i,b)::r=>(match b with
  | .row t sz xs=>match lk m i with
   | some (.row t' sz' xs')=>match nR (frz 30 [] []) xs with
    | some ys=>Nat.beq t t' && (Nat.beq sz sz' && (gK xs' xs && gK ys xs))
    | none=>false
   | _=>false
  | _=>false) && BN m r
theorem o7{m:aA}(σ:List (Nat × Nat)):∀{mem:aA},BN m mem=true->(∀p∈mem,lk σ p.1=some p.1)->dC m σ mem
 | [],h,hs=>trivial
 | (i,b)::r,h,hs=>by
  simp only[BN,JE] at h;refine⟨?_,o7 σ h.2 fun p hp=>hs p (JO _ hp)⟩;have h:=h.1;split at h
  ·rename_i t sz xs;split at h
   ·rename_i t' sz' xs' hl;split at h
    ·rename_i ys hy;simp only[JE] at h;obtain⟨h1,h2,h3,h4⟩:=h;have e1:=Nat.eq_of_beq_eq_true h1;have e2:=Nat.eq_of_beq_eq_true h2;have e3:=cX h3;have e4:=cX h4;subst e1 e2 e3 e4;obtain⟨g1,g2⟩:=dH (e9 30) hy;exact⟨i,ys,hs _ (JW ..),hl,.same (k0 g1 g2)⟩
    ·cases h
   ·cases h
  ·cases h
def I5(mem:aA)(want r:AV)(m:aA):Bool:=
 match frz 30 (Fi mem) m r with
 | some v=>match d7 v want with
  | true=>BN m mem
  | false=>false
 | none=>false
def Iy(mem:aA)(want r:AV)(m:aA):Prop:=
 match I5 mem want r m with
 | true=>True
 | false=>False
theorem E7:∀{mem:aA},(mem.map (·.1)).Nodup->∀p∈mem,lk (Fi mem) p.1=some p.1:=by
 intro mem hn p hp;have:∃b,lk mem p.1=some b:=by
  clear hn
  induction mem with
  | nil=>cases hp
  | cons q r ih=>
   obtain⟨j,u⟩:=q;simp only[lk];split
   ·exact⟨u,rfl⟩
   ·rename_i e;rcases JA.1 hp with rfl|hp
    ·simp at e
    ·exact ih hp
 obtain⟨b,hb⟩:=this;exact GV hb
def sC(nx:Nat):aA->aA->(aA->aA->Prop)->Prop
 | [],acc,K=>K acc []
 | (i,b)::r,acc,K=>match Nat.ble nx i with
  | true=>sC nx r ((i,b)::acc) K
  | false=>K acc ((i,b)::r)
def AG(f:AV->(AV->Prop)->Prop->Prop):List AV->(List AV->Prop)->Prop->Prop
 | [],K,_=>K []
 | a::r,K,N=>f a (fun b=>AG f r (fun t=>K (b::t)) N) N
def B7:Nat->aA->AV->(AV->Prop)->Prop->Prop
 | 0,_,_,_,N=>N
 | n+1,m,v,K,N=>match v with
  | .bool b=>K (.bool b)
  | .int k i=>K (.int k i)
  | .str s=>K (.str s)
  | .nptr=>K .nptr
  | .nsl=>K .nsl
  | .nmap=>K .nmap
  | .nfn=>K .nfn
  | .nif=>K .nif
  | .sl id off len=>match lk m id with
   | some (.row t sz xs)=>match Nat.ble (off+len) xs.length with
    | true=>AG (B7 n m) ((xs.drop off).take len) (fun ys=>K (.il sz ys)) N
    | false=>N
   | _=>N
  | .il sz xs=>AG (B7 n m) xs (fun ys=>K (.il sz ys)) N
  | .ifc t v=>B7 n m v (fun v'=>K (.ifc t v')) N
  | .agg cs=>AG (B7 n m) cs (fun ys=>K (.agg ys)) N
  | .tup cs=>AG (B7 n m) cs (fun ys=>K (.tup ys)) N
  | _=>N
theorem oR{f:AV->(AV->Prop)->Prop->Prop}{g:AV->Option AV}{N:Prop}(hf:∀v K,f v K N->N∨∃v',g v=some v'/\K v'):∀{l:List AV} {K:List AV->Prop},AG f l K N->N∨∃l',nR g l=some l'/\K l'
 | [],K,h=>.inr ⟨[],rfl,h⟩
 | a::r,K,h=>by
  rcases hf a _ h with h|⟨b,h1,h⟩
  ·exact .inl h
  ·rcases oR hf h with h|⟨t,h2,h⟩
   ·exact .inl h
   ·exact .inr ⟨b::t,by simp only[nR,h1,h2],h⟩
theorem DR{m:aA}{N:Prop}:∀(n:Nat) (v:AV) (K:AV->Prop),B7 n m v K N->N∨∃v',frz n [] m v=some v'/\K v'
 | 0,v,K,h=>.inl h
 | n+1,v,K,h=>by
  have ih:=DR (m:=m) (N:=N) n;cases v with
  | bool b=>exact .inr ⟨_,rfl,h⟩
  | int k i=>exact .inr ⟨_,rfl,h⟩
  | str s=>exact .inr ⟨_,rfl,h⟩
  | nptr=>exact .inr ⟨_,rfl,h⟩
  | nsl=>exact .inr ⟨_,rfl,h⟩
  | nmap=>exact .inr ⟨_,rfl,h⟩
  | nfn=>exact .inr ⟨_,rfl,h⟩
  | nif=>exact .inr ⟨_,rfl,h⟩
  | ptr id i j=>exact .inl h
  | mp id=>exact .inl h
  | ip v=>exact .inl h
  | fn f a b=>exact .inl h
  | junk=>exact .inl h
  | yld id=>exact .inl h
  | sl id off len=>
   simp only[B7] at h;split at h
   ·rename_i t sz xs hx;split at h
    ·rename_i hle;rcases oR ih h with h|⟨ys,h1,h⟩
     ·exact .inl h
     ·exact .inr ⟨_,by simp only[frz,lk,hx,hle,h1],h⟩
    ·exact .inl h
   ·exact .inl h
  | il sz xs=>
   simp only[B7] at h;rcases oR ih h with h|⟨ys,h1,h⟩
   ·exact .inl h
   ·exact .inr ⟨_,by simp only[frz,h1],h⟩
  | ifc t v=>
   simp only[B7] at h;rcases ih v _ h with h|⟨v',h1,h⟩
   ·exact .inl h
   ·exact .inr ⟨_,by simp only[frz,h1],h⟩
  | agg cs=>
   simp only[B7] at h;rcases oR ih h with h|⟨ys,h1,h⟩
   ·exact .inl h
   ·exact .inr ⟨_,by simp only[frz,h1],h⟩
  | tup cs=>
   simp only[B7] at h;rcases oR ih h with h|⟨ys,h1,h⟩
   ·exact .inl h
   ·exact .inr ⟨_,by simp only[frz,h1],h⟩
def Ip(nx:Nat)(K:AV->aA->Nat->Prop)(r:AV)(m:aA)(n:Nat):Prop:=
 sC nx m [] fun m1 rest=>B7 60 m1 r (fun r'=>K r' rest n) (K r m n)
theorem rE{nx:Nat}:∀{m acc:aA} {K:aA->aA->Prop},sC nx m acc K->∃m0 rest,m=m0++rest/\K (m0.reverse++acc) rest
 | [],acc,K,h=>⟨[],[],rfl,h⟩
 | (i,b)::r,acc,K,h=>by
  simp only[sC] at h;split at h
  ·obtain⟨m0,rest,h1,h2⟩:=rE h;exact⟨(i,b)::m0,rest,by rw[h1];rfl,by simpa using h2⟩
  ·exact⟨[],(i,b)::r,rfl,h⟩
theorem MR.sub{Γ:List (Nat × AV)}{X:Nat->Prop}{ρ:Nat->a6}{D:Nat->Prop}{mem rest:aA}{w:World}(hm:MR Γ X ρ D mem w)(hs:∀p∈rest,p∈mem)(hn:(rest.map (·.1)).Nodup):MR Γ X ρ D rest w:=by
 have ho:∀b,¬OX X ρ mem b->¬OX X ρ rest b:=by
  rintro b h (h'|⟨p,hp,h1,h2⟩)
  ·exact h (.inl h')
  ·exact h (.inr ⟨p,hs p hp,h1,h2⟩)
 refine⟨fun p h=>hm.low p (hs p h),fun p h hn=>?_,fun p h=>hm.emp p (hs p h),fun p h q h'=>hm.inj p (hs p h) q (hs q h'),hn,fun b hb=>⟨(hm.bar b hb).1,fun⟨p,hp,h1,h2⟩=>(hm.bar b hb).2 ⟨p,hs p hp,h1,h2⟩⟩,fun p h=>(hm.glo p h).mono (fun _ _=>rfl) (fun _ h=>h) fun b _ h=>⟨ho b h,rfl⟩⟩;obtain⟨o,h1,h2⟩:=hm.blk p (hs p h) hn;exact⟨o,h1,h2.mono (fun _ _=>rfl) (fun _ h=>h) fun b _ h=>⟨ho b h,rfl⟩⟩
theorem C8{P:Program}{Γ:List (Nat × AV)}(hΓ:∀p∈Γ,NN p.2){F:FuncId}{args:List AV}{mem:aA}{nx:Nat}{K:AV->aA->Nat->Prop}{Kp:Value->aA->Nat->Prop}(h:bZ P Γ F args mem nx (Ip nx K) Kp):bZ P Γ F args mem nx K Kp:=by
 refine⟨fun X D ρ w vs hD hm hv=>(h.run X D ρ w vs hD hm hv).mono ?_⟩;rintro e w' ⟨m',n',ρ',hn,hm',hext,hend⟩;rcases hend with⟨r,v,rfl,hq,hr⟩|⟨x,rfl,hq⟩
 ·obtain⟨m0,rest,rfl,hq⟩:=rE hq;rw[KZ] at hq;rcases DR 60 r _ hq with hq|⟨r',h1,hq⟩
  ·exact⟨_,n',ρ',hn,hm',hext,.inl ⟨r,v,rfl,hq,hr⟩⟩
  ·have hnd:=hm'.nod;rw[Jq,J2] at hnd;obtain⟨d1,d2,d3⟩:=hnd;have hp:kO (m0++rest) m0.reverse rest:=⟨fun p h=>JN _ (Kk.1 h),fun p h=>Jf _ h,fun p h=>by
    rcases JI.1 h with h|h
    ·exact .inl (Kk.2 h)
    ·exact .inr h,fun p h1 q h2=>d3 _ (JM.2 ⟨p,Kk.1 h1,rfl⟩) _ (JM.2 ⟨q,h2,rfl⟩),by
    rw[List.map_reverse];exact List.pairwise_reverse.2 (d1.imp fun h=>Ne.symm h)⟩
   obtain⟨p1,pv⟩:=hm'.part hp;have hF:=e9 (m:=m0.reverse) (σ:=[]) 60 r r' h1;obtain⟨-,v1,-⟩:=sP (σ:=[]) (m':=[]) (n':=n') hΓ hD p1 (fun p hp=>by cases hp) LH (fun i j k h=>by simp[lk] at h) (fun i j h=>by simp[lk] at h);have e:fG [] ρ' ρ'=ρ':=funext fun i=>oP (by rintro⟨j,h⟩;simp[lk] at h)
   have hv':=v1 r r' hF.cv v (pv _ _ hr);rw[e] at hv';refine⟨rest,n',ρ',hn,hm'.sub (fun p h=>Jf _ h) d2,⟨hext.le,hext.agree,hext.size,hext.keep,fun p h=>hext.fresh p (Jf _ h),hext.env⟩,.inl ⟨r',v,rfl,hq,hv'.mono (fun _ _=>rfl) (fun _ h=>h) fun b _ ho=>⟨fun h=>ho (.inl ?_),rfl⟩⟩⟩;exact h
 ·exact⟨m',n',ρ',hn,hm',hext,.inr ⟨x,rfl,hq⟩⟩
def EQ:List (Nat × List AV × AV)->Nat->List AV->(AV->Prop)->Prop->Prop
 | [],_,_,_,N=>N
 | (G,as',r)::t,F,args,K,N=>match Nat.beq G F with
  | true=>match gK args as' with
   | true=>K r
   | false=>EQ t F args K N
  | false=>EQ t F args K N
def dF(P:Program)(Γ:List (Nat × AV))(tb:List (Nat × List AV × AV)):Prop:=∀e∈tb,aS P Γ e.1 e.2.1 e.2.2/\hE e.2.1/\NN e.2.2
theorem Cz{P:Program}{Γ:List (Nat × AV)}(hΓ:∀p∈Γ,NN p.2){F:Nat}{args:List AV}{mem:aA}{nx:Nat}{K:AV->aA->Nat->Prop}{N:Prop}:∀{tb:List (Nat × List AV × AV)},dF P Γ tb->EQ tb F args (fun r=>K r mem nx) N->N∨aC P Γ F args mem nx K
 | [],_,h=>.inl h
 | (G,as',r)::t,ht,h=>by
  have h2:dF P Γ t:=fun e he=>ht e (JO _ he)
  simp only[EQ] at h;split at h
  ·rename_i hG;split at h
   ·rename_i he;have e1:=Nat.eq_of_beq_eq_true hG;have e2:=cX he;subst e1 e2;obtain⟨g1,g2,g3⟩:=ht _ (JW ..);exact .inr (g1.use hΓ g2 g3 h)
   ·exact Cz hΓ h2 h
  ·exact Cz hΓ h2 h
theorem dF.nil{P:Program}{Γ:List (Nat × AV)}:dF P Γ []:=fun e h=>by cases h
theorem dF.cons{P:Program}{Γ:List (Nat × AV)}{F:Nat}{xs:List AV}{r:AV}{t:List (Nat × List AV × AV)}(h:aS P Γ F xs r)(h1:nR (frz 30 [] []) xs=some xs)(h2:frz 30 [] [] r=some r)(ht:dF P Γ t):dF P Γ ((F,xs,r)::t):=by
 intro e he;rcases JA.1 he with rfl|he
 ·obtain⟨g1,g2⟩:=dH (m:=[]) (σ:=[]) (e9 30) h1;exact⟨h,k0 g1 g2,(e9 (m:=[]) (σ:=[]) 30 r r h2).nn⟩
 ·exact ht e he
end Go.Ax
namespace Go.Ax
open Go
noncomputable def IC{α:Type}(l:List (Nat × α))(j:Nat)(K:α->Prop):Prop:=
 List.rec (motive:=fun _=>Prop) False (fun p _ ih=>Prod.rec (motive:=fun _=>Prop) (fun i v=>Bool.rec (motive:=fun _=>Prop) ih (K v) (Nat.beq i j)) p) l
theorem z6{α:Type}(j:Nat)(K:α->Prop):∀l:List (Nat × α),IC l j K=fL (lk l j) K
 | []=>rfl
 | (i,v)::r=>by
  have ih:=z6 j K r
  show Bool.rec (motive:=fun _=>Prop) (IC r j K) (K v) (Nat.beq i j)=fL (lk ((i,v)::r) j) K
  rw[ih];simp only[lk];cases Nat.beq i j<;>rfl
noncomputable def IF{α:Type}(l:List (Nat × α))(j:Nat)(v:α):(List (Nat × α)->Prop)->Prop:=
 List.rec (motive:=fun _=>(List (Nat × α)->Prop)->Prop) (fun K=>K [(j,v)]) (fun p r ih=>fun K=>Prod.rec (motive:=fun _=>Prop) (fun i u=>Bool.rec (motive:=fun _=>Prop) (ih fun l=>K ((i,u)::l)) (K ((i,v)::r)) (Nat.beq i j)) p) l
theorem Do{α:Type}(j:Nat)(v:α):∀(l:List (Nat × α)) (K:List (Nat × α)->Prop),IF l j v K=y7 l j v K
 | [],K=>rfl
 | (i,u)::r,K=>by
  have ih:=Do j v r fun l=>K ((i,u)::l)
  show Bool.rec (motive:=fun _=>Prop) (IF r j v fun l=>K ((i,u)::l)) (K ((i,v)::r)) (Nat.beq i j)=y7 ((i,u)::r) j v K
  rw[ih];simp only[y7];cases Nat.beq i j<;>rfl
def Ie(v:Value)(K:AV->Prop):Prop:=
 match v with
 | .string s=>lZ s.data.toList fun l=>K (.str l)
 | v=>fL (lO v) K
noncomputable def eO(Γ:List (Nat × AV))(sl:List (Nat × AV))(x:Operand)(K:AV->Prop):Prop:=
 Operand.rec (motive:=fun _=>Prop) (fun t=>IC sl t K) (fun v=>Ie v K) (fun g=>IC Γ g fun v=>K (.ip v)) (fun f=>K (.fn (.func f) [] [])) x
theorem BB(Γ sl:List (Nat × AV))(x:Operand)(K:AV->Prop):eO Γ sl x K=dP Γ sl x K:=by
 cases x with
 | tmp t=>exact z6 t K sl
 | const v=>cases v<;>rfl
 | global g=>exact z6 g (fun v=>K (.ip v)) Γ
 | func f=>rfl
theorem sS:eO=dP:=by funext Γ sl x K;exact BB Γ sl x K
def Gx(Γ sl:List (Nat × AV))(K:AV->Prop)(a b:Operand)(c:AV):Prop:=match c with
 | .bool c=>D2 c (dP Γ sl a K) (dP Γ sl b K)
 | _=>False
def Gq(P:Program)(mem:aA)(nx:Nat)(src dst:TypeId)(a:AV)(K:AV->aA->Nat->Prop):Prop:=match P.underlying dst with
  | some (.slice _)=>k9 true P mem nx src dst a K
  | _=>Be true P mem src dst a fun v=>K v mem nx
section
variable (P:Program) (Γ:List (Nat × AV)) (H:Hk) (sl:List (Nat × AV)) (mem:aA) (nx:Nat) (K:AV->aA->Nat->Prop) (Kp:Value->aA->Nat->Prop)
noncomputable def DA(x:Operand):Prop:=eO Γ sl x fun v=>K v mem nx
noncomputable def Fc(c a b:Operand):Prop:=eO Γ sl c (Gx Γ sl (fun v=>K v mem nx) a b)
noncomputable def Hr(t:TypeId)(x:Operand):Prop:=eO Γ sl x fun v=>Ft P mem nx t v K
noncomputable def FY(t:TypeId)(x:Operand):Prop:=eO Γ sl x fun p=>zJ P mem t p fun v=>K v mem nx
noncomputable def C4(t:TypeId)(x y:Operand):Prop:=eO Γ sl x fun p=>eO Γ sl y fun v=>vK P mem t p v fun m=>K (.tup []) m nx
noncomputable def G2(x:Operand):Prop:=eO Γ sl x fun p=>fL (DJ p) fun v=>K v mem nx
noncomputable def G6(op:BinOp)(t:TypeId)(x y:Operand):Prop:=eO Γ sl x fun a=>eO Γ sl y fun b=>E9 true P op t x y a b fun v=>K v mem nx
noncomputable def I2(op:UnOp)(x:Operand):Prop:=eO Γ sl x fun a=>IA true op a fun v=>K v mem nx
noncomputable def FP(src dst:TypeId)(x:Operand):Prop:=eO Γ sl x fun a=>Gq P mem nx src dst a K
noncomputable def Iu(t:TypeId)(x:Operand)(f:Nat):Prop:=eO Γ sl x fun p=>jC P t f p fun v=>K v mem nx
noncomputable def Iw(t:TypeId)(x:Operand)(f:Nat):Prop:=eO Γ sl x fun p=>wV P t f p fun v=>K v mem nx
noncomputable def It(t:TypeId)(x ix:Operand):Prop:=eO Γ sl x fun p=>eO Γ sl ix fun i=>jF true P mem t p i fun v=>K v mem nx
noncomputable def Iq(t:TypeId)(x ix:Operand):Prop:=eO Γ sl x fun p=>eO Γ sl ix fun i=>vX true P t p i fun v=>K v mem nx
noncomputable def I0(x:Operand)(i:Nat):Prop:=eO Γ sl x fun p=>fL (j6 p i) fun v=>K v mem nx
noncomputable def Fp(t:TypeId)(x ix:Operand)(ok:Bool):Prop:=eO Γ sl x fun p=>eO Γ sl ix fun i=>fL (f0 P mem t p i ok) fun v=>K v mem nx
noncomputable def II(t:TypeId)(x y z:Operand):Prop:=eO Γ sl x fun p=>eO Γ sl y fun k=>eO Γ sl z fun v=>gN P mem t p k v fun m=>K (.tup []) m nx
noncomputable def HB(x:Operand):Prop:=eO Γ sl x fun v=>fL (quo v) fun y=>Kp y mem nx
def GI(t:TypeId)(parts:Array (Nat × Operand)):Prop:=iI Γ sl parts.toList fun ps=>vI P t ps fun v=>K v mem nx
def I8(t:TypeId)(len:Nat)(parts:Array (Nat × Operand)):Prop:=iI Γ sl parts.toList fun ps=>gW P mem nx t len ps K
noncomputable def EY(ce:Callee)(args:Array Operand)(ts:Array TypeId):Prop:=
 Callee.rec (motive:=fun _=>Prop) (fun f=>A5 P Γ sl f args.toList (fun v=>K v mem nx) fun F l=>H.call F l mem nx K Kp) (fun _ _=>False) (fun b=>oA true P Γ sl mem nx b args.toList ts.toList K) ce
noncomputable def G0(c:Call):Prop:=Call.rec (motive:=fun _=>Prop) (fun ce args ts=>EY P Γ H sl mem nx K Kp ce args ts) c
def d5(op:Op):Prop:=xE true P Γ H sl mem nx op K Kp
noncomputable def Hl(op:Op):Prop:=
 Op.rec (motive:=fun _=>Prop)
  (DA Γ sl mem nx K) (DA Γ sl mem nx K) (Fc Γ sl mem nx K) (fun t=>vS P mem nx t K) (Hr P Γ sl mem nx K) (GI P Γ sl mem nx K) (I8 P Γ sl mem nx K)
  (II P Γ sl mem nx K) (FY P Γ sl mem nx K) (C4 P Γ sl mem nx K) (fun g=>d5 P Γ H sl mem nx K Kp (.ready g)) (fun g=>d5 P Γ H sl mem nx K Kp (.waits g)) (G2 Γ sl mem nx K)
  (fun op t x y _=>G6 P Γ sl mem nx K op t x y) (fun op _ x=>I2 Γ sl mem nx K op x) (FP P Γ sl mem nx K) (fun t x=>d5 P Γ H sl mem nx K Kp (.sliceToArrayPointer t x)) (fun t x=>d5 P Γ H sl mem nx K Kp (.makeInterface t x))
  (fun a b c=>d5 P Γ H sl mem nx K Kp (.makeFunc a b c)) (fun a b=>d5 P Γ H sl mem nx K Kp (.makeMap a b)) (fun a b=>d5 P Γ H sl mem nx K Kp (.makeChan a b)) (fun a b c=>d5 P Γ H sl mem nx K Kp (.makeSlice a b c))
  (fun a b c d e=>d5 P Γ H sl mem nx K Kp (.slice a b c d e)) (Iu P Γ sl mem nx K) (Iw P Γ sl mem nx K) (It P Γ sl mem nx K) (Iq P Γ sl mem nx K) (Fp P Γ sl mem nx K) (II P Γ sl mem nx K)
  (fun a b c=>d5 P Γ H sl mem nx K Kp (.mapEntry a b c)) (fun a b c d=>d5 P Γ H sl mem nx K Kp (.entryStore a b c d)) (fun a b=>d5 P Γ H sl mem nx K Kp (.range a b)) (fun a b=>d5 P Γ H sl mem nx K Kp (.next a b)) (fun a=>d5 P Γ H sl mem nx K Kp (.entry a))
  (fun a b c d=>d5 P Γ H sl mem nx K Kp (.typeAssert a b c d)) (I0 Γ sl mem nx K) (G0 P Γ H sl mem nx K Kp) (fun c=>d5 P Γ H sl mem nx K Kp (.go c)) (fun c=>d5 P Γ H sl mem nx K Kp (.defer c)) (HB Γ sl mem nx Kp)
  (fun a b=>d5 P Γ H sl mem nx K Kp (.send a b)) (fun a b c=>d5 P Γ H sl mem nx K Kp (.recv a b c)) (fun a b=>d5 P Γ H sl mem nx K Kp (.select a b)) op
theorem GP(op:Op):Hl P Γ H sl mem nx K Kp op=xE true P Γ H sl mem nx op K Kp:=by
 cases op with
 | call c=>
  obtain⟨ce,args,ts⟩:=c;cases ce<;>rfl
 | pick c a b=>simp only[Hl,Fc,sS];first|done|rfl
 | convert a b c=>simp only[Hl,FP,sS];first|done|rfl
 | _=>first|rfl|(simp only[Hl,DA,Hr,FY,C4,G2,G6,I2,Iu,Iw,It,Iq,I0,Fp,II,HB,sS];first|done|rfl)
end
noncomputable def F8(sl:List (Nat × AV))(nt:Nat)(d:Option Nat)(v:AV)(mem:aA)(nx:Nat)(K:St->Prop):Prop:=
 Option.rec (motive:=fun _=>Prop) (K ⟨sl,mem,nx,nt⟩) (fun d=>Bool.rec (motive:=fun _=>Prop) False (IF sl d v fun sl=>K ⟨sl,mem,nx,nt⟩) (Nat.blt d nt)) d
theorem FH(sl:List (Nat × AV))(m0:aA)(n0 nt:Nat)(d:Option Nat)(v:AV)(mem:aA)(nx:Nat)(K:St->Prop):F8 sl nt d v mem nx K=gQ ⟨sl,m0,n0,nt⟩ d v mem nx K:=by
 cases d with
 | none=>rfl
 | some d=>
  show Bool.rec (motive:=fun _=>Prop) False (IF sl d v _) (Nat.blt d nt)=gF (Nat.blt d nt) (y7 sl d v _)
  rw[Do];cases Nat.blt d nt<;>rfl
noncomputable def Dp(ops:List Oper)(sl:List (Nat × AV))(g:Option (Nat × Bool))(yes no:Prop):Prop:=
 Option.rec (motive:=fun _=>Prop) yes (fun p=>jG ops sl (some p) yes no) g
theorem DP(ops:List Oper)(sl:List (Nat × AV))(g:Option (Nat × Bool))(yes no:Prop):Dp ops sl g yes no=jG ops sl g yes no:=by cases g<;>rfl
section
variable (P:Program) (Γ:List (Nat × AV)) (H:Hk)
noncomputable def Fb(ops:List Oper)(Kp:Value->St->Prop)(ih:St->Prop)(sl:List (Nat × AV))(mem:aA)(nx nt:Nat)(o:Oper):Prop:=
 Oper.rec (motive:=fun _=>Prop) (fun dst op _ _ _ g=>Dp ops sl g (Hl P Γ H sl mem nx (fun v mem nx=>F8 sl nt dst v mem nx ih) (fun x mem nx=>Kp x ⟨sl,mem,nx,nt⟩) op) (F8 sl nt dst (.tup []) mem nx ih)) o
noncomputable def FD(ops:List Oper)(K:St->Prop)(Kp:Value->St->Prop)(l:List Oper):St->Prop:=
 List.rec (motive:=fun _=>St->Prop) K (fun o r ih=>fun s=>St.rec (motive:=fun _=>Prop) (fun sl mem nx nt=>Fb P Γ H ops Kp ih sl mem nx nt o) s) l
theorem A1(ops:List Oper)(K:St->Prop)(Kp:Value->St->Prop):∀(l:List Oper) (s:St),FD P Γ H ops K Kp l s=zO true P Γ H ops l s K Kp
 | [],s=>rfl
 | o::r,s=>by
  have ih:FD P Γ H ops K Kp r=fun s=>zO true P Γ H ops r s K Kp:=funext fun s=>A1 ops K Kp r s
  obtain⟨sl,mem,nx,nt⟩:=s
  show Fb P Γ H ops Kp (FD P Γ H ops K Kp r) sl mem nx nt o=_
  rw[ih];obtain⟨dst,op,ty,pos,aft,g⟩:=o
  show Dp ops sl g _ _=jG ops sl g _ _
  rw[DP,GP];simp only[FH sl mem nx nt];first|done|rfl
def Gv(k:St->Prop)(Q:Exit->St->Prop)(e:Exit)(s:St):Prop:=match e with
 | .normal=>k s
 | e=>Q e s
def Ij(id:Nat)(Q:Exit->St->Prop)(e:Exit)(s:St):Prop:=match e with
 | .exit i=>match Nat.beq i id with
  | true=>Q .normal s
  | false=>Q (.exit i) s
 | e=>Q e s
def Ik(Q:Exit->St->Prop)(e:Exit)(s:St):Prop:=match e with
 | .goto _=>False
 | e=>Q e s
def Gm(x y:Prop)(v:AV):Prop:=match v with
 | .bool b=>D2 b x y
 | _=>False
noncomputable def IX(id:Nat)(ops:Array Oper)(draw:Bool)(s:St)(Q:Exit->St->Prop):Prop:=
 Bool.rec (motive:=fun _=>Prop) (FD P Γ H ops.toList (Q .normal) (fun x s'=>Q (.panic [pe x]) s') ops.toList s) (oF true P Γ H (.region id ops true) s Q) draw
noncomputable def IY(c:Operand)(x y:St->(Exit->St->Prop)->Prop)(s:St)(Q:Exit->St->Prop):Prop:=
 St.rec (motive:=fun _=>Prop) (fun sl _ _ _=>eO Γ sl c (Gm (x s Q) (y s Q))) s
noncomputable def pW(c:Code):St->(Exit->St->Prop)->Prop:=
 Code.rec (motive:=fun _=>St->(Exit->St->Prop)->Prop)
  (fun s Q=>Q .normal s)
  (IX P Γ H)
  (fun _ _ ihx ihy=>fun s Q=>ihx s (Gv (fun s'=>ihy s' Q) Q))
  (fun c _ _ ihx ihy=>IY Γ c ihx ihy)
  (fun id _ ih=>fun s Q=>ih s (Ij id Q))
  (fun b _=>fun s Q=>H.loop b s Q)
  (fun g ps ca cb _ _=>fun s Q=>oF true P Γ H (.rangeFunc g ps ca cb) s Q)
  (fun i=>fun s Q=>Q (.exit i) s)
  (fun _ ih=>fun s Q=>ih s (Ik Q))
  (fun _=>fun s Q=>Q .normal s)
  (fun _=>fun _ _=>False)
  (fun s Q=>Q .ret s)
  (fun _=>fun _ _=>False) c
theorem BT:∀(c:Code) (s:St) (Q:Exit->St->Prop),pW P Γ H c s Q=oF true P Γ H c s Q:=by
 intro c
 induction c with
 | seq x y ihx ihy=>
  intro s Q
  show pW P Γ H x s (Gv (fun s'=>pW P Γ H y s' Q) Q)=_
  rw[ihx];have:(fun s'=>pW P Γ H y s' Q)=fun s'=>oF true P Γ H y s' Q:=funext fun s'=>ihy s' Q
  rw[this];rfl
 | cond c x y ihx ihy=>
  intro s Q;obtain⟨sl,mem,nx,nt⟩:=s
  show eO Γ sl c (Gm (pW P Γ H x _ Q) (pW P Γ H y _ Q))=_
  rw[ihx,ihy,BB];rfl
 | block id c ih=>intro s Q;exact ih s _
 | scope c ih=>intro s Q;exact ih s _
 | region id ops draw=>
  intro s Q;cases draw with
  | true=>rfl
  | false=>exact A1 P Γ H _ _ _ _ s
 | _=>intro s Q;rfl
end
def Hn(F:Nat):List (Nat × List AV × AV)->Bool
 | []=>false
 | (G,_,_)::r=>match Nat.beq G F with
  | true=>true
  | false=>Hn F r
def IV(ts:List (Nat × List AV × AV))(F:Nat)(args:List AV)(mem:aA)(K:AV->Prop)(N:Prop):Prop:=match Hn F ts with
 | false=>N
 | true=>AG (B7 60 mem) args (fun as'=>EQ ts F as' K N) N
theorem Fg{F:Nat}{args:List AV}{K:AV->Prop}{N:Prop}:∀{tb:List (Nat × List AV × AV)},EQ tb F args K N->N∨∃r,(F,args,r)∈tb/\K r
 | [],h=>.inl h
 | (G,as',r)::t,h=>by
  simp only[EQ] at h;have hr:EQ t F args K N->N∨∃r',(F,args,r')∈(G,as',r)::t/\K r':=fun h=>(Fg h).imp id fun⟨r',h1,h2⟩=>⟨r',JO _ h1,h2⟩
  split at h
  ·rename_i hG;split at h
   ·rename_i he;have e1:=Nat.eq_of_beq_eq_true hG;have e2:=cX he;subst e1 e2;exact .inr ⟨r,JW ..,h⟩
   ·exact hr h
  ·exact hr h
def lJ(P:Program)(Γ:List (Nat × AV))(ts:List (Nat × List AV × AV)):Prop:=∀e∈ts,aS P Γ e.1 e.2.1 e.2.2/\Sc e.2.2
theorem lJ.nil{P:Program}{Γ:List (Nat × AV)}:lJ P Γ []:=fun e h=>by cases h
theorem lJ.cons{P:Program}{Γ:List (Nat × AV)}{F:Nat}{xs:List AV}{r:AV}{t:List (Nat × List AV × AV)}(h:aS P Γ F xs r)(h1:Sc r)(ht:lJ P Γ t):lJ P Γ ((F,xs,r)::t):=by
 intro e he;rcases JA.1 he with rfl|he
 ·exact⟨h,h1⟩
 ·exact ht e he
theorem HT{P:Program}{Γ:List (Nat × AV)}(hΓ:∀p∈Γ,NN p.2){F:Nat}{args:List AV}{mem:aA}{nx:Nat}{K:AV->aA->Nat->Prop}{N:Prop}{ts:List (Nat × List AV × AV)}(ht:lJ P Γ ts)(h:IV ts F args mem (fun r=>K r mem nx) N):N∨aC P Γ F args mem nx K:=by
 unfold IV at h;split at h
 ·exact .inl h
 ·rcases oR (fun v K h=>DR 60 v K h) h with h|⟨as',h1,h⟩
  ·exact .inl h
  ·rcases Fg h with h|⟨r,h2,h⟩
   ·exact .inl h
   ·obtain⟨g1,g2⟩:=ht _ h2;exact .inr (g1.lend hΓ (FF 60 h1) g2 h)
def EP:List (AV × AV)->List (AV × AV)->Bool
 | [],[]=>true
 | (a,b)::r,(c,d)::t=>d7 a c && (d7 b d && EP r t)
 | _,_=>false
theorem At:∀{l m:List (AV × AV)},EP l m=true->l=m
 | [],[],_=>rfl
 | (a,b)::r,(c,d)::t,h=>by
  simp only[EP,JE] at h;rw[iY h.1,iY h.2.1,At h.2.2]
 | [],_::_,h=>by cases h
 | _::_,[],h=>by cases h
def Bf:aA->aA->Bool
 | [],[]=>true
 | (i,a)::r,(j,b)::t=>Nat.beq i j && ((match a,b with
  | .row t1 s1 xs,.row t2 s2 ys=>Nat.beq t1 t2 && (Nat.beq s1 s2 && gK xs ys)
  | .mapb es,.mapb es'=>EP es es'
  | _,_=>false) && Bf r t)
 | _,_=>false
theorem xN:∀{l m:aA},Bf l m=true->l=m
 | [],[],_=>rfl
 | (i,a)::r,(j,b)::t,h=>by
  simp only[Bf,JE] at h;obtain⟨h1,h2,h3⟩:=h;rw[Nat.eq_of_beq_eq_true h1,xN h3];split at h2
  ·simp only[JE] at h2;rw[Nat.eq_of_beq_eq_true h2.1,Nat.eq_of_beq_eq_true h2.2.1,cX h2.2.2]
  ·rw[At h2]
  ·cases h2
 | [],_::_,h=>by cases h
 | _::_,[],h=>by cases h
structure Xf where
 F:Nat
 args:List AV
 mem:aA
 nx:Nat
 r:AV
 m:aA
 n:Nat
def Xf.ok(P:Program)(Γ:List (Nat × AV))(x:Xf):Prop:=aC P Γ x.F x.args x.mem x.nx fun r m n=>r=x.r/\m=x.m/\n=x.n
def Gk:List Xf->Nat->List AV->aA->Nat->(AV->aA->Nat->Prop)->Prop->Prop
 | [],_,_,_,_,_,N=>N
 | x::t,F,args,mem,nx,K,N=>match Nat.beq x.F F with
  | true=>match Nat.beq x.nx nx && (gK args x.args && Bf mem x.mem) with
   | true=>K x.r x.m x.n
   | false=>Gk t F args mem nx K N
  | false=>Gk t F args mem nx K N
theorem Dr{P:Program}{Γ:List (Nat × AV)}{F:Nat}{args:List AV}{mem:aA}{nx:Nat}{K:AV->aA->Nat->Prop}{N:Prop}:∀{t:List Xf},(∀x∈t,x.ok P Γ)->Gk t F args mem nx K N->N∨aC P Γ F args mem nx K
 | [],_,h=>.inl h
 | x::t,ht,h=>by
  have h2:∀x∈t,x.ok P Γ:=fun e he=>ht e (JO _ he)
  simp only[Gk] at h;split at h
  ·rename_i hF;split at h
   ·rename_i he;simp only[JE] at he;have e1:=Nat.eq_of_beq_eq_true hF;have e2:=Nat.eq_of_beq_eq_true he.1;have e3:=cX he.2.1;have e4:=xN he.2.2;subst e1 e2 e3 e4;exact .inr ((ht x (JW ..)).mono fun r m n ⟨h1,h2,h3⟩=>by rw[h1,h2,h3];exact h)
   ·exact Dr h2 h
  ·exact Dr h2 h
def AC(f:AV->List Nat->List Nat):List AV->List Nat->List Nat
 | [],acc=>acc
 | a::r,acc=>AC f r (f a acc)
def p9:Nat->AV->List Nat->List Nat
 | 0,_,acc=>acc
 | n+1,v,acc=>match v with
  | .ptr id _ _=>id::acc
  | .sl id _ _=>id::acc
  | .mp id=>id::acc
  | .yld id=>id::acc
  | .ip v=>p9 n v acc
  | .il _ xs=>AC (p9 n) xs acc
  | .fn _ a b=>AC (p9 n) b (AC (p9 n) a acc)
  | .ifc _ v=>p9 n v acc
  | .agg xs=>AC (p9 n) xs acc
  | .tup xs=>AC (p9 n) xs acc
  | _=>acc
def Ho:List (AV × AV)->List Nat->List Nat
 | [],acc=>acc
 | (a,b)::r,acc=>Ho r (p9 60 b (p9 60 a acc))
def HY:List (Nat × AV)->List Nat->List Nat
 | [],acc=>acc
 | (_,a)::r,acc=>HY r (p9 60 a acc)
def Hf(b:AB)(acc:List Nat):List Nat:=match b with
 | .row _ _ xs=>AC (p9 60) xs acc
 | .mapb es=>Ho es acc
 | .loop sl _ _ _ _ _ _=>HY sl acc
 | .iter mid _ _=>mid::acc
def HG:aA->List Nat->List Nat
 | [],acc=>acc
 | (_,b)::r,acc=>HG r (Hf b acc)
def DL(nx:Nat)(m:aA):Nat->List Nat->List Nat->List Nat
 | 0,todo,bK=>todo++bK
 | _+1,[],bK=>bK
 | f+1,i::t,bK=>match Nat.ble nx i with
  | false=>DL nx m f t bK
  | true=>match CI i bK with
   | true=>DL nx m f t bK
   | false=>match lk m i with
    | none=>DL nx m f t bK
    | some b=>DL nx m f (Hf b t) (i::bK)
def w9(bK:List Nat):aA->(aA->Prop)->Prop
 | [],K=>K []
 | (i,b)::r,K=>match CI i bK with
  | true=>w9 bK r fun m=>K ((i,b)::m)
  | false=>w9 bK r K
def Ir(nx:Nat)(K:AV->aA->Nat->Prop)(r:AV)(m:aA)(n:Nat):Prop:=
 sC nx m [] fun m1 rest=>lZ (DL nx m 100000 (p9 60 r (HG rest [])) []) fun bK=>w9 bK m1.reverse fun m2=>pY m2 rest fun m=>K r m n
theorem vT{bK:List Nat}:∀{m:aA} {K:aA->Prop},w9 bK m K->∃m',List.Sublist m' m/\K m'
 | [],K,h=>⟨[],.slnil,h⟩
 | (i,b)::r,K,h=>by
  simp only[w9] at h;split at h
  ·obtain⟨m',h1,h2⟩:=vT h;exact⟨_,h1.cons_cons _,h2⟩
  ·obtain⟨m',h1,h2⟩:=vT h;exact⟨_,h1.cons _,h2⟩
theorem CG{P:Program}{Γ:List (Nat × AV)}{F:FuncId}{args:List AV}{mem:aA}{nx:Nat}{K:AV->aA->Nat->Prop}{Kp:Value->aA->Nat->Prop}(h:bZ P Γ F args mem nx (Ir nx K) Kp):bZ P Γ F args mem nx K Kp:=by
 refine⟨fun X D ρ w vs hD hm hv=>(h.run X D ρ w vs hD hm hv).mono ?_⟩;rintro e w' ⟨m',n',ρ',hn,hm',hext,hend⟩;rcases hend with⟨r,v,rfl,hq,hr⟩|⟨x,rfl,hq⟩
 ·obtain⟨m0,rest,rfl,hq⟩:=rE hq;rw[KZ,KL] at hq;obtain⟨m2,hs,hq⟩:=vT (fA.1 hq);have hq:=cO.1 hq;have hsub:List.Sublist (m2++rest) (m0++rest):=hs.append (List.Sublist.refl rest);have hin:∀p∈m2++rest,p∈m0++rest:=fun p hp=>hsub.subset hp
  have hnd:((m2++rest).map (·.1)).Nodup:=hm'.nod.sublist (hsub.map _);have ho:∀b,¬OX X ρ' (m0++rest) b->¬OX X ρ' (m2++rest) b:=by
   rintro b h (h'|⟨p,hp,h1,h2⟩)
   ·exact h (.inl h')
   ·exact h (.inr ⟨p,hin p hp,h1,h2⟩)
  exact⟨m2++rest,n',ρ',hn,hm'.sub hin hnd,⟨hext.le,hext.agree,hext.size,hext.keep,fun p h=>hext.fresh p (hin p h),hext.env⟩,.inl ⟨r,v,rfl,hq,hr.mono (fun _ _=>rfl) (fun _ h=>h) fun b _ h=>⟨ho b h,rfl⟩⟩⟩
 ·exact⟨m',n',ρ',hn,hm',hext,.inr ⟨x,rfl,hq⟩⟩
theorem C0(P:Program)(Γ:List (Nat × AV))(H:Hk):pW P Γ H=oF true P Γ H:=funext fun c=>funext fun s=>funext fun Q=>BT P Γ H c s Q
noncomputable def DC(P:Program)(Γ:List (Nat × AV))(H:Hk)(tx:List Xf)(ts tb:List (Nat × List AV × AV))(dl pl gl:List Nat)(F:Nat)(args:List AV)(mem:aA)(nx:Nat)(K:AV->aA->Nat->Prop)(Kp:Value->aA->Nat->Prop):Prop:=
 Gk tx F args mem nx K (EQ tb F args (fun r=>K r mem nx) (IV ts F args mem (fun r=>K r mem nx) (match Nat.beq F YF with
    | false=>match P.funcs[F]? with
     | some fn=>match fn.body with
      | some c=>match CI F dl with
       | false=>match CI F pl with
        | false=>match CI F gl with
         | false=>l7 fn.ntmps args mem nx fun s=>pW P Γ H c s (yK P fn.results.toList K Kp)
         | true=>l7 fn.ntmps args mem nx fun s=>pW P Γ H c s (yK P fn.results.toList (Ir nx K) Kp)
        | true=>l7 fn.ntmps args mem nx fun s=>pW P Γ H c s (yK P fn.results.toList (Ip nx K) Kp)
       | true=>l7 fn.ntmps args mem nx fun s=>AK true P Γ H c s (De P Γ H fn.results.toList K Kp)
      | none=>False
     | none=>False
    | true=>zY P Γ H args mem nx K)))
def G8(H:Hk)(c:Code)(Q:Exit->St->Prop)(e:Exit)(s':St):Prop:=match e with
 | .normal=>H.loop c s' Q
 | e=>Q e s'
noncomputable def pA(P:Program)(Γ:List (Nat × AV))(tx:List Xf)(ts tb:List (Nat × List AV × AV))(dl pl gl:List Nat)(n:Nat):Hk:=
 Nat.rec (motive:=fun _=>Hk) ⟨fun _ _ _ _ _ _=>False,fun _ _ _=>False⟩ (fun _ H=>⟨DC P Γ H tx ts tb dl pl gl,fun c s Q=>pW P Γ H c s (G8 H c Q)⟩) n
theorem x7(P:Program)(Γ:List (Nat × AV))(hΓ:∀p∈Γ,NN p.2){tx:List Xf}{ts tb:List (Nat × List AV × AV)}(hx':∀x∈tx,x.ok P Γ)(hs':lJ P Γ ts)(ht:dF P Γ tb)(dl pl gl:List Nat):∀n B,mX P Γ B (pA P Γ tx ts tb dl pl gl n) /\
  ∀c s Q,(pA P Γ tx ts tb dl pl gl n).loop c s Q->∀rd X ds D ρ a w,(∀i,D i->i<B)->SR Γ X ds ρ (dn D B s.nx) s a w->B<=s.nx->o6 rd ds c ->
   Code.roundsIn (FW rd) 0 P c (fun e a' w'=>∃(s':St) (ρ':Nat->a6),Q e s'/\B<=s'.nx/\SR Γ X ds ρ' (dn D B s'.nx) s' a' w'/\Ext D ρ s.mem w ρ' (dn D B s'.nx) s'.mem w') n a w:=by
 intro n
 induction n with
 | zero=>exact fun B=>⟨⟨fun _ _ _ _ _ _ h=>h.elim,fun _ _ _ h=>h.elim⟩,fun _ _ _ h=>h.elim⟩
 | succ n ih=>
  intro B;have hr:∀c s Q,(pA P Γ tx ts tb dl pl gl (n+1)).loop c s Q->∀rd X ds D ρ a w,(∀i,D i->i<B)->SR Γ X ds ρ (dn D B s.nx) s a w->B<=s.nx->o6 rd ds c ->
    Code.roundsIn (FW rd) 0 P c (fun e a' w'=>∃(s':St) (ρ':Nat->a6),Q e s'/\B<=s'.nx/\SR Γ X ds ρ' (dn D B s'.nx) s' a' w'/\Ext D ρ s.mem w ρ' (dn D B s'.nx) s'.mem w') (n+1) a w:=by
   intro c s Q h rd X ds D ρ a w hD hs hB hno;have h:pW P Γ (pA P Γ tx ts tb dl pl gl n) c s (G8 (pA P Γ tx ts tb dl pl gl n) c Q):=h;rw[BT] at h;have h':=(bP (ih B).1 c s _ h).run rd X ds D ρ a w hD hs hB hno;rw[roundsIn_succ];refine wpIn_mono h' ?_;rintro e a1 w1 ⟨s1,ρ1,hq,hB1,hs1,hext⟩;cases e with
   | normal=>
    have key:=(ih B).2 c s1 Q hq rd X ds D ρ1 a1 w1 hD hs1 hB1 hno;refine pE n a1 w1 _ _ ?_ key;rintro e a2 w2 ⟨s2,ρ2,h1,h2,h3,h4⟩;exact⟨s2,ρ2,h1,h2,h3,hext.trans h4⟩
   | exit id=>exact⟨s1,ρ1,hq,hB1,hs1,hext⟩
   | goto l=>exact⟨s1,ρ1,hq,hB1,hs1,hext⟩
   | ret=>exact⟨s1,ρ1,hq,hB1,hs1,hext⟩
   | panic ch=>exact⟨s1,ρ1,hq,hB1,hs1,hext⟩
   | outgrown=>exact⟨s1,ρ1,hq,hB1,hs1,hext⟩
  refine⟨⟨fun F args mem nx K Kp h=>?_,fun c s Q h=>⟨fun rd X ds D ρ a w hD hs hB hno=>wpIn_loop_rounds (n+1) (hr c s Q h rd X ds D ρ a w hD hs hB hno.loop)⟩⟩,hr⟩
  replace h:DC P Γ (pA P Γ tx ts tb dl pl gl n) tx ts tb dl pl gl F args mem nx K Kp:=h
  simp only[DC,C0] at h;rcases Dr (K:=K) hx' h with h0|h'
  rotate_left
  ·exact h'.toP
  clear h;rcases Cz (K:=K) hΓ ht h0 with h'|h'
  rotate_left
  ·exact h'.toP
  clear h0;rcases HT (K:=K) hΓ hs' h' with h|h'
  rotate_left
  ·exact h'.toP
  split at h
  ·rename_i hF;split at h
   ·rename_i fn hf;split at h
    ·rename_i c hc;split at h
     ·split at h
      ·split at h
       ·exact gL hf hc ((bP (ih nx).1 _ _ _ (e7 h)).mono fun _ _ h=>vD h) hF
       ·exact CG (gL hf hc ((bP (ih nx).1 _ _ _ (e7 h)).mono fun _ _ h=>vD h) hF)
      ·exact C8 hΓ (gL hf hc ((bP (ih nx).1 _ _ _ (e7 h)).mono fun _ _ h=>vD h) hF)
     ·exact p5 hf hc (An (fun B=>(ih B).1) nx _ _ _ (e7 h)) hF
    ·exact h.elim
   ·exact h.elim
  ·rename_i hF;have e:=Nat.eq_of_beq_eq_true hF;subst e;exact vC (fun B=>(ih B).1) h
theorem rK{P:Program}{Γ:List (Nat × AV)}(hΓ:∀p∈Γ,NN p.2){tx:List Xf}{ts tb:List (Nat × List AV × AV)}(hx':∀x∈tx,x.ok P Γ)(hs':lJ P Γ ts)(ht:dF P Γ tb){F:FuncId}{args:List AV}{mem:aA}{nx:Nat}{Q:AV->aA->Nat->Prop}(dl pl gl:List Nat)(n:Nat)(h:(pA P Γ tx ts tb dl pl gl n).call F args mem nx Q fun _ _ _=>False):aC P Γ F args mem nx Q:=
 ((x7 P Γ hΓ hx' hs' ht dl pl gl n nx).1.call F args mem nx Q _ h).toC fun _ _ _ h=>h
theorem bS{P:Program}{Γ:List (Nat × AV)}{F:FuncId}{args:List AV}{mem:aA}{nx:Nat}{want:AV}(hΓ:∀p∈Γ,NN p.2){tx:List Xf}{ts tb:List (Nat × List AV × AV)}(hx':∀x∈tx,x.ok P Γ)(hs':lJ P Γ ts)(ht:dF P Γ tb)(dl pl gl:List Nat)(n:Nat)
  (hc:(nH (Fi mem) && (oU mem && (uX nx nx (Fi mem) && Nat.ble nx nx)))=true)
  (h:((pA P Γ tx ts tb dl pl gl n).call F args mem nx (fun r m _=>Iy mem want r m) fun _ _ _=>False)=True):aC P Γ F args mem nx fun r m k=>r=want/\m=mem/\k=nx:=by
 refine aC.turn hΓ ((rK hΓ hx' hs' ht dl pl gl n (by rw[h];trivial)).mono fun r m k hk=>?_);unfold Iy at hk;split at hk
 ·rename_i hb;unfold I5 at hb;split at hb
  ·rename_i v hv;split at hb
   ·rename_i he;have e:=iY he;subst e;have hn:(mem.map (·.1)).Nodup:=by
     simp only[JE] at hc;exact cA hc.2.1
    exact oW (Fi mem) hc (o7 _ hb (E7 hn)) (e9 30 r v hv).cv ⟨rfl,rfl,rfl⟩
   ·cases hb
  ·cases hb
 ·exact hk.elim
theorem hX{P:Program}{Γ:List (Nat × AV)}:∀x∈([]:List Xf),x.ok P Γ:=fun x h=>by cases h
end Go.Ax
