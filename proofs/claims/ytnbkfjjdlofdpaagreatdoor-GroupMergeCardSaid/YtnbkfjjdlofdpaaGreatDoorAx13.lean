/- A part of the proof. -/
import Derived.Test.YtnbkfjjdlofdpaaGreatDoorAx12
set_option linter.unusedVariables false
set_option linter.unusedSimpArgs false
set_option linter.unusedSectionVars false
namespace Go.Proofs.YtnbkfjjdlofdpaaGreatDoor
open Go Go.Ax Go.Proofs Tryz
set_option maxRecDepth 100000
set_option maxHeartbeats 16000000
def g7(i:Nat)(g:Gr):AB:=.row 33 5 [.agg [.il 1 (a6 g.min),.int .i64 g.oc.kind,.int .i64 g.oc.at_,.int .i64 g.oc.code,.sl i 0 g.fs.length]]
def eW(g:Gr):AB:=.row 57 4 (aQ g.fs)
def rW(S:Nat->Bool):List Gr->Nat->aA
 | [],_=>[]
 | g::r,i=>match S i with
  | true=>(100+2*i,g7 (101+2*i) g)::(101+2*i,eW g)::rW S r (i+1)
  | false=>rW S r (i+1)
theorem qT{S:Nat->Bool}:∀{M:List Gr} {i:Nat} {p:Nat × AB},p∈rW S M i->∃j g,M[j]? = some g/\S (i+j)=true/\(p=(100+2*(i+j),g7 (101+2*(i+j)) g)∨p=(101+2*(i+j),eW g))
 | [],i,p,h=>by cases h
 | g::r,i,p,h=>by
  unfold rW at h;have rec_:p∈rW S r (i+1)->∃j g',(g::r)[j]? = some g'/\S (i+j)=true/\(p=(100+2*(i+j),g7 (101+2*(i+j)) g')∨p=(101+2*(i+j),eW g')):=fun h=>by
   obtain⟨j,g',h1,h2,h3⟩:=qT h;refine⟨j+1,g',h1, ?_, ?_⟩
   ·rw[show i+(j+1)=i+1+j by omega];exact h2
   ·rw[show i+(j+1)=i+1+j by omega];exact h3
  split at h
  ·rename_i hS;rcases JQ.1 h with rfl|h
   ·exact⟨0,g,rfl,hS,.inl rfl⟩
   ·rcases JQ.1 h with rfl|h
    ·exact⟨0,g,rfl,hS,.inr rfl⟩
    ·exact rec_ h
  ·exact rec_ h
theorem oY{S:Nat->Bool}{M:List Gr}{p:Nat × AB}(h:p∈rW S M 0):100<=p.1/\p.1<102+2*M.length:=by
 obtain⟨j,g,h1,_,rfl|rfl⟩:=qT h
 ·have:=(JT.1 h1).1;simp only;omega
 ·have:=(JT.1 h1).1;simp only;omega
theorem q6{S:Nat->Bool}:∀(M:List Gr) (i:Nat),((rW S M i).map (·.1)).Nodup
 | [],i=>by simp[rW]
 | g::r,i=>by
  have ih:=q6 (S:=S) r (i+1);have hlt:∀x∈(rW S r (i+1)).map (·.1),102+2*i<=x:=fun x hx=>by
   obtain⟨p,hp,rfl⟩:=Jf.1 hx;obtain⟨j,g',_,_,rfl|rfl⟩:=qT hp<;>simp only<;>omega
  unfold rW;split
  ·simp only[Jz,Jn,JQ,not_or];refine⟨⟨om,fun h=>?_⟩,fun h=>?_,ih⟩
   ·have:=hlt _ h;omega
   ·have:=hlt _ h;omega
  ·exact ih
theorem oX{S:Nat->Bool}:∀{M:List Gr} {i j:Nat} {g:Gr},M[j]? = some g->S (i+j)=true->lk (rW S M i) (100+2*(i+j))=some (g7 (101+2*(i+j)) g)/\lk (rW S M i) (101+2*(i+j))=some (eW g)
 | [],i,j,g,h,_=>by simp at h
 | x::r,i,0,g,h,hS=>by
  simp at h;subst h;unfold rW;rw[KX] at hS;rw[hS];simp only[KX,lk];rw[aO (show 100+2*i≠101+2*i by omega)];simp
 | x::r,i,j+1,g,h,hS=>by
  have hS':S (i+1+j)=true:=by rw[show i+1+j=i+(j+1) by omega];exact hS
  obtain⟨h1,h2⟩:=oX (M:=r) (i:=i+1) (j:=j) (by simpa using h) hS';rw[show i+1+j=i+(j+1) by omega] at h1 h2;unfold rW;split
  ·simp only[lk];rw[aO (show 100+2*i≠100+2*(i+(j+1)) by omega),aO (show 101+2*i≠100+2*(i+(j+1)) by omega),aO (show 100+2*i≠101+2*(i+(j+1)) by omega),aO (show 101+2*i≠101+2*(i+(j+1)) by omega)];exact⟨h1,h2⟩
  ·exact⟨h1,h2⟩
theorem rU{mem:aA}{σ:List (Nat × Nat)}{S:Nat->Bool}{M:List Gr}(h:∀j g,M[j]? = some g->S j=true->∃a b,lk mem a=some (g7 b g)/\lk mem b=some (eW g)/\lk σ a=some (100+2*j)/\lk σ b=some (101+2*j)):tZ mem σ (rW S M 0):=fun p hp=>by
 obtain⟨j,g,h1,h2,h3⟩:=qT hp;rw[Jt] at h2 h3;obtain⟨a,b,k1,k2,k3,k4⟩:=h j g h1 h2;rcases h3 with rfl|rfl
 ·exact .inl ⟨a,_,_,_,_,rfl,k3,k1,.cons (.agg (.cons (.same _ (.il' (aU _))) (.s (.s (.s (.cons (.sl b _ 0 _ k4) .nil)))))) .nil⟩
 ·exact .inl ⟨b,_,_,_,_,rfl,k4,k2,.same (aM _)⟩
def cP(f:Nat->AV):List Gr->Nat->List (AV × AV)
 | [],_=>[]
 | g::r,i=>(.str (g9 (aT g)),f i)::cP f r (i+1)
theorem i6(f:Nat->AV):∀(M:List Gr) (i:Nat),(cP f M i).length=M.length
 | [],i=>rfl
 | g::r,i=>by simp[cP,i6 f r]
theorem kF(f:Nat->AV):∀(M:List Gr) (i j:Nat),(cP f M i)[j]? = (M[j]?).map fun g=>(AV.str (g9 (aT g)),f (i+j))
 | [],i,j=>by simp[cP]
 | g::r,i,0=>by simp[cP]
 | g::r,i,j+1=>by
  simp only[cP,List.getElem?_cons_succ];rw[kF f r (i+1) j,show i+1+j=i+(j+1) by omega]
theorem vE(f:Nat->AV):∀(M:List Gr) (g:Gr) (i:Nat),cP f (M++[g]) i=cP f M i++[(.str (g9 (aT g)),f (i+M.length))]
 | [],g,i=>by simp[cP]
 | x::r,g,i=>by
  simp only[Kk,cP];rw[vE f r g (i+1),Kc,show i+1+r.length=i+(r.length+1) by omega]
theorem wT{mem:aA}{σ:List (Nat × Nat)}{f f':Nat->AV}{M M':List Gr}(hk:M.map aT=M'.map aT)(h:∀j,j<M.length->Cv mem σ (f j) (f' j)):IR mem σ (cP f M 0) (cP f' M' 0):=by
 have hl:M.length=M'.length:=by simpa using congrArg List.length hk
 refine⟨by rw[i6,i6,hl],fun j e e' h1 h2=>?_⟩;rw[kF] at h1 h2;have hj:j<M.length:=by
  rcases Jc j M.length with h'|h'
  ·exact h'
  ·rw[JY h'] at h1;cases h1
 rw[JS hj] at h1;rw[JS (show j<M'.length by omega)] at h2;cases h1;cases h2;have hkj:aT M[j]=aT M'[j]:=by
  have:=congrArg (fun l=>l[j]?) hk;simpa[hj,show j<M'.length by omega] using this
 rw[Jt];exact⟨.eq (.str _) (by show AV.str (g9 (aT M[j])) = .str (g9 (aT M'[j]));rw[hkj]),h j hj⟩
theorem Ac(a b:List UInt8):pP prog 9 (.str a) (.str b)=some (a == b):=rfl
theorem xR{f:Nat->AV}{k:List UInt8}:∀{M:List Gr} {i n:Nat},(∀g∈M,g9 (aT g)≠k)->eT prog 9 (.str k) (cP f M i) n=some none
 | [],i,n,_=>rfl
 | g::r,i,n,h=>by
  simp only[cP,eT,Ac];rw[show (k == g9 (aT g))=false by simpa using Ne.symm (h g (.head _))];exact xR fun x hx=>h x (.tail _ hx)
theorem BG{f:Nat->AV}{k:List UInt8}:∀{M:List Gr} {i n j:Nat} {g:Gr},M[j]? = some g->g9 (aT g)=k->(∀(j':Nat) (x:Gr),j'<j->M[j']? = some x->g9 (aT x)≠k)->eT prog 9 (.str k) (cP f M i) n=some (some (n+j,f (i+j)))
 | [],i,n,j,g,h,_,_=>by simp at h
 | x::r,i,n,0,g,h,hk,_=>by
  simp at h;subst h;simp only[cP,eT,Ac];rw[show (k == g9 (aT x))=true by simpa using hk.symm];rfl
 | x::r,i,n,j+1,g,h,hk,hn=>by
  simp only[cP,eT,Ac];rw[show (k == g9 (aT x))=false by simpa using Ne.symm (hn 0 x om rfl)];have:=BG (f:=f) (M:=r) (i:=i+1) (n:=n+1) (j:=j) (by simpa using h) hk fun j' y hj' hy=>hn (j'+1) y om (by simpa using hy)
  rw[this,show n+1+j=n+(j+1) by omega,show i+1+j=i+(j+1) by omega]
def pG(i:Nat):AV:=.ptr (100+2*i) 0 0
theorem Ex{mem:aA}{id:Nat}{f:Nat->AV}{M:List Gr}{k:List UInt8}(hm:lk mem id=some (.mapb (cP f M 0)))(h:∀g∈M,g9 (aT g)≠k) :
  gD prog mem 54 (.mp id) (.str k) true=some (.tup [.nptr,.bool false]):=by
 have u:Tryz.prog.underlying 54=some (.map 9 55):=rfl;have ak:xK prog 9 (.str k)=true:=rfl;have z:fE prog 55=some .nptr:=rfl;unfold gD;simp only[u,ak,hm,z,xR h]
theorem EX{mem:aA}{id:Nat}{f:Nat->AV}{M:List Gr}{k:List UInt8}{j:Nat}{g:Gr}(hm:lk mem id=some (.mapb (cP f M 0)))(h:M[j]? = some g)(hk:g9 (aT g)=k)(hn:∀(j':Nat) (x:Gr),j'<j->M[j']? = some x->g9 (aT x)≠k) :
  gD prog mem 54 (.mp id) (.str k) true=some (.tup [f j,.bool true]):=by
 have u:Tryz.prog.underlying 54=some (.map 9 55):=rfl;have ak:xK prog 9 (.str k)=true:=rfl;have e:=BG (f:=f) (i:=0) (n:=0) h hk hn;have e':(0+j,f (0+j))=(j,f j):=by rw[Jt]
 rw[e'] at e;unfold gD;simp only[u,ak,hm,e]
set_option maxHeartbeats 16000000
def i7(M:List Gr):aA:=(1,.mapb (cP pG M 0))::rW (fun _=>true) M 0
def dT(Ls:List (List Gr)):List AV:=Ls.map fun G=>.il 5 (aD G)
theorem yN(Ls:List (List Gr)):Go.Ax.f9 (dT Ls):=fun a ha=>by
 obtain⟨G,_,rfl⟩:=Jf.1 ha;exact .il' (aK G)
theorem B6(Ls:List (List Gr)):(dT Ls).length=Ls.length:=by simp[dT]
theorem EJ{l:List (List Gr)}{k:Nat}(h:k<l.length):(dT l)[((k:Nat):Int).toNat]? = some (.il 5 (aD l[k])):=by
 simp[dT,JS h]
theorem yB{M:List Gr}:((i7 M).map (·.1)).Nodup:=by
 simp only[i7,Jz,Jn];refine⟨fun h=>?_,q6 M 0⟩;obtain⟨p,hp,e⟩:=Jf.1 h;have:=(oY hp).1;omega
theorem Bm{mem:aA}{σ:List (Nat × Nat)}{M M0:List Gr}{f:Nat->AV}{m:Nat}(hk:M0.map aT=M.map aT)(h1:lk mem m=some (.mapb (cP f M0 0)))(h2:lk σ m=some 1)(h3:∀j,j<M0.length->Cv mem σ (f j) (pG j))
  (h:∀j g,M[j]? = some g->∃a b,lk mem a=some (g7 b g)/\lk mem b=some (eW g)/\lk σ a=some (100+2*j)/\lk σ b=some (101+2*j)):tZ mem σ (i7 M):=fun p hp=>by
 rcases JQ.1 hp with rfl|hp
 ·exact .inr (.inl ⟨m,_,_,rfl,h2,h1,wT hk h3⟩)
 ·exact rU (fun j g hj _=>h j g hj) p hp
theorem wZ{M:List Gr}{j:Nat}{g:Gr}(h:M[j]? = some g):lk (i7 M) (100+2*j)=some (g7 (101+2*j) g)/\lk (i7 M) (101+2*j)=some (eW g):=by
 have:=oX (S:=fun _=>true) (i:=0) h rfl;rw[Jt] at this;unfold i7;simp only[lk];rw[aO (show 1≠100+2*j by omega),aO (show 1≠101+2*j by omega)];exact this
theorem yJ{sl sl':List (Nat × AV)}{M:List Gr}{nx nt:Nat}(hM:M.length<=1000)(hs:dZ (i7 M) (j7 some 3000) sl sl'):Conv 0 (j7 some 3000) ⟨sl,i7 M,nx,nt⟩ ⟨sl',i7 M,3000,nt⟩:=
 tL some 3000 (Bm (m:=1) rfl rfl (bM om rfl) (fun j hj=>.ptr _ _ 0 0 (bM om rfl)) fun j g hj=>by
  have hlt:=(JT.1 hj).1;exact⟨_,_,(wZ hj).1,(wZ hj).2,bM om rfl,bM om rfl⟩) hs yB (fun i j k _ _ h1 h2=>by rw[Option.some.inj h1,Option.some.inj h2]) (fun i k h1 h2=>by cases h2;omega) om
theorem cJ.joinM{P:Program}{Γ:List (Nat × AV)}{B:Nat}{α:Type}{rest:Code}{Q:Exit->St->Prop}{G:Prop}(hΓ:∀p∈Γ,NN p.2)(R:α->Prop)(J:α->St)
  (h1:(∀(a:α) (s:St) (σ:List (Nat × Nat)),R a->Conv B σ s (J a)->cJ P Γ B rest s Q)->G) (h2:∀a,R a->cJ P Γ B rest (J a) Q):G:=h1 fun a s σ hr hc=>cJ.conv hΓ hc (h2 a hr)
def pF(j i:Nat):AV:=if i=j then .ptr 2 0 0 else pG i
def kL(j:Nat)(M:List Gr):aA:=(1,.mapb (cP (pF j) M 0))::rW (fun i=>i != j) M 0
def DK(j:Nat)(M:List Gr)(x g:Gr):aA:=[(2,g7 3 x),(3,eW x),(4,.row 33 5 [dV g])]++kL j M
theorem zF{j:Nat}{M:List Gr}:∀p∈kL j M,p.1=1∨(100<=p.1/\p.1<102+2*M.length):=fun p hp=>by
 rcases JQ.1 hp with rfl|hp
 ·exact .inl rfl
 ·exact .inr (oY hp)
theorem CO{j:Nat}{M:List Gr}:((kL j M).map (·.1)).Nodup:=by
 simp only[kL,Jz,Jn];refine⟨fun h=>?_,q6 M 0⟩;obtain⟨p,hp,e⟩:=Jf.1 h;have:=(oY hp).1;omega
theorem y6{j:Nat}{M:List Gr}{x g:Gr}:((DK j M x g).map (·.1)).Nodup:=by
 unfold DK;rw[J3];refine KI.2 ⟨by simp,CO,fun a ha b hb=>?_⟩;obtain⟨p,hp,rfl⟩:=Jf.1 hb;simp at ha;have:=zF p hp;omega
theorem yR{mem:aA}{σ:List (Nat × Nat)}{M M0:List Gr}{f:Nat->AV}{m j:Nat}(hk:M0.map aT=M.map aT)(h1:lk mem m=some (.mapb (cP f M0 0)))(h2:lk σ m=some 1)(h3:∀i,i<M0.length->Cv mem σ (f i) (pF j i))
  (h:∀i g,M[i]? = some g->i≠j->∃a b,lk mem a=some (g7 b g)/\lk mem b=some (eW g)/\lk σ a=some (100+2*i)/\lk σ b=some (101+2*i)):tZ mem σ (kL j M):=fun p hp=>by
 rcases JQ.1 hp with rfl|hp
 ·exact .inr (.inl ⟨m,_,_,rfl,h2,h1,wT hk h3⟩)
 ·exact rU (fun i g hi hS=>h i g hi (by simpa using hS)) p hp
theorem BD{mem:aA}{σ:List (Nat × Nat)}{x x0:Gr}{rest:aA}{a b c:Nat}{u v:AV}(hr:tZ mem σ rest)(h1:lk mem a=some (.row 33 5 [.agg [u,.int .i64 x.oc.kind,.int .i64 x.oc.at_,.int .i64 x.oc.code,v]]))(hu:Cv mem σ u (.il 1 (a6 x.min)))(hv:Cv mem σ v (.sl 3 0 x.fs.length))
  (h2:lk mem b=some (eW x)) (h3:lk mem c=some (.row 33 5 [dV x0])) (k1:lk σ a=some 2) (k2:lk σ b=some 3) (k3:lk σ c=some 4):tZ mem σ ([(2,g7 3 x),(3,eW x),(4,.row 33 5 [dV x0])]++rest):=
 tZ.app (fun p hp=>by
  simp only[JQ,KW,or_false] at hp;rcases hp with rfl|rfl|rfl
  ·exact .inl ⟨a,_,_,_,_,rfl,k1,h1,.cons (.agg (.cons hu (.s (.s (.s (.cons hv .nil)))))) .nil⟩
  ·exact .inl ⟨b,_,_,_,_,rfl,k2,h2,.same (aM _)⟩
  ·exact .inl ⟨c,_,_,_,_,rfl,k3,h3,.same (.cons (eN _) .nil)⟩) hr
def fF(j i:Nat):Option Nat:=if i=100+2*j then some 2 else if i=101+2*j then some 3 else if i=3000 then some 4 else if i=1 then some 1 else if 100<=i/\i<3000 then some i else none
theorem sM{j a c:Nat}(h:fF j a=some c):(a=100+2*j/\c=2)∨(a=101+2*j/\c=3)∨(a=3000/\c=4)∨(a=1/\c=1)∨(100<=a/\a<3000/\a≠100+2*j/\a≠101+2*j/\c=a):=by
 unfold fF at h;by_cases h1:a=100+2*j
 ·rw[Jb h1] at h;cases h;exact .inl ⟨h1,rfl⟩
 ·rw[Ja h1] at h;by_cases h2:a=101+2*j
  ·rw[Jb h2] at h;cases h;exact .inr (.inl ⟨h2,rfl⟩)
  ·rw[Ja h2] at h;by_cases h3:a=3000
   ·rw[Jb h3] at h;cases h;exact .inr (.inr (.inl ⟨h3,rfl⟩))
   ·rw[Ja h3] at h;by_cases h4:a=1
    ·rw[Jb h4] at h;cases h;exact .inr (.inr (.inr (.inl ⟨h4,rfl⟩)))
    ·rw[Ja h4] at h;by_cases h5:100<=a/\a<3000
     ·rw[Jb h5] at h;cases h;exact .inr (.inr (.inr (.inr ⟨h5.1,h5.2,h1,h2,rfl⟩)))
     ·rw[Ja h5] at h;cases h
theorem H7(j:Nat):fF j 1=some 1:=by unfold fF;rw[Ja om,Ja om,Ja om,Jb rfl]
theorem H0{j:Nat}(h:j<=1000):fF j 3000=some 4:=by unfold fF;rw[Ja om,Ja om,Jb rfl]
theorem Hp(j:Nat):fF j (100+2*j)=some 2:=by unfold fF;rw[Jb rfl]
theorem Dg{sl sl':List (Nat × AV)}{M:List Gr}{x g:Gr}{j nx nt:Nat}(hM:M.length<=1000)(hj:M[j]? = some x)(hs:dZ ((3000,.row 33 5 [dV g])::i7 M) (j7 (fF j) 3001) sl sl') :
  Conv 0 (j7 (fF j) 3001) ⟨sl,(3000,.row 33 5 [dV g])::i7 M,nx,nt⟩ ⟨sl',DK j M x g,3000,nt⟩:=by
 have hjl:=(JT.1 hj).1;have hlk:∀i y,M[i]? = some y->lk ((3000,.row 33 5 [dV g])::i7 M) (100+2*i)=some (g7 (101+2*i) y)/\lk ((3000,.row 33 5 [dV g])::i7 M) (101+2*i)=some (eW y):=fun i y hi=>by
  have hil:=(JT.1 hi).1;simp only[lk];rw[aO (show 3000≠100+2*i by omega),aO (show 3000≠101+2*i by omega)];exact wZ hi
 have f1:∀i,i<M.length->i≠j->fF j (100+2*i)=some (100+2*i)/\fF j (101+2*i)=some (101+2*i):=fun i hi hne=>by
  unfold fF;constructor
  ·rw[Ja om,Ja om,Ja om,Ja om,Jb om]
  ·rw[Ja om,Ja om,Ja om,Ja om,Jb om]
 have f2:=Hp j;have f3:fF j (101+2*j)=some 3:=by unfold fF;rw[Ja om,Jb rfl]
 have f4:=H0 (j:=j) om;have f5:=H7 j;refine tL (fF j) 3001 (BD (a:=100+2*j) (b:=101+2*j) (c:=3000) (yR (m:=1) rfl rfl (bM om f5) (fun i hi=>?_) fun i y hi hne=>?_) (hlk j x hj).1 (.same _ (.il' (aU _))) (.sl _ 3 0 _ (bM om f3)) (hlk j x hj).2 rfl (bM om f2) (bM om f3) (bM om f4)) hs y6 ?_ ?_ om
 ·unfold pF;by_cases e:i=j
  ·subst e;rw[Jb rfl];exact .ptr _ 2 0 0 (bM om f2)
  ·rw[Ja e];exact .ptr _ _ 0 0 (bM om (f1 i hi e).1)
 ·have hil:=(JT.1 hi).1;exact⟨_,_,(hlk i y hi).1,(hlk i y hi).2,bM om (f1 i hil hne).1,bM om (f1 i hil hne).2⟩
 ·intro a b c ha hb h1 h2;have h1:=sM h1;have h2:=sM h2;omega
 ·intro a b ha h1;have h1:=sM h1;omega
def fN(i:Nat):Option Nat:=if i=3008 then some 2 else if i=3011 then some 3 else if i=3000 then some 4 else if i=1 then some 1 else if 100<=i/\i<3000 then some i else none
theorem rL{a c:Nat}(h:fN a=some c):(a=3008/\c=2)∨(a=3011/\c=3)∨(a=3000/\c=4)∨(a=1/\c=1)∨(100<=a/\a<3000/\c=a):=by
 unfold fN at h;by_cases h1:a=3008
 ·rw[Jb h1] at h;cases h;exact .inl ⟨h1,rfl⟩
 ·rw[Ja h1] at h;by_cases h2:a=3011
  ·rw[Jb h2] at h;cases h;exact .inr (.inl ⟨h2,rfl⟩)
  ·rw[Ja h2] at h;by_cases h3:a=3000
   ·rw[Jb h3] at h;cases h;exact .inr (.inr (.inl ⟨h3,rfl⟩))
   ·rw[Ja h3] at h;by_cases h4:a=1
    ·rw[Jb h4] at h;cases h;exact .inr (.inr (.inr (.inl ⟨h4,rfl⟩)))
    ·rw[Ja h4] at h;by_cases h5:100<=a/\a<3000
     ·rw[Jb h5] at h;cases h;exact .inr (.inr (.inr (.inr ⟨h5.1,h5.2,rfl⟩)))
     ·rw[Ja h5] at h;cases h
def CM(M:List Gr)(p:List Int)(o:Oc)(fs:List Fl)(kk:List UInt8):aA:=[(3011,.row 57 4 []),(3008,.row 33 5 [.agg [.sl 3010 0 (0+(a6 p).length),.int .i64 o.kind,.int .i64 o.at_,.int .i64 o.code,.nsl]]),(3010,.row 3 1 ([]++a6 p)),(3000,.row 33 5 [dV ⟨p,o,fs⟩]),(1,.mapb (cP pG M 0++[(.str kk,.ptr 3008 0 0)]))]++rW (fun _=>true) M 0
theorem Gx{i:Nat}(h1:100<=i)(h2:i<3000):fN i=some i:=by unfold fN;rw[Ja om,Ja om,Ja om,Ja om,Jb ⟨h1,h2⟩]
theorem DY{sl sl':List (Nat × AV)}{M:List Gr}{p:List Int}{o:Oc}{fs:List Fl}{kk:List UInt8}{nx nt:Nat}(hM:M.length<1000)(hk:kk=g9 (aT ⟨p,o,fs⟩))(hs:dZ (CM M p o fs kk) (j7 fN 3012) sl sl') :
  Conv 0 (j7 fN 3012) ⟨sl,CM M p o fs kk,nx,nt⟩ ⟨sl',DK M.length (M++[⟨p,o,[]⟩]) ⟨p,o,[]⟩ ⟨p,o,fs⟩,3000,nt⟩:=by
 have hlk:∀i y,M[i]? = some y->lk (CM M p o fs kk) (100+2*i)=some (g7 (101+2*i) y)/\lk (CM M p o fs kk) (101+2*i)=some (eW y):=fun i y hi=>by
  have hil:=(JT.1 hi).1;have:=oX (S:=fun _=>true) (i:=0) hi rfl;rw[Jt] at this;unfold CM;simp only[Kk,KT,lk];rw[aO (show 3011≠100+2*i by omega),aO (show 3008≠100+2*i by omega),aO (show 3010≠100+2*i by omega),aO (show 3000≠100+2*i by omega),aO (show 1≠100+2*i by omega),
   aO (show 3011≠101+2*i by omega),aO (show 3008≠101+2*i by omega),aO (show 3010≠101+2*i by omega),aO (show 3000≠101+2*i by omega),aO (show 1≠101+2*i by omega)]
  exact this
 have hes:cP pG M 0++[(.str kk,.ptr 3008 0 0)]=cP (fun i=>if i=M.length then .ptr 3008 0 0 else pG i) (M++[⟨p,o,[]⟩]) 0:=by
  rw[vE,Jt,hk];congr 1
  ·refine LU fun i=>?_
   rw[kF,kF];rcases Jc i M.length with h|h
   ·simp only[Jt];rw[Ja (show ¬i=M.length by omega)]
   ·rw[JY h];rfl
  ·show _=[(AV.str _,if M.length=M.length then _ else _)]
   rw[Jb rfl];rfl
 have hl1:lk (CM M p o fs kk) 1=some (.mapb (cP (fun i=>if i=M.length then .ptr 3008 0 0 else pG i) (M++[⟨p,o,[]⟩]) 0)):=by
  rw[←hes];rfl
 have hle:(M++[(⟨p,o,[]⟩:Gr)]).length=M.length+1:=by simp
 refine tL fN 3012 (BD (a:=3008) (b:=3011) (c:=3000) (yR (m:=1) rfl hl1 (bM om rfl) (fun i hi=>?_) fun i y hi hne=>?_) rfl (.fzR (id:=3010) rfl (DU rfl) (.same (aU _)) (by simp)) (.nslk 3011 3 _ rfl (bM om rfl)) rfl rfl (bM om rfl) (bM om rfl) (bM om rfl)) hs y6 ?_ ?_ om
 ·unfold pF;by_cases e:i=M.length
  ·rw[Jb e,Jb e];exact .ptr _ 2 0 0 (bM om rfl)
  ·rw[Ja e,Ja e];exact .ptr _ _ 0 0 (bM om (Gx om om))
 ·have hil:=(JT.1 hi).1;have hi':M[i]? = some y:=by rw[J1 om] at hi;exact hi
  exact⟨_,_,(hlk i y hi').1,(hlk i y hi').2,bM om (Gx om om),bM om (Gx om om)⟩
 ·intro a b c ha hb h1 h2;have h1:=rL h1;have h2:=rL h2;omega
 ·intro a b ha h1;have h1:=rL h1;omega
def fU(j i:Nat):Option Nat:=if i=2 then some (100+2*j) else if i=3100 then some (101+2*j) else if i=1 then some 1 else if i=100+2*j then none else if i=101+2*j then none else if 100<=i/\i<3000 then some i else none
theorem sS{j a c:Nat}(h:fU j a=some c):(a=2/\c=100+2*j)∨(a=3100/\c=101+2*j)∨(a=1/\c=1)∨(100<=a/\a<3000/\a≠100+2*j/\a≠101+2*j/\c=a):=by
 unfold fU at h;by_cases h1:a=2
 ·rw[Jb h1] at h;cases h;exact .inl ⟨h1,rfl⟩
 ·rw[Ja h1] at h;by_cases h2:a=3100
  ·rw[Jb h2] at h;cases h;exact .inr (.inl ⟨h2,rfl⟩)
  ·rw[Ja h2] at h;by_cases h3:a=1
   ·rw[Jb h3] at h;cases h;exact .inr (.inr (.inl ⟨h3,rfl⟩))
   ·rw[Ja h3] at h;by_cases h4:a=100+2*j
    ·rw[Jb h4] at h;cases h
    ·rw[Ja h4] at h;by_cases h6:a=101+2*j
     ·rw[Jb h6] at h;cases h
     ·rw[Ja h6] at h;by_cases h5:100<=a/\a<3000
      ·rw[Jb h5] at h;cases h;exact .inr (.inr (.inr ⟨h5.1,h5.2,h4,h6,rfl⟩))
      ·rw[Ja h5] at h;cases h
theorem Gu{j i:Nat}(h1:100<=i)(h2:i<3000)(h3:i≠100+2*j)(h4:i≠101+2*j):fU j i=some i:=by unfold fU;rw[Ja om,Ja om,Ja om,Ja h3,Ja h4,Jb ⟨h1,h2⟩]
theorem HB(j:Nat):fU j 1=some 1:=by unfold fU;rw[Ja om,Ja om,Jb rfl]
theorem HS(j:Nat):fU j 2=some (100+2*j):=by unfold fU;rw[Jb rfl]
theorem Iu(j:Nat):fU j 3100=some (101+2*j):=by unfold fU;rw[Ja om,Jb rfl]
theorem FC{mem:aA}{M:List Gr}{j i:Nat}{g:Gr}(hm:∀p∈mem,p.1<100∨2999<p.1)(hM:M.length<=1000)(hi:M[i]? = some g)(hne:i≠j):lk (mem++kL j M) (100+2*i)=some (g7 (101+2*i) g)/\lk (mem++kL j M) (101+2*i)=some (eW g):=by
 have hil:=(JT.1 hi).1;have:=oX (S:=fun i=>i != j) (i:=0) hi (by simpa using hne);rw[Jt] at this;rw[i8,i8,hX (l:=mem) (i:=100+2*i) (fun p hp=>by have:=hm p hp;omega),hX (l:=mem) (i:=101+2*i) (fun p hp=>by have:=hm p hp;omega)];unfold kL;simp only[lk];rw[aO (show 1≠100+2*i by omega),aO (show 1≠101+2*i by omega)];exact this
theorem D8{sl sl':List (Nat × AV)}{M:List Gr}{x y:Gr}{j nx nt:Nat}(hM:M.length<=1000)(hj:M[j]? = some x)(hy:aT y=aT x)
  (hs:dZ ([(2,g7 3100 y),(3100,eW y)]++kL j M) (j7 (fU j) 3101) sl sl'):Conv 0 (j7 (fU j) 3101) ⟨sl,[(2,g7 3100 y),(3100,eW y)]++kL j M,nx,nt⟩ ⟨sl',i7 (M.set j y),3000,nt⟩:=by
 have hjl:=(JT.1 hj).1;have hk:M.map aT=(M.set j y).map aT:=by
  refine LU fun i=>?_
  rw[Js,Js,KY];by_cases e:j=i
  ·subst e;rw[Jb rfl,Jb hjl,hj];simp[hy]
  ·rw[Ja e]
 refine tL (fU j) 3101 (Bm (M0:=M) (f:=pF j) (m:=1) hk rfl (bM om (HB j)) (fun i hi=>?_) fun i g hi=>?_) hs yB ?_ ?_ om
 ·unfold pF;by_cases e:i=j
  ·subst e;rw[Jb rfl];exact .ptr 2 _ 0 0 (bM om (HS i))
  ·rw[Ja e];exact .ptr _ _ 0 0 (bM om (Gu om om om om))
 ·rw[KY] at hi;by_cases e:j=i
  ·subst e;rw[Jb rfl,Jb hjl] at hi;cases hi;exact⟨2,3100,rfl,rfl,bM om (HS j),bM om (Iu j)⟩
  ·rw[Ja e] at hi;have hil:=(JT.1 hi).1;have hl:=FC (mem:=[(2,g7 3100 y),(3100,eW y)]) (fun p hp=>by
    rcases JQ.1 hp with rfl|hp
    ·exact .inl (show (2:Nat)<100 by omega)
    ·rcases JQ.1 hp with rfl|hp
     ·exact .inr (show (2999:Nat)<3100 by omega)
     ·cases hp) hM hi (Ne.symm e)
   exact⟨_,_,hl.1,hl.2,bM om (Gu om om om om),bM om (Gu om om om om)⟩
 ·intro a b c ha hb h1 h2;have h1:=sS h1;have h2:=sS h2;omega
 ·intro a b ha h1;have h1:=sS h1;omega
def pS(sn:List Nat)(i:Nat):AV:=if i∈sn then .junk else pG i
def DV(sn:List Nat)(M:List Gr):aA:=[(6,.iter 1 M.length sn),(1,.mapb (cP (pS sn) M 0))]++rW (fun i=>!sn.contains i) M 0
def EQ(sn:List Nat)(H M:List Gr):aA:=(5,.row 33 5 (aD H))::DV sn M
theorem xE{sn:List Nat}{M:List Gr}:∀p∈DV sn M,p.1=6∨p.1=1∨(100<=p.1/\p.1<102+2*M.length):=fun p hp=>by
 rcases JV.1 hp with hp|hp
 ·simp only[JQ,KW,or_false] at hp;rcases hp with rfl|rfl
  ·exact .inl rfl
  ·exact .inr (.inl rfl)
 ·exact .inr (.inr (oY hp))
theorem vY{sn:List Nat}{M:List Gr}:((DV sn M).map (·.1)).Nodup:=by
 unfold DV;rw[J3];refine KI.2 ⟨by simp,q6 M 0,fun a ha b hb=>?_⟩;obtain⟨p,hp,rfl⟩:=Jf.1 hb;have:=oY hp;simp at ha;omega
theorem Gj{sn:List Nat}{mem:aA}{M:List Gr}{i:Nat}{g:Gr}(hm:∀p∈mem,p.1<100∨2999<p.1)(hM:M.length<=1000)(hi:M[i]? = some g)(hne:i∉sn):lk (mem++DV sn M) (100+2*i)=some (g7 (101+2*i) g)/\lk (mem++DV sn M) (101+2*i)=some (eW g):=by
 have hil:=(JT.1 hi).1;have:=oX (S:=fun i=>!sn.contains i) (i:=0) hi (by simpa using hne);rw[Jt] at this;rw[i8,i8,hX (l:=mem) (i:=100+2*i) (fun p hp=>by have:=hm p hp;omega),hX (l:=mem) (i:=101+2*i) (fun p hp=>by have:=hm p hp;omega)];unfold DV;simp only[Kk,KT,lk];rw[aO (show 6≠100+2*i by omega),aO (show 6≠101+2*i by omega),aO (show 1≠100+2*i by omega),aO (show 1≠101+2*i by omega)];exact this
theorem wB{mem:aA}{σ:List (Nat × Nat)}{M:List Gr}{sn:List Nat}{f:Nat->AV}{a m:Nat}(k1:lk mem a=some (.iter m M.length sn))(k2:lk σ a=some 6)(h1:lk mem m=some (.mapb (cP f M 0)))(h2:lk σ m=some 1)(h3:∀i,i<M.length->i∉sn->Cv mem σ (f i) (pG i))
  (h:∀i g,M[i]? = some g->i∉sn->∃a b,lk mem a=some (g7 b g)/\lk mem b=some (eW g)/\lk σ a=some (100+2*i)/\lk σ b=some (101+2*i)):tZ mem σ (DV sn M):=
 tZ.app (fun p hp=>by
  simp only[JQ,KW,or_false] at hp;rcases hp with rfl|rfl
  ·exact .inr (.inr (.inr ⟨a,m,1,_,_,rfl,k2,k1,h2⟩))
  ·exact .inr (.inl ⟨m,_,_,rfl,h2,h1,wT rfl fun i hi=>by
    unfold pS;by_cases e:i∈sn
    ·rw[Jb e];exact .junk _
    ·rw[Ja e];exact h3 i hi e⟩)) (rU fun i g hi hS=>h i g hi (by simpa using hS))
def fT(l:List (Nat × Nat))(i:Nat):Option Nat:=match lk l i with
 | some k=>some k
 | none=>if 100<=i/\i<3000 then some i else none
theorem G1{l:List (Nat × Nat)}{i:Nat}(h:lk l i=none)(h1:100<=i)(h2:i<3000):fT l i=some i:=by unfold fT;rw[h];exact Jb ⟨h1,h2⟩
theorem sY{l:List (Nat × Nat)}{a c:Nat}(h:fT l a=some c):lk l a=some c∨(lk l a=none/\100<=a/\a<3000/\c=a):=by
 unfold fT at h;cases hl:lk l a with
 | some k=>rw[hl] at h;exact .inl h
 | none=>
  rw[hl] at h;simp only at h;by_cases h5:100<=a/\a<3000
  ·rw[Jb h5] at h;cases h;exact .inr ⟨rfl,h5.1,h5.2,rfl⟩
  ·rw[Ja h5] at h;cases h
structure IS(l:List (Nat × Nat)):Prop where
 inj:∀i j k,lk l i=some k->lk l j=some k->i=j
 low:∀i k,lk l i=some k->k<100
theorem Gk{l:List (Nat × Nat)}(h:IS l)(i j k:Nat)(h1:fT l i=some k)(h2:fT l j=some k):i=j:=by
 rcases sY h1 with a|⟨a,a1,a2,a3⟩<;>rcases sY h2 with b|⟨b,b1,b2,b3⟩
 ·exact h.inj i j k a b
 ·have:=h.low i k a;omega
 ·have:=h.low j k b;omega
 ·omega
theorem HV{l:List (Nat × Nat)}(h:IS l){i k:Nat}(h1:fT l i=some k):k<3000:=by
 rcases sY h1 with a|⟨a,a1,a2,a3⟩
 ·have:=h.low i k a;omega
 ·omega
theorem AK{l:List (Nat × Nat)}(h:(n9 l && l.all fun p=>Nat.blt p.2 100)=true):IS l:=by
 rw[JU] at h;refine⟨mW h.1,fun i k hk=>?_⟩;have:=LF.1 h.2 _ (aG hk);exact JR this
theorem Aq{sl sl':List (Nat × AV)}{mem mem':aA}{nx nt n:Nat}{l:List (Nat × Nat)}(hl:IS l)(hm:tZ mem (j7 (fT l) n) mem')(hs:dZ mem (j7 (fT l) n) sl sl')(hnod:(mem'.map (·.1)).Nodup):Conv 0 (j7 (fT l) n) ⟨sl,mem,nx,nt⟩ ⟨sl',mem',3000,nt⟩:=
 tL (fT l) n hm hs hnod (fun i j k _ _ h1 h2=>Gk hl i j k h1 h2) (fun i k _ h=>⟨fun h'=>om,HV hl h⟩) om
theorem Ev{mem:aA}{σ:List (Nat × Nat)}{id sz:Nat}{t:TypeId}{v:AV}(h1:lk mem id=some (.row t sz [v]))(h2:lk σ id=none)(hc:v.cells=[v])(hn:NN v):Cv mem σ (.ptr id 0 0) (.ip v):=
 .fzp id 0 0 t sz [v] v v h1 h2 rfl om fun k c c' a b=>by
  rw[Jt] at a;rw[a] at b;cases b;rw[hc] at a;cases k with
  | zero=>simp at a;subst a;exact .same _ hn
  | succ k=>simp at a
theorem Dt{sl sl':List (Nat × AV)}{M:List Gr}{b:AB}{nx nt:Nat}(hM:M.length<=1000)(hs:dZ ((3002,.row 33 5 [])::(3001,.iter 1 (cP pG M 0).length [])::(3000,b)::i7 M) (j7 (fT [(3001,6),(3002,5),(1,1)]) 3003) sl sl') :
  Conv 0 (j7 (fT [(3001,6),(3002,5),(1,1)]) 3003) ⟨sl,(3002,.row 33 5 [])::(3001,.iter 1 (cP pG M 0).length [])::(3000,b)::i7 M,nx,nt⟩ ⟨sl',EQ [] [] M,3000,nt⟩:=by
 have hlk:∀i y,M[i]? = some y->lk ((3002,.row 33 5 [])::(3001,.iter 1 (cP pG M 0).length [])::(3000,b)::i7 M) (100+2*i)=some (g7 (101+2*i) y)/\lk ((3002,.row 33 5 [])::(3001,.iter 1 (cP pG M 0).length [])::(3000,b)::i7 M) (101+2*i)=some (eW y):=fun i y hi=>by
  have hil:=(JT.1 hi).1;simp only[lk];rw[aO (show 3002≠100+2*i by omega),aO (show 3002≠101+2*i by omega),aO (show 3001≠100+2*i by omega),aO (show 3001≠101+2*i by omega),aO (show 3000≠100+2*i by omega),aO (show 3000≠101+2*i by omega)];exact wZ hi
 have ht:∀a,100<=a->a<3000->lk (j7 (fT [(3001,6),(3002,5),(1,1)]) 3003) a=some a:=fun a h1 h2=>bM om (G1 (hX fun p hp=>by
  simp only[JQ,KW,or_false] at hp;rcases hp with rfl|rfl|rfl<;>simp only<;>omega) h1 h2)
 refine Aq (AK (by rfl)) (fun p hp=>?_) hs ?_
 ·rcases JQ.1 hp with rfl|hp
  ·exact .inl ⟨3002,_,_,_,_,rfl,bM om rfl,rfl,.nil⟩
  ·refine wB (σ:=j7 (fT [(3001,6),(3002,5),(1,1)]) 3003) (a:=3001) (m:=1) (f:=pG) ?_ (bM om rfl) rfl (bM om rfl) (fun i hi _=>.ptr _ _ 0 0 (ht _ om om)) (fun i g hi _=>?_) p hp
   ·rw[←i6 pG M 0];rfl
   ·have hil:=(JT.1 hi).1;exact⟨_,_,(hlk i g hi).1,(hlk i g hi).2,ht _ om om,ht _ om om⟩
 ·simp only[EQ,Jz,Jn];refine⟨fun h=>?_,vY⟩;obtain⟨p,hp,e⟩:=Jf.1 h;have:=xE p hp;omega
def lF(i:Nat):List (Nat × Nat):=[(100+2*i,2),(101+2*i,3),(5,5),(6,6),(1,1)]
theorem Ee{i a:Nat}(h1:a≠100+2*i)(h2:a≠101+2*i)(h3:100<=a):lk (lF i) a=none:=hX fun p hp=>by
 simp only[lF,JQ,KW,or_false] at hp;rcases hp with rfl|rfl|rfl|rfl|rfl<;>simp only<;>omega
theorem HN(i:Nat):fT (lF i) (100+2*i)=some 2:=by unfold fT lF;simp[lk]
theorem H6(i:Nat):fT (lF i) (101+2*i)=some 3:=by
 unfold fT lF;simp only[lk];rw[aO (show 100+2*i≠101+2*i by omega)];simp
theorem Cq(i a:Nat)(h:a=5∨a=6∨a=1):fT (lF i) a=some a:=by
 unfold fT lF;simp only[lk];rw[aO (show 100+2*i≠a by omega),aO (show 101+2*i≠a by omega)];rcases h with rfl|rfl|rfl<;>rfl
theorem Df{sl sl':List (Nat × AV)}{M H:List Gr}{sn:List Nat}{x:Gr}{i nx nt:Nat}(hM:M.length<=1000)(hi:M[i]? = some x)(hn:i∉sn)(hs:dZ (up (EQ sn H M) 6 (.iter 1 M.length (i::sn))) (j7 (fT (lF i)) 3000) sl sl') :
  Conv 0 (j7 (fT (lF i)) 3000) ⟨sl,up (EQ sn H M) 6 (.iter 1 M.length (i::sn)),nx,nt⟩ ⟨sl',[(2,g7 3 x),(3,eW x),(5,.row 33 5 (aD H))]++DV (i::sn) M,3000,nt⟩:=by
 have hil:=(JT.1 hi).1;have hup:up (EQ sn H M) 6 (.iter 1 M.length (i::sn))=(5,.row 33 5 (aD H))::(6,.iter 1 M.length (i::sn))::(1,.mapb (cP (pS sn) M 0))::rW (fun i=>!sn.contains i) M 0:=rfl;rw[hup] at hs ⊢;have hlk:∀j y,M[j]? = some y->j∉sn->lk ((5,.row 33 5 (aD H))::(6,.iter 1 M.length (i::sn))::(1,.mapb (cP (pS sn) M 0))::rW (fun i=>!sn.contains i) M 0) (100+2*j)=some (g7 (101+2*j) y)/\lk ((5,.row 33 5 (aD H))::(6,.iter 1 M.length (i::sn))::(1,.mapb (cP (pS sn) M 0))::rW (fun i=>!sn.contains i) M 0) (101+2*j)=some (eW y):=fun j y hj hjn=>by
  have:=oX (S:=fun i=>!sn.contains i) (i:=0) hj (by simpa using hjn);rw[Jt] at this;simp only[lk];rw[aO (show 5≠100+2*j by omega),aO (show 5≠101+2*j by omega),aO (show 6≠100+2*j by omega),aO (show 6≠101+2*j by omega),aO (show 1≠100+2*j by omega),aO (show 1≠101+2*j by omega)];exact this
 have ht:∀a,100<=a->a<3000->a≠100+2*i->a≠101+2*i->lk (j7 (fT (lF i)) 3000) a=some a:=fun a h1 h2 h3 h4=>bM h2 (G1 (Ee h3 h4 h1) h1 h2)
 refine Aq (AK (by rfl)) (tZ.app (fun p hp=>?_) (wB (a:=6) (m:=1) (f:=pS sn) rfl (bM om (Cq i 6 om)) rfl (bM om (Cq i 1 om)) (fun j hj hjn=>?_) (fun j g hj hjn=>?_))) hs ?_
 ·simp only[JQ,KW,or_false] at hp;rcases hp with rfl|rfl|rfl
  ·exact .inl ⟨100+2*i,_,_,_,_,rfl,bM om (HN i),(hlk i x hi hn).1,.cons (.agg (.cons (.same _ (.il' (aU _))) (.s (.s (.s (.cons (.sl _ 3 0 _ (bM om (H6 i))) .nil)))))) .nil⟩
  ·exact .inl ⟨101+2*i,_,_,_,_,rfl,bM om (H6 i),(hlk i x hi hn).2,.same (aM _)⟩
  ·exact .inl ⟨5,_,_,_,_,rfl,bM om (Cq i 5 om),rfl,.same (aK _)⟩
 ·simp only[JQ,not_or] at hjn;unfold pS;rw[Ja hjn.2];exact .ptr _ _ 0 0 (ht _ om om om om)
 ·simp only[JQ,not_or] at hjn;have hjl:=(JT.1 hj).1;exact⟨_,_,(hlk j g hj hjn.2).1,(hlk j g hj hjn.2).2,ht _ om om om om,ht _ om om om om⟩
 ·rw[J3];refine KI.2 ⟨by simp,vY,fun a ha b hb=>?_⟩;obtain⟨p,hp,rfl⟩:=Jf.1 hb;have:=xE p hp;simp at ha;omega
def B1(H:List Gr)(g:Gr)(n:Nat)(b1 b2:AB)(ys:List AV):aA:=[(3007,.row 33 5 (aD H++[.agg [.il 1 (a6 g.min),.int .i64 g.oc.kind,.int .i64 g.oc.at_,.int .i64 g.oc.code,.sl 3 0 n]])),(3006,b1),(3,.row 57 4 ys),(2,b2)]
theorem EK{sl sl':List (Nat × AV)}{M H:List Gr}{sn:List Nat}{g:Gr}{dd:List Fl}{b1 b2:AB}{ys:List AV}{nx nt:Nat}(hM:M.length<=1000)(hy1:Go.Ax.f9 ys)(hy2:ys.take dd.length=aQ dd)(hy3:dd.length<=ys.length)
  (hs:dZ (B1 H g dd.length b1 b2 ys++DV sn M) (j7 (fT [(3007,5),(6,6),(1,1)]) 3010) sl sl') :
  Conv 0 (j7 (fT [(3007,5),(6,6),(1,1)]) 3010) ⟨sl,B1 H g dd.length b1 b2 ys++DV sn M,nx,nt⟩ ⟨sl',EQ sn (H++[⟨g.min,g.oc,dd⟩]) M,3000,nt⟩:=by
 have ht:∀a,100<=a->a<3000->lk (j7 (fT [(3007,5),(6,6),(1,1)]) 3010) a=some a:=fun a h1 h2=>bM om (G1 (hX fun p hp=>by
  simp only[JQ,KW,or_false] at hp;rcases hp with rfl|rfl|rfl<;>simp only<;>omega) h1 h2)
 refine Aq (AK (by rfl)) (fun p hp=>?_) hs ?_
 ·rcases JQ.1 hp with rfl|hp
  ·exact .inl ⟨3007,_,_,_,_,rfl,bM om rfl,rfl,wN (s5.snoc (y:=dV ⟨g.min,g.oc,dd⟩) rfl (.same (aK H)) (.agg (.cons (.same _ (.il' (aU _))) (.s (.s (.s (.cons (.fz' (id:=3) (off:=0) (len:=dd.length) rfl (DU rfl) om (by rw[LY];exact hy2) (aM _)) .nil))))))) (iW _ _)⟩
  ·refine wB (σ:=j7 (fT [(3007,5),(6,6),(1,1)]) 3010) (a:=6) (m:=1) (f:=pS sn) rfl (bM om rfl) rfl (bM om rfl) (fun i hi hn=>?_) (fun i x hi hn=>?_) p hp
   ·unfold pS;rw[Ja hn];exact .ptr _ _ 0 0 (ht _ om om)
   ·have hil:=(JT.1 hi).1;have hl:=Gj (sn:=sn) (mem:=B1 H g dd.length b1 b2 ys) (fun p hp=>by
     unfold B1 at hp;rcases JQ.1 hp with rfl|hp
     ·exact .inr (show (2999:Nat)<3007 by omega)
     rcases JQ.1 hp with rfl|hp
     ·exact .inr (show (2999:Nat)<3006 by omega)
     rcases JQ.1 hp with rfl|hp
     ·exact .inl (show (3:Nat)<100 by omega)
     rcases JQ.1 hp with rfl|hp
     ·exact .inl (show (2:Nat)<100 by omega)
     ·cases hp) hM hi hn
    exact⟨_,_,hl.1,hl.2,ht _ om om,ht _ om om⟩
 ·simp only[EQ,Jz,Jn];refine⟨fun h=>?_,vY⟩;obtain⟨p,hp,e⟩:=Jf.1 h;have:=xE p hp;omega
theorem DZ{sn:List Nat}{H M:List Gr}{i:Nat}{k v:AV}(h:(cP (pS sn) M 0)[i]? = some (k,v)):sL (up (EQ sn H M) 6 (.iter 1 M.length (i::sn))) (.ptr 6 0 0)=some (.tup [k,v]):=by
 show (match Nat.beq (cP (pS sn) M 0).length M.length with
  | true=>match (cP (pS sn) M 0)[i]? with
   | some (k,v)=>some (AV.tup [k,v])
   | none=>none
  | false=>none)=_
 rw[i6,h,Nat.beq_refl]
theorem oW(Ls:List (List Gr))(hb:∀g∈Ls.flatten,GB g/\Gs (aT g))(hl:Ls.flatten.length<=1000)(hf:FT Ls.flatten<=1000000)(hL:Ls.length<=1000000) :
  aR prog gz 10 [.il 1 (dT Ls)] (.il 5 (aD (bJ Ls.flatten))):=by
 have nl:NN (.il 1 (dT Ls)):=.il' (yN Ls);have ll:=B6 Ls;refine aN bE func10 rfl ?_;refine Rr ?_;refine bH.at bE (fun x:Nat × List Gr=>x.1<=Ls.length/\B3 (Ls.take x.1).flatten x.2/\x.2.length<=(Ls.take x.1).flatten.length/\∀g∈x.2,g.fs.length<=FT (Ls.take x.1).flatten)
  (fun x=>⟨[(3,.mp 1),(18,.il 1 (dT Ls)),(19,.int .i64 Ls.length),(20,.int .i64 x.1)],i7 x.2,3000,107⟩) (fun x=>Ls.length-x.1) (0,[]) [(0,1)] ⟨by simp,Ey,by simp,by simp⟩
  (bD _ rfl ⟨⟨0,_,rfl,rfl,rfl,fun j e e' h=>by simp at h⟩,trivial⟩ ⟨⟨_,rfl,.mp 0 1 rfl⟩,aP nl,⟨_,rfl,.eq nn (by rw[ll])⟩,aL,trivial⟩) ?_
 rintro⟨i,M0⟩ ⟨hi,hT,hM,hMf⟩;simp only at hi hT hM hMf ⊢;have hd:decide ((i:Int)<(Ls.length:Int))=decide (i<Ls.length):=Jq.2 om;by_cases hlt:i<Ls.length
 ·have ei:=EJ hlt;refine Rr ?_;rw[hd,Jk hlt];refine Rr ?_;repeat((first|refine aI ei ?_|refine aF ?_);refine Rr ?_)
  have hfl:(Ls.take (i+1)).flatten=(Ls.take i).flatten++Ls[i]:=by rw[Jd hlt,List.flatten_append];simp
  have hpre:∃r,Ls.flatten=(Ls.take i).flatten++Ls[i]++r:=⟨(Ls.drop (i+1)).flatten,by rw[←hfl,←List.flatten_append,List.take_append_drop]⟩
  obtain⟨r,hr⟩:=hpre;have hbG:∀g∈(Ls.take i).flatten++Ls[i],GB g/\Gs (aT g):=fun g hg=>hb g (by rw[hr];exact Je _ hg)
  have hlG:((Ls.take i).flatten++Ls[i]).length<=1000:=by rw[hr,J9] at hl;omega
  have hfG:FT ((Ls.take i).flatten++Ls[i])<=1000000:=by rw[hr,jL] at hf;omega
  have hnext:∀M',B3 ((Ls.take i).flatten++Ls[i]) M'->M'.length<=((Ls.take i).flatten++Ls[i]).length->(∀g∈M',g.fs.length<=FT ((Ls.take i).flatten++Ls[i])) ->
    (fun x:Nat × List Gr=>x.1<=Ls.length/\B3 (Ls.take x.1).flatten x.2/\x.2.length<=(Ls.take x.1).flatten.length/\∀g∈x.2,g.fs.length<=FT (Ls.take x.1).flatten) (i+1,M'):=fun M' h1 h2 h3=>by
   simp only;rw[hfl];exact⟨om,h1,h2,h3⟩
  generalize (Ls.take i).flatten=P at *;generalize Ls[i]=G at *;have nG:NN (.il 5 (aD G)):=.il' (aK G);have lG:=bA G;clear hr hfl;refine bH.at bE (fun x:Nat × List Gr=>x.1<=G.length/\B3 (P++G.take x.1) x.2/\x.2.length<=P.length+x.1/\∀g∈x.2,g.fs.length<=FT (P++G.take x.1))
   (fun x=>⟨[(3,.mp 1),(18,.il 1 (dT Ls)),(19,.int .i64 Ls.length),(20,.int .i64 i),(24,.il 5 (aD G)),(25,.int .i64 G.length),(26,.int .i64 x.1)],i7 x.2,3000,107⟩) (fun x=>G.length-x.1) (0,M0) _ ⟨by simp,by simpa using hT,by simpa using hM,by simpa using hMf⟩
   (yJ (by rw[J9] at hlG;omega) ⟨⟨_,rfl,.mp 1 1 (bM om rfl)⟩,aP nl,aL,aL,aP nG,⟨_,rfl,.eq nn (by rw[lG])⟩,aL,trivial⟩) ?_
  clear hT hM hMf;rintro⟨k,M⟩ ⟨hk,hT,hM,hMf⟩;simp only at hk hT hM hMf ⊢;rw[J9] at hlG;have hdk:decide ((k:Int)<(G.length:Int))=decide (k<G.length):=Jq.2 om;by_cases hltk:k<G.length
  ·have ek:=iV hltk;obtain⟨hB,hy⟩:=hbG G[k] (Jw _ (Jl hltk));have hK:=IW G[k] hy hB.min;have hTk:P++G.take (k+1)=P++G.take k++[G[k]]:=by rw[Jd hltk,Kh]
   have hMy:∀x∈M,Gs (aT x):=fun x hx=>by
    obtain⟨z,hz,e⟩:=(hT.key (aT x)).1 ⟨x,hx,rfl⟩;rw[←e];refine(hbG z ?_).2;rcases JV.1 hz with hz|hz
    ·exact Je _ hz
    ·exact Jw _ (KE hz)
   have ng:=eN G[k];have hinj:∀x∈M,g9 (aT x)=g9 (aT G[k])->aT x=aT G[k]:=fun x hx h=>DM (hMy x hx) hy h
   generalize G[k]=g at *;obtain⟨kk,hkk⟩:∃kk,kk=g9 (aT g):=⟨_,rfl⟩
   rw[←hkk] at hK hinj;have lf:=aZ g.fs;obtain⟨p,⟨o1,o2,o3⟩,fs⟩:=g;have np:NN (.il 1 (a6 p)):=.il' (aU _);have nf:NN (.il 4 (aQ fs)):=.il' (aM _);refine Rr ?_;rw[hdk,Jk hltk];refine Rr ?_;repeat((first|refine aI ek ?_|refine aF ?_);refine Rr ?_)
   refine hK.use bE (.cons ng .nil) nn ?_;refine Rr ?_
   refine' cJ.joinM (P:=prog) (Γ:=gz) (B:=0) bE (fun a:Nat × List Gr × Gr=>a.2.1[a.1]? = some a.2.2/\a.2.1.length<=P.length+(k+1)/\a.2.2.fs.length<=FT (P++G.take k)/\(∀y∈a.2.1,y.fs.length<=FT (P++G.take k))/\B3 (P++G.take (k+1)) (a.2.1.set a.1 ⟨a.2.2.min,a.2.2.oc,a.2.2.fs++fs⟩))
    (fun a=>⟨[(3,.mp 1),(7,.ptr 4 0 0),(9,.ptr 2 0 0),(18,.il 1 (dT Ls)),(19,.int .i64 Ls.length),(20,.int .i64 i),(24,.il 5 (aD G)),(25,.int .i64 G.length),(26,.int .i64 k)],DK a.1 a.2.1 a.2.2 ⟨p,⟨o1,o2,o3⟩,fs⟩,3000,107⟩) (fun hJ=>?_) (fun a ha=>?_)
   rotate_left 2
   by_cases hex:∃(j:Nat) (x:Gr),M[j]? = some x/\aT x=aT ⟨p,⟨o1,o2,o3⟩,fs⟩
   ·obtain⟨j,x,hj,hx⟩:=hex;refine aI (EX (id:=1) (f:=pG) (M:=M) (j:=j) (g:=x) rfl hj (by rw[hx,hkk]) (fun j' y hj' hy' e=>by
     have:=hinj y (Jy hy') e;have:=xJ hT.nod (i:=j') (j:=j) (a:=aT x) (by rw[Js,hy',hx,←this];rfl) (by rw[Js,hj];rfl);omega)) ?_
    conv=>whnf
    refine cJ.go ?_
    conv=>whnf
    refine cJ.many ?_
    conv=>whnf
    refine fA.many ?_
    conv=>whnf
    refine cJ.go ?_
    conv=>whnf
    refine cJ.go ?_
    conv=>whnf
    have hjl:=(JT.1 hj).1;have hsp:M=M.take j++x::M.drop (j+1):=by
     have e:x=M[j]:=by rw[JS hjl] at hj;exact(Option.some.inj hj).symm
     rw[e,←List.drop_eq_getElem_cons hjl,List.take_append_drop]
    have hT':B3 (P++G.take (k+1)) (M.set j ⟨x.min,x.oc,x.fs++fs⟩):=by
     rw[hTk,List.set_eq_take_append_cons_drop,Jb hjl];exact FM (g:=⟨p,⟨o1,o2,o3⟩,fs⟩) (by rw[←hsp];exact hT) hx
    exact hJ (j,M,x) _ _ ⟨hj,by show M.length<=_;omega,hMf x (Jy hj),hMf,hT'⟩ (Dg om hj ⟨⟨_,rfl,.mp 1 1 (bM om (H7 j))⟩,⟨_,rfl,.ptr _ 4 0 0 (bM om (H0 om))⟩,⟨_,rfl,.ptr _ 2 0 0 (bM om (Hp j))⟩,aP nl,aL,aL,aP nG,aL,aL,trivial⟩)
   ·have hno:∀x∈M,aT x≠aT ⟨p,⟨o1,o2,o3⟩,fs⟩:=fun x hx e=>by
     obtain⟨j,hj⟩:=KK hx;exact hex ⟨j,x,hj,e⟩
    have lp:=bW p;refine aI (Ex (id:=1) (f:=pG) (M:=M) rfl (fun x hx e=>hno x hx (hinj x hx e))) ?_
    conv=>whnf
    refine cJ.go ?_
    conv=>whnf
    refine cJ.frame (m1:=[(3000,.row 33 5 [dV ⟨p,⟨o1,o2,o3⟩,fs⟩]),(1,.mapb (cP pG M 0))]) (rest:=rW (fun _=>true) M 0) ?_;have hpB:p.length<=1000000:=hB.min;refine Rr ?_;refine aS (dY rfl rfl rfl (by show 0+(a6 p).length<=_;rw[lp];omega)) ?_;refine Rt ?_;refine aI (xR fun x hx e=>hno x hx (hinj x hx e)) ?_
    conv=>whnf
    refine cS.2 ?_;refine Rr ?_;have hT':B3 (P++G.take (k+1)) ((M++[(⟨p,⟨o1,o2,o3⟩,[]⟩:Gr)]).set M.length ⟨p,⟨o1,o2,o3⟩,[]++fs⟩):=by
     rw[hTk,List.set_append_right _ _ (JX _),Nat.sub_self,KT];exact FE hT hno
    have hMl:M.length<1000:=om;refine⟨fun q hq z hz=>?_, ?_⟩
    ·have hne:∀m:Nat,(2999<m∨m=1)->m≠z.1:=fun m hm=>by have:=oY hz;omega
     rcases JQ.1 hq with rfl|hq
     ·exact hne 3008 om
     rcases JQ.1 hq with rfl|hq
     ·exact hne 3010 om
     rcases JQ.1 hq with rfl|hq
     ·exact hne 3000 om
     rcases JQ.1 hq with rfl|hq
     ·exact hne 1 om
     ·cases hq
    ·refine(cJ.ph 57 4 ?_:cJ _ _ _ _ _ _);have hR:(M++[(⟨p,⟨o1,o2,o3⟩,[]⟩:Gr)])[M.length]? = some ⟨p,⟨o1,o2,o3⟩,[]⟩:=by simp
     have hR2:∀y∈M++[(⟨p,⟨o1,o2,o3⟩,[]⟩:Gr)],y.fs.length<=FT (P++G.take k):=fun y hy=>by
       rcases JV.1 hy with hy|hy
       ·exact hMf y hy
       ·simp at hy;subst hy;simp
     refine hJ (M.length,M++[⟨p,⟨o1,o2,o3⟩,[]⟩],⟨p,⟨o1,o2,o3⟩,[]⟩) _ _ (And.intro hR (And.intro (by simp;omega) (And.intro (by simp) (And.intro hR2 hT')))) (DY (o:=⟨o1,o2,o3⟩) hMl hkk ?_);exact⟨⟨_,rfl,.mp 1 1 (bM om rfl)⟩,⟨_,rfl,.ptr 3000 4 0 0 (bM om rfl)⟩,⟨_,rfl,.ptr 3008 2 0 0 (bM om rfl)⟩,aP nl,aL,aL,aP nG,aL,aL,trivial⟩
   ·obtain⟨j,M1,x⟩:=a;obtain⟨hj,hM1,hxf,hMf1,hT1⟩:=ha;simp only at hj hM1 hxf hMf1 hT1 ⊢;refine cJ.frame (m1:=[(2,g7 3 x),(3,eW x),(4,.row 33 5 [dV ⟨p,⟨o1,o2,o3⟩,fs⟩])]) (rest:=kL j M1) ?_;have lxf:=aZ x.fs;obtain⟨xp,⟨x1,x2,x3⟩,xf⟩:=x;simp only at lxf hxf;have nxp:NN (.il 1 (a6 xp)):=.il' (aU _);refine Rr ?_;refine bH.at bE (fun j:Nat=>j<=fs.length)
     (fun j=>⟨[(3,.mp 1),(9,.ptr 2 0 0),(18,.il 1 (dT Ls)),(19,.int .i64 Ls.length),(20,.int .i64 i),(24,.il 5 (aD G)),(25,.int .i64 G.length),(26,.int .i64 k),(52,.il 4 (aQ fs)),(53,.int .i64 fs.length),(54,.int .i64 j)],
      [(2,.row 33 5 [.agg [.il 1 (a6 xp),.int .i64 x1,.int .i64 x2,.int .i64 x3,.sl 3100 0 (xf++fs.take j).length]]),(3100,.row 57 4 (aQ (xf++fs.take j)))],3200,107⟩) (fun j=>fs.length-j) 0 [(1,1),(2,2),(3,3100)] (by simp)
     (bD _ rfl ⟨⟨2,_,rfl,rfl,.cons (.agg (.cons (.same _ nxp) (.s (.s (.s (.cons (.slE rfl (by simp)) .nil)))))) .nil⟩,⟨3,_,rfl,rfl,.eq (aM _) (by simp)⟩,trivial⟩
      ⟨⟨_,rfl,.mp 1 1 rfl⟩,dU,aP nl,aL,aL,aP nG,aL,aL,aP nf,⟨_,rfl,.eq nn (by rw[lf])⟩,aL,trivial⟩) ?_
    intro q hq;have hdq:decide ((q:Int)<(fs.length:Int))=decide (q<fs.length):=Jq.2 om;have hfsB:fs.length<=1000000:=hB.fs;have hxl:(aQ (xf++fs.take q)).length=(xf++fs.take q).length:=aZ _;by_cases hltq:q<fs.length
    ·have eq_:=gN hltq;have e2:xf++fs.take (q+1)=xf++fs.take q++[fs[q]]:=by rw[Jd hltq,Kh]
     have hfp:fs[q].path.length<=1000000:=hB.path _ (Jl hltq);generalize fs[q]=f at *;obtain⟨fp,⟨f1,f2,f3⟩⟩:=f;have lfp:=bW fp;have nfp:NN (.il 1 (a6 fp)):=.il' (aU _);generalize hz:xf++fs.take q=z at *;have hFk:FT (P++G.take k)<=1000000:=by
      have:=vU G k;rw[jL] at hfG ⊢;omega
     have hzl:z.length<=2000000:=by rw[←hz,J9,J2,Kv hq,←lxf];omega
     refine Rr ?_;rw[hdq,Jk hltq];refine Rt ?_;repeat(refine aI eq_ ?_;refine Rt ?_)
     refine aS (dY rfl rfl rfl (by show 0+(a6 fp).length<=_;rw[lfp];have:fp.length<=1000000:=hfp;omega)) ?_;refine Rr ?_;repeat((first|refine dL.2 ?_|refine aF ?_|refine aS (dY rfl rfl (by rw[hxl]) (by simp;omega)) ?_);refine Rr ?_)
     exact .mk (q+1) [(1,1),(2,2),(3219,3100)] om (bD _ rfl ⟨⟨2,_,rfl,rfl,.cons (.agg (.cons (.same _ nxp) (.s (.s (.s (.cons (.slE rfl (by rw[e2];simp)) .nil)))))) .nil⟩,
       ⟨3219,_,rfl,rfl,wN (s5.snoc (y:=fZ ⟨fp,⟨f1,f2,f3⟩⟩) rfl (.same (aM z)) (.agg (.cons (.fzR (id:=3218) rfl rfl (.same (aU fp)) (by simp)) (.s (.s (.s .nil)))))) (by rw[e2,i5])⟩,trivial⟩
      ⟨⟨_,rfl,.mp 1 1 rfl⟩,dU,aP nl,aL,aL,aP nG,aL,aL,aP nf,aL,⟨_,rfl,.w64 om ⟨om,om⟩⟩,trivial⟩) om
    ·have:q=fs.length:=om;subst this;rw[Jx];refine Rr ?_;rw[hdq,Jm hltq];refine Rr ?_;have hM1':M1.length<=1000:=om;refine⟨fun q hq z hz=>?_, ?_⟩
     ·have hne:∀m:Nat,(m=2∨2999<m)->m≠z.1:=fun m hm=>by have:=zF z hz;omega
      rcases JQ.1 hq with rfl|hq
      ·exact hne 2 om
      rcases JQ.1 hq with rfl|hq
      ·exact hne 3100 om
      ·cases hq
     ·refine Rr ?_;refine .mk (k+1,M1.set j ⟨xp,⟨x1,x2,x3⟩,xf++fs⟩) (j7 (fU j) 3101) ⟨by simp only;omega,hT1,by simp only;rw[K6];omega, ?_⟩ (D8 (x:=⟨xp,⟨x1,x2,x3⟩,xf⟩) (y:=⟨xp,⟨x1,x2,x3⟩,xf++fs⟩) hM1' hj rfl ?_) (by simp only;omega)
      ·intro y hy;simp only at hy ⊢;rw[hTk,jL];rcases LQ hy with hy|rfl
       ·have:=hMf1 y hy;omega
       ·simp only[J9];have e:FT [(⟨p,⟨o1,o2,o3⟩,fs⟩:Gr)]=fs.length:=by simp[FT]
        rw[e];omega
      ·exact⟨⟨_,rfl,.mp 1 1 (bM om (HB j))⟩,aP nl,aL,aL,aP nG,aL,⟨_,rfl,.w64 om ⟨om,om⟩⟩,trivial⟩
  ·refine Rr ?_;rw[hdk,Jm hltk];refine Rr ?_;have:k=G.length:=om;subst this;rw[Jx] at hT hMf;exact .mk (i+1,M) _ (hnext M hT (by rw[J9];omega) hMf)
    (yJ om ⟨⟨_,rfl,.mp 1 1 (bM om rfl)⟩,aP nl,aL,⟨_,rfl,.w64 om ⟨om,om⟩⟩,trivial⟩) (by simp only;omega)
 ·have hil:i=Ls.length:=om;subst hil;rw[Jx] at hT hM hMf;have hM1:M0.length<=1000:=om;have nM1:=HA;have hMb:∀g∈M0,g.min.length<=1000000/\g.fs.length<=1000000/\∀f∈g.fs,f.path.length<=1000000:=fun g hg=>by
   obtain⟨z,hz,e⟩:=(hT.key (aT g)).1 ⟨g,hg,rfl⟩;refine⟨?_,by have:=hMf g hg;omega,fun f hf'=>?_⟩
   ·have e1:z.min=g.min:=congrArg Prod.fst e;rw[←e1];exact(hb z hz).1.min
   ·obtain⟨y,hy,_,h2⟩:=(hT.has (aT g) f).1 ⟨g,hg,rfl,hf'⟩;exact(hb y hy).1.path f h2
  clear hMf hd;refine Rr ?_;rw[show decide ((Ls.length:Int)<(Ls.length:Int))=false by simp];refine Rr ?_;refine bH.ph 33 5 ?_;refine bH.at bE (fun x:List Nat × List Gr=>x.1.Nodup/\(∀i∈x.1,i<M0.length)/\x.2.length=x.1.length/\∀(i j:Nat) (y:Gr),x.1.reverse[i]? = some j->x.2[i]? = some y->∃g,M0[j]? = some g/\Ef g y)
   (fun x=>⟨[(13,.ip (.fn (.func 21) [] [])),(14,.sl 5 0 x.2.length),(78,.ptr 6 0 0)],EQ x.1 x.2 M0,3000,107⟩) (fun x=>M0.length-x.1.length) ([],[]) (j7 (fT [(3001,6),(3002,5),(1,1)]) 3003) ⟨by simp,by simp,rfl,by simp⟩ (Dt hM1 ?_) ?_
  ·refine⟨⟨_,rfl,Ev (id:=3000) rfl (DU rfl) rfl nM1⟩,⟨_,rfl,.nslk 3002 5 _ rfl (bM om rfl)⟩,⟨_,rfl,.ptr 3001 6 0 0 (bM om rfl)⟩,trivial⟩
  rintro⟨sn,H⟩ ⟨hs1,hs2,hs3,hs4⟩;simp only at hs1 hs2 hs3 hs4 ⊢;have lH:=bA H;refine Rr ?_;refine HL (mem:=EQ sn H M0) (id:=6) (mid:=1) (n:=M0.length) (sn:=sn) (es:=cP (pS sn) M0 0) (fun _ _ h=>h) rfl rfl (i6 _ _ _) (fun i ky v hi hv=>?_) (fun hall=>?_)
  ·have he:=DZ (H:=H) hv;obtain⟨g,hg,rfl,rfl⟩:∃g,M0[i]? = some g/\ky = .str (g9 (aT g))/\v=pG i:=by
    rw[kF,Jt] at hv;cases hg:M0[i]? with
    | none=>rw[hg] at hv;cases hv
    | some g=>
     rw[hg] at hv;simp only[KC,Option.some.injEq,Prod.mk.injEq] at hv;refine⟨g,rfl,hv.1.symm, ?_⟩;rw[←hv.2];unfold pS;rw[Ja hi]
   refine Rr ?_;refine aI he ?_
   conv=>whnf
   have hil:=(JT.1 hg).1;refine cJ.conv bE (Df (sl':=[(13,.ip (.fn (.func 21) [] [])),(14,.sl 5 0 H.length),(16,.ptr 2 0 0),(78,.ptr 6 0 0)]) hM1 hg hi ⟨aP (.ip' nM1),⟨_,rfl,.sl 5 5 0 _ (bM om (Cq i 5 om))⟩,⟨_,rfl,.ptr _ 2 0 0 (bM om (HN i))⟩,⟨_,rfl,.ptr 6 6 0 0 (bM om (Cq i 6 om))⟩,trivial⟩) ?_;refine cJ.frame ?_;obtain⟨hb1,hb2,hb3⟩:=hMb g (Jy hg);have hS:=FV g.fs om fun f hf'=>by have:=hb3 f hf';omega
   refine Rr ?_;refine aC.useR bE [(3,0)] hS.glob rfl (.cons (.sl 3 0 0 _ rfl) (.cons (.same _ nM1) .nil)) ⟨c9 3 (aM _),trivial⟩ rfl ?_;rintro r m n' ⟨rfl,rfl,z,hz1,hz2,rfl⟩;refine⟨[(3,.row 57 4 (aQ z))],.tup' .nil,⟨c9 0 (aM _),trivial⟩,rfl, ?_⟩;have hzl:z.length=g.fs.length:=hz1.length_eq;have hC:=EL z om fun f hf'=>by have:=hb3 f (hz1.mem_iff.1 hf');omega
   rw[hzl] at hC;refine Rt ?_;obtain⟨d1,d2⟩:=DO rY hz1 hz2;rw[hzl] at d1 d2;refine aC.useN bE [(3,0)] hC.glob rfl (.cons (.sl 3 0 0 _ rfl) (.cons (.same _ Hd) .nil)) ⟨c9 3 (aM _),trivial⟩ rfl ?_;generalize eS a8 z g.fs.length=dd at *;rintro r m n' ⟨rfl,ys,rfl,rfl,hy1,hy2,hy3⟩;refine⟨[(0,3)],.sl 3 0 dd.length,[(3,.row 57 4 ys)],3006,.sl 0 3 0 _ rfl,⟨c9 0 hy1,trivial⟩,rfl, ?_⟩;have hsl:(i::sn).length<=M0.length:=by
    have:=gS (l:=i::sn) (m:=List.range M0.length) (Jn.2 ⟨hi,hs1⟩) fun a ha=>by
     rcases JQ.1 ha with rfl|ha
     ·exact Kj.2 hil
     ·exact Kj.2 (hs2 a ha)
    simpa using this
   rw[Kc] at hsl;refine Rr ?_;repeat((first|refine dL.2 ?_|refine aF ?_|refine aS (dY rfl rfl (by rw[lH]) (by simp;omega)) ?_);refine Rr ?_)
   refine⟨fun q hq w hw=>?_, ?_⟩
   ·have hne:∀m:Nat,(m=2∨m=3∨2999<m)->m≠w.1:=fun m hm=>by have:=xE w hw;omega
    rcases JQ.1 hq with rfl|hq
    ·exact hne 3007 om
    rcases JQ.1 hq with rfl|hq
    ·exact hne 3006 om
    rcases JQ.1 hq with rfl|hq
    ·exact hne 3 om
    rcases JQ.1 hq with rfl|hq
    ·exact hne 2 om
    ·cases hq
   ·refine Rr ?_;refine .mk (i::sn,H++[⟨g.min,g.oc,dd⟩]) (j7 (fT [(3007,5),(6,6),(1,1)]) 3010) ⟨Jn.2 ⟨hi,hs1⟩,fun a ha=>?_,by simp[hs3],fun a b y ha hy=>?_⟩ (EK hM1 hy1 hy2 hy3 ?_) (by simp only[Kc];omega)
    ·rcases JQ.1 ha with rfl|ha
     ·exact hil
     ·exact hs2 a ha
    ·simp only[KP] at ha hy;rcases Jc a sn.length with h|h
     ·rw[J1 (by simpa using h)] at ha;rw[J1 om] at hy;exact hs4 a b y ha hy
     ·rw[J8 (by simpa using h)] at ha;rw[J8 om] at hy;simp only[LM] at ha;rw[hs3] at hy;generalize a-sn.length=t at ha hy;cases t with
      | zero=>simp at ha hy;subst ha hy;exact⟨g,hg,rfl,d1,d2⟩
      | succ t=>simp at ha
    ·exact⟨aP (.ip' nM1),⟨_,rfl,.slE (id:=3007) (bM om rfl) (by simp)⟩,⟨_,rfl,.ptr 6 6 0 0 (bM om rfl)⟩,trivial⟩
  ·have hHl:H.length<=1000:=by
    have:=gS (l:=sn) (m:=List.range M0.length) hs1 fun a ha=>Kj.2 (hs2 a ha)
    simp at this;omega
   have hSG:=EV H om fun v hv=>by
    obtain⟨a,ha⟩:=KK hv;have hal:=(JT.1 ha).1;obtain⟨g,hg,hN⟩:=hs4 a _ v (JS (by rw[LM];omega)) ha;have e1:v.min=g.min:=congrArg Prod.fst hN.1;have:=(hMb g (Jy hg)).1;rw[e1];omega
   refine Rr ?_;refine aC.pre bE [(5,5)] (mem':=[(5,.row 33 5 (aD H))]) rfl ⟨c9 5 (aK _),trivial⟩ (.cons (.sl 5 5 0 _ rfl) (.cons (.same _ GX) .nil)) ?_;refine aC.useR bE [(5,0)] hSG.glob rfl (.cons (.sl 5 0 0 _ rfl) (.cons (.same _ GX) .nil)) ⟨c9 5 (aK _),trivial⟩ rfl ?_;rintro r m n' ⟨rfl,rfl,z,hz1,hz2,rfl⟩;refine⟨[(5,.row 33 5 (aD z))],.tup' .nil,⟨c9 0 (aK _),trivial⟩,rfl, ?_⟩;refine Rr ?_;have hR:z=bJ Ls.flatten:=FI hT (s:=sn.reverse) ((List.reverse_perm sn).nodup_iff.2 hs1) (fun i=>⟨fun h=>hs2 i (K4.1 h),fun h=>K4.2 (hall i h)⟩) (by rw[LM];exact hs3) (fun a b y ha hy=>hs4 a b y ha hy) hz1 hz2;exact b8 (r':=.il 5 (aD (bJ Ls.flatten))) (.fzR (id:=5) rfl rfl (.eq (aK _) (by rw[hR])) (by rw[bA,←hR];exact hz1.length_eq)) ⟨rfl,rfl,rfl⟩
end Go.Proofs.YtnbkfjjdlofdpaaGreatDoor
namespace Go.Ax
open Go
def nS(f:AV->Option AV):List AV->Option (List AV)
 | []=>some []
 | a::r=>match f a with
  | none=>none
  | some b=>match nS f r with
   | none=>none
   | some t=>some (b::t)
def frz:Nat->List (Nat × Nat)->aA->AV->Option AV
 | 0,_,_,_=>none
 | n+1,σ,m,v=>match v with
  | .bool b=>some (.bool b)
  | .int k i=>some (.int k i)
  | .str s=>some (.str s)
  | .nptr=>some .nptr
  | .nsl=>some .nsl
  | .nmap=>some .nmap
  | .nfn=>some .nfn
  | .nif=>some .nif
  | .sl id off len=>match lk σ id with
   | none=>match lk m id with
    | some (.row t sz xs)=>match Nat.ble (off+len) xs.length with
     | true=>match nS (frz n σ m) ((xs.drop off).take len) with
      | some ys=>some (.il sz ys)
      | none=>none
     | false=>none
    | _=>none
   | some _=>none
  | .il sz xs=>match nS (frz n σ m) xs with
   | some ys=>some (.il sz ys)
   | none=>none
  | .ifc t v=>match frz n σ m v with
   | some v'=>some (.ifc t v')
   | none=>none
  | .agg cs=>match nS (frz n σ m) cs with
   | some ys=>some (.agg ys)
   | none=>none
  | .tup cs=>match nS (frz n σ m) cs with
   | some ys=>some (.tup ys)
   | none=>none
  | _=>none
structure nX(m:aA)(σ:List (Nat × Nat))(v v':AV):Prop where
 cv:Cv m σ v v'
 nn:NN v'
 ce:m7 m σ v.cells v'.cells
theorem nX.len{m:aA}{σ:List (Nat × Nat)}{v v':AV}(h:nX m σ v v'):v.cells.length=v'.cells.length:=h.ce.1
theorem dN{m:aA}{σ:List (Nat × Nat)}{f:AV->Option AV}(hf:∀v v',f v=some v'->nX m σ v v'):∀{l l':List AV},nS f l=some l'->l.length=l'.length/\∀(j:Nat) (a b:AV),l[j]? = some a->l'[j]? = some b->nX m σ a b
 | [],l',h=>by simp only[nS] at h;cases h;exact⟨rfl,fun j a b h=>by simp at h⟩
 | a::r,l',h=>by
  simp only[nS] at h;split at h
  ·cases h
  ·rename_i b hb;split at h
   ·cases h
   ·rename_i t ht;cases h;obtain⟨h1,h2⟩:=dN hf ht;refine⟨by simp[h1],fun j x y hx hy=>?_⟩;cases j with
    | zero=>simp at hx hy;subst hx hy;exact hf _ _ hb
    | succ j=>simp at hx hy;exact h2 j x y hx hy
theorem lR{m:aA}{σ:List (Nat × Nat)}{l l':List AV}(h1:l.length=l'.length)(h2:∀(j:Nat) (a b:AV),l[j]? = some a->l'[j]? = some b->nX m σ a b):f9 l':=fun b hb=>by
 obtain⟨j,hj⟩:=KK hb;obtain⟨a,ha⟩:=bG h1 hj;exact(h2 j a b ha hj).nn
theorem nX.one{m:aA}{σ:List (Nat × Nat)}{v v':AV}(h1:v.cells=[v])(h2:v'.cells=[v'])(hc:Cv m σ v v')(hn:NN v'):nX m σ v v':=
 ⟨hc,hn,by rw[h1,h2];exact m7.cons hc .nil⟩
theorem fH{m:aA}{σ:List (Nat × Nat)}:∀(n:Nat) (v v':AV),frz n σ m v=some v'->nX m σ v v'
 | 0,v,v',h=>by simp[frz] at h
 | n+1,v,v',h=>by
  have ih:=fH (m:=m) (σ:=σ) n;cases v with
  | bool b=>simp only[frz] at h;cases h;exact .one rfl rfl (.same _ (.bool b)) (.bool b)
  | int k i=>simp only[frz] at h;cases h;exact .one rfl rfl (.same _ (.int k i)) (.int k i)
  | str s=>simp only[frz] at h;cases h;exact .one rfl rfl (.same _ (.str s)) (.str s)
  | nptr=>simp only[frz] at h;cases h;exact .one rfl rfl (.same _ .nptr) .nptr
  | nsl=>simp only[frz] at h;cases h;exact .one rfl rfl (.same _ .nsl) .nsl
  | nmap=>simp only[frz] at h;cases h;exact .one rfl rfl (.same _ .nmap) .nmap
  | nfn=>simp only[frz] at h;cases h;exact .one rfl rfl (.same _ .nfn) .nfn
  | nif=>simp only[frz] at h;cases h;exact .one rfl rfl (.same _ .nif) .nif
  | ptr id i j=>simp[frz] at h
  | mp id=>simp[frz] at h
  | ip v=>simp[frz] at h
  | fn f a b=>simp[frz] at h
  | junk=>simp[frz] at h
  | yld id=>simp[frz] at h
  | sl id off len=>
   simp only[frz] at h;split at h
   ·rename_i hs;split at h
    ·rename_i t sz xs hx;split at h
     ·rename_i hle;split at h
      ·rename_i ys hy;cases h;have hle:=JR hle;obtain⟨h1,h2⟩:=dN ih hy;have hget:∀(i:Nat) (x y:AV),xs[off+i]? = some x->ys[i]? = some y->nX m σ x y:=fun i x y hx hy=>by
        refine h2 i x y ?_ hy;have hlt:i<ys.length:=(JT.1 hy).1;rw[←h1] at hlt;rw[Ju,Jb (by simp at hlt;omega),Jv];exact hx
       refine .one rfl rfl (.fz id off len t sz xs ys hx hs hle (by rw[←h1];simp;omega) (fun i x y hx hy=>(hget i x y hx hy).len) fun i x y j c c' hx hy hc hc'=>(hget i x y hx hy).ce.2 j c c' hc hc') ?_;exact NN.il' (lR h1 h2)
      ·cases h
     ·cases h
    ·cases h
   ·cases h
  | il sz xs=>
   simp only[frz] at h;split at h
   ·rename_i ys hy;cases h;obtain⟨h1,h2⟩:=dN ih hy;refine .one rfl rfl (.il sz xs ys h1 (fun i x y hx hy=>(h2 i x y hx hy).len) fun i x y j c c' hx hy hc hc'=>(h2 i x y hx hy).ce.2 j c c' hc hc') ?_;exact NN.il' (lR h1 h2)
   ·cases h
  | ifc t v=>
   simp only[frz] at h;split at h
   ·rename_i v' hv;cases h;exact .one rfl rfl (.ifc t v v' (ih v v' hv).cv) (.ifc t v' (ih v v' hv).nn)
   ·cases h
  | agg cs=>
   simp only[frz] at h;split at h
   ·rename_i ys hy;cases h;obtain⟨h1,h2⟩:=dN ih hy;have hl:m7 m σ cs ys:=⟨h1,fun j c c' hc hc'=>(h2 j c c' hc hc').cv⟩
    exact⟨.agg' hl,.agg' (lR h1 h2),hl⟩
   ·cases h
  | tup cs=>
   simp only[frz] at h;split at h
   ·rename_i ys hy;cases h;obtain⟨h1,h2⟩:=dN ih hy;have hl:m7 m σ cs ys:=⟨h1,fun j c c' hc hc'=>(h2 j c c' hc hc').cv⟩
    exact .one rfl rfl (.tup' hl) (.tup' (lR h1 h2))
   ·cases h
theorem E7{m:aA}{args bs:List AV}(n:Nat)(h:nS (frz n [] m) args=some bs):m7 m [] args bs:=by
 obtain⟨h1,h2⟩:=dN (fH n) h;exact⟨h1,fun j c c' hc hc'=>(h2 j c c' hc hc').cv⟩
def Fq:aA->List (Nat × Nat)
 | []=>[]
 | (i,_)::r=>(i,i)::Fq r
theorem Gg{mem:aA}:∀{i:Nat} {b:AB},lk mem i=some b->lk (Fq mem) i=some i:=by
 induction mem with
 | nil=>intro i b h;simp[lk] at h
 | cons p r ih=>
  intro i b h;obtain⟨j,u⟩:=p;simp only[lk] at h;simp only[Fq,lk];split at h
  ·rename_i e;rw[Nat.eq_of_beq_eq_true e]
  ·exact ih h
def Bg(m:aA):aA->Bool
 | []=>true
 | (i,b)::r=>(match b with
  | .row t sz xs=>match lk m i with
   | some (.row t' sz' xs')=>match nS (frz 30 [] []) xs with
    | some ys=>Nat.beq t t' && (Nat.beq sz sz' && (gY xs' xs && gY ys xs))
    | none=>false
   | _=>false
  | _=>false) && Bg m r
theorem pY{m:aA}(σ:List (Nat × Nat)):∀{mem:aA},Bg m mem=true->(∀p∈mem,lk σ p.1=some p.1)->dE m σ mem
 | [],h,hs=>trivial
 | (i,b)::r,h,hs=>by
  simp only[Bg,JU] at h;refine⟨?_,pY σ h.2 fun p hp=>hs p (Jg _ hp)⟩;have h:=h.1;split at h
  ·rename_i t sz xs;split at h
   ·rename_i t' sz' xs' hl;split at h
    ·rename_i ys hy;simp only[JU] at h;obtain⟨h1,h2,h3,h4⟩:=h;have e1:=Nat.eq_of_beq_eq_true h1;have e2:=Nat.eq_of_beq_eq_true h2;have e3:=c8 h3;have e4:=c8 h4;subst e1 e2 e3 e4;obtain⟨g1,g2⟩:=dN (fH 30) hy;exact⟨i,ys,hs _ (Jo ..),hl,.same (lR g1 g2)⟩
    ·cases h
   ·cases h
  ·cases h
def JM(mem:aA)(want r:AV)(m:aA):Bool:=
 match frz 30 (Fq mem) m r with
 | some v=>match eF v want with
  | true=>Bg m mem
  | false=>false
 | none=>false
def JE(mem:aA)(want r:AV)(m:aA):Prop:=
 match JM mem want r m with
 | true=>True
 | false=>False
theorem Eb:∀{mem:aA},(mem.map (·.1)).Nodup->∀p∈mem,lk (Fq mem) p.1=some p.1:=by
 intro mem hn p hp;have:∃b,lk mem p.1=some b:=by
  clear hn
  induction mem with
  | nil=>cases hp
  | cons q r ih=>
   obtain⟨j,u⟩:=q;simp only[lk];split
   ·exact⟨u,rfl⟩
   ·rename_i e;rcases JQ.1 hp with rfl|hp
    ·simp at e
    ·exact ih hp
 obtain⟨b,hb⟩:=this;exact Gg hb
def tS(nx:Nat):aA->aA->(aA->aA->Prop)->Prop
 | [],acc,K=>K acc []
 | (i,b)::r,acc,K=>match Nat.ble nx i with
  | true=>tS nx r ((i,b)::acc) K
  | false=>K acc ((i,b)::r)
def AN(f:AV->(AV->Prop)->Prop->Prop):List AV->(List AV->Prop)->Prop->Prop
 | [],K,_=>K []
 | a::r,K,N=>f a (fun b=>AN f r (fun t=>K (b::t)) N) N
def Cg:Nat->aA->AV->(AV->Prop)->Prop->Prop
 | 0,_,_,_,N=>N
 | n+1,m,v,K,N=>match v with
  | .bool b=>K (.bool b)
  | .int k i=>K (.int k i)
  | .str s=>K (.str s)
  | .nptr=>K .nptr
  | .nsl=>K .nsl
  | .nmap=>K .nmap
  | .nfn=>K .nfn
  | .nif=>K .nif
  | .sl id off len=>match lk m id with
   | some (.row t sz xs)=>match Nat.ble (off+len) xs.length with
    | true=>AN (Cg n m) ((xs.drop off).take len) (fun ys=>K (.il sz ys)) N
    | false=>N
   | _=>N
  | .il sz xs=>AN (Cg n m) xs (fun ys=>K (.il sz ys)) N
  | .ifc t v=>Cg n m v (fun v'=>K (.ifc t v')) N
  | .agg cs=>AN (Cg n m) cs (fun ys=>K (.agg ys)) N
  | .tup cs=>AN (Cg n m) cs (fun ys=>K (.tup ys)) N
  | _=>N
theorem pD{f:AV->(AV->Prop)->Prop->Prop}{g:AV->Option AV}{N:Prop}(hf:∀v K,f v K N->N∨∃v',g v=some v'/\K v'):∀{l:List AV} {K:List AV->Prop},AN f l K N->N∨∃l',nS g l=some l'/\K l'
 | [],K,h=>.inr ⟨[],rfl,h⟩
 | a::r,K,h=>by
  rcases hf a _ h with h|⟨b,h1,h⟩
  ·exact .inl h
  ·rcases pD hf h with h|⟨t,h2,h⟩
   ·exact .inl h
   ·exact .inr ⟨b::t,by simp only[nS,h1,h2],h⟩
theorem C6{m:aA}{N:Prop}:∀(n:Nat) (v:AV) (K:AV->Prop),Cg n m v K N->N∨∃v',frz n [] m v=some v'/\K v'
 | 0,v,K,h=>.inl h
 | n+1,v,K,h=>by
  have ih:=C6 (m:=m) (N:=N) n;cases v with
  | bool b=>exact .inr ⟨_,rfl,h⟩
  | int k i=>exact .inr ⟨_,rfl,h⟩
  | str s=>exact .inr ⟨_,rfl,h⟩
  | nptr=>exact .inr ⟨_,rfl,h⟩
  | nsl=>exact .inr ⟨_,rfl,h⟩
  | nmap=>exact .inr ⟨_,rfl,h⟩
  | nfn=>exact .inr ⟨_,rfl,h⟩
  | nif=>exact .inr ⟨_,rfl,h⟩
  | ptr id i j=>exact .inl h
  | mp id=>exact .inl h
  | ip v=>exact .inl h
  | fn f a b=>exact .inl h
  | junk=>exact .inl h
  | yld id=>exact .inl h
  | sl id off len=>
   simp only[Cg] at h;split at h
   ·rename_i t sz xs hx;split at h
    ·rename_i hle;rcases pD ih h with h|⟨ys,h1,h⟩
     ·exact .inl h
     ·exact .inr ⟨_,by simp only[frz,lk,hx,hle,h1],h⟩
    ·exact .inl h
   ·exact .inl h
  | il sz xs=>
   simp only[Cg] at h;rcases pD ih h with h|⟨ys,h1,h⟩
   ·exact .inl h
   ·exact .inr ⟨_,by simp only[frz,h1],h⟩
  | ifc t v=>
   simp only[Cg] at h;rcases ih v _ h with h|⟨v',h1,h⟩
   ·exact .inl h
   ·exact .inr ⟨_,by simp only[frz,h1],h⟩
  | agg cs=>
   simp only[Cg] at h;rcases pD ih h with h|⟨ys,h1,h⟩
   ·exact .inl h
   ·exact .inr ⟨_,by simp only[frz,h1],h⟩
  | tup cs=>
   simp only[Cg] at h;rcases pD ih h with h|⟨ys,h1,h⟩
   ·exact .inl h
   ·exact .inr ⟨_,by simp only[frz,h1],h⟩
def JC(nx:Nat)(K:AV->aA->Nat->Prop)(r:AV)(m:aA)(n:Nat):Prop:=
 tS nx m [] fun m1 rest=>Cg 60 m1 r (fun r'=>K r' rest n) (K r m n)
theorem sO{nx:Nat}:∀{m acc:aA} {K:aA->aA->Prop},tS nx m acc K->∃m0 rest,m=m0++rest/\K (m0.reverse++acc) rest
 | [],acc,K,h=>⟨[],[],rfl,h⟩
 | (i,b)::r,acc,K,h=>by
  simp only[tS] at h;split at h
  ·obtain⟨m0,rest,h1,h2⟩:=sO h;exact⟨(i,b)::m0,rest,by rw[h1];rfl,by simpa using h2⟩
  ·exact⟨[],(i,b)::r,rfl,h⟩
theorem MR.sub{Γ:List (Nat × AV)}{X:Nat->Prop}{ρ:Nat->bC}{D:Nat->Prop}{mem rest:aA}{w:World}(hm:MR Γ X ρ D mem w)(hs:∀p∈rest,p∈mem)(hn:(rest.map (·.1)).Nodup):MR Γ X ρ D rest w:=by
 have ho:∀b,¬OX X ρ mem b->¬OX X ρ rest b:=by
  rintro b h (h'|⟨p,hp,h1,h2⟩)
  ·exact h (.inl h')
  ·exact h (.inr ⟨p,hs p hp,h1,h2⟩)
 refine⟨fun p h=>hm.low p (hs p h),fun p h hn=>?_,fun p h=>hm.emp p (hs p h),fun p h q h'=>hm.inj p (hs p h) q (hs q h'),hn,fun b hb=>⟨(hm.bar b hb).1,fun⟨p,hp,h1,h2⟩=>(hm.bar b hb).2 ⟨p,hs p hp,h1,h2⟩⟩,fun p h=>(hm.glo p h).mono (fun _ _=>rfl) (fun _ h=>h) fun b _ h=>⟨ho b h,rfl⟩⟩;obtain⟨o,h1,h2⟩:=hm.blk p (hs p h) hn;exact⟨o,h1,h2.mono (fun _ _=>rfl) (fun _ h=>h) fun b _ h=>⟨ho b h,rfl⟩⟩
theorem EA{P:Program}{Γ:List (Nat × AV)}(hΓ:∀p∈Γ,NN p.2){F:FuncId}{args:List AV}{mem:aA}{nx:Nat}{K:AV->aA->Nat->Prop}{Kp:Value->aA->Nat->Prop}(h:cC P Γ F args mem nx (JC nx K) Kp):cC P Γ F args mem nx K Kp:=by
 refine⟨fun X D ρ w vs hD hm hv=>(h.run X D ρ w vs hD hm hv).mono ?_⟩;rintro e w' ⟨m',n',ρ',hn,hm',hext,hend⟩;rcases hend with⟨r,v,rfl,hq,hr⟩|⟨x,rfl,hq⟩
 ·obtain⟨m0,rest,rfl,hq⟩:=sO hq;rw[KN] at hq;rcases C6 60 r _ hq with hq|⟨r',h1,hq⟩
  ·exact⟨_,n',ρ',hn,hm',hext,.inl ⟨r,v,rfl,hq,hr⟩⟩
  ·have hnd:=hm'.nod;rw[J3,KI] at hnd;obtain⟨d1,d2,d3⟩:=hnd;have hp:k0 (m0++rest) m0.reverse rest:=⟨fun p h=>Je _ (K4.1 h),fun p h=>Jw _ h,fun p h=>by
    rcases JV.1 h with h|h
    ·exact .inl (K4.2 h)
    ·exact .inr h,fun p h1 q h2=>d3 _ (Jf.2 ⟨p,K4.1 h1,rfl⟩) _ (Jf.2 ⟨q,h2,rfl⟩),by
    rw[List.map_reverse];exact List.pairwise_reverse.2 (d1.imp fun h=>Ne.symm h)⟩
   obtain⟨p1,pv⟩:=hm'.part hp;have hF:=fH (m:=m0.reverse) (σ:=[]) 60 r r' h1;obtain⟨-,v1,-⟩:=rG (σ:=[]) (m':=[]) (n':=n') hΓ hD p1 (fun p hp=>by cases hp) La (fun i j k h=>by simp[lk] at h) (fun i j h=>by simp[lk] at h);have e:fO [] ρ' ρ'=ρ':=funext fun i=>pM (by rintro⟨j,h⟩;simp[lk] at h)
   have hv':=v1 r r' hF.cv v (pv _ _ hr);rw[e] at hv';refine⟨rest,n',ρ',hn,hm'.sub (fun p h=>Jw _ h) d2,⟨hext.le,hext.agree,hext.size,hext.keep,fun p h=>hext.fresh p (Jw _ h),hext.env⟩,.inl ⟨r',v,rfl,hq,hv'.mono (fun _ _=>rfl) (fun _ h=>h) fun b _ ho=>⟨fun h=>ho (.inl ?_),rfl⟩⟩⟩;exact h
 ·exact⟨m',n',ρ',hn,hm',hext,.inr ⟨x,rfl,hq⟩⟩
def ES:List (Nat × List AV × AV)->Nat->List AV->(AV->Prop)->Prop->Prop
 | [],_,_,_,N=>N
 | (G,as',r)::t,F,args,K,N=>match Nat.beq G F with
  | true=>match gY args as' with
   | true=>K r
   | false=>ES t F args K N
  | false=>ES t F args K N
def dJ(P:Program)(Γ:List (Nat × AV))(tb:List (Nat × List AV × AV)):Prop:=∀e∈tb,aR P Γ e.1 e.2.1 e.2.2/\f9 e.2.1/\NN e.2.2
theorem DC{P:Program}{Γ:List (Nat × AV)}(hΓ:∀p∈Γ,NN p.2){F:Nat}{args:List AV}{mem:aA}{nx:Nat}{K:AV->aA->Nat->Prop}{N:Prop}:∀{tb:List (Nat × List AV × AV)},dJ P Γ tb->ES tb F args (fun r=>K r mem nx) N->N∨aC P Γ F args mem nx K
 | [],_,h=>.inl h
 | (G,as',r)::t,ht,h=>by
  have h2:dJ P Γ t:=fun e he=>ht e (Jg _ he)
  simp only[ES] at h;split at h
  ·rename_i hG;split at h
   ·rename_i he;have e1:=Nat.eq_of_beq_eq_true hG;have e2:=c8 he;subst e1 e2;obtain⟨g1,g2,g3⟩:=ht _ (Jo ..);exact .inr (g1.use hΓ g2 g3 h)
   ·exact DC hΓ h2 h
  ·exact DC hΓ h2 h
theorem dJ.nil{P:Program}{Γ:List (Nat × AV)}:dJ P Γ []:=fun e h=>by cases h
theorem dJ.cons{P:Program}{Γ:List (Nat × AV)}{F:Nat}{xs:List AV}{r:AV}{t:List (Nat × List AV × AV)}(h:aR P Γ F xs r)(h1:nS (frz 30 [] []) xs=some xs)(h2:frz 30 [] [] r=some r)(ht:dJ P Γ t):dJ P Γ ((F,xs,r)::t):=by
 intro e he;rcases JQ.1 he with rfl|he
 ·obtain⟨g1,g2⟩:=dN (m:=[]) (σ:=[]) (fH 30) h1;exact⟨h,lR g1 g2,(fH (m:=[]) (σ:=[]) 30 r r h2).nn⟩
 ·exact ht e he
end Go.Ax
namespace Go.Ax
open Go
noncomputable def IN{α:Type}(l:List (Nat × α))(j:Nat)(K:α->Prop):Prop:=
 List.rec (motive:=fun _=>Prop) False (fun p _ ih=>Prod.rec (motive:=fun _=>Prop) (fun i v=>Bool.rec (motive:=fun _=>Prop) ih (K v) (Nat.beq i j)) p) l
theorem A4{α:Type}(j:Nat)(K:α->Prop):∀l:List (Nat × α),IN l j K=fR (lk l j) K
 | []=>rfl
 | (i,v)::r=>by
  have ih:=A4 j K r
  show Bool.rec (motive:=fun _=>Prop) (IN r j K) (K v) (Nat.beq i j)=fR (lk ((i,v)::r) j) K
  rw[ih];simp only[lk];cases Nat.beq i j<;>rfl
noncomputable def IT{α:Type}(l:List (Nat × α))(j:Nat)(v:α):(List (Nat × α)->Prop)->Prop:=
 List.rec (motive:=fun _=>(List (Nat × α)->Prop)->Prop) (fun K=>K [(j,v)]) (fun p r ih=>fun K=>Prod.rec (motive:=fun _=>Prop) (fun i u=>Bool.rec (motive:=fun _=>Prop) (ih fun l=>K ((i,u)::l)) (K ((i,v)::r)) (Nat.beq i j)) p) l
theorem Di{α:Type}(j:Nat)(v:α):∀(l:List (Nat × α)) (K:List (Nat × α)->Prop),IT l j v K=x9 l j v K
 | [],K=>rfl
 | (i,u)::r,K=>by
  have ih:=Di j v r fun l=>K ((i,u)::l)
  show Bool.rec (motive:=fun _=>Prop) (IT r j v fun l=>K ((i,u)::l)) (K ((i,v)::r)) (Nat.beq i j)=x9 ((i,u)::r) j v K
  rw[ih];simp only[x9];cases Nat.beq i j<;>rfl
def Ii(v:Value)(K:AV->Prop):Prop:=
 match v with
 | .string s=>mH s.data.toList fun l=>K (.str l)
 | v=>fR (l5 v) K
noncomputable def eX(Γ:List (Nat × AV))(sl:List (Nat × AV))(x:Operand)(K:AV->Prop):Prop:=
 Operand.rec (motive:=fun _=>Prop) (fun t=>IN sl t K) (fun v=>Ii v K) (fun g=>IN Γ g fun v=>K (.ip v)) (fun f=>K (.fn (.func f) [] [])) x
theorem BM(Γ sl:List (Nat × AV))(x:Operand)(K:AV->Prop):eX Γ sl x K=dW Γ sl x K:=by
 cases x with
 | tmp t=>exact A4 t K sl
 | const v=>cases v<;>rfl
 | global g=>exact A4 g (fun v=>K (.ip v)) Γ
 | func f=>rfl
theorem sW:eX=dW:=by funext Γ sl x K;exact BM Γ sl x K
def II(Γ sl:List (Nat × AV))(K:AV->Prop)(a b:Operand)(c:AV):Prop:=match c with
 | .bool c=>EP c (dW Γ sl a K) (dW Γ sl b K)
 | _=>False
def HD(P:Program)(mem:aA)(nx:Nat)(src dst:TypeId)(a:AV)(K:AV->aA->Nat->Prop):Prop:=match P.underlying dst with
  | some (.slice _)=>lS true P mem nx src dst a K
  | _=>Br true P mem src dst a fun v=>K v mem nx
section
variable (P:Program) (Γ:List (Nat × AV)) (H:Hk) (sl:List (Nat × AV)) (mem:aA) (nx:Nat) (K:AV->aA->Nat->Prop) (Kp:Value->aA->Nat->Prop)
noncomputable def Dw(x:Operand):Prop:=eX Γ sl x fun v=>K v mem nx
noncomputable def F2(c a b:Operand):Prop:=eX Γ sl c (II Γ sl (fun v=>K v mem nx) a b)
noncomputable def Hl(t:TypeId)(x:Operand):Prop:=eX Γ sl x fun v=>GW P mem nx t v K
noncomputable def F1(t:TypeId)(x:Operand):Prop:=eX Γ sl x fun p=>zR P mem t p fun v=>K v mem nx
noncomputable def Cz(t:TypeId)(x y:Operand):Prop:=eX Γ sl x fun p=>eX Γ sl y fun v=>wQ P mem t p v fun m=>K (.tup []) m nx
noncomputable def IB(x:Operand):Prop:=eX Γ sl x fun p=>fR (EO p) fun v=>K v mem nx
noncomputable def HM(op:BinOp)(t:TypeId)(x y:Operand):Prop:=eX Γ sl x fun a=>eX Γ sl y fun b=>E0 true P op t x y a b fun v=>K v mem nx
noncomputable def JJ(op:UnOp)(x:Operand):Prop:=eX Γ sl x fun a=>IU true op a fun v=>K v mem nx
noncomputable def Fk(src dst:TypeId)(x:Operand):Prop:=eX Γ sl x fun a=>HD P mem nx src dst a K
noncomputable def I8(t:TypeId)(x:Operand)(f:Nat):Prop:=eX Γ sl x fun p=>jD P t f p fun v=>K v mem nx
noncomputable def JF(t:TypeId)(x:Operand)(f:Nat):Prop:=eX Γ sl x fun p=>wW P t f p fun v=>K v mem nx
noncomputable def JG(t:TypeId)(x ix:Operand):Prop:=eX Γ sl x fun p=>eX Γ sl ix fun i=>jB true P mem t p i fun v=>K v mem nx
noncomputable def JI(t:TypeId)(x ix:Operand):Prop:=eX Γ sl x fun p=>eX Γ sl ix fun i=>xQ true P t p i fun v=>K v mem nx
noncomputable def JA(x:Operand)(i:Nat):Prop:=eX Γ sl x fun p=>fR (kC p i) fun v=>K v mem nx
noncomputable def Fu(t:TypeId)(x ix:Operand)(ok:Bool):Prop:=eX Γ sl x fun p=>eX Γ sl ix fun i=>fR (gD P mem t p i ok) fun v=>K v mem nx
noncomputable def Iv(t:TypeId)(x y z:Operand):Prop:=eX Γ sl x fun p=>eX Γ sl y fun k=>eX Γ sl z fun v=>gP P mem t p k v fun m=>K (.tup []) m nx
noncomputable def H4(x:Operand):Prop:=eX Γ sl x fun v=>fR (quo v) fun y=>Kp y mem nx
def Gq(t:TypeId)(parts:Array (Nat × Operand)):Prop:=iZ Γ sl parts.toList fun ps=>vX P t ps fun v=>K v mem nx
def JO(t:TypeId)(len:Nat)(parts:Array (Nat × Operand)):Prop:=iZ Γ sl parts.toList fun ps=>iA P mem nx t len ps K
noncomputable def Fb(ce:Callee)(args:Array Operand)(ts:Array TypeId):Prop:=
 Callee.rec (motive:=fun _=>Prop) (fun f=>Bu P Γ sl f args.toList (fun v=>K v mem nx) fun F l=>H.call F l mem nx K Kp) (fun _ _=>False) (fun b=>oD true P Γ sl mem nx b args.toList ts.toList K) ce
noncomputable def ID(c:Call):Prop:=Call.rec (motive:=fun _=>Prop) (fun ce args ts=>Fb P Γ H sl mem nx K Kp ce args ts) c
def d7(op:Op):Prop:=yK true P Γ H sl mem nx op K Kp
noncomputable def HR(op:Op):Prop:=
 Op.rec (motive:=fun _=>Prop)
  (Dw Γ sl mem nx K) (Dw Γ sl mem nx K) (F2 Γ sl mem nx K) (fun t=>xA P mem nx t K) (Hl P Γ sl mem nx K) (Gq P Γ sl mem nx K) (JO P Γ sl mem nx K)
  (Iv P Γ sl mem nx K) (F1 P Γ sl mem nx K) (Cz P Γ sl mem nx K) (fun g=>d7 P Γ H sl mem nx K Kp (.ready g)) (fun g=>d7 P Γ H sl mem nx K Kp (.waits g)) (IB Γ sl mem nx K)
  (fun op t x y _=>HM P Γ sl mem nx K op t x y) (fun op _ x=>JJ Γ sl mem nx K op x) (Fk P Γ sl mem nx K) (fun t x=>d7 P Γ H sl mem nx K Kp (.sliceToArrayPointer t x)) (fun t x=>d7 P Γ H sl mem nx K Kp (.makeInterface t x))
  (fun a b c=>d7 P Γ H sl mem nx K Kp (.makeFunc a b c)) (fun a b=>d7 P Γ H sl mem nx K Kp (.makeMap a b)) (fun a b=>d7 P Γ H sl mem nx K Kp (.makeChan a b)) (fun a b c=>d7 P Γ H sl mem nx K Kp (.makeSlice a b c))
  (fun a b c d e=>d7 P Γ H sl mem nx K Kp (.slice a b c d e)) (I8 P Γ sl mem nx K) (JF P Γ sl mem nx K) (JG P Γ sl mem nx K) (JI P Γ sl mem nx K) (Fu P Γ sl mem nx K) (Iv P Γ sl mem nx K)
  (fun a b c=>d7 P Γ H sl mem nx K Kp (.mapEntry a b c)) (fun a b c d=>d7 P Γ H sl mem nx K Kp (.entryStore a b c d)) (fun a b=>d7 P Γ H sl mem nx K Kp (.range a b)) (fun a b=>d7 P Γ H sl mem nx K Kp (.next a b)) (fun a=>d7 P Γ H sl mem nx K Kp (.entry a))
  (fun a b c d=>d7 P Γ H sl mem nx K Kp (.typeAssert a b c d)) (JA Γ sl mem nx K) (ID P Γ H sl mem nx K Kp) (fun c=>d7 P Γ H sl mem nx K Kp (.go c)) (fun c=>d7 P Γ H sl mem nx K Kp (.defer c)) (H4 Γ sl mem nx Kp)
  (fun a b=>d7 P Γ H sl mem nx K Kp (.send a b)) (fun a b c=>d7 P Γ H sl mem nx K Kp (.recv a b c)) (fun a b=>d7 P Γ H sl mem nx K Kp (.select a b)) op
theorem Gp(op:Op):HR P Γ H sl mem nx K Kp op=yK true P Γ H sl mem nx op K Kp:=by
 cases op with
 | call c=>
  obtain⟨ce,args,ts⟩:=c;cases ce<;>rfl
 | pick c a b=>simp only[HR,F2,sW];first|done|rfl
 | convert a b c=>simp only[HR,Fk,sW];first|done|rfl
 | _=>first|rfl|(simp only[HR,Dw,Hl,F1,Cz,IB,HM,JJ,I8,JF,JG,JI,JA,Fu,Iv,H4,sW];first|done|rfl)
end
noncomputable def Gc(sl:List (Nat × AV))(nt:Nat)(d:Option Nat)(v:AV)(mem:aA)(nx:Nat)(K:St->Prop):Prop:=
 Option.rec (motive:=fun _=>Prop) (K ⟨sl,mem,nx,nt⟩) (fun d=>Bool.rec (motive:=fun _=>Prop) False (IT sl d v fun sl=>K ⟨sl,mem,nx,nt⟩) (Nat.blt d nt)) d
theorem Ei(sl:List (Nat × AV))(m0:aA)(n0 nt:Nat)(d:Option Nat)(v:AV)(mem:aA)(nx:Nat)(K:St->Prop):Gc sl nt d v mem nx K=g8 ⟨sl,m0,n0,nt⟩ d v mem nx K:=by
 cases d with
 | none=>rfl
 | some d=>
  show Bool.rec (motive:=fun _=>Prop) False (IT sl d v _) (Nat.blt d nt)=gO (Nat.blt d nt) (x9 sl d v _)
  rw[Di];cases Nat.blt d nt<;>rfl
noncomputable def Dx(ops:List Oper)(sl:List (Nat × AV))(g:Option (Nat × Bool))(yes no:Prop):Prop:=
 Option.rec (motive:=fun _=>Prop) yes (fun p=>j0 ops sl (some p) yes no) g
theorem DT(ops:List Oper)(sl:List (Nat × AV))(g:Option (Nat × Bool))(yes no:Prop):Dx ops sl g yes no=j0 ops sl g yes no:=by cases g<;>rfl
section
variable (P:Program) (Γ:List (Nat × AV)) (H:Hk)
noncomputable def Fr(ops:List Oper)(Kp:Value->St->Prop)(ih:St->Prop)(sl:List (Nat × AV))(mem:aA)(nx nt:Nat)(o:Oper):Prop:=
 Oper.rec (motive:=fun _=>Prop) (fun dst op _ _ _ g=>Dx ops sl g (HR P Γ H sl mem nx (fun v mem nx=>Gc sl nt dst v mem nx ih) (fun x mem nx=>Kp x ⟨sl,mem,nx,nt⟩) op) (Gc sl nt dst (.tup []) mem nx ih)) o
noncomputable def E6(ops:List Oper)(K:St->Prop)(Kp:Value->St->Prop)(l:List Oper):St->Prop:=
 List.rec (motive:=fun _=>St->Prop) K (fun o r ih=>fun s=>St.rec (motive:=fun _=>Prop) (fun sl mem nx nt=>Fr P Γ H ops Kp ih sl mem nx nt o) s) l
theorem BF(ops:List Oper)(K:St->Prop)(Kp:Value->St->Prop):∀(l:List Oper) (s:St),E6 P Γ H ops K Kp l s=A0 true P Γ H ops l s K Kp
 | [],s=>rfl
 | o::r,s=>by
  have ih:E6 P Γ H ops K Kp r=fun s=>A0 true P Γ H ops r s K Kp:=funext fun s=>BF ops K Kp r s
  obtain⟨sl,mem,nx,nt⟩:=s
  show Fr P Γ H ops Kp (E6 P Γ H ops K Kp r) sl mem nx nt o=_
  rw[ih];obtain⟨dst,op,ty,pos,aft,g⟩:=o
  show Dx ops sl g _ _=j0 ops sl g _ _
  rw[DT,Gp];simp only[Ei sl mem nx nt];first|done|rfl
def HW(k:St->Prop)(Q:Exit->St->Prop)(e:Exit)(s:St):Prop:=match e with
 | .normal=>k s
 | e=>Q e s
def Ih(id:Nat)(Q:Exit->St->Prop)(e:Exit)(s:St):Prop:=match e with
 | .exit i=>match Nat.beq i id with
  | true=>Q .normal s
  | false=>Q (.exit i) s
 | e=>Q e s
def IZ(Q:Exit->St->Prop)(e:Exit)(s:St):Prop:=match e with
 | .goto _=>False
 | e=>Q e s
def HG(x y:Prop)(v:AV):Prop:=match v with
 | .bool b=>EP b x y
 | _=>False
noncomputable def Ij(id:Nat)(ops:Array Oper)(draw:Bool)(s:St)(Q:Exit->St->Prop):Prop:=
 Bool.rec (motive:=fun _=>Prop) (E6 P Γ H ops.toList (Q .normal) (fun x s'=>Q (.panic [pe x]) s') ops.toList s) (oV true P Γ H (.region id ops true) s Q) draw
noncomputable def Ie(c:Operand)(x y:St->(Exit->St->Prop)->Prop)(s:St)(Q:Exit->St->Prop):Prop:=
 St.rec (motive:=fun _=>Prop) (fun sl _ _ _=>eX Γ sl c (HG (x s Q) (y s Q))) s
noncomputable def qJ(c:Code):St->(Exit->St->Prop)->Prop:=
 Code.rec (motive:=fun _=>St->(Exit->St->Prop)->Prop)
  (fun s Q=>Q .normal s)
  (Ij P Γ H)
  (fun _ _ ihx ihy=>fun s Q=>ihx s (HW (fun s'=>ihy s' Q) Q))
  (fun c _ _ ihx ihy=>Ie Γ c ihx ihy)
  (fun id _ ih=>fun s Q=>ih s (Ih id Q))
  (fun b _=>fun s Q=>H.loop b s Q)
  (fun g ps ca cb _ _=>fun s Q=>oV true P Γ H (.rangeFunc g ps ca cb) s Q)
  (fun i=>fun s Q=>Q (.exit i) s)
  (fun _ ih=>fun s Q=>ih s (IZ Q))
  (fun _=>fun s Q=>Q .normal s)
  (fun _=>fun _ _=>False)
  (fun s Q=>Q .ret s)
  (fun _=>fun _ _=>False) c
theorem Bc:∀(c:Code) (s:St) (Q:Exit->St->Prop),qJ P Γ H c s Q=oV true P Γ H c s Q:=by
 intro c
 induction c with
 | seq x y ihx ihy=>
  intro s Q
  show qJ P Γ H x s (HW (fun s'=>qJ P Γ H y s' Q) Q)=_
  rw[ihx];have:(fun s'=>qJ P Γ H y s' Q)=fun s'=>oV true P Γ H y s' Q:=funext fun s'=>ihy s' Q
  rw[this];rfl
 | cond c x y ihx ihy=>
  intro s Q;obtain⟨sl,mem,nx,nt⟩:=s
  show eX Γ sl c (HG (qJ P Γ H x _ Q) (qJ P Γ H y _ Q))=_
  rw[ihx,ihy,BM];rfl
 | block id c ih=>intro s Q;exact ih s _
 | scope c ih=>intro s Q;exact ih s _
 | region id ops draw=>
  intro s Q;cases draw with
  | true=>rfl
  | false=>exact BF P Γ H _ _ _ _ s
 | _=>intro s Q;rfl
end
def Hy(F:Nat):List (Nat × List AV × AV)->Bool
 | []=>false
 | (G,_,_)::r=>match Nat.beq G F with
  | true=>true
  | false=>Hy F r
def Io(ts:List (Nat × List AV × AV))(F:Nat)(args:List AV)(mem:aA)(K:AV->Prop)(N:Prop):Prop:=match Hy F ts with
 | false=>N
 | true=>AN (Cg 60 mem) args (fun as'=>ES ts F as' K N) N
theorem Fv{F:Nat}{args:List AV}{K:AV->Prop}{N:Prop}:∀{tb:List (Nat × List AV × AV)},ES tb F args K N->N∨∃r,(F,args,r)∈tb/\K r
 | [],h=>.inl h
 | (G,as',r)::t,h=>by
  simp only[ES] at h;have hr:ES t F args K N->N∨∃r',(F,args,r')∈(G,as',r)::t/\K r':=fun h=>(Fv h).imp id fun⟨r',h1,h2⟩=>⟨r',Jg _ h1,h2⟩
  split at h
  ·rename_i hG;split at h
   ·rename_i he;have e1:=Nat.eq_of_beq_eq_true hG;have e2:=c8 he;subst e1 e2;exact .inr ⟨r,Jo ..,h⟩
   ·exact hr h
  ·exact hr h
def lX(P:Program)(Γ:List (Nat × AV))(ts:List (Nat × List AV × AV)):Prop:=∀e∈ts,aR P Γ e.1 e.2.1 e.2.2/\Sc e.2.2
theorem lX.nil{P:Program}{Γ:List (Nat × AV)}:lX P Γ []:=fun e h=>by cases h
theorem lX.cons{P:Program}{Γ:List (Nat × AV)}{F:Nat}{xs:List AV}{r:AV}{t:List (Nat × List AV × AV)}(h:aR P Γ F xs r)(h1:Sc r)(ht:lX P Γ t):lX P Γ ((F,xs,r)::t):=by
 intro e he;rcases JQ.1 he with rfl|he
 ·exact⟨h,h1⟩
 ·exact ht e he
theorem Hf{P:Program}{Γ:List (Nat × AV)}(hΓ:∀p∈Γ,NN p.2){F:Nat}{args:List AV}{mem:aA}{nx:Nat}{K:AV->aA->Nat->Prop}{N:Prop}{ts:List (Nat × List AV × AV)}(ht:lX P Γ ts)(h:Io ts F args mem (fun r=>K r mem nx) N):N∨aC P Γ F args mem nx K:=by
 unfold Io at h;split at h
 ·exact .inl h
 ·rcases pD (fun v K h=>C6 60 v K h) h with h|⟨as',h1,h⟩
  ·exact .inl h
  ·rcases Fv h with h|⟨r,h2,h⟩
   ·exact .inl h
   ·obtain⟨g1,g2⟩:=ht _ h2;exact .inr (g1.lend hΓ (E7 60 h1) g2 h)
def FF:List (AV × AV)->List (AV × AV)->Bool
 | [],[]=>true
 | (a,b)::r,(c,d)::t=>eF a c && (eF b d && FF r t)
 | _,_=>false
theorem BI:∀{l m:List (AV × AV)},FF l m=true->l=m
 | [],[],_=>rfl
 | (a,b)::r,(c,d)::t,h=>by
  simp only[FF,JU] at h;rw[jT h.1,jT h.2.1,BI h.2.2]
 | [],_::_,h=>by cases h
 | _::_,[],h=>by cases h
def BQ:aA->aA->Bool
 | [],[]=>true
 | (i,a)::r,(j,b)::t=>Nat.beq i j && ((match a,b with
  | .row t1 s1 xs,.row t2 s2 ys=>Nat.beq t1 t2 && (Nat.beq s1 s2 && gY xs ys)
  | .mapb es,.mapb es'=>FF es es'
  | _,_=>false) && BQ r t)
 | _,_=>false
theorem y8:∀{l m:aA},BQ l m=true->l=m
 | [],[],_=>rfl
 | (i,a)::r,(j,b)::t,h=>by
  simp only[BQ,JU] at h;obtain⟨h1,h2,h3⟩:=h;rw[Nat.eq_of_beq_eq_true h1,y8 h3];split at h2
  ·simp only[JU] at h2;rw[Nat.eq_of_beq_eq_true h2.1,Nat.eq_of_beq_eq_true h2.2.1,c8 h2.2.2]
  ·rw[BI h2]
  ·cases h2
 | [],_::_,h=>by cases h
 | _::_,[],h=>by cases h
structure Xf where
 F:Nat
 args:List AV
 mem:aA
 nx:Nat
 r:AV
 m:aA
 n:Nat
def Xf.ok(P:Program)(Γ:List (Nat × AV))(x:Xf):Prop:=aC P Γ x.F x.args x.mem x.nx fun r m n=>r=x.r/\m=x.m/\n=x.n
def Ht:List Xf->Nat->List AV->aA->Nat->(AV->aA->Nat->Prop)->Prop->Prop
 | [],_,_,_,_,_,N=>N
 | x::t,F,args,mem,nx,K,N=>match Nat.beq x.F F with
  | true=>match Nat.beq x.nx nx && (gY args x.args && BQ mem x.mem) with
   | true=>K x.r x.m x.n
   | false=>Ht t F args mem nx K N
  | false=>Ht t F args mem nx K N
theorem D9{P:Program}{Γ:List (Nat × AV)}{F:Nat}{args:List AV}{mem:aA}{nx:Nat}{K:AV->aA->Nat->Prop}{N:Prop}:∀{t:List Xf},(∀x∈t,x.ok P Γ)->Ht t F args mem nx K N->N∨aC P Γ F args mem nx K
 | [],_,h=>.inl h
 | x::t,ht,h=>by
  have h2:∀x∈t,x.ok P Γ:=fun e he=>ht e (Jg _ he)
  simp only[Ht] at h;split at h
  ·rename_i hF;split at h
   ·rename_i he;simp only[JU] at he;have e1:=Nat.eq_of_beq_eq_true hF;have e2:=Nat.eq_of_beq_eq_true he.1;have e3:=c8 he.2.1;have e4:=y8 he.2.2;subst e1 e2 e3 e4;exact .inr ((ht x (Jo ..)).mono fun r m n ⟨h1,h2,h3⟩=>by rw[h1,h2,h3];exact h)
   ·exact D9 h2 h
  ·exact D9 h2 h
def A5(f:AV->List Nat->List Nat):List AV->List Nat->List Nat
 | [],acc=>acc
 | a::r,acc=>A5 f r (f a acc)
def qP:Nat->AV->List Nat->List Nat
 | 0,_,acc=>acc
 | n+1,v,acc=>match v with
  | .ptr id _ _=>id::acc
  | .sl id _ _=>id::acc
  | .mp id=>id::acc
  | .yld id=>id::acc
  | .ip v=>qP n v acc
  | .il _ xs=>A5 (qP n) xs acc
  | .fn _ a b=>A5 (qP n) b (A5 (qP n) a acc)
  | .ifc _ v=>qP n v acc
  | .agg xs=>A5 (qP n) xs acc
  | .tup xs=>A5 (qP n) xs acc
  | _=>acc
def HP:List (AV × AV)->List Nat->List Nat
 | [],acc=>acc
 | (a,b)::r,acc=>HP r (qP 60 b (qP 60 a acc))
def Hv:List (Nat × AV)->List Nat->List Nat
 | [],acc=>acc
 | (_,a)::r,acc=>Hv r (qP 60 a acc)
def Hw(b:AB)(acc:List Nat):List Nat:=match b with
 | .row _ _ xs=>A5 (qP 60) xs acc
 | .mapb es=>HP es acc
 | .loop sl _ _ _ _ _ _=>Hv sl acc
 | .iter mid _ _=>mid::acc
def G8:aA->List Nat->List Nat
 | [],acc=>acc
 | (_,b)::r,acc=>G8 r (Hw b acc)
def DD(nx:Nat)(m:aA):Nat->List Nat->List Nat->List Nat
 | 0,todo,bN=>todo++bN
 | _+1,[],bN=>bN
 | f+1,i::t,bN=>match Nat.ble nx i with
  | false=>DD nx m f t bN
  | true=>match CG i bN with
   | true=>DD nx m f t bN
   | false=>match lk m i with
    | none=>DD nx m f t bN
    | some b=>DD nx m f (Hw b t) (i::bN)
def yU(bN:List Nat):aA->(aA->Prop)->Prop
 | [],K=>K []
 | (i,b)::r,K=>match CG i bN with
  | true=>yU bN r fun m=>K ((i,b)::m)
  | false=>yU bN r K
def JK(nx:Nat)(K:AV->aA->Nat->Prop)(r:AV)(m:aA)(n:Nat):Prop:=
 tS nx m [] fun m1 rest=>mH (DD nx m 100000 (qP 60 r (G8 rest [])) []) fun bN=>yU bN m1.reverse fun m2=>qN m2 rest fun m=>K r m n
theorem vV{bN:List Nat}:∀{m:aA} {K:aA->Prop},yU bN m K->∃m',List.Sublist m' m/\K m'
 | [],K,h=>⟨[],.slnil,h⟩
 | (i,b)::r,K,h=>by
  simp only[yU] at h;split at h
  ·obtain⟨m',h1,h2⟩:=vV h;exact⟨_,h1.cons_cons _,h2⟩
  ·obtain⟨m',h1,h2⟩:=vV h;exact⟨_,h1.cons _,h2⟩
theorem CK{P:Program}{Γ:List (Nat × AV)}{F:FuncId}{args:List AV}{mem:aA}{nx:Nat}{K:AV->aA->Nat->Prop}{Kp:Value->aA->Nat->Prop}(h:cC P Γ F args mem nx (JK nx K) Kp):cC P Γ F args mem nx K Kp:=by
 refine⟨fun X D ρ w vs hD hm hv=>(h.run X D ρ w vs hD hm hv).mono ?_⟩;rintro e w' ⟨m',n',ρ',hn,hm',hext,hend⟩;rcases hend with⟨r,v,rfl,hq,hr⟩|⟨x,rfl,hq⟩
 ·obtain⟨m0,rest,rfl,hq⟩:=sO hq;rw[KN,KL] at hq;obtain⟨m2,hs,hq⟩:=vV (fI.1 hq);have hq:=cS.1 hq;have hsub:List.Sublist (m2++rest) (m0++rest):=hs.append (List.Sublist.refl rest);have hin:∀p∈m2++rest,p∈m0++rest:=fun p hp=>hsub.subset hp
  have hnd:((m2++rest).map (·.1)).Nodup:=hm'.nod.sublist (hsub.map _);have ho:∀b,¬OX X ρ' (m0++rest) b->¬OX X ρ' (m2++rest) b:=by
   rintro b h (h'|⟨p,hp,h1,h2⟩)
   ·exact h (.inl h')
   ·exact h (.inr ⟨p,hin p hp,h1,h2⟩)
  exact⟨m2++rest,n',ρ',hn,hm'.sub hin hnd,⟨hext.le,hext.agree,hext.size,hext.keep,fun p h=>hext.fresh p (hin p h),hext.env⟩,.inl ⟨r,v,rfl,hq,hr.mono (fun _ _=>rfl) (fun _ h=>h) fun b _ h=>⟨ho b h,rfl⟩⟩⟩
 ·exact⟨m',n',ρ',hn,hm',hext,.inr ⟨x,rfl,hq⟩⟩
theorem DS(P:Program)(Γ:List (Nat × AV))(H:Hk):qJ P Γ H=oV true P Γ H:=funext fun c=>funext fun s=>funext fun Q=>Bc P Γ H c s Q
noncomputable def EF(P:Program)(Γ:List (Nat × AV))(H:Hk)(tx:List Xf)(ts tb:List (Nat × List AV × AV))(dl pl gl:List Nat)(F:Nat)(args:List AV)(mem:aA)(nx:Nat)(K:AV->aA->Nat->Prop)(Kp:Value->aA->Nat->Prop):Prop:=
 Ht tx F args mem nx K (ES tb F args (fun r=>K r mem nx) (Io ts F args mem (fun r=>K r mem nx) (match Nat.beq F YF with
    | false=>match P.funcs[F]? with
     | some fn=>match fn.body with
      | some c=>match CG F dl with
       | false=>match CG F pl with
        | false=>match CG F gl with
         | false=>mJ fn.ntmps args mem nx fun s=>qJ P Γ H c s (zV P fn.results.toList K Kp)
         | true=>mJ fn.ntmps args mem nx fun s=>qJ P Γ H c s (zV P fn.results.toList (JK nx K) Kp)
        | true=>mJ fn.ntmps args mem nx fun s=>qJ P Γ H c s (zV P fn.results.toList (JC nx K) Kp)
       | true=>mJ fn.ntmps args mem nx fun s=>AO true P Γ H c s (C0 P Γ H fn.results.toList K Kp)
      | none=>False
     | none=>False
    | true=>Ag P Γ H args mem nx K)))
def IF(H:Hk)(c:Code)(Q:Exit->St->Prop)(e:Exit)(s':St):Prop:=match e with
 | .normal=>H.loop c s' Q
 | e=>Q e s'
noncomputable def pW(P:Program)(Γ:List (Nat × AV))(tx:List Xf)(ts tb:List (Nat × List AV × AV))(dl pl gl:List Nat)(n:Nat):Hk:=
 Nat.rec (motive:=fun _=>Hk) ⟨fun _ _ _ _ _ _=>False,fun _ _ _=>False⟩ (fun _ H=>⟨EF P Γ H tx ts tb dl pl gl,fun c s Q=>qJ P Γ H c s (IF H c Q)⟩) n
theorem yC(P:Program)(Γ:List (Nat × AV))(hΓ:∀p∈Γ,NN p.2){tx:List Xf}{ts tb:List (Nat × List AV × AV)}(hx':∀x∈tx,x.ok P Γ)(hs':lX P Γ ts)(ht:dJ P Γ tb)(dl pl gl:List Nat):∀n B,nB P Γ B (pW P Γ tx ts tb dl pl gl n) /\
  ∀c s Q,(pW P Γ tx ts tb dl pl gl n).loop c s Q->∀rd X ds D ρ a w,(∀i,D i->i<B)->SR Γ X ds ρ (dn D B s.nx) s a w->B<=s.nx->qA rd ds c ->
   Code.roundsIn (FW rd) 0 P c (fun e a' w'=>∃(s':St) (ρ':Nat->bC),Q e s'/\B<=s'.nx/\SR Γ X ds ρ' (dn D B s'.nx) s' a' w'/\Ext D ρ s.mem w ρ' (dn D B s'.nx) s'.mem w') n a w:=by
 intro n
 induction n with
 | zero=>exact fun B=>⟨⟨fun _ _ _ _ _ _ h=>h.elim,fun _ _ _ h=>h.elim⟩,fun _ _ _ h=>h.elim⟩
 | succ n ih=>
  intro B;have hr:∀c s Q,(pW P Γ tx ts tb dl pl gl (n+1)).loop c s Q->∀rd X ds D ρ a w,(∀i,D i->i<B)->SR Γ X ds ρ (dn D B s.nx) s a w->B<=s.nx->qA rd ds c ->
    Code.roundsIn (FW rd) 0 P c (fun e a' w'=>∃(s':St) (ρ':Nat->bC),Q e s'/\B<=s'.nx/\SR Γ X ds ρ' (dn D B s'.nx) s' a' w'/\Ext D ρ s.mem w ρ' (dn D B s'.nx) s'.mem w') (n+1) a w:=by
   intro c s Q h rd X ds D ρ a w hD hs hB hno;have h:qJ P Γ (pW P Γ tx ts tb dl pl gl n) c s (IF (pW P Γ tx ts tb dl pl gl n) c Q):=h;rw[Bc] at h;have h':=(bR (ih B).1 c s _ h).run rd X ds D ρ a w hD hs hB hno;rw[roundsIn_succ];refine wpIn_mono h' ?_;rintro e a1 w1 ⟨s1,ρ1,hq,hB1,hs1,hext⟩;cases e with
   | normal=>
    have key:=(ih B).2 c s1 Q hq rd X ds D ρ1 a1 w1 hD hs1 hB1 hno;refine p9 n a1 w1 _ _ ?_ key;rintro e a2 w2 ⟨s2,ρ2,h1,h2,h3,h4⟩;exact⟨s2,ρ2,h1,h2,h3,hext.trans h4⟩
   | exit id=>exact⟨s1,ρ1,hq,hB1,hs1,hext⟩
   | goto l=>exact⟨s1,ρ1,hq,hB1,hs1,hext⟩
   | ret=>exact⟨s1,ρ1,hq,hB1,hs1,hext⟩
   | panic ch=>exact⟨s1,ρ1,hq,hB1,hs1,hext⟩
   | outgrown=>exact⟨s1,ρ1,hq,hB1,hs1,hext⟩
  refine⟨⟨fun F args mem nx K Kp h=>?_,fun c s Q h=>⟨fun rd X ds D ρ a w hD hs hB hno=>wpIn_loop_rounds (n+1) (hr c s Q h rd X ds D ρ a w hD hs hB hno.loop)⟩⟩,hr⟩
  replace h:EF P Γ (pW P Γ tx ts tb dl pl gl n) tx ts tb dl pl gl F args mem nx K Kp:=h
  simp only[EF,DS] at h;rcases D9 (K:=K) hx' h with h0|h'
  rotate_left
  ·exact h'.toP
  clear h;rcases DC (K:=K) hΓ ht h0 with h'|h'
  rotate_left
  ·exact h'.toP
  clear h0;rcases Hf (K:=K) hΓ hs' h' with h|h'
  rotate_left
  ·exact h'.toP
  split at h
  ·rename_i hF;split at h
   ·rename_i fn hf;split at h
    ·rename_i c hc;split at h
     ·split at h
      ·split at h
       ·exact gQ hf hc ((bR (ih nx).1 _ _ _ (fB h)).mono fun _ _ h=>vR h) hF
       ·exact CK (gQ hf hc ((bR (ih nx).1 _ _ _ (fB h)).mono fun _ _ h=>vR h) hF)
      ·exact EA hΓ (gQ hf hc ((bR (ih nx).1 _ _ _ (fB h)).mono fun _ _ h=>vR h) hF)
     ·exact qK hf hc (A1 (fun B=>(ih B).1) nx _ _ _ (fB h)) hF
    ·exact h.elim
   ·exact h.elim
  ·rename_i hF;have e:=Nat.eq_of_beq_eq_true hF;subst e;exact wY (fun B=>(ih B).1) h
theorem tB{P:Program}{Γ:List (Nat × AV)}(hΓ:∀p∈Γ,NN p.2){tx:List Xf}{ts tb:List (Nat × List AV × AV)}(hx':∀x∈tx,x.ok P Γ)(hs':lX P Γ ts)(ht:dJ P Γ tb){F:FuncId}{args:List AV}{mem:aA}{nx:Nat}{Q:AV->aA->Nat->Prop}(dl pl gl:List Nat)(n:Nat)(h:(pW P Γ tx ts tb dl pl gl n).call F args mem nx Q fun _ _ _=>False):aC P Γ F args mem nx Q:=
 ((yC P Γ hΓ hx' hs' ht dl pl gl n nx).1.call F args mem nx Q _ h).toC fun _ _ _ h=>h
theorem bT{P:Program}{Γ:List (Nat × AV)}{F:FuncId}{args:List AV}{mem:aA}{nx:Nat}{want:AV}(hΓ:∀p∈Γ,NN p.2){tx:List Xf}{ts tb:List (Nat × List AV × AV)}(hx':∀x∈tx,x.ok P Γ)(hs':lX P Γ ts)(ht:dJ P Γ tb)(dl pl gl:List Nat)(n:Nat)
  (hc:(n9 (Fq mem) && (pJ mem && (uZ nx nx (Fq mem) && Nat.ble nx nx)))=true)
  (h:((pW P Γ tx ts tb dl pl gl n).call F args mem nx (fun r m _=>JE mem want r m) fun _ _ _=>False)=True):aC P Γ F args mem nx fun r m k=>r=want/\m=mem/\k=nx:=by
 refine aC.turn hΓ ((tB hΓ hx' hs' ht dl pl gl n (by rw[h];trivial)).mono fun r m k hk=>?_);unfold JE at hk;split at hk
 ·rename_i hb;unfold JM at hb;split at hb
  ·rename_i v hv;split at hb
   ·rename_i he;have e:=jT he;subst e;have hn:(mem.map (·.1)).Nodup:=by
     simp only[JU] at hc;exact cG hc.2.1
    exact pI (Fq mem) hc (pY _ hb (Eb hn)) (fH 30 r v hv).cv ⟨rfl,rfl,rfl⟩
   ·cases hb
  ·cases hb
 ·exact hk.elim
theorem iP{P:Program}{Γ:List (Nat × AV)}:∀x∈([]:List Xf),x.ok P Γ:=fun x h=>by cases h
end Go.Ax
