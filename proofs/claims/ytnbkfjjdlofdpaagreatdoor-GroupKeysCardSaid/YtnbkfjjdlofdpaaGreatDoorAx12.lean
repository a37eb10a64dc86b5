/- A part of the proof. -/
import Derived.Test.YtnbkfjjdlofdpaaGreatDoorAx11
set_option linter.unusedVariables false
set_option linter.unusedSimpArgs false
set_option linter.unusedSectionVars false
namespace Go.Proofs.YtnbkfjjdlofdpaaGreatDoor
open Go Go.Ax Go.Proofs Tryz
set_option maxRecDepth 100000
set_option maxHeartbeats 16000000
theorem IN:∀args w,(callFunc 21 args).run prog w = .ok (.enter 21 args) w:=enters_of func21 (by kernel_rfl) rfl
theorem Ia:∀args w,(callFunc 29 args).run prog w = .ok (.enter 29 args) w:=enters_of func29 (by kernel_rfl) rfl
theorem Fw(l:List Fl)(h0:0<l.length)(hl:l.length<=4294967296)(hok:∀v∈l,v.path.length<=4294967296) :
  aC prog [] 25 [.sl 0 0 l.length,.fn (.func 21) [] []] [(0,.row 57 4 (aX l))] 1 fun r m n=>r = .tup []/\n=1/\∃z,z.Perm l/\FB cK z/\m=[(0,.row 57 4 (aX z))]:=by
 have ho:=Bc rT l;have h:=pJ (P:=prog) (F:=25) (t:=57) (k:=4)
  (fun enc hk h1 cf hO g cb blk off cap d w eg hcmp hH hblk hsz=>Tryz.slices_SortFuncF 4 Tryz.isAgg57 Tryz.sizeOf57 enc hk h1 cf hO g cb blk off cap d w eg hcmp hH hblk hsz) IN gS l h0 om om (fun v _=>by cases v;exact⟨_,rfl⟩) (fun v _=>nB v) cK ⟨ho.1,ho.2.1,ho.2.2⟩ (fun x hx y _=>FX x y (hok x hx))
 refine h.mono ?_;rintro r m n ⟨h1,h2,z,⟨h3,h4⟩,h5⟩;exact⟨h1,h2,z,h3,h4,h5⟩
theorem F5(l:List Gr)(h0:0<l.length)(hl:l.length<=4294967296)(hok:∀v∈l,v.min.length<=4294967296) :
  aC prog [] 28 [.sl 0 0 l.length,.fn (.func 29) [] []] [(0,.row 33 5 (a8 l))] 1 fun r m n=>r = .tup []/\n=1/\∃z,z.Perm l/\(∀(i j:Nat) (x y:Gr),i<j->z[i]? = some x->z[j]? = some y->¬eY y x<0)/\m=[(0,.row 33 5 (a8 z))]:=by
 have hG:(∀x∈l,¬eY x x<0)/\(∀x∈l,∀y∈l,∀z∈l,eY x y<0->eY y z<0->eY x z<0)/\(∀x∈l,∀y∈l,∀z∈l,¬eY x y<0->¬eY y z<0->¬eY x z<0):=by
  have ho:=Bc fQ (l.map aI);have hm:∀x∈l,aI x∈l.map aI:=fun x hx=>K2 hx
  exact⟨fun x hx=>ho.1 _ (hm x hx),fun x hx y hy z hz=>ho.2.1 _ (hm x hx) _ (hm y hy) _ (hm z hz),fun x hx y hy z hz=>ho.2.2 _ (hm x hx) _ (hm y hy) _ (hm z hz)⟩
 have h:=pJ (P:=prog) (F:=28) (t:=33) (k:=5)
  (fun enc hk h1 cf hO g cb blk off cap d w eg hcmp hH hblk hsz=>Tryz.slices_SortFuncG 5 Tryz.isAgg33 Tryz.sizeOf33 enc hk h1 cf hO g cb blk off cap d w eg hcmp hH hblk hsz) Ia eJ l h0 om om (fun v _=>by cases v;exact⟨_,rfl⟩) (fun v _=>eI v) eY ⟨hG.1,hG.2.1,hG.2.2⟩ (fun x hx y _=>Hh x y (hok x hx))
 refine h.mono ?_;rintro r m n ⟨h1,h2,z,⟨h3,h4⟩,h5⟩;exact⟨h1,h2,z,h3,h4,h5⟩
theorem GC:aS prog [] 25 [.il 4 [],.fn (.func 21) [] []] (.tup []):=by
 refine⟨fun X D ρ w xs hD hm hv=>?_⟩;obtain⟨hl,hv⟩:=hv
 match xs,hl with
 | [x,y],_=>
  have v0:=hv 0 _ x rfl rfl;obtain⟨p,cap,rfl⟩:∃p cap,x = .slice p 0 cap:=by
   cases v0 with
   | il=>exact⟨_,_,rfl⟩
   | iln=>exact⟨_,_,rfl⟩
  refine .of rfl ((Tryz.slices_SortFuncF_none (α:=Nat) p cap y w).mono ?_);rintro e w' ⟨rfl,rfl⟩;have hsub:∀i,D i->dn D 0 0 i:=fun i hi=>.inl hi
  exact⟨.tup [],.tuple #[],[],0,ρ,rfl,⟨rfl,rfl,rfl⟩,JG _,(hm.widen hsub).1,.tup [] #[] rfl (by simp),Ext.refl hsub⟩
theorem Gi:aS prog [] 28 [.il 5 [],.fn (.func 29) [] []] (.tup []):=by
 refine⟨fun X D ρ w xs hD hm hv=>?_⟩;obtain⟨hl,hv⟩:=hv
 match xs,hl with
 | [x,y],_=>
  have v0:=hv 0 _ x rfl rfl;obtain⟨p,cap,rfl⟩:∃p cap,x = .slice p 0 cap:=by
   cases v0 with
   | il=>exact⟨_,_,rfl⟩
   | iln=>exact⟨_,_,rfl⟩
  refine .of rfl ((Tryz.slices_SortFuncG_none (α:=Nat) p cap y w).mono ?_);rintro e w' ⟨rfl,rfl⟩;have hsub:∀i,D i->dn D 0 0 i:=fun i hi=>.inl hi
  exact⟨.tup [],.tuple #[],[],0,ρ,rfl,⟨rfl,rfl,rfl⟩,JG _,(hm.widen hsub).1,.tup [] #[] rfl (by simp),Ext.refl hsub⟩
theorem Hq:NN (.fn (.func 21) [] []):=.fn _ _ _ (by simp) (by simp)
theorem GG:NN (.fn (.func 29) [] []):=.fn _ _ _ (by simp) (by simp)
theorem EB(l:List Fl)(hl:l.length<=4294967296)(hok:∀v∈l,v.path.length<=4294967296) :
  aC prog [] 25 [.sl 0 0 l.length,.fn (.func 21) [] []] [(0,.row 57 4 (aX l))] 1 fun r m n=>r = .tup []/\n=1/\∃z,z.Perm l/\FB cK z/\m=[(0,.row 57 4 (aX z))]:=by
 rcases JT l.length with h|h
 ·have:l=[]:=JF h;subst this;exact aS.lend GC fS (.cons (.fzR (id:=0) (ys:=[]) rfl rfl .nil rfl) (.cons (.same _ Hq) .nil)) (.tup _ (by simp)) ⟨rfl,rfl,[],.nil,fun i j x y _ h=>by simp at h,rfl⟩
 ·exact Fw l h hl hok
theorem Ef(l:List Gr)(hl:l.length<=4294967296)(hok:∀v∈l,v.min.length<=4294967296) :
  aC prog [] 28 [.sl 0 0 l.length,.fn (.func 29) [] []] [(0,.row 33 5 (a8 l))] 1 fun r m n=>r = .tup []/\n=1/\∃z,z.Perm l/\(∀(i j:Nat) (x y:Gr),i<j->z[i]? = some x->z[j]? = some y->¬eY y x<0)/\m=[(0,.row 33 5 (a8 z))]:=by
 rcases JT l.length with h|h
 ·have:l=[]:=JF h;subst this;exact aS.lend Gi fS (.cons (.fzR (id:=0) (ys:=[]) rfl rfl .nil rfl) (.cons (.same _ GG) .nil)) (.tup _ (by simp)) ⟨rfl,rfl,[],.nil,fun i j x y _ h=>by simp at h,rfl⟩
 ·exact F5 l h hl hok
end Go.Proofs.YtnbkfjjdlofdpaaGreatDoor
namespace Go.Ax
open Go
theorem iG{α:Type}:∀(a b:List (Nat × α)) (i:Nat),lk (a++b) i=match lk a i with
  | some v=>some v
  | none=>lk b i
 | [],b,i=>rfl
 | (k,u)::a,b,i=>by
  simp only[KO,lk];split
  ·rfl
  ·exact iG a b i
theorem gV{α:Type}:∀{l:List (Nat × α)} {i:Nat},(∀p∈l,p.1≠i)->lk l i=none
 | [],i,_=>rfl
 | (k,u)::l,i,h=>by
  simp only[lk];rw[aL (h (k,u) (.head _))];exact gV fun p hp=>h p (.tail _ hp)
def jP(f:Nat->Option Nat):Nat->List (Nat × Nat)
 | 0=>[]
 | n+1=>match f n with
  | some k=>(n,k)::jP f n
  | none=>jP f n
theorem rA(f:Nat->Option Nat):∀(n i:Nat),lk (jP f n) i=if i<n then f i else none
 | 0,i=>by simp[jP,lk]
 | n+1,i=>by
  have ih:=rA f n i;unfold jP;by_cases h:i=n
  ·subst h;rw[JL (J9 _)];cases hf:f i with
   | none=>simp only;rw[ih,JJ (KG _)]
   | some k=>simp[lk]
  ·have e:(if i<n+1 then f i else none)=if i<n then f i else none:=by
    by_cases h':i<n
    ·rw[JL h',JL om]
    ·rw[JJ h',JJ om]
   rw[e];cases hf:f n with
   | none=>exact ih
   | some k=>
    simp only[lk];rw[aL (Ne.symm h)];exact ih
theorem EZ{f:Nat->Option Nat}{n:Nat}(h:∀i j k,i<n->j<n->f i=some k->f j=some k->i=j):Cn (jP f n):=fun i j k h1 h2=>by
 rw[rA] at h1 h2;split at h1
 ·split at h2
  ·exact h i j k (by assumption) (by assumption) h1 h2
  ·cases h2
 ·cases h1
theorem bG{f:Nat->Option Nat}{n i k:Nat}(h1:i<n)(h2:f i=some k):lk (jP f n) i=some k:=by rw[rA,JL h1,h2]
theorem DU{f:Nat->Option Nat}{n i:Nat}(h2:f i=none):lk (jP f n) i=none:=by rw[rA,h2];split<;>rfl
theorem tH.app{mem m1 m2:aA}{σ:List (Nat × Nat)}(h1:tH mem σ m1)(h2:tH mem σ m2):tH mem σ (m1++m2):=fun p hp=>by
 rcases JI.1 hp with h|h
 ·exact h1 p h
 ·exact h2 p h
theorem sF{B:Nat}{sl sl':List (Nat × AV)}{mem mem':aA}{nx nx' nt:Nat}(f:Nat->Option Nat)(n:Nat)(hm:tH mem (jP f n) mem')(hs:dS mem (jP f n) sl sl')(hnod:(mem'.map (·.1)).Nodup)
  (hi:∀i j k,i<n->j<n->f i=some k->f j=some k->i=j) (ho:∀i k,i<n->f i=some k->(k<B->k=i)/\k<nx') (hB:B<=nx'):Conv B (jP f n) ⟨sl,mem,nx,nt⟩ ⟨sl',mem',nx',nt⟩:=
 ⟨rfl,fun i v' hi'=>hs.get i v' hi',hm,hnod,EZ hi,(fun i k h=>by
  rw[rA] at h;by_cases h':i<n
  ·rw[JL h'] at h;exact ho i k h' h
  ·rw[JJ h'] at h;cases h),hB⟩
end Go.Ax
