/- A part of the proof. -/
import Derived.Test.YtidjhgajglebnaaGreatDoorAx16
set_option linter.unusedVariables false
set_option linter.unusedSimpArgs false
set_option maxRecDepth 1000000
set_option maxHeartbeats 16000000
namespace Go.Ax
open Go
variable{A:List Nd}
theorem Pb(m:Bool)(i:Nat)(c:Cell)(b:List Cell):(sG m i c b).length<=i+b.length:=by
 unfold sG;rw[aAA,aA9];split<;>simp
theorem iT(m:Bool){a b:List Cell}{p q:Nat}(ha:a.length<=p+1)(hb:b.length<=q+1):(f6 m a b).length<=p+q+1:=by
 have key:∀(P:Nat) (a:List Cell) (n:Nat) (out:List Cell),out.length<=P->(∀j<a.length,n+j+b.length<=P)->((a.zipIdx n).foldl (λout ci=>dY m out (sG m ci.2 ci.1 b)) out).length<=P:=by
  intro P a
  induction a with
  | nil=>intro n out h _;simpa using h
  | cons c a ih=>
   intro n out h hj;rw[aBI,aAy];refine ih _ _ ?_ λj hl=>?_
   .rw[pR];have h1:=Pb m n c b;have h2:=hj 0 sq;simp only;omega
   .have:=hj (j+1) (by simp;omega);omega
 exact key _ a 0 [] sq λj hj=>om
theorem rT(m:Bool){V:Type}(f:V->List Cell){P:Nat}:∀(l:List V) (out:List Cell),out.length<=P->(∀x∈l,(f x).length<=P)->(l.foldl (λo x=>dY m o (f x)) out).length<=P
 | [],out,h,_=>h
 | x::l,out,h,hf=>by
  rw[aAy];refine rT m f l _ ?_ λy hy=>hf y (aAo _ hy)
  rw[pR];have:=hf x (aAv ..);omega
theorem Tk(m:Bool)(h:VT A):∀i,i<A.length->((fQ m).all A i).length<=nL A i+1/\∀v,((fQ m).of A i v).length<=nL A i+1:=by
 intro i
 induction i using Nat.strongRecOn with
 | ind i ih=>
  intro hi;have hx:=b9 hi;have hk:=λ(k:Int) (hk:k∈(aG A i).kids)=>eH h hx hk
  have ia:=λ(k:Int) (hm:k∈(aG A i).kids)=>(ih k.toNat (hk k hm).2 (by have:=hk k hm;omega)).1
  have io:=λ(k:Int) (hm:k∈(aG A i).kids)=>(ih k.toNat (hk k hm).2 (by have:=hk k hm;omega)).2
  obtain⟨l1,l2,l3,l4,l5⟩:=h.lenS hx;rw[(fQ m).all_eq h hi];refine⟨?_,λv=>?_⟩
  .show (iV _ _ _ _).length<=_
   unfold iV;generalize aG A i=x at *;split
   .rename_i h1;rw[l2 h1];simp[iP]
   split
   .rename_i h3;rw[l3 h3];have key:∀(ks:List Int) (out:List Cell) (s:Nat),(∀k∈ks,k∈x.kids)->out.length<=s+1->(ks.foldl (λf k=>f6 m f ((fQ m).all A k.toNat)) out).length<=s+sI A ks+1:=by
     intro ks
     induction ks with
     | nil=>intro out s _ ho;simpa[sI] using ho
     | cons k ks ihk=>
      intro out s hks ho;rw[aAy];have:=ihk (f6 m out ((fQ m).all A k.toNat)) (s+nL A k.toNat) (λq hq=>hks q (aAo _ hq)) (iT m ho (ia k (hks k (aAv ..))));simp only[sI,aAT,aBL] at this |-;omega
    have:=key x.kids eM 0 (λ_ h=>h) (by simp[eM]);omega
   split
   .rename_i h2;refine rT m (λkc:Int × Nat=>f6 m (iP 1 (x.weights.getD kc.2 0) (p9 x.weights)) ((fQ m).all A kc.1.toNat)) _ _ sq λkc hm=>?_
    have e:=iT m (a:=iP 1 (x.weights.getD kc.2 0) (p9 x.weights)) (p:=1) (by simp[iP]) (ia _ (dS hm));have:=l4 h2 _ (dS hm);omega
   split
   .rename_i h4;refine rT m (λvk:aQ × Int=>f6 m ((fQ m).of A (iN x) vk.1) ((fQ m).all A vk.2.toNat)) _ _ sq λvk hm=>?_
    obtain⟨m1,m2⟩:=cN hm;have e:=iT m (io _ m2 vk.1) (ia _ m1);have:=l5 h4 _ (aA0 hm).2;have e2:iN x=(x.kids.getD 0 0).toNat:=rfl;rw[e2] at this |-;omega
   .simp[eM]
  .rw[(fQ m).of_eq h hi]
   show (iS _ _ _ _).length<=_
   unfold iS;generalize aG A i=x at *;split
   .split<;>simp[eM]
   split
   .rename_i h1;rw[l2 h1];split<;>simp[iP]
   split
   .rename_i h3;split
    .rw[l3 h3];have key:∀(ks:List Int) (vs:List aQ) (out:List Cell) (s:Nat),(∀k∈ks,k∈x.kids)->out.length<=s+1->((ks.zip vs).foldl (λf kv=>f6 m f ((fQ m).of A kv.1.toNat kv.2)) out).length<=s+sI A ks+1:=by
      intro ks
      induction ks with
      | nil=>intro vs out s _ ho;simpa[sI] using ho
      | cons k ks ihk=>
       intro vs out s hks ho;cases vs with
       | nil=>simp only[List.zip_nil_right,aDh];omega
       | cons v vs=>
        rw[aA4,aAy];have:=ihk vs (f6 m out ((fQ m).of A k.toNat v)) (s+nL A k.toNat) (λq hq=>hks q (aAo _ hq)) (iT m ho (io k (hks k (aAv ..)) v));simp only[sI,aAT,aBL] at this |-;omega
     have:=key x.kids (jN v) eM 0 (λ_ h=>h) (by simp[eM]);omega
    .simp
   split
   .rename_i h2;refine rT m (λkc:Int × Nat=>f6 m (iP 1 (x.weights.getD kc.2 0) (p9 x.weights)) ((fQ m).of A kc.1.toNat v)) _ _ sq λkc hm=>?_
    have e:=iT m (a:=iP 1 (x.weights.getD kc.2 0) (p9 x.weights)) (p:=1) (by simp[iP]) (io _ (dS hm) v);have:=l4 h2 _ (dS hm);omega
   split
   .rename_i h4;refine rT m (λvk:aQ × Int=>f6 m ((fQ m).of A (iN x) vk.1) ((fQ m).of A vk.2.toNat v)) _ _ sq λvk hm=>?_
    obtain⟨m1,m2⟩:=cN hm;have e:=iT m (io _ m2 vk.1) (io _ m1 v);have:=l5 h4 _ (aA0 hm).2;have e2:iN x=(x.kids.getD 0 0).toNat:=rfl;rw[e2] at this |-;omega
   .simp
theorem Io:∀(l:List Int) (s:Int),(∀w∈l,1<=w/\w<=1000)->s+l.length<=l.foldl (· + ·) s/\l.foldl (· + ·) s<=s+1000*l.length
 | [],s,_=>sq
 | a::l,s,h=>by
  obtain⟨h1,h2⟩:=Io l (s+a) λw hw=>h w (aAo _ hw)
  obtain⟨a1,a2⟩:=h a (aAv ..);rw[aAy,aAH];constructor<;>push_cast<;>omega
theorem Rw{l:List Int}(h:∀w∈l,1<=w/\w<=1000)(hl:l.length<=1000000)(k:Nat):i64 (p9 (l.take k)):=by
 obtain⟨h1,h2⟩:=Io (l.take k) 0 λw hw=>h w (aAI hw)
 have hk:(l.take k).length<=l.length:=by rw[aAR];omega
 unfold p9;exact oq
theorem Ti{l:List Int}(h:∀w∈l,1<=w/\w<=1000)(h0:0<l.length):p9 l≠0:=by
 obtain⟨h1,h2⟩:=Io l 0 h;unfold p9;omega
theorem MI{x:Nd}(h:d7 x=true):∀w∈x.weights,1<=w/\w<=1000:=by
 unfold d7 at h;simp only[aAd,aBD,aAC] at h;exact h.2
theorem Gf{V:Type}:∀{l m:List V},l.Nodup->(∀x∈l,x∈m)->l.length<=m.length
 | [],m,_,_=>aAN _
 | a::l,m,hn,hs=>by
  obtain⟨m1,m2,rfl⟩:=aCl (hs a (aAv ..));obtain⟨h1,h2⟩:=aA8.1 hn;have:=Gf (m:=m1++m2) h2 λx hx=>by
   have hm:=hs x (aAo _ hx);rw[aAt,aAj] at hm;rw[aAt];rcases hm with hm|hm|hm
   .exact .inl hm
   .subst hm;exact absurd hx h1
   .exact .inr hm
  simp only[aAA,aAH] at this |-;omega
mutual
def ER:aQ->List aQ
 | .mk k n s ks=>.mk k n s ks::rF ks
def rF:List aQ->List aQ
 | []=>[]
 | v::r=>ER v++rF r
end
mutual
theorem SA:∀v:aQ,(ER v).length<=bF v
 | .mk k n s ks=>by
  have:=CX ks;simp only[ER,bF,aAH];omega
theorem CX:∀l:List aQ,(rF l).length<=cA l
 | []=>by simp[rF]
 | v::r=>by
  have h1:=SA v;have h2:=CX r;simp only[rF,cA,aAA];omega
end
theorem Gm(v:aQ):v∈ER v:=by
 obtain⟨k,n,s,ks⟩:=v;rw[ER];exact aAv ..
theorem Cp:∀{l:List aQ} {v u:aQ},v∈l->u∈ER v->u∈rF l
 | [],v,u,h,_=>by cases h
 | a::r,v,u,h,hu=>by
  rw[rF,aAt];rcases aAj.1 h with rfl|h
  .exact .inl hu
  .exact .inr (Cp h hu)
mutual
theorem SX:∀(v:aQ) {u w:aQ},u∈ER v->w∈jN u->w∈ER v
 | .mk k n s ks,u,w,hu,hw=>by
  rw[ER] at hu |-;rcases aAj.1 hu with rfl|hu
  .exact aAo _ (Cp hw (Gm w))
  .exact aAo _ (C2 ks hu hw)
theorem C2:∀(l:List aQ) {u w:aQ},u∈rF l->w∈jN u->w∈rF l
 | [],u,w,hu,hw=>by simp[rF] at hu
 | v::r,u,w,hu,hw=>by
  rw[rF,aAt] at hu |-;rcases hu with hu|hu
  .exact .inl (SX v hu hw)
  .exact .inr (C2 r hu hw)
end
def Aq(A:List Nd):List aQ:=A.flatMap λx=>rF x.values
theorem Lf{x:Nd}{v:aQ}(hx:x∈A)(hv:v∈x.values):v∈Aq A:=aB8.2 ⟨x,hx,Cp hv (Gm v)⟩
theorem LT{u w:aQ}(hu:u∈Aq A)(hw:w∈jN u):w∈Aq A:=by
 obtain⟨x,hx,h⟩:=aB8.1 hu;exact aB8.2 ⟨x,hx,C2 _ h hw⟩
mutual
theorem R0{P:aQ->Prop}(hk:∀v,P v->∀u∈jN v,P u):∀(v:aQ),P v->∀u∈ER v,P u
 | .mk k n s ks,h,u,hu=>by
  rw[ER] at hu;rcases aAj.1 hu with rfl|hu
  .exact h
  .exact Cf hk ks (λw hw=>hk _ h w hw) u hu
theorem Cf{P:aQ->Prop}(hk:∀v,P v->∀u∈jN v,P u):∀(l:List aQ),(∀v∈l,P v)->∀u∈rF l,P u
 | [],_,u,hu=>by simp[rF] at hu
 | v::r,h,u,hu=>by
  rw[rF,aAt] at hu;rcases hu with hu|hu
  .exact R0 hk v (h v (aAv ..)) u hu
  .exact Cf hk r (λw hw=>h w (aAo _ hw)) u hu
end
theorem OL(h:VT A):∀u∈Aq A,iO u/\bG u=0:=by
 intro u hu;obtain⟨x,hx,hs⟩:=aB8.1 hu;obtain⟨i,hi⟩:=aAU hx;refine Cf (P:=λu=>iO u/\bG u=0) (λv hv w hw=>⟨?_,kA hv.2 w hw⟩) x.values (λv hv=>⟨((h.tin.ok x hx).valuesI v hv).1,h.vals_valid hi hv⟩) u hs;obtain⟨k,n,s,ks⟩:=v;exact jO hv.1.2.2.2.2 w hw
theorem B9:∀(l:List aQ),(∀v∈l,bF v<=1024)->cA l<=1024*l.length
 | [],_=>by simp[cA]
 | v::r,h=>by
  have h1:=h v (aAv ..);have h2:=B9 r λw hw=>h w (aAo _ hw)
  simp only[cA,aAH];omega
theorem xC{V β:Type}(f:V->List β)(N:Nat):∀(l:List V),(∀x∈l,(f x).length<=N)->(l.flatMap f).length<=l.length*N
 | [],_=>sq
 | a::l,h=>by
  have h1:=h a (aAv ..);have h2:=xC f N l λx hx=>h x (aAo _ hx)
  rw[aBs,aAA,aAH,Nat.succ_mul];omega
theorem Ln(h:VT A):(Aq A).length<=A.length*2048000:=by
 refine xC _ _ _ λx hx=>?_
 obtain⟨i,hi⟩:=aAU hx;have h1:=CX x.values;have h2:=B9 x.values λv hv=>(iF (h.vals_valid hi hv)).2.2
 have h3:=h.tin.vlen x hx;omega
end Go.Ax
namespace Go.Ax
open Go
variable{n k:Nat}
def jC(A:List Nd)(j:Nat):Option aQ->List Cell
 | none=>(fQ false).all A j
 | some v=>(fQ false).of A j v
def Ib(A:List Nd)(x:Nd)(o:Option aQ)(k:Nat):List Cell:=(x.kids.zipIdx.take k).foldl (λf kc=>dY false f (f6 false (iP 1 (x.weights.getD kc.2 0) (p9 x.weights)) (jC A kc.1.toNat o))) []
def Iw(A:List Nd)(x:Nd)(o:Option aQ)(k:Nat):List Cell:=((x.values.zip (x.kids.drop 1)).take k).foldl (λf vk=>dY false f (f6 false (jC A (iN x) (some vk.1)) (jC A vk.2.toNat o))) []
def Dr(A:List Nd)(x:Nd)(ps:List (Option aQ))(k:Nat):List Cell:=((x.kids.zip ps).take k).foldl (λf kp=>f6 false f (jC A kp.1.toNat kp.2)) eM
theorem Qf{A:List Nd}{x:Nd}{o:Option aQ}(h:k<x.kids.length):Ib A x o (k+1)=dY false (Ib A x o k) (f6 false (iP 1 (x.weights.getD k 0) (p9 x.weights)) (jC A (x.kids[k]).toNat o)):=by
 unfold Ib;rw[aAl (su h),List.foldl_append];simp
theorem QY{A:List Nd}{x:Nd}{o:Option aQ}(h:k<x.values.length)(hl:x.kids.length=x.values.length+1):Iw A x o (k+1)=dY false (Iw A x o k) (f6 false (jC A (iN x) (some x.values[k])) (jC A (x.kids[k+1]).toNat o)):=by
 have h1:k<(x.values.zip (x.kids.drop 1)).length:=by simp;omega
 unfold Iw;rw[aAl h1,List.foldl_append,J1 h hl h1];rfl
theorem KL{A:List Nd}{x:Nd}{ps:List (Option aQ)}(h:k<x.kids.length)(hl:k<ps.length):Dr A x ps (k+1)=f6 false (Dr A x ps k) (jC A (x.kids[k]).toNat ps[k]):=by
 have h1:k<(x.kids.zip ps).length:=by simp;omega
 unfold Dr;rw[aAl h1,List.foldl_append,aCM];rfl
theorem VT.wlen{A:List Nd}(h:VT A){i:Nat}{x:Nd}(hx:A[i]? = some x)(h2:x.kind=2):x.weights.length=x.kids.length/\1<=x.kids.length:=by
 have hf:=kS (uP A h.v0 i x hx);unfold dT at hf;simp only[aAd,aBm,aAC] at hf;rcases hf.1.1.1.2 with h3|h3
 .exact absurd h2 h3
 .exact⟨h3.1.2,h3.1.1.1⟩
section
variable {A:List Nd} (h:VT A) {i:Nat} (hi:i<A.length)
include h hi
theorem Mw(h2:(aG A i).kind=2)(o:Option aQ):jC A i o=Ib A (aG A i) o (aG A i).kids.length:=by
 cases o with
 | none=>
  show (fQ false).all A i=_
  rw[(fQ false).all_eq h hi]
  show iV _ _ _ _=_
  unfold iV Ib;rw[aAe om,aAe om,aAh h2,aAk sq];rfl
 | some v=>
  show (fQ false).of A i v=_
  rw[(fQ false).of_eq h hi]
  show iS _ _ _ _=_
  unfold iS Ib;rw[aAe om,aAe om,aAe om,aAh h2,aAk sq];rfl
theorem NW(h4:(aG A i).kind=4)(o:Option aQ):jC A i o=Iw A (aG A i) o (aG A i).values.length:=by
 have hb:=(h.node (b9 hi)).node.bind h4;have e:((aG A i).values.zip ((aG A i).kids.drop 1)).take (aG A i).values.length=(aG A i).values.zip ((aG A i).kids.drop 1):=aAk (by simp;omega);cases o with
 | none=>
  show (fQ false).all A i=_
  rw[(fQ false).all_eq h hi]
  show iV _ _ _ _=_
  unfold iV Iw;rw[aAe om,aAe om,aAe om,aAh h4,e];rfl
 | some v=>
  show (fQ false).of A i v=_
  rw[(fQ false).of_eq h hi]
  show iS _ _ _ _=_
  unfold iS Iw;rw[aAe om,aAe om,aAe om,aAe om,aAh h4,e];rfl
theorem U5(h3:(aG A i).kind=3):jC A i none=Dr A (aG A i) (List.replicate (aG A i).kids.length none) (aG A i).kids.length:=by
 show (fQ false).all A i=_
 rw[(fQ false).all_eq h hi]
 show iV _ _ _ _=_
 unfold iV Dr;rw[aAe om,aAh h3,aAk sq];generalize eM=e;generalize (aG A i).kids=ks
 induction ks generalizing e with
 | nil=>rfl
 | cons k ks ih=>rw[aAH,aA6,aA4,aAy,aAy,ih];rfl
theorem UO(h3:(aG A i).kind=3)(v:aQ):jC A i (some v)=if jA (aG A i) v=true then Dr A (aG A i) ((jN v).map some) (aG A i).kids.length else []:=by
 show (fQ false).of A i v=_
 rw[(fQ false).of_eq h hi]
 show iS _ _ _ _=_
 unfold iS Dr;rw[aAe om,aAe om,aAh h3,aAk (by simp;omega)];split
 .generalize eM=e;generalize (aG A i).kids=ks;generalize jN v=vs
  induction ks generalizing e vs with
  | nil=>simp
  | cons k ks ih=>
   cases vs with
   | nil=>simp
   | cons u us=>rw[aA4,aAy,aAT,aA4,aAy,ih];rfl
 .rfl
theorem S5(h0:(aG A i).kind=0):jC A i none=eM:=by
 show (fQ false).all A i=_
 rw[(fQ false).all_eq h hi]
 show iV _ _ _ _=_
 unfold iV;rw[aAe om,aAe om,aAe om,aAe om]
theorem U1(h0:(aG A i).kind=0)(v:aQ):jC A i (some v)=if cJ (aG A i).value v=0 then eM else []:=by
 show (fQ false).of A i v=_
 rw[(fQ false).of_eq h hi]
 show iS _ _ _ _=_
 unfold iS;rw[aAh h0]
theorem UF(h1:(aG A i).kind=1):jC A i none=iP ((aG A i).hi-(aG A i).lo+1) 1 1:=by
 show (fQ false).all A i=_
 rw[(fQ false).all_eq h hi]
 show iV _ _ _ _=_
 unfold iV;rw[aAh h1]
theorem Ud(h1:(aG A i).kind=1)(v:aQ):jC A i (some v)=if yE (aG A i) v=true then iP 1 1 ((aG A i).hi-(aG A i).lo+1) else []:=by
 show (fQ false).of A i v=_
 rw[(fQ false).of_eq h hi]
 show iS _ _ _ _=_
 unfold iS;rw[aAe om,aAh h1]
theorem Eb{o:Option aQ}(ho:∀v,o=some v->bG v=0):(jC A i o).length<=nL A i+1/\eD (jC A i o)<=j8 (nL A i):=by
 obtain⟨h1,h2⟩:=Tk false h i hi;obtain⟨h3,h4⟩:=Ux false h i hi;have h5:=S1 h i hi;cases o with
 | none=>exact⟨h1,by show eD ((fQ false).all A i)<=_;omega⟩
 | some v=>exact⟨h2 v,by
   show eD ((fQ false).of A i v)<=_
   rw[h4 v (ho v rfl)];exact aAx (YN h hi v) h5⟩
theorem iG{o:Option aQ}(ho:∀v,o=some v->bG v=0):(jC A i o).length<=257/\eD (jC A i o)<=j8 256:=by
 obtain⟨h1,h2⟩:=Eb h hi ho;have h3:=(h.lenS (b9 hi)).1;exact⟨om,aAx h2 (fC h3)⟩
end
theorem Cn(m:Bool){V:Type}(f:V->List Cell){P:Nat}:∀(l:List V) (out:List Cell),(∀x∈l,eD (f x)<=P)->eD (l.foldl (λo x=>dY m o (f x)) out)<=eD out+l.length*P
 | [],out,_=>sq
 | x::l,out,hf=>by
  rw[aAy];refine aAx (Cn m f l _ λy hy=>hf y (aAo _ hy)) ?_;rw[oF,aAH,Nat.add_mul];have:=hf x (aAv ..);omega
theorem Nx{p:Nat}(hn:n<=1000000)(hp:p<=j8 512):n*p<=j8 600:=by
 have h1:n<=j8 1:=by rw[D5];omega
 have h2:=aBn h1 hp;rw[vZ] at h2;exact aAx h2 (fC om)
theorem Bo{a b:List Cell}(ha:eD a<=j8 256)(hb:eD b<=j8 256):eD (f6 false a b)<=j8 512:=by
 rw[nD];have h:=aBn ha hb;rw[vZ] at h;exact h
section
variable {A:List Nd} (h:VT A) {i:Nat} (hi:i<A.length)
include h hi
theorem YA(h2:(aG A i).kind=2){o:Option aQ}(ho:∀v,o=some v->bG v=0)(k:Nat):(Ib A (aG A i) o k).length<=257/\eD (Ib A (aG A i) o k)<=j8 600:=by
 have hk:=λ(q:Int) (hq:q∈(aG A i).kids)=>rJ h hi hq
 obtain⟨l1,l2,l3,l4,l5⟩:=h.lenS (b9 hi);have hkl:=h.tin.klen _ (aAm (b9 hi));unfold Ib;generalize aG A i=x at *;constructor
 .refine rT false (λkc:Int × Nat=>f6 false (iP 1 (x.weights.getD kc.2 0) (p9 x.weights)) (jC A kc.1.toNat o)) _ _ sq λkc hm=>?_
  have hm':=dS (aAI hm);have e:=iT false (a:=iP 1 (x.weights.getD kc.2 0) (p9 x.weights)) (p:=1) (by simp[iP]) (Eb h (hk _ hm') ho).1;have:=l4 h2 _ hm';omega
 .refine aAx (Cn false (λkc:Int × Nat=>f6 false (iP 1 (x.weights.getD kc.2 0) (p9 x.weights)) (jC A kc.1.toNat o)) (P:=j8 512) _ _ λkc hm=>?_) ?_
  .have hm':=dS (aAI hm);exact Bo (by rw[tR];exact pA _) (iG h (hk _ hm') ho).2
  .rw[show eD []=0 from rfl,aAF];refine Nx ?_ (aAp _);rw[aAR,List.length_zipIdx];omega
theorem XQ(h4:(aG A i).kind=4)(hvv:∀u∈(aG A i).values,bG u=0){o:Option aQ}(ho:∀v,o=some v->bG v=0)(k:Nat):(Iw A (aG A i) o k).length<=257/\eD (Iw A (aG A i) o k)<=j8 600:=by
 have hk:=λ(q:Int) (hq:q∈(aG A i).kids)=>rJ h hi hq
 obtain⟨l1,l2,l3,l4,l5⟩:=h.lenS (b9 hi);have hkl:=h.tin.vlen _ (aAm (b9 hi));unfold Iw;generalize aG A i=x at *;have e2:iN x=(x.kids.getD 0 0).toNat:=rfl;constructor
 .refine rT false (λvk:aQ × Int=>f6 false (jC A (iN x) (some vk.1)) (jC A vk.2.toNat o)) _ _ sq λvk hm=>?_
  have hm':=aAI hm;obtain⟨m1,m2⟩:=cN hm';obtain⟨m3,m4⟩:=aA0 hm';have hk2:=hk _ m2;rw[<-e2] at hk2;have e:=iT false (Eb h hk2 (o:=some vk.1) (λv e=>by injection e with e;exact e ▸ hvv _ m3)).1 (Eb h (hk _ m1) ho).1;have:=l5 h4 _ m4;omega
 .refine aAx (Cn false (λvk:aQ × Int=>f6 false (jC A (iN x) (some vk.1)) (jC A vk.2.toNat o)) (P:=j8 512) _ _ λvk hm=>?_) ?_
  .have hm':=aAI hm;obtain⟨m1,m2⟩:=cN hm';obtain⟨m3,m4⟩:=aA0 hm';have hk2:=hk _ m2;rw[<-e2] at hk2;exact Bo (iG h hk2 (o:=some vk.1) (λv e=>by injection e with e;exact e ▸ hvv _ m3)).2 (iG h (hk _ m1) ho).2
  .rw[show eD []=0 from rfl,aAF];refine Nx ?_ (aAp _);rw[aAR,List.length_zip];omega
theorem G7(h3:(aG A i).kind=3)(ps:List (Option aQ))(hps:∀o∈ps,∀v,o=some v->bG v=0)(k:Nat):(Dr A (aG A i) ps k).length<=257/\eD (Dr A (aG A i) ps k)<=j8 256:=by
 have hk:=λ(q:Int) (hq:q∈(aG A i).kids)=>rJ h hi hq
 obtain⟨l1,l2,l3,l4,l5⟩:=h.lenS (b9 hi);unfold Dr;generalize aG A i=x at *;have e:(x.kids.zip ps).take k=(x.kids.take k).zip (ps.take k):=m7 _ _ _;rw[e];have key:∀(ks:List Int) (ps:List (Option aQ)) (f:List Cell) (n:Nat),(∀q∈ks,q∈x.kids)->(∀o∈ps,∀v,o=some v->bG v=0)->f.length<=n+1->eD f<=j8 n->((ks.zip ps).foldl (λf kp=>f6 false f (jC A kp.1.toNat kp.2)) f).length<=n+sI A ks+1/\eD ((ks.zip ps).foldl (λf kp=>f6 false f (jC A kp.1.toNat kp.2)) f)<=j8 (n+sI A ks):=by
  intro ks
  induction ks with
  | nil=>intro ps f n _ _ h1 h2;simpa[sI] using And.intro h1 h2
  | cons q ks ih=>
   intro ps f n hq hp h1 h2;cases ps with
   | nil=>exact⟨by simp only[List.zip_nil_right,aDh];omega,aAx (su h2) (fC om)⟩
   | cons o ps=>
    rw[aA4,aAy];have hb:=Eb h (hk q (hq q (aAv ..))) (hp o (aAv ..));have e1:=iT false h1 hb.1;have e2:eD (f6 false f (jC A q.toNat o))<=j8 (n+nL A q.toNat):=by
     rw[nD,<-vZ];exact aBn h2 hb.2
    have:=ih ps (f6 false f (jC A q.toNat o)) (n+nL A q.toNat) (λr hr=>hq r (aAo _ hr)) (λr hr=>hp r (aAo _ hr)) e1 e2;have es:sI A (q::ks)=nL A q.toNat+sI A ks:=by simp[sI]
    rw[es,<-Nat.add_assoc];exact this
 obtain⟨e1,e2⟩:=key (x.kids.take k) (ps.take k) eM 0 (λq hq=>aAI hq) (λo ho=>hps o (aAI ho)) (by simp[eM]) (pA 0);have es:sI A (x.kids.take k)<=sI A x.kids:=by
  unfold sI
  conv=>rhs;rw[<-List.take_append_drop k x.kids]
  rw[aBu,aCW];omega
 have:=l3 h3;exact⟨om,aAx e2 (fC om)⟩
end
theorem LA{x:Nd}{k n:Int}{s:List UInt8}{ks:List aQ}(hv:bG (.mk k n s ks)=0):jA x (.mk k n s ks)=true↔(if x.name=[] then 2 else 3)=k/\x.name=s/\ks.length=x.kids.length:=by
 rw[l9];have hf:=(iF hv).1;simp only[bT,aAd] at hf;have hf:=hf.1;unfold dA at hf;constructor
 .rintro⟨h1,h2⟩;by_cases hn:x.name=[]
  .rw[aAh hn] at h2 |-;subst h2;simp at hf;exact⟨rfl,by rw[hn,hf.2],h1⟩
  .rw[aAe hn] at h2 |-;exact⟨h2.1.symm,h2.2.symm,h1⟩
 .rintro⟨h1,h2,h3⟩;refine⟨h3, ?_⟩;by_cases hn:x.name=[]
  .rw[aAh hn] at h1 |-;exact h1.symm
  .rw[aAe hn] at h1 |-;exact⟨h1.symm,h2.symm⟩
theorem JO(n:List UInt8)(ks:List aQ):eB n ks = .mk (if n=[] then 2 else 3) 0 n ks:=by
 unfold eB;by_cases h:n=[]
 .subst h;rfl
 .rw[aAe h,aAe h]
end Go.Ax
namespace Go.Ax
open Go
variable{A:List Nd}{n k m:Nat}{r:List Cell}{f:Nat->Nat}{z:Int}
def co(l:List Nat)(k:Nat):Nat:=l.getD k 0
def iY:List Nat->List Nat->List Nat
 | [],b=>b
 | a::l,[]=>a::l
 | a::l,b::k=>(a+b)::iY l k
theorem On:∀l:List Nat,iY l []=l
 | []=>rfl
 | a::l=>rfl
theorem kV:∀l k:List Nat,(iY l k).length=max l.length k.length
 | [],b=>by simp[iY]
 | a::l,[]=>by simp[iY]
 | a::l,b::k=>by rw[iY,aAH,kV l k];simp
theorem wI:∀(l k:List Nat) (i:Nat),co (iY l k) i=co l i+co k i
 | [],b,i=>by simp[iY,co]
 | a::l,[],i=>by simp[iY,co]
 | a::l,b::k,0=>by simp[iY,co]
 | a::l,b::k,i+1=>by
  have:=wI l k i;simpa[iY,co] using this
theorem GC:∀l k:List Nat,iY l k=iY k l
 | [],b=>(On b).symm ▸ by cases b<;>rfl
 | a::l,[]=>rfl
 | a::l,b::k=>by rw[iY,iY,GC l k,aCH]
def jJ(f:Nat->Nat):Nat->Nat
 | 0=>0
 | n+1=>jJ f n+f n
theorem qU{f g:Nat->Nat}:∀n,(∀i<n,f i=g i)->jJ f n=jJ g n
 | 0,_=>rfl
 | n+1,h=>by rw[jJ,jJ,qU n λi hi=>h i om,h n om]
theorem mQ{f:Nat->Nat}:∀n,(∀i<n,f i=0)->jJ f n=0
 | 0,_=>rfl
 | n+1,h=>by rw[jJ,mQ n λi hi=>h i om,h n om]
theorem Pd(h:m<=n):jJ f m<=jJ f n:=by
 induction n with
 | zero=>
  have:m=0:=om;subst this;exact aAp _
 | succ n ih=>
  rcases aAr m (n+1) with h1|h1
  .have:=ih om;rw[jJ];omega
  .have:m=n+1:=om;subst this;exact aAp _
theorem El{f:Nat->Nat}:∀n,jJ f (n+1)=f 0+jJ (λi=>f (i+1)) n
 | 0=>by simp[jJ]
 | n+1=>by rw[jJ,El n,jJ];omega
def xN(f g:Nat->Nat)(k:Nat):Nat:=jJ (λi=>f i*g (k-i)) (k+1)
def g8(m:Nat)(a b:List Nat):List Nat:=if a=[]\/b=[] then [] else(List.range (min (a.length+b.length-1) (m+1))).map λk=>xN (co a) (co b) k
theorem oE{l:List Nat}(h:l.length<=k):co l k=0:=by unfold co;rw[aAb,aAs h];rfl
theorem Sk{a b:List Nat}(h:a.length+b.length-1<=k)(ha:a≠[])(hb:b≠[]):xN (co a) (co b) k=0:=by
 have h1:0<a.length:=aA5.2 ha;have h2:0<b.length:=aA5.2 hb;refine mQ _ λi hi=>?_
 rcases aAr i a.length with h3|h3
 .rw[oE (l:=b) om,aCn]
 .rw[oE (l:=a) h3,aCq]
theorem yR{a b:List Nat}(hk:k<=m):co (g8 m a b) k=xN (co a) (co b) k:=by
 unfold g8;split
 .rename_i h;rw[oE sq];refine(mQ _ λi hi=>?_).symm;rcases h with rfl|rfl
  .rw[oE sq,aCq]
  .rw[oE (l:=[]) sq,aCn]
 .rename_i h;have ha:a≠[]:=λe=>h (.inl e)
  have hb:b≠[]:=λe=>h (.inr e)
  rcases aAr k (a.length+b.length-1) with h1|h1
  .unfold co;rw[aAb,aAK,aB6 om];rfl
  .rw[oE (by simp;omega),Sk h1 ha hb]
def Dm(m n:Nat):List Nat:=g8 m [0,1] [n]
theorem LE(hk:k<=m):co (Dm m n) k=if k=1 then n else 0:=by
 unfold Dm;rw[yR hk];unfold xN
 match k with
 | 0=>simp[jJ,co]
 | 1=>simp[jJ,co]
 | k+2=>
  rw[aAe om];refine mQ _ λi hi=>?_
  match i with
  | 0=>simp[co]
  | 1=>rw[oE (l:=[n]) sq,aCn]
  | i+2=>rw[oE (l:=[0,1]) sq,aCq]
def aY(m:Nat):Bd (List Nat):=⟨[1],iY,g8 m,λ_ _=>Dm m 1,λx=>Dm m (x.hi-x.lo+1).toNat⟩
def NQ:Option (List Nat)->Nat->Nat
 | none,_=>0
 | some l,k=>co l k
theorem Kn(m:Nat)(a b:Option (List Nat))(k:Nat):NQ (fX (aY m) a b) k=NQ a k+NQ b k:=by
 cases a with
 | none=>simp[fX,NQ]
 | some x=>
  cases b with
  | none=>simp[fX,NQ]
  | some y=>exact wI x y k
theorem OY(a b:Option (List Nat))(hk:k<=m):NQ (c8 (aY m) a b) k=xN (NQ a) (NQ b) k:=by
 cases a with
 | none=>exact(mQ _ λi hi=>by show 0*_=0;omega).symm
 | some x=>
  cases b with
  | none=>exact(mQ _ λi hi=>by show _*0=0;omega).symm
  | some y=>exact yR hk
def nR(r:List Cell)(k:Nat):Nat:=(r.getD k zC).n
theorem sU(h:r.length<=k):nR r k=0:=by unfold nR;rw[aAb,aAs h];rfl
theorem AZ(l k:List Cell)(i:Nat):nR (dY false l k) i=nR l i+nR k i:=by
 rcases aAr i (max l.length k.length) with h|h
 .have:=A3 false l k i h;unfold nR;rw[aAb,this];simp only[aBv];split
  .rfl
  .rename_i h2;rw[show k.getD i zC=zC by rw[aAb,aAs om];rfl];rfl
 .rw[sU (by rw[pR];exact h),sU om,sU om]
theorem Uy(i:Nat)(c:Cell)(b:List Cell)(k:Nat):nR (sG false i c b) k=if i<=k then c.n*nR b (k-i) else 0:=by
 unfold sG nR;rw[aAb,aAO,aA9];by_cases h:k<i
 .rw[aAh h,aAe (show ¬i<=k by omega),aBr,aAh h];rfl
 .rw[aAe h,aAh (show i<=k by omega)];by_cases h2:0<c.n
  .rw[aAh h2,aAK,aAb];cases b[k-i]? with
   | none=>simp[zC]
   | some d=>simp[uF]
  .rw[aAe h2,show c.n=0 by omega];simp[zC]
theorem Cm(a b:List Cell)(k:Nat):nR (f6 false a b) k=xN (nR a) (nR b) k:=by
 have key:∀(a:List Cell) (n:Nat) (out:List Cell),nR ((a.zipIdx n).foldl (λout ci=>dY false out (sG false ci.2 ci.1 b)) out) k=nR out k+jJ (λi=>if n+i<=k then nR a i*nR b (k-(n+i)) else 0) a.length:=by
  intro a
  induction a with
  | nil=>intro n out;simp[jJ]
  | cons c a ih=>
   intro n out;rw[aBI,aAy,ih,AZ,Uy,aAH,El];have e0:nR (c::a) 0=c.n:=rfl;have e1:∀i,nR (c::a) (i+1)=nR a i:=λi=>by simp[nR]
   rw[e0,aBo];have:jJ (λi=>if n+1+i<=k then nR a i*nR b (k-(n+1+i)) else 0) a.length=jJ (λi=>if n+(i+1)<=k then nR (c::a) (i+1)*nR b (k-(n+(i+1))) else 0) a.length:=
    qU _ λi hi=>by rw[e1,show n+1+i=n+(i+1) by omega]
   rw[this];simp only[aBo];omega
 unfold f6;rw[key];rw[show nR [] k=0 from sU sq,aAF];unfold xN;rcases aAr k a.length with h|h
 .have hsplit:∀n,jJ (λi=>if 0+i<=k then nR a i*nR b (k-(0+i)) else 0) (k+1+n)=jJ (λi=>nR a i*nR b (k-i)) (k+1):=by
   intro n
   induction n with
   | zero=>exact qU _ λi hi=>by rw[aAh om,aAF]
   | succ n ih=>rw[<-Nat.add_assoc,jJ,ih,aAe om,aBo]
  have:=hsplit (a.length-(k+1))
  rwa [show k+1+(a.length-(k+1))=a.length by omega] at this
 .have hsplit:∀n,jJ (λi=>nR a i*nR b (k-i)) (a.length+n)=jJ (λi=>nR a i*nR b (k-i)) a.length:=by
   intro n
   induction n with
   | zero=>rfl
   | succ n ih=>rw[<-Nat.add_assoc,jJ,ih,sU (r:=a) om,aCq,aBo]
  have:=hsplit (k+1-a.length);rw[show a.length+(k+1-a.length)=k+1 by omega] at this;rw[this];exact qU _ λi hi=>by rw[aAh om,aAF]
theorem Hm(n p q:Int)(k:Nat):nR (iP n p q) k=if k=1 then n.toNat else 0:=by
 match k with
 | 0=>rfl
 | 1=>rfl
 | k+2=>rw[sU (by simp[iP]),aAe om]
theorem Bs(k:Nat):nR eM k=co [1] k:=by
 match k with
 | 0=>rfl
 | k+1=>rw[sU (by simp[eM]),oE sq]
theorem Ob{f' g g':Nat->Nat}(h1:∀i≤k,f i=f' i)(h2:∀i≤k,g i=g' i):xN f g k=xN f' g' k:=
 qU _ λi hi=>by rw[h1 i om,h2 (k-i) om]
def o7(m:Nat)(o:Option (List Nat))(r:List Cell):Prop:=∀k≤m,NQ o k=nR r k
theorem o7.plus{a b:Option (List Nat)}{s:List Cell}(h1:o7 m a r)(h2:o7 m b s):o7 m (fX (aY m) a b) (dY false r s):=λk hk=>by rw[Kn,AZ,h1 k hk,h2 k hk]
theorem o7.times{a b:Option (List Nat)}{s:List Cell}(h1:o7 m a r)(h2:o7 m b s):o7 m (c8 (aY m) a b) (f6 false r s):=λk hk=>by
 rw[OY _ _ hk,Cm];exact Ob (λi hi=>h1 i om) λi hi=>h2 i om
theorem o7.none:o7 m none []:=λk hk=>by rw[sU sq];rfl
theorem o7.one:o7 m (some (aY m).one) eM:=λk hk=>(Bs k).symm
theorem o7.up{p q:Int}(h:z.toNat=n):o7 m (some (Dm m n)) (iP z p q):=λk hk=>by
 show co _ k=_
 rw[LE hk,Hm,h]
theorem eP{V β γ:Type}{R:β->γ->Prop}{f:β->V->β}{g:γ->V->γ}:∀(l:List V) (b:β) (c:γ),R b c->(∀a∈l,∀b c,R b c->R (f b a) (g c a))->R (l.foldl f b) (l.foldl g c)
 | [],b,c,h,_=>h
 | a::l,b,c,h,hs=>eP l _ _ (hs a (aAv ..) _ _ h) λx hx=>hs x (aAo _ hx)
theorem nI(h:VT A)(m:Nat):∀i,i<A.length->o7 m ((aZ (aY m)).all A i) ((fQ false).all A i)/\∀v,bG v=0->o7 m ((aZ (aY m)).of A i v) ((fQ false).of A i v):=by
 intro i
 induction i using Nat.strongRecOn with
 | ind i ih=>
  intro hi;have hx:=b9 hi;have hk:=λ(k:Int) (hk:k∈(aG A i).kids)=>eH h hx hk
  have ia:=λ(k:Int) (hm:k∈(aG A i).kids)=>(ih k.toNat (hk k hm).2 (by have:=hk k hm;omega)).1
  have io:=λ(k:Int) (hm:k∈(aG A i).kids)=>(ih k.toNat (hk k hm).2 (by have:=hk k hm;omega)).2
  have hvv:=λ(u:aQ) (hu:u∈(aG A i).values)=>h.vals_valid hx hu
  rw[(aZ (aY m)).all_eq h hi,(fQ false).all_eq h hi];refine⟨?_,λv hv=>?_⟩
  .show o7 m (v8 _ _ _ _) (iV _ _ _ _)
   unfold v8 iV;generalize aG A i=x at *;split
   .exact .up rfl
   split
   .exact eP _ _ _ .one λk hm b c hb=>hb.times (ia k hm)
   split
   .exact eP _ _ _ .none λkc hm b c hb=>hb.plus (o7.times (.up rfl) (ia _ (dS hm)))
   split
   .refine eP _ _ _ .none λvk hm b c hb=>?_
    obtain⟨m1,m2⟩:=cN hm;exact hb.plus ((io _ m2 _ (hvv _ (aA0 hm).1)).times (ia _ m1))
   .exact .one
  .rw[(aZ (aY m)).of_eq h hi,(fQ false).of_eq h hi]
   show o7 m (qE _ _ _ _) (iS _ _ _ _)
   unfold qE iS;rw[aAe (show ¬bG v≠0 by omega)];generalize aG A i=x at *;split
   .split
    .exact .one
    .exact .none
   split
   .split
    .exact .up rfl
    .exact .none
   split
   .split
    .refine eP _ _ _ .one λkv hm b c hb=>?_
     obtain⟨m1,m2⟩:=aA0 hm;exact hb.times (io _ m1 _ (kA hv _ m2))
    .exact .none
   split
   .exact eP _ _ _ .none λkc hm b c hb=>hb.plus (o7.times (.up rfl) (io _ (dS hm) v hv))
   split
   .refine eP _ _ _ .none λvk hm b c hb=>?_
    obtain⟨m1,m2⟩:=cN hm;exact hb.plus ((io _ m2 _ (hvv _ (aA0 hm).1)).times (io _ m1 v hv))
   .exact .none
end Go.Ax
namespace Go.Ax
open Go
variable{n k j:Nat}{V:Type}{r:List Cell}
theorem Ch:∀(r:List Cell) (k:Nat),nR r k<=eD r
 | [],k=>by rw[sU sq];exact aAN _
 | c::r,0=>by rw[kU];show c.n<=_;omega
 | c::r,k+1=>by
  have:=Ch r k;rw[kU];have e:nR (c::r) (k+1)=nR r k:=by simp[nR]
  omega
def rC(m:Nat)(o:Option (List Nat)):Prop:=∀l,o=some l->l.length<=m+1/\∀k,co l k<=j8 256
def oB(m:Nat)(o:Option (List Nat)):Prop:=∀l,o=some l->l.length<=m+1
theorem rC.none{m:Nat}:rC m none:=λl h=>by cases h
theorem rC.of{m:Nat}{o:Option (List Nat)}(h:o7 m o r)(hl:oB m o)(hs:eD r<=j8 256):rC m o:=λl e=>by
 refine⟨hl l e,λk=>?_⟩;rcases aAr m k with h1|h1
 .rw[oE (by have:=hl l e;omega)];exact aAN _
 .have:=h k h1;rw[e] at this;have e2:co l k=nR r k:=this;rw[e2];exact aAx (Ch r k) hs
theorem FQ(m:Nat)(a b:List Nat):(g8 m a b).length<=m+1:=by
 unfold g8;split
 .simp
 .simp;omega
theorem oB.none{m:Nat}:oB m none:=λl h=>by cases h
theorem oB.one{m:Nat}:oB m (some (aY m).one):=λl h=>by
 injection h with h;subst h;simp[aY]
theorem oB.up{m:Nat}:oB m (some (Dm m n)):=λl h=>by
 injection h with h;subst h;exact FQ _ _ _
theorem oB.times{m:Nat}(a b:Option (List Nat)):oB m (c8 (aY m) a b):=λl h=>by
 cases a with
 | none=>cases b<;>cases h
 | some x=>
  cases b with
  | none=>cases h
  | some y=>
   injection h with h;subst h;exact FQ _ _ _
theorem oB.plus{m:Nat}{a b:Option (List Nat)}(h1:oB m a)(h2:oB m b):oB m (fX (aY m) a b):=λl h=>by
 cases a with
 | none=>exact h2 l h
 | some x=>
  cases b with
  | none=>exact h1 l h
  | some y=>
   injection h with h;subst h;have e1:=h1 x rfl;have e2:=h2 y rfl
   show (iY x y).length<=_
   rw[kV];omega
theorem rC.part{m:Nat}{g p:Option (List Nat)}(hp:oB m p)(h:rC m (fX (aY m) g p)):rC m p:=λl e=>by
 refine⟨hp l e,λk=>?_⟩;have hc:=Kn m g p k;cases hs:fX (aY m) g p with
 | none=>
  rw[hs] at hc;have:co l k=NQ p k:=by rw[e];rfl
  have h0:NQ (Option.none:Option (List Nat)) k=0:=rfl;rw[this];have:=pA 256;omega
 | some s=>
  have h1:=(h s hs).2 k;rw[hs] at hc;have:co l k=NQ p k:=by rw[e];rfl
  have h0:NQ (some s) k=co s k:=rfl;omega
theorem gR{V:Type}{m:Nat}{f:Option (List Nat)->V->Option (List Nat)}:∀(l:List V) (b:Option (List Nat)),oB m b->(∀a∈l,∀b,oB m b->oB m (f b a))->oB m (l.foldl f b)
 | [],b,h,_=>h
 | a::l,b,h,hs=>gR l _ (hs a (aAv ..) _ h) λx hx=>hs x (aAo _ hx)
theorem wQ(f:V->List Cell)(l:List V)(k:Nat):eD ((l.take k).foldl (λo x=>dY false o (f x)) [])<=eD (l.foldl (λo x=>dY false o (f x)) []):=by
 have mono:∀(l:List V) (out:List Cell),eD out<=eD (l.foldl (λo x=>dY false o (f x)) out):=by
  intro l
  induction l with
  | nil=>exact λout=>aAp _
  | cons x l ih=>
   intro out;rw[aAy];refine aAx ?_ (ih _);rw[oF];omega
 have e:l.foldl (λo x=>dY false o (f x)) []=(l.drop k).foldl (λo x=>dY false o (f x)) ((l.take k).foldl (λo x=>dY false o (f x)) []):=by
  rw[<-List.foldl_append,List.take_append_drop]
 rw[e];exact mono _ _
section
variable {A:List Nd} (h:VT A) {i:Nat} (hi:i<A.length) (m:Nat)
include h hi
theorem Qw(o:Option aQ):oB m (match o with|none=>(aZ (aY m)).all A i|some v=>(aZ (aY m)).of A i v):=by
 cases o with
 | none=>
  show oB m ((aZ (aY m)).all A i)
  rw[(aZ (aY m)).all_eq h hi]
  show oB m (v8 _ _ _ _)
  unfold v8;split
  .exact .up
  split
  .exact gR _ _ .one λk hk b hb=>.times _ _
  split
  .exact gR _ _ .none λk hk b hb=>hb.plus (.times _ _)
  split
  .exact gR _ _ .none λk hk b hb=>hb.plus (.times _ _)
  .exact .one
 | some v=>
  show oB m ((aZ (aY m)).of A i v)
  rw[(aZ (aY m)).of_eq h hi]
  show oB m (qE _ _ _ _)
  unfold qE;split
  .exact .none
  split
  .split
   .exact .one
   .exact .none
  split
  .split
   .exact .up
   .exact .none
  split
  .split
   .exact gR _ _ .one λk hk b hb=>.times _ _
   .exact .none
  split
  .exact gR _ _ .none λk hk b hb=>hb.plus (.times _ _)
  split
  .exact gR _ _ .none λk hk b hb=>hb.plus (.times _ _)
  .exact .none
theorem I3:rC m ((aZ (aY m)).all A i):=by
 refine rC.of (nI h m i hi).1 (Qw h hi m none) ?_;exact(iG h hi (o:=none) (λv e=>by cases e)).2
theorem QK{v:aQ}(hv:bG v=0):rC m ((aZ (aY m)).of A i v):=by
 refine rC.of ((nI h m i hi).2 v hv) (Qw h hi m (some v)) ?_;exact(iG h hi (o:=some v) (λu e=>by injection e with e;exact e ▸ hv)).2
theorem TQ(h3:(aG A i).kind=3)(k:Nat):rC m (I8 (aY m) (aG A i) ((aZ (aY m)).all A) k):=by
 have hk:=λ(q:Int) (hq:q∈(aG A i).kids)=>rJ h hi hq
 have hb:=(G7 h hi h3 (List.replicate (aG A i).kids.length none) (λo ho v e=>by rw[(aC5.1 ho).2] at e;cases e) k).2;refine rC.of (r:=Dr A (aG A i) (List.replicate (aG A i).kids.length none) k) ?_ ?_ hb
 .unfold I8 Dr;rw[m7,List.take_replicate];have key:∀(ks:List Int) (n:Nat) (b:Option (List Nat)) (c:List Cell),(∀q∈ks,q∈(aG A i).kids)->ks.length<=n->o7 m b c->o7 m (ks.foldl (λf k=>c8 (aY m) f ((aZ (aY m)).all A k.toNat)) b) ((ks.zip (List.replicate n none)).foldl (λf kp=>f6 false f (jC A kp.1.toNat kp.2)) c):=by
   intro ks
   induction ks with
   | nil=>intro n b c _ _ hr;simpa using hr
   | cons q ks ih=>
    intro n b c hq hn hr;obtain⟨n,rfl⟩:∃n',n=n'+1:=⟨n-1,by simp at hn;omega⟩
    rw[aA6,aA4,aAy,aAy];exact ih n _ _ (λr hr=>hq r (aAo _ hr)) (su hn) (hr.times (nI h m _ (hk q (hq q (aAv ..)))).1)
  exact key _ _ _ _ (λq hq=>aAI hq) sq .one
 .unfold I8;exact gR _ _ .one λk hk b hb=>.times _ _
theorem Ug(h3:(aG A i).kind=3)(vs:List aQ)(hvs:∀v∈vs,bG v=0)(k:Nat):rC m (NC (aY m) (aG A i) ((aZ (aY m)).of A) vs k):=by
 have hk:=λ(q:Int) (hq:q∈(aG A i).kids)=>rJ h hi hq
 have hb:=(G7 h hi h3 (vs.map some) (λo ho v e=>by
  obtain⟨u,hu,rfl⟩:=aAE.1 ho;injection e with e;exact e ▸ hvs u hu) k).2
 refine rC.of (r:=Dr A (aG A i) (vs.map some) k) ?_ ?_ hb
 .unfold NC Dr;rw[m7,m7,<-List.map_take];have key:∀(ks:List Int) (vs:List aQ) (b:Option (List Nat)) (c:List Cell),(∀q∈ks,q∈(aG A i).kids)->(∀v∈vs,bG v=0)->o7 m b c->o7 m ((ks.zip vs).foldl (YM (aY m) ((aZ (aY m)).of A)) b) ((ks.zip (vs.map some)).foldl (λf kp=>f6 false f (jC A kp.1.toNat kp.2)) c):=by
   intro ks
   induction ks with
   | nil=>intro vs b c _ _ hr;simpa using hr
   | cons q ks ih=>
    intro vs b c hq hv hr;cases vs with
    | nil=>simpa using hr
    | cons v vs=>
     rw[aAT,aA4,aA4,aAy,aAy];exact ih vs _ _ (λr hr=>hq r (aAo _ hr)) (λu hu=>hv u (aAo _ hu)) (hr.times ((nI h m _ (hk q (hq q (aAv ..)))).2 v (hv v (aAv ..))))
  exact key _ _ _ _ (λq hq=>aAI hq) (λv hv=>hvs v (aAI hv)) .one
 .unfold NC;exact gR _ _ .one λk hk b hb=>.times _ _
theorem SH(h2:(aG A i).kind=2){o:Option aQ}(ho:∀v,o=some v->bG v=0)(k:Nat):eD (Ib A (aG A i) o k)<=j8 256:=by
 have hb:=(iG h hi ho).2;rw[Mw h hi h2 o] at hb;refine aAx ?_ hb;unfold Ib;rw[aAk (i:=(aG A i).kids.length) sq];exact wQ (λkc:Int × Nat=>f6 false (iP 1 ((aG A i).weights.getD kc.2 0) (p9 (aG A i).weights)) (jC A kc.1.toNat o)) _ k
theorem Qh(h4:(aG A i).kind=4){o:Option aQ}(ho:∀v,o=some v->bG v=0)(k:Nat):eD (Iw A (aG A i) o k)<=j8 256:=by
 have hb:=(iG h hi ho).2;have hl:=(h.node (b9 hi)).node.bind h4;rw[NW h hi h4 o] at hb;refine aAx ?_ hb;unfold Iw;rw[aAk (i:=(aG A i).values.length) (by simp;omega)];exact wQ (λvk:aQ × Int=>f6 false (jC A (iN (aG A i)) (some vk.1)) (jC A vk.2.toNat o)) _ k
theorem Up(h2:(aG A i).kind=2)(k:Nat):rC m (A7 (aY m) (aG A i) ((aZ (aY m)).all A) k):=by
 have hk:=λ(q:Int) (hq:q∈(aG A i).kids)=>rJ h hi hq
 refine rC.of (r:=Ib A (aG A i) none k) ?_ ?_ (SH h hi h2 (λv e=>by cases e) k)
 .unfold A7 Ib;exact eP _ _ _ .none λkc hm b c hb=>hb.plus (o7.times (.up rfl) (nI h m _ (hk _ (dS (aAI hm)))).1)
 .unfold A7;exact gR _ _ .none λk hk b hb=>hb.plus (.times _ _)
theorem Tl(h2:(aG A i).kind=2){v:aQ}(hv:bG v=0)(k:Nat):rC m (A7 (aY m) (aG A i) (λq=>(aZ (aY m)).of A q v) k):=by
 have hk:=λ(q:Int) (hq:q∈(aG A i).kids)=>rJ h hi hq
 refine rC.of (r:=Ib A (aG A i) (some v) k) ?_ ?_ (SH h hi h2 (λu e=>by injection e with e;exact e ▸ hv) k)
 .unfold A7 Ib;exact eP _ _ _ .none λkc hm b c hb=>hb.plus (o7.times (.up rfl) ((nI h m _ (hk _ (dS (aAI hm)))).2 v hv))
 .unfold A7;exact gR _ _ .none λk hk b hb=>hb.plus (.times _ _)
theorem UQ(h4:(aG A i).kind=4)(hvv:∀u∈(aG A i).values,bG u=0)(k:Nat):rC m (BM (aY m) (aG A i) ((aZ (aY m)).of A) ((aZ (aY m)).all A) k):=by
 have hk:=λ(q:Int) (hq:q∈(aG A i).kids)=>rJ h hi hq
 refine rC.of (r:=Iw A (aG A i) none k) ?_ ?_ (Qh h hi h4 (λv e=>by cases e) k)
 .unfold BM Iw;refine eP _ _ _ .none λvk hm b c hb=>?_
  have hm':=aAI hm;obtain⟨m1,m2⟩:=cN hm';have hk2:=hk _ m2;exact hb.plus (((nI h m _ hk2).2 _ (hvv _ (aA0 hm').1)).times (nI h m _ (hk _ m1)).1)
 .unfold BM;exact gR _ _ .none λk hk b hb=>hb.plus (.times _ _)
theorem UT(h4:(aG A i).kind=4)(hvv:∀u∈(aG A i).values,bG u=0){v:aQ}(hv:bG v=0)(k:Nat):rC m (BM (aY m) (aG A i) ((aZ (aY m)).of A) (λq=>(aZ (aY m)).of A q v) k):=by
 have hk:=λ(q:Int) (hq:q∈(aG A i).kids)=>rJ h hi hq
 refine rC.of (r:=Iw A (aG A i) (some v) k) ?_ ?_ (Qh h hi h4 (λu e=>by injection e with e;exact e ▸ hv) k)
 .unfold BM Iw;refine eP _ _ _ .none λvk hm b c hb=>?_
  have hm':=aAI hm;obtain⟨m1,m2⟩:=cN hm';have hk2:=hk _ m2;exact hb.plus (((nI h m _ hk2).2 _ (hvv _ (aA0 hm').1)).times ((nI h m _ (hk _ m1)).2 v hv))
 .unfold BM;exact gR _ _ .none λk hk b hb=>hb.plus (.times _ _)
end
def Sh(a b:List Nat)(k p:Nat):Nat:=if p<=k then co a p*co b (k-p) else 0
def IE(a b:List Nat)(i j k:Nat):Nat:=jJ (Sh a b k) i+(if i<=k/\k-i<j then co a i*co b (k-i) else 0)
def I4(a b:List Nat)(n i j:Nat):List Nat:=(List.range n).map (IE a b i j)
theorem Ma(a b:List Nat)(n i j:Nat):(I4 a b n i j).length=n:=by simp[I4]
theorem W9{a b:List Nat}{i:Nat}(h:k<n):co (I4 a b n i j) k=IE a b i j k:=by
 unfold I4 co;rw[aAb,aAK,aB6 h];rfl
theorem Ql(a b:List Nat)(n:Nat):I4 a b n 0 0=List.replicate n 0:=by
 refine aCf λk=>?_
 unfold I4;rw[aAK,aBr];split
 .rename_i h;rw[aB6 h];simp[IE,jJ]
 .rename_i h;rw[aAs (su h)];rfl
theorem RR{a b:List Nat}{i:Nat}:I4 a b n i (j+1)=if i+j<n then(I4 a b n i j).set (i+j) (IE a b i j (i+j)+co a i*co b j) else I4 a b n i j:=by
 have e:∀k,k≠i+j->IE a b i (j+1) k=IE a b i j k:=λk hk=>by
  unfold IE;by_cases h:i<=k/\k-i<j
  .rw[aAh h,aAh ⟨h.1,om⟩]
  .rw[aAe h,aAe om]
 refine aCf λk=>?_
 by_cases h:i+j<n
 .rw[aAh h,aBQ];by_cases hk:i+j=k
  .subst hk;rw[aAh rfl,aAh (by rw[Ma];exact h)];unfold I4;rw[aAK,aB6 h];unfold IE;simp
  .rw[aAe hk];unfold I4;rw[aAK,aAK];cases hm:(List.range n)[k]? with
   | none=>rfl
   | some q=>
    have hq:q=k:=by
     obtain⟨h1,h2⟩:=aAg.1 hm;simpa using h2.symm
    subst hq;simp[e q (λe=>hk e.symm)]
 .rw[aAe h];unfold I4;rw[aAK,aAK];cases hm:(List.range n)[k]? with
  | none=>rfl
  | some q=>
   have hq:q=k/\k<n:=by
    obtain⟨h1,h2⟩:=aAg.1 hm;simp at h1 h2;exact⟨h2.symm,h1⟩
   rw[hq.1];simp[e k om]
theorem UC{a b:List Nat}{i:Nat}:I4 a b n i b.length=I4 a b n (i+1) 0:=by
 unfold I4;refine aCt λk _=>?_
 unfold IE;rw[jJ,aAe (show ¬(i+1<=k/\k-(i+1)<0) by omega)];have:(if i<=k/\k-i<b.length then co a i*co b (k-i) else 0)=Sh a b k i:=by
  unfold Sh;by_cases h:i<=k
  .rw[aAh h];by_cases h2:k-i<b.length
   .rw[aAh ⟨h,h2⟩]
   .rw[aAe om,oE (l:=b) om,aCn]
  .rw[aAe h,aAe om]
 rw[this];omega
theorem H4{a b:List Nat}(h:k+1<=n):jJ (Sh a b k) n=xN (co a) (co b) k:=by
 obtain⟨d,rfl⟩:∃d,n=k+1+d:=⟨n-(k+1),om⟩
 induction d with
 | zero=>exact qU _ λp hp=>by unfold Sh;rw[aAh om]
 | succ d ih=>
  rw[<-Nat.add_assoc,jJ,ih om];unfold Sh;rw[aAe om];rfl
theorem TD{a b:List Nat}{m:Nat}(ha:a≠[])(hb:b≠[]):I4 a b (min (a.length+b.length-1) (m+1)) a.length 0=g8 m a b:=by
 unfold g8;rw[aAe (by simp[ha,hb])];unfold I4;refine aCt λk _=>?_
 unfold IE;rw[aAe (show ¬(a.length<=k/\k-a.length<0) by omega),aBo];rcases aAr k a.length with h|h
 .exact H4 h
 .rw[<-H4 (a:=a) (b:=b) (k:=k) (n:=k+1) (aAp _)];obtain⟨d,hd⟩:∃d,k+1=a.length+d:=⟨k+1-a.length,om⟩
  rw[hd];clear hd
  induction d with
  | zero=>rfl
  | succ d ih=>
   rw[<-Nat.add_assoc,jJ,<-ih];unfold Sh;split
   .rw[oE (l:=a) om,aCq];rfl
   .rfl
theorem Wo(a b:List Nat)(i j k:Nat):IE a b i j k<=xN (co a) (co b) k:=by
 have h1:IE a b i j k<=jJ (Sh a b k) (i+1):=by
  unfold IE;rw[jJ];have:(if i<=k/\k-i<j then co a i*co b (k-i) else 0)<=Sh a b k i:=by
   unfold Sh;by_cases h:i<=k
   .rw[aAh h];split
    .exact aAp _
    .exact aAN _
   .rw[aAe h,aAe om];exact aAp _
  omega
 refine aAx h1 ?_;rw[<-H4 (a:=a) (b:=b) (k:=k) (n:=max (i+1) (k+1)) om];exact Pd om
theorem Px(a b:List Nat)(i j:Nat):IE a b i j (i+j)+co a i*co b j<=xN (co a) (co b) (i+j):=by
 have h:=Wo a b i (j+1) (i+j);unfold IE at h |-;rw[aAh om,show i+j-i=j by omega] at h;rw[aAe om];omega
end Go.Ax
