/- A part of the proof. -/
import Derived.Test.YtobknjmfgjaehaaGreatDoorAx17
import Derived.Test.YtobknjmfgjaehaaGreatDoorProg
set_option linter.unusedVariables false
set_option linter.unusedSimpArgs false
set_option linter.unusedSectionVars false
namespace Go.Proofs.YtobknjmfgjaehaaGreatDoor
open Go Go.Ax Go.Proofs Tryz
set_option maxRecDepth 100000
set_option maxHeartbeats 16000000
def l8:List (List UInt8):=[[45,49],[48],[50],[48,50],[45,48],[97],[57,50,50,51,51,55,50,48,51,54,56,53,52,55,55,53,56,48,56],[]]
def LB:List (List UInt8):=[120]::(l8++vE)
theorem Od{s:List UInt8}(h:s∈LB):s.length<=19:=by
 simp only[LB,l8,vE,List.cons_append,List.nil_append,List.mem_cons,List.not_mem_nil,or_false] at h;rcases h with rfl|rfl|rfl|rfl|rfl|rfl|rfl|rfl|rfl|rfl|rfl|rfl|rfl<;>simp
set_option maxHeartbeats 16000000
theorem L2:∀s∈vE,s∈LB:=fun s hs=>by unfold LB;exact List.mem_cons_of_mem _ (List.mem_append_right _ hs)
theorem Mw(l:List Int)(hl:∀x∈l,i64 x){Γ:List (Nat × AV)}{mem:aN}{nx:Nat}{K:AV->aN->Nat->Prop}(hk:∀ns:List Nd,gZ ns->ns.length<=14->K (.agg [.il 12 (aW ns)]) mem nx):aG prog Γ 17 [.il 1 (aT l)] mem nx K:=by
 refine aG.goG0 (Pr l hl) ?_;rintro r m n ⟨ns,hT,hlen,rfl,rfl,rfl⟩;exact⟨.agg [.il 12 (aW ns)],.agg' (.cons (.fz' (id:=0) rfl rfl (by rw[bO];omega) (by rw[List.drop_zero];exact List.take_of_length_le (by rw[bO];omega)) (aU _)) .nil),hk ns hT hlen⟩
end Go.Proofs.YtobknjmfgjaehaaGreatDoor
namespace Go.Ax
open Go
inductive IF (A B:List Nd):Nat->Nat->Prop where
 | mk (i j:Nat) (x y:Nd):A[i]? = some x->B[j]? = some y->y={ x with kids:=y.kids }->y.kids.length=x.kids.length ->
   (∀(k:Nat) (a b:Int),x.kids[k]? = some a->y.kids[k]? = some b->0<=a/\0<=b) ->
   (∀(k:Nat) (a b:Int),x.kids[k]? = some a->y.kids[k]? = some b->IF A B a.toNat b.toNat)->IF A B i j
theorem IF.symm{A B:List Nd}{i j:Nat}(h:IF A B i j):IF B A j i:=by
 induction h with
 | mk i j x y hx hy he hl hp _ ih=>
  refine .mk j i y x hy hx ?_ hl.symm (fun k a b ha hb=>(hp k b a hb ha).symm) fun k a b ha hb=>ih k b a hb ha
  rw[he]
theorem IF.trans{A B C:List Nd}{i j k:Nat}(h:IF A B i j):IF B C j k->IF A C i k:=by
 induction h generalizing k with
 | mk i j x y hx hy he hl hp _ ih=>
  intro h2;cases h2 with
  | mk _ _ y' z hy' hz he2 hl2 hp2 ih2=>
   rw[hy] at hy';cases hy';have mid:∀(q:Nat) (a:Int),x.kids[q]? = some a->∃b,y.kids[q]? = some b:=fun q a ha=>by
    have hq:q<y.kids.length:=by
     have:=(List.getElem?_eq_some_iff.1 ha).1;omega
    exact⟨_,List.getElem?_eq_getElem hq⟩
   refine .mk i k x z hx hz ?_ om (fun q a c ha hc=>?_) fun q a c ha hc=>?_
   ·rw[he2,he]
   ·obtain⟨b,hb⟩:=mid q a ha;exact⟨(hp q a b ha hb).1,(hp2 q b c hb hc).2⟩
   ·obtain⟨b,hb⟩:=mid q a ha;exact ih q a b ha hb (ih2 q b c hb hc)
theorem IF.refl{A:List Nd}(hA:∀(i:Nat) (x:Nd),A[i]? = some x->∀k∈x.kids,0<=k/\k<i):∀(n i:Nat),i<n->i<A.length->IF A A i i
 | 0,i,h,_=>absurd h om
 | n+1,i,h,hi=>by
  have hx:A[i]? = some A[i]:=List.getElem?_eq_getElem hi;refine .mk i i _ _ hx hx rfl rfl (fun k a b ha hb=>?_) fun k a b ha hb=>?_
  ·rw[ha] at hb;cases hb;have:=hA i _ hx a (List.mem_of_getElem? ha);exact⟨this.1,this.1⟩
  ·rw[ha] at hb;cases hb;have:=hA i _ hx a (List.mem_of_getElem? ha);exact IF.refl hA n a.toNat om om
end Go.Ax
namespace Go.Ax
open Go
structure Sys(S R:Type) where
 sa:Nd->(Nat->S)->(Nat->a7->R)->S
 sf:Nd->(Nat->a7->R)->a7->R
 s0:S
 r0:R
 la:∀(x:Nd) (al al':Nat->S) (of of':Nat->a7->R),(∀k∈x.kids,al k.toNat=al' k.toNat)->(∀k∈x.kids,∀v,of k.toNat v=of' k.toNat v)->sa x al of=sa x al' of'
 lf:∀(x:Nd) (of of':Nat->a7->R) (v:a7),(∀k∈x.kids,∀v,of k.toNat v=of' k.toNat v)->sf x of v=sf x of' v
section
variable {S R:Type}
def Sys.run(y:Sys S R)(A:List Nd):Nat->(Nat->S) × (Nat->a7->R)
 | 0=>(fun _=>y.s0,fun _ _=>y.r0)
 | f+1=>(fun i=>y.sa (aI A i) (y.run A f).1 (y.run A f).2,fun i v=>y.sf (aI A i) (y.run A f).2 v)
def Sys.all(y:Sys S R)(A:List Nd)(i:Nat):S:=(y.run A (i+1)).1 i
end
theorem AH{α β:Type}{f g:β->α->β}:∀(l:List α) (b:β),(∀a∈l,∀b,f b a=g b a)->l.foldl f b=l.foldl g b
 | [],b,h=>rfl
 | a::l,b,h=>by
  rw[List.foldl_cons,List.foldl_cons,h a (List.mem_cons_self ..),AH l _ fun a ha=>h a (List.mem_cons_of_mem _ ha)]
theorem Ds{α:Type}{l:List α}{ks:List Int}{a:α × Int}(h:a∈l.zip (ks.drop 1)):a.2∈ks/\ks.getD 0 0∈ks:=by
 have:=List.mem_of_mem_drop (List.of_mem_zip h).2;cases ks with
 | nil=>cases this
 | cons b r=>exact⟨this,by simp⟩
def PK(x:Nd):Nat:=(x.kids.getD 0 0).toNat
structure RQ(T:Type) where
 one:T
 add:T->T->T
 mul:T->T->T
 opt:Nd->Nat->T
 spn:Nd->T
section
variable {T:Type}
end
end Go.Ax
namespace Go.Ax
open Go
theorem VT.len256{A:List Nd}(h:VT A){i:Nat}{x:Nd}(hx:A[i]? = some x):0<=dK (aY A) i/\dK (aY A) i<=256:=by
 have hi:=(List.getElem?_eq_some_iff.1 hx).1;have:=(e6 (kV A h.v0 i x hx)).2.1;rw[h.lenC hx (Nat.le_refl _) om,←h.len hx] at this;exact⟨(h.lens0 i).1,this⟩
def NB(x:Nd)(pv:Nat->List a7):List a7:=
 if x.kind=1 then fZ x.lo x.hi
 else if x.kind=3 then(x.kids.foldl (fun rows k=>fM rows (pv k.toNat)) [[]]).map (c9 x.name)
 else if x.kind=2 then x.kids.flatMap fun k=>pv k.toNat
 else if x.kind=4 then(x.values.zip (x.kids.drop 1)).flatMap fun vk=>((pv (PK x)).filter fun u=>decide (bW u vk.1=0)).flatMap fun _=>pv vk.2.toNat
 else [x.value]
theorem p6{α β:Type}{f g:α->List β}:∀(l:List α),(∀a∈l,f a=g a)->l.flatMap f=l.flatMap g
 | [],h=>rfl
 | a::l,h=>by rw[List.flatMap_cons,List.flatMap_cons,h a (List.mem_cons_self ..),p6 l fun a ha=>h a (List.mem_cons_of_mem _ ha)]
def QY:Sys (List a7) Unit where
 sa:=fun x al _=>NB x al
 sf:=fun _ _ _=>()
 s0:=[]
 r0:=()
 la:=fun x al al' of of' h1 h2=>by
  unfold NB;split
  ·rfl
  split
  ·exact congrArg _ (AH _ _ fun k hk b=>by rw[h1 k hk])
  split
  ·exact p6 _ fun k hk=>h1 k hk
  split
  ·exact p6 _ fun vk hk=>by
    obtain⟨m1,m2⟩:=Ds hk;unfold PK;rw[h1 _ m1,h1 _ m2]
  ·rfl
 lf:=fun x of of' v h2=>rfl
def eI(A:List Nd)(i:Nat):List a7:=QY.all A i
structure RS(A B:List Nd)(v v':a7)(u u':Nat)(s s':Int):Prop where
 used:u=u'
 c:(s = -1/\s' = -1/\v=v')∨(s = -2/\s' = -2)∨∃j k:Nat,IF A B j k/\s=(j:Int)/\s'=(k:Int)
def Oi(A:List Nd)(p:List Int):wR:=aZ A p A.length (A.length-1) 0
def E8(A:List Nd)(raw:List Int):Ft:=jK A raw A.length (A.length-1) 0
theorem KD{B:List Nd}(h:VT B)(raw:List Int):(E8 B raw).cs.length<=256:=by
 have hp:=h.pos;have hx:=dD (A:=B) (i:=B.length-1) om;have h1:=Hz h raw (f:=B.length) (i:=B.length-1) (q:=0) om om;have h2:=h.len256 hx;unfold E8;omega
theorem Lx{B:List Nd}(h:VT B){raw out:List Int}(hi:out=(E8 B raw).cs.take out.length) :
  (out.length=(E8 B raw).cs.length->(Oi B out).stop = -1/\(Oi B out).used=out.length/\(Oi B out).val=(E8 B raw).val)/\(out.length<(E8 B raw).cs.length->∃n,n<B.length/\(Oi B out).stop=(n:Int)/\(E8 B raw).cs[out.length]? = some (dU raw (aI B n) out.length)):=by
 have hp:=h.pos;refine⟨fun hl=>?_,fun hl=>?_⟩
 ·have e:out=(E8 B raw).cs:=by rw[hl,List.take_length] at hi;exact hi
  obtain⟨g1,g2,g3⟩:=Ei h raw out B.length (B.length-1) 0 [] om om (by rw[List.append_nil,List.drop_zero];exact e);exact⟨g3,by unfold Oi;rw[g2];exact hl.symm,g1⟩
 ·obtain⟨n,h1,h2,h3⟩:=Ky h raw out B.length (B.length-1) 0 out.length om om hl (by rw[List.drop_zero];exact hi);rw[Nat.zero_add] at h3;exact⟨n,h1,h2,h3⟩
end Go.Ax
namespace Go.Ax
open Go
structure Qk where
 val:a7
 ok:Bool
 rd:Rd
 parts:Nat
structure P9 where
 vals:List a7
 ok:Bool
 rd:Rd
 parts:Nat
structure RI(x:Rd)(p:Nat)(r:Qk):Prop where
 le:r.rd.1.length<=x.1.length
 ok:x.1.length<=1000000000->gD r.val
 size:r.ok=true->p+bC r.val=r.parts
 parts:p<=1024->r.parts<=1025
 good:r.ok=true->p<=1024->r.parts<=1024
structure RG(x:Rd)(p:Nat)(acc:List a7)(m:Nat)(r:P9):Prop where
 le:r.rd.1.length<=x.1.length
 ok:x.1.length<=1000000000->uJ acc->uJ r.vals
 len:r.vals.length<=acc.length+m
 size:r.ok=true->p+cE r.vals=r.parts+cE acc
 parts:p<=1024->r.parts<=1025
 good:r.ok=true->p<=1024->r.parts<=1024
end Go.Ax
namespace Go.Ax
open Go
def OD(r:List Bool)(i:Nat):Bool:=r.getD i false
def KY(A:List Nd):Prop:=∀(i:Nat) (x:Nd),A[i]? = some x->∀k∈x.kids,0<=k/\k<i
structure NM(A:List Nd)(m:Nat)(r:List Bool):Prop where
 len:r.length=A.length
 down:∀i,m<=i->i<A.length->OD r i=true->∀k∈(aI A i).kids,OD r k.toNat=true
 up:∀i,i<A.length->OD r i=true->i+1=A.length∨∃j,m<=j/\i<j/\j<A.length/\OD r j=true/\(i:Int)∈(aI A j).kids
 root:m<A.length->OD r (A.length-1)=true
def Lh(p:List Int)(k:Int):Int:=p.getD k.toNat 0
def Kb(x:Nd)(p:List Int):Nd:={ x with kids:=x.kids.map (Lh p) }
structure P6(A:List Nd)(r:List Bool)(i:Nat)(s:List Nd × List Int):Prop where
 plen:s.2.length=A.length
 tlen:s.1.length<=i
 img:∀j,j<i->j<A.length->OD r j=true->∃q:Nat,s.2[j]? = some (q:Int)/\s.1[q]? = some (Kb (aI A j) s.2)
 kids:KY s.1
 src:∀q,q<s.1.length->∃j,j<i/\j<A.length/\OD r j=true/\s.2[j]? = some (q:Int)
 ok:∀y∈s.1,qG y
end Go.Ax
namespace Go.Ax
open Go
section
variable {A:List Nd} (hA:KY A) {r:List Bool} (hr:NM A 0 r) {T:List Nd} {p:List Int} (h:P6 A r A.length (T,p))
include hA hr h
end
end Go.Ax
namespace Go.Ax
open Go
end Go.Ax
namespace Go.Ax
open Go
end Go.Ax
namespace Go.Ax
open Go
section
variable {A:List Nd} (hv:bT [] A=0) (hok:∀x∈A,qG x) (hlen:A.length<=4096)
include hv hok hlen
end
end Go.Ax
namespace Go.Ax
open Go
theorem QG{A:List Nd}(h:∀j,gN (aI A j)<=3)(hl:A.length<=14):3*HP A (A.length-1)<=6377292:=by
 have h1:=(Km (A:=A) (i:=0) (fun j _=>h j) (by have:=h 0;omega) (A.length-1)).2;have h2:=Lp (n:=A.length-1) om;omega
structure QI(A:List Nd):Prop where
 vt:VT A
 cnt:∀p f i a0,i<f->i<A.length->(aZ A p f i a0).spans.length<=4294967296
theorem Np{A:List Nd}(h:VT A)(hg:∀j,gN (aI A j)<=3)(hl:A.length<=14):QI A:=
 ⟨h,fun p f i a0 h1 h2=>by have:=NY h (QG hg hl) p f i a0 h1 h2;omega⟩
end Go.Ax
