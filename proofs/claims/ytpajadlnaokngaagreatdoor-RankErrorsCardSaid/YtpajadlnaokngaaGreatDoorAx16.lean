/- A part of the proof. -/
import Derived.Test.YtpajadlnaokngaaGreatDoorAx15
set_option linter.unusedVariables false
set_option linter.unusedSimpArgs false
set_option linter.unusedSectionVars false
namespace Go.Proofs.YtpajadlnaokngaaGreatDoor
open Go Go.Ax Go.Proofs Tryz
set_option maxRecDepth 100000
set_option maxHeartbeats 8000000
theorem bP{a b:Bool}(h1:a=true)(h2:b=true):(a && b)=true:=by rw[h1,h2];rfl
theorem q6{n:Nat}{s m:Int}(hn:Nat.ble n 100=true)(hs:0<=s)(h:100*s<=m):decide ((n:Int)*s<=m)=true:=by
 have hn:=Mh hn;have:(n:Int)*s<=100*s:=Int.mul_le_mul_of_nonneg_right om hs;simp;omega
theorem IS(a b:List aT)(ha:a.length<=1000000)(hb:b.length<=1000000)(hok:∀v∈a,gC v) :
  aZ prog [] 213 [.il 4 (aO a),.il 4 (aO b)] (.il 4 (aO (dF a b))):=by
 refine aN bI func213 rfl ?_;cases a with
 | nil=>
  rw[yE];refine Rr ?_;exact aA (.il' (aY _)) ⟨rfl,rfl,rfl⟩
 | cons x l=>
  have d0:(((aO (x::l)).length:Int) == 0)=false:=by rw[aB,beq_eq_false_iff_ne];simp;omega
  obtain⟨a,hae⟩:∃a,a=x::l:=⟨_,rfl⟩
  rw[←hae] at d0 ha hok ⊢;clear hae;refine Rr ?_;rw[d0];have hw:IntKind.i64.wrap (((aO a).length:Int)+((aO b).length:Int))=((aO a).length:Int)+((aO b).length:Int):=fC ⟨om,by rw[aB,aB];omega⟩;have hal:(aO a).length<=1000000:=by rw[aB];exact ha
  have hbl:(aO b).length<=1000000:=by rw[aB];exact hb
  refine Rr ?_;rw[hw];refine aM (bP rfl (bP rfl (bP rfl (bP rfl (bP (NB om) (bP (q6 rfl om om) (NB om))))))) ?_;refine Rr ?_;refine a6.at bI (fun p:List aT × List aT × List aT=>dF a b=p.1++dF p.2.1 p.2.2/\p.1.length<=2000000-p.2.1.length-p.2.2.length/\p.2.1.length+p.2.2.length<=2000000/\∀v∈p.2.1,gC v)
   (fun p=>⟨[(0,.il 4 (aO p.2.1)),(1,.il 4 (aO p.2.2)),(5,.sl 0 0 p.1.length)],[(0,.row 57 4 (aO p.1))],1,57⟩) (fun p=>p.2.1.length+p.2.2.length) ([],a,b) [(0,0)] ⟨by simp,by simp,by simp only;omega,hok⟩
   (aH _ rfl ⟨aI 0 .nil,trivial⟩ ⟨a9 (.il' (aY _)),a9 (.il' (aY _)),⟨_,rfl,.sl 0 0 0 _ rfl⟩,trivial⟩) ?_
  clear hok hw hal hbl d0 ha hb;rintro⟨out,a',b'⟩ ⟨hm,hlen,hle,hok⟩;simp only at hm hlen hle hok ⊢;have eg:∀(z:aT) (r:List aT),decide (((aO (z::r)).length:Int)>0)=true:=fun z r=>by rw[aB];simp
  have K2:∀(z:aT) (r:List aT),((Int.toNat 1).ble (aO (z::r)).length && ((aO (z::r)).length.ble (aO (z::r)).length && (aO (z::r)).length.ble (aO (z::r)).length))=true:=fun z r=>bP (Ml (by rw[aB];simp)) (bP (Ml (Mp _)) (Ml (Mp _)))
  have ec:∀(z:aT) (r:List aT),List.take ((aO (z::r)).length-Int.toNat 1) (List.drop (Int.toNat 1) (aO (z::r)))=aO r:=fun z r=>by
   show List.take ((aO (z::r)).length-1) (aO r)=aO r
   exact M7 (by rw[aB,aB];simp)
  have fin:∀(o p q:List aT) (mem:aK) (n:Nat) (id:Nat),dF a b=o++p++q->lk mem id=some (.row 57 4 (aO o++aO p++aO q))->mJ 0 (fun r m n=>r=AV.il 4 (aO (dF a b))/\m=[]/\n=0) (.sl id 0 (o.length+(aO p).length+(aO q).length)) mem n:=by
   intro o p q mem n id h hl;refine lR (r':=.il 4 (aO (dF a b))) (.fzR hl rfl (.eq (aY _) (by rw[h];simp[fL])) (by rw[h];simp[aB];omega)) ⟨rfl,rfl,rfl⟩
  cases a' with
  | nil=>
   rw[yE] at hm;refine Rr ?_;refine aM (bO rfl rfl (by simp[aB]) (by simp[aB] at *;omega)) ?_;refine Rr ?_;refine aM (bO rfl rfl (by simp[aB]) (by simp[aB] at *;omega)) ?_;refine Rr ?_;exact fin out [] b' _ _ _ (by simpa using hm) rfl
  | cons x l=>
   cases b' with
   | nil=>
    rw[B8] at hm;refine Rr ?_;rw[eg];refine Rr ?_;refine aM (bO rfl rfl (by simp[aB]) (by simp[aB] at *;omega)) ?_;refine Rr ?_;refine aM (bO rfl rfl (by simp[aB]) (by simp[aB] at *;omega)) ?_;refine Rr ?_;exact fin out (x::l) [] _ _ _ (by simpa using hm) rfl
   | cons y m=>
    rw[Cy] at hm;have hc:=n4 x y (hok x (by simp));have hok':∀v∈l,gC v:=fun v hv=>hok v (by simp[hv])
    obtain⟨c,hc0⟩:∃c,c=bU x y:=⟨_,rfl⟩
    rw[←hc0] at hc hm;clear hc0;obtain⟨x1,x2,x3,x4⟩:=x;obtain⟨y1,y2,y3,y4⟩:=y;refine Rr ?_;rw[eg];refine Rr ?_;rw[eg];refine Rt ?_;refine hc.go ?_;refine Rr ?_;rcases(show c<0∨c=0∨0<c by omega) with hcc|hcc|hcc
    ·have d1:decide (c<=0)=true:=by simp;omega
     have d2:decide (c≥0)=false:=by simp;omega
     rw[Mr hcc] at hm;rw[d1];refine Rt ?_;refine aM (bO rfl rfl (by simp[aB]) (by simp[aB] at *;omega)) ?_;refine Rr ?_;refine aM (K2 _ _) ?_;rw[ec];refine Rr ?_;rw[d2];refine Rr ?_;exact .mk (out++[.mk x1 x2 x3 x4],l,(.mk y1 y2 y3 y4)::m) [(10,0)] ⟨by simpa using hm,by simp at *;omega,by simp at *;omega,hok'⟩ (aH _ rfl ⟨⟨10,_,rfl,rfl,.eq (aY _) (by rw[fB];rfl)⟩,trivial⟩ ⟨a9 (.il' (aY _)),a9 (.il' (aY _)),⟨_,rfl,.slE rfl (by simp)⟩,trivial⟩) (by first|(simp;done)|(simp;omega))
    ·have d1:decide (c<=0)=true:=by simp;omega
     have d2:decide (c≥0)=true:=by simp;omega
     rw[Mm om,Mr hcc] at hm;rw[d1];refine Rt ?_;refine aM (bO rfl rfl (by simp[aB]) (by simp[aB] at *;omega)) ?_;refine Rr ?_;refine aM (K2 _ _) ?_;rw[ec];refine Rr ?_;rw[d2];refine Rr ?_;refine aM (K2 _ _) ?_;rw[ec];refine Rr ?_;exact .mk (out++[.mk x1 x2 x3 x4],l,m) [(10,0)] ⟨by simpa using hm,by simp at *;omega,by simp at *;omega,hok'⟩ (aH _ rfl ⟨⟨10,_,rfl,rfl,.eq (aY _) (by rw[fB];rfl)⟩,trivial⟩ ⟨a9 (.il' (aY _)),a9 (.il' (aY _)),⟨_,rfl,.slE rfl (by simp)⟩,trivial⟩) (by first|(simp;done)|(simp;omega))
    ·have d1:decide (c<=0)=false:=by simp;omega
     have d2:decide (c≥0)=true:=by simp;omega
     rw[Mm om,Mm om] at hm;rw[d1];refine Rt ?_;refine aM (bO rfl rfl (by simp[aB]) (by simp[aB] at *;omega)) ?_;refine Rr ?_;rw[d2];refine Rr ?_;refine aM (K2 _ _) ?_;rw[ec];refine Rr ?_;exact .mk (out++[.mk y1 y2 y3 y4],(.mk x1 x2 x3 x4)::l,m) [(10,0)] ⟨by simpa using hm,by simp at *;omega,by simp at *;omega,hok⟩ (aH _ rfl ⟨⟨10,_,rfl,rfl,.eq (aY _) (by rw[fB];rfl)⟩,trivial⟩ ⟨a9 (.il' (aY _)),a9 (.il' (aY _)),⟨_,rfl,.slE rfl (by simp)⟩,trivial⟩) (by first|(simp;done)|(simp;omega))
end Go.Proofs.YtpajadlnaokngaaGreatDoor
namespace Go.Ax
open Go
mutual
theorem Bt:∀(a b:aT),bU a b=0->a=b
 | .mk k n s ks,.mk k' n' s' ks',h=>by
  simp only[bU,andThen] at h;split at h
  ·rename_i h1;split at h
   ·rename_i h2;split at h
    ·rename_i h3;have e1:k=k':=Decidable.byContradiction fun e=>o9 e h1
     have e2:n=n':=Decidable.byContradiction fun e=>o9 e h2
     rw[e1,e2,kF h3,Hj ks ks' h]
    ·rename_i h3;exact absurd h h3
   ·rename_i h2;exact absurd h h2
  ·rename_i h1;exact absurd h h1
theorem Hj:∀(l m:List aT),d7 l m=0->l=m
 | [],[],_=>rfl
 | [],_::_,h=>by simp[d7] at h
 | _::_,[],h=>by simp[d7] at h
 | a::l,b::m,h=>by
  simp only[d7,andThen] at h;split at h
  ·rename_i h1;rw[Bt a b h1,Hj l m h]
  ·rename_i h1;exact absurd h h1
end
theorem yB(a:aT):¬bU a a<0:=by rw[(mE a).refl];omega
theorem Ak:∀{a b:List aT},jT a->jT b->(∀x,x∈a↔x∈b)->a=b
 | [],[],_,_,_=>rfl
 | [],y::m,_,_,h=>by have:=(h y).2 (by simp);simp at this
 | x::l,[],_,_,h=>by have:=(h x).1 (by simp);simp at this
 | x::l,y::m,h1,h2,h=>by
  unfold jT at h1 h2;rw[ND] at h1 h2;have e:x=y:=by
   rcases Mj.1 ((h x).1 (by simp)) with e|e
   ·exact e
   ·rcases Mj.1 ((h y).2 (by simp)) with e'|e'
    ·exact e'.symm
    ·have a1:=h2.1 x e;have a2:=h1.1 y e';have:=Cs a1 (by omega:bU x y<=0);exact absurd this (yB y)
  subst e;congr 1;refine Ak h1.2 h2.2 fun z=>?_
  constructor
  ·intro hz;rcases Mj.1 ((h z).1 (by simp[hz])) with e|e
   ·subst e;exact absurd (h1.1 z hz) (yB z)
   ·exact e
  ·intro hz;rcases Mj.1 ((h z).2 (by simp[hz])) with e|e
   ·subst e;exact absurd (h2.1 z hz) (yB z)
   ·exact e
theorem Bd:∀(l:List aT) (v x:aT),x∈pV l v↔x=v∨x∈l
 | [],v,x=>by simp[pV,gA]
 | a::r,v,x=>by
  rw[AA];split
  ·split
   ·rename_i h;have e:=Bt a v (by simpa using h);subst e;constructor
    ·intro h;exact .inr h
    ·rintro(rfl|h)
     ·simp
     ·exact h
   ·simp
  ·simp only[Mj,Bd r v x];constructor
   ·rintro(h|h|h)
    ·exact .inr (.inl h)
    ·exact .inl h
    ·exact .inr (.inr h)
   ·rintro(h|h|h)
    ·exact .inr (.inl h)
    ·exact .inl h
    ·exact .inr (.inr h)
theorem tE(l:List aT)(x:aT):x∈dD l↔x∈l:=by
 refine eQ (P:=fun l=>x∈dD l↔x∈l) (by simp[dD]) (fun l a ih=>?_) l;rw[kV,Bd,ih];simp only[Mv,List.mem_singleton];constructor
 ·rintro(h|h)
  ·exact .inr h
  ·exact .inl h
 ·rintro(h|h)
  ·exact .inr h
  ·exact .inl h
theorem Av{l:List aT}(h:jT l):dD l=l:=Ak (pR l) h (tE l)
theorem kX(a b:List aT)(x:aT):x∈dF a b↔x∈a∨x∈b:=by
 fun_induction dF a b with
 | case1 b=>simp
 | case2 a h=>simp
 | case3 y l z m h ih=>simp only[Mj,ih];simp only[or_assoc]
 | case4 y l z m h1 h2 ih=>
  have:=Bt y z h2;subst this;simp only[Mj,ih];constructor
  ·rintro(h|h|h)
   ·exact .inl (.inl h)
   ·exact .inl (.inr h)
   ·exact .inr (.inr h)
  ·rintro((h|h)|(h|h))
   ·exact .inl h
   ·exact .inr (.inl h)
   ·exact .inl h
   ·exact .inr (.inr h)
 | case5 y l z m h1 h2 ih=>
  simp only[Mj,ih];constructor
  ·rintro(h|(h|h)|h)
   ·exact .inr (.inl h)
   ·exact .inl (.inl h)
   ·exact .inl (.inr h)
   ·exact .inr (.inr h)
  ·rintro((h|h)|(h|h))
   ·exact .inr (.inl (.inl h))
   ·exact .inr (.inl (.inr h))
   ·exact .inl h
   ·exact .inr (.inr h)
theorem wJ(a b:List aT):jT a->jT b->jT (dF a b):=by
 fun_induction dF a b with
 | case1 b=>intro _ h;exact h
 | case2 a h=>intro h _;exact h
 | case3 y l z m h ih=>
  intro h1 h2;unfold jT at h1 h2 ⊢;have h1':=ND.1 h1;have h2':=ND.1 h2;refine ND.2 ⟨fun x hx=>?_,ih h1'.2 h2⟩;rcases(kX _ _ _).1 hx with hx|hx
  ·exact h1'.1 x hx
  ·rcases Mj.1 hx with rfl|hx
   ·exact h
   ·have:=h2'.1 x hx;exact Cs h om
 | case4 y l z m hn he ih=>
  intro h1 h2;unfold jT at h1 h2 ⊢;have h1':=ND.1 h1;have h2':=ND.1 h2;have:=Bt y z he;subst this;refine ND.2 ⟨fun x hx=>?_,ih h1'.2 h2'.2⟩;rcases(kX _ _ _).1 hx with hx|hx
  ·exact h1'.1 x hx
  ·exact h2'.1 x hx
 | case5 y l z m hn he ih=>
  intro h1 h2;unfold jT at h1 h2 ⊢;have h1':=ND.1 h1;have h2':=ND.1 h2;have hzy:=Ew (a:=y) (b:=z) om;refine ND.2 ⟨fun x hx=>?_,ih h1 h2'.2⟩;rcases(kX _ _ _).1 hx with hx|hx
  ·rcases Mj.1 hx with rfl|hx
   ·exact hzy
   ·have:=h1'.1 x hx;exact Cs hzy om
  ·exact h2'.1 x hx
theorem Bx{a b:List aT}(h1:jT a)(h2:jT b):dF a b=dD (a++b):=
 Ak (wJ a b h1 h2) (pR _) fun x=>by rw[kX,tE,Mv]
theorem w8:∀(r l:List Nd),∃m,aJ (l++r)=aJ l++m
 | [],l=>⟨[],by simp⟩
 | x::r,l=>by
  obtain⟨m,hm⟩:=w8 r (l++[x]);refine⟨cM x (aJ l)::m, ?_⟩;have e:l++x::r=l++[x]++r:=by simp
  rw[e,hm,f0];simp
theorem JX{a b:List fK}{k:Int}(h0:0<=k)(h:k<a.length):cP (a++b) k=cP a k:=by
 unfold cP;rw[Mk,Mk,M6 om]
theorem gP{ns:List Nd}{n:Nat}{k:Int}(h0:0<=k)(h:k<n)(hn:n<=ns.length):cP (aJ (ns.take n)) k=cP (aJ ns) k:=by
 obtain⟨m,hm⟩:=w8 (ns.drop n) (ns.take n);rw[List.take_append_drop] at hm;rw[hm,JX h0 (by rw[dP,N4];omega)]
theorem xE{b1 b2:List fK}{l:List Int}(h:∀k∈l,cP b1 k=cP b2 k):jZ b1 l=jZ b2 l:=by
 have:∀(l:List Int) (a:List aT × Bool),(∀k∈l,cP b1 k=cP b2 k)->l.foldl (bF b1) a=l.foldl (bF b2) a:=by
  intro l
  induction l with
  | nil=>intro a _;rfl
  | cons k r ih=>
   intro a h;simp only[NG];have e:bF b1 a k=bF b2 a k:=by unfold bF;rw[h k (by simp)]
   rw[e];exact ih _ fun q hq=>h q (by simp[hq])
 unfold jZ;rw[this l _ h]
theorem uF{b1 b2:List fK}:∀(l:List Int) (rows:List (List aT)),(∀k∈l,cP b1 k=cP b2 k)->eE b1 l rows=eE b2 l rows
 | [],rows,_=>rfl
 | k::r,rows,h=>by
  simp only[eE,h k (by simp)];split
  ·rfl
  ·exact uF r _ fun q hq=>h q (by simp[hq])
theorem uI{b1 b2:List fK}{x:Nd}(h:∀k∈x.kids,cP b1 k=cP b2 k):cM x b1=cM x b2:=by
 unfold cM;split
 ·rfl
 ·split
  ·rfl
  ·split
   ·unfold mF;rw[uF x.kids _ h]
   ·split
    ·exact xE fun k hk=>h k (Nn hk)
    ·exact xE h
theorem wY{ns:List Nd}(hg:∀(j:Nat) (x:Nd),ns[j]? = some x->gW j x){i:Nat}{x:Nd}(hx:ns[i]? = some x):cP (aJ ns) i=cM x (aJ ns):=by
 obtain⟨hi,he⟩:=Mi.1 hx;have e1:cP (aJ (ns.take (i+1))) i=cP (aJ ns) i:=gP om om om;rw[←e1,Mn hi,f0,he];rw[(BU (b:=cM x (aJ (ns.take i))) (show (0:Int)<=i by omega)).2 (by rw[dP,N4];omega)];refine uI fun k hk=>?_
 obtain⟨j,hj⟩:=M9 hk;obtain⟨h0,h1⟩:=(hg i x hx).kids j k hj;exact gP h0 h1 om
theorem tN:∀{a b:List aT} {x y:aT},a.length=b.length->d7 (a++[x]) (b++[y])=andThen (d7 a b) (bU x y)
 | [],[],x,y,_=>by
  simp only[NM,d7,andThen];split
  ·rename_i h;rw[h];rfl
  ·rfl
 | [],_::_,_,_,h=>by simp at h
 | _::_,[],_,_,h=>by simp at h
 | a::l,b::m,x,y,h=>by
  simp only[NO,d7];rw[tN (by simpa using h)];unfold andThen;repeat' split
  all_goals first|rfl|omega
def Gc(n:Nat)(rows:List (List aT)):Prop:=(∀r∈rows,r.length=n)/\rows.Pairwise fun a b=>d7 a b<0
theorem GU{n:Nat}{rows:List (List aT)}{l:List aT}(h:Gc n rows)(hl:jT l):Gc (n+1) (eY rows l):=by
 obtain⟨h1,h2⟩:=h;refine⟨fun r hr=>?_, ?_⟩
 ·obtain⟨r',h3,v,_,rfl⟩:=pD hr;simp[h1 r' h3]
 ·unfold eY
  induction rows with
  | nil=>simp
  | cons a rs ih=>
   rw[ND] at h2;rw[OV,List.pairwise_append];refine⟨?_,ih (fun r hr=>h1 r (by simp[hr])) h2.2, ?_⟩
   ·rw[Oo];refine hl.imp fun {x y} hxy=>?_
    rw[tN rfl,(tQ a).refl];simpa[andThen] using hxy
   ·intro p hp q hq;obtain⟨v,_,rfl⟩:=Mz.1 hp;obtain⟨r',h3,u,_,rfl⟩:=pD (rows:=rs) (l:=l) hq;have:=h2.1 r' h3;rw[tN (by rw[h1 a (by simp),h1 r' (by simp[h3])])];unfold andThen;split
    ·omega
    ·exact this
theorem zI{bs:List fK}(hb:∀b∈bs,jT b.vals):∀(kids:List Int) (n:Nat) (rows out:List (List aT)),Gc n rows->eE bs kids rows=some out->Gc (n+kids.length) out
 | [],n,rows,out,h,h2=>by
  simp only[eE] at h2;cases h2;exact h
 | k::ks,n,rows,out,h,h2=>by
  simp only[eE] at h2;split at h2
  ·cases h2
  ·have hs:jT (cP bs k).vals:=by
    unfold cP;rw[Mk];cases e:bs[k.toNat]? with
    | none=>simp[jT]
    | some b=>exact hb b (My e)
   have:=zI hb ks (n+1) _ out (GU h hs) h2;simp only[Ni];rw[show n+(ks.length+1)=n+1+ks.length by omega];exact this
theorem Gw(name:List UInt8)(a b:List aT):bU (dQ name a) (dQ name b)=d7 a b:=by
 unfold dQ;split<;>simp[bU,(g9 _).refl,(lY _).refl,andThen]
theorem IA{n:Nat}{rows:List (List aT)}(name:List UInt8)(h:Gc n rows):jT (rows.map (dQ name)):=by
 unfold jT;rw[Oo];exact h.2.imp fun {a b} h=>by rw[Gw];exact h
theorem GG(lo hi:Int):jT (fP lo hi):=by
 unfold jT fP;rw[Oo];refine List.pairwise_lt_range.imp fun {i j} h=>?_
 rw[Ga rfl om];rw[Mr om];omega
theorem Fu{x:Nd}{bs:List fK}:jT (cM x bs).vals:=by
 unfold cM;split
 ·simp[jT]
 ·split
  ·split
   ·simp[jT]
   ·exact GG _ _
  ·split
   ·unfold mF;split
    ·simp[jT]
    ·exact pR _
   ·generalize (if x.kind=4 then x.kids.drop 1 else x.kids)=ks;unfold jZ;split
    ·simp[jT]
    ·have:∀(l:List Int) (a:List aT × Bool),jT a.1->jT (l.foldl (bF bs) a).1:=by
      intro l
      induction l with
      | nil=>intro a h;exact h
      | cons k r ih=>intro a _;exact ih _ (pR _)
     exact this _ _ (by simp[jT])
theorem yG(ns:List Nd):∀b∈aJ ns,jT b.vals:=by
 refine eQ (P:=fun ns=>∀b∈aJ ns,jT b.vals) (by simp[aJ]) (fun l x ih=>?_) ns;rw[f0];intro b hb;rcases Mv.1 hb with hb|hb
 ·exact ih b hb
 ·simp at hb;rw[hb];exact Fu
theorem JM{bs:List fK}(hb:∀b∈bs,jT b.vals)(k:Int):jT (cP bs k).vals:=by
 unfold cP;rw[Mk];cases h:bs[k.toNat]? with
 | none=>simp[jT]
 | some b=>exact hb b (My h)
theorem Fm{bs:List fK}(hb:∀b∈bs,jT b.vals){x:Nd}{rows:List (List aT)}(h:eE bs x.kids [[]]=some rows):mF bs x=⟨rows.map (dQ x.name),false⟩:=by
 unfold mF;rw[h];simp only;rw[Av (IA _ (zI hb x.kids 0 [[]] rows ⟨by simp,by simp⟩ h))]
def rowAt:List (List aT)->Nat->List aT
 | [],_=>[]
 | l::r,k=>rowAt r (k/l.length)++(l[k%l.length]?).toList
def mC:List (List aT)->List (List aT)
 | []=>[[]]
 | l::r=>eY (mC r) l
def gE:List (List aT)->Nat
 | []=>1
 | l::r=>gE r*l.length
theorem tL:∀ls:List (List aT),(mC ls).length=gE ls
 | []=>rfl
 | l::r=>by rw[mC,pM,gE,tL r]
theorem zZ(l:List aT):∀(rows:List (List aT)) (k:Nat) (a:List aT) (v:aT),rows[k/l.length]? = some a->l[k%l.length]? = some v->(eY rows l)[k]? = some (a++[v])
 | [],k,a,v,h,_=>by simp at h
 | r::rs,k,a,v,h,hv=>by
  have hpos:0<l.length:=by
   rcases M5 l.length with h0|h0
   ·have:l=[]:=Nb.1 h0;subst this;simp at hv
   ·exact h0
  unfold eY;rw[OV];rcases Mq k l.length with hk|hk
  ·rw[M6 (by simpa using hk)];rw[Nat.div_eq_of_lt hk] at h;rw[Oc hk] at hv;simp at h;subst h;simp[hv]
  ·rw[NC (by simpa using hk),Ny];have e1:k/l.length=(k-l.length)/l.length+1:=by
    conv=>lhs;rw[show k=(k-l.length)+l.length by omega]
    exact Nat.add_div_right _ hpos
   have e2:k%l.length=(k-l.length)%l.length:=(Nat.mod_eq_sub_mod hk)
   rw[e1] at h;rw[e2] at hv;exact zZ l rs (k-l.length) a v (by simpa using h) hv
theorem zH:∀(ls:List (List aT)) (k:Nat),k<gE ls->(mC ls)[k]? = some (rowAt ls k)
 | [],k,h=>by
  simp[gE] at h;subst h;rfl
 | l::r,k,h=>by
  simp only[gE] at h;have hpos:0<l.length:=by
   rcases M5 l.length with h0|h0
   ·rw[h0] at h;simp at h
   ·exact h0
  have h1:k/l.length<gE r:=Nat.div_lt_of_lt_mul (by rw[Nat.mul_comm];exact h);have h2:=O0 k hpos;have e:=Mf h2;rw[mC,rowAt,e];exact zZ l _ k _ _ (zH r _ h1) e
theorem z8{bs:List fK}:∀(kids:List Int) (ls:List (List aT)),gE ls<=1024 ->
  eE bs kids (mC ls)=if (kids.foldl (fun(a:Nat × Bool) k=>(a.1*(cP bs k).vals.length,a.2 || (cP bs k).many || decide (1024<a.1*(cP bs k).vals.length))) (gE ls,false)).2 then none
   else some (mC (kids.reverse.map (fun k=>(cP bs k).vals)++ls))
 | [],ls,h=>by simp[eE]
 | k::r,ls,h=>by
  have stay:∀(l:List Int) (n:Nat),(l.foldl (fun(a:Nat × Bool) k=>(a.1*(cP bs k).vals.length,a.2 || (cP bs k).many || decide (1024<a.1*(cP bs k).vals.length))) (n,true)).2=true:=by
   intro l
   induction l with
   | nil=>intro n;rfl
   | cons q l ih=>intro n;simp only[NG,Bool.true_or];exact ih _
  simp only[eE,NG,tL,Of];by_cases hc:(cP bs k).many=true∨1024<gE ls*(cP bs k).vals.length
  ·have e:((cP bs k).many || decide (1024<gE ls*(cP bs k).vals.length))=true:=by simpa using hc
   rw[Mr hc,e,Mr (stay _ _)]
  ·have e:((cP bs k).many || decide (1024<gE ls*(cP bs k).vals.length))=false:=by
    rw[not_or] at hc;simp at hc ⊢;exact hc
   rw[Mm hc,e];rw[not_or] at hc;have:=z8 (bs:=bs) r ((cP bs k).vals::ls) (by simp only[gE];omega);simp only[mC,gE] at this;rw[this];simp[List.append_assoc]
theorem vW{bs:List fK}:∀(l:List Int) (a:List aT × Bool),a.2=true->(l.foldl (bF bs) a).2=true
 | [],_,h=>h
 | k::r,a,h=>vW r _ (by simp[bF,h])
theorem rL{l:List aT}(h:l≠[]):dD l≠[]:=by
 cases l with
 | nil=>exact absurd rfl h
 | cons a r=>exact List.ne_nil_of_mem ((tE (a::r) a).2 (by simp))
theorem BP{bs:List fK}:∀(l:List Int) (a:List aT × Bool),a.1≠[]->(l.foldl (bF bs) a).1≠[]
 | [],_,h=>h
 | k::r,a,h=>BP r _ (rL (by simp[h]))
theorem J1{bs:List fK}{l:List Int}(hl:l≠[])(h:∀k∈l,(cP bs k).many=false->(cP bs k).vals≠[])(hm:(jZ bs l).many=false):(jZ bs l).vals≠[]:=by
 unfold jZ at hm ⊢;split at hm
 ·simp at hm
 ·rename_i hf;rw[Mm hf];simp only;cases l with
  | nil=>exact absurd rfl hl
  | cons k r=>
   simp only[NG] at hf ⊢;have hk:(bF bs ([],false) k).2=false:=by
    cases e:(bF bs ([],false) k).2 with
    | false=>rfl
    | true=>exact absurd (vW r _ e) hf
   refine BP r _ (rL ?_);simp only[bF,Of,Oi] at hk;simp only[NM];exact h k (by simp) hk.1
theorem FA{bs:List fK}:∀(kids:List Int) (rows out:List (List aT)),rows≠[]->(∀k∈kids,(cP bs k).many=false->(cP bs k).vals≠[])->eE bs kids rows=some out->out≠[]
 | [],rows,out,h,_,h2=>by
  simp only[eE] at h2;cases h2;exact h
 | k::ks,rows,out,h,hk,h2=>by
  simp only[eE] at h2;split at h2
  ·cases h2
  ·rename_i hc;rw[not_or] at hc;refine FA ks _ out ?_ (fun q hq=>hk q (by simp[hq])) h2;have hv:=hk k (by simp) (by simpa using hc.1);have:=pM (cP bs k).vals rows;intro e;rw[e] at this;have a:=NX.2 h;have b:=NX.2 hv;have:=Og a b;simp at *;omega
theorem kJ(ns:List Nd)(h:bM [] ns=0):∀(j:Nat) (x:Nd),ns[j]? = some x->e6 (ns.take j) (bX (ns.take j)) (bT (ns.take j)) x=0:=by
 intro j x hx;obtain⟨hj,he⟩:=Mi.1 hx;have e:ns=ns.take j++x::ns.drop (j+1):=by
  rw[←he];simp
 have h1:bM [] (ns.take j)=0:=by
  rw[e] at h;exact fV h
 have h2:bM [] (ns.take j++[x])=0:=by
  have e2:ns=(ns.take j++[x])++ns.drop (j+1):=by simpa using e
  rw[e2] at h;exact fV h
 rw[eG [] _ x h1] at h2;simpa using h2
theorem jY{i:Int}{x:Nd}(h:cK i x=true):(x.kind=2->1<=x.kids.length)/\(x.kind=4->x.kids.length=x.values.length+1):=by
 unfold cK at h;simp only[Mg,Na,M4] at h;obtain⟨⟨⟨⟨_,h2⟩,_⟩,h4⟩,_⟩:=h;exact⟨fun e=>by rcases h2 with h2|h2<;>omega,fun e=>om⟩
theorem iG{i:Int}{x:Nd}(h:d8 i x=0):cK i x=true:=by
 unfold d8 at h;split at h
 ·omega
 ·rename_i hf;simpa using hf
theorem Bo(ns:List Nd)(ho:∀x∈ns,oH x)(h:bM [] ns=0):∀(n:Nat) (k:Nat),k<=n->k<ns.length->(cP (aJ ns) k).many=false->(cP (aJ ns) k).vals≠[]:=by
 have hg:=i7 ns ho h;intro n
 induction n with
 | zero=>
  intro k hk hlt hm;have hx:=Mf hlt;have hG:=hg k _ hx;have hst:=kJ ns h k _ hx;obtain⟨h1,_,_,h4⟩:=eJ hst;have hlen:(ns.take k).length=k:=by simp;omega
  rw[hlen] at h1;have hfp:=jY (iG h1);have hk0:(ns[k]).kids=[]:=by
   cases e:(ns[k]).kids with
   | nil=>rfl
   | cons q r=>have:=hG.kids 0 q (by rw[e];rfl);omega
  rw[wY hg hx] at hm ⊢;have hnum:=eR hG.num;rw[hk0] at hfp;simp at hfp;unfold cM at hm ⊢;split
  ·simp
  ·split
   ·split
    ·rename_i e;rw[Mm (by assumption),Mr (by assumption),Mr e] at hm;simp at hm
    ·simp only[fP];intro e;have:=congrArg List.length e;simp at this;omega
   ·split
    ·unfold mF;rw[hk0];simp[eE,rL]
    ·have:=hG.kind;omega
 | succ n ih=>
  intro k hk hlt hm;have hx:=Mf hlt;have hG:=hg k _ hx;have hst:=kJ ns h k _ hx;obtain⟨h1,_,_,h4⟩:=eJ hst;have hlen:(ns.take k).length=k:=by simp;omega
  rw[hlen] at h1;have hfp:=jY (iG h1);rw[wY hg hx] at hm ⊢;have hnum:=eR hG.num;have hkid:∀q∈(ns[k]).kids,(cP (aJ ns) q).many=false->(cP (aJ ns) q).vals≠[]:=fun q hq=>by
   obtain⟨j,hj⟩:=M9 hq;obtain⟨q0,q1⟩:=hG.kids j q hj;obtain⟨q,rfl⟩:=Mx q0;exact ih q om om
  unfold cM at hm ⊢;split
  ·simp
  ·split
   ·split
    ·rename_i e;rw[Mm (by assumption),Mr (by assumption),Mr e] at hm;simp at hm
    ·simp only[fP];intro e;have:=congrArg List.length e;simp at this;omega
   ·split
    ·rename_i e0 e1 e3;rw[Mm e0,Mm e1,Mr e3] at hm;unfold mF at hm ⊢;split
     ·rename_i e;rw[e] at hm;simp at hm
     ·rename_i rows e;have:=FA _ _ _ (by simp) hkid e;exact rL (by simpa using this)
    ·rename_i e0 e1 e3;rw[Mm e0,Mm e1,Mm e3] at hm;refine J1 ?_ (fun q hq=>hkid q ?_) hm
     ·split
      ·rename_i e4;have hb:=h4 e4;have hkl:=hfp.2 e4;unfold fO at hb;simp only at hb;split at hb
       ·omega
       ·rename_i hmany;split at hb
        ·rename_i hs;have hsl:=jB hs;have hq:=hG.kids 0 ((ns[k]).kids.getD 0 0) (by
          rw[Mk];have:0<(ns[k]).kids.length:=om;rw[Mf this];rfl)
         obtain⟨q,hqe⟩:=Mx hq.1;rw[hqe] at hsl hmany hq;simp only[Mo] at hsl hmany;rw[OW,show min (q+1) k=q+1 by omega,gP om om om] at hsl hmany;have:=ih q om om (by simpa using hmany);have:=NX.2 this;intro e;have:=congrArg List.length e;simp at this;omega
        ·omega
      ·have:=hG.kind;have:=hfp.1 om;exact List.ne_nil_of_length_pos om
     ·split at hq
      ·exact Nn hq
      ·exact hq
def sC(ss:List Int)(x:Nd):Int:=
 if x.kind=0 then aU x.value else if x.kind=1 then 1 else if x.kind=3 then 1+eU ss x.kids else max 1 (bZ ss (fT x))
theorem E0{ss:List Int}{x:Nd}:sC ss x<=1024↔iH ss x<=1024:=by
 unfold sC iH;split
 ·rfl
 ·split
  ·rfl
  ·split
   ·rfl
   ·omega
theorem BA{ns:List Nd}(ho:∀x∈ns,oH x)(h:bM [] ns=0){x:Nd}(hk:x.kind=2∨x.kind=4)(hs:e6 ns (bX ns) (bT ns) x=0):∃q∈fT x,0<=q/\q<ns.length:=by
 obtain⟨h1,_,_,h4⟩:=eJ hs;have hfp:=jY (iG h1);have hn:=i8 h1;have mem:∀q∈x.kids,0<=q/\q<ns.length:=fun q hq=>by
  obtain⟨j,hj⟩:=M9 hq;exact hn.kids j q hj
 rcases hk with e|e
 ·unfold fT;rw[Mr e];cases hc:x.kids with
  | nil=>have:=hfp.1 e;rw[hc] at this;simp at this
  | cons q r=>exact⟨q,by simp,mem q (by rw[hc];simp)⟩
 ·unfold fT;rw[Mm om];have hb:=h4 e;have hkl:=hfp.2 e;have:1<=x.values.length:=by
   unfold fO at hb;simp only at hb;split at hb
   ·omega
   ·rename_i hmany;split at hb
    ·rename_i hs;have hsl:=jB hs;have hlt:0<x.kids.length:=om;have hq:=mem (x.kids.getD 0 0) (by rw[Mk,Mf hlt];exact NL hlt);obtain⟨q,hqe⟩:=Mx hq.1;rw[hqe] at hsl hmany hq;simp only[Mo] at hsl hmany;rw[gP om om om] at hsl hmany;have:=Bo ns ho h q q om om (by simpa using hmany);have:=NX.2 this;omega
    ·omega
  have hlt:1<x.kids.length:=om;refine⟨x.kids[1], ?_,mem _ (NL hlt)⟩;refine My (i:=0) ?_;rw[NI];exact Mf hlt
theorem CJ(ns:List Nd)(ho:∀x∈ns,oH x)(h:bM [] ns=0):∀y∈bT ns,1<=y:=by
 refine eQ (P:=fun ns=>(∀x∈ns,oH x)->bM [] ns=0->∀y∈bT ns,1<=y) (fun _ _=>by simp[bT]) (fun l x ih ho h=>?_) ns ho h;have h1:=fV h;have hol:∀y∈l,oH y:=fun y hy=>ho y (M3 _ hy)
 have ih:=ih hol h1;have hs:=eG [] l x h1;rw[h] at hs;simp only[NM] at hs;rw[iS];intro y hy;rcases Mv.1 hy with hy|hy
 ·exact ih y hy
 ·simp at hy;subst hy;have hb:=mW l h1;have hk:=(i8 (eJ hs.symm).1).kind;unfold iH;split
  ·have:=zP x.value;omega
  ·split
   ·omega
   ·split
    ·have:=(fU om hb.2 x.kids).1;omega
    ·obtain⟨q,hq,q0,q1⟩:=BA hol h1 om hs.symm;have:=(sB (ss:=bT l) (fT x) 0 q hq).1;have h2:1<=eB (bT l) q:=by
      unfold eB;have hlt:q.toNat<(bT l).length:=by rw[iC];omega
      rw[Mk,Mf hlt];exact ih _ (NL hlt)
     unfold bZ;omega
theorem JZ{ns:List Nd}(ho:∀x∈ns,oH x)(h:bM [] ns=0){x:Nd}(hs:e6 ns (bX ns) (bT ns) x=0):sC (bT ns) x=iH (bT ns) x:=by
 have hk:=(i8 (eJ hs).1).kind;unfold sC iH;split
 ·rfl
 ·split
  ·rfl
  ·split
   ·rfl
   ·obtain⟨q,hq,q0,q1⟩:=BA ho h om hs;have:=(sB (ss:=bT ns) (fT x) 0 q hq).1;have h2:1<=eB (bT ns) q:=by
     unfold eB;have hlt:q.toNat<(bT ns).length:=by rw[iC];omega
     rw[Mk,Mf hlt];exact CJ ns ho h _ (NL hlt)
    unfold bZ at *;omega
theorem FU{a b:List Int}{k:Int}(h0:0<=k)(h:k<a.length):eB (a++b) k=eB a k:=by
 unfold eB;rw[Mk,Mk,M6 om]
theorem xX{a b:List Int}{l:List Int}(h:∀k∈l,eB a k=eB b k):eU a l=eU b l:=by
 unfold eU;have:∀(l:List Int) (s:Int),(∀k∈l,eB a k=eB b k)->l.foldl (fun s k=>s+eB a k) s=l.foldl (fun s k=>s+eB b k) s:=by
  intro l
  induction l with
  | nil=>intro s _;rfl
  | cons k r ih=>intro s h;simp only[NG];rw[h k (by simp)];exact ih _ fun q hq=>h q (by simp[hq])
 exact this l 0 h
theorem oF{a b:List Int}{l:List Int}(h:∀k∈l,eB a k=eB b k):bZ a l=bZ b l:=by
 unfold bZ;have:∀(l:List Int) (s:Int),(∀k∈l,eB a k=eB b k)->l.foldl (fun s k=>max s (eB a k)) s=l.foldl (fun s k=>max s (eB b k)) s:=by
  intro l
  induction l with
  | nil=>intro s _;rfl
  | cons k r ih=>intro s h;simp only[NG];rw[h k (by simp)];exact ih _ fun q hq=>h q (by simp[hq])
 exact this l 0 h
theorem wH{x:Nd}{q:Int}(h:q∈fT x):q∈x.kids:=by
 unfold fT at h;split at h
 ·exact h
 ·exact Nn h
theorem wM{a b:List Int}{x:Nd}(h:∀k∈x.kids,eB a k=eB b k)(h4:x.kind=4->0<x.kids.length)(hk:0<=x.kind/\x.kind<=4):f9 a x=f9 b x:=by
 unfold f9;split
 ·rfl
 ·split
  ·rfl
  ·split
   ·exact xX h
   ·split
    ·rw[oF fun q hq=>h q (wH hq)]
    ·have:0<x.kids.length:=h4 om;rw[oF fun q hq=>h q (wH hq),h (x.kids.getD 0 0) (by rw[Mk,Mf this];exact NL this)]
theorem DD{a b:List Int}{x:Nd}(h:∀k∈x.kids,eB a k=eB b k):sC a x=sC b x:=by
 unfold sC;rw[xX h,oF fun q hq=>h q (wH hq)]
end Go.Ax
namespace Go.Ax
open Go
structure e8(ns:List Nd)(n:Nat):Prop where
 hn:n<=ns.length
 len:ns.length<=4096
 ok:∀x∈ns,oH x
 val:bM [] (ns.take n)=0
variable {ns:List Nd} {n:Nat}
theorem e8.okT(h:e8 ns n):∀x∈ns.take n,oH x:=fun x hx=>h.ok x (Nf hx)
theorem e8.goodT(h:e8 ns n):∀(j:Nat) (x:Nd),(ns.take n)[j]? = some x->gW j x:=i7 _ h.okT h.val
theorem yI{i:Nat}{x:Nd}(hi:i<n)(hx:ns[i]? = some x):(ns.take n)[i]? = some x:=by rw[NA,Mr hi];exact hx
theorem e8.node(h:e8 ns n){i:Nat}{x:Nd}(hi:i<n)(hx:ns[i]? = some x):gW i x:=h.goodT i x (yI hi hx)
theorem e8.atE(h:e8 ns n){k:Int}(h0:0<=k)(h1:k<n):cP (aJ (ns.take n)) k=cP (aJ ns) k:=gP h0 h1 h.hn
theorem e8.vals(h:e8 ns n){k:Int}(h0:0<=k)(h1:k<n):(cP (aJ ns) k).vals.length<=1024/\∀v∈(cP (aJ ns) k).vals,gC v:=by
 rw[←h.atE h0 h1];exact oE (jF _ h.goodT) k
theorem e8.at(h:e8 ns n){i:Nat}{x:Nd}(hi:i<n)(hx:ns[i]? = some x):cP (aJ ns) i=cM x (aJ ns):=by
 rw[←h.atE om om,wY h.goodT (yI hi hx)];refine uI fun k hk=>?_
 obtain⟨j,hj⟩:=M9 hk;obtain⟨h0,h1⟩:=(h.node hi hx).kids j k hj;exact h.atE h0 om
theorem L5(ns:List Nd)(k:Int):jT (cP (aJ ns) k).vals:=JM (yG ns) k
theorem e8.ne(h:e8 ns n){k:Int}(h0:0<=k)(h1:k<n)(hm:(cP (aJ ns) k).many=false):(cP (aJ ns) k).vals≠[]:=by
 rw[←h.atE h0 h1] at hm ⊢;obtain⟨k,rfl⟩:=Mx h0;exact Bo _ h.okT h.val k k (Mp _) (by rw[N4];have:=h.hn;omega) hm
theorem e8.step(h:e8 ns n){i:Nat}{x:Nd}(hi:i<n)(hx:ns[i]? = some x):e6 (ns.take i) (bX (ns.take i)) (bT (ns.take i)) x=0:=by
 have:=kJ _ h.val i x (yI hi hx)
 rwa [OW,OE om] at this
theorem e8.nodeOK(h:e8 ns n){i:Nat}{x:Nd}(hi:i<n)(hx:ns[i]? = some x):A4 i x:=by
 have:=i8 (eJ (h.step hi hx)).1
 rwa [N4,OE (by have:=h.hn;omega)] at this
theorem J0{bs:List fK}{kids:List Int}{j:Nat}{k:Int}{a:List aT × Bool}(hk:kids[j]? = some k)(h:(kids.take j).foldl (bF bs) ([],false)=a) :
  (kids.take (j+1)).foldl (bF bs) ([],false)=bF bs a k:=by
 obtain⟨hj,he⟩:=Mi.1 hk;rw[Mn hj,Nk,h,he];rfl
theorem Eg{bs:List fK}{kids:List Int}{j:Nat}(h:((kids.take j).foldl (bF bs) ([],false)).2=true):jZ bs kids=⟨[],true⟩:=by
 have e:(kids.foldl (bF bs) ([],false)).2=true:=by
  conv=>lhs;rw[←List.take_append_drop j kids,Nk]
  exact vW _ _ h
 unfold jZ;rw[Mr e]
theorem HO{bs:List fK}{kids:List Int}{out:List aT}(h:kids.foldl (bF bs) ([],false)=(out,false)):jZ bs kids=⟨out,false⟩:=by
 unfold jZ;rw[h];rfl
def eO(bs:List fK)(a:Nat × Bool)(k:Int):Nat × Bool:=(a.1*(cP bs k).vals.length,a.2 || (cP bs k).many || decide (1024<a.1*(cP bs k).vals.length))
theorem CN{bs:List fK}:∀(l:List Int) (a:Nat × Bool),a.2=true->(l.foldl (eO bs) a).2=true
 | [],_,h=>h
 | k::r,a,h=>CN r _ (by simp[eO,h])
theorem CI{bs:List fK}(kids:List Int):eE bs kids [[]]=if (kids.foldl (eO bs) (1,false)).2=true then none else some (mC (kids.map fun k=>(cP bs k).vals).reverse):=by
 have:=z8 (bs:=bs) kids [] (by simp[gE]);simp only[mC,gE,N9] at this;rw[this,List.map_reverse];rfl
theorem KN{bs:List fK}{kids:List Int}{j:Nat}{k:Int}{a:Nat × Bool}(hk:kids[j]? = some k)(h:(kids.take j).foldl (eO bs) (1,false)=a) :
  (kids.take (j+1)).foldl (eO bs) (1,false)=eO bs a k:=by
 obtain⟨hj,he⟩:=Mi.1 hk;rw[Mn hj,Nk,h,he];rfl
theorem JN{bs:List fK}{x:Nd}{j:Nat}(h:((x.kids.take j).foldl (eO bs) (1,false)).2=true):mF bs x=⟨[],true⟩:=by
 have e:(x.kids.foldl (eO bs) (1,false)).2=true:=by
  conv=>lhs;rw[←List.take_append_drop j x.kids,Nk]
  exact CN _ _ h
 unfold mF;rw[CI,Mr e]
theorem Hp{bs:List fK}:∀(kids:List Int) (a:Nat × Bool),(kids.foldl (eO bs) a).1=a.1*gE (kids.map fun k=>(cP bs k).vals).reverse:=by
 intro kids;refine eQ (P:=fun kids=>∀a:Nat × Bool,(kids.foldl (eO bs) a).1=a.1*gE (kids.map fun k=>(cP bs k).vals).reverse) (fun a=>by simp[gE]) (fun l x ih a=>?_) kids;rw[Nk,OF,List.reverse_append];simp only[NG,List.foldl_nil,NW,List.map_nil,List.reverse_singleton,List.singleton_append,gE];rw[eO,ih a,Nat.mul_assoc]
theorem HW{bs:List fK}(hb:∀b∈bs,jT b.vals){x:Nd}{t:Nat}(h:x.kids.foldl (eO bs) (1,false)=(t,false)) :
  mF bs x=⟨(mC (x.kids.map fun k=>(cP bs k).vals).reverse).map (dQ x.name),false⟩/\t=gE (x.kids.map fun k=>(cP bs k).vals).reverse:=by
 have hr:eE bs x.kids [[]]=some (mC (x.kids.map fun k=>(cP bs k).vals).reverse):=by
  rw[CI,h];rfl
 refine⟨Fm hb hr, ?_⟩;have:=Hp (bs:=bs) x.kids (1,false);rw[h] at this;simpa using this
theorem D8{ls:List (List aT)}{q kk:Nat}{l:List aT}{v:aT}(hl:ls[q]? = some l)(hv:l[kk%l.length]? = some v) :
  rowAt (ls.take (q+1)).reverse kk=rowAt (ls.take q).reverse (kk/l.length)++[v]:=by
 obtain⟨h1,h2⟩:=Mi.1 hl;rw[Mn h1,List.reverse_append,h2];simp only[List.reverse_singleton,List.singleton_append,rowAt,hv];rfl
end Go.Ax
