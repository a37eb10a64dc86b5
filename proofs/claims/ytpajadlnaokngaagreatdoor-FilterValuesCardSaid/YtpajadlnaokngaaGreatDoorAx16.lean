/- A part of the proof. -/
import Derived.Test.YtpajadlnaokngaaGreatDoorAx15
set_option linter.unusedVariables false
set_option linter.unusedSimpArgs false
set_option linter.unusedSectionVars false
namespace Go.Proofs.YtpajadlnaokngaaGreatDoor
open Go Go.Ax Go.Proofs Tryz
set_option maxRecDepth 100000
set_option maxHeartbeats 8000000
theorem bP{a b:Bool}(h1:a=true)(h2:b=true):(a && b)=true:=by rw[h1,h2];rfl
theorem uA{n:Nat}{s m:Int}(hn:Nat.ble n 100=true)(hs:0<=s)(h:100*s<=m):decide ((n:Int)*s<=m)=true:=by
 have hn:=Qu hn;have:(n:Int)*s<=100*s:=Int.mul_le_mul_of_nonneg_right om hs;simp;omega
theorem MA(a b:List aU)(ha:a.length<=1000000)(hb:b.length<=1000000)(hok:∀v∈a,fY v) :
  a7 prog [] 213 [.il 4 (aL a),.il 4 (aL b)] (.il 4 (aL (c7 a b))):=by
 refine aO bD func213 rfl ?_;cases a with
 | nil=>
  rw[BP];refine Rr ?_;exact aB (.il' (aR _)) ⟨rfl,rfl,rfl⟩
 | cons x l=>
  have d0:(((aL (x::l)).length:Int) == 0)=false:=by rw[aA,beq_eq_false_iff_ne];simp;omega
  obtain⟨a,hae⟩:∃a,a=x::l:=⟨_,rfl⟩
  rw[←hae] at d0 ha hok ⊢;clear hae;refine Rr ?_;rw[d0];have hw:IntKind.i64.wrap (((aL a).length:Int)+((aL b).length:Int))=((aL a).length:Int)+((aL b).length:Int):=fH ⟨om,by rw[aA,aA];omega⟩;have hal:(aL a).length<=1000000:=by rw[aA];exact ha
  have hbl:(aL b).length<=1000000:=by rw[aA];exact hb
  refine Rr ?_;rw[hw];refine aK (bP rfl (bP rfl (bP rfl (bP rfl (bP (RE om) (bP (uA rfl om om) (RE om))))))) ?_;refine Rr ?_;refine aZ.at bD (fun p:List aU × List aU × List aU=>c7 a b=p.1++c7 p.2.1 p.2.2/\p.1.length<=2000000-p.2.1.length-p.2.2.length/\p.2.1.length+p.2.2.length<=2000000/\∀v∈p.2.1,fY v)
   (fun p=>⟨[(0,.il 4 (aL p.2.1)),(1,.il 4 (aL p.2.2)),(5,.sl 0 0 p.1.length)],[(0,.row 57 4 (aL p.1))],1,57⟩) (fun p=>p.2.1.length+p.2.2.length) ([],a,b) [(0,0)] ⟨by simp,by simp,by simp only;omega,hok⟩
   (aI _ rfl ⟨aJ 0 .nil,trivial⟩ ⟨a5 (.il' (aR _)),a5 (.il' (aR _)),⟨_,rfl,.sl 0 0 0 _ rfl⟩,trivial⟩) ?_
  clear hok hw hal hbl d0 ha hb;rintro⟨out,a',b'⟩ ⟨hm,hlen,hle,hok⟩;simp only at hm hlen hle hok ⊢;have eg:∀(z:aU) (r:List aU),decide (((aL (z::r)).length:Int)>0)=true:=fun z r=>by rw[aA];simp
  have Pd:∀(z:aU) (r:List aU),((Int.toNat 1).ble (aL (z::r)).length && ((aL (z::r)).length.ble (aL (z::r)).length && (aL (z::r)).length.ble (aL (z::r)).length))=true:=fun z r=>bP (Qy (by rw[aA];simp)) (bP (Qy (Q5 _)) (Qy (Q5 _)))
  have ec:∀(z:aU) (r:List aU),List.take ((aL (z::r)).length-Int.toNat 1) (List.drop (Int.toNat 1) (aL (z::r)))=aL r:=fun z r=>by
   show List.take ((aL (z::r)).length-1) (aL r)=aL r
   exact RJ (by rw[aA,aA];simp)
  have fin:∀(o p q:List aU) (mem:aN) (n:Nat) (id:Nat),c7 a b=o++p++q->lk mem id=some (.row 57 4 (aL o++aL p++aL q))->nF 0 (fun r m n=>r=AV.il 4 (aL (c7 a b))/\m=[]/\n=0) (.sl id 0 (o.length+(aL p).length+(aL q).length)) mem n:=by
   intro o p q mem n id h hl;refine dK (r':=.il 4 (aL (c7 a b))) (.fzR hl rfl (.eq (aR _) (by rw[h];simp[fN])) (by rw[h];simp[aA];omega)) ⟨rfl,rfl,rfl⟩
  cases a' with
  | nil=>
   rw[BP] at hm;refine Rr ?_;refine aK (bM rfl rfl (by simp[aA]) (by simp[aA] at *;omega)) ?_;refine Rr ?_;refine aK (bM rfl rfl (by simp[aA]) (by simp[aA] at *;omega)) ?_;refine Rr ?_;exact fin out [] b' _ _ _ (by simpa using hm) rfl
  | cons x l=>
   cases b' with
   | nil=>
    rw[FX] at hm;refine Rr ?_;rw[eg];refine Rr ?_;refine aK (bM rfl rfl (by simp[aA]) (by simp[aA] at *;omega)) ?_;refine Rr ?_;refine aK (bM rfl rfl (by simp[aA]) (by simp[aA] at *;omega)) ?_;refine Rr ?_;exact fin out (x::l) [] _ _ _ (by simpa using hm) rfl
   | cons y m=>
    rw[FY] at hm;have hc:=pZ x y (hok x (by simp));have hok':∀v∈l,fY v:=fun v hv=>hok v (by simp[hv])
    obtain⟨c,hc0⟩:∃c,c=bS x y:=⟨_,rfl⟩
    rw[←hc0] at hc hm;clear hc0;obtain⟨x1,x2,x3,x4⟩:=x;obtain⟨y1,y2,y3,y4⟩:=y;refine Rr ?_;rw[eg];refine Rr ?_;rw[eg];refine Rt ?_;refine hc.go ?_;refine Rr ?_;rcases(show c<0∨c=0∨0<c by omega) with hcc|hcc|hcc
    ·have d1:decide (c<=0)=true:=by simp;omega
     have d2:decide (c≥0)=false:=by simp;omega
     rw[Q3 hcc] at hm;rw[d1];refine Rt ?_;refine aK (bM rfl rfl (by simp[aA]) (by simp[aA] at *;omega)) ?_;refine Rr ?_;refine aK (Pd _ _) ?_;rw[ec];refine Rr ?_;rw[d2];refine Rr ?_;exact .mk (out++[.mk x1 x2 x3 x4],l,(.mk y1 y2 y3 y4)::m) [(10,0)] ⟨by simpa using hm,by simp at *;omega,by simp at *;omega,hok'⟩ (aI _ rfl ⟨⟨10,_,rfl,rfl,.eq (aR _) (by rw[fI];rfl)⟩,trivial⟩ ⟨a5 (.il' (aR _)),a5 (.il' (aR _)),⟨_,rfl,.slE rfl (by simp)⟩,trivial⟩) (by first|(simp;done)|(simp;omega))
    ·have d1:decide (c<=0)=true:=by simp;omega
     have d2:decide (c≥0)=true:=by simp;omega
     rw[Qz om,Q3 hcc] at hm;rw[d1];refine Rt ?_;refine aK (bM rfl rfl (by simp[aA]) (by simp[aA] at *;omega)) ?_;refine Rr ?_;refine aK (Pd _ _) ?_;rw[ec];refine Rr ?_;rw[d2];refine Rr ?_;refine aK (Pd _ _) ?_;rw[ec];refine Rr ?_;exact .mk (out++[.mk x1 x2 x3 x4],l,m) [(10,0)] ⟨by simpa using hm,by simp at *;omega,by simp at *;omega,hok'⟩ (aI _ rfl ⟨⟨10,_,rfl,rfl,.eq (aR _) (by rw[fI];rfl)⟩,trivial⟩ ⟨a5 (.il' (aR _)),a5 (.il' (aR _)),⟨_,rfl,.slE rfl (by simp)⟩,trivial⟩) (by first|(simp;done)|(simp;omega))
    ·have d1:decide (c<=0)=false:=by simp;omega
     have d2:decide (c≥0)=true:=by simp;omega
     rw[Qz om,Qz om] at hm;rw[d1];refine Rt ?_;refine aK (bM rfl rfl (by simp[aA]) (by simp[aA] at *;omega)) ?_;refine Rr ?_;rw[d2];refine Rr ?_;refine aK (Pd _ _) ?_;rw[ec];refine Rr ?_;exact .mk (out++[.mk y1 y2 y3 y4],(.mk x1 x2 x3 x4)::l,m) [(10,0)] ⟨by simpa using hm,by simp at *;omega,by simp at *;omega,hok⟩ (aI _ rfl ⟨⟨10,_,rfl,rfl,.eq (aR _) (by rw[fI];rfl)⟩,trivial⟩ ⟨a5 (.il' (aR _)),a5 (.il' (aR _)),⟨_,rfl,.slE rfl (by simp)⟩,trivial⟩) (by first|(simp;done)|(simp;omega))
end Go.Proofs.YtpajadlnaokngaaGreatDoor
namespace Go.Ax
open Go
mutual
theorem D9:∀(a b:aU),bS a b=0->a=b
 | .mk k n s ks,.mk k' n' s' ks',h=>by
  simp only[bS,andThen] at h;split at h
  ·rename_i h1;split at h
   ·rename_i h2;split at h
    ·rename_i h3;have e1:k=k':=Decidable.byContradiction fun e=>rH e h1
     have e2:n=n':=Decidable.byContradiction fun e=>rH e h2
     rw[e1,e2,kH h3,LM ks ks' h]
    ·rename_i h3;exact absurd h h3
   ·rename_i h2;exact absurd h h2
  ·rename_i h1;exact absurd h h1
theorem LM:∀(l m:List aU),dU l m=0->l=m
 | [],[],_=>rfl
 | [],_::_,h=>by simp[dU] at h
 | _::_,[],h=>by simp[dU] at h
 | a::l,b::m,h=>by
  simp only[dU,andThen] at h;split at h
  ·rename_i h1;rw[D9 a b h1,LM l m h]
  ·rename_i h1;exact absurd h h1
end
theorem AL(a:aU):¬bS a a<0:=by rw[(kN a).refl];omega
theorem DA:∀{a b:List aU},kD a->kD b->(∀x,x∈a↔x∈b)->a=b
 | [],[],_,_,_=>rfl
 | [],y::m,_,_,h=>by have:=(h y).2 (by simp);simp at this
 | x::l,[],_,_,h=>by have:=(h x).1 (by simp);simp at this
 | x::l,y::m,h1,h2,h=>by
  unfold kD at h1 h2;rw[RS] at h1 h2;have e:x=y:=by
   rcases Qw.1 ((h x).1 (by simp)) with e|e
   ·exact e
   ·rcases Qw.1 ((h y).2 (by simp)) with e'|e'
    ·exact e'.symm
    ·have a1:=h2.1 x e;have a2:=h1.1 y e';have:=Ea a1 (by omega:bS x y<=0);exact absurd this (AL y)
  subst e;congr 1;refine DA h1.2 h2.2 fun z=>?_
  constructor
  ·intro hz;rcases Qw.1 ((h z).1 (by simp[hz])) with e|e
   ·subst e;exact absurd (h1.1 z hz) (AL z)
   ·exact e
  ·intro hz;rcases Qw.1 ((h z).2 (by simp[hz])) with e|e
   ·subst e;exact absurd (h2.1 z hz) (AL z)
   ·exact e
theorem E9:∀(l:List aU) (v x:aU),x∈sV l v↔x=v∨x∈l
 | [],v,x=>by simp[sV,gK]
 | a::r,v,x=>by
  rw[B4];split
  ·split
   ·rename_i h;have e:=D9 a v (by simpa using h);subst e;constructor
    ·intro h;exact .inr h
    ·rintro(rfl|h)
     ·simp
     ·exact h
   ·simp
  ·simp only[Qw,E9 r v x];constructor
   ·rintro(h|h|h)
    ·exact .inr (.inl h)
    ·exact .inl h
    ·exact .inr (.inr h)
   ·rintro(h|h|h)
    ·exact .inr (.inl h)
    ·exact .inl h
    ·exact .inr (.inr h)
theorem wK(l:List aU)(x:aU):x∈c8 l↔x∈l:=by
 refine eR (P:=fun l=>x∈c8 l↔x∈l) (by simp[c8]) (fun l a ih=>?_) l;rw[k7,E9,ih];simp only[Q9,List.mem_singleton];constructor
 ·rintro(h|h)
  ·exact .inr h
  ·exact .inl h
 ·rintro(h|h)
  ·exact .inr h
  ·exact .inl h
theorem DP{l:List aU}(h:kD l):c8 l=l:=DA (sJ l) h (wK l)
theorem kZ(a b:List aU)(x:aU):x∈c7 a b↔x∈a∨x∈b:=by
 fun_induction c7 a b with
 | case1 b=>simp
 | case2 a h=>simp
 | case3 y l z m h ih=>simp only[Qw,ih];simp only[or_assoc]
 | case4 y l z m h1 h2 ih=>
  have:=D9 y z h2;subst this;simp only[Qw,ih];constructor
  ·rintro(h|h|h)
   ·exact .inl (.inl h)
   ·exact .inl (.inr h)
   ·exact .inr (.inr h)
  ·rintro((h|h)|(h|h))
   ·exact .inl h
   ·exact .inr (.inl h)
   ·exact .inl h
   ·exact .inr (.inr h)
 | case5 y l z m h1 h2 ih=>
  simp only[Qw,ih];constructor
  ·rintro(h|(h|h)|h)
   ·exact .inr (.inl h)
   ·exact .inl (.inl h)
   ·exact .inl (.inr h)
   ·exact .inr (.inr h)
  ·rintro((h|h)|(h|h))
   ·exact .inr (.inl (.inl h))
   ·exact .inr (.inl (.inr h))
   ·exact .inl h
   ·exact .inr (.inr h)
theorem A3(a b:List aU):kD a->kD b->kD (c7 a b):=by
 fun_induction c7 a b with
 | case1 b=>intro _ h;exact h
 | case2 a h=>intro h _;exact h
 | case3 y l z m h ih=>
  intro h1 h2;unfold kD at h1 h2 ⊢;have h1':=RS.1 h1;have h2':=RS.1 h2;refine RS.2 ⟨fun x hx=>?_,ih h1'.2 h2⟩;rcases(kZ _ _ _).1 hx with hx|hx
  ·exact h1'.1 x hx
  ·rcases Qw.1 hx with rfl|hx
   ·exact h
   ·have:=h2'.1 x hx;exact Ea h om
 | case4 y l z m hn he ih=>
  intro h1 h2;unfold kD at h1 h2 ⊢;have h1':=RS.1 h1;have h2':=RS.1 h2;have:=D9 y z he;subst this;refine RS.2 ⟨fun x hx=>?_,ih h1'.2 h2'.2⟩;rcases(kZ _ _ _).1 hx with hx|hx
  ·exact h1'.1 x hx
  ·exact h2'.1 x hx
 | case5 y l z m hn he ih=>
  intro h1 h2;unfold kD at h1 h2 ⊢;have h1':=RS.1 h1;have h2':=RS.1 h2;have hzy:=HY (a:=y) (b:=z) om;refine RS.2 ⟨fun x hx=>?_,ih h1 h2'.2⟩;rcases(kZ _ _ _).1 hx with hx|hx
  ·rcases Qw.1 hx with rfl|hx
   ·exact hzy
   ·have:=h1'.1 x hx;exact Ea hzy om
  ·exact h2'.1 x hx
theorem EK{a b:List aU}(h1:kD a)(h2:kD b):c7 a b=c8 (a++b):=
 DA (A3 a b h1 h2) (sJ _) fun x=>by rw[kZ,wK,Q9]
theorem AF:∀(r l:List Nd),∃m,aH (l++r)=aH l++m
 | [],l=>⟨[],by simp⟩
 | x::r,l=>by
  obtain⟨m,hm⟩:=AF r (l++[x]);refine⟨cE x (aH l)::m, ?_⟩;have e:l++x::r=l++[x]++r:=by simp
  rw[e,hm,eX];simp
theorem NP{a b:List fK}{k:Int}(h0:0<=k)(h:k<a.length):cD (a++b) k=cD a k:=by
 unfold cD;rw[Qx,Qx,RN om]
theorem gW{ns:List Nd}{n:Nat}{k:Int}(h0:0<=k)(h:k<n)(hn:n<=ns.length):cD (aH (ns.take n)) k=cD (aH ns) k:=by
 obtain⟨m,hm⟩:=AF (ns.drop n) (ns.take n);rw[List.take_append_drop] at hm;rw[hm,NP h0 (by rw[cN,Rx];omega)]
theorem z4{b1 b2:List fK}{l:List Int}(h:∀k∈l,cD b1 k=cD b2 k):jZ b1 l=jZ b2 l:=by
 have:∀(l:List Int) (a:List aU × Bool),(∀k∈l,cD b1 k=cD b2 k)->l.foldl (bE b1) a=l.foldl (bE b2) a:=by
  intro l
  induction l with
  | nil=>intro a _;rfl
  | cons k r ih=>
   intro a h;simp only[RW];have e:bE b1 a k=bE b2 a k:=by unfold bE;rw[h k (by simp)]
   rw[e];exact ih _ fun q hq=>h q (by simp[hq])
 unfold jZ;rw[this l _ h]
theorem xC{b1 b2:List fK}:∀(l:List Int) (rows:List (List aU)),(∀k∈l,cD b1 k=cD b2 k)->d8 b1 l rows=d8 b2 l rows
 | [],rows,_=>rfl
 | k::r,rows,h=>by
  simp only[d8,h k (by simp)];split
  ·rfl
  ·exact xC r _ fun q hq=>h q (by simp[hq])
theorem xH{b1 b2:List fK}{x:Nd}(h:∀k∈x.kids,cD b1 k=cD b2 k):cE x b1=cE x b2:=by
 unfold cE;split
 ·rfl
 ·split
  ·rfl
  ·split
   ·unfold nJ;rw[xC x.kids _ h]
   ·split
    ·exact z4 fun k hk=>h k (Rz hk)
    ·exact z4 h
theorem BG{ns:List Nd}(hg:∀(j:Nat) (x:Nd),ns[j]? = some x->f9 j x){i:Nat}{x:Nd}(hx:ns[i]? = some x):cD (aH ns) i=cE x (aH ns):=by
 obtain⟨hi,he⟩:=Qv.1 hx;have e1:cD (aH (ns.take (i+1))) i=cD (aH ns) i:=gW om om om;rw[←e1,Q0 hi,eX,he];rw[(EY (b:=cE x (aH (ns.take i))) (show (0:Int)<=i by omega)).2 (by rw[cN,Rx];omega)];refine xH fun k hk=>?_
 obtain⟨j,hj⟩:=RQ hk;obtain⟨h0,h1⟩:=(hg i x hx).kids j k hj;exact gW h0 h1 om
theorem wZ:∀{a b:List aU} {x y:aU},a.length=b.length->dU (a++[x]) (b++[y])=andThen (dU a b) (bS x y)
 | [],[],x,y,_=>by
  simp only[Rb,dU,andThen];split
  ·rename_i h;rw[h];rfl
  ·rfl
 | [],_::_,_,_,h=>by simp at h
 | _::_,[],_,_,h=>by simp at h
 | a::l,b::m,x,y,h=>by
  simp only[Rf,dU];rw[wZ (by simpa using h)];unfold andThen;repeat' split
  all_goals first|rfl|omega
def Le(n:Nat)(rows:List (List aU)):Prop:=(∀r∈rows,r.length=n)/\rows.Pairwise fun a b=>dU a b<0
theorem Io{n:Nat}{rows:List (List aU)}{l:List aU}(h:Le n rows)(hl:kD l):Le (n+1) (e6 rows l):=by
 obtain⟨h1,h2⟩:=h;refine⟨fun r hr=>?_, ?_⟩
 ·obtain⟨r',h3,v,_,rfl⟩:=rY hr;simp[h1 r' h3]
 ·unfold e6
  induction rows with
  | nil=>simp
  | cons a rs ih=>
   rw[RS] at h2;rw[Sn,List.pairwise_append];refine⟨?_,ih (fun r hr=>h1 r (by simp[hr])) h2.2, ?_⟩
   ·rw[S8];refine hl.imp fun {x y} hxy=>?_
    rw[wZ rfl,(wS a).refl];simpa[andThen] using hxy
   ·intro p hp q hq;obtain⟨v,_,rfl⟩:=RD.1 hp;obtain⟨r',h3,u,_,rfl⟩:=rY (rows:=rs) (l:=l) hq;have:=h2.1 r' h3;rw[wZ (by rw[h1 a (by simp),h1 r' (by simp[h3])])];unfold andThen;split
    ·omega
    ·exact this
theorem CS{bs:List fK}(hb:∀b∈bs,kD b.vals):∀(kids:List Int) (n:Nat) (rows out:List (List aU)),Le n rows->d8 bs kids rows=some out->Le (n+kids.length) out
 | [],n,rows,out,h,h2=>by
  simp only[d8] at h2;cases h2;exact h
 | k::ks,n,rows,out,h,h2=>by
  simp only[d8] at h2;split at h2
  ·cases h2
  ·have hs:kD (cD bs k).vals:=by
    unfold cD;rw[Qx];cases e:bs[k.toNat]? with
    | none=>simp[kD]
    | some b=>exact hb b (RC e)
   have:=CS hb ks (n+1) _ out (Io h hs) h2;simp only[R0];rw[show n+(ks.length+1)=n+1+ks.length by omega];exact this
theorem Jk(name:List UInt8)(a b:List aU):bS (dM name a) (dM name b)=dU a b:=by
 unfold dM;split<;>simp[bS,(iC _).refl,(nI _).refl,andThen]
theorem Lo{n:Nat}{rows:List (List aU)}(name:List UInt8)(h:Le n rows):kD (rows.map (dM name)):=by
 unfold kD;rw[S8];exact h.2.imp fun {a b} h=>by rw[Jk];exact h
theorem I8(lo hi:Int):kD (fT lo hi):=by
 unfold kD fT;rw[S8];refine List.pairwise_lt_range.imp fun {i j} h=>?_
 rw[J4 rfl om];rw[Q3 om];omega
theorem JM{x:Nd}{bs:List fK}:kD (cE x bs).vals:=by
 unfold cE;split
 ·simp[kD]
 ·split
  ·split
   ·simp[kD]
   ·exact I8 _ _
  ·split
   ·unfold nJ;split
    ·simp[kD]
    ·exact sJ _
   ·generalize (if x.kind=4 then x.kids.drop 1 else x.kids)=ks;unfold jZ;split
    ·simp[kD]
    ·have:∀(l:List Int) (a:List aU × Bool),kD a.1->kD (l.foldl (bE bs) a).1:=by
      intro l
      induction l with
      | nil=>intro a h;exact h
      | cons k r ih=>intro a _;exact ih _ (sJ _)
     exact this _ _ (by simp[kD])
theorem Al(ns:List Nd):∀b∈aH ns,kD b.vals:=by
 refine eR (P:=fun ns=>∀b∈aH ns,kD b.vals) (by simp[aH]) (fun l x ih=>?_) ns;rw[eX];intro b hb;rcases Q9.1 hb with hb|hb
 ·exact ih b hb
 ·simp at hb;rw[hb];exact JM
theorem NG{bs:List fK}(hb:∀b∈bs,kD b.vals)(k:Int):kD (cD bs k).vals:=by
 unfold cD;rw[Qx];cases h:bs[k.toNat]? with
 | none=>simp[kD]
 | some b=>exact hb b (RC h)
theorem Ip{bs:List fK}(hb:∀b∈bs,kD b.vals){x:Nd}{rows:List (List aU)}(h:d8 bs x.kids [[]]=some rows):nJ bs x=⟨rows.map (dM x.name),false⟩:=by
 unfold nJ;rw[h];simp only;rw[DP (Lo _ (CS hb x.kids 0 [[]] rows ⟨by simp,by simp⟩ h))]
def rowAt:List (List aU)->Nat->List aU
 | [],_=>[]
 | l::r,k=>rowAt r (k/l.length)++(l[k%l.length]?).toList
def mT:List (List aU)->List (List aU)
 | []=>[[]]
 | l::r=>e6 (mT r) l
def gL:List (List aU)->Nat
 | []=>1
 | l::r=>gL r*l.length
theorem wY:∀ls:List (List aU),(mT ls).length=gL ls
 | []=>rfl
 | l::r=>by rw[mT,sB,gL,wY r]
theorem CH(l:List aU):∀(rows:List (List aU)) (k:Nat) (a:List aU) (v:aU),rows[k/l.length]? = some a->l[k%l.length]? = some v->(e6 rows l)[k]? = some (a++[v])
 | [],k,a,v,h,_=>by simp at h
 | r::rs,k,a,v,h,hv=>by
  have hpos:0<l.length:=by
   rcases RM l.length with h0|h0
   ·have:l=[]:=Ru.1 h0;subst this;simp at hv
   ·exact h0
  unfold e6;rw[Sn];rcases Q6 k l.length with hk|hk
  ·rw[RN (by simpa using hk)];rw[Nat.div_eq_of_lt hk] at h;rw[Su hk] at hv;simp at h;subst h;simp[hv]
  ·rw[RR (by simpa using hk),SF];have e1:k/l.length=(k-l.length)/l.length+1:=by
    conv=>lhs;rw[show k=(k-l.length)+l.length by omega]
    exact Nat.add_div_right _ hpos
   have e2:k%l.length=(k-l.length)%l.length:=(Nat.mod_eq_sub_mod hk)
   rw[e1] at h;rw[e2] at hv;exact CH l rs (k-l.length) a v (by simpa using h) hv
theorem Bn:∀(ls:List (List aU)) (k:Nat),k<gL ls->(mT ls)[k]? = some (rowAt ls k)
 | [],k,h=>by
  simp[gL] at h;subst h;rfl
 | l::r,k,h=>by
  simp only[gL] at h;have hpos:0<l.length:=by
   rcases RM l.length with h0|h0
   ·rw[h0] at h;simp at h
   ·exact h0
  have h1:k/l.length<gL r:=Nat.div_lt_of_lt_mul (by rw[Nat.mul_comm];exact h);have h2:=TH k hpos;have e:=Qq h2;rw[mT,rowAt,e];exact CH l _ k _ _ (Bn r _ h1) e
theorem By{bs:List fK}:∀(kids:List Int) (ls:List (List aU)),gL ls<=1024 ->
  d8 bs kids (mT ls)=if (kids.foldl (fun(a:Nat × Bool) k=>(a.1*(cD bs k).vals.length,a.2 || (cD bs k).many || decide (1024<a.1*(cD bs k).vals.length))) (gL ls,false)).2 then none
   else some (mT (kids.reverse.map (fun k=>(cD bs k).vals)++ls))
 | [],ls,h=>by simp[d8]
 | k::r,ls,h=>by
  have stay:∀(l:List Int) (n:Nat),(l.foldl (fun(a:Nat × Bool) k=>(a.1*(cD bs k).vals.length,a.2 || (cD bs k).many || decide (1024<a.1*(cD bs k).vals.length))) (n,true)).2=true:=by
   intro l
   induction l with
   | nil=>intro n;rfl
   | cons q l ih=>intro n;simp only[RW,Bool.true_or];exact ih _
  simp only[d8,RW,wY,Sy];by_cases hc:(cD bs k).many=true∨1024<gL ls*(cD bs k).vals.length
  ·have e:((cD bs k).many || decide (1024<gL ls*(cD bs k).vals.length))=true:=by simpa using hc
   rw[Q3 hc,e,Q3 (stay _ _)]
  ·have e:((cD bs k).many || decide (1024<gL ls*(cD bs k).vals.length))=false:=by
    rw[not_or] at hc;simp at hc ⊢;exact hc
   rw[Qz hc,e];rw[not_or] at hc;have:=By (bs:=bs) r ((cD bs k).vals::ls) (by simp only[gL];omega);simp only[mT,gL] at this;rw[this];simp[List.append_assoc]
theorem AY{bs:List fK}:∀(l:List Int) (a:List aU × Bool),a.2=true->(l.foldl (bE bs) a).2=true
 | [],_,h=>h
 | k::r,a,h=>AY r _ (by simp[bE,h])
theorem uW{l:List aU}(h:l≠[]):c8 l≠[]:=by
 cases l with
 | nil=>exact absurd rfl h
 | cons a r=>exact List.ne_nil_of_mem ((wK (a::r) a).2 (by simp))
theorem E1{bs:List fK}:∀(l:List Int) (a:List aU × Bool),a.1≠[]->(l.foldl (bE bs) a).1≠[]
 | [],_,h=>h
 | k::r,a,h=>E1 r _ (uW (by simp[h]))
theorem Oq{bs:List fK}{l:List Int}(hl:l≠[])(h:∀k∈l,(cD bs k).many=false->(cD bs k).vals≠[])(hm:(jZ bs l).many=false):(jZ bs l).vals≠[]:=by
 unfold jZ at hm ⊢;split at hm
 ·simp at hm
 ·rename_i hf;rw[Qz hf];simp only;cases l with
  | nil=>exact absurd rfl hl
  | cons k r=>
   simp only[RW] at hf ⊢;have hk:(bE bs ([],false) k).2=false:=by
    cases e:(bE bs ([],false) k).2 with
    | false=>rfl
    | true=>exact absurd (AY r _ e) hf
   refine E1 r _ (uW ?_);simp only[bE,Sy,S1] at hk;simp only[Rb];exact h k (by simp) hk.1
theorem HV{bs:List fK}:∀(kids:List Int) (rows out:List (List aU)),rows≠[]->(∀k∈kids,(cD bs k).many=false->(cD bs k).vals≠[])->d8 bs kids rows=some out->out≠[]
 | [],rows,out,h,_,h2=>by
  simp only[d8] at h2;cases h2;exact h
 | k::ks,rows,out,h,hk,h2=>by
  simp only[d8] at h2;split at h2
  ·cases h2
  ·rename_i hc;rw[not_or] at hc;refine HV ks _ out ?_ (fun q hq=>hk q (by simp[hq])) h2;have hv:=hk k (by simp) (by simpa using hc.1);have:=sB (cD bs k).vals rows;intro e;rw[e] at this;have a:=Rn.2 h;have b:=Rn.2 hv;have:=Sz a b;simp at *;omega
theorem kT(ns:List Nd)(h:bI [] ns=0):∀(j:Nat) (x:Nd),ns[j]? = some x->eI (ns.take j) (bR (ns.take j)) (bO (ns.take j)) x=0:=by
 intro j x hx;obtain⟨hj,he⟩:=Qv.1 hx;have e:ns=ns.take j++x::ns.drop (j+1):=by
  rw[←he];simp
 have h1:bI [] (ns.take j)=0:=by
  rw[e] at h;exact f6 h
 have h2:bI [] (ns.take j++[x])=0:=by
  have e2:ns=(ns.take j++[x])++ns.drop (j+1):=by simpa using e
  rw[e2] at h;exact f6 h
 rw[dL [] _ x h1] at h2;simpa using h2
theorem jY{i:Int}{x:Nd}(h:cG i x=true):(x.kind=2->1<=x.kids.length)/\(x.kind=4->x.kids.length=x.values.length+1):=by
 unfold cG at h;simp only[Qt,Rq,RL] at h;obtain⟨⟨⟨⟨_,h2⟩,_⟩,h4⟩,_⟩:=h;exact⟨fun e=>by rcases h2 with h2|h2<;>omega,fun e=>om⟩
theorem iM{i:Int}{x:Nd}(h:dF i x=0):cG i x=true:=by
 unfold dF at h;split at h
 ·omega
 ·rename_i hf;simpa using hf
theorem EB(ns:List Nd)(ho:∀x∈ns,pL x)(h:bI [] ns=0):∀(n:Nat) (k:Nat),k<=n->k<ns.length->(cD (aH ns) k).many=false->(cD (aH ns) k).vals≠[]:=by
 have hg:=g8 ns ho h;intro n
 induction n with
 | zero=>
  intro k hk hlt hm;have hx:=Qq hlt;have hG:=hg k _ hx;have hst:=kT ns h k _ hx;obtain⟨h1,_,_,h4⟩:=eE hst;have hlen:(ns.take k).length=k:=by simp;omega
  rw[hlen] at h1;have hfp:=jY (iM h1);have hk0:(ns[k]).kids=[]:=by
   cases e:(ns[k]).kids with
   | nil=>rfl
   | cons q r=>have:=hG.kids 0 q (by rw[e];rfl);omega
  rw[BG hg hx] at hm ⊢;have hnum:=eS hG.num;rw[hk0] at hfp;simp at hfp;unfold cE at hm ⊢;split
  ·simp
  ·split
   ·split
    ·rename_i e;rw[Qz (by assumption),Q3 (by assumption),Q3 e] at hm;simp at hm
    ·simp only[fT];intro e;have:=congrArg List.length e;simp at this;omega
   ·split
    ·unfold nJ;rw[hk0];simp[d8,uW]
    ·have:=hG.kind;omega
 | succ n ih=>
  intro k hk hlt hm;have hx:=Qq hlt;have hG:=hg k _ hx;have hst:=kT ns h k _ hx;obtain⟨h1,_,_,h4⟩:=eE hst;have hlen:(ns.take k).length=k:=by simp;omega
  rw[hlen] at h1;have hfp:=jY (iM h1);rw[BG hg hx] at hm ⊢;have hnum:=eS hG.num;have hkid:∀q∈(ns[k]).kids,(cD (aH ns) q).many=false->(cD (aH ns) q).vals≠[]:=fun q hq=>by
   obtain⟨j,hj⟩:=RQ hq;obtain⟨q0,q1⟩:=hG.kids j q hj;obtain⟨q,rfl⟩:=RB q0;exact ih q om om
  unfold cE at hm ⊢;split
  ·simp
  ·split
   ·split
    ·rename_i e;rw[Qz (by assumption),Q3 (by assumption),Q3 e] at hm;simp at hm
    ·simp only[fT];intro e;have:=congrArg List.length e;simp at this;omega
   ·split
    ·rename_i e0 e1 e3;rw[Qz e0,Qz e1,Q3 e3] at hm;unfold nJ at hm ⊢;split
     ·rename_i e;rw[e] at hm;simp at hm
     ·rename_i rows e;have:=HV _ _ _ (by simp) hkid e;exact uW (by simpa using this)
    ·rename_i e0 e1 e3;rw[Qz e0,Qz e1,Qz e3] at hm;refine Oq ?_ (fun q hq=>hkid q ?_) hm
     ·split
      ·rename_i e4;have hb:=h4 e4;have hkl:=hfp.2 e4;unfold c9 at hb;simp only at hb;split at hb
       ·omega
       ·rename_i hmany;split at hb
        ·rename_i hs;have hsl:=jL hs;have hq:=hG.kids 0 ((ns[k]).kids.getD 0 0) (by
          rw[Qx];have:0<(ns[k]).kids.length:=om;rw[Qq this];rfl)
         obtain⟨q,hqe⟩:=RB hq.1;rw[hqe] at hsl hmany hq;simp only[Q4] at hsl hmany;rw[Sb,show min (q+1) k=q+1 by omega,gW om om om] at hsl hmany;have:=ih q om om (by simpa using hmany);have:=Rn.2 this;intro e;have:=congrArg List.length e;simp at this;omega
        ·omega
      ·have:=hG.kind;have:=hfp.1 om;exact List.ne_nil_of_length_pos om
     ·split at hq
      ·exact Rz hq
      ·exact hq
def v9(ss:List Int)(x:Nd):Int:=
 if x.kind=0 then aV x.value else if x.kind=1 then 1 else if x.kind=3 then 1+eT ss x.kids else max 1 (bX ss (gF x))
theorem HT{ss:List Int}{x:Nd}:v9 ss x<=1024↔g5 ss x<=1024:=by
 unfold v9 g5;split
 ·rfl
 ·split
  ·rfl
  ·split
   ·rfl
   ·omega
theorem Ce{ns:List Nd}(ho:∀x∈ns,pL x)(h:bI [] ns=0){x:Nd}(hk:x.kind=2∨x.kind=4)(hs:eI ns (bR ns) (bO ns) x=0):∃q∈gF x,0<=q/\q<ns.length:=by
 obtain⟨h1,_,_,h4⟩:=eE hs;have hfp:=jY (iM h1);have hn:=iL h1;have mem:∀q∈x.kids,0<=q/\q<ns.length:=fun q hq=>by
  obtain⟨j,hj⟩:=RQ hq;exact hn.kids j q hj
 rcases hk with e|e
 ·unfold gF;rw[Q3 e];cases hc:x.kids with
  | nil=>have:=hfp.1 e;rw[hc] at this;simp at this
  | cons q r=>exact⟨q,by simp,mem q (by rw[hc];simp)⟩
 ·unfold gF;rw[Qz om];have hb:=h4 e;have hkl:=hfp.2 e;have:1<=x.values.length:=by
   unfold c9 at hb;simp only at hb;split at hb
   ·omega
   ·rename_i hmany;split at hb
    ·rename_i hs;have hsl:=jL hs;have hlt:0<x.kids.length:=om;have hq:=mem (x.kids.getD 0 0) (by rw[Qx,Qq hlt];exact Ra hlt);obtain⟨q,hqe⟩:=RB hq.1;rw[hqe] at hsl hmany hq;simp only[Q4] at hsl hmany;rw[gW om om om] at hsl hmany;have:=EB ns ho h q q om om (by simpa using hmany);have:=Rn.2 this;omega
    ·omega
  have hlt:1<x.kids.length:=om;refine⟨x.kids[1], ?_,mem _ (Ra hlt)⟩;refine RC (i:=0) ?_;rw[RU];exact Qq hlt
theorem FD(ns:List Nd)(ho:∀x∈ns,pL x)(h:bI [] ns=0):∀y∈bO ns,1<=y:=by
 refine eR (P:=fun ns=>(∀x∈ns,pL x)->bI [] ns=0->∀y∈bO ns,1<=y) (fun _ _=>by simp[bO]) (fun l x ih ho h=>?_) ns ho h;have h1:=f6 h;have hol:∀y∈l,pL y:=fun y hy=>ho y (RK _ hy)
 have ih:=ih hol h1;have hs:=dL [] l x h1;rw[h] at hs;simp only[Rb] at hs;rw[gV];intro y hy;rcases Q9.1 hy with hy|hy
 ·exact ih y hy
 ·simp at hy;subst hy;have hb:=kY l h1;have hk:=(iL (eE hs.symm).1).kind;unfold g5;split
  ·have:=CM x.value;omega
  ·split
   ·omega
   ·split
    ·have:=(gA om hb.2 x.kids).1;omega
    ·obtain⟨q,hq,q0,q1⟩:=Ce hol h1 om hs.symm;have:=(vW (ss:=bO l) (gF x) 0 q hq).1;have h2:1<=dY (bO l) q:=by
      unfold dY;have hlt:q.toNat<(bO l).length:=by rw[gI];omega
      rw[Qx,Qq hlt];exact ih _ (Ra hlt)
     unfold bX;omega
theorem Mf{ns:List Nd}(ho:∀x∈ns,pL x)(h:bI [] ns=0){x:Nd}(hs:eI ns (bR ns) (bO ns) x=0):v9 (bO ns) x=g5 (bO ns) x:=by
 have hk:=(iL (eE hs).1).kind;unfold v9 g5;split
 ·rfl
 ·split
  ·rfl
  ·split
   ·rfl
   ·obtain⟨q,hq,q0,q1⟩:=Ce ho h om hs;have:=(vW (ss:=bO ns) (gF x) 0 q hq).1;have h2:1<=dY (bO ns) q:=by
     unfold dY;have hlt:q.toNat<(bO ns).length:=by rw[gI];omega
     rw[Qx,Qq hlt];exact FD ns ho h _ (Ra hlt)
    unfold bX at *;omega
theorem Hl{a b:List Int}{k:Int}(h0:0<=k)(h:k<a.length):dY (a++b) k=dY a k:=by
 unfold dY;rw[Qx,Qx,RN om]
theorem z9{a b:List Int}{l:List Int}(h:∀k∈l,dY a k=dY b k):eT a l=eT b l:=by
 unfold eT;have:∀(l:List Int) (s:Int),(∀k∈l,dY a k=dY b k)->l.foldl (fun s k=>s+dY a k) s=l.foldl (fun s k=>s+dY b k) s:=by
  intro l
  induction l with
  | nil=>intro s _;rfl
  | cons k r ih=>intro s h;simp only[RW];rw[h k (by simp)];exact ih _ fun q hq=>h q (by simp[hq])
 exact this l 0 h
theorem pY{a b:List Int}{l:List Int}(h:∀k∈l,dY a k=dY b k):bX a l=bX b l:=by
 unfold bX;have:∀(l:List Int) (s:Int),(∀k∈l,dY a k=dY b k)->l.foldl (fun s k=>max s (dY a k)) s=l.foldl (fun s k=>max s (dY b k)) s:=by
  intro l
  induction l with
  | nil=>intro s _;rfl
  | cons k r ih=>intro s h;simp only[RW];rw[h k (by simp)];exact ih _ fun q hq=>h q (by simp[hq])
 exact this l 0 h
theorem Ad{x:Nd}{q:Int}(h:q∈gF x):q∈x.kids:=by
 unfold gF at h;split at h
 ·exact h
 ·exact Rz h
theorem z5{a b:List Int}{x:Nd}(h:∀k∈x.kids,dY a k=dY b k)(h4:x.kind=4->0<x.kids.length)(hk:0<=x.kind/\x.kind<=4):fX a x=fX b x:=by
 unfold fX;split
 ·rfl
 ·split
  ·rfl
  ·split
   ·exact z9 h
   ·split
    ·rw[pY fun q hq=>h q (Ad hq)]
    ·have:0<x.kids.length:=h4 om;rw[pY fun q hq=>h q (Ad hq),h (x.kids.getD 0 0) (by rw[Qx,Qq this];exact Ra this)]
theorem GK{a b:List Int}{x:Nd}(h:∀k∈x.kids,dY a k=dY b k):v9 a x=v9 b x:=by
 unfold v9;rw[z9 h,pY fun q hq=>h q (Ad hq)]
end Go.Ax
namespace Go.Ax
open Go
structure eU(ns:List Nd)(n:Nat):Prop where
 hn:n<=ns.length
 len:ns.length<=4096
 ok:∀x∈ns,pL x
 val:bI [] (ns.take n)=0
variable {ns:List Nd} {n:Nat}
theorem eU.okT(h:eU ns n):∀x∈ns.take n,pL x:=fun x hx=>h.ok x (Rk hx)
theorem eU.goodT(h:eU ns n):∀(j:Nat) (x:Nd),(ns.take n)[j]? = some x->f9 j x:=g8 _ h.okT h.val
theorem Ar{i:Nat}{x:Nd}(hi:i<n)(hx:ns[i]? = some x):(ns.take n)[i]? = some x:=by rw[RO,Q3 hi];exact hx
theorem eU.node(h:eU ns n){i:Nat}{x:Nd}(hi:i<n)(hx:ns[i]? = some x):f9 i x:=h.goodT i x (Ar hi hx)
theorem eU.atE(h:eU ns n){k:Int}(h0:0<=k)(h1:k<n):cD (aH (ns.take n)) k=cD (aH ns) k:=gW h0 h1 h.hn
theorem eU.vals(h:eU ns n){k:Int}(h0:0<=k)(h1:k<n):(cD (aH ns) k).vals.length<=1024/\∀v∈(cD (aH ns) k).vals,fY v:=by
 rw[←h.atE h0 h1];exact nE (gD _ h.goodT) k
theorem eU.at(h:eU ns n){i:Nat}{x:Nd}(hi:i<n)(hx:ns[i]? = some x):cD (aH ns) i=cE x (aH ns):=by
 rw[←h.atE om om,BG h.goodT (Ar hi hx)];refine xH fun k hk=>?_
 obtain⟨j,hj⟩:=RQ hk;obtain⟨h0,h1⟩:=(h.node hi hx).kids j k hj;exact h.atE h0 om
theorem QJ(ns:List Nd)(k:Int):kD (cD (aH ns) k).vals:=NG (Al ns) k
theorem eU.ne(h:eU ns n){k:Int}(h0:0<=k)(h1:k<n)(hm:(cD (aH ns) k).many=false):(cD (aH ns) k).vals≠[]:=by
 rw[←h.atE h0 h1] at hm ⊢;obtain⟨k,rfl⟩:=RB h0;exact EB _ h.okT h.val k k (Q5 _) (by rw[Rx];have:=h.hn;omega) hm
theorem eU.step(h:eU ns n){i:Nat}{x:Nd}(hi:i<n)(hx:ns[i]? = some x):eI (ns.take i) (bR (ns.take i)) (bO (ns.take i)) x=0:=by
 have:=kT _ h.val i x (Ar hi hx)
 rwa [Sb,R8 om] at this
theorem eU.nodeOK(h:eU ns n){i:Nat}{x:Nd}(hi:i<n)(hx:ns[i]? = some x):Dq i x:=by
 have:=iL (eE (h.step hi hx)).1
 rwa [Rx,R8 (by have:=h.hn;omega)] at this
theorem OZ{bs:List fK}{kids:List Int}{j:Nat}{k:Int}{a:List aU × Bool}(hk:kids[j]? = some k)(h:(kids.take j).foldl (bE bs) ([],false)=a) :
  (kids.take (j+1)).foldl (bE bs) ([],false)=bE bs a k:=by
 obtain⟨hj,he⟩:=Qv.1 hk;rw[Q0 hj,R2,h,he];rfl
theorem H7{bs:List fK}{kids:List Int}{j:Nat}(h:((kids.take j).foldl (bE bs) ([],false)).2=true):jZ bs kids=⟨[],true⟩:=by
 have e:(kids.foldl (bE bs) ([],false)).2=true:=by
  conv=>lhs;rw[←List.take_append_drop j kids,R2]
  exact AY _ _ h
 unfold jZ;rw[Q3 e]
theorem Kc{bs:List fK}{kids:List Int}{out:List aU}(h:kids.foldl (bE bs) ([],false)=(out,false)):jZ bs kids=⟨out,false⟩:=by
 unfold jZ;rw[h];rfl
def eJ(bs:List fK)(a:Nat × Bool)(k:Int):Nat × Bool:=(a.1*(cD bs k).vals.length,a.2 || (cD bs k).many || decide (1024<a.1*(cD bs k).vals.length))
theorem D5{bs:List fK}:∀(l:List Int) (a:Nat × Bool),a.2=true->(l.foldl (eJ bs) a).2=true
 | [],_,h=>h
 | k::r,a,h=>D5 r _ (by simp[eJ,h])
theorem EW{bs:List fK}(kids:List Int):d8 bs kids [[]]=if (kids.foldl (eJ bs) (1,false)).2=true then none else some (mT (kids.map fun k=>(cD bs k).vals).reverse):=by
 have:=By (bs:=bs) kids [] (by simp[gL]);simp only[mT,gL,SP] at this;rw[this,List.map_reverse];rfl
theorem Ov{bs:List fK}{kids:List Int}{j:Nat}{k:Int}{a:Nat × Bool}(hk:kids[j]? = some k)(h:(kids.take j).foldl (eJ bs) (1,false)=a) :
  (kids.take (j+1)).foldl (eJ bs) (1,false)=eJ bs a k:=by
 obtain⟨hj,he⟩:=Qv.1 hk;rw[Q0 hj,R2,h,he];rfl
theorem Mi{bs:List fK}{x:Nd}{j:Nat}(h:((x.kids.take j).foldl (eJ bs) (1,false)).2=true):nJ bs x=⟨[],true⟩:=by
 have e:(x.kids.foldl (eJ bs) (1,false)).2=true:=by
  conv=>lhs;rw[←List.take_append_drop j x.kids,R2]
  exact D5 _ _ h
 unfold nJ;rw[EW,Q3 e]
theorem J1{bs:List fK}:∀(kids:List Int) (a:Nat × Bool),(kids.foldl (eJ bs) a).1=a.1*gL (kids.map fun k=>(cD bs k).vals).reverse:=by
 intro kids;refine eR (P:=fun kids=>∀a:Nat × Bool,(kids.foldl (eJ bs) a).1=a.1*gL (kids.map fun k=>(cD bs k).vals).reverse) (fun a=>by simp[gL]) (fun l x ih a=>?_) kids;rw[R2,SW,List.reverse_append];simp only[RW,List.foldl_nil,Rm,List.map_nil,List.reverse_singleton,List.singleton_append,gL];rw[eJ,ih a,Nat.mul_assoc]
theorem Ji{bs:List fK}(hb:∀b∈bs,kD b.vals){x:Nd}{t:Nat}(h:x.kids.foldl (eJ bs) (1,false)=(t,false)) :
  nJ bs x=⟨(mT (x.kids.map fun k=>(cD bs k).vals).reverse).map (dM x.name),false⟩/\t=gL (x.kids.map fun k=>(cD bs k).vals).reverse:=by
 have hr:d8 bs x.kids [[]]=some (mT (x.kids.map fun k=>(cD bs k).vals).reverse):=by
  rw[EW,h];rfl
 refine⟨Ip hb hr, ?_⟩;have:=J1 (bs:=bs) x.kids (1,false);rw[h] at this;simpa using this
theorem Gd{ls:List (List aU)}{q kk:Nat}{l:List aU}{v:aU}(hl:ls[q]? = some l)(hv:l[kk%l.length]? = some v) :
  rowAt (ls.take (q+1)).reverse kk=rowAt (ls.take q).reverse (kk/l.length)++[v]:=by
 obtain⟨h1,h2⟩:=Qv.1 hl;rw[Q0 h1,List.reverse_append,h2];simp only[List.reverse_singleton,List.singleton_append,rowAt,hv];rfl
end Go.Ax
