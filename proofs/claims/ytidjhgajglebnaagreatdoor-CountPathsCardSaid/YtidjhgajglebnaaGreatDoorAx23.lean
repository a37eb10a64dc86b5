/- A part of the proof. -/
import Derived.Test.YtidjhgajglebnaaGreatDoorAx22
set_option linter.unusedVariables false
set_option linter.unusedSimpArgs false
namespace Go.Proofs.YtidjhgajglebnaaGreatDoor
open Go Go.Ax Go.Proofs Tryz
set_option maxRecDepth 100000
set_option maxHeartbeats 16000000
structure FJ(A:List Nd)(S:List aR):Prop where
 own:∀x∈A,∀v∈x.values,v∈S
 kid:∀u∈S,∀w∈jZ u,w∈S
 ok:∀u∈S,g9 u/\bP u=0
 len:A.length*(S.length+1)<=34000000000
theorem Ei{A:List Nd}(h:VT A)(hl:A.length<=100):FJ A (u6 A):=⟨fun x hx v hv=>KX hx hv,fun u hu w hw=>KC hu hw,M5 h,by
 have h1:=K9 h;have h2:A.length*((u6 A).length+1)<=100*(100*2048000+1):=Zs hl (by omega);omega⟩
def iO(A:List Nd)(k:Key):List Cell:=match k.2 with
 | none=>(g5 false).all A k.1
 | some v=>(g5 false).of A k.1 v
def J8:aR:=.mk 0 0 [] []
def KT(A:List Nd)(k:Key):AV:=match k.2.getD J8 with
 | .mk a b s ks=>.agg [.int .i64 k.1,.bool k.2.isNone,.int .i64 a,.int .i64 b,.str s,.il 4 (aU ks),.il 6 (bK (iO A k))]
theorem SU(A:List Nd)(k:Key):NN (KT A k):=by
 unfold KT;split;exact .agg' (.cons nn (.cons (gH _) (.cons nn (.cons nn (.cons nn (.cons (.il' (bI _)) (.cons (.il' (bW _)) .nil)))))))
def iW(A:List Nd)(E:List Key):List AV:=E.map (KT A)
theorem gI(A:List Nd)(E:List Key):kI (iW A E):=fun a h=>by
 obtain⟨k,-,rfl⟩:=ZF.1 h;exact SU A k
theorem Ab(A:List Nd)(E:List Key):(iW A E).length=E.length:=by simp[iW]
theorem KO(A:List Nd)(E:List Key)(k:Key):iW A (E++[k])=iW A E++[KT A k]:=by simp[iW]
structure nK(A:List Nd)(S:List aR)(E:List Key):Prop where
 nod:E.Nodup
 node:∀k∈E,k.1<A.length
 val:∀k∈E,∀v,k.2=some v->v∈S
theorem nK.len{A:List Nd}{S:List aR}{E:List Key}(h:nK A S E)(hS:FJ A S):E.length<=34000000000:=by
 have h1:=Fq (m:=(List.range A.length).flatMap fun i=>(none::S.map some).map fun o=>(i,o)) h.nod fun k hk=>by
  refine aAH.2 ⟨k.1,aA2.2 (h.node k hk),ZF.2 ⟨k.2, ?_,rfl⟩⟩;cases ho:k.2 with
  | none=>exact Y7 ..
  | some v=>exact Yx _ (ZF.2 ⟨v,h.val k hk v ho,rfl⟩)
 have h2:=u0 (fun i:Nat=>(none::S.map some).map fun o=>((i,o):Key)) (S.length+1) (List.range A.length) fun x _=>by simp
 rw[List.length_range] at h2;have:=hS.len;omega
theorem nK.nil(A:List Nd)(S:List aR):nK A S []:=⟨aBB,by simp,by simp⟩
theorem nK.snoc{A:List Nd}{S:List aR}{E:List Key}(h:nK A S E){k:Key}(hk:k∉E)(h1:k.1<A.length)(h2:∀v,k.2=some v->v∈S):nK A S (E++[k]):=by
 refine⟨?_,fun q hq=>?_,fun q hq v hv=>?_⟩
 ·rw[aAR];refine⟨h.nod,by simp,fun a ha b hb e=>?_⟩;rw[Z3.1 hb] at e;exact hk (e ▸ ha)
 ·rcases Yz.1 hq with hq|hq
  ·exact h.node q hq
  ·rw[Z3.1 hq];exact h1
 ·rcases Yz.1 hq with hq|hq
  ·exact h.val q hq v hv
  ·rw[Z3.1 hq] at hv;exact h2 v hv
def gN(A:List Nd)(E:List Key)(rid:Nat):aQ:=[(0,.row 99 3 [.agg [.il 12 (bG A),.bool false,.sl rid 0 E.length]]),(rid,.row 169 7 (iW A E))]
def Xl(A:List Nd)(S:List aR)(i:Nat)(E:List Key)(res:List Cell):AV->aQ->Nat->Prop:=fun r m k=>∃F,(∀q∈F,q.1<=i)/\nK A S (E++F)/\r = .il 6 (bK res)/\m=gN A (E++F) 2/\k=3
def Hl(A:List Nd)(S:List aR)(i:Nat):Prop:=∀(o:Option aR) (E:List Key),(∀v,o=some v->v∈S)->nK A S E ->
 aF prog [] 46 [.ptr 0 0 0,.int .i64 i,.bool o.isNone,cN (o.getD J8)] (gN A E 1) 2 (Xl A S i E (iO A (i,o)))
set_option maxHeartbeats 16000000
theorem MC(A:List Nd)(k:Key):∃a b s ks,k.2.getD J8 = .mk a b s ks/\KT A k = .agg [.int .i64 k.1,.bool k.2.isNone,.int .i64 a,.int .i64 b,.str s,.il 4 (aU ks),.il 6 (bK (iO A k))]:=by
 unfold KT;split;rename_i a b s ks h;exact⟨a,b,s,ks,h,rfl⟩
def Wy(A:List Nd)(S:List aR)(i:Nat):Prop:=∀(o:Option aR) (E:List Key),(∀v,o=some v->v∈S)->nK A S E ->
 aF prog [] 94 [.ptr 0 0 0,cD (aJ A i),.bool o.isNone,cN (o.getD J8)] (gN A E 1) 2 (fun r m k=>∃F,(∀q∈F,q.1<i)/\nK A S (E++F)/\r = .il 6 (bK (iO A (i,o)))/\m=gN A (E++F) 2/\k=3)
theorem dL{A:List Nd}{E:List Key}{mem:aQ}{σ:List (Nat × Nat)}{ia ib rid len:Nat}{xs:List AV}(s0:lk σ ia=some 0)(s1:lk σ ib=some rid)(m0:lk mem ia=some (.row 99 3 [.agg [.il 12 (bG A),.bool false,.sl ib 0 len]]))(m1:lk mem ib=some (.row 169 7 xs))(hl:len=E.length)(hx:xs=iW A E):dV mem σ (gN A E rid):=
 ⟨⟨ia,_,s0,m0,.cons (.agg (.cons (.same _ (.il' (aP A))) (.cons (.same _ (gH _)) (.cons (.slE s1 hl) .nil)))) .nil⟩,⟨ib,_,s1,m1,.eq (gI A E) hx⟩,trivial⟩
theorem XQ{A:List Nd}{S:List aR}(h:VT A)(hS:FJ A S)(i:Nat)(hi:i<A.length)(hR:Wy A S i):Hl A S i:=by
 intro o E ho hE;have hv:g9 (o.getD J8):=by
  cases o with
  | none=>exact⟨⟨by omega,by omega⟩,⟨by omega,by omega⟩,by simp,by simp,trivial⟩
  | some v=>exact(hS.ok v (ho v rfl)).1
 have nv:=dC (o.getD J8);have hRo:=hR o E ho hE;have hlen:=hE.len hS;have lE:=Ab A E;have nE:=gI A E;obtain⟨w,hw⟩:∃w,w=o.getD J8:=⟨_,rfl⟩
 rw[←hw] at hv nv hRo ⊢;obtain⟨al,hal⟩:∃al,al=o.isNone:=⟨_,rfl⟩
 rw[←hal] at hRo ⊢;obtain⟨vk,vn,vs,vks⟩:=w;refine aD bD func46 rfl ?_;refine Rr ?_;refine aZ.at bD (fun j:Nat=>j<=E.length/\∀q∈E.take j,q≠(i,o))
  (fun j=>⟨[(0,.ptr 0 0 0),(1,.int .i64 i),(2,.bool al),(7,.ptr 2 0 0),(9,.int .i64 j)],[(0,.row 99 3 [.agg [.il 12 (bG A),.bool false,.sl 1 0 E.length]]),(1,.row 169 7 (iW A E)),(2,.row 55 4 [cN (.mk vk vn vs vks)])],3,77⟩) (fun j=>E.length-j) 0 [(0,0),(1,1),(2,2)] ⟨Zd _,by simp⟩
  (aE _ rfl ⟨⟨0,_,rfl,rfl,.cons (.agg (.cons (.same _ (.il' (aP A))) (.cons (.same _ (gH _)) (.cons (.slE rfl rfl) .nil)))) .nil⟩,aL 1 nE,aL 2 (.cons nv .nil),trivial⟩ ⟨aG,aK,aK,aG,aK,trivial⟩) ?_
 rintro j ⟨hj,hjn⟩;refine Rr ?_;refine aH (fun hb=>?_) (fun hb=>?_)
 ·have hlt:j<E.length:=by simpa using hb
  have eE:(iW A E)[0+((j:Nat):Int).toNat]? = some (KT A E[j]):=by
   rw[show 0+((j:Nat):Int).toNat=j by simp];simp[iW,Yj hlt]
  have bx:Nat.blt ((j:Nat):Int).toNat E.length=true:=Yp (by simp;omega);have htk:E.take (j+1)=E.take j++[E[j]]:=Ys hlt;have hEj:=hE.val _ (Y8 hlt);have nxt:E[j]≠(i,o)->∀q∈E.take (j+1),q≠(i,o):=by
   intro hne q hq;rw[htk,Yz,Z3] at hq;rcases hq with hq|rfl
   ·exact hjn q hq
   ·exact hne
  generalize E[j]=kq at *;obtain⟨ki,ko⟩:=kq;obtain⟨u1,u2,u3,u4,hu,eC⟩:=MC A (ki,ko);rw[eC] at eE;simp only at eE hu;by_cases e1:ki=i
  ·subst e1;have ek:(((ki:Nat):Int) == ((ki:Nat):Int))=true:=by simp
   cases ko with
   | none=>
    cases o with
    | none=>
     subst hal;generalize hrk:bK (iO A (ki,none))=rk at *;have nrk:kI rk:=by rw[←hrk];exact bW _
     refine Rt ?_;repeat((first|refine aM bx ?_|refine aB eE ?_);refine Rt ?_)
     rw[ek];refine Rt ?_;repeat((first|refine aM bx ?_|refine aB eE ?_);refine Rt ?_)
     exact bF (n':=3) (m':=gN A (E++[]) 2) [(0,0),(1,2)] rfl (dL (ia:=0) (ib:=1) rfl rfl rfl rfl (by simp) (by simp)) (.same _ (.il' nrk)) ⟨[],by simp,by rw[ZZ];exact hE,by rw[hrk],rfl,rfl⟩
    | some v=>
     subst hal;have hnx:=nxt (by simp);refine Rt ?_;repeat((first|refine aM bx ?_|refine aB eE ?_);refine Rt ?_)
     rw[ek];refine Rt ?_;repeat((first|refine aM bx ?_|refine aB eE ?_);refine Rt ?_)
     exact .mk (j+1) [(0,0),(1,1),(2,2)] ⟨by omega,hnx⟩
      (aE _ rfl ⟨⟨0,_,rfl,rfl,.cons (.agg (.cons (.same _ (.il' (aP A))) (.cons (.same _ (gH _)) (.cons (.slE rfl rfl) .nil)))) .nil⟩,aL 1 nE,aL 2 (.cons nv .nil),trivial⟩ ⟨aG,aK,aK,aG,⟨_,rfl,.int (by rw[bA ⟨by omega,by omega⟩];simp)⟩,trivial⟩) (by omega)
   | some u=>
    cases o with
    | none=>
     subst hal;have hnx:=nxt (by simp);refine Rt ?_;repeat((first|refine aM bx ?_|refine aB eE ?_);refine Rt ?_)
     rw[ek];refine Rt ?_;repeat((first|refine aM bx ?_|refine aB eE ?_);refine Rt ?_)
     exact .mk (j+1) [(0,0),(1,1),(2,2)] ⟨by omega,hnx⟩
      (aE _ rfl ⟨⟨0,_,rfl,rfl,.cons (.agg (.cons (.same _ (.il' (aP A))) (.cons (.same _ (gH _)) (.cons (.slE rfl rfl) .nil)))) .nil⟩,aL 1 nE,aL 2 (.cons nv .nil),trivial⟩ ⟨aG,aK,aK,aG,⟨_,rfl,.int (by rw[bA ⟨by omega,by omega⟩];simp)⟩,trivial⟩) (by omega)
    | some v=>
     subst hal;have hu':u = .mk u1 u2 u3 u4:=hu;have hv' : .mk vk vn vs vks=v:=hw;have hC:=rW (.mk u1 u2 u3 u4) (.mk vk vn vs vks) (by rw[←hu'];exact(hS.ok u (hEj u rfl)).1);by_cases ec:cE (.mk u1 u2 u3 u4) (.mk vk vn vs vks)=0
     ·have e2:u=v:=by rw[hu',←hv'];exact rR.1 ec
      rw[ec] at hC;rw[e2] at eE;generalize hrk:bK (iO A (ki,some v))=rk at *;have nrk:kI rk:=by rw[←hrk];exact bW _
      refine Rt ?_;repeat((first|refine aM bx ?_|refine aB eE ?_);refine Rt ?_)
      rw[ek];refine Rt ?_;repeat((first|refine aM bx ?_|refine aB eE ?_);refine Rt ?_)
      refine hC.go ?_ (.cons (dC _) (.cons nv .nil)) nn;refine Rt ?_;repeat((first|refine aM bx ?_|refine aB eE ?_);refine Rt ?_)
      exact bF (n':=3) (m':=gN A (E++[]) 2) [(0,0),(1,2)] rfl (dL (ia:=0) (ib:=1) rfl rfl rfl rfl (by simp) (by simp)) (.same _ (.il' nrk)) ⟨[],by simp,by rw[ZZ];exact hE,by rw[hrk],rfl,rfl⟩
     ·have hnx:=nxt (by
       intro e;have:u=v:=Option.some.inj (congrArg Prod.snd e);rw[hu',←hv'] at this;exact ec (rR.2 this))
      have hcb:(cE (.mk u1 u2 u3 u4) (.mk vk vn vs vks) == 0)=false:=beq_eq_false_iff_ne.2 ec;refine Rt ?_;repeat((first|refine aM bx ?_|refine aB eE ?_);refine Rt ?_)
      rw[ek];refine Rt ?_;repeat((first|refine aM bx ?_|refine aB eE ?_);refine Rt ?_)
      refine hC.go ?_ (.cons (dC _) (.cons nv .nil)) nn;refine Rt ?_;repeat((first|refine aM bx ?_|refine aB eE ?_);refine Rt ?_)
      rw[hcb];refine Rt ?_;repeat((first|refine aM bx ?_|refine aB eE ?_);refine Rt ?_)
      exact .mk (j+1) [(0,0),(1,1),(2,2)] ⟨by omega,hnx⟩
       (aE _ rfl ⟨⟨0,_,rfl,rfl,.cons (.agg (.cons (.same _ (.il' (aP A))) (.cons (.same _ (gH _)) (.cons (.slE rfl rfl) .nil)))) .nil⟩,aL 1 nE,aL 2 (.cons nv .nil),trivial⟩ ⟨aG,aK,aK,aG,⟨_,rfl,.int (by rw[bA ⟨by omega,by omega⟩];simp)⟩,trivial⟩) (by omega)
  ·have hnx:=nxt fun e=>e1 (congrArg Prod.fst e)
   have ek:(((ki:Nat):Int) == ((i:Nat):Int))=false:=beq_eq_false_iff_ne.2 (by omega);refine Rt ?_;repeat((first|refine aM bx ?_|refine aB eE ?_);refine Rt ?_)
   rw[ek];refine Rt ?_;repeat((first|refine aM bx ?_|refine aB eE ?_);refine Rt ?_)
   exact .mk (j+1) [(0,0),(1,1),(2,2)] ⟨by omega,hnx⟩
    (aE _ rfl ⟨⟨0,_,rfl,rfl,.cons (.agg (.cons (.same _ (.il' (aP A))) (.cons (.same _ (gH _)) (.cons (.slE rfl rfl) .nil)))) .nil⟩,aL 1 nE,aL 2 (.cons nv .nil),trivial⟩ ⟨aG,aK,aK,aG,⟨_,rfl,.int (by rw[bA ⟨by omega,by omega⟩];simp)⟩,trivial⟩) (by omega)
 ·have hx:=bS hi;have en:(bG A)[((i:Nat):Int).toNat]? = some (cD (aJ A i)):=by simp[mM,hx]
  have hje:j=E.length:=by
   have:¬j<E.length:=by simpa using hb
   omega
  rw[hje,ZB] at hjn;have nN:=aV (aJ A i);generalize aJ A i=x at *;obtain⟨xk,xn,xl,xh,xw,xb,xv,xc,⟨yk,yn,ys,yks⟩⟩:=x;refine Rr ?_;refine aB en ?_;refine Rt ?_;refine aF.useN bD [(0,0),(1,1)] hRo rfl (.cons (.ptr 0 0 0 0 rfl) (.cons (.same _ nN) (.cons (.same _ (gH _)) (.cons (.same _ nv) .nil)))) (dL (ia:=0) (ib:=1) rfl rfl rfl rfl rfl rfl) rfl ?_;rintro r m k ⟨F,hF1,hF2,rfl,rfl,rfl⟩;have hni:(i,o)∉E++F:=by
   intro hq;rcases Yz.1 hq with hq|hq
   ·exact hjn _ hq rfl
   ·have:=hF1 _ hq;simp only at this;omega
  have hI:=hF2.snoc hni hi (fun v e=>ho v e);have hl2:=hF2.len hS;have lE2:=Ab A (E++F);have hsn:=KO A (E++F) (i,o);obtain⟨u1,u2,u3,u4,hu,eC⟩:=MC A (i,o);rw[eC] at hsn;simp only at hsn hu;rw[←hw] at hu;rw[←hal] at hsn;injection hu with a1 a2 a3 a4;subst a1 a2 a3 a4;have nrk:=bW (iO A (i,o));refine⟨[(0,0),(2,26)],.il 6 (bK (iO A (i,o))),gN A (E++F) 26,27,.same _ (.il' nrk),dL (ia:=0) (ib:=2) rfl rfl rfl rfl rfl rfl,rfl, ?_⟩;generalize hrk:bK (iO A (i,o))=rk at *;have nE2:=gI A (E++F++[(i,o)]);unfold gN;generalize iW A (E++F)=G at *;refine Rt ?_;refine aM (bT rfl rfl lE2.symm (by simp only[ZI,aAs,aAy,ZH,Zj];omega)) ?_;refine Rt ?_;refine bF (n':=3) (m':=gN A (E++(F++[(i,o)])) 2) [(0,0),(42,2)] rfl (dL (ia:=0) (ib:=42) rfl rfl rfl rfl ?_ (by rw[←List.append_assoc,hsn];first|done|rfl)) (.same _ (.il' nrk)) ⟨F++[(i,o)],fun q hq=>?_,by rw[←List.append_assoc];exact hI,by rw[hrk],rfl,rfl⟩
  ·simp[Nat.add_assoc]
  ·rcases Yz.1 hq with hq|hq
   ·have:=hF1 q hq;omega
   ·rw[Z3.1 hq];exact Yy _
set_option maxHeartbeats 16000000
theorem QS{A:List Nd}{S:List aR}{j:Nat}(ih:Hl A S j)(o:Option aR){E:List Key}(ho:∀v,o=some v->v∈S)(hE:nK A S E){al:Bool}{w:aR}(hal:o.isNone=al)(hw:o.getD J8=w){mem:aQ}{nx:Nat}(rid:Nat){K:AV->aQ->Nat->Prop}
  (hp:jM [0,rid] mem=gN A E rid) (s0:lk [(0,0),(rid,1)] 0=some 0) (s1:lk [(0,0),(rid,1)] rid=some 1) (m0:lk (gN A E rid) 0=some (.row 99 3 [.agg [.il 12 (bG A),.bool false,.sl rid 0 E.length]])) (m1:lk (gN A E rid) rid=some (.row 169 7 (iW A E))) (hc0:(oD (gN A E 1) && (n9 [(0,0),(rid,1)] && tI 2 [(0,0),(rid,1)]))=true)
  (hc:∀L':List Key,(oD (gN A L' nx) && (n9 [(0,0),(2,nx)] && (Nat.ble nx (nx+1) && (tO [0,rid] nx (gN A L' nx) && Ao [(0,0),(rid,1)] 2 nx (nx+1) [(0,0),(2,nx)]))))=true)
  (hk:∀F:List Key,(∀q∈F,q.1<=j)->nK A S (E++F)->K (.il 6 (bK (iO A (j,o)))) (gN A (E++F) nx++iS [0,rid] mem) (nx+1)):aF prog [] 46 [.ptr 0 0 0,.int .i64 j,.bool al,cN w] mem nx K:=by
 subst hal hw;refine aF.useN bD [(0,0),(rid,1)] (ih o E ho hE) hp (.cons (.ptr 0 0 0 0 s0) (.s (.cons (.same _ (gH _)) (.cons (.same _ (dC _)) .nil)))) (dL (ia:=0) (ib:=rid) s0 s1 m0 m1 rfl rfl) hc0 ?_;rintro r m k ⟨F,h1,h2,rfl,rfl,rfl⟩;exact⟨[(0,0),(2,nx)],.il 6 (bK (iO A (j,o))),gN A (E++F) nx,nx+1,.same _ (.il' (bW _)),dL (ia:=0) (ib:=2) rfl rfl rfl rfl rfl rfl,hc _,hk F h1 h2⟩
set_option maxHeartbeats 16000000
theorem Mi{A:List Nd}(E:List Key)(a b:List Cell)(ha:a.length<=100000)(hb:b.length<=100000)(sa:∀c∈a,q7 c)(sb:∀c∈b,q7 c):aF prog [] 153 [.ptr 0 0 0,.il 6 (bK a),.il 6 (bK b)] (gN A E 1) 2 fun r m k=>r = .il 6 (bK (eF false a b))/\m=gN A E 1/\k=2:=by
 have na:NN (.il 6 (bK a)):=.il' (bW a);have nb:NN (.il 6 (bK b)):=.il' (bW b);have nE:=gI A E;have la:=fE a;have lb:=fE b;have hl:=qN false a b;have hN:=Ak;have nz:=g8 zC;obtain⟨y0,r0,y1,r1,y2,r2,ez1,ez2⟩:=jP zC;rw[ez2] at hN nz;have step:=fun(i:Nat) (h:i<max a.length b.length)=>Mu false a b h
 refine aD bD func153 rfl ?_;refine Rr ?_;refine aZ.ph 103 6 ?_;refine aZ.at bD (fun i:Nat=>i<=max a.length b.length)
  (fun i=>⟨[(0,.ptr 0 0 0),(1,.il 6 (bK a)),(2,.il 6 (bK b)),(7,.sl 2 0 ((eF false a b).take i).length),(8,.int .i64 i)],[(0,.row 99 3 [.agg [.il 12 (bG A),.bool false,.sl 1 0 E.length]]),(1,.row 169 7 (iW A E)),(2,.row 103 6 (bK ((eF false a b).take i)))],3,65⟩) (fun i=>max a.length b.length-i) 0 [(0,0),(1,1),(2,2)] (Zd _)
  (aE _ rfl ⟨⟨0,_,rfl,rfl,.cons (.agg (.cons (.same _ (.il' (aP A))) (.cons (.same _ (gH _)) (.cons (.slE rfl rfl) .nil)))) .nil⟩,aL 1 nE,⟨2,_,rfl,rfl,.nil⟩,trivial⟩ ⟨aG,aN na,aN nb,⟨_,rfl,.nslk 2 2 _ rfl rfl⟩,aK,trivial⟩) ?_
 intro i hi;have da:decide ((i:Int)<(a.length:Int))=decide (i<a.length):=Ze.2 (by omega);have db:decide ((i:Int)<(b.length:Int))=decide (i<b.length):=Ze.2 (by omega);have hXl:((eF false a b).take i).length=i:=by rw[ZT,hl];omega
 have lX:=fE ((eF false a b).take i);rw[hXl] at lX;by_cases h1:i<a.length
 ·have st:=step i (by omega);have ea:(bK a)[((i:Nat):Int).toNat]? = some (gO a[i]):=by rw[Yl,nZ,Yj h1];rfl
  have sx:=sa _ (Y8 h1);rw[Ym,Yj h1,aAp] at st;generalize a[i]=x at *;rw[Y0 h1] at da;obtain⟨z,f0,z1,f1,z2,f2,ex1,ex2⟩:=jP x;by_cases h2:i<b.length
  ·have eb:(bK b)[((i:Nat):Int).toNat]? = some (gO b[i]):=by rw[Yl,nZ,Yj h2];rfl
   have sy:=sb _ (Y8 h2);rw[Yt h2,Ym,Yj h2,aAp] at st;generalize b[i]=y at *;rw[Y0 h2] at db;obtain⟨w,g0,w1,g1,w2,g2,ey1,ey2⟩:=jP y;have hA:=Qy x.n y.n (Yw sx (by omega)) (Yw sy (by omega));rw[←Int.natCast_add] at hA;obtain⟨u,v,ev⟩:=eR ((x.n+y.n:Nat):Int);have hc:gO (FS false x y)=_:=Hu (c:=x) (m:=x.n+y.n) ev ex2;have hs:=qI ((eF false a b).take i) (FS false x y);rw[←st,hc] at hs;have nS:=bW ((eF false a b).take (i+1));have hX1:((eF false a b).take (i+1)).length=i+1:=by rw[ZT,hl];omega
   rw[ex1,ey1,ev] at hA;rw[ex2] at ea;rw[ey2] at eb;rw[hXl];generalize bK ((eF false a b).take i)=S at *;refine Rr ?_;rw[la,da];refine Rr ?_;refine hN.go ?_ .nil nz;repeat(first|(rw[la,da];refine Rr ?_)|(rw[lb,db];refine Rr ?_)|(refine aB ea ?_;refine Rr ?_)|(refine aB eb ?_;refine Rr ?_)|(refine b9.2 ?_;refine Rr ?_)|(refine bO ?_;refine Rr ?_)|(refine Rr ?_;done))
   refine hA.go ?_ (.cons (fD _ _) (.cons (fD _ _) .nil)) (fD _ _);refine Rt ?_;repeat((first|rw[la,da]|rw[lb,db]|refine aB ea ?_|refine aB eb ?_);refine Rt ?_)
   refine aM (bT rfl rfl lX.symm (by simp;omega)) ?_;refine Rr ?_;exact .mk (i+1) [(0,0),(1,1),(15,2)] (by omega)
    (aE _ rfl ⟨⟨0,_,rfl,rfl,.cons (.agg (.cons (.same _ (.il' (aP A))) (.cons (.same _ (gH _)) (.cons (.slE rfl rfl) .nil)))) .nil⟩,aL 1 nE,⟨15,_,rfl,rfl,.eq nS (by rw[hs];rfl)⟩,trivial⟩ ⟨aG,aN na,aN nb,⟨_,rfl,.slE rfl (by rw[hX1];rfl)⟩,⟨_,rfl,.int (by rw[bA ⟨by omega,by omega⟩];simp)⟩,trivial⟩) (by omega)
  ·rw[Yo h2] at st;rw[ZC h2] at db;have hs:=qI ((eF false a b).take i) x;rw[←st,ex2] at hs;have nS:=bW ((eF false a b).take (i+1));have hX1:((eF false a b).take (i+1)).length=i+1:=by rw[ZT,hl];omega
   rw[ex2] at ea;rw[hXl];generalize bK ((eF false a b).take i)=S at *;refine Rr ?_;rw[la,da];refine Rr ?_;refine hN.go ?_ .nil nz;refine Rt ?_;repeat((first|rw[la,da]|rw[lb,db]|refine aB ea ?_);refine Rt ?_)
   refine aM (bT rfl rfl lX.symm (by simp;omega)) ?_;refine Rr ?_;exact .mk (i+1) [(0,0),(1,1),(5,2)] (by omega)
    (aE _ rfl ⟨⟨0,_,rfl,rfl,.cons (.agg (.cons (.same _ (.il' (aP A))) (.cons (.same _ (gH _)) (.cons (.slE rfl rfl) .nil)))) .nil⟩,aL 1 nE,⟨5,_,rfl,rfl,.eq nS (by rw[hs];rfl)⟩,trivial⟩ ⟨aG,aN na,aN nb,⟨_,rfl,.slE rfl (by rw[hX1];rfl)⟩,⟨_,rfl,.int (by rw[bA ⟨by omega,by omega⟩];simp)⟩,trivial⟩) (by omega)
 ·rw[ZC h1] at da;by_cases h2:i<b.length
  ·have st:=step i (by omega);have ga:a.getD i zC=zC:=by rw[Ym,Y3 (by omega)];rfl
   have eb:(bK b)[((i:Nat):Int).toNat]? = some (gO b[i]):=by rw[Yl,nZ,Yj h2];rfl
   have sy:=sb _ (Y8 h2);rw[Yt h2,Ym (l:=b),Yj h2,aAp,ga] at st;generalize b[i]=y at *;rw[Y0 h2] at db;obtain⟨w,g0,w1,g1,w2,g2,ey1,ey2⟩:=jP y;have hA:=Qy zC.n y.n (Yw YN (by omega)) (Yw sy (by omega));rw[←Int.natCast_add] at hA;obtain⟨u,v,ev⟩:=eR ((zC.n+y.n:Nat):Int);have hc:gO (FS false zC y)=_:=Hu (c:=zC) (m:=zC.n+y.n) ev ez2;have hs:=qI ((eF false a b).take i) (FS false zC y);rw[←st,hc] at hs;have nS:=bW ((eF false a b).take (i+1));have hX1:((eF false a b).take (i+1)).length=i+1:=by rw[ZT,hl];omega
   rw[ez1,ey1,ev] at hA;rw[ey2] at eb;rw[hXl];generalize bK ((eF false a b).take i)=S at *;refine Rr ?_;rw[la,da];refine Rr ?_;rw[lb,db];refine Rr ?_;refine hN.go ?_ .nil nz;refine Rt ?_;repeat((first|rw[la,da]|rw[lb,db]|refine aB eb ?_);refine Rt ?_)
   refine hA.go ?_ (.cons (fD _ _) (.cons (fD _ _) .nil)) (fD _ _);refine Rt ?_;repeat((first|rw[la,da]|rw[lb,db]|refine aB eb ?_);refine Rt ?_)
   refine aM (bT rfl rfl lX.symm (by simp;omega)) ?_;refine Rr ?_;exact .mk (i+1) [(0,0),(1,1),(15,2)] (by omega)
    (aE _ rfl ⟨⟨0,_,rfl,rfl,.cons (.agg (.cons (.same _ (.il' (aP A))) (.cons (.same _ (gH _)) (.cons (.slE rfl rfl) .nil)))) .nil⟩,aL 1 nE,⟨15,_,rfl,rfl,.eq nS (by rw[hs];rfl)⟩,trivial⟩ ⟨aG,aN na,aN nb,⟨_,rfl,.slE rfl (by rw[hX1];rfl)⟩,⟨_,rfl,.int (by rw[bA ⟨by omega,by omega⟩];simp)⟩,trivial⟩) (by omega)
  ·rw[ZC h2] at db;have he:(eF false a b).take i=eF false a b:=Yu (by rw[hl];omega);rw[he];have nS:=bW (eF false a b);have lE:=fE (eF false a b);refine Rr ?_;rw[la,da];refine Rr ?_;rw[lb,db];refine Rr ?_;exact bF (n':=2) (m':=gN A E 1) [(0,0),(1,1)] rfl (dL (ia:=0) (ib:=1) rfl rfl rfl rfl rfl rfl) (Cv.fzR (id:=2) rfl rfl (.same nS) lE) ⟨rfl,rfl,rfl⟩
set_option maxHeartbeats 16000000
theorem Ta{A:List Nd}(E:List Key)(a b:List Cell)(ha:a.length<=10000)(hb:b.length<=10000)(sa:∀c∈a,q7 c)(sb:∀c∈b,q7 c)(hP:∀i,(Bp a b i).length<=100000/\∀c∈Bp a b i,q7 c)(hW:∀(i:Nat) (h:i<a.length),∀c∈uC false i a[i] b,q7 c) :
  aF prog [] 154 [.ptr 0 0 0,.il 6 (bK a),.il 6 (bK b)] (gN A E 1) 2 fun r m k=>r = .il 6 (bK (hZ false a b))/\m=gN A E 1/\k=2:=by
 have na:NN (.il 6 (bK a)):=.il' (bW a);have nb:NN (.il 6 (bK b)):=.il' (bW b);have nE:=gI A E;have la:=fE a;have lb:=fE b;have hN:=Ak;have nz:=g8 zC;have hall:=RM a b;have hAdd:=fun(i:Nat) (h:i<a.length)=>Mi (A:=A) E (Bp a b i) (uC false i a[i] b) (hP i).1 (by unfold uC;rw[Y1,Z5];split<;>simp<;>omega) (hP i).2 (hW i h)
 have hnext:=fun(i:Nat) (h:i<a.length)=>Od (b:=b) h
 generalize hZ false a b=res at *;have hX0:Bp a b 0=[]:=rfl;have nX:=fun i=>bW (Bp a b i)
 generalize Bp a b=X at *;refine aD bD func154 rfl ?_;refine Rr ?_;refine aZ.at bD (fun i:Nat=>i<=a.length)
  (fun i=>⟨[(0,.ptr 0 0 0),(1,.il 6 (bK a)),(2,.il 6 (bK b)),(7,.il 6 (bK (X i))),(8,.int .i64 i)],[(0,.row 99 3 [.agg [.il 12 (bG A),.bool false,.sl 1 0 E.length]]),(1,.row 169 7 (iW A E))],2,85⟩) (fun i=>a.length-i) 0 [(0,0),(1,1)] (Zd _)
  (aE _ rfl ⟨⟨0,_,rfl,rfl,.cons (.agg (.cons (.same _ (.il' (aP A))) (.cons (.same _ (gH _)) (.cons (.slE rfl rfl) .nil)))) .nil⟩,aL 1 nE,trivial⟩ ⟨aG,aN na,aN nb,⟨_,rfl,by rw[hX0];exact .nil 6⟩,aK,trivial⟩) ?_
 intro i hi;refine Rr ?_;rw[la];refine aH (fun hbb=>?_) (fun hbb=>?_)
 ·have hlt:i<a.length:=by simpa using hbb
  have ea:(bK a)[((i:Nat):Int).toNat]? = some (gO a[i]):=by rw[Yl,nZ,Yj hlt];rfl
  have sx:=sa _ (Y8 hlt);have hAi:=hAdd i hlt;have hni:=hnext i hlt;rw[←hni] at hAi;have nXi:=nX i;generalize a[i]=x at *;obtain⟨z,f0,z1,f1,z2,f2,ex1,ex2,ex3⟩:=Q3 x;rw[ex2] at ea;have hf:decide ((((bJ f0).length:Nat):Int)>0)=decide (0<x.n):=by
   rw[←Kc,←ex3,aS,Ze];omega
  obtain⟨y0,r0,y1,r1,y2,r2,ez1,ez2⟩:=jP zC;obtain⟨d1,k1,d2,k2,e0⟩:=Aq ⟨0,1⟩;have hO:=Xi 0 ⟨by omega,by omega⟩;rw[e0] at hO;have hN':=hN;have nz':=nz;rw[ez2] at hN' nz';refine Rr ?_;refine aZ.ph 103 6 ?_;refine aZ.at bD (fun k:Nat=>k<=i)
   (fun k=>⟨[(0,.ptr 0 0 0),(1,.il 6 (bK a)),(2,.il 6 (bK b)),(7,.il 6 (bK (X i))),(8,.int .i64 i),(9,.sl 2 0 k),(10,.int .i64 k)],[(0,.row 99 3 [.agg [.il 12 (bG A),.bool false,.sl 1 0 E.length]]),(1,.row 169 7 (iW A E)),(2,.row 103 6 (bK (List.replicate k zC)))],3,85⟩) (fun k=>i-k) 0 [(0,0),(1,1),(2,2)] (Zd _)
   (aE _ rfl ⟨⟨0,_,rfl,rfl,.cons (.agg (.cons (.same _ (.il' (aP A))) (.cons (.same _ (gH _)) (.cons (.slE rfl rfl) .nil)))) .nil⟩,aL 1 nE,⟨2,_,rfl,rfl,.nil⟩,trivial⟩ ⟨aG,aN na,aN nb,aN (.il' nXi),aK,⟨_,rfl,.nslk 2 2 _ rfl rfl⟩,aK,trivial⟩) ?_
  intro k hk;refine Rr ?_;refine aH (fun hb2=>?_) (fun hb2=>?_)
  ·have hlk:k<i:=by simpa using hb2
   have lS:=fE (List.replicate k zC);rw[Z5] at lS;have hs:=M8 k;have nS:=bW (List.replicate (k+1) zC);rw[ez2] at hs;generalize bK (List.replicate k zC)=S at *;refine Rr ?_;refine hN'.go ?_ .nil nz';refine Rt ?_;refine aM (bT rfl rfl lS.symm (by simp;omega)) ?_;refine Rr ?_;exact .mk (k+1) [(0,0),(1,1),(4,2)] (by omega)
    (aE _ rfl ⟨⟨0,_,rfl,rfl,.cons (.agg (.cons (.same _ (.il' (aP A))) (.cons (.same _ (gH _)) (.cons (.slE rfl rfl) .nil)))) .nil⟩,aL 1 nE,⟨4,_,rfl,rfl,.eq nS (by rw[hs];rfl)⟩,trivial⟩ ⟨aG,aN na,aN nb,aN (.il' nXi),aK,⟨_,rfl,.slE rfl rfl⟩,⟨_,rfl,.int (by rw[bA ⟨by omega,by omega⟩];simp)⟩,trivial⟩) (by omega)
  ·have hke:k=i:=by
    have:¬k<i:=by simpa using hb2
    omega
   subst hke;have nR:=bW (List.replicate k zC);refine Rr ?_;refine aZ.at bD (fun q:Nat=>q<=b.length/\(0<q->0<x.n))
    (fun q=>⟨[(0,.ptr 0 0 0),(1,.il 6 (bK a)),(2,.il 6 (bK b)),(7,.il 6 (bK (X k))),(8,.int .i64 k),(9,.sl 2 0 (k+q)),(11,.int .i64 q)],[(0,.row 99 3 [.agg [.il 12 (bG A),.bool false,.sl 1 0 E.length]]),(1,.row 169 7 (iW A E)),(2,.row 103 6 (bK (List.replicate k zC++(b.take q).map (sX false x))))],3,85⟩) (fun q=>b.length-q) 0 [(0,0),(1,1),(2,2)] ⟨Zd _,by omega⟩
    (aE _ rfl ⟨⟨0,_,rfl,rfl,.cons (.agg (.cons (.same _ (.il' (aP A))) (.cons (.same _ (gH _)) (.cons (.slE rfl rfl) .nil)))) .nil⟩,aL 1 nE,⟨2,_,rfl,rfl,.eq (bW _) (by simp)⟩,trivial⟩ ⟨aG,aN na,aN nb,aN (.il' nXi),aK,⟨_,rfl,.slE rfl rfl⟩,aK,trivial⟩) ?_
   rintro q ⟨hq,hqx⟩;have hYl:(List.replicate k zC++(b.take q).map (sX false x)).length=k+q:=by simp;omega
   have lY:=fE (List.replicate k zC++(b.take q).map (sX false x));rw[hYl] at lY;have db:decide ((q:Int)<(b.length:Int))=decide (q<b.length):=Ze.2 (by omega);by_cases h2:q<b.length
   ·rw[Y0 h2] at db;by_cases h3:0<x.n
    ·rw[Y0 h3] at hf;have eb:(bK b)[((q:Nat):Int).toNat]? = some (gO b[q]):=by rw[Yl,nZ,Yj h2];rfl
     have sy:=sb _ (Y8 h2);have hYs:List.replicate k zC++(b.take (q+1)).map (sX false x)=(List.replicate k zC++(b.take q).map (sX false x))++[sX false x b[q]]:=by
      rw[Ys h2,Zk,←List.append_assoc];rfl
     have nS:=bW (List.replicate k zC++(b.take (q+1)).map (sX false x));generalize b[q]=y at *;obtain⟨w,g0,w1,g1,w2,g2,ey1,ey2⟩:=jP y;rw[ey2] at eb;have hM:=Wm x.n y.n (Yw sx (by omega)) (Yw sy (by omega));rw[←Int.natCast_mul] at hM;obtain⟨u,v,ev⟩:=eR ((x.n*y.n:Nat):Int);have hc:gO (sX false x y)=_:=C1 (c:=sX false x y) ev e0;have hs:=qI (List.replicate k zC++(b.take q).map (sX false x)) (sX false x y);rw[←hYs,hc] at hs;rw[ex1,ey1,ev] at hM;generalize bK (List.replicate k zC++(b.take q).map (sX false x))=Y at *;refine Rr ?_;rw[lb,db];refine Rt ?_;repeat(refine aB ea ?_;refine Rt ?_)
     rw[hf];refine Rt ?_;repeat((first|refine aB ea ?_|refine aB eb ?_);refine Rt ?_)
     refine hM.go ?_ (.cons (fD _ _) (.cons (fD _ _) .nil)) (fD _ _);refine Rt ?_;repeat((first|refine aB ea ?_|refine aB eb ?_);refine Rt ?_)
     refine hO.go ?_ (.cons nn .nil) (UY _ _ _ _);refine Rt ?_;repeat((first|refine aB ea ?_|refine aB eb ?_);refine Rt ?_)
     refine aM (bT rfl rfl lY.symm (by simp;omega)) ?_;refine Rr ?_;exact .mk (q+1) [(0,0),(1,1),(19,2)] ⟨by omega,fun _=>h3⟩
      (aE _ rfl ⟨⟨0,_,rfl,rfl,.cons (.agg (.cons (.same _ (.il' (aP A))) (.cons (.same _ (gH _)) (.cons (.slE rfl rfl) .nil)))) .nil⟩,aL 1 nE,⟨19,_,rfl,rfl,.eq nS (by rw[hs];rfl)⟩,trivial⟩ ⟨aG,aN na,aN nb,aN (.il' nXi),aK,⟨_,rfl,.slE rfl rfl⟩,⟨_,rfl,.int (by rw[bA ⟨by omega,by omega⟩];simp)⟩,trivial⟩) (by omega)
    ·have hq0:q=0:=by
      apply Nat.eq_zero_of_not_pos;exact fun e=>h3 (hqx e)
     have hYw:List.replicate k zC++(b.take q).map (sX false x)=uC false k x b:=by
      unfold uC;rw[Yo h3,hq0];simp
     rw[ZC h3] at hf;have nY:=bW (List.replicate k zC++(b.take q).map (sX false x));rw[←hYw] at hAi;have nr:NN (.il 6 (bK (X (k+1)))):=.il' (nX _);generalize hGY:bK (List.replicate k zC++(b.take q).map (sX false x))=Y at *;refine Rr ?_;rw[lb,db];refine Rt ?_;repeat(refine aB ea ?_;refine Rt ?_)
     rw[hf];refine Rr ?_;refine aF.pre bD [(0,0),(1,1)] (mem':=gN A E 1) rfl (dL (ia:=0) (ib:=1) rfl rfl rfl rfl rfl rfl) (.cons (.ptr 0 0 0 0 rfl) (.cons (.same _ (.il' nXi)) (.cons (Cv.fzR (id:=2) rfl rfl (.same nY) lY) .nil))) ?_;refine aF.useI bD [0,1] hAi rfl (.cons (.ptr 0 0 0 0 rfl) (.cons (.same _ (.il' nXi)) (.cons (.same _ (.il' nY)) .nil))) (dL (ia:=0) (ib:=1) rfl rfl rfl rfl rfl rfl) rfl ?_;rintro r m k' ⟨rfl,rfl,rfl⟩;refine⟨nr,dL (ia:=0) (ib:=1) rfl rfl rfl rfl rfl rfl,rfl, ?_⟩;refine Rr ?_;exact .mk (k+1) [(0,0),(1,1)] (by omega) (aE _ rfl ⟨⟨0,_,rfl,rfl,.cons (.agg (.cons (.same _ (.il' (aP A))) (.cons (.same _ (gH _)) (.cons (.slE rfl rfl) .nil)))) .nil⟩,aL 1 nE,trivial⟩ ⟨aG,aN na,aN nb,aN nr,⟨_,rfl,.int (by rw[bA ⟨by omega,by omega⟩];simp)⟩,trivial⟩) (by omega)
   ·rw[ZC h2] at db;have hYw:List.replicate k zC++(b.take q).map (sX false x)=uC false k x b:=by
     unfold uC;rw[Yu (by omega)];split
     ·rfl
     ·rename_i h3;have hq0:q=0:=by
       apply Nat.eq_zero_of_not_pos;exact fun e=>h3 (hqx e)
      have:b=[]:=Y6 (by omega);rw[this];rfl
    have nY:=bW (List.replicate k zC++(b.take q).map (sX false x));rw[←hYw] at hAi;have nr:NN (.il 6 (bK (X (k+1)))):=.il' (nX _);generalize hGY:bK (List.replicate k zC++(b.take q).map (sX false x))=Y at *;refine Rr ?_;rw[lb,db];refine Rr ?_;refine aF.pre bD [(0,0),(1,1)] (mem':=gN A E 1) rfl (dL (ia:=0) (ib:=1) rfl rfl rfl rfl rfl rfl) (.cons (.ptr 0 0 0 0 rfl) (.cons (.same _ (.il' nXi)) (.cons (Cv.fzR (id:=2) rfl rfl (.same nY) lY) .nil))) ?_;refine aF.useI bD [0,1] hAi rfl (.cons (.ptr 0 0 0 0 rfl) (.cons (.same _ (.il' nXi)) (.cons (.same _ (.il' nY)) .nil))) (dL (ia:=0) (ib:=1) rfl rfl rfl rfl rfl rfl) rfl ?_;rintro r m k' ⟨rfl,rfl,rfl⟩;refine⟨nr,dL (ia:=0) (ib:=1) rfl rfl rfl rfl rfl rfl,rfl, ?_⟩;refine Rr ?_;exact .mk (k+1) [(0,0),(1,1)] (by omega) (aE _ rfl ⟨⟨0,_,rfl,rfl,.cons (.agg (.cons (.same _ (.il' (aP A))) (.cons (.same _ (gH _)) (.cons (.slE rfl rfl) .nil)))) .nil⟩,aL 1 nE,trivial⟩ ⟨aG,aN na,aN nb,aN nr,⟨_,rfl,.int (by rw[bA ⟨by omega,by omega⟩];simp)⟩,trivial⟩) (by omega)
 ·have he:i=a.length:=by
   have:¬i<a.length:=by simpa using hbb
   omega
  subst he;have nr:NN (.il 6 (bK (X a.length))):=.il' (nX _);rw[hall] at nr ⊢;refine Rr ?_;exact bF (n':=2) (m':=gN A E 1) [(0,0),(1,1)] rfl (dL (ia:=0) (ib:=1) rfl rfl rfl rfl rfl rfl) (.same _ nr) ⟨rfl,rfl,rfl⟩
set_option maxHeartbeats 16000000
theorem Cn{A:List Nd}(E:List Key)(a b:List Cell)(ha:a.length<=10000)(hb:b.length<=10000)(sa:cR a<=mO 300)(sb:cR b<=mO 300):aF prog [] 154 [.ptr 0 0 0,.il 6 (bK a),.il 6 (bK b)] (gN A E 1) 2 fun r m k=>r = .il 6 (bK (hZ false a b))/\m=gN A E 1/\k=2:=by
 have hm:∀n m:Nat,n<=mO 300->m<=mO 300->n*m<=mO 600:=fun n m h1 h2=>by
  have h:=Zs h1 h2
  rwa [q6] at h
 refine Ta E a b ha hb (fun c hc=>kR (Yw (oI hc) (Yw sa (c8 (by omega))))) (fun c hc=>kR (Yw (oI hc) (Yw sb (c8 (by omega))))) (fun i=>⟨?_,fun c hc=>kR ?_⟩) fun i hi c hc=>kR ?_
 ·rw[MX];refine Yw (QB _ _) ?_;rw[ZT];omega
 ·refine Yw (oI hc) ?_;rw[MX,nD];exact hm _ _ (Yw (sS a i) sa) sb
 ·refine Yw (oI hc) ?_;rw[Fu];exact hm _ _ (Yw (oI (Y8 hi)) sa) sb
theorem MH{A:List Nd}(E:List Key)(a b:List Cell)(ha:a.length<=100000)(hb:b.length<=100000)(sa:cR a<=mO 600)(sb:cR b<=mO 600):aF prog [] 153 [.ptr 0 0 0,.il 6 (bK a),.il 6 (bK b)] (gN A E 1) 2 fun r m k=>r = .il 6 (bK (eF false a b))/\m=gN A E 1/\k=2:=
 Mi E a b ha hb (fun c hc=>kR (Yw (oI hc) sa)) fun c hc=>kR (Yw (oI hc) sb)
theorem GV{A:List Nd}{E:List Key}{f:Nat}{a b:List Cell}{res:List Cell}(h:aF prog [] f [.ptr 0 0 0,.il 6 (bK a),.il 6 (bK b)] (gN A E 1) 2 fun r m k=>r = .il 6 (bK res)/\m=gN A E 1/\k=2){mem:aQ}{nx:Nat}(rid:Nat){K:AV->aQ->Nat->Prop}
  (hp:jM [0,rid] mem=gN A E rid) (s0:lk [(0,0),(rid,1)] 0=some 0) (s1:lk [(0,0),(rid,1)] rid=some 1) (m0:lk (gN A E rid) 0=some (.row 99 3 [.agg [.il 12 (bG A),.bool false,.sl rid 0 E.length]])) (m1:lk (gN A E rid) rid=some (.row 169 7 (iW A E))) (hc0:(oD (gN A E 1) && (n9 [(0,0),(rid,1)] && tI 2 [(0,0),(rid,1)]))=true)
  (t1:lk [(0,0),(1,rid)] 1=some rid) (hc:(oD (gN A E rid) && (n9 [(0,0),(1,rid)] && (Nat.ble nx nx && (tO [0,rid] nx (gN A E rid) && Ao [(0,0),(rid,1)] 2 nx nx [(0,0),(1,rid)]))))=true)
  (hk:K (.il 6 (bK res)) (gN A E rid++iS [0,rid] mem) nx):aF prog [] f [.ptr 0 0 0,.il 6 (bK a),.il 6 (bK b)] mem nx K:=by
 refine aF.useN bD [(0,0),(rid,1)] h hp (.cons (.ptr 0 0 0 0 s0) (.cons (.same _ (.il' (bW _))) (.cons (.same _ (.il' (bW _))) .nil))) (dL (ia:=0) (ib:=rid) s0 s1 m0 m1 rfl rfl) hc0 ?_;rintro r m k ⟨rfl,rfl,rfl⟩;exact⟨[(0,0),(1,rid)],.il 6 (bK res),gN A E rid,nx,.same _ (.il' (bW _)),dL (ia:=0) (ib:=1) rfl t1 rfl rfl rfl rfl,hc,hk⟩
end Go.Proofs.YtidjhgajglebnaaGreatDoor
namespace Go.Ax
open Go
def lW(A:List Nd)(j:Nat):Option aR->List Cell
 | none=>(g5 false).all A j
 | some v=>(g5 false).of A j v
def Np(A:List Nd)(x:Nd)(o:Option aR)(k:Nat):List Cell:=(x.kids.zipIdx.take k).foldl (fun f kc=>eF false f (hZ false (jI 1 (x.weights.getD kc.2 0) (pO x.weights)) (lW A kc.1.toNat o))) []
def Nv(A:List Nd)(x:Nd)(o:Option aR)(k:Nat):List Cell:=((x.values.zip (x.kids.drop 1)).take k).foldl (fun f vk=>eF false f (hZ false (lW A (gB x) (some vk.1)) (lW A vk.2.toNat o))) []
def JP(A:List Nd)(x:Nd)(ps:List (Option aR))(k:Nat):List Cell:=((x.kids.zip ps).take k).foldl (fun f kp=>hZ false f (lW A kp.1.toNat kp.2)) fW
theorem Qc{A:List Nd}{x:Nd}{o:Option aR}{k:Nat}(h:k<x.kids.length):Np A x o (k+1)=eF false (Np A x o k) (hZ false (jI 1 (x.weights.getD k 0) (pO x.weights)) (lW A (x.kids[k]).toNat o)):=by
 unfold Np;rw[Ys (by simpa using h),Zb];simp
theorem Qu{A:List Nd}{x:Nd}{o:Option aR}{k:Nat}(h:k<x.values.length)(hl:x.kids.length=x.values.length+1):Nv A x o (k+1)=eF false (Nv A x o k) (hZ false (lW A (gB x) (some x.values[k])) (lW A (x.kids[k+1]).toNat o)):=by
 have h1:k<(x.values.zip (x.kids.drop 1)).length:=by simp;omega
 unfold Nv;rw[Ys h1,Zb,IH h hl h1];rfl
theorem J6{A:List Nd}{x:Nd}{ps:List (Option aR)}{k:Nat}(h:k<x.kids.length)(hl:k<ps.length):JP A x ps (k+1)=hZ false (JP A x ps k) (lW A (x.kids[k]).toNat ps[k]):=by
 have h1:k<(x.kids.zip ps).length:=by simp;omega
 unfold JP;rw[Ys h1,Zb,aBF];rfl
theorem VT.wlen{A:List Nd}(h:VT A){i:Nat}{x:Nd}(hx:A[i]? = some x)(h2:x.kind=2):x.weights.length=x.kids.length/\1<=x.kids.length:=by
 have hf:=kK (uA A h.v0 i x hx);unfold dN at hf;simp only[Yk,Zy,ZA] at hf;rcases hf.1.1.1.2 with h3|h3
 ·exact absurd h2 h3
 ·exact⟨h3.1.2,h3.1.1.1⟩
section
variable {A:List Nd} (h:VT A) {i:Nat} (hi:i<A.length)
include h hi
theorem Sd(h2:(aJ A i).kind=2)(o:Option aR):lW A i o=Np A (aJ A i) o (aJ A i).kids.length:=by
 cases o with
 | none=>
  show (g5 false).all A i=_
  rw[(g5 false).all_eq h hi]
  show kO _ _ _ _=_
  unfold kO Np;rw[Yo (by omega),Yo (by omega),Yt h2,Yu (by simp)];rfl
 | some v=>
  show (g5 false).of A i v=_
  rw[(g5 false).of_eq h hi]
  show kM _ _ _ _=_
  unfold kM Np;rw[Yo (by omega),Yo (by omega),Yo (by omega),Yt h2,Yu (by simp)];rfl
theorem R4(h4:(aJ A i).kind=4)(o:Option aR):lW A i o=Nv A (aJ A i) o (aJ A i).values.length:=by
 have hb:=(h.node (bS hi)).node.bind h4;have e:((aJ A i).values.zip ((aJ A i).kids.drop 1)).take (aJ A i).values.length=(aJ A i).values.zip ((aJ A i).kids.drop 1):=Yu (by simp;omega);cases o with
 | none=>
  show (g5 false).all A i=_
  rw[(g5 false).all_eq h hi]
  show kO _ _ _ _=_
  unfold kO Nv;rw[Yo (by omega),Yo (by omega),Yo (by omega),Yt h4,e];rfl
 | some v=>
  show (g5 false).of A i v=_
  rw[(g5 false).of_eq h hi]
  show kM _ _ _ _=_
  unfold kM Nv;rw[Yo (by omega),Yo (by omega),Yo (by omega),Yo (by omega),Yt h4,e];rfl
theorem SY(h3:(aJ A i).kind=3):lW A i none=JP A (aJ A i) (List.replicate (aJ A i).kids.length none) (aJ A i).kids.length:=by
 show (g5 false).all A i=_
 rw[(g5 false).all_eq h hi]
 show kO _ _ _ _=_
 unfold kO JP;rw[Yo (by omega),Yt h3,Yu (by simp)];generalize fW=e;generalize (aJ A i).kids=ks
 induction ks generalizing e with
 | nil=>rfl
 | cons k ks ih=>rw[ZH,Zt,Z2,Y9,Y9,ih];rfl
theorem Sr(h3:(aJ A i).kind=3)(v:aR):lW A i (some v)=if jH (aJ A i) v=true then JP A (aJ A i) ((jZ v).map some) (aJ A i).kids.length else []:=by
 show (g5 false).of A i v=_
 rw[(g5 false).of_eq h hi]
 show kM _ _ _ _=_
 unfold kM JP;rw[Yo (by omega),Yo (by omega),Yt h3,Yu (by simp;omega)];split
 ·generalize fW=e;generalize (aJ A i).kids=ks;generalize jZ v=vs
  induction ks generalizing e vs with
  | nil=>simp
  | cons k ks ih=>
   cases vs with
   | nil=>simp
   | cons u us=>rw[Z2,Y9,ZP,Z2,Y9,ih];rfl
 ·rfl
theorem Ri(h0:(aJ A i).kind=0):lW A i none=fW:=by
 show (g5 false).all A i=_
 rw[(g5 false).all_eq h hi]
 show kO _ _ _ _=_
 unfold kO;rw[Yo (by omega),Yo (by omega),Yo (by omega),Yo (by omega)]
theorem SH(h0:(aJ A i).kind=0)(v:aR):lW A i (some v)=if cE (aJ A i).value v=0 then fW else []:=by
 show (g5 false).of A i v=_
 rw[(g5 false).of_eq h hi]
 show kM _ _ _ _=_
 unfold kM;rw[Yt h0]
theorem Sa(h1:(aJ A i).kind=1):lW A i none=jI ((aJ A i).hi-(aJ A i).lo+1) 1 1:=by
 show (g5 false).all A i=_
 rw[(g5 false).all_eq h hi]
 show kO _ _ _ _=_
 unfold kO;rw[Yt h1]
theorem S2(h1:(aJ A i).kind=1)(v:aR):lW A i (some v)=if BF (aJ A i) v=true then jI 1 1 ((aJ A i).hi-(aJ A i).lo+1) else []:=by
 show (g5 false).of A i v=_
 rw[(g5 false).of_eq h hi]
 show kM _ _ _ _=_
 unfold kM;rw[Yo (by omega),Yt h1]
theorem Ef{o:Option aR}(ho:∀v,o=some v->bP v=0):(lW A i o).length<=mU A i+1/\cR (lW A i o)<=mO (mU A i):=by
 obtain⟨h1,h2⟩:=Tb false h i hi;obtain⟨h3,h4⟩:=Gn false h i hi;have h5:=pI h i hi;cases o with
 | none=>exact⟨h1,by show cR ((g5 false).all A i)<=_;omega⟩
 | some v=>exact⟨h2 v,by
   show cR ((g5 false).of A i v)<=_
   rw[h4 v (ho v rfl)];exact Yw (Je h hi v) h5⟩
theorem oM{o:Option aR}(ho:∀v,o=some v->bP v=0):(lW A i o).length<=257/\cR (lW A i o)<=mO 256:=by
 obtain⟨h1,h2⟩:=Ef h hi ho;have h3:=(h.lenS (bS hi)).1;exact⟨by omega,Yw h2 (c8 h3)⟩
end
theorem B1(m:Bool){α:Type}(f:α->List Cell){P:Nat}:∀(l:List α) (out:List Cell),(∀x∈l,cR (f x)<=P)->cR (l.foldl (fun o x=>eF m o (f x)) out)<=cR out+l.length*P
 | [],out,_=>by simp
 | x::l,out,hf=>by
  rw[Y9];refine Yw (B1 m f l _ fun y hy=>hf y (Yx _ hy)) ?_;rw[oX,ZH,Nat.add_mul];have:=hf x (Y7 ..);omega
theorem Lc{n p:Nat}(hn:n<=1000000)(hp:p<=mO 512):n*p<=mO 600:=by
 have h1:n<=mO 1:=by rw[HG];omega
 have h2:=Zs h1 hp;rw[q6] at h2;exact Yw h2 (c8 (by omega))
theorem Aa{a b:List Cell}(ha:cR a<=mO 256)(hb:cR b<=mO 256):cR (hZ false a b)<=mO 512:=by
 rw[nD];have h:=Zs ha hb;rw[q6] at h;exact h
section
variable {A:List Nd} (h:VT A) {i:Nat} (hi:i<A.length)
include h hi
theorem Wu(h2:(aJ A i).kind=2){o:Option aR}(ho:∀v,o=some v->bP v=0)(k:Nat):(Np A (aJ A i) o k).length<=257/\cR (Np A (aJ A i) o k)<=mO 600:=by
 have hk:=fun(q:Int) (hq:q∈(aJ A i).kids)=>o7 h hi hq
 obtain⟨l1,l2,l3,l4,l5⟩:=h.lenS (bS hi);have hkl:=h.tin.klen _ (Yv (bS hi));unfold Np;generalize aJ A i=x at *;constructor
 ·refine qS false (fun kc:Int × Nat=>hZ false (jI 1 (x.weights.getD kc.2 0) (pO x.weights)) (lW A kc.1.toNat o)) _ _ (by simp) fun kc hm=>?_
  have hm':=d8 (ZG hm);have e:=iK false (a:=jI 1 (x.weights.getD kc.2 0) (pO x.weights)) (p:=1) (by simp[jI]) (Ef h (hk _ hm') ho).1;have:=l4 h2 _ hm';omega
 ·refine Yw (B1 false (fun kc:Int × Nat=>hZ false (jI 1 (x.weights.getD kc.2 0) (pO x.weights)) (lW A kc.1.toNat o)) (P:=mO 512) _ _ fun kc hm=>?_) ?_
  ·have hm':=d8 (ZG hm);exact Aa (by rw[sA];exact mW _) (oM h (hk _ hm') ho).2
  ·rw[show cR []=0 from rfl,ZD];refine Lc ?_ (Yy _);rw[ZT,List.length_zipIdx];omega
theorem Ww(h4:(aJ A i).kind=4)(hvv:∀u∈(aJ A i).values,bP u=0){o:Option aR}(ho:∀v,o=some v->bP v=0)(k:Nat):(Nv A (aJ A i) o k).length<=257/\cR (Nv A (aJ A i) o k)<=mO 600:=by
 have hk:=fun(q:Int) (hq:q∈(aJ A i).kids)=>o7 h hi hq
 obtain⟨l1,l2,l3,l4,l5⟩:=h.lenS (bS hi);have hkl:=h.tin.vlen _ (Yv (bS hi));unfold Nv;generalize aJ A i=x at *;have e2:gB x=(x.kids.getD 0 0).toNat:=rfl;constructor
 ·refine qS false (fun vk:aR × Int=>hZ false (lW A (gB x) (some vk.1)) (lW A vk.2.toNat o)) _ _ (by simp) fun vk hm=>?_
  have hm':=ZG hm;obtain⟨m1,m2⟩:=cU hm';obtain⟨m3,m4⟩:=Zq hm';have hk2:=hk _ m2;rw[←e2] at hk2;have e:=iK false (Ef h hk2 (o:=some vk.1) (fun v e=>by injection e with e;exact e ▸ hvv _ m3)).1 (Ef h (hk _ m1) ho).1;have:=l5 h4 _ m4;omega
 ·refine Yw (B1 false (fun vk:aR × Int=>hZ false (lW A (gB x) (some vk.1)) (lW A vk.2.toNat o)) (P:=mO 512) _ _ fun vk hm=>?_) ?_
  ·have hm':=ZG hm;obtain⟨m1,m2⟩:=cU hm';obtain⟨m3,m4⟩:=Zq hm';have hk2:=hk _ m2;rw[←e2] at hk2;exact Aa (oM h hk2 (o:=some vk.1) (fun v e=>by injection e with e;exact e ▸ hvv _ m3)).2 (oM h (hk _ m1) ho).2
  ·rw[show cR []=0 from rfl,ZD];refine Lc ?_ (Yy _);rw[ZT,List.length_zip];omega
theorem Tk(h3:(aJ A i).kind=3)(ps:List (Option aR))(hps:∀o∈ps,∀v,o=some v->bP v=0)(k:Nat):(JP A (aJ A i) ps k).length<=257/\cR (JP A (aJ A i) ps k)<=mO 256:=by
 have hk:=fun(q:Int) (hq:q∈(aJ A i).kids)=>o7 h hi hq
 obtain⟨l1,l2,l3,l4,l5⟩:=h.lenS (bS hi);unfold JP;generalize aJ A i=x at *;have e:(x.kids.zip ps).take k=(x.kids.take k).zip (ps.take k):=BX _ _ _;rw[e];have key:∀(ks:List Int) (ps:List (Option aR)) (f:List Cell) (n:Nat),(∀q∈ks,q∈x.kids)->(∀o∈ps,∀v,o=some v->bP v=0)->f.length<=n+1->cR f<=mO n->((ks.zip ps).foldl (fun f kp=>hZ false f (lW A kp.1.toNat kp.2)) f).length<=n+lU A ks+1/\cR ((ks.zip ps).foldl (fun f kp=>hZ false f (lW A kp.1.toNat kp.2)) f)<=mO (n+lU A ks):=by
  intro ks
  induction ks with
  | nil=>intro ps f n _ _ h1 h2;simpa[lU] using And.intro h1 h2
  | cons q ks ih=>
   intro ps f n hq hp h1 h2;cases ps with
   | nil=>exact⟨by simp only[List.zip_nil_right,aBM];omega,Yw (by simpa using h2) (c8 (by omega))⟩
   | cons o ps=>
    rw[Z2,Y9];have hb:=Ef h (hk q (hq q (Y7 ..))) (hp o (Y7 ..));have e1:=iK false h1 hb.1;have e2:cR (hZ false f (lW A q.toNat o))<=mO (n+mU A q.toNat):=by
     rw[nD,←q6];exact Zs h2 hb.2
    have:=ih ps (hZ false f (lW A q.toNat o)) (n+mU A q.toNat) (fun r hr=>hq r (Yx _ hr)) (fun r hr=>hp r (Yx _ hr)) e1 e2;have es:lU A (q::ks)=mU A q.toNat+lU A ks:=by simp[lU]
    rw[es,←Nat.add_assoc];exact this
 obtain⟨e1,e2⟩:=key (x.kids.take k) (ps.take k) fW 0 (fun q hq=>ZG hq) (fun o ho=>hps o (ZG ho)) (by simp[fW]) (mW 0);have es:lU A (x.kids.take k)<=lU A x.kids:=by
  unfold lU
  conv=>rhs;rw[←List.take_append_drop k x.kids]
  rw[Zk,aAb];omega
 have:=l3 h3;exact⟨by omega,Yw e2 (c8 (by omega))⟩
end
theorem K3{x:Nd}{k n:Int}{s:List UInt8}{ks:List aR}(hv:bP (.mk k n s ks)=0):jH x (.mk k n s ks)=true↔(if x.name=[] then 2 else 3)=k/\x.name=s/\ks.length=x.kids.length:=by
 rw[t7];have hf:=(j8 hv).1;simp only[bR,Yk] at hf;have hf:=hf.1;unfold cT at hf;constructor
 ·rintro⟨h1,h2⟩;by_cases hn:x.name=[]
  ·rw[Yt hn] at h2 ⊢;subst h2;simp at hf;exact⟨rfl,by rw[hn,hf.2],h1⟩
  ·rw[Yo hn] at h2 ⊢;exact⟨h2.1.symm,h2.2.symm,h1⟩
 ·rintro⟨h1,h2,h3⟩;refine⟨h3, ?_⟩;by_cases hn:x.name=[]
  ·rw[Yt hn] at h1 ⊢;exact h1.symm
  ·rw[Yo hn] at h1 ⊢;exact⟨h1.symm,h2.symm⟩
theorem JQ(n:List UInt8)(ks:List aR):eA n ks = .mk (if n=[] then 2 else 3) 0 n ks:=by
 unfold eA;by_cases h:n=[]
 ·subst h;rfl
 ·rw[Yo h,Yo h]
end Go.Ax
