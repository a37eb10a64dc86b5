/- A part of the proof. -/
import Derived.Test.YtioogodkiglceaaGreatDoorAx17
set_option linter.unusedVariables false
set_option linter.unusedSimpArgs false
set_option linter.unusedSectionVars false
namespace Go.Proofs.YtioogodkiglceaaGreatDoor
open Go Go.Ax Go.Proofs Tryz
set_option maxRecDepth 100000
set_option maxHeartbeats 16000000
theorem Tt(a b:Int):Sc (.tup [.int .i64 a,.int .i64 b]):=.tup _ fun j c h=>by
 match j,h with
 | 0,h=>simp at h;subst h;exact .int _ _
 | 1,h=>simp at h;subst h;exact .int _ _
 | j+2,h=>simp at h
theorem KQ{B:List Nd}(h:VT B){out:List Int}(hi:I3 B out):jV out (j8 B out)=AN B out:=by
 unfold jV;rw[VY]
 ·rfl
 ·rintro⟨h1,h2⟩;have e1:(j8 B out).stop=(AN B out).stop:=rfl;have e2:(j8 B out).used=(AN B out).used:=rfl;rcases IY h hi with⟨h3,h4⟩|⟨n,h3,h4⟩<;>omega
theorem NF{A:List Nd}(h:VT A)(raw:List Int){i:Nat}(hi:i<(iV A raw).length):∃j:Nat,jV ((iV A raw).take i) (j8 A ((iV A raw).take i))=AN A ((iV A raw).take i)/\(AN A ((iV A raw).take i)).stop=(j:Int):=by
 have hl:((iV A raw).take i).length=i:=by rw[V3];omega
 obtain⟨n,hn1,hn2,hn3⟩:=(qH h (raw:=raw) (out:=(iV A raw).take i) (by rw[hl];rfl)).2 (by rw[hl];exact hi);refine⟨n, ?_,hn2⟩;unfold jV;rw[VY]
 ·rfl
 ·rintro⟨h1,-⟩;have e1:(j8 A ((iV A raw).take i)).stop=(AN A ((iV A raw).take i)).stop:=rfl;omega
theorem H5{A:List Nd}{n:Nat}(h:n<A.length):(aW A)[((n:Nat):Int).toNat]? = some (bW (aE A n)):=pQ h
theorem Ud{A B:List Nd}(hA:N6 A)(hB:N6 B)(raw:List Int)(hri:∀x∈iV A raw,i64 x) :
  aH prog gz 9 [.agg [.il 12 (aW A)],.agg [.il 12 (aW B)],.il 1 (aS (iV A raw))] [] 0 fun r m k=>
   ∃q:List Int,I3 B q/\(AN B q).stop = -1/\(∀x∈q,i64 x)/\(Go.Ax.f6 A B=0->q=iV A raw)/\r = .tup [.il 1 (aS q),.bool true]/\m=[]/\k=0:=by
 have nA:NN (.il 12 (aW A)):=.il' (aY A);have nB:NN (.il 12 (aW B)):=.il' (aY B);have tA:NN (.agg [.il 12 (aW A)]):=.agg' (.cons nA .nil);have tB:NN (.agg [.il 12 (aW B)]):=.agg' (.cons nB .nil);have npp:NN (.il 1 (aS (iV A raw))):=.il' (aM _);have hpl:(iV A raw).length<=256:=uN hA.vt raw;have hstep:=fun(i:Nat) (hi:i<(iV A raw).length)=>NF hA.vt raw hi
 have hsame:=fun(hs:Go.Ax.f6 A B=0) (i:Nat) (hi:i<(iV A raw).length)=>LW hA.vt hB.vt hs raw hi
 have hend:=fun(hs:Go.Ax.f6 A B=0)=>OS hA.vt hB.vt hs raw
 have hfe:(gG A raw).cs=iV A raw:=rfl;rw[hfe] at hend;simp only[hfe] at hsame;have lnA:=bD A;have lnB:=bD B;have lpp:=aC (iV A raw);have hAtA:=fun(i:Nat) (hi:i<(iV A raw).length)=>VK (A:=A) (p:=(iV A raw).take i) ⟨hA.vt,by rw[V3];omega,fun x hx=>hri x (WE hx),hA.cnt _⟩
 generalize iV A raw=p at *;refine aK eS func9 rfl ?_;refine Rr ?_;refine bC.ph 3 1 ?_;refine bC.at eS (fun x:List Int=>I3 B x/\(∀y∈x,i64 y)/\(Go.Ax.f6 A B=0->x.length<=p.length/\x=p.take x.length))
  (fun x=>⟨[(2,.il 1 (aS p)),(3,.ip (.agg [.il 12 (aW A)])),(4,.ip (.agg [.il 12 (aW B)])),(8,.sl 0 0 x.length),(9,.int .i64 x.length)],[(0,.row 3 1 (aS x))],1,84⟩)
  (fun x=>300-x.length) [] [(2,0)] ⟨PY B,by simp,fun _=>⟨by simp,by simp⟩⟩
  (aG _ rfl ⟨⟨2,_,rfl,rfl,.nil⟩,trivial⟩ ⟨aR npp,⟨_,rfl,I5 (c:=.il 12 (aW A)) rfl rfl rfl rfl rfl (.same _ nA)⟩,⟨_,rfl,I5 (c:=.il 12 (aW B)) rfl rfl rfl rfl rfl (.same _ nB)⟩,⟨_,rfl,.nslk 2 0 _ rfl rfl⟩,aF,trivial⟩) ?_
 rintro x ⟨x1,x2,x3⟩;have hst:=IY hB.vt x1;have hxl:x.length<=256:=by
  have h1:=x1.1;have h2:=uN hB.vt x;omega
 have d1:decide ((x.length:Int)<300)=true:=Vi om;have lx:=aC x;have hAtB:=VK (A:=B) (p:=x) ⟨hB.vt,om,x2,hB.cnt _⟩;rw[KQ hB.vt x1] at hAtB;rcases hst with⟨s1,s2⟩|⟨n,s1,s2⟩
 ·rw[s1] at hAtB;have hAt:=hAtB (by decide);refine Rr ?_;rw[d1];refine Rr ?_;refine bB.lend hAt.glob eS (.cons (.same _ tB) (.cons (rP (id:=0) rfl lx.symm rfl (aM x)) .nil)) (Tt _ _) ?_;refine Rr ?_;rw[show decide ((-1:Int)≥(((aW B).length:Nat):Int))=false from Vv om];refine Rr ?_;refine dK (r':=.tup [.il 1 (aS x),.bool true]) (.tup' (.cons (rP (id:=0) rfl lx.symm rfl (aM x)) (.s .nil))) ⟨x,x1,s1,x2,fun hs=>?_,rfl,rfl,rfl⟩;obtain⟨y1,y2⟩:=x3 hs;rcases Vm x.length p.length with hlt|hge
  ·obtain⟨j,k,-,h2,-⟩:=hsame hs x.length hlt;rw[←y2] at h2;omega
  ·rw[y2];exact Vl om
 ·obtain⟨hn,hnk⟩:=EI hB.vt s1;rw[s1] at hAtB;have hAt:=hAtB om;have gB:=hB.vt.node (bY hn);have hoB:=hB.vt.opt (bY hn) hnk;have hob:=qI gB.opt;have ho2:=LV hnk;have hw:IntKind.i64.wrap ((x.length:Int)+1)=(x.length:Int)+1:=cV ⟨om,om⟩;refine Rr ?_;rw[d1];refine Rr ?_;refine bB.lend hAt.glob eS (.cons (.same _ tB) (.cons (rP (id:=0) rfl lx.symm rfl (aM x)) .nil)) (Tt _ _) ?_;refine Rr ?_;rw[show decide (((n:Nat):Int)≥(((aW B).length:Nat):Int))=false from Vv om];refine Rr ?_;rw[show decide (((n:Nat):Int)<0)=false from Vv om];refine Rr ?_;by_cases hlt:x.length<p.length
  ·rw[show decide (((x.length:Nat):Int)<(((aS p).length:Nat):Int))=true from Vi om];obtain⟨j,j1,j2⟩:=hstep x.length hlt;have hA1:=hAtA x.length hlt;rw[j1,j2] at hA1;have hA2:=hA1 om;obtain⟨hj,hjk⟩:=EI hA.vt j2;have gA:=hA.vt.node (bY hj);have ek:(aS p)[((x.length:Nat):Int).toNat]? = some (.int .i64 (p.getD x.length 0)):=by
    rw[Va,a8,VV hlt,VW,VV hlt];rfl
   have hki:i64 (p.getD x.length 0):=by
    rw[VW,VV hlt];exact hri _ (Vw hlt)
   have hxA:=bY hj;have hxB:=bY hn;have hD:=Ko (aE A j) (aE B n) (p.getD x.length 0) hki gA.opt gB.opt (fun s hs=>by have:=hA.vt.tin.lab _ (Ve hxA) s hs;omega) (hB.vt.tin.llen _ (Ve hxB));obtain⟨o1,o2⟩:=Qf (a:=aE A j) (k:=p.getD x.length 0) gB.opt hnk;have ho3:Go.Ax.f6 A B=0->(qO (aE A j) (aE B n) (p.getD x.length 0)).1=p.getD x.length 0:=fun hs=>by
    obtain⟨j',k',g1,g2,g3⟩:=hsame hs x.length hlt;obtain⟨y1,y2⟩:=x3 hs;rw[←y2] at g2;have:j'=j:=om;subst this;have:k'=n:=om;subst this;exact g3
   have cs:=IW hB.vt x1 s1 o1 (by rw[←ho2];exact o2);have exA:=H5 hj;have exB:=H5 hn;have nxA:=aV (aE A j);have nxB:=aV (aE B n);generalize qO (aE A j) (aE B n) (p.getD x.length 0)=co at *;obtain⟨c,ok⟩:=co;simp only at o1 o2 ho3 cs;have hci:i64 c:=⟨om,om⟩
   clear hxA hxB hjk hnk gA hoB ho2;generalize aE A j=yA at *;generalize aE B n=yB at *;clear gB;obtain⟨k1,n1,l1,h1,w1,b1,v1,ks1,⟨vk1,vn1,vs1,vks1⟩⟩:=yA;obtain⟨k2,n2,l2,h2,w2,b2,v2,ks2,⟨vk2,vn2,vs2,vks2⟩⟩:=yB;have npt:NN (.il 1 (aS (p.take x.length))):=.il' (aM _);refine Rr ?_;refine aN (by rw[lpp,Vc om,Vc (by simp;omega),Vc om];rfl) ?_;rw[show List.take (((x.length:Nat):Int).toNat-0) (List.drop 0 (aS p))=aS (p.take x.length) by simp[aS,List.map_take]];refine Rr ?_;refine bB.use hA2.glob eS (.cons tA (.cons npt .nil)) (.tup' (.cons nn (.cons nn .nil))) ?_;refine Rr ?_;rw[show decide (((j:Nat):Int)<0)=false from Vv om];refine Rr ?_;rw[show decide (((j:Nat):Int)≥(((aW A).length:Nat):Int))=false from Vv om];refine Rr ?_;repeat((first|refine aD exA ?_|refine aD exB ?_|refine aD ek ?_|refine aU ?_);refine Rr ?_)
   refine hD.use eS (.cons nxA (.cons nxB (.cons nn .nil))) (.tup' (.cons nn (.cons nn .nil))) ?_;refine Rr ?_;refine aN (bV rfl rfl (by rw[lx]) (by simp;omega)) ?_;refine Rr ?_;exact .mk (x++[c]) [(31,0)] ⟨cs,fun y hy=>by
     rcases Vs.1 hy with hy|hy
     ·exact x2 y hy
     ·simp at hy;rw[hy];exact hci,fun hs=>by
     obtain⟨y1,y2⟩:=x3 hs;refine⟨by simp;omega, ?_⟩;rw[Vf,WC,Xk,←y2,VV hlt,ho3 hs,VW,VV hlt];rfl⟩
    (aG _ rfl ⟨⟨31,_,rfl,rfl,.eq (aM _) (by simp[aS])⟩,trivial⟩ ⟨aR npp,aR (.ip' tA),aR (.ip' tB),⟨_,rfl,.slE rfl (by simp)⟩,⟨_,rfl,.int (by rw[hw];simp)⟩,trivial⟩) (by simp;omega)
  ·rw[show decide (((x.length:Nat):Int)<(((aS p).length:Nat):Int))=false from Vv om];refine Rr ?_;refine aN (bV rfl rfl (by rw[lx]) (by simp;omega)) ?_;refine Rr ?_;have cs:=IW hB.vt x1 s1 (c:=0) (Int.le_refl _) om;exact .mk (x++[0]) [(2,0)] ⟨cs,fun y hy=>by
     rcases Vs.1 hy with hy|hy
     ·exact x2 y hy
     ·simp at hy;rw[hy];exact⟨om,om⟩,fun hs=>by
     obtain⟨y1,y2⟩:=x3 hs;have e:x=p:=by rw[y2];exact Vl om
     have e2:=(hend hs).1;rw[←e] at e2;omega⟩
    (aG _ rfl ⟨⟨2,_,rfl,rfl,.eq (aM _) (by simp[aS])⟩,trivial⟩ ⟨aR npp,aR (.ip' tA),aR (.ip' tB),⟨_,rfl,.slE rfl (by simp)⟩,⟨_,rfl,.int (by rw[hw];simp)⟩,trivial⟩) (by simp;omega)
set_option maxHeartbeats 16000000
set_option maxHeartbeats 8000000
set_option maxHeartbeats 16000000
set_option maxHeartbeats 16000000
theorem Kx:∀s∈wK,s∈LB:=fun s hs=>by unfold LB;exact Vn _ (WT _ hs)
theorem K8(l:List Int)(hl:∀x∈l,i64 x){Γ:List (Nat × AV)}{mem:aP}{nx:Nat}{K:AV->aP->Nat->Prop}(hk:∀ns:List Nd,gI ns->ns.length<=14->K (.agg [.il 12 (aW ns)]) mem nx):aH prog Γ 4 [.il 1 (aS l)] mem nx K:=by
 refine aH.goG0 (T1 l hl) ?_;rintro r m n ⟨ns,hT,hlen,rfl,rfl,rfl⟩;exact⟨.agg [.il 12 (aW ns)],.agg' (.cons (.fz' (id:=0) rfl rfl (by rw[bD];omega) (by rw[V7];exact Vl (by rw[bD];omega)) (aY _)) .nil),hk ns hT hlen⟩
theorem Lw{n m:Nat}(h:m=n)(hl:n<=17592186043904):(Nat.ble (m*8) 140737488355328 && Nat.ble m 9223372036854775807)=true:=by
 subst h;rw[Vc om,Vc om];rfl
set_option maxHeartbeats 16000000
theorem O7(l:List Int)(at_ n:Int)(hl:∀x∈l,i64 x)(hlen:l.length<=17592186043904)(hn:i64 n):aH prog [] 5 [.il 1 (aS l),.int .i64 at_,.int .i64 n] [] 0 fun r m k=>∃ns:List Nd,gI ns/\ns.length<=14/\r = .agg [.il 12 (aW ns)]/\m=[]/\k=0:=by
 refine aK bG func5 rfl ?_;have fin:∀(ns:List Nd),gI ns->ns.length<=14->∀(mem:aP) (nx:Nat),kN 0 (fun r m k=>∃ns:List Nd,gI ns/\ns.length<=14/\r = .agg [.il 12 (aW ns)]/\m=[]/\k=0) (.agg [.il 12 (aW ns)]) mem nx:=fun ns h1 h2 mem nx=>
  aA (.agg' (.cons (.il' (aY _)) .nil)) ⟨ns,h1,h2,rfl,rfl,rfl⟩
 refine Rr ?_;refine aN (Lw (aC l) hlen) ?_;refine Rr ?_;by_cases h0:l.length=0
 ·rw[show decide (((aS l).length:Int)>0)=false by rw[aC,Wi];omega];refine Rr ?_;refine aH.pre bG (mem':=[(0,.row 25 1 [.agg [.nsl]])]) [(0,0)] (by rfl) ⟨aL 0 (.cons nn .nil),trivial⟩ (.cons (.fz' (id:=1) (t:=3) (xs:=aS l) rfl rfl (by simp) (by simp) (aM l)) .nil) ?_;refine K8 l hl fun ns hT hns=>?_
  refine Rr ?_;exact fin ns hT hns _ _
 ·rw[show decide (((aS l).length:Int)>0)=true by rw[aC];simp;omega];refine Rr ?_;refine aH.pre bG (mem':=[(3,gB [at_] 0),(1,.row 3 1 (aS l)),(0,.row 25 1 [.agg [.nsl]])]) [(3,3),(1,1),(0,0)] (by rfl)
   ⟨⟨3,_,rfl,rfl,.cons (.agg (.cons (.fz' (id:=2) (t:=3) (xs:=aS [at_]) rfl rfl (by simp[aS]) (by simp[aS]) (aM _)) (.s .nil))) .nil⟩,aL 1 (aM _),aL 0 (.cons nn .nil),trivial⟩ (.cons (.ptr 3 3 0 0 rfl) (.s .nil)) ?_
  refine Pr 3 (l:=[at_]) (i:=0) ((aS l).length:Nat) om (by rw[aC];omega) (by rw[aC];omega) rfl ?_;intro k k0 k1;rw[aC] at k1;obtain⟨k,rfl⟩:=Vk k0;have e1:(aS l)[0+((k:Nat):Int).toNat]? = some (.int .i64 l[k]):=by simp[a8,VV (show k<l.length by omega)]
  have g1:Nat.blt ((k:Nat):Int).toNat (aS l).length=true:=Vc (by rw[aC];simp;omega);have hset:(aS l).set (0+((k:Nat):Int).toNat) (.int .i64 n)=aS (l.set k n):=by simp[aS,W2]
  have hl':∀x∈l.set k n,i64 x:=fun x hx=>by
   rcases Xz hx with hx|rfl
   ·exact hl x hx
   ·exact hn
  generalize l[k]=o at e1;refine Rr ?_;repeat((first|refine aN g1 ?_|refine aD e1 ?_|refine bR.2 ?_);refine Rr ?_)
  rw[hset];refine aH.pre bG (mem':=[(0,.row 25 1 [.agg [.nsl]])]) [(0,0)] (by rfl) ⟨aL 0 (.cons nn .nil),trivial⟩ (.cons (.fz' (id:=1) (t:=3) (xs:=aS (l.set k n)) rfl rfl (by simp[aS]) (by rw[V7];exact Vl (by simp[aS])) (aM _)) .nil) ?_;refine K8 (l.set k n) hl' fun ns hT hns=>?_
  refine Rr ?_;exact fin ns hT hns _ _
set_option maxHeartbeats 16000000
set_option maxHeartbeats 16000000
theorem Bu{α:Type}(l:List α)(xs:List AV)(h:xs.length=l.length):(((xs.length:Nat):Int) == 0)=decide (l.length=0):=by rw[h,V5];simp
theorem Ml{a b c:Bool}{n bytes:Nat}(ha:a=true)(hb:b=true)(hc:c=true)(h:n<=4294967296)(hby:Nat.ble bytes 4096=true) :
  (a && (b && (c && (decide (0<=(n:Int)) && (decide ((n:Int)<=n) && (decide ((bytes:Int)*n<=281474976710656) && decide ((n:Int)<=9223372036854775807)))))))=true:=by
 have hby:=Vd hby;have h3:bytes*n<=4096*4294967296:=Wk hby h;have h4:((bytes:Nat):Int)*(n:Int)=((bytes*n:Nat):Int):=by simp
 rw[ha,hb,hc,h4,Vi om,Vi om,Vi om,Vi om];rfl
def pP(zs:List AV)(l:List AV)(k:Nat):List AV:=l.take k++zs.drop k
theorem FT{zs l:List AV}(h:zs.length=l.length):pP zs l l.length=l:=by simp[pP];omega
theorem FF{zs l:List AV}(h:zs.length=l.length){k:Nat}(hk:k<l.length):(pP zs l k)[k]? = zs[k]? := by
 unfold pP;rw[Vx (by rw[V3];omega)];rw[V3,Wh (Nat.le_of_lt hk),XH,V9,W0]
theorem Ep{zs l:List AV}(h:zs.length=l.length){k:Nat}(hk:k<l.length){v:AV}(hv:l[k]? = some v):(pP zs l k).set k v=pP zs l (k+1):=by
 unfold pP;rw[Wy _ _ (by rw[V3];omega)];rw[V3,Wh (Nat.le_of_lt hk),XH,List.drop_eq_getElem_cons (by omega:k<zs.length),XZ,Xk,hv];simp
theorem PP{mem:aP}{σ:List (Nat × Nat)}{x y:AV}(h:I1 mem σ x y)(n:Nat):tE mem σ (List.replicate n x) (List.replicate n y):=by
 refine⟨by simp,fun i a b ha hb=>?_⟩;rw[W3] at ha hb;split at ha
 ·rename_i e;rw[Vb e] at hb;cases ha;cases hb;exact h
 ·cases ha
theorem Sf{x:AV}(h:NN x)(n:Nat):jZ (List.replicate n x):=fun a ha=>by
 rw[List.eq_of_mem_replicate ha];exact h
theorem Cg{zs l:List AV}(h1:jZ zs)(h2:jZ l)(k:Nat):jZ (pP zs l k):=fun a ha=>by
 rcases Vs.1 ha with ha|ha
 ·exact h2 a (WE ha)
 ·exact h1 a (Wa ha)
theorem Rb(l:List Int)(hl:l.length<=34359738368):bB prog [] 45 [.il 1 (aS l)] (.il 1 (aS l)):=by
 refine aK bG func45 rfl ?_;refine Rr ?_;rw[Bu l _ (aC l)];by_cases h0:l.length=0
 ·rw[Vi h0];obtain rfl:l=[]:=Vj h0;refine Rr ?_;exact dK (r':=.il 1 (aS [])) (.nil 1) ⟨rfl,rfl,rfl⟩
 ·rw[Vv h0];refine Rr ?_;refine aN (bV rfl rfl rfl (by rw[aC];omega)) ?_;refine Rr ?_;exact dK (r':=.il 1 (aS l)) (.fz' (id:=1) (xs:=[]++aS l) rfl rfl (by simp) (by rw[V7];exact Vl (by simp)) (aM _)) ⟨rfl,rfl,rfl⟩
theorem SD(l:List Int)(hl:l.length<=34359738368):aH prog [] 45 [.il 1 (aS l)] [] 0 fun r m n=>r = .sl 0 0 l.length/\m=[(0,.row 3 1 (aS l))]/\n=1:=by
 refine aK bG func45 rfl ?_;refine eD.ph 3 1 ?_;refine Rr ?_;rw[Bu l _ (aC l)];by_cases h0:l.length=0
 ·rw[Vi h0];obtain rfl:l=[]:=Vj h0;refine Rr ?_;exact bJ (n':=1) (m':=[(0,.row 3 1 (aS []))]) [(0,0)] rfl ⟨aL 0 .nil,trivial⟩ (.nslk 0 0 _ rfl rfl) ⟨rfl,rfl,rfl⟩
 ·rw[Vv h0];refine Rr ?_;refine aN (bV rfl rfl rfl (by rw[aC];omega)) ?_;refine Rr ?_;exact bJ (n':=1) (m':=[(0,.row 3 1 (aS l))]) [(2,0)] rfl ⟨⟨2,_,rfl,rfl,.eq (aM _) (by simp)⟩,trivial⟩ (.slE rfl (by simp[aC])) ⟨rfl,rfl,rfl⟩
theorem Ry(l:List (List UInt8))(hl:l.length<=34359738368):bB prog [] 46 [.il 1 (jB l)] (.il 1 (jB l)):=by
 refine aK bG func46 rfl ?_;refine Rr ?_;rw[Bu l _ (bE l)];by_cases h0:l.length=0
 ·rw[Vi h0];obtain rfl:l=[]:=Vj h0;refine Rr ?_;exact dK (r':=.il 1 (jB [])) (.nil 1) ⟨rfl,rfl,rfl⟩
 ·rw[Vv h0];refine Rr ?_;refine aN (bV rfl rfl rfl (by rw[bE];omega)) ?_;refine Rr ?_;exact dK (r':=.il 1 (jB l)) (.fz' (id:=1) (xs:=[]++jB l) rfl rfl (by simp) (by rw[V7];exact Vl (by simp)) (dV _)) ⟨rfl,rfl,rfl⟩
theorem Qv(l:List a6)(hl:l.length<=4294967296)(h:∀v∈l,bB prog [] 30 [bS v] (bS v)):bB prog [] 62 [.il 4 (aQ l),.fn (.func 30) [] []] (.il 4 (aQ l)):=by
 refine aK bG func62 rfl ?_;refine Rr ?_;rw[Bu l _ (aB l)];by_cases h0:l.length=0
 ·rw[Vi h0];obtain rfl:l=[]:=Vj h0;refine Rr ?_;exact dK (r':=.il 4 (aQ [])) (.nil 4) ⟨rfl,rfl,rfl⟩
 ·rw[Vv h0];refine Rr ?_;rw[aB];refine aN (Ml rfl rfl rfl hl rfl) ?_;refine Rr ?_;obtain⟨zs,hzs⟩:∃zs,zs=List.replicate l.length (bS (.mk 0 0 [] [])):=⟨_,rfl⟩
  have hzn:jZ zs:=by rw[hzs];exact Sf nn _
  have hzl:zs.length=(aQ l).length:=by rw[hzs,aB];simp
  refine bC.at bG (fun k:Nat=>k<=l.length) (fun k=>⟨[(0,.il 4 (aQ l)),(1,.fn (.func 30) [] []),(5,.sl 0 0 l.length),(14,.int .i64 l.length),(15,.int .i64 k)],[(0,.row 38 4 (pP zs (aQ l) k))],1,29⟩) (fun k=>l.length-k) 0 [(0,0)] (by simp)
   (aG _ rfl ⟨⟨0,_,rfl,rfl,by rw[hzs];exact PP (uV 0 0 []) _⟩,trivial⟩ ⟨aR (.il' (aO _)),aF,⟨_,rfl,.slE rfl (by simp)⟩,⟨_,rfl,.int (by rw[aB])⟩,aF,trivial⟩) ?_
  have hz0:∀k<l.length,zs[k]? = some (bS (.mk 0 0 [] [])):=fun k hk=>by rw[hzs,W3,Vb hk]
  clear hzs;intro k hk;refine Rr ?_;refine aI (fun hb=>?_) (fun hb=>?_)
  ·have hlt:k<l.length:=by simpa using hb
   obtain⟨v1,v2,v3,v4,vm,vg,-,ev⟩:=bT (l:=l) (k:=k) hlt;have hv:=h _ vm;have bx:Nat.blt ((k:Nat):Int).toNat l.length=true:=Vc (by simp;omega);have bz:(pP zs (aQ l) k)[0+((k:Nat):Int).toNat]? = some (bS (.mk 0 0 [] [])):=by
    rw[←hz0 k hlt,show 0+((k:Nat):Int).toNat=k by simp];exact FF hzl (by rw[aB];exact hlt)
   have hs:=Ep hzl (k:=k) (by rw[aB];exact hlt) (v:=bS (.mk v1 v2 v3 v4)) (by rw[iT,vg];rfl);refine Rr ?_;repeat((first|refine aD ev ?_|refine aU ?_);refine Rr ?_)
   refine hv.go ?_;refine Rt ?_;repeat((first|refine aN bx ?_|refine aD bz ?_);refine Rt ?_)
   exact .mk (k+1) [(0,0)] om
    (aG _ rfl ⟨⟨0,_,rfl,rfl,.eq (Cg hzn (aO _) _) (by rw[←hs];simp;rfl)⟩,trivial⟩ ⟨aR (.il' (aO _)),aF,⟨_,rfl,.slE rfl rfl⟩,aF,⟨_,rfl,.w64 om ⟨om,om⟩⟩,trivial⟩) om
  ·have hkl:k=l.length:=by simp at hb;omega
   subst hkl;refine Rr ?_;rw[show pP zs (aQ l) l.length=aQ l by rw[←aB l];exact FT hzl];exact dK (r':=.il 4 (aQ l)) (.fz' (id:=0) rfl rfl (by rw[aB];omega) (by rw[V7];exact Vl (by rw[aB];omega)) (aO _)) ⟨rfl,rfl,rfl⟩
theorem i8:∀{l:List a6},oH l->∀v∈l,gH v
 | [],_,v,h=>by cases h
 | a::r,h,v,hv=>by
  simp only[oH] at h;rcases Vg.1 hv with rfl|hv
  ·exact h.1
  ·exact i8 h.2 v hv
theorem GR:∀(f:Nat) (v:a6),bF v<=f->gH v->bB prog [] 30 [bS v] (bS v)
 | 0,.mk k n s l,h,_=>by simp[bF] at h
 | f+1,.mk k n s l,h,hv=>by
  simp only[gH] at hv;have hk:∀v∈l,bB prog [] 30 [bS v] (bS v):=fun v hm=>GR f v (by have:=Aa hm;simp[bF] at h;omega) (i8 hv.2.2.2.2 v hm)
  have hc:=Qv l hv.2.2.2.1 hk;refine aK bG func30 rfl ?_;refine Rr ?_;refine hc.go ?_ (.cons (.il' (aO _)) (.cons nn .nil)) (.il' (aO _));refine Rt ?_;exact aA (bN (.mk k n s l)) ⟨rfl,rfl,rfl⟩
theorem Qb(l:List a6)(hl:l.length<=4294967296)(h:∀v∈l,gH v):bB prog [] 47 [.il 4 (aQ l)] (.il 4 (aQ l)):=by
 have hc:=Qv l hl fun v hm=>GR _ v (Vh _) (h v hm)
 refine aK bG func47 rfl ?_;refine Rr ?_;refine hc.go ?_ (.cons (.il' (aO _)) (.cons nn .nil)) (.il' (aO _));refine Rr ?_;exact aA (.il' (aO _)) ⟨rfl,rfl,rfl⟩
theorem T6(x:Nd)(hx:n4 x):aH prog [] 20 [bW x] [] 0 fun r m n=>r = .agg ((bW x).cells.set 7 (.sl 0 0 x.kids.length))/\m=[(0,.row 3 1 (aS x.kids))]/\n=1:=by
 have b1:=hx.kids;have b2:=hx.value;have b3:=hx.valueS;have b4:=hx.weights;have b5:=hx.labels;have b6:=hx.values;have b7:=hx.valuesI;obtain⟨kind,name,lo,hi',ws,lbs,vals,kids,v⟩:=x;simp only at b1 b2 b3 b4 b5 b6 b7;have h1:=Rb ws om;have h2:=Ry lbs om;have h3:=Qb vals om fun v hm=>(b7 v hm).1
 have h4:=SD kids om;have h5:=GR _ v (Vh _) b2;obtain⟨vk,vn,vs,vks⟩:=v;refine aK bG func20 rfl ?_;refine Rr ?_;refine h1.go ?_ (.cons (.il' (aM _)) .nil) (.il' (aM _));refine Rr ?_;refine h2.go ?_ (.cons (.il' (dV _)) .nil) (.il' (dV _));refine Rr ?_;refine h3.go ?_ (.cons (.il' (aO _)) .nil) (.il' (aO _));refine Rr ?_;refine aH.useN bG [] h4 rfl (.same (.cons (.il' (aM _)) .nil)) trivial rfl ?_;rintro r m' n' ⟨rfl,rfl,rfl⟩;refine⟨[(0,2)],.sl 2 0 kids.length,[(2,.row 3 1 (aS kids))],3,.sl 0 2 0 _ rfl,⟨aL 0 (aM _),trivial⟩,rfl, ?_⟩;refine Rr ?_;refine h5.go ?_ (.cons (bN (.mk vk vn vs vks)) .nil) (bN (.mk vk vn vs vks));refine Rt ?_;exact bJ (n':=1) (m':=[(0,.row 3 1 (aS kids))]) [(2,0)] rfl ⟨aL 2 (aM _),trivial⟩
  (.agg' (.s (.s (.s (.s (.cons (.same _ (.il' (aM _))) (.cons (.same _ (.il' (dV _))) (.cons (.same _ (.il' (aO _))) (.cons (.sl 2 0 0 _ rfl) (.s (.s (.s (.cons (.same _ (.il' (aO _))) .nil)))))))))))))
  ⟨rfl,rfl,rfl⟩
set_option maxHeartbeats 4000000
theorem AC{ids:List Nat}{k:Nat}(hk:Ap k ids=true):∀(m:aP),lk (jD ids m) k=lk m k
 | []=>rfl
 | (j,b)::r=>by
  simp only[jD,lk];split
  ·simp only[lk,AC hk r]
  ·rename_i h;rw[AC hk r];split
   ·rename_i e;rw[Nat.eq_of_beq_eq_true e,hk] at h;cases h
   ·rfl
abbrev Kn(id n:Nat):AB:=.row 96 1 [.agg [.sl id 0 n]]
abbrev Qt(s:List UInt8):aP:=[(0,Kn 1 s.length),(1,.row 5 1 (fE s))]
def U9(s:List UInt8)(m:aP)(n:Nat):Prop:=m=[(0,Kn 2 s.length),(2,.row 5 1 (fE s))]/\n=3
def SL(s:List UInt8)(r:AV)(m:aP)(n:Nat):Prop:=r = .tup []/\U9 s m n
theorem nP{mem:aP}{σ:List (Nat × Nat)}{i j n n':Nat}(h1:lk σ i=some j)(h:n=n'):tE mem σ [.agg [.sl i 0 n]] [.agg [.sl j 0 n']]:=
 .cons (.agg (.cons (.slE h1 h) .nil)) .nil
theorem qP{Γ:List (Nat × AV)}{F:FuncId}{aa:List AV}{s s':List UInt8}{rv:AV}{mem:aP}{nx:Nat}{K:AV->aP->Nat->Prop}(i:Nat)(hΓ:∀p∈Γ,NN p.2)
  (h:aH prog Γ F (.ptr 0 0 0::aa) (Qt s) 2 fun r m n=>r=rv/\U9 s' m n) (h0:lk mem 0=some (Kn i s.length)) (h1:lk mem i=some (.row 5 1 (fE s))) (hi:Nat.blt 0 i=true) (hin:Nat.blt i nx=true)
  (hk:K rv ((0,Kn nx s'.length)::(nx,.row 5 1 (fE s'))::gR [0,i] mem) (nx+1)) (ha:jZ aa:=by exact dE) (hr:NN rv:=by exact nn):aH prog Γ F (.ptr 0 0 0::aa) mem nx K:=by
 have hi:=Vd hi;have hin:=Vd hin;have e0:Nat.beq 0 i=false:=nJ om;have k0:Ap 0 [0,i]=true:=rfl;have ki:Ap i [0,i]=true:=by simp[Ap,e0]
 have s0:lk [(0,0),(i,1)] 0=some 0:=rfl;have si:lk [(0,0),(i,1)] i=some 1:=by simp[lk,e0]
 refine aH.useN hΓ [(0,0),(i,1)] h rfl (.cons (.ptr 0 0 0 0 rfl) (.same ha)) ⟨⟨0,_,s0,by rw[←h0];exact AC k0 mem,nP si rfl⟩,⟨i,_,si,by rw[←h1];exact AC ki mem,.same (Go.Ax.d6 _)⟩,trivial⟩ rfl ?_;rintro r m n ⟨rfl,rfl,rfl⟩;refine⟨[(0,0),(2,nx)],_,[(0,Kn nx s'.length),(nx,.row 5 1 (fE s'))],nx+1,.same _ hr,⟨⟨0,_,rfl,rfl,nP rfl rfl⟩,aL 2 (Go.Ax.d6 _),trivial⟩, ?_,hk⟩;have e1:Nat.beq nx 0=false:=nJ om;have e2:Nat.ble nx 0=false:=by
  cases e:Nat.ble nx 0 with
  | false=>rfl
  | true=>have:=Vd e;omega
 have e3:Nat.ble nx nx=true:=Vc (Vh _);have e4:Nat.ble nx (nx+1)=true:=Vc om;have e5:Nat.blt nx (nx+1)=true:=Vc om;have e6:Nat.blt 0 2=true:=rfl;have e7:Nat.blt 2 2=false:=rfl;simp only[jX,x9,kD,Ce,kR,g9,pX,e1,e2,e3,e4,e5,e6,e7,k0,s0];rfl
theorem H8{s:List UInt8}{xs:List AV}{mem:aP}{nx i n:Nat}(h0:lk mem 0=some (Kn i n))(h1:lk mem i=some (.row 5 1 xs))(hi:2<=i)(hn:n=s.length)(hx:xs=fE s):kN 2 (SL s) (.tup []) mem nx:=by
 have e0:Nat.beq 0 i=false:=nJ om;have si:lk [(0,0),(i,2)] i=some 2:=by simp[lk,e0]
 exact bJ (r':=.tup []) (m':=[(0,Kn 2 s.length),(2,.row 5 1 (fE s))]) (n':=3) [(0,0),(i,2)] rfl
  ⟨⟨0,_,rfl,h0,nP si hn⟩,⟨i,_,si,h1,.eq (Go.Ax.d6 _) hx⟩,trivial⟩ (.same _ nn) ⟨rfl,rfl,rfl⟩
theorem Q0(s:List UInt8)(u:Nat)(hu:u<18446744073709551616)(hs:s.length<=90000000):aH prog [] 107 [.ptr 0 0 0,.int .u64 u] (Qt s) 2 (SL (s++jS u)):=by
 have hul:=jE hu;refine aK bG func107 rfl ?_;refine Rr ?_;refine bC.at bG (fun x:Nat × List UInt8=>x.2++jS x.1=s++jS u)
  (fun x=>⟨[(0,.ptr 0 0 0),(1,.int .u64 x.1)],[(0,Kn 2 x.2.length),(2,.row 5 1 (fE x.2))],3,31⟩) (fun x=>x.1) (u,s) [(0,0),(1,2)] rfl
  (aG _ rfl ⟨⟨0,_,rfl,rfl,nP rfl rfl⟩,aL 1 (Go.Ax.d6 _),trivial⟩ ⟨aJ,aF,trivial⟩) ?_
 rintro⟨n,acc⟩ hx;simp only at hx;have hal:acc.length<=s.length+10:=by have:=congrArg List.length hx;simp at this;omega
 refine Rr ?_;refine aI (fun h=>?_) (fun h=>?_)
 ·have hn:¬n<128:=by simp at h;omega
  refine Rr ?_;refine aN (bV rfl rfl (fG _).symm (by simp;omega)) ?_;refine Rr ?_;rw[Go.Ax.LT,U2];refine .mk (n/128,acc++[UInt8.ofNat (128+n%128)]) [(0,0),(4,2)] ?_ (aG _ rfl ⟨⟨0,_,rfl,rfl,nP rfl (by simp)⟩,⟨4,_,rfl,rfl,.eq (Go.Ax.d6 _) (by rw[Go.Ax.t8];rfl)⟩,trivial⟩ ⟨aJ,aF,trivial⟩) (by simp only;omega);rw[Dr hn] at hx;simpa using hx
 ·have hn:n<128:=by simp at h;omega
  refine Rr ?_;refine aN (bV rfl rfl (fG _).symm (by simp;omega)) ?_;refine Rr ?_;rw[ML hn];rw[rU hn] at hx;exact H8 (i:=4) rfl rfl om (by rw[←hx];simp) (by rw[←hx,Go.Ax.t8];rfl)
theorem Ba(s:List UInt8)(n:Int)(hn:i64 n)(hs:s.length<=90000000):aH prog [] 75 [.ptr 0 0 0,.int .i64 n] (Qt s) 2 (SL (s++dC n)):=by
 have hU:=Q0 s (MY n) (Fw hn) hs;refine aK bG func75 rfl ?_;have hz:=M5 hn;unfold dC;generalize MY n=z at hU hz ⊢;refine Rr ?_;rw[hz];refine qP 1 bG hU rfl rfl rfl rfl ?_;refine Rr ?_;exact H8 (i:=2) rfl rfl om rfl rfl
theorem ND(s w:List UInt8)(hs:s.length+w.length<=90000000):aH prog [] 76 [.ptr 0 0 0,.str w] (Qt s) 2 (SL (s++(jS w.length++w))):=by
 have hU:=Q0 s w.length om om;have hul:=jE (n:=w.length) om;have hw:IntKind.u64.wrap (w.length:Int)=(w.length:Int):=Gt om om;generalize jS w.length=x at hU hul ⊢;refine aK bG func76 rfl ?_;refine Rr ?_;rw[hw];refine qP 1 bG hU rfl rfl rfl rfl ?_;refine Rr ?_;have e:List.map (fun b:UInt8=>AV.int IntKind.u8 (b.toNat:Int)) w=fE w:=rfl;rw[e];refine aN (bV rfl rfl (fG _).symm (by rw[fG];simp;omega)) ?_;refine Rr ?_;exact H8 (i:=3) rfl rfl om (by rw[fG];simp;omega) (by rw[←Go.Ax.t8,List.append_assoc])
set_option maxHeartbeats 16000000
theorem I8:∀(f:Nat) (v:a6),bF v<=f->gH v->bQ v=true->∀s:List UInt8,s.length+60*bF v<=80000000->aH prog [] 77 [.ptr 0 0 0,bS v] (Qt s) 2 (SL (s++s9 v))
 | 0,.mk k n t l,h,_,_,_,_=>by simp[bF] at h
 | f+1,.mk k n t l,h,hv,hf,s,hs=>by
  simp only[gH] at hv;simp only[bF] at h hs;simp only[bQ,VZ] at hf;have ht:=zE hf.1;have ih:∀v∈l,∀s:List UInt8,s.length+60*bF v<=80000000->aH prog [] 77 [.ptr 0 0 0,bS v] (Qt s) 2 (SL (s++s9 v)):=fun v hm s hs=>
   I8 f v (by have:=Aa hm;omega) (i8 hv.2.2.2.2 v hm) (by cases e:bQ v with|true=>rfl|false=>rw[jN hm e] at hf;simp at hf) s hs
  have hI1:=fun s hs=>Ba s k hv.1 hs
  have hI2:=fun s hs=>Ba s n hv.2.1 hs
  have hI3:=fun s hs=>Ba s l.length (iL om) hs
  have hT:=fun s hs=>ND s t hs
  have l1:=cW hv.1;have l2:=cW hv.2.1;have l3:=cW (iL (n:=l.length) om);have l4:=jE (n:=t.length) om;have hcode:s9 (.mk k n t l)=dC k++(dC n++((jS t.length++t)++(dC l.length++eQ l))):=by simp only[s9]
  rw[hcode];clear hcode;generalize dC k=w1 at hI1 l1 ⊢;generalize dC n=w2 at hI2 l2 ⊢;generalize dC l.length=w3 at hI3 l3 ⊢;obtain⟨w4,hw4⟩:∃w4,w4=jS t.length++t:=⟨_,rfl⟩
  rw[←hw4] at hT ⊢;have l5:w4.length<=26:=by rw[hw4,Vf];omega
  clear hw4;have hlen:((aQ l).length:Int)=l.length:=by rw[aB]
  refine aK bG func77 rfl ?_;refine Rr ?_;refine qP 1 bG (hI1 s om) rfl rfl rfl rfl ?_;refine Rr ?_;refine qP 3 bG (hI2 (s++w1) (by simp;omega)) rfl rfl rfl rfl ?_;refine Rr ?_;refine qP 4 bG (hT (s++w1++w2) (by have:w4.length<=26:=l5;simp;omega)) rfl rfl rfl rfl ?_;refine Rr ?_;rw[hlen];refine qP 5 bG (hI3 (s++w1++w2++w4) (by simp;omega)) rfl rfl rfl rfl ?_;refine Rr ?_;obtain⟨p,hp⟩:∃p,p=s++w1++w2++w4++w3:=⟨_,rfl⟩
  rw[show s++(w1++(w2++(w4++(w3++eQ l))))=p++eQ l by rw[hp];simp,←hp];have hpl:p.length<=s.length+56:=by rw[hp];simp;omega
  refine bC.at bG (fun k:Nat=>k<=l.length)
   (fun k=>⟨[(0,.ptr 0 0 0),(24,.il 4 (aQ l)),(25,.int .i64 l.length),(26,.int .i64 k)],[(0,Kn 2 (p++eQ (l.take k)).length),(2,.row 5 1 (fE (p++eQ (l.take k))))],3,34⟩) (fun k=>l.length-k) 0 [(0,0),(6,2)] (by simp)
   (aG _ rfl ⟨⟨0,_,rfl,rfl,nP rfl (by simp[eQ])⟩,⟨6,_,rfl,rfl,.eq (Go.Ax.d6 _) (by simp[eQ])⟩,trivial⟩ ⟨aJ,aR (.il' (aO _)),⟨_,rfl,.int hlen⟩,aF,trivial⟩) ?_
  intro j hj;refine Rr ?_;refine aI (fun h=>?_) (fun h=>?_)
  ·have hlt:j<l.length:=by simpa using h
   obtain⟨v1,v2,v3,v4,hm,hg,he,e1⟩:=bT (l:=l) (k:=j) hlt;have hih:=ih _ hm;have hpt:=DF hlt;rw[he] at hpt;have hbound:=oU (l.take j) (E5 hv.2.2.2.2 _) (wN hf.2 _);have hsz:=j9 l (j+1);rw[pV hlt,he] at hsz;generalize s9 (.mk v1 v2 v3 v4)=pv at hih hpt;obtain⟨pl,hpl'⟩:∃pl,pl=eQ (l.take j):=⟨_,rfl⟩
   rw[←hpl'] at hpt hbound ⊢;refine Rr ?_;repeat((first|refine aD e1 ?_|refine aU ?_);refine Rr ?_)
   refine qP 2 bG (hih (p++pl) (by simp;omega)) rfl rfl rfl rfl ?_;refine Rr ?_;have hnx:p++pl++pv=p++eQ (l.take (j+1)):=by rw[hpt];simp
   exact .mk (j+1) [(0,0),(4,2)] om (aG _ rfl ⟨⟨0,_,rfl,rfl,nP rfl (by rw[hnx])⟩,⟨4,_,rfl,rfl,.eq (Go.Ax.d6 _) (by rw[hnx])⟩,trivial⟩ ⟨aJ,aR (.il' (aO _)),aF,⟨_,rfl,.w64 om ⟨om,om⟩⟩,trivial⟩) om
  ·have hke:j=l.length:=by simp at h;omega
   subst hke;rw[Vr];refine Rr ?_;exact H8 (i:=2) rfl rfl om rfl rfl
set_option maxHeartbeats 16000000
theorem FN{l:List Int}{k:Nat}(h:k<l.length):iW (l.take (k+1))=iW (l.take k)++dC l[k]:=by
 have ha:∀a b:List Int,iW (a++b)=iW a++iW b:=fun a b=>by
  induction a with
  | nil=>rfl
  | cons x a ih=>simp[iW,ih]
 rw[List.take_succ_eq_append_getElem h,ha];simp[iW]
theorem MH{l:List (List UInt8)}{k:Nat}(h:k<l.length):nY (l.take (k+1))=nY (l.take k)++(jS l[k].length++l[k]):=by
 have ha:∀a b:List (List UInt8),nY (a++b)=nY a++nY b:=fun a b=>by
  induction a with
  | nil=>rfl
  | cons x a ih=>simp[nY,ih]
 rw[List.take_succ_eq_append_getElem h,ha];simp[nY]
theorem pI:∀{l:List Int},(∀n∈l,i64 n)->(iW l).length<=10*l.length
 | [],_=>by simp[iW]
 | n::r,h=>by
  have:=pI (l:=r) fun m hm=>h m (by simp[hm])
  have:=cW (h n (by simp));simp only[iW,Vf,WB];omega
theorem z8:∀{l:List (List UInt8)},(∀s∈l,s.length<=1000)->(nY l).length<=1010*l.length
 | [],_=>by simp[nY]
 | s::r,h=>by
  have:=z8 (l:=r) fun m hm=>h m (by simp[hm])
  have h1:=h s (by simp);have:=jE (n:=s.length) om;simp only[nY,Vf,WB];omega
structure IS(x:Nd):Prop where
 ok:n4 x
 name:x.name.length<=1000
 wlen:x.weights.length<=100000
 llen:x.labels.length<=1000
 lab:∀s∈x.labels,s.length<=1000
 vals:cO x.values=true
 vsz:cJ x.values<=1050000
 klen:x.kids.length<=100000
 val:bQ x.value=true
 size:bF x.value<=2000
theorem S6(x:Nd)(hx:IS x):aH prog [] 48 [.ptr 0 0 0,bW x] (Qt []) 2 (SL (lO x)):=by
 have hc:lO x=dC x.kind++((jS x.name.length++x.name)++(dC x.lo++(dC x.hi++(dC x.weights.length++(iW x.weights++(dC x.labels.length++(nY x.labels ++
  (dC x.values.length++(eQ x.values++(dC x.kids.length++(iW x.kids++s9 x.value))))))))))):=rfl
 have hW1:=hx.wlen;have hW2:=hx.llen;have hW3:=hx.ok.values;have hW4:=hx.klen;have hI1:=fun s hs=>Ba s x.kind hx.ok.kind hs
 have hI2:=fun s hs=>ND s x.name hs
 have hI3:=fun s hs=>Ba s x.lo hx.ok.lo hs
 have hI4:=fun s hs=>Ba s x.hi hx.ok.hi hs
 have hI5:=fun s hs=>Ba s x.weights.length (iL om) hs
 have hI6:=fun s hs=>Ba s x.labels.length (iL om) hs
 have hI7:=fun s hs=>Ba s x.values.length (iL om) hs
 have hI8:=fun s hs=>Ba s x.kids.length (iL om) hs
 have hv:=fun s=>I8 _ x.value (Vh _) hx.ok.value hx.val s
 have l1:=cW hx.ok.kind;have l2:=jE (n:=x.name.length) (by have:=hx.name;omega);have l3:=cW hx.ok.lo;have l4:=cW hx.ok.hi;have l5:=cW (iL (n:=x.weights.length) om);have l6:=cW (iL (n:=x.labels.length) om);have l7:=cW (iL (n:=x.values.length) om);have l8:=cW (iL (n:=x.kids.length) om);have b1:=pI hx.ok.weightsI;have b2:=z8 hx.lab;have b3:=oU x.values (mR fun v hv=>(hx.ok.valuesI v hv).1) hx.vals;have b4:=pI hx.ok.kidsI;have b5:=Db x.value hx.ok.value hx.val;have hsz:=hx.size;have hvsz:=hx.vsz;have hnm:=hx.name;obtain⟨kind,name,lo,hi',ws,lbs,vals,kids,v⟩:=x;simp only at *;rw[hc];clear hc;generalize dC kind=w1 at hI1 l1 ⊢;obtain⟨w2,hw2⟩:∃w,w=jS name.length++name:=⟨_,rfl⟩
 rw[←hw2] at hI2 ⊢;have l2':w2.length<=1010:=by rw[hw2,Vf];omega
 clear hw2;generalize dC lo=w3 at hI3 l3 ⊢;generalize dC hi'=w4 at hI4 l4 ⊢;generalize dC ws.length=w5 at hI5 l5 ⊢;generalize dC lbs.length=w6 at hI6 l6 ⊢;generalize dC vals.length=w7 at hI7 l7 ⊢;generalize dC kids.length=w8 at hI8 l8 ⊢;obtain⟨vk,vn,vs,vks⟩:=v;refine aK bG func48 rfl ?_;refine Rr ?_;refine qP 1 bG (hI1 [] (by simp)) rfl rfl rfl rfl ?_;refine Rr ?_;refine qP 3 bG (hI2 _ (by simp;omega)) rfl rfl rfl rfl ?_;refine Rr ?_;refine qP 4 bG (hI3 _ (by simp;omega)) rfl rfl rfl rfl ?_;refine Rr ?_;refine qP 5 bG (hI4 _ (by simp;omega)) rfl rfl rfl rfl ?_;refine Rr ?_;rw[aC ws];refine qP 6 bG (hI5 _ (by simp;omega)) rfl rfl rfl rfl ?_;refine Rr ?_;obtain⟨p,hp⟩:∃q,q=[]++w1++w2++w3++w4++w5:=⟨_,rfl⟩
 have lp:p.length=([]++w1++w2++w3++w4++w5).length:=by rw[hp]
 simp only[Vf,WZ] at lp;rw[←hp];refine bC.at bG (fun k:Nat=>k<=ws.length)
  (fun k=>⟨[(0,.ptr 0 0 0),(3,.ptr 3 0 0),(34,.il 1 (aS ws)),(35,.int .i64 ws.length),(36,.int .i64 k)],[(0,Kn 2 (p++iW (ws.take k)).length),(3,.row 46 12 [bW ⟨kind,name,lo,hi',ws,lbs,vals,kids,.mk vk vn vs vks⟩]),(2,.row 5 1 (fE (p++iW (ws.take k))))],4,96⟩) (fun k=>ws.length-k) 0 [(0,0),(2,3),(7,2)] (by simp)
  (aG _ rfl ⟨⟨0,_,rfl,rfl,nP rfl (by simp[iW])⟩,aL 2 (.cons (aV _) .nil),⟨7,_,rfl,rfl,.eq (Go.Ax.d6 _) (by simp[iW])⟩,trivial⟩ ⟨aJ,aJ,aR (.il' (aM _)),⟨_,rfl,.int (by rw[aC])⟩,aF,trivial⟩) ?_
 intro j hj;refine Rr ?_;refine aI (fun h=>?_) (fun h=>?_)
 ·have hlt:j<ws.length:=by simpa using h
  have e1:(aS ws)[((j:Nat):Int).toNat]? = some (.int .i64 ws[j]):=by simp[a8,VV hlt]
  have hpt:=FN hlt;have hb:=pI (l:=ws.take j) fun n hn=>hx.ok.weightsI n (WE hn)
  have htl:(ws.take j).length=j:=by rw[V3];omega
  have hwI:=fun s hs=>Ba s ws[j] (hx.ok.weightsI _ (Vw hlt)) hs
  generalize ws[j]=n at e1 hpt hwI;generalize dC n=pv at hpt hwI;obtain⟨pl,hpl⟩:∃pl,pl=iW (ws.take j):=⟨_,rfl⟩
  rw[←hpl] at hpt hb ⊢;refine Rr ?_;repeat((first|refine aD e1 ?_|refine aU ?_);refine Rr ?_)
  refine qP 2 bG (hwI (p++pl) (by rw[Vf];omega)) rfl rfl rfl rfl ?_;refine Rr ?_;have hnx:p++pl++pv=p++iW (ws.take (j+1)):=by rw[hpt];simp
  exact .mk (j+1) [(0,0),(3,3),(4,2)] om (aG _ rfl ⟨⟨0,_,rfl,rfl,nP rfl (by rw[hnx])⟩,aL 3 (.cons (aV _) .nil),⟨4,_,rfl,rfl,.eq (Go.Ax.d6 _) (by rw[hnx])⟩,trivial⟩ ⟨aJ,aJ,aR (.il' (aM _)),aF,⟨_,rfl,.w64 om ⟨om,om⟩⟩,trivial⟩) om
 ·have hke:j=ws.length:=by simp at h;omega
  subst hke;rw[Vr];refine Rr ?_;rw[bE lbs];refine qP 2 bG (hI6 (p++iW ws) (by rw[Vf];omega)) rfl rfl rfl rfl ?_;refine Rr ?_;obtain⟨p2,hp2⟩:∃q,q=p++iW ws++w6:=⟨_,rfl⟩
  have lp2:p2.length=(p++iW ws++w6).length:=by rw[hp2]
  simp only[Vf,WZ] at lp2;rw[←hp2];refine bC.at bG (fun k:Nat=>k<=lbs.length)
   (fun k=>⟨[(0,.ptr 0 0 0),(3,.ptr 3 0 0),(50,.il 1 (jB lbs)),(51,.int .i64 lbs.length),(52,.int .i64 k)],[(0,Kn 2 (p2++nY (lbs.take k)).length),(3,.row 46 12 [bW ⟨kind,name,lo,hi',ws,lbs,vals,kids,.mk vk vn vs vks⟩]),(2,.row 5 1 (fE (p2++nY (lbs.take k))))],4,96⟩) (fun k=>lbs.length-k) 0 [(0,0),(3,3),(4,2)] (by simp)
   (aG _ rfl ⟨⟨0,_,rfl,rfl,nP rfl (by simp[nY])⟩,aL 3 (.cons (aV _) .nil),⟨4,_,rfl,rfl,.eq (Go.Ax.d6 _) (by simp[nY])⟩,trivial⟩ ⟨aJ,aJ,aR (.il' (dV _)),⟨_,rfl,.int (by rw[bE])⟩,aF,trivial⟩) ?_
  intro j hj;refine Rr ?_;refine aI (fun h=>?_) (fun h=>?_)
  ·have hlt:j<lbs.length:=by simpa using h
   have e1:(jB lbs)[((j:Nat):Int).toNat]? = some (.str lbs[j]):=by simp[yN,VV hlt]
   have hpt:=MH hlt;have hb:=z8 (l:=lbs.take j) fun n hn=>hx.lab n (WE hn)
   have htl:(lbs.take j).length=j:=by rw[V3];omega
   have hsl:=hx.lab _ (Vw hlt);have hwI:=fun s=>ND s (lbs[j]'hlt)
   generalize lbs[j]=n at e1 hpt hwI hsl;obtain⟨pv,hpv⟩:∃pv,pv=jS n.length++n:=⟨_,rfl⟩
   rw[←hpv] at hpt hwI;obtain⟨pl,hpl⟩:∃pl,pl=nY (lbs.take j):=⟨_,rfl⟩
   rw[←hpl] at hpt hb ⊢;refine Rr ?_;repeat((first|refine aD e1 ?_|refine aU ?_);refine Rr ?_)
   refine qP 2 bG (hwI (p2++pl) (by rw[Vf];omega)) rfl rfl rfl rfl ?_;refine Rr ?_;have hnx:p2++pl++pv=p2++nY (lbs.take (j+1)):=by rw[hpt];simp
   exact .mk (j+1) [(0,0),(3,3),(4,2)] om (aG _ rfl ⟨⟨0,_,rfl,rfl,nP rfl (by rw[hnx])⟩,aL 3 (.cons (aV _) .nil),⟨4,_,rfl,rfl,.eq (Go.Ax.d6 _) (by rw[hnx])⟩,trivial⟩ ⟨aJ,aJ,aR (.il' (dV _)),aF,⟨_,rfl,.w64 om ⟨om,om⟩⟩,trivial⟩) om
  ·have hke:j=lbs.length:=by simp at h;omega
   subst hke;rw[Vr];refine Rr ?_;rw[aB vals];refine qP 2 bG (hI7 (p2++nY lbs) (by rw[Vf];omega)) rfl rfl rfl rfl ?_;refine Rr ?_;obtain⟨p3,hp3⟩:∃q,q=p2++nY lbs++w7:=⟨_,rfl⟩
   have lp3:p3.length=(p2++nY lbs++w7).length:=by rw[hp3]
   simp only[Vf,WZ] at lp3;rw[←hp3];refine bC.at bG (fun k:Nat=>k<=vals.length)
    (fun k=>⟨[(0,.ptr 0 0 0),(3,.ptr 3 0 0),(66,.il 4 (aQ vals)),(67,.int .i64 vals.length),(68,.int .i64 k)],[(0,Kn 2 (p3++eQ (vals.take k)).length),(3,.row 46 12 [bW ⟨kind,name,lo,hi',ws,lbs,vals,kids,.mk vk vn vs vks⟩]),(2,.row 5 1 (fE (p3++eQ (vals.take k))))],4,96⟩) (fun k=>vals.length-k) 0 [(0,0),(3,3),(4,2)] (by simp)
    (aG _ rfl ⟨⟨0,_,rfl,rfl,nP rfl (by simp[eQ])⟩,aL 3 (.cons (aV _) .nil),⟨4,_,rfl,rfl,.eq (Go.Ax.d6 _) (by simp[eQ])⟩,trivial⟩ ⟨aJ,aJ,aR (.il' (aO _)),⟨_,rfl,.int (by rw[aB])⟩,aF,trivial⟩) ?_
   intro j hj;refine Rr ?_;refine aI (fun h=>?_) (fun h=>?_)
   ·have hlt:j<vals.length:=by simpa using h
    obtain⟨v1,v2,v3,v4,hm,hg,he,e1⟩:=bT (l:=vals) (k:=j) hlt;have hih:=I8 _ _ (Vh _) (hx.ok.valuesI _ hm).1 (by cases e:bQ (.mk v1 v2 v3 v4) with|true=>rfl|false=>have:=jN hm e;have h2:=hx.vals;simp only at h2;rw[this] at h2;cases h2);have hpt:=DF hlt;rw[he] at hpt;have hb:=oU (vals.take j) (E5 (mR fun v hv=>(hx.ok.valuesI v hv).1) _) (wN hx.vals _);have hsz2:=j9 vals (j+1);rw[pV hlt,he] at hsz2;generalize s9 (.mk v1 v2 v3 v4)=pv at hih hpt;obtain⟨pl,hpl⟩:∃pl,pl=eQ (vals.take j):=⟨_,rfl⟩
    rw[←hpl] at hpt hb ⊢;refine Rr ?_;repeat((first|refine aD e1 ?_|refine aU ?_);refine Rr ?_)
    refine qP 2 bG (hih (p3++pl) (by rw[Vf];omega)) rfl rfl rfl rfl ?_;refine Rr ?_;have hnx:p3++pl++pv=p3++eQ (vals.take (j+1)):=by rw[hpt];simp
    exact .mk (j+1) [(0,0),(3,3),(5,2)] om (aG _ rfl ⟨⟨0,_,rfl,rfl,nP rfl (by rw[hnx])⟩,aL 3 (.cons (aV _) .nil),⟨5,_,rfl,rfl,.eq (Go.Ax.d6 _) (by rw[hnx])⟩,trivial⟩ ⟨aJ,aJ,aR (.il' (aO _)),aF,⟨_,rfl,.w64 om ⟨om,om⟩⟩,trivial⟩) om
   ·have hke:j=vals.length:=by simp at h;omega
    subst hke;rw[Vr];refine Rr ?_;rw[aC kids];refine qP 2 bG (hI8 (p3++eQ vals) (by rw[Vf];omega)) rfl rfl rfl rfl ?_;refine Rr ?_;obtain⟨p4,hp4⟩:∃q,q=p3++eQ vals++w8:=⟨_,rfl⟩
    have lp4:p4.length=(p3++eQ vals++w8).length:=by rw[hp4]
    simp only[Vf,WZ] at lp4;rw[←hp4];refine bC.at bG (fun k:Nat=>k<=kids.length)
     (fun k=>⟨[(0,.ptr 0 0 0),(3,.ptr 3 0 0),(82,.il 1 (aS kids)),(83,.int .i64 kids.length),(84,.int .i64 k)],[(0,Kn 2 (p4++iW (kids.take k)).length),(3,.row 46 12 [bW ⟨kind,name,lo,hi',ws,lbs,vals,kids,.mk vk vn vs vks⟩]),(2,.row 5 1 (fE (p4++iW (kids.take k))))],4,96⟩) (fun k=>kids.length-k) 0 [(0,0),(3,3),(4,2)] (by simp)
     (aG _ rfl ⟨⟨0,_,rfl,rfl,nP rfl (by simp[iW])⟩,aL 3 (.cons (aV _) .nil),⟨4,_,rfl,rfl,.eq (Go.Ax.d6 _) (by simp[iW])⟩,trivial⟩ ⟨aJ,aJ,aR (.il' (aM _)),⟨_,rfl,.int (by rw[aC])⟩,aF,trivial⟩) ?_
    intro j hj;refine Rr ?_;refine aI (fun h=>?_) (fun h=>?_)
    ·have hlt:j<kids.length:=by simpa using h
     have e1:(aS kids)[((j:Nat):Int).toNat]? = some (.int .i64 kids[j]):=by simp[a8,VV hlt]
     have hpt:=FN hlt;have hb:=pI (l:=kids.take j) fun n hn=>hx.ok.kidsI n (WE hn)
     have htl:(kids.take j).length=j:=by rw[V3];omega
     have hwI:=fun s hs=>Ba s kids[j] (hx.ok.kidsI _ (Vw hlt)) hs
     generalize kids[j]=n at e1 hpt hwI;generalize dC n=pv at hpt hwI;obtain⟨pl,hpl⟩:∃pl,pl=iW (kids.take j):=⟨_,rfl⟩
     rw[←hpl] at hpt hb ⊢;refine Rr ?_;repeat((first|refine aD e1 ?_|refine aU ?_);refine Rr ?_)
     refine qP 2 bG (hwI (p4++pl) (by rw[Vf];omega)) rfl rfl rfl rfl ?_;refine Rr ?_;have hnx:p4++pl++pv=p4++iW (kids.take (j+1)):=by rw[hpt];simp
     exact .mk (j+1) [(0,0),(3,3),(4,2)] om (aG _ rfl ⟨⟨0,_,rfl,rfl,nP rfl (by rw[hnx])⟩,aL 3 (.cons (aV _) .nil),⟨4,_,rfl,rfl,.eq (Go.Ax.d6 _) (by rw[hnx])⟩,trivial⟩ ⟨aJ,aJ,aR (.il' (aM _)),aF,⟨_,rfl,.w64 om ⟨om,om⟩⟩,trivial⟩) om
    ·have hke:j=kids.length:=by simp at h;omega
     subst hke;rw[Vr];refine Rr ?_;have e:w1++(w2++(w3++(w4++(w5++(iW ws++(w6++(nY lbs++(w7++(eQ vals++(w8++(iW kids++s9 (.mk vk vn vs vks))))))))))))=p4++iW kids++s9 (.mk vk vn vs vks):=by
      rw[hp4,hp3,hp2,hp];simp
     rw[e];generalize s9 (.mk vk vn vs vks)=wv at hv b5 ⊢;refine qP 2 bG (hv (p4++iW kids) (by rw[Vf];omega)) rfl rfl rfl rfl ?_;refine Rr ?_;exact H8 (i:=4) rfl rfl om rfl rfl
set_option maxHeartbeats 16000000
theorem Oy(s:List UInt8)(hs:s.length<=90000000):aH prog [] 49 [.ptr 0 0 0] (Qt s) 2 fun r m n=>r = .il 1 (fE s)/\m=[]/\n=2:=by
 refine aK bG func49 rfl ?_;refine Rr ?_;have lT:=fG s;have eT:List.take s.length (List.drop 0 (fE s))=fE s:=by rw[V7,Vl (by rw[lT];omega)]
 refine aN (J4 (by rw[lT];omega)) ?_;rw[eT];refine Rr ?_;refine aN (bV rfl rfl rfl (by rw[lT];simp;omega)) ?_;refine Rr ?_;exact bJ (r':=.il 1 (fE s)) (m':=[]) (n':=2) [] rfl trivial (.fz' rfl rfl (by simp) (by simp) (Go.Ax.d6 _)) ⟨rfl,rfl,rfl⟩
theorem Nu{x:Nd}(hx:IS x):(lO x).length<=80000000:=by
 have l1:=cW hx.ok.kind;have l2:=jE (n:=x.name.length) (by have:=hx.name;omega);have l3:=cW hx.ok.lo;have l4:=cW hx.ok.hi;have hW1:=hx.wlen;have hW2:=hx.llen;have hW3:=hx.ok.values;have hW4:=hx.klen;have l5:=cW (iL (n:=x.weights.length) om);have l6:=cW (iL (n:=x.labels.length) om);have l7:=cW (iL (n:=x.values.length) om);have l8:=cW (iL (n:=x.kids.length) om);have b1:=pI hx.ok.weightsI;have b2:=z8 hx.lab;have b3:=oU x.values (mR fun v hv=>(hx.ok.valuesI v hv).1) hx.vals;have b4:=pI hx.ok.kidsI;have b5:=Db x.value hx.ok.value hx.val;have hsz:=hx.size;have hvsz:=hx.vsz;have hnm:=hx.name;unfold lO;simp only[Vf];omega
theorem IA(x:Nd)(hx:IS x):bB prog [] 21 [bW x] (.il 1 (fE (lO x))):=by
 have hN:=S6 x hx;have hl:=Nu hx;generalize lO x=w at hN hl ⊢;have hxn:=aV x;obtain⟨kind,name,lo,hi',ws,lbs,vals,kids,⟨vk,vn,vs,vks⟩⟩:=x;refine aK bG func21 rfl ?_;refine Rr ?_;refine aH.ph 5 1 ?_;refine aH.useN bG [(1,0),(2,1)] hN rfl (.cons (.ptr 1 0 0 0 rfl) (.same (.cons hxn .nil))) ⟨⟨1,_,rfl,rfl,.cons (.agg (.cons (.nslk 2 1 _ rfl rfl) .nil)) .nil⟩,aL 2 .nil,trivial⟩ rfl ?_;rintro r m n ⟨rfl,rfl,rfl⟩;refine⟨[(0,1),(2,3)],_,[(1,Kn 3 w.length),(3,.row 5 1 (fE w))],4,.same _ nn,⟨⟨0,_,rfl,rfl,nP rfl rfl⟩,aL 2 (Go.Ax.d6 _),trivial⟩,rfl, ?_⟩;refine Rr ?_;refine aH.useN bG [(1,0),(3,1)] (Oy w om) rfl (.cons (.ptr 1 0 0 0 rfl) .nil) ⟨⟨1,_,rfl,rfl,nP rfl rfl⟩,aL 3 (Go.Ax.d6 _),trivial⟩ rfl ?_;rintro r m n ⟨rfl,rfl,rfl⟩;refine⟨[],_,[],4,.same _ (.il' (Go.Ax.d6 _)),trivial,rfl, ?_⟩;refine Rr ?_;exact aA (.il' (Go.Ax.d6 _)) ⟨rfl,rfl,rfl⟩
def Fq:List Nd->Nat->List (AV × AV)
 | [],_=>[]
 | y::r,i=>(.str (lO y),.int .i64 i)::Fq r (i+1)
theorem UM(a b:List UInt8):tV prog 9 (.str a) (.str b)=some (decide (b=a)):=by
 have e:tV prog 9 (.str a) (.str b)=some (a == b):=rfl;rw[e];congr 1;rw[V5,beq_iff_eq,Vt];exact eq_comm
theorem Dd{x:Nd}:∀(T:List Nd) (off i q:Nat),Bf T x=some q->iX prog 9 (.str (lO x)) (Fq T off) i=some (some (i+q,.int .i64 ((off+q:Nat):Int)))
 | [],off,i,q,h=>by simp[Bf] at h
 | y::r,off,i,q,h=>by
  simp only[Fq,iX,UM];unfold Bf at h;rw[List.findIdx?_cons] at h;cases e:decide (lO y=lO x) with
  | true=>
   rw[e] at h;simp at h;subst h;simp
  | false=>
   rw[e] at h;simp only[Wj,if_false] at h;cases e2:List.findIdx? (fun y=>decide (lO y=lO x)) r with
   | none=>rw[e2] at h;simp at h
   | some q2=>
    rw[e2] at h;simp at h;subst h;have:=Dd r (off+1) (i+1) q2 e2;simp only[this];rw[show i+1+q2=i+(q2+1) by omega,show off+1+q2=off+(q2+1) by omega]
theorem xX{x:Nd}:∀(T:List Nd) (off i:Nat),Bf T x=none->iX prog 9 (.str (lO x)) (Fq T off) i=some none
 | [],off,i,h=>rfl
 | y::r,off,i,h=>by
  simp only[Fq,iX,UM];unfold Bf at h;rw[List.findIdx?_cons] at h;cases e:decide (lO y=lO x) with
  | true=>rw[e] at h;simp at h
  | false=>
   rw[e] at h;simp only[Wj,if_false] at h;exact xX r (off+1) (i+1) (by unfold Bf;cases e2:List.findIdx? (fun y=>decide (lO y=lO x)) r with|none=>rfl|some q=>rw[e2] at h;simp at h)
theorem G6:∀(T:List Nd) (x:Nd) (off:Nat),Fq (T++[x]) off=Fq T off++[(.str (lO x),.int .i64 ((off+T.length:Nat):Int))]
 | [],x,off=>by simp[Fq]
 | y::r,x,off=>by
  simp only[WH,Fq,G6 r x (off+1),WB];rw[show off+1+r.length=off+(r.length+1) by omega]
theorem I0{mem:aP}{id:Nat}{T:List Nd}{x:Nd}{q:Nat}(hm:lk mem id=some (.mapb (Fq T 0)))(h:Bf T x=some q):lY prog mem 55 (.mp id) (.str (lO x)) true=some (.tup [.int .i64 q,.bool true]):=by
 have key:=Dd T 0 0 q h;rw[V0] at key;have u:Tryz.prog.underlying 55=some (.map 9 3):=rfl;have ak:D2 prog 9 (.str (lO x))=true:=rfl;unfold lY;simp only[u,ak,hm,key]
theorem Jc{mem:aP}{id:Nat}{T:List Nd}{x:Nd}(hm:lk mem id=some (.mapb (Fq T 0)))(h:Bf T x=none):lY prog mem 55 (.mp id) (.str (lO x)) true=some (.tup [.int .i64 0,.bool false]):=by
 have key:=xX T 0 0 h;have u:Tryz.prog.underlying 55=some (.map 9 3):=rfl;have ak:D2 prog 9 (.str (lO x))=true:=rfl;have z:mI prog 3=some (.int .i64 0):=rfl;unfold lY;simp only[u,ak,hm,key,z]
theorem Cx{mem:aP}{σ:List (Nat × Nat)}:∀(T:List Nd) (off:Nat),Tk mem σ (Fq T off) (Fq T off):=fun T off=>⟨rfl,fun i e e' h1 h2=>by
 rw[h1] at h2;cases h2;have:∀(T:List Nd) (off i:Nat),(Fq T off)[i]? = some e->Cv mem σ e.1 e.1/\Cv mem σ e.2 e.2:=by
  intro T
  induction T with
  | nil=>intro off i h;cases h
  | cons y r ih=>
   intro off i h;cases i with
   | zero=>cases h;exact⟨.same _ nn,.same _ nn⟩
   | succ i=>exact ih (off+1) i h
 exact this T off i h1⟩
theorem Cz{c:Nat}:∀l:List a6,(∀v∈l,bF v<=c)->cJ l<=l.length*c
 | [],_=>by simp[cJ]
 | a::r,h=>by
  have h1:=h a (by simp);have h2:=Cz r fun v hv=>h v (by simp[hv])
  simp only[cJ,WB,Nat.add_mul];omega
theorem A4:∀l:List a6,(∀v∈l,bQ v=true)->cO l=true
 | [],_=>rfl
 | a::r,h=>by
  simp only[cO,h a (by simp),A4 r fun v hv=>h v (by simp[hv]),Bool.and_self]
theorem wZ{v:a6}(h:fL v=0):bQ v=true:=by
 unfold fL at h;split at h
 ·omega
 ·rename_i h1;simpa using h1
theorem Fo{v:a6}(h:zN v=true):bQ v=true:=by
 obtain⟨k,n,s,ks⟩:=v;simp only[zN,VZ,Vt] at h;obtain⟨⟨⟨rfl,rfl⟩,h1⟩,h2⟩:=h;have:ks=[]:=WL.1 h2;subst this;have:s=[]:=by simpa using h1
 subst this;rfl
theorem JZ{A:List Nd}(h:gI A){x:Nd}(hx:x∈A){p:List Int}(ho:n4 (cZ x p)):IS (cZ x p):=by
 obtain⟨j,hj⟩:=V2 hx;have hB:=qY h x hx;have hn:=jK A h.valid j x hj;have hf:=iH hn;have hfe:eM (mT x)=0:=by
  unfold eI at hn;rw[VY (by rw[hf];simp)] at hn;split at hn
  ·rename_i h1;exact absurd hn h1
  ·rename_i h1;exact Decidable.not_not.1 h1
 have hv:=uL hfe;unfold cP at hf;simp only[VZ] at hf;obtain⟨⟨⟨⟨⟨⟨hu,hkd⟩,hki⟩,h2⟩,h3⟩,h4⟩,h5⟩:=hf;unfold gY at hu;simp only[VZ,WN,Vt] at hu h3;have hcap:∀s:List UInt8,eP s=true->s.length<=16:=by
  intro s hs;cases s with
  | nil=>simp
  | cons c r=>simp only[eP,VZ,Vt] at hs;simp;omega
 have hvals:∀v∈x.values,fL v=0:=fun v hm=>hv v (by unfold mT;exact WT _ hm)
 refine⟨ho, ?_,by have:=hB.wlen;simp only[cZ];omega,by have:=hB.llen;simp only[cZ];omega,fun s hs=>?_,A4 _ fun v hm=>wZ (hvals v hm), ?_, ?_, ?_,by have:=hB.val;simp only[cZ];omega⟩
 ·simp only[cZ];by_cases hk:x.kind=3
  ·rcases h3 with h3|h3
   ·exact absurd hk h3
   ·rcases h3.2 with e|e
    ·rw[e];simp
    ·have:=hcap _ e.1;omega
  ·rcases hu.1.1.1.2 with e|e
   ·exact absurd e hk
   ·rw[e];simp
 ·have:=hB.lab s hs;simp[wK] at this;rcases this with rfl|rfl|rfl|rfl<;>simp
 ·have h1:=Cz x.values hB.vals;have h2:=hB.vlen;have h3:x.values.length*1024<=1024*1024:=Vz _ h2;simp only[cZ];omega
 ·have:=hB.klen;simp only[cZ,We];omega
 ·simp only[cZ];rcases hu.1.1.1.1.1 with e|e
  ·exact wZ (hv _ (by unfold mT;rw[Vb e];simp))
  ·exact Fo e
set_option maxHeartbeats 16000000
theorem Bk{r:List Bool}{i:Nat}(h:i<r.length):(gU r)[0+((i:Nat):Int).toNat]? = some (.bool (n6 r i)):=by
 rw[Va,V0,Lc,VV h];unfold n6;rw[VW,VV h];rfl
theorem Eb(r:List Bool)(i:Nat)(b:Bool):(gU r).set i (.bool b)=gU (r.set i b):=by
 unfold gU;rw[W2]
theorem TH(A:List Nd)(hT:gI A)(hl:A.length<=1000):bB prog [] 6 [.agg [.il 12 (aW A)]] (.agg [.il 12 (aW (nU A))]):=by
 have hB:=qY hT;have hv:=hT.valid;have hok:∀x∈A,n4 x:=fun x hx=>(hB x hx).ok
 have hV:NW A:=⟨hok,fun x hx=>by have:=(hB x hx).val;omega,fun x hx v hv=>by have:=(hB x hx).vals v hv;omega,fun x hx=>by have:=(hB x hx).vlen;omega,fun x hx=>by have:=(hB x hx).klen;omega⟩
 have hvt:cL A=0:=by unfold cL;rw[VY om,hv]
 have hVal:=Cu A hV;rw[hvt] at hVal;have hKI:=m9 hv;obtain⟨hRP,hTP⟩:=Bm hv hok om;refine aK bG func6 rfl ?_;refine Rr ?_;refine hVal.go ?_ (.cons (cM A) .nil) nn;refine Rr ?_;rw[bD];refine aN (Ml rfl rfl rfl om rfl) ?_;refine Rr ?_;obtain⟨r0,hr0⟩:∃r0,r0=List.replicate A.length false:=⟨_,rfl⟩
 have hr0e:gU r0=List.replicate A.length (.bool false):=by rw[hr0];simp[gU]
 have hr0l:r0.length=A.length:=by rw[hr0];simp
 refine bC.at bG (fun p:Nat × List Bool=>p.1<=A.length/\p.2.length=A.length/\Dh A p.1 p.2=eY A)
  (fun p=>⟨[(1,.ptr 0 0 0),(2,.ptr 1 0 0),(3,.sl 2 0 A.length),(4,.int .i64 ((p.1:Int)-1))],[(0,.row 25 1 [.agg [.il 12 (aW A)]]),(1,.row 25 1 [.agg [.nsl]]),(2,.row 4 1 (gU p.2))],3,142⟩)
  (fun p=>p.1) (A.length,r0) [(0,0),(1,1),(2,2)] ⟨Vh _,hr0l,by rw[hr0];rfl⟩
  (aG _ rfl ⟨aL 0 (.cons (cM A) .nil),aL 1 (.cons (.agg' (.cons .nsl .nil)) .nil),⟨2,_,rfl,rfl,.eq (eB _) (by rw[hr0e];simp)⟩,trivial⟩
   ⟨aJ,aJ,⟨_,rfl,.slE rfl (by simp)⟩,⟨_,rfl,.w64 (by rw[bD]) ⟨om,om⟩⟩,trivial⟩) ?_
 clear hr0e hr0l hr0 r0;rintro⟨m,r⟩ ⟨hm,hrl,hre⟩;simp only at hm hrl hre ⊢;refine Rr ?_;refine aI (fun hb=>?_) (fun hb=>?_)
 ·have hm1:0<m:=by simp at hb;omega
  obtain⟨i,rfl⟩:∃i,m=i+1:=⟨m-1,om⟩
  rw[show (((i+1:Nat):Int)-1)=(i:Int) by omega];have hi:i<A.length:=om;have hx:=VV hi;have ex:(aW A)[((i:Nat):Int).toNat]? = some (bW A[i]):=by simp[gK,hx]
  have hKx:=hKI i _ hx;have hst:gJ A r i=(A[i].kids).foldl (gZ i) (r.set i (n6 r i || decide (i+1=A.length))):=by unfold gJ;rw[c7 hx]
  have hre2:Dh A i (gJ A r i)=eY A:=hre;rw[hst] at hre2;have bi:Nat.blt ((i:Nat):Int).toNat A.length=true:=Vc (by simp;omega);have gi:=Bk (r:=r) (i:=i) om;have hkl:=(hB _ (Vw hi)).klen;generalize A[i]=x at hx ex hKx hst hre2 hkl;obtain⟨kind,name,lo,hi',ws,lbs,vals,kids,⟨vk,vn,vs,vks⟩⟩:=x;simp only at hKx hst hre2 hkl;rw[←hst] at hre2;obtain⟨r1,hr1⟩:∃r1,r1=r.set i (n6 r i || decide (i+1=A.length)):=⟨_,rfl⟩
  have hr1l:r1.length=A.length:=by rw[hr1,Wu];exact hrl
  rw[←hr1] at hst;obtain⟨rs,hrs⟩:∃rs,rs=gJ A r i:=⟨_,rfl⟩
  rw[←hrs] at hre2 hst;have hr1e:(kids.drop 0).foldl (gZ i) r1=rs:=hst.symm;clear hrs hst;refine Rr ?_;repeat((first|refine aN bi ?_|refine aD gi ?_|refine aU ?_);refine Rr ?_)
  have hwr:(((i:Nat):Int) == IntKind.i64.wrap ((((aW A).length:Nat):Int)-1))=decide (i+1=A.length):=by
   rw[bD,IntKind.wrap_i64,V5,beq_iff_eq,Vt];omega
  cases hbi:n6 r i
  all_goals
   rw[hbi] at gi;refine Rt ?_;repeat((first|refine aN bi ?_|refine aD gi ?_);refine Rt ?_)
   refine aD ex ?_;refine Rt ?_;refine bC.at bG (fun p:Nat × List Bool=>p.1<=kids.length/\p.2.length=A.length/\(kids.drop p.1).foldl (gZ i) p.2=rs)
    (fun p=>⟨[(1,.ptr 0 0 0),(2,.ptr 1 0 0),(3,.sl 2 0 A.length),(4,.int .i64 i),(54,.il 1 (aS kids)),(55,.int .i64 kids.length),(56,.int .i64 p.1)],[(0,.row 25 1 [.agg [.il 12 (aW A)]]),(1,.row 25 1 [.agg [.nsl]]),(2,.row 4 1 (gU p.2))],3,142⟩)
    (fun p=>kids.length-p.1) (0,r1) [(0,0),(1,1),(2,2)] ⟨Wb _,hr1l,hr1e⟩
    (aG _ rfl ⟨aL 0 (.cons (cM A) .nil),aL 1 (.cons (.agg' (.cons .nsl .nil)) .nil),⟨2,_,rfl,rfl,.eq (eB _) (by rw[hr1];simp[Eb,hbi,hwr])⟩,trivial⟩
     ⟨aJ,aJ,⟨_,rfl,.slE rfl rfl⟩,aF,aR (.il' (aM _)),⟨_,rfl,.int (by rw[aC])⟩,aF,trivial⟩) ?_
   rintro⟨j,q⟩ ⟨hj,hql,hqe⟩;simp only at hj hql hqe ⊢;refine Rr ?_;refine aI (fun hb2=>?_) (fun hb2=>?_)
   ·have hlt:j<kids.length:=by simpa using hb2
    have hg:=VV hlt;have e1:(aS kids)[((j:Nat):Int).toNat]? = some (.int .i64 kids[j]):=by simp[a8,hg]
    have hkr:=hKx _ (Vw hlt);rw[List.drop_eq_getElem_cons hlt,V1] at hqe;generalize kids[j]=kk at e1 hkr hqe;obtain⟨k,rfl⟩:=Vk hkr.1;have hki:k<A.length:=om;have bk:Nat.blt ((k:Nat):Int).toNat A.length=true:=Vc (by simp;omega);have gk:=Bk (r:=q) (i:=k) om;have gi2:=Bk (r:=q) (i:=i) om;refine Rr ?_;refine aD e1 ?_;refine Rr ?_;repeat((first|refine aN bk ?_|refine aD gk ?_|refine aU ?_);refine Rr ?_)
    have hks:gZ i q k=q.set k (n6 q k || n6 q i):=by unfold gZ;rw[Va]
    cases hbk:n6 q k
    all_goals
     rw[hbk] at gk hks;refine Rt ?_;repeat((first|refine aN bi ?_|refine aN bk ?_|refine aD gk ?_|refine aD gi2 ?_);refine Rt ?_)
     exact .mk (j+1,gZ i q k) [(0,0),(1,1),(2,2)] ⟨by simp only;omega,by simp[gZ,hql],hqe⟩
      (aG _ rfl ⟨aL 0 (.cons (cM A) .nil),aL 1 (.cons (.agg' (.cons .nsl .nil)) .nil),⟨2,_,rfl,rfl,.eq (eB _) (by rw[hks];simp[Eb])⟩,trivial⟩
       ⟨aJ,aJ,⟨_,rfl,.slE rfl rfl⟩,aF,aR (.il' (aM _)),aF,⟨_,rfl,.wp⟩,trivial⟩) (by simp only;omega)
   ·have hjl:j=kids.length:=by simp at hb2;omega
    subst hjl;rw[Wf,Xi] at hqe;subst hqe;refine Rr ?_;exact .mk (i,q) [(0,0),(1,1),(2,2)] ⟨by simp only;omega,hql,hre2⟩
     (aG _ rfl ⟨aL 0 (.cons (cM A) .nil),aL 1 (.cons (.agg' (.cons .nsl .nil)) .nil),aL 2 (eB _),trivial⟩
      ⟨aJ,aJ,⟨_,rfl,.slE rfl rfl⟩,⟨_,rfl,.w64 (by simp only) ⟨by simp only;omega,by simp only;omega⟩⟩,trivial⟩) (by simp only;omega)
 ·have hm0:m=0:=by simp at hb;omega
  subst hm0;have hre:r=eY A:=hre;subst hre;refine Rr ?_;rw[bD];refine aN (Ml rfl rfl rfl om rfl) ?_;refine Rr ?_;refine bC.ph 46 12 ?_;refine bC.at bG (fun i:Nat=>i<=A.length)
   (fun i=>⟨[(1,.ptr 0 0 0),(2,.ptr 1 0 0),(3,.sl 2 0 A.length),(7,.ptr 3 0 0),(8,.sl 4 0 A.length),(9,.mp 5),(81,.int .i64 A.length),(82,.int .i64 i)],
    [(0,.row 25 1 [.agg [.il 12 (aW A)]]),(1,.row 25 1 [.agg [.nsl]]),(2,.row 4 1 (gU (eY A))),(3,.row 25 1 [.agg [.sl 6 0 (iY A (eY A) i).1.length]]),(4,.row 3 1 (aS (iY A (eY A) i).2)),(5,.mapb (Fq (iY A (eY A) i).1 0)),(6,.row 46 12 (aW (iY A (eY A) i).1))],7,142⟩)
   (fun i=>A.length-i) 0 [(0,0),(1,1),(2,2),(3,3),(4,4),(5,5),(6,6)] (Wb _)
   (aG _ rfl ⟨aL 0 (.cons (cM A) .nil),aL 1 (.cons (.agg' (.cons .nsl .nil)) .nil),aL 2 (eB _),⟨3,_,rfl,rfl,.cons (.agg (.cons (.nslk 6 6 _ rfl rfl) .nil)) .nil⟩,⟨4,_,rfl,rfl,.eq (aM _) (by simp[iY,aS])⟩,⟨5,_,rfl,rfl,Cx [] 0⟩,aL 6 .nil,trivial⟩
    ⟨aJ,aJ,⟨_,rfl,.slE rfl rfl⟩,aJ,⟨_,rfl,.slE rfl (by simp)⟩,⟨_,rfl,.mp 5 5 rfl⟩,⟨_,rfl,.int (by rw[bD])⟩,aF,trivial⟩) ?_
  intro i hi;refine Rr ?_;refine aI (fun hb=>?_) (fun hb=>?_)
  ·have hil:i<A.length:=by simpa using hb
   have hx:=VV hil;have hxm:=Vw hil;have ex:(aW A)[((i:Nat):Int).toNat]? = some (bW A[i]):=by simp[gK,hx]
   have hKx:=hKI i _ hx;have hkl:=(hB _ hxm).klen;have hcN:=T6 A[i] (hok _ hxm);have bi:Nat.blt ((i:Nat):Int).toNat A.length=true:=Vc (by simp;omega);have gi:=Bk (r:=eY A) (i:=i) (by rw[hRP.len];exact hil);have hP:=yK hKI hok om hRP i hi;have hP1:=yK hKI hok om hRP (i+1) om;have hnx:iY A (eY A) (i+1)=tI A (eY A) (iY A (eY A) i) i:=rfl;generalize iY A (eY A) i=cur at hnx hP;obtain⟨T,pl⟩:=cur;have hpl:=hP.plen;have hTl:=hP.tlen;have hcod:∀y,y=cZ A[i] pl->n4 y->IS y:=fun y hy ho=>by rw[hy] at ho ⊢;exact JZ hT hxm ho
   unfold tI at hnx;simp only at hnx hpl hTl;rw[c7 hx] at hnx;simp only;cases hbi:n6 (eY A) i with
   | false=>
    rw[hbi] at gi;rw[Vb hbi] at hnx;refine Rr ?_;repeat((first|refine aN bi ?_|refine aD gi ?_|refine aU ?_);refine Rr ?_)
    exact .mk (i+1) [(0,0),(1,1),(2,2),(3,3),(4,4),(5,5),(6,6)] om
     (aG _ rfl ⟨aL 0 (.cons (cM A) .nil),aL 1 (.cons (.agg' (.cons .nsl .nil)) .nil),aL 2 (eB _),⟨3,_,rfl,rfl,.cons (.agg (.cons (.slE rfl (by rw[hnx])) .nil)) .nil⟩,⟨4,_,rfl,rfl,.eq (aM _) (by rw[hnx])⟩,⟨5,_,rfl,rfl,by rw[hnx];exact Cx T 0⟩,⟨6,_,rfl,rfl,.eq (aY _) (by rw[hnx])⟩,trivial⟩
      ⟨aJ,aJ,⟨_,rfl,.slE rfl rfl⟩,aJ,⟨_,rfl,.slE rfl rfl⟩,⟨_,rfl,.mp 5 5 rfl⟩,aF,⟨_,rfl,.w64 om ⟨om,om⟩⟩,trivial⟩) om
   | true=>
    rw[hbi] at gi;rw[VY (by rw[hbi];simp)] at hnx;have hkd:=hRP.down i (Wb _) hil hbi;have hxo:n4 (cZ A[i] pl):=by
     obtain⟨q,q1,q2⟩:=hP1.img i (WQ _) hil hbi;have h3:=hP1.ok _ (Ve q2);rw[c7 hx] at h3;have e:cZ A[i] (iY A (eY A) (i+1)).2=cZ A[i] pl:=by
      have hne:∀k∈A[i].kids,k.toNat≠i:=fun k hk=>by have:=hKx k hk;omega
      rw[hnx];split<;>exact lS hne
     rw[e] at h3;exact h3
    obtain⟨y,hy⟩:∃y,y=cZ A[i] pl:=⟨_,rfl⟩
    rw[←hy] at hxo hnx;have hcy:=hcod y hy hxo;have hEn:=IA y hcy;have hyn:=aV y;clear hcod hP1;obtain⟨x,hxe⟩:∃x,x=A[i]:=⟨_,rfl⟩
    rw[←hxe] at ex hKx hkl hcN hy;clear hx hxm hxe hkd;obtain⟨kind,name,lo,hi',ws,lbs,vals,kids,⟨vk,vn,vs,vks⟩⟩:=x;simp only at hKx hkl hcN;refine Rr ?_;repeat((first|refine aN bi ?_|refine aD gi ?_|refine aD ex ?_|refine aU ?_);refine Rr ?_)
    have NDn:∀s:AV,NN s->NN (.agg [.int .i64 kind,.str name,.int .i64 lo,.int .i64 hi',.il 1 (aS ws),.il 1 (jB lbs),.il 4 (aQ vals),s,.int .i64 vk,.int .i64 vn,.str vs,.il 4 (aQ vks)]):=fun s hs=>
     .agg' (.cons nn (.cons nn (.cons nn (.cons nn (.cons (.il' (aM _)) (.cons (.il' (dV _)) (.cons (.il' (aO _)) (.cons hs (.cons nn (.cons nn (.cons nn (.cons (.il' (aO _)) .nil))))))))))))
    refine aH.useN bG [] hcN rfl (.same (.cons (NDn _ (.il' (aM _))) .nil)) trivial rfl ?_;rintro r' m' n' ⟨rfl,rfl,rfl⟩;refine⟨[(0,7)],.agg [.int .i64 kind,.str name,.int .i64 lo,.int .i64 hi',.il 1 (aS ws),.il 1 (jB lbs),.il 4 (aQ vals),.sl 7 0 kids.length,.int .i64 vk,.int .i64 vn,.str vs,.il 4 (aQ vks)],[(7,.row 3 1 (aS kids))],8,
     .agg' (.s (.s (.s (.s (.cons (.same _ (.il' (aM _))) (.cons (.same _ (.il' (dV _))) (.cons (.same _ (.il' (aO _))) (.cons (.sl 0 7 0 _ rfl) (.s (.s (.s (.cons (.same _ (.il' (aO _))) .nil)))))))))))),⟨aL 0 (aM _),trivial⟩,rfl, ?_⟩
    refine Rt ?_;obtain⟨ks2,hks2⟩:∃ks2,ks2=kids.map (jO pl):=⟨_,rfl⟩
    have hk2l:ks2.length=kids.length:=by rw[hks2];simp
    have hzl:(aS kids).length=(aS ks2).length:=by rw[aC,aC,hk2l]
    have hy2:y=⟨kind,name,lo,hi',ws,lbs,vals,ks2,.mk vk vn vs vks⟩:=by rw[hy,hks2];rfl
    refine bC.at bG (fun k:Nat=>k<=kids.length)
     (fun k=>⟨[(1,.ptr 0 0 0),(2,.ptr 1 0 0),(3,.sl 2 0 A.length),(7,.ptr 3 0 0),(8,.sl 4 0 A.length),(9,.mp 5),(10,.int .i64 i),(11,.ptr 8 0 0),(81,.int .i64 A.length),(82,.int .i64 i),(97,.sl 7 0 kids.length),(98,.int .i64 kids.length),(99,.int .i64 k)],
      [(0,.row 25 1 [.agg [.il 12 (aW A)]]),(1,.row 25 1 [.agg [.nsl]]),(2,.row 4 1 (gU (eY A))),(3,.row 25 1 [.agg [.sl 6 0 T.length]]),(4,.row 3 1 (aS pl)),(5,.mapb (Fq T 0)),(6,.row 46 12 (aW T)),(7,.row 3 1 (pP (aS kids) (aS ks2) k)),(8,.row 46 12 [.agg [.int .i64 kind,.str name,.int .i64 lo,.int .i64 hi',.il 1 (aS ws),.il 1 (jB lbs),.il 4 (aQ vals),.sl 7 0 kids.length,.int .i64 vk,.int .i64 vn,.str vs,.il 4 (aQ vks)]])],9,142⟩)
     (fun k=>kids.length-k) 0 [(0,0),(1,1),(2,2),(3,3),(4,4),(5,5),(6,6),(7,7),(8,8)] (Wb _)
     (aG _ rfl ⟨aL 0 (.cons (cM A) .nil),aL 1 (.cons (.agg' (.cons .nsl .nil)) .nil),aL 2 (eB _),⟨3,_,rfl,rfl,.cons (.agg (.cons (.slE rfl rfl) .nil)) .nil⟩,aL 4 (aM _),⟨5,_,rfl,rfl,Cx T 0⟩,aL 6 (aY _),⟨7,_,rfl,rfl,.eq (Cg (aM _) (aM _) _) (by simp[pP])⟩,⟨8,_,rfl,rfl,.cons (.agg (.s (.s (.s (.s (.cons (.same _ (.il' (aM _))) (.cons (.same _ (.il' (dV _))) (.cons (.same _ (.il' (aO _))) (.cons (.slE rfl rfl) (.s (.s (.s (.cons (.same _ (.il' (aO _))) .nil))))))))))))) .nil⟩,trivial⟩
      ⟨aJ,aJ,⟨_,rfl,.slE rfl rfl⟩,aJ,⟨_,rfl,.slE rfl rfl⟩,⟨_,rfl,.mp 5 5 rfl⟩,aF,aJ,aF,aF,⟨_,rfl,.slE rfl rfl⟩,aF,aF,trivial⟩) ?_
    intro k hk;refine Rr ?_;refine aI (fun hb2=>?_) (fun hb2=>?_)
    ·have hlt:k<kids.length:=by simpa using hb2
     have hg:=VV hlt;have hkr:=hKx _ (Vw hlt);have hv2:(aS ks2)[k]? = some (.int .i64 (jO pl kids[k])):=by rw[hks2,a8,Vy,hg];rfl
     have bx:Nat.blt ((k:Nat):Int).toNat kids.length=true:=Vc (by simp;omega);have bz:(pP (aS kids) (aS ks2) k)[0+((k:Nat):Int).toNat]? = some (.int .i64 kids[k]):=by
      rw[show 0+((k:Nat):Int).toNat=k by simp,FF hzl (by rw[aC];omega),a8,hg];rfl
     have hs:=Ep hzl (k:=k) (by rw[aC];omega) hv2;generalize kids[k]=kk at hkr hv2 bz hs;obtain⟨q,rfl⟩:=Vk hkr.1;have bq:Nat.blt ((q:Nat):Int).toNat A.length=true:=Vc (by simp;omega);have gq:(aS pl)[0+((q:Nat):Int).toNat]? = some (.int .i64 (jO pl q)):=by
      unfold jO;rw[V0,a8,VW,VV (by simp only[Va];omega)];rfl
     generalize jO pl q=v at gq hs hv2;refine Rt ?_;repeat((first|refine aN bx ?_|refine aD bz ?_|refine aN bq ?_|refine aD gq ?_);refine Rt ?_)
     exact .mk (k+1) [(0,0),(1,1),(2,2),(3,3),(4,4),(5,5),(6,6),(7,7),(8,8)] om
      (aG _ rfl ⟨aL 0 (.cons (cM A) .nil),aL 1 (.cons (.agg' (.cons .nsl .nil)) .nil),aL 2 (eB _),⟨3,_,rfl,rfl,.cons (.agg (.cons (.slE rfl rfl) .nil)) .nil⟩,aL 4 (aM _),⟨5,_,rfl,rfl,Cx T 0⟩,aL 6 (aY _),⟨7,_,rfl,rfl,.eq (Cg (aM _) (aM _) _) (by rw[←hs];simp)⟩,⟨8,_,rfl,rfl,.cons (.agg (.s (.s (.s (.s (.cons (.same _ (.il' (aM _))) (.cons (.same _ (.il' (dV _))) (.cons (.same _ (.il' (aO _))) (.cons (.slE rfl rfl) (.s (.s (.s (.cons (.same _ (.il' (aO _))) .nil))))))))))))) .nil⟩,trivial⟩
       ⟨aJ,aJ,⟨_,rfl,.slE rfl rfl⟩,aJ,⟨_,rfl,.slE rfl rfl⟩,⟨_,rfl,.mp 5 5 rfl⟩,aF,aJ,aF,aF,⟨_,rfl,.slE rfl rfl⟩,aF,⟨_,rfl,.w64 om ⟨om,om⟩⟩,trivial⟩) om
    ·have hkl2:k=kids.length:=by simp at hb2;omega
     subst hkl2;rw[show pP (aS kids) (aS ks2) kids.length=aS ks2 by rw[←hk2l,←aC ks2];exact FT hzl];refine Rr ?_;refine aH.pre bG [(0,0),(1,1),(2,2),(3,3),(4,4),(5,5),(6,6),(8,8)] (mem':=[(0,.row 25 1 [.agg [.il 12 (aW A)]]),(1,.row 25 1 [.agg [.nsl]]),(2,.row 4 1 (gU (eY A))),(3,.row 25 1 [.agg [.sl 6 0 T.length]]),(4,.row 3 1 (aS pl)),(5,.mapb (Fq T 0)),(6,.row 46 12 (aW T)),(8,.row 46 12 [.agg [.int .i64 kind,.str name,.int .i64 lo,.int .i64 hi',.il 1 (aS ws),.il 1 (jB lbs),.il 4 (aQ vals),.il 1 (aS ks2),.int .i64 vk,.int .i64 vn,.str vs,.il 4 (aQ vks)]])]) rfl
      ⟨aL 0 (.cons (cM A) .nil),aL 1 (.cons (.agg' (.cons .nsl .nil)) .nil),aL 2 (eB _),⟨3,_,rfl,rfl,.cons (.agg (.cons (.slE rfl rfl) .nil)) .nil⟩,aL 4 (aM _),⟨5,_,rfl,rfl,Cx T 0⟩,aL 6 (aY _),⟨8,_,rfl,rfl,.cons (.agg (.s (.s (.s (.s (.cons (.same _ (.il' (aM _))) (.cons (.same _ (.il' (dV _))) (.cons (.same _ (.il' (aO _))) (.cons (.fz' (id:=7) rfl rfl (by rw[aC,hk2l];omega) (by rw[V7];exact Vl (by rw[aC,hk2l];omega)) (aM _)) (.s (.s (.s (.cons (.same _ (.il' (aO _))) .nil))))))))))))) .nil⟩,trivial⟩ (.cons (.agg' (.s (.s (.s (.s (.cons (.same _ (.il' (aM _))) (.cons (.same _ (.il' (dV _))) (.cons (.same _ (.il' (aO _))) (.cons (.fz' (id:=7) rfl rfl (by rw[aC,hk2l];omega) (by rw[V7];exact Vl (by rw[aC,hk2l];omega)) (aM _)) (.s (.s (.s (.cons (.same _ (.il' (aO _))) .nil))))))))))))) .nil) ?_
     have hEn':=hEn;rw[hy2] at hEn';refine hEn'.go ?_ (.cons (NDn _ (.il' (aM _))) .nil) (.il' (Go.Ax.d6 _));rw[←hy2];refine Rr ?_;refine aD (oG _) ?_;refine Rr ?_;obtain⟨pv,hpv⟩:∃pv,pl[i]? = some pv:=⟨_,VV om⟩
     have gpi:(aS pl)[0+((i:Nat):Int).toNat]? = some (.int .i64 pv):=by rw[Va,V0,a8,hpv];rfl
     cases hf:Bf T y with
     | some q=>
      rw[hf] at hnx;simp only at hnx;refine aD (I0 rfl hf) ?_;refine Rt ?_;repeat((first|refine aN bi ?_|refine aD gpi ?_);refine Rt ?_)
      exact .mk (i+1) [(0,0),(1,1),(2,2),(3,3),(4,4),(5,5),(6,6)] om
       (aG _ rfl ⟨aL 0 (.cons (cM A) .nil),aL 1 (.cons (.agg' (.cons .nsl .nil)) .nil),aL 2 (eB _),⟨3,_,rfl,rfl,.cons (.agg (.cons (.slE rfl (by rw[hnx])) .nil)) .nil⟩,⟨4,_,rfl,rfl,.eq (aM _) (by rw[hnx];simp[aS,W2])⟩,⟨5,_,rfl,rfl,by rw[hnx];exact Cx T 0⟩,⟨6,_,rfl,rfl,.eq (aY _) (by rw[hnx])⟩,trivial⟩
        ⟨aJ,aJ,⟨_,rfl,.slE rfl rfl⟩,aJ,⟨_,rfl,.slE rfl rfl⟩,⟨_,rfl,.mp 5 5 rfl⟩,aF,⟨_,rfl,.w64 om ⟨om,om⟩⟩,trivial⟩) om
     | none=>
      rw[hf] at hnx;simp only at hnx;refine aD (Jc rfl hf) ?_;refine Rr ?_;refine aD (xX T 0 0 hf) ?_;refine Rr ?_;refine fN.2 ?_;refine Rt ?_;refine aN (bV rfl rfl (by rw[bD]) (by simp;omega)) ?_;refine Rt ?_;repeat((first|refine aN bi ?_|refine aD gpi ?_);refine Rt ?_)
      have hkn:Fq (T++[y]) 0=Fq T 0++[(.str (lO y),.int .i64 ((T.length:Nat):Int))]:=by rw[G6,V0]
      exact .mk (i+1) [(0,0),(1,1),(2,2),(3,3),(4,4),(5,5),(10,6)] om
       (aG _ rfl ⟨aL 0 (.cons (cM A) .nil),aL 1 (.cons (.agg' (.cons .nsl .nil)) .nil),aL 2 (eB _),⟨3,_,rfl,rfl,.cons (.agg (.cons (.slE rfl (by rw[hnx];simp)) .nil)) .nil⟩,⟨4,_,rfl,rfl,.eq (aM _) (by rw[hnx];simp[aS,W2])⟩,⟨5,_,rfl,rfl,by rw[hnx];simp only;rw[←hkn];exact Cx (T++[y]) 0⟩,⟨10,_,rfl,rfl,.eq (aY _) (by rw[hnx,hy2];simp[aW,bW])⟩,trivial⟩
        ⟨aJ,aJ,⟨_,rfl,.slE rfl rfl⟩,aJ,⟨_,rfl,.slE rfl rfl⟩,⟨_,rfl,.mp 5 5 rfl⟩,aF,⟨_,rfl,.w64 om ⟨om,om⟩⟩,trivial⟩) om
  ·have hil:i=A.length:=by simp at hb;omega
   subst hil;refine Rr ?_;have hTl:(aW (nU A)).length=(nU A).length:=bD _;exact dK (r':=.agg [.il 12 (aW (nU A))]) (.agg' (.cons (.fz' (id:=6) rfl rfl (by show 0+(nU A).length<=(aW (nU A)).length;omega) (by show List.take (nU A).length (List.drop 0 (aW (nU A)))=_;rw[V7];exact Vl om) (aY _)) .nil)) ⟨rfl,rfl,rfl⟩
set_option maxHeartbeats 16000000
def Qa(A:List Nd):Prop:=dZ A/\(A.length≠0->N6 A)
theorem Kc{A:List Nd}(ht:dZ A)(hv:bU [] A=0)(hg:∀j,gN (aE A j)<=3)(hl:A.length<=14):Qa A:=
 ⟨ht,fun h=>SP ⟨ht,by unfold cL;rw[VY om,hv],om⟩ hg hl⟩
def Ic(L:List (List Nd)):List AV:=L.map fun t=>.agg [.il 12 (aW t)]
theorem AI(L:List (List Nd)):jZ (Ic L):=fun a ha=>by
 obtain⟨n,_,rfl⟩:=Vq.1 ha;exact cM n
theorem NX{L:List (List Nd)}{i:Nat}(h:i<L.length):(Ic L)[((i:Nat):Int).toNat]? = some (.agg [.il 12 (aW L[i])]):=by
 simp[Ic,VV h]
theorem DW{A:List Nd}(hT:gI A)(hl:A.length<=14):Qa A:=
 Kc (FQ (LB:=LB) (fun s hs=>Mp hs) (fun x hx=>LF Kx (qY hT x hx)) om) hT.valid (Qy hT.gen) hl
theorem L0{A:List Nd}(hT:gI A)(hl:A.length<=14):Qa (nU A):=by
 have hok:∀x∈A,n4 x:=fun x hx=>(qY hT x hx).ok
 obtain⟨q1,q2⟩:=Od (LB:=LB) hT.valid hok om (fun x hx=>LF Kx (qY hT x hx));exact Kc (FQ (fun s hs=>Mp hs) q1 om) (Go.Ax.Id hT.valid hok om) (QF hT.valid hok om (Qy hT.gen)) om
theorem P8{A:List Nd}(h:VT A)(raw:List Int)(hr:∀x∈raw,i64 x):∀x∈iV A raw,i64 x:=fun x hx=>by
 obtain⟨m,hm⟩:=V2 hx;have hml:=(VX.1 hm).1;have hl:((iV A raw).take m).length=m:=by rw[V3];omega
 obtain⟨n,hn1,hn2,hn3⟩:=(qH h (raw:=raw) (out:=(iV A raw).take m) (by rw[hl];rfl)).2 (by rw[hl];exact hml);rw[hl] at hn3;have h3:(iV A raw)[m]? = some (cR raw (aE A n) m):=hn3;rw[hm] at h3;cases h3;unfold cR;split
 ·rename_i hq;have:=hr _ (Ve (VV hq));rw[VW,VV hq];obtain⟨a,b⟩:=this;simp only[Wr];exact⟨om,om⟩
 ·exact⟨om,om⟩
theorem JV(l m:List Int)(at_ n:Int)(raw:List Int)(hl:∀x∈l,i64 x)(hm:∀x∈m,i64 x)(_:i64 at_)(hn:i64 n)(hr:∀x∈raw,i64 x)(hlen:l.length<=17592186043904)(hrl:raw.length<=17592186043904)(hLv:bB prog gz 7 [] (.bool true)) :
  bB prog gz 3 [.il 1 (aS l),.il 1 (aS m),.int .i64 at_,.int .i64 n,.il 1 (aS raw)] (.bool true):=by
 have nraw:NN (.il 1 (aS raw)):=.il' (aM raw);refine aK eS func3 rfl ?_;refine Rr ?_;refine K8 l hl fun A hTA hAl=>?_
 refine Rr ?_;refine aH.goG0 (O7 l at_ n hl hlen hn) ?_;rintro r m' n' ⟨E,hTE,hEl,rfl,rfl,rfl⟩;refine⟨.agg [.il 12 (aW E)],.same _ (cM E), ?_⟩;refine Rt ?_;refine K8 m hm fun M hTM hMl=>?_
 refine Rt ?_;have hTr:=TH A hTA om;refine hTr.goG ?_ (.cons (cM A) .nil) (cM _);refine Rt ?_;rw[bD];by_cases h0:A.length=0
 ·rw[show (((A.length:Nat):Int) == 0)=true by simp[h0]];refine Rr ?_;refine hLv.use eS .nil (.bool true) ?_;refine Rr ?_;exact aA (.bool _) ⟨rfl,rfl,rfl⟩
 ·rw[show (((A.length:Nat):Int) == 0)=false by simpa using h0];have cA:=(DW hTA hAl).2 h0;have hF:=Uc cA.vt raw hrl;have hpi:=P8 cA.vt raw hr;have hpl:(iV A raw).length<=256:=uN cA.vt raw;have hC:=fun(B:List Nd) (cB:N6 B)=>Ud cA cB raw hpi
  have hVl:=fun(v:a6) (hv:gH v)=>GR (bF v) v (Vh _) hv
  obtain⟨L,hLd,hL3,hL⟩:∃L,L=[E,M,nU A]/\L.length=3/\∀t∈L,Qa t:=⟨_,rfl,rfl,by
   intro t ht;simp only[Vg,X7,or_false] at ht;rcases ht with rfl|rfl|rfl
   ·exact DW hTE hEl
   ·exact DW hTM hMl
   ·exact L0 hTA hAl⟩
  generalize iV A raw=p at *;have np:NN (.il 1 (aS p)):=.il' (aM p);have lp:=aC p;refine Rr ?_;refine hF.goG ?_ (.cons (cM A) (.cons nraw .nil)) (.tup' (.cons np (.cons nn .nil)));refine Rt ?_;refine bC.at eS (fun i:Nat=>i<=3) (fun i=>⟨[(11,.ptr 0 0 0),(12,.il 1 (Ic L)),(13,.il 1 (aS p)),(15,.int .i64 i)],[(0,.row 25 1 [.agg [.il 12 (aW A)]])],1,109⟩) (fun i=>3-i) 0 [(0,0)] (by simp)
   (aG _ rfl ⟨aL 0 (.cons (cM A) .nil),trivial⟩
    ⟨aJ,⟨_,rfl,.fzR (id:=9) rfl rfl (by
     rw[hLd];exact .cons (.same (cM E)) (.cons (.same (cM M)) (.cons (.same (cM _)) (.same .nil)))) (by simp[Ic,hL3])⟩,aR np,aF,trivial⟩) ?_
  have e3:(Ic L).length=3:=by simp[Ic,hL3]
  intro i hi;refine Rr ?_;refine aI (fun hb=>?_) (fun hb=>?_)
  ·have hi3:i<3:=by simp at hb;omega
   have hGi:=hL _ (Vw (show i<L.length by omega));have ei:=NX (show i<L.length by omega);generalize L[i]'_=B at hGi ei;refine Rr ?_;repeat((first|refine aD ei ?_|refine aU ?_);refine Rr ?_)
   rw[bD];by_cases hB0:B.length=0
   ·rw[show (((B.length:Nat):Int) == 0)=true by simp[hB0]];refine Rr ?_;exact .mk (i+1) [(0,0)] om (aG _ rfl ⟨aL 0 (.cons (cM A) .nil),trivial⟩ ⟨aJ,aR (.il' (AI L)),aR np,⟨_,rfl,.w64 om ⟨om,om⟩⟩,trivial⟩) om
   ·rw[show (((B.length:Nat):Int) == 0)=false by simpa using hB0];have cB:=hGi.2 hB0;have hW:=hC B cB;refine Rr ?_;repeat((first|refine aD ei ?_|refine aU ?_);refine Rr ?_)
    refine aH.call0 eS hW (.cons (cM A) (.cons (cM B) (.cons np .nil))) ?_;rintro r m' k' ⟨q,q1,q2,q3,q4,rfl,rfl,rfl⟩;have nq:NN (.il 1 (aS q)):=.il' (aM q);have lq:=aC q;have hql:q.length<=256:=by
     have h1:=q1.1;have h2:=uN cB.vt q;omega
    refine⟨_,.same _ (.tup' (.cons nq (.cons nn .nil))), ?_⟩;have hE:uZ B q=0:=by
     unfold uZ;have e:jV q (j8 B q)=AN B q:=KQ cB.vt q1;rw[VY (fun h=>h cB.vt.val),VY hB0,e,Vb q2]
    have hok:gH (uE B q):=by
     unfold uE;rw[Vb hE];have hp:=cB.vt.pos;exact(mJ cB.vt q B.length (B.length-1) 0 om om q2).1
    have hV:=SZ (A:=B) (p:=q) ⟨cB.vt.tin,om,q3,fun _=>cB.cnt q⟩ hVl hok;rw[hE] at hV;have nV:=bN (uE B q);generalize uE B q=V at *;obtain⟨v1,v2,v3,v4⟩:=V;have hS:=S9 cA.vt.tin cB.vt.tin;refine Rr ?_;repeat((first|refine aD ei ?_|refine aU ?_);refine Rr ?_)
    refine hV.goG ?_ (.cons (cM B) (.cons nq .nil)) (.tup' (.cons nV (.cons nn .nil)));refine Rr ?_;repeat((first|refine aD ei ?_|refine aU ?_);refine Rr ?_)
    refine hS.use eS (.cons (cM A) (.cons (cM B) .nil)) nn ?_;by_cases hc:Go.Ax.f6 A B=0
    ·obtain rfl:=q4 hc;rw[Vi hc];refine Rr ?_;rw[show ((((aS q).length:Nat):Int) != (((aS q).length:Nat):Int))=false by simp];refine Rr ?_;refine bC.at eS (fun k:Nat=>k<=q.length) (fun k=>⟨[(11,.ptr 0 0 0),(12,.il 1 (Ic L)),(13,.il 1 (aS q)),(15,.int .i64 i),(16,.il 1 (aS q)),(20,.int .i64 k)],[(0,.row 25 1 [.agg [.il 12 (aW A)]])],1,109⟩) (fun k=>q.length-k) 0 [(0,0)] (by simp)
      (aG _ rfl ⟨aL 0 (.cons (cM A) .nil),trivial⟩ ⟨aJ,aR (.il' (AI L)),aR nq,aF,aR nq,aF,trivial⟩) ?_
     intro k hk;refine Rr ?_;rw[lq];refine aI (fun hb=>?_) (fun hb=>?_)
     ·have hkl:k<q.length:=by simp at hb;omega
      have ek:(aS q)[((k:Nat):Int).toNat]? = some (.int .i64 (q.getD k 0)):=by
       rw[Va,a8,VV hkl,VW,VV hkl];rfl
      generalize q.getD k 0=z at ek;refine Rr ?_;repeat((first|refine aD ek ?_|refine aU ?_);refine Rr ?_)
      rw[show (z != z)=false by simp];refine Rr ?_;exact .mk (k+1) [(0,0)] om (aG _ rfl ⟨aL 0 (.cons (cM A) .nil),trivial⟩ ⟨aJ,aR (.il' (AI L)),aR nq,aF,aR nq,⟨_,rfl,.w64 om ⟨om,om⟩⟩,trivial⟩) om
     ·refine Rr ?_;exact .mk (i+1) [(0,0)] om (aG _ rfl ⟨aL 0 (.cons (cM A) .nil),trivial⟩ ⟨aJ,aR (.il' (AI L)),aR nq,⟨_,rfl,.w64 om ⟨om,om⟩⟩,trivial⟩) om
    ·rw[Vv hc];refine Rr ?_;exact .mk (i+1) [(0,0)] om (aG _ rfl ⟨aL 0 (.cons (cM A) .nil),trivial⟩ ⟨aJ,aR (.il' (AI L)),aR np,⟨_,rfl,.w64 om ⟨om,om⟩⟩,trivial⟩) om
  ·refine Rr ?_;refine hLv.use eS .nil (.bool true) ?_;refine Rr ?_;exact aA (.bool _) ⟨rfl,rfl,rfl⟩
end Go.Proofs.YtioogodkiglceaaGreatDoor
namespace Go.Ax
open Go
def Ai(f:AV->Option AV):List AV->Option (List AV)
 | []=>some []
 | a::r=>match f a with
  | none=>none
  | some b=>match Ai f r with
   | none=>none
   | some t=>some (b::t)
def frz:Nat->List (Nat × Nat)->aP->AV->Option AV
 | 0,_,_,_=>none
 | n+1,σ,m,v=>match v with
  | .bool b=>some (.bool b)
  | .int k i=>some (.int k i)
  | .str s=>some (.str s)
  | .nptr=>some .nptr
  | .nsl=>some .nsl
  | .nmap=>some .nmap
  | .nfn=>some .nfn
  | .nif=>some .nif
  | .sl id off len=>match lk σ id with
   | none=>match lk m id with
    | some (.row t sz xs)=>match Nat.ble (off+len) xs.length with
     | true=>match Ai (frz n σ m) ((xs.drop off).take len) with
      | some ys=>some (.il sz ys)
      | none=>none
     | false=>none
    | _=>none
   | some _=>none
  | .il sz xs=>match Ai (frz n σ m) xs with
   | some ys=>some (.il sz ys)
   | none=>none
  | .ifc t v=>match frz n σ m v with
   | some v'=>some (.ifc t v')
   | none=>none
  | .agg cs=>match Ai (frz n σ m) cs with
   | some ys=>some (.agg ys)
   | none=>none
  | .tup cs=>match Ai (frz n σ m) cs with
   | some ys=>some (.tup ys)
   | none=>none
  | _=>none
structure yJ(m:aP)(σ:List (Nat × Nat))(v v':AV):Prop where
 cv:Cv m σ v v'
 nn:NN v'
 ce:kU m σ v.cells v'.cells
theorem yJ.len{m:aP}{σ:List (Nat × Nat)}{v v':AV}(h:yJ m σ v v'):v.cells.length=v'.cells.length:=h.ce.1
theorem jC{m:aP}{σ:List (Nat × Nat)}{f:AV->Option AV}(hf:∀v v',f v=some v'->yJ m σ v v'):∀{l l':List AV},Ai f l=some l'->l.length=l'.length/\∀(j:Nat) (a b:AV),l[j]? = some a->l'[j]? = some b->yJ m σ a b
 | [],l',h=>by simp only[Ai] at h;cases h;exact⟨rfl,fun j a b h=>by simp at h⟩
 | a::r,l',h=>by
  simp only[Ai] at h;split at h
  ·cases h
  ·rename_i b hb;split at h
   ·cases h
   ·rename_i t ht;cases h;obtain⟨h1,h2⟩:=jC hf ht;refine⟨by simp[h1],fun j x y hx hy=>?_⟩;cases j with
    | zero=>simp at hx hy;subst hx hy;exact hf _ _ hb
    | succ j=>simp at hx hy;exact h2 j x y hx hy
theorem wD{m:aP}{σ:List (Nat × Nat)}{l l':List AV}(h1:l.length=l'.length)(h2:∀(j:Nat) (a b:AV),l[j]? = some a->l'[j]? = some b->yJ m σ a b):jZ l':=fun b hb=>by
 obtain⟨j,hj⟩:=V2 hb;obtain⟨a,ha⟩:=dH h1 hj;exact(h2 j a b ha hj).nn
theorem yJ.one{m:aP}{σ:List (Nat × Nat)}{v v':AV}(h1:v.cells=[v])(h2:v'.cells=[v'])(hc:Cv m σ v v')(hn:NN v'):yJ m σ v v':=
 ⟨hc,hn,by rw[h1,h2];exact kU.cons hc .nil⟩
theorem mQ{m:aP}{σ:List (Nat × Nat)}:∀(n:Nat) (v v':AV),frz n σ m v=some v'->yJ m σ v v'
 | 0,v,v',h=>by simp[frz] at h
 | n+1,v,v',h=>by
  have ih:=mQ (m:=m) (σ:=σ) n;cases v with
  | bool b=>simp only[frz] at h;cases h;exact .one rfl rfl (.same _ (.bool b)) (.bool b)
  | int k i=>simp only[frz] at h;cases h;exact .one rfl rfl (.same _ (.int k i)) (.int k i)
  | str s=>simp only[frz] at h;cases h;exact .one rfl rfl (.same _ (.str s)) (.str s)
  | nptr=>simp only[frz] at h;cases h;exact .one rfl rfl (.same _ .nptr) .nptr
  | nsl=>simp only[frz] at h;cases h;exact .one rfl rfl (.same _ .nsl) .nsl
  | nmap=>simp only[frz] at h;cases h;exact .one rfl rfl (.same _ .nmap) .nmap
  | nfn=>simp only[frz] at h;cases h;exact .one rfl rfl (.same _ .nfn) .nfn
  | nif=>simp only[frz] at h;cases h;exact .one rfl rfl (.same _ .nif) .nif
  | ptr id i j=>simp[frz] at h
  | mp id=>simp[frz] at h
  | ip v=>simp[frz] at h
  | fn f a b=>simp[frz] at h
  | junk=>simp[frz] at h
  | yld id=>simp[frz] at h
  | sl id off len=>
   simp only[frz] at h;split at h
   ·rename_i hs;split at h
    ·rename_i t sz xs hx;split at h
     ·rename_i hle;split at h
      ·rename_i ys hy;cases h;have hle:=Vd hle;obtain⟨h1,h2⟩:=jC ih hy;have hget:∀(i:Nat) (x y:AV),xs[off+i]? = some x->ys[i]? = some y->yJ m σ x y:=fun i x y hx hy=>by
        refine h2 i x y ?_ hy;have hlt:i<ys.length:=(VX.1 hy).1;rw[←h1] at hlt;rw[WA,Vb (by simp at hlt;omega),V9];exact hx
       refine .one rfl rfl (.fz id off len t sz xs ys hx hs hle (by rw[←h1];simp;omega) (fun i x y hx hy=>(hget i x y hx hy).len) fun i x y j c c' hx hy hc hc'=>(hget i x y hx hy).ce.2 j c c' hc hc') ?_;exact NN.il' (wD h1 h2)
      ·cases h
     ·cases h
    ·cases h
   ·cases h
  | il sz xs=>
   simp only[frz] at h;split at h
   ·rename_i ys hy;cases h;obtain⟨h1,h2⟩:=jC ih hy;refine .one rfl rfl (.il sz xs ys h1 (fun i x y hx hy=>(h2 i x y hx hy).len) fun i x y j c c' hx hy hc hc'=>(h2 i x y hx hy).ce.2 j c c' hc hc') ?_;exact NN.il' (wD h1 h2)
   ·cases h
  | ifc t v=>
   simp only[frz] at h;split at h
   ·rename_i v' hv;cases h;exact .one rfl rfl (.ifc t v v' (ih v v' hv).cv) (.ifc t v' (ih v v' hv).nn)
   ·cases h
  | agg cs=>
   simp only[frz] at h;split at h
   ·rename_i ys hy;cases h;obtain⟨h1,h2⟩:=jC ih hy;have hl:kU m σ cs ys:=⟨h1,fun j c c' hc hc'=>(h2 j c c' hc hc').cv⟩
    exact⟨.agg' hl,.agg' (wD h1 h2),hl⟩
   ·cases h
  | tup cs=>
   simp only[frz] at h;split at h
   ·rename_i ys hy;cases h;obtain⟨h1,h2⟩:=jC ih hy;have hl:kU m σ cs ys:=⟨h1,fun j c c' hc hc'=>(h2 j c c' hc hc').cv⟩
    exact .one rfl rfl (.tup' hl) (.tup' (wD h1 h2))
   ·cases h
theorem Pa{m:aP}{args bs:List AV}(n:Nat)(h:Ai (frz n [] m) args=some bs):kU m [] args bs:=by
 obtain⟨h1,h2⟩:=jC (mQ n) h;exact⟨h1,fun j c c' hc hc'=>(h2 j c c' hc hc').cv⟩
def Qw:aP->List (Nat × Nat)
 | []=>[]
 | (i,_)::r=>(i,i)::Qw r
theorem SE{mem:aP}:∀{i:Nat} {b:AB},lk mem i=some b->lk (Qw mem) i=some i:=by
 induction mem with
 | nil=>intro i b h;simp[lk] at h
 | cons p r ih=>
  intro i b h;obtain⟨j,u⟩:=p;simp only[lk] at h;simp only[Qw,lk];split at h
  ·rename_i e;rw[Nat.eq_of_beq_eq_true e]
  ·exact ih h
def Kr(m:aP):aP->Bool
 | []=>true
 | (i,b)::r=>(match b with
  | .row t sz xs=>match lk m i with
   | some (.row t' sz' xs')=>match Ai (frz 30 [] []) xs with
    | some ys=>Nat.beq t t' && (Nat.beq sz sz' && (pH xs' xs && pH ys xs))
    | none=>false
   | _=>false
  | _=>false) && Kr m r
theorem A8{m:aP}(σ:List (Nat × Nat)):∀{mem:aP},Kr m mem=true->(∀p∈mem,lk σ p.1=some p.1)->cN m σ mem
 | [],h,hs=>trivial
 | (i,b)::r,h,hs=>by
  simp only[Kr,VZ] at h;refine⟨?_,A8 σ h.2 fun p hp=>hs p (Vn _ hp)⟩;have h:=h.1;split at h
  ·rename_i t sz xs;split at h
   ·rename_i t' sz' xs' hl;split at h
    ·rename_i ys hy;simp only[VZ] at h;obtain⟨h1,h2,h3,h4⟩:=h;have e1:=Nat.eq_of_beq_eq_true h1;have e2:=Nat.eq_of_beq_eq_true h2;have e3:=iO h3;have e4:=iO h4;subst e1 e2 e3 e4;obtain⟨g1,g2⟩:=jC (mQ 30) hy;exact⟨i,ys,hs _ (Vu ..),hl,.same (wD g1 g2)⟩
    ·cases h
   ·cases h
  ·cases h
def VC(mem:aP)(want r:AV)(m:aP):Bool:=
 match frz 30 (Qw mem) m r with
 | some v=>match lP v want with
  | true=>Kr m mem
  | false=>false
 | none=>false
def VJ(mem:aP)(want r:AV)(m:aP):Prop:=
 match VC mem want r m with
 | true=>True
 | false=>False
theorem QL:∀{mem:aP},(mem.map (·.1)).Nodup->∀p∈mem,lk (Qw mem) p.1=some p.1:=by
 intro mem hn p hp;have:∃b,lk mem p.1=some b:=by
  clear hn
  induction mem with
  | nil=>cases hp
  | cons q r ih=>
   obtain⟨j,u⟩:=q;simp only[lk];split
   ·exact⟨u,rfl⟩
   ·rename_i e;rcases Vg.1 hp with rfl|hp
    ·simp at e
    ·exact ih hp
 obtain⟨b,hb⟩:=this;exact SE hb
def B4(nx:Nat):aP->aP->(aP->aP->Prop)->Prop
 | [],acc,K=>K acc []
 | (i,b)::r,acc,K=>match Nat.ble nx i with
  | true=>B4 nx r ((i,b)::acc) K
  | false=>K acc ((i,b)::r)
def J6(f:AV->(AV->Prop)->Prop->Prop):List AV->(List AV->Prop)->Prop->Prop
 | [],K,_=>K []
 | a::r,K,N=>f a (fun b=>J6 f r (fun t=>K (b::t)) N) N
def Lh:Nat->aP->AV->(AV->Prop)->Prop->Prop
 | 0,_,_,_,N=>N
 | n+1,m,v,K,N=>match v with
  | .bool b=>K (.bool b)
  | .int k i=>K (.int k i)
  | .str s=>K (.str s)
  | .nptr=>K .nptr
  | .nsl=>K .nsl
  | .nmap=>K .nmap
  | .nfn=>K .nfn
  | .nif=>K .nif
  | .sl id off len=>match lk m id with
   | some (.row t sz xs)=>match Nat.ble (off+len) xs.length with
    | true=>J6 (Lh n m) ((xs.drop off).take len) (fun ys=>K (.il sz ys)) N
    | false=>N
   | _=>N
  | .il sz xs=>J6 (Lh n m) xs (fun ys=>K (.il sz ys)) N
  | .ifc t v=>Lh n m v (fun v'=>K (.ifc t v')) N
  | .agg cs=>J6 (Lh n m) cs (fun ys=>K (.agg ys)) N
  | .tup cs=>J6 (Lh n m) cs (fun ys=>K (.tup ys)) N
  | _=>N
theorem Ab{f:AV->(AV->Prop)->Prop->Prop}{g:AV->Option AV}{N:Prop}(hf:∀v K,f v K N->N∨∃v',g v=some v'/\K v'):∀{l:List AV} {K:List AV->Prop},J6 f l K N->N∨∃l',Ai g l=some l'/\K l'
 | [],K,h=>.inr ⟨[],rfl,h⟩
 | a::r,K,h=>by
  rcases hf a _ h with h|⟨b,h1,h⟩
  ·exact .inl h
  ·rcases Ab hf h with h|⟨t,h2,h⟩
   ·exact .inl h
   ·exact .inr ⟨b::t,by simp only[Ai,h1,h2],h⟩
theorem NY{m:aP}{N:Prop}:∀(n:Nat) (v:AV) (K:AV->Prop),Lh n m v K N->N∨∃v',frz n [] m v=some v'/\K v'
 | 0,v,K,h=>.inl h
 | n+1,v,K,h=>by
  have ih:=NY (m:=m) (N:=N) n;cases v with
  | bool b=>exact .inr ⟨_,rfl,h⟩
  | int k i=>exact .inr ⟨_,rfl,h⟩
  | str s=>exact .inr ⟨_,rfl,h⟩
  | nptr=>exact .inr ⟨_,rfl,h⟩
  | nsl=>exact .inr ⟨_,rfl,h⟩
  | nmap=>exact .inr ⟨_,rfl,h⟩
  | nfn=>exact .inr ⟨_,rfl,h⟩
  | nif=>exact .inr ⟨_,rfl,h⟩
  | ptr id i j=>exact .inl h
  | mp id=>exact .inl h
  | ip v=>exact .inl h
  | fn f a b=>exact .inl h
  | junk=>exact .inl h
  | yld id=>exact .inl h
  | sl id off len=>
   simp only[Lh] at h;split at h
   ·rename_i t sz xs hx;split at h
    ·rename_i hle;rcases Ab ih h with h|⟨ys,h1,h⟩
     ·exact .inl h
     ·exact .inr ⟨_,by simp only[frz,lk,hx,hle,h1],h⟩
    ·exact .inl h
   ·exact .inl h
  | il sz xs=>
   simp only[Lh] at h;rcases Ab ih h with h|⟨ys,h1,h⟩
   ·exact .inl h
   ·exact .inr ⟨_,by simp only[frz,h1],h⟩
  | ifc t v=>
   simp only[Lh] at h;rcases ih v _ h with h|⟨v',h1,h⟩
   ·exact .inl h
   ·exact .inr ⟨_,by simp only[frz,h1],h⟩
  | agg cs=>
   simp only[Lh] at h;rcases Ab ih h with h|⟨ys,h1,h⟩
   ·exact .inl h
   ·exact .inr ⟨_,by simp only[frz,h1],h⟩
  | tup cs=>
   simp only[Lh] at h;rcases Ab ih h with h|⟨ys,h1,h⟩
   ·exact .inl h
   ·exact .inr ⟨_,by simp only[frz,h1],h⟩
def VI(nx:Nat)(K:AV->aP->Nat->Prop)(r:AV)(m:aP)(n:Nat):Prop:=
 B4 nx m [] fun m1 rest=>Lh 60 m1 r (fun r'=>K r' rest n) (K r m n)
theorem Di{nx:Nat}:∀{m acc:aP} {K:aP->aP->Prop},B4 nx m acc K->∃m0 rest,m=m0++rest/\K (m0.reverse++acc) rest
 | [],acc,K,h=>⟨[],[],rfl,h⟩
 | (i,b)::r,acc,K,h=>by
  simp only[B4] at h;split at h
  ·obtain⟨m0,rest,h1,h2⟩:=Di h;exact⟨(i,b)::m0,rest,by rw[h1];rfl,by simpa using h2⟩
  ·exact⟨[],(i,b)::r,rfl,h⟩
theorem MR.sub{Γ:List (Nat × AV)}{X:Nat->Prop}{ρ:Nat->dG}{D:Nat->Prop}{mem rest:aP}{w:World}(hm:MR Γ X ρ D mem w)(hs:∀p∈rest,p∈mem)(hn:(rest.map (·.1)).Nodup):MR Γ X ρ D rest w:=by
 have ho:∀b,¬OX X ρ mem b->¬OX X ρ rest b:=by
  rintro b h (h'|⟨p,hp,h1,h2⟩)
  ·exact h (.inl h')
  ·exact h (.inr ⟨p,hs p hp,h1,h2⟩)
 refine⟨fun p h=>hm.low p (hs p h),fun p h hn=>?_,fun p h=>hm.emp p (hs p h),fun p h q h'=>hm.inj p (hs p h) q (hs q h'),hn,fun b hb=>⟨(hm.bar b hb).1,fun⟨p,hp,h1,h2⟩=>(hm.bar b hb).2 ⟨p,hs p hp,h1,h2⟩⟩,fun p h=>(hm.glo p h).mono (fun _ _=>rfl) (fun _ h=>h) fun b _ h=>⟨ho b h,rfl⟩⟩;obtain⟨o,h1,h2⟩:=hm.blk p (hs p h) hn;exact⟨o,h1,h2.mono (fun _ _=>rfl) (fun _ h=>h) fun b _ h=>⟨ho b h,rfl⟩⟩
theorem NQ{P:Program}{Γ:List (Nat × AV)}(hΓ:∀p∈Γ,NN p.2){F:FuncId}{args:List AV}{mem:aP}{nx:Nat}{K:AV->aP->Nat->Prop}{Kp:Value->aP->Nat->Prop}(h:bP P Γ F args mem nx (VI nx K) Kp):bP P Γ F args mem nx K Kp:=by
 refine⟨fun X D ρ w vs hD hm hv=>(h.run X D ρ w vs hD hm hv).mono ?_⟩;rintro e w' ⟨m',n',ρ',hn,hm',hext,hend⟩;rcases hend with⟨r,v,rfl,hq,hr⟩|⟨x,rfl,hq⟩
 ·obtain⟨m0,rest,rfl,hq⟩:=Di hq;rw[Wg] at hq;rcases NY 60 r _ hq with hq|⟨r',h1,hq⟩
  ·exact⟨_,n',ρ',hn,hm',hext,.inl ⟨r,v,rfl,hq,hr⟩⟩
  ·have hnd:=hm'.nod;rw[Wv,XN] at hnd;obtain⟨d1,d2,d3⟩:=hnd;have hp:tU (m0++rest) m0.reverse rest:=⟨fun p h=>V8 _ (X8.1 h),fun p h=>WT _ h,fun p h=>by
    rcases Vs.1 h with h|h
    ·exact .inl (X8.2 h)
    ·exact .inr h,fun p h1 q h2=>d3 _ (Vq.2 ⟨p,X8.1 h1,rfl⟩) _ (Vq.2 ⟨q,h2,rfl⟩),by
    rw[List.map_reverse];exact List.pairwise_reverse.2 (d1.imp fun h=>Ne.symm h)⟩
   obtain⟨p1,pv⟩:=hm'.part hp;have hF:=mQ (m:=m0.reverse) (σ:=[]) 60 r r' h1;obtain⟨-,v1,-⟩:=uR (σ:=[]) (m':=[]) (n':=n') hΓ hD p1 (fun p hp=>by cases hp) YB (fun i j k h=>by simp[lk] at h) (fun i j h=>by simp[lk] at h);have e:jU [] ρ' ρ'=ρ':=funext fun i=>vM (by rintro⟨j,h⟩;simp[lk] at h)
   have hv':=v1 r r' hF.cv v (pv _ _ hr);rw[e] at hv';refine⟨rest,n',ρ',hn,hm'.sub (fun p h=>WT _ h) d2,⟨hext.le,hext.agree,hext.size,hext.keep,fun p h=>hext.fresh p (WT _ h),hext.env⟩,.inl ⟨r',v,rfl,hq,hv'.mono (fun _ _=>rfl) (fun _ h=>h) fun b _ ho=>⟨fun h=>ho (.inl ?_),rfl⟩⟩⟩;exact h
 ·exact⟨m',n',ρ',hn,hm',hext,.inr ⟨x,rfl,hq⟩⟩
def PE:List (Nat × List AV × AV)->Nat->List AV->(AV->Prop)->Prop->Prop
 | [],_,_,_,N=>N
 | (G,as',r)::t,F,args,K,N=>match Nat.beq G F with
  | true=>match pH args as' with
   | true=>K r
   | false=>PE t F args K N
  | false=>PE t F args K N
def DU(P:Program)(Γ:List (Nat × AV))(tb:List (Nat × List AV × AV)):Prop:=∀e∈tb,bB P Γ e.1 e.2.1 e.2.2/\jZ e.2.1/\NN e.2.2
theorem Mj{P:Program}{Γ:List (Nat × AV)}(hΓ:∀p∈Γ,NN p.2){F:Nat}{args:List AV}{mem:aP}{nx:Nat}{K:AV->aP->Nat->Prop}{N:Prop}:∀{tb:List (Nat × List AV × AV)},DU P Γ tb->PE tb F args (fun r=>K r mem nx) N->N∨aH P Γ F args mem nx K
 | [],_,h=>.inl h
 | (G,as',r)::t,ht,h=>by
  have h2:DU P Γ t:=fun e he=>ht e (Vn _ he)
  simp only[PE] at h;split at h
  ·rename_i hG;split at h
   ·rename_i he;have e1:=Nat.eq_of_beq_eq_true hG;have e2:=iO he;subst e1 e2;obtain⟨g1,g2,g3⟩:=ht _ (Vu ..);exact .inr (g1.use hΓ g2 g3 h)
   ·exact Mj hΓ h2 h
  ·exact Mj hΓ h2 h
theorem DU.nil{P:Program}{Γ:List (Nat × AV)}:DU P Γ []:=fun e h=>by cases h
theorem DU.cons{P:Program}{Γ:List (Nat × AV)}{F:Nat}{xs:List AV}{r:AV}{t:List (Nat × List AV × AV)}(h:bB P Γ F xs r)(h1:Ai (frz 30 [] []) xs=some xs)(h2:frz 30 [] [] r=some r)(ht:DU P Γ t):DU P Γ ((F,xs,r)::t):=by
 intro e he;rcases Vg.1 he with rfl|he
 ·obtain⟨g1,g2⟩:=jC (m:=[]) (σ:=[]) (mQ 30) h1;exact⟨h,wD g1 g2,(mQ (m:=[]) (σ:=[]) 30 r r h2).nn⟩
 ·exact ht e he
end Go.Ax
namespace Go.Ax
open Go
noncomputable def UX{α:Type}(l:List (Nat × α))(j:Nat)(K:α->Prop):Prop:=
 List.rec (motive:=fun _=>Prop) False (fun p _ ih=>Prod.rec (motive:=fun _=>Prop) (fun i v=>Bool.rec (motive:=fun _=>Prop) ih (K v) (Nat.beq i j)) p) l
theorem Jk{α:Type}(j:Nat)(K:α->Prop):∀l:List (Nat × α),UX l j K=opt (lk l j) K
 | []=>rfl
 | (i,v)::r=>by
  have ih:=Jk j K r
  show Bool.rec (motive:=fun _=>Prop) (UX r j K) (K v) (Nat.beq i j)=opt (lk ((i,v)::r) j) K
  rw[ih];simp only[lk];cases Nat.beq i j<;>rfl
noncomputable def UU{α:Type}(l:List (Nat × α))(j:Nat)(v:α):(List (Nat × α)->Prop)->Prop:=
 List.rec (motive:=fun _=>(List (Nat × α)->Prop)->Prop) (fun K=>K [(j,v)]) (fun p r ih=>fun K=>Prod.rec (motive:=fun _=>Prop) (fun i u=>Bool.rec (motive:=fun _=>Prop) (ih fun l=>K ((i,u)::l)) (K ((i,v)::r)) (Nat.beq i j)) p) l
theorem OI{α:Type}(j:Nat)(v:α):∀(l:List (Nat × α)) (K:List (Nat × α)->Prop),UU l j v K=IZ l j v K
 | [],K=>rfl
 | (i,u)::r,K=>by
  have ih:=OI j v r fun l=>K ((i,u)::l)
  show Bool.rec (motive:=fun _=>Prop) (UU r j v fun l=>K ((i,u)::l)) (K ((i,v)::r)) (Nat.beq i j)=IZ ((i,u)::r) j v K
  rw[ih];simp only[IZ];cases Nat.beq i j<;>rfl
def Ug(v:Value)(K:AV->Prop):Prop:=
 match v with
 | .string s=>uM s.data.toList fun l=>K (.str l)
 | v=>opt (wS v) K
noncomputable def mM(Γ:List (Nat × AV))(sl:List (Nat × AV))(x:Operand)(K:AV->Prop):Prop:=
 Operand.rec (motive:=fun _=>Prop) (fun t=>UX sl t K) (fun v=>Ug v K) (fun g=>UX Γ g fun v=>K (.ip v)) (fun f=>K (.fn (.func f) [] [])) x
theorem K0(Γ sl:List (Nat × AV))(x:Operand)(K:AV->Prop):mM Γ sl x K=lQ Γ sl x K:=by
 cases x with
 | tmp t=>exact Jk t K sl
 | const v=>cases v<;>rfl
 | global g=>exact Jk g (fun v=>K (.ip v)) Γ
 | func f=>rfl
theorem C8:mM=lQ:=by funext Γ sl x K;exact K0 Γ sl x K
def UN(Γ sl:List (Nat × AV))(K:AV->Prop)(a b:Operand)(c:AV):Prop:=match c with
 | .bool c=>MV c (lQ Γ sl a K) (lQ Γ sl b K)
 | _=>False
def Ss(P:Program)(mem:aP)(nx:Nat)(src dst:TypeId)(a:AV)(K:AV->aP->Nat->Prop):Prop:=match P.underlying dst with
  | some (.slice _)=>vU true P mem nx src dst a K
  | _=>K3 true P mem src dst a fun v=>K v mem nx
section
variable (P:Program) (Γ:List (Nat × AV)) (H:Hk) (sl:List (Nat × AV)) (mem:aP) (nx:Nat) (K:AV->aP->Nat->Prop) (Kp:Value->aP->Nat->Prop)
noncomputable def Nv(x:Operand):Prop:=mM Γ sl x fun v=>K v mem nx
noncomputable def Qi(c a b:Operand):Prop:=mM Γ sl c (UN Γ sl (fun v=>K v mem nx) a b)
noncomputable def S5(t:TypeId)(x:Operand):Prop:=mM Γ sl x fun v=>R7 P mem nx t v K
noncomputable def Ql(t:TypeId)(x:Operand):Prop:=mM Γ sl x fun p=>Hh P mem t p fun v=>K v mem nx
noncomputable def On(t:TypeId)(x y:Operand):Prop:=mM Γ sl x fun p=>mM Γ sl y fun v=>F1 P mem t p v fun m=>K (.tup []) m nx
noncomputable def T5(x:Operand):Prop:=mM Γ sl x fun p=>opt (OT p) fun v=>K v mem nx
noncomputable def Sz(op:BinOp)(t:TypeId)(x y:Operand):Prop:=mM Γ sl x fun a=>mM Γ sl y fun b=>PK true P op t x y a b fun v=>K v mem nx
noncomputable def VB(op:UnOp)(x:Operand):Prop:=mM Γ sl x fun a=>UW true op a fun v=>K v mem nx
noncomputable def Qo(src dst:TypeId)(x:Operand):Prop:=mM Γ sl x fun a=>Ss P mem nx src dst a K
noncomputable def VE(t:TypeId)(x:Operand)(f:Nat):Prop:=mM Γ sl x fun p=>rO P t f p fun v=>K v mem nx
noncomputable def U7(t:TypeId)(x:Operand)(f:Nat):Prop:=mM Γ sl x fun p=>GX P t f p fun v=>K v mem nx
noncomputable def VH(t:TypeId)(x ix:Operand):Prop:=mM Γ sl x fun p=>mM Γ sl ix fun i=>sE true P mem t p i fun v=>K v mem nx
noncomputable def VF(t:TypeId)(x ix:Operand):Prop:=mM Γ sl x fun p=>mM Γ sl ix fun i=>Fy true P t p i fun v=>K v mem nx
noncomputable def VA(x:Operand)(i:Nat):Prop:=mM Γ sl x fun p=>opt (u6 p i) fun v=>K v mem nx
noncomputable def Q7(t:TypeId)(x ix:Operand)(ok:Bool):Prop:=mM Γ sl x fun p=>mM Γ sl ix fun i=>opt (lY P mem t p i ok) fun v=>K v mem nx
noncomputable def Ub(t:TypeId)(x y z:Operand):Prop:=mM Γ sl x fun p=>mM Γ sl y fun k=>mM Γ sl z fun v=>pT P mem t p k v fun m=>K (.tup []) m nx
noncomputable def TZ(x:Operand):Prop:=mM Γ sl x fun v=>opt (quo v) fun y=>Kp y mem nx
def Rl(t:TypeId)(parts:Array (Nat × Operand)):Prop:=q9 Γ sl parts.toList fun ps=>Fk P t ps fun v=>K v mem nx
def VP(t:TypeId)(len:Nat)(parts:Array (Nat × Operand)):Prop:=q9 Γ sl parts.toList fun ps=>p8 P mem nx t len ps K
noncomputable def Pl(ce:Callee)(args:Array Operand)(ts:Array TypeId):Prop:=
 Callee.rec (motive:=fun _=>Prop) (fun f=>Kh P Γ sl f args.toList (fun v=>K v mem nx) fun F l=>H.call F l mem nx K Kp) (fun _ _=>False) (fun b=>AM true P Γ sl mem nx b args.toList ts.toList K) ce
noncomputable def Tv(c:Call):Prop:=Call.rec (motive:=fun _=>Prop) (fun ce args ts=>Pl P Γ H sl mem nx K Kp ce args ts) c
def lC(op:Op):Prop:=DX true P Γ H sl mem nx op K Kp
noncomputable def Ty(op:Op):Prop:=
 Op.rec (motive:=fun _=>Prop)
  (Nv Γ sl mem nx K) (Nv Γ sl mem nx K) (Qi Γ sl mem nx K) (fun t=>Fm P mem nx t K) (S5 P Γ sl mem nx K) (Rl P Γ sl mem nx K) (VP P Γ sl mem nx K)
  (Ub P Γ sl mem nx K) (Ql P Γ sl mem nx K) (On P Γ sl mem nx K) (fun g=>lC P Γ H sl mem nx K Kp (.ready g)) (fun g=>lC P Γ H sl mem nx K Kp (.waits g)) (T5 Γ sl mem nx K)
  (fun op t x y _=>Sz P Γ sl mem nx K op t x y) (fun op _ x=>VB Γ sl mem nx K op x) (Qo P Γ sl mem nx K) (fun t x=>lC P Γ H sl mem nx K Kp (.sliceToArrayPointer t x)) (fun t x=>lC P Γ H sl mem nx K Kp (.makeInterface t x))
  (fun a b c=>lC P Γ H sl mem nx K Kp (.makeFunc a b c)) (fun a b=>lC P Γ H sl mem nx K Kp (.makeMap a b)) (fun a b=>lC P Γ H sl mem nx K Kp (.makeChan a b)) (fun a b c=>lC P Γ H sl mem nx K Kp (.makeSlice a b c))
  (fun a b c d e=>lC P Γ H sl mem nx K Kp (.slice a b c d e)) (VE P Γ sl mem nx K) (U7 P Γ sl mem nx K) (VH P Γ sl mem nx K) (VF P Γ sl mem nx K) (Q7 P Γ sl mem nx K) (Ub P Γ sl mem nx K)
  (fun a b c=>lC P Γ H sl mem nx K Kp (.mapEntry a b c)) (fun a b c d=>lC P Γ H sl mem nx K Kp (.entryStore a b c d)) (fun a b=>lC P Γ H sl mem nx K Kp (.range a b)) (fun a b=>lC P Γ H sl mem nx K Kp (.next a b)) (fun a=>lC P Γ H sl mem nx K Kp (.entry a))
  (fun a b c d=>lC P Γ H sl mem nx K Kp (.typeAssert a b c d)) (VA Γ sl mem nx K) (Tv P Γ H sl mem nx K Kp) (fun c=>lC P Γ H sl mem nx K Kp (.go c)) (fun c=>lC P Γ H sl mem nx K Kp (.defer c)) (TZ Γ sl mem nx Kp)
  (fun a b=>lC P Γ H sl mem nx K Kp (.send a b)) (fun a b c=>lC P Γ H sl mem nx K Kp (.recv a b c)) (fun a b=>lC P Γ H sl mem nx K Kp (.select a b)) op
theorem RW(op:Op):Ty P Γ H sl mem nx K Kp op=DX true P Γ H sl mem nx op K Kp:=by
 cases op with
 | call c=>
  obtain⟨ce,args,ts⟩:=c;cases ce<;>rfl
 | pick c a b=>simp only[Ty,Qi,C8];first|done|rfl
 | convert a b c=>simp only[Ty,Qo,C8];first|done|rfl
 | _=>first|rfl|(simp only[Ty,Nv,S5,Ql,On,T5,Sz,VB,VE,U7,VH,VF,VA,Q7,Ub,TZ,C8];first|done|rfl)
end
noncomputable def RX(sl:List (Nat × AV))(nt:Nat)(d:Option Nat)(v:AV)(mem:aP)(nx:Nat)(K:St->Prop):Prop:=
 Option.rec (motive:=fun _=>Prop) (K ⟨sl,mem,nx,nt⟩) (fun d=>Bool.rec (motive:=fun _=>Prop) False (UU sl d v fun sl=>K ⟨sl,mem,nx,nt⟩) (Nat.blt d nt)) d
theorem Ox(sl:List (Nat × AV))(m0:aP)(n0 nt:Nat)(d:Option Nat)(v:AV)(mem:aP)(nx:Nat)(K:St->Prop):RX sl nt d v mem nx K=kT ⟨sl,m0,n0,nt⟩ d v mem nx K:=by
 cases d with
 | none=>rfl
 | some d=>
  show Bool.rec (motive:=fun _=>Prop) False (UU sl d v _) (Nat.blt d nt)=pM (Nat.blt d nt) (IZ sl d v _)
  rw[OI];cases Nat.blt d nt<;>rfl
noncomputable def NG(ops:List Oper)(sl:List (Nat × AV))(g:Option (Nat × Bool))(yes no:Prop):Prop:=
 Option.rec (motive:=fun _=>Prop) yes (fun p=>pK ops sl (some p) yes no) g
theorem Mq(ops:List Oper)(sl:List (Nat × AV))(g:Option (Nat × Bool))(yes no:Prop):NG ops sl g yes no=pK ops sl g yes no:=by cases g<;>rfl
section
variable (P:Program) (Γ:List (Nat × AV)) (H:Hk)
noncomputable def Q3(ops:List Oper)(Kp:Value->St->Prop)(ih:St->Prop)(sl:List (Nat × AV))(mem:aP)(nx nt:Nat)(o:Oper):Prop:=
 Oper.rec (motive:=fun _=>Prop) (fun dst op _ _ _ g=>NG ops sl g (Ty P Γ H sl mem nx (fun v mem nx=>RX sl nt dst v mem nx ih) (fun x mem nx=>Kp x ⟨sl,mem,nx,nt⟩) op) (RX sl nt dst (.tup []) mem nx ih)) o
noncomputable def Pf(ops:List Oper)(K:St->Prop)(Kp:Value->St->Prop)(l:List Oper):St->Prop:=
 List.rec (motive:=fun _=>St->Prop) K (fun o r ih=>fun s=>St.rec (motive:=fun _=>Prop) (fun sl mem nx nt=>Q3 P Γ H ops Kp ih sl mem nx nt o) s) l
theorem Kj(ops:List Oper)(K:St->Prop)(Kp:Value->St->Prop):∀(l:List Oper) (s:St),Pf P Γ H ops K Kp l s=I6 true P Γ H ops l s K Kp
 | [],s=>rfl
 | o::r,s=>by
  have ih:Pf P Γ H ops K Kp r=fun s=>I6 true P Γ H ops r s K Kp:=funext fun s=>Kj ops K Kp r s
  obtain⟨sl,mem,nx,nt⟩:=s
  show Q3 P Γ H ops Kp (Pf P Γ H ops K Kp r) sl mem nx nt o=_
  rw[ih];obtain⟨dst,op,ty,pos,aft,g⟩:=o
  show NG ops sl g _ _=pK ops sl g _ _
  rw[Mq,RW];simp only[Ox sl mem nx nt];first|done|rfl
def TG(k:St->Prop)(Q:Exit->St->Prop)(e:Exit)(s:St):Prop:=match e with
 | .normal=>k s
 | e=>Q e s
def U4(id:Nat)(Q:Exit->St->Prop)(e:Exit)(s:St):Prop:=match e with
 | .exit i=>match Nat.beq i id with
  | true=>Q .normal s
  | false=>Q (.exit i) s
 | e=>Q e s
def Uz(Q:Exit->St->Prop)(e:Exit)(s:St):Prop:=match e with
 | .goto _=>False
 | e=>Q e s
def Tm(x y:Prop)(v:AV):Prop:=match v with
 | .bool b=>MV b x y
 | _=>False
noncomputable def Ux(id:Nat)(ops:Array Oper)(draw:Bool)(s:St)(Q:Exit->St->Prop):Prop:=
 Bool.rec (motive:=fun _=>Prop) (Pf P Γ H ops.toList (Q .normal) (fun x s'=>Q (.panic [pe x]) s') ops.toList s) (AE true P Γ H (.region id ops true) s Q) draw
noncomputable def Uf(c:Operand)(x y:St->(Exit->St->Prop)->Prop)(s:St)(Q:Exit->St->Prop):Prop:=
 St.rec (motive:=fun _=>Prop) (fun sl _ _ _=>mM Γ sl c (Tm (x s Q) (y s Q))) s
noncomputable def Bg(c:Code):St->(Exit->St->Prop)->Prop:=
 Code.rec (motive:=fun _=>St->(Exit->St->Prop)->Prop)
  (fun s Q=>Q .normal s)
  (Ux P Γ H)
  (fun _ _ ihx ihy=>fun s Q=>ihx s (TG (fun s'=>ihy s' Q) Q))
  (fun c _ _ ihx ihy=>Uf Γ c ihx ihy)
  (fun id _ ih=>fun s Q=>ih s (U4 id Q))
  (fun b _=>fun s Q=>H.loop b s Q)
  (fun g ps ca cb _ _=>fun s Q=>AE true P Γ H (.rangeFunc g ps ca cb) s Q)
  (fun i=>fun s Q=>Q (.exit i) s)
  (fun _ ih=>fun s Q=>ih s (Uz Q))
  (fun _=>fun s Q=>Q .normal s)
  (fun _=>fun _ _=>False)
  (fun s Q=>Q .ret s)
  (fun _=>fun _ _=>False) c
theorem Ku:∀(c:Code) (s:St) (Q:Exit->St->Prop),Bg P Γ H c s Q=AE true P Γ H c s Q:=by
 intro c
 induction c with
 | seq x y ihx ihy=>
  intro s Q
  show Bg P Γ H x s (TG (fun s'=>Bg P Γ H y s' Q) Q)=_
  rw[ihx];have:(fun s'=>Bg P Γ H y s' Q)=fun s'=>AE true P Γ H y s' Q:=funext fun s'=>ihy s' Q
  rw[this];rfl
 | cond c x y ihx ihy=>
  intro s Q;obtain⟨sl,mem,nx,nt⟩:=s
  show mM Γ sl c (Tm (Bg P Γ H x _ Q) (Bg P Γ H y _ Q))=_
  rw[ihx,ihy,K0];rfl
 | block id c ih=>intro s Q;exact ih s _
 | scope c ih=>intro s Q;exact ih s _
 | region id ops draw=>
  intro s Q;cases draw with
  | true=>rfl
  | false=>exact Kj P Γ H _ _ _ _ s
 | _=>intro s Q;rfl
end
def T0(F:Nat):List (Nat × List AV × AV)->Bool
 | []=>false
 | (G,_,_)::r=>match Nat.beq G F with
  | true=>true
  | false=>T0 F r
def Uv(ts:List (Nat × List AV × AV))(F:Nat)(args:List AV)(mem:aP)(K:AV->Prop)(N:Prop):Prop:=match T0 F ts with
 | false=>N
 | true=>J6 (Lh 60 mem) args (fun as'=>PE ts F as' K N) N
theorem Qh{F:Nat}{args:List AV}{K:AV->Prop}{N:Prop}:∀{tb:List (Nat × List AV × AV)},PE tb F args K N->N∨∃r,(F,args,r)∈tb/\K r
 | [],h=>.inl h
 | (G,as',r)::t,h=>by
  simp only[PE] at h;have hr:PE t F args K N->N∨∃r',(F,args,r')∈(G,as',r)::t/\K r':=fun h=>(Qh h).imp id fun⟨r',h1,h2⟩=>⟨r',Vn _ h1,h2⟩
  split at h
  ·rename_i hG;split at h
   ·rename_i he;have e1:=Nat.eq_of_beq_eq_true hG;have e2:=iO he;subst e1 e2;exact .inr ⟨r,Vu ..,h⟩
   ·exact hr h
  ·exact hr h
def D6(P:Program)(Γ:List (Nat × AV))(ts:List (Nat × List AV × AV)):Prop:=∀e∈ts,bB P Γ e.1 e.2.1 e.2.2/\Sc e.2.2
theorem D6.nil{P:Program}{Γ:List (Nat × AV)}:D6 P Γ []:=fun e h=>by cases h
theorem D6.cons{P:Program}{Γ:List (Nat × AV)}{F:Nat}{xs:List AV}{r:AV}{t:List (Nat × List AV × AV)}(h:bB P Γ F xs r)(h1:Sc r)(ht:D6 P Γ t):D6 P Γ ((F,xs,r)::t):=by
 intro e he;rcases Vg.1 he with rfl|he
 ·exact⟨h,h1⟩
 ·exact ht e he
theorem TN{P:Program}{Γ:List (Nat × AV)}(hΓ:∀p∈Γ,NN p.2){F:Nat}{args:List AV}{mem:aP}{nx:Nat}{K:AV->aP->Nat->Prop}{N:Prop}{ts:List (Nat × List AV × AV)}(ht:D6 P Γ ts)(h:Uv ts F args mem (fun r=>K r mem nx) N):N∨aH P Γ F args mem nx K:=by
 unfold Uv at h;split at h
 ·exact .inl h
 ·rcases Ab (fun v K h=>NY 60 v K h) h with h|⟨as',h1,h⟩
  ·exact .inl h
  ·rcases Qh h with h|⟨r,h2,h⟩
   ·exact .inl h
   ·obtain⟨g1,g2⟩:=ht _ h2;exact .inr (g1.lend hΓ (Pa 60 h1) g2 h)
def Py:List (AV × AV)->List (AV × AV)->Bool
 | [],[]=>true
 | (a,b)::r,(c,d)::t=>lP a c && (lP b d && Py r t)
 | _,_=>false
theorem KK:∀{l m:List (AV × AV)},Py l m=true->l=m
 | [],[],_=>rfl
 | (a,b)::r,(c,d)::t,h=>by
  simp only[Py,VZ] at h;rw[rX h.1,rX h.2.1,KK h.2.2]
 | [],_::_,h=>by cases h
 | _::_,[],h=>by cases h
def Kz:aP->aP->Bool
 | [],[]=>true
 | (i,a)::r,(j,b)::t=>Nat.beq i j && ((match a,b with
  | .row t1 s1 xs,.row t2 s2 ys=>Nat.beq t1 t2 && (Nat.beq s1 s2 && pH xs ys)
  | .mapb es,.mapb es'=>Py es es'
  | _,_=>false) && Kz r t)
 | _,_=>false
theorem IU:∀{l m:aP},Kz l m=true->l=m
 | [],[],_=>rfl
 | (i,a)::r,(j,b)::t,h=>by
  simp only[Kz,VZ] at h;obtain⟨h1,h2,h3⟩:=h;rw[Nat.eq_of_beq_eq_true h1,IU h3];split at h2
  ·simp only[VZ] at h2;rw[Nat.eq_of_beq_eq_true h2.1,Nat.eq_of_beq_eq_true h2.2.1,iO h2.2.2]
  ·rw[KK h2]
  ·cases h2
 | [],_::_,h=>by cases h
 | _::_,[],h=>by cases h
structure Xf where
 F:Nat
 args:List AV
 mem:aP
 nx:Nat
 r:AV
 m:aP
 n:Nat
def Xf.ok(P:Program)(Γ:List (Nat × AV))(x:Xf):Prop:=aH P Γ x.F x.args x.mem x.nx fun r m n=>r=x.r/\m=x.m/\n=x.n
def UC:List Xf->Nat->List AV->aP->Nat->(AV->aP->Nat->Prop)->Prop->Prop
 | [],_,_,_,_,_,N=>N
 | x::t,F,args,mem,nx,K,N=>match Nat.beq x.F F with
  | true=>match Nat.beq x.nx nx && (pH args x.args && Kz mem x.mem) with
   | true=>K x.r x.m x.n
   | false=>UC t F args mem nx K N
  | false=>UC t F args mem nx K N
theorem OF{P:Program}{Γ:List (Nat × AV)}{F:Nat}{args:List AV}{mem:aP}{nx:Nat}{K:AV->aP->Nat->Prop}{N:Prop}:∀{t:List Xf},(∀x∈t,x.ok P Γ)->UC t F args mem nx K N->N∨aH P Γ F args mem nx K
 | [],_,h=>.inl h
 | x::t,ht,h=>by
  have h2:∀x∈t,x.ok P Γ:=fun e he=>ht e (Vn _ he)
  simp only[UC] at h;split at h
  ·rename_i hF;split at h
   ·rename_i he;simp only[VZ] at he;have e1:=Nat.eq_of_beq_eq_true hF;have e2:=Nat.eq_of_beq_eq_true he.1;have e3:=iO he.2.1;have e4:=IU he.2.2;subst e1 e2 e3 e4;exact .inr ((ht x (Vu ..)).mono fun r m n ⟨h1,h2,h3⟩=>by rw[h1,h2,h3];exact h)
   ·exact OF h2 h
  ·exact OF h2 h
def JG(f:AV->List Nat->List Nat):List AV->List Nat->List Nat
 | [],acc=>acc
 | a::r,acc=>JG f r (f a acc)
def Bd:Nat->AV->List Nat->List Nat
 | 0,_,acc=>acc
 | n+1,v,acc=>match v with
  | .ptr id _ _=>id::acc
  | .sl id _ _=>id::acc
  | .mp id=>id::acc
  | .yld id=>id::acc
  | .ip v=>Bd n v acc
  | .il _ xs=>JG (Bd n) xs acc
  | .fn _ a b=>JG (Bd n) b (JG (Bd n) a acc)
  | .ifc _ v=>Bd n v acc
  | .agg xs=>JG (Bd n) xs acc
  | .tup xs=>JG (Bd n) xs acc
  | _=>acc
def Sn:List (AV × AV)->List Nat->List Nat
 | [],acc=>acc
 | (a,b)::r,acc=>Sn r (Bd 60 b (Bd 60 a acc))
def Tg:List (Nat × AV)->List Nat->List Nat
 | [],acc=>acc
 | (_,a)::r,acc=>Tg r (Bd 60 a acc)
def Tn(b:AB)(acc:List Nat):List Nat:=match b with
 | .row _ _ xs=>JG (Bd 60) xs acc
 | .mapb es=>Sn es acc
 | .loop sl _ _ _ _ _ _=>Tg sl acc
def Sw:aP->List Nat->List Nat
 | [],acc=>acc
 | (_,b)::r,acc=>Sw r (Tn b acc)
def Mm(nx:Nat)(m:aP):Nat->List Nat->List Nat->List Nat
 | 0,todo,fH=>todo++fH
 | _+1,[],fH=>fH
 | f+1,i::t,fH=>match Nat.ble nx i with
  | false=>Mm nx m f t fH
  | true=>match MM i fH with
   | true=>Mm nx m f t fH
   | false=>match lk m i with
    | none=>Mm nx m f t fH
    | some b=>Mm nx m f (Tn b t) (i::fH)
def IC(fH:List Nat):aP->(aP->Prop)->Prop
 | [],K=>K []
 | (i,b)::r,K=>match MM i fH with
  | true=>IC fH r fun m=>K ((i,b)::m)
  | false=>IC fH r K
def U8(nx:Nat)(K:AV->aP->Nat->Prop)(r:AV)(m:aP)(n:Nat):Prop:=
 B4 nx m [] fun m1 rest=>uM (Mm nx m 100000 (Bd 60 r (Sw rest [])) []) fun fH=>IC fH m1.reverse fun m2=>AO m2 rest fun m=>K r m n
theorem Gb{fH:List Nat}:∀{m:aP} {K:aP->Prop},IC fH m K->∃m',List.Sublist m' m/\K m'
 | [],K,h=>⟨[],.slnil,h⟩
 | (i,b)::r,K,h=>by
  simp only[IC] at h;split at h
  ·obtain⟨m',h1,h2⟩:=Gb h;exact⟨_,h1.cons_cons _,h2⟩
  ·obtain⟨m',h1,h2⟩:=Gb h;exact⟨_,h1.cons _,h2⟩
theorem MK{P:Program}{Γ:List (Nat × AV)}{F:FuncId}{args:List AV}{mem:aP}{nx:Nat}{K:AV->aP->Nat->Prop}{Kp:Value->aP->Nat->Prop}(h:bP P Γ F args mem nx (U8 nx K) Kp):bP P Γ F args mem nx K Kp:=by
 refine⟨fun X D ρ w vs hD hm hv=>(h.run X D ρ w vs hD hm hv).mono ?_⟩;rintro e w' ⟨m',n',ρ',hn,hm',hext,hend⟩;rcases hend with⟨r,v,rfl,hq,hr⟩|⟨x,rfl,hq⟩
 ·obtain⟨m0,rest,rfl,hq⟩:=Di hq;rw[Wg,List.reverse_reverse] at hq;obtain⟨m2,hs,hq⟩:=Gb (lK.1 hq);have hq:=fN.1 hq;have hsub:List.Sublist (m2++rest) (m0++rest):=hs.append (List.Sublist.refl rest);have hin:∀p∈m2++rest,p∈m0++rest:=fun p hp=>hsub.subset hp
  have hnd:((m2++rest).map (·.1)).Nodup:=hm'.nod.sublist (hsub.map _);have ho:∀b,¬OX X ρ' (m0++rest) b->¬OX X ρ' (m2++rest) b:=by
   rintro b h (h'|⟨p,hp,h1,h2⟩)
   ·exact h (.inl h')
   ·exact h (.inr ⟨p,hin p hp,h1,h2⟩)
  exact⟨m2++rest,n',ρ',hn,hm'.sub hin hnd,⟨hext.le,hext.agree,hext.size,hext.keep,fun p h=>hext.fresh p (hin p h),hext.env⟩,.inl ⟨r,v,rfl,hq,hr.mono (fun _ _=>rfl) (fun _ h=>h) fun b _ h=>⟨ho b h,rfl⟩⟩⟩
 ·exact⟨m',n',ρ',hn,hm',hext,.inr ⟨x,rfl,hq⟩⟩
theorem OA(P:Program)(Γ:List (Nat × AV))(H:Hk):Bg P Γ H=AE true P Γ H:=funext fun c=>funext fun s=>funext fun Q=>Ku P Γ H c s Q
noncomputable def M3(P:Program)(Γ:List (Nat × AV))(H:Hk)(tx:List Xf)(ts tb:List (Nat × List AV × AV))(dl pl gl:List Nat)(F:Nat)(args:List AV)(mem:aP)(nx:Nat)(K:AV->aP->Nat->Prop)(Kp:Value->aP->Nat->Prop):Prop:=
 UC tx F args mem nx K (PE tb F args (fun r=>K r mem nx) (Uv ts F args mem (fun r=>K r mem nx) (match Nat.beq F YF with
    | false=>match P.funcs[F]? with
     | some fn=>match fn.body with
      | some c=>match MM F dl with
       | false=>match MM F pl with
        | false=>match MM F gl with
         | false=>sJ fn.ntmps args mem nx fun s=>Bg P Γ H c s (Et P fn.results.toList K Kp)
         | true=>sJ fn.ntmps args mem nx fun s=>Bg P Γ H c s (Et P fn.results.toList (U8 nx K) Kp)
        | true=>sJ fn.ntmps args mem nx fun s=>Bg P Γ H c s (Et P fn.results.toList (VI nx K) Kp)
       | true=>sJ fn.ntmps args mem nx fun s=>Jb true P Γ H c s (CD P Γ H fn.results.toList K Kp)
      | none=>False
     | none=>False
    | true=>Js P Γ H args mem nx K)))
def Sy(H:Hk)(c:Code)(Q:Exit->St->Prop)(e:Exit)(s':St):Prop:=match e with
 | .normal=>H.loop c s' Q
 | e=>Q e s'
noncomputable def Ay(P:Program)(Γ:List (Nat × AV))(tx:List Xf)(ts tb:List (Nat × List AV × AV))(dl pl gl:List Nat)(n:Nat):Hk:=
 Nat.rec (motive:=fun _=>Hk) ⟨fun _ _ _ _ _ _=>False,fun _ _ _=>False⟩ (fun _ H=>⟨M3 P Γ H tx ts tb dl pl gl,fun c s Q=>Bg P Γ H c s (Sy H c Q)⟩) n
theorem Hs(P:Program)(Γ:List (Nat × AV))(hΓ:∀p∈Γ,NN p.2){tx:List Xf}{ts tb:List (Nat × List AV × AV)}(hx':∀x∈tx,x.ok P Γ)(hs':D6 P Γ ts)(ht:DU P Γ tb)(dl pl gl:List Nat):∀n B,AG P Γ B (Ay P Γ tx ts tb dl pl gl n) /\
  ∀c s Q,(Ay P Γ tx ts tb dl pl gl n).loop c s Q->∀rd X ds D ρ a w,(∀i,D i->i<B)->SR Γ X ds ρ (dn D B s.nx) s a w->B<=s.nx->BN rd ds c ->
   Code.roundsIn (FW rd) 0 P c (fun e a' w'=>∃(s':St) (ρ':Nat->dG),Q e s'/\B<=s'.nx/\SR Γ X ds ρ' (dn D B s'.nx) s' a' w'/\Ext D ρ s.mem w ρ' (dn D B s'.nx) s'.mem w') n a w:=by
 intro n
 induction n with
 | zero=>exact fun B=>⟨⟨fun _ _ _ _ _ _ h=>h.elim,fun _ _ _ h=>h.elim⟩,fun _ _ _ h=>h.elim⟩
 | succ n ih=>
  intro B;have hr:∀c s Q,(Ay P Γ tx ts tb dl pl gl (n+1)).loop c s Q->∀rd X ds D ρ a w,(∀i,D i->i<B)->SR Γ X ds ρ (dn D B s.nx) s a w->B<=s.nx->BN rd ds c ->
    Code.roundsIn (FW rd) 0 P c (fun e a' w'=>∃(s':St) (ρ':Nat->dG),Q e s'/\B<=s'.nx/\SR Γ X ds ρ' (dn D B s'.nx) s' a' w'/\Ext D ρ s.mem w ρ' (dn D B s'.nx) s'.mem w') (n+1) a w:=by
   intro c s Q h rd X ds D ρ a w hD hs hB hno;have h:Bg P Γ (Ay P Γ tx ts tb dl pl gl n) c s (Sy (Ay P Γ tx ts tb dl pl gl n) c Q):=h;rw[Ku] at h;have h':=(eH (ih B).1 c s _ h).run rd X ds D ρ a w hD hs hB hno;rw[roundsIn_succ];refine wpIn_mono h' ?_;rintro e a1 w1 ⟨s1,ρ1,hq,hB1,hs1,hext⟩;cases e with
   | normal=>
    have key:=(ih B).2 c s1 Q hq rd X ds D ρ1 a1 w1 hD hs1 hB1 hno;refine BH n a1 w1 _ _ ?_ key;rintro e a2 w2 ⟨s2,ρ2,h1,h2,h3,h4⟩;exact⟨s2,ρ2,h1,h2,h3,hext.trans h4⟩
   | exit id=>exact⟨s1,ρ1,hq,hB1,hs1,hext⟩
   | goto l=>exact⟨s1,ρ1,hq,hB1,hs1,hext⟩
   | ret=>exact⟨s1,ρ1,hq,hB1,hs1,hext⟩
   | panic ch=>exact⟨s1,ρ1,hq,hB1,hs1,hext⟩
   | outgrown=>exact⟨s1,ρ1,hq,hB1,hs1,hext⟩
  refine⟨⟨fun F args mem nx K Kp h=>?_,fun c s Q h=>⟨fun rd X ds D ρ a w hD hs hB hno=>wpIn_loop_rounds (n+1) (hr c s Q h rd X ds D ρ a w hD hs hB hno.loop)⟩⟩,hr⟩
  replace h:M3 P Γ (Ay P Γ tx ts tb dl pl gl n) tx ts tb dl pl gl F args mem nx K Kp:=h
  simp only[M3,OA] at h;rcases OF (K:=K) hx' h with h0|h'
  rotate_left
  ·exact h'.toP
  clear h;rcases Mj (K:=K) hΓ ht h0 with h'|h'
  rotate_left
  ·exact h'.toP
  clear h0;rcases TN (K:=K) hΓ hs' h' with h|h'
  rotate_left
  ·exact h'.toP
  split at h
  ·rename_i hF;split at h
   ·rename_i fn hf;split at h
    ·rename_i c hc;split at h
     ·split at h
      ·split at h
       ·exact mA hf hc ((eH (ih nx).1 _ _ _ (jM h)).mono fun _ _ h=>Bp h) hF
       ·exact MK (mA hf hc ((eH (ih nx).1 _ _ _ (jM h)).mono fun _ _ h=>Bp h) hF)
      ·exact NQ hΓ (mA hf hc ((eH (ih nx).1 _ _ _ (jM h)).mono fun _ _ h=>Bp h) hF)
     ·exact s7 hf hc (Je (fun B=>(ih B).1) nx _ _ _ (jM h)) hF
    ·exact h.elim
   ·exact h.elim
  ·rename_i hF;have e:=Nat.eq_of_beq_eq_true hF;subst e;exact Gm (fun B=>(ih B).1) h
theorem Do{P:Program}{Γ:List (Nat × AV)}(hΓ:∀p∈Γ,NN p.2){tx:List Xf}{ts tb:List (Nat × List AV × AV)}(hx':∀x∈tx,x.ok P Γ)(hs':D6 P Γ ts)(ht:DU P Γ tb){F:FuncId}{args:List AV}{mem:aP}{nx:Nat}{Q:AV->aP->Nat->Prop}(dl pl gl:List Nat)(n:Nat)(h:(Ay P Γ tx ts tb dl pl gl n).call F args mem nx Q fun _ _ _=>False):aH P Γ F args mem nx Q:=
 ((Hs P Γ hΓ hx' hs' ht dl pl gl n nx).1.call F args mem nx Q _ h).toC fun _ _ _ h=>h
theorem Pw{P:Program}{Γ:List (Nat × AV)}{F:FuncId}{args:List AV}{mem:aP}{nx:Nat}{want:AV}(hΓ:∀p∈Γ,NN p.2){tx:List Xf}{ts tb:List (Nat × List AV × AV)}(hx':∀x∈tx,x.ok P Γ)(hs':D6 P Γ ts)(ht:DU P Γ tb)(dl pl gl:List Nat)(n:Nat)
  (hc:(kD (Qw mem) && (jX mem && (yO nx nx (Qw mem) && Nat.ble nx nx)))=true)
  (h:((Ay P Γ tx ts tb dl pl gl n).call F args mem nx (fun r m _=>VJ mem want r m) fun _ _ _=>False)=True):aH P Γ F args mem nx fun r m k=>r=want/\m=mem/\k=nx:=by
 refine aH.turn hΓ ((Do hΓ hx' hs' ht dl pl gl n (by rw[h];trivial)).mono fun r m k hk=>?_);unfold VJ at hk;split at hk
 ·rename_i hb;unfold VC at hb;split at hb
  ·rename_i v hv;split at hb
   ·rename_i he;have e:=rX he;subst e;have hn:(mem.map (·.1)).Nodup:=by
     simp only[VZ] at hc;exact d7 hc.2.1
    exact bJ (Qw mem) hc (A8 _ hb (QL hn)) (mQ 30 r v hv).cv ⟨rfl,rfl,rfl⟩
   ·cases hb
  ·cases hb
 ·exact hk.elim
theorem Uu{P:Program}{Γ:List (Nat × AV)}:∀x∈([]:List Xf),x.ok P Γ:=fun x h=>by cases h
end Go.Ax
