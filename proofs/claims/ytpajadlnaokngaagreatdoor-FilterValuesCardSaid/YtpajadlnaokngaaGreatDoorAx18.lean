/- A part of the proof. -/
import Derived.Test.YtpajadlnaokngaaGreatDoorAx17
set_option linter.unusedVariables false
set_option linter.unusedSimpArgs false
set_option linter.unusedSectionVars false
namespace Go.Proofs.YtpajadlnaokngaaGreatDoor
open Go Go.Ax Go.Proofs Tryz
set_option maxRecDepth 100000
set_option maxHeartbeats 16000000
theorem Mb{α:Type}(l:List α)(xs:List AV)(h:xs.length=l.length):(((xs.length:Nat):Int) == 0)=decide (l.length=0):=by rw[h,RT];simp
theorem Ph{a b c:Bool}{n bytes:Nat}(ha:a=true)(hb:b=true)(hc:c=true)(h:n<=4294967296)(hby:Nat.ble bytes 4096=true) :
  (a && (b && (c && (decide (0<=(n:Int)) && (decide ((n:Int)<=n) && (decide ((bytes:Int)*n<=281474976710656) && decide ((n:Int)<=9223372036854775807)))))))=true:=by
 have hby:=Qu hby;have h3:bytes*n<=4096*4294967296:=SL hby h;have h4:((bytes:Nat):Int)*(n:Int)=((bytes*n:Nat):Int):=by simp
 rw[ha,hb,hc,h4,RE om,RE om,RE om,RE om];rfl
def p5(zs:List AV)(l:List AV)(k:Nat):List AV:=l.take k++zs.drop k
theorem JK{zs l:List AV}(h:zs.length=l.length):p5 zs l l.length=l:=by simp[p5];omega
theorem JS{zs l:List AV}(h:zs.length=l.length){k:Nat}(hk:k<l.length):(p5 zs l k)[k]? = zs[k]? := by
 unfold p5;rw[RR (by rw[Rx];omega)];rw[Rx,R8 (Nat.le_of_lt hk),Nat.sub_self,RU,SV]
theorem Ir{zs l:List AV}(h:zs.length=l.length){k:Nat}(hk:k<l.length){v:AV}(hv:l[k]? = some v):(p5 zs l k).set k v=p5 zs l (k+1):=by
 unfold p5;rw[List.set_append_right _ _ (by rw[Rx];omega)];rw[Rx,R8 (Nat.le_of_lt hk),Nat.sub_self,List.drop_eq_getElem_cons (by omega:k<zs.length),List.set_cons_zero,List.take_add_one,hv];simp
theorem MF{mem:aN}{σ:List (Nat × Nat)}{x y:AV}(h:E6 mem σ x y)(n:Nat):r9 mem σ (List.replicate n x) (List.replicate n y):=by
 refine⟨by simp,fun i a b ha hb=>?_⟩;rw[SS] at ha hb;split at ha
 ·rename_i e;rw[Q3 e] at hb;cases ha;cases hb;exact h
 ·cases ha
theorem OP{x:AV}(h:NN x)(n:Nat):iV (List.replicate n x):=fun a ha=>by
 rw[List.eq_of_mem_replicate ha];exact h
theorem Jo{zs l:List AV}(h1:iV zs)(h2:iV l)(k:Nat):iV (p5 zs l k):=fun a ha=>by
 rcases Q9.1 ha with ha|ha
 ·exact h2 a (Rk ha)
 ·exact h1 a (Rz ha)
theorem Ng(l:List aU)(hl:l.length<=4294967296)(h:∀v∈l,a7 prog [] 66 [bV v] (bV v)):a7 prog [] 65 [.il 4 (aL l),.fn (.func 66) [] []] (.il 4 (aL l)):=by
 refine aO bD func65 rfl ?_;refine Rr ?_;rw[Mb l _ (aA l)];by_cases h0:l.length=0
 ·rw[RE h0];obtain rfl:l=[]:=Q7 h0;refine Rr ?_;exact dK (r':=.il 4 (aL [])) (.nil 4) ⟨rfl,rfl,rfl⟩
 ·rw[Rd h0];refine Rr ?_;rw[aA];refine aK (Ph rfl rfl rfl hl rfl) ?_;refine Rr ?_;obtain⟨zs,hzs⟩:∃zs,zs=List.replicate l.length (bV (.mk 0 0 [] [])):=⟨_,rfl⟩
  have hzn:iV zs:=by rw[hzs];exact OP nn _
  have hzl:zs.length=(aL l).length:=by rw[hzs,aA];simp
  refine aZ.at bD (fun k:Nat=>k<=l.length) (fun k=>⟨[(0,.il 4 (aL l)),(1,.fn (.func 66) [] []),(5,.sl 0 0 l.length),(14,.int .i64 l.length),(15,.int .i64 k)],[(0,.row 57 4 (p5 zs (aL l) k))],1,29⟩) (fun k=>l.length-k) 0 [(0,0)] (by simp)
   (aI _ rfl ⟨⟨0,_,rfl,rfl,by rw[hzs];exact MF (Bx 0 0 []) _⟩,trivial⟩ ⟨a5 (.il' (aR _)),aG,⟨_,rfl,.slE rfl (by simp)⟩,⟨_,rfl,.int (by rw[aA])⟩,aG,trivial⟩) ?_
  have hz0:∀k<l.length,zs[k]? = some (bV (.mk 0 0 [] [])):=fun k hk=>by rw[hzs,SS,Q3 hk]
  clear hzs;intro k hk;refine Rr ?_;refine aE (fun hb=>?_) (fun hb=>?_)
  ·have hlt:k<l.length:=by simpa using hb
   obtain⟨v1,v2,v3,v4,vm,vg,-,ev⟩:=bB (l:=l) (k:=k) hlt;have hv:=h _ vm;have bx:Nat.blt ((k:Nat):Int).toNat l.length=true:=Qy (by simp;omega);have bz:(p5 zs (aL l) k)[0+((k:Nat):Int).toNat]? = some (bV (.mk 0 0 [] [])):=by
    rw[←hz0 k hlt,show 0+((k:Nat):Int).toNat=k by simp];exact JS hzl (by rw[aA];exact hlt)
   have hs:=Ir hzl (k:=k) (by rw[aA];exact hlt) (v:=bV (.mk v1 v2 v3 v4)) (by rw[kI,vg];rfl);refine Rr ?_;repeat((first|refine aD ev ?_|refine bN ?_);refine Rr ?_)
   refine hv.go ?_;refine Rt ?_;repeat((first|refine aK bx ?_|refine aD bz ?_);refine Rt ?_)
   exact .mk (k+1) [(0,0)] om
    (aI _ rfl ⟨⟨0,_,rfl,rfl,.eq (Jo hzn (aR _) _) (by rw[←hs];simp;rfl)⟩,trivial⟩ ⟨a5 (.il' (aR _)),aG,⟨_,rfl,.slE rfl rfl⟩,aG,⟨_,rfl,.w64 om ⟨om,om⟩⟩,trivial⟩) om
  ·have hkl:k=l.length:=by simp at hb;omega
   subst hkl;refine Rr ?_;rw[show p5 zs (aL l) l.length=aL l by rw[←aA l];exact JK hzl];exact dK (r':=.il 4 (aL l)) (.fz' (id:=0) rfl rfl (by rw[aA];omega) (by rw[Re];exact RJ (by rw[aA];omega)) (aR _)) ⟨rfl,rfl,rfl⟩
theorem Lf:∀(f:Nat) (v:aU),aV v<=f->fY v->a7 prog [] 66 [bV v] (bV v)
 | 0,.mk k n s l,h,_=>by simp[aV] at h
 | f+1,.mk k n s l,h,hv=>by
  simp only[fY] at hv;have hk:∀v∈l,a7 prog [] 66 [bV v] (bV v):=fun v hm=>Lf f v (by have:=CI hm;simp[aV] at h;omega) (lH hv.2.2.2.2 v hm)
  have hc:=Ng l hv.2.2.2.1 hk;refine aO bD func66 rfl ?_;refine Rr ?_;refine hc.go ?_ (.cons (.il' (aR _)) (.cons nn .nil)) (.il' (aR _));refine Rt ?_;exact aB (dS (.mk k n s l)) ⟨rfl,rfl,rfl⟩
theorem Me(l:List aU)(hl:l.length<=4294967296)(h:∀v∈l,fY v):a7 prog [] 29 [.il 4 (aL l)] (.il 4 (aL l)):=by
 have hc:=Ng l hl fun v hm=>Lf _ v (Q5 _) (h v hm)
 refine aO bD func29 rfl ?_;refine Rr ?_;refine hc.go ?_ (.cons (.il' (aR _)) (.cons nn .nil)) (.il' (aR _));refine Rr ?_;exact aB (.il' (aR _)) ⟨rfl,rfl,rfl⟩
set_option maxHeartbeats 16000000
theorem FE{A:List Nd}(h:i9 A):Nl A:=⟨h.ok,h.val,h.vals,fun x hx=>by have:=h.vlen x hx;omega,fun x hx=>by have:=h.klen x hx;omega⟩
def vL(A:List Nd):fK:=cD (aH A) ((A.length-1:Nat):Int)
def mG(A:List Nd)(most:Int):List aU × Int:=
 if cL A≠0 then([],cL A) else if most<0∨1024<most then([],1) else if A.length=0 then([],0)
 else if (vL A).many=true∨most<(vL A).vals.length then([],4) else((vL A).vals,0)
theorem KP{A:List Nd}(h:i9 A)(hv:cL A=0)(hp:A.length≠0):VT A:=⟨h,hv,om⟩
theorem C0{A:List Nd}(h:VT A):(vL A).vals.length<=1024/\∀v∈(vL A).vals,fY v:=h.set.vals om (by have:=h.pos;omega)
theorem Kq{A:List Nd}(h:i9 A)(m:Int):(mG A m).1.length<=1024/\∀v∈(mG A m).1,fY v:=by
 unfold mG;split
 ·simp
 split
 ·simp
 split
 ·simp
 split
 ·simp
 ·rename_i h1 h2 h3 h4;exact C0 (KP h (Decidable.not_not.1 h1) h3)
theorem LG{A:List Nd}(h:i9 A)(m:Int):a7 prog [] 8 [.agg [.il 12 (aY A)],.int .i64 m] (.tup [.il 4 (aL (mG A m).1),.int .i64 (mG A m).2]):=by
 have nA:NN (.agg [.il 12 (aY A)]):=.agg' (.cons (.il' (aS A)) .nil);have hl:=h.len;have lA:=bF A;have hV:=OD A om fun x hx=>⟨h.ok x hx,by have:=h.vlen x hx;omega⟩
 obtain⟨R,hR⟩:∃R,R=mG A m:=⟨_,rfl⟩
 rw[←hR];unfold mG at hR;refine aO bD func8 rfl ?_;refine Rr ?_;refine hV.go ?_ (.cons nA .nil) nn;refine Rr ?_;by_cases h0:cL A=0
 ·rw[Qz om] at hR;rw[h0];refine Rr ?_;by_cases h1:m<0
  ·rw[Q3 (.inl h1)] at hR;rw[hR,RE h1];refine Rr ?_;exact dK (r':=.tup [.il 4 (aL []),.int .i64 1]) (.tup' (.cons (.nil 4) (.s .nil))) ⟨rfl,rfl,rfl⟩
  rw[Rd h1];refine Rr ?_;by_cases h2:m>1024
  ·rw[Q3 (.inr h2)] at hR;rw[hR,RE h2];refine Rr ?_;exact dK (r':=.tup [.il 4 (aL []),.int .i64 1]) (.tup' (.cons (.nil 4) (.s .nil))) ⟨rfl,rfl,rfl⟩
  rw[Qz om] at hR;rw[Rd h2];refine Rr ?_;by_cases h3:A.length=0
  ·rw[Q3 h3] at hR;rw[hR];rw[show (((aY A).length:Nat):Int)=0 by omega];refine Rr ?_;exact dK (r':=.tup [.il 4 (aL []),.int .i64 0]) (.tup' (.cons (.nil 4) (.s .nil))) ⟨rfl,rfl,rfl⟩
  rw[Qz h3] at hR;have hvt:=KP h h0 h3;have hF:=HR A (A.length-1) om om fun j x hj hx=>hvt.set.node om hx
  rw[show A.length-1+1=A.length by omega,RG] at hF;rw[show cD (aH A) ((A.length-1:Nat):Int)=vL A from rfl] at hF;have hok:=C0 hvt;generalize vL A=L at *;obtain⟨vs,mn⟩:=L;simp only at hR hF hok;have lv:=aA vs;rw[show ((((aY A).length:Nat):Int) == 0)=false by rw[lA];simpa using h3];refine Rr ?_;rw[show IntKind.i64.wrap ((((aY A).length:Nat):Int)-1)=((A.length-1:Nat):Int) from w64 (by rw[lA];omega) ⟨om,om⟩];refine aF.goG0 hF ?_ (.cons nA (.cons nn .nil));rintro r mm k ⟨rfl,rfl,rfl⟩;refine⟨_,.same _ (.tup' (.cons (.il' (aR vs)) (.cons nn .nil))), ?_⟩;cases mn with
  | true=>
   rw[Q3 (.inl rfl)] at hR;rw[hR];refine Rr ?_;exact dK (r':=.tup [.il 4 (aL []),.int .i64 4]) (.tup' (.cons (.nil 4) (.s .nil))) ⟨rfl,rfl,rfl⟩
  | false=>
   refine Rr ?_;rw[lv];by_cases h4:(vs.length:Int)>m
   ·rw[Q3 (.inr h4)] at hR;rw[hR,RE h4];refine Rr ?_;exact dK (r':=.tup [.il 4 (aL []),.int .i64 4]) (.tup' (.cons (.nil 4) (.s .nil))) ⟨rfl,rfl,rfl⟩
   ·rw[Qz (by simp;omega)] at hR;rw[hR,Rd h4];refine Rr ?_;exact aB (.tup' (.cons (.il' (aR vs)) (.cons nn .nil))) ⟨rfl,rfl,rfl⟩
 ·rw[Q3 h0] at hR;rw[hR];generalize cL A=e at *;rw[show (e != 0)=true by simpa using h0];refine Rr ?_;exact dK (r':=.tup [.il 4 (aL []),.int .i64 e]) (.tup' (.cons (.nil 4) (.s .nil))) ⟨rfl,rfl,rfl⟩
theorem LH{A:List Nd}(h:i9 A)(m:Int):a7 prog [] 7 [.agg [.il 12 (aY A)],.int .i64 m] (.tup [.il 4 (aL (mG A m).1),.int .i64 (mG A m).2]):=by
 have nA:NN (.agg [.il 12 (aY A)]):=.agg' (.cons (.il' (aS A)) .nil);have hl:=h.len;have lA:=bF A;have hV:=OJ A (FE h);obtain⟨R,hR⟩:∃R,R=mG A m:=⟨_,rfl⟩
 rw[←hR];unfold mG at hR;refine aO bD func7 rfl ?_;refine Rr ?_;refine hV.go ?_ (.cons nA .nil) nn;refine Rr ?_;by_cases h0:cL A=0
 ·rw[Qz om] at hR;rw[h0];refine Rr ?_;by_cases h1:m<0
  ·rw[Q3 (.inl h1)] at hR;rw[hR,RE h1];refine Rr ?_;exact dK (r':=.tup [.il 4 (aL []),.int .i64 1]) (.tup' (.cons (.nil 4) (.s .nil))) ⟨rfl,rfl,rfl⟩
  rw[Rd h1];refine Rr ?_;by_cases h2:m>1024
  ·rw[Q3 (.inr h2)] at hR;rw[hR,RE h2];refine Rr ?_;exact dK (r':=.tup [.il 4 (aL []),.int .i64 1]) (.tup' (.cons (.nil 4) (.s .nil))) ⟨rfl,rfl,rfl⟩
  rw[Qz om] at hR;rw[Rd h2];refine Rr ?_;by_cases h3:A.length=0
  ·rw[Q3 h3] at hR;rw[hR];rw[show (((aY A).length:Nat):Int)=0 by omega];refine Rr ?_;exact dK (r':=.tup [.il 4 (aL []),.int .i64 0]) (.tup' (.cons (.nil 4) (.s .nil))) ⟨rfl,rfl,rfl⟩
  rw[Qz h3] at hR;have hvt:=KP h h0 h3;have hN:=Ez A om;have hF:=Qb hvt.set (A.length-1) om (List.replicate A.length false) (by simp);unfold sQ uQ at hF;rw[show cD (aH A) ((A.length-1:Nat):Int)=vL A from rfl] at hF;have hok:=C0 hvt;generalize vL A=L at *;obtain⟨vs,mn⟩:=L;simp only at hR hF hok;have lv:=aA vs;have hC:=Me vs om hok.2;rw[show ((((aY A).length:Nat):Int) == 0)=false by rw[lA];simpa using h3];refine Rr ?_;refine aF.useN bD [] hN rfl (.same (.cons nA .nil)) trivial rfl ?_;rintro r mm k ⟨rfl,rfl,rfl⟩;refine⟨[(0,13),(1,14),(2,15),(3,16)],.ptr 13 0 0,[(13,.row 119 4 [.agg [.il 12 (aY A),.sl 14 0 A.length,.sl 15 0 A.length,.sl 16 0 A.length]]),(14,.row 4 1 (kB (List.replicate A.length false))),(15,.row 29 1 (lB (aH A) (List.replicate A.length false))),(16,.row 4 1 (mB (aH A) (List.replicate A.length false)))],17,.ptr 0 13 0 0 rfl,⟨⟨0,_,rfl,rfl,x6 rfl rfl rfl⟩,aJ 1 (pE _),aJ 2 (qZ _ _),aJ 3 (pI _ _),trivial⟩,rfl, ?_⟩;refine Rt ?_;rw[show IntKind.i64.wrap ((((aY A).length:Nat):Int)-1)=((A.length-1:Nat):Int) from w64 (by rw[lA];omega) ⟨om,om⟩];refine aF.useN bD [(13,0),(14,1),(15,2),(16,3)] hF rfl (.cons (.ptr 13 0 0 0 rfl) (.s .nil)) ⟨⟨13,_,rfl,rfl,x6 rfl rfl rfl⟩,aJ 14 (pE _),aJ 15 (qZ _ _),aJ 16 (pI _ _),trivial⟩ rfl ?_;rintro r mm k ⟨kn,hkn,rfl,rfl,rfl⟩;refine⟨[(0,13),(1,14),(2,15),(3,16)],_,[(13,.row 119 4 [.agg [.il 12 (aY A),.sl 14 0 A.length,.sl 15 0 A.length,.sl 16 0 A.length]]),(14,.row 4 1 (kB kn)),(15,.row 29 1 (lB (aH A) kn)),(16,.row 4 1 (mB (aH A) kn))],17,.same _ (.tup' (.cons (.il' (aR vs)) (.cons nn .nil))),⟨⟨0,_,rfl,rfl,x6 rfl rfl rfl⟩,aJ 1 (pE _),aJ 2 (qZ _ _),aJ 3 (pI _ _),trivial⟩,rfl, ?_⟩;refine Rt ?_;cases mn with
  | true=>
   rw[Q3 (.inl rfl)] at hR;rw[hR];refine Rr ?_;exact dK (r':=.tup [.il 4 (aL []),.int .i64 4]) (.tup' (.cons (.nil 4) (.s .nil))) ⟨rfl,rfl,rfl⟩
  | false=>
   refine Rr ?_;rw[lv];by_cases h4:(vs.length:Int)>m
   ·rw[Q3 (.inr h4)] at hR;rw[hR,RE h4];refine Rr ?_;exact dK (r':=.tup [.il 4 (aL []),.int .i64 4]) (.tup' (.cons (.nil 4) (.s .nil))) ⟨rfl,rfl,rfl⟩
   ·rw[Qz (by simp;omega)] at hR;rw[hR,Rd h4];refine Rr ?_;refine hC.go ?_ (.cons (.il' (aR vs)) .nil) (.il' (aR vs));refine Rr ?_;exact aB (.tup' (.cons (.il' (aR vs)) (.cons nn .nil))) ⟨rfl,rfl,rfl⟩
 ·rw[Q3 h0] at hR;rw[hR];generalize cL A=e at *;rw[show (e != 0)=true by simpa using h0];refine Rr ?_;exact dK (r':=.tup [.il 4 (aL []),.int .i64 e]) (.tup' (.cons (.nil 4) (.s .nil))) ⟨rfl,rfl,rfl⟩
end Go.Proofs.YtpajadlnaokngaaGreatDoor
namespace Go.Ax
open Go
structure Oe(x:Nd):Prop where
 ok:pL x
 val:aV x.value<=1024
 vals:∀v∈x.values,aV v<=1024
 vlen:x.values.length<=1024
 klen:x.kids.length<=1025
 llen:x.labels.length<=256
 wlen:x.weights.length<=256
 lab:∀s∈x.labels,s∈uP
theorem w8:∀{l:List aU},cY l=0->∀v∈l,dW v=0
 | [],_,v,hv=>by simp at hv
 | a::r,h,v,hv=>by
  simp only[cY] at h;split at h
  ·rename_i h1;exact absurd h h1
  ·rename_i h1;rcases Qw.1 hv with rfl|hv
   ·exact Decidable.not_not.1 h1
   ·exact w8 h v hv
theorem xY{v:aU}(h:dW v=0):aV v<=1024:=by
 unfold dW at h;split at h
 ·omega
 ·split at h
  ·omega
  ·rename_i h1;rw[not_or] at h1;omega
theorem F1{v:aU}(h:A2 v=true):aV v<=1024:=by
 obtain⟨k,n,s,ks⟩:=v;simp only[A2,Qt,RL] at h;have:ks=[]:=Ru.1 h.2;subst this;simp[aV,bT]
theorem Bw{ns:List Nd}(h:g9 ns):∀x∈ns,Oe x:=by
 intro x hx;obtain⟨j,hj⟩:=RQ hx;have hn:=uB ns h.valid j x hj;have hN:=iL hn;have hg:=h.gen x hx;have hf:=iM hn;have hfe:cY (lJ x)=0:=by
  unfold dF at hn;rw[Qz (by rw[hf];simp)] at hn;split at hn
  ·rename_i h1;exact absurd hn h1
  ·rename_i h1;exact Decidable.not_not.1 h1
 have hv:=w8 hfe;unfold cG at hf;simp only[Qt] at hf;obtain⟨⟨⟨⟨⟨⟨hu,hkd⟩,hki⟩,h2⟩,h3⟩,h4⟩,h5⟩:=hf;unfold gQ at hu;simp only[Qt,Rq,RL] at hu h2 h4;have hul:=hu.1.1.2;have hz:=hu.1.1.1.1.1;have hvl:=hg.vals;refine⟨hg.ok, ?_,fun v hm=>xY (hv v (by unfold lJ;exact Rp _ hm)),hvl, ?_, ?_, ?_,hg.labels⟩
 ·rcases hz with e|e
  ·exact xY (hv x.value (by unfold lJ;rw[Q3 e];simp))
  ·exact F1 e
 ·by_cases e:x.kind=4
  ·have:=hN.bind e;omega
  ·have:=hN.klen e;omega
 ·rcases hul with e|e
  ·rcases h2 with h2|h2
   ·exact absurd e h2
   ·omega
  ·omega
 ·rcases hul with e|e
  ·rcases h2 with h2|h2
   ·exact absurd e h2
   ·omega
  ·omega
structure w6(LB:List (List UInt8))(x:Nd):Prop where
 ok:pL x
 val:aV x.value<=1048576
 vals:∀v∈x.values,aV v<=1048576
 vlen:x.values.length<=2000
 klen:x.kids.length<=2000
 llen:x.labels.length<=1000
 lab:∀s∈x.labels,s∈LB
variable {LB:List (List UInt8)}
theorem ID(hLB:∀s∈uP,s∈LB){x:Nd}(h:Oe x):w6 LB x:=
 ⟨h.ok,by have:=h.val;omega,fun v hv=>by have:=h.vals v hv;omega,by have:=h.vlen;omega,by have:=h.klen;omega,by have:=h.llen;omega,fun s hs=>hLB s (h.lab s hs)⟩
theorem B0{ns:List Nd}(hLB:∀s∈LB,s.length<=19)(h:∀x∈ns,w6 LB x)(hl:ns.length<=1000):i9 ns:=
 ⟨fun x hx=>(h x hx).ok,fun x hx=>(h x hx).val,fun x hx=>(h x hx).vals,fun x hx=>(h x hx).vlen,fun x hx=>(h x hx).klen,fun x hx=>(h x hx).llen,fun x hx s hs=>by have:=hLB s ((h x hx).lab s hs);omega,hl⟩
theorem Hv{l:List Int}{n:Int}(h:∀w∈l,i64 w)(hn:i64 n):∀w∈l++[n],i64 w:=fun w hw=>by
 rcases Q9.1 hw with hw|hw
 ·exact h w hw
 ·simp at hw;rw[hw];exact hn
theorem L9{x:Nd}{n:Int}(h:w6 LB x)(hn:i64 n):w6 LB { x with kind:=n }:=⟨⟨hn,h.ok.name,h.ok.lo,h.ok.hi,h.ok.weights,h.ok.weightsI,h.ok.labels,h.ok.labelsI,h.ok.values,h.ok.valuesI,h.ok.kids,h.ok.kidsI,h.ok.value,h.ok.valueS⟩,h.val,h.vals,h.vlen,h.klen,h.llen,h.lab⟩
theorem Po{x:Nd}{n:Int}(h:w6 LB x)(hn:i64 n):w6 LB { x with lo:=n }:=⟨⟨h.ok.kind,h.ok.name,hn,h.ok.hi,h.ok.weights,h.ok.weightsI,h.ok.labels,h.ok.labelsI,h.ok.values,h.ok.valuesI,h.ok.kids,h.ok.kidsI,h.ok.value,h.ok.valueS⟩,h.val,h.vals,h.vlen,h.klen,h.llen,h.lab⟩
theorem PG{x:Nd}{n:Int}(h:w6 LB x)(hn:i64 n):w6 LB { x with hi:=n }:=⟨⟨h.ok.kind,h.ok.name,h.ok.lo,hn,h.ok.weights,h.ok.weightsI,h.ok.labels,h.ok.labelsI,h.ok.values,h.ok.valuesI,h.ok.kids,h.ok.kidsI,h.ok.value,h.ok.valueS⟩,h.val,h.vals,h.vlen,h.klen,h.llen,h.lab⟩
theorem BQ{x:Nd}{ws:List Int}(h:w6 LB x)(hl:ws.length<=100000)(hi:∀w∈ws,i64 w):w6 LB { x with weights:=ws }:=⟨⟨h.ok.kind,h.ok.name,h.ok.lo,h.ok.hi,by simp only;omega,hi,h.ok.labels,h.ok.labelsI,h.ok.values,h.ok.valuesI,h.ok.kids,h.ok.kidsI,h.ok.value,h.ok.valueS⟩,h.val,h.vals,h.vlen,h.klen,h.llen,h.lab⟩
theorem H3{x:Nd}{ks:List Int}(h:w6 LB x)(hl:ks.length<=2000)(hi:∀w∈ks,i64 w):w6 LB { x with kids:=ks }:=⟨⟨h.ok.kind,h.ok.name,h.ok.lo,h.ok.hi,h.ok.weights,h.ok.weightsI,h.ok.labels,h.ok.labelsI,h.ok.values,h.ok.valuesI,by simp only;omega,hi,h.ok.value,h.ok.valueS⟩,h.val,h.vals,h.vlen,hl,h.llen,h.lab⟩
theorem sU{x:Nd}{s:List UInt8}(h:w6 LB x)(hs:s.length<=1000):w6 LB { x with name:=s }:=⟨⟨h.ok.kind,by simp only;omega,h.ok.lo,h.ok.hi,h.ok.weights,h.ok.weightsI,h.ok.labels,h.ok.labelsI,h.ok.values,h.ok.valuesI,h.ok.kids,h.ok.kidsI,h.ok.value,h.ok.valueS⟩,h.val,h.vals,h.vlen,h.klen,h.llen,h.lab⟩
theorem Id{x:Nd}{ls:List (List UInt8)}(h:w6 LB x)(hl:ls.length<=1000)(hs:∀s∈ls,s∈LB)(hLB:∀s∈LB,s.length<=19):w6 LB { x with labels:=ls }:=⟨⟨h.ok.kind,h.ok.name,h.ok.lo,h.ok.hi,h.ok.weights,h.ok.weightsI,by simp only;omega,fun s hm=>by have:=hLB s (hs s hm);omega,h.ok.values,h.ok.valuesI,h.ok.kids,h.ok.kidsI,h.ok.value,h.ok.valueS⟩,h.val,h.vals,h.vlen,h.klen,hl,hs⟩
theorem Iy{x:Nd}{vs:List aU}(h:w6 LB x)(hl:vs.length<=2000)(hv:∀v∈vs,fY v/\aV v<=1048576):w6 LB { x with values:=vs }:=⟨⟨h.ok.kind,h.ok.name,h.ok.lo,h.ok.hi,h.ok.weights,h.ok.weightsI,h.ok.labels,h.ok.labelsI,by simp only;omega,fun v hm=>⟨(hv v hm).1,by have:=(hv v hm).2;omega⟩,h.ok.kids,h.ok.kidsI,h.ok.value,h.ok.valueS⟩,h.val,fun v hm=>(hv v hm).2,hl,h.klen,h.llen,h.lab⟩
theorem Ld{x:Nd}{v:aU}(h:w6 LB x)(hv:fY v)(hs:aV v<=1048576):w6 LB { x with value:=v }:=⟨⟨h.ok.kind,h.ok.name,h.ok.lo,h.ok.hi,h.ok.weights,h.ok.weightsI,h.ok.labels,h.ok.labelsI,h.ok.values,h.ok.valuesI,h.ok.kids,h.ok.kidsI,hv,by simp only;omega⟩,hs,h.vals,h.vlen,h.klen,h.llen,h.lab⟩
theorem N4{ns:List Nd}{i:Nat}{x:Nd}(h:∀y∈ns,w6 LB y)(hx:w6 LB x):∀y∈ns.set i x,w6 LB y:=fun y hy=>by
 rcases Se hy with hy|rfl
 ·exact h y hy
 ·exact hx
end Go.Ax
namespace Go.Ax
open Go
theorem KF{A:List Nd}(h:VT A){i:Nat}{x:Nd}(hx:A[i]? = some x){k:Int}(hk:k∈x.kids):0<=k/\k.toNat<i:=by
 obtain⟨j,hj⟩:=RQ hk;have:=(h.node hx).node.kids j k hj;omega
def QL(a b:Nat)(l:List Sp):Prop:=∀s∈l,a<=s.1/\s.1<=s.2.1/\s.2.1<=s.2.2/\s.2.2<=b
theorem QL.mono{a b a' b':Nat}{l:List Sp}(h:QL a b l)(h1:a'<=a)(h2:b<=b'):QL a' b' l:=fun s hs=>by
 have:=h s hs;omega
end Go.Ax
namespace Go.Ax
open Go
theorem Ib(r:List Nd):∀l:List Nd,∃m,bR (l++r)=bR l++m:=by
 refine eR (P:=fun r=>∀l:List Nd,∃m,bR (l++r)=bR l++m) (fun l=>⟨[],by simp⟩) (fun r x ih l=>?_) r;obtain⟨m,hm⟩:=ih l;refine⟨m++[fX (bR (l++r)) x], ?_⟩;rw[←List.append_assoc,g6,hm,List.append_assoc]
theorem CR{A:List Nd}{n:Nat}{k:Int}(h0:0<=k)(h:k<n)(hn:n<=A.length):dY (bR (A.take n)) k=dY (bR A) k:=by
 obtain⟨m,hm⟩:=Ib (A.drop n) (A.take n);rw[List.take_append_drop] at hm;rw[hm,Hl h0 (by rw[gJ,Rx];omega)]
section
variable {A:List Nd}
theorem VT.lenC(h:VT A){i:Nat}{x:Nd}(hx:A[i]? = some x){n:Nat}(hi:i<=n)(hn:n<=A.length):fX (bR (A.take n)) x=fX (bR A) x:=by
 refine z5 (fun k hk=>?_) (fun h4=>by have:=(h.bind hx h4).1;omega) (h.node hx).node.kind;have:=KF h hx hk;exact CR this.1 om hn
theorem VT.len(h:VT A){i:Nat}{x:Nd}(hx:A[i]? = some x):dY (bR A) i=fX (bR A) x:=by
 obtain⟨hi,he⟩:=Qv.1 hx;rw[←CR (n:=i+1) om om om,Q0 hi,g6,he,h.lenC hx (Q5 _) om];unfold dY;rw[Q4,Qx,RR (by rw[gJ];simp;omega),gJ];simp[show min i A.length=i by omega]
end
end Go.Ax
namespace Go.Ax
open Go
section
variable {A:List Nd}
end
end Go.Ax
namespace Go.Ax
open Go
structure Ft where
 cs:List Int
 val:aU
structure As(r:Ql)(f:Ft):Prop where
 val:r.val=f.val
 used:r.used=f.cs.length
 stop:r.stop = -1
section
variable {A:List Nd}
end
end Go.Ax
namespace Go.Ax
open Go
def QS(x y:Nd):Prop:=(y.kind=x.kind/\y.kids.length<=x.kids.length+1)∨(y.kids=x.kids/\y.values=x.values/\y.weights=x.weights)
end Go.Ax
