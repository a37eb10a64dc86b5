/- A part of the proof. -/
import Derived.Test.YthggfhnnkclooaaGreatDoorAx17
import Derived.Test.YthggfhnnkclooaaGreatDoorProg
set_option linter.unusedSectionVars false
set_option linter.unusedVariables false
set_option linter.unusedSimpArgs false
set_option maxRecDepth 1000000
set_option maxHeartbeats 16000000
namespace Go.Proofs.YthggfhnnkclooaaGreatDoor
open Go Go.Ax Go.Proofs Tryz
theorem UZ(n:Nat):kB (List.replicate n false)=List.replicate n (.bool false):=by simp[kB]
theorem U0(L:List iF):lB L (List.replicate L.length false)=cC (List.replicate L.length []):=by
 unfold lB cC
 induction L with
 | nil=>rfl
 | cons a L ih=>simpa[Zq] using ih
theorem T6(L:List iF):mB L (List.replicate L.length false)=List.replicate L.length (.bool false):=by
 unfold mB
 induction L with
 | nil=>rfl
 | cons a L ih=>simpa[Zq] using ih
theorem JF(ns:List Nd)(hl:ns.length<=4096):aJ prog [] 60 [.agg [.il 12 (bC ns)]] [] 0 λr m k=>r = .ptr 0 0 0/\m=sM ns (List.replicate ns.length false)/\k=4:=by
 have hlen:(bC ns).length=ns.length:=bW ns;refine aG bJ func60 rfl ?_;refine Z ?_;rw[hlen];refine Z ?_;refine aO (bQ rfl (bQ rfl (bQ rfl (bQ (Y7 om) (bQ (Y7 om) (bQ (pQ rfl om om) (Y7 om))))))) ?_;refine Z ?_;repeat((first|refine aO (bQ rfl (bQ rfl (bQ rfl (bQ (Y7 om) (bQ (Y7 om) (bQ (pQ rfl om om) (Y7 om))))))) ?_|refine aY ?_);refine Z ?_)
 have e:((ns.length:Nat):Int).toNat=ns.length:=sq
 rw[e];have hL:(aS ns).length=ns.length:=Go.Ax.f8 ns;have e2:=U0 (aS ns);have e3:=T6 (aS ns);rw[hL] at e2 e3;refine bM (n':=4) (m':=sM ns (List.replicate ns.length false)) [(10,0),(4,1),(6,2),(8,3)] rfl ⟨⟨10,_,rfl,rfl,Ec rfl rfl rfl⟩,⟨4,_,rfl,rfl,.eq (iY _) (UZ _).symm⟩,⟨6,_,rfl,rfl,by rw[e2];exact Dt _⟩,⟨8,_,rfl,rfl,.eq (xH _ _) e3.symm⟩,trivial⟩ (.ptr 10 0 0 0 rfl) ⟨rfl,rfl,rfl⟩
structure Te(ns:List Nd):Prop where
 ok:∀x∈ns,sU x
 val:∀x∈ns,bN x.value<=1048576
 vals:∀x∈ns,∀v∈x.values,bN v<=1048576
 vlen:∀x∈ns,x.values.length<=1000000
 klen:∀x∈ns,x.kids.length<=65536
def xU(l:List Int)(n:Nat):List Int:=l++List.replicate (n-l.length) 0
theorem pO{l:List Int}{n:Nat}(h:l.length<=n):(xU l n).length=n:=by simp[xU];omega
theorem HB{l:List Int}{n:Nat}(y:Int)(h:l.length<n):(xU l n).set l.length y=xU (l++[y]) n:=by
 unfold xU;rw[Zw _ _ (Y8 _),aAe];obtain⟨m,hm⟩:∃m,n-l.length=m+1:=⟨n-l.length-1,om⟩
 rw[hm,Zq,aAy,ZA,ZZ,show n-(l.length+1)=m by omega];simp
theorem G7{l:List Int}{n:Nat}{k:Int}(h0:0<=k)(h1:k<l.length):eJ (xU l n) k=eJ l k:=Ln h0 h1
theorem HQ{l:List Int}{n:Nat}(h:∀y∈l,0<=y/\y<=1024):∀y∈xU l n,0<=y/\y<=1024:=by
 intro y hy;rcases ZI.1 hy with hy|hy
 .exact h y hy
 .have:=aAK hy;omega
theorem Gr{i:Int}{x:Nd}(h:sY x=false):dL i x=false:=by
 cases e:dL i x with
 | false=>rfl
 | true=>
  unfold dL at e;simp only[Y1] at e;have:sY x=true:=by
   unfold sY;rw[e.1.1.1.1.1.1];simpa using e.1.1.1.1.1.2
  rw[this] at h;cases h
theorem FB{i:Int}{x:Nd}(h:dL i x=false):gG i x=1:=by unfold gG;rw[Y4 h]
theorem P9{i:Int}{x:Nd}(h:dL i x=true)(h2:fD (p6 x)≠0):gG i x=fD (p6 x):=by unfold gG;rw[Yz (by rw[h];simp),Y4 h2]
theorem Qd{i:Int}{x:Nd}(h:dL i x=true)(h2:fD (p6 x)=0)(h3:eD x=false):gG i x=5:=by unfold gG;rw[Yz (by rw[h];simp),Yz om,Y4 h3]
theorem NA{i:Int}{x:Nd}(h:dL i x=true)(h2:fD (p6 x)=0)(h3:eD x=true):gG i x=0:=by unfold gG;rw[Yz (by rw[h];simp),Yz om,Yz (by rw[h3];simp)]
theorem wD{b:List Nd}{ls ss:List Int}{x:Nd}{e:Int}(h:gG b.length x=e)(he:e≠0):iJ b ls ss x=e:=by unfold iJ;rw[Y4 (by rw[h];exact he),h]
theorem Pz{b:List Nd}{ls ss:List Int}{x:Nd}(h:gG b.length x=0)(h2:256<fN ls x\/1024<mJ ss x):iJ b ls ss x=4:=by unfold iJ;rw[Yz om,Y4 h2]
theorem Oz{b:List Nd}{ls ss:List Int}{x:Nd}(h:gG b.length x=0)(h2:¬(256<fN ls x\/1024<mJ ss x)):iJ b ls ss x=if x.kind=4 then jC b x else 0:=by unfold iJ;rw[Yz om,Yz h2]
theorem GU(ns:List Nd)(h:Te ns):aX prog [] 23 [.agg [.il 12 (bC ns)]] (.int .i64 (cR ns)):=by
 have hlen:(bC ns).length=ns.length:=bW ns;refine aG bJ func23 rfl ?_;refine Z ?_;rw[hlen];refine aL (λhb=>?_) (λhb=>?_)
 .have h1:4096<ns.length:=by simp at hb;omega
  have:cR ns=4:=by unfold cR;rw[Y4 h1]
  rw[this];refine Z ?_;exact aA nn ⟨rfl,rfl,rfl⟩
 .have h1:ns.length<=4096:=by simp at hb;omega
  have:cR ns=cH [] ns:=by unfold cR;rw[Yz om]
  rw[this];generalize hres:cH [] ns=res;have hN:=JF ns h1;refine Z ?_;rw[hlen];refine Z ?_;repeat((first|refine aO (bQ rfl (bQ rfl (bQ rfl (bQ (Y7 om) (bQ (Y7 om) (bQ (pQ rfl om om) (Y7 om))))))) ?_|refine aY ?_);refine Z ?_)
  refine aJ.useN bJ [] hN rfl (.same (.cons (.agg' (.cons (.il' (bA _)) .nil)) .nil)) trivial rfl ?_;rintro r m k ⟨rfl,rfl,rfl⟩;refine⟨[(0,16),(1,17),(2,18),(3,19)],.ptr 16 0 0,[(16,.row 144 4 [.agg [.il 12 (bC ns),.sl 17 0 ns.length,.sl 18 0 ns.length,.sl 19 0 ns.length]]),(17,.row 4 1 (kB (List.replicate ns.length false))),(18,.row 48 1 (lB (aS ns) (List.replicate ns.length false))),(19,.row 4 1 (mB (aS ns) (List.replicate ns.length false)))],20,
   .ptr 0 16 0 0 rfl,⟨⟨0,_,rfl,rfl,Ec rfl rfl rfl⟩,aI 1 (iY _),aI 2 (AI _ _),aI 3 (xH _ _),trivial⟩,rfl, ?_⟩
  refine Rt ?_;have e:((ns.length:Nat):Int).toNat=ns.length:=sq
  rw[hlen,e];refine bI.at bJ (λp:Nat × List Bool=>p.1<=ns.length/\p.2.length=ns.length/\cH [] (ns.take p.1)=0)
   (λp=>⟨[(1,.ptr 7 0 0),(3,.ptr 0 0 0),(28,.int .i64 ns.length),(29,.int .i64 p.1)],HS ns (xU (a8 (ns.take p.1)) ns.length) (xU (c7 (ns.take p.1)) ns.length) p.2 [(7,.row 25 1 [.agg [.il 12 (bC ns)]])],8,64⟩)
   (λp=>ns.length-p.1) (0,List.replicate ns.length false) [(14,0),(6,1),(10,2),(16,3),(17,4),(18,5),(19,6),(0,7)] ⟨sq,sq,rfl⟩
   (aK _ rfl ⟨⟨14,_,rfl,rfl,WF rfl rfl rfl⟩,⟨6,_,rfl,rfl,.eq (aT _) (by simp[xU,a8,aV])⟩,⟨10,_,rfl,rfl,.eq (aT _) (by simp[xU,c7,aV])⟩,⟨16,_,rfl,rfl,Ec rfl rfl rfl⟩,aI 17 (iY _),aI 18 (AI _ _),aI 19 (xH _ _),aI 0 (.cons (.agg' (.cons (.il' (bA _)) .nil)) .nil),trivial⟩
    ⟨aN,aN,aF,aF,trivial⟩) ?_
  rintro⟨i,kn⟩ ⟨hi,hk,hv⟩;simp only at hi hk hv |-;refine Z ?_;refine aL (λhb2=>?_) (λhb2=>?_)
  .have hil:i<ns.length:=su hb2
   obtain⟨x,hx⟩:∃x,ns[i]? = some x:=⟨ns[i],Yw hil⟩
   have hxe:=(Y0.1 hx).2;have hxm:=Y2 hx;have ex:(bC ns)[((i:Nat):Int).toNat]? = some (cK x):=by simp[i7,hx]
   have hxn:=bH x;have hti:(ns.take i).length=i:=by rw[ZO];omega
   have hll:(a8 (ns.take i)).length=i:=by rw[fV,hti]
   have hsl:(c7 (ns.take i)).length=i:=by rw[lX,hti]
   have hsplit:ns=ns.take i++x::ns.drop (i+1):=by rw[<-hxe];simp
   have hstop:∀e:Int,iJ (ns.take i) (a8 (ns.take i)) (c7 (ns.take i)) x=e->e≠0->e=res:=λe h1 h2=>by
    rw[<-hres,hsplit,Be hv (by rw[h1];exact h2),h1]
   have hnext:ns.take (i+1)=ns.take i++[x]:=by rw[List.take_succ_eq_append_getElem hil,hxe]
   have hgo:iJ (ns.take i) (a8 (ns.take i)) (c7 (ns.take i)) x=0->cH [] (ns.take (i+1))=0:=λh1=>by
    rw[hnext,gQ [] _ _ hv];exact h1
   have hC:=Tv x (h.ok x hxm);have hSh:=SC ns i x om hx (h.ok x hxm) (h.vlen x hxm);have hPa:=Ty x (h.ok x hxm) (h.val x hxm) (h.vals x hxm);have hRa:=Uo x (h.ok x hxm);refine Z ?_;repeat(refine aC ex ?_;refine Z ?_)
   refine hC.go ?_ (.cons (.ip' hxn) .nil);cases hc:sY x with
   | false=>
    refine Z ?_;refine aA nn ⟨?_,rfl,rfl⟩;rw[hstop 1 (wD (FB (Gr hc)) om) om]
   | true=>
    have hSh:=hSh hc;have hcc:g6 [] [] [.il 12 (bC ns),.sl 1 0 ns.length,.sl 2 0 ns.length,.ptr 3 0 0] [.il 12 (bC ns),.junk,.junk,.junk]:=.cons (.same _ (.il' (bA _))) (.cons (.junk _) (.cons (.junk _) (.cons (.junk _) .nil)));refine Z ?_;refine hSh.lend bJ (.cons (.fzp 0 0 0 132 4 _ _ _ rfl rfl rfl (Y8 _) λk c c' h1 h2=>by
     rw[ZP] at h1;exact(g6.cons (.same _ (.il' (bA _))) (.cons (.junk _) (.cons (.junk _) (.cons (.junk _) .nil)))).2 k c c' h1 h2) (.s .nil)) (.bool _) ?_
    clear hcc;cases hf:dL i x with
    | false=>
     refine Z ?_;refine aA nn ⟨?_,rfl,rfl⟩;rw[hstop 1 (wD (by rw[hti];exact FB hf) om) om]
    | true=>
     have hk0:x.kind=0->x.values=[]:=λe0=>by
      unfold dL jF at hf;simp only[Y1,Z0,ZR] at hf;rcases hf.1.1.1.1.1.1.1.2 with h'|h'
      .omega
      .exact Zu.1 h'
     have hPa:=hPa hk0;refine Z ?_;refine hPa.go ?_ (.cons (.ip' hxn) .nil);generalize hfe:fD (p6 x)=fe;refine Z ?_;refine aL (λhb3=>?_) (λhb3=>?_)
     .have h0:fe≠0:=su hb3
      refine Z ?_;refine aA nn ⟨?_,rfl,rfl⟩;rw[hstop fe (wD (by rw[hti,P9 hf (by rw[hfe];exact h0),hfe]) h0) h0]
     .have h0:fe=0:=su hb3
      rw[h0] at hfe;refine Z ?_;refine hRa.go ?_ (.cons (.ip' hxn) .nil);cases hn:eD x with
      | false=>
       refine Z ?_;refine aA nn ⟨?_,rfl,rfl⟩;rw[hstop 5 (wD (by rw[hti];exact Qd hf hfe hn) om) om]
      | true=>
       have hz:gG (ns.take i).length x=0:=by rw[hti];exact NA hf hfe hn
       have hnode:=nL (i:=i) (x:=x) (by rw[<-hti];exact hz);have hlens:=jH _ hv;have hS:=VA i x hx (h.ok x hxm) (h.val x hxm) (h.klen x hxm) hnode.kids hnode.kind (λe4=>by have:=hnode.bind (by have:=hnode.kind;omega);omega) (xU (a8 (ns.take i)) ns.length) (xU (c7 (ns.take i)) ns.length) kn (pO om) (pO om) (HQ hlens.1) (HQ hlens.2);have hkm:∀k∈x.kids,0<=k/\k<i:=λk hk=>by
        obtain⟨j,hj⟩:=ZV hk;exact hnode.kids j k hj
       rw[yJ (b:=a8 (ns.take i)) (λk hk=>G7 (hkm k hk).1 (by rw[hll];exact(hkm k hk).2)) (λe4=>by have:=hnode.bind e4;omega) hnode.kind,
        J5 (b:=c7 (ns.take i)) (λk hk=>G7 (hkm k hk).1 (by rw[hsl];exact(hkm k hk).2))] at hS
       refine Z ?_;refine aJ.useI bJ [0,1,2,3,4,5,6] hS (by rfl) (.cons (.ptr 0 0 0 0 rfl) (.s .nil)) (nQ _ _ _ _) (by rfl) ?_;rintro r m k' ⟨rfl,rfl,rfl⟩;refine⟨nn,nQ _ _ _ _,by rfl, ?_⟩;cases hfit:(decide (fN (a8 (ns.take i)) x<=256) && decide (AA (c7 (ns.take i)) x<=1024)) with
       | false=>
        have hbig:256<fN (a8 (ns.take i)) x\/1024<mJ (c7 (ns.take i)) x:=by
         simp only[aAD,aAn] at hfit;rw[LW] at hfit;omega
        refine Z ?_;refine aA nn ⟨?_,rfl,rfl⟩;rw[hstop 4 (Pz hz hbig) om]
       | true=>
        have hfit':¬(256<fN (a8 (ns.take i)) x\/1024<mJ (c7 (ns.take i)) x):=by
         simp only[Y1,ZR] at hfit;rw[LW] at hfit;omega
        have hstep:=Oz hz hfit';have hso:iL ns i:=⟨hi,h1,h.ok,hv⟩
        have hkid:x.kind=4->∃k:Nat,x.kids[0]? = some (k:Int)/\k<i:=λe4=>by
         have hl:=hnode.bind e4;obtain⟨k0,k1⟩:=hnode.kids 0 x.kids[0] (Yw om);obtain⟨k,hk⟩:=ZD k0;exact⟨k,by rw[Yw om,hk],om⟩
        have hb:x.kind=4->jC (ns.take i) x=(if (dV (aS ns) (x.kids.getD 0 0)).many=true then 4 else if dC (dV (aS ns) (x.kids.getD 0 0)).vals x.values=true then 0 else 1):=λe4=>by
         obtain⟨k,hk,hki⟩:=hkid e4;have eg:x.kids.getD 0 0=(k:Int):=by rw[Yx,hk];rfl
         unfold jC;rw[eg,aBe,Z1 (by simp;omega),kT om (by simp;omega) (by simp;omega)]
        have hT:=VI hso x (h.vlen x hxm) hkid ((xU (a8 (ns.take i)) ns.length).set i (fN (a8 (ns.take i)) x)) ((xU (c7 (ns.take i)) ns.length).set i (AA (c7 (ns.take i)) x)) kn hk;have hstep:iJ (ns.take i) (a8 (ns.take i)) (c7 (ns.take i)) x=(if x.kind=4 then(if (dV (aS ns) (x.kids.getD 0 0)).many=true then 4 else if dC (dV (aS ns) (x.kids.getD 0 0)).vals x.values=true then 0 else 1) else 0):=by
         rw[hstep];by_cases e4:x.kind=4
         .rw[Y4 e4,Y4 e4,hb e4]
         .rw[Yz e4,Yz e4]
        rw[<-hstep] at hT;refine Z ?_;refine aJ.useI bJ [0,1,2,3,4,5,6] hT (by rfl) (.cons (.ptr 0 0 0 0 rfl) (.cons (.same _ (.ip' hxn)) .nil)) (nQ _ _ _ _) (by rfl) ?_;rintro r m k' ⟨kn',hk',rfl,rfl,rfl⟩;refine⟨nn,nQ _ _ _ _,by rfl, ?_⟩;generalize hse:iJ (ns.take i) (a8 (ns.take i)) (c7 (ns.take i)) x=se;refine Z ?_;refine aL (λhb4=>?_) (λhb4=>?_)
        .have h0:se≠0:=su hb4
         refine Z ?_;refine aA nn ⟨?_,rfl,rfl⟩;rw[hstop se hse h0]
        .have h0:se=0:=su hb4
         rw[h0] at hse;have hP:=Ss (λy hy=>h.ok y (Zg hy)) hv hse;have e1:(xU (a8 (ns.take i)) ns.length).set i (fN (a8 (ns.take i)) x)=xU (a8 (ns.take (i+1))) ns.length:=by
          rw[hnext,iT]
          conv=>lhs;rw[<-hll]
          rw[hll];have:=HB (l:=a8 (ns.take i)) (n:=ns.length) (fN (a8 (ns.take i)) x) om;rw[hll] at this;exact this
         have e2:(xU (c7 (ns.take i)) ns.length).set i (AA (c7 (ns.take i)) x)=xU (c7 (ns.take (i+1))) ns.length:=by
          rw[hP,hnext,nC];have:=HB (l:=c7 (ns.take i)) (n:=ns.length) (mJ (c7 (ns.take i)) x) om;rw[hsl] at this;exact this
         rw[e1,e2];refine Z ?_;exact .mk (i+1,kn') (rJ [0,1,2,3,4,5,6,7]) ⟨by simp only;omega,hk',hgo hse⟩
          (aK _ rfl (kF rfl rfl rfl rfl rfl rfl rfl rfl rfl rfl rfl rfl rfl rfl rfl rfl ⟨aI 7 (.cons (.agg' (.cons (.il' (bA _)) .nil)) .nil),trivial⟩) ⟨aN,aN,aF,⟨_,rfl,.wp⟩,trivial⟩) (by simp only;omega)
  .have hil:i=ns.length:=by simp at hb2;omega
   rw[hil,ZJ,hres] at hv;subst hv;refine Z ?_;exact aA nn ⟨rfl,rfl,rfl⟩
def jV(l:List bD)(n:Nat):List bD:=l++List.replicate (n-l.length) vZ
theorem uM{l:List bD}{n:Nat}(h:l.length<=n):(jV l n).length=n:=by simp[jV];omega
theorem Ii{l:List bD}{n:Nat}(y:bD)(h:l.length<n):(jV l n).set l.length y=jV (l++[y]) n:=by
 unfold jV;rw[Zw _ _ (Y8 _),aAe];obtain⟨m,hm⟩:∃m,n-l.length=m+1:=⟨n-l.length-1,om⟩
 rw[hm,Zq,aAy,ZA,ZZ,show n-(l.length+1)=m by omega];simp
theorem El{l:List bD}{n:Nat}(h:l.length<n):jV (l++[vZ]) n=jV l n:=by
 unfold jV;obtain⟨m,hm⟩:∃m,n-l.length=m+1:=⟨n-l.length-1,om⟩
 rw[hm,Zq,ZA,ZZ,show n-(l.length+1)=m by omega];simp
theorem QE{l:List bD}{n k:Nat}(h:k<l.length):(aR (jV l n))[0+k]? = some (bY (l.getD k vZ)):=by
 rw[ZP,i6];unfold jV;rw[ZK h,Yx,Yw h];rfl
theorem A2(l:List bD)(i:Nat)(y:bD):aR (l.set i y)=(aR l).set i (bY y):=by simp[Go.Ax.f9,aA9]
def nM(A:List Nd)(ls:List Int)(fs:List bD)(rest:aQ):aQ:=
 (0,.row 137 3 [.agg [.ip (.agg [.il 12 (bC A)]),.sl 1 0 A.length,.sl 2 0 A.length]])::(1,.row 3 1 (aV ls))::(2,.row 50 4 (aR fs))::rest
theorem oL(A:List Nd):NN (.ip (.agg [.il 12 (bC A)])):=.ip' (.agg' (.cons (.il' (bA A)) .nil))
theorem oT{mem:aQ}{J:List (Nat × Nat)}{A:List Nd}{ls:List Int}{fs:List bD}{l1 l2:List AV}{a b c:Nat}{sv:AV}{rest:aQ}(s0:lk J a=some 0)(s1:lk J b=some 1)(s2:lk J c=some 2)
  (m0:lk mem a=some (.row 137 3 [.agg [sv,.sl b 0 A.length,.sl c 0 A.length]])) (hs:Cv mem J sv (.ip (.agg [.il 12 (bC A)]))) (m1:lk mem b=some (.row 3 1 l1)) (e1:l1=aV ls) (m2:lk mem c=some (.row 50 4 l2)) (e2:tO mem J l2 (aR fs))
  (hr:cO mem J rest):cO mem J (nM A ls fs rest):=
 ⟨⟨a,_,s0,m0,.cons (.agg (.cons hs (.cons (.slE s1 rfl) (.cons (.slE s2 rfl) .nil)))) .nil⟩,⟨b,_,s1,m1,.eq (aT _) e1⟩,⟨c,_,s2,m2,e2⟩,hr⟩
theorem OL{mem:aQ}{J:List (Nat × Nat)}{id i j:Nat}{t:TypeId}{sz:Nat}{xs:List AV}{x c c' v:AV}(h1:lk mem id=some (.row t sz xs))(h2:lk J id=none)(h3:xs[i]? = some x)(h4:x.cells[j]? = some c)(h5:v.cells=[c'])(h6:Cv mem J c c'):Cv mem J (.ptr id i j) (.ip v):=by
 refine .fzp id i j t sz xs x v h1 h2 h3 ?_ λk a b ha hb=>?_
 .have:=(Y0.1 h4).1;rw[h5];simp only[ZZ];omega
 .rw[h5] at hb;cases k with
  | zero=>
   rw[Zm,h4] at ha;cases ha;cases hb;exact h6
  | succ k=>simp at hb
theorem Hn{mem:aQ}{J:List (Nat × Nat)}{x y:AV}(n:Nat)(h:Ji mem J x y):tO mem J (List.replicate n x) (List.replicate n y):=by
 induction n with
 | zero=>exact .nil
 | succ n ih=>rw[Zq,Zq];exact .cons h ih
theorem Ev(n:Nat)(v:bD):aR (List.replicate n v)=List.replicate n (bY v):=by simp[Go.Ax.f9]
theorem WW{A:List Nd}(h:VT A):aX prog [] 24 [.agg [.il 12 (bC A)]] (wk A):=by
 have hlen:=bW A;have hl1:=h.tin.len;have hN:=JF A om;refine aG bJ func24 rfl ?_;refine Z ?_;rw[hlen];have e:((A.length:Nat):Int).toNat=A.length:=sq
 repeat((first|refine aO (bQ rfl (bQ rfl (bQ rfl (bQ (Y7 om) (bQ (Y7 om) (bQ (pQ rfl om om) (Y7 om))))))) ?_|refine aY ?_|rw[hlen]);refine Z ?_)
 refine aJ.useN bJ [] hN rfl (.same (.cons (.agg' (.cons (.il' (bA _)) .nil)) .nil)) trivial rfl ?_;rintro r m k ⟨rfl,rfl,rfl⟩;refine⟨[(0,14),(1,15),(2,16),(3,17)],.ptr 14 0 0,[(14,.row 144 4 [.agg [.il 12 (bC A),.sl 15 0 A.length,.sl 16 0 A.length,.sl 17 0 A.length]]),(15,.row 4 1 (kB (List.replicate A.length false))),(16,.row 48 1 (lB (aS A) (List.replicate A.length false))),(17,.row 4 1 (mB (aS A) (List.replicate A.length false)))],18,
  .ptr 0 14 0 0 rfl,⟨⟨0,_,rfl,rfl,Ec rfl rfl rfl⟩,aI 1 (iY _),aI 2 (AI _ _),aI 3 (xH _ _),trivial⟩,rfl, ?_⟩
 refine Z ?_;repeat((first|refine aO (bQ rfl (bQ rfl (bQ rfl (bQ (Y7 om) (bQ (Y7 om) (bQ (pQ rfl om om) (Y7 om))))))) ?_|refine aY ?_|rw[hlen]);refine Z ?_)
 rw[e];refine bI.at bJ (λi:Nat=>i<=A.length)
  (λi=>⟨[(1,.ip (.agg [.il 12 (bC A)])),(3,.ptr 0 0 0),(23,.int .i64 A.length),(24,.int .i64 i)],nM A (xU (a8 (A.take i)) A.length) (jV (cZ (A.take i)) A.length) [],3,127⟩) (λi=>A.length-i) 0 [(12,0),(6,1),(10,2)] om
  (aK _ rfl (oT (a:=12) (b:=6) (c:=10) rfl rfl rfl rfl (OL (id:=14) rfl rfl rfl rfl rfl (.same _ (.il' (bA A)))) rfl (by simp[xU,a8,aV]) rfl (by
    have:jV (cZ (A.take 0)) A.length=List.replicate A.length vZ:=by simp[jV,cZ,Mv]
    rw[this,Ev];exact Hn _ (xL 0 0 [])) trivial)
   ⟨⟨_,rfl,OL (id:=0) rfl rfl rfl rfl rfl (.same _ (.il' (bA A)))⟩,aN,aF,aF,trivial⟩) ?_
 intro i hi;have di:decide ((i:Int)<(A.length:Int))=decide (i<A.length):=Zp.2 om;by_cases hil:i<A.length
 .have hx:=cG hil;have hne:=q9 hil;have hnn:=bH (aD A i);have hg:=h.node hx;have hok:=h.tin.ok _ (Y2 hx);have hkl:=h.tin.klen _ (Y2 hx);have hti:(A.take i).length=i:=by rw[ZO];omega
  have hll:(a8 (A.take i)).length=i:=by rw[fV,hti]
  have hfl:(cZ (A.take i)).length=i:=by rw[jK,hti]
  have hkm:=λ(k:Int) (hk:k∈(aD A i).kids)=>eP h hx hk
  have hbi:=λh4=>h.bind hx h4
  have hkj:∀(j:Nat) (k:Int),(aD A i).kids[j]? = some k->0<=k/\k<i:=λj k hk=>by
   have:=hkm k (Y2 hk);omega
  have hlens:∀y∈a8 (A.take i),0<=y/\y<=1024:=λy hy=>by
   obtain⟨j,hj⟩:=ZV hy;have hj':=(Y0.1 hj).1;have e1:=BB (A:=A) (n:=i) (k:=(j:Int)) om om om;have e2:=h.lens0 (j:Int);rw[<-e1] at e2;unfold eJ at e2;rw[Yy,Yx,hj] at e2;exact e2
  have hL:=LT (xU (a8 (A.take i)) A.length) (aD A i) hok om (HQ hlens) (λj k hk=>by have:=hkj j k hk;rw[pO om];omega) (λh4=>by have:=(hbi (by have:=hg.node.kind;omega)).1;omega) hg.node.kind;have hLe:fN (xU (a8 (A.take i)) A.length) (aD A i)=fN (a8 (A.take i)) (aD A i):=
   yJ (λk hk=>G7 (hkm k hk).1 (by have:=hkm k hk;omega)) (λh4=>by have:=(hbi h4).1;omega) hg.node.kind
  rw[hLe] at hL;have hLs:a8 (A.take (i+1))=a8 (A.take i)++[fN (a8 (A.take i)) (aD A i)]:=by
   rw[List.take_succ_eq_append_getElem hil,iT];have:=(Y0.1 hx).2;rw[this]
  have hFs:cZ (A.take (i+1))=cZ (A.take i)++[yO (a8 (A.take i)) (cZ (A.take i)) (aD A i)]:=by
   rw[List.take_succ_eq_append_getElem hil,wB];have:=(Y0.1 hx).2;rw[this]
  have hps:=HB (n:=A.length) (fN (a8 (A.take i)) (aD A i)) (show (a8 (A.take i)).length<A.length by omega);have hfs:=Ii (n:=A.length) (yO (a8 (A.take i)) (cZ (A.take i)) (aD A i)) (show (cZ (A.take i)).length<A.length by omega);rw[hll,<-hLs] at hps;rw[hfl,<-hFs] at hfs;have hfg:∀k,k<i->(aR (jV (cZ (A.take i)) A.length))[0+k]? = some (bY ((cZ (A.take i)).getD k vZ)):=λk hk=>QE om
  have hkd:=λ(j:Nat) (hj:j<(aD A i).kids.length)=>h.kid hx hj
  have hmd:=λ(ks:List bD)=>LK (aD A i) ks
  have hFN:yO (a8 (A.take i)) (cZ (A.take i)) (aD A i)=if 0<fN (a8 (A.take i)) (aD A i) then vZ else if (aD A i).kind=0 then(aD A i).value else if (aD A i).kind=3 then Go.Ax.d8 (aD A i).name ((aD A i).kids.map λk=>(cZ (A.take i)).getD k.toNat vZ) else if (aD A i).kind=4 then(cZ (A.take i)).getD (bF (aD A i) 1) vZ else vZ:=rfl
  have hpl:(aV (xU (a8 (A.take i)) A.length)).length=A.length:=by rw[aH,pO om]
  have hpv:(aR (jV (cZ (A.take i)) A.length)).length=A.length:=by rw[aB,uM om]
  have hps1:=n8 (xU (a8 (A.take i)) A.length) i (fN (a8 (A.take i)) (aD A i));have hfs1:=A2 (jV (cZ (A.take i)) A.length) i (yO (a8 (A.take i)) (cZ (A.take i)) (aD A i));rw[hps] at hps1;rw[hfs] at hfs1;have hkind:=hg.node.kind;generalize yO (a8 (A.take i)) (cZ (A.take i)) (aD A i)=fx at *;generalize fN (a8 (A.take i)) (aD A i)=ln at *;generalize aD A i=x at *;obtain⟨kind,name,lo,hi',ws,lbs,vals,kids,⟨vk,vn,vs,vks⟩⟩:=x;simp only at hkm hbi hkj hkd hmd hFN hkind hkl;refine Z ?_;rw[di,Y7 hil];refine Rt ?_;repeat(refine aC hne ?_;refine Rt ?_)
  refine hL.lend bJ (.cons (.same _ (.ip' hnn)) (.cons (BN (id:=1) rfl hpl.symm rfl (aT _)) .nil)) (.int _ _) ?_;have g1:Nat.blt ((i:Nat):Int).toNat A.length=true:=Y3 (by simp;omega);obtain⟨z,hz⟩:∃z:Int,(aV (xU (a8 (A.take i)) A.length))[0+((i:Nat):Int).toNat]? = some (.int .i64 z):=by
   have:i<(xU (a8 (A.take i)) A.length).length:=by rw[pO om];omega
   exact⟨_,by rw[ZP,Yy,bK,Yw this];rfl⟩
  have hz2:((aV (xU (a8 (A.take i)) A.length)).set (0+((i:Nat):Int).toNat) (.int .i64 ln))[0+((i:Nat):Int).toNat]? = some (.int .i64 ln):=by
   rw[Zt (by rw[hpl];simp;omega)]
  have h0i:0+((i:Nat):Int).toNat=i:=sq
  refine Rt ?_;repeat((first|refine aC hne ?_|refine aO g1 ?_|refine aC hz ?_|refine aC hz2 ?_);refine Rt ?_)
  refine aL (λhb=>?_) (λhb=>?_)
  .have hln:0<ln:=su hb
   rw[Y4 hln] at hFN;refine Z ?_;have hsk:=El (n:=A.length) (show (cZ (A.take i)).length<A.length by omega);rw[hFN] at hFs;rw[<-hFs] at hsk;exact .mk (i+1) [(0,0),(1,1),(2,2)] om (aK _ rfl (oT (a:=0) (b:=1) (c:=2) rfl rfl rfl rfl (.same _ (oL A)) rfl (by rw[h0i,hps1]) rfl (.eq (aW _) (by rw[hsk])) trivial)
    ⟨aP (oL A),aN,aF,⟨_,rfl,.w64 om oq⟩,trivial⟩) om
  .have hln:¬0<ln:=su hb
   rw[Yz hln] at hFN;obtain⟨z1,z2,z3,z4,hzv⟩:∃a b c d,(aR (jV (cZ (A.take i)) A.length))[0+((i:Nat):Int).toNat]? = some (bY (.mk a b c d)):=by
    have:i<(jV (cZ (A.take i)) A.length).length:=by rw[uM om];omega
    obtain⟨⟨a,b,c,d⟩,hv⟩:∃v,v=(jV (cZ (A.take i)) A.length)[i]:=⟨_,rfl⟩
    exact⟨a,b,c,d,by rw[ZP,Yy,i6,Yw this,hv];rfl⟩
   refine Z ?_;by_cases k0:kind=0
   .subst k0;rw[Y4 rfl] at hFN;rw[hFN] at hfs1;refine Rt ?_;repeat((first|refine aC hne ?_|refine aO g1 ?_|refine aC hzv ?_);refine Rt ?_)
    exact .mk (i+1) [(0,0),(1,1),(2,2)] om (aK _ rfl (oT (a:=0) (b:=1) (c:=2) rfl rfl rfl rfl (.same _ (oL A)) rfl (by rw[h0i,hps1]) rfl (.eq (aW _) (by rw[h0i,hfs1];rfl)) trivial)
    ⟨aP (oL A),aN,aF,⟨_,rfl,.w64 om oq⟩,trivial⟩) om
   .rw[Yz k0] at hFN;rw[show (kind == 0)=false by simpa using k0];refine Z ?_;by_cases k3:kind=3
    .subst k3;rw[Y4 rfl] at hFN;have lkk:=aH kids;refine Z ?_;rw[lkk];refine aO (bQ rfl (bQ rfl (bQ rfl (bQ (Y7 om) (bQ (Y7 om) (bQ (pQ rfl om om) (Y7 om))))))) ?_;refine Z ?_;have ek0:((kids.length:Nat):Int).toNat=kids.length:=sq
     rw[ek0];refine bI.at bJ (λj:Nat=>j<=kids.length)
      (λj=>⟨[(1,.ip (.agg [.il 12 (bC A)])),(3,.ptr 0 0 0),(4,.int .i64 i),(5,.ip (cK ⟨3,name,lo,hi',ws,lbs,vals,kids,.mk vk vn vs vks⟩)),(6,.sl 3 0 kids.length),(23,.int .i64 A.length),(24,.int .i64 i),(78,.il 1 (aV kids)),(79,.int .i64 kids.length),(80,.int .i64 j)],
       nM A (xU (a8 (A.take (i+1))) A.length) (jV (cZ (A.take i)) A.length) [(3,.row 50 4 (aR (jV ((kids.take j).map λk=>(cZ (A.take i)).getD k.toNat vZ) kids.length)))],4,127⟩)
      (λj=>kids.length-j) 0 [(0,0),(1,1),(2,2),(16,3)] om
      (aK _ rfl (oT (a:=0) (b:=1) (c:=2) rfl rfl rfl rfl (.same _ (oL A)) rfl (by rw[h0i,hps1]) rfl (.same (aW _)) ⟨⟨16,_,rfl,rfl,by
        have:jV ((kids.take 0).map λk=>(cZ (A.take i)).getD k.toNat vZ) kids.length=List.replicate kids.length vZ:=by simp[jV]
        rw[this,Ev];exact Hn _ (xL 0 0 [])⟩,trivial⟩)
       ⟨aP (oL A),aN,aF,aP (.ip' hnn),⟨_,rfl,.slE rfl rfl⟩,aF,aF,aP (.il' (aT _)),⟨_,rfl,.int (by rw[lkk])⟩,aF,trivial⟩) ?_
     intro j hj;have dj:decide ((j:Int)<(kids.length:Int))=decide (j<kids.length):=Zp.2 om;by_cases hjl:j<kids.length
     .have ek:=qB hjl;obtain⟨m0,m1⟩:=hkm kids[j] (ZW hjl);have hnx:(kids.take (j+1)).map (λk=>(cZ (A.take i)).getD k.toNat vZ)=(kids.take j).map (λk=>(cZ (A.take i)).getD k.toNat vZ)++[(cZ (A.take i)).getD kids[j].toNat vZ]:=by
       rw[List.take_succ_eq_append_getElem hjl,aAQ];rfl
      generalize kids[j]=kz at *;obtain⟨k,rfl⟩:=ZD m0;simp only[Yy] at m1 hnx;have e2:(aR (jV (cZ (A.take i)) A.length))[0+((k:Nat):Int).toNat]? = some (bY ((cZ (A.take i)).getD k vZ)):=by rw[Yy];exact hfg k m1
      have g2:Nat.blt ((k:Nat):Int).toNat A.length=true:=Y3 (by simp;omega);have g3:Nat.blt ((j:Nat):Int).toNat kids.length=true:=Y3 (by simp;omega);have hml:((kids.take j).map λk=>(cZ (A.take i)).getD k.toNat vZ).length=j:=by rw[aAs,ZO];omega
      have hset:=Ii (n:=kids.length) ((cZ (A.take i)).getD k vZ) (show ((kids.take j).map λk=>(cZ (A.take i)).getD k.toNat vZ).length<kids.length by omega);rw[hml,<-hnx] at hset;have hset1:=A2 (jV ((kids.take j).map λk=>(cZ (A.take i)).getD k.toNat vZ) kids.length) j ((cZ (A.take i)).getD k vZ);rw[hset] at hset1;generalize (cZ (A.take i)).getD k vZ=u at *;obtain⟨y1,y2,y3,y4,hyv⟩:∃a b c d,(aR (jV ((kids.take j).map λk=>(cZ (A.take i)).getD k.toNat vZ) kids.length))[0+((j:Nat):Int).toNat]? = some (bY (.mk a b c d)):=by
       have:j<(jV ((kids.take j).map λk=>(cZ (A.take i)).getD k.toNat vZ) kids.length).length:=by rw[uM om];omega
       obtain⟨⟨a,b,c,d⟩,hv⟩:∃v,v=(jV ((kids.take j).map λk=>(cZ (A.take i)).getD k.toNat vZ) kids.length)[j]:=⟨_,rfl⟩
       exact⟨a,b,c,d,by rw[ZP,Yy,i6,Yw this,hv];rfl⟩
      obtain⟨u1,u2,u3,u4⟩:=u;refine Z ?_;rw[dj,Y7 hjl];refine Rt ?_;repeat((first|refine aC ek ?_|refine aC e2 ?_|refine aO g2 ?_|refine aO g3 ?_|refine aC hyv ?_);refine Rt ?_)
      exact .mk (j+1) [(0,0),(1,1),(2,2),(3,3)] om
       (aK _ rfl (oT (a:=0) (b:=1) (c:=2) rfl rfl rfl rfl (.same _ (oL A)) rfl rfl rfl (.same (aW _)) ⟨⟨3,_,rfl,rfl,.eq (aW _) (by rw[ZP,Yy];exact hset1.symm)⟩,trivial⟩)
        ⟨aP (oL A),aN,aF,aP (.ip' hnn),⟨_,rfl,.slE rfl rfl⟩,aF,aF,aP (.il' (aT _)),aF,⟨_,rfl,.w64 om oq⟩,trivial⟩) om
     .have hje:j=kids.length:=om;subst hje;rw[ZJ];have hp0:jV (kids.map λk=>(cZ (A.take i)).getD k.toNat vZ) kids.length=kids.map λk=>(cZ (A.take i)).getD k.toNat vZ:=by simp[jV]
      rw[hp0];have hm0:=hmd (kids.map λk=>(cZ (A.take i)).getD k.toNat vZ);rw[<-hFN] at hm0;have hml:(aR (kids.map λk=>(cZ (A.take i)).getD k.toNat vZ)).length=kids.length:=by rw[aB,aAs]
      have hun:=bT fx;clear hFN;generalize (kids.map λk=>(cZ (A.take i)).getD k.toNat vZ)=us at *;obtain⟨u1,u2,u3,u4⟩:=fx;refine Z ?_;rw[dj,ZN hjl];refine Rt ?_;refine aJ.pre bJ [(0,0),(1,1),(2,2)] (mem':=nM A (xU (a8 (A.take (i+1))) A.length) (jV (cZ (A.take i)) A.length) []) rfl (oT (a:=0) (b:=1) (c:=2) rfl rfl rfl rfl (.same _ (oL A)) rfl rfl rfl (.same (aW _)) trivial)
       (.cons (.same _ (.ip' hnn)) (.cons (.fz' (id:=3) (off:=0) (len:=kids.length) (xs:=aR us) (ys:=aR us) rfl rfl om (by rw[ZU,Y9 om]) (aW _)) .nil)) ?_
      refine hm0.go ?_ (.cons (.ip' hnn) (.cons (.il' (aW _)) .nil)) hun;refine Rt ?_;repeat((first|refine aO g1 ?_|refine aC hzv ?_);refine Rt ?_)
      exact .mk (i+1) [(0,0),(1,1),(2,2)] om (aK _ rfl (oT (a:=0) (b:=1) (c:=2) rfl rfl rfl rfl (.same _ (oL A)) rfl rfl rfl (.eq (aW _) (by rw[h0i];exact hfs1.symm)) trivial)
    ⟨aP (oL A),aN,aF,⟨_,rfl,.w64 om oq⟩,trivial⟩) om
    .rw[Yz k3] at hFN;rw[show (kind == 3)=false by simpa using k3];refine Z ?_;by_cases k4:kind=4
     .subst k4;rw[Y4 rfl] at hFN;have hb4:=(hbi rfl).1;have hb5:=(hbi rfl).2.1;have e1':bF ⟨4,name,lo,hi',ws,lbs,vals,kids,.mk vk vn vs vks⟩ 1<i/\kids[1]? = some (bF ⟨4,name,lo,hi',ws,lbs,vals,kids,.mk vk vn vs vks⟩ 1:Int):=hkd 1 om;generalize bF ⟨4,name,lo,hi',ws,lbs,vals,kids,.mk vk vn vs vks⟩ 1=k1 at *;have e1:(aV kids)[Int.toNat 1]? = some (.int .i64 (k1:Int)):=by rw[show Int.toNat 1=1 from rfl,bK,e1'.2];rfl
      have e2:(aR (jV (cZ (A.take i)) A.length))[0+((k1:Nat):Int).toNat]? = some (bY ((cZ (A.take i)).getD k1 vZ)):=by rw[Yy];exact hfg k1 e1'.1
      have g2:Nat.blt ((k1:Nat):Int).toNat A.length=true:=Y3 (by simp;omega);rw[<-hFN] at e2;obtain⟨u1,u2,u3,u4⟩:=fx;refine Rt ?_;repeat((first|refine aC e1 ?_|refine aC e2 ?_|refine aO g1 ?_|refine aO g2 ?_|refine aC hzv ?_);refine Rt ?_)
      exact .mk (i+1) [(0,0),(1,1),(2,2)] om (aK _ rfl (oT (a:=0) (b:=1) (c:=2) rfl rfl rfl rfl (.same _ (oL A)) rfl (by rw[h0i,hps1]) rfl (.eq (aW _) (by rw[h0i];exact hfs1.symm)) trivial)
    ⟨aP (oL A),aN,aF,⟨_,rfl,.w64 om oq⟩,trivial⟩) om
     .rw[Yz k4] at hFN;rw[show (kind == 4)=false by simpa using k4];have hsk:=El (n:=A.length) (show (cZ (A.take i)).length<A.length by omega);rw[hFN] at hFs;rw[<-hFs] at hsk;refine Z ?_;exact .mk (i+1) [(0,0),(1,1),(2,2)] om (aK _ rfl (oT (a:=0) (b:=1) (c:=2) rfl rfl rfl rfl (.same _ (oL A)) rfl (by rw[h0i,hps1]) rfl (.eq (aW _) (by rw[hsk])) trivial)
    ⟨aP (oL A),aN,aF,⟨_,rfl,.w64 om oq⟩,trivial⟩) om
 .have hie:i=A.length:=om;subst hie;rw[ZJ];have hp1:xU (a8 A) A.length=a8 A:=by simp[xU,fV]
  have hp2:jV (cZ A) A.length=cZ A:=by simp[jV,jK]
  rw[hp1,hp2];refine Z ?_;rw[di,ZN hil];refine Z ?_;refine cW (r':=wk A) ?_ ⟨rfl,rfl,rfl⟩;exact .fzp 0 0 0 137 3 _ _ (Xi A) rfl rfl rfl (Y8 _) λk c c' h1 h2=>by
   rw[ZP] at h1;exact(g6.cons (.same _ (oL A)) (.cons (BN (id:=1) rfl (by rw[aH,fV]) rfl (aT _)) (.cons (BN (id:=2) rfl (by rw[aB,jK]) rfl (aW _)) .nil))).2 k c c' h1 h2
def jM(l:List Sp):List AV:=l.map λs=>.agg [.int .i64 s.1,.int .i64 s.2.1,.int .i64 s.2.2]
theorem Am(l:List Sp):(jM l).length=l.length:=by simp[jM]
theorem zD(l:List Sp):jU (jM l):=λa h=>by
 simp only[jM,ZL] at h;obtain⟨p,_,rfl⟩:=h;exact .agg' (.cons nn (.cons nn (.cons nn .nil)))
theorem Nf(l:List Sp)(k:Nat):(jM l)[k]? = (l[k]?).map λs=>AV.agg [.int .i64 s.1,.int .i64 s.2.1,.int .i64 s.2.2]:=by simp[jM]
theorem v6(l m:List Sp):jM (l++m)=jM l++jM m:=by simp[jM]
def lV(A:List Nd)(p:List Int):Ba:=bG A p A.length (A.length-1) 0
def kL(p:List Int)(r:Ba):Ba:=if r.stop = -1/\r.used<p.length then⟨r.val,r.used,-2,r.spans⟩ else r
theorem Kh(A:List Nd)(p:List Int):(lV A p).used<=p.length:=by
 have:=(GS (A:=A) p A.length (A.length-1) 0 (aAp _)).1;unfold lV;omega
structure MF(A:List Nd)(p:List Int):Prop where
 tree:VT A
 len:p.length<=1000000
 i64:∀x∈p,i64 x
 cnt:∀f i a0,i<f->i<A.length->(bG A p f i a0).spans.length<=4294967296
structure Vn(A:List Nd)(p:List Int):Prop where
 tin:eG A
 len:p.length<=1000000
 i64:∀x∈p,i64 x
 cnt:VT A->∀f i a0,i<f->i<A.length->(bG A p f i a0).spans.length<=4294967296
theorem Vn.pth{A:List Nd}{p:List Int}(h:Vn A p)(hv:VT A):MF A p:=⟨hv,h.len,h.i64,h.cnt hv⟩
def tP(A:List Nd)(p:List Int):Int:=if cR A≠0 then cR A else if A.length=0 then 11 else if (kL p (lV A p)).stop = -1 then 0 else 11
def oC(A:List Nd)(p:List Int):bD:=if tP A p=0 then(lV A p).val else vZ
def QV(A:List Nd)(p:List Int):List Sp:=if tP A p=0 then(lV A p).spans else []
theorem Eh(p:List Int)(r:Ba):(kL p r).val=r.val/\(kL p r).spans=r.spans:=by
 unfold kL;split<;>exact⟨rfl,rfl⟩
def mM(l:List Bool)(n:Nat):List Bool:=l++List.replicate (n-l.length) false
theorem vT{l:List Bool}{n:Nat}(h:l.length<=n):(mM l n).length=n:=by simp[mM];omega
theorem PV{l:List Bool}{n:Nat}(y:Bool)(h:l.length<n):(mM l n).set l.length y=mM (l++[y]) n:=by
 unfold mM;rw[Zw _ _ (Y8 _),aAe];obtain⟨m,hm⟩:∃m,n-l.length=m+1:=⟨n-l.length-1,om⟩
 rw[hm,Zq,aAy,ZA,ZZ,show n-(l.length+1)=m by omega];simp
theorem NY{l:List Bool}{n:Nat}(h:l.length<n):mM (l++[false]) n=mM l n:=by
 unfold mM;obtain⟨m,hm⟩:∃m,n-l.length=m+1:=⟨n-l.length-1,om⟩
 rw[hm,Zq,ZA,ZZ,show n-(l.length+1)=m by omega];simp
theorem v8(l:List Bool)(i:Nat):(kB l)[i]? = (l[i]?).map AV.bool:=by simp[kB]
theorem Un(l:List Bool):(kB l).length=l.length:=by simp[kB]
theorem CJ(l:List Bool)(i:Nat)(b:Bool):kB (l.set i b)=(kB l).set i (.bool b):=by simp[kB,aA9]
theorem RU{A:List Nd}(h:VT A):aX prog [] 132 [.agg [.il 12 (bC A)],wk A] (.il 1 (kB (dG A))):=by
 have hlen:=bW A;have hl1:=h.tin.len;have nA:NN (.il 12 (bC A)):=.il' (bA A);refine aG bJ func132 rfl ?_;refine Z ?_;rw[hlen];have e:((A.length:Nat):Int).toNat=A.length:=sq
 refine aO (bQ rfl (bQ rfl (bQ rfl (bQ (Y7 om) (bQ (Y7 om) (bQ (pQ rfl om om) (Y7 om))))))) ?_;refine Z ?_;rw[e];refine bI.at bJ (λi:Nat=>i<=A.length)
  (λi=>⟨[(1,wk A),(2,.ip (.agg [.il 12 (bC A)])),(5,.sl 0 0 A.length),(16,.int .i64 A.length),(17,.int .i64 i)],[(0,.row 4 1 (kB (mM (dG (A.take i)) A.length)))],1,69⟩) (λi=>A.length-i) 0 [(1,0)] om
  (aK _ rfl ⟨⟨1,_,rfl,rfl,.eq (iY _) (by simp[mM,dG,Mu,kB])⟩,trivial⟩ ⟨aP (g5 A),⟨_,rfl,OL (id:=0) rfl rfl rfl rfl rfl (.same _ nA)⟩,⟨_,rfl,.slE rfl rfl⟩,⟨_,rfl,.int (by rw[hlen])⟩,aF,trivial⟩) ?_
 intro i hi;have di:decide ((i:Int)<(A.length:Int))=decide (i<A.length):=Zp.2 om;by_cases hil:i<A.length
 .have hx:=cG hil;have hne:=q9 hil;have hnn:=bH (aD A i);have hg:=h.node hx;have hkl:=h.tin.klen _ (Y2 hx);have hti:(A.take i).length=i:=by rw[ZO];omega
  have hpl:(dG (A.take i)).length=i:=by rw[jR,hti]
  have hkm:=λ(k:Int) (hk:k∈(aD A i).kids)=>eP h hx hk
  have hCh:=Id hil;have hln:=h.len hx;have hln2:=h.lenC hx (Y8 i) om;have hPs:dG (A.take (i+1))=dG (A.take i)++[Ak (a8 (A.take i)) (dG (A.take i)) (aD A i)]:=by
   rw[List.take_succ_eq_append_getElem hil,wG,(Y0.1 hx).2]
  have hPN:Ak (a8 (A.take i)) (dG (A.take i)) (aD A i)=(decide (fN (a8 (A.take i)) (aD A i)<=0) && (decide ((aD A i).kind≠3) || decide ((aD A i).kids.length=0)) && (aD A i).kids.all λk=>(dG (A.take i)).getD k.toNat false):=rfl;rw[hln2,<-hln] at hPN;have hset:=λb=>PV (n:=A.length) b (show (dG (A.take i)).length<A.length by omega)
  rw[hpl] at hset;have hl0:=(h.lens0 (i:Int)).1;generalize Ak (a8 (A.take i)) (dG (A.take i)) (aD A i)=pb at *;generalize eJ (a8 A) i=ln at *;clear hln hln2 hg hx;generalize aD A i=x at *;obtain⟨kind,name,lo,hi',ws,lbs,vals,kids,⟨vk,vn,vs,vks⟩⟩:=x;simp only at hkm hkl hPN;refine Z ?_;rw[di,Y7 hil];refine Rt ?_;repeat(refine aC hne ?_;refine Rt ?_)
  refine hCh.go ?_ (.cons (g5 A) (.cons nn .nil)) nn;refine Z ?_;refine aL (λhb=>?_) (λhb=>?_)
  .have hlp:0<ln:=su hb
   have hpf:pb=false:=by rw[hPN,ZN om];rfl
   rw[hpf] at hPs;have hsk:=NY (n:=A.length) (show (dG (A.take i)).length<A.length by omega);rw[<-hPs] at hsk;refine Z ?_;exact .mk (i+1) [(0,0)] om (aK _ rfl ⟨⟨0,_,rfl,rfl,.eq (iY _) (by rw[hsk])⟩,trivial⟩ ⟨aP (g5 A),aP (.ip' (.agg' (.cons nA .nil))),⟨_,rfl,.slE rfl rfl⟩,aF,⟨_,rfl,.w64 om oq⟩,trivial⟩) om
  .have hlp:¬0<ln:=su hb
   rw[Y7 (show ln<=0 by omega),aBb] at hPN;have lkk:=aH kids;have g1:Nat.blt ((i:Nat):Int).toNat A.length=true:=Y3 (by simp;omega);obtain⟨pi,hpi⟩:∃b:Bool,(kB (mM (dG (A.take i)) A.length))[0+((i:Nat):Int).toNat]? = some (.bool b):=by
    have:i<(mM (dG (A.take i)) A.length).length:=by rw[vT om];omega
    exact⟨_,by rw[ZP,Yy,v8,Yw this];rfl⟩
   refine Z ?_;by_cases k3:kind=3
   .subst k3;rw[show decide ((3:Int)≠3)=false by simp,aBi] at hPN;have dl:(((aV kids).length:Int) == 0)=decide (kids.length=0):=by rw[lkk];by_cases e0:kids.length=0<;>simp[e0]
    refine Z ?_;rw[dl];refine Rs ?_;repeat((first|refine aC hpi ?_|refine aO g1 ?_);refine Rt ?_)
    generalize decide (kids.length=0)=b0 at *;refine bI.at bJ (λj:Nat=>j<=kids.length)
     (λj=>⟨[(1,wk A),(2,.ip (.agg [.il 12 (bC A)])),(5,.sl 0 0 A.length),(6,.int .i64 i),(16,.int .i64 A.length),(17,.int .i64 i),(47,.il 1 (aV kids)),(48,.int .i64 kids.length),(49,.int .i64 j)],
      [(0,.row 4 1 (kB ((mM (dG (A.take i)) A.length).set i (b0 && (kids.take j).all λk=>(dG (A.take i)).getD k.toNat false))))],1,69⟩)
     (λj=>kids.length-j) 0 [(0,0)] om
     (aK _ rfl ⟨⟨0,_,rfl,rfl,.eq (iY _) (by simp[CJ])⟩,trivial⟩ ⟨aP (g5 A),aP (.ip' (.agg' (.cons nA .nil))),⟨_,rfl,.slE rfl rfl⟩,aF,aF,aF,aP (.il' (aT _)),⟨_,rfl,.int (by rw[lkk])⟩,aF,trivial⟩) ?_
    intro j hj;have dj:decide ((j:Int)<(kids.length:Int))=decide (j<kids.length):=Zp.2 om;have hBl:(mM (dG (A.take i)) A.length).length=A.length:=vT om;by_cases hjl:j<kids.length
    .have ek:=qB hjl;obtain⟨m0,m1⟩:=hkm kids[j] (ZW hjl);have hall:((kids.take (j+1)).all λk=>(dG (A.take i)).getD k.toNat false)=(((kids.take j).all λk=>(dG (A.take i)).getD k.toNat false) && (dG (A.take i)).getD kids[j].toNat false):=by
      rw[List.take_succ_eq_append_getElem hjl,aBP];simp
     generalize kids[j]=kz at *;obtain⟨k,rfl⟩:=ZD m0;simp only[Yy] at m1 hall;have hgk:∀b:Bool,(kB ((mM (dG (A.take i)) A.length).set i b))[0+((k:Nat):Int).toNat]? = some (.bool ((dG (A.take i)).getD k false)):=λb=>by
      have hk:k<(dG (A.take i)).length:=om;rw[ZP,Yy,v8,aBo om];unfold mM;rw[ZK hk,Yx,Yw hk];rfl
     have hgi:∀b:Bool,(kB ((mM (dG (A.take i)) A.length).set i b))[0+((i:Nat):Int).toNat]? = some (.bool b):=λb=>by
      rw[ZP,Yy,v8,Zt om];rfl
     have g2:Nat.blt ((k:Nat):Int).toNat A.length=true:=Y3 (by simp;omega);generalize (dG (A.take i)).getD k false=gk at *;have hall2:(b0 && ((kids.take (j+1)).all λk=>(dG (A.take i)).getD k.toNat false))=((b0 && ((kids.take j).all λk=>(dG (A.take i)).getD k.toNat false)) && gk):=by rw[hall,aBF]
     generalize (b0 && ((kids.take j).all λk=>(dG (A.take i)).getD k.toNat false))=b at *;have hgk:=hgk b;have hgi:=hgi b;have hss:∀c:Bool,(kB ((mM (dG (A.take i)) A.length).set i b)).set (0+((i:Nat):Int).toNat) (.bool c)=kB ((mM (dG (A.take i)) A.length).set i c):=λc=>by
      rw[ZP,Yy,<-CJ,List.set_set]
     cases b with
     | false=>
      refine Z ?_;rw[dj,Y7 hjl];refine Rt ?_;repeat((first|refine aC ek ?_|refine aC hgi ?_|refine aO g1 ?_);refine Rt ?_)
      exact .mk (j+1) [(0,0)] om (aK _ rfl ⟨⟨0,_,rfl,rfl,.eq (iY _) (by rw[hss,hall2];rfl)⟩,trivial⟩ ⟨aP (g5 A),aP (.ip' (.agg' (.cons nA .nil))),⟨_,rfl,.slE rfl rfl⟩,aF,aF,aF,aP (.il' (aT _)),aF,⟨_,rfl,.w64 om oq⟩,trivial⟩) om
     | true=>
      refine Z ?_;rw[dj,Y7 hjl];refine Rt ?_;repeat((first|refine aC ek ?_|refine aC hgi ?_|refine aC hgk ?_|refine aO g1 ?_|refine aO g2 ?_);refine Rt ?_)
      exact .mk (j+1) [(0,0)] om (aK _ rfl ⟨⟨0,_,rfl,rfl,.eq (iY _) (by rw[hss,hall2];rfl)⟩,trivial⟩ ⟨aP (g5 A),aP (.ip' (.agg' (.cons nA .nil))),⟨_,rfl,.slE rfl rfl⟩,aF,aF,aF,aP (.il' (aT _)),aF,⟨_,rfl,.w64 om oq⟩,trivial⟩) om
    .have hje:j=kids.length:=om;rw[hje,ZJ,<-hPN,hset,<-hPs];refine Z ?_;rw[show decide (((kids.length:Nat):Int)<(kids.length:Int))=false by simp];refine Z ?_;exact .mk (i+1) [(0,0)] om (aK _ rfl ⟨aI 0 (iY _),trivial⟩ ⟨aP (g5 A),aP (.ip' (.agg' (.cons nA .nil))),⟨_,rfl,.slE rfl rfl⟩,aF,⟨_,rfl,.w64 om oq⟩,trivial⟩) om
   .rw[Y7 (show kind≠3 from k3),Bool.true_or] at hPN;rw[show (kind != 3)=true by simpa using k3];refine Rt ?_;repeat((first|refine aC hpi ?_|refine aO g1 ?_);refine Rt ?_)
    refine bI.at bJ (λj:Nat=>j<=kids.length)
     (λj=>⟨[(1,wk A),(2,.ip (.agg [.il 12 (bC A)])),(5,.sl 0 0 A.length),(6,.int .i64 i),(16,.int .i64 A.length),(17,.int .i64 i),(47,.il 1 (aV kids)),(48,.int .i64 kids.length),(49,.int .i64 j)],
      [(0,.row 4 1 (kB ((mM (dG (A.take i)) A.length).set i (true && (kids.take j).all λk=>(dG (A.take i)).getD k.toNat false))))],1,69⟩)
     (λj=>kids.length-j) 0 [(0,0)] om
     (aK _ rfl ⟨⟨0,_,rfl,rfl,.eq (iY _) (by simp[CJ])⟩,trivial⟩ ⟨aP (g5 A),aP (.ip' (.agg' (.cons nA .nil))),⟨_,rfl,.slE rfl rfl⟩,aF,aF,aF,aP (.il' (aT _)),⟨_,rfl,.int (by rw[lkk])⟩,aF,trivial⟩) ?_
    intro j hj;have dj:decide ((j:Int)<(kids.length:Int))=decide (j<kids.length):=Zp.2 om;have hBl:(mM (dG (A.take i)) A.length).length=A.length:=vT om;by_cases hjl:j<kids.length
    .have ek:=qB hjl;obtain⟨m0,m1⟩:=hkm kids[j] (ZW hjl);have hall:((kids.take (j+1)).all λk=>(dG (A.take i)).getD k.toNat false)=(((kids.take j).all λk=>(dG (A.take i)).getD k.toNat false) && (dG (A.take i)).getD kids[j].toNat false):=by
      rw[List.take_succ_eq_append_getElem hjl,aBP];simp
     generalize kids[j]=kz at *;obtain⟨k,rfl⟩:=ZD m0;simp only[Yy] at m1 hall;have hgk:∀b:Bool,(kB ((mM (dG (A.take i)) A.length).set i b))[0+((k:Nat):Int).toNat]? = some (.bool ((dG (A.take i)).getD k false)):=λb=>by
      have hk:k<(dG (A.take i)).length:=om;rw[ZP,Yy,v8,aBo om];unfold mM;rw[ZK hk,Yx,Yw hk];rfl
     have hgi:∀b:Bool,(kB ((mM (dG (A.take i)) A.length).set i b))[0+((i:Nat):Int).toNat]? = some (.bool b):=λb=>by
      rw[ZP,Yy,v8,Zt om];rfl
     have g2:Nat.blt ((k:Nat):Int).toNat A.length=true:=Y3 (by simp;omega);generalize (dG (A.take i)).getD k false=gk at *;have hall2:(true && ((kids.take (j+1)).all λk=>(dG (A.take i)).getD k.toNat false))=((true && ((kids.take j).all λk=>(dG (A.take i)).getD k.toNat false)) && gk):=by rw[hall,aBF]
     generalize (true && ((kids.take j).all λk=>(dG (A.take i)).getD k.toNat false))=b at *;have hgk:=hgk b;have hgi:=hgi b;have hss:∀c:Bool,(kB ((mM (dG (A.take i)) A.length).set i b)).set (0+((i:Nat):Int).toNat) (.bool c)=kB ((mM (dG (A.take i)) A.length).set i c):=λc=>by
      rw[ZP,Yy,<-CJ,List.set_set]
     cases b with
     | false=>
      refine Z ?_;rw[dj,Y7 hjl];refine Rt ?_;repeat((first|refine aC ek ?_|refine aC hgi ?_|refine aO g1 ?_);refine Rt ?_)
      exact .mk (j+1) [(0,0)] om (aK _ rfl ⟨⟨0,_,rfl,rfl,.eq (iY _) (by rw[hss,hall2];rfl)⟩,trivial⟩ ⟨aP (g5 A),aP (.ip' (.agg' (.cons nA .nil))),⟨_,rfl,.slE rfl rfl⟩,aF,aF,aF,aP (.il' (aT _)),aF,⟨_,rfl,.w64 om oq⟩,trivial⟩) om
     | true=>
      refine Z ?_;rw[dj,Y7 hjl];refine Rt ?_;repeat((first|refine aC ek ?_|refine aC hgi ?_|refine aC hgk ?_|refine aO g1 ?_|refine aO g2 ?_);refine Rt ?_)
      exact .mk (j+1) [(0,0)] om (aK _ rfl ⟨⟨0,_,rfl,rfl,.eq (iY _) (by rw[hss,hall2];rfl)⟩,trivial⟩ ⟨aP (g5 A),aP (.ip' (.agg' (.cons nA .nil))),⟨_,rfl,.slE rfl rfl⟩,aF,aF,aF,aP (.il' (aT _)),aF,⟨_,rfl,.w64 om oq⟩,trivial⟩) om
    .have hje:j=kids.length:=om;rw[hje,ZJ,<-hPN,hset,<-hPs];refine Z ?_;rw[show decide (((kids.length:Nat):Int)<(kids.length:Int))=false by simp];refine Z ?_;exact .mk (i+1) [(0,0)] om (aK _ rfl ⟨aI 0 (iY _),trivial⟩ ⟨aP (g5 A),aP (.ip' (.agg' (.cons nA .nil))),⟨_,rfl,.slE rfl rfl⟩,aF,⟨_,rfl,.w64 om oq⟩,trivial⟩) om
 .have hie:i=A.length:=om;subst hie;rw[ZJ];have hp1:mM (dG A) A.length=dG A:=by simp[mM,jR]
  rw[hp1];refine Z ?_;rw[di,ZN hil];refine Z ?_;exact cW (r':=.il 1 (kB (dG A))) (BN (id:=0) rfl (by rw[Un,jR]) rfl (iY _)) ⟨rfl,rfl,rfl⟩
def kU(q:List Int)(rid:Nat)(rest:aQ):aQ:=(0,.row 22 1 [.sl rid 0 q.length])::(rid,.row 3 1 (aV q))::rest
def VX(A:List Nd)(raw:List Int):AV:=.fn (.func 70) [] [.ptr 0 0 0,.ip (.il 1 (aV raw)),.ip (wk A)]
theorem uL(raw:List Int):NN (.ip (.il 1 (aV raw))):=.ip' (.il' (aT raw))
theorem r8(A:List Nd):NN (.ip (wk A)):=.ip' (g5 A)
theorem Dm{mem:aQ}{J:List (Nat × Nat)}{A:List Nd}{raw:List Int}(h:lk J 0=some 0):Cv mem J (VX A raw) (VX A raw):=
 .fn _ _ _ _ _ rfl rfl sq (g6.cons (.ptr 0 0 0 0 h) (.cons (.same _ (uL raw)) (.cons (.same _ (r8 A)) .nil))).2
theorem eM{mem:aQ}{J:List (Nat × Nat)}{q:List Int}{xs:List AV}{len rid rid':Nat}{rest:aQ}(s0:lk J 0=some 0)(sr:lk J rid=some rid')(m0:lk mem 0=some (.row 22 1 [.sl rid 0 len]))(hl:len=q.length)(mr:lk mem rid=some (.row 3 1 xs))(hx:xs=aV q)
  (hr:cO mem J rest):cO mem J (kU q rid' rest):=
 ⟨⟨0,_,s0,m0,.cons (.one rfl rfl (.slE sr hl)) .nil⟩,⟨rid,_,sr,mr,.eq (aT _) hx⟩,hr⟩
theorem Wv{A:List Nd}(h:VT A)(raw q:List Int){i:Nat}(hi:i<A.length)(hk:(aD A i).kind=1\/(aD A i).kind=2)(hq:q.length<=100000)(hr:raw.length<=17592186043904) :
  aJ prog [] 70 [.int .i64 i,.ptr 0 0 0,.ip (.il 1 (aV raw)),.ip (wk A)] (kU q 1 []) 2 λr m k=>r = .int .i64 (dK raw (aD A i) q.length)/\m=kU (q++[dK raw (aD A i) q.length]) 2 []/\k=3:=by
 have hx:=cG hi;have hg:=h.node hx;have hop:=h.opt hx hk;have ho:=Il (aD A i) (λ_=>hg.node.num);have hkl:=h.tin.klen _ (Y2 hx);have en:=q9 hi;have hob:fA (aD A i)<=1099511627776:=by
  unfold fA;split
  .have:=cQ hg.node.num;omega
  .omega
 have nx:=bH (aD A i);have hcm:=λhlt=>Kl (raw:=raw) (x:=aD A i) (q:=q.length) hop hlt
 have hcn:=λhlt=>Ib (raw:=raw) (x:=aD A i) (q:=q.length) hlt
 have lr:=aH raw;generalize aD A i=x at *;have lq:=aH q;have d1:decide ((q.length:Int)<((aV raw).length:Int))=decide (q.length<raw.length):=by rw[lr];exact Zp.2 om
 generalize dK raw x q.length=c at *;generalize fA x=o at *;refine aG bJ func70 rfl ?_;refine Z ?_;rw[d1];by_cases hlt:q.length<raw.length
 .have er:=qB hlt;have hcm:=hcm hlt;have eg:raw.getD q.length 0=raw[q.length]:=by rw[Yx,Yw hlt];rfl
  rw[eg] at hcm;generalize raw[q.length]=z at *;have hw:IntKind.i64.wrap (o-1)=o-1:=bS oq;rw[Y7 hlt];refine Rt ?_;repeat((first|refine aC er ?_|refine aC en ?_);refine Rt ?_)
  refine ho.go ?_ (.cons (.ip' nx) .nil) nn;refine Rt ?_;repeat((first|refine aC er ?_|refine aC en ?_);refine Rt ?_)
  have hif:(if IntKind.i64.wrap (o-1)<if 0>z then 0 else z then IntKind.i64.wrap (o-1) else if 0>z then 0 else z)=c:=by
   rw[hw,<-hcm];split<;>split<;>omega
  rw[hif];refine aO (cP rfl rfl (by rw[lq]) (by simp;omega)) ?_;refine Z ?_;exact bM (n':=3) (m':=kU (q++[c]) 2 []) [(0,0),(22,2)] rfl (eM (rid:=22) rfl rfl rfl sq rfl (by simp[aV]) trivial) (.same _ nn) ⟨rfl,rfl,rfl⟩
 .rw[ZN hlt,hcn hlt];refine Z ?_;refine aO (cP rfl rfl (by rw[lq]) (by simp;omega)) ?_;refine Z ?_;exact bM (n':=3) (m':=kU (q++[0]) 2 []) [(0,0),(3,2)] rfl (eM (rid:=3) rfl rfl rfl sq rfl (by simp[aV]) trivial) (.same _ nn) ⟨rfl,rfl,rfl⟩
def Oi(A:List Nd)(raw q:List Int)(f i:Nat)(want:Bool):AV->aQ->Nat->Prop:=λr m k=>∃v,r=bY v/\(want=true->v=(dW A raw f i q.length).val)/\m=kU (q++(dW A raw f i q.length).cs) 2 []/\k=3
def Qt(A:List Nd)(raw:List Int)(f:Nat):Prop:=∀(i:Nat) (q:List Int) (want:Bool),i<f->i<A.length->q.length+(dW A raw f i q.length).cs.length<=4096 ->
 aJ prog [] 69 [wk A,.int .i64 i,.bool want,VX A raw] (kU q 1 []) 2 (Oi A raw q f i want)
theorem PW{A:List Nd}(h:VT A)(raw q:List Int){i:Nat}(hi:i<A.length)(hk:(aD A i).kind=1\/(aD A i).kind=2)(hq:q.length<=100000)(hr:raw.length<=17592186043904){mem:aQ}{nx:Nat}{K:AV->aQ->Nat->Prop}
  (rid:Nat) (hp:kC [0,rid] mem=kU q rid []) (hc0:(kG (kU q 1 []) && (kV [(0,0),(rid,1)] && pU 2 [(0,0),(rid,1)]))=true) (hl:lk [(0,0),(rid,1)] 0=some 0) (hl2:lk [(0,0),(rid,1)] rid=some 1) (hm:lk (kU q rid []) rid=some (.row 3 1 (aV q)))
  (hc:∀q':List Int,(kG (kU q' nx []) && (kV [(0,0),(2,nx)] && (Nat.ble nx (nx+1) && (mG [0,rid] nx (kU q' nx []) && rL [(0,0),(rid,1)] 2 nx (nx+1) [(0,0),(2,nx)]))))=true)
  (hk2:K (.int .i64 (dK raw (aD A i) q.length)) (kU (q++[dK raw (aD A i) q.length]) nx []++gZ [0,rid] mem) (nx+1)) :
  aJ prog [] 70 [.int .i64 i,.ptr 0 0 0,.ip (.il 1 (aV raw)),.ip (wk A)] mem nx K:=by
 refine aJ.useN bJ [(0,0),(rid,1)] (Wv h raw q hi hk hq hr) hp (.s (.cons (.ptr 0 0 0 0 hl) (.cons (.same _ (uL raw)) (.cons (.same _ (r8 A)) .nil)))) (eM (rid:=rid) hl hl2 rfl rfl hm rfl trivial) hc0 ?_;rintro r m k ⟨rfl,rfl,rfl⟩;exact⟨[(0,0),(2,nx)],_,kU (q++[dK raw (aD A i) q.length]) nx [],nx+1,.same _ nn,eM (rid:=2) rfl rfl rfl rfl rfl rfl trivial,hc _,hk2⟩
theorem AY{A:List Nd}{raw:List Int}{f:Nat}(ih:Qt A raw f){q:List Int}{i:Nat}{want:Bool}(h1:i<f)(h2:i<A.length)(h3:q.length+(dW A raw f i q.length).cs.length<=4096){mem:aQ}{nx:Nat}{K:AV->aQ->Nat->Prop}
  (rid:Nat) (hp:kC [0,rid] mem=kU q rid []) (hc0:(kG (kU q 1 []) && (kV [(0,0),(rid,1)] && pU 2 [(0,0),(rid,1)]))=true) (hl:lk [(0,0),(rid,1)] 0=some 0) (hl2:lk [(0,0),(rid,1)] rid=some 1) (hm:lk (kU q rid []) rid=some (.row 3 1 (aV q)))
  (hc:∀q':List Int,(kG (kU q' nx []) && (kV [(0,0),(2,nx)] && (Nat.ble nx (nx+1) && (mG [0,rid] nx (kU q' nx []) && rL [(0,0),(rid,1)] 2 nx (nx+1) [(0,0),(2,nx)]))))=true)
  (hk2:∀v:bD,(want=true->v=(dW A raw f i q.length).val)->K (bY v) (kU (q++(dW A raw f i q.length).cs) nx []++gZ [0,rid] mem) (nx+1)) :
  aJ prog [] 69 [wk A,.int .i64 i,.bool want,VX A raw] mem nx K:=by
 refine aJ.useN bJ [(0,0),(rid,1)] (ih i q want h1 h2 h3) hp (.cons (.same _ (g5 A)) (.s (.s (.cons (Dm hl) .nil)))) (eM (rid:=rid) hl hl2 rfl rfl hm rfl trivial) hc0 ?_;rintro r m k ⟨v,rfl,hv,rfl,rfl⟩;exact⟨[(0,0),(2,nx)],_,kU (q++(dW A raw f i q.length).cs) nx [],nx+1,.same _ (bT v),eM (rid:=2) rfl rfl rfl rfl rfl rfl trivial,hc _,hk2 v hv⟩
def xO(n c:Int):Value:=.iface 215 (.agg #[.int .i64 n,.int .i64 c])
def Nq(a:Nat):aQ:=[(0,.row 3 1 [.int .i64 a])]
def RR(A:List Nd)(p:List Int)(i a0:Nat)(x:Value):Prop:=(p.length<=a0/\x=xO i 0)\/(a0<p.length/\(p.getD a0 0<0\/fA (aD A i)<=p.getD a0 0)/\x=xO (-1) 11)
theorem Sb{A:List Nd}(h:VT A){p:List Int}(hp:p.length<=1000000000){i a0:Nat}(hi:i<A.length)(ha:a0<=p.length) :
  bV prog [] 133 [.int .i64 i,.ptr 0 0 0,.ip (.il 1 (aV p)),.ip (.agg [.il 12 (bC A)])] (Nq a0) 1
   (λr m k=>a0<p.length/\0<=p.getD a0 0/\p.getD a0 0<fA (aD A i)/\r = .int .i64 (p.getD a0 0)/\m=Nq (a0+1)/\k=1)
   (λx m k=>RR A p i a0 x/\m=Nq a0/\k=1):=by
 have hx:=cG hi;have hg:=h.node hx;have ho:=Il (aD A i) (λ_=>hg.node.num);have en:=q9 hi;have nx:=bH (aD A i);have lp:=aH p;have hpe:a0<p.length->(aV p)[(a0:Int).toNat]? = some (.int .i64 (p.getD a0 0)):=λhq=>by
  rw[qB hq,Yx,Yw hq];rfl
 unfold RR;generalize fA (aD A i)=o at *;generalize aD A i=x at *;generalize p.getD a0 0=c at *;refine EG bJ func133 rfl ?_;refine Rq ?_;have d1:((a0:Int) == ((aV p).length:Int))=decide (a0=p.length):=by rw[lp];by_cases e:a0=p.length<;>simp[e];omega
 rw[d1];by_cases hq:a0=p.length
 .rw[Y7 hq];refine Rq ?_;exact bM (r':=.junk) (n':=1) (m':=Nq a0) [(0,0)] rfl ⟨aI 0 (.cons nn .nil),trivial⟩ (.junk _) ⟨.inl ⟨om,rfl⟩,rfl,rfl⟩
 .rw[ZN hq];have hpe:=hpe om;refine Rq ?_;repeat((first|refine aC hpe ?_|refine aC en ?_|refine dF.2 ?_|refine aY ?_);refine Rq ?_)
  by_cases hc0:c<0
  .rw[Y7 hc0];refine Rq ?_;exact bM (r':=.junk) (n':=1) (m':=Nq a0) [(0,0)] rfl ⟨aI 0 (.cons nn .nil),trivial⟩ (.junk _) ⟨.inr ⟨om,.inl hc0,rfl⟩,rfl,rfl⟩
  .rw[ZN hc0];refine Rq ?_;repeat((first|refine aC hpe ?_|refine aC en ?_|refine dF.2 ?_|refine aY ?_);refine Rq ?_)
   refine ho.goP ?_ (.cons (.ip' nx) .nil) nn;refine Rq ?_;have d2:decide (c≥o)=decide (o<=c):=Zp.2 om;rw[d2];by_cases hco:o<=c
   .rw[Y7 hco];refine Rq ?_;exact bM (r':=.junk) (n':=1) (m':=Nq a0) [(0,0)] rfl ⟨aI 0 (.cons nn .nil),trivial⟩ (.junk _) ⟨.inr ⟨om,.inr hco,rfl⟩,rfl,rfl⟩
   .rw[ZN hco];refine Rq ?_;exact bM (n':=1) (m':=Nq (a0+1)) [(0,0)] rfl ⟨⟨0,_,rfl,rfl,.cons (.one rfl rfl (.w64 om oq)) .nil⟩,trivial⟩ (.same _ nn) ⟨om,om,om,rfl,rfl,rfl⟩
def Va(rid n:Nat):AV:=.agg [.int .i64 0,.int .i64 0,.str [],.nsl,.int .i64 0,.sl rid 0 n,.int .i64 0]
def TM(A:List Nd)(p:List Int):AV:=.fn (.func 133) [] [.ptr 0 0 0,.ip (.il 1 (aV p)),.ip (.agg [.il 12 (bC A)])]
def GG(A:List Nd)(s:Bool):AV:=.fn (.func 134) [] [.ip (.agg [.il 12 (bC A)]),.ip (wk A),.ip (.bool s),.ip (.il 1 (kB (dG A))),.ptr 2 0 0,.ptr 3 0 0,.ptr 0 0 0,.ptr 1 0 0]
def xC(A:List Nd)(p:List Int)(s:Bool)(a:Nat)(L:List Sp)(rid:Nat)(rest:aQ):aQ:=
 (0,.row 3 1 [.int .i64 a])::(1,.row 112 7 [Va rid L.length])::(2,.row 101 1 [TM A p])::(3,.row 60 1 [GG A s])::(rid,.row 218 3 (jM L))::rest
theorem rV(A:List Nd):NN (.ip (.agg [.il 12 (bC A)])):=.ip' (.agg' (.cons (.il' (bA A)) .nil))
theorem F0(A:List Nd):NN (.ip (.il 1 (kB (dG A)))):=.ip' (.il' (iY _))
theorem Tp{mem:aQ}{J:List (Nat × Nat)}{A:List Nd}{p:List Int}(h:lk J 0=some 0):Cv mem J (TM A p) (TM A p):=
 .fn _ _ _ _ _ rfl rfl sq (g6.cons (.ptr 0 0 0 0 h) (.cons (.same _ (uL p)) (.cons (.same _ (rV A)) .nil))).2
theorem Uu{mem:aQ}{J:List (Nat × Nat)}{A:List Nd}{s:Bool}(h0:lk J 0=some 0)(h1:lk J 1=some 1)(h2:lk J 2=some 2)(h3:lk J 3=some 3):Cv mem J (GG A s) (GG A s):=
 .fn _ _ _ _ _ rfl rfl sq (g6.cons (.same _ (rV A)) (.cons (.same _ (r8 A)) (.s (.cons (.same _ (F0 A)) (.cons (.ptr 2 2 0 0 h2) (.cons (.ptr 3 3 0 0 h3) (.cons (.ptr 0 0 0 0 h0) (.cons (.ptr 1 1 0 0 h1) .nil)))))))).2
theorem fU{mem:aQ}{J:List (Nat × Nat)}{A:List Nd}{p:List Int}{s:Bool}{a:Nat}{av:Int}{L:List Sp}{len rid rid':Nat}{xs:List AV}{rest:aQ}(s0:lk J 0=some 0)(s1:lk J 1=some 1)(s2:lk J 2=some 2)(s3:lk J 3=some 3)(sr:lk J rid=some rid')
  (m0:lk mem 0=some (.row 3 1 [.int .i64 av])) (ha:av=(a:Int)) (m1:lk mem 1=some (.row 112 7 [Va rid len])) (hl:len=L.length) (m2:lk mem 2=some (.row 101 1 [TM A p])) (m3:lk mem 3=some (.row 60 1 [GG A s]))
  (mr:lk mem rid=some (.row 218 3 xs)) (hx:xs=jM L) (hr:cO mem J rest):cO mem J (xC A p s a L rid' rest):=
 ⟨⟨0,_,s0,m0,.cons (.one rfl rfl (.int ha)) .nil⟩,⟨1,_,s1,m1,.cons (.agg (.s (.s (.s (.s (.s (.cons (.slE sr hl) (.s .nil)))))))) .nil⟩,
  ⟨2,_,s2,m2,.cons (.one rfl rfl (Tp s0)) .nil⟩,⟨3,_,s3,m3,.cons (.one rfl rfl (Uu s0 s1 s2 s3)) .nil⟩,⟨rid,_,sr,mr,.eq (zD _) hx⟩,hr⟩
def DW(r:Ba)(x:Value):Prop:=(∃n:Nat,r.stop=(n:Int)/\x=xO n 0)\/(r.stop = -2/\x=xO (-1) 11)
def YK(A:List Nd)(p:List Int)(s:Bool)(r0:Ba)(a0:Nat)(L:List Sp):AV->aQ->Nat->Prop:=λr m k=>r0.stop = -1/\r=bY r0.val/\∃X:List Sp,X.length<=r0.spans.length/\(s=true->X=r0.spans)/\m=xC A p s (a0+r0.used) (L++X) 5 []/\k=6
def Yj(A:List Nd)(p:List Int)(s:Bool)(r0:Ba):Value->aQ->Nat->Prop:=λx m k=>DW r0 x/\∃(a:Nat) (L:List Sp),m=xC A p s a L 5 []/\k=6
def Wt(A:List Nd)(p:List Int)(s:Bool)(f:Nat):Prop:=∀(i a0:Nat) (L:List Sp),i<f->i<A.length->a0<=p.length->L.length+(bG A p f i a0).spans.length<=4294967296 ->
 bV prog [] 134 [.int .i64 i,.ip (.agg [.il 12 (bC A)]),.ip (wk A),.ip (.bool s),.ip (.il 1 (kB (dG A))),.ptr 2 0 0,.ptr 3 0 0,.ptr 0 0 0,.ptr 1 0 0] (xC A p s a0 L 4 []) 5
  (YK A p s (bG A p f i a0) a0 L) (Yj A p s (bG A p f i a0))
theorem Ui{A:List Nd}(h:VT A){p:List Int}(hp:p.length<=1000000000){s:Bool}{i a0:Nat}(hi:i<A.length)(ha:a0<=p.length){mem rest:aQ}{nx:Nat}{K:AV->aQ->Nat->Prop}{Kp:Value->aQ->Nat->Prop}
  (hm:kC [0] mem=Nq a0) (hd:gZ [0] mem=rest)
  (hk:a0<p.length->0<=p.getD a0 0->p.getD a0 0<fA (aD A i)->K (.int .i64 (p.getD a0 0)) ((0,.row 3 1 [.int .i64 ((a0+1:Nat):Int)])::rest) nx)
  (hkp:∀x,RR A p i a0 x->Kp x ((0,.row 3 1 [.int .i64 ((a0:Nat):Int)])::rest) nx)
  (hc:(kG (Nq a0) && (kV [(0,0)] && (Nat.ble nx nx && (mG [0] nx (Nq a0) && rL [(0,0)] 1 nx nx [(0,0)]))))=true) :
  bV prog [] 133 [.int .i64 i,.ptr 0 0 0,.ip (.il 1 (aV p)),.ip (.agg [.il 12 (bC A)])] mem nx K Kp:=by
 refine bV.useN bJ [(0,0)] (Sb h hp hi ha) hm (.s (.cons (.ptr 0 0 0 0 rfl) (.cons (.same _ (uL p)) (.cons (.same _ (rV A)) .nil)))) ⟨aI 0 (.cons nn .nil),trivial⟩ rfl ?_ ?_
 .rintro r m k ⟨h1,h2,h3,rfl,rfl,rfl⟩;refine⟨[(0,0)],_,Nq (a0+1),nx,.same _ nn,⟨aI 0 (.cons nn .nil),trivial⟩,hc, ?_⟩;rw[show iN [(0,0)]=[0] from rfl,hd];exact hk h1 h2 h3
 .rintro x m k ⟨h1,rfl,rfl⟩;refine⟨[(0,0)],Nq a0,nx,⟨aI 0 (.cons nn .nil),trivial⟩,hc, ?_⟩;rw[show iN [(0,0)]=[0] from rfl,hd];exact hkp x h1
theorem K6{A:List Nd}{p:List Int}{s:Bool}{f:Nat}(ih:Wt A p s f){i a0:Nat}{L:List Sp}(h1:i<f)(h2:i<A.length)(h3:a0<=p.length)(h4:L.length+(bG A p f i a0).spans.length<=4294967296){mem rest:aQ}{nx:Nat}{K:AV->aQ->Nat->Prop}{Kp:Value->aQ->Nat->Prop}
  (rid:Nat) (hp:kC [0,1,2,3,rid] mem=xC A p s a0 L rid []) (hd:gZ [0,1,2,3,rid] mem=rest)
  (hc0:(kG (xC A p s a0 L 4 []) && (kV [(0,0),(1,1),(2,2),(3,3),(rid,4)] && pU 5 [(0,0),(1,1),(2,2),(3,3),(rid,4)]))=true)
  (l0:lk [(0,0),(1,1),(2,2),(3,3),(rid,4)] rid=some 4) (hm:lk (xC A p s a0 L rid []) rid=some (.row 218 3 (jM L)))
  (hc:∀(a:Nat) (L':List Sp),(kG (xC A p s a L' nx []) && (kV [(0,0),(1,1),(2,2),(3,3),(5,nx)] && (Nat.ble nx (nx+1) && (mG [0,1,2,3,rid] nx (xC A p s a L' nx []) && rL [(0,0),(1,1),(2,2),(3,3),(rid,4)] 5 nx (nx+1) [(0,0),(1,1),(2,2),(3,3),(5,nx)]))))=true)
  (hk:(bG A p f i a0).stop = -1->∀X:List Sp,X.length<=(bG A p f i a0).spans.length->(s=true->X=(bG A p f i a0).spans)->K (bY (bG A p f i a0).val) (xC A p s (a0+(bG A p f i a0).used) (L++X) nx []++rest) (nx+1))
  (hkp:∀x,DW (bG A p f i a0) x->∀(a:Nat) (L':List Sp),Kp x (xC A p s a L' nx []++rest) (nx+1)) :
  bV prog [] 134 [.int .i64 i,.ip (.agg [.il 12 (bC A)]),.ip (wk A),.ip (.bool s),.ip (.il 1 (kB (dG A))),.ptr 2 0 0,.ptr 3 0 0,.ptr 0 0 0,.ptr 1 0 0] mem nx K Kp:=by
 refine bV.useN bJ [(0,0),(1,1),(2,2),(3,3),(rid,4)] (ih i a0 L h1 h2 h3 h4) hp (.s (.cons (.same _ (rV A)) (.cons (.same _ (r8 A)) (.s (.cons (.same _ (F0 A)) (.cons (.ptr 2 2 0 0 rfl) (.cons (.ptr 3 3 0 0 rfl) (.cons (.ptr 0 0 0 0 rfl) (.cons (.ptr 1 1 0 0 rfl) .nil)))))))))
  (fU (rid:=rid) rfl rfl rfl rfl l0 rfl rfl rfl rfl rfl rfl hm rfl trivial) hc0 ?_ ?_
 .rintro r m k ⟨e1,rfl,X,hX,hXs,rfl,rfl⟩;refine⟨[(0,0),(1,1),(2,2),(3,3),(5,nx)],_,xC A p s (a0+(bG A p f i a0).used) (L++X) nx [],nx+1,.same _ (bT _),fU (rid:=5) rfl rfl rfl rfl rfl rfl rfl rfl rfl rfl rfl rfl rfl trivial,hc _ _, ?_⟩;rw[show iN [(0,0),(1,1),(2,2),(3,3),(rid,4)]=[0,1,2,3,rid] from rfl,hd];exact hk e1 X hX hXs
 .rintro x m k ⟨e1,a,L',rfl,rfl⟩;refine⟨[(0,0),(1,1),(2,2),(3,3),(5,nx)],xC A p s a L' nx [],nx+1,fU (rid:=5) rfl rfl rfl rfl rfl rfl rfl rfl rfl rfl rfl rfl rfl trivial,hc _ _, ?_⟩;rw[show iN [(0,0),(1,1),(2,2),(3,3),(rid,4)]=[0,1,2,3,rid] from rfl,hd];exact hkp x e1 a L'
theorem Ry{A:List Nd}{p:List Int}{s:Bool}{f:Nat}(ih:Wt A p s f){i a0:Nat}{L:List Sp}(h1:i<f)(h2:i<A.length)(h3:a0<=p.length)(h4:L.length+(bG A p f i a0).spans.length<=4294967296){mem m1 rest:aQ}{nx:Nat}{K:AV->aQ->Nat->Prop}{Kp:Value->aQ->Nat->Prop}
  (rid:Nat) (hp:kC [0,1,2,3,rid] mem=m1) (hM:cO m1 [(0,0),(1,1),(2,2),(3,3),(rid,4)] (xC A p s a0 L 4 [])) (hd:gZ [0,1,2,3,rid] mem=rest)
  (hc0:(kG (xC A p s a0 L 4 []) && (kV [(0,0),(1,1),(2,2),(3,3),(rid,4)] && pU 5 [(0,0),(1,1),(2,2),(3,3),(rid,4)]))=true)
  (hc:∀(a:Nat) (L':List Sp),(kG (xC A p s a L' nx []) && (kV [(0,0),(1,1),(2,2),(3,3),(5,nx)] && (Nat.ble nx (nx+1) && (mG [0,1,2,3,rid] nx (xC A p s a L' nx []) && rL [(0,0),(1,1),(2,2),(3,3),(rid,4)] 5 nx (nx+1) [(0,0),(1,1),(2,2),(3,3),(5,nx)]))))=true)
  (hk:(bG A p f i a0).stop = -1->∀X:List Sp,X.length<=(bG A p f i a0).spans.length->(s=true->X=(bG A p f i a0).spans)->K (bY (bG A p f i a0).val) (xC A p s (a0+(bG A p f i a0).used) (L++X) nx []++rest) (nx+1))
  (hkp:∀x,DW (bG A p f i a0) x->∀(a:Nat) (L':List Sp),Kp x (xC A p s a L' nx []++rest) (nx+1)) :
  bV prog [] 134 [.int .i64 i,.ip (.agg [.il 12 (bC A)]),.ip (wk A),.ip (.bool s),.ip (.il 1 (kB (dG A))),.ptr 2 0 0,.ptr 3 0 0,.ptr 0 0 0,.ptr 1 0 0] mem nx K Kp:=by
 refine bV.useN bJ [(0,0),(1,1),(2,2),(3,3),(rid,4)] (ih i a0 L h1 h2 h3 h4) hp (.s (.cons (.same _ (rV A)) (.cons (.same _ (r8 A)) (.s (.cons (.same _ (F0 A)) (.cons (.ptr 2 2 0 0 rfl) (.cons (.ptr 3 3 0 0 rfl) (.cons (.ptr 0 0 0 0 rfl) (.cons (.ptr 1 1 0 0 rfl) .nil)))))))))
  hM hc0 ?_ ?_
 .rintro r m k ⟨e1,rfl,X,hX,hXs,rfl,rfl⟩;refine⟨[(0,0),(1,1),(2,2),(3,3),(5,nx)],_,xC A p s (a0+(bG A p f i a0).used) (L++X) nx [],nx+1,.same _ (bT _),fU (rid:=5) rfl rfl rfl rfl rfl rfl rfl rfl rfl rfl rfl rfl rfl trivial,hc _ _, ?_⟩;rw[show iN [(0,0),(1,1),(2,2),(3,3),(rid,4)]=[0,1,2,3,rid] from rfl,hd];exact hk e1 X hX hXs
 .rintro x m k ⟨e1,a,L',rfl,rfl⟩;refine⟨[(0,0),(1,1),(2,2),(3,3),(5,nx)],xC A p s a L' nx [],nx+1,fU (rid:=5) rfl rfl rfl rfl rfl rfl rfl rfl rfl rfl rfl rfl rfl trivial,hc _ _, ?_⟩;rw[show iN [(0,0),(1,1),(2,2),(3,3),(rid,4)]=[0,1,2,3,rid] from rfl,hd];exact hkp x e1 a L'
theorem Ky{A:List Nd}(hv:cR A=0){i:Nat}{x:Nd}(hx:A[i]? = some x)(h:x.kind=0\/x.kind=1):x.kids=[]:=by
 refine ZB ?_;have hv0:cH [] A=0:=by
  unfold cR at hv;split at hv
  .omega
  .exact hv
 have hf:=iU (nK A hv0 i x hx);unfold dL jF at hf;simp only[Y1,Z0,ZR] at hf;have:=hf.1.1.1.1.1.1.2;omega
theorem OJ{mem:aQ}{id i sz sz':Nat}{t:TypeId}{xs:List AV}{x:AV}(h:lk mem id=some (.row t sz' xs))(hx:xs[i]? = some x)(hc:Nat.beq x.cells.length sz=false):xS mem id i 0 sz=false:=by
 unfold xS;simp only[h,hx,hc]
theorem wP{A:List Nd}{p:List Int}{s:Bool}{r0:Ba}{x:Value}{mem:aQ}{n:Nat}{a:Nat}{av:Int}{L:List Sp}{len rid:Nat}{xs:List AV}(hw:DW r0 x)
  (m0:lk mem 0=some (.row 3 1 [.int .i64 av])) (ha:av=(a:Int)) (m1:lk mem 1=some (.row 112 7 [Va rid len])) (hl:len=L.length) (m2:lk mem 2=some (.row 101 1 [TM A p])) (m3:lk mem 3=some (.row 60 1 [GG A s]))
  (mr:lk mem rid=some (.row 218 3 xs)) (hx:xs=jM L) (l:(kV [(0,0),(1,1),(2,2),(3,3),(rid,5)] && (kG (xC A p s a L 5 []) && (Af 5 6 [(0,0),(1,1),(2,2),(3,3),(rid,5)] && Nat.ble 5 6)))=true) (l0:lk [(0,0),(1,1),(2,2),(3,3),(rid,5)] rid=some 5) :
  kH 5 (λ_ m n=>Yj A p s r0 x m n) .junk mem n:=
 bM (r':=.junk) (n':=6) (m':=xC A p s a L 5 []) [(0,0),(1,1),(2,2),(3,3),(rid,5)] l (fU (rid:=rid) rfl rfl rfl rfl l0 m0 ha m1 hl m2 m3 mr hx trivial) (.junk _) ⟨hw,a,L,rfl,rfl⟩
theorem Sd{A:List Nd}(h:VT A){p:List Int}(hp:p.length<=1000000000)(s:Bool)(f:Nat)(ih:Wt A p s f):Wt A p s (f+1):=by
 intro i a0 L hif hi ha hC;have hx:=cG hi;have hg:=h.node hx;have hkm:=λ(k:Int) (hk:k∈(aD A i).kids)=>eP h hx hk
 have hkI:=λ(c:Int) (h0:0<=c) (h1:c<(aD A i).kids.length)=>h.kidI hx h0 h1
 have hbi:=λh4=>h.bind hx h4
 have hf0:=λh0=>Cq h p (f+1) i a0 hif hi h0
 have hCh:=Id hi;have hFi:=Tm hi;have hne:=q9 hi;have hch:=λ(mem rest:aQ) (nx:Nat) (K:AV->aQ->Nat->Prop) (Kp:Value->aQ->Nat->Prop)=>Ui h hp (s:=s) hi ha (mem:=mem) (rest:=rest) (nx:=nx) (K:=K) (Kp:=Kp)
 have hln:=h.len hx;have hpl:=h.pln hx;have hnn:=bH (aD A i);have hkl:=h.tin.klen _ (Y2 hx);have hfv:=λ(v:bD)=>TW (aD A i) v (by have:=h.tin.vlen _ (Y2 hx);omega) hg.val hg.srt
 have hmd:=λ(ks:List bD)=>LK (aD A i) ks
 have hmem:=λ(k a:Nat) (hk:k<i)=>mH h p f k a om om
 have hbd:∀(k q:Nat),q<=p.length->q+(bG A p f k q).used<=p.length:=λk q hq=>(GS (A:=A) p f k q hq).1
 have hkind:=hg.node.kind;have hnum:=λ(e:(aD A i).kind=1)=>cQ hg.node.num
 have hsrt:=hg.srt;have hl0:=(h.lens0 (i:Int)).1;have hk0:(aD A i).kind=0->(aD A i).kids=[]:=λe=>Ky h.val hx (.inl e)
 have hon:fA (aD A i)=if (aD A i).kind=1 then(aD A i).hi-(aD A i).lo+1 else(aD A i).kids.length:=rfl
 have hpe:(kB (dG A))[((i:Nat):Int).toNat]? = some (.bool (Ns (dG A) i)):=by
  have hl:i<(dG A).length:=by rw[jR];exact hi
  rw[Yy,v8,Yw hl];unfold Ns;rw[Yx,Yw hl];rfl
 have hwc:∀x,RR A p i a0 x->((p.length<=a0/\x=xO i 0)\/(a0<p.length/\(p.getD a0 0<0\/fA (aD A i)<=p.getD a0 0)/\x=xO (-1) 11)):=λx hx=>hx
 obtain⟨F,hF⟩:∃F,F=bG A p (f+1) i a0:=⟨_,rfl⟩
 rw[<-hF] at hC hf0 |-;simp only[bG] at hF;have hp0:Ns (dG A) i=Ak (a8 A) (dG A) (aD A i):=hpl;have hpN:Ak (a8 A) (dG A) (aD A i)=(decide (fN (a8 A) (aD A i)<=0) && (decide ((aD A i).kind≠3) || decide ((aD A i).kids.length=0)) && (aD A i).kids.all λk=>(dG A).getD k.toNat false):=rfl;rw[hpN,<-hln] at hp0;have hlk0:(aD A i).kind=0->eJ (a8 A) i=0:=λe=>by rw[hln];unfold fN;rw[Y4 e]
 generalize Ns (dG A) i=pb at *;generalize eJ (a8 A) i=ln at *;generalize fA (aD A i)=o at *;clear hln hpl hpN hg hx;generalize aD A i=x at *;obtain⟨kind,name,lo,hi',ws,lbs,vals,kids,⟨vk,vn,vs,vks⟩⟩:=x;simp only at hkm hkI hbi hkl hF hfv hmd hkind hnum hsrt hk0 hon hp0 hlk0;refine EG bJ func134 rfl ?_;refine Rq ?_;repeat((first|refine aC hne ?_|refine dF.2 ?_|refine aY ?_);refine Rq ?_)
 refine hCh.goP ?_ (.cons (g5 A) (.cons nn .nil)) nn;refine Rq ?_;by_cases hl:ln=0
 rotate_left
 rw[show (ln == 0)=false by simpa using hl];refine Rq ?_;have k0:kind≠0:=λe=>hl (hlk0 e)
 rotate_left
 subst hl;have hf0:=hf0 rfl;refine Rq ?_;refine aL (λhs=>?_) (λhs=>?_)
 .have hs':=hs;generalize EL (cZ A) i=v at *;have hvn:=bT v;obtain⟨v1,v2,v3,v4⟩:=v;obtain⟨e1,e2,e3,e4⟩:=hf0;rw[hs'];refine Rq ?_;refine hFi.goP ?_ (.cons (g5 A) (.cons nn .nil)) hvn;refine Rq ?_;exact bM (n':=6) (m':=xC A p s (a0+F.used) (L++[]) 5 []) [(0,0),(1,1),(2,2),(3,3),(4,5)] rfl (fU (rid:=4) rfl rfl rfl rfl rfl rfl (by rw[e2];rfl) rfl sq rfl rfl rfl sq trivial) (.same _ hvn) ⟨e3,by rw[e1];rfl,[],aAp _,(λe=>by simp[e] at hs),rfl,rfl⟩
 have hs':=hs;have hs:s=true:=su hs
 have hpe2:=hpe;cases pb
 rotate_left
 .generalize EL (cZ A) i=v at *;have hvn:=bT v;obtain⟨v1,v2,v3,v4⟩:=v;obtain⟨e1,e2,e3,e4⟩:=hf0;rw[hs'];refine Rq ?_;repeat((first|refine aC hpe ?_|refine dF.2 ?_|refine aY ?_);refine Rq ?_)
  refine hFi.goP ?_ (.cons (g5 A) (.cons nn .nil)) hvn;refine Rq ?_;exact bM (n':=6) (m':=xC A p s (a0+F.used) (L++[]) 5 []) [(0,0),(1,1),(2,2),(3,3),(4,5)] rfl (fU (rid:=4) rfl rfl rfl rfl rfl rfl (by rw[e2];rfl) rfl sq rfl rfl rfl sq trivial) (.same _ hvn) ⟨e3,by rw[e1];rfl,[],aAp _,(λ_=>(e4 rfl).symm),rfl,rfl⟩
 rotate_left
 have k0:kind≠0:=λe=>by
  rw[hk0 e,e] at hp0;simp at hp0
 rw[hs'];refine Rq ?_;repeat((first|refine aC hpe ?_|refine dF.2 ?_|refine aY ?_);refine Rq ?_)
 all_goals
  by_cases k1:kind=1
  .subst k1;rw[Yz k0,Yz om,Yz om] at hF;rw[Y4 rfl] at hon;have hn:=hnum rfl;refine Rq ?_;repeat((first|refine dF.2 ?_|refine aY ?_);refine Rq ?_)
   refine hch _ _ _ _ _ rfl rfl (λc1 c2 c3=>?_) (λx hx=>?_) rfl
   .have hw:IntKind.i64.wrap (lo+p.getD a0 0)=lo+p.getD a0 0:=bS ⟨by have:=hn.1;omega,om⟩;rw[Yz om,Yz om,Y4 rfl] at hF;generalize p.getD a0 0=c at *;refine Rq ?_;repeat((first|refine dF.2 ?_|refine aY ?_);refine Rq ?_)
    rw[hw];have hus:F.used=1:=by rw[hF]
    exact bM (n':=6) (m':=xC A p s (a0+F.used) (L++[]) 5 []) [(0,0),(1,1),(2,2),(3,3),(4,5)] rfl (fU (rid:=4) rfl rfl rfl rfl rfl rfl (by rw[hus]) rfl sq rfl rfl rfl sq trivial) (.agg' (.s (.s (.s (.cons (.nil 4) .nil))))) ⟨by rw[hF],by rw[hF];rfl,[],aAp _,λ_=>by rw[hF],rfl,rfl⟩
   .have hws:DW F x:=by
     rcases hwc x hx with⟨q1,q2⟩|⟨q1,q2,q3⟩
     .rw[Y4 q1] at hF;exact .inl ⟨i,by rw[hF],q2⟩
     .rw[Yz om,Y4 q2] at hF;exact .inr ⟨by rw[hF],q3⟩
    refine Rq ?_;exact wP (rid:=4) hws rfl rfl rfl rfl rfl rfl rfl rfl rfl rfl
  .rw[Yz k1] at hon;rw[show (kind == 1)=false by simpa using k1];refine Rq ?_;by_cases k2:kind=2
   .subst k2;rw[Yz k0,Yz om,Yz om] at hF;refine Rq ?_;repeat((first|refine dF.2 ?_|refine aY ?_);refine Rq ?_)
    refine hch _ _ _ _ _ rfl rfl (λc1 c2 c3=>?_) (λx hx=>?_) rfl
    .rw[Yz om,Yz om,Yz k1] at hF;obtain⟨d1,d2,d3⟩:=hkI (p.getD a0 0) c2 om;generalize p.getD a0 0=c at *;generalize bF ⟨2,name,lo,hi',ws,lbs,vals,kids,.mk vk vn vs vks⟩ c=q1 at *;have e1:(aV kids)[c.toNat]? = some (.int .i64 (q1:Int)):=by rw[bK,d3];rfl
     have hC1:L.length+(bG A p f q1 (a0+1)).spans.length<=4294967296:=by rw[hF] at hC;exact hC
     refine Rq ?_;repeat((first|refine aC e1 ?_|refine dF.2 ?_|refine aY ?_);refine Rq ?_)
     rw[Y7 (show 0<=c by omega)];refine Rq ?_;repeat((first|refine aC e1 ?_|refine dF.2 ?_|refine aY ?_);refine Rq ?_)
     refine K6 ih (L:=L) om om om hC1 4 rfl rfl rfl rfl rfl (λ_ _=>rfl) (λf1 X hX hXs=>?_) (λx hx a L'=>?_)
     .generalize bG A p f q1 (a0+1)=R1 at *;obtain⟨⟨u1,u2,u3,u4⟩,ru,rst,rsp⟩:=R1;simp only at hF f1 hX hXs |-;refine Rq ?_;repeat((first|refine aC e1 ?_|refine dF.2 ?_|refine aY ?_);refine Rq ?_)
      have hus:F.used=ru+1:=by rw[hF]
      have hss:F.spans=rsp:=by rw[hF]
      exact bM (n':=6) (m':=xC A p s (a0+F.used) (L++X) 5 []) [(0,0),(1,1),(2,2),(3,3),(18,5)] rfl (fU (rid:=18) rfl rfl rfl rfl rfl rfl (by rw[hus];omega) rfl rfl rfl rfl rfl rfl trivial) (.same _ (.agg' (.cons nn (.cons nn (.cons nn (.cons (.il' (aW _)) .nil)))))) ⟨by rw[hF];exact f1,by rw[hF];rfl,X,by rw[hss];exact hX,λe=>by rw[hss];first|exact hXs e|exact hXs trivial,rfl,rfl⟩
     .have hws:DW F x:=by rw[hF];exact hx
      refine Rq ?_;exact wP (rid:=18) hws rfl rfl rfl rfl rfl rfl rfl rfl rfl rfl
    .have hws:DW F x:=by
      rcases hwc x hx with⟨q1,q2⟩|⟨q1,q2,q3⟩
      .rw[Y4 q1] at hF;exact .inl ⟨i,by rw[hF],q2⟩
      .rw[Yz om,Y4 q2] at hF;exact .inr ⟨by rw[hF],q3⟩
     refine Rq ?_;exact wP (rid:=4) hws rfl rfl rfl rfl rfl rfl rfl rfl rfl rfl
   .rw[show (kind == 2)=false by simpa using k2];refine Rq ?_;by_cases k4:kind=4
    .subst k4;rw[Yz k0,Yz om,Y4 rfl] at hF;have hb4:=(hbi rfl).1;have hb5:=(hbi rfl).2.1;obtain⟨c1,c2,c3⟩:=hkI 0 om om;generalize hq0:bF ⟨4,name,lo,hi',ws,lbs,vals,kids,.mk vk vn vs vks⟩ 0=q0 at *;have e0:(aV kids)[(0:Int).toNat]? = some (.int .i64 (q0:Int)):=by rw[bK,c3];rfl
     have hme:=λhs=>(hmem q0 a0 c1 hs).2 (hbi rfl).2.2.1
     rw[(hbi rfl).2.2.2] at hme;have hbd0:=hbd q0 a0 ha;have hC0:L.length+(bG A p f q0 a0).spans.length<=4294967296:=by
      rw[hF] at hC;split at hC
      .simp only[ZA] at hC;omega
      .exact hC
     refine Rq ?_;repeat((first|refine aC e0 ?_|refine dF.2 ?_|refine aY ?_);refine Rq ?_)
     refine K6 ih (L:=L) om om ha hC0 4 rfl rfl rfl rfl rfl (λ_ _=>rfl) (λf1 X hX hXs=>?_) (λx hx a L'=>?_)
     .have hme:=hme f1;rw[Y4 f1] at hF;generalize bG A p f q0 a0=R0 at *;obtain⟨v,u,st,sp⟩:=R0;simp only at hF f1 hX hXs hme hbd0 |-;obtain⟨w,fq,w1,w2⟩:=mY hsrt hme;have hfv1:=hfv v;have hvn:=bT v;rw[fq] at hF hfv1;simp only at hF hfv1;obtain⟨d1,d2,d3⟩:=hkI ((w+1:Nat):Int) om om;generalize bF ⟨4,name,lo,hi',ws,lbs,vals,kids,.mk vk vn vs vks⟩ ((w+1:Nat):Int)=q1 at *;have e1:(aV kids)[((w+1:Nat):Int).toNat]? = some (.int .i64 (q1:Int)):=by rw[bK,d3];rfl
      have hC1:(L++X).length+(bG A p f q1 (a0+u)).spans.length<=4294967296:=by
       rw[hF] at hC;simp only[ZA] at hC |-;omega
      obtain⟨v1,v2,v3,v4⟩:=v;refine Rq ?_;repeat((first|refine aC e0 ?_|refine dF.2 ?_|refine aY ?_);refine Rq ?_)
      refine hfv1.goP ?_ (.cons (.ip' hnn) (.cons hvn .nil)) nn;refine Rq ?_;repeat((first|refine aC e0 ?_|refine aC e1 ?_|refine dF.2 ?_|refine aY ?_);refine Rq ?_)
      refine K6 ih (L:=L++X) om om hbd0 hC1 25 rfl rfl rfl rfl rfl (λ_ _=>rfl) (λf2 Y hY hYs=>?_) (λx hx a L'=>?_)
      .have hwu:(u:Int)+0=u:=om;generalize bG A p f q1 (a0+u)=R1 at *;obtain⟨⟨u1,u2,u3,u4⟩,ru,rst,rsp⟩:=R1;simp only at hF f2 hY hYs |-;refine Rq ?_;repeat((first|refine aC e0 ?_|refine aC e1 ?_|refine dF.2 ?_|refine aY ?_);refine Rq ?_)
       have hus:F.used=u+ru:=by rw[hF]
       have hss:F.spans=sp++rsp:=by rw[hF]
       exact bM (n':=6) (m':=xC A p s (a0+F.used) (L++(X++Y)) 5 []) [(0,0),(1,1),(2,2),(3,3),(26,5)] rfl (fU (rid:=26) rfl rfl rfl rfl rfl rfl (by rw[hus];omega) rfl sq rfl rfl rfl sq trivial) (.same _ (.agg' (.cons nn (.cons nn (.cons nn (.cons (.il' (aW _)) .nil)))))) ⟨by rw[hF];exact f2,by rw[hF];rfl,X++Y,by rw[hss,ZA,ZA];omega,λe=>by rw[hss];first|rw[hXs e,hYs e]|rw[hXs trivial,hYs trivial],rfl,rfl⟩
      .have hws:DW F x:=by rw[hF];exact hx
       refine Rq ?_;exact wP (rid:=26) hws rfl rfl rfl rfl rfl rfl rfl rfl rfl rfl
     .have hws:DW F x:=by
       rw[Yz (show ¬(bG A p f q0 a0).stop = -1 from λe=>by
        rcases hx with⟨n,h1,-⟩|⟨h1,-⟩<;>omega)] at hF
       rw[hF];exact hx
      refine Rq ?_;exact wP (rid:=25) hws rfl rfl rfl rfl rfl rfl rfl rfl rfl rfl
    .have k3:kind=3:=om;subst k3;rw[Yz k0,Y4 rfl] at hF;rw[show ((3:Int) == 4)=false by decide];have lkk:=aH kids;obtain⟨P,hP⟩:∃P:Nat->Pt,P=λj=>bO (λk q=>bG A p f k q) a0 (kids.take j) ⟨0,[],[],-1⟩:=⟨_,rfl⟩
     have hP0:P 0=⟨0,[],[],-1⟩:=by rw[hP];rfl
     have hPe:bO (λk q=>bG A p f k q) a0 kids ⟨0,[],[],-1⟩=P kids.length:=by rw[hP];simp
     have hPn:∀j (hj:j<kids.length),(P j).stop = -1->P (j+1)=S7 (λk q=>bG A p f k q) a0 kids[j] (P j):=λj hj hs=>by
      rw[hP] at hs |-;exact uV hj rfl hs
     have hPs:∀j (hj:j<kids.length),(P j).stop = -1->(P (j+1)).stop≠-1->P kids.length=P (j+1):=λj hj hs hs2=>by
      rw[<-hPe];rw[hP] at hs hs2 |-;exact DK hj rfl hs hs2
     have hPl:∀j (hj:j<kids.length),(P j).stop = -1->(P j).spans.length+1+(bG A p f kids[j].toNat (a0+(P j).used)).spans.length<=F.spans.length:=λj hj hs=>by
      rw[hF];simp only[I9];rw[hP] at hs |-;exact K8 (rd:=λk q=>bG A p f k q) hj rfl hs
     rw[hPe] at hF;have hFst:F.stop=(P kids.length).stop:=by rw[hF];rfl
     have hFus:F.used=(P kids.length).used:=by rw[hF];rfl
     have hFss:F.spans=(P kids.length).spans:=by rw[hF];rfl
     have hFv:(P kids.length).stop = -1->F.val=Go.Ax.d8 name (P kids.length).vals:=λe=>by rw[hF];simp only[I9];rw[Y4 e]
     clear hPe hP hF hbi hfv hmem hnum;refine Rq ?_;refine bI.ph 50 4 ?_;refine bI.at bJ (λz:Nat × List Sp=>z.1<=kids.length/\(P z.1).stop = -1/\a0+(P z.1).used<=p.length/\(P z.1).vals.length=z.1/\z.2.length<=(P z.1).spans.length/\(s=true->z.2=(P z.1).spans))
      (λz=>⟨[(6,.ptr 3 0 0),(7,.ptr 0 0 0),(8,.ptr 1 0 0),(10,.ptr 6 0 0),(11,.ip (cK ⟨3,name,lo,hi',ws,lbs,vals,kids,.mk vk vn vs vks⟩)),(12,.int .i64 a0),(13,.sl 7 0 (P z.1).vals.length),(90,.il 1 (aV kids)),(91,.int .i64 kids.length),(92,.int .i64 z.1)],
       xC A p s (a0+(P z.1).used) (L++z.2) 5 [(6,.row 50 4 [bY vZ]),(7,.row 50 4 (aR (P z.1).vals))],8,124⟩)
      (λz=>kids.length-z.1) (0,[]) [(0,0),(1,1),(2,2),(3,3),(4,5),(5,6),(6,7)] ⟨by simp only;omega,by rw[hP0],by rw[hP0];simp only;omega,by rw[hP0];rfl,sq,by rw[hP0];intro _;rfl⟩
      (aK _ rfl (fU (rid:=4) rfl rfl rfl rfl rfl rfl (by rw[hP0];simp) rfl sq rfl rfl rfl sq ⟨⟨5,_,rfl,rfl,.cons (xL 0 0 []) .nil⟩,⟨6,_,rfl,rfl,by rw[hP0];exact .nil⟩,trivial⟩)
       ⟨aN,aN,aN,aN,aP (.ip' hnn),aF,⟨_,rfl,by rw[hP0];exact .nslk 6 7 _ rfl rfl⟩,aP (.il' (aT _)),⟨_,rfl,.int (by rw[lkk])⟩,aF,trivial⟩) ?_
     rintro⟨j,Y⟩ ⟨hj,hst,hus,hvl,hYl,hYs⟩;simp only at hj hst hus hvl hYl hYs |-;have dj:decide ((j:Int)<(kids.length:Int))=decide (j<kids.length):=Zp.2 om;have ls:=Am (L++Y);have lv:=aB (P j).vals;by_cases hjl:j<kids.length
     .have hnx:=hPn j hjl hst;have hend:=hPs j hjl hst;have hln:=hPl j hjl hst;have ek:=qB hjl;obtain⟨m0,m1⟩:=hkm kids[j] (ZW hjl);generalize kids[j]=kz at *;obtain⟨k,rfl⟩:=ZD m0;simp only[Yy] at m1 hnx hln;unfold S7 at hnx;simp only[Yy] at hnx;have hb:=hbd k (a0+(P j).used) hus;generalize hpj:P j=pj at *;obtain⟨us,vls,sps,st⟩:=pj;simp only at hst hus hvl hnx hln hb ls lv hYl hYs |-;subst hst;have hC1:(L++Y++[(a0,a0+us,a0+us)]).length+(bG A p f k (a0+us)).spans.length<=4294967296:=by
       simp only[ZA,ZZ];omega
      refine Rq ?_;rw[dj,Y7 hjl];refine Rq ?_;repeat((first|refine aC ek ?_|refine dF.2 ?_|refine aY ?_);refine Rq ?_)
      refine aO (cP rfl rfl (by rw[ls]) (by simp;omega)) ?_;refine Rq ?_;have hse:jM (L++Y)++List.take 1 (List.drop 0 [AV.agg [.int .i64 (a0:Int),.int .i64 ((a0+us:Nat):Int),.int .i64 ((a0+us:Nat):Int)]])=jM (L++Y++[(a0,a0+us,a0+us)]):=by rw[v6 (L++Y)];rfl
      refine Ry ih (L:=L++Y++[(a0,a0+us,a0+us)]) om om hus hC1 9 rfl (fU (rid:=9) rfl rfl rfl rfl rfl rfl rfl rfl (by simp;omega) rfl rfl rfl hse trivial) rfl rfl (λ_ _=>rfl) (λf1 X hX hXs=>?_) (λx hx a L'=>?_)
      .generalize bG A p f k (a0+us)=R1 at *;obtain⟨⟨v1,v2,v3,v4⟩,ru,rst,rsp⟩:=R1;simp only at hnx f1 hX hXs hln hb |-;subst f1;refine Rq ?_;refine aO (cP rfl rfl (by rw[lv]) (by simp;omega)) ?_;refine Rq ?_;have gpl:Nat.blt (((L++Y).length:Nat):Int).toNat (L++Y++[(a0,a0+us,a0+us)]++X).length=true:=Y3 (by simp only[ZA,ZZ,Yy];omega);have epl:(jM (L++Y++[(a0,a0+us,a0+us)]++X))[0+(((L++Y).length:Nat):Int).toNat]? = some (.agg [.int .i64 (a0:Int),.int .i64 ((a0+us:Nat):Int),.int .i64 ((a0+us:Nat):Int)]):=by
        rw[ZP,Yy,Nf,ZK sq,ZM (Y8 _),aAe];rfl
       have hset:(jM (L++Y++[(a0,a0+us,a0+us)]++X)).set (0+(((L++Y).length:Nat):Int).toNat) (.agg [.int .i64 (a0:Int),.int .i64 ((a0+us:Nat):Int),.int .i64 ((a0+us+ru:Nat):Int)])=jM (L++(Y++(a0,a0+us,a0+us+ru)::X)):=by
        rw[ZP,Yy,v6,v6 (L++Y),List.append_assoc,Zw _ _ (by rw[ls];exact Y8 _),ls,aAe,<-List.append_assoc L,v6 (L++Y)];rfl
       repeat((first|refine aO gpl ?_|refine aC epl ?_|refine dF.2 ?_|refine aY ?_);refine Rq ?_)
       generalize hae:xS _ _ _ _ _=b;have hbf:b=false:=by rw[<-hae];exact OJ rfl epl rfl
       subst hbf;clear hae;refine Rq ?_;repeat((first|refine aO gpl ?_|refine aC epl ?_|refine dF.2 ?_|refine aY ?_);refine Rq ?_)
       have q1:(P (j+1)).used=us+ru:=by rw[hnx]
       have q2:(P (j+1)).spans=sps++(a0,a0+us,a0+us+ru)::rsp:=by rw[hnx]
       have q3:(P (j+1)).vals=vls++[.mk v1 v2 v3 v4]:=by rw[hnx]
       have q4:(P (j+1)).stop = -1:=by rw[hnx]
       exact .mk (j+1,Y++(a0,a0+us,a0+us+ru)::X) [(0,0),(1,1),(2,2),(3,3),(10,5),(6,6),(12,7)] ⟨by simp only;omega,q4,by simp only;rw[q1];omega,by simp only;rw[q3,ZA,ZZ];omega,by simp only;rw[q2];simp only[ZA,Zc];omega,λe=>by simp only;rw[q2];first|rw[hYs e,hXs e]|rw[hYs trivial,hXs trivial]⟩
        (aK _ rfl (fU (rid:=10) rfl rfl rfl rfl rfl rfl (by simp only;rw[q1];omega) rfl sq rfl rfl rfl hset ⟨aI 6 (.cons (bT _) .nil),⟨12,_,rfl,rfl,.eq (aW _) (by simp only;rw[q3,gY];rfl)⟩,trivial⟩)
         ⟨aN,aN,aN,aN,aP (.ip' hnn),aF,⟨_,rfl,.slE rfl (by simp only;rw[q3];simp)⟩,aP (.il' (aT _)),aF,⟨_,rfl,.wp⟩,trivial⟩) (by simp only;omega)
      .have hws:DW F x:=by
        have e:(P (j+1)).stop=(bG A p f k (a0+us)).stop:=by rw[hnx]
        have hne:(P (j+1)).stop≠-1:=by
         rw[e];rcases hx with⟨n,h1,-⟩|⟨h1,-⟩<;>omega
        unfold DW;rw[hFst,hend hne,e];exact hx
       refine Rq ?_;exact wP (rid:=10) hws rfl rfl rfl rfl rfl rfl rfl rfl rfl rfl
     .have hje:j=kids.length:=om;subst hje;have hFv:=hFv hst;have hm0:=hmd (P kids.length).vals;rw[<-hFv] at hm0;have hvn:=bT F.val;have hFe:YK A p s F a0 L=λr m k=>r=bY F.val/\∃X:List Sp,X.length<=(P kids.length).spans.length/\(s=true->X=(P kids.length).spans)/\m=xC A p s (a0+(P kids.length).used) (L++X) 5 []/\k=6:=by
       unfold YK;rw[hFst,hFus,hFss,hst]
       funext r m k
       simp
      rw[hFe];clear hFe hFv;generalize F.val=v at *;generalize P kids.length=pj at *;obtain⟨us,vls,sps,st⟩:=pj;simp only at hst hus hvl hYl hYs lv hm0 |-;obtain⟨v1,v2,v3,v4⟩:=v;refine Rq ?_;rw[dj,ZN hjl];refine Rq ?_;refine aJ.toP ?_;refine aJ.pre bJ [(0,0),(1,1),(2,2),(3,3),(5,5),(6,6)] (mem':=xC A p s (a0+us) (L++Y) 5 [(6,.row 50 4 [bY vZ])]) rfl (fU (rid:=5) rfl rfl rfl rfl rfl rfl rfl rfl rfl rfl rfl rfl rfl ⟨aI 6 (.cons (bT _) .nil),trivial⟩)
       (.cons (.same _ (.ip' hnn)) (.cons (.fz' (id:=7) (off:=0) (len:=vls.length) (xs:=aR vls) (ys:=aR vls) rfl rfl om (by rw[ZU,Y9 om]) (aW _)) .nil)) ?_
      refine hm0.go ?_ (.cons (.ip' hnn) (.cons (.il' (aW _)) .nil)) hvn;refine Rq ?_;exact bM (n':=6) (m':=xC A p s (a0+us) (L++Y) 5 []) [(0,0),(1,1),(2,2),(3,3),(5,5)] rfl (fU (rid:=5) rfl rfl rfl rfl rfl rfl rfl rfl rfl rfl rfl rfl rfl trivial) (.same _ hvn) ⟨rfl,Y,hYl,hYs,rfl,rfl⟩
theorem RI{A:List Nd}(h:VT A)(raw:List Int)(hr:raw.length<=17592186043904)(f:Nat)(ih:Qt A raw f):Qt A raw (f+1):=by
 intro i q want hif hi hC;have hx:=cG hi;have hg:=h.node hx;have hkm:=λ(k:Int) (hk:k∈(aD A i).kids)=>eP h hx hk
 have hkI:=λ(c:Int) (h0:0<=c) (h1:c<(aD A i).kids.length)=>h.kidI hx h0 h1
 have hbi:=λh4=>h.bind hx h4
 have hf0:=λh0=>Qj h raw (f:=f+1) (i:=i) (q:=q.length) hif hi h0
 have hle:=Ly hi;have hfe:=Ll hi;have hne:=q9 hi;have hch:=λhk (mem:aQ) (nx:Nat) (K:AV->aQ->Nat->Prop)=>PW h raw q hi hk om hr (mem:=mem) (nx:=nx) (K:=K)
 have hopt:=λhk=>h.opt hx hk
 have hl0:=(h.lens0 (i:Int)).1;have hl1:=λh0=>h.len0 hx h0
 have hln:=h.len hx;have hnn:=bH (aD A i);have hkl:=h.tin.klen _ (Y2 hx);have hfv:=λ(v:bD)=>TW (aD A i) v (by have:=h.tin.vlen _ (Y2 hx);omega) hg.val hg.srt
 have hmd:=λ(ks:List bD)=>LK (aD A i) ks
 have hfok:=λ(k:Nat) (q:Nat) (hk:k<i)=>Jn h raw (f:=f) (i:=k) (q:=q) om om
 have hcb:=λhk=>A7 (raw:=raw) (q:=q.length) (h.opt hx hk)
 have hkind:=hg.node.kind;have hnum:=λ(e:(aD A i).kind=1)=>cQ hg.node.num
 have hsrt:=hg.srt;refine aG bJ func69 rfl ?_;refine Z ?_;refine aC hle ?_;refine Z ?_;refine aL (λhb=>?_) (λhb=>?_)
 .have h0:eJ (a8 A) i=0:=su hb
  obtain⟨e1,e2⟩:=hf0 h0;have e3:Oi A raw q (f+1) i want=λr m k=>∃v,r=bY v/\(want=true->v=EL (cZ A) i)/\m=kU q 2 []/\k=3:=by
   unfold Oi;rw[e1,e2,aAi]
  rw[e3];have hvn:=bT (EL (cZ A) i);generalize EL (cZ A) i=v at *;obtain⟨v1,v2,v3,v4⟩:=v;refine Z ?_;refine aC hfe ?_;refine Z ?_;exact bM (n':=3) (m':=kU q 2 []) [(0,0),(1,2)] rfl (eM (rid:=1) rfl rfl rfl rfl rfl rfl trivial) (.same _ hvn) ⟨_,rfl,λ_=>rfl,rfl,rfl⟩
 .have h0:¬eJ (a8 A) i=0:=su hb
  rw[hln] at h0;unfold Oi;obtain⟨F,hF⟩:∃F,F=dW A raw (f+1) i q.length:=⟨_,rfl⟩
  rw[<-hF] at hC |-;simp only[dW] at hF;clear hf0 hfe hle hl1 hg hx;have hk0:(aD A i).kind≠0:=λe=>h0 (by unfold fN;rw[Y4 e])
  rw[Yz hk0] at hF;clear h0 hln;generalize aD A i=x at *;obtain⟨kind,name,lo,hi',ws,lbs,vals,kids,⟨vk,vn,vs,vks⟩⟩:=x;simp only at hkm hkI hbi hkl hF hfv hmd hkind hnum hsrt hk0 hch hcb;refine Z ?_;refine aC hne ?_;refine Z ?_;by_cases k1:kind=1
  .subst k1;simp only[fA] at hcb;rw[Yz om,Yz om,Y4 rfl] at hF;have hb1:=hcb sq;have hnm:=hnum rfl;simp only[if_true] at hb1;refine Rt ?_;refine hch (.inl rfl) _ _ _ 1 rfl rfl rfl rfl rfl (λ_=>rfl) ?_;generalize dK raw ⟨1,name,lo,hi',ws,lbs,vals,kids,.mk vk vn vs vks⟩ q.length=c at *;have hw:IntKind.i64.wrap (lo+c)=lo+c:=bS oq;rw[hF];refine Rt ?_;exact bM (n':=3) (m':=kU (q++[c]) 2 []) [(0,0),(13,2)] rfl (eM (rid:=13) rfl rfl rfl rfl rfl rfl trivial) (.agg' (.s (.cons (.int hw) (.s (.cons (.nil 4) .nil))))) ⟨.mk 0 (lo+c) [] [],rfl,λ_=>rfl,rfl,rfl⟩
  .rw[show (kind == 1)=false by simpa using k1];refine Z ?_;by_cases k2:kind=2
   .subst k2;rw[Yz om,Yz om,Yz om] at hF;have hb1:=hcb sq;simp only[fA] at hb1;rw[Yz om] at hb1;refine Rt ?_;refine hch (.inr rfl) _ _ _ 1 rfl rfl rfl rfl rfl (λ_=>rfl) ?_;generalize dK raw ⟨2,name,lo,hi',ws,lbs,vals,kids,.mk vk vn vs vks⟩ q.length=c at *;obtain⟨d1,d2,d3⟩:=hkI c hb1.1 hb1.2;generalize bF ⟨2,name,lo,hi',ws,lbs,vals,kids,.mk vk vn vs vks⟩ c=k at *;have ek:(aV kids)[c.toNat]? = some (.int .i64 (k:Int)):=by rw[bK,d3];rfl
    have hql:(q++[c]).length=q.length+1:=sq
    refine Rt ?_;repeat(refine aC ek ?_;refine Rt ?_)
    rw[Y7 hb1.1];refine Rt ?_;repeat(refine aC ek ?_;refine Rt ?_)
    rw[<-hql] at hF;have hC1:(q++[c]).length+(dW A raw f k (q++[c]).length).cs.length<=4096:=by
     rw[hF] at hC;simp only[Zc] at hC;omega
    refine AY ih (q:=q++[c]) om om hC1 17 rfl rfl rfl rfl rfl (λ_=>rfl) (λv hv=>?_);have hvn:=bT v;rw[hF];simp only;generalize dW A raw f k (q++[c]).length=ag at *;obtain⟨v1,v2,v3,v4⟩:=v;refine Rt ?_;repeat(refine aC ek ?_;refine Rt ?_)
    exact bM (n':=3) (m':=kU (q++c::ag.cs) 2 []) [(0,0),(18,2)] rfl (eM (rid:=18) rfl rfl rfl sq rfl sq trivial) (.same _ hvn) ⟨_,rfl,hv,rfl,rfl⟩
   .have k3or:kind=3\/kind=4:=om;rw[show (kind == 2)=false by simpa using k2];refine Z ?_;by_cases k4:kind=4
    .subst k4;rw[Yz om,Y4 rfl] at hF;obtain⟨b1,b2,b3,b4⟩:=hbi rfl;obtain⟨c1,c2,c3⟩:=hkI 0 om om;have hok1:=(hfok _ q.length c1).2 b3;rw[b4] at hok1;obtain⟨w,fq,w1,w2⟩:=mY hsrt hok1;have hfv1:=hfv (dW A raw f (bF ⟨4,name,lo,hi',ws,lbs,vals,kids,.mk vk vn vs vks⟩ 0) q.length).val;rw[fq] at hF hfv1;simp only at hF hfv1;obtain⟨d1,d2,d3⟩:=hkI ((w+1:Nat):Int) om om;have hC1:q.length+(dW A raw f (bF ⟨4,name,lo,hi',ws,lbs,vals,kids,.mk vk vn vs vks⟩ 0) q.length).cs.length<=4096:=by
      rw[hF] at hC;simp only[ZA] at hC;omega
     generalize hk0':bF ⟨4,name,lo,hi',ws,lbs,vals,kids,.mk vk vn vs vks⟩ 0=k0 at *;generalize bF ⟨4,name,lo,hi',ws,lbs,vals,kids,.mk vk vn vs vks⟩ ((w+1:Nat):Int)=k1 at *;have e0:(aV kids)[(0:Int).toNat]? = some (.int .i64 (k0:Int)):=by rw[bK,c3];rfl
     have e1:(aV kids)[((w+1:Nat):Int).toNat]? = some (.int .i64 (k1:Int)):=by rw[bK,d3];rfl
     refine Rt ?_;repeat(refine aC e0 ?_;refine Rt ?_)
     refine AY ih om om hC1 1 rfl rfl rfl rfl rfl (λ_=>rfl) (λv hv=>?_);have hv:=hv rfl;subst hv;have hvn:=bT (dW A raw f k0 q.length).val;have hC2:(q++(dW A raw f k0 q.length).cs).length+(dW A raw f k1 (q++(dW A raw f k0 q.length).cs).length).cs.length<=4096:=by
      rw[hF] at hC;simp only[ZA] at hC |-;omega
     have hql:(q++(dW A raw f k0 q.length).cs).length=q.length+(dW A raw f k0 q.length).cs.length:=sq
     rw[<-hql] at hF;generalize dW A raw f k0 q.length=ag at *;obtain⟨gcs,⟨v1,v2,v3,v4⟩⟩:=ag;simp only at hF hC2 hfv1 hvn hql;refine Rt ?_;repeat(refine aC e0 ?_;refine Rt ?_)
     refine hfv1.go ?_ (.cons (.ip' hnn) (.cons hvn .nil)) nn;refine Rt ?_;repeat(refine aC e1 ?_;refine Rt ?_)
     refine AY ih (q:=q++gcs) om om hC2 3 rfl rfl rfl rfl rfl (λ_=>rfl) (λv hv=>?_);have hvn2:=bT v;rw[hF];simp only;generalize dW A raw f k1 (q++gcs).length=ag at *;obtain⟨u1,u2,u3,u4⟩:=v;refine Rt ?_;repeat(refine aC e0 ?_;refine Rt ?_)
     exact bM (n':=3) (m':=kU (q++(gcs++ag.cs)) 2 []) [(0,0),(19,2)] rfl (eM (rid:=19) rfl rfl rfl sq rfl sq trivial) (.same _ hvn2) ⟨_,rfl,hv,rfl,rfl⟩
    .have k3:kind=3:=om;subst k3;rw[Y4 rfl] at hF;rw[show ((3:Int) == 4)=false by decide];have lk:=aH kids;have hF1:F.cs=(Go.Ax.d7 (λk q=>dW A raw f k q) q.length kids ([],[])).1:=by rw[hF]
     have hF2:F.val=Go.Ax.d8 name (Go.Ax.d7 (λk q=>dW A raw f k q) q.length kids ([],[])).2:=by rw[hF]
     rw[hF1,hF2];rw[hF1] at hC;clear hF hF1 hF2 hbi hfok hfv hcb hnum;refine Z ?_;refine bI.ph 50 4 ?_;cases want with
     | false=>
      refine bI.at bJ (λj:Nat=>j<=kids.length)
       (λj=>⟨[(0,wk A),(2,.bool false),(3,VX A raw),(8,.ptr 3 0 0),(9,.ip (cK ⟨3,name,lo,hi',ws,lbs,vals,kids,.mk vk vn vs vks⟩)),(11,.nsl),(96,.il 1 (aV kids)),(97,.int .i64 kids.length),(98,.int .i64 j)],
        kU (q++(Go.Ax.d7 (λk q=>dW A raw f k q) q.length (kids.take j) ([],[])).1) 2 [(3,.row 50 4 [bY vZ])],4,116⟩)
       (λj=>kids.length-j) 0 [(0,0),(1,2),(2,3)] om
       (aK _ rfl (eM (rid:=1) rfl rfl rfl (by simp[Go.Ax.d7]) rfl (by simp[Go.Ax.d7]) ⟨⟨2,_,rfl,rfl,.cons (xL 0 0 [] ) .nil⟩,trivial⟩)
        ⟨aP (g5 A),aF,⟨_,rfl,Dm rfl⟩,aN,aP (.ip' hnn),aF,aP (.il' (aT _)),⟨_,rfl,.int (by rw[lk])⟩,aF,trivial⟩) ?_
      intro j hj;have dj:decide ((j:Int)<(kids.length:Int))=decide (j<kids.length):=Zp.2 om;by_cases hjl:j<kids.length
      .have hnx:=yE (ft:=λk q=>dW A raw f k q) (q:=q.length) hjl ([],[]);have hln:=Es (ft:=λk q=>dW A raw f k q) (q:=q.length) hjl ([],[]);have ek:=qB hjl;obtain⟨m0,m1⟩:=hkm kids[j] (ZW hjl);generalize kids[j]=kz at *;obtain⟨k,rfl⟩:=ZD m0;simp only[Yy] at m1 hnx hln;generalize (Go.Ax.d7 (λk q=>dW A raw f k q) q.length (kids.take j) ([],[]))=S at *;obtain⟨cs,vs⟩:=S;simp only at hnx hln |-;have hql:(q++cs).length=q.length+cs.length:=sq
       rw[<-hql] at hln hnx;have hC1:(q++cs).length+(dW A raw f k (q++cs).length).cs.length<=4096:=by
        simp only[ZA] at hln |-;omega
       refine Z ?_;rw[dj,Y7 hjl];refine Rt ?_;repeat(refine aC ek ?_;refine Rt ?_)
       refine AY ih (q:=q++cs) om om hC1 2 rfl rfl rfl rfl rfl (λ_=>rfl) (λv hv=>?_);generalize dW A raw f k (q++cs).length=ag at *;have hvn:=bT v;obtain⟨v1,v2,v3,v4⟩:=v;refine Z ?_;exact .mk (j+1) [(0,0),(4,2),(3,3)] om (aK _ rfl (eM (rid:=4) rfl rfl rfl (by rw[hnx];simp) rfl (by rw[hnx];simp) ⟨aI 3 (.cons (bT _) .nil),trivial⟩)
        ⟨aP (g5 A),aF,⟨_,rfl,Dm rfl⟩,aN,aP (.ip' hnn),aF,aP (.il' (aT _)),aF,⟨_,rfl,.w64 om oq⟩,trivial⟩) om
      .have hje:j=kids.length:=om;subst hje;rw[ZJ];have hm0:=hmd [];have hvn:=bT (Go.Ax.d8 name []);generalize Go.Ax.d8 name []=v at *;obtain⟨v1,v2,v3,v4⟩:=v;refine Z ?_;rw[dj,ZN hjl];refine Z ?_;refine hm0.useC bJ (.cons (.same _ (.ip' hnn)) (.cons (.nil 4) .nil)) hvn ?_;refine Z ?_;exact bM (n':=3) (m':=kU (q++(Go.Ax.d7 (λk q=>dW A raw f k q) q.length kids ([],[])).1) 2 []) [(0,0),(2,2)] rfl (eM (rid:=2) rfl rfl rfl rfl rfl rfl trivial) (.same _ hvn) ⟨.mk v1 v2 v3 v4,rfl,(λe=>by cases e),rfl,rfl⟩
     | true=>
      refine bI.at bJ (λj:Nat=>j<=kids.length)
       (λj=>⟨[(0,wk A),(2,.bool true),(3,VX A raw),(8,.ptr 3 0 0),(9,.ip (cK ⟨3,name,lo,hi',ws,lbs,vals,kids,.mk vk vn vs vks⟩)),(11,.sl 4 0 (Go.Ax.d7 (λk q=>dW A raw f k q) q.length (kids.take j) ([],[])).2.length),(96,.il 1 (aV kids)),(97,.int .i64 kids.length),(98,.int .i64 j)],
        kU (q++(Go.Ax.d7 (λk q=>dW A raw f k q) q.length (kids.take j) ([],[])).1) 2 [(3,.row 50 4 [bY vZ]),(4,.row 50 4 (aR (Go.Ax.d7 (λk q=>dW A raw f k q) q.length (kids.take j) ([],[])).2))],5,116⟩)
       (λj=>kids.length-j) 0 [(0,0),(1,2),(2,3),(3,4)] om
       (aK _ rfl (eM (rid:=1) rfl rfl rfl (by simp[Go.Ax.d7]) rfl (by simp[Go.Ax.d7]) ⟨⟨2,_,rfl,rfl,.cons (xL 0 0 [] ) .nil⟩,⟨3,_,rfl,rfl,.nil⟩,trivial⟩)
        ⟨aP (g5 A),aF,⟨_,rfl,Dm rfl⟩,aN,aP (.ip' hnn),⟨_,rfl,.nslk 3 4 _ rfl rfl⟩,aP (.il' (aT _)),⟨_,rfl,.int (by rw[lk])⟩,aF,trivial⟩) ?_
      intro j hj;have dj:decide ((j:Int)<(kids.length:Int))=decide (j<kids.length):=Zp.2 om;have hvl:∀(l:List Int) (s:List Int × List bD),(Go.Ax.d7 (λk q=>dW A raw f k q) q.length l s).2.length=s.2.length+l.length:=by
       intro l
       induction l with
       | nil=>intro s;rfl
       | cons a l ih=>intro s;rw[Go.Ax.d7,ih];simp;omega
      by_cases hjl:j<kids.length
      .have hnx:=yE (ft:=λk q=>dW A raw f k q) (q:=q.length) hjl ([],[]);have hln:=Es (ft:=λk q=>dW A raw f k q) (q:=q.length) hjl ([],[]);have hvj:=hvl (kids.take j) ([],[]);have ek:=qB hjl;obtain⟨m0,m1⟩:=hkm kids[j] (ZW hjl);generalize kids[j]=kz at *;obtain⟨k,rfl⟩:=ZD m0;simp only[Yy] at m1 hnx hln;clear hvl;generalize (Go.Ax.d7 (λk q=>dW A raw f k q) q.length (kids.take j) ([],[]))=S at *;obtain⟨cs,us⟩:=S;simp only[aAr,ZO] at hnx hln hvj |-;have hql:(q++cs).length=q.length+cs.length:=sq
       rw[<-hql] at hln hnx;have hC1:(q++cs).length+(dW A raw f k (q++cs).length).cs.length<=4096:=by
        simp only[ZA] at hln |-;omega
       refine Z ?_;rw[dj,Y7 hjl];refine Rt ?_;repeat(refine aC ek ?_;refine Rt ?_)
       refine AY ih (q:=q++cs) om om hC1 2 rfl rfl rfl rfl rfl (λ_=>rfl) (λv hv=>?_);have hv:=hv rfl;subst hv;generalize dW A raw f k (q++cs).length=ag at *;obtain⟨gcs,⟨v1,v2,v3,v4⟩⟩:=ag;simp only at hnx;have lus:=aB us;refine Z ?_;refine aO (cP rfl rfl (by rw[lus]) (by simp;omega)) ?_;refine Z ?_;exact .mk (j+1) [(0,0),(5,2),(3,3),(8,4)] om (aK _ rfl (eM (rid:=5) rfl rfl rfl (by rw[hnx];simp) rfl (by rw[hnx];simp) ⟨aI 3 (.cons (bT _) .nil),⟨8,_,rfl,rfl,.eq (aW _) (by rw[hnx,gY];rfl)⟩,trivial⟩)
        ⟨aP (g5 A),aF,⟨_,rfl,Dm rfl⟩,aN,aP (.ip' hnn),⟨_,rfl,.slE rfl (by rw[hnx];simp)⟩,aP (.il' (aT _)),aF,⟨_,rfl,.w64 om oq⟩,trivial⟩) om
      .have hje:j=kids.length:=om;subst hje;rw[ZJ];generalize (Go.Ax.d7 (λk q=>dW A raw f k q) q.length kids ([],[]))=S at *;obtain⟨cs,us⟩:=S;simp only at hmd |-;have hm0:=hmd us;have hvn:=bT (Go.Ax.d8 name us);have lus:=aB us;generalize Go.Ax.d8 name us=v at *;obtain⟨v1,v2,v3,v4⟩:=v;refine Z ?_;rw[dj,ZN hjl];refine Z ?_;refine aJ.pre bJ [(0,0),(2,2),(3,3)] (mem':=kU (q++cs) 2 [(3,.row 50 4 [bY vZ])]) rfl (eM (rid:=2) rfl rfl rfl rfl rfl rfl ⟨aI 3 (.cons (bT _) .nil),trivial⟩)
        (.cons (.same _ (.ip' hnn)) (.cons (.fz' (id:=4) (off:=0) (len:=us.length) (xs:=aR us) (ys:=aR us) rfl rfl om (by rw[ZU,Y9 om]) (aW _)) .nil)) ?_
       refine hm0.go ?_ (.cons (.ip' hnn) (.cons (.il' (aW _)) .nil)) hvn;refine Z ?_;exact bM (n':=3) (m':=kU (q++cs) 2 []) [(0,0),(2,2)] rfl (eM (rid:=2) rfl rfl rfl rfl rfl rfl trivial) (.same _ hvn) ⟨.mk v1 v2 v3 v4,rfl,λ_=>rfl,rfl,rfl⟩
theorem Cw{A:List Nd}(h:VT A)(raw:List Int)(hr:raw.length<=17592186043904):∀f,Qt A raw f
 | 0=>λi q want hif _ _=>om
 | f+1=>RI h raw hr f (Cw h raw hr f)
theorem Xw{A:List Nd}(h:VT A)(raw:List Int)(hr:raw.length<=17592186043904):aX prog [] 25 [wk A,.int .i64 ((A.length-1:Nat):Int),.il 1 (aV raw)] (.il 1 (aV (rK A raw))):=by
 have hp:=h.pos;have hlen:(rK A raw).length<=1024:=P5 h raw;have hF:=Cw h raw hr A.length (A.length-1) [] false om om (by
  show 0+(rK A raw).length<=4096
  omega)
 unfold Oi at hF;rw[show (dW A raw A.length (A.length-1) ([]:List Int).length).cs=rK A raw from rfl,Zi] at hF;generalize rK A raw=q at *;refine aG bJ func25 rfl ?_;refine Z ?_;refine aJ.ph 3 1 ?_;refine aJ.pre bJ [(2,2),(3,3)] (args':=[wk A,.int .i64 ((A.length-1:Nat):Int),.bool false,.fn (.func 70) [] [.ptr 2 0 0,.ip (.il 1 (aV raw)),.ip (wk A)]])
  (mem':=[(2,.row 22 1 [.sl 3 0 0]),(3,.row 3 1 [])]) rfl ⟨⟨2,_,rfl,rfl,.cons (.one rfl rfl (.nslk 3 3 _ rfl rfl)) .nil⟩,⟨3,_,rfl,rfl,.nil⟩,trivial⟩
  (.cons (.same _ (g5 A)) (.s (.s (.cons (.fn _ _ _ _ _ rfl rfl sq (g6.cons (.ptr 2 2 0 0 rfl) (.cons (.fzp 1 0 0 22 1 _ _ _ rfl rfl rfl (Y8 _) λk c c' h1 h2=>by
    rw[ZP] at h1;exact(g6.cons (.same _ (.il' (aT raw))) .nil).2 k c c' h1 h2) (.cons (.fzp 0 0 0 63 1 _ _ _ rfl rfl rfl (Y8 _) λk c c' h1 h2=>by
    rw[ZP] at h1;exact(g6.cons (.same _ (g5 A)) .nil).2 k c c' h1 h2) .nil))).2) .nil)))) ?_
 refine aJ.useN bJ [(2,0),(3,1)] hF rfl (.cons (.same _ (g5 A)) (.s (.s (.cons (.fn _ _ _ _ _ rfl rfl sq (g6.cons (.ptr 2 0 0 0 rfl) (.cons (.same _ (uL raw)) (.cons (.same _ (r8 A)) .nil))).2) .nil)))) ⟨⟨2,_,rfl,rfl,.cons (.one rfl rfl (.slE rfl rfl)) .nil⟩,⟨3,_,rfl,rfl,.nil⟩,trivial⟩ rfl ?_;rintro r m k ⟨v,rfl,-,rfl,rfl⟩;refine⟨[(0,2),(2,4)],bY v,[(2,.row 22 1 [.sl 4 0 q.length]),(4,.row 3 1 (aV q))],5,.same _ (bT v),⟨⟨0,_,rfl,rfl,.cons (.one rfl rfl (.slE rfl rfl)) .nil⟩,aI 2 (aT _),trivial⟩,rfl, ?_⟩;refine Z ?_;exact cW (BN (id:=4) rfl (aH q).symm rfl (aT q)) ⟨rfl,rfl,rfl⟩
theorem Ct{A:List Nd}(h:VT A){p:List Int}(hp:p.length<=1000000000)(s:Bool):∀f,Wt A p s f
 | 0=>λi a0 L hif _ _ _=>om
 | f+1=>Sd h hp s f (Ct h hp s f)
def uO(v:bD)(node:Int)(X:List Sp)(code:Int):AV:=match v with
 | .mk a b c d=>.agg [.int .i64 a,.int .i64 b,.str c,.il 4 (aR d),.int .i64 node,.il 3 (jM X),.int .i64 code]
theorem qN(v:bD)(node:Int)(X:List Sp)(code:Int):NN (uO v node X code):=by
 obtain⟨a,b,c,d⟩:=v;exact .agg' (.cons nn (.cons nn (.cons nn (.cons (.il' (aW _)) (.cons nn (.cons (.il' (zD _)) (.cons nn .nil)))))))
def WA(p:List Int)(s:Bool)(r0:Ba):AV->aQ->Nat->Prop:=λr m k=>m=[]/\k=0/\((r0.stop = -1/\∃X:List Sp,X.length<=r0.spans.length/\(s=true->X=r0.spans)/\r=uO r0.val (-1) X 0)\/(∃n:Nat,r0.stop=(n:Int)/\r=uO vZ n [] 0)\/(r0.stop = -2/\r=uO vZ (-1) [] 11))
def XW(A:List Nd)(p:List Int):AV:=.fn (.func 133) [] [.ptr 6 0 0,.ip (.il 1 (aV p)),.ip (.agg [.il 12 (bC A)])]
def Xb(A:List Nd)(s:Bool):AV:=.fn (.func 134) [] [.ip (.agg [.il 12 (bC A)]),.ip (wk A),.ip (.bool s),.ip (.il 1 (kB (dG A))),.ptr 7 0 0,.ptr 8 0 0,.ptr 6 0 0,.ptr 3 0 0]
def VY(A:List Nd)(p:List Int)(s:Bool)(a:Nat)(rid n:Nat)(xs:List AV):aQ:=
 [(6,.row 3 1 [.int .i64 (a:Int)]),(3,.row 112 7 [Va rid n]),(7,.row 101 1 [XW A p]),(8,.row 60 1 [Xb A s]),(rid,.row 218 3 xs)]
theorem O4{mem:aQ}{J:List (Nat × Nat)}{a b n m:Nat}(h:lk J a=some b)(e:n=m):Ji mem J (Va a n) (Va b m):=
 .agg (.s (.s (.s (.s (.s (.cons (.slE h e) (.s .nil)))))))
theorem Wo{mem:aQ}{J:List (Nat × Nat)}{A:List Nd}{p:List Int}(h:lk J 6=some 0):Cv mem J (XW A p) (TM A p):=
 .fn _ _ _ _ _ rfl rfl sq (g6.cons (.ptr 6 0 0 0 h) (.cons (.same _ (uL p)) (.cons (.same _ (rV A)) .nil))).2
theorem WI{mem:aQ}{J:List (Nat × Nat)}{A:List Nd}{p:List Int}(h:lk J 0=some 6):Cv mem J (TM A p) (XW A p):=
 .fn _ _ _ _ _ rfl rfl sq (g6.cons (.ptr 0 6 0 0 h) (.cons (.same _ (uL p)) (.cons (.same _ (rV A)) .nil))).2
theorem Wj{mem:aQ}{J:List (Nat × Nat)}{A:List Nd}{s:Bool}(h0:lk J 6=some 0)(h1:lk J 3=some 1)(h2:lk J 7=some 2)(h3:lk J 8=some 3):Cv mem J (Xb A s) (GG A s):=
 .fn _ _ _ _ _ rfl rfl sq (g6.cons (.same _ (rV A)) (.cons (.same _ (r8 A)) (.s (.cons (.same _ (F0 A)) (.cons (.ptr 7 2 0 0 h2) (.cons (.ptr 8 3 0 0 h3) (.cons (.ptr 6 0 0 0 h0) (.cons (.ptr 3 1 0 0 h1) .nil)))))))).2
theorem XL{mem:aQ}{J:List (Nat × Nat)}{A:List Nd}{s:Bool}(h0:lk J 0=some 6)(h1:lk J 1=some 3)(h2:lk J 2=some 7)(h3:lk J 3=some 8):Cv mem J (GG A s) (Xb A s):=
 .fn _ _ _ _ _ rfl rfl sq (g6.cons (.same _ (rV A)) (.cons (.same _ (r8 A)) (.s (.cons (.same _ (F0 A)) (.cons (.ptr 2 7 0 0 h2) (.cons (.ptr 3 8 0 0 h3) (.cons (.ptr 0 6 0 0 h0) (.cons (.ptr 1 3 0 0 h1) .nil)))))))).2
theorem O7{A:List Nd}{p:List Int}{s:Bool}{a b:Nat}{L:List Sp}(h:a=b):cO (xC A p s a L 5 []) [(0,6),(1,3),(2,7),(3,8),(5,10)] (VY A p s b 10 L.length (jM L)):=
 ⟨⟨0,_,rfl,rfl,.cons (.one rfl rfl (.int (by rw[h]))) .nil⟩,⟨1,_,rfl,rfl,.cons (O4 rfl rfl) .nil⟩,⟨2,_,rfl,rfl,.cons (.one rfl rfl (WI rfl)) .nil⟩,⟨3,_,rfl,rfl,.cons (.one rfl rfl (XL rfl rfl rfl rfl)) .nil⟩,aI 5 (zD _),trivial⟩
theorem M0{mem:aQ}{J:List (Nat × Nat)}{id:Nat}{t:TypeId}{sz:Nat}{c v:AV}(h1:lk mem id=some (.row t sz [c]))(h2:lk J id=none)(hc:c.cells=[c])(hv:v.cells=[v])(h:Cv mem J c v):Cv mem J (.ptr id 0 0) (.ip v):=
 OL h1 h2 rfl (by rw[hc];rfl) hv h
structure Ua(rs:List ResultVar)(v:AV)(Q:AV->aQ->Nat->Prop)(Qp:Value->aQ->Nat->Prop)(e:Exit)(s:St):Prop where
 run:DR prog [] (Gw prog [] 0) rs Q Qp e s (some v)
noncomputable def Kg:List ResultVar:=(Tryz.f78).results.toList
def Py:AV:=.fn (.func 131) [] [.ptr 3 0 0]
theorem nD{sl:List (Nat × AV)}{M:aQ}{nx nt:Nat}{Q:AV->aQ->Nat->Prop}{Qp:Value->aQ->Nat->Prop}(h:match Ah prog Kg ⟨sl,M,nx,nt⟩ with|some r=>Q r M nx|none=>False):Ua Kg Py Q Qp .ret ⟨sl,M,nx,nt⟩:=by
 refine⟨?_⟩;have e:DR prog [] (Gw prog [] 0) Kg Q Qp .ret ⟨sl,M,nx,nt⟩ (some Py)=(match Ah prog Kg ⟨sl,M,nx,nt⟩ with|some r=>Q r M nx|none=>False):=by kernel_rfl
 rw[e];exact h
theorem vY{a3 a4 a5:AV}{rest:List (Nat × AV)}{A:List Nd}{p:List Int}{s:Bool}{a n0:Nat}{xs:List AV}{nt:Nat}{x:Value}{n c:Int}{Q:AV->aQ->Nat->Prop}{Qp:Value->aQ->Nat->Prop}(hx:x=xO n c)
  (h:∀M:aQ,Q (.agg [.int .i64 0,.int .i64 0,.str [],.nsl,.int .i64 n,.nsl,.int .i64 c]) M 12):Ua Kg Py Q Qp (.panic [pe x]) ⟨(3,a3)::(4,a4)::(5,a5)::(6,.ptr 3 0 0)::rest,VY A p s a 10 n0 xs,11,nt⟩:=by
 subst hx;refine⟨?_⟩;have e:DR prog [] (Gw prog [] 0) Kg Q Qp (.panic [pe (xO n c)]) ⟨(3,a3)::(4,a4)::(5,a5)::(6,.ptr 3 0 0)::rest,VY A p s a 10 n0 xs,11,nt⟩ (some Py) =
  Q (.agg [.int .i64 0,.int .i64 0,.str [],.nsl,.int .i64 n,.nsl,.int .i64 c]) [(11,.row 215 2 [.agg [.int .i64 n,.int .i64 c]]),(6,.row 3 1 [.int .i64 (a:Int)]),(3,.row 112 7 [.agg [.int .i64 0,.int .i64 0,.str [],.nsl,.int .i64 n,.nsl,.int .i64 c]]),(7,.row 101 1 [XW A p]),(8,.row 60 1 [Xb A s]),(10,.row 218 3 xs)] 12:=by kernel_rfl
 rw[e];exact h _
theorem TQ{A:List Nd}{p:List Int}(h:MF A p)(s:Bool):aJ prog [] 78 [.agg [.il 12 (bC A)],.il 1 (aV p),.bool s] [] 0 (WA p s (kL p (lV A p))):=by
 have hp:=h.tree.pos;have hl:=h.tree.tin.len;have hpl:=h.len;have hC:=h.cnt A.length (A.length-1) 0 om om;have hF:=Ct h.tree (p:=p) om s A.length (A.length-1) 0 [] om om (aAp _) (su hC);have hN:=WW h.tree;have hP:=RU h.tree;have hu:=Kh A p;have nA:NN (.il 12 (bC A)):=.il' (bA A);have np:NN (.il 1 (aV p)):=.il' (aT p);have lp:=aH p;have lA:=bW A;have hw:IntKind.i64.wrap (((bC A).length:Int)-1)=((A.length-1:Nat):Int):=by rw[bW,bS oq];omega
 rw[show bG A p A.length (A.length-1) 0=lV A p from rfl] at hF;generalize hR0:lV A p=R at *;clear hR0;obtain⟨⟨v1,v2,v3,v4⟩,u,st,sp⟩:=R;refine bV.toC (Qp:=λ_ _ _=>False) ?_ (λ_ _ _ h=>h);refine Bg (H:=Gw prog [] 0) bJ func78 rfl ?_
 conv=>whnf
 refine oX.seq (oX.of rfl ?_);refine Z ?_;refine oX.seq (oX.of rfl ?_);have dA:(((bC A).length:Int) == 0)=false:=by rw[lA];exact beq_eq_false_iff_ne.2 om
 refine Z ?_;rw[dA];refine Z ?_;refine oX.seq (oX.region ?_)
 conv=>whnf
 refine aY ?_
 dsimp only
 refine eH.conv (s':=⟨[(3,.ip (.agg [.il 12 (bC A)])),(4,.ip (.il 1 (aV p))),(5,.ip (.bool s)),(6,.ptr 3 0 0)],[(3,.row 112 7 [.agg [.int .i64 0,.int .i64 0,.str [],.nsl,.int .i64 0,.nsl,.int .i64 0]])],4,39⟩) bJ
  (aK [(3,3)] rfl ⟨aI 3 (.cons (.agg' (.cons nn (.cons nn (.cons nn (.cons nn (.cons nn (.cons nn (.cons nn .nil)))))))) .nil),trivial⟩
   ⟨⟨_,rfl,OL (id:=0) rfl rfl rfl rfl rfl (.same _ nA)⟩,⟨_,rfl,M0 (id:=1) rfl rfl rfl rfl (.same _ np)⟩,⟨_,rfl,M0 (id:=2) rfl rfl rfl rfl (.same _ nn)⟩,aN,trivial⟩) ?_
 refine eH.mono (Q:=Ua Kg Py (kH 0 (WA p s (kL p ⟨.mk v1 v2 v3 v4,u,st,sp⟩))) (MI 0 λ_ _ _=>False)) ?_ (λe s h=>h.run);refine Rq ?_;refine hN.goP ?_ (.cons (.agg' (.cons nA .nil)) .nil) (g5 A);refine Rq ?_;refine hP.goP ?_ (.cons (.agg' (.cons nA .nil)) (.cons (g5 A) .nil)) (.il' (iY _));refine Rq ?_;rw[hw];refine bV.ph 218 3 ?_;refine bV.pre bJ [(3,3),(6,6),(7,7),(8,8),(9,9)] (args':=[.int .i64 ((A.length-1:Nat):Int),.ip (.agg [.il 12 (bC A)]),.ip (wk A),.ip (.bool s),.ip (.il 1 (kB (dG A))),.ptr 7 0 0,.ptr 8 0 0,.ptr 6 0 0,.ptr 3 0 0])
  (mem':=VY A p s 0 9 0 []) rfl
  ⟨⟨6,_,rfl,rfl,.cons (.one rfl rfl (.int rfl)) .nil⟩,⟨3,_,rfl,rfl,.cons (.agg (.s (.s (.s (.s (.s (.cons (.nslk 9 9 _ rfl rfl) (.s .nil)))))))) .nil⟩,
   ⟨7,_,rfl,rfl,.cons (.one rfl rfl (.fn _ _ _ _ _ rfl rfl sq (g6.cons (.ptr 6 6 0 0 rfl) (.cons (.same _ (uL p)) (.cons (.same _ (rV A)) .nil))).2)) .nil⟩,
   ⟨8,_,rfl,rfl,.cons (.one rfl rfl (.fn _ _ _ _ _ rfl rfl sq (g6.cons (.same _ (rV A)) (.cons (M0 (id:=4) rfl rfl rfl rfl (.same _ (g5 A))) (.s (.cons (M0 (id:=5) rfl rfl rfl rfl (.same _ (.il' (iY _)))) (.cons (.ptr 7 7 0 0 rfl) (.cons (.ptr 8 8 0 0 rfl) (.cons (.ptr 6 6 0 0 rfl) (.cons (.ptr 3 3 0 0 rfl) .nil)))))))).2)) .nil⟩,
   ⟨9,_,rfl,rfl,.nil⟩,trivial⟩
  (.s (.cons (.same _ (rV A)) (.cons (M0 (id:=4) rfl rfl rfl rfl (.same _ (g5 A))) (.s (.cons (M0 (id:=5) rfl rfl rfl rfl (.same _ (.il' (iY _)))) (.cons (.ptr 7 7 0 0 rfl) (.cons (.ptr 8 8 0 0 rfl) (.cons (.ptr 6 6 0 0 rfl) (.cons (.ptr 3 3 0 0 rfl) .nil))))))))) ?_
 refine bV.useN bJ [(6,0),(3,1),(7,2),(8,3),(9,4)] hF rfl (.s (.cons (.same _ (rV A)) (.cons (.same _ (r8 A)) (.s (.cons (.same _ (F0 A)) (.cons (.ptr 7 2 0 0 rfl) (.cons (.ptr 8 3 0 0 rfl) (.cons (.ptr 6 0 0 0 rfl) (.cons (.ptr 3 1 0 0 rfl) .nil)))))))))
  ⟨aI 6 (.cons nn .nil),⟨3,_,rfl,rfl,.cons (O4 rfl rfl) .nil⟩,⟨7,_,rfl,rfl,.cons (.one rfl rfl (Wo rfl)) .nil⟩,⟨8,_,rfl,rfl,.cons (.one rfl rfl (Wj rfl rfl rfl rfl)) .nil⟩,⟨9,_,rfl,rfl,.nil⟩,trivial⟩ rfl ?_ ?_
 .rintro r m k ⟨f1,rfl,X,hX,hXs,rfl,rfl⟩;have f1:st = -1:=f1;subst f1;refine⟨[(0,6),(1,3),(2,7),(3,8),(5,10)],.agg [.int .i64 v1,.int .i64 v2,.str v3,.il 4 (aR v4)],VY A p s u 10 X.length (jM X),11,.same _ (bT (.mk v1 v2 v3 v4)),O7 (ZP _),rfl, ?_⟩;have hX:X.length<=sp.length:=hX;have hXs:s=true->X=sp:=hXs;have hu:u<=p.length:=hu;have d1:decide ((u:Int)<((aV p).length:Int))=decide (u<p.length):=by rw[lp];exact Zp.2 om
  refine Rq ?_;rw[d1];by_cases hup:u<p.length
  .rw[Y7 hup];refine Rq ?_;refine nD ?_
   conv=>whnf
   exact cW (r':=uO vZ (-1) [] 11) (.agg' (.s (.s (.s (.cons (.nil 4) (.s (.cons (.nil 3) (.s .nil)))))))) (by unfold kL;rw[Y4 ⟨rfl,hup⟩];exact⟨rfl,rfl,.inr (.inr ⟨rfl,rfl⟩)⟩)
  .rw[ZN hup];refine Rq ?_;refine nD ?_
   conv=>whnf
   exact cW (r':=uO (.mk v1 v2 v3 v4) (-1) X 0) (.agg' (.s (.s (.s (.cons (.same _ (.il' (aW _))) (.s (.cons (BN (id:=10) rfl (Am X).symm rfl (zD X)) (.s .nil)))))))) (by unfold kL;rw[Yz (λe=>hup e.2)];exact⟨rfl,rfl,.inl ⟨rfl,X,hX,hXs,rfl⟩⟩)
 .rintro x m k ⟨hx,a,L',rfl,rfl⟩;have hx:(∃n:Nat,st=(n:Int)/\x=xO n 0)\/(st = -2/\x=xO (-1) 11):=hx;refine⟨[(0,6),(1,3),(2,7),(3,8),(5,10)],VY A p s a 10 L'.length (jM L'),11,O7 rfl,rfl, ?_⟩;cases hx with
  | inl hx=>
   obtain⟨n,h1,h2⟩:=hx;refine vY h2 (λM=>?_);exact cW (r':=uO vZ n [] 0) (.agg' (.s (.s (.s (.cons (.nil 4) (.s (.cons (.nil 3) (.s .nil)))))))) (by unfold kL;rw[Yz (λe=>by have:=e.1;simp only at this;omega)];exact⟨rfl,rfl,.inr (.inl ⟨n,h1,rfl⟩)⟩)
  | inr hx=>
   refine vY hx.2 (λM=>?_);exact cW (r':=uO vZ (-1) [] 11) (.agg' (.s (.s (.s (.cons (.nil 4) (.s (.cons (.nil 3) (.s .nil)))))))) (by unfold kL;rw[Yz (λe=>by have:=e.1;simp only at this;omega)];exact⟨rfl,rfl,.inr (.inr ⟨hx.1,rfl⟩)⟩)
theorem Ux(p:List Int)(s:Bool):aX prog [] 78 [.agg [.il 12 []],.il 1 (aV p),.bool s] (uO vZ (-1) [] 11):=by
 refine bV.toC (Qp:=λ_ _ _=>False) ?_ (λ_ _ _ h=>h);refine Bg (H:=Gw prog [] 0) bJ func78 rfl ?_
 conv=>whnf
 refine oX.seq (oX.of rfl ?_);refine Z ?_;refine oX.seq (oX.of rfl ?_);refine Z ?_;exact cW (r':=uO vZ (-1) [] 11) (.agg' (.s (.s (.s (.cons (.nil 4) (.s (.cons (.nil 3) (.s .nil)))))))) ⟨rfl,rfl,rfl⟩
theorem U1{A:List Nd}{p:List Int}(h:Vn A p)(s:Bool):aJ prog [] 47 [.agg [.il 12 (bC A)],.il 1 (aV p),.bool s] [] 0 λr m k=>(∃(v:bD) (node c:Int) (S:List Sp),r = .tup [uO v node S c,.int .i64 (tP A p)]/\v=oC A p/\(s=true->S=QV A p))/\m=[]/\k=0:=by
 have hv:=GU A ⟨h.tin.ok,h.tin.val,h.tin.vals,λx hx=>by have:=h.tin.vlen x hx;omega,λx hx=>by have:=h.tin.klen x hx;omega⟩;have nA:NN (.il 12 (bC A)):=.il' (bA A);have np:NN (.il 1 (aV p)):=.il' (aT p);have hE:tP A p=if cR A≠0 then cR A else if A.length=0 then 11 else if (kL p (lV A p)).stop = -1 then 0 else 11:=rfl
 have hS:QV A p=if tP A p=0 then(kL p (lV A p)).spans else []:=by rw[(Eh _ _).2];rfl
 have hV:oC A p=if tP A p=0 then(kL p (lV A p)).val else vZ:=by rw[(Eh _ _).1];rfl
 have hR:=λ(e:cR A=0) (hp:0<A.length)=>TQ (h.pth ⟨h.tin,e,hp⟩) s
 have hR0:A.length=0->aX prog [] 78 [.agg [.il 12 (bC A)],.il 1 (aV p),.bool s] (uO vZ (-1) [] 11):=λe=>by
  rw[ZB e];exact Ux p s
 have lA:=bW A;generalize QV A p=S at *;generalize oC A p=V at *;generalize tP A p=aa at *;generalize cR A=vl at *;refine aG bJ func47 rfl ?_;refine Z ?_;refine hv.go ?_ (.cons (.agg' (.cons nA .nil)) .nil) nn;refine Z ?_;refine aL (λhb=>?_) (λhb=>?_)
 .have h0:vl≠0:=su hb
  rw[Y4 h0] at hE;rw[Yz om] at hS hV;rw[hS,hV,hE];refine Z ?_;exact cW (r':=.tup [uO vZ 0 [] 0,.int .i64 vl]) (.tup' (.cons (.agg' (.s (.s (.s (.cons (.nil 4) (.s (.cons (.nil 3) (.s .nil)))))))) (.s .nil))) ⟨⟨vZ,0,0,[],rfl,rfl,λ_=>rfl⟩,rfl,rfl⟩
 .have h0:vl=0:=su hb
  subst h0;have hR:=hR rfl;rw[Yz sq] at hE;refine Z ?_;by_cases h0:A.length=0
  .rw[Y4 h0] at hE;rw[Yz om] at hS hV;rw[hS,hV,hE];refine(hR0 h0).go ?_ (.cons (.agg' (.cons nA .nil)) (.cons np (.cons nn .nil))) (qN _ _ _ _);refine Z ?_;exact cW (r':=.tup [uO vZ 0 [] 0,.int .i64 11]) (.tup' (.cons (.agg' (.s (.s (.s (.cons (.nil 4) (.s (.cons (.nil 3) (.s .nil)))))))) (.s .nil))) ⟨⟨vZ,0,0,[],rfl,rfl,λ_=>rfl⟩,rfl,rfl⟩
  .rw[Yz h0] at hE;have hR:=hR om;generalize kL p (lV A p)=R at *;obtain⟨⟨v1,v2,v3,v4⟩,u,st,sp⟩:=R;simp only at hE hS hV;refine aJ.go0 hR ?_ (.cons (.agg' (.cons nA .nil)) (.cons np (.cons nn .nil)));rintro r m k ⟨rfl,rfl,hr⟩;rcases hr with⟨h1,X,hX,hXs,rfl⟩|⟨n,h1,rfl⟩|⟨h1,rfl⟩
   .simp only at h1 hX hXs;rw[Y4 h1] at hE;rw[hE,Y4 rfl] at hS hV;rw[hS,hV,hE];refine⟨_,.same _ (qN (.mk v1 v2 v3 v4) _ _ _), ?_⟩;refine Z ?_;exact cW (r':=.tup [uO (.mk v1 v2 v3 v4) (-1) X 0,.int .i64 0]) (.same _ (.tup' (.cons (qN (.mk v1 v2 v3 v4) _ _ _) (.cons nn .nil)))) ⟨⟨.mk v1 v2 v3 v4,-1,0,X,rfl,rfl,hXs⟩,rfl,rfl⟩
   .simp only at h1;rw[Yz om] at hE;rw[Yz om] at hS hV;rw[hS,hV,hE];refine⟨_,.same _ (qN vZ _ _ _), ?_⟩;refine Z ?_;exact cW (r':=.tup [uO vZ 0 [] 0,.int .i64 11]) (.tup' (.cons (.agg' (.s (.s (.s (.cons (.nil 4) (.s (.cons (.nil 3) (.s .nil)))))))) (.s .nil))) ⟨⟨vZ,0,0,[],rfl,rfl,λ_=>rfl⟩,rfl,rfl⟩
   .simp only at h1;rw[Yz om] at hE;rw[Yz om] at hS hV;rw[hS,hV,hE];refine⟨_,.same _ (qN vZ _ _ _), ?_⟩;refine Z ?_;exact cW (r':=.tup [uO vZ 0 [] 0,.int .i64 11]) (.tup' (.cons (.agg' (.s (.s (.s (.cons (.nil 4) (.s (.cons (.nil 3) (.s .nil)))))))) (.s .nil))) ⟨⟨vZ,0,0,[],rfl,rfl,λ_=>rfl⟩,rfl,rfl⟩
theorem Kc{A:List Nd}{p:List Int}(h:Vn A p)(hC:∀v:bD,iG v->aX prog [] 48 [bY v] (bY v))(hv:iG (oC A p)):aX prog [] 15 [.agg [.il 12 (bC A)],.il 1 (aV p)] (.tup [bY (oC A p),.int .i64 (tP A p)]):=by
 have hW:=U1 h false;have hC:=hC _ hv;have nA:NN (.il 12 (bC A)):=.il' (bA A);have np:NN (.il 1 (aV p)):=.il' (aT p);generalize oC A p=V at *;generalize tP A p=aa at *;have nV:=bT V;refine aG bJ func15 rfl ?_;refine Z ?_;refine aJ.go0 hW ?_ (.cons (.agg' (.cons nA .nil)) (.cons np (.cons nn .nil)));rintro r m k ⟨⟨v,node,c,S',rfl,rfl,-⟩,rfl,rfl⟩;obtain⟨v1,v2,v3,v4⟩:=v;refine⟨_,.same _ (.tup' (.cons (qN (.mk v1 v2 v3 v4) node S' c) (.cons nn .nil))), ?_⟩;refine Rt ?_;refine hC.go ?_ (.cons nV .nil) nV;refine Rt ?_;exact aA (.tup' (.cons nV (.cons nn .nil))) ⟨rfl,rfl,rfl⟩
theorem Yp{A:List Nd}{p:List Int}(h:MF A p)(hs:(kL p (lV A p)).stop≠-2):aX prog [] 28 [.agg [.il 12 (bC A)],.il 1 (aV p)] (.tup [.int .i64 (kL p (lV A p)).stop,.int .i64 0]):=by
 have hv:=GU A ⟨h.tree.tin.ok,h.tree.tin.val,h.tree.tin.vals,λx hx=>by have:=h.tree.tin.vlen x hx;omega,λx hx=>by have:=h.tree.tin.klen x hx;omega⟩;rw[h.tree.val] at hv;have hR:=TQ h false;have nA:NN (.il 12 (bC A)):=.il' (bA A);have np:NN (.il 1 (aV p)):=.il' (aT p);generalize kL p (lV A p)=R at *;obtain⟨⟨v1,v2,v3,v4⟩,u,st,sp⟩:=R;simp only at hs;refine aG bJ func28 rfl ?_;refine Z ?_;refine hv.go ?_ (.cons (.agg' (.cons nA .nil)) .nil) nn;refine Rt ?_;refine aJ.go0 hR ?_ (.cons (.agg' (.cons nA .nil)) (.cons np (.cons nn .nil)));rintro r m k ⟨rfl,rfl,hr⟩;rcases hr with⟨h1,X,hX,hXs,rfl⟩|⟨n,h1,rfl⟩|⟨h1,rfl⟩
 .simp only at h1;subst h1;refine⟨_,.same _ (qN (.mk v1 v2 v3 v4) _ _ _), ?_⟩;refine Rt ?_;exact aA (.tup' (.cons nn (.cons nn .nil))) ⟨rfl,rfl,rfl⟩
 .simp only at h1;subst h1;refine⟨_,.same _ (qN vZ _ _ _), ?_⟩;refine Rt ?_;exact aA (.tup' (.cons nn (.cons nn .nil))) ⟨rfl,rfl,rfl⟩
 .exact absurd h1 hs
theorem Xn{A:List Nd}(h:VT A)(raw:List Int)(hr:raw.length<=17592186043904):aX prog [] 6 [.agg [.il 12 (bC A)],.il 1 (aV raw)] (.tup [.il 1 (aV (rK A raw)),.int .i64 0]):=by
 have hv:=GU A ⟨h.tin.ok,h.tin.val,h.tin.vals,λx hx=>by have:=h.tin.vlen x hx;omega,λx hx=>by have:=h.tin.klen x hx;omega⟩;rw[h.val] at hv;have hN:=WW h;have hR:=V8 h.pos (by have:=h.tin.len;omega);have hF:=Xw h raw hr;have nA:NN (.il 12 (bC A)):=.il' (bA A);have nr:NN (.il 1 (aV raw)):=.il' (aT raw);have nf:NN (.il 1 (aV (rK A raw))):=.il' (aT _);have nw:=g5 A;have lA:=bW A;have hp:=h.pos;generalize rK A raw=q at *;refine aG bJ func6 rfl ?_;refine Z ?_;refine hv.go ?_ (.cons (.agg' (.cons nA .nil)) .nil) nn;refine Rt ?_;refine aL (λhb=>?_) (λhb=>?_)
 .exfalso;rw[lA] at hb;simp at hb;first|omega|(rw[hb] at hp;simp at hp)
 refine Rt ?_;refine hN.go ?_ (.cons (.agg' (.cons nA .nil)) .nil) nw;refine Rt ?_;refine hR.go ?_ (.cons nw .nil) nn;refine Rt ?_;refine hF.go ?_ (.cons nw (.cons nn (.cons nr .nil))) nf;refine Rt ?_;exact aA (.tup' (.cons nf (.cons nn .nil))) ⟨rfl,rfl,rfl⟩
theorem Qm{G:Type}(l:List G)(xs:List AV)(h:xs.length=l.length):(((xs.length:Nat):Int) == 0)=decide (l.length=0):=by rw[h,Ze];simp
def vO(zs:List AV)(l:List AV)(k:Nat):List AV:=l.take k++zs.drop k
theorem Nh{zs l:List AV}(h:zs.length=l.length):vO zs l l.length=l:=by simp[vO];omega
theorem M7{zs l:List AV}(h:zs.length=l.length){k:Nat}(hk:k<l.length):(vO zs l k)[k]? = zs[k]? := by
 unfold vO;rw[ZM (by rw[ZO];omega)];rw[ZO,Z1 (aBa hk),aAe,ZS,Zm]
theorem M6{zs l:List AV}(h:zs.length=l.length){k:Nat}(hk:k<l.length){v:AV}(hv:l[k]? = some v):(vO zs l k).set k v=vO zs l (k+1):=by
 unfold vO;rw[Zw _ _ (by rw[ZO];omega)];rw[ZO,Z1 (aBa hk),aAe,List.drop_eq_getElem_cons (by omega:k<zs.length),aAy,aB5,hv];simp
theorem Sr{mem:aQ}{J:List (Nat × Nat)}{x y:AV}(h:Ji mem J x y)(n:Nat):tO mem J (List.replicate n x) (List.replicate n y):=by
 refine⟨sq,λi a b ha hb=>?_⟩;rw[aAm] at ha hb;split at ha
 .rename_i e;rw[Y4 e] at hb;cases ha;cases hb;exact h
 .cases ha
theorem Uq{x:AV}(h:NN x)(n:Nat):jU (List.replicate n x):=λa ha=>by
 rw[aAK ha];exact h
theorem OW{zs l:List AV}(h1:jU zs)(h2:jU l)(k:Nat):jU (vO zs l k):=λa ha=>by
 rcases ZI.1 ha with ha|ha
 .exact h2 a (Zg ha)
 .exact h1 a (Zr ha)
theorem VG(l:List bD)(hl:l.length<=4294967296)(h:∀v∈l,aX prog [] 48 [bY v] (bY v)){K:AV->aQ->Nat->Prop}(e0:l=[]->∀mem nx,kH 0 K .nsl mem nx)(e1:¬l.length=0->∀nx,kH 0 K (.sl 0 0 l.length) [(0,.row 50 4 (aR l))] nx):aJ prog [] 110 [.il 4 (aR l),.fn (.func 48) [] []] [] 0 K:=by
 refine aG bJ func110 rfl ?_;refine Z ?_;rw[Qm l _ (aB l)];by_cases h0:l.length=0
 .rw[Y7 h0];obtain rfl:l=[]:=ZB h0;refine Z ?_;exact e0 rfl _ _
 .rw[ZN h0];refine Z ?_;rw[aB];refine aO (Bv rfl rfl rfl hl rfl) ?_;refine Z ?_;obtain⟨zs,hzs⟩:∃zs,zs=List.replicate l.length (bY (.mk 0 0 [] [])):=⟨_,rfl⟩
  have hzn:jU zs:=by rw[hzs];exact Uq nn _
  have hzl:zs.length=(aR l).length:=by rw[hzs,aB];simp
  refine bI.at bJ (λk:Nat=>k<=l.length) (λk=>⟨[(0,.il 4 (aR l)),(1,.fn (.func 48) [] []),(5,.sl 0 0 l.length),(14,.int .i64 l.length),(15,.int .i64 k)],[(0,.row 50 4 (vO zs (aR l) k))],1,29⟩) (λk=>l.length-k) 0 [(0,0)] sq
   (aK _ rfl ⟨⟨0,_,rfl,rfl,by rw[hzs];exact Sr (xL 0 0 []) _⟩,trivial⟩ ⟨aP (.il' (aW _)),aF,⟨_,rfl,.slE rfl sq⟩,⟨_,rfl,.int (by rw[aB])⟩,aF,trivial⟩) ?_
  have hz0:∀k<l.length,zs[k]? = some (bY (.mk 0 0 [] [])):=λk hk=>by rw[hzs,aAm,Y4 hk]
  clear hzs;intro k hk;refine Z ?_;refine aL (λhb=>?_) (λhb=>?_)
  .have hlt:k<l.length:=su hb
   obtain⟨v1,v2,v3,v4,vm,vg,-,ev⟩:=dE (l:=l) (k:=k) hlt;have hv:=h _ vm;have bx:Nat.blt ((k:Nat):Int).toNat l.length=true:=Y3 (by simp;omega);have bz:(vO zs (aR l) k)[0+((k:Nat):Int).toNat]? = some (bY (.mk 0 0 [] [])):=by
    rw[<-hz0 k hlt,show 0+((k:Nat):Int).toNat=k by simp];exact M7 hzl (by rw[aB];exact hlt)
   have hs:=M6 hzl (k:=k) (by rw[aB];exact hlt) (v:=bY (.mk v1 v2 v3 v4)) (by rw[i6,vg];rfl);refine Z ?_;repeat((first|refine aC ev ?_|refine aY ?_);refine Z ?_)
   refine hv.go ?_;refine Rt ?_;repeat((first|refine aO bx ?_|refine aC bz ?_);refine Rt ?_)
   exact .mk (k+1) [(0,0)] om
    (aK _ rfl ⟨⟨0,_,rfl,rfl,.eq (OW hzn (aW _) _) (by rw[<-hs];simp;rfl)⟩,trivial⟩ ⟨aP (.il' (aW _)),aF,⟨_,rfl,.slE rfl rfl⟩,aF,⟨_,rfl,.w64 om oq⟩,trivial⟩) om
  .have hkl:k=l.length:=by simp at hb;omega
   subst hkl;refine Z ?_;rw[show vO zs (aR l) l.length=aR l by rw[<-aB l];exact Nh hzl];exact e1 h0 _
theorem WL(l:List bD)(hl:l.length<=4294967296)(h:∀v∈l,aX prog [] 48 [bY v] (bY v)):aX prog [] 110 [.il 4 (aR l),.fn (.func 48) [] []] (.il 4 (aR l)):=
 VG l hl h (λe _ _=>by subst e;exact cW (r':=.il 4 (aR [])) (.nil 4) ⟨rfl,rfl,rfl⟩) λ_ _=>cW (r':=.il 4 (aR l)) (.fz' (id:=0) rfl rfl (by rw[aB];omega) (by rw[ZU];exact Y9 (by rw[aB];omega)) (aW _)) ⟨rfl,rfl,rfl⟩
theorem Gd:∀(f:Nat) (v:bD),bN v<=f->iG v->aX prog [] 48 [bY v] (bY v)
 | 0,.mk k n s l,h,_=>by simp[bN] at h
 | f+1,.mk k n s l,h,hv=>by
  simp only[iG] at hv;have hk:∀v∈l,aX prog [] 48 [bY v] (bY v):=λv hm=>Gd f v (by have:=Fq hm;simp[bN] at h;omega) (pW hv.2.2.2.2 v hm)
  have hc:=WL l hv.2.2.2.1 hk;refine aG bJ func48 rfl ?_;refine Z ?_;refine hc.go ?_ (.cons (.il' (aW _)) (.cons nn .nil)) (.il' (aW _));refine Rt ?_;exact aA (bT (.mk k n s l)) ⟨rfl,rfl,rfl⟩
def D3(v:Int):AB:=.row 27 1 [.int .i64 v]
def KP(i:Nat):AB:=.row 69 1 [.ptr i 0 0]
theorem Wk{a b c:Fr}{m n:Nat}(ha:Jj m a)(hb:Jj n b)(hm:m<zS)(hn:n<zS)(h:tW a b=(c,0)) :
  aJ prog [] 76 [.ptr 0 0 0,lR a,lR b] [(0,D3 0)] 1 λr mm k=>r=lR c/\mm=[(0,D3 0)]/\k=1:=by
 have hM:=X4 a b (Po ha hm) (Po hb hn) (by rw[L5 ha];exact ha.can) (by rw[L5 hb];exact hb.can);rw[L5 ha,L5 hb,h] at hM;have ho:SJ (c,0)=c:=rfl;rw[ho] at hM;obtain⟨a1,a2,a3,a4,-,-,ea⟩:=fH a;obtain⟨b1,b2,b3,b4,-,-,eb⟩:=fH b;obtain⟨c1,c2,c3,c4,-,-,ec⟩:=fH c;rw[ea,eb,ec] at hM;rw[ea,eb,ec];refine aG bJ func76 rfl ?_;refine Z ?_;refine hM.go ?_ (.cons (zA _ _ _ _) (.cons (zA _ _ _ _) .nil)) (.tup' (.cons (zA _ _ _ _) (.cons nn .nil)));refine Rt ?_;exact bM (n':=1) (m':=[(0,D3 0)]) [(0,0)] rfl ⟨aI 0 (.cons nn .nil),trivial⟩ (.same _ (zA _ _ _ _)) ⟨rfl,rfl,rfl⟩
theorem WY{a b c:Fr}{m n:Nat}(ha:Jj m a)(hb:Jj n b)(hm:m<zS)(hn:n<zS)(h:tW a b=(c,0)) :
  aJ prog [] 75 [lR a,lR b,.ptr 1 0 0] [(0,D3 0),(1,KP 0)] 2 λr mm k=>r=lR c/\mm=[(0,D3 0),(1,KP 0)]/\k=2:=by
 have hM:=Wk ha hb hm hn h;obtain⟨a1,a2,a3,a4,-,-,ea⟩:=fH a;obtain⟨b1,b2,b3,b4,-,-,eb⟩:=fH b;obtain⟨c1,c2,c3,c4,-,-,ec⟩:=fH c;rw[ea,eb,ec] at hM;rw[ea,eb,ec];refine aG bJ func75 rfl ?_;refine Z ?_;refine aJ.useI bJ [0] hM rfl (.cons (.ptr 0 0 0 0 rfl) (.cons (.same _ (zA _ _ _ _)) (.cons (.same _ (zA _ _ _ _)) .nil))) ⟨aI 0 (.cons nn .nil),trivial⟩ rfl ?_;rintro r mm k ⟨rfl,rfl,rfl⟩;refine⟨zA _ _ _ _,⟨aI 0 (.cons nn .nil),trivial⟩,rfl, ?_⟩;refine Rt ?_;exact bM (n':=2) (m':=[(0,D3 0),(1,KP 0)]) [(0,0),(1,1)] rfl ⟨aI 0 (.cons nn .nil),⟨1,_,rfl,rfl,.cons (.one rfl rfl (.ptr 0 0 0 0 rfl)) .nil⟩,trivial⟩ (.same _ (zA _ _ _ _)) ⟨rfl,rfl,rfl⟩
def rP(A:List Nd)(i j:Nat):AV:=.agg [.il 12 (bC A),.bool false,.il 1 (bB (dg 4294967296 1)),.bool false,.il 1 (bB (dg 4294967296 1)),.fn (.func 73) [] [.ptr i 0 0],.fn (.func 75) [] [.ptr i 0 0],.fn (.func 77) [] [],.fn (.func 72) [] [],.mp j]
def YY(A:List Nd):aQ:=[(0,D3 0),(1,KP 0),(2,.row 75 10 [rP A 1 3]),(3,.mapb [])]
theorem LX{mem:aQ}{J:List (Nat × Nat)}{A:List Nd}{i j i' j':Nat}(h:lk J i=some i')(h':lk J j=some j'):Ji mem J (rP A i j) (rP A i' j'):=
 .agg (.cons (.same _ (.il' (bA A))) (.s (.cons (.same _ (tU _)) (.s (.cons (.same _ (tU _)) (.cons (.fn _ _ _ _ _ rfl rfl sq (g6.cons (.ptr i i' 0 0 h) .nil).2) (.cons (.fn _ _ _ _ _ rfl rfl sq (g6.cons (.ptr i i' 0 0 h) .nil).2) (.cons (.same _ (.fn _ _ _ sq sq)) (.cons (.same _ (.fn _ _ _ sq sq)) (.cons (.mp j j' h') .nil))))))))))
theorem Ob(A:List Nd):aJ prog [] 27 [.agg [.il 12 (bC A)],.ptr 0 0 0] [(0,D3 0)] 1 λr mm k=>r = .ptr 2 0 0/\mm=YY A/\k=4:=by
 have hO:=XC .nptr nn;have nA:NN (.il 12 (bC A)):=.il' (bA A);have e1:lR ⟨1,1⟩ = .agg [.bool false,.il 1 (bB (dg 4294967296 1)),.bool false,.il 1 (bB (dg 4294967296 1))]:=rfl;rw[e1] at hO;refine aG bJ func27 rfl ?_;refine Z ?_;refine hO.go ?_ (.cons nn .nil) (zA _ _ _ _);refine Rt ?_;exact bM (n':=4) (m':=YY A) [(0,0),(2,1),(10,2),(8,3)] rfl ⟨aI 0 (.cons nn .nil),⟨2,_,rfl,rfl,.cons (.one rfl rfl (.ptr 0 0 0 0 rfl)) .nil⟩,⟨10,_,rfl,rfl,.cons (LX rfl rfl) .nil⟩,⟨8,_,rfl,rfl,rfl,sq⟩,trivial⟩ (.ptr 10 2 0 0 rfl) ⟨rfl,rfl,rfl⟩
theorem Vd{A:List Nd}(h:VT A){p:List Int}(hp:xK A p){v:bD}(hV:aX prog [] 15 [.agg [.il 12 (bC A)],.il 1 (aV p)] (.tup [bY v,.int .i64 0]))
  (hAt:∀i,i<p.length->aX prog [] 28 [.agg [.il 12 (bC A)],.il 1 (aV (p.take i))] (.tup [.int .i64 (Ea A (p.take i)).stop,.int .i64 0])) :
  aX prog [] 7 [.agg [.il 12 (bC A)],.il 1 (aV p)] (.tup [lR (HT (pZ A p)),.int .i64 0]):=by
 have nA:NN (.il 12 (bC A)):=.il' (bA A);have tA:NN (.agg [.il 12 (bC A)]):=.agg' (.cons nA .nil);have np:NN (.il 1 (aV p)):=.il' (aT p);have lp:=aH p;have hCh:=Ob A;have hpl:=hp.len;have nv:=bT v;obtain⟨v1,v2,v3,v4⟩:=v;refine aG bJ func7 rfl ?_;refine Z ?_;refine hV.go ?_ (.cons tA (.cons np .nil)) (.tup' (.cons nv (.cons nn .nil)));refine Rt ?_;refine aJ.useN bJ [(3,0)] hCh rfl (.cons (.same _ tA) (.cons (.ptr 3 0 0 0 rfl) .nil)) ⟨aI 3 (.cons nn .nil),trivial⟩ rfl ?_;rintro r mm k ⟨rfl,rfl,rfl⟩;refine⟨[(0,3),(1,4),(2,5),(3,6)],.ptr 5 0 0,[(3,D3 0),(4,KP 3),(5,.row 75 10 [rP A 4 6]),(6,.mapb [])],7,.ptr 2 5 0 0 rfl,
  ⟨aI 0 (.cons nn .nil),⟨1,_,rfl,rfl,.cons (.one rfl rfl (.ptr 0 3 0 0 rfl)) .nil⟩,⟨2,_,rfl,rfl,.cons (LX rfl rfl) .nil⟩,⟨3,_,rfl,rfl,rfl,sq⟩,trivial⟩,rfl, ?_⟩
 have hfp:=LV h hp;have hfl:=qP A p;have hstep:=λ(i:Nat) (hi:i<p.length)=>N8 (pZ A p) hfp (k:=i) om om
 have hpr:=λ(i:Nat) (hi:i<=p.length)=>Gt (pZ A p) hfp i om om
 have hfi:=λ(i:Nat) (hi:i<p.length)=>hfp _ (ZW (show i<(pZ A p).length by omega))
 refine Rt ?_;have nz4:jU [.agg [.bool false,.nsl,.bool false,.nsl]]:=.cons (.agg' (.cons nn (.cons nn (.cons nn (.cons nn .nil))))) .nil;have e11:lR (HT ((pZ A p).take 0)) = .agg [.bool false,.il 1 (bB (dg 4294967296 1)),.bool false,.il 1 (bB (dg 4294967296 1))]:=rfl;have lA:=bW A;refine bI.at bJ (λk:Nat=>k<=p.length)
  (λk=>⟨[(1,.il 1 (aV p)),(2,.ptr 0 0 0),(4,.ptr 1 0 0),(8,.ptr 2 0 0),(9,.ptr 4 0 0),(10,.ptr 6 0 0),(31,.il 1 (aV p)),(32,.int .i64 p.length),(33,.int .i64 k)],[(0,.row 25 1 [.agg [.il 12 (bC A)]]),(1,.row 34 4 [.agg [.bool false,.nsl,.bool false,.nsl]]),(2,D3 0),(3,KP 2),(4,.row 75 10 [rP A 3 5]),(5,.mapb []),(6,.row 34 4 [lR (HT ((pZ A p).take k))])],7,68⟩) (λk=>p.length-k) 0 [(0,0),(1,1),(3,2),(4,3),(5,4),(6,5),(7,6)] sq
  (aK _ rfl ⟨aI 0 (.cons tA .nil),aI 1 nz4,aI 3 (.cons nn .nil),⟨4,_,rfl,rfl,.cons (.one rfl rfl (.ptr 3 2 0 0 rfl)) .nil⟩,⟨5,_,rfl,rfl,.cons (LX rfl rfl) .nil⟩,⟨6,_,rfl,rfl,rfl,sq⟩,⟨7,_,rfl,rfl,by rw[e11];exact .same (.cons (zA _ _ _ _) .nil)⟩,trivial⟩
   ⟨aP np,aN,aN,aN,aN,aN,aP np,⟨_,rfl,.int (by simp[lp])⟩,aF,trivial⟩) ?_
 intro k hk;refine Z ?_;refine aL (λhb=>?_) (λhb=>?_)
 .rw[hb];have hlt:k<p.length:=by have:=Zh hb;omega
  have ek:(aV p)[((k:Nat):Int).toNat]? = some (.int .i64 (p.getD k 0)):=by
   rw[Yy,bK,Yw hlt,Yx,Yw hlt];rfl
  obtain⟨n,n1,n2,n3,n4,n5⟩:=hp.step k hlt;have hA:=hAt k hlt;rw[n2] at hA;have hC:=TD h n1 n3 n4 n5;have hget:=Jh (A:=A) (p:=p) (i:=k) om;rw[n2,Yy] at hget;rw[<-hget] at hC;have hst:=hstep k hlt;have hMm:=WY (hpr k hk) (hfi k hlt) (Ar om) (by have:=Ar (k:=1) om;simpa using this) hst;have en:(bC A)[((n:Nat):Int).toNat]? = some (cK (aD A n)):=by rw[Yy,bC,ZT,cG n1];rfl
  have nx:=bH (aD A n);have npt:NN (.il 1 (aV (p.take k))):=.il' (aT _);generalize (pZ A p)[k]'_=F at *;generalize HT ((pZ A p).take k)=a at *;generalize hbd:HT ((pZ A p).take (k+1))=b at *;generalize p.getD k 0=c at *;have nF:=wX F;obtain⟨a1,a2,a3,a4,-,-,ea⟩:=fH a;obtain⟨b1,b2,b3,b4,-,-,eb⟩:=fH b;obtain⟨c1,c2,c3,c4,-,-,ec⟩:=fH F;rw[ea,eb,ec] at hMm;rw[ec] at hC nF;rw[ea];refine Z ?_;repeat((first|refine aC ek ?_|refine aY ?_);refine Z ?_)
  refine aO (by rw[lp,Y3 om,Y3 (by simp;omega),Y3 om];rfl) ?_;rw[show List.take (((k:Nat):Int).toNat-0) (List.drop 0 (aV p))=aV (p.take k) by simp[aV,List.map_take]];refine Z ?_;refine hA.go ?_ (.cons tA (.cons npt .nil)) (.tup' (.cons nn (.cons nn .nil)));refine Rt ?_;repeat(refine aC ek ?_;refine Rt ?_)
  refine aC en ?_;refine Rt ?_;repeat(refine aC en ?_;refine Rt ?_)
  refine hC.go ?_ (.cons (.ip' nx) (.cons nn .nil)) nF;refine Rt ?_;repeat(refine aC en ?_;refine Rt ?_)
  refine aJ.useN bJ [(2,0),(3,1)] hMm rfl (.cons (.same _ (zA _ _ _ _)) (.cons (.same _ (zA _ _ _ _)) (.cons (.ptr 3 1 0 0 rfl) .nil))) ⟨aI 2 (.cons nn .nil),⟨3,_,rfl,rfl,.cons (.one rfl rfl (.ptr 2 0 0 0 rfl)) .nil⟩,trivial⟩ rfl ?_;rintro r mm kk ⟨rfl,rfl,rfl⟩;refine⟨[(0,2),(1,3)],.agg [.bool b1,.il 1 (bB b2),.bool b3,.il 1 (bB b4)],[(2,D3 0),(3,KP 2)],34,.same _ (zA _ _ _ _),⟨aI 0 (.cons nn .nil),⟨1,_,rfl,rfl,.cons (.one rfl rfl (.ptr 0 2 0 0 rfl)) .nil⟩,trivial⟩,rfl, ?_⟩;refine Rt ?_;repeat(refine aC en ?_;refine Rt ?_)
  exact .mk (k+1) [(0,0),(1,1),(2,2),(3,3),(4,4),(5,5),(6,6)] om (aK _ rfl ⟨aI 0 (.cons tA .nil),aI 1 nz4,aI 2 (.cons nn .nil),⟨3,_,rfl,rfl,.cons (.one rfl rfl (.ptr 2 2 0 0 rfl)) .nil⟩,⟨4,_,rfl,rfl,.cons (LX rfl rfl) .nil⟩,⟨5,_,rfl,rfl,rfl,sq⟩,⟨6,_,rfl,rfl,.eq (.cons (wX _) .nil) (by rw[hbd,eb])⟩,trivial⟩
   ⟨aP np,aN,aN,aN,aN,aN,aP np,aF,⟨_,rfl,.w64 om oq⟩,trivial⟩) om
 .rw[hb];have:k=p.length:=by have:=aAX hb;omega
  subst this;refine Z ?_;exact cW (r':=.tup [lR (HT (pZ A p)),.int .i64 0]) (.tup' (.cons (.eq (wX _) (by rw[Y9 om];rfl)) (.s .nil))) ⟨rfl,rfl,rfl⟩
def l8:List (List UInt8):=[[45,49],[48],[50],[48,50],[45,48],[97],[57,50,50,51,51,55,50,48,51,54,56,53,52,55,55,53,56,48,56],[]]
def LB:List (List UInt8):=[120]::(l8++yS)
theorem Uw{s:List UInt8}(h:s∈LB):s.length<=19:=by
 simp only[LB,l8,yS,Zo,Zi,Y6,List.not_mem_nil,or_false] at h;rcases h with rfl|rfl|rfl|rfl|rfl|rfl|rfl|rfl|rfl|rfl|rfl|rfl|rfl<;>simp
theorem R9:∀s∈yS,s∈LB:=λs hs=>by unfold LB;exact ZE _ (Z9 _ hs)
theorem N4(l:List Int)(hl:∀x∈l,i64 x){C:List (Nat × AV)}{mem:aQ}{nx:Nat}{K:AV->aQ->Nat->Prop}(hk:∀ns:List Nd,iS ns->ns.length<=14->K (.agg [.il 12 (bC ns)]) mem nx):aJ prog C 5 [.il 1 (aV l)] mem nx K:=by
 refine aJ.goG0 (Vp l hl) ?_;rintro r m n ⟨ns,hT,hlen,rfl,rfl,rfl⟩;exact⟨.agg [.il 12 (bC ns)],.agg' (.cons (.fz' (id:=0) rfl rfl (by rw[bW];omega) (by rw[ZU];exact Y9 (by rw[bW];omega)) (bA _)) .nil),hk ns hT hlen⟩
theorem Ng{n m:Nat}(h:m=n)(hl:n<=17592186043904):(Nat.ble (m*8) 140737488355328 && Nat.ble m 9223372036854775807)=true:=by
 subst h;rw[Y3 om,Y3 om];rfl
theorem Ew{g:Nat}{t:TypeId}{v:AV}{w:World}(h:PK gz w)(hg:(g,AV.ifc t v)∈gz):∃ev,w.cell? ⟨g,0,none⟩=some ev/\(ev = .nilIface\/∃te pe,ev = .iface te pe):=by
 obtain⟨x,E,D,O,h1,h2⟩:=h _ hg 0 (.ifc t v) rfl;cases h2 with
 | ifc _ _ y hy=>exact⟨_,h1,.inr ⟨_,_,rfl⟩⟩
theorem XB(s:List UInt8)(hs:s.length<=4294967296) :
  ∃(n:Int) (e:AV),i64 n/\(e = .nif\/e = .ifc 325 .junk)/\aX prog gz 177 [.str s] (.tup [.int .i64 n,e])/\(∀m,Lib.atoiAll s = .ok m->n=m/\e = .nif):=by
 have hsz:(⟨s.toArray⟩:ByteArray).size=s.length:=by simp[ByteArray.size]
 have hd:(⟨s.toArray⟩:ByteArray).data.toList=s:=sq
 cases h:Lib.atoiAll s with
 | ok v=>
  refine⟨v,.nif,Lib.atoiAll_bounds h,.inl rfl,rO (λ_ _ _ _ _ h=>Gp h) λw _=>?_,λm hm=>⟨by injection hm,rfl⟩⟩;refine(Tryz.strconv_Atoi_ok ⟨s.toArray⟩ (by rw[hsz];omega) v (by rw[hd];exact h) w).mono ?_;rintro e w' ⟨rfl,hw⟩;refine⟨_,rfl,λ_ _ _ _=>.tup _ _ rfl λj c x h1 h2=>?_, ?_⟩
  .match j,h1,h2 with
   | 0,h1,h2=>simp at h1 h2;subst h1 h2;exact .int _ _
   | 1,h1,h2=>simp at h1 h2;subst h1 h2;exact .nif
   | j+2,h1,h2=>simp at h1
  .rcases hw with rfl|⟨t,rfl⟩
   .exact .refl _
   .exact Ix _ _ _
 | range=>
  refine⟨Lib.atoiSat s,.ifc 325 .junk,Lib.atoiSat_bounds s,.inr rfl,rO (λ_ _ _ _ _ h=>Gp h) λw hk=>?_,λm hm=>by cases hm⟩;obtain⟨ev,h1,h2⟩:=Ew (g:=3) hk (.tail _ (.head _));have hc:=Tryz.strconv_Atoi_range ⟨s.toArray⟩ (by rw[hsz];omega) (by rw[hd];exact h) ev w h1 h2;rw[hd] at hc;refine hc.mono ?_;rintro e w' ⟨N,rfl,-,-,hb⟩;refine⟨_,rfl,λ_ _ _ _=>.tup _ _ rfl λj c x h1 h2=>?_,Bn hb⟩
  match j,h1,h2 with
  | 0,h1,h2=>simp at h1 h2;subst h1 h2;exact .int _ _
  | 1,h1,h2=>simp at h1 h2;subst h1 h2;exact .ifc _ _ _ (.junk _)
  | j+2,h1,h2=>simp at h1
 | _=>
  refine⟨0,.ifc 325 .junk,oq,.inr rfl,rO (λ_ _ _ _ _ h=>Gp h) λw hk=>?_,λm hm=>by cases hm⟩;obtain⟨ev,h1,h2⟩:=Ew (g:=2) hk (.head _);refine(Tryz.strconv_Atoi_syntax ⟨s.toArray⟩ (by rw[hsz];omega) (by rw[hd];exact h) ev w h1 h2).mono ?_;rintro e w' ⟨N,rfl,-,-,hb⟩;refine⟨_,rfl,λ_ _ _ _=>.tup _ _ rfl λj c x h1 h2=>?_,Bn hb⟩
  match j,h1,h2 with
  | 0,h1,h2=>simp at h1 h2;subst h1 h2;exact .int _ _
  | 1,h1,h2=>simp at h1 h2;subst h1 h2;exact .ifc _ _ _ (.junk _)
  | j+2,h1,h2=>simp at h1
theorem Hq(x:Nd)(hx:AU x):aX prog [] 108 [.ip (cK x)] (.int .i64 (gX x)):=by
 have hr:=hx.rng;unfold gX;obtain⟨kind,name,lo,hi,ws,ls,vals,kids,⟨vk,vn,vs,vks⟩⟩:=x;simp only at hr |-;have e1:IntKind.i64.wrap (hi-lo)=hi-lo:=bS oq;have e2:IntKind.i64.wrap (hi-lo+1)=hi-lo+1:=bS oq;refine aG bJ func108 rfl ?_;refine Z ?_;refine aL (λh=>?_) (λh=>?_)
 .have h1:kind=1:=su h
  rw[Y4 h1];refine Rt ?_;rw[e1,e2];exact aA nn ⟨rfl,rfl,rfl⟩
 .have h1:¬kind=1:=su h
  rw[Yz h1];refine Z ?_;refine aL (λh=>?_) (λh=>?_)
  .have h2:kind=2:=su h
   rw[Y4 h2];refine Z ?_;rw[aH];exact aA nn ⟨rfl,rfl,rfl⟩
  .have h2:¬kind=2:=su h
   rw[Yz h2];refine Z ?_;exact aA nn ⟨rfl,rfl,rfl⟩
theorem U4(l:List (List UInt8))(s:List UInt8)(hl:l.length<=4294967296):aX prog [] 176 [.il 1 (oN l),.str s] (.int .i64 (ER l s)):=by
 refine aG bJ func176 rfl ?_;refine Z ?_;refine bI.at bJ (λi:Nat=>i<=l.length/\ER l s=oW s (l.drop i) i) (λi=>⟨[(0,.il 1 (oN l)),(1,.str s),(7,.int .i64 l.length),(8,.int .i64 i)],[],0,19⟩) (λi=>l.length-i) 0 [] ⟨sq,by simp[ER]⟩
  (bX ⟨aP (.il' (jD _)),aF,⟨_,rfl,.int (by rw[cS])⟩,aF,trivial⟩) ?_
 rintro i ⟨hi,hx⟩;refine Z ?_;refine aL (λh=>?_) (λh=>?_)
 .have hil:i<l.length:=su h
  have ei:=sH hil;rw[List.drop_eq_getElem_cons hil,oW] at hx;generalize l[i]=t at ei hx;refine Z ?_;refine aC ei ?_;refine Z ?_;refine aL (λh2=>?_) (λh2=>?_)
  .have e:s=t:=su h2
   rw[Y4 e.symm] at hx;rw[hx];refine Z ?_;exact aA nn ⟨rfl,rfl,rfl⟩
  .have e:¬s=t:=su h2
   rw[Yz λh=>e h.symm] at hx;refine Z ?_;exact .mk (i+1) [] ⟨om,hx⟩ (bX ⟨aP (.il' (jD _)),aF,aF,⟨_,rfl,.w64 om oq⟩,trivial⟩) om
 .have hil:i=l.length:=by simp at h;omega
  rw[hil,Z8,oW] at hx;rw[hx];refine Z ?_;exact aA nn ⟨rfl,rfl,rfl⟩
theorem RS{s:List UInt8}{n:Int}(hn:i64 n):Lib.itoa n=s->N7 s=some n:=λh=>by
 unfold N7;rw[<-h,M2 hn];simp
theorem Tw(a b:Nd)(k:Nat)(ha:AU a)(hb:AU b)(hk:(k:Int)<gX a)(hab:a.kind=1/\b.kind=2\/a.kind=2/\b.kind=1\/a.kind=2/\b.kind=2)(hll:∀s∈a.labels,s.length<=4294967296)(hbl:b.labels.length<=1000) :
  aX prog gz 109 [.ip (cK a),.ip (cK b),.int .i64 k] (.tup [.int .i64 (zW a b k).1,.bool (zW a b k).2]):=by
 have har:=ha.rng;have hbr:=hb.rng;have hao:=uN ha;have hach:=ha.ch;have hakl:=ha.klen;have hko:a.kind=2->k<a.kids.length:=λh=>by unfold gX at hk;rw[Yz om,Y4 h] at hk;omega
 have hI:=U4 b.labels;unfold zW;obtain⟨kind,name,lo,hi,ws,ls,vals,kids,⟨vk,vn,vs,vks⟩⟩:=a;obtain⟨kind',name',lo',hi',ws',ls',vals',kids',⟨vk',vn',vs',vks'⟩⟩:=b;simp only at har hbr hach hakl hko hI hll hbl hab |-;refine aG fQ func109 rfl ?_;rcases hab with⟨rfl,rfl⟩|⟨rfl,rfl⟩|⟨rfl,rfl⟩
 .have hw:IntKind.i64.wrap (lo+(k:Int))=lo+k:=bS oq;have hIt:=TU (lo+k) oq;have hX:=hI (Lib.itoa (lo+k)) om;simp only[if_true];generalize Lib.itoa (lo+k)=z at hIt hX |-;generalize ER ls' z=q at hX |-;refine Z ?_;rw[hw];refine hIt.use fQ dN nn ?_;refine Rt ?_;refine hX.goG ?_ (.cons (.il' (jD _)) dN);refine Rt ?_;exact aA nn ⟨rfl,rfl,rfl⟩
 .rw[Yz om,Y4 rfl];by_cases l0:ls.length=0
  .rw[Y4 l0];obtain rfl:ls=[]:=Zu.1 l0;refine Z ?_;exact aA nn ⟨rfl,rfl,rfl⟩
  .rw[Yz l0];have hll2:ls.length=kids.length:=by rcases(hach rfl).2 with h|h;exact absurd h l0;exact h
   have hkl:k<ls.length:=by have:=hko rfl;omega
   have ek:=sH hkl;have d0:(((oN ls).length:Int) == 0)=false:=by rw[cS,beq_eq_false_iff_ne];omega
   have hgd:ls.getD k []=ls[k]:=by rw[Yx,Yw hkl];rfl
   have hsl:=hll _ (ZW hkl);rw[hgd];generalize ls[k]=s at ek hsl |-;obtain⟨n,e,hn,he,hA,hok⟩:=XB s hsl;have hIt:=TU n hn;refine Z ?_;rw[d0];refine Z ?_;refine aC ek ?_;refine Z ?_;refine hA.use fQ dN (by rcases he with rfl|rfl<;>exact nn) ?_;have hnone:(∀m,Lib.atoiAll s = .ok m->Lib.itoa m≠s)->N7 s=none:=by
    intro h;unfold N7;split
    .rename_i m hm;rw[Yz (h m hm)]
    .rfl
   rcases he with rfl|rfl
   .by_cases hq:Lib.itoa n=s
    .rw[RS hn hq];simp only;have hne:(s == s)=true:=sq
     rw[hq] at hIt;refine Z ?_;repeat((first|refine aY ?_|refine aC ek ?_);refine Z ?_)
     refine hIt.use fQ dN nn ?_;refine Z ?_;repeat((first|refine aY ?_|refine aC ek ?_);refine Z ?_)
     rw[hne];refine Z ?_;repeat((first|refine aY ?_|refine aC ek ?_);refine Z ?_)
     refine aL (λh1=>?_) (λh1=>?_)
     .have h2:n<lo':=su h1
      rw[Y4 (.inl h2)];rw[h1];refine Z ?_;repeat((first|refine aY ?_|refine aC ek ?_);refine Z ?_)
      exact aA nn ⟨rfl,rfl,rfl⟩
     .have h2:¬n<lo':=su h1
      rw[h1];refine Z ?_;repeat((first|refine aY ?_|refine aC ek ?_);refine Z ?_)
      refine aL (λh3=>?_) (λh3=>?_)
      .have h4:hi'<n:=su h3
       rw[Y4 (.inr h4)];refine Z ?_;exact aA nn ⟨rfl,rfl,rfl⟩
      .have h4:¬hi'<n:=su h3
       rw[Yz om];refine Z ?_;rw[bS (n:=n-lo') oq];exact aA nn ⟨rfl,rfl,rfl⟩
    .rw[hnone λm hm=>by obtain⟨rfl,_⟩:=hok m hm;exact hq];simp only;have hne:(Lib.itoa n == s)=false:=su hq
     generalize Lib.itoa n=z at hIt hne;refine Z ?_;repeat((first|refine aY ?_|refine aC ek ?_);refine Z ?_)
     refine hIt.use fQ dN nn ?_;refine Z ?_;repeat((first|refine aY ?_|refine aC ek ?_);refine Z ?_)
     rw[hne];refine Z ?_;repeat((first|refine aY ?_|refine aC ek ?_);refine Z ?_)
     exact aA nn ⟨rfl,rfl,rfl⟩
   .rw[hnone λm hm=>by have:=(hok m hm).2;simp at this];simp only;refine Z ?_;repeat((first|refine aY ?_|refine aC ek ?_);refine Z ?_)
    exact aA nn ⟨rfl,rfl,rfl⟩
 .rw[Yz om,Yz om];have eb0:∀l:List (List UInt8),l.length≠0->(((oN l).length:Int) == 0)=false:=λl h=>by rw[cS,beq_eq_false_iff_ne];omega
  have hkid:(decide ((k:Int)<((aV kids').length:Nat)))=decide (k<kids'.length):=by rw[aH,Ze];simp
  by_cases l0:ls.length=0
  .rw[Y4 (.inl l0)];obtain rfl:ls=[]:=Zu.1 l0;refine Z ?_;rw[hkid];exact aA nn ⟨rfl,rfl,rfl⟩
  .have d0:=eb0 ls l0;have hll2:ls.length=kids.length:=by rcases(hach rfl).2 with h|h;exact absurd h l0;exact h
   have hkl:k<ls.length:=by have:=hko rfl;omega
   have ek:=sH hkl;have hgd:ls.getD k []=ls[k]:=by rw[Yx,Yw hkl];rfl
   rw[hgd];generalize ls[k]=s at ek |-;by_cases l1:ls'.length=0
   .rw[Y4 (.inr l1)];obtain rfl:ls'=[]:=Zu.1 l1;refine Z ?_;rw[d0];refine Z ?_;rw[hkid];exact aA nn ⟨rfl,rfl,rfl⟩
   .rw[Yz om];have d1:=eb0 ls' l1;have hX:=hI s om;generalize ER ls' s=q at hX |-;refine Z ?_;rw[d0];refine Z ?_;rw[d1];refine Z ?_;by_cases k1:k<ls'.length
    .have ek':=sH k1;have hgd':ls'.getD k []=ls'[k]:=by rw[Yx,Yw k1];rfl
     rw[hgd'];generalize ls'[k]=s' at ek' |-;have dk:decide ((k:Int)<((oN ls').length:Nat))=true:=by rw[cS];simp;omega
     rw[dk];refine Z ?_;repeat((first|refine aY ?_|refine aC ek ?_|refine aC ek' ?_);refine Z ?_)
     refine aL (λh1=>?_) (λh1=>?_)
     .have h2:s'=s:=su h1
      rw[Y4 ⟨k1,h2⟩];refine Z ?_;exact aA nn ⟨rfl,rfl,rfl⟩
     .have h2:¬s'=s:=su h1
      rw[Yz λh=>h2 h.2];refine Z ?_;repeat((first|refine aY ?_|refine aC ek ?_|refine aC ek' ?_);refine Z ?_)
      refine hX.goG ?_ (.cons (.il' (jD _)) dN);refine Z ?_;repeat((first|refine aY ?_|refine aC ek ?_|refine aC ek' ?_);refine Z ?_)
      exact aA nn ⟨rfl,rfl,rfl⟩
    .have dk:decide ((k:Int)<((oN ls').length:Nat))=false:=by rw[cS];simp;omega
     rw[dk,Yz λh=>k1 h.1];refine Z ?_;repeat((first|refine aY ?_|refine aC ek ?_);refine Z ?_)
     refine hX.goG ?_ (.cons (.il' (jD _)) dN);refine Z ?_;repeat((first|refine aY ?_|refine aC ek ?_);refine Z ?_)
     exact aA nn ⟨rfl,rfl,rfl⟩
theorem JT{mem:aQ}{id:Nat}{x:Nd}(h:lk mem id=some (.row 59 12 [cK x])):Cv mem [] (.ptr id 0 0) (.ip (cK x)):=by
 refine .fzp id 0 0 _ _ _ (cK x) _ h rfl rfl om (λk c c' h1 h2=>?_);rw[ZP] at h1;rw[h1] at h2;cases h2;exact .same _ ((bH x).cells.get k c h1)
theorem Qf{n:Int}{b:Bool}:Sc (.tup [.int .i64 n,.bool b]):=.tup _ λj c h=>by
 match j,h with
 | 0,h=>simp at h;subst h;exact .int _ _
 | 1,h=>simp at h;subst h;exact .bool _
 | j+2,h=>simp at h
theorem SO(a b:Nd)(k:Int)(hk:i64 k)(ha:AU a)(hb:AU b)(hll:∀s∈a.labels,s.length<=4294967296)(hbl:b.labels.length<=1000) :
  aX prog gz 46 [cK a,cK b,.int .i64 k] (.tup [.int .i64 (Al a b k).1,.bool (Al a b k).2]):=by
 have har:=ha.rng;have hbr:=hb.rng;have hOa:=Hq a ha;have hOb:=Hq b hb;have hob:=uN hb;have hoa:=uN ha;have hC:=λhk2 hab=>Tw a b k.toNat ha hb hk2 hab hll hbl
 have hna:=bH a;have hnb:=bH b;have eo:(Al a b k)=if k<0\/gX a<=k\/gX b=0 then(0,false)
  else if a.kind=1/\b.kind=1 then(min (max (a.lo+k) b.lo) b.hi-b.lo,decide (min (max (a.lo+k) b.lo) b.hi=a.lo+k))
  else if (zW a b k.toNat).2=true then((zW a b k.toNat).1,true) else(min k (gX b-1),false):=rfl
 have hka:gX a≠0->a.kind=1\/a.kind=2:=λh=>by
  unfold gX at h;split at h
  .omega
  .split at h
   .omega
   .exact absurd rfl h
 have hkb:gX b≠0->b.kind=1\/b.kind=2:=λh=>by
  unfold gX at h;split at h
  .omega
  .split at h
   .omega
   .exact absurd rfl h
 have hxa:a.kind=1->gX a=a.hi-a.lo+1:=λh=>by unfold gX;rw[Y4 h]
 rw[eo];generalize zW a b k.toNat=cr at hC |-;generalize gX a=oa at hOa hoa hC hka hxa |-;generalize gX b=ob at hOb hob hkb |-;obtain⟨ca,cb⟩:=cr;have hfin:∀(r1:Int) (r2:Bool) (x:Int × Bool) (mem:aQ) (n:Nat),r1=x.1->r2=x.2->kH 0 (λr' m n=>r'=AV.tup [.int .i64 x.1,.bool x.2]/\m=[]/\n=0) (.tup [.int .i64 r1,.bool r2]) mem n:=by
  rintro r1 r2 x mem n rfl rfl;exact aA nn ⟨rfl,rfl,rfl⟩
 refine aG fQ func46 rfl ?_;obtain⟨kind,name,lo,hi,ws,ls,vals,kids,⟨vk,vn,vs,vks⟩⟩:=a;obtain⟨kind',name',lo',hi',ws',ls',vals',kids',⟨vk',vn',vs',vks'⟩⟩:=b;simp only at har hbr hka hkb hC hxa |-;by_cases h0:k<0
 .rw[Y4 (.inl h0)];have d0:decide (k<0)=true:=su h0
  refine Z ?_;rw[d0];refine Z ?_;exact aA nn ⟨rfl,rfl,rfl⟩
 .have d0:decide (k<0)=false:=su h0
  refine Z ?_;rw[d0];refine Z ?_;refine aJ.lend fQ hOa.glob (.cons (JT rfl) .nil) ?_;rintro r m n ⟨rfl,rfl,rfl⟩;refine⟨.int _ _, ?_⟩;by_cases h1:oa<=k
  .rw[Y4 (.inr (.inl h1))];have d1:decide (k≥oa)=true:=su h1
   refine Z ?_;rw[d1];refine Z ?_;exact aA nn ⟨rfl,rfl,rfl⟩
  .have d1:decide (k≥oa)=false:=by simp;omega
   refine Z ?_;rw[d1];refine Z ?_;refine aJ.lend fQ hOb.glob (.cons (JT rfl) .nil) ?_;rintro r m n ⟨rfl,rfl,rfl⟩;refine⟨.int _ _, ?_⟩;by_cases h2:ob=0
   .rw[Y4 (.inr (.inr h2))];subst h2;refine Z ?_;exact aA nn ⟨rfl,rfl,rfl⟩
   .have d2:(ob == 0)=false:=su h2
    rw[Yz om];refine Z ?_;rw[d2];have hka:=hka om;have hkb:=hkb h2;by_cases hrr:kind=1/\kind'=1
    .rw[Y4 hrr];obtain⟨rfl,rfl⟩:=hrr;have hxa:=hxa rfl;have hw:IntKind.i64.wrap (lo+k)=lo+k:=bS oq;have en:(if hi'<(if lo'>lo+k then lo' else lo+k) then hi' else if lo'>lo+k then lo' else lo+k)=min (max (lo+k) lo') hi':=by split<;>split<;>omega
     refine Z ?_;rw[hw];refine hfin _ _ _ _ _ ?_ ?_
     .simp only;rw[en];exact bS oq
     .simp only;rw[en,Ze];simp
    .rw[Yz hrr];have hC:=hC om om;have hkk:((k.toNat:Nat):Int)=k:=om;rw[hkk] at hC;rcases(show kind=2\/(kind=1/\kind'=2) by omega) with rfl|⟨rfl,rfl⟩
     .refine Z ?_;refine aJ.lend fQ hC (.cons (JT rfl) (.cons (JT rfl) (.s .nil))) ?_;rintro r m n ⟨rfl,rfl,rfl⟩;refine⟨Qf, ?_⟩;cases cb with
      | true=>
       rw[Y4 rfl];refine Z ?_;exact aA nn ⟨rfl,rfl,rfl⟩
      | false=>
       rw[Yz sq];refine Z ?_;refine aJ.lend fQ hOb.glob (.cons (JT rfl) .nil) ?_;rintro r m n ⟨rfl,rfl,rfl⟩;refine⟨.int _ _, ?_⟩;have hwb:IntKind.i64.wrap (ob-1)=ob-1:=bS oq;refine Z ?_;rw[hwb];refine hfin _ _ _ _ _ ?_ rfl;simp only;split<;>omega
     .refine Z ?_;refine aJ.lend fQ hC (.cons (JT rfl) (.cons (JT rfl) (.s .nil))) ?_;rintro r m n ⟨rfl,rfl,rfl⟩;refine⟨Qf, ?_⟩;cases cb with
      | true=>
       rw[Y4 rfl];refine Z ?_;exact aA nn ⟨rfl,rfl,rfl⟩
      | false=>
       rw[Yz sq];refine Z ?_;refine aJ.lend fQ hOb.glob (.cons (JT rfl) .nil) ?_;rintro r m n ⟨rfl,rfl,rfl⟩;refine⟨.int _ _, ?_⟩;have hwb:IntKind.i64.wrap (ob-1)=ob-1:=bS oq;refine Z ?_;rw[hwb];refine hfin _ _ _ _ _ ?_ rfl;simp only;split<;>omega
theorem Q8(l:List Int)(at_ n:Int)(hl:∀x∈l,i64 x)(hlen:l.length<=17592186043904)(hn:i64 n):aJ prog [] 11 [.il 1 (aV l),.int .i64 at_,.int .i64 n] [] 0 λr m k=>∃ns:List Nd,iS ns/\ns.length<=14/\r = .agg [.il 12 (bC ns)]/\m=[]/\k=0:=by
 refine aG bJ func11 rfl ?_;have fin:∀(ns:List Nd),iS ns->ns.length<=14->∀(mem:aQ) (nx:Nat),kH 0 (λr m k=>∃ns:List Nd,iS ns/\ns.length<=14/\r = .agg [.il 12 (bC ns)]/\m=[]/\k=0) (.agg [.il 12 (bC ns)]) mem nx:=λns h1 h2 mem nx=>
  aA (.agg' (.cons (.il' (bA _)) .nil)) ⟨ns,h1,h2,rfl,rfl,rfl⟩
 refine Z ?_;refine aO (Ng (aH l) hlen) ?_;refine Z ?_;by_cases h0:l.length=0
 .rw[show decide (((aV l).length:Int)>0)=false by rw[aH,aAn];omega];refine Z ?_;refine aJ.pre bJ (mem':=[(0,.row 25 1 [.agg [.nsl]])]) [(0,0)] (by rfl) ⟨aI 0 (.cons nn .nil),trivial⟩ (.cons (.fz' (id:=1) (t:=3) (xs:=aV l) rfl rfl sq sq (aT l)) .nil) ?_;refine N4 l hl λns hT hns=>?_
  refine Z ?_;exact fin ns hT hns _ _
 .rw[show decide (((aV l).length:Int)>0)=true by rw[aH];simp;omega];refine Z ?_;refine aJ.pre bJ (mem':=[(3,gB [at_] 0),(1,.row 3 1 (aV l)),(0,.row 25 1 [.agg [.nsl]])]) [(3,3),(1,1),(0,0)] (by rfl)
   ⟨⟨3,_,rfl,rfl,.cons (.agg (.cons (.fz' (id:=2) (t:=3) (xs:=aV [at_]) rfl rfl (by simp[aV]) (by simp[aV]) (aT _)) (.s .nil))) .nil⟩,aI 1 (aT _),aI 0 (.cons nn .nil),trivial⟩ (.cons (.ptr 3 3 0 0 rfl) (.s .nil)) ?_
  refine Qu 3 (l:=[at_]) (i:=0) ((aV l).length:Nat) om (by rw[aH];omega) (by rw[aH];omega) rfl ?_;intro k k0 k1;rw[aH] at k1;obtain⟨k,rfl⟩:=ZD k0;have e1:(aV l)[0+((k:Nat):Int).toNat]? = some (.int .i64 l[k]):=by simp[bK,Yw (show k<l.length by omega)]
  have g1:Nat.blt ((k:Nat):Int).toNat (aV l).length=true:=Y3 (by rw[aH];simp;omega);have hset:(aV l).set (0+((k:Nat):Int).toNat) (.int .i64 n)=aV (l.set k n):=by simp[aV,aA9]
  have hl':∀x∈l.set k n,i64 x:=λx hx=>by
   rcases aBr hx with hx|rfl
   .exact hl x hx
   .exact hn
  generalize l[k]=o at e1;refine Z ?_;repeat((first|refine aO g1 ?_|refine aC e1 ?_|refine dF.2 ?_);refine Z ?_)
  rw[hset];refine aJ.pre bJ (mem':=[(0,.row 25 1 [.agg [.nsl]])]) [(0,0)] (by rfl) ⟨aI 0 (.cons nn .nil),trivial⟩ (.cons (.fz' (id:=1) (t:=3) (xs:=aV (l.set k n)) rfl rfl (by simp[aV]) (by rw[ZU];exact Y9 (by simp[aV])) (aT _)) .nil) ?_;refine N4 (l.set k n) hl' λns hT hns=>?_
  refine Z ?_;exact fin ns hT hns _ _
theorem WM(a b:bD)(ha:iG a):aX prog [] 103 [bY a,bY b] (.bool (cN a b == 0)):=by
 have hc:=oE a b ha;obtain⟨a1,a2,a3,a4⟩:=a;obtain⟨b1,b2,b3,b4⟩:=b;generalize cN (.mk a1 a2 a3 a4) (.mk b1 b2 b3 b4)=c at hc |-;refine aG bJ func103 rfl ?_;refine Z ?_;refine hc.go ?_;refine Z ?_;exact aA nn ⟨rfl,rfl,rfl⟩
theorem Ki(l m:List bD)(hl:l.length<=4294967296)(hm:m.length<=4294967296)(hok:∀a∈l,iG a) :
  aX prog [] 107 [.il 4 (aR l),.il 4 (aR m),.fn (.func 103) [] []] (.bool (dC l m)):=by
 have hE:=λa ha b=>WM a b (hok a ha)
 refine aG bJ func107 rfl ?_;refine Z ?_;refine aL (λh=>?_) (λh=>?_)
 .have h1:l.length≠m.length:=by rw[aB,aB] at h;simp at h;omega
  have:dC l m=false:=by
   cases e:dC l m with
   | false=>rfl
   | true=>exact absurd (lO e) h1
  rw[this];refine Z ?_;exact aA nn ⟨rfl,rfl,rfl⟩
 .have h1:l.length=m.length:=by rw[aB,aB] at h;simp at h;omega
  refine Z ?_;refine bI.at bJ (λi:Nat=>i<=l.length/\dC l m=dC (l.drop i) (m.drop i)) (λi=>⟨[(1,.il 4 (aR m)),(2,.fn (.func 103) [] []),(15,.il 4 (aR l)),(16,.int .i64 l.length),(17,.int .i64 i)],[],0,32⟩) (λi=>l.length-i) 0 [] ⟨sq,sq⟩
   (bX ⟨aP (.il' (aW _)),aF,aP (.il' (aW _)),⟨_,rfl,.int (by rw[aB])⟩,aF,trivial⟩) ?_
  rintro i ⟨hi,hs⟩;refine Z ?_;refine aL (λhb=>?_) (λhb=>?_)
  .have hil:i<l.length:=su hb
   obtain⟨p1,p2,p3,p4,pm,pg,pe,ep⟩:=dE (l:=l) (k:=i) hil;obtain⟨q1,q2,q3,q4,qm,qg,qe,eq⟩:=dE (l:=m) (k:=i) om;rw[List.drop_eq_getElem_cons hil,List.drop_eq_getElem_cons (show i<m.length by omega),dC,pe,qe] at hs;have hc:=hE _ pm (.mk q1 q2 q3 q4);obtain⟨c,hc0⟩:∃c,c=cN (.mk p1 p2 p3 p4) (.mk q1 q2 q3 q4):=⟨_,rfl⟩
   rw[<-hc0] at hc hs;refine Z ?_;repeat((first|refine aC ep ?_|refine aC eq ?_|refine aY ?_);refine Z ?_)
   refine hc.go ?_;refine Z ?_;refine aL (λh=>?_) (λh=>?_)
   .have:decide (c=0)=false:=su h
    rw[hs,this];refine Z ?_;exact aA nn ⟨rfl,rfl,rfl⟩
   .have:decide (c=0)=true:=su h
    rw[this] at hs;refine Z ?_;exact .mk (i+1) [] ⟨om,hs⟩ (bX ⟨aP (.il' (aW _)),aF,aP (.il' (aW _)),aF,⟨_,rfl,.w64 om oq⟩,trivial⟩) om
  .have hil:i=l.length:=by simp at hb;omega
   rw[hil,Z8,h1,Z8,dC] at hs;rw[hs];refine Z ?_;exact aA nn ⟨rfl,rfl,rfl⟩
theorem Iw{l:List bD}{v:bD}(h:(cE l v).2=true):kJ l v=((cE l v).1,true):=by simp[kJ,h]
theorem Iz{l:List bD}{v:bD}(h:(cE l v).2=false)(h0:(cE l v).1=0):kJ l v=(0,false):=by simp[kJ,h,h0]
theorem Jq{l:List bD}{v:bD}(h:(cE l v).2=false)(h0:(cE l v).1≠0)(h1:(cE l v).1=l.length):kJ l v=((cE l v).1-1,false):=by
 have:l[(cE l v).1]? = none:=ZH om;simp[kJ,h,h0,this]
theorem Mq{l:List bD}{v a b:bD}(h:(cE l v).2=false)(h0:(cE l v).1≠0)(ha:l[(cE l v).1-1]? = some a)(hb:l[(cE l v).1]? = some b) :
  kJ l v=if Ag a=0/\Ag v=0/\Ag b=0/\Oj (HA a) (HA v) (HA b)=true then((cE l v).1-1,false) else((cE l v).1,false):=by
 simp[kJ,h,h0,ha,hb]
theorem NL(k:Int)(b:Bool):NN (.tup [.int .i64 k,.bool b]):=.tup' (.cons (.int _ _) (.cons (.bool _) .nil))
theorem PI(l:List bD)(v:bD)(hl:l.length<=4294967296)(hok:∀a∈l,iG a)(hs:lK l) :
  aX prog [] 172 [.il 4 (aR l),bY v] (.tup [.int .i64 (kJ l v).1,.bool (kJ l v).2]):=by
 obtain⟨vk,vn,vs,vks⟩:=v;have nl:NN (.il 4 (aR l)):=.il' (aW l);refine fG bJ func172 rfl ?_
 conv=>whnf
 refine(TL l (.mk vk vn vs vks) hl hok hs).use bJ (.cons nl (.cons (bT (.mk vk vn vs vks)) .nil)) (NL _ _) ?_;have e1:=@Iw l (.mk vk vn vs vks);have e2:=@Iz l (.mk vk vn vs vks);have e3:=@Jq l (.mk vk vn vs vks);have e4:=@Mq l (.mk vk vn vs vks);have hle:=rQ l (.mk vk vn vs vks);generalize cE l (.mk vk vn vs vks)=f at *;obtain⟨p,b⟩:=f
 dsimp only at e1 e2 e3 e4 hle |-
 cases b with
 | true=>
  conv=>whnf
  exact aA (NL _ _) ⟨by rw[e1 rfl],rfl,rfl⟩
 | false=>
  conv=>whnf
  refine aL (λh=>?_) (λh=>?_)
  .have h:p=0:=su h
   conv=>whnf
   exact aA (NL _ _) ⟨by rw[e2 rfl h];rfl,rfl,rfl⟩
  have h0:p≠0:=su h
  conv=>whnf
  refine aL (λh=>?_) (λh=>?_)
  .have h1:p=l.length:=by rw[aB] at h;simp at h;omega
   conv=>whnf
   exact aA (NL _ _) ⟨by rw[e3 rfl h0 h1,bS oq];congr 3;omega,rfl,rfl⟩
  have h1:p<l.length:=by rw[aB] at h;simp at h;omega
  have hw:IntKind.i64.wrap ((p:Int)-1)=((p-1:Nat):Int):=by rw[bS oq];omega
  have c1:=uW (show p-1<l.length by omega);have c2:=uW h1;have g1:=Yw (show p-1<l.length by omega);have g2:=Yw h1;generalize l[p-1]=a at *;generalize l[p]=b at *;obtain⟨ak,an,az,aks⟩:=a;obtain⟨bk,bn,bz,bks⟩:=b;have hmid:=e4 rfl h0 g1 g2
  conv=>whnf
  rw[hw]
  conv=>whnf
  refine aC c1 ?_
  conv=>whnf
  refine aC c2 ?_
  conv=>whnf
  repeat(first|(refine aY ?_;conv=>whnf)|(refine aC c1 ?_;conv=>whnf)|(refine aC c2 ?_;conv=>whnf))
  have fin1:kJ l (.mk vk vn vs vks)=(p,false)->∀m n,kH 0 (λr' m n=>r' = .tup [.int .i64 (kJ l (.mk vk vn vs vks)).1,.bool (kJ l (.mk vk vn vs vks)).2]/\m=[]/\n=0) (.tup [.int .i64 p,.bool false]) m n:=
   λh m n=>aA (NL _ _) ⟨by rw[h],rfl,rfl⟩
  refine aL (λq1=>?_) (λq1=>?_)
  .have q1':ak=0:=su q1
   rw[q1]
   conv=>whnf
   refine aL (λq2=>?_) (λq2=>?_)
   .have q2':vk=0:=su q2
    rw[q2]
    conv=>whnf
    refine aL (λq3=>?_) (λq3=>?_)
    .have q3':bk=0:=su q3
     rw[q3]
     conv=>whnf
     refine aL (λq4=>?_) (λq4=>?_)
     .conv=>whnf
      refine aA (NL _ _) ⟨?_,rfl,rfl⟩;rw[hmid,Y4 ⟨q1',q2',q3',q4⟩,hw]
     .conv=>whnf
      exact fin1 (by rw[hmid,Yz (λh=>by rw[show Oj (HA (.mk ak an az aks)) (HA (.mk vk vn vs vks)) (HA (.mk bk bn bz bks))=false from q4] at h;simp at h)]) _ _
    .rw[q3]
     conv=>whnf
     exact fin1 (by rw[hmid,Yz (λh=>by rw[show Ag (.mk bk bn bz bks)=bk from rfl] at h;simp at q3;exact q3 h.2.2.1)]) _ _
   .rw[q2]
    conv=>whnf
    exact fin1 (by rw[hmid,Yz (λh=>by rw[show Ag (.mk vk vn vs vks)=vk from rfl] at h;simp at q2;exact q2 h.2.1)]) _ _
  .rw[q1]
   conv=>whnf
   exact fin1 (by rw[hmid,Yz (λh=>by rw[show Ag (.mk ak an az aks)=ak from rfl] at h;simp at q1;exact q1 h.1)]) _ _
theorem Xs(l m:List Int)(hl:l.length<=4294967296):aX prog [] 105 [.il 1 (aV l),.il 1 (aV m)] (.bool (decide (l=m))):=by
 refine aG bJ func105 rfl ?_;refine Z ?_;refine aL (λh=>?_) (λh=>?_)
 .have h1:l.length≠m.length:=by rw[aH,aH] at h;simp at h;omega
  rw[ZN (λe=>h1 (by rw[e]))];refine Z ?_;exact aA nn ⟨rfl,rfl,rfl⟩
 .have h1:l.length=m.length:=by rw[aH,aH] at h;simp at h;omega
  refine Z ?_;refine bI.at bJ (λi:Nat=>i<=l.length/\decide (l=m)=decide (l.drop i=m.drop i)) (λi=>⟨[(0,.il 1 (aV l)),(1,.il 1 (aV m)),(12,.int .i64 l.length),(13,.int .i64 i)],[],0,26⟩) (λi=>l.length-i) 0 [] ⟨sq,sq⟩
   (bX ⟨aP (.il' (aT _)),aP (.il' (aT _)),⟨_,rfl,.int (by rw[aH])⟩,aF,trivial⟩) ?_
  rintro i ⟨hi,hs⟩;refine Z ?_;refine aL (λhb=>?_) (λhb=>?_)
  .have hil:i<l.length:=su hb
   have ep:(aV l)[((i:Nat):Int).toNat]? = some (.int .i64 l[i]):=by simp[bK,Yw hil]
   have eq:(aV m)[((i:Nat):Int).toNat]? = some (.int .i64 (m[i])):=by simp[bK,Yw (show i<m.length by omega)]
   rw[List.drop_eq_getElem_cons hil,List.drop_eq_getElem_cons (show i<m.length by omega)] at hs;generalize l[i]=p at ep hs;generalize m[i]=q at eq hs;refine Z ?_;repeat((first|refine aC ep ?_|refine aC eq ?_|refine aY ?_);refine Z ?_)
   refine aL (λh=>?_) (λh=>?_)
   .have hne:p≠q:=su h
    rw[hs,ZN (λe=>hne (List.cons.inj e).1)];refine Z ?_;exact aA nn ⟨rfl,rfl,rfl⟩
   .have hne:p=q:=su h
    subst hne;refine Z ?_;exact .mk (i+1) [] ⟨om,by rw[hs];simp⟩ (bX ⟨aP (.il' (aT _)),aP (.il' (aT _)),aF,⟨_,rfl,.w64 om oq⟩,trivial⟩) om
  .have hil:i=l.length:=by simp at hb;omega
   rw[hil,Z8,h1,Z8] at hs;rw[hs];refine Z ?_;exact aA nn ⟨rfl,rfl,rfl⟩
theorem Xr(l m:List (List UInt8))(hl:l.length<=4294967296):aX prog [] 106 [.il 1 (oN l),.il 1 (oN m)] (.bool (decide (l=m))):=by
 refine aG bJ func106 rfl ?_;refine Z ?_;refine aL (λh=>?_) (λh=>?_)
 .have h1:l.length≠m.length:=by rw[cS,cS] at h;simp at h;omega
  rw[ZN (λe=>h1 (by rw[e]))];refine Z ?_;exact aA nn ⟨rfl,rfl,rfl⟩
 .have h1:l.length=m.length:=by rw[cS,cS] at h;simp at h;omega
  refine Z ?_;refine bI.at bJ (λi:Nat=>i<=l.length/\decide (l=m)=decide (l.drop i=m.drop i)) (λi=>⟨[(0,.il 1 (oN l)),(1,.il 1 (oN m)),(12,.int .i64 l.length),(13,.int .i64 i)],[],0,26⟩) (λi=>l.length-i) 0 [] ⟨sq,sq⟩
   (bX ⟨aP (.il' (jD _)),aP (.il' (jD _)),⟨_,rfl,.int (by rw[cS])⟩,aF,trivial⟩) ?_
  rintro i ⟨hi,hs⟩;refine Z ?_;refine aL (λhb=>?_) (λhb=>?_)
  .have hil:i<l.length:=su hb
   have ep:(oN l)[((i:Nat):Int).toNat]? = some (.str l[i]):=by simp[C3,Yw hil]
   have eq:(oN m)[((i:Nat):Int).toNat]? = some (.str (m[i])):=by simp[C3,Yw (show i<m.length by omega)]
   rw[List.drop_eq_getElem_cons hil,List.drop_eq_getElem_cons (show i<m.length by omega)] at hs;generalize l[i]=p at ep hs;generalize m[i]=q at eq hs;refine Z ?_;repeat((first|refine aC ep ?_|refine aC eq ?_|refine aY ?_);refine Z ?_)
   refine aL (λh=>?_) (λh=>?_)
   .have hne:p≠q:=su h
    rw[hs,ZN (λe=>hne (List.cons.inj e).1)];refine Z ?_;exact aA nn ⟨rfl,rfl,rfl⟩
   .have hne:p=q:=su h
    subst hne;refine Z ?_;exact .mk (i+1) [] ⟨om,by rw[hs];simp⟩ (bX ⟨aP (.il' (jD _)),aP (.il' (jD _)),aF,⟨_,rfl,.w64 om oq⟩,trivial⟩) om
  .have hil:i=l.length:=by simp at hb;omega
   rw[hil,Z8,h1,Z8] at hs;rw[hs];refine Z ?_;exact aA nn ⟨rfl,rfl,rfl⟩
theorem T2:Tryz.prog.eqGuardType Tryz.prog.depth 188=false:=by kernel_rfl
theorem Ud(x y:Nd)(hx:sU x)(hy:sU y):aX prog [] 45 [.ip (cK x),.ip (cK y)] (.bool (pJ x y)):=by
 have h1:=Xs x.weights y.weights hx.weights;have h2:=Xr x.labels y.labels hx.labels;have h3:=Ki x.values y.values hx.values hy.values (λa ha=>(hx.valuesI a ha).1);have h4:=WM x.value y.value hx.value;have hres:pJ x y=((decide (x.kind=y.kind) && (decide (x.lo=y.lo) && (decide (x.hi=y.hi) && (decide (x.kids.length=y.kids.length) && decide (x.name=y.name))))) && decide (x.weights=y.weights) && decide (x.labels=y.labels) && dC x.values y.values && (cN x.value y.value == 0)):=rfl;generalize pJ x y=res at hres |-;generalize decide (x.weights=y.weights)=b1 at h1 hres;generalize decide (x.labels=y.labels)=b2 at h2 hres;generalize dC x.values y.values=b3 at h3 hres;generalize (cN x.value y.value == 0)=b4 at h4 hres;have hxn:=bH x;have hyn:=bH y;clear hx hy;obtain⟨kind,name,lo,hi',ws,lbs,vals,kids,⟨vk,vn,vs,vks⟩⟩:=x;obtain⟨kind2,name2,lo2,hi2,ws2,lbs2,vals2,kids2,⟨vk2,vn2,vs2,vks2⟩⟩:=y;simp only at h1 h2 h3 h4 hres;refine aG bJ func45 rfl ?_;refine Z ?_;rw[T2];refine Z ?_;have hc:(kind == kind2 && (lo == lo2 && (hi' == hi2 && (((aV kids).length:Int) == ((aV kids2).length:Int) && (name == name2 && true)))))=(decide (kind=kind2) && (decide (lo=lo2) && (decide (hi'=hi2) && (decide (kids.length=kids2.length) && decide (name=name2))))):=by
  rw[aH,aH,Ze];simp;omega
 rw[hc];generalize (decide (kind=kind2) && (decide (lo=lo2) && (decide (hi'=hi2) && (decide (kids.length=kids2.length) && decide (name=name2)))))=b0 at hres |-;clear hc;cases b0 with
 | false=>
  refine Z ?_;exact aA nn ⟨by rw[hres];simp,rfl,rfl⟩
 | true=>
 refine Z ?_;refine h1.go ?_;cases b1 with
 | false=>
  refine Z ?_;exact aA nn ⟨by rw[hres];simp,rfl,rfl⟩
 | true=>
 refine Z ?_;refine h2.go ?_ (.cons (.il' (jD _)) (.cons (.il' (jD _)) .nil));cases b2 with
 | false=>
  refine Z ?_;exact aA nn ⟨by rw[hres];simp,rfl,rfl⟩
 | true=>
 refine Z ?_;refine h3.go ?_;cases b3 with
 | false=>
  refine Z ?_;exact aA nn ⟨by rw[hres];simp,rfl,rfl⟩
 | true=>
 refine Z ?_;refine h4.go ?_;refine Z ?_;exact aA nn ⟨by rw[hres];simp,rfl,rfl⟩
theorem K0{A:List Nd}(h:eG A):Te A:=⟨h.ok,h.val,h.vals,λx hx=>by have:=h.vlen x hx;omega,λx hx=>by have:=h.klen x hx;omega⟩
theorem CF(A:List Nd)(h:eG A):aX prog [] 43 [.agg [.il 12 (bC A)]] (.bool (dU A)):=by
 have hV:=GU A (K0 h);have hu:dU A=(decide (0<A.length) && decide (cR A=0)):=rfl;generalize dU A=u at hu |-;generalize cR A=vt at hV hu;refine aG bJ func43 rfl ?_;refine Z ?_;rw[bW];by_cases h0:0<A.length
 .rw[Y7 h0] at hu;rw[show decide ((A.length:Int)>0)=true by simp;omega];refine Z ?_;refine hV.go ?_ (.cons (.agg' (.cons (.il' (bA _)) .nil)) .nil);refine Z ?_;exact aA nn ⟨by rw[hu,aBb,show (vt == 0)=decide (vt=0) by rw[Ze];simp],rfl,rfl⟩
 .rw[ZN h0] at hu;rw[show decide ((A.length:Int)>0)=false by rw[aAn];omega];refine Z ?_;exact aA nn ⟨by rw[hu];simp,rfl,rfl⟩
theorem nO{G β:Type}(f:G->β){l:List G}{k:Nat}{a:G}(h:l[k]? = some a):(l.take (k+1)).map f=(l.take k).map f++[f a]:=by
 obtain⟨h1,h2⟩:=Y0.1 h;rw[List.take_succ_eq_append_getElem h1,aAQ,h2];rfl
theorem DZ(l:List Bool)(b:Bool):pF (l++[b])=pF l++[.bool b]:=by simp[pF]
theorem Ey(l:List Int)(b:Int):aV (l++[b])=aV l++[.int .i64 b]:=by simp[aV]
theorem QC(x y:Nd)(hx:AU x)(hy:AU y)(hll:∀s∈x.labels,s.length<=4294967296)(hbl:y.labels.length<=1000)(hxv:x.values.length<=1000000)(hsy:lK y.values)(hyv:∀v∈y.values,iG v)(hyl:y.values.length<=1000000) :
  aX prog gz 102 [.ip (cK x),.ip (cK y)] (.tup [.il 1 (aV ((rW x y).map (·.1))),.il 1 (pF ((rW x y).map (·.2)))]):=by
 have hO:=λ(k:Nat) (h:k<=2000)=>SO x y k oq hx hy hll hbl
 have hN:=λv=>PI y.values v om hyv hsy
 have hch:rW x y=if x.kind=2/\y.kind=2 then(List.range x.kids.length).map (λk:Nat=>Al x y k) else if x.kind=4/\y.kind=4 then x.values.map (Ap y.values) else []:=rfl
 have hkl:=hx.klen;have hxn:=bH x;have hyn:=bH y;have fin:∀(ch:List (Int × Bool)) (mem:aQ) (nx:Nat) (id1 id2 n:Nat),rW x y=ch->ch.length=n->lk mem id1=some (.row 3 1 (aV (ch.map (·.1))))->lk mem id2=some (.row 4 1 (pF (ch.map (·.2)))) ->
   kH 0 (λr m n=>r = .tup [.il 1 (aV ((rW x y).map (·.1))),.il 1 (pF ((rW x y).map (·.2)))]/\m=[]/\n=0) (.tup [.sl id1 0 n,.sl id2 0 n]) mem nx:=by
  rintro ch mem nx id1 id2 n rfl rfl h1 h2;exact cW (.tup' (.cons (.fz' h1 rfl (by rw[aH];simp) (by rw[ZU];exact Y9 (by rw[aH];simp)) (aT _)) (.cons (.fz' h2 rfl (by rw[oO];simp) (by rw[ZU];exact Y9 (by rw[oO];simp)) (l9 _)) .nil))) ⟨rfl,rfl,rfl⟩
 have finN:∀(mem:aQ) (nx:Nat),rW x y=[]->kH 0 (λr m n=>r = .tup [.il 1 (aV ((rW x y).map (·.1))),.il 1 (pF ((rW x y).map (·.2)))]/\m=[]/\n=0) (.tup [.nsl,.nsl]) mem nx:=by
  intro mem nx h;rw[h];exact cW (.tup' (.cons (.nil 1) (.cons (.nil 1) .nil))) ⟨rfl,rfl,rfl⟩
 generalize hchv:rW x y=ch at hch fin finN |-;clear hchv;generalize Al x y=opf at hO hch;clear hx hy hll hsy hyv;obtain⟨kind,name,lo,hi',ws,lbs,vals,kids,⟨vk,vn,vs,vks⟩⟩:=x;obtain⟨kind2,name2,lo2,hi2,ws2,lbs2,vals2,kids2,⟨vk2,vn2,vs2,vks2⟩⟩:=y;simp only at hO hN hch hkl hxv hyl;refine aG fQ func102 rfl ?_;refine Z ?_;by_cases k2:kind=2
 .subst k2;refine Z ?_;by_cases k2':kind2=2
  .subst k2';rw[Y4 ⟨rfl,rfl⟩] at hch;refine Z ?_;refine bI.ph 3 1 ?_;refine bI.ph 4 1 ?_;refine bI.at fQ (λk:Nat=>k<=kids.length)
    (λk=>⟨[(0,.ip (cK ⟨2,name,lo,hi',ws,lbs,vals,kids,.mk vk vn vs vks⟩)),(1,.ip (cK ⟨2,name2,lo2,hi2,ws2,lbs2,vals2,kids2,.mk vk2 vn2 vs2 vks2⟩)),(6,.sl 0 0 k),(7,.sl 1 0 k),(32,.int .i64 kids.length),(33,.int .i64 k)],
     [(0,.row 3 1 (aV ((ch.take k).map (·.1)))),(1,.row 4 1 (pF ((ch.take k).map (·.2))))],2,98⟩) (λk=>kids.length-k) 0 [(0,0),(1,1)] sq
    (aK _ rfl ⟨aI 0 .nil,aI 1 .nil,trivial⟩ ⟨aP (.ip' hxn),aP (.ip' hyn),⟨_,rfl,.nslk 0 0 _ rfl rfl⟩,⟨_,rfl,.nslk 1 1 _ rfl rfl⟩,⟨_,rfl,.int (by rw[aH])⟩,aF,trivial⟩) ?_
   intro k hk;refine Z ?_;refine aL (λhb=>?_) (λhb=>?_)
   .have hlt:k<kids.length:=su hb
    have hO:=hO k om;have hck:ch[k]? = some (opf k):=by rw[hch,ZT,aBS hlt];rfl
    have hcl:ch.length=kids.length:=by rw[hch];simp
    have e1:=nO (·.1) hck;have e2:=nO (·.2) hck;have hl1:((ch.take k).map (·.1)).length=k:=by simp;omega
    have hl2:((ch.take k).map (·.2)).length=k:=by simp;omega
    generalize opf k=c at hO hck e1 e2;obtain⟨cn,cb⟩:=c;refine Z ?_;refine hO.use fQ (.cons hxn (.cons hyn (.cons nn .nil))) nn ?_;refine Rt ?_;refine aO (cP rfl rfl (by rw[aH,hl1]) (by simp;omega)) ?_;refine Z ?_;refine aO (cP rfl rfl (by rw[oO,hl2]) (by simp;omega)) ?_;refine Z ?_;exact .mk (k+1) [(16,0),(18,1)] om
     (aK _ rfl ⟨⟨16,_,rfl,rfl,.eq (aT _) (by rw[e1,Ey];rfl)⟩,⟨18,_,rfl,rfl,.eq (l9 _) (by rw[e2,DZ];rfl)⟩,trivial⟩ ⟨aP (.ip' hxn),aP (.ip' hyn),⟨_,rfl,.slE rfl sq⟩,⟨_,rfl,.slE rfl sq⟩,aF,⟨_,rfl,.w64 om oq⟩,trivial⟩) om
   .have hlt:k=kids.length:=by simp at hb;omega
    have hcl:ch.length=kids.length:=by rw[hch];simp
    rw[hlt,Y9 om];refine Z ?_;exact fin ch _ _ 0 1 _ rfl hcl rfl rfl
  .rw[Yz (λh=>k2' h.2),Yz (λh=>absurd h.1 (by decide))] at hch;rw[show (kind2 == 2)=false by simpa using k2'];refine Z ?_;exact finN _ _ hch
 .rw[Yz (λh=>k2 h.1)] at hch;rw[show (kind == 2)=false by simpa using k2];refine Z ?_;by_cases k4:kind=4
  .subst k4;refine Z ?_;by_cases k4':kind2=4
   .subst k4';rw[Y4 ⟨rfl,rfl⟩] at hch;refine Z ?_;refine bI.ph 3 1 ?_;refine bI.ph 4 1 ?_;refine bI.at fQ (λk:Nat=>k<=vals.length)
     (λk=>⟨[(1,.ip (cK ⟨4,name2,lo2,hi2,ws2,lbs2,vals2,kids2,.mk vk2 vn2 vs2 vks2⟩)),(6,.sl 0 0 k),(7,.sl 1 0 k),(72,.il 4 (aR vals)),(73,.int .i64 vals.length),(74,.int .i64 k)],
      [(0,.row 3 1 (aV ((ch.take k).map (·.1)))),(1,.row 4 1 (pF ((ch.take k).map (·.2))))],2,98⟩) (λk=>vals.length-k) 0 [(0,0),(1,1)] sq
     (aK _ rfl ⟨aI 0 .nil,aI 1 .nil,trivial⟩ ⟨aP (.ip' hyn),⟨_,rfl,.nslk 0 0 _ rfl rfl⟩,⟨_,rfl,.nslk 1 1 _ rfl rfl⟩,aP (.il' (aW _)),⟨_,rfl,.int (by rw[aB])⟩,aF,trivial⟩) ?_
    intro k hk;refine Z ?_;refine aL (λhb=>?_) (λhb=>?_)
    .have hlt:k<vals.length:=su hb
     obtain⟨v1,v2,v3,v4,vm,vg,-,ev⟩:=dE (l:=vals) (k:=k) hlt;have hN:=hN (.mk v1 v2 v3 v4);have hck:ch[k]? = some (Ap vals2 (.mk v1 v2 v3 v4)):=by rw[hch,ZT,vg];rfl
     have hcl:ch.length=vals.length:=by rw[hch];simp
     have e1:=nO (·.1) hck;have e2:=nO (·.2) hck;have hl1:((ch.take k).map (·.1)).length=k:=by simp;omega
     have hl2:((ch.take k).map (·.2)).length=k:=by simp;omega
     unfold Ap at e1 e2;generalize kJ vals2 (.mk v1 v2 v3 v4)=c at hN e1 e2;obtain⟨cn,cb⟩:=c;simp only at e1 e2 hN;refine Z ?_;refine aC ev ?_;refine Rt ?_;refine hN.goG ?_;refine Rt ?_;refine aO (cP rfl rfl (by rw[aH,hl1]) (by simp;omega)) ?_;refine Z ?_;refine aO (cP rfl rfl (by rw[oO,hl2]) (by simp;omega)) ?_;refine Z ?_;exact .mk (k+1) [(15,0),(17,1)] om
      (aK _ rfl ⟨⟨15,_,rfl,rfl,.eq (aT _) (by rw[e1,Ey];rfl)⟩,⟨17,_,rfl,rfl,.eq (l9 _) (by rw[e2,DZ];rfl)⟩,trivial⟩ ⟨aP (.ip' hyn),⟨_,rfl,.slE rfl sq⟩,⟨_,rfl,.slE rfl sq⟩,aP (.il' (aW _)),aF,⟨_,rfl,.w64 om oq⟩,trivial⟩) om
    .have hlt:k=vals.length:=by simp at hb;omega
     have hcl:ch.length=vals.length:=by rw[hch];simp
     rw[hlt,Y9 om];refine Z ?_;exact fin ch _ _ 0 1 _ rfl hcl rfl rfl
   .rw[Yz (λh=>k4' h.2)] at hch;rw[show (kind2 == 4)=false by simpa using k4'];refine Z ?_;exact finN _ _ hch
  .rw[Yz (λh=>k4 h.1)] at hch;rw[show (kind == 4)=false by simpa using k4];refine Z ?_;exact finN _ _ hch
def pS(L:List Mt):List (AV × AV):=L.map λm=>(.agg [.int .i64 m.old,.int .i64 m.now],.bool true)
theorem Ku(L:List Mt)(m:Mt):pS (L++[m])=pS L++[(.agg [.int .i64 m.old,.int .i64 m.now],.bool true)]:=by simp[pS]
theorem XJ:Tryz.prog.stoodInHeld 184=false:=by kernel_rfl
theorem Tf(a b c d:Nat):A8 prog 184 (.agg [.int .i64 a,.int .i64 b]) (.agg [.int .i64 c,.int .i64 d])=some (decide (c=a) && decide (d=b)):=by
 have e:GF prog 184 [.int .i64 a,.int .i64 b] [.int .i64 c,.int .i64 d]=some (decide (c=a) && decide (d=b)):=by
  unfold GF;rw[XJ]
  conv=>lhs;whnf
  rw[Option.some.injEq,Ze];simp;omega
 exact e
theorem Gl{o n:Nat}:∀(L:List Mt) (i:Nat),iH L o n=false->mE prog 184 (.agg [.int .i64 o,.int .i64 n]) (pS L) i=some none
 | [],i,_=>rfl
 | m::r,i,h=>by
  simp only[iH,List.any_cons,aA8] at h;simp only[pS,Z2,mE,Tf,h.1];exact Gl r (i+1) h.2
theorem Hz{o n:Nat}:∀(L:List Mt) (i:Nat),iH L o n=true->∃j,mE prog 184 (.agg [.int .i64 o,.int .i64 n]) (pS L) i=some (some (j,.bool true))
 | [],i,h=>by simp[iH] at h
 | m::r,i,h=>by
  simp only[iH,List.any_cons] at h;simp only[pS,Z2,mE,Tf];cases hd:(decide (m.old=o) && decide (m.now=n)) with
  | true=>exact⟨i,rfl⟩
  | false=>
   rw[hd,aBi] at h;exact Hz r (i+1) h
theorem Ue{mem:aQ}{id o n:Nat}{L:List Mt}(hm:lk mem id=some (.mapb (pS L))):sX prog mem 181 (.mp id) (.agg [.int .i64 o,.int .i64 n]) false=some (.bool (iH L o n)):=by
 have key:(match mE prog 184 (.agg [.int .i64 o,.int .i64 n]) (pS L) 0 with
     | some (some (_,v))=>some v
     | some none=>some (AV.bool false)
     | none=>none)=some (.bool (iH L o n)):=by
  cases h:iH L o n with
  | false=>rw[Gl L 0 h]
  | true=>obtain⟨j,hj⟩:=Hz L 0 h;rw[hj]
 have u:Tryz.prog.underlying 181=some (.map 184 4):=rfl;have ak:HW prog 184 (.agg [.int .i64 o,.int .i64 n])=true:=rfl;have z:nE prog 4=some (.bool false):=rfl;unfold sX;simp only[u,ak,hm,z];exact key
def dM(A B:List Nd)(L:List Mt)(rid:Nat)(rest:aQ):aQ:=
 (0,.row 181 1 [.mp 5])::(1,.row 25 1 [.agg [.il 12 (bC A)]])::(2,.row 25 1 [.agg [.il 12 (bC B)]])::(3,.row 103 1 [.sl rid 0 L.length]) ::
 (4,.row 182 1 [.fn (.func 101) [] [.ptr 0 0 0,.ptr 1 0 0,.ptr 2 0 0,.ptr 3 0 0,.ptr 4 0 0]])::(5,.mapb (pS L))::(rid,.row 107 4 (oD L))::rest
theorem Lz{mem:aQ}{J:List (Nat × Nat)}(L:List Mt):Xc mem J (pS L) (pS L):=⟨rfl,λi e e' h1 h2=>by
 rw[h1] at h2;cases h2;unfold pS at h1;rw[ZT] at h1;cases hm:L[i]? with
 | none=>rw[hm] at h1;cases h1
 | some m=>
  rw[hm] at h1;cases h1;exact⟨.same _ nn,.same _ nn⟩⟩
theorem nT{mem:aQ}{J:List (Nat × Nat)}(A:List Nd):tO mem J [.agg [.il 12 (bC A)]] [.agg [.il 12 (bC A)]]:=.same (.cons (.agg' (.cons (.il' (bA _)) .nil)) .nil)
theorem g8{mem:aQ}{J:List (Nat × Nat)}{A B:List Nd}{L:List Mt}{len rid rid':Nat}{xs:List AV}{es:List (AV × AV)}{rest:aQ}(hl:len=L.length)(s0:lk J 0=some 0)(s1:lk J 1=some 1)(s2:lk J 2=some 2)(s3:lk J 3=some 3)(s4:lk J 4=some 4)(s5:lk J 5=some 5)(sr:lk J rid=some rid')
  (m0:lk mem 0=some (.row 181 1 [.mp 5])) (m1:lk mem 1=some (.row 25 1 [.agg [.il 12 (bC A)]])) (m2:lk mem 2=some (.row 25 1 [.agg [.il 12 (bC B)]])) (m3:lk mem 3=some (.row 103 1 [.sl rid 0 len]))
  (m4:lk mem 4=some (.row 182 1 [.fn (.func 101) [] [.ptr 0 0 0,.ptr 1 0 0,.ptr 2 0 0,.ptr 3 0 0,.ptr 4 0 0]])) (m5:lk mem 5=some (.mapb es)) (he:es=pS L) (mr:lk mem rid=some (.row 107 4 xs)) (hx:tO mem J xs (oD L))
  (hr:cO mem J rest):cO mem J (dM A B L rid' rest):=
 ⟨⟨0,_,s0,m0,.cons (.one rfl rfl (.mp 5 5 s5)) .nil⟩,⟨1,_,s1,m1,nT A⟩,⟨2,_,s2,m2,nT B⟩,⟨3,_,s3,m3,.cons (.one rfl rfl (.slE sr hl)) .nil⟩,
  ⟨4,_,s4,m4,.cons (.one rfl rfl (.fn _ _ _ _ _ rfl rfl sq (g6.cons (.ptr 0 0 0 0 s0) (.cons (.ptr 1 1 0 0 s1) (.cons (.ptr 2 2 0 0 s2) (.cons (.ptr 3 3 0 0 s3) (.cons (.ptr 4 4 0 0 s4) .nil))))).2)) .nil⟩,
  ⟨5,_,s5,m5,by rw[he];exact Lz L⟩,⟨rid,_,sr,mr,hx⟩,hr⟩
def vQ(A B:List Nd)(L:List Mt):AV->aQ->Nat->Prop:=λr m k=>r = .tup []/\m=dM A B L 7 []/\k=8
def Hx(A B:List Nd)(f:Nat):Prop:=∀(o n:Nat) (L:List Mt),o<f->o<A.length->n<B.length->vI A.length B.length L ->
 aJ prog gz 101 [.agg [.int .i64 o,.int .i64 n],.ptr 0 0 0,.ptr 1 0 0,.ptr 2 0 0,.ptr 3 0 0,.ptr 4 0 0] (dM A B L 6 []) 7 (vQ A B (iI A B f o n L))
theorem GX{G β:Type}{l:List G}{m:List β}{k:Nat}{a:G}{b:β}(h1:l[k]? = some a)(h2:m[k]? = some b):(l.zip m)[k]? = some (a,b):=by
 rw[aAk];exact⟨h1,h2⟩
theorem Az{A B:List Nd}{f:Nat}{ps:List (Nat × Nat)}{k q w:Nat}{L1 Lk:List Mt}(hpk:ps[k]? = some (q,w))(hLk:Lk=(ps.take k).foldl (λL p=>iI A B f p.1 p.2 L) L1):iI A B f q w Lk=(ps.take (k+1)).foldl (λL p=>iI A B f p.1 p.2 L) L1:=by
 obtain⟨h1,h2⟩:=Y0.1 hpk;rw[List.take_succ_eq_append_getElem h1,Zz,<-hLk,h2];rfl
theorem UF{A B:List Nd}{f:Nat}(ih:Hx A B f){o n:Nat}{L:List Mt}(h1:o<f)(h2:o<A.length)(h3:n<B.length)(h4:vI A.length B.length L){mem:aQ}{nx:Nat}{K:AV->aQ->Nat->Prop}
  (hp:kC [0,1,2,3,4,5,7] mem=dM A B L 7 []) (hc:∀L':List Mt,(kG (dM A B L' nx []) && (kV [(0,0),(1,1),(2,2),(3,3),(4,4),(5,5),(7,nx)] && (Nat.ble nx (nx+1) && (mG [0,1,2,3,4,5,7] nx (dM A B L' nx []) && rL [(0,0),(1,1),(2,2),(3,3),(4,4),(5,5),(7,6)] 7 nx (nx+1) [(0,0),(1,1),(2,2),(3,3),(4,4),(5,5),(7,nx)]))))=true)
  (hk:K (.tup []) (dM A B (iI A B f o n L) nx []++gZ [0,1,2,3,4,5,7] mem) (nx+1)) :
  aJ prog gz 101 [.agg [.int .i64 o,.int .i64 n],.ptr 0 0 0,.ptr 1 0 0,.ptr 2 0 0,.ptr 3 0 0,.ptr 4 0 0] mem nx K:=by
 refine aJ.useN fQ [(0,0),(1,1),(2,2),(3,3),(4,4),(5,5),(7,6)] (ih o n L h1 h2 h3 h4) hp (.s (.cons (.ptr 0 0 0 0 rfl) (.cons (.ptr 1 1 0 0 rfl) (.cons (.ptr 2 2 0 0 rfl) (.cons (.ptr 3 3 0 0 rfl) (.cons (.ptr 4 4 0 0 rfl) .nil))))))
  (g8 (rid:=7) rfl rfl rfl rfl rfl rfl rfl rfl rfl rfl rfl rfl rfl rfl rfl rfl (.same (eB _)) trivial) (by rfl) ?_
 rintro r m k ⟨rfl,rfl,rfl⟩;exact⟨[(0,0),(1,1),(2,2),(3,3),(4,4),(5,5),(7,nx)],.tup [],dM A B (iI A B f o n L) nx [],nx+1,.same _ nn,g8 (rid:=7) rfl rfl rfl rfl rfl rfl rfl rfl rfl rfl rfl rfl rfl rfl rfl rfl (.same (eB _)) trivial,hc _,hk⟩
theorem WD{A B:List Nd}{f:Nat}(ih:Hx A B f){o n:Nat}{L:List Mt}(h1:o<f)(h2:o<A.length)(h3:n<B.length)(h4:vI A.length B.length L){mem m1:aQ}{nx:Nat}(rid:Nat){K:AV->aQ->Nat->Prop}
  (hp:kC [0,1,2,3,4,5,rid] mem=m1) (hM:cO m1 [(0,0),(1,1),(2,2),(3,3),(4,4),(5,5),(rid,6)] (dM A B L 6 [])) (hs:lk [(0,0),(1,1),(2,2),(3,3),(4,4),(5,5),(rid,6)] 4=some 4)
  (hc0:(kG (dM A B L 6 []) && (kV [(0,0),(1,1),(2,2),(3,3),(4,4),(5,5),(rid,6)] && pU 7 [(0,0),(1,1),(2,2),(3,3),(4,4),(5,5),(rid,6)]))=true)
  (hc:∀L':List Mt,(kG (dM A B L' nx []) && (kV [(0,0),(1,1),(2,2),(3,3),(4,4),(5,5),(7,nx)] && (Nat.ble nx (nx+1) && (mG [0,1,2,3,4,5,rid] nx (dM A B L' nx []) && rL [(0,0),(1,1),(2,2),(3,3),(4,4),(5,5),(rid,6)] 7 nx (nx+1) [(0,0),(1,1),(2,2),(3,3),(4,4),(5,5),(7,nx)]))))=true)
  (hk:K (.tup []) (dM A B (iI A B f o n L) nx []++gZ [0,1,2,3,4,5,rid] mem) (nx+1)) :
  aJ prog gz 101 [.agg [.int .i64 o,.int .i64 n],.ptr 0 0 0,.ptr 1 0 0,.ptr 2 0 0,.ptr 3 0 0,.ptr 4 0 0] mem nx K:=by
 refine aJ.useN fQ [(0,0),(1,1),(2,2),(3,3),(4,4),(5,5),(rid,6)] (ih o n L h1 h2 h3 h4) hp (.s (.cons (.ptr 0 0 0 0 rfl) (.cons (.ptr 1 1 0 0 rfl) (.cons (.ptr 2 2 0 0 rfl) (.cons (.ptr 3 3 0 0 rfl) (.cons (.ptr 4 4 0 0 rfl) .nil))))))
  hM hc0 ?_
 rintro r m k ⟨rfl,rfl,rfl⟩;exact⟨[(0,0),(1,1),(2,2),(3,3),(4,4),(5,5),(7,nx)],.tup [],dM A B (iI A B f o n L) nx [],nx+1,.same _ nn,g8 (rid:=7) rfl rfl rfl rfl rfl rfl rfl rfl rfl rfl rfl rfl rfl rfl rfl rfl (.same (eB _)) trivial,hc _,hk⟩
theorem VC{A B:List Nd}(hA:eG A)(hB:eG B)(vA:cR A=0)(vB:cR B=0)(f:Nat)(ih:Hx A B f):Hx A B (f+1):=by
 intro o n L hof ho hn hI;have hx:=Yw ho;have hy:=Yw hn;have hp:=Gn hA hB vA vB hx hy;have gx:=goodT hA vA hx;have gy:=goodT hB vB hy;have hxm:=Y2 hx;have hym:=Y2 hy;have ex:(bC A)[((o:Nat):Int).toNat]? = some (cK A[o]):=by simp[i7,hx]
 have ey:(bC B)[((n:Nat):Int).toNat]? = some (cK B[n]):=by simp[i7,hy]
 have hCh:=QC A[o] B[n] gx.opt gy.opt (λs hs=>by have:=hA.lab _ hxm s hs;omega) (hB.llen _ hym) (by have:=hA.vlen _ hxm;omega) gy.srt gy.val (by have:=hB.vlen _ hym;omega);have hlk:=λ(mem:aQ) (id:Nat) (hm:lk mem id=some (.mapb (pS L)))=>Ue (o:=o) (n:=n) hm
 have hLl:=LO hA hB hI;have hvis:iI A B (f+1) o n L=if iH L o n=true then L else(qY A[o] B[n]).foldl (λL p=>iI A B f p.1 p.2 L) (L++[Kb A[o] B[n] o n]):=by
  conv=>lhs;unfold iI
  rw[eA hx,eA hy]
 generalize iI A B (f+1) o n L=res at hvis |-;obtain⟨x,hxe⟩:∃x,x=A[o]:=⟨_,rfl⟩
 obtain⟨y,hye⟩:∃y,y=B[n]:=⟨_,rfl⟩
 rw[<-hxe] at ex hp gx hCh hvis hx;rw[<-hye] at ey hp gy hCh hvis hy;have hxn:=bH x;have hyn:=bH y;have hln:=@Gk x y;have hmt:Kb x y o n=⟨o,n,(rW x y).map (·.1),(rW x y).map (·.2)⟩:=rfl;have hpr:qY x y=if x.kind≠y.kind then [] else if x.kind=2 then(x.kids.zip (rW x y)).map (λp=>(p.1.toNat,bF y p.2.1)) else if x.kind=3 then(x.kids.zip y.kids).map (λp=>(p.1.toNat,p.2.toNat))
  else if x.kind=4 then(bF x 0,bF y 0)::((x.kids.drop 1).zip (rW x y)).map (λp=>(p.1.toNat,bF y (p.2.1+1))) else []:=rfl
 have h2r:=λ(a:x.kind=2/\y.kind=2) (k:Nat) (hk:k<x.kids.length)=>Pl a hk
 have h2in:=λ(a:x.kind=2) (b:y.kind=2) (k:Nat) (hk:k<x.kids.length)=>Fh (k:=k) gx.opt gy.opt a b hk
 have h4r:=λ(a:x.kind=4/\y.kind=4) (k:Nat) (v:bD) (hv:x.values[k]? = some v)=>QP a hv
 have hvy:=λ(e:y.kind=4)=>A9 hB.ok vB hy e
 generalize rW x y=ch at h4r hCh hln hmt hpr h2r;generalize qY x y=ps at hp hvis hpr;clear hx hy hxm hym hxe hye;refine aG fQ func101 rfl ?_;refine Z ?_;refine aC (hlk _ _ rfl) ?_;cases hin:iH L o n with
 | true=>
  rw[Y4 hin] at hvis;rw[hvis];refine Z ?_;exact bM (n':=8) (m':=dM A B L 7 []) [(0,0),(1,1),(2,2),(3,3),(4,4),(5,5),(6,7)] rfl (g8 (rid:=6) rfl rfl rfl rfl rfl rfl rfl rfl rfl rfl rfl rfl rfl rfl rfl rfl (.same (eB _)) trivial) (.same _ nn) ⟨rfl,rfl,rfl⟩
 | false=>
  rw[Yz (by rw[hin];simp)] at hvis;refine Z ?_;refine aC (Gl L 0 hin) ?_;refine Z ?_;refine gM.2 ?_;refine Z ?_;repeat((first|refine aC ex ?_|refine aC ey ?_|refine aY ?_);refine Z ?_)
  refine hCh.use fQ (.cons (.ip' hxn) (.cons (.ip' hyn) .nil)) (.tup' (.cons (.il' (aT _)) (.cons (.il' (l9 _)) .nil))) ?_;refine Z ?_;refine aO (cP rfl rfl (by rw[oM]) (by simp;omega)) ?_;refine Rt ?_;rw[hmt] at hvis;have hL1:vI A.length B.length (L++[⟨o,n,ch.map (·.1),ch.map (·.2)⟩]):=H8 hI ho hn hin;obtain⟨L1,hL1e⟩:∃L1,L1=L++[(⟨o,n,ch.map (·.1),ch.map (·.2)⟩:Mt)]:=⟨_,rfl⟩
  have hrow:=KZ L ⟨o,n,ch.map (·.1),ch.map (·.2)⟩;have hsee:=Ku L ⟨o,n,ch.map (·.1),ch.map (·.2)⟩;have hlen1:L.length+1=L1.length:=by rw[hL1e];simp
  rw[<-hL1e] at hvis hL1 hrow hsee;have hk12:=gx.node.kind;have hkx:=gx.node.kids;have hky:=gy.node.kids;have hbx:=gx.node.bind;have hby:=gy.node.bind;have hklx:=gx.opt.klen;have hkly:=gy.opt.klen;clear hCh hlk gx gy ex ey;obtain⟨kind,name,lo,hi',ws,lbs,vals,kids,⟨vk,vn,vs,vks⟩⟩:=x;obtain⟨kind2,name2,lo2,hi2,ws2,lbs2,vals2,kids2,⟨vk2,vn2,vs2,vks2⟩⟩:=y;simp only at hln hpr h2r h2in h4r hvy hk12 hkx hky hbx hby hklx hkly;refine Rt ?_;by_cases hk:kind=kind2
  .subst hk;rw[Yz sq] at hpr;rw[show (kind != kind)=false by simp];refine Z ?_;by_cases k2:kind=2
   .subst k2;rw[Y4 rfl] at hpr;refine Z ?_;have hlc:=hln.1 ⟨rfl,rfl⟩;refine bI.at fQ (λp:Nat × List Mt=>p.1<=kids.length/\p.2=(ps.take p.1).foldl (λL p=>iI A B f p.1 p.2 L) L1/\vI A.length B.length p.2)
     (λp=>⟨[(5,.ptr 4 0 0),(7,.ptr 8 0 0),(9,.ip (cK ⟨2,name2,lo2,hi2,ws2,lbs2,vals2,kids2,.mk vk2 vn2 vs2 vks2⟩)),(65,.il 1 (aV kids)),(66,.int .i64 kids.length),(67,.int .i64 p.1)],
      dM A B p.2 7 [(8,.row 107 4 [.agg [.int .i64 o,.int .i64 n,.il 1 (aV (ch.map (·.1))),.il 1 (pF (ch.map (·.2)))]])],9,167⟩) (λp=>kids.length-p.1) (0,L1) [(0,0),(1,1),(2,2),(3,3),(4,4),(5,5),(22,7),(8,8)] ⟨sq,sq,hL1⟩
     (aK _ rfl (g8 (rid:=22) (by simp;omega) rfl rfl rfl rfl rfl rfl rfl rfl rfl rfl rfl rfl rfl hsee.symm rfl (.eq (eB _) hrow.symm) ⟨aI 8 (.cons (.agg' (.cons nn (.cons nn (.cons (.il' (aT _)) (.cons (.il' (l9 _)) .nil))))) .nil),trivial⟩) ⟨aN,aN,aP (.ip' hyn),aP (.il' (aT _)),⟨_,rfl,.int (by rw[aH])⟩,aF,trivial⟩) ?_
    rintro⟨k,Lk⟩ ⟨hk,hLk,hIk⟩;simp only at hk hLk hIk |-;refine Z ?_;refine aL (λhb=>?_) (λhb=>?_)
    .have hlt:k<kids.length:=su hb
     have e1:(aV kids)[((k:Nat):Int).toNat]? = some (.int .i64 kids[k]):=by simp[bK,Yw hlt]
     obtain⟨q0,q1⟩:=hkx k _ (Yw hlt);have hc:=h2r ⟨rfl,rfl⟩ k hlt;obtain⟨c0,c1⟩:=h2in rfl rfl k hlt;have hpk:ps[k]? = some (kids[k].toNat,bF ⟨2,name2,lo2,hi2,ws2,lbs2,vals2,kids2,.mk vk2 vn2 vs2 vks2⟩ (Al ⟨2,name,lo,hi',ws,lbs,vals,kids,.mk vk vn vs vks⟩ ⟨2,name2,lo2,hi2,ws2,lbs2,vals2,kids2,.mk vk2 vn2 vs2 vks2⟩ k).1):=by
      rw[hpr,ZT,GX (Yw hlt) hc];rfl
     generalize Al ⟨2,name,lo,hi',ws,lbs,vals,kids,.mk vk vn vs vks⟩ ⟨2,name2,lo2,hi2,ws2,lbs2,vals2,kids2,.mk vk2 vn2 vs2 vks2⟩ k=c at hc c0 c1 hpk;generalize kids[k]=q at e1 q0 q1 hpk;obtain⟨q,rfl⟩:=ZD q0;obtain⟨c1',c2⟩:=c;simp only at c0 c1 hpk;obtain⟨cn,rfl⟩:=ZD c0;have e2:(aV (ch.map (·.1)))[((k:Nat):Int).toNat]? = some (.int .i64 (cn:Int)):=by simp[bK,ZT,hc]
     have hcl:cn<kids2.length:=om;have e3:(aV kids2)[((cn:Nat):Int).toNat]? = some (.int .i64 kids2[cn]):=by simp[bK,Yw hcl]
     obtain⟨w0,w1⟩:=hky cn _ (Yw hcl);have hka:bF ⟨2,name2,lo2,hi2,ws2,lbs2,vals2,kids2,.mk vk2 vn2 vs2 vks2⟩ cn=kids2[cn].toNat:=by unfold bF;rw[Yx,Yy,Yw hcl];rfl
     rw[hka] at hpk;generalize kids2[cn]=w at e3 w0 w1 hpk;obtain⟨w,rfl⟩:=ZD w0;simp only[Yy] at hpk;have hpb:=hp _ (Y2 hpk);simp only at hpb;have hnx:=Az hpk hLk;refine Z ?_;refine aC e1 ?_;refine Z ?_;repeat((first|refine aC e2 ?_|refine aC e3 ?_|refine aY ?_);refine Z ?_)
     refine UF ih om om om hIk (by rfl) (λ_=>by rfl) ?_;refine Rt ?_;exact .mk (k+1,iI A B f q w Lk) [(0,0),(1,1),(2,2),(3,3),(4,4),(5,5),(24,7),(8,8)] ⟨by simp only;omega,hnx,vX hA hB vA vB f q w Lk om om hIk⟩
      (aK _ rfl (g8 (rid:=24) rfl rfl rfl rfl rfl rfl rfl rfl rfl rfl rfl rfl rfl rfl rfl rfl (.same (eB _)) ⟨aI 8 (.cons (.agg' (.cons nn (.cons nn (.cons (.il' (aT _)) (.cons (.il' (l9 _)) .nil))))) .nil),trivial⟩) ⟨aN,aN,aP (.ip' hyn),aP (.il' (aT _)),aF,⟨_,rfl,.wp⟩,trivial⟩) (by simp only;omega)
    .have hlt:k=kids.length:=by simp at hb;omega
     have hpl:ps.length<=k:=by rw[hpr];simp;omega
     rw[Y9 hpl,<-hvis] at hLk;subst hLk;refine Z ?_;exact bM (n':=8) (m':=dM A B Lk 7 []) [(0,0),(1,1),(2,2),(3,3),(4,4),(5,5),(7,7)] rfl (g8 (rid:=7) rfl rfl rfl rfl rfl rfl rfl rfl rfl rfl rfl rfl rfl rfl rfl rfl (.same (eB _)) trivial) (.same _ nn) ⟨rfl,rfl,rfl⟩
   .rw[Yz k2] at hpr;rw[show (kind == 2)=false by simpa using k2];refine Z ?_;by_cases k3:kind=3
    .subst k3;rw[Y4 rfl] at hpr;refine Rt ?_;refine bI.at fQ (λp:Nat × List Mt=>p.1<=min kids.length kids2.length/\p.2=(ps.take p.1).foldl (λL p=>iI A B f p.1 p.2 L) L1/\vI A.length B.length p.2)
      (λp=>⟨[(5,.ptr 4 0 0),(8,.ip (cK ⟨3,name,lo,hi',ws,lbs,vals,kids,.mk vk vn vs vks⟩)),(9,.ip (cK ⟨3,name2,lo2,hi2,ws2,lbs2,vals2,kids2,.mk vk2 vn2 vs2 vks2⟩)),(100,.int .i64 (min kids.length kids2.length:Nat)),(101,.int .i64 p.1)],
       dM A B p.2 7 [],8,167⟩) (λp=>min kids.length kids2.length-p.1) (0,L1) [(0,0),(1,1),(2,2),(3,3),(4,4),(5,5),(22,7)] ⟨sq,sq,hL1⟩
      (aK _ rfl (g8 (rid:=22) (by simp;omega) rfl rfl rfl rfl rfl rfl rfl rfl rfl rfl rfl rfl rfl hsee.symm rfl (.eq (eB _) hrow.symm) trivial) ⟨aN,aP (.ip' hxn),aP (.ip' hyn),⟨_,rfl,.int (by simp only[aH];split<;>omega)⟩,aF,trivial⟩) ?_
     rintro⟨k,Lk⟩ ⟨hk,hLk,hIk⟩;simp only at hk hLk hIk |-;refine Z ?_;refine aL (λhb=>?_) (λhb=>?_)
     .have hlt:k<min kids.length kids2.length:=by simp at hb;omega
      have hl1:k<kids.length:=om;have hl2:k<kids2.length:=om;have e1:(aV kids)[((k:Nat):Int).toNat]? = some (.int .i64 kids[k]):=by simp[bK,Yw hl1]
      have e3:(aV kids2)[((k:Nat):Int).toNat]? = some (.int .i64 kids2[k]):=by simp[bK,Yw hl2]
      obtain⟨q0,q1⟩:=hkx k _ (Yw hl1);obtain⟨w0,w1⟩:=hky k _ (Yw hl2);have hpk:ps[k]? = some (kids[k].toNat,kids2[k].toNat):=by
       rw[hpr,ZT,GX (Yw hl1) (Yw hl2)];rfl
      generalize kids[k]=q at e1 q0 q1 hpk;generalize kids2[k]=w at e3 w0 w1 hpk;obtain⟨q,rfl⟩:=ZD q0;obtain⟨w,rfl⟩:=ZD w0;simp only[Yy] at hpk;have hnx:=Az hpk hLk;refine Z ?_;repeat((first|refine aC e1 ?_|refine aC e3 ?_|refine aY ?_);refine Z ?_)
      refine UF ih om om om hIk (by rfl) (λ_=>by rfl) ?_;refine Rt ?_;exact .mk (k+1,iI A B f q w Lk) [(0,0),(1,1),(2,2),(3,3),(4,4),(5,5),(25,7)] ⟨by simp only;omega,hnx,vX hA hB vA vB f q w Lk om om hIk⟩
       (aK _ rfl (g8 (rid:=25) rfl rfl rfl rfl rfl rfl rfl rfl rfl rfl rfl rfl rfl rfl rfl rfl (.same (eB _)) trivial) ⟨aN,aP (.ip' hxn),aP (.ip' hyn),aF,⟨_,rfl,.wp⟩,trivial⟩) (by simp only;omega)
     .have hlt:k=min kids.length kids2.length:=by simp at hb;omega
      have hpl:ps.length<=k:=by rw[hpr];simp;omega
      rw[Y9 hpl,<-hvis] at hLk;subst hLk;refine Z ?_;exact bM (n':=8) (m':=dM A B Lk 7 []) [(0,0),(1,1),(2,2),(3,3),(4,4),(5,5),(7,7)] rfl (g8 (rid:=7) rfl rfl rfl rfl rfl rfl rfl rfl rfl rfl rfl rfl rfl rfl rfl rfl (.same (eB _)) trivial) (.same _ nn) ⟨rfl,rfl,rfl⟩
    .rw[Yz k3] at hpr;rw[show (kind == 3)=false by simpa using k3];refine Z ?_;by_cases k4:kind=4
     .subst k4;rw[Y4 rfl] at hpr;have hlx:0<kids.length:=by have:=hbx rfl;omega
      have hly:0<kids2.length:=by have:=hby rfl;omega
      have e1:(aV kids)[(0:Int).toNat]? = some (.int .i64 kids[0]):=by rw[show (0:Int).toNat=0 from rfl,bK,Yw hlx];rfl
      have e3:(aV kids2)[(0:Int).toNat]? = some (.int .i64 kids2[0]):=by rw[show (0:Int).toNat=0 from rfl,bK,Yw hly];rfl
      obtain⟨q0,q1⟩:=hkx 0 _ (Yw hlx);obtain⟨w0,w1⟩:=hky 0 _ (Yw hly);have hka1:bF ⟨4,name,lo,hi',ws,lbs,vals,kids,.mk vk vn vs vks⟩ 0=kids[0].toNat:=by unfold bF;rw[Yx,show (0:Int).toNat=0 from rfl,Yw hlx];rfl
      have hka2:bF ⟨4,name2,lo2,hi2,ws2,lbs2,vals2,kids2,.mk vk2 vn2 vs2 vks2⟩ 0=kids2[0].toNat:=by unfold bF;rw[Yx,show (0:Int).toNat=0 from rfl,Yw hly];rfl
      rw[hka1,hka2] at hpr;generalize kids[0]=q at e1 q0 q1 hpr;generalize kids2[0]=w at e3 w0 w1 hpr;obtain⟨q,rfl⟩:=ZD q0;obtain⟨w,rfl⟩:=ZD w0;simp only[Yy] at hpr;have hI2:=vX hA hB vA vB f q w L1 om om hL1;rw[hpr,ZY] at hvis;refine Z ?_;repeat((first|refine aC e1 ?_|refine aC e3 ?_|refine aY ?_);refine Z ?_)
      refine WD ih (L:=L1) om om om hL1 22 (by rfl) (g8 (rid:=22) hlen1 rfl rfl rfl rfl rfl rfl rfl rfl rfl rfl rfl rfl rfl hsee.symm rfl (.eq (eB _) hrow.symm) trivial) (by rfl) (by rfl) (λ_=>by rfl) ?_;refine Rt ?_;refine aO (bQ (Y3 (by rw[aH];simp;omega)) (bQ (Y3 (Y8 _)) (Y3 (Y8 _)))) ?_;have ed:List.take ((aV kids).length-Int.toNat 1) (List.drop (Int.toNat 1) (aV kids))=aV (kids.drop 1):=by
       rw[Y9 sq];simp[aV]
      rw[ed];obtain⟨kr,hkr⟩:∃kr,kr=kids.drop 1:=⟨_,rfl⟩
      rw[<-hkr] at hvis hpr |-;have hkrl:kr.length=vals.length:=by rw[hkr,aAG];have:=hbx rfl;omega
      have hkrx:∀(j:Nat) (k:Int),kr[j]? = some k->0<=k/\k<o:=λj k hj=>by
       rw[hkr,ZS] at hj;exact hkx _ k hj
      have h4r:=h4r ⟨rfl,rfl⟩;have hvy:=hvy rfl;have hby:=hby rfl;have hlc:=hln.2 ⟨rfl,rfl⟩;have hpq:=λp (h:p∈(kr.zip ch).map (λp=>(p.1.toNat,bF ⟨4,name2,lo2,hi2,ws2,lbs2,vals2,kids2,.mk vk2 vn2 vs2 vks2⟩ (p.2.1+1))))=>hp p (by rw[hpr];exact ZE _ h)
      clear hp hpr;generalize hps:(kr.zip ch).map (λp=>(p.1.toNat,bF ⟨4,name2,lo2,hi2,ws2,lbs2,vals2,kids2,.mk vk2 vn2 vs2 vks2⟩ (p.2.1+1)))=ps2 at hvis hpq;refine Z ?_;generalize iI A B f q w L1=L2 at hI2 hvis |-;refine bI.at fQ (λp:Nat × List Mt=>p.1<=kr.length/\p.2=(ps2.take p.1).foldl (λL p=>iI A B f p.1 p.2 L) L2/\vI A.length B.length p.2)
       (λp=>⟨[(5,.ptr 4 0 0),(7,.ptr 8 0 0),(9,.ip (cK ⟨4,name2,lo2,hi2,ws2,lbs2,vals2,kids2,.mk vk2 vn2 vs2 vks2⟩)),(143,.il 1 (aV kr)),(144,.int .i64 kr.length),(145,.int .i64 p.1)],
        dM A B p.2 7 [(8,.row 107 4 [.agg [.int .i64 o,.int .i64 n,.il 1 (aV (ch.map (·.1))),.il 1 (pF (ch.map (·.2)))]])],9,167⟩) (λp=>kr.length-p.1) (0,L2) [(0,0),(1,1),(2,2),(3,3),(4,4),(5,5),(47,7),(8,8)] ⟨sq,sq,hI2⟩
       (aK _ rfl (g8 (rid:=47) rfl rfl rfl rfl rfl rfl rfl rfl rfl rfl rfl rfl rfl rfl rfl rfl (.same (eB _)) ⟨aI 8 (.cons (.agg' (.cons nn (.cons nn (.cons (.il' (aT _)) (.cons (.il' (l9 _)) .nil))))) .nil),trivial⟩) ⟨aN,aN,aP (.ip' hyn),aP (.il' (aT _)),⟨_,rfl,.int (by rw[aH])⟩,aF,trivial⟩) ?_
      rintro⟨k,Lk⟩ ⟨hk,hLk,hIk⟩;simp only at hk hLk hIk |-;refine Z ?_;refine aL (λhb=>?_) (λhb=>?_)
      .have hlt:k<kr.length:=su hb
       have e1:(aV kr)[((k:Nat):Int).toNat]? = some (.int .i64 kr[k]):=by simp[bK,Yw hlt]
       obtain⟨q0,q1⟩:=hkrx k _ (Yw hlt);have hc:=h4r k _ (Yw (show k<vals.length by omega));have hnr:=DV (l:=vals2) vals[k] om;unfold Ap at hc;have hpk:ps2[k]? = some (kr[k].toNat,bF ⟨4,name2,lo2,hi2,ws2,lbs2,vals2,kids2,.mk vk2 vn2 vs2 vks2⟩ (((kJ vals2 vals[k]).1:Int)+1)):=by
        rw[<-hps,ZT,GX (Yw hlt) hc];rfl
       generalize kJ vals2 vals[k]=c at hc hnr hpk;generalize kr[k]=q at e1 q0 q1 hpk;obtain⟨q,rfl⟩:=ZD q0;obtain⟨cn,c2⟩:=c;simp only at hnr hpk;have e2:(aV (ch.map (·.1)))[((k:Nat):Int).toNat]? = some (.int .i64 (cn:Int)):=by simp[bK,ZT,hc]
       have hcl:cn+1<kids2.length:=om;have hw:IntKind.i64.wrap ((cn:Int)+1)=((cn+1:Nat):Int):=w64 om oq;have e3:(aV kids2)[((cn+1:Nat):Int).toNat]? = some (.int .i64 kids2[cn+1]):=by rw[Yy,bK,Yw hcl];rfl
       obtain⟨w0,w1⟩:=hky (cn+1) _ (Yw hcl);have hka:bF ⟨4,name2,lo2,hi2,ws2,lbs2,vals2,kids2,.mk vk2 vn2 vs2 vks2⟩ ((cn:Int)+1)=kids2[cn+1].toNat:=by
        unfold bF;rw[Yx,show ((cn:Int)+1).toNat=cn+1 by omega,Yw hcl];rfl
       rw[hka] at hpk;generalize kids2[cn+1]=w at e3 w0 w1 hpk;obtain⟨w,rfl⟩:=ZD w0;simp only[Yy] at hpk;have hnx:=Az hpk hLk;refine Z ?_;refine aC e1 ?_;refine Z ?_;repeat((first|refine aC e2 ?_|refine aC e3 ?_|refine aY ?_);refine Z ?_)
       rw[hw];refine Z ?_;repeat((first|refine aC e2 ?_|refine aC e3 ?_|refine aY ?_);refine Z ?_)
       refine UF ih om om om hIk (by rfl) (λ_=>by rfl) ?_;refine Rt ?_;exact .mk (k+1,iI A B f q w Lk) [(0,0),(1,1),(2,2),(3,3),(4,4),(5,5),(25,7),(8,8)] ⟨by simp only;omega,hnx,vX hA hB vA vB f q w Lk om om hIk⟩
        (aK _ rfl (g8 (rid:=25) rfl rfl rfl rfl rfl rfl rfl rfl rfl rfl rfl rfl rfl rfl rfl rfl (.same (eB _)) ⟨aI 8 (.cons (.agg' (.cons nn (.cons nn (.cons (.il' (aT _)) (.cons (.il' (l9 _)) .nil))))) .nil),trivial⟩) ⟨aN,aN,aP (.ip' hyn),aP (.il' (aT _)),aF,⟨_,rfl,.wp⟩,trivial⟩) (by simp only;omega)
      .have hlt:k=kr.length:=by simp at hb;omega
       have hpl:ps2.length<=k:=by rw[<-hps];simp;omega
       rw[Y9 hpl,<-hvis] at hLk;subst hLk;refine Z ?_;exact bM (n':=8) (m':=dM A B Lk 7 []) [(0,0),(1,1),(2,2),(3,3),(4,4),(5,5),(7,7)] rfl (g8 (rid:=7) rfl rfl rfl rfl rfl rfl rfl rfl rfl rfl rfl rfl rfl rfl rfl rfl (.same (eB _)) trivial) (.same _ nn) ⟨rfl,rfl,rfl⟩
     .rw[Yz k4] at hpr;rw[show (kind == 4)=false by simpa using k4];refine Z ?_;rw[hpr,aB2] at hvis;rw[hvis];exact bM (n':=8) (m':=dM A B L1 7 []) [(0,0),(1,1),(2,2),(3,3),(4,4),(5,5),(22,7)] rfl (g8 (rid:=22) (by simp;omega) rfl rfl rfl rfl rfl rfl rfl rfl rfl rfl rfl rfl rfl hsee.symm rfl (.eq (eB _) hrow.symm) trivial) (.same _ nn) ⟨rfl,rfl,rfl⟩
  .rw[Y4 hk] at hpr;rw[show (kind != kind2)=true by simpa using hk];refine Z ?_;rw[hpr,aB2] at hvis;rw[hvis];exact bM (n':=8) (m':=dM A B L1 7 []) [(0,0),(1,1),(2,2),(3,3),(4,4),(5,5),(22,7)] rfl (g8 (rid:=22) (by simp;omega) rfl rfl rfl rfl rfl rfl rfl rfl rfl rfl rfl rfl rfl hsee.symm rfl (.eq (eB _) hrow.symm) trivial) (.same _ nn) ⟨rfl,rfl,rfl⟩
theorem MM{A B:List Nd}(hA:eG A)(hB:eG B)(vA:cR A=0)(vB:cR B=0):∀f,Hx A B f
 | 0=>λo n L h=>absurd h om
 | f+1=>VC hA hB vA vB f (MM hA hB vA vB f)
theorem qH(A:List Nd):NN (.agg [.il 12 (bC A)]):=.agg' (.cons (.il' (bA _)) .nil)
theorem V7{A B:List Nd}(hA:eG A)(hB:eG B):aX prog gz 44 [.agg [.il 12 (bC A)],.agg [.il 12 (bC B)]] (.il 4 (oD (qG A B))):=by
 have hUA:=CF A hA;have hUB:=CF B hB;have hpa:=@jX A;have hpb:=@jX B;have hd:qG A B=if dU A=true/\dU B=true then iI A B A.length (A.length-1) (B.length-1) [] else []:=rfl
 have hVis:=λ(vA:cR A=0) (vB:cR B=0)=>MM hA hB vA vB A.length
 generalize qG A B=res at hd |-;generalize dU A=ua at hUA hpa hd;generalize dU B=ub at hUB hpb hd;refine aG fQ func44 rfl ?_;refine Z ?_;refine hUA.goG ?_ (.cons (qH A) .nil);cases ua with
 | false=>
  refine Z ?_;rw[hd];exact cW (r':=.il 4 (oD [])) (.nil 4) ⟨sq,rfl,rfl⟩
 | true=>
  refine Z ?_;refine hUB.goG ?_ (.cons (qH B) .nil);cases ub with
  | false=>
   refine Z ?_;rw[hd];exact cW (r':=.il 4 (oD [])) (.nil 4) ⟨sq,rfl,rfl⟩
  | true=>
   rw[Y4 ⟨rfl,rfl⟩] at hd;obtain⟨a1,a2⟩:=hpa rfl;obtain⟨b1,b2⟩:=hpb rfl;have hV:=hVis a2 b2 (A.length-1) (B.length-1) [] om om om (Lu _ _);rw[<-hd] at hV;have w1:IntKind.i64.wrap (((bC A).length:Int)-1)=((A.length-1:Nat):Int):=w64 (by rw[bW];omega) ⟨by have:=hA.len;omega,by have:=hA.len;omega⟩;have w2:IntKind.i64.wrap (((bC B).length:Int)-1)=((B.length-1:Nat):Int):=w64 (by rw[bW];omega) ⟨by have:=hB.len;omega,by have:=hB.len;omega⟩;refine Z ?_;rw[w1,w2];refine aJ.ph 107 4 ?_;unfold vQ at hV;refine aJ.useN fQ [(4,0),(0,1),(1,2),(2,3),(5,4),(3,5),(6,6)] hV (by rfl) (.s (.cons (.ptr 4 0 0 0 rfl) (.cons (.ptr 0 1 0 0 rfl) (.cons (.ptr 1 2 0 0 rfl) (.cons (.ptr 2 3 0 0 rfl) (.cons (.ptr 5 4 0 0 rfl) .nil))))))
    ⟨⟨4,_,rfl,rfl,.cons (.one rfl rfl (.mp 3 5 rfl)) .nil⟩,⟨0,_,rfl,rfl,nT A⟩,⟨1,_,rfl,rfl,nT B⟩,⟨2,_,rfl,rfl,.cons (.one rfl rfl (.nslk 6 6 _ rfl rfl)) .nil⟩,
     ⟨5,_,rfl,rfl,.cons (.one rfl rfl (.fn _ [] [] [.ptr 4 0 0,.ptr 0 0 0,.ptr 1 0 0,.ptr 2 0 0,.ptr 5 0 0] [.ptr 0 0 0,.ptr 1 0 0,.ptr 2 0 0,.ptr 3 0 0,.ptr 4 0 0] rfl rfl sq (g6.cons (.ptr 4 0 0 0 rfl) (.cons (.ptr 0 1 0 0 rfl) (.cons (.ptr 1 2 0 0 rfl) (.cons (.ptr 2 3 0 0 rfl) (.cons (.ptr 5 4 0 0 rfl) .nil))))).2)) .nil⟩,
     ⟨3,_,rfl,rfl,Lz []⟩,aI 6 .nil,trivial⟩ (by rfl) ?_
   rintro r m k ⟨rfl,rfl,rfl⟩;refine⟨[(3,2),(7,7)],.tup [],[(2,.row 103 1 [.sl 7 0 res.length]),(7,.row 107 4 (oD res))],8,.same _ nn,⟨⟨3,_,rfl,rfl,.cons (.one rfl rfl (.sl 7 7 0 _ rfl)) .nil⟩,aI 7 (eB _),trivial⟩,by rfl, ?_⟩;refine Z ?_;exact cW (r':=.il 4 (oD res)) (.fz' (id:=7) rfl rfl (by rw[oM];omega) (by rw[ZU];exact Y9 (by rw[oM];omega)) (eB _)) ⟨rfl,rfl,rfl⟩
theorem cG{A:List Nd}{i:Nat}(h:i<A.length):A[i]? = some (aD A i):=by
 have:=Yw h;rw[eA this];exact this
theorem Hr{A B:List Nd}(hA:eG A)(hB:eG B):aX prog gz 13 [.agg [.il 12 (bC A)],.agg [.il 12 (bC B)]] (.int .i64 (eC A B)):=by
 have hUA:=CF A hA;have hUB:=CF B hB;have hD:=V7 hA hB;have hr:=Pf hA hB;have hl:=Qg hA hB;have hd:eC A B=if dU A=true/\dU B=true then Dr A B (qG A B) else if A.length=0/\B.length=0 then 0 else 1:=rfl
 generalize eC A B=res at hd |-;generalize qG A B=L at hD hr hl hd;generalize dU A=ua at hUA hd;generalize dU B=ub at hUB hd;have z1:(((bC A).length:Int) == 0)=decide (A.length=0):=by rw[bW,Ze];simp
 have z2:(((bC B).length:Int) == 0)=decide (B.length=0):=by rw[bW,Ze];simp
 refine aG fQ func13 rfl ?_;refine Z ?_;refine hUA.goG ?_ (.cons (qH A) .nil);cases ua with
 | false=>
  rw[Yz sq] at hd;refine Z ?_;rw[z1];by_cases e1:A.length=0
  .rw[Y7 e1];refine Z ?_;rw[z2];by_cases e2:B.length=0
   .rw[Y4 ⟨e1,e2⟩] at hd;rw[Y7 e2,hd];refine Z ?_;exact aA nn ⟨rfl,rfl,rfl⟩
   .rw[Yz (λh=>e2 h.2)] at hd;rw[ZN e2,hd];refine Z ?_;exact aA nn ⟨rfl,rfl,rfl⟩
  .rw[Yz (λh=>e1 h.1)] at hd;rw[ZN e1,hd];refine Z ?_;exact aA nn ⟨rfl,rfl,rfl⟩
 | true=>
  refine Z ?_;refine hUB.goG ?_ (.cons (qH B) .nil);cases ub with
  | false=>
   rw[Yz sq] at hd;refine Z ?_;rw[z1];by_cases e1:A.length=0
   .rw[Y7 e1];refine Z ?_;rw[z2];by_cases e2:B.length=0
    .rw[Y4 ⟨e1,e2⟩] at hd;rw[Y7 e2,hd];refine Z ?_;exact aA nn ⟨rfl,rfl,rfl⟩
    .rw[Yz (λh=>e2 h.2)] at hd;rw[ZN e2,hd];refine Z ?_;exact aA nn ⟨rfl,rfl,rfl⟩
   .rw[Yz (λh=>e1 h.1)] at hd;rw[ZN e1,hd];refine Z ?_;exact aA nn ⟨rfl,rfl,rfl⟩
  | true=>
   rw[Y4 ⟨rfl,rfl⟩] at hd;refine Z ?_;refine hD.use fQ (.cons (qH A) (.cons (qH B) .nil)) (.il' (eB _)) ?_;refine Z ?_;refine bI.at fQ (λk:Nat=>k<=L.length)
    (λk=>⟨[(2,.ptr 0 0 0),(3,.ptr 1 0 0),(5,.int .i64 (Dr A B (L.take k):Nat)),(28,.il 4 (oD L)),(29,.int .i64 L.length),(30,.int .i64 k)],
     [(0,.row 25 1 [.agg [.il 12 (bC A)]]),(1,.row 25 1 [.agg [.il 12 (bC B)]])],2,50⟩) (λk=>L.length-k) 0 [(0,0),(1,1)] sq
    (aK _ rfl ⟨⟨0,_,rfl,rfl,nT A⟩,⟨1,_,rfl,rfl,nT B⟩,trivial⟩ ⟨aN,aN,⟨_,rfl,.int (by simp[Dr])⟩,aP (.il' (eB _)),⟨_,rfl,.int (by rw[oM])⟩,aF,trivial⟩) ?_
   intro k hk;refine Z ?_;refine aL (λhb=>?_) (λhb=>?_)
   .have hlt:k<L.length:=su hb
    have hg:L[k]? = some L[k]:=Yw hlt;have em:(oD L)[((k:Nat):Int).toNat]? = some (O8 L[k]):=by simp[Mx,hg]
    have hm:=hr _ (ZW hlt);have hbs:=NT A B (L.take k) L[k];rw[<-List.take_succ_eq_append_getElem hlt] at hbs;have hble:=SQ A B (L.take k);have htl:(L.take k).length<=1000000:=by simp;omega
    generalize L[k]=m at em hm hbs;obtain⟨mo,mn,mp,ms⟩:=m;simp only at hm hbs;have hx:=cG hm.1;have hy:=cG hm.2;have ex:(bC A)[((mo:Nat):Int).toNat]? = some (cK (aD A mo)):=by simp[i7,hx]
    have ey:(bC B)[((mn:Nat):Int).toNat]? = some (cK (aD B mn)):=by simp[i7,hy]
    have hE:=Ud (aD A mo) (aD B mn) (hA.ok _ (Y2 hx)) (hB.ok _ (Y2 hy));generalize Dr A B (L.take k)=b0 at hbs hble |-;generalize aD A mo=x at ex hE hbs;generalize aD B mn=y at ey hE hbs;have hxn:=bH x;have hyn:=bH y;refine Z ?_;refine aC em ?_;refine Z ?_;repeat((first|refine aC ex ?_|refine aC ey ?_|refine aY ?_);refine Z ?_)
    refine hE.goG ?_ (.cons (.ip' hxn) (.cons (.ip' hyn) .nil));cases he:pJ x y with
    | true=>
     rw[Y4 he] at hbs;refine Rt ?_;exact .mk (k+1) [(0,0),(1,1)] om
      (aK _ rfl ⟨⟨0,_,rfl,rfl,nT A⟩,⟨1,_,rfl,rfl,nT B⟩,trivial⟩ ⟨aN,aN,⟨_,rfl,.int om⟩,aP (.il' (eB _)),aF,⟨_,rfl,.w64 om oq⟩,trivial⟩) om
    | false=>
     rw[Yz (by rw[he];simp)] at hbs;refine Rt ?_;exact .mk (k+1) [(0,0),(1,1)] om
      (aK _ rfl ⟨⟨0,_,rfl,rfl,nT A⟩,⟨1,_,rfl,rfl,nT B⟩,trivial⟩ ⟨aN,aN,⟨_,rfl,.w64 om oq⟩,aP (.il' (eB _)),aF,⟨_,rfl,.w64 om oq⟩,trivial⟩) om
   .have hlt:k=L.length:=by simp at hb;omega
    rw[hlt,ZJ,<-hd];refine Z ?_;exact aA nn ⟨rfl,rfl,rfl⟩
theorem TK{A B:List Nd}(hA:eG A)(hB:eG B):aX prog gz 12 [.agg [.il 12 (bC A)],.agg [.il 12 (bC B)]] (.bool (decide (eC A B=0))):=by
 have hC:=Hr hA hB;generalize eC A B=c at hC |-;refine aG fQ func12 rfl ?_;refine Z ?_;refine hC.use fQ (.cons (qH A) (.cons (qH B) .nil)) nn ?_;refine Z ?_;exact aA nn ⟨by congr 1;rw[Ze];simp,rfl,rfl⟩
def XZ(a b:bD):Bool:=cN a b == 0
theorem VF(a b:bD)(ho:iG a):aX prog [] 16 [bY a,bY b] (.bool (XZ a b)):=by
 have hC:=vF a b ho;unfold XZ;obtain⟨c,hc⟩:∃c,c=cN a b:=⟨_,rfl⟩
 rw[<-hc] at hC |-;clear hc;refine aG bJ func16 rfl ?_;obtain⟨a1,a2,a3,a4⟩:=a;obtain⟨b1,b2,b3,b4⟩:=b;refine Z ?_;refine hC.go ?_;refine Z ?_;exact aA (.bool _) ⟨rfl,rfl,rfl⟩
end Go.Proofs.YthggfhnnkclooaaGreatDoor
